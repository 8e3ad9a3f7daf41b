/- The law NatQuos: it returns true. -/
import Derived.Test.YthiogjpjkdnbjaaGreatDoorLawF
namespace Go.Proofs.YthiogjpjkdnbjaaGreatDoor
open Go.RowKit

theorem ret_radd' {a b : ByteArray} (ha : a.size ≤ 1000) (hb : b.size ≤ 1000) {n : Nat} (h : sval a + sval b = n) : Ret 15 #[.string a, .string b] (.string (natS n)) := fun W => h ▸ rAdd a b W (by omega) (by omega)
theorem sub_pair (m n : Nat) : ∃ (x : ByteArray) (p : Bool), subRes m n = .tuple #[.string x, .bool p] ∧ (∀ k, m < P8 k → x.size ≤ k) := by
  unfold subRes
  split
  · exact ⟨_, _, rfl, fun k h => natS_size (Nat.lt_of_le_of_lt (Nat.sub_le _ _) h)⟩
  · exact ⟨_, _, rfl, fun k h => Nat.zero_le _⟩
theorem quo_triple (m n : Nat) : ∃ (x y : ByteArray) (p : Bool), quoRes m n = .tuple #[.string x, .string y, .bool p] := by
  unfold quoRes
  split
  · exact ⟨_, _, _, rfl⟩
  · exact ⟨_, _, _, rfl⟩

/-- A slice of strings, new: only what is asked of it is kept. -/
theorem cells_new {P : Program} {code : Code} {Q : Exit → Act → World → Prop} {act : Act} {w0 W : World} {t : TypeId} {cells : Array Value} (ss : List ByteArray) (k : Nat) (hc : cells = (ss.map Value.string).toArray) (hk : ss.length = k) (hs : ∀ v ∈ ss, v.size ≤ 1000) (hB : Below w0.heap.size w0 W)
    (h : ∀ (w5 : World) (tt : List ByteArray), tt.length = k → (∀ v ∈ tt, v.size ≤ 1000) → Blk w5 W.heap.size t (tt.map Value.string).toArray → Below w0.heap.size w0 w5 → code.wp P Q act w5) :
    code.wp P Q act (W.alloc (.cells cells t)) := by
  subst hc
  exact h _ ss hk hs (Blk.new _ _ _) (below_al hB _)

set_option maxRecDepth 100000 in
set_option maxHeartbeats 2000000 in
theorem NatQuos_any (A : Option Addr) (n c : Nat) (l : List UInt8) (B : Option Addr) (m d : Nat) (k : List UInt8) (z : Nat) (w : World) (ht : Pow10 w) (hx : BDg w A n c l) (hy : BDg w B m d k)
    (hn : n ≤ 9223372036854775807) (hm : m ≤ 9223372036854775807) (hz : z ≤ 255) :
    Calls Tryz.prog 3 #[.slice A n c, .slice B m d, .int .u8 (z : Int)] w fun e w' => e = .returned (.bool true) ∧ Below w.heap.size w w' := by
  have HT := Lib.hid ht
  clear ht
  obtain ⟨a, hae⟩ : ∃ a, a = madeS l := ⟨_, rfl⟩
  obtain ⟨b, hbe⟩ : ∃ b, b = madeS k := ⟨_, rfl⟩
  have ha : a.size ≤ 40 := by rw [hae]; exact madeS_size l
  have hb : b.size ≤ 40 := by rw [hbe]; exact madeS_size k
  have hva := sval_le ha
  have hvb := sval_le hb
  have HMA : Hid (∀ W, Below w.heap.size w W → Calls Tryz.prog 14 #[.slice A n c] W fun e w' => e = .returned (.string a) ∧ W = w') := Lib.hid (fun W hW => hae ▸ rMade A n c l W (hx.below hW) hn)
  have HMB : Hid (∀ W, Below w.heap.size w W → Calls Tryz.prog 14 #[.slice B m d] W fun e w' => e = .returned (.string b) ∧ W = w') := Lib.hid (fun W hW => hbe ▸ rMade B m d k W (hy.below hW) hm)
  have hM := P8_prod hva hvb
  have sM := natS_sz hM (by omega)
  have hzl : z < P8 80 := Nat.lt_of_lt_of_le (show z < P8 1 by show z < 256; omega) (P8_mono (by omega))
  have sZ := natS_sz hzl (by omega)
  have hS := P8_sum hM hzl
  have sS := natS_sz hS (by omega)
  have H1 : Hid (Ret 16 #[.string a, .string b] (.string (natS (sval a * sval b)))) := Lib.hid (fun W => rMul a b W (by omega) (by omega))
  have H2 : Hid (Ret 17 #[.int .i64 (z : Int)] (.string (natS z))) := Lib.hid (fun W => by have := rOf (z : Int) W (by omega); rwa [Int.toNat_natCast] at this)
  have H3 := Lib.hid (ret_radd' sM sZ (n := sval a * sval b + z) (by rw [sval_natS, sval_natS]))
  obtain ⟨lo, lp, hlo, hls⟩ := sub_pair (sval a * sval b) z
  have sL : lo.size ≤ 1000 := Nat.le_trans (hls _ hM) (by omega)
  have H4 : Hid (Ret 18 #[.string (natS (sval a * sval b)), .string (natS z)] (.tuple #[.string lo, .bool lp])) := Lib.hid (fun W => by
    have := rSub (natS (sval a * sval b)) (natS z) W (by omega) (by omega)
    rw [sval_natS, sval_natS, hlo] at this
    exact this)
  have HQ : Hid (∀ u v : ByteArray, u.size ≤ 1000 → v.size ≤ 1000 → ∃ (x y : ByteArray) (p : Bool), Ret 19 #[.string u, .string v] (.tuple #[.string x, .string y, .bool p]) ∧ Ret 20 #[.string u, .string v] (.tuple #[.string x, .string y, .bool p])) := Lib.hid (fun u v hu hv => by
    obtain ⟨x, y, p, h⟩ := quo_triple (sval u) (sval v)
    exact ⟨x, y, p, fun W => h ▸ Quo_any u v W (by omega) (by omega), fun W => h ▸ rQuo u v W (by omega) (by omega)⟩)
  clear hae hbe hva hvb hM hzl hS hlo hls
  generalize natS (sval a * sval b + z) = tS at *
  generalize natS (sval a * sval b) = tM at *
  generalize natS z = tZ at *
  have hB := Below.refl w.heap.size w
  go_enter Tryz.func3, Tryz.ntmps3
  go_wp2_with (first
    | (go_at_call 13; (with_reducible refine (sanity_any _ (HT.out.below hB)).mono ?_); rintro e w' ⟨rfl, hb''⟩; replace hB := below_then hB hb''; clear hb'')
    | (go_at_call 14; (with_reducible refine (HMA.out _ hB).mono ?_); rintro e w' ⟨rfl, rfl⟩)
    | (go_at_call 14; (with_reducible refine (HMB.out _ hB).mono ?_); rintro e w' ⟨rfl, rfl⟩)
    | (go_at_call 16; (with_reducible refine (H1.out _).mono ?_); rintro e w' ⟨rfl, hb''⟩; replace hB := below_then hB hb''; clear hb'')
    | (go_at_call 17; (with_reducible refine (H2.out _).mono ?_); rintro e w' ⟨rfl, hb''⟩; replace hB := below_then hB hb''; clear hb'')
    | (go_at_call 15; (with_reducible refine (H3.out _).mono ?_); rintro e w' ⟨rfl, hb''⟩; replace hB := below_then hB hb''; clear hb'')
    | (go_at_call 18; (with_reducible refine (H4.out _).mono ?_); rintro e w' ⟨rfl, hb''⟩; replace hB := below_then hB hb''; clear hb''))
  refine cells_new (w0 := w) [a, b, b, a, tS, b, lo, b, tS, a, { data := #[127, 255, 255, 255, 128, 0, 0, 0, 0, 0, 0, 0, 0, 0, 0, 0] }, { data := #[128, 0, 0, 0, 0, 0, 0, 0, 0, 0, 0, 1] }, { data := #[127, 255, 255, 255, 128, 0, 0, 0, 0, 0, 0, 0, 0, 0, 0, 0] } ++ a, { data := #[128, 0, 0, 0, 0, 0, 0, 0, 0, 0, 0, 1] } ++ b] 14 rfl rfl ?_ (below_al hB _) ?_
  · intro v hv
    have q1 : ({ data := #[127, 255, 255, 255, 128, 0, 0, 0, 0, 0, 0, 0, 0, 0, 0, 0] } : ByteArray).size = 16 := rfl
    have q2 : ({ data := #[128, 0, 0, 0, 0, 0, 0, 0, 0, 0, 0, 1] } : ByteArray).size = 12 := rfl
    simp only [List.mem_cons, List.not_mem_nil, or_false] at hv
    rcases hv with rfl | rfl | rfl | rfl | rfl | rfl | rfl | rfl | rfl | rfl | rfl | rfl | rfl | rfl
    all_goals first | omega | (rw [q1]; omega) | (rw [q2]; omega) | (rw [ByteArray.size_append, q1]; omega) | (rw [ByteArray.size_append, q2]; omega)
  · intro w5 ss hlen hbd hblk hB5
    rw [World.size_alloc] at hblk
    generalize w'.heap.size + 1 = g5 at hblk ⊢
    have HBD := Lib.hid hbd
    have HLN := Lib.hid hlen
    clear hbd hlen
    go_loopw [15, 16, 17, 18, 19, 20, 21, 72] (fun _ _ _ _ _ _ _ s72 wr => ∃ i : Nat, i ≤ 7 ∧ s72 = .int .i64 (i : Int) ∧ Below w5.heap.size w5 wr) (fun _ _ _ _ _ _ _ s72 _ => 7 - (intOf s72).toNat)
    case atStart => exact ⟨0, by omega, rfl, Below.refl _ _⟩
    case round =>
      obtain ⟨i, hi, rfl, hbw⟩ := hrel
      by_cases h7 : i < 7
      · obtain ⟨u, hu⟩ : ∃ u, ss[i * 2]? = some u := ⟨_, List.getElem?_eq_getElem (by rw [HLN.out]; omega)⟩
        obtain ⟨v, hv⟩ : ∃ v, ss[i * 2 + 1]? = some v := ⟨_, List.getElem?_eq_getElem (by rw [HLN.out]; omega)⟩
        have hus := HBD.out u (List.mem_of_getElem? hu)
        have hvs := HBD.out v (List.mem_of_getElem? hv)
        have hcu := strs_blk (hblk.belowK hbw) hu
        have hcv := strs_blk (hblk.belowK hbw) hv
        obtain ⟨x, y, pp, hq1, hq2⟩ := HQ.out u v hus hvs
        have H5 := Lib.hid hq1
        have H6 := Lib.hid hq2
        clear hu hv hq1 hq2
        go_wp2_with fail
        refine (H5.out _).mono ?_
        rintro e w6 ⟨rfl, hb6⟩
        obtain ⟨hc0, hc1⟩ := (Blk.new wr 30 #[.string u, .string v]).kept2 hb6
        replace hbw := below_then (below_al hbw _) hb6
        clear hb6
        go_wp2_with (go_at_call 20; (with_reducible refine (H6.out _).mono ?_); rintro e w' ⟨rfl, hb''⟩; replace hbw := below_then hbw hb''; clear hb'')
        go_roundw
        case rel => first | exact ⟨i + 1, by omega, by go_num, hbw⟩ | ((repeat apply Exists.intro); exact ⟨⟨i + 1, by omega, by go_num, hbw⟩, rfl⟩)
        case measure => simp [intOf]; omega
      · obtain rfl : i = 7 := by omega
        go_wp2_with fail
        go_ret
        exact ⟨rfl, below_then hB5 hbw⟩

end Go.Proofs.YthiogjpjkdnbjaaGreatDoor
