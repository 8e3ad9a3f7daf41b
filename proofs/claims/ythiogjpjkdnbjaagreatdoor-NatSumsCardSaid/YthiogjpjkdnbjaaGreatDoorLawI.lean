/- The law NatSums: it returns true. -/
import Derived.Test.YthiogjpjkdnbjaaGreatDoorLawE
import Derived.Deep.RegionHeld3
namespace Go.Proofs.YthiogjpjkdnbjaaGreatDoor
open Go.RowKit

theorem ret_rright {a : ByteArray} (ha : a.size ≤ 1000) : Ret 37 #[.string a] (.bool (rightB a)) := Ret.quiet fun W => rRight a W (by omega)

set_option maxRecDepth 100000 in
set_option maxHeartbeats 2000000 in
theorem NatSums_any (A : Option Addr) (n c : Nat) (l : List UInt8) (B : Option Addr) (m d : Nat) (k : List UInt8) (w : World) (ht : Pow10 w) (hx : BDg w A n c l) (hy : BDg w B m d k)
    (hn : n ≤ 9223372036854775807) (hm : m ≤ 9223372036854775807) :
    Calls Tryz.prog 11 #[.slice A n c, .slice B m d] w fun e w' => e = .returned (.bool true) ∧ Below w.heap.size w w' := by
  have HT := Lib.hid ht
  clear ht
  obtain ⟨a, hae⟩ : ∃ a, a = madeS l := ⟨_, rfl⟩
  obtain ⟨b, hbe⟩ : ∃ b, b = madeS k := ⟨_, rfl⟩
  have ha : a.size ≤ 40 := by rw [hae]; exact madeS_size l
  have hb : b.size ≤ 40 := by rw [hbe]; exact madeS_size k
  have HMA : Hid (∀ W, Below w.heap.size w W → Calls Tryz.prog 14 #[.slice A n c] W fun e w' => e = .returned (.string a) ∧ W = w') := Lib.hid (fun W hW => hae ▸ rMade A n c l W (hx.below hW) hn)
  have HMB : Hid (∀ W, Below w.heap.size w W → Calls Tryz.prog 14 #[.slice B m d] W fun e w' => e = .returned (.string b) ∧ W = w') := Lib.hid (fun W hW => hbe ▸ rMade B m d k W (hy.below hW) hm)
  have hva := sval_le ha
  have hvb := sval_le hb
  have sAB := natS_sz (P8_sum hva hvb) (by omega)
  have HR1 := Lib.hid (ret_right (a := a) (by omega) rfl)
  have HR2 := Lib.hid (ret_rright (a := a) (by omega))
  have HR3 := Lib.hid (ret_add (a := a) (b := b) (by omega) (by omega) rfl)
  have HR4 := Lib.hid (ret_right sAB (right_natS _))
  have HQ : Hid (∀ u v : ByteArray, u.size ≤ 1000 → v.size ≤ 1000 → ∃ (s x : ByteArray) (p : Bool) (r : Int), Ret 39 #[.string u, .string v] (.string s) ∧ Ret 15 #[.string u, .string v] (.string s) ∧ Ret 38 #[.string u, .string v] (.tuple #[.string x, .bool p]) ∧ Ret 18 #[.string u, .string v] (.tuple #[.string x, .bool p]) ∧ Ret 40 #[.string u, .string v] (.int .i64 r) ∧ Ret 41 #[.string u, .string v] (.int .i64 r)) := Lib.hid (fun u v hu hv => by
    obtain ⟨x, p, h, _⟩ := sub_pair (sval u) (sval v)
    exact ⟨natS (sval u + sval v), x, p, cmpI (sval u) (sval v), ret_add hu hv rfl, ret_radd' hu hv rfl, fun W => h ▸ Sub_any u v W (by omega) (by omega), fun W => h ▸ rSub u v W (by omega) (by omega), ret_cmp hu hv rfl, Ret.quiet fun W => rCmp u v W (by omega) (by omega)⟩)
  clear hae hbe hva hvb
  generalize natS (sval a + sval b) = tS at *
  generalize rightB a = ra at *
  have hB := Below.refl w.heap.size w
  go_enter Tryz.func11, Tryz.ntmps11
  go_wp2_with (first
    | (go_at_call 13; (with_reducible refine (sanity_any _ (HT.out.below hB)).mono ?_); rintro e w' ⟨rfl, hb''⟩; replace hB := below_then hB hb''; clear hb'')
    | (go_at_call 14; (with_reducible refine (HMA.out _ hB).mono ?_); rintro e w' ⟨rfl, rfl⟩)
    | (go_at_call 14; (with_reducible refine (HMB.out _ hB).mono ?_); rintro e w' ⟨rfl, rfl⟩))
  refine cells_new (w0 := w) [a, b, b, a, a, a, a ++ { data := #[0] }, b] 8 rfl rfl ?_ hB ?_
  · intro v hv
    have q1 : ({ data := #[0] } : ByteArray).size = 1 := rfl
    simp only [List.mem_cons, List.not_mem_nil, or_false] at hv
    rcases hv with rfl | rfl | rfl | rfl | rfl | rfl | rfl | rfl
    all_goals first | omega | (rw [ByteArray.size_append, q1]; omega)
  · intro w5 ss hlen hbd hblk hB5
    generalize w'.heap.size = g5 at hblk ⊢
    have HBD := Lib.hid hbd
    have HLN := Lib.hid hlen
    clear hbd hlen
    go_loopw [9, 10, 11, 12, 13, 34] (fun _ _ _ _ _ s34 wr => ∃ i : Nat, i ≤ 4 ∧ s34 = .int .i64 (i : Int) ∧ Below w5.heap.size w5 wr) (fun _ _ _ _ _ s34 _ => 4 - (intOf s34).toNat)
    case atStart => exact ⟨0, by omega, rfl, Below.refl _ _⟩
    case round =>
      obtain ⟨i, hi, rfl, hbw⟩ := hrel
      by_cases h4 : i < 4
      · obtain ⟨u, hu⟩ : ∃ u, ss[i * 2]? = some u := ⟨_, List.getElem?_eq_getElem (by rw [HLN.out]; omega)⟩
        obtain ⟨v, hv⟩ : ∃ v, ss[i * 2 + 1]? = some v := ⟨_, List.getElem?_eq_getElem (by rw [HLN.out]; omega)⟩
        have hus := HBD.out u (List.mem_of_getElem? hu)
        have hvs := HBD.out v (List.mem_of_getElem? hv)
        have hcu := strs_blk (hblk.belowK hbw) hu
        have hcv := strs_blk (hblk.belowK hbw) hv
        obtain ⟨s, x, pp, r, q1, q2, q3, q4, q5, q6⟩ := HQ.out u v hus hvs
        have H1 := Lib.hid q1
        have H2 := Lib.hid q2
        have H3 := Lib.hid q3
        have H4 := Lib.hid q4
        have H5 := Lib.hid q5
        have H6 := Lib.hid q6
        clear hu hv q1 q2 q3 q4 q5 q6
        go_wp2_with fail
        refine (H3.out _).mono ?_
        rintro e w6 ⟨rfl, hb6⟩
        have hbP := (Blk.new wr 30 #[.string u, .string v]).belowK hb6
        replace hbw := below_then (below_al hbw _) hb6
        clear hb6
        obtain ⟨hc0, hc1⟩ := hbP.kept2 (Below.refl _ _)
        go_wp2_with fail
        refine (H4.out _).mono ?_
        rintro e w7 ⟨rfl, hb7⟩
        replace hbP := hbP.belowK hb7
        replace hbw := below_then hbw hb7
        clear hb7 hc0 hc1
        obtain ⟨hc0, hc1⟩ := hbP.kept2 (Below.refl _ _)
        go_upto_region 8 with fail
        go_cut [87] (fun s87 wx => s87 = .bool false ∧ Below w7.heap.size w7 wx)
        case first =>
          go_region_held3 (fun w' => w'.cell? ⟨wr.heap.size, 0, none⟩ = some (.string u) ∧ w'.cell? ⟨wr.heap.size, 1, none⟩ = some (.string v)) ((refine hbP.kept2 ?_; (repeat (first | exact Below.refl _ _ | apply Below.drew | refine below_then ?_ hba | refine below_then ?_ hbb | refine below_then ?_ hbd | refine below_then ?_ hbe)))) (first
            | (go_at_call 39; (with_reducible refine (H1.out _).mono ?_); rintro e wa ⟨rfl, hba⟩)
            | (go_at_call 15; (with_reducible refine (H2.out _).mono ?_); rintro e wb ⟨rfl, hbb⟩)
            | (go_at_call 40; (with_reducible refine (H5.out _).mono ?_); rintro e wd ⟨rfl, hbd⟩)
            | (go_at_call 41; (with_reducible refine (H6.out _).mono ?_); rintro e we ⟨rfl, hbe⟩))
          all_goals go_wp2_with fail
          all_goals go_meet
          all_goals
            refine ⟨rfl, ?_⟩
            (repeat (first | exact Below.refl _ _ | apply Below.drew | refine below_then ?_ hba | refine below_then ?_ hbb | refine below_then ?_ hbd | refine below_then ?_ hbe))
        obtain ⟨rfl, hb8⟩ := hcut
        replace hbw := below_then hbw hb8
        go_wp2_with fail
        go_roundw
        case rel => first | exact ⟨i + 1, by omega, by go_num, hbw⟩ | ((repeat apply Exists.intro); exact ⟨⟨i + 1, by omega, by go_num, hbw⟩, rfl⟩)
        case measure => simp [intOf]; omega
      · obtain rfl : i = 4 := by omega
        replace hbw := below_then hB5 hbw
        go_wp2_with (first
          | (go_at_call 36; (with_reducible refine (HR1.out _).mono ?_); rintro e w' ⟨rfl, hb''⟩; replace hbw := below_then hbw hb''; clear hb'')
          | (go_at_call 37; (with_reducible refine (HR2.out _).mono ?_); rintro e w' ⟨rfl, hb''⟩; replace hbw := below_then hbw hb''; clear hb'')
          | (go_at_call 39; (with_reducible refine (HR3.out _).mono ?_); rintro e w' ⟨rfl, hb''⟩; replace hbw := below_then hbw hb''; clear hb'')
          | (go_at_call 36; (with_reducible refine (HR4.out _).mono ?_); rintro e w' ⟨rfl, hb''⟩; replace hbw := below_then hbw hb''; clear hb''))
        go_ret
        exact ⟨rfl, hbw⟩

end Go.Proofs.YthiogjpjkdnbjaaGreatDoor
