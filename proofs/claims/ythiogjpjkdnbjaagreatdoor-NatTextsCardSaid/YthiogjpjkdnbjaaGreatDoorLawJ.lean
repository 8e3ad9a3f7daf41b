/- The law NatTexts: it returns true. -/
import Derived.Test.YthiogjpjkdnbjaaGreatDoorNatS
import Derived.Test.YthiogjpjkdnbjaaGreatDoorLawB
import Derived.BigRegion
import Derived.Deep.QuietTactic
import Derived.BigQuiet
namespace Go.Proofs.YthiogjpjkdnbjaaGreatDoor
open Go.RowKit

theorem parse_pair (s : ByteArray) : ∃ (x : ByteArray) (p : Bool), parseRes s = .tuple #[.string x, .bool p] := by
  unfold parseRes
  split
  · exact ⟨_, _, rfl⟩
  · exact ⟨_, _, rfl⟩
theorem parse_dec (v : Nat) : parseRes (decS v) = .tuple #[.string (natS v), .bool true] := by
  have h : (decS v).data.toList = Lib.decDigits v := by unfold decS; simp
  rw [parse_ok (by rw [h]; exact dec_good v), h, dec_val]
theorem ret_parse {s : ByteArray} (hs : s.size ≤ 1000) {x : ByteArray} {p : Bool} (h : parseRes s = .tuple #[.string x, .bool p]) : Ret 26 #[.string s] (.tuple #[.string x, .bool p]) := fun W => h ▸ Parse_any s W hs
theorem ret_rparse {s : ByteArray} (hs : s.size ≤ 1000) {x : ByteArray} {p : Bool} (h : parseRes s = .tuple #[.string x, .bool p]) : Ret 29 #[.string s] (.tuple #[.string x, .bool p]) := fun W => h ▸ rParse s W hs

theorem bytes_free (w : World) (e : TypeId) (s : ByteArray) {j : Nat} (hj : j < s.size) : (Lib.bytesWorld w e s).frozen? ⟨w.heap.size, j, none⟩ = false := by
  have h := Lib.bytesWorld_at_new w e s
  have hc : s.size ≤ (Lib.bytesCells w e s).size := by unfold Lib.bytesCells; simp
  unfold World.frozen?
  rw [h]
  simp
  omega

theorem strs_blk' {w : World} {g : Nat} {t : TypeId} {vs : List ByteArray} (h : Blk w g t (vs.map Value.string).toArray) {i : Nat} {v : ByteArray} (hv : vs[i]? = some v) : w.cell? ⟨g, i, none⟩ = some (.string v) := (h.cell i).trans (by simp [hv])
theorem cells_new_drew {P : Program} {code : Code} {Q : Exit → Act → World → Prop} {act : Act} {w0 W : World} {t : TypeId} {cells : Array Value} (ss : List ByteArray) (k : Nat) (hc : cells = (ss.map Value.string).toArray) (hk : ss.length = k) (hs : ∀ v ∈ ss, v.size ≤ 1000) (hB : Below w0.heap.size w0 W)
    (h : ∀ (w5 : World) (tt : List ByteArray), tt.length = k → (∀ v ∈ tt, v.size ≤ 1000) → Blk w5 W.heap.size t (tt.map Value.string).toArray → Below w0.heap.size w0 w5 → code.wp P Q act w5) :
    code.wp P Q act (W.alloc (.cells cells t)).drew := by
  subst hc
  exact h _ ss hk hs (Blk.new _ _ _) (below_al hB _).drew

set_option maxRecDepth 100000 in
set_option maxHeartbeats 2000000 in
theorem NatTexts_any (A : Option Addr) (n c : Nat) (l : List UInt8) (raw : ByteArray) (q0 q1 : Nat) (w : World) (ht : Pow10 w) (hx : BDg w A n c l)
    (hn : n ≤ 9223372036854775807) (hr : raw.size ≤ 9223372036854775807) (hq : q0 ≤ 255 ∧ q1 ≤ 255) :
    Calls Tryz.prog 6 #[.slice A n c, .string raw, .agg #[.int .u8 (q0 : Int), .int .u8 (q1 : Int)]] w fun e w' => e = .returned (.bool true) ∧ Below w.heap.size w w' := by
  have HT := Lib.hid ht
  clear ht
  obtain ⟨hq0, hq1⟩ := hq
  obtain ⟨a, hae⟩ : ∃ a, a = madeS l := ⟨_, rfl⟩
  have ha : a.size ≤ 40 := by rw [hae]; exact madeS_size l
  have HMA : Hid (∀ W, Below w.heap.size w W → Calls Tryz.prog 14 #[.slice A n c] W fun e w' => e = .returned (.string a) ∧ W = w') := Lib.hid (fun W hW => hae ▸ rMade A n c l W (hx.below hW) hn)
  obtain ⟨t, hte⟩ : ∃ t, t = decS (sval a) := ⟨_, rfl⟩
  have htl : t.size ≤ 121 := by
    rw [hte]
    have := dec_bytes a
    show (Lib.decDigits (sval a)).toArray.size ≤ 121
    simp; omega
  have ht0 : 0 < t.size := by
    rw [hte]
    have h1 := dec_ne (sval a)
    have h2 := List.length_pos_iff.2 h1
    show 0 < (Lib.decDigits (sval a)).toArray.size
    simpa using h2
  have H1 : Hid (∀ W, Pow10 W → Calls Tryz.prog 25 #[.string a] W fun e w' => e = .returned (.string t) ∧ Below W.heap.size W w') := Lib.hid (fun W h => hte ▸ Text_any a W (by omega) h)
  have H2 : Hid (Ret 27 #[.string a] (.string t)) := Lib.hid (fun W => hte ▸ rText a W (by omega))
  have H3 : Hid (Ret 26 #[.string t] (.tuple #[.string (natS (sval a)), .bool true])) := Lib.hid (ret_parse (by omega) (by rw [hte]; exact parse_dec _))
  have H4 := Lib.hid (ret_canon (a := a) (by omega) rfl)
  have hz : ((t.size : Int) == 0) = false := by rw [beq_eq_false_iff_ne]; omega
  have heq : ∀ s : ByteArray, (s.toList == s.toList) = true := fun s => by simp
  clear hae hte
  generalize natS (sval a) = tv at *
  go_enter Tryz.func6, Tryz.ntmps6
  go_wp2_with fail
  have hB0 : Below w.heap.size w (w.alloc (.cells #[.int .u8 (q0 : Int), .int .u8 (q1 : Int)] 38)) := below_al (Below.refl _ _) _
  have hbG0 := Blk.new w 38 #[.int .u8 (q0 : Int), .int .u8 (q1 : Int)]
  generalize (w.alloc (.cells #[.int .u8 (q0 : Int), .int .u8 (q1 : Int)] 38)) = w0 at hB0 hbG0 ⊢
  refine (sanity_any _ (HT.out.below hB0)).mono ?_
  rintro e w1 ⟨rfl, hb1⟩
  have hB := hb1
  go_wp2_with (first
    | (go_at_call 14; (with_reducible refine (HMA.out _ (below_then hB0 hB)).mono ?_); rintro e w' ⟨rfl, rfl⟩)
    | (go_at_call 25; (with_reducible refine (H1.out _ (HT.out.below (below_then hB0 hB))).mono ?_); rintro e w' ⟨rfl, hb''⟩; replace hB := below_then hB hb''; clear hb'')
    | (go_at_call 26; (with_reducible refine (H3.out _).mono ?_); rintro e w' ⟨rfl, hb''⟩; replace hB := below_then hB hb''; clear hb'')
    | (go_at_call 27; (with_reducible refine (H2.out _).mono ?_); rintro e w' ⟨rfl, hb''⟩; replace hB := below_then hB hb''; clear hb'')
    | (go_at_call 28; (with_reducible refine (H4.out _).mono ?_); rintro e w' ⟨rfl, hb''⟩; replace hB := below_then hB hb''; clear hb''))
  rw [Lib.run_convert_string_bytes w' 9 22 5 t Tryz.underlying9 Tryz.underlying22 Tryz.underlying5]
  have hb5 := Lib.bytesWorld_below w' 5 t
  have hcell5 := fun j hj => Lib.bytesWorld_cell w' 5 t j hj
  have hfro5 : ∀ j, j < t.size → (Lib.bytesWorld w' 5 t).frozen? ⟨w'.heap.size, j, none⟩ = false := fun j hj => bytes_free w' 5 t hj
  have hsz5 := Lib.bytesWorld_size w' 5 t
  have hcap : t.size ≤ grownCap w' t.size 0 5 := grownCap_ge _ _ _ _
  have hBs := hB.size
  generalize Lib.bytesWorld w' 5 t = w5 at hb5 hcell5 hfro5 hsz5 ⊢
  generalize grownCap w' t.size 0 5 = cp at hcap ⊢
  replace hB := below_then hB hb5
  clear hb5
  obtain ⟨hg0, hg1⟩ := hbG0.kept2 hB
  obtain ⟨g, hge⟩ : ∃ g, g = w'.heap.size := ⟨_, rfl⟩
  have hgw : w.heap.size ≤ g := by rw [hge]; have h1 := hb1.size; have h2 := hBs; have h3 := hB0.size; omega
  rw [← hge] at hcell5 hfro5 ⊢
  obtain ⟨jj, hjj⟩ : ∃ jj, jj = q0 % t.size := ⟨_, rfl⟩
  have hjl : jj < t.size := by rw [hjj]; exact Nat.mod_lt _ ht0
  have hj1 : (q0 : Int) % (t.size : Int) = (jj : Int) := by rw [hjj]; simp
  have hj2 : (q0 : Int).tmod (t.size : Int) = (jj : Int) := by rw [Int.tmod_eq_emod_of_nonneg (by omega)]; exact hj1
  have hj3 : IntKind.i64.wrap (q0 : Int) = (q0 : Int) := IntWalk.i64_in _ (by omega)
  have hj4 : IntKind.i64.wrap (jj : Int) = (jj : Int) := IntWalk.i64_in _ (by omega)
  have hj5 : (0 : Int) ≤ (jj : Int) := by omega
  have hj6 : (jj : Int) < (t.size : Int) := by omega
  have hcj := hcell5 jj hjl
  have hfj := hfro5 jj hjl
  have HC5 := Lib.hid hcell5
  clear hcell5 hfro5 hjj hsz5 hge
  go_wp2_with fail
  go_region
  have hBw : Below w.heap.size w (w5.setCell ⟨g, jj, none⟩ (.int .u8 (q1 : Int))).drew := (below_set (below_then hB0 hB) hgw _).drew
  obtain ⟨lb, hlb⟩ : ∃ lb : List UInt8, lb = t.data.toList.set jj (UInt8.ofNat q1) := ⟨_, rfl⟩
  have hlbl : lb.length = t.size := by rw [hlb, List.length_set, size_len]
  have hbd : BDg (w5.setCell ⟨g, jj, none⟩ (.int .u8 (q1 : Int))).drew (some ⟨g, 0, none⟩) t.size cp lb := by
    refine ⟨hlbl, hcap, fun _ => ⟨g, 0, rfl, fun j d hd => ?_⟩⟩
    rw [Nat.zero_add]
    show (w5.setCell ⟨g, jj, none⟩ (.int .u8 (q1 : Int))).cell? ⟨g, j, none⟩ = _
    have hjt : j < t.size := by have := (List.getElem?_eq_some_iff.1 hd).1; omega
    by_cases e : j = jj
    · subst e
      rw [hlb, List.getElem?_set_self (by rw [size_len]; exact hjt)] at hd
      obtain rfl := Option.some.inj hd
      rw [World.cell?_setCell_same (h := hcj), byte_toNat (by omega)]
    · rw [World.cell?_setCell_other (h := fun h => e (congrArg Addr.off h).symm), HC5.out j hjt]
      rw [hlb, List.getElem?_set_ne (Ne.symm e)] at hd
      rw [List.getD_eq_getElem?_getD, hd]
      rfl
  generalize (w5.setCell ⟨g, jj, none⟩ (.int .u8 (q1 : Int))).drew = w6 at hBw hbd ⊢
  have hcv := run_bdg_str (show BDg w6.drew (some ⟨g, 0, none⟩) t.size cp lb from hbd.below (Below.refl _ _).drew)
  clear hbd hlb hcj hfj HC5 hB hg0 hg1
  obtain ⟨mr, hmr⟩ : ∃ mr, mr = min raw.size 100 := ⟨_, rfl⟩
  have hm1 : min (raw.size : Int) 100 = (mr : Int) := by omega
  have hm2 : mr ≤ raw.size := by omega
  have hm3 : mr ≤ 100 := by omega
  have hm4 : (0 : Int) ≤ (mr : Int) := by omega
  have hm5 : (mr : Int) ≤ (raw.size : Int) := by omega
  have ht1 : (1 : Int) ≤ (t.size : Int) := by omega
  clear hmr
  go_wp2_with fail
  go_region
  clear hcv hm1 hm2 hm4 hm5 ht1
  go_wp2_with fail
  refine cells_new_drew (w0 := w) [raw.extract 0 mr, ⟨lb.toArray⟩, { data := #[48] } ++ t, t ++ { data := #[48] }, t.extract 1 t.size, t ++ { data := #[32] }] 6 rfl rfl ?_ hBw ?_
  · intro v hv
    have q1 : ({ data := #[48] } : ByteArray).size = 1 := rfl
    have q2 : ({ data := #[32] } : ByteArray).size = 1 := rfl
    have q3 : (⟨lb.toArray⟩ : ByteArray).size = t.size := by show lb.toArray.size = _; simpa using hlbl
    simp only [List.mem_cons, List.not_mem_nil, or_false] at hv
    rcases hv with rfl | rfl | rfl | rfl | rfl | rfl
    · rw [ByteArray.size_extract]; omega
    · omega
    · rw [ByteArray.size_append, q1]; omega
    · rw [ByteArray.size_append, q1]; omega
    · rw [ByteArray.size_extract]; omega
    · rw [ByteArray.size_append, q2]; omega
  · intro w7 ss hlen hbd hblk hB7
    generalize w6.heap.size = g7 at hblk ⊢
    have HBD := Lib.hid hbd
    have HLN := Lib.hid hlen
    clear hbd hlen
    go_loopw [14, 15, 16, 17, 18, 77] (fun _ _ _ _ _ s77 wr => ∃ i : Nat, i ≤ 6 ∧ s77 = .int .i64 (i : Int) ∧ Below w7.heap.size w7 wr) (fun _ _ _ _ _ s77 _ => 6 - (intOf s77).toNat)
    case atStart => exact ⟨0, by omega, rfl, Below.refl _ _⟩
    case round =>
      obtain ⟨i, hi, rfl, hbw⟩ := hrel
      by_cases h6 : i < 6
      · obtain ⟨u, hu⟩ : ∃ u, ss[i]? = some u := ⟨_, List.getElem?_eq_getElem (by rw [HLN.out]; omega)⟩
        have hus := HBD.out u (List.mem_of_getElem? hu)
        have hcu := strs_blk' (hblk.belowK hbw) hu
        obtain ⟨x, pp, hxp⟩ := parse_pair u
        have H5 := Lib.hid (ret_parse hus hxp)
        have H6 := Lib.hid (ret_rparse hus hxp)
        clear hu hxp
        go_wp2_with (first
          | (go_at_call 26; (with_reducible refine (H5.out _).mono ?_); rintro e w' ⟨rfl, hb''⟩; replace hbw := below_then hbw hb''; clear hb'')
          | (go_at_call 29; (with_reducible refine (H6.out _).mono ?_); rintro e w' ⟨rfl, hb''⟩; replace hbw := below_then hbw hb''; clear hb''))
        go_roundw
        case rel => first | exact ⟨i + 1, by omega, by go_num, hbw⟩ | ((repeat apply Exists.intro); exact ⟨⟨i + 1, by omega, by go_num, hbw⟩, rfl⟩)
        case measure => simp [intOf]; omega
      · obtain rfl : i = 6 := by omega
        go_wp2_with fail
        go_ret
        exact ⟨rfl, below_then hB7 hbw⟩

end Go.Proofs.YthiogjpjkdnbjaaGreatDoor
