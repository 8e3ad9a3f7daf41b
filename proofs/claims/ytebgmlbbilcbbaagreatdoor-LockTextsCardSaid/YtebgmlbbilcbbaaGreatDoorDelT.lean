/- Texts of works: words, small numbers, Resume. -/
import Derived.Test.YtebgmlbbilcbbaaGreatDoorDelHelp
import Derived.Test.YtebgmlbbilcbbaaGreatDoorLockA
import Derived.Test.YtebgmlbbilcbbaaGreatDoorPlainMore
import Derived.Test.YtebgmlbbilcbbaaGreatDoorShelfSp
import Derived.Test.YtebgmlbbilcbbaaGreatDoorRefFour
import Derived.Lib.AtoiAllCases
namespace Go.Proofs.YtebgmlbbilcbbaaGreatDoor
open Go.RowKit

abbrev OwnW (B : Nat) (w : World) (v : Value) (l : List ByteArray) : Prop := OwnL encT 9 1 B w v l
theorem OwnW.ndg {B : Nat} {w : World} {v : Value} {l : List ByteArray} (h : OwnW B w v l) : ∃ A c, v = .slice A l.length c ∧ NDg w A l.length c l := by
  obtain ⟨A, c, rfl, hr⟩ := OwnL.row h encT_len
  refine ⟨A, c, rfl, hr.len, hr.cap, fun h0 => ?_⟩
  obtain ⟨b, o, e, hc⟩ := hr.at_ h0
  refine ⟨b, o, e, fun j x hx => ?_⟩
  have := hc j 0 x (.string x) hx rfl
  rw [Nat.mul_one, Nat.add_zero] at this
  exact this
theorem ext_list (s : ByteArray) (a b : Nat) : (s.extract a b).data.toList = (s.data.toList.drop a).take (b - a) := by
  rw [ByteArray.data_extract, Array.toList_extract, List.extract_eq_take_drop]

theorem byte_get {s : ByteArray} {i : Nat} (h : i < s.size) : s.data.toList[i]? = some s[i] := by
  rw [List.getElem?_eq_getElem (by rw [size_len]; exact h)]; rfl

set_option maxRecDepth 100000 in
set_option maxHeartbeats 2000000 in
theorem rwords_any (s : ByteArray) (hs : s.size ≤ 1000) (w : World) :
    Calls Tryz.prog 99 #[.string s] w fun e w' => ∃ (A : Option Addr) (c : Nat), e = .returned (.slice A (wordsS s).length c) ∧ NDg w' A (wordsS s).length c (wordsS s) ∧ Below w.heap.size w w' := by
  obtain ⟨L, hL⟩ : ∃ L, L = s.data.toList := ⟨_, rfl⟩
  have hlen : L.length = s.size := by rw [hL, size_len]
  have HL := Lib.hid hL
  clear hL
  go_enter Tryz.func99, Tryz.ntmps99
  go_wp2_with fail
  go_loopw [3, 4, 5] (fun s3 s4 s5 wr => ∃ (i f : Nat) (done : List ByteArray), i ≤ s.size ∧ f ≤ i ∧ s5 = .int .i64 (i : Int) ∧ s4 = .int .i64 (f : Int) ∧ OwnW w.heap.size wr s3 done ∧ done.length ≤ i ∧ Hid (wordsS s = done ++ (wordsL (L.drop f)).map strB ∧ ∀ j, f ≤ j → j < i → L[j]? ≠ some 32) ∧ Below w.heap.size w wr) (fun _ _ s5 _ => s.size - (intOf s5).toNat)
  case atStart => exact ⟨0, 0, [], Nat.zero_le _, Nat.le_refl _, rfl, rfl, OwnL.nil_ _ _ _ _ _, Nat.le_refl _, Lib.hid ⟨by unfold wordsS; rw [← HL.out]; simp, fun j h1 h2 => by omega⟩, Below.refl _ _⟩
  case round =>
    obtain ⟨i, f, done, hi, hf, rfl, rfl, ho, hdl, HI, hB⟩ := hrel
    have ho0 := own_high ho
    by_cases hlt : i < s.size
    · have hlt' : (i : Int) < (s.size : Int) := by omega
      have hLi : L[i]? = some s[i] := by rw [HL.out]; exact byte_get hlt
      by_cases hb : s[i].toNat = 32
      · have hbz : ((s[i].toNat : Int) == 32) = true := by simp [hb]
        have HN := Lib.hid (words_hit hf (by rw [hLi, show s[i] = 32 from UInt8.toNat_inj.1 hb]) HI.out.2)
        clear hb hLi
        go_wp2_with (refine wp_append_row (enc := encT) Tryz.underlying60 str_info rfl (by decide) (by decide) rfl _ _ rfl (s.extract f i) rfl rfl (encT_one _) rfl ho rfl (by omega) hB.size ?_; intro v w2 ho2 hg2)
        go_roundw
        case rel =>
          refine ⟨i + 1, i + 1, done ++ [s.extract f i], by omega, Nat.le_refl _, by go_num, by go_num, ho2, by simp; omega, Lib.hid ⟨?_, fun j h1 h2 => by omega⟩, hB.grown hg2 hB.size ho0⟩
          rw [HI.out.1, HN.out, List.map_cons, List.append_assoc]
          congr 2
          exact (strB_self _).symm.trans (congrArg strB (by rw [ext_list, HL.out])) |>.symm
        case measure => simp [intOf]; omega
      · have hbz : ((s[i].toNat : Int) == 32) = false := by rw [beq_eq_false_iff_ne]; omega
        have HN : Hid (L[i]? ≠ some 32) := Lib.hid (by rw [hLi]; intro e; exact hb (by rw [Option.some.inj e]; rfl))
        clear hb hLi
        go_wp2_with fail
        go_roundw
        case rel =>
          refine ⟨i + 1, f, done, by omega, by omega, by go_num, rfl, ho, by omega, Lib.hid ⟨HI.out.1, fun j h1 h2 => ?_⟩, hB⟩
          by_cases e : j = i
          · subst e; exact HN.out
          · exact HI.out.2 j h1 (by omega)
        case measure => simp [intOf]; omega
    · obtain rfl : i = s.size := by omega
      have HN := Lib.hid (words_end (l := L) (f := f) (fun j h1 h2 => HI.out.2 j h1 (by omega)))
      go_wp2_with (refine wp_append_row (enc := encT) Tryz.underlying60 str_info rfl (by decide) (by decide) rfl _ _ rfl (s.extract f s.size) rfl rfl (encT_one _) rfl ho rfl (by omega) hB.size ?_; intro v w2 ho2 hg2)
      go_ret
      have hw : wordsS s = done ++ [s.extract f s.size] := by
        rw [HI.out.1, HN.out, List.map_cons, List.map_nil]
        congr 2
        refine (strB_self _).symm.trans (congrArg strB ?_) |>.symm
        rw [ext_list, HL.out, List.take_of_length_le (by rw [List.length_drop, size_len]; exact Nat.le_refl _)]
      obtain ⟨A, c, rfl, hd⟩ := OwnW.ndg ho2
      rw [hw]
      exact ⟨A, c, rfl, hd, hB.grown hg2 hB.size ho0⟩

/-- The errors of strconv are laid. -/
structure ErrV (w : World) : Prop where
  syn : ∃ ev, w.cell? ⟨2, 0, none⟩ = some ev ∧ (ev = .nilIface ∨ ∃ te pe, ev = .iface te pe)
  rng : ∃ ev, w.cell? ⟨3, 0, none⟩ = some ev ∧ (ev = .nilIface ∨ ∃ te pe, ev = .iface te pe)
theorem ErrV.below {w w' : World} (h : ErrV w) (hb : Below w.heap.size w w') : ErrV w' := by
  obtain ⟨⟨a, h1, h2⟩, ⟨b, h3, h4⟩⟩ := h
  exact ⟨⟨a, cell_b hb h1, h2⟩, ⟨b, cell_b hb h3, h4⟩⟩
/-- How Atoi ends: an int and whether there is an error. -/
theorem atoi_any (s : ByteArray) (hs : s.size ≤ 1000) (w : World) (hE : ErrV w) :
    Calls Tryz.prog 120 #[.string s] w fun e w' => (∃ (v : Int) (ev : Value), e = .returned (.tuple #[.int .i64 v, ev]) ∧ -9223372036854775808 ≤ v ∧ v ≤ 9223372036854775807 ∧ ((ev = .nilIface ∧ Lib.atoiAll s.data.toList = .ok v) ∨ ((∃ t p, ev = .iface t p) ∧ ∀ z, Lib.atoiAll s.data.toList ≠ .ok z))) ∧ Below w.heap.size w w' := by
  obtain ⟨⟨ev1, a1, a2⟩, ⟨ev2, b1, b2⟩⟩ := hE
  cases h : Lib.atoiAll s.data.toList with
  | ok v =>
    refine (Tryz.strconv_Atoi_ok s (by omega) v h w).mono ?_
    rintro e w' ⟨rfl, hw⟩
    have hb := Lib.atoiAll_bounds h
    refine ⟨⟨v, .nilIface, rfl, hb.1, hb.2, .inl ⟨rfl, rfl⟩⟩, ?_⟩
    rcases hw with rfl | ⟨t, rfl⟩
    · exact Below.refl _ _
    · exact Lib.bytesWorld_below w _ t
  | «syntax» =>
    refine (Tryz.strconv_Atoi_syntax s (by omega) h ev1 w a1 a2).mono ?_
    rintro e w' ⟨N, rfl, -, -, hb⟩
    exact ⟨⟨0, _, rfl, by omega, by omega, .inr ⟨⟨_, _, rfl⟩, fun z e => by cases e⟩⟩, hb⟩
  | range =>
    refine (Tryz.strconv_Atoi_range s (by omega) h ev2 w b1 b2).mono ?_
    rintro e w' ⟨N, rfl, -, -, hb⟩
    have hs := Lib.atoiSat_bounds s.data.toList
    exact ⟨⟨_, _, rfl, hs.1, hs.2, .inr ⟨⟨_, _, rfl⟩, fun z e => by cases e⟩⟩, hb⟩

/-- What small returns. -/
def smallOf (s : ByteArray) : Value := if smallL s.data.toList = true then .tuple #[.int .i64 (dval s.data.toList : Int), .bool true] else .tuple #[.int .i64 0, .bool false]
set_option maxHeartbeats 1000000 in
theorem small_any (s : ByteArray) (hs : s.size ≤ 1000) (w : World) (hT : Tabs w) (hE : ErrV w) :
    Calls Tryz.prog 97 #[.string s] w fun e w' => e = .returned (smallOf s) ∧ Below w.heap.size w w' := by
  have m1 := Lib.hid (fun W h => atoi_any s hs W h)
  have HT := Lib.hid hT
  have HE := Lib.hid hE
  clear hT hE
  go_enter Tryz.func97, Tryz.ntmps97
  go_wp2_with fail
  refine (m1.out _ HE.out).mono ?_
  rintro e w1 ⟨⟨v, ev, rfl, hv1, hv2, hev⟩, hB⟩
  rcases hev with ⟨rfl, ha⟩ | ⟨⟨t, p, rfl⟩, hno⟩
  · have m2 := Lib.hid (itoa_int v ⟨hv1, hv2⟩)
    have HA := Lib.hid ha
    clear ha
    by_cases c1 : v < 0
    · have HF : Hid (smallL s.data.toList = false) := Lib.hid (by
        cases h : smallL s.data.toList with
        | false => rfl
        | true =>
          have := smallL_atoi h
          rw [HA.out] at this
          injection this with this
          omega)
      go_wp2_with fail
      go_ret2
      exact ⟨by unfold smallOf; rw [HF.out]; rfl, hB⟩
    · by_cases c2 : 1048576 < v
      · have HF : Hid (smallL s.data.toList = false) := Lib.hid (by
          cases h : smallL s.data.toList with
          | false => rfl
          | true =>
            have h1 := smallL_atoi h
            have h2 := smallL_dec h
            rw [HA.out] at h1
            injection h1 with h1
            omega)
        go_wp2_with fail
        go_ret2
        exact ⟨by unfold smallOf; rw [HF.out]; rfl, hB⟩
      · by_cases c3 : decIS v = s
        · have HF : Hid (smallL s.data.toList = true ∧ (dval s.data.toList : Int) = v) := Lib.hid (by
            obtain ⟨n, rfl⟩ := Int.eq_ofNat_of_zero_le (show 0 ≤ v by omega)
            rw [decIS_nat] at c3
            rw [← c3, decS_list]
            unfold smallL
            rw [dec_good, dec_val]
            simp
            omega)
          have hq : ((decIS v).toList == s.toList) = true := by rw [c3]; simp
          go_wp2_with fail
          refine (m2.out _ (HT.out.below hB)).mono ?_
          rintro e w2 ⟨rfl, hb⟩
          go_wp2_with fail
          go_ret2
          exact ⟨by unfold smallOf; rw [HF.out.1, if_pos rfl, HF.out.2]; rfl, below_then hB hb⟩
        · have HF : Hid (smallL s.data.toList = false) := Lib.hid (by
            cases h : smallL s.data.toList with
            | false => rfl
            | true =>
              exfalso
              have h1 := smallL_atoi h
              have h2 := smallL_dec h
              rw [HA.out] at h1
              injection h1 with h1
              refine c3 (ByteArray.ext (Array.toList_inj.1 ?_))
              rw [h1, decIS_nat, decS_list, h2.1])
          have hq : ((decIS v).toList == s.toList) = false := str_diff c3
          go_wp2_with fail
          refine (m2.out _ (HT.out.below hB)).mono ?_
          rintro e w2 ⟨rfl, hb⟩
          go_wp2_with fail
          go_ret2
          exact ⟨by unfold smallOf; rw [HF.out]; rfl, below_then hB hb⟩
  · have HF : Hid (smallL s.data.toList = false) := Lib.hid (by
      cases h : smallL s.data.toList with
      | false => rfl
      | true => exact absurd (smallL_atoi h) (hno _))
    clear hno
    go_wp2_with fail
    go_ret2
    exact ⟨by unfold smallOf; rw [HF.out]; rfl, hB⟩

end Go.Proofs.YtebgmlbbilcbbaaGreatDoor
