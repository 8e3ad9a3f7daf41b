/- The reference's Parse: what it returns. -/
import Derived.Test.YtebgmlbbilcbbaaGreatDoorRefN
namespace Go.Proofs.YtebgmlbbilcbbaaGreatDoor
open Go.RowKit

theorem parse_bad {s : ByteArray} (h : goodD s.data.toList = false) : parseRes s = .tuple #[.string ⟨#[]⟩, .bool false] := by
  unfold parseRes; rw [if_neg (by rw [h]; simp)]
theorem parse_ok {s : ByteArray} (h : goodD s.data.toList = true) : parseRes s = .tuple #[.string (natS (dval s.data.toList)), .bool true] := by
  unfold parseRes; rw [if_pos h]
theorem good_none {s : ByteArray} (h : s.size = 0) : goodD s.data.toList = false := by
  have : s.data.toList = [] := List.eq_nil_of_length_eq_zero (by rw [size_len]; exact h)
  rw [this]; rfl
theorem head_byte {s : ByteArray} (h : 0 < s.size) : s.data.toList.head? = some s[0] := by
  rw [List.head?_eq_getElem?, List.getElem?_eq_getElem (by rw [size_len]; exact h)]; rfl
theorem good_zero {s : ByteArray} (h : 1 < s.size) (h1 : s[0].toNat = 48) : goodD s.data.toList = false := by
  unfold goodD
  rw [head_byte (by omega), size_len, show s[0] = 48 from UInt8.toNat_inj.1 h1]
  simp [h]
theorem byte_mem {s : ByteArray} {k : Nat} (h : k < s.size) : s[k] ∈ s.data.toList := by
  have : s.data.toList[k]? = some s[k] := by rw [List.getElem?_eq_getElem (by rw [size_len]; exact h)]; rfl
  exact List.mem_of_getElem? this
theorem good_bad {s : ByteArray} {k : Nat} (h : k < s.size) (h1 : s[k].toNat < 48 ∨ 57 < s[k].toNat) : goodD s.data.toList = false := by
  unfold goodD
  have : s.data.toList.all isD = false := by
    rw [Bool.eq_false_iff]
    intro e
    have := isD_iff.1 (List.all_eq_true.1 e _ (byte_mem h))
    omega
  rw [this, Bool.and_false]
theorem good_all {s : ByteArray} (h0 : 0 < s.size) (h1 : ¬ (1 < s.size ∧ s[0].toNat = 48)) (h : s.data.toList.all isD = true) : goodD s.data.toList = true := by
  unfold goodD
  rw [h, head_byte h0, size_len]
  have e1 : s.data.toList.isEmpty = false := by rw [List.isEmpty_eq_false_iff]; intro e; rw [← size_len, e] at h0; simp at h0
  rw [e1]
  by_cases h2 : 1 < s.size
  · have : (some s[0] == some (48 : UInt8)) = false := by
      rw [beq_eq_false_iff_ne]; intro e; exact h1 ⟨h2, by rw [Option.some.inj e]; rfl⟩
    rw [this]; simp
  · simp [h2]
theorem all_snoc {l : List UInt8} {b : UInt8} (h : l.all isD = true) (h1 : 48 ≤ b.toNat) (h2 : b.toNat ≤ 57) : (l ++ [b]).all isD = true := by
  rw [List.all_append, h]; simp [isD, h1, h2]

set_option maxRecDepth 100000 in
set_option maxHeartbeats 2000000 in
theorem rParse (s : ByteArray) (w : World) (hs : s.size ≤ 1000) :
    Calls Tryz.prog 100 #[.string s] w fun e w' => e = .returned (parseRes s) ∧ Below w.heap.size w w' := by
  obtain ⟨bd, hbd⟩ : ∃ bd : Bool, bd = (decide (s.size = 0) || (decide (1 < s.size) && decide (∃ h : 0 < s.size, s[0].toNat = 48))) := ⟨_, rfl⟩
  go_enter Tryz.func100, Tryz.ntmps100
  go_upto_region 1 with fail
  go_cut [18] (fun s18 wx => s18 = .bool bd ∧ w = wx)
  case first =>
    by_cases h0 : s.size = 0
    · have hb0 : bd = true := by rw [hbd]; simp [h0]
      subst hb0
      clear hbd
      have hq : ((s.size : Int) == 0) = true := by simp [h0]
      go_wp2_with fail
      go_meet
      exact ⟨rfl, rfl⟩
    · have hq : ((s.size : Int) == 0) = false := by rw [beq_eq_false_iff_ne]; omega
      by_cases h1 : 1 < s.size
      · have hl : 0 < s.size := by omega
        by_cases h2 : s[0].toNat = 48
        · have hb0 : bd = true := by rw [hbd]; simp [h1, h2, hl]
          subst hb0
          clear hbd
          have hz : ((s[0].toNat : Int) == 48) = true := by simp [h2]
          clear h2
          go_wp2_with fail
          go_meet
          exact ⟨rfl, rfl⟩
        · have hb0 : bd = false := by rw [hbd]; simp [h0, h2]
          subst hb0
          clear hbd
          have hz : ((s[0].toNat : Int) == 48) = false := by rw [beq_eq_false_iff_ne]; omega
          clear h2
          go_wp2_with fail
          go_meet
          exact ⟨rfl, rfl⟩
      · have hb0 : bd = false := by rw [hbd]; simp [h0, h1]
        subst hb0
        clear hbd
        go_wp2_with fail
        go_meet
        exact ⟨rfl, rfl⟩
  obtain ⟨rfl, rfl⟩ := hcut
  cases bd with
  | true =>
    have HB : Hid (goodD s.data.toList = false) := Lib.hid (by
      simp only [Bool.true_eq, Bool.or_eq_true, Bool.and_eq_true, decide_eq_true_eq] at hbd
      rcases hbd with h | ⟨h1, h2, h3⟩
      · exact good_none h
      · exact good_zero h1 h3)
    clear hbd
    go_wp2_with fail
    go_ret2
    exact ⟨by rw [parse_bad HB.out]; rfl, Below.refl _ _⟩
  | false =>
    have HG : Hid (0 < s.size ∧ ∀ h : 0 < s.size, ¬ (1 < s.size ∧ s[0].toNat = 48)) := Lib.hid (by
      simp only [Bool.false_eq, Bool.or_eq_false_iff, Bool.and_eq_false_iff, decide_eq_false_iff_not] at hbd
      refine ⟨by omega, fun h ⟨h1, h2⟩ => ?_⟩
      rcases hbd.2 with h3 | h3
      · exact h3 h1
      · exact h3 ⟨h, h2⟩)
    clear hbd
    go_wp2_with fail
    go_loopw [4, 5] (fun s4 s5 wr => ∃ k : Nat, k ≤ s.size ∧ s5 = .int .i64 (k : Int) ∧ s4 = .string (natS (dval (s.data.toList.take k))) ∧ Hid ((s.data.toList.take k).all isD = true) ∧ Below w.heap.size w wr) (fun _ s5 _ => s.size - (intOf s5).toNat)
    case atStart => exact ⟨0, Nat.zero_le _, rfl, rfl, Lib.hid rfl, Below.refl _ _⟩
    case round =>
      obtain ⟨k, hk, rfl, rfl, HD, hbw⟩ := hrel
      by_cases hlt : k < s.size
      · by_cases hy : s[k].toNat < 48 ∨ 57 < s[k].toNat
        · have HB := Lib.hid (good_bad hlt hy)
          rcases hy with hy | hy
          · have hy1 : (s[k].toNat : Int) < 48 := by omega
            go_wp2_with fail
            go_ret2
            exact ⟨by rw [parse_bad HB.out]; rfl, hbw⟩
          · have hy1 : ¬ (s[k].toNat : Int) < 48 := by omega
            have hy2 : (57 : Int) < (s[k].toNat : Int) := by omega
            go_wp2_with fail
            go_ret2
            exact ⟨by rw [parse_bad HB.out]; rfl, hbw⟩
        · obtain ⟨V, hV⟩ : ∃ V, V = dval (s.data.toList.take k) := ⟨_, rfl⟩
          obtain ⟨dd, hdd⟩ : ∃ dd, dd = s[k].toNat - 48 := ⟨_, rfl⟩
          have hVl : V < P8 1000 := by
            rw [hV]
            refine Nat.lt_of_lt_of_le (dval_lt8 _ HD.out) (P8_mono ?_)
            rw [List.length_take]; omega
          have HN : Hid (dval (s.data.toList.take (k + 1)) = V * 10 + dd) := Lib.hid (by rw [take_byte s hlt, dval_snoc, ← hV, hdd])
          have HD' : Hid ((s.data.toList.take (k + 1)).all isD = true) := Lib.hid (by rw [take_byte s hlt]; exact all_snoc HD.out (by omega) (by omega))
          rw [← hV]
          have hd9 : dd ≤ 9 := by omega
          have hw8 : IntKind.u8.wrap ((s[k].toNat : Int) - 48) = (dd : Int) := by rw [IntWalk.u8_in _ (by omega)]; omega
          have hw6 : IntKind.i64.wrap (dd : Int) = (dd : Int) := IntWalk.i64_in _ (by omega)
          have hy1 : ¬ (s[k].toNat : Int) < 48 := by omega
          have hy2 : ¬ (57 : Int) < (s[k].toNat : Int) := by omega
          have sV : (natS V).size ≤ 1000 := natS_size hVl
          have sD : (natS dd).size ≤ 1000 := Nat.le_trans (natS_size (k := 1) (by show dd < 256; omega)) (by omega)
          have sM : (natS (V * 10)).size ≤ 1001 := natS_size (by rw [P8_succ]; omega)
          have H1 : Hid (∀ W, Calls Tryz.prog 73 #[.int .i64 10] W fun e w' => e = .returned (.string (natS 10)) ∧ Below W.heap.size W w') := Lib.hid (fun W => rOf 10 W (by omega))
          have H2 : Hid (∀ W, Calls Tryz.prog 42 #[.string (natS V), .string (natS 10)] W fun e w' => e = .returned (.string (natS (V * 10))) ∧ Below W.heap.size W w') := Lib.hid (fun W => by have := rMul (natS V) (natS 10) W (by omega) (by decide); rwa [sval_natS, sval_natS] at this)
          have H3 : Hid (∀ W, Calls Tryz.prog 73 #[.int .i64 (dd : Int)] W fun e w' => e = .returned (.string (natS dd)) ∧ Below W.heap.size W w') := Lib.hid (fun W => by have := rOf (dd : Int) W (by omega); rwa [Int.toNat_natCast] at this)
          have H4 : Hid (∀ W, Calls Tryz.prog 22 #[.string (natS (V * 10)), .string (natS dd)] W fun e w' => e = .returned (.string (natS (V * 10 + dd))) ∧ Below W.heap.size W w') := Lib.hid (fun W => by have := rAdd (natS (V * 10)) (natS dd) W (by omega) (by omega); rwa [sval_natS, sval_natS] at this)
          clear hy hV hdd hVl
          generalize natS 10 = tt at H1 H2
          go_upto_region 9 with fail
          obtain ⟨wo, hwo⟩ : ∃ wo : World, wo = wr := ⟨_, rfl⟩
          subst hwo
          go_region_held3 (fun _ => True) (trivial) (first
            | (go_at_call 73; (with_reducible refine (H1.out _).mono ?_); rintro e wa ⟨rfl, hba⟩)
            | (go_at_call 42; (with_reducible refine (H2.out _).mono ?_); rintro e wb ⟨rfl, hbb⟩)
            | (go_at_call 73; (with_reducible refine (H3.out _).mono ?_); rintro e wd ⟨rfl, hbd⟩)
            | (go_at_call 22; (with_reducible refine (H4.out _).mono ?_); rintro e we ⟨rfl, hbe⟩))
          all_goals go_wp2_with fail
          all_goals go_roundw
          all_goals try (simp [intOf]; omega)
          all_goals
            refine ⟨k + 1, by omega, by go_num, by rw [HN.out], HD', ?_⟩
            (repeat (first | exact hbw | apply Below.drew | refine below_then ?_ hba | refine below_then ?_ hbb | refine below_then ?_ hbd | refine below_then ?_ hbe))
      · obtain rfl : k = s.size := by omega
        have HT : Hid (s.data.toList.take s.size = s.data.toList) := Lib.hid (List.take_of_length_le (by rw [size_len]; exact Nat.le_refl _))
        rw [HT.out]
        go_wp2_with fail
        go_ret2
        refine ⟨?_, hbw⟩
        have h1 := HD.out
        rw [HT.out] at h1
        rw [parse_ok (good_all HG.out.1 (HG.out.2 HG.out.1) h1)]
        rfl

end Go.Proofs.YtebgmlbbilcbbaaGreatDoor
