/- Parse: what it returns. -/
import Derived.Test.YtebgmlbbilcbbaaGreatDoorRefO
namespace Go.Proofs.YtebgmlbbilcbbaaGreatDoor
open Go.RowKit

theorem ext_take (s : ByteArray) (k : Nat) : s.extract 0 k = ⟨(s.data.toList.take k).toArray⟩ := by
  apply ByteArray.ext
  rw [ByteArray.data_extract]
  apply Array.toList_inj.1
  rw [Array.toList_extract, List.extract_eq_take_drop]
  simp

theorem trim_nil' : Trim [] := fun h => absurd h (by simp)
theorem dig_one (W : World) (x : Nat) (hx : x < 4294967296) : Dig (W.alloc (.cells #[.int .u32 (x : Int)] 140)) (some ⟨W.heap.size, 0, none⟩) 1 1 [x] :=
  Blk.dig (show Blk _ _ 140 (u32s [x]) from Blk.new W 140 #[.int .u32 (x : Int)]) (fun k d h => by
    cases k with
    | zero => obtain rfl := Option.some.inj h; exact hx
    | succ k => simp at h) rfl (Nat.le_refl _)
theorem dig_bil (W : World) : Dig (W.alloc (.cells #[.int .u32 1000000000] 140)) (some ⟨W.heap.size, 0, none⟩) 1 1 [1000000000] := dig_one W 1000000000 (by omega)
theorem val_one (x : Nat) : val [x] = x := by simp [val]

set_option maxRecDepth 100000 in
set_option maxHeartbeats 2000000 in
theorem Parse_any (s : ByteArray) (w : World) (hs : s.size ≤ 1000) :
    Calls Tryz.prog 98 #[.string s] w fun e w' => e = .returned (parseRes s) ∧ Below w.heap.size w w' := by
  obtain ⟨bd, hbd⟩ : ∃ bd : Bool, bd = (decide (s.size = 0) || (decide (1 < s.size) && decide (∃ h : 0 < s.size, s[0].toNat = 48))) := ⟨_, rfl⟩
  go_enter Tryz.func98, Tryz.ntmps98
  go_upto_region 1 with fail
  go_cut [20] (fun s20 wx => s20 = .bool bd ∧ w = wx)
  case first =>
    by_cases h0 : s.size = 0
    · have hb0 : bd = true := by rw [hbd]; simp [h0]
      subst hb0
      clear hbd
      obtain rfl : s = ⟨#[]⟩ := by
        have : s.data.toList = [] := List.eq_nil_of_length_eq_zero (by rw [size_len]; exact h0)
        exact ByteArray.ext (Array.toList_inj.1 (by rw [this]))
      go_wp2_with fail
      go_meet
      exact ⟨rfl, rfl⟩
    · have hq : (s.toList == []) = false := by
        rw [beq_eq_false_iff_ne, ByteArray.toList_eq]; intro e; rw [← size_len, e] at h0; simp at h0
      have hq2 : (s.toList == (⟨#[]⟩ : ByteArray).toList) = false := by
        rw [ByteArray.toList_eq ⟨#[]⟩]; exact hq
      by_cases h1 : 1 < s.size
      · have hl : 0 < s.size := by omega
        by_cases h2 : s[0].toNat = 48
        · have hb0 : bd = true := by rw [hbd]; simp [h1, h2, hl]
          subst hb0
          clear hbd
          have hz : ((s[0].toNat : Int) == 48) = true := by simp [h2]
          clear h2
          go_wp2_with fail
          go_meet
          exact ⟨rfl, rfl⟩
        · have hb0 : bd = false := by rw [hbd]; simp [h0, h2]
          subst hb0
          clear hbd
          have hz : ((s[0].toNat : Int) == 48) = false := by rw [beq_eq_false_iff_ne]; omega
          clear h2
          go_wp2_with fail
          go_meet
          exact ⟨rfl, rfl⟩
      · have hb0 : bd = false := by rw [hbd]; simp [h0, h1]
        subst hb0
        clear hbd
        go_wp2_with fail
        go_meet
        exact ⟨rfl, rfl⟩
  obtain ⟨rfl, rfl⟩ := hcut
  cases bd with
  | true =>
    have HB : Hid (goodD s.data.toList = false) := Lib.hid (by
      simp only [Bool.true_eq, Bool.or_eq_true, Bool.and_eq_true, decide_eq_true_eq] at hbd
      rcases hbd with h | ⟨h1, h2, h3⟩
      · exact good_none h
      · exact good_zero h1 h3)
    clear hbd
    go_wp2_with fail
    go_ret2
    exact ⟨by rw [parse_bad HB.out]; rfl, Below.refl _ _⟩
  | false =>
    have HG : Hid (0 < s.size ∧ ∀ h : 0 < s.size, ¬ (1 < s.size ∧ s[0].toNat = 48)) := Lib.hid (by
      simp only [Bool.false_eq, Bool.or_eq_false_iff, Bool.and_eq_false_iff, decide_eq_false_iff_not] at hbd
      refine ⟨by omega, fun h ⟨h1, h2⟩ => ?_⟩
      rcases hbd.2 with h3 | h3
      · exact h3 h1
      · exact h3 ⟨h, h2⟩)
    clear hbd
    go_wp2_with fail
    go_loopw [4, 23] (fun _ s23 wr => ∃ k : Nat, k ≤ s.size ∧ s23 = .int .i64 (k : Int) ∧ Hid ((s.data.toList.take k).all isD = true) ∧ w = wr) (fun _ s23 _ => s.size - (intOf s23).toNat)
    case atStart => exact ⟨0, Nat.zero_le _, rfl, Lib.hid rfl, rfl⟩
    case round =>
      obtain ⟨k, hk, rfl, HD, rfl⟩ := hrel
      by_cases hlt : k < s.size
      · by_cases hy : s[k].toNat < 48 ∨ 57 < s[k].toNat
        · have HB := Lib.hid (good_bad hlt hy)
          rcases hy with hy | hy
          · have hy1 : (s[k].toNat : Int) < 48 := by omega
            go_wp2_with fail
            go_ret2
            exact ⟨by rw [parse_bad HB.out]; rfl, Below.refl _ _⟩
          · have hy1 : ¬ (s[k].toNat : Int) < 48 := by omega
            have hy2 : (57 : Int) < (s[k].toNat : Int) := by omega
            go_wp2_with fail
            go_ret2
            exact ⟨by rw [parse_bad HB.out]; rfl, Below.refl _ _⟩
        · have HD' : Hid ((s.data.toList.take (k + 1)).all isD = true) := Lib.hid (by rw [take_byte s hlt]; exact all_snoc HD.out (by omega) (by omega))
          have hy1 : ¬ (s[k].toNat : Int) < 48 := by omega
          have hy2 : ¬ (57 : Int) < (s[k].toNat : Int) := by omega
          clear hy
          go_wp2_with fail
          go_roundw
          case rel => exact ⟨k + 1, by omega, by go_num, HD', trivial⟩
          case measure => simp [intOf]; omega
      · have hks : k = s.size := by omega
        have HA : Hid (s.data.toList.all isD = true) := Lib.hid (by
          have h1 := HD.out
          rwa [List.take_of_length_le (by rw [size_len]; omega)] at h1)
        subst hks
        have HOK := Lib.hid (parse_ok (good_all HG.out.1 (HG.out.2 HG.out.1) HA.out))
        clear HD HG hk hlt
        go_wp2_with fail
        go_loopg [0, 5, 6, 7, 8] s.size (fun g s0 s5 _ _ _ wr => ∃ (pre : List UInt8) (t : ByteArray) (A : Option Addr) (n c : Nat) (xs : List Nat), g = t.size ∧ t.size ≤ s.size ∧ s0 = .string t ∧ s5 = .slice A n c ∧ Dig wr A n c xs ∧ Trim xs ∧ Hid (s.data.toList = pre ++ t.data.toList ∧ (pre = [] ∨ t.size % 9 = 0) ∧ val xs = dval pre) ∧ Below w.heap.size w wr)
        case atStart => exact ⟨[], s, none, 0, 0, [], rfl, Nat.le_refl _, rfl, rfl, Dig.nil_ _ _ _, trim_nil', Lib.hid ⟨rfl, .inl rfl, rfl⟩, Below.refl _ _⟩
        case round =>
          obtain ⟨pre, t, A, n, c, xs, hg, hts, rfl, rfl, hd, htx, HF, hbw⟩ := hrel
          have hpl : pre.length ≤ 1000 := by
            have := congrArg List.length HF.out.1
            rw [List.length_append, size_len] at this
            omega
          have HPA : Hid (pre.all isD = true ∧ t.data.toList.all isD = true) := Lib.hid (by
            have := HA.out
            rw [HF.out.1, List.all_append, Bool.and_eq_true] at this
            exact this)
          have hn : n ≤ 1000 := hd.few htx (by rw [HF.out.2.2]; exact Nat.lt_of_lt_of_le (dval_lt8 _ HPA.out.1) (P8_mono hpl))
          by_cases ht0 : 0 < t.size
          · obtain ⟨m, hm⟩ : ∃ m, m = (t.size - 1) % 9 + 1 := ⟨_, rfl⟩
            have hm9 : m ≤ 9 := by omega
            have hm1 : 1 ≤ m := by omega
            have hmt : m ≤ t.size := by omega
            have hmi : ((t.size : Int) - 1) % 9 + 1 = (m : Int) := by omega
            have hmi2 : ((t.size : Int) - 1).tmod 9 + 1 = (m : Int) := by rw [Int.tmod_eq_emod_of_nonneg (by omega)]; omega
            have hm9t : (t.size - m) % 9 = 0 := by omega
            have HM9 := Lib.hid hm9t
            have HMP : Hid (pre = [] ∨ m = 9) := Lib.hid (by rcases HF.out.2.1 with h | h; exact .inl h; right; omega)
            clear hm hm9t
            obtain ⟨g, hgE⟩ : ∃ g : List UInt8, g = t.data.toList.take m := ⟨_, rfl⟩
            obtain ⟨tr, htr⟩ : ∃ tr : List UInt8, tr = t.data.toList.drop m := ⟨_, rfl⟩
            have hgl : g.length = m := by rw [hgE, List.length_take, size_len]; omega
            have hgt : t.data.toList = g ++ tr := by rw [hgE, htr, List.take_append_drop]
            have hga : g.all isD = true := by rw [hgE]; exact all_take HPA.out.2 m
            have hgv : dval g < 1000000000 := Nat.lt_of_lt_of_le (dval_lt g hga) (by rw [hgl]; exact Nat.pow_le_pow_right (by omega) hm9)
            have hgs : t.extract 0 m = ⟨g.toArray⟩ := by rw [ext_take, hgE]
            have hts2 : t.extract m t.size = ⟨tr.toArray⟩ := by rw [ext_drop, htr]
            have htrl : tr.length = t.size - m := by rw [htr, List.length_drop, size_len]
            have hat : Lib.atoi (⟨g.toArray⟩ : ByteArray).data.toList = some ((dval g : Nat) : Int) := atoi_eq g (by intro e; rw [e] at hgl; simp at hgl; omega) hga
            have hasz : (⟨g.toArray⟩ : ByteArray).size ≤ 18 := by show g.toArray.size ≤ 18; simp; omega
            have HAT := Lib.hid (fun W => Tryz.strconv_Atoi ⟨g.toArray⟩ _ hasz hat W)
            have HVV : Hid (dval (pre ++ g) = val xs * 1000000000 + dval g) := Lib.hid (by rw [HF.out.2.2]; exact group_val (by rcases HMP.out with h | h; exact .inl h; exact .inr (by rw [hgl, h])))
            have HST : Hid (s.data.toList = (pre ++ g) ++ tr) := Lib.hid (by rw [HF.out.1, hgt, List.append_assoc])
            have HTRL := Lib.hid htrl
            obtain ⟨gv, hgve⟩ : ∃ gv, gv = dval g := ⟨_, rfl⟩
            rw [← hgve] at hgv HVV HAT
            have HG' := Lib.hid hg
            clear hgE htr hgt hga hat htrl hgve hg hasz
            go_wp2_with fail
            refine (HAT.out _).mono ?_
            rintro e w2 ⟨rfl, tb, rfl⟩
            have hb2 := Lib.bytesWorld_below wr 5 tb
            have hd2 := hd.below hb2
            replace hbw := below_then hbw hb2
            generalize Lib.bytesWorld wr 5 tb = w2 at hb2 hd2 hbw ⊢
            clear hb2
            go_wp2_with fail
            refine (multiply_any _ _ _ xs _ _ _ [1000000000] _ (dig_al hd2 _) (dig_bil w2) (by omega) (by omega)).mono ?_
            rintro e w3 ⟨⟨A3, n3, c3, zs3, rfl, hd3, ht3, hv3⟩, hb3⟩
            rw [val_one] at hv3
            have hn3 : n3 ≤ 1004 := hd3.few ht3 (by
              rw [hv3, HF.out.2.2]
              have h1 := Nat.lt_of_lt_of_le (dval_lt8 _ HPA.out.1) (P8_mono hpl)
              rw [show 1004 = 1000 + 4 from rfl, P8_add]
              exact Nat.mul_lt_mul'' h1 (by decide))
            have HV3 := Lib.hid hv3
            clear hv3
            replace hbw := below_then (below_al hbw _) hb3
            have hgw : (gv : Int) < 4294967296 := by omega
            go_wp2_with fail
            refine (add_any _ _ _ zs3 _ _ _ [gv] _ (dig_al hd3 _) (dig_one w3 gv (by omega)) (by omega) (by omega)).mono ?_
            rintro e w4 ⟨⟨A4, n4, c4, zs4, rfl, hd4, ht4, hv4⟩, hb4⟩
            rw [val_one, HV3.out, ← HVV.out] at hv4
            have HV4 := Lib.hid hv4
            clear hv4
            replace hbw := below_then (below_al hbw _) hb4
            go_wp2_with fail
            have htz : (⟨tr.toArray⟩ : ByteArray).size = t.size - m := by show tr.toArray.size = _; rw [List.size_toArray, HTRL.out]
            go_roundg (t.size - m)
            case measure => rw [HG'.out]; omega
            case rel => exact ⟨pre ++ g, ⟨tr.toArray⟩, A4, n4, c4, zs4, htz.symm, by omega, rfl, rfl, hd4, ht4, Lib.hid ⟨HST.out, .inr (by rw [htz]; exact HM9.out), HV4.out⟩, hbw⟩
          · have ht0' : t.size = 0 := by omega
            have HVV : Hid (val xs = dval s.data.toList) := Lib.hid (by
              have : t.data.toList = [] := List.eq_nil_of_length_eq_zero (by rw [size_len]; exact ht0')
              rw [HF.out.2.2, HF.out.1, this, List.append_nil])
            clear hg
            go_wp2_with fail
            refine (number_any _ _ _ xs _ hd (by omega)).mono ?_
            rintro e w2 ⟨rfl, hb2⟩
            go_wp2_with fail
            go_ret2
            exact ⟨by rw [HOK.out, ← HVV.out]; rfl, below_then hbw hb2⟩

end Go.Proofs.YtebgmlbbilcbbaaGreatDoor
