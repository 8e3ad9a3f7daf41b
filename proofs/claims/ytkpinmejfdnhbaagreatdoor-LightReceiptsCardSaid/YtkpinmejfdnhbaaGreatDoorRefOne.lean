/- Joined by a program: RefA, RefB, RefC, RefD. -/
import Derived.Test.YtkpinmejfdnhbaaGreatDoorNatTwo
import Derived.Test.YtkpinmejfdnhbaaGreatDoorPlainAll
import Derived.Sort.Walk0
import Derived.Test.YtkpinmejfdnhbaaGreatDoorNatOne
import Derived.Laws.AppendOwn
import Derived.IntWalk
set_option maxHeartbeats 400000
namespace Go.Proofs.YtkpinmejfdnhbaaGreatDoor
open Go.RowKit
theorem ext_drop (s : ByteArray) (k : Nat) : s.extract k s.size = ⟨(s.data.toList.drop k).toArray⟩ := by
 apply ByteArray.ext
 rw [ByteArray.data_extract]
 apply Array.toList_inj.1
 rw [Array.toList_extract];rw [List.extract_eq_take_drop, List.take_of_length_le];rw [List.length_drop, Array.length_toList];exact Nat.le_refl _
theorem drop_byte (s : ByteArray) {k : Nat} (h : k < s.size) : s.data.toList.drop k = s[k] :: s.data.toList.drop (k + 1) := by
 rw [List.drop_eq_getElem_cons (by simpa using h)]; rfl
theorem strip0_cons0 (l : List UInt8) : strip0 (0 :: l) = strip0 l := by simp [strip0]
theorem strip0_cons {b : UInt8} (h : b ≠ 0) (l : List UInt8) : strip0 (b :: l) = b :: l := by simp [strip0, h]
theorem byte_zero {b : UInt8} (h : b.toNat = 0) : b = 0 := by
 apply UInt8.toNat_inj.1; rw [h]; rfl
theorem rCanon (s : ByteArray) (w : World) (hs : s.size ≤ 1000000) :
 Calls Tryz.prog 167 #[.string s] w fun e w' => e = .returned (.string (natS (sval s))) ∧ w = w' := by
 go_enter Tryz.func167, Tryz.ntmps167;go_wp2_with fail
 go_loop [3] (fun t => ∃ k : Nat, k ≤ s.size ∧ t = .int .i64 (k : Int) ∧ Hid (strip0 (s.data.toList.drop k) = strip0 s.data.toList)) (fun t => s.size - (intOf t).toNat)
 case atStart => exact ⟨0, Nat.zero_le _, rfl, Lib.hid (by rw [List.drop_zero])⟩
 case round =>
  obtain ⟨k, hk, rfl, HS⟩ := hrel
  by_cases hlt : k < s.size
  ·have hd := Lib.hid (drop_byte s hlt)
   by_cases hz : s[k].toNat = 0
   ·have hb : ((s[k].toNat : Int) == 0) = true := by simpa using hz
    have HZ := Lib.hid hz;clear hz;go_wp2_with fail;go_round
    case rel => exact ⟨k + 1, by omega, by go_num, Lib.hid (by have h1 := HS.out; rw [hd.out, byte_zero HZ.out, strip0_cons0] at h1; exact h1)⟩
    case measure => simp [intOf]; omega
   ·have hb : ((s[k].toNat : Int) == 0) = false := by simpa using hz
    have HZ := Lib.hid hz;clear hz;go_wp2_with fail;go_ret;refine ⟨?_, rfl⟩;have h1 := HS.out;rw [hd.out, strip0_cons (fun e => HZ.out (by rw [e]; rfl)), ← hd.out] at h1;rw [natS_sval, ← h1, ← ext_drop]
    rfl
  ·have e : k = s.size := by omega
   subst e;go_wp2_with fail;go_ret;refine ⟨?_, rfl⟩;have h1 := HS.out;rw [List.drop_of_length_le (by rw [Array.length_toList]; exact Nat.le_refl _)] at h1;rw [natS_sval, ← h1]
   rfl
theorem rRight (s : ByteArray) (w : World) (hs : s.size ≤ 1000000) :
 Calls Tryz.prog 275 #[.string s] w fun e w' => e = .returned (.bool (rightB s)) ∧ w = w' := by
 by_cases h0 : s.size = 0
 ·have hl : s = ⟨#[]⟩ := by
   cases s with
   | mk d => simp [ByteArray.size] at h0; subst h0; rfl
  subst hl;go_enter Tryz.func275, Tryz.ntmps275;go_wp2_with fail;go_ret;exact ⟨rfl, rfl⟩
 ·have hl0 : 0 < s.size := by omega
  have hb0 : ((s.size : Int) == 0) = false := by simpa using h0
  go_enter Tryz.func275, Tryz.ntmps275;go_wp2_with fail;go_ret;refine ⟨congrArg (fun b => Ending.returned (Value.bool b)) ?_, rfl⟩;have e : s.data.toList.head? = some s[0] := by
   rw [List.head?_eq_getElem?, List.getElem?_eq_getElem (by rw [Array.length_toList]; exact hl0)]
   rfl
  unfold rightB;rw [e];rw [Bool.eq_iff_iff]
  simp [← UInt8.toNat_inj]
theorem bv_take_le (l : List UInt8) (k : Nat) : bv (l.take k) ≤ bv l := by
 have e := bv_append (l.take k) (l.drop k);rw [List.take_append_drop] at e;have := Nat.le_mul_of_pos_right (bv (l.take k)) (P8_pos (l.drop k).length)
 omega
theorem take_byte (s : ByteArray) {k : Nat} (h : k < s.size) : s.data.toList.take (k + 1) = s.data.toList.take k ++ [s[k]] := by
 rw [List.take_succ_eq_append_getElem (by simpa using h)]; rfl
theorem bv_take_byte (s : ByteArray) {k : Nat} (h : k < s.size) : bv (s.data.toList.take (k + 1)) = bv (s.data.toList.take k) * 256 + s[k].toNat := by
 rw [take_byte s h, bv_snoc]
theorem size_len (s : ByteArray) : s.data.toList.length = s.size := by rw [Array.length_toList]; rfl
theorem natS_canon (v : Nat) : Canon (natS v).data.toList := by unfold natS; simpa using nb_canon v
theorem natS_ge {v k : Nat} (h : k < (natS v).size) : P8 k ≤ v := by
 have h1 : (natS v).data.toList ≠ [] := by intro e; have := size_len (natS v); rw [e] at this; simp at this; omega
 have h2 := canon_pos (natS_canon v) h1;have h3 : bv (natS v).data.toList = v := sval_natS v;rw [h3, size_len] at h2;exact Nat.le_trans (Nat.pow_le_pow_right (by omega) (by omega)) h2
theorem natS_lt {v k : Nat} (h : (natS v).size ≤ k) : v < P8 k := by
 have := sval_lt (natS v);rw [sval_natS] at this;exact Nat.lt_of_lt_of_le this (Nat.pow_le_pow_right (by omega) h)
theorem canon_le (s : ByteArray) : (natS (sval s)).size ≤ s.size := natS_size (sval_lt s)
theorem head_val (s : ByteArray) (h : 0 < s.size) : s[0].toNat * P8 (s.size - 1) ≤ sval s ∧ sval s < (s[0].toNat + 1) * P8 (s.size - 1) := by
 have e := drop_byte s h;rw [List.drop_zero] at e;have hl : (s.data.toList.drop (0 + 1)).length = s.size - 1 := by rw [List.length_drop, size_len]
 have h2 : sval s = s[0].toNat * P8 (s.size - 1) + bv (s.data.toList.drop (0 + 1)) := by
  unfold sval
  conv => lhs; rw [e]
  rw [bv_cons, hl]
 have h3 := bv_lt (s.data.toList.drop (0 + 1));rw [hl] at h3;rw [h2, Nat.add_mul]
 omega
theorem P8_7 : P8 7 = 72057594037927936 := rfl
theorem P8_8 : P8 8 = 18446744073709551616 := rfl
theorem int_big {v : Nat} (h : 8 < (natS v).size) : intRes v = .tuple #[.int .i64 0, .bool false] := by
 have := natS_ge h;rw [P8_8] at this;unfold intRes;rw [if_neg (by omega)]
theorem int_top {v : Nat} (h : (natS v).size = 8) (h0 : 0 < (natS v).size) (h2 : 127 < (natS v)[0].toNat) : intRes v = .tuple #[.int .i64 0, .bool false] := by
 have := (head_val (natS v) h0).1;rw [h, sval_natS, show 8 - 1 = 7 by rfl, P8_7] at this;unfold intRes;rw [if_neg (by omega)]
theorem int_fits {v : Nat} (h : (natS v).size < 8 ∨ (natS v).size = 8 ∧ ∀ h0 : 0 < (natS v).size, (natS v)[0].toNat ≤ 127) : v ≤ 9223372036854775807 := by
 rcases h with h | ⟨h, h2⟩
 ·have := natS_lt (k := 7) (v := v) (by omega);rw [P8_7] at this
  omega
 ·have h3 := (head_val (natS v) (by omega)).2;have h4 := h2 (by omega);rw [sval_natS] at h3;have h5 : P8 ((natS v).size - 1) = 72057594037927936 := by rw [h]; exact P8_7
  rw [h5] at h3
  omega
theorem int_ok {v : Nat} (h : v ≤ 9223372036854775807) : intRes v = .tuple #[.int .i64 (v : Int), .bool true] := by unfold intRes; rw [if_pos h]
theorem rInt (s : ByteArray) (w : World) (hs : s.size ≤ 1000000) :
 Calls Tryz.prog 169 #[.string s] w fun e w' => e = .returned (intRes (sval s)) ∧ w = w' := by
 obtain ⟨v, hv⟩ : ∃ v, v = sval s := ⟨_, rfl⟩;obtain ⟨t, ht⟩ : ∃ t, t = natS v := ⟨_, rfl⟩;have htl : t.size ≤ 1000000 := by
  rw [ht, hv]; exact Nat.le_trans (canon_le s) hs
 have HC : Hid (∀ W, Calls Tryz.prog 167 #[.string s] W fun e w' => e = .returned (.string t) ∧ W = w') := Lib.hid (fun W => by rw [ht, hv]; exact rCanon s W hs);have HV := Lib.hid hv;rw [← hv];clear hv
 by_cases h8 : 8 < t.size
 ·have hR := int_big (v := v) (by rw [← ht]; exact h8);rw [hR];clear hR ht;go_enter Tryz.func169, Tryz.ntmps169;go_wp2_with fail;refine (HC.out _).mono ?_;rintro e w' ⟨rfl, rfl⟩;go_wp2_with fail;go_ret2;exact ⟨rfl, rfl⟩
 ·by_cases he : t.size = 8 ∧ ∃ h0 : 0 < t.size, 127 < t[0].toNat
  ·obtain ⟨he, h0, h127⟩ := he;have hR := int_top (v := v) (by rw [← ht]; exact he) (by rw [← ht]; exact h0) (by subst ht; exact h127);rw [hR];clear hR ht;have hb : ((t.size : Int) == 8) = true := by simp; omega
   clear he;go_enter Tryz.func169, Tryz.ntmps169;go_wp2_with fail;refine (HC.out _).mono ?_;rintro e w' ⟨rfl, rfl⟩;go_wp2_with fail;go_ret2;exact ⟨rfl, rfl⟩
  ·have hle : v ≤ 9223372036854775807 := by
    apply int_fits
    subst ht
    rcases Nat.lt_or_ge (natS v).size 8 with h1 | h1
    ·exact .inl h1
    ·refine .inr ⟨by omega, fun h0 => ?_⟩
     rcases Nat.lt_or_ge 127 (natS v)[0].toNat with h2 | h2
     ·exact absurd ⟨by omega, h0, h2⟩ he
     ·exact h2
   rw [int_ok hle];have hsv : sval t = v := by rw [ht, sval_natS]
   have HSV := Lib.hid hsv;have hbd : ∀ k, bv (t.data.toList.take k) ≤ 9223372036854775807 := fun k => Nat.le_trans (bv_take_le _ k) (by show sval t ≤ _; rw [hsv]; exact hle);have HBD := Lib.hid hbd;clear hsv hbd ht HV;have hg : t.size = 8 → ∀ h0 : 0 < t.size, ¬ 127 < t[0].toNat := fun e h0 h => he ⟨e, h0, h⟩;clear he;have hcase : (((t.size : Int) == 8) = true ∧ ∃ h0 : 0 < t.size, ¬ 127 < t[0].toNat) ∨ ((t.size : Int) == 8) = false := by
    by_cases h88 : t.size = 8
    ·exact .inl ⟨by simp; omega, by omega, hg h88 (by omega)⟩
    ·exact .inr (by simp; omega)
   clear hg
   rcases hcase with ⟨hb, h0, h127⟩ | hb
   all_goals
    go_enter Tryz.func169, Tryz.ntmps169;go_wp2_with fail;refine (HC.out _).mono ?_;rintro e w' ⟨rfl, rfl⟩;go_wp2_with fail
    go_loop [4, 5] (fun n i => ∃ k : Nat, k ≤ t.size ∧ i = .int .i64 (k : Int) ∧ n = .int .i64 (bv (t.data.toList.take k) : Int)) (fun _ i => t.size - (intOf i).toNat)
    case atStart => exact ⟨0, Nat.zero_le _, rfl, by rw [List.take_zero]; rfl⟩
    case round =>
     obtain ⟨k, hk, rfl, rfl⟩ := hrel
     by_cases hlt : k < t.size
     ·have h2 := HBD.out (k + 1);rw [bv_take_byte t hlt] at h2;have HN := Lib.hid (bv_take_byte t hlt);obtain ⟨x, hx⟩ : ∃ x, x = bv (t.data.toList.take k) := ⟨_, rfl⟩;rw [← hx] at h2 HN ⊢;clear hx;have hbl := t[k].toNat_lt;go_wp2_with fail;go_round
      case rel => exact ⟨k + 1, by omega, by go_num, by rw [HN.out]; go_num⟩
      case measure => simp [intOf]; omega
     ·obtain rfl : k = t.size := by omega
      have HE : Hid (bv (t.data.toList.take t.size) = v) := Lib.hid (by rw [List.take_of_length_le (by rw [size_len]; exact Nat.le_refl _)]; exact HSV.out);go_wp2_with fail;go_ret2;exact ⟨by rw [← HE.out]; rfl, rfl⟩
def smallRes (v k : Nat) : Value := if v < P8 k then .tuple #[.int .i64 (v : Int), .bool true] else .tuple #[.int .i64 0, .bool false]
theorem P8_mono {j k : Nat} (h : j ≤ k) : P8 j ≤ P8 k := Nat.pow_le_pow_right (by omega) h
theorem rSmall (s : ByteArray) (k : Nat) (w : World) (hs : s.size ≤ 1000000) (hk : k ≤ 7) :
 Calls Tryz.prog 170 #[.string s, .int .i64 (k : Int)] w fun e w' => e = .returned (smallRes (sval s) k) ∧ w = w' := by
 obtain ⟨t, ht⟩ : ∃ t, t = natS (sval s) := ⟨_, rfl⟩;have htl : t.size ≤ 1000000 := by rw [ht]; exact Nat.le_trans (canon_le s) hs
 have HC : Hid (∀ W, Calls Tryz.prog 167 #[.string s] W fun e w' => e = .returned (.string t) ∧ W = w') := Lib.hid (fun W => by rw [ht]; exact rCanon s W hs)
 by_cases h : t.size ≤ k
 ·have hlt : sval s < P8 k := natS_lt (by rw [← ht]; exact h);have h7 : sval s < P8 7 := Nat.lt_of_lt_of_le hlt (P8_mono hk);rw [P8_7] at h7;have HI : Hid (∀ W, Calls Tryz.prog 169 #[.string s] W fun e w' => e = .returned (.tuple #[.int .i64 (sval s : Int), .bool true]) ∧ W = w') := Lib.hid (fun W => by rw [← int_ok (by omega)]; exact rInt s W hs);have hR : smallRes (sval s) k = .tuple #[.int .i64 (sval s : Int), .bool true] := by unfold smallRes; rw [if_pos hlt]
  rw [hR];clear hR hlt h7 ht;go_enter Tryz.func170, Tryz.ntmps170;go_wp2_with fail;refine (HC.out _).mono ?_;rintro e w' ⟨rfl, rfl⟩;go_wp2_with fail;refine (HI.out _).mono ?_;rintro e w' ⟨rfl, rfl⟩;go_wp2_with fail;go_ret2;exact ⟨rfl, rfl⟩
 ·have hge : P8 k ≤ sval s := natS_ge (by rw [← ht]; omega);have hR : smallRes (sval s) k = .tuple #[.int .i64 0, .bool false] := by unfold smallRes; rw [if_neg (by omega)]
  rw [hR];clear hR hge ht;go_enter Tryz.func170, Tryz.ntmps170;go_wp2_with fail;refine (HC.out _).mono ?_;rintro e w' ⟨rfl, rfl⟩;go_wp2_with fail;go_ret2;exact ⟨rfl, rfl⟩
theorem lex_bv : ∀ (l m : List UInt8), l.length = m.length → (l < m ↔ bv l < bv m)
 | [], [], _ => by simp
 | [], _ :: _, h => by simp at h
 | _ :: _, [], h => by simp at h
 | x :: l, y :: m, h => by
   have hl : l.length = m.length := by simpa using h
   have ih := lex_bv l m hl;have h1 := bv_lt l;have h2 := bv_lt m;rw [List.cons_lt_cons_iff, bv_cons, bv_cons, hl, UInt8.lt_iff_toNat_lt, ih, ← UInt8.toNat_inj];rw [hl] at h1;generalize P8 m.length = p at h1 h2 ⊢
   constructor
   ·rintro (h3 | ⟨h3, h4⟩)
    ·have := Nat.mul_le_mul_right p (show x.toNat + 1 ≤ y.toNat from h3);rw [Nat.add_mul] at this
     omega
    ·rw [h3]; omega
   ·intro h3
    rcases Nat.lt_trichotomy x.toNat y.toNat with h4 | h4 | h4
    ·exact .inl h4
    ·rw [h4] at h3; exact .inr ⟨h4, by omega⟩
    ·have := Nat.mul_le_mul_right p (show y.toNat + 1 ≤ x.toNat from h4);rw [Nat.add_mul] at this
     omega
theorem cmp_less {s t : ByteArray} (h : s.size = t.size) (b : Bool) (hb : Op.bytesLess s.toList t.toList = b) : b = decide (sval s < sval t) := by
 rw [← hb, Proofs.bytesLess_eq, ByteArray.toList_eq, ByteArray.toList_eq, decide_eq_decide];exact lex_bv _ _ (by rw [size_len, size_len, h])
theorem rCmp (a b : ByteArray) (w : World) (ha : a.size ≤ 1000000) (hb : b.size ≤ 1000000) :
 Calls Tryz.prog 208 #[.string a, .string b] w fun e w' => e = .returned (.int .i64 (cmpI (sval a) (sval b))) ∧ w = w' := by
 obtain ⟨s, hs⟩ : ∃ s, s = natS (sval a) := ⟨_, rfl⟩;obtain ⟨t, ht⟩ : ∃ t, t = natS (sval b) := ⟨_, rfl⟩;have hsl : s.size ≤ 1000000 := by rw [hs]; exact Nat.le_trans (canon_le a) ha
 have htl : t.size ≤ 1000000 := by rw [ht]; exact Nat.le_trans (canon_le b) hb
 have HA : Hid (∀ W, Calls Tryz.prog 167 #[.string a] W fun e w' => e = .returned (.string s) ∧ W = w') := Lib.hid (fun W => by rw [hs]; exact rCanon a W ha);have HB : Hid (∀ W, Calls Tryz.prog 167 #[.string b] W fun e w' => e = .returned (.string t) ∧ W = w') := Lib.hid (fun W => by rw [ht]; exact rCanon b W hb);have HS : Hid (sval s = sval a) := Lib.hid (by rw [hs, sval_natS]);have HT : Hid (sval t = sval b) := Lib.hid (by rw [ht, sval_natS])
 rcases Nat.lt_trichotomy s.size t.size with hc | hc | hc
 ·have hv : sval a < sval b := by
   have h1 := natS_lt (v := sval a) (k := s.size) (by rw [← hs]; exact Nat.le_refl _);have h2 := natS_ge (v := sval b) (k := s.size) (by rw [← ht]; exact hc)
   omega
  have hne : ((s.size : Int) != (t.size : Int)) = true := by simp; omega
  have HV := Lib.hid hv;clear hs ht hv;go_enter Tryz.func208, Tryz.ntmps208;go_wp2_with fail;refine (HA.out _).mono ?_;rintro e w' ⟨rfl, rfl⟩;go_wp2_with fail;refine (HB.out _).mono ?_;rintro e w' ⟨rfl, rfl⟩;go_wp2_with fail;go_ret;exact ⟨by rw [cmpI_lt HV.out]; rfl, rfl⟩
 ·have hne : ((s.size : Int) != (t.size : Int)) = false := by simp; omega
  have HC := Lib.hid hc;have hinj : s.toList = t.toList → sval a = sval b := fun e => by
   have : s = t := by rw [ByteArray.toList_eq, ByteArray.toList_eq] at e; exact ByteArray.ext (Array.toList_inj.1 e)
   rw [← HS.out, ← HT.out, this]
  have hback : sval a = sval b → s.toList = t.toList := fun e => by rw [hs, ht, e]
  have HI := Lib.hid hinj;have HK := Lib.hid hback;clear hs ht hc hinj hback;go_enter Tryz.func208, Tryz.ntmps208;go_wp2_with fail;refine (HA.out _).mono ?_;rintro e w' ⟨rfl, rfl⟩;go_wp2_with fail;refine (HB.out _).mono ?_;rintro e w' ⟨rfl, rfl⟩;go_wp2_with fail
  ·have h1 := cmp_less HC.out true (by assumption);go_ret;rw [HS.out, HT.out] at h1;exact ⟨by rw [cmpI_lt (by simpa using h1.symm)]; rfl, rfl⟩
  ·have h1 := cmp_less HC.out false (by assumption);have h2 : (!s.toList == t.toList) = true := by assumption
   go_ret;rw [HS.out, HT.out] at h1;have h3 : ¬ sval a < sval b := by simpa using h1.symm
   have h4 : sval a ≠ sval b := fun e => by rw [HK.out e] at h2; simp at h2
   exact ⟨by rw [cmpI_gt (by omega)]; rfl, rfl⟩
  ·have h2 : (!s.toList == t.toList) = false := by assumption
   go_ret;exact ⟨by rw [cmpI_eq (HI.out (by simpa using h2))]; rfl, rfl⟩
 ·have hv : sval b < sval a := by
   have h1 := natS_lt (v := sval b) (k := t.size) (by rw [← ht]; exact Nat.le_refl _);have h2 := natS_ge (v := sval a) (k := t.size) (by rw [← hs]; exact hc)
   omega
  have hne : ((s.size : Int) != (t.size : Int)) = true := by simp; omega
  have HV := Lib.hid hv;clear hs ht hv;go_enter Tryz.func208, Tryz.ntmps208;go_wp2_with fail;refine (HA.out _).mono ?_;rintro e w' ⟨rfl, rfl⟩;go_wp2_with fail;refine (HB.out _).mono ?_;rintro e w' ⟨rfl, rfl⟩;go_wp2_with fail;go_ret;exact ⟨by rw [cmpI_gt HV.out]; rfl, rfl⟩
structure IDg (w : World) (A : Option Addr) (n c : Nat) (xs : List Nat) : Prop where
 len : xs.length = n
 cap : n ≤ c
 lt : R.Lt24 xs
 at_ : 0 < n → ∃ b o, A = some ⟨b, o, none⟩ ∧ ∀ j d : Nat, xs[j]? = some d → w.cell? ⟨b, o + j, none⟩ = some (.int .i64 (d : Int))
theorem IDg.get {w : World} {A : Option Addr} {n c k : Nat} {xs : List Nat} (h : IDg w A n c xs) (hk : k < n) :
 ∃ b o d, A = some ⟨b, o, none⟩ ∧ xs[k]? = some d ∧ d < 16777216 ∧ w.cell? ⟨b, o + k, none⟩ = some (.int .i64 (d : Int)) := by
 obtain ⟨b, o, e, hc⟩ := h.at_ (by omega);have hl : k < xs.length := by have := h.len; omega
 exact ⟨b, o, xs[k], e, List.getElem?_eq_getElem hl, h.lt _ _ (List.getElem?_eq_getElem hl), hc k _ (List.getElem?_eq_getElem hl)⟩
theorem IDg.below {w w' : World} {A : Option Addr} {n c : Nat} {xs : List Nat} (h : IDg w A n c xs) (hb : Below w.heap.size w w') : IDg w' A n c xs := by
 refine ⟨h.len, h.cap, h.lt, fun hn => ?_⟩;obtain ⟨b, o, e, hc⟩ := h.at_ hn;refine ⟨b, o, e, fun j d hd => ?_⟩;have h1 := hc j d hd;exact (hb.cell (p := ⟨b, o + j, none⟩) (block_lt_of_cell h1)).trans h1
theorem IDg.nil_ (w : World) (A : Option Addr) (c : Nat) : IDg w A 0 c [] := ⟨rfl, Nat.zero_le _, R.Lt24.nil, fun h => absurd h (by omega)⟩
theorem IDg.take {w : World} {A : Option Addr} {n c m : Nat} {xs : List Nat} (h : IDg w A n c xs) (hm : m ≤ n) : IDg w A m c (xs.take m) := by
 have hl := h.len;refine ⟨by rw [List.length_take]; omega, by have := h.cap; omega, h.lt.take m, fun hn => ?_⟩;obtain ⟨b, o, e, hc⟩ := h.at_ (by omega);refine ⟨b, o, e, fun j d hd => hc j d ?_⟩;rw [List.getElem?_take] at hd
 split at hd
 ·exact hd
 ·cases hd
theorem idg_al {w : World} {A : Option Addr} {n c : Nat} {xs : List Nat} (h : IDg w A n c xs) (o : Obj) : IDg (w.alloc o) A n c xs := h.below ((Below.refl _ _).alloc (Nat.le_refl _) _)
def i64s (xs : List Nat) : List Value := xs.map fun d : Nat => Value.int .i64 (d : Int)
theorem i64s_len (xs : List Nat) : (i64s xs).length = xs.length := by simp [i64s]
theorem i64s_snoc (xs : List Nat) (d : Nat) : i64s xs ++ [.int .i64 (d : Int)] = i64s (xs ++ [d]) := by simp [i64s]
theorem i64s_get {xs : List Nat} {j d : Nat} (h : xs[j]? = some d) : (i64s xs)[j]? = some (.int .i64 (d : Int)) := by simp [i64s, h]
def Own24 (B : Nat) (w : World) (v : Value) (xs : List Nat) : Prop := w.ownsRow B 3 1 v xs.length (i64s xs)
theorem Own24.nil_ (B : Nat) (w : World) : Own24 B w (.slice none 0 0) [] := ⟨rfl, .inl ⟨rfl, rfl⟩⟩
theorem Own24.dig {B : Nat} {w : World} {v : Value} {xs : List Nat} (h : Own24 B w v xs) (hl : R.Lt24 xs) : ∃ A c, v = .slice A xs.length c ∧ IDg w A xs.length c xs := by
 rcases h.2 with ⟨rfl, hn⟩ | ⟨g, cap, cur, rfl, _, hh, hc, _, _, ht⟩
 ·refine ⟨none, 0, by rw [hn], rfl, by omega, hl, fun h0 => absurd h0 (by omega)⟩
 ·refine ⟨_, cap, rfl, rfl, hc, hl, fun _ => ⟨g, 0, rfl, fun j d hd => ?_⟩⟩;have h1 := h.cells (g := g) rfl j _ (i64s_get hd);rwa [add_addr] at h1
theorem int_info : (Tryz.prog.info? 3).map (fun i => (i.zero, i.size, i.bytes)) = some (some (.int .i64 0), 1, 8) := by kernel_rfl
def GivesI (w' : World) (v : Nat) (e : Ending) : Prop := ∃ (A : Option Addr) (n c : Nat) (xs : List Nat), e = .returned (.slice A n c) ∧ IDg w' A n c xs ∧ R.Trim xs ∧ R.val xs = v
theorem rTrim (A : Option Addr) (n c : Nat) (xs : List Nat) (w : World) (h : IDg w A n c xs) (hn : n ≤ 100000000) :
 Calls Tryz.prog 211 #[.slice A n c] w fun e w' => Trimmed A n c xs e ∧ w = w' := by
 have hcap := h.cap;go_enter Tryz.func211, Tryz.ntmps211
 go_wp2
 go_loop [0] (fun t => ∃ m : Nat, m ≤ n ∧ t = .slice A m c ∧ ∀ j d : Nat, m ≤ j → xs[j]? = some d → d = 0) (fun t => lenOf t)
 case atStart => exact ⟨n, Nat.le_refl _, rfl, fun j d hj hd => by have := h.len; have := (List.getElem?_eq_some_iff.1 hd).1; omega⟩
 case round =>
  obtain ⟨m, hm, rfl, hz⟩ := hrel;have HZ := Lib.hid hz;clear hz
  by_cases h0 : 0 < m
  ·obtain ⟨b, o, d, rfl, hd, hlt, hc⟩ := h.get (k := m - 1) (by omega);have HD := Lib.hid hd;clear hd
   by_cases hd0 : d = 0
   ·subst hd0
    go_wp2
    go_round
    case rel =>
     refine ⟨m - 1, by omega, rfl, fun j d hj hd => ?_⟩
     by_cases e : j = m - 1
     ·subst e; have := HD.out; rw [this] at hd; simpa using hd.symm
     ·exact HZ.out j d (by omega) hd
    case measure => simp [lenOf]; omega
   ·have hb : ((d : Int) == 0) = false := by simpa using hd0
    go_wp2
    go_ret;exact ⟨⟨m, hm, rfl, HZ.out, fun _ => ⟨d, HD.out, hd0⟩⟩, rfl⟩
  ·obtain rfl : m = 0 := by omega
   go_wp2
   go_ret;exact ⟨⟨0, hm, rfl, HZ.out, fun h => absurd h (by omega)⟩, rfl⟩
theorem rTrim_gives (A : Option Addr) (n c : Nat) (xs : List Nat) (w : World) (h : IDg w A n c xs) (hn : n ≤ 100000000) :
 Calls Tryz.prog 211 #[.slice A n c] w fun e w' => GivesI w (R.val xs) e ∧ w = w' := by
 refine (rTrim A n c xs w h hn).mono ?_;rintro e w' ⟨⟨m, hm, rfl, hz, hd⟩, rfl⟩;refine ⟨⟨A, m, c, xs.take m, rfl, h.take hm, fun h0 => ?_, R.val_trim hz⟩, rfl⟩;have hl := h.len;rw [List.length_take, Nat.min_eq_left (by omega)] at h0 ⊢;obtain ⟨d, hd, hne⟩ := hd h0;exact ⟨d, by rw [List.getElem?_take, if_pos (by omega)]; exact hd, hne⟩
def Signs (r : Int) (a b : Nat) : Prop := (a < b → r < 0) ∧ (a = b → r = 0) ∧ (b < a → 0 < r)
theorem rcmp (A : Option Addr) (n c : Nat) (xs : List Nat) (B : Option Addr) (m d : Nat) (ys : List Nat) (w : World) (h : IDg w A n c xs) (k : IDg w B m d ys) (hn : n ≤ 1000000) (hm : m ≤ 1000000) (tx : R.Trim xs) (ty : R.Trim ys) :
 Calls Tryz.prog 212 #[.slice A n c, .slice B m d] w fun e w' => (∃ r : Int, e = .returned (.int .i64 r) ∧ Signs r (R.val xs) (R.val ys)) ∧ Below w.heap.size w w' := by
 have lx := h.len;have ly := k.len;have LX := Lib.hid lx;have LY := Lib.hid ly
 rcases Nat.lt_trichotomy n m with hlt | heq | hgt
 ·have hv := ty.lt_of_len h.lt (by omega : xs.length < ys.length);clear lx ly;have hb : ((n : Int) != (m : Int)) = true := by simp; omega
  go_enter Tryz.func212, Tryz.ntmps212;go_wp2_with fail;go_ret;exact ⟨⟨_, rfl, fun _ => by omega, fun e => by omega, fun e => by omega⟩, Below.refl _ _⟩
 ·subst heq;clear lx ly;go_enter Tryz.func212, Tryz.ntmps212;go_wp2_with fail
  go_loopw [5] (fun s5 wr => ∃ i : Nat, i ≤ n ∧ s5 = .int .i64 ((i : Int) - 1) ∧ Hid (xs.drop i = ys.drop i) ∧ Below w.heap.size w wr) (fun s5 _ => (intOf s5 + 1).toNat)
  case atStart => exact ⟨n, Nat.le_refl _, rfl, by show _ = _; rw [List.drop_of_length_le (by rw [LX.out]; omega), List.drop_of_length_le (by rw [LY.out]; omega)], Below.refl _ _⟩
  case round =>
   obtain ⟨i, hi, rfl, HD, hb⟩ := hrel
   by_cases h0 : 0 < i
   ·obtain ⟨b, o, x, rfl, hx, hxl, hxc⟩ := (h.below hb).get (k := i - 1) (by omega);obtain ⟨b2, o2, y, rfl, hy, hyl, hyc⟩ := (k.below hb).get (k := i - 1) (by omega);have HX := Lib.hid hx;have HY := Lib.hid hy;clear hx hy
    rcases Nat.lt_trichotomy x y with c1 | c1 | c1
    ·have hne : ((x : Int) != (y : Int)) = true := by simp; omega
     have hwr : IntKind.i64.wrap ((x : Int) - (y : Int)) = (x : Int) - (y : Int) := IntWalk.i64_in _ (by omega);go_wp2_with fail
     go_quiet (fail)
     go_wp2_with fail
     go_quiet (fail)
     go_wp2_with fail;go_ret;have hv := R.val_lt_at HX.out HY.out (by rw [show i - 1 + 1 = i by omega]; exact HD.out) h.lt c1;exact ⟨⟨_, rfl, fun _ => by omega, fun e => by omega, fun e => by omega⟩, below_drewN (below_drewN hb _) _⟩
    ·subst c1;go_wp2_with fail
     go_quiet (fail)
     go_wp2_with fail;go_roundw
     case rel =>
      refine ⟨i - 1, by omega, by go_num, ?_, below_drewN hb _⟩;show _ = _;rw [drop_cons HX.out, drop_cons HY.out, show i - 1 + 1 = i by omega, HD.out]
     case measure => simp [intOf]; omega
    ·have hne : ((x : Int) != (y : Int)) = true := by simp; omega
     have hwr : IntKind.i64.wrap ((x : Int) - (y : Int)) = (x : Int) - (y : Int) := IntWalk.i64_in _ (by omega);go_wp2_with fail
     go_quiet (fail)
     go_wp2_with fail
     go_quiet (fail)
     go_wp2_with fail;go_ret;have hv := R.val_lt_at HY.out HX.out (by rw [show i - 1 + 1 = i by omega]; exact HD.out.symm) k.lt c1;exact ⟨⟨_, rfl, fun _ => by omega, fun e => by omega, fun e => by omega⟩, below_drewN (below_drewN hb _) _⟩
   ·obtain rfl : i = 0 := by omega
    go_wp2_with fail;go_ret;have hv : xs = ys := HD.out;rw [hv];exact ⟨⟨_, rfl, fun e => by omega, fun e => rfl, fun e => by omega⟩, hb⟩
 ·have hv := tx.lt_of_len k.lt (by omega : ys.length < xs.length);clear lx ly;have hb : ((n : Int) != (m : Int)) = true := by simp; omega
  go_enter Tryz.func212, Tryz.ntmps212;go_wp2_with fail;go_ret;exact ⟨⟨_, rfl, fun _ => by omega, fun e => by omega, fun e => by omega⟩, Below.refl _ _⟩
end Go.Proofs.YtkpinmejfdnhbaaGreatDoor
