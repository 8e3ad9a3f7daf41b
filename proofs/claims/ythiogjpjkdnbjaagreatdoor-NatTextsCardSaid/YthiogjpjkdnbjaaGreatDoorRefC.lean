/- The reference's small and Cmp: what they return. -/
import Derived.Test.YthiogjpjkdnbjaaGreatDoorRefB
import Derived.Sort.Walk0
namespace Go.Proofs.YthiogjpjkdnbjaaGreatDoor
open Go.RowKit

/-- What small returns. -/
def smallRes (v k : Nat) : Value := if v < P8 k then .tuple #[.int .i64 (v : Int), .bool true] else .tuple #[.int .i64 0, .bool false]

theorem P8_mono {j k : Nat} (h : j ≤ k) : P8 j ≤ P8 k := Nat.pow_le_pow_right (by omega) h

set_option maxHeartbeats 400000 in
theorem rSmall (s : ByteArray) (k : Nat) (w : World) (hs : s.size ≤ 1000000) (hk : k ≤ 7) :
    Calls Tryz.prog 42 #[.string s, .int .i64 (k : Int)] w fun e w' => e = .returned (smallRes (sval s) k) ∧ w = w' := by
  obtain ⟨t, ht⟩ : ∃ t, t = natS (sval s) := ⟨_, rfl⟩
  have htl : t.size ≤ 1000000 := by rw [ht]; exact Nat.le_trans (canon_le s) hs
  have HC : Hid (∀ W, Calls Tryz.prog 28 #[.string s] W fun e w' => e = .returned (.string t) ∧ W = w') := Lib.hid (fun W => by rw [ht]; exact rCanon s W hs)
  by_cases h : t.size ≤ k
  · have hlt : sval s < P8 k := natS_lt (by rw [← ht]; exact h)
    have h7 : sval s < P8 7 := Nat.lt_of_lt_of_le hlt (P8_mono hk)
    rw [P8_7] at h7
    have HI : Hid (∀ W, Calls Tryz.prog 33 #[.string s] W fun e w' => e = .returned (.tuple #[.int .i64 (sval s : Int), .bool true]) ∧ W = w') := Lib.hid (fun W => by rw [← int_ok (by omega)]; exact rInt s W hs)
    have hR : smallRes (sval s) k = .tuple #[.int .i64 (sval s : Int), .bool true] := by unfold smallRes; rw [if_pos hlt]
    rw [hR]
    clear hR hlt h7 ht
    go_enter Tryz.func42, Tryz.ntmps42
    go_wp2_with fail
    refine (HC.out _).mono ?_
    rintro e w' ⟨rfl, rfl⟩
    go_wp2_with fail
    refine (HI.out _).mono ?_
    rintro e w' ⟨rfl, rfl⟩
    go_wp2_with fail
    go_ret2
    exact ⟨rfl, rfl⟩
  · have hge : P8 k ≤ sval s := natS_ge (by rw [← ht]; omega)
    have hR : smallRes (sval s) k = .tuple #[.int .i64 0, .bool false] := by unfold smallRes; rw [if_neg (by omega)]
    rw [hR]
    clear hR hge ht
    go_enter Tryz.func42, Tryz.ntmps42
    go_wp2_with fail
    refine (HC.out _).mono ?_
    rintro e w' ⟨rfl, rfl⟩
    go_wp2_with fail
    go_ret2
    exact ⟨rfl, rfl⟩

theorem lex_bv : ∀ (l m : List UInt8), l.length = m.length → (l < m ↔ bv l < bv m)
  | [], [], _ => by simp
  | [], _ :: _, h => by simp at h
  | _ :: _, [], h => by simp at h
  | x :: l, y :: m, h => by
    have hl : l.length = m.length := by simpa using h
    have ih := lex_bv l m hl
    have h1 := bv_lt l
    have h2 := bv_lt m
    rw [List.cons_lt_cons_iff, bv_cons, bv_cons, hl, UInt8.lt_iff_toNat_lt, ih, ← UInt8.toNat_inj]
    rw [hl] at h1
    generalize P8 m.length = p at h1 h2 ⊢
    constructor
    · rintro (h3 | ⟨h3, h4⟩)
      · have := Nat.mul_le_mul_right p (show x.toNat + 1 ≤ y.toNat from h3)
        rw [Nat.add_mul] at this
        omega
      · rw [h3]; omega
    · intro h3
      rcases Nat.lt_trichotomy x.toNat y.toNat with h4 | h4 | h4
      · exact .inl h4
      · rw [h4] at h3; exact .inr ⟨h4, by omega⟩
      · have := Nat.mul_le_mul_right p (show y.toNat + 1 ≤ x.toNat from h4)
        rw [Nat.add_mul] at this
        omega

theorem cmp_less {s t : ByteArray} (h : s.size = t.size) (b : Bool) (hb : Op.bytesLess s.toList t.toList = b) : b = decide (sval s < sval t) := by
  rw [← hb, Proofs.bytesLess_eq, ByteArray.toList_eq, ByteArray.toList_eq, decide_eq_decide]
  exact lex_bv _ _ (by rw [size_len, size_len, h])

set_option maxHeartbeats 400000 in
theorem rCmp (a b : ByteArray) (w : World) (ha : a.size ≤ 1000000) (hb : b.size ≤ 1000000) :
    Calls Tryz.prog 41 #[.string a, .string b] w fun e w' => e = .returned (.int .i64 (cmpI (sval a) (sval b))) ∧ w = w' := by
  obtain ⟨s, hs⟩ : ∃ s, s = natS (sval a) := ⟨_, rfl⟩
  obtain ⟨t, ht⟩ : ∃ t, t = natS (sval b) := ⟨_, rfl⟩
  have hsl : s.size ≤ 1000000 := by rw [hs]; exact Nat.le_trans (canon_le a) ha
  have htl : t.size ≤ 1000000 := by rw [ht]; exact Nat.le_trans (canon_le b) hb
  have HA : Hid (∀ W, Calls Tryz.prog 28 #[.string a] W fun e w' => e = .returned (.string s) ∧ W = w') := Lib.hid (fun W => by rw [hs]; exact rCanon a W ha)
  have HB : Hid (∀ W, Calls Tryz.prog 28 #[.string b] W fun e w' => e = .returned (.string t) ∧ W = w') := Lib.hid (fun W => by rw [ht]; exact rCanon b W hb)
  have HS : Hid (sval s = sval a) := Lib.hid (by rw [hs, sval_natS])
  have HT : Hid (sval t = sval b) := Lib.hid (by rw [ht, sval_natS])
  rcases Nat.lt_trichotomy s.size t.size with hc | hc | hc
  · have hv : sval a < sval b := by
      have h1 := natS_lt (v := sval a) (k := s.size) (by rw [← hs]; exact Nat.le_refl _)
      have h2 := natS_ge (v := sval b) (k := s.size) (by rw [← ht]; exact hc)
      omega
    have hne : ((s.size : Int) != (t.size : Int)) = true := by simp; omega
    have HV := Lib.hid hv
    clear hs ht hv
    go_enter Tryz.func41, Tryz.ntmps41
    go_wp2_with fail
    refine (HA.out _).mono ?_
    rintro e w' ⟨rfl, rfl⟩
    go_wp2_with fail
    refine (HB.out _).mono ?_
    rintro e w' ⟨rfl, rfl⟩
    go_wp2_with fail
    go_ret
    exact ⟨by rw [cmpI_lt HV.out]; rfl, rfl⟩
  · have hne : ((s.size : Int) != (t.size : Int)) = false := by simp; omega
    have HC := Lib.hid hc
    have hinj : s.toList = t.toList → sval a = sval b := fun e => by
      have : s = t := by rw [ByteArray.toList_eq, ByteArray.toList_eq] at e; exact ByteArray.ext (Array.toList_inj.1 e)
      rw [← HS.out, ← HT.out, this]
    have hback : sval a = sval b → s.toList = t.toList := fun e => by rw [hs, ht, e]
    have HI := Lib.hid hinj
    have HK := Lib.hid hback
    clear hs ht hc hinj hback
    go_enter Tryz.func41, Tryz.ntmps41
    go_wp2_with fail
    refine (HA.out _).mono ?_
    rintro e w' ⟨rfl, rfl⟩
    go_wp2_with fail
    refine (HB.out _).mono ?_
    rintro e w' ⟨rfl, rfl⟩
    go_wp2_with fail
    · have h1 := cmp_less HC.out true (by assumption)
      go_ret
      rw [HS.out, HT.out] at h1
      exact ⟨by rw [cmpI_lt (by simpa using h1.symm)]; rfl, rfl⟩
    · have h1 := cmp_less HC.out false (by assumption)
      have h2 : (!s.toList == t.toList) = true := by assumption
      go_ret
      rw [HS.out, HT.out] at h1
      have h3 : ¬ sval a < sval b := by simpa using h1.symm
      have h4 : sval a ≠ sval b := fun e => by rw [HK.out e] at h2; simp at h2
      exact ⟨by rw [cmpI_gt (by omega)]; rfl, rfl⟩
    · have h2 : (!s.toList == t.toList) = false := by assumption
      go_ret
      exact ⟨by rw [cmpI_eq (HI.out (by simpa using h2))]; rfl, rfl⟩
  · have hv : sval b < sval a := by
      have h1 := natS_lt (v := sval b) (k := t.size) (by rw [← ht]; exact Nat.le_refl _)
      have h2 := natS_ge (v := sval a) (k := t.size) (by rw [← hs]; exact hc)
      omega
    have hne : ((s.size : Int) != (t.size : Int)) = true := by simp; omega
    have HV := Lib.hid hv
    clear hs ht hv
    go_enter Tryz.func41, Tryz.ntmps41
    go_wp2_with fail
    refine (HA.out _).mono ?_
    rintro e w' ⟨rfl, rfl⟩
    go_wp2_with fail
    refine (HB.out _).mono ?_
    rintro e w' ⟨rfl, rfl⟩
    go_wp2_with fail
    go_ret
    exact ⟨by rw [cmpI_gt HV.out]; rfl, rfl⟩

end Go.Proofs.YthiogjpjkdnbjaaGreatDoor
