/- The law RatioMakes: it returns true. -/
import Derived.Test.YtikdkhmeaoafmaaGreatDoorRatLawA
namespace Go.Proofs.YtikdkhmeaoafmaaGreatDoor
open Go.RowKit

theorem sm_any (g : Bool) {a b : ByteArray} {k : Nat} (ha : a.size ≤ k) (hb : b.size ≤ k) (hk : 0 < k) : Sm k (mkRat (signed g (sval a)) (sval b)) := by
  by_cases h : sval b = 0
  · rw [h, Rat.mkRat_zero]; exact sm_zero _ hk
  · exact sm_mk _ (P8_up (sval_lt a) ha) (P8_up (sval_lt b) hb) h
theorem make_words (g : Bool) {a b : ByteArray} (ha : a.size ≤ 100) (hb : b.size ≤ 100) : ∃ (x : Bool) (y z : ByteArray) (u : Bool), Ret 17 #[.bool g, .string a, .string b] (.tuple #[ratW x y z, .bool u]) ∧ Ret 18 #[.bool g, .string a, .string b] (.tuple #[ratW x y z, .bool u]) := by
  have hs := sm_any g ha hb (by omega)
  have p1 := Make_q g a b (by omega) (by omega) (hs.mono (by omega))
  have p2 := rMake_q g a b (by omega) (by omega) (hs.mono (by omega))
  unfold makeQ at p1 p2
  by_cases h : rightB a = true ∧ rightB b = true ∧ b.size ≠ 0
  · rw [if_pos h] at p1 p2
    obtain ⟨x, y, z, e, -⟩ := words hs
    rw [e] at p1 p2
    exact ⟨x, y, z, true, p1, p2⟩
  · rw [if_neg h] at p1 p2
    exact ⟨false, ⟨#[]⟩, ⟨#[]⟩, false, p1, p2⟩

set_option maxRecDepth 100000 in
set_option maxHeartbeats 4000000 in
theorem RatioMakes_any (ng : Bool) (s0 s1 : ByteArray) (n : Int) (w : World) (ht : Pow10 w) (hs : s0.size ≤ 9223372036854775807 ∧ s1.size ≤ 9223372036854775807) (hn : -9223372036854775808 ≤ n ∧ n ≤ 9223372036854775807) :
    Calls Tryz.prog 4 #[.bool ng, .agg #[.string s0, .string s1], .int .i64 n] w fun e w' => e = .returned (.bool true) ∧ Below w.heap.size w w' := by
  have HT := Lib.hid ht
  clear ht
  obtain ⟨hs0, hs1⟩ := hs
  obtain ⟨m0, hm0⟩ : ∃ m, m = min s0.size 20 := ⟨_, rfl⟩
  obtain ⟨m1, hm1⟩ : ∃ m, m = min s1.size 20 := ⟨_, rfl⟩
  have z0 : (s0.extract 0 m0).size = m0 := by rw [ByteArray.size_extract]; omega
  have z1 : (s1.extract 0 m1).size = m1 := by rw [ByteArray.size_extract]; omega
  obtain ⟨g1, a1, b1, u1, p1, p2⟩ := make_words ng (a := s0.extract 0 m0) (b := s1.extract 0 m1) (by omega) (by omega)
  obtain ⟨r, p3, l3, u3⟩ := mod_int n (m := 1099511627776) (by omega) (by omega)
  obtain ⟨ra, p4, -, -, sa⟩ := of_str l3 (by omega)
  obtain ⟨rb, p5, -, -, sb⟩ := of_str (n := 1 + (m0 : Int)) (by omega) (by omega)
  obtain ⟨g2, a2, b2, u2, p6, p7⟩ := make_words ng (a := ra) (b := rb) (by omega) (by omega)
  have hsn : Sm 8 (n : Rat) := ⟨by show n.natAbs < 18446744073709551616; omega, by show 1 < 18446744073709551616; omega⟩
  obtain ⟨g3, a3, b3, e3, -, -, -, s3, s4, -⟩ := words hsn
  have p8 := Of_q n hn.1 hn.2
  have p9 := rOf_q n hn.1 hn.2
  have p10 := Right_q g3 a3 b3 (by omega) (by omega)
  rw [e3] at p8 p9
  rw [show rRightB g3 a3 b3 = true by
    have h := (ratOf_words (n : Rat)).1
    unfold ratV at e3
    simp only [Value.agg.injEq, Array.mk.injEq, List.cons.injEq, Value.bool.injEq, Value.string.injEq, and_true] at e3
    rw [e3.1, e3.2.1, e3.2.2] at h
    exact h] at p10
  have c1 := Lib.hid p1
  have c2 := Lib.hid p2
  have c3 := Lib.hid p3
  have c4 := Lib.hid p4
  have c5 := Lib.hid p5
  have c6 := Lib.hid p6
  have c7 := Lib.hid p7
  have c8 := Lib.hid p8
  have c9 := Lib.hid p9
  have c10 := Lib.hid p10
  have x1 : min (s0.size : Int) 20 = (m0 : Int) := by omega
  have x2 : min (s1.size : Int) 20 = (m1 : Int) := by omega
  have x3 : m0 ≤ s0.size := by omega
  have x4 : m1 ≤ s1.size := by omega
  have x5 : m0 ≤ 20 := by omega
  have x6 : (0 : Int) ≤ (m0 : Int) := by omega
  have x7 : (0 : Int) ≤ (m1 : Int) := by omega
  have x8 : (m0 : Int) ≤ (s0.size : Int) := by omega
  have x9 : (m1 : Int) ≤ (s1.size : Int) := by omega
  have heq : ∀ s : ByteArray, (s.toList == s.toList) = true := fun s => by simp
  clear p1 p2 p3 p4 p5 p6 p7 p8 p9 p10 e3 hsn hm0 hm1 z1
  go_enter Tryz.func4, Tryz.ntmps4
  go_upto_region 1 with fail
  obtain ⟨W0, hW0⟩ : ∃ W0, w.alloc (.cells #[.string s0, .string s1] 36) = W0 := ⟨_, rfl⟩
  have hkx : Blk W0 w.heap.size 36 #[.string s0, .string s1] := hW0 ▸ Blk.new _ _ _
  have hB : Below w.heap.size w W0 := hW0 ▸ below_al (Below.refl _ _) _
  rw [hW0]
  clear hW0
  go_upto_region 2 with (first
    | (go_at_call 10; (with_reducible refine (sanity_q _ (HT.out.below hB)).mono ?_); rintro e w' ⟨rfl, hb'⟩; replace hB := below_then hB hb'; replace hkx := hkx.belowK hb'; clear hb'))
  obtain ⟨hx0, hx1⟩ := hkx.kept2 (Below.refl _ _)
  go_upto_region 4 with fail
  generalize s0.extract 0 m0 = num at *
  generalize s1.extract 0 m1 = den at *
  clear hx0 hx1 hkx x1 x2 x3 x4 x7 x8 x9
  go_upto_region 5 with (first
    | (go_at_call 17; (with_reducible refine (c1.out _).mono ?_); rintro e w' ⟨rfl, hb'⟩; replace hB := below_then hB hb'; clear hb'))
  have hka := Blk.new w' 27 #[.bool g1, .string a1, .string b1]
  replace hB := below_al hB (.cells #[.bool g1, .string a1, .string b1] 27)
  generalize w'.alloc (.cells #[.bool g1, .string a1, .string b1] 27) = wa at hB  hka ⊢
  generalize w'.heap.size = khka at hka ⊢
  go_upto_region 6 with (first
    | (go_at_call 18; (with_reducible refine (c2.out _).mono ?_); rintro e w' ⟨rfl, hb'⟩; replace hB := below_then hB hb'; replace hka := hka.belowK hb'; clear hb'))
  replace hka := hka.alloc (.cells #[.bool g1, .string a1, .string b1] 27)
  have hkb := Blk.new w' 27 #[.bool g1, .string a1, .string b1]
  replace hB := below_al hB (.cells #[.bool g1, .string a1, .string b1] 27)
  generalize w'.alloc (.cells #[.bool g1, .string a1, .string b1] 27) = wb at hB hka hkb ⊢
  generalize w'.heap.size = khkb at hkb ⊢
  go_upto_region 7 with (first
    | (go_at_call 15; (with_reducible refine (c3.out _).mono ?_); rintro e w' ⟨rfl, hb'⟩; replace hB := below_then hB hb'; replace hka := hka.belowK hb'; replace hkb := hkb.belowK hb'; clear hb')
    | (go_at_call 19; (with_reducible refine (c4.out _).mono ?_); rintro e w' ⟨rfl, hb'⟩; replace hB := below_then hB hb'; replace hka := hka.belowK hb'; replace hkb := hkb.belowK hb'; clear hb')
    | (go_at_call 19; (with_reducible refine (c5.out _).mono ?_); rintro e w' ⟨rfl, hb'⟩; replace hB := below_then hB hb'; replace hka := hka.belowK hb'; replace hkb := hkb.belowK hb'; clear hb')
    | (go_at_call 17; (with_reducible refine (c6.out _).mono ?_); rintro e w' ⟨rfl, hb'⟩; replace hB := below_then hB hb'; replace hka := hka.belowK hb'; replace hkb := hkb.belowK hb'; clear hb'))
  replace hka := hka.alloc (.cells #[.bool g2, .string a2, .string b2] 27)
  replace hkb := hkb.alloc (.cells #[.bool g2, .string a2, .string b2] 27)
  have hkc := Blk.new w' 27 #[.bool g2, .string a2, .string b2]
  replace hB := below_al hB (.cells #[.bool g2, .string a2, .string b2] 27)
  generalize w'.alloc (.cells #[.bool g2, .string a2, .string b2] 27) = wd at hB hka hkb hkc ⊢
  generalize w'.heap.size = khkc at hkc ⊢
  go_upto_region 8 with (first
    | (go_at_call 15; (with_reducible refine (c3.out _).mono ?_); rintro e w' ⟨rfl, hb'⟩; replace hB := below_then hB hb'; replace hka := hka.belowK hb'; replace hkb := hkb.belowK hb'; replace hkc := hkc.belowK hb'; clear hb')
    | (go_at_call 19; (with_reducible refine (c4.out _).mono ?_); rintro e w' ⟨rfl, hb'⟩; replace hB := below_then hB hb'; replace hka := hka.belowK hb'; replace hkb := hkb.belowK hb'; replace hkc := hkc.belowK hb'; clear hb')
    | (go_at_call 19; (with_reducible refine (c5.out _).mono ?_); rintro e w' ⟨rfl, hb'⟩; replace hB := below_then hB hb'; replace hka := hka.belowK hb'; replace hkb := hkb.belowK hb'; replace hkc := hkc.belowK hb'; clear hb')
    | (go_at_call 18; (with_reducible refine (c7.out _).mono ?_); rintro e w' ⟨rfl, hb'⟩; replace hB := below_then hB hb'; replace hka := hka.belowK hb'; replace hkb := hkb.belowK hb'; replace hkc := hkc.belowK hb'; clear hb'))
  replace hka := hka.alloc (.cells #[.bool g2, .string a2, .string b2] 27)
  replace hkb := hkb.alloc (.cells #[.bool g2, .string a2, .string b2] 27)
  replace hkc := hkc.alloc (.cells #[.bool g2, .string a2, .string b2] 27)
  have hkd := Blk.new w' 27 #[.bool g2, .string a2, .string b2]
  replace hB := below_al hB (.cells #[.bool g2, .string a2, .string b2] 27)
  generalize w'.alloc (.cells #[.bool g2, .string a2, .string b2] 27) = we at hB hka hkb hkc hkd ⊢
  generalize w'.heap.size = khkd at hkd ⊢
  obtain ⟨chka0, chka1, chka2⟩ := cells3 hka (Below.refl _ _)
  obtain ⟨chkb0, chkb1, chkb2⟩ := cells3 hkb (Below.refl _ _)
  obtain ⟨chkc0, chkc1, chkc2⟩ := cells3 hkc (Below.refl _ _)
  obtain ⟨chkd0, chkd1, chkd2⟩ := cells3 hkd (Below.refl _ _)
  go_wp2_with (first
    | (go_at_call 20; (with_reducible refine (c8.out _).mono ?_); rintro e w' ⟨rfl, hb'⟩; replace hB := below_then hB hb'; clear hb')
    | (go_at_call 21; (with_reducible refine (c9.out _).mono ?_); rintro e w' ⟨rfl, hb'⟩; replace hB := below_then hB hb'; clear hb')
    | (go_at_call 22; (with_reducible refine (c10.out _).mono ?_); rintro e w' ⟨rfl, hb'⟩; replace hB := below_then hB hb'; clear hb'))
  go_ret
  exact ⟨rfl, hB⟩

end Go.Proofs.YtikdkhmeaoafmaaGreatDoor
