/- The laws RatioSums and RatioOrder: they return true. -/
import Derived.Test.YtikdkhmeaoafmaaGreatDoorRatSan
namespace Go.Proofs.YtikdkhmeaoafmaaGreatDoor
open Go.RowKit

theorem quo_words {j k : Nat} {x y : Rat} (hx : Sm j x) (hy : Sm k y) : ∃ (g : Bool) (a b : ByteArray) (u : Bool), quoQ x y = .tuple #[ratW g a b, .bool u] := by
  unfold quoQ
  split
  · exact ⟨_, _, _, _, rfl⟩
  · rename_i h
    obtain ⟨g, a, b, e, -⟩ := words (hx.quo hy h)
    exact ⟨g, a, b, true, by rw [e]⟩
/-- A number that Made makes, with its words. -/
theorem made_words (q0 q1 q2 : Int) : ∃ (x : Rat) (g : Bool) (a b : ByteArray), Sm 20 x ∧ ratV x = ratW g a b ∧ ratOf g a b = x ∧ a.size ≤ 20 ∧ b.size ≤ 20 ∧ Ret 11 #[.agg #[.int .i64 q0, .int .i64 q1, .int .i64 q2]] (ratW g a b) := by
  obtain ⟨x, g, a, b, hx, e, hr⟩ := Made_q q0 q1 q2
  obtain ⟨g', a', b', e', -, -, -, s1, s2, eo⟩ := words hx
  rw [e'] at e
  simp only [Value.agg.injEq, Array.mk.injEq, List.cons.injEq, Value.bool.injEq, Value.string.injEq, and_true] at e
  obtain ⟨rfl, rfl, rfl⟩ := e
  exact ⟨x, g', a', b', hx, e', eo, s1, s2, hr⟩
/-- The blocks of two parameters. -/
theorem new_qq (w : World) (x0 x1 x2 y0 y1 y2 : Int) : ∃ W0 : World, (w.alloc (.cells #[.int .i64 x0, .int .i64 x1, .int .i64 x2] 22)).alloc (.cells #[.int .i64 y0, .int .i64 y1, .int .i64 y2] 22) = W0 ∧
    Blk W0 w.heap.size 22 #[.int .i64 x0, .int .i64 x1, .int .i64 x2] ∧ Blk W0 (w.heap.size + 1) 22 #[.int .i64 y0, .int .i64 y1, .int .i64 y2] ∧ Below w.heap.size w W0 :=
  ⟨_, rfl, (Blk.new _ _ _).alloc _, Blk.new2 _ _ _ _, below_al (below_al (Below.refl _ _) _) _⟩

set_option maxRecDepth 100000 in
set_option maxHeartbeats 4000000 in
theorem RatioSums_any (x0 x1 x2 y0 y1 y2 : Int) (w : World) (ht : Pow10 w) :
    Calls Tryz.prog 7 #[.agg #[.int .i64 x0, .int .i64 x1, .int .i64 x2], .agg #[.int .i64 y0, .int .i64 y1, .int .i64 y2]] w fun e w' => e = .returned (.bool true) ∧ Below w.heap.size w w' := by
  have HT := Lib.hid ht
  clear ht
  obtain ⟨X, g1, a1, b1, hx, e1, o1, s1, s2, p1⟩ := made_words x0 x1 x2
  obtain ⟨Y, g2, a2, b2, hy, e2, o2, s3, s4, p2⟩ := made_words y0 y1 y2
  obtain ⟨g3, a3, b3, u3, e3⟩ := quo_words hx hy
  obtain ⟨g4, a4, b4, e4, -⟩ := words (hx.add hy)
  obtain ⟨g5, a5, b5, e5, -⟩ := words (hx.sub hy)
  obtain ⟨g6, a6, b6, e6, -⟩ := words (hx.mul hy)
  obtain ⟨g7, a7, b7, e7, -⟩ := words hx.neg
  have p := Quo_q g1 a1 b1 g2 a2 b2 (by omega) (by omega) (by omega) (by omega)
  rw [o1, o2, e3] at p
  have q1 := Lib.hid p
  clear p
  have p := rQuo_q g1 a1 b1 g2 a2 b2 (by omega) (by omega) (by omega) (by omega)
  rw [o1, o2, e3] at p
  have q2 := Lib.hid p
  clear p
  have p := Add_q g1 a1 b1 g2 a2 b2 (by omega) (by omega) (by omega) (by omega)
  rw [o1, o2, e4] at p
  have d1 := Lib.hid p
  clear p
  have p := rAdd_q g1 a1 b1 g2 a2 b2 (by omega) (by omega) (by omega) (by omega)
  rw [o1, o2, e4] at p
  have d2 := Lib.hid p
  clear p
  have p := Sub_q g1 a1 b1 g2 a2 b2 (by omega) (by omega) (by omega) (by omega)
  rw [o1, o2, e5] at p
  have d3 := Lib.hid p
  clear p
  have p := rSub_q g1 a1 b1 g2 a2 b2 (by omega) (by omega) (by omega) (by omega)
  rw [o1, o2, e5] at p
  have d4 := Lib.hid p
  clear p
  have p := Mul_q g1 a1 b1 g2 a2 b2 (by omega) (by omega) (by omega) (by omega)
  rw [o1, o2, e6] at p
  have d5 := Lib.hid p
  clear p
  have p := rMul_q g1 a1 b1 g2 a2 b2 (by omega) (by omega) (by omega) (by omega)
  rw [o1, o2, e6] at p
  have d6 := Lib.hid p
  clear p
  have p := Cmp_q g1 a1 b1 g2 a2 b2 (by omega) (by omega) (by omega) (by omega)
  rw [o1, o2] at p
  have c1 := Lib.hid p
  clear p
  have p := rCmp_q g1 a1 b1 g2 a2 b2 (by omega) (by omega) (by omega) (by omega)
  rw [o1, o2] at p
  have c2 := Lib.hid p
  clear p
  have p := Sign_q g1 a1 b1 (by omega) (by omega)
  rw [o1] at p
  have n1 := Lib.hid p
  clear p
  have p := rSign_q g1 a1 b1 (by omega) (by omega)
  rw [o1] at p
  have n2 := Lib.hid p
  clear p
  have p := Neg_q g1 a1 b1 (by omega) (by omega)
  rw [o1, e7] at p
  have n3 := Lib.hid p
  clear p
  have p := rNeg_q g1 a1 b1 (by omega) (by omega)
  rw [o1, e7] at p
  have n4 := Lib.hid p
  clear p
  have M1 := Lib.hid p1
  have M2 := Lib.hid p2
  clear p1 p2 e1 e2 e3 e4 e5 e6 e7 o1 o2 hx hy
  generalize cmpQ X Y = cz at *
  generalize sgnQ X = sz at *
  go_enter Tryz.func7, Tryz.ntmps7
  go_upto_region 1 with fail
  obtain ⟨W0, hW0, hkx, hky, hB⟩ := new_qq w x0 x1 x2 y0 y1 y2
  rw [hW0]
  clear hW0
  go_upto_region 2 with (first
    | (go_at_call 10; (with_reducible refine (sanity_q _ (HT.out.below hB)).mono ?_); rintro e w' ⟨rfl, hb'⟩; replace hB := below_then hB hb'; replace hkx := hkx.belowK hb'; replace hky := hky.belowK hb'; clear hb'))
  obtain ⟨chkx0, chkx1, chkx2⟩ := cells3 hkx (Below.refl _ _)
  go_upto_region 3 with (first
    | (go_at_call 11; (with_reducible refine (M1.out _).mono ?_); rintro e w' ⟨rfl, hb'⟩; replace hB := below_then hB hb'; replace hkx := hkx.belowK hb'; replace hky := hky.belowK hb'; clear hb'))
  clear chkx0 chkx1 chkx2
  replace hkx := hkx.alloc (.cells #[.bool g1, .string a1, .string b1] 27)
  replace hky := hky.alloc (.cells #[.bool g1, .string a1, .string b1] 27)
  have hka := Blk.new w' 27 #[.bool g1, .string a1, .string b1]
  replace hB := below_al hB (.cells #[.bool g1, .string a1, .string b1] 27)
  generalize w'.alloc (.cells #[.bool g1, .string a1, .string b1] 27) = wa at hB hkx hky hka ⊢
  generalize w'.heap.size = khka at hka ⊢
  obtain ⟨chky0, chky1, chky2⟩ := cells3 hky (Below.refl _ _)
  go_upto_region 4 with (first
    | (go_at_call 11; (with_reducible refine (M2.out _).mono ?_); rintro e w' ⟨rfl, hb'⟩; replace hB := below_then hB hb'; replace hka := hka.belowK hb'; replace hky := hky.belowK hb'; clear hb'))
  clear chky0 chky1 chky2
  replace hka := hka.alloc (.cells #[.bool g2, .string a2, .string b2] 27)
  have hkb := Blk.new w' 27 #[.bool g2, .string a2, .string b2]
  replace hB := below_al hB (.cells #[.bool g2, .string a2, .string b2] 27)
  generalize w'.alloc (.cells #[.bool g2, .string a2, .string b2] 27) = wb at hB hka hkb ⊢
  generalize w'.heap.size = khkb at hkb ⊢
  obtain ⟨chka0, chka1, chka2⟩ := cells3 hka (Below.refl _ _)
  obtain ⟨chkb0, chkb1, chkb2⟩ := cells3 hkb (Below.refl _ _)
  go_upto_region 5 with (first
    | (go_at_call 31; (with_reducible refine (q1.out _).mono ?_); rintro e w' ⟨rfl, hb'⟩; replace hB := below_then hB hb'; replace hka := hka.belowK hb'; replace hkb := hkb.belowK hb'; clear hb'))
  clear chka0 chka1 chka2 chkb0 chkb1 chkb2
  replace hka := hka.alloc (.cells #[.bool g3, .string a3, .string b3] 27)
  replace hkb := hkb.alloc (.cells #[.bool g3, .string a3, .string b3] 27)
  have hkp := Blk.new w' 27 #[.bool g3, .string a3, .string b3]
  replace hB := below_al hB (.cells #[.bool g3, .string a3, .string b3] 27)
  generalize w'.alloc (.cells #[.bool g3, .string a3, .string b3] 27) = wp at hB hka hkb hkp ⊢
  generalize w'.heap.size = khkp at hkp ⊢
  obtain ⟨chka0, chka1, chka2⟩ := cells3 hka (Below.refl _ _)
  obtain ⟨chkb0, chkb1, chkb2⟩ := cells3 hkb (Below.refl _ _)
  go_upto_region 6 with (first
    | (go_at_call 33; (with_reducible refine (q2.out _).mono ?_); rintro e w' ⟨rfl, hb'⟩; replace hB := below_then hB hb'; replace hka := hka.belowK hb'; replace hkb := hkb.belowK hb'; replace hkp := hkp.belowK hb'; clear hb'))
  clear chka0 chka1 chka2 chkb0 chkb1 chkb2
  replace hka := hka.alloc (.cells #[.bool g3, .string a3, .string b3] 27)
  replace hkb := hkb.alloc (.cells #[.bool g3, .string a3, .string b3] 27)
  replace hkp := hkp.alloc (.cells #[.bool g3, .string a3, .string b3] 27)
  have hkq := Blk.new w' 27 #[.bool g3, .string a3, .string b3]
  replace hB := below_al hB (.cells #[.bool g3, .string a3, .string b3] 27)
  generalize w'.alloc (.cells #[.bool g3, .string a3, .string b3] 27) = wq at hB hka hkb hkp hkq ⊢
  generalize w'.heap.size = khkq at hkq ⊢
  go_cut [12] (fun s wx => s = .bool true ∧ Below wq.heap.size wq wx)
  case first =>
    go_region_held3 (fun W : World => (W.cell? ⟨khka, 0, none⟩ = some (.bool g1) ∧ W.cell? ⟨khka, 1, none⟩ = some (.string a1) ∧ W.cell? ⟨khka, 2, none⟩ = some (.string b1)) ∧ (W.cell? ⟨khkb, 0, none⟩ = some (.bool g2) ∧ W.cell? ⟨khkb, 1, none⟩ = some (.string a2) ∧ W.cell? ⟨khkb, 2, none⟩ = some (.string b2)) ∧ (W.cell? ⟨khkp, 0, none⟩ = some (.bool g3) ∧ W.cell? ⟨khkp, 1, none⟩ = some (.string a3) ∧ W.cell? ⟨khkp, 2, none⟩ = some (.string b3)) ∧ (W.cell? ⟨khkq, 0, none⟩ = some (.bool g3) ∧ W.cell? ⟨khkq, 1, none⟩ = some (.string a3) ∧ W.cell? ⟨khkq, 2, none⟩ = some (.string b3)))
      ((refine ⟨cells3 hka ?_, cells3 hkb ?_, cells3 hkp ?_, cells3 hkq ?_⟩ <;> (repeat (first | exact Below.refl _ _ | apply Below.drew | refine below_then ?_ hz0 | refine below_then ?_ hz1 | refine below_then ?_ hz2 | refine below_then ?_ hz3 | refine below_then ?_ hz4 | refine below_then ?_ hz5))))
      (first
        | (go_at_call 27; (with_reducible refine (d1.out _).mono ?_); rintro e v0 ⟨rfl, hz0⟩)
        | (go_at_call 34; (with_reducible refine (d2.out _).mono ?_); rintro e v1 ⟨rfl, hz1⟩)
        | (go_at_call 32; (with_reducible refine (d3.out _).mono ?_); rintro e v2 ⟨rfl, hz2⟩)
        | (go_at_call 35; (with_reducible refine (d4.out _).mono ?_); rintro e v3 ⟨rfl, hz3⟩)
        | (go_at_call 29; (with_reducible refine (d5.out _).mono ?_); rintro e v4 ⟨rfl, hz4⟩)
        | (go_at_call 36; (with_reducible refine (d6.out _).mono ?_); rintro e v5 ⟨rfl, hz5⟩))
    all_goals go_wp2_with fail
    all_goals go_meet
    all_goals
      refine ⟨by first | rfl | simp, ?_⟩
      (repeat (first | exact Below.refl _ _ | apply Below.drew | refine below_then ?_ hz0 | refine below_then ?_ hz1 | refine below_then ?_ hz2 | refine below_then ?_ hz3 | refine below_then ?_ hz4 | refine below_then ?_ hz5))
  obtain ⟨rfl, hcb⟩ := hcut
  replace hB := below_then hB hcb
  replace hka := hka.belowK hcb
  replace hkb := hkb.belowK hcb
  clear hcb
  go_upto_region 7 with fail
  go_region_held3 (fun W : World => (W.cell? ⟨khka, 0, none⟩ = some (.bool g1) ∧ W.cell? ⟨khka, 1, none⟩ = some (.string a1) ∧ W.cell? ⟨khka, 2, none⟩ = some (.string b1)) ∧ (W.cell? ⟨khkb, 0, none⟩ = some (.bool g2) ∧ W.cell? ⟨khkb, 1, none⟩ = some (.string a2) ∧ W.cell? ⟨khkb, 2, none⟩ = some (.string b2)))
    ((refine ⟨cells3 hka ?_, cells3 hkb ?_⟩ <;> (repeat (first | exact Below.refl _ _ | apply Below.drew | refine below_then ?_ hz0 | refine below_then ?_ hz1 | refine below_then ?_ hz2 | refine below_then ?_ hz3 | refine below_then ?_ hz4 | refine below_then ?_ hz5))))
    (first
      | (go_at_call 37; (with_reducible refine (c1.out _).mono ?_); rintro e v0 ⟨rfl, hz0⟩)
      | (go_at_call 38; (with_reducible refine (c2.out _).mono ?_); rintro e v1 ⟨rfl, hz1⟩)
      | (go_at_call 39; (with_reducible refine (n1.out _).mono ?_); rintro e v2 ⟨rfl, hz2⟩)
      | (go_at_call 40; (with_reducible refine (n2.out _).mono ?_); rintro e v3 ⟨rfl, hz3⟩)
      | (go_at_call 30; (with_reducible refine (n3.out _).mono ?_); rintro e v4 ⟨rfl, hz4⟩)
      | (go_at_call 41; (with_reducible refine (n4.out _).mono ?_); rintro e v5 ⟨rfl, hz5⟩))
  all_goals go_wp2_with fail
  all_goals go_ret
  all_goals
    refine ⟨by first | rfl | simp, below_then hB ?_⟩
    (repeat (first | exact Below.refl _ _ | apply Below.drew | refine below_then ?_ hz0 | refine below_then ?_ hz1 | refine below_then ?_ hz2 | refine below_then ?_ hz3 | refine below_then ?_ hz4 | refine below_then ?_ hz5))

end Go.Proofs.YtikdkhmeaoafmaaGreatDoor
