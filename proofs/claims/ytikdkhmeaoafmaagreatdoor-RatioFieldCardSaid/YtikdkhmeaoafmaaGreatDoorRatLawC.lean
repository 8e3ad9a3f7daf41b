/- The law RatioField: it returns true. Printed by a program. -/
import Derived.Test.YtikdkhmeaoafmaaGreatDoorRatLawK
namespace Go.Proofs.YtikdkhmeaoafmaaGreatDoor
open Go.RowKit

theorem zero_of : ratOf false ⟨#[]⟩ ⟨#[1]⟩ = 0 := by kernel_rfl
theorem one_of : ratOf false ⟨#[1]⟩ ⟨#[1]⟩ = 1 := by kernel_rfl
theorem zero_w : ratV 0 = ratW false ⟨#[]⟩ ⟨#[1]⟩ := rfl

set_option maxRecDepth 100000 in
set_option maxHeartbeats 4000000 in
theorem RatioField_any (x0 x1 x2 y0 y1 y2 z0 z1 z2 : Int) (w : World) (ht : Pow10 w) :
    Calls Tryz.prog 6 #[.agg #[.int .i64 x0, .int .i64 x1, .int .i64 x2], .agg #[.int .i64 y0, .int .i64 y1, .int .i64 y2], .agg #[.int .i64 z0, .int .i64 z1, .int .i64 z2]] w fun e w' => e = .returned (.bool true) ∧ Below w.heap.size w w' := by
  have HT := Lib.hid ht
  clear ht
  obtain ⟨X, g1, a1, b1, hx, e1, o1, s1, t1, p1⟩ := made_words x0 x1 x2
  obtain ⟨Y, g2, a2, b2, hy, e2, o2, s2, t2, p2⟩ := made_words y0 y1 y2
  obtain ⟨Z, g3, a3, b3, hz, e3, o3, s3, t3, p3⟩ := made_words z0 z1 z2
  obtain ⟨g4, a4, b4, e4, -, -, -, s4, t4, o4⟩ := words (hx.add hy)
  obtain ⟨g5, a5, b5, e5, -, -, -, s5, t5, o5⟩ := words ((hx.add hy).add hz)
  obtain ⟨g6, a6, b6, e6, -, -, -, s6, t6, o6⟩ := words (hy.add hz)
  obtain ⟨g7, a7, b7, e7, -, -, -, s7, t7, o7⟩ := words (hx.mul hy)
  obtain ⟨g8, a8, b8, e8, -, -, -, s8, t8, o8⟩ := words ((hx.mul hy).mul hz)
  obtain ⟨g9, a9, b9, e9, -, -, -, s9, t9, o9⟩ := words (hy.mul hz)
  obtain ⟨g10, a10, b10, e10, -, -, -, s10, t10, o10⟩ := words (hx.mul hz)
  obtain ⟨g11, a11, b11, e11, -, -, -, s11, t11, o11⟩ := words (hx.mul (hy.add hz))
  obtain ⟨g12, a12, b12, e12, -, -, -, s12, t12, o12⟩ := words (hx.neg)
  obtain ⟨g13, a13, b13, e13, -, -, -, s13, t13, o13⟩ := words (hy.neg)
  obtain ⟨g14, a14, b14, e14, -, -, -, s14, t14, o14⟩ := words (hx.sub hy)
  have p := Add_q g1 a1 b1 g2 a2 b2 (by first | omega | decide) (by first | omega | decide) (by first | omega | decide) (by first | omega | decide)
  rw [o1, o2, e4] at p
  have c1 := Lib.hid p
  clear p
  have p := Add_q g2 a2 b2 g1 a1 b1 (by first | omega | decide) (by first | omega | decide) (by first | omega | decide) (by first | omega | decide)
  rw [o2, o1, Rat.add_comm Y X, e4] at p
  have c2 := Lib.hid p
  clear p
  have p := Add_q g4 a4 b4 g3 a3 b3 (by first | omega | decide) (by first | omega | decide) (by first | omega | decide) (by first | omega | decide)
  rw [o4, o3, e5] at p
  have c3 := Lib.hid p
  clear p
  have p := Add_q g2 a2 b2 g3 a3 b3 (by first | omega | decide) (by first | omega | decide) (by first | omega | decide) (by first | omega | decide)
  rw [o2, o3, e6] at p
  have c4 := Lib.hid p
  clear p
  have p := Add_q g1 a1 b1 g6 a6 b6 (by first | omega | decide) (by first | omega | decide) (by first | omega | decide) (by first | omega | decide)
  rw [o1, o6, ← Rat.add_assoc, e5] at p
  have c5 := Lib.hid p
  clear p
  have p := Mul_q g1 a1 b1 g2 a2 b2 (by first | omega | decide) (by first | omega | decide) (by first | omega | decide) (by first | omega | decide)
  rw [o1, o2, e7] at p
  have c6 := Lib.hid p
  clear p
  have p := Mul_q g2 a2 b2 g1 a1 b1 (by first | omega | decide) (by first | omega | decide) (by first | omega | decide) (by first | omega | decide)
  rw [o2, o1, Rat.mul_comm Y X, e7] at p
  have c7 := Lib.hid p
  clear p
  have p := Mul_q g7 a7 b7 g3 a3 b3 (by first | omega | decide) (by first | omega | decide) (by first | omega | decide) (by first | omega | decide)
  rw [o7, o3, e8] at p
  have c8 := Lib.hid p
  clear p
  have p := Mul_q g2 a2 b2 g3 a3 b3 (by first | omega | decide) (by first | omega | decide) (by first | omega | decide) (by first | omega | decide)
  rw [o2, o3, e9] at p
  have c9 := Lib.hid p
  clear p
  have p := Mul_q g1 a1 b1 g9 a9 b9 (by first | omega | decide) (by first | omega | decide) (by first | omega | decide) (by first | omega | decide)
  rw [o1, o9, ← Rat.mul_assoc, e8] at p
  have c10 := Lib.hid p
  clear p
  have p := Mul_q g1 a1 b1 g6 a6 b6 (by first | omega | decide) (by first | omega | decide) (by first | omega | decide) (by first | omega | decide)
  rw [o1, o6, e11] at p
  have c11 := Lib.hid p
  clear p
  have p := Mul_q g1 a1 b1 g3 a3 b3 (by first | omega | decide) (by first | omega | decide) (by first | omega | decide) (by first | omega | decide)
  rw [o1, o3, e10] at p
  have c12 := Lib.hid p
  clear p
  have p := Add_q g7 a7 b7 g10 a10 b10 (by first | omega | decide) (by first | omega | decide) (by first | omega | decide) (by first | omega | decide)
  rw [o7, o10, ← Rat.mul_add, e11] at p
  have c13 := Lib.hid p
  clear p
  have p := Add_q g1 a1 b1 false ⟨#[]⟩ ⟨#[1]⟩ (by first | omega | decide) (by first | omega | decide) (by first | omega | decide) (by first | omega | decide)
  rw [o1, zero_of, Rat.add_zero, e1] at p
  have c14 := Lib.hid p
  clear p
  have p := Mul_q g1 a1 b1 false ⟨#[1]⟩ ⟨#[1]⟩ (by first | omega | decide) (by first | omega | decide) (by first | omega | decide) (by first | omega | decide)
  rw [o1, one_of, Rat.mul_one, e1] at p
  have c15 := Lib.hid p
  clear p
  have p := Neg_q g1 a1 b1 (by first | omega | decide) (by first | omega | decide)
  rw [o1, e12] at p
  have c16 := Lib.hid p
  clear p
  have p := Add_q g1 a1 b1 g12 a12 b12 (by first | omega | decide) (by first | omega | decide) (by first | omega | decide) (by first | omega | decide)
  rw [o1, o12, Rat.add_neg_cancel, zero_w] at p
  have c17 := Lib.hid p
  clear p
  have p := Sub_q g1 a1 b1 g2 a2 b2 (by first | omega | decide) (by first | omega | decide) (by first | omega | decide) (by first | omega | decide)
  rw [o1, o2, e14] at p
  have c18 := Lib.hid p
  clear p
  have p := Neg_q g2 a2 b2 (by first | omega | decide) (by first | omega | decide)
  rw [o2, e13] at p
  have c19 := Lib.hid p
  clear p
  have p := Add_q g1 a1 b1 g13 a13 b13 (by first | omega | decide) (by first | omega | decide) (by first | omega | decide) (by first | omega | decide)
  rw [o1, o13, ← Rat.sub_eq_add_neg, e14] at p
  have c20 := Lib.hid p
  clear p
  have f0 : Hid (Ret 20 #[.int .i64 0] (ratW false ⟨#[]⟩ ⟨#[1]⟩)) := Lib.hid (Of_q 0 (by omega) (by omega))
  have f1 : Hid (Ret 20 #[.int .i64 1] (ratW false ⟨#[1]⟩ ⟨#[1]⟩)) := Lib.hid (Of_q 1 (by omega) (by omega))
  have HS : Hid (∀ (k : Nat) (W : World), RDg W (some ⟨k, 0, none⟩) 3 3 [(g1, a1, b1), (g2, a2, b2), (g3, a3, b3)] → Calls Tryz.prog 28 #[.slice (some ⟨k, 0, none⟩) 3 3] W fun e w' => e = .returned (ratW g5 a5 b5) ∧ Below W.heap.size W w') := Lib.hid (fun k W hr => by
    have p := Sum_q _ _ _ _ W hr (by omega) (fun r hm => by
      simp only [List.mem_cons, List.not_mem_nil, or_false] at hm
      rcases hm with rfl | rfl | rfl <;> exact ⟨by assumption, by assumption⟩)
    rw [show sumQ [(g1, a1, b1), (g2, a2, b2), (g3, a3, b3)] = X + Y + Z by show 0 + ratOf g1 a1 b1 + ratOf g2 a2 b2 + ratOf g3 a3 b3 = _; rw [o1, o2, o3, Rat.zero_add], e5] at p
    exact p)
  obtain ⟨g15, a15, b15, u, q1, hu⟩ : ∃ (g : Bool) (a b : ByteArray) (u : Bool), Hid (Ret 31 #[ratW g1 a1 b1, ratW g2 a2 b2] (.tuple #[ratW g a b, .bool u])) ∧ (u = false ∧ Hid (g2 = false ∧ a2 = ⟨#[]⟩ ∧ b2 = ⟨#[1]⟩) ∨ u = true ∧ Hid (¬ (g2 = false ∧ a2 = ⟨#[]⟩ ∧ b2 = ⟨#[1]⟩)) ∧ Hid (Ret 29 #[ratW g a b, ratW g2 a2 b2] (ratW g1 a1 b1))) := by
    have p := Quo_q g1 a1 b1 g2 a2 b2 (by first | omega | decide) (by first | omega | decide) (by first | omega | decide) (by first | omega | decide)
    rw [o1, o2] at p
    unfold quoQ at p
    by_cases hy0 : Y.num = 0
    · rw [if_pos hy0] at p
      obtain rfl : Y = 0 := Rat.num_eq_zero.1 hy0
      rw [zero_w] at e2
      simp only [Value.agg.injEq, Array.mk.injEq, List.cons.injEq, Value.bool.injEq, Value.string.injEq, and_true] at e2
      exact ⟨_, _, _, _, Lib.hid p, .inl ⟨rfl, Lib.hid ⟨e2.1.symm, e2.2.1.symm, e2.2.2.symm⟩⟩⟩
    · rw [if_neg hy0] at p
      obtain ⟨g, a, b, e, -, -, -, s, t, o⟩ := words (hx.quo hy hy0)
      rw [e] at p
      have p2 := Mul_q g a b g2 a2 b2 (by first | omega | decide) (by first | omega | decide) (by first | omega | decide) (by first | omega | decide)
      rw [o, o2, Rat.div_mul_cancel (fun h => hy0 (by rw [h]; rfl)), e1] at p2
      exact ⟨_, _, _, _, Lib.hid p, .inr ⟨rfl, Lib.hid (fun h => hy0 (by rw [← o2, h.1, h.2.1, h.2.2, zero_of]; rfl)), Lib.hid p2⟩⟩
  have M1 := Lib.hid p1
  have M2 := Lib.hid p2
  have M3 := Lib.hid p3
  clear p1 p2 p3 e1 o1 e2 o2 e3 o3 e4 o4 e5 o5 e6 o6 e7 o7 e8 o8 e9 o9 e10 o10 e11 o11 e12 o12 e13 o13 e14 o14 hx hy hz
  go_enter Tryz.func6, Tryz.ntmps6
  go_upto_region 1 with fail
  obtain ⟨W0, hW0, hkx, hky, hkz, hB⟩ := new_qqq w x0 x1 x2 y0 y1 y2 z0 z1 z2
  rw [hW0]
  clear hW0
  go_upto_region 2 with (first
    | (go_at_call 10; (with_reducible refine (sanity_q _ (HT.out.below hB)).mono ?_); rintro e w' ⟨rfl, hb'⟩; replace hB := below_then hB hb'; replace hkx := hkx.belowK hb'; replace hky := hky.belowK hb'; replace hkz := hkz.belowK hb'; clear hb'))
  obtain ⟨d0, d1, d2⟩ := cells3 hkx (Below.refl _ _)
  go_upto_region 3 with (first
    | (go_at_call 11; (with_reducible refine (M1.out _).mono ?_); rintro e w' ⟨rfl, hb'⟩; replace hB := below_then hB hb'; replace hkx := hkx.belowK hb'; replace hky := hky.belowK hb'; replace hkz := hkz.belowK hb'; clear hb'))
  clear d0 d1 d2 hkx
  replace hky := hky.alloc (.cells #[.bool g1, .string a1, .string b1] 27)
  replace hkz := hkz.alloc (.cells #[.bool g1, .string a1, .string b1] 27)
  have hka := Blk.new w' 27 #[.bool g1, .string a1, .string b1]
  have hgka := hB.size
  replace hB := below_al hB (.cells #[.bool g1, .string a1, .string b1] 27)
  generalize w'.alloc (.cells #[.bool g1, .string a1, .string b1] 27) = wa at hB hky hkz hka ⊢
  generalize w'.heap.size = ka at hka hgka ⊢
  obtain ⟨d0, d1, d2⟩ := cells3 hky (Below.refl _ _)
  go_upto_region 4 with (first
    | (go_at_call 11; (with_reducible refine (M2.out _).mono ?_); rintro e w' ⟨rfl, hb'⟩; replace hB := below_then hB hb'; replace hky := hky.belowK hb'; replace hkz := hkz.belowK hb'; replace hka := hka.belowK hb'; clear hb'))
  clear d0 d1 d2 hky
  replace hkz := hkz.alloc (.cells #[.bool g2, .string a2, .string b2] 27)
  replace hka := hka.alloc (.cells #[.bool g2, .string a2, .string b2] 27)
  have hkb := Blk.new w' 27 #[.bool g2, .string a2, .string b2]
  have hgkb := hB.size
  replace hB := below_al hB (.cells #[.bool g2, .string a2, .string b2] 27)
  generalize w'.alloc (.cells #[.bool g2, .string a2, .string b2] 27) = wb at hB hkz hka hkb ⊢
  generalize w'.heap.size = kb at hkb hgkb ⊢
  obtain ⟨d0, d1, d2⟩ := cells3 hkz (Below.refl _ _)
  go_upto_region 5 with (first
    | (go_at_call 11; (with_reducible refine (M3.out _).mono ?_); rintro e w' ⟨rfl, hb'⟩; replace hB := below_then hB hb'; replace hkz := hkz.belowK hb'; replace hka := hka.belowK hb'; replace hkb := hkb.belowK hb'; clear hb'))
  clear d0 d1 d2 hkz
  replace hka := hka.alloc (.cells #[.bool g3, .string a3, .string b3] 27)
  replace hkb := hkb.alloc (.cells #[.bool g3, .string a3, .string b3] 27)
  have hkc := Blk.new w' 27 #[.bool g3, .string a3, .string b3]
  have hgkc := hB.size
  replace hB := below_al hB (.cells #[.bool g3, .string a3, .string b3] 27)
  generalize w'.alloc (.cells #[.bool g3, .string a3, .string b3] 27) = wc at hB hka hkb hkc ⊢
  generalize w'.heap.size = kc at hkc hgkc ⊢
  go_upto_region 6 with (first
    | (go_at_call 20; (with_reducible refine (f0.out _).mono ?_); rintro e w' ⟨rfl, hb'⟩; replace hB := below_then hB hb'; replace hka := hka.belowK hb'; replace hkb := hkb.belowK hb'; replace hkc := hkc.belowK hb'; clear hb'))
  replace hka := hka.alloc (.cells #[.bool false, .string ⟨#[]⟩, .string ⟨#[1]⟩] 27)
  replace hkb := hkb.alloc (.cells #[.bool false, .string ⟨#[]⟩, .string ⟨#[1]⟩] 27)
  replace hkc := hkc.alloc (.cells #[.bool false, .string ⟨#[]⟩, .string ⟨#[1]⟩] 27)
  have hk0 := Blk.new w' 27 #[.bool false, .string ⟨#[]⟩, .string ⟨#[1]⟩]
  have hgk0 := hB.size
  replace hB := below_al hB (.cells #[.bool false, .string ⟨#[]⟩, .string ⟨#[1]⟩] 27)
  generalize w'.alloc (.cells #[.bool false, .string ⟨#[]⟩, .string ⟨#[1]⟩] 27) = w0 at hB hka hkb hkc hk0 ⊢
  generalize w'.heap.size = k0 at hk0 hgk0 ⊢
  go_upto_region 7 with (first
    | (go_at_call 20; (with_reducible refine (f1.out _).mono ?_); rintro e w' ⟨rfl, hb'⟩; replace hB := below_then hB hb'; replace hka := hka.belowK hb'; replace hkb := hkb.belowK hb'; replace hkc := hkc.belowK hb'; replace hk0 := hk0.belowK hb'; clear hb'))
  replace hka := hka.alloc (.cells #[.bool false, .string ⟨#[1]⟩, .string ⟨#[1]⟩] 27)
  replace hkb := hkb.alloc (.cells #[.bool false, .string ⟨#[1]⟩, .string ⟨#[1]⟩] 27)
  replace hkc := hkc.alloc (.cells #[.bool false, .string ⟨#[1]⟩, .string ⟨#[1]⟩] 27)
  replace hk0 := hk0.alloc (.cells #[.bool false, .string ⟨#[1]⟩, .string ⟨#[1]⟩] 27)
  have hk1 := Blk.new w' 27 #[.bool false, .string ⟨#[1]⟩, .string ⟨#[1]⟩]
  have hgk1 := hB.size
  replace hB := below_al hB (.cells #[.bool false, .string ⟨#[1]⟩, .string ⟨#[1]⟩] 27)
  generalize w'.alloc (.cells #[.bool false, .string ⟨#[1]⟩, .string ⟨#[1]⟩] 27) = w1 at hB hka hkb hkc hk0 hk1 ⊢
  generalize w'.heap.size = k1 at hk1 hgk1 ⊢
  go_cut [13] (fun s wx => s = .bool true ∧ Below w1.heap.size w1 wx)
  case first =>
    go_region_held3 (fun W : World => (W.cell? ⟨ka, 0, none⟩ = some (.bool g1) ∧ W.cell? ⟨ka, 1, none⟩ = some (.string a1) ∧ W.cell? ⟨ka, 2, none⟩ = some (.string b1)) ∧ (W.cell? ⟨kb, 0, none⟩ = some (.bool g2) ∧ W.cell? ⟨kb, 1, none⟩ = some (.string a2) ∧ W.cell? ⟨kb, 2, none⟩ = some (.string b2)) ∧ (W.cell? ⟨kc, 0, none⟩ = some (.bool g3) ∧ W.cell? ⟨kc, 1, none⟩ = some (.string a3) ∧ W.cell? ⟨kc, 2, none⟩ = some (.string b3)))
      ((refine ⟨cells3 hka ?_, cells3 hkb ?_, cells3 hkc ?_⟩ <;> (repeat (first | exact Below.refl _ _ | apply Below.drew | refine below_al ?_ _ | refine below_then ?_ (by assumption)))))
      (first
        | (go_at_call 27; (with_reducible refine (c1.out _).mono ?_); rintro e v0 ⟨rfl, hz0⟩)
        | (go_at_call 27; (with_reducible refine (c2.out _).mono ?_); rintro e v1 ⟨rfl, hz1⟩)
        | (go_at_call 27; (with_reducible refine (c3.out _).mono ?_); rintro e v2 ⟨rfl, hz2⟩)
        | (go_at_call 27; (with_reducible refine (c4.out _).mono ?_); rintro e v3 ⟨rfl, hz3⟩)
        | (go_at_call 27; (with_reducible refine (c5.out _).mono ?_); rintro e v4 ⟨rfl, hz4⟩)
        | (go_at_call 29; (with_reducible refine (c6.out _).mono ?_); rintro e v5 ⟨rfl, hz5⟩)
        | (go_at_call 29; (with_reducible refine (c7.out _).mono ?_); rintro e v6 ⟨rfl, hz6⟩)
        | (go_at_call 29; (with_reducible refine (c8.out _).mono ?_); rintro e v7 ⟨rfl, hz7⟩)
        | (go_at_call 29; (with_reducible refine (c9.out _).mono ?_); rintro e v8 ⟨rfl, hz8⟩)
        | (go_at_call 29; (with_reducible refine (c10.out _).mono ?_); rintro e v9 ⟨rfl, hz9⟩))
    all_goals go_wp2_with fail
    all_goals go_meet
    all_goals
      refine ⟨by first | rfl | simp, ?_⟩
      (repeat (first | exact Below.refl _ _ | apply Below.drew | refine below_al ?_ _ | refine below_then ?_ (by assumption)))
  obtain ⟨rfl, hcb⟩ := hcut
  replace hB := below_then hB hcb
  replace hka := hka.belowK hcb
  replace hkb := hkb.belowK hcb
  replace hkc := hkc.belowK hcb
  replace hk0 := hk0.belowK hcb
  replace hk1 := hk1.belowK hcb
  clear hcb
  go_upto_region 8 with fail
  go_cut [14] (fun s wx => s = .bool true ∧ Below wc.heap.size wc wx)
  case first =>
    go_region_held3 (fun W : World => (W.cell? ⟨ka, 0, none⟩ = some (.bool g1) ∧ W.cell? ⟨ka, 1, none⟩ = some (.string a1) ∧ W.cell? ⟨ka, 2, none⟩ = some (.string b1)) ∧ (W.cell? ⟨kb, 0, none⟩ = some (.bool g2) ∧ W.cell? ⟨kb, 1, none⟩ = some (.string a2) ∧ W.cell? ⟨kb, 2, none⟩ = some (.string b2)) ∧ (W.cell? ⟨kc, 0, none⟩ = some (.bool g3) ∧ W.cell? ⟨kc, 1, none⟩ = some (.string a3) ∧ W.cell? ⟨kc, 2, none⟩ = some (.string b3)) ∧ (W.cell? ⟨k0, 0, none⟩ = some (.bool false) ∧ W.cell? ⟨k0, 1, none⟩ = some (.string ⟨#[]⟩) ∧ W.cell? ⟨k0, 2, none⟩ = some (.string ⟨#[1]⟩)) ∧ (W.cell? ⟨k1, 0, none⟩ = some (.bool false) ∧ W.cell? ⟨k1, 1, none⟩ = some (.string ⟨#[1]⟩) ∧ W.cell? ⟨k1, 2, none⟩ = some (.string ⟨#[1]⟩)))
      ((refine ⟨cells3 hka ?_, cells3 hkb ?_, cells3 hkc ?_, cells3 hk0 ?_, cells3 hk1 ?_⟩ <;> (repeat (first | exact Below.refl _ _ | apply Below.drew | refine below_al ?_ _ | refine below_then ?_ (by assumption)))))
      (first
        | (go_at_call 27; (with_reducible refine (c4.out _).mono ?_); rintro e v0 ⟨rfl, hz0⟩)
        | (go_at_call 29; (with_reducible refine (c6.out _).mono ?_); rintro e v1 ⟨rfl, hz1⟩)
        | (go_at_call 29; (with_reducible refine (c11.out _).mono ?_); rintro e v2 ⟨rfl, hz2⟩)
        | (go_at_call 29; (with_reducible refine (c12.out _).mono ?_); rintro e v3 ⟨rfl, hz3⟩)
        | (go_at_call 27; (with_reducible refine (c13.out _).mono ?_); rintro e v4 ⟨rfl, hz4⟩)
        | (go_at_call 27; (with_reducible refine (c14.out _).mono ?_); rintro e v5 ⟨rfl, hz5⟩)
        | (go_at_call 29; (with_reducible refine (c15.out _).mono ?_); rintro e v6 ⟨rfl, hz6⟩)
        | (go_at_call 30; (with_reducible refine (c16.out _).mono ?_); rintro e v7 ⟨rfl, hz7⟩)
        | (go_at_call 27; (with_reducible refine (c17.out _).mono ?_); rintro e v8 ⟨rfl, hz8⟩))
    all_goals go_wp2_with fail
    all_goals go_meet
    all_goals
      refine ⟨by first | rfl | simp, ?_⟩
      (repeat (first | exact Below.refl _ _ | apply Below.drew | refine below_al ?_ _ | refine below_then ?_ (by assumption)))
  obtain ⟨rfl, hcb⟩ := hcut
  replace hB := below_then hB hcb
  replace hka := hka.belowK hcb
  replace hkb := hkb.belowK hcb
  replace hkc := hkc.belowK hcb
  replace hk0 := hk0.belowK hcb
  replace hk1 := hk1.belowK hcb
  clear hcb
  obtain ⟨chka0, chka1, chka2⟩ := cells3 hka (Below.refl _ _)
  obtain ⟨chkb0, chkb1, chkb2⟩ := cells3 hkb (Below.refl _ _)
  obtain ⟨chkc0, chkc1, chkc2⟩ := cells3 hkc (Below.refl _ _)
  obtain ⟨chk00, chk01, chk02⟩ := cells3 hk0 (Below.refl _ _)
  obtain ⟨chk10, chk11, chk12⟩ := cells3 hk1 (Below.refl _ _)
  go_upto_region 10 with (first
    | (go_at_call 31; (with_reducible refine (q1.out _).mono ?_); rintro e w' ⟨rfl, hb'⟩; replace hB := below_then hB hb'; replace hka := hka.belowK hb'; replace hkb := hkb.belowK hb'; replace hkc := hkc.belowK hb'; replace hk0 := hk0.belowK hb'; replace hk1 := hk1.belowK hb'; clear hb'))
  clear chka0 chka1 chka2 chkb0 chkb1 chkb2 chkc0 chkc1 chkc2 chk00 chk01 chk02 chk10 chk11 chk12
  replace hka := hka.alloc (.cells #[.bool g15, .string a15, .string b15] 27)
  replace hkb := hkb.alloc (.cells #[.bool g15, .string a15, .string b15] 27)
  replace hkc := hkc.alloc (.cells #[.bool g15, .string a15, .string b15] 27)
  replace hk0 := hk0.alloc (.cells #[.bool g15, .string a15, .string b15] 27)
  replace hk1 := hk1.alloc (.cells #[.bool g15, .string a15, .string b15] 27)
  have hkq := Blk.new w' 27 #[.bool g15, .string a15, .string b15]
  have hgkq := hB.size
  replace hB := below_al hB (.cells #[.bool g15, .string a15, .string b15] 27)
  generalize w'.alloc (.cells #[.bool g15, .string a15, .string b15] 27) = wq at hB hka hkb hkc hk0 hk1 hkq ⊢
  generalize w'.heap.size = kq at hkq hgkq ⊢
  go_cut [17] (fun s wx => s = .bool true ∧ Below wq.heap.size wq wx)
  case first =>
    have Q := fun w => equal_rat g2 a2 b2 false ⟨#[]⟩ ⟨#[1]⟩ w
    rcases hu with ⟨rfl, hu⟩ | ⟨rfl, hu, q2⟩
    · rw [decide_eq_true hu.out] at Q
      clear hu
      obtain ⟨chka0, chka1, chka2⟩ := cells3 hka (Below.refl _ _)
      obtain ⟨chkb0, chkb1, chkb2⟩ := cells3 hkb (Below.refl _ _)
      obtain ⟨chk00, chk01, chk02⟩ := cells3 hk0 (Below.refl _ _)
      obtain ⟨chkq0, chkq1, chkq2⟩ := cells3 hkq (Below.refl _ _)
      go_quiet (fail)
      all_goals go_wp2_with fail
      all_goals go_meet
      all_goals
        refine ⟨by first | rfl | simp, ?_⟩
        first | exact below_drewN (Below.refl _ _) _ | exact (Below.refl _ _).drew | exact Below.refl _ _
    · rw [decide_eq_false hu.out] at Q
      clear hu
      go_region_held3 (fun W : World => (W.cell? ⟨ka, 0, none⟩ = some (.bool g1) ∧ W.cell? ⟨ka, 1, none⟩ = some (.string a1) ∧ W.cell? ⟨ka, 2, none⟩ = some (.string b1)) ∧ (W.cell? ⟨kb, 0, none⟩ = some (.bool g2) ∧ W.cell? ⟨kb, 1, none⟩ = some (.string a2) ∧ W.cell? ⟨kb, 2, none⟩ = some (.string b2)) ∧ (W.cell? ⟨k0, 0, none⟩ = some (.bool false) ∧ W.cell? ⟨k0, 1, none⟩ = some (.string ⟨#[]⟩) ∧ W.cell? ⟨k0, 2, none⟩ = some (.string ⟨#[1]⟩)) ∧ (W.cell? ⟨kq, 0, none⟩ = some (.bool g15) ∧ W.cell? ⟨kq, 1, none⟩ = some (.string a15) ∧ W.cell? ⟨kq, 2, none⟩ = some (.string b15)))
      ((refine ⟨cells3 hka ?_, cells3 hkb ?_, cells3 hk0 ?_, cells3 hkq ?_⟩ <;> (repeat (first | exact Below.refl _ _ | apply Below.drew | refine below_al ?_ _ | refine below_then ?_ (by assumption)))))
      (first
        | (go_at_call 29; (with_reducible refine (q2.out _).mono ?_); rintro e v0 ⟨rfl, hz0⟩))
      all_goals go_wp2_with fail
      all_goals go_meet
      all_goals
        refine ⟨by first | rfl | simp, ?_⟩
        (repeat (first | exact Below.refl _ _ | apply Below.drew | refine below_al ?_ _ | refine below_then ?_ (by assumption)))
  obtain ⟨rfl, hcb⟩ := hcut
  replace hB := below_then hB hcb
  replace hka := hka.belowK hcb
  replace hkb := hkb.belowK hcb
  replace hkc := hkc.belowK hcb
  clear hcb hk0 hk1 hkq hu
  go_upto_region 11 with fail
  go_region_held3 (fun W : World => (W.cell? ⟨ka, 0, none⟩ = some (.bool g1) ∧ W.cell? ⟨ka, 1, none⟩ = some (.string a1) ∧ W.cell? ⟨ka, 2, none⟩ = some (.string b1)) ∧ (W.cell? ⟨kb, 0, none⟩ = some (.bool g2) ∧ W.cell? ⟨kb, 1, none⟩ = some (.string a2) ∧ W.cell? ⟨kb, 2, none⟩ = some (.string b2)) ∧ (W.cell? ⟨kc, 0, none⟩ = some (.bool g3) ∧ W.cell? ⟨kc, 1, none⟩ = some (.string a3) ∧ W.cell? ⟨kc, 2, none⟩ = some (.string b3)))
    ((refine ⟨cells3 hka ?_, cells3 hkb ?_, cells3 hkc ?_⟩ <;> (repeat (first | exact Below.refl _ _ | apply Below.drew | refine below_al ?_ _ | refine below_then ?_ (by assumption)))))
    (first
        | (go_at_call 32; (with_reducible refine (c18.out _).mono ?_); rintro e v0 ⟨rfl, hz0⟩)
        | (go_at_call 30; (with_reducible refine (c19.out _).mono ?_); rintro e v1 ⟨rfl, hz1⟩)
        | (go_at_call 27; (with_reducible refine (c20.out _).mono ?_); rintro e v2 ⟨rfl, hz2⟩)
        | (go_at_call 27; (with_reducible refine (c1.out _).mono ?_); rintro e v3 ⟨rfl, hz3⟩)
        | (go_at_call 28; (with_reducible refine (HS.out _ _ (rdg3 (by (first | exact Blk.new _ _ _ | exact (Blk.new _ _ _).alloc _ | exact Blk.new2 _ _ _ _ | exact (Blk.new2 _ _ _ _).belowK hz4 | exact ((Blk.new _ _ _).alloc _).belowK hz4)))).mono ?_); rintro e v4 ⟨rfl, hz4⟩)
        | (go_at_call 27; (with_reducible refine (c3.out _).mono ?_); rintro e v5 ⟨rfl, hz5⟩))
  all_goals go_wp2_with fail
  all_goals go_ret
  all_goals
    refine ⟨by first | rfl | simp, below_then hB ?_⟩
    (repeat (first | exact Below.refl _ _ | apply Below.drew | refine below_al ?_ _ | refine below_then ?_ (by assumption)))

end Go.Proofs.YtikdkhmeaoafmaaGreatDoor
