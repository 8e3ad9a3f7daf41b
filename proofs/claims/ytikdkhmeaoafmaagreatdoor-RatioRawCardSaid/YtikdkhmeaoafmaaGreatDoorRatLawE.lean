/- The law RatioRaw: it returns true. Printed by a program. -/
import Derived.Test.YtikdkhmeaoafmaaGreatDoorRatLawA
import Derived.Test.YtikdkhmeaoafmaaGreatDoorRatN
namespace Go.Proofs.YtikdkhmeaoafmaaGreatDoor
open Go.RowKit

theorem words_fine {x : Rat} {g : Bool} {a b : ByteArray} (e : ratV x = ratW g a b) : rRightB g a b = true := by
  have h := (ratOf_words x).1
  unfold ratV at e
  simp only [Value.agg.injEq, Array.mk.injEq, List.cons.injEq, Value.bool.injEq, Value.string.injEq, and_true] at e
  rw [e.1, e.2.1, e.2.2] at h
  exact h

set_option maxRecDepth 100000 in
set_option maxHeartbeats 4000000 in
theorem RatioRaw_any (g1 : Bool) (u1 v1 : ByteArray) (g2 : Bool) (u2 v2 : ByteArray) (w : World) (ht : Pow10 w) (hs : u1.size ≤ 9223372036854775807 ∧ v1.size ≤ 9223372036854775807) (hr : u2.size ≤ 9223372036854775807 ∧ v2.size ≤ 9223372036854775807) :
    Calls Tryz.prog 8 #[ratW g1 u1 v1, ratW g2 u2 v2] w fun e w' => e = .returned (.bool true) ∧ Below w.heap.size w w' := by
  have HT := Lib.hid ht
  clear ht
  obtain ⟨hs0, hs1⟩ := hs
  obtain ⟨hr0, hr1⟩ := hr
  obtain ⟨m0, hm0⟩ : ∃ m, m = min u1.size 20 := ⟨_, rfl⟩
  have z0 : (u1.extract 0 m0).size = m0 := by rw [ByteArray.size_extract]; omega
  have x0 : min (u1.size : Int) 20 = (m0 : Int) := by omega
  have y0 : m0 ≤ u1.size := by omega
  have k0 : (0 : Int) ≤ (m0 : Int) := by omega
  have l0 : (m0 : Int) ≤ (u1.size : Int) := by omega
  have j0 : m0 ≤ 20 := by omega
  clear hm0
  obtain ⟨a1, E0⟩ : ∃ s, u1.extract 0 m0 = s := ⟨_, rfl⟩
  have n0 : a1.size ≤ 20 := by rw [← E0]; omega
  clear z0
  have H0 := Lib.hid E0
  clear E0
  obtain ⟨m1, hm1⟩ : ∃ m, m = min v1.size 20 := ⟨_, rfl⟩
  have z1 : (v1.extract 0 m1).size = m1 := by rw [ByteArray.size_extract]; omega
  have x1 : min (v1.size : Int) 20 = (m1 : Int) := by omega
  have y1 : m1 ≤ v1.size := by omega
  have k1 : (0 : Int) ≤ (m1 : Int) := by omega
  have l1 : (m1 : Int) ≤ (v1.size : Int) := by omega
  have j1 : m1 ≤ 20 := by omega
  clear hm1
  obtain ⟨b1, E1⟩ : ∃ s, v1.extract 0 m1 = s := ⟨_, rfl⟩
  have n1 : b1.size ≤ 20 := by rw [← E1]; omega
  clear z1
  have H1 := Lib.hid E1
  clear E1
  obtain ⟨m2, hm2⟩ : ∃ m, m = min u2.size 20 := ⟨_, rfl⟩
  have z2 : (u2.extract 0 m2).size = m2 := by rw [ByteArray.size_extract]; omega
  have x2 : min (u2.size : Int) 20 = (m2 : Int) := by omega
  have y2 : m2 ≤ u2.size := by omega
  have k2 : (0 : Int) ≤ (m2 : Int) := by omega
  have l2 : (m2 : Int) ≤ (u2.size : Int) := by omega
  have j2 : m2 ≤ 20 := by omega
  clear hm2
  obtain ⟨a2, E2⟩ : ∃ s, u2.extract 0 m2 = s := ⟨_, rfl⟩
  have n2 : a2.size ≤ 20 := by rw [← E2]; omega
  clear z2
  have H2 := Lib.hid E2
  clear E2
  obtain ⟨m3, hm3⟩ : ∃ m, m = min v2.size 20 := ⟨_, rfl⟩
  have z3 : (v2.extract 0 m3).size = m3 := by rw [ByteArray.size_extract]; omega
  have x3 : min (v2.size : Int) 20 = (m3 : Int) := by omega
  have y3 : m3 ≤ v2.size := by omega
  have k3 : (0 : Int) ≤ (m3 : Int) := by omega
  have l3 : (m3 : Int) ≤ (v2.size : Int) := by omega
  have j3 : m3 ≤ 20 := by omega
  clear hm3
  obtain ⟨b2, E3⟩ : ∃ s, v2.extract 0 m3 = s := ⟨_, rfl⟩
  have n3 : b2.size ≤ 20 := by rw [← E3]; omega
  clear z3
  have H3 := Lib.hid E3
  clear E3
  have hx : Sm 20 (ratOf g1 a1 b1) := sm_of n0 n1 (by omega)
  have hy : Sm 20 (ratOf g2 a2 b2) := sm_of n2 n3 (by omega)
  obtain ⟨g3, a3, b3, u3, e3⟩ := quo_words hx hy
  obtain ⟨g4, a4, b4, e4, -, -, -, s4, t4, -⟩ := words (hx.add hy)
  obtain ⟨g5, a5, b5, e5, -, -, -, s5, t5, -⟩ := words (hx.sub hy)
  obtain ⟨g6, a6, b6, e6, -, -, -, s6, t6, -⟩ := words (hx.mul hy)
  obtain ⟨g7, a7, b7, e7, -, -, -, s7, t7, -⟩ := words (hx.neg)
  obtain ⟨rb, hrb⟩ : ∃ rb, rRightB g1 a1 b1 = rb := ⟨_, rfl⟩
  obtain ⟨ts, hts⟩ : ∃ ts, textS (ratOf g1 a1 b1) = ts := ⟨_, rfl⟩
  have p := Quo_q g1 a1 b1 g2 a2 b2 (by omega) (by omega) (by omega) (by omega)
  rw [e3] at p
  have q1 := Lib.hid p
  clear p
  have p := rQuo_q g1 a1 b1 g2 a2 b2 (by omega) (by omega) (by omega) (by omega)
  rw [e3] at p
  have q2 := Lib.hid p
  clear p
  have p := Add_q g1 a1 b1 g2 a2 b2 (by omega) (by omega) (by omega) (by omega)
  rw [e4] at p
  have d1 := Lib.hid p
  clear p
  have p := rAdd_q g1 a1 b1 g2 a2 b2 (by omega) (by omega) (by omega) (by omega)
  rw [e4] at p
  have d2 := Lib.hid p
  clear p
  have p := Sub_q g1 a1 b1 g2 a2 b2 (by omega) (by omega) (by omega) (by omega)
  rw [e5] at p
  have d3 := Lib.hid p
  clear p
  have p := rSub_q g1 a1 b1 g2 a2 b2 (by omega) (by omega) (by omega) (by omega)
  rw [e5] at p
  have d4 := Lib.hid p
  clear p
  have p := Mul_q g1 a1 b1 g2 a2 b2 (by omega) (by omega) (by omega) (by omega)
  rw [e6] at p
  have d5 := Lib.hid p
  clear p
  have p := rMul_q g1 a1 b1 g2 a2 b2 (by omega) (by omega) (by omega) (by omega)
  rw [e6] at p
  have d6 := Lib.hid p
  clear p
  have p := Cmp_q g1 a1 b1 g2 a2 b2 (by omega) (by omega) (by omega) (by omega)
  have c1 := Lib.hid p
  clear p
  have p := rCmp_q g1 a1 b1 g2 a2 b2 (by omega) (by omega) (by omega) (by omega)
  have c2 := Lib.hid p
  clear p
  have p := Sign_q g1 a1 b1 (by omega) (by omega)
  have c3 := Lib.hid p
  clear p
  have p := rSign_q g1 a1 b1 (by omega) (by omega)
  have c4 := Lib.hid p
  clear p
  have p := Neg_q g1 a1 b1 (by omega) (by omega)
  rw [e7] at p
  have c5 := Lib.hid p
  clear p
  have p := rNeg_q g1 a1 b1 (by omega) (by omega)
  rw [e7] at p
  have c6 := Lib.hid p
  clear p
  have p := Right_q g1 a1 b1 (by omega) (by omega)
  rw [hrb] at p
  have r1 := Lib.hid p
  clear p
  have p := rRight_q g1 a1 b1 (by omega) (by omega)
  rw [hrb] at p
  have r2 := Lib.hid p
  clear p
  have p := Right_q g4 a4 b4 (by omega) (by omega)
  rw [words_fine e4] at p
  have r3 := Lib.hid p
  clear p
  have p := Right_q g7 a7 b7 (by omega) (by omega)
  rw [words_fine e7] at p
  have r4 := Lib.hid p
  clear p
  have p := fun (W : World) (h : Pow10 W) => Text_q g1 a1 b1 W (by omega) (by omega) h
  rw [hts] at p
  have t1 := Lib.hid p
  clear p
  have p := fun (W : World) => rText_q g1 a1 b1 W (by omega) (by omega)
  rw [hts] at p
  have t2 := Lib.hid p
  clear p
  have hsh : Shorts [(g1, a1, b1), (g2, a2, b2), (g1, a1, b1)] := fun r hm => by
    simp only [List.mem_cons, List.not_mem_nil, or_false] at hm
    rcases hm with rfl | rfl | rfl <;> exact ⟨by assumption, by assumption⟩
  obtain ⟨g8, a8, b8, e8, -⟩ := words ((sum_sm hsh 3 (Nat.le_refl 3)).mono (k := 300) (by omega))
  have p := fun (k : Nat) (W : World) (h : RDg W (some ⟨k, 0, none⟩) 3 3 [(g1, a1, b1), (g2, a2, b2), (g1, a1, b1)]) => Sum_q (some ⟨k, 0, none⟩) 3 3 _ W h (by omega) hsh
  rw [show sumQ [(g1, a1, b1), (g2, a2, b2), (g1, a1, b1)] = sumQ (List.take 3 [(g1, a1, b1), (g2, a2, b2), (g1, a1, b1)]) from rfl, e8] at p
  have S1 := Lib.hid p
  clear p
  have p := fun (k : Nat) (W : World) (h : RDg W (some ⟨k, 0, none⟩) 3 3 [(g1, a1, b1), (g2, a2, b2), (g1, a1, b1)]) => rSum_q (some ⟨k, 0, none⟩) 3 3 _ W h (by omega) hsh
  rw [show sumQ [(g1, a1, b1), (g2, a2, b2), (g1, a1, b1)] = sumQ (List.take 3 [(g1, a1, b1), (g2, a2, b2), (g1, a1, b1)]) from rfl, e8] at p
  have S2 := Lib.hid p
  clear p
  clear e3 e4 e5 e6 e7 e8 hx hy hsh hrb hts
  generalize cmpQ (ratOf g1 a1 b1) (ratOf g2 a2 b2) = cz at *
  generalize sgnQ (ratOf g1 a1 b1) = sz at *
  go_enter Tryz.func8, Tryz.ntmps8
  go_upto_region 1 with fail
  obtain ⟨W0, hW0, hkx, hky, hB⟩ := new_two' w g1 u1 v1 g2 u2 v2
  rw [hW0]
  clear hW0
  go_upto_region 2 with (first
    | (go_at_call 10; (with_reducible refine (sanity_q _ (HT.out.below hB)).mono ?_); rintro e w' ⟨rfl, hb'⟩; replace hB := below_then hB hb'; replace hkx := hkx.belowK hb'; replace hky := hky.belowK hb'; clear hb'))
  obtain ⟨ch0, ch1, ch2⟩ := cells3 hkx (Below.refl _ _)
  obtain ⟨fh0, fh1, fh2⟩ := free3 hkx (Below.refl _ _)
  go_upto_region 3 with fail
  rw [H0.out]
  clear ch0 ch1 ch2 fh0 fh1 fh2 H0
  replace hkx := hkx.set_ 1 (.string a1)
  replace hky := hky.far (p := ⟨w.heap.size, 1, none⟩) (by simp) (.string a1)
  replace hB := below_set (p := ⟨w.heap.size, 1, none⟩) hB (by simp) (.string a1)
  replace hkx : R3 _ w.heap.size g1 a1 v1 := hkx
  generalize w'.setCell ⟨w.heap.size, 1, none⟩ (.string a1) = w0 at hkx hky hB ⊢
  obtain ⟨ch0, ch1, ch2⟩ := cells3 hkx (Below.refl _ _)
  obtain ⟨fh0, fh1, fh2⟩ := free3 hkx (Below.refl _ _)
  go_upto_region 4 with fail
  rw [H1.out]
  clear ch0 ch1 ch2 fh0 fh1 fh2 H1
  replace hkx := hkx.set_ 2 (.string b1)
  replace hky := hky.far (p := ⟨w.heap.size, 2, none⟩) (by simp) (.string b1)
  replace hB := below_set (p := ⟨w.heap.size, 2, none⟩) hB (by simp) (.string b1)
  replace hkx : R3 _ w.heap.size g1 a1 b1 := hkx
  generalize w0.setCell ⟨w.heap.size, 2, none⟩ (.string b1) = w1 at hkx hky hB ⊢
  obtain ⟨ch0, ch1, ch2⟩ := cells3 hky (Below.refl _ _)
  obtain ⟨fh0, fh1, fh2⟩ := free3 hky (Below.refl _ _)
  go_upto_region 5 with fail
  rw [H2.out]
  clear ch0 ch1 ch2 fh0 fh1 fh2 H2
  replace hky := hky.set_ 1 (.string a2)
  replace hkx := hkx.far (p := ⟨(w.heap.size + 1), 1, none⟩) (by simp) (.string a2)
  replace hB := below_set (p := ⟨(w.heap.size + 1), 1, none⟩) hB (by simp) (.string a2)
  replace hky : R3 _ (w.heap.size + 1) g2 a2 v2 := hky
  generalize w1.setCell ⟨(w.heap.size + 1), 1, none⟩ (.string a2) = w2 at hkx hky hB ⊢
  obtain ⟨ch0, ch1, ch2⟩ := cells3 hky (Below.refl _ _)
  obtain ⟨fh0, fh1, fh2⟩ := free3 hky (Below.refl _ _)
  go_upto_region 6 with fail
  rw [H3.out]
  clear ch0 ch1 ch2 fh0 fh1 fh2 H3
  replace hky := hky.set_ 2 (.string b2)
  replace hkx := hkx.far (p := ⟨(w.heap.size + 1), 2, none⟩) (by simp) (.string b2)
  replace hB := below_set (p := ⟨(w.heap.size + 1), 2, none⟩) hB (by simp) (.string b2)
  replace hky : R3 _ (w.heap.size + 1) g2 a2 b2 := hky
  generalize w2.setCell ⟨(w.heap.size + 1), 2, none⟩ (.string b2) = w3 at hkx hky hB ⊢
  obtain ⟨chkx0, chkx1, chkx2⟩ := cells3 hkx (Below.refl _ _)
  obtain ⟨chky0, chky1, chky2⟩ := cells3 hky (Below.refl _ _)
  go_upto_region 7 with (first
    | (go_at_call 31; (with_reducible refine (q1.out _).mono ?_); rintro e w' ⟨rfl, hb'⟩; replace hB := below_then hB hb'; replace hkx := hkx.belowK hb'; replace hky := hky.belowK hb'; clear hb'))
  clear chkx0 chkx1 chkx2 chky0 chky1 chky2
  replace hkx := hkx.alloc (.cells #[.bool g3, .string a3, .string b3] 27)
  replace hky := hky.alloc (.cells #[.bool g3, .string a3, .string b3] 27)
  have hkp := Blk.new w' 27 #[.bool g3, .string a3, .string b3]
  have hgkp := hB.size
  replace hB := below_al hB (.cells #[.bool g3, .string a3, .string b3] 27)
  generalize w'.alloc (.cells #[.bool g3, .string a3, .string b3] 27) = wp at hB hkx hky hkp ⊢
  generalize w'.heap.size = kp at hkp hgkp ⊢
  obtain ⟨chkx0, chkx1, chkx2⟩ := cells3 hkx (Below.refl _ _)
  obtain ⟨chky0, chky1, chky2⟩ := cells3 hky (Below.refl _ _)
  go_upto_region 8 with (first
    | (go_at_call 33; (with_reducible refine (q2.out _).mono ?_); rintro e w' ⟨rfl, hb'⟩; replace hB := below_then hB hb'; replace hkx := hkx.belowK hb'; replace hky := hky.belowK hb'; replace hkp := hkp.belowK hb'; clear hb'))
  clear chkx0 chkx1 chkx2 chky0 chky1 chky2
  replace hkx := hkx.alloc (.cells #[.bool g3, .string a3, .string b3] 27)
  replace hky := hky.alloc (.cells #[.bool g3, .string a3, .string b3] 27)
  replace hkp := hkp.alloc (.cells #[.bool g3, .string a3, .string b3] 27)
  have hkq := Blk.new w' 27 #[.bool g3, .string a3, .string b3]
  have hgkq := hB.size
  replace hB := below_al hB (.cells #[.bool g3, .string a3, .string b3] 27)
  generalize w'.alloc (.cells #[.bool g3, .string a3, .string b3] 27) = wq at hB hkx hky hkp hkq ⊢
  generalize w'.heap.size = kq at hkq hgkq ⊢
  go_cut [10] (fun s wx => s = .bool true ∧ Below wq.heap.size wq wx)
  case first =>
    go_region_held3 (fun W : World => (W.cell? ⟨w.heap.size, 0, none⟩ = some (.bool g1) ∧ W.cell? ⟨w.heap.size, 1, none⟩ = some (.string a1) ∧ W.cell? ⟨w.heap.size, 2, none⟩ = some (.string b1)) ∧ (W.cell? ⟨w.heap.size + 1, 0, none⟩ = some (.bool g2) ∧ W.cell? ⟨w.heap.size + 1, 1, none⟩ = some (.string a2) ∧ W.cell? ⟨w.heap.size + 1, 2, none⟩ = some (.string b2)) ∧ (W.cell? ⟨kp, 0, none⟩ = some (.bool g3) ∧ W.cell? ⟨kp, 1, none⟩ = some (.string a3) ∧ W.cell? ⟨kp, 2, none⟩ = some (.string b3)) ∧ (W.cell? ⟨kq, 0, none⟩ = some (.bool g3) ∧ W.cell? ⟨kq, 1, none⟩ = some (.string a3) ∧ W.cell? ⟨kq, 2, none⟩ = some (.string b3)))
      ((refine ⟨cells3 hkx ?_, cells3 hky ?_, cells3 hkp ?_, cells3 hkq ?_⟩ <;> (repeat (first | exact Below.refl _ _ | apply Below.drew | refine below_al ?_ _ | refine below_then ?_ hz0 | refine below_then ?_ hz1 | refine below_then ?_ hz2 | refine below_then ?_ hz3 | refine below_then ?_ hz4 | refine below_then ?_ hz5 | refine below_then ?_ hz6 | refine below_then ?_ hz7))))
      (first
        | (go_at_call 22; (with_reducible refine (r1.out _).mono ?_); rintro e v0 ⟨rfl, hz0⟩)
        | (go_at_call 42; (with_reducible refine (r2.out _).mono ?_); rintro e v1 ⟨rfl, hz1⟩)
        | (go_at_call 27; (with_reducible refine (d1.out _).mono ?_); rintro e v2 ⟨rfl, hz2⟩)
        | (go_at_call 34; (with_reducible refine (d2.out _).mono ?_); rintro e v3 ⟨rfl, hz3⟩)
        | (go_at_call 32; (with_reducible refine (d3.out _).mono ?_); rintro e v4 ⟨rfl, hz4⟩)
        | (go_at_call 35; (with_reducible refine (d4.out _).mono ?_); rintro e v5 ⟨rfl, hz5⟩)
        | (go_at_call 29; (with_reducible refine (d5.out _).mono ?_); rintro e v6 ⟨rfl, hz6⟩)
        | (go_at_call 36; (with_reducible refine (d6.out _).mono ?_); rintro e v7 ⟨rfl, hz7⟩))
    all_goals go_wp2_with fail
    all_goals go_meet
    all_goals
      refine ⟨by first | rfl | simp, ?_⟩
      (repeat (first | exact Below.refl _ _ | apply Below.drew | refine below_al ?_ _ | refine below_then ?_ hz0 | refine below_then ?_ hz1 | refine below_then ?_ hz2 | refine below_then ?_ hz3 | refine below_then ?_ hz4 | refine below_then ?_ hz5 | refine below_then ?_ hz6 | refine below_then ?_ hz7))
  obtain ⟨rfl, hcb⟩ := hcut
  replace hB := below_then hB hcb
  replace hkx := hkx.belowK hcb
  replace hky := hky.belowK hcb
  replace hkp := hkp.belowK hcb
  replace hkq := hkq.belowK hcb
  clear hcb
  clear hkp hkq
  go_upto_region 9 with fail
  have tt1 : Hid (∀ W : World, Below wc.heap.size wc W → Calls Tryz.prog 12 #[ratW g1 a1 b1] W fun e w' => e = .returned (.string ts) ∧ Below W.heap.size W w') := Lib.hid (fun W hl => t1.out W (HT.out.below (below_then hB hl)))
  go_cut [11] (fun s wx => s = .bool true ∧ Below wc.heap.size wc wx)
  case first =>
    go_region_held3 (fun W : World => (W.cell? ⟨w.heap.size, 0, none⟩ = some (.bool g1) ∧ W.cell? ⟨w.heap.size, 1, none⟩ = some (.string a1) ∧ W.cell? ⟨w.heap.size, 2, none⟩ = some (.string b1)) ∧ (W.cell? ⟨w.heap.size + 1, 0, none⟩ = some (.bool g2) ∧ W.cell? ⟨w.heap.size + 1, 1, none⟩ = some (.string a2) ∧ W.cell? ⟨w.heap.size + 1, 2, none⟩ = some (.string b2)))
      ((refine ⟨cells3 hkx ?_, cells3 hky ?_⟩ <;> (repeat (first | exact Below.refl _ _ | apply Below.drew | refine below_al ?_ _ | refine below_then ?_ hz0 | refine below_then ?_ hz1 | refine below_then ?_ hz2 | refine below_then ?_ hz3 | refine below_then ?_ hz4 | refine below_then ?_ hz5 | refine below_then ?_ hz6 | refine below_then ?_ hz7))))
      (first
        | (go_at_call 37; (with_reducible refine (c1.out _).mono ?_); rintro e v0 ⟨rfl, hz0⟩)
        | (go_at_call 38; (with_reducible refine (c2.out _).mono ?_); rintro e v1 ⟨rfl, hz1⟩)
        | (go_at_call 39; (with_reducible refine (c3.out _).mono ?_); rintro e v2 ⟨rfl, hz2⟩)
        | (go_at_call 40; (with_reducible refine (c4.out _).mono ?_); rintro e v3 ⟨rfl, hz3⟩)
        | (go_at_call 30; (with_reducible refine (c5.out _).mono ?_); rintro e v4 ⟨rfl, hz4⟩)
        | (go_at_call 41; (with_reducible refine (c6.out _).mono ?_); rintro e v5 ⟨rfl, hz5⟩)
        | (go_at_call 12; (with_reducible refine (tt1.out _ (by (repeat (first | exact Below.refl _ _ | apply Below.drew | refine below_al ?_ _ | refine below_then ?_ hz0 | refine below_then ?_ hz1 | refine below_then ?_ hz2 | refine below_then ?_ hz3 | refine below_then ?_ hz4 | refine below_then ?_ hz5 | refine below_then ?_ hz6 | refine below_then ?_ hz7)))).mono ?_); rintro e v6 ⟨rfl, hz6⟩)
        | (go_at_call 13; (with_reducible refine (t2.out _).mono ?_); rintro e v7 ⟨rfl, hz7⟩))
    all_goals go_wp2_with fail
    all_goals go_meet
    all_goals
      refine ⟨by first | rfl | simp, ?_⟩
      (repeat (first | exact Below.refl _ _ | apply Below.drew | refine below_al ?_ _ | refine below_then ?_ hz0 | refine below_then ?_ hz1 | refine below_then ?_ hz2 | refine below_then ?_ hz3 | refine below_then ?_ hz4 | refine below_then ?_ hz5 | refine below_then ?_ hz6 | refine below_then ?_ hz7))
  obtain ⟨rfl, hcb⟩ := hcut
  replace hB := below_then hB hcb
  replace hkx := hkx.belowK hcb
  replace hky := hky.belowK hcb
  clear hcb
  go_upto_region 10 with fail
  go_region_held3 (fun W : World => (W.cell? ⟨w.heap.size, 0, none⟩ = some (.bool g1) ∧ W.cell? ⟨w.heap.size, 1, none⟩ = some (.string a1) ∧ W.cell? ⟨w.heap.size, 2, none⟩ = some (.string b1)) ∧ (W.cell? ⟨w.heap.size + 1, 0, none⟩ = some (.bool g2) ∧ W.cell? ⟨w.heap.size + 1, 1, none⟩ = some (.string a2) ∧ W.cell? ⟨w.heap.size + 1, 2, none⟩ = some (.string b2)))
    ((refine ⟨cells3 hkx ?_, cells3 hky ?_⟩ <;> (repeat (first | exact Below.refl _ _ | apply Below.drew | refine below_al ?_ _ | refine below_then ?_ hz0 | refine below_then ?_ hz1 | refine below_then ?_ hz2 | refine below_then ?_ hz3 | refine below_then ?_ hz4 | refine below_then ?_ hz5))))
    (first
        | (go_at_call 27; (with_reducible refine (d1.out _).mono ?_); rintro e v0 ⟨rfl, hz0⟩)
        | (go_at_call 22; (with_reducible refine (r3.out _).mono ?_); rintro e v1 ⟨rfl, hz1⟩)
        | (go_at_call 30; (with_reducible refine (c5.out _).mono ?_); rintro e v2 ⟨rfl, hz2⟩)
        | (go_at_call 22; (with_reducible refine (r4.out _).mono ?_); rintro e v3 ⟨rfl, hz3⟩)
        | (go_at_call 28; (with_reducible refine (S1.out _ _ (rdg3 (by (first | exact Blk.new _ _ _ | exact (Blk.new _ _ _).alloc _ | exact Blk.new2 _ _ _ _ | exact (Blk.new2 _ _ _ _).belowK hz4 | exact ((Blk.new _ _ _).alloc _).belowK hz4)))).mono ?_); rintro e v4 ⟨rfl, hz4⟩)
        | (go_at_call 43; (with_reducible refine (S2.out _ _ (rdg3 (by (first | exact Blk.new _ _ _ | exact (Blk.new _ _ _).alloc _ | exact Blk.new2 _ _ _ _ | exact (Blk.new2 _ _ _ _).belowK hz4 | exact ((Blk.new _ _ _).alloc _).belowK hz4)))).mono ?_); rintro e v5 ⟨rfl, hz5⟩))
  all_goals go_wp2_with fail
  all_goals go_ret
  all_goals
    refine ⟨by first | rfl | simp, below_then hB ?_⟩
    (repeat (first | exact Below.refl _ _ | apply Below.drew | refine below_al ?_ _ | refine below_then ?_ hz0 | refine below_then ?_ hz1 | refine below_then ?_ hz2 | refine below_then ?_ hz3 | refine below_then ?_ hz4 | refine below_then ?_ hz5))

end Go.Proofs.YtikdkhmeaoafmaaGreatDoor
