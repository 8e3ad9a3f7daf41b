/- The exported functions of ratio: Of, Make, Right, Sign, Neg, Add, Sub. -/
import Derived.Test.YtikdkhmeaoafmaaGreatDoorRatB
namespace Go.Proofs.YtikdkhmeaoafmaaGreatDoor
open Go.RowKit

theorem Right_q (g : Bool) (a b : ByteArray) (ha : a.size ≤ 1000) (hb : b.size ≤ 1000) : Ret 22 #[ratW g a b] (.bool (rRightB g a b)) := by
  intro w
  have m1 := Lib.hid (ret_nright g ha hb)
  go_enter Tryz.func22, Tryz.ntmps22
  go_wp2_with fail
  refine (m1.out _).mono ?_
  rintro e w1 ⟨rfl, hb1⟩
  go_wp2_with fail
  go_ret
  exact ⟨rfl, below_then (below_al (Below.refl _ _) _) hb1⟩

theorem ret_value (g : Bool) {a b : ByteArray} (ha : a.size ≤ 1000) (hb : b.size ≤ 1000) : Ret 47 #[ratW g a b] (ratV (ratOf g a b)) := fun W => value_any g a b W ha hb

set_option maxHeartbeats 400000 in
theorem Neg_q (g : Bool) (a b : ByteArray) (ha : a.size ≤ 1000) (hb : b.size ≤ 1000) : Ret 30 #[ratW g a b] (ratV (-ratOf g a b)) := by
  intro w
  have hx : Sm 1000 (ratOf g a b) := sm_of ha hb (by omega)
  obtain ⟨g1, a1, b1, e1, -⟩ := words hx
  obtain ⟨g2, a2, b2, e2, -⟩ := words hx.neg
  have p1 := ret_value g ha hb
  have p2 : Ret 74 #[ratV (ratOf g a b)] (ratV (-ratOf g a b)) := fun W => negate_any _ W
  rw [e1] at p1 p2
  rw [e2] at p2 ⊢
  have m1 := Lib.hid p1
  have m2 := Lib.hid p2
  clear p1 p2 e1 e2
  have hB := Below.refl w.heap.size w
  go_enter Tryz.func30, Tryz.ntmps30
  go_wp2_with fail
  refine (m1.out _).mono ?_
  rintro e w1 ⟨rfl, hb1⟩
  have hkr := (Blk.new2 w (.cells #[.bool g, .string a, .string b] 27) 27 #[.bool false, .string ⟨#[]⟩, .string ⟨#[]⟩]).belowK hb1
  replace hB := below_then (below_al (below_al hB _) _) hb1
  clear hb1
  go_wp2_with fail
  refine (m2.out _).mono ?_
  rintro e w2 ⟨rfl, hb2⟩
  replace hB := below_then hB hb2
  replace hkr := hkr.belowK hb2
  clear hb2
  obtain ⟨chkr0, chkr1, chkr2⟩ := cells3 hkr (Below.refl _ _)
  obtain ⟨fhkr0, fhkr1, fhkr2⟩ := free3 hkr (Below.refl _ _)
  go_wp2_with fail
  refine bodyPost_ret (results_rat rfl rfl (hkr.put3 _ _ _)) rfl ?_
  exact ⟨rfl, below_put3 hB (by omega) _ _ _⟩

theorem sign_words {x : Rat} {g : Bool} {a : ByteArray} (h1 : g = negB x) (h2 : sval a = x.num.natAbs) : sgnQ x = if sval a = 0 then 0 else if g = true then -1 else 1 := by
  unfold sgnQ
  rw [h2, h1]
  unfold negB
  rcases Int.lt_trichotomy x.num 0 with h | h | h
  · rw [Int.sign_eq_neg_one_of_neg h, if_neg (by omega), if_pos (by simpa using h)]
  · rw [h]; rfl
  · rw [Int.sign_eq_one_of_pos h, if_neg (by omega), if_neg (by rw [decide_eq_false (show ¬ x.num < 0 by omega)]; simp)]
theorem words_right {x : Rat} {k : Nat} (h : Sm k x) : ∃ (g : Bool) (a b : ByteArray), ratV x = ratW g a b ∧ g = negB x ∧ sval a = x.num.natAbs ∧ sval b = x.den ∧ a.size ≤ k ∧ b.size ≤ k ∧ a.toList.isEmpty = decide (x.num = 0) ∧ b.toList.isEmpty = false ∧ (b.toList == [1]) = decide (x.den = 1) :=
  ⟨negB x, natS x.num.natAbs, natS x.den, rfl, rfl, sval_natS _, sval_natS _, natS_size h.num, natS_size h.den, by
    rw [natS_empty]; by_cases h : x.num = 0 <;> simp [h], by rw [natS_empty]; simpa using x.den_nz, unit_iff _⟩

set_option maxHeartbeats 400000 in
theorem Sign_q (g : Bool) (a b : ByteArray) (ha : a.size ≤ 1000) (hb : b.size ≤ 1000) : Ret 39 #[ratW g a b] (.int .i64 (sgnQ (ratOf g a b))) := by
  intro w
  have hx : Sm 1000 (ratOf g a b) := sm_of ha hb (by omega)
  obtain ⟨g1, a1, b1, e1, eg, ea, -, -, -, en, -⟩ := words_right hx
  have p1 := ret_value g ha hb
  rw [e1] at p1
  have m1 := Lib.hid p1
  have HZ := Lib.hid (sign_words eg ea)
  have E0 : Hid (sval a1 = 0 ↔ (ratOf g a b).num = 0) := Lib.hid (by rw [ea]; omega)
  have hB := Below.refl w.heap.size w
  clear p1 e1 eg ea
  go_enter Tryz.func39, Tryz.ntmps39
  go_wp2_with fail
  refine (m1.out _).mono ?_
  rintro e w1 ⟨rfl, hb1⟩
  have hka := (Blk.new w 27 #[.bool g, .string a, .string b]).belowK hb1
  replace hB := below_then (below_al hB _) hb1
  clear hb1
  obtain ⟨chka0, chka1, chka2⟩ := cells3 hka (Below.refl _ _)
  obtain ⟨fhka0, fhka1, fhka2⟩ := free3 hka (Below.refl _ _)
  by_cases h0 : (ratOf g a b).num = 0
  · rw [decide_eq_true h0] at en
    have H0 := Lib.hid h0
    clear h0
    go_wp2_with fail
    go_ret
    exact ⟨by rw [HZ.out, if_pos (E0.out.2 H0.out)]; rfl, below_put3 hB (Nat.le_refl _) _ _ _⟩
  · rw [decide_eq_false h0] at en
    have H0 := Lib.hid h0
    clear h0
    cases g1
    · go_wp2_with fail
      go_ret
      exact ⟨by rw [HZ.out, if_neg (fun e => H0.out (E0.out.1 e))]; rfl, below_put3 hB (Nat.le_refl _) _ _ _⟩
    · go_wp2_with fail
      go_ret
      exact ⟨by rw [HZ.out, if_neg (fun e => H0.out (E0.out.1 e))]; rfl, below_put3 hB (Nat.le_refl _) _ _ _⟩

set_option maxRecDepth 100000 in
set_option maxHeartbeats 1000000 in
theorem Add_q (g : Bool) (a b : ByteArray) (h : Bool) (c d : ByteArray) (ha : a.size ≤ 300) (hb : b.size ≤ 300) (hc : c.size ≤ 300) (hd : d.size ≤ 300) :
    Ret 27 #[ratW g a b, ratW h c d] (ratV (ratOf g a b + ratOf h c d)) := by
  intro w
  have hx : Sm 300 (ratOf g a b) := sm_of ha hb (by omega)
  have hy : Sm 300 (ratOf h c d) := sm_of hc hd (by omega)
  obtain ⟨g1, a1, b1, e1, -⟩ := words hx
  obtain ⟨h1, c1, d1, e2, -⟩ := words hy
  have p1 : Ret 47 #[ratW g a b] (ratW g1 a1 b1) := fun W => e1 ▸ value_any g a b W (by omega) (by omega)
  have p2 : Ret 47 #[ratW h c d] (ratW h1 c1 d1) := fun W => e2 ▸ value_any h c d W (by omega) (by omega)
  have p3 : Ret 71 #[ratV (ratOf g a b), ratV (ratOf h c d)] (ratV (ratOf g a b + ratOf h c d)) := fun W => add_q _ _ W (hx.mono (by omega)) (hy.mono (by omega))
  obtain ⟨rg, ra, rb, er, -⟩ := words (hx.add hy)
  rw [e1, e2] at p3
  rw [er] at p3 ⊢
  have m3 := Lib.hid p3
  clear p3 er e1 e2 hx hy
  have m1 := Lib.hid p1
  have m2 := Lib.hid p2
  go_enter Tryz.func27, Tryz.ntmps27
  go_upto_region 1 with fail
  obtain ⟨W0, hW0, hka, hkb, hkr, hB⟩ := new_two w g a b h c d
  rw [hW0]
  clear hW0
  go_region_held3 (fun W : World => (W.cell? ⟨w.heap.size, 0, none⟩ = some (.bool g) ∧ W.cell? ⟨w.heap.size, 1, none⟩ = some (.string a) ∧ W.cell? ⟨w.heap.size, 2, none⟩ = some (.string b)) ∧ (W.cell? ⟨(w.heap.size + 1), 0, none⟩ = some (.bool h) ∧ W.cell? ⟨(w.heap.size + 1), 1, none⟩ = some (.string c) ∧ W.cell? ⟨(w.heap.size + 1), 2, none⟩ = some (.string d)))
    ((first | (refine ⟨cells3 hka ?_, cells3 hkb ?_⟩ <;> ((repeat (first | exact Below.refl _ _ | apply Below.drew | refine below_then ?_ hz0 | refine below_then ?_ hz1 | refine below_then ?_ hz2)); done)) | (refine ⟨far3 hka ?_ (by omega), far3 hkb ?_ (by omega)⟩ <;> (repeat (first | exact Below.refl _ _ | apply Below.drew | refine below_then ?_ hz0 | refine below_then ?_ hz1 | refine below_then ?_ hz2)))))
    (first
      | (go_at_call 47; (with_reducible refine (m1.out _).mono ?_); rintro e v0 ⟨rfl, hz0⟩)
      | (go_at_call 47; (with_reducible refine (m2.out _).mono ?_); rintro e v1 ⟨rfl, hz1⟩)
      | (go_at_call 71; (with_reducible refine (m3.out _).mono ?_); rintro e v2 ⟨rfl, hz2⟩; have hl : Below W0.heap.size W0 v2 := (by (repeat (first | exact Below.refl _ _ | apply Below.drew | refine below_then ?_ hz0 | refine below_then ?_ hz1 | refine below_then ?_ hz2))); obtain ⟨q0, q1, q2⟩ := cells3 hkr hl; obtain ⟨r0, r1, r2⟩ := free3 hkr hl))
  all_goals go_wp2_with fail
  all_goals
    refine bodyPost_ret (results_rat rfl rfl ((hkr.belowK hl).put3 _ _ _)) rfl ?_
    exact ⟨rfl, below_put3 (below_then hB hl) (by omega) _ _ _⟩

set_option maxRecDepth 100000 in
set_option maxHeartbeats 1000000 in
theorem Sub_q (g : Bool) (a b : ByteArray) (h : Bool) (c d : ByteArray) (ha : a.size ≤ 300) (hb : b.size ≤ 300) (hc : c.size ≤ 300) (hd : d.size ≤ 300) :
    Ret 32 #[ratW g a b, ratW h c d] (ratV (ratOf g a b - ratOf h c d)) := by
  intro w
  have hx : Sm 300 (ratOf g a b) := sm_of ha hb (by omega)
  have hy : Sm 300 (ratOf h c d) := sm_of hc hd (by omega)
  obtain ⟨g1, a1, b1, e1, -⟩ := words hx
  obtain ⟨h1, c1, d1, e2, -⟩ := words hy
  have p1 : Ret 47 #[ratW g a b] (ratW g1 a1 b1) := fun W => e1 ▸ value_any g a b W (by omega) (by omega)
  have p2 : Ret 47 #[ratW h c d] (ratW h1 c1 d1) := fun W => e2 ▸ value_any h c d W (by omega) (by omega)
  have p3 : Ret 74 #[ratV (ratOf h c d)] (ratV (-ratOf h c d)) := fun W => negate_any _ W
  have p4 : Ret 71 #[ratV (ratOf g a b), ratV (-ratOf h c d)] (ratV (ratOf g a b - ratOf h c d)) := fun W => (Rat.sub_eq_add_neg _ _) ▸ add_q _ _ W (hx.mono (by omega)) (hy.neg.mono (by omega))
  obtain ⟨rg, ra, rb, er, -⟩ := words (hx.sub hy)
  obtain ⟨sg, sa, sb, es, -⟩ := words hy.neg
  rw [e2, es] at p3
  rw [e1, es] at p4
  rw [er] at p4 ⊢
  have m3 := Lib.hid p3
  have m4 := Lib.hid p4
  clear p3 p4 er es e1 e2 hx hy
  have m1 := Lib.hid p1
  have m2 := Lib.hid p2
  go_enter Tryz.func32, Tryz.ntmps32
  go_upto_region 1 with fail
  obtain ⟨W0, hW0, hka, hkb, hkr, hB⟩ := new_two w g a b h c d
  rw [hW0]
  clear hW0
  go_region_held3 (fun W : World => (W.cell? ⟨w.heap.size, 0, none⟩ = some (.bool g) ∧ W.cell? ⟨w.heap.size, 1, none⟩ = some (.string a) ∧ W.cell? ⟨w.heap.size, 2, none⟩ = some (.string b)) ∧ (W.cell? ⟨(w.heap.size + 1), 0, none⟩ = some (.bool h) ∧ W.cell? ⟨(w.heap.size + 1), 1, none⟩ = some (.string c) ∧ W.cell? ⟨(w.heap.size + 1), 2, none⟩ = some (.string d)))
    ((first | (refine ⟨cells3 hka ?_, cells3 hkb ?_⟩ <;> ((repeat (first | exact Below.refl _ _ | apply Below.drew | refine below_then ?_ hz0 | refine below_then ?_ hz1 | refine below_then ?_ hz2 | refine below_then ?_ hz3)); done)) | (refine ⟨far3 hka ?_ (by omega), far3 hkb ?_ (by omega)⟩ <;> (repeat (first | exact Below.refl _ _ | apply Below.drew | refine below_then ?_ hz0 | refine below_then ?_ hz1 | refine below_then ?_ hz2 | refine below_then ?_ hz3)))))
    (first
      | (go_at_call 47; (with_reducible refine (m1.out _).mono ?_); rintro e v0 ⟨rfl, hz0⟩)
      | (go_at_call 47; (with_reducible refine (m2.out _).mono ?_); rintro e v1 ⟨rfl, hz1⟩)
      | (go_at_call 74; (with_reducible refine (m3.out _).mono ?_); rintro e v2 ⟨rfl, hz2⟩)
      | (go_at_call 71; (with_reducible refine (m4.out _).mono ?_); rintro e v3 ⟨rfl, hz3⟩; have hl : Below W0.heap.size W0 v3 := (by (repeat (first | exact Below.refl _ _ | apply Below.drew | refine below_then ?_ hz0 | refine below_then ?_ hz1 | refine below_then ?_ hz2 | refine below_then ?_ hz3))); obtain ⟨q0, q1, q2⟩ := cells3 hkr hl; obtain ⟨r0, r1, r2⟩ := free3 hkr hl))
  all_goals go_wp2_with fail
  all_goals
    refine bodyPost_ret (results_rat rfl rfl ((hkr.belowK hl).put3 _ _ _)) rfl ?_
    exact ⟨rfl, below_put3 (below_then hB hl) (by omega) _ _ _⟩

end Go.Proofs.YtikdkhmeaoafmaaGreatDoor
