/- The reference of ratio: Sign, Neg, Mul, Quo. -/
import Derived.Test.YtikdkhmeaoafmaaGreatDoorRatR
namespace Go.Proofs.YtikdkhmeaoafmaaGreatDoor
open Go.RowKit

theorem ret_rlowest {g : Bool} {a b : ByteArray} {x : Rat} (ha : a.size ≤ 1000) (hb : b.size ≤ 1000) (hr : rightB a = true) (h0 : sval b ≠ 0) (h : mkRat (signed g (sval a)) (sval b) = x) : Ret 46 #[.bool g, .string a, .string b] (ratV x) := h ▸ rlowest_q g a b ha hb hr h0

set_option maxHeartbeats 400000 in
theorem rSign_q (g : Bool) (a b : ByteArray) (ha : a.size ≤ 1000) (hb : b.size ≤ 1000) : Ret 40 #[ratW g a b] (.int .i64 (sgnQ (ratOf g a b))) := by
  intro w
  have hx : Sm 1000 (ratOf g a b) := sm_of ha hb (by omega)
  obtain ⟨g1, a1, b1, e1, eg, ea, -, -, -, en, -⟩ := words_right hx
  have p1 := rvalue_q g a b ha hb
  rw [e1] at p1
  have m1 := Lib.hid p1
  have HZ := Lib.hid (sign_words eg ea)
  have E0 : Hid (sval a1 = 0 ↔ (ratOf g a b).num = 0) := Lib.hid (by rw [ea]; omega)
  have hB := Below.refl w.heap.size w
  clear p1 e1 eg ea
  go_enter Tryz.func40, Tryz.ntmps40
  go_wp2_with fail
  refine (m1.out _).mono ?_
  rintro e w1 ⟨rfl, hb1⟩
  have hka := (Blk.new w 27 #[.bool g, .string a, .string b]).belowK hb1
  replace hB := below_then (below_al hB _) hb1
  clear hb1
  obtain ⟨chka0, chka1, chka2⟩ := cells3 hka (Below.refl _ _)
  obtain ⟨fhka0, fhka1, fhka2⟩ := free3 hka (Below.refl _ _)
  by_cases h0 : (ratOf g a b).num = 0
  · rw [decide_eq_true h0] at en
    have H0 := Lib.hid h0
    clear h0
    go_wp2_with fail
    go_ret
    exact ⟨by rw [HZ.out, if_pos (E0.out.2 H0.out)]; rfl, below_put3 hB (Nat.le_refl _) _ _ _⟩
  · rw [decide_eq_false h0] at en
    have H0 := Lib.hid h0
    clear h0
    cases g1
    · go_wp2_with fail
      go_ret
      exact ⟨by rw [HZ.out, if_neg (fun e => H0.out (E0.out.1 e))]; rfl, below_put3 hB (Nat.le_refl _) _ _ _⟩
    · go_wp2_with fail
      go_ret
      exact ⟨by rw [HZ.out, if_neg (fun e => H0.out (E0.out.1 e))]; rfl, below_put3 hB (Nat.le_refl _) _ _ _⟩

set_option maxHeartbeats 400000 in
theorem rNeg_q (g : Bool) (a b : ByteArray) (ha : a.size ≤ 1000) (hb : b.size ≤ 1000) : Ret 41 #[ratW g a b] (ratV (-ratOf g a b)) := by
  intro w
  have hx : Sm 1000 (ratOf g a b) := sm_of ha hb (by omega)
  obtain ⟨g1, a1, b1, e1, eg, -, -, -, -, en, -⟩ := words_right hx
  have p1 := rvalue_q g a b ha hb
  rw [e1] at p1
  have m1 := Lib.hid p1
  have HR : Hid (ratV (-ratOf g a b) = ratW (!g1 && decide ((ratOf g a b).num ≠ 0)) a1 b1) := Lib.hid (by
    rw [ratV_neg, ← eg]
    unfold ratV at e1
    simp only [Value.agg.injEq, Array.mk.injEq, List.cons.injEq, Value.bool.injEq, Value.string.injEq, and_true] at e1
    rw [e1.2.1, e1.2.2])
  have HF : Hid ((ratOf g a b).num = 0 → g1 = false) := Lib.hid (fun e => by rw [eg]; unfold negB; rw [e]; rfl)
  have hB := Below.refl w.heap.size w
  clear p1 e1 eg
  rw [HR.out]
  go_enter Tryz.func41, Tryz.ntmps41
  go_wp2_with fail
  refine (m1.out _).mono ?_
  rintro e w1 ⟨rfl, hb1⟩
  have hka := ((Blk.new w 27 #[.bool g, .string a, .string b]).alloc (.cells #[.bool false, .string ⟨#[]⟩, .string ⟨#[]⟩] 27)).belowK hb1
  have hkr := (Blk.new2 w (.cells #[.bool g, .string a, .string b] 27) 27 #[.bool false, .string ⟨#[]⟩, .string ⟨#[]⟩]).belowK hb1
  replace hB := below_then (below_al (below_al hB _) _) hb1
  clear hb1
  obtain ⟨chka0, chka1, chka2⟩ := cells3 hka (Below.refl _ _)
  obtain ⟨fhka0, fhka1, fhka2⟩ := free3 hka (Below.refl _ _)
  go_upto_region 2 with fail
  clear chka0 chka1 chka2
  clear fhka0 fhka1 fhka2
  replace hB := below_put3 (k := w.heap.size) hB (by omega) (.bool g1) (.string a1) (.string b1)
  replace hkr := hkr.far3 (j := w.heap.size) (by omega) (.bool g1) (.string a1) (.string b1)
  replace hka := hka.put3 (.bool g1) (.string a1) (.string b1)
  generalize ((w1.setCell ⟨w.heap.size, 0, none⟩ (.bool g1)).setCell ⟨w.heap.size, 1, none⟩ (.string a1)).setCell ⟨w.heap.size, 2, none⟩ (.string b1) = wc at hB hka hkr ⊢
  obtain ⟨chka0, chka1, chka2⟩ := cells3 hka (Below.refl _ _)
  obtain ⟨chkr0, chkr1, chkr2⟩ := cells3 hkr (Below.refl _ _)
  obtain ⟨fhka0, fhka1, fhka2⟩ := free3 hka (Below.refl _ _)
  obtain ⟨fhkr0, fhkr1, fhkr2⟩ := free3 hkr (Below.refl _ _)
  by_cases h0 : (ratOf g a b).num = 0
  · rw [decide_eq_true h0] at en
    obtain rfl := HF.out h0
    have H0 := Lib.hid h0
    clear h0
    go_wp2_with fail
    refine bodyPost_ret (results_rat rfl rfl (hkr.put3 _ _ _)) rfl ?_
    exact ⟨by simp [Rat.num_eq_zero.1 H0.out], below_put3 hB (by omega) _ _ _⟩
  · rw [decide_eq_false h0] at en
    have H0 := Lib.hid h0
    clear h0
    have hkr' := hkr.far (p := ⟨w.heap.size, 0, none⟩) (by simp) (.bool (!g1))
    obtain ⟨d0, d1, d2⟩ := cells3 hkr' (Below.refl _ _)
    obtain ⟨e0, e1, e2⟩ := free3 hkr' (Below.refl _ _)
    obtain ⟨k0, k1, k2⟩ := cells3 (hka.set_ 0 (.bool (!g1))) (Below.refl _ _)
    go_wp2_with fail
    refine bodyPost_ret (results_rat rfl rfl (hkr'.put3 _ _ _)) rfl ?_
    exact ⟨by have e : ¬ ratOf g a b = 0 := fun e => H0.out (Rat.num_eq_zero.2 e); simp [e], below_put3 (below_set hB (Nat.le_refl _) _) (by omega) _ _ _⟩

set_option maxRecDepth 100000 in
set_option maxHeartbeats 1000000 in
theorem rMul_q (g : Bool) (a b : ByteArray) (h : Bool) (c d : ByteArray) (ha : a.size ≤ 300) (hb : b.size ≤ 300) (hc : c.size ≤ 300) (hd : d.size ≤ 300) :
    Ret 36 #[ratW g a b, ratW h c d] (ratV (ratOf g a b * ratOf h c d)) := by
  intro w
  have hx : Sm 300 (ratOf g a b) := sm_of ha hb (by omega)
  have hy : Sm 300 (ratOf h c d) := sm_of hc hd (by omega)
  obtain ⟨g1, a1, b1, e1, eg, ea, eb, sa, sb, -⟩ := words hx
  obtain ⟨h1, c1, d1, e2, eh, ec, ed, sc, sd, en, -⟩ := words_right hy
  have p1 : Ret 49 #[ratW g a b] (ratW g1 a1 b1) := fun W => e1 ▸ rvalue_q g a b (by omega) (by omega) W
  have p2 : Ret 49 #[ratW h c d] (ratW h1 c1 d1) := fun W => e2 ▸ rvalue_q h c d (by omega) (by omega) W
  have m1 := Lib.hid p1
  have m2 := Lib.hid p2
  clear p1 p2
  have q3 := ret_rmul (a := a1) (b := c1) (by omega) (by omega)
  have q4 := ret_rmul (a := b1) (b := d1) (by omega) (by omega)
  have q5 : Ret 46 #[.bool (!(g1 == h1)), .string (natS (sval a1 * sval c1)), .string (natS (sval b1 * sval d1))] (ratV (ratOf g a b * ratOf h c d)) :=
    ret_rlowest (natS_sz (P8_prod (sval_le sa) (sval_le sc)) (by omega)) (natS_sz (P8_prod (sval_le sb) (sval_le sd)) (by omega)) (right_natS _) (by rw [sval_natS, eb, ed]; exact den_prod _ _) (by
      rw [sval_natS, sval_natS, ea, eb, ec, ed, eg, eh]; exact mk_mul _ _)
  obtain ⟨rg, ra, rb, er, -⟩ := words (hx.mul hy)
  rw [er] at q5 ⊢
  have m3 := Lib.hid q3
  have m4 := Lib.hid q4
  have m5 := Lib.hid q5
  clear q3 q4 q5 er e1 e2 hx hy eg ea eb eh ec ed en
  generalize natS (sval a1 * sval c1) = t1 at *
  generalize natS (sval b1 * sval d1) = t2 at *
  go_enter Tryz.func36, Tryz.ntmps36
  go_upto_region 1 with fail
  obtain ⟨W0, hW0, hka, hkb, hkr, hB⟩ := new_two w g a b h c d
  rw [hW0]
  clear hW0
  obtain ⟨chka0, chka1, chka2⟩ := cells3 hka (Below.refl _ _)
  obtain ⟨chkb0, chkb1, chkb2⟩ := cells3 hkb (Below.refl _ _)
  go_wp2_with fail
  refine (m1.out _).mono ?_
  rintro e w1 ⟨rfl, hb1⟩
  clear chka0 chka1 chka2 chkb0 chkb1 chkb2
  replace hB := below_then hB hb1
  replace hka := hka.belowK hb1
  replace hkb := hkb.belowK hb1
  replace hkr := hkr.belowK hb1
  clear hb1
  obtain ⟨chka0, chka1, chka2⟩ := cells3 hka (Below.refl _ _)
  obtain ⟨chkb0, chkb1, chkb2⟩ := cells3 hkb (Below.refl _ _)
  obtain ⟨fhka0, fhka1, fhka2⟩ := free3 hka (Below.refl _ _)
  go_wp2_with fail
  refine (m2.out _).mono ?_
  rintro e w2 ⟨rfl, hb2⟩
  clear chka0 chka1 chka2 chkb0 chkb1 chkb2
  clear fhka0 fhka1 fhka2
  replace hB := below_then (below_put3 hB (by omega) _ _ _) hb2
  replace hka := (hka.put3 _ _ _).belowK hb2
  replace hkb := (hkb.far3 (by omega) _ _ _).belowK hb2
  replace hkr := (hkr.far3 (by omega) _ _ _).belowK hb2
  clear hb2
  obtain ⟨chkb0, chkb1, chkb2⟩ := cells3 hkb (Below.refl _ _)
  obtain ⟨fhkb0, fhkb1, fhkb2⟩ := free3 hkb (Below.refl _ _)
  go_upto_region 3 with fail
  clear chkb0 chkb1 chkb2
  clear fhkb0 fhkb1 fhkb2
  replace hB := below_put3 (k := w.heap.size + 1) hB (by omega) (.bool h1) (.string c1) (.string d1)
  replace hka := hka.far3 (j := w.heap.size + 1) (by omega) (.bool h1) (.string c1) (.string d1)
  replace hkb := hkb.put3 (.bool h1) (.string c1) (.string d1)
  replace hkr := hkr.far3 (j := w.heap.size + 1) (by omega) (.bool h1) (.string c1) (.string d1)
  generalize ((w2.setCell ⟨w.heap.size + 1, 0, none⟩ (.bool h1)).setCell ⟨w.heap.size + 1, 1, none⟩ (.string c1)).setCell ⟨w.heap.size + 1, 2, none⟩ (.string d1) = wc at hB hka hkb hkr ⊢
  go_region_held3 (fun W : World => (W.cell? ⟨w.heap.size, 0, none⟩ = some (.bool g1) ∧ W.cell? ⟨w.heap.size, 1, none⟩ = some (.string a1) ∧ W.cell? ⟨w.heap.size, 2, none⟩ = some (.string b1)) ∧ (W.cell? ⟨(w.heap.size + 1), 0, none⟩ = some (.bool h1) ∧ W.cell? ⟨(w.heap.size + 1), 1, none⟩ = some (.string c1) ∧ W.cell? ⟨(w.heap.size + 1), 2, none⟩ = some (.string d1)))
    ((first | (refine ⟨cells3 hka ?_, cells3 hkb ?_⟩ <;> ((repeat (first | exact Below.refl _ _ | apply Below.drew | refine below_then ?_ hz0 | refine below_then ?_ hz1 | refine below_then ?_ hz2)); done)) | (refine ⟨far3 hka ?_ (by omega), far3 hkb ?_ (by omega)⟩ <;> (repeat (first | exact Below.refl _ _ | apply Below.drew | refine below_then ?_ hz0 | refine below_then ?_ hz1 | refine below_then ?_ hz2)))))
    (first
      | (go_at_call 45; (with_reducible refine (m3.out _).mono ?_); rintro e v0 ⟨rfl, hz0⟩)
      | (go_at_call 45; (with_reducible refine (m4.out _).mono ?_); rintro e v1 ⟨rfl, hz1⟩)
      | (go_at_call 46; (with_reducible refine (m5.out _).mono ?_); rintro e v2 ⟨rfl, hz2⟩; have hl : Below wc.heap.size wc v2 := (by (repeat (first | exact Below.refl _ _ | apply Below.drew | refine below_then ?_ hz0 | refine below_then ?_ hz1 | refine below_then ?_ hz2))); obtain ⟨q0, q1, q2⟩ := cells3 hkr hl; obtain ⟨r0, r1, r2⟩ := free3 hkr hl))
  all_goals go_wp2_with fail
  all_goals
    refine bodyPost_ret (results_rat rfl rfl ((hkr.belowK hl).put3 _ _ _)) rfl ?_
    exact ⟨rfl, below_put3 (below_then hB hl) (by omega) _ _ _⟩

set_option maxRecDepth 100000 in
set_option maxHeartbeats 1000000 in
theorem rQuo_q (g : Bool) (a b : ByteArray) (h : Bool) (c d : ByteArray) (ha : a.size ≤ 300) (hb : b.size ≤ 300) (hc : c.size ≤ 300) (hd : d.size ≤ 300) :
    Ret 33 #[ratW g a b, ratW h c d] (quoQ (ratOf g a b) (ratOf h c d)) := by
  intro w
  have hx : Sm 300 (ratOf g a b) := sm_of ha hb (by omega)
  have hy : Sm 300 (ratOf h c d) := sm_of hc hd (by omega)
  obtain ⟨g1, a1, b1, e1, eg, ea, eb, sa, sb, -⟩ := words hx
  obtain ⟨h1, c1, d1, e2, eh, ec, ed, sc, sd, en, -⟩ := words_right hy
  have p1 : Ret 49 #[ratW g a b] (ratW g1 a1 b1) := fun W => e1 ▸ rvalue_q g a b (by omega) (by omega) W
  have p2 : Ret 49 #[ratW h c d] (ratW h1 c1 d1) := fun W => e2 ▸ rvalue_q h c d (by omega) (by omega) W
  have m1 := Lib.hid p1
  have m2 := Lib.hid p2
  clear p1 p2
  have q3 := ret_rmul (a := a1) (b := d1) (by omega) (by omega)
  have q4 := ret_rmul (a := b1) (b := c1) (by omega) (by omega)
  have q5 : Hid (¬ (ratOf h c d).num = 0 → ∃ (rg : Bool) (ra rb : ByteArray), quoQ (ratOf g a b) (ratOf h c d) = .tuple #[ratW rg ra rb, .bool true] ∧ Ret 46 #[.bool (!(g1 == h1)), .string (natS (sval a1 * sval d1)), .string (natS (sval b1 * sval c1))] (ratW rg ra rb)) := Lib.hid (fun h0 => by
    obtain ⟨rg, ra, rb, er, -⟩ := words (hx.quo hy h0)
    refine ⟨rg, ra, rb, by rw [← er]; exact if_neg h0, ?_⟩
    rw [← er]
    exact ret_rlowest (natS_sz (P8_prod (sval_le sa) (sval_le sd)) (by omega)) (natS_sz (P8_prod (sval_le sb) (sval_le sc)) (by omega)) (right_natS _) (by rw [sval_natS, eb, ec]; exact Nat.mul_ne_zero (Rat.den_nz _) (by omega)) (by
        rw [sval_natS, sval_natS, ea, eb, ec, ed, eg, eh]; exact mk_quo h0))
  have HQ : Hid ((ratOf h c d).num = 0 → quoQ (ratOf g a b) (ratOf h c d) = .tuple #[rat0, .bool false]) := Lib.hid (fun h0 => if_pos h0)
  have m3 := Lib.hid q3
  have m4 := Lib.hid q4
  clear q3 q4 e1 e2 hx hy eg ea eb eh ec ed
  generalize natS (sval a1 * sval d1) = t1 at *
  generalize natS (sval b1 * sval c1) = t2 at *
  generalize quoQ (ratOf g a b) (ratOf h c d) = res at *
  go_enter Tryz.func33, Tryz.ntmps33
  go_upto_region 1 with fail
  obtain ⟨W0, hW0, hka, hkb, hkr, hB⟩ := new_two w g a b h c d
  rw [hW0]
  clear hW0
  obtain ⟨chka0, chka1, chka2⟩ := cells3 hka (Below.refl _ _)
  obtain ⟨chkb0, chkb1, chkb2⟩ := cells3 hkb (Below.refl _ _)
  go_wp2_with fail
  refine (m1.out _).mono ?_
  rintro e w1 ⟨rfl, hb1⟩
  clear chka0 chka1 chka2 chkb0 chkb1 chkb2
  replace hB := below_then hB hb1
  replace hka := hka.belowK hb1
  replace hkb := hkb.belowK hb1
  replace hkr := hkr.belowK hb1
  clear hb1
  obtain ⟨chka0, chka1, chka2⟩ := cells3 hka (Below.refl _ _)
  obtain ⟨chkb0, chkb1, chkb2⟩ := cells3 hkb (Below.refl _ _)
  obtain ⟨fhka0, fhka1, fhka2⟩ := free3 hka (Below.refl _ _)
  go_wp2_with fail
  refine (m2.out _).mono ?_
  rintro e w2 ⟨rfl, hb2⟩
  clear chka0 chka1 chka2 chkb0 chkb1 chkb2
  clear fhka0 fhka1 fhka2
  replace hB := below_then (below_put3 hB (by omega) _ _ _) hb2
  replace hka := (hka.put3 _ _ _).belowK hb2
  replace hkb := (hkb.far3 (by omega) _ _ _).belowK hb2
  replace hkr := (hkr.far3 (by omega) _ _ _).belowK hb2
  clear hb2
  obtain ⟨chkb0, chkb1, chkb2⟩ := cells3 hkb (Below.refl _ _)
  obtain ⟨fhkb0, fhkb1, fhkb2⟩ := free3 hkb (Below.refl _ _)
  go_upto_region 3 with fail
  clear chkb0 chkb1 chkb2
  clear fhkb0 fhkb1 fhkb2
  replace hB := below_put3 (k := w.heap.size + 1) hB (by omega) (.bool h1) (.string c1) (.string d1)
  replace hka := hka.far3 (j := w.heap.size + 1) (by omega) (.bool h1) (.string c1) (.string d1)
  replace hkb := hkb.put3 (.bool h1) (.string c1) (.string d1)
  replace hkr := hkr.far3 (j := w.heap.size + 1) (by omega) (.bool h1) (.string c1) (.string d1)
  generalize ((w2.setCell ⟨w.heap.size + 1, 0, none⟩ (.bool h1)).setCell ⟨w.heap.size + 1, 1, none⟩ (.string c1)).setCell ⟨w.heap.size + 1, 2, none⟩ (.string d1) = wc at hB hka hkb hkr ⊢
  obtain ⟨chkb0, chkb1, chkb2⟩ := cells3 hkb (Below.refl _ _)
  obtain ⟨chkr0, chkr1, chkr2⟩ := cells3 hkr (Below.refl _ _)
  obtain ⟨fhkr0, fhkr1, fhkr2⟩ := free3 hkr (Below.refl _ _)
  by_cases h0 : (ratOf h c d).num = 0
  · obtain rfl := HQ.out h0
    rw [decide_eq_true h0] at en
    clear h0
    go_wp2_with fail
    refine bodyPost_ret (results_rat2 rfl rfl (hkr.put3 _ _ _) rfl) rfl ?_
    exact ⟨rfl, below_put3 hB (by omega) _ _ _⟩
  · obtain ⟨rg, ra, rb, rfl, q6⟩ := q5.out h0
    have m5 := Lib.hid q6
    rw [decide_eq_false h0] at en
    clear h0 q6
    go_upto_region 5 with fail
    clear chkb0 chkb1 chkb2 chkr0 chkr1 chkr2
    clear fhkr0 fhkr1 fhkr2
    go_region_held3 (fun W : World => (W.cell? ⟨w.heap.size, 0, none⟩ = some (.bool g1) ∧ W.cell? ⟨w.heap.size, 1, none⟩ = some (.string a1) ∧ W.cell? ⟨w.heap.size, 2, none⟩ = some (.string b1)) ∧ (W.cell? ⟨(w.heap.size + 1), 0, none⟩ = some (.bool h1) ∧ W.cell? ⟨(w.heap.size + 1), 1, none⟩ = some (.string c1) ∧ W.cell? ⟨(w.heap.size + 1), 2, none⟩ = some (.string d1)))
      ((first | (refine ⟨cells3 hka ?_, cells3 hkb ?_⟩ <;> ((repeat (first | exact Below.refl _ _ | apply Below.drew | refine below_then ?_ hz0 | refine below_then ?_ hz1 | refine below_then ?_ hz2)); done)) | (refine ⟨far3 hka ?_ (by omega), far3 hkb ?_ (by omega)⟩ <;> (repeat (first | exact Below.refl _ _ | apply Below.drew | refine below_then ?_ hz0 | refine below_then ?_ hz1 | refine below_then ?_ hz2)))))
      (first
        | (go_at_call 45; (with_reducible refine (m3.out _).mono ?_); rintro e v0 ⟨rfl, hz0⟩)
        | (go_at_call 45; (with_reducible refine (m4.out _).mono ?_); rintro e v1 ⟨rfl, hz1⟩)
        | (go_at_call 46; (with_reducible refine (m5.out _).mono ?_); rintro e v2 ⟨rfl, hz2⟩; have hl : Below wc.heap.size wc v2 := (by (repeat (first | exact Below.refl _ _ | apply Below.drew | refine below_then ?_ hz0 | refine below_then ?_ hz1 | refine below_then ?_ hz2))); obtain ⟨q0, q1, q2⟩ := cells3 hkr hl; obtain ⟨r0, r1, r2⟩ := free3 hkr hl))
    all_goals go_wp2_with fail
    all_goals
      refine bodyPost_ret (results_rat2 rfl rfl ((hkr.belowK hl).put3 _ _ _) rfl) rfl ?_
      exact ⟨rfl, below_put3 (below_then hB hl) (by omega) _ _ _⟩

end Go.Proofs.YtikdkhmeaoafmaaGreatDoor
