/- The reference of ratio: Add, Sub, Cmp. -/
import Derived.Test.YtikdkhmeaoafmaaGreatDoorRatS
namespace Go.Proofs.YtikdkhmeaoafmaaGreatDoor
open Go.RowKit

set_option maxRecDepth 100000 in
set_option maxHeartbeats 1000000 in
theorem rAdd_q (g : Bool) (a b : ByteArray) (h : Bool) (c d : ByteArray) (ha : a.size ≤ 300) (hb : b.size ≤ 300) (hc : c.size ≤ 300) (hd : d.size ≤ 300) :
    Ret 34 #[ratW g a b, ratW h c d] (ratV (ratOf g a b + ratOf h c d)) := by
  intro w
  have hx : Sm 300 (ratOf g a b) := sm_of ha hb (by omega)
  have hy : Sm 300 (ratOf h c d) := sm_of hc hd (by omega)
  obtain ⟨g1, a1, b1, e1, eg, ea, eb, sa, sb, -⟩ := words hx
  obtain ⟨h1, c1, d1, e2, eh, ec, ed, sc, sd, en, -⟩ := words_right hy
  have p1 : Ret 49 #[ratW g a b] (ratW g1 a1 b1) := fun W => e1 ▸ rvalue_q g a b (by omega) (by omega) W
  have p2 : Ret 49 #[ratW h c d] (ratW h1 c1 d1) := fun W => e2 ▸ rvalue_q h c d (by omega) (by omega) W
  have m1 := Lib.hid p1
  have m2 := Lib.hid p2
  clear p1 p2
  have s1 := P8_prod (sval_le sa) (sval_le sd)
  have s2 := P8_prod (sval_le sc) (sval_le sb)
  have s3 := P8_prod (sval_le sb) (sval_le sd)
  have m3 := Lib.hid (ret_rmul (a := a1) (b := d1) (by omega) (by omega))
  have m4 := Lib.hid (ret_rmul (a := c1) (b := b1) (by omega) (by omega))
  have m5 := Lib.hid (ret_rmul (a := b1) (b := d1) (by omega) (by omega))
  have z1 := natS_sz s1 (by omega)
  have z2 := natS_sz s2 (by omega)
  have z3 := natS_sz s3 (by omega)
  have n3 : sval (natS (sval b1 * sval d1)) ≠ 0 := by rw [sval_natS, eb, ed]; exact den_prod _ _
  obtain ⟨rg, ra, rb, er, -⟩ := words (hx.add hy)
  have HS : Hid (g1 = h1 → ∃ s : ByteArray, Ret 62 #[.string (natS (sval a1 * sval d1)), .string (natS (sval c1 * sval b1))] (.string s) ∧ Ret 46 #[.bool g1, .string s, .string (natS (sval b1 * sval d1))] (ratW rg ra rb)) := Lib.hid (fun hgh =>
      ⟨_, ret_radd z1 z2, er ▸ ret_rlowest (natS_sz (P8_sum (by rw [sval_natS]; exact s1) (by rw [sval_natS]; exact s2)) (by omega)) z3 (right_natS _) n3 (by
        rw [sval_natS, sval_natS, sval_natS, sval_natS, ea, eb, ec, ed, eg]
        exact mk_add_same (by rw [← eg, ← eh, hgh]))⟩)
  have HD : Hid (¬ g1 = h1 → (∃ (s : ByteArray) (z : Int), 0 ≤ z ∧ Ret 51 #[.string (natS (sval a1 * sval d1)), .string (natS (sval c1 * sval b1))] (.int .i64 z) ∧ Ret 75 #[.string (natS (sval a1 * sval d1)), .string (natS (sval c1 * sval b1))] (.tuple #[.string s, .bool true]) ∧ Ret 46 #[.bool g1, .string s, .string (natS (sval b1 * sval d1))] (ratW rg ra rb)) ∨
      (∃ s : ByteArray, Ret 51 #[.string (natS (sval a1 * sval d1)), .string (natS (sval c1 * sval b1))] (.int .i64 (-1)) ∧ Ret 75 #[.string (natS (sval c1 * sval b1)), .string (natS (sval a1 * sval d1))] (.tuple #[.string s, .bool true]) ∧ Ret 46 #[.bool h1, .string s, .string (natS (sval b1 * sval d1))] (ratW rg ra rb))) := Lib.hid (fun hgh => by
    have hc := ret_rcmp z1 z2
    rw [sval_natS, sval_natS] at hc
    rcases Nat.lt_or_ge (sval a1 * sval d1) (sval c1 * sval b1) with hlt | hge
    · rw [cmpI_lt hlt] at hc
      exact .inr ⟨_, hc, ret_rsub z2 z1 (sval_natS _) (sval_natS _) (by omega), er ▸ ret_rlowest (natS_sz (Nat.lt_of_le_of_lt (Nat.sub_le _ _) s2) (by omega)) z3 (right_natS _) n3 (by
          rw [sval_natS, sval_natS, ea, eb, ec, ed, eh]
          exact mk_add_right (by rw [← eg, ← eh]; exact hgh) (by rw [← ea, ← eb, ← ec, ← ed]; omega))⟩
    · refine .inl ⟨_, _, ?_, hc, ret_rsub z1 z2 (sval_natS _) (sval_natS _) hge, er ▸ ret_rlowest (natS_sz (Nat.lt_of_le_of_lt (Nat.sub_le _ _) s1) (by omega)) z3 (right_natS _) n3 (by
          rw [sval_natS, sval_natS, ea, eb, ec, ed, eg]
          exact mk_add_left (by rw [← eg, ← eh]; exact hgh) (by rw [← ea, ← eb, ← ec, ← ed]; exact hge))⟩
      unfold cmpI
      rw [if_neg (by omega)]
      split <;> omega)
  rw [er]
  clear s1 s2 s3 z1 z2 z3 n3 er e1 e2 hx hy eg ea eb eh ec ed en
  generalize natS (sval a1 * sval d1) = t1 at *
  generalize natS (sval c1 * sval b1) = t2 at *
  generalize natS (sval b1 * sval d1) = t3 at *
  go_enter Tryz.func34, Tryz.ntmps34
  go_upto_region 1 with fail
  obtain ⟨W0, hW0, hka, hkb, hkr, hB⟩ := new_two w g a b h c d
  rw [hW0]
  clear hW0
  obtain ⟨chka0, chka1, chka2⟩ := cells3 hka (Below.refl _ _)
  obtain ⟨chkb0, chkb1, chkb2⟩ := cells3 hkb (Below.refl _ _)
  go_wp2_with fail
  refine (m1.out _).mono ?_
  rintro e w1 ⟨rfl, hb1⟩
  clear chka0 chka1 chka2 chkb0 chkb1 chkb2
  replace hB := below_then hB hb1
  replace hka := hka.belowK hb1
  replace hkb := hkb.belowK hb1
  replace hkr := hkr.belowK hb1
  clear hb1
  obtain ⟨chka0, chka1, chka2⟩ := cells3 hka (Below.refl _ _)
  obtain ⟨chkb0, chkb1, chkb2⟩ := cells3 hkb (Below.refl _ _)
  obtain ⟨fhka0, fhka1, fhka2⟩ := free3 hka (Below.refl _ _)
  go_wp2_with fail
  refine (m2.out _).mono ?_
  rintro e w2 ⟨rfl, hb2⟩
  clear chka0 chka1 chka2 chkb0 chkb1 chkb2
  clear fhka0 fhka1 fhka2
  replace hB := below_then (below_put3 hB (by omega) _ _ _) hb2
  replace hka := (hka.put3 _ _ _).belowK hb2
  replace hkb := (hkb.far3 (by omega) _ _ _).belowK hb2
  replace hkr := (hkr.far3 (by omega) _ _ _).belowK hb2
  clear hb2
  obtain ⟨chkb0, chkb1, chkb2⟩ := cells3 hkb (Below.refl _ _)
  obtain ⟨fhkb0, fhkb1, fhkb2⟩ := free3 hkb (Below.refl _ _)
  go_upto_region 3 with fail
  clear chkb0 chkb1 chkb2
  clear fhkb0 fhkb1 fhkb2
  replace hB := below_put3 (k := w.heap.size + 1) hB (by omega) (.bool h1) (.string c1) (.string d1)
  replace hka := hka.far3 (j := w.heap.size + 1) (by omega) (.bool h1) (.string c1) (.string d1)
  replace hkb := hkb.put3 (.bool h1) (.string c1) (.string d1)
  replace hkr := hkr.far3 (j := w.heap.size + 1) (by omega) (.bool h1) (.string c1) (.string d1)
  generalize ((w2.setCell ⟨w.heap.size + 1, 0, none⟩ (.bool h1)).setCell ⟨w.heap.size + 1, 1, none⟩ (.string c1)).setCell ⟨w.heap.size + 1, 2, none⟩ (.string d1) = wc at hB hka hkb hkr ⊢
  obtain ⟨chka0, chka1, chka2⟩ := cells3 hka (Below.refl _ _)
  obtain ⟨chkb0, chkb1, chkb2⟩ := cells3 hkb (Below.refl _ _)
  go_wp2_with fail
  refine (m3.out _).mono ?_
  rintro e x0 ⟨rfl, hq0⟩
  clear chka0 chka1 chka2 chkb0 chkb1 chkb2
  replace hB := below_then hB hq0
  replace hka := hka.belowK hq0
  replace hkb := hkb.belowK hq0
  replace hkr := hkr.belowK hq0
  clear hq0
  obtain ⟨chka0, chka1, chka2⟩ := cells3 hka (Below.refl _ _)
  obtain ⟨chkb0, chkb1, chkb2⟩ := cells3 hkb (Below.refl _ _)
  go_wp2_with fail
  refine (m4.out _).mono ?_
  rintro e x1 ⟨rfl, hq1⟩
  clear chka0 chka1 chka2 chkb0 chkb1 chkb2
  replace hB := below_then hB hq1
  replace hka := hka.belowK hq1
  replace hkb := hkb.belowK hq1
  replace hkr := hkr.belowK hq1
  clear hq1
  obtain ⟨chka0, chka1, chka2⟩ := cells3 hka (Below.refl _ _)
  obtain ⟨chkb0, chkb1, chkb2⟩ := cells3 hkb (Below.refl _ _)
  go_wp2_with fail
  refine (m5.out _).mono ?_
  rintro e x2 ⟨rfl, hq2⟩
  clear chka0 chka1 chka2 chkb0 chkb1 chkb2
  replace hB := below_then hB hq2
  replace hka := hka.belowK hq2
  replace hkb := hkb.belowK hq2
  replace hkr := hkr.belowK hq2
  clear hq2
  obtain ⟨chka0, chka1, chka2⟩ := cells3 hka (Below.refl _ _)
  obtain ⟨chkb0, chkb1, chkb2⟩ := cells3 hkb (Below.refl _ _)
  by_cases hgh : g1 = h1
  · obtain ⟨s, q6, q7⟩ := HS.out hgh
    have m6 := Lib.hid q6
    have m7 := Lib.hid q7
    clear q6 q7 HS HD
    subst hgh
    go_upto_region 7 with fail
    clear chka0 chka1 chka2 chkb0 chkb1 chkb2
    go_region_held3 (fun W : World => (W.cell? ⟨w.heap.size, 0, none⟩ = some (.bool g1) ∧ W.cell? ⟨w.heap.size, 1, none⟩ = some (.string a1) ∧ W.cell? ⟨w.heap.size, 2, none⟩ = some (.string b1)))
      ((first | (refine cells3 hka ?_; ((repeat (first | exact Below.refl _ _ | apply Below.drew | refine below_then ?_ hz0 | refine below_then ?_ hz1)); done)) | (refine far3 hka ?_ (by omega); (repeat (first | exact Below.refl _ _ | apply Below.drew | refine below_then ?_ hz0 | refine below_then ?_ hz1)))))
      (first
        | (go_at_call 62; (with_reducible refine (m6.out _).mono ?_); rintro e v0 ⟨rfl, hz0⟩)
        | (go_at_call 46; (with_reducible refine (m7.out _).mono ?_); rintro e v1 ⟨rfl, hz1⟩; have hl : Below x2.heap.size x2 v1 := (by (repeat (first | exact Below.refl _ _ | apply Below.drew | refine below_then ?_ hz0 | refine below_then ?_ hz1))); obtain ⟨q0, q1, q2⟩ := cells3 hkr hl; obtain ⟨r0, r1, r2⟩ := free3 hkr hl))
    all_goals go_wp2_with fail
    all_goals
      refine bodyPost_ret (results_rat rfl rfl ((hkr.belowK hl).put3 _ _ _)) rfl ?_
      exact ⟨rfl, below_put3 (below_then hB hl) (by omega) _ _ _⟩
  · have hne : (g1 == h1) = false := by simpa using hgh
    rcases HD.out hgh with ⟨s, z, hz, q6, q7, q8⟩ | ⟨s, q6, q7, q8⟩
    · have m6 := Lib.hid q6
      have m7 := Lib.hid q7
      have m8 := Lib.hid q8
      clear q6 q7 q8 HS HD hgh
      go_wp2_with fail
      refine (m6.out _).mono ?_
      rintro e y0 ⟨rfl, hq0⟩
      clear chka0 chka1 chka2 chkb0 chkb1 chkb2
      replace hB := below_then hB hq0
      replace hka := hka.belowK hq0
      replace hkb := hkb.belowK hq0
      replace hkr := hkr.belowK hq0
      clear hq0
      obtain ⟨chka0, chka1, chka2⟩ := cells3 hka (Below.refl _ _)
      obtain ⟨chkb0, chkb1, chkb2⟩ := cells3 hkb (Below.refl _ _)
      go_wp2_with fail
      refine (m7.out _).mono ?_
      rintro e y1 ⟨rfl, hq1⟩
      clear chka0 chka1 chka2 chkb0 chkb1 chkb2
      replace hB := below_then hB hq1
      replace hka := hka.belowK hq1
      replace hkb := hkb.belowK hq1
      replace hkr := hkr.belowK hq1
      clear hq1
      obtain ⟨chka0, chka1, chka2⟩ := cells3 hka (Below.refl _ _)
      obtain ⟨chkb0, chkb1, chkb2⟩ := cells3 hkb (Below.refl _ _)
      go_wp2_with fail
      refine (m8.out _).mono ?_
      rintro e y2 ⟨rfl, hq2⟩
      clear chka0 chka1 chka2 chkb0 chkb1 chkb2
      replace hB := below_then hB hq2
      replace hkr := hkr.belowK hq2
      clear hq2
      obtain ⟨chkr0, chkr1, chkr2⟩ := cells3 hkr (Below.refl _ _)
      obtain ⟨fhkr0, fhkr1, fhkr2⟩ := free3 hkr (Below.refl _ _)
      go_wp2_with fail
      refine bodyPost_ret (results_rat rfl rfl (hkr.put3 _ _ _)) rfl ?_
      exact ⟨rfl, below_put3 hB (by omega) _ _ _⟩
    · have m6 := Lib.hid q6
      have m7 := Lib.hid q7
      have m8 := Lib.hid q8
      clear q6 q7 q8 HS HD hgh
      go_wp2_with fail
      refine (m6.out _).mono ?_
      rintro e y0 ⟨rfl, hq0⟩
      clear chka0 chka1 chka2 chkb0 chkb1 chkb2
      replace hB := below_then hB hq0
      replace hka := hka.belowK hq0
      replace hkb := hkb.belowK hq0
      replace hkr := hkr.belowK hq0
      clear hq0
      obtain ⟨chka0, chka1, chka2⟩ := cells3 hka (Below.refl _ _)
      obtain ⟨chkb0, chkb1, chkb2⟩ := cells3 hkb (Below.refl _ _)
      go_wp2_with fail
      refine (m7.out _).mono ?_
      rintro e y1 ⟨rfl, hq1⟩
      clear chka0 chka1 chka2 chkb0 chkb1 chkb2
      replace hB := below_then hB hq1
      replace hka := hka.belowK hq1
      replace hkb := hkb.belowK hq1
      replace hkr := hkr.belowK hq1
      clear hq1
      obtain ⟨chka0, chka1, chka2⟩ := cells3 hka (Below.refl _ _)
      obtain ⟨chkb0, chkb1, chkb2⟩ := cells3 hkb (Below.refl _ _)
      go_wp2_with fail
      refine (m8.out _).mono ?_
      rintro e y2 ⟨rfl, hq2⟩
      clear chka0 chka1 chka2 chkb0 chkb1 chkb2
      replace hB := below_then hB hq2
      replace hkr := hkr.belowK hq2
      clear hq2
      obtain ⟨chkr0, chkr1, chkr2⟩ := cells3 hkr (Below.refl _ _)
      obtain ⟨fhkr0, fhkr1, fhkr2⟩ := free3 hkr (Below.refl _ _)
      go_wp2_with fail
      refine bodyPost_ret (results_rat rfl rfl (hkr.put3 _ _ _)) rfl ?_
      exact ⟨rfl, below_put3 hB (by omega) _ _ _⟩

set_option maxRecDepth 100000 in
set_option maxHeartbeats 1000000 in
theorem rSub_q (g : Bool) (a b : ByteArray) (h : Bool) (c d : ByteArray) (ha : a.size ≤ 300) (hb : b.size ≤ 300) (hc : c.size ≤ 300) (hd : d.size ≤ 300) :
    Ret 35 #[ratW g a b, ratW h c d] (ratV (ratOf g a b - ratOf h c d)) := by
  intro w
  have hx : Sm 300 (ratOf g a b) := sm_of ha hb (by omega)
  have hy : Sm 300 (ratOf h c d) := sm_of hc hd (by omega)
  obtain ⟨n1, n2, n3, en, -, -, -, s2, s3, eo⟩ := words hy.neg
  obtain ⟨rg, ra, rb, er, -⟩ := words (hx.sub hy)
  have p1 := rNeg_q h c d (by omega) (by omega)
  have p2 := rAdd_q g a b n1 n2 n3 ha hb s2 s3
  rw [en] at p1
  rw [eo, ← Rat.sub_eq_add_neg, er] at p2
  rw [er]
  have m1 := Lib.hid p1
  have m2 := Lib.hid p2
  clear p1 p2 en eo er hx hy
  go_enter Tryz.func35, Tryz.ntmps35
  go_upto_region 1 with fail
  obtain ⟨W0, hW0, hka, hkb, hkr, hB⟩ := new_two w g a b h c d
  rw [hW0]
  clear hW0
  go_region_held3 (fun W : World => (W.cell? ⟨w.heap.size, 0, none⟩ = some (.bool g) ∧ W.cell? ⟨w.heap.size, 1, none⟩ = some (.string a) ∧ W.cell? ⟨w.heap.size, 2, none⟩ = some (.string b)) ∧ (W.cell? ⟨(w.heap.size + 1), 0, none⟩ = some (.bool h) ∧ W.cell? ⟨(w.heap.size + 1), 1, none⟩ = some (.string c) ∧ W.cell? ⟨(w.heap.size + 1), 2, none⟩ = some (.string d)))
    ((first | (refine ⟨cells3 hka ?_, cells3 hkb ?_⟩ <;> ((repeat (first | exact Below.refl _ _ | apply Below.drew | refine below_then ?_ hz0 | refine below_then ?_ hz1)); done)) | (refine ⟨far3 hka ?_ (by omega), far3 hkb ?_ (by omega)⟩ <;> (repeat (first | exact Below.refl _ _ | apply Below.drew | refine below_then ?_ hz0 | refine below_then ?_ hz1)))))
    (first
      | (go_at_call 41; (with_reducible refine (m1.out _).mono ?_); rintro e v0 ⟨rfl, hz0⟩)
      | (go_at_call 34; (with_reducible refine (m2.out _).mono ?_); rintro e v1 ⟨rfl, hz1⟩; have hl : Below W0.heap.size W0 v1 := (by (repeat (first | exact Below.refl _ _ | apply Below.drew | refine below_then ?_ hz0 | refine below_then ?_ hz1))); obtain ⟨q0, q1, q2⟩ := cells3 hkr hl; obtain ⟨r0, r1, r2⟩ := free3 hkr hl))
  all_goals go_wp2_with fail
  all_goals
    refine bodyPost_ret (results_rat rfl rfl ((hkr.belowK hl).put3 _ _ _)) rfl ?_
    exact ⟨rfl, below_put3 (below_then hB hl) (by omega) _ _ _⟩

set_option maxHeartbeats 400000 in
theorem rCmp_q (g : Bool) (a b : ByteArray) (h : Bool) (c d : ByteArray) (ha : a.size ≤ 300) (hb : b.size ≤ 300) (hc : c.size ≤ 300) (hd : d.size ≤ 300) :
    Ret 38 #[ratW g a b, ratW h c d] (.int .i64 (cmpQ (ratOf g a b) (ratOf h c d))) := by
  intro w
  have hx : Sm 300 (ratOf g a b) := sm_of ha hb (by omega)
  have hy : Sm 300 (ratOf h c d) := sm_of hc hd (by omega)
  obtain ⟨rg, ra, rb, er, -, -, -, s2, s3, eo⟩ := words (hx.sub hy)
  have p1 := rSub_q g a b h c d ha hb hc hd
  have p2 := rSign_q rg ra rb (by omega) (by omega)
  rw [er] at p1
  rw [eo] at p2
  have m1 := Lib.hid p1
  have m2 : Hid (Ret 40 #[ratW rg ra rb] (.int .i64 (cmpQ (ratOf g a b) (ratOf h c d)))) := Lib.hid p2
  clear p1 p2 eo er hx hy
  generalize cmpQ (ratOf g a b) (ratOf h c d) = z at *
  have hB := Below.refl w.heap.size w
  go_enter Tryz.func38, Tryz.ntmps38
  go_wp2_with fail
  refine (m1.out _).mono ?_
  rintro e w1 ⟨rfl, hb1⟩
  replace hB := below_then (below_al (below_al hB _) _) hb1
  go_wp2_with fail
  refine (m2.out _).mono ?_
  rintro e w2 ⟨rfl, hb2⟩
  replace hB := below_then hB hb2
  go_wp2_with fail
  go_ret
  exact ⟨rfl, hB⟩

end Go.Proofs.YtikdkhmeaoafmaaGreatDoor
