/- ratio.add: the sum of two right numbers. -/
import Derived.Test.YtikdkhmeaoafmaaGreatDoorRatA
import Derived.Deep.RegionHeld3
import Derived.BigRegion
namespace Go.Proofs.YtikdkhmeaoafmaaGreatDoor
open Go.RowKit

/-- The words of a number, named. -/
theorem words {x : Rat} {k : Nat} (h : Sm k x) : ∃ (g : Bool) (a b : ByteArray), ratV x = ratW g a b ∧ g = negB x ∧ sval a = x.num.natAbs ∧ sval b = x.den ∧ a.size ≤ k ∧ b.size ≤ k ∧ ratOf g a b = x :=
  ⟨negB x, natS x.num.natAbs, natS x.den, rfl, rfl, sval_natS _, sval_natS _, natS_size h.num, natS_size h.den, (ratOf_words x).2⟩

theorem far3 {w w' : World} {k j : Nat} {t : TypeId} {u v x u' v' x' : Value} (h : Blk w k t #[u, v, x]) (hb : Below w.heap.size w w') (hne : k ≠ j) :
    (((w'.setCell ⟨j, 0, none⟩ u').setCell ⟨j, 1, none⟩ v').setCell ⟨j, 2, none⟩ x').cell? ⟨k, 0, none⟩ = some u ∧ (((w'.setCell ⟨j, 0, none⟩ u').setCell ⟨j, 1, none⟩ v').setCell ⟨j, 2, none⟩ x').cell? ⟨k, 1, none⟩ = some v ∧ (((w'.setCell ⟨j, 0, none⟩ u').setCell ⟨j, 1, none⟩ v').setCell ⟨j, 2, none⟩ x').cell? ⟨k, 2, none⟩ = some x :=
  cells3 ((h.belowK hb).far3 hne u' v' x') (Below.refl _ _)

/-- Two numbers as parameters, and a place for the result. -/
theorem new_two (w : World) (g : Bool) (a b : ByteArray) (h : Bool) (c d : ByteArray) : ∃ W0 : World, ((w.alloc (.cells #[.bool g, .string a, .string b] 27)).alloc (.cells #[.bool h, .string c, .string d] 27)).alloc (.cells #[.bool false, .string ⟨#[]⟩, .string ⟨#[]⟩] 27) = W0 ∧
    R3 W0 w.heap.size g a b ∧ R3 W0 (w.heap.size + 1) h c d ∧ R3 W0 (w.heap.size + 1 + 1) false ⟨#[]⟩ ⟨#[]⟩ ∧ Below w.heap.size w W0 :=
  ⟨_, rfl, ((Blk.new _ _ _).alloc _).alloc _, (Blk.new2 _ _ _ _).alloc _, Blk.new3 _ _ _ _ _, below_al (below_al (below_al (Below.refl _ _) _) _) _⟩

theorem ret_reduce {g : Bool} {a b : ByteArray} {x : Rat} (ha : a.size ≤ 1000) (hb : b.size ≤ 1000) (h0 : sval b ≠ 0) (h : mkRat (signed g (sval a)) (sval b) = x) : Ret 57 #[.bool g, .string a, .string b] (ratV x) := fun W => h ▸ reduce_any g a b W ha hb h0

set_option maxRecDepth 100000 in
set_option maxHeartbeats 1000000 in
theorem add_q (x y : Rat) (w : World) (hx : Sm 400 x) (hy : Sm 400 y) :
    Calls Tryz.prog 71 #[ratV x, ratV y] w fun e w' => e = .returned (ratV (x + y)) ∧ Below w.heap.size w w' := by
  obtain ⟨g, a, b, ex, eg, ea, eb, sa, sb, _⟩ := words hx
  obtain ⟨h, c, d, ey, eh, ec, ed, sc, sd, _⟩ := words hy
  rw [ex, ey]
  have s1 := P8_prod (sval_le sa) (sval_le sd)
  have s2 := P8_prod (sval_le sc) (sval_le sb)
  have s3 := P8_prod (sval_le sb) (sval_le sd)
  have m1 := Lib.hid (ret_mul (a := a) (b := d) (by omega) (by omega) rfl)
  have m2 := Lib.hid (ret_mul (a := c) (b := b) (by omega) (by omega) rfl)
  have m3 := Lib.hid (ret_mul (a := b) (b := d) (by omega) (by omega) rfl)
  have z1 := natS_sz s1 (by omega)
  have z2 := natS_sz s2 (by omega)
  have z3 := natS_sz s3 (by omega)
  have n3 : sval (natS (sval b * sval d)) ≠ 0 := by rw [sval_natS, eb, ed]; exact den_prod x y
  by_cases hgh : g = h
  · obtain ⟨s, q1, q2⟩ : ∃ s : ByteArray, Ret 60 #[.string (natS (sval a * sval d)), .string (natS (sval c * sval b))] (.string s) ∧ Ret 57 #[.bool g, .string s, .string (natS (sval b * sval d))] (ratV (x + y)) :=
      ⟨_, ret_add z1 z2 rfl, ret_reduce (natS_sz (P8_sum (by rw [sval_natS]; exact s1) (by rw [sval_natS]; exact s2)) (by omega)) z3 n3 (by
        rw [sval_natS, sval_natS, sval_natS, sval_natS, ea, eb, ec, ed, eg]
        exact mk_add_same (by rw [← eg, ← eh, hgh]))⟩
    obtain ⟨rg, ra, rb, er, -⟩ := words (hx.add hy)
    rw [er] at q2 ⊢
    have m4 := Lib.hid q1
    have m5 := Lib.hid q2
    clear q1 q2 er s1 s2 s3 z1 z2 z3 n3 ea eb ec ed eg eh ex ey hx hy
    subst hgh
    generalize natS (sval a * sval d) = t1 at *
    generalize natS (sval c * sval b) = t2 at *
    generalize natS (sval b * sval d) = t3 at *
    go_enter Tryz.func71, Tryz.ntmps71
    go_upto_region 1 with fail
    obtain ⟨W0, hW0, hka, hkb, hkr, hB⟩ := new_two w g a b g c d
    rw [hW0]
    clear hW0
    go_cut [5, 6] (fun s5 s6 wx => s5 = .string t1 ∧ s6 = .string t2 ∧ Below W0.heap.size W0 wx)
    case first =>
      go_region_held3 (fun W : World => (W.cell? ⟨w.heap.size, 0, none⟩ = some (.bool g) ∧ W.cell? ⟨w.heap.size, 1, none⟩ = some (.string a) ∧ W.cell? ⟨w.heap.size, 2, none⟩ = some (.string b)) ∧ (W.cell? ⟨(w.heap.size + 1), 0, none⟩ = some (.bool g) ∧ W.cell? ⟨(w.heap.size + 1), 1, none⟩ = some (.string c) ∧ W.cell? ⟨(w.heap.size + 1), 2, none⟩ = some (.string d)))
        ((refine ⟨cells3 hka ?_, cells3 hkb ?_⟩ <;> (repeat (first | exact Below.refl _ _ | apply Below.drew | refine below_then ?_ hz0 | refine below_then ?_ hz1))))
        (first
          | (go_at_call 68; (with_reducible refine (m1.out _).mono ?_); rintro e v0 ⟨rfl, hz0⟩)
          | (go_at_call 68; (with_reducible refine (m2.out _).mono ?_); rintro e v1 ⟨rfl, hz1⟩))
      all_goals go_wp2_with fail
      all_goals go_meet
      all_goals
        refine ⟨rfl, rfl, ?_⟩
        (repeat (first | exact Below.refl _ _ | apply Below.drew | refine below_then ?_ hz0 | refine below_then ?_ hz1))
    obtain ⟨rfl, rfl, hb1⟩ := hcut
    replace hB := below_then hB hb1
    replace hka := hka.belowK hb1
    replace hkb := hkb.belowK hb1
    replace hkr := hkr.belowK hb1
    clear hb1
    obtain ⟨chka0, chka1, chka2⟩ := cells3 hka (Below.refl _ _)
    obtain ⟨chkb0, chkb1, chkb2⟩ := cells3 hkb (Below.refl _ _)
    go_wp2_with fail
    refine (m3.out _).mono ?_
    rintro e w2 ⟨rfl, hb2⟩
    clear chka0 chka1 chka2 chkb0 chkb1 chkb2
    replace hB := below_then hB hb2
    replace hka := hka.belowK hb2
    replace hkb := hkb.belowK hb2
    replace hkr := hkr.belowK hb2
    clear hb2
    obtain ⟨chka0, chka1, chka2⟩ := cells3 hka (Below.refl _ _)
    obtain ⟨chkb0, chkb1, chkb2⟩ := cells3 hkb (Below.refl _ _)
    go_upto_region 4 with fail
    go_region_held3 (fun W : World => (W.cell? ⟨w.heap.size, 0, none⟩ = some (.bool g) ∧ W.cell? ⟨w.heap.size, 1, none⟩ = some (.string a) ∧ W.cell? ⟨w.heap.size, 2, none⟩ = some (.string b)))
      ((first | (refine cells3 hka ?_; ((repeat (first | exact Below.refl _ _ | apply Below.drew | refine below_then ?_ hz0 | refine below_then ?_ hz1)); done)) | (refine far3 hka ?_ (by omega); (repeat (first | exact Below.refl _ _ | apply Below.drew | refine below_then ?_ hz0 | refine below_then ?_ hz1)))))
      (first
        | (go_at_call 60; (with_reducible refine (m4.out _).mono ?_); rintro e v0 ⟨rfl, hz0⟩)
        | (go_at_call 57; (with_reducible refine (m5.out _).mono ?_); rintro e v1 ⟨rfl, hz1⟩; have hl : Below w2.heap.size w2 v1 := (by (repeat (first | exact Below.refl _ _ | apply Below.drew | refine below_then ?_ hz0 | refine below_then ?_ hz1))); obtain ⟨q0, q1, q2⟩ := cells3 hkr hl; obtain ⟨r0, r1, r2⟩ := free3 hkr hl))
    all_goals go_wp2_with fail
    all_goals
      refine bodyPost_ret (results_rat rfl rfl ((hkr.belowK hl).put3 _ _ _)) rfl ?_
      exact ⟨rfl, below_put3 (below_then hB hl) (by omega) _ _ _⟩
  · have hne : (g == h) = false := by simpa using hgh
    rcases Nat.lt_or_ge (sval a * sval d) (sval c * sval b) with hlt | hge
    · obtain ⟨s, q1, q2⟩ : ∃ s : ByteArray, Ret 100 #[.string (natS (sval c * sval b)), .string (natS (sval a * sval d))] (.tuple #[.string s, .bool true]) ∧ Ret 57 #[.bool h, .string s, .string (natS (sval b * sval d))] (ratV (x + y)) :=
        ⟨_, ret_sub z2 z1 (sval_natS _) (sval_natS _) (by omega), ret_reduce (natS_sz (Nat.lt_of_le_of_lt (Nat.sub_le _ _) s2) (by omega)) z3 n3 (by
          rw [sval_natS, sval_natS, ea, eb, ec, ed, eh]
          exact mk_add_right (by rw [← eg, ← eh]; exact hgh) (by rw [← ea, ← eb, ← ec, ← ed]; omega))⟩
      have q3 : Ret 100 #[.string (natS (sval a * sval d)), .string (natS (sval c * sval b))] (.tuple #[.string ⟨#[]⟩, .bool false]) := fun W => by
        have := Sub_any (natS (sval a * sval d)) (natS (sval c * sval b)) W (by omega) (by omega)
        unfold subRes at this
        rw [sval_natS, sval_natS, if_neg (by omega)] at this
        exact this
      obtain ⟨rg, ra, rb, er, -⟩ := words (hx.add hy)
      rw [er] at q2 ⊢
      have m4 := Lib.hid q1
      have m5 := Lib.hid q2
      have m6 := Lib.hid q3
      clear hgh hlt q3 q1 q2 er s1 s2 s3 z1 z2 z3 n3 ea eb ec ed eg eh ex ey hx hy
      generalize natS (sval a * sval d) = t1 at *
      generalize natS (sval c * sval b) = t2 at *
      generalize natS (sval b * sval d) = t3 at *
      go_enter Tryz.func71, Tryz.ntmps71
      go_upto_region 1 with fail
      obtain ⟨W0, hW0, hka, hkb, hkr, hB⟩ := new_two w g a b h c d
      rw [hW0]
      clear hW0
      go_cut [5, 6] (fun s5 s6 wx => s5 = .string t1 ∧ s6 = .string t2 ∧ Below W0.heap.size W0 wx)
      case first =>
        go_region_held3 (fun W : World => (W.cell? ⟨w.heap.size, 0, none⟩ = some (.bool g) ∧ W.cell? ⟨w.heap.size, 1, none⟩ = some (.string a) ∧ W.cell? ⟨w.heap.size, 2, none⟩ = some (.string b)) ∧ (W.cell? ⟨(w.heap.size + 1), 0, none⟩ = some (.bool h) ∧ W.cell? ⟨(w.heap.size + 1), 1, none⟩ = some (.string c) ∧ W.cell? ⟨(w.heap.size + 1), 2, none⟩ = some (.string d)))
          ((refine ⟨cells3 hka ?_, cells3 hkb ?_⟩ <;> (repeat (first | exact Below.refl _ _ | apply Below.drew | refine below_then ?_ hz0 | refine below_then ?_ hz1))))
          (first
            | (go_at_call 68; (with_reducible refine (m1.out _).mono ?_); rintro e v0 ⟨rfl, hz0⟩)
            | (go_at_call 68; (with_reducible refine (m2.out _).mono ?_); rintro e v1 ⟨rfl, hz1⟩))
        all_goals go_wp2_with fail
        all_goals go_meet
        all_goals
          refine ⟨rfl, rfl, ?_⟩
          (repeat (first | exact Below.refl _ _ | apply Below.drew | refine below_then ?_ hz0 | refine below_then ?_ hz1))
      obtain ⟨rfl, rfl, hb1⟩ := hcut
      replace hB := below_then hB hb1
      replace hka := hka.belowK hb1
      replace hkb := hkb.belowK hb1
      replace hkr := hkr.belowK hb1
      clear hb1
      obtain ⟨chka0, chka1, chka2⟩ := cells3 hka (Below.refl _ _)
      obtain ⟨chkb0, chkb1, chkb2⟩ := cells3 hkb (Below.refl _ _)
      go_wp2_with fail
      refine (m3.out _).mono ?_
      rintro e w2 ⟨rfl, hb2⟩
      clear chka0 chka1 chka2 chkb0 chkb1 chkb2
      replace hB := below_then hB hb2
      replace hka := hka.belowK hb2
      replace hkb := hkb.belowK hb2
      replace hkr := hkr.belowK hb2
      clear hb2
      obtain ⟨chka0, chka1, chka2⟩ := cells3 hka (Below.refl _ _)
      obtain ⟨chkb0, chkb1, chkb2⟩ := cells3 hkb (Below.refl _ _)
      go_wp2_with fail
      refine (m6.out _).mono ?_
      rintro e w3 ⟨rfl, hb3⟩
      clear chka0 chka1 chka2 chkb0 chkb1 chkb2
      replace hB := below_then hB hb3
      replace hka := hka.belowK hb3
      replace hkb := hkb.belowK hb3
      replace hkr := hkr.belowK hb3
      clear hb3
      go_wp2_with fail
      refine (m4.out _).mono ?_
      rintro e w4 ⟨rfl, hb4⟩
      replace hB := below_then hB hb4
      replace hka := hka.belowK hb4
      replace hkb := hkb.belowK hb4
      replace hkr := hkr.belowK hb4
      clear hb4
      obtain ⟨chka0, chka1, chka2⟩ := cells3 hka (Below.refl _ _)
      obtain ⟨chkb0, chkb1, chkb2⟩ := cells3 hkb (Below.refl _ _)
      go_wp2_with fail
      refine (m5.out _).mono ?_
      rintro e w5 ⟨rfl, hb5⟩
      clear chka0 chka1 chka2 chkb0 chkb1 chkb2
      replace hB := below_then hB hb5
      replace hkr := hkr.belowK hb5
      clear hb5
      obtain ⟨chkr0, chkr1, chkr2⟩ := cells3 hkr (Below.refl _ _)
      obtain ⟨fhkr0, fhkr1, fhkr2⟩ := free3 hkr (Below.refl _ _)
      go_wp2_with fail
      refine bodyPost_ret (results_rat rfl rfl (hkr.put3 _ _ _)) rfl ?_
      exact ⟨rfl, below_put3 hB (by omega) _ _ _⟩
    · obtain ⟨s, q1, q2⟩ : ∃ s : ByteArray, Ret 100 #[.string (natS (sval a * sval d)), .string (natS (sval c * sval b))] (.tuple #[.string s, .bool true]) ∧ Ret 57 #[.bool g, .string s, .string (natS (sval b * sval d))] (ratV (x + y)) :=
        ⟨_, ret_sub z1 z2 (sval_natS _) (sval_natS _) hge, ret_reduce (natS_sz (Nat.lt_of_le_of_lt (Nat.sub_le _ _) s1) (by omega)) z3 n3 (by
          rw [sval_natS, sval_natS, ea, eb, ec, ed, eg]
          exact mk_add_left (by rw [← eg, ← eh]; exact hgh) (by rw [← ea, ← eb, ← ec, ← ed]; exact hge))⟩
      obtain ⟨rg, ra, rb, er, -⟩ := words (hx.add hy)
      rw [er] at q2 ⊢
      have m4 := Lib.hid q1
      have m5 := Lib.hid q2
      clear hgh hge q1 q2 er s1 s2 s3 z1 z2 z3 n3 ea eb ec ed eg eh ex ey hx hy
      generalize natS (sval a * sval d) = t1 at *
      generalize natS (sval c * sval b) = t2 at *
      generalize natS (sval b * sval d) = t3 at *
      go_enter Tryz.func71, Tryz.ntmps71
      go_upto_region 1 with fail
      obtain ⟨W0, hW0, hka, hkb, hkr, hB⟩ := new_two w g a b h c d
      rw [hW0]
      clear hW0
      go_cut [5, 6] (fun s5 s6 wx => s5 = .string t1 ∧ s6 = .string t2 ∧ Below W0.heap.size W0 wx)
      case first =>
        go_region_held3 (fun W : World => (W.cell? ⟨w.heap.size, 0, none⟩ = some (.bool g) ∧ W.cell? ⟨w.heap.size, 1, none⟩ = some (.string a) ∧ W.cell? ⟨w.heap.size, 2, none⟩ = some (.string b)) ∧ (W.cell? ⟨(w.heap.size + 1), 0, none⟩ = some (.bool h) ∧ W.cell? ⟨(w.heap.size + 1), 1, none⟩ = some (.string c) ∧ W.cell? ⟨(w.heap.size + 1), 2, none⟩ = some (.string d)))
          ((refine ⟨cells3 hka ?_, cells3 hkb ?_⟩ <;> (repeat (first | exact Below.refl _ _ | apply Below.drew | refine below_then ?_ hz0 | refine below_then ?_ hz1))))
          (first
            | (go_at_call 68; (with_reducible refine (m1.out _).mono ?_); rintro e v0 ⟨rfl, hz0⟩)
            | (go_at_call 68; (with_reducible refine (m2.out _).mono ?_); rintro e v1 ⟨rfl, hz1⟩))
        all_goals go_wp2_with fail
        all_goals go_meet
        all_goals
          refine ⟨rfl, rfl, ?_⟩
          (repeat (first | exact Below.refl _ _ | apply Below.drew | refine below_then ?_ hz0 | refine below_then ?_ hz1))
      obtain ⟨rfl, rfl, hb1⟩ := hcut
      replace hB := below_then hB hb1
      replace hka := hka.belowK hb1
      replace hkb := hkb.belowK hb1
      replace hkr := hkr.belowK hb1
      clear hb1
      obtain ⟨chka0, chka1, chka2⟩ := cells3 hka (Below.refl _ _)
      obtain ⟨chkb0, chkb1, chkb2⟩ := cells3 hkb (Below.refl _ _)
      go_wp2_with fail
      refine (m3.out _).mono ?_
      rintro e w2 ⟨rfl, hb2⟩
      clear chka0 chka1 chka2 chkb0 chkb1 chkb2
      replace hB := below_then hB hb2
      replace hka := hka.belowK hb2
      replace hkb := hkb.belowK hb2
      replace hkr := hkr.belowK hb2
      clear hb2
      obtain ⟨chka0, chka1, chka2⟩ := cells3 hka (Below.refl _ _)
      obtain ⟨chkb0, chkb1, chkb2⟩ := cells3 hkb (Below.refl _ _)
      go_wp2_with fail
      refine (m4.out _).mono ?_
      rintro e w4 ⟨rfl, hb4⟩
      clear chka0 chka1 chka2 chkb0 chkb1 chkb2
      replace hB := below_then hB hb4
      replace hka := hka.belowK hb4
      replace hkb := hkb.belowK hb4
      replace hkr := hkr.belowK hb4
      clear hb4
      obtain ⟨chka0, chka1, chka2⟩ := cells3 hka (Below.refl _ _)
      obtain ⟨chkb0, chkb1, chkb2⟩ := cells3 hkb (Below.refl _ _)
      go_wp2_with fail
      refine (m5.out _).mono ?_
      rintro e w5 ⟨rfl, hb5⟩
      clear chka0 chka1 chka2 chkb0 chkb1 chkb2
      replace hB := below_then hB hb5
      replace hkr := hkr.belowK hb5
      clear hb5
      obtain ⟨chkr0, chkr1, chkr2⟩ := cells3 hkr (Below.refl _ _)
      obtain ⟨fhkr0, fhkr1, fhkr2⟩ := free3 hkr (Below.refl _ _)
      go_wp2_with fail
      refine bodyPost_ret (results_rat rfl rfl (hkr.put3 _ _ _)) rfl ?_
      exact ⟨rfl, below_put3 hB (by omega) _ _ _⟩

end Go.Proofs.YtikdkhmeaoafmaaGreatDoor
