/- The exported functions of ratio: Mul, Quo, Cmp. -/
import Derived.Test.YtikdkhmeaoafmaaGreatDoorRatC
import Derived.Deep.RegionWith
namespace Go.Proofs.YtikdkhmeaoafmaaGreatDoor
open Go.RowKit

/-- What Quo returns. -/
def quoQ (x y : Rat) : Value := if y.num = 0 then .tuple #[rat0, .bool false] else .tuple #[ratV (x / y), .bool true]
/-- Two numbers as parameters. -/
theorem new_two' (w : World) (g : Bool) (a b : ByteArray) (h : Bool) (c d : ByteArray) : ∃ W0 : World, (w.alloc (.cells #[.bool g, .string a, .string b] 27)).alloc (.cells #[.bool h, .string c, .string d] 27) = W0 ∧
    R3 W0 w.heap.size g a b ∧ R3 W0 (w.heap.size + 1) h c d ∧ Below w.heap.size w W0 :=
  ⟨_, rfl, (Blk.new _ _ _).alloc _, Blk.new2 _ _ _ _, below_al (below_al (Below.refl _ _) _) _⟩

set_option maxRecDepth 100000 in
set_option maxHeartbeats 1000000 in
theorem Mul_q (g : Bool) (a b : ByteArray) (h : Bool) (c d : ByteArray) (ha : a.size ≤ 300) (hb : b.size ≤ 300) (hc : c.size ≤ 300) (hd : d.size ≤ 300) :
    Ret 29 #[ratW g a b, ratW h c d] (ratV (ratOf g a b * ratOf h c d)) := by
  intro w
  have hx : Sm 300 (ratOf g a b) := sm_of ha hb (by omega)
  have hy : Sm 300 (ratOf h c d) := sm_of hc hd (by omega)
  obtain ⟨g1, a1, b1, e1, eg, ea, eb, sa, sb, -⟩ := words hx
  obtain ⟨h1, c1, d1, e2, eh, ec, ed, sc, sd, -⟩ := words hy
  have p1 : Ret 47 #[ratW g a b] (ratW g1 a1 b1) := fun W => e1 ▸ value_any g a b W (by omega) (by omega)
  have p2 : Ret 47 #[ratW h c d] (ratW h1 c1 d1) := fun W => e2 ▸ value_any h c d W (by omega) (by omega)
  have q3 := ret_mul (a := a1) (b := c1) (by omega) (by omega) rfl
  have q4 := ret_mul (a := b1) (b := d1) (by omega) (by omega) rfl
  have q5 : Ret 57 #[.bool (!(g1 == h1)), .string (natS (sval a1 * sval c1)), .string (natS (sval b1 * sval d1))] (ratV (ratOf g a b * ratOf h c d)) :=
    ret_reduce (natS_sz (P8_prod (sval_le sa) (sval_le sc)) (by omega)) (natS_sz (P8_prod (sval_le sb) (sval_le sd)) (by omega)) (by rw [sval_natS, eb, ed]; exact den_prod _ _) (by
      rw [sval_natS, sval_natS, ea, eb, ec, ed, eg, eh]; exact mk_mul _ _)
  obtain ⟨rg, ra, rb, er, -⟩ := words (hx.mul hy)
  rw [er] at q5 ⊢
  have m1 := Lib.hid p1
  have m2 := Lib.hid p2
  have m3 := Lib.hid q3
  have m4 := Lib.hid q4
  have m5 := Lib.hid q5
  clear p1 p2 q3 q4 q5 er e1 e2 hx hy eg ea eb eh ec ed
  generalize natS (sval a1 * sval c1) = t1 at *
  generalize natS (sval b1 * sval d1) = t2 at *
  go_enter Tryz.func29, Tryz.ntmps29
  go_upto_region 1 with fail
  obtain ⟨W0, hW0, hka, hkb, hkr, hB⟩ := new_two w g a b h c d
  rw [hW0]
  clear hW0
  obtain ⟨chka0, chka1, chka2⟩ := cells3 hka (Below.refl _ _)
  obtain ⟨chkb0, chkb1, chkb2⟩ := cells3 hkb (Below.refl _ _)
  go_cut [] (fun wx => R3 wx w.heap.size g1 a1 b1 ∧ R3 wx (w.heap.size + 1) h1 c1 d1 ∧ R3 wx (w.heap.size + 1 + 1) false ⟨#[]⟩ ⟨#[]⟩ ∧ Below w.heap.size w wx)
  case first =>
    go_region_with (first
        | (go_at_call 47; (with_reducible refine (m1.out _).mono ?_); rintro e v0 ⟨rfl, hz0⟩; have hl0 : Below W0.heap.size W0 v0 := (by (repeat (first | exact Below.refl _ _ | apply Below.drew | refine below_then ?_ hz0 | refine below_then ?_ hz1))); obtain ⟨a00, a10, a20⟩ := cells3 hka hl0; obtain ⟨b00, b10, b20⟩ := cells3 hkb hl0; obtain ⟨fa00, fa10, fa20⟩ := free3 hka hl0; obtain ⟨fb00, fb10, fb20⟩ := free3 hkb hl0)
        | (go_at_call 47; (with_reducible refine (m2.out _).mono ?_); rintro e v1 ⟨rfl, hz1⟩; have hl1 : Below W0.heap.size W0 v1 := (by (repeat (first | exact Below.refl _ _ | apply Below.drew | refine below_then ?_ hz0 | refine below_then ?_ hz1))); obtain ⟨a01, a11, a21⟩ := cells3 hka hl1; obtain ⟨b01, b11, b21⟩ := cells3 hkb hl1; obtain ⟨fa01, fa11, fa21⟩ := free3 hka hl1; obtain ⟨fb01, fb11, fb21⟩ := free3 hkb hl1))
    all_goals go_wp2_with fail
    all_goals go_meet
    all_goals
      have hB1 := below_then hB hl1
      exact ⟨((hka.belowK hl1).put3 _ _ _).far3 (by omega) _ _ _, ((hkb.belowK hl1).far3 (by omega) _ _ _).put3 _ _ _, ((hkr.belowK hl1).far3 (by omega) _ _ _).far3 (by omega) _ _ _, below_put3 (below_put3 hB1 (by omega) _ _ _) (by omega) _ _ _⟩
  clear chka0 chka1 chka2 chkb0 chkb1 chkb2
  clear hka hkb hB hkr
  obtain ⟨hka, hkb, hkr, hB⟩ := hcut
  go_upto_region 2 with fail
  go_region_held3 (fun W : World => (W.cell? ⟨w.heap.size, 0, none⟩ = some (.bool g1) ∧ W.cell? ⟨w.heap.size, 1, none⟩ = some (.string a1) ∧ W.cell? ⟨w.heap.size, 2, none⟩ = some (.string b1)) ∧ (W.cell? ⟨(w.heap.size + 1), 0, none⟩ = some (.bool h1) ∧ W.cell? ⟨(w.heap.size + 1), 1, none⟩ = some (.string c1) ∧ W.cell? ⟨(w.heap.size + 1), 2, none⟩ = some (.string d1)))
    ((first | (refine ⟨cells3 hka ?_, cells3 hkb ?_⟩ <;> ((repeat (first | exact Below.refl _ _ | apply Below.drew | refine below_then ?_ hz0 | refine below_then ?_ hz1 | refine below_then ?_ hz2)); done)) | (refine ⟨far3 hka ?_ (by omega), far3 hkb ?_ (by omega)⟩ <;> (repeat (first | exact Below.refl _ _ | apply Below.drew | refine below_then ?_ hz0 | refine below_then ?_ hz1 | refine below_then ?_ hz2)))))
    (first
      | (go_at_call 68; (with_reducible refine (m3.out _).mono ?_); rintro e v0 ⟨rfl, hz0⟩)
      | (go_at_call 68; (with_reducible refine (m4.out _).mono ?_); rintro e v1 ⟨rfl, hz1⟩)
      | (go_at_call 57; (with_reducible refine (m5.out _).mono ?_); rintro e v2 ⟨rfl, hz2⟩; have hl : Below wc.heap.size wc v2 := (by (repeat (first | exact Below.refl _ _ | apply Below.drew | refine below_then ?_ hz0 | refine below_then ?_ hz1 | refine below_then ?_ hz2))); obtain ⟨q0, q1, q2⟩ := cells3 hkr hl; obtain ⟨r0, r1, r2⟩ := free3 hkr hl))
  all_goals go_wp2_with fail
  all_goals
    refine bodyPost_ret (results_rat rfl rfl ((hkr.belowK hl).put3 _ _ _)) rfl ?_
    exact ⟨rfl, below_put3 (below_then hB hl) (by omega) _ _ _⟩

set_option maxRecDepth 100000 in
set_option maxHeartbeats 1000000 in
theorem Quo_q (g : Bool) (a b : ByteArray) (h : Bool) (c d : ByteArray) (ha : a.size ≤ 300) (hb : b.size ≤ 300) (hc : c.size ≤ 300) (hd : d.size ≤ 300) :
    Ret 31 #[ratW g a b, ratW h c d] (quoQ (ratOf g a b) (ratOf h c d)) := by
  intro w
  have hx : Sm 300 (ratOf g a b) := sm_of ha hb (by omega)
  have hy : Sm 300 (ratOf h c d) := sm_of hc hd (by omega)
  obtain ⟨g1, a1, b1, e1, eg, ea, eb, sa, sb, -⟩ := words hx
  obtain ⟨h1, c1, d1, e2, eh, ec, ed, sc, sd, en, -⟩ := words_right hy
  have p1 : Ret 47 #[ratW g a b] (ratW g1 a1 b1) := fun W => e1 ▸ value_any g a b W (by omega) (by omega)
  have p2 : Ret 47 #[ratW h c d] (ratW h1 c1 d1) := fun W => e2 ▸ value_any h c d W (by omega) (by omega)
  have m1 := Lib.hid p1
  have m2 := Lib.hid p2
  by_cases h0 : (ratOf h c d).num = 0
  · have HQ : Hid (quoQ (ratOf g a b) (ratOf h c d) = .tuple #[rat0, .bool false]) := Lib.hid (if_pos h0)
    rw [decide_eq_true h0] at en
    rw [HQ.out]
    clear p1 p2 e1 e2 hx hy eg ea eb eh ec ed h0
    go_enter Tryz.func31, Tryz.ntmps31
    go_upto_region 1 with fail
    obtain ⟨W0, hW0, hka, hkb, hkr, hB⟩ := new_two w g a b h c d
    rw [hW0]
    clear hW0
    obtain ⟨chka0, chka1, chka2⟩ := cells3 hka (Below.refl _ _)
    obtain ⟨chkb0, chkb1, chkb2⟩ := cells3 hkb (Below.refl _ _)
    go_cut [] (fun wx => R3 wx w.heap.size g1 a1 b1 ∧ R3 wx (w.heap.size + 1) h1 c1 d1 ∧ R3 wx (w.heap.size + 1 + 1) false ⟨#[]⟩ ⟨#[]⟩ ∧ Below w.heap.size w wx)
    case first =>
      go_region_with (first
          | (go_at_call 47; (with_reducible refine (m1.out _).mono ?_); rintro e v0 ⟨rfl, hz0⟩; have hl0 : Below W0.heap.size W0 v0 := (by (repeat (first | exact Below.refl _ _ | apply Below.drew | refine below_then ?_ hz0 | refine below_then ?_ hz1))); obtain ⟨a00, a10, a20⟩ := cells3 hka hl0; obtain ⟨b00, b10, b20⟩ := cells3 hkb hl0; obtain ⟨fa00, fa10, fa20⟩ := free3 hka hl0; obtain ⟨fb00, fb10, fb20⟩ := free3 hkb hl0)
          | (go_at_call 47; (with_reducible refine (m2.out _).mono ?_); rintro e v1 ⟨rfl, hz1⟩; have hl1 : Below W0.heap.size W0 v1 := (by (repeat (first | exact Below.refl _ _ | apply Below.drew | refine below_then ?_ hz0 | refine below_then ?_ hz1))); obtain ⟨a01, a11, a21⟩ := cells3 hka hl1; obtain ⟨b01, b11, b21⟩ := cells3 hkb hl1; obtain ⟨fa01, fa11, fa21⟩ := free3 hka hl1; obtain ⟨fb01, fb11, fb21⟩ := free3 hkb hl1))
      all_goals go_wp2_with fail
      all_goals go_meet
      all_goals
        have hB1 := below_then hB hl1
        exact ⟨((hka.belowK hl1).put3 _ _ _).far3 (by omega) _ _ _, ((hkb.belowK hl1).far3 (by omega) _ _ _).put3 _ _ _, ((hkr.belowK hl1).far3 (by omega) _ _ _).far3 (by omega) _ _ _, below_put3 (below_put3 hB1 (by omega) _ _ _) (by omega) _ _ _⟩
    clear chka0 chka1 chka2 chkb0 chkb1 chkb2
    clear hka hkb hB hkr
    obtain ⟨hka, hkb, hkr, hB⟩ := hcut
    obtain ⟨chkb0, chkb1, chkb2⟩ := cells3 hkb (Below.refl _ _)
    obtain ⟨chkr0, chkr1, chkr2⟩ := cells3 hkr (Below.refl _ _)
    obtain ⟨fhkr0, fhkr1, fhkr2⟩ := free3 hkr (Below.refl _ _)
    go_wp2_with fail
    refine bodyPost_ret (results_rat2 rfl rfl (hkr.put3 _ _ _) rfl) rfl ?_
    exact ⟨rfl, below_put3 hB (by omega) _ _ _⟩
  · have HQ : Hid (quoQ (ratOf g a b) (ratOf h c d) = .tuple #[ratV (ratOf g a b / ratOf h c d), .bool true]) := Lib.hid (if_neg h0)
    rw [decide_eq_false h0] at en
    rw [HQ.out]
    have q3 := ret_mul (a := a1) (b := d1) (by omega) (by omega) rfl
    have q4 := ret_mul (a := b1) (b := c1) (by omega) (by omega) rfl
    have q5 : Ret 57 #[.bool (!(g1 == h1)), .string (natS (sval a1 * sval d1)), .string (natS (sval b1 * sval c1))] (ratV (ratOf g a b / ratOf h c d)) :=
      ret_reduce (natS_sz (P8_prod (sval_le sa) (sval_le sd)) (by omega)) (natS_sz (P8_prod (sval_le sb) (sval_le sc)) (by omega)) (by rw [sval_natS, eb, ec]; exact Nat.mul_ne_zero (Rat.den_nz _) (by omega)) (by
        rw [sval_natS, sval_natS, ea, eb, ec, ed, eg, eh]; exact mk_quo h0)
    obtain ⟨rg, ra, rb, er, -⟩ := words (hx.quo hy h0)
    rw [er] at q5 ⊢
    have m3 := Lib.hid q3
    have m4 := Lib.hid q4
    have m5 := Lib.hid q5
    clear p1 p2 q3 q4 q5 er e1 e2 hx hy eg ea eb eh ec ed h0 HQ
    generalize natS (sval a1 * sval d1) = t1 at *
    generalize natS (sval b1 * sval c1) = t2 at *
    go_enter Tryz.func31, Tryz.ntmps31
    go_upto_region 1 with fail
    obtain ⟨W0, hW0, hka, hkb, hkr, hB⟩ := new_two w g a b h c d
    rw [hW0]
    clear hW0
    obtain ⟨chka0, chka1, chka2⟩ := cells3 hka (Below.refl _ _)
    obtain ⟨chkb0, chkb1, chkb2⟩ := cells3 hkb (Below.refl _ _)
    go_cut [] (fun wx => R3 wx w.heap.size g1 a1 b1 ∧ R3 wx (w.heap.size + 1) h1 c1 d1 ∧ R3 wx (w.heap.size + 1 + 1) false ⟨#[]⟩ ⟨#[]⟩ ∧ Below w.heap.size w wx)
    case first =>
      go_region_with (first
          | (go_at_call 47; (with_reducible refine (m1.out _).mono ?_); rintro e v0 ⟨rfl, hz0⟩; have hl0 : Below W0.heap.size W0 v0 := (by (repeat (first | exact Below.refl _ _ | apply Below.drew | refine below_then ?_ hz0 | refine below_then ?_ hz1))); obtain ⟨a00, a10, a20⟩ := cells3 hka hl0; obtain ⟨b00, b10, b20⟩ := cells3 hkb hl0; obtain ⟨fa00, fa10, fa20⟩ := free3 hka hl0; obtain ⟨fb00, fb10, fb20⟩ := free3 hkb hl0)
          | (go_at_call 47; (with_reducible refine (m2.out _).mono ?_); rintro e v1 ⟨rfl, hz1⟩; have hl1 : Below W0.heap.size W0 v1 := (by (repeat (first | exact Below.refl _ _ | apply Below.drew | refine below_then ?_ hz0 | refine below_then ?_ hz1))); obtain ⟨a01, a11, a21⟩ := cells3 hka hl1; obtain ⟨b01, b11, b21⟩ := cells3 hkb hl1; obtain ⟨fa01, fa11, fa21⟩ := free3 hka hl1; obtain ⟨fb01, fb11, fb21⟩ := free3 hkb hl1))
      all_goals go_wp2_with fail
      all_goals go_meet
      all_goals
        have hB1 := below_then hB hl1
        exact ⟨((hka.belowK hl1).put3 _ _ _).far3 (by omega) _ _ _, ((hkb.belowK hl1).far3 (by omega) _ _ _).put3 _ _ _, ((hkr.belowK hl1).far3 (by omega) _ _ _).far3 (by omega) _ _ _, below_put3 (below_put3 hB1 (by omega) _ _ _) (by omega) _ _ _⟩
    clear chka0 chka1 chka2 chkb0 chkb1 chkb2
    clear hka hkb hB hkr
    obtain ⟨hka, hkb, hkr, hB⟩ := hcut
    obtain ⟨chkb0, chkb1, chkb2⟩ := cells3 hkb (Below.refl _ _)
    go_upto_region 4 with fail
    clear chkb0 chkb1 chkb2
    go_region_held3 (fun W : World => (W.cell? ⟨w.heap.size, 0, none⟩ = some (.bool g1) ∧ W.cell? ⟨w.heap.size, 1, none⟩ = some (.string a1) ∧ W.cell? ⟨w.heap.size, 2, none⟩ = some (.string b1)) ∧ (W.cell? ⟨(w.heap.size + 1), 0, none⟩ = some (.bool h1) ∧ W.cell? ⟨(w.heap.size + 1), 1, none⟩ = some (.string c1) ∧ W.cell? ⟨(w.heap.size + 1), 2, none⟩ = some (.string d1)))
      ((first | (refine ⟨cells3 hka ?_, cells3 hkb ?_⟩ <;> ((repeat (first | exact Below.refl _ _ | apply Below.drew | refine below_then ?_ hz0 | refine below_then ?_ hz1 | refine below_then ?_ hz2)); done)) | (refine ⟨far3 hka ?_ (by omega), far3 hkb ?_ (by omega)⟩ <;> (repeat (first | exact Below.refl _ _ | apply Below.drew | refine below_then ?_ hz0 | refine below_then ?_ hz1 | refine below_then ?_ hz2)))))
      (first
        | (go_at_call 68; (with_reducible refine (m3.out _).mono ?_); rintro e v0 ⟨rfl, hz0⟩)
        | (go_at_call 68; (with_reducible refine (m4.out _).mono ?_); rintro e v1 ⟨rfl, hz1⟩)
        | (go_at_call 57; (with_reducible refine (m5.out _).mono ?_); rintro e v2 ⟨rfl, hz2⟩; have hl : Below wc.heap.size wc v2 := (by (repeat (first | exact Below.refl _ _ | apply Below.drew | refine below_then ?_ hz0 | refine below_then ?_ hz1 | refine below_then ?_ hz2))); obtain ⟨q0, q1, q2⟩ := cells3 hkr hl; obtain ⟨r0, r1, r2⟩ := free3 hkr hl))
    all_goals go_wp2_with fail
    all_goals
      refine bodyPost_ret (results_rat2 rfl rfl ((hkr.belowK hl).put3 _ _ _) rfl) rfl ?_
      exact ⟨rfl, below_put3 (below_then hB hl) (by omega) _ _ _⟩

end Go.Proofs.YtikdkhmeaoafmaaGreatDoor
