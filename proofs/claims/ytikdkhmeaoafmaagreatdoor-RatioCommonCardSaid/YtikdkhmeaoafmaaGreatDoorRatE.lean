/- The exported functions of ratio: Cmp, Of, Make. -/
import Derived.Test.YtikdkhmeaoafmaaGreatDoorRatD
namespace Go.Proofs.YtikdkhmeaoafmaaGreatDoor
open Go.RowKit

theorem cmpI_bd (m n : Nat) : -1 ≤ cmpI m n ∧ cmpI m n ≤ 1 := by
  unfold cmpI
  split
  · omega
  · split <;> omega
theorem str_beq {a c : ByteArray} (h : a ≠ c) : (a.toList == c.toList) = false := by
  rw [beq_eq_false_iff_ne]
  intro e
  apply h
  rw [ByteArray.toList_eq, ByteArray.toList_eq] at e
  exact ByteArray.ext (Array.toList_inj.1 e)

set_option maxRecDepth 100000 in
set_option maxHeartbeats 1000000 in
theorem Cmp_q (g : Bool) (a b : ByteArray) (h : Bool) (c d : ByteArray) (ha : a.size ≤ 300) (hb : b.size ≤ 300) (hc : c.size ≤ 300) (hd : d.size ≤ 300) :
    Ret 37 #[ratW g a b, ratW h c d] (.int .i64 (cmpQ (ratOf g a b) (ratOf h c d))) := by
  intro w
  have hx : Sm 300 (ratOf g a b) := sm_of ha hb (by omega)
  have hy : Sm 300 (ratOf h c d) := sm_of hc hd (by omega)
  obtain ⟨g1, a1, b1, e1, eg, ea, eb, sa, sb, -⟩ := words hx
  obtain ⟨h1, c1, d1, e2, eh, ec, ed, sc, sd, -⟩ := words hy
  have p1 : Ret 47 #[ratW g a b] (ratW g1 a1 b1) := fun W => e1 ▸ value_any g a b W (by omega) (by omega)
  have p2 : Ret 47 #[ratW h c d] (ratW h1 c1 d1) := fun W => e2 ▸ value_any h c d W (by omega) (by omega)
  have m1 := Lib.hid p1
  have m2 := Lib.hid p2
  clear p1 p2
  have HX : Hid (ratOf g a b = ratOf h c d → g1 = h1 ∧ a1 = c1 ∧ b1 = d1) := Lib.hid (fun hxy => by
    have e3 : ratW g1 a1 b1 = ratW h1 c1 d1 := by rw [← e1, ← e2, hxy]
    simp only [Value.agg.injEq, Array.mk.injEq, List.cons.injEq, Value.bool.injEq, Value.string.injEq, and_true] at e3
    exact e3)
  have HNE : Hid (¬ ratOf g a b = ratOf h c d → g1 = h1 → ((a1.toList == c1.toList) = false ∧ ¬ a1.toList = c1.toList) ∨ (a1 = c1 ∧ (b1.toList == d1.toList) = false ∧ ¬ b1.toList = d1.toList)) := Lib.hid (fun hxy hg => by
    have hne : ¬ (a1 = c1 ∧ b1 = d1) := fun e => hxy (ratV_inj (by rw [e1, e2, hg, e.1, e.2]))
    by_cases e : a1 = c1
    · have := str_beq (fun e' => hne ⟨e, e'⟩)
      exact .inr ⟨e, this, beq_eq_false_iff_ne.1 this⟩
    · have := str_beq e
      exact .inl ⟨this, beq_eq_false_iff_ne.1 this⟩)
  have q3 := ret_mul (a := a1) (b := d1) (by omega) (by omega) rfl
  have q4 := ret_mul (a := c1) (b := b1) (by omega) (by omega) rfl
  have q5 := ret_cmp (natS_sz (P8_prod (sval_le sa) (sval_le sd)) (by omega)) (natS_sz (P8_prod (sval_le sc) (sval_le sb)) (by omega)) rfl
  rw [sval_natS, sval_natS] at q5
  have HBD := Lib.hid (cmpI_bd (sval a1 * sval d1) (sval c1 * sval b1))
  have HP : Hid (g1 = false → h1 = false → cmpQ (ratOf g a b) (ratOf h c d) = cmpI (sval a1 * sval d1) (sval c1 * sval b1)) := Lib.hid (fun e e' => by
    rw [ea, eb, ec, ed]; exact cmp_pos (by rw [← eg, e]) (by rw [← eh, e']))
  have HN : Hid (g1 = true → h1 = true → cmpQ (ratOf g a b) (ratOf h c d) = -cmpI (sval a1 * sval d1) (sval c1 * sval b1)) := Lib.hid (fun e e' => by
    rw [ea, eb, ec, ed]; exact cmp_neg (by rw [← eg, e]) (by rw [← eh, e']))
  have HI : Hid (g1 = false → h1 = true → cmpQ (ratOf g a b) (ratOf h c d) = 1) := Lib.hid (fun e e' => cmp_hi (by rw [← eg, e]) (by rw [← eh, e']))
  have HL : Hid (g1 = true → h1 = false → cmpQ (ratOf g a b) (ratOf h c d) = -1) := Lib.hid (fun e e' => cmp_lo (by rw [← eg, e]) (by rw [← eh, e']))
  have HZ : Hid (ratOf g a b = ratOf h c d → cmpQ (ratOf g a b) (ratOf h c d) = 0) := Lib.hid (fun e => by rw [e, cmp_self])
  have m3 := Lib.hid q3
  have m4 := Lib.hid q4
  have m5 := Lib.hid q5
  clear q3 q4 q5 e1 e2 eg ea eb eh ec ed hx hy
  generalize natS (sval a1 * sval d1) = t1 at *
  generalize natS (sval c1 * sval b1) = t2 at *
  generalize cmpI (sval a1 * sval d1) (sval c1 * sval b1) = z at *
  generalize cmpQ (ratOf g a b) (ratOf h c d) = zz at *
  go_enter Tryz.func37, Tryz.ntmps37
  go_upto_region 1 with fail
  obtain ⟨W0, hW0, hka, hkb, hB⟩ := new_two' w g a b h c d
  rw [hW0]
  clear hW0
  obtain ⟨chka0, chka1, chka2⟩ := cells3 hka (Below.refl _ _)
  obtain ⟨chkb0, chkb1, chkb2⟩ := cells3 hkb (Below.refl _ _)
  go_cut [] (fun wx => R3 wx w.heap.size g1 a1 b1 ∧ R3 wx (w.heap.size + 1) h1 c1 d1 ∧ Below w.heap.size w wx)
  case first =>
    go_region_with (first
        | (go_at_call 47; (with_reducible refine (m1.out _).mono ?_); rintro e v0 ⟨rfl, hz0⟩; have hl0 : Below W0.heap.size W0 v0 := (by (repeat (first | exact Below.refl _ _ | apply Below.drew | refine below_then ?_ hz0 | refine below_then ?_ hz1))); obtain ⟨a00, a10, a20⟩ := cells3 hka hl0; obtain ⟨b00, b10, b20⟩ := cells3 hkb hl0; obtain ⟨fa00, fa10, fa20⟩ := free3 hka hl0; obtain ⟨fb00, fb10, fb20⟩ := free3 hkb hl0)
        | (go_at_call 47; (with_reducible refine (m2.out _).mono ?_); rintro e v1 ⟨rfl, hz1⟩; have hl1 : Below W0.heap.size W0 v1 := (by (repeat (first | exact Below.refl _ _ | apply Below.drew | refine below_then ?_ hz0 | refine below_then ?_ hz1))); obtain ⟨a01, a11, a21⟩ := cells3 hka hl1; obtain ⟨b01, b11, b21⟩ := cells3 hkb hl1; obtain ⟨fa01, fa11, fa21⟩ := free3 hka hl1; obtain ⟨fb01, fb11, fb21⟩ := free3 hkb hl1))
    all_goals go_wp2_with fail
    all_goals go_meet
    all_goals
      have hB1 := below_then hB hl1
      exact ⟨((hka.belowK hl1).put3 _ _ _).far3 (by omega) _ _ _, ((hkb.belowK hl1).far3 (by omega) _ _ _).put3 _ _ _, below_put3 (below_put3 hB1 (by omega) _ _ _) (by omega) _ _ _⟩
  clear chka0 chka1 chka2 chkb0 chkb1 chkb2
  clear hka hkb hB
  obtain ⟨hka, hkb, hB⟩ := hcut
  obtain ⟨chka0, chka1, chka2⟩ := cells3 hka (Below.refl _ _)
  obtain ⟨chkb0, chkb1, chkb2⟩ := cells3 hkb (Below.refl _ _)
  by_cases hxy : ratOf g a b = ratOf h c d
  · obtain ⟨rfl, rfl, rfl⟩ := HX.out hxy
    obtain rfl := HZ.out hxy
    clear hxy
    go_wp2_with fail
    go_ret
    exact ⟨rfl, hB⟩
  · by_cases hgh : g1 = h1
    · subst hgh
      have heq := HNE.out hxy rfl
      clear hxy
      cases g1
      · obtain rfl := HP.out rfl rfl
        go_upto_region 2 with fail
        go_cut [12] (fun s12 wx => s12 = .bool false ∧ wx = wc)
        case first =>
          rcases heq with ⟨heq, heq'⟩ | ⟨rfl, heq, heq'⟩
          · go_wp2_with fail
            all_goals go_meet
            all_goals exact ⟨rfl, rfl⟩
          · go_wp2_with fail
            all_goals go_meet
            all_goals exact ⟨rfl, rfl⟩
        obtain ⟨rfl, rfl⟩ := hcut
        clear heq
        go_upto_region 8 with fail
        go_cut [5] (fun s5 wx => s5 = .int .i64 zz ∧ Below wc.heap.size wc wx)
        case first =>
          go_region_held3 (fun W : World => (W.cell? ⟨w.heap.size, 0, none⟩ = some (.bool false) ∧ W.cell? ⟨w.heap.size, 1, none⟩ = some (.string a1) ∧ W.cell? ⟨w.heap.size, 2, none⟩ = some (.string b1)) ∧ (W.cell? ⟨(w.heap.size + 1), 0, none⟩ = some (.bool false) ∧ W.cell? ⟨(w.heap.size + 1), 1, none⟩ = some (.string c1) ∧ W.cell? ⟨(w.heap.size + 1), 2, none⟩ = some (.string d1)))
            ((refine ⟨cells3 hka ?_, cells3 hkb ?_⟩ <;> (repeat (first | exact Below.refl _ _ | apply Below.drew | refine below_then ?_ hz0 | refine below_then ?_ hz1 | refine below_then ?_ hz2))))
            (first
              | (go_at_call 68; (with_reducible refine (m3.out _).mono ?_); rintro e v0 ⟨rfl, hz0⟩)
              | (go_at_call 68; (with_reducible refine (m4.out _).mono ?_); rintro e v1 ⟨rfl, hz1⟩)
              | (go_at_call 76; (with_reducible refine (m5.out _).mono ?_); rintro e v2 ⟨rfl, hz2⟩))
          all_goals go_wp2_with fail
          all_goals go_meet
          all_goals
            refine ⟨rfl, ?_⟩
            (repeat (first | exact Below.refl _ _ | apply Below.drew | refine below_then ?_ hz0 | refine below_then ?_ hz1 | refine below_then ?_ hz2))
        obtain ⟨rfl, hb1⟩ := hcut
        clear chka0 chka1 chka2 chkb0 chkb1 chkb2
        replace hB := below_then hB hb1
        replace hka := hka.belowK hb1
        replace hkb := hkb.belowK hb1
        clear hb1
        obtain ⟨chka0, chka1, chka2⟩ := cells3 hka (Below.refl _ _)
        obtain ⟨chkb0, chkb1, chkb2⟩ := cells3 hkb (Below.refl _ _)
        go_wp2_with fail
        go_ret
        exact ⟨rfl, hB⟩
      · obtain rfl := HN.out rfl rfl
        have hz : IntKind.i64.wrap (-z) = -z := IntWalk.i64_in _ (by have := HBD.out; omega)
        go_upto_region 2 with fail
        go_cut [12] (fun s12 wx => s12 = .bool false ∧ wx = wc)
        case first =>
          rcases heq with ⟨heq, heq'⟩ | ⟨rfl, heq, heq'⟩
          · go_wp2_with fail
            all_goals go_meet
            all_goals exact ⟨rfl, rfl⟩
          · go_wp2_with fail
            all_goals go_meet
            all_goals exact ⟨rfl, rfl⟩
        obtain ⟨rfl, rfl⟩ := hcut
        clear heq
        go_upto_region 8 with fail
        go_cut [5] (fun s5 wx => s5 = .int .i64 z ∧ Below wc.heap.size wc wx)
        case first =>
          go_region_held3 (fun W : World => (W.cell? ⟨w.heap.size, 0, none⟩ = some (.bool true) ∧ W.cell? ⟨w.heap.size, 1, none⟩ = some (.string a1) ∧ W.cell? ⟨w.heap.size, 2, none⟩ = some (.string b1)) ∧ (W.cell? ⟨(w.heap.size + 1), 0, none⟩ = some (.bool true) ∧ W.cell? ⟨(w.heap.size + 1), 1, none⟩ = some (.string c1) ∧ W.cell? ⟨(w.heap.size + 1), 2, none⟩ = some (.string d1)))
            ((refine ⟨cells3 hka ?_, cells3 hkb ?_⟩ <;> (repeat (first | exact Below.refl _ _ | apply Below.drew | refine below_then ?_ hz0 | refine below_then ?_ hz1 | refine below_then ?_ hz2))))
            (first
              | (go_at_call 68; (with_reducible refine (m3.out _).mono ?_); rintro e v0 ⟨rfl, hz0⟩)
              | (go_at_call 68; (with_reducible refine (m4.out _).mono ?_); rintro e v1 ⟨rfl, hz1⟩)
              | (go_at_call 76; (with_reducible refine (m5.out _).mono ?_); rintro e v2 ⟨rfl, hz2⟩))
          all_goals go_wp2_with fail
          all_goals go_meet
          all_goals
            refine ⟨rfl, ?_⟩
            (repeat (first | exact Below.refl _ _ | apply Below.drew | refine below_then ?_ hz0 | refine below_then ?_ hz1 | refine below_then ?_ hz2))
        obtain ⟨rfl, hb1⟩ := hcut
        clear chka0 chka1 chka2 chkb0 chkb1 chkb2
        replace hB := below_then hB hb1
        replace hka := hka.belowK hb1
        replace hkb := hkb.belowK hb1
        clear hb1
        obtain ⟨chka0, chka1, chka2⟩ := cells3 hka (Below.refl _ _)
        obtain ⟨chkb0, chkb1, chkb2⟩ := cells3 hkb (Below.refl _ _)
        go_wp2_with fail
        go_ret
        exact ⟨rfl, hB⟩
    · clear hxy
      cases g1 <;> cases h1
      · exact absurd rfl hgh
      · obtain rfl := HI.out rfl rfl
        go_wp2_with fail
        go_ret
        exact ⟨rfl, hB⟩
      · obtain rfl := HL.out rfl rfl
        go_wp2_with fail
        go_ret
        exact ⟨rfl, hB⟩
      · exact absurd rfl hgh

end Go.Proofs.YtikdkhmeaoafmaaGreatDoor
