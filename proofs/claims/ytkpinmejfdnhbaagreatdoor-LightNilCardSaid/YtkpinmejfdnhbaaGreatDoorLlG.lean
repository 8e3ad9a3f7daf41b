/- Same keys, and right headers, by the references. -/
import Derived.Test.YtkpinmejfdnhbaaGreatDoorLlA
namespace Go.Proofs.YtkpinmejfdnhbaaGreatDoor
open Go.RowKit Go.Shelf
attribute [local go_sem] Oper.semAt_some

theorem Ints8_q (A1 A2 : Option Addr) (n c1 m c2 : Nat) (xs ys : List Int) (hn : n ≤ 1000000) (w : World) (h1 : RowI w A1 n c1 xs) (h2 : RowI w A2 m c2 ys) :
 Calls Tryz.prog 139 #[.slice A1 n c1, .slice A2 m c2] w fun e w' => e = .returned (.bool (decide (xs = ys))) ∧ Below w.heap.size w w' := by
 have hl1 := h1.len
 have hl2 := h2.len
 have hB := Below.refl w.heap.size w
 have HR := Lib.hid (And.intro h1 h2)
 clear h1 h2
 obtain ⟨D, hD⟩ : ∃ D, D = decide (xs = ys) := ⟨_, rfl⟩
 rw [← hD]
 have HD := Lib.hid hD
 clear hD
 by_cases hnm : n = m
 ·subst hnm
  go_enter Tryz.func139, Tryz.ntmps139
  go_wp2_with fail
  go_loopw [5] (fun s5 wr => ∃ i : Nat, i ≤ n ∧ s5 = .int .i64 (i : Int) ∧ Hid (xs.take i = ys.take i) ∧ Below w.heap.size w wr) (fun s5 _ => n - (intOf s5).toNat)
  case atStart => exact ⟨0, by omega, rfl, Lib.hid rfl, hB⟩
  case round =>
   clear hB
   obtain ⟨i, hi, rfl, HT, hB⟩ := hrel
   by_cases hlt : i < n
   ·have hlt' : (i : Int) < (n : Int) := by omega
    obtain ⟨b1, o1, x, rfl, hx, cx⟩ := RowI.get (HR.out.1.below hB) hlt
    obtain ⟨b2, o2, y, rfl, hy, cy⟩ := RowI.get (HR.out.2.below hB) hlt
    go_upto_region 6 with fail
    go_quiet (fail)
    have hB2 := below_drewN hB nq
    by_cases he : x = y
    ·have HT2 : Hid (xs.take (i + 1) = ys.take (i + 1)) := Lib.hid (by rw [List.take_add_one, List.take_add_one, HT.out, hx, hy, he])
     subst he
     clear hx hy cx cy
     generalize wr.drewN nq = wq at hB2 ⊢
     go_wp2_with fail
     go_roundw
     case rel => exact ⟨i + 1, by omega, by go_num, HT2, hB2⟩
     case measure => simp [intOf]; omega
    ·have hf : D = false := by rw [HD.out]; exact decide_eq_false (fun e => by rw [e, hy] at hx; exact he (Option.some.inj hx).symm)
     subst hf
     have hbn : (x != y) = true := by simpa using he
     clear hx hy cx cy
     generalize wr.drewN nq = wq at hB2 ⊢
     go_wp2_with fail
     go_ret
     exact ⟨rfl, hB2⟩
   ·obtain rfl : n = i := by omega
    have ht : D = true := by rw [HD.out]; exact decide_eq_true (by have := HT.out; rwa [List.take_of_length_le (by omega), List.take_of_length_le (by omega)] at this)
    subst ht
    go_wp2_with fail
    go_ret
    exact ⟨rfl, hB⟩
 ·have hf : D = false := by rw [HD.out]; exact decide_eq_false (fun e => by rw [e] at hl1; omega)
  have hnm' : ¬ (n : Int) = (m : Int) := by omega
  subst hf
  go_enter Tryz.func139, Tryz.ntmps139
  go_wp2_with fail
  go_ret
  exact ⟨rfl, hB⟩
theorem ints_none (w : World) : Calls Tryz.prog 139 #[.slice none 0 0, .slice none 0 0] w fun e w' => e = .returned (.bool true) ∧ Below w.heap.size w w' := by
 refine (Ints8_q none none 0 0 0 0 [] [] (by omega) w (row_none w) (row_none w)).mono ?_
 rintro e w' ⟨rfl, hb⟩
 exact ⟨by rw [decide_eq_true rfl], hb⟩
theorem rowsI_at {w : World} {A : Option Addr} {n c : Nat} {vs : List Value} {ls : List (List Int)} (h1 : RowV w A n c vs) (h2 : RowsI w vs ls) {i : Nat} (hi : i < n) :
 ∃ b o l A' c', A = some ⟨b, o, none⟩ ∧ ls[i]? = some l ∧ ∀ W, Below w.heap.size w W → W.cell? ⟨b, o + i, none⟩ = some (.slice A' l.length c') ∧ RowI W A' l.length c' l := by
 obtain ⟨b, o, v, e, hv, -⟩ := RowV.get h1 hi
 have hl : i < ls.length := by have := h1.len; have := h2.len; omega
 have hls : ls[i]? = some ls[i] := List.getElem?_eq_getElem hl
 obtain ⟨A', c', e2, hr⟩ := h2.one i v _ hv hls
 refine ⟨b, o, ls[i], A', c', e, hls, fun W hb => ?_⟩
 obtain ⟨b2, o2, v2, e3, hv2, cv⟩ := RowV.get (h1.below hb) hi
 rw [e] at e3
 cases e3
 rw [hv] at hv2
 cases hv2
 rw [e2] at cv
 exact ⟨cv, hr.below hb⟩

set_option maxRecDepth 100000 in
set_option maxHeartbeats 1500000 in
theorem Same_q (A1 A2 : Option Addr) (n c1 m c2 : Nat) (vs us : List Value) (ls ks : List (List Int)) (hn : n ≤ 1000) (hm : m ≤ 1000) (hl : ∀ l ∈ ls, l.length ≤ 1000000) (w : World) (h1 : RowV w A1 n c1 vs) (h2 : RowsI w vs ls) (h3 : RowV w A2 m c2 us) (h4 : RowsI w us ks) :
 Calls Tryz.prog 81 #[.agg #[.slice none 0 0, .slice A1 n c1], .agg #[.slice none 0 0, .slice A2 m c2]] w fun e w' => e = .returned (.bool (decide (ls = ks))) ∧ Below w.heap.size w w' := by
 have hll : ls.length = n := by rw [← h2.len, h1.len]
 have hkl : ks.length = m := by rw [← h4.len, h3.len]
 have HR := Lib.hid (And.intro (And.intro h1 h2) (And.intro h3 h4))
 have HL := Lib.hid hl
 clear h1 h2 h3 h4 hl
 go_enter Tryz.func81, Tryz.ntmps81
 go_upto_region 1 with fail
 refine name2p ?_
 intro W k2 k3 hB
 obtain ⟨g, hg⟩ : ∃ g, g = w.heap.size := ⟨_, rfl⟩
 have hgB : w.heap.size ≤ g := Nat.le_of_eq hg.symm
 rw [← hg] at k2 k3 ⊢
 clear hg
 have HK := Lib.hid (fun V (h : Below W.heap.size W V) => And.intro (k2.below h k2.lt) (k3.below h k3.lt))
 have a0 : W.cell? ⟨g, 0, none⟩ = some (.slice none 0 0) := k2.cell 0
 have a1 : W.cell? ⟨g, 1, none⟩ = some (.slice A1 n c1) := k2.cell 1
 have b0 : W.cell? ⟨g + 1, 0, none⟩ = some (.slice none 0 0) := k3.cell 0
 have b1 : W.cell? ⟨g + 1, 1, none⟩ = some (.slice A2 m c2) := k3.cell 1
 have HB := Lib.hid hB
 clear k2 k3 hB
 have mi0 := Lib.hid (fun V => ints_none V)
 by_cases hnm : n = m
 ·subst hnm
  go_upto_region 3 with (go_at_call 139; (refine (mi0.out _).mono ?_); rintro e w1 ⟨rfl, hb1⟩; replace a0 := cell_b hb1 a0; replace a1 := cell_b hb1 a1; replace b0 := cell_b hb1 b0; replace b1 := cell_b hb1 b1)
  clear a0 b0 a1 b1
  go_wp2_with fail
  go_loopw [5] (fun s5 wr => ∃ i : Nat, i ≤ n ∧ s5 = .int .i64 (i : Int) ∧ Hid (ls.take i = ks.take i) ∧ Below W.heap.size W wr) (fun s5 _ => n - (intOf s5).toNat)
  case atStart => exact ⟨0, by omega, rfl, Lib.hid (by rw [List.take_zero, List.take_zero]), hb1⟩
  case round =>
   clear hb1
   obtain ⟨i, hi, rfl, HE, hb⟩ := hrel
   have a1 : wr.cell? ⟨g, 1, none⟩ = some (.slice A1 n c1) := (HK.out wr hb).1.cell 1
   by_cases hlt : i < n
   ·have hlt' : (i : Int) < (n : Int) := by omega
    have hBr := below_then HB.out hb
    obtain ⟨x1, o1, l, B1, d1, rfl, hli, f1⟩ := rowsI_at (HR.out.1.1.below hBr) (HR.out.1.2.below hBr) hlt
    obtain ⟨x2, o2, k, B2, d2, rfl, hki, f2⟩ := rowsI_at (HR.out.2.1.below hBr) (HR.out.2.2.below hBr) hlt
    have hl6 := HL.out l (List.mem_of_getElem? hli)
    have HF := Lib.hid (fun V (h : Below wr.heap.size wr V) => And.intro (HK.out V (below_then hb h)) (And.intro (f1 V h) (f2 V h)))
    have HLI := Lib.hid (And.intro hli hki)
    obtain ⟨nl, hnl⟩ : ∃ k, k = l.length := ⟨_, rfl⟩
    obtain ⟨nk, hnk⟩ : ∃ j, j = k.length := ⟨_, rfl⟩
    rw [← hnl, ← hnk] at HF
    rw [← hnl] at hl6
    clear f1 f2 hBr hli hki hnl hnk
    go_upto_region 6 with fail
    have hbd : Below wr.heap.size wr wr.drew := (Below.refl _ _).drew
    refine region_here (fun Z : World => Z.cell? ⟨g, 1, none⟩ = some (.slice (some ⟨x1, o1, none⟩) n c1) ∧ Z.cell? ⟨g + 1, 1, none⟩ = some (.slice (some ⟨x2, o2, none⟩) n c2) ∧ Z.cell? ⟨x1, o1 + i, none⟩ = some (.slice B1 nl d1) ∧ Z.cell? ⟨x2, o2 + i, none⟩ = some (.slice B2 nk d2)) 10 (by kernel_rfl) ⟨(HF.out _ hbd).1.1.cell 1, (HF.out _ hbd).1.2.cell 1, (HF.out _ hbd).2.1.1, (HF.out _ hbd).2.2.1⟩ (fun hHeld => ?_)
    generalize wr.drew = V at *
    by_cases hlk : l = k
    ·have mi := Lib.hid (Ints8_q B1 B2 nl d1 nk d2 l k hl6 V (HF.out V hbd).2.1.2 (HF.out V hbd).2.2.2)
     rw [decide_eq_true hlk] at mi
     refine tkT 0 rfl ?_
     refine tkT 1 rfl ?_
     refine tkT 2 rfl ?_
     refine tkT 3 rfl ?_
     refine tkT 4 rfl ?_
     refine tkT 5 rfl ?_
     refine tkT 6 rfl ?_
     refine tkT 7 rfl ?_
     refine tkT 8 rfl ?_
     refine tkT 9 rfl ?_
     refine tkK 10 rfl fun K hK => ?_
     go_simp
     go_at_call 139
     refine (mi.out).mono ?_
     rintro e wa ⟨rfl, hba⟩
     (try go_wp2_with fail)
     replace hbd := below_then hbd hba
     refine hK.out _ _ ?_
     clear hK K
     try simp only [Act.put, pq1, pq2, pq3]
     refine tkB 11 rfl ?_
     refine wpAny_done (by kernel_rfl) ?_ _
     go_wp2_with fail
     go_roundw
     case rel => exact ⟨i + 1, by omega, by go_num, Lib.hid (by rw [List.take_add_one, List.take_add_one, HE.out, HLI.out.1, HLI.out.2, hlk]), below_then hb hbd⟩
     case measure => simp [intOf]; omega
    ·have mi := Lib.hid (Ints8_q B1 B2 nl d1 nk d2 l k hl6 V (HF.out V hbd).2.1.2 (HF.out V hbd).2.2.2)
     rw [decide_eq_false hlk] at mi
     refine tkT 0 rfl ?_
     refine tkT 1 rfl ?_
     refine tkT 2 rfl ?_
     refine tkT 3 rfl ?_
     refine tkT 4 rfl ?_
     refine tkT 5 rfl ?_
     refine tkT 6 rfl ?_
     refine tkT 7 rfl ?_
     refine tkT 8 rfl ?_
     refine tkT 9 rfl ?_
     refine tkK 10 rfl fun K hK => ?_
     go_simp
     go_at_call 139
     refine (mi.out).mono ?_
     rintro e wa ⟨rfl, hba⟩
     (try go_wp2_with fail)
     replace hbd := below_then hbd hba
     refine hK.out _ _ ?_
     clear hK K
     try simp only [Act.put, pq1, pq2, pq3]
     refine tkB 11 rfl ?_
     refine wpAny_done (by kernel_rfl) ?_ _
     have hls : ls ≠ ks := fun e => hlk (by have h1 := HLI.out.1; rw [e, HLI.out.2] at h1; exact (Option.some.inj h1).symm)
     go_wp2_with fail
     go_ret
     exact ⟨by rw [decide_eq_false hls]; rfl, below_then (below_then HB.out hb) hbd⟩
   ·obtain rfl : i = n := by omega
    have hls : ls = ks := by
     have := HE.out
     rwa [List.take_of_length_le (by omega), List.take_of_length_le (by omega)] at this
    go_wp2_with fail
    go_ret
    exact ⟨by rw [decide_eq_true hls]; rfl, below_then HB.out hb⟩
 ·have hnm' : decide ((n : Int) = (m : Int)) = false := decide_eq_false (by omega)
  have hnm2 : ((n : Int) = (m : Int)) = False := eq_false (by omega)
  have hls : ls ≠ ks := fun e => hnm (by rw [← hll, ← hkl, e])
  go_wp2_with (go_at_call 139; (refine (mi0.out _).mono ?_); rintro e w1 ⟨rfl, hb1⟩; replace a0 := cell_b hb1 a0; replace a1 := cell_b hb1 a1; replace b0 := cell_b hb1 b0; replace b1 := cell_b hb1 b1)
  go_ret
  exact ⟨by rw [decide_eq_false hls]; rfl, below_then HB.out hb1⟩

theorem steps_row (n : Int) (hn : I64 n) (w : World) : Calls Tryz.prog 43 #[.int .i64 n] w fun e w' => ∃ A c, e = .returned (.slice A (bitsN n.toNat) c) ∧ Below w.heap.size w w' := by
 refine (rSteps_q n hn w).mono ?_
 rintro e w' ⟨v, rfl, ho, hb⟩
 obtain ⟨A, c, rfl, -⟩ := OwnL.row ho encI_len
 exact ⟨A, c, by rw [show (intsN (stepsN n.toNat)).length = bitsN n.toNat by unfold intsN; rw [List.length_map, stepsN_len]], hb⟩

set_option maxRecDepth 100000 in
set_option maxHeartbeats 1500000 in
theorem rRight32_q (x : Hc) (h : Hdr) (hs : HdrSm h) (w : World) (hi : HdrIn w x h) :
 Calls Tryz.prog 38 #[.agg #[.int .i64 x.e, x.m, x.c, x.p, x.l]] w fun e w' => e = .returned (.bool (rightH h)) ∧ Below w.heap.size w w' := by
 obtain ⟨xe, xm, xc, xp, xl⟩ := x
 obtain ⟨E, ms, cs, ps, ls⟩ := h
 obtain ⟨h1, ⟨A2, c2, e2, h2⟩, ⟨A3, c3, e3, h3⟩, ⟨A4, c4, vs, e4, h4, h5⟩, ⟨A6, c6, e6, h6⟩⟩ := hi
 obtain ⟨hI, hm1, hm2, hc1, hc2, hp1, hp2, hp3, hl1, hl2⟩ := hs
 dsimp only at *
 subst h1 e2 e3 e4 e6
 obtain ⟨nm, hnm⟩ : ∃ n, n = ms.length := ⟨_, rfl⟩
 obtain ⟨nc, hnc⟩ : ∃ n, n = cs.length := ⟨_, rfl⟩
 obtain ⟨np, hnp⟩ : ∃ n, n = ps.length := ⟨_, rfl⟩
 obtain ⟨nl, hnl⟩ : ∃ n, n = ls.length := ⟨_, rfl⟩
 rw [← hnm] at h2 hm1 ⊢
 rw [← hnc] at h3 hc1 ⊢
 rw [← hnp] at h4 hp1 ⊢
 rw [← hnl] at hl1 ⊢
 have HR := Lib.hid (And.intro h2 (And.intro h3 (And.intro h4 h5)))
 have m1 := Lib.hid (fun W h => rPoints_q A2 nm c2 ms (by omega) hm2 W h)
 have m2 := Lib.hid (fun W a b c => rRight_q A3 A4 nc c3 np c4 cs vs ps (by omega) (by omega) (fun l hl => by have := hp2 l hl; omega) hc2 hp3 W a b c)
 have HNL := Lib.hid hnl
 have HNM := Lib.hid hnm
 have HRE := Lib.hid (rightH_eq xe ms cs ps ls)
 clear h2 h3 h4 h5 h6 hm2 hc2 hp2 hp3 hl2 hnm hnc hnp hnl
 obtain ⟨R, hR⟩ : ∃ R, R = rightH ⟨xe, ms, cs, ps, ls⟩ := ⟨_, rfl⟩
 rw [← hR] at HRE ⊢
 obtain ⟨RM, hRM⟩ : ∃ b, b = rightMems ms := ⟨_, rfl⟩
 obtain ⟨KB, hKB⟩ : ∃ b, b = keysB cs ps := ⟨_, rfl⟩
 rw [← hRM, ← hKB] at HRE
 have HRM := Lib.hid hRM
 unfold PointsPost at m1
 rw [← hRM] at m1
 rw [← hKB] at m2
 clear hR hRM hKB
 go_enter Tryz.func38, Tryz.ntmps38
 go_upto_region 1 with fail
 refine name1p ?_
 intro W k1 hB
 obtain ⟨g, hg⟩ : ∃ g, g = w.heap.size := ⟨_, rfl⟩
 rw [← hg] at k1 ⊢
 clear hg
 have a1 : W.cell? ⟨g, 1, none⟩ = some (.slice A2 nm c2) := k1.cell 1
 go_upto_region 2 with (go_at_call 79; (with_reducible refine (m1.out _ (HR.out.1.below hB)).mono ?_); rintro e w1 ⟨v, vv, rfl, ho, hli, hb⟩)
 replace k1 := k1.below hb k1.lt
 replace hB := below_then hB hb
 obtain ⟨A7, c7, hv, hr7⟩ := OwnL.row ho encV_len
 subst hv
 have HP7 := Lib.hid (And.intro hr7 hli.rows)
 have hvl0 : vv.length = (if RM then pointsL 1 ms else []).length := hli.len
 generalize vv.length = n7 at HP7 hvl0 ⊢
 have hvl := Lib.hid hvl0
 clear hvl0
 have a2 : w1.cell? ⟨g, 2, none⟩ = some (.slice A3 nc c3) := k1.cell 2
 have a3 : w1.cell? ⟨g, 3, none⟩ = some (.slice A4 np c4) := k1.cell 3
 clear hb ho hr7 hli m1 a1
 go_upto_region 3 with (go_at_call 80; (with_reducible refine (m2.out _ (HR.out.2.1.below hB) (HR.out.2.2.1.below hB) (HR.out.2.2.2.below hB)).mono ?_); rintro e w2 ⟨rfl, hb⟩)
 replace k1 := k1.below hb k1.lt
 have HP8 := Lib.hid (And.intro (HP7.out.1.below hb) (HP7.out.2.below hb))
 replace hB := below_then hB hb
 clear hb a2 a3 m2 HP7
 have hBd := hB.drew
 have k1d : Blk w2.drew g 46 _ := k1
 have hb2 : Below w2.heap.size w2 w2.drew := (Below.refl _ _).drew
 have hB2 := hB
 clear k1 hB
 by_cases hE0 : 0 ≤ xe
 ·by_cases hE1 : xe ≤ 1000000000
  ·cases RM with
   | false =>
     refine region_here (fun Z : World => Z.cell? ⟨g, 0, none⟩ = some (.int .i64 xe) ∧ Z.cell? ⟨g, 3, none⟩ = some (.slice A4 np c4) ∧ Z.cell? ⟨g, 4, none⟩ = some (.slice A6 nl c6)) 33 (by kernel_rfl) ⟨k1d.cell 0, k1d.cell 3, k1d.cell 4⟩ (fun hHeld => ?_)
     generalize w2.drew = V at *
     refine tkT 0 rfl ?_
     refine tkT 1 rfl ?_
     refine tkV 2 (.bool true) rfl (Or.inl ⟨by rfl, by intro w hSw; (try dsimp only at hSw); go_simp; first | done | exact decide_eq_true (by omega) | exact decide_eq_false (by omega) | omega | (simp only [Bool.true_eq, Bool.false_eq, decide_eq_true_eq, decide_eq_false_iff_not]; omega)⟩) ?_
     refine tkT 3 rfl ?_
     refine tkT 4 rfl ?_
     refine tkT 5 rfl ?_
     refine tkV 6 (.bool true) rfl (Or.inl ⟨by rfl, by intro w hSw; (try dsimp only at hSw); go_simp; first | done | exact decide_eq_true (by omega) | exact decide_eq_false (by omega) | omega | (simp only [Bool.true_eq, Bool.false_eq, decide_eq_true_eq, decide_eq_false_iff_not]; omega)⟩) ?_
     refine tkT 7 rfl ?_
     refine tkT 8 rfl ?_
     refine tkT 9 rfl ?_
     refine tkT 10 rfl ?_
     refine tkT 11 rfl ?_
     refine tkU 12 rfl ?_
     refine tkT 13 rfl ?_
     refine tkT 14 rfl ?_
     refine tkU 15 rfl ?_
     refine tkU 16 rfl ?_
     refine tkU 17 rfl ?_
     refine tkU 18 rfl ?_
     refine tkU 19 rfl ?_
     refine tkU 20 rfl ?_
     refine tkU 21 rfl ?_
     refine tkT 22 rfl ?_
     refine tkT 23 rfl ?_
     refine tkU 24 rfl ?_
     refine tkU 25 rfl ?_
     refine tkU 26 rfl ?_
     refine tkU 27 rfl ?_
     refine tkU 28 rfl ?_
     refine tkU 29 rfl ?_
     refine tkU 30 rfl ?_
     refine tkU 31 rfl ?_
     refine tkT 32 rfl ?_
     refine tkK 33 rfl fun K hK => ?_
     go_simp
     refine hK.out _ _ ?_
     clear hK K
     try simp only [Act.put, pq1, pq2, pq3]
     refine wpAny_done (by kernel_rfl) ?_ _
     go_wp2_with fail
     go_ret
     exact ⟨by rw [HRE.out]; simp, hBd⟩
   | true =>
     replace hvl : Hid (n7 = (pointsL 1 ms).length) := hvl
     replace HP8 : Hid (RowV w2 A7 n7 c7 vv ∧ RowsI w2 vv (pointsL 1 ms)) := HP8
     cases KB with
     | false =>
       refine region_here (fun Z : World => Z.cell? ⟨g, 0, none⟩ = some (.int .i64 xe) ∧ Z.cell? ⟨g, 3, none⟩ = some (.slice A4 np c4) ∧ Z.cell? ⟨g, 4, none⟩ = some (.slice A6 nl c6)) 33 (by kernel_rfl) ⟨k1d.cell 0, k1d.cell 3, k1d.cell 4⟩ (fun hHeld => ?_)
       generalize w2.drew = V at *
       refine tkT 0 rfl ?_
       refine tkT 1 rfl ?_
       refine tkV 2 (.bool true) rfl (Or.inl ⟨by rfl, by intro w hSw; (try dsimp only at hSw); go_simp; first | done | exact decide_eq_true (by omega) | exact decide_eq_false (by omega) | omega | (simp only [Bool.true_eq, Bool.false_eq, decide_eq_true_eq, decide_eq_false_iff_not]; omega)⟩) ?_
       refine tkT 3 rfl ?_
       refine tkT 4 rfl ?_
       refine tkT 5 rfl ?_
       refine tkV 6 (.bool true) rfl (Or.inl ⟨by rfl, by intro w hSw; (try dsimp only at hSw); go_simp; first | done | exact decide_eq_true (by omega) | exact decide_eq_false (by omega) | omega | (simp only [Bool.true_eq, Bool.false_eq, decide_eq_true_eq, decide_eq_false_iff_not]; omega)⟩) ?_
       refine tkT 7 rfl ?_
       refine tkT 8 rfl ?_
       refine tkT 9 rfl ?_
       refine tkT 10 rfl ?_
       refine tkT 11 rfl ?_
       refine tkT 12 rfl ?_
       refine tkT 13 rfl ?_
       refine tkT 14 rfl ?_
       refine tkU 15 rfl ?_
       refine tkU 16 rfl ?_
       refine tkU 17 rfl ?_
       refine tkU 18 rfl ?_
       refine tkU 19 rfl ?_
       refine tkU 20 rfl ?_
       refine tkU 21 rfl ?_
       refine tkT 22 rfl ?_
       refine tkT 23 rfl ?_
       refine tkU 24 rfl ?_
       refine tkU 25 rfl ?_
       refine tkU 26 rfl ?_
       refine tkU 27 rfl ?_
       refine tkU 28 rfl ?_
       refine tkU 29 rfl ?_
       refine tkU 30 rfl ?_
       refine tkU 31 rfl ?_
       refine tkT 32 rfl ?_
       refine tkK 33 rfl fun K hK => ?_
       go_simp
       refine hK.out _ _ ?_
       clear hK K
       try simp only [Act.put, pq1, pq2, pq3]
       refine wpAny_done (by kernel_rfl) ?_ _
       go_wp2_with fail
       go_ret
       exact ⟨by rw [HRE.out]; simp, hBd⟩
     | true =>
       have m3 := Lib.hid (fun W (h : Below w2.heap.size w2 W) => Same_q A7 A4 n7 c7 np c4 vv vs (pointsL 1 ms) ps (by rw [hvl.out, pointsL_len]; have := HNM.out; omega) (by omega) (fun l hl => by have := (points_mem ms 1 (rightM_iff.1 HRM.out.symm).wt (by have := HNM.out; omega) l hl).1; omega) W (HP8.out.1.below h) (HP8.out.2.below h) (HR.out.2.2.1.below (below_then hB2 h)) (HR.out.2.2.2.below (below_then hB2 h)))
       by_cases hPP : pointsL 1 ms = ps
       ·rw [decide_eq_true hPP] at m3
        have mst := Lib.hid (steps_row xe hI)
        obtain ⟨nb, hnb⟩ : ∃ k, k = bitsN xe.toNat := ⟨_, rfl⟩
        rw [← hnb] at mst
        have HNB := Lib.hid hnb
        clear hnb
        by_cases hN : nl = nb
        ·subst hN
         refine region_here (fun Z : World => Z.cell? ⟨g, 0, none⟩ = some (.int .i64 xe) ∧ Z.cell? ⟨g, 3, none⟩ = some (.slice A4 np c4) ∧ Z.cell? ⟨g, 4, none⟩ = some (.slice A6 nl c6)) 31 (by kernel_rfl) ⟨k1d.cell 0, k1d.cell 3, k1d.cell 4⟩ (fun hHeld => ?_)
         generalize w2.drew = V at *
         refine tkT 0 rfl ?_
         refine tkT 1 rfl ?_
         refine tkV 2 (.bool true) rfl (Or.inl ⟨by rfl, by intro w hSw; (try dsimp only at hSw); go_simp; first | done | exact decide_eq_true (by omega) | exact decide_eq_false (by omega) | omega | (simp only [Bool.true_eq, Bool.false_eq, decide_eq_true_eq, decide_eq_false_iff_not]; omega)⟩) ?_
         refine tkT 3 rfl ?_
         refine tkT 4 rfl ?_
         refine tkT 5 rfl ?_
         refine tkV 6 (.bool true) rfl (Or.inl ⟨by rfl, by intro w hSw; (try dsimp only at hSw); go_simp; first | done | exact decide_eq_true (by omega) | exact decide_eq_false (by omega) | omega | (simp only [Bool.true_eq, Bool.false_eq, decide_eq_true_eq, decide_eq_false_iff_not]; omega)⟩) ?_
         refine tkT 7 rfl ?_
         refine tkT 8 rfl ?_
         refine tkT 9 rfl ?_
         refine tkT 10 rfl ?_
         refine tkT 11 rfl ?_
         refine tkT 12 rfl ?_
         refine tkT 13 rfl ?_
         refine tkT 14 rfl ?_
         refine tkT 15 rfl ?_
         refine tkT 16 rfl ?_
         refine tkT 17 rfl ?_
         refine tkT 18 rfl ?_
         refine tkT 19 rfl ?_
         refine tkT 20 rfl ?_
         refine tkO 21 rfl fun K hK => ?_
         go_simp
         go_at_call 81
         refine (m3.out _ hb2).mono ?_
         rintro e wa ⟨rfl, hba⟩
         (try go_wp2_with fail)
         replace hBd := below_then hBd hba
         replace hb2 := below_then hb2 hba
         refine hK.out _ _ ?_ (fun hHeld21 => ?_)
         ·exact ⟨cell_b hba hHeld.1, cell_b hba hHeld.2.1, cell_b hba hHeld.2.2⟩
         clear hK K
         try simp only [Act.put, pq1, pq2, pq3]
         refine tkT 22 rfl ?_
         refine tkT 23 rfl ?_
         refine tkT 24 rfl ?_
         refine tkT 25 rfl ?_
         refine tkT 26 rfl ?_
         refine tkT 27 rfl ?_
         refine tkT 28 rfl ?_
         refine tkO 29 rfl fun K hK => ?_
         go_simp
         go_at_call 43
         refine (mst.out _).mono ?_
         rintro e wa ⟨A9, c9, rfl, hba⟩
         (try go_wp2_with fail)
         replace hBd := below_then hBd hba
         replace hb2 := below_then hb2 hba
         refine hK.out _ _ ?_ (fun hHeld29 => ?_)
         ·exact ⟨cell_b hba hHeld21.1, cell_b hba hHeld21.2.1, cell_b hba hHeld21.2.2⟩
         clear hK K
         try simp only [Act.put, pq1, pq2, pq3]
         refine tkT 30 rfl ?_
         refine tkK 31 rfl fun K hK => ?_
         go_simp
         refine hK.out _ _ ?_
         clear hK K
         try simp only [Act.put, pq1, pq2, pq3]
         refine tkB 32 rfl ?_
         refine tkB 33 rfl ?_
         refine wpAny_done (by kernel_rfl) ?_ _
         go_wp2_with fail
         go_ret
         exact ⟨by rw [HRE.out, hPP, ← HNL.out, ← HNB.out]; simp [hE0, hE1], hBd⟩
        ·have hNd : decide ((nl : Int) = (nb : Int)) = false := decide_eq_false (by omega)
         refine region_here (fun Z : World => Z.cell? ⟨g, 0, none⟩ = some (.int .i64 xe) ∧ Z.cell? ⟨g, 3, none⟩ = some (.slice A4 np c4) ∧ Z.cell? ⟨g, 4, none⟩ = some (.slice A6 nl c6)) 31 (by kernel_rfl) ⟨k1d.cell 0, k1d.cell 3, k1d.cell 4⟩ (fun hHeld => ?_)
         generalize w2.drew = V at *
         refine tkT 0 rfl ?_
         refine tkT 1 rfl ?_
         refine tkV 2 (.bool true) rfl (Or.inl ⟨by rfl, by intro w hSw; (try dsimp only at hSw); go_simp; first | done | exact decide_eq_true (by omega) | exact decide_eq_false (by omega) | omega | (simp only [Bool.true_eq, Bool.false_eq, decide_eq_true_eq, decide_eq_false_iff_not]; omega)⟩) ?_
         refine tkT 3 rfl ?_
         refine tkT 4 rfl ?_
         refine tkT 5 rfl ?_
         refine tkV 6 (.bool true) rfl (Or.inl ⟨by rfl, by intro w hSw; (try dsimp only at hSw); go_simp; first | done | exact decide_eq_true (by omega) | exact decide_eq_false (by omega) | omega | (simp only [Bool.true_eq, Bool.false_eq, decide_eq_true_eq, decide_eq_false_iff_not]; omega)⟩) ?_
         refine tkT 7 rfl ?_
         refine tkT 8 rfl ?_
         refine tkT 9 rfl ?_
         refine tkT 10 rfl ?_
         refine tkT 11 rfl ?_
         refine tkT 12 rfl ?_
         refine tkT 13 rfl ?_
         refine tkT 14 rfl ?_
         refine tkT 15 rfl ?_
         refine tkT 16 rfl ?_
         refine tkT 17 rfl ?_
         refine tkT 18 rfl ?_
         refine tkT 19 rfl ?_
         refine tkT 20 rfl ?_
         refine tkO 21 rfl fun K hK => ?_
         go_simp
         go_at_call 81
         refine (m3.out _ hb2).mono ?_
         rintro e wa ⟨rfl, hba⟩
         (try go_wp2_with fail)
         replace hBd := below_then hBd hba
         replace hb2 := below_then hb2 hba
         refine hK.out _ _ ?_ (fun hHeld21 => ?_)
         ·exact ⟨cell_b hba hHeld.1, cell_b hba hHeld.2.1, cell_b hba hHeld.2.2⟩
         clear hK K
         try simp only [Act.put, pq1, pq2, pq3]
         refine tkT 22 rfl ?_
         refine tkT 23 rfl ?_
         refine tkT 24 rfl ?_
         refine tkT 25 rfl ?_
         refine tkT 26 rfl ?_
         refine tkT 27 rfl ?_
         refine tkT 28 rfl ?_
         refine tkO 29 rfl fun K hK => ?_
         go_simp
         go_at_call 43
         refine (mst.out _).mono ?_
         rintro e wa ⟨A9, c9, rfl, hba⟩
         (try go_wp2_with fail)
         replace hBd := below_then hBd hba
         replace hb2 := below_then hb2 hba
         refine hK.out _ _ ?_ (fun hHeld29 => ?_)
         ·exact ⟨cell_b hba hHeld21.1, cell_b hba hHeld21.2.1, cell_b hba hHeld21.2.2⟩
         clear hK K
         try simp only [Act.put, pq1, pq2, pq3]
         refine tkT 30 rfl ?_
         refine tkK 31 rfl fun K hK => ?_
         go_simp
         refine hK.out _ _ ?_
         clear hK K
         try simp only [Act.put, pq1, pq2, pq3]
         refine tkB 32 rfl ?_
         refine tkB 33 rfl ?_
         refine wpAny_done (by kernel_rfl) ?_ _
         go_wp2_with fail
         go_ret
         exact ⟨by rw [HRE.out, ← HNL.out, ← HNB.out, decide_eq_false hN]; simp; omega, hBd⟩
       ·rw [decide_eq_false hPP] at m3
        refine region_here (fun Z : World => Z.cell? ⟨g, 0, none⟩ = some (.int .i64 xe) ∧ Z.cell? ⟨g, 3, none⟩ = some (.slice A4 np c4) ∧ Z.cell? ⟨g, 4, none⟩ = some (.slice A6 nl c6)) 21 (by kernel_rfl) ⟨k1d.cell 0, k1d.cell 3, k1d.cell 4⟩ (fun hHeld => ?_)
        generalize w2.drew = V at *
        refine tkT 0 rfl ?_
        refine tkT 1 rfl ?_
        refine tkV 2 (.bool true) rfl (Or.inl ⟨by rfl, by intro w hSw; (try dsimp only at hSw); go_simp; first | done | exact decide_eq_true (by omega) | exact decide_eq_false (by omega) | omega | (simp only [Bool.true_eq, Bool.false_eq, decide_eq_true_eq, decide_eq_false_iff_not]; omega)⟩) ?_
        refine tkT 3 rfl ?_
        refine tkT 4 rfl ?_
        refine tkT 5 rfl ?_
        refine tkV 6 (.bool true) rfl (Or.inl ⟨by rfl, by intro w hSw; (try dsimp only at hSw); go_simp; first | done | exact decide_eq_true (by omega) | exact decide_eq_false (by omega) | omega | (simp only [Bool.true_eq, Bool.false_eq, decide_eq_true_eq, decide_eq_false_iff_not]; omega)⟩) ?_
        refine tkT 7 rfl ?_
        refine tkT 8 rfl ?_
        refine tkT 9 rfl ?_
        refine tkT 10 rfl ?_
        refine tkT 11 rfl ?_
        refine tkT 12 rfl ?_
        refine tkT 13 rfl ?_
        refine tkT 14 rfl ?_
        refine tkT 15 rfl ?_
        refine tkT 16 rfl ?_
        refine tkT 17 rfl ?_
        refine tkT 18 rfl ?_
        refine tkT 19 rfl ?_
        refine tkT 20 rfl ?_
        refine tkK 21 rfl fun K hK => ?_
        go_simp
        go_at_call 81
        refine (m3.out _ hb2).mono ?_
        rintro e wa ⟨rfl, hba⟩
        (try go_wp2_with fail)
        replace hBd := below_then hBd hba
        replace hb2 := below_then hb2 hba
        refine hK.out _ _ ?_
        clear hK K
        try simp only [Act.put, pq1, pq2, pq3]
        refine tkB 22 rfl ?_
        refine tkB 23 rfl ?_
        refine tkC 24 rfl ?_
        refine tkC 25 rfl ?_
        refine tkC 26 rfl ?_
        refine tkC 27 rfl ?_
        refine tkC 28 rfl ?_
        refine tkC 29 rfl ?_
        refine tkC 30 rfl ?_
        refine tkC 31 rfl ?_
        refine tkB 32 rfl ?_
        refine tkB 33 rfl ?_
        refine wpAny_done (by kernel_rfl) ?_ _
        go_wp2_with fail
        go_ret
        exact ⟨by rw [HRE.out, decide_eq_false (show ¬ ps = pointsL 1 ms from fun e => hPP e.symm)]; simp, hBd⟩
  ·have hE1' : ¬ xe ≤ 1000000000 := hE1
   refine region_here (fun Z : World => Z.cell? ⟨g, 0, none⟩ = some (.int .i64 xe) ∧ Z.cell? ⟨g, 3, none⟩ = some (.slice A4 np c4) ∧ Z.cell? ⟨g, 4, none⟩ = some (.slice A6 nl c6)) 33 (by kernel_rfl) ⟨k1d.cell 0, k1d.cell 3, k1d.cell 4⟩ (fun hHeld => ?_)
   generalize w2.drew = V at *
   refine tkT 0 rfl ?_
   refine tkT 1 rfl ?_
   refine tkV 2 (.bool true) rfl (Or.inl ⟨by rfl, by intro w hSw; (try dsimp only at hSw); go_simp; first | done | exact decide_eq_true (by omega) | exact decide_eq_false (by omega) | omega | (simp only [Bool.true_eq, Bool.false_eq, decide_eq_true_eq, decide_eq_false_iff_not]; omega)⟩) ?_
   refine tkT 3 rfl ?_
   refine tkT 4 rfl ?_
   refine tkT 5 rfl ?_
   refine tkV 6 (.bool false) rfl (Or.inl ⟨by rfl, by intro w hSw; (try dsimp only at hSw); go_simp; first | done | exact decide_eq_true (by omega) | exact decide_eq_false (by omega) | omega | (simp only [Bool.true_eq, Bool.false_eq, decide_eq_true_eq, decide_eq_false_iff_not]; omega)⟩) ?_
   refine tkT 7 rfl ?_
   refine tkT 8 rfl ?_
   refine tkU 9 rfl ?_
   refine tkT 10 rfl ?_
   refine tkT 11 rfl ?_
   refine tkU 12 rfl ?_
   refine tkT 13 rfl ?_
   refine tkT 14 rfl ?_
   refine tkU 15 rfl ?_
   refine tkU 16 rfl ?_
   refine tkU 17 rfl ?_
   refine tkU 18 rfl ?_
   refine tkU 19 rfl ?_
   refine tkU 20 rfl ?_
   refine tkU 21 rfl ?_
   refine tkT 22 rfl ?_
   refine tkT 23 rfl ?_
   refine tkU 24 rfl ?_
   refine tkU 25 rfl ?_
   refine tkU 26 rfl ?_
   refine tkU 27 rfl ?_
   refine tkU 28 rfl ?_
   refine tkU 29 rfl ?_
   refine tkU 30 rfl ?_
   refine tkU 31 rfl ?_
   refine tkT 32 rfl ?_
   refine tkK 33 rfl fun K hK => ?_
   go_simp
   refine hK.out _ _ ?_
   clear hK K
   try simp only [Act.put, pq1, pq2, pq3]
   refine wpAny_done (by kernel_rfl) ?_ _
   go_wp2_with fail
   go_ret
   exact ⟨by rw [HRE.out, decide_eq_false (show ¬ xe ≤ 1000000000 by omega)]; simp, hBd⟩
 ·have hE0' : ¬ 0 ≤ xe := hE0
  refine region_here (fun Z : World => Z.cell? ⟨g, 0, none⟩ = some (.int .i64 xe) ∧ Z.cell? ⟨g, 3, none⟩ = some (.slice A4 np c4) ∧ Z.cell? ⟨g, 4, none⟩ = some (.slice A6 nl c6)) 33 (by kernel_rfl) ⟨k1d.cell 0, k1d.cell 3, k1d.cell 4⟩ (fun hHeld => ?_)
  generalize w2.drew = V at *
  refine tkT 0 rfl ?_
  refine tkT 1 rfl ?_
  refine tkV 2 (.bool false) rfl (Or.inl ⟨by rfl, by intro w hSw; (try dsimp only at hSw); go_simp; first | done | exact decide_eq_true (by omega) | exact decide_eq_false (by omega) | omega | (simp only [Bool.true_eq, Bool.false_eq, decide_eq_true_eq, decide_eq_false_iff_not]; omega)⟩) ?_
  refine tkT 3 rfl ?_
  refine tkU 4 rfl ?_
  refine tkU 5 rfl ?_
  refine tkU 6 rfl ?_
  refine tkT 7 rfl ?_
  refine tkT 8 rfl ?_
  refine tkU 9 rfl ?_
  refine tkT 10 rfl ?_
  refine tkT 11 rfl ?_
  refine tkU 12 rfl ?_
  refine tkT 13 rfl ?_
  refine tkT 14 rfl ?_
  refine tkU 15 rfl ?_
  refine tkU 16 rfl ?_
  refine tkU 17 rfl ?_
  refine tkU 18 rfl ?_
  refine tkU 19 rfl ?_
  refine tkU 20 rfl ?_
  refine tkU 21 rfl ?_
  refine tkT 22 rfl ?_
  refine tkT 23 rfl ?_
  refine tkU 24 rfl ?_
  refine tkU 25 rfl ?_
  refine tkU 26 rfl ?_
  refine tkU 27 rfl ?_
  refine tkU 28 rfl ?_
  refine tkU 29 rfl ?_
  refine tkU 30 rfl ?_
  refine tkU 31 rfl ?_
  refine tkT 32 rfl ?_
  refine tkK 33 rfl fun K hK => ?_
  go_simp
  refine hK.out _ _ ?_
  clear hK K
  try simp only [Act.put, pq1, pq2, pq3]
  refine wpAny_done (by kernel_rfl) ?_ _
  go_wp2_with fail
  go_ret
  exact ⟨by rw [HRE.out, decide_eq_false (show ¬ (0 : Int) ≤ xe by omega)]; simp, hBd⟩

end Go.Proofs.YtkpinmejfdnhbaaGreatDoor
