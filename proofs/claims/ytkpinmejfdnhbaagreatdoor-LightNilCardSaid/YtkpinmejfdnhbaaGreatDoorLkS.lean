/- The examples of the chapter. -/
import Derived.Test.YtkpinmejfdnhbaaGreatDoorLlA
namespace Go.Proofs.YtkpinmejfdnhbaaGreatDoor
open Go.RowKit Go.Shelf
attribute [local go_sem] Oper.semAt_some

set_option maxRecDepth 100000 in
set_option maxHeartbeats 1500000 in
theorem sanity_q (w : World) (hT : Tabs w) : Calls Tryz.prog 9 #[] w fun e w' => e = .returned (.bool true) ∧ Below w.heap.size w w' := by
 have HT := Lib.hid hT
 have m1 := Lib.hid (Made_lit 1 2 ⟨by omega, by omega⟩ ⟨by omega, by omega⟩ w)
 clear hT
 go_enter Tryz.func9, Tryz.ntmps9
 go_upto_region 2 with (go_at_call 13; (with_reducible refine m1.out.mono ?_); rintro e w1 ⟨vG, vH, gs, ys, es, hs, K, rfl, hoG, hoH, hCI, hCO, hel, hB⟩; obtain ⟨AG, cG, hvG, hrG⟩ := OwnL.row hoG encGc_len; obtain ⟨AH, cH, hvH, hrH⟩ := OwnL.row hoH encH1_len; subst hvG hvH)
 refine name1p ?_
 intro W1 k1 hb1
 have hgl : gs.length = 2 := by rw [hCI.gl, hel]; rfl
 have hyl : ys.length = 2 := by have h1 := hCI.hl; have h2 := hCO.len; rw [List.length_map] at h1; rw [h1, h2, hel]; rfl
 rw [hgl] at k1 hrG
 rw [hyl] at k1 hrH
 have hH : ∃ (b o : Nat) (x0 x1 : Hc) (t0 t1 : Hdr), AH = some ⟨b, o, none⟩ ∧ hs[0]? = some t0 ∧ hs[1]? = some t1 ∧ ∀ W, Below w1.heap.size w1 W → HdrOwn w.heap.size W x0 t0 ∧ HdrOwn w.heap.size W x1 t1 ∧ W.cell? ⟨b, o, none⟩ = some (.int .i64 x0.e) ∧ W.cell? ⟨b, o + 1, none⟩ = some x0.m ∧ W.cell? ⟨b, o + 2, none⟩ = some x0.c ∧ W.cell? ⟨b, o + 3, none⟩ = some x0.p ∧ W.cell? ⟨b, o + 4, none⟩ = some x0.l ∧ W.cell? ⟨b, o + 5, none⟩ = some (.int .i64 x1.e) ∧ W.cell? ⟨b, o + 6, none⟩ = some x1.m ∧ W.cell? ⟨b, o + 7, none⟩ = some x1.c ∧ W.cell? ⟨b, o + 8, none⟩ = some x1.p ∧ W.cell? ⟨b, o + 9, none⟩ = some x1.l := by
  have hRW := rowHd_map hrH
  have h2 : hs.length = 2 := by rw [hCO.len, hel]; rfl
  obtain ⟨b, o, x0, e0, hx0, -⟩ := rowHd_at hRW (show 0 < 2 by omega)
  subst e0
  obtain ⟨b', o', x1, e1, hx1, -⟩ := rowHd_at hRW (show 1 < 2 by omega)
  cases e1
  have ht0 : hs[0]? = some (hs[0]'(by omega)) := List.getElem?_eq_getElem _
  have ht1 : hs[1]? = some (hs[1]'(by omega)) := List.getElem?_eq_getElem _
  refine ⟨b, o, x0, x1, _, _, rfl, ht0, ht1, fun W hb => ?_⟩
  obtain ⟨b2, o2, y0, e2, hy0, c0, c1, c2, c3, c4⟩ := rowHd_at (hRW.below hb) (show 0 < 2 by omega)
  cases e2
  obtain ⟨b3, o3, y1, e3, hy1, d0, d1, d2, d3, d4⟩ := rowHd_at (hRW.below hb) (show 1 < 2 by omega)
  cases e3
  rw [hx0] at hy0
  cases hy0
  rw [hx1] at hy1
  cases hy1
  rw [Nat.zero_mul, Nat.add_zero] at c0 c1 c2 c3 c4
  rw [Nat.one_mul] at d0 d1 d2 d3 d4
  exact ⟨(hCI.h 0 x0 _ hx0 ht0).below hb, (hCI.h 1 x1 _ hx1 ht1).below hb, c0, c1, c2, c3, c4, d0, d1, d2, d3, d4⟩
 obtain ⟨b, o, x0, x1, t0, t1, rfl, ht0, ht1, hH⟩ := hH
 have HH := Lib.hid hH
 have HC := Lib.hid (And.intro hCI (And.intro hCO (And.intro hrG (And.intro ht0 ht1))))
 clear hH hCI hCO hrG hrH ht0 ht1 hoG hoH hel hgl hyl m1
 have hsm := HC.out.2.1.small (by have h1 := HC.out.1.gl; have := HC.out.2.2.1.len; omega)
 have hel2 : es.length ≤ 1000 := by have h1 := HC.out.1.gl; have := HC.out.2.2.1.len; omega
 have hsm0 := hsm t0 (List.mem_of_getElem? HC.out.2.2.2.1)
 have hsm1 := hsm t1 (List.mem_of_getElem? HC.out.2.2.2.2)
 have F00 := Lib.hid (follow_ok HC.out.2.1 hel2 HC.out.2.2.2.1 HC.out.2.2.2.1)
 have F01 := Lib.hid (follow_ok HC.out.2.1 hel2 HC.out.2.2.2.1 HC.out.2.2.2.2)
 have HSM := Lib.hid (And.intro hsm0 (And.intro hsm1 hel2))
 clear hsm hsm0 hsm1 hel2
 have m2 := Lib.hid (fun W h => New_q x0 t0 HSM.out.1 W h)
 unfold hdrA at m2
 obtain ⟨p1, hp1⟩ : ∃ g, g = w1.heap.size := ⟨_, rfl⟩
 rw [← hp1] at k1 ⊢
 have HP1 := Lib.hid hp1
 clear hp1
 have y1 : W1.cell? ⟨p1, 1, none⟩ = some (.slice (some ⟨b, o, none⟩) 2 cH) := k1.cell 1
 have hB1 := below_then hB hb1
 obtain ⟨ho0, -, c0, c1, c2, c3, c4, -⟩ := HH.out W1 hb1
 have hin0 := Lib.hid ho0.in_
 clear ho0
 go_upto_region 3 with (go_at_call 16; (with_reducible refine (m2.out _ hin0.out).mono ?_); rintro e w2 ⟨hN1, -, hb2⟩; obtain ⟨p, rfl, hCli⟩ := hN1 F00.out.1; clear hN1)
 clear y1 c0 c1 c2 c3 c4 m2 hin0
 have hpp : p1 < p := Nat.lt_of_lt_of_le k1.lt hCli.1
 have hp0 : w1.heap.size ≤ p := Nat.le_trans hb1.size hCli.1
 have hw10 : w.heap.size ≤ w1.heap.size := hB.size
 replace k1 := k1.below hb2 k1.lt
 have hbw := below_then hb1 hb2
 have hB2 := below_then hB1 hb2
 clear hb1 hb2 hB1 hB
 go_upto_region 5 with fail
 -- routes
 have hs2 := Below.refl w2.heap.size w2
 have mr1 := Lib.hid (route_lit 13 0 _ 3 route1 rfl ⟨by omega, by omega⟩)
 have mr2 := Lib.hid (route_lit 6 5 _ 1 route2 rfl ⟨by omega, by omega⟩)
 have mr3 := Lib.hid (route_lit 3 3 _ 0 route3 rfl ⟨by omega, by omega⟩)
 go_upto_region 6 with (first
  | (go_at_call 10; (with_reducible refine (mr1.out _).mono ?_); rintro e w3 ⟨A3, c3, rfl, hr3, hb3⟩; replace hs2 := below_then hs2 hb3; clear hb3)
  | (go_at_call 10; (with_reducible refine (mr2.out _).mono ?_); rintro e w3 ⟨A3, c3, rfl, hr3, hb3⟩; replace hs2 := below_then hs2 hb3; clear hb3)
  | (go_at_call 10; (with_reducible refine (mr3.out _).mono ?_); rintro e w5 ⟨A5, c5, rfl, -, hb3⟩; replace hs2 := below_then hs2 hb3; clear hb3)
  | (go_at_call 11; (with_reducible refine (ints13 _ _ _ hr3).mono ?_); rintro e w4 ⟨rfl, hb3⟩; replace hs2 := below_then hs2 hb3; clear hb3 hr3)
  | (go_at_call 11; (with_reducible refine (ints6 _ _ _ hr3).mono ?_); rintro e w4 ⟨rfl, hb3⟩; replace hs2 := below_then hs2 hb3; clear hb3 hr3))
 clear mr1 mr2 mr3
 replace k1 := k1.below hs2 k1.lt
 replace hCli := hCli.below hs2
 replace hbw := below_then hbw hs2
 replace hB2 := below_then hB2 hs2
 clear hs2
 -- six headers
 obtain ⟨cz, hcz, hmk⟩ : ∃ cz : Array Value, cz = sixC 0 ∧ ∀ W : World, (Instr.makeSlice 31 (.int .i64 6) (.int .i64 6)).run Tryz.prog W = .ok (.slice (some ⟨W.heap.size, 0, none⟩) 6 6) (W.alloc (.cells cz 46)) := ⟨_, rfl, made_six⟩
 go_upto_region 7 with fail
 refine name1p ?_
 intro w6 kz hbz
 subst hcz
 clear hmk
 obtain ⟨g, hg⟩ : ∃ g, g = w5.heap.size := ⟨_, rfl⟩
 rw [← hg] at kz ⊢
 have hgl : w5.heap.size ≤ g := by omega
 clear hg
 go_wp2_with fail
 go_loopw [5] (fun s5 wr => ∃ i : Nat, i ≤ 6 ∧ s5 = .int .i64 (i : Int) ∧ Blk wr g 46 (sixC i) ∧ Below w5.heap.size w5 wr) (fun s5 _ => 6 - (intOf s5).toNat)
 case atStart => exact ⟨0, by omega, rfl, kz, hbz⟩
 case round =>
  clear kz hbz
  obtain ⟨i, hi, rfl, kz, hbz⟩ := hrel
  by_cases hlt : i < 6
  ·have hlt' : (i : Int) < 6 := by omega
   obtain ⟨v0, hv0⟩ := six_cell hlt
   have c0 : wr.cell? ⟨g, i * 5, none⟩ = some v0 := (kz.cell _).trans hv0
   have f0 := kz.frozen (i * 5)
   clear hv0
   go_wp2_with fail
   go_roundw
   case rel => exact ⟨i + 1, by omega, by go_num, by rw [← six_set hlt]; exact kz.set_ (i * 5) _, below_set hbz hgl _⟩
   case measure => simp [intOf]; omega
  ·obtain rfl : i = 6 := by omega
   replace k1 := k1.below hbz k1.lt
   replace hCli := hCli.below hbz
   replace hbw := below_then hbw hbz
   replace hB2 := below_then hB2 hbz
   clear hbz hgl
   have m3 := Lib.hid (six_links g wr (HT.out.below hB2) kz)
   rw [six_lit] at kz
   go_upto_region 12 with (go_at_call 14; (with_reducible refine m3.out.mono ?_); rintro e w7 ⟨bl, ol, cL, rfl, hLS, hb7⟩)
   replace k1 := k1.below hb7 k1.lt
   replace kz := kz.below hb7 kz.lt
   replace hCli := hCli.below hb7
   replace hbw := below_then hbw hb7
   replace hB2 := below_then hB2 hb7
   clear hb7 m3
   have e4 := eq_yS 4
   have e3 := eq_yS 3
   have e1 := eq_yS 1
   obtain ⟨L1, L2, L3⟩ := hLS
   have kzd : Blk w7.drew g 46 _ := kz
   have L1d : w7.drew.rangeAt bl ol (u8l (yS 4)) := L1
   have L2d : w7.drew.rangeAt bl (ol + 32) (u8l (yS 3)) := L2
   have L3d : w7.drew.rangeAt bl (ol + 64) (u8l (yS 1)) := L3
   have k1d : Blk w7.drew p1 33 _ := k1
   have hbd := Below.refl w7.drew.heap.size w7.drew
   have hbW : Below w7.heap.size w7 w7.drew := (Below.refl _ _).drew
   clear k1 kz L1 L2 L3
   refine region_here (fun Z : World => Z.cell? ⟨g, 20, none⟩ = some (.int .i64 4) ∧ Z.cell? ⟨g, 21, none⟩ = some (.slice none 0 0) ∧ Z.cell? ⟨g, 22, none⟩ = some (.slice none 0 0) ∧ Z.cell? ⟨g, 23, none⟩ = some (.slice none 0 0) ∧ Z.cell? ⟨g, 24, none⟩ = some (.slice none 0 0) ∧ Z.cell? ⟨g, 15, none⟩ = some (.int .i64 3) ∧ Z.cell? ⟨g, 16, none⟩ = some (.slice none 0 0) ∧ Z.cell? ⟨g, 17, none⟩ = some (.slice none 0 0) ∧ Z.cell? ⟨g, 18, none⟩ = some (.slice none 0 0) ∧ Z.cell? ⟨g, 19, none⟩ = some (.slice none 0 0) ∧ Z.cell? ⟨g, 5, none⟩ = some (.int .i64 1) ∧ Z.cell? ⟨g, 6, none⟩ = some (.slice none 0 0) ∧ Z.cell? ⟨g, 7, none⟩ = some (.slice none 0 0) ∧ Z.cell? ⟨g, 8, none⟩ = some (.slice none 0 0) ∧ Z.cell? ⟨g, 9, none⟩ = some (.slice none 0 0) ∧ Z.rangeAt bl ol (u8l (yS 4)) ∧ Z.rangeAt bl (ol + 32) (u8l (yS 3)) ∧ Z.rangeAt bl (ol + 64) (u8l (yS 1))) 31 (by kernel_rfl) ⟨kzd.cell 20, kzd.cell 21, kzd.cell 22, kzd.cell 23, kzd.cell 24, kzd.cell 15, kzd.cell 16, kzd.cell 17, kzd.cell 18, kzd.cell 19, kzd.cell 5, kzd.cell 6, kzd.cell 7, kzd.cell 8, kzd.cell 9, L1d, L2d, L3d⟩ (fun hHeld => ?_)
   obtain ⟨V, hV⟩ : ∃ V, V = w7.drew := ⟨_, rfl⟩
   rw [← hV] at hHeld kzd L1d L2d L3d k1d hbd hbW ⊢
   clear hV kzd L1d L2d L3d
   refine tkT 0 rfl ?_
   refine tkT 1 rfl ?_
   refine tkT 2 rfl ?_
   refine tkT 3 rfl ?_
   refine tkT 4 rfl ?_
   refine tkT 5 rfl ?_
   refine tkV 6 (.agg (u8a (yS 4))) rfl (yieldsIf_load_mid (by rfl) 38 (.tmp 51) rfl bl ol rfl (u8l (yS 4)) _ (fun Z hZ => hZ.2.2.2.2.2.2.2.2.2.2.2.2.2.2.2.1) Tryz.underlying38 rfl (by rw [u8l_len, yS_len]; exact hash_size)) ?_
   refine tkT 7 rfl ?_
   refine tkT 8 rfl ?_
   refine tkT 9 rfl ?_
   refine tkO 10 rfl fun K hK => ?_
   go_simp
   go_at_call 41
   refine (six_hash 4 (by omega) _ rfl _).mono ?_
   rintro e wa10 ⟨rfl, hba⟩
   (try go_wp2_with fail)
   replace hbd := below_then hbd hba
   refine hK.out _ _ ?_ (fun hHeld10 => ?_)
   ·exact ⟨cell_b hba (hHeld.1), cell_b hba (hHeld.2.1), cell_b hba (hHeld.2.2.1), cell_b hba (hHeld.2.2.2.1), cell_b hba (hHeld.2.2.2.2.1), cell_b hba (hHeld.2.2.2.2.2.1), cell_b hba (hHeld.2.2.2.2.2.2.1), cell_b hba (hHeld.2.2.2.2.2.2.2.1), cell_b hba (hHeld.2.2.2.2.2.2.2.2.1), cell_b hba (hHeld.2.2.2.2.2.2.2.2.2.1), cell_b hba (hHeld.2.2.2.2.2.2.2.2.2.2.1), cell_b hba (hHeld.2.2.2.2.2.2.2.2.2.2.2.1), cell_b hba (hHeld.2.2.2.2.2.2.2.2.2.2.2.2.1), cell_b hba (hHeld.2.2.2.2.2.2.2.2.2.2.2.2.2.1), cell_b hba (hHeld.2.2.2.2.2.2.2.2.2.2.2.2.2.2.1), range_b hba (hHeld.2.2.2.2.2.2.2.2.2.2.2.2.2.2.2.1), range_b hba (hHeld.2.2.2.2.2.2.2.2.2.2.2.2.2.2.2.2.1), range_b hba (hHeld.2.2.2.2.2.2.2.2.2.2.2.2.2.2.2.2.2)⟩
   clear hK K
   try simp only [Act.put, pq1, pq2, pq3]
   refine tkT 11 rfl ?_
   refine tkT 12 rfl ?_
   refine tkT 13 rfl ?_
   refine tkT 14 rfl ?_
   refine tkT 15 rfl ?_
   refine tkV 16 (.agg (u8a (yS 3))) rfl (yieldsIf_load_mid (by rfl) 38 (.tmp 61) rfl bl (ol + 32) rfl (u8l (yS 3)) _ (fun Z hZ => hZ.2.2.2.2.2.2.2.2.2.2.2.2.2.2.2.2.1) Tryz.underlying38 rfl (by rw [u8l_len, yS_len]; exact hash_size)) ?_
   refine tkT 17 rfl ?_
   refine tkT 18 rfl ?_
   refine tkT 19 rfl ?_
   refine tkO 20 rfl fun K hK => ?_
   go_simp
   go_at_call 41
   refine (six_hash 3 (by omega) _ rfl _).mono ?_
   rintro e wa20 ⟨rfl, hba⟩
   (try go_wp2_with fail)
   replace hbd := below_then hbd hba
   refine hK.out _ _ ?_ (fun hHeld20 => ?_)
   ·exact ⟨cell_b hba (hHeld10.1), cell_b hba (hHeld10.2.1), cell_b hba (hHeld10.2.2.1), cell_b hba (hHeld10.2.2.2.1), cell_b hba (hHeld10.2.2.2.2.1), cell_b hba (hHeld10.2.2.2.2.2.1), cell_b hba (hHeld10.2.2.2.2.2.2.1), cell_b hba (hHeld10.2.2.2.2.2.2.2.1), cell_b hba (hHeld10.2.2.2.2.2.2.2.2.1), cell_b hba (hHeld10.2.2.2.2.2.2.2.2.2.1), cell_b hba (hHeld10.2.2.2.2.2.2.2.2.2.2.1), cell_b hba (hHeld10.2.2.2.2.2.2.2.2.2.2.2.1), cell_b hba (hHeld10.2.2.2.2.2.2.2.2.2.2.2.2.1), cell_b hba (hHeld10.2.2.2.2.2.2.2.2.2.2.2.2.2.1), cell_b hba (hHeld10.2.2.2.2.2.2.2.2.2.2.2.2.2.2.1), range_b hba (hHeld10.2.2.2.2.2.2.2.2.2.2.2.2.2.2.2.1), range_b hba (hHeld10.2.2.2.2.2.2.2.2.2.2.2.2.2.2.2.2.1), range_b hba (hHeld10.2.2.2.2.2.2.2.2.2.2.2.2.2.2.2.2.2)⟩
   clear hK K
   try simp only [Act.put, pq1, pq2, pq3]
   refine tkT 21 rfl ?_
   refine tkT 22 rfl ?_
   refine tkT 23 rfl ?_
   refine tkT 24 rfl ?_
   refine tkT 25 rfl ?_
   refine tkV 26 (.agg (u8a (yS 1))) rfl (yieldsIf_load_mid (by rfl) 38 (.tmp 71) rfl bl (ol + 64) rfl (u8l (yS 1)) _ (fun Z hZ => hZ.2.2.2.2.2.2.2.2.2.2.2.2.2.2.2.2.2) Tryz.underlying38 rfl (by rw [u8l_len, yS_len]; exact hash_size)) ?_
   refine tkT 27 rfl ?_
   refine tkT 28 rfl ?_
   refine tkT 29 rfl ?_
   refine tkO 30 rfl fun K hK => ?_
   go_simp
   go_at_call 41
   refine (six_hash 1 (by omega) _ rfl _).mono ?_
   rintro e wa30 ⟨rfl, hba⟩
   (try go_wp2_with fail)
   replace hbd := below_then hbd hba
   refine hK.out _ _ ?_ (fun hHeld30 => ?_)
   ·exact ⟨cell_b hba (hHeld20.1), cell_b hba (hHeld20.2.1), cell_b hba (hHeld20.2.2.1), cell_b hba (hHeld20.2.2.2.1), cell_b hba (hHeld20.2.2.2.2.1), cell_b hba (hHeld20.2.2.2.2.2.1), cell_b hba (hHeld20.2.2.2.2.2.2.1), cell_b hba (hHeld20.2.2.2.2.2.2.2.1), cell_b hba (hHeld20.2.2.2.2.2.2.2.2.1), cell_b hba (hHeld20.2.2.2.2.2.2.2.2.2.1), cell_b hba (hHeld20.2.2.2.2.2.2.2.2.2.2.1), cell_b hba (hHeld20.2.2.2.2.2.2.2.2.2.2.2.1), cell_b hba (hHeld20.2.2.2.2.2.2.2.2.2.2.2.2.1), cell_b hba (hHeld20.2.2.2.2.2.2.2.2.2.2.2.2.2.1), cell_b hba (hHeld20.2.2.2.2.2.2.2.2.2.2.2.2.2.2.1), range_b hba (hHeld20.2.2.2.2.2.2.2.2.2.2.2.2.2.2.2.1), range_b hba (hHeld20.2.2.2.2.2.2.2.2.2.2.2.2.2.2.2.2.1), range_b hba (hHeld20.2.2.2.2.2.2.2.2.2.2.2.2.2.2.2.2.2)⟩
   clear hK K
   try simp only [Act.put, pq1, pq2, pq3]
   refine tkK 31 rfl fun K hK => ?_
   go_simp
   refine hK.out _ _ ?_
   clear hK K
   try simp only [Act.put, pq1, pq2, pq3]
   refine tkB 32 rfl ?_
   refine tkB 33 rfl ?_
   refine wpAny_done (by kernel_rfl) ?_ _
   have hb9 := below_then hbW hbd
   replace hCli := hCli.below hb9
   replace hbw := below_then hbw hb9
   replace hB2 := below_then hB2 hb9
   replace k1d := k1d.below hbd k1d.lt
   clear hb9 hbW hbd hHeld30 e4 e3 e1 hHeld
   obtain ⟨-, ho1, -, -, -, -, -, d0, d1, d2, d3, d4⟩ := HH.out _ hbw
   have y1 : wa30.cell? ⟨p1, 1, none⟩ = some (.slice (some ⟨b, o, none⟩) 2 cH) := k1d.cell 1
   have m5 := Lib.hid (chain_few HC.out.2.1 HSM.out.2.2 HC.out.2.2.2.1 HC.out.2.2.2.2 (by omega) _ p t0 x1 none 0 0 [] (few_nil HC.out.2.1 HSM.out.2.2 HC.out.2.2.2.1 _) (by omega) (fun v hv => by cases hv) _ (HT.out.below hB2) ho1.in_ (row_none _) hCli)
   clear ho1
   go_upto_region 14 with (go_at_call 17; (with_reducible refine m5.out.mono ?_); rintro e w13 ⟨rfl, hc13, hgr⟩)
   replace k1d := k1d.grown hgr (fun e => by have := Option.some.inj e; omega)
   replace hbw := below_grown hbw hgr hp0 hbw.size
   replace hB2 := below_grown hB2 hgr (Nat.le_trans hw10 hp0) hB2.size
   clear hgr m5 d0 d1 d2 d3 d4 y1 hCli
   obtain ⟨vs, hmany, hIv, hVo⟩ := chain_all HC.out.2.1 HSM.out.2.2 HC.out.2.2.2.1 (strB (hdrL t1)) (by rw [strB_size]; have := hdrL_len HSM.out.2.1; omega) 255 (by omega) (fun j hj => by rcases (show j = 0 ∨ j = 1 ∨ j = 2 ∨ j = 3 by omega) with rfl | rfl | rfl | rfl <;> rfl)
   have k1e : Blk w13.drew p1 33 _ := k1d
   have hbw2 := hbw.drew
   have hB3 := hB2.drew
   have hc14 : Cli W1.heap.size p w13.drew t0 t0 := hc13.below (Below.refl _ _).drew
   clear k1d hbw hB2 hc13
   refine region_here (fun Z : World => Z.cell? ⟨p1, 0, none⟩ = some (.slice AG 2 cG) ∧ Z.cell? ⟨p1, 1, none⟩ = some (.slice (some ⟨b, o, none⟩) 2 cH) ∧ Z.cell? ⟨b, o + 5, none⟩ = some (.int .i64 x1.e) ∧ Z.cell? ⟨b, o + 6, none⟩ = some (x1.m) ∧ Z.cell? ⟨b, o + 7, none⟩ = some (x1.c) ∧ Z.cell? ⟨b, o + 8, none⟩ = some (x1.p) ∧ Z.cell? ⟨b, o + 9, none⟩ = some (x1.l)) 12 (by kernel_rfl) ⟨k1e.cell 0, k1e.cell 1, (HH.out _ hbw2).2.2.2.2.2.2.2⟩ (fun hHeld => ?_)
   generalize w13.drew = V at *
   have HS : Hid (∀ W, Below V.heap.size V W → W.cell? ⟨p1, 0, none⟩ = some (.slice AG 2 cG) ∧ W.cell? ⟨p1, 1, none⟩ = some (.slice (some ⟨b, o, none⟩) 2 cH) ∧ W.cell? ⟨b, o + 5, none⟩ = some (.int .i64 x1.e) ∧ W.cell? ⟨b, o + 6, none⟩ = some (x1.m) ∧ W.cell? ⟨b, o + 7, none⟩ = some (x1.c) ∧ W.cell? ⟨b, o + 8, none⟩ = some (x1.p) ∧ W.cell? ⟨b, o + 9, none⟩ = some (x1.l)) := Lib.hid (fun W h => ⟨(k1e.below h k1e.lt).cell 0, (k1e.below h k1e.lt).cell 1, (HH.out W (below_then hbw2 h)).2.2.2.2.2.2.2⟩)
   have HI1 := Lib.hid (fun W (h : Below V.heap.size V W) => And.intro (HT.out.below (below_then hB3 h)) (HH.out W (below_then hbw2 h)).2.1.in_)
   have HTX := Lib.hid (fun W h => rHeaderText_q x1 t1 HSM.out.2.1 W (HI1.out W h).2)
   have HVO := Lib.hid (fun W (h : Below V.heap.size V W) => hVo _ W gs _ AG 2 cG (.slice (some ⟨b, o, none⟩) 2 cH) (HC.out.1.below (below_then hbw2 h)) (HC.out.2.2.1.below (below_then hbw2 h)))
   have HFO := Lib.hid (fun A n c W (h : Below V.heap.size V W) (hn : n ≤ 4) hv hc => chain_many HC.out.2.1 HSM.out.2.2 HC.out.2.2.2.1 HC.out.2.2.2.2 (by omega) W1.heap.size p t0 x1 A n c vs hmany (by omega) hIv W (HI1.out W h).1 (HI1.out W h).2 hv hc)
   unfold hdrA at HTX
   clear hmany hIv hVo
   have hbd := Below.refl V.heap.size V
   refine tkT 0 rfl ?_
   refine tkT 1 rfl ?_
   refine tkT 2 rfl ?_
   refine tkT 3 rfl ?_
   refine tkT 4 rfl ?_
   refine tkT 5 rfl ?_
   refine tkT 6 rfl ?_
   refine tkT 7 rfl ?_
   refine tkT 8 rfl ?_
   refine tkT 9 rfl ?_
   refine tkO 10 rfl fun K hK => ?_
   go_simp
   go_at_call 40
   refine (HTX.out _ hbd).mono ?_
   rintro e wa12 ⟨rfl, hba⟩
   (try go_wp2_with fail)
   replace hc14 := hc14.below hba
   replace hbd := below_then hbd hba
   refine hK.out _ _ ?_ (fun hHeld10 => ?_)
   ·exact HS.out _ hbd
   clear hK K
   try simp only [Act.put, pq1, pq2, pq3]
   refine tkO 11 rfl fun K hK => ?_
   go_simp
   go_at_call 18
   refine (HVO.out _ hbd).mono ?_
   rintro e wa12 ⟨A7, n7, c7, rfl, hn7, hv7, hba⟩
   (try go_wp2_with fail)
   replace hc14 := hc14.below hba
   replace hbd := below_then hbd hba
   refine hK.out _ _ ?_ (fun hHeld11 => ?_)
   ·exact HS.out _ hbd
   clear hK K
   try simp only [Act.put, pq1, pq2, pq3]
   refine tkK 12 rfl fun K hK => ?_
   go_simp
   go_at_call 17
   refine (HFO.out _ _ _ _ hbd hn7 hv7 hc14).mono ?_
   rintro e wa12 ⟨rfl, hc15, hgr⟩
   (try go_wp2_with fail)
   clear hc14
   refine hK.out _ _ ?_
   clear hK K
   try simp only [Act.put, pq1, pq2, pq3]
   refine tkB 13 rfl ?_
   refine wpAny_done (by kernel_rfl) ?_ _
   replace k1e := k1e.below hbd k1e.lt
   replace hbw2 := below_then hbw2 hbd
   replace hB3 := below_then hB3 hbd
   replace k1e := k1e.grown hgr (fun e => by have := Option.some.inj e; omega)
   replace hbw2 := below_grown hbw2 hgr hp0 hbw2.size
   replace hB3 := below_grown hB3 hgr (Nat.le_trans hw10 hp0) hB3.size
   clear hgr hbd HS HI1 HTX HVO HFO hv7 hn7
   obtain ⟨he0, he1⟩ := chain_epochs HC.out.2.1 HSM.out.2.2 HC.out.2.2.2.1 HC.out.2.2.2.2
   have hne : hdrL t1 ≠ hdrL t0 := fun e => by have := hdr_epoch e; omega
   have HE1 := fun W h => Epoch_q W1.heap.size p t1 t1 W h
   have HE0 := fun W h => Epoch_q W1.heap.size p t1 t0 W h
   have HZ := fun W hT h => Size_q W1.heap.size p t1 t0 HSM.out.2.1 HSM.out.1 W hT h
   rw [he1] at HE1
   rw [he0] at HE0
   rw [if_neg hne] at HZ
   have H1 := Lib.hid HE1
   have H0 := Lib.hid HE0
   have H2 := Lib.hid HZ
   clear HE1 HE0 HZ hne he0 he1
   obtain ⟨ho0, -, c0, c1, c2, c3, c4, -⟩ := HH.out _ hbw2
   have y1 : wa12.cell? ⟨p1, 1, none⟩ = some (.slice (some ⟨b, o, none⟩) 2 cH) := k1e.cell 1
   have m6 := Lib.hid (chain_back HC.out.2.1 HSM.out.2.2 HC.out.2.2.2.1 HC.out.2.2.2.2 (i := 0) rfl W1.heap.size p t1 x0 _ (HT.out.below hB3) ho0.in_ hc15)
   clear ho0
   go_wp2_with (first
    | (go_at_call 20; (with_reducible refine (H1.out _ hc15).mono ?_); rintro e w20 ⟨rfl, hww⟩; subst hww)
    | (go_at_call 22; (with_reducible refine m6.out.mono ?_); rintro e w21 ⟨rfl, hc21, hgr⟩; replace hB3 := below_grown hB3 hgr (Nat.le_trans hw10 hp0) hB3.size)
    | (go_at_call 20; (with_reducible refine (H0.out _ hc21).mono ?_); rintro e w22 ⟨rfl, hww⟩; subst hww)
    | (go_at_call 21; (with_reducible refine (H2.out _ (HT.out.below hB3) hc21).mono ?_); rintro e w23 ⟨rfl, hb23⟩; replace hB3 := below_then hB3 hb23))
   go_ret
   exact ⟨rfl, hB3⟩

end Go.Proofs.YtkpinmejfdnhbaaGreatDoor
