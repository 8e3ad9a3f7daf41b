/- Joined by a program: LiY, LiZ, LjA. -/
import Derived.Test.YtkpinmejfdnhbaaGreatDoorLwG
set_option maxRecDepth 100000
set_option maxHeartbeats 4000000
namespace Go.Proofs.YtkpinmejfdnhbaaGreatDoor
open Go.RowKit
attribute [local go_sem] Oper.semAt_some
theorem sumLen_points : ∀ (ms : List Mem) (n : Nat), (∀ m ∈ ms, 0 ≤ m.wt) → (sumLen (pointsL n ms) : Int) = totW ms
 | [], _, _ => rfl
 | m :: ms, n, h => by
   have ih := sumLen_points ms (n + m.wt.toNat) fun x hx => h x (List.mem_cons_of_mem _ hx);have hm := h m (List.mem_cons_self ..);show ((sumLen (runZ n m.wt.toNat :: pointsL (n + m.wt.toNat) ms) : Nat) : Int) = _;simp only [sumLen, List.map_cons, List.sum_cons, runZ_len, totW] at ih ⊢
   omega
theorem points_mem : ∀ (ms : List Mem) (n : Nat), (∀ m ∈ ms, 1 ≤ m.wt ∧ m.wt ≤ 20) → n + 20 * ms.length ≤ 1000000 → ∀ l ∈ pointsL n ms, l.length ≤ 20 ∧ ∀ x ∈ l, 0 ≤ x ∧ x ≤ 1000000
 | [], _, _, _, l, hl => by simp [pointsL] at hl
 | m :: ms, n, h, hb, l, hl => by
   have hm := h m (List.mem_cons_self ..);rw [List.length_cons] at hb
   rcases List.mem_cons.1 (show l ∈ runZ n m.wt.toNat :: pointsL (n + m.wt.toNat) ms from hl) with rfl | h1
   ·refine ⟨by rw [runZ_len]; omega, fun x hx => ?_⟩;obtain ⟨i, hi, rfl⟩ := List.mem_map.1 hx;have := List.mem_range.1 hi
    omega
   ·exact points_mem ms _ (fun x hx => h x (List.mem_cons_of_mem _ hx)) (by omega) l h1
structure OldOK (T : Nat) (ms : List Mem) (cf : List Nat) : Prop where
 right : RightM ms
 tot : totW ms = (T : Int)
 len : cf.length = needN T
 lt : ∀ c ∈ cf, c < qG
theorem OldOK.keys {T : Nat} {ms : List Mem} {cf : List Nat} (h : OldOK T ms cf) : keysB (intsN (cf.map gP)) (pointsL 1 ms) = true := by
 have h1 : ∀ m ∈ ms, 1 ≤ m.wt := fun m hm => (h.right.wt m hm).1;obtain ⟨-, h2, h3⟩ := totR_right h.right;rw [h.tot] at h2 h3;have hn := nextP_tot (n := 1) (fun m hm => by have := h1 m hm; omega : ∀ m ∈ ms, 0 ≤ m.wt);rw [h.tot] at hn;have hc := consec_points (n := 1) h1;rw [show nextP 1 ms = T + 1 by omega] at hc;rw [keys_some hc, decide_eq_true (by omega), decide_eq_true (by omega), decide_eq_true (by rw [intsN_len, List.length_map, h.len]), List.all_eq_true.2 ?_]
 ·rfl
 ·intro x hx;obtain ⟨y, hy, rfl⟩ := List.mem_map.1 hx;obtain ⟨c, hc, rfl⟩ := List.mem_map.1 hy;exact mem_g c (Nat.lt_trans (h.lt c hc) qG_64)
structure FromOK (T : Nat) (ps : List Nat) (cf : List Nat) (P : List (List Nat)) : Prop where
 nodup : ps.Nodup
 lo : ∀ p ∈ ps, 1 ≤ p ∧ p ≤ T
 len : ps.length = cf.length
 plen : P.length = ps.length
 val : ∀ (i : Nat) (x : Nat) (p : List Nat), ps[i]? = some x → P[i]? = some p → p[0]? = some (valN x cf)
theorem Again_q (A0 Ap A1 A2 A3 : Option Addr) (N0 c0 m0 cp n1 c1 c2 c3 : Nat) (ms0 ms : List Mem) (cf ps : List Nat) (vs : List Value) (ds : List Dl) (P : List (List Nat)) (T0 T B : Nat) (hO : OldOK T0 ms0 cf) (hM : RightM ms) (hI : I64M ms) (hT : totW ms = (T : Int)) (hF : FromOK T0 ps cf P) (hP : PolyOK P (needN T))
 (w : World) (h0 : RowN w A0 N0 c0 (cf.map gP)) (hv : RowV w Ap m0 cp vs) (hvs : RowsI w vs (pointsL 1 ms0)) (h1 : RowM w A1 n1 c1 ms) (h2 : RowN w A2 N0 c2 ps) (h3 : RowD w A3 N0 c3 ds) (hD : DealsOK B w ds P T) :
 Calls Tryz.prog 103 #[.agg #[.slice A0 N0 c0, .slice Ap m0 cp], .slice A1 n1 c1, .slice A2 N0 c2, .slice A3 N0 c3] w (KeysPost (mixL (ps.map (facN ps)) P (needN T)) ms w) := by
 obtain ⟨e1, e2, e3⟩ := totR_right hM;rw [hT] at e1 e2 e3;obtain ⟨-, e4, e5⟩ := totR_right hO.right;rw [hO.tot] at e4 e5;have hn1 : n1 ≤ 13 := by have := hM.hi; have := h1.len; omega
 have hm0 : m0 ≤ 13 := by have := hO.right.hi; have h4 := hvs.len; rw [pointsL_len] at h4; have := hv.len; omega
 have hN0 : N0 = needN T0 := by have := rowN_len h0; rw [List.length_map, hO.len] at this; omega
 have hN1 : 1 ≤ N0 ∧ N0 ≤ 60 := by rw [hN0]; unfold needN; split <;> omega
 have hpm := points_mem ms0 1 (fun m hm => hO.right.wt m hm) (by have := hO.right.hi; omega);have hll : ∀ l ∈ pointsL 1 ms0, l.length ≤ 1000 := fun l hl => by have := (hpm l hl).1; omega
 have hil : ∀ l ∈ pointsL 1 ms0, ∀ x ∈ l, I64 x := fun l hl x hx => by have := (hpm l hl).2 x hx; exact ⟨by omega, by omega⟩
 have hic : ∀ x ∈ intsN (cf.map gP), I64 x := fun x hx => by
  obtain ⟨y, hy, rfl⟩ := List.mem_map.1 hx;obtain ⟨c, hc, rfl⟩ := List.mem_map.1 hy;exact memB_I64 (mem_g c (Nat.lt_trans (hO.lt c hc) qG_64))
 clear hpm;have q1 := Lib.hid (fun W h => rtotal_q A1 n1 c1 ms (by omega) hI W h);rw [e1] at q1;have q2 := Lib.hid (fun W x y z => rRight_q A0 Ap N0 c0 m0 cp (intsN (cf.map gP)) vs (pointsL 1 ms0) (by omega) (by omega) hll hic hil W x y z);rw [hO.keys] at q2;have q3 := Lib.hid (fun W x y => rfits_q A3 N0 c3 ds P T B hN1.1 (by omega) (by omega) (by omega) hP W x y);have hs0 : sumLen (pointsL 1 ms0) = T0 := by have := sumLen_points ms0 1 (fun m hm => by have := (hO.right.wt m hm).1; omega); rw [hO.tot] at this; omega
 have q4 := Lib.hid (fun W x y => rAll_q A0 Ap N0 c0 m0 cp vs (pointsL 1 ms0) (by omega) hll W x y);rw [hs0] at q4;have q5 := Lib.hid (fun (x : Nat) W h => rAt_q A0 N0 c0 (cf.map gP) x (by omega) W h);have q6 := Lib.hid (fun W h => rFactors_q A2 N0 c2 ps (by omega) (fun y hy => by have := hF.lo y hy; have := qG_lit; omega) hF.nodup W h);have q7 := Lib.hid (rNeed_q T (by omega));have q8 := Lib.hid (fun W h => rPoints_q A1 n1 c1 ms (by omega) hI W h);have q9 := Lib.hid (fun (AF : Option Addr) (cF : Nat) W x y z => rmixed_q A3 AF N0 c3 N0 cF ds P (ps.map (facN ps)) (needN T) T B (by omega) rfl (by unfold needN; split <;> omega) hP (fun f hf => by obtain ⟨x, -, rfl⟩ := List.mem_map.1 hf; exact facN_lt _ _) W x y z);have HOK := Lib.hid (And.intro hO (And.intro hF (And.intro hP (rightM_iff.2 hM))));have HR := Lib.hid (And.intro h0 (And.intro hv (And.intro hvs (And.intro h1 (And.intro h2 (And.intro h3 hD))))));have hT0 : ((T : Int) == 0) = false := by rw [beq_eq_false_iff_ne]; omega
 have hTne : ¬ (T : Int) = 0 := by omega
 obtain ⟨ND, hND⟩ : ∃ n, n = needN T := ⟨_, rfl⟩;rw [← hND] at q7 q9 ⊢;clear hO hM hI hT hF hP h0 hv hvs h1 h2 h3 hD e1 hN0 hll hil hic hs0 hND;go_enter Tryz.func103, Tryz.ntmps103;go_upto_region 1 with fail;refine name2p ?_;intro W0 k4 k8 hB;obtain ⟨p4, hp4⟩ : ∃ g, g = w.heap.size := ⟨_, rfl⟩;rw [← hp4] at k4 k8 ⊢;have h4B : w.heap.size ≤ p4 := by omega
 clear hp4;have d0 : _ = some (Value.slice A0 N0 c0) := k4.cell 0;have d1 : _ = some (Value.slice Ap m0 cp) := k4.cell 1
 go_upto_region 3 with (first
  | (go_at_call 91; (with_reducible refine (q1.out _ (HR.out.2.2.2.1.below hB)).mono ?_); rintro e w1 ⟨rfl, hb⟩; replace k4 := k4.below hb k4.lt; replace k8 := k8.below hb k8.lt; replace hB := below_then hB hb; clear hb d0 d1; have d0 : w1.cell? _ = some (Value.slice A0 N0 c0) := k4.cell 0; have d1 : w1.cell? _ = some (Value.slice Ap m0 cp) := k4.cell 1)
  | (go_at_call 80; (with_reducible refine (q2.out _ (HR.out.1.below hB) (HR.out.2.1.below hB) (HR.out.2.2.1.below hB)).mono ?_); rintro e w2 ⟨rfl, hb⟩; replace k4 := k4.below hb k4.lt; replace k8 := k8.below hb k8.lt; replace hB := below_then hB hb; clear hb d0 d1; have d0 : w2.cell? _ = some (Value.slice A0 N0 c0) := k4.cell 0; have d1 : w2.cell? _ = some (Value.slice Ap m0 cp) := k4.cell 1))
 go_upto_region 5 with (first
  | (go_at_call 158; (with_reducible refine (q3.out _ (HR.out.2.2.2.2.2.1.below hB) (HR.out.2.2.2.2.2.2.below hB)).mono ?_); rintro e w3 ⟨rfl, hb⟩; replace k4 := k4.below hb k4.lt; replace k8 := k8.below hb k8.lt; replace hB := below_then hB hb; clear hb d0 d1))
 clear q1 q2 q3 hT0 hTne;go_wp2_with fail
 go_loopw [12, 13] (fun s12 _ wr => ∃ i : Nat, i ≤ N0 ∧ s12 = .int .i64 (i : Int) ∧ Blk wr p4 44 #[.slice A0 N0 c0, .slice Ap m0 cp] ∧ Blk wr (p4 + 1) 44 #[.slice none 0 0, .slice none 0 0] ∧ Below w.heap.size w wr) (fun s12 _ _ => N0 - (intOf s12).toNat)
 case atStart => exact ⟨0, by omega, rfl, k4, k8, hB⟩
 case round =>
  clear hB k4 k8;obtain ⟨i, hi, rfl, k4, k8, hB⟩ := hrel
  by_cases hlt : i < N0
  ·have hlt' : (i : Int) < (N0 : Int) := by omega
   obtain ⟨b, o, x, rfl, hx, cx⟩ := rowN_at (HR.out.2.2.2.2.1.below hB) hlt;have HX := Lib.hid hx;clear hx cx;go_wp2_with fail
   go_loopw [13] (fun s13 wr => ∃ k : Nat, k ≤ i ∧ s13 = .int .i64 (k : Int) ∧ Blk wr p4 44 #[.slice A0 N0 c0, .slice Ap m0 cp] ∧ Blk wr (p4 + 1) 44 #[.slice none 0 0, .slice none 0 0] ∧ Below w.heap.size w wr) (fun s13 _ => i - (intOf s13).toNat)
   case atStart => exact ⟨0, by omega, rfl, k4, k8, hB⟩
   case round =>
    clear hB k4 k8;obtain ⟨k, hk, rfl, k4, k8, hB⟩ := hrel
    by_cases hltk : k < i
    ·have hltk' : (k : Int) < (i : Int) := by omega
     have hkN : (k : Int) < (N0 : Int) := by omega
     obtain ⟨b', o', y, e', hy, cy⟩ := rowN_at (HR.out.2.2.2.2.1.below hB) (show k < N0 by omega)
     cases e'
     obtain ⟨b', o', x', e', hx', cx⟩ := rowN_at (HR.out.2.2.2.2.1.below hB) hlt
     cases e'
     have hne : y ≠ x' := row_ne HOK.out.2.1.nodup hx' hy (by omega);have hne' : ¬ (y : Int) = (x' : Int) := by omega
     clear hx' hy hne;go_upto_region 11 with fail
     go_quiet (fail)
     have hB2 := below_drewN hB nq;have k42 := k4.below (below_drewN (Below.refl wr.heap.size wr) nq) k4.lt;have k82 := k8.below (below_drewN (Below.refl wr.heap.size wr) nq) k8.lt;clear cx cy k4 k8 hB;generalize wr.drewN nq = wq at hB2 k42 k82 ⊢;go_wp2_with fail;go_roundw
     case rel => exact ⟨k + 1, by omega, by go_num, k42, k82, hB2⟩
     case measure => simp [intOf]; omega
    ·obtain rfl : i = k := by omega
     clear hltk hk;obtain ⟨b', o', x', e', hx', cx⟩ := rowN_at (HR.out.2.2.2.2.1.below hB) hlt
     cases e'
     obtain rfl : x = x' := Option.some.inj (HX.out.symm.trans hx');obtain ⟨b3, o3, dl, rfl, hdl, cd0, -, -⟩ := rowD_at (HR.out.2.2.2.2.2.1.below hB) hlt;have hpl := HOK.out.2.1.plen;have hpsl := rowN_len HR.out.2.2.2.2.1;have hPi : P[i]? = some P[i] := List.getElem?_eq_getElem (by omega);have hok := (HR.out.2.2.2.2.2.2.below hB).one i dl _ hdl hPi;have hp0 := HOK.out.2.1.val i x _ hx' hPi;have hxlo := HOK.out.2.1.lo x (List.mem_of_getElem? hx');obtain ⟨gv, cv, hv1, -, -⟩ := OwnI.at0 hok.com (by rw [intsN_len, List.length_map]; exact (List.getElem?_eq_some_iff.1 hp0).1);have hcom := hok.com;rw [hv1] at hcom cd0;obtain ⟨g, hg⟩ := exq (gP (valN x cf));have cg := OwnI.cell hcom (j := 0) (x := (g : Int)) (by unfold intsN; rw [List.getElem?_map, List.getElem?_map, hp0, hg]; rfl);obtain ⟨NV, hNV, hNV1⟩ : ∃ n, n = (intsN (List.map gP P[i])).length ∧ 1 ≤ n := ⟨_, rfl, by rw [intsN_len, List.length_map]; exact (List.getElem?_eq_some_iff.1 hp0).1⟩;rw [← hNV] at cd0;have hat := q5.out x;rw [at_val x HOK.out.1.lt, ← hg] at hat;have HAT := Lib.hid hat;have n1 : ¬ (x : Int) < 1 := by omega
     have n2 : ¬ (T0 : Int) < (x : Int) := by omega
     have n3 : (0 : Int) < (NV : Int) := by omega
     have n4 : 0 < NV := hNV1;have a0 : wr.drew.cell? ⟨b, o + i, none⟩ = some (.int .i64 (x : Int)) := cx;have a1 : wr.drew.cell? ⟨p4, 0, none⟩ = some (.slice A0 N0 c0) := k4.cell 0;have a2 : wr.drew.cell? ⟨p4, 1, none⟩ = some (.slice Ap m0 cp) := k4.cell 1;have a3 : wr.drew.cell? ⟨b3, o3 + i * 3, none⟩ = some (.slice (some ⟨gv, 0, none⟩) NV cv) := cd0;have a4 : wr.drew.cell? ⟨gv, 0, none⟩ = some (.int .i64 (g : Int)) := cg;have hcur := hB.drew;have k4d : Blk wr.drew p4 44 #[.slice A0 N0 c0, .slice Ap m0 cp] := k4;have k8d : Blk wr.drew (p4 + 1) 44 #[.slice none 0 0, .slice none 0 0] := k8;clear hx' cx cd0 cg hcom hok hp0 hPi hdl hpl hpsl hat hg hv1 hNV hxlo hB k4 k8;go_upto_region 13 with fail;refine region_here (fun Z => Z.cell? ⟨b, o + i, none⟩ = some (.int .i64 (x : Int)) ∧ Z.cell? ⟨p4, 0, none⟩ = some (.slice A0 N0 c0) ∧ Z.cell? ⟨p4, 1, none⟩ = some (.slice Ap m0 cp) ∧ Z.cell? ⟨b3, o3 + i * 3, none⟩ = some (.slice (some ⟨gv, 0, none⟩) NV cv) ∧ Z.cell? ⟨gv, 0, none⟩ = some (.int .i64 (g : Int))) 30 (by kernel_rfl) ⟨a0, a1, a2, a3, a4⟩ (fun hHeld => ?_);refine tkT 0 rfl ?_;refine tkT 1 rfl ?_;refine tkT 2 rfl ?_;refine tkT 3 rfl ?_;refine tkT 4 rfl ?_;refine tkT 5 rfl ?_;refine tkT 6 rfl ?_;refine tkT 7 rfl ?_;refine tkT 8 rfl ?_;refine tkT 9 rfl ?_;refine tkT 10 rfl ?_;refine tkO 11 rfl fun K hK => ?_;go_simp;go_at_call 165;refine (q4.out _ (HR.out.2.1.below hcur) (HR.out.2.2.1.below hcur)).mono ?_;rintro e wa ⟨rfl, hba⟩
     (try go_wp2_with fail)
     have hca := below_then hcur hba;have n5 : ¬ (T0 : Int) < (x : Int) := by omega
     refine hK.out _ _ ?_ (fun hHeld11 => ?_)
     ·exact ⟨cell_b hba hHeld.1, cell_b hba hHeld.2.1, cell_b hba hHeld.2.2.1, cell_b hba hHeld.2.2.2.1, cell_b hba hHeld.2.2.2.2⟩
     clear hK K
     try simp only [Act.put, pq1, pq2, pq3]
     refine tkT 12 rfl ?_;refine tkT 13 rfl ?_;refine tkT 14 rfl ?_;refine tkT 15 rfl ?_;refine tkT 16 rfl ?_;refine tkT 17 rfl ?_;refine tkT 18 rfl ?_;refine tkT 19 rfl ?_;refine tkT 20 rfl ?_;refine tkT 21 rfl ?_;refine tkT 22 rfl ?_;refine tkT 23 rfl ?_;refine tkT 24 rfl ?_;refine tkT 25 rfl ?_;refine tkT 26 rfl ?_;refine tkT 27 rfl ?_;refine tkO 28 rfl fun K hK => ?_;go_simp;go_at_call 166;refine (HAT.out _ (HR.out.1.below hca)).mono ?_;rintro e wb ⟨rfl, hww⟩
     (try go_wp2_with fail)
     obtain rfl := hww.symm;refine hK.out _ _ ?_ (fun hHeld28 => ?_)
     ·exact hHeld11
     clear hK K
     try simp only [Act.put, pq1, pq2, pq3]
     refine tkT 29 rfl ?_;refine tkK 30 rfl fun K hK => ?_;go_simp;refine hK.out _ _ ?_;clear hK K
     try simp only [Act.put, pq1, pq2, pq3]
     refine tkD ?_;go_wp2_with fail;go_roundw
     case rel => exact ⟨i + 1, by omega, by go_num, k4d.below hba k4d.lt, k8d.below hba k8d.lt, hca⟩
     case measure => simp [intOf]; omega
  ·obtain rfl : N0 = i := by omega
   go_wp2_with (first
    | (go_at_call 79; (with_reducible refine (q8.out _ (HR.out.2.2.2.1.below hB)).mono ?_); rintro e w5 ⟨vp, vs2, rfl, hov, hL, hb⟩; rw [HOK.out.2.2.2] at hL ⊢; replace hov := hov.le hB.size; replace hL := hL.le hB.size; replace k8 := k8.below hb k8.lt; replace hB := below_then hB hb; clear hb; obtain ⟨Av, cv, rfl, -⟩ := OwnL.row hov encV_len)
    | (go_at_call 98; (with_reducible refine (q6.out _ (HR.out.2.2.2.2.1.below hB)).mono ?_); rintro e w6 ⟨vf, rfl, hof, hb⟩; obtain ⟨Af, cF, hvf, -⟩ := OwnL.row hof encI_len; rw [intsN_len, List.length_map, rowN_len HR.out.2.2.2.2.1] at hvf; subst hvf; replace hov := hov.below hb; replace hL := hL.below hb; replace k8 := k8.below hb k8.lt; replace hB := below_then hB hb; clear hb)
    | (go_at_call 90; (with_reducible refine (q7.out _).mono ?_); rintro e w7 ⟨rfl, hww⟩; obtain rfl := hww.symm)
    | (go_at_call 159; (refine (q9.out _ _ _ (HR.out.2.2.2.2.2.1.below hB) (HR.out.2.2.2.2.2.2.below hB) (rowN_own hof)).mono ?_); rintro e w8 ⟨vc, rfl, hoc, hb⟩; replace hoc := hoc.le hB.size; replace hov := hov.below hb; replace hL := hL.below hb; replace k8 := k8.below hb k8.lt; replace hB := below_then hB hb; clear hb; obtain ⟨Ac, cc, rfl, -⟩ := OwnL.row hoc encI_len; have x0 : _ = some (Value.slice none 0 0) := k8.cell 0; have x1 : _ = some (Value.slice none 0 0) := k8.cell 1; have f0 := k8.frozen 0; have f1 := k8.frozen 1))
   have kS : Blk _ (p4 + 1) 44 #[.slice Ac (intsN (mixL (ps.map (facN ps)) P ND)).length cc, .slice Av vs2.length cv] := (k8.set_ 0 (.slice Ac (intsN (mixL (ps.map (facN ps)) P ND)).length cc)).set_ 1 (.slice Av vs2.length cv);have hgS := grown_set (grown_set (grown_refl w8 (some (p4 + 1))) 0 (.slice Ac (intsN (mixL (ps.map (facN ps)) P ND)).length cc)) 1 (.slice Av vs2.length cv);refine bodyPost_ret (results_keys rfl rfl rfl kS) rfl ?_;exact ⟨_, _, vs2, rfl, OwnL.kept hoc hgS (.inr (Ne.symm (own_ty hoc k8 (by decide)))), OwnL.kept hov hgS (.inr (Ne.symm (own_ty hov k8 (by decide)))), hL.far k8 (by decide) hgS, hB.grown hgS hB.size (fun j e => by cases e; exact Nat.le_succ_of_le h4B)⟩
end Go.Proofs.YtkpinmejfdnhbaaGreatDoor
namespace Go.Proofs.YtkpinmejfdnhbaaGreatDoor
open Go.RowKit
theorem dotN_snoc {f : Nat} : ∀ (fs ys : List Nat) (y s : Nat), fs[ys.length]? = some f → dotN fs (ys ++ [y]) s = (dotN fs ys s + f * y % qG) % qG
 | [], ys, y, s, h => by simp at h
 | g :: fs, [], y, s, h => by
   obtain rfl : g = f := Option.some.inj h
   cases fs <;> rfl
 | g :: fs, z :: ys, y, s, h => dotN_snoc fs ys y _ h
def accF (fs : List Nat) (P : List (List Nat)) (need : Nat) : List Nat := (List.range need).map fun j => dotN fs (colN P j) 0
theorem accF_len (fs : List Nat) (P : List (List Nat)) (need : Nat) : (accF fs P need).length = need := by simp [accF]
theorem accF_get {fs : List Nat} {P : List (List Nat)} {need j : Nat} (h : j < need) : (accF fs P need)[j]? = some (dotN fs (colN P j) 0) := by simp [accF, h]
theorem accF_lt {fs : List Nat} {P : List (List Nat)} {need : Nat} : ∀ c ∈ accF fs P need, c < qG := fun c hc => by
 obtain ⟨j, -, rfl⟩ := List.mem_map.1 hc;exact dotN_lt _ _ _ qG_pos
theorem accF_nil (fs : List Nat) (need : Nat) : accF fs [] need = List.replicate need 0 := by
 apply List.ext_getElem?
 intro j
 by_cases h : j < need
 ·rw [accF_get h, List.getElem?_replicate_of_lt h]
  cases fs <;> rfl
 ·rw [List.getElem?_eq_none (by rw [accF_len]; omega), List.getElem?_eq_none (by rw [List.length_replicate]; omega)]
def midF (fs : List Nat) (P Q : List (List Nat)) (need j : Nat) : List Nat := (accF fs Q need).take j ++ (accF fs P need).drop j
theorem midF_len (fs : List Nat) (P Q : List (List Nat)) {need j : Nat} (h : j ≤ need) : (midF fs P Q need j).length = need := by
 unfold midF; rw [List.length_append, List.length_take, List.length_drop, accF_len, accF_len]; omega
theorem midF_zero (fs : List Nat) (P Q : List (List Nat)) (need : Nat) : midF fs P Q need 0 = accF fs P need := by simp [midF]
theorem midF_end (fs : List Nat) (P Q : List (List Nat)) (need : Nat) : midF fs P Q need need = accF fs Q need := by
 unfold midF;rw [List.take_of_length_le (by rw [accF_len]; exact Nat.le_refl _), List.drop_of_length_le (by rw [accF_len]; exact Nat.le_refl _), List.append_nil]
theorem midF_get {fs : List Nat} {P Q : List (List Nat)} {need j : Nat} (h : j < need) : (midF fs P Q need j)[j]? = some (dotN fs (colN P j) 0) := by
 unfold midF;rw [List.getElem?_append_right (by rw [List.length_take]; omega), List.length_take, accF_len, Nat.min_eq_left (by omega), Nat.sub_self, List.getElem?_drop, Nat.add_zero, accF_get h]
theorem midF_set {fs : List Nat} {P : List (List Nat)} {p : List Nat} {need j f : Nat} (h : j < need) (hf : fs[P.length]? = some f) : (midF fs P (P ++ [p]) need j).set j ((dotN fs (colN P j) 0 + f * p.getD j 0 % qG) % qG) = midF fs P (P ++ [p]) need (j + 1) := by
 have e : dotN fs (colN (P ++ [p]) j) 0 = (dotN fs (colN P j) 0 + f * p.getD j 0 % qG) % qG := by
  unfold colN;rw [List.map_append, List.map_singleton, dotN_snoc fs _ _ _ (by rw [List.length_map]; exact hf)]
 rw [← e];unfold midF;have hl : ((accF fs (P ++ [p]) need).take j).length = j := by rw [List.length_take, accF_len]; omega
 rw [List.set_append_right _ _ (by omega), hl, Nat.sub_self, drop_cons' (accF_get h), List.set_cons_zero, List.take_add_one, accF_get h]
 simp
theorem colN_lt {P : List (List Nat)} {need j : Nat} (hP : PolyOK P need) (hj : j < need) : ∀ y ∈ colN P j, y < qG := fun y hy => by
 obtain ⟨p, hp, rfl⟩ := List.mem_map.1 hy;have hl := hP.len p hp;rw [List.getD_eq_getElem?_getD, List.getElem?_eq_getElem (by omega), Option.getD_some];exact hP.lt p hp _ (List.getElem_mem _)
theorem mix_acc {fs : List Nat} {P : List (List Nat)} {need : Nat} (hP : PolyOK P need) (hf : ∀ f ∈ fs, f < qG) : mixL fs P need = (accF fs P need).map gP := by
 unfold mixL accF;rw [List.map_map];refine List.map_congr_left fun j hj => ?_;rw [colG_eq, show (1 : Nat) = gP 0 from gP_zero.symm, mix_gP _ _ _ (colN_lt hP (List.mem_range.1 hj)) hf qG_pos]
 rfl
def polyR (seed : List UInt8) (need : Nat) (cf : List Nat) (x : Nat) : List Nat := (polyL (seedOf seed x) need).set 0 (valN x cf)
def polysR (seed : List UInt8) (need : Nat) (cf ps : List Nat) : List (List Nat) := ps.map (polyR seed need cf)
theorem polyR_len (seed : List UInt8) (need : Nat) (cf : List Nat) (x : Nat) : (polyR seed need cf x).length = need := by unfold polyR; rw [List.length_set, polyL_len]
theorem polyR_lt (seed : List UInt8) (need : Nat) (cf : List Nat) (x : Nat) : ∀ c ∈ polyR seed need cf x, c < qG := fun c hc => by
 rcases List.mem_or_eq_of_mem_set hc with h | rfl
 ·exact polyL_lt _ _ c h
 ·exact valN_lt _ _
theorem polyR_zero {seed : List UInt8} {need : Nat} {cf : List Nat} {x : Nat} (h : 1 ≤ need) : (polyR seed need cf x)[0]? = some (valN x cf) := by
 unfold polyR;rw [List.getElem?_set_self (by rw [polyL_len]; omega)]
theorem polysR_ok (seed : List UInt8) (need : Nat) (cf ps : List Nat) : PolyOK (polysR seed need cf ps) need :=
 ⟨fun p hp => by obtain ⟨x, -, rfl⟩ := List.mem_map.1 hp; exact polyR_len _ _ _ _, fun p hp => by obtain ⟨x, -, rfl⟩ := List.mem_map.1 hp; exact polyR_lt _ _ _ _⟩
theorem polysR_from {T : Nat} {seed : List UInt8} {need : Nat} {cf ps : List Nat} (h1 : ps.Nodup) (h2 : ∀ p ∈ ps, 1 ≤ p ∧ p ≤ T) (h3 : ps.length = cf.length) (hn : 1 ≤ need) : FromOK T ps cf (polysR seed need cf ps) :=
 ⟨h1, h2, h3, by simp [polysR], fun i x p hx hp => by
  unfold polysR at hp;rw [List.getElem?_map, hx] at hp;obtain rfl := Option.some.inj hp
  exact polyR_zero hn⟩
theorem acc_head {T : Nat} {seed : List UInt8} {need : Nat} {cf ps : List Nat} (h1 : ps.Nodup) (h2 : ∀ p ∈ ps, 1 ≤ p ∧ p ≤ T) (h3 : ps.length = cf.length) (hn : 1 ≤ need) (hT : T ≤ 60) (hc : 1 ≤ cf.length) (hlt : ∀ c ∈ cf, c < qG) : (accF (ps.map (facN ps)) (polysR seed need cf ps) need).headD 0 = cf.headD 0 := by
 have e : colN (polysR seed need cf ps) 0 = ps.map fun x => valN x cf := by
  unfold colN polysR;rw [List.map_map];refine List.map_congr_left fun x _ => ?_;show (polyR seed need cf x).getD 0 0 = _;rw [List.getD_eq_getElem?_getD, polyR_zero hn, Option.getD_some]
 have hl := lagrange ps cf (fun y hy => by have := h2 y hy; have := qG_lit; omega) h1 (fun e => by rw [e] at h3; simp at h3; omega) (by omega);obtain ⟨k, rfl⟩ : ∃ k, need = k + 1 := ⟨need - 1, by omega⟩;have hh : (accF (ps.map (facN ps)) (polysR seed (k + 1) cf ps) (k + 1)).headD 0 = dotN (ps.map (facN ps)) (colN (polysR seed (k + 1) cf ps) 0) 0 := by
  unfold accF;rw [List.range_succ_eq_map]
  rfl
 rw [hh, e, hl]
 cases cf with
 | nil => simp at hc
 | cons c cf => exact Nat.mod_eq_of_lt (hlt c (List.mem_cons_self ..))
end Go.Proofs.YtkpinmejfdnhbaaGreatDoor
namespace Go.Proofs.YtkpinmejfdnhbaaGreatDoor
open Go.RowKit
attribute [local go_sem] Oper.semAt_some
theorem DealsOK.high {B : Nat} {w w5 w' : World} {ds : List Dl} {P : List (List Nat)} {n : Nat} (h : DealsOK B w ds P n) (h5 : DealsOK B w5 ds P n) {g : Nat} (hg : w.grownBy w' (some g)) (hB : w5.heap.size ≤ g) : DealsOK B w' ds P n :=
 ⟨h.len, fun i d p hd hp => by
  have ho := h.one i d p hd hp;have h5 := h5.one i d p hd hp;obtain ⟨bs, hb, hbl, h16⟩ := ho.box;obtain ⟨bs5, hb5, -⟩ := h5.box
  exact ⟨OwnL.kept ho.com hg (.inr fun e => by have := own_lt h5.com g e; omega), ho.pt, bs, OwnL.kept hb hg (.inr fun e => by have := own_lt hb5 g e; omega), hbl, h16⟩⟩
theorem OwnL.raise {α : Type} {enc : α → List Value} {e : TypeId} {s B B' g n c : Nat} {w : World} {l : List α} (h : OwnL enc e s B w (.slice (some ⟨g, 0, none⟩) n c) l) (hB : B' ≤ g) : OwnL enc e s B' w (.slice (some ⟨g, 0, none⟩) n c) l := by
 refine ⟨h.1, ?_⟩
 rcases h.2 with ⟨h1, _⟩ | ⟨g', cap, cur, h1, _, h3⟩
 ·cases h1
 ·cases h1
  exact .inr ⟨_, _, _, rfl, hB, h3⟩
theorem results_grp {fn : Func} {tmps : Array Value} {w : World} {s r k : Nat} {t : TypeId} {a b c d f y : Value} (hr : fn.results = #[.cell s 59, .tmp r]) (hs : tmps[s]?.getD undef = .pointer (some ⟨k, 0, none⟩)) (hy : tmps[r]?.getD undef = y) (hb : Blk w k t #[a, b, c, d, f]) :
 (results fn tmps).run Tryz.prog w = .ok (.tuple #[.agg #[a, b, c, d, f], y]) w := by
 have h0 : w.cell? ⟨k, 0, none⟩ = some a := hb.cell 0;have h1 : w.cell? ⟨k, 1, none⟩ = some b := hb.cell 1;have h2 : w.cell? ⟨k, 2, none⟩ = some c := hb.cell 2;have h3 : w.cell? ⟨k, 3, none⟩ = some d := hb.cell 3;have h4 : w.cell? ⟨k, 4, none⟩ = some f := hb.cell 4
 simp [results, hr, hs, hy, go_sem, h0, h1, h2, h3, h4]
def ResharedPost (B0 : Nat) (ms : List Mem) (ss cf : List Nat) (w : World) (e : Ending) (w' : World) : Prop :=
 ∃ (a b c d f vd : Value), e = .returned (.tuple #[.agg (grpA a b c d f), vd]) ∧ GrpW B0 w' a b c d f ms ss cf ∧ Below w.heap.size w w'
theorem Reshared_q (ga gb : Value) (Ac Ak Ap A1 A2 AF : Option Addr) (N0 cc ck mp cp c1 c2 cF B0 : Nat) (ms0 ms : List Mem) (cf ss ps : List Nat) (vs : List Value) (seed : ByteArray) (T0 T : Nat)
 (hO : OldOK T0 ms0 cf) (hk : Keyed8 ms) (hI : I64M ms) (hT : totW ms = (T : Int)) (h1 : ps.Nodup) (h2 : ∀ p ∈ ps, 1 ≤ p ∧ p ≤ T0) (hs : seed.size ≤ 1000) (w : World) (hB0 : B0 ≤ w.heap.size)
 (hcf : RowN w Ac N0 cc cf) (hck : RowN w Ak N0 ck (cf.map gP)) (hv : RowV w Ap mp cp vs) (hvs : RowsI w vs (pointsL 1 ms0)) (hoM : OwnM B0 w (.slice A1 ms.length c1) ms) (hoS : OwnI B0 w (.slice A2 ss.length c2) (intsN ss)) (hF : RowN w AF N0 cF ps) :
 Calls Tryz.prog 46 #[.agg (grpA ga gb (.slice Ac N0 cc) (.slice Ak N0 ck) (.slice Ap mp cp)), .slice A1 ms.length c1, .slice A2 ss.length c2, .slice AF N0 cF, .string seed] w (ResharedPost B0 ms ss (accF (ps.map (facN ps)) (polysR seed.data.toList (needN T) cf ps) (needN T)) w) := by
 obtain ⟨e1, e2, e3⟩ := totR_right hk.right;rw [hT] at e1 e2 e3;obtain ⟨-, e4, e5⟩ := totR_right hO.right;rw [hO.tot] at e4 e5;have hml : ms.length ≤ 13 := hk.right.hi;have hN0 : cf.length = N0 := rowN_len hcf;have hNn : N0 = needN T0 := by rw [← hN0]; exact hO.len
 have hN1 : 1 ≤ N0 ∧ N0 ≤ 60 := by rw [hNn]; unfold needN; split <;> omega
 have hpl : ps.length = N0 := rowN_len hF;have q1 := Lib.hid (fun W h => rtotal_q A1 ms.length c1 ms (by omega) hI W h);rw [e1] at q1;have q2 := Lib.hid (rNeed_q T (by omega));have q3 := Lib.hid (fun W h => rFactors_q AF N0 cF ps (by omega) (fun y hy => by have := h2 y hy; have := qG_lit; omega) h1 W h);have q4 := Lib.hid (fun (x : Nat) W h => At8_q ga gb (.slice Ak N0 ck) (.slice Ap mp cp) Ac N0 cc cf x (by omega) W h);have hFO := polysR_from (T := T0) (seed := seed.data.toList) (need := needN T) (cf := cf) h1 h2 (by omega) (by unfold needN; split <;> omega);have hPo := polysR_ok seed.data.toList (needN T) cf ps;obtain ⟨N, hN, hn1, hn2⟩ : ∃ N, N = needN T ∧ 1 ≤ N ∧ N ≤ 60 := ⟨needN T, rfl, by unfold needN; split <;> omega, by unfold needN; split <;> omega⟩;obtain ⟨P, hP⟩ := exq (polysR seed.data.toList (needN T) cf ps);rw [← hP] at hFO hPo;have q5 := Lib.hid (fun (A3 : Option Addr) (c3 : Nat) (ds : List Dl) (B : Nat) W a b c d e f g => Again_q Ak Ap A1 AF A3 N0 ck mp cp ms.length c1 cF c3 ms0 ms cf ps vs ds P T0 T B hO hk.right hI hT hFO hPo W a b c d e f g);have hfl : ∀ f ∈ ps.map (facN ps), f < qG := fun f hf => by obtain ⟨x, -, rfl⟩ := List.mem_map.1 hf; exact facN_lt _ _
 have hmx := mix_acc hPo hfl;rw [← hP];rw [hmx] at q5;rw [← hN] at q2 q5 hPo hP ⊢;obtain ⟨fs, hfs⟩ := exq (ps.map (facN ps));have hfsl : fs.length = N0 := by rw [hfs, List.length_map, hpl]
 rw [← hfs] at q5 ⊢;have q6 := Lib.hid (fun (t : ByteArray) (ht : t.size ≤ 100000) W => rPolynomial_q t N ht (by omega) W);have HK := Lib.hid (And.intro hO (And.intro hk (And.intro hI (And.intro hT (And.intro hP (And.intro hPo (And.intro hN hfs)))))));have HR := Lib.hid (And.intro hcf (And.intro hck (And.intro hv (And.intro hvs hF))));have HPS := Lib.hid h2;have hSlt0 := own_lt hoS;unfold grpA;clear hO hk hI hT h1 h2 hP hPo hN hfs hcf hck hv hvs hF hFO hfl hmx e1 hNn hN0 hpl;go_enter Tryz.func46, Tryz.ntmps46;go_upto_region 1 with fail;refine name2p ?_;intro W0 k5 k10 hB;obtain ⟨p5, hp5⟩ : ∃ g, g = w.heap.size := ⟨_, rfl⟩;rw [← hp5] at k5 k10 ⊢;have h5B : w.heap.size ≤ p5 := by omega
 clear hp5;replace hoM := hoM.below hB;replace hoS := hoS.below hB
 go_upto_region 3 with (first
  | (go_at_call 91; (with_reducible refine (q1.out _ (OwnL.row_at hoM encM_len)).mono ?_); rintro e w1 ⟨rfl, hb⟩; replace k5 := k5.below hb k5.lt; replace k10 := k10.below hb k10.lt; replace hoM := hoM.below hb; replace hoS := hoS.below hb; replace hB := below_then hB hb; clear hb)
  | (go_at_call 90; (with_reducible refine (q2.out _).mono ?_); rintro e w2 ⟨rfl, hww⟩; obtain rfl := hww.symm))
 refine name1p ?_;intro W3 k13 hb3;obtain ⟨p13, hp13⟩ : ∃ g, g = w1.heap.size := ⟨_, rfl⟩;rw [← hp13] at k13 ⊢;have h5x : p5 ≠ p13 := by have := k5.lt; omega
 have h10x : p5 + 1 ≠ p13 := by have := k10.lt; omega
 have h13B : w.heap.size ≤ p13 := by have := hB.size; omega
 replace k5 := k5.below hb3 k5.lt;replace k10 := k10.below hb3 k10.lt;replace hoM := hoM.below hb3;replace hoS := hoS.below hb3;replace hB := below_then hB hb3;obtain ⟨Bc, hBc⟩ : ∃ B, B = W3.heap.size := ⟨_, rfl⟩;have hwB : w.heap.size ≤ Bc := by have := hB.size; omega
 have hSlt : ∀ j, (Value.slice A2 ss.length c2).ownBlock = some j → j < Bc := fun j e => by have := hSlt0 j e; omega
 have hcB : Bc ≤ W3.heap.size := Nat.le_of_eq hBc;clear hp13 hb3 hBc hSlt0 q1 q2;go_wp2_with fail
 go_loopw [15] (fun s15 wr => ∃ (i : Nat) (v : Value), i ≤ N ∧ s15 = .int .i64 (i : Int) ∧ OwnI Bc wr v (intsN (List.replicate i 0)) ∧ Blk wr p13 59 #[.slice A1 ms.length c1, .slice A2 ss.length c2, v, .slice none 0 0, .slice none 0 0] ∧ Blk wr p5 59 #[ga, gb, .slice Ac N0 cc, .slice Ak N0 ck, .slice Ap mp cp] ∧ Blk wr (p5 + 1) 59 #[.slice none 0 0, .slice none 0 0, .slice none 0 0, .slice none 0 0, .slice none 0 0] ∧ OwnM B0 wr (.slice A1 ms.length c1) ms ∧ OwnI B0 wr (.slice A2 ss.length c2) (intsN ss) ∧ Bc ≤ wr.heap.size ∧ Below w.heap.size w wr) (fun s15 _ => N - (intOf s15).toNat)
 case atStart => exact ⟨0, _, by omega, rfl, OwnL.nil_ _ _ _ _ _, k13, k5, k10, hoM, hoS, hcB, hB⟩
 case round =>
  clear k13 k5 k10 hoM hoS hcB hB;obtain ⟨i, v, hi, rfl, ho, k13, k5, k10, hoM, hoS, hcB, hB⟩ := hrel
  by_cases hlt : i < N
  ·have hlt' : (i : Int) < (N : Int) := by omega
   have g2 : _ = some v := k13.cell 2;have hll : (intsN (List.replicate i 0)).length ≤ 100 := by rw [intsN_len, List.length_replicate]; omega
   have hL6 : (intsN (List.replicate i 0) ++ [0]).length = i + 1 := by rw [List.length_append, intsN_len, List.length_replicate]; rfl
   go_wp2_with (refine wp_append_row (enc := encI) Tryz.underlying25 int_info rfl (by decide) (by decide) rfl _ _ rfl (0 : Int) rfl rfl (encI_one _) rfl ho rfl (by omega) hcB ?_; intro v6 w6 ho6 hg6; have k136 := k13.grown hg6 (own_ty ho k13 (by decide)); have k56 := k5.grown hg6 (own_ty ho k5 (by decide)); have k106 := k10.grown hg6 (own_ty ho k10 (by decide)); have hoM6 := OwnL.kept hoM hg6 (rows_apart hoM ho (by decide)); have hoS6 := OwnL.kept hoS hg6 (low_apart hSlt (own_high ho)); have hB6 := hB.grown hg6 hB.size (fun j e => Nat.le_trans hwB (own_high ho j e)); have hcB6 := Nat.le_trans hcB hg6.size; obtain ⟨A6, c6, hv6, -⟩ := OwnL.row ho6 encI_len; rw [hL6] at hv6; subst hv6; have x2 := k136.cell 2; have y2 := k136.frozen 2);have kS : Blk _ p13 59 #[.slice A1 ms.length c1, .slice A2 ss.length c2, .slice A6 (i + 1) c6, .slice none 0 0, .slice none 0 0] := k136.set_ 2 _;have hgS := grown_set (grown_refl w6 (some p13)) 2 (.slice A6 (i + 1) c6);go_wp2_with fail;go_roundw
   case rel => exact ⟨i + 1, _, by omega, by go_num, by rw [List.replicate_succ', intsN_snoc]; exact OwnL.kept ho6 hgS (.inr (Ne.symm (own_ty ho6 k136 (by decide)))), kS, k56.grown hgS (fun e => h5x (Option.some.inj e)), k106.grown hgS (fun e => h10x (Option.some.inj e)), OwnL.kept hoM6 hgS (.inr (Ne.symm (own_ty hoM6 k136 (by decide)))), OwnL.kept hoS6 hgS (.inr (Ne.symm (own_ty hoS6 k136 (by decide)))), Nat.le_trans hcB6 hgS.size, hB6.grown hgS hB6.size (fun j e => by cases e; exact h13B)⟩
   case measure => simp [intOf]; omega
  ·obtain rfl : N = i := by omega
   obtain ⟨gc, cg, rfl, hgc1, hgc2⟩ := OwnI.at0 ho (by rw [intsN_len, List.length_replicate]; omega);have hLc : (intsN (List.replicate N 0)).length = N := by rw [intsN_len, List.length_replicate]
   rw [hLc] at ho k13;clear hLc;have hgcB : w.heap.size ≤ gc := by omega
   have hbc : (Value.slice A2 ss.length c2).ownBlock ≠ some gc := fun e => by have := hSlt gc e; omega
   have hacc := (accF_nil fs N).symm;have hPi : P.take 0 = [] := rfl;rw [hacc, ← hPi] at ho;clear hacc hPi
   go_wp2_with (first
    | (go_at_call 98; (with_reducible refine (q3.out _ (HR.out.2.2.2.2.below hB)).mono ?_); rintro e w4 ⟨vf, rfl, hof, hb⟩; obtain ⟨Af, cf2, hvf, -⟩ := OwnL.row hof encI_len; rw [← HK.out.2.2.2.2.2.2.2] at hof hvf; rw [intsN_len, hfsl] at hvf; subst hvf; replace hof := hof.le hgc2; replace k5 := k5.below hb k5.lt; replace k10 := k10.below hb k10.lt; replace k13 := k13.below hb k13.lt; replace ho := ho.below hb; replace hoM := hoM.below hb; replace hoS := hoS.below hb; replace hB := below_then hB hb; clear hb))
   clear q3 hgc2;go_wp2_with fail
   go_loopw [14, 17, 18, 19, 20, 21] (fun s14 s17 _ _ _ _ W => ∃ (i : Nat) (ds : List Dl), i ≤ N0 ∧ s17 = .int .i64 (i : Int) ∧ ds.length = i ∧ OwnD w.heap.size W s14 ds ∧ DealsOK (gc + 1) W ds (P.take i) T ∧ OwnI Bc W (.slice (some ⟨gc, 0, none⟩) N cg) (intsN (accF fs (P.take i) N)) ∧ Blk W p13 59 #[.slice A1 ms.length c1, .slice A2 ss.length c2, .slice (some ⟨gc, 0, none⟩) N cg, .slice none 0 0, .slice none 0 0] ∧ Blk W p5 59 #[ga, gb, .slice Ac N0 cc, .slice Ak N0 ck, .slice Ap mp cp] ∧ Blk W (p5 + 1) 59 #[.slice none 0 0, .slice none 0 0, .slice none 0 0, .slice none 0 0, .slice none 0 0] ∧ OwnI (gc + 1) W (.slice Af N0 cf2) (intsN fs) ∧ OwnM B0 W (.slice A1 ms.length c1) ms ∧ OwnI B0 W (.slice A2 ss.length c2) (intsN ss) ∧ Below w.heap.size w W) (fun _ s17 _ _ _ _ _ => N0 - (intOf s17).toNat)
   case atStart => exact ⟨0, [], by omega, rfl, rfl, OwnL.nil_ _ _ _ _ _, DealsOK.nil _ _ _, ho, k13, k5, k10, hof, hoM, hoS, hB⟩
   case round =>
    clear k13 k5 k10 hoM hoS hB ho hof hcB;obtain ⟨i, ds, hi, rfl, hdl, hod, hD, ho, k13, k5, k10, hof, hoM, hoS, hB⟩ := hrel
    by_cases hlt : i < N0
    ·have hlt' : (i : Int) < (N0 : Int) := by omega
     obtain ⟨b, o, f, rfl, hx, cx⟩ := rowN_at (HR.out.2.2.2.2.below hB) hlt;have hPi : P[i]? = some (polyR seed.data.toList N cf f) := by
      rw [HK.out.2.2.2.2.1];unfold polysR;rw [List.getElem?_map, hx]
      rfl
     have HPI := Lib.hid (And.intro hx hPi);have hf60 : f ≤ 60 := by have := (HPS.out f (List.mem_of_getElem? hx)).2; omega
     clear hx hPi;have m3 := Lib.hid (rText8_q f (by omega));have hds := decS_20 (n := f) (by omega);have hdd := decS_list f;generalize decS f = d at *;obtain ⟨t1, ht1⟩ : ∃ t : ByteArray, seed ++ (⟨#[32]⟩ : ByteArray) = t := ⟨_, rfl⟩;have z1 : t1.size = seed.size + 1 := by rw [← ht1, ByteArray.size_append]; rfl
     obtain ⟨t2, ht2⟩ : ∃ t : ByteArray, t1 ++ d = t := ⟨_, rfl⟩;have z2 : t2.size = t1.size + d.size := by rw [← ht2, ByteArray.size_append]
     have hl2 : t2.data.toList = seedOf seed.data.toList f := by
      rw [← ht2, ← ht1];simp only [ByteArray.data_append, Array.toList_append, hdd];unfold seedOf
      simp
     have q7 := Lib.hid (fun W => q6.out t2 (by omega) W);have n1 : (9223372036854775807 < seed.size + 1) = False := by simp only [eq_iff_iff, iff_false]; omega
     have n2 : (9223372036854775807 < t1.size + d.size) = False := by simp only [eq_iff_iff, iff_false]; omega
     have HT2 := Lib.hid (And.intro hl2 (show t2.size ≤ 2000 by omega));clear hl2 hdd z1 z2
     go_upto_region 13 with (first
      | (go_at_call 94; (with_reducible refine (m3.out _).mono ?_); rintro e w5 ⟨rfl, hb⟩; replace ho := ho.below hb; replace hD := hD.below hb; replace hod := hod.below hb; replace hof := hof.below hb; replace k13 := k13.below hb k13.lt; replace k5 := k5.below hb k5.lt; replace k10 := k10.below hb k10.lt; replace hoM := hoM.below hb; replace hoS := hoS.below hb; replace hB := below_then hB hb; clear hb cx)
      | (go_at_call 93; (try rw [ht2]); (refine (q7.out _).mono ?_); rintro e w6 ⟨vp, rfl, hop, hb⟩; obtain ⟨Bp, hBp⟩ : ∃ B, B = w5.heap.size := ⟨_, rfl⟩; rw [← hBp] at hop; have hgp := own_lt ho gc rfl; have hwp := hB.size; rw [← hBp] at hgp hwp; have hdlt := own_lt hod; rw [← hBp] at hdlt; have hflt := own_lt hof; rw [← hBp] at hflt; have hsp := hb.size; rw [← hBp] at hsp; have HD5 := Lib.hid (And.intro hD hBp); clear hBp; replace ho := ho.below hb; replace hD := hD.below hb; replace hod := hod.below hb; replace hof := hof.below hb; replace k13 := k13.below hb k13.lt; replace k5 := k5.below hb k5.lt; replace k10 := k10.below hb k10.lt; replace hoM := hoM.below hb; replace hoS := hoS.below hb; replace hB := below_then hB hb; clear hb))
     rw [HT2.out.1] at hop;obtain ⟨gp, cq, hvp, hgp1, hgp2⟩ := OwnI.at0 hop (by rw [intsN_len, polyL_len]; omega);rw [intsN_len, polyL_len] at hvp;subst hvp;clear q7
     go_cut [14, 17, 18, 19, 20, 21] (fun s14 s17 s18 s19 s20 s21 W => s14 = u14 ∧ s17 = .int .i64 (i : Int) ∧ s18 = .slice (some ⟨gp, 0, none⟩) N cq ∧ s19 = u19 ∧ s20 = u20 ∧ s21 = u21 ∧ OwnI Bp W (.slice (some ⟨gp, 0, none⟩) N cq) (intsN (polyR seed.data.toList N cf f)) ∧ OwnD w.heap.size W u14 ds ∧ DealsOK (gc + 1) W ds (P.take i) T ∧ OwnI Bc W (.slice (some ⟨gc, 0, none⟩) N cg) (intsN (accF fs (P.take i) N)) ∧ Blk W p13 59 #[.slice A1 ms.length c1, .slice A2 ss.length c2, .slice (some ⟨gc, 0, none⟩) N cg, .slice none 0 0, .slice none 0 0] ∧ Blk W p5 59 #[ga, gb, .slice Ac N0 cc, .slice Ak N0 ck, .slice Ap mp cp] ∧ Blk W (p5 + 1) 59 #[.slice none 0 0, .slice none 0 0, .slice none 0 0, .slice none 0 0, .slice none 0 0] ∧ OwnI (gc + 1) W (.slice Af N0 cf2) (intsN fs) ∧ OwnM B0 W (.slice A1 ms.length c1) ms ∧ OwnI B0 W (.slice A2 ss.length c2) (intsN ss) ∧ Below w.heap.size w W)
     case first =>
      obtain ⟨wd, hwd⟩ := exq w6.drew;have hbd := (Below.refl w6.heap.size w6).drew;rw [← hwd] at hbd;have hod := hod.below hbd;have hD := hD.below hbd;have hop := hop.below hbd;have ho := ho.below hbd;have hof := hof.below hbd;have k13 := k13.below hbd k13.lt;have k5 := k5.below hbd k5.lt;have k10 := k10.below hbd k10.lt;have hoM := hoM.below hbd;have hoS := hoS.below hbd;have hcur := below_then hB hbd;obtain ⟨bx, ox, fx, e', hxx, cx⟩ := rowN_at (HR.out.2.2.2.2.below hcur) hlt
      cases e'
      obtain rfl : f = fx := Option.some.inj (HPI.out.1.symm.trans hxx);have g0 : wd.cell? ⟨p5, 0, none⟩ = some ga := k5.cell 0;have g1 : wd.cell? ⟨p5, 1, none⟩ = some gb := k5.cell 1;have g2 : wd.cell? ⟨p5, 2, none⟩ = some (.slice Ac N0 cc) := k5.cell 2;have g3 : wd.cell? ⟨p5, 3, none⟩ = some (.slice Ak N0 ck) := k5.cell 3;have g4 : wd.cell? ⟨p5, 4, none⟩ = some (.slice Ap mp cp) := k5.cell 4;have hN0' : (0 : Int) < (N : Int) := by omega
      have hN0n : 0 < N := by omega
      have HGP : Hid (gc < gp ∧ w.heap.size ≤ gp ∧ Bp ≤ gp) := Lib.hid (by omega);obtain ⟨z, hz⟩ : ∃ z : Nat, (polyL (seedOf seed.data.toList f) N)[0]? = some z := ⟨_, List.getElem?_eq_getElem (by rw [polyL_len]; omega)⟩;have hz2 : (intsN (polyL (seedOf seed.data.toList f) N))[0]? = some (z : Int) := by unfold intsN; rw [List.getElem?_map, hz]; rfl
      have hlz : (intsN (polyL (seedOf seed.data.toList f) N)).length = N := by rw [intsN_len, polyL_len]
      have HZ := Lib.hid (And.intro hz2 hlz);clear hxx hbd hz hz2 hlz;refine region_here (fun Z => Z.cell? ⟨b, o + i, none⟩ = some (.int .i64 (f : Int)) ∧ Z.cell? ⟨p5, 0, none⟩ = some ga ∧ Z.cell? ⟨p5, 1, none⟩ = some gb ∧ Z.cell? ⟨p5, 2, none⟩ = some (.slice Ac N0 cc) ∧ Z.cell? ⟨p5, 3, none⟩ = some (.slice Ak N0 ck) ∧ Z.cell? ⟨p5, 4, none⟩ = some (.slice Ap mp cp)) 9 (by kernel_rfl) (by rw [← hwd]; exact ⟨cx, g0, g1, g2, g3, g4⟩) (fun hHeld => ?_);rw [← hwd] at hHeld ⊢;clear hwd;refine tkT 0 rfl ?_;refine tkT 1 rfl ?_;refine tkT 2 rfl ?_;refine tkT 3 rfl ?_;refine tkT 4 rfl ?_;refine tkT 5 rfl ?_;refine tkO 6 rfl fun K hK => ?_;go_simp;go_at_call 99;refine (q4.out f _ (HR.out.1.below hcur)).mono ?_;rintro e wa ⟨rfl, hba⟩
      (try go_wp2_with fail)
      simp only [shareA];have hopA := hop.below hba;have cz := OwnI.cell hopA HZ.out.1;have fz := OwnI.frozen hopA HZ.out.2.symm 0;have hca := below_then hcur hba;refine hK.out _ _ ?_ (fun hHeld6 => ?_)
      ·exact ⟨cell_b hba hHeld.1, cell_b hba hHeld.2.1, cell_b hba hHeld.2.2.1, cell_b hba hHeld.2.2.2.1, cell_b hba hHeld.2.2.2.2.1, cell_b hba hHeld.2.2.2.2.2⟩
      clear hK K
      try simp only [Act.put, pq1, pq2, pq3]
      refine tkO 7 rfl fun K hK => ?_;go_simp;refine hK.out _ _ ?_ (fun hHeld7 => ?_)
      ·assumption
      clear hK K
      try simp only [Act.put, pq1, pq2, pq3]
      refine tkT 8 rfl ?_;refine tkK 9 rfl fun K hK => ?_;go_simp;refine hK.out _ _ ?_;clear hK K
      try simp only [Act.put]
      refine tkD ?_;have hgS := grown_set (grown_refl wa (some gp)) 0 (.int .i64 ((valN f cf : Nat) : Int));have hos := OwnI.stored hopA 0 ((valN f cf : Nat) : Int) HZ.out.2.symm;rw [intsN_set] at hos;go_wp2_with fail;go_meet;exact ⟨rfl, rfl, rfl, rfl, rfl, rfl, hos, OwnL.kept (hod.below hba) hgS (rows_apart (hod.below hba) hopA (by decide)), (hD.below hba).high HD5.out.1 hgS (by rw [← HD5.out.2]; exact hgp1), OwnL.kept (ho.below hba) hgS (.inr fun e => absurd (Option.some.inj (show some gc = some gp from e)) (Nat.ne_of_lt HGP.out.1)), (k13.below hba k13.lt).grown hgS (fun e => own_ty hopA (k13.below hba k13.lt) (by decide) e), (k5.below hba k5.lt).grown hgS (fun e => own_ty hopA (k5.below hba k5.lt) (by decide) e), (k10.below hba k10.lt).grown hgS (fun e => own_ty hopA (k10.below hba k10.lt) (by decide) e), OwnL.kept (hof.below hba) hgS (.inr fun e => absurd (hflt gp e) (Nat.not_lt.2 HGP.out.2.2)), OwnL.kept (hoM.below hba) hgS (rows_apart (hoM.below hba) hopA (by decide)), OwnL.kept (hoS.below hba) hgS (.inr fun e => by have := hSlt gp e; omega), hca.grown hgS hca.size (fun j e => by cases e; exact HGP.out.2.1)⟩
     case rest =>
      clear hop hod hD ho k13 k5 k10 hof hoM hoS hB;obtain ⟨rfl, rfl, rfl, rfl, rfl, rfl, hop, hod, hD, ho, k13, k5, k10, hof, hoM, hoS, hB⟩ := hcut;have hgpc : gc < gp := by omega
      clear hgp2 hgp1 HD5 hsp hwp hgp;go_upto_region 14 with fail
      go_cut [14, 17, 18, 19, 20, 21] (fun s14 s17 s18 s19 s20 s21 W => ∃ (p19 : Nat) (v1 v3 : Value) (pt : Int), s14 = u14 ∧ s17 = .int .i64 (i : Int) ∧ s18 = .slice (some ⟨gp, 0, none⟩) N cq ∧ s19 = .pointer (some ⟨p19, 0, none⟩) ∧ s20 = .bool true ∧ s21 = u21 ∧ Blk W p19 166 #[v1, .int .i64 pt, v3] ∧ DealOK (gc + 1) W v1 pt v3 (polyR seed.data.toList N cf f) T ∧ OwnI (gc + 1) W (.slice (some ⟨gp, 0, none⟩) N cq) (intsN (polyR seed.data.toList N cf f)) ∧ OwnD w.heap.size W u14 ds ∧ DealsOK (gc + 1) W ds (P.take i) T ∧ OwnI Bc W (.slice (some ⟨gc, 0, none⟩) N cg) (intsN (accF fs (P.take i) N)) ∧ Blk W p13 59 #[.slice A1 ms.length c1, .slice A2 ss.length c2, .slice (some ⟨gc, 0, none⟩) N cg, .slice none 0 0, .slice none 0 0] ∧ Blk W p5 59 #[ga, gb, .slice Ac N0 cc, .slice Ak N0 ck, .slice Ap mp cp] ∧ Blk W (p5 + 1) 59 #[.slice none 0 0, .slice none 0 0, .slice none 0 0, .slice none 0 0, .slice none 0 0] ∧ OwnI (gc + 1) W (.slice Af N0 cf2) (intsN fs) ∧ OwnM B0 W (.slice A1 ms.length c1) ms ∧ OwnI B0 W (.slice A2 ss.length c2) (intsN ss) ∧ Below w.heap.size w W)
      case first =>
       obtain ⟨ks, hks, hkl, hkm⟩ := boxKeys_nat (fun m hm => (HK.out.2.1.right.wt m hm).1) HK.out.2.1.key;obtain ⟨-, f2, f3⟩ := totR_right HK.out.2.1.right;rw [HK.out.2.2.2.1] at hkl f2 f3;replace hkl : ks.length = T := by omega
       have hNT : N ≤ T := by have := HK.out.2.2.2.2.2.2.1; unfold needN at this; split at this <;> omega
       have hall : (intsN ks).all memB = true := by
        rw [List.all_eq_true]; intro y hy;obtain ⟨k, hk2, rfl⟩ := List.mem_map.1 hy;exact (hkm k hk2).1
       have q1 := Lib.hid (fun W h => rBoxes_q A1 ms.length c1 ms (by omega) HK.out.2.1.right.wt W h);have HBX := Lib.hid hks;have hpq : ∀ c ∈ polyR seed.data.toList N cf f, c < qG := polyR_lt _ _ _ _;have q2 := Lib.hid (fun (Aq Ab : Option Addr) (cq2 cb2 : Nat) W h1 h2 => rDeal_q Aq Ab N cq2 T cb2 (polyR seed.data.toList N cf f) ks t2 hn1 hNT (by omega) hpq hall (fun k hk => (hkm k hk).2) (by have := HT2.out.2; omega) W h1 h2);have hlI : (intsN (polyR seed.data.toList N cf f)).length = N := by rw [intsN_len, polyR_len]
       clear hks hall hpq hkm;obtain ⟨wd, hwd⟩ := exq wc.drew;have hbd := (Below.refl wc.heap.size wc).drew;rw [← hwd] at hbd;have hod := hod.below hbd;have hD := hD.below hbd;have hop := hop.below hbd;have ho := ho.below hbd;have hof := hof.below hbd;have k13 := k13.below hbd k13.lt;have k5 := k5.below hbd k5.lt;have k10 := k10.below hbd k10.lt;have hoM := hoM.below hbd;have hoS := hoS.below hbd;have hcur := below_then hB hbd;have hgcs := own_lt ho gc rfl;obtain ⟨bx, ox, fx, e', hxx, cx⟩ := rowN_at (HR.out.2.2.2.2.below hcur) hlt
       cases e'
       obtain rfl : f = fx := Option.some.inj (HPI.out.1.symm.trans hxx);clear hxx hbd;refine region_here (fun Z => Z.cell? ⟨b, o + i, none⟩ = some (.int .i64 (f : Int))) 17 (by kernel_rfl) (by rw [← hwd]; exact cx) (fun hHeld => ?_);rw [← hwd] at hHeld ⊢;clear hwd;refine tkT 0 rfl ?_;refine tkT 1 rfl ?_;refine tkT 3 rfl ?_;refine tkT 4 rfl ?_;refine tkT 5 rfl ?_;refine tkT 6 rfl ?_;refine tkT 7 rfl ?_;refine tkT 8 rfl ?_;refine wpAnyS_two (i := 2) (j := 15) (oi := ⟨_, _, _, _, _, _⟩) (oj := ⟨_, _, _, _, _, _⟩) rfl rfl (by kernel_rfl) (fun K hK => ?_) (fun K hK => ?_)
       ·skip;go_simp;go_at_call 101;refine (q1.out _ (OwnL.row_at hoM encM_len)).mono ?_;rintro e wa ⟨vb, rfl, hob, hba⟩;obtain ⟨Ab, cb, hvb, -⟩ := OwnL.row hob encI_len;rw [HBX.out, intsN_len, hkl] at hvb;rw [HBX.out] at hob;subst hvb
        (try go_wp2_with fail)
        replace hod := hod.below hba;replace hD := hD.below hba;replace hop := hop.below hba;replace ho := ho.below hba;replace hof := hof.below hba;replace hoM := hoM.below hba;replace hoS := hoS.below hba;replace k13 := k13.below hba k13.lt;replace k5 := k5.below hba k5.lt;replace k10 := k10.below hba k10.lt
        (try replace hok := hok.below hba)
        (try replace k19 := k19.below hba k19.lt)
        replace hcur := below_then hcur hba;refine hK.out _ _ ?_ (fun hHeld2 => ?_)
        ·exact cell_b hba hHeld
        clear hK K
        try simp only [Act.put, pq1, pq2, pq3]
        refine wpAnyS_two (i := 9) (j := 15) (oi := ⟨_, _, _, _, _, _⟩) (oj := ⟨_, _, _, _, _, _⟩) rfl rfl (by kernel_rfl) (fun K hK => ?_) (fun K hK => ?_)
        ·skip;go_simp;go_at_call 94;refine (m3.out _).mono ?_;rintro e wb ⟨rfl, hbb⟩
         (try go_wp2_with fail)
         replace hod := hod.below hbb;replace hD := hD.below hbb;replace hop := hop.below hbb;replace ho := ho.below hbb;replace hof := hof.below hbb;replace hoM := hoM.below hbb;replace hoS := hoS.below hbb;replace k13 := k13.below hbb k13.lt;replace k5 := k5.below hbb k5.lt;replace k10 := k10.below hbb k10.lt
         (try replace hob := hob.below hbb)
         (try replace hok := hok.below hbb)
         (try replace k19 := k19.below hbb k19.lt)
         replace hcur := below_then hcur hbb;refine hK.out _ _ ?_ (fun hHeld9 => ?_)
         ·exact cell_b hbb hHeld2
         clear hK K
         try simp only [Act.put, pq1, pq2, pq3]
         refine tkT 10 rfl ?_;refine wpAnyS_two (i := 11) (j := 15) (oi := ⟨_, _, _, _, _, _⟩) (oj := ⟨_, _, _, _, _, _⟩) rfl rfl (by kernel_rfl) (fun K hK => ?_) (fun K hK => ?_)
         ·skip;go_simp;go_at_call 100;refine (q2.out _ _ _ _ _ (rowN_own hop) (rowN_own hob)).mono ?_;rintro e wc ⟨v1, v3, pt, rfl, hok, hbc⟩;obtain ⟨bs, hbs, -⟩ := hok.box;obtain ⟨Av, cv, hv1, -⟩ := OwnL.row hok.com encI_len;obtain ⟨Av3, cv3, hv3, -⟩ := OwnL.row hbs encT_len;subst hv1;subst hv3;clear hbs;have hgcc := own_lt ho gc rfl;replace hok := hok.le (Nat.succ_le_of_lt hgcc);simp only [dealA]
          (try go_wp2_with fail)
          replace hod := hod.below hbc;replace hD := hD.below hbc;replace hop := hop.below hbc;replace ho := ho.below hbc;replace hof := hof.below hbc;replace hoM := hoM.below hbc;replace hoS := hoS.below hbc;replace k13 := k13.below hbc k13.lt;replace k5 := k5.below hbc k5.lt;replace k10 := k10.below hbc k10.lt
          (try replace hob := hob.below hbc)
          (try replace k19 := k19.below hbc k19.lt)
          replace hcur := below_then hcur hbc;refine hK.out _ _ ?_ (fun hHeld11 => ?_)
          ·exact cell_b hbc hHeld9
          clear hK K
          try simp only [Act.put, pq1, pq2, pq3]
          refine tkT 12 rfl ?_;refine tkT 13 rfl ?_;refine tkT 14 rfl ?_;refine tkO 15 rfl fun K hK => ?_;go_simp;have h8w := hcur.size;have hb8 := block_lt_of_cell hHeld11;have hog := fun j e => own_lt hod j e;refine alloc_name ?_;intro wz k19 hbz;replace hod := hod.below hbz;replace hD := hD.below hbz;replace hop := hop.below hbz;replace ho := ho.below hbz;replace hof := hof.below hbz;replace hoM := hoM.below hbz;replace hoS := hoS.below hbz;replace k13 := k13.below hbz k13.lt;replace k5 := k5.below hbz k5.lt;replace k10 := k10.below hbz k10.lt
          (try replace hob := hob.below hbz)
          (try replace hok := hok.below hbz)
          replace hcur := below_then hcur hbz;refine hK.out _ _ ?_ (fun hHeld15 => ?_)
          ·exact cell_b hbz hHeld11
          clear hK K
          try simp only [Act.put, pq1, pq2, pq3]
          refine tkO 16 rfl fun K hK => ?_;have cz0 := k19.cell 0;have cz1 := k19.cell 1;have cz2 := k19.cell 2;have fz0 := k19.frozen 0;have fz1 := k19.frozen 1;have fz2 := k19.frozen 2;go_simp;refine set3_name k19 ?_;intro ws kS hgS hcS;clear cz0 cz1 cz2 fz0 fz1 fz2;refine hK.out _ _ ?_ (fun hHeld16 => ?_)
          ·exact (hcS _ _ (Nat.ne_of_lt hb8)).trans hHeld15
          clear hK K
          try simp only [Act.put]
          refine tkK 17 rfl fun K hK => ?_;go_simp;refine hK.out _ _ ?_;clear hK K
          try simp only [Act.put, pq1, pq2, pq3]
          refine tkD ?_;go_wp2_with fail;go_meet;exact ⟨_, _, _, _, rfl, rfl, rfl, rfl, rfl, rfl, kS, hok.grown hgS rfl k19 (by decide) (by decide), OwnL.raise (OwnL.kept hop hgS (.inr (Ne.symm (own_ty hop k19 (by decide))))) hgpc, OwnL.kept hod hgS (.inr (fun e => absurd (hog _ e) (Nat.lt_irrefl _))), hD.grown hgS rfl k19 (by decide) (by decide), OwnL.kept ho hgS (.inr (Ne.symm (own_ty ho k19 (by decide)))), k13.grown hgS (fun e => blk_ty k13 k19 (by decide) (Option.some.inj e)), k5.grown hgS (fun e => blk_ty k5 k19 (by decide) (Option.some.inj e)), k10.grown hgS (fun e => blk_ty k10 k19 (by decide) (Option.some.inj e)), OwnL.kept hof hgS (.inr (Ne.symm (own_ty hof k19 (by decide)))), OwnL.kept hoM hgS (.inr (Ne.symm (own_ty hoM k19 (by decide)))), OwnL.kept hoS hgS (.inr (Ne.symm (own_ty hoS k19 (by decide)))), hcur.grown hgS hcur.size (fun j e => by cases e; exact h8w)⟩
         ·skip;go_simp;have h8w := hcur.size;have hb8 := block_lt_of_cell hHeld9;have hog := fun j e => own_lt hod j e;refine alloc_name ?_;intro wz k19 hbz;replace hod := hod.below hbz;replace hD := hD.below hbz;replace hop := hop.below hbz;replace ho := ho.below hbz;replace hof := hof.below hbz;replace hoM := hoM.below hbz;replace hoS := hoS.below hbz;replace k13 := k13.below hbz k13.lt;replace k5 := k5.below hbz k5.lt;replace k10 := k10.below hbz k10.lt
          (try replace hob := hob.below hbz)
          (try replace hok := hok.below hbz)
          replace hcur := below_then hcur hbz;refine hK.out _ _ ?_ (fun hHeld15 => ?_)
          ·exact cell_b hbz hHeld9
          clear hK K
          try simp only [Act.put, pq1, pq2, pq3]
          refine tkO 11 rfl fun K hK => ?_;go_simp;go_at_call 100;refine (q2.out _ _ _ _ _ (rowN_own hop) (rowN_own hob)).mono ?_;rintro e wc ⟨v1, v3, pt, rfl, hok, hbc⟩;obtain ⟨bs, hbs, -⟩ := hok.box;obtain ⟨Av, cv, hv1, -⟩ := OwnL.row hok.com encI_len;obtain ⟨Av3, cv3, hv3, -⟩ := OwnL.row hbs encT_len;subst hv1;subst hv3;clear hbs;have hgcc := own_lt ho gc rfl;replace hok := hok.le (Nat.succ_le_of_lt hgcc);simp only [dealA]
          (try go_wp2_with fail)
          replace hod := hod.below hbc;replace hD := hD.below hbc;replace hop := hop.below hbc;replace ho := ho.below hbc;replace hof := hof.below hbc;replace hoM := hoM.below hbc;replace hoS := hoS.below hbc;replace k13 := k13.below hbc k13.lt;replace k5 := k5.below hbc k5.lt;replace k10 := k10.below hbc k10.lt
          (try replace hob := hob.below hbc)
          (try replace k19 := k19.below hbc k19.lt)
          replace hcur := below_then hcur hbc;refine hK.out _ _ ?_ (fun hHeld11 => ?_)
          ·exact cell_b hbc hHeld15
          clear hK K
          try simp only [Act.put, pq1, pq2, pq3]
          refine tkT 12 rfl ?_;refine tkT 13 rfl ?_;refine tkT 14 rfl ?_;refine tkO 16 rfl fun K hK => ?_;have cz0 := k19.cell 0;have cz1 := k19.cell 1;have cz2 := k19.cell 2;have fz0 := k19.frozen 0;have fz1 := k19.frozen 1;have fz2 := k19.frozen 2;go_simp;refine set3_name k19 ?_;intro ws kS hgS hcS;clear cz0 cz1 cz2 fz0 fz1 fz2;refine hK.out _ _ ?_ (fun hHeld16 => ?_)
          ·exact (hcS _ _ (Nat.ne_of_lt hb8)).trans hHeld11
          clear hK K
          try simp only [Act.put]
          refine tkK 17 rfl fun K hK => ?_;go_simp;refine hK.out _ _ ?_;clear hK K
          try simp only [Act.put, pq1, pq2, pq3]
          refine tkD ?_;go_wp2_with fail;go_meet;exact ⟨_, _, _, _, rfl, rfl, rfl, rfl, rfl, rfl, kS, hok.grown hgS rfl k19 (by decide) (by decide), OwnL.raise (OwnL.kept hop hgS (.inr (Ne.symm (own_ty hop k19 (by decide))))) hgpc, OwnL.kept hod hgS (.inr (fun e => absurd (hog _ e) (Nat.lt_irrefl _))), hD.grown hgS rfl k19 (by decide) (by decide), OwnL.kept ho hgS (.inr (Ne.symm (own_ty ho k19 (by decide)))), k13.grown hgS (fun e => blk_ty k13 k19 (by decide) (Option.some.inj e)), k5.grown hgS (fun e => blk_ty k5 k19 (by decide) (Option.some.inj e)), k10.grown hgS (fun e => blk_ty k10 k19 (by decide) (Option.some.inj e)), OwnL.kept hof hgS (.inr (Ne.symm (own_ty hof k19 (by decide)))), OwnL.kept hoM hgS (.inr (Ne.symm (own_ty hoM k19 (by decide)))), OwnL.kept hoS hgS (.inr (Ne.symm (own_ty hoS k19 (by decide)))), hcur.grown hgS hcur.size (fun j e => by cases e; exact h8w)⟩
        ·skip;go_simp;have h8w := hcur.size;have hb8 := block_lt_of_cell hHeld2;have hog := fun j e => own_lt hod j e;refine alloc_name ?_;intro wz k19 hbz;replace hod := hod.below hbz;replace hD := hD.below hbz;replace hop := hop.below hbz;replace ho := ho.below hbz;replace hof := hof.below hbz;replace hoM := hoM.below hbz;replace hoS := hoS.below hbz;replace k13 := k13.below hbz k13.lt;replace k5 := k5.below hbz k5.lt;replace k10 := k10.below hbz k10.lt
         (try replace hob := hob.below hbz)
         (try replace hok := hok.below hbz)
         replace hcur := below_then hcur hbz;refine hK.out _ _ ?_ (fun hHeld15 => ?_)
         ·exact cell_b hbz hHeld2
         clear hK K
         try simp only [Act.put, pq1, pq2, pq3]
         refine tkO 9 rfl fun K hK => ?_;go_simp;go_at_call 94;refine (m3.out _).mono ?_;rintro e wb ⟨rfl, hbb⟩
         (try go_wp2_with fail)
         replace hod := hod.below hbb;replace hD := hD.below hbb;replace hop := hop.below hbb;replace ho := ho.below hbb;replace hof := hof.below hbb;replace hoM := hoM.below hbb;replace hoS := hoS.below hbb;replace k13 := k13.below hbb k13.lt;replace k5 := k5.below hbb k5.lt;replace k10 := k10.below hbb k10.lt
         (try replace hob := hob.below hbb)
         (try replace hok := hok.below hbb)
         (try replace k19 := k19.below hbb k19.lt)
         replace hcur := below_then hcur hbb;refine hK.out _ _ ?_ (fun hHeld9 => ?_)
         ·exact cell_b hbb hHeld15
         clear hK K
         try simp only [Act.put, pq1, pq2, pq3]
         refine tkT 10 rfl ?_;refine tkO 11 rfl fun K hK => ?_;go_simp;go_at_call 100;refine (q2.out _ _ _ _ _ (rowN_own hop) (rowN_own hob)).mono ?_;rintro e wc ⟨v1, v3, pt, rfl, hok, hbc⟩;obtain ⟨bs, hbs, -⟩ := hok.box;obtain ⟨Av, cv, hv1, -⟩ := OwnL.row hok.com encI_len;obtain ⟨Av3, cv3, hv3, -⟩ := OwnL.row hbs encT_len;subst hv1;subst hv3;clear hbs;have hgcc := own_lt ho gc rfl;replace hok := hok.le (Nat.succ_le_of_lt hgcc);simp only [dealA]
         (try go_wp2_with fail)
         replace hod := hod.below hbc;replace hD := hD.below hbc;replace hop := hop.below hbc;replace ho := ho.below hbc;replace hof := hof.below hbc;replace hoM := hoM.below hbc;replace hoS := hoS.below hbc;replace k13 := k13.below hbc k13.lt;replace k5 := k5.below hbc k5.lt;replace k10 := k10.below hbc k10.lt
         (try replace hob := hob.below hbc)
         (try replace k19 := k19.below hbc k19.lt)
         replace hcur := below_then hcur hbc;refine hK.out _ _ ?_ (fun hHeld11 => ?_)
         ·exact cell_b hbc hHeld9
         clear hK K
         try simp only [Act.put, pq1, pq2, pq3]
         refine tkT 12 rfl ?_;refine tkT 13 rfl ?_;refine tkT 14 rfl ?_;refine tkO 16 rfl fun K hK => ?_;have cz0 := k19.cell 0;have cz1 := k19.cell 1;have cz2 := k19.cell 2;have fz0 := k19.frozen 0;have fz1 := k19.frozen 1;have fz2 := k19.frozen 2;go_simp;refine set3_name k19 ?_;intro ws kS hgS hcS;clear cz0 cz1 cz2 fz0 fz1 fz2;refine hK.out _ _ ?_ (fun hHeld16 => ?_)
         ·exact (hcS _ _ (Nat.ne_of_lt hb8)).trans hHeld11
         clear hK K
         try simp only [Act.put]
         refine tkK 17 rfl fun K hK => ?_;go_simp;refine hK.out _ _ ?_;clear hK K
         try simp only [Act.put, pq1, pq2, pq3]
         refine tkD ?_;go_wp2_with fail;go_meet;exact ⟨_, _, _, _, rfl, rfl, rfl, rfl, rfl, rfl, kS, hok.grown hgS rfl k19 (by decide) (by decide), OwnL.raise (OwnL.kept hop hgS (.inr (Ne.symm (own_ty hop k19 (by decide))))) hgpc, OwnL.kept hod hgS (.inr (fun e => absurd (hog _ e) (Nat.lt_irrefl _))), hD.grown hgS rfl k19 (by decide) (by decide), OwnL.kept ho hgS (.inr (Ne.symm (own_ty ho k19 (by decide)))), k13.grown hgS (fun e => blk_ty k13 k19 (by decide) (Option.some.inj e)), k5.grown hgS (fun e => blk_ty k5 k19 (by decide) (Option.some.inj e)), k10.grown hgS (fun e => blk_ty k10 k19 (by decide) (Option.some.inj e)), OwnL.kept hof hgS (.inr (Ne.symm (own_ty hof k19 (by decide)))), OwnL.kept hoM hgS (.inr (Ne.symm (own_ty hoM k19 (by decide)))), OwnL.kept hoS hgS (.inr (Ne.symm (own_ty hoS k19 (by decide)))), hcur.grown hgS hcur.size (fun j e => by cases e; exact h8w)⟩
       ·skip;go_simp;have h8w := hcur.size;have hb8 := block_lt_of_cell hHeld;have hog := fun j e => own_lt hod j e;refine alloc_name ?_;intro wz k19 hbz;replace hod := hod.below hbz;replace hD := hD.below hbz;replace hop := hop.below hbz;replace ho := ho.below hbz;replace hof := hof.below hbz;replace hoM := hoM.below hbz;replace hoS := hoS.below hbz;replace k13 := k13.below hbz k13.lt;replace k5 := k5.below hbz k5.lt;replace k10 := k10.below hbz k10.lt
        (try replace hob := hob.below hbz)
        (try replace hok := hok.below hbz)
        replace hcur := below_then hcur hbz;refine hK.out _ _ ?_ (fun hHeld15 => ?_)
        ·exact cell_b hbz hHeld
        clear hK K
        try simp only [Act.put, pq1, pq2, pq3]
        refine tkO 2 rfl fun K hK => ?_;go_simp;go_at_call 101;refine (q1.out _ (OwnL.row_at hoM encM_len)).mono ?_;rintro e wa ⟨vb, rfl, hob, hba⟩;obtain ⟨Ab, cb, hvb, -⟩ := OwnL.row hob encI_len;rw [HBX.out, intsN_len, hkl] at hvb;rw [HBX.out] at hob;subst hvb
        (try go_wp2_with fail)
        replace hod := hod.below hba;replace hD := hD.below hba;replace hop := hop.below hba;replace ho := ho.below hba;replace hof := hof.below hba;replace hoM := hoM.below hba;replace hoS := hoS.below hba;replace k13 := k13.below hba k13.lt;replace k5 := k5.below hba k5.lt;replace k10 := k10.below hba k10.lt
        (try replace hok := hok.below hba)
        (try replace k19 := k19.below hba k19.lt)
        replace hcur := below_then hcur hba;refine hK.out _ _ ?_ (fun hHeld2 => ?_)
        ·exact cell_b hba hHeld15
        clear hK K
        try simp only [Act.put, pq1, pq2, pq3]
        refine tkO 9 rfl fun K hK => ?_;go_simp;go_at_call 94;refine (m3.out _).mono ?_;rintro e wb ⟨rfl, hbb⟩
        (try go_wp2_with fail)
        replace hod := hod.below hbb;replace hD := hD.below hbb;replace hop := hop.below hbb;replace ho := ho.below hbb;replace hof := hof.below hbb;replace hoM := hoM.below hbb;replace hoS := hoS.below hbb;replace k13 := k13.below hbb k13.lt;replace k5 := k5.below hbb k5.lt;replace k10 := k10.below hbb k10.lt
        (try replace hob := hob.below hbb)
        (try replace hok := hok.below hbb)
        (try replace k19 := k19.below hbb k19.lt)
        replace hcur := below_then hcur hbb;refine hK.out _ _ ?_ (fun hHeld9 => ?_)
        ·exact cell_b hbb hHeld2
        clear hK K
        try simp only [Act.put, pq1, pq2, pq3]
        refine tkT 10 rfl ?_;refine tkO 11 rfl fun K hK => ?_;go_simp;go_at_call 100;refine (q2.out _ _ _ _ _ (rowN_own hop) (rowN_own hob)).mono ?_;rintro e wc ⟨v1, v3, pt, rfl, hok, hbc⟩;obtain ⟨bs, hbs, -⟩ := hok.box;obtain ⟨Av, cv, hv1, -⟩ := OwnL.row hok.com encI_len;obtain ⟨Av3, cv3, hv3, -⟩ := OwnL.row hbs encT_len;subst hv1;subst hv3;clear hbs;have hgcc := own_lt ho gc rfl;replace hok := hok.le (Nat.succ_le_of_lt hgcc);simp only [dealA]
        (try go_wp2_with fail)
        replace hod := hod.below hbc;replace hD := hD.below hbc;replace hop := hop.below hbc;replace ho := ho.below hbc;replace hof := hof.below hbc;replace hoM := hoM.below hbc;replace hoS := hoS.below hbc;replace k13 := k13.below hbc k13.lt;replace k5 := k5.below hbc k5.lt;replace k10 := k10.below hbc k10.lt
        (try replace hob := hob.below hbc)
        (try replace k19 := k19.below hbc k19.lt)
        replace hcur := below_then hcur hbc;refine hK.out _ _ ?_ (fun hHeld11 => ?_)
        ·exact cell_b hbc hHeld9
        clear hK K
        try simp only [Act.put, pq1, pq2, pq3]
        refine tkT 12 rfl ?_;refine tkT 13 rfl ?_;refine tkT 14 rfl ?_;refine tkO 16 rfl fun K hK => ?_;have cz0 := k19.cell 0;have cz1 := k19.cell 1;have cz2 := k19.cell 2;have fz0 := k19.frozen 0;have fz1 := k19.frozen 1;have fz2 := k19.frozen 2;go_simp;refine set3_name k19 ?_;intro ws kS hgS hcS;clear cz0 cz1 cz2 fz0 fz1 fz2;refine hK.out _ _ ?_ (fun hHeld16 => ?_)
        ·exact (hcS _ _ (Nat.ne_of_lt hb8)).trans hHeld11
        clear hK K
        try simp only [Act.put]
        refine tkK 17 rfl fun K hK => ?_;go_simp;refine hK.out _ _ ?_;clear hK K
        try simp only [Act.put, pq1, pq2, pq3]
        refine tkD ?_;go_wp2_with fail;go_meet;exact ⟨_, _, _, _, rfl, rfl, rfl, rfl, rfl, rfl, kS, hok.grown hgS rfl k19 (by decide) (by decide), OwnL.raise (OwnL.kept hop hgS (.inr (Ne.symm (own_ty hop k19 (by decide))))) hgpc, OwnL.kept hod hgS (.inr (fun e => absurd (hog _ e) (Nat.lt_irrefl _))), hD.grown hgS rfl k19 (by decide) (by decide), OwnL.kept ho hgS (.inr (Ne.symm (own_ty ho k19 (by decide)))), k13.grown hgS (fun e => blk_ty k13 k19 (by decide) (Option.some.inj e)), k5.grown hgS (fun e => blk_ty k5 k19 (by decide) (Option.some.inj e)), k10.grown hgS (fun e => blk_ty k10 k19 (by decide) (Option.some.inj e)), OwnL.kept hof hgS (.inr (Ne.symm (own_ty hof k19 (by decide)))), OwnL.kept hoM hgS (.inr (Ne.symm (own_ty hoM k19 (by decide)))), OwnL.kept hoS hgS (.inr (Ne.symm (own_ty hoS k19 (by decide)))), hcur.grown hgS hcur.size (fun j e => by cases e; exact h8w)⟩
      case rest =>
       clear hop hod hD ho k13 k5 k10 hof hoM hoS hB;obtain ⟨p19, v1, v3, pt, rfl, rfl, rfl, rfl, rfl, rfl, k19, hok, hop, hod, hD, ho, k13, k5, k10, hof, hoM, hoS, hB⟩ := hcut;obtain ⟨bs, hbs, -⟩ := hok.box;obtain ⟨Av, cv, rfl, -⟩ := OwnL.row hok.com encI_len;obtain ⟨Av3, cv3, rfl, -⟩ := OwnL.row hbs encT_len;clear hbs;have z0 : _ = some (Value.slice Av (intsN ((polyR seed.data.toList N cf f).map gP)).length cv) := k19.cell 0;have z1 : _ = some (Value.int .i64 pt) := k19.cell 1;have z2 : _ = some (Value.slice Av3 bs.length cv3) := k19.cell 2;go_upto_region 16 with (refine wp_append_row (enc := encD) Tryz.underlying105 deal_info rfl (by decide) (by decide) rfl _ _ rfl ⟨.slice Av (intsN ((polyR seed.data.toList N cf f).map gP)).length cv, pt, .slice Av3 bs.length cv3⟩ rfl rfl hok.one_cell rfl hod rfl (by omega) hB.size ?_; intro v6 w15 hod6 hg6);obtain ⟨pR, hpR⟩ : ∃ p, p = polyR seed.data.toList N cf f := ⟨_, rfl⟩;have hpRl : pR.length = N := by rw [hpR, polyR_len]
       rw [← hpR] at hop hok hod6 k19;have HPQ : Hid (P.take i ++ [pR] = P.take (i + 1)) := Lib.hid (by rw [List.take_add_one, HPI.out.2, hpR]; rfl);have hD6 := DealsOK.snoc (d := ⟨.slice Av (intsN (pR.map gP)).length cv, pt, .slice Av3 bs.length cv3⟩) (hD.kept hod hg6) (hok.kept hod hg6);have ho6 := OwnL.kept ho hg6 (rows_apart ho hod (by decide));have hof6 := OwnL.kept hof hg6 (rows_apart hof hod (by decide));have hop6 := OwnL.kept hop hg6 (rows_apart hop hod (by decide));have hoM6 := OwnL.kept hoM hg6 (rows_apart hoM hod (by decide));have hoS6 := OwnL.kept hoS hg6 (rows_apart hoS hod (by decide));have k136 := k13.grown hg6 (own_ty hod k13 (by decide));have k56 := k5.grown hg6 (own_ty hod k5 (by decide));have k106 := k10.grown hg6 (own_ty hod k10 (by decide));have hB6 := hB.grown hg6 hB.size (own_high hod);have hz := (midF_zero fs (P.take i) (P.take i ++ [pR]) N).symm;rw [hz] at ho6;obtain ⟨es, hes⟩ := exq (ds ++ [⟨.slice Av (intsN (pR.map gP)).length cv, pt, .slice Av3 bs.length cv3⟩]);have hesl : es.length = i + 1 := by rw [hes, List.length_append, hdl]; rfl
       rw [← hes] at hD6;replace hod6 : OwnD w.heap.size w15 v6 es := by rw [hes, hpR]; rw [← hpR]; exact hod6
       obtain ⟨bf, of, fv, rfl, hfv, cfv⟩ := rowN_at (rowN_own hof6) hlt;have HFV := Lib.hid hfv;have hPl : (P.take i).length = i := by
        have := (List.getElem?_eq_some_iff.1 HPI.out.2).1;rw [List.length_take]; omega
       have HPL := Lib.hid hPl;clear hz hes hpR hfv cfv hPl hod hD ho hof hop hoM hoS k13 k5 k10 hB hg6 k19 z0 z1 z2 hok;go_wp2_with fail
       go_loopw [21] (fun s21 W => ∃ j : Nat, j ≤ N ∧ s21 = .int .i64 (j : Int) ∧ OwnI Bc W (.slice (some ⟨gc, 0, none⟩) N cg) (intsN (midF fs (P.take i) (P.take i ++ [pR]) N j)) ∧ Blk W p13 59 #[.slice A1 ms.length c1, .slice A2 ss.length c2, .slice (some ⟨gc, 0, none⟩) N cg, .slice none 0 0, .slice none 0 0] ∧ Blk W p5 59 #[ga, gb, .slice Ac N0 cc, .slice Ak N0 ck, .slice Ap mp cp] ∧ Blk W (p5 + 1) 59 #[.slice none 0 0, .slice none 0 0, .slice none 0 0, .slice none 0 0, .slice none 0 0] ∧ OwnI (gc + 1) W (.slice (some ⟨bf, of, none⟩) N0 cf2) (intsN fs) ∧ OwnI (gc + 1) W (.slice (some ⟨gp, 0, none⟩) N cq) (intsN pR) ∧ OwnD w.heap.size W v6 es ∧ DealsOK (gc + 1) W es (P.take i ++ [pR]) T ∧ OwnM B0 W (.slice A1 ms.length c1) ms ∧ OwnI B0 W (.slice A2 ss.length c2) (intsN ss) ∧ Below w.heap.size w W) (fun s21 _ => N - (intOf s21).toNat)
       case atStart => exact ⟨0, by omega, rfl, ho6, k136, k56, k106, hof6, hop6, hod6, hD6, hoM6, hoS6, hB6⟩
       case round =>
        clear ho6 k136 k56 k106 hof6 hop6 hod6 hD6 hoM6 hoS6 hB6;obtain ⟨j, hj, rfl, ho, k13, k5, k10, hof, hop, hod, hD, hoM, hoS, hB⟩ := hrel
        by_cases hltj : j < N
        ·have hltj' : (j : Int) < (N : Int) := by omega
         obtain ⟨bp, op, y, e', hy, cy⟩ := rowN_at (rowN_own hop) hltj
         cases e'
         rw [Nat.zero_add] at cy;obtain ⟨bf', of', fv', e', hfv', cfv⟩ := rowN_at (rowN_own hof) hlt
         cases e'
         obtain rfl : fv = fv' := Option.some.inj (HFV.out.symm.trans hfv');have hg := midF_get (fs := fs) (P := P.take i) (Q := P.take i ++ [pR]) hltj;obtain ⟨a, ha⟩ := exq (dotN fs (colN (P.take i) j) 0);rw [← ha] at hg;have ca := OwnI.cell ho (j := j) (x := (a : Int)) (by unfold intsN; rw [List.getElem?_map, hg]; rfl);obtain ⟨z1, hz1⟩ : ∃ z, z = fv * y % qG := ⟨_, rfl⟩;obtain ⟨z, hz⟩ := exq ((a + z1) % qG)
         have HS : Hid ((intsN (midF fs (P.take i) (P.take i ++ [pR]) N j)).set j (z : Int) = intsN (midF fs (P.take i) (P.take i ++ [pR]) N (j + 1))) := Lib.hid (by
          rw [intsN_set, ← midF_set hltj (by rw [HPL.out]; exact HFV.out), hz, hz1, ha, List.getD_eq_getElem?_getD, hy]
          rfl)
         have pM := Lib.hid (rMulQ_q fv y);rw [← hz1] at pM;have pA := Lib.hid (rAddQ_q a z1);rw [← hz] at pA;have hlj : (intsN (midF fs (P.take i) (P.take i ++ [pR]) N j)).length = N := by rw [intsN_len, midF_len _ _ _ hj]
         have hfz : wr.drew.frozen? ⟨gc, j, none⟩ = false := OwnI.frozen ho hlj.symm j;have g2 : wr.drew.cell? ⟨p13, 2, none⟩ = some (.slice (some ⟨gc, 0, none⟩) N cg) := k13.cell 2;have g3 : wr.drew.cell? ⟨gc, j, none⟩ = some (.int .i64 (a : Int)) := ca;have g4 : wr.drew.cell? ⟨gp, j, none⟩ = some (.int .i64 (y : Int)) := cy;have g5 : wr.drew.cell? ⟨bf, of + i, none⟩ = some (.int .i64 (fv : Int)) := cfv;have HLJ := Lib.hid hlj;have ho2 : OwnI Bc wr.drew (.slice (some ⟨gc, 0, none⟩) N cg) (intsN (midF fs (P.take i) (P.take i ++ [pR]) N j)) := ho;have k13d : Blk wr.drew p13 59 _ := k13;have k5d : Blk wr.drew p5 59 _ := k5;have k10d : Blk wr.drew (p5 + 1) 59 _ := k10;have hopd : OwnI (gc + 1) wr.drew (.slice (some ⟨gp, 0, none⟩) N cq) (intsN pR) := hop;have hofd : OwnI (gc + 1) wr.drew (.slice (some ⟨bf, of, none⟩) N0 cf2) (intsN fs) := hof;have had : OwnM B0 wr.drew (.slice A1 ms.length c1) ms := hoM;have hbd : OwnI B0 wr.drew (.slice A2 ss.length c2) (intsN ss) := hoS;have hdd : OwnD w.heap.size wr.drew v6 es := hod;have hDd : DealsOK (gc + 1) wr.drew es (P.take i ++ [pR]) T := hD.below (Below.refl _ _).drew;have hBd : Below w.heap.size w wr.drew := hB.drew;clear hz hz1 ha hg ca cy hy cfv hfv' k13 k5 k10 ho hop hof hoM hoS hod hD hB hlj;go_upto_region 19 with fail;refine region_here (fun Z => Z.cell? ⟨p13, 2, none⟩ = some (.slice (some ⟨gc, 0, none⟩) N cg) ∧ Z.cell? ⟨gc, j, none⟩ = some (.int .i64 (a : Int)) ∧ Z.cell? ⟨gp, j, none⟩ = some (.int .i64 (y : Int)) ∧ Z.cell? ⟨bf, of + i, none⟩ = some (.int .i64 (fv : Int))) 19 (by kernel_rfl) ⟨g2, g3, g4, g5⟩ (fun hHeld => ?_);refine tkT 0 rfl ?_;refine tkT 1 rfl ?_;refine tkT 2 rfl ?_;refine tkT 3 rfl ?_;refine tkT 4 rfl ?_;refine tkT 5 rfl ?_;refine tkT 6 rfl ?_;refine tkT 7 rfl ?_;refine tkT 8 rfl ?_;refine tkT 9 rfl ?_;refine tkT 10 rfl ?_;refine tkT 11 rfl ?_;refine tkT 12 rfl ?_;refine tkT 13 rfl ?_;refine tkT 14 rfl ?_;refine tkT 15 rfl ?_;refine tkO 16 rfl fun K hK => ?_;go_simp;go_at_call 102;refine (pM.out _).mono ?_;rintro e wa ⟨rfl, hww⟩;obtain rfl := hww.symm
         (try go_wp2_with fail)
         refine hK.out _ _ ?_ (fun hHeld16 => ?_)
         ·exact hHeld
         clear hK K
         try simp only [Act.put, pq1, pq2, pq3]
         refine tkO 17 rfl fun K hK => ?_;go_simp;go_at_call 95;refine (pA.out _).mono ?_;rintro e wa ⟨rfl, hww⟩;obtain rfl := hww.symm
         (try go_wp2_with fail)
         refine hK.out _ _ ?_ (fun hHeld17 => ?_)
         ·exact hHeld16
         clear hK K
         try simp only [Act.put, pq1, pq2, pq3]
         refine tkT 18 rfl ?_;refine tkK 19 rfl fun K hK => ?_;have fz := hfz;go_simp;refine hK.out _ _ ?_;clear hK K
         try simp only [Act.put]
         refine tkD ?_;have hoS := OwnI.stored ho2 j (z : Int) HLJ.out.symm;have hgS := grown_set (grown_refl wr.drew (some gc)) j (.int .i64 (z : Int));go_wp2_with fail;go_roundw
         case rel => exact ⟨j + 1, by omega, by go_num, by rw [← HS.out]; exact hoS, k13d.grown hgS (fun e => own_ty ho2 k13d (by decide) e), k5d.grown hgS (fun e => own_ty ho2 k5d (by decide) e), k10d.grown hgS (fun e => own_ty ho2 k10d (by decide) e), OwnL.kept hofd hgS (.inr (fun e => absurd (own_high hofd gc e) (Nat.not_succ_le_self _))), OwnL.kept hopd hgS (.inr (fun e => absurd (own_high hopd gc e) (Nat.not_succ_le_self _))), OwnL.kept hdd hgS (rows_apart hdd ho2 (by decide)), hDd.far hgS (Nat.lt_succ_self _), OwnL.kept had hgS (rows_apart had ho2 (by decide)), OwnL.kept hbd hgS (.inr hbc), hBd.grown hgS hBd.size (fun i e => by cases e; exact hgcB)⟩
         case measure => simp [intOf]; omega
        ·obtain rfl : N = j := by omega
         rw [midF_end, HPQ.out] at ho;rw [HPQ.out] at hD;go_wp2_with fail;go_roundw
         case rel => exact ⟨i + 1, es, by omega, by go_num, hesl, hod, hD, ho, k13, k5, k10, hof, hoM, hoS, hB⟩
         case measure => simp [intOf]; omega
    ·obtain rfl : N0 = i := by omega
     have hpsl := rowN_len HR.out.2.2.2.2;have hPl : P.length = N0 := by rw [HK.out.2.2.2.2.1]; unfold polysR; rw [List.length_map, hpsl]
     rw [List.take_of_length_le (by omega)] at ho hD;obtain ⟨Ad, cd, hvd, -⟩ := OwnL.row hod encD_len;rw [hdl] at hvd;subst hvd;have d3 : _ = some (Value.slice Ak N0 ck) := k5.cell 3;have d4 : _ = some (Value.slice Ap mp cp) := k5.cell 4;clear hdl hpsl hPl
     go_upto_region 21 with (first
      | (go_at_call 103; (with_reducible refine (q5.out _ _ _ _ _ (HR.out.2.1.below hB) (HR.out.2.2.1.below hB) (HR.out.2.2.2.1.below hB) (OwnL.row_at hoM encM_len) (HR.out.2.2.2.2.below hB) (OwnL.row_at hod encD_len) hD).mono ?_); rintro e w20 ⟨vc, vp, vs2, rfl, hoc, hov, hL, hb⟩; replace hoc := hoc.le (Nat.le_trans hB0 hB.size); replace hov := hov.le (Nat.le_trans hB0 hB.size); replace hL := hL.le (Nat.le_trans hB0 hB.size); replace k10 := k10.below hb k10.lt; replace k13 := k13.below hb k13.lt; replace ho := ho.below hb; replace hoM := hoM.below hb; replace hoS := hoS.below hb; replace hB := below_then hB hb; clear hb d3 d4; obtain ⟨Ax, cx, rfl, -⟩ := OwnL.row hoc encI_len; obtain ⟨Av, cv, rfl, -⟩ := OwnL.row hov encV_len; have f3 := k13.frozen 3; have f4 := k13.frozen 4; have x3 : _ = some (Value.slice none 0 0) := k13.cell 3; have x4 : _ = some (Value.slice none 0 0) := k13.cell 4))
     have kS : Blk _ p13 59 #[(.slice A1 ms.length c1), (.slice A2 ss.length c2), (.slice (some ⟨gc, 0, none⟩) N cg), (.slice Ax (intsN ((accF fs P N).map gP)).length cx), (.slice Av vs2.length cv)] := (k13.set_ 3 (.slice Ax (intsN ((accF fs P N).map gP)).length cx)).set_ 4 (.slice Av vs2.length cv);have hgS := grown_set (grown_set (grown_refl w20 (some p13)) 3 (.slice Ax (intsN ((accF fs P N).map gP)).length cx)) 4 (.slice Av vs2.length cv);replace hoc := OwnL.kept hoc hgS (.inr (Ne.symm (own_ty hoc k13 (by decide))));replace hov := OwnL.kept hov hgS (.inr (Ne.symm (own_ty hov k13 (by decide))));replace hL := hL.far k13 (by decide) hgS;replace ho := OwnL.kept ho hgS (.inr (Ne.symm (own_ty ho k13 (by decide))));replace hoM := OwnL.kept hoM hgS (.inr (Ne.symm (own_ty hoM k13 (by decide))));replace hoS := OwnL.kept hoS hgS (.inr (Ne.symm (own_ty hoS k13 (by decide))));replace k10 := k10.grown hgS (fun e => h10x (Option.some.inj e));replace hB := hB.grown hgS hB.size (fun j e => by cases e; exact h13B);obtain ⟨w21, hw21⟩ := exq ((w20.setCell ⟨p13, 3, none⟩ (.slice Ax (intsN ((accF fs P N).map gP)).length cx)).setCell ⟨p13, 4, none⟩ (.slice Av vs2.length cv));rw [← hw21] at kS hoc hov hL ho hoM hoS k10 hB ⊢;clear hw21 hgS f3 f4 x3 x4 k13 q4 q5 q6 hod hD;have c0 : _ = some (Value.slice A1 ms.length c1) := kS.cell 0;have c1' : _ = some (Value.slice A2 ss.length c2) := kS.cell 1;have c2' : _ = some (Value.slice (some ⟨gc, 0, none⟩) N cg) := kS.cell 2;have c3 : _ = some (Value.slice Ax (intsN ((accF fs P N).map gP)).length cx) := kS.cell 3;have c4 : _ = some (Value.slice Av vs2.length cv) := kS.cell 4;have d0 : _ = some (Value.slice none 0 0) := k10.cell 0;have d1 : _ = some (Value.slice none 0 0) := k10.cell 1;have d2 : _ = some (Value.slice none 0 0) := k10.cell 2;have d3 : _ = some (Value.slice none 0 0) := k10.cell 3;have d4 : _ = some (Value.slice none 0 0) := k10.cell 4;have f0 := k10.frozen 0;have f1 := k10.frozen 1;have f2 := k10.frozen 2;have f3 := k10.frozen 3;have f4 := k10.frozen 4;go_wp2_with fail;have kR : Blk _ (p5 + 1) 59 #[(.slice A1 ms.length c1), (.slice A2 ss.length c2), (.slice (some ⟨gc, 0, none⟩) N cg), (.slice Ax (intsN ((accF fs P N).map gP)).length cx), (.slice Av vs2.length cv)] := ((((k10.set_ 0 (.slice A1 ms.length c1)).set_ 1 (.slice A2 ss.length c2)).set_ 2 (.slice (some ⟨gc, 0, none⟩) N cg)).set_ 3 (.slice Ax (intsN ((accF fs P N).map gP)).length cx)).set_ 4 (.slice Av vs2.length cv);have hgR := grown_set (grown_set (grown_set (grown_set (grown_set (grown_refl w21 (some (p5 + 1))) 0 (.slice A1 ms.length c1)) 1 (.slice A2 ss.length c2)) 2 (.slice (some ⟨gc, 0, none⟩) N cg)) 3 (.slice Ax (intsN ((accF fs P N).map gP)).length cx)) 4 (.slice Av vs2.length cv);refine bodyPost_ret (results_grp rfl rfl rfl kR) rfl ?_
     exact ⟨_, _, _, _, _, _, rfl,
      ⟨OwnL.kept hoM hgR (.inr (Ne.symm (own_ty hoM k10 (by decide)))), OwnL.kept hoS hgR (.inr (Ne.symm (own_ty hoS k10 (by decide)))), OwnL.kept (ho.le (Nat.le_trans hB0 hwB)) hgR (.inr (Ne.symm (own_ty ho k10 (by decide)))), OwnL.kept hoc hgR (.inr (Ne.symm (own_ty hoc k10 (by decide)))), vs2, OwnL.kept hov hgR (.inr (Ne.symm (own_ty hov k10 (by decide)))), hL.far k10 (by decide) hgR⟩,
      hB.grown hgR hB.size (fun j e => by cases e; exact Nat.le_succ_of_le h5B)⟩
end Go.Proofs.YtkpinmejfdnhbaaGreatDoor
