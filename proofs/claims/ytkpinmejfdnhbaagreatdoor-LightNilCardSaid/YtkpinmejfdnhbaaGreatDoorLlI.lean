/- The law of clients that are not made. -/
import Derived.Test.YtkpinmejfdnhbaaGreatDoorLlH
import Derived.Test.YtkpinmejfdnhbaaGreatDoorLlF
import Derived.Test.YtkpinmejfdnhbaaGreatDoorLlE
namespace Go.Proofs.YtkpinmejfdnhbaaGreatDoor
open Go.RowKit Go.Shelf
attribute [local go_sem] Oper.semAt_some

theorem chain_bent {K : Nat} {es : List Ep} {hs : List Hdr} (h : ChainOK K es hs) (_hl : es.length ≤ 1000) {ta : Hdr} (ha : hs[0]? = some ta) : (0 ≤ ta.epoch ∧ ta.epoch ≤ 1000000000) ∧ (∀ m ∈ ta.mems, 0 ≤ m.wt ∧ m.wt ≤ 1000) ∧ ta.links.length ≤ 32 ∧ ta.points.length ≤ 50 := by
 have hal := (List.getElem?_eq_some_iff.1 ha).1
 obtain ⟨e, -, h2, h3, -⟩ := h.hdr (i := 0) (by rw [← h.len]; exact hal)
 rw [ha] at h2
 cases h2
 obtain ⟨hR, -, -, -⟩ := crew_right h3.crew h3.lo h3.hi (by omega)
 refine ⟨⟨Int.le_refl _, by show (0 : Int) ≤ 1000000000; omega⟩, fun m hm => ?_, ?_, ?_⟩
 ·have := hR.wt m hm; omega
 ·show (linksL hs 0).length ≤ 32
  rw [links_len]; decide
 ·show (pointsL 1 e.ms).length ≤ 50
  rw [pointsL_len]; have := h3.hi; omega
theorem HdrInA.below {P : Nat → Prop} {w w' : World} {x : Hc} {h : Hdr} (hi : HdrInA P w x h) (hb : Below w.heap.size w w') : HdrInA P w' x h :=
 ⟨hi.e, let ⟨A, c, e, r⟩ := hi.m; ⟨A, c, e, r.below hb⟩, let ⟨A, c, e, r⟩ := hi.c; ⟨A, c, e, r.below hb⟩, let ⟨A, c, vs, e, r, s⟩ := hi.p; ⟨A, c, vs, e, r.below hb, s.below hb⟩, let ⟨A, c, e, r⟩ := hi.l; ⟨A, c, e, r.below hb⟩⟩
theorem name_blk {w : World} {g : Nat} {t : TypeId} {cs : Array Value} (h : Blk w g t cs) : ∃ p, g = p ∧ Blk w p t cs := ⟨g, rfl, h⟩
theorem low_a {P : Nat → Prop} {B p : Nat} {wa wz : World} {y : Hc} {t : Hdr} (h : HdrAp P B wa y t) (hbz : Below wa.heap.size wa wz) (hp : wa.heap.size ≤ p) : ∀ W', wz.grownBy W' (some p) → HdrIn W' y t := fun _ hg => (h.below (below_grown hbz hg hp hbz.size)).in_
theorem HdrOwn.low {B k : Nat} {w : World} {x : Hc} {h : Hdr} (hi : HdrOwn B w x h) (hk : k < B) (i : Nat) (u : Value) : HdrOwn B (w.setCell ⟨k, i, none⟩ u) x h := by
 obtain ⟨q1, q2, q3, ⟨vs, q4, q5⟩, q6⟩ := hi
 exact ⟨q1, own_set q2 hk i u, own_set q3 hk i u, ⟨vs, own_set q4 hk i u, ⟨q5.len, fun j v l hv hl => own_set (q5.one j v l hv hl) hk i u⟩⟩, own_set q6 hk i u⟩
theorem Cli.low {B p k : Nat} {w : World} {top pres : Hdr} (h : Cli B p w top pres) (hk : k < B) (i : Nat) (u : Value) : Cli B p (w.setCell ⟨k, i, none⟩ u) top pres :=
 let ⟨h1, x, y, kc, h2, h3⟩ := h
 ⟨h1, x, y, kc.far (p := ⟨k, i, none⟩) (by show p ≠ k; omega) u, h2.low hk i u, h3.low hk i u⟩

set_option maxRecDepth 100000 in
set_option maxHeartbeats 3000000 in
theorem LightNil_any (A : Option Addr) (n c : Nat) (l : List Int) (q0 q1 q2 : Int) (w : World) (hT : Tabs w) (h1 : RowI w A n c l) (hI1 : ∀ x ∈ l, I64 x) (hn : n ≤ 9223372036854775807) (hq0 : I64 q0) (hq1 : I64 q1) (_hq2 : I64 q2) :
 Calls Tryz.prog 8 #[.slice A n c, .agg #[.int .i64 q0, .int .i64 q1, .int .i64 q2]] w fun e w' => e = .returned (.bool true) ∧ Below w.heap.size w w' := by
 have HT := Lib.hid hT
 have HR := Lib.hid h1
 have HQ := Lib.hid (And.intro hq0 hq1)
 have m2 := Lib.hid (fun W h => Made_two A n c l A n c l hI1 hI1 hn hn W h h)
 clear hT h1 hI1 hn hq0 hq1 _hq2
 go_enter Tryz.func8, Tryz.ntmps8
 go_upto_region 1 with fail
 refine name1p ?_
 intro w1 kb hB
 obtain ⟨g0, hg0⟩ : ∃ g, g = w.heap.size := ⟨_, rfl⟩
 rw [← hg0] at kb ⊢
 clear hg0
 have m1 := Lib.hid (sanity_q w1 (HT.out.below hB))
 go_upto_region 2 with (go_at_call 9; (with_reducible refine m1.out.mono ?_); rintro e w2 ⟨rfl, hb2⟩)
 replace kb := kb.below hb2 kb.lt
 replace hB := below_then hB hb2
 clear m1 hb2
 go_upto_region 3 with (go_at_call 13; (with_reducible refine (m2.out _ (HR.out.below hB)).mono ?_); rintro e w3 ⟨vG, vH, gs, ys, es, hs, K, rfl, hoG, hoH, hCI, hCO, hel, hb2⟩; obtain ⟨AG, cG, hvG, hrG⟩ := OwnL.row hoG encGc_len; obtain ⟨AH, cH, hvH, hrH⟩ := OwnL.row hoH encH1_len; subst hvG hvH)
 replace kb := kb.below hb2 kb.lt
 replace hB := below_then hB hb2
 clear hb2 m2 HR
 refine name1p ?_
 intro W0 k1 hb3
 replace kb := kb.below hb3 kb.lt
 replace hB := below_then hB hb3
 have hyl : ys.length = hs.length := by have := hCI.hl; rwa [List.length_map] at this
 have hel2 : es.length = 2 := by rw [hel]; rfl
 have hes : es.length ≤ 1000 := by omega
 have hyn : ys.length = 2 := by rw [hyl, hCO.len]; exact hel2
 have hgn : gs.length = 2 := by rw [hCI.gl]; exact hel2
 rw [hgn] at hrG k1
 rw [hyn] at hrH k1
 obtain ⟨b, o, hAH, hcc⟩ := chain_cells ((rowHd_map hrH).below hb3) (⟨hCI.hl, fun i x y hx hy => (hCI.h i x y hx hy).in_.below hb3⟩) (by omega)
 subst hAH
 obtain ⟨x0, t0, ht0, hx0⟩ := hcc 0 (by omega)
 obtain ⟨x1, t1, ht1, hx1⟩ := hcc 1 (by omega)
 simp only [Nat.zero_mul, Nat.add_zero] at hx0
 simp only [Nat.one_mul] at hx1
 have HX0 := Lib.hid hx0
 have HX1 := Lib.hid hx1
 have HH := Lib.hid (And.intro ht0 ht1)
 have HCI := Lib.hid (fun W (h : Below W0.heap.size W0 W) => And.intro ((hCI.below hb3).below h) ((hrG.below hb3).below h))
 have HCO := Lib.hid (And.intro hCO hes)
 have HTT := Lib.hid (fun W (h : Below W0.heap.size W0 W) => (HT.out.below hB).below h)
 have HBN := Lib.hid (chain_bent hCO hes ht0)
 have HSM := Lib.hid (And.intro (hCO.small hes t0 (List.mem_of_getElem? ht0)) (hCO.small hes t1 (List.mem_of_getElem? ht1)))
 obtain ⟨g, hg⟩ : ∃ g, g = w3.heap.size := ⟨_, rfl⟩
 rw [← hg] at k1 ⊢
 have HG := Lib.hid (fun W (h : Below W0.heap.size W0 W) => And.intro (k1.below h k1.lt) (kb.below h kb.lt))
 have HBW := Lib.hid hB
 clear hcc hoG hoH hrG hrH hCI hCO hel hel2 hes hb3 HT hx0 hx1 ht0 ht1 hg k1 hyl hyn hgn kb hB
 have HBE := Lib.hid (fun (P : Nat → Prop) W (h : Below W0.heap.size W0 W) (hP : ∀ b, P b → b < W.heap.size) (hP0 : ∀ b, P b → W0.heap.size ≤ b) => Bent_q P x0 t0 HSM.out.1 HBN.out.1 HBN.out.2.1 HBN.out.2.2.1 HBN.out.2.2.2 q0 q1 q2 HQ.out.1 HQ.out.2 W hP ((HdrInA.of (HX0.out W0 (Below.refl _ _)).1 hP0).below h))
 have HB8 := Lib.hid (fun W (h : Below W0.heap.size W0 W) => Bent_q (fun _ => False) x0 t0 HSM.out.1 HBN.out.1 HBN.out.2.1 HBN.out.2.2.1 HBN.out.2.2.2 8 0 0 ⟨by omega, by omega⟩ ⟨by omega, by omega⟩ W (fun b e => e.elim) ((HdrInA.of (P := fun _ => False) (HX0.out W0 (Below.refl _ _)).1 (fun b e => e.elim)).below h))
 go_upto_region 3 with fail
 have HS : Hid (∀ W, Below W0.heap.size W0 W → W.cell? ⟨g, 1, none⟩ = some (.slice (some ⟨b, o, none⟩) 2 cH) ∧ W.cell? ⟨g0, 0, none⟩ = some (.int .i64 q0) ∧ W.cell? ⟨g0, 1, none⟩ = some (.int .i64 q1) ∧ W.cell? ⟨g0, 2, none⟩ = some (.int .i64 q2) ∧ W.cell? ⟨b, o, none⟩ = some (.int .i64 x0.e) ∧ W.cell? ⟨b, o + 1, none⟩ = some (x0.m) ∧ W.cell? ⟨b, o + 2, none⟩ = some (x0.c) ∧ W.cell? ⟨b, o + 3, none⟩ = some (x0.p) ∧ W.cell? ⟨b, o + 4, none⟩ = some (x0.l)) := Lib.hid (fun W h => ⟨(HG.out W h).1.cell 1, (HG.out W h).2.cell 0, (HG.out W h).2.cell 1, (HG.out W h).2.cell 2, (HX0.out W h).2⟩)
 have hbd : Below W0.heap.size W0 W0.drew := (Below.refl _ _).drew
 refine region_here (fun Z : World => Z.cell? ⟨g, 1, none⟩ = some (.slice (some ⟨b, o, none⟩) 2 cH) ∧ Z.cell? ⟨g0, 0, none⟩ = some (.int .i64 q0) ∧ Z.cell? ⟨g0, 1, none⟩ = some (.int .i64 q1) ∧ Z.cell? ⟨g0, 2, none⟩ = some (.int .i64 q2) ∧ Z.cell? ⟨b, o, none⟩ = some (.int .i64 x0.e) ∧ Z.cell? ⟨b, o + 1, none⟩ = some (x0.m) ∧ Z.cell? ⟨b, o + 2, none⟩ = some (x0.c) ∧ Z.cell? ⟨b, o + 3, none⟩ = some (x0.p) ∧ Z.cell? ⟨b, o + 4, none⟩ = some (x0.l)) 7 (by kernel_rfl) (HS.out _ hbd) (fun hHeld => ?_)
 generalize W0.drew = V at *
 refine tkT 0 rfl ?_
 refine tkT 1 rfl ?_
 refine tkT 2 rfl ?_
 refine tkT 3 rfl ?_
 refine tkT 4 rfl ?_
 refine wpAnyS_two (i := 5) (j := 6) (oi := ⟨_, _, _, _, _, _⟩) (oj := ⟨_, _, _, _, _, _⟩) rfl rfl (by kernel_rfl) (fun K hK => ?_) (fun K hK => ?_)
 ·skip
  go_simp
  go_at_call 37
  first
   | (refine (HBE.out (· = p7) _ hbd (fun b e => by rw [e]; exact kz.lt) (fun b e => by rw [e]; exact hp70)).mono ?_)
   | (refine (HBE.out (fun _ => False) _ hbd (fun b e => e.elim) (fun b e => e.elim)).mono ?_)
  rintro e wa ⟨y, t, rfl, hAp, hSm, -, hba⟩
  (try go_wp2_with fail)
  (try have hLow : ∀ W', wa.grownBy W' (some p7) → HdrIn W' y t := fun W' h => (hAp.kept h kz.lt).in_)
  (try replace kz := kz.below hba kz.lt)
  replace hbd := below_then hbd hba
  refine hK.out _ _ ?_ (fun hHeld5 => ?_)
  ·exact HS.out _ hbd
  clear hK K
  try simp only [Act.put, pq1, pq2, pq3]
  refine tkO 6 rfl fun K hK => ?_
  go_simp
  first | refine alloc_drew ?_ | refine alloc_here ?_
  intro wz kz hbz
  obtain ⟨p7, hp7, kz⟩ := name_blk kz
  have hp70 : W0.heap.size ≤ p7 := by rw [← hp7]; exact hbd.size
  rw [hp7]
  (try have hLow := low_a hAp hbz (Nat.le_of_eq hp7))
  replace hbd := below_then hbd hbz
  clear hp7
  refine hK.out _ _ ?_ (fun hHeld6 => ?_)
  ·exact HS.out _ hbd
  clear hK K
  try simp only [Act.put, pq1, pq2, pq3]
  refine tkK 7 rfl fun K hK => ?_
  have y0 : _ = some (Value.int .i64 0) := kz.cell 0
  have z0 := kz.frozen 0
  have y1 : _ = some (Value.slice none 0 0) := kz.cell 1
  have z1 := kz.frozen 1
  have y2 : _ = some (Value.slice none 0 0) := kz.cell 2
  have z2 := kz.frozen 2
  have y3 : _ = some (Value.slice none 0 0) := kz.cell 3
  have z3 := kz.frozen 3
  have y4 : _ = some (Value.slice none 0 0) := kz.cell 4
  have z4 := kz.frozen 4
  have hyi := hAp.in_
  have rs0 : ∀ (a : Addr) (w : World), (store a y.m).run Tryz.prog w = stored Tryz.prog w a y.m .plain := fun a w => run_store _ w a _ _ (by obtain ⟨A, c, e, -⟩ := hyi.m; rw [e]; rfl)
  have rs1 : ∀ (a : Addr) (w : World), (store a y.c).run Tryz.prog w = stored Tryz.prog w a y.c .plain := fun a w => run_store _ w a _ _ (by obtain ⟨A, c, e, -⟩ := hyi.c; rw [e]; rfl)
  have rs2 : ∀ (a : Addr) (w : World), (store a y.p).run Tryz.prog w = stored Tryz.prog w a y.p .plain := fun a w => run_store _ w a _ _ (by obtain ⟨A, c, vs, e, -⟩ := hyi.p; rw [e]; rfl)
  have rs3 : ∀ (a : Addr) (w : World), (store a y.l).run Tryz.prog w = stored Tryz.prog w a y.l .plain := fun a w => run_store _ w a _ _ (by obtain ⟨A, c, e, -⟩ := hyi.l; rw [e]; rfl)
  go_simp
  clear rs0 rs1 rs2 rs3 hyi
  refine hK.out _ _ ?_
  clear hK K
  try simp only [Act.put]
  refine wpAny_done (by kernel_rfl) ?_ _
  clear y0 z0 y1 z1 y2 z2 y3 z3 y4 z4
  have k7 : Blk _ p7 46 #[.int .i64 y.e, y.m, y.c, y.p, y.l] := (((((kz.set_ 0 (.int .i64 y.e)).set_ 1 (y.m)).set_ 2 (y.c)).set_ 3 (y.p)).set_ 4 (y.l))
  have hgF := (grown_set (grown_set (grown_set (grown_set (grown_set (grown_refl wz (some p7)) 0 (.int .i64 y.e)) 1 (y.m)) 2 (y.c)) 3 (y.p)) 4 (y.l))
  have hIn := hLow _ hgF
  clear hLow kz
  have hbX := below_grown hbd hgF hp70 hbd.size
  clear hbd hgF hp70 HS HBE
  obtain ⟨w4, hw4⟩ : ∃ Z, Z = (((((wz.setCell ⟨p7, 0, none⟩ (.int .i64 y.e)).setCell ⟨p7, 1, none⟩ (y.m)).setCell ⟨p7, 2, none⟩ (y.c)).setCell ⟨p7, 3, none⟩ (y.p)).setCell ⟨p7, 4, none⟩ (y.l)) := ⟨_, rfl⟩
  rw [← hw4] at k7 hIn hbX ⊢
  clear hw4
  have HYT := Lib.hid (And.intro (fun W (h : Below w4.heap.size w4 W) => hIn.below h) hSm)
  clear hIn hSm
  obtain ⟨R, hR⟩ : ∃ R, R = rightH t := ⟨_, rfl⟩
  have HNW := Lib.hid (fun W (h : Below w4.heap.size w4 W) => New_q y t HYT.out.2 W (HYT.out.1 W h))
  have HRG := Lib.hid (fun W (h : Below w4.heap.size w4 W) => rRight32_q y t HYT.out.2 W (HYT.out.1 W h))
  unfold NewPost hdrA at HNW
  rw [← hR] at HNW HRG
  clear hR
  go_upto_region 4 with fail
  have hb5 : Below w4.heap.size w4 w4.drew := (Below.refl _ _).drew
  have HS4 : Hid (∀ W, Below w4.heap.size w4 W → W.cell? ⟨p7, 0, none⟩ = some (.int .i64 y.e) ∧ W.cell? ⟨p7, 1, none⟩ = some (y.m) ∧ W.cell? ⟨p7, 2, none⟩ = some (y.c) ∧ W.cell? ⟨p7, 3, none⟩ = some (y.p) ∧ W.cell? ⟨p7, 4, none⟩ = some (y.l)) := Lib.hid (fun W h => ⟨(k7.below h k7.lt).cell 0, (k7.below h k7.lt).cell 1, (k7.below h k7.lt).cell 2, (k7.below h k7.lt).cell 3, (k7.below h k7.lt).cell 4⟩)
  have hRR : ((!R) == R) = false := by cases R <;> rfl
  clear k7
  refine region_here (fun Z : World => Z.cell? ⟨p7, 0, none⟩ = some (.int .i64 y.e) ∧ Z.cell? ⟨p7, 1, none⟩ = some (y.m) ∧ Z.cell? ⟨p7, 2, none⟩ = some (y.c) ∧ Z.cell? ⟨p7, 3, none⟩ = some (y.p) ∧ Z.cell? ⟨p7, 4, none⟩ = some (y.l)) 5 (by kernel_rfl) (HS4.out _ hb5) (fun hHeld => ?_)
  generalize w4.drew = U at *
  refine tkT 0 rfl ?_
  refine tkT 3 rfl ?_
  refine tkO 1 rfl fun K hK => ?_
  go_simp
  go_at_call 16
  refine (HNW.out _ hb5).mono ?_
  rintro e wa ⟨hN1, hN2, hba⟩
  have hPR : (∃ P, e = .returned (.pointer P) ∧ ((P = none ∧ R = false) ∨ (∃ pp, P = some ⟨pp, 0, none⟩ ∧ R = true))) := by
   cases R with
   | true => obtain ⟨pp, e1, -⟩ := hN1 rfl; exact ⟨_, e1, .inr ⟨pp, rfl, rfl⟩⟩
   | false => exact ⟨_, hN2 rfl, .inl ⟨rfl, rfl⟩⟩
  obtain ⟨Pn, he, hPR⟩ := hPR
  subst he
  clear hN1 hN2
  (try go_wp2_with fail)
  replace hb5 := below_then hb5 hba
  refine hK.out _ _ ?_ (fun hHeld1 => ?_)
  ·exact HS4.out _ hb5
  clear hK K
  try simp only [Act.put, pq1, pq2, pq3]
  refine tkV 2 (.bool (!R)) rfl (Or.inl ⟨by rfl, by intro w hSw; (try dsimp only at hSw); rcases hPR with ⟨rfl, rfl⟩ | ⟨pp, rfl, rfl⟩ <;> go_simp <;> (first | done | rfl)⟩) ?_
  refine tkO 4 rfl fun K hK => ?_
  go_simp
  go_at_call 38
  refine (HRG.out _ hb5).mono ?_
  rintro e wa ⟨rfl, hba⟩
  (try go_wp2_with fail)
  replace hb5 := below_then hb5 hba
  refine hK.out _ _ ?_ (fun hHeld4 => ?_)
  ·exact HS4.out _ hb5
  clear hK K
  try simp only [Act.put, pq1, pq2, pq3]
  refine tkK 5 rfl fun K hK => ?_
  go_simp
  refine hK.out _ _ ?_
  clear hK K
  try simp only [Act.put, pq1, pq2, pq3]
  refine wpAny_done (by kernel_rfl) ?_ _
  have hb6 := below_then hbX hb5
  clear hb5 hbX HS4 HNW HRG HYT
  go_upto_region 10 with fail
  refine name2p ?_
  intro w5 kz kb2 hb7
  obtain ⟨pz, hpz⟩ : ∃ k, k = wa.heap.size := ⟨_, rfl⟩
  rw [← hpz] at kz kb2 ⊢
  clear hpz
  have hb8 := below_then hb6 hb7
  have z0 : w5.cell? ⟨pz, 0, none⟩ = some (.bool false) := kz.cell 0
  have HPI : Hid (∀ i, i < 2 → ∃ P, (∀ W, Below w5.heap.size w5 W → W.cell? ⟨pz + 1, i, none⟩ = some (.pointer P)) ∧ NoCli P w5) := Lib.hid (fun i hi => by
   rcases (show i = 0 ∨ i = 1 by omega) with rfl | rfl
   ·exact ⟨none, fun W h => (kb2.below h kb2.lt).cell 0, NoCli.nil w5⟩
   ·exact ⟨some ⟨pz, 0, none⟩, fun W h => (kb2.below h kb2.lt).cell 1, NoCli.zero z0⟩)
  clear z0 kz kb2 hb7 hb6
  have hr5 := Below.refl w5.heap.size w5
  go_loopw [11] (fun s11 wr => ∃ i : Nat, i ≤ 2 ∧ s11 = .int .i64 (i : Int) ∧ Below w5.heap.size w5 wr) (fun s11 _ => 2 - (intOf s11).toNat)
  case atStart => exact ⟨0, by omega, rfl, hr5⟩
  case round =>
   clear hr5
   obtain ⟨i, hi, rfl, hbr⟩ := hrel
   by_cases hlt : i < 2
   ·have hlt' : (i : Int) < 2 := by omega
    obtain ⟨P, hPc, hNo⟩ := HPI.out i hlt
    have e1 := hPc wr hbr
    have hNw := hNo.below hbr
    have hbc := below_then hb8 hbr
    obtain ⟨-, c0, c1, c2, c3, c4⟩ := HX0.out wr hbc
    have p1 : wr.cell? ⟨g, 1, none⟩ = some (.slice (some ⟨b, o, none⟩) 2 cH) := (HG.out wr hbc).1.cell 1
    clear hPc hNo hbc
    have hbf := Below.refl wr.heap.size wr
    go_wp2_with (first
     | (go_at_call 17; (with_reducible refine (Follow_no P _ _ _ _ _ _ hNw).mono ?_); rintro e wa ⟨rfl, hba⟩; replace hNw := hNw.below hba; replace hbf := below_then hbf hba; replace c0 := cell_b hba c0; replace c1 := cell_b hba c1; replace c2 := cell_b hba c2; replace c3 := cell_b hba c3; replace c4 := cell_b hba c4; replace p1 := cell_b hba p1; clear hba)
     | (go_at_call 22; (with_reducible refine (Back_no P _ _ _ _ _ _ hNw).mono ?_); rintro e wa ⟨rfl, hba⟩; replace hNw := hNw.below hba; replace hbf := below_then hbf hba; replace c0 := cell_b hba c0; replace c1 := cell_b hba c1; replace c2 := cell_b hba c2; replace c3 := cell_b hba c3; replace c4 := cell_b hba c4; replace p1 := cell_b hba p1; clear hba)
     | (go_at_call 20; (with_reducible refine (Epoch_no P _ hNw).mono ?_); rintro e wa ⟨rfl, hww⟩; subst hww)
     | (go_at_call 21; (with_reducible refine (Size_no P _ hNw).mono ?_); rintro e wa ⟨rfl, hww⟩; subst hww)
     | (go_at_call 39; (with_reducible refine (Round_no P _ _ hNw).mono ?_); rintro e wa ⟨rfl, hba⟩; replace hNw := hNw.below hba; replace hbf := below_then hbf hba; replace c0 := cell_b hba c0; replace c1 := cell_b hba c1; replace c2 := cell_b hba c2; replace c3 := cell_b hba c3; replace c4 := cell_b hba c4; replace p1 := cell_b hba p1; clear hba)
     | (go_at_call 33; (with_reducible refine (Receipt_no P _ _ _ hNw).mono ?_); rintro e wa ⟨rfl, hba⟩; replace hNw := hNw.below hba; replace hbf := below_then hbf hba; replace c0 := cell_b hba c0; replace c1 := cell_b hba c1; replace c2 := cell_b hba c2; replace c3 := cell_b hba c3; replace c4 := cell_b hba c4; replace p1 := cell_b hba p1; clear hba))
    go_roundw
    case rel => exact ⟨i + 1, by omega, by go_num, below_then hbr hbf⟩
    case measure => simp [intOf]; omega
   ·obtain rfl : i = 2 := by omega
    have hb9 := below_then hb8 hbr
    clear hb8 hbr HPI
    obtain ⟨-, c0, c1, c2, c3, c4⟩ := HX0.out _ hb9
    have p1 : wr.cell? ⟨g, 1, none⟩ = some (.slice (some ⟨b, o, none⟩) 2 cH) := (HG.out _ hb9).1.cell 1
    have mB := Lib.hid (HB8.out _ hb9)
    go_upto_region 16 with (go_at_call 37; (with_reducible refine mB.out.mono ?_); rintro e w6 ⟨y2, t2, rfl, hAp, hS2, hk2, hb10⟩; rw [hk2 rfl] at hAp; clear hk2 hS2; obtain ⟨ye, ym, yc, yp, yl⟩ := y2; obtain ⟨AM, cM, e1, -⟩ := OwnL.row hAp.m encM_len; obtain ⟨AC, cC, e2, -⟩ := OwnL.row hAp.c encI_len; dsimp only at e1 e2; subst e1 e2; have rs1 : ∀ (a : Addr) (w : World), (store a yp).run Tryz.prog w = stored Tryz.prog w a yp .plain := (fun a w => run_store _ w a _ _ (by obtain ⟨us, hpv, -⟩ := hAp.p; obtain ⟨A, c, e, -⟩ := OwnL.row hpv encV_len; dsimp only at e; rw [e]; rfl)); have rs2 : ∀ (a : Addr) (w : World), (store a yl).run Tryz.prog w = stored Tryz.prog w a yl .plain := (fun a w => run_store _ w a _ _ (by obtain ⟨A, c, e, -⟩ := OwnL.row hAp.l encH_len; dsimp only at e; rw [e]; rfl)))
    clear c0 c1 c2 c3 c4 p1 mB rs1 rs2
    refine name1p ?_
    intro w7 kf hb11
    have hIn2 := hAp.in_.below hb11
    have hoM := hAp.m.below hb11
    have hoC := hAp.c.below hb11
    have hlM := own_lt hAp.m
    have hlC := own_lt hAp.c
    have h67 := hb11.size
    dsimp only at hoM hoC hlM hlC
    obtain ⟨p3, hp3⟩ : ∃ k, k = w6.heap.size := ⟨_, rfl⟩
    rw [← hp3] at kf ⊢
    have hwr : W0.heap.size ≤ wr.heap.size := hb9.size
    have h6r := hb10.size
    obtain ⟨Br, hBr⟩ : ∃ k, k = wr.heap.size := ⟨_, rfl⟩
    rw [← hBr] at hoM hoC hwr h6r
    replace hb9 := below_then (below_then hb9 hb10) hb11
    clear hAp hb10 hb11 hp3 hBr
    obtain ⟨nM, hnM⟩ : ∃ k, k = t0.mems.length := ⟨_, rfl⟩
    obtain ⟨nC, hnC⟩ : ∃ k, k = t0.commits.length := ⟨_, rfl⟩
    have hnM2 : nM ≤ 20 := by rw [hnM]; exact HSM.out.1.m1
    have hnC2 : nC ≤ 100 := by rw [hnC]; exact HSM.out.1.c1
    rw [← hnM] at hoM hlM kf ⊢
    rw [← hnC] at hoC hlC kf ⊢
    have HNN := Lib.hid (And.intro hnM hnC)
    have m3 := Lib.hid (chain_new HCO.out.1 HCO.out.2 HH.out.1 _ w7 hIn2)
    dsimp only at m3
    rw [← hnM, ← hnC] at m3
    clear hIn2 hnM hnC
    have f0 : w7.cell? ⟨p3, 0, none⟩ = some (.int .i64 ye) := kf.cell 0
    have f1 : w7.cell? ⟨p3, 1, none⟩ = some (.slice AM nM cM) := kf.cell 1
    have f2 : w7.cell? ⟨p3, 2, none⟩ = some (.slice AC nC cC) := kf.cell 2
    have f3 : w7.cell? ⟨p3, 3, none⟩ = some yp := kf.cell 3
    have f4 : w7.cell? ⟨p3, 4, none⟩ = some yl := kf.cell 4
    go_upto_region 20 with (go_at_call 16; (with_reducible refine m3.out.mono ?_); rintro e w8 ⟨p, rfl, hCli, hb12⟩)
    clear f0 f1 f2 f3 f4 m3
    obtain ⟨B3, hB3⟩ : ∃ k, k = w7.heap.size := ⟨_, rfl⟩
    rw [← hB3] at hCli
    have hgM : ∀ q, AM = some ⟨q, 0, none⟩ → Br ≤ q ∧ q < B3 := fun q e => by
     subst e
     exact ⟨own_high hoM q rfl, by have := hlM q rfl; omega⟩
    have hgC : ∀ q, AC = some ⟨q, 0, none⟩ → Br ≤ q ∧ q < B3 := fun q e => by
     subst e
     exact ⟨own_high hoC q rfl, by have := hlC q rfl; omega⟩
    have HGM := Lib.hid (And.intro hgM hgC)
    have hpB : W0.heap.size ≤ p := by have := hCli.1; omega
    replace hoM := hoM.below hb12
    replace hoC := hoC.below hb12
    replace kf := kf.below hb12 kf.lt
    replace hb9 := below_then hb9 hb12
    clear hb12 hgM hgC hlM hlC hB3 h67
    go_loopw [15] (fun s15 wr => ∃ (i : Nat) (ms : List Mem), i ≤ nM ∧ s15 = .int .i64 (i : Int) ∧ ms.length = nM ∧ OwnM Br wr (.slice AM nM cM) ms ∧ OwnI Br wr (.slice AC nC cC) t0.commits ∧ Blk wr p3 46 #[.int .i64 ye, .slice AM nM cM, .slice AC nC cC, yp, yl] ∧ Cli B3 p wr t0 t0 ∧ Below W0.heap.size W0 wr) (fun s15 _ => nM - (intOf s15).toNat)
    case atStart => exact ⟨0, t0.mems, by omega, rfl, HNN.out.1.symm, hoM, hoC, kf, hCli, hb9⟩
    case round =>
     clear hoM hoC kf hCli hb9
     obtain ⟨i, ms, hi, rfl, hml, hoM, hoC, kf, hCli, hb9⟩ := hrel
     have f1 : wr.cell? ⟨p3, 1, none⟩ = some (.slice AM nM cM) := kf.cell 1
     by_cases hlt : i < nM
     ·have hlt' : (i : Int) < (nM : Int) := by omega
      obtain ⟨gm, hgm⟩ := own_at0 hoM (show 0 < nM by omega)
      have hgm2 := HGM.out.1 gm hgm
      subst hgm
      obtain ⟨x, hx⟩ : ∃ x, ms[i]? = some x := ⟨_, List.getElem?_eq_getElem (by omega)⟩
      have v0 := OwnL.cellAt encM_len hoM hx (k := 0) rfl
      have v1 := OwnL.cellAt encM_len hoM hx (k := 1) rfl
      have v2 := OwnL.cellAt encM_len hoM hx (k := 2) rfl
      have z0 := OwnL.frozenAt hoM hml.symm (i * 3 + 0)
      have z1 := OwnL.frozenAt hoM hml.symm (i * 3 + 1)
      have z2 := OwnL.frozenAt hoM hml.symm (i * 3 + 2)
      rw [Nat.add_zero] at v0 z0
      go_wp2_with fail
      clear v0 v1 v2 z0 z1 z2 f1
      have ho1 := OwnL.changed encM_len hoM hml.symm hx (k := 0) (x' := { x with id := 0 }) (u := .int .i64 0) (by omega) rfl
      have hx1 : (ms.set i { x with id := 0 })[i]? = some { x with id := 0 } := by rw [List.getElem?_set]; simp; omega
      have ho2 := OwnL.changed encM_len ho1 (by rw [List.length_set]; exact hml.symm) hx1 (k := 1) (x' := { x with id := 0, wt := 0 }) (u := .int .i64 0) (by omega) rfl
      have hx2 : ((ms.set i { x with id := 0 }).set i { x with id := 0, wt := 0 })[i]? = some { x with id := 0, wt := 0 } := by rw [List.getElem?_set]; simp; omega
      have ho3 := OwnL.changed encM_len ho2 (by rw [List.length_set, List.length_set]; exact hml.symm) hx2 (k := 2) (x' := ⟨0, 0, 0⟩) (u := .int .i64 0) (by omega) rfl
      rw [Nat.add_zero] at ho1 ho2 ho3
      have hgs := grown_set (grown_set (grown_set (grown_refl wr (some gm)) (i * 3) (.int .i64 0)) (i * 3 + 1) (.int .i64 0)) (i * 3 + 2) (.int .i64 0)
      have hoC2 := OwnL.kept hoC hgs (rows_apart hoC hoM (by decide))
      have kf2 := kf.grown hgs (own_ty hoM kf (by decide))
      have hC2 := ((hCli.low hgm2.2 (i * 3) (.int .i64 0)).low hgm2.2 (i * 3 + 1) (.int .i64 0)).low hgm2.2 (i * 3 + 2) (.int .i64 0)
      have hb13 := below_grown hb9 hgs (by omega) hb9.size
      go_roundw
      case rel => exact ⟨i + 1, _, by omega, by go_num, by rw [List.length_set, List.length_set, List.length_set]; exact hml, ho3, hoC2, kf2, hC2, hb13⟩
      case measure => simp [intOf]; omega
     ·obtain rfl : i = nM := by omega
      have f2 : wr.cell? ⟨p3, 2, none⟩ = some (.slice AC nC cC) := kf.cell 2
      go_upto_region 24 with fail
      clear f1 f2 hoM hml
      go_loopw [16] (fun s16 wr => ∃ (j : Nat) (cs : List Int), j ≤ nC ∧ s16 = .int .i64 (j : Int) ∧ cs.length = nC ∧ OwnI Br wr (.slice AC nC cC) cs ∧ Blk wr p3 46 #[.int .i64 ye, .slice AM i cM, .slice AC nC cC, yp, yl] ∧ Cli B3 p wr t0 t0 ∧ Below W0.heap.size W0 wr) (fun s16 _ => nC - (intOf s16).toNat)
      case atStart => exact ⟨0, t0.commits, by omega, rfl, HNN.out.2.symm, hoC, kf, hCli, hb9⟩
      case round =>
       clear hoC kf hCli hb9
       obtain ⟨j, cs, hj, rfl, hcl, hoC, kf, hCli, hb9⟩ := hrel
       have f2 : wr.cell? ⟨p3, 2, none⟩ = some (.slice AC nC cC) := kf.cell 2
       by_cases hlj : j < nC
       ·have hlj' : (j : Int) < (nC : Int) := by omega
        obtain ⟨gm, hgm⟩ := own_at0 hoC (show 0 < nC by omega)
        have hgm2 := HGM.out.2 gm hgm
        subst hgm
        obtain ⟨x, hx⟩ : ∃ x, cs[j]? = some x := ⟨_, List.getElem?_eq_getElem (by omega)⟩
        have v0 := OwnI.cell hoC hx
        have z0 := OwnI.frozen hoC hcl.symm j
        go_wp2_with fail
        clear v0 z0 f2
        have ho1 := OwnI.stored hoC j 0 hcl.symm
        have hgs := grown_set (grown_refl wr (some gm)) j (.int .i64 0)
        have kf2 := kf.grown hgs (own_ty hoC kf (by decide))
        have hC2 := hCli.low hgm2.2 j (.int .i64 0)
        have hb13 := below_grown hb9 hgs (by omega) hb9.size
        go_roundw
        case rel => exact ⟨j + 1, _, by omega, by go_num, by rw [List.length_set]; exact hcl, ho1, kf2, hC2, hb13⟩
        case measure => simp [intOf]; omega
       ·obtain rfl : j = nC := by omega
        go_upto_region 27 with fail
        clear f2 hoC hcl kf HGM
        obtain ⟨vs, hmany, hIv, hVo⟩ := chain_all HCO.out.1 HCO.out.2 HH.out.1 (strB (hdrL t1)) (by rw [strB_size]; have := hdrL_len HSM.out.2; omega) 65535 (by omega) (fun j hj => by rcases (show j = 0 ∨ j = 1 ∨ j = 2 ∨ j = 3 by omega) with rfl | rfl | rfl | rfl <;> rfl)
        have HS9 : Hid (∀ W, Below W0.heap.size W0 W → W.cell? ⟨g, 0, none⟩ = some (.slice AG 2 cG) ∧ W.cell? ⟨g, 1, none⟩ = some (.slice (some ⟨b, o, none⟩) 2 cH) ∧ W.cell? ⟨b, o + 5, none⟩ = some (.int .i64 x1.e) ∧ W.cell? ⟨b, o + 6, none⟩ = some (x1.m) ∧ W.cell? ⟨b, o + 7, none⟩ = some (x1.c) ∧ W.cell? ⟨b, o + 8, none⟩ = some (x1.p) ∧ W.cell? ⟨b, o + 9, none⟩ = some (x1.l)) := Lib.hid (fun W h => ⟨(HG.out W h).1.cell 0, (HG.out W h).1.cell 1, (HX1.out W h).2⟩)
        have HTX := Lib.hid (fun W h => rHeaderText_q x1 t1 HSM.out.2 W (HX1.out W h).1)
        have HVO := Lib.hid (fun W h => hVo _ W gs _ AG 2 cG (.slice (some ⟨b, o, none⟩) 2 cH) (HCI.out W h).1 (HCI.out W h).2)
        have HFO := Lib.hid (fun A n c W (h : Below W0.heap.size W0 W) (hn : n ≤ 4) hv hc => chain_many HCO.out.1 HCO.out.2 HH.out.1 HH.out.2 (by omega) B3 p t0 x1 A n c vs hmany (by omega) hIv W (HTT.out W h) (HX1.out W h).1 hv hc)
        unfold hdrA at HTX
        clear hmany hIv hVo
        have hbd := hb9.drew
        have hCd : Cli B3 p wr.drew t0 t0 := hCli.below (Below.refl _ _).drew
        clear hCli hb9
        refine region_here (fun Z : World => Z.cell? ⟨g, 0, none⟩ = some (.slice AG 2 cG) ∧ Z.cell? ⟨g, 1, none⟩ = some (.slice (some ⟨b, o, none⟩) 2 cH) ∧ Z.cell? ⟨b, o + 5, none⟩ = some (.int .i64 x1.e) ∧ Z.cell? ⟨b, o + 6, none⟩ = some (x1.m) ∧ Z.cell? ⟨b, o + 7, none⟩ = some (x1.c) ∧ Z.cell? ⟨b, o + 8, none⟩ = some (x1.p) ∧ Z.cell? ⟨b, o + 9, none⟩ = some (x1.l)) 14 (by kernel_rfl) (HS9.out _ hbd) (fun hHeld => ?_)
        generalize wr.drew = Z at *
        refine tkT 0 rfl ?_
        refine tkT 1 rfl ?_
        refine tkT 2 rfl ?_
        refine tkT 3 rfl ?_
        refine tkT 4 rfl ?_
        refine tkT 5 rfl ?_
        refine tkT 6 rfl ?_
        refine tkT 7 rfl ?_
        refine tkT 8 rfl ?_
        refine tkT 9 rfl ?_
        refine tkT 10 rfl ?_
        refine tkT 11 rfl ?_
        refine tkO 12 rfl fun K hK => ?_
        go_simp
        go_at_call 40
        refine (HTX.out _ hbd).mono ?_
        rintro e wa ⟨rfl, hba⟩
        (try go_wp2_with fail)
        replace hCd := hCd.below hba
        replace hbd := below_then hbd hba
        refine hK.out _ _ ?_ (fun hHeld12 => ?_)
        ·exact HS9.out _ hbd
        clear hK K
        try simp only [Act.put, pq1, pq2, pq3]
        refine tkO 13 rfl fun K hK => ?_
        go_simp
        go_at_call 18
        refine (HVO.out _ hbd).mono ?_
        rintro e wa ⟨A7, n7, c7, rfl, hn7, hv7, hba⟩
        (try go_wp2_with fail)
        replace hCd := hCd.below hba
        replace hbd := below_then hbd hba
        refine hK.out _ _ ?_ (fun hHeld13 => ?_)
        ·exact HS9.out _ hbd
        clear hK K
        try simp only [Act.put, pq1, pq2, pq3]
        refine tkK 14 rfl fun K hK => ?_
        go_simp
        go_at_call 17
        refine (HFO.out _ _ _ _ hbd hn7 hv7 hCd).mono ?_
        rintro e wa ⟨rfl, -, hg9⟩
        (try go_wp2_with fail)
        replace hbd := below_grown hbd hg9 hpB hbd.size
        refine hK.out _ _ ?_
        clear hK K
        try simp only [Act.put, pq1, pq2, pq3]
        refine tkB 15 rfl ?_
        refine tkB 16 rfl ?_
        refine tkB 17 rfl ?_
        refine wpAny_done (by kernel_rfl) ?_ _
        go_wp2_with fail
        go_ret
        exact ⟨rfl, below_then HBW.out hbd⟩
 ·skip
  go_simp
  first | refine alloc_drew ?_ | refine alloc_here ?_
  intro wz kz hbz
  obtain ⟨p7, hp7, kz⟩ := name_blk kz
  have hp70 : W0.heap.size ≤ p7 := by rw [← hp7]; exact hbd.size
  rw [hp7]
  (try have hLow := low_a hAp hbz (Nat.le_of_eq hp7))
  replace hbd := below_then hbd hbz
  clear hp7
  refine hK.out _ _ ?_ (fun hHeld6 => ?_)
  ·exact HS.out _ hbd
  clear hK K
  try simp only [Act.put, pq1, pq2, pq3]
  refine tkO 5 rfl fun K hK => ?_
  go_simp
  go_at_call 37
  first
   | (refine (HBE.out (· = p7) _ hbd (fun b e => by rw [e]; exact kz.lt) (fun b e => by rw [e]; exact hp70)).mono ?_)
   | (refine (HBE.out (fun _ => False) _ hbd (fun b e => e.elim) (fun b e => e.elim)).mono ?_)
  rintro e wa ⟨y, t, rfl, hAp, hSm, -, hba⟩
  (try go_wp2_with fail)
  (try have hLow : ∀ W', wa.grownBy W' (some p7) → HdrIn W' y t := fun W' h => (hAp.kept h kz.lt).in_)
  (try replace kz := kz.below hba kz.lt)
  replace hbd := below_then hbd hba
  refine hK.out _ _ ?_ (fun hHeld5 => ?_)
  ·exact HS.out _ hbd
  clear hK K
  try simp only [Act.put, pq1, pq2, pq3]
  refine tkK 7 rfl fun K hK => ?_
  have y0 : _ = some (Value.int .i64 0) := kz.cell 0
  have z0 := kz.frozen 0
  have y1 : _ = some (Value.slice none 0 0) := kz.cell 1
  have z1 := kz.frozen 1
  have y2 : _ = some (Value.slice none 0 0) := kz.cell 2
  have z2 := kz.frozen 2
  have y3 : _ = some (Value.slice none 0 0) := kz.cell 3
  have z3 := kz.frozen 3
  have y4 : _ = some (Value.slice none 0 0) := kz.cell 4
  have z4 := kz.frozen 4
  have hyi := hAp.in_
  have rs0 : ∀ (a : Addr) (w : World), (store a y.m).run Tryz.prog w = stored Tryz.prog w a y.m .plain := fun a w => run_store _ w a _ _ (by obtain ⟨A, c, e, -⟩ := hyi.m; rw [e]; rfl)
  have rs1 : ∀ (a : Addr) (w : World), (store a y.c).run Tryz.prog w = stored Tryz.prog w a y.c .plain := fun a w => run_store _ w a _ _ (by obtain ⟨A, c, e, -⟩ := hyi.c; rw [e]; rfl)
  have rs2 : ∀ (a : Addr) (w : World), (store a y.p).run Tryz.prog w = stored Tryz.prog w a y.p .plain := fun a w => run_store _ w a _ _ (by obtain ⟨A, c, vs, e, -⟩ := hyi.p; rw [e]; rfl)
  have rs3 : ∀ (a : Addr) (w : World), (store a y.l).run Tryz.prog w = stored Tryz.prog w a y.l .plain := fun a w => run_store _ w a _ _ (by obtain ⟨A, c, e, -⟩ := hyi.l; rw [e]; rfl)
  go_simp
  clear rs0 rs1 rs2 rs3 hyi
  refine hK.out _ _ ?_
  clear hK K
  try simp only [Act.put]
  refine wpAny_done (by kernel_rfl) ?_ _
  clear y0 z0 y1 z1 y2 z2 y3 z3 y4 z4
  have k7 : Blk _ p7 46 #[.int .i64 y.e, y.m, y.c, y.p, y.l] := (((((kz.set_ 0 (.int .i64 y.e)).set_ 1 (y.m)).set_ 2 (y.c)).set_ 3 (y.p)).set_ 4 (y.l))
  have hgF := (grown_set (grown_set (grown_set (grown_set (grown_set (grown_refl wa (some p7)) 0 (.int .i64 y.e)) 1 (y.m)) 2 (y.c)) 3 (y.p)) 4 (y.l))
  have hIn := hLow _ hgF
  clear hLow kz
  have hbX := below_grown hbd hgF hp70 hbd.size
  clear hbd hgF hp70 HS HBE
  obtain ⟨w4, hw4⟩ : ∃ Z, Z = (((((wa.setCell ⟨p7, 0, none⟩ (.int .i64 y.e)).setCell ⟨p7, 1, none⟩ (y.m)).setCell ⟨p7, 2, none⟩ (y.c)).setCell ⟨p7, 3, none⟩ (y.p)).setCell ⟨p7, 4, none⟩ (y.l)) := ⟨_, rfl⟩
  rw [← hw4] at k7 hIn hbX ⊢
  clear hw4
  have HYT := Lib.hid (And.intro (fun W (h : Below w4.heap.size w4 W) => hIn.below h) hSm)
  clear hIn hSm
  obtain ⟨R, hR⟩ : ∃ R, R = rightH t := ⟨_, rfl⟩
  have HNW := Lib.hid (fun W (h : Below w4.heap.size w4 W) => New_q y t HYT.out.2 W (HYT.out.1 W h))
  have HRG := Lib.hid (fun W (h : Below w4.heap.size w4 W) => rRight32_q y t HYT.out.2 W (HYT.out.1 W h))
  unfold NewPost hdrA at HNW
  rw [← hR] at HNW HRG
  clear hR
  go_upto_region 4 with fail
  have hb5 : Below w4.heap.size w4 w4.drew := (Below.refl _ _).drew
  have HS4 : Hid (∀ W, Below w4.heap.size w4 W → W.cell? ⟨p7, 0, none⟩ = some (.int .i64 y.e) ∧ W.cell? ⟨p7, 1, none⟩ = some (y.m) ∧ W.cell? ⟨p7, 2, none⟩ = some (y.c) ∧ W.cell? ⟨p7, 3, none⟩ = some (y.p) ∧ W.cell? ⟨p7, 4, none⟩ = some (y.l)) := Lib.hid (fun W h => ⟨(k7.below h k7.lt).cell 0, (k7.below h k7.lt).cell 1, (k7.below h k7.lt).cell 2, (k7.below h k7.lt).cell 3, (k7.below h k7.lt).cell 4⟩)
  have hRR : ((!R) == R) = false := by cases R <;> rfl
  clear k7
  refine region_here (fun Z : World => Z.cell? ⟨p7, 0, none⟩ = some (.int .i64 y.e) ∧ Z.cell? ⟨p7, 1, none⟩ = some (y.m) ∧ Z.cell? ⟨p7, 2, none⟩ = some (y.c) ∧ Z.cell? ⟨p7, 3, none⟩ = some (y.p) ∧ Z.cell? ⟨p7, 4, none⟩ = some (y.l)) 5 (by kernel_rfl) (HS4.out _ hb5) (fun hHeld => ?_)
  generalize w4.drew = U at *
  refine tkT 0 rfl ?_
  refine tkT 3 rfl ?_
  refine tkO 1 rfl fun K hK => ?_
  go_simp
  go_at_call 16
  refine (HNW.out _ hb5).mono ?_
  rintro e wa ⟨hN1, hN2, hba⟩
  have hPR : (∃ P, e = .returned (.pointer P) ∧ ((P = none ∧ R = false) ∨ (∃ pp, P = some ⟨pp, 0, none⟩ ∧ R = true))) := by
   cases R with
   | true => obtain ⟨pp, e1, -⟩ := hN1 rfl; exact ⟨_, e1, .inr ⟨pp, rfl, rfl⟩⟩
   | false => exact ⟨_, hN2 rfl, .inl ⟨rfl, rfl⟩⟩
  obtain ⟨Pn, he, hPR⟩ := hPR
  subst he
  clear hN1 hN2
  (try go_wp2_with fail)
  replace hb5 := below_then hb5 hba
  refine hK.out _ _ ?_ (fun hHeld1 => ?_)
  ·exact HS4.out _ hb5
  clear hK K
  try simp only [Act.put, pq1, pq2, pq3]
  refine tkV 2 (.bool (!R)) rfl (Or.inl ⟨by rfl, by intro w hSw; (try dsimp only at hSw); rcases hPR with ⟨rfl, rfl⟩ | ⟨pp, rfl, rfl⟩ <;> go_simp <;> (first | done | rfl)⟩) ?_
  refine tkO 4 rfl fun K hK => ?_
  go_simp
  go_at_call 38
  refine (HRG.out _ hb5).mono ?_
  rintro e wa ⟨rfl, hba⟩
  (try go_wp2_with fail)
  replace hb5 := below_then hb5 hba
  refine hK.out _ _ ?_ (fun hHeld4 => ?_)
  ·exact HS4.out _ hb5
  clear hK K
  try simp only [Act.put, pq1, pq2, pq3]
  refine tkK 5 rfl fun K hK => ?_
  go_simp
  refine hK.out _ _ ?_
  clear hK K
  try simp only [Act.put, pq1, pq2, pq3]
  refine wpAny_done (by kernel_rfl) ?_ _
  have hb6 := below_then hbX hb5
  clear hb5 hbX HS4 HNW HRG HYT
  go_upto_region 10 with fail
  refine name2p ?_
  intro w5 kz kb2 hb7
  obtain ⟨pz, hpz⟩ : ∃ k, k = wa.heap.size := ⟨_, rfl⟩
  rw [← hpz] at kz kb2 ⊢
  clear hpz
  have hb8 := below_then hb6 hb7
  have z0 : w5.cell? ⟨pz, 0, none⟩ = some (.bool false) := kz.cell 0
  have HPI : Hid (∀ i, i < 2 → ∃ P, (∀ W, Below w5.heap.size w5 W → W.cell? ⟨pz + 1, i, none⟩ = some (.pointer P)) ∧ NoCli P w5) := Lib.hid (fun i hi => by
   rcases (show i = 0 ∨ i = 1 by omega) with rfl | rfl
   ·exact ⟨none, fun W h => (kb2.below h kb2.lt).cell 0, NoCli.nil w5⟩
   ·exact ⟨some ⟨pz, 0, none⟩, fun W h => (kb2.below h kb2.lt).cell 1, NoCli.zero z0⟩)
  clear z0 kz kb2 hb7 hb6
  have hr5 := Below.refl w5.heap.size w5
  go_loopw [11] (fun s11 wr => ∃ i : Nat, i ≤ 2 ∧ s11 = .int .i64 (i : Int) ∧ Below w5.heap.size w5 wr) (fun s11 _ => 2 - (intOf s11).toNat)
  case atStart => exact ⟨0, by omega, rfl, hr5⟩
  case round =>
   clear hr5
   obtain ⟨i, hi, rfl, hbr⟩ := hrel
   by_cases hlt : i < 2
   ·have hlt' : (i : Int) < 2 := by omega
    obtain ⟨P, hPc, hNo⟩ := HPI.out i hlt
    have e1 := hPc wr hbr
    have hNw := hNo.below hbr
    have hbc := below_then hb8 hbr
    obtain ⟨-, c0, c1, c2, c3, c4⟩ := HX0.out wr hbc
    have p1 : wr.cell? ⟨g, 1, none⟩ = some (.slice (some ⟨b, o, none⟩) 2 cH) := (HG.out wr hbc).1.cell 1
    clear hPc hNo hbc
    have hbf := Below.refl wr.heap.size wr
    go_wp2_with (first
     | (go_at_call 17; (with_reducible refine (Follow_no P _ _ _ _ _ _ hNw).mono ?_); rintro e wa ⟨rfl, hba⟩; replace hNw := hNw.below hba; replace hbf := below_then hbf hba; replace c0 := cell_b hba c0; replace c1 := cell_b hba c1; replace c2 := cell_b hba c2; replace c3 := cell_b hba c3; replace c4 := cell_b hba c4; replace p1 := cell_b hba p1; clear hba)
     | (go_at_call 22; (with_reducible refine (Back_no P _ _ _ _ _ _ hNw).mono ?_); rintro e wa ⟨rfl, hba⟩; replace hNw := hNw.below hba; replace hbf := below_then hbf hba; replace c0 := cell_b hba c0; replace c1 := cell_b hba c1; replace c2 := cell_b hba c2; replace c3 := cell_b hba c3; replace c4 := cell_b hba c4; replace p1 := cell_b hba p1; clear hba)
     | (go_at_call 20; (with_reducible refine (Epoch_no P _ hNw).mono ?_); rintro e wa ⟨rfl, hww⟩; subst hww)
     | (go_at_call 21; (with_reducible refine (Size_no P _ hNw).mono ?_); rintro e wa ⟨rfl, hww⟩; subst hww)
     | (go_at_call 39; (with_reducible refine (Round_no P _ _ hNw).mono ?_); rintro e wa ⟨rfl, hba⟩; replace hNw := hNw.below hba; replace hbf := below_then hbf hba; replace c0 := cell_b hba c0; replace c1 := cell_b hba c1; replace c2 := cell_b hba c2; replace c3 := cell_b hba c3; replace c4 := cell_b hba c4; replace p1 := cell_b hba p1; clear hba)
     | (go_at_call 33; (with_reducible refine (Receipt_no P _ _ _ hNw).mono ?_); rintro e wa ⟨rfl, hba⟩; replace hNw := hNw.below hba; replace hbf := below_then hbf hba; replace c0 := cell_b hba c0; replace c1 := cell_b hba c1; replace c2 := cell_b hba c2; replace c3 := cell_b hba c3; replace c4 := cell_b hba c4; replace p1 := cell_b hba p1; clear hba))
    go_roundw
    case rel => exact ⟨i + 1, by omega, by go_num, below_then hbr hbf⟩
    case measure => simp [intOf]; omega
   ·obtain rfl : i = 2 := by omega
    have hb9 := below_then hb8 hbr
    clear hb8 hbr HPI
    obtain ⟨-, c0, c1, c2, c3, c4⟩ := HX0.out _ hb9
    have p1 : wr.cell? ⟨g, 1, none⟩ = some (.slice (some ⟨b, o, none⟩) 2 cH) := (HG.out _ hb9).1.cell 1
    have mB := Lib.hid (HB8.out _ hb9)
    go_upto_region 16 with (go_at_call 37; (with_reducible refine mB.out.mono ?_); rintro e w6 ⟨y2, t2, rfl, hAp, hS2, hk2, hb10⟩; rw [hk2 rfl] at hAp; clear hk2 hS2; obtain ⟨ye, ym, yc, yp, yl⟩ := y2; obtain ⟨AM, cM, e1, -⟩ := OwnL.row hAp.m encM_len; obtain ⟨AC, cC, e2, -⟩ := OwnL.row hAp.c encI_len; dsimp only at e1 e2; subst e1 e2; have rs1 : ∀ (a : Addr) (w : World), (store a yp).run Tryz.prog w = stored Tryz.prog w a yp .plain := (fun a w => run_store _ w a _ _ (by obtain ⟨us, hpv, -⟩ := hAp.p; obtain ⟨A, c, e, -⟩ := OwnL.row hpv encV_len; dsimp only at e; rw [e]; rfl)); have rs2 : ∀ (a : Addr) (w : World), (store a yl).run Tryz.prog w = stored Tryz.prog w a yl .plain := (fun a w => run_store _ w a _ _ (by obtain ⟨A, c, e, -⟩ := OwnL.row hAp.l encH_len; dsimp only at e; rw [e]; rfl)))
    clear c0 c1 c2 c3 c4 p1 mB rs1 rs2
    refine name1p ?_
    intro w7 kf hb11
    have hIn2 := hAp.in_.below hb11
    have hoM := hAp.m.below hb11
    have hoC := hAp.c.below hb11
    have hlM := own_lt hAp.m
    have hlC := own_lt hAp.c
    have h67 := hb11.size
    dsimp only at hoM hoC hlM hlC
    obtain ⟨p3, hp3⟩ : ∃ k, k = w6.heap.size := ⟨_, rfl⟩
    rw [← hp3] at kf ⊢
    have hwr : W0.heap.size ≤ wr.heap.size := hb9.size
    have h6r := hb10.size
    obtain ⟨Br, hBr⟩ : ∃ k, k = wr.heap.size := ⟨_, rfl⟩
    rw [← hBr] at hoM hoC hwr h6r
    replace hb9 := below_then (below_then hb9 hb10) hb11
    clear hAp hb10 hb11 hp3 hBr
    obtain ⟨nM, hnM⟩ : ∃ k, k = t0.mems.length := ⟨_, rfl⟩
    obtain ⟨nC, hnC⟩ : ∃ k, k = t0.commits.length := ⟨_, rfl⟩
    have hnM2 : nM ≤ 20 := by rw [hnM]; exact HSM.out.1.m1
    have hnC2 : nC ≤ 100 := by rw [hnC]; exact HSM.out.1.c1
    rw [← hnM] at hoM hlM kf ⊢
    rw [← hnC] at hoC hlC kf ⊢
    have HNN := Lib.hid (And.intro hnM hnC)
    have m3 := Lib.hid (chain_new HCO.out.1 HCO.out.2 HH.out.1 _ w7 hIn2)
    dsimp only at m3
    rw [← hnM, ← hnC] at m3
    clear hIn2 hnM hnC
    have f0 : w7.cell? ⟨p3, 0, none⟩ = some (.int .i64 ye) := kf.cell 0
    have f1 : w7.cell? ⟨p3, 1, none⟩ = some (.slice AM nM cM) := kf.cell 1
    have f2 : w7.cell? ⟨p3, 2, none⟩ = some (.slice AC nC cC) := kf.cell 2
    have f3 : w7.cell? ⟨p3, 3, none⟩ = some yp := kf.cell 3
    have f4 : w7.cell? ⟨p3, 4, none⟩ = some yl := kf.cell 4
    go_upto_region 20 with (go_at_call 16; (with_reducible refine m3.out.mono ?_); rintro e w8 ⟨p, rfl, hCli, hb12⟩)
    clear f0 f1 f2 f3 f4 m3
    obtain ⟨B3, hB3⟩ : ∃ k, k = w7.heap.size := ⟨_, rfl⟩
    rw [← hB3] at hCli
    have hgM : ∀ q, AM = some ⟨q, 0, none⟩ → Br ≤ q ∧ q < B3 := fun q e => by
     subst e
     exact ⟨own_high hoM q rfl, by have := hlM q rfl; omega⟩
    have hgC : ∀ q, AC = some ⟨q, 0, none⟩ → Br ≤ q ∧ q < B3 := fun q e => by
     subst e
     exact ⟨own_high hoC q rfl, by have := hlC q rfl; omega⟩
    have HGM := Lib.hid (And.intro hgM hgC)
    have hpB : W0.heap.size ≤ p := by have := hCli.1; omega
    replace hoM := hoM.below hb12
    replace hoC := hoC.below hb12
    replace kf := kf.below hb12 kf.lt
    replace hb9 := below_then hb9 hb12
    clear hb12 hgM hgC hlM hlC hB3 h67
    go_loopw [15] (fun s15 wr => ∃ (i : Nat) (ms : List Mem), i ≤ nM ∧ s15 = .int .i64 (i : Int) ∧ ms.length = nM ∧ OwnM Br wr (.slice AM nM cM) ms ∧ OwnI Br wr (.slice AC nC cC) t0.commits ∧ Blk wr p3 46 #[.int .i64 ye, .slice AM nM cM, .slice AC nC cC, yp, yl] ∧ Cli B3 p wr t0 t0 ∧ Below W0.heap.size W0 wr) (fun s15 _ => nM - (intOf s15).toNat)
    case atStart => exact ⟨0, t0.mems, by omega, rfl, HNN.out.1.symm, hoM, hoC, kf, hCli, hb9⟩
    case round =>
     clear hoM hoC kf hCli hb9
     obtain ⟨i, ms, hi, rfl, hml, hoM, hoC, kf, hCli, hb9⟩ := hrel
     have f1 : wr.cell? ⟨p3, 1, none⟩ = some (.slice AM nM cM) := kf.cell 1
     by_cases hlt : i < nM
     ·have hlt' : (i : Int) < (nM : Int) := by omega
      obtain ⟨gm, hgm⟩ := own_at0 hoM (show 0 < nM by omega)
      have hgm2 := HGM.out.1 gm hgm
      subst hgm
      obtain ⟨x, hx⟩ : ∃ x, ms[i]? = some x := ⟨_, List.getElem?_eq_getElem (by omega)⟩
      have v0 := OwnL.cellAt encM_len hoM hx (k := 0) rfl
      have v1 := OwnL.cellAt encM_len hoM hx (k := 1) rfl
      have v2 := OwnL.cellAt encM_len hoM hx (k := 2) rfl
      have z0 := OwnL.frozenAt hoM hml.symm (i * 3 + 0)
      have z1 := OwnL.frozenAt hoM hml.symm (i * 3 + 1)
      have z2 := OwnL.frozenAt hoM hml.symm (i * 3 + 2)
      rw [Nat.add_zero] at v0 z0
      go_wp2_with fail
      clear v0 v1 v2 z0 z1 z2 f1
      have ho1 := OwnL.changed encM_len hoM hml.symm hx (k := 0) (x' := { x with id := 0 }) (u := .int .i64 0) (by omega) rfl
      have hx1 : (ms.set i { x with id := 0 })[i]? = some { x with id := 0 } := by rw [List.getElem?_set]; simp; omega
      have ho2 := OwnL.changed encM_len ho1 (by rw [List.length_set]; exact hml.symm) hx1 (k := 1) (x' := { x with id := 0, wt := 0 }) (u := .int .i64 0) (by omega) rfl
      have hx2 : ((ms.set i { x with id := 0 }).set i { x with id := 0, wt := 0 })[i]? = some { x with id := 0, wt := 0 } := by rw [List.getElem?_set]; simp; omega
      have ho3 := OwnL.changed encM_len ho2 (by rw [List.length_set, List.length_set]; exact hml.symm) hx2 (k := 2) (x' := ⟨0, 0, 0⟩) (u := .int .i64 0) (by omega) rfl
      rw [Nat.add_zero] at ho1 ho2 ho3
      have hgs := grown_set (grown_set (grown_set (grown_refl wr (some gm)) (i * 3) (.int .i64 0)) (i * 3 + 1) (.int .i64 0)) (i * 3 + 2) (.int .i64 0)
      have hoC2 := OwnL.kept hoC hgs (rows_apart hoC hoM (by decide))
      have kf2 := kf.grown hgs (own_ty hoM kf (by decide))
      have hC2 := ((hCli.low hgm2.2 (i * 3) (.int .i64 0)).low hgm2.2 (i * 3 + 1) (.int .i64 0)).low hgm2.2 (i * 3 + 2) (.int .i64 0)
      have hb13 := below_grown hb9 hgs (by omega) hb9.size
      go_roundw
      case rel => exact ⟨i + 1, _, by omega, by go_num, by rw [List.length_set, List.length_set, List.length_set]; exact hml, ho3, hoC2, kf2, hC2, hb13⟩
      case measure => simp [intOf]; omega
     ·obtain rfl : i = nM := by omega
      have f2 : wr.cell? ⟨p3, 2, none⟩ = some (.slice AC nC cC) := kf.cell 2
      go_upto_region 24 with fail
      clear f1 f2 hoM hml
      go_loopw [16] (fun s16 wr => ∃ (j : Nat) (cs : List Int), j ≤ nC ∧ s16 = .int .i64 (j : Int) ∧ cs.length = nC ∧ OwnI Br wr (.slice AC nC cC) cs ∧ Blk wr p3 46 #[.int .i64 ye, .slice AM i cM, .slice AC nC cC, yp, yl] ∧ Cli B3 p wr t0 t0 ∧ Below W0.heap.size W0 wr) (fun s16 _ => nC - (intOf s16).toNat)
      case atStart => exact ⟨0, t0.commits, by omega, rfl, HNN.out.2.symm, hoC, kf, hCli, hb9⟩
      case round =>
       clear hoC kf hCli hb9
       obtain ⟨j, cs, hj, rfl, hcl, hoC, kf, hCli, hb9⟩ := hrel
       have f2 : wr.cell? ⟨p3, 2, none⟩ = some (.slice AC nC cC) := kf.cell 2
       by_cases hlj : j < nC
       ·have hlj' : (j : Int) < (nC : Int) := by omega
        obtain ⟨gm, hgm⟩ := own_at0 hoC (show 0 < nC by omega)
        have hgm2 := HGM.out.2 gm hgm
        subst hgm
        obtain ⟨x, hx⟩ : ∃ x, cs[j]? = some x := ⟨_, List.getElem?_eq_getElem (by omega)⟩
        have v0 := OwnI.cell hoC hx
        have z0 := OwnI.frozen hoC hcl.symm j
        go_wp2_with fail
        clear v0 z0 f2
        have ho1 := OwnI.stored hoC j 0 hcl.symm
        have hgs := grown_set (grown_refl wr (some gm)) j (.int .i64 0)
        have kf2 := kf.grown hgs (own_ty hoC kf (by decide))
        have hC2 := hCli.low hgm2.2 j (.int .i64 0)
        have hb13 := below_grown hb9 hgs (by omega) hb9.size
        go_roundw
        case rel => exact ⟨j + 1, _, by omega, by go_num, by rw [List.length_set]; exact hcl, ho1, kf2, hC2, hb13⟩
        case measure => simp [intOf]; omega
       ·obtain rfl : j = nC := by omega
        go_upto_region 27 with fail
        clear f2 hoC hcl kf HGM
        obtain ⟨vs, hmany, hIv, hVo⟩ := chain_all HCO.out.1 HCO.out.2 HH.out.1 (strB (hdrL t1)) (by rw [strB_size]; have := hdrL_len HSM.out.2; omega) 65535 (by omega) (fun j hj => by rcases (show j = 0 ∨ j = 1 ∨ j = 2 ∨ j = 3 by omega) with rfl | rfl | rfl | rfl <;> rfl)
        have HS9 : Hid (∀ W, Below W0.heap.size W0 W → W.cell? ⟨g, 0, none⟩ = some (.slice AG 2 cG) ∧ W.cell? ⟨g, 1, none⟩ = some (.slice (some ⟨b, o, none⟩) 2 cH) ∧ W.cell? ⟨b, o + 5, none⟩ = some (.int .i64 x1.e) ∧ W.cell? ⟨b, o + 6, none⟩ = some (x1.m) ∧ W.cell? ⟨b, o + 7, none⟩ = some (x1.c) ∧ W.cell? ⟨b, o + 8, none⟩ = some (x1.p) ∧ W.cell? ⟨b, o + 9, none⟩ = some (x1.l)) := Lib.hid (fun W h => ⟨(HG.out W h).1.cell 0, (HG.out W h).1.cell 1, (HX1.out W h).2⟩)
        have HTX := Lib.hid (fun W h => rHeaderText_q x1 t1 HSM.out.2 W (HX1.out W h).1)
        have HVO := Lib.hid (fun W h => hVo _ W gs _ AG 2 cG (.slice (some ⟨b, o, none⟩) 2 cH) (HCI.out W h).1 (HCI.out W h).2)
        have HFO := Lib.hid (fun A n c W (h : Below W0.heap.size W0 W) (hn : n ≤ 4) hv hc => chain_many HCO.out.1 HCO.out.2 HH.out.1 HH.out.2 (by omega) B3 p t0 x1 A n c vs hmany (by omega) hIv W (HTT.out W h) (HX1.out W h).1 hv hc)
        unfold hdrA at HTX
        clear hmany hIv hVo
        have hbd := hb9.drew
        have hCd : Cli B3 p wr.drew t0 t0 := hCli.below (Below.refl _ _).drew
        clear hCli hb9
        refine region_here (fun Z : World => Z.cell? ⟨g, 0, none⟩ = some (.slice AG 2 cG) ∧ Z.cell? ⟨g, 1, none⟩ = some (.slice (some ⟨b, o, none⟩) 2 cH) ∧ Z.cell? ⟨b, o + 5, none⟩ = some (.int .i64 x1.e) ∧ Z.cell? ⟨b, o + 6, none⟩ = some (x1.m) ∧ Z.cell? ⟨b, o + 7, none⟩ = some (x1.c) ∧ Z.cell? ⟨b, o + 8, none⟩ = some (x1.p) ∧ Z.cell? ⟨b, o + 9, none⟩ = some (x1.l)) 14 (by kernel_rfl) (HS9.out _ hbd) (fun hHeld => ?_)
        generalize wr.drew = Z at *
        refine tkT 0 rfl ?_
        refine tkT 1 rfl ?_
        refine tkT 2 rfl ?_
        refine tkT 3 rfl ?_
        refine tkT 4 rfl ?_
        refine tkT 5 rfl ?_
        refine tkT 6 rfl ?_
        refine tkT 7 rfl ?_
        refine tkT 8 rfl ?_
        refine tkT 9 rfl ?_
        refine tkT 10 rfl ?_
        refine tkT 11 rfl ?_
        refine tkO 12 rfl fun K hK => ?_
        go_simp
        go_at_call 40
        refine (HTX.out _ hbd).mono ?_
        rintro e wa ⟨rfl, hba⟩
        (try go_wp2_with fail)
        replace hCd := hCd.below hba
        replace hbd := below_then hbd hba
        refine hK.out _ _ ?_ (fun hHeld12 => ?_)
        ·exact HS9.out _ hbd
        clear hK K
        try simp only [Act.put, pq1, pq2, pq3]
        refine tkO 13 rfl fun K hK => ?_
        go_simp
        go_at_call 18
        refine (HVO.out _ hbd).mono ?_
        rintro e wa ⟨A7, n7, c7, rfl, hn7, hv7, hba⟩
        (try go_wp2_with fail)
        replace hCd := hCd.below hba
        replace hbd := below_then hbd hba
        refine hK.out _ _ ?_ (fun hHeld13 => ?_)
        ·exact HS9.out _ hbd
        clear hK K
        try simp only [Act.put, pq1, pq2, pq3]
        refine tkK 14 rfl fun K hK => ?_
        go_simp
        go_at_call 17
        refine (HFO.out _ _ _ _ hbd hn7 hv7 hCd).mono ?_
        rintro e wa ⟨rfl, -, hg9⟩
        (try go_wp2_with fail)
        replace hbd := below_grown hbd hg9 hpB hbd.size
        refine hK.out _ _ ?_
        clear hK K
        try simp only [Act.put, pq1, pq2, pq3]
        refine tkB 15 rfl ?_
        refine tkB 16 rfl ?_
        refine tkB 17 rfl ?_
        refine wpAny_done (by kernel_rfl) ?_ _
        go_wp2_with fail
        go_ret
        exact ⟨rfl, below_then HBW.out hbd⟩

end Go.Proofs.YtkpinmejfdnhbaaGreatDoor
