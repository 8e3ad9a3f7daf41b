/- The law of clients that follow a chain and go back. -/
import Derived.Test.YtkpinmejfdnhbaaGreatDoorLkS
namespace Go.Proofs.YtkpinmejfdnhbaaGreatDoor
open Go.RowKit Go.Shelf
attribute [local go_sem] Oper.semAt_some
theorem wtLlD {P : Program} {md : Region.Mode} {ops : Array Oper} {Q : Exit → Act → World → Prop} {S : World → Prop} {k : Nat} (D : List Nat) (i : Nat) {oi : Oper} {v : Value} {fuel : Nat} {listed : Array Bool} {a : Act} {w : World} (hi : ops[i]? = some oi)
    (h : wpAnyS P md ops Q S k fuel (listed.setIfInBounds i true) (a.put oi.dst v) w)
    (hkD : k ∈ D := by simp) (hD : waitsB md ops listed i D = true := by kernel_rfl)
    (hs : Region.noSelect ops = true := by kernel_rfl) (hf : Region.free md ops listed i = true := by kernel_rfl) (hr : (Region.ready md ops listed).contains i = true := by kernel_rfl)
    (hQ : ∀ c a w, Q (.panic c) (a.put oi.dst v) w → Q (.panic c) a w := by exact fun _ _ _ h => h)
    (hw : Region.wanted oi (yielded ops a.tmps) = true := by rfl)
    (hy : ∀ w, S w → (execOp a.eval oi).run P w = .ok (.value v) w := by (intro w hSw; (try dsimp only at hSw); go_simp; try with_reducible rfl)) (hS : S w := by assumption)
    : wpAnyS P md ops Q S k (fuel + 1) listed a w :=
  wpAnyS_take D hkD hD hi hs hf hr hQ (Or.inl ⟨hw, hy⟩) hS h

theorem route_own (a b : Int) (ha : I64 a) (w : World) : Calls Tryz.prog 10 #[.int .i64 a, .int .i64 b] w fun e w' => ∃ A n c, e = .returned (.slice A n c) ∧ RowI w' A n c (intsN (routeG a b)) ∧ (∀ b o, A = some ⟨b, o, none⟩ → w.heap.size ≤ b) ∧ Below w.heap.size w w' := by
 refine (Route_q a b ha w).mono ?_
 rintro e w' ⟨v, rfl, ho, hb⟩
 obtain ⟨A, c, hv, hr⟩ := OwnL.row ho encI_len
 refine ⟨A, _, c, by rw [hv], hr, fun b o hA => ?_, hb⟩
 subst hA
 rcases ho.2 with ⟨e, -⟩ | ⟨g, cap, cur, e, hB, -⟩
 ·rw [hv] at e
  injection e with e1
  cases e1
 ·rw [hv] at e
  injection e with e1
  injection e1 with e2
  injection e2 with e3
  omega
theorem olds_q (L : Nat) (hL : L ≤ 1000) (w : World) : Calls Tryz.prog 23 #[.int .i64 (L : Int)] w fun e w' => e = .returned (.int .i64 (if 0 = L then 0 else 32)) ∧ w' = w := by
 by_cases h : 0 = L
 ·rw [if_pos h]
  subst h
  go_enter Tryz.func23, Tryz.ntmps23
  go_wp2_with fail
  go_ret
  exact ⟨rfl, rfl⟩
 ·rw [if_neg h]
  have h0 : ((L : Int) = 0) = False := eq_false (by omega)
  go_enter Tryz.func23, Tryz.ntmps23
  go_wp2_with fail
  go_ret
  exact ⟨rfl, rfl⟩

set_option maxRecDepth 100000 in
set_option maxHeartbeats 1500000 in
theorem LightGoes_any (A : Option Addr) (n c : Nat) (rs : List Value) (ls : List (List Int)) (z1 z2 : Nat) (w : World) (hT : Tabs w) (hr : RowV w A n c rs) (hrs : RowsI w rs ls) (hI : ∀ l ∈ ls, ∀ x ∈ l, I64 x) (hL : ∀ l ∈ ls, l.length ≤ 9223372036854775807) (hn : n ≤ 9223372036854775807) (hz1 : z1 ≤ 255) (hz2 : z2 ≤ 255) :
 Calls Tryz.prog 5 #[.slice A n c, .int .u8 (z1 : Int), .int .u8 (z2 : Int)] w fun e w' => e = .returned (.bool true) ∧ Below w.heap.size w w' := by
 have HT := Lib.hid hT
 have HR := Lib.hid (And.intro hr hrs)
 have m2 := Lib.hid (fun W h1 h2 => Made_q A n c rs ls hn hI hL W h1 h2)
 have m1 := Lib.hid (sanity_q w hT)
 clear hT hr hrs hI hL hn
 go_enter Tryz.func5, Tryz.ntmps5
 go_upto_region 2 with (go_at_call 9; (with_reducible refine m1.out.mono ?_); rintro e w1 ⟨rfl, hB⟩)
 clear m1
 go_upto_region 3 with (go_at_call 13; (with_reducible refine (m2.out _ (HR.out.1.below hB) (HR.out.2.below hB)).mono ?_); rintro e w2 ⟨vG, vH, gs, ys, es, hs, K, rfl, hoG, hoH, hCI, hCO, hel, hb2⟩; obtain ⟨AG, cG, hvG, hrG⟩ := OwnL.row hoG encGc_len; obtain ⟨AH, cH, hvH, hrH⟩ := OwnL.row hoH encH1_len; subst hvG hvH)
 replace hB := below_then hB hb2
 clear hb2 m2 HR
 refine name1p ?_
 intro W0 k1 hb3
 replace hB := below_then hB hb3
 have hyl : ys.length = hs.length := by have := hCI.hl; rwa [List.length_map] at this
 have hel2 : 1 ≤ es.length ∧ es.length ≤ 6 := by rw [hel]; unfold epochsN; omega
 have hes : es.length ≤ 1000 := by omega
 have hyn : 1 ≤ ys.length ∧ ys.length ≤ 6 := by rw [hyl, hCO.len]; exact hel2
 obtain ⟨b, o, hAH, hcc⟩ := chain_cells ((rowHd_map hrH).below hb3) (⟨hCI.hl, fun i x y hx hy => (hCI.h i x y hx hy).in_.below hb3⟩) hyn.1
 subst hAH
 have HCC := Lib.hid hcc
 have HCI := Lib.hid (fun W (h : Below W0.heap.size W0 W) => And.intro ((hCI.below hb3).below h) ((hrG.below hb3).below h))
 have HCO := Lib.hid (And.intro hCO hes)
 have HTT := Lib.hid (fun W (h : Below W0.heap.size W0 W) => (HT.out.below hB).below h)
 clear hcc hoG hoH hrG hrH hCI hCO hel hel2 hes hb3 HT
 generalize gs.length = ng at k1 HCI
 obtain ⟨nh, hnh⟩ : ∃ k, k = ys.length := ⟨_, rfl⟩
 rw [← hnh] at HCC k1 hyn
 have HNH : Hid (nh = hs.length) := Lib.hid (by rw [hnh, hyl])
 obtain ⟨g, hg⟩ : ∃ g, g = w2.heap.size := ⟨_, rfl⟩
 rw [← hg] at k1 ⊢
 have HG := Lib.hid (fun W (h : Below W0.heap.size W0 W) => k1.below h k1.lt)
 clear hg hnh hyl k1
 have hr0 := Below.refl W0.heap.size W0
 -- the client
 obtain ⟨x0, t0, ht0, h0⟩ := HCC.out 0 (by omega)
 obtain ⟨hin0, c0, c1, c2, c3, c4⟩ := h0 W0 hr0
 rw [Nat.zero_mul, Nat.add_zero] at c0 c1 c2 c3 c4
 have q1 : W0.cell? ⟨g, 1, none⟩ = some (.slice (some ⟨b, o, none⟩) nh cH) := (HG.out W0 hr0).cell 1
 have hnh' : (0 : Int) < (nh : Int) := by omega
 have m3 := Lib.hid (chain_new HCO.out.1 HCO.out.2 ht0 x0 W0 hin0)
 have H0 := Lib.hid (And.intro ht0 (fun W h => (h0 W h).1))
 clear hin0 h0 ht0
 go_upto_region 4 with (go_at_call 16; (with_reducible refine m3.out.mono ?_); rintro e w4 ⟨p, rfl, hCli, hb4⟩)
 clear c0 c1 c2 c3 c4 q1 m3 hnh'
 have hp0 : W0.heap.size ≤ p := hCli.1
 obtain ⟨BW, hBW⟩ : ∃ B, B = W0.heap.size := ⟨_, rfl⟩
 rw [← hBW] at hCli
 have hBW2 : BW ≤ p := by omega
 clear hBW
 go_upto_region 8 with fail
 go_loopw [10, 11] (fun s10 s11 wr => ∃ (L i : Nat) (tl : Hdr), s10 = .int .i64 (L : Int) ∧ s11 = .int .i64 (i : Int) ∧ i ≤ nh ∧ L < i ∧ Hid (hs[L]? = some tl) ∧ Cli BW p wr tl tl ∧ Below W0.heap.size W0 wr) (fun _ s11 _ => nh - (intOf s11).toNat)
 case atStart => exact ⟨0, 1, t0, rfl, rfl, by omega, by omega, Lib.hid H0.out.1, hCli, hb4⟩
 case round =>
  clear hCli hb4
  obtain ⟨L, i, tl, rfl, rfl, hi, hLi, HTL, hCli, hbr⟩ := hrel
  have q1 : wr.cell? ⟨g, 1, none⟩ = some (.slice (some ⟨b, o, none⟩) nh cH) := (HG.out wr hbr).cell 1
  by_cases hlt : i < nh
  ·have hlt' : (i : Int) < (nh : Int) := by omega
   by_cases hbit : bitN z1 i = 1
   ·have hba : Go.bits .and .u8 ((z1 : Int) / 2 ^ i) 1 = 1 := by rw [u8_and _ _ (by omega), hbit]; rfl
    go_wp2_with fail
    go_roundw
    case rel => exact ⟨L, i + 1, tl, rfl, by go_num, by omega, by omega, HTL, hCli, hbr⟩
    case measure => simp [intOf]; omega
   ·have hbit0 : bitN z1 i = 0 := by have := bitN_lt z1 i; omega
    have hba : Go.bits .and .u8 ((z1 : Int) / 2 ^ i) 1 = 0 := by rw [u8_and _ _ (by omega), hbit0]; rfl
    clear hbit hbit0
    go_upto_region 11 with fail
    clear q1 hba
    obtain ⟨x, t, ht, hx⟩ := HCC.out i hlt
    have hsm := HCO.out.1.small HCO.out.2 t (List.mem_of_getElem? ht)
    have he := (chain_epochs HCO.out.1 HCO.out.2 ht ht).1
    obtain ⟨vs, hmany, hIv, hVo⟩ := chain_all HCO.out.1 HCO.out.2 HTL.out (strB (hdrL t)) (by rw [strB_size]; have := hdrL_len hsm; omega) 65535 (by omega) (fun j hj => by rcases (show j = 0 ∨ j = 1 ∨ j = 2 ∨ j = 3 by omega) with rfl | rfl | rfl | rfl <;> rfl)
    have HS : Hid (∀ W, Below W0.heap.size W0 W → W.cell? ⟨g, 0, none⟩ = some (.slice AG ng cG) ∧ W.cell? ⟨g, 1, none⟩ = some (.slice (some ⟨b, o, none⟩) nh cH) ∧ W.cell? ⟨b, o + i * 5, none⟩ = some (.int .i64 x.e) ∧ W.cell? ⟨b, o + i * 5 + 1, none⟩ = some (x.m) ∧ W.cell? ⟨b, o + i * 5 + 2, none⟩ = some (x.c) ∧ W.cell? ⟨b, o + i * 5 + 3, none⟩ = some (x.p) ∧ W.cell? ⟨b, o + i * 5 + 4, none⟩ = some (x.l)) := Lib.hid (fun W h => ⟨(HG.out W h).cell 0, (HG.out W h).cell 1, (hx W h).2⟩)
    have HTX := Lib.hid (fun W h => HeaderText_q x t hsm W (HTT.out W h) (hx W h).1)
    have HVO := Lib.hid (fun W h => hVo _ W gs _ AG ng cG (.slice (some ⟨b, o, none⟩) nh cH) (HCI.out W h).1 (HCI.out W h).2)
    have HFO := Lib.hid (fun A n c W (h : Below W0.heap.size W0 W) (hn : n ≤ 4) hv hc => chain_many HCO.out.1 HCO.out.2 HTL.out ht hLi BW p tl x A n c vs hmany (by omega) hIv W (HTT.out W h) (hx W h).1 hv hc)
    have HEP := fun W h => Epoch_q BW p t t W h
    rw [he] at HEP
    have HSZ := fun W (h : Below W0.heap.size W0 W) hc => Size_q BW p t t hsm hsm W (HTT.out W h) hc
    rw [if_pos rfl] at HSZ
    replace HEP := Lib.hid HEP
    replace HSZ := Lib.hid HSZ
    have HTN := Lib.hid ht
    unfold hdrA at HTX
    clear ht hx hsm he hmany hIv hVo
    have hbd := hbr.drew
    have hCd : Cli BW p wr.drew tl tl := hCli.below (Below.refl _ _).drew
    clear hCli hbr
    refine region_here (fun Z : World => Z.cell? ⟨g, 0, none⟩ = some (.slice AG ng cG) ∧ Z.cell? ⟨g, 1, none⟩ = some (.slice (some ⟨b, o, none⟩) nh cH) ∧ Z.cell? ⟨b, o + i * 5, none⟩ = some (.int .i64 x.e) ∧ Z.cell? ⟨b, o + i * 5 + 1, none⟩ = some (x.m) ∧ Z.cell? ⟨b, o + i * 5 + 2, none⟩ = some (x.c) ∧ Z.cell? ⟨b, o + i * 5 + 3, none⟩ = some (x.p) ∧ Z.cell? ⟨b, o + i * 5 + 4, none⟩ = some (x.l)) 25 (by kernel_rfl) (HS.out _ hbd) (fun hHeld => ?_)
    generalize wr.drew = V at *
    refine wtLlD [15, 16, 17, 18, 19, 20, 21, 22, 23, 24, 25, 26, 27] 0 (oi := ⟨_, _, _, _, _, _⟩) rfl ?_
    try simp only [Act.put, pq1, pq2, pq3]
    refine wtLlD [2, 4, 5, 15, 16, 17, 18, 19, 20, 21, 22, 23, 24, 25, 26, 27] 1 (oi := ⟨_, _, _, _, _, _⟩) rfl ?_
    try simp only [Act.put, pq1, pq2, pq3]
    refine wtLlD [4, 5, 15, 16, 17, 18, 19, 20, 21, 22, 23, 24, 25, 26, 27] 2 (oi := ⟨_, _, _, _, _, _⟩) rfl ?_
    try simp only [Act.put, pq1, pq2, pq3]
    refine wtLlD [4, 5, 15, 16, 17, 18, 19, 20, 21, 22, 23, 24, 25, 26, 27] 3 (oi := ⟨_, _, _, _, _, _⟩) rfl ?_
    try simp only [Act.put, pq1, pq2, pq3]
    refine wtLlD [5, 15, 16, 17, 18, 19, 20, 21, 22, 23, 24, 25, 26, 27] 4 (oi := ⟨_, _, _, _, _, _⟩) rfl ?_
    try simp only [Act.put, pq1, pq2, pq3]
    refine wtLlD [15, 16, 17, 18, 19, 20, 21, 22, 23, 24, 25, 26, 27] 5 (oi := ⟨_, _, _, _, _, _⟩) rfl ?_
    try simp only [Act.put, pq1, pq2, pq3]
    refine wtLlD [14, 15, 16, 17, 18, 19, 20, 21, 22, 23, 24, 25, 26, 27] 6 (oi := ⟨_, _, _, _, _, _⟩) rfl ?_
    try simp only [Act.put, pq1, pq2, pq3]
    refine wtLlD [14, 15, 16, 17, 18, 19, 20, 21, 22, 23, 24, 25, 26, 27] 7 (oi := ⟨_, _, _, _, _, _⟩) rfl ?_
    try simp only [Act.put, pq1, pq2, pq3]
    refine wtLlD [9, 11, 12, 13, 14, 15, 16, 17, 18, 19, 20, 21, 22, 23, 24, 25, 26, 27] 8 (oi := ⟨_, _, _, _, _, _⟩) rfl ?_
    try simp only [Act.put, pq1, pq2, pq3]
    refine wtLlD [11, 12, 13, 14, 15, 16, 17, 18, 19, 20, 21, 22, 23, 24, 25, 26, 27] 9 (oi := ⟨_, _, _, _, _, _⟩) rfl ?_
    try simp only [Act.put, pq1, pq2, pq3]
    refine wtLlD [11, 12, 13, 14, 15, 16, 17, 18, 19, 20, 21, 22, 23, 24, 25, 26, 27] 10 (oi := ⟨_, _, _, _, _, _⟩) rfl ?_
    try simp only [Act.put, pq1, pq2, pq3]
    refine wtLlD [12, 13, 14, 15, 16, 17, 18, 19, 20, 21, 22, 23, 24, 25, 26, 27] 11 (oi := ⟨_, _, _, _, _, _⟩) rfl ?_
    try simp only [Act.put, pq1, pq2, pq3]
    refine wtLlD [13, 14, 15, 16, 17, 18, 19, 20, 21, 22, 23, 24, 25, 26, 27] 12 (oi := ⟨_, _, _, _, _, _⟩) rfl ?_
    try simp only [Act.put, pq1, pq2, pq3]
    refine wpAnyS_one (i := 13) (oi := ⟨_, _, _, _, _, _⟩) rfl (by kernel_rfl) (fun K hK => ?_)
    go_simp
    go_at_call 19
    refine (HTX.out _ hbd).mono ?_
    rintro e wa ⟨rfl, hba⟩
    (try go_wp2_with fail)
    replace hCd := hCd.below hba
    replace hbd := below_then hbd hba
    refine hK.out _ _ ?_ (fun hHeld13 => ?_)
    ·exact HS.out _ hbd
    clear hK K
    try simp only [Act.put, pq1, pq2, pq3]
    refine wpAnyS_one (i := 14) (oi := ⟨_, _, _, _, _, _⟩) rfl (by kernel_rfl) (fun K hK => ?_)
    go_simp
    go_at_call 18
    refine (HVO.out _ hbd).mono ?_
    rintro e wa ⟨A7, n7, c7, rfl, hn7, hv7, hba⟩
    (try go_wp2_with fail)
    replace hCd := hCd.below hba
    replace hbd := below_then hbd hba
    refine hK.out _ _ ?_ (fun hHeld14 => ?_)
    ·exact HS.out _ hbd
    clear hK K
    try simp only [Act.put, pq1, pq2, pq3]
    refine wpAnyS_one (i := 15) (oi := ⟨_, _, _, _, _, _⟩) rfl (by kernel_rfl) (fun K hK => ?_)
    go_simp
    go_at_call 17
    refine (HFO.out _ _ _ _ hbd hn7 hv7 hCd).mono ?_
    rintro e wa ⟨rfl, hc2, hgr⟩
    (try go_wp2_with fail)
    replace hbd := below_grown hbd hgr hp0 hbd.size
    replace hCd := hc2
    clear hc2 hgr hv7 hn7
    refine hK.out _ _ ?_ (fun hHeld15 => ?_)
    ·exact HS.out _ hbd
    clear hK K
    try simp only [Act.put, pq1, pq2, pq3]
    refine wtLlD [17, 18, 19, 20, 21, 22, 23, 24, 25, 26, 27] 16 (oi := ⟨_, _, _, _, _, _⟩) rfl ?_
    try simp only [Act.put, pq1, pq2, pq3]
    refine wtLlD [18, 19, 20, 21, 22, 23, 24, 25, 26, 27] 17 (oi := ⟨_, _, _, _, _, _⟩) rfl ?_
    try simp only [Act.put, pq1, pq2, pq3]
    refine wtLlD [19, 21, 22, 23, 24, 25, 26, 27] 18 (oi := ⟨_, _, _, _, _, _⟩) rfl ?_
    try simp only [Act.put, pq1, pq2, pq3]
    refine wtLlD [21, 22, 23, 24, 25, 26, 27] 20 (oi := ⟨_, _, _, _, _, _⟩) rfl ?_
    try simp only [Act.put, pq1, pq2, pq3]
    refine wpAnyS_one (i := 19) (oi := ⟨_, _, _, _, _, _⟩) rfl (by kernel_rfl) (fun K hK => ?_)
    go_simp
    go_at_call 20
    refine (HEP.out _ hCd).mono ?_
    rintro e wa ⟨rfl, hww⟩
    (try go_wp2_with fail)
    subst hww
    refine hK.out _ _ ?_ (fun hHeld19 => ?_)
    ·exact HS.out _ hbd
    clear hK K
    try simp only [Act.put, pq1, pq2, pq3]
    refine wtLlD [22, 23, 24, 25, 26, 27] 21 (oi := ⟨_, _, _, _, _, _⟩) rfl ?_
    try simp only [Act.put, pq1, pq2, pq3]
    refine wtLlD [23, 24, 25, 26, 27] 22 (oi := ⟨_, _, _, _, _, _⟩) rfl ?_
    try simp only [Act.put, pq1, pq2, pq3]
    refine wtLlD [24, 25, 26, 27] 23 (oi := ⟨_, _, _, _, _, _⟩) rfl ?_
    try simp only [Act.put, pq1, pq2, pq3]
    refine wtLlD [25, 26, 27] 24 (oi := ⟨_, _, _, _, _, _⟩) rfl ?_
    try simp only [Act.put, pq1, pq2, pq3]
    refine wpAnyS_call (k := 25) (ok := ⟨_, _, _, _, _, _⟩) rfl (by kernel_rfl) (by kernel_rfl) (fun K hK => ?_)
    go_simp
    go_at_call 21
    refine (HSZ.out _ hbd hCd).mono ?_
    rintro e wa ⟨rfl, hba⟩
    (try go_wp2_with fail)
    replace hCd := hCd.below hba
    replace hbd := below_then hbd hba
    refine hK.out _ _ ?_
    clear hK K
    try simp only [Act.put, pq1, pq2, pq3]
    refine wpAny_take (i := 26) (oi := ⟨_, _, _, _, _, _⟩) (v := ?_) rfl (by kernel_rfl) (by kernel_rfl) (by kernel_rfl) (fun _ _ _ h => h) (Or.inl ⟨by rfl, ?_⟩) ?_
    rotate_left
    ·(intro w; go_simp; try with_reducible rfl)
    try simp only [Act.put, pq1, pq2, pq3]
    refine wpAny_take (i := 27) (oi := ⟨_, _, _, _, _, _⟩) (v := ?_) rfl (by kernel_rfl) (by kernel_rfl) (by kernel_rfl) (fun _ _ _ h => h) (Or.inl ⟨by rfl, ?_⟩) ?_
    rotate_left
    ·(intro w; go_simp; try with_reducible rfl)
    try simp only [Act.put, pq1, pq2, pq3]
    refine wpAny_done (by kernel_rfl) ?_ _
    go_wp2_with fail
    go_roundw
    case rel => exact ⟨i, i + 1, t, rfl, by go_num, by omega, by omega, HTN, hCd, hbd⟩
    case measure => simp [intOf]; omega
  ·obtain rfl : i = nh := by omega
   obtain ⟨bq, hbq⟩ : ∃ q, q = z2 % (L + 1) := ⟨_, rfl⟩
   have hbL : bq ≤ L := by have := Nat.mod_lt z2 (show 0 < L + 1 by omega); omega
   have hrem : (z2 : Int).tmod ((L : Int) + 1) = (bq : Int) := by rw [Int.tmod_eq_emod_of_nonneg (by omega), hbq, Int.natCast_emod]; rfl
   have hm0 : (((L : Int) + 1) == 0) = false := by rw [beq_eq_false_iff_ne]; omega
   have hL5 : L ≤ 5 := by omega
   clear hbq
   have m5 := Lib.hid (route_own (L : Int) (bq : Int) ⟨by omega, by omega⟩ wr)
   go_upto_region 15 with (go_at_call 10; (with_reducible refine m5.out.mono ?_); rintro e w5 ⟨AR, nr, cR, rfl, hrR, hARb, hb5⟩)
   have hpw : p < wr.heap.size := by obtain ⟨-, _, _, kc, -⟩ := hCli; exact kc.lt
   replace hCli := hCli.below hb5
   replace hbr := below_then hbr hb5
   clear hb5 m5 hrem hm0 q1
   obtain ⟨D, hD⟩ : ∃ D, D = L - bq := ⟨_, rfl⟩
   have HLD : Hid (L = bq + D) := Lib.hid (by omega)
   have hDL : D ≤ L := by omega
   rw [route_small hbL, ← hD] at hrR
   have HNL : Hid (nr = (leftD 64 D).length) := Lib.hid (by have := hrR.len; rw [intsN, List.length_map, List.length_map] at this; exact this.symm)
   have hnr : nr ≤ 64 := by rw [HNL.out]; exact left_le _ _
   have HRR := Lib.hid (fun W (h : w5.grownBy W (some p)) => row_grown hrR h (fun b o e e2 => by have := hARb b o e; omega))
   have HB5 := Lib.hid (fun W (h : w5.grownBy W (some p)) => below_grown hbr h hp0 hbr.size)
   have hg5 := grown_refl w5 (some p)
   have HSL := Lib.hid (HCO.out.1.small HCO.out.2 tl (List.mem_of_getElem? HTL.out))
   have HEL := Lib.hid (chain_epochs HCO.out.1 HCO.out.2 HTL.out HTL.out).1
   clear hrR hARb hbr hpw hD hlt
   go_wp2_with fail
   go_loopw [13] (fun s13 wr => ∃ (j f d P : Nat) (tp : Hdr), s13 = .int .i64 (j : Int) ∧ j ≤ nr ∧ d ≤ D ∧ Hid (P = bq + d) ∧ Hid (hs[P]? = some tp) ∧ Hid ((leftD 64 D).drop j = leftD f d ∧ d < 2 ^ f) ∧ Hid (0 < j → (intsN ((leftD 64 D).map (bq + ·)))[j - 1]? = some (P : Int)) ∧ Cli BW p wr tl tp ∧ w5.grownBy wr (some p)) (fun s13 _ => nr - (intOf s13).toNat)
   case atStart => exact ⟨0, 64, D, L, tl, rfl, by omega, by omega, HLD, HTL, Lib.hid ⟨by rw [List.drop_zero], by omega⟩, Lib.hid (fun h => absurd h (by omega)), hCli, hg5⟩
   case round =>
    clear hCli hg5
    obtain ⟨j, f, d, P, tp, rfl, hj, hdD, HP, HTP, HF, HLA, hCli, hgr⟩ := hrel
    by_cases hjl : j < nr
    ·have hjl' : (j : Int) < (nr : Int) := by omega
     obtain ⟨f2, k, hk1, hk2, he, hf2, hd2⟩ := drop_left HF.out.1 HF.out.2 (by rw [← HNL.out]; exact hjl)
     obtain ⟨Q, hQ⟩ : ∃ Q, Q = bq + (d - 2 ^ k) := ⟨_, rfl⟩
     have hQP : P = Q + 2 ^ k := by rw [HP.out, hQ]; omega
     have hlQ : (intsN ((leftD 64 D).map (bq + ·)))[j]? = some (Q : Int) := by
      unfold intsN
      rw [List.getElem?_map, List.getElem?_map, he, hQ]; rfl
     obtain ⟨br, or_, v, hAR, hv, -⟩ := RowI.get (HRR.out _ hgr) hjl
     subst hAR
     have hRc : ∀ W, w5.grownBy W (some p) → W.cell? ⟨br, or_ + j, none⟩ = some (.int .i64 (Q : Int)) := fun W h => by
      obtain ⟨b', o', v', e', hv', cv⟩ := RowI.get (HRR.out W h) hjl
      cases e'
      rw [hlQ] at hv'
      obtain rfl := Option.some.inj hv'
      exact cv
     have hk0 := Nat.two_pow_pos k
     have hPL : P ≤ L := by rw [HP.out]; have := HLD.out; omega
     have hQL : Q < L := by omega
     have hQi : Q < i := by omega
     obtain ⟨x, t, ht, hx⟩ := HCC.out Q hQi
     have hsm := HCO.out.1.small HCO.out.2 t (List.mem_of_getElem? ht)
     have het := (chain_epochs HCO.out.1 HCO.out.2 ht ht).1
     have HBK := Lib.hid (fun W (h : w5.grownBy W (some p)) hc => chain_back HCO.out.1 HCO.out.2 ht HTP.out (i := k) hQP BW p tl x W (HTT.out W (HB5.out W h)) (hx W (HB5.out W h)).1 hc)
     have HEP := fun W h => Epoch_q BW p tl t W h
     rw [het] at HEP
     have HSZ := fun W (h : w5.grownBy W (some p)) hc => Size_q BW p tl t HSL.out hsm W (HTT.out W (HB5.out W h)) hc
     rw [if_neg (fun e => by have := hdr_epoch e; rw [HEL.out, het] at this; omega)] at HSZ
     replace HEP := Lib.hid HEP
     replace HSZ := Lib.hid HSZ
     have HS : Hid (∀ W, w5.grownBy W (some p) → W.cell? ⟨g, 1, none⟩ = some (.slice (some ⟨b, o, none⟩) i cH) ∧ W.cell? ⟨br, or_ + j, none⟩ = some (.int .i64 (Q : Int)) ∧ W.cell? ⟨b, o + Q * 5, none⟩ = some (.int .i64 x.e) ∧ W.cell? ⟨b, o + Q * 5 + 1, none⟩ = some (x.m) ∧ W.cell? ⟨b, o + Q * 5 + 2, none⟩ = some (x.c) ∧ W.cell? ⟨b, o + Q * 5 + 3, none⟩ = some (x.p) ∧ W.cell? ⟨b, o + Q * 5 + 4, none⟩ = some (x.l)) := Lib.hid (fun W h => ⟨(HG.out W (HB5.out W h)).cell 1, hRc W h, (hx W (HB5.out W h)).2⟩)
     have hdn : d - 2 ^ k ≤ D := by omega
     have HN : Hid (Q = bq + (d - 2 ^ k) ∧ hs[Q]? = some t ∧ ((leftD 64 D).drop (j + 1) = leftD f2 (d - 2 ^ k) ∧ d - 2 ^ k < 2 ^ f2) ∧ (0 < j + 1 → (intsN ((leftD 64 D).map (bq + ·)))[j + 1 - 1]? = some (Q : Int))) := Lib.hid ⟨hQ, ht, ⟨hf2, hd2⟩, fun _ => by rw [Nat.add_sub_cancel]; exact hlQ⟩
     generalize hdk : d - 2 ^ k = dk at *
     have hQi' : (Q : Int) < (i : Int) := by omega
     clear hk1 hk2 he hf2 hd2 hQ hQP hlQ hv hRc hk0 hPL hx ht hsm het hdk HP HF HLA hdD HTP
     go_upto_region 18 with fail
     have hgd := grown_trans hgr (grown_of_below (Below.refl wr.heap.size wr).drew (some p))
     have hCd : Cli BW p wr.drew tl tp := hCli.below (Below.refl _ _).drew
     clear hCli hgr
     refine region_here (fun Z : World => Z.cell? ⟨g, 1, none⟩ = some (.slice (some ⟨b, o, none⟩) i cH) ∧ Z.cell? ⟨br, or_ + j, none⟩ = some (.int .i64 (Q : Int)) ∧ Z.cell? ⟨b, o + Q * 5, none⟩ = some (.int .i64 x.e) ∧ Z.cell? ⟨b, o + Q * 5 + 1, none⟩ = some (x.m) ∧ Z.cell? ⟨b, o + Q * 5 + 2, none⟩ = some (x.c) ∧ Z.cell? ⟨b, o + Q * 5 + 3, none⟩ = some (x.p) ∧ Z.cell? ⟨b, o + Q * 5 + 4, none⟩ = some (x.l)) 22 (by kernel_rfl) (HS.out _ hgd) (fun hHeld => ?_)
     generalize wr.drew = V at *
     refine wtLlD [9, 10, 11, 12, 13, 14, 15, 16, 17, 18, 19, 20, 21, 22, 23, 24] 0 (oi := ⟨_, _, _, _, _, _⟩) rfl ?_
     try simp only [Act.put, pq1, pq2, pq3]
     refine wtLlD [2, 7, 8, 9, 10, 11, 12, 13, 14, 15, 16, 17, 18, 19, 20, 21, 22, 23, 24] 1 (oi := ⟨_, _, _, _, _, _⟩) rfl ?_
     try simp only [Act.put, pq1, pq2, pq3]
     refine wtLlD [7, 8, 9, 10, 11, 12, 13, 14, 15, 16, 17, 18, 19, 20, 21, 22, 23, 24] 2 (oi := ⟨_, _, _, _, _, _⟩) rfl ?_
     try simp only [Act.put, pq1, pq2, pq3]
     refine wtLlD [5, 6, 7, 8, 9, 10, 11, 12, 13, 14, 15, 16, 17, 18, 19, 20, 21, 22, 23, 24] 3 (oi := ⟨_, _, _, _, _, _⟩) rfl ?_
     try simp only [Act.put, pq1, pq2, pq3]
     refine wtLlD [5, 6, 7, 8, 9, 10, 11, 12, 13, 14, 15, 16, 17, 18, 19, 20, 21, 22, 23, 24] 4 (oi := ⟨_, _, _, _, _, _⟩) rfl ?_
     try simp only [Act.put, pq1, pq2, pq3]
     refine wtLlD [6, 7, 8, 9, 10, 11, 12, 13, 14, 15, 16, 17, 18, 19, 20, 21, 22, 23, 24] 5 (oi := ⟨_, _, _, _, _, _⟩) rfl ?_
     try simp only [Act.put, pq1, pq2, pq3]
     refine wtLlD [7, 8, 9, 10, 11, 12, 13, 14, 15, 16, 17, 18, 19, 20, 21, 22, 23, 24] 6 (oi := ⟨_, _, _, _, _, _⟩) rfl ?_
     try simp only [Act.put, pq1, pq2, pq3]
     refine wtLlD [8, 9, 10, 11, 12, 13, 14, 15, 16, 17, 18, 19, 20, 21, 22, 23, 24] 7 (oi := ⟨_, _, _, _, _, _⟩) rfl ?_
     try simp only [Act.put, pq1, pq2, pq3]
     refine wtLlD [9, 10, 11, 12, 13, 14, 15, 16, 17, 18, 19, 20, 21, 22, 23, 24] 8 (oi := ⟨_, _, _, _, _, _⟩) rfl ?_
     try simp only [Act.put, pq1, pq2, pq3]
     refine wpAnyS_one (i := 9) (oi := ⟨_, _, _, _, _, _⟩) rfl (by kernel_rfl) (fun K hK => ?_)
     go_simp
     go_at_call 22
     refine (HBK.out _ hgd hCd).mono ?_
     rintro e wa ⟨rfl, hc2, hg2⟩
     (try go_wp2_with fail)
     replace hgd := grown_trans hgd hg2
     replace hCd := hc2
     clear hc2 hg2
     refine hK.out _ _ ?_ (fun hHeld9 => ?_)
     ·exact HS.out _ hgd
     clear hK K
     try simp only [Act.put, pq1, pq2, pq3]
     refine wtLlD [11, 12, 13, 14, 15, 16, 17, 18, 19, 20, 21, 22, 23, 24] 10 (oi := ⟨_, _, _, _, _, _⟩) rfl ?_
     try simp only [Act.put, pq1, pq2, pq3]
     refine wtLlD [12, 13, 14, 15, 16, 17, 18, 19, 20, 21, 22, 23, 24] 11 (oi := ⟨_, _, _, _, _, _⟩) rfl ?_
     try simp only [Act.put, pq1, pq2, pq3]
     refine wtLlD [13, 18, 19, 20, 21, 22, 23, 24] 12 (oi := ⟨_, _, _, _, _, _⟩) rfl ?_
     try simp only [Act.put, pq1, pq2, pq3]
     refine wtLlD [16, 17, 18, 19, 20, 21, 22, 23, 24] 14 (oi := ⟨_, _, _, _, _, _⟩) rfl ?_
     try simp only [Act.put, pq1, pq2, pq3]
     refine wtLlD [16, 17, 18, 19, 20, 21, 22, 23, 24] 15 (oi := ⟨_, _, _, _, _, _⟩) rfl ?_
     try simp only [Act.put, pq1, pq2, pq3]
     refine wtLlD [17, 18, 19, 20, 21, 22, 23, 24] 16 (oi := ⟨_, _, _, _, _, _⟩) rfl ?_
     try simp only [Act.put, pq1, pq2, pq3]
     refine wtLlD [18, 19, 20, 21, 22, 23, 24] 17 (oi := ⟨_, _, _, _, _, _⟩) rfl ?_
     try simp only [Act.put, pq1, pq2, pq3]
     refine wpAnyS_one (i := 13) (oi := ⟨_, _, _, _, _, _⟩) rfl (by kernel_rfl) (fun K hK => ?_)
     go_simp
     go_at_call 20
     refine (HEP.out _ hCd).mono ?_
     rintro e wa ⟨rfl, hww⟩
     (try go_wp2_with fail)
     subst hww
     refine hK.out _ _ ?_ (fun hHeld13 => ?_)
     ·exact HS.out _ hgd
     clear hK K
     try simp only [Act.put, pq1, pq2, pq3]
     refine wtLlD [19, 20, 21, 22, 23, 24] 18 (oi := ⟨_, _, _, _, _, _⟩) rfl ?_
     try simp only [Act.put, pq1, pq2, pq3]
     refine wtLlD [20, 21, 22, 23, 24] 19 (oi := ⟨_, _, _, _, _, _⟩) rfl ?_
     try simp only [Act.put, pq1, pq2, pq3]
     refine wtLlD [21, 22, 23, 24] 20 (oi := ⟨_, _, _, _, _, _⟩) rfl ?_
     try simp only [Act.put, pq1, pq2, pq3]
     refine wtLlD [22, 23, 24] 21 (oi := ⟨_, _, _, _, _, _⟩) rfl ?_
     try simp only [Act.put, pq1, pq2, pq3]
     refine wpAnyS_call (k := 22) (ok := ⟨_, _, _, _, _, _⟩) rfl (by kernel_rfl) (by kernel_rfl) (fun K hK => ?_)
     go_simp
     go_at_call 21
     refine (HSZ.out _ hgd hCd).mono ?_
     rintro e wa ⟨rfl, hba⟩
     (try go_wp2_with fail)
     replace hCd := hCd.below hba
     replace hgd := grown_trans hgd (grown_of_below hba (some p))
     refine hK.out _ _ ?_
     clear hK K
     try simp only [Act.put, pq1, pq2, pq3]
     refine wpAny_take (i := 23) (oi := ⟨_, _, _, _, _, _⟩) (v := ?_) rfl (by kernel_rfl) (by kernel_rfl) (by kernel_rfl) (fun _ _ _ h => h) (Or.inl ⟨by rfl, ?_⟩) ?_
     rotate_left
     ·(intro w; go_simp; try with_reducible rfl)
     try simp only [Act.put, pq1, pq2, pq3]
     refine wpAny_take (i := 24) (oi := ⟨_, _, _, _, _, _⟩) (v := ?_) rfl (by kernel_rfl) (by kernel_rfl) (by kernel_rfl) (fun _ _ _ h => h) (Or.inl ⟨by rfl, ?_⟩) ?_
     rotate_left
     ·(intro w; go_simp; try with_reducible rfl)
     try simp only [Act.put, pq1, pq2, pq3]
     refine wpAny_done (by kernel_rfl) ?_ _
     go_wp2_with fail
     go_roundw
     case rel => exact ⟨j + 1, f2, dk, Q, t, by go_num, by omega, hdn, Lib.hid HN.out.1, Lib.hid HN.out.2.1, Lib.hid HN.out.2.2.1, Lib.hid HN.out.2.2.2, hCd, hgd⟩
     case measure => simp [intOf]; omega
    ·obtain rfl : j = nr := by omega
     have hd0 : d = 0 := drop_end HF.out.1 HF.out.2 (by rw [← HNL.out]; exact Nat.le_refl _)
     have hPL : P ≤ L := by rw [HP.out]; have := HLD.out; omega
     obtain ⟨xL, tL, htL, hxL⟩ := HCC.out L hLi
     rw [HTL.out] at htL
     obtain rfl := Option.some.inj htL
     obtain ⟨xz, tz, htz, hxz⟩ := HCC.out 0 (by omega)
     simp only [Nat.zero_mul, Nat.add_zero] at hxz
     have HXL := Lib.hid hxL
     have HXZ := Lib.hid hxz
     have HTZ := Lib.hid htz
     have mo := Lib.hid (olds_q L (by omega))
     clear htL hxL hxz htz HP HF hd0 hdD HNL HSL
     have hLi' : (L : Int) < (i : Int) := by omega
     have hi0' : (0 : Int) < (i : Int) := by omega
     by_cases hj0 : j = 0
     ·subst hj0
      clear HLA HTP HRR
      go_upto_region 22 with fail
      obtain ⟨hinZ, c0, c1, c2, c3, c4⟩ := HXZ.out _ (HB5.out _ hgr)
      have p1 : wr.cell? ⟨g, 1, none⟩ = some (.slice (some ⟨b, o, none⟩) i cH) := (HG.out _ (HB5.out _ hgr)).cell 1
      have m8 := Lib.hid (chain_old HCO.out.1 HCO.out.2 HTL.out HTZ.out (Nat.zero_le L) BW p _ xz none 0 0 [] (by omega) (fun v hv => by cases hv) _ (HTT.out _ (HB5.out _ hgr)) hinZ (row_none _) hCli)
      obtain ⟨z, hz⟩ : ∃ z : Int, z = if 0 = L then 0 else 32 := ⟨_, rfl⟩
      rw [← hz] at m8 mo
      clear hinZ hz
      go_wp2_with (first
       | (go_at_call 17; (with_reducible refine m8.out.mono ?_); rintro e w9 ⟨rfl, -, hg9⟩)
       | (go_at_call 23; (with_reducible refine (mo.out _).mono ?_); rintro e w10 ⟨rfl, hww⟩; subst hww))
      go_ret
      exact ⟨rfl, below_then hB (HB5.out _ (grown_trans hgr hg9))⟩
     ·obtain ⟨r1, hr1⟩ : ∃ r, j = r + 1 := ⟨j - 1, by omega⟩
      subst hr1
      have hla := HLA.out (by omega)
      rw [Nat.add_sub_cancel] at hla
      obtain ⟨br, or_, v, hAR, hv, cv⟩ := RowI.get (HRR.out _ hgr) (show r1 < r1 + 1 by omega)
      subst hAR
      rw [hla] at hv
      obtain rfl := Option.some.inj hv
      have hj0' : (0 : Int) < ((r1 + 1 : Nat) : Int) := by omega
      have hr1' : (r1 : Int) < ((r1 + 1 : Nat) : Int) := by omega
      clear hla hv HLA HRR
      by_cases hP0 : P = 0
      ·subst hP0
       obtain ⟨hinL, d0, d1, d2, d3, d4⟩ := HXL.out _ (HB5.out _ hgr)
       have p1 : wr.cell? ⟨g, 1, none⟩ = some (.slice (some ⟨b, o, none⟩) i cH) := (HG.out _ (HB5.out _ hgr)).cell 1
       have m7 := Lib.hid (chain_stop HCO.out.1 HCO.out.2 HTL.out HTP.out BW p tl xL _ (HTT.out _ (HB5.out _ hgr)) hinL hCli)
       clear hinL
       go_upto_region 22 with (go_at_call 22; (with_reducible refine m7.out.mono ?_); rintro e w8 ⟨rfl, hc8, hg8⟩)
       replace hCli := hc8
       replace hgr := grown_trans hgr hg8
       clear d0 d1 d2 d3 d4 p1 m7 cv hc8 hg8
       obtain ⟨hinZ, c0, c1, c2, c3, c4⟩ := HXZ.out _ (HB5.out _ hgr)
       have p1 : w8.cell? ⟨g, 1, none⟩ = some (.slice (some ⟨b, o, none⟩) i cH) := (HG.out _ (HB5.out _ hgr)).cell 1
       have m8 := Lib.hid (chain_old HCO.out.1 HCO.out.2 HTL.out HTZ.out (Nat.zero_le L) BW p _ xz none 0 0 [] (by omega) (fun v hv => by cases hv) _ (HTT.out _ (HB5.out _ hgr)) hinZ (row_none _) hCli)
       obtain ⟨z, hz⟩ : ∃ z : Int, z = if 0 = L then 0 else 32 := ⟨_, rfl⟩
       rw [← hz] at m8 mo
       clear hinZ hz
       go_wp2_with (first
        | (go_at_call 17; (with_reducible refine m8.out.mono ?_); rintro e w9 ⟨rfl, -, hg9⟩)
        | (go_at_call 23; (with_reducible refine (mo.out _).mono ?_); rintro e w10 ⟨rfl, hww⟩; subst hww))
       go_ret
       exact ⟨rfl, below_then hB (HB5.out _ (grown_trans hgr hg9))⟩
      ·have hPn : decide ((P : Int) = 0) = false := decide_eq_false (by omega)
       go_upto_region 22 with fail
       clear cv hPn
       obtain ⟨hinZ, c0, c1, c2, c3, c4⟩ := HXZ.out _ (HB5.out _ hgr)
       have p1 : wr.cell? ⟨g, 1, none⟩ = some (.slice (some ⟨b, o, none⟩) i cH) := (HG.out _ (HB5.out _ hgr)).cell 1
       have m8 := Lib.hid (chain_old HCO.out.1 HCO.out.2 HTL.out HTZ.out (Nat.zero_le L) BW p _ xz none 0 0 [] (by omega) (fun v hv => by cases hv) _ (HTT.out _ (HB5.out _ hgr)) hinZ (row_none _) hCli)
       obtain ⟨z, hz⟩ : ∃ z : Int, z = if 0 = L then 0 else 32 := ⟨_, rfl⟩
       rw [← hz] at m8 mo
       clear hinZ hz
       go_wp2_with (first
        | (go_at_call 17; (with_reducible refine m8.out.mono ?_); rintro e w9 ⟨rfl, -, hg9⟩)
        | (go_at_call 23; (with_reducible refine (mo.out _).mono ?_); rintro e w10 ⟨rfl, hww⟩; subst hww))
       go_ret
       exact ⟨rfl, below_then hB (HB5.out _ (grown_trans hgr hg9))⟩

end Go.Proofs.YtkpinmejfdnhbaaGreatDoor
