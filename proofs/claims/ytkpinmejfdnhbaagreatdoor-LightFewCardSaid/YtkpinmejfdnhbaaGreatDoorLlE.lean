/- The law of too few votes. -/
import Derived.Test.YtkpinmejfdnhbaaGreatDoorLkS
namespace Go.Proofs.YtkpinmejfdnhbaaGreatDoor
open Go.RowKit Go.Shelf
attribute [local go_sem] Oper.semAt_some

theorem Made_two (A : Option Addr) (n c : Nat) (l : List Int) (B : Option Addr) (m e : Nat) (k : List Int) (hI1 : ∀ x ∈ l, I64 x) (hI2 : ∀ x ∈ k, I64 x) (hn : n ≤ 9223372036854775807) (hm : m ≤ 9223372036854775807) (w : World) (h1 : RowI w A n c l) (h2 : RowI w B m e k) :
 Calls Tryz.prog 13 #[.slice (some ⟨w.heap.size, 0, none⟩) 2 2] (w.alloc (.cells #[.slice A n c, .slice B m e] 25)) (ChainPost 2 w) := by
 have hB : Below w.heap.size w (w.alloc (.cells #[.slice A n c, .slice B m e] 25)) := below_al (Below.refl _ _) _
 have k3 := Blk.new w 25 #[.slice A n c, .slice B m e]
 have r3 : RowV (w.alloc (.cells #[.slice A n c, .slice B m e] 25)) (some ⟨w.heap.size, 0, none⟩) 2 2 [.slice A n c, .slice B m e] := by
  refine ⟨rfl, Nat.le_refl _, fun _ => ⟨_, 0, rfl, fun j i x u hx hu => ?_⟩⟩
  have hi : i < 1 := (List.getElem?_eq_some_iff.1 hu).1
  obtain rfl : i = 0 := by omega
  obtain rfl : x = u := Option.some.inj hu
  have hj : j < 2 := (List.getElem?_eq_some_iff.1 hx).1
  rcases (show j = 0 ∨ j = 1 by omega) with rfl | rfl
  ·exact (k3.cell 0).trans hx
  ·exact (k3.cell 1).trans hx
 have hl1 := h1.len
 have hl2 := h2.len
 have r4 : RowsI (w.alloc (.cells #[.slice A n c, .slice B m e] 25)) [.slice A n c, .slice B m e] [l, k] := by
  refine ⟨rfl, fun i v x hv hx => ?_⟩
  have hi : i < 2 := (List.getElem?_eq_some_iff.1 hv).1
  rcases (show i = 0 ∨ i = 1 by omega) with rfl | rfl
  ·cases hv; cases hx; rw [hl1]; exact ⟨A, c, rfl, h1.below hB⟩
  ·cases hv; cases hx; rw [hl2]; exact ⟨B, e, rfl, h2.below hB⟩
 refine (Made_q (some ⟨w.heap.size, 0, none⟩) 2 2 _ [l, k] (by omega) (fun x hx => ?_) (fun x hx => ?_) _ r3 r4).mono ?_
 ·simp only [List.mem_cons, List.not_mem_nil, or_false] at hx
  rcases hx with rfl | rfl
  ·exact hI1
  ·exact hI2
 ·simp only [List.mem_cons, List.not_mem_nil, or_false] at hx
  rcases hx with rfl | rfl
  ·omega
  ·omega
 rintro e' w' ⟨vG, vH, gs, ys, es, hs, K, rfl, q1, q2, q3, q4, q5, q6⟩
 exact ⟨vG, vH, gs, ys, es, hs, K, rfl, q1.le hB.size, q2.le hB.size, q3.le hB.size, q4, q5, below_then hB q6⟩
theorem chain_votesO {K : Nat} {es : List Ep} {hs : List Hdr} (h : ChainOK K es hs) (hl : es.length ≤ 1000) {k : Nat} {e : Ep} (he : es[k]? = some e) (t : ByteArray) (bits wrong : Nat) (ht : t.size ≤ 800000) (hb1 : bits < 65536) (hb2 : wrong < 65536)
 (B : Nat) (W : World) (gs : List Gc) (xs : List Hc) (AG : Option Addr) (nG cG : Nat) (vH : Value) (hCI : ChainIn B W gs xs es hs) (hr : Row encGc 5 W AG nG cG gs) :
 Calls Tryz.prog 18 #[.agg #[.slice AG nG cG, vH], .int .i64 (k : Int), .string t, .int .u16 (bits : Int), .int .u16 (wrong : Int)] W (VotesPost (votesL e t bits wrong e.ms.length) W) := by
 have hkl : k < gs.length := by have := hCI.gl; have := (List.getElem?_eq_some_iff.1 he).1; omega
 exact Votes_q B (1 + 10 * k) k bits wrong nG cG AG vH gs gs[k] e t (h.grp k e he) (by have := (List.getElem?_eq_some_iff.1 he).1; omega) (List.getElem?_eq_getElem hkl) ht hb1 hb2 W (hCI.g k _ e (List.getElem?_eq_getElem hkl) he) hr

set_option maxRecDepth 100000 in
set_option maxHeartbeats 1500000 in
theorem LightFew_any (A : Option Addr) (n c : Nat) (l : List Int) (B : Option Addr) (m e : Nat) (k : List Int) (z1 z2 : Nat) (w : World) (hT : Tabs w) (h1 : RowI w A n c l) (h2 : RowI w B m e k) (hI1 : ∀ x ∈ l, I64 x) (hI2 : ∀ x ∈ k, I64 x) (hn : n ≤ 9223372036854775807) (hm : m ≤ 9223372036854775807) (hz1 : z1 ≤ 65535) (hz2 : z2 ≤ 65535) :
 Calls Tryz.prog 6 #[.agg #[.slice A n c, .slice B m e], .int .u16 (z1 : Int), .int .u16 (z2 : Int)] w fun e w' => e = .returned (.bool true) ∧ Below w.heap.size w w' := by
 have HT := Lib.hid hT
 have HR := Lib.hid (And.intro h1 h2)
 have m2 := Lib.hid (fun W h1 h2 => Made_two A n c l B m e k hI1 hI2 hn hm W h1 h2)
 clear hT h1 h2 hI1 hI2 hn hm
 go_enter Tryz.func6, Tryz.ntmps6
 go_upto_region 1 with fail
 refine name1p ?_
 intro w1 kb hB
 obtain ⟨g0, hg0⟩ : ∃ g, g = w.heap.size := ⟨_, rfl⟩
 rw [← hg0] at kb ⊢
 clear hg0
 have m1 := Lib.hid (sanity_q w1 (HT.out.below hB))
 go_upto_region 2 with (go_at_call 9; (with_reducible refine m1.out.mono ?_); rintro e w2 ⟨rfl, hb2⟩)
 replace kb := kb.below hb2 kb.lt
 replace hB := below_then hB hb2
 clear m1 hb2
 have b0 : w2.cell? ⟨g0, 0, none⟩ = some (.slice A n c) := kb.cell 0
 have b1 : w2.cell? ⟨g0, 1, none⟩ = some (.slice B m e) := kb.cell 1
 go_upto_region 3 with (go_at_call 13; (with_reducible refine (m2.out _ (HR.out.1.below hB) (HR.out.2.below hB)).mono ?_); rintro e w3 ⟨vG, vH, gs, ys, es, hs, K, rfl, hoG, hoH, hCI, hCO, hel, hb2⟩; obtain ⟨AG, cG, hvG, hrG⟩ := OwnL.row hoG encGc_len; obtain ⟨AH, cH, hvH, hrH⟩ := OwnL.row hoH encH1_len; subst hvG hvH)
 replace hB := below_then hB hb2
 clear hb2 m2 HR kb b0 b1
 refine name1p ?_
 intro W0 k1 hb3
 replace hB := below_then hB hb3
 have hyl : ys.length = hs.length := by have := hCI.hl; rwa [List.length_map] at this
 have hel2 : es.length = 2 := by rw [hel]; rfl
 have hes : es.length ≤ 1000 := by omega
 have hyn : ys.length = 2 := by rw [hyl, hCO.len]; exact hel2
 have hgn : gs.length = 2 := by rw [hCI.gl]; exact hel2
 rw [hgn] at hrG k1
 rw [hyn] at hrH k1
 obtain ⟨b, o, hAH, hcc⟩ := chain_cells ((rowHd_map hrH).below hb3) (⟨hCI.hl, fun i x y hx hy => (hCI.h i x y hx hy).in_.below hb3⟩) (by omega)
 subst hAH
 obtain ⟨x0, t0, ht0, hx0⟩ := hcc 0 (by omega)
 obtain ⟨x1, t1, ht1, hx1⟩ := hcc 1 (by omega)
 simp only [Nat.zero_mul, Nat.add_zero] at hx0
 simp only [Nat.one_mul] at hx1
 obtain ⟨e0, he0, hm0, hg0, hf0⟩ := chain_mems hCO hes ht0
 obtain ⟨e1, he1, hm1, hg1, hf1⟩ := chain_mems hCO hes ht1
 -- the members of the first group
 obtain ⟨bG, oG, q0, hAG, hq0, -⟩ := RowG.get hrG (show 0 < 2 by omega)
 subst hAG
 obtain ⟨A1, A2, A3, A4, A5, c1, c2, c3, c4, c5, n5, q1, q2, q3, q4, q5, r1, -, -⟩ := (hCI.g 0 q0 e0 hq0 he0).opened
 have HG0 : Hid (∀ W, Below W0.heap.size W0 W → W.cell? ⟨bG, oG, none⟩ = some (.slice A1 e0.ms.length c1) ∧ RowM W A1 e0.ms.length c1 e0.ms) := Lib.hid (fun W h => by
  obtain ⟨b', o', q', e', hq', c0, -⟩ := RowG.get ((hrG.below hb3).below h) (show 0 < 2 by omega)
  cases e'
  rw [hq0] at hq'
  cases hq'
  rw [Nat.zero_mul, Nat.add_zero, q1] at c0
  exact ⟨c0, (r1.below hb3).below h⟩)
 have HX0 := Lib.hid hx0
 have HX1 := Lib.hid hx1
 have HH := Lib.hid (And.intro ht0 ht1)
 have HE := Lib.hid (And.intro (And.intro he0 (And.intro hm0 (And.intro hg0 hf0))) (And.intro he1 (And.intro hg1 hf1)))
 have HCI := Lib.hid (fun W (h : Below W0.heap.size W0 W) => And.intro ((hCI.below hb3).below h) ((hrG.below hb3).below h))
 have HCO := Lib.hid (And.intro hCO hes)
 have HTT := Lib.hid (fun W (h : Below W0.heap.size W0 W) => (HT.out.below hB).below h)
 have hm4 := hg0.hi
 obtain ⟨hR0, -, hIM, -⟩ := crew_right hg0.crew hg0.lo hg0.hi hf0
 have HR0 := Lib.hid (And.intro hR0 hIM)
 obtain ⟨g, hg⟩ : ∃ g, g = w3.heap.size := ⟨_, rfl⟩
 rw [← hg] at k1 ⊢
 have HG := Lib.hid (fun W (h : Below W0.heap.size W0 W) => k1.below h k1.lt)
 clear hcc hoG hoH hrG hrH hCI hCO hel hel2 hes hb3 HT hx0 hx1 ht0 ht1 he0 he1 hm0 hm1 hg0 hg1 hf0 hf1 q1 q2 q3 q4 q5 r1 hq0 hg k1 hyl hyn hgn hR0 hIM
 obtain ⟨ms, hms⟩ : ∃ l, l = e0.ms := ⟨_, rfl⟩
 obtain ⟨nM, hnM⟩ : ∃ n, n = ms.length := ⟨_, rfl⟩
 rw [← hms] at HG0 hm4 HR0
 rw [← hnM] at HG0 hm4
 have HMS := Lib.hid (And.intro hms hnM)
 clear hms hnM
 have hr0 := Below.refl W0.heap.size W0
 -- the client
 obtain ⟨hin0, d0, d1, d2, d3, d4⟩ := HX0.out W0 hr0
 have p1 : W0.cell? ⟨g, 1, none⟩ = some (.slice (some ⟨b, o, none⟩) 2 cH) := (HG.out W0 hr0).cell 1
 have m3 := Lib.hid (chain_new HCO.out.1 HCO.out.2 HH.out.1 x0 W0 hin0)
 clear hin0
 go_upto_region 4 with (go_at_call 16; (with_reducible refine m3.out.mono ?_); rintro e w4 ⟨p, rfl, hCli, hb4⟩)
 clear d0 d1 d2 d3 d4 p1 m3
 have hp0 : W0.heap.size ≤ p := hCli.1
 obtain ⟨BW, hBW⟩ : ∃ B, B = W0.heap.size := ⟨_, rfl⟩
 rw [← hBW] at hCli
 clear hBW
 -- its text
 have hsm1 := HCO.out.1.small HCO.out.2 t1 (List.mem_of_getElem? HH.out.2)
 obtain ⟨tx, htx⟩ : ∃ t, t = strB (hdrL t1) := ⟨_, rfl⟩
 have htz : tx.size ≤ 800000 := by rw [htx, strB_size]; have := hdrL_len hsm1; omega
 have m4 := Lib.hid (fun W h => HeaderText_q x1 t1 hsm1 W (HTT.out W h) (HX1.out W h).1)
 unfold hdrA at m4
 rw [← htx] at m4
 have HTX := Lib.hid htx
 have HTZ := Lib.hid htz
 clear hsm1 htx
 obtain ⟨-, d0, d1, d2, d3, d4⟩ := HX1.out w4 hb4
 have p1 : w4.cell? ⟨g, 1, none⟩ = some (.slice (some ⟨b, o, none⟩) 2 cH) := (HG.out w4 hb4).cell 1
 go_upto_region 7 with (go_at_call 19; (with_reducible refine (m4.out _ hb4).mono ?_); rintro e w5 ⟨rfl, hb5⟩)
 replace hCli := hCli.below hb5
 replace hb4 := below_then hb4 hb5
 clear d0 d1 d2 d3 d4 p1 m4 hb5
 -- the votes of both epochs
 obtain ⟨vs0, hvs0⟩ : ∃ l, l = votesL e0 tx z1 z2 e0.ms.length := ⟨_, rfl⟩
 obtain ⟨vs1, hvs1⟩ : ∃ l, l = votesL e1 tx 65535 0 e1.ms.length := ⟨_, rfl⟩
 have HV0 := Lib.hid (fun W h => chain_votesO HCO.out.1 HCO.out.2 HE.out.1.1 tx z1 z2 htz (by omega) (by omega) _ W gs _ (some ⟨bG, oG, none⟩) 2 cG (.slice (some ⟨b, o, none⟩) 2 cH) (HCI.out W h).1 (HCI.out W h).2)
 have HV1 := Lib.hid (fun W h => chain_votesO HCO.out.1 HCO.out.2 HE.out.2.1 tx 65535 0 htz (by omega) (by omega) _ W gs _ (some ⟨bG, oG, none⟩) 2 cG (.slice (some ⟨b, o, none⟩) 2 cH) (HCI.out W h).1 (HCI.out W h).2)
 rw [← hvs0] at HV0
 rw [← hvs1] at HV1
 obtain ⟨u1, u2⟩ := votes_I64 HE.out.1.2.2.1 HE.out.1.2.2.2 tx z1 z2 e0.ms.length
 obtain ⟨u3, u4⟩ := votes_I64 HE.out.2.2.1 HE.out.2.2.2 tx 65535 0 e1.ms.length
 rw [← hvs0] at u1 u2
 rw [← hvs1] at u3 u4
 have hv4 : vs0.length ≤ 4 := Nat.le_trans u2 HE.out.1.2.2.1.hi
 have hv5 : vs1.length ≤ 4 := Nat.le_trans u4 HE.out.2.2.1.hi
 have HVI : Hid (I64V (vs0 ++ vs1)) := Lib.hid (fun v hv => (List.mem_append.1 hv).elim (u1 v) (u3 v))
 have HLE : Hid (sumI (votedI ms z1 z2) nM ≤ weightI ms (vs0 ++ vs1) tx) := Lib.hid (by rw [HMS.out.2, HMS.out.1, hvs0]; exact voted_le HE.out.1.2.2.1 HE.out.1.2.2.2 vs1)
 clear hvs0 hvs1 u1 u2 u3 u4 htz
 have HS : Hid (∀ W, Below W0.heap.size W0 W → W.cell? ⟨g, 0, none⟩ = some (.slice (some ⟨bG, oG, none⟩) 2 cG) ∧ W.cell? ⟨g, 1, none⟩ = some (.slice (some ⟨b, o, none⟩) 2 cH)) := Lib.hid (fun W h => ⟨(HG.out W h).cell 0, (HG.out W h).cell 1⟩)
 have hbV := hb4.drew
 have hb6 := Below.refl w5.drew.heap.size w5.drew
 have hCV : Cli BW p w5.drew t0 t0 := hCli.below (Below.refl _ _).drew
 have hBw : Below w.heap.size w W0 := hB
 clear hCli hb4 hB
 refine region_here (fun Z : World => Z.cell? ⟨g, 0, none⟩ = some (.slice (some ⟨bG, oG, none⟩) 2 cG) ∧ Z.cell? ⟨g, 1, none⟩ = some (.slice (some ⟨b, o, none⟩) 2 cH)) 8 (by kernel_rfl) (HS.out _ hbV) (fun hHeld => ?_)
 generalize w5.drew = V at *
 refine wpAnyS_take [4, 7, 8, 9] (i := 0) (oi := ⟨_, _, _, _, _, _⟩) (v := ?_) (by simp) (by kernel_rfl) rfl (by kernel_rfl) (by kernel_rfl) (by kernel_rfl) (fun _ _ _ h => h) (Or.inl ⟨by rfl, ?_⟩) (by assumption) ?_
 rotate_left
 ·(intro w hSw; (try dsimp only at hSw); go_simp; try with_reducible rfl)
 try simp only [Act.put, pq1, pq2, pq3]
 refine wpAnyS_take [4, 7, 8, 9] (i := 1) (oi := ⟨_, _, _, _, _, _⟩) (v := ?_) (by simp) (by kernel_rfl) rfl (by kernel_rfl) (by kernel_rfl) (by kernel_rfl) (fun _ _ _ h => h) (Or.inl ⟨by rfl, ?_⟩) (by assumption) ?_
 rotate_left
 ·(intro w hSw; (try dsimp only at hSw); go_simp; try with_reducible rfl)
 try simp only [Act.put, pq1, pq2, pq3]
 refine wpAnyS_take [4, 7, 8, 9] (i := 2) (oi := ⟨_, _, _, _, _, _⟩) (v := ?_) (by simp) (by kernel_rfl) rfl (by kernel_rfl) (by kernel_rfl) (by kernel_rfl) (fun _ _ _ h => h) (Or.inl ⟨by rfl, ?_⟩) (by assumption) ?_
 rotate_left
 ·(intro w hSw; (try dsimp only at hSw); go_simp; try with_reducible rfl)
 try simp only [Act.put, pq1, pq2, pq3]
 refine wpAnyS_take [4, 7, 8, 9] (i := 3) (oi := ⟨_, _, _, _, _, _⟩) (v := ?_) (by simp) (by kernel_rfl) rfl (by kernel_rfl) (by kernel_rfl) (by kernel_rfl) (fun _ _ _ h => h) (Or.inl ⟨by rfl, ?_⟩) (by assumption) ?_
 rotate_left
 ·(intro w hSw; (try dsimp only at hSw); go_simp; try with_reducible rfl)
 try simp only [Act.put, pq1, pq2, pq3]
 refine wpAnyS_take [7, 8, 9] (i := 5) (oi := ⟨_, _, _, _, _, _⟩) (v := ?_) (by simp) (by kernel_rfl) rfl (by kernel_rfl) (by kernel_rfl) (by kernel_rfl) (fun _ _ _ h => h) (Or.inl ⟨by rfl, ?_⟩) (by assumption) ?_
 rotate_left
 ·(intro w hSw; (try dsimp only at hSw); go_simp; try with_reducible rfl)
 try simp only [Act.put, pq1, pq2, pq3]
 refine wpAnyS_take [7, 8, 9] (i := 6) (oi := ⟨_, _, _, _, _, _⟩) (v := ?_) (by simp) (by kernel_rfl) rfl (by kernel_rfl) (by kernel_rfl) (by kernel_rfl) (fun _ _ _ h => h) (Or.inl ⟨by rfl, ?_⟩) (by assumption) ?_
 rotate_left
 ·(intro w hSw; (try dsimp only at hSw); go_simp; try with_reducible rfl)
 try simp only [Act.put, pq1, pq2, pq3]
 refine wpAnyS_one (i := 4) (oi := ⟨_, _, _, _, _, _⟩) rfl (by kernel_rfl) (fun K hK => ?_)
 go_simp
 go_at_call 18
 refine (HV0.out _ (below_then hbV hb6)).mono ?_
 rintro e wa ⟨v0, rfl, ho0, hba⟩
 (try go_wp2_with fail)
 replace ho0 := ho0.le hb6.size
 replace hb6 := below_then hb6 hba
 refine hK.out _ _ ?_ (fun hHeld4 => ?_)
 ·exact HS.out _ (below_then hbV hb6)
 clear hK K
 try simp only [Act.put, pq1, pq2, pq3]
 refine wpAnyS_one (i := 7) (oi := ⟨_, _, _, _, _, _⟩) rfl (by kernel_rfl) (fun K hK => ?_)
 go_simp
 go_at_call 18
 refine (HV1.out _ (below_then hbV hb6)).mono ?_
 rintro e wa ⟨v1, rfl, ho1, hba⟩
 (try go_wp2_with fail)
 obtain ⟨A8, c8, hv8, hr8⟩ := OwnL.row ho1 encVt_len
 subst hv8
 replace ho0 := ho0.below hba
 replace hb6 := below_then hb6 hba
 refine hK.out _ _ ?_ (fun hHeld7 => ?_)
 ·exact HS.out _ (below_then hbV hb6)
 clear hK K
 try simp only [Act.put, pq1, pq2, pq3]
 refine wpAnyS_call (k := 8) (ok := ⟨_, _, _, _, _, _⟩) rfl (by kernel_rfl) (by kernel_rfl) (fun K hK => ?_)
 refine step_append_rows (enc := encVt) (B := V.heap.size) (l := vs0) (ds := vs1) (A := A8) (n := vs1.length) (c := c8) Tryz.underlying49 vote_info rfl (by decide) (by decide) rfl (.tmp 41) (.tmp 44) rfl encVt_len encVt_one rfl ho0 rfl hr8 (by omega) (by omega) hb6.size ?_
 intro v9 w9 ho9 hg9
 refine hK.out _ _ ?_
 clear hK K
 try simp only [Act.put, pq1, pq2, pq3]
 refine wpAny_take (i := 9) (oi := ⟨_, _, _, _, _, _⟩) (v := ?_) rfl (by kernel_rfl) (by kernel_rfl) (by kernel_rfl) (fun _ _ _ h => h) (Or.inl ⟨by rfl, ?_⟩) ?_
 rotate_left
 ·(intro w; go_simp; try with_reducible rfl)
 try simp only [Act.put, pq1, pq2, pq3]
 refine wpAny_done (by kernel_rfl) ?_ _
 replace hb6 := hb6.grown hg9 hb6.size (own_high ho0)
 have hpV : p < V.heap.size := by obtain ⟨-, _, _, kc, -⟩ := hCV; exact kc.lt
 have HA9 : Hid (∀ v, v = v9 → ∀ A n c, v = .slice A n c → ∀ b o, A = some ⟨b, o, none⟩ → b ≠ p) := Lib.hid (fun v hv A n c hA b o hb => by
  subst hv hA hb
  rcases ho9.2 with ⟨e, -⟩ | ⟨g, cap, cur, e, hB, -⟩
  ·cases e
  ·cases e; omega)
 obtain ⟨A9, c9, hv9, hr9⟩ := OwnL.row ho9 encVt_len
 subst hv9
 replace HA9 := Lib.hid (HA9.out _ rfl _ _ _ rfl)
 have hb9 := below_then hbV hb6
 replace hCV := hCV.below hb6
 obtain ⟨vs, hvs⟩ : ∃ l, l = vs0 ++ vs1 := ⟨_, rfl⟩
 have hvl : vs.length ≤ 8 := by rw [hvs, List.length_append]; omega
 rw [← hvs] at hr9 HVI HLE ⊢
 obtain ⟨n9, hn9⟩ : ∃ n, n = vs.length := ⟨_, rfl⟩
 rw [← hn9] at hr9 hvl ⊢
 have HR9 := Lib.hid hr9
 clear hvs hn9 ho0 ho1 hr8 hg9 ho9 hb6 hbV hpV hv4 hv5 HS HV0 HV1 hr9
 have u0 : w9.cell? ⟨g, 0, none⟩ = some (.slice (some ⟨bG, oG, none⟩) 2 cG) := (HG.out w9 hb9).cell 0
 have u1 := (HG0.out w9 hb9).1
 go_wp2_with fail
 go_loopw [12, 13, 14] (fun s12 s13 s14 wr => ∃ (i : Nat) (wt tot : Int), s12 = .int .i64 wt ∧ s13 = .int .i64 tot ∧ s14 = .int .i64 (i : Int) ∧ i ≤ nM ∧ (0 ≤ wt ∧ wt ≤ 20 * (i : Int)) ∧ (0 ≤ tot ∧ tot ≤ 20 * (i : Int)) ∧ Hid (wt = sumI (votedI ms z1 z2) i) ∧ Hid (tot = totW (ms.take i)) ∧ w9 = wr) (fun _ _ s14 _ => nM - (intOf s14).toNat)
 case atStart => exact ⟨0, 0, 0, rfl, rfl, rfl, by omega, by omega, by omega, Lib.hid rfl, Lib.hid (by simp [totW]), rfl⟩
 case round =>
  obtain ⟨i, wt, tot, rfl, rfl, rfl, hi, hwb, htb, HWT, HTO, hwr⟩ := hrel
  subst hwr
  by_cases hlt : i < nM
  ·have hlt' : (i : Int) < (nM : Int) := by omega
   obtain ⟨bb, oo, q, rfl, hq, -, e1, -⟩ := RowM.get (HG0.out _ hb9).2 hlt
   have hwq := goodW_of HR0.out.1.ok (show i < ms.length by rw [← HMS.out.2]; exact hlt) hq
   have HT2 : Hid (tot + q.wt = totW (ms.take (i + 1))) := Lib.hid (by rw [totW_take hq, ← HTO.out])
   obtain ⟨v, hv⟩ : ∃ v, v = votedI ms z1 z2 i := ⟨_, rfl⟩
   have HW2 : Hid (wt + v = sumI (votedI ms z1 z2) (i + 1)) := Lib.hid (by rw [HWT.out, hv]; rfl)
   have hvq : v = if bitN z1 i = 1 ∧ bitN z2 i = 0 then q.wt else 0 := by rw [hv]; unfold votedI; rw [hq]
   clear hv hq HWT HTO
   obtain ⟨x, hx⟩ : ∃ x, x = q.wt := ⟨_, rfl⟩
   rw [← hx] at e1 hwq HT2 hvq
   clear hx
   by_cases hb : bitN z1 i = 1
   ·have hba : Go.bits .and .u16 ((z1 : Int) / 2 ^ i) 1 = 1 := by rw [u16_and _ _ (by omega), hb]; rfl
    by_cases hw : bitN z2 i = 0
    ·have hbw : Go.bits .and .u16 ((z2 : Int) / 2 ^ i) 1 = 0 := by rw [u16_and _ _ (by omega), hw]; rfl
     rw [if_pos ⟨hb, hw⟩] at hvq
     subst hvq
     clear hb hw
     go_wp2_with fail
     go_roundw
     case rel => exact ⟨i + 1, wt + v, tot + v, by go_num, by go_num, by go_num, by omega, by omega, by omega, HW2, HT2, by first | rfl | trivial⟩
     case measure => simp [intOf]; omega
    ·have hbw : Go.bits .and .u16 ((z2 : Int) / 2 ^ i) 1 = 1 := by rw [u16_and _ _ (by omega), show bitN z2 i = 1 by have := bitN_lt z2 i; omega]; rfl
     rw [if_neg (fun e => hw e.2)] at hvq
     subst hvq
     rw [Int.add_zero] at HW2
     clear hb hw
     go_wp2_with fail
     go_roundw
     case rel => exact ⟨i + 1, wt, tot + x, rfl, by go_num, by go_num, by omega, by omega, by omega, HW2, HT2, by first | rfl | trivial⟩
     case measure => simp [intOf]; omega
   ·have hba : Go.bits .and .u16 ((z1 : Int) / 2 ^ i) 1 = 0 := by rw [u16_and _ _ (by omega), show bitN z1 i = 0 by have := bitN_lt z1 i; omega]; rfl
    rw [if_neg (fun e => hb e.1)] at hvq
    subst hvq
    rw [Int.add_zero] at HW2
    clear hb
    go_wp2_with fail
    go_roundw
    case rel => exact ⟨i + 1, wt, tot + x, rfl, by go_num, by go_num, by omega, by omega, by omega, HW2, HT2, by first | rfl | trivial⟩
    case measure => simp [intOf]; omega
  ·obtain rfl : i = nM := by omega
   have HEM : Hid (t0.mems = ms) := Lib.hid (by rw [HE.out.1.2.1, HMS.out.1])
   have HTM : Hid (tot = totW ms) := Lib.hid (by rw [HTO.out, HMS.out.2, List.take_length])
   obtain ⟨Wf, hWf⟩ : ∃ x, x = weightI ms vs tx := ⟨_, rfl⟩
   have hle : wt ≤ Wf := by rw [hWf, HWT.out]; exact HLE.out
   have hfb : 0 ≤ Wf ∧ Wf ≤ 80 := by have := weight_bound ms vs tx; have := HMS.out.2; rw [← hWf] at *; omega
   have hw80 : 0 ≤ wt ∧ wt ≤ 80 := by omega
   have ht80 : 0 ≤ tot ∧ tot ≤ 80 := by omega
   have HWF := Lib.hid hWf
   have HM1 : Hid (2 * totW t0.mems < 3 * weightI t0.mems vs (strB (hdrL t1)) ↔ 2 * tot < 3 * Wf) := Lib.hid (by rw [HEM.out, ← HTX.out, ← HTM.out, ← hWf])
   clear hWf hwb htb HWT HTO HLE
   obtain ⟨hin1, d0, d1, d2, d3, d4⟩ := HX1.out _ hb9
   have p1 : w9.cell? ⟨g, 1, none⟩ = some (.slice (some ⟨b, o, none⟩) 2 cH) := (HG.out _ hb9).cell 1
   by_cases hF : 2 * tot < 3 * Wf
   ·have hF' : (2 * tot < 3 * Wf) = True := eq_true hF
    have m5 := Lib.hid (chain_many HCO.out.1 HCO.out.2 HH.out.1 HH.out.2 (by omega) BW p t0 x1 A9 n9 c9 vs (HM1.out.2 hF) (by omega) HVI.out _ (HTT.out _ hb9) hin1 HR9.out hCV)
    clear hin1
    go_upto_region 17 with (go_at_call 17; (with_reducible refine m5.out.mono ?_); rintro e w10 ⟨rfl, hc10, hgr⟩)
    clear u0 u1
    have hb10 := below_grown hb9 hgr hp0 hb9.size
    have hR10 := row_grown HR9.out hgr HA9.out
    have m6 := Lib.hid (rWeight_q A1 A9 i c1 n9 c9 ms vs tx (by omega) (by omega) HR0.out.2 HVI.out HTZ.out w10 (HG0.out w10 hb10).2 hR10)
    rw [← HWF.out] at m6
    have u0 : w10.cell? ⟨g, 0, none⟩ = some (.slice (some ⟨bG, oG, none⟩) 2 cG) := (HG.out w10 hb10).cell 0
    have u1 := (HG0.out w10 hb10).1
    clear m5 hR10 hgr d0 d1 d2 d3 d4 p1 hb9
    by_cases hM : 2 * tot < 3 * wt
    ·have hM' : (2 * tot < 3 * wt) = True := eq_true hM
     go_wp2_with (go_at_call 24; (with_reducible refine m6.out.mono ?_); rintro e w11 ⟨rfl, hb11⟩)
     go_ret
     exact ⟨rfl, below_then (below_then hBw hb10) hb11⟩
    ·have hM' : (2 * tot < 3 * wt) = False := eq_false hM
     go_wp2_with (go_at_call 24; (with_reducible refine m6.out.mono ?_); rintro e w11 ⟨rfl, hb11⟩)
     go_ret
     exact ⟨rfl, below_then (below_then hBw hb10) hb11⟩
   ·have hF' : (2 * tot < 3 * Wf) = False := eq_false hF
    have hM' : (2 * tot < 3 * wt) = False := eq_false (by omega)
    have m5 := Lib.hid (chain_few HCO.out.1 HCO.out.2 HH.out.1 HH.out.2 (by omega) BW p t0 x1 A9 n9 c9 vs (fun q => hF (HM1.out.1 q)) (by omega) HVI.out _ (HTT.out _ hb9) hin1 HR9.out hCV)
    clear hin1
    have he0 := (chain_epochs HCO.out.1 HCO.out.2 HH.out.1 HH.out.1).1
    go_upto_region 17 with (go_at_call 17; (with_reducible refine m5.out.mono ?_); rintro e w10 ⟨rfl, hc10, hgr⟩)
    clear u0 u1
    have hb10 := below_grown hb9 hgr hp0 hb9.size
    have hR10 := row_grown HR9.out hgr HA9.out
    have m6 := Lib.hid (rWeight_q A1 A9 i c1 n9 c9 ms vs tx (by omega) (by omega) HR0.out.2 HVI.out HTZ.out w10 (HG0.out w10 hb10).2 hR10)
    rw [← HWF.out] at m6
    have u0 : w10.cell? ⟨g, 0, none⟩ = some (.slice (some ⟨bG, oG, none⟩) 2 cG) := (HG.out w10 hb10).cell 0
    have u1 := (HG0.out w10 hb10).1
    clear m5 hR10 hgr d0 d1 d2 d3 d4 p1 hb9
    have HEP := fun W h => Epoch_q BW p t0 t0 W h
    rw [he0] at HEP
    have HEP2 := Lib.hid HEP
    have HC10 := Lib.hid hc10
    clear HEP he0 hc10 hF
    go_wp2_with (first
     | (go_at_call 24; (with_reducible refine m6.out.mono ?_); rintro e w11 ⟨rfl, hb11⟩)
     | (go_at_call 20; (refine (HEP2.out _ (HC10.out.below hb11)).mono ?_); rintro e w12 ⟨rfl, hww⟩; subst hww))
    go_ret
    exact ⟨rfl, below_then (below_then hBw hb10) hb11⟩

end Go.Proofs.YtkpinmejfdnhbaaGreatDoor
