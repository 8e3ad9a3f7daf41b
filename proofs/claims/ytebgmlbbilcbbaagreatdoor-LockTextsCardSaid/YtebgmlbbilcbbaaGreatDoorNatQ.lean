/- Pow: powers modulo any number. -/
import Derived.Test.YtebgmlbbilcbbaaGreatDoorNatP
import Derived.Stop.RegionWithIn
namespace Go.Proofs.YtebgmlbbilcbbaaGreatDoor
open Go.RowKit Go.Shelf
attribute [local go_sem] Oper.semAt_some

/-- What Pow returns. -/
def powRes (a e m : Nat) : Value := if m = 0 then .tuple #[.string ⟨#[]⟩, .bool false] else .tuple #[.string (natS (a ^ e % m)), .bool true]

theorem pw_store2 {w5 W W3 : World} {g g14 Bn n nf ny cz cf cy : Nat} {t : TypeId} {Az Af Ay : Option Addr} {fs zy : List Nat} (k1 : Blk W g t #[.slice Az n cz]) (k5 : Blk W g14 t #[.slice Af nf cf]) (k6 : Dig W Af nf cf fs)
    (k7 : Below w5.heap.size w5 W) (k8 : Bn < W.heap.size) (hg : w5.heap.size ≤ g) (hne : g14 ≠ g) (hBn : Bn ≠ g) (hb : Below W.heap.size W W3) (hd : Dig W3 Ay ny cy zy) :
    KeepsOthers W (W3.setCell ⟨g, 0, none⟩ (.slice Ay ny cy)) ∧ SameBlk Bn W (W3.setCell ⟨g, 0, none⟩ (.slice Ay ny cy)) ∧ Blk (W3.setCell ⟨g, 0, none⟩ (.slice Ay ny cy)) g t #[.slice Ay ny cy] ∧ Dig (W3.setCell ⟨g, 0, none⟩ (.slice Ay ny cy)) Ay ny cy zy ∧
      Blk (W3.setCell ⟨g, 0, none⟩ (.slice Ay ny cy)) g14 t #[.slice Af nf cf] ∧ Dig (W3.setCell ⟨g, 0, none⟩ (.slice Ay ny cy)) Af nf cf fs ∧ Below w5.heap.size w5 (W3.setCell ⟨g, 0, none⟩ (.slice Ay ny cy)) ∧ Bn < (W3.setCell ⟨g, 0, none⟩ (.slice Ay ny cy)).heap.size := by
  have hk := k1.below' hb
  refine ⟨(KeepsOthers.of_grownBy (grown_of_below hb none) (fun _ _ e _ => by cases e)).trans (KeepsOthers.setCell _ _ _), ?_, hk.set_ 0 _, dig_box hd hk _, (k5.below' hb).far hne _, dig_box (k6.below hb) hk _, below_set (below_then k7 hb) hg _, ?_⟩
  · exact (heap_setCell_other W3 _ Bn _ hBn).trans (hb.block Bn k8)
  · have := hb.size
    have h2 := (KeepsOthers.setCell W3 ⟨g, 0, none⟩ (.slice Ay ny cy)).size
    omega

/-- A cut behind a region inside a round: what its slots hold is left open. -/
theorem cut_in8 (i1 i2 i3 i4 i5 i6 i7 i8 : Nat) {F : Fence} {n : Nat} {P : Program} {c : Code} {Q : Exit → Act → World → Prop} {a : Act} {W : World} (R : World → Prop)
    (h1 : c.wpIn F n P (fun ex a' W' => ex = .normal ∧ (∃ u1 u2 u3 u4 u5 u6 u7 u8, a' = { tmps := (((((((a.tmps.setIfInBounds i1 u1).setIfInBounds i2 u2).setIfInBounds i3 u3).setIfInBounds i4 u4).setIfInBounds i5 u5).setIfInBounds i6 u6).setIfInBounds i7 u7).setIfInBounds i8 u8, defers := a.defers }) ∧ R W') a W)
    (h2 : ∀ u1 u2 u3 u4 u5 u6 u7 u8 W', R W' → Q .normal { tmps := (((((((a.tmps.setIfInBounds i1 u1).setIfInBounds i2 u2).setIfInBounds i3 u3).setIfInBounds i4 u4).setIfInBounds i5 u5).setIfInBounds i6 u6).setIfInBounds i7 u7).setIfInBounds i8 u8, defers := a.defers } W') : c.wpIn F n P Q a W := by
  refine wpIn_mono h1 ?_
  rintro e a' W' ⟨rfl, ⟨u1, u2, u3, u4, u5, u6, u7, u8, rfl⟩, hR⟩
  exact h2 u1 u2 u3 u4 u5 u6 u7 u8 W' hR

theorem mul_few {w : World} {A : Option Addr} {n m c : Nat} {zs : List Nat} {x y M : Nat} (h : Dig w A m c zs) (ht : Trim zs) (hv : val zs = x * y) (hx : x < M) (hy : y < M) (hM : M < P32 n) (hn : n ≤ 50000) : m ≤ 200000 := by
  have : zs.length ≤ n + n := ht.len_le (by rw [hv, P32_add]; exact Nat.mul_lt_mul'' (Nat.lt_trans hx hM) (Nat.lt_trans hy hM))
  have := h.len
  omega

set_option maxRecDepth 100000 in
set_option maxHeartbeats 6000000 in
theorem Pow_any (a s m : ByteArray) (w : World) (ha : a.size ≤ 50000) (hs : s.size ≤ 100000) (hm : m.size ≤ 50000) :
    Calls Tryz.prog 137 #[.string a, .string s, .string m] w fun e w' => e = .returned (powRes (sval a) (sval s) (sval m)) ∧ Below w.heap.size w w' := by
  refine (callsIn_wide (n := 3)).1 ?_
  refine callsIn_of_wp_marks Tryz.func137 rfl trivial ?_ rfl
  refine wpIn_wide.2 ?_
  simp only [Tryz.ntmps137, List.size_toArray, List.length_cons, List.length_nil, Nat.reduceAdd, Nat.reduceSub, Array.replicate_succ, Array.replicate_zero, List.push_toArray, List.append_toArray, List.nil_append, List.cons_append]
  go_wp2_with fail
  refine (digits_any m _ (by omega)).mono ?_
  rintro e w1 ⟨⟨A, n, c, ms, rfl, hM, tM, hvm⟩, hb1⟩
  have hn : n ≤ m.size := few hM tM hvm
  have HVM := Lib.hid hvm
  clear hvm
  by_cases h0 : n = 0
  · subst h0
    have H0 : Hid (sval m = 0) := Lib.hid (by rw [← HVM.out, List.eq_nil_of_length_eq_zero hM.len]; rfl)
    go_wp2_with fail
    refine ⟨_, results_tmp2 rfl _ _ _, ?_, below_al hb1 _⟩
    unfold powRes
    rw [if_pos H0.out]
    rfl
  · have hMp : 0 < val ms := by
      have := tM.ge (by rw [hM.len]; omega)
      have := P32_pos (ms.length - 1)
      omega
    have hbz : ((n : Int) == 0) = false := by rw [beq_eq_false_iff_ne]; omega
    go_wp2_with fail
    have hbG := Blk.new w1 153 #[.slice A n c]
    have hbx : Below w1.heap.size w1 (w1.alloc (.cells #[.slice A n c] 153)) := below_al (Below.refl _ _) _
    have hb2 := below_then hb1 hbx
    have hM2 := hM.below hbx
    generalize w1.alloc (.cells #[.slice A n c] 153) = w2 at hbG hb2 hM2 ⊢
    obtain ⟨G, hG⟩ : ∃ G, G = w1.heap.size := ⟨_, rfl⟩
    rw [← hG] at hbG ⊢
    have hGw : w.heap.size ≤ G := by rw [hG]; exact hb1.size
    clear hG hb1 hM hbx
    have hq0 : w2.cell? ⟨G, 0, none⟩ = some (.slice A n c) := hbG.cell 0
    have HDA : Hid (∀ W, Calls Tryz.prog 133 #[.string a] W fun e w' => Gives w' (sval a) e ∧ Below W.heap.size W w') := Lib.hid (fun W => digits_any a W (by omega))
    have HDV : Hid (∀ (W : World) (Ax : Option Addr) (nx cx : Nat) (zx : List Nat), Below w2.heap.size w2 W → Dig W Ax nx cx zx → nx ≤ 200000 → Trim zx → Calls Tryz.prog 164 #[.slice Ax nx cx, .slice A n c] W fun e w' => Divides w' (val zx / val ms) (val zx % val ms) e ∧ Below W.heap.size W w') :=
      Lib.hid (fun W Ax nx cx zx hW hx hnx tx => divide_any _ _ _ _ _ _ _ _ _ hx (hM2.below hW) (by omega) (by omega) tx tM hMp)
    go_upto_region 4 with fail
    go_cut [9, 10] from 14 to 63 (fun s9 s10 wx => ∃ (g : Nat) (Ab : Option Addr) (nb cb : Nat) (bs : List Nat), s10 = .pointer (some ⟨g, 0, none⟩) ∧ w2.heap.size ≤ g ∧ Blk wx g 153 #[.slice Ab nb cb] ∧ Dig wx Ab nb cb bs ∧ Trim bs ∧ Hid (val bs = sval a % val ms) ∧ Below w2.heap.size w2 wx)
    case first =>
      go_region_held3 (fun w' => w'.cell? ⟨G, 0, none⟩ = some (.slice A n c)) ((refine hbG.kept1 ?_; (repeat (first | exact Below.refl _ _ | apply Below.drew | apply below_al | refine below_then ?_ hba | refine below_then ?_ hbb | apply below_set | exact Nat.le_refl _ | exact hle_a | exact hle_b)))) (first
        | (go_at_call 133; (with_reducible refine (HDA.out _).mono ?_); rintro e wa ⟨⟨Ax, nx, cx, zx, rfl, hdx, htx, hvx⟩, hba⟩; have hnx : nx ≤ 200000 := (by have := few hdx htx hvx; omega); have HVX := Lib.hid hvx; clear hvx; have hle_a : w2.heap.size ≤ wa.heap.size := (by have := hba.size; (try simp at this); omega); obtain ⟨hca, hfa⟩ := bcell hba; have hsa := hba.size; (try simp at hsa); (try (have hca0 := hca w2.heap.size 0 (by first | omega | (simp; done) | (simp; omega)); have hfa0 := hfa w2.heap.size 0 (by first | omega | (simp; done) | (simp; omega)))); clear hca hfa)
        | (go_at_call 164; (with_reducible refine (HDV.out _ Ax nx cx zx ?_ ?_ hnx htx).mono ?_); (focus (repeat (first | exact Below.refl _ _ | apply Below.drew | apply below_al | refine below_then ?_ hba | refine below_then ?_ hbb | apply below_set | exact Nat.le_refl _ | exact hle_a | exact hle_b))); (focus (repeat (first | exact hdx | apply dig_al | exact dig_drew hdx))); rintro e wb ⟨⟨Aq, mq, cq, qq, Ar, nr, cr, r1, rfl, hdq, htq, hvq, hdr, htr, hvr⟩, hbb⟩; have HVR := Lib.hid hvr; clear hdq htq hvq hvr; have hle_b : w2.heap.size ≤ wb.heap.size := (by have := hbb.size; (try simp at this); omega); obtain ⟨hcb, hfb⟩ := bcell hbb; have hsb := hbb.size; (try simp at hsb); (try (have hcb0 := hcb w2.heap.size 0 (by first | omega | (simp; done) | (simp; omega)); have hfb0 := hfb w2.heap.size 0 (by first | omega | (simp; done) | (simp; omega)))); (try (have hcb1 := hcb wa.heap.size 0 (by first | omega | (simp; done) | (simp; omega)); have hfb1 := hfb wa.heap.size 0 (by first | omega | (simp; done) | (simp; omega)))); clear hcb hfb))
      all_goals go_wp2_with fail
      all_goals go_meet
      all_goals have hval : Hid (val r1 = sval a % val ms) := Lib.hid (by rw [HVR.out, HVX.out])
      · refine ⟨_, Ar, nr, cr, r1, rfl, hle_b, Blk.new _ _ _, dig_al hdr _, htr, hval, ?_⟩
        (repeat (first | exact Below.refl _ _ | apply Below.drew | apply below_al | refine below_then ?_ hba | refine below_then ?_ hbb | apply below_set | exact Nat.le_refl _ | exact hle_a | exact hle_b))
      · have hbx := (Blk.new wa 153 #[.slice none 0 0]).below' hbb
        refine ⟨_, Ar, nr, cr, r1, rfl, hle_a, (fin_old hdr hbx _).1, (fin_old hdr hbx _).2, htr, hval, ?_⟩
        (repeat (first | exact Below.refl _ _ | apply Below.drew | apply below_al | refine below_then ?_ hba | refine below_then ?_ hbb | apply below_set | exact Nat.le_refl _ | exact hle_a | exact hle_b))
      · have hbx : Blk wb w2.heap.size 153 #[.slice none 0 0] := ((show Blk (w2.alloc (.cells #[.slice none 0 0] 153)).drew w2.heap.size 153 #[.slice none 0 0] from Blk.new w2 153 #[.slice none 0 0]).below' hba).below' hbb
        refine ⟨_, Ar, nr, cr, r1, rfl, Nat.le_refl _, (fin_old hdr hbx _).1, (fin_old hdr hbx _).2, htr, hval, ?_⟩
        (repeat (first | exact Below.refl _ _ | apply Below.drew | apply below_al | refine below_then ?_ hba | refine below_then ?_ hbb | apply below_set | exact Nat.le_refl _ | exact hle_a | exact hle_b))
    case rest =>
      obtain ⟨g, Ab, nb, cb, bs, rfl, hg, hbB, hdB, tB, HVB, hbw⟩ := hcut
      have hGx := hbG.kept1 hbw
      have hGlt := (hbG.below' hbw).lt
      have hgx := hbB.kept1 (Below.refl _ _)
      have hMx := hM2.below hbw
      obtain ⟨b0, o0, m0, rfl, hm0, hm0l, hm0c⟩ := hMx.get (k := 0) (by omega)
      rw [Nat.add_zero] at hm0c
      have HM0 := Lib.hid hm0
      clear hm0
      have hlt : val bs < val ms := by rw [HVB.out]; exact Nat.mod_lt _ hMp
      have hvn : val ms < P32 n := by have := val_lt hMx.lt; rwa [hMx.len] at this
      have hm0' : (n : Nat) ≠ 0 := h0
      have HM00 : Hid (sval m ≠ 0) := Lib.hid (by rw [← HVM.out]; omega)
      by_cases hodd : m0 % 2 = 1
      · have hbo : ((m0 : Int) % 2 == 1) = true := by simp; omega
        have HODD := Lib.hid hodd
        clear hodd
        go_wp2_with fail
        refine (powerOdd_any _ _ _ bs s _ _ _ ms m0 _ hdB tB hMx tM HM0.out HODD.out hlt (by omega) hs).mono ?_
        rintro e w4 ⟨⟨Ap, np, cp, ps, rfl, hdp, htp, hvp⟩, hb4⟩
        have hnp : np ≤ n := by
          rw [← hdp.len]
          exact htp.len_le (Nat.lt_trans (by rw [hvp]; exact Nat.mod_lt _ hMp) hvn)
        have HVP := Lib.hid hvp
        clear hvp
        go_wp2_with fail
        refine (number_any _ _ _ _ _ hdp (by omega)).mono ?_
        rintro e w5 ⟨rfl, hb5⟩
        rw [HVP.out, HVB.out, pow_base, HVM.out]
        go_wp2_with fail
        refine ⟨_, results_tmp2 rfl _ _ _, ?_, below_then (below_then (below_then hb2 hbw) hb4) hb5⟩
        unfold powRes
        rw [if_neg HM00.out]
        rfl
      · have hbo : ((m0 : Int) % 2 == 1) = false := by simp; omega
        clear hodd
        go_wp2_with fail
        have hone : Dig (wc.alloc (.cells #[.int .u32 1] 140)) (some ⟨wc.heap.size, 0, none⟩) 1 1 [1] :=
          (show Blk (wc.alloc (.cells #[.int .u32 1] 140)) wc.heap.size 140 (u32s [1]) from Blk.new wc 140 _).dig (Lt32.one (by omega)) rfl (Nat.le_refl _)
        have hbal : Below wc.heap.size wc (wc.alloc (.cells #[.int .u32 1] 140)) := below_al (Below.refl _ _) _
        refine (HDV.out _ _ 1 1 [1] (below_then hbw hbal) hone (by omega) (fun _ => ⟨1, rfl, by omega⟩)).mono ?_
        rintro e w6 ⟨⟨Aq, mq, cq, q1, Ao, no, co, os, rfl, hdq, htq, hvq, hdo, hto, hvo⟩, hb6⟩
        have HVO := Lib.hid hvo
        clear hdq htq hvq hvo
        have hbw6 := below_then (below_then hbw hbal) hb6
        have hbB6 := (hbB.below' hbal).below' hb6
        have hdB6 := (hdB.below hbal).below hb6
        clear hone
        go_wp2_with fail
        refine (binary_any s _).mono ?_
        rintro e w8 ⟨rfl, rfl⟩
        go_wp2_with fail
        have hb12 := ((Blk.new w6 153 #[.slice Ao no co]).alloc (.cells #[.string s] 25))
        have hbn : Blk ((w6.alloc (.cells #[.slice Ao no co] 153)).alloc (.cells #[.string s] 25)) (w6.heap.size + 1) 25 #[.string s] := by
          have := Blk.new (w6.alloc (.cells #[.slice Ao no co] 153)) 25 #[.string s]
          rwa [World.size_alloc] at this
        have hb68 : Below w6.heap.size w6 ((w6.alloc (.cells #[.slice Ao no co] 153)).alloc (.cells #[.string s] 25)) := below_al (below_al (Below.refl _ _) _) _
        have hbB8 := hbB6.below' hb68
        have hdB8 := hdB6.below hb68
        have hdO8 := hdo.below hb68
        have hbw8 := below_then hbw6 hb68
        have hsz8 : ((w6.alloc (.cells #[.slice Ao no co] 153)).alloc (.cells #[.string s] 25)).heap.size = w6.heap.size + 2 := by simp
        generalize ((w6.alloc (.cells #[.slice Ao no co] 153)).alloc (.cells #[.string s] 25)) = w8 at *
        have hneg : g ≠ w6.heap.size := by have := hbB6.lt; omega
        have hle26 : w2.heap.size ≤ w6.heap.size := hbw6.size
        have HMU : Hid (∀ (V : World) (Ax : Option Addr) (nx cx : Nat) (zx : List Nat) (Ay : Option Addr) (ny cy : Nat) (zy : List Nat), Dig V Ax nx cx zx → Dig V Ay ny cy zy → nx ≤ 50000 → ny ≤ 50000 → Calls Tryz.prog 148 #[.slice Ax nx cx, .slice Ay ny cy] V fun e w' => Gives w' (val zx * val zy) e ∧ Below V.heap.size V w') :=
          Lib.hid (fun V Ax nx cx zx Ay ny cy zy h1 h2 h3 h4 => multiply_any _ _ _ _ _ _ _ _ _ h1 h2 (by omega) (by omega))
        have HLN : Hid (∀ {W : World} {Ax : Option Addr} {nx cx : Nat} {zx : List Nat}, Dig W Ax nx cx zx → Trim zx → val zx < val ms → nx ≤ 50000) := Lib.hid (fun h t hv => by
          have := t.len_le (Nat.lt_trans hv hvn); have := h.len; omega)
        refine (wpIn_wide (n := 3)).1 ?_
        refine rf_own 13 rfl (by omega) (gf := 200) (lb := #[.pointer (some ⟨w6.heap.size + 1, 0, none⟩)]) rfl trivial (enters_of Tryz.func200 (by kernel_rfl) rfl)
          (binary_stops _ (w6.heap.size + 1) (by omega) s hs w8 (by omega) (hbn.cell 0)) sameBlk_t (sameBlk_b (by omega)) (Below.refl _ _)
          (fun pre W => (∃ (Az : Option Addr) (nz cz : Nat) (zs : List Nat), Blk W w6.heap.size 153 #[.slice Az nz cz] ∧ Dig W Az nz cz zs ∧ Trim zs ∧ Hid (val zs = sval a ^ hornerB pre % val ms)) ∧ Blk W g 153 #[.slice Ab nb cb] ∧ Dig W Ab nb cb bs ∧ Below w2.heap.size w2 W ∧ w6.heap.size + 1 < W.heap.size)
          ?own ?start ?assign ?body ?done
        case own =>
          rintro pre A' B' row ⟨⟨Az, nz, cz, zs, k1, k2, k3, k4⟩, k5, k6, k7, k8⟩ hg hr
          have hr' := fun r e => (hr r e).2
          exact ⟨⟨Az, nz, cz, zs, blk_kept k1 hg hr', dig_kept k2 hg hr', k3, k4⟩, blk_kept k5 hg hr', dig_kept k6 hg hr', ownFrom_below (β := List Bool) (Nat.le_refl _) hbw8.size [] A' B' row k7 hg hr, Nat.lt_of_lt_of_le k8 hg.size⟩
        case start =>
          refine ⟨⟨Ao, no, co, os, hb12, hdO8, hto, Lib.hid ?_⟩, hbB8, hdB8, hbw8, by omega⟩
          rw [HVO.out]; rfl
        case assign =>
          intro l x W K hK
          gi_wp2
          exact hK
        case body =>
          rintro l pre x W ⟨⟨Az, nz, cz, zs, k1, k2, k3, k4⟩, k5, k6, k7, k8⟩ _
          have c1 := hbG.kept1 k7
          have c3 := k1.kept1 (Below.refl _ _)
          have c4 := k5.kept1 (Below.refl _ _)
          simp only [List.setIfInBounds_toArray, List.set_cons_zero, List.set_cons_succ]
          have hzl : val zs < val ms := by rw [k4.out]; exact Nat.mod_lt _ hMp
          have hnz := HLN.out k2 k3 hzl
          have hnb := HLN.out k6 tB hlt
          have hGW := block_lt_of_cell c1
          gi_wp2_with fail
          refine cut_in8 45 46 47 48 49 50 51 52 (fun W' => ∃ (Ay : Option Addr) (ny cy : Nat) (zy : List Nat), Blk W' w6.heap.size 153 #[.slice Ay ny cy] ∧ Dig W' Ay ny cy zy ∧ Trim zy ∧ Hid (val zy = sval a ^ (2 * hornerB pre) % val ms) ∧ Blk W' g 153 #[.slice Ab nb cb] ∧ Dig W' Ab nb cb bs ∧ Below w2.heap.size w2 W' ∧ w6.heap.size + 1 < W'.heap.size ∧ KeepsOthers W W' ∧ SameBlk (w6.heap.size + 1) W W') ?_ ?_
          · gi_region_with (first
            | ((refine ⟨trivial, ?_⟩); gi_at_call 148; (with_reducible refine (CallsIn.inRound l (callsIn_wide.2 (HMU.out _ Az nz cz zs Az nz cz zs ?_ ?_ hnz hnz))).mono ?_); (focus (first | exact k2 | exact dig_drew k2)); (focus (first | exact k2 | exact dig_drew k2)); rintro e wa ⟨⟨Ap, np, cp, pp, rfl, hdp, htp, hvp⟩, hba⟩; have hnp : np ≤ 200000 := (mul_few hdp htp hvp hzl hzl hvn (by omega)); have HVP := Lib.hid hvp; clear hvp; have c1a := (hba.cell (p := ⟨G, 0, none⟩) hGW).trans c1)
            | ((refine ⟨trivial, ?_⟩); gi_at_call 164; (with_reducible refine (CallsIn.inRound l (callsIn_wide.2 (HDV.out _ Ap np cp pp ?_ ?_ hnp htp))).mono ?_); (focus (refine below_then k7 ?_; (repeat (first | exact Below.refl _ _ | apply Below.drew | refine below_then ?_ hba)))); (focus (first | exact hdp | exact dig_drew hdp)); rintro e wb ⟨⟨Aq, mq, cq, qq, Ar, nr, cr, r1, rfl, hdq, htq, hvq, hdr, htr, hvr⟩, hbb⟩; have HVR := Lib.hid hvr; clear hdq htq hvq hvr; have hbW : Below W.heap.size W wb := (by (repeat (first | exact Below.refl _ _ | apply Below.drew | refine below_then ?_ hba | refine below_then ?_ hbb))); have c5 := (hbW.cell (p := ⟨w6.heap.size, 0, none⟩) k1.lt).trans c3; have c6 := (hbW.frozen (p := ⟨w6.heap.size, 0, none⟩) k1.lt).trans (k1.frozen 0)))
            all_goals
              obtain ⟨r1', r2, r3, r4, r5, r6, r7, r8⟩ := pw_store2 k1 k5 k6 k7 k8 (by omega) hneg (by omega) hbW hdr
              refine ⟨rfl, ?_, Ar, nr, cr, r1, r3, r4, htr, Lib.hid ?_, r5, r6, r7, r8, r1', r2⟩
              focus (simp only [List.setIfInBounds_toArray, List.set_cons_zero, List.set_cons_succ]; exact ⟨_, _, _, _, _, _, _, _, rfl⟩)
              rw [HVR.out, HVP.out, k4.out, pow_step_sq]
          · rintro u45 u46 u47 u48 u49 u50 u51 u52 W2 ⟨Ay, ny, cy, zy, q1, q2, q3, q4, q5, q6, q7, q8, q9, q10⟩
            simp only [List.setIfInBounds_toArray, List.set_cons_zero, List.set_cons_succ]
            have d1 := hbG.kept1 q7
            have d3 := q1.kept1 (Below.refl _ _)
            have d4 := q5.kept1 (Below.refl _ _)
            cases x
            · gi_wp2_with fail
              refine ⟨q9, q10, ⟨Ay, ny, cy, zy, q1, q2, q3, Lib.hid ?_⟩, q5, q6, q7, q8⟩
              rw [q4.out, hornerB_snoc]; simp
            · have hyl : val zy < val ms := by rw [q4.out]; exact Nat.mod_lt _ hMp
              have hny := HLN.out q2 q3 hyl
              have hGW2 := block_lt_of_cell d1
              gi_wp2_with fail
              refine cut_in8 54 55 56 57 58 59 60 61 (fun W' => ∃ (Ay : Option Addr) (ny cy : Nat) (zy : List Nat), Blk W' w6.heap.size 153 #[.slice Ay ny cy] ∧ Dig W' Ay ny cy zy ∧ Trim zy ∧ Hid (val zy = sval a ^ (2 * hornerB pre + 1) % val ms) ∧ Blk W' g 153 #[.slice Ab nb cb] ∧ Dig W' Ab nb cb bs ∧ Below w2.heap.size w2 W' ∧ w6.heap.size + 1 < W'.heap.size ∧ KeepsOthers W W' ∧ SameBlk (w6.heap.size + 1) W W') ?_ ?_
              · gi_region_with (first
            | ((refine ⟨trivial, ?_⟩); gi_at_call 148; (with_reducible refine (CallsIn.inRound l (callsIn_wide.2 (HMU.out _ Ay ny cy zy Ab nb cb bs ?_ ?_ hny hnb))).mono ?_); (focus (first | exact q2 | exact dig_drew q2)); (focus (first | exact q6 | exact dig_drew q6)); rintro e wa ⟨⟨Ap, np, cp, pp, rfl, hdp, htp, hvp⟩, hba⟩; have hnp : np ≤ 200000 := (mul_few hdp htp hvp hyl hlt hvn (by omega)); have HVP := Lib.hid hvp; clear hvp; have c1a := (hba.cell (p := ⟨G, 0, none⟩) hGW2).trans d1)
            | ((refine ⟨trivial, ?_⟩); gi_at_call 164; (with_reducible refine (CallsIn.inRound l (callsIn_wide.2 (HDV.out _ Ap np cp pp ?_ ?_ hnp htp))).mono ?_); (focus (refine below_then q7 ?_; (repeat (first | exact Below.refl _ _ | apply Below.drew | refine below_then ?_ hba)))); (focus (first | exact hdp | exact dig_drew hdp)); rintro e wb ⟨⟨Aq, mq, cq, qq, Ar, nr, cr, r1, rfl, hdq, htq, hvq, hdr, htr, hvr⟩, hbb⟩; have HVR := Lib.hid hvr; clear hdq htq hvq hvr; have hbW : Below W2.heap.size W2 wb := (by (repeat (first | exact Below.refl _ _ | apply Below.drew | refine below_then ?_ hba | refine below_then ?_ hbb))); have c5 := (hbW.cell (p := ⟨w6.heap.size, 0, none⟩) q1.lt).trans d3; have c6 := (hbW.frozen (p := ⟨w6.heap.size, 0, none⟩) q1.lt).trans (q1.frozen 0)))
                all_goals
                  obtain ⟨r1', r2, r3, r4, r5, r6, r7, r8⟩ := pw_store2 q1 q5 q6 q7 q8 (by omega) hneg (by omega) hbW hdr
                  refine ⟨rfl, ?_, Ar, nr, cr, r1, r3, r4, htr, Lib.hid ?_, r5, r6, r7, r8, q9.trans r1', sameBlk_t q10 r2⟩
                  focus (simp only [List.setIfInBounds_toArray, List.set_cons_zero, List.set_cons_succ]; exact ⟨_, _, _, _, _, _, _, _, rfl⟩)
                  rw [HVR.out, HVP.out, q4.out, HVB.out, pow_step_mul]
              · rintro u54 u55 u56 u57 u58 u59 u60 u61 W3 ⟨Ay, ny, cy, zy, q1, q2, q3, q4, q5, q6, q7, q8, q9, q10⟩
                simp only [List.setIfInBounds_toArray, List.set_cons_zero, List.set_cons_succ]
                gi_wp2_with fail
                refine ⟨q9, q10, ⟨Ay, ny, cy, zy, q1, q2, q3, Lib.hid ?_⟩, q5, q6, q7, q8⟩
                rw [q4.out, hornerB_snoc]; simp
        case done =>
          intro D xs W hD hxs hI hdef
          obtain ⟨⟨Az, nz, cz, zs, k1, k2, k3, k4⟩, k5, k6, k7, k8⟩ := hI
          have c3 := k1.kept1 (Below.refl _ _)
          have HXS := Lib.hid hxs
          clear hxs
          have hzl : val zs < val ms := by rw [k4.out]; exact Nat.mod_lt _ hMp
          have hnz := HLN.out k2 k3 hzl
          go_wp2_with fail
          refine (number_any _ _ _ _ _ k2 (by omega)).mono ?_
          rintro e w9 ⟨rfl, hb9⟩
          rw [k4.out, HXS.out, horner_binL, HVM.out]
          go_wp2_with fail
          have hDlt : D < W.heap.size := (Array.getElem?_eq_some_iff.1 hdef).1
          have hK' : w9.heap[D]? = some (.deferred (some [])) := (hb9.block D hDlt).trans hdef
          have hwD : w.heap.size ≤ D := Nat.le_trans (Nat.le_trans hb2.size hbw8.size) hD
          refine ⟨by simp, .inl ⟨_, _, rfl, run_takeDeferred hK', ?_⟩⟩
          refine ⟨_, results_tmp2 rfl _ _ _, ?_, (below_then (below_then hb2 k7) hb9).trans (belowK_b (w := w) (Nat.le_refl _) _ D _ _ hwD hK' rfl rfl)⟩
          unfold powRes
          rw [if_neg HM00.out]
          rfl

end Go.Proofs.YtebgmlbbilcbbaaGreatDoor
