/- powerOdd: powers modulo an odd number. -/
import Derived.Test.YtebgmlbbilcbbaaGreatDoorNatFour
import Derived.Deep.RegionWith
import Derived.Deep.RegionHeld3
import Derived.Deep.CutRange
namespace Go.Proofs.YtebgmlbbilcbbaaGreatDoor
open Go.RowKit Go.Shelf
attribute [local go_sem] Oper.semAt_some

theorem odd_coprime {M : Nat} (h : M % 2 = 1) (n : Nat) : Nat.Coprime (P32 n) M := by
  unfold P32
  rw [show (4294967296 : Nat) = 2 ^ 32 by rfl, ← Nat.pow_mul]
  apply Nat.Coprime.pow_left
  show Nat.gcd 2 M = 1
  rw [Nat.gcd_rec, h]
  rfl

theorem bcell {W w1 : World} (hb : Below W.heap.size W w1) : (∀ b o, b < W.heap.size → w1.cell? ⟨b, o, none⟩ = W.cell? ⟨b, o, none⟩) ∧ (∀ b o, b < W.heap.size → w1.frozen? ⟨b, o, none⟩ = W.frozen? ⟨b, o, none⟩) :=
  ⟨fun b o h => hb.cell (p := ⟨b, o, none⟩) h, fun b o h => hb.frozen (p := ⟨b, o, none⟩) h⟩

theorem radix_set (n : Nat) : (u32s (List.replicate (n + 1) 0)).setIfInBounds n (.int .u32 1) = u32s (List.replicate n 0 ++ [1]) := by
  have e := u32s_set (List.replicate (n + 1) 0) n 1
  have e2 : (List.replicate (n + 1) 0).set n 1 = List.replicate n 0 ++ [1] := by
    rw [List.replicate_succ', List.set_append_right _ _ (by simp)]
    simp
  rw [e2] at e
  exact e
theorem radix_get (n : Nat) : (u32s (List.replicate (n + 1) 0))[n]? = some (.int .u32 0) := by
  have := u32s_get (l := List.replicate (n + 1) 0) (i := n) (d := 0) (by rw [List.getElem?_replicate, if_pos (by omega)])
  simpa using this
theorem radix_val (n : Nat) : val (List.replicate n 0 ++ [1]) = P32 n := by rw [val_append, val_zeros]; simp [val]
theorem radix_trim (n : Nat) : Trim (List.replicate n 0 ++ [1]) := fun _ => ⟨1, by simp, by omega⟩
theorem radix_lt (n : Nat) : Lt32 (List.replicate n 0 ++ [1]) := (Lt32.zeros n).snoc (by omega)

theorem Blk.below' {w w' : World} {g : Nat} {t : TypeId} {cs : Array Value} (h : Blk w g t cs) (hb : Below w.heap.size w w') : Blk w' g t cs := h.below hb h.lt
theorem dig_box {w : World} {A : Option Addr} {n c : Nat} {xs : List Nat} {g : Nat} {t : TypeId} {x : Option Addr} {y z : Nat} (h : Dig w A n c xs) (hb : Blk w g t #[.slice x y z]) (u : Value) : Dig (w.setCell ⟨g, 0, none⟩ u) A n c xs := by
  refine ⟨h.len, h.cap, h.lt, fun hn => ?_⟩
  obtain ⟨b, o, e, hc⟩ := h.at_ hn
  refine ⟨b, o, e, fun j d hd => ?_⟩
  have hj := hc j d hd
  have hne : b ≠ g := by
    rintro rfl
    have h2 := hb.cell (o + j)
    rw [hj] at h2
    rcases Nat.eq_zero_or_pos (o + j) with h0 | h0
    · rw [h0] at h2; simp at h2
    · rw [Array.getElem?_eq_none (by simp; omega)] at h2; cases h2
  exact (World.cell?_setCell_far w ⟨g, 0, none⟩ ⟨b, o + j, none⟩ u (Ne.symm hne)).trans hj
theorem fin_old {w : World} {A : Option Addr} {n c : Nat} {xs : List Nat} {g : Nat} {t : TypeId} {x : Option Addr} {y z : Nat} (h : Dig w A n c xs) (hb : Blk w g t #[.slice x y z]) (u : Value) : Blk (w.setCell ⟨g, 0, none⟩ u) g t #[u] ∧ Dig (w.setCell ⟨g, 0, none⟩ u) A n c xs :=
  ⟨hb.set_ 0 u, dig_box h hb u⟩
theorem blk_kept {W W' : World} {row : Option Nat} {g : Nat} {t : TypeId} {cs : Array Value} (h : Blk W g t cs) (hg : W.grownBy W' row) (hrow : ∀ r, row = some r → ∃ o : Obj, W.heap[r]? = some o ∧ o.isCells = false) : Blk W' g t cs :=
  (grownBy_keeps_cells hg hrow h rfl).trans h
theorem dig_kept {W W' : World} {row : Option Nat} {A : Option Addr} {n c : Nat} {xs : List Nat} (h : Dig W A n c xs) (hg : W.grownBy W' row) (hrow : ∀ r, row = some r → ∃ o : Obj, W.heap[r]? = some o ∧ o.isCells = false) : Dig W' A n c xs := by
  refine ⟨h.len, h.cap, h.lt, fun hn => ?_⟩
  obtain ⟨b, o, e, hc⟩ := h.at_ hn
  exact ⟨b, o, e, fun j d hd => cell_kept (hc j d hd) hg hrow⟩

theorem dig_drew {w : World} {A : Option Addr} {n c : Nat} {xs : List Nat} (h : Dig w A n c xs) : Dig w.drew A n c xs := ⟨h.len, h.cap, h.lt, h.at_⟩
theorem pw_store {w5 W W3 : World} {g g14 Bn n cz cf cy : Nat} {t : TypeId} {Az Af Ay : Option Addr} {fs zy : List Nat} (k1 : Blk W g t #[.slice Az n cz]) (k5 : Blk W g14 t #[.slice Af n cf]) (k6 : Dig W Af n cf fs)
    (k7 : Below w5.heap.size w5 W) (k8 : Bn < W.heap.size) (hg : w5.heap.size ≤ g) (hne : g14 ≠ g) (hBn : Bn ≠ g) (hb : Below W.heap.size W W3) (hd : Dig W3 Ay n cy zy) :
    KeepsOthers W (W3.setCell ⟨g, 0, none⟩ (.slice Ay n cy)) ∧ SameBlk Bn W (W3.setCell ⟨g, 0, none⟩ (.slice Ay n cy)) ∧ Blk (W3.setCell ⟨g, 0, none⟩ (.slice Ay n cy)) g t #[.slice Ay n cy] ∧ Dig (W3.setCell ⟨g, 0, none⟩ (.slice Ay n cy)) Ay n cy zy ∧
      Blk (W3.setCell ⟨g, 0, none⟩ (.slice Ay n cy)) g14 t #[.slice Af n cf] ∧ Dig (W3.setCell ⟨g, 0, none⟩ (.slice Ay n cy)) Af n cf fs ∧ Below w5.heap.size w5 (W3.setCell ⟨g, 0, none⟩ (.slice Ay n cy)) ∧ Bn < (W3.setCell ⟨g, 0, none⟩ (.slice Ay n cy)).heap.size := by
  have hk := k1.below' hb
  refine ⟨(KeepsOthers.of_grownBy (grown_of_below hb none) (fun _ _ e _ => by cases e)).trans (KeepsOthers.setCell _ _ _), ?_, hk.set_ 0 _, dig_box hd hk _, (k5.below' hb).far hne _, dig_box (k6.below hb) hk _, below_set (below_then k7 hb) hg _, ?_⟩
  · exact (heap_setCell_other W3 _ Bn _ hBn).trans (hb.block Bn k8)
  · have := hb.size
    have h2 := (KeepsOthers.setCell W3 ⟨g, 0, none⟩ (.slice Ay n cy)).size
    omega
theorem mstep_sq {P M b h z R : Nat} (hc : Nat.Coprime P M) (hz : z % M = b ^ h * P % M) (hR : R * P % M = z * z % M) : R % M = b ^ (2 * h) * P % M := by
  refine mod_cancel hc ?_
  rw [hR, Nat.mul_mod, hz, ← Nat.mul_mod, show 2 * h = h + h by omega, Nat.pow_add]
  congr 1
  simp only [Nat.mul_left_comm, Nat.mul_comm]
theorem mstep_f {P M b f q : Nat} (hc : Nat.Coprime P M) (hq : q = P % M * (P % M) % M) (hf : f * P % M = b * q % M) : f % M = b * P % M := by
  refine mod_cancel hc ?_
  rw [hf, hq, ← Nat.mul_mod, Nat.mul_mod_mod, Nat.mul_assoc]
theorem mstep_mul {P M b h z f R : Nat} (hc : Nat.Coprime P M) (hz : z % M = b ^ h * P % M) (hf : f % M = b * P % M) (hR : R * P % M = z * f % M) : R % M = b ^ (h + 1) * P % M := by
  refine mod_cancel hc ?_
  rw [hR, Nat.mul_mod, hz, hf, ← Nat.mul_mod, Nat.pow_succ]
  congr 1
  simp only [Nat.mul_assoc, Nat.mul_left_comm, Nat.mul_comm]

theorem mstep_end {P M b h z R : Nat} (hc : Nat.Coprime P M) (hz : z % M = b ^ h * P % M) (hR : R * P % M = z * 1 % M) (hlt : R < M) : R = b ^ h % M := by
  rw [Nat.mul_one, hz] at hR
  have := mod_cancel hc hR
  rwa [Nat.mod_eq_of_lt hlt] at this
theorem val_odd {ms : List Nat} {m0 : Nat} (h : ms[0]? = some m0) (ho : m0 % 2 = 1) : val ms % 2 = 1 := by
  cases ms with
  | nil => simp at h
  | cons a l =>
    simp at h
    subst h
    simp only [val]
    omega
theorem rf_own {F : Fence} {n : Nat} {P : Program} {g : Operand} {p0 : Tmp} (p1 : Tmp) {assign body : Code} {Q : Exit → Act → World → Prop} {a : Act} {w : World}
    (hro : F.round = none) (h1 : 1 ≤ n) {gf : Nat} {lb : Array Value} (hg : a.eval g = .func (.func gf) #[] lb) (hFg : F.fn gf) (eg : ∀ args w, (callFunc gf args).run P w = .ok (.enter gf args) w)
    {Kp : World → World → Prop} {S Sp : List Bool → Prop} {N : Nat} {w0 : World} (hseq : SeqStopsK F (n - 1) P gf lb (fun b : Bool => #[.bool b]) Kp S Sp N w0)
    (hKt : ∀ {A B C : World}, Kp A B → Kp B C → Kp A C) (hKb : ∀ (W : World) (l : Nat) (o o' : Obj), w.heap.size ≤ l → W.heap[l]? = some o → o.isCells = false → o.isWalk = false → Kp W (W.putObj l o')) (hb0 : Below w0.heap.size w0 w)
    (I : List Bool → World → Prop) (hI : OwnFrom w.heap.size I) (h0 : I [] w)
    (hassign : ∀ (l : Nat) (x : Bool) (W : World) (K : Act → World → Prop), K { tmps := (a.tmps.setIfInBounds p0 (.bool x)).setIfInBounds p1 (.bool x), defers := [] } W →
      assign.wpIn (F.inRound l) (n - 1 - 1) P (Exit.then K (fun _ _ _ => False)) { tmps := a.tmps.setIfInBounds p0 (.bool x), defers := [] } W)
    (hbody : ∀ (l : Nat) (pre : List Bool) (x : Bool) (W : World), I pre W → pre.length < N → body.wpIn (F.inRound l) (n - 1 - 1) P (ownPostK Kp I (fun _ _ _ => False) (pre ++ [x]) W) { tmps := (a.tmps.setIfInBounds p0 (.bool x)).setIfInBounds p1 (.bool x), defers := [] } W)
    (hdone : ∀ (D : Nat) (xs : List Bool) (W : World), w.heap.size ≤ D → S xs → I xs W → W.heap[D]? = some (.deferred (some [])) → Q .normal { a with defers := { target := .collected D, args := #[] } :: a.defers } W) :
    (Code.rangeFunc g #[p0] assign body).wpIn F n P Q a w :=
  wpIn_rangeFunc_ownF hro h1 hg hFg eg hseq (fun h k => hKt h k) hKb hb0 (fun _ => rfl) I (fun _ _ _ => False) hI (fun _ _ _ _ _ hs _ _ => hs) h0
    (fun x => { tmps := (a.tmps.setIfInBounds p0 (.bool x)).setIfInBounds p1 (.bool x), defers := [] }) (fun l x W K hK => by have := hassign l x W K hK; simpa using this) hbody hdone (fun _ _ _ _ _ _ h _ => h.elim)

set_option maxRecDepth 100000 in
set_option maxHeartbeats 4000000 in
theorem powerOdd_any (A0 : Option Addr) (n0 c0 : Nat) (bs : List Nat) (s : ByteArray) (A : Option Addr) (n c : Nat) (ms : List Nat) (m0 : Nat) (w : World)
    (hB : Dig w A0 n0 c0 bs) (tB : Trim bs) (hM : Dig w A n c ms) (tM : Trim ms) (hm0 : ms[0]? = some m0) (hodd : m0 % 2 = 1) (hlt : val bs < val ms) (hn : n ≤ 50000) (hs : s.size ≤ 100000) :
    Calls Tryz.prog 165 #[.slice A0 n0 c0, .string s, .slice A n c] w fun e w' => Gives w' (val bs ^ sval s % val ms) e ∧ Below w.heap.size w w' := by
  have hn0 : n0 ≤ n := by
    rw [← hB.len]
    exact tB.len_le (Nat.lt_trans hlt (by have := val_lt hM.lt; rwa [hM.len] at this))
  refine (callsIn_wide (n := 3)).1 ?_
  refine callsIn_of_wp_marks Tryz.func165 rfl trivial ?_ rfl
  refine wpIn_wide.2 ?_
  simp only [Tryz.ntmps165, List.size_toArray, List.length_cons, List.length_nil, Nat.reduceAdd, Nat.reduceSub, Array.replicate_succ, Array.replicate_zero, List.push_toArray, List.append_toArray, List.nil_append, List.cons_append]
  have hmk := make_u32 (n + 1) (by omega)
  rw [show ((n + 1 : Nat) : Int) = (n : Int) + 1 by omega] at hmk
  have HODD := Lib.hid hodd
  have HM0 := Lib.hid hm0
  have HLT := Lib.hid hlt
  clear hodd hm0 hlt
  go_wp2_with fail
  refine (newMontgomery_any _ _ _ _ m0 _ hM HM0.out HODD.out).mono ?_
  rintro e w1 ⟨inv, rfl, hinv, hi1, hb1⟩
  have HI1 := Lib.hid hi1
  clear hi1
  have hset := radix_set n
  have hget := radix_get n
  go_wp2_with fail
  clear hset hget
  have hbR := Blk.new (w1.alloc (.cells #[.slice A n c, .int .u32 (inv : Int)] 211)) 140 (u32s (List.replicate n 0 ++ [1]))
  rw [World.size_alloc] at hbR
  have hbG := (Blk.new w1 211 #[.slice A n c, .int .u32 (inv : Int)]).alloc (.cells (u32s (List.replicate n 0 ++ [1])) 140)
  have hb2 : Below w.heap.size w ((w1.alloc (.cells #[.slice A n c, .int .u32 (inv : Int)] 211)).alloc (.cells (u32s (List.replicate n 0 ++ [1])) 140)) := (hb1.alloc hb1.size _).alloc (by have := hb1.size; simp; omega) _
  have hgs : w.heap.size ≤ w1.heap.size := hb1.size
  generalize ((w1.alloc (.cells #[.slice A n c, .int .u32 (inv : Int)] 211)).alloc (.cells (u32s (List.replicate n 0 ++ [1])) 140)) = w2 at hbR hbG hb2 ⊢
  obtain ⟨G, hG⟩ : ∃ G, G = w1.heap.size := ⟨_, rfl⟩
  rw [← hG] at hbR hbG hgs ⊢
  clear hG hb1
  have hMp : 0 < val ms := Nat.lt_of_le_of_lt (Nat.zero_le _) HLT.out
  have hr := hbR.dig (radix_lt n) (n := n + 1) (c := n + 1) (by simp) (Nat.le_refl _)
  refine (divide_any _ _ _ _ _ _ _ _ _ hr (hM.below hb2) (by omega) (by omega) (radix_trim n) tM hMp).mono ?_
  rintro e w3 ⟨⟨Aq, mq, cq, q1, A1, n1, c1, one, rfl, hdq, htq, hvq, hd1, ht1, hv1⟩, hb3⟩
  rw [radix_val] at hv1
  have hn1 : n1 ≤ n := by
    rw [← hd1.len]
    exact ht1.len_le (Nat.lt_trans (by rw [hv1]; exact Nat.mod_lt _ hMp) (by have := val_lt hM.lt; rwa [hM.len] at this))
  have HV1 := Lib.hid hv1
  clear hdq htq hvq hv1 hr hbR
  have hb23 := below_then hb2 hb3
  have hbG3 := hbG.below hb3 hbG.lt
  go_wp2_with fail
  refine (multiply_any _ _ _ _ _ _ _ _ _ hd1 hd1 (by omega) (by omega)).mono ?_
  rintro e w4 ⟨⟨Ap, mp, cp, pp, rfl, hdp, htp, hvp⟩, hb4⟩
  have hmp : mp ≤ 2 * n := by
    rw [← hdp.len]
    refine htp.len_le ?_
    rw [hvp, show 2 * n = n + n by omega, P32_add]
    have h1 : val one < P32 n := Nat.lt_trans (by rw [HV1.out]; exact Nat.mod_lt _ hMp) (by have := val_lt hM.lt; rwa [hM.len] at this)
    exact Nat.mul_lt_mul'' h1 h1
  have HVP := Lib.hid hvp
  clear hvp
  have hb24 := below_then hb23 hb4
  have hbG4 := hbG3.below hb4 hbG3.lt
  go_wp2_with fail
  refine (divide_any _ _ _ _ _ _ _ _ _ hdp (hM.below hb24) (by omega) (by omega) htp tM hMp).mono ?_
  rintro e w5 ⟨⟨Aq, mq, cq, q1, A2, n2, c2, sq, rfl, hdq, htq, hvq, hd2, ht2, hv2⟩, hb5⟩
  rw [HVP.out] at hv2
  have hn2 : n2 ≤ n := by
    rw [← hd2.len]
    exact ht2.len_le (Nat.lt_trans (by rw [hv2]; exact Nat.mod_lt _ hMp) (by have := val_lt hM.lt; rwa [hM.len] at this))
  have HV2 := Lib.hid hv2
  clear hdq htq hvq hv2 HVP hdp htp
  have hb25 := below_then hb24 hb5
  have hbG5 := hbG4.below hb5 hbG4.lt
  have hd15 := (hd1.below hb4).below hb5
  clear hb3 hb4 hb5 hb23 hb24 hb2 hbG hbG3 hbG4 hd1
  go_upto_region 7 with fail
  have hq0 : w5.cell? ⟨G, 0, none⟩ = some (.slice A n c) := hbG5.cell 0
  have hq1 : w5.cell? ⟨G, 1, none⟩ = some (.int .u32 (inv : Int)) := hbG5.cell 1
  have hpb : ∀ W, Below w5.heap.size w5 W → Calls Tryz.prog 199 #[.slice A0 n0 c0, .int .i64 (n : Int)] W fun e w' => GivesN w' n (val bs) e ∧ Below W.heap.size W w' := fun W hW => pad_any _ _ _ n _ W ((hB.below hb25).below hW) hn0 (by omega)
  have hps : ∀ W, Below w5.heap.size w5 W → Calls Tryz.prog 199 #[.slice A2 n2 c2, .int .i64 (n : Int)] W fun e w' => GivesN w' n (val sq) e ∧ Below W.heap.size W w' := fun W hW => pad_any _ _ _ n _ W (hd2.below hW) hn2 (by omega)
  have hpr : ∀ (W : World) (Ax : Option Addr) (cx : Nat) (zx : List Nat) (Ay : Option Addr) (cy : Nat) (zy : List Nat), Below w5.heap.size w5 W → Dig W Ax n cx zx → Dig W Ay n cy zy → val zx < val ms → Calls Tryz.prog 198 #[.agg #[.slice A n c, .int .u32 (inv : Int)], .slice Ax n cx, .slice Ay n cy] W fun e w' => (∃ R : Nat, GivesN w' n R e ∧ R < val ms ∧ R * P32 n % val ms = val zx * val zy % val ms) ∧ Below W.heap.size W w' :=
    fun W Ax cx zx Ay cy zy hW h1 h2 h3 => product_any A n c ms inv Ax cx zx Ay cy zy m0 W ((hM.below hb25).below hW) h1 h2 tM HM0.out HI1.out (by omega) h3
  have HPB := Lib.hid hpb
  have HPS := Lib.hid hps
  have HPR := Lib.hid hpr
  clear hpb hps hpr
  go_cut [14] from 17 to 70 (fun s14 wx => ∃ (g : Nat) (Af : Option Addr) (cf : Nat) (fs : List Nat), s14 = .pointer (some ⟨g, 0, none⟩) ∧ w5.heap.size ≤ g ∧ Blk wx g 153 #[.slice Af n cf] ∧ Dig wx Af n cf fs ∧ val fs < val ms ∧ Hid (val fs * P32 n % val ms = val bs * val sq % val ms) ∧ Below w5.heap.size w5 wx)
  case first =>
    go_region_held3 (fun w' => w'.cell? ⟨G, 0, none⟩ = some (.slice A n c) ∧ w'.cell? ⟨G, 1, none⟩ = some (.int .u32 (inv : Int))) ((refine hbG5.kept2 ?_; (repeat (first | exact Below.refl _ _ | apply Below.drew | apply below_al | refine below_then ?_ hba | refine below_then ?_ hbb | refine below_then ?_ hbd | apply below_set | exact Nat.le_refl _ | exact hle_a | exact hle_b | exact hle_d)))) (first
      | (go_at_call 199; (with_reducible refine (HPB.out _ ?_).mono ?_); (repeat (first | exact Below.refl _ _ | apply Below.drew | apply below_al | refine below_then ?_ hba | refine below_then ?_ hbb | refine below_then ?_ hbd | apply below_set | exact Nat.le_refl _ | exact hle_a | exact hle_b | exact hle_d)); rintro e wa ⟨⟨Ax, cx, zx, rfl, hdx, hvx⟩, hba⟩; have HVX := Lib.hid hvx; clear hvx; have hle_a : w5.heap.size ≤ wa.heap.size := (by have := hba.size; (try simp at this); omega); obtain ⟨hca, hfa⟩ := bcell hba; have hsa := hba.size; (try simp at hsa); (try (have hca0 := hca w5.heap.size 0 (by first | omega | (simp; done) | (simp; omega)); have hfa0 := hfa w5.heap.size 0 (by first | omega | (simp; done) | (simp; omega)))); (try (have hca1 := hca wb.heap.size 0 (by first | omega | (simp; done) | (simp; omega)); have hfa1 := hfa wb.heap.size 0 (by first | omega | (simp; done) | (simp; omega)))); clear hca hfa)
      | (go_at_call 199; (with_reducible refine (HPS.out _ ?_).mono ?_); (repeat (first | exact Below.refl _ _ | apply Below.drew | apply below_al | refine below_then ?_ hba | refine below_then ?_ hbb | refine below_then ?_ hbd | apply below_set | exact Nat.le_refl _ | exact hle_a | exact hle_b | exact hle_d)); rintro e wb ⟨⟨Ay, cy, zy, rfl, hdy, hvy⟩, hbb⟩; have HVY := Lib.hid hvy; clear hvy; have hle_b : w5.heap.size ≤ wb.heap.size := (by have := hbb.size; (try simp at this); omega); obtain ⟨hcb, hfb⟩ := bcell hbb; have hsb := hbb.size; (try simp at hsb); (try (have hcb0 := hcb w5.heap.size 0 (by first | omega | (simp; done) | (simp; omega)); have hfb0 := hfb w5.heap.size 0 (by first | omega | (simp; done) | (simp; omega)))); (try (have hcb1 := hcb wa.heap.size 0 (by first | omega | (simp; done) | (simp; omega)); have hfb1 := hfb wa.heap.size 0 (by first | omega | (simp; done) | (simp; omega)))); clear hcb hfb)
      | (go_at_call 198; (with_reducible refine (HPR.out _ Ax cx zx Ay cy zy ?_ ?_ ?_ ?_).mono ?_); (repeat (first | exact Below.refl _ _ | apply Below.drew | apply below_al | refine below_then ?_ hba | refine below_then ?_ hbb | refine below_then ?_ hbd | apply below_set | exact Nat.le_refl _ | exact hle_a | exact hle_b | exact hle_d)); (focus (repeat (first | exact hdx | apply dig_al | refine Dig.below ?_ hbb))); (focus (repeat (first | exact hdy | apply dig_al))); (rw [HVX.out]; exact HLT.out); rintro e wd ⟨⟨R, ⟨Az, cz, zz, rfl, hdz, hvz⟩, hR1, hR2⟩, hbd⟩; have HVZ := Lib.hid hvz; have HR2 := Lib.hid hR2; clear hvz hR2; have hle_d : w5.heap.size ≤ wd.heap.size := (by have := hbd.size; (try simp at this); omega); obtain ⟨hcd, hfd⟩ := bcell hbd; have hsd := hbd.size; (try simp at hsd); (try (have hcd0 := hcd w5.heap.size 0 (by first | omega | (simp; done) | (simp; omega)); have hfd0 := hfd w5.heap.size 0 (by first | omega | (simp; done) | (simp; omega)))); (try (have hcd1 := hcd wa.heap.size 0 (by first | omega | (simp; done) | (simp; omega)); have hfd1 := hfd wa.heap.size 0 (by first | omega | (simp; done) | (simp; omega)))); (try (have hcd2 := hcd wb.heap.size 0 (by first | omega | (simp; done) | (simp; omega)); have hfd2 := hfd wb.heap.size 0 (by first | omega | (simp; done) | (simp; omega)))); clear hcd hfd))
    all_goals go_wp2_with fail
    all_goals go_meet
    all_goals have hval : val zz < val ms := (by rw [HVZ.out]; exact hR1)
    all_goals have hmod : Hid (val zz * P32 n % val ms = val bs * val sq % val ms) := Lib.hid (by rw [HVZ.out, HR2.out, HVX.out, HVY.out])
    · refine ⟨_, Az, cz, zz, rfl, hle_d, Blk.new _ _ _, dig_al hdz _, hval, hmod, ?_⟩
      (repeat (first | exact Below.refl _ _ | apply Below.drew | apply below_al | refine below_then ?_ hba | refine below_then ?_ hbb | refine below_then ?_ hbd | apply below_set | exact Nat.le_refl _ | exact hle_a | exact hle_b | exact hle_d))
    · have hbx := (Blk.new wb 153 #[.slice none 0 0]).below' hbd
      refine ⟨_, Az, cz, zz, rfl, hle_b, (fin_old hdz hbx _).1, (fin_old hdz hbx _).2, hval, hmod, ?_⟩
      (repeat (first | exact Below.refl _ _ | apply Below.drew | apply below_al | refine below_then ?_ hba | refine below_then ?_ hbb | refine below_then ?_ hbd | apply below_set | exact Nat.le_refl _ | exact hle_a | exact hle_b | exact hle_d))
    · have hbx := ((Blk.new wa 153 #[.slice none 0 0]).below' hbb).below' hbd
      refine ⟨_, Az, cz, zz, rfl, hle_a, (fin_old hdz hbx _).1, (fin_old hdz hbx _).2, hval, hmod, ?_⟩
      (repeat (first | exact Below.refl _ _ | apply Below.drew | apply below_al | refine below_then ?_ hba | refine below_then ?_ hbb | refine below_then ?_ hbd | apply below_set | exact Nat.le_refl _ | exact hle_a | exact hle_b | exact hle_d))
    · have hbx : Blk wd w5.heap.size 153 #[.slice none 0 0] := (((show Blk (w5.alloc (.cells #[.slice none 0 0] 153)).drew w5.heap.size 153 #[.slice none 0 0] from Blk.new w5 153 #[.slice none 0 0]).below' hba).below' hbb).below' hbd
      refine ⟨_, Az, cz, zz, rfl, Nat.le_refl _, (fin_old hdz hbx _).1, (fin_old hdz hbx _).2, hval, hmod, ?_⟩
      (repeat (first | exact Below.refl _ _ | apply Below.drew | apply below_al | refine below_then ?_ hba | refine below_then ?_ hbb | refine below_then ?_ hbd | apply below_set | exact Nat.le_refl _ | exact hle_a | exact hle_b | exact hle_d))
  case rest =>
    obtain ⟨g14, Af, cf, fs, rfl, hg14, hbF, hdF, hvF, HVF, hbw⟩ := hcut
    go_wp2_with fail
    refine (pad_any _ _ _ n _ _ (hd15.below hbw) hn1 (by omega)).mono ?_
    rintro e w7 ⟨⟨Ao, co, os, rfl, hdo, hvo⟩, hb7⟩
    have HVO := Lib.hid hvo
    clear hvo
    have hbF7 := hbF.below' hb7
    have hdF7 := hdF.below hb7
    have hbw7 := below_then hbw hb7
    go_wp2_with fail
    refine (binary_any s _).mono ?_
    rintro e w8 ⟨rfl, rfl⟩
    go_wp2_with fail
    have hb15 := ((Blk.new w7 153 #[.slice Ao n co]).alloc (.cells #[.string s] 25))
    have hbn : Blk ((w7.alloc (.cells #[.slice Ao n co] 153)).alloc (.cells #[.string s] 25)) (w7.heap.size + 1) 25 #[.string s] := by
      have := Blk.new (w7.alloc (.cells #[.slice Ao n co] 153)) 25 #[.string s]
      rwa [World.size_alloc] at this
    have hb78 : Below w7.heap.size w7 ((w7.alloc (.cells #[.slice Ao n co] 153)).alloc (.cells #[.string s] 25)) := below_al (below_al (Below.refl _ _) _) _
    have hbF8 := hbF7.below' hb78
    have hdF8 := hdF7.below hb78
    have hdO8 := hdo.below hb78
    have hbw8 := below_then hbw7 hb78
    have hsz8 : ((w7.alloc (.cells #[.slice Ao n co] 153)).alloc (.cells #[.string s] 25)).heap.size = w7.heap.size + 2 := by simp
    generalize ((w7.alloc (.cells #[.slice Ao n co] 153)).alloc (.cells #[.string s] 25)) = w8 at *
    have hcop := odd_coprime (M := val ms) (val_odd HM0.out HODD.out) n
    have hne14 : g14 ≠ w7.heap.size := by have := hbF7.lt; omega
    have hle57 : w5.heap.size ≤ w7.heap.size := hbw7.size
    refine (wpIn_wide (n := 3)).1 ?_
    refine rf_own 16 rfl (by omega) (gf := 200) (lb := #[.pointer (some ⟨w7.heap.size + 1, 0, none⟩)]) rfl trivial (enters_of Tryz.func200 (by kernel_rfl) rfl)
      (binary_stops _ (w7.heap.size + 1) (by omega) s hs w8 (by omega) (hbn.cell 0)) sameBlk_t (sameBlk_b (by omega)) (Below.refl _ _)
      (fun pre W => (∃ (Az : Option Addr) (cz : Nat) (zs : List Nat), Blk W w7.heap.size 153 #[.slice Az n cz] ∧ Dig W Az n cz zs ∧ val zs < val ms ∧ Hid (val zs % val ms = val bs ^ hornerB pre * P32 n % val ms)) ∧ Blk W g14 153 #[.slice Af n cf] ∧ Dig W Af n cf fs ∧ Below w5.heap.size w5 W ∧ w7.heap.size + 1 < W.heap.size)
      ?own ?start ?assign ?body ?done
    case own =>
      rintro pre A' B' row ⟨⟨Az, cz, zs, k1, k2, k3, k4⟩, k5, k6, k7, k8⟩ hg hr
      have hr' := fun r e => (hr r e).2
      exact ⟨⟨Az, cz, zs, blk_kept k1 hg hr', dig_kept k2 hg hr', k3, k4⟩, blk_kept k5 hg hr', dig_kept k6 hg hr', ownFrom_below (β := List Bool) (Nat.le_refl _) hbw8.size [] A' B' row k7 hg hr, Nat.lt_of_lt_of_le k8 hg.size⟩
    case start =>
      refine ⟨⟨Ao, co, os, hb15, hdO8, ?_, Lib.hid ?_⟩, hbF8, hdF8, hbw8, by omega⟩
      · rw [HVO.out, HV1.out]; exact Nat.mod_lt _ hMp
      · rw [HVO.out, HV1.out, Nat.mod_mod, show hornerB [] = 0 from rfl, Nat.pow_zero, Nat.one_mul]
    case assign =>
      intro l x W K hK
      gi_wp2
      exact hK
    case body =>
      rintro l pre x W ⟨⟨Az, cz, zs, k1, k2, k3, k4⟩, k5, k6, k7, k8⟩ _
      have c0 := hbG5.kept2 k7
      obtain ⟨c1, c2⟩ := c0
      have c3 : W.cell? ⟨w7.heap.size, 0, none⟩ = some (.slice Az n cz) := k1.cell 0
      have c4 : W.cell? ⟨g14, 0, none⟩ = some (.slice Af n cf) := k5.cell 0
      simp only [List.setIfInBounds_toArray, List.set_cons_zero, List.set_cons_succ]
      gi_wp2_with fail
      refine ⟨trivial, ?_⟩
      refine (CallsIn.inRound l (callsIn_wide.2 (HPR.out W Az cz zs Az cz zs k7 k2 k2 k3))).mono ?_
      rintro e W3 ⟨⟨R, ⟨Ay, cy, zy, rfl, hdy, hvy⟩, hR1, hR2⟩, hb3⟩
      have c5 := (hb3.cell (p := ⟨w7.heap.size, 0, none⟩) k1.lt).trans c3
      have c6 := (hb3.frozen (p := ⟨w7.heap.size, 0, none⟩) k1.lt).trans (k1.frozen 0)
      have HRR := Lib.hid (mstep_sq hcop k4.out hR2)
      clear hR2
      obtain ⟨q1, q2, q3, q4, q5, q6, q7, q8⟩ := pw_store k1 k5 k6 k7 k8 (by omega) hne14 (by omega) hb3 hdy
      obtain ⟨d1, d2⟩ := hbG5.kept2 q7
      have d3 := q3.cell 0
      have d4 := q5.cell 0
      have d5 := q3.frozen 0
      simp at d3 d4
      cases x
      · gi_wp2_with fail
        refine ⟨q1, q2, ⟨Ay, cy, zy, q3, q4, by rw [hvy]; exact hR1, Lib.hid ?_⟩, q5, q6, q7, q8⟩
        rw [hvy, HRR.out, hornerB_snoc]; simp
      · gi_wp2_with fail
        refine ⟨trivial, ?_⟩
        refine (CallsIn.inRound l (callsIn_wide.2 (HPR.out _ Ay cy zy Af cf fs q7 q4 q6 (by rw [hvy]; exact hR1)))).mono ?_
        rintro e W4 ⟨⟨R2, ⟨Au, cu, zu, rfl, hdu, hvu⟩, hR3, hR4⟩, hb4⟩
        have c7 := (hb4.cell (p := ⟨w7.heap.size, 0, none⟩) q3.lt).trans d3
        have c8 := (hb4.frozen (p := ⟨w7.heap.size, 0, none⟩) q3.lt).trans d5
        have HRS := Lib.hid (mstep_mul hcop (by rw [hvy]; exact HRR.out) (mstep_f hcop (by rw [HV2.out, HV1.out]) HVF.out) hR4)
        clear hR4
        obtain ⟨r1, r2, r3, r4, r5, r6, r7, r8⟩ := pw_store q3 q5 q6 q7 q8 (by omega) hne14 (by omega) hb4 hdu
        gi_wp2_with fail
        refine ⟨q1.trans r1, sameBlk_t q2 r2, ⟨Au, cu, zu, r3, r4, by rw [hvu]; exact hR3, Lib.hid ?_⟩, r5, r6, r7, r8⟩
        rw [hvu, HRS.out, hornerB_snoc]; simp
    case done =>
      intro D xs W hD hxs hI hdef
      obtain ⟨⟨Az, cz, zs, k1, k2, k3, k4⟩, k5, k6, k7, k8⟩ := hI
      obtain ⟨e0, e1⟩ := hbG5.kept2 k7
      have e2 : W.cell? ⟨w7.heap.size, 0, none⟩ = some (.slice Az n cz) := k1.cell 0
      have HXS := Lib.hid hxs
      clear hxs
      have HPA : Hid (∀ (V : World) (Ax : Option Addr) (xs : List Nat), Dig V Ax 1 1 xs → Calls Tryz.prog 199 #[.slice Ax 1 1, .int .i64 (n : Int)] V fun e w' => GivesN w' n (val xs) e ∧ Below V.heap.size V w') :=
        Lib.hid (fun V Ax xs h => pad_any _ _ _ n _ V h (by have := hM.len; have := (List.getElem?_eq_some_iff.1 HM0.out).1; omega) (by omega))
      have hone : ∀ V : World, Dig (V.alloc (.cells #[.int .u32 1] 140)) (some ⟨V.heap.size, 0, none⟩) 1 1 [1] := fun V =>
        (show Blk (V.alloc (.cells #[.int .u32 1] 140)) V.heap.size 140 (u32s [1]) from Blk.new V 140 _).dig (Lt32.one (by omega)) rfl (Nat.le_refl _)
      have HONE := Lib.hid hone
      clear hone
      have hk3 : ∀ V : World, Below W.heap.size W V → V.cell? ⟨G, 0, none⟩ = some (.slice A n c) ∧ V.cell? ⟨G, 1, none⟩ = some (.int .u32 (inv : Int)) ∧ V.cell? ⟨w7.heap.size, 0, none⟩ = some (.slice Az n cz) := fun V h =>
        ⟨(h.cell (block_lt_of_cell e0)).trans e0, (h.cell (block_lt_of_cell e1)).trans e1, (h.cell (block_lt_of_cell e2)).trans e2⟩
      have HK3 := Lib.hid hk3
      clear hk3
      go_wp2_with fail
      go_region_held3 (fun w' => w'.cell? ⟨G, 0, none⟩ = some (.slice A n c) ∧ w'.cell? ⟨G, 1, none⟩ = some (.int .u32 (inv : Int)) ∧ w'.cell? ⟨w7.heap.size, 0, none⟩ = some (.slice Az n cz)) ((refine HK3.out _ ?_; (repeat (first | exact Below.refl _ _ | apply Below.drew | apply below_al | refine below_then ?_ hba | refine below_then ?_ hbd)))) (first
        | (go_at_call 199; (with_reducible refine (HPA.out _ _ [1] ?_).mono ?_); (focus (first | exact HONE.out _ | exact dig_drew (HONE.out _))); rintro e wa ⟨⟨Ax, cx, zx, rfl, hdx, hvx⟩, hba⟩; have HVX := Lib.hid hvx; clear hvx)
        | (go_at_call 198; (with_reducible refine (HPR.out _ Az cz zs Ax cx zx ?_ ?_ ?_ ?_).mono ?_); (focus (refine below_then k7 ?_; (repeat (first | exact Below.refl _ _ | apply Below.drew | apply below_al | refine below_then ?_ hba | refine below_then ?_ hbd)))); (focus (refine k2.below ?_; (repeat (first | exact Below.refl _ _ | apply Below.drew | apply below_al | refine below_then ?_ hba | refine below_then ?_ hbd)))); (focus (first | exact hdx | exact dig_drew hdx)); exact k3; rintro e wd ⟨⟨R, ⟨Ay, cy, zy, rfl, hdy, hvy⟩, hR1, hR2⟩, hbd⟩; have HVY := Lib.hid hvy; have HR2 := Lib.hid hR2; clear hvy hR2)
        | (go_at_call 163; (with_reducible refine (trim_gives _ _ _ zy _ ?_ ?_).mono ?_); (focus (first | exact hdy | exact dig_drew hdy)); (focus omega); rintro e wt ⟨⟨At, mt, ct, zt, rfl, hdt, htt, hvt⟩, rfl⟩; have HVT := Lib.hid hvt; clear hvt))
      go_wp2_with fail
      have hDlt : D < W.heap.size := (Array.getElem?_eq_some_iff.1 hdef).1
      have hbW : Below W.heap.size W wd := by (repeat (first | exact Below.refl _ _ | apply Below.drew | apply below_al | refine below_then ?_ hba | refine below_then ?_ hbd))
      have hK' : wd.heap[D]? = some (.deferred (some [])) := (hbW.block D hDlt).trans hdef
      have hwD : w.heap.size ≤ D := Nat.le_trans (Nat.le_trans hb25.size hbw8.size) hD
      refine ⟨by simp, .inl ⟨_, _, rfl, run_takeDeferred hK', ?_⟩⟩
      refine ⟨.slice At mt ct, ?_, ⟨At, mt, ct, zt, rfl, dig_kept hdt (grownBy_putObj' _ D (.deferred none)) (fun r e => by cases e; exact ⟨_, hK', rfl⟩), htt, ?_⟩, (below_then (below_then hb25 k7) hbW).trans (belowK_b (w := w) (Nat.le_refl _) _ D _ _ hwD hK' rfl rfl)⟩
      · simp [results, Tryz.f165]
      · rw [HVT.out, HVY.out]
        have h1 := mstep_end hcop k4.out (by rw [HR2.out, HVX.out]; rfl) hR1
        rw [h1, HXS.out, horner_binL]

end Go.Proofs.YtebgmlbbilcbbaaGreatDoor
