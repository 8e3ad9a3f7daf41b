/- Joined by a program: LiS, LiT, LiU, LiV. -/
import Derived.Test.YtkpinmejfdnhbaaGreatDoorLwE
set_option maxRecDepth 100000
set_option maxHeartbeats 4000000
namespace Go.Proofs.YtkpinmejfdnhbaaGreatDoor
open Go.RowKit
attribute [local go_sem] Oper.semAt_some
theorem flatI_set : ∀ (xs : List Int) (j : Nat) (y : Int), (xs.flatMap encI).set j (.int .i64 y) = (xs.set j y).flatMap encI
 | [], _, _ => rfl
 | x :: xs, 0, y => rfl
 | x :: xs, j + 1, y => by
   show (.int .i64 x :: (xs.flatMap encI)).set (j + 1) _ = .int .i64 x :: (xs.set j y).flatMap encI;rw [List.set_cons_succ, flatI_set xs j y]
theorem OwnI.stored {B g n c : Nat} {w : World} {xs : List Int} (h : OwnI B w (.slice (some ⟨g, 0, none⟩) n c) xs) (j : Nat) (y : Int) (hn : n = xs.length) : OwnI B (w.setCell ⟨g, j, none⟩ (.int .i64 y)) (.slice (some ⟨g, 0, none⟩) n c) (xs.set j y) := by
 subst hn;have := World.ownsRow.stored h j (.int .i64 y);unfold OwnI OwnL;rw [List.length_set, ← flatI_set];exact this.1
theorem OwnI.frozen {B g n c : Nat} {w : World} {xs : List Int} (h : OwnI B w (.slice (some ⟨g, 0, none⟩) n c) xs) (hn : n = xs.length) (j : Nat) : w.frozen? ⟨g, j, none⟩ = false := by
 subst hn;exact World.ownsRow.frozenAt h j
theorem OwnI.cell {B g n c : Nat} {w : World} {xs : List Int} (h : OwnI B w (.slice (some ⟨g, 0, none⟩) n c) xs) {j : Nat} {x : Int} (hx : xs[j]? = some x) : w.cell? ⟨g, j, none⟩ = some (.int .i64 x) := by
 have hr := OwnL.row_at h encI_len;obtain ⟨b, o, e, hc⟩ := hr.at_ (by rw [← hr.len]; have := (List.getElem?_eq_some_iff.1 hx).1; omega)
 cases e
 have := hc j 0 x _ hx rfl;rwa [Nat.mul_one, Nat.add_zero, Nat.zero_add] at this
theorem DealsOK.far {B : Nat} {w w' : World} {ds : List Dl} {P : List (List Nat)} {n : Nat} (h : DealsOK B w ds P n) {g : Nat} (hg : w.grownBy w' (some g)) (hB : g < B) : DealsOK B w' ds P n :=
 ⟨h.len, fun i d p hd hp => by
  have ho := h.one i d p hd hp;obtain ⟨bs, hb, hbl, h16⟩ := ho.box
  exact ⟨OwnL.kept ho.com hg (ho.com.block_fresh hB), ho.pt, bs, OwnL.kept hb hg (hb.block_fresh hB), hbl, h16⟩⟩
theorem DealsOK.le {B B' : Nat} {w : World} {ds : List Dl} {P : List (List Nat)} {n : Nat} (h : DealsOK B' w ds P n) (hB : B ≤ B') : DealsOK B w ds P n := ⟨h.len, fun i d p hd hp => (h.one i d p hd hp).le hB⟩
def sumQ (l : List Nat) : Nat := l.foldl (fun s y => (s + y) % qG) 0
theorem sumQ_snoc (l : List Nat) (y : Nat) : sumQ (l ++ [y]) = (sumQ l + y) % qG := by unfold sumQ; rw [List.foldl_append]; rfl
def accC (P : List (List Nat)) (need : Nat) : List Nat := (List.range need).map fun j => sumQ (colN P j)
theorem accC_len (P : List (List Nat)) (need : Nat) : (accC P need).length = need := by simp [accC]
theorem accC_get {P : List (List Nat)} {need j : Nat} (h : j < need) : (accC P need)[j]? = some (sumQ (colN P j)) := by simp [accC, h]
theorem accC_nil (need : Nat) : accC [] need = List.replicate need 0 := by
 apply List.ext_getElem?
 intro j
 by_cases h : j < need
 ·rw [accC_get h, List.getElem?_replicate_of_lt h]; rfl
 ·rw [List.getElem?_eq_none (by rw [accC_len]; omega), List.getElem?_eq_none (by rw [List.length_replicate]; omega)]
def midC (P Q : List (List Nat)) (need j : Nat) : List Nat := (accC Q need).take j ++ (accC P need).drop j
theorem midC_len (P Q : List (List Nat)) {need j : Nat} (h : j ≤ need) : (midC P Q need j).length = need := by
 unfold midC; rw [List.length_append, List.length_take, List.length_drop, accC_len, accC_len]; omega
theorem midC_zero (P Q : List (List Nat)) (need : Nat) : midC P Q need 0 = accC P need := by simp [midC]
theorem midC_end (P Q : List (List Nat)) (need : Nat) : midC P Q need need = accC Q need := by
 unfold midC;rw [List.take_of_length_le (by rw [accC_len]; exact Nat.le_refl _), List.drop_of_length_le (by rw [accC_len]; exact Nat.le_refl _), List.append_nil]
theorem midC_get {P Q : List (List Nat)} {need j : Nat} (h : j < need) : (midC P Q need j)[j]? = some (sumQ (colN P j)) := by
 unfold midC;rw [List.getElem?_append_right (by rw [List.length_take]; omega), List.length_take, accC_len, Nat.min_eq_left (by omega), Nat.sub_self, List.getElem?_drop, Nat.add_zero, accC_get h]
theorem midC_set {P : List (List Nat)} {p : List Nat} {need j : Nat} (h : j < need) : (midC P (P ++ [p]) need j).set j ((sumQ (colN P j) + p.getD j 0) % qG) = midC P (P ++ [p]) need (j + 1) := by
 have e : sumQ (colN (P ++ [p]) j) = (sumQ (colN P j) + p.getD j 0) % qG := by
  unfold colN;rw [List.map_append, List.map_singleton, sumQ_snoc]
 rw [← e];unfold midC;have hl : ((accC (P ++ [p]) need).take j).length = j := by rw [List.length_take, accC_len]; omega
 rw [List.set_append_right _ _ (by omega), hl, Nat.sub_self, drop_cons' (accC_get h), List.set_cons_zero, List.take_add_one, accC_get h]
 simp
theorem intsN_set (l : List Nat) (j y : Nat) : (intsN l).set j (y : Int) = intsN (l.set j y) := by simp [intsN, List.map_set]
def grpA (a b c d e : Value) : Array Value := #[a, b, c, d, e]
structure GrpW (B : Nat) (w : World) (a b c d e : Value) (ms : List Mem) (ss cf : List Nat) : Prop where
 L : OwnM B w a ms
 S : OwnI B w b (intsN ss)
 C : OwnI B w c (intsN cf)
 K : OwnI B w d (intsN (cf.map gP))
 P : ∃ vs, OwnV B w e vs ∧ ListI B w vs (pointsL 1 ms)
structure GrpOK (first : Nat) (ms : List Mem) (ss cf : List Nat) : Prop where
 crew : CrewOK first ms ss
 lo : 1 ≤ ms.length
 hi : ms.length ≤ 4
 len : cf.length = needN (totW ms).toNat
 lt : ∀ c ∈ cf, c < qG
theorem GrpW.below {B : Nat} {w w' : World} {a b c d e : Value} {ms : List Mem} {ss cf : List Nat} (h : GrpW B w a b c d e ms ss cf) (hb : Below w.heap.size w w') : GrpW B w' a b c d e ms ss cf :=
 ⟨h.L.below hb, h.S.below hb, h.C.below hb, h.K.below hb, let ⟨vs, x, y⟩ := h.P; ⟨vs, x.below hb, y.below hb⟩⟩
theorem crew_right {first : Nat} {ms : List Mem} {ss : List Nat} (h : CrewOK first ms ss) (h1 : 1 ≤ ms.length) (h2 : ms.length ≤ 4) (hf : first ≤ 1000000) : RightM ms ∧ Keyed8 ms ∧ I64M ms ∧ totW ms ≤ 12 := by
 have hone : ∀ m ∈ ms, ∃ i, i < ms.length ∧ m.id = ((first + i : Nat) : Int) ∧ 1 ≤ m.wt ∧ m.wt ≤ 3 ∧ ∃ s : Nat, 1 ≤ s ∧ s < qG ∧ m.pub = ((gP s : Nat) : Int) := fun m hm => by
  obtain ⟨i, hi, rfl⟩ := List.getElem_of_mem hm;obtain ⟨a, b, c, s, _, d, e, f⟩ := h.one i _ (List.getElem?_eq_getElem hi);exact ⟨i, hi, a, b, c, s, d, e, f⟩
 have htot : ∀ l : List Mem, (∀ m ∈ l, m.wt ≤ 3) → totW l ≤ 3 * (l.length : Int) := fun l => by
  induction l with
  | nil => intro _; simp [totW]
  | cons m l ih =>
    intro hl;have h1 := ih fun x hx => hl x (List.mem_cons_of_mem _ hx);have h2 := hl m (List.mem_cons_self ..);simp only [totW, List.map_cons, List.sum_cons, List.length_cons] at h1 ⊢
    omega
 have ht := htot ms fun m hm => by obtain ⟨_, _, _, _, h3, _⟩ := hone m hm; exact h3
 have hok : ∀ k, k ≤ ms.length → okB ms k = true := fun k => by
  induction k with
  | zero => intro _; rfl
  | succ k ih =>
    intro hk;have hm := List.getElem?_eq_getElem (show k < ms.length by omega);rw [okB_succ hm, ih (by omega)];obtain ⟨a, b, c, -⟩ := h.one k _ hm;rw [goodW_iff.2 ⟨b, by omega⟩];simp only [Bool.true_and];unfold firstB;rw [List.all_eq_true];intro x hx;obtain ⟨j, hj, rfl⟩ := List.getElem_of_mem hx;rw [List.length_take] at hj;rw [List.getElem_take];obtain ⟨a', -⟩ := h.one j _ (List.getElem?_eq_getElem (show j < ms.length by omega));simp only [bne_iff_ne, ne_eq];intro e;rw [a, a'] at e
    omega
 have hR : RightM ms := ⟨h1, by omega, hok _ (Nat.le_refl _), by omega⟩;refine ⟨hR, ⟨hR, fun m hm => ?_, fun m hm => ?_⟩, fun m hm => ?_, by omega⟩
 ·obtain ⟨i, hi, e, -⟩ := hone m hm
  omega
 ·obtain ⟨_, _, _, _, _, s, _, hs, e⟩ := hone m hm;exact ⟨s, hs, e⟩
 ·obtain ⟨i, hi, e, b, c, s, _, hs, e2⟩ := hone m hm;have := gP_lt s (Nat.lt_trans hs qG_64);have e3 := pG_lit;exact ⟨⟨by omega, by omega⟩, ⟨by omega, by omega⟩, ⟨by omega, by omega⟩⟩
theorem dot_ones : ∀ (l : List Nat) (s : Nat), (∀ y ∈ l, y < qG) → dotN (onesL l.length) l s = l.foldl (fun s y => (s + y) % qG) s
 | [], _, _ => rfl
 | y :: l, s, h => by
   show dotN (onesL l.length) l ((s + 1 * y % qG) % qG) = l.foldl _ ((s + y) % qG);rw [Nat.one_mul, Nat.mod_eq_of_lt (h y (List.mem_cons_self ..)), dot_ones l _ fun z hz => h z (List.mem_cons_of_mem _ hz)]
theorem mix_ones {P : List (List Nat)} {need : Nat} (hP : PolyOK P need) : mixL (onesL P.length) P need = (accC P need).map gP := by
 unfold mixL accC;rw [List.map_map];refine List.map_congr_left fun j hj => ?_;have hj' := List.mem_range.1 hj;have hlt : ∀ y ∈ colN P j, y < qG := fun y hy => by
  obtain ⟨p, hp, rfl⟩ := List.mem_map.1 hy;have hl := hP.len p hp;rw [List.getD_eq_getElem?_getD, List.getElem?_eq_getElem (by omega), Option.getD_some];exact hP.lt p hp _ (List.getElem_mem _)
 have hl : (colN P j).length = P.length := by simp [colN]
 rw [colG_eq, show (1 : Nat) = gP 0 from gP_zero.symm, mix_gP _ _ _ hlt (fun f hf => by rw [(List.mem_replicate.1 hf).2]; exact qG_gt) qG_pos, ← hl, dot_ones _ _ hlt]
 rfl
theorem polysL_ok (seed : List UInt8) (need : Nat) (ms : List Mem) : PolyOK (polysL seed need ms) need :=
 ⟨fun p hp => by obtain ⟨m, _, rfl⟩ := List.mem_map.1 hp; exact polyL_len _ _, fun p hp => by obtain ⟨m, _, rfl⟩ := List.mem_map.1 hp; exact polyL_lt _ _⟩
def MadePost (w : World) (e : Ending) (w' : World) : Prop :=
 ∃ (a b c d f : Value) (ms : List Mem) (ss cf : List Nat), e = .returned (.agg (grpA a b c d f)) ∧ GrpW w.heap.size w' a b c d f ms ss cf ∧ GrpOK 1 ms ss cf ∧ Below w.heap.size w w'
abbrev firstS : ByteArray := ⟨#[102, 105, 114, 115, 116]⟩
theorem grp_size : (Tryz.prog.info? 59).map (·.size) = some 5 := by kernel_rfl
theorem low_apart {u v : Value} {B : Nat} (h1 : ∀ j, u.ownBlock = some j → j < B) (h2 : ∀ j, v.ownBlock = some j → B ≤ j) : u.ownBlock = none ∨ u.ownBlock ≠ v.ownBlock := by
 cases hu : u.ownBlock with
 | none => exact .inl rfl
 | some j => exact .inr fun e => by have := h1 j hu; have := h2 j e.symm; omega
theorem foldq_lt : ∀ (l : List Nat) (s : Nat), s < qG → l.foldl (fun s y => (s + y) % qG) s < qG
 | [], _, h => h
 | _ :: l, _, _ => foldq_lt l _ (Nat.mod_lt _ qG_pos)
theorem accC_lt {P : List (List Nat)} {need : Nat} : ∀ c ∈ accC P need, c < qG := fun c hc => by
 obtain ⟨j, -, rfl⟩ := List.mem_map.1 hc;exact foldq_lt _ _ qG_pos
theorem OwnI.at0 {B : Nat} {w : World} {v : Value} {xs : List Int} (h : OwnI B w v xs) (hx : 0 < xs.length) : ∃ g c, v = .slice (some ⟨g, 0, none⟩) xs.length c ∧ B ≤ g ∧ g < w.heap.size := by
 have hlt := own_lt h
 rcases h.2 with ⟨rfl, h0⟩ | ⟨g, cap, cur, rfl, hB, _⟩
 ·omega
 ·exact ⟨g, cap, rfl, hB, hlt g rfl⟩
theorem rMade8_q (A : Option Addr) (n c : Nat) (xs : List Int) (hn : n ≤ 9223372036854775807) (hI : ∀ x ∈ xs, I64 x) (w : World) (hr : RowI w A n c xs) :
 Calls Tryz.prog 44 #[.slice A n c] w (MadePost w) := by
 have HR := Lib.hid hr;have m1 : Hid (∀ W, RowI W A n c xs → Calls Tryz.prog 45 #[.slice A n c, .int .i64 1] W (CrewPost 1 W)) := Lib.hid (fun W h => Crew_q A n c xs 1 hn (by omega) hI W h);clear hr hI;go_enter Tryz.func44, Tryz.ntmps44;go_upto_region 1 with fail;refine name1p ?_;intro W0 k2 hB;obtain ⟨p2, hp2⟩ : ∃ g, g = w.heap.size := ⟨_, rfl⟩;rw [← hp2] at k2 ⊢;have hgB : w.heap.size ≤ p2 := by omega
 clear hp2
 go_upto_region 3 with (first
  | (go_at_call 45; (refine (m1.out _ (HR.out.below hB)).mono ?_); rintro e w1 ⟨v1, v2, ms, ss, rfl, hoM, hoS, hC, hlo, hhi, hb⟩; replace hoM := hoM.le hB.size; replace hoS := hoS.le hB.size; replace k2 := k2.below hb k2.lt; replace hB := below_then hB hb; clear hb; obtain ⟨A1, c1, rfl, -⟩ := OwnL.row hoM encM_len; obtain ⟨A2, c2, rfl, -⟩ := OwnL.row hoS encI_len))
 refine name1p ?_;intro W3 k5 hb3;obtain ⟨p5, hp5⟩ : ∃ g, g = w1.heap.size := ⟨_, rfl⟩;rw [← hp5] at k5 ⊢;have h25 : p2 ≠ p5 := by have := k2.lt; omega
 have h5B : w.heap.size ≤ p5 := by have := hB.size; omega
 replace k2 := k2.below hb3 k2.lt;replace hoM := hoM.below hb3;replace hoS := hoS.below hb3;replace hB := below_then hB hb3;clear hp5;obtain ⟨Bc, hBc⟩ : ∃ B, B = W3.heap.size := ⟨_, rfl⟩;have hwB : w.heap.size ≤ Bc := by have := hB.size; omega
 have hSlt : ∀ j, (Value.slice A2 (intsN ss).length c2).ownBlock = some j → j < Bc := fun j e => by have := own_lt hoS j e; omega
 obtain ⟨hRM, hK8, hI64, ht12⟩ := crew_right hC hlo hhi (by omega);obtain ⟨e1, e2, e3⟩ := totR_right hRM;obtain ⟨T, hT⟩ : ∃ T : Nat, totW ms = (T : Int) := ⟨(totW ms).toNat, by omega⟩;have HT := Lib.hid hT;rw [hT] at e1 e2 e3 ht12;have q1 := Lib.hid (fun W h => rtotal_q A1 ms.length c1 ms (by omega) hI64 W h);rw [e1] at q1;have q2 := Lib.hid (rNeed_q T (by omega));obtain ⟨N, hN, hN1, hN2⟩ : ∃ N, N = needN T ∧ 1 ≤ N ∧ N ≤ 12 := ⟨needN T, rfl, by unfold needN; split <;> omega, by unfold needN; split <;> omega⟩;rw [← hN] at q2;have q3 := Lib.hid (fun W h => rDealings_q A1 ms.length c1 ms firstS hK8 hI64 (by decide) W h);rw [hT, Int.toNat_natCast, ← hN] at q3;obtain ⟨P, hP⟩ := exq (polysL firstS.data.toList N ms);have hPok : PolyOK P N := by rw [hP]; exact polysL_ok _ _ _
 have hPl : P.length = ms.length := by rw [hP]; simp [polysL]
 have q4 := Lib.hid (fun (A2 : Option Addr) (c2 : Nat) (ds : List Dl) (B : Nat) W h1 h2 h3 => rBegin_q A1 A2 ms.length c1 ms.length c2 ms ds P T B hRM hI64 hT hlo (by omega) (hN ▸ hPok) W h1 h2 h3);have q5 := Lib.hid (fun (t : ByteArray) (ht : t.size ≤ 100000) W => rPolynomial_q t N ht (by omega) W);rw [← hN] at q4;have HK := Lib.hid (And.intro hC (And.intro hN (And.intro hP hPok)));have hid : ∀ (i : Nat) (m : Mem), ms[i]? = some m → m.id = ((1 + i : Nat) : Int) := fun i m h => (hC.one i m h).1;have HID := Lib.hid hid;clear hid hC hN hP hPok hRM hK8 hI64 hT e1 hb3 m1 HR
 go_upto_region 4 with (first
  | (go_at_call 91; (with_reducible refine (q1.out _ (OwnL.row_at hoM encM_len)).mono ?_); rintro e w4 ⟨rfl, hb⟩; replace k2 := k2.below hb k2.lt; replace k5 := k5.below hb k5.lt; replace hoM := hoM.below hb; replace hoS := hoS.below hb; have hcB := Nat.le_trans (Nat.le_of_eq hBc) hb.size; replace hB := below_then hB hb; clear hb)
  | (go_at_call 90; (with_reducible refine (q2.out _).mono ?_); rintro e w5 ⟨rfl, hww⟩; obtain rfl := hww.symm))
 clear q1 q2 hBc;go_wp2_with fail
 go_loopw [7] (fun s7 wr => ∃ (i : Nat) (v : Value), i ≤ N ∧ s7 = .int .i64 (i : Int) ∧ OwnI Bc wr v (intsN (List.replicate i 0)) ∧ Blk wr p5 59 #[.slice A1 ms.length c1, .slice A2 (intsN ss).length c2, v, .slice none 0 0, .slice none 0 0] ∧ Blk wr p2 59 #[.slice none 0 0, .slice none 0 0, .slice none 0 0, .slice none 0 0, .slice none 0 0] ∧ OwnM w.heap.size wr (.slice A1 ms.length c1) ms ∧ OwnI w.heap.size wr (.slice A2 (intsN ss).length c2) (intsN ss) ∧ Bc ≤ wr.heap.size ∧ Below w.heap.size w wr) (fun s7 _ => N - (intOf s7).toNat)
 case atStart => exact ⟨0, _, by omega, rfl, OwnL.nil_ _ _ _ _ _, k5, k2, hoM, hoS, hcB, hB⟩
 case round =>
  clear k5 k2 hoM hoS hcB hB;obtain ⟨i, v, hi, rfl, ho, k5, k2, hoM, hoS, hcB, hB⟩ := hrel
  by_cases hlt : i < N
  ·have hlt' : (i : Int) < (N : Int) := by omega
   have g2 : _ = some v := k5.cell 2;have hll : (intsN (List.replicate i 0)).length ≤ 100 := by rw [intsN_len, List.length_replicate]; omega
   have hL6 : (intsN (List.replicate i 0) ++ [0]).length = i + 1 := by rw [List.length_append, intsN_len, List.length_replicate]; rfl
   go_wp2_with (refine wp_append_row (enc := encI) Tryz.underlying25 int_info rfl (by decide) (by decide) rfl _ _ rfl (0 : Int) rfl rfl (encI_one _) rfl ho rfl (by omega) hcB ?_; intro v6 w6 ho6 hg6; have k56 := k5.grown hg6 (own_ty ho k5 (by decide)); have k26 := k2.grown hg6 (own_ty ho k2 (by decide)); have hoM6 := OwnL.kept hoM hg6 (rows_apart hoM ho (by decide)); have hoS6 := OwnL.kept hoS hg6 (low_apart hSlt (own_high ho)); have hB6 := hB.grown hg6 hB.size (fun j e => Nat.le_trans hwB (own_high ho j e)); have hcB6 := Nat.le_trans hcB hg6.size; obtain ⟨A6, c6, hv6, -⟩ := OwnL.row ho6 encI_len; rw [hL6] at hv6; subst hv6; have x2 := k56.cell 2; have y2 := k56.frozen 2);have kS : Blk _ p5 59 #[.slice A1 ms.length c1, .slice A2 (intsN ss).length c2, .slice A6 (i + 1) c6, .slice none 0 0, .slice none 0 0] := k56.set_ 2 _;have hgS := grown_set (grown_refl w6 (some p5)) 2 (.slice A6 (i + 1) c6);go_wp2_with fail;go_roundw
   case rel => exact ⟨i + 1, _, by omega, by go_num, by rw [List.replicate_succ', intsN_snoc]; exact OwnL.kept ho6 hgS (.inr (Ne.symm (own_ty ho6 k56 (by decide)))), kS, k26.grown hgS (fun e => h25 (Option.some.inj e)), OwnL.kept hoM6 hgS (.inr (Ne.symm (own_ty hoM6 k56 (by decide)))), OwnL.kept hoS6 hgS (.inr (Ne.symm (own_ty hoS6 k56 (by decide)))), Nat.le_trans hcB6 hgS.size, hB6.grown hgS hB6.size (fun j e => by cases e; exact h5B)⟩
   case measure => simp [intOf]; omega
  ·obtain rfl : N = i := by omega
   obtain ⟨gc, cc, rfl, hgc1, hgc2⟩ := OwnI.at0 ho (by rw [intsN_len, List.length_replicate]; omega);have hLc : (intsN (List.replicate N 0)).length = N := by rw [intsN_len, List.length_replicate]
   rw [hLc] at ho k5;clear hLc;have hgcB : w.heap.size ≤ gc := by omega
   obtain ⟨Bd, hBd⟩ : ∃ B, B = wr.heap.size := ⟨_, rfl⟩;have hDB : gc < Bd := by omega
   have hacc := (accC_nil N).symm;rw [hacc] at ho;clear hacc;have g0 : _ = some (Value.slice A1 ms.length c1) := k5.cell 0
   go_wp2_with (first
    | (go_at_call 92; (with_reducible refine (q3.out _ (OwnL.row_at hoM encM_len)).mono ?_); rintro e w4 ⟨vd, ds, rfl, hod, hD, hb⟩; replace hod := hod.le hB.size; replace hD : DealsOK Bd _ ds P T := (by rw [HK.out.2.2.1]; exact hD.le (Nat.le_of_eq hBd)); replace k2 := k2.below hb k2.lt; replace k5 := k5.below hb k5.lt; replace ho := ho.below hb; replace hoM := hoM.below hb; replace hoS := hoS.below hb; replace hB := below_then hB hb; clear hb g0))
   clear q3 hBd hgc2;obtain ⟨p1, hp1⟩ : ∃ p : Hid (∀ a b : Nat, RetS 95 #[.int .i64 (a : Int), .int .i64 (b : Int), .int .i64 1152921504606845789] (.int .i64 (((a + b) % qG : Nat) : Int))), True := ⟨Lib.hid rAddQ_q, trivial⟩;clear hp1;have hPi : P.take 0 = [] := rfl;rw [← hPi] at ho;clear hPi;obtain ⟨hAc, hAc2⟩ : (Value.slice (some ⟨gc, 0, none⟩) N cc).ownBlock = some gc ∧ True := ⟨rfl, trivial⟩;have hbc : (Value.slice A2 (intsN ss).length c2).ownBlock ≠ some gc := fun e => by have := hSlt gc e; omega
   clear hAc hAc2;obtain ⟨Ad, cd, rfl, -⟩ := OwnL.row hod encD_len;have hdl : ds.length = ms.length := by rw [hD.len, hPl]
   rw [hdl] at hod ⊢;clear hdl;go_wp2_with fail
   go_loopw [9, 10, 11] (fun s9 s10 s11 wr => ∃ i : Nat, i ≤ ms.length ∧ s9 = .int .i64 (i : Int) ∧ OwnI Bc wr (.slice (some ⟨gc, 0, none⟩) N cc) (intsN (accC (P.take i) N)) ∧ Blk wr p5 59 #[.slice A1 ms.length c1, .slice A2 (intsN ss).length c2, .slice (some ⟨gc, 0, none⟩) N cc, .slice none 0 0, .slice none 0 0] ∧ Blk wr p2 59 #[.slice none 0 0, .slice none 0 0, .slice none 0 0, .slice none 0 0, .slice none 0 0] ∧ OwnM w.heap.size wr (.slice A1 ms.length c1) ms ∧ OwnI w.heap.size wr (.slice A2 (intsN ss).length c2) (intsN ss) ∧ OwnD w.heap.size wr (.slice Ad ms.length cd) ds ∧ DealsOK Bd wr ds P T ∧ Below w.heap.size w wr) (fun s9 _ _ _ => ms.length - (intOf s9).toNat)
   case atStart => exact ⟨0, by omega, rfl, ho, k5, k2, hoM, hoS, hod, hD, hB⟩
   case round =>
    clear k5 k2 hoM hoS hod hD hB ho;obtain ⟨i, hi, rfl, ho, k5, k2, hoM, hoS, hod, hD, hB⟩ := hrel
    by_cases hlt : i < ms.length
    ·have hlt' : (i : Int) < (ms.length : Int) := by omega
     obtain ⟨b, o, m, rfl, hm, c0, -⟩ := RowM.get (OwnL.row_at hoM encM_len) hlt;have hid := HID.out i m hm;rw [hid] at c0;obtain ⟨f, hf⟩ := exq (1 + i);rw [← hf] at c0 hid;have hpi : P[i]? = some (polyL (seedOf firstS.data.toList f) N) := by
      rw [HK.out.2.2.1];unfold polysL;rw [List.getElem?_map, hm, Option.map_some, hid, Int.toNat_natCast]
     clear hm hid;have m3 := Lib.hid (rText8_q f (by omega));have hds := decS_20 (n := f) (by omega);have hdd := decS_list f;generalize decS f = d at *;obtain ⟨t1, ht1⟩ : ∃ t : ByteArray, (⟨#[102, 105, 114, 115, 116, 32]⟩ : ByteArray) ++ d = t := ⟨_, rfl⟩;have z1 : t1.size = 6 + d.size := by rw [← ht1, ByteArray.size_append]; rfl
     have hl1 : t1.data.toList = seedOf firstS.data.toList f := by
      rw [← ht1];simp only [ByteArray.data_append, Array.toList_append, hdd]
      rfl
     have q6 := Lib.hid (fun W => q5.out t1 (by omega) W);have n1 : (9223372036854775807 < 6 + d.size) = False := by simp only [eq_iff_iff, iff_false]; omega
     obtain ⟨p, hp⟩ := exq (polyL (seedOf firstS.data.toList f) N);have hpl : p.length = N := by rw [hp, polyL_len]
     rw [← hp] at hpi;have HPP : Hid (polyL t1.data.toList N = p) := Lib.hid (by rw [hp, hl1]);have HPI := Lib.hid hpi;clear hp hl1 hdd hpi z1 hf;have hwi : IntKind.i64.wrap (i : Int) = (i : Int) := IntWalk.i64_in _ (by omega)
     go_upto_region 13 with (first
      | (go_at_call 94; (with_reducible refine (m3.out _).mono ?_); rintro e w5 ⟨rfl, hb⟩; replace ho := ho.below hb; replace hD := hD.below hb; replace hod := hod.below hb; replace k2 := k2.below hb k2.lt; replace k5 := k5.below hb k5.lt; replace hoM := hoM.below hb; replace hoS := hoS.below hb; replace hB := below_then hB hb; clear hb c0)
      | (go_at_call 93; (try rw [ht1]); (refine (q6.out _).mono ?_); rintro e w6 ⟨vp, rfl, hop, hb⟩; have hgp := own_lt ho gc rfl; replace hop := hop.le (Nat.succ_le_of_lt hgp); replace ho := ho.below hb; replace hD := hD.below hb; replace hod := hod.below hb; replace k2 := k2.below hb k2.lt; replace k5 := k5.below hb k5.lt; replace hoM := hoM.below hb; replace hoS := hoS.below hb; replace hB := below_then hB hb; clear hb hgp))
     rw [HPP.out] at hop;obtain ⟨Ap, cp, hvp, -⟩ := OwnL.row hop encI_len;rw [intsN_len, hpl] at hvp;subst hvp;clear q6 m3;have hz := (midC_zero (P.take i) (P.take i ++ [p]) N).symm;rw [hz] at ho;clear hz;go_wp2_with fail
     go_loopw [11] (fun s11 wr => ∃ j : Nat, j ≤ N ∧ s11 = .int .i64 (j : Int) ∧ OwnI Bc wr (.slice (some ⟨gc, 0, none⟩) N cc) (intsN (midC (P.take i) (P.take i ++ [p]) N j)) ∧ Blk wr p5 59 #[.slice (some ⟨b, o, none⟩) ms.length c1, .slice A2 (intsN ss).length c2, .slice (some ⟨gc, 0, none⟩) N cc, .slice none 0 0, .slice none 0 0] ∧ Blk wr p2 59 #[.slice none 0 0, .slice none 0 0, .slice none 0 0, .slice none 0 0, .slice none 0 0] ∧ OwnI (gc + 1) wr (.slice Ap N cp) (intsN p) ∧ OwnM w.heap.size wr (.slice (some ⟨b, o, none⟩) ms.length c1) ms ∧ OwnI w.heap.size wr (.slice A2 (intsN ss).length c2) (intsN ss) ∧ OwnD w.heap.size wr (.slice Ad ms.length cd) ds ∧ DealsOK Bd wr ds P T ∧ Below w.heap.size w wr) (fun s11 _ => N - (intOf s11).toNat)
     case atStart => exact ⟨0, by omega, rfl, ho, k5, k2, hop, hoM, hoS, hod, hD, hB⟩
     case round =>
      clear k5 k2 hoM hoS hod hD hB ho hop;obtain ⟨j, hj, rfl, ho, k5, k2, hop, hoM, hoS, hod, hD, hB⟩ := hrel
      by_cases hltj : j < N
      ·have hltj' : (j : Int) < (N : Int) := by omega
       obtain ⟨bp, op, y, rfl, hy, cy⟩ := rowN_at (rowN_own hop) hltj;have hg := midC_get (P := P.take i) (Q := P.take i ++ [p]) hltj;obtain ⟨a, ha⟩ := exq (sumQ (colN (P.take i) j));rw [← ha] at hg;have ca := OwnI.cell ho (j := j) (x := (a : Int)) (by unfold intsN; rw [List.getElem?_map, hg]; rfl);obtain ⟨z, hz⟩ := exq ((a + y) % qG)
       have HS : Hid ((intsN (midC (P.take i) (P.take i ++ [p]) N j)).set j (z : Int) = intsN (midC (P.take i) (P.take i ++ [p]) N (j + 1))) := Lib.hid (by
        rw [intsN_set, ← midC_set hltj, hz, ha, List.getD_eq_getElem?_getD, hy]
        rfl)
       have pA := Lib.hid (p1.out a y);rw [← hz] at pA;have hfz : wr.drew.frozen? ⟨gc, j, none⟩ = false := OwnI.frozen ho (by rw [intsN_len, midC_len _ _ hj]) j;have g2 : wr.drew.cell? ⟨p5, 2, none⟩ = some (.slice (some ⟨gc, 0, none⟩) N cc) := k5.cell 2;have g3 : wr.drew.cell? ⟨gc, j, none⟩ = some (.int .i64 (a : Int)) := ca;have g4 : wr.drew.cell? ⟨bp, op + j, none⟩ = some (.int .i64 (y : Int)) := cy;have hwj : IntKind.i64.wrap (j : Int) = (j : Int) := IntWalk.i64_in _ (by omega);have hlj : (intsN (midC (P.take i) (P.take i ++ [p]) N j)).length = N := by rw [intsN_len, midC_len _ _ hj]
       have hod2 : OwnI Bc wr.drew (.slice (some ⟨gc, 0, none⟩) N cc) (intsN (midC (P.take i) (P.take i ++ [p]) N j)) := ho;have k5d : Blk wr.drew p5 59 _ := k5;have k2d : Blk wr.drew p2 59 _ := k2;have hopd : OwnI (gc + 1) wr.drew (.slice (some ⟨bp, op, none⟩) N cp) (intsN p) := hop;have hpc : (Value.slice (some ⟨bp, op, none⟩) N cp).ownBlock ≠ some gc := fun e => by have := own_high hop gc e; omega
       have had : OwnM w.heap.size wr.drew (.slice (some ⟨b, o, none⟩) ms.length c1) ms := hoM;have hbd : OwnI w.heap.size wr.drew (.slice A2 (intsN ss).length c2) (intsN ss) := hoS;have hdd : OwnD w.heap.size wr.drew (.slice Ad ms.length cd) ds := hod;have hDd : DealsOK Bd wr.drew ds P T := hD.below (Below.refl _ _).drew;have hBd : Below w.heap.size w wr.drew := hB.drew;clear hz ha hg ca cy hy k5 k2 ho hop hoM hoS hod hD hB;go_upto_region 16 with fail;refine region_here (fun Z => Z.cell? ⟨p5, 2, none⟩ = some (.slice (some ⟨gc, 0, none⟩) N cc) ∧ Z.cell? ⟨gc, j, none⟩ = some (.int .i64 (a : Int)) ∧ Z.cell? ⟨bp, op + j, none⟩ = some (.int .i64 (y : Int))) 14 (by kernel_rfl) ⟨g2, g3, g4⟩ (fun hHeld => ?_);refine tkT 0 rfl ?_;refine tkT 1 rfl ?_;refine tkT 2 rfl ?_;refine tkT 3 rfl ?_;refine tkT 4 rfl ?_;refine tkT 5 rfl ?_;refine tkT 6 rfl ?_;refine tkT 7 rfl ?_;refine tkT 8 rfl ?_;refine tkT 9 rfl ?_;refine tkT 10 rfl ?_;refine tkT 11 rfl ?_;refine tkO 12 rfl fun K hK => ?_;go_simp;go_at_call 95;refine (pA.out _).mono ?_;rintro e wa ⟨rfl, hww⟩
       (try go_wp2_with fail)
       obtain rfl := hww.symm;refine hK.out _ _ ?_ (fun hHeld12 => ?_)
       ·exact hHeld
       clear hK K
       try simp only [Act.put, pq1, pq2, pq3]
       refine tkT 13 rfl ?_;refine tkK 14 rfl fun K hK => ?_;have fz := hfz;go_simp;refine hK.out _ _ ?_;clear hK K
       try simp only [Act.put]
       refine tkD ?_;have hoS := OwnI.stored hod2 j z (by omega);have hgS := grown_set (grown_refl wr.drew (some gc)) j (.int .i64 (z : Int));have k5S := k5d.grown hgS (fun e => own_ty hod2 k5d (by decide) e);have k2S := k2d.grown hgS (fun e => own_ty hod2 k2d (by decide) e);have hopS := OwnL.kept hopd hgS (.inr (fun e => hpc e));have hBS := hBd.grown hgS hBd.size (fun i e => by cases e; exact hgcB);have haS := OwnL.kept had hgS (rows_apart had hod2 (by decide));have hbS := OwnL.kept hbd hgS (.inr hbc);have hdS := OwnL.kept hdd hgS (rows_apart hdd hod2 (by decide));have hDS := hDd.far hgS hDB;go_wp2_with fail;go_roundw
       case rel => exact ⟨j + 1, by omega, by go_num, by rw [← HS.out]; exact hoS, k5S, k2S, hopS, haS, hbS, hdS, hDS, hBS⟩
       case measure => simp [intOf]; omega
      ·obtain rfl : N = j := by omega
       rw [midC_end] at ho;have hPs : P.take i ++ [p] = P.take (i + 1) := by rw [List.take_add_one, HPI.out]; rfl
       rw [hPs] at ho;clear hPs;go_wp2_with fail;go_roundw
       case rel => exact ⟨i + 1, by omega, by go_num, ho, k5, k2, hoM, hoS, hod, hD, hB⟩
       case measure => simp [intOf]; omega
    ·obtain rfl : i = ms.length := by omega
     rw [List.take_of_length_le (by omega)] at ho;have g0 : _ = some (Value.slice A1 ms.length c1) := k5.cell 0
     go_upto_region 18 with (first
      | (go_at_call 96; (with_reducible refine (q4.out _ _ _ _ _ (OwnL.row_at hoM encM_len) (OwnL.row_at hod encD_len) hD).mono ?_); rintro e w7 ⟨vc, vp, vs, rfl, hoc, hov, hL, hb⟩; replace hoc := hoc.le hB.size; replace hov := hov.le hB.size; replace hL := hL.le hB.size; replace k2 := k2.below hb k2.lt; replace k5 := k5.below hb k5.lt; replace ho := ho.below hb; replace hoM := hoM.below hb; replace hoS := hoS.below hb; replace hB := below_then hB hb; clear hb g0; obtain ⟨Ac, cC, rfl, -⟩ := OwnL.row hoc encI_len; obtain ⟨Av, cv, rfl, -⟩ := OwnL.row hov encV_len; have f3 := k5.frozen 3; have f4 := k5.frozen 4; have x3 : _ = some (Value.slice none 0 0) := k5.cell 3; have x4 : _ = some (Value.slice none 0 0) := k5.cell 4))
     obtain ⟨vK, hvK⟩ : ∃ v, v = Value.slice Ac (intsN (mixL (onesL ms.length) P N)).length cC := ⟨_, rfl⟩;obtain ⟨vP, hvP⟩ : ∃ v, v = Value.slice Av vs.length cv := ⟨_, rfl⟩;have kS : Blk _ p5 59 #[.slice A1 ms.length c1, .slice A2 (intsN ss).length c2, .slice (some ⟨gc, 0, none⟩) N cc, .slice Ac (intsN (mixL (onesL ms.length) P N)).length cC, .slice Av vs.length cv] := (k5.set_ 3 (.slice Ac (intsN (mixL (onesL ms.length) P N)).length cC)).set_ 4 (.slice Av vs.length cv);have hgS := grown_set (grown_set (grown_refl w7 (some p5)) 3 (.slice Ac (intsN (mixL (onesL ms.length) P N)).length cC)) 4 (.slice Av vs.length cv);replace hoc := OwnL.kept hoc hgS (.inr (Ne.symm (own_ty hoc k5 (by decide))));replace hov := OwnL.kept hov hgS (.inr (Ne.symm (own_ty hov k5 (by decide))));replace hL := hL.far k5 (by decide) hgS;replace ho := OwnL.kept ho hgS (.inr (Ne.symm (own_ty ho k5 (by decide))));replace hoM := OwnL.kept hoM hgS (.inr (Ne.symm (own_ty hoM k5 (by decide))));replace hoS := OwnL.kept hoS hgS (.inr (Ne.symm (own_ty hoS k5 (by decide))));replace k2 := k2.grown hgS (fun e => h25 (Option.some.inj e));replace hB := hB.grown hgS hB.size (fun j e => by cases e; exact h5B);have hmx : mixL (onesL ms.length) P N = (accC P N).map gP := by rw [← hPl]; exact mix_ones HK.out.2.2.2
     obtain ⟨w8, hw8⟩ := exq ((w7.setCell ⟨p5, 3, none⟩ (.slice Ac (intsN (mixL (onesL ms.length) P N)).length cC)).setCell ⟨p5, 4, none⟩ (.slice Av vs.length cv));rw [← hw8] at kS hoc hov hL ho hoM hoS k2 hB ⊢;rw [hmx] at kS hoc;clear hw8 hgS hmx f3 f4 x3 x4 k5 hvK hvP q4 q5 hod hD;have c0 : _ = some (Value.slice A1 ms.length c1) := kS.cell 0;have c1' : _ = some (Value.slice A2 (intsN ss).length c2) := kS.cell 1;have c2' : _ = some (Value.slice (some ⟨gc, 0, none⟩) N cc) := kS.cell 2;have c3 : _ = some (Value.slice Ac (intsN ((accC P N).map gP)).length cC) := kS.cell 3;have c4 : _ = some (Value.slice Av vs.length cv) := kS.cell 4;have d0 : _ = some (Value.slice none 0 0) := k2.cell 0;have d1 : _ = some (Value.slice none 0 0) := k2.cell 1;have d2 : _ = some (Value.slice none 0 0) := k2.cell 2;have d3 : _ = some (Value.slice none 0 0) := k2.cell 3;have d4 : _ = some (Value.slice none 0 0) := k2.cell 4;have f0 := k2.frozen 0;have f1 := k2.frozen 1;have f2 := k2.frozen 2;have f3 := k2.frozen 3;have f4 := k2.frozen 4;go_wp2_with fail;have kR : Blk _ p2 59 (grpA (.slice A1 ms.length c1) (.slice A2 (intsN ss).length c2) (.slice (some ⟨gc, 0, none⟩) N cc) (.slice Ac (intsN ((accC P N).map gP)).length cC) (.slice Av vs.length cv)) := ((((k2.set_ 0 (.slice A1 ms.length c1)).set_ 1 (.slice A2 (intsN ss).length c2)).set_ 2 (.slice (some ⟨gc, 0, none⟩) N cc)).set_ 3 (.slice Ac (intsN ((accC P N).map gP)).length cC)).set_ 4 (.slice Av vs.length cv);have hgR := grown_set (grown_set (grown_set (grown_set (grown_set (grown_refl w8 (some p2)) 0 (.slice A1 ms.length c1)) 1 (.slice A2 (intsN ss).length c2)) 2 (.slice (some ⟨gc, 0, none⟩) N cc)) 3 (.slice Ac (intsN ((accC P N).map gP)).length cC)) 4 (.slice Av vs.length cv);refine bodyPost_ret (results_cell_row (p := 2) (ty := 59) rfl _ _ p2 _ (grpA (.slice A1 ms.length c1) (.slice A2 (intsN ss).length c2) (.slice (some ⟨gc, 0, none⟩) N cc) (.slice Ac (intsN ((accC P N).map gP)).length cC) (.slice Av vs.length cv)) (0, 0) _ rfl kR Tryz.underlying59 rfl grp_size) rfl ?_
     exact ⟨_, _, _, _, _, ms, ss, accC P N, rfl,
      ⟨OwnL.kept hoM hgR (.inr (Ne.symm (own_ty hoM k2 (by decide)))), OwnL.kept hoS hgR (.inr (Ne.symm (own_ty hoS k2 (by decide)))), OwnL.kept (ho.le hwB) hgR (.inr (Ne.symm (own_ty ho k2 (by decide)))), OwnL.kept hoc hgR (.inr (Ne.symm (own_ty hoc k2 (by decide)))), vs, OwnL.kept hov hgR (.inr (Ne.symm (own_ty hov k2 (by decide)))), hL.far k2 (by decide) hgR⟩,
      ⟨HK.out.1, hlo, hhi, by rw [accC_len, HT.out, Int.toNat_natCast]; exact HK.out.2.1, accC_lt⟩,
      hB.grown hgR hB.size (fun j e => by cases e; exact hgB)⟩
def facT (ps : List Nat) (x k : Nat) : Nat := ((ps.take k).filter (· ≠ x)).foldl (fun f y => f * (y * invN ((y + (qG - x)) % qG) % qG) % qG) 1
theorem facT_zero (ps : List Nat) (x : Nat) : facT ps x 0 = 1 := rfl
theorem facT_end (ps : List Nat) (x : Nat) {k : Nat} (h : ps.length ≤ k) : facT ps x k = facN ps x := by
 unfold facT facN;rw [List.take_of_length_le h]
theorem facT_same {ps : List Nat} {x k : Nat} (h : ps[k]? = some x) : facT ps x (k + 1) = facT ps x k := by
 unfold facT;rw [List.take_add_one, h, List.filter_append]
 simp
theorem facT_step {ps : List Nat} {x y k : Nat} (h : ps[k]? = some y) (hne : y ≠ x) : facT ps x (k + 1) = facT ps x k * (y * invN ((y + (qG - x)) % qG) % qG) % qG := by
 unfold facT;rw [List.take_add_one, h, List.filter_append, List.foldl_append];have e : List.filter (fun z => decide (z ≠ x)) (some y).toList = [y] := by simp [hne]
 rw [e]
 rfl
theorem sub_ne {x y : Nat} (hx : x < qG) (hy : y < qG) (h : y ≠ x) : (y + (qG - x)) % qG % qG ≠ 0 := by
 rw [Nat.mod_mod]
 rcases Nat.lt_or_ge y x with h1 | h1
 ·rw [Nat.mod_eq_of_lt (by omega)]; omega
 ·rw [show y + (qG - x) = (y - x) + qG by omega, Nat.add_mod_right, Nat.mod_eq_of_lt (by omega)]; omega
theorem row_ne {ps : List Nat} (h : ps.Nodup) {i j x y : Nat} (hi : ps[i]? = some x) (hj : ps[j]? = some y) (hne : j ≠ i) : y ≠ x := fun e => by
 subst e;obtain ⟨h1, e1⟩ := List.getElem?_eq_some_iff.1 hi;obtain ⟨h2, e2⟩ := List.getElem?_eq_some_iff.1 hj;have hp := List.pairwise_iff_getElem.1 h
 rcases Nat.lt_or_ge i j with hl | hl
 ·exact hp i j h1 h2 hl (e1.trans e2.symm)
 ·exact hp j i h2 h1 (by omega) (e2.trans e1.symm)
def FactorsPost (ps : List Nat) (w : World) (e : Ending) (w' : World) : Prop :=
 ∃ v : Value, e = .returned v ∧ OwnI w.heap.size w' v (intsN (ps.map (facN ps))) ∧ Below w.heap.size w w'
theorem rFactors_q (A : Option Addr) (n c : Nat) (ps : List Nat) (hn : n ≤ 1000) (hq : ∀ y ∈ ps, y < qG) (hd : ps.Nodup) (w : World) (hr : RowN w A n c ps) :
 Calls Tryz.prog 98 #[.slice A n c] w (FactorsPost ps w) := by
 have hl := rowN_len hr;have HR := Lib.hid hr;have HQ := Lib.hid (And.intro hq hd);have hB := Below.refl w.heap.size w;clear hr hq hd;go_enter Tryz.func98, Tryz.ntmps98;go_wp2_with fail
 go_loopw [3, 4, 5, 6, 7, 8] (fun s3 s4 _ _ _ _ wr => ∃ (i : Nat), i ≤ n ∧ s4 = .int .i64 (i : Int) ∧ OwnI w.heap.size wr s3 (intsN ((ps.take i).map (facN ps))) ∧ Below w.heap.size w wr) (fun _ s4 _ _ _ _ _ => n - (intOf s4).toNat)
 case atStart => exact ⟨0, by omega, rfl, OwnL.nil_ _ _ _ _ _, hB⟩
 case round =>
  clear hB;obtain ⟨i, hi, rfl, ho, hB⟩ := hrel
  by_cases hlt : i < n
  ·have hlt' : (i : Int) < (n : Int) := by omega
   obtain ⟨b, o, x, rfl, hx, -⟩ := rowN_at HR.out hlt;have hxq := HQ.out.1 x (List.mem_of_getElem? hx);have HX := Lib.hid hx;clear hx;go_wp2_with fail
   go_loopw [5, 6, 7, 8] (fun s5 s6 _ _ wr => ∃ k f : Nat, k ≤ n ∧ s6 = .int .i64 (k : Int) ∧ s5 = .int .i64 (f : Int) ∧ Hid (f = facT ps x k) ∧ OwnI w.heap.size wr u3 (intsN ((ps.take i).map (facN ps))) ∧ Below w.heap.size w wr) (fun _ s6 _ _ _ => n - (intOf s6).toNat)
   case atStart => exact ⟨0, 1, by omega, rfl, rfl, Lib.hid (facT_zero ps x).symm, ho, hB⟩
   case round =>
    clear hB ho;obtain ⟨k, f, hk, rfl, rfl, HF, ho, hB⟩ := hrel
    by_cases hltk : k < n
    ·have hltk' : (k : Int) < (n : Int) := by omega
     by_cases hki : k = i
     ·subst hki;have HF2 : Hid (f = facT ps x (k + 1)) := Lib.hid (by rw [facT_same HX.out]; exact HF.out);go_wp2_with fail;go_roundw
      case rel => exact ⟨k + 1, f, by omega, by go_num, rfl, HF2, ho, hB⟩
      case measure => simp [intOf]; omega
     ·have hki' : ¬ (k : Int) = (i : Int) := by omega
      obtain ⟨b', o', y, e', hy, cy⟩ := rowN_at (HR.out.below hB) hltk
      cases e'
      obtain ⟨b', o', x', e', hx', cx⟩ := rowN_at (HR.out.below hB) hlt
      cases e'
      obtain rfl : x = x' := Option.some.inj (HX.out.symm.trans hx');have hyq := HQ.out.1 y (List.mem_of_getElem? hy);have hne := row_ne HQ.out.2 hx' hy hki;have hnz := sub_ne hxq hyq hne;have p1 := Lib.hid (rSubQ_q y x hyq hxq);have p2 := Lib.hid (rInv_q ((y + (qG - x)) % qG) hnz);have p3 := Lib.hid (rMulQ_q y (invN ((y + (qG - x)) % qG)));have p4 := Lib.hid (rMulQ_q f (y * invN ((y + (qG - x)) % qG) % qG));have HF2 : Hid (f * (y * invN ((y + (qG - x)) % qG) % qG) % qG = facT ps x (k + 1)) := Lib.hid (by rw [facT_step hy hne, HF.out]);have HY := Lib.hid hy;clear hx' hy hnz hne hyq;generalize f * (y * invN ((y + (qG - x)) % qG) % qG) % qG = z4 at *;generalize y * invN ((y + (qG - x)) % qG) % qG = z3 at *;generalize invN ((y + (qG - x)) % qG) = z2 at *;generalize (y + (qG - x)) % qG = z1 at *;go_upto_region 10 with fail
      go_quiet (first
       | (go_at_call 161; with_reducible exact Calls.quiet_of_same (p1.out _))
       | (go_at_call 160; with_reducible exact Calls.quiet_of_same (p2.out _)))
      have hB2 := below_drewN hB nq;have ho2 : OwnI w.heap.size (wr.drewN nq) u3 (intsN ((ps.take i).map (facN ps))) := ho.below (below_drewN (Below.refl wr.heap.size wr) nq);clear cx cy ho hB;generalize wr.drewN nq = wq at hB2 ho2 ⊢;obtain ⟨b', o', y', e', hy', cy⟩ := rowN_at (HR.out.below hB2) hltk
      cases e'
      obtain rfl : y = y' := Option.some.inj (HY.out.symm.trans hy');clear hy'
      go_wp2_with (first
       | (go_at_call 102; (with_reducible refine (p3.out _).mono ?_); rintro e wa ⟨rfl, hww⟩; obtain rfl := hww.symm)
       | (go_at_call 102; (with_reducible refine (p4.out _).mono ?_); rintro e wa ⟨rfl, hww⟩; obtain rfl := hww.symm))
      go_roundw
      case rel => exact ⟨k + 1, z4, by omega, by go_num, rfl, HF2, ho2, hB2⟩
      case measure => simp [intOf]; omega
    ·obtain rfl : n = k := by omega
     have hfe : f = facN ps x := by rw [HF.out]; exact facT_end ps x (by omega)
     have HE : Hid (intsN ((ps.take i).map (facN ps)) ++ [(f : Int)] = intsN ((ps.take (i + 1)).map (facN ps))) := Lib.hid (by
      rw [List.take_add_one, HX.out, List.map_append, hfe, intsN, intsN, List.map_append]
      rfl)
     have hll : (intsN ((ps.take i).map (facN ps))).length ≤ 1000 := by rw [intsN_len, List.length_map, List.length_take]; omega
     clear hfe;go_wp2_with (refine wp_append_row (enc := encI) Tryz.underlying25 int_info rfl (by decide) (by decide) rfl _ _ rfl (f : Int) rfl rfl (encI_one _) rfl ho rfl (by omega) hB.size ?_; intro v6 w6 ho6 hg6);go_roundw
     case rel => exact ⟨i + 1, by omega, by go_num, by rw [← HE.out]; exact ho6, hB.grown hg6 hB.size (own_high ho)⟩
     case measure => simp [intOf]; omega
  ·obtain rfl : n = i := by omega
   rw [List.take_of_length_le (by omega)] at ho;go_wp2_with fail;go_ret;exact ⟨_, rfl, ho, hB⟩
abbrev RowV (w : World) (A : Option Addr) (n c : Nat) (vs : List Value) : Prop := Row encV 1 w A n c vs
theorem RowV.get {w : World} {A : Option Addr} {n c : Nat} {vs : List Value} (h : RowV w A n c vs) {k : Nat} (hk : k < n) : ∃ b o v, A = some ⟨b, o, none⟩ ∧ vs[k]? = some v ∧ w.cell? ⟨b, o + k, none⟩ = some v := by
 obtain ⟨b, o, e, hc⟩ := h.at_ (by omega);have hl : k < vs.length := by have := h.len; omega
 refine ⟨b, o, vs[k], e, List.getElem?_eq_getElem hl, ?_⟩;have := hc k 0 vs[k] _ (List.getElem?_eq_getElem hl) rfl;rwa [Nat.mul_one, Nat.add_zero] at this
structure RowsI (w : World) (vs : List Value) (ls : List (List Int)) : Prop where
 len : vs.length = ls.length
 one : ∀ (i : Nat) (v : Value) (l : List Int), vs[i]? = some v → ls[i]? = some l → ∃ A c, v = .slice A l.length c ∧ RowI w A l.length c l
theorem ListI.rows {B : Nat} {w : World} {vs : List Value} {ls : List (List Int)} (h : ListI B w vs ls) : RowsI w vs ls :=
 ⟨h.len, fun i v l hv hl => OwnL.row (h.one i v l hv hl) encI_len⟩
theorem RowsI.below {w w' : World} {vs : List Value} {ls : List (List Int)} (h : RowsI w vs ls) (hb : Below w.heap.size w w') : RowsI w' vs ls :=
 ⟨h.len, fun i v l hv hl => let ⟨A, c, e, hr⟩ := h.one i v l hv hl; ⟨A, c, e, hr.below hb⟩⟩
def sumLen (ls : List (List Int)) : Nat := (ls.map List.length).sum
theorem sumLen_snoc (ls : List (List Int)) (l : List Int) : sumLen (ls ++ [l]) = sumLen ls + l.length := by simp [sumLen]
theorem sumLen_take {ls : List (List Int)} {i : Nat} {l : List Int} (h : ls[i]? = some l) : sumLen (ls.take (i + 1)) = sumLen (ls.take i) + l.length := by
 rw [List.take_add_one, h, Option.toList_some, sumLen_snoc]
theorem sumLen_le {ls : List (List Int)} (h : ∀ l ∈ ls, l.length ≤ 1000) : ∀ i, i ≤ ls.length → sumLen (ls.take i) ≤ 1000 * i
 | 0, _ => by simp [sumLen]
 | i + 1, hi => by
   have hl : ls[i]? = some ls[i] := List.getElem?_eq_getElem (by omega);rw [sumLen_take hl];have := sumLen_le h i (by omega);have := h ls[i] (List.getElem_mem _)
   omega
theorem rAll_q (A1 A2 : Option Addr) (n c1 m c2 : Nat) (vs : List Value) (ls : List (List Int)) (hm : m ≤ 1000) (hl : ∀ l ∈ ls, l.length ≤ 1000) (w : World) (hv : RowV w A2 m c2 vs) (hr : RowsI w vs ls) :
 Calls Tryz.prog 165 #[.agg #[.slice A1 n c1, .slice A2 m c2]] w fun e w' => e = .returned (.int .i64 (sumLen ls : Int)) ∧ Below w.heap.size w w' := by
 have hlen := hv.len;have hrl := hr.len;have HL := Lib.hid hl;have HV := Lib.hid (And.intro hv hr);clear hv hr hl;go_enter Tryz.func165, Tryz.ntmps165;go_upto_region 1 with fail;refine name1p ?_;intro W0 k1 hB;obtain ⟨p, hp⟩ := exq w.heap.size;rw [← hp] at k1 ⊢;clear hp;have a1 : W0.cell? ⟨p, 1, none⟩ = some (.slice A2 m c2) := k1.cell 1;have HW := Lib.hid (HV.out.1.below hB);have HI := Lib.hid (HV.out.2.below hB);have hbnd : ∀ i, i ≤ m → sumLen (ls.take i) ≤ 1000 * i := fun i hi => sumLen_le HL.out i (by omega);have HBD := Lib.hid hbnd;have HB := Lib.hid hB;clear k1 hB HV hbnd;go_wp2_with fail
 go_loop [3, 4] (fun s3 s4 => ∃ i x : Nat, i ≤ m ∧ s4 = .int .i64 (i : Int) ∧ s3 = .int .i64 (x : Int) ∧ Hid (x = sumLen (ls.take i))) (fun _ s4 => m - (intOf s4).toNat)
 case atStart => exact ⟨0, 0, by omega, rfl, rfl, Lib.hid rfl⟩
 case round =>
  obtain ⟨i, x, hi, rfl, rfl, HX⟩ := hrel
  by_cases hlt : i < m
  ·have hlt' : (i : Int) < (m : Int) := by omega
   obtain ⟨b, o, v, rfl, hv, cv⟩ := RowV.get HW.out hlt;have hls : ls[i]? = some ls[i] := List.getElem?_eq_getElem (by omega);obtain ⟨A, c, rfl, -⟩ := HI.out.one i v _ hv hls;have hx := HX.out ▸ HBD.out i hi;have hll := HL.out ls[i] (List.getElem_mem _);have HX2 : Hid (x + ls[i].length = sumLen (ls.take (i + 1))) := Lib.hid (by rw [sumLen_take hls, HX.out]);clear hls hv;generalize ls[i].length = y at *;go_wp2_with fail;go_round
   case rel => exact ⟨i + 1, x + y, by omega, by go_num, by go_num, HX2⟩
   case measure => simp [intOf]; omega
  ·obtain rfl : m = i := by omega
   have hx : x = sumLen ls := by rw [HX.out, List.take_of_length_le (by omega)]
   go_wp2_with fail;go_ret;exact ⟨rfl, HB.out⟩
theorem consec_cons {n : Nat} {l : List Int} {ls : List (List Int)} (h : l ≠ []) (e : l = runZ n l.length) : consecO n (l :: ls) = consecO (n + l.length) ls := if_pos ⟨h, e⟩
theorem consec_none {n : Nat} {l : List Int} {ls : List (List Int)} (h : l = [] ∨ l ≠ runZ n l.length) : consecO n (l :: ls) = none := if_neg fun ⟨h1, h2⟩ => h.elim h1 (fun e => e h2)
theorem runZ_get {n k i : Nat} (h : i < k) : (runZ n k)[i]? = some ((n + i : Nat) : Int) := by unfold runZ; rw [List.getElem?_map, List.getElem?_range h]; rfl
theorem take_ext {l : List Int} {n j : Nat} {y : Int} (h : l.take j = runZ n j) (hy : l[j]? = some y) (e : y = ((n + j : Nat) : Int)) : l.take (j + 1) = runZ n (j + 1) := by
 rw [List.take_add_one, h, hy, runZ_succ, e]; rfl
theorem run_bad {l : List Int} {n j : Nat} {y : Int} (hy : l[j]? = some y) (e : y ≠ ((n + j : Nat) : Int)) : l ≠ runZ n l.length := fun h => by
 have hj := (List.getElem?_eq_some_iff.1 hy).1;rw [h, runZ_get hj] at hy;exact e (Option.some.inj hy).symm
theorem keys_none {cs : List Int} {ls : List (List Int)} (h : consecO 1 ls = none) : keysB cs ls = false := by unfold keysB; rw [h]
theorem keys_some {cs : List Int} {ls : List (List Int)} {x : Nat} (h : consecO 1 ls = some (x + 1)) : keysB cs ls = (decide (1 ≤ x) && decide (x ≤ 60) && decide (cs.length = needN x) && cs.all memB) := by unfold keysB; rw [h]; rfl
theorem rRight_q (A1 A2 : Option Addr) (n c1 m c2 : Nat) (cs : List Int) (vs : List Value) (ls : List (List Int)) (hn : n ≤ 1000) (hm : m ≤ 1000) (hl : ∀ l ∈ ls, l.length ≤ 1000) (hI : ∀ x ∈ cs, I64 x) (hIl : ∀ l ∈ ls, ∀ x ∈ l, I64 x) (w : World) (hc : RowI w A1 n c1 cs) (hv : RowV w A2 m c2 vs) (hr : RowsI w vs ls) :
 Calls Tryz.prog 80 #[.agg #[.slice A1 n c1, .slice A2 m c2]] w fun e w' => e = .returned (.bool (keysB cs ls)) ∧ Below w.heap.size w w' := by
 have hlen := hv.len;have hrl := hr.len;have hcl := hc.len;have HL := Lib.hid (And.intro hl hIl);have HV := Lib.hid (And.intro hv (And.intro hr hc));have HIC := Lib.hid hI;have HR : Hid (consecO 1 (ls.drop 0) = consecO 1 ls) := Lib.hid rfl;clear hv hr hl hc hI hIl;go_enter Tryz.func80, Tryz.ntmps80;go_upto_region 1 with fail;refine name1p ?_;intro W0 k1 hB;obtain ⟨p, hp⟩ := exq w.heap.size;rw [← hp] at k1 ⊢;clear hp;have a0 : W0.cell? ⟨p, 0, none⟩ = some (.slice A1 n c1) := k1.cell 0;have a1 : W0.cell? ⟨p, 1, none⟩ = some (.slice A2 m c2) := k1.cell 1;have HW := Lib.hid (HV.out.1.below hB);have HI := Lib.hid (HV.out.2.1.below hB);have HC := Lib.hid (HV.out.2.2.below hB);have HB := Lib.hid hB;clear hB HV;go_wp2_with fail
 go_loop [3, 4, 5] (fun s3 s4 _ => ∃ i x : Nat, i ≤ m ∧ x ≤ 1000 * i ∧ s4 = .int .i64 (i : Int) ∧ s3 = .int .i64 (x : Int) ∧ Hid (consecO (x + 1) (ls.drop i) = consecO 1 ls)) (fun _ s4 _ => m - (intOf s4).toNat)
 case atStart => exact ⟨0, 0, by omega, by omega, rfl, rfl, HR⟩
 case round =>
  clear HR;obtain ⟨i, x, hi, hx, rfl, rfl, HX⟩ := hrel
  by_cases hlt : i < m
  ·have hlt' : (i : Int) < (m : Int) := by omega
   obtain ⟨b, o, v, rfl, hv, cv⟩ := RowV.get HW.out hlt;have hls : ls[i]? = some ls[i] := List.getElem?_eq_getElem (by omega);obtain ⟨A, c, rfl, hri⟩ := HI.out.one i v _ hv hls;have hll := HL.out.1 ls[i] (List.getElem_mem _);have hIi := Lib.hid (HL.out.2 ls[i] (List.getElem_mem _));have HD : Hid (ls.drop i = ls[i] :: ls.drop (i + 1)) := Lib.hid (drop_cons' hls);clear hls hv;obtain ⟨l, hle⟩ := exq (ls[i]);rw [← hle] at HD hll hIi cv hri;clear hle;have HRI := Lib.hid hri;clear hri
   by_cases h0 : l.length = 0
   ·have hnil : l = [] := List.length_eq_zero_iff.1 h0;have hk : keysB cs ls = false := keys_none (by rw [← HX.out, HD.out]; exact consec_none (.inl hnil));rw [h0] at cv;go_wp2_with fail;go_ret;exact ⟨rfl, HB.out⟩
   ·have h0' : ¬ (l.length : Int) = 0 := by omega
    obtain ⟨L, hL⟩ := exq l.length;rw [← hL] at hll h0' cv;have HRI2 : Hid (RowI W0 A L c l) := Lib.hid (by rw [hL]; exact HRI.out);have HLL := Lib.hid hL;clear HRI h0 hL;go_wp2_with fail
    go_loop [3, 5] (fun s3 s5 => ∃ j : Nat, j ≤ L ∧ s5 = .int .i64 (j : Int) ∧ s3 = .int .i64 ((x + j : Nat) : Int) ∧ Hid (l.take j = runZ (x + 1) j)) (fun _ s5 => L - (intOf s5).toNat)
    case atStart => exact ⟨0, by omega, rfl, rfl, Lib.hid rfl⟩
    case round =>
     obtain ⟨j, hj, rfl, rfl, HJ⟩ := hrel
     by_cases hltj : j < L
     ·have hltj' : (j : Int) < (L : Int) := by omega
      obtain ⟨b', o', y, rfl, hy, cy⟩ := RowI.get HRI2.out hltj;have hyI := hIi.out y (List.mem_of_getElem? hy);obtain ⟨z, hz⟩ := exq (x + j);rw [← hz];have hzb : z ≤ 2000000 := by omega
      by_cases he : y = ((z + 1 : Nat) : Int)
      ·have HJ2 : Hid (l.take (j + 1) = runZ (x + 1) (j + 1)) := Lib.hid (take_ext HJ.out hy (by rw [he, hz]; congr 1; omega));have he' : y = (z : Int) + 1 := by omega
       subst he';clear hy he;go_wp2_with fail;go_round
       case rel => exact ⟨j + 1, by omega, by go_num, by rw [show x + (j + 1) = z + 1 by omega]; go_num, HJ2⟩
       case measure => simp [intOf]; omega
      ·have hk : keysB cs ls = false := keys_none (by rw [← HX.out, HD.out]; exact consec_none (.inr (run_bad hy (by intro e; apply he; rw [e, hz]; congr 1; omega))));have he' : ¬ y = (z : Int) + 1 := by omega
       clear hy he;go_wp2_with fail;go_ret;exact ⟨rfl, HB.out⟩
     ·obtain rfl : L = j := by omega
      have HX2 : Hid (consecO (x + L + 1) (ls.drop (i + 1)) = consecO 1 ls) := Lib.hid (by
       have hLl := HLL.out;have hf : l = runZ (x + 1) l.length := by
        have := HJ.out;rw [List.take_of_length_le (by omega)] at this;rw [← hLl]; exact this
       rw [← HX.out, HD.out, consec_cons (by intro e; rw [e] at hLl; simp at hLl; omega) hf, ← hLl, show x + L + 1 = x + 1 + L by omega])
      go_wp2_with fail;go_round
      case rel => exact ⟨i + 1, x + L, by omega, by omega, by go_num, rfl, HX2⟩
      case measure => simp [intOf]; omega
  ·obtain rfl : m = i := by omega
   have hR : consecO 1 ls = some (x + 1) := by rw [← HX.out, List.drop_of_length_le (by omega)]; rfl
   have HK := Lib.hid (keys_some (cs := cs) hR);clear hR;have p1 := Lib.hid (rNeed_q x (by omega));obtain ⟨N, hN⟩ := exq (needN x);rw [← hN] at p1;have HN := Lib.hid hN;have hN2 : N ≤ 1000000 := by rw [hN]; unfold needN; split <;> omega
   clear hN
   by_cases hx1 : x < 1
   ·have hk : keysB cs ls = false := by rw [HK.out, decide_eq_false (by omega)]; rfl
    have hx1' : (x : Int) < 1 := by omega
    go_upto_region 13 with fail
    go_quiet (first
     | (go_at_call 90; with_reducible exact Calls.quiet_of_same (p1.out _)))
    have hB2 := below_drewN HB.out nq;generalize W0.drewN nq = wq at hB2 ⊢;go_wp2_with fail;go_ret;exact ⟨rfl, hB2⟩
   ·have hx1' : ¬ (x : Int) < 1 := by omega
    by_cases hx60 : 60 < x
    ·have hk : keysB cs ls = false := by rw [HK.out, decide_eq_false (p := x ≤ 60) (by omega)]; simp
     have hx60' : 60 < (x : Int) := by omega
     go_upto_region 13 with fail
     go_quiet (first
      | (go_at_call 90; with_reducible exact Calls.quiet_of_same (p1.out _)))
     have hB2 := below_drewN HB.out nq;generalize W0.drewN nq = wq at hB2 ⊢;go_wp2_with fail;go_ret;exact ⟨rfl, hB2⟩
    ·have hx60' : ¬ 60 < (x : Int) := by omega
     by_cases hnn : n = N
     ·have hk : keysB cs ls = cs.all memB := by
       rw [HK.out, decide_eq_true (p := 1 ≤ x) (by omega), decide_eq_true (p := x ≤ 60) (by omega), decide_eq_true (p := cs.length = needN x) (by rw [hcl, ← HN.out]; exact hnn)]
       rfl
      have hkk := Lib.hid hk;clear hk p1;have p1 := Lib.hid (rNeed_q x (by omega));rw [← HN.out, ← hnn] at p1;clear hnn HN;go_upto_region 13 with fail
      go_quiet (first
       | (go_at_call 90; with_reducible exact Calls.quiet_of_same (p1.out _)))
      have hB2 := Lib.hid (below_drewN HB.out nq);have b0 : (W0.drewN nq).cell? ⟨p, 0, none⟩ = some (.slice A1 n c1) := a0;have HC2 : Hid (RowI (W0.drewN nq) A1 n c1 cs) := Lib.hid (HC.out.below (below_drewN (Below.refl W0.heap.size W0) nq));have HM : Hid ((cs.drop 0).all memB = cs.all memB) := Lib.hid rfl;clear a0 a1;generalize W0.drewN nq = wq at hB2 b0 HC2 ⊢;clear p1 HK HX HC HI HW;go_wp2_with fail
      go_loop [6, 7] (fun s6 _ => ∃ k : Nat, k ≤ n ∧ s6 = .int .i64 (k : Int) ∧ Hid ((cs.drop k).all memB = cs.all memB)) (fun s6 _ => n - (intOf s6).toNat)
      case atStart => exact ⟨0, by omega, rfl, HM⟩
      case round =>
       clear HM;obtain ⟨k, hk, rfl, HM⟩ := hrel
       by_cases hlt : k < n
       ·have hlt' : (k : Int) < (n : Int) := by omega
        obtain ⟨b, o, y, rfl, hy, cy⟩ := RowI.get HC2.out hlt;have hyI := HIC.out y (List.mem_of_getElem? hy);have q1 := Lib.hid (rMember_q y hyI.1 hyI.2);have HS : Hid ((cs.drop k).all memB = (memB y && (cs.drop (k + 1)).all memB)) := Lib.hid (by rw [drop_cons' hy]; rfl);clear hy hyI;obtain ⟨q, hq⟩ := exq (memB y);rw [← hq] at q1 HS;clear hq
        cases q
        ·have HE : Hid (cs.all memB = false) := Lib.hid (by rw [← HM.out, HS.out]; rfl)
         go_wp2_with (first
          | (go_at_call 119; (with_reducible refine (q1.out _).mono ?_); rintro e wa ⟨rfl, hww⟩; obtain rfl := hww.symm))
         go_ret;exact ⟨by rw [hkk.out, HE.out]; rfl, hB2.out⟩
        ·have HM2 : Hid ((cs.drop (k + 1)).all memB = cs.all memB) := Lib.hid (by rw [← HM.out, HS.out]; rfl)
         go_wp2_with (first
          | (go_at_call 119; (with_reducible refine (q1.out _).mono ?_); rintro e wa ⟨rfl, hww⟩; obtain rfl := hww.symm))
         go_round
         case rel => exact ⟨k + 1, by omega, by go_num, HM2⟩
         case measure => simp [intOf]; omega
       ·obtain rfl : n = k := by omega
        have HE : Hid (cs.all memB = true) := Lib.hid (by rw [← HM.out, List.drop_of_length_le (by omega)]; rfl);go_wp2_with fail;go_ret;exact ⟨by rw [hkk.out, HE.out]; rfl, hB2.out⟩
     ·have hk : keysB cs ls = false := by rw [HK.out, decide_eq_false (p := cs.length = needN x) (by rw [hcl, ← HN.out]; exact hnn)]; simp
      have hnn' : ¬ (n : Int) = (N : Int) := by omega
      go_upto_region 13 with fail
      go_quiet (first
       | (go_at_call 90; with_reducible exact Calls.quiet_of_same (p1.out _)))
      have hB2 := below_drewN HB.out nq;generalize W0.drewN nq = wq at hB2 ⊢;go_wp2_with fail;go_ret;exact ⟨rfl, hB2⟩
end Go.Proofs.YtkpinmejfdnhbaaGreatDoor
