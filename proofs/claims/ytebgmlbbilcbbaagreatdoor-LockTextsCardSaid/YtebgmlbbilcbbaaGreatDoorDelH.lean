/- Delays: Verify. -/
import Derived.Test.YtebgmlbbilcbbaaGreatDoorDelThree
import Derived.Test.YtebgmlbbilcbbaaGreatDoorHelds
import Derived.Stop.RegionWithIn
namespace Go.Proofs.YtebgmlbbilcbbaaGreatDoor
open Go.RowKit Go.Shelf
attribute [local go_sem] Oper.semAt_some

/-- Whether middles prove an end of 2 ^ n steps. -/
def verN (n : Nat) (x y : ByteArray) (ms : List ByteArray) : Bool :=
  redN x && redN y && ms.all redN && decide (ms.length = n) && decide ((chainN (sval x) (sval y) (2 ^ n) (ms.map sval)).1 * (chainN (sval x) (sval y) (2 ^ n) (ms.map sval)).1 % modN = (chainN (sval x) (sval y) (2 ^ n) (ms.map sval)).2)
/-- Halvings, the first of them. -/
theorem chain_cons (x y t m : Nat) (ms : List Nat) : chainN x y t (m :: ms) = chainN (halveN x y m t).1 (halveN x y m t).2 (t / 2) ms := by rw [chainN]
theorem chain_nil (x y t : Nat) : chainN x y t [] = (x, y) := by rw [chainN]
theorem chain_snoc : ∀ (ms : List Nat) (x y t m : Nat), chainN x y t (ms ++ [m]) = halveN (chainN x y t ms).1 (chainN x y t ms).2 m (t / 2 ^ ms.length)
  | [], x, y, t, m => by rw [List.nil_append, chain_cons, chain_nil, chain_nil, List.length_nil, Nat.pow_zero, Nat.div_one]
  | a :: ms, x, y, t, m => by
    rw [List.cons_append, chain_cons, chain_snoc ms, chain_cons, List.length_cons, Nat.pow_succ, Nat.mul_comm (2 ^ ms.length) 2, Nat.div_div_eq_div_mul]
theorem chain_lt : ∀ (ms : List Nat) (x y t : Nat), x < modN → y < modN → (chainN x y t ms).1 < modN ∧ (chainN x y t ms).2 < modN
  | [], x, y, t, hx, hy => by rw [chain_nil]; exact ⟨hx, hy⟩
  | m :: ms, x, y, t, _, _ => by rw [chain_cons]; exact chain_lt ms _ _ _ (halve_lt x y m t).1 (halve_lt x y m t).2

theorem Verify_bad (t : Int) (h : ∀ n : Nat, n ≤ 20 → t ≠ ((2 ^ n : Nat) : Int)) (x y : ByteArray) (A : Option Addr) (n c : Nat) (w : World) :
    Calls Tryz.prog 28 #[.string x, .string y, .int .i64 t, .slice A n c] w fun e w' => e = .returned (.bool false) ∧ Below w.heap.size w w' := by
  have m1 := Lib.hid (power_no t h)
  clear h
  go_enter Tryz.func28, Tryz.ntmps28
  go_wp2_with fail
  refine (m1.out _).mono ?_
  rintro e w1 ⟨rfl, hb1⟩
  go_wp2_with fail
  go_ret
  exact ⟨rfl, below_then (below_al (below_al (below_al (Below.refl _ _) _) _) _) hb1⟩

theorem name3b {P : Program} {code : Code} {Q : Exit → Act → World → Prop} {act : Act} {W : World} {t1 t2 t3 : TypeId} {c1 c2 c3 : Array Value}
    (h : ∀ W0 : World, Blk W0 W.heap.size t1 c1 → Blk W0 (W.heap.size + 1) t2 c2 → Blk W0 (W.heap.size + 1 + 1) t3 c3 → Below W.heap.size W W0 → W0.heap.size = W.heap.size + 3 → code.wp P Q act W0) :
    code.wp P Q act (((W.alloc (.cells c1 t1)).alloc (.cells c2 t2)).alloc (.cells c3 t3)) := by
  refine h _ (((Blk.new _ _ _).alloc _).alloc _) ?_ ?_ (below_al (below_al (below_al (Below.refl _ _) _) _) _) (by rw [World.size_alloc, World.size_alloc, World.size_alloc])
  · have := (Blk.new (W.alloc (.cells c1 t1)) t2 c2).alloc (.cells c3 t3)
    rwa [World.size_alloc] at this
  · have := Blk.new ((W.alloc (.cells c1 t1)).alloc (.cells c2 t2)) t3 c3
    rwa [World.size_alloc, World.size_alloc] at this

theorem rf_zero {α : Type} {enc : α → Value} {F : Fence} {n : Nat} {P : Program} {g : Operand} {p0 : Tmp} {assign body : Code} {Q : Exit → Act → World → Prop} {a : Act} {w : World}
    (hro : F.round = none) (h1 : 1 ≤ n) {gf : Nat} {lb : Array Value} (hg : a.eval g = .func (.func gf) #[] lb) (hFg : F.fn gf) (eg : ∀ args w, (callFunc gf args).run P w = .ok (.enter gf args) w)
    {S Sp : List α → Prop} {N : Nat} {w0 : World} (hseq : SeqStopsK F (n - 1) P gf lb (fun x => #[enc x]) (fun _ _ => True) S Sp N w0) (hb0 : Below w0.heap.size w0 w)
    (I : List α → World → Prop) (hI : OwnFrom w.heap.size I) (h0 : I [] w)
    (hassign : ∀ (l : Nat) (x : α) (W : World) (K : Act → World → Prop), K { tmps := a.tmps.setIfInBounds p0 (enc x), defers := [] } W →
      assign.wpIn (F.inRound l) (n - 1 - 1) P (Exit.then K (fun _ _ _ => False)) { tmps := a.tmps.setIfInBounds p0 (enc x), defers := [] } W)
    (hbody : ∀ (l : Nat) (pre : List α) (x : α) (W : World), I pre W → pre.length < N → body.wpIn (F.inRound l) (n - 1 - 1) P (ownPostK (fun _ _ => True) I (fun _ _ _ => False) (pre ++ [x]) W) { tmps := a.tmps.setIfInBounds p0 (enc x), defers := [] } W)
    (hdone : ∀ (D : Nat) (xs : List α) (W : World), w.heap.size ≤ D → S xs → I xs W → W.heap[D]? = some (.deferred (some [])) → Q .normal { a with defers := { target := .collected D, args := #[] } :: a.defers } W) :
    (Code.rangeFunc g #[p0] assign body).wpIn F n P Q a w :=
  rf_gen hro h1 hg hFg eg hseq hb0 I hI h0 (fun x => { tmps := a.tmps.setIfInBounds p0 (enc x), defers := [] }) hassign hbody hdone
theorem name2b {F : Fence} {n : Nat} {P : Program} {code : Code} {Q : Exit → Act → World → Prop} {act : Act} {W : World} {t1 t2 : TypeId} {c1 c2 : Array Value}
    (h : ∀ W0 : World, Blk W0 W.heap.size t1 c1 → Blk W0 (W.heap.size + 1) t2 c2 → Below W.heap.size W W0 → W0.heap.size = W.heap.size + 2 → code.wpIn F n P Q act W0) : code.wpIn F n P Q act ((W.alloc (.cells c1 t1)).alloc (.cells c2 t2)) := by
  refine h _ ((Blk.new _ _ _).alloc _) ?_ (below_al (below_al (Below.refl _ _) _) _) (by rw [World.size_alloc, World.size_alloc])
  have := Blk.new (W.alloc (.cells c1 t1)) t2 c2
  rwa [World.size_alloc] at this

theorem cmpI_beq (a b : Nat) : (cmpI a b == 0) = decide (a = b) := by
  unfold cmpI
  by_cases h : a = b
  · subst h; simp
  · rw [if_neg h]; split <;> simp [h]

theorem halvX_div {N k : Nat} (hN : N ≤ 20) (h : k ≤ N) : (halvX hN k).1 = 2 ^ N / 2 ^ k := by
  show 2 ^ (N - k) = _
  rw [Nat.pow_div h (by omega)]

set_option maxRecDepth 100000 in
set_option maxHeartbeats 4000000 in
theorem Verify_yes (x y : ByteArray) (N : Nat) (hN : N ≤ 20) (A : Option Addr) (n c : Nat) (ms : List ByteArray) (hx : x.size ≤ 400) (hy : y.size ≤ 400) (hms : ∀ m ∈ ms, m.size ≤ 400) (hn : n ≤ 100000) (w : World) (hT : Tabs w) (hm : NDg w A n c ms) :
    Calls Tryz.prog 28 #[.string x, .string y, .int .i64 ((2 ^ N : Nat) : Int), .slice A n c] w fun e w' => e = .returned (.bool (verN N x y ms)) ∧ Below w.heap.size w w' := by
  have m1 := Lib.hid (power_yes N hN)
  have m2 := Lib.hid (reduced_q x (by omega))
  have m3 := Lib.hid (reduced_q y (by omega))
  have h20 := pow_le20 hN
  obtain ⟨V, hV⟩ : ∃ V, V = verN N x y ms := ⟨_, rfl⟩
  rw [← hV]
  have HV := Lib.hid hV
  obtain ⟨T, hTT⟩ : ∃ T : Nat, T = 2 ^ N := ⟨_, rfl⟩
  rw [← hTT] at m1 h20 ⊢
  have HTT := Lib.hid hTT
  have HT := Lib.hid hT
  have HM0 := Lib.hid hm
  have HMS := Lib.hid hms
  clear hTT hT hV hms
  refine (callsIn_wide (n := 4)).1 ?_
  refine callsIn_of_wp_marks Tryz.func28 rfl trivial ?_ rfl
  refine wpIn_wide.2 ?_
  simp only [Tryz.ntmps28, List.size_toArray, List.length_cons, List.length_nil, Nat.reduceAdd, Nat.reduceSub, Array.replicate_succ, Array.replicate_zero, List.push_toArray, List.append_toArray, List.nil_append, List.cons_append]
  go_upto_region 1 with fail
  refine name3b ?_
  intro W0 k4 k5 k7 hB hsz0
  replace hm := hm.below hB
  obtain ⟨B4, hB4⟩ : ∃ b, b = w.heap.size := ⟨_, rfl⟩
  have hB4' : w.heap.size ≤ B4 := by omega
  have hW0 : B4 + 3 = W0.heap.size := by omega
  rw [← hB4] at k4 k5 k7 ⊢
  clear hB4 hsz0
  go_wp2_with fail
  refine (m1.out _).mono ?_
  rintro e w1 ⟨rfl, hb⟩
  replace hm := hm.below hb
  replace k4 := k4.below hb k4.lt
  replace k5 := k5.below hb k5.lt
  replace k7 := k7.below hb k7.lt
  replace hB := below_then hB hb
  have z1 : B4 + 3 ≤ w1.heap.size := by have := hb.size; omega
  clear hb hW0
  have c4 : w1.cell? ⟨B4, 0, none⟩ = some (.string x) := k4.cell 0
  go_wp2_with fail
  refine (m2.out _).mono ?_
  rintro e w2 ⟨rfl, hb⟩
  replace hm := hm.below hb
  replace k4 := k4.below hb k4.lt
  replace k5 := k5.below hb k5.lt
  replace k7 := k7.below hb k7.lt
  replace hB := below_then hB hb
  replace z1 : B4 + 3 ≤ w2.heap.size := Nat.le_trans z1 hb.size
  clear hb c4
  cases hrx : redN x with
  | false =>
    have hVf : V = false := by rw [HV.out]; unfold verN; rw [hrx]; rfl
    subst hVf
    go_wp2_with fail
    exact ⟨_, results_tmp rfl _ _ _, rfl, hB⟩
  | true =>
    have c5 : w2.cell? ⟨B4 + 1, 0, none⟩ = some (.string y) := k5.cell 0
    go_wp2_with fail
    refine (m3.out _).mono ?_
    rintro e w3 ⟨rfl, hb⟩
    replace hm := hm.below hb
    replace k4 := k4.below hb k4.lt
    replace k5 := k5.below hb k5.lt
    replace k7 := k7.below hb k7.lt
    replace hB := below_then hB hb
    replace z1 : B4 + 3 ≤ w3.heap.size := Nat.le_trans z1 hb.size
    clear hb c5
    cases hry : redN y with
    | false =>
      have hVf : V = false := by rw [HV.out]; unfold verN; rw [hrx, hry]; rfl
      subst hVf
      go_wp2_with fail
      exact ⟨_, results_tmp rfl _ _ _, rfl, hB⟩
    | true =>
      have HRX := Lib.hid (And.intro hrx hry)
      clear hrx hry m1 m2 m3
      have c7 : w3.cell? ⟨B4 + 1 + 1, 0, none⟩ = some (.slice A n c) := k7.cell 0
      go_wp2_with fail
      clear c7
      go_loopw [10, 29] (fun _ s29 wr => ∃ i : Nat, i ≤ n ∧ s29 = .int .i64 (i : Int) ∧ Hid (∀ m ∈ ms.take i, redN m = true) ∧ NDg wr A n c ms ∧ Blk wr B4 25 #[.string x] ∧ Blk wr (B4 + 1) 25 #[.string y] ∧ Blk wr (B4 + 1 + 1) 28 #[.slice A n c] ∧ Below w.heap.size w wr) (fun _ s29 _ => n - (intOf s29).toNat)
      case atStart => exact ⟨0, Nat.zero_le _, rfl, Lib.hid (by simp), hm, k4, k5, k7, hB⟩
      case round =>
        obtain ⟨i, hi, rfl, HI, hm, k4, k5, k7, hB⟩ := hrel
        by_cases hlt : i < n
        · obtain ⟨b, o, m, rfl, hmi, hmc⟩ := hm.get hlt
          have hms := HMS.out m (List.mem_of_getElem? hmi)
          have q1 := Lib.hid (reduced_q m (by omega))
          have HMI := Lib.hid hmi
          have hlt' : (i : Int) < (n : Int) := by omega
          clear hmi hms
          go_wp2_with fail
          refine (q1.out _).mono ?_
          rintro e w4 ⟨rfl, hb⟩
          replace hm := hm.below hb
          replace k4 := k4.below hb k4.lt
          replace k5 := k5.below hb k5.lt
          replace k7 := k7.below hb k7.lt
          replace hB := below_then hB hb
          clear hb hmc
          cases hrm : redN m with
          | false =>
            have hVf : V = false := by
              rw [HV.out]
              unfold verN
              have : ms.all redN = false := by
                rw [List.all_eq_false]
                exact ⟨m, List.mem_of_getElem? HMI.out, by rw [hrm]; simp⟩
              rw [this]; simp
            subst hVf
            go_wp2_with fail
            exact ⟨_, results_tmp rfl _ _ _, rfl, hB⟩
          | true =>
            have HRM := Lib.hid hrm
            clear hrm
            go_wp2_with fail
            go_roundw
            case rel =>
              refine ⟨i + 1, by omega, by go_num, Lib.hid ?_, hm, k4, k5, k7, hB⟩
              intro u hu
              rw [List.take_add_one, HMI.out] at hu
              rcases List.mem_append.1 hu with hu | hu
              · exact HI.out u hu
              · obtain rfl : u = m := by simpa using hu
                exact HRM.out
            case measure => simp [intOf]; omega
        · obtain rfl : i = n := by omega
          have hall : ms.all redN = true := by
            rw [List.all_eq_true]
            intro u hu
            have := HI.out u
            rw [List.take_of_length_le (by rw [hm.len]; exact Nat.le_refl _)] at this
            exact this hu
          have HALL := Lib.hid hall
          clear HI hall HMS
          go_wp2_with fail
          refine (halvings_any _ _).mono ?_
          rintro e w4 ⟨rfl, rfl⟩
          go_wp2_with fail
          refine (wpIn_wide (n := 4)).1 ?_
          refine name2b ?_
          intro w5 k11 kn hb hsz
          replace hm := hm.below hb
          replace k4 := k4.below hb k4.lt
          replace k5 := k5.below hb k5.lt
          have zz := k7.lt
          replace k7 := k7.below hb k7.lt
          replace hB := below_then hB hb
          have z5 : B4 + 1 + 1 < wr.heap.size := zz
          clear hb zz
          generalize wr.heap.size = B11 at k11 kn hsz z5 ⊢
          have hcn : w5.cell? ⟨B11 + 1, 0, none⟩ = some (.int .i64 ((2 ^ N : Nat) : Int)) := by rw [← HTT.out]; exact kn.cell 0
          refine rf_zero rfl (by omega) (gf := 135) (lb := #[.pointer (some ⟨B11 + 1, 0, none⟩)]) rfl trivial (enters_of Tryz.func135 (by kernel_rfl) rfl)
            (halvings_stops _ (B11 + 1) (by omega) N hN w5 (by omega) hcn) (Below.refl _ _)
            (fun pre W => NDg W A i c ms ∧ Blk W B4 25 #[.string x] ∧ Blk W (B4 + 1) 25 #[.string y] ∧ Blk W (B4 + 1 + 1) 28 #[.slice A i c] ∧ Blk W B11 3 #[.int .i64 (pre.length : Int)] ∧ Below w.heap.size w W)
            ?own ?start ?assign ?body ?done
          case own =>
            rintro pre A' B' row ⟨k1, k2, k3, k4, k5, hB⟩ hg hr
            have hr' := fun r e => (hr r e).2
            exact ⟨k1.kept hg hr', blk_kept k2 hg hr', blk_kept k3 hg hr', blk_kept k4 hg hr', blk_kept k5 hg hr', ownFrom_below (β := List H20) (Nat.le_refl _) (by omega) [] A' B' row hB hg hr⟩
          case start => exact ⟨hm, k4, k5, k7, k11, hB⟩
          case assign =>
            intro l x W K hK
            gi_wp2
            exact hK
          case body =>
            rintro l pre ⟨v, hv⟩ W ⟨j1, j2, j3, j4, j5, hB⟩ hlen
            have c1 : W.cell? ⟨B11, 0, none⟩ = some (.int .i64 (pre.length : Int)) := j5.cell 0
            have f1 := j5.frozen 0
            have hpl : pre.length ≤ 20 := by omega
            simp only [List.setIfInBounds_toArray, List.set_cons_zero, List.set_cons_succ]
            gi_wp2_with fail
            have hBn := below_set hB (p := ⟨B11, 0, none⟩) (by show w.heap.size ≤ B11; omega) (.int .i64 ((pre.length : Int) + 1))
            refine ⟨KeepsOthers.setCell _ _ _, trivial, HM0.out.below hBn, kept_set j2 (by omega) _ _, kept_set j3 (by omega) _ _, kept_set j4 (by omega) _ _, ?_, hBn⟩
            have h2 := j5.set_ 0 (.int .i64 ((pre.length : Int) + 1))
            rw [List.length_append]
            exact h2
          case done =>
            rintro D xs W hD rfl ⟨j1, j2, j3, j4, j5, hB⟩ hdef
            rw [halvL_len] at j5
            have c11 : W.cell? ⟨B11, 0, none⟩ = some (.int .i64 (N : Int)) := j5.cell 0
            have c7 : W.cell? ⟨B4 + 1 + 1, 0, none⟩ = some (.slice A i c) := j4.cell 0
            have hDw : w.heap.size ≤ D := by omega
            by_cases hlen : i = N
            · have heq : ((i : Int) == (N : Int)) = true := by rw [beq_iff_eq]; omega
              have heq2 : ((i : Int) != (N : Int)) = false := by simp; omega
              go_wp2_with fail
              refine (halvings_any _ _).mono ?_
              rintro e w6 ⟨rfl, rfl⟩
              go_wp2_with fail
              have hDlt : D < W.heap.size := (Array.getElem?_eq_some_iff.1 hdef).1
              obtain rfl : i = N := hlen
              clear hm k4 k5 k7 k11 kn hcn heq heq2 c11 c7
              refine (wpIn_wide (n := 4)).1 ?_
              refine name2b ?_
              intro w8 k12 kn hb hsz8
              replace j2 := j2.below hb j2.lt
              replace j3 := j3.below hb j3.lt
              have zz := j5.lt
              replace j4 := j4.below hb j4.lt
              replace hB := below_then hB hb
              have hdef8 := (hb.block D hDlt).trans hdef
              clear hb j5 j1
              have hW12 : B11 < W.heap.size := zz
              generalize W.heap.size = B12 at k12 kn hsz8 hW12 hDlt ⊢
              have hcn : w8.cell? ⟨B12 + 1, 0, none⟩ = some (.int .i64 ((2 ^ i : Nat) : Int)) := by rw [← HTT.out]; exact kn.cell 0
              refine rf_one 13 rfl (by omega) (gf := 135) (lb := #[.pointer (some ⟨B12 + 1, 0, none⟩)]) rfl trivial (enters_of Tryz.func135 (by kernel_rfl) rfl)
                (halvings_stops _ (B12 + 1) (by omega) i hN w8 (by omega) hcn) (Below.refl _ _)
                (fun pre W => ∃ xs ys : ByteArray, Blk W B4 25 #[.string xs] ∧ Blk W (B4 + 1) 25 #[.string ys] ∧ Hid (redN xs = true ∧ redN ys = true ∧ (Good hN pre → (sval xs, sval ys) = chainN (sval x) (sval y) T ((ms.take pre.length).map sval))) ∧ Blk W (B4 + 1 + 1) 28 #[.slice A i c] ∧ Blk W B12 3 #[.int .i64 (pre.length : Int)] ∧ W.heap[D]? = some (.deferred (some [])) ∧ Below w.heap.size w W)
                ?own ?start ?assign ?body ?done
              case own =>
                rintro pre A' B' row ⟨xs, ys, k2, k3, HI, k4, k5, k6, hB⟩ hg hr
                have hr' := fun r e => (hr r e).2
                exact ⟨xs, ys, blk_kept k2 hg hr', blk_kept k3 hg hr', HI, blk_kept k4 hg hr', blk_kept k5 hg hr', (hg.block D (Array.getElem?_eq_some_iff.1 k6).1 (fun e => by have := (hr D e.symm).1; omega)).trans k6, ownFrom_below (β := List H20) (Nat.le_refl _) (by omega) [] A' B' row hB hg hr⟩
              case start => exact ⟨x, y, j2, j3, Lib.hid ⟨HRX.out.1, HRX.out.2, fun _ => by rw [List.length_nil, List.take_zero, List.map_nil, chain_nil]⟩, j4, k12, hdef8, hB⟩
              case assign =>
                intro l x W K hK
                gi_wp2
                exact hK
              case body =>
                rintro l pre ⟨v, hv⟩ W ⟨xs, ys, j2, j3, HI, j4, j5, j6, hB⟩ hlen
                dsimp only at hlen ⊢
                have hpl : pre.length ≤ 20 := by omega
                obtain ⟨b, o, m, rfl, hmi, hmc⟩ := (HM0.out.below hB).get hlen
                have hrm : redN m = true := List.all_eq_true.1 HALL.out m (List.mem_of_getElem? hmi)
                have hh := HI.out
                have q1 := Lib.hid (halve_q xs ys m v (by have := redN_size hh.1; omega) (by have := redN_size hh.2.1; omega) (by have := redN_size hrm; omega) (by omega))
                have c4 : W.cell? ⟨B4, 0, none⟩ = some (.string xs) := j2.cell 0
                have c5 : W.cell? ⟨B4 + 1, 0, none⟩ = some (.string ys) := j3.cell 0
                have c7 : W.cell? ⟨B4 + 1 + 1, 0, none⟩ = some (.slice (some ⟨b, o, none⟩) i c) := j4.cell 0
                have c12 : W.cell? ⟨B12, 0, none⟩ = some (.int .i64 (pre.length : Int)) := j5.cell 0
                have hlen2 : (pre.length : Int) < (i : Int) := by omega
                have hlen3 : (0 : Int) ≤ (pre.length : Int) := by omega
                have hTD : Tabs W.drew := HT.out.below hB.drew
                have HTD := Lib.hid hTD
                have HMI := Lib.hid (And.intro hmi hrm)
                have j2d : Blk W.drew B4 25 #[.string xs] := j2
                have j3d : Blk W.drew (B4 + 1) 25 #[.string ys] := j3
                have j5d : Blk W.drew B12 3 #[.int .i64 (pre.length : Int)] := j5
                have j4d : Blk W.drew (B4 + 1 + 1) 28 #[.slice (some ⟨b, o, none⟩) i c] := j4
                have hBd := hB.drew
                clear hh hmi hrm hTD
                simp only [List.setIfInBounds_toArray, List.set_cons_zero, List.set_cons_succ]
                gi_wp2_with fail
                refine region_round (fun Z : World => Z.cell? ⟨B4, 0, none⟩ = some (.string xs) ∧ Z.cell? ⟨B4 + 1, 0, none⟩ = some (.string ys) ∧ Z.cell? ⟨B4 + 1 + 1, 0, none⟩ = some (.slice (some ⟨b, o, none⟩) i c) ∧ Z.cell? ⟨B12, 0, none⟩ = some (.int .i64 (pre.length : Int)) ∧ Z.cell? ⟨b, o + pre.length, none⟩ = some (.string m)) 7 (by kernel_rfl) (by kernel_rfl) (by rintro ⟨_, _, h⟩; exact h) ⟨c4, c5, c7, c12, hmc⟩ (fun hHeld => ?_)
                refine wpAnyS_take [7] (i := 0) (oi := ⟨_, _, _, _, _, _⟩) (v := ?_) (by simp) (by kernel_rfl) rfl (by kernel_rfl) (by kernel_rfl) (by kernel_rfl) (fun _ _ _ h => h) (Or.inl ⟨by rfl, ?_⟩) (by assumption) ?_
                rotate_left
                · (intro w hSw; (try dsimp only at hSw); go_simp; try with_reducible rfl)
                try simp only [Act.put, List.setIfInBounds_toArray, List.set_cons_zero, List.set_cons_succ]
                refine wpAnyS_take [7] (i := 1) (oi := ⟨_, _, _, _, _, _⟩) (v := ?_) (by simp) (by kernel_rfl) rfl (by kernel_rfl) (by kernel_rfl) (by kernel_rfl) (fun _ _ _ h => h) (Or.inl ⟨by rfl, ?_⟩) (by assumption) ?_
                rotate_left
                · (intro w hSw; (try dsimp only at hSw); go_simp; try with_reducible rfl)
                try simp only [Act.put, List.setIfInBounds_toArray, List.set_cons_zero, List.set_cons_succ]
                refine wpAnyS_take [7, 5, 4] (i := 2) (oi := ⟨_, _, _, _, _, _⟩) (v := ?_) (by simp) (by kernel_rfl) rfl (by kernel_rfl) (by kernel_rfl) (by kernel_rfl) (fun _ _ _ h => h) (Or.inl ⟨by rfl, ?_⟩) (by assumption) ?_
                rotate_left
                · (intro w hSw; (try dsimp only at hSw); go_simp; try with_reducible rfl)
                try simp only [Act.put, List.setIfInBounds_toArray, List.set_cons_zero, List.set_cons_succ]
                refine wpAnyS_take [7, 5, 4] (i := 3) (oi := ⟨_, _, _, _, _, _⟩) (v := ?_) (by simp) (by kernel_rfl) rfl (by kernel_rfl) (by kernel_rfl) (by kernel_rfl) (fun _ _ _ h => h) (Or.inl ⟨by rfl, ?_⟩) (by assumption) ?_
                rotate_left
                · (intro w hSw; (try dsimp only at hSw); go_simp; try with_reducible rfl)
                try simp only [Act.put, List.setIfInBounds_toArray, List.set_cons_zero, List.set_cons_succ]
                refine wpAnyS_take [7, 5] (i := 4) (oi := ⟨_, _, _, _, _, _⟩) (v := ?_) (by simp) (by kernel_rfl) rfl (by kernel_rfl) (by kernel_rfl) (by kernel_rfl) (fun _ _ _ h => h) (Or.inl ⟨by rfl, ?_⟩) (by assumption) ?_
                rotate_left
                · (intro w hSw; (try dsimp only at hSw); go_simp; try with_reducible rfl)
                try simp only [Act.put, List.setIfInBounds_toArray, List.set_cons_zero, List.set_cons_succ]
                refine wpAnyS_take [7] (i := 5) (oi := ⟨_, _, _, _, _, _⟩) (v := ?_) (by simp) (by kernel_rfl) rfl (by kernel_rfl) (by kernel_rfl) (by kernel_rfl) (fun _ _ _ h => h) (Or.inl ⟨by rfl, ?_⟩) (by assumption) ?_
                rotate_left
                · (intro w hSw; (try dsimp only at hSw); go_simp; try with_reducible rfl)
                try simp only [Act.put, List.setIfInBounds_toArray, List.set_cons_zero, List.set_cons_succ]
                refine wpAnyS_take [7] (i := 6) (oi := ⟨_, _, _, _, _, _⟩) (v := ?_) (by simp) (by kernel_rfl) rfl (by kernel_rfl) (by kernel_rfl) (by kernel_rfl) (fun _ _ _ h => h) (Or.inl ⟨by rfl, ?_⟩) (by assumption) ?_
                rotate_left
                · (intro w hSw; (try dsimp only at hSw); go_simp; try with_reducible rfl)
                try simp only [Act.put, List.setIfInBounds_toArray, List.set_cons_zero, List.set_cons_succ]
                refine wpAnyS_call (k := 7) (ok := ⟨_, _, _, _, _, _⟩) rfl (by kernel_rfl) (by kernel_rfl) (fun K hK => ?_)
                go_simp
                go_at_call 80
                refine (q1.out _ HTD.out).mono ?_
                rintro e wa ⟨rfl, hba⟩
                (try go_wp2_with fail)
                refine hK.out _ _ ?_
                clear hK K hHeld
                try simp only [Act.put, List.setIfInBounds_toArray, List.set_cons_zero, List.set_cons_succ]
                have hkeep := (KeepsOthers.drew W).trans (keeps_below hba)
                have j2a := j2d.below hba j2d.lt
                have j3a := j3d.below hba j3d.lt
                have j4a := j4d.below hba j4d.lt
                have j5a := j5d.below hba j5d.lt
                have hBa := below_then hBd hba
                have j6a : wa.heap[D]? = some (.deferred (some [])) := (hba.block D (Array.getElem?_eq_some_iff.1 j6).1).trans j6
                clear hba j2 j3 j4 j5 j2d j3d j4d j5d hBd c4 c5 c7 c12 hmc hB
                refine wpAny_take (i := 8) (oi := ⟨_, _, _, _, _, _⟩) (v := ?_) rfl (by kernel_rfl) (by kernel_rfl) (by kernel_rfl) (fun _ _ _ h => h) (Or.inl ⟨by rfl, ?_⟩) ?_
                rotate_left
                · (intro w; go_simp; try with_reducible rfl)
                try simp only [Act.put, List.setIfInBounds_toArray, List.set_cons_zero, List.set_cons_succ]
                refine wpAny_take (i := 9) (oi := ⟨_, _, _, _, _, _⟩) (v := ?_) rfl (by kernel_rfl) (by kernel_rfl) (by kernel_rfl) (fun _ _ _ h => h) (Or.inl ⟨by rfl, ?_⟩) ?_
                rotate_left
                · (intro w; go_simp; try with_reducible rfl)
                try simp only [Act.put, List.setIfInBounds_toArray, List.set_cons_zero, List.set_cons_succ]
                refine wpAny_take (i := 10) (oi := ⟨_, _, _, _, _, _⟩) (v := ?_) rfl (by kernel_rfl) (by kernel_rfl) (by kernel_rfl) (fun _ _ _ h => h) (Or.inl ⟨by rfl, ?_⟩) ?_
                rotate_left
                · (intro w; go_simp; try with_reducible rfl)
                try simp only [Act.put, List.setIfInBounds_toArray, List.set_cons_zero, List.set_cons_succ]
                have e4 := j2a.cell 0
                have f4 := j2a.frozen 0
                refine wpAny_ready (rs := [11]) (by kernel_rfl) (by simp) ?_
                refine AllReady.cons (o := ⟨_, _, _, _, _, _⟩) rfl (fun K hK => ?_) AllReady.nil
                go_simp
                refine hK _ _ ?_
                clear hK K e4 f4
                try simp only [Act.put, List.setIfInBounds_toArray, List.set_cons_zero, List.set_cons_succ]
                have e5 := (kept_set j3a (k := B4) (by omega) 0 (.string (natS (halveN (sval xs) (sval ys) (sval m) v).1))).cell 0
                have f5 := (kept_set j3a (k := B4) (by omega) 0 (.string (natS (halveN (sval xs) (sval ys) (sval m) v).1))).frozen 0
                refine wpAny_ready (rs := [12]) (by kernel_rfl) (by simp) ?_
                refine AllReady.cons (o := ⟨_, _, _, _, _, _⟩) rfl (fun K hK => ?_) AllReady.nil
                go_simp
                refine hK _ _ ?_
                clear hK K e5 f5
                try simp only [Act.put, List.setIfInBounds_toArray, List.set_cons_zero, List.set_cons_succ]
                refine wpAny_done (by kernel_rfl) ?_ _
                have hh := HI.out
                have hlt2 := halve_lt (sval xs) (sval ys) (sval m) v
                have hg1 := redN_natS hlt2.1
                have hg2 := redN_natS hlt2.2
                have HJ : Hid (redN (natS (halveN (sval xs) (sval ys) (sval m) v).1) = true ∧ redN (natS (halveN (sval xs) (sval ys) (sval m) v).2) = true ∧ (Good hN (pre ++ [⟨v, hv⟩]) → (sval (natS (halveN (sval xs) (sval ys) (sval m) v).1), sval (natS (halveN (sval xs) (sval ys) (sval m) v).2)) = chainN (sval x) (sval y) T ((ms.take (pre.length + 1)).map sval))) := Lib.hid ⟨hg1, hg2, fun hG => by
                  obtain ⟨hG1, hG2⟩ := hG.snoc
                  have hc := hh.2.2 hG1
                  have hv2 : v = T / 2 ^ pre.length := by
                    have e := congrArg (fun h : H20 => h.1) hG2
                    rw [HTT.out]
                    exact e.trans (halvX_div hN (by omega))
                  rw [sval_natS, sval_natS, List.take_add_one, HMI.out.1, List.map_append]
                  show _ = chainN (sval x) (sval y) T (List.map sval (List.take pre.length ms) ++ [sval m])
                  rw [chain_snoc, ← hc, List.length_map, List.length_take, Nat.min_eq_left (by have := HM0.out.len; omega), ← hv2]⟩
                clear hh hlt2 hg1 hg2 HI
                generalize natS (halveN (sval xs) (sval ys) (sval m) v).1 = s1 at HJ ⊢
                generalize natS (halveN (sval xs) (sval ys) (sval m) v).2 = s2 at HJ ⊢
                have k2 := kept_set (j2a.set_ 0 (.string s1)) (k := B4 + 1) (by omega) 0 (.string s2)
                have k3 := (kept_set j3a (k := B4) (by omega) 0 (.string s1)).set_ 0 (.string s2)
                have k4 := kept_set (kept_set j4a (k := B4) (by omega) 0 (.string s1)) (k := B4 + 1) (by omega) 0 (.string s2)
                have k5 := kept_set (kept_set j5a (k := B4) (by omega) 0 (.string s1)) (k := B4 + 1) (by omega) 0 (.string s2)
                have k6 := (heap_setCell_other (wa.setCell ⟨B4, 0, none⟩ (.string s1)) ⟨B4 + 1, 0, none⟩ D (.string s2) (by show D ≠ B4 + 1; omega)).trans ((heap_setCell_other wa ⟨B4, 0, none⟩ D (.string s1) (by show D ≠ B4; omega)).trans j6a)
                have hBs := below_set (below_set hBa (p := ⟨B4, 0, none⟩) (by show w.heap.size ≤ B4; omega) (.string s1)) (p := ⟨B4 + 1, 0, none⟩) (by show w.heap.size ≤ B4 + 1; omega) (.string s2)
                have hks := (hkeep.trans (KeepsOthers.setCell wa ⟨B4, 0, none⟩ (.string s1))).trans (KeepsOthers.setCell _ ⟨B4 + 1, 0, none⟩ (.string s2))
                generalize (wa.setCell ⟨B4, 0, none⟩ (.string s1)).setCell ⟨B4 + 1, 0, none⟩ (.string s2) = ws at k2 k3 k4 k5 k6 hBs hks ⊢
                clear hkeep j2a j3a j4a j5a j6a hBa
                have c12 : ws.cell? ⟨B12, 0, none⟩ = some (.int .i64 (pre.length : Int)) := k5.cell 0
                have f12 := k5.frozen 0
                gi_wp2_with fail
                have hBn := below_set hBs (p := ⟨B12, 0, none⟩) (by show w.heap.size ≤ B12; omega) (.int .i64 ((pre.length : Int) + 1))
                have h2 := k5.set_ 0 (.int .i64 ((pre.length : Int) + 1))
                refine ⟨hks.trans (KeepsOthers.setCell _ _ _), trivial, s1, s2, kept_set k2 (by omega) _ _, kept_set k3 (by omega) _ _, ?_, kept_set k4 (by omega) _ _, ?_, (heap_setCell_other _ _ D _ (by show D ≠ B12; omega)).trans k6, hBn⟩
                · rw [List.length_append]; exact HJ
                · rw [List.length_append]; exact h2
              case done =>
                rintro D2 xs W hD2 rfl ⟨xs, ys, j2, j3, HI, j4, j5, j6, hB⟩ hdef2
                have hh := HI.out
                have q1 := Lib.hid (Square_q xs (by have := redN_size hh.1; omega))
                have e1 := natS_mod (sval xs * sval xs)
                have q2 := Lib.hid (ret_cmp (a := natS (sval xs * sval xs % modN)) (b := ys) (by omega) (by have := redN_size hh.2.1; omega) (r := cmpI (sval xs * sval xs % modN) (sval ys)) (by rw [sval_natS]))
                have HE : Hid ((cmpI (sval xs * sval xs % modN) (sval ys) == 0) = V) := Lib.hid (by
                  have hc := hh.2.2 (Good.all hN i)
                  rw [halvL_len, List.take_of_length_le (by have := HM0.out.len; omega)] at hc
                  have h1 := HRX.out
                  rw [HV.out]
                  unfold verN
                  rw [← HTT.out, ← hc, h1.1, h1.2, HALL.out, decide_eq_true (show ms.length = i from HM0.out.len)]
                  simp only [Bool.true_and]
                  exact cmpI_beq _ _)
                generalize cmpI (sval xs * sval xs % modN) (sval ys) = r at q2 HE ⊢
                generalize natS (sval xs * sval xs % modN) = sq at q1 q2 e1 ⊢
                have c4 : W.cell? ⟨B4, 0, none⟩ = some (.string xs) := j2.cell 0
                have c5 : W.cell? ⟨B4 + 1, 0, none⟩ = some (.string ys) := j3.cell 0
                have j2d : Blk W.drew B4 25 #[.string xs] := j2
                have j3d : Blk W.drew (B4 + 1) 25 #[.string ys] := j3
                have hBd := hB.drew
                have d1 : W.drew.heap[D]? = some (.deferred (some [])) := j6
                have d2 : W.drew.heap[D2]? = some (.deferred (some [])) := hdef2
                clear hh hB j2 j3 j4 j5 j6 hdef2 HI
                go_wp2_with fail
                go_region_held3 (fun Z : World => Z.cell? ⟨B4, 0, none⟩ = some (.string xs) ∧ Z.cell? ⟨B4 + 1, 0, none⟩ = some (.string ys)) (first | exact ⟨c4, c5⟩ | exact ⟨((j2d.below hba j2d.lt).below hbb (j2d.below hba j2d.lt).lt).cell 0, ((j3d.below hba j3d.lt).below hbb (j3d.below hba j3d.lt).lt).cell 0⟩ | exact ⟨(j2d.below hba j2d.lt).cell 0, (j3d.below hba j3d.lt).cell 0⟩) (first | (go_at_call 40; (with_reducible refine (q1.out _).mono ?_); rintro e wa ⟨rfl, hba⟩) | (go_at_call 76; (with_reducible refine (q2.out _).mono ?_); rintro e wb ⟨rfl, hbb⟩))
                have hBw := below_then (below_then hBd hba) hbb
                have d1a := (hba.block D (Array.getElem?_eq_some_iff.1 d1).1).trans d1
                have d1b := (hbb.block D (Array.getElem?_eq_some_iff.1 d1a).1).trans d1a
                have d2a := (hba.block D2 (Array.getElem?_eq_some_iff.1 d2).1).trans d2
                have d2b := (hbb.block D2 (Array.getElem?_eq_some_iff.1 d2a).1).trans d2a
                have hV : (r == 0) = V := HE.out
                subst hV
                have hDw2 : w.heap.size ≤ D2 := by omega
                clear HE HV
                go_wp2_with fail
                refine ⟨by simp, .inl ⟨_, _, rfl, run_takeDeferred d2b, ?_⟩⟩
                have d1c : (wb.putObj D2 (.deferred none)).heap[D]? = some (.deferred (some [])) := by
                  show (wb.heap.setIfInBounds D2 _)[D]? = _
                  rw [Array.getElem?_setIfInBounds_ne (by omega)]
                  exact d1b
                have hB2 := hBw.trans (belowK_b (w := w) (Nat.le_refl _) wb D2 _ (.deferred none) hDw2 d2b rfl rfl)
                exact ⟨by simp, .inl ⟨_, _, rfl, run_takeDeferred d1c, ⟨_, results_tmp rfl _ _ _, rfl, hB2.trans (belowK_b (w := w) (Nat.le_refl _) _ D _ _ hDw d1c rfl rfl)⟩⟩⟩
            · have hne : ((i : Int) == (N : Int)) = false := by rw [beq_eq_false_iff_ne]; omega
              have hVf : V = false := by
                rw [HV.out]
                unfold verN
                rw [decide_eq_false (show ¬ ms.length = N by rw [j1.len]; exact hlen)]
                simp
              subst hVf
              go_wp2_with fail
              exact ⟨by simp, .inl ⟨_, _, rfl, run_takeDeferred hdef, ⟨_, results_tmp rfl _ _ _, rfl, hB.trans (belowK_b (w := w) (Nat.le_refl _) W D _ _ hDw hdef rfl rfl)⟩⟩⟩

end Go.Proofs.YtebgmlbbilcbbaaGreatDoor
