/- Delays: the iterator over halvings. -/
import Derived.RangeFuncNested
import Derived.RangeFuncBound
import Derived.RangeFuncCalls
import Derived.RangeFuncLeaves
import Derived.Shelf.Abstract
import Derived.Shelf.RegionOpen
import Derived.OwnWalkIn
import Derived.TacticsInMore
import Derived.LoopNIn
import Derived.LoopIn
import Derived.Test.YtebgmlbbilcbbaaGreatDoorDelE
import Derived.Test.YtebgmlbbilcbbaaGreatDoorOwn
namespace Go.Proofs.YtebgmlbbilcbbaaGreatDoor
open Go.RowKit Go.Shelf
attribute [local go_sem] Oper.semAt_some

/-- A number of steps. -/
abbrev H20 := { x : Nat // x ≤ 1048576 }
/-- The i-th number that the iterator visits. -/
def halvX {N : Nat} (hN : N ≤ 20) (i : Nat) : H20 := ⟨2 ^ (N - i), pow_le20 (by omega)⟩
/-- The numbers that the iterator visits. -/
def halvL {N : Nat} (hN : N ≤ 20) (k : Nat) : List H20 := (List.range k).map (halvX hN)
theorem halvL_succ {N : Nat} (hN : N ≤ 20) (k : Nat) : halvL hN (k + 1) = halvL hN k ++ [halvX hN k] := by simp [halvL, List.range_succ]
theorem halvL_len {N : Nat} (hN : N ≤ 20) (k : Nat) : (halvL hN k).length = k := by simp [halvL]
/-- What has come is what the iterator visits first. -/
def Good {N : Nat} (hN : N ≤ 20) (pre : List H20) : Prop := pre = halvL hN pre.length
theorem Good.snoc {N : Nat} {hN : N ≤ 20} {pre : List H20} {x : H20} (h : Good hN (pre ++ [x])) : Good hN pre ∧ x = halvX hN pre.length := by
  unfold Good at h
  rw [List.length_append, List.length_cons, List.length_nil, Nat.zero_add, halvL_succ] at h
  have h2 := List.append_inj' h rfl
  exact ⟨h2.1, by simpa using h2.2⟩
theorem Good.all {N : Nat} (hN : N ≤ 20) (k : Nat) : Good hN (halvL hN k) := by unfold Good; rw [halvL_len]

theorem halvings_any (t : Int) (w : World) :
    Calls Tryz.prog 79 #[.int .i64 t] w fun e w' => e = .returned (.func (.func 135) #[] #[.pointer (some ⟨w.heap.size, 0, none⟩)]) ∧ w.alloc (.cells #[.int .i64 t] 3) = w' := by
  go_enter Tryz.func79, Tryz.ntmps79
  go_wp2_with fail
  go_ret
  exact ⟨rfl, rfl⟩

set_option maxRecDepth 100000 in
set_option maxHeartbeats 2000000 in
theorem halvings_stops (n Bn : Nat) (_hn : 1 ≤ n) (N : Nat) (hN : N ≤ 20) (w : World) (hle : Bn < w.heap.size) (hc : w.cell? ⟨Bn, 0, none⟩ = some (.int .i64 ((2 ^ N : Nat) : Int))) :
    SeqStopsK Fence.wide n Tryz.prog 135 #[.pointer (some ⟨Bn, 0, none⟩)] (fun x : H20 => #[.int .i64 (x.1 : Int)]) (fun _ _ => True) (fun xs => xs = halvL hN N) (fun _ => True) N w := fun l J Jx W hbW _ _ hY h0 => by
  have hcW : W.cell? ⟨Bn, 0, none⟩ = some (.int .i64 ((2 ^ N : Nat) : Int)) := (hbW.cell (p := ⟨Bn, 0, none⟩) (by show Bn < _; omega)).trans hc
  obtain ⟨T, hT⟩ : ∃ T : Nat, T = 2 ^ N := ⟨_, rfl⟩
  rw [← hT] at hcW
  have HT := Lib.hid hT
  have hTl : T ≤ 1048576 := by rw [hT]; exact pow_le20 hN
  clear hc hT
  refine callsIn_of_wp Tryz.func135 rfl trivial ?_ rfl
  simp only [Tryz.ntmps135, List.size_toArray, List.length_cons, List.length_nil, Nat.reduceAdd, Nat.reduceSub, Array.replicate_succ, Array.replicate_zero, List.push_toArray, List.append_toArray, List.nil_append, List.cons_append]
  have HY := Lib.hid hY
  clear hY
  gi_wp2_with fail
  gi_loopw [3] (fun s3 wr => ∃ k v : Nat, k ≤ N ∧ s3 = .int .i64 (v : Int) ∧ Hid (v = 2 ^ (N - k)) ∧ v ≤ 1048576 ∧ J (halvL hN k) wr) (fun s3 _ => (intOf s3).toNat)
  case atStart => exact ⟨0, T, Nat.zero_le _, rfl, HT, hTl, h0⟩
  case round =>
    obtain ⟨k, v, hk, rfl, HV, hv, hJ⟩ := hrel
    by_cases hlt : k < N
    · have hv1 : 1 < v := by
        rw [HV.out]
        exact Nat.lt_of_lt_of_le (by decide) (Nat.pow_le_pow_right (n := 2) (by omega) (show 1 ≤ N - k by omega))
      have hv2 : (1 : Int) < (v : Int) := by omega
      obtain ⟨fn, tmps, assign, body, hy, hR⟩ := HY.out (halvL hN k) (halvX hN k) wr hJ (by rw [halvL_len]; exact hlt)
      have hxv : (halvX hN k).1 = v := HV.out.symm
      rw [hxv] at hy
      clear hxv
      gi_wp2_with fail
      refine hR.mono ?_
      rintro e W3 (⟨rfl, hJ3, -⟩ | ⟨rfl, hJx3⟩)
      · obtain ⟨u, hu⟩ : ∃ u, u = v / 2 := ⟨_, rfl⟩
        have hu2 : (v : Int) / 2 = (u : Int) := by omega
        have hul : u < v := by omega
        have HU := Lib.hid hu
        clear hu
        gi_wp2_with fail
        go_roundw
        case rel =>
          refine ⟨k + 1, u, hlt, rfl, Lib.hid ?_, by omega, ?_⟩
          · have e := HU.out
            rw [HV.out, show N - k = (N - (k + 1)) + 1 by omega, Nat.pow_succ] at e
            omega
          · rw [halvL_succ]; exact hJ3
        case measure => simp [intOf]; omega
      · gi_wp2_with fail
        refine bodyPost_ret (results_none rfl _ _ _) rfl ?_
        exact ⟨⟨_, rfl⟩, .inr ⟨_, trivial, hJx3⟩⟩
    · obtain rfl : k = N := by omega
      have hv1 : v = 1 := by rw [HV.out, Nat.sub_self]
      have hv2 : ¬ (1 : Int) < (v : Int) := by omega
      gi_wp2_with fail
      go_end0
      exact ⟨⟨_, rfl⟩, .inl hJ⟩

theorem rf_gen {α : Type} {enc : α → Value} {F : Fence} {n : Nat} {P : Program} {g : Operand} {p0 : Tmp} {assign body : Code} {Q : Exit → Act → World → Prop} {a : Act} {w : World}
    (hro : F.round = none) (h1 : 1 ≤ n) {gf : Nat} {lb : Array Value} (hg : a.eval g = .func (.func gf) #[] lb) (hFg : F.fn gf) (eg : ∀ args w, (callFunc gf args).run P w = .ok (.enter gf args) w)
    {S Sp : List α → Prop} {N : Nat} {w0 : World} (hseq : SeqStopsK F (n - 1) P gf lb (fun x => #[enc x]) (fun _ _ => True) S Sp N w0) (hb0 : Below w0.heap.size w0 w)
    (I : List α → World → Prop) (hI : OwnFrom w.heap.size I) (h0 : I [] w) (a₁ : α → Act)
    (hassign : ∀ (l : Nat) (x : α) (W : World) (K : Act → World → Prop), K (a₁ x) W →
      assign.wpIn (F.inRound l) (n - 1 - 1) P (Exit.then K (fun _ _ _ => False)) { tmps := a.tmps.setIfInBounds p0 (enc x), defers := [] } W)
    (hbody : ∀ (l : Nat) (pre : List α) (x : α) (W : World), I pre W → pre.length < N → body.wpIn (F.inRound l) (n - 1 - 1) P (ownPostK (fun _ _ => True) I (fun _ _ _ => False) (pre ++ [x]) W) (a₁ x) W)
    (hdone : ∀ (D : Nat) (xs : List α) (W : World), w.heap.size ≤ D → S xs → I xs W → W.heap[D]? = some (.deferred (some [])) → Q .normal { a with defers := { target := .collected D, args := #[] } :: a.defers } W) :
    (Code.rangeFunc g #[p0] assign body).wpIn F n P Q a w :=
  wpIn_rangeFunc_ownF hro h1 hg hFg eg hseq (fun _ _ => trivial) (fun _ _ _ _ _ _ _ _ => trivial) hb0 (fun _ => rfl) I (fun _ _ _ => False) hI (fun _ _ _ _ _ hs _ _ => hs) h0
    a₁ (fun l x W K hK => by have := hassign l x W K hK; simpa using this) hbody hdone (fun _ _ _ _ _ _ h _ => h.elim)
theorem rf_one {α : Type} {enc : α → Value} {F : Fence} {n : Nat} {P : Program} {g : Operand} {p0 : Tmp} (p1 : Tmp) {assign body : Code} {Q : Exit → Act → World → Prop} {a : Act} {w : World}
    (hro : F.round = none) (h1 : 1 ≤ n) {gf : Nat} {lb : Array Value} (hg : a.eval g = .func (.func gf) #[] lb) (hFg : F.fn gf) (eg : ∀ args w, (callFunc gf args).run P w = .ok (.enter gf args) w)
    {S Sp : List α → Prop} {N : Nat} {w0 : World} (hseq : SeqStopsK F (n - 1) P gf lb (fun x => #[enc x]) (fun _ _ => True) S Sp N w0) (hb0 : Below w0.heap.size w0 w)
    (I : List α → World → Prop) (hI : OwnFrom w.heap.size I) (h0 : I [] w)
    (hassign : ∀ (l : Nat) (x : α) (W : World) (K : Act → World → Prop), K { tmps := (a.tmps.setIfInBounds p0 (enc x)).setIfInBounds p1 (enc x), defers := [] } W →
      assign.wpIn (F.inRound l) (n - 1 - 1) P (Exit.then K (fun _ _ _ => False)) { tmps := a.tmps.setIfInBounds p0 (enc x), defers := [] } W)
    (hbody : ∀ (l : Nat) (pre : List α) (x : α) (W : World), I pre W → pre.length < N → body.wpIn (F.inRound l) (n - 1 - 1) P (ownPostK (fun _ _ => True) I (fun _ _ _ => False) (pre ++ [x]) W) { tmps := (a.tmps.setIfInBounds p0 (enc x)).setIfInBounds p1 (enc x), defers := [] } W)
    (hdone : ∀ (D : Nat) (xs : List α) (W : World), w.heap.size ≤ D → S xs → I xs W → W.heap[D]? = some (.deferred (some [])) → Q .normal { a with defers := { target := .collected D, args := #[] } :: a.defers } W) :
    (Code.rangeFunc g #[p0] assign body).wpIn F n P Q a w :=
  rf_gen hro h1 hg hFg eg hseq hb0 I hI h0 (fun x => { tmps := (a.tmps.setIfInBounds p0 (enc x)).setIfInBounds p1 (enc x), defers := [] }) hassign hbody hdone

end Go.Proofs.YtebgmlbbilcbbaaGreatDoor
