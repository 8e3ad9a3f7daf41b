/- Joined by a program: Held, HeldB. -/
import Derived.Deep.RegionHeld
import Derived.OrdersIn
import Derived.RangeFuncCalls
import Derived.AtR
namespace Go.Proofs.YtkpinmejfdnhbaaGreatDoor
open Go
section
variable {P : Program} {ops : Array Oper} {Q : Exit → Act → World → Prop} {md : Region.Mode} {S : World → Prop}
def wpAnyS (P : Program) (md : Region.Mode) (ops : Array Oper) (Q : Exit → Act → World → Prop) (S : World → Prop) (k : Nat) : Nat → Array Bool → Act → World → Prop
 | 0, listed, a, w => Region.ready md ops listed = [] ∧ Q .normal a w
 | fuel + 1, listed, a, w =>
   (Region.ready md ops listed = [] → Q .normal a w) ∧
   ∀ i ∈ Region.ready md ops listed, wpOp P ops Q i (fun a' w' => ((listed.setIfInBounds i true).getD k true = false → S w') ∧ wpAnyS P md ops Q S k fuel (listed.setIfInBounds i true) a' w') a w
theorem wpAny_of_heldS {k : Nat} : ∀ (fuel : Nat) (listed : Array Bool) (a : Act) (w : World), wpAnyS P md ops Q S k fuel listed a w → wpAny P md ops Q fuel listed a w
 | 0, _, _, _, h => h
 | fuel + 1, _, _, _, h => ⟨h.1, fun i hi => wpOp_mono (fun a' w' h' => wpAny_of_heldS fuel _ a' w' h'.2) (h.2 i hi)⟩
theorem getD_set_keep {listed : Array Bool} {i k : Nat} (h : listed.getD k true = true) : (listed.setIfInBounds i true).getD k true = true := by
 by_cases e : i = k
 ·subst e
  by_cases hl : i < listed.size
  ·simp [hl]
  ·simp [hl]
 ·rw [getD_set_ne true e]; exact h
theorem heldS_of_any {k : Nat} : ∀ (fuel : Nat) (listed : Array Bool) (a : Act) (w : World), listed.getD k true = true → wpAny P md ops Q fuel listed a w → wpAnyS P md ops Q S k fuel listed a w
 | 0, _, _, _, _, h => h
 | fuel + 1, listed, _, _, hk, h => ⟨h.1, fun i hi => wpOp_mono (fun a' w' h' => ⟨fun e => absurd (getD_set_keep (i := i) hk) (by rw [e]; simp), heldS_of_any fuel _ a' w' (getD_set_keep hk) h'⟩) (h.2 i hi)⟩
def waitsB (md : Region.Mode) (ops : Array Oper) (listed : Array Bool) (i : Nat) (D : List Nat) : Bool :=
 D.all fun d => !listed.getD d true && (match ops[d]? with | none => true | some o => o.after.any fun e => Region.binds md e && (decide (e.on = i) || D.contains e.on))
theorem waitsB_ready {listed : Array Bool} {i j : Nat} {D : List Nat} (h : waitsB md ops listed i D = true) (hi : i ∈ Region.ready md ops listed) (hj : j ∈ Region.ready md ops listed) : j ∉ D := by
 intro hjD;have h0 := List.all_eq_true.1 h j hjD;obtain ⟨hun, oj, hoj, hall⟩ := mem_ready.1 hj;rw [Bool.and_eq_true, hoj] at h0;obtain ⟨e, he, hb⟩ := Array.any_eq_true'.1 h0.2;rw [Bool.and_eq_true, Bool.or_eq_true] at hb;have h1 := hall e he hb.1;have key : listed.getD e.on true = false := by
  rcases hb.2 with hb | hb
  ·rw [of_decide_eq_true hb]; exact (mem_ready.1 hi).1
  ·have h2 := List.all_eq_true.1 h e.on (by simpa using hb);rw [Bool.and_eq_true] at h2
   simpa using h2.1
 rcases Nat.lt_or_ge e.on listed.size with h' | h'
 ·simp [h'] at key h1; rw [key] at h1; cases h1
 ·simp [Array.getElem?_eq_none h'] at h1
theorem waitsB_set {listed : Array Bool} {i j : Nat} {D : List Nat} (h : waitsB md ops listed i D = true) (hj : j ∉ D) : waitsB md ops (listed.setIfInBounds j true) i D = true := by
 refine List.all_eq_true.2 fun d hd => ?_;have h0 := List.all_eq_true.1 h d hd;rw [getD_set_ne true (fun e => by subst e; exact hj hd)];exact h0
theorem wpAnyS_first {k : Nat} {D : List Nat} (hkD : k ∈ D) {i : Nat} {oi : Oper} {v : Value} (hi : ops[i]? = some oi) (hsel : ∀ (j : Nat) (o : Oper) cs b, ops[j]? = some o → o.op ≠ .select cs b)
 (hQ : ∀ c a w, Q (.panic c) (a.put oi.dst v) w → Q (.panic c) a w) :
 ∀ (fuel : Nat) (listed : Array Bool) (a : Act) (w : World), waitsB md ops listed i D = true →
  (∀ j oj, ops[j]? = some oj → j ≠ i → listed.getD j true = false → (∀ e ∈ oj.after, Region.binds md e = true → e.on ≠ i) → oi.apart ops oj = true) →
  i ∈ Region.ready md ops listed → YieldsIf P ops S oi v a → S w →
  wpAnyS P md ops Q S k fuel (listed.setIfInBounds i true) (a.put oi.dst v) w → wpAnyS P md ops Q S k (fuel + 1) listed a w := by
 intro fuel
 induction fuel with
 | zero =>
   intro listed a w _ _ hr hy hS H;refine ⟨fun h => (by rw [h] at hr; cases hr), fun j hj => ?_⟩
   by_cases hji : j = i
   ·subst hji; exact hy.wpOp hi hS ⟨fun _ => hS, H⟩
   ·have := ready_mono hj hji;rw [H.1] at this
    cases this
 | succ fuel ih =>
   intro listed a w hD hfree hr hy hS H;refine ⟨fun h => (by rw [h] at hr; cases hr), fun j hj => ?_⟩
   by_cases hji : j = i
   ·subst hji; exact hy.wpOp hi hS ⟨fun _ => hS, H⟩
   ·have hjD := waitsB_ready hD hr hj;have hD' := waitsB_set hD hjD;have hk' : ((listed.setIfInBounds j true).setIfInBounds i true).getD k true = false := by
     have h2 := List.all_eq_true.1 hD' k hkD;rw [Bool.and_eq_true] at h2;have hki : i ≠ k := fun e => waitsB_ready hD hr hr (by rw [e]; exact hkD);rw [getD_set_ne true hki]
     simpa using h2.1
    have h1 := H.2 j (ready_mono hj hji);obtain ⟨hjun, oj, hoj, hall⟩ := mem_ready.1 hj;have hnot : ∀ e ∈ oj.after, Region.binds md e = true → e.on ≠ i := fun e he hb heq => by
     have h1 := hall e he hb;have h0 := (mem_ready.1 hr).1;rw [heq] at h1
     rcases Nat.lt_or_ge i listed.size with h' | h'
     ·simp [h'] at h0 h1; rw [h0] at h1; cases h1
     ·simp [Array.getElem?_eq_none h'] at h1
    have h2 := wpOp_putIf hoj (hfree j oj hoj hji hjun hnot) (fun cs b => hsel i oi cs b hi) (fun cs b => hsel j oj cs b hoj) hQ hy h1;have hfree' : ∀ k ok, ops[k]? = some ok → k ≠ i → (listed.setIfInBounds j true).getD k true = false →
     (∀ e ∈ ok.after, Region.binds md e = true → e.on ≠ i) → oi.apart ops ok = true := fun k ok hk hki hun hno => by
     refine hfree k ok hk hki ?_ hno
     by_cases hjk : j = k
     ·subst hjk; exact hjun
     ·rw [getD_set_ne true hjk] at hun; exact hun
    refine wpOp_mono (fun a' w' h3 => ?_) h2;have hc : (listed.setIfInBounds i true).setIfInBounds j true = (listed.setIfInBounds j true).setIfInBounds i true := (Array.setIfInBounds_comm _ _ hji).symm;have hS' : S w' := h3.2.1 (by rw [hc]; exact hk');refine ⟨fun _ => hS', ih (listed.setIfInBounds j true) a' w' hD' hfree' (ready_mono hr (Ne.symm hji)) h3.1 hS' ?_⟩;rw [← hc];exact h3.2.2
theorem wpAnyS_take {k : Nat} (D : List Nat) {i : Nat} {oi : Oper} {v : Value} {fuel : Nat} {listed : Array Bool} {a : Act} {w : World} (hkD : k ∈ D) (hD : waitsB md ops listed i D = true) (hi : ops[i]? = some oi)
 (hs : Region.noSelect ops = true) (hf : Region.free md ops listed i = true) (hr : (Region.ready md ops listed).contains i = true)
 (hQ : ∀ c a w, Q (.panic c) (a.put oi.dst v) w → Q (.panic c) a w) (hy : YieldsIf P ops S oi v a) (hS : S w)
 (h : wpAnyS P md ops Q S k fuel (listed.setIfInBounds i true) (a.put oi.dst v) w) : wpAnyS P md ops Q S k (fuel + 1) listed a w :=
 wpAnyS_first hkD hi (Region.noSelect_spec hs) hQ fuel listed a w hD (Region.free_spec hi hf) (by simpa using hr) hy hS h
theorem wpAnyS_call {k : Nat} {ok : Oper} {fuel : Nat} {listed : Array Bool} {a : Act} {w : World} (hk : ops[k]? = some ok) (hr : Region.ready md ops listed = [k]) (hl : (listed.setIfInBounds k true).getD k true = true)
 (h : ∀ K : Act → World → Prop, Shut (∀ a' w', wpAny P md ops Q fuel (listed.setIfInBounds k true) a' w' → K a' w') → if Region.wanted ok (yielded ops a.tmps) = true then Oper.wp P ok a w K Q else K (a.put ok.dst undef) w) :
 wpAnyS P md ops Q S k (fuel + 1) listed a w := by
 refine ⟨fun h0 => absurd (hr ▸ h0) (by simp), fun j hj => ?_⟩;rw [hr] at hj;obtain rfl : j = k := by simpa using hj
 refine wpOp_mono (fun a' w' h' => ⟨fun e => absurd hl (by rw [e]; simp), heldS_of_any fuel _ a' w' hl h'⟩) ?_;exact wpOp_step (K := wpAny P md ops Q fuel (listed.setIfInBounds j true)) hk (fun K' hK => h K' hK)
theorem wpOpIn_round {l n : Nat} (hnd : ∀ (j : Nat) (o : Oper) c, ops[j]? = some o → o.op ≠ .defer c) (hout : ¬ LetsOut Q) {i : Nat} {K : Act → World → Prop} {a : Act} {w : World}
 (h : wpOp P ops Q i K a w) : wpOpIn (Fence.wide.inRound l) n P ops Q i K a w := by
 unfold wpOp at h;unfold wpOpIn
 cases ho : ops[i]? with
 | none => simp only [ho] at h ⊢; exact h
 | some o =>
   simp only [ho] at h ⊢
   split
   ·rename_i hw
    simp only [hw, if_true] at h
    rcases h with h | h
    ·refine ⟨fun _ _ => trivial, ?_⟩;rw [Oper.semAt_eq _ _ _ (fun c => hnd i o c ho)];unfold Oper.wp at h;generalize (execOp a.eval o).run P w = r at *
     cases r with
     | ok x w' =>
       have hz : (Fence.wide.inRound l).depth.isSome = true → 1 ≤ n := fun e => by simp [Fence.wide] at e
       cases x <;> simp only [Oper.upon, Oper.uponIn] at h ⊢ <;>
        first
         | exact h
         | exact False.elim h
         | exact ⟨hz, CallsIn.inRound l (callsIn_wide.2 h)⟩
         | (refine ⟨hz, ?_⟩
            intro c cs _;obtain ⟨v, w', r, s⟩ := h c cs
            exact ⟨v, w', r, stepsIn_wide.2 s⟩)
     | halt x w' => cases x <;> simp only [Oper.upon, Oper.uponIn] at h ⊢ <;> exact h
    ·exact absurd h.2 hout
   ·rename_i hw
    simp only [hw] at h;exact ⟨fun _ _ => trivial, h⟩
theorem wpAnyIn_round {l n : Nat} (hnd : ∀ (j : Nat) (o : Oper) c, ops[j]? = some o → o.op ≠ .defer c) (hout : ¬ LetsOut Q) : ∀ (fuel : Nat) (listed : Array Bool) (a : Act) (w : World),
 wpAny P md ops Q fuel listed a w → wpAnyIn (Fence.wide.inRound l) n P md ops Q fuel listed a w
 | 0, _, _, _, h => h
 | fuel + 1, _, _, _, h => ⟨h.1, fun i hi => wpOpIn_mono (fun a' w' h' => wpAnyIn_round hnd hout fuel _ a' w' h') (wpOpIn_round hnd hout (h.2 i hi))⟩
def noDefer (ops : Array Oper) : Bool := ops.all fun o => match o.op with | .defer _ => false | _ => true
theorem noDefer_spec (h : noDefer ops = true) (j : Nat) (o : Oper) (c : Call) (ho : ops[j]? = some o) : o.op ≠ .defer c := by
 intro heq;have := Array.all_eq_true_iff_forall_mem.1 h o (Array.mem_of_getElem? ho)
 simp [heq] at this
theorem region_round (S : World → Prop) (k : Nat) {l n id : Nat} {a : Act} {w : World} (hm : P.follows .mixedOrders = true) (hnd : noDefer ops = true) (hout : ¬ LetsOut Q) (hS : S w.drew)
 (h : S w.drew → wpAnyS P .any ops Q S k ops.size (Array.replicate ops.size false) a w.drew) : (Code.region id ops true).wpIn (Fence.wide.inRound l) n P Q a w :=
 wpIn_region_any hm (wpAnyIn_round (noDefer_spec hnd) hout _ _ _ _ (wpAny_of_heldS _ _ _ _ (h hS)))
end
end Go.Proofs.YtkpinmejfdnhbaaGreatDoor
namespace Go.Proofs.YtkpinmejfdnhbaaGreatDoor
open Go
section
variable {P : Program} {ops : Array Oper} {Q : Exit → Act → World → Prop} {md : Region.Mode} {S : World → Prop}
theorem pq1 {α : Type} (l : List α) (i : Nat) (a : α) : l.toArray.setIfInBounds i a = (l.set i a).toArray := List.setIfInBounds_toArray ..
theorem pq2 {α : Type} {a b : α} {l : List α} : (a :: l).set 0 b = b :: l := rfl
theorem pq3 {α : Type} {a b : α} {l : List α} {n : Nat} : (a :: l).set (n + 1) b = a :: l.set n b := rfl
theorem region_here (S : World → Prop) (k : Nat) {id : Nat} {a : Act} {w : World} (hm : P.follows .mixedOrders = true) (hS : S w.drew)
 (h : S w.drew → wpAnyS P .any ops Q S k ops.size (Array.replicate ops.size false) a w.drew) : (Code.region id ops true).wp P Q a w :=
 wp_region_any hm (wpAny_of_heldS _ _ _ _ (h hS))
theorem wpAnyS_one {i k : Nat} {oi : Oper} {fuel : Nat} {listed : Array Bool} {a : Act} {w : World} (hi : ops[i]? = some oi) (hr : Region.ready md ops listed = [i])
 (h : ∀ K : Act → World → Prop, Shut (∀ a' w', S w' → (S w' → wpAnyS P md ops Q S k fuel (listed.setIfInBounds i true) a' w') → K a' w') → if Region.wanted oi (yielded ops a.tmps) = true then Oper.wp P oi a w K Q else K (a.put oi.dst undef) w) :
 wpAnyS P md ops Q S k (fuel + 1) listed a w := by
 refine ⟨fun h0 => absurd (hr ▸ h0) (by simp), fun j hj => ?_⟩;rw [hr] at hj;obtain rfl : j = i := by simpa using hj
 exact wpOp_step hi (fun K' hK => h K' (show ∀ a' w', S w' → (S w' → wpAnyS P md ops Q S k fuel (listed.setIfInBounds j true) a' w') → K' a' w' from fun a' w' hs hw => hK a' w' ⟨fun _ => hs, hw hs⟩))
theorem wpAnyS_two {i j k : Nat} {oi oj : Oper} {fuel : Nat} {listed : Array Bool} {a : Act} {w : World} (hi : ops[i]? = some oi) (hj : ops[j]? = some oj) (hr : Region.ready md ops listed = [i, j])
 (h1 : ∀ K : Act → World → Prop, Shut (∀ a' w', S w' → (S w' → wpAnyS P md ops Q S k fuel (listed.setIfInBounds i true) a' w') → K a' w') → if Region.wanted oi (yielded ops a.tmps) = true then Oper.wp P oi a w K Q else K (a.put oi.dst undef) w)
 (h2 : ∀ K : Act → World → Prop, Shut (∀ a' w', S w' → (S w' → wpAnyS P md ops Q S k fuel (listed.setIfInBounds j true) a' w') → K a' w') → if Region.wanted oj (yielded ops a.tmps) = true then Oper.wp P oj a w K Q else K (a.put oj.dst undef) w) :
 wpAnyS P md ops Q S k (fuel + 1) listed a w := by
 refine ⟨fun h0 => absurd (hr ▸ h0) (by simp), fun m hm => ?_⟩;rw [hr] at hm
 rcases List.mem_cons.1 hm with rfl | hm
 ·exact wpOp_step hi (fun K' hK => h1 K' (show ∀ a' w', S w' → (S w' → wpAnyS P md ops Q S k fuel (listed.setIfInBounds m true) a' w') → K' a' w' from fun a' w' hs hw => hK a' w' ⟨fun _ => hs, hw hs⟩))
 ·obtain rfl : m = j := by simpa using hm
  exact wpOp_step hj (fun K' hK => h2 K' (show ∀ a' w', S w' → (S w' → wpAnyS P md ops Q S k fuel (listed.setIfInBounds m true) a' w') → K' a' w' from fun a' w' hs hw => hK a' w' ⟨fun _ => hs, hw hs⟩))
def waitsD (md : Region.Mode) (ops : Array Oper) (listed : Array Bool) (i : Nat) : List Nat :=
 (List.range ops.size).foldl (fun D d => if !listed.getD d true && (match ops[d]? with | none => false | some o => o.after.any fun e => Region.binds md e && (decide (e.on = i) || D.contains e.on)) then D ++ [d] else D) []
def takeB (md : Region.Mode) (ops : Array Oper) (listed : Array Bool) (i k : Nat) : Bool :=
 (waitsD md ops listed i).contains k && waitsB md ops listed i (waitsD md ops listed i) && Region.noSelect ops && Region.free md ops listed i && (Region.ready md ops listed).contains i
def takeA (md : Region.Mode) (ops : Array Oper) (listed : Array Bool) (i : Nat) : Bool :=
 Region.noSelect ops && Region.free md ops listed i && (Region.ready md ops listed).contains i
theorem tkV {k : Nat} (i : Nat) {o1 o2 o3 o4 o5 o6} (v : Value) {fuel : Nat} {listed : Array Bool} {a a' : Act} {w : World} (hi : ops[i]? = some ⟨o1, o2, o3, o4, o5, o6⟩)
 (hy : YieldsIf P ops S ⟨o1, o2, o3, o4, o5, o6⟩ v a) (h : wpAnyS P md ops Q S k fuel (listed.setIfInBounds i true) a' w) (hb : takeB md ops listed i k = true := by kernel_rfl)
 (ha : a.put o1 v = a' := by ((try simp only [Act.put, pq1, pq2, pq3]); rfl))
 (hS : S w := by assumption) (hQ : ∀ c a1 w, Q (.panic c) (a1.put o1 v) w → Q (.panic c) a1 w := by exact fun _ _ _ h => h) : wpAnyS P md ops Q S k (fuel + 1) listed a w := by
 subst ha;simp only [takeB, Bool.and_eq_true] at hb;exact wpAnyS_take _ (by simpa using hb.1.1.1.1) hb.1.1.1.2 hi hb.1.1.2 hb.1.2 hb.2 (fun c a1 w h => hQ c a1 w h) hy hS h
theorem tkT {k : Nat} (i : Nat) {o1 o2 o3 o4 o5 o6} {v : Value} {fuel : Nat} {listed : Array Bool} {a a' : Act} {w : World} (hi : ops[i]? = some ⟨o1, o2, o3, o4, o5, o6⟩)
 (h : wpAnyS P md ops Q S k fuel (listed.setIfInBounds i true) a' w) (hb : takeB md ops listed i k = true := by kernel_rfl)
 (hw : Region.wanted ⟨o1, o2, o3, o4, o5, o6⟩ (yielded ops a.tmps) = true := by rfl)
 (hy : ∀ w, S w → (execOp a.eval ⟨o1, o2, o3, o4, o5, o6⟩).run P w = .ok (.value v) w := by (intro w hSw; (try dsimp only at hSw); go_simp; try with_reducible rfl))
 (ha : a.put o1 v = a' := by ((try simp only [Act.put, pq1, pq2, pq3]); rfl))
 (hS : S w := by assumption) (hQ : ∀ c a1 w, Q (.panic c) (a1.put o1 v) w → Q (.panic c) a1 w := by exact fun _ _ _ h => h) : wpAnyS P md ops Q S k (fuel + 1) listed a w :=
 tkV i v hi (Or.inl ⟨hw, hy⟩) h hb ha hS hQ
theorem tkU {k : Nat} (i : Nat) {o1 o2 o3 o4 o5 o6} {fuel : Nat} {listed : Array Bool} {a a' : Act} {w : World} (hi : ops[i]? = some ⟨o1, o2, o3, o4, o5, o6⟩)
 (h : wpAnyS P md ops Q S k fuel (listed.setIfInBounds i true) a' w) (hb : takeB md ops listed i k = true := by kernel_rfl)
 (hw : Region.wanted ⟨o1, o2, o3, o4, o5, o6⟩ (yielded ops a.tmps) = false := by rfl)
 (ha : a.put o1 undef = a' := by ((try simp only [Act.put, pq1, pq2, pq3]); rfl))
 (hS : S w := by assumption) (hQ : ∀ c a1 w, Q (.panic c) (a1.put o1 undef) w → Q (.panic c) a1 w := by exact fun _ _ _ h => h) : wpAnyS P md ops Q S k (fuel + 1) listed a w :=
 tkV i undef hi (Or.inr ⟨hw, rfl⟩) h hb ha hS hQ
theorem tkW (i : Nat) {o1 o2 o3 o4 o5 o6} (v : Value) {fuel : Nat} {listed : Array Bool} {a a' : Act} {w : World} (hi : ops[i]? = some ⟨o1, o2, o3, o4, o5, o6⟩)
 (hy : Yields P ops ⟨o1, o2, o3, o4, o5, o6⟩ v a) (h : wpAny P md ops Q fuel (listed.setIfInBounds i true) a' w) (hb : takeA md ops listed i = true := by kernel_rfl)
 (ha : a.put o1 v = a' := by ((try simp only [Act.put, pq1, pq2, pq3]); rfl))
 (hQ : ∀ c a1 w, Q (.panic c) (a1.put o1 v) w → Q (.panic c) a1 w := by exact fun _ _ _ h => h) : wpAny P md ops Q (fuel + 1) listed a w := by
 subst ha;simp only [takeA, Bool.and_eq_true] at hb;exact wpAny_take hi hb.1.1 hb.1.2 hb.2 (fun c a1 w h => hQ c a1 w h) hy h
theorem tkB (i : Nat) {o1 o2 o3 o4 o5 o6} {v : Value} {fuel : Nat} {listed : Array Bool} {a a' : Act} {w : World} (hi : ops[i]? = some ⟨o1, o2, o3, o4, o5, o6⟩)
 (h : wpAny P md ops Q fuel (listed.setIfInBounds i true) a' w) (hb : takeA md ops listed i = true := by kernel_rfl)
 (hw : Region.wanted ⟨o1, o2, o3, o4, o5, o6⟩ (yielded ops a.tmps) = true := by rfl)
 (hy : ∀ w, (execOp a.eval ⟨o1, o2, o3, o4, o5, o6⟩).run P w = .ok (.value v) w := by (intro w; go_simp; try with_reducible rfl))
 (ha : a.put o1 v = a' := by ((try simp only [Act.put, pq1, pq2, pq3]); rfl))
 (hQ : ∀ c a1 w, Q (.panic c) (a1.put o1 v) w → Q (.panic c) a1 w := by exact fun _ _ _ h => h) : wpAny P md ops Q (fuel + 1) listed a w :=
 tkW i v hi (Or.inl ⟨hw, hy⟩) h hb ha hQ
theorem tkO {k : Nat} (i : Nat) {o1 o2 o3 o4 o5 o6} {fuel : Nat} {listed : Array Bool} {a : Act} {w : World} (hi : ops[i]? = some ⟨o1, o2, o3, o4, o5, o6⟩)
 (h : ∀ K : Act → World → Prop, Shut (∀ a' w', S w' → (S w' → wpAnyS P md ops Q S k fuel (listed.setIfInBounds i true) a' w') → K a' w') → if Region.wanted ⟨o1, o2, o3, o4, o5, o6⟩ (yielded ops a.tmps) = true then Oper.wp P ⟨o1, o2, o3, o4, o5, o6⟩ a w K Q else K (a.put o1 undef) w)
 (hr : Region.ready md ops listed = [i] := by kernel_rfl) : wpAnyS P md ops Q S k (fuel + 1) listed a w := wpAnyS_one hi hr h
theorem tkK (k : Nat) {o1 o2 o3 o4 o5 o6} {fuel : Nat} {listed : Array Bool} {a : Act} {w : World} (hk : ops[k]? = some ⟨o1, o2, o3, o4, o5, o6⟩)
 (h : ∀ K : Act → World → Prop, Shut (∀ a' w', wpAny P md ops Q fuel (listed.setIfInBounds k true) a' w' → K a' w') → if Region.wanted ⟨o1, o2, o3, o4, o5, o6⟩ (yielded ops a.tmps) = true then Oper.wp P ⟨o1, o2, o3, o4, o5, o6⟩ a w K Q else K (a.put o1 undef) w)
 (hr : Region.ready md ops listed = [k] := by kernel_rfl) (hl : (listed.setIfInBounds k true).getD k true = true := by kernel_rfl) : wpAnyS P md ops Q S k (fuel + 1) listed a w := wpAnyS_call hk hr hl h
theorem tkD {listed : Array Bool} {a : Act} {w : World} {fuel : Nat} (h : Q .normal a w) (hr : Region.ready md ops listed = [] := by kernel_rfl) : wpAny P md ops Q fuel listed a w := wpAny_done hr h fuel
theorem tkR (i : Nat) {o1 o2 o3 o4 o5 o6} {fuel : Nat} {listed : Array Bool} {a : Act} {w : World} (hi : ops[i]? = some ⟨o1, o2, o3, o4, o5, o6⟩)
 (h : ∀ K : Act → World → Prop, (∀ a' w', wpAny P md ops Q fuel (listed.setIfInBounds i true) a' w' → K a' w') → if Region.wanted ⟨o1, o2, o3, o4, o5, o6⟩ (yielded ops a.tmps) = true then Oper.wp P ⟨o1, o2, o3, o4, o5, o6⟩ a w K Q else K (a.put o1 undef) w)
 (hr : Region.ready md ops listed = [i] := by kernel_rfl) : wpAny P md ops Q (fuel + 1) listed a w :=
 wpAny_ready hr (by simp) (AllReady.cons hi h AllReady.nil)
theorem exq {α : Sort _} (a : α) : ∃ x, x = a := ⟨a, rfl⟩
end
end Go.Proofs.YtkpinmejfdnhbaaGreatDoor
