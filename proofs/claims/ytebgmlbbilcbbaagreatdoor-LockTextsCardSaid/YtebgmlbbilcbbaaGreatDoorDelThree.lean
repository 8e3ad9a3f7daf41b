/- Joined by a program: DelF, DelG. -/
import Derived.RangeFuncNested
import Derived.RangeFuncBound
import Derived.RangeFuncCalls
import Derived.RangeFuncLeaves
import Derived.Shelf.Abstract
import Derived.Shelf.RegionOpen
import Derived.OwnWalkIn
import Derived.TacticsInMore
import Derived.LoopNIn
import Derived.LoopIn
import Derived.Test.YtebgmlbbilcbbaaGreatDoorDelTwo
import Derived.Test.YtebgmlbbilcbbaaGreatDoorHelps
namespace Go.Proofs.YtebgmlbbilcbbaaGreatDoor
open Go.RowKit Go.Shelf
attribute [local go_sem] Oper.semAt_some

/-- A number of steps. -/
abbrev H20 := { x : Nat // x ≤ 1048576 }
/-- The i-th number that the iterator visits. -/
def halvX {N : Nat} (hN : N ≤ 20) (i : Nat) : H20 := ⟨2 ^ (N - i), pow_le20 (by omega)⟩
/-- The numbers that the iterator visits. -/
def halvL {N : Nat} (hN : N ≤ 20) (k : Nat) : List H20 := (List.range k).map (halvX hN)
theorem halvL_succ {N : Nat} (hN : N ≤ 20) (k : Nat) : halvL hN (k + 1) = halvL hN k ++ [halvX hN k] := by simp [halvL, List.range_succ]
theorem halvL_len {N : Nat} (hN : N ≤ 20) (k : Nat) : (halvL hN k).length = k := by simp [halvL]
/-- What has come is what the iterator visits first. -/
def Good {N : Nat} (hN : N ≤ 20) (pre : List H20) : Prop := pre = halvL hN pre.length
theorem Good.snoc {N : Nat} {hN : N ≤ 20} {pre : List H20} {x : H20} (h : Good hN (pre ++ [x])) : Good hN pre ∧ x = halvX hN pre.length := by
  unfold Good at h
  rw [List.length_append, List.length_cons, List.length_nil, Nat.zero_add, halvL_succ] at h
  have h2 := List.append_inj' h rfl
  exact ⟨h2.1, by simpa using h2.2⟩
theorem Good.all {N : Nat} (hN : N ≤ 20) (k : Nat) : Good hN (halvL hN k) := by unfold Good; rw [halvL_len]

theorem halvings_any (t : Int) (w : World) :
    Calls Tryz.prog 79 #[.int .i64 t] w fun e w' => e = .returned (.func (.func 135) #[] #[.pointer (some ⟨w.heap.size, 0, none⟩)]) ∧ w.alloc (.cells #[.int .i64 t] 3) = w' := by
  go_enter Tryz.func79, Tryz.ntmps79
  go_wp2_with fail
  go_ret
  exact ⟨rfl, rfl⟩

set_option maxRecDepth 100000 in
set_option maxHeartbeats 2000000 in
theorem halvings_stops (n Bn : Nat) (_hn : 1 ≤ n) (N : Nat) (hN : N ≤ 20) (w : World) (hle : Bn < w.heap.size) (hc : w.cell? ⟨Bn, 0, none⟩ = some (.int .i64 ((2 ^ N : Nat) : Int))) :
    SeqStopsK Fence.wide n Tryz.prog 135 #[.pointer (some ⟨Bn, 0, none⟩)] (fun x : H20 => #[.int .i64 (x.1 : Int)]) (fun _ _ => True) (fun xs => xs = halvL hN N) (fun _ => True) N w := fun l J Jx W hbW _ _ hY h0 => by
  have hcW : W.cell? ⟨Bn, 0, none⟩ = some (.int .i64 ((2 ^ N : Nat) : Int)) := (hbW.cell (p := ⟨Bn, 0, none⟩) (by show Bn < _; omega)).trans hc
  obtain ⟨T, hT⟩ : ∃ T : Nat, T = 2 ^ N := ⟨_, rfl⟩
  rw [← hT] at hcW
  have HT := Lib.hid hT
  have hTl : T ≤ 1048576 := by rw [hT]; exact pow_le20 hN
  clear hc hT
  refine callsIn_of_wp Tryz.func135 rfl trivial ?_ rfl
  simp only [Tryz.ntmps135, List.size_toArray, List.length_cons, List.length_nil, Nat.reduceAdd, Nat.reduceSub, Array.replicate_succ, Array.replicate_zero, List.push_toArray, List.append_toArray, List.nil_append, List.cons_append]
  have HY := Lib.hid hY
  clear hY
  gi_wp2_with fail
  gi_loopw [3] (fun s3 wr => ∃ k v : Nat, k ≤ N ∧ s3 = .int .i64 (v : Int) ∧ Hid (v = 2 ^ (N - k)) ∧ v ≤ 1048576 ∧ J (halvL hN k) wr) (fun s3 _ => (intOf s3).toNat)
  case atStart => exact ⟨0, T, Nat.zero_le _, rfl, HT, hTl, h0⟩
  case round =>
    obtain ⟨k, v, hk, rfl, HV, hv, hJ⟩ := hrel
    by_cases hlt : k < N
    · have hv1 : 1 < v := by
        rw [HV.out]
        exact Nat.lt_of_lt_of_le (by decide) (Nat.pow_le_pow_right (n := 2) (by omega) (show 1 ≤ N - k by omega))
      have hv2 : (1 : Int) < (v : Int) := by omega
      obtain ⟨fn, tmps, assign, body, hy, hR⟩ := HY.out (halvL hN k) (halvX hN k) wr hJ (by rw [halvL_len]; exact hlt)
      have hxv : (halvX hN k).1 = v := HV.out.symm
      rw [hxv] at hy
      clear hxv
      gi_wp2_with fail
      refine hR.mono ?_
      rintro e W3 (⟨rfl, hJ3, -⟩ | ⟨rfl, hJx3⟩)
      · obtain ⟨u, hu⟩ : ∃ u, u = v / 2 := ⟨_, rfl⟩
        have hu2 : (v : Int) / 2 = (u : Int) := by omega
        have hul : u < v := by omega
        have HU := Lib.hid hu
        clear hu
        gi_wp2_with fail
        go_roundw
        case rel =>
          refine ⟨k + 1, u, hlt, rfl, Lib.hid ?_, by omega, ?_⟩
          · have e := HU.out
            rw [HV.out, show N - k = (N - (k + 1)) + 1 by omega, Nat.pow_succ] at e
            omega
          · rw [halvL_succ]; exact hJ3
        case measure => simp [intOf]; omega
      · gi_wp2_with fail
        refine bodyPost_ret (results_none rfl _ _ _) rfl ?_
        exact ⟨⟨_, rfl⟩, .inr ⟨_, trivial, hJx3⟩⟩
    · obtain rfl : k = N := by omega
      have hv1 : v = 1 := by rw [HV.out, Nat.sub_self]
      have hv2 : ¬ (1 : Int) < (v : Int) := by omega
      gi_wp2_with fail
      go_end0
      exact ⟨⟨_, rfl⟩, .inl hJ⟩

theorem rf_gen {α : Type} {enc : α → Value} {F : Fence} {n : Nat} {P : Program} {g : Operand} {p0 : Tmp} {assign body : Code} {Q : Exit → Act → World → Prop} {a : Act} {w : World}
    (hro : F.round = none) (h1 : 1 ≤ n) {gf : Nat} {lb : Array Value} (hg : a.eval g = .func (.func gf) #[] lb) (hFg : F.fn gf) (eg : ∀ args w, (callFunc gf args).run P w = .ok (.enter gf args) w)
    {S Sp : List α → Prop} {N : Nat} {w0 : World} (hseq : SeqStopsK F (n - 1) P gf lb (fun x => #[enc x]) (fun _ _ => True) S Sp N w0) (hb0 : Below w0.heap.size w0 w)
    (I : List α → World → Prop) (hI : OwnFrom w.heap.size I) (h0 : I [] w) (a₁ : α → Act)
    (hassign : ∀ (l : Nat) (x : α) (W : World) (K : Act → World → Prop), K (a₁ x) W →
      assign.wpIn (F.inRound l) (n - 1 - 1) P (Exit.then K (fun _ _ _ => False)) { tmps := a.tmps.setIfInBounds p0 (enc x), defers := [] } W)
    (hbody : ∀ (l : Nat) (pre : List α) (x : α) (W : World), I pre W → pre.length < N → body.wpIn (F.inRound l) (n - 1 - 1) P (ownPostK (fun _ _ => True) I (fun _ _ _ => False) (pre ++ [x]) W) (a₁ x) W)
    (hdone : ∀ (D : Nat) (xs : List α) (W : World), w.heap.size ≤ D → S xs → I xs W → W.heap[D]? = some (.deferred (some [])) → Q .normal { a with defers := { target := .collected D, args := #[] } :: a.defers } W) :
    (Code.rangeFunc g #[p0] assign body).wpIn F n P Q a w :=
  wpIn_rangeFunc_ownF hro h1 hg hFg eg hseq (fun _ _ => trivial) (fun _ _ _ _ _ _ _ _ => trivial) hb0 (fun _ => rfl) I (fun _ _ _ => False) hI (fun _ _ _ _ _ hs _ _ => hs) h0
    a₁ (fun l x W K hK => by have := hassign l x W K hK; simpa using this) hbody hdone (fun _ _ _ _ _ _ h _ => h.elim)
theorem rf_one {α : Type} {enc : α → Value} {F : Fence} {n : Nat} {P : Program} {g : Operand} {p0 : Tmp} (p1 : Tmp) {assign body : Code} {Q : Exit → Act → World → Prop} {a : Act} {w : World}
    (hro : F.round = none) (h1 : 1 ≤ n) {gf : Nat} {lb : Array Value} (hg : a.eval g = .func (.func gf) #[] lb) (hFg : F.fn gf) (eg : ∀ args w, (callFunc gf args).run P w = .ok (.enter gf args) w)
    {S Sp : List α → Prop} {N : Nat} {w0 : World} (hseq : SeqStopsK F (n - 1) P gf lb (fun x => #[enc x]) (fun _ _ => True) S Sp N w0) (hb0 : Below w0.heap.size w0 w)
    (I : List α → World → Prop) (hI : OwnFrom w.heap.size I) (h0 : I [] w)
    (hassign : ∀ (l : Nat) (x : α) (W : World) (K : Act → World → Prop), K { tmps := (a.tmps.setIfInBounds p0 (enc x)).setIfInBounds p1 (enc x), defers := [] } W →
      assign.wpIn (F.inRound l) (n - 1 - 1) P (Exit.then K (fun _ _ _ => False)) { tmps := a.tmps.setIfInBounds p0 (enc x), defers := [] } W)
    (hbody : ∀ (l : Nat) (pre : List α) (x : α) (W : World), I pre W → pre.length < N → body.wpIn (F.inRound l) (n - 1 - 1) P (ownPostK (fun _ _ => True) I (fun _ _ _ => False) (pre ++ [x]) W) { tmps := (a.tmps.setIfInBounds p0 (enc x)).setIfInBounds p1 (enc x), defers := [] } W)
    (hdone : ∀ (D : Nat) (xs : List α) (W : World), w.heap.size ≤ D → S xs → I xs W → W.heap[D]? = some (.deferred (some [])) → Q .normal { a with defers := { target := .collected D, args := #[] } :: a.defers } W) :
    (Code.rangeFunc g #[p0] assign body).wpIn F n P Q a w :=
  rf_gen hro h1 hg hFg eg hseq hb0 I hI h0 (fun x => { tmps := (a.tmps.setIfInBounds p0 (enc x)).setIfInBounds p1 (enc x), defers := [] }) hassign hbody hdone

end Go.Proofs.YtebgmlbbilcbbaaGreatDoor
namespace Go.Proofs.YtebgmlbbilcbbaaGreatDoor
open Go.RowKit Go.Shelf
attribute [local go_sem] Oper.semAt_some

/-- A slice of strings, all known. -/
structure NDg (w : World) (A : Option Addr) (n c : Nat) (xs : List ByteArray) : Prop where
  len : xs.length = n
  cap : n ≤ c
  at_ : 0 < n → ∃ b o, A = some ⟨b, o, none⟩ ∧ ∀ (j : Nat) (x : ByteArray), xs[j]? = some x → w.cell? ⟨b, o + j, none⟩ = some (.string x)
theorem NDg.get {w : World} {A : Option Addr} {n c k : Nat} {xs : List ByteArray} (h : NDg w A n c xs) (hk : k < n) :
    ∃ (b o : Nat) (a : ByteArray), A = some ⟨b, o, none⟩ ∧ xs[k]? = some a ∧ w.cell? ⟨b, o + k, none⟩ = some (.string a) := by
  obtain ⟨b, o, e, hc⟩ := h.at_ (by omega)
  have hl : k < xs.length := by have := h.len; omega
  exact ⟨b, o, xs[k], e, List.getElem?_eq_getElem hl, hc k _ (List.getElem?_eq_getElem hl)⟩
theorem NDg.below {w w' : World} {A : Option Addr} {n c : Nat} {xs : List ByteArray} (h : NDg w A n c xs) (hb : Below w.heap.size w w') : NDg w' A n c xs := by
  refine ⟨h.len, h.cap, fun hn => ?_⟩
  obtain ⟨b, o, e, hc⟩ := h.at_ hn
  exact ⟨b, o, e, fun j x hx => (hb.cell (p := ⟨b, o + j, none⟩) (block_lt_of_cell (hc j x hx))).trans (hc j x hx)⟩
theorem NDg.kept {W W' : World} {row : Option Nat} {A : Option Addr} {n c : Nat} {xs : List ByteArray} (h : NDg W A n c xs) (hg : W.grownBy W' row) (hrow : ∀ r, row = some r → ∃ o : Obj, W.heap[r]? = some o ∧ o.isCells = false) : NDg W' A n c xs := by
  refine ⟨h.len, h.cap, fun hn => ?_⟩
  obtain ⟨b, o, e, hc⟩ := h.at_ hn
  exact ⟨b, o, e, fun j d hd => cell_kept (hc j d hd) hg hrow⟩
/-- The cells of a string of a slice. -/
def encT (s : ByteArray) : List Value := [.string s]
theorem encT_len (s : ByteArray) : (encT s).length = 1 := rfl
theorem encT_one (s : ByteArray) : ∀ u ∈ encT s, u.oneCell' = true := fun u hu => by
  simp only [encT, List.mem_singleton] at hu
  subst hu; rfl
theorem nat_info : (Tryz.prog.info? 25).map (fun i => (i.zero, i.size, i.bytes)) = some (some (.string ⟨#[]⟩), 1, 16) := by kernel_rfl
abbrev OwnT (B : Nat) (w : World) (v : Value) (l : List ByteArray) : Prop := OwnL encT 25 1 B w v l
theorem OwnT.ndg {B : Nat} {w : World} {v : Value} {l : List ByteArray} (h : OwnT B w v l) : ∃ A c, v = .slice A l.length c ∧ NDg w A l.length c l := by
  obtain ⟨A, c, rfl, hr⟩ := OwnL.row h encT_len
  refine ⟨A, c, rfl, hr.len, hr.cap, fun h0 => ?_⟩
  obtain ⟨b, o, e, hc⟩ := hr.at_ h0
  exact ⟨b, o, e, fun j x hx => by have := hc j 0 x (.string x) hx rfl; simpa using this⟩
theorem OwnT.kept {B : Nat} {W W' : World} {v : Value} {l : List ByteArray} {row : Option Nat} (h : OwnT B W v l) (hg : W.grownBy W' row) (hrow : ∀ r, row = some r → ∃ o : Obj, W.heap[r]? = some o ∧ o.isCells = false) : OwnT B W' v l := by
  refine OwnL.kept h hg ?_
  rcases h.2 with ⟨rfl, _⟩ | ⟨g, cap, cur, rfl, _, hh, _⟩
  · exact .inl rfl
  · refine .inr (fun e => ?_)
    have e2 : row = some g := by rw [← e]; rfl
    obtain ⟨o, h1, h2⟩ := hrow g e2
    rw [hh] at h1
    obtain rfl := Option.some.inj h1
    simp [Obj.isCells] at h2

/-- append of one element onto a row of the call's own, within a round. -/
theorem wpIn_append_row {F : Fence} {n : Nat} {α : Type} {enc : α → List Value} {e t : TypeId} {s bytes : Nat} {z : Value} (hund : Tryz.prog.underlying t = some (.slice e)) (hinf : (Tryz.prog.info? e).map (fun i => (i.zero, i.size, i.bytes)) = some (some z, s, bytes)) (hzs : z.cells.size = s) (hs0 : 0 < s) (hby : bytes ≤ 100000)
    {ops : Array Oper} {rest : List Oper} {o : Oper} {a : Act} {Q : Exit → Act → World → Prop} (hgd : o.guard = none) (p x : Operand)
    (ho : o.op = .call { callee := .builtin .append, args := #[p, x], argTypes := #[t, t] }) {B : Nat} {wo : World} {v : Value} {l : List α} (d : α) {cells : Array Value} (hc : cells = (enc d).toArray) (hlen : ∀ y, (enc y).length = s) (h1 : ∀ u ∈ enc d, u.oneCell' = true) (hs : a.eval p = v) (hown : OwnL enc e s B wo v l)
    (hx : a.eval x = .slice (some ⟨wo.heap.size, 0, none⟩) 1 1) (hl : l.length ≤ 1000000) (hB : B ≤ wo.heap.size)
    (h : ∀ g c w', OwnL enc e s B w' (.slice (some ⟨g, 0, none⟩) (l.length + 1) c) (l ++ [d]) → wo.grownBy w' v.ownBlock → wpListIn F n Tryz.prog ops Q rest (a.put o.dst (.slice (some ⟨g, 0, none⟩) (l.length + 1) c)) w') :
    wpListIn F n Tryz.prog ops Q (o :: rest) a (wo.alloc (.cells cells e)) := by
  subst hc
  obtain ⟨i0, hi0, hz0, hz1, hz2⟩ := info_parts hinf
  refine wpListIn_append_own _ hgd p x t ho B e i0 z s bytes hund hi0 hz0 hz1 hz2 hzs hs0 v l.length (l.flatMap enc) hs (World.ownsRow.alloc hown _) ⟨wo.heap.size, 0, none⟩ 1 1 (enc d) hx (by rw [hlen]; omega) ?_ h1 ?_ ?_ ?_ ?_
  · intro j u hu
    rw [add_addr, Nat.zero_add]
    exact ((Blk.new wo e (enc d).toArray).cell j).trans (by simpa using hu)
  · unfold maxLen; omega
  · exact Nat.le_trans (Nat.mul_le_mul_left _ hby) (by omega)
  · rw [World.size_alloc]; omega
  · intro v' w' ho' hg' _
    have hO : OwnL enc e s B w' v' (l ++ [d]) := by
      unfold OwnL
      rw [List.length_append, List.flatMap_append]
      simpa using ho'
    rcases OwnL.at_ hO hlen with ⟨_, h0⟩ | ⟨g, cc, rfl, _⟩
    · simp at h0
    · have hL : (l ++ [d]).length = l.length + 1 := by simp
      rw [hL] at hO ⊢
      exact h g cc w' hO (grown_trans (grown_of_below ((Below.refl _ _).alloc (Nat.le_refl _) _) _) hg')

theorem own_low {α : Type} {enc : α → List Value} {e : TypeId} {s B : Nat} {w : World} {v : Value} {l : List α} (h : OwnL enc e s B w v l) {k : Nat} (hk : k < B) : some k ≠ v.ownBlock := by
  rcases h.2 with ⟨rfl, _⟩ | ⟨g, cap, cur, rfl, hB, _⟩
  · intro e; cases e
  · intro e
    have : k = g := Option.some.inj e
    omega

theorem own_high {α : Type} {enc : α → List Value} {e : TypeId} {s B : Nat} {w : World} {v : Value} {l : List α} (h : OwnL enc e s B w v l) : ∀ k, v.ownBlock = some k → B ≤ k := by
  intro k hk
  rcases h.2 with ⟨rfl, _⟩ | ⟨g, cap, cur, rfl, hB, _⟩
  · cases hk
  · obtain rfl : g = k := Option.some.inj hk
    exact hB
theorem own_cells {α : Type} {enc : α → List Value} {e : TypeId} {s B : Nat} {w : World} {v : Value} {l : List α} (h : OwnL enc e s B w v l) : ∀ (j : Nat) (o : Obj), v.ownBlock = some j → w.heap[j]? = some o → o.isCells = true := by
  intro k o hk ho
  rcases h.2 with ⟨rfl, _⟩ | ⟨g, cap, cur, rfl, hB, hh, _⟩
  · cases hk
  · obtain rfl : g = k := Option.some.inj hk
    rw [hh] at ho
    obtain rfl := Option.some.inj ho
    rfl
theorem keeps_below {W W' : World} (hb : Below W.heap.size W W') : KeepsOthers W W' := KeepsOthers.of_grownBy (grown_of_below hb none) (fun _ _ e => by cases e)
theorem own_set {α : Type} {enc : α → List Value} {e : TypeId} {s B : Nat} {w : World} {v : Value} {l : List α} (h : OwnL enc e s B w v l) {k : Nat} (hk : k < B) (i : Nat) (u : Value) : OwnL enc e s B (w.setCell ⟨k, i, none⟩ u) v l :=
  OwnL.kept h (grown_set (grown_refl w (some k)) i u) (.inr (Ne.symm (own_low h hk)))

/-- What Prove gives. -/
def ProvePost (n : Nat) (X : Nat) (w : World) (e : Ending) (w' : World) : Prop :=
  ∃ (A : Option Addr) (c : Nat) (ms : List Nat), e = .returned (.tuple #[.string (natS (ranN X (2 ^ n))), .slice A n c, .bool true]) ∧ NDg w' A n c (ms.map natS) ∧ ms.length = n ∧ (∀ m ∈ ms, m < modN) ∧ (0 < n → ms[0]? = some (ranN X (2 ^ n / 2))) ∧ Below w.heap.size w w'

set_option maxRecDepth 100000 in
set_option maxHeartbeats 4000000 in
theorem Prove_yes (x : ByteArray) (n : Nat) (hx : x.size ≤ 400) (hn : n ≤ 20) (w : World) (hT : Tabs w) :
    Calls Tryz.prog 26 #[.string x, .int .i64 ((2 ^ n : Nat) : Int)] w fun e w' => ProvePost n (sval x) w e w' := by
  obtain ⟨X, hX⟩ : ∃ X, X = sval x := ⟨_, rfl⟩
  have hXs : (natS (X % modN)).size ≤ 16 := natS_mod X
  have m1 := Lib.hid (power_yes n hn)
  have m2 := Lib.hid (rest_q x (by omega))
  have h20 := pow_le20 hn
  have m3 : Hid (Ret 36 #[.string (natS (X % modN)), .int .i64 ((2 ^ n : Nat) : Int)] (.tuple #[.string (natS (ranN X (2 ^ n))), .bool true])) := Lib.hid ((Run_yes (natS (X % modN)) (2 ^ n) (by omega) h20).of (by rw [sval_natS, ranN_mod]))
  rw [← hX] at m2 ⊢
  obtain ⟨T, hTT⟩ : ∃ T : Nat, T = 2 ^ n := ⟨_, rfl⟩
  unfold ProvePost
  rw [← hTT] at m1 m3 h20 ⊢
  have HTT := Lib.hid hTT
  have HT := Lib.hid hT
  clear hTT hT hX
  refine (callsIn_wide (n := 4)).1 ?_
  refine callsIn_of_wp_marks Tryz.func26 rfl trivial ?_ rfl
  refine wpIn_wide.2 ?_
  simp only [Tryz.ntmps26, List.size_toArray, List.length_cons, List.length_nil, Nat.reduceAdd, Nat.reduceSub, Array.replicate_succ, Array.replicate_zero, List.push_toArray, List.append_toArray, List.nil_append, List.cons_append]
  go_wp2_with fail
  refine (m1.out _).mono ?_
  rintro e w1 ⟨rfl, hb1⟩
  go_wp2_with fail
  refine (m2.out _).mono ?_
  rintro e w2 ⟨rfl, hb2⟩
  go_wp2_with fail
  refine (m3.out _).mono ?_
  rintro e w3 ⟨rfl, hb3⟩
  go_wp2_with fail
  refine (halvings_any _ _).mono ?_
  rintro e w4 ⟨rfl, rfl⟩
  go_wp2_with fail
  obtain ⟨B5, hB5⟩ : ∃ b, b = w.heap.size := ⟨_, rfl⟩
  obtain ⟨B7, hB7⟩ : ∃ b, b = w2.heap.size := ⟨_, rfl⟩
  obtain ⟨B8, hB8⟩ : ∃ b, b = w3.heap.size := ⟨_, rfl⟩
  have k5 : Blk w3 w.heap.size 28 #[.slice none 0 0] := by
    have a1 := (Blk.new w 28 #[.slice none 0 0])
    have a2 := a1.below hb1 a1.lt
    have a3 := a2.below hb2 a2.lt
    have a4 := a3.alloc (.cells #[.string (natS (X % modN))] 25)
    exact a4.below hb3 a4.lt
  have k7 : Blk w3 w2.heap.size 25 #[.string (natS (X % modN))] := by
    have a1 := (Blk.new w2 25 #[.string (natS (X % modN))])
    exact a1.below hb3 a1.lt
  have hw3 : Below w.heap.size w w3 := below_then (below_al (below_then (below_then (below_al (Below.refl _ _) _) hb1) hb2) _) hb3
  have k8 := Blk.new w3 25 #[.string (natS (ranN X T))]
  have z1 := hb1.size
  have z2 := hb2.size
  have z3 := hb3.size
  rw [World.size_alloc] at z1 z3
  have hW4 : Below w3.heap.size w3 ((w3.alloc (.cells #[.string (natS (ranN X T))] 25)).alloc (.cells #[.int .i64 (T : Int)] 3)) := below_al (below_al (Below.refl _ _) _) _
  have kn := Blk.new (w3.alloc (.cells #[.string (natS (ranN X T))] 25)) 3 #[.int .i64 (T : Int)]
  rw [World.size_alloc] at kn
  replace k5 := k5.below hW4 k5.lt
  replace k7 := k7.below hW4 k7.lt
  replace k8 := k8.alloc (.cells #[.int .i64 (T : Int)] 3)
  have z4 : ((w3.alloc (.cells #[.string (natS (ranN X T))] 25)).alloc (.cells #[.int .i64 (T : Int)] 3)).heap.size = w3.heap.size + 2 := by rw [World.size_alloc, World.size_alloc]
  have hw4 := below_then hw3 hW4
  generalize ((w3.alloc (.cells #[.string (natS (ranN X T))] 25)).alloc (.cells #[.int .i64 (T : Int)] 3)) = w4 at k5 k7 k8 kn z4 hw4 ⊢
  rw [← hB5] at k5 z1
  rw [← hB7] at k7 z2
  rw [← hB8] at k8 z3 kn z4 ⊢
  have HZ : B5 < B7 ∧ B7 < B8 ∧ B8 + 2 = w4.heap.size ∧ w.heap.size ≤ B5 := by omega
  rw [← hB5, ← hB7]
  clear hw3 hW4 hb1 hb2 hb3 z1 z2 z3 z4 hB5 hB7 hB8 m1 m2 m3
  obtain ⟨z1, z2, z3, z0⟩ := HZ
  have hcn : w4.cell? ⟨B8 + 1, 0, none⟩ = some (.int .i64 ((2 ^ n : Nat) : Int)) := by rw [← HTT.out]; exact kn.cell 0
  refine (wpIn_wide (n := 4)).1 ?_
  refine rf_one 9 rfl (by omega) (gf := 135) (lb := #[.pointer (some ⟨B8 + 1, 0, none⟩)]) rfl trivial (enters_of Tryz.func135 (by kernel_rfl) rfl)
    (halvings_stops _ (B8 + 1) (by omega) n hn w4 (by omega) hcn) (Below.refl _ _)
    (fun pre W => ∃ (v : Value) (Xk Yk : Nat) (ms : List Nat), Blk W B5 28 #[v] ∧ OwnT w4.heap.size W v (ms.map natS) ∧ Blk W B7 25 #[.string (natS Xk)] ∧ Blk W B8 25 #[.string (natS Yk)] ∧ Hid (Xk < modN ∧ Yk < modN ∧ ms.length = pre.length ∧ (∀ m ∈ ms, m < modN) ∧ (pre = [] → Xk = X % modN) ∧ (Good hn pre → pre ≠ [] → ms[0]? = some (ranN X (T / 2)))) ∧ Below w.heap.size w W ∧ w4.heap.size ≤ W.heap.size)
    ?own ?start ?assign ?body ?done
  case own =>
    rintro pre A' B' row ⟨v, Xk, Yk, ms, k1, k2, k3, k4, HI, hB, hW⟩ hg hr
    have hr' := fun r e => (hr r e).2
    exact ⟨v, Xk, Yk, ms, blk_kept k1 hg hr', k2.kept hg hr', blk_kept k3 hg hr', blk_kept k4 hg hr', HI, ownFrom_below (β := List H20) (Nat.le_refl _) (by omega) [] A' B' row hB hg hr, Nat.le_trans hW hg.size⟩
  case start =>
    exact ⟨_, X % modN, ranN X T, [], k5, OwnL.nil_ _ _ _ _ _, k7, k8, Lib.hid ⟨mod_lt _, ranN_lt _ _, rfl, by simp, fun _ => rfl, fun _ h => absurd rfl h⟩, hw4, Nat.le_refl _⟩
  case assign =>
    intro l x W K hK
    gi_wp2
    exact hK
  case body =>
    rintro l pre ⟨x, hx20⟩ W ⟨v, Xk, Yk, ms, k1, k2, k3, k4, HI, hB, hW⟩ hlen
    dsimp only at hlen ⊢
    have c1 : W.cell? ⟨B5, 0, none⟩ = some v := k1.cell 0
    have c3 : W.cell? ⟨B7, 0, none⟩ = some (.string (natS Xk)) := k3.cell 0
    obtain ⟨u, hu⟩ : ∃ u, u = x / 2 := ⟨_, rfl⟩
    have hu2 : (x : Int) / 2 = (u : Int) := by omega
    have hh := HI.out
    have r1 : Ret 36 #[.string (natS Xk), .int .i64 (u : Int)] (.tuple #[.string (natS (ranN Xk u)), .bool true]) := (Run_yes (natS Xk) u (Nat.le_trans (natS_lt_mod hh.1) (by omega)) (by omega)).of (by rw [sval_natS])
    have q1 := Lib.hid r1
    have q2 : Hid (RetT 80 #[.string (natS Xk), .string (natS Yk), .string (natS (ranN Xk u)), .int .i64 (x : Int)] (.tuple #[.string (natS (halveN Xk Yk (ranN Xk u) x).1), .string (natS (halveN Xk Yk (ranN Xk u) x).2)])) :=
      Lib.hid ((halve_q (natS Xk) (natS Yk) (natS (ranN Xk u)) x (Nat.le_trans (natS_lt_mod hh.1) (by omega)) (Nat.le_trans (natS_lt_mod hh.2.1) (by omega)) (Nat.le_trans (ran_size _ _) (by omega)) (by omega)).of (by rw [sval_natS, sval_natS, sval_natS]))
    have HU := Lib.hid hu
    have hml : ms.length ≤ 1000 := by have := hh.2.2.1; omega
    clear hh r1 hu
    simp only [List.setIfInBounds_toArray, List.set_cons_zero, List.set_cons_succ]
    gi_wp2_with fail
    refine ⟨trivial, ?_⟩
    refine (CallsIn.inRound l (callsIn_wide.2 (q1.out W))).mono ?_
    rintro e W2 ⟨rfl, hb2⟩
    have k1' := k1.below hb2 k1.lt
    have k2' := OwnL.below k2 hb2
    have k3' := k3.below hb2 k3.lt
    have k4' := k4.below hb2 k4.lt
    have hB2 := below_then hB hb2
    have c1' : W2.cell? ⟨B5, 0, none⟩ = some v := k1'.cell 0
    have hsz2 : w4.heap.size ≤ W2.heap.size := Nat.le_trans hW hb2.size
    have n5 := own_low k2' (k := B5) (by omega)
    have n7 := own_low k2' (k := B7) (by omega)
    have n8 := own_low k2' (k := B8) (by omega)
    gi_wp2_with (refine wpIn_append_row (enc := encT) Tryz.underlying28 nat_info rfl (by decide) (by decide) rfl _ _ rfl (natS (ranN Xk u)) rfl encT_len (encT_one _) rfl k2' rfl (by rw [List.length_map]; omega) hsz2 ?_; intro g5 cc5 W3 ho3 hg3; have k1s := k1'.grown hg3 n5; have k3s := k3'.grown hg3 n7; have k4s := k4'.grown hg3 n8; have d1 := k1s.cell 0; have d1f := k1s.frozen 0; have d7 := k3s.cell 0; have d8 := k4s.cell 0; simp at d1 d7 d8)
    have hO := own_high k2'
    have hC := own_cells k2'
    have kA := k1s.set_ 0 (.slice (some ⟨g5, 0, none⟩) (ms.length + 1) cc5)
    have kB := kept_set k3s (show B7 ≠ B5 by omega) 0 (.slice (some ⟨g5, 0, none⟩) (ms.length + 1) cc5)
    have kC := kept_set k4s (show B8 ≠ B5 by omega) 0 (.slice (some ⟨g5, 0, none⟩) (ms.length + 1) cc5)
    have hoA := own_set ho3 (show B5 < w4.heap.size by omega) 0 (.slice (some ⟨g5, 0, none⟩) (ms.length + 1) cc5)
    rw [List.length_map] at ho3 hoA
    have hB3 := below_set (hB2.grown hg3 hB2.size (fun k e => by have := hO k e; omega)) (p := ⟨B5, 0, none⟩) z0 (.slice (some ⟨g5, 0, none⟩) (ms.length + 1) cc5)
    have hsz3 : w4.heap.size ≤ (W3.setCell ⟨B5, 0, none⟩ (.slice (some ⟨g5, 0, none⟩) (ms.length + 1) cc5)).heap.size := Nat.le_trans hsz2 (Nat.le_trans hg3.size (grown_set (grown_refl W3 (some B5)) 0 _).size)
    have hkeep := ((keeps_below hb2).trans (KeepsOthers.of_grownBy hg3 hC)).trans (KeepsOthers.setCell W3 ⟨B5, 0, none⟩ (.slice (some ⟨g5, 0, none⟩) (ms.length + 1) cc5))
    generalize W3.setCell ⟨B5, 0, none⟩ (.slice (some ⟨g5, 0, none⟩) (ms.length + 1) cc5) = W4 at kA kB kC hoA hB3 hsz3 hkeep ⊢
    refine ⟨trivial, ?_⟩
    refine (CallsIn.inRound l (callsIn_wide.2 (q2.out W4 (HT.out.below hB3)))).mono ?_
    rintro e W5 ⟨rfl, hb5⟩
    have kA5 := kA.below hb5 kA.lt
    have kB5 := kB.below hb5 kB.lt
    have kC5 := kC.below hb5 kC.lt
    have hoA5 := OwnL.below hoA hb5
    have e7 := kB5.cell 0
    have e7f := kB5.frozen 0
    have e8 := kC5.cell 0
    have e8f := kC5.frozen 0
    simp at e7 e8
    have hne : B8 ≠ B7 := by omega
    gi_wp2_with fail
    have hlt := halve_lt Xk Yk (ranN Xk u) x
    refine ⟨((hkeep.trans (keeps_below hb5)).trans (KeepsOthers.setCell _ _ _)).trans (KeepsOthers.setCell _ _ _), trivial, .slice (some ⟨g5, 0, none⟩) (ms.length + 1) cc5, (halveN Xk Yk (ranN Xk u) x).1, (halveN Xk Yk (ranN Xk u) x).2, ms ++ [ranN Xk u], ?_, ?_, ?_, ?_, Lib.hid ?_, ?_, ?_⟩
    · exact kept_set (kept_set (by simpa using kA5) (by omega) _ _) (by omega) _ _
    · have h2 := own_set (own_set hoA5 (show B7 < w4.heap.size by omega) 0 (.string (natS (halveN Xk Yk (ranN Xk u) x).1))) (show B8 < w4.heap.size by omega) 0 (.string (natS (halveN Xk Yk (ranN Xk u) x).2))
      rw [show (ms ++ [ranN Xk u]).map natS = ms.map natS ++ [natS (ranN Xk u)] by simp]
      exact h2
    · exact kept_set (kB5.set_ 0 _) (by omega) _ _
    · exact (kept_set kC5 hne _ _).set_ 0 _
    · have hh := HI.out
      refine ⟨hlt.1, hlt.2, by rw [List.length_append, List.length_append, hh.2.2.1]; rfl, ?_, ?_, ?_⟩
      · intro m hm
        rcases List.mem_append.1 hm with hm | hm
        · exact hh.2.2.2.1 m hm
        · obtain rfl := List.mem_singleton.1 hm
          exact ranN_lt _ _
      · intro e0; simp at e0
      · intro hgd _
        obtain ⟨hg1, hxv⟩ := hgd.snoc
        by_cases hp0 : pre = []
        · subst hp0
          have hm0 : ms = [] := List.eq_nil_of_length_eq_zero hh.2.2.1
          subst hm0
          have hxT : x = T := by
            have := congrArg Subtype.val hxv
            rw [HTT.out]
            simpa [halvX] using this
          rw [hh.2.2.2.2.1 rfl, HU.out, hxT, ranN_mod]
          rfl
        · rw [List.getElem?_append_left (by rw [hh.2.2.1]; exact List.length_pos_iff.2 hp0)]
          exact hh.2.2.2.2.2 hg1 hp0
    · exact below_set (below_set (below_then hB3 hb5) (p := ⟨B7, 0, none⟩) (by show w.heap.size ≤ B7; omega) _) (p := ⟨B8, 0, none⟩) (by show w.heap.size ≤ B8; omega) _
    · exact Nat.le_trans hsz3 (Nat.le_trans hb5.size (Nat.le_trans (grown_set (grown_refl W5 (some B7)) 0 _).size (grown_set (grown_refl _ (some B8)) 0 _).size))
  case done =>
    rintro D xs W hD rfl ⟨v, Xk, Yk, ms, k1, k2, k3, k4, HI, hB, hW⟩ hdef
    obtain ⟨A, c, rfl, -⟩ := OwnT.ndg k2
    have hmn : (ms.map natS).length = n := by
      have := HI.out.2.2.1
      rw [halvL_len] at this
      rw [List.length_map, this]
    rw [hmn] at k1 k2
    have c1 : W.cell? ⟨B5, 0, none⟩ = some (.slice A n c) := k1.cell 0
    have f1 := k1.frozen 0
    go_upto_region 11 with fail
    go_region
    go_wp2_with fail
    have hDlt : D < W.heap.size := (Array.getElem?_eq_some_iff.1 hdef).1
    have kS0 : Blk (W.setCell ⟨B5, 0, none⟩ (.slice A n c)) B5 28 #[.slice A n c] := by simpa using k1.set_ 0 (.slice A n c)
    have kS : Blk (W.setCell ⟨B5, 0, none⟩ (.slice A n c)).drew B5 28 #[.slice A n c] := kS0
    have oS : OwnT w4.heap.size (W.setCell ⟨B5, 0, none⟩ (.slice A n c)).drew (.slice A n c) (ms.map natS) := own_set k2 (show B5 < w4.heap.size by omega) 0 (.slice A n c)
    have hBS : Below w.heap.size w (W.setCell ⟨B5, 0, none⟩ (.slice A n c)).drew := (below_set hB (p := ⟨B5, 0, none⟩) z0 _).drew
    have hKS : (W.setCell ⟨B5, 0, none⟩ (.slice A n c)).drew.heap[D]? = some (.deferred (some [])) := (Below.heap_setCell W ⟨B5, 0, none⟩ _ D (by show D ≠ B5; omega)).trans hdef
    generalize (W.setCell ⟨B5, 0, none⟩ (.slice A n c)).drew = WS at kS oS hBS hKS ⊢
    have hrow : ∀ r, some D = some r → ∃ o : Obj, WS.heap[r]? = some o ∧ o.isCells = false := fun r e => by cases e; exact ⟨_, hKS, rfl⟩
    have hgp := grownBy_putObj' WS D (.deferred none)
    have kP := blk_kept kS hgp hrow
    have oP := OwnT.kept oS hgp hrow
    obtain ⟨A', c', hv, hnd⟩ := OwnT.ndg oP
    rw [hmn] at hv hnd
    cases hv
    refine ⟨by simp, .inl ⟨_, _, rfl, run_takeDeferred hKS, ?_⟩⟩
    have cP : (WS.putObj D (.deferred none)).cell? ⟨B5, 0, none⟩ = some (.slice A n c) := kP.cell 0
    refine ⟨.tuple #[.string (natS (ranN X T)), .slice A n c, .bool true], ?_, A, c, ms, rfl, hnd, by rw [← hmn, List.length_map], HI.out.2.2.2.1, ?_, hBS.trans (belowK_b (w := w) (Nat.le_refl _) WS D _ _ (by omega) hKS rfl rfl)⟩
    · simp [results, Tryz.f26, go_sem, cP]
    · intro h0
      have h2 := HI.out.2.2.2.2.2 (Good.all hn n) (by intro e; have := congrArg List.length e; rw [halvL_len] at this; simp at this; omega)
      rw [h2]

end Go.Proofs.YtebgmlbbilcbbaaGreatDoor
