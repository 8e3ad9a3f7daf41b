/- Joined by a program: LiW, LiX. -/
import Derived.Test.YtkpinmejfdnhbaaGreatDoorLwF
set_option maxRecDepth 100000
set_option maxHeartbeats 4000000
namespace Go.Proofs.YtkpinmejfdnhbaaGreatDoor
open Go.RowKit
attribute [local go_sem] Oper.semAt_some
theorem share_size : (Tryz.prog.info? 163).map (·.size) = some 2 := by kernel_rfl
def shareA (x y : Int) : Array Value := #[.int .i64 x, .int .i64 y]
theorem At8_q (a b d f : Value) (A : Option Addr) (n c : Nat) (cf : List Nat) (x : Nat) (hn : n ≤ 1000) (w : World) (hr : RowN w A n c cf) :
 Calls Tryz.prog 99 #[.agg (grpA a b (.slice A n c) d f), .int .i64 (x : Int)] w fun e w' => e = .returned (.agg (shareA x (valN x cf : Nat))) ∧ Below w.heap.size w w' := by
 have HR := Lib.hid hr;have q1 := Lib.hid (fun W h => rValue_q A n c cf x (by omega) W h);generalize valN x cf = y at *;clear hr;unfold grpA;go_enter Tryz.func99, Tryz.ntmps99;go_upto_region 1 with fail;refine name2p ?_;intro W0 k2 k4 hB;obtain ⟨p2, hp2⟩ : ∃ g, g = w.heap.size := ⟨_, rfl⟩;rw [← hp2] at k2 k4 ⊢;have hpB : w.heap.size ≤ p2 := by omega
 clear hp2;have c2 : _ = some (Value.slice A n c) := k2.cell 2
 go_wp2_with (first
  | (go_at_call 162; (with_reducible refine (q1.out _ (HR.out.below hB)).mono ?_); rintro e w1 ⟨rfl, hb⟩; replace k4 := k4.below hb k4.lt; replace hB := below_then hB hb; clear hb c2; have x0 : _ = some (Value.int .i64 0) := k4.cell 0; have x1 : _ = some (Value.int .i64 0) := k4.cell 1; have f0 := k4.frozen 0; have f1 := k4.frozen 1))
 have ks : Blk _ (p2 + 1) 163 (shareA x y) := (k4.set_ 0 (.int .i64 (x : Int))).set_ 1 (.int .i64 (y : Int));refine bodyPost_ret (results_cell_row (p := 4) (ty := 163) rfl _ _ (p2 + 1) _ (shareA x y) (0, 0) _ rfl ks Tryz.underlying163 rfl share_size) rfl ?_;exact ⟨rfl, below_set (below_set hB (Nat.le_succ_of_le hpB) _) (Nat.le_succ_of_le hpB) _⟩
theorem high_apart {u v : Value} {B : Nat} (h1 : ∀ j, u.ownBlock = some j → j < B) (h2 : ∀ j, v.ownBlock = some j → B ≤ j) : v.ownBlock = none ∨ v.ownBlock ≠ u.ownBlock := by
 cases hv : v.ownBlock with
 | none => exact .inl rfl
 | some j => exact .inr fun e => by have := h2 j hv; have := h1 j e.symm; omega
def restL (k : Nat) : List Nat := (List.range k).map (· + 1)
theorem restL_len (k : Nat) : (restL k).length = k := by simp [restL]
theorem restL_snoc (k : Nat) : restL (k + 1) = restL k ++ [k + 1] := by simp [restL, List.range_succ]
structure PickOK (T : Nat) (R O : List Nat) : Prop where
 len : O.length + R.length = T
 one : (O ++ R).Nodup
 all : ∀ y ∈ O ++ R, 1 ≤ y ∧ y ≤ T
theorem restL_nodup (k : Nat) : (restL k).Nodup := by
 unfold restL;refine List.pairwise_map.2 (List.Pairwise.imp (fun h => ?_) List.nodup_range)
 omega
theorem PickOK.begin_ (T : Nat) : PickOK T (restL T) [] :=
 ⟨by rw [restL_len]; simp, restL_nodup T, fun y hy => by
  obtain ⟨i, hi, rfl⟩ := List.mem_map.1 (show y ∈ restL T from hy);have := List.mem_range.1 hi
  omega⟩
theorem PickOK.step {T : Nat} {R O : List Nat} {k y : Nat} (h : PickOK T R O) (hy : R[k]? = some y) : PickOK T (R.take k ++ R.drop (k + 1)) (O ++ [y]) := by
 have hk := (List.getElem?_eq_some_iff.1 hy).1;have e : R = R.take k ++ y :: R.drop (k + 1) := by
  have h1 := List.take_append_drop k R;rw [drop_cons' hy] at h1;exact h1.symm
 have hp : ((O ++ [y]) ++ (R.take k ++ R.drop (k + 1))).Perm (O ++ R) := by
  have h1 : (R.take k ++ y :: R.drop (k + 1)).Perm (y :: (R.take k ++ R.drop (k + 1))) := List.perm_middle;rw [← e] at h1;rw [List.append_assoc];exact (List.Perm.append_left O h1).symm
 exact ⟨by have := h.len; simp only [List.length_append, List.length_take, List.length_drop, List.length_singleton]; omega, hp.nodup_iff.2 h.one, fun z hz => h.all z (hp.mem_iff.1 hz)⟩
def sliceLen : Value → Nat
 | .slice _ n _ => n
 | _ => 0
def ChosenPost (N T : Nat) (w : World) (e : Ending) (w' : World) : Prop :=
 ∃ (v : Value) (ps : List Nat), e = .returned v ∧ OwnI w.heap.size w' v (intsN ps) ∧ ps.length = N ∧ ps.Nodup ∧ (∀ p ∈ ps, 1 ≤ p ∧ p ≤ T) ∧ Below w.heap.size w w'
theorem rowI_take {w : World} {b o n c : Nat} {xs : List Int} (h : RowI w (some ⟨b, o, none⟩) n c xs) {k : Nat} (hk : k ≤ n) : RowI w (some ⟨b, o, none⟩) k c (xs.take k) := by
 have hl := h.len;refine ⟨by rw [List.length_take]; omega, Nat.le_trans hk h.cap, fun h0 => ?_⟩;obtain ⟨b', o', e, hc⟩ := h.at_ (by omega);refine ⟨b', o', e, fun j i x u hx hu => ?_⟩;refine hc j i x u ?_ hu;rw [List.getElem?_take] at hx
 split at hx
 ·exact hx
 ·cases hx
theorem rowI_drop {w : World} {b o n c : Nat} {xs : List Int} (h : RowI w (some ⟨b, o, none⟩) n c xs) {k : Nat} (hk : k ≤ n) : RowI w (some ⟨b, o + k, none⟩) (n - k) (c - k) (xs.drop k) := by
 have hl := h.len;have hc0 := h.cap;refine ⟨by rw [List.length_drop]; omega, by omega, fun h0 => ?_⟩;obtain ⟨b', o', e, hc⟩ := h.at_ (by omega)
 cases e
 refine ⟨b, o + k, rfl, fun j i x u hx hu => ?_⟩;have := hc (k + j) i x u (by rw [← hx, List.getElem?_drop]) hu;rw [show o + (k + j) * 1 + i = o + k + j * 1 + i by omega] at this;exact this
theorem rowI_tail {w : World} {b o n c k : Nat} {xs : List Int} {A : Option Addr} (h : RowI w (some ⟨b, o, none⟩) n c xs) (hk : k < n) (e : (if c = k + 1 then some ⟨b, o, none⟩ else some ⟨b, o + (k + 1), none⟩) = A) : RowI w A (n - (k + 1)) (c - (k + 1)) (xs.drop (k + 1)) := by
 have hc0 : n ≤ c := h.cap;have hl := h.len
 by_cases hc : c = k + 1
 ·refine ⟨by rw [List.length_drop]; omega, by omega, fun h0 => by omega⟩
 ·rw [if_neg hc] at e;exact e ▸ rowI_drop h (Nat.succ_le_of_lt hk)
theorem own_zero (w : World) : OwnI w.heap.size (w.alloc (.cells #[] 3)) (.slice (some ⟨w.heap.size, 0, none⟩) 0 0) [] :=
 ⟨rfl, .inr ⟨w.heap.size, 0, #[], rfl, Nat.le_refl _, Blk.new _ _ _, Nat.le_refl _, Nat.zero_le _, rfl, rfl⟩⟩
theorem Chosen_q (A1 A4 A : Option Addr) (n1 c1 N c4 n c : Nat) (b d f : Value) (ms : List Mem) (xs : List Int) (T : Nat) (hR : RightM ms) (hIM : I64M ms) (hT : totW ms = (T : Int)) (hN : N ≤ T) (hn : n ≤ 9223372036854775807) (hI : ∀ x ∈ xs, I64 x) (w : World) (hm : RowM w A1 n1 c1 ms) (hr : RowI w A n c xs) :
 Calls Tryz.prog 47 #[.agg (grpA (.slice A1 n1 c1) b d (.slice A4 N c4) f), .slice A n c] w (ChosenPost N T w) := by
 have hml := hm.len;have hn1 : n1 ≤ 13 := by have := hR.hi; omega
 have HM := Lib.hid hm;have HR := Lib.hid hr;obtain ⟨e1, e2, e3⟩ := totR_right hR;rw [hT] at e1 e2 e3;have q1 := Lib.hid (fun W h => rtotal_q A1 n1 c1 ms (by omega) hIM W h);rw [e1] at q1;have q2 := Lib.hid (fun (p k m : Nat) (hk : k ≤ n) (h1 : 1 ≤ m) (hm : m ≤ 1000000) => next_q p A n c xs k m hk hn h1 hm hI);have hA : ∀ b o, A = some ⟨b, o, none⟩ → n = 0 ∨ b < w.heap.size := fun b o e => by
  rcases Nat.eq_zero_or_pos n with h0 | h0
  ·exact .inl h0
  ·obtain ⟨b', o', x, e', _, hc⟩ := hr.get h0;rw [e] at e'
   cases e'
   exact .inr (block_lt_of_cell hc)
 clear hm hr hR hIM hT e1 hI hml;unfold grpA;go_enter Tryz.func47, Tryz.ntmps47;go_upto_region 1 with fail;refine name1p ?_;intro W0 k2 hB;obtain ⟨p2, hp2⟩ : ∃ g, g = w.heap.size := ⟨_, rfl⟩;rw [← hp2] at k2 ⊢;have hpB : w.heap.size ≤ p2 := by omega
 clear hp2;go_wp2_with fail
 go_loopw [5, 6] (fun s5 s6 wr => ∃ k : Nat, k ≤ T ∧ s6 = .int .i64 ((k + 1 : Nat) : Int) ∧ OwnI w.heap.size wr s5 (intsN (restL k)) ∧ Blk wr p2 59 #[.slice A1 n1 c1, b, d, .slice A4 N c4, f] ∧ Below w.heap.size w wr) (fun _ s6 _ => T + 1 - (intOf s6).toNat)
 case atStart => exact ⟨0, by omega, rfl, OwnL.nil_ _ _ _ _ _, k2, hB⟩
 case round =>
  clear hB k2;obtain ⟨k, hk, rfl, ho, k2, hB⟩ := hrel;have c0 : _ = some (Value.slice A1 n1 c1) := k2.cell 0
  by_cases hlt : k < T
  ·have hlt' : ((k + 1 : Nat) : Int) ≤ (T : Int) := by omega
   have hll : (intsN (restL k)).length ≤ 60 := by rw [intsN_len, restL_len]; omega
   go_wp2_with (first
    | (go_at_call 91; (with_reducible refine (q1.out _ (HM.out.below hB)).mono ?_); rintro e w1 ⟨rfl, hb⟩; replace ho := ho.below hb; replace k2 := k2.below hb k2.lt; replace hB := below_then hB hb; clear hb c0)
    | (refine wp_append_row (enc := encI) Tryz.underlying25 int_info rfl (by decide) (by decide) rfl _ _ rfl ((k + 1 : Nat) : Int) rfl rfl (encI_one _) rfl ho rfl (by omega) hB.size ?_; intro v6 w6 ho6 hg6))
   go_roundw
   case rel => exact ⟨k + 1, by omega, by go_num, by rw [restL_snoc, intsN_snoc]; exact ho6, k2.grown hg6 (own_ty ho k2 (by decide)), hB.grown hg6 hB.size (own_high ho)⟩
   case measure => simp [intOf]; omega
  ·obtain rfl : T = k := by omega
   have hlt' : ¬ ((T + 1 : Nat) : Int) ≤ (T : Int) := by omega
   go_upto_region 7 with (first
    | (go_at_call 91; (with_reducible refine (q1.out _ (HM.out.below hB)).mono ?_); rintro e w1 ⟨rfl, hb⟩; replace ho := ho.below hb; replace k2 := k2.below hb k2.lt; replace hB := below_then hB hb; clear hb c0))
   refine name1p ?_;intro W7 k7 hb7;obtain ⟨p7, hp7⟩ : ∃ g, g = w1.heap.size := ⟨_, rfl⟩;rw [← hp7] at k7 ⊢;have h27 : p2 ≠ p7 := by have := k2.lt; omega
   have h7B : w.heap.size ≤ p7 := by have := hB.size; omega
   have hAp : ∀ b o, A = some ⟨b, o, none⟩ → n = 0 ∨ b ≠ p7 := fun b o e => (hA b o e).imp id (by omega);replace k2 := k2.below hb7 k2.lt;replace ho := ho.below hb7;replace hB := below_then hB hb7;clear hp7 hb7 hA q1 HM hlt hlt';go_wp2_with fail
   go_loopw [5, 8, 9] (fun s5 s8 _ wr => ∃ (R O : List Nat) (k Br : Nat), Hid (PickOK T R O) ∧ O.length ≤ N ∧ OwnI Br wr s5 (intsN R) ∧ OwnI w.heap.size wr s8 (intsN O) ∧ (∀ j, s8.ownBlock = some j → j < Br) ∧ w.heap.size ≤ Br ∧ k ≤ n ∧ Blk wr p7 161 (numA A n c k) ∧ Blk wr p2 59 #[.slice A1 n1 c1, b, d, .slice A4 N c4, f] ∧ Below w.heap.size w wr) (fun _ s8 _ _ => N - sliceLen s8)
   case atStart => exact ⟨restL T, [], 0, w.heap.size, Lib.hid (PickOK.begin_ T), Nat.zero_le _, ho, OwnL.nil_ _ _ _ _ _, (fun j e => by cases e), Nat.le_refl _, Nat.zero_le _, k7, k2, hB⟩
   case round =>
    clear hB k2 k7 ho;obtain ⟨R, O, k, Br, HP, hON, ho5, ho8, hlo, hBr, hk, k7, k2, hB⟩ := hrel;have c3 : _ = some (Value.slice A4 N c4) := k2.cell 3;obtain ⟨A5, c5, rfl, -⟩ := OwnL.row ho5 encI_len;obtain ⟨A8, c8, rfl, -⟩ := OwnL.row ho8 encI_len;have hl5 : (intsN R).length = R.length := intsN_len R;have hl8 : (intsN O).length = O.length := intsN_len O;rw [hl5] at ho5 ⊢;rw [hl8] at ho8 hlo ⊢;clear hl5 hl8;have hlen := HP.out.len
    by_cases hlt : O.length < N
    ·have hlt' : (O.length : Int) < (N : Int) := by omega
     obtain ⟨L, hL⟩ := exq R.length;have hLb : L ≤ 60 := by omega
     have hL1 : 1 ≤ L := by omega
     have hL1' : 0 < (L : Int) := by omega
     have hO60 : (intsN O).length ≤ 60 := by rw [intsN_len]; omega
     have HLL := Lib.hid hL;rw [← hL] at ho5 ⊢;clear hL hlen
     go_upto_region 10 with (first
      | (go_at_call 97; (refine (q2.out p7 k L hk hL1 (by omega) _ k7 (HR.out.below hB) hAp).mono ?_); rintro e w9 ⟨r, k', rfl, hrl, hk', k7', hg⟩; have o5 := OwnL.kept ho5 hg (.inr (Ne.symm (own_ty ho5 k7 (by decide)))); have o8 := OwnL.kept ho8 hg (.inr (Ne.symm (own_ty ho8 k7 (by decide)))); have k2' := k2.grown hg (fun e => h27 (Option.some.inj e)); have hB9 := hB.grown hg hB.size (fun j e => by cases e; exact h7B); clear ho5 ho8 hB k2 k7 hg c3))
     have hrl' : (r : Int) < (L : Int) := by omega
     obtain ⟨b5, o5', y, rfl, hy, cy⟩ := rowN_at (rowN_own o5) hrl;go_upto_region 11 with (refine wp_append_row (enc := encI) Tryz.underlying25 int_info rfl (by decide) (by decide) rfl _ _ rfl (y : Int) rfl rfl (encI_one _) rfl o8 rfl (by omega) hB9.size ?_; intro v8 w10 ho8 hg8);have p5 := OwnL.kept o5 hg8 (high_apart (u := .slice A8 O.length c8) hlo (own_high o5));have k7a := k7'.grown hg8 (own_ty o8 k7' (by decide));have k2a := k2'.grown hg8 (own_ty o8 k2' (by decide));have hBa := hB9.grown hg8 hB9.size (own_high o8);obtain ⟨A9, c9, hv9, -⟩ := OwnL.row ho8 encI_len;have hl9 : (intsN O ++ [(y : Int)]).length = O.length + 1 := by rw [List.length_append, intsN_len]; rfl
     rw [hl9] at hv9;subst hv9;have hlo9 := own_lt ho8;have HS := Lib.hid (HP.out.step hy);have HRL : Hid ((intsN R).take r ++ (intsN R).drop (r + 1) = intsN (R.take r ++ R.drop (r + 1))) := Lib.hid (by unfold intsN; rw [List.map_append, List.map_take, List.map_drop]);clear o8 hg8 o5 k7' k2' hB9 hl9 hlo hy cy k hk;obtain ⟨wd, hwd⟩ := exq w10.drew;have p5d : OwnI Br wd (.slice (some ⟨b5, o5', none⟩) L c5) (intsN R) := by rw [hwd]; exact p5
     have h8d : OwnI w.heap.size wd (.slice A9 (O.length + 1) c9) (intsN O ++ [(y : Int)]) := by rw [hwd]; exact ho8
     have k7d : Blk wd p7 161 (numA A n c k') := by rw [hwd]; exact k7a
     have k2d : Blk wd p2 59 #[.slice A1 n1 c1, b, d, .slice A4 N c4, f] := by rw [hwd]; exact k2a
     have hBd : Below w.heap.size w wd := by rw [hwd]; exact hBa.drew
     have hlod : ∀ j, (Value.slice A9 (O.length + 1) c9).ownBlock = some j → j < wd.heap.size := by rw [hwd]; exact hlo9
     clear p5 ho8 k7a k2a hBa hlo9;have hr5 := rowN_own p5d;have hcap : L ≤ c5 := hr5.cap;have hrc : r ≤ c5 := by omega
     have hw1 : IntKind.i64.wrap ((r : Int) + 1) = (r : Int) + 1 := IntWalk.i64_in _ (by omega);have hw2 : ((r : Int) + 1).toNat = r + 1 := by omega
     have hw3 : 0 ≤ (r : Int) + 1 := by omega
     have hw4 : (r : Int) + 1 ≤ (L : Int) := by omega
     have HT5 := Lib.hid (rowI_take hr5 (Nat.le_of_lt hrl));obtain ⟨A6, hA6⟩ : ∃ A6 : Option Addr, (if c5 = r + 1 then some ⟨b5, o5', none⟩ else some ⟨b5, o5' + (r + 1), none⟩) = A6 := ⟨_, rfl⟩;clear hr5 hcap;refine region_here (fun _ => True) 9 (by kernel_rfl) trivial (fun hHeld => ?_);rw [← hwd];clear hwd;refine tkT 1 rfl ?_;refine tkT 2 rfl ?_;refine tkT 3 rfl ?_;refine tkT 5 rfl ?_;refine tkT 6 rfl ?_;refine tkT 7 rfl ?_;refine tkT 8 rfl ?_;refine tkO 0 rfl fun K hK => ?_;go_simp;have hba := below_al (Below.refl wd.heap.size wd) (.cells #[] 3);have hoE := own_zero wd;generalize hwe : wd.alloc (.cells #[] 3) = we at hba hoE ⊢;have p5e := p5d.below hba;have h8e := h8d.below hba;have k7e := k7d.below hba k7d.lt;have k2e := k2d.below hba k2d.lt;have hBe := below_then hBd hba;refine hK.out _ _ ?_ (fun hHeld0 => ?_)
     ·assumption
     clear hK K
     try simp only [Act.put, pq1, pq2, pq3]
     refine tkO 4 rfl fun K hK => ?_;refine step_append_rows (enc := encI) (B := wd.heap.size) (l := []) (ds := (intsN R).take r) (A := some ⟨b5, o5', none⟩) (n := r) (c := c5) Tryz.underlying25 int_info rfl (by decide) (by decide) rfl (.tmp 47) (.tmp 50) rfl encI_len encI_one rfl hoE rfl (HT5.out.below hba) (by simp) (by omega) hba.size ?_;intro v51 wf hoF hgF;obtain ⟨A51, c51, hv51, -⟩ := OwnL.row hoF encI_len;obtain ⟨n51, hn51⟩ : ∃ n', n' = ([] ++ (intsN R).take r).length := ⟨_, rfl⟩;rw [← hn51] at hv51;subst hv51;have k7f := k7e.grown hgF (own_ty hoE k7e (by decide));have k2f := k2e.grown hgF (own_ty hoE k2e (by decide));have h8f := OwnL.kept h8e hgF (low_apart hlod (own_high hoE));have p5f := OwnL.kept p5e hgF (low_apart (fun j e => own_lt p5d j e) (own_high hoE));have hBf := hBe.grown hgF hBe.size (fun j e => Nat.le_trans hBd.size (own_high hoE j e));have hsF := Nat.le_trans hba.size hgF.size;refine hK.out _ _ ?_ (fun hHeld4 => ?_)
     ·assumption
     clear hK K
     try simp only [Act.put, pq1, pq2, pq3]
     refine tkK 9 rfl fun K hK => ?_;refine step_append_rows (enc := encI) (B := wd.heap.size) (l := [] ++ (intsN R).take r) (ds := (intsN R).drop (r + 1)) (A := A6) (n := L - (r + 1)) (c := c5 - (r + 1)) Tryz.underlying25 int_info rfl (by decide) (by decide) rfl (.tmp 51) (.tmp 55) rfl encI_len encI_one rfl hoF rfl (rowI_tail (rowN_own p5f) hrl hA6) (by rw [List.nil_append, List.length_take, intsN_len]; omega) (by omega) hsF ?_;intro v56 wg hoG hgG;have k7g := k7f.grown hgG (own_ty hoF k7f (by decide));have k2g := k2f.grown hgG (own_ty hoF k2f (by decide));have h8g := OwnL.kept h8f hgG (low_apart hlod (own_high hoF));have hBg := hBf.grown hgG hBf.size (fun j e => Nat.le_trans hBd.size (own_high hoF j e));refine hK.out _ _ ?_;clear hK K
     try simp only [Act.put, pq1, pq2, pq3]
     refine tkB 10 rfl ?_;refine tkD ?_;go_wp2_with fail;go_roundw
     case rel => exact ⟨R.take r ++ R.drop (r + 1), O ++ [y], k', wd.heap.size, HS, by rw [List.length_append, List.length_singleton]; omega, by rw [← HRL.out]; exact hoG, by rw [intsN_snoc]; exact h8g, hlod, hBd.size, hk', k7g, k2g, hBg⟩
     case measure => simp [sliceLen]; omega
    ·obtain rfl : N = O.length := by omega
     go_wp2_with fail;go_ret;exact ⟨_, O, rfl, ho8, rfl, (List.nodup_append.1 HP.out.one).1, fun p hp => HP.out.all p (List.mem_append.2 (.inl hp)), hB⟩
end Go.Proofs.YtkpinmejfdnhbaaGreatDoor
