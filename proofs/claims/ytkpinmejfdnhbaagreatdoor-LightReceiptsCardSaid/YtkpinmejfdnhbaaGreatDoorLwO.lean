/- Joined by a program: LkM, LkK. -/
import Derived.Test.YtkpinmejfdnhbaaGreatDoorLwN
set_option maxRecDepth 100000
set_option maxHeartbeats 8000000
namespace Go.Proofs.YtkpinmejfdnhbaaGreatDoor
open Go.RowKit Go.Shelf
attribute [local go_sem] Oper.semAt_some
theorem rf_two_stop {α : Type} {enc1 enc2 : α → Value} {F : Fence} {n : Nat} {P : Program} {g : Operand} {p0 p1 : Tmp} {assign body : Code} {Q : Exit → Act → World → Prop} {a : Act} {w : World}
 (hro : F.round = none) (h1 : 1 ≤ n) {gf : Nat} {lb : Array Value} (hg : a.eval g = .func (.func gf) #[] lb) (hFg : F.fn gf) (eg : ∀ args w, (callFunc gf args).run P w = .ok (.enter gf args) w)
 {Kp : World → World → Prop} {S Sp : List α → Prop} {N : Nat} {w0 : World} (hseq : SeqStopsK F (n - 1) P gf lb (fun x => #[enc1 x, enc2 x]) Kp S Sp N w0)
 (hKt : ∀ {A B C : World}, Kp A B → Kp B C → Kp A C) (hKb : ∀ (W : World) (l : Nat) (o o' : Obj), w.heap.size ≤ l → W.heap[l]? = some o → o.isCells = false → o.isWalk = false → Kp W (W.putObj l o')) (hb0 : Below w0.heap.size w0 w)
 (I : List α → World → Prop) (Ix : Code → List α → World → Prop) (hI : OwnFrom w.heap.size I) (hIx : ∀ c, OwnFrom w.heap.size (Ix c)) (h0 : I [] w) (a₁ : α → Act)
 (hassign : ∀ (l : Nat) (x : α) (W : World) (K : Act → World → Prop), K (a₁ x) W →
  assign.wpIn (F.inRound l) (n - 1 - 1) P (Exit.then K (fun _ _ _ => False)) { tmps := (a.tmps.setIfInBounds p0 (enc1 x)).setIfInBounds p1 (enc2 x), defers := [] } W)
 (hbody : ∀ (l : Nat) (pre : List α) (x : α) (W : World), I pre W → pre.length < N → body.wpIn (F.inRound l) (n - 1 - 1) P (ownPostK Kp I Ix (pre ++ [x]) W) (a₁ x) W)
 (hdone : ∀ (D : Nat) (xs : List α) (W : World), w.heap.size ≤ D → S xs → I xs W → W.heap[D]? = some (.deferred (some [])) → Q .normal { a with defers := { target := .collected D, args := #[] } :: a.defers } W)
 (hstop : ∀ (D : Nat) (c : Code) (pre : List α) (W : World), w.heap.size ≤ D → Sp pre → Ix c pre W → W.heap[D]? = some (.deferred (some [])) → c.wpIn F n P Q { a with defers := { target := .collected D, args := #[] } :: a.defers } W) :
 (Code.rangeFunc g #[p0, p1] assign body).wpIn F n P Q a w :=
 wpIn_rangeFunc_ownF hro h1 hg hFg eg hseq hKt hKb hb0 (fun _ => rfl) I Ix hI hIx h0
  a₁ (fun l x W K hK => by have := hassign l x W K hK; simpa using this) hbody hdone hstop
theorem grown_more {a w w' : World} {r row : Option Nat} (h : a.grownBy w r) (k : w.grownBy w' row) (hr : ∀ q, row = some q → a.heap.size ≤ q) : a.grownBy w' r :=
 ⟨k.os.trans h.os, k.tape.trans h.tape, k.output.trans h.output, Nat.le_trans h.size k.size, fun i hi hne => (k.block i (Nat.lt_of_lt_of_le hi h.size) (fun e => by have := hr i e.symm; omega)).trans (h.block i hi hne)⟩
theorem Cli.keptL {B p : Nat} {w w' : World} {top pres : Hdr} {row : Option Nat} (h : Cli B p w top pres) (hg : w.grownBy w' row) (hrow : ∀ r, row = some r → ∃ o : Obj, w.heap[r]? = some o ∧ o.isCells = false) : Cli B p w' top pres :=
 let ⟨h1, x, y, k, h2, h3⟩ := h
 ⟨h1, x, y, blk_kept k hg hrow, h2.keptL hg hrow, h3.keptL hg hrow⟩
theorem Cli.far {B p k : Nat} {w w' : World} {top pres : Hdr} {t : TypeId} {cs : Array Value} (h : Cli B p w top pres) (hk : Blk w k t cs) (hne : p ≠ k) (h1 : t ≠ 61) (h2 : t ≠ 3) (h3 : t ≠ 25) (h4 : t ≠ 38) (hg : w.grownBy w' (some k)) : Cli B p w' top pres :=
 let ⟨q1, x, y, kc, q2, q3⟩ := h
 ⟨q1, x, y, kc.grown hg (fun e => hne (Option.some.inj e)), q2.far hk h1 h2 h3 h4 hg, q3.far hk h1 h2 h3 h4 hg⟩
def BackPost (B p : Nat) (top pres h : Hdr) (w : World) (e : Ending) (w' : World) : Prop :=
 (bitsN pres.epoch.toNat = 0 → e = .returned (.int .i64 20) ∧ Cli B p w' top pres) ∧ (bitsN pres.epoch.toNat ≠ 0 → e = .returned (.int .i64 0) ∧ Cli B p w' top h) ∧ w.grownBy w' (some p)
theorem Back_q (B p : Nat) (top pres : Hdr) (x : Hc) (h : Hdr) (hs : HdrSm h) (hr : rightH h = true) (hpe : 0 ≤ pres.epoch ∧ pres.epoch ≤ 1000000000) (hpl : pres.links.length = bitsN pres.epoch.toNat)
 (hhit : bitsN pres.epoch.toNat ≠ 0 → ∃ i, i < bitsN pres.epoch.toNat ∧ pres.epoch = h.epoch + ((2 ^ i : Nat) : Int) ∧ pres.links[i]? = some (shaS (hdrL h)))
 (w : World) (hT : Tabs w) (hi : HdrIn w x h) (hc : Cli B p w top pres) :
 Calls Tryz.prog 22 #[.pointer (some ⟨p, 0, none⟩), .agg (hdrA x)] w (BackPost B p top pres h w) := by
 have m1 := Lib.hid (fun W h1 => right_q x h hs W h1);have m2 := Lib.hid (fun W h1 => copy_q x h hs W h1);have m5 := Lib.hid (fun W hT h1 => HeaderHash_q x h hs W hT h1);rw [hr] at m1;have HI := Lib.hid (And.intro hT hi);have hel := (hdr_parts hr).1;obtain ⟨hBp, yt, yp, kc, hot, hop⟩ := hc;have HO := Lib.hid (And.intro hot hop);have HP := Lib.hid kc;have hpe2 := hop.e;have hxe := hi.e;obtain ⟨et, A1t, A2t, A3t, A4t, n1t, c1t, n2t, c2t, n3t, c3t, n4t, c4t, rfl⟩ := hot.opened;obtain ⟨ep, A1p, A2p, A3p, A4p, n1p, c1p, n2p, c2p, n3p, c3p, n4p, c4p, rfl⟩ := hop.opened;obtain ⟨xe, xm, xc, xp, xl⟩ := x;dsimp only at hxe hpe2;have hlk : n4p = pres.links.length ∧ RowH w A4p n4p c4p pres.links := by
  obtain ⟨A', c', e, hr⟩ := hop.in_.l
  injection e with e1 e2 e3
  subst e1 e2 e3;exact ⟨rfl, hr⟩
 have HLK := Lib.hid hlk.2;have HNL : Hid (n4p = bitsN ep.toNat) := Lib.hid (by rw [hlk.1, hpl, hpe2]);have HXE := Lib.hid (And.intro hxe hpe2);rw [← hpe2] at hpe;rw [← hxe] at hel;have HH := Lib.hid hhit;have hI64 : I64 ep := ⟨by omega, by omega⟩;clear hi hT hot hop hr hs hxe hpe2 hhit hpl hlk;obtain ⟨sg, hsg⟩ : ∃ s, s = shaS (hdrL h) := ⟨_, rfl⟩;have hs32 : sg.length = 32 := by rw [hsg]; exact sha_len _
 have hsz : (u8a sg).size = 32 := u8a_len hs32;rw [← hsg] at m5 HH;have H32 := Lib.hid hs32;clear hsg hs32;unfold cliA hdrA at *;dsimp only at *;refine (callsIn_wide (n := 4)).1 ?_;refine callsIn_of_wp_marks Tryz.func22 rfl trivial ?_ rfl;refine wpIn_wide.2 ?_;simp only [Tryz.ntmps22, List.size_toArray, List.length_cons, List.length_nil, Nat.reduceAdd, Nat.reduceSub, Array.replicate_succ, Array.replicate_zero, List.push_toArray, List.append_toArray, List.nil_append, List.cons_append];go_upto_region 1 with fail;refine name3p ?_;intro W0 k3 k4 k6 hB;obtain ⟨g, hg⟩ := exq w.heap.size;have hpg : p < g := by have := kc.lt; omega
 have hgB : w.heap.size ≤ g := Nat.le_of_eq hg.symm;rw [← hg] at k3 k4 k6 ⊢;clear hg;replace kc := kc.below hB kc.lt;have q1 : W0.cell? ⟨p, 0, none⟩ = some (.bool true) := kc.cell 0;have n1 := Lib.hid (none_of p true W0 q1);have a3 : W0.cell? ⟨g, 0, none⟩ = some (.pointer (some ⟨p, 0, none⟩)) := k3.cell 0;have b0 : W0.cell? ⟨g + 1, 0, none⟩ = some (.int .i64 xe) := k4.cell 0;have b1 : W0.cell? ⟨g + 1, 1, none⟩ = some xm := k4.cell 1;have b2 : W0.cell? ⟨g + 1, 2, none⟩ = some xc := k4.cell 2;have b3 : W0.cell? ⟨g + 1, 3, none⟩ = some xp := k4.cell 3;have b4 : W0.cell? ⟨g + 1, 4, none⟩ = some xl := k4.cell 4
 go_upto_region 3 with (first
  | (go_at_call 52; (with_reducible refine n1.out.mono ?_); rintro e w1 ⟨rfl, hww⟩; obtain rfl := hww.symm)
  | (go_at_call 50; (with_reducible refine (m1.out _ (HI.out.2.below hB)).mono ?_); rintro e w1 ⟨rfl, hb⟩; replace k3 := k3.below hb k3.lt; replace k4 := k4.below hb k4.lt; replace k6 := k6.below hb k6.lt; replace hB := below_then hB hb; clear hb))
 clear q1 a3 b0 b1 b2 b3 b4 kc n1 m1;have b0 : w1.cell? ⟨g + 1, 0, none⟩ = some (.int .i64 xe) := k4.cell 0;have b1 : w1.cell? ⟨g + 1, 1, none⟩ = some xm := k4.cell 1;have b2 : w1.cell? ⟨g + 1, 2, none⟩ = some xc := k4.cell 2;have b3 : w1.cell? ⟨g + 1, 3, none⟩ = some xp := k4.cell 3;have b4 : w1.cell? ⟨g + 1, 4, none⟩ = some xl := k4.cell 4
 go_upto_region 4 with (first
  | (go_at_call 49; (with_reducible refine (m5.out _ (HI.out.1.below hB) (HI.out.2.below hB)).mono ?_); rintro e w2 ⟨rfl, hb⟩; replace k3 := k3.below hb k3.lt; replace k4 := k4.below hb k4.lt; replace k6 := k6.below hb k6.lt; replace hB := below_then hB hb; clear hb b0 b1 b2 b3 b4)
  | (refine wpList_store_rowTo rfl 38 _ _ rfl rfl _ (u8a sg) rfl rfl _ _ (Blk.new _ _ _) (by rw [hsz]; kernel_rfl) (by rw [hsz]; rfl) (u8a_one _) ?_))
 refine name1r ?_;intro W2 k5 hb5;obtain ⟨p5, hp5⟩ : ∃ g, g = w2.heap.size := ⟨_, rfl⟩;have hgp5 : g + 1 + 1 < p5 := by have := k6.lt; omega
 rw [← hp5] at k5 ⊢;replace k3 := k3.below hb5 k3.lt;replace k4 := k4.below hb5 k4.lt;replace k6 := k6.below hb5 k6.lt;replace hB := below_then hB hb5;clear hb5 hp5;have kc := HP.out.below hB HP.out.lt;have c3 : W2.cell? ⟨g, 0, none⟩ = some (.pointer (some ⟨p, 0, none⟩)) := k3.cell 0;have c6 : W2.cell? ⟨p, 6, none⟩ = some (.int .i64 ep) := kc.cell 6;go_wp2_with fail;refine (steps_any ep _).mono ?_;rintro e w7 ⟨rfl, rfl⟩;go_wp2_with fail;obtain ⟨ps, hps⟩ : ∃ p, p = W2.heap.size := ⟨_, rfl⟩;have kp := Blk.new W2 3 #[.int .i64 ep];have hbb : Below W2.heap.size W2 (W2.alloc (.cells #[.int .i64 ep] 3)) := below_al (Below.refl _ _) _;have hgps : p5 < ps := by have := k5.lt; omega
 replace k3 := k3.below hbb k3.lt;replace k4 := k4.below hbb k4.lt;replace k6 := k6.below hbb k6.lt;replace k5 := k5.below hbb k5.lt;replace hB := below_then hB hbb;generalize W2.alloc (.cells #[.int .i64 ep] 3) = w7 at k3 k4 k5 k6 kp hB ⊢;rw [← hps] at kp ⊢;clear hbb hps c3 c6 kc;have hpl := kp.lt;obtain ⟨b, hb⟩ := exq (bitsN ep.toNat);have hb63 : b ≤ 63 := by rw [hb]; exact bits_63 (by omega)
 have HBE := Lib.hid hb;clear hb;refine (wpIn_wide (n := 4)).1 ?_;have hhit : ∃ i0, b ≠ 0 → i0 < b ∧ ep = xe + ((2 ^ i0 : Nat) : Int) ∧ pres.links[i0]? = some sg := by
  by_cases h0 : b = 0
  ·exact ⟨0, fun h => absurd h0 h⟩
  ·obtain ⟨i0, q1, q2, q3⟩ := HH.out (by rw [← HXE.out.2, ← HBE.out]; exact h0);exact ⟨i0, fun _ => ⟨by rw [HBE.out, HXE.out.2]; exact q1, by rw [HXE.out.2, q2, HXE.out.1], q3⟩⟩
 obtain ⟨i0, hi0⟩ := hhit;have HI0 := Lib.hid hi0;clear hi0;refine rf_two_stop (enc1 := fun x : Fin b => .int .i64 ((x.1 : Nat) : Int)) (enc2 := fun x : Fin b => .int .i64 ((2 ^ x.1 : Nat) : Int)) rfl (by omega) (gf := 89) (lb := #[.pointer (some ⟨ps, 0, none⟩)]) rfl trivial (enters_of Tryz.func89 (by kernel_rfl) rfl)
  (steps_stops _ ps ep hI64 b HBE.out w7 kp) sameOne_t (sameOne_b hpl) (Below.refl _ _)
  (fun pre W => (∀ y ∈ pre, y.1 ≠ i0) ∧ Blk W g 40 #[.pointer (some ⟨p, 0, none⟩)] ∧ Blk W (g + 1) 46 #[.int .i64 xe, xm, xc, xp, xl] ∧ Blk W (g + 1 + 1) 47 #[.int .i64 0] ∧ Blk W p5 38 (u8a sg) ∧ Blk W ps 3 #[.int .i64 ep] ∧ Below w.heap.size w W)
  (fun c _ W => c = .ret ∧ b ≠ 0 ∧ Blk W (g + 1 + 1) 47 #[.int .i64 0] ∧ Cli B p W top h ∧ w.grownBy W (some p))
  ?own ?ownx ?start (fun x => { tmps := #[Value.pointer (some { block := p, off := 0 }), Value.agg #[Value.int IntKind.i64 xe, xm, xc, xp, xl], Value.pointer (some { block := g, off := 0 }), Value.pointer (some { block := g + 1, off := 0 }), Value.pointer (some { block := g + 1 + 1, off := 0 }), Value.pointer (some { block := p5, off := 0 }), .int .i64 ((x.1 : Nat) : Int), .int .i64 ((2 ^ x.1 : Nat) : Int), Value.pointer (some { block := p, off := 0 }), Value.bool false, Value.bool false, Value.agg #[Value.int IntKind.i64 xe, xm, xc, xp, xl], Value.bool true, Value.bool false, Value.bool false, Value.agg #[Value.int IntKind.i64 xe, xm, xc, xp, xl], Value.agg (u8a sg), Value.pointer (some { block := p, off := 0 }), Value.pointer (some { block := p, off := 0 }), Value.pointer (some { block := p, off := 6 }), Value.pointer (some { block := p, off := 6 }), Value.int IntKind.i64 ep, Value.func (.func 89) #[] #[Value.pointer (some { block := ps, off := 0 })], .int .i64 ((x.1 : Nat) : Int), .int .i64 ((2 ^ x.1 : Nat) : Int), undef, undef, undef, undef, undef, undef, undef, undef, undef, undef, undef, undef, undef, undef, undef, undef, undef, undef, undef, undef, undef, undef, undef, undef, undef, undef, undef], defers := [] }) ?assign ?body ?done ?stop
 case own =>
  rintro pre A' B' row ⟨hne, j3, j4, j6, j5, jp, hb⟩ hg hr;have hr' := fun r e => (hr r e).2;exact ⟨hne, blk_kept j3 hg hr', blk_kept j4 hg hr', blk_kept j6 hg hr', blk_kept j5 hg hr', blk_kept jp hg hr', ownFrom_below (β := List (Fin b)) (Nat.le_refl _) (by omega) [] A' B' row hb hg hr⟩
 case ownx =>
  rintro c pre A' B' row ⟨hc, h0, j6, hC, hgr⟩ hg hr;have hr' := fun r e => (hr r e).2;exact ⟨hc, h0, blk_kept j6 hg hr', hC.keptL hg hr', grown_more hgr hg (fun q e => by have := (hr q e).1; omega)⟩
 case start =>
  exact ⟨fun y hy => by simp at hy, k3, k4, k6, k5, kp, hB⟩
 case assign =>
  intro l x W K hK
  gi_wp2
  exact hK
 case body =>
  rintro l pre ⟨i, hi⟩ W ⟨hne, j3, j4, j6, j5, jp, hb⟩ hlen;dsimp only;obtain ⟨q1, q2, q3⟩ := HI0.out (by omega);have hKE : 2 ^ i ≤ ep.toNat := bits_le_iff.2 (by rw [← HBE.out]; exact hi);obtain ⟨K, hK⟩ : ∃ K : Nat, K = 2 ^ i := ⟨_, rfl⟩;rw [← hK] at hKE ⊢;have hKx : (K : Int) ≤ 1000000000 := by omega
  have hbd := hb.drew;have j3d : Blk W.drew g 40 #[.pointer (some ⟨p, 0, none⟩)] := j3;have j4d : Blk W.drew (g + 1) 46 #[.int .i64 xe, xm, xc, xp, xl] := j4;have j6d : Blk W.drew (g + 1 + 1) 47 #[.int .i64 0] := j6;have j5d : Blk W.drew p5 38 (u8a sg) := j5;have jpd : Blk W.drew ps 3 #[.int .i64 ep] := jp;obtain ⟨V, hV⟩ := exq W.drew;have hWV : Below W.heap.size W V := by rw [hV]; exact (Below.refl _ _).drew
  have kcd := HP.out.below hbd HP.out.lt
  by_cases hcase : i = i0
  ·have hw : IntKind.i64.wrap (ep - (K : Int)) = xe := by
    have e : ep - (K : Int) = xe := by rw [q2, hK, hcase]; omega
    rw [e]; exact IntWalk.i64_in _ (by omega)
   have hil : i < n4p := by rw [HNL.out, ← HBE.out]; exact hi
   have hrg : ∃ bl ol, A4p = some ⟨bl, ol, none⟩ ∧ W.drew.rangeAt bl (ol + i * 32) (u8l sg) := by
    obtain ⟨bl, ol, y, e, hy, hr⟩ := rowH_range (HLK.out.below hbd) hil;rw [hcase, q3] at hy;obtain rfl := Option.some.inj hy;exact ⟨bl, ol, e, hr H32.out⟩
   obtain ⟨bl, ol, rfl, hrg⟩ := hrg;have hEq : ∀ w : World, (Op.equalIn 10000 38 (.agg (u8a sg)) (.agg (u8a sg))).run Tryz.prog w = .ok true w := fun w => by
    have := run_eq_hash H32.out H32.out 9998 w;rw [decide_eq_true rfl] at this;exact this
   have hil' : (i : Int) < (n4p : Int) := by omega
   have hr5 : W.drew.rangeAt p5 0 (u8l sg) := hash_range j5d;have hb0 : b ≠ 0 := by omega
   clear hcase hK hKE hil q1 q2 q3 hlen hne
   gi_wp2_with fail
   refine region_round (fun Z : World => Z.cell? ⟨g, 0, none⟩ = some (.pointer (some ⟨p, 0, none⟩)) ∧ Z.cell? ⟨g + 1, 0, none⟩ = some (.int .i64 xe) ∧ Z.cell? ⟨p, 6, none⟩ = some (.int .i64 ep) ∧ Z.cell? ⟨p, 10, none⟩ = some (.slice (some ⟨bl, ol, none⟩) n4p c4p) ∧ Z.rangeAt bl (ol + i * 32) (u8l sg) ∧ Z.rangeAt p5 0 (u8l sg)) 21 (by kernel_rfl) (by kernel_rfl) (by rintro ⟨_, _, h⟩; exact h) ⟨j3d.cell 0, j4d.cell 0, kcd.cell 6, kcd.cell 10, hrg, hr5⟩ (fun hHeld => ?_);rw [← hV] at hHeld j3d j4d j6d j5d jpd hbd kcd ⊢;clear hV hrg hr5;refine tkT 0 rfl ?_;refine tkT 1 rfl ?_;refine tkT 2 rfl ?_;refine tkT 3 rfl ?_;refine tkT 4 rfl ?_;refine tkT 5 rfl ?_;refine tkT 6 rfl ?_;refine tkT 7 rfl ?_;refine tkT 8 rfl ?_;refine tkT 9 rfl ?_;refine tkT 10 rfl ?_;refine tkT 11 rfl ?_;refine tkT 12 rfl ?_;refine tkT 13 rfl ?_;refine tkT 14 rfl ?_;refine tkT 15 rfl ?_;refine tkT 16 rfl ?_;refine tkT 17 rfl ?_;refine tkV 18 (.agg (u8a sg)) rfl (yieldsIf_load_mid (by rfl) 38 (.tmp 42) rfl bl (ol + i * 32) rfl (u8l sg) _ (fun Z hZ => hZ.2.2.2.2.1) Tryz.underlying38 rfl (by rw [u8l_len, H32.out]; exact hash_size)) ?_;refine tkV 19 (.agg (u8a sg)) rfl (yieldsIf_load_mid (by rfl) 38 (.tmp 5) rfl p5 0 rfl (u8l sg) _ (fun Z hZ => hZ.2.2.2.2.2) Tryz.underlying38 rfl (by rw [u8l_len, H32.out]; exact hash_size)) ?_;refine tkT 20 rfl ?_;refine tkK 21 rfl fun K hK => ?_;go_simp;refine hK.out _ _ ?_;clear hK K
   try simp only [Act.put, pq1, pq2, pq3]
   refine tkD ?_
   gi_wp2_with fail
   have j3e : Blk V.drew g 40 #[.pointer (some ⟨p, 0, none⟩)] := j3d;have j4e : Blk V.drew (g + 1) 46 #[.int .i64 xe, xm, xc, xp, xl] := j4d;have j6e : Blk V.drew (g + 1 + 1) 47 #[.int .i64 0] := j6d;have kce : Blk V.drew p 90 _ := kcd;have hbe := hbd.drew;have hWU := below_then hWV (Below.refl V.heap.size V).drew;refine region_round (fun Z : World => Z.cell? ⟨g, 0, none⟩ = some (.pointer (some ⟨p, 0, none⟩)) ∧ Z.cell? ⟨g + 1, 0, none⟩ = some (.int .i64 xe) ∧ Z.cell? ⟨g + 1, 1, none⟩ = some xm ∧ Z.cell? ⟨g + 1, 2, none⟩ = some xc ∧ Z.cell? ⟨g + 1, 3, none⟩ = some xp ∧ Z.cell? ⟨g + 1, 4, none⟩ = some xl) 5 (by kernel_rfl) (by kernel_rfl) (by rintro ⟨_, _, h⟩; exact h) ⟨j3e.cell 0, j4e.cell 0, j4e.cell 1, j4e.cell 2, j4e.cell 3, j4e.cell 4⟩ (fun hHeld => ?_);generalize V.drew = U at *;refine tkT 0 rfl ?_;refine tkT 1 rfl ?_;refine tkO 2 rfl fun K hK => ?_;go_simp;go_at_call 51;refine (m2.out _ (HI.out.2.below hbe)).mono ?_;rintro e v1 ⟨y1, rfl, ho1, hb1⟩
   (try go_wp2_with fail)
   replace ho1 := ho1.le hbe.size;obtain ⟨e1, A11, A12, A13, A14, n11, c11, n12, c12, n13, c13, n14, c14, rfl⟩ := ho1.opened;unfold hdrA;dsimp only;replace j3e := j3e.below hb1 j3e.lt;replace j4e := j4e.below hb1 j4e.lt;replace j6e := j6e.below hb1 j6e.lt;replace kce := kce.below hb1 kce.lt;replace hbe := below_then hbe hb1;replace hWU := below_then hWU hb1;refine hK.out _ _ ?_ (fun hHeld2 => ?_)
   ·exact ⟨cell_b hb1 hHeld.1, cell_b hb1 hHeld.2.1, cell_b hb1 hHeld.2.2.1, cell_b hb1 hHeld.2.2.2.1, cell_b hb1 hHeld.2.2.2.2.1, cell_b hb1 hHeld.2.2.2.2.2⟩
   clear hK K
   try simp only [Act.put, pq1, pq2, pq3]
   refine tkT 3 rfl ?_;refine tkT 4 rfl ?_;refine tkK 5 rfl fun K hK => ?_;have y6 : _ = some _ := kce.cell 6;have z6 := kce.frozen 6;have y7 : _ = some _ := kce.cell 7;have z7 := kce.frozen 7;have y8 : _ = some _ := kce.cell 8;have z8 := kce.frozen 8;have y9 : _ = some _ := kce.cell 9;have z9 := kce.frozen 9;have y10 : _ = some _ := kce.cell 10;have z10 := kce.frozen 10;go_simp;clear y6 z6 y7 z7 y8 z8 y9 z9 y10 z10;have hgs : v1.grownBy (((((v1.setCell ⟨p, 6, none⟩ (.int .i64 e1)).setCell ⟨p, 7, none⟩ (.slice A11 n11 c11)).setCell ⟨p, 8, none⟩ (.slice A12 n12 c12)).setCell ⟨p, 9, none⟩ (.slice A13 n13 c13)).setCell ⟨p, 10, none⟩ (.slice A14 n14 c14)) (some p) := (grown_set (grown_set (grown_set (grown_set (grown_set (grown_refl v1 (some p)) 6 (.int .i64 e1)) 7 (.slice A11 n11 c11)) 8 (.slice A12 n12 c12)) 9 (.slice A13 n13 c13)) 10 (.slice A14 n14 c14));have ksn : Blk (((((v1.setCell ⟨p, 6, none⟩ (.int .i64 e1)).setCell ⟨p, 7, none⟩ (.slice A11 n11 c11)).setCell ⟨p, 8, none⟩ (.slice A12 n12 c12)).setCell ⟨p, 9, none⟩ (.slice A13 n13 c13)).setCell ⟨p, 10, none⟩ (.slice A14 n14 c14)) p 90 #[(.bool true : Value), (.int .i64 et), (.slice A1t n1t c1t), (.slice A2t n2t c2t), (.slice A3t n3t c3t), (.slice A4t n4t c4t), (.int .i64 e1), (.slice A11 n11 c11), (.slice A12 n12 c12), (.slice A13 n13 c13), (.slice A14 n14 c14)] := (((((kce.set_ 6 (.int .i64 e1)).set_ 7 (.slice A11 n11 c11)).set_ 8 (.slice A12 n12 c12)).set_ 9 (.slice A13 n13 c13)).set_ 10 (.slice A14 n14 c14));have hKO : KeepsOthers W (((((v1.setCell ⟨p, 6, none⟩ (.int .i64 e1)).setCell ⟨p, 7, none⟩ (.slice A11 n11 c11)).setCell ⟨p, 8, none⟩ (.slice A12 n12 c12)).setCell ⟨p, 9, none⟩ (.slice A13 n13 c13)).setCell ⟨p, 10, none⟩ (.slice A14 n14 c14)) := (((((keeps_below hWU).trans (KeepsOthers.setCell v1 ⟨p, 6, none⟩ (.int .i64 e1))).trans (KeepsOthers.setCell (v1.setCell ⟨p, 6, none⟩ (.int .i64 e1)) ⟨p, 7, none⟩ (.slice A11 n11 c11))).trans (KeepsOthers.setCell ((v1.setCell ⟨p, 6, none⟩ (.int .i64 e1)).setCell ⟨p, 7, none⟩ (.slice A11 n11 c11)) ⟨p, 8, none⟩ (.slice A12 n12 c12))).trans (KeepsOthers.setCell (((v1.setCell ⟨p, 6, none⟩ (.int .i64 e1)).setCell ⟨p, 7, none⟩ (.slice A11 n11 c11)).setCell ⟨p, 8, none⟩ (.slice A12 n12 c12)) ⟨p, 9, none⟩ (.slice A13 n13 c13))).trans (KeepsOthers.setCell ((((v1.setCell ⟨p, 6, none⟩ (.int .i64 e1)).setCell ⟨p, 7, none⟩ (.slice A11 n11 c11)).setCell ⟨p, 8, none⟩ (.slice A12 n12 c12)).setCell ⟨p, 9, none⟩ (.slice A13 n13 c13)) ⟨p, 10, none⟩ (.slice A14 n14 c14));replace ho1 := ho1.far kce (by decide) (by decide) (by decide) (by decide) hgs;have hot2 := (HO.out.1.below hbe).far kce (by decide) (by decide) (by decide) (by decide) hgs;replace j6e := j6e.grown hgs (fun e => by have := Option.some.inj e; omega);have hgr := grown_trans (grown_of_below hbe (some p)) hgs;have hCli : Cli B p (((((v1.setCell ⟨p, 6, none⟩ (.int .i64 e1)).setCell ⟨p, 7, none⟩ (.slice A11 n11 c11)).setCell ⟨p, 8, none⟩ (.slice A12 n12 c12)).setCell ⟨p, 9, none⟩ (.slice A13 n13 c13)).setCell ⟨p, 10, none⟩ (.slice A14 n14 c14)) top h := ⟨hBp, ⟨et, _, _, _, _⟩, ⟨e1, _, _, _, _⟩, ksn, hot2, ho1.le (by have := HP.out.lt; omega)⟩;obtain ⟨v2, hv2⟩ : ∃ Z, Z = (((((v1.setCell ⟨p, 6, none⟩ (.int .i64 e1)).setCell ⟨p, 7, none⟩ (.slice A11 n11 c11)).setCell ⟨p, 8, none⟩ (.slice A12 n12 c12)).setCell ⟨p, 9, none⟩ (.slice A13 n13 c13)).setCell ⟨p, 10, none⟩ (.slice A14 n14 c14)) := ⟨_, rfl⟩;rw [← hv2] at hCli hKO j6e hgr ⊢;clear hv2 hgs kce ksn hot2 ho1;refine hK.out _ _ ?_;clear hK K
   try simp only [Act.put]
   refine tkD ?_;have f6 := j6e.frozen 0;have c6 : _ = some (Value.int .i64 0) := j6e.cell 0
   gi_wp2_with fail
   have hs6 := grown_set (grown_refl v2 (some (g + 1 + 1))) 0 (.int .i64 0);exact ⟨hKO.trans (KeepsOthers.setCell v2 ⟨g + 1 + 1, 0, none⟩ _), rfl, hb0, j6e.set_ 0 (.int .i64 0), hCli.far j6e (by omega) (by decide) (by decide) (by decide) (by decide) hs6, grown_setF hgr (k := g + 1 + 1) (by omega) 0 (.int .i64 0)⟩
  ·obtain ⟨z, hz⟩ := exq (ep - (K : Int));have hw : IntKind.i64.wrap (ep - (K : Int)) = z := by rw [hz]; exact IntWalk.i64_in _ (by omega)
   have hnez : decide (xe = z) = false := decide_eq_false (by
    rw [hz, q2, hK];intro e;have e2 : (2 ^ i : Nat) = 2 ^ i0 := by omega
    rcases Nat.lt_or_gt_of_ne hcase with h1 | h1
    ·have := Nat.pow_lt_pow_right (a := 2) (by decide) h1; omega
    ·have := Nat.pow_lt_pow_right (a := 2) (by decide) h1; omega)
   have HNE := Lib.hid hnez;have hne2 : ∀ y ∈ pre ++ [(⟨i, hi⟩ : Fin b)], y.1 ≠ i0 := fun y hy => by
    rcases List.mem_append.1 hy with h1 | h1
    ·exact hne y h1
    ·rw [List.mem_singleton.1 h1]; exact hcase
   have HN2 := Lib.hid hne2;clear hcase hz hK hKE hnez hne hne2 q1 q2 q3 hlen
   gi_wp2_with fail
   refine region_round (fun Z : World => Z.cell? ⟨g, 0, none⟩ = some (.pointer (some ⟨p, 0, none⟩)) ∧ Z.cell? ⟨g + 1, 0, none⟩ = some (.int .i64 xe) ∧ Z.cell? ⟨p, 6, none⟩ = some (.int .i64 ep)) 21 (by kernel_rfl) (by kernel_rfl) (by rintro ⟨_, _, h⟩; exact h) ⟨j3d.cell 0, j4d.cell 0, kcd.cell 6⟩ (fun hHeld => ?_);rw [← hV] at hHeld j3d j4d j6d j5d jpd hbd kcd ⊢;clear hV;have hne := HNE.out;refine tkT 0 rfl ?_;refine tkT 1 rfl ?_;refine tkT 2 rfl ?_;refine tkT 3 rfl ?_;refine tkT 4 rfl ?_;refine tkT 5 rfl ?_;refine tkT 6 rfl ?_;refine tkT 7 rfl ?_;refine tkT 8 rfl ?_;refine tkV 9 (.bool false) rfl (Or.inl ⟨by rfl, by intro w hSw; (try dsimp only at hSw); go_simp; first | done | (rw [hne]; done) | exact of_decide_eq_false hne | (have := of_decide_eq_false hne; omega)⟩) ?_;refine tkT 10 rfl ?_;refine tkU 11 rfl ?_;refine tkU 12 rfl ?_;refine tkU 13 rfl ?_;refine tkU 14 rfl ?_;refine tkU 15 rfl ?_;refine tkU 16 rfl ?_;refine tkU 17 rfl ?_;refine tkU 18 rfl ?_;refine tkU 19 rfl ?_;refine tkU 20 rfl ?_;refine tkK 21 rfl fun K hK => ?_;go_simp;refine hK.out _ _ ?_;clear hK K
   try simp only [Act.put, pq1, pq2, pq3]
   refine tkD ?_
   gi_wp2_with fail
   exact ⟨keeps_below hWV, Eq.trans jpd (Eq.symm jp), HN2.out, j3d, j4d, j6d, j5d, jpd, hbd⟩
 case done =>
  rintro D xs W hD rfl ⟨hne, j3, j4, j6, j5, jp, hb⟩ hdef;have hb0 : b = 0 := by
   by_cases h0 : b = 0
   ·exact h0
   ·obtain ⟨q1, -, -⟩ := HI0.out h0;exact absurd rfl (hne ⟨i0, q1⟩ (List.mem_finRange _))
  have c6 : W.cell? ⟨g + 1 + 1, 0, none⟩ = some (.int .i64 0) := j6.cell 0;have f6 := j6.frozen 0;have HB0 := Lib.hid hb0;have HDW : w.heap.size ≤ D := by omega
  clear hb0;go_wp2_with fail;have kf := j6.set_ 0 (.int .i64 20);have hdd2 : (W.setCell ⟨g + 1 + 1, 0, none⟩ (.int .i64 20)).heap[D]? = some (.deferred (some [])) := (RowKit.Below.heap_setCell _ _ _ _ (fun e => by first | omega | (have := e; simp at this; omega))).trans hdef;have hbf := below_set hb (p := ⟨g + 1 + 1, 0, none⟩) (by show w.heap.size ≤ g + 1 + 1; omega) (.int .i64 20);generalize W.setCell ⟨g + 1 + 1, 0, none⟩ (.int .i64 20) = v5 at *;refine ⟨by simp, .inl ⟨_, _, rfl, run_takeDeferred hdd2, ?_⟩⟩;have hrow : ∀ r, some D = some r → ∃ o : Obj, v5.heap[r]? = some o ∧ o.isCells = false := fun r e => by cases e; exact ⟨_, hdd2, rfl⟩
  have hpd := grownBy_putObj' v5 D (.deferred none);have kff := blk_kept kf hpd hrow;have cf : (v5.putObj D (.deferred none)).cell? ⟨g + 1 + 1, 0, none⟩ = some (.int .i64 20) := kff.cell 0;have hC0 : Cli B p w top pres := ⟨hBp, ⟨et, _, _, _, _⟩, ⟨ep, _, _, _, _⟩, HP.out, HO.out.1, HO.out.2⟩;refine ⟨.int .i64 20, by simp [results, Tryz.f22, go_sem, cf], fun _ => ⟨rfl, (hC0.below hbf).keptL hpd hrow⟩, fun hn => absurd (by rw [← HXE.out.2, ← HBE.out]; exact HB0.out) hn, grown_put (grown_of_below hbf _) HDW _⟩
 case stop =>
  rintro D c pre W hD - ⟨rfl, hb0, j6, hC, hgr⟩ hdef;have HDW : w.heap.size ≤ D := by omega
  refine (wpIn_wide (n := 4)).2 ?_;go_wp2_with fail;refine ⟨by simp, .inl ⟨_, _, rfl, run_takeDeferred hdef, ?_⟩⟩;have hrow : ∀ r, some D = some r → ∃ o : Obj, W.heap[r]? = some o ∧ o.isCells = false := fun r e => by cases e; exact ⟨_, hdef, rfl⟩
  have hpd := grownBy_putObj' W D (.deferred none);have kff := blk_kept j6 hpd hrow;have cf : (W.putObj D (.deferred none)).cell? ⟨g + 1 + 1, 0, none⟩ = some (.int .i64 0) := kff.cell 0;refine ⟨.int .i64 0, by simp [results, Tryz.f22, go_sem, cf], fun hn => absurd (by rw [HBE.out, HXE.out.2]; exact hn) hb0, fun _ => ⟨rfl, hC.keptL hpd hrow⟩, grown_put hgr HDW _⟩
theorem Epoch_q (B p : Nat) (top pres : Hdr) (w : World) (hc : Cli B p w top pres) :
 Calls Tryz.prog 20 #[.pointer (some ⟨p, 0, none⟩)] w fun e w' => e = .returned (.int .i64 pres.epoch) ∧ w' = w := by
 obtain ⟨-, x, y, kc, -, hp⟩ := hc;have q1 : w.cell? ⟨p, 0, none⟩ = some (.bool true) := kc.cell 0;have q2 : w.cell? ⟨p, 6, none⟩ = some (.int .i64 y.e) := kc.cell 6;have he := hp.e;have n1 := Lib.hid (none_of p true w q1);rw [← he];clear he hp kc;go_enter Tryz.func20, Tryz.ntmps20;go_wp2_with (go_at_call 52; (with_reducible refine n1.out.mono ?_); rintro e w1 ⟨rfl, hww⟩; obtain rfl := hww.symm);go_ret;exact ⟨rfl, rfl⟩
theorem Size_q (B p : Nat) (top pres : Hdr) (hs1 : HdrSm top) (hs2 : HdrSm pres) (w : World) (hT : Tabs w) (hc : Cli B p w top pres) :
 Calls Tryz.prog 21 #[.pointer (some ⟨p, 0, none⟩)] w fun e w' => e = .returned (.int .i64 (if hdrL top = hdrL pres then 1 else 2)) ∧ Below w.heap.size w w' := by
 obtain ⟨-, x, y, kc, h1, h2⟩ := hc;have m1 := Lib.hid (fun W hT h => HeaderText_q x top hs1 W hT h);have m2 := Lib.hid (fun W hT h => HeaderText_q y pres hs2 W hT h);have HI := Lib.hid (And.intro hT (And.intro h1.in_ h2.in_));obtain ⟨R, hR⟩ : ∃ R : Bool, ((strB (hdrL top)).toList == (strB (hdrL pres)).toList) = R := ⟨_, rfl⟩;have hRR : (if hdrL top = hdrL pres then (1 : Int) else 2) = if R then 1 else 2 := by
  by_cases h : hdrL top = hdrL pres
  ·rw [if_pos h, ← hR, h, str_same]; rfl
  ·rw [if_neg h, ← hR, str_diff (fun e => h (strB_inj e))]; rfl
 rw [hRR];clear hRR;have q1 : w.cell? ⟨p, 0, none⟩ = some (.bool true) := kc.cell 0;have n1 := Lib.hid (none_of p true w q1);obtain ⟨e1, A11, A12, A13, A14, n11, c11, n12, c12, n13, c13, n14, c14, rfl⟩ := h1.opened;obtain ⟨e2, A21, A22, A23, A24, n21, c21, n22, c22, n23, c23, n24, c24, rfl⟩ := h2.opened;unfold cliA at kc;unfold hdrA at *;dsimp only at *;generalize strB (hdrL top) = t1 at *;generalize strB (hdrL pres) = t2 at *;clear h1 h2 hT;have d1 : w.cell? ⟨p, 1, none⟩ = some (.int .i64 e1) := kc.cell 1;have d2 : w.cell? ⟨p, 2, none⟩ = some (.slice A11 n11 c11) := kc.cell 2;have d3 : w.cell? ⟨p, 3, none⟩ = some (.slice A12 n12 c12) := kc.cell 3;have d4 : w.cell? ⟨p, 4, none⟩ = some (.slice A13 n13 c13) := kc.cell 4;have d5 : w.cell? ⟨p, 5, none⟩ = some (.slice A14 n14 c14) := kc.cell 5;have d6 : w.cell? ⟨p, 6, none⟩ = some (.int .i64 e2) := kc.cell 6;have d7 : w.cell? ⟨p, 7, none⟩ = some (.slice A21 n21 c21) := kc.cell 7;have d8 : w.cell? ⟨p, 8, none⟩ = some (.slice A22 n22 c22) := kc.cell 8;have d9 : w.cell? ⟨p, 9, none⟩ = some (.slice A23 n23 c23) := kc.cell 9;have d10 : w.cell? ⟨p, 10, none⟩ = some (.slice A24 n24 c24) := kc.cell 10;clear kc;go_enter Tryz.func21, Tryz.ntmps21;go_upto_region 3 with (go_at_call 52; (with_reducible refine n1.out.mono ?_); rintro e w1 ⟨rfl, hww⟩; obtain rfl := hww.symm);have hB := (Below.refl w.heap.size w).drew;refine region_here (fun Z : World => Z.cell? ⟨p, 1, none⟩ = some (.int .i64 e1) ∧ Z.cell? ⟨p, 2, none⟩ = some (.slice A11 n11 c11) ∧ Z.cell? ⟨p, 3, none⟩ = some (.slice A12 n12 c12) ∧ Z.cell? ⟨p, 4, none⟩ = some (.slice A13 n13 c13) ∧ Z.cell? ⟨p, 5, none⟩ = some (.slice A14 n14 c14) ∧ Z.cell? ⟨p, 6, none⟩ = some (.int .i64 e2) ∧ Z.cell? ⟨p, 7, none⟩ = some (.slice A21 n21 c21) ∧ Z.cell? ⟨p, 8, none⟩ = some (.slice A22 n22 c22) ∧ Z.cell? ⟨p, 9, none⟩ = some (.slice A23 n23 c23) ∧ Z.cell? ⟨p, 10, none⟩ = some (.slice A24 n24 c24)) 10 (by kernel_rfl) ⟨d1, d2, d3, d4, d5, d6, d7, d8, d9, d10⟩ (fun hHeld => ?_);clear d1 d2 d3 d4 d5 d6 d7 d8 d9 d10;refine tkT 0 rfl ?_;refine tkT 1 rfl ?_;refine tkT 2 rfl ?_;refine tkT 3 rfl ?_;refine tkT 5 rfl ?_;refine tkT 6 rfl ?_;refine tkT 7 rfl ?_;refine tkT 8 rfl ?_;refine tkO 4 rfl fun K hK => ?_;go_simp;go_at_call 19;refine (m1.out _ (HI.out.1.below hB) (HI.out.2.1.below hB)).mono ?_;rintro e v1 ⟨rfl, hb1⟩
 (try go_wp2_with fail)
 replace hB := below_then hB hb1;refine hK.out _ _ ?_ (fun hHeld4 => ?_)
 ·exact ⟨cell_b hb1 hHeld.1, cell_b hb1 hHeld.2.1, cell_b hb1 hHeld.2.2.1, cell_b hb1 hHeld.2.2.2.1, cell_b hb1 hHeld.2.2.2.2.1, cell_b hb1 hHeld.2.2.2.2.2.1, cell_b hb1 hHeld.2.2.2.2.2.2.1, cell_b hb1 hHeld.2.2.2.2.2.2.2.1, cell_b hb1 hHeld.2.2.2.2.2.2.2.2.1, cell_b hb1 hHeld.2.2.2.2.2.2.2.2.2⟩
 clear hK K
 try simp only [Act.put, pq1, pq2, pq3]
 refine tkO 9 rfl fun K hK => ?_;go_simp;go_at_call 19;refine (m2.out _ (HI.out.1.below hB) (HI.out.2.2.below hB)).mono ?_;rintro e v2 ⟨rfl, hb2⟩
 (try go_wp2_with fail)
 replace hB := below_then hB hb2;refine hK.out _ _ ?_ (fun hHeld9 => ?_)
 ·exact ⟨cell_b hb2 hHeld4.1, cell_b hb2 hHeld4.2.1, cell_b hb2 hHeld4.2.2.1, cell_b hb2 hHeld4.2.2.2.1, cell_b hb2 hHeld4.2.2.2.2.1, cell_b hb2 hHeld4.2.2.2.2.2.1, cell_b hb2 hHeld4.2.2.2.2.2.2.1, cell_b hb2 hHeld4.2.2.2.2.2.2.2.1, cell_b hb2 hHeld4.2.2.2.2.2.2.2.2.1, cell_b hb2 hHeld4.2.2.2.2.2.2.2.2.2⟩
 clear hK K
 try simp only [Act.put, pq1, pq2, pq3]
 refine tkK 10 rfl fun K hK => ?_;go_simp;refine hK.out _ _ ?_;clear hK K
 try simp only [Act.put, pq1, pq2, pq3]
 refine tkD ?_
 cases R with
 | true =>
   go_wp2_with fail;go_ret;exact ⟨rfl, hB⟩
 | false =>
   go_wp2_with fail;go_ret;exact ⟨rfl, hB⟩
theorem Ints_q (A1 A2 : Option Addr) (n c1 m c2 : Nat) (xs ys : List Int) (hn : n ≤ 1000000) (w : World) (h1 : RowI w A1 n c1 xs) (h2 : RowI w A2 m c2 ys) :
 Calls Tryz.prog 11 #[.slice A1 n c1, .slice A2 m c2] w fun e w' => e = .returned (.bool (decide (xs = ys))) ∧ Below w.heap.size w w' := by
 have hl1 := h1.len;have hl2 := h2.len;have hB := Below.refl w.heap.size w;have HR := Lib.hid (And.intro h1 h2);clear h1 h2;obtain ⟨D, hD⟩ := exq (decide (xs = ys));rw [← hD];have HD := Lib.hid hD;clear hD
 by_cases hnm : n = m
 ·subst hnm;go_enter Tryz.func11, Tryz.ntmps11;go_wp2_with fail
  go_loopw [5] (fun s5 wr => ∃ i : Nat, i ≤ n ∧ s5 = .int .i64 (i : Int) ∧ Hid (xs.take i = ys.take i) ∧ Below w.heap.size w wr) (fun s5 _ => n - (intOf s5).toNat)
  case atStart => exact ⟨0, by omega, rfl, Lib.hid rfl, hB⟩
  case round =>
   clear hB;obtain ⟨i, hi, rfl, HT, hB⟩ := hrel
   by_cases hlt : i < n
   ·have hlt' : (i : Int) < (n : Int) := by omega
    obtain ⟨b1, o1, x, rfl, hx, cx⟩ := RowI.get (HR.out.1.below hB) hlt;obtain ⟨b2, o2, y, rfl, hy, cy⟩ := RowI.get (HR.out.2.below hB) hlt;go_upto_region 6 with fail
    go_quiet (fail)
    have hB2 := below_drewN hB nq
    by_cases he : x = y
    ·have HT2 : Hid (xs.take (i + 1) = ys.take (i + 1)) := Lib.hid (by rw [List.take_add_one, List.take_add_one, HT.out, hx, hy, he]);subst he;clear hx hy cx cy;generalize wr.drewN nq = wq at hB2 ⊢;go_wp2_with fail;go_roundw
     case rel => exact ⟨i + 1, by omega, by go_num, HT2, hB2⟩
     case measure => simp [intOf]; omega
    ·have hf : D = false := by rw [HD.out]; exact decide_eq_false (fun e => by rw [e, hy] at hx; exact he (Option.some.inj hx).symm)
     subst hf;have hbn : (x != y) = true := by simpa using he
     clear hx hy cx cy;generalize wr.drewN nq = wq at hB2 ⊢;go_wp2_with fail;go_ret;exact ⟨rfl, hB2⟩
   ·obtain rfl : n = i := by omega
    have ht : D = true := by rw [HD.out]; exact decide_eq_true (by have := HT.out; rwa [List.take_of_length_le (by omega), List.take_of_length_le (by omega)] at this)
    subst ht;go_wp2_with fail;go_ret;exact ⟨rfl, hB⟩
 ·have hf : D = false := by rw [HD.out]; exact decide_eq_false (fun e => by rw [e] at hl1; omega)
  have hnm' : ¬ (n : Int) = (m : Int) := by omega
  subst hf;go_enter Tryz.func11, Tryz.ntmps11;go_wp2_with fail;go_ret;exact ⟨rfl, hB⟩
end Go.Proofs.YtkpinmejfdnhbaaGreatDoor
