/- Joined by a program: LkG, LkH, LkD. -/
import Derived.Test.YtkpinmejfdnhbaaGreatDoorLwK
import Derived.Test.YtkpinmejfdnhbaaGreatDoorLwL
set_option maxRecDepth 100000
set_option maxHeartbeats 4000000
namespace Go.Proofs.YtkpinmejfdnhbaaGreatDoor
open Go.RowKit Go.Shelf
attribute [local go_sem] Oper.semAt_some
theorem rightH_eq (E : Int) (ms : List Mem) (cs : List Int) (ps : List (List Int)) (ls : List (List UInt8)) : rightH ⟨E, ms, cs, ps, ls⟩ = (decide (0 ≤ E) && decide (E ≤ 1000000000) && rightMems ms && decide (ps = pointsL 1 ms) && keysB cs ps && decide (ls.length = bitsN E.toNat)) := rfl
theorem right_q (x : Hc) (h : Hdr) (hs : HdrSm h) (w : World) (hi : HdrIn w x h) :
 Calls Tryz.prog 50 #[.agg (hdrA x)] w fun e w' => e = .returned (.bool (rightH h)) ∧ Below w.heap.size w w' := by
 obtain ⟨xe, xm, xc, xp, xl⟩ := x;obtain ⟨h1, ⟨A2, c2, e2, h2⟩, ⟨A3, c3, e3, h3⟩, ⟨A4, c4, vs, e4, h4, h5⟩, ⟨A6, c6, e6, h6⟩⟩ := hi;obtain ⟨he, hm1, hm2, hc1, hc2, hp1, hp2, hp3, hl1, hl2⟩ := hs;obtain ⟨E, ms, cs, ps, ls⟩ := h;dsimp only at *;subst h1 e2 e3 e4 e6;obtain ⟨nm, hnm⟩ : ∃ n, n = ms.length := ⟨_, rfl⟩;obtain ⟨nc, hnc⟩ : ∃ n, n = cs.length := ⟨_, rfl⟩;obtain ⟨np, hnp⟩ : ∃ n, n = ps.length := ⟨_, rfl⟩;obtain ⟨nl, hnl⟩ : ∃ n, n = ls.length := ⟨_, rfl⟩;rw [← hnm] at h2 hm1 ⊢;rw [← hnc] at h3 hc1 ⊢;rw [← hnp] at h4 hp1 ⊢;rw [← hnl] at h6 hl1 ⊢;have HR := Lib.hid (And.intro h2 (And.intro h3 (And.intro h4 (And.intro h5 h6))));have HS := Lib.hid (And.intro hm2 (And.intro hc2 (And.intro hp2 (And.intro hp3 hl2))));have HN := Lib.hid (And.intro hnm (And.intro hnc (And.intro hnp hnl)));clear h2 h3 h4 h5 h6 hm2 hc2 hp2 hp3 hl2 hnm hnc hnp hnl;have HR0 := Lib.hid (rightH_eq xe ms cs ps ls);obtain ⟨R, hR⟩ := exq (rightH ⟨xe, ms, cs, ps, ls⟩);rw [← hR] at HR0 ⊢;clear hR;unfold hdrA;refine (callsIn_wide (n := 4)).1 ?_;refine callsIn_of_wp_marks Tryz.func50 rfl trivial ?_ rfl;refine wpIn_wide.2 ?_;simp only [Tryz.ntmps50, List.size_toArray, List.length_cons, List.length_nil, Nat.reduceAdd, Nat.reduceSub, Array.replicate_succ, Array.replicate_zero, List.push_toArray, List.append_toArray, List.nil_append, List.cons_append];go_upto_region 1 with fail;refine name1p ?_;intro W0 k1 hB;obtain ⟨g, hg⟩ := exq w.heap.size;have hgB : w.heap.size ≤ g := Nat.le_of_eq hg.symm;rw [← hg] at k1 ⊢;clear hg;have a0 : W0.cell? ⟨g, 0, none⟩ = some (.int .i64 xe) := k1.cell 0;have a1 : W0.cell? ⟨g, 1, none⟩ = some (.slice A2 nm c2) := k1.cell 1
 by_cases he0 : xe < 0
 ·have hRf : R = false := by rw [HR0.out, decide_eq_false (by omega)]; rfl
  subst hRf;go_wp2_with fail;exact ⟨_, results_tmp rfl _ _ _, rfl, hB⟩
 ·by_cases he1 : 1000000000 < xe
  ·have hRf : R = false := by rw [HR0.out, decide_eq_false (p := xe ≤ 1000000000) (by omega)]; simp
   subst hRf;go_wp2_with fail;exact ⟨_, results_tmp rfl _ _ _, rfl, hB⟩
  ·have m1 := Lib.hid (fun W h => Points_q A2 nm c2 ms (by omega) HS.out.1 W h)
   cases hrm : rightMems ms with
   | false =>
     have hRf : R = false := by rw [HR0.out, hrm]; simp
     subst hRf;go_wp2_with (go_at_call 108; (refine (m1.out _ (HR.out.1.below hB)).mono ?_); rintro e w1 ⟨v, vv, rfl, ho, hli, hb⟩; rw [hrm]; replace hB := below_then hB hb; clear hb);exact ⟨_, results_tmp rfl _ _ _, rfl, hB⟩
   | true =>
     have m2 := Lib.hid (fun (Av : Option Addr) (nv cv : Nat) (uu : List Value) (hnv : nv ≤ 1000) W h1 h2 h3 h4 => EqualF_q Av A4 nv cv np c4 uu vs (pointsL 1 ms) ps hnv (fun l hl => by have := (points_mem ms 1 (rightM_iff.1 hrm).wt (by have := HN.out.1; omega) l hl).1; omega) W h1 h2 h3 h4);have m3 := Lib.hid (fun W h1 h2 h3 => Right_q A3 A4 nc c3 np c4 cs vs ps (by omega) (by omega) (fun l hl => by have := HS.out.2.2.1 l hl; omega) HS.out.2.1 HS.out.2.2.2.1 W h1 h2 h3);have hrl := pointsL_len ms 1;have HRM := Lib.hid hrm;go_upto_region 4 with (go_at_call 108; (refine (m1.out _ (HR.out.1.below hB)).mono ?_); rintro e w1 ⟨v, vv, rfl, ho, hli, hb⟩; rw [hrm] at hli ⊢; replace k1 := k1.below hb k1.lt; replace hB := below_then hB hb; clear hb);rw [if_pos trivial] at hli;clear hrm m1 a0 a1;obtain ⟨Av, cv, rfl, hrv⟩ := OwnL.row ho encV_len;have hvl : vv.length ≤ 20 := by have := hli.len; have := HN.out.1; omega
     generalize vv.length = nv at hrv hvl ⊢;have a2 : w1.cell? ⟨g, 2, none⟩ = some (.slice A3 nc c3) := k1.cell 2;have a3 : w1.cell? ⟨g, 3, none⟩ = some (.slice A4 np c4) := k1.cell 3
     by_cases hpp : pointsL 1 ms = ps
     ·have m22 := m2.out Av nv cv vv (by omega) w1 hrv (HR.out.2.2.1.below hB) hli.rows (HR.out.2.2.2.1.below hB);rw [decide_eq_true hpp] at m22;have M22 := Lib.hid m22
      cases hkb : keysB cs ps with
      | false =>
        have hRf : R = false := by rw [HR0.out, hkb]; simp
        subst hRf;rw [hkb] at m3;clear hpp m22
        go_wp2_with (first
         | (go_at_call 109; (with_reducible refine M22.out.mono ?_); rintro e w2 ⟨rfl, hb⟩; replace k1 := k1.below hb k1.lt; replace hB := below_then hB hb; have b2 : w2.cell? ⟨g, 2, none⟩ = some (.slice A3 nc c3) := k1.cell 2; have b3 : w2.cell? ⟨g, 3, none⟩ = some (.slice A4 np c4) := k1.cell 3; clear hb)
         | (go_at_call 111; (with_reducible refine (m3.out _ (HR.out.2.1.below hB) (HR.out.2.2.1.below hB) (HR.out.2.2.2.1.below hB)).mono ?_); rintro e w3 ⟨rfl, hb⟩; replace hB := below_then hB hb; clear hb))
        exact ⟨_, results_tmp rfl _ _ _, rfl, hB⟩
      | true =>
        have hR : R = decide (ls.length = bitsN xe.toNat) := by rw [HR0.out, HRM.out, hkb, decide_eq_true (show (0 : Int) ≤ xe by omega), decide_eq_true (show xe ≤ 1000000000 by omega), decide_eq_true hpp.symm]; rfl
        have HRR := Lib.hid hR;rw [hkb] at m3;clear hpp m22 hR hkb
        go_upto_region 6 with (first
         | (go_at_call 109; (with_reducible refine M22.out.mono ?_); rintro e w2 ⟨rfl, hb⟩; replace k1 := k1.below hb k1.lt; replace hB := below_then hB hb; have b2 : w2.cell? ⟨g, 2, none⟩ = some (.slice A3 nc c3) := k1.cell 2; have b3 : w2.cell? ⟨g, 3, none⟩ = some (.slice A4 np c4) := k1.cell 3; clear hb)
         | (go_at_call 111; (with_reducible refine (m3.out _ (HR.out.2.1.below hB) (HR.out.2.2.1.below hB) (HR.out.2.2.2.1.below hB)).mono ?_); rintro e w3 ⟨rfl, hb⟩; replace k1 := k1.below hb k1.lt; replace hB := below_then hB hb; clear hb))
        clear a2 a3 b2 b3 m2 m3 M22 ho hrv hli;go_upto_region 7 with fail;refine name1p ?_;intro W5 k5 hb5;obtain ⟨p5, hp5⟩ : ∃ g, g = w3.heap.size := ⟨_, rfl⟩;have hp5B : w.heap.size ≤ p5 := by have := hB.size; omega
        have hgp5 : g < p5 := by have := k1.lt; omega
        rw [← hp5] at k5 ⊢;replace k1 := k1.below hb5 k1.lt;replace hB := below_then hB hb5;clear hp5 hb5;have c0 : W5.cell? ⟨g, 0, none⟩ = some (.int .i64 xe) := k1.cell 0;go_wp2_with fail;refine (steps_any xe _).mono ?_;rintro e w4 ⟨rfl, rfl⟩;go_wp2_with fail;obtain ⟨p, hp⟩ := exq W5.heap.size;have kp := Blk.new W5 3 #[.int .i64 xe];have hbb : Below W5.heap.size W5 (W5.alloc (.cells #[.int .i64 xe] 3)) := below_al (Below.refl _ _) _;have hp5p : p5 < p := by have := k5.lt; omega
        replace k1 := k1.below hbb k1.lt;replace k5 := k5.below hbb k5.lt;replace hB := below_then hB hbb;generalize W5.alloc (.cells #[.int .i64 xe] 3) = W4 at k1 k5 kp hB ⊢;rw [← hp] at kp ⊢;clear hbb hp c0;have hpl := kp.lt;obtain ⟨b, hb⟩ := exq (bitsN xe.toNat);have hb63 : b ≤ 63 := by rw [hb]; exact bits_63 (by omega)
        have HBE := Lib.hid hb;clear hb;refine (wpIn_wide (n := 4)).1 ?_;refine rf_two (enc1 := fun x : Fin b => .int .i64 ((x.1 : Nat) : Int)) (enc2 := fun x : Fin b => .int .i64 ((2 ^ x.1 : Nat) : Int)) rfl (by omega) (gf := 89) (lb := #[.pointer (some ⟨p, 0, none⟩)]) rfl trivial (enters_of Tryz.func89 (by kernel_rfl) rfl)
         (steps_stops _ p xe he b HBE.out W4 kp) sameOne_t (sameOne_b hpl) (Below.refl _ _)
         (fun pre W => Blk W p5 3 #[.int .i64 ((pre.length : Nat) : Int)] ∧ Blk W g 46 #[.int .i64 xe, .slice A2 nm c2, .slice A3 nc c3, .slice A4 np c4, .slice A6 nl c6] ∧ Blk W p 3 #[.int .i64 xe] ∧ Below w.heap.size w W)
         ?own ?start (fun x => { tmps := #[Value.agg #[Value.int IntKind.i64 xe, Value.slice A2 nm c2, Value.slice A3 nc c3, Value.slice A4 np c4, Value.slice A6 nl c6],
 Value.pointer (some ⟨g, 0, none⟩), Value.bool false, Value.slice Av nv cv, Value.bool true,
 Value.pointer (some ⟨p5, 0, none⟩), Value.pointer (some ⟨g, 0, none⟩),
 Value.int IntKind.i64 xe, Value.bool false, Value.bool false, Value.pointer (some ⟨g, 0, none⟩),
 Value.int IntKind.i64 xe, Value.bool false, Value.bool false,
 Value.tuple #[Value.slice Av nv cv, Value.bool true], Value.pointer (some ⟨g, 1, none⟩),
 Value.slice A2 nm c2, Value.tuple #[Value.slice Av nv cv, Value.bool true], Value.slice Av nv cv,
 Value.bool true, Value.bool true, Value.bool false, Value.bool false, Value.slice Av nv cv,
 Value.pointer (some ⟨g, 2, none⟩), Value.pointer (some ⟨g, 3, none⟩),
 Value.slice A4 np c4, Value.bool true, Value.bool false, Value.bool false, Value.bool false,
 Value.pointer (some ⟨g, 2, none⟩), Value.agg #[Value.slice A3 nc c3, Value.slice A4 np c4],
 Value.bool true, Value.bool false, Value.bool false, Value.pointer (some ⟨g, 0, none⟩),
 Value.int IntKind.i64 xe,
 Value.func (.func 89) #[] #[Value.pointer (some ⟨p, 0, none⟩)], .int .i64 ((x.1 : Nat) : Int), .int .i64 ((2 ^ x.1 : Nat) : Int), undef, undef, undef, undef, undef, undef, undef], defers := [] }) ?assign ?body ?done
        case own =>
         rintro pre A' B' row ⟨j5, j1, jp, hb⟩ hg hr;have hr' := fun r e => (hr r e).2;exact ⟨blk_kept j5 hg hr', blk_kept j1 hg hr', blk_kept jp hg hr', ownFrom_below (β := List (Fin b)) (Nat.le_refl _) (by omega) [] A' B' row hb hg hr⟩
        case start =>
         exact ⟨k5, k1, kp, hB⟩
        case assign =>
         intro l x W K hK
         gi_wp2
         exact hK
        case body =>
         rintro l pre ⟨x, hx⟩ W ⟨j5, j1, jp, hb⟩ hlen;dsimp only;obtain ⟨q, hq⟩ := exq pre.length;have HQ : Hid ((pre ++ [(⟨x, hx⟩ : Fin b)]).length = q + 1) := Lib.hid (by rw [List.length_append, ← hq]; rfl);rw [← hq] at j5 hlen;have c5 : W.cell? ⟨p5, 0, none⟩ = some (.int .i64 (q : Int)) := j5.cell 0;have f5 := j5.frozen 0;clear hq
         gi_wp2_with fail
         have hql : RowKit.wrap64 ((q : Int) + 1) = (q : Int) + 1 := by unfold RowKit.wrap64; omega
         have ks := j5.set_ 0 (.int .i64 ((q : Int) + 1));exact ⟨KeepsOthers.setCell W ⟨p5, 0, none⟩ _, Eq.trans (kept_set jp (show p ≠ p5 by omega) 0 _) (Eq.symm jp), (by rw [HQ.out]; exact ks), kept_set j1 (show g ≠ p5 by omega) 0 _, kept_set jp (show p ≠ p5 by omega) 0 _, below_set hb (p := ⟨p5, 0, none⟩) (by show w.heap.size ≤ p5; omega) _⟩
        case done =>
         rintro D xs W hD rfl ⟨j5, j1, jp, hb⟩ hdef;rw [List.length_finRange] at j5;have c4' : W.cell? ⟨g, 4, none⟩ = some (.slice A6 nl c6) := j1.cell 4;have c5 : W.cell? ⟨p5, 0, none⟩ = some (.int .i64 (b : Int)) := j5.cell 0;have hRd : R = decide (nl = b) := by rw [HRR.out, HBE.out, HN.out.2.2.2]
         by_cases hnb : nl = b
         ·have hRt : R = true := by rw [hRd, decide_eq_true hnb]
          subst hRt;clear hRd;subst hnb;go_wp2_with fail;refine ⟨by simp, .inl ⟨_, _, rfl, run_takeDeferred hdef, ?_⟩⟩;refine ⟨.bool true, ?_, rfl, hb.trans (belowK_b (w := w) (Nat.le_refl _) W D _ _ (by omega) hdef rfl rfl)⟩
          simp [results, Tryz.f50, go_sem]
         ·have hRt : R = false := by rw [hRd, decide_eq_false hnb]
          subst hRt;have hnb' : ((nl : Int) = (b : Int)) = False := by simp only [eq_iff_iff, iff_false]; omega
          have HNB := Lib.hid hnb;clear hRd hnb;go_wp2_with fail;refine ⟨by simp, .inl ⟨_, _, rfl, run_takeDeferred hdef, ?_⟩⟩;refine ⟨.bool false, ?_, rfl, hb.trans (belowK_b (w := w) (Nat.le_refl _) W D _ _ (by omega) hdef rfl rfl)⟩
          simp [results, Tryz.f50, go_sem]
          have := HNB.out
          omega
     ·have hRf : R = false := by rw [HR0.out, decide_eq_false (p := ps = pointsL 1 ms) (fun e => hpp e.symm)]; simp
      subst hRf;have m22 := m2.out Av nv cv vv (by omega) w1 hrv (HR.out.2.2.1.below hB) hli.rows (HR.out.2.2.2.1.below hB);rw [decide_eq_false hpp] at m22;have M22 := Lib.hid m22;clear hpp m22
      go_wp2_with (first
       | (go_at_call 109; (with_reducible refine M22.out.mono ?_); rintro e w2 ⟨rfl, hb⟩; replace hB := below_then hB hb; clear hb))
      exact ⟨_, results_tmp rfl _ _ _, rfl, hB⟩
structure HdrOwn (B : Nat) (w : World) (x : Hc) (h : Hdr) : Prop where
 e : x.e = h.epoch
 m : OwnM B w x.m h.mems
 c : OwnI B w x.c h.commits
 p : ∃ vs, OwnV B w x.p vs ∧ ListI B w vs h.points
 l : OwnH B w x.l h.links
theorem HdrOwn.below {B : Nat} {w w' : World} {x : Hc} {h : Hdr} (hi : HdrOwn B w x h) (hb : Below w.heap.size w w') : HdrOwn B w' x h := by
 obtain ⟨h1, h2, h3, ⟨vs, h4, h5⟩, h6⟩ := hi;exact ⟨h1, h2.below hb, h3.below hb, ⟨vs, h4.below hb, h5.below hb⟩, h6.below hb⟩
theorem HdrOwn.le {B B' : Nat} {w : World} {x : Hc} {h : Hdr} (hi : HdrOwn B' w x h) (hB : B ≤ B') : HdrOwn B w x h := by
 obtain ⟨h1, h2, h3, ⟨vs, h4, h5⟩, h6⟩ := hi;exact ⟨h1, h2.le hB, h3.le hB, ⟨vs, h4.le hB, h5.le hB⟩, h6.le hB⟩
theorem HdrOwn.far {B k : Nat} {w w' : World} {x : Hc} {h : Hdr} {t : TypeId} {cs : Array Value} (hi : HdrOwn B w x h) (hk : Blk w k t cs) (h1 : t ≠ 61) (h2 : t ≠ 3) (h3 : t ≠ 25) (h4 : t ≠ 38) (hg : w.grownBy w' (some k)) : HdrOwn B w' x h := by
 obtain ⟨q1, q2, q3, ⟨vs, q4, q5⟩, q6⟩ := hi;exact ⟨q1, OwnL.kept q2 hg (.inr (Ne.symm (own_ty q2 hk h1))), OwnL.kept q3 hg (.inr (Ne.symm (own_ty q3 hk h2))), ⟨vs, OwnL.kept q4 hg (.inr (Ne.symm (own_ty q4 hk h3))), q5.far hk h2 hg⟩, OwnL.kept q6 hg (.inr (Ne.symm (own_ty q6 hk h4)))⟩
theorem HdrOwn.in_ {B : Nat} {w : World} {x : Hc} {h : Hdr} (hi : HdrOwn B w x h) : HdrIn w x h := by
 obtain ⟨h1, h2, h3, ⟨vs, h4, h5⟩, h6⟩ := hi;obtain ⟨Av, cv, e, hr⟩ := OwnL.row h4 encV_len;have hl := h5.len;rw [hl] at e hr;exact ⟨h1, OwnL.row h2 encM_len, OwnL.row h3 encI_len, ⟨Av, cv, vs, e, hr, h5.rows⟩, OwnL.row h6 encH_len⟩
def CopyPost (h : Hdr) (w : World) (e : Ending) (w' : World) : Prop := ∃ y : Hc, e = .returned (.agg (hdrA y)) ∧ HdrOwn w.heap.size w' y h ∧ Below w.heap.size w w'
theorem grown_row {w : World} {k : Nat} {t : TypeId} {cs : Array Value} (_hk : Blk w k t cs) (ds : Array Value) : w.grownBy (w.setRow k ds) (some k) := by
 exact ⟨rfl, rfl, rfl, by rw [size_setRow]; exact Nat.le_refl _, fun i _ hi => setRow_other _ _ _ _ (fun e => hi (by rw [e]))⟩
theorem copy_q (x : Hc) (h : Hdr) (hs : HdrSm h) (w : World) (hi : HdrIn w x h) :
 Calls Tryz.prog 51 #[.agg (hdrA x)] w (CopyPost h w) := by
 obtain ⟨xe, xm, xc, xp, xl⟩ := x;obtain ⟨h1, ⟨A2, c2, e2, h2⟩, ⟨A3, c3, e3, h3⟩, ⟨A4, c4, vs, e4, h4, h5⟩, ⟨A6, c6, e6, h6⟩⟩ := hi;obtain ⟨he, hm1, hm2, hc1, hc2, hp1, hp2, hp3, hl1, hl2⟩ := hs;obtain ⟨E, ms, cs, ps, ls⟩ := h;dsimp only at *;subst h1 e2 e3 e4 e6;obtain ⟨nm, hnm⟩ : ∃ n, n = ms.length := ⟨_, rfl⟩;obtain ⟨nc, hnc⟩ : ∃ n, n = cs.length := ⟨_, rfl⟩;obtain ⟨np, hnp⟩ : ∃ n, n = ps.length := ⟨_, rfl⟩;obtain ⟨nl, hnl⟩ : ∃ n, n = ls.length := ⟨_, rfl⟩;rw [← hnm] at h2 hm1 ⊢;rw [← hnc] at h3 hc1 ⊢;rw [← hnp] at h4 hp1 ⊢;rw [← hnl] at h6 hl1 ⊢;have HR := Lib.hid (And.intro h2 (And.intro h3 (And.intro h4 (And.intro h5 h6))));have HS := Lib.hid (And.intro hp2 hp3);have HN := Lib.hid (And.intro hnm (And.intro hnc (And.intro hnp hnl)));have m1 := Lib.hid (fun W h => CloneM_q A2 nm c2 ms (by omega) W h);have m2 := Lib.hid (fun W h => CloneH_q A6 nl c6 ls (by omega) W h);have m3 := Lib.hid (fun W h => CloneI_q A3 nc c3 cs (by omega) W h);clear h2 h3 h4 h5 h6 hm2 hc2 hp2 hp3 hl2 hnm hnc hnp hnl he;unfold hdrA;go_enter Tryz.func51, Tryz.ntmps51;go_upto_region 1 with fail;refine name2p ?_;intro W0 k1 k2 hB;obtain ⟨g, hg⟩ := exq w.heap.size;have hgB : w.heap.size ≤ g := Nat.le_of_eq hg.symm;rw [← hg] at k1 k2 ⊢;clear hg;have a1 : W0.cell? ⟨g, 1, none⟩ = some (.slice A2 nm c2) := k1.cell 1
 -- members
 go_upto_region 2 with (go_at_call 112; (with_reducible refine (m1.out _ (HR.out.1.below hB)).mono ?_); rintro e w1 ⟨v1, rfl, ho1, hb⟩; obtain ⟨B1, d1, hv1, -⟩ := OwnL.row ho1 encM_len; generalize ms.length = q1 at hv1; subst hv1; replace ho1 := ho1.le hB.size; replace k1 := k1.below hb k1.lt; replace k2 := k2.below hb k2.lt; replace hB := below_then hB hb; have f1 := k1.frozen 1; have b1 : w1.cell? ⟨g, 1, none⟩ = some (.slice A2 nm c2) := k1.cell 1; clear hb a1);have hgs := grown_set (grown_refl w1 (some g)) 1 (Value.slice B1 q1 d1);replace ho1 := OwnL.kept ho1 hgs (.inr (Ne.symm (own_ty ho1 k1 (by decide))));replace k2 := k2.grown hgs (fun e => by have := Option.some.inj e; omega);replace hB := hB.grown hgs hB.size (fun j e => by cases e; exact hgB);replace k1 : Blk (w1.setCell ⟨g, 1, none⟩ (Value.slice B1 q1 d1)) g 46 #[.int .i64 xe, (Value.slice B1 q1 d1), .slice A3 nc c3, .slice A4 np c4, .slice A6 nl c6] := k1.set_ 1 (Value.slice B1 q1 d1);obtain ⟨w2, hw2⟩ := exq (w1.setCell ⟨g, 1, none⟩ (Value.slice B1 q1 d1));rw [← hw2] at ho1 k1 k2 hB ⊢;clear hw2 hgs f1 b1 m1;have a4 : w2.cell? ⟨g, 4, none⟩ = some (.slice A6 nl c6) := k1.cell 4
 -- links
 go_upto_region 3 with (go_at_call 113; (with_reducible refine (m2.out _ (HR.out.2.2.2.2.below hB)).mono ?_); rintro e w3 ⟨v2, rfl, ho2, hb⟩; obtain ⟨B2, d2, hv2, -⟩ := OwnL.row ho2 encH_len; generalize ls.length = q2 at hv2; subst hv2; replace ho2 := ho2.le hB.size; replace ho1 := ho1.below hb; replace k1 := k1.below hb k1.lt; replace k2 := k2.below hb k2.lt; replace hB := below_then hB hb; have f1 := k1.frozen 4; have b1 : w3.cell? ⟨g, 4, none⟩ = some (.slice A6 nl c6) := k1.cell 4; clear hb a4);have hgs := grown_set (grown_refl w3 (some g)) 4 (Value.slice B2 q2 d2);replace ho1 := OwnL.kept ho1 hgs (.inr (Ne.symm (own_ty ho1 k1 (by decide))));replace ho2 := OwnL.kept ho2 hgs (.inr (Ne.symm (own_ty ho2 k1 (by decide))));replace k2 := k2.grown hgs (fun e => by have := Option.some.inj e; omega);replace hB := hB.grown hgs hB.size (fun j e => by cases e; exact hgB);replace k1 : Blk (w3.setCell ⟨g, 4, none⟩ (Value.slice B2 q2 d2)) g 46 #[.int .i64 xe, (Value.slice B1 q1 d1), .slice A3 nc c3, .slice A4 np c4, (Value.slice B2 q2 d2)] := k1.set_ 4 (Value.slice B2 q2 d2);obtain ⟨w4, hw4⟩ : ∃ w2, w2 = w3.setCell ⟨g, 4, none⟩ (Value.slice B2 q2 d2) := ⟨_, rfl⟩;rw [← hw4] at ho1 ho2 k1 k2 hB ⊢;clear hw4 hgs f1 b1 m2;have a2 : w4.cell? ⟨g, 2, none⟩ = some (.slice A3 nc c3) := k1.cell 2
 -- commitments
 go_upto_region 4 with (go_at_call 114; (with_reducible refine (m3.out _ (HR.out.2.1.below hB)).mono ?_); rintro e w5 ⟨v3, rfl, ho3, hb⟩; obtain ⟨B3, d3, hv3, -⟩ := OwnL.row ho3 encI_len; generalize cs.length = q3 at hv3; subst hv3; replace ho3 := ho3.le hB.size; replace ho1 := ho1.below hb; replace ho2 := ho2.below hb; replace k1 := k1.below hb k1.lt; replace k2 := k2.below hb k2.lt; replace hB := below_then hB hb; have f1 := k1.frozen 2; have b1 : w5.cell? ⟨g, 2, none⟩ = some (.slice A3 nc c3) := k1.cell 2; clear hb a2);have hgs := grown_set (grown_refl w5 (some g)) 2 (Value.slice B3 q3 d3);replace ho1 := OwnL.kept ho1 hgs (.inr (Ne.symm (own_ty ho1 k1 (by decide))));replace ho2 := OwnL.kept ho2 hgs (.inr (Ne.symm (own_ty ho2 k1 (by decide))));replace ho3 := OwnL.kept ho3 hgs (.inr (Ne.symm (own_ty ho3 k1 (by decide))));replace k2 := k2.grown hgs (fun e => by have := Option.some.inj e; omega);replace hB := hB.grown hgs hB.size (fun j e => by cases e; exact hgB);replace k1 : Blk (w5.setCell ⟨g, 2, none⟩ (Value.slice B3 q3 d3)) g 46 #[.int .i64 xe, (Value.slice B1 q1 d1), (Value.slice B3 q3 d3), .slice A4 np c4, (Value.slice B2 q2 d2)] := k1.set_ 2 (Value.slice B3 q3 d3);obtain ⟨w6, hw6⟩ : ∃ w2, w2 = w5.setCell ⟨g, 2, none⟩ (Value.slice B3 q3 d3) := ⟨_, rfl⟩;rw [← hw6] at ho1 ho2 ho3 k1 k2 hB ⊢;clear hw6 hgs f1 b1 m3;have a3 : w6.cell? ⟨g, 3, none⟩ = some (.slice A4 np c4) := k1.cell 3;go_wp2_with fail;clear a3
 go_loopw [3, 5, 24] (fun s3 _ s24 wr => ∃ (i : Nat) (us : List Value), i ≤ np ∧ s24 = .int .i64 (i : Int) ∧ us.length = i ∧ OwnV w.heap.size wr s3 us ∧ ListI w.heap.size wr us (ps.take i) ∧ OwnM w.heap.size wr (Value.slice B1 q1 d1) ms ∧ OwnH w.heap.size wr (Value.slice B2 q2 d2) ls ∧ OwnI w.heap.size wr (Value.slice B3 q3 d3) cs ∧ Blk wr g 46 #[.int .i64 xe, (Value.slice B1 q1 d1), (Value.slice B3 q3 d3), .slice A4 np c4, (Value.slice B2 q2 d2)] ∧ Blk wr (g + 1) 46 #[.int .i64 0, .slice none 0 0, .slice none 0 0, .slice none 0 0, .slice none 0 0] ∧ Below w.heap.size w wr) (fun _ _ s24 _ => np - (intOf s24).toNat)
 case atStart => exact ⟨0, [], by omega, rfl, rfl, OwnL.nil_ _ _ _ _ _, ListI.nil _ _, ho1, ho2, ho3, k1, k2, hB⟩
 case round =>
  clear ho1 ho2 ho3 k1 k2 hB;obtain ⟨i, us, hi, rfl, hul, hov, hli, ho1, ho2, ho3, k1, k2, hB⟩ := hrel
  by_cases hlt : i < np
  ·have hlt' : (i : Int) < (np : Int) := by omega
   obtain ⟨b, o, l, A7, c7, rfl, hl, cv, hr7⟩ := rows_get (HR.out.2.2.1.below hB) (HR.out.2.2.2.1.below hB) hlt;have hl1 := HS.out.1 l (List.mem_of_getElem? hl);have m4 := Lib.hid (CloneI_q A7 l.length c7 l (by omega) wr hr7);have HT : Hid (ps.take (i + 1) = ps.take i ++ [l]) := Lib.hid (by rw [List.take_add_one, hl]; rfl);clear hl hr7 hl1;generalize l.length = n7 at m4 cv;have hcB := hB.size;go_upto_region 8 with fail;refine wp_region_lit ?_;refine wpList_plain rfl fun K hK => ?_;go_simp;refine hK _ _ ?_;clear hK K
   try simp only [Act.put, pq1, pq2, pq3]
   refine wpList_plain rfl fun K hK => ?_;go_simp;refine hK _ _ ?_;clear hK K
   try simp only [Act.put, pq1, pq2, pq3]
   refine wpList_plain rfl fun K hK => ?_;go_simp;go_at_call 114;refine m4.out.mono ?_;rintro e wa ⟨v7, rfl, ho7, hb⟩;replace ho7 := ho7.le hcB;obtain ⟨A8, c8, hv8, -⟩ := OwnL.row ho7 encI_len;generalize l.length = n8 at hv8;subst hv8;replace hov := hov.below hb;replace hli := hli.below hb;replace ho1 := ho1.below hb;replace ho2 := ho2.below hb;replace ho3 := ho3.below hb;replace k1 := k1.below hb k1.lt;replace k2 := k2.below hb k2.lt;replace hB := below_then hB hb;clear hb cv;refine hK _ _ ?_;clear hK K
   try simp only [Act.put, pq1, pq2, pq3]
   refine wpList_plain rfl fun K hK => ?_;go_simp;refine hK _ _ ?_;clear hK K
   try simp only [Act.put, pq1, pq2, pq3]
   refine wp_append_row (enc := encV) Tryz.underlying29 ints_info rfl (by decide) (by decide) rfl _ _ rfl (.slice A8 n8 c8) rfl rfl (OwnI.one_cell ho7) rfl hov rfl (by omega) hB.size ?_;intro v6 w6 hov6 hg6;have hli6 := hli.kept hov hg6;have h7k := OwnL.kept ho7 hg6 (rows_apart ho7 hov (by decide));go_wp2_with fail;go_roundw
   case rel => exact ⟨i + 1, _, by omega, by go_num, by rw [List.length_append, hul]; rfl, hov6, by rw [HT.out]; exact hli6.snoc h7k, OwnL.kept ho1 hg6 (rows_apart ho1 hov (by decide)), OwnL.kept ho2 hg6 (rows_apart ho2 hov (by decide)), OwnL.kept ho3 hg6 (rows_apart ho3 hov (by decide)), k1.grown hg6 (own_ty hov k1 (by decide)), k2.grown hg6 (own_ty hov k2 (by decide)), hB.grown hg6 hB.size (own_high hov)⟩
   case measure => simp [intOf]; omega
  ·obtain rfl : np = i := by omega
   rw [List.take_of_length_le (by have := HN.out.2.2.1; omega)] at hli;obtain ⟨Av, cv, hvv, -⟩ := OwnL.row hov encV_len;rw [hul] at hvv;subst hvv;have f3 := k1.frozen 3;have e3 : _ = some (Value.slice A4 np c4) := k1.cell 3;go_upto_region 11 with fail;have hgs := grown_set (grown_refl wr (some g)) 3 (Value.slice Av np cv);replace hov := OwnL.kept hov hgs (.inr (Ne.symm (own_ty hov k1 (by decide))));replace hli := hli.far k1 (by decide) hgs;replace ho1 := OwnL.kept ho1 hgs (.inr (Ne.symm (own_ty ho1 k1 (by decide))));replace ho2 := OwnL.kept ho2 hgs (.inr (Ne.symm (own_ty ho2 k1 (by decide))));replace ho3 := OwnL.kept ho3 hgs (.inr (Ne.symm (own_ty ho3 k1 (by decide))));replace k2 := k2.grown hgs (fun e => by have := Option.some.inj e; omega);replace hB := hB.grown hgs hB.size (fun j e => by cases e; exact hgB);replace k1 : Blk (wr.setCell ⟨g, 3, none⟩ (Value.slice Av np cv)) g 46 (hdrA ⟨xe, Value.slice B1 q1 d1, Value.slice B3 q3 d3, Value.slice Av np cv, Value.slice B2 q2 d2⟩) := k1.set_ 3 (Value.slice Av np cv);obtain ⟨w7, hw7⟩ : ∃ w2, w2 = wr.setCell ⟨g, 3, none⟩ (Value.slice Av np cv) := ⟨_, rfl⟩;rw [← hw7] at hov hli ho1 ho2 ho3 k1 k2 hB ⊢;clear hw7 hgs f3 e3;unfold hdrA at k1;have x0 : _ = some (Value.int .i64 xe) := k1.cell 0;have x1 : _ = some (Value.slice B1 q1 d1) := k1.cell 1;have x2 : _ = some (Value.slice B3 q3 d3) := k1.cell 2;have x3 : _ = some (Value.slice Av np cv) := k1.cell 3;have x4 : _ = some (Value.slice B2 q2 d2) := k1.cell 4;have y0 : _ = some (Value.int .i64 0) := k2.cell 0;have y1 : _ = some (Value.slice none 0 0) := k2.cell 1;have y2 : _ = some (Value.slice none 0 0) := k2.cell 2;have y3 : _ = some (Value.slice none 0 0) := k2.cell 3;have y4 : _ = some (Value.slice none 0 0) := k2.cell 4;have z0 := k2.frozen 0;have z1 := k2.frozen 1;have z2 := k2.frozen 2;have z3 := k2.frozen 3;have z4 := k2.frozen 4;go_wp2_with fail;have kR : Blk _ (g + 1) 46 #[.int .i64 xe, Value.slice B1 q1 d1, Value.slice B3 q3 d3, Value.slice Av np cv, Value.slice B2 q2 d2] := ((((k2.set_ 0 (.int .i64 xe)).set_ 1 (Value.slice B1 q1 d1)).set_ 2 (Value.slice B3 q3 d3)).set_ 3 (Value.slice Av np cv)).set_ 4 (Value.slice B2 q2 d2);have hgR := grown_set (grown_set (grown_set (grown_set (grown_set (grown_refl w7 (some (g + 1))) 0 (.int .i64 xe)) 1 (Value.slice B1 q1 d1)) 2 (Value.slice B3 q3 d3)) 3 (Value.slice Av np cv)) 4 (Value.slice B2 q2 d2);refine bodyPost_ret (results_cell_row (p := 2) (ty := 46) rfl _ _ (g + 1) _ #[.int .i64 xe, Value.slice B1 q1 d1, Value.slice B3 q3 d3, Value.slice Av np cv, Value.slice B2 q2 d2] (0, 0) _ rfl kR Tryz.underlying46 rfl hdr_size) rfl ?_;have hO : HdrOwn w.heap.size w7 ⟨xe, Value.slice B1 q1 d1, Value.slice B3 q3 d3, Value.slice Av np cv, Value.slice B2 q2 d2⟩ ⟨xe, ms, cs, ps, ls⟩ := ⟨rfl, ho1, ho3, ⟨us, hov, hli⟩, ho2⟩;exact ⟨_, rfl, hO.far k2 (by decide) (by decide) (by decide) (by decide) hgR, hB.grown hgR hB.size (fun j e => by cases e; omega)⟩
def encVt (v : Vt) : List Value := [.int .i64 v.who, .string v.text, .int .i64 v.r, .int .i64 v.s]
theorem encVt_len (v : Vt) : (encVt v).length = 4 := rfl
abbrev OwnVt (B : Nat) (w : World) (v : Value) (l : List Vt) : Prop := OwnL encVt 113 4 B w v l
abbrev RowVt (w : World) (A : Option Addr) (n c : Nat) (xs : List Vt) : Prop := Row encVt 4 w A n c xs
theorem RowVt.get {w : World} {A : Option Addr} {n c : Nat} {vs : List Vt} (h : RowVt w A n c vs) {k : Nat} (hk : k < n) : ∃ b o v, A = some ⟨b, o, none⟩ ∧ vs[k]? = some v ∧ w.cell? ⟨b, o + k * 4, none⟩ = some (.int .i64 v.who) ∧ w.cell? ⟨b, o + k * 4 + 1, none⟩ = some (.string v.text) ∧ w.cell? ⟨b, o + k * 4 + 2, none⟩ = some (.int .i64 v.r) ∧ w.cell? ⟨b, o + k * 4 + 3, none⟩ = some (.int .i64 v.s) := by
 obtain ⟨b, o, e, hc⟩ := h.at_ (by omega);have hl : k < vs.length := by have := h.len; omega
 have hm : vs[k]? = some vs[k] := List.getElem?_eq_getElem hl;exact ⟨b, o, vs[k], e, hm, hc k 0 _ _ hm rfl, hc k 1 _ _ hm rfl, hc k 2 _ _ hm rfl, hc k 3 _ _ hm rfl⟩
def I64V (vs : List Vt) : Prop := ∀ v ∈ vs, I64 v.who ∧ I64 v.r ∧ I64 v.s
theorem find_seen {ms : List Mem} {i : Nat} {m z : Mem} (hm : ms[i]? = some m) (h : (ms.take i).find? (·.id == m.id) = some z) (k : Int) : (ms.take i).find? (·.id == k) = (ms.take (i + 1)).find? (·.id == k) := by
 rw [List.take_add_one, hm, Option.toList_some, List.find?_append]
 cases e : (ms.take i).find? (·.id == k) with
 | some x => rfl
 | none =>
   by_cases hk : m.id = k
   ·subst hk; rw [h] at e; cases e
   ·simp [hk]
theorem find_new {ms : List Mem} {i : Nat} {m : Mem} (hm : ms[i]? = some m) (h : (ms.take i).find? (·.id == m.id) = none) (k : Int) : (if k = m.id then some m else (ms.take i).find? (·.id == k)) = (ms.take (i + 1)).find? (·.id == k) := by
 rw [List.take_add_one, hm, Option.toList_some, List.find?_append]
 by_cases hk : k = m.id
 ·subst hk; rw [h, if_pos rfl]; simp
 ·rw [if_neg hk];have : ¬ m.id = k := fun e => hk e.symm
  cases (ms.take i).find? (·.id == k) <;> simp [this]
theorem weight_nil (ms : List Mem) (t : ByteArray) : weightI ms [] t = 0 := by
 have : ∀ n, sumI (addsI ms [] t) n = 0 := fun n => by
  induction n with
  | zero => rfl
  | succ n ih =>
    show sumI _ n + addsI ms [] t n = 0;rw [ih];unfold addsI
    cases ms[n]? <;> simp
 exact this _
theorem find_id {ms : List Mem} {k : Int} {m : Mem} (h : ms.find? (·.id == k) = some m) : m.id = k := by simpa using List.find?_some h
def MarkedF (ms : List Mem) (vs : List Vt) (t : ByteArray) (f : Int → Bool) : Prop := ∀ (k : Int) (m : Mem), ms.find? (·.id == k) = some m → goodW m = true → f k = vs.any (·.ok m t)
theorem marked_skip {ms : List Mem} {vs : List Vt} {v : Vt} {t : ByteArray} {f : Int → Bool} (h : MarkedF ms vs t f) (hv : ∀ m, ms.find? (·.id == v.who) = some m → goodW m = false ∨ vs.any (·.ok m t) = true ∨ v.ok m t = false) : MarkedF ms (vs ++ [v]) t f := fun k m hm hg => by
 rw [h k m hm hg, List.any_append]
 by_cases hk : v.who = m.id
 ·have e := find_id hm
  rcases hv m (by rw [hk, e]; exact hm) with h1 | h1 | h1
  ·rw [h1] at hg; cases hg
  ·simp [h1]
  ·simp [h1]
 ·have : v.ok m t = false := by simp [Vt.ok]; intro e; exact absurd e hk
  simp [this]
theorem marked_add {ms : List Mem} {vs : List Vt} {v : Vt} {t : ByteArray} {f : Int → Bool} {m : Mem} (h : MarkedF ms vs t f) (hm : ms.find? (·.id == v.who) = some m) (hv : v.ok m t = true) : MarkedF ms (vs ++ [v]) t (fun y => if y = m.id then true else f y) := fun k m' hm' hg => by
 have e := find_id hm;have e' := find_id hm';dsimp only
 by_cases hk : k = m.id
 ·have : m' = m := by
   rw [hk, e, hm] at hm';exact (Option.some.inj hm').symm
  subst this;rw [if_pos hk, List.any_append]; simp [hv]
 ·rw [if_neg hk, h k m' hm' hg, any_other (by rw [e', ← e]; exact fun e2 => hk e2.symm)]
theorem ok_bad {v : Vt} {m : Mem} {t : ByteArray} (h : (v.text == t) = false) : v.ok m t = false := by unfold Vt.ok; rw [h]; simp
theorem ok_ver {v : Vt} {m : Mem} {t : ByteArray} (h1 : v.who = m.id) (h2 : v.text = t) : v.ok m t = verS m.pub t.data.toList v.r v.s := by unfold Vt.ok; rw [h1, h2, beq_self_eq_true, txt_beq]; rfl
theorem txt_ne {a b : ByteArray} (h : a ≠ b) : (a == b) = false := by
 cases a with | mk x => cases b with | mk y =>
 exact (beq_eq_false_iff_ne (α := Array UInt8) (a := x) (b := y)).2 fun e => h (by rw [e])
theorem txt_nel {a c : ByteArray} (h : a ≠ c) : (a.toList == c.toList) = false := by
 rw [beq_eq_false_iff_ne, ByteArray.toList_eq, ByteArray.toList_eq]; intro e; exact h (ByteArray.ext (Array.toList_inj.1 e))
theorem take_vs {vs : List Vt} {j : Nat} {v : Vt} (h : vs[j]? = some v) : vs.take (j + 1) = vs.take j ++ [v] := by rw [List.take_add_one, h]; rfl
theorem Weight_q (A1 A2 : Option Addr) (n c1 m c2 : Nat) (ms : List Mem) (vs : List Vt) (t : ByteArray) (hn : n ≤ 100000) (hm : m ≤ 100000) (hI : I64M ms) (hIv : I64V vs) (ht : t.size ≤ 800000) (w : World) (hT : Tabs w) (h1 : RowM w A1 n c1 ms) (h2 : RowVt w A2 m c2 vs) :
 Calls Tryz.prog 115 #[.slice A1 n c1, .slice A2 m c2, .string t] w fun e w' => e = .returned (.int .i64 (weightI ms vs t)) ∧ Below w.heap.size w w' := by
 have hl1 := h1.len;have hl2 := h2.len;have HR := Lib.hid (And.intro h1 h2);have HI := Lib.hid (And.intro hI hIv);have HT := Lib.hid hT;have HV := Lib.hid (fun (key r s : Int) (hk : I64 key) (hr : I64 r) (hs : I64 s) => Verify_s key t r s hk hr hs ht);clear h1 h2 hI hIv hT;have hmm := @run_makeMap Tryz.prog;go_enter Tryz.func115, Tryz.ntmps115;go_wp2_with fail;obtain ⟨b1, hb1⟩ : ∃ b, b = w.heap.size := ⟨_, rfl⟩;have hM0 := MapM.new w;have hB1 : Below w.heap.size w (w.alloc (.map #[] 0)) := below_al (Below.refl _ _) _;have hbB : w.heap.size ≤ b1 := by omega
 rw [← hb1] at hM0 ⊢;clear hb1;have hM1 : MapM (w.alloc (.map #[] 0)) b1 0 (fun k => (ms.take 0).find? (·.id == k)) := hM0;clear hM0
 go_loopw [9, 10, 11, 21] (fun _ _ _ s21 wr => ∃ i N : Nat, i ≤ n ∧ N ≤ i ∧ s21 = .int .i64 (i : Int) ∧ MapM wr b1 N (fun k => (ms.take i).find? (·.id == k)) ∧ Below w.heap.size w wr) (fun _ _ _ s21 _ => n - (intOf s21).toNat)
 case atStart => exact ⟨0, 0, by omega, by omega, rfl, hM1, hB1⟩
 case round =>
  clear hM1 hB1;obtain ⟨i, N, hi, hNi, rfl, hM, hB⟩ := hrel
  by_cases hlt : i < n
  ·have hlt' : (i : Int) < (n : Int) := by omega
   obtain ⟨bb, o, x, rfl, hx, d0, d1, d2⟩ := RowM.get (HR.out.1.below hB) hlt;have hxi := HI.out.1 x (List.mem_of_getElem? hx);have HX := Lib.hid hx;clear hx;go_upto_region 5 with fail;refine name1p ?_;intro W1 k9 hb9;obtain ⟨p9, hp9⟩ : ∃ g, g = wr.heap.size := ⟨_, rfl⟩;have hbl : b1 < p9 := by have := hM.lt; omega
   rw [← hp9] at k9 ⊢;clear hp9;replace hM := hM.below hb9;replace hB := below_then hB hb9;clear hb9 d0 d1 d2;have e0 : W1.cell? ⟨p9, 0, none⟩ = some (.int .i64 x.id) := k9.cell 0
   cases hf : (ms.take i).find? (·.id == x.id) with
   | some z =>
     have hlook := hM.look_some hxi.1 hf;unfold memA at hlook;have hM2 := hM.congr (find_seen HX.out hf);clear hM hf;obtain ⟨p10, hp10⟩ : ∃ g, g = W1.heap.size := ⟨_, rfl⟩;go_upto_region 6 with fail;refine name1p ?_;intro W2 k10 hb10;clear hlook;rw [← hp10] at k10 ⊢;replace hM2 := hM2.below hb10;replace hB := below_then hB hb10;clear hb10 hp10;go_wp2_with fail;go_roundw
     case rel => exact ⟨i + 1, N, by omega, by omega, by go_num, hM2, hB⟩
     case measure => simp [intOf]; omega
   | none =>
     obtain ⟨z, hlook⟩ := hM.look_none hxi.1 hf;unfold memA at hlook;obtain ⟨p10, hp10⟩ : ∃ g, g = W1.heap.size := ⟨_, rfl⟩;go_upto_region 6 with fail;refine name1p ?_;intro W2 k10 hb10;clear hlook;rw [← hp10] at k10 ⊢;have k92 := k9.below hb10 k9.lt;replace hM := hM.below hb10;replace hB := below_then hB hb10;clear hb10 hp10 e0;have e0 : W2.cell? ⟨p9, 0, none⟩ = some (.int .i64 x.id) := k92.cell 0;have e1 : W2.cell? ⟨p9, 1, none⟩ = some (.int .i64 x.wt) := k92.cell 1;have e2 : W2.cell? ⟨p9, 2, none⟩ = some (.int .i64 x.pub) := k92.cell 2;obtain ⟨w2, hput, hM2, hg2⟩ := hM.put (by omega) hxi.1 x;unfold memA at hput;have hM3 := hM2.congr (find_new HX.out hf);have hB2 := hB.grown hg2 hB.size (fun j e => by cases e; exact hbB);clear hM hM2 hB hf;go_wp2_with fail;go_roundw
     case rel => exact ⟨i + 1, N + 1, by omega, by omega, by go_num, hM3, hB2⟩
     case measure => simp [intOf]; omega
  ·obtain rfl : n = i := by omega
   have hMM : MapM wr b1 N (fun k => ms.find? (·.id == k)) := by
    have := hM;rw [List.take_of_length_le (by omega)] at this;exact this
   clear hM hlt;go_upto_region 10 with fail;obtain ⟨b2, hb2⟩ : ∃ b, b = wr.heap.size := ⟨_, rfl⟩;have hS0 := SetB.new wr;have hbB2 : w.heap.size ≤ b2 := by have := hB.size; omega
   have hne : b1 < b2 := by have := hMM.lt; omega
   have hM0 := hMM.below (below_al (Below.refl wr.heap.size wr) (.map #[] 0));replace hB := below_al hB (.map #[] 0);rw [← hb2] at hS0 ⊢;clear hb2 hMM;have HW0 : Hid ((0 : Int) = weightI ms (vs.take 0) t) := Lib.hid (weight_nil ms t).symm;have HK0 : Hid (MarkedF ms (vs.take 0) t (fun _ => false)) := Lib.hid fun _ _ _ _ => rfl;clear hmm;go_wp2_with fail
   go_loopw [13, 15, 16, 17, 42] (fun s13 _ _ _ s42 wr => ∃ (j N2 : Nat) (f : Int → Bool) (x : Int), j ≤ m ∧ N2 ≤ j ∧ s42 = .int .i64 (j : Int) ∧ s13 = .int .i64 x ∧ Hid (x = weightI ms (vs.take j) t) ∧ (0 ≤ x ∧ x ≤ 20 * (j : Int)) ∧ Hid (MarkedF ms (vs.take j) t f) ∧ MapM wr b1 N (fun k => ms.find? (·.id == k)) ∧ SetB wr b2 N2 f ∧ Below w.heap.size w wr) (fun _ _ _ _ s42 _ => m - (intOf s42).toNat)
   case atStart => exact ⟨0, 0, _, 0, by omega, by omega, rfl, rfl, HW0, by omega, HK0, hM0, hS0, hB⟩
   case round =>
    clear hM0 hS0 hB HW0 HK0;obtain ⟨j, N2, f, x, hj, hN2, rfl, rfl, HW, hx, HK, hM, hS, hB⟩ := hrel
    by_cases hlt : j < m
    ·have hlt' : (j : Int) < (m : Int) := by omega
     obtain ⟨bb, o, v, rfl, hv, d0, d1, d2, d3⟩ := RowVt.get (HR.out.2.below hB) hlt;have hvi := HI.out.2 v (List.mem_of_getElem? hv);have HV2 : Hid (vs.take (j + 1) = vs.take j ++ [v]) := Lib.hid (take_vs hv);clear hv;have skip : (∀ m, ms.find? (·.id == v.who) = some m → goodW m = false ∨ (vs.take j).any (·.ok m t) = true ∨ v.ok m t = false) → Hid (x = weightI ms (vs.take (j + 1)) t) ∧ Hid (MarkedF ms (vs.take (j + 1)) t f) := fun hs => by
      rw [HV2.out];exact ⟨Lib.hid (by rw [weight_skip hs]; exact HW.out), Lib.hid (marked_skip HK.out hs)⟩
     have SK := Lib.hid skip;clear skip;go_upto_region 14 with fail;refine name1p ?_;intro W1 k15 hb15;obtain ⟨p15, hp15⟩ : ∃ g, g = wr.heap.size := ⟨_, rfl⟩;have hbl : b1 < p15 := by have := hM.lt; omega
     have hbl2 : b2 < p15 := by have := hS.lt; omega
     rw [← hp15] at k15 ⊢;clear hp15;replace hM := hM.below hb15;replace hS := hS.below hb15;replace hB := below_then hB hb15;clear hb15 d0 d1 d2 d3;have e0 : W1.cell? ⟨p15, 0, none⟩ = some (.int .i64 v.who) := k15.cell 0;obtain ⟨p16, hp16⟩ : ∃ g, g = W1.heap.size := ⟨_, rfl⟩
     cases hf : ms.find? (·.id == v.who) with
     | none =>
       obtain ⟨z, hlook⟩ := hM.look_none hvi.1 hf;unfold memA at hlook;obtain ⟨HW2, HK2⟩ := SK.out (fun m h => by rw [hf] at h; cases h);clear hf;go_upto_region 15 with fail;refine name1p ?_;intro W2 k16 hb16;clear hlook;rw [← hp16] at k16 ⊢;replace hM := hM.below hb16;replace hS := hS.below hb16;replace hB := below_then hB hb16;clear hb16 hp16 e0;go_wp2_with fail;go_roundw
       case rel => exact ⟨j + 1, N2, f, x, by omega, by omega, by go_num, rfl, HW2, by omega, HK2, hM, hS, hB⟩
       case measure => simp [intOf]; omega
     | some z =>
       have hlook := hM.look_some hvi.1 hf;unfold memA at hlook;have hzm := List.mem_of_find?_eq_some hf;have hzi := HI.out.1 z hzm;have HID := Lib.hid (find_id hf);have HF := Lib.hid hf;clear hf;have hpp : p15 < p16 := by have := k15.lt; omega
       go_upto_region 15 with fail;refine name1p ?_;intro W2 k16 hb16;clear hlook;rw [← hp16] at k16 ⊢;replace k15 := k15.below hb16 k15.lt;replace hM := hM.below hb16;replace hS := hS.below hb16;replace hB := below_then hB hb16;clear hb16 hp16 e0;have z0 : W2.cell? ⟨p16, 0, none⟩ = some (.int .i64 z.id) := k16.cell 0;have z1 : W2.cell? ⟨p16, 1, none⟩ = some (.int .i64 z.wt) := k16.cell 1;have z2 : W2.cell? ⟨p16, 2, none⟩ = some (.int .i64 z.pub) := k16.cell 2;have y1 : W2.cell? ⟨p15, 1, none⟩ = some (.string v.text) := k15.cell 1;have y2 : W2.cell? ⟨p15, 2, none⟩ = some (.int .i64 v.r) := k15.cell 2;have y3 : W2.cell? ⟨p15, 3, none⟩ = some (.int .i64 v.s) := k15.cell 3;have hseen := hS.look hzi.1
       by_cases hg1 : z.wt < 1
       ·have hgw : goodW z = false := by unfold goodW; rw [decide_eq_false (by omega)]; rfl
        obtain ⟨HW2, HK2⟩ := SK.out (fun q h => by
         rw [HF.out] at h;obtain rfl := Option.some.inj h
         exact .inl hgw)
        clear hgw
        cases hfz : f z.id with
        | true =>
          rw [hfz] at hseen;clear hfz;go_wp2_with fail;go_roundw
          case rel => exact ⟨j + 1, N2, f, x, by omega, by omega, by go_num, rfl, HW2, by omega, HK2, hM, hS, hB⟩
          case measure => simp [intOf]; omega
        | false =>
          rw [hfz] at hseen;clear hfz;go_wp2_with fail;go_roundw
          case rel => exact ⟨j + 1, N2, f, x, by omega, by omega, by go_num, rfl, HW2, by omega, HK2, hM, hS, hB⟩
          case measure => simp [intOf]; omega
       ·by_cases hg2 : 20 < z.wt
        ·have hgw : goodW z = false := by unfold goodW; rw [decide_eq_false (p := z.wt ≤ 20) (by omega)]; simp
         obtain ⟨HW2, HK2⟩ := SK.out (fun q h => by
          rw [HF.out] at h;obtain rfl := Option.some.inj h
          exact .inl hgw)
         clear hgw
         cases hfz : f z.id with
         | true =>
           rw [hfz] at hseen;clear hfz;go_wp2_with fail;go_roundw
           case rel => exact ⟨j + 1, N2, f, x, by omega, by omega, by go_num, rfl, HW2, by omega, HK2, hM, hS, hB⟩
           case measure => simp [intOf]; omega
         | false =>
           rw [hfz] at hseen;clear hfz;go_wp2_with fail;go_roundw
           case rel => exact ⟨j + 1, N2, f, x, by omega, by omega, by go_num, rfl, HW2, by omega, HK2, hM, hS, hB⟩
           case measure => simp [intOf]; omega
        ·have hgw : Hid (goodW z = true) := Lib.hid (goodW_iff.2 ⟨by omega, by omega⟩);have hany : Hid (f z.id = (vs.take j).any (·.ok z t)) := Lib.hid (HK.out z.id z (by rw [HID.out]; exact HF.out) hgw.out)
         cases hfz : f z.id with
         | true =>
           rw [hfz] at hseen;have HA : Hid ((vs.take j).any (·.ok z t) = true) := Lib.hid (by rw [← hany.out, hfz]);clear hfz
           obtain ⟨HW2, HK2⟩ := SK.out (fun q h => by
            rw [HF.out] at h;obtain rfl := Option.some.inj h
            exact .inr (.inl HA.out))
           go_wp2_with fail;go_roundw
           case rel => exact ⟨j + 1, N2, f, x, by omega, by omega, by go_num, rfl, HW2, by omega, HK2, hM, hS, hB⟩
           case measure => simp [intOf]; omega
         | false =>
           rw [hfz] at hseen;have HA : Hid ((vs.take j).any (·.ok z t) = false) := Lib.hid (by rw [← hany.out, hfz]);clear hfz
           by_cases ht : v.text = t
           ·have HOK := Lib.hid (ok_ver HID.out.symm ht);rw [ht] at y1;clear ht;have q1 := Lib.hid (HV.out z.pub v.r v.s hzi.2.2 hvi.2.1 hvi.2.2);obtain ⟨V, hV⟩ := exq (verS z.pub t.data.toList v.r v.s);rw [← hV] at q1 HOK;clear hV
            cases V with
            | false =>
              obtain ⟨HW2, HK2⟩ := SK.out (fun q h => by
               rw [HF.out] at h;obtain rfl := Option.some.inj h
               exact .inr (.inr HOK.out))
              go_wp2_with (first
               | (go_at_call 127; (refine (q1.out _ (HT.out.below hB)).mono ?_); rintro e w2 ⟨rfl, hb⟩; replace hM := hM.below hb; replace hS := hS.below hb; replace hB := below_then hB hb; clear hb))
              go_roundw
              case rel => exact ⟨j + 1, N2, f, x, by omega, by omega, by go_num, rfl, HW2, by omega, HK2, hM, hS, hB⟩
              case measure => simp [intOf]; omega
            | true =>
              have HW2 : Hid (x + z.wt = weightI ms (vs.take (j + 1)) t) := Lib.hid (by
               rw [HV2.out, weight_add HF.out hgw.out HA.out HOK.out, HW.out])
              have HK2 : Hid (MarkedF ms (vs.take (j + 1)) t (fun y => if y = z.id then true else f y)) := Lib.hid (by
               rw [HV2.out]; exact marked_add HK.out HF.out HOK.out)
              have hw3 : IntKind.i64.wrap (x + z.wt) = x + z.wt := IntWalk.i64_in _ (by omega)
              go_upto_region 17 with (first
               | (go_at_call 127; (refine (q1.out _ (HT.out.below hB)).mono ?_); rintro e w2 ⟨rfl, hb⟩; replace k16 := k16.below hb k16.lt; replace hM := hM.below hb; replace hS := hS.below hb; replace hB := below_then hB hb; clear hb z0 z1 z2 y1 y2 y3 hseen))
              obtain ⟨w3, hput, hS2, hg3⟩ := hS.put (by omega) hzi.1 true;have z0 := k16.cell 0;have k163 := k16.grown hg3 (fun e => by have := Option.some.inj e; omega);have z1 : w3.cell? ⟨p16, 1, none⟩ = some (.int .i64 z.wt) := k163.cell 1;have hM2 := hM.kept hg3 (fun e => by have := Option.some.inj e; omega);have hB2 := hB.grown hg3 hB.size (fun j e => by cases e; exact hbB2);clear hS hM hB;go_wp2_with fail;go_roundw
              case rel => exact ⟨j + 1, N2 + 1, _, x + z.wt, by omega, by omega, by go_num, rfl, HW2, by omega, HK2, hM2, hS2, hB2⟩
              case measure => simp [intOf]; omega
           ·have HOK := Lib.hid (ok_bad (m := z) (txt_ne ht));have hbt := txt_nel ht
            obtain ⟨HW2, HK2⟩ := SK.out (fun q h => by
             rw [HF.out] at h;obtain rfl := Option.some.inj h
             exact .inr (.inr HOK.out))
            go_wp2_with fail;go_roundw
            case rel => exact ⟨j + 1, N2, f, x, by omega, by omega, by go_num, rfl, HW2, by omega, HK2, hM, hS, hB⟩
            case measure => simp [intOf]; omega
    ·obtain rfl : m = j := by omega
     have hxw : x = weightI ms vs t := by rw [HW.out, List.take_of_length_le (by omega)]
     have HXW := Lib.hid hxw;clear hxw;go_wp2_with fail;go_ret;exact ⟨by rw [HXW.out]; rfl, hB⟩
end Go.Proofs.YtkpinmejfdnhbaaGreatDoor
