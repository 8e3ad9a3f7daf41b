/- Joined by a program: LjJ, LjK, LjL, LjM. -/
import Derived.Test.YtkpinmejfdnhbaaGreatDoorLwJ
set_option maxRecDepth 100000
set_option maxHeartbeats 4000000
namespace Go.Proofs.YtkpinmejfdnhbaaGreatDoor
open Go.RowKit Go.Shelf
attribute [local go_sem] Oper.semAt_some
def LinksPost (l : List (List UInt8)) (w : World) (e : Ending) (w' : World) : Prop := ∃ v : Value, e = .returned v ∧ OwnH w.heap.size w' v l ∧ Below w.heap.size w w'
theorem linksL_take (hs : List Hdr) (n k : Nat) (hk : k < bitsN n) {h : Hdr} (hh : hs[n - 2 ^ k]? = some h) : (linksL hs n).take (k + 1) = (linksL hs n).take k ++ [shaS (hdrL h)] := by
 rw [List.take_add_one, links_get hk hh]; rfl
theorem rLinks_q (A : Option Addr) (n c : Nat) (xs : List Hc) (hs : List Hdr) (e : Int) (hn : n ≤ 1000) (hsm : ∀ h ∈ hs, HdrSm h) (w : World) (hr : RowHd w A n c xs) (hi : HdrsIn w xs hs) :
 Calls Tryz.prog 15 #[.slice A n c, .int .i64 e] w (LinksPost (linksG hs e) w) := by
 have hl := hr.len;have hl2 := hi.len;have hB := Below.refl w.heap.size w
 by_cases h1 : e < 1
 ·have hG : linksG hs e = [] := if_pos (.inl h1);rw [hG];go_enter Tryz.func15, Tryz.ntmps15;go_wp2_with fail;go_ret;exact ⟨_, rfl, OwnL.nil_ _ _ _ _ _, hB⟩
 ·by_cases h2 : (n : Int) < e
  ·have hG : linksG hs e = [] := if_pos (.inr (by omega));rw [hG];go_enter Tryz.func15, Tryz.ntmps15;go_wp2_with fail;go_ret;exact ⟨_, rfl, OwnL.nil_ _ _ _ _ _, hB⟩
  ·obtain ⟨E, rfl⟩ : ∃ E : Nat, e = (E : Int) := ⟨e.toNat, by omega⟩;have hG : linksG hs (E : Int) = linksL hs E := by unfold linksG; rw [if_neg (by omega), Int.toNat_natCast]
   rw [hG];have hEn : E ≤ n := by omega
   have hE64 : I64 (E : Int) := ⟨by omega, by omega⟩;have q1 := Lib.hid (rSteps_q (E : Int) hE64);rw [Int.toNat_natCast] at q1;have hb63 := bits_63 (n := E) (by omega);obtain ⟨b, hb⟩ := exq (bitsN E);have HB : Hid (∀ i, 2 ^ i ≤ E ↔ i < b) := Lib.hid (fun i => by rw [hb]; exact bits_le_iff);have HBE := Lib.hid hb;rw [← hb] at hb63;have HI := Lib.hid (And.intro hr (And.intro hi (And.intro hsm (And.intro hl hl2))));clear hb hr hi hsm hl hl2 hE64 hG;go_enter Tryz.func15, Tryz.ntmps15;go_wp2_with (go_at_call 43; (refine (q1.out _).mono ?_); rintro e w1 ⟨v1, rfl, ho1, hb1⟩; obtain ⟨A1, c1, hv1, -⟩ := OwnL.row ho1 encI_len; rw [intsN_len, stepsN_len, ← HBE.out] at hv1; subst hv1);replace hB := below_then hB hb1;have hcB := hb1.size;clear hb1 q1
   go_loopw [5, 7] (fun s5 s7 wr => ∃ i : Nat, i ≤ b ∧ s7 = .int .i64 (i : Int) ∧ OwnH w.heap.size wr s5 ((linksL hs E).take i) ∧ OwnI w.heap.size wr (.slice A1 b c1) (intsN (stepsN E)) ∧ w.heap.size ≤ wr.heap.size ∧ Below w.heap.size w wr) (fun _ s7 _ => b - (intOf s7).toNat)
   case atStart => exact ⟨0, by omega, rfl, OwnL.nil_ _ _ _ _ _, ho1, hcB, hB⟩
   case round =>
    clear ho1 hcB hB;obtain ⟨i, hi, rfl, ho, ho1, hcB, hB⟩ := hrel
    by_cases hlt : i < b
    ·have hlt' : (i : Int) < (b : Int) := by omega
     have hr1 := OwnL.row_at ho1 encI_len;obtain ⟨b1, o1, x1, rfl, hx1, d1⟩ := RowI.get hr1 hlt;rw [intsN_get (stepsN_get (by rw [← HBE.out]; exact hlt))] at hx1;obtain rfl := Option.some.inj hx1;clear hx1 hr1;obtain ⟨K, hK⟩ : ∃ K : Nat, K = 2 ^ i := ⟨_, rfl⟩;rw [← hK] at d1;have hKE := (HB.out i).2 hlt;have hK1 := Nat.two_pow_pos i;rw [← hK] at hKE hK1;obtain ⟨k, hk, hkn⟩ : ∃ k : Nat, (E : Int) - (K : Int) = (k : Int) ∧ k = E - K := ⟨E - K, by omega, rfl⟩;have hk2 : (k : Int) < (n : Int) := by omega
     have hwk : IntKind.i64.wrap (k : Int) = (k : Int) := IntWalk.i64_in _ (by omega);obtain ⟨b2, o2, x, rfl, hx, e0, e1, e2, e3, e4⟩ := rowHd_at (HI.out.1.below hB) (show k < n by omega);have hkl : k < hs.length := by have := HI.out.2.2.2; omega
     obtain ⟨h, hh⟩ : ∃ h, hs[k]? = some h := ⟨_, List.getElem?_eq_getElem hkl⟩;have hsm := HI.out.2.2.1 _ (List.mem_of_getElem? hh);have hx1 := HI.out.2.1.one k x _ hx hh;have hhk := hh;rw [hkn, hK] at hhk;have HT := Lib.hid (linksL_take hs E i (by rw [← HBE.out]; exact hlt) hhk);have m1 := Lib.hid (fun W h2 => rHeaderHash_q x h hsm (Nat.le_trans (hdrL_len hsm) (by omega)) W h2);have HX := Lib.hid hx1;obtain ⟨g, hg⟩ := exq (shaS (hdrL h));have hHT : (linksL hs E).take (i + 1) = (linksL hs E).take i ++ [g] := by rw [hg, HT.out]
     have hg32 : g.length = 32 := by rw [hg]; exact sha_len _
     rw [← hg] at m1;have HG := Lib.hid (And.intro hg32 hHT);have hll : ((linksL hs E).take i).length ≤ 100 := by rw [List.length_take]; omega
     clear hh hhk hsm hx1 hg hkn hg32 hHT HT hK hKE hK1 hx;go_upto_region 8 with fail;refine wp_region_lit ?_;refine wpList_plain rfl fun K hK => ?_;go_simp;refine hK _ _ ?_;clear hK K
     try simp only [Act.put, pq1, pq2, pq3]
     refine wpList_plain rfl fun K hK => ?_;go_simp;refine hK _ _ ?_;clear hK K
     try simp only [Act.put, pq1, pq2, pq3]
     refine wpList_plain rfl fun K hK => ?_;go_simp;refine hK _ _ ?_;clear hK K
     try simp only [Act.put, pq1, pq2, pq3]
     refine wpList_plain rfl fun K hK => ?_;go_simp;refine hK _ _ ?_;clear hK K
     try simp only [Act.put, pq1, pq2, pq3]
     refine wpList_plain rfl fun K hK => ?_;go_simp;refine hK _ _ ?_;clear hK K
     try simp only [Act.put, pq1, pq2, pq3]
     refine wpList_plain rfl fun K hK => ?_;go_simp;refine hK _ _ ?_;clear hK K
     try simp only [Act.put, pq1, pq2, pq3]
     refine wpList_plain rfl fun K hK => ?_;go_simp;refine hK _ _ ?_;clear hK K
     try simp only [Act.put, pq1, pq2, pq3]
     refine wpList_plain rfl fun K hK => ?_;go_simp;refine hK _ _ ?_;clear hK K
     try simp only [Act.put, pq1, pq2, pq3]
     refine wpList_plain rfl fun K hK => ?_;go_simp;refine hK _ _ ?_;clear hK K
     try simp only [Act.put, pq1, pq2, pq3]
     refine wpList_plain rfl fun K hK => ?_;go_simp;refine hK _ _ ?_;clear hK K
     try simp only [Act.put, pq1, pq2, pq3]
     refine wpList_plain rfl fun K hK => ?_;go_simp;go_at_call 41;refine (m1.out _ (HX.out.below hB)).mono ?_;rintro e w2 ⟨rfl, hb⟩;replace ho := ho.below hb;replace ho1 := ho1.below hb;replace hcB := Nat.le_trans hcB hb.size;replace hB := below_then hB hb;clear hb;refine hK _ _ ?_;clear hK K
     try simp only [Act.put, pq1, pq2, pq3]
     refine wpList_plain rfl fun K hK => ?_;refine wp_buildSliceTo 35 38 1 _ rfl Tryz.underlying35 (u8a g) (by simp [Act.eval]; exact hash_slice1 g HG.out.1) ?_;refine hK _ _ ?_;clear hK K
     try simp only [Act.put, pq1, pq2, pq3]
     refine wp_append_row (enc := encH) Tryz.underlying35 hash_info rfl (by decide) (by decide) rfl _ _ rfl g (by rw [encH_eq HG.out.1]; rfl) (encH_len _) (encH_one _) rfl ho rfl (by omega) hcB ?_;intro v6 w6 ho6 hg6;go_wp2_with fail;go_roundw
     case rel => exact ⟨i + 1, by omega, by go_num, by rw [HG.out.2]; exact ho6, OwnL.kept ho1 hg6 (rows_apart ho1 ho (by decide)), Nat.le_trans hcB hg6.size, hB.grown hg6 hcB (own_high ho)⟩
     case measure => simp [intOf]; omega
    ·obtain rfl : b = i := by omega
     rw [List.take_of_length_le (by rw [links_len, HBE.out]; exact Nat.le_refl _)] at ho;go_wp2_with fail;go_ret;exact ⟨_, rfl, ho, hB⟩
def routeG (a b : Int) : List Nat := if b < 0 ∨ a ≤ b then [] else routeD b.toNat (a - b).toNat
def RoutePost (l : List Nat) (w : World) (e : Ending) (w' : World) : Prop := ∃ v : Value, e = .returned v ∧ OwnI w.heap.size w' v (intsN l) ∧ Below w.heap.size w w'
theorem left_step {f d : Nat} (h : d ≠ 0) (hf : d < 2 ^ f) : ∃ g, f = g + 1 ∧ leftD f d = (d - 2 ^ (bitsN d - 1)) :: leftD g (d - 2 ^ (bitsN d - 1)) ∧ d - 2 ^ (bitsN d - 1) < 2 ^ g := by
 cases f with
 | zero => simp at hf; exact absurd hf h
 | succ g => exact ⟨g, rfl, left_cons h, left_lt h hf⟩
theorem linksG_yes {hs : List Hdr} {E : Nat} (h1 : 1 ≤ E) (h2 : E ≤ hs.length) : linksG hs (E : Int) = linksL hs E := by unfold linksG; rw [if_neg (by omega), Int.toNat_natCast]
def lkF (hs : List Hdr) (E i : Nat) : List UInt8 := match hs[E - 2 ^ i]? with
 | some h => shaS (hdrL h)
 | none => []
theorem links_lk (hs : List Hdr) (E : Nat) : linksL hs E = (List.range (bitsN E)).map (lkF hs E) := rfl
theorem row_new1 {w : World} {g : Nat} {t : TypeId} {h : List UInt8} (hk : Blk w g t (u8a h)) (hl : h.length = 32) : RowH w (some ⟨g, 0, none⟩) 1 1 [h] := by
 refine ⟨rfl, Nat.le_refl _, fun _ => ⟨g, 0, rfl, fun j k x u hx hu => ?_⟩⟩
 cases j with
 | zero =>
   obtain rfl : h = x := Option.some.inj hx;rw [encH_eq hl] at hu;have := hash_range hk k u hu
   simpa using this
 | succ j => simp at hx
theorem Links_q (A : Option Addr) (n c : Nat) (xs : List Hc) (hs : List Hdr) (e : Int) (hn : n ≤ 1000) (he : I64 e) (hsm : ∀ h ∈ hs, HdrSm h) (w : World) (hT : Tabs w) (hr : RowHd w A n c xs) (hi : HdrsIn w xs hs) :
 Calls Tryz.prog 14 #[.slice A n c, .int .i64 e] w (LinksPost (linksG hs e) w) := by
 have hl := hr.len;have hl2 := hi.len;refine (callsIn_wide (n := 4)).1 ?_;refine callsIn_of_wp_marks Tryz.func14 rfl trivial ?_ rfl;refine wpIn_wide.2 ?_;simp only [Tryz.ntmps14, List.size_toArray, List.length_cons, List.length_nil, Nat.reduceAdd, Nat.reduceSub, Array.replicate_succ, Array.replicate_zero, List.push_toArray, List.append_toArray, List.nil_append, List.cons_append];go_upto_region 1 with fail;refine name2p ?_;intro W0 k1 k2 hB;obtain ⟨B, hBe⟩ := exq w.heap.size;rw [← hBe] at k1 k2 ⊢;have hgB : w.heap.size ≤ B := by omega
 clear hBe;have a1 : W0.cell? ⟨B, 0, none⟩ = some (.slice A n c) := k1.cell 0;have a2 : W0.cell? ⟨B + 1, 0, none⟩ = some (.int .i64 e) := k2.cell 0
 by_cases h1 : e < 1
 ·have hG : linksG hs e = [] := if_pos (.inl h1);go_wp2_with fail;exact ⟨_, results_tmp rfl _ _ _, .slice none 0 0, rfl, (by first | exact OwnL.nil_ _ _ _ _ _ | (rw [hG]; exact OwnL.nil_ _ _ _ _ _)), hB⟩
 ·by_cases h2 : (n : Int) < e
  ·have hG : linksG hs e = [] := if_pos (.inr (by omega));go_wp2_with fail;exact ⟨_, results_tmp rfl _ _ _, .slice none 0 0, rfl, (by first | exact OwnL.nil_ _ _ _ _ _ | (rw [hG]; exact OwnL.nil_ _ _ _ _ _)), hB⟩
  ·obtain ⟨E, rfl⟩ : ∃ E : Nat, e = (E : Int) := ⟨e.toNat, by omega⟩;have HG0 : Hid (linksG hs (E : Int) = linksL hs E) := Lib.hid (linksG_yes (by omega) (by omega));have HI := Lib.hid (And.intro hT (And.intro hr (And.intro hi (And.intro hsm (And.intro hl hl2)))));have HE := Lib.hid he;have hEn : E ≤ n := by omega
   clear hT hr hi hsm hl hl2 he;go_upto_region 4 with fail;refine name1p ?_;intro W1 k3 hb1;obtain ⟨p3, hp3⟩ : ∃ g, g = W0.heap.size := ⟨_, rfl⟩;have hp3B : B + 2 ≤ p3 := by have := k2.lt; omega
   rw [← hp3] at k3 ⊢;clear hp3;replace k1 := k1.below hb1 k1.lt;replace k2 := k2.below hb1 k2.lt;replace hB := below_then hB hb1;clear hb1 a1;replace a2 : W1.cell? ⟨B + 1, 0, none⟩ = some (.int .i64 (E : Int)) := k2.cell 0;go_wp2_with fail;refine (steps_any (E : Int) _).mono ?_;rintro e w4 ⟨rfl, rfl⟩;go_wp2_with fail;obtain ⟨p, hp⟩ := exq W1.heap.size;have kp := Blk.new W1 3 #[.int .i64 (E : Int)];have hbb : Below W1.heap.size W1 (W1.alloc (.cells #[.int .i64 (E : Int)] 3)) := below_al (Below.refl _ _) _;replace k1 := k1.below hbb k1.lt;replace k2 := k2.below hbb k2.lt;have hp3p : p3 < p := by have := k3.lt; omega
   replace k3 := k3.below hbb k3.lt;replace hB := below_then hB hbb;generalize W1.alloc (.cells #[.int .i64 (E : Int)] 3) = W4 at k1 k2 k3 kp hB ⊢;rw [← hp] at kp ⊢;clear hbb hp a2;have hpl := kp.lt;obtain ⟨b, hb⟩ := exq (bitsN E);have hbE : b = bitsN ((E : Int)).toNat := by rw [Int.toNat_natCast]; exact hb
   have HBE := Lib.hid hb;have hb63 : b ≤ 63 := by rw [hb]; exact bits_63 (by omega)
   clear hb;refine (wpIn_wide (n := 4)).1 ?_;refine rf_two (enc1 := fun x : Fin b => .int .i64 ((x.1 : Nat) : Int)) (enc2 := fun x : Fin b => .int .i64 ((2 ^ x.1 : Nat) : Int)) rfl (by omega) (gf := 89) (lb := #[.pointer (some ⟨p, 0, none⟩)]) rfl trivial (enters_of Tryz.func89 (by kernel_rfl) rfl)
    (steps_stops _ p (E : Int) HE.out b hbE W4 kp) sameOne_t (sameOne_b hpl) (Below.refl _ _)
    (fun pre W => ∃ v : Value, Blk W p3 35 #[v] ∧ OwnH w.heap.size W v (pre.map fun x => lkF hs E x.1) ∧ Blk W B 31 #[.slice A n c] ∧ Blk W (B + 1) 3 #[.int .i64 (E : Int)] ∧ Blk W p 3 #[.int .i64 (E : Int)] ∧ Below w.heap.size w W)
    ?own ?start (fun x => { tmps := #[.slice A n c, .int .i64 (E : Int), .pointer (some ⟨B, 0, none⟩), .pointer (some ⟨B + 1, 0, none⟩), .slice none 0 0, .pointer (some ⟨p3, 0, none⟩), undef, .int .i64 ((2 ^ x.1 : Nat) : Int), .int .i64 (E : Int), .bool false, .bool false, .int .i64 (E : Int), .slice A n c, .int .i64 (n : Int), .bool false, .bool false, .int .i64 (E : Int), .func (.func 89) #[] #[.pointer (some ⟨p, 0, none⟩)], .int .i64 ((x.1 : Nat) : Int), .int .i64 ((2 ^ x.1 : Nat) : Int), undef, undef, undef, undef, undef, undef, undef, undef, undef, undef, undef], defers := [] }) ?assign ?body ?done
   case own =>
    rintro pre A' B' row ⟨v, j1, ho, j2, j3, j4, hb⟩ hg hr;have hr' := fun r e => (hr r e).2;exact ⟨v, blk_kept j1 hg hr', own_keptL ho hg hr', blk_kept j2 hg hr', blk_kept j3 hg hr', blk_kept j4 hg hr', ownFrom_below (β := List (Fin b)) (Nat.le_refl _) (by omega) [] A' B' row hb hg hr⟩
   case start =>
    exact ⟨_, k3, OwnL.nil_ _ _ _ _ _, k1, k2, kp, hB⟩
   case assign =>
    intro l x W K hK
    gi_wp2
    exact hK
   case body =>
    rintro l pre ⟨i, hi⟩ W ⟨v, j1, ho, j2, j3, j4, hb⟩ hlen;dsimp only;have hKE : 2 ^ i ≤ E := bits_le_iff.2 (by rw [← HBE.out]; exact hi);have hK1 := Nat.two_pow_pos i;obtain ⟨K, hK⟩ : ∃ K : Nat, K = 2 ^ i := ⟨_, rfl⟩;rw [← hK] at hKE hK1 ⊢;obtain ⟨k, hk, hkn⟩ : ∃ k : Nat, (E : Int) - (K : Int) = (k : Int) ∧ k = E - K := ⟨E - K, by omega, rfl⟩;have hk2 : (k : Int) < (n : Int) := by omega
    have hwk : IntKind.i64.wrap (k : Int) = (k : Int) := IntWalk.i64_in _ (by omega);have hbd := hb.drew;obtain ⟨b2, o2, x, rfl, hx, e0, e1, e2, e3, e4⟩ := rowHd_at HI.out.2.1 (show k < n by omega);have HC := Lib.hid (And.intro e0 (And.intro e1 (And.intro e2 (And.intro e3 e4))));clear e0 e1 e2 e3 e4;have hkl : k < hs.length := by have := HI.out.2.2.2.2; omega
    obtain ⟨h, hh⟩ : ∃ h, hs[k]? = some h := ⟨_, List.getElem?_eq_getElem hkl⟩;have hsm := HI.out.2.2.2.1 _ (List.mem_of_getElem? hh);have HX := Lib.hid (HI.out.2.2.1.one k x _ hx hh);have m1 := Lib.hid (fun W hT h2 => HeaderHash_q x h hsm W hT h2);obtain ⟨g, hg⟩ := exq (shaS (hdrL h));have hlk : lkF hs E i = g := by
     unfold lkF;rw [← hK, ← hkn, hh, hg]
    have HM : Hid ((pre ++ [(⟨i, hi⟩ : Fin b)]).map (fun x => lkF hs E x.1) = pre.map (fun x => lkF hs E x.1) ++ [g]) := Lib.hid (by rw [List.map_append]; show _ ++ [lkF hs E i] = _; rw [hlk]);have HG := Lib.hid (show g.length = 32 by rw [hg]; exact sha_len _);rw [← hg] at m1;have hml : (pre.map fun x : Fin b => lkF hs E x.1).length ≤ 1000000 := by rw [List.length_map]; omega
    clear hh hkl hsm hx hg hlk hkn hK hKE hK1;have hod : OwnH w.heap.size W.drew v (pre.map fun x => lkF hs E x.1) := ho;have k1d : Blk W.drew p3 35 #[v] := j1;have k2d : Blk W.drew B 31 #[.slice (some ⟨b2, o2, none⟩) n c] := j2;have k3d : Blk W.drew (B + 1) 3 #[.int .i64 (E : Int)] := j3;have k4d : Blk W.drew p 3 #[.int .i64 (E : Int)] := j4;have c1 : W.drew.cell? ⟨p3, 0, none⟩ = some v := k1d.cell 0;have c2 : W.drew.cell? ⟨B, 0, none⟩ = some (.slice (some ⟨b2, o2, none⟩) n c) := k2d.cell 0;have c3 : W.drew.cell? ⟨B + 1, 0, none⟩ = some (.int .i64 (E : Int)) := k3d.cell 0;obtain ⟨V, hV⟩ := exq W.drew;have hWV : Below W.heap.size W V := by rw [hV]; exact (Below.refl _ _).drew
    gi_wp2_with fail
    refine region_round (fun Z : World => Z.cell? ⟨p3, 0, none⟩ = some v ∧ Z.cell? ⟨B, 0, none⟩ = some (.slice (some ⟨b2, o2, none⟩) n c) ∧ Z.cell? ⟨B + 1, 0, none⟩ = some (.int .i64 (E : Int)) ∧ Z.cell? ⟨b2, o2 + k * 5, none⟩ = some (.int .i64 x.e) ∧ Z.cell? ⟨b2, o2 + k * 5 + 1, none⟩ = some x.m ∧ Z.cell? ⟨b2, o2 + k * 5 + 2, none⟩ = some x.c ∧ Z.cell? ⟨b2, o2 + k * 5 + 3, none⟩ = some x.p ∧ Z.cell? ⟨b2, o2 + k * 5 + 4, none⟩ = some x.l) 10 (by kernel_rfl) (by kernel_rfl) (by rintro ⟨_, _, h⟩; exact h) ⟨c1, c2, c3, cell_b hbd HC.out.1, cell_b hbd HC.out.2.1, cell_b hbd HC.out.2.2.1, cell_b hbd HC.out.2.2.2.1, cell_b hbd HC.out.2.2.2.2⟩ (fun hHeld => ?_);rw [← hV] at hHeld hod k1d k2d k3d k4d hbd ⊢;clear hV c1 c2 c3;refine tkT 0 rfl ?_;refine tkT 1 rfl ?_;refine tkT 2 rfl ?_;refine tkT 3 rfl ?_;refine tkT 4 rfl ?_;refine tkT 5 rfl ?_;refine tkT 6 rfl ?_;refine tkO 7 rfl fun K hK => ?_;go_simp;go_at_call 49;refine (m1.out _ (HI.out.1.below hbd) (HX.out.below hbd)).mono ?_;rintro e wa ⟨rfl, hba⟩
    (try go_wp2_with fail)
    replace hod := hod.below hba;replace k1d := k1d.below hba k1d.lt;replace k2d := k2d.below hba k2d.lt;replace k3d := k3d.below hba k3d.lt;replace k4d := k4d.below hba k4d.lt;replace hbd := below_then hbd hba;replace hWV := below_then hWV hba;refine hK.out _ _ ?_ (fun hHeld7 => ?_)
    ·exact ⟨cell_b hba hHeld.1, cell_b hba hHeld.2.1, cell_b hba hHeld.2.2.1, cell_b hba hHeld.2.2.2.1, cell_b hba hHeld.2.2.2.2.1, cell_b hba hHeld.2.2.2.2.2.1, cell_b hba hHeld.2.2.2.2.2.2.1, cell_b hba hHeld.2.2.2.2.2.2.2⟩
    clear hK K
    try simp only [Act.put, pq1, pq2, pq3]
    refine tkO 8 rfl fun K hK => ?_;rw [if_pos (by rfl)];refine wp_buildSliceTo 35 38 1 _ rfl Tryz.underlying35 (u8a g) (by simp [Act.eval]; exact hash_slice1 g HG.out) ?_;refine alloc_name ?_;intro wz kz hbz;replace hod := hod.below hbz;replace k1d := k1d.below hbz k1d.lt;replace k2d := k2d.below hbz k2d.lt;replace k3d := k3d.below hbz k3d.lt;replace k4d := k4d.below hbz k4d.lt;replace hbd := below_then hbd hbz;replace hWV := below_then hWV hbz;refine hK.out _ _ ?_ (fun hHeld8 => ?_)
    ·exact ⟨cell_b hbz hHeld7.1, cell_b hbz hHeld7.2.1, cell_b hbz hHeld7.2.2.1, cell_b hbz hHeld7.2.2.2.1, cell_b hbz hHeld7.2.2.2.2.1, cell_b hbz hHeld7.2.2.2.2.2.1, cell_b hbz hHeld7.2.2.2.2.2.2.1, cell_b hbz hHeld7.2.2.2.2.2.2.2⟩
    clear hK K
    try simp only [Act.put, pq1, pq2, pq3]
    refine tkO 9 rfl fun K hK => ?_;refine step_append_rows (enc := encH) (B := w.heap.size) (l := pre.map fun x : Fin b => lkF hs E x.1) (ds := [g]) (A := some ⟨wa.heap.size, 0, none⟩) (n := 1) (c := 1) Tryz.underlying35 hash_info rfl (by decide) (by decide) rfl (.tmp 20) (.tmp 28) rfl encH_len encH_one rfl hod rfl (row_new1 kz HG.out) hml (by decide) hbd.size ?_;intro v' w3 ho3 hg3;obtain ⟨A3, c3, hv3, -⟩ := OwnL.row ho3 encH_len;generalize ((pre.map fun x : Fin b => lkF hs E x.1) ++ [g]).length = m3 at hv3;subst hv3;have k1s := k1d.grown hg3 (own_ty hod k1d (by decide));have k2s := k2d.grown hg3 (own_ty hod k2d (by decide));have k3s := k3d.grown hg3 (own_ty hod k3d (by decide));have k4s := k4d.grown hg3 (own_ty hod k4d (by decide));have d1 : w3.cell? ⟨p3, 0, none⟩ = some v := k1s.cell 0;have d1f := k1s.frozen 0;have hO := own_high hod;have hC := own_cells hod;have hgr := hbd.grown hg3 hbd.size (fun k e => hO k e);refine hK.out _ _ ?_ (fun hHeld9 => ?_)
    ·exact ⟨k1s.cell 0, k2s.cell 0, k3s.cell 0, cell_b hgr HC.out.1, cell_b hgr HC.out.2.1, cell_b hgr HC.out.2.2.1, cell_b hgr HC.out.2.2.2.1, cell_b hgr HC.out.2.2.2.2⟩
    clear hK K
    try simp only [Act.put, pq1, pq2, pq3]
    refine tkK 10 rfl fun K hK => ?_;go_simp;refine hK.out _ _ ?_;clear hK K
    try simp only [Act.put]
    refine tkD ?_;have k1f := k1s.set_ 0 (Value.slice A3 m3 c3);have k2f := kept_set k2s (blk_ty k2s k1s (by decide)) 0 (Value.slice A3 m3 c3);have k3f := kept_set k3s (blk_ty k3s k1s (by decide)) 0 (Value.slice A3 m3 c3);have k4f := kept_set k4s (blk_ty k4s k1s (by decide)) 0 (Value.slice A3 m3 c3);have hof := OwnL.kept ho3 (grown_set (grown_refl w3 (some p3)) 0 (Value.slice A3 m3 c3)) (.inr (Ne.symm (own_ty ho3 k1s (by decide))));rw [← HM.out] at hof;exact ⟨((keeps_below hWV).trans (KeepsOthers.of_grownBy hg3 hC)).trans (KeepsOthers.setCell w3 ⟨p3, 0, none⟩ _), Eq.trans k4f (Eq.symm j4), _, k1f, hof, k2f, k3f, k4f, below_set hgr (p := ⟨p3, 0, none⟩) (by show w.heap.size ≤ p3; omega) _⟩
   case done =>
    rintro D xs W hD rfl ⟨v, j1, ho, j2, j3, j4, hb⟩ hdef;rw [fin_map b (lkF hs E), HBE.out, ← links_lk, ← HG0.out] at ho;have c1 : W.cell? ⟨p3, 0, none⟩ = some v := j1.cell 0;go_wp2_with fail;refine ⟨by simp, .inl ⟨_, _, rfl, run_takeDeferred hdef, ?_⟩⟩;refine ⟨v, ?_, v, rfl, own_keptL ho (grownBy_putObj' W D _) (fun r e => by cases e; exact ⟨_, hdef, rfl⟩), hb.trans (belowK_b (w := w) (Nat.le_refl _) W D _ _ (by omega) hdef rfl rfl)⟩
    simp [results, Tryz.f14, go_sem]
/-! ### marks of ranges over functions, one for each round of a loop -/
def Marks (B : Nat) (Ds : List Nat) (w : World) : Prop := Ds.Nodup ∧ ∀ D ∈ Ds, B ≤ D ∧ w.heap[D]? = some (.deferred (some []))
def markL (Ds : List Nat) : List Deferred := Ds.map fun D => { target := .collected D, args := #[] }
theorem Marks.nil (B : Nat) (w : World) : Marks B [] w := ⟨List.nodup_nil, fun D h => by simp at h⟩
theorem Marks.lt {B : Nat} {Ds : List Nat} {w : World} (h : Marks B Ds w) : ∀ D ∈ Ds, D < w.heap.size := fun D hD => (Array.getElem?_eq_some_iff.1 (h.2 D hD).2).1
theorem Marks.below {B : Nat} {Ds : List Nat} {w w' : World} (h : Marks B Ds w) (hb : Below w.heap.size w w') : Marks B Ds w' :=
 ⟨h.1, fun D hD => ⟨(h.2 D hD).1, (hb.block D (h.lt D hD)).trans (h.2 D hD).2⟩⟩
theorem Marks.keptFrom {B n₀ : Nat} {Ds : List Nat} {w w' : World} (h : Marks B Ds w) {row : Option Nat} (hg : w.grownBy w' row) (hD : ∀ D ∈ Ds, D < n₀) (hr : ∀ r, row = some r → n₀ ≤ r) : Marks B Ds w' :=
 ⟨h.1, fun D hM => ⟨(h.2 D hM).1, (hg.block D (h.lt D hM) (fun e => by have := hr D e.symm; have := hD D hM; omega)).trans (h.2 D hM).2⟩⟩
theorem Marks.cons {B : Nat} {Ds : List Nat} {w : World} (h : Marks B Ds w) {D : Nat} (hB : B ≤ D) (hd : w.heap[D]? = some (.deferred (some []))) (hlt : ∀ E ∈ Ds, E < D) : Marks B (D :: Ds) w :=
 ⟨List.nodup_cons.2 ⟨fun hm => absurd (hlt D hm) (Nat.lt_irrefl _), h.1⟩, fun E hE => by
  rcases List.mem_cons.1 hE with rfl | hE
  ·exact ⟨hB, hd⟩
  ·exact h.2 E hE⟩
theorem Marks.set {B : Nat} {Ds : List Nat} {w : World} (h : Marks B Ds w) {k : Nat} {t : TypeId} {cs : Array Value} (hk : Blk w k t cs) (i : Nat) (u : Value) : Marks B Ds (w.setCell ⟨k, i, none⟩ u) :=
 ⟨h.1, fun D hD => ⟨(h.2 D hD).1, (RowKit.Below.heap_setCell _ _ _ _ (fun e => by
  have h1 := (h.2 D hD).2;rw [e] at h1;rw [show w.heap[k]? = _ from hk] at h1
  cases h1)).trans (h.2 D hD).2⟩⟩
theorem Marks.grown {B : Nat} {Ds : List Nat} {w w' : World} (h : Marks B Ds w) {row : Option Nat} (hg : w.grownBy w' row) (hr : ∀ (j : Nat) (o : Obj), row = some j → w.heap[j]? = some o → o.isCells = true) : Marks B Ds w' :=
 ⟨h.1, fun D hD => ⟨(h.2 D hD).1, (hg.block D (h.lt D hD) (fun e => by
  have := hr D _ e.symm (h.2 D hD).2
  simp [Obj.isCells] at this)).trans (h.2 D hD).2⟩⟩
theorem leaves_marks {F : Fence} {n : Nat} {P : Program} {fn : Func} {tmps : Array Value} {R : Ending → World → Prop} {u : FrameMode} {B : Nat} (hu : u ≠ .run) (K : World → Prop)
 (hK : ∀ W D, B ≤ D → W.heap[D]? = some (.deferred (some [])) → K W → K (W.putObj D (.deferred none))) (hfin : ∀ W, K W → LeavesInM F n P fn tmps R [] u W) :
 ∀ (Ds : List Nat) (W : World), Marks B Ds W → K W → LeavesInM F n P fn tmps R (markL Ds) u W
 | [], W, _, hk => hfin W hk
 | D :: Ds, W, hm, hk => by
   have h1 := hm.2 D (List.mem_cons_self ..);refine ⟨hu, .inl ⟨D, _, rfl, run_takeDeferred h1.2, leaves_marks hu K hK hfin Ds _ ⟨(List.nodup_cons.1 hm.1).2, fun E hE => ?_⟩ (hK W D h1.1 h1.2 hk)⟩⟩;have h2 := hm.2 E (List.mem_cons_of_mem _ hE);refine ⟨h2.1, (World.putObj_heap_other (fun e => ?_)).trans h2.2⟩;have hn := (List.nodup_cons.1 hm.1).1
   first | exact hn (e ▸ hE) | exact hn (e.symm ▸ hE)
/-! ### the best step -/
def bestN (d : Nat) (a i : Nat) : Nat := if 2 ^ i ≤ d then 2 ^ i else a
theorem best_range (d : Nat) : ∀ n, (List.range n).foldl (bestN d) 0 = if min n (bitsN d) = 0 then 0 else 2 ^ (min n (bitsN d) - 1)
 | 0 => by simp
 | n + 1 => by
   rw [List.range_succ, List.foldl_append, best_range d n];show bestN d _ n = _;unfold bestN
   by_cases h : 2 ^ n ≤ d
   ·have h1 := bits_le_iff.1 h;rw [if_pos h, Nat.min_eq_left (by omega), if_neg (by omega), Nat.add_sub_cancel]
   ·have h1 : ¬ n < bitsN d := fun h2 => h (bits_le_iff.2 h2);rw [if_neg h, Nat.min_eq_right (by omega), Nat.min_eq_right (by omega)]
theorem bits_mono {a b : Nat} (h : a ≤ b) : bitsN a ≤ bitsN b := by
 by_cases h0 : bitsN a = 0
 ·omega
 ·have h1 := bits_le_iff.2 (show bitsN a - 1 < bitsN a by omega);have h2 := bits_le_iff.1 (Nat.le_trans h1 h)
  omega
theorem best_all {d f b : Nat} (hd : d ≠ 0) (hdf : d ≤ f) (hb : b = bitsN f) : (List.finRange b).foldl (fun a x => bestN d a x.1) 0 = 2 ^ (bitsN d - 1) := by
 have h1 := best_range d b;rw [← fin_range b, List.foldl_map] at h1;have h2 := bits_mono hdf;have h3 := (bits_pow hd).2.2;rw [h1, Nat.min_eq_right (by omega), if_neg h3]
theorem Route_q (a b : Int) (ha : I64 a) (w : World) :
 Calls Tryz.prog 10 #[.int .i64 a, .int .i64 b] w (RoutePost (routeG a b) w) := by
 refine (callsIn_wide (n := 4)).1 ?_;refine callsIn_of_wp_marks Tryz.func10 rfl trivial ?_ rfl;refine wpIn_wide.2 ?_;simp only [Tryz.ntmps10, List.size_toArray, List.length_cons, List.length_nil, Nat.reduceAdd, Nat.reduceSub, Array.replicate_succ, Array.replicate_zero, List.push_toArray, List.append_toArray, List.nil_append, List.cons_append];go_upto_region 1 with fail;refine name2p ?_;intro W0 k1 k2 hB;obtain ⟨B, hBe⟩ := exq w.heap.size;rw [← hBe] at k1 k2 ⊢;have hgB : w.heap.size ≤ B := by omega
 clear hBe;have a1 : W0.cell? ⟨B, 0, none⟩ = some (.int .i64 a) := k1.cell 0;have a2 : W0.cell? ⟨B + 1, 0, none⟩ = some (.int .i64 b) := k2.cell 0
 by_cases h1 : b < 0
 ·have hG : routeG a b = [] := if_pos (.inl h1);go_wp2_with fail;exact ⟨_, results_tmp rfl _ _ _, .slice none 0 0, rfl, (by first | exact OwnL.nil_ _ _ _ _ _ | (rw [hG]; exact OwnL.nil_ _ _ _ _ _)), hB⟩
 ·by_cases h2 : a ≤ b
  ·have hG : routeG a b = [] := if_pos (.inr h2);go_wp2_with fail;exact ⟨_, results_tmp rfl _ _ _, .slice none 0 0, rfl, (by first | exact OwnL.nil_ _ _ _ _ _ | (rw [hG]; exact OwnL.nil_ _ _ _ _ _)), hB⟩
  ·obtain ⟨T, rfl⟩ : ∃ T : Nat, b = (T : Int) := ⟨b.toNat, by omega⟩;obtain ⟨F0, rfl⟩ : ∃ F0 : Nat, a = (F0 : Int) := ⟨a.toNat, by omega⟩;obtain ⟨D, hF⟩ : ∃ D : Nat, F0 = T + D := ⟨F0 - T, by omega⟩;have hG : routeG (F0 : Int) (T : Int) = routeD T D := by
    unfold routeG;rw [if_neg (by omega), Int.toNat_natCast]
    congr 1
    omega
   have hD : D < 2 ^ 64 := by have := ha.2; omega
   have hF0 : F0 ≤ 9223372036854775807 := by have := ha.2; omega
   have HR0 : Hid ([] ++ (leftD 64 D).map (T + ·) = routeD T D) := Lib.hid rfl;have HF := Lib.hid hF;have HD := Lib.hid hD;obtain ⟨R, hR⟩ := exq (routeD T D);rw [← hR] at HR0 hG;have HG := Lib.hid hG;clear hG hF hR ha hD;go_wp2_with fail;refine wp_loop (fun a' w' => ∃ (u6 u7 u8 u16 u17 u18 u19 u20 u21 u22 u23 u24 u25 u26 u27 u28 u29 u30 u31 u32 u33 u34 u35 u36 : Value) (Ds : List Nat) (v : Value), (∃ (d f F : Nat) (L : List Nat), Blk w' B 3 #[.int .i64 (F : Int)] ∧ Blk w' (B + 1) 3 #[.int .i64 (T : Int)] ∧ OwnI (B + 2) w' v (intsN L) ∧ F = T + d ∧ Hid (d < 2 ^ f) ∧ f ≤ 64 ∧ Hid (L ++ (leftD f d).map (T + ·) = R) ∧ d ≤ D ∧ L.length ≤ 64 - f ∧ w.heap.size ≤ w'.heap.size ∧ Below w.heap.size w w' ∧ Marks w.heap.size Ds w') ∧ a' = { tmps := #[.int .i64 (F0 : Int), .int .i64 (T : Int), .pointer (some ⟨B, 0, none⟩), .pointer (some ⟨B + 1, 0, none⟩), .slice none 0 0, v, u6, u7, u8, .int .i64 (T : Int), .bool false, .bool false, .int .i64 (T : Int), .int .i64 (F0 : Int), .bool false, .bool false, u16, u17, u18, u19, u20, u21, u22, u23, u24, u25, u26, u27, u28, u29, u30, u31, u32, u33, u34, u35, u36], defers := markL Ds }) (fun _ w' => (intOf ((w'.cell? ⟨B, 0, none⟩).getD undef) - T).toNat) ?_ ?_
   ·exact ⟨_, _, _, _, _, _, _, _, _, _, _, _, _, _, _, _, _, _, _, _, _, _, _, _, [], _, ⟨D, 64, F0, [], k1, k2, OwnL.nil_ _ _ _ _ _, HF.out, HD, by omega, HR0, by omega, by simp, hB.size, hB, Marks.nil _ _⟩, rfl⟩
   ·rintro a' wr ⟨u6, u7, u8, u16, u17, u18, u19, u20, u21, u22, u23, u24, u25, u26, u27, u28, u29, u30, u31, u32, u33, u34, u35, u36, Ds, v, ⟨d, f, F, L, k1, k2, ho, hF, Hf, hf64, HL, hdD, hLl, hcB, hB, hM⟩, rfl⟩;have hF63 : F ≤ 9223372036854775807 := by have := HF.out; omega
    have b1 : wr.cell? ⟨B, 0, none⟩ = some (.int .i64 (F : Int)) := k1.cell 0;have b2 : wr.cell? ⟨B + 1, 0, none⟩ = some (.int .i64 (T : Int)) := k2.cell 0;have HZ := Lib.hid b1
    by_cases hd : d = 0
    ·subst hd;have g2 : ¬ (T : Int) < (F : Int) := by omega
     have hLR : L = R := by have := HL.out; rw [left_nil] at this; simpa using this
     rw [hLR] at ho;clear hF;go_wp2_with fail;refine leaves_marks (by simp) (fun W => OwnI (B + 2) W v (intsN R) ∧ Below w.heap.size w W) ?_ ?_ Ds wr hM ⟨ho, hB⟩
     ·rintro W D' hD' hdef ⟨h1, h2⟩;exact ⟨own_keptL h1 (grownBy_putObj' W D' _) (fun r e => by cases e; exact ⟨_, hdef, rfl⟩), h2.trans (belowK_b (w := w) (Nat.le_refl _) W D' _ _ hD' hdef rfl rfl)⟩
     ·rintro W ⟨h1, h2⟩;refine ⟨v, ?_, v, rfl, by rw [HG.out]; exact h1.le (by omega), h2⟩
      simp [results, Tryz.f10, go_sem]
    ·have g2 : (T : Int) < (F : Int) := by omega
     obtain ⟨g, hfg, hlc, hlt⟩ := left_step hd Hf.out;obtain ⟨p1, p2, p3⟩ := bits_pow hd;obtain ⟨b, hb⟩ := exq (bitsN F);have hba := best_all hd (show d ≤ F by omega) hb;have hbE : b = bitsN ((F : Int)).toNat := by rw [Int.toNat_natCast]; exact hb
     have HBF : Hid (∀ i, i < b → 2 ^ i ≤ F) := Lib.hid (fun i hi => bits_le_iff.2 (by rw [← hb]; exact hi));obtain ⟨K, hK⟩ := exq (2 ^ (bitsN d - 1));rw [← hK] at p1 p2 hlc hlt hba;have hK1 : 1 ≤ K := by rw [hK]; exact Nat.two_pow_pos _
     obtain ⟨F2, hF2⟩ := exq (F - K);have e2 : (F : Int) - (K : Int) = (F2 : Int) := by omega
     have HL2 : Hid ((L ++ [F2]) ++ (leftD g (d - K)).map (T + ·) = R) := Lib.hid (by
      rw [← HL.out, hlc, List.map_cons, List.append_assoc, List.singleton_append]
      congr 2
      omega)
     have HLT := Lib.hid hlt;have hll : (intsN L).length ≤ 100 := by rw [intsN_len]; omega
     have hfin : F2 = T + (d - K) ∧ d - K ≤ D ∧ g ≤ 64 ∧ (L ++ [F2]).length ≤ 64 - g := ⟨by omega, by omega, by omega, by rw [List.length_append, List.length_singleton]; omega⟩;have HE := Lib.hid hfin;have hmes : F2 < F := by omega
     have HBA := Lib.hid (And.intro hba hF);have hb63 : b ≤ 63 := by rw [hb]; exact bits_63 (by omega)
     have HbE := Lib.hid hbE;clear hK hlc hlt p1 p2 p3 hF2 hfin hfg hF hba hb hbE;go_upto_region 6 with fail;refine name1p ?_;intro W1 k6 hb1;have hvlt0 := own_lt ho;have hMlt0 := hM.lt;obtain ⟨p6, hp6⟩ : ∃ g, g = wr.heap.size := ⟨_, rfl⟩;have hp62 : B + 2 ≤ p6 := by have := k2.lt; omega
     rw [← hp6] at k6 ⊢;have hp6B : w.heap.size ≤ p6 := by omega
     replace k1 := k1.below hb1 k1.lt;replace k2 := k2.below hb1 k2.lt;replace ho := ho.below hb1;replace hM := hM.below hb1;replace hB := below_then hB hb1;have hcB1 := Nat.le_trans hcB hb1.size;have hvlt : ∀ j, v.ownBlock = some j → j < p6 := fun j e => by rw [hp6]; exact hvlt0 j e
     have hMlt : ∀ E ∈ Ds, E < p6 := fun E hE => by rw [hp6]; exact hMlt0 E hE
     clear hp6 hb1 b2;replace b1 : W1.cell? ⟨B, 0, none⟩ = some (.int .i64 (F : Int)) := k1.cell 0;go_wp2_with fail;refine (steps_any (F : Int) _).mono ?_;rintro e w4 ⟨rfl, rfl⟩;go_wp2_with fail;obtain ⟨p, hp⟩ := exq W1.heap.size;have kp := Blk.new W1 3 #[.int .i64 (F : Int)];have hbb : Below W1.heap.size W1 (W1.alloc (.cells #[.int .i64 (F : Int)] 3)) := below_al (Below.refl _ _) _;have hp6p : p6 < p := by have := k6.lt; omega
     replace k1 := k1.below hbb k1.lt;replace k2 := k2.below hbb k2.lt;replace k6 := k6.below hbb k6.lt;replace ho := ho.below hbb;replace hM := hM.below hbb;replace hB := below_then hB hbb;generalize W1.alloc (.cells #[.int .i64 (F : Int)] 3) = W4 at k1 k2 k6 kp ho hM hB ⊢;rw [← hp] at kp ⊢;clear hbb hp b1;have hpl := kp.lt;refine (wpIn_wide (n := 4)).1 ?_;refine rf_two (enc1 := fun x : Fin b => .int .i64 ((x.1 : Nat) : Int)) (enc2 := fun x : Fin b => .int .i64 ((2 ^ x.1 : Nat) : Int)) rfl (by omega) (gf := 89) (lb := #[.pointer (some ⟨p, 0, none⟩)]) rfl trivial (enters_of Tryz.func89 (by kernel_rfl) rfl)
      (steps_stops _ p (F : Int) ⟨by omega, by omega⟩ b HbE.out W4 kp) sameOne_t (sameOne_b hpl) (Below.refl _ _)
      (fun pre W => Blk W p6 3 #[.int .i64 ((pre.foldl (fun a x => bestN d a x.1) 0 : Nat) : Int)] ∧ Blk W B 3 #[.int .i64 (F : Int)] ∧ Blk W (B + 1) 3 #[.int .i64 (T : Int)] ∧ Blk W p 3 #[.int .i64 (F : Int)] ∧ OwnI (B + 2) W v (intsN L) ∧ Marks w.heap.size Ds W ∧ Below w.heap.size w W)
      ?own ?start (fun x => { tmps := #[.int .i64 (F0 : Int), .int .i64 (T : Int), .pointer (some ⟨B, 0, none⟩), .pointer (some ⟨B + 1, 0, none⟩), .slice none 0 0, v, .pointer (some ⟨p6, 0, none⟩), u7, .int .i64 ((2 ^ x.1 : Nat) : Int), .int .i64 (T : Int), .bool false, .bool false, .int .i64 (T : Int), .int .i64 (F0 : Int), .bool false, .bool false, .int .i64 (F : Int), .int .i64 (T : Int), .bool true, .int .i64 (F : Int), .func (.func 89) #[] #[.pointer (some ⟨p, 0, none⟩)], .int .i64 ((x.1 : Nat) : Int), .int .i64 ((2 ^ x.1 : Nat) : Int), u23, u24, u25, u26, u27, u28, u29, u30, u31, u32, u33, u34, u35, u36], defers := [] }) ?assign ?body ?done
     case own =>
      rintro pre A' B' row ⟨j6, j1, j2, jp, ho, hM, hb⟩ hg hr;have hr' := fun r e => (hr r e).2;exact ⟨blk_kept j6 hg hr', blk_kept j1 hg hr', blk_kept j2 hg hr', blk_kept jp hg hr', own_keptL ho hg hr', hM.keptFrom (n₀ := W4.heap.size) hg (fun E hE => by have := hMlt E hE; omega) (fun r e => (hr r e).1), ownFrom_below (β := List (Fin b)) (Nat.le_refl _) (by omega) [] A' B' row hb hg hr⟩
     case start =>
      exact ⟨k6, k1, k2, kp, ho, hM, hB⟩
     case assign =>
      intro l x W K hK
      gi_wp2
      exact hK
     case body =>
      rintro l pre ⟨x, hx⟩ W ⟨j6, j1, j2, jp, ho, hM, hb⟩ hlen;dsimp only;have hKF := HBF.out x hx;obtain ⟨K2, hK2⟩ : ∃ K : Nat, K = 2 ^ x := ⟨_, rfl⟩
      have HBN : Hid ((pre ++ [(⟨x, hx⟩ : Fin b)]).foldl (fun a x => bestN d a x.1) 0 = if K2 ≤ d then K2 else pre.foldl (fun a x => bestN d a x.1) 0) := Lib.hid (by
       rw [List.foldl_append, hK2]; rfl)
      rw [← hK2] at hKF ⊢;obtain ⟨y, hy, hyn⟩ : ∃ y : Nat, (F : Int) - (K2 : Int) = (y : Int) ∧ y = F - K2 := ⟨F - K2, by omega, rfl⟩;have hFd := HBA.out.2;have c1 : W.cell? ⟨B, 0, none⟩ = some (.int .i64 (F : Int)) := j1.cell 0;have c2 : W.cell? ⟨B + 1, 0, none⟩ = some (.int .i64 (T : Int)) := j2.cell 0;have c6 : W.cell? ⟨p6, 0, none⟩ = some (.int .i64 ((pre.foldl (fun a x => bestN d a x.1) 0 : Nat) : Int)) := j6.cell 0;have f6 := j6.frozen 0
      by_cases hc : K2 ≤ d
      ·have g3 : (T : Int) ≤ (y : Int) := by omega
       have HB2 : Hid (K2 = (pre ++ [(⟨x, hx⟩ : Fin b)]).foldl (fun a x => bestN d a x.1) 0) := Lib.hid (by rw [HBN.out, if_pos hc]);clear hK2 hyn hc hFd HBN
       gi_wp2_with fail
       have ks := j6.set_ 0 (.int .i64 (K2 : Int));exact ⟨KeepsOthers.setCell W ⟨p6, 0, none⟩ _, Eq.trans (kept_set jp (show p ≠ p6 by omega) 0 _) (Eq.symm jp), (by rw [← HB2.out]; exact ks), kept_set j1 (show B ≠ p6 by omega) 0 _, kept_set j2 (show B + 1 ≠ p6 by omega) 0 _, kept_set jp (show p ≠ p6 by omega) 0 _, OwnL.kept ho (grown_set (grown_refl W (some p6)) 0 _) (.inr (fun e => by have := hvlt p6 e; omega)), hM.set j6 0 _, below_set hb (p := ⟨p6, 0, none⟩) (by show w.heap.size ≤ p6; omega) _⟩
      ·have g3 : ¬ (T : Int) ≤ (y : Int) := by omega
       have HB2 : Hid (pre.foldl (fun a x => bestN d a x.1) 0 = (pre ++ [(⟨x, hx⟩ : Fin b)]).foldl (fun a x => bestN d a x.1) 0) := Lib.hid (by rw [HBN.out, if_neg hc]);clear hK2 hyn hc hFd HBN
       gi_wp2_with fail
       exact ⟨KeepsOthers.refl W, rfl, (by rw [← HB2.out]; exact j6), j1, j2, jp, ho, hM, hb⟩
     case done =>
      rintro E xs W hE rfl ⟨j6, j1, j2, jp, ho, hM, hb⟩ hdef;rw [HBA.out.1] at j6;have c1 : W.cell? ⟨B, 0, none⟩ = some (.int .i64 (F : Int)) := j1.cell 0;have c6 : W.cell? ⟨p6, 0, none⟩ = some (.int .i64 (K : Int)) := j6.cell 0;have f1 := j1.frozen 0;have hM2 : Marks w.heap.size (E :: Ds) W := hM.cons (by omega) hdef (fun E' hE' => by have := hMlt E' hE'; omega);have hos : OwnI (B + 2) (W.setCell ⟨B, 0, none⟩ (.int .i64 (F2 : Int))) v (intsN L) := OwnL.kept ho (grown_set (grown_refl W (some B)) 0 _) (.inr (fun e => by have := own_high ho B e; omega));have k1s := j1.set_ 0 (.int .i64 (F2 : Int));have k2s := kept_set j2 (show B + 1 ≠ B by omega) 0 (.int .i64 (F2 : Int));have hMs := hM2.set j1 0 (.int .i64 (F2 : Int));have hbs := below_set hb (p := ⟨B, 0, none⟩) (by show w.heap.size ≤ B; omega) (.int .i64 (F2 : Int));have hsz : B + 2 ≤ (W.setCell ⟨B, 0, none⟩ (.int .i64 (F2 : Int))).heap.size := by have := k2s.lt; omega
      go_upto_region 11 with fail;generalize W.setCell ⟨B, 0, none⟩ (.int .i64 (F2 : Int)) = Ws at k1s k2s hos hMs hbs hsz ⊢;have cB : Ws.cell? ⟨B, 0, none⟩ = some (.int .i64 (F2 : Int)) := k1s.cell 0;clear c1 c6 f1;go_wp2_with (refine wp_append_row (enc := encI) Tryz.underlying25 int_info rfl (by decide) (by decide) rfl _ _ rfl (F2 : Int) rfl rfl (encI_one _) rfl hos rfl (by omega) hsz ?_; intro v6 w6 ho6 hg6);have hl6 := own_low hos (show B < B + 2 by omega);have hl7 := own_low hos (show B + 1 < B + 2 by omega);have hC := own_cells hos;refine ⟨⟨_, _, _, _, _, _, _, _, _, _, _, _, _, _, _, _, _, _, _, _, _, _, _, _, E :: Ds, v6, ⟨d - K, g, F2, L ++ [F2], k1s.grown hg6 hl6, k2s.grown hg6 hl7, by rw [intsN_snoc]; exact ho6, HE.out.1, HLT, HE.out.2.2.1, HL2, HE.out.2.1, HE.out.2.2.2, by have := hg6.size; omega, hbs.grown hg6 hbs.size (fun j e => by have := own_high hos j e; omega), hMs.grown hg6 hC⟩, rfl⟩, ?_⟩;have z1 : wr.cell? ⟨B, 0, none⟩ = some (.int .i64 (F : Int)) := HZ.out;have z2 : w6.cell? ⟨B, 0, none⟩ = some (.int .i64 (F2 : Int)) := (k1s.grown hg6 hl6).cell 0;rw [z1, z2]
      simp [intOf]
      omega
end Go.Proofs.YtkpinmejfdnhbaaGreatDoor
