/- Joined by a program: LkI, LkJ, LkL. -/
import Derived.Test.YtkpinmejfdnhbaaGreatDoorLwM
namespace Go.Proofs.YtkpinmejfdnhbaaGreatDoor
open Go.RowKit Go.Shelf
attribute [local go_sem] Oper.semAt_some

theorem weight_bound (ms : List Mem) (vs : List Vt) (t : ByteArray) : 0 ≤ weightI ms vs t ∧ weightI ms vs t ≤ 20 * (ms.length : Int) := by
 have : ∀ n, 0 ≤ sumI (addsI ms vs t) n ∧ sumI (addsI ms vs t) n ≤ 20 * (n : Int) := fun n => by
  induction n with
  | zero => exact ⟨Int.le_refl _, Int.le_refl _⟩
  | succ n ih =>
    have h : 0 ≤ addsI ms vs t n ∧ addsI ms vs t n ≤ 20 := by
     unfold addsI
     cases ms[n]? with
     | none => exact ⟨Int.le_refl _, by show (0 : Int) ≤ 20; omega⟩
     | some m =>
       dsimp only
       split
       ·rename_i h
        simp only [Bool.and_eq_true] at h
        have := goodW_iff.1 h.1.2
        omega
       ·omega
    show 0 ≤ sumI _ n + addsI ms vs t n ∧ sumI _ n + addsI ms vs t n ≤ _
    omega
 exact this _

set_option maxRecDepth 100000 in
set_option maxHeartbeats 2000000 in
theorem many_q (x : Hc) (h : Hdr) (hs : HdrSm h) (hr : rightMems h.mems = true) (A : Option Addr) (n c : Nat) (vs : List Vt) (t : ByteArray) (hn : n ≤ 100000) (hIv : I64V vs) (ht : t.size ≤ 800000) (w : World) (hT : Tabs w) (hi : HdrIn w x h) (hv : RowVt w A n c vs) :
 Calls Tryz.prog 53 #[.agg (hdrA x), .slice A n c, .string t] w fun e w' => e = .returned (.bool (decide (2 * totW h.mems < 3 * weightI h.mems vs t))) ∧ Below w.heap.size w w' := by
 obtain ⟨xe, xm, xc, xp, xl⟩ := x
 obtain ⟨-, ⟨A2, c2, e2, h2⟩, -, -, -⟩ := hi
 have hm1 := hs.m1
 have hm2 := hs.m2
 obtain ⟨E, ms, cs, ps, ls⟩ := h
 dsimp only at *
 subst e2
 clear hs
 have hwt := (rightM_iff.1 hr).wt
 have hwb := weight_bound ms vs t
 obtain ⟨nm, hnm⟩ : ∃ n, n = ms.length := ⟨_, rfl⟩
 rw [← hnm] at h2 hm1 hwb ⊢
 have HNM := Lib.hid hnm
 have HR := Lib.hid (And.intro h2 hv)
 have HT := Lib.hid hT
 have m1 := Lib.hid (fun W h1 h2 h3 => Weight_q A2 A nm c2 n c ms vs t (by omega) hn hm2 hIv ht W h1 h2 h3)
 have HW := Lib.hid hwt
 generalize weightI ms vs t = wv at *
 clear hnm h2 hv hT hm2 hIv hwt hr
 unfold hdrA
 go_enter Tryz.func53, Tryz.ntmps53
 go_upto_region 1 with fail
 refine name1p ?_
 intro W0 k1 hB
 obtain ⟨g, hg⟩ : ∃ g, g = w.heap.size := ⟨_, rfl⟩
 rw [← hg] at k1 ⊢
 clear hg
 have a1 : W0.cell? ⟨g, 1, none⟩ = some (.slice A2 nm c2) := k1.cell 1
 go_wp2_with fail
 clear a1
 go_loopw [7, 9, 13] (fun s7 _ s13 wr => ∃ i : Nat, i ≤ nm ∧ s13 = .int .i64 (i : Int) ∧ s7 = .int .i64 (totW (ms.take i)) ∧ Hid (0 ≤ totW (ms.take i) ∧ totW (ms.take i) ≤ 20 * (i : Int)) ∧ Blk wr g 46 #[.int .i64 xe, .slice A2 nm c2, xc, xp, xl] ∧ Below w.heap.size w wr) (fun _ _ s13 _ => nm - (intOf s13).toNat)
 case atStart => exact ⟨0, by omega, rfl, rfl, Lib.hid ⟨Int.le_refl _, Int.le_refl _⟩, k1, hB⟩
 case round =>
  clear k1 hB
  obtain ⟨i, hi, rfl, rfl, HB, k1, hB⟩ := hrel
  have hTb := HB.out
  obtain ⟨x, hx⟩ : ∃ x, x = totW (ms.take i) := ⟨_, rfl⟩
  rw [← hx] at hTb ⊢
  have HX := Lib.hid hx
  clear hx HB
  by_cases hlt : i < nm
  ·have hlt' : (i : Int) < (nm : Int) := by omega
   obtain ⟨bb, o, m, rfl, hm, d0, d1, d2⟩ := RowM.get (HR.out.1.below hB) hlt
   have hmw := HW.out m (List.mem_of_getElem? hm)
   have HT2 : Hid (totW (ms.take (i + 1)) = x + m.wt) := Lib.hid (by rw [totW_take hm, HX.out])
   clear hm
   go_upto_region 5 with fail
   refine name1p ?_
   intro W1 k9 hb9
   generalize wr.heap.size = p9 at k9 ⊢
   replace k1 := k1.below hb9 k1.lt
   replace hB := below_then hB hb9
   clear hb9 d0 d1 d2
   have e1 : W1.cell? ⟨p9, 1, none⟩ = some (.int .i64 m.wt) := k9.cell 1
   have hw3 : IntKind.i64.wrap (x + m.wt) = x + m.wt := IntWalk.i64_in _ (by omega)
   go_wp2_with fail
   go_roundw
   case rel => exact ⟨i + 1, by omega, by go_num, by rw [HT2.out], Lib.hid (by rw [HT2.out]; omega), k1, hB⟩
   case measure => simp [intOf]; omega
  ·obtain rfl : nm = i := by omega
   have hx2 : x = totW ms := by rw [HX.out, List.take_of_length_le (by have := HNM.out; omega)]
   have HX2 := Lib.hid hx2
   clear hx2 HX
   have a1 : wr.cell? ⟨g, 1, none⟩ = some (.slice A2 nm c2) := k1.cell 1
   have hw3 : IntKind.i64.wrap (3 * wv) = 3 * wv := IntWalk.i64_in _ (by omega)
   have hw4 : IntKind.i64.wrap (2 * x) = 2 * x := IntWalk.i64_in _ (by omega)
   go_wp2_with (go_at_call 115; (refine (m1.out _ (HT.out.below hB) (HR.out.1.below hB) (HR.out.2.below hB)).mono ?_); rintro e w2 ⟨rfl, hb⟩; replace hB := below_then hB hb; clear hb)
   go_ret
   exact ⟨by rw [← HX2.out]; rfl, hB⟩

theorem none_nil : RetS 52 #[.pointer none] (.bool true) := by
 intro w
 go_enter Tryz.func52, Tryz.ntmps52
 go_wp2_with fail
 go_ret
 exact ⟨rfl, rfl⟩
theorem none_of (p : Nat) (b : Bool) (w : World) (hc : w.cell? ⟨p, 0, none⟩ = some (.bool b)) : Calls Tryz.prog 52 #[.pointer (some ⟨p, 0, none⟩)] w fun e w' => e = .returned (.bool (!b)) ∧ w' = w := by
 go_enter Tryz.func52, Tryz.ntmps52
 go_wp2_with fail
 go_ret
 exact ⟨rfl, rfl⟩

end Go.Proofs.YtkpinmejfdnhbaaGreatDoor
namespace Go.Proofs.YtkpinmejfdnhbaaGreatDoor
open Go.RowKit Go.Shelf
attribute [local go_sem] Oper.semAt_some

def cliA (x y : Hc) : Array Value := #[.bool true, .int .i64 x.e, x.m, x.c, x.p, x.l, .int .i64 y.e, y.m, y.c, y.p, y.l]
def Cli (B p : Nat) (w : World) (top pres : Hdr) : Prop := B ≤ p ∧ ∃ x y : Hc, Blk w p 90 (cliA x y) ∧ HdrOwn B w x top ∧ HdrOwn B w y pres
theorem Cli.below {B p : Nat} {w w' : World} {top pres : Hdr} (h : Cli B p w top pres) (hb : Below w.heap.size w w') : Cli B p w' top pres :=
 let ⟨h1, x, y, k, h2, h3⟩ := h
 ⟨h1, x, y, k.below hb k.lt, h2.below hb, h3.below hb⟩
theorem HdrOwn.opened {B : Nat} {w : World} {x : Hc} {h : Hdr} (hi : HdrOwn B w x h) : ∃ (e : Int) (A1 A2 A3 A4 : Option Addr) (n1 c1 n2 c2 n3 c3 n4 c4 : Nat), x = ⟨e, .slice A1 n1 c1, .slice A2 n2 c2, .slice A3 n3 c3, .slice A4 n4 c4⟩ := by
 obtain ⟨xe, xm, xc, xp, xl⟩ := x
 obtain ⟨-, h2, h3, ⟨vs, h4, -⟩, h6⟩ := hi
 obtain ⟨A1, c1, e1, -⟩ := OwnL.row h2 encM_len
 obtain ⟨A2, c2, e2, -⟩ := OwnL.row h3 encI_len
 obtain ⟨A3, c3, e3, -⟩ := OwnL.row h4 encV_len
 obtain ⟨A4, c4, e4, -⟩ := OwnL.row h6 encH_len
 dsimp only at e1 e2 e3 e4
 exact ⟨xe, A1, A2, A3, A4, _, _, _, _, _, _, _, _, by rw [e1, e2, e3, e4]⟩
def NewPost (h : Hdr) (w : World) (e : Ending) (w' : World) : Prop := (rightH h = true → ∃ p, e = .returned (.pointer (some ⟨p, 0, none⟩)) ∧ Cli w.heap.size p w' h h) ∧ (rightH h = false → e = .returned (.pointer none)) ∧ Below w.heap.size w w'

set_option maxRecDepth 100000 in
set_option maxHeartbeats 2000000 in
theorem New_q (x : Hc) (h : Hdr) (hs : HdrSm h) (w : World) (hi : HdrIn w x h) :
 Calls Tryz.prog 16 #[.agg (hdrA x)] w (NewPost h w) := by
 have m1 := Lib.hid (fun W h1 => right_q x h hs W h1)
 have m2 := Lib.hid (fun W h1 => copy_q x h hs W h1)
 have HI := Lib.hid hi
 obtain ⟨R, hR⟩ : ∃ R, R = rightH h := ⟨_, rfl⟩
 rw [← hR] at m1
 have HR := Lib.hid hR
 clear hi hR
 obtain ⟨xe, xm, xc, xp, xl⟩ := x
 unfold hdrA at *
 dsimp only at *
 go_enter Tryz.func16, Tryz.ntmps16
 go_upto_region 1 with fail
 refine name1p ?_
 intro W0 k1 hB
 obtain ⟨g, hg⟩ : ∃ g, g = w.heap.size := ⟨_, rfl⟩
 rw [← hg] at k1 ⊢
 clear hg
 have a0 : W0.cell? ⟨g, 0, none⟩ = some (.int .i64 xe) := k1.cell 0
 have a1 : W0.cell? ⟨g, 1, none⟩ = some xm := k1.cell 1
 have a2 : W0.cell? ⟨g, 2, none⟩ = some xc := k1.cell 2
 have a3 : W0.cell? ⟨g, 3, none⟩ = some xp := k1.cell 3
 have a4 : W0.cell? ⟨g, 4, none⟩ = some xl := k1.cell 4
 cases R with
 | false =>
   go_wp2_with (go_at_call 50; (with_reducible refine (m1.out _ (HI.out.below hB)).mono ?_); rintro e w1 ⟨rfl, hb⟩; replace hB := below_then hB hb; clear hb)
   go_ret
   exact ⟨fun h => by (rw [← HR.out] at h; cases h), fun _ => rfl, hB⟩
 | true =>
   go_upto_region 3 with (go_at_call 50; (with_reducible refine (m1.out _ (HI.out.below hB)).mono ?_); rintro e w1 ⟨rfl, hb⟩; replace k1 := k1.below hb k1.lt; replace hB := below_then hB hb; clear hb)
   clear a0 a1 a2 a3 a4
   have hS : w1.cell? ⟨g, 0, none⟩ = some (.int .i64 xe) ∧ w1.cell? ⟨g, 1, none⟩ = some xm ∧ w1.cell? ⟨g, 2, none⟩ = some xc ∧ w1.cell? ⟨g, 3, none⟩ = some xp ∧ w1.cell? ⟨g, 4, none⟩ = some xl := ⟨k1.cell 0, k1.cell 1, k1.cell 2, k1.cell 3, k1.cell 4⟩
   refine region_here (fun Z => Z.cell? ⟨g, 0, none⟩ = some (.int .i64 xe) ∧ Z.cell? ⟨g, 1, none⟩ = some xm ∧ Z.cell? ⟨g, 2, none⟩ = some xc ∧ Z.cell? ⟨g, 3, none⟩ = some xp ∧ Z.cell? ⟨g, 4, none⟩ = some xl) 6 (by kernel_rfl) hS (fun hHeld => ?_)
   clear hS
   replace k1 : Blk w1.drew g 46 #[.int .i64 xe, xm, xc, xp, xl] := k1
   replace hB := hB.drew
   generalize w1.drew = W1 at *
   refine tkT 0 rfl ?_
   refine tkT 2 rfl ?_
   refine tkO 1 rfl fun K hK => ?_
   go_simp
   go_at_call 51
   refine (m2.out _ (HI.out.below hB)).mono ?_
   rintro e v1 ⟨y1, rfl, ho1, hb1⟩
   (try go_wp2_with fail)
   replace ho1 := ho1.le hB.size
   obtain ⟨e1, A11, A12, A13, A14, n11, c11, n12, c12, n13, c13, n14, c14, rfl⟩ := ho1.opened
   unfold hdrA
   dsimp only
   replace k1 := k1.below hb1 k1.lt
   replace hB := below_then hB hb1
   refine hK.out _ _ ?_ (fun hHeld1 => ?_)
   ·exact ⟨k1.cell 0, k1.cell 1, k1.cell 2, k1.cell 3, k1.cell 4⟩
   clear hK K
   try simp only [Act.put, pq1, pq2, pq3]
   refine tkO 3 rfl fun K hK => ?_
   go_simp
   go_at_call 51
   refine (m2.out _ (HI.out.below hB)).mono ?_
   rintro e v2 ⟨y2, rfl, ho2, hb2⟩
   (try go_wp2_with fail)
   replace ho2 := ho2.le hB.size
   obtain ⟨e2, A21, A22, A23, A24, n21, c21, n22, c22, n23, c23, n24, c24, rfl⟩ := ho2.opened
   unfold hdrA
   dsimp only
   replace ho1 := ho1.below hb2
   replace k1 := k1.below hb2 k1.lt
   replace hB := below_then hB hb2
   refine hK.out _ _ ?_ (fun hHeld3 => ?_)
   ·exact ⟨k1.cell 0, k1.cell 1, k1.cell 2, k1.cell 3, k1.cell 4⟩
   clear hK K
   try simp only [Act.put, pq1, pq2, pq3]
   refine tkT 4 rfl ?_
   refine tkO 5 rfl fun K hK => ?_
   go_simp
   refine alloc_name ?_
   intro W5 k5 hb5
   replace ho1 := ho1.below hb5
   replace ho2 := ho2.below hb5
   replace k1 := k1.below hb5 k1.lt
   have hp5 := hB.size
   replace hB := below_then hB hb5
   refine hK.out _ _ ?_ (fun hHeld5 => ?_)
   ·exact ⟨k1.cell 0, k1.cell 1, k1.cell 2, k1.cell 3, k1.cell 4⟩
   clear hK K
   try simp only [Act.put, pq1, pq2, pq3]
   refine tkK 6 rfl fun K hK => ?_
   go_simp
   refine hK.out _ _ ?_
   clear hK K
   try simp only [Act.put, pq1, pq2, pq3]
   refine wpAny_done (by kernel_rfl) ?_ _
   go_wp2_with fail
   go_ret
   exact ⟨fun _ => ⟨v2.heap.size, rfl, hp5, ⟨e1, _, _, _, _⟩, ⟨e2, _, _, _, _⟩, k5, ho1, ho2⟩, fun h => by (rw [← HR.out] at h; cases h), hB⟩

end Go.Proofs.YtkpinmejfdnhbaaGreatDoor
namespace Go.Proofs.YtkpinmejfdnhbaaGreatDoor
open Go.RowKit Go.Shelf
attribute [local go_sem] Oper.semAt_some

theorem name3p {P : Program} {code : Code} {Q : Exit → Act → World → Prop} {act : Act} {W : World} {t1 t2 t3 : TypeId} {c1 c2 c3 : Array Value}
 (h : ∀ W0 : World, Blk W0 W.heap.size t1 c1 → Blk W0 (W.heap.size + 1) t2 c2 → Blk W0 (W.heap.size + 1 + 1) t3 c3 → Below W.heap.size W W0 → code.wp P Q act W0) : code.wp P Q act (((W.alloc (.cells c1 t1)).alloc (.cells c2 t2)).alloc (.cells c3 t3)) := by
 refine h _ (((Blk.new _ _ _).alloc _).alloc _) ?_ ?_ (below_al (below_al (below_al (Below.refl _ _) _) _) _)
 ·have := (Blk.new (W.alloc (.cells c1 t1)) t2 c2).alloc (.cells c3 t3)
  rwa [World.size_alloc] at this
 ·have := Blk.new ((W.alloc (.cells c1 t1)).alloc (.cells c2 t2)) t3 c3
  rwa [World.size_alloc, World.size_alloc] at this
theorem hdr_parts {h : Hdr} (hr : rightH h = true) : (0 ≤ h.epoch ∧ h.epoch ≤ 1000000000) ∧ h.links.length = bitsN h.epoch.toNat := by
 unfold rightH at hr
 simp only [Bool.and_eq_true, decide_eq_true_eq] at hr
 exact ⟨⟨hr.1.1.1.1.1, hr.1.1.1.1.2⟩, hr.2⟩
theorem HdrOwn.keptL {B : Nat} {w w' : World} {x : Hc} {h : Hdr} {row : Option Nat} (hi : HdrOwn B w x h) (hg : w.grownBy w' row) (hrow : ∀ r, row = some r → ∃ o : Obj, w.heap[r]? = some o ∧ o.isCells = false) : HdrOwn B w' x h := by
 obtain ⟨h1, h2, h3, ⟨vs, h4, h5⟩, h6⟩ := hi
 exact ⟨h1, own_keptL h2 hg hrow, own_keptL h3 hg hrow, ⟨vs, own_keptL h4 hg hrow, h5.len, fun i v l hv hl => own_keptL (h5.one i v l hv hl) hg hrow⟩, own_keptL h6 hg hrow⟩
theorem grown_put {a w : World} {r : Option Nat} (h : a.grownBy w r) {D : Nat} (hD : a.heap.size ≤ D) (o : Obj) : a.grownBy (w.putObj D o) r := by
 have k := grownBy_putObj' w D o
 exact ⟨k.os.trans h.os, k.tape.trans h.tape, k.output.trans h.output, Nat.le_trans h.size k.size, fun i hi hne => (k.block i (Nat.lt_of_lt_of_le hi h.size) (fun e => by have := Option.some.inj e; omega)).trans (h.block i hi hne)⟩
theorem lt_of_heap {w : World} {D : Nat} {o : Obj} (h : w.heap[D]? = some o) : D < w.heap.size := (Array.getElem?_eq_some_iff.1 h).1
theorem grown_setF {a w : World} {r : Option Nat} (h : a.grownBy w r) {k : Nat} (hk : a.heap.size ≤ k) (i : Nat) (u : Value) : a.grownBy (w.setCell ⟨k, i, none⟩ u) r :=
 ⟨h.os, h.tape, h.output, by simpa [World.setCell] using h.size, fun j hj hne => (RowKit.Below.heap_setCell w _ u j (by rintro rfl; exact absurd hj (Nat.not_lt.2 hk))).trans (h.block j hj hne)⟩
def noPanic (Q : Exit → Act → World → Prop) : Exit → Act → World → Prop
 | .panic _, _, _ => False
 | e, a, w => Q e a w
theorem region_calm {P : Program} {ops : Array Oper} {Q : Exit → Act → World → Prop} (S : World → Prop) (k : Nat) {id : Nat} {a : Act} {w : World} (hm : P.follows .mixedOrders = true) (hS : S w.drew)
 (h : S w.drew → wpAnyS P .any ops (noPanic Q) S k ops.size (Array.replicate ops.size false) a w.drew) : (Code.region id ops true).wp P Q a w :=
 Code.wp_mono (fun e a w h => by cases e <;> first | exact h | exact h.elim) (region_here S k hm hS h)
def followR (top h : Hdr) (vs : List Vt) (t : ByteArray) : Int := if h.epoch < top.epoch then 32 else if h.epoch = top.epoch then 0 else if 2 * totW top.mems < 3 * weightI top.mems vs t then 0 else 24
def FollowPost (B p : Nat) (top pres h : Hdr) (vs : List Vt) (t : ByteArray) (w : World) (e : Ending) (w' : World) : Prop :=
 e = .returned (.int .i64 (followR top h vs t)) ∧ (top.epoch < h.epoch ∧ 2 * totW top.mems < 3 * weightI top.mems vs t → Cli B p w' h h) ∧ (¬ (top.epoch < h.epoch ∧ 2 * totW top.mems < 3 * weightI top.mems vs t) → Cli B p w' top pres) ∧ w.grownBy w' (some p)

set_option maxRecDepth 100000 in
set_option maxHeartbeats 8000000 in
theorem Follow_q (B p : Nat) (top pres : Hdr) (x : Hc) (h : Hdr) (hs : HdrSm h) (hst : HdrSm top) (hr : rightH h = true) (hrt : rightMems top.mems = true) (htc : 1 ≤ top.commits.length) (A : Option Addr) (n c : Nat) (vs : List Vt) (hn : n ≤ 100000) (hIv : I64V vs)
 (hkey : h.commits[0]? = top.commits[0]?) (hsame : h.epoch = top.epoch → hdrL h = hdrL top) (hlink : ∀ i, i < bitsN h.epoch.toNat → h.epoch = top.epoch + ((2 ^ i : Nat) : Int) → h.links[i]? = some (shaS (hdrL top)))
 (w : World) (hT : Tabs w) (hi : HdrIn w x h) (hv : RowVt w A n c vs) (hc : Cli B p w top pres) :
 Calls Tryz.prog 17 #[.pointer (some ⟨p, 0, none⟩), .agg (hdrA x), .slice A n c] w (FollowPost B p top pres h vs (strB (hdrL h)) w) := by
 have m1 := Lib.hid (fun W h1 => right_q x h hs W h1)
 have m2 := Lib.hid (fun W h1 => copy_q x h hs W h1)
 have m3 := Lib.hid (fun W hT h1 => HeaderText_q x h hs W hT h1)
 rw [hr] at m1
 have HI := Lib.hid (And.intro hT (And.intro hi hv))
 have HCL := Lib.hid (hdr_parts hr).2
 have hel := (hdr_parts hr).1
 obtain ⟨hBp, yt, yp, kc, hot, hop⟩ := hc
 have HO := Lib.hid (And.intro hot hop)
 have HP := Lib.hid kc
 have hte := hot.e
 have m4 := Lib.hid (fun W hT h1 => HeaderText_q yt top hst W hT h1)
 have m5 := Lib.hid (fun W hT h1 => HeaderHash_q yt top hst W hT h1)
 have m6 := Lib.hid (fun W hT h1 h2 => many_q yt top hst hrt A n c vs (strB (hdrL h)) hn hIv (by rw [strB_size]; have := hdrL_len hs; omega) W hT h1 h2)
 have HK := Lib.hid (And.intro hkey (And.intro hsame hlink))
 have hxe := hi.e
 obtain ⟨et, A1t, A2t, A3t, A4t, n1t, c1t, n2t, c2t, n3t, c3t, n4t, c4t, rfl⟩ := hot.opened
 obtain ⟨ep, A1p, A2p, A3p, A4p, n1p, c1p, n2p, c2p, n3p, c3p, n4p, c4p, rfl⟩ := hop.opened
 obtain ⟨xe, xm, xc, xp, xl⟩ := x
 dsimp only at hxe hte
 obtain ⟨AC, cC, hxc, hrc⟩ := hi.c
 obtain ⟨AL, cL, hxl, hrl⟩ := hi.l
 dsimp only at hxc hxl
 subst hxc hxl
 obtain ⟨M, hM⟩ : ∃ M, M = decide (2 * totW top.mems < 3 * weightI top.mems vs (strB (hdrL h))) := ⟨_, rfl⟩
 rw [← hM] at m6
 have HM := Lib.hid hM
 have HXE := Lib.hid (And.intro hxe hte)
 have hI64 := hs.e
 rw [← hxe] at hel hI64
 have htI := hst.e
 rw [← hte] at htI
 have HRC := Lib.hid hrc
 have HRL := Lib.hid hrl
 obtain ⟨kx, hkx⟩ : ∃ k, top.commits[0]? = some k := ⟨_, List.getElem?_eq_getElem (by omega)⟩
 have hkh : h.commits[0]? = some kx := by rw [hkey, hkx]
 have hnc1 : 1 ≤ h.commits.length := (List.getElem?_eq_some_iff.1 hkh).1
 have hkt : ∃ b o, A2t = some ⟨b, o, none⟩ ∧ 1 ≤ n2t ∧ ∀ W', Below w.heap.size w W' → W'.cell? ⟨b, o, none⟩ = some (.int .i64 kx) := by
  obtain ⟨A', c', e, hr⟩ := hot.in_.c
  injection e with e1 e2 e3
  subst e1 e2 e3
  obtain ⟨b, o, y, e, hy, -⟩ := RowI.get hr (show 0 < top.commits.length by omega)
  subst e
  rw [hkx] at hy
  obtain rfl := Option.some.inj hy
  refine ⟨b, o, rfl, htc, fun W' hb => ?_⟩
  obtain ⟨b', o', y', e', hy', cy⟩ := RowI.get (hr.below hb) (show 0 < top.commits.length by omega)
  cases e'
  rw [hkx] at hy'
  cases hy'
  simpa using cy
 have hkc : ∃ b o, AC = some ⟨b, o, none⟩ ∧ ∀ W', Below w.heap.size w W' → W'.cell? ⟨b, o, none⟩ = some (.int .i64 kx) := by
  obtain ⟨b, o, y, e, hy, -⟩ := RowI.get hrc (show 0 < h.commits.length by omega)
  subst e
  refine ⟨b, o, rfl, fun W' hb => ?_⟩
  obtain ⟨b', o', y', e', hy', cy⟩ := RowI.get (hrc.below hb) (show 0 < h.commits.length by omega)
  cases e'
  rw [hkh] at hy'
  cases hy'
  simpa using cy
 obtain ⟨bt, ot, rfl, hn2t, hkt⟩ := hkt
 obtain ⟨bc, oc, rfl, hkc⟩ := hkc
 have HKT := Lib.hid (And.intro hkt hkc)
 clear hkx hkh hkt hkc
 generalize h.commits.length = nC at *
 generalize h.links.length = nL at *
 clear hi hv hT hot hop hkey hsame hlink hM hr hrt htc hs hst hxe hte hrc hrl hIv
 unfold cliA hdrA at *
 dsimp only at *
 refine (callsIn_wide (n := 4)).1 ?_
 refine callsIn_of_wp_marks Tryz.func17 rfl trivial ?_ rfl
 refine wpIn_wide.2 ?_
 simp only [Tryz.ntmps17, List.size_toArray, List.length_cons, List.length_nil, Nat.reduceAdd, Nat.reduceSub, Array.replicate_succ, Array.replicate_zero, List.push_toArray, List.append_toArray, List.nil_append, List.cons_append]
 go_upto_region 1 with fail
 refine name3p ?_
 intro W0 k3 k4 k6 hB
 obtain ⟨g, hg⟩ : ∃ g, g = w.heap.size := ⟨_, rfl⟩
 have hpg : p < g := by have := kc.lt; omega
 have hgB : w.heap.size ≤ g := Nat.le_of_eq hg.symm
 rw [← hg] at k3 k4 k6 ⊢
 clear hg
 replace kc := kc.below hB kc.lt
 have q1 : W0.cell? ⟨p, 0, none⟩ = some (.bool true) := kc.cell 0
 have n1 := Lib.hid (none_of p true W0 q1)
 have a3 : W0.cell? ⟨g, 0, none⟩ = some (.pointer (some ⟨p, 0, none⟩)) := k3.cell 0
 have b0 : W0.cell? ⟨g + 1, 0, none⟩ = some (.int .i64 xe) := k4.cell 0
 have b1 : W0.cell? ⟨g + 1, 1, none⟩ = some xm := k4.cell 1
 have b2 : W0.cell? ⟨g + 1, 2, none⟩ = some (.slice (some ⟨bc, oc, none⟩) nC cC) := k4.cell 2
 have b3 : W0.cell? ⟨g + 1, 3, none⟩ = some xp := k4.cell 3
 have b4 : W0.cell? ⟨g + 1, 4, none⟩ = some (.slice AL nL cL) := k4.cell 4
 go_upto_region 3 with (first
  | (go_at_call 52; (with_reducible refine n1.out.mono ?_); rintro e w1 ⟨rfl, hww⟩; obtain rfl := hww.symm)
  | (go_at_call 50; (with_reducible refine (m1.out _ (HI.out.2.1.below hB)).mono ?_); rintro e w1 ⟨rfl, hb⟩; replace k3 := k3.below hb k3.lt; replace k4 := k4.below hb k4.lt; replace k6 := k6.below hb k6.lt; replace kc := kc.below hb kc.lt; replace hB := below_then hB hb; clear hb))
 have hgW : Below w.heap.size w w1 := hB
 have c0 : w1.cell? ⟨g + 1, 0, none⟩ = some (.int .i64 xe) := k4.cell 0
 have c3 : w1.cell? ⟨g, 0, none⟩ = some (.pointer (some ⟨p, 0, none⟩)) := k3.cell 0
 have c1 : w1.cell? ⟨p, 1, none⟩ = some (.int .i64 et) := kc.cell 1
 have hkeep : ∀ W', Below w.heap.size w W' → Cli B p W' top pres := fun W' hb => ⟨hBp, ⟨et, _, _, _, _⟩, ⟨ep, _, _, _, _⟩, HP.out.below hb HP.out.lt, HO.out.1.below hb, HO.out.2.below hb⟩
 have HKP := Lib.hid hkeep
 have hgrow : ∀ W', Below w.heap.size w W' → w.grownBy W' (some p) := fun W' hb => grown_of_below hb _
 have HGR := Lib.hid hgrow
 clear hkeep hgrow hgW
 by_cases h1 : xe < et
 ·have HF : Hid (followR top h vs (strB (hdrL h)) = 32) := Lib.hid (by unfold followR; rw [← HXE.out.1, ← HXE.out.2, if_pos h1])
  go_quiet (fail)
  have hB2 := below_drewN hB nq
  have k62 : Blk (w1.drewN nq) (g + 1 + 1) 47 #[.int .i64 0] := k6
  generalize w1.drewN nq = w2 at hB2 k62 ⊢
  have f6 := k62.frozen 0
  clear c0 c1 c3 k6
  have c6 : w2.cell? ⟨g + 1 + 1, 0, none⟩ = some (.int .i64 0) := k62.cell 0
  go_wp2_with fail
  have kf := k62.set_ 0 (.int .i64 32)
  have cf : (w2.setCell ⟨g + 1 + 1, 0, none⟩ (.int .i64 32)).cell? ⟨g + 1 + 1, 0, none⟩ = some (.int .i64 32) := kf.cell 0
  have hbf := below_set hB2 (p := ⟨g + 1 + 1, 0, none⟩) (by show w.heap.size ≤ g + 1 + 1; omega) (.int .i64 32)
  refine ⟨.int .i64 32, by simp [results, Tryz.f17, go_sem, cf], by rw [HF.out], fun hh => ?_, fun _ => HKP.out _ hbf, HGR.out _ hbf⟩
  exfalso; have := HXE.out; omega
 ·go_quiet (fail)
  have hB2 := below_drewN hB nq
  have k32 : Blk (w1.drewN nq) g 40 #[.pointer (some ⟨p, 0, none⟩)] := k3
  have k42 : Blk (w1.drewN nq) (g + 1) 46 #[.int .i64 xe, xm, .slice (some ⟨bc, oc, none⟩) nC cC, xp, .slice AL nL cL] := k4
  have k62 : Blk (w1.drewN nq) (g + 1 + 1) 47 #[.int .i64 0] := k6
  generalize w1.drewN nq = w2 at hB2 k32 k42 k62 ⊢
  clear c0 c1 c3 k6 k3 k4 kc hB
  have d0 : w2.cell? ⟨g + 1, 0, none⟩ = some (.int .i64 xe) := k42.cell 0
  have d1 : w2.cell? ⟨g + 1, 1, none⟩ = some xm := k42.cell 1
  have d2 : w2.cell? ⟨g + 1, 2, none⟩ = some (.slice (some ⟨bc, oc, none⟩) nC cC) := k42.cell 2
  have d3 : w2.cell? ⟨g + 1, 3, none⟩ = some xp := k42.cell 3
  have d4 : w2.cell? ⟨g + 1, 4, none⟩ = some (.slice AL nL cL) := k42.cell 4
  go_upto_region 6 with (go_at_call 19; (with_reducible refine (m3.out _ (HI.out.1.below hB2) (HI.out.2.1.below hB2)).mono ?_); rintro e w3 ⟨rfl, hb⟩; replace k32 := k32.below hb k32.lt; replace k42 := k42.below hb k42.lt; replace k62 := k62.below hb k62.lt; replace hB2 := below_then hB2 hb; clear hb d0 d1 d2 d3 d4)
  have kc := HP.out.below hB2 HP.out.lt
  have c0 : w3.cell? ⟨g + 1, 0, none⟩ = some (.int .i64 xe) := k42.cell 0
  have c3 : w3.cell? ⟨g, 0, none⟩ = some (.pointer (some ⟨p, 0, none⟩)) := k32.cell 0
  have c1 : w3.cell? ⟨p, 1, none⟩ = some (.int .i64 et) := kc.cell 1
  by_cases h2 : xe = et
  ·have HF : Hid (followR top h vs (strB (hdrL h)) = 0) := Lib.hid (by unfold followR; rw [← HXE.out.1, ← HXE.out.2, if_neg (by omega), if_pos h2])
   have HE := Lib.hid (HK.out.2.1 (by rw [← HXE.out.1, ← HXE.out.2]; exact h2))
   rw [← HE.out] at m4
   subst h2
   clear h1
   go_quiet (fail)
   have hB3 := below_drewN hB2 nq
   have k33 : Blk (w3.drewN nq) g 40 #[.pointer (some ⟨p, 0, none⟩)] := k32
   have k63 : Blk (w3.drewN nq) (g + 1 + 1) 47 #[.int .i64 0] := k62
   generalize w3.drewN nq = w4 at hB3 k33 k63 ⊢
   clear c0 c1 c3 k32 k42 k62 kc hB2
   have kc := HP.out.below hB3 HP.out.lt
   have c3 : w4.cell? ⟨g, 0, none⟩ = some (.pointer (some ⟨p, 0, none⟩)) := k33.cell 0
   have d0 : w4.cell? ⟨p, 1, none⟩ = some (.int .i64 xe) := kc.cell 1
   have d1 : w4.cell? ⟨p, 2, none⟩ = some (.slice A1t n1t c1t) := kc.cell 2
   have d2 : w4.cell? ⟨p, 3, none⟩ = some (.slice (some ⟨bt, ot, none⟩) n2t c2t) := kc.cell 3
   have d3 : w4.cell? ⟨p, 4, none⟩ = some (.slice A3t n3t c3t) := kc.cell 4
   have d4 : w4.cell? ⟨p, 5, none⟩ = some (.slice A4t n4t c4t) := kc.cell 5
   go_wp2_with (go_at_call 19; (with_reducible refine (m4.out _ (HI.out.1.below hB3) (HO.out.1.in_.below hB3)).mono ?_); rintro e w5 ⟨rfl, hb⟩; replace k63 := k63.below hb k63.lt; replace hB3 := below_then hB3 hb; clear hb; have f6 := k63.frozen 0; have c6 : w5.cell? ⟨g + 1 + 1, 0, none⟩ = some (.int .i64 0) := k63.cell 0)
   have kf := k63.set_ 0 (.int .i64 0)
   have cf : (w5.setCell ⟨g + 1 + 1, 0, none⟩ (.int .i64 0)).cell? ⟨g + 1 + 1, 0, none⟩ = some (.int .i64 0) := kf.cell 0
   have hbf := below_set hB3 (p := ⟨g + 1 + 1, 0, none⟩) (by show w.heap.size ≤ g + 1 + 1; omega) (.int .i64 0)
   refine ⟨.int .i64 0, by simp [results, Tryz.f17, go_sem, cf], by rw [HF.out], fun hh => ?_, fun _ => HKP.out _ hbf, HGR.out _ hbf⟩
   exfalso; have := HXE.out; omega
  ·go_quiet (fail)
   have hB3 := below_drewN hB2 nq
   have k33 : Blk (w3.drewN nq) g 40 #[.pointer (some ⟨p, 0, none⟩)] := k32
   have k43 : Blk (w3.drewN nq) (g + 1) 46 #[.int .i64 xe, xm, .slice (some ⟨bc, oc, none⟩) nC cC, xp, .slice AL nL cL] := k42
   have k63 : Blk (w3.drewN nq) (g + 1 + 1) 47 #[.int .i64 0] := k62
   generalize w3.drewN nq = w4 at hB3 k33 k43 k63 ⊢
   clear c0 c1 c3 k32 k42 k62 kc hB2
   have kc := HP.out.below hB3 HP.out.lt
   have c2 : w4.cell? ⟨g + 1, 2, none⟩ = some (.slice (some ⟨bc, oc, none⟩) nC cC) := k43.cell 2
   have c3 : w4.cell? ⟨g, 0, none⟩ = some (.pointer (some ⟨p, 0, none⟩)) := k33.cell 0
   have c1 : w4.cell? ⟨p, 3, none⟩ = some (.slice (some ⟨bt, ot, none⟩) n2t c2t) := kc.cell 3
   have e1 := HKT.out.1 w4 hB3
   have e2 := HKT.out.2 w4 hB3
   have g1 : (0 : Int) < (nC : Int) := by omega
   have g2 : (0 : Int) < (n2t : Int) := by omega
   go_upto_region 10 with fail
   go_quiet (fail)
   have hB4 := below_drewN hB3 nq
   have k34 : Blk (w4.drewN nq) g 40 #[.pointer (some ⟨p, 0, none⟩)] := k33
   have k44 : Blk (w4.drewN nq) (g + 1) 46 #[.int .i64 xe, xm, .slice (some ⟨bc, oc, none⟩) nC cC, xp, .slice AL nL cL] := k43
   have k64 : Blk (w4.drewN nq) (g + 1 + 1) 47 #[.int .i64 0] := k63
   generalize w4.drewN nq = w5 at hB4 k34 k44 k64 ⊢
   clear c1 c2 c3 e1 e2 g1 g2 k33 k43 k63 kc hB3
   have kc := HP.out.below hB4 HP.out.lt
   have c3 : w5.cell? ⟨g, 0, none⟩ = some (.pointer (some ⟨p, 0, none⟩)) := k34.cell 0
   have d0 : w5.cell? ⟨p, 1, none⟩ = some (.int .i64 et) := kc.cell 1
   have d1 : w5.cell? ⟨p, 2, none⟩ = some (.slice A1t n1t c1t) := kc.cell 2
   have d2 : w5.cell? ⟨p, 3, none⟩ = some (.slice (some ⟨bt, ot, none⟩) n2t c2t) := kc.cell 3
   have d3 : w5.cell? ⟨p, 4, none⟩ = some (.slice A3t n3t c3t) := kc.cell 4
   have d4 : w5.cell? ⟨p, 5, none⟩ = some (.slice A4t n4t c4t) := kc.cell 5
   cases M with
   | false =>
     have hnot : ¬ 2 * totW top.mems < 3 * weightI top.mems vs (strB (hdrL h)) := fun hh => by have := HM.out; rw [decide_eq_true hh] at this; cases this
     have HN := Lib.hid hnot
     have HF : Hid (followR top h vs (strB (hdrL h)) = 24) := Lib.hid (by unfold followR; rw [← HXE.out.1, ← HXE.out.2, if_neg (by omega), if_neg h2, if_neg hnot])
     clear hnot
     go_wp2_with (go_at_call 53; (with_reducible refine (m6.out _ (HI.out.1.below hB4) (HO.out.1.in_.below hB4) (HI.out.2.2.below hB4)).mono ?_); rintro e w6 ⟨rfl, hb⟩; replace k64 := k64.below hb k64.lt; replace hB4 := below_then hB4 hb; clear hb; have f6 := k64.frozen 0; have c6 : w6.cell? ⟨g + 1 + 1, 0, none⟩ = some (.int .i64 0) := k64.cell 0)
     have kf := k64.set_ 0 (.int .i64 24)
     have cf : (w6.setCell ⟨g + 1 + 1, 0, none⟩ (.int .i64 24)).cell? ⟨g + 1 + 1, 0, none⟩ = some (.int .i64 24) := kf.cell 0
     have hbf := below_set hB4 (p := ⟨g + 1 + 1, 0, none⟩) (by show w.heap.size ≤ g + 1 + 1; omega) (.int .i64 24)
     refine ⟨.int .i64 24, by simp [results, Tryz.f17, go_sem, cf], by rw [HF.out], fun hh => ?_, fun _ => HKP.out _ hbf, HGR.out _ hbf⟩
     exfalso; have := HN.out; have := hh.2; omega
   | true =>
     have hyes : 2 * totW top.mems < 3 * weightI top.mems vs (strB (hdrL h)) := of_decide_eq_true HM.out.symm
     have HY := Lib.hid hyes
     have HF : Hid (followR top h vs (strB (hdrL h)) = 0) := Lib.hid (by unfold followR; rw [← HXE.out.1, ← HXE.out.2, if_neg (by omega), if_neg h2, if_pos hyes])
     clear hyes
     go_upto_region 14 with (go_at_call 53; (with_reducible refine (m6.out _ (HI.out.1.below hB4) (HO.out.1.in_.below hB4) (HI.out.2.2.below hB4)).mono ?_); rintro e w6 ⟨rfl, hb⟩; replace k34 := k34.below hb k34.lt; replace k44 := k44.below hb k44.lt; replace k64 := k64.below hb k64.lt; replace hB4 := below_then hB4 hb; clear hb)
     clear c3 d0 d1 d2 d3 d4 m4 m6 m1 kc
     have c0 : w6.cell? ⟨g + 1, 0, none⟩ = some (.int .i64 xe) := k44.cell 0
     go_wp2_with fail
     refine (steps_any xe _).mono ?_
     rintro e w7 ⟨rfl, rfl⟩
     go_wp2_with fail
     obtain ⟨ps, hps⟩ : ∃ p, p = w6.heap.size := ⟨_, rfl⟩
     have kp := Blk.new w6 3 #[.int .i64 xe]
     have hbb : Below w6.heap.size w6 (w6.alloc (.cells #[.int .i64 xe] 3)) := below_al (Below.refl _ _) _
     have hgps : g + 1 + 1 < ps := by have := k64.lt; omega
     replace k34 := k34.below hbb k34.lt
     replace k44 := k44.below hbb k44.lt
     replace k64 := k64.below hbb k64.lt
     replace hB4 := below_then hB4 hbb
     generalize w6.alloc (.cells #[.int .i64 xe] 3) = w7 at k34 k44 k64 kp hB4 ⊢
     rw [← hps] at kp ⊢
     clear hbb hps c0
     have hpl := kp.lt
     obtain ⟨b, hb⟩ : ∃ b, b = bitsN xe.toNat := ⟨_, rfl⟩
     have hb63 : b ≤ 63 := by rw [hb]; exact bits_63 (by omega)
     have HBE := Lib.hid hb
     clear hb
     refine (wpIn_wide (n := 4)).1 ?_
     refine rf_two (enc1 := fun x : Fin b => .int .i64 ((x.1 : Nat) : Int)) (enc2 := fun x : Fin b => .int .i64 ((2 ^ x.1 : Nat) : Int)) rfl (by omega) (gf := 89) (lb := #[.pointer (some ⟨ps, 0, none⟩)]) rfl trivial (enters_of Tryz.func89 (by kernel_rfl) rfl)
      (steps_stops _ ps xe hI64 b HBE.out w7 kp) sameOne_t (sameOne_b hpl) (Below.refl _ _)
      (fun _ W => Blk W g 40 #[.pointer (some ⟨p, 0, none⟩)] ∧ Blk W (g + 1) 46 #[.int .i64 xe, xm, .slice (some ⟨bc, oc, none⟩) nC cC, xp, .slice AL nL cL] ∧ Blk W (g + 1 + 1) 47 #[.int .i64 0] ∧ Blk W ps 3 #[.int .i64 xe] ∧ Below w.heap.size w W)
      ?own ?start (fun x => { tmps := #[Value.pointer (some { block := p, off := 0 }), Value.agg #[Value.int IntKind.i64 xe, xm, Value.slice (some { block := bc, off := oc }) nC cC, xp, Value.slice AL nL cL], Value.slice A n c, Value.pointer (some { block := g, off := 0 }), Value.pointer (some { block := g + 1, off := 0 }), undef, Value.pointer (some { block := g + 1 + 1, off := 0 }), Value.string (strB (hdrL h)), .int .i64 ((x.1 : Nat) : Int), .int .i64 ((2 ^ x.1 : Nat) : Int), Value.pointer (some { block := p, off := 0 }), Value.bool false, Value.bool false, Value.agg #[Value.int IntKind.i64 xe, xm, Value.slice (some { block := bc, off := oc }) nC cC, xp, Value.slice AL nL cL], Value.bool true, Value.bool false, Value.bool false, Value.pointer (some { block := g + 1, off := 0 }), Value.int IntKind.i64 xe, Value.pointer (some { block := p, off := 0 }), Value.pointer (some { block := p, off := 0 }), Value.pointer (some { block := p, off := 1 }), Value.pointer (some { block := p, off := 1 }), Value.int IntKind.i64 et, Value.bool false, Value.agg #[Value.int IntKind.i64 xe, xm, Value.slice (some { block := bc, off := oc }) nC cC, xp, Value.slice AL nL cL], Value.string (strB (hdrL h)), Value.pointer (some { block := g + 1, off := 0 }), Value.int IntKind.i64 xe, Value.pointer (some { block := p, off := 0 }), Value.pointer (some { block := p, off := 0 }), Value.pointer (some { block := p, off := 1 }), Value.pointer (some { block := p, off := 1 }), Value.int IntKind.i64 et, Value.bool false, undef, undef, undef, undef, undef, undef, undef, Value.pointer (some { block := g + 1, off := 2 }), Value.pointer (some { block := g + 1, off := 2 }), Value.slice (some { block := bc, off := oc }) nC cC, Value.pointer (some { block := bc, off := oc }), Value.int IntKind.i64 kx, Value.pointer (some { block := p, off := 0 }), Value.pointer (some { block := p, off := 0 }), Value.pointer (some { block := p, off := 1 }), Value.pointer (some { block := p, off := 3 }), Value.pointer (some { block := p, off := 3 }), Value.slice (some { block := bt, off := ot }) n2t c2t, Value.pointer (some { block := bt, off := ot }), Value.int IntKind.i64 kx, Value.bool false, Value.pointer (some { block := p, off := 0 }), Value.pointer (some { block := p, off := 0 }), Value.pointer (some { block := p, off := 1 }), Value.agg #[Value.int IntKind.i64 et, Value.slice A1t n1t c1t, Value.slice (some { block := bt, off := ot }) n2t c2t, Value.slice A3t n3t c3t, Value.slice A4t n4t c4t], Value.slice A n c, Value.string (strB (hdrL h)), Value.bool true, Value.bool false, Value.pointer (some { block := g + 1, off := 0 }), Value.int IntKind.i64 xe, Value.func (.func 89) #[] #[Value.pointer (some { block := ps, off := 0 })], .int .i64 ((x.1 : Nat) : Int), .int .i64 ((2 ^ x.1 : Nat) : Int), undef, undef, undef, undef, undef, undef, undef, undef, undef, undef, undef, undef, undef, undef, undef, undef, undef, undef, undef, undef, undef, undef, undef, undef, undef, undef, undef, undef, undef, undef, undef, undef, undef], defers := [] }) ?assign ?body ?done
     case own =>
      rintro pre A' B' row ⟨j3, j4, j6, jp, hb⟩ hg hr
      have hr' := fun r e => (hr r e).2
      exact ⟨blk_kept j3 hg hr', blk_kept j4 hg hr', blk_kept j6 hg hr', blk_kept jp hg hr', ownFrom_below (β := List (Fin b)) (Nat.le_refl _) (by omega) [] A' B' row hb hg hr⟩
     case start =>
      exact ⟨k34, k44, k64, kp, hB4⟩
     case assign =>
      intro l x W K hK
      gi_wp2
      exact hK
     case body =>
      rintro l pre ⟨i, hi⟩ W ⟨j3, j4, j6, jp, hb⟩ hlen
      dsimp only
      have hKE : 2 ^ i ≤ xe.toNat := bits_le_iff.2 (by rw [← HBE.out]; exact hi)
      obtain ⟨K, hK⟩ : ∃ K : Nat, K = 2 ^ i := ⟨_, rfl⟩
      rw [← hK] at hKE ⊢
      have hKx : (K : Int) ≤ 1000000000 := by omega
      have HKK := Lib.hid hK
      have hbd := hb.drew
      have j3d : Blk W.drew g 40 #[.pointer (some ⟨p, 0, none⟩)] := j3
      have j4d : Blk W.drew (g + 1) 46 #[.int .i64 xe, xm, .slice (some ⟨bc, oc, none⟩) nC cC, xp, .slice AL nL cL] := j4
      have j6d : Blk W.drew (g + 1 + 1) 47 #[.int .i64 0] := j6
      have jpd : Blk W.drew ps 3 #[.int .i64 xe] := jp
      obtain ⟨V, hV⟩ : ∃ V, V = W.drew := ⟨_, rfl⟩
      have hWV : Below W.heap.size W V := by rw [hV]; exact (Below.refl _ _).drew
      have kcd := HP.out.below hbd HP.out.lt
      have hte2 : et ≤ xe := by omega
      by_cases hcase : xe = et + (K : Int)
      ·have hw : IntKind.i64.wrap (et + (K : Int)) = xe := by rw [← hcase]; exact IntWalk.i64_in _ (by omega)
       have hlk := HK.out.2.2 i (by rw [← HXE.out.1, ← HBE.out]; exact hi) (by rw [← HXE.out.1, ← HXE.out.2, hcase, hK])
       obtain ⟨sg, hsg⟩ : ∃ s, s = shaS (hdrL top) := ⟨_, rfl⟩
       have hs32 : sg.length = 32 := by rw [hsg]; exact sha_len _
       rw [← hsg] at hlk m5
       have hil : i < nL := by rw [HCL.out, ← HXE.out.1, ← HBE.out]; exact hi
       have hrg : ∃ bl ol, AL = some ⟨bl, ol, none⟩ ∧ W.drew.rangeAt bl (ol + i * 32) (u8l sg) := by
        obtain ⟨bl, ol, y, e, hy, hr⟩ := rowH_range (HRL.out.below hbd) hil
        rw [hlk] at hy
        obtain rfl := Option.some.inj hy
        exact ⟨bl, ol, e, hr hs32⟩
       obtain ⟨bl, ol, rfl, hrg⟩ := hrg
       have hEq : ∀ w : World, (Op.equalIn 10000 38 (.agg (u8a sg)) (.agg (u8a sg))).run Tryz.prog w = .ok true w := fun w => by
        have := run_eq_hash hs32 hs32 9998 w
        rw [decide_eq_true rfl] at this
        exact this
       have hil' : (i : Int) < (nL : Int) := by omega
       have H32 := Lib.hid hs32
       clear hcase hlk hsg hs32 hK hKE hil
       gi_wp2_with fail
       refine region_round (fun Z : World => Z.cell? ⟨g, 0, none⟩ = some (.pointer (some ⟨p, 0, none⟩)) ∧ Z.cell? ⟨g + 1, 0, none⟩ = some (.int .i64 xe) ∧ Z.cell? ⟨g + 1, 4, none⟩ = some (.slice (some ⟨bl, ol, none⟩) nL cL) ∧ Z.cell? ⟨p, 1, none⟩ = some (.int .i64 et) ∧ Z.cell? ⟨p, 2, none⟩ = some (.slice A1t n1t c1t) ∧ Z.cell? ⟨p, 3, none⟩ = some (.slice (some ⟨bt, ot, none⟩) n2t c2t) ∧ Z.cell? ⟨p, 4, none⟩ = some (.slice A3t n3t c3t) ∧ Z.cell? ⟨p, 5, none⟩ = some (.slice A4t n4t c4t) ∧ Z.rangeAt bl (ol + i * 32) (u8l sg)) 22 (by kernel_rfl) (by kernel_rfl) (by rintro ⟨_, _, h⟩; exact h) ⟨j3d.cell 0, j4d.cell 0, j4d.cell 4, kcd.cell 1, kcd.cell 2, kcd.cell 3, kcd.cell 4, kcd.cell 5, hrg⟩ (fun hHeld => ?_)
       rw [← hV] at hHeld j3d j4d j6d jpd hbd kcd ⊢
       clear hV hrg
       refine tkT 0 rfl ?_
       refine tkT 1 rfl ?_
       refine tkT 2 rfl ?_
       refine tkT 3 rfl ?_
       refine tkT 4 rfl ?_
       refine tkT 5 rfl ?_
       refine tkT 6 rfl ?_
       refine tkT 7 rfl ?_
       refine tkT 8 rfl ?_
       refine tkT 9 rfl ?_
       refine tkT 10 rfl ?_
       refine tkT 11 rfl ?_
       refine tkT 12 rfl ?_
       refine tkT 13 rfl ?_
       refine tkT 14 rfl ?_
       refine tkV 15 (.agg (u8a sg)) rfl (yieldsIf_load_mid (by rfl) 38 (.tmp 83) rfl bl (ol + i * 32) rfl (u8l sg) _ (fun Z hZ => hZ.2.2.2.2.2.2.2.2) Tryz.underlying38 rfl (by rw [u8l_len, H32.out]; exact hash_size)) ?_
       refine tkT 16 rfl ?_
       refine tkT 17 rfl ?_
       refine tkT 18 rfl ?_
       refine tkT 19 rfl ?_
       refine tkO 20 rfl fun K hK => ?_
       go_simp
       go_at_call 49
       refine (m5.out _ (HI.out.1.below hbd) (HO.out.1.in_.below hbd)).mono ?_
       rintro e wa ⟨rfl, hba⟩
       (try go_wp2_with fail)
       replace j3d := j3d.below hba j3d.lt
       replace j4d := j4d.below hba j4d.lt
       replace j6d := j6d.below hba j6d.lt
       replace jpd := jpd.below hba jpd.lt
       replace hbd := below_then hbd hba
       replace hWV := below_then hWV hba
       refine hK.out _ _ ?_ (fun hHeld20 => ?_)
       ·exact ⟨cell_b hba hHeld.1, cell_b hba hHeld.2.1, cell_b hba hHeld.2.2.1, cell_b hba hHeld.2.2.2.1, cell_b hba hHeld.2.2.2.2.1, cell_b hba hHeld.2.2.2.2.2.1, cell_b hba hHeld.2.2.2.2.2.2.1, cell_b hba hHeld.2.2.2.2.2.2.2.1, fun j v hv => cell_b hba (hHeld.2.2.2.2.2.2.2.2 j v hv)⟩
       clear hK K
       try simp only [Act.put, pq1, pq2, pq3]
       refine tkT 21 rfl ?_
       refine tkK 22 rfl fun K hK => ?_
       go_simp
       refine hK.out _ _ ?_
       clear hK K
       try simp only [Act.put, pq1, pq2, pq3]
       refine wpAny_done (by kernel_rfl) ?_ _
       gi_wp2_with fail
       exact ⟨keeps_below hWV, Eq.trans jpd (Eq.symm jp), j3d, j4d, j6d, jpd, hbd⟩
      ·obtain ⟨z, hz⟩ : ∃ z, z = et + (K : Int) := ⟨_, rfl⟩
       have hw : IntKind.i64.wrap (et + (K : Int)) = z := by rw [hz]; exact IntWalk.i64_in _ (by have := htI.1; omega)
       have hne : decide (xe = z) = false := decide_eq_false (by rw [hz]; exact hcase)
       have HNE := Lib.hid hne
       clear hcase hz hK hKE hne
       gi_wp2_with fail
       refine region_round (fun Z : World => Z.cell? ⟨g, 0, none⟩ = some (.pointer (some ⟨p, 0, none⟩)) ∧ Z.cell? ⟨g + 1, 0, none⟩ = some (.int .i64 xe) ∧ Z.cell? ⟨p, 1, none⟩ = some (.int .i64 et)) 22 (by kernel_rfl) (by kernel_rfl) (by rintro ⟨_, _, h⟩; exact h) ⟨j3d.cell 0, j4d.cell 0, kcd.cell 1⟩ (fun hHeld => ?_)
       rw [← hV] at hHeld j3d j4d j6d jpd hbd kcd ⊢
       clear hV
       have hne := HNE.out
       refine tkT 0 rfl ?_
       refine tkT 1 rfl ?_
       refine tkT 2 rfl ?_
       refine tkT 3 rfl ?_
       refine tkT 4 rfl ?_
       refine tkT 5 rfl ?_
       refine tkT 6 rfl ?_
       refine tkT 7 rfl ?_
       refine tkT 8 rfl ?_
       refine tkV 9 (.bool false) rfl (Or.inl ⟨by rfl, by intro w hSw; (try dsimp only at hSw); go_simp; first | done | (rw [hne]; done) | exact of_decide_eq_false hne | (have := of_decide_eq_false hne; omega)⟩) ?_
       refine tkT 10 rfl ?_
       refine tkU 11 rfl ?_
       refine tkU 12 rfl ?_
       refine tkU 13 rfl ?_
       refine tkU 14 rfl ?_
       refine tkU 15 rfl ?_
       refine tkU 16 rfl ?_
       refine tkU 17 rfl ?_
       refine tkU 18 rfl ?_
       refine tkU 19 rfl ?_
       refine tkU 20 rfl ?_
       refine tkU 21 rfl ?_
       refine tkK 22 rfl fun K hK => ?_
       go_simp
       refine hK.out _ _ ?_
       clear hK K
       try simp only [Act.put, pq1, pq2, pq3]
       refine wpAny_done (by kernel_rfl) ?_ _
       gi_wp2_with fail
       exact ⟨keeps_below hWV, Eq.trans jpd (Eq.symm jp), j3d, j4d, j6d, jpd, hbd⟩
     case done =>
      rintro D xs W hD rfl ⟨j3, j4, j6, jp, hb⟩ hdef
      have hbd := hb.drew
      have j3d : Blk W.drew g 40 #[.pointer (some ⟨p, 0, none⟩)] := j3
      have j4d : Blk W.drew (g + 1) 46 #[.int .i64 xe, xm, .slice (some ⟨bc, oc, none⟩) nC cC, xp, .slice AL nL cL] := j4
      have j6d : Blk W.drew (g + 1 + 1) 47 #[.int .i64 0] := j6
      have hdd : W.drew.heap[D]? = some (.deferred (some [])) := hdef
      have kcd := HP.out.below hbd HP.out.lt
      have hDw : w.heap.size ≤ D := by omega
      go_upto_region 19 with fail
      refine region_calm (fun Z : World => Z.cell? ⟨g, 0, none⟩ = some (.pointer (some ⟨p, 0, none⟩)) ∧ Z.cell? ⟨g + 1, 0, none⟩ = some (.int .i64 xe) ∧ Z.cell? ⟨g + 1, 1, none⟩ = some xm ∧ Z.cell? ⟨g + 1, 2, none⟩ = some (.slice (some ⟨bc, oc, none⟩) nC cC) ∧ Z.cell? ⟨g + 1, 3, none⟩ = some xp ∧ Z.cell? ⟨g + 1, 4, none⟩ = some (.slice AL nL cL)) 11 (by kernel_rfl) ⟨j3d.cell 0, j4d.cell 0, j4d.cell 1, j4d.cell 2, j4d.cell 3, j4d.cell 4⟩ (fun hHeld => ?_)
      clear j3 j4 j6 jp hb hdef
      generalize W.drew = V at *
      refine tkT 0 rfl ?_
      refine tkT 1 rfl ?_
      refine tkT 2 rfl ?_
      refine tkT 4 rfl ?_
      refine tkO 3 rfl fun K hK => ?_
      go_simp
      go_at_call 51
      refine (m2.out _ (HI.out.2.1.below hbd)).mono ?_
      rintro e v1 ⟨y1, rfl, ho1, hb1⟩
      (try go_wp2_with fail)
      replace ho1 := ho1.le hbd.size
      obtain ⟨e1, A11, A12, A13, A14, n11, c11, n12, c12, n13, c13, n14, c14, rfl⟩ := ho1.opened
      unfold hdrA
      dsimp only
      replace j3d := j3d.below hb1 j3d.lt
      replace j4d := j4d.below hb1 j4d.lt
      replace j6d := j6d.below hb1 j6d.lt
      replace kcd := kcd.below hb1 kcd.lt
      replace hdd := (hb1.block D (lt_of_heap hdd)).trans hdd
      replace hbd := below_then hbd hb1
      refine hK.out _ _ ?_ (fun hHeld3 => ?_)
      ·exact ⟨cell_b hb1 hHeld.1, cell_b hb1 hHeld.2.1, cell_b hb1 hHeld.2.2.1, cell_b hb1 hHeld.2.2.2.1, cell_b hb1 hHeld.2.2.2.2.1, cell_b hb1 hHeld.2.2.2.2.2⟩
      clear hK K
      try simp only [Act.put, pq1, pq2, pq3]
      refine tkO 5 rfl fun K hK => ?_
      go_simp
      go_at_call 51
      refine (m2.out _ (HI.out.2.1.below hbd)).mono ?_
      rintro e v2 ⟨y2, rfl, ho2, hb2⟩
      (try go_wp2_with fail)
      replace ho2 := ho2.le hbd.size
      obtain ⟨e2, A21, A22, A23, A24, n21, c21, n22, c22, n23, c23, n24, c24, rfl⟩ := ho2.opened
      unfold hdrA
      dsimp only
      replace ho1 := ho1.below hb2
      replace j3d := j3d.below hb2 j3d.lt
      replace j4d := j4d.below hb2 j4d.lt
      replace j6d := j6d.below hb2 j6d.lt
      replace kcd := kcd.below hb2 kcd.lt
      replace hdd := (hb2.block D (lt_of_heap hdd)).trans hdd
      replace hbd := below_then hbd hb2
      refine hK.out _ _ ?_ (fun hHeld5 => ?_)
      ·exact ⟨cell_b hb2 hHeld3.1, cell_b hb2 hHeld3.2.1, cell_b hb2 hHeld3.2.2.1, cell_b hb2 hHeld3.2.2.2.1, cell_b hb2 hHeld3.2.2.2.2.1, cell_b hb2 hHeld3.2.2.2.2.2⟩
      clear hK K
      try simp only [Act.put, pq1, pq2, pq3]
      refine tkT 6 rfl ?_
      refine tkT 7 rfl ?_
      refine tkO 8 rfl fun K hK => ?_
      have y1 : _ = some _ := kcd.cell 1
      have z1 := kcd.frozen 1
      have y2 : _ = some _ := kcd.cell 2
      have z2 := kcd.frozen 2
      have y3 : _ = some _ := kcd.cell 3
      have z3 := kcd.frozen 3
      have y4 : _ = some _ := kcd.cell 4
      have z4 := kcd.frozen 4
      have y5 : _ = some _ := kcd.cell 5
      have z5 := kcd.frozen 5
      go_simp
      clear y1 z1 y2 z2 y3 z3 y4 z4 y5 z5
      have hgs : v2.grownBy (((((v2.setCell ⟨p, 1, none⟩ (.int .i64 e1)).setCell ⟨p, 2, none⟩ (.slice A11 n11 c11)).setCell ⟨p, 3, none⟩ (.slice A12 n12 c12)).setCell ⟨p, 4, none⟩ (.slice A13 n13 c13)).setCell ⟨p, 5, none⟩ (.slice A14 n14 c14)) (some p) := (grown_set (grown_set (grown_set (grown_set (grown_set (grown_refl v2 (some p)) 1 (.int .i64 e1)) 2 (.slice A11 n11 c11)) 3 (.slice A12 n12 c12)) 4 (.slice A13 n13 c13)) 5 (.slice A14 n14 c14))
      have ksn : Blk (((((v2.setCell ⟨p, 1, none⟩ (.int .i64 e1)).setCell ⟨p, 2, none⟩ (.slice A11 n11 c11)).setCell ⟨p, 3, none⟩ (.slice A12 n12 c12)).setCell ⟨p, 4, none⟩ (.slice A13 n13 c13)).setCell ⟨p, 5, none⟩ (.slice A14 n14 c14)) p 90 #[(.bool true : Value), (.int .i64 e1), (.slice A11 n11 c11), (.slice A12 n12 c12), (.slice A13 n13 c13), (.slice A14 n14 c14), (.int .i64 ep), (.slice A1p n1p c1p), (.slice A2p n2p c2p), (.slice A3p n3p c3p), (.slice A4p n4p c4p)] := (((((kcd.set_ 1 (.int .i64 e1)).set_ 2 (.slice A11 n11 c11)).set_ 3 (.slice A12 n12 c12)).set_ 4 (.slice A13 n13 c13)).set_ 5 (.slice A14 n14 c14))
      replace ho1 := ho1.far kcd (by decide) (by decide) (by decide) (by decide) hgs
      replace ho2 := ho2.far kcd (by decide) (by decide) (by decide) (by decide) hgs
      replace j3d := j3d.grown hgs (fun e => by have := Option.some.inj e; omega)
      replace j4d := j4d.grown hgs (fun e => by have := Option.some.inj e; omega)
      replace j6d := j6d.grown hgs (fun e => by have := Option.some.inj e; omega)
      replace hdd := (hgs.block D (lt_of_heap hdd) (fun e => by have := Option.some.inj e; omega)).trans hdd
      have hgr := grown_trans (grown_of_below hbd (some p)) hgs
      obtain ⟨v3, hv3⟩ : ∃ Z, Z = (((((v2.setCell ⟨p, 1, none⟩ (.int .i64 e1)).setCell ⟨p, 2, none⟩ (.slice A11 n11 c11)).setCell ⟨p, 3, none⟩ (.slice A12 n12 c12)).setCell ⟨p, 4, none⟩ (.slice A13 n13 c13)).setCell ⟨p, 5, none⟩ (.slice A14 n14 c14)) := ⟨_, rfl⟩
      rw [← hv3] at ksn ho1 ho2 j3d j4d j6d hdd hgr ⊢
      clear hv3 hgs kcd hbd
      have kcd := ksn
      clear ksn
      refine hK.out _ _ ?_ (fun hHeld8 => ?_)
      ·exact ⟨j3d.cell 0, j4d.cell 0, j4d.cell 1, j4d.cell 2, j4d.cell 3, j4d.cell 4⟩
      clear hK K
      try simp only [Act.put]
      refine tkT 9 rfl ?_
      refine tkT 10 rfl ?_
      refine tkK 11 rfl fun K hK => ?_
      have y6 : _ = some _ := kcd.cell 6
      have z6 := kcd.frozen 6
      have y7 : _ = some _ := kcd.cell 7
      have z7 := kcd.frozen 7
      have y8 : _ = some _ := kcd.cell 8
      have z8 := kcd.frozen 8
      have y9 : _ = some _ := kcd.cell 9
      have z9 := kcd.frozen 9
      have y10 : _ = some _ := kcd.cell 10
      have z10 := kcd.frozen 10
      go_simp
      clear y6 z6 y7 z7 y8 z8 y9 z9 y10 z10
      have hgs : v3.grownBy (((((v3.setCell ⟨p, 6, none⟩ (.int .i64 e2)).setCell ⟨p, 7, none⟩ (.slice A21 n21 c21)).setCell ⟨p, 8, none⟩ (.slice A22 n22 c22)).setCell ⟨p, 9, none⟩ (.slice A23 n23 c23)).setCell ⟨p, 10, none⟩ (.slice A24 n24 c24)) (some p) := (grown_set (grown_set (grown_set (grown_set (grown_set (grown_refl v3 (some p)) 6 (.int .i64 e2)) 7 (.slice A21 n21 c21)) 8 (.slice A22 n22 c22)) 9 (.slice A23 n23 c23)) 10 (.slice A24 n24 c24))
      have ksn : Blk (((((v3.setCell ⟨p, 6, none⟩ (.int .i64 e2)).setCell ⟨p, 7, none⟩ (.slice A21 n21 c21)).setCell ⟨p, 8, none⟩ (.slice A22 n22 c22)).setCell ⟨p, 9, none⟩ (.slice A23 n23 c23)).setCell ⟨p, 10, none⟩ (.slice A24 n24 c24)) p 90 #[(.bool true : Value), (.int .i64 e1), (.slice A11 n11 c11), (.slice A12 n12 c12), (.slice A13 n13 c13), (.slice A14 n14 c14), (.int .i64 e2), (.slice A21 n21 c21), (.slice A22 n22 c22), (.slice A23 n23 c23), (.slice A24 n24 c24)] := (((((kcd.set_ 6 (.int .i64 e2)).set_ 7 (.slice A21 n21 c21)).set_ 8 (.slice A22 n22 c22)).set_ 9 (.slice A23 n23 c23)).set_ 10 (.slice A24 n24 c24))
      replace ho1 := ho1.far kcd (by decide) (by decide) (by decide) (by decide) hgs
      replace ho2 := ho2.far kcd (by decide) (by decide) (by decide) (by decide) hgs
      replace j3d := j3d.grown hgs (fun e => by have := Option.some.inj e; omega)
      replace j4d := j4d.grown hgs (fun e => by have := Option.some.inj e; omega)
      replace j6d := j6d.grown hgs (fun e => by have := Option.some.inj e; omega)
      replace hdd := (hgs.block D (lt_of_heap hdd) (fun e => by have := Option.some.inj e; omega)).trans hdd
      replace hgr := grown_trans hgr hgs
      obtain ⟨v4, hv4⟩ : ∃ Z, Z = (((((v3.setCell ⟨p, 6, none⟩ (.int .i64 e2)).setCell ⟨p, 7, none⟩ (.slice A21 n21 c21)).setCell ⟨p, 8, none⟩ (.slice A22 n22 c22)).setCell ⟨p, 9, none⟩ (.slice A23 n23 c23)).setCell ⟨p, 10, none⟩ (.slice A24 n24 c24)) := ⟨_, rfl⟩
      rw [← hv4] at ksn ho1 ho2 j3d j4d j6d hdd hgr ⊢
      clear hv4 hgs kcd
      have kcd := ksn
      clear ksn
      refine hK.out _ _ ?_
      clear hK K
      try simp only [Act.put]
      refine wpAny_done (by kernel_rfl) ?_ _
      dsimp only [noPanic]
      have f6 := j6d.frozen 0
      have c6 : _ = some (Value.int .i64 0) := j6d.cell 0
      go_wp2_with fail
      have kf := j6d.set_ 0 (.int .i64 0)
      have hdd2 : (v4.setCell ⟨g + 1 + 1, 0, none⟩ (.int .i64 0)).heap[D]? = some (.deferred (some [])) := (RowKit.Below.heap_setCell _ _ _ _ (fun e => by first | omega | (have := e; simp at this; omega))).trans hdd
      have hg2 := grown_setF hgr (k := g + 1 + 1) (by omega) 0 (.int .i64 0)
      have kcf := kept_set kcd (show p ≠ g + 1 + 1 by omega) 0 (.int .i64 0)
      have hs6 := grown_set (grown_refl v4 (some (g + 1 + 1))) 0 (.int .i64 0)
      have ho1f := ho1.far j6d (by decide) (by decide) (by decide) (by decide) hs6
      have ho2f := ho2.far j6d (by decide) (by decide) (by decide) (by decide) hs6
      generalize v4.setCell ⟨g + 1 + 1, 0, none⟩ (.int .i64 0) = v5 at *
      refine ⟨by simp, .inl ⟨_, _, rfl, run_takeDeferred hdd2, ?_⟩⟩
      have hrow : ∀ r, some D = some r → ∃ o : Obj, v5.heap[r]? = some o ∧ o.isCells = false := fun r e => by cases e; exact ⟨_, hdd2, rfl⟩
      have hpd := grownBy_putObj' v5 D (.deferred none)
      have kff := blk_kept kf hpd hrow
      have cf : (v5.putObj D (.deferred none)).cell? ⟨g + 1 + 1, 0, none⟩ = some (.int .i64 0) := kff.cell 0
      have hlt : top.epoch < h.epoch := by have := HXE.out; omega
      have hBw : B ≤ w.heap.size := by have := HP.out.lt; omega
      have hC : Cli B p (v5.putObj D (.deferred none)) h h := ⟨hBp, ⟨e1, _, _, _, _⟩, ⟨e2, _, _, _, _⟩, blk_kept kcf hpd hrow, (ho1f.keptL hpd hrow).le hBw, (ho2f.keptL hpd hrow).le hBw⟩
      refine ⟨.int .i64 0, by simp [results, Tryz.f17, go_sem, cf], by rw [HF.out], fun _ => hC, fun hn => absurd ⟨hlt, HY.out⟩ hn, grown_put hg2 hDw _⟩

end Go.Proofs.YtkpinmejfdnhbaaGreatDoor
