/- The reference's SHA-256: its words. -/
import Derived.Test.YtkpinmejfdnhbaaGreatDoorShaOne
import Derived.Deep.RegionHeld3
import Derived.IntWalk
import Derived.Great.BuildSlice
import Derived.Laws.CopyOwn
set_option maxRecDepth 100000
set_option maxHeartbeats 4000000
namespace Go.Proofs.YtkpinmejfdnhbaaGreatDoor
open Go.RowKit
theorem name1 {P : Program} {code : Code} {Q : Exit → Act → World → Prop} {act : Act} {W : World} {t1 : TypeId} {c1 : Array Value} (d1 : Array Value) (h1 : c1 = d1)
 (h : ∀ W0 : World, Blk W0 W.heap.size t1 d1 → Below W.heap.size W W0 → code.wp P Q act W0) : code.wp P Q act (W.alloc (.cells c1 t1)) := by
 subst h1;exact h _ (Blk.new _ _ _) (below_al (Below.refl _ _) _)
theorem Blk.row {w : World} {g : Nat} {t : TypeId} {old : Array Value} (h : Blk w g t old) (cs : Array Value) : Blk (w.setRow g cs) g t cs := setRow_heap w g old cs t (0, 0) h
theorem Blk.rowFar {w : World} {g k : Nat} {t : TypeId} {old : Array Value} (h : Blk w g t old) (hne : g ≠ k) (cs : Array Value) : Blk (w.setRow k cs) g t old := (setRow_other w k g cs hne).trans h
theorem rounds_any (w : World) : Calls Tryz.prog 183 #[] w fun e w' => e = .returned (.agg (u32s kS)) ∧ Below w.heap.size w w' := by
 go_enter Tryz.func183, Tryz.ntmps183;go_upto_region 1 with fail;refine name1 (u32s (List.replicate 64 0)) rfl ?_;intro W0 hk hB
 apply wp_region_lit
 refine wpList_buildFlatArrTo rfl 239 22 64 _ rfl .u32 (kS.map fun n : Nat => (n : Int)) (some 1) rfl (by kernel_rfl) (by kernel_rfl) (by kernel_rfl) (by kernel_rfl) ?_;simp only [Act.put, List.setIfInBounds_toArray, List.set_cons_zero, List.set_cons_succ];refine wpList_store_rowTo rfl 239 _ _ rfl rfl w.heap.size (u32s kS) rfl (by kernel_rfl) _ _ hk (by kernel_rfl) (by kernel_rfl) (by kernel_rfl) ?_
 apply wpList_nil
 go_wp2_with fail;refine bodyPost_ret (results_cell_row (p := 0) (ty := 239) rfl _ _ w.heap.size _ (u32s kS) (0, 0) _ rfl (hk.row _) Tryz.underlying239 rfl (by kernel_rfl)) rfl ?_;exact ⟨rfl, below_setRow hB (Nat.le_refl _) _⟩
theorem word_or {L : List UInt8} {i : Nat} {b0 b1 b2 b3 : Nat} (h0 : b0 = byteS L (4 * i)) (h1 : b1 = byteS L (4 * i + 1)) (h2 : b2 = byteS L (4 * i + 2)) (h3 : b3 = byteS L (4 * i + 3)) :
 bits .or .u32 (bits .or .u32 (bits .or .u32 ((b0 : Int) * 16777216) ((b1 : Int) * 65536)) ((b2 : Int) * 256)) (b3 : Int) = ((wordS L i : Nat) : Int) := by
 have l0 : b0 < 256 := by rw [h0]; exact byteS_lt _ _
 have l1 : b1 < 256 := by rw [h1]; exact byteS_lt _ _
 have l2 : b2 < 256 := by rw [h2]; exact byteS_lt _ _
 have l3 : b3 < 256 := by rw [h3]; exact byteS_lt _ _
 have e1 := u32_or_nat (b0 * 16777216) (b1 * 65536) (by omega) (by omega);rw [show b0 * 16777216 = b0 * 2 ^ 24 by rfl, or_hi b0 (b1 * 65536) 24 (by omega)] at e1;have e2 := u32_or_nat (b0 * 2 ^ 24 + b1 * 65536) (b2 * 256) (by omega) (by omega);rw [show b0 * 2 ^ 24 + b1 * 65536 = (b0 * 256 + b1) * 2 ^ 16 by omega, or_hi _ (b2 * 256) 16 (by omega)] at e2;have e3 := u32_or_nat ((b0 * 256 + b1) * 2 ^ 16 + b2 * 256) b3 (by omega) (by omega);rw [show (b0 * 256 + b1) * 2 ^ 16 + b2 * 256 = ((b0 * 256 + b1) * 256 + b2) * 2 ^ 8 by omega, or_hi _ b3 8 (by omega)] at e3;have q1 : bits .or .u32 ((b0 : Int) * 16777216) ((b1 : Int) * 65536) = (((b0 * 256 + b1) * 2 ^ 16 : Nat) : Int) := by
  rw [show (b0 * 256 + b1) * 2 ^ 16 = b0 * 2 ^ 24 + b1 * 65536 by omega, ← e1]; simp
 rw [q1];have q2 : bits .or .u32 (((b0 * 256 + b1) * 2 ^ 16 : Nat) : Int) ((b2 : Int) * 256) = ((((b0 * 256 + b1) * 256 + b2) * 2 ^ 8 : Nat) : Int) := by
  rw [show ((b0 * 256 + b1) * 256 + b2) * 2 ^ 8 = (b0 * 256 + b1) * 2 ^ 16 + b2 * 256 by omega, ← e2]; simp
 rw [q2, e3];unfold wordS;rw [← h0, ← h1, ← h2, ← h3]
 omega
theorem nameRow {P : Program} {code : Code} {Q : Exit → Act → World → Prop} {act : Act} {W : World} {t1 t2 : TypeId} {c1 c2 : Array Value} (cs d2 : Array Value) (h2 : c2 = d2)
 (h : ∀ W0 : World, Blk W0 W.heap.size t1 cs → Blk W0 (W.heap.size + 1) t2 d2 → Below W.heap.size W W0 → code.wp P Q act W0) :
 code.wp P Q act (((W.alloc (.cells c1 t1)).setRow W.heap.size cs).alloc (.cells c2 t2)) := by
 subst h2;refine h _ (((Blk.new W t1 c1).row cs).alloc _) ?_ (below_al (below_setRow (below_al (Below.refl _ _) _) (Nat.le_refl _) _) _);have := Blk.new ((W.alloc (.cells c1 t1)).setRow W.heap.size cs) t2 c2;rwa [size_setRow, World.size_alloc] at this
theorem cell_off {w : World} {g j k n : Nat} {u x : Value} (h : j ≠ k) (hc : w.cell? ⟨g, j, none⟩ = some u) : ((w.drewN n).setCell ⟨g, k, none⟩ x).cell? ⟨g, j, none⟩ = some u := by
 exact (World.cell?_setCell_other _ _ _ _ (by intro e; injection e with _ e2; exact h e2.symm)).trans hc
theorem nameOver {P : Program} {code : Code} {Q : Exit → Act → World → Prop} {act : Act} {w W : World} {k1 k2 k3 k4 : Nat} {t1 t2 t3 t4 t5 : TypeId} {c1 c2 c3 c4 c5 : Array Value} (h1 : Blk W k1 t1 c1) (h2 : Blk W k2 t2 c2) (h3 : Blk W k3 t3 c3) (h4 : Blk W k4 t4 c4) (hB : Below w.heap.size w W) (d5 : Array Value) (h5 : c5 = d5)
 (h : ∀ W0 : World, Blk W0 W.heap.size t5 d5 → Blk W0 k1 t1 c1 → Blk W0 k2 t2 c2 → Blk W0 k3 t3 c3 → Blk W0 k4 t4 c4 → Below w.heap.size w W0 → W0.heap.size = W.heap.size + 1 → code.wp P Q act W0) : code.wp P Q act (W.alloc (.cells c5 t5)) := by
 subst h5;exact h _ (Blk.new _ _ _) (h1.alloc _) (h2.alloc _) (h3.alloc _) (h4.alloc _) (below_al hB _) (World.size_alloc _ _)
theorem kS_end {i : Nat} (hi : i < 64) : kS[i]? = some (kS.getD i 0) := by
 rw [List.getD_eq_getElem?_getD, List.getElem?_eq_getElem (show i < kS.length from hi)]; rfl
def addS (Z V : List Nat) (k : Nat) : List Nat := (List.range 8).map fun j => if j < k then (Z.getD j 0 + V.getD j 0) % 4294967296 else Z.getD j 0
theorem addS_cur (Z V : List Nat) {i : Nat} (hi : i < 8) : (addS Z V i)[i]? = some (Z.getD i 0) := by
 simp [addS, hi]
theorem addS_set (Z V : List Nat) {i : Nat} (hi : i < 8) : (addS Z V i).set i ((Z.getD i 0 + V.getD i 0) % 4294967296) = addS Z V (i + 1) := by
 apply List.ext_getElem?
 intro j;rw [List.getElem?_set]
 by_cases hj : j < 8
 ·by_cases e : i = j
  ·subst e; simp [addS, hi]
  ·rw [if_neg e]; simp only [addS, List.getElem?_map, List.getElem?_range hj, Option.map_some]
   by_cases h : j < i
   ·rw [if_pos h, if_pos (by omega)]
   ·rw [if_neg h, if_neg (by omega)]
 ·rw [if_neg (by omega)]; simp [addS, hj]
theorem block_any (st : List Nat) (hst : Eight st) (b : ByteArray) (hb : b.size = 64) (w : World) :
 Calls Tryz.prog 124 #[.agg (u32s st), .string b] w fun e w' => e = .returned (.agg (u32s (mixS st b.data.toList))) ∧ Below w.heap.size w w' := by
 have HST := Lib.hid hst;obtain ⟨a0, b0, c0, d0, e0, f0, g0, h0, hl, la, lb, lc, ld, le, lf, lg, lh⟩ := eight_of hst;have HL := Lib.hid hl;clear hst;rw [HL.out];show Calls Tryz.prog 124 #[.agg #[.int .u32 (a0 : Int), .int .u32 (b0 : Int), .int .u32 (c0 : Int), .int .u32 (d0 : Int), .int .u32 (e0 : Int), .int .u32 (f0 : Int), .int .u32 (g0 : Int), .int .u32 (h0 : Int)], .string b] w fun e w' => e = .returned (.agg (u32s (mixS [a0, b0, c0, d0, e0, f0, g0, h0] b.data.toList))) ∧ Below w.heap.size w w';clear hl;obtain ⟨L, hL⟩ : ∃ L, b.data.toList = L := ⟨_, rfl⟩;rw [hL]
 have HBY : Hid (∀ (k : Nat) (hk : k < b.size), b[k].toNat = byteS L k) := Lib.hid (fun k hk => by
  rw [← hL]; unfold byteS; rw [List.getD_eq_getElem?_getD, List.getElem?_eq_getElem (by simpa using hk)]; rfl)
 clear hL;go_enter Tryz.func124, Tryz.ntmps124;go_wp2_with fail;refine (rounds_any _).mono ?_;rintro e w3 ⟨rfl, hb3⟩;go_wp2_with (refine wpList_store_rowTo rfl 239 _ _ rfl rfl _ (u32s kS) rfl rfl _ _ (Blk.new _ _ _) (by kernel_rfl) (by kernel_rfl) (by kernel_rfl) ?_);refine nameRow (u32s kS) (u32s (schedS L 0 ++ List.replicate (64 - 0) 0)) rfl ?_;intro W0 hkT hkW hb0;have hkA : Blk W0 w.heap.size 183 (u32s [a0, b0, c0, d0, e0, f0, g0, h0]) := by
  have h1 := ((Blk.new w 183 (u32s [a0, b0, c0, d0, e0, f0, g0, h0])).alloc (.cells (u32s (List.replicate 8 0)) 183));have h2 := h1.below hb3 h1.lt;exact h2.below hb0 h2.lt
 have hkR : Blk W0 (w.heap.size + 1) 183 (u32s (List.replicate 8 0)) := by
  have h1 := Blk.new (w.alloc (.cells (u32s [a0, b0, c0, d0, e0, f0, g0, h0]) 183)) 183 (u32s (List.replicate 8 0));rw [World.size_alloc] at h1;have h2 := h1.below hb3 h1.lt;exact h2.below hb0 h2.lt
 have hB : Below w.heap.size w W0 := below_then (below_then (below_al (below_al (Below.refl _ _) _) _) hb3) hb0;have hsz : w.heap.size + 2 ≤ w3.heap.size := by
  have := hb3.size;rw [World.size_alloc, World.size_alloc] at this;exact this
 generalize w3.heap.size = kT at hkT hkW hsz ⊢;clear hb0 hb3
 go_loopw [7, 8, 9] (fun s7 _ _ wr => ∃ i : Nat, i ≤ 64 ∧ s7 = .int .i64 (i : Int) ∧ Blk wr w.heap.size 183 (u32s [a0, b0, c0, d0, e0, f0, g0, h0]) ∧ Blk wr (w.heap.size + 1) 183 (u32s (List.replicate 8 0)) ∧ Blk wr kT 239 (u32s kS) ∧ Blk wr (kT + 1) 239 (u32s (schedS L i ++ List.replicate (64 - i) 0)) ∧ Below w.heap.size w wr) (fun s7 _ _ _ => 64 - (intOf s7).toNat)
 case atStart => exact ⟨0, by omega, rfl, hkA, hkR, hkT, hkW, hB⟩
 case round =>
  obtain ⟨i, hi, rfl, hkA, hkR, hkT, hkW, hB⟩ := hrel;have hle : w.heap.size ≤ kT + 1 := by omega
  by_cases hlt : i < 64
  ·have ci := hkW.u32 (sched_cur L hlt);have hfz := hkW.frozen i
   by_cases h16 : i < 16
   ·have f0 : (4 : Int) * i = ((4 * i : Nat) : Int) := by omega
    obtain ⟨j0, hj0⟩ : ∃ j, j = 4 * i := ⟨_, rfl⟩;obtain ⟨j1, hj1⟩ : ∃ j, j = 4 * i + 1 := ⟨_, rfl⟩;obtain ⟨j2, hj2⟩ : ∃ j, j = 4 * i + 2 := ⟨_, rfl⟩;obtain ⟨j3, hj3⟩ : ∃ j, j = 4 * i + 3 := ⟨_, rfl⟩;have n0 : j0 < b.size := by omega
    have y0 := HBY.out j0 n0;have n1 : j1 < b.size := by omega
    have y1 := HBY.out j1 n1;have n2 : j2 < b.size := by omega
    have y2 := HBY.out j2 n2;have n3 : j3 < b.size := by omega
    have y3 := HBY.out j3 n3;obtain ⟨v0, hv0⟩ : ∃ v, v = byteS L j0 := ⟨_, rfl⟩;obtain ⟨v1, hv1⟩ : ∃ v, v = byteS L j1 := ⟨_, rfl⟩;obtain ⟨v2, hv2⟩ : ∃ v, v = byteS L j2 := ⟨_, rfl⟩;obtain ⟨v3, hv3⟩ : ∃ v, v = byteS L j3 := ⟨_, rfl⟩;rw [← hv0] at y0;rw [← hv1] at y1;rw [← hv2] at y2;rw [← hv3] at y3;have l0 : v0 < 256 := by rw [hv0]; exact byteS_lt _ _
    have l1 : v1 < 256 := by rw [hv1]; exact byteS_lt _ _
    have l2 : v2 < 256 := by rw [hv2]; exact byteS_lt _ _
    have l3 : v3 < 256 := by rw [hv3]; exact byteS_lt _ _
    have e0 : (4 : Int) * i = (j0 : Int) := by omega
    have e1 : (j0 : Int) + 1 = (j1 : Int) := by omega
    have e2 : (j0 : Int) + 2 = (j2 : Int) := by omega
    have e3 : (j0 : Int) + 3 = (j3 : Int) := by omega
    have m0 : (j0 : Int) < (b.size : Int) := by omega
    have m1 : (j1 : Int) < (b.size : Int) := by omega
    have m2 : (j2 : Int) < (b.size : Int) := by omega
    have m3 : (j3 : Int) < (b.size : Int) := by omega
    have HW := Lib.hid (word_or (hv0.trans (by rw [hj0])) (hv1.trans (by rw [hj1])) (hv2.trans (by rw [hj2])) (hv3.trans (by rw [hj3])));clear hv0 hv1 hv2 hv3 hj0 hj1 hj2 hj3 f0;go_upto_region 7 with fail
    go_region
    go_wp2_with fail;go_roundw
    case rel =>
     refine ⟨i + 1, by omega, by go_num, kept_set hkA (by omega) _ _, kept_set hkR (by omega) _ _, kept_set hkT (by omega) _ _, ?_, (below_set hB (p := ⟨kT + 1, i, none⟩) hle _).drew⟩;rw [HW.out, ← sched_word L h16];exact hkW.put32 _ _
    case measure => simp [intOf]; omega
   ·obtain ⟨x, hx⟩ : ∃ x, x = (schedS L i).getD (i - 15) 0 := ⟨_, rfl⟩;obtain ⟨y, hy⟩ : ∃ y, y = (schedS L i).getD (i - 2) 0 := ⟨_, rfl⟩;obtain ⟨u, hu⟩ : ∃ u, u = (schedS L i).getD (i - 16) 0 := ⟨_, rfl⟩;obtain ⟨v, hv⟩ : ∃ v, v = (schedS L i).getD (i - 7) 0 := ⟨_, rfl⟩;have cx := hkW.u32 (sched_at L (n := 64 - i) (show i - 15 < i by omega));have cy := hkW.u32 (sched_at L (n := 64 - i) (show i - 2 < i by omega));have cu := hkW.u32 (sched_at L (n := 64 - i) (show i - 16 < i by omega));have cv := hkW.u32 (sched_at L (n := 64 - i) (show i - 7 < i by omega));have lx := getD_lt (schedS_lt L i) (i - 15);have ly := getD_lt (schedS_lt L i) (i - 2);have lu := getD_lt (schedS_lt L i) (i - 16);have lv := getD_lt (schedS_lt L i) (i - 7);rw [← hx] at cx lx;rw [← hy] at cy ly;rw [← hu] at cu lu;rw [← hv] at cv lv;obtain ⟨jx, hjx⟩ : ∃ j, j = i - 15 := ⟨_, rfl⟩;obtain ⟨jy, hjy⟩ : ∃ j, j = i - 2 := ⟨_, rfl⟩;obtain ⟨ju, hju⟩ : ∃ j, j = i - 16 := ⟨_, rfl⟩;obtain ⟨jv, hjv⟩ : ∃ j, j = i - 7 := ⟨_, rfl⟩;rw [← hjx] at cx;rw [← hjy] at cy;rw [← hju] at cu;rw [← hjv] at cv;have ex : (i : Int) - 15 = (jx : Int) := by omega
    have ey : (i : Int) - 2 = (jy : Int) := by omega
    have eu : (i : Int) - 16 = (ju : Int) := by omega
    have ev : (i : Int) - 7 = (jv : Int) := by omega
    have bx : jx < 64 := by omega
    have bY : jy < 64 := by omega
    have bu : ju < 64 := by omega
    have bv : jv < 64 := by omega
    have hN : Hid ((u + sS0 x + v + sS1 y) % 4294967296 = nextS (schedS L i) i) := Lib.hid (by rw [hx, hy, hu, hv]; rfl);clear hx hy hu hv hjx hjy hju hjv;obtain ⟨s, hs⟩ : ∃ s, s = sS0 x := ⟨_, rfl⟩;obtain ⟨t, ht⟩ : ∃ t, t = sS1 y := ⟨_, rfl⟩;have q0 : bits .xor .u32 (bits .xor .u32 ((rotr 7 x : Nat) : Int) ((rotr 18 x : Nat) : Int)) ((x : Int) / 8) = (s : Int) := by rw [hs]; exact xs0 lx
    have q1 : bits .xor .u32 (bits .xor .u32 ((rotr 17 y : Nat) : Int) ((rotr 19 y : Nat) : Int)) ((y : Int) / 1024) = (t : Int) := by rw [ht]; exact xs1 ly
    have ls := sS0_lt lx;have lt := sS1_lt ly;rw [← hs, ← ht] at hN;rw [← hs] at ls;rw [← ht] at lt;clear hs ht;have m1 := Lib.hid (fun W => rot_7 x lx W);have m2 := Lib.hid (fun W => rot_18 x lx W);have m3 := Lib.hid (fun W => rot_17 y ly W);have m4 := Lib.hid (fun W => rot_19 y ly W);have hnu : ju ≠ i := by omega
    have hnv : jv ≠ i := by omega
    have z1 : (0 : Int) ≤ (ju : Int) := by omega
    have z2 : (ju : Int) < 64 := by omega
    have z3 : (0 : Int) ≤ (jv : Int) := by omega
    have z4 : (jv : Int) < 64 := by omega
    have z5 : (0 : Int) ≤ (i : Int) := by omega
    have z6 : (i : Int) < 64 := by omega
    have z7 : IntKind.i64.wrap (ju : Int) = (ju : Int) := IntWalk.i64_in _ (by omega);have z8 : IntKind.i64.wrap (jv : Int) = (jv : Int) := IntWalk.i64_in _ (by omega);go_upto_region 10 with fail
    go_region_held3 (fun W : World => W.cell? ⟨kT + 1, ju, none⟩ = some (.int .u32 (u : Int)) ∧ W.cell? ⟨kT + 1, jv, none⟩ = some (.int .u32 (v : Int))) (first | exact ⟨cu, cv⟩ | exact ⟨cell_off hnu cu, cell_off hnv cv⟩) (first
     | (go_at_call 184; (with_reducible refine (m1.out _).mono ?_); rintro e w' ⟨rfl, n1, rfl⟩)
     | (go_at_call 184; (with_reducible refine (m2.out _).mono ?_); rintro e w' ⟨rfl, n2, rfl⟩)
     | (go_at_call 184; (with_reducible refine (m3.out _).mono ?_); rintro e w' ⟨rfl, n3, rfl⟩)
     | (go_at_call 184; (with_reducible refine (m4.out _).mono ?_); rintro e w' ⟨rfl, n4, rfl⟩))
    go_wp2_with fail;go_roundw
    case rel =>
     refine ⟨i + 1, by omega, by go_num, kept_set hkA (by omega) _ _, kept_set hkR (by omega) _ _, kept_set hkT (by omega) _ _, ?_, below_set (below_drewN hB _) (p := ⟨kT + 1, i, none⟩) hle _⟩;have e : ((((u : Int) + s) % 4294967296 + v) % 4294967296 + t) % 4294967296 = ((nextS (schedS L i) i : Nat) : Int) := by rw [← hN.out]; omega
     rw [e, ← sched_set L (by omega) hlt];exact (show Blk (wr.drewN _) _ _ _ from hkW).put32 _ _
    case measure => simp [intOf]; omega
  ·obtain rfl : i = 64 := by omega
   have hkW0 : Blk wr (kT + 1) 239 (u32s (schedS L 64)) := by
    have := hkW;rwa [show List.replicate (64 - 64) 0 = ([] : List Nat) from rfl, List.append_nil] at this
   clear hkW;have cs : ∀ j x : Nat, [a0, b0, c0, d0, e0, f0, g0, h0][j]? = some x → wr.cell? ⟨w.heap.size, j, none⟩ = some (.int .u32 (x : Int)) := fun j x h => hkA.u32 h;have cs0 := cs 0 _ rfl;have cs1 := cs 1 _ rfl;have cs2 := cs 2 _ rfl;have cs3 := cs 3 _ rfl;have cs4 := cs 4 _ rfl;have cs5 := cs 5 _ rfl;have cs6 := cs 6 _ rfl;have cs7 := cs 7 _ rfl;clear cs;go_wp2_with fail;clear cs0 cs1 cs2 cs3 cs4 cs5 cs6 cs7;refine nameOver hkA hkR hkT hkW0 hB (u32s [a0, b0, c0, d0, e0, f0, g0, h0]) rfl ?_;intro W1 hkV hkA hkR hkT hkW hB hlW;have hle2 : w.heap.size ≤ wr.heap.size := by have := hkW0.lt; omega
   have hne1 : w.heap.size ≠ wr.heap.size := by have := hkW0.lt; omega
   have hne2 : w.heap.size + 1 ≠ wr.heap.size := by have := hkW0.lt; omega
   have hne3 : kT ≠ wr.heap.size := by have := hkW0.lt; omega
   have hne4 : kT + 1 ≠ wr.heap.size := by have := hkW0.lt; omega
   generalize wr.heap.size = kV at hkV hle2 hne1 hne2 hne3 hne4 ⊢;have OK0 := (HST.out).of;rw [HL.out] at OK0;clear hkW0 hlW
   go_loopw [11, 12, 13, 14, 15] (fun s11 _ _ _ _ wr => ∃ (i : Nat) (S : St), i ≤ 64 ∧ s11 = .int .i64 (i : Int) ∧ Hid (S = stepsS (schedS L 64) (St.of [a0, b0, c0, d0, e0, f0, g0, h0]) i) ∧ Blk wr kV 183 (u32s S.list) ∧ Blk wr w.heap.size 183 (u32s [a0, b0, c0, d0, e0, f0, g0, h0]) ∧ Blk wr (w.heap.size + 1) 183 (u32s (List.replicate 8 0)) ∧ Blk wr kT 239 (u32s kS) ∧ Blk wr (kT + 1) 239 (u32s (schedS L 64)) ∧ Below w.heap.size w wr) (fun s11 _ _ _ _ _ => 64 - (intOf s11).toNat)
   case atStart => exact ⟨0, St.of [a0, b0, c0, d0, e0, f0, g0, h0], by omega, rfl, Lib.hid rfl, hkV, hkA, hkR, hkT, hkW, hB⟩
   case round =>
    obtain ⟨i, ⟨a, b', c, d, e, f, g, h8⟩, hi, rfl, HS, hkV, hkA, hkR, hkT, hkW, hB⟩ := hrel;have hkV' : Blk wr kV 183 (u32s [a, b', c, d, e, f, g, h8]) := hkV;clear hkV;have cs : ∀ j x : Nat, [a, b', c, d, e, f, g, h8][j]? = some x → wr.cell? ⟨kV, j, none⟩ = some (.int .u32 (x : Int)) := fun j x h => hkV'.u32 h;have cs0 := cs 0 _ rfl;have cs1 := cs 1 _ rfl;have cs2 := cs 2 _ rfl;have cs3 := cs 3 _ rfl;have cs4 := cs 4 _ rfl;have cs5 := cs 5 _ rfl;have cs6 := cs 6 _ rfl;have cs7 := cs 7 _ rfl;clear cs
    by_cases hlt : i < 64
    ·have cz := fun j => hkV'.frozen j;have cz0 := cz 0;have cz1 := cz 1;have cz2 := cz 2;have cz3 := cz 3;have cz4 := cz 4;have cz5 := cz 5;have cz6 := cz 6;have cz7 := cz 7;clear cz;obtain ⟨k, hk⟩ : ∃ k, k = kS.getD i 0 := ⟨_, rfl⟩;obtain ⟨x, hx⟩ : ∃ x, x = (schedS L 64).getD i 0 := ⟨_, rfl⟩;have ck := hkT.u32 (kS_end hlt);have cx := hkW.u32 (sched_end L hlt);have lk := getD_lt kS_lt i;have lx := getD_lt (schedS_lt L 64) i;have ok := steps_ok OK0 (schedS L 64) i;rw [← HS.out] at ok;obtain ⟨la, lb, lc, ld, le, lf, lg, lh⟩ := ok;dsimp only at la lb lc ld le lf lg lh;rw [← hk] at ck lk;rw [← hx] at cx lx;have HKX := Lib.hid (And.intro hk hx);clear hk hx;have m1 := Lib.hid (fun W => rot_6 e le W);have m2 := Lib.hid (fun W => rot_11 e le W);have m3 := Lib.hid (fun W => rot_25 e le W);have m4 := Lib.hid (fun W => rot_2 a la W);have m5 := Lib.hid (fun W => rot_13 a la W);have m6 := Lib.hid (fun W => rot_22 a la W);obtain ⟨p1, hp1⟩ : ∃ p, p = bS1 e := ⟨_, rfl⟩;obtain ⟨p2, hp2⟩ : ∃ p, p = chS e f g := ⟨_, rfl⟩;obtain ⟨p3, hp3⟩ : ∃ p, p = bS0 a := ⟨_, rfl⟩;obtain ⟨p4, hp4⟩ : ∃ p, p = majS a b' c := ⟨_, rfl⟩;have r1 : bits .xor .u32 (bits .xor .u32 ((rotr 6 e : Nat) : Int) ((rotr 11 e : Nat) : Int)) ((rotr 25 e : Nat) : Int) = (p1 : Int) := by rw [hp1]; exact u32_xor2 (rotr_lt _ le) (rotr_lt _ le) (rotr_lt _ le)
     have r2 : bits .xor .u32 (bits .and .u32 (e : Int) (f : Int)) (bits .and .u32 (bits .xor .u32 IntKind.u32.max (e : Int)) (g : Int)) = (p2 : Int) := by rw [hp2]; exact xch le lf lg
     have r3 : bits .xor .u32 (bits .xor .u32 ((rotr 2 a : Nat) : Int) ((rotr 13 a : Nat) : Int)) ((rotr 22 a : Nat) : Int) = (p3 : Int) := by rw [hp3]; exact u32_xor2 (rotr_lt _ la) (rotr_lt _ la) (rotr_lt _ la)
     have r4 : bits .xor .u32 (bits .xor .u32 (bits .and .u32 (a : Int) (b' : Int)) (bits .and .u32 (a : Int) (c : Int))) (bits .and .u32 (b' : Int) (c : Int)) = (p4 : Int) := by rw [hp4]; exact xmaj la lb lc
     have hsg : IntKind.u32.signed = false := rfl;have HP1 := Lib.hid (And.intro (And.intro hp1 hp2) (And.intro hp3 hp4));clear hp1 hp2 hp3 hp4;go_upto_region 17 with fail
     go_quiet (first
      | (go_at_call 184; with_reducible exact Calls.quiet_of (m1.out _))
      | (go_at_call 184; with_reducible exact Calls.quiet_of (m2.out _))
      | (go_at_call 184; with_reducible exact Calls.quiet_of (m3.out _)))
     go_upto_region 18 with fail;clear cs0 cs1 cs2 cs3 cs4 cs5 cs6 cs7 cz0 cz1 cz2 cz3 cz4 cz5 cz6 cz7 ck cx;replace hkV' : Blk (wr.drewN nq) kV 183 (u32s [a, b', c, d, e, f, g, h8]) := hkV';replace hkA : Blk (wr.drewN nq) w.heap.size 183 (u32s [a0, b0, c0, d0, e0, f0, g0, h0]) := hkA;replace hkR : Blk (wr.drewN nq) (w.heap.size + 1) 183 (u32s (List.replicate 8 0)) := hkR;replace hkT : Blk (wr.drewN nq) kT 239 (u32s kS) := hkT;replace hkW : Blk (wr.drewN nq) (kT + 1) 239 (u32s (schedS L 64)) := hkW;replace hB := below_drewN hB nq;generalize wr.drewN nq = wq at hkV' hkA hkR hkT hkW hB ⊢;have cs : ∀ j x : Nat, [a, b', c, d, e, f, g, h8][j]? = some x → wq.cell? ⟨kV, j, none⟩ = some (.int .u32 (x : Int)) := fun j x h => hkV'.u32 h;have cs0 := cs 0 _ rfl;have cs1 := cs 1 _ rfl;have cs2 := cs 2 _ rfl;have cs3 := cs 3 _ rfl;have cs4 := cs 4 _ rfl;have cs5 := cs 5 _ rfl;have cs6 := cs 6 _ rfl;have cs7 := cs 7 _ rfl;clear cs;have cz := fun j => hkV'.frozen j;have cz0 := cz 0;have cz1 := cz 1;have cz2 := cz 2;have cz3 := cz 3;have cz4 := cz 4;have cz5 := cz 5;have cz6 := cz 6;have cz7 := cz 7;clear cz
     go_quiet (first
      | (go_at_call 184; with_reducible exact Calls.quiet_of (m4.out _))
      | (go_at_call 184; with_reducible exact Calls.quiet_of (m5.out _))
      | (go_at_call 184; with_reducible exact Calls.quiet_of (m6.out _)))
     go_wp2_with fail;go_roundw
     case rel =>
      have q1 : ((h8 : Int) + p1 + p2 + k + x + (p3 + p4)) % 4294967296 = ((((h8 + bS1 e + chS e f g + k + x) % 4294967296 + (bS0 a + majS a b' c) % 4294967296) % 4294967296 : Nat) : Int) := by
       rw [← HP1.out.1.1, ← HP1.out.1.2, ← HP1.out.2.1, ← HP1.out.2.2]
       omega
      have q2 : ((d : Int) + (h8 + p1 + p2 + k + x)) % 4294967296 = (((d + (h8 + bS1 e + chS e f g + k + x) % 4294967296) % 4294967296 : Nat) : Int) := by
       rw [← HP1.out.1.1, ← HP1.out.1.2]
       omega
      rw [q1, q2];refine ⟨i + 1, St.step ⟨a, b', c, d, e, f, g, h8⟩ k x, by omega, by go_num, ?_, ?_, ?_, ?_, ?_, ?_, ?_⟩
      ·refine Lib.hid ?_;show _ = (stepsS (schedS L 64) (St.of [a0, b0, c0, d0, e0, f0, g0, h0]) i).step _ _;rw [← HS.out, ← HKX.out.1, ← HKX.out.2]
      ·exact ((((((((show Blk (wq.drewN nq) kV 183 (u32s [a, b', c, d, e, f, g, h8]) from hkV').set_ 0 _).set_ 1 _).set_ 2 _).set_ 3 _).set_ 4 _).set_ 5 _).set_ 6 _).set_ 7 _
      ·(repeat (refine kept_set ?_ hne1 _ _)); exact hkA
      ·(repeat (refine kept_set ?_ hne2 _ _)); exact hkR
      ·(repeat (refine kept_set ?_ hne3 _ _)); exact hkT
      ·(repeat (refine kept_set ?_ hne4 _ _)); exact hkW
      ·(repeat (refine below_set ?_ hle2 _)); exact below_drewN hB nq
     case measure => simp [intOf]; omega
    ·obtain rfl : i = 64 := by omega
     go_wp2_with fail
     have hv : ∀ j, j < 8 → wr.cell? ⟨kV, j, none⟩ = some (.int .u32 (([a, b', c, d, e, f, g, h8].getD j 0 : Nat) : Int)) := fun j hj => hkV'.u32 (by
      rw [List.getD_eq_getElem?_getD, List.getElem?_eq_getElem (show j < [a, b', c, d, e, f, g, h8].length from hj)]; rfl)
     obtain ⟨V, hV⟩ : ∃ V, V = [a, b', c, d, e, f, g, h8] := ⟨_, rfl⟩;obtain ⟨Z, hZ⟩ : ∃ Z, Z = [a0, b0, c0, d0, e0, f0, g0, h0] := ⟨_, rfl⟩;have hadd0 : u32s [a0, b0, c0, d0, e0, f0, g0, h0] = u32s (addS Z V 0) := by rw [hZ]; rfl
     have hadd8 : addS Z V 8 = mixS [a0, b0, c0, d0, e0, f0, g0, h0] L := by
      unfold mixS;rw [← HS.out, hZ, hV]
      rfl
     rw [← hV] at hv;rw [hadd0] at hkA;have HV := Lib.hid hv;have HZ := Lib.hid hZ;have HVV := Lib.hid hV;have H8 := Lib.hid hadd8;clear cs0 cs1 cs2 cs3 cs4 cs5 cs6 cs7 hv hadd0 hadd8 hZ hV
     go_loopw [16] (fun s16 wq => ∃ i : Nat, i ≤ 8 ∧ s16 = .int .i64 (i : Int) ∧ Blk wq w.heap.size 183 (u32s (addS Z V i)) ∧ (∀ j, wq.cell? ⟨kV, j, none⟩ = wr.cell? ⟨kV, j, none⟩) ∧ Blk wq (w.heap.size + 1) 183 (u32s (List.replicate 8 0)) ∧ Below w.heap.size w wq) (fun s16 _ => 8 - (intOf s16).toNat)
     case atStart => exact ⟨0, by omega, rfl, hkA, fun _ => rfl, hkR, hB⟩
     case round =>
      obtain ⟨i, hi, rfl, hkA, hkv, hkR, hB⟩ := hrel
      by_cases hlt : i < 8
      ·have c1 := (hkv i).trans (HV.out i hlt);have c2 := hkA.u32 (addS_cur Z V hlt);obtain ⟨y, hy⟩ : ∃ y, y = V.getD i 0 := ⟨_, rfl⟩;obtain ⟨z, hz⟩ : ∃ z, z = Z.getD i 0 := ⟨_, rfl⟩;rw [← hy] at c1;rw [← hz] at c2;have HYZ := Lib.hid (And.intro hy hz);have hfz := hkA.frozen i;clear hy hz;have HKV := Lib.hid hkv;clear hkv;go_upto_region 23 with fail
       go_region
       go_wp2_with fail;go_roundw
       case rel =>
        have e : ((z : Int) + y) % 4294967296 = (((Z.getD i 0 + V.getD i 0) % 4294967296 : Nat) : Int) := by rw [← HYZ.out.1, ← HYZ.out.2]; omega
        rw [e];refine ⟨i + 1, by omega, by go_num, ?_, fun j => ?_, kept_set hkR (by omega) _ _, (below_set hB (p := ⟨w.heap.size, i, none⟩) (Nat.le_refl _) _).drew⟩
        ·rw [← addS_set Z V hlt];exact hkA.put32 _ _
        ·exact (World.cell?_setCell_far _ ⟨w.heap.size, i, none⟩ ⟨kV, j, none⟩ _ hne1).trans (HKV.out j)
       case measure => simp [intOf]; omega
      ·obtain rfl : i = 8 := by omega
       have hE : Eight [a0, b0, c0, d0, e0, f0, g0, h0] := HL.out ▸ HST.out;obtain ⟨r0, r1, r2, r3, r4, r5, r6, r7, hr, -⟩ := eight_of (mixS_eight hE L);rw [H8.out, hr] at hkA;have HR := Lib.hid hr;clear hr hkv hE;have cs : ∀ j x : Nat, [r0, r1, r2, r3, r4, r5, r6, r7][j]? = some x → wr.cell? ⟨w.heap.size, j, none⟩ = some (.int .u32 (x : Int)) := fun j x h => hkA.u32 h;have cs0 := cs 0 _ rfl;have cs1 := cs 1 _ rfl;have cs2 := cs 2 _ rfl;have cs3 := cs 3 _ rfl;have cs4 := cs 4 _ rfl;have cs5 := cs 5 _ rfl;have cs6 := cs 6 _ rfl;have cs7 := cs 7 _ rfl;clear cs;have cr : ∀ j, j < 8 → wr.cell? ⟨w.heap.size + 1, j, none⟩ = some (.int .u32 0) := fun j hj => hkR.u32 (d := 0) (by rw [List.getElem?_replicate, if_pos hj]);have cr0 := cr 0 (by omega);have cr1 := cr 1 (by omega);have cr2 := cr 2 (by omega);have cr3 := cr 3 (by omega);have cr4 := cr 4 (by omega);have cr5 := cr 5 (by omega);have cr6 := cr 6 (by omega);have cr7 := cr 7 (by omega);clear cr;have cz := fun j => hkR.frozen j;have cz0 := cz 0;have cz1 := cz 1;have cz2 := cz 2;have cz3 := cz 3;have cz4 := cz 4;have cz5 := cz 5;have cz6 := cz 6;have cz7 := cz 7;clear cz;go_wp2_with fail;rw [HR.out];have hblk := ((((((((hkR.set_ 0 (.int .u32 (r0 : Int))).set_ 1 (.int .u32 (r1 : Int))).set_ 2 (.int .u32 (r2 : Int))).set_ 3 (.int .u32 (r3 : Int))).set_ 4 (.int .u32 (r4 : Int))).set_ 5 (.int .u32 (r5 : Int))).set_ 6 (.int .u32 (r6 : Int))).set_ 7 (.int .u32 (r7 : Int)));refine bodyPost_ret (results_cell_row (p := 4) (ty := 183) rfl _ _ (w.heap.size + 1) _ (u32s [r0, r1, r2, r3, r4, r5, r6, r7]) (0, 0) _ rfl hblk Tryz.underlying183 rfl (by kernel_rfl)) rfl ?_;refine ⟨rfl, ?_⟩
       repeat (refine below_set ?_ (Nat.le_succ _) _)
       exact hB
end Go.Proofs.YtkpinmejfdnhbaaGreatDoor
