/- Joined by a program: LkQ, LkR. -/
import Derived.Test.YtkpinmejfdnhbaaGreatDoorLwP
set_option maxRecDepth 100000
set_option maxHeartbeats 1500000
namespace Go.Proofs.YtkpinmejfdnhbaaGreatDoor
open Go.RowKit Go.Shelf
attribute [local go_sem] Oper.semAt_some
theorem idAll_take {ms : List Mem} {k : Nat} {x : Mem} {z : Int} (h : ms[k]? = some x) : (ms.take (k + 1)).all (fun y => y.id != z) = ((ms.take k).all (fun y => y.id != z) && (x.id != z)) := by
 rw [List.take_add_one, h, Option.toList_some, List.all_append]; simp
theorem any_take {vs : List Vt} {k : Nat} {x : Vt} {m : Mem} {t : ByteArray} (h : vs[k]? = some x) : (vs.take (k + 1)).any (·.ok m t) = ((vs.take k).any (·.ok m t) || x.ok m t) := by
 rw [List.take_add_one, h, Option.toList_some, List.any_append]; simp
theorem rWeight_q (A1 A2 : Option Addr) (n c1 m c2 : Nat) (ms : List Mem) (vs : List Vt) (t : ByteArray) (hn : n ≤ 100000) (hm : m ≤ 100000) (hI : I64M ms) (hIv : I64V vs) (ht : t.size ≤ 800000) (w : World) (h1 : RowM w A1 n c1 ms) (h2 : RowVt w A2 m c2 vs) :
 Calls Tryz.prog 24 #[.slice A1 n c1, .slice A2 m c2, .string t] w fun e w' => e = .returned (.int .i64 (weightI ms vs t)) ∧ Below w.heap.size w w' := by
 have hl1 := h1.len;have hl2 := h2.len;have HR := Lib.hid (And.intro h1 h2);have HI := Lib.hid (And.intro hI hIv);have HV := Lib.hid (fun (key r s : Int) (hk : I64 key) (hr : I64 r) (hs : I64 s) => rVerify_s key t r s hk hr hs ht);have hB := Below.refl w.heap.size w;clear h1 h2 hI hIv;go_enter Tryz.func24, Tryz.ntmps24;go_wp2_with fail
 go_loopw [7, 8, 9, 10, 11, 12] (fun s7 s8 _ _ _ _ wr => ∃ (i : Nat) (x : Int), i ≤ n ∧ s8 = .int .i64 (i : Int) ∧ s7 = .int .i64 x ∧ Hid (x = sumI (addsI ms vs t) i) ∧ (0 ≤ x ∧ x ≤ 20 * (i : Int)) ∧ Below w.heap.size w wr) (fun _ s8 _ _ _ _ _ => n - (intOf s8).toNat)
 case atStart => exact ⟨0, 0, by omega, rfl, rfl, Lib.hid rfl, by omega, hB⟩
 case round =>
  clear hB;obtain ⟨i, x, hi, rfl, rfl, HX, hx, hB⟩ := hrel
  by_cases hlt : i < n
  ·have hlt' : (i : Int) < (n : Int) := by omega
   obtain ⟨bb, o, q, rfl, hq, d0, d1, d2⟩ := RowM.get (HR.out.1.below hB) hlt;have hqi := HI.out.1 q (List.mem_of_getElem? hq);have HQ := Lib.hid hq;clear hq d0 d1 d2;go_wp2_with fail
   go_loopw [9, 10] (fun s9 s10 wr => ∃ (k : Nat) (b : Bool), k ≤ i ∧ s10 = .int .i64 (k : Int) ∧ s9 = .bool b ∧ Hid (b = (ms.take k).all (fun y => y.id != q.id)) ∧ Below w.heap.size w wr) (fun _ s10 _ => i - (intOf s10).toNat)
   case atStart => exact ⟨0, true, by omega, rfl, rfl, Lib.hid rfl, hB⟩
   case round =>
    clear hB;obtain ⟨k, b, hk, rfl, rfl, HB, hB⟩ := hrel
    by_cases hkl : k < i
    ·have hkl' : (k : Int) < (i : Int) := by omega
     have hkn : (k : Int) < (n : Int) := by omega
     obtain ⟨y, hy, e0, -, -⟩ := rowM_at (HR.out.1.below hB) (show k < n by omega);obtain ⟨q', hq', f0, -, -⟩ := rowM_at (HR.out.1.below hB) hlt;rw [HQ.out] at hq';obtain rfl := Option.some.inj hq';have HB2 : Hid ((b && (y.id != q.id)) = (ms.take (k + 1)).all (fun z => z.id != q.id)) := Lib.hid (by rw [idAll_take hy, ← HB.out]);clear hy hq';go_upto_region 9 with fail
     cases b with
     | true =>
       go_quiet (fail)
       have hB2 := below_drewN hB nq;generalize wr.drewN nq = wq at hB2 ⊢;clear e0 f0 hB;go_wp2_with fail;go_roundw
       case rel => exact ⟨k + 1, _, by omega, by go_num, rfl, HB2, hB2⟩
       case measure => simp [intOf]; omega
     | false =>
       go_quiet (fail)
       have hB2 := below_drewN hB nq;generalize wr.drewN nq = wq at hB2 ⊢;clear e0 f0 hB;go_wp2_with fail;go_roundw
       case rel => exact ⟨k + 1, _, by omega, by go_num, rfl, HB2, hB2⟩
       case measure => simp [intOf]; omega
    ·obtain rfl : i = k := by omega
     have HF : Hid (b = firstB ms i q) := Lib.hid (by rw [HB.out]; rfl);clear HB;go_wp2_with fail
     go_loopw [11, 12] (fun s11 s12 wr => ∃ (k : Nat) (v : Bool), k ≤ m ∧ s12 = .int .i64 (k : Int) ∧ s11 = .bool v ∧ Hid (v = (vs.take k).any (·.ok q t)) ∧ Hid (b = false → k = 0) ∧ Below w.heap.size w wr) (fun _ s12 _ => m - (intOf s12).toNat)
     case atStart => exact ⟨0, false, by omega, rfl, rfl, Lib.hid rfl, Lib.hid fun _ => rfl, hB⟩
     case round =>
      clear hB;obtain ⟨k, v, hk, rfl, rfl, HVK, HB0, hB⟩ := hrel;obtain ⟨q', hq', f0, f1, f2⟩ := rowM_at (HR.out.1.below hB) hlt;rw [HQ.out] at hq';obtain rfl := Option.some.inj hq';clear hq'
      by_cases hkm : k < m
      ·have hkm' : (k : Int) < (m : Int) := by omega
       cases b with
       | false =>
         have hk0 : k = 0 := HB0.out rfl;have hv : v = false := by rw [HVK.out, hk0]; rfl
         subst hv;have HAN : Hid ((firstB ms i q && vs.any (·.ok q t)) = false) := Lib.hid (by rw [← HF.out]; rfl);clear hk0
         have HS : Hid (x = sumI (addsI ms vs t) (i + 1)) := Lib.hid (by
          show x = sumI (addsI ms vs t) i + addsI ms vs t i;rw [← HX.out];unfold addsI;rw [HQ.out];dsimp only;rw [show (firstB ms i q && goodW q && vs.any (·.ok q t)) = false by have := HAN.out; revert this; cases firstB ms i q <;> cases goodW q <;> cases vs.any (·.ok q t) <;> simp]
          simp)
         clear f0 f1 f2;go_wp2_with fail;go_roundw
         case rel => exact ⟨i + 1, x, by omega, by go_num, rfl, HS, by omega, hB⟩
         case measure => simp [intOf]; omega
       | true =>
         cases v with
         | true =>
           have HAN : Hid ((firstB ms i q && vs.any (·.ok q t)) = true) := Lib.hid (by
            rw [← HF.out, Bool.true_and, List.any_eq_true];obtain ⟨z, hz, hz2⟩ := List.any_eq_true.1 HVK.out.symm
            exact ⟨z, List.mem_of_mem_take hz, hz2⟩)
           by_cases hw1 : q.wt < 1
           ·have HGW : Hid (goodW q = false) := Lib.hid (by unfold goodW; rw [decide_eq_false (by omega)]; rfl);have hw1' : (1 ≤ q.wt) = False := by simp only [eq_iff_iff, iff_false]; omega
            have HS : Hid (x = sumI (addsI ms vs t) (i + 1)) := Lib.hid (by
             show x = sumI (addsI ms vs t) i + addsI ms vs t i;rw [← HX.out];unfold addsI;rw [HQ.out];dsimp only;rw [show (firstB ms i q && goodW q && vs.any (·.ok q t)) = false by have := HGW.out; rw [this]; simp]
             simp)
            clear f0 f2;go_wp2_with fail;go_roundw
            case rel => exact ⟨i + 1, x, by omega, by go_num, rfl, HS, by omega, hB⟩
            case measure => simp [intOf]; omega
           ·by_cases hw2 : 20 < q.wt
            ·have HGW : Hid (goodW q = false) := Lib.hid (by unfold goodW; rw [decide_eq_false (p := q.wt ≤ 20) (by omega)]; simp);have hw2' : (q.wt ≤ 20) = False := by simp only [eq_iff_iff, iff_false]; omega
             have hw1' : 1 ≤ q.wt := by omega
             have HS : Hid (x = sumI (addsI ms vs t) (i + 1)) := Lib.hid (by
              show x = sumI (addsI ms vs t) i + addsI ms vs t i;rw [← HX.out];unfold addsI;rw [HQ.out];dsimp only;rw [show (firstB ms i q && goodW q && vs.any (·.ok q t)) = false by have := HGW.out; rw [this]; simp]
              simp)
             clear f0 f2;go_wp2_with fail;go_roundw
             case rel => exact ⟨i + 1, x, by omega, by go_num, rfl, HS, by omega, hB⟩
             case measure => simp [intOf]; omega
            ·have HS : Hid (x + q.wt = sumI (addsI ms vs t) (i + 1)) := Lib.hid (by
              show x + q.wt = sumI (addsI ms vs t) i + addsI ms vs t i;rw [← HX.out];unfold addsI;rw [HQ.out];dsimp only;have h := HAN.out;rw [Bool.and_eq_true] at h;rw [h.1, h.2, goodW_iff.2 ⟨by omega, by omega⟩]
              rfl)
             have hw1' : 1 ≤ q.wt := by omega
             have hw2' : q.wt ≤ 20 := by omega
             have hws : IntKind.i64.wrap (x + q.wt) = x + q.wt := IntWalk.i64_in _ (by omega);clear f0 f2;go_wp2_with fail;go_roundw
             case rel => exact ⟨i + 1, x + q.wt, by omega, by go_num, rfl, HS, by omega, hB⟩
             case measure => simp [intOf]; omega
         | false =>
           obtain ⟨b2, o2, u, rfl, hu, g0, g1, g2, g3⟩ := RowVt.get (HR.out.2.below hB) hkm;have hui := HI.out.2 u (List.mem_of_getElem? hu);have HU : Hid ((vs.take (k + 1)).any (·.ok q t) = u.ok q t) := Lib.hid (by rw [any_take hu, ← HVK.out]; rfl);clear hu
           by_cases hw : u.who = q.id
           ·by_cases htx : u.text = t
            ·have HOK : Hid (u.ok q t = verS q.pub t.data.toList u.r u.s) := Lib.hid (ok_ver hw htx);rw [hw] at g0;rw [htx] at g1;have m1 := Lib.hid (HV.out q.pub u.r u.s hqi.2.2 hui.2.1 hui.2.2);obtain ⟨V, hV⟩ := exq (verS q.pub t.data.toList u.r u.s);rw [← hV] at m1 HOK;unfold sigA at m1;clear hV hw htx f1;go_upto_region 14 with fail
             go_quiet (fail)
             have hB2 := (below_drewN hB nq).drew;have f2d : (wr.drewN nq).drew.cell? ⟨bb, o + i * 3 + 2, none⟩ = some (.int .i64 q.pub) := f2;have g2d : (wr.drewN nq).drew.cell? ⟨b2, o2 + k * 4 + 2, none⟩ = some (.int .i64 u.r) := g2;have g3d : (wr.drewN nq).drew.cell? ⟨b2, o2 + k * 4 + 3, none⟩ = some (.int .i64 u.s) := g3;clear f0 f2 g0 g1 g2 g3 hB;go_upto_region 15 with fail;refine region_here (fun Z : World => Z.cell? ⟨bb, o + i * 3 + 2, none⟩ = some (.int .i64 q.pub) ∧ Z.cell? ⟨b2, o2 + k * 4 + 2, none⟩ = some (.int .i64 u.r) ∧ Z.cell? ⟨b2, o2 + k * 4 + 3, none⟩ = some (.int .i64 u.s)) 12 (by kernel_rfl) ⟨f2d, g2d, g3d⟩ (fun hHeld => ?_);clear f2d g2d g3d;generalize (wr.drewN nq).drew = wd at *;refine tkT 0 rfl ?_;refine tkT 1 rfl ?_;refine tkT 2 rfl ?_;refine tkT 3 rfl ?_;refine tkT 4 rfl ?_;refine tkT 5 rfl ?_;refine tkT 6 rfl ?_;refine tkT 7 rfl ?_;refine tkT 8 rfl ?_;refine tkT 9 rfl ?_;refine tkT 10 rfl ?_;refine tkO 11 rfl fun K hK => ?_;go_simp;go_at_call 61
             with_reducible refine (m1.out _).mono ?_
             rintro e1 wa ⟨rfl, hba⟩
             (try go_wp2_with fail)
             replace hB2 := below_then hB2 hba;refine hK.out _ _ ?_ (fun hHeld11 => ?_)
             ·exact ⟨cell_b hba hHeld.1, cell_b hba hHeld.2.1, cell_b hba hHeld.2.2⟩
             clear hK K
             try simp only [Act.put, pq1, pq2, pq3]
             refine tkK 12 rfl fun K hK => ?_;go_simp;refine hK.out _ _ ?_;clear hK K
             try simp only [Act.put, pq1, pq2, pq3]
             refine tkD ?_;go_wp2_with fail;go_roundw
             case rel => exact ⟨k + 1, V, by omega, by go_num, rfl, Lib.hid (by rw [HU.out, HOK.out]), Lib.hid (fun h => by cases h), hB2⟩
             case measure => simp [intOf]; omega
            ·have HOK : Hid (u.ok q t = false) := Lib.hid (ok_bad (txt_ne htx));have hbt := txt_nel htx;rw [hw] at g0;clear hw htx f1 f2 g2 g3;go_upto_region 14 with fail
             go_quiet (fail)
             have hB2 := below_drewN hB nq;generalize wr.drewN nq = wq at hB2 ⊢;clear f0 g0 g1 hB;go_wp2_with fail;go_roundw
             case rel => exact ⟨k + 1, false, by omega, by go_num, rfl, Lib.hid (by rw [HU.out, HOK.out]), Lib.hid (fun h => by cases h), hB2⟩
             case measure => simp [intOf]; omega
           ·have HOK : Hid (u.ok q t = false) := Lib.hid (by unfold Vt.ok; simp [hw]);have hd : decide (u.who = q.id) = false := decide_eq_false hw;clear f1 f2 g2 g3;go_upto_region 14 with fail;have hd : decide (u.who = q.id) = false := decide_eq_false hw
            go_quiet (fail)
            have hB2 := below_drewN hB nq;generalize wr.drewN nq = wq at hB2 ⊢;clear f0 g0 g1 hB;go_wp2_with fail;go_roundw
            case rel => exact ⟨k + 1, false, by omega, by go_num, rfl, Lib.hid (by rw [HU.out, HOK.out]), Lib.hid (fun h => by cases h), hB2⟩
            case measure => simp [intOf]; omega
      ·have hkm' : ((k : Int) < (m : Int)) = False := by simp only [eq_iff_iff, iff_false]; omega
       have hkm2 : k = m := by omega
       have HAN : Hid ((firstB ms i q && vs.any (·.ok q t)) = v) := Lib.hid (by
        have hv := HVK.out;rw [List.take_of_length_le (by omega)] at hv;rw [← HF.out, ← hv]
        cases b with
        | true => rfl
        | false =>
          have h0 := HB0.out rfl;have hvs : vs = [] := List.length_eq_zero_iff.1 (by omega)
          rw [hv, hvs]; rfl)
       clear hkm2
       cases v with
       | false =>
         have HS : Hid (x = sumI (addsI ms vs t) (i + 1)) := Lib.hid (by
          show x = sumI (addsI ms vs t) i + addsI ms vs t i;rw [← HX.out];unfold addsI;rw [HQ.out];dsimp only;rw [show (firstB ms i q && goodW q && vs.any (·.ok q t)) = false by have := HAN.out; revert this; cases firstB ms i q <;> cases goodW q <;> cases vs.any (·.ok q t) <;> simp]
          simp)
         clear f0 f1 f2;go_wp2_with fail;go_roundw
         case rel => exact ⟨i + 1, x, by omega, by go_num, rfl, HS, by omega, hB⟩
         case measure => simp [intOf]; omega
       | true =>
         by_cases hw1 : q.wt < 1
         ·have HGW : Hid (goodW q = false) := Lib.hid (by unfold goodW; rw [decide_eq_false (by omega)]; rfl);have hw1' : (1 ≤ q.wt) = False := by simp only [eq_iff_iff, iff_false]; omega
          have HS : Hid (x = sumI (addsI ms vs t) (i + 1)) := Lib.hid (by
           show x = sumI (addsI ms vs t) i + addsI ms vs t i;rw [← HX.out];unfold addsI;rw [HQ.out];dsimp only;rw [show (firstB ms i q && goodW q && vs.any (·.ok q t)) = false by have := HGW.out; rw [this]; simp]
           simp)
          clear f0 f2;go_wp2_with fail;go_roundw
          case rel => exact ⟨i + 1, x, by omega, by go_num, rfl, HS, by omega, hB⟩
          case measure => simp [intOf]; omega
         ·by_cases hw2 : 20 < q.wt
          ·have HGW : Hid (goodW q = false) := Lib.hid (by unfold goodW; rw [decide_eq_false (p := q.wt ≤ 20) (by omega)]; simp);have hw2' : (q.wt ≤ 20) = False := by simp only [eq_iff_iff, iff_false]; omega
           have hw1' : 1 ≤ q.wt := by omega
           have HS : Hid (x = sumI (addsI ms vs t) (i + 1)) := Lib.hid (by
            show x = sumI (addsI ms vs t) i + addsI ms vs t i;rw [← HX.out];unfold addsI;rw [HQ.out];dsimp only;rw [show (firstB ms i q && goodW q && vs.any (·.ok q t)) = false by have := HGW.out; rw [this]; simp]
            simp)
           clear f0 f2;go_wp2_with fail;go_roundw
           case rel => exact ⟨i + 1, x, by omega, by go_num, rfl, HS, by omega, hB⟩
           case measure => simp [intOf]; omega
          ·have HS : Hid (x + q.wt = sumI (addsI ms vs t) (i + 1)) := Lib.hid (by
            show x + q.wt = sumI (addsI ms vs t) i + addsI ms vs t i;rw [← HX.out];unfold addsI;rw [HQ.out];dsimp only;have h := HAN.out;rw [Bool.and_eq_true] at h;rw [h.1, h.2, goodW_iff.2 ⟨by omega, by omega⟩]
            rfl)
           have hw1' : 1 ≤ q.wt := by omega
           have hw2' : q.wt ≤ 20 := by omega
           have hws : IntKind.i64.wrap (x + q.wt) = x + q.wt := IntWalk.i64_in _ (by omega);clear f0 f2;go_wp2_with fail;go_roundw
           case rel => exact ⟨i + 1, x + q.wt, by omega, by go_num, rfl, HS, by omega, hB⟩
           case measure => simp [intOf]; omega
  ·obtain rfl : n = i := by omega
   have HX2 : Hid (x = weightI ms vs t) := Lib.hid (by rw [HX.out]; unfold weightI; rw [hl1]);go_wp2_with fail;go_ret;exact ⟨by rw [HX2.out]; rfl, hB⟩
theorem ChainIn.le {B B' : Nat} {w : World} {gs : List Gc} {xs : List Hc} {es : List Ep} {hs : List Hdr} (h : ChainIn B' w gs xs es hs) (hB : B ≤ B') : ChainIn B w gs xs es hs :=
 ⟨h.gl, fun i q e hq he => by
  obtain ⟨q1, q2, q3, q4, vs, q5, q6⟩ := h.g i q e hq he
  exact ⟨q1.le hB, q2.le hB, q3.le hB, q4.le hB, vs, q5.le hB, q6.len, fun i v l hv hl => (q6.one i v l hv hl).le hB⟩, h.hl, fun i x y hx hy => (h.h i x y hx hy).le hB⟩
theorem Made_lit (a b : Int) (ha : I64 a) (hb : I64 b) (w : World) :
 Calls Tryz.prog 13 #[.slice (some ⟨w.heap.size + 1 + 1, 0, none⟩) 2 2] (((w.alloc (.cells #[.int .i64 a] 3)).alloc (.cells #[.int .i64 b] 3)).alloc (.cells #[.slice (some ⟨w.heap.size, 0, none⟩) 1 1, .slice (some ⟨w.heap.size + 1, 0, none⟩) 1 1] 25)) (ChainPost 2 w) := by
 obtain ⟨W, hW⟩ := exq (((w.alloc (.cells #[.int .i64 a] 3)).alloc (.cells #[.int .i64 b] 3)).alloc (.cells #[.slice (some ⟨w.heap.size, 0, none⟩) 1 1, .slice (some ⟨w.heap.size + 1, 0, none⟩) 1 1] 25));have k1 : Blk W w.heap.size 3 #[.int .i64 a] := by rw [hW]; exact ((Blk.new _ _ _).alloc _).alloc _
 have k2 : Blk W (w.heap.size + 1) 3 #[.int .i64 b] := by
  rw [hW];have := (Blk.new (w.alloc (.cells #[.int .i64 a] 3)) 3 #[.int .i64 b]).alloc (.cells #[.slice (some ⟨w.heap.size, 0, none⟩) 1 1, .slice (some ⟨w.heap.size + 1, 0, none⟩) 1 1] 25);rwa [World.size_alloc] at this
 have k3 : Blk W (w.heap.size + 1 + 1) 25 #[.slice (some ⟨w.heap.size, 0, none⟩) 1 1, .slice (some ⟨w.heap.size + 1, 0, none⟩) 1 1] := by
  rw [hW];have := Blk.new ((w.alloc (.cells #[.int .i64 a] 3)).alloc (.cells #[.int .i64 b] 3)) 25 #[.slice (some ⟨w.heap.size, 0, none⟩) 1 1, .slice (some ⟨w.heap.size + 1, 0, none⟩) 1 1];rwa [World.size_alloc, World.size_alloc] at this
 have hB : Below w.heap.size w W := by rw [hW]; exact below_al (below_al (below_al (Below.refl _ _) _) _) _
 rw [← hW];have r1 : RowI W (some ⟨w.heap.size, 0, none⟩) 1 1 [a] := rowI_new (xs := [a]) k1 rfl;have r2 : RowI W (some ⟨w.heap.size + 1, 0, none⟩) 1 1 [b] := rowI_new (xs := [b]) k2 rfl;have r3 : RowV W (some ⟨w.heap.size + 1 + 1, 0, none⟩) 2 2 [.slice (some ⟨w.heap.size, 0, none⟩) 1 1, .slice (some ⟨w.heap.size + 1, 0, none⟩) 1 1] := by
  refine ⟨rfl, Nat.le_refl _, fun _ => ⟨_, 0, rfl, fun j i x u hx hu => ?_⟩⟩;have hi : i < 1 := (List.getElem?_eq_some_iff.1 hu).1;obtain rfl : i = 0 := by omega
  obtain rfl : x = u := Option.some.inj hu;have hj : j < 2 := (List.getElem?_eq_some_iff.1 hx).1
  rcases (show j = 0 ∨ j = 1 by omega) with rfl | rfl
  ·exact (k3.cell 0).trans hx
  ·exact (k3.cell 1).trans hx
 have r4 : RowsI W [.slice (some ⟨w.heap.size, 0, none⟩) 1 1, .slice (some ⟨w.heap.size + 1, 0, none⟩) 1 1] [[a], [b]] := by
  refine ⟨rfl, fun i v l hv hl => ?_⟩;have hi : i < 2 := (List.getElem?_eq_some_iff.1 hv).1
  rcases (show i = 0 ∨ i = 1 by omega) with rfl | rfl
  ·cases hv; cases hl; exact ⟨_, 1, rfl, r1⟩
  ·cases hv; cases hl; exact ⟨_, 1, rfl, r2⟩
 have hI : ∀ l ∈ [[a], [b]], (∀ x ∈ l, I64 x) ∧ l.length ≤ 9223372036854775807 := fun l hl => by
  simp only [List.mem_cons, List.not_mem_nil, or_false] at hl
  rcases hl with rfl | rfl
  ·exact ⟨fun x hx => by rw [List.mem_singleton.1 hx]; exact ha, by simp⟩
  ·exact ⟨fun x hx => by rw [List.mem_singleton.1 hx]; exact hb, by simp⟩
 refine (Made_q (some ⟨w.heap.size + 1 + 1, 0, none⟩) 2 2 _ [[a], [b]] (by omega) (fun l hl => (hI l hl).1) (fun l hl => (hI l hl).2) W r3 r4).mono ?_;rintro e w' ⟨vG, vH, gs, ys, es, hs, K, rfl, h1, h2, h3, h4, h5, h6⟩;exact ⟨vG, vH, gs, ys, es, hs, K, rfl, h1.le hB.size, h2.le hB.size, h3.le hB.size, h4, h5, below_then hB h6⟩
end Go.Proofs.YtkpinmejfdnhbaaGreatDoor
