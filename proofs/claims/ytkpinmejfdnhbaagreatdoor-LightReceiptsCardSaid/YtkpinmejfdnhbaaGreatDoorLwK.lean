/- Joined by a program: LkA, LkB, LkC, LkE, LkF. -/
import Derived.Test.YtkpinmejfdnhbaaGreatDoorLwJ
import Derived.Maps.OwnSet
import Derived.Maps.OwnIn
import Derived.Lib.SliceRun
import Derived.BigRegion
set_option maxRecDepth 100000
set_option maxHeartbeats 4000000
namespace Go.Proofs.YtkpinmejfdnhbaaGreatDoor
open Go.RowKit Go.Shelf
attribute [local go_sem] Oper.semAt_some
theorem Most_q (n : Nat) (hn : n ≤ 1000000) : RetS 219 #[.int .i64 (n : Int)] (.int .i64 ((mostN n : Nat) : Int)) := by
 intro w;unfold mostN
 by_cases h : n < 1
 ·have h' : (n : Int) < 1 := by omega
  rw [if_pos h];go_enter Tryz.func219, Tryz.ntmps219;go_wp2_with fail;go_ret;exact ⟨rfl, rfl⟩
 ·have h' : ¬ (n : Int) < 1 := by omega
  rw [if_neg h];obtain ⟨m, hm, hm2⟩ : ∃ m : Nat, (n : Int) - 1 = (m : Int) ∧ m = n - 1 := ⟨n - 1, by omega, rfl⟩;obtain ⟨q, hq, hq2⟩ : ∃ q : Nat, (m : Int).tdiv 3 = (q : Int) ∧ q = m / 3 := ⟨m / 3, by rw [Int.tdiv_eq_ediv_of_nonneg (by omega)]; omega, rfl⟩;rw [← hm2, ← hq2];have hq3 : (m : Int) / 3 = (q : Int) := by omega
  clear hq2 hm2;go_enter Tryz.func219, Tryz.ntmps219;go_wp2_with fail;go_ret;exact ⟨rfl, rfl⟩
theorem Need_q (n : Nat) (hn : n ≤ 1000000) : RetS 176 #[.int .i64 (n : Int)] (.int .i64 ((needN n : Nat) : Int)) := by
 intro w;have m1 := Lib.hid (Most_q n hn)
 by_cases h : n < 1
 ·have h' : (n : Int) < 1 := by omega
  have e : needN n = 0 := if_pos h;rw [e];go_enter Tryz.func176, Tryz.ntmps176;go_wp2_with fail;go_ret;exact ⟨rfl, rfl⟩
 ·have h' : ¬ (n : Int) < 1 := by omega
  rw [need_most h];have hm : mostN n ≤ 1000000 := by unfold mostN; split <;> omega
  generalize mostN n = m at *;go_enter Tryz.func176, Tryz.ntmps176;go_wp2_with (go_at_call 219; (with_reducible refine (m1.out _).mono ?_); rintro e w2 ⟨rfl, hww⟩; obtain rfl := hww.symm);go_ret;exact ⟨by go_num, rfl⟩
theorem Right_q (A1 A2 : Option Addr) (n c1 m c2 : Nat) (cs : List Int) (vs : List Value) (ls : List (List Int)) (hn : n ≤ 1000) (hm : m ≤ 1000) (hl : ∀ l ∈ ls, l.length ≤ 1000) (hI : ∀ x ∈ cs, I64 x) (hIl : ∀ l ∈ ls, ∀ x ∈ l, I64 x) (w : World) (hc : RowI w A1 n c1 cs) (hv : RowV w A2 m c2 vs) (hr : RowsI w vs ls) :
 Calls Tryz.prog 111 #[.agg #[.slice A1 n c1, .slice A2 m c2]] w fun e w' => e = .returned (.bool (keysB cs ls)) ∧ Below w.heap.size w w' := by
 have hlen := hv.len;have hrl := hr.len;have hcl := hc.len;have HL := Lib.hid (And.intro hl hIl);have HV := Lib.hid (And.intro hv (And.intro hr hc));have HIC := Lib.hid hI;have HR : Hid (consecO 1 (ls.drop 0) = consecO 1 ls) := Lib.hid rfl;clear hv hr hl hc hI hIl;go_enter Tryz.func111, Tryz.ntmps111;go_upto_region 1 with fail;refine name1p ?_;intro W0 k1 hB;obtain ⟨p, hp⟩ := exq w.heap.size;rw [← hp] at k1 ⊢;clear hp;have a0 : W0.cell? ⟨p, 0, none⟩ = some (.slice A1 n c1) := k1.cell 0;have a1 : W0.cell? ⟨p, 1, none⟩ = some (.slice A2 m c2) := k1.cell 1;have HW := Lib.hid (HV.out.1.below hB);have HI := Lib.hid (HV.out.2.1.below hB);have HC := Lib.hid (HV.out.2.2.below hB);have HB := Lib.hid hB;clear hB HV;go_wp2_with fail
 go_loop [3, 14] (fun s3 s4 => ∃ i x : Nat, i ≤ m ∧ x ≤ 1000 * i ∧ s4 = .int .i64 (i : Int) ∧ s3 = .int .i64 ((x + 1 : Nat) : Int) ∧ Hid (consecO (x + 1) (ls.drop i) = consecO 1 ls)) (fun _ s4 => m - (intOf s4).toNat)
 case atStart => exact ⟨0, 0, by omega, by omega, rfl, rfl, HR⟩
 case round =>
  clear HR;obtain ⟨i, x, hi, hx, rfl, rfl, HX⟩ := hrel
  by_cases hlt : i < m
  ·have hlt' : (i : Int) < (m : Int) := by omega
   obtain ⟨b, o, v, rfl, hv, cv⟩ := RowV.get HW.out hlt;have hls : ls[i]? = some ls[i] := List.getElem?_eq_getElem (by omega);obtain ⟨A, c, rfl, hri⟩ := HI.out.one i v _ hv hls;have hll := HL.out.1 ls[i] (List.getElem_mem _);have hIi := Lib.hid (HL.out.2 ls[i] (List.getElem_mem _));have HD : Hid (ls.drop i = ls[i] :: ls.drop (i + 1)) := Lib.hid (drop_cons' hls);clear hls hv;obtain ⟨l, hle⟩ := exq (ls[i]);rw [← hle] at HD hll hIi cv hri;clear hle;have HRI := Lib.hid hri;clear hri
   by_cases h0 : l.length = 0
   ·have hnil : l = [] := List.length_eq_zero_iff.1 h0;have hk : keysB cs ls = false := keys_none (by rw [← HX.out, HD.out]; exact consec_none (.inl hnil));rw [h0] at cv;go_wp2_with fail;go_ret;exact ⟨rfl, HB.out⟩
   ·have h0' : ¬ (l.length : Int) = 0 := by omega
    obtain ⟨L, hL⟩ := exq l.length;rw [← hL] at hll h0' cv;have HRI2 : Hid (RowI W0 A L c l) := Lib.hid (by rw [hL]; exact HRI.out);have HLL := Lib.hid hL;clear HRI h0 hL;go_wp2_with fail
    go_loop [3, 23] (fun s3 s5 => ∃ j : Nat, j ≤ L ∧ s5 = .int .i64 (j : Int) ∧ s3 = .int .i64 ((x + j + 1 : Nat) : Int) ∧ Hid (l.take j = runZ (x + 1) j)) (fun _ s5 => L - (intOf s5).toNat)
    case atStart => exact ⟨0, by omega, rfl, rfl, Lib.hid rfl⟩
    case round =>
     obtain ⟨j, hj, rfl, rfl, HJ⟩ := hrel
     by_cases hltj : j < L
     ·have hltj' : (j : Int) < (L : Int) := by omega
      obtain ⟨b', o', y, rfl, hy, cy⟩ := RowI.get HRI2.out hltj;have hyI := hIi.out y (List.mem_of_getElem? hy);obtain ⟨z, hz⟩ := exq (x + j);rw [← hz];have hzb : z ≤ 2000000 := by omega
      by_cases he : y = ((z + 1 : Nat) : Int)
      ·have HJ2 : Hid (l.take (j + 1) = runZ (x + 1) (j + 1)) := Lib.hid (take_ext HJ.out hy (by rw [he, hz]; congr 1; omega));have he' : y = (z : Int) + 1 := by omega
       subst he';clear hy he;go_wp2_with fail;go_round
       case rel => exact ⟨j + 1, by omega, by go_num, by rw [show x + (j + 1) = z + 1 by omega]; go_num, HJ2⟩
       case measure => simp [intOf]; omega
      ·have hk : keysB cs ls = false := keys_none (by rw [← HX.out, HD.out]; exact consec_none (.inr (run_bad hy (by intro e; apply he; rw [e, hz]; congr 1; omega))));have he' : ¬ y = (z : Int) + 1 := by omega
       clear hy he;go_wp2_with fail;go_ret;exact ⟨rfl, HB.out⟩
     ·obtain rfl : L = j := by omega
      have HX2 : Hid (consecO (x + L + 1) (ls.drop (i + 1)) = consecO 1 ls) := Lib.hid (by
       have hLl := HLL.out;have hf : l = runZ (x + 1) l.length := by
        have := HJ.out;rw [List.take_of_length_le (by omega)] at this;rw [← hLl]; exact this
       rw [← HX.out, HD.out, consec_cons (by intro e; rw [e] at hLl; simp at hLl; omega) hf, ← hLl, show x + L + 1 = x + 1 + L by omega])
      go_wp2_with fail;go_round
      case rel => exact ⟨i + 1, x + L, by omega, by omega, by go_num, rfl, HX2⟩
      case measure => simp [intOf]; omega
  ·obtain rfl : m = i := by omega
   have hR : consecO 1 ls = some (x + 1) := by rw [← HX.out, List.drop_of_length_le (by omega)]; rfl
   have HK := Lib.hid (keys_some (cs := cs) hR);clear hR;have p1 := Lib.hid (Need_q x (by omega));obtain ⟨N, hN⟩ := exq (needN x);rw [← hN] at p1;have HN := Lib.hid hN;have hN2 : N ≤ 1000000 := by rw [hN]; unfold needN; split <;> omega
   clear hN
   by_cases hx1 : x < 1
   ·have hk : keysB cs ls = false := by rw [HK.out, decide_eq_false (by omega)]; rfl
    have hx1' : (x : Int) < 1 := by omega
    go_upto_region 16 with fail
    go_quiet (first
     | (go_at_call 176; with_reducible exact Calls.quiet_of_same (p1.out _)))
    have hB2 := below_drewN HB.out nq;generalize W0.drewN nq = wq at hB2 ⊢;go_wp2_with fail;go_ret;exact ⟨rfl, hB2⟩
   ·have hx1' : ¬ (x : Int) < 1 := by omega
    by_cases hx60 : 60 < x
    ·have hk : keysB cs ls = false := by rw [HK.out, decide_eq_false (p := x ≤ 60) (by omega)]; simp
     have hx60' : 60 < (x : Int) := by omega
     go_upto_region 16 with fail
     go_quiet (first
      | (go_at_call 176; with_reducible exact Calls.quiet_of_same (p1.out _)))
     have hB2 := below_drewN HB.out nq;generalize W0.drewN nq = wq at hB2 ⊢;go_wp2_with fail;go_ret;exact ⟨rfl, hB2⟩
    ·have hx60' : ¬ 60 < (x : Int) := by omega
     by_cases hnn : n = N
     ·have hk : keysB cs ls = cs.all memB := by
       rw [HK.out, decide_eq_true (p := 1 ≤ x) (by omega), decide_eq_true (p := x ≤ 60) (by omega), decide_eq_true (p := cs.length = needN x) (by rw [hcl, ← HN.out]; exact hnn)]
       rfl
      have hkk := Lib.hid hk;clear hk p1;have p1 := Lib.hid (Need_q x (by omega));rw [← HN.out, ← hnn] at p1;clear hnn HN;go_upto_region 16 with fail
      go_quiet (first
       | (go_at_call 176; with_reducible exact Calls.quiet_of_same (p1.out _)))
      have hB2 := Lib.hid (below_drewN HB.out nq);have b0 : (W0.drewN nq).cell? ⟨p, 0, none⟩ = some (.slice A1 n c1) := a0;have HC2 : Hid (RowI (W0.drewN nq) A1 n c1 cs) := Lib.hid (HC.out.below (below_drewN (Below.refl W0.heap.size W0) nq));have HM : Hid ((cs.drop 0).all memB = cs.all memB) := Lib.hid rfl;clear a0 a1;generalize W0.drewN nq = wq at hB2 b0 HC2 ⊢;clear p1 HK HX HC HI HW;go_wp2_with fail
      go_loopw [53] (fun s6 wr => ∃ k : Nat, k ≤ n ∧ s6 = .int .i64 (k : Int) ∧ Hid ((cs.drop k).all memB = cs.all memB) ∧ Below w.heap.size w wr ∧ RowI wr A1 n c1 cs) (fun s6 _ => n - (intOf s6).toNat)
      case atStart => exact ⟨0, by omega, rfl, HM, hB2.out, HC2.out⟩
      case round =>
       clear HM hB2 HC2;obtain ⟨k, hk, rfl, HM, hB2, hC2⟩ := hrel
       by_cases hlt : k < n
       ·have hlt' : (k : Int) < (n : Int) := by omega
        obtain ⟨b, o, y, rfl, hy, cy⟩ := RowI.get hC2 hlt;have hyI := HIC.out y (List.mem_of_getElem? hy);have q1 := Lib.hid (Member_q y hyI.1 hyI.2);have HS : Hid ((cs.drop k).all memB = (memB y && (cs.drop (k + 1)).all memB)) := Lib.hid (by rw [drop_cons' hy]; rfl);clear hy hyI;obtain ⟨q, hq⟩ := exq (memB y);rw [← hq] at q1 HS;clear hq
        cases q
        ·have HE : Hid (cs.all memB = false) := Lib.hid (by rw [← HM.out, HS.out]; rfl)
         go_wp2_with (first
          | (go_at_call 177; (with_reducible refine (q1.out _).mono ?_); rintro e wa ⟨rfl, hb⟩; replace hB2 := below_then hB2 hb; clear hb))
         go_ret;exact ⟨by rw [hkk.out, HE.out]; rfl, hB2⟩
        ·have HM2 : Hid ((cs.drop (k + 1)).all memB = cs.all memB) := Lib.hid (by rw [← HM.out, HS.out]; rfl)
         go_wp2_with (first
          | (go_at_call 177; (with_reducible refine (q1.out _).mono ?_); rintro e wa ⟨rfl, hb⟩; replace hB2 := below_then hB2 hb; replace hC2 := hC2.below hb; clear hb cy))
         go_roundw
         case rel => exact ⟨k + 1, by omega, by go_num, HM2, hB2, hC2⟩
         case measure => simp [intOf]; omega
       ·obtain rfl : n = k := by omega
        have HE : Hid (cs.all memB = true) := Lib.hid (by rw [← HM.out, List.drop_of_length_le (by omega)]; rfl);go_wp2_with fail;go_ret;exact ⟨by rw [hkk.out, HE.out]; rfl, hB2⟩
     ·have hk : keysB cs ls = false := by rw [HK.out, decide_eq_false (p := cs.length = needN x) (by rw [hcl, ← HN.out]; exact hnn)]; simp
      have hnn' : ¬ (n : Int) = (N : Int) := by omega
      go_upto_region 16 with fail
      go_quiet (first
       | (go_at_call 176; with_reducible exact Calls.quiet_of_same (p1.out _)))
      have hB2 := below_drewN HB.out nq;generalize W0.drewN nq = wq at hB2 ⊢;go_wp2_with fail;go_ret;exact ⟨rfl, hB2⟩
end Go.Proofs.YtkpinmejfdnhbaaGreatDoor
namespace Go.Proofs.YtkpinmejfdnhbaaGreatDoor
open Go.RowKit Go.Shelf
open Go.Maps (Keyed IsMap has)
theorem int_law : Keyed Tryz.prog 3 := Maps.int_keyed Tryz.underlying3
theorem wf_i64 {k : Int} (h : I64 k) : (Lit.int .i64 k).wf = true := by
 have h1 := h.1;have h2 := h.2;have hm : IntKind.i64.min = -9223372036854775808 := by decide
 have hx : IntKind.i64.max = 9223372036854775807 := by decide
 show (decide (IntKind.i64.min ≤ k) && decide (k ≤ IntKind.i64.max)) = true;rw [hm, hx, decide_eq_true h1, decide_eq_true h2]
 rfl
theorem lit_i64 (k : Int) : WideAt.IsKeyLit (.int .i64 k) := trivial
theorem key_i64 {k : Int} (h : I64 k) : keyOf Tryz.prog 3 (.int .i64 k) = some (.int .i64 k) := Maps.keyOf_int_mk Tryz.underlying3 (wf_i64 h)
def rBool : Value → Option (DataW Unit × List MemPlace)
 | .bool x => some (.lit (.bool x), [])
 | _ => none
def SetB (w : World) (b n : Nat) (f : Int → Bool) : Prop := ∃ D : DataW Unit, w.ownsMap Tryz.prog 3 rBool b n D ∧ ∀ k : Int, I64 k → D.atKey (.int .i64 k) (.lit (.bool false)) = .lit (.bool (f k))
theorem SetB.new (w : World) : SetB (w.alloc (.map #[] 0)) w.heap.size 0 (fun _ => false) := ⟨.map [], World.ownsMap_made w _ _ _, fun _ _ => rfl⟩
theorem SetB.kept {w w' : World} {b n : Nat} {f : Int → Bool} {row : Option Nat} (h : SetB w b n f) (hg : w.grownBy w' row) (hne : some b ≠ row) : SetB w' b n f :=
 let ⟨D, h1, h2⟩ := h
 ⟨D, h1.kept hg hne, h2⟩
theorem SetB.below {w w' : World} {b n : Nat} {f : Int → Bool} (h : SetB w b n f) (hb : Below w.heap.size w w') : SetB w' b n f := h.kept (grown_of_below hb none) (by simp)
theorem SetB.lt {w : World} {b n : Nat} {f : Int → Bool} (h : SetB w b n f) : b < w.heap.size := let ⟨_, h1, _⟩ := h; h1.lt
theorem SetB.congr {w : World} {b n : Nat} {f g : Int → Bool} (h : SetB w b n f) (e : ∀ k, f k = g k) : SetB w b n g := by
 obtain rfl : f = g := funext e;exact h
theorem SetB.look {w : World} {b n : Nat} {f : Int → Bool} (h : SetB w b n f) {k : Int} (hk : I64 k) :
 (Instr.lookup 201 (.map (some b)) (.int .i64 k) false).run Tryz.prog w = .ok (.bool (f k)) w := by
 obtain ⟨D, h1, h2⟩ := h;obtain ⟨v, ps, hrun, hv⟩ := h1.lookup int_law Tryz.underlying201 (Tryz.zeroValue4 w) (zd := .lit (.bool false)) (zp := []) rfl (key_i64 hk);rw [h2 k hk] at hv;rw [hrun]
 cases v <;> simp [rBool] at hv
 obtain ⟨rfl, -⟩ := hv
 rfl
theorem SetB.put {w : World} {b n : Nat} {f : Int → Bool} (h : SetB w b n f) (hn : n < 1000000) {k : Int} (hk : I64 k) (x : Bool) :
 ∃ w', (Instr.mapUpdate 201 (.map (some b)) (.int .i64 k) (.bool x)).run Tryz.prog w = .ok () w' ∧ SetB w' b (n + 1) (fun y => if y = k then x else f y) ∧ w.grownBy w' (some b) := by
 obtain ⟨D, h1, h2⟩ := h;obtain ⟨w', hrun, ho, hg⟩ := h1.update int_law Tryz.underlying201 (by unfold maxLen; omega) (key_i64 hk) (val := .bool x) (d := .lit (.bool x)) (ps := []) rfl;refine ⟨w', hrun, ⟨_, ho, fun y hy => ?_⟩, hg⟩
 by_cases e : y = k
 ·subst e;rw [Maps.atKey_put_same h1.isMap (lit_i64 _)];dsimp only;rw [if_pos rfl]
 ·rw [Maps.atKey_put_other (by intro e2; injection e2 with _ e3; exact e e3)];dsimp only;rw [if_neg e];exact h2 y hy
/-! ### members by their numbers -/
def memA (m : Mem) : Array Value := #[.int .i64 m.id, .int .i64 m.wt, .int .i64 m.pub]
def memD (m : Mem) : DataW Unit := .agg [.lit (.int .i64 m.id), .lit (.int .i64 m.wt), .lit (.int .i64 m.pub)]
def rMem : Value → Option (DataW Unit × List MemPlace)
 | .agg cs => match cs.toList with
   | [.int .i64 a, .int .i64 b, .int .i64 c] => some (memD ⟨a, b, c⟩, [])
   | _ => none
 | _ => none
theorem rMem_inv {v : Value} {m : Mem} {ps : List MemPlace} (h : rMem v = some (memD m, ps)) : v = .agg (memA m) := by
 unfold rMem at h
 split at h
 ·rename_i cs
  split at h
  ·rename_i a b c e
   simp only [Option.some.injEq, Prod.mk.injEq, memD, DataW.agg.injEq, List.cons.injEq, DataW.lit.injEq, Lit.int.injEq, true_and, and_true] at h;obtain ⟨⟨h1, h2, h3⟩, -⟩ := h;subst h1 h2 h3;have : cs = memA m := Array.toList_inj.1 (by rw [e]; rfl);rw [this]
  ·cases h
 ·cases h
def MapM (w : World) (b n : Nat) (f : Int → Option Mem) : Prop := ∃ D : DataW Unit, w.ownsMap Tryz.prog 3 rMem b n D ∧ ∀ k : Int, I64 k → (f k = none → has D (.int .i64 k) = false) ∧ ∀ m, f k = some m → has D (.int .i64 k) = true ∧ ∀ z, D.atKey (.int .i64 k) z = memD m
theorem MapM.new (w : World) : MapM (w.alloc (.map #[] 0)) w.heap.size 0 (fun _ => none) := ⟨.map [], World.ownsMap_made w _ _ _, fun _ _ => ⟨fun _ => rfl, fun m h => by cases h⟩⟩
theorem MapM.kept {w w' : World} {b n : Nat} {f : Int → Option Mem} {row : Option Nat} (h : MapM w b n f) (hg : w.grownBy w' row) (hne : some b ≠ row) : MapM w' b n f :=
 let ⟨D, h1, h2⟩ := h
 ⟨D, h1.kept hg hne, h2⟩
theorem MapM.below {w w' : World} {b n : Nat} {f : Int → Option Mem} (h : MapM w b n f) (hb : Below w.heap.size w w') : MapM w' b n f := h.kept (grown_of_below hb none) (by simp)
theorem MapM.lt {w : World} {b n : Nat} {f : Int → Option Mem} (h : MapM w b n f) : b < w.heap.size := let ⟨_, h1, _⟩ := h; h1.lt
theorem MapM.congr {w : World} {b n : Nat} {f g : Int → Option Mem} (h : MapM w b n f) (e : ∀ k, f k = g k) : MapM w b n g := by
 obtain rfl : f = g := funext e;exact h
theorem MapM.look_none {w : World} {b n : Nat} {f : Int → Option Mem} (h : MapM w b n f) {k : Int} (hk : I64 k) (hf : f k = none) :
 ∃ z : Mem, (Instr.lookup 232 (.map (some b)) (.int .i64 k) true).run Tryz.prog w = .ok (.tuple #[.agg (memA z), .bool false]) w := by
 obtain ⟨D, h1, h2⟩ := h;obtain ⟨v, ps, hrun, hv⟩ := h1.look_ok int_law Tryz.underlying232 (Tryz.zeroValue61 w) (zd := memD ⟨0, 0, 0⟩) (zp := []) rfl (key_i64 hk);have h3 := (h2 k hk).1 hf;rw [h3] at hrun;rw [Maps.atKey_of_not_has h3] at hv;exact ⟨⟨0, 0, 0⟩, by rw [hrun, rMem_inv hv]⟩
theorem MapM.look_some {w : World} {b n : Nat} {f : Int → Option Mem} (h : MapM w b n f) {k : Int} (hk : I64 k) {m : Mem} (hf : f k = some m) :
 (Instr.lookup 232 (.map (some b)) (.int .i64 k) true).run Tryz.prog w = .ok (.tuple #[.agg (memA m), .bool true]) w := by
 obtain ⟨D, h1, h2⟩ := h;obtain ⟨v, ps, hrun, hv⟩ := h1.look_ok int_law Tryz.underlying232 (Tryz.zeroValue61 w) (zd := memD ⟨0, 0, 0⟩) (zp := []) rfl (key_i64 hk);obtain ⟨h3, h4⟩ := (h2 k hk).2 m hf;rw [h3] at hrun;rw [h4] at hv;rw [hrun, rMem_inv hv]
theorem MapM.put {w : World} {b n : Nat} {f : Int → Option Mem} (h : MapM w b n f) (hn : n < 1000000) {k : Int} (hk : I64 k) (m : Mem) :
 ∃ w', (Instr.mapUpdate 232 (.map (some b)) (.int .i64 k) (.agg (memA m))).run Tryz.prog w = .ok () w' ∧ MapM w' b (n + 1) (fun y => if y = k then some m else f y) ∧ w.grownBy w' (some b) := by
 obtain ⟨D, h1, h2⟩ := h;obtain ⟨w', hrun, ho, hg⟩ := h1.update int_law Tryz.underlying232 (by unfold maxLen; omega) (key_i64 hk) (val := .agg (memA m)) (d := memD m) (ps := []) rfl;refine ⟨w', hrun, ⟨_, ho, fun y hy => ?_⟩, hg⟩
 by_cases e : y = k
 ·subst e;refine ⟨fun h => by simp at h, fun m' h => ?_⟩;simp only [if_pos, Option.some.injEq] at h;subst h;exact ⟨Maps.has_put_same h1.isMap (lit_i64 _) _, fun z => Maps.atKey_put_same h1.isMap (lit_i64 _) _ z⟩
 ·have hne : (Lit.int .i64 y) ≠ .int .i64 k := by intro e2; injection e2 with _ e3; exact e e3
  simp only [if_neg e];refine ⟨fun h => ?_, fun m' h => ?_⟩
  ·rw [Maps.has_put_other hne]; exact (h2 y hy).1 h
  ·obtain ⟨h3, h4⟩ := (h2 y hy).2 m' h;exact ⟨by rw [Maps.has_put_other hne]; exact h3, fun z => by rw [Maps.atKey_put_other hne]; exact h4 z⟩
end Go.Proofs.YtkpinmejfdnhbaaGreatDoor
namespace Go.Proofs.YtkpinmejfdnhbaaGreatDoor
open Go.RowKit Go.Shelf
attribute [local go_sem] Oper.semAt_some
def seenB (ms : List Mem) (k : Nat) (x : Int) : Bool := (ms.take k).any (·.id == x)
theorem seen_first {ms : List Mem} {k : Nat} {m : Mem} : seenB ms k m.id = !firstB ms k m := by
 unfold seenB firstB
 induction ms.take k with
 | nil => rfl
 | cons y l ih =>
   rw [List.any_cons, List.all_cons, Bool.not_and, ih]
   congr 1
   simp [bne]
theorem seen_succ {ms : List Mem} {k : Nat} {m : Mem} (h : ms[k]? = some m) (x : Int) : seenB ms (k + 1) x = (if x = m.id then true else seenB ms k x) := by
 unfold seenB;rw [List.take_add_one, h, Option.toList_some, List.any_append]
 by_cases e : x = m.id
 ·subst e; simp
 ·rw [if_neg e];have : (m.id == x) = false := by simp; exact fun h => e h.symm
  simp [this]
theorem right_no {ms : List Mem} {k : Nat} {m : Mem} (h : ms[k]? = some m) (hb : (goodW m && firstB ms k m) = false) : rightMems ms = false := by
 have : okB ms ms.length = false := by
  have hk := (List.getElem?_eq_some_iff.1 h).1;have h1 : okB ms (k + 1) = false := by rw [okB_succ h, hb]; simp
  cases h2 : okB ms ms.length
  ·rfl
  ·rw [okB_le (by omega) h2] at h1; cases h1
 unfold rightMems;rw [this]; simp
theorem flatV_set : ∀ (vs : List Value) (j : Nat) (u : Value), (vs.flatMap encV).set j u = (vs.set j u).flatMap encV
 | [], _, _ => rfl
 | v :: vs, 0, u => rfl
 | v :: vs, j + 1, u => by
   show (v :: vs.flatMap encV).set (j + 1) u = v :: (vs.set j u).flatMap encV;rw [List.set_cons_succ, flatV_set vs j u]
theorem OwnV.stored {B g n c : Nat} {w : World} {vs : List Value} (h : OwnV B w (.slice (some ⟨g, 0, none⟩) n c) vs) (j : Nat) (u : Value) (hn : n = vs.length) : OwnV B (w.setCell ⟨g, j, none⟩ u) (.slice (some ⟨g, 0, none⟩) n c) (vs.set j u) := by
 subst hn;have := World.ownsRow.stored h j u;unfold OwnV OwnL;rw [List.length_set, ← flatV_set];exact this.1
theorem OwnV.frozen {B g n c : Nat} {w : World} {vs : List Value} (h : OwnV B w (.slice (some ⟨g, 0, none⟩) n c) vs) (hn : n = vs.length) (j : Nat) : w.frozen? ⟨g, j, none⟩ = false := by
 subst hn;exact World.ownsRow.frozenAt h j
theorem OwnV.cell {B g n c : Nat} {w : World} {vs : List Value} (h : OwnV B w (.slice (some ⟨g, 0, none⟩) n c) vs) {j : Nat} {v : Value} (hx : vs[j]? = some v) : w.cell? ⟨g, j, none⟩ = some v := by
 have hr := OwnL.row_at h encV_len;obtain ⟨b, o, e, hc⟩ := hr.at_ (by rw [← hr.len]; have := (List.getElem?_eq_some_iff.1 hx).1; omega)
 cases e
 have := hc j 0 v v hx rfl
 simpa using this
theorem made_ints (n : Nat) (hn : n ≤ 100000) (w : World) : (Instr.makeSlice 29 (.int .i64 (n : Int)) (.int .i64 (n : Int))).run Tryz.prog w = .ok (.slice (some ⟨w.heap.size, 0, none⟩) n n) (w.alloc (.cells (List.replicate n (Value.slice none 0 0)).toArray 25)) := by
 have h := Go.run_make_row' (P := Tryz.prog) 29 25 (.slice none 0 0) 24 Tryz.underlying29 ints_info rfl .i64 .i64 n (by omega) (by omega) w;have hm : madeCells #[Value.slice none 0 0] n = (List.replicate n (Value.slice none 0 0)).toArray := by
  apply Array.ext
  ·simp [madeCells]
  ·intro j h1 h2
   simp [madeCells, Nat.mod_one]
 rw [h, hm]
theorem ownV_fresh {w : World} {k B n : Nat} (h : Blk w k 25 (List.replicate n (Value.slice none 0 0)).toArray) (hB : B ≤ k) (hn : n ≤ 1000000) : OwnV B w (.slice (some ⟨k, 0, none⟩) n n) (List.replicate n (Value.slice none 0 0)) := by
 have hf : ∀ n, (List.replicate n (Value.slice none 0 0)).flatMap encV = List.replicate n (Value.slice none 0 0) := fun n => by
  induction n with
  | zero => rfl
  | succ n ih => rw [List.replicate_succ, List.flatMap_cons, ih]; rfl
 unfold OwnV OwnL;rw [hf, List.length_replicate];exact ⟨by simp, .inr ⟨k, n, _, rfl, hB, h, Nat.le_refl _, by unfold maxLen; omega, by simp, by simp⟩⟩
theorem set_mid {α : Type} (a b : List α) (x y : α) : (a ++ x :: b).set a.length y = a ++ y :: b := by
 rw [List.set_append_right _ _ (Nat.le_refl _), Nat.sub_self]; rfl
theorem get_mid {α : Type} (a b : List α) (x : α) : (a ++ x :: b)[a.length]? = some x := by simp
theorem ListI.kept_lt {B Bi : Nat} {w w' : World} {vs : List Value} {ls : List (List Int)} (h : ListI B w vs ls) (hlt : ∀ v ∈ vs, ∀ j, v.ownBlock = some j → j < Bi) {row : Option Nat} (hg : w.grownBy w' row) (hr : ∀ j, row = some j → Bi ≤ j) : ListI B w' vs ls :=
 ⟨h.len, fun i v l hv hl => OwnL.kept (h.one i v l hv hl) hg (by
  cases hb : v.ownBlock with
  | none => exact .inl rfl
  | some j => exact .inr fun e => by have := hlt v (List.mem_of_getElem? hv) j hb; have := hr j e.symm; omega)⟩
theorem ListI.apart {B B2 : Nat} {w w' : World} {vs us : List Value} {ls : List (List Int)} {g n c : Nat} (h : ListI B w vs ls) (ho : OwnV B2 w (.slice (some ⟨g, 0, none⟩) n c) us) (hg : w.grownBy w' (some g)) : ListI B w' vs ls :=
 ListI.kept h ho hg
theorem Points_q (A : Option Addr) (n c : Nat) (ms : List Mem) (hn : n ≤ 9223372036854775807) (hI : I64M ms) (w : World) (hr : RowM w A n c ms) :
 Calls Tryz.prog 108 #[.slice A n c] w (PointsPost ms w) := by
 have hl := hr.len;have hB := Below.refl w.heap.size w;have HR := Lib.hid hr;have HI := Lib.hid hI;clear hr hI
 by_cases h1 : n < 1
 ·have hb : rightMems ms = false := by unfold rightMems; rw [decide_eq_false (by omega)]; rfl
  have h1' : (n : Int) < 1 := by omega
  go_enter Tryz.func108, Tryz.ntmps108;go_wp2_with fail;go_ret2;exact ⟨.slice none 0 0, [], by rw [hb]; rfl, OwnL.nil_ _ _ _ _ _, by rw [hb]; exact ListI.nil _ _, hB⟩
 ·have h1' : ¬ (n : Int) < 1 := by omega
  by_cases h13 : 13 < n
  ·have hb : rightMems ms = false := by unfold rightMems; rw [decide_eq_false (p := ms.length ≤ 13) (by omega)]; simp
   have h13' : 13 < (n : Int) := by omega
   go_enter Tryz.func108, Tryz.ntmps108;go_wp2_with fail;go_ret2;exact ⟨.slice none 0 0, [], by rw [hb]; rfl, OwnL.nil_ _ _ _ _ _, by rw [hb]; exact ListI.nil _ _, hB⟩
  ·have h13' : ¬ 13 < (n : Int) := by omega
   have hmm := @run_makeMap Tryz.prog;go_enter Tryz.func108, Tryz.ntmps108;go_wp2_with fail;clear hmm;obtain ⟨b, hb⟩ := exq w.heap.size;have hS0 := SetB.new w;have hB1 : Below w.heap.size w (w.alloc (.map #[] 0)) := below_al (Below.refl _ _) _;have hbB : w.heap.size ≤ b := by omega
   rw [← hb] at hS0 ⊢;clear hb hB
   go_loopw [5, 7, 23] (fun s5 _ s23 wr => ∃ i : Nat, i ≤ n ∧ s23 = .int .i64 (i : Int) ∧ s5 = .int .i64 (totW (ms.take i)) ∧ Hid (okB ms i = true) ∧ Hid (0 ≤ totW (ms.take i) ∧ totW (ms.take i) ≤ 20 * (i : Int)) ∧ SetB wr b i (seenB ms i) ∧ Below w.heap.size w wr) (fun _ _ s23 _ => n - (intOf s23).toNat)
   case atStart => exact ⟨0, by omega, rfl, rfl, Lib.hid rfl, Lib.hid ⟨Int.le_refl _, Int.le_refl _⟩, hS0, hB1⟩
   case round =>
    clear hS0 hB1;obtain ⟨i, hi, rfl, rfl, HO, HT, hS, hB⟩ := hrel;have hT := HT.out;obtain ⟨x, hx⟩ := exq (totW (ms.take i));rw [← hx] at hT ⊢;have HX := Lib.hid hx;clear hx HT
    by_cases hlt : i < n
    ·have hlt' : (i : Int) < (n : Int) := by omega
     obtain ⟨bb, o, m, rfl, hm, d0, d1, d2⟩ := RowM.get (HR.out.below hB) hlt;have hmi := HI.out m (List.mem_of_getElem? hm);have HM := Lib.hid hm;clear hm;go_upto_region 8 with fail;refine name1p ?_;intro W1 k7 hb7;have hbl := hS.lt;obtain ⟨p7, hp7⟩ : ∃ g, g = wr.heap.size := ⟨_, rfl⟩;rw [← hp7] at k7 hbl ⊢;clear hp7;replace hS := hS.below hb7;replace hB := below_then hB hb7;clear hb7 d0 d1 d2;have hlook := hS.look hmi.1;have e0 : W1.cell? ⟨p7, 0, none⟩ = some (.int .i64 m.id) := k7.cell 0;have e1 : W1.cell? ⟨p7, 1, none⟩ = some (.int .i64 m.wt) := k7.cell 1
     cases hsn : seenB ms i m.id with
     | true =>
       have hbr : rightMems ms = false := right_no HM.out (by
        rw [seen_first] at hsn;have : firstB ms i m = false := by simpa using hsn
        rw [this]; simp)
       rw [hsn] at hlook;go_wp2_with fail;go_ret2;exact ⟨.slice none 0 0, [], by rw [hbr]; rfl, OwnL.nil_ _ _ _ _ _, by rw [hbr]; exact ListI.nil _ _, hB⟩
     | false =>
       have hfi : firstB ms i m = true := by
        rw [seen_first] at hsn
        simpa using hsn
       rw [hsn] at hlook
       by_cases hw1 : m.wt < 1
       ·have hbr : rightMems ms = false := right_no HM.out (by
         have : goodW m = false := by unfold goodW; rw [decide_eq_false (by omega)]; rfl
         rw [this]; rfl)
        go_wp2_with fail;go_ret2;exact ⟨.slice none 0 0, [], by rw [hbr]; rfl, OwnL.nil_ _ _ _ _ _, by rw [hbr]; exact ListI.nil _ _, hB⟩
       ·by_cases hw2 : 20 < m.wt
        ·have hbr : rightMems ms = false := right_no HM.out (by
          have : goodW m = false := by unfold goodW; rw [decide_eq_false (p := m.wt ≤ 20) (by omega)]; simp
          rw [this]; rfl)
         go_wp2_with fail;go_ret2;exact ⟨.slice none 0 0, [], by rw [hbr]; rfl, OwnL.nil_ _ _ _ _ _, by rw [hbr]; exact ListI.nil _ _, hB⟩
        ·obtain ⟨w2, hput, hS2, hg2⟩ := hS.put (by omega) hmi.1 true;have k72 := k7.grown hg2 (fun e => by have := Option.some.inj e; omega);have e12 : w2.cell? ⟨p7, 1, none⟩ = some (.int .i64 m.wt) := k72.cell 1;have HO2 : Hid (okB ms (i + 1) = true) := Lib.hid (by rw [okB_succ HM.out, HO.out, hfi, goodW_iff.2 ⟨by omega, by omega⟩]; rfl);have HT2 : Hid (totW (ms.take (i + 1)) = x + m.wt) := Lib.hid (by rw [totW_take HM.out, HX.out]);have hB2 := hB.grown hg2 hB.size (fun j e => by cases e; exact hbB);have hS3 := hS2.congr (fun y => (seen_succ HM.out y).symm);have hw3 : IntKind.i64.wrap (x + m.wt) = x + m.wt := IntWalk.i64_in _ (by omega);clear hS hS2 hB hfi hsn;go_wp2_with fail;go_roundw
         case rel => exact ⟨i + 1, by omega, by go_num, by rw [HT2.out], HO2, Lib.hid (by rw [HT2.out]; omega), hS3, hB2⟩
         case measure => simp [intOf]; omega
    ·obtain rfl : n = i := by omega
     have hxt : x = totW ms := by rw [HX.out, List.take_of_length_le (by omega)]
     clear HX
     by_cases h60 : 60 < x
     ·have hbr : rightMems ms = false := by unfold rightMems; rw [decide_eq_false (p := totW ms ≤ 60) (by omega)]; simp
      go_wp2_with fail;go_ret2;exact ⟨.slice none 0 0, [], by rw [hbr]; rfl, OwnL.nil_ _ _ _ _ _, by rw [hbr]; exact ListI.nil _ _, hB⟩
     ·have hbr : rightMems ms = true := rightM_iff.2 ⟨by omega, by omega, by rw [hl]; exact HO.out, by omega⟩;have HBR := Lib.hid hbr;have hmk := made_ints n (by omega);clear HO hS hxt hbr;go_upto_region 16 with fail;refine name1p ?_;intro W1 kg hbg;clear hmk;obtain ⟨g, hg⟩ := exq wr.heap.size;have hgB : w.heap.size ≤ g := by have := hB.size; omega
      rw [← hg] at kg ⊢;have hov := ownV_fresh kg hgB (by omega);replace hB := below_then hB hbg;clear hg hbg kg;go_wp2_with fail
      go_loopw [9, 10, 11, 56] (fun s9 _ _ s56 wr => ∃ (i N : Nat) (ds : List Value), i ≤ n ∧ s56 = .int .i64 (i : Int) ∧ s9 = .int .i64 (N : Int) ∧ Hid (N = nextP 1 (ms.take i)) ∧ N ≤ 1 + 20 * i ∧ OwnV w.heap.size wr (.slice (some ⟨g, 0, none⟩) n n) (ds ++ List.replicate (n - i) (Value.slice none 0 0)) ∧ ds.length = i ∧ ListI w.heap.size wr ds (pointsL 1 (ms.take i)) ∧ Below w.heap.size w wr) (fun _ _ _ s56 _ => n - (intOf s56).toNat)
      case atStart => exact ⟨0, 1, [], by omega, rfl, rfl, Lib.hid rfl, by omega, hov, rfl, ListI.nil _ _, hB⟩
      case round =>
       clear hov hB;obtain ⟨i, N, ds, hi, rfl, rfl, HN, hN, hov, hdl, hD, hB⟩ := hrel
       by_cases hlt : i < n
       ·have hlt' : (i : Int) < (n : Int) := by omega
        obtain ⟨bb, o, m, rfl, hm, d0, d1, d2⟩ := RowM.get (HR.out.below hB) hlt;have HM := Lib.hid hm;have hwt := (rightM_iff.1 HBR.out).wt m (List.mem_of_getElem? hm);obtain ⟨t, ht⟩ : ∃ t : Nat, m.wt = (t : Int) := ⟨m.wt.toNat, by omega⟩;have ht20 : t ≤ 20 := by omega
        have hwt' : m.wt.toNat = t := by omega
        have HP : Hid (pointsL 1 (ms.take (i + 1)) = pointsL 1 (ms.take i) ++ [runZ N t]) := Lib.hid (by rw [pointsL_take hm, ← HN.out, hwt']);have HN2 : Hid (N + t = nextP 1 (ms.take (i + 1))) := Lib.hid (by rw [nextP_take hm, ← HN.out, hwt']);rw [ht] at d1;go_upto_region 20 with fail;refine name1p ?_;intro W1 k7 hb7;obtain ⟨p7, hp7⟩ : ∃ g, g = wr.heap.size := ⟨_, rfl⟩;obtain ⟨Bi, hBi⟩ : ∃ B, B = W1.heap.size := ⟨_, rfl⟩;have hp7i : p7 < Bi := by have := k7.lt; omega
        have hwi : w.heap.size ≤ Bi := by have := hB.size; have := hb7.size; omega
        have hcB : Bi ≤ W1.heap.size := by omega
        rw [← hp7] at k7 ⊢;replace hov := hov.below hb7;replace hD := hD.below hb7;have hgi : g < Bi := by have := own_lt hov g rfl; omega
        have hdlt : ∀ v ∈ ds, ∀ j, v.ownBlock = some j → j < Bi := fun v hv j e => by
         obtain ⟨q, hq, rfl⟩ := List.getElem_of_mem hv;have := own_lt (hD.one q _ ((pointsL 1 (ms.take i))[q]'(by have := hD.len; omega)) (List.getElem?_eq_getElem hq) (List.getElem?_eq_getElem _)) j e
         omega
        replace hB := below_then hB hb7;clear hp7 hb7 d0 d1 d2 hBi hm;have e1 : W1.cell? ⟨p7, 1, none⟩ = some (.int .i64 (t : Int)) := k7.cell 1;have hrep : ds ++ List.replicate (n - i) (Value.slice none 0 0) = ds ++ (Value.slice none 0 0) :: List.replicate (n - i - 1) (Value.slice none 0 0) := by
         rw [show n - i = (n - i - 1) + 1 by omega, List.replicate_succ]; simp
        rw [hrep] at hov;clear hrep k7 ht hwt' hwt;go_wp2_with fail;clear e1
        go_loopw [9, 63] (fun s9 s63 wr => ∃ (k : Nat) (v : Value), k ≤ t ∧ s63 = .int .i64 (k : Int) ∧ s9 = .int .i64 ((N + k : Nat) : Int) ∧ OwnI Bi wr v (runZ N k) ∧ OwnV w.heap.size wr (.slice (some ⟨g, 0, none⟩) n n) (ds ++ v :: List.replicate (n - i - 1) (Value.slice none 0 0)) ∧ ListI w.heap.size wr ds (pointsL 1 (ms.take i)) ∧ Bi ≤ wr.heap.size ∧ Below w.heap.size w wr) (fun _ s63 _ => t - (intOf s63).toNat)
        case atStart => exact ⟨0, _, by omega, rfl, rfl, OwnL.nil_ _ _ _ _ _, hov, hD, hcB, hB⟩
        case round =>
         clear hov hD hcB hB;obtain ⟨k, v, hk, rfl, rfl, ho, hov, hD, hcB, hB⟩ := hrel
         by_cases hltk : k < t
         ·have hltk' : (k : Int) < (t : Int) := by omega
          obtain ⟨Av, cv, hvv, -⟩ := OwnL.row ho encI_len;rw [runZ_len] at hvv;subst hvv;obtain ⟨Nk, hNk⟩ : ∃ q, q = N + k := ⟨_, rfl⟩;rw [← hNk];have hg0 := OwnV.cell hov (by rw [← hdl]; exact get_mid ds _ (.slice Av k cv));rw [hdl] at hg0;have hvl : (ds ++ Value.slice Av k cv :: List.replicate (n - i - 1) (Value.slice none 0 0)).length = n := by rw [List.length_append, List.length_cons, List.length_replicate]; omega
          have hrl : (runZ N k).length ≤ 100 := by rw [runZ_len]; omega
          have HRZ : Hid (runZ N (k + 1) = runZ N k ++ [(Nk : Int)]) := Lib.hid (by rw [runZ_succ, hNk]);have HVL := Lib.hid hvl;have HNK := Lib.hid hNk;clear hvl hNk;go_upto_region 22 with fail;refine wp_region_lit ?_;refine wpList_plain rfl fun K hK => ?_;go_simp;refine hK _ _ ?_;clear hK K
          try simp only [Act.put, pq1, pq2, pq3]
          refine wpList_plain rfl fun K hK => ?_;go_simp;refine hK _ _ ?_;clear hK K
          try simp only [Act.put, pq1, pq2, pq3]
          refine wpList_plain rfl fun K hK => ?_;go_simp;refine hK _ _ ?_;clear hK K
          try simp only [Act.put, pq1, pq2, pq3]
          refine wpList_plain rfl fun K hK => ?_;go_simp;refine hK _ _ ?_;clear hK K
          try simp only [Act.put, pq1, pq2, pq3]
          refine wpList_plain rfl fun K hK => ?_;go_simp;refine hK _ _ ?_;clear hK K
          try simp only [Act.put, pq1, pq2, pq3]
          refine wpList_plain rfl fun K hK => ?_;go_simp;refine hK _ _ ?_;clear hK K
          try simp only [Act.put, pq1, pq2, pq3]
          refine wpList_plain rfl fun K hK => ?_;go_simp;refine hK _ _ ?_;clear hK K
          try simp only [Act.put, pq1, pq2, pq3]
          refine wpList_plain rfl fun K hK => ?_;go_simp;refine hK _ _ ?_;clear hK K
          try simp only [Act.put, pq1, pq2, pq3]
          refine wp_append_row (enc := encI) Tryz.underlying25 int_info rfl (by decide) (by decide) rfl _ _ rfl (Nk : Int) rfl rfl (encI_one _) rfl ho rfl (by omega) hcB ?_;intro v6 w6 ho6 hg6;obtain ⟨A6, c6, hv6, -⟩ := OwnL.row ho6 encI_len;generalize (runZ N k ++ [(Nk : Int)]).length = m6 at hv6;subst hv6;have hov6 := OwnL.kept hov hg6 (rows_apart hov ho (by decide));have c9 : w6.cell? ⟨g, i, none⟩ = some (.slice Av k cv) := (by have := OwnV.cell hov6 (get_mid ds _ (.slice Av k cv)); rwa [hdl] at this);have f9 := OwnV.frozen hov6 HVL.out.symm i;go_wp2_with fail;have hvh := own_high ho;have hos := OwnV.stored hov6 i (.slice A6 m6 c6) HVL.out.symm;rw [← hdl, set_mid, hdl] at hos;have hgS := grown_set (grown_refl w6 (some g)) i (.slice A6 m6 c6);have hoi := OwnL.kept ho6 hgS (.inr (fun e => by have := own_high ho6 g e; omega));rw [← HRZ.out] at hoi;have hD6 := (hD.kept_lt hdlt hg6 (fun j e => hvh j e)).apart hov6 hgS;go_roundw
          case rel => exact ⟨k + 1, _, by omega, by go_num, (by have := HNK.out; have hw : RowKit.wrap64 ((Nk : Int) + 1) = (Nk : Int) + 1 := (by unfold RowKit.wrap64; omega); rw [hw]; congr 1; omega), hoi, hos, hD6, Nat.le_trans (Nat.le_trans hcB hg6.size) hgS.size, (hB.grown hg6 hB.size (fun j e => Nat.le_trans hwi (hvh j e))).grown hgS (Nat.le_trans hB.size hg6.size) (fun j e => by cases e; exact hgB)⟩
          case measure => simp [intOf]; omega
         ·obtain rfl : t = k := by omega
          go_wp2_with fail;go_roundw
          case rel => exact ⟨i + 1, N + t, ds ++ [v], by omega, by go_num, rfl, HN2, by omega, by rw [List.append_assoc, List.singleton_append, show n - (i + 1) = n - i - 1 by omega]; exact hov, by rw [List.length_append, hdl]; rfl, by rw [HP.out]; exact hD.snoc (ho.le hwi), hB⟩
          case measure => simp [intOf]; omega
       ·obtain rfl : n = i := by omega
        rw [Nat.sub_self, List.replicate_zero, List.append_nil] at hov;rw [List.take_of_length_le (by omega)] at hD;go_wp2_with fail;go_ret2;exact ⟨_, ds, by rw [HBR.out]; rfl, hov, by rw [HBR.out]; exact hD, hB⟩
theorem own_empty {α : Type} (enc : α → List Value) (e : TypeId) (s : Nat) (w : World) : OwnL enc e s w.heap.size (w.alloc (.cells #[] e)) (.slice (some ⟨w.heap.size, 0, none⟩) 0 0) [] :=
 ⟨by simp, .inr ⟨w.heap.size, 0, #[], rfl, Nat.le_refl _, Blk.new _ _ _, Nat.le_refl _, Nat.zero_le _, by simp, by simp⟩⟩
theorem CloneM_q (A : Option Addr) (n c : Nat) (xs : List Mem) (hn : n ≤ 1000) (w : World) (hr : Row encM 3 w A n c xs) :
 Calls Tryz.prog 112 #[.slice A n c] w fun e w' => ∃ v : Value, e = .returned v ∧ OwnL encM 61 3 w.heap.size w' v xs ∧ Below w.heap.size w w' := by
 have hl := hr.len;have q22 := fun (w : World) (a : Option Addr) (n c n' c' : Nat) => Lib.run_eql_slice_nil (P := Tryz.prog) w 42 61 a n c n' c' Tryz.underlying42
 cases A with
 | none =>
   have h0 : n = 0 := by
    rcases Nat.eq_zero_or_pos n with h | h
    ·exact h
    ·obtain ⟨b, o, e, _⟩ := hr.at_ h; cases e
   subst h0;obtain rfl : xs = [] := List.eq_nil_of_length_eq_zero hl;go_enter Tryz.func112, Tryz.ntmps112;go_wp2_with fail;go_ret;exact ⟨.slice none 0 0, rfl, OwnL.nil_ _ _ _ _ _, Below.refl _ _⟩
 | some ad =>
   have HR := Lib.hid hr;clear hr;go_enter Tryz.func112, Tryz.ntmps112;go_upto_region 3 with fail;refine wp_region_lit ?_;refine wpList_plain rfl fun K hK => ?_;go_simp;refine hK _ _ ?_;clear hK K
   try simp only [Act.put, pq1, pq2, pq3]
   refine wpList_plain rfl fun K hK => ?_;go_simp;refine hK _ _ ?_;clear hK K
   try simp only [Act.put, pq1, pq2, pq3]
   have ho := own_empty encM 61 3 w;have hr2 := HR.out.below (below_al (Below.refl w.heap.size w) (.cells #[] 61));refine wp_append_rows (enc := encM) (B := w.heap.size) (l := []) (ds := xs) (A := some ad) (n := n) (c := c) Tryz.underlying42 mem_info rfl (by decide) (by decide) rfl (.tmp 5) (.tmp 6) rfl encM_len encM_one rfl ho rfl hr2 (by simp) (by omega) (by rw [World.size_alloc]; exact Nat.le_succ _) ?_;intro v6 w6 ho6 hg6;go_wp2_with fail;go_ret;exact ⟨_, rfl, ho6, (below_al (Below.refl _ _) _).grown hg6 (by rw [World.size_alloc]; exact Nat.le_succ _) (own_high ho)⟩
theorem CloneH_q (A : Option Addr) (n c : Nat) (xs : List (List UInt8)) (hn : n ≤ 1000) (w : World) (hr : Row encH 32 w A n c xs) :
 Calls Tryz.prog 113 #[.slice A n c] w fun e w' => ∃ v : Value, e = .returned v ∧ OwnL encH 38 32 w.heap.size w' v xs ∧ Below w.heap.size w w' := by
 have hl := hr.len;have q22 := fun (w : World) (a : Option Addr) (n c n' c' : Nat) => Lib.run_eql_slice_nil (P := Tryz.prog) w 35 38 a n c n' c' Tryz.underlying35
 cases A with
 | none =>
   have h0 : n = 0 := by
    rcases Nat.eq_zero_or_pos n with h | h
    ·exact h
    ·obtain ⟨b, o, e, _⟩ := hr.at_ h; cases e
   subst h0;obtain rfl : xs = [] := List.eq_nil_of_length_eq_zero hl;go_enter Tryz.func113, Tryz.ntmps113;go_wp2_with fail;go_ret;exact ⟨.slice none 0 0, rfl, OwnL.nil_ _ _ _ _ _, Below.refl _ _⟩
 | some ad =>
   have HR := Lib.hid hr;clear hr;go_enter Tryz.func113, Tryz.ntmps113;go_upto_region 3 with fail;refine wp_region_lit ?_;refine wpList_plain rfl fun K hK => ?_;go_simp;refine hK _ _ ?_;clear hK K
   try simp only [Act.put, pq1, pq2, pq3]
   refine wpList_plain rfl fun K hK => ?_;go_simp;refine hK _ _ ?_;clear hK K
   try simp only [Act.put, pq1, pq2, pq3]
   have ho := own_empty encH 38 32 w;have hr2 := HR.out.below (below_al (Below.refl w.heap.size w) (.cells #[] 38));refine wp_append_rows (enc := encH) (B := w.heap.size) (l := []) (ds := xs) (A := some ad) (n := n) (c := c) Tryz.underlying35 hash_info rfl (by decide) (by decide) rfl (.tmp 5) (.tmp 6) rfl encH_len encH_one rfl ho rfl hr2 (by simp) (by omega) (by rw [World.size_alloc]; exact Nat.le_succ _) ?_;intro v6 w6 ho6 hg6;go_wp2_with fail;go_ret;exact ⟨_, rfl, ho6, (below_al (Below.refl _ _) _).grown hg6 (by rw [World.size_alloc]; exact Nat.le_succ _) (own_high ho)⟩
theorem CloneI_q (A : Option Addr) (n c : Nat) (xs : List Int) (hn : n ≤ 1000) (w : World) (hr : Row encI 1 w A n c xs) :
 Calls Tryz.prog 114 #[.slice A n c] w fun e w' => ∃ v : Value, e = .returned v ∧ OwnL encI 3 1 w.heap.size w' v xs ∧ Below w.heap.size w w' := by
 have hl := hr.len;have q22 := fun (w : World) (a : Option Addr) (n c n' c' : Nat) => Lib.run_eql_slice_nil (P := Tryz.prog) w 25 3 a n c n' c' Tryz.underlying25
 cases A with
 | none =>
   have h0 : n = 0 := by
    rcases Nat.eq_zero_or_pos n with h | h
    ·exact h
    ·obtain ⟨b, o, e, _⟩ := hr.at_ h; cases e
   subst h0;obtain rfl : xs = [] := List.eq_nil_of_length_eq_zero hl;go_enter Tryz.func114, Tryz.ntmps114;go_wp2_with fail;go_ret;exact ⟨.slice none 0 0, rfl, OwnL.nil_ _ _ _ _ _, Below.refl _ _⟩
 | some ad =>
   have HR := Lib.hid hr;clear hr;go_enter Tryz.func114, Tryz.ntmps114;go_upto_region 3 with fail;refine wp_region_lit ?_;refine wpList_plain rfl fun K hK => ?_;go_simp;refine hK _ _ ?_;clear hK K
   try simp only [Act.put, pq1, pq2, pq3]
   refine wpList_plain rfl fun K hK => ?_;go_simp;refine hK _ _ ?_;clear hK K
   try simp only [Act.put, pq1, pq2, pq3]
   have ho := own_empty encI 3 1 w;have hr2 := HR.out.below (below_al (Below.refl w.heap.size w) (.cells #[] 3));refine wp_append_rows (enc := encI) (B := w.heap.size) (l := []) (ds := xs) (A := some ad) (n := n) (c := c) Tryz.underlying25 int_info rfl (by decide) (by decide) rfl (.tmp 5) (.tmp 6) rfl encI_len encI_one rfl ho rfl hr2 (by simp) (by omega) (by rw [World.size_alloc]; exact Nat.le_succ _) ?_;intro v6 w6 ho6 hg6;go_wp2_with fail;go_ret;exact ⟨_, rfl, ho6, (below_al (Below.refl _ _) _).grown hg6 (by rw [World.size_alloc]; exact Nat.le_succ _) (own_high ho)⟩
theorem take_eq_succ {α : Type} {xs ys : List α} {i : Nat} {x y : α} (hx : xs[i]? = some x) (hy : ys[i]? = some y) (h : xs.take i = ys.take i) (e : x = y) : xs.take (i + 1) = ys.take (i + 1) := by
 rw [List.take_add_one, List.take_add_one, hx, hy, h, e]
theorem ne_at {α : Type} {xs ys : List α} {i : Nat} {x y : α} (hx : xs[i]? = some x) (hy : ys[i]? = some y) (e : x ≠ y) : xs ≠ ys := fun h => by
 subst h;exact e (Option.some.inj (hx.symm.trans hy))
theorem EqualI_q (A1 A2 : Option Addr) (n1 c1 n2 c2 : Nat) (xs ys : List Int) (hn : n1 ≤ 1000) (w : World) (h1 : RowI w A1 n1 c1 xs) (h2 : RowI w A2 n2 c2 ys) :
 Calls Tryz.prog 110 #[.slice A1 n1 c1, .slice A2 n2 c2] w fun e w' => e = .returned (.bool (decide (xs = ys))) ∧ Below w.heap.size w w' := by
 have hl1 := h1.len;have hl2 := h2.len;have HR := Lib.hid (And.intro h1 h2);have hB := Below.refl w.heap.size w;clear h1 h2
 by_cases hne : n1 = n2
 ·subst hne;go_enter Tryz.func110, Tryz.ntmps110;go_wp2_with fail
  go_loopw [5, 13] (fun _ s13 wr => ∃ i : Nat, i ≤ n1 ∧ s13 = .int .i64 (i : Int) ∧ Hid (xs.take i = ys.take i) ∧ Below w.heap.size w wr) (fun _ s13 _ => n1 - (intOf s13).toNat)
  case atStart => exact ⟨0, by omega, rfl, Lib.hid rfl, hB⟩
  case round =>
   clear hB;obtain ⟨i, hi, rfl, HT, hB⟩ := hrel
   by_cases hlt : i < n1
   ·have hlt' : (i : Int) < (n1 : Int) := by omega
    have hBd := hB.drew;obtain ⟨b1, o1, x, rfl, hx, e1⟩ := RowI.get (HR.out.1.below hBd) hlt;obtain ⟨b2, o2, y, rfl, hy, e2⟩ := RowI.get (HR.out.2.below hBd) hlt
    by_cases hxy : x = y
    ·have HT2 := Lib.hid (take_eq_succ hx hy HT.out hxy);subst hxy;clear hx hy;go_upto_region 6 with fail
     go_region
     go_wp2_with fail;go_roundw
     case rel => exact ⟨i + 1, by omega, by go_num, HT2, hBd⟩
     case measure => simp [intOf]; omega
    ·have HN := Lib.hid (ne_at hx hy hxy);clear hx hy;go_upto_region 6 with fail
     go_region
     go_wp2_with fail;go_ret;exact ⟨by rw [decide_eq_false HN.out]; rfl, hBd⟩
   ·obtain rfl : n1 = i := by omega
    have HE : Hid (xs = ys) := Lib.hid (by have := HT.out; rwa [List.take_of_length_le (by omega), List.take_of_length_le (by omega)] at this);go_wp2_with fail;go_ret;exact ⟨by rw [decide_eq_true HE.out]; rfl, hB⟩
 ·have hne' : ¬ (n1 : Int) = (n2 : Int) := by omega
  have HN : Hid (xs ≠ ys) := Lib.hid (fun h => hne (by rw [← hl1, ← hl2, h]));go_enter Tryz.func110, Tryz.ntmps110;go_wp2_with fail;go_ret;exact ⟨by rw [decide_eq_false HN.out]; rfl, hB⟩
theorem rows_get {w : World} {A : Option Addr} {n c : Nat} {vs : List Value} {ls : List (List Int)} (hv : RowV w A n c vs) (hr : RowsI w vs ls) {k : Nat} (hk : k < n) : ∃ b o l A' c', A = some ⟨b, o, none⟩ ∧ ls[k]? = some l ∧ w.cell? ⟨b, o + k, none⟩ = some (.slice A' l.length c') ∧ RowI w A' l.length c' l := by
 obtain ⟨b, o, v, rfl, hvk, cv⟩ := RowV.get hv hk;have hl := hv.len;have hl2 := hr.len;have hls : ls[k]? = some ls[k] := List.getElem?_eq_getElem (by omega);obtain ⟨A', c', rfl, hri⟩ := hr.one k v _ hvk hls;exact ⟨b, o, _, A', c', rfl, hls, cv, hri⟩
theorem EqualF_q (A1 A2 : Option Addr) (n1 c1 n2 c2 : Nat) (vs us : List Value) (ls ks : List (List Int)) (hn : n1 ≤ 1000) (hls : ∀ l ∈ ls, l.length ≤ 1000) (w : World) (h1 : RowV w A1 n1 c1 vs) (h2 : RowV w A2 n2 c2 us) (h3 : RowsI w vs ls) (h4 : RowsI w us ks) :
 Calls Tryz.prog 109 #[.slice A1 n1 c1, .slice A2 n2 c2, .func (.func 110) #[] #[]] w fun e w' => e = .returned (.bool (decide (ls = ks))) ∧ Below w.heap.size w w' := by
 have hl1 := h1.len;have hl2 := h2.len;have hl3 := h3.len;have hl4 := h4.len;have HR := Lib.hid (And.intro h1 (And.intro h2 (And.intro h3 (And.intro h4 hls))));have hB := Below.refl w.heap.size w;clear h1 h2 h3 h4 hls
 by_cases hne : n1 = n2
 ·subst hne;go_enter Tryz.func109, Tryz.ntmps109;go_wp2_with fail
  go_loopw [7, 8, 9, 17] (fun _ _ _ s17 wr => ∃ i : Nat, i ≤ n1 ∧ s17 = .int .i64 (i : Int) ∧ Hid (ls.take i = ks.take i) ∧ Below w.heap.size w wr) (fun _ _ _ s17 _ => n1 - (intOf s17).toNat)
  case atStart => exact ⟨0, by omega, rfl, Lib.hid rfl, hB⟩
  case round =>
   clear hB;obtain ⟨i, hi, rfl, HT, hB⟩ := hrel
   by_cases hlt : i < n1
   ·have hlt' : (i : Int) < (n1 : Int) := by omega
    obtain ⟨b1, o1, l, Al, cl, rfl, hx, e1, hrl⟩ := rows_get (HR.out.1.below hB) (HR.out.2.2.1.below hB) hlt;obtain ⟨b2, o2, k, Ak, ck, rfl, hy, e2, hrk⟩ := rows_get (HR.out.2.1.below hB) (HR.out.2.2.2.1.below hB) hlt;have hl1000 := HR.out.2.2.2.2 l (List.mem_of_getElem? hx);have m1 := Lib.hid (EqualI_q Al Ak l.length cl k.length ck l k hl1000 wr hrl hrk);generalize l.length = nl at e1 m1;generalize k.length = nk at e2 m1
    by_cases hxy : l = k
    ·have HT2 := Lib.hid (take_eq_succ hx hy HT.out hxy);rw [decide_eq_true hxy] at m1;clear hx hy hrl hrk hxy;go_wp2_with (go_at_call 110; (with_reducible refine m1.out.mono ?_); rintro e w2 ⟨rfl, hb⟩; replace hB := below_then hB hb; clear hb);go_roundw
     case rel => exact ⟨i + 1, by omega, by go_num, HT2, hB⟩
     case measure => simp [intOf]; omega
    ·have HN := Lib.hid (ne_at hx hy hxy);rw [decide_eq_false hxy] at m1;clear hx hy hrl hrk hxy;go_wp2_with (go_at_call 110; (with_reducible refine m1.out.mono ?_); rintro e w2 ⟨rfl, hb⟩; replace hB := below_then hB hb; clear hb);go_ret;exact ⟨by rw [decide_eq_false HN.out]; rfl, hB⟩
   ·obtain rfl : n1 = i := by omega
    have HE : Hid (ls = ks) := Lib.hid (by have := HT.out; rwa [List.take_of_length_le (by omega), List.take_of_length_le (by omega)] at this);go_wp2_with fail;go_ret;exact ⟨by rw [decide_eq_true HE.out]; rfl, hB⟩
 ·have hne' : ¬ (n1 : Int) = (n2 : Int) := by omega
  have HN : Hid (ls ≠ ks) := Lib.hid (fun h => hne (by rw [← hl1, ← hl2, hl3, hl4, h]));go_enter Tryz.func109, Tryz.ntmps109;go_wp2_with fail;go_ret;exact ⟨by rw [decide_eq_false HN.out]; rfl, hB⟩
end Go.Proofs.YtkpinmejfdnhbaaGreatDoor
