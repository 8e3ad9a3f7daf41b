/- Joined by a program: LmE, LmF, LmG, LmH. -/
import Derived.Test.YtkpinmejfdnhbaaGreatDoorLmOne
set_option maxRecDepth 100000
set_option maxHeartbeats 4000000
namespace Go.Proofs.YtkpinmejfdnhbaaGreatDoor
open Go.RowKit Go.Shelf
attribute [local go_sem] Oper.semAt_some
theorem put_mid {α : Type} {off size : Nat} (pre mid post v : List α) (h1 : pre.length = off) (h2 : mid.length = size) : (pre ++ (mid ++ post)).take off ++ (v ++ (pre ++ (mid ++ post)).drop (off + size)) = pre ++ (v ++ post) := by
 subst h1 h2;rw [List.take_left, List.drop_append, List.drop_append]
 simp
def headCells (s : Int) (h : List UInt8) : List Value := .int .i64 s :: u8l h
def headA (s : Int) (h : List UInt8) : Array Value := (headCells s h).toArray
theorem headA_size {s : Int} {h : List UInt8} (hh : h.length = 32) : (headA s h).size = 33 := by
 show (headCells s h).length = 33;unfold headCells; rw [List.length_cons, u8l_len, hh]
theorem head_fill (parts : List (Nat × Value)) : Tryz.prog.built 191 parts = Instr.fill (fun i => (#[(0, 1), (1, 32)] : Array (Nat × Nat))[i]?) (headA 0 zero32) parts := by kernel_rfl
theorem head_built (s : Int) (h : List UInt8) (hh : h.length = 32) : Tryz.prog.built 191 [(0, .int .i64 s), (1, .agg (u8a h))] = some (headA s h) := by
 rw [head_fill, fill_step (off := 0) (size := 1) rfl rfl (by rw [headA_size zero32_len]; omega)];have e0 : (List.take 0 (headA 0 zero32).toList ++ ((Value.int .i64 s).cells.toList ++ List.drop (0 + 1) (headA 0 zero32).toList)).toArray = headA s zero32 := rfl;rw [e0, fill_step (off := 1) (size := 32) rfl (by show (u8a h).size = 32; exact u8a_len hh) (by rw [headA_size zero32_len]; omega)];show some _ = some _
 congr 1
 show (List.take 1 ([Value.int .i64 s] ++ (u8l zero32 ++ [])) ++ ((u8a h).toList ++ List.drop (1 + 32) ([Value.int .i64 s] ++ (u8l zero32 ++ [])))).toArray = _;rw [put_mid (off := 1) (size := 32) [Value.int .i64 s] (u8l zero32) [] (u8a h).toList rfl (by rw [u8l_len]; rfl)];show (.int .i64 s :: ((u8a h).toList ++ [])).toArray = _;rw [List.append_nil]
 rfl
theorem head_cell {w : World} {g : Nat} {t : TypeId} {s : Int} {h : List UInt8} (k : Blk w g t (headA s h)) : w.cell? ⟨g, 0, none⟩ = some (.int .i64 s) := k.cell 0
theorem head_range {w : World} {g : Nat} {t : TypeId} {s : Int} {h : List UInt8} (k : Blk w g t (headA s h)) : w.rangeAt g 1 (u8l h) := fun j v hv => by
 refine (k.cell _).trans ?_;unfold headA headCells;rw [List.getElem?_toArray, Nat.add_comm, List.getElem?_cons_succ];exact hv
def fitsB (s n : Int) (leaf : List UInt8) (ps : List (List UInt8)) (root : List UInt8) : Bool :=
 decide (0 ≤ n ∧ n < s ∧ ps.length = depthT 64 n.toNat s.toNat) && decide (upT 64 (leafT leaf) n.toNat s.toNat ps = root)
theorem fitsB_no {s n : Int} {leaf : List UInt8} {ps : List (List UInt8)} {root : List UInt8} (h : ¬ (0 ≤ n ∧ n < s ∧ ps.length = depthT 64 n.toNat s.toNat)) : fitsB s n leaf ps root = false := by
 unfold fitsB; rw [decide_eq_false h]; rfl
theorem fitsB_in {s n : Nat} {leaf : List UInt8} {ps : List (List UInt8)} {root : List UInt8} (h : n < s) (hd : ps.length = depthT 64 n s) : fitsB (s : Int) (n : Int) leaf ps root = decide (upT 64 (leafT leaf) n s ps = root) := by
 unfold fitsB;rw [Int.toNat_natCast, Int.toNat_natCast, decide_eq_true ⟨by omega, by omega, hd⟩]; rfl
theorem rFits_q (s n : Int) (root : List UInt8) (leaf : ByteArray) (A : Option Addr) (m c : Nat) (ps : List (List UInt8)) (hs : I64 s) (hn : I64 n) (hr : root.length = 32) (hl : leaf.size ≤ 900000) (hm : m ≤ 1000) (hps : ∀ y ∈ ps, y.length = 32) (w : World) (hrow : RowH w A m c ps) :
 Calls Tryz.prog 137 #[.agg (headA s root), .int .i64 n, .string leaf, .slice A m c] w fun e w' => e = .returned (.bool (fitsB s n leaf.data.toList ps root)) ∧ Below w.heap.size w w' := by
 have hpl := hrow.len;have HRT := Lib.hid hr;have hsz := headA_size (s := s) hr
 by_cases h1 : n < 0
 ·rw [fitsB_no (by omega)];go_enter Tryz.func137, Tryz.ntmps137;go_upto_region 1 with fail;refine name1 (headA s root) rfl ?_;intro W0 k1 hB;clear k1;go_wp2_with fail;go_ret;exact ⟨rfl, hB⟩
 ·by_cases h2 : s ≤ n
  ·rw [fitsB_no (by omega)];go_enter Tryz.func137, Tryz.ntmps137;go_upto_region 1 with fail;refine name1 (headA s root) rfl ?_;intro W0 k1 hB;have c0 := head_cell k1;clear k1;go_wp2_with fail;go_ret;exact ⟨rfl, hB⟩
  ·obtain ⟨i, rfl⟩ : ∃ i : Nat, n = (i : Int) := ⟨n.toNat, by omega⟩;obtain ⟨N, rfl⟩ : ∃ N : Nat, s = (N : Int) := ⟨s.toNat, by omega⟩;have hiN : i < N := by omega
   have hNm := hs.2;have m1 := Lib.hid (rdepth_q 63 i N hiN (by omega) (by omega) (by omega));have hd64 := depth_le (63 + 1) i N;obtain ⟨d, hd⟩ := exq (depthT (63 + 1) i N);rw [← hd] at m1 hd64
   by_cases h3 : m = d
   ·rw [fitsB_in hiN (by rw [hpl, h3, hd])];have m2 := Lib.hid (fun W => rLeaf_q leaf hl W);have m3 := Lib.hid (fun W (h : Below w.heap.size w W) => rup_q 63 i N (leafT leaf.data.toList) A m c ps (leafT_len _) hiN (by omega) (by omega) (by omega) hm (by rw [h3, hd]) hps W (hrow.below h));have hu := upT_len (f := 63 + 1) (x := leafT leaf.data.toList) (i := i) (n := N) (p := ps) (leafT_len _);have hE := fun d w => run_eq_hash hu hr d w;rw [show upT 64 (leafT leaf.data.toList) i N ps = upT (63 + 1) (leafT leaf.data.toList) i N ps from rfl];generalize upT (63 + 1) (leafT leaf.data.toList) i N ps = x at *;generalize leafT leaf.data.toList = y at *;obtain ⟨bo, hbo⟩ : ∃ b, b = decide (x = root) := ⟨_, rfl⟩;rw [← hbo] at hE ⊢;have hEq : ∀ w : World, (Op.equalIn 10000 38 (.agg (u8a x)) (.agg (u8a root))).run Tryz.prog w = .ok bo w := fun w => hE 9998 w;clear hE hu hbo hd hrow hps hpl;subst h3;go_enter Tryz.func137, Tryz.ntmps137;go_upto_region 1 with fail;refine name1 (headA (N : Int) root) rfl ?_;intro W0 k1 hB;obtain ⟨p, hp⟩ := exq w.heap.size;rw [← hp] at k1 ⊢;clear hp;have c0 := head_cell k1;go_upto_region 3 with (go_at_call 189; (with_reducible refine (m1.out _).mono ?_); rintro e w2 ⟨rfl, hww⟩; obtain rfl := hww.symm);clear c0;have HS := Lib.hid (fun Z (h : Below W0.heap.size W0 Z) => And.intro (head_cell (k1.below h k1.lt)) (And.intro (head_range (k1.below h k1.lt)) (below_then hB h)));have hbd := (Below.refl W0.heap.size W0).drew;clear k1 hB;refine region_here (fun Z : World => Z.cell? ⟨p, 0, none⟩ = some (.int .i64 (N : Int)) ∧ Z.rangeAt p 1 (u8l root) ∧ Below w.heap.size w Z) 9 (by kernel_rfl) (HS.out _ hbd) (fun hHeld => ?_);generalize W0.drew = V at *;refine tkT 0 rfl ?_;refine tkT 2 rfl ?_;refine tkT 3 rfl ?_;refine tkT 4 rfl ?_;refine tkT 5 rfl ?_;refine tkT 7 rfl ?_;refine tkV 8 (.agg (u8a root)) rfl (yieldsIf_load_mid (by rfl) 38 (.tmp 33) rfl p 1 rfl (u8l root) _ (fun Z hZ => hZ.2.1) Tryz.underlying38 rfl (by rw [u8l_len, HRT.out]; exact hash_size)) ?_;refine tkO 1 rfl fun K hK => ?_;go_simp;go_at_call 69
    (with_reducible refine (m2.out _).mono ?_)
    rintro e wa ⟨rfl, hbwa⟩
    (try go_wp2_with fail)
    replace hbd := below_then hbd hbwa;refine hK.out _ _ ?_ (fun hHeld1 => ?_)
    ·exact HS.out _ hbd
    clear hK K
    try simp only [Act.put, pq1, pq2, pq3]
    refine tkO 6 rfl fun K hK => ?_;go_simp;go_at_call 190
    (with_reducible refine (m3.out _ hHeld1.2.2).mono ?_)
    rintro e wb ⟨rfl, hbwb⟩
    (try go_wp2_with fail)
    replace hbd := below_then hbd hbwb;refine hK.out _ _ ?_ (fun hHeld6 => ?_)
    ·exact HS.out _ hbd
    clear hK K
    try simp only [Act.put, pq1, pq2, pq3]
    refine tkK 9 rfl fun K hK => ?_;go_simp;refine hK.out _ _ ?_;clear hK K
    try simp only [Act.put, pq1, pq2, pq3]
    refine tkB 10 rfl ?_;refine tkD ?_;go_wp2_with fail;go_ret;exact ⟨rfl, (HS.out _ hbd).2.2⟩
   ·rw [fitsB_no (by rw [Int.toNat_natCast, Int.toNat_natCast, hpl]; intro h; exact h3 (by rw [hd]; exact h.2.2))];have h3' : ¬ (m : Int) = (d : Int) := by omega
    clear hd;go_enter Tryz.func137, Tryz.ntmps137;go_upto_region 1 with fail;refine name1 (headA (N : Int) root) rfl ?_;intro W0 k1 hB;have c0 := head_cell k1;clear k1;go_wp2_with (go_at_call 189; (with_reducible refine (m1.out _).mono ?_); rintro e w2 ⟨rfl, hww⟩; obtain rfl := hww.symm);go_ret;exact ⟨rfl, hB⟩
theorem rCheckPath_q (s n : Int) (root : List UInt8) (leaf : ByteArray) (A : Option Addr) (m c : Nat) (ps : List (List UInt8)) (hs : I64 s) (hn : I64 n) (hr : root.length = 32) (hl : leaf.size ≤ 900000) (hm : m ≤ 1000) (hps : ∀ y ∈ ps, y.length = 32) (w : World) (hrow : RowH w A m c ps) :
 Calls Tryz.prog 77 #[.int .i64 s, .agg (u8a root), .int .i64 n, .string leaf, .slice A m c] w fun e w' => e = .returned (.bool (fitsB s n leaf.data.toList ps root)) ∧ Below w.heap.size w w' := by
 have m1 := Lib.hid (fun W (h : Below w.heap.size w W) => rFits_q s n root leaf A m c ps hs hn hr hl hm hps W (hrow.below h));have HR := Lib.hid hr;have hsz : (u8a root).size = 32 := u8a_len hr;generalize fitsB s n leaf.data.toList ps root = r at *;clear hrow hps;go_enter Tryz.func77, Tryz.ntmps77;go_upto_region 1 with fail;refine name1 (u8a root) rfl ?_;intro W0 k1 hB
 go_wp2_with (first
  | (refine wpList_load_mid rfl 38 _ rfl w.heap.size 0 rfl (u8l root) _ (hash_range k1) Tryz.underlying38 rfl (by rw [u8l_len, HR.out]; exact hash_size) ?_)
  | (refine wpList_buildTo rfl 191 _ rfl _ rfl (headA s root) (by simp [Act.eval]; exact head_built s root HR.out) ?_)
  | (go_at_call 137; (with_reducible refine (m1.out _ hB).mono ?_); rintro e w2 ⟨rfl, hb⟩; replace hB := below_then hB hb; clear hb))
 go_ret;exact ⟨rfl, hB⟩
structure Two (pu pe : Nat) (w w' : World) : Prop where
 os : w'.os = w.os
 tape : w'.tape = w.tape
 output : w'.output = w.output
 size : w.heap.size ≤ w'.heap.size
 block : ∀ k, k < w.heap.size → k ≠ pu → k ≠ pe → w'.heap[k]? = w.heap[k]?
theorem Two.trans {pu pe : Nat} {a b c : World} (h : Two pu pe a b) (k : Two pu pe b c) : Two pu pe a c :=
 ⟨k.os.trans h.os, k.tape.trans h.tape, k.output.trans h.output, Nat.le_trans h.size k.size, fun i hi h1 h2 => (k.block i (Nat.lt_of_lt_of_le hi h.size) h1 h2).trans (h.block i hi h1 h2)⟩
theorem Two.of {pu pe : Nat} {a b : World} (h : Below a.heap.size a b) : Two pu pe a b := ⟨h.os, h.tape, h.output, h.size, fun k hk _ _ => h.block k hk⟩
theorem Two.then {pu pe : Nat} {a b c : World} (h : Two pu pe a b) (k : Below b.heap.size b c) : Two pu pe a c := h.trans (Two.of k)
theorem Two.setU {pu pe : Nat} {a b : World} (h : Two pu pe a b) (u : Value) : Two pu pe a (b.setCell ⟨pu, 0, none⟩ u) :=
 ⟨h.os, h.tape, h.output, by simpa [World.setCell] using h.size, fun k hk h1 h2 => (RowKit.Below.heap_setCell b _ u k (by rintro rfl; exact h1 rfl)).trans (h.block k hk h1 h2)⟩
theorem Two.setE {pu pe : Nat} {a b : World} (h : Two pu pe a b) (u : Value) : Two pu pe a (b.setCell ⟨pe, 0, none⟩ u) :=
 ⟨h.os, h.tape, h.output, by simpa [World.setCell] using h.size, fun k hk h1 h2 => (RowKit.Below.heap_setCell b _ u k (by rintro rfl; exact h2 rfl)).trans (h.block k hk h1 h2)⟩
theorem Two.setRow {pu pe : Nat} {a b : World} (h : Two pu pe a b) {g : Nat} (hg : a.heap.size ≤ g) (cs : Array Value) : Two pu pe a (b.setRow g cs) := by
 have hb := below_setRow (Below.refl a.heap.size b |>.trans (Below.refl _ _)) hg cs;exact ⟨hb.os.trans h.os, hb.tape.trans h.tape, hb.output.trans h.output, Nat.le_trans h.size hb.size, fun k hk h1 h2 => (hb.block k hk).trans (h.block k hk h1 h2)⟩
theorem Blk.two {pu pe g : Nat} {w w' : World} {t : TypeId} {cs : Array Value} (k : Blk w g t cs) (h : Two pu pe w w') (h1 : g ≠ pu) (h2 : g ≠ pe) : Blk w' g t cs := (h.block g k.lt h1 h2).trans k
theorem Two.below {B pu pe : Nat} {a w w' : World} (h : Below B a w) (k : Two pu pe w w') (h1 : B ≤ pu) (h2 : B ≤ pe) (hB : B ≤ w.heap.size) : Below B a w' :=
 ⟨k.os.trans h.os, k.tape.trans h.tape, k.output.trans h.output, Nat.le_trans h.size k.size, fun i hi => (k.block i (Nat.lt_of_lt_of_le hi hB) (by omega) (by omega)).trans (h.block i hi)⟩
def takeH (ps : List (List UInt8)) (u : Nat) : List UInt8 := if u = ps.length then zero32 else ps.getD u []
def takeU (ps : List (List UInt8)) (u : Nat) : Nat := if u = ps.length then u else u + 1
def takeE (ps : List (List UInt8)) (u : Nat) (e : Bool) : Bool := if u = ps.length then false else e
theorem takeH_len {ps : List (List UInt8)} {u : Nat} (hps : ∀ y ∈ ps, y.length = 32) (hu : u ≤ ps.length) : (takeH ps u).length = 32 := by
 unfold takeH
 split
 ·rfl
 ·rw [List.getD_eq_getElem?_getD, List.getElem?_eq_getElem (by omega)];exact hps _ (List.getElem_mem _)
theorem run_store_fn {P : Program} {w : World} {a : Addr} {m : Mode} (fn : Fn) (first captured : Array Value) : (store a (.func fn first captured) m).run P w = stored P w a (.func fn first captured) m := run_store P w a _ m rfl
theorem take_q (pu pp pe u m c : Nat) (e : Bool) (A : Option Addr) (ps : List (List UInt8)) (t1 t2 t3 : TypeId) (hm : m ≤ 1000) (hum : u ≤ m) (hps : ∀ y ∈ ps, y.length = 32) (h12 : pu ≠ pe) (h13 : pp ≠ pu) (w : World)
 (ku : Blk w pu t1 #[.int .i64 (u : Int)]) (kp : Blk w pp t2 #[.slice A m c]) (ke : Blk w pe t3 #[.bool e]) (hrow : RowH w A m c ps) (hap : ∀ b o, A = some ⟨b, o, none⟩ → 0 < m → b ≠ pu) :
 Calls Tryz.prog 129 #[.pointer (some ⟨pu, 0, none⟩), .pointer (some ⟨pp, 0, none⟩), .pointer (some ⟨pe, 0, none⟩)] w fun en w' =>
  en = .returned (.agg (u8a (takeH ps u))) ∧ Blk w' pu t1 #[.int .i64 (takeU ps u : Int)] ∧ Blk w' pe t3 #[.bool (takeE ps u e)] ∧ Two pu pe w w' := by
 have hpl := hrow.len
 by_cases h : u = m
 ·have e1 : takeH ps u = zero32 := if_pos (by omega);have e2 : takeU ps u = u := if_pos (by omega);have e3 : takeE ps u e = false := if_pos (by omega);rw [e1, e2, e3];clear e1 e2 e3 hrow hps hpl hap;subst h;go_enter Tryz.func129, Tryz.ntmps129;go_upto_region 1 with fail;refine name1 (u8a zero32) rfl ?_;intro W0 k4 hB;obtain ⟨p, hp⟩ := exq w.heap.size;have hpB : w.heap.size ≤ p := Nat.le_of_eq hp.symm;have hpu : p ≠ pu := by rw [hp]; exact Nat.ne_of_gt ku.lt
  have hpe : p ≠ pe := by rw [hp]; exact Nat.ne_of_gt ke.lt
  rw [← hp] at k4 ⊢;clear hp;have hT := Two.of (pu := pu) (pe := pe) hB;replace ku := ku.below hB ku.lt;replace kp := kp.below hB kp.lt;replace ke := ke.below hB ke.lt;have c1 : W0.cell? ⟨pu, 0, none⟩ = some (.int .i64 (u : Int)) := ku.cell 0;have c2 : W0.cell? ⟨pp, 0, none⟩ = some (.slice A u c) := kp.cell 0;have c3 : W0.cell? ⟨pe, 0, none⟩ = some (.bool e) := ke.cell 0;have f3 := ke.frozen 0;go_upto_region 3 with fail;have kT : Blk (W0.setCell ⟨pe, 0, none⟩ (.bool false)) pe t3 #[.bool false] := ke.set_ 0 (.bool false);replace hT := hT.setE (.bool false);replace ku := ku.far (p := ⟨pe, 0, none⟩) h12 (.bool false);replace k4 := k4.far (p := ⟨pe, 0, none⟩) hpe (.bool false);clear c1 c2 c3 f3 ke kp;obtain ⟨w2, hw⟩ := exq (W0.setCell ⟨pe, 0, none⟩ (.bool false));rw [← hw] at ku k4 kT hT ⊢;clear hw hB
  go_wp2_with (first
   | (refine wpList_buildTo rfl 38 _ rfl _ rfl (u8a zero32) (by simp [Act.eval]; exact hash_built0) ?_)
   | (refine wpList_store_rowTo rfl 38 _ _ rfl rfl _ (u8a zero32) rfl rfl _ _ k4 hash_size rfl (u8a_one _) ?_))
  refine bodyPost_ret (results_cell_row (p := 3) (ty := 38) rfl _ _ p _ (u8a zero32) (0, 0) _ rfl (k4.rowA _) Tryz.underlying38 rfl hash_size) rfl ?_;exact ⟨rfl, ku.rowFar (Ne.symm hpu) _, kT.rowFar (Ne.symm hpe) _, hT.setRow hpB _⟩
 ·have e2 : takeU ps u = u + 1 := if_neg (by omega);have e3 : takeE ps u e = e := if_neg (by omega);have e1 : takeH ps u = ps.getD u [] := if_neg (by omega);obtain ⟨b, o, y, rfl, hy, hr5⟩ := rowH_range hrow (show u < m by omega);have hy32 := hps y (List.mem_of_getElem? hy);have HY := Lib.hid hy32;have hsz : (u8a y).size = 32 := u8a_len hy32;have HRG := Lib.hid (hr5 hy32);have hbu := hap b o rfl (by omega);rw [e1, e2, e3, List.getD_eq_getElem?_getD, hy, Option.getD_some];have h' : ¬ (u : Int) = (m : Int) := by omega
  have e4 : ((u + 1 : Nat) : Int) - 1 = (u : Int) := by omega
  have hlt : u < m := by omega
  clear e1 e2 e3 hps hpl hy hy32 hr5 hap h;go_enter Tryz.func129, Tryz.ntmps129;go_upto_region 1 with fail;refine name1 (u8a zero32) rfl ?_;intro W0 k4 hB;obtain ⟨p, hp⟩ := exq w.heap.size;have hpB : w.heap.size ≤ p := Nat.le_of_eq hp.symm;have hpu : p ≠ pu := by rw [hp]; exact Nat.ne_of_gt ku.lt
  have hpe : p ≠ pe := by rw [hp]; exact Nat.ne_of_gt ke.lt
  rw [← hp] at k4 ⊢;clear hp;have hT := Two.of (pu := pu) (pe := pe) hB;replace ku := ku.below hB ku.lt;replace kp := kp.below hB kp.lt;replace ke := ke.below hB ke.lt;have hrg := range_below HRG.out hB;have c1 : W0.cell? ⟨pu, 0, none⟩ = some (.int .i64 (u : Int)) := ku.cell 0;have c2 : W0.cell? ⟨pp, 0, none⟩ = some (.slice (some ⟨b, o, none⟩) m c) := kp.cell 0;have f1 := ku.frozen 0;go_upto_region 5 with fail;have e5 : (u : Int) + 1 = ((u + 1 : Nat) : Int) := by omega
  rw [e5];have kU : Blk (W0.setCell ⟨pu, 0, none⟩ (.int .i64 ((u + 1 : Nat) : Int))) pu t1 #[.int .i64 ((u + 1 : Nat) : Int)] := ku.set_ 0 _;replace hT := hT.setU (.int .i64 ((u + 1 : Nat) : Int));replace ke := ke.far (p := ⟨pu, 0, none⟩) (Ne.symm h12) (.int .i64 ((u + 1 : Nat) : Int));replace kp := kp.far (p := ⟨pu, 0, none⟩) h13 (.int .i64 ((u + 1 : Nat) : Int));replace k4 := k4.far (p := ⟨pu, 0, none⟩) hpu (.int .i64 ((u + 1 : Nat) : Int));have hrg2 : (W0.setCell ⟨pu, 0, none⟩ (.int .i64 ((u + 1 : Nat) : Int))).rangeAt b (o + u * 32) (u8l y) := fun j v hv => (World.cell?_of_block (RowKit.Below.heap_setCell W0 _ _ b hbu)).trans (hrg j v hv);clear c1 c2 f1 ku hB e5 hrg;obtain ⟨w2, hw⟩ := exq (W0.setCell ⟨pu, 0, none⟩ (.int .i64 ((u + 1 : Nat) : Int)));rw [← hw] at ke kp k4 kU hT hrg2 ⊢;clear hw;have c1 : w2.cell? ⟨pu, 0, none⟩ = some (.int .i64 ((u + 1 : Nat) : Int)) := kU.cell 0;have c2 : w2.cell? ⟨pp, 0, none⟩ = some (.slice (some ⟨b, o, none⟩) m c) := kp.cell 0
  go_wp2_with (first
   | (refine wpList_load_mid rfl 38 _ rfl b (o + u * 32) rfl (u8l y) _ hrg2 Tryz.underlying38 rfl (by rw [u8l_len, HY.out]; exact hash_size) ?_)
   | (refine wpList_store_rowTo rfl 38 _ _ rfl rfl _ (u8a y) rfl rfl _ _ k4 (by rw [hsz]; exact hash_size) (by rw [hsz]; rfl) (u8a_one _) ?_))
  refine bodyPost_ret (results_cell_row (p := 3) (ty := 38) rfl _ _ p _ (u8a y) (0, 0) _ rfl (k4.rowA _) Tryz.underlying38 rfl (by rw [hsz]; exact hash_size)) rfl ?_;exact ⟨rfl, kU.rowFar (Ne.symm hpu) _, ke.rowFar (Ne.symm hpe) _, hT.setRow hpB _⟩
end Go.Proofs.YtkpinmejfdnhbaaGreatDoor
namespace Go.Proofs.YtkpinmejfdnhbaaGreatDoor
open Go.RowKit Go.Shelf
attribute [local go_sem] Oper.semAt_some run_store_fn
structure Plc where
 pl : Nat
 pp : Nat
 pu : Nat
 pe : Nat
 pt : Nat
 pw : Nat
structure Plc.Ok (P : Plc) (B : Nat) : Prop where
 ue : P.pu ≠ P.pe
 lu : P.pl ≠ P.pu
 le : P.pl ≠ P.pe
 ppu : P.pp ≠ P.pu
 ppe : P.pp ≠ P.pe
 tu : P.pt ≠ P.pu
 te : P.pt ≠ P.pe
 wu : P.pw ≠ P.pu
 we : P.pw ≠ P.pe
 bu : B ≤ P.pu
 be : B ≤ P.pe
structure PSt (P : Plc) (w0 : World) (leaf : ByteArray) (A : Option Addr) (m c : Nat) (u : Nat) (e : Bool) (w : World) : Prop where
 b : Below w0.heap.size w0 w
 kl : Blk w P.pl 9 #[.string leaf]
 kp : Blk w P.pp 35 #[.slice A m c]
 ku : Blk w P.pu 3 #[.int .i64 (u : Int)]
 ke : Blk w P.pe 4 #[.bool e]
 kt : Blk w P.pt 186 #[.func (Fn.func 129) #[] #[.pointer (some ⟨P.pu, 0, none⟩), .pointer (some ⟨P.pp, 0, none⟩), .pointer (some ⟨P.pe, 0, none⟩)]]
 kw : Blk w P.pw 187 #[.func (Fn.func 130) #[] #[.pointer (some ⟨P.pl, 0, none⟩), .pointer (some ⟨P.pw, 0, none⟩), .pointer (some ⟨P.pt, 0, none⟩)]]
variable {P : Plc} {w0 w w' : World} {leaf : ByteArray} {A : Option Addr} {m c u : Nat} {e : Bool}
theorem PSt.below (h : PSt P w0 leaf A m c u e w) (hb : Below w.heap.size w w') : PSt P w0 leaf A m c u e w' :=
 ⟨below_then h.b hb, h.kl.below hb h.kl.lt, h.kp.below hb h.kp.lt, h.ku.below hb h.ku.lt, h.ke.below hb h.ke.lt, h.kt.below hb h.kt.lt, h.kw.below hb h.kw.lt⟩
theorem PSt.two (h : PSt P w0 leaf A m c u e w) (ok : P.Ok w0.heap.size) (ht : Two P.pu P.pe w w') {u2 : Nat} {e2 : Bool} (ku : Blk w' P.pu 3 #[.int .i64 (u2 : Int)]) (ke : Blk w' P.pe 4 #[.bool e2]) : PSt P w0 leaf A m c u2 e2 w' :=
 ⟨Two.below h.b ht ok.bu ok.be h.b.size, h.kl.two ht ok.lu ok.le, h.kp.two ht ok.ppu ok.ppe, ku, ke, h.kt.two ht ok.tu ok.te, h.kw.two ht ok.wu ok.we⟩
theorem PSt.row (h : PSt P w0 leaf A m c u e w) {g : Nat} (hg : w0.heap.size ≤ g) (cs : Array Value) (n1 : P.pl ≠ g) (n2 : P.pp ≠ g) (n3 : P.pu ≠ g) (n4 : P.pe ≠ g) (n5 : P.pt ≠ g) (n6 : P.pw ≠ g) : PSt P w0 leaf A m c u e (w.setRow g cs) :=
 ⟨below_setRow h.b hg cs, h.kl.rowFar n1 cs, h.kp.rowFar n2 cs, h.ku.rowFar n3 cs, h.ke.rowFar n4 cs, h.kt.rowFar n5 cs, h.kw.rowFar n6 cs⟩
theorem PSt.row_hi (h : PSt P w0 leaf A m c u e w) {v : World} {u2 : Nat} {e2 : Bool} (hv : PSt P w0 leaf A m c u2 e2 v) (cs : Array Value) {g : Nat} (hg : v.heap.size ≤ g) : PSt P w0 leaf A m c u e (w.setRow g cs) :=
 h.row (Nat.le_trans hv.b.size hg) cs (by have := hv.kl.lt; omega) (by have := hv.kp.lt; omega) (by have := hv.ku.lt; omega) (by have := hv.ke.lt; omega) (by have := hv.kt.lt; omega) (by have := hv.kw.lt; omega)
def WalkPost (P : Plc) (w0 : World) (leaf : ByteArray) (A : Option Addr) (m c : Nat) (r : List UInt8 × Nat × Bool) (w : World) (en : Ending) (w' : World) : Prop :=
 en = .returned (.agg (u8a r.1)) ∧ PSt P w0 leaf A m c r.2.1 r.2.2 w' ∧ Two P.pu P.pe w w'
theorem walkT_le (ps : List (List UInt8)) (x : List UInt8) : ∀ (f n i u : Nat) (e : Bool), u ≤ ps.length → (walkT zero32 ps x f n i (u, e)).2.1 ≤ ps.length
 | 0, _, _, _, _, h => h
 | f + 1, n, i, u, e, h => by
   unfold walkT
   split
   ·exact h
   ·split
    ·have := walkT_le ps x f (halfT n) i u e h;dsimp only
     split
     ·exact this
     ·show _ + 1 ≤ _; omega
    ·have := walkT_le ps x f (n - halfT n) (i - halfT n) u e h;dsimp only
     split
     ·exact this
     ·show _ + 1 ≤ _; omega
theorem walkT_len (ps : List (List UInt8)) {x : List UInt8} (hx : x.length = 32) : ∀ (f n i u : Nat) (e : Bool), (walkT zero32 ps x f n i (u, e)).1.length = 32
 | 0, _, _, _, _ => hx
 | f + 1, n, i, u, e => by
   unfold walkT
   split
   ·exact hx
   ·split
    ·dsimp only
     split <;> exact nodeT_len _ _
    ·dsimp only
     split <;> exact nodeT_len _ _
theorem walkT_left (ps : List (List UInt8)) (x : List UInt8) {f n i u : Nat} {e : Bool} (h1 : ¬ n ≤ 1) (h : i < halfT n) (r : List UInt8 × Nat × Bool) (hr : r = walkT zero32 ps x f (halfT n) i (u, e)) :
 walkT zero32 ps x (f + 1) n i (u, e) = (nodeT r.1 (takeH ps r.2.1), takeU ps r.2.1, takeE ps r.2.1 r.2.2) := by
 subst hr;show (if n ≤ 1 then _ else if i < halfT n then _ else _) = _;rw [if_neg h1, if_pos h];unfold takeH takeU takeE;dsimp only
 split <;> rfl
theorem walkT_right (ps : List (List UInt8)) (x : List UInt8) {f n i u : Nat} {e : Bool} (h1 : ¬ n ≤ 1) (h : ¬ i < halfT n) (r : List UInt8 × Nat × Bool) (hr : r = walkT zero32 ps x f (n - halfT n) (i - halfT n) (u, e)) :
 walkT zero32 ps x (f + 1) n i (u, e) = (nodeT (takeH ps r.2.1) r.1, takeU ps r.2.1, takeE ps r.2.1 r.2.2) := by
 subst hr;show (if n ≤ 1 then _ else if i < halfT n then _ else _) = _;rw [if_neg h1, if_neg h];unfold takeH takeU takeE;dsimp only
 split <;> rfl
theorem walk_q (P : Plc) (w0 : World) (leaf : ByteArray) (A : Option Addr) (m c : Nat) (ps : List (List UInt8)) (ok : P.Ok w0.heap.size) (hm : m ≤ 1000) (hps : ∀ y ∈ ps, y.length = 32) (hl : leaf.size ≤ 900000)
 (hT : ∀ W, Below w0.heap.size w0 W → Tabs W) (hrow : ∀ W, Below w0.heap.size w0 W → RowH W A m c ps) (hap : ∀ b o, A = some ⟨b, o, none⟩ → 0 < m → b < w0.heap.size) (hlen : ps.length = m) :
 ∀ (f n i : Nat), i < n → n ≤ 2 ^ f → f ≤ 63 → n ≤ 9223372036854775807 → ∀ (u : Nat) (e : Bool) (w : World), u ≤ m → PSt P w0 leaf A m c u e w →
 Calls Tryz.prog 130 #[.int .i64 (n : Int), .int .i64 (i : Int), .pointer (some ⟨P.pl, 0, none⟩), .pointer (some ⟨P.pw, 0, none⟩), .pointer (some ⟨P.pt, 0, none⟩)] w
  (WalkPost P w0 leaf A m c (walkT zero32 ps (leafT leaf.data.toList) (f + 1) n i (u, e)) w)
 | f, n, i, hi, hn, hf, hmx, u, e, w, hu, hp => by
   have mL := Lib.hid (Leaf_q leaf hl);have HT := Lib.hid (fun W (h : Below w0.heap.size w0 W) => hT W h)
   by_cases h1 : n ≤ 1
   ·obtain rfl : n = 1 := by omega
    have e1 : walkT zero32 ps (leafT leaf.data.toList) (f + 1) 1 i (u, e) = (leafT leaf.data.toList, u, e) := if_pos h1;rw [e1];have hsz : (u8a (leafT leaf.data.toList)).size = 32 := u8a_len (leafT_len _);generalize leafT leaf.data.toList = r at *;clear e1 hrow hps hT hap;unfold WalkPost;have HP := Lib.hid hp;have kl := hp.kl;clear hp;go_enter Tryz.func130, Tryz.ntmps130;go_upto_region 1 with fail;refine name1 (u8a zero32) rfl ?_;intro W0 k2 hB;obtain ⟨p, hpp⟩ := exq w.heap.size;have hpB : w.heap.size ≤ p := Nat.le_of_eq hpp.symm;rw [← hpp] at k2 ⊢;clear hpp;have c0 : W0.cell? ⟨P.pl, 0, none⟩ = some (.string leaf) := (kl.below hB kl.lt).cell 0;clear kl
    go_wp2_with (first
     | (go_at_call 131; (with_reducible refine (mL.out _ (HT.out _ (below_then HP.out.b hB))).mono ?_); rintro e w2 ⟨rfl, hb⟩; replace k2 := k2.below hb k2.lt; replace hB := below_then hB hb; clear hb)
     | (refine wpList_store_rowTo rfl 38 _ _ rfl rfl _ (u8a r) rfl rfl _ _ k2 (by rw [hsz]; exact hash_size) (by rw [hsz]; rfl) (u8a_one _) ?_))
    refine bodyPost_ret (results_cell_row (p := 7) (ty := 38) rfl _ _ p _ (u8a r) (0, 0) _ rfl (k2.rowA _) Tryz.underlying38 rfl (by rw [hsz]; exact hash_size)) rfl ?_;exact ⟨rfl, (HP.out.below hB).row_hi HP.out _ hpB, (Two.of hB).setRow hpB _⟩
   ·obtain ⟨f, rfl⟩ : ∃ g, f = g + 1 := ⟨f - 1, by cases f with | zero => rw [Nat.pow_zero] at hn; omega | succ f => rfl⟩;obtain ⟨q1, q2, q3, q4⟩ := half_parts (by omega) hn (by omega);have h1' : ¬ (n : Int) = 1 := by omega
    have m1 := Lib.hid (half_q n (by omega) hmx);have mN := Lib.hid (fun a b (ha : a.length = 32) (hb : b.length = 32) W hT => Node_q a b ha hb W hT);have mT := Lib.hid (fun (v : Nat) (g : Bool) W (hv : v ≤ m) (h : PSt P w0 leaf A m c v g W) => take_q P.pu P.pp P.pe v m c g A ps _ _ _ hm hv hps ok.ue ok.ppu W h.ku h.kp h.ke (hrow W h.b));have HU := Lib.hid (fun v (hv : v ≤ m) => takeH_len (ps := ps) (u := v) hps (by rw [hlen]; exact hv));have HAP := Lib.hid hap;have HOK := Lib.hid ok;have HP := Lib.hid hp;have hap2 := fun b o e hm => show b ≠ P.pu by have := HAP.out b o e hm; have := HOK.out.bu; omega
    by_cases hk : i < halfT n
    ·have hk' :  (i : Int) < (halfT n : Int) := by omega
     have m2 := Lib.hid (fun W h => walk_q P w0 leaf A m c ps ok hm hps hl hT hrow hap hlen f (halfT n) (i) (by omega) q1 (by omega) (by omega) u e W hu h);rw [walkT_left ps _ h1 hk _ rfl];have hle := walkT_le ps (leafT leaf.data.toList) (f + 1) (halfT n) (i) u e (by omega);have hln := walkT_len ps (leafT_len leaf.data.toList) (f + 1) (halfT n) (i) u e;rw [hlen] at hle;unfold WalkPost at m2 ⊢;generalize walkT zero32 ps (leafT leaf.data.toList) (f + 1) (halfT n) (i) (u, e) = r at *;obtain ⟨h, v, g⟩ := r;dsimp only at *;have m3 := Lib.hid (mN.out h (takeH ps v) hln (HU.out v hle));have hsz : (u8a (nodeT h (takeH ps v))).size = 32 := u8a_len (nodeT_len _ _);have hsh : (u8a h).size = 32 := u8a_len hln;have HH := Lib.hid hln;have mT2 := Lib.hid (fun W h => mT.out v g W hle h hap2);generalize nodeT h (takeH ps v) = r at *;generalize takeH ps v = y at *;generalize takeU ps v = v2 at *;generalize takeE ps v g = g2 at *;generalize halfT n = k at *;clear mT mN HU mL hrow hps hT hap ok hln hp hap2;go_enter Tryz.func130, Tryz.ntmps130;go_upto_region 1 with fail;refine name1 (u8a zero32) rfl ?_;intro W0 k2 hB;obtain ⟨p, hpp⟩ := exq w.heap.size;have hpB : w.heap.size ≤ p := Nat.le_of_eq hpp.symm;have hpu : p ≠ P.pu := by rw [hpp]; exact Nat.ne_of_gt HP.out.ku.lt
     have hpe : p ≠ P.pe := by rw [hpp]; exact Nat.ne_of_gt HP.out.ke.lt
     rw [← hpp] at k2 ⊢;clear hpp;have HP0 := Lib.hid (HP.out.below hB);have c0 : W0.cell? ⟨P.pw, 0, none⟩ = some (.func (Fn.func 130) #[] #[.pointer (some ⟨P.pl, 0, none⟩), .pointer (some ⟨P.pw, 0, none⟩), .pointer (some ⟨P.pt, 0, none⟩)]) := HP0.out.kw.cell 0
     go_upto_region 6 with (first
      | (go_at_call 132; (with_reducible refine (m1.out _).mono ?_); rintro e w2 ⟨rfl, hww⟩; obtain rfl := hww.symm)
      | (go_at_call 130; (with_reducible refine (m2.out _ HP0.out).mono ?_); rintro e w2 ⟨rfl, hP2, hT2⟩)
      | (refine wpList_store_rowTo rfl 38 _ _ rfl rfl _ (u8a h) rfl rfl _ _ (Blk.new _ _ _) (by rw [hsh]; exact hash_size) (by rw [hsh]; rfl) (u8a_one _) ?_))
     refine name1r ?_;intro W1 kh hB3;obtain ⟨q, hq⟩ := exq w2.heap.size;have hqu : q ≠ P.pu := by rw [hq]; exact Nat.ne_of_gt hP2.ku.lt
     have hqe : q ≠ P.pe := by rw [hq]; exact Nat.ne_of_gt hP2.ke.lt
     rw [← hq] at kh ⊢;have hB4 := below_then hB3 (Below.refl W1.heap.size W1).drew;have hP3 := hP2.below hB4;have hF := ((Two.of (pu := P.pu) (pe := P.pe) hB).trans hT2).then hB4;have k3 := k2.two hT2 hpu hpe;replace k3 := k3.below hB4 k3.lt;have khd := kh.below (Below.refl W1.heap.size W1).drew kh.lt;clear hP2 hT2 hB hB3 hB4 k2 kh c0 hq;refine region_here (fun Z : World => Blk Z q 38 (u8a h) ∧ Z.cell? ⟨P.pt, 0, none⟩ = some (.func (Fn.func 129) #[] #[.pointer (some ⟨P.pu, 0, none⟩), .pointer (some ⟨P.pp, 0, none⟩), .pointer (some ⟨P.pe, 0, none⟩)])) 3 (by kernel_rfl) ⟨khd, hP3.kt.cell 0⟩ (fun hHeld => ?_);clear khd;generalize W1.drew = V at *;refine tkV 0 (.agg (u8a h)) rfl (yieldsIf_load_mid (by rfl) 38 (.tmp 9) rfl q 0 rfl (u8l h) _ (fun Z hZ => hash_range hZ.1) Tryz.underlying38 rfl (by rw [u8l_len, HH.out]; exact hash_size)) ?_;refine tkT 1 rfl ?_;refine tkO 2 rfl fun K hK => ?_;go_simp;go_at_call 129
     (with_reducible refine (mT2.out _ hP3).mono ?_)
     rintro e wa ⟨rfl, kU, kE, hT3⟩
     (try go_wp2_with fail)
     have hP4 := hP3.two HOK.out hT3 kU kE;replace k3 := k3.two hT3 hpu hpe;replace hF := hF.trans hT3;refine hK.out _ _ ?_ (fun hHeld2 => ?_)
     ·exact ⟨hHeld.1.two hT3 hqu hqe, hP4.kt.cell 0⟩
     clear hK K
     try simp only [Act.put, pq1, pq2, pq3]
     refine tkK 3 rfl fun K hK => ?_;go_simp;go_at_call 133
     (with_reducible refine (m3.out _ (HT.out _ hP4.b)).mono ?_)
     rintro e wc ⟨rfl, hbc⟩
     (try go_wp2_with fail)
     replace k3 := k3.below hbc k3.lt;have hP5 := hP4.below hbc;replace hF := hF.then hbc;refine hK.out _ _ ?_;clear hK K
     try simp only [Act.put, pq1, pq2, pq3]
     refine tkR 4 rfl fun K hK => ?_;rw [if_pos (by rfl)];refine wp_store_row 38 _ _ rfl _ (u8a r) rfl rfl _ _ k3 (by rw [hsz]; exact hash_size) (by rw [hsz]; rfl) (u8a_one _) ?_;refine hK _ _ ?_;clear hK K
     try simp only [Act.put]
     refine tkD ?_;go_wp2_with fail;refine bodyPost_ret (results_cell_row (p := 7) (ty := 38) rfl _ _ p _ (u8a r) (0, 0) _ rfl (k3.rowA _) Tryz.underlying38 rfl (by rw [hsz]; exact hash_size)) rfl ?_;exact ⟨rfl, hP5.row_hi HP.out _ hpB, hF.setRow hpB _⟩
    ·have hk' : ¬ (i : Int) < (halfT n : Int) := by omega
     have m2 := Lib.hid (fun W h => walk_q P w0 leaf A m c ps ok hm hps hl hT hrow hap hlen f (n - halfT n) (i - halfT n) (by omega) q2 (by omega) (by omega) u e W hu h);rw [walkT_right ps _ h1 hk _ rfl];have hle := walkT_le ps (leafT leaf.data.toList) (f + 1) (n - halfT n) (i - halfT n) u e (by omega);have hln := walkT_len ps (leafT_len leaf.data.toList) (f + 1) (n - halfT n) (i - halfT n) u e;rw [hlen] at hle;unfold WalkPost at m2 ⊢;generalize walkT zero32 ps (leafT leaf.data.toList) (f + 1) (n - halfT n) (i - halfT n) (u, e) = r at *;obtain ⟨h, v, g⟩ := r;dsimp only at *;have m3 := Lib.hid (mN.out (takeH ps v) h (HU.out v hle) hln);have hsz : (u8a (nodeT (takeH ps v) h)).size = 32 := u8a_len (nodeT_len _ _);have hsh : (u8a h).size = 32 := u8a_len hln;have HH := Lib.hid hln;have mT2 := Lib.hid (fun W h => mT.out v g W hle h hap2);generalize nodeT (takeH ps v) h = r at *;generalize takeH ps v = y at *;generalize takeU ps v = v2 at *;generalize takeE ps v g = g2 at *;generalize halfT n = k at *;obtain ⟨i2, hi2⟩ : ∃ a : Nat, a = i - k := ⟨_, rfl⟩;obtain ⟨n2, hn2⟩ : ∃ a : Nat, a = n - k := ⟨_, rfl⟩;rw [← hi2, ← hn2] at m2;have e1 : (i : Int) - (k : Int) = (i2 : Int) := by omega
     have e2 : (n : Int) - (k : Int) = (n2 : Int) := by omega
     clear hi2 hn2;clear mT mN HU mL hrow hps hT hap ok hln hp hap2;go_enter Tryz.func130, Tryz.ntmps130;go_upto_region 1 with fail;refine name1 (u8a zero32) rfl ?_;intro W0 k2 hB;obtain ⟨p, hpp⟩ := exq w.heap.size;have hpB : w.heap.size ≤ p := Nat.le_of_eq hpp.symm;have hpu : p ≠ P.pu := by rw [hpp]; exact Nat.ne_of_gt HP.out.ku.lt
     have hpe : p ≠ P.pe := by rw [hpp]; exact Nat.ne_of_gt HP.out.ke.lt
     rw [← hpp] at k2 ⊢;clear hpp;have HP0 := Lib.hid (HP.out.below hB);have c0 : W0.cell? ⟨P.pw, 0, none⟩ = some (.func (Fn.func 130) #[] #[.pointer (some ⟨P.pl, 0, none⟩), .pointer (some ⟨P.pw, 0, none⟩), .pointer (some ⟨P.pt, 0, none⟩)]) := HP0.out.kw.cell 0
     go_upto_region 8 with (first
      | (go_at_call 132; (with_reducible refine (m1.out _).mono ?_); rintro e w2 ⟨rfl, hww⟩; obtain rfl := hww.symm)
      | (go_at_call 130; (with_reducible refine (m2.out _ HP0.out).mono ?_); rintro e w2 ⟨rfl, hP2, hT2⟩)
      | (refine wpList_store_rowTo rfl 38 _ _ rfl rfl _ (u8a h) rfl rfl _ _ (Blk.new _ _ _) (by rw [hsh]; exact hash_size) (by rw [hsh]; rfl) (u8a_one _) ?_))
     refine name1r ?_;intro W1 kh hB3;obtain ⟨q, hq⟩ := exq w2.heap.size;have hqu : q ≠ P.pu := by rw [hq]; exact Nat.ne_of_gt hP2.ku.lt
     have hqe : q ≠ P.pe := by rw [hq]; exact Nat.ne_of_gt hP2.ke.lt
     rw [← hq] at kh ⊢;have hB4 := below_then hB3 (Below.refl W1.heap.size W1).drew;have hP3 := hP2.below hB4;have hF := ((Two.of (pu := P.pu) (pe := P.pe) hB).trans hT2).then hB4;have k3 := k2.two hT2 hpu hpe;replace k3 := k3.below hB4 k3.lt;have khd := kh.below (Below.refl W1.heap.size W1).drew kh.lt;clear hP2 hT2 hB hB3 hB4 k2 kh c0 hq;refine region_here (fun Z : World => Blk Z q 38 (u8a h) ∧ Z.cell? ⟨P.pt, 0, none⟩ = some (.func (Fn.func 129) #[] #[.pointer (some ⟨P.pu, 0, none⟩), .pointer (some ⟨P.pp, 0, none⟩), .pointer (some ⟨P.pe, 0, none⟩)])) 3 (by kernel_rfl) ⟨khd, hP3.kt.cell 0⟩ (fun hHeld => ?_);clear khd;generalize W1.drew = V at *;refine tkT 0 rfl ?_;refine tkV 2 (.agg (u8a h)) rfl (yieldsIf_load_mid (by rfl) 38 (.tmp 10) rfl q 0 rfl (u8l h) _ (fun Z hZ => hash_range hZ.1) Tryz.underlying38 rfl (by rw [u8l_len, HH.out]; exact hash_size)) ?_;refine tkO 1 rfl fun K hK => ?_;go_simp;go_at_call 129
     (with_reducible refine (mT2.out _ hP3).mono ?_)
     rintro e wa ⟨rfl, kU, kE, hT3⟩
     (try go_wp2_with fail)
     have hP4 := hP3.two HOK.out hT3 kU kE;replace k3 := k3.two hT3 hpu hpe;replace hF := hF.trans hT3;refine hK.out _ _ ?_ (fun hHeld1 => ?_)
     ·exact ⟨hHeld.1.two hT3 hqu hqe, hP4.kt.cell 0⟩
     clear hK K
     try simp only [Act.put, pq1, pq2, pq3]
     refine tkK 3 rfl fun K hK => ?_;go_simp;go_at_call 133
     (with_reducible refine (m3.out _ (HT.out _ hP4.b)).mono ?_)
     rintro e wc ⟨rfl, hbc⟩
     (try go_wp2_with fail)
     replace k3 := k3.below hbc k3.lt;have hP5 := hP4.below hbc;replace hF := hF.then hbc;refine hK.out _ _ ?_;clear hK K
     try simp only [Act.put, pq1, pq2, pq3]
     refine tkR 4 rfl fun K hK => ?_;rw [if_pos (by rfl)];refine wp_store_row 38 _ _ rfl _ (u8a r) rfl rfl _ _ k3 (by rw [hsz]; exact hash_size) (by rw [hsz]; rfl) (u8a_one _) ?_;refine hK _ _ ?_;clear hK K
     try simp only [Act.put]
     refine tkD ?_;go_wp2_with fail;refine bodyPost_ret (results_cell_row (p := 7) (ty := 38) rfl _ _ p _ (u8a r) (0, 0) _ rfl (k3.rowA _) Tryz.underlying38 rfl (by rw [hsz]; exact hash_size)) rfl ?_;exact ⟨rfl, hP5.row_hi HP.out _ hpB, hF.setRow hpB _⟩
termination_by f => f
end Go.Proofs.YtkpinmejfdnhbaaGreatDoor
namespace Go.Proofs.YtkpinmejfdnhbaaGreatDoor
open Go.RowKit Go.Shelf
attribute [local go_sem] Oper.semAt_some run_store_fn
theorem rowH_low {w : World} {A : Option Addr} {m c : Nat} {ps : List (List UInt8)} (hrow : RowH w A m c ps) (hps : ∀ y ∈ ps, y.length = 32) : ∀ b o, A = some ⟨b, o, none⟩ → 0 < m → b < w.heap.size := fun b o e hm => by
 obtain ⟨b2, o2, y, e2, hy, hr⟩ := rowH_range hrow hm;have h32 := hps y (List.mem_of_getElem? hy);rw [e] at e2
 cases e2
 have h8 : 0 < (u8l y).length := by rw [u8l_len, h32]; omega
 exact block_lt_of_cell (hr h32 0 _ (List.getElem?_eq_getElem h8))
theorem walk_fits {s i : Nat} {leaf : List UInt8} {ps : List (List UInt8)} {root : List UInt8} (hi : i < s) :
 (depthT 64 i s = ps.length ∧ walkT zero32 ps (leafT leaf) 64 s i (0, true) = (upT 64 (leafT leaf) i s ps, ps.length, true) ∧ fitsB (s : Int) (i : Int) leaf ps root = decide (upT 64 (leafT leaf) i s ps = root)) ∨
 (∃ x d, d ≠ ps.length ∧ walkT zero32 ps (leafT leaf) 64 s i (0, true) = (x, d, true) ∧ fitsB (s : Int) (i : Int) leaf ps root = false) ∨
 (∃ x d, walkT zero32 ps (leafT leaf) 64 s i (0, true) = (x, d, false) ∧ fitsB (s : Int) (i : Int) leaf ps root = false) := by
 rcases Nat.lt_trichotomy (depthT 64 i s) ps.length with h | h | h
 ·refine .inr (.inl ⟨_, _, ?_, walk_enough zero32 ps (leafT leaf) 64 s i 0 true (by omega), fitsB_no ?_⟩)
  ·omega
  ·rw [Int.toNat_natCast, Int.toNat_natCast]; omega
 ·refine .inl ⟨h, ?_, fitsB_in hi h.symm⟩;rw [walk_enough zero32 ps (leafT leaf) 64 s i 0 true (by omega), Nat.zero_add, h, List.drop_zero, List.take_length]
 ·refine .inr (.inr ⟨(walkT zero32 ps (leafT leaf) 64 s i (0, true)).1, ps.length, ?_, fitsB_no ?_⟩)
  ·have := walk_short zero32 ps (leafT leaf) 64 s i 0 true (Nat.zero_le _) (by omega);exact Prod.ext rfl this
  ·rw [Int.toNat_natCast, Int.toNat_natCast]; omega
theorem CheckPath_q (s n : Int) (root : List UInt8) (leaf : ByteArray) (A : Option Addr) (m c : Nat) (ps : List (List UInt8)) (hs : I64 s) (hr : root.length = 32) (hl : leaf.size ≤ 900000) (hm : m ≤ 1000) (hps : ∀ y ∈ ps, y.length = 32) (w : World) (hT : Tabs w) (hrow : RowH w A m c ps) :
 Calls Tryz.prog 73 #[.int .i64 s, .agg (u8a root), .int .i64 n, .string leaf, .slice A m c] w fun e w' => e = .returned (.bool (fitsB s n leaf.data.toList ps root)) ∧ Below w.heap.size w w' := by
 have hpl := hrow.len
 by_cases h1 : n < 0
 ·rw [fitsB_no (by omega)];go_enter Tryz.func73, Tryz.ntmps73;go_upto_region 1 with fail;refine name3e _ _ _ rfl rfl rfl ?_;intro W0 k1 k2 k3 hB;clear k1 k2 k3;go_wp2_with fail;go_ret;exact ⟨rfl, hB⟩
 ·by_cases h2 : s ≤ n
  ·rw [fitsB_no (by omega)];go_enter Tryz.func73, Tryz.ntmps73;go_upto_region 1 with fail;refine name3e _ _ _ rfl rfl rfl ?_;intro W0 k1 k2 k3 hB;clear k1 k2 k3;go_wp2_with fail;go_ret;exact ⟨rfl, hB⟩
  ·obtain ⟨i, rfl⟩ : ∃ i : Nat, n = (i : Int) := ⟨n.toNat, by omega⟩;obtain ⟨N, rfl⟩ : ∃ N : Nat, s = (N : Int) := ⟨s.toNat, by omega⟩;have hiN : i < N := by omega
   have hNm := hs.2;have hap := rowH_low hrow hps;have mW := Lib.hid (fun P W ok h => walk_q P w leaf A m c ps ok hm hps hl (fun W h => hT.below h) (fun W h => hrow.below h) hap hpl 63 N i hiN (by omega) (by omega) (by omega) 0 true W (Nat.zero_le _) h);have hlen := walkT_len ps (leafT_len leaf.data.toList) (63 + 1) N i 0 true;have hF := walk_fits (leaf := leaf.data.toList) (ps := ps) (root := root) hiN;unfold WalkPost at mW;rw [show walkT zero32 ps (leafT leaf.data.toList) 64 N i (0, true) = walkT zero32 ps (leafT leaf.data.toList) (63 + 1) N i (0, true) from rfl] at hF;generalize walkT zero32 ps (leafT leaf.data.toList) (63 + 1) N i (0, true) = r at *;generalize upT 64 (leafT leaf.data.toList) i N ps = z at *;generalize fitsB (N : Int) (i : Int) leaf.data.toList ps root = bo at *;rw [hpl] at hF;generalize depthT 64 i N = dd at *;obtain ⟨x, u, e⟩ := r;dsimp only at *;have HF := Lib.hid hF;have hE := fun w => run_eq_hash hlen hr 9998 w;have hsx : (u8a x).size = 32 := u8a_len hlen;have hsr : (u8a root).size = 32 := u8a_len hr;clear hF hrow hps hap hpl hT;go_enter Tryz.func73, Tryz.ntmps73;go_upto_region 1 with fail;refine name3e (u8a root) _ _ rfl rfl rfl ?_;intro W0 k1 k2 k3 hB;obtain ⟨p, hp⟩ := exq w.heap.size;have hpB : w.heap.size ≤ p := Nat.le_of_eq hp.symm;rw [← hp] at k1 k2 k3 ⊢;clear hp;go_upto_region 4 with fail;refine name2p ?_;intro W1 k4 k5 hB1;obtain ⟨pu, hpu⟩ : ∃ q, q = W0.heap.size := ⟨_, rfl⟩;have hu3 := k3.lt;replace k1 := k1.below hB1 k1.lt;replace k2 := k2.below hB1 k2.lt;replace k3 := k3.below hB1 k3.lt;replace hB := below_then hB hB1;rw [← hpu] at k4 k5 hu3 ⊢;clear hB1 hpu;go_upto_region 5 with fail;refine name1p ?_;intro W2 k6 hB2;obtain ⟨pt, hpt⟩ : ∃ q, q = W1.heap.size := ⟨_, rfl⟩;have ht3 := k5.lt;replace k1 := k1.below hB2 k1.lt;replace k2 := k2.below hB2 k2.lt;replace k3 := k3.below hB2 k3.lt;replace k4 := k4.below hB2 k4.lt;replace k5 := k5.below hB2 k5.lt;replace hB := below_then hB hB2;rw [← hpt] at k6 ht3 ⊢;clear hB2 hpt;go_upto_region 6 with fail;refine name1p ?_;intro W3 k7 hB3;obtain ⟨pw, hpw⟩ : ∃ q, q = W2.heap.size := ⟨_, rfl⟩;have hw3 := k6.lt;replace k1 := k1.below hB3 k1.lt;replace k2 := k2.below hB3 k2.lt;replace k3 := k3.below hB3 k3.lt;replace k4 := k4.below hB3 k4.lt;replace k5 := k5.below hB3 k5.lt;replace k6 := k6.below hB3 k6.lt;replace hB := below_then hB hB3;rw [← hpw] at k7 hw3 ⊢;clear hB3 hpw;have c7 : W3.cell? ⟨pw, 0, none⟩ = some .nilFunc := k7.cell 0;have f7 := k7.frozen 0;go_upto_region 7 with fail;clear c7 f7;obtain ⟨F2, hF2⟩ := exq (Value.func (Fn.func 130) #[] #[.pointer (some ⟨p + 1, 0, none⟩), .pointer (some ⟨pw, 0, none⟩), .pointer (some ⟨pt, 0, none⟩)]);rw [← hF2];have ok : Plc.Ok ⟨p + 1, p + 1 + 1, pu, pu + 1, pt, pw⟩ w.heap.size := ⟨by show pu ≠ pu + 1; omega, by show p + 1 ≠ pu; omega, by show p + 1 ≠ pu + 1; omega, by show p + 1 + 1 ≠ pu; omega, by show p + 1 + 1 ≠ pu + 1; omega, by show pt ≠ pu; omega, by show pt ≠ pu + 1; omega, by show pw ≠ pu; omega, by show pw ≠ pu + 1; omega, by show w.heap.size ≤ pu; omega, by show w.heap.size ≤ pu + 1; omega⟩;have hP : PSt ⟨p + 1, p + 1 + 1, pu, pu + 1, pt, pw⟩ w leaf A m c 0 true (W3.setCell ⟨pw, 0, none⟩ F2) :=
    ⟨below_set hB (by show w.heap.size ≤ pw; omega) _, k2.far (p := ⟨pw, 0, none⟩) (by show p + 1 ≠ pw; omega) _, k3.far (p := ⟨pw, 0, none⟩) (by show p + 1 + 1 ≠ pw; omega) _, k4.far (p := ⟨pw, 0, none⟩) (by show pu ≠ pw; omega) _, k5.far (p := ⟨pw, 0, none⟩) (by show pu + 1 ≠ pw; omega) _, k6.far (p := ⟨pw, 0, none⟩) (by show pt ≠ pw; omega) _, by rw [hF2]; exact k7.set_ 0 _⟩
   have kr := k1.far (p := ⟨pw, 0, none⟩) (by show p ≠ pw; omega) F2;have c7 : (W3.setCell ⟨pw, 0, none⟩ F2).cell? ⟨pw, 0, none⟩ = some F2 := (hP.kw.cell 0).trans (by rw [hF2]; rfl);have hpu1 : p ≠ pu := by omega
   have hpe1 : p ≠ pu + 1 := by omega
   have hst : (W3.setCell ⟨pw, 0, none⟩ F2).heap.size = W3.heap.size := by simp [World.setCell]
   have m1 := Lib.hid (mW.out _ _ ok hP);have hu1 := hP.b.size;obtain ⟨W4, hW4⟩ : ∃ W, W = W3.setCell ⟨pw, 0, none⟩ F2 := ⟨_, rfl⟩;rw [← hW4] at m1 kr c7 hu1 ⊢;subst hF2;clear hP mW k1 k2 k3 k4 k5 k6 k7 hB hst hW4
   go_upto_region 8 with (first
    | (go_at_call 130; (with_reducible refine m1.out.mono ?_); rintro en w2 ⟨rfl, hP2, hT2⟩)
    | (refine wpList_store_rowTo rfl 38 _ _ rfl rfl _ (u8a x) rfl rfl _ _ (Blk.new _ _ _) (by rw [hsx]; exact hash_size) (by rw [hsx]; rfl) (u8a_one _) ?_))
   refine name1r ?_;intro W5 kh hB5;replace hP2 := hP2.below hB5;replace kr := kr.two hT2 hpu1 hpe1;replace kr := kr.below hB5 kr.lt;obtain ⟨q, hq⟩ := exq w2.heap.size;rw [← hq] at kh ⊢;clear hT2 hB5 hq m1 c7;have c1 : W5.cell? ⟨pu, 0, none⟩ = some (.int .i64 (u : Int)) := hP2.ku.cell 0;have c2 : W5.cell? ⟨pu + 1, 0, none⟩ = some (.bool e) := hP2.ke.cell 0;have c3 : W5.cell? ⟨p + 1 + 1, 0, none⟩ = some (.slice A m c) := hP2.kp.cell 0;have hB9 := hP2.b;clear hP2
   rcases HF.out with ⟨-, e1, e2⟩ | ⟨x2, d2, hne, e1, e2⟩ | ⟨x2, d2, e1, e2⟩
   ·obtain ⟨rfl, rfl, rfl⟩ := (show x = z ∧ u = m ∧ e = true from by cases e1; exact ⟨rfl, rfl, rfl⟩);have HB := Lib.hid e2;obtain ⟨b2, hb2⟩ : ∃ b, b = decide (x = root) := ⟨_, rfl⟩;rw [← hb2] at hE;have hbo : bo = b2 := by rw [e2, hb2]
    clear e1 e2 hb2 HF
    go_wp2_with (first
     | (refine wpList_load_rowG (by rfl) 38 _ rfl _ rfl q rfl _ (u8a x) (0, 0) _ kh Tryz.underlying38 rfl (by rw [hsx]; exact hash_size) ?_)
     | (refine wpList_load_rowG (by rfl) 38 _ rfl _ rfl p rfl _ (u8a root) (0, 0) _ kr Tryz.underlying38 rfl (by rw [hsr]; exact hash_size) ?_))
    go_ret;exact ⟨by rw [hbo]; rfl, hB9⟩
   ·obtain ⟨rfl, rfl⟩ := (show u = d2 ∧ e = true from by cases e1; exact ⟨rfl, rfl⟩);have hne' : ¬ (u : Int) = (m : Int) := by omega
    have HB := Lib.hid e2;clear e1 e2 HF hE;go_wp2_with fail;go_ret;exact ⟨by rw [HB.out]; rfl, hB9⟩
   ·obtain rfl := (show e = false from by cases e1; rfl);have HB := Lib.hid e2;clear e1 e2 HF hE;go_wp2_with fail;go_ret;exact ⟨by rw [HB.out]; rfl, hB9⟩
end Go.Proofs.YtkpinmejfdnhbaaGreatDoor
