/- Joined by a program: LiH, LiI, LiJ, LiK, LiL. -/
import Derived.Test.YtkpinmejfdnhbaaGreatDoorLwB
import Derived.Deep.RegionHeld3
import Derived.BigRegion
set_option maxRecDepth 100000
set_option maxHeartbeats 2000000
namespace Go.Proofs.YtkpinmejfdnhbaaGreatDoor
open Go.RowKit
attribute [local go_sem] Oper.semAt_some
theorem str_nil {b : ByteArray} (h : b.size = 0) : b = ⟨#[]⟩ := by
 cases b with
 | mk d => simp [ByteArray.size] at h; subst h; rfl
theorem str_no {b : ByteArray} (h : b.size ≠ 0) : b.toList.isEmpty = false := by
 rw [ByteArray.toList_eq, List.isEmpty_eq_false_iff]; intro e; have := congrArg List.length e; rw [Array.length_toList] at this; exact h this
theorem str_yes {b : ByteArray} (h : b.size = 0) : b.toList.isEmpty = true := by
 obtain rfl := str_nil h;rw [ByteArray.toList_eq]; rfl
theorem cells3 {w w' : World} {k : Nat} {t : TypeId} {u v x : Value} (h : Blk w k t #[u, v, x]) (hb : Below w.heap.size w w') :
 w'.cell? ⟨k, 0, none⟩ = some u ∧ w'.cell? ⟨k, 1, none⟩ = some v ∧ w'.cell? ⟨k, 2, none⟩ = some x :=
 ⟨(h.belowK hb).cell 0, (h.belowK hb).cell 1, (h.belowK hb).cell 2⟩
theorem free3 {w w' : World} {k : Nat} {t : TypeId} {u v x : Value} (h : Blk w k t #[u, v, x]) (hb : Below w.heap.size w w') :
 w'.frozen? ⟨k, 0, none⟩ = false ∧ w'.frozen? ⟨k, 1, none⟩ = false ∧ w'.frozen? ⟨k, 2, none⟩ = false :=
 ⟨(h.belowK hb).frozen 0, (h.belowK hb).frozen 1, (h.belowK hb).frozen 2⟩
theorem Blk.put3 {w : World} {k : Nat} {t : TypeId} {u v x : Value} (h : Blk w k t #[u, v, x]) (u' v' x' : Value) : Blk (((w.setCell ⟨k, 0, none⟩ u').setCell ⟨k, 1, none⟩ v').setCell ⟨k, 2, none⟩ x') k t #[u', v', x'] := ((h.set_ 0 u').set_ 1 v').set_ 2 x'
theorem below_put3 {a w : World} {k : Nat} (h : Below a.heap.size a w) (hk : a.heap.size ≤ k) (u' v' x' : Value) : Below a.heap.size a (((w.setCell ⟨k, 0, none⟩ u').setCell ⟨k, 1, none⟩ v').setCell ⟨k, 2, none⟩ x') := below_set (below_set (below_set h hk u') hk v') hk x'
theorem Blk.new2 (w : World) (o : Obj) (t : TypeId) (cs : Array Value) : Blk ((w.alloc o).alloc (.cells cs t)) (w.heap.size + 1) t cs := by
 have := Blk.new (w.alloc o) t cs
 simpa using this
theorem results_rat {fn : Func} {tmps : Array Value} {w : World} {s k : Nat} {t : TypeId} {u v x : Value} (hr : fn.results = #[.cell s 214]) (hs : tmps[s]?.getD undef = .pointer (some ⟨k, 0, none⟩)) (hb : Blk w k t #[u, v, x]) :
 (results fn tmps).run Tryz.prog w = .ok (.agg #[u, v, x]) w := by
 have h0 : w.cell? ⟨k, 0, none⟩ = some u := hb.cell 0;have h1 : w.cell? ⟨k, 1, none⟩ = some v := hb.cell 1;have h2 : w.cell? ⟨k, 2, none⟩ = some x := hb.cell 2
 simp [results, hr, hs, go_sem, h0, h1, h2]
theorem ret_rright {a : ByteArray} (ha : a.size ≤ 1000) : Ret 275 #[.string a] (.bool (rightB a)) := Ret.quiet fun W => rRight a W (by omega)
theorem ret_rof {n : Int} (h : n ≤ 9223372036854775807) : Ret 105 #[.int .i64 n] (.string (natS n.toNat)) := fun W => rOf n W h
theorem ret_rone : Ret 105 #[.int .i64 1] (.string ⟨#[1]⟩) := fun W => rOf 1 W (by omega)
theorem ret_rcmp {a b : ByteArray} (ha : a.size ≤ 1000) (hb : b.size ≤ 1000) : Ret 208 #[.string a, .string b] (.int .i64 (cmpI (sval a) (sval b))) := Ret.quiet fun W => rCmp a b W (by omega) (by omega)
theorem ret_rgcd {a b : ByteArray} (ha : a.size ≤ 1000) (hb : b.size ≤ 1000) : Ret 276 #[.string a, .string b] (.string (natS (Nat.gcd (sval a) (sval b)))) := fun W => rGcd a b W (by omega) (by omega)
theorem sval_unit : sval ⟨#[1]⟩ = 1 := by decide
def natA (n : Nat) : Array Value := #[.bool false, .string (natS n), .string ⟨#[1]⟩]
theorem natS_one : natS 1 = ⟨#[1]⟩ := by decide +kernel
theorem natS_9' {n : Nat} (h : n ≤ 9223372036854775807) : (natS n).size ≤ 9 := natS_9 (by omega)
theorem rightB_nat (n : Nat) : rightB (natS n) = true := by
 unfold rightB;have h := nb_canon n;have e : (natS n).data.toList = nb n := by unfold natS; simp
 rw [e]
 cases hl : nb n with
 | nil => rfl
 | cons x t =>
   rw [hl] at h;have := h (by simp)
   simp at this
   simp [this]
theorem rRight_n (n : Nat) (hn : n ≤ 9223372036854775807) : Ret 245 #[.agg (natA n)] (.bool true) := by
 intro w;have hsz := natS_9' hn;have m1 := Lib.hid (ret_rright (a := natS n) (by omega));rw [rightB_nat] at m1
 have m2 : Hid (Ret 275 #[.string ⟨#[1]⟩] (.bool true)) := Lib.hid (by
  have := ret_rright (a := ⟨#[1]⟩) (by decide);have e : rightB ⟨#[1]⟩ = true := by decide +kernel
  rwa [e] at this)
 have m3 := Lib.hid ret_rone
 have m4 : Hid (Ret 208 #[.string ⟨#[1]⟩, .string ⟨#[1]⟩] (.int .i64 0)) := Lib.hid (by
  have := ret_rcmp (a := ⟨#[1]⟩) (b := ⟨#[1]⟩) (by decide) (by decide);have e : cmpI (sval ⟨#[1]⟩) (sval ⟨#[1]⟩) = 0 := cmpI_eq rfl
  rwa [e] at this)
 have m5 : Hid (Ret 276 #[.string (natS n), .string ⟨#[1]⟩] (.string ⟨#[1]⟩)) := Lib.hid (by
  have := ret_rgcd (a := natS n) (b := ⟨#[1]⟩) (by omega) (by decide);rw [sval_natS, sval_unit, Nat.gcd_one_right, natS_one] at this
  exact this)
 have hbn : (⟨#[1]⟩ : ByteArray).toList.isEmpty = false := str_no (by decide);have hns : n = 0 ↔ (natS n).size = 0 := natS_zero_size.symm;unfold natA;generalize natS n = a at *;generalize hone : (⟨#[1]⟩ : ByteArray) = b at *;clear hone;have hB := Below.refl w.heap.size w;go_enter Tryz.func245, Tryz.ntmps245;go_wp2_with fail;refine (m1.out _).mono ?_;rintro e w1 ⟨rfl, hb1⟩;have hk := (Blk.new w _ _).belowK hb1;replace hB := below_then (below_al hB _) hb1;clear hb1;obtain ⟨chk0, chk1, chk2⟩ := cells3 hk (Below.refl _ _);go_wp2_with fail;refine (m2.out _).mono ?_;rintro e w2 ⟨rfl, hb2⟩;clear chk0 chk1 chk2;replace hB := below_then hB hb2;replace hk := hk.belowK hb2;clear hb2;obtain ⟨chk0, chk1, chk2⟩ := cells3 hk (Below.refl _ _)
 by_cases ha0 : a.size = 0
 ·have han := str_yes ha0;go_upto_region 6 with fail;clear chk0 chk1 chk2
  go_region_held3 (fun W : World => (W.cell? ⟨w.heap.size, 0, none⟩ = some (.bool false) ∧ W.cell? ⟨w.heap.size, 1, none⟩ = some (.string a) ∧ W.cell? ⟨w.heap.size, 2, none⟩ = some (.string b)))
   ((refine cells3 hk ?_; (repeat (first | exact Below.refl _ _ | apply Below.drew | refine below_then ?_ hz0 | refine below_then ?_ hz1))))
   (first
    | (go_at_call 105; (with_reducible refine (m3.out _).mono ?_); rintro e v0 ⟨rfl, hz0⟩)
    | (go_at_call 208; (with_reducible refine (m4.out _).mono ?_); rintro e v1 ⟨rfl, hz1⟩))
  all_goals go_wp2_with fail
  all_goals go_ret
  all_goals
   refine ⟨rfl, ?_⟩;refine below_then hB ?_
   (repeat (first | exact Below.refl _ _ | apply Below.drew | refine below_then ?_ hz0 | refine below_then ?_ hz1))
 ·have han := str_no ha0;go_wp2_with fail;refine (m5.out _).mono ?_;rintro e w3 ⟨rfl, hb3⟩;replace hB := below_then hB hb3;go_wp2_with fail;refine (m3.out _).mono ?_;rintro e w4 ⟨rfl, hb4⟩;replace hB := below_then hB hb4;go_wp2_with fail;refine (m4.out _).mono ?_;rintro e w5 ⟨rfl, hb5⟩;replace hB := below_then hB hb5;go_wp2_with fail;go_ret;exact ⟨rfl, hB⟩
theorem rvalue_n (n : Nat) (hn : n ≤ 9223372036854775807) : Ret 207 #[.agg (natA n)] (.agg (natA n)) := by
 intro w;have m1 := Lib.hid (rRight_n n hn);unfold natA at *;generalize natS n = a at *;have hB := Below.refl w.heap.size w;have hka := Blk.new w 214 #[.bool false, .string a, .string ⟨#[1]⟩];go_enter Tryz.func207, Tryz.ntmps207;go_wp2_with fail;refine (m1.out _).mono ?_;rintro e w1 ⟨rfl, hb1⟩;have hkr := (Blk.new2 w (.cells #[.bool false, .string a, .string ⟨#[1]⟩] 214) 214 #[.bool false, .string ⟨#[]⟩, .string ⟨#[]⟩]).belowK hb1;replace hka := (hka.alloc _).belowK hb1;replace hB := below_then (below_al (below_al hB _) _) hb1;clear hb1;obtain ⟨chka0, chka1, chka2⟩ := cells3 hka (Below.refl _ _);obtain ⟨chkr0, chkr1, chkr2⟩ := cells3 hkr (Below.refl _ _);obtain ⟨fhkr0, fhkr1, fhkr2⟩ := free3 hkr (Below.refl _ _);go_wp2_with fail;refine bodyPost_ret (results_rat rfl rfl (hkr.put3 _ _ _)) rfl ?_;exact ⟨rfl, below_put3 hB (by omega) _ _ _⟩
theorem rOf2_n (n : Nat) (hn : n ≤ 9223372036854775807) : Ret 156 #[.int .i64 (n : Int)] (.agg (natA n)) := by
 intro w;have m1 := Lib.hid (ret_rof (n := (n : Int)) (by omega));rw [Int.toNat_natCast] at m1;have m2 := Lib.hid ret_rone;unfold natA;generalize natS n = a at *;have hn0 : (0 : Int) ≤ (n : Int) := by omega
 have hB := Below.refl w.heap.size w;go_enter Tryz.func156, Tryz.ntmps156;go_upto_region 1 with fail;refine name1p ?_;intro W0 hk hB;obtain ⟨g, hg⟩ := exq w.heap.size;rw [← hg] at hk ⊢;have hgB : w.heap.size ≤ g := by omega
 clear hg
 go_wp2_with (first
  | (go_at_call 105; (with_reducible refine (m1.out _).mono ?_); rintro e w1 ⟨rfl, hb⟩; replace hk := hk.below hb hk.lt; replace hB := below_then hB hb; clear hb m1)
  | (go_at_call 105; (with_reducible refine (m2.out _).mono ?_); rintro e w2 ⟨rfl, hb⟩; replace hk := hk.below hb hk.lt; replace hB := below_then hB hb; clear hb; obtain ⟨chkr0, chkr1, chkr2⟩ := cells3 hk (Below.refl _ _); obtain ⟨fhkr0, fhkr1, fhkr2⟩ := free3 hk (Below.refl _ _)))
 refine bodyPost_ret (results_rat rfl rfl (hk.put3 _ _ _)) rfl ?_;exact ⟨rfl, below_put3 hB hgB _ _ _⟩
theorem rText2_n (n : Nat) (hn : n ≤ 9223372036854775807) : Ret 155 #[.agg (natA n)] (.string (decS n)) := by
 intro w;have hsz := natS_9' hn;have m1 := Lib.hid (rvalue_n n hn)
 have m2 : Hid (∀ W : World, Calls Tryz.prog 104 #[.string (natS n)] W fun e w' => e = .returned (.string (decS n)) ∧ Below W.heap.size W w') := Lib.hid (fun W => by
  have := rText (natS n) W (by omega)
  rwa [sval_natS] at this)
 have m3 := Lib.hid ret_rone
 have m4 : Hid (Ret 208 #[.string ⟨#[1]⟩, .string ⟨#[1]⟩] (.int .i64 0)) := Lib.hid (by
  have := ret_rcmp (a := ⟨#[1]⟩) (b := ⟨#[1]⟩) (by decide) (by decide);have e : cmpI (sval ⟨#[1]⟩) (sval ⟨#[1]⟩) = 0 := cmpI_eq rfl
  rwa [e] at this)
 unfold natA at *;generalize natS n = a at *;generalize decS n = t at *;generalize hone : (⟨#[1]⟩ : ByteArray) = b at *;clear hone;have hB := Below.refl w.heap.size w;go_enter Tryz.func155, Tryz.ntmps155;go_wp2_with fail;refine (m1.out _).mono ?_;rintro e w1 ⟨rfl, hb1⟩;have hka := (Blk.new w 214 #[.bool false, .string a, .string b]).belowK hb1;replace hB := below_then (below_al hB _) hb1;clear hb1;obtain ⟨chka0, chka1, chka2⟩ := cells3 hka (Below.refl _ _);obtain ⟨fhka0, fhka1, fhka2⟩ := free3 hka (Below.refl _ _);go_upto_region 2 with fail;have hkp := hka.put3 (.bool false) (.string a) (.string b);have hBp := below_put3 hB (Nat.le_refl w.heap.size) (.bool false) (.string a) (.string b);generalize ((w1.setCell ⟨w.heap.size, 0, none⟩ (.bool false)).setCell ⟨w.heap.size, 1, none⟩ (.string a)).setCell ⟨w.heap.size, 2, none⟩ (.string b) = w2 at hkp hBp ⊢;clear chka0 chka1 chka2 fhka0 fhka1 fhka2 hka hB;obtain ⟨c0, c1, c2⟩ := cells3 hkp (Below.refl _ _);go_wp2_with fail;refine (m2.out _).mono ?_;rintro e w3 ⟨rfl, hb3⟩;clear c0 c1 c2;replace hBp := below_then hBp hb3;replace hkp := hkp.belowK hb3;clear hb3;obtain ⟨c0, c1, c2⟩ := cells3 hkp (Below.refl _ _);go_upto_region 5 with fail;clear c0 c1 c2
 go_region_held3 (fun W : World => (W.cell? ⟨w.heap.size, 0, none⟩ = some (.bool false) ∧ W.cell? ⟨w.heap.size, 1, none⟩ = some (.string a) ∧ W.cell? ⟨w.heap.size, 2, none⟩ = some (.string b)))
  ((refine cells3 hkp ?_; (repeat (first | exact Below.refl _ _ | apply Below.drew | refine below_then ?_ hz0 | refine below_then ?_ hz1))))
  (first
   | (go_at_call 105; (with_reducible refine (m3.out _).mono ?_); rintro e v0 ⟨rfl, hz0⟩)
   | (go_at_call 208; (with_reducible refine (m4.out _).mono ?_); rintro e v1 ⟨rfl, hz1⟩))
 all_goals go_wp2_with fail
 all_goals go_ret
 all_goals
  refine ⟨rfl, ?_⟩;refine below_then hBp ?_
  (repeat (first | exact Below.refl _ _ | apply Below.drew | refine below_then ?_ hz0 | refine below_then ?_ hz1))
theorem rText8_q (n : Nat) (hn : n ≤ 9223372036854775807) : Ret 94 #[.int .i64 (n : Int)] (.string (decS n)) := by
 intro w;have m1 := Lib.hid (rOf2_n n hn);have m2 := Lib.hid (rText2_n n hn);generalize natA n = a at *;generalize decS n = t at *;go_enter Tryz.func94, Tryz.ntmps94
 go_wp2_with (first
  | (go_at_call 156; (with_reducible refine (m1.out _).mono ?_); rintro e w1 ⟨rfl, hB⟩)
  | (go_at_call 155; (with_reducible refine (m2.out _).mono ?_); rintro e w2 ⟨rfl, hb⟩; replace hB := below_then hB hb; clear hb))
 go_ret;exact ⟨rfl, hB⟩
def encI (x : Int) : List Value := [.int .i64 x]
theorem encI_len (x : Int) : (encI x).length = 1 := rfl
theorem encI_one (x : Int) : ∀ u ∈ encI x, u.oneCell' = true := fun u hu => by
 obtain rfl := List.mem_singleton.1 hu; rfl
abbrev OwnI (B : Nat) (w : World) (v : Value) (l : List Int) : Prop := OwnL encI 3 1 B w v l
abbrev RowI (w : World) (A : Option Addr) (n c : Nat) (xs : List Int) : Prop := Row encI 1 w A n c xs
def encM (m : Mem) : List Value := [.int .i64 m.id, .int .i64 m.wt, .int .i64 m.pub]
theorem encM_len (m : Mem) : (encM m).length = 3 := rfl
theorem encM_one (m : Mem) : ∀ u ∈ encM m, u.oneCell' = true := fun u hu => by
 simp only [encM, List.mem_cons, List.not_mem_nil, or_false] at hu
 rcases hu with rfl | rfl | rfl <;> rfl
theorem mem_info : (Tryz.prog.info? 61).map (fun i => (i.zero, i.size, i.bytes)) = some (some (.agg #[.int .i64 0, .int .i64 0, .int .i64 0]), 3, 24) := by kernel_rfl
abbrev OwnM (B : Nat) (w : World) (v : Value) (l : List Mem) : Prop := OwnL encM 61 3 B w v l
abbrev RowM (w : World) (A : Option Addr) (n c : Nat) (xs : List Mem) : Prop := Row encM 3 w A n c xs
theorem rows_apart {α β : Type} {enc1 : α → List Value} {enc2 : β → List Value} {e1 e2 : TypeId} {s1 s2 B1 B2 : Nat} {w : World} {v1 v2 : Value} {l1 : List α} {l2 : List β} (h1 : OwnL enc1 e1 s1 B1 w v1 l1) (h2 : OwnL enc2 e2 s2 B2 w v2 l2) (hne : e1 ≠ e2) : v1.ownBlock = none ∨ v1.ownBlock ≠ v2.ownBlock := by
 rcases h1.2 with ⟨rfl, _⟩ | ⟨g, cap, cur, rfl, _, hh, _⟩
 ·exact .inl rfl
 ·right
  rcases h2.2 with ⟨rfl, _⟩ | ⟨g2, cap2, cur2, rfl, _, hh2, _⟩
  ·simp [Value.ownBlock]
  ·intro e;simp only [Value.ownBlock, Option.some.injEq] at e;subst e;rw [hh] at hh2;simp only [Option.some.injEq, Obj.cells.injEq] at hh2;exact hne hh2.2.1
theorem RowI.get {w : World} {A : Option Addr} {n c : Nat} {xs : List Int} (h : RowI w A n c xs) {k : Nat} (hk : k < n) : ∃ b o x, A = some ⟨b, o, none⟩ ∧ xs[k]? = some x ∧ w.cell? ⟨b, o + k, none⟩ = some (.int .i64 x) := by
 obtain ⟨b, o, e, hc⟩ := h.at_ (by omega);have hl : k < xs.length := by have := h.len; omega
 refine ⟨b, o, xs[k], e, List.getElem?_eq_getElem hl, ?_⟩;have := hc k 0 xs[k] _ (List.getElem?_eq_getElem hl) rfl;rwa [Nat.mul_one, Nat.add_zero] at this
theorem Mod_s (n m : Int) (h3 : 0 < m) (h4 : m ≤ 4611686018427387904) : RetS 34 #[.int .i64 n, .int .i64 m] (.int .i64 (n % m)) := by
 intro w;have hm0 : ¬ m = 0 := by omega
 have hr := Int.emod_nonneg n hm0;have hl := Int.emod_lt_of_pos n h3;have ht : n.tmod m = n % m ∨ (n.tmod m = n % m - m ∧ n.tmod m < 0) := by
  rw [Int.tmod_eq_emod]
  split
  ·left; omega
  ·right
   rename_i hh
   have hz : n % m ≠ 0 := fun e => hh (.inr (Int.dvd_of_emod_eq_zero e));rw [Int.natAbs_of_nonneg (by omega)]
   omega
 generalize n % m = r at *;generalize htm : n.tmod m = t at *;have hb0 : (m == 0) = false := by rw [beq_eq_false_iff_ne]; omega
 have hw : IntKind.i64.wrap t = t := IntWalk.i64_in _ (by omega)
 rcases ht with rfl | ⟨ht, hneg⟩
 ·go_enter Tryz.func34, Tryz.ntmps34;go_wp2_with fail;go_ret;exact ⟨rfl, rfl⟩
 ·have hs : IntKind.i64.wrap (t + m) = t + m := IntWalk.i64_in _ (by omega);obtain rfl : r = t + m := by omega
  clear ht;go_enter Tryz.func34, Tryz.ntmps34;go_wp2_with fail;go_ret;exact ⟨rfl, rfl⟩
def numA (A : Option Addr) (n c : Nat) (k : Int) : Array Value := #[.slice A n c, .int .i64 k]
def NextPost (p : Nat) (A : Option Addr) (n c m : Nat) (w : World) (e : Ending) (w' : World) : Prop := ∃ r k' : Nat, e = .returned (.int .i64 (r : Int)) ∧ r < m ∧ k' ≤ n ∧ Blk w' p 161 (numA A n c k') ∧ w.grownBy w' (some p)
theorem next_q (p : Nat) (A : Option Addr) (n c : Nat) (xs : List Int) (k m : Nat) (hk : k ≤ n) (hn : n ≤ 9223372036854775807) (h1 : 1 ≤ m) (hm : m ≤ 1000000) (hI : ∀ x ∈ xs, I64 x) (w : World)
 (hb : Blk w p 161 (numA A n c k)) (hr : RowI w A n c xs) (hne : ∀ b o, A = some ⟨b, o, none⟩ → n = 0 ∨ b ≠ p) :
 Calls Tryz.prog 97 #[.pointer (some ⟨p, 0, none⟩), .int .i64 (m : Int)] w (NextPost p A n c m w) := by
 have c0 : w.cell? ⟨p, 0, none⟩ = some (.slice A n c) := hb.cell 0;have c1 : w.cell? ⟨p, 1, none⟩ = some (.int .i64 (k : Int)) := hb.cell 1;have f1 := hb.frozen 1
 by_cases hlt : k < n
 ·have hlt' : ¬ (n : Int) ≤ (k : Int) := by omega
  obtain ⟨b, o, x, rfl, hx, hcx⟩ := hr.get hlt;have hbp : b ≠ p := (hne b o rfl).resolve_left (by omega);have hxI := hI x (List.mem_of_getElem? hx);have m1 := Lib.hid (Mod_s x (m : Int) (by omega) (by omega));have hr0 := Int.emod_nonneg x (show (m : Int) ≠ 0 by omega);have hrl := Int.emod_lt_of_pos x (show (0 : Int) < (m : Int) by omega);obtain ⟨r, hr1⟩ := Int.eq_ofNat_of_zero_le hr0;rw [hr1] at m1 hrl;clear hr0 hr1 hr hI hx;go_enter Tryz.func97, Tryz.ntmps97;go_upto_region 1 with fail
  go_quiet (fail)
  have kq : Blk (w.drewN nq) p 161 (numA (some ⟨b, o, none⟩) n c k) := hb;have hg := grown_of_below (below_drewN (Below.refl w.heap.size w) nq) (some p);have d0 : (w.drewN nq).cell? ⟨p, 0, none⟩ = some (.slice (some ⟨b, o, none⟩) n c) := c0;have d1 : (w.drewN nq).cell? ⟨p, 1, none⟩ = some (.int .i64 (k : Int)) := c1;have e1 : (w.drewN nq).frozen? ⟨p, 1, none⟩ = false := f1;have dx : (w.drewN nq).cell? ⟨b, o + k, none⟩ = some (.int .i64 x) := hcx;generalize w.drewN nq = wq at kq hg d0 d1 e1 dx ⊢;clear c0 c1 f1 hcx;go_upto_region 4 with fail;have ks : Blk (wq.setCell ⟨p, 1, none⟩ (.int .i64 ((k : Int) + 1))) p 161 (numA (some ⟨b, o, none⟩) n c ((k + 1 : Nat) : Int)) := kq.set_ 1 _;have hgs := grown_set hg 1 (.int .i64 ((k : Int) + 1));have g0 : (wq.setCell ⟨p, 1, none⟩ (.int .i64 ((k : Int) + 1))).cell? ⟨p, 0, none⟩ = some (.slice (some ⟨b, o, none⟩) n c) := ks.cell 0;have g1 : (wq.setCell ⟨p, 1, none⟩ (.int .i64 ((k : Int) + 1))).cell? ⟨p, 1, none⟩ = some (.int .i64 (((k + 1 : Nat)) : Int)) := ks.cell 1;have gx : (wq.setCell ⟨p, 1, none⟩ (.int .i64 ((k : Int) + 1))).cell? ⟨b, o + k, none⟩ = some (.int .i64 x) := by
   exact (World.cell?_setCell_other (w := wq) (h := fun e => hbp (congrArg Addr.block e).symm) ..).trans dx
  generalize wq.setCell ⟨p, 1, none⟩ (.int .i64 ((k : Int) + 1)) = ws at ks hgs g0 g1 gx ⊢;clear d0 d1 e1 dx kq hg;have hk1 : (((k + 1 : Nat)) : Int) - 1 = (k : Int) := by omega
  have hkn : (k : Int) < (n : Int) := by omega
  go_quiet (first
   | (go_at_call 34; with_reducible exact Calls.quiet_of_same (m1.out _)))
  go_wp2_with fail;go_ret;exact ⟨r, k + 1, rfl, by omega, by omega, ks, grown_trans hgs (grown_of_below (below_drewN (Below.refl _ _) _) _)⟩
 ·obtain rfl : k = n := by omega
  have hle : (k : Int) ≤ (k : Int) := by omega
  go_enter Tryz.func97, Tryz.ntmps97;go_upto_region 1 with fail
  go_quiet (fail)
  go_wp2_with fail;go_ret;exact ⟨0, k, rfl, by omega, Nat.le_refl _, hb, grown_of_below (below_drewN (Below.refl _ _) _) _⟩
theorem decS_20 {n : Nat} (h : n ≤ 9223372036854775807) : (decS n).size ≤ 20 := by
 have := decIS_size (z := (n : Int)) ⟨by omega, by omega⟩;rwa [decIS_nat] at this
structure CrewOK (first : Nat) (ms : List Mem) (ss : List Nat) : Prop where
 len : ss.length = ms.length
 one : ∀ (i : Nat) (m : Mem), ms[i]? = some m → m.id = ((first + i : Nat) : Int) ∧ 1 ≤ m.wt ∧ m.wt ≤ 3 ∧ ∃ s : Nat, ss[i]? = some s ∧ 1 ≤ s ∧ s < qG ∧ m.pub = ((gP s : Nat) : Int)
theorem CrewOK.nil (first : Nat) : CrewOK first [] [] := ⟨rfl, fun i m h => by simp at h⟩
theorem CrewOK.snoc {first : Nat} {ms : List Mem} {ss : List Nat} (h : CrewOK first ms ss) {wt : Int} {s : Nat} (h1 : 1 ≤ wt) (h2 : wt ≤ 3) (h3 : 1 ≤ s) (h4 : s < qG) : CrewOK first (ms ++ [⟨((first + ms.length : Nat) : Int), wt, ((gP s : Nat) : Int)⟩]) (ss ++ [s]) := by
 refine ⟨by simp [h.len], fun i m hm => ?_⟩
 rcases Nat.lt_or_ge i ms.length with hi | hi
 ·rw [List.getElem?_append_left hi] at hm;obtain ⟨a, b, c, t, ht, hrest⟩ := h.one i m hm;exact ⟨a, b, c, t, by rw [List.getElem?_append_left (by rw [h.len]; exact hi)]; exact ht, hrest⟩
 ·rw [List.getElem?_append_right hi] at hm;have hi0 : i - ms.length = 0 := by
   have := (List.getElem?_eq_some_iff.1 hm).1
   simp at this
   omega
  rw [hi0] at hm;obtain rfl := Option.some.inj hm;obtain rfl : i = ms.length := by omega
  exact ⟨rfl, h1, h2, s, by rw [List.getElem?_append_right (by rw [h.len]; exact Nat.le_refl _), h.len, Nat.sub_self]; rfl, h3, h4, rfl⟩
def intsN (l : List Nat) : List Int := l.map fun n : Nat => (n : Int)
theorem intsN_snoc (l : List Nat) (n : Nat) : intsN (l ++ [n]) = intsN l ++ [(n : Int)] := by simp [intsN]
theorem intsN_len (l : List Nat) : (intsN l).length = l.length := by simp [intsN]
def CrewPost (first : Nat) (w : World) (e : Ending) (w' : World) : Prop :=
 ∃ (v1 v2 : Value) (ms : List Mem) (ss : List Nat), e = .returned (.tuple #[v1, v2]) ∧ OwnM w.heap.size w' v1 ms ∧ OwnI w.heap.size w' v2 (intsN ss) ∧ CrewOK first ms ss ∧ 1 ≤ ms.length ∧ ms.length ≤ 4 ∧ Below w.heap.size w w'
theorem Crew_q (A : Option Addr) (n c : Nat) (xs : List Int) (first : Nat) (hn : n ≤ 9223372036854775807) (hf : first ≤ 1000000) (hI : ∀ x ∈ xs, I64 x) (w : World) (hr : RowI w A n c xs) :
 Calls Tryz.prog 45 #[.slice A n c, .int .i64 (first : Int)] w (CrewPost first w) := by
 have HR := Lib.hid hr;have q1 := Lib.hid (fun (p k m : Nat) (hk : k ≤ n) (h1 : 1 ≤ m) (hm : m ≤ 1000000) => next_q p A n c xs k m hk hn h1 hm hI);have hA : ∀ b o, A = some ⟨b, o, none⟩ → n = 0 ∨ b < w.heap.size := fun b o e => by
  rcases Nat.eq_zero_or_pos n with h0 | h0
  ·exact .inl h0
  ·obtain ⟨b', o', x, e', _, hc⟩ := hr.get h0;rw [e] at e'
   cases e'
   exact .inr (block_lt_of_cell hc)
 clear hr;go_enter Tryz.func45, Tryz.ntmps45;go_upto_region 2 with fail;refine name1p ?_;intro W0 k6 hB;obtain ⟨p, hp⟩ := exq w.heap.size;rw [← hp] at k6 ⊢;have hpB : w.heap.size ≤ p := by omega
 have hAp : ∀ b o, A = some ⟨b, o, none⟩ → n = 0 ∨ b ≠ p := fun b o e => (hA b o e).imp id (by omega);clear hA hp;have hfr : ∀ {W : World} (k : Nat), some p = some k → w.heap.size ≤ k := fun k e => by cases e; exact hpB
 go_upto_region 3 with (first
  | (go_at_call 97; (refine (q1.out p 0 4 (Nat.zero_le _) (by omega) (by omega) _ k6 (HR.out.below hB) hAp).mono ?_); rintro e w1 ⟨r, k, rfl, hrl, hk, kp, hg⟩; obtain ⟨many, hmany, hm1, hm2⟩ : ∃ many : Nat, (1 : Int) + (r : Int) = (many : Int) ∧ 1 ≤ many ∧ many ≤ 4 := ⟨1 + r, by omega, by omega, by omega⟩))
 replace hB := hB.grown hg hB.size (fun k e => by cases e; exact hpB);clear k6 hg hrl;go_wp2_with fail
 go_loopw [8, 9, 10, 11, 12] (fun s8 s9 s10 _ _ wr => ∃ (i k : Nat) (ms : List Mem) (ss : List Nat), i ≤ many ∧ ms.length = i ∧ s10 = .int .i64 (i : Int) ∧ OwnM w.heap.size wr s8 ms ∧ OwnI w.heap.size wr s9 (intsN ss) ∧ CrewOK first ms ss ∧ k ≤ n ∧ Blk wr p 161 (numA A n c k) ∧ Below w.heap.size w wr) (fun _ _ s10 _ _ _ => many - (intOf s10).toNat)
 case atStart => exact ⟨0, k, [], [], by omega, rfl, rfl, OwnL.nil_ _ _ _ _ _, OwnL.nil_ _ _ _ _ _, CrewOK.nil first, hk, kp, hB⟩
 case round =>
  obtain ⟨i, k, ms, ss, hi, hil, rfl, ho1, ho2, HC, hk, kp, hB⟩ := hrel
  by_cases hlt : i < many
  ·have hlt' : (i : Int) < (many : Int) := by omega
   obtain ⟨f, hf1, hf2⟩ : ∃ f : Nat, (first : Int) + (i : Int) = (f : Int) ∧ f = first + i := ⟨first + i, by omega, rfl⟩;have m1 := Lib.hid (rText8_q f (by omega));have hds := decS_20 (n := f) (by omega);obtain ⟨t, ht⟩ : ∃ t : ByteArray, (⟨#[109, 101, 109, 98, 101, 114, 32]⟩ : ByteArray) ++ decS f = t := ⟨_, rfl⟩;have hts : t.size = 7 + (decS f).size := by rw [← ht, ByteArray.size_append]; rfl
   have m2 := Lib.hid (rKey_q t (by omega));have hkl := pos_lt (scal_lt (107 :: t.data.toList));have hkn : posN (scalN (107 :: t.data.toList)) = keyN t.data.toList := rfl;rw [hkn] at hkl;generalize keyN t.data.toList = s at *;generalize decS f = d at *;obtain ⟨y, hy⟩ := exq (gP s);rw [← hy] at m2;have HS := Lib.hid (And.intro hkl (And.intro hy hf2));have HCC := Lib.hid HC;clear hkn hkl hy HC hf2
   go_upto_region 9 with (first
    | (go_at_call 94; (with_reducible refine (m1.out _).mono ?_); rintro e w2 ⟨rfl, hb⟩; replace ho1 := ho1.below hb; replace ho2 := ho2.below hb; replace kp := kp.below hb kp.lt; replace hB := below_then hB hb; clear hb)
    | (go_at_call 26; (try rw [ht]); (with_reducible refine (m2.out _).mono ?_); rintro e w3 ⟨rfl, hb⟩; replace ho1 := ho1.below hb; replace ho2 := ho2.below hb; replace kp := kp.below hb kp.lt; replace hB := below_then hB hb; clear hb))
   have hml : ms.length ≤ 4 := by omega
   have hsl : (intsN ss).length ≤ 4 := by rw [intsN_len, HCC.out.len]; omega
   go_wp2_with (first
    | (go_at_call 97; (refine (q1.out p k 3 hk (by omega) (by omega) _ kp (HR.out.below hB) hAp).mono ?_); rintro e w4 ⟨r4, k4, rfl, hrl, hk4, kp4, hg⟩; have o1 := OwnL.kept ho1 hg (.inr (Ne.symm (own_ty ho1 kp (by decide)))); have o2 := OwnL.kept ho2 hg (.inr (Ne.symm (own_ty ho2 kp (by decide)))); have hB4 := hB.grown hg hB.size (fun k e => by cases e; exact hpB); clear ho1 ho2 hB kp hg)
    | (refine wp_append_row (enc := encM) Tryz.underlying42 mem_info rfl (by decide) (by decide) rfl _ _ rfl ⟨(f : Int), 1 + (r4 : Int), (y : Int)⟩ rfl rfl (encM_one _) rfl o1 rfl (by omega) hB4.size ?_; intro v5 w5 ho5 hg5; have o52 := OwnL.kept o2 hg5 (rows_apart o2 o1 (by decide)); have kp5 := kp4.grown hg5 (own_ty o1 kp4 (by decide)); have hB5 := hB4.grown hg5 hB4.size (own_high o1); clear o1 o2 hB4 kp4 hg5)
    | (refine wp_append_row (enc := encI) Tryz.underlying25 int_info rfl (by decide) (by decide) rfl _ _ rfl (s : Int) rfl rfl (encI_one _) rfl o52 rfl (by omega) hB5.size ?_; intro v6 w6 ho6 hg6; have o61 := OwnL.kept ho5 hg6 (rows_apart ho5 o52 (by decide)); have kp6 := kp5.grown hg6 (own_ty o52 kp5 (by decide)); have hB6 := hB5.grown hg6 hB5.size (own_high o52); clear ho5 o52 hB5 kp5 hg6))
   go_roundw
   case rel =>
    refine ⟨i + 1, k4, ms ++ [⟨(f : Int), 1 + (r4 : Int), (y : Int)⟩], ss ++ [s], by omega, by simp [hil], by go_num, o61, by rw [intsN_snoc]; exact ho6, ?_, hk4, kp6, hB6⟩;have h := HCC.out.snoc (wt := 1 + (r4 : Int)) (s := s) (by omega) (by omega) HS.out.1.1 HS.out.1.2;rw [← HS.out.2.1, hil, ← HS.out.2.2] at h;exact h
   case measure => simp [intOf]; omega
  ·obtain rfl : i = many := by omega
   go_wp2_with fail;go_ret2;exact ⟨_, _, ms, ss, rfl, ho1, ho2, HC, by omega, by omega, hB⟩
def mostN (n : Nat) : Nat := if n < 1 then 0 else (n - 1) / 3
theorem need_most {n : Nat} (h : ¬ n < 1) : needN n = mostN n + 1 := by unfold needN mostN; rw [if_neg h, if_neg h]
theorem rMost_q (n : Nat) (hn : n ≤ 1000000) : RetS 154 #[.int .i64 (n : Int)] (.int .i64 ((mostN n : Nat) : Int)) := by
 intro w;have HM : Hid (∀ k, (1 ≤ n ∧ k < n / 3 + 1 ∧ 3 * (k + 1) < n) ↔ (k < mostN n)) := Lib.hid (fun k => by unfold mostN; split <;> omega);have hle : mostN n ≤ n := by unfold mostN; split <;> omega
 generalize mostN n = m at *;go_enter Tryz.func154, Tryz.ntmps154;go_wp2_with fail
 go_loop [3] (fun s3 => ∃ k : Nat, k ≤ m ∧ s3 = .int .i64 (k : Int)) (fun s3 => m - (intOf s3).toNat)
 case atStart => exact ⟨0, Nat.zero_le _, rfl⟩
 case round =>
  obtain ⟨k, hk, rfl⟩ := hrel
  by_cases hlt : k < m
  ·obtain ⟨a1, a2, a3⟩ := (HM.out k).2 hlt;have b1 : (1 : Int) ≤ (n : Int) := by omega
   have b2 : (k : Int) < (n : Int) / 3 + 1 := by omega
   have b3 : 3 * ((k : Int) + 1) < (n : Int) := by omega
   go_wp2_with fail;go_round
   case rel => exact ⟨k + 1, by omega, by go_num⟩
   case measure => simp [intOf]; omega
  ·obtain rfl : k = m := by omega
   have hno : ¬ (1 ≤ n ∧ k < n / 3 + 1 ∧ 3 * (k + 1) < n) := fun h => hlt ((HM.out k).1 h)
   by_cases b1 : (1 : Int) ≤ (n : Int)
   ·by_cases b2 : (k : Int) < (n : Int) / 3 + 1
    ·have b3 : ¬ 3 * ((k : Int) + 1) < (n : Int) := by omega
     clear hno;go_wp2_with fail;go_ret;exact ⟨rfl, rfl⟩
    ·clear hno;go_wp2_with fail;go_ret;exact ⟨rfl, rfl⟩
   ·clear hno;go_wp2_with fail;go_ret;exact ⟨rfl, rfl⟩
theorem rNeed_q (n : Nat) (hn : n ≤ 1000000) : RetS 90 #[.int .i64 (n : Int)] (.int .i64 ((needN n : Nat) : Int)) := by
 intro w;have m1 := Lib.hid (rMost_q n hn);have hle : mostN n ≤ n := by unfold mostN; split <;> omega
 by_cases h : n < 1
 ·have e : needN n = 0 := if_pos h;rw [e];have h' : (n : Int) < 1 := by omega
  go_enter Tryz.func90, Tryz.ntmps90;go_wp2_with fail;go_ret;exact ⟨rfl, rfl⟩
 ·rw [need_most h];have h' : ((n : Int) < 1) = False := by simp only [eq_iff_iff, iff_false]; omega
  clear h;generalize mostN n = m at *;obtain ⟨r, hr, hr1, hrl⟩ : ∃ r : Nat, (m : Int) + 1 = (r : Int) ∧ r = m + 1 ∧ r ≤ 1000001 := ⟨m + 1, by omega, rfl, by omega⟩;rw [← hr1];clear hr1;go_enter Tryz.func90, Tryz.ntmps90
  go_wp2_with (first
   | (go_at_call 154; (with_reducible refine (m1.out _).mono ?_); rintro e w1 ⟨rfl, hww⟩; obtain rfl := hww.symm))
  go_ret;exact ⟨rfl, rfl⟩
theorem RowM.get {w : World} {A : Option Addr} {n c : Nat} {ms : List Mem} (h : RowM w A n c ms) {k : Nat} (hk : k < n) : ∃ b o m, A = some ⟨b, o, none⟩ ∧ ms[k]? = some m ∧ w.cell? ⟨b, o + k * 3, none⟩ = some (.int .i64 m.id) ∧ w.cell? ⟨b, o + k * 3 + 1, none⟩ = some (.int .i64 m.wt) ∧ w.cell? ⟨b, o + k * 3 + 2, none⟩ = some (.int .i64 m.pub) := by
 obtain ⟨b, o, e, hc⟩ := h.at_ (by omega);have hl : k < ms.length := by have := h.len; omega
 have hm : ms[k]? = some ms[k] := List.getElem?_eq_getElem hl;exact ⟨b, o, ms[k], e, hm, hc k 0 _ _ hm rfl, hc k 1 _ _ hm rfl, hc k 2 _ _ hm rfl⟩
theorem rowM_at {w : World} {b o n c : Nat} {ms : List Mem} (h : RowM w (some ⟨b, o, none⟩) n c ms) {k : Nat} (hk : k < n) : ∃ m, ms[k]? = some m ∧ w.cell? ⟨b, o + k * 3, none⟩ = some (.int .i64 m.id) ∧ w.cell? ⟨b, o + k * 3 + 1, none⟩ = some (.int .i64 m.wt) ∧ w.cell? ⟨b, o + k * 3 + 2, none⟩ = some (.int .i64 m.pub) := by
 obtain ⟨b', o', m, e, h1, h2⟩ := h.get hk
 cases e
 exact ⟨m, h1, h2⟩
def I64M (ms : List Mem) : Prop := ∀ m ∈ ms, I64 m.id ∧ I64 m.wt ∧ I64 m.pub
def totR (ms : List Mem) : Int := if rightMems ms then totW ms else 0
theorem totW_take {ms : List Mem} {k : Nat} {m : Mem} (h : ms[k]? = some m) : totW (ms.take (k + 1)) = totW (ms.take k) + m.wt := by
 rw [List.take_add_one, h]; exact totW_snoc _ _
theorem totR_bad {ms : List Mem} {k : Nat} {m : Mem} (h : ms[k]? = some m) (hb : (goodW m && firstB ms k m) = false) : totR ms = 0 := by
 have : okB ms ms.length = false := by
  have hk := (List.getElem?_eq_some_iff.1 h).1
  cases he : okB ms ms.length
  ·rfl
  ·have := okB_le (show k + 1 ≤ ms.length by omega) he;rw [okB_succ h, hb, Bool.and_false] at this
   cases this
 unfold totR rightMems;rw [this]; simp
theorem goodW_iff {m : Mem} : goodW m = true ↔ 1 ≤ m.wt ∧ m.wt ≤ 20 := by unfold goodW; simp
theorem rtotal_q (A : Option Addr) (n c : Nat) (ms : List Mem) (hn : n ≤ 9223372036854775807) (_hI : I64M ms) (w : World) (hr : RowM w A n c ms) :
 Calls Tryz.prog 91 #[.slice A n c] w fun e w' => e = .returned (.int .i64 (totR ms)) ∧ Below w.heap.size w w' := by
 have hl := hr.len;obtain ⟨T, hT⟩ := exq (totR ms);rw [← hT];have HT := Lib.hid hT;clear hT;have hB := Below.refl w.heap.size w
 by_cases h1 : n < 1
 ·have h1' : (n : Int) < 1 := by omega
  obtain rfl : T = 0 := by rw [HT.out]; unfold totR rightMems; rw [decide_eq_false (show ¬ 1 ≤ ms.length by omega)]; simp
  go_enter Tryz.func91, Tryz.ntmps91;go_wp2_with fail;go_ret;exact ⟨rfl, hB⟩
 ·have h1' : ((n : Int) < 1) = False := by simp only [eq_iff_iff, iff_false]; omega
  by_cases h2 : 13 < n
  ·have h2' : (13 : Int) < (n : Int) := by omega
   obtain rfl : T = 0 := by rw [HT.out]; unfold totR rightMems; rw [decide_eq_false (show ¬ ms.length ≤ 13 by omega)]; simp
   go_enter Tryz.func91, Tryz.ntmps91;go_wp2_with fail;go_ret;exact ⟨rfl, hB⟩
  ·have h2' : ((13 : Int) < (n : Int)) = False := by simp only [eq_iff_iff, iff_false]; omega
   obtain ⟨b, o, -, rfl, -⟩ := hr.get (k := 0) (by omega);have HR := Lib.hid hr;clear hr;go_enter Tryz.func91, Tryz.ntmps91;go_wp2_with fail
   go_loopw [3, 4, 5] (fun s3 s4 _ wr => ∃ (i : Nat) (t : Int), i ≤ n ∧ s4 = .int .i64 (i : Int) ∧ s3 = .int .i64 t ∧ 0 ≤ t ∧ t ≤ 20 * (i : Int) ∧ Hid (t = totW (ms.take i) ∧ okB ms i = true) ∧ Below w.heap.size w wr) (fun _ s4 _ _ => n - (intOf s4).toNat)
   case atStart => exact ⟨0, 0, by omega, rfl, rfl, by omega, by omega, Lib.hid ⟨rfl, rfl⟩, hB⟩
   case round =>
    obtain ⟨i, t, hi, rfl, rfl, ht0, ht1, HO, hB⟩ := hrel
    by_cases hlt : i < n
    ·have hlt' : (i : Int) < (n : Int) := by omega
     obtain ⟨m, hm, -, c1, -⟩ := rowM_at (HR.out.below hB) hlt
     by_cases hg : goodW m = true
     ·obtain ⟨g1, g2⟩ := goodW_iff.1 hg;have g1' : (m.wt < 1) = False := by simp only [eq_iff_iff, iff_false]; omega
      have g2' : ((20 : Int) < m.wt) = False := by simp only [eq_iff_iff, iff_false]; omega
      have HM := Lib.hid (And.intro hm hg);clear hm hg;go_upto_region 9 with fail;go_wp2_with fail
      go_loopw [5] (fun s5 wz => ∃ k : Nat, k ≤ i ∧ s5 = .int .i64 (k : Int) ∧ Hid ((ms.take k).all (fun x => x.id != m.id) = true) ∧ Below w.heap.size w wz) (fun s5 _ => i - (intOf s5).toNat)
      case atStart => exact ⟨0, by omega, rfl, Lib.hid rfl, hB⟩
      case round =>
       clear c1 hB;obtain ⟨k, hk, rfl, HK, hB⟩ := hrel
       by_cases hki : k < i
       ·have hki' : (k : Int) < (i : Int) := by omega
        have hkn : (k : Int) < (n : Int) := by omega
        obtain ⟨x, hx, d0, -, -⟩ := rowM_at (HR.out.below hB) (show k < n by omega);obtain ⟨m', hm', c0, -, -⟩ := rowM_at (HR.out.below hB) hlt;obtain rfl : m' = m := Option.some.inj (hm'.symm.trans HM.out.1);have HX := Lib.hid hx;clear hx hm';go_upto_region 12 with fail
        go_quiet (fail)
        have hB2 := below_drewN hB nq;clear d0 c0;generalize wr.drewN nq = wq at hB2 ⊢;clear hB
        by_cases he : x.id = m'.id
        ·have hb : (x.id == m'.id) = true := by simpa using he
         obtain rfl : T = 0 := by
          rw [HT.out];refine totR_bad HM.out.1 ?_;have : firstB ms i m' = false := by
           unfold firstB;rw [List.all_eq_false];refine ⟨x, ?_, by simp [he]⟩;have := List.mem_of_getElem? (l := ms.take i) (i := k) (a := x) (by rw [List.getElem?_take, if_pos hki]; exact HX.out);exact this
          rw [this, Bool.and_false]
         go_wp2_with fail;go_ret;exact ⟨rfl, hB2⟩
        ·have hb : (x.id == m'.id) = false := by simpa using he
         go_wp2_with fail;go_roundw
         case rel =>
          refine ⟨k + 1, by omega, by go_num, Lib.hid ?_, hB2⟩;rw [List.take_add_one, HX.out, List.all_append, HK.out]
          simp [he]
         case measure => simp [intOf]; omega
       ·obtain rfl : k = i := by omega
        obtain ⟨m', hm', -, c1, -⟩ := rowM_at (HR.out.below hB) hlt;obtain rfl : m' = m := Option.some.inj (hm'.symm.trans HM.out.1);clear hm';go_wp2_with fail;go_roundw
        case rel =>
         refine ⟨k + 1, t + m'.wt, by omega, by go_num, by go_num, by omega, by omega, Lib.hid ⟨?_, ?_⟩, hB⟩
         ·rw [totW_take HM.out.1, HO.out.1]
         ·rw [okB_succ HM.out.1, HO.out.2, HM.out.2];exact HK.out
        case measure => simp [intOf]; omega
     ·have hgb : m.wt < 1 ∨ (¬ m.wt < 1 ∧ 20 < m.wt) := by
       have := mt goodW_iff.2 hg; omega
      obtain rfl : T = 0 := by rw [HT.out]; exact totR_bad hm (by rw [Bool.not_eq_true] at hg; rw [hg]; rfl)
      rcases hgb with hgb | ⟨hgb1, hgb2⟩
      ·go_wp2_with fail;go_ret;exact ⟨rfl, hB⟩
      ·go_wp2_with fail;go_ret;exact ⟨rfl, hB⟩
    ·obtain rfl : i = n := by omega
     rw [List.take_of_length_le (by omega)] at HO
     by_cases h60 : 60 < t
     ·obtain rfl : T = 0 := by rw [HT.out]; unfold totR rightMems; rw [decide_eq_false (show ¬ totW ms ≤ 60 by rw [← HO.out.1]; omega)]; simp
      go_wp2_with fail;go_ret;exact ⟨rfl, hB⟩
     ·obtain rfl : T = t := by
       rw [HT.out, HO.out.1];unfold totR rightMems;rw [hl, HO.out.2, decide_eq_true (show 1 ≤ i by omega), decide_eq_true (show i ≤ 13 by omega), decide_eq_true (show totW ms ≤ 60 by rw [← HO.out.1]; omega)]
       rfl
      go_wp2_with fail;go_ret;exact ⟨rfl, hB⟩
theorem OwnL.le {α : Type} {enc : α → List Value} {e : TypeId} {s B B' : Nat} {w : World} {v : Value} {l : List α} (h : OwnL enc e s B' w v l) (hB : B ≤ B') : OwnL enc e s B w v l := by
 refine ⟨h.1, ?_⟩
 rcases h.2 with h1 | ⟨g, cap, cur, h1, h2, h3⟩
 ·exact .inl h1
 ·exact .inr ⟨g, cap, cur, h1, Nat.le_trans hB h2, h3⟩
def encV (v : Value) : List Value := [v]
theorem encV_len (v : Value) : (encV v).length = 1 := rfl
theorem ints_info : (Tryz.prog.info? 25).map (fun i => (i.zero, i.size, i.bytes)) = some (some (.slice none 0 0), 1, 24) := by kernel_rfl
abbrev OwnV (B : Nat) (w : World) (v : Value) (l : List Value) : Prop := OwnL encV 25 1 B w v l
structure ListI (B : Nat) (w : World) (vs : List Value) (ls : List (List Int)) : Prop where
 len : vs.length = ls.length
 one : ∀ (i : Nat) (v : Value) (l : List Int), vs[i]? = some v → ls[i]? = some l → OwnI B w v l
theorem ListI.nil (B : Nat) (w : World) : ListI B w [] [] := ⟨rfl, fun i v l h => by simp at h⟩
theorem ListI.below {B : Nat} {w w' : World} {vs : List Value} {ls : List (List Int)} (h : ListI B w vs ls) (hb : Below w.heap.size w w') : ListI B w' vs ls := ⟨h.len, fun i v l hv hl => (h.one i v l hv hl).below hb⟩
theorem ListI.kept {B B2 : Nat} {w w' : World} {vs us : List Value} {ls : List (List Int)} {v : Value} (h : ListI B w vs ls) (ho : OwnV B2 w v us) (hg : w.grownBy w' v.ownBlock) : ListI B w' vs ls :=
 ⟨h.len, fun i u l hv hl => OwnL.kept (h.one i u l hv hl) hg (rows_apart (h.one i u l hv hl) ho (by decide))⟩
theorem ListI.snoc {B : Nat} {w : World} {vs : List Value} {ls : List (List Int)} {v : Value} {l : List Int} (h : ListI B w vs ls) (ho : OwnI B w v l) : ListI B w (vs ++ [v]) (ls ++ [l]) := by
 refine ⟨by simp [h.len], fun i u k hu hk => ?_⟩
 rcases Nat.lt_or_ge i vs.length with hi | hi
 ·rw [List.getElem?_append_left hi] at hu;rw [List.getElem?_append_left (by rw [← h.len]; exact hi)] at hk;exact h.one i u k hu hk
 ·have hi0 : i = vs.length := by
   have := (List.getElem?_eq_some_iff.1 hu).1
   simp at this
   omega
  subst hi0;rw [List.getElem?_append_right (Nat.le_refl _), Nat.sub_self] at hu;rw [List.getElem?_append_right (by rw [h.len]; exact Nat.le_refl _), h.len, Nat.sub_self] at hk;obtain rfl := Option.some.inj hu;obtain rfl := Option.some.inj hk;exact ho
theorem OwnI.one_cell {B : Nat} {w : World} {v : Value} {l : List Int} (h : OwnI B w v l) : ∀ u ∈ encV v, u.oneCell' = true := fun u hu => by
 obtain ⟨A, c, rfl, -⟩ := OwnL.row h encI_len;obtain rfl := List.mem_singleton.1 hu
 rfl
theorem goodW_of {ms : List Mem} {k i : Nat} {m : Mem} (h : okB ms k = true) (hi : i < k) (hm : ms[i]? = some m) : 1 ≤ m.wt ∧ m.wt ≤ 20 := by
 have h1 := okB_le (show i + 1 ≤ k by omega) h;rw [okB_succ hm] at h1;simp only [Bool.and_eq_true] at h1;exact goodW_iff.1 h1.2.1
theorem totW_ge : ∀ (ms : List Mem), (∀ m ∈ ms, 1 ≤ m.wt) → (ms.length : Int) ≤ totW ms
 | [], _ => by simp [totW]
 | m :: ms, h => by
   have h1 := totW_ge ms fun x hx => h x (List.mem_cons_of_mem _ hx);have h2 := h m (List.mem_cons_self ..);simp only [totW, List.map_cons, List.sum_cons, List.length_cons] at h1 ⊢
   omega
structure RightM (ms : List Mem) : Prop where
 lo : 1 ≤ ms.length
 hi : ms.length ≤ 13
 ok : okB ms ms.length = true
 tot : totW ms ≤ 60
theorem rightM_iff {ms : List Mem} : rightMems ms = true ↔ RightM ms := by
 unfold rightMems;simp only [Bool.and_eq_true, decide_eq_true_eq];exact ⟨fun ⟨⟨⟨a, b⟩, c⟩, d⟩ => ⟨a, b, c, d⟩, fun ⟨a, b, c, d⟩ => ⟨⟨⟨a, b⟩, c⟩, d⟩⟩
theorem RightM.wt {ms : List Mem} (h : RightM ms) : ∀ m ∈ ms, 1 ≤ m.wt ∧ m.wt ≤ 20 := fun m hm => by
 obtain ⟨i, hi, rfl⟩ := List.getElem_of_mem hm;exact goodW_of h.ok hi (List.getElem?_eq_getElem hi)
theorem totR_right {ms : List Mem} (h : RightM ms) : totR ms = totW ms ∧ 1 ≤ totW ms ∧ totW ms ≤ 60 := by
 have h1 := totW_ge ms fun m hm => (h.wt m hm).1;have h2 := h.lo;exact ⟨if_pos (rightM_iff.2 h), by omega, h.tot⟩
def PointsPost (ms : List Mem) (w : World) (e : Ending) (w' : World) : Prop :=
 ∃ (v : Value) (vs : List Value), e = .returned (.tuple #[v, .bool (rightMems ms)]) ∧ OwnV w.heap.size w' v vs ∧ ListI w.heap.size w' vs (if rightMems ms then pointsL 1 ms else []) ∧ Below w.heap.size w w'
theorem pointsL_take {ms : List Mem} {k : Nat} {m : Mem} (h : ms[k]? = some m) : pointsL 1 (ms.take (k + 1)) = pointsL 1 (ms.take k) ++ [runZ (nextP 1 (ms.take k)) m.wt.toNat] := by
 rw [List.take_add_one, h]; exact pointsL_snoc _ _ _
theorem nextP_take {ms : List Mem} {k : Nat} {m : Mem} (h : ms[k]? = some m) : nextP 1 (ms.take (k + 1)) = nextP 1 (ms.take k) + m.wt.toNat := by
 rw [List.take_add_one, h]; exact nextP_snoc _ _ _
theorem rPoints_q (A : Option Addr) (n c : Nat) (ms : List Mem) (hn : n ≤ 9223372036854775807) (hI : I64M ms) (w : World) (hr : RowM w A n c ms) :
 Calls Tryz.prog 79 #[.slice A n c] w (PointsPost ms w) := by
 have hl := hr.len;have m1 := Lib.hid (fun W h => rtotal_q A n c ms hn hI W h);have HR := Lib.hid hr
 by_cases hok : rightMems ms = true
 ·have hM := rightM_iff.1 hok;obtain ⟨e1, e2, e3⟩ := totR_right hM;rw [e1] at m1;have HT := Lib.hid e1;generalize totW ms = T at *;have hT0 : (T == 0) = false := by rw [beq_eq_false_iff_ne]; omega
  have hn13 : n ≤ 13 := by have := hM.hi; omega
  have hn1 : 1 ≤ n := by have := hM.lo; omega
  obtain ⟨b, o, -, rfl, -⟩ := hr.get (k := 0) (by omega);have HM := Lib.hid hM;have HOK := Lib.hid hok;clear hM e1 hr hok;go_enter Tryz.func79, Tryz.ntmps79
  go_wp2_with (first
   | (go_at_call 91; (with_reducible refine (m1.out _ HR.out).mono ?_); rintro e w1 ⟨rfl, hB⟩))
  go_loopw [4, 5, 6, 7, 8] (fun s4 s5 s6 _ _ wr => ∃ (i x : Nat) (vs : List Value), i ≤ n ∧ s6 = .int .i64 (i : Int) ∧ s5 = .int .i64 (x : Int) ∧ vs.length = i ∧ x ≤ 20 * i ∧ OwnV w.heap.size wr s4 vs ∧ ListI w.heap.size wr vs (pointsL 1 (ms.take i)) ∧ Hid (nextP 1 (ms.take i) = x + 1) ∧ Below w.heap.size w wr) (fun _ _ s6 _ _ _ => n - (intOf s6).toNat)
  case atStart => exact ⟨0, 0, [], by omega, rfl, rfl, rfl, by omega, OwnL.nil_ _ _ _ _ _, ListI.nil _ _, Lib.hid rfl, hB⟩
  case round =>
   obtain ⟨i, x, vs, hi, rfl, rfl, hvl, hx, ho, hL, HN, hB⟩ := hrel
   by_cases hlt : i < n
   ·have hlt' : (i : Int) < (n : Int) := by omega
    obtain ⟨m, hm, -⟩ := rowM_at (HR.out.below hB) hlt;obtain ⟨g1, g2⟩ := HM.out.wt m (List.mem_of_getElem? hm);obtain ⟨k0, hk0, hk1⟩ : ∃ k0 : Nat, m.wt = (k0 : Int) ∧ k0 = m.wt.toNat := ⟨m.wt.toNat, by omega, rfl⟩;have HMM := Lib.hid hm;have HK := Lib.hid hk1;have hk20 : k0 ≤ 20 := by omega
    clear hm hk1;go_wp2_with fail
    go_loopw [5, 7, 8] (fun s5 s7 s8 wz => ∃ k : Nat, k ≤ k0 ∧ s8 = .int .i64 (k : Int) ∧ s5 = .int .i64 ((x : Int) + (k : Int)) ∧ OwnI wr.heap.size wz s7 (runZ (x + 1) k) ∧ Below wr.heap.size wr wz) (fun _ _ s8 _ => k0 - (intOf s8).toNat)
    case atStart => exact ⟨0, by omega, rfl, by simp, OwnL.nil_ _ _ _ _ _, Below.refl _ _⟩
    case round =>
     obtain ⟨k, hk, rfl, rfl, hoi, hb⟩ := hrel;obtain ⟨m', hm', -, c1, -⟩ := rowM_at ((HR.out.below hB).below hb) hlt;obtain rfl : m' = m := Option.some.inj (hm'.symm.trans HMM.out);rw [hk0] at c1;clear hm'
     by_cases hkk : k < k0
     ·have hkk' : (k : Int) < (k0 : Int) := by omega
      obtain ⟨y, hy, hy1⟩ : ∃ y : Int, (x : Int) + (k : Int) + 1 = y ∧ y = ((x + 1 + k : Nat) : Int) := ⟨_, rfl, by omega⟩;have hyl : y ≤ 1000 := by omega
      have hyg : 0 ≤ y := by omega
      have HY := Lib.hid hy1;have hrl : (runZ (x + 1) k).length ≤ 20 := by rw [runZ_len]; omega
      clear hy1;go_wp2_with (refine wp_append_row (enc := encI) Tryz.underlying25 int_info rfl (by decide) (by decide) rfl _ _ rfl y rfl rfl (encI_one _) rfl hoi rfl (by omega) hb.size ?_; intro v6 w6 ho6 hg6);go_roundw
      case rel => exact ⟨k + 1, by omega, by go_num, congrArg (Value.int .i64) (by have := HY.out; omega), by rw [runZ_succ, ← HY.out]; exact ho6, hb.grown hg6 hb.size (own_high hoi)⟩
      case measure => simp [intOf]; omega
     ·obtain rfl : k = k0 := by omega
      have hB2 := below_then hB hb;have hoo := ho.below hb;have hLL := hL.below hb;have hoi2 : OwnI w.heap.size _ _ _ := hoi.le hB.size;clear hoi;obtain ⟨A7, c7, rfl, -⟩ := OwnL.row hoi2 encI_len;go_wp2_with (refine wp_append_row (enc := encV) Tryz.underlying29 ints_info rfl (by decide) (by decide) rfl _ _ rfl _ rfl rfl (OwnI.one_cell hoi2) rfl hoo rfl (by omega) hB2.size ?_; intro v6 w6 ho6 hg6);go_roundw
      case rel =>
       refine ⟨i + 1, x + k, _, by omega, by go_num, congrArg (Value.int .i64) (by omega), by simp [hvl], by omega, ho6, ?_, Lib.hid ?_, hB2.grown hg6 hB2.size (own_high hoo)⟩
       ·rw [pointsL_take HMM.out, HN.out, ← HK.out];exact (hLL.kept hoo hg6).snoc (OwnL.kept hoi2 hg6 (rows_apart hoi2 hoo (by decide)))
       ·rw [nextP_take HMM.out, HN.out, ← HK.out]; omega
      case measure => simp [intOf]; omega
   ·obtain rfl : i = n := by omega
    rw [List.take_of_length_le (by omega)] at hL;go_wp2_with fail;go_ret2;exact ⟨_, vs, by rw [HOK.out]; rfl, ho, by rw [HOK.out]; exact hL, hB⟩
 ·have hf : rightMems ms = false := by simpa using hok
  have e1 : totR ms = 0 := by unfold totR; rw [hf]; rfl
  rw [e1] at m1;have HF := Lib.hid hf;clear hok hf e1 hr;go_enter Tryz.func79, Tryz.ntmps79
  go_wp2_with (first
   | (go_at_call 91; (with_reducible refine (m1.out _ HR.out).mono ?_); rintro e w1 ⟨rfl, hB⟩))
  go_ret2;exact ⟨_, [], by rw [HF.out]; rfl, OwnL.nil_ _ _ _ _ _, by rw [HF.out]; exact ListI.nil _ _, hB⟩
end Go.Proofs.YtkpinmejfdnhbaaGreatDoor
