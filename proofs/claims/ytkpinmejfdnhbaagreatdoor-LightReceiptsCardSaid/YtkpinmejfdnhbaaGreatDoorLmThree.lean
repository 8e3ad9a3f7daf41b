/- Joined by a program: LmI, LmJ, LmK, LmL, LmM, LmN. -/
import Derived.Test.YtkpinmejfdnhbaaGreatDoorLwJ
import Derived.Test.YtkpinmejfdnhbaaGreatDoorLmTwo
import Derived.Test.YtkpinmejfdnhbaaGreatDoorLwP
import Derived.Test.YtkpinmejfdnhbaaGreatDoorLwQ
import Derived.Test.YtkpinmejfdnhbaaGreatDoorLlA
set_option maxRecDepth 100000
set_option maxHeartbeats 3000000
namespace Go.Proofs.YtkpinmejfdnhbaaGreatDoor
open Go.RowKit Go.Shelf
attribute [local go_sem] Oper.semAt_some
theorem bdg_q (W : World) (q : UInt8) : BDg (W.alloc (.cells #[.int .u8 (q.toNat : Int)] 5)) (some ⟨W.heap.size, 0, none⟩) 1 1 [q] :=
 ⟨rfl, Nat.le_refl _, fun _ => ⟨_, 0, rfl, fun j d hd => by
  rw [Nat.zero_add]
  exact (Blk.new W 5 (u8a [q])).u8A hd⟩⟩
theorem dec_len20 {n : Nat} (h : n ≤ 9223372036854775807) : (Lib.decDigits n).length ≤ 20 := (dec_len 19 n (by omega)).1
theorem dec_more {m : Nat} (h : 0 < m) (s : List UInt8) (N : Nat) (e : Lib.decDigits m ++ s = Lib.decDigits N) :
 if m / 10 = 0 then UInt8.ofNat (48 + m % 10) :: s = Lib.decDigits N else Lib.decDigits (m / 10) ++ (UInt8.ofNat (48 + m % 10) :: s) = Lib.decDigits N := by
 rw [← e]
 split
 ·rename_i h0
  rw [Lib.decDigits_one (by omega), show m % 10 = m by omega]; rfl
 ·rename_i h0
  conv => rhs; rw [Lib.decDigits]
  rw [dif_neg (by omega), List.append_assoc]; rfl
theorem rdec5_q (N : Nat) (hN : N ≤ 9223372036854775807) : Ret 125 #[.int .i64 (N : Int)] (.string (decS N)) := by
 intro w
 by_cases h0 : N = 0
 ·subst h0;rw [decS_zero];have hB := Below.refl w.heap.size w;go_enter Tryz.func125, Tryz.ntmps125;go_wp2_with fail;go_ret;exact ⟨rfl, hB⟩
 ·have h0' : ¬ (N : Int) = 0 := by omega
  have h0n : ¬ (N : Int) < 0 := by omega
  have h20 := dec_len20 hN;obtain ⟨L, hL⟩ := exq (Lib.decDigits N);have HL : Hid (decS N = ⟨L.toArray⟩) := Lib.hid (by rw [hL]; rfl);have HLE : Hid (L = Lib.decDigits N) := Lib.hid hL;have HS : Hid (if N = 0 then ([] : List UInt8) = L else Lib.decDigits N ++ [] = L) := Lib.hid (by rw [if_neg h0, List.append_nil, hL]);rw [← hL] at h20;obtain ⟨ds, hds⟩ := exq (decS N);rw [← hds] at HL ⊢;clear hL hds;have hB := Below.refl w.heap.size w;go_enter Tryz.func125, Tryz.ntmps125;go_wp2_with fail
  go_loopw [3, 4, 5] (fun s3 s4 _ wr => ∃ (m : Nat) (s : ByteArray), m ≤ N ∧ s3 = .string s ∧ s4 = .int .i64 (m : Int) ∧ s.size ≤ 20 ∧ Hid (if m = 0 then s.data.toList = L else Lib.decDigits m ++ s.data.toList = L) ∧ Below w.heap.size w wr) (fun _ s4 _ _ => (intOf s4).toNat)
  case atStart => exact ⟨N, _, Nat.le_refl _, rfl, rfl, Nat.zero_le _, HS, hB⟩
  case round =>
   clear HS hB;obtain ⟨m, s, hm, rfl, rfl, hs, HX, hB⟩ := hrel
   by_cases hmz : m = 0
   ·subst hmz;have hsL : s = ds := by rw [HL.out]; exact bytes_eq (by rw [show s.data.toList = L from HX.out])
    subst hsL;clear HX;go_wp2_with fail;go_ret;exact ⟨rfl, hB⟩
   ·have hm' : ¬ (m : Int) = 0 := by omega
    have hsz : (Lib.decDigits m ++ s.data.toList).length ≤ 20 := by have := HX.out; rw [if_neg hmz] at this; rw [this]; exact h20
    have hd0 : 0 < (Lib.decDigits m).length := by rw [Lib.decDigits]; split <;> simp
    rw [List.length_append, size_len] at hsz;have hs19 : s.size ≤ 19 := by omega
    have HY : Hid (if m / 10 = 0 then UInt8.ofNat (48 + m % 10) :: s.data.toList = L else Lib.decDigits (m / 10) ++ (UInt8.ofNat (48 + m % 10) :: s.data.toList) = L) := Lib.hid (by
     have := HX.out;rw [if_neg hmz, HLE.out] at this;rw [HLE.out]
     exact dec_more (by omega) _ _ this)
    obtain ⟨m2, hq1, hq2⟩ : ∃ m2 : Nat, (m : Int).tdiv 10 = (m2 : Int) ∧ m2 = m / 10 := ⟨m / 10, by rw [Int.tdiv_eq_ediv_of_nonneg (by omega)]; omega, rfl⟩;obtain ⟨d, hd1, hd2⟩ : ∃ d : Nat, (m : Int).tmod 10 = (d : Int) ∧ d = m % 10 := ⟨m % 10, by rw [Int.tmod_eq_emod_of_nonneg (by omega)]; omega, rfl⟩;have hq3 : (m : Int) / 10 = (m2 : Int) := by omega
    have hd3 : (m : Int) % 10 = (d : Int) := by omega
    have hd9 : d ≤ 9 := by omega
    have hm2 : m2 < m := by omega
    have hdn : ¬ (d : Int) < 0 := by omega
    rw [← hq2, ← hd2] at HY;obtain ⟨q, hw8, hq8⟩ : ∃ q : UInt8, 48 + (d : Int) = (q.toNat : Int) ∧ Hid (q = UInt8.ofNat (48 + d)) := ⟨UInt8.ofNat (48 + d), by rw [UInt8.toNat_ofNat']; omega, Lib.hid rfl⟩;have hcv : ∀ W : World, (convert 116 9 (.slice (some ⟨W.heap.size, 0, none⟩) 1 1)).run Tryz.prog (W.alloc (.cells #[.int .u8 (q.toNat : Int)] 5)) = .ok (.string ⟨[q].toArray⟩) (W.alloc (.cells #[.int .u8 (q.toNat : Int)] 5)) :=
     fun W => run_bdg_str (bdg_q W q)
    obtain ⟨sq, hsq⟩ : ∃ sq : ByteArray, sq = ⟨[q].toArray⟩ := ⟨_, rfl⟩;have hsq1 : sq.size = 1 := by rw [hsq]; rfl
    have HZ : Hid (if m2 = 0 then (sq ++ s).data.toList = L else Lib.decDigits m2 ++ (sq ++ s).data.toList = L) := Lib.hid (by
     have := HY.out;rw [← hq8.out] at this;rw [hsq, ByteArray.data_append, Array.toList_append]
     exact this)
    rw [← hsq] at hcv;have n1 : (9223372036854775807 < sq.size + s.size) = False := by simp only [eq_iff_iff, iff_false]; omega
    clear HX HY hsq hq8 hq2 hd2 hsz hd0;go_wp2_with fail;go_roundw
    case rel => exact ⟨m2, _, by omega, rfl, rfl, by rw [ByteArray.size_append]; omega, HZ, below_al hB _⟩
    case measure => simp [intOf]; omega
theorem sigText_cat (r t : Nat) : ((decS r ++ ⟨#[46]⟩) ++ decS t) = strB (Lib.decDigits r ++ 46 :: Lib.decDigits t) := bytes_eq (by
 rw [strB_list];simp only [ByteArray.data_append, Array.toList_append]
 simp [decS])
theorem decS_size {n : Nat} (h : n ≤ 9223372036854775807) : (decS n).size ≤ 20 := by
 show (Lib.decDigits n).toArray.size ≤ _;rw [List.size_toArray];exact dec_len20 h
theorem Decimal22_q (z : Int) (hz : I64 z) : Ret 126 #[.int .i64 z] (.string (decIS z)) := by
 intro w;obtain ⟨h1, h2⟩ := hz
 by_cases h0 : 0 ≤ z
 ·obtain ⟨n, rfl⟩ := Int.eq_ofNat_of_zero_le h0;have m1 := Lib.hid (fun W => rOf (n : Int) W h2);have m2 := Lib.hid (fun W => rText (natS n) W (Nat.le_trans (natS_9 (by omega)) (by omega)));rw [Int.toNat_natCast] at m1;rw [sval_natS] at m2;rw [decIS_nat];go_enter Tryz.func126, Tryz.ntmps126;go_wp2_with fail;refine (m1.out _).mono ?_;rintro e w1 ⟨rfl, hB⟩;go_wp2_with fail;refine (m2.out _).mono ?_;rintro e w2 ⟨rfl, hb⟩;go_wp2_with fail;go_ret;exact ⟨rfl, below_then hB hb⟩
 ·have hB := Below.refl w.heap.size w
  by_cases hm : z = -9223372036854775808
  ·subst hm
   have e : decIS (-9223372036854775808) = ⟨#[45, 57, 50, 50, 51, 51, 55, 50, 48, 51, 54, 56, 53, 52, 55, 55, 53, 56, 48, 56]⟩ := bytes_eq (by
    rw [decIS_list, decI_of_neg (by omega)];show 45 :: Lib.decDigits 9223372036854775808 = _
    repeat (rw [Lib.decDigits]; simp only [Nat.reduceLT, Nat.reduceDiv, Nat.reduceMod, Nat.reduceAdd, dite_false, dite_true])
    rfl)
   rw [e];go_enter Tryz.func126, Tryz.ntmps126;go_wp2_with fail;go_ret;exact ⟨rfl, hB⟩
  ·obtain ⟨m, hmz⟩ : ∃ m : Nat, -z = (m : Int) := ⟨(-z).toNat, by omega⟩;have hdz : decI z = 45 :: Lib.decDigits m := by rw [decI_of_neg (by omega), show z.natAbs = m by omega]
   have m1 : Hid (∀ W, Calls Tryz.prog 105 #[.int .i64 (m : Int)] W fun e w' => e = .returned (.string (natS m)) ∧ Below W.heap.size W w') := Lib.hid (fun W => by
    have := rOf (m : Int) W (by omega)
    rwa [Int.toNat_natCast] at this)
   have m4 : Hid (∀ W, Calls Tryz.prog 104 #[.string (natS m)] W fun e w' => e = .returned (.string (decS m)) ∧ Below W.heap.size W w') := Lib.hid (fun W => by
    have := rText (natS m) W (Nat.le_trans (natS_9 (by omega)) (by omega))
    rwa [sval_natS] at this)
   have hs : (⟨#[45]⟩ : ByteArray) ++ decS m = decIS z := bytes_eq (by
    rw [ByteArray.data_append, Array.toList_append, decS_list, decIS_list, hdz]; rfl)
   have hz1 := decS_size (n := m) (by omega);have HS := Lib.hid hs;have n1 : (9223372036854775807 < 1 + (decS m).size) = False := by simp only [eq_iff_iff, iff_false]; omega
   generalize decIS z = r at *;generalize decS m = d at *;generalize natS m = x at *;clear hdz hs;go_enter Tryz.func126, Tryz.ntmps126
   go_wp2_with (first
    | (go_at_call 105; (with_reducible refine (m1.out _).mono ?_); rintro e w1 ⟨rfl, hb⟩; replace hB := below_then hB hb; clear hb)
    | (go_at_call 104; (with_reducible refine (m4.out _).mono ?_); rintro e w2 ⟨rfl, hb⟩; replace hB := below_then hB hb; clear hb))
   go_ret;exact ⟨by rw [← HS.out]; rfl, hB⟩
structure Rc where
 k : Int
 s : Int
 d : ByteArray
 n : Int
 o : List UInt8
 h : List UInt8
 p : List UInt8
 r : Nat
 t : Nat
structure RcOK (x : Rc) : Prop where
 k : I64 x.k
 s : I64 x.s
 n : I64 x.n
 d : x.d.size ≤ 1000
 o : x.o.length = 32
 h : x.h.length = 32
 p : x.p.length = 32
 r : x.r ≤ 9223372036854775807
 t : x.t ≤ 9223372036854775807
def rcCells (x : Rc) : List Value := [.int .i64 x.k, .int .i64 x.s, .string x.d, .int .i64 x.n] ++ (u8l x.o ++ (u8l x.h ++ (u8l x.p ++ [.int .i64 (x.r : Int), .int .i64 (x.t : Int)])))
def rcA (x : Rc) : Array Value := (rcCells x).toArray
theorem rcCells_len {x : Rc} (h : RcOK x) : (rcCells x).length = 102 := by
 unfold rcCells;rw [List.length_append, List.length_append, List.length_append, List.length_append, u8l_len, u8l_len, u8l_len, h.o, h.h, h.p]; rfl
theorem rcA_size {x : Rc} (h : RcOK x) : (rcA x).size = 102 := rcCells_len h
theorem rcA_one (x : Rc) : (rcA x).all (·.oneCell') = true := all_oneCell_toArray (fun v hv => by
 have hu : ∀ l : List UInt8, v ∈ u8l l → v.oneCell' = true := fun l hl => by
  simp only [u8l, List.mem_map] at hl;obtain ⟨b, _, rfl⟩ := hl; rfl
 unfold rcCells at hv
 rcases List.mem_append.1 hv with hv | hv
 ·simp only [List.mem_cons, List.not_mem_nil, or_false] at hv
  rcases hv with rfl | rfl | rfl | rfl <;> rfl
 ·rcases List.mem_append.1 hv with hv | hv
  ·exact hu _ hv
  ·rcases List.mem_append.1 hv with hv | hv
   ·exact hu _ hv
   ·rcases List.mem_append.1 hv with hv | hv
    ·exact hu _ hv
    ·simp only [List.mem_cons, List.not_mem_nil, or_false] at hv
     rcases hv with rfl | rfl <;> rfl)
theorem rc_size : (Tryz.prog.info? 75).map (·.size) = some 102 := by kernel_rfl
theorem sub_at {α : Type} {off : Nat} {l pre mid post : List α} (e : l = pre ++ (mid ++ post)) (hp : pre.length = off) {j : Nat} {v : α} (hv : mid[j]? = some v) : l[off + j]? = some v := by
 subst e hp;have := (List.getElem?_eq_some_iff.1 hv).1;rw [List.getElem?_append_right (by omega), show pre.length + j - pre.length = j by omega, List.getElem?_append_left this];exact hv
structure RcAt (Z : World) (a : Nat) (x : Rc) : Prop where
 k : Z.cell? ⟨a, 0, none⟩ = some (.int .i64 x.k)
 s : Z.cell? ⟨a, 1, none⟩ = some (.int .i64 x.s)
 d : Z.cell? ⟨a, 2, none⟩ = some (.string x.d)
 n : Z.cell? ⟨a, 3, none⟩ = some (.int .i64 x.n)
 o : Z.rangeAt a 4 (u8l x.o)
 h : Z.rangeAt a 36 (u8l x.h)
 p : Z.rangeAt a 68 (u8l x.p)
 r : Z.cell? ⟨a, 100, none⟩ = some (.int .i64 (x.r : Int))
 t : Z.cell? ⟨a, 101, none⟩ = some (.int .i64 (x.t : Int))
 all : Z.rangeAt a 0 (rcCells x)
theorem rc_at {Z : World} {p : Nat} {t : TypeId} {x : Rc} (hk : Blk Z p t (rcA x)) (h : RcOK x) : RcAt Z p x := by
 have e1 : rcCells x = [.int .i64 x.k, .int .i64 x.s, .string x.d, .int .i64 x.n] ++ (u8l x.o ++ (u8l x.h ++ (u8l x.p ++ [.int .i64 (x.r : Int), .int .i64 (x.t : Int)]))) := rfl;have e2 : rcCells x = ([.int .i64 x.k, .int .i64 x.s, .string x.d, .int .i64 x.n] ++ u8l x.o) ++ (u8l x.h ++ (u8l x.p ++ [.int .i64 (x.r : Int), .int .i64 (x.t : Int)])) := by rw [e1]; simp only [List.append_assoc]
 have e3 : rcCells x = ([.int .i64 x.k, .int .i64 x.s, .string x.d, .int .i64 x.n] ++ u8l x.o ++ u8l x.h) ++ (u8l x.p ++ [.int .i64 (x.r : Int), .int .i64 (x.t : Int)]) := by rw [e1]; simp only [List.append_assoc]
 have e4 : rcCells x = ([.int .i64 x.k, .int .i64 x.s, .string x.d, .int .i64 x.n] ++ u8l x.o ++ u8l x.h ++ u8l x.p) ++ ([.int .i64 (x.r : Int), .int .i64 (x.t : Int)] ++ []) := by rw [e1]; simp only [List.append_assoc, List.append_nil]
 have l1 : ([Value.int .i64 x.k, .int .i64 x.s, .string x.d, .int .i64 x.n]).length = 4 := rfl;have l2 : ([Value.int .i64 x.k, .int .i64 x.s, .string x.d, .int .i64 x.n] ++ u8l x.o).length = 36 := by rw [List.length_append, u8l_len, h.o]; rfl
 have l3 : ([Value.int .i64 x.k, .int .i64 x.s, .string x.d, .int .i64 x.n] ++ u8l x.o ++ u8l x.h).length = 68 := by rw [List.length_append, l2, u8l_len, h.h]
 have l4 : ([Value.int .i64 x.k, .int .i64 x.s, .string x.d, .int .i64 x.n] ++ u8l x.o ++ u8l x.h ++ u8l x.p).length = 100 := by rw [List.length_append, l3, u8l_len, h.p]
 have hc : ∀ (j : Nat) (v : Value), (rcCells x)[j]? = some v → Z.cell? ⟨p, j, none⟩ = some v := fun j v hv => (hk.cell j).trans (by unfold rcA; rw [List.getElem?_toArray]; exact hv)
 exact ⟨hc 0 _ rfl, hc 1 _ rfl, hc 2 _ rfl, hc 3 _ rfl, fun j v hv => hc _ _ (sub_at e1 l1 hv), fun j v hv => hc _ _ (sub_at e2 l2 hv), fun j v hv => hc _ _ (sub_at e3 l3 hv),
  hc 100 _ (sub_at (off := 100) (j := 0) e4 l4 rfl), hc 101 _ (sub_at (off := 100) (j := 1) e4 l4 rfl), fun j v hv => by rw [Nat.zero_add]; exact hc j v hv⟩
def bodyL (x : Rc) : List UInt8 := [114, 101, 99, 101, 105, 112, 116] ++ 32 :: (decI x.k ++ 32 :: (decI x.s ++ 32 :: (decI x.n ++ 32 :: (hexL x.o ++ 32 :: (hexL x.h ++ 32 :: (hexL x.p ++ 32 :: x.d.data.toList))))))
theorem bodyL_len {x : Rc} (h : RcOK x) : (bodyL x).length ≤ 1300 := by
 have h1 := decI_len h.k;have h2 := decI_len h.s;have h3 := decI_len h.n;have h4 := h.d;have h5 := size_len x.d;unfold bodyL;simp only [List.length_append, List.length_cons, hexL_len, h.o, h.h, h.p, List.length_nil]
 omega
theorem body_cat1 (x : Rc) : (((((⟨#[114, 101, 99, 101, 105, 112, 116, 32]⟩ : ByteArray) ++ decIS x.k) ++ ⟨#[32]⟩) ++ decIS x.s) ++ ⟨#[32]⟩) ++ decIS x.n = strB ([114, 101, 99, 101, 105, 112, 116] ++ 32 :: (decI x.k ++ 32 :: (decI x.s ++ 32 :: decI x.n))) := bytes_eq (by
 rw [strB_list];simp only [ByteArray.data_append, Array.toList_append, decIS_list]
 simp)
theorem body_cat2 (x : Rc) : ((((((strB ([114, 101, 99, 101, 105, 112, 116] ++ 32 :: (decI x.k ++ 32 :: (decI x.s ++ 32 :: decI x.n))) ++ ⟨#[32]⟩) ++ strB (hexL x.o)) ++ ⟨#[32]⟩) ++ strB (hexL x.h)) ++ ⟨#[32]⟩) ++ strB (hexL x.p)) ++ ⟨#[32]⟩ ++ x.d = strB (bodyL x) := bytes_eq (by
 rw [strB_list];unfold bodyL;simp only [ByteArray.data_append, Array.toList_append, strB_list]
 simp)
theorem rSigText_q (r t : Nat) (hr : r ≤ 9223372036854775807) (ht : t ≤ 9223372036854775807) : Ret 66 #[.agg (sigA (r : Int) (t : Int))] (.string (strB (Lib.decDigits r ++ 46 :: Lib.decDigits t))) := by
 intro w;have s1 := decS_size hr;have s2 := decS_size ht;have m1 := Lib.hid (rdec5_q r hr);have m2 := Lib.hid (rdec5_q t ht);obtain ⟨out, hout⟩ := exq (strB (Lib.decDigits r ++ 46 :: Lib.decDigits t));have HC := Lib.hid ((sigText_cat r t).trans hout.symm);rw [← hout];clear hout;generalize decS r = d1 at *;generalize decS t = d2 at *;have n1 : ¬ 9223372036854775807 < d1.size + 1 := by omega
 have n2 : ¬ 9223372036854775807 < d1.size + 1 + d2.size := by omega
 go_enter Tryz.func66, Tryz.ntmps66;unfold sigA;go_upto_region 1 with fail;refine name1p ?_;intro W0 k1 hB;obtain ⟨p, hp⟩ := exq w.heap.size;rw [← hp] at k1 ⊢;clear hp;have HS := Lib.hid (fun Z (h : Below W0.heap.size W0 Z) => And.intro ((k1.below h k1.lt).cell 0) (And.intro ((k1.below h k1.lt).cell 1) (below_then hB h)));have hbd := (Below.refl W0.heap.size W0).drew;clear k1 hB;refine region_here (fun Z : World => Z.cell? ⟨p, 0, none⟩ = some (.int .i64 (r : Int)) ∧ Z.cell? ⟨p, 1, none⟩ = some (.int .i64 (t : Int)) ∧ Below w.heap.size w Z) 7 (by kernel_rfl) (HS.out _ hbd) (fun hHeld => ?_);generalize W0.drew = V at *;refine tkT 0 rfl ?_;refine tkT 1 rfl ?_;refine tkT 4 rfl ?_;refine tkT 5 rfl ?_;refine tkO 2 rfl fun K hK => ?_;go_simp;go_at_call 125
 (with_reducible refine (m1.out _).mono ?_)
 rintro e wa ⟨rfl, hbwa⟩
 (try go_wp2_with fail)
 replace hbd := below_then hbd hbwa;refine hK.out _ _ ?_ (fun hHeld2 => ?_)
 ·exact HS.out _ hbd
 clear hK K
 try simp only [Act.put, pq1, pq2, pq3]
 refine tkT 3 rfl ?_;refine tkO 6 rfl fun K hK => ?_;go_simp;go_at_call 125
 (with_reducible refine (m2.out _).mono ?_)
 rintro e wb ⟨rfl, hbwb⟩
 (try go_wp2_with fail)
 replace hbd := below_then hbd hbwb;refine hK.out _ _ ?_ (fun hHeld6 => ?_)
 ·exact HS.out _ hbd
 clear hK K
 try simp only [Act.put, pq1, pq2, pq3]
 refine tkK 7 rfl fun K hK => ?_;go_simp;refine hK.out _ _ ?_;clear hK K
 try simp only [Act.put, pq1, pq2, pq3]
 refine tkB 8 rfl ?_;refine tkD ?_;go_wp2_with fail;go_ret;exact ⟨by rw [HC.out]; rfl, (HS.out _ hbd).2.2⟩
theorem SigText_q (r t : Nat) (hr : r ≤ 9223372036854775807) (ht : t ≤ 9223372036854775807) : RetT 135 #[.agg (sigA (r : Int) (t : Int))] (.string (strB (Lib.decDigits r ++ 46 :: Lib.decDigits t))) := by
 intro w hT;have s1 := decS_size hr;have s2 := decS_size ht;have m1 := Lib.hid ((decIS_nat r ▸ itoa_int (r : Int) ⟨by omega, by omega⟩ :));have m2 := Lib.hid ((decIS_nat t ▸ itoa_int (t : Int) ⟨by omega, by omega⟩ :));obtain ⟨out, hout⟩ := exq (strB (Lib.decDigits r ++ 46 :: Lib.decDigits t));have HC := Lib.hid ((sigText_cat r t).trans hout.symm);rw [← hout];clear hout;generalize decS r = d1 at *;generalize decS t = d2 at *;have n1 : ¬ 9223372036854775807 < d1.size + 1 := by omega
 have n2 : ¬ 9223372036854775807 < d1.size + 1 + d2.size := by omega
 have HT := Lib.hid hT;clear hT;go_enter Tryz.func135, Tryz.ntmps135;unfold sigA;go_upto_region 1 with fail;refine name1p ?_;intro W0 k1 hB;obtain ⟨p, hp⟩ := exq w.heap.size;rw [← hp] at k1 ⊢;clear hp;have HS := Lib.hid (fun Z (h : Below W0.heap.size W0 Z) => And.intro ((k1.below h k1.lt).cell 0) (And.intro ((k1.below h k1.lt).cell 1) (below_then hB h)));have hbd := (Below.refl W0.heap.size W0).drew;clear k1 hB;refine region_here (fun Z : World => Z.cell? ⟨p, 0, none⟩ = some (.int .i64 (r : Int)) ∧ Z.cell? ⟨p, 1, none⟩ = some (.int .i64 (t : Int)) ∧ Below w.heap.size w Z) 7 (by kernel_rfl) (HS.out _ hbd) (fun hHeld => ?_);generalize W0.drew = V at *;refine tkT 0 rfl ?_;refine tkT 1 rfl ?_;refine tkT 4 rfl ?_;refine tkT 5 rfl ?_;refine tkO 2 rfl fun K hK => ?_;go_simp;go_at_call 57
 (with_reducible refine (m1.out _ (HT.out.below (HS.out _ hbd).2.2)).mono ?_)
 rintro e wa ⟨rfl, hbwa⟩
 (try go_wp2_with fail)
 replace hbd := below_then hbd hbwa;refine hK.out _ _ ?_ (fun hHeld2 => ?_)
 ·exact HS.out _ hbd
 clear hK K
 try simp only [Act.put, pq1, pq2, pq3]
 refine tkT 3 rfl ?_;refine tkO 6 rfl fun K hK => ?_;go_simp;go_at_call 57
 (with_reducible refine (m2.out _ (HT.out.below (HS.out _ hbd).2.2)).mono ?_)
 rintro e wb ⟨rfl, hbwb⟩
 (try go_wp2_with fail)
 replace hbd := below_then hbd hbwb;refine hK.out _ _ ?_ (fun hHeld6 => ?_)
 ·exact HS.out _ hbd
 clear hK K
 try simp only [Act.put, pq1, pq2, pq3]
 refine tkK 7 rfl fun K hK => ?_;go_simp;refine hK.out _ _ ?_;clear hK K
 try simp only [Act.put, pq1, pq2, pq3]
 refine tkB 8 rfl ?_;refine tkD ?_;go_wp2_with fail;go_ret;exact ⟨by rw [HC.out]; rfl, (HS.out _ hbd).2.2⟩
theorem rBody_q (x : Rc) (h : RcOK x) : Ret 67 #[.agg (rcA x)] (.string (strB (bodyL x))) := by
 intro w;have m1 := Lib.hid (Decimal22_q x.k h.k);have m2 := Lib.hid (Decimal22_q x.s h.s);have m3 := Lib.hid (Decimal22_q x.n h.n);have m4 := Lib.hid (rText_h x.o h.o);have m5 := Lib.hid (rText_h x.h h.h);have m6 := Lib.hid (rText_h x.p h.p);have s1 := decIS_size h.k;have s2 := decIS_size h.s;have s3 := decIS_size h.n;have s4 : (strB (hexL x.o)).size ≤ 64 := by rw [strB_size, hexL_len, h.o]; omega
 have s5 : (strB (hexL x.h)).size ≤ 64 := by rw [strB_size, hexL_len, h.h]; omega
 have s6 : (strB (hexL x.p)).size ≤ 64 := by rw [strB_size, hexL_len, h.p]; omega
 have s7 := h.d;have e1 := body_cat1 x;have e2 := body_cat2 x;have HX := Lib.hid h;generalize strB (bodyL x) = out at *;generalize strB (hexL x.o) = d4 at *;generalize strB (hexL x.h) = d5 at *;generalize strB (hexL x.p) = d6 at *;obtain ⟨q, hq⟩ := exq (strB ([114, 101, 99, 101, 105, 112, 116] ++ 32 :: (decI x.k ++ 32 :: (decI x.s ++ 32 :: decI x.n))));rw [← hq] at e1 e2;generalize decIS x.k = d1 at *;generalize decIS x.s = d2 at *;generalize decIS x.n = d3 at *;clear hq;have z1 : ¬ 9223372036854775807 < 8 + d1.size := by omega
 have z2 : ¬ 9223372036854775807 < 8 + d1.size + 1 := by omega
 have z3 : ¬ 9223372036854775807 < 8 + d1.size + 1 + d2.size := by omega
 have z4 : ¬ 9223372036854775807 < 8 + d1.size + 1 + d2.size + 1 := by omega
 have z5 : ¬ 9223372036854775807 < 8 + d1.size + 1 + d2.size + 1 + d3.size := by omega
 have hqs : q.size = 8 + d1.size + 1 + d2.size + 1 + d3.size := by rw [← e1]; simp only [ByteArray.size_append]; rfl
 have hql : q.size ≤ 100 := by omega
 have H1 := Lib.hid e1;have H2 := Lib.hid e2;clear e1 e2 hqs;go_enter Tryz.func67, Tryz.ntmps67;go_upto_region 1 with fail;refine name1 (rcA x) rfl ?_;intro W0 k1 hB;obtain ⟨p, hp⟩ := exq w.heap.size;rw [← hp] at k1 ⊢;clear hp;have HS := Lib.hid (fun Z (hb : Below W0.heap.size W0 Z) => rc_at (k1.below hb k1.lt) HX.out);have hbd := (Below.refl W0.heap.size W0).drew;clear k1;refine region_here (fun Z : World => RcAt Z p x) 13 (by kernel_rfl) (HS.out _ hbd) (fun hHeld => ?_);generalize W0.drew = V at *;refine tkT 0 rfl ?_;refine tkV 1 (.int .i64 x.k) rfl (Or.inl ⟨by rfl, by intro Z hZ; have h1 := hZ.k; clear hZ; go_simp; try with_reducible rfl⟩) ?_;refine tkT 5 rfl ?_;refine tkV 6 (.int .i64 x.s) rfl (Or.inl ⟨by rfl, by intro Z hZ; have h1 := hZ.s; clear hZ; go_simp; try with_reducible rfl⟩) ?_;refine tkT 10 rfl ?_;refine tkV 11 (.int .i64 x.n) rfl (Or.inl ⟨by rfl, by intro Z hZ; have h1 := hZ.n; clear hZ; go_simp; try with_reducible rfl⟩) ?_;refine tkO 2 rfl fun K hK => ?_;go_simp;go_at_call 126
 (with_reducible refine (m1.out _).mono ?_)
 rintro e wa ⟨rfl, hbwa⟩
 (try go_wp2_with fail)
 replace hbd := below_then hbd hbwa;refine hK.out _ _ ?_ (fun hHeld2 => ?_)
 ·exact HS.out _ hbd
 clear hK K
 try simp only [Act.put, pq1, pq2, pq3]
 refine tkT 3 rfl ?_;refine tkT 4 rfl ?_;refine tkO 7 rfl fun K hK => ?_;go_simp;go_at_call 126
 (with_reducible refine (m2.out _).mono ?_)
 rintro e wb ⟨rfl, hbwb⟩
 (try go_wp2_with fail)
 replace hbd := below_then hbd hbwb;refine hK.out _ _ ?_ (fun hHeld7 => ?_)
 ·exact HS.out _ hbd
 clear hK K
 try simp only [Act.put, pq1, pq2, pq3]
 refine tkT 8 rfl ?_;refine tkT 9 rfl ?_;refine tkO 12 rfl fun K hK => ?_;go_simp;go_at_call 126
 (with_reducible refine (m3.out _).mono ?_)
 rintro e wc ⟨rfl, hbwc⟩
 (try go_wp2_with fail)
 replace hbd := below_then hbd hbwc;refine hK.out _ _ ?_ (fun hHeld12 => ?_)
 ·exact HS.out _ hbd
 clear hK K
 try simp only [Act.put, pq1, pq2, pq3]
 refine tkK 13 rfl fun K hK => ?_;go_simp;refine hK.out _ _ ?_;clear hK K
 try simp only [Act.put, pq1, pq2, pq3]
 refine tkB 14 rfl ?_;refine tkD ?_;go_upto_region 2 with fail;rw [H1.out];clear z1 z2 z3 z4 z5 H1;have z1 : ¬ 9223372036854775807 < q.size + 1 := by omega
 have z2 : ¬ 9223372036854775807 < q.size + 1 + d4.size := by omega
 have z3 : ¬ 9223372036854775807 < q.size + 1 + d4.size + 1 := by omega
 have z4 : ¬ 9223372036854775807 < q.size + 1 + d4.size + 1 + d5.size := by omega
 have z5 : ¬ 9223372036854775807 < q.size + 1 + d4.size + 1 + d5.size + 1 := by omega
 have z6 : ¬ 9223372036854775807 < q.size + 1 + d4.size + 1 + d5.size + 1 + d6.size := by omega
 have z7 : ¬ 9223372036854775807 < q.size + 1 + d4.size + 1 + d5.size + 1 + d6.size + 1 := by omega
 have z8 : ¬ 9223372036854775807 < q.size + 1 + d4.size + 1 + d5.size + 1 + d6.size + 1 + x.d.size := by omega
 replace hbd := hbd.drew;refine region_here (fun Z : World => RcAt Z p x) 19 (by kernel_rfl) (HS.out _ hbd) (fun hHeld => ?_);generalize wc.drew = V2 at *;refine tkT 0 rfl ?_;refine tkT 1 rfl ?_;refine tkT 2 rfl ?_;refine tkV 3 (.agg (u8a x.o)) rfl (yieldsIf_load_mid (by rfl) 38 (.tmp 20) rfl p 4 rfl (u8l x.o) _ (fun Z hZ => hZ.o) Tryz.underlying38 rfl (by rw [u8l_len, HX.out.o]; exact hash_size)) ?_;refine tkT 7 rfl ?_;refine tkV 8 (.agg (u8a x.h)) rfl (yieldsIf_load_mid (by rfl) 38 (.tmp 25) rfl p 36 rfl (u8l x.h) _ (fun Z hZ => hZ.h) Tryz.underlying38 rfl (by rw [u8l_len, HX.out.h]; exact hash_size)) ?_;refine tkT 12 rfl ?_;refine tkV 13 (.agg (u8a x.p)) rfl (yieldsIf_load_mid (by rfl) 38 (.tmp 30) rfl p 68 rfl (u8l x.p) _ (fun Z hZ => hZ.p) Tryz.underlying38 rfl (by rw [u8l_len, HX.out.p]; exact hash_size)) ?_;refine tkT 17 rfl ?_;refine tkV 18 (.string x.d) rfl (Or.inl ⟨by rfl, by intro Z hZ; have h1 := hZ.d; clear hZ; go_simp; try with_reducible rfl⟩) ?_;refine tkO 4 rfl fun K hK => ?_;go_simp;go_at_call 71
 (with_reducible refine (m4.out _).mono ?_)
 rintro e we ⟨rfl, hbwe⟩
 (try go_wp2_with fail)
 replace hbd := below_then hbd hbwe;refine hK.out _ _ ?_ (fun hHeld4 => ?_)
 ·exact HS.out _ hbd
 clear hK K
 try simp only [Act.put, pq1, pq2, pq3]
 refine tkT 5 rfl ?_;refine tkT 6 rfl ?_;refine tkO 9 rfl fun K hK => ?_;go_simp;go_at_call 71
 (with_reducible refine (m5.out _).mono ?_)
 rintro e wf ⟨rfl, hbwf⟩
 (try go_wp2_with fail)
 replace hbd := below_then hbd hbwf;refine hK.out _ _ ?_ (fun hHeld9 => ?_)
 ·exact HS.out _ hbd
 clear hK K
 try simp only [Act.put, pq1, pq2, pq3]
 refine tkT 10 rfl ?_;refine tkT 11 rfl ?_;refine tkO 14 rfl fun K hK => ?_;go_simp;go_at_call 71
 (with_reducible refine (m6.out _).mono ?_)
 rintro e wg ⟨rfl, hbwg⟩
 (try go_wp2_with fail)
 replace hbd := below_then hbd hbwg;refine hK.out _ _ ?_ (fun hHeld14 => ?_)
 ·exact HS.out _ hbd
 clear hK K
 try simp only [Act.put, pq1, pq2, pq3]
 refine tkT 15 rfl ?_;refine tkT 16 rfl ?_;refine tkK 19 rfl fun K hK => ?_;go_simp;refine hK.out _ _ ?_;clear hK K
 try simp only [Act.put, pq1, pq2, pq3]
 refine tkB 20 rfl ?_;refine tkD ?_;go_wp2_with fail;go_ret;exact ⟨by rw [H2.out]; rfl, below_then hB hbd⟩
theorem alloc_now {K : Act → World → Prop} {a : Act} {W : World} {cs : Array Value} {t : TypeId} (h : ∀ W' : World, Blk W' W.heap.size t cs → Below W.heap.size W W' → K a W') : K a (W.alloc (.cells cs t)) := h _ (Blk.new _ _ _) (below_al (Below.refl _ _) _)
theorem join_q (g : Nat) (xs : List ByteArray) (L : List UInt8) (hL : Lib.join (xs.map (·.data.toList)) [32] = L) (hl : L.length ≤ 900000) (hn : xs.length ≤ 100) (w : World) (hk : Blk w g 9 (xs.map Value.string).toArray) :
 Calls Tryz.prog 134 #[.slice (some ⟨g, 0, none⟩) xs.length xs.length] w fun e w' => e = .returned (.string (strB L)) ∧ Below w.heap.size w w' := by
 have m1 : Hid (Calls Tryz.prog 141 #[.slice (some ⟨g, 0, none⟩) xs.length xs.length, .string ⟨#[32]⟩] w fun e w' => e = .returned (.string (strB L)) ∧ Below w.heap.size w w') := Lib.hid (by
  have := Tryz.strings_Join g 0 xs.length xs ⟨#[32]⟩ w (fun i z hz => ?_) hk.lt (by omega) (Nat.le_refl _) (by show (Lib.join _ [32]).length ≤ _; rw [hL]; omega)
  ·rw [show ((⟨#[32]⟩ : ByteArray).data.toList) = [32] from rfl, hL] at this;exact this
  ·rw [Nat.zero_add];refine (hk.cell i).trans ?_
   rw [List.getElem?_toArray, List.getElem?_map, hz]; rfl)
 generalize xs.length = n at *;clear hk hL hl hn;go_enter Tryz.func134, Tryz.ntmps134;go_wp2_with (go_at_call 141; (with_reducible refine m1.out.mono ?_); rintro e w1 ⟨rfl, hB⟩);go_ret;exact ⟨rfl, hB⟩
def textL (x : Rc) : List UInt8 := (Lib.decDigits x.r ++ 46 :: Lib.decDigits x.t) ++ 32 :: bodyL x
theorem textL_len {x : Rc} (h : RcOK x) : (textL x).length ≤ 1400 := by
 have h1 := dec_len20 h.r;have h2 := dec_len20 h.t;have h3 := bodyL_len h;unfold textL;simp only [List.length_append, List.length_cons]
 omega
theorem text_cat (x : Rc) : (strB (Lib.decDigits x.r ++ 46 :: Lib.decDigits x.t) ++ ⟨#[32]⟩) ++ strB (bodyL x) = strB (textL x) := bytes_eq (by
 rw [strB_list];simp only [ByteArray.data_append, Array.toList_append, strB_list];unfold textL
 simp)
theorem sigL_size {x : Rc} (h : RcOK x) : (strB (Lib.decDigits x.r ++ 46 :: Lib.decDigits x.t)).size ≤ 41 := by
 have h1 := dec_len20 h.r;have h2 := dec_len20 h.t;rw [strB_size, List.length_append, List.length_cons]
 omega
theorem join8 (x : Rc) : Lib.join (([⟨#[114, 101, 99, 101, 105, 112, 116]⟩, decIS x.k, decIS x.s, decIS x.n, strB (hexL x.o), strB (hexL x.h), strB (hexL x.p), x.d] : List ByteArray).map (·.data.toList)) [32] = bodyL x := by
 unfold bodyL
 simp [Lib.join, List.intercalate, List.intersperse, decIS_list, strB_list]
theorem body_q (x : Rc) (h : RcOK x) : RetT 128 #[.agg (rcA x)] (.string (strB (bodyL x))) := by
 intro w hT;have m1 := Lib.hid (itoa_int x.k h.k);have m2 := Lib.hid (itoa_int x.s h.s);have m3 := Lib.hid (itoa_int x.n h.n);have m4 := Lib.hid (Text_h x.o h.o);have m5 := Lib.hid (Text_h x.h h.h);have m6 := Lib.hid (Text_h x.p h.p)
 have m7 : Hid (∀ (W : World) (g : Nat), Blk W g 9 #[.string ⟨#[114, 101, 99, 101, 105, 112, 116]⟩, .string (decIS x.k), .string (decIS x.s), .string (decIS x.n), .string (strB (hexL x.o)), .string (strB (hexL x.h)), .string (strB (hexL x.p)), .string x.d] →
  Calls Tryz.prog 134 #[.slice (some ⟨g, 0, none⟩) 8 8] W fun e w' => e = .returned (.string (strB (bodyL x))) ∧ Below W.heap.size W w') :=
  Lib.hid (fun W g hk => join_q g [⟨#[114, 101, 99, 101, 105, 112, 116]⟩, decIS x.k, decIS x.s, decIS x.n, strB (hexL x.o), strB (hexL x.h), strB (hexL x.p), x.d] _ (join8 x) (by have := bodyL_len h; omega) (by show 8 ≤ 100; omega) W hk)
 have HX := Lib.hid h;have HT := Lib.hid hT;generalize strB (bodyL x) = out at *;generalize strB (hexL x.o) = d4 at *;generalize strB (hexL x.h) = d5 at *;generalize strB (hexL x.p) = d6 at *;generalize decIS x.k = d1 at *;generalize decIS x.s = d2 at *;generalize decIS x.n = d3 at *;clear hT;go_enter Tryz.func128, Tryz.ntmps128;go_upto_region 1 with fail;refine name1 (rcA x) rfl ?_;intro W0 k1 hB;obtain ⟨p, hp⟩ := exq w.heap.size;rw [← hp] at k1 ⊢;clear hp;have HS := Lib.hid (fun Z (hb : Below W0.heap.size W0 Z) => rc_at (k1.below hb k1.lt) HX.out);have HB := Lib.hid (fun Z (hb : Below W0.heap.size W0 Z) => below_then hB hb);have hbd := (Below.refl W0.heap.size W0).drew;clear k1 hB;refine region_here (fun Z : World => RcAt Z p x) 20 (by kernel_rfl) (HS.out _ hbd) (fun hHeld => ?_);generalize W0.drew = V at *;refine tkT 0 rfl ?_;refine tkV 1 (.int .i64 x.k) rfl (Or.inl ⟨by rfl, by intro Z hZ; have h0 := hZ.k; clear hZ; go_simp; try with_reducible rfl⟩) ?_;refine tkT 3 rfl ?_;refine tkV 4 (.int .i64 x.s) rfl (Or.inl ⟨by rfl, by intro Z hZ; have h0 := hZ.s; clear hZ; go_simp; try with_reducible rfl⟩) ?_;refine tkT 6 rfl ?_;refine tkV 7 (.int .i64 x.n) rfl (Or.inl ⟨by rfl, by intro Z hZ; have h0 := hZ.n; clear hZ; go_simp; try with_reducible rfl⟩) ?_;refine tkT 9 rfl ?_;refine tkV 10 (.agg (u8a x.o)) rfl (yieldsIf_load_mid (by rfl) 38 (.tmp 12) rfl p 4 rfl (u8l x.o) _ (fun Z hZ => hZ.o) Tryz.underlying38 rfl (by rw [u8l_len, HX.out.o]; exact hash_size)) ?_;refine tkT 12 rfl ?_;refine tkV 13 (.agg (u8a x.h)) rfl (yieldsIf_load_mid (by rfl) 38 (.tmp 15) rfl p 36 rfl (u8l x.h) _ (fun Z hZ => hZ.h) Tryz.underlying38 rfl (by rw [u8l_len, HX.out.h]; exact hash_size)) ?_;refine tkT 15 rfl ?_;refine tkV 16 (.agg (u8a x.p)) rfl (yieldsIf_load_mid (by rfl) 38 (.tmp 18) rfl p 68 rfl (u8l x.p) _ (fun Z hZ => hZ.p) Tryz.underlying38 rfl (by rw [u8l_len, HX.out.p]; exact hash_size)) ?_;refine tkT 18 rfl ?_;refine tkV 19 (.string x.d) rfl (Or.inl ⟨by rfl, by intro Z hZ; have h0 := hZ.d; clear hZ; go_simp; try with_reducible rfl⟩) ?_;refine tkO 2 rfl fun K hK => ?_;go_simp;go_at_call 57
 (with_reducible refine (m1.out _ (HT.out.below (HB.out _ hbd))).mono ?_)
 rintro e wa ⟨rfl, hbwa⟩
 (try go_wp2_with fail)
 replace hbd := below_then hbd hbwa;refine hK.out _ _ ?_ (fun hHeld2 => ?_)
 ·exact HS.out _ hbd
 clear hK K
 try simp only [Act.put, pq1, pq2, pq3]
 refine tkO 5 rfl fun K hK => ?_;go_simp;go_at_call 57
 (with_reducible refine (m2.out _ (HT.out.below (HB.out _ hbd))).mono ?_)
 rintro e wb ⟨rfl, hbwb⟩
 (try go_wp2_with fail)
 replace hbd := below_then hbd hbwb;refine hK.out _ _ ?_ (fun hHeld5 => ?_)
 ·exact HS.out _ hbd
 clear hK K
 try simp only [Act.put, pq1, pq2, pq3]
 refine tkO 8 rfl fun K hK => ?_;go_simp;go_at_call 57
 (with_reducible refine (m3.out _ (HT.out.below (HB.out _ hbd))).mono ?_)
 rintro e wc ⟨rfl, hbwc⟩
 (try go_wp2_with fail)
 replace hbd := below_then hbd hbwc;refine hK.out _ _ ?_ (fun hHeld8 => ?_)
 ·exact HS.out _ hbd
 clear hK K
 try simp only [Act.put, pq1, pq2, pq3]
 refine tkO 11 rfl fun K hK => ?_;go_simp;go_at_call 59
 (with_reducible refine (m4.out _).mono ?_)
 rintro e we ⟨rfl, hbwe⟩
 (try go_wp2_with fail)
 replace hbd := below_then hbd hbwe;refine hK.out _ _ ?_ (fun hHeld11 => ?_)
 ·exact HS.out _ hbd
 clear hK K
 try simp only [Act.put, pq1, pq2, pq3]
 refine tkO 14 rfl fun K hK => ?_;go_simp;go_at_call 59
 (with_reducible refine (m5.out _).mono ?_)
 rintro e wf ⟨rfl, hbwf⟩
 (try go_wp2_with fail)
 replace hbd := below_then hbd hbwf;refine hK.out _ _ ?_ (fun hHeld14 => ?_)
 ·exact HS.out _ hbd
 clear hK K
 try simp only [Act.put, pq1, pq2, pq3]
 refine tkO 17 rfl fun K hK => ?_;go_simp;go_at_call 59
 (with_reducible refine (m6.out _).mono ?_)
 rintro e wg ⟨rfl, hbwg⟩
 (try go_wp2_with fail)
 replace hbd := below_then hbd hbwg;refine hK.out _ _ ?_ (fun hHeld17 => ?_)
 ·exact HS.out _ hbd
 clear hK K
 try simp only [Act.put, pq1, pq2, pq3]
 refine tkK 20 rfl fun K hK => ?_;go_simp
 first | refine alloc_drew ?_ | refine alloc_now ?_
 intro wz kz hbz;replace hbd := below_then hbd hbz;refine hK.out _ _ ?_;clear hK K
 try simp only [Act.put, pq1, pq2, pq3]
 refine tkR 21 rfl fun K hK => ?_;go_simp;go_at_call 134
 (with_reducible refine (m7.out _ _ kz).mono ?_)
 rintro e wj ⟨rfl, hbwj⟩;replace hbd := below_then hbd hbwj;refine hK _ _ ?_;clear hK K
 try simp only [Act.put, pq1, pq2, pq3]
 refine tkB 22 rfl ?_;refine tkD ?_;go_wp2_with fail;go_ret;exact ⟨rfl, HB.out _ hbd⟩
theorem rRcText_q (x : Rc) (h : RcOK x) : Ret 29 #[.agg (rcA x)] (.string (strB (textL x))) := by
 intro w;have m1 := Lib.hid (rSigText_q x.r x.t h.r h.t);unfold sigA at m1;have m2 := Lib.hid (rBody_q x h);have s1 := sigL_size h;have s2 : (strB (bodyL x)).size ≤ 1300 := by rw [strB_size]; exact bodyL_len h
 have HC := Lib.hid (text_cat x);have HX := Lib.hid h;generalize strB (textL x) = out at *;generalize strB (bodyL x) = d2 at *;generalize strB (Lib.decDigits x.r ++ 46 :: Lib.decDigits x.t) = d1 at *;have n1 : ¬ 9223372036854775807 < d1.size + 1 := by omega
 have n2 : ¬ 9223372036854775807 < d1.size + 1 + d2.size := by omega
 go_enter Tryz.func29, Tryz.ntmps29;go_upto_region 1 with fail;refine name1 (rcA x) rfl ?_;intro W0 k1 hB;obtain ⟨p, hp⟩ := exq w.heap.size;rw [← hp] at k1 ⊢;clear hp;have HS := Lib.hid (fun Z (hb : Below W0.heap.size W0 Z) => rc_at (k1.below hb k1.lt) HX.out);have HB := Lib.hid (fun Z (hb : Below W0.heap.size W0 Z) => below_then hB hb);have hbd := (Below.refl W0.heap.size W0).drew;clear k1 hB;refine region_here (fun Z : World => RcAt Z p x) 6 (by kernel_rfl) (HS.out _ hbd) (fun hHeld => ?_);generalize W0.drew = V at *;refine tkT 0 rfl ?_;refine tkV 1 (.agg #[.int .i64 (x.r : Int), .int .i64 (x.t : Int)]) rfl (Or.inl ⟨by rfl, by intro Z hZ; have h0 := hZ.r; have h1 := hZ.t; clear hZ; go_simp; try with_reducible rfl⟩) ?_;refine tkV 4 (.agg (rcA x)) rfl (yieldsIf_load_mid (by rfl) 75 (.tmp 1) rfl p 0 rfl (rcCells x) _ (fun Z hZ => hZ.all) Tryz.underlying75 rfl (by rw [rcCells_len HX.out]; exact rc_size)) ?_;refine tkO 2 rfl fun K hK => ?_;go_simp;go_at_call 66
 (with_reducible refine (m1.out _).mono ?_)
 rintro e wa ⟨rfl, hbwa⟩
 (try go_wp2_with fail)
 replace hbd := below_then hbd hbwa;refine hK.out _ _ ?_ (fun hHeld2 => ?_)
 ·exact HS.out _ hbd
 clear hK K
 try simp only [Act.put, pq1, pq2, pq3]
 refine tkT 3 rfl ?_;refine tkO 5 rfl fun K hK => ?_;go_simp;go_at_call 67
 (with_reducible refine (m2.out _).mono ?_)
 rintro e wb ⟨rfl, hbwb⟩
 (try go_wp2_with fail)
 replace hbd := below_then hbd hbwb;refine hK.out _ _ ?_ (fun hHeld5 => ?_)
 ·exact HS.out _ hbd
 clear hK K
 try simp only [Act.put, pq1, pq2, pq3]
 refine tkK 6 rfl fun K hK => ?_;go_simp;refine hK.out _ _ ?_;clear hK K
 try simp only [Act.put, pq1, pq2, pq3]
 refine tkB 7 rfl ?_;refine tkD ?_;go_wp2_with fail;go_ret;exact ⟨by rw [HC.out]; rfl, HB.out _ hbd⟩
theorem RcText_q (x : Rc) (h : RcOK x) : RetT 74 #[.agg (rcA x)] (.string (strB (textL x))) := by
 intro w hT;have m1 := Lib.hid (SigText_q x.r x.t h.r h.t);unfold sigA at m1;have m2 := Lib.hid (body_q x h)
 have m3 : Hid (∀ (W : World) (g : Nat), Blk W g 9 #[.string (strB (Lib.decDigits x.r ++ 46 :: Lib.decDigits x.t)), .string (strB (bodyL x))] →
  Calls Tryz.prog 134 #[.slice (some ⟨g, 0, none⟩) 2 2] W fun e w' => e = .returned (.string (strB (textL x))) ∧ Below W.heap.size W w') :=
  Lib.hid (fun W g hk => join_q g [strB (Lib.decDigits x.r ++ 46 :: Lib.decDigits x.t), strB (bodyL x)] _ (by unfold textL; simp [Lib.join, List.intercalate, List.intersperse, strB_list]) (by have := textL_len h; omega) (by show 2 ≤ 100; omega) W hk)
 have HX := Lib.hid h;have HT := Lib.hid hT;generalize strB (textL x) = out at *;generalize strB (bodyL x) = d2 at *;generalize strB (Lib.decDigits x.r ++ 46 :: Lib.decDigits x.t) = d1 at *;clear hT;go_enter Tryz.func74, Tryz.ntmps74;go_upto_region 1 with fail;refine name1 (rcA x) rfl ?_;intro W0 k1 hB;obtain ⟨p, hp⟩ := exq w.heap.size;rw [← hp] at k1 ⊢;clear hp;have HS := Lib.hid (fun Z (hb : Below W0.heap.size W0 Z) => rc_at (k1.below hb k1.lt) HX.out);have HB := Lib.hid (fun Z (hb : Below W0.heap.size W0 Z) => below_then hB hb);have hbd := (Below.refl W0.heap.size W0).drew;clear k1 hB;refine region_here (fun Z : World => RcAt Z p x) 5 (by kernel_rfl) (HS.out _ hbd) (fun hHeld => ?_);generalize W0.drew = V at *;refine tkT 0 rfl ?_;refine tkV 1 (.agg #[.int .i64 (x.r : Int), .int .i64 (x.t : Int)]) rfl (Or.inl ⟨by rfl, by intro Z hZ; have h0 := hZ.r; have h1 := hZ.t; clear hZ; go_simp; try with_reducible rfl⟩) ?_;refine tkV 3 (.agg (rcA x)) rfl (yieldsIf_load_mid (by rfl) 75 (.tmp 1) rfl p 0 rfl (rcCells x) _ (fun Z hZ => hZ.all) Tryz.underlying75 rfl (by rw [rcCells_len HX.out]; exact rc_size)) ?_;refine tkO 2 rfl fun K hK => ?_;go_simp;go_at_call 135
 (with_reducible refine (m1.out _ (HT.out.below (HB.out _ hbd))).mono ?_)
 rintro e wa ⟨rfl, hbwa⟩
 (try go_wp2_with fail)
 replace hbd := below_then hbd hbwa;refine hK.out _ _ ?_ (fun hHeld2 => ?_)
 ·exact HS.out _ hbd
 clear hK K
 try simp only [Act.put, pq1, pq2, pq3]
 refine tkO 4 rfl fun K hK => ?_;go_simp;go_at_call 128
 (with_reducible refine (m2.out _ (HT.out.below (HB.out _ hbd))).mono ?_)
 rintro e wb ⟨rfl, hbwb⟩
 (try go_wp2_with fail)
 replace hbd := below_then hbd hbwb;refine hK.out _ _ ?_ (fun hHeld4 => ?_)
 ·exact HS.out _ hbd
 clear hK K
 try simp only [Act.put, pq1, pq2, pq3]
 refine tkK 5 rfl fun K hK => ?_;go_simp
 first | refine alloc_drew ?_ | refine alloc_now ?_
 intro wz kz hbz;replace hbd := below_then hbd hbz;refine hK.out _ _ ?_;clear hK K
 try simp only [Act.put, pq1, pq2, pq3]
 refine tkR 6 rfl fun K hK => ?_;go_simp;go_at_call 134
 (with_reducible refine (m3.out _ _ kz).mono ?_)
 rintro e wj ⟨rfl, hbwj⟩;replace hbd := below_then hbd hbwj;refine hK _ _ ?_;clear hK K
 try simp only [Act.put, pq1, pq2, pq3]
 refine tkB 7 rfl ?_;refine tkD ?_;go_wp2_with fail;go_ret;exact ⟨rfl, HB.out _ hbd⟩
theorem rRcVerify_q (key : Int) (hk : I64 key) (x : Rc) (h : RcOK x) : Ret 76 #[.int .i64 key, .agg (rcA x)] (.bool (verS key (bodyL x) (x.r : Int) (x.t : Int))) := by
 intro w;have m1 := Lib.hid (rBody_q x h);have m2 := Lib.hid (rVerify_s key (strB (bodyL x)) (x.r : Int) (x.t : Int) hk ⟨by omega, by have := h.r; omega⟩ ⟨by omega, by have := h.t; omega⟩ (by rw [strB_size]; have := bodyL_len h; omega));rw [strB_list] at m2;unfold sigA at m2;have HX := Lib.hid h;generalize verS key (bodyL x) (x.r : Int) (x.t : Int) = out at *;generalize strB (bodyL x) = d2 at *;go_enter Tryz.func76, Tryz.ntmps76;go_upto_region 1 with fail;refine name1 (rcA x) rfl ?_;intro W0 k1 hB;obtain ⟨p, hp⟩ := exq w.heap.size;rw [← hp] at k1 ⊢;clear hp;have HS := Lib.hid (fun Z (hb : Below W0.heap.size W0 Z) => rc_at (k1.below hb k1.lt) HX.out);have HB := Lib.hid (fun Z (hb : Below W0.heap.size W0 Z) => below_then hB hb);have hbd := (Below.refl W0.heap.size W0).drew;clear k1 hB;refine region_here (fun Z : World => RcAt Z p x) 5 (by kernel_rfl) (HS.out _ hbd) (fun hHeld => ?_);generalize W0.drew = V at *;refine tkT 0 rfl ?_;refine tkV 1 (.agg (rcA x)) rfl (yieldsIf_load_mid (by rfl) 75 (.tmp 3) rfl p 0 rfl (rcCells x) _ (fun Z hZ => hZ.all) Tryz.underlying75 rfl (by rw [rcCells_len HX.out]; exact rc_size)) ?_;refine tkT 3 rfl ?_;refine tkV 4 (.agg #[.int .i64 (x.r : Int), .int .i64 (x.t : Int)]) rfl (Or.inl ⟨by rfl, by intro Z hZ; have h0 := hZ.r; have h1 := hZ.t; clear hZ; go_simp; try with_reducible rfl⟩) ?_;refine tkO 2 rfl fun K hK => ?_;go_simp;go_at_call 67
 (with_reducible refine (m1.out _).mono ?_)
 rintro e wa ⟨rfl, hbwa⟩
 (try go_wp2_with fail)
 replace hbd := below_then hbd hbwa;refine hK.out _ _ ?_ (fun hHeld2 => ?_)
 ·exact HS.out _ hbd
 clear hK K
 try simp only [Act.put, pq1, pq2, pq3]
 refine tkK 5 rfl fun K hK => ?_;go_simp;go_at_call 61
 (with_reducible refine (m2.out _).mono ?_)
 rintro e wb ⟨rfl, hbwb⟩
 (try go_wp2_with fail)
 replace hbd := below_then hbd hbwb;refine hK.out _ _ ?_;clear hK K
 try simp only [Act.put, pq1, pq2, pq3]
 refine tkB 6 rfl ?_;refine tkD ?_;go_wp2_with fail;go_ret;exact ⟨rfl, HB.out _ hbd⟩
theorem RcVerify_q (key : Int) (hk : I64 key) (x : Rc) (h : RcOK x) : RetT 72 #[.int .i64 key, .agg (rcA x)] (.bool (verS key (bodyL x) (x.r : Int) (x.t : Int))) := by
 intro w hT;have m1 := Lib.hid (body_q x h);have m2 := Lib.hid (Verify_s key (strB (bodyL x)) (x.r : Int) (x.t : Int) hk ⟨by omega, by have := h.r; omega⟩ ⟨by omega, by have := h.t; omega⟩ (by rw [strB_size]; have := bodyL_len h; omega));rw [strB_list] at m2;unfold sigA at m2;have HX := Lib.hid h;generalize verS key (bodyL x) (x.r : Int) (x.t : Int) = out at *;generalize strB (bodyL x) = d2 at *;have HT := Lib.hid hT;clear hT;go_enter Tryz.func72, Tryz.ntmps72;go_upto_region 1 with fail;refine name1 (rcA x) rfl ?_;intro W0 k1 hB;obtain ⟨p, hp⟩ := exq w.heap.size;rw [← hp] at k1 ⊢;clear hp;have HS := Lib.hid (fun Z (hb : Below W0.heap.size W0 Z) => rc_at (k1.below hb k1.lt) HX.out);have HB := Lib.hid (fun Z (hb : Below W0.heap.size W0 Z) => below_then hB hb);have hbd := (Below.refl W0.heap.size W0).drew;clear k1 hB;refine region_here (fun Z : World => RcAt Z p x) 5 (by kernel_rfl) (HS.out _ hbd) (fun hHeld => ?_);generalize W0.drew = V at *;refine tkT 0 rfl ?_;refine tkV 1 (.agg (rcA x)) rfl (yieldsIf_load_mid (by rfl) 75 (.tmp 3) rfl p 0 rfl (rcCells x) _ (fun Z hZ => hZ.all) Tryz.underlying75 rfl (by rw [rcCells_len HX.out]; exact rc_size)) ?_;refine tkT 3 rfl ?_;refine tkV 4 (.agg #[.int .i64 (x.r : Int), .int .i64 (x.t : Int)]) rfl (Or.inl ⟨by rfl, by intro Z hZ; have h0 := hZ.r; have h1 := hZ.t; clear hZ; go_simp; try with_reducible rfl⟩) ?_;refine tkO 2 rfl fun K hK => ?_;go_simp;go_at_call 128
 (with_reducible refine (m1.out _ (HT.out.below (HB.out _ hbd))).mono ?_)
 rintro e wa ⟨rfl, hbwa⟩
 (try go_wp2_with fail)
 replace hbd := below_then hbd hbwa;refine hK.out _ _ ?_ (fun hHeld2 => ?_)
 ·exact HS.out _ hbd
 clear hK K
 try simp only [Act.put, pq1, pq2, pq3]
 refine tkK 5 rfl fun K hK => ?_;go_simp;go_at_call 127
 (with_reducible refine (m2.out _ (HT.out.below (HB.out _ hbd))).mono ?_)
 rintro e wb ⟨rfl, hbwb⟩
 (try go_wp2_with fail)
 replace hbd := below_then hbd hbwb;refine hK.out _ _ ?_;clear hK K
 try simp only [Act.put, pq1, pq2, pq3]
 refine tkB 6 rfl ?_;refine tkD ?_;go_wp2_with fail;go_ret;exact ⟨rfl, HB.out _ hbd⟩
def rcZero : Rc := ⟨0, 0, ⟨#[]⟩, 0, zero32, zero32, zero32, 0, 0⟩
theorem rcZero_ok : RcOK rcZero := ⟨⟨by show -9223372036854775808 ≤ (0 : Int); omega, by show (0 : Int) ≤ 9223372036854775807; omega⟩, ⟨by show -9223372036854775808 ≤ (0 : Int); omega, by show (0 : Int) ≤ 9223372036854775807; omega⟩, ⟨by show -9223372036854775808 ≤ (0 : Int); omega, by show (0 : Int) ≤ 9223372036854775807; omega⟩, Nat.zero_le _, rfl, rfl, rfl, Nat.zero_le _, Nat.zero_le _⟩
theorem rc_fill (parts : List (Nat × Value)) : Tryz.prog.built 75 parts = Instr.fill (fun i => (#[(0, 1), (1, 1), (2, 1), (3, 1), (4, 32), (36, 32), (68, 32), (100, 2)] : Array (Nat × Nat))[i]?) (rcA rcZero) parts := by kernel_rfl
theorem rc_put {x y : Rc} {off size : Nat} {v : Array Value} (pre mid post : List Value) (h1 : rcCells x = pre ++ (mid ++ post)) (hp : pre.length = off) (hm : mid.length = size) (h2 : rcCells y = pre ++ (v.toList ++ post)) :
 ((rcA x).toList.take off ++ (v.toList ++ (rcA x).toList.drop (off + size))).toArray = rcA y := by
 unfold rcA;rw [List.toList_toArray, h1, h2, put_mid pre mid post _ hp hm]
theorem rc_built (k s : Int) (d : ByteArray) (n : Int) (o h p : List UInt8) (ho : o.length = 32) (hh : h.length = 32) (hp : p.length = 32) :
 Tryz.prog.built 75 [(0, .int .i64 k), (1, .int .i64 s), (2, .string d), (3, .int .i64 n), (4, .agg (u8a o)), (5, .agg (u8a h)), (6, .agg (u8a p))] = some (rcA ⟨k, s, d, n, o, h, p, 0, 0⟩) := by
 have z : ∀ (k s : Int) (d : ByteArray) (n : Int) (o h p : List UInt8), o.length = 32 → h.length = 32 → p.length = 32 → (rcA ⟨k, s, d, n, o, h, p, 0, 0⟩).size = 102 := fun k s d n o h p ho hh hp => by
  show (rcCells _).length = 102;unfold rcCells;simp only [List.length_append, u8l_len, ho, hh, hp]
  rfl
 have uz : (u8l zero32).length = 32 := by rw [u8l_len]; rfl
 rw [rc_fill];rw [fill_step (off := 0) (size := 1) rfl rfl (by rw [show rcZero = ⟨0, 0, ⟨#[]⟩, 0, zero32, zero32, zero32, 0, 0⟩ from rfl, z _ _ _ _ _ _ _ rfl rfl rfl]; omega), rc_put (off := 0) (size := 1) (y := ⟨k, 0, ⟨#[]⟩, 0, zero32, zero32, zero32, 0, 0⟩) [] [.int .i64 0] _ rfl rfl rfl rfl];rw [fill_step (off := 1) (size := 1) rfl rfl (by rw [z _ _ _ _ _ _ _ rfl rfl rfl]; omega), rc_put (off := 1) (size := 1) (y := ⟨k, s, ⟨#[]⟩, 0, zero32, zero32, zero32, 0, 0⟩) [.int .i64 k] [.int .i64 0] _ rfl rfl rfl rfl];rw [fill_step (off := 2) (size := 1) rfl rfl (by rw [z _ _ _ _ _ _ _ rfl rfl rfl]; omega), rc_put (off := 2) (size := 1) (y := ⟨k, s, d, 0, zero32, zero32, zero32, 0, 0⟩) [.int .i64 k, .int .i64 s] [.string ⟨#[]⟩] _ rfl rfl rfl rfl];rw [fill_step (off := 3) (size := 1) rfl rfl (by rw [z _ _ _ _ _ _ _ rfl rfl rfl]; omega), rc_put (off := 3) (size := 1) (y := ⟨k, s, d, n, zero32, zero32, zero32, 0, 0⟩) [.int .i64 k, .int .i64 s, .string d] [.int .i64 0] _ rfl rfl rfl rfl];rw [fill_step (v := .agg (u8a o)) (off := 4) (size := 32) rfl (u8a_len ho) (by rw [z _ _ _ _ _ _ _ rfl rfl rfl]; omega), rc_put (v := (Value.agg (u8a o)).cells) (off := 4) (size := 32) (y := ⟨k, s, d, n, o, zero32, zero32, 0, 0⟩) [.int .i64 k, .int .i64 s, .string d, .int .i64 n] (u8l zero32) _ rfl rfl uz rfl];rw [fill_step (v := .agg (u8a h)) (off := 36) (size := 32) rfl (u8a_len hh) (by rw [z _ _ _ _ _ _ _ ho rfl rfl]; omega), rc_put (v := (Value.agg (u8a h)).cells) (off := 36) (size := 32) (y := ⟨k, s, d, n, o, h, zero32, 0, 0⟩) ([.int .i64 k, .int .i64 s, .string d, .int .i64 n] ++ u8l o) (u8l zero32) (u8l zero32 ++ [.int .i64 ((0 : Nat) : Int), .int .i64 ((0 : Nat) : Int)]) (by unfold rcCells; simp only [List.append_assoc]) (by rw [List.length_append, u8l_len, ho]; rfl) uz (by unfold rcCells; simp only [List.append_assoc]; rfl)];rw [fill_step (v := .agg (u8a p)) (off := 68) (size := 32) rfl (u8a_len hp) (by rw [z _ _ _ _ _ _ _ ho hh rfl]; omega), rc_put (v := (Value.agg (u8a p)).cells) (off := 68) (size := 32) (y := ⟨k, s, d, n, o, h, p, 0, 0⟩) ([.int .i64 k, .int .i64 s, .string d, .int .i64 n] ++ u8l o ++ u8l h) (u8l zero32) [.int .i64 ((0 : Nat) : Int), .int .i64 ((0 : Nat) : Int)] (by unfold rcCells; simp only [List.append_assoc]) (by rw [List.length_append, List.length_append, u8l_len, u8l_len, ho, hh]; rfl) uz (by unfold rcCells; simp only [List.append_assoc]; rfl)]
 rfl
theorem rc_sig {x : Rc} (h : RcOK x) (r t : Nat) : ((rcA x).setIfInBounds 100 (.int .i64 (r : Int))).setIfInBounds 101 (.int .i64 (t : Int)) = rcA { x with r := r, t := t } := by
 have l4 : ([Value.int .i64 x.k, .int .i64 x.s, .string x.d, .int .i64 x.n] ++ (u8l x.o ++ (u8l x.h ++ u8l x.p))).length = 100 := by simp only [List.length_append, u8l_len, h.o, h.h, h.p]; rfl
 have e : ∀ y : Rc, rcCells y = ([Value.int .i64 y.k, .int .i64 y.s, .string y.d, .int .i64 y.n] ++ (u8l y.o ++ (u8l y.h ++ u8l y.p))) ++ [.int .i64 (y.r : Int), .int .i64 (y.t : Int)] := fun y => by unfold rcCells; simp only [List.append_assoc]
 unfold rcA;rw [List.setIfInBounds_toArray, List.setIfInBounds_toArray, e x, e { x with r := r, t := t }, List.set_append_right _ _ (by omega), l4, List.set_append_right _ _ (by omega), l4]
 rfl
theorem name4e {P : Program} {code : Code} {Q : Exit → Act → World → Prop} {act : Act} {W : World} {t1 t2 t3 t4 : TypeId} {c1 c2 c3 c4 : Array Value} (d1 d2 d3 d4 : Array Value) (e1 : c1 = d1) (e2 : c2 = d2) (e3 : c3 = d3) (e4 : c4 = d4)
 (h : ∀ W0 : World, Blk W0 W.heap.size t1 d1 → Blk W0 (W.heap.size + 1) t2 d2 → Blk W0 (W.heap.size + 1 + 1) t3 d3 → Blk W0 (W.heap.size + 1 + 1 + 1) t4 d4 → Below W.heap.size W W0 → code.wp P Q act W0) : code.wp P Q act ((((W.alloc (.cells c1 t1)).alloc (.cells c2 t2)).alloc (.cells c3 t3)).alloc (.cells c4 t4)) := by
 subst e1 e2 e3 e4;refine h _ ((((Blk.new _ _ _).alloc _).alloc _).alloc _) ?_ ?_ ?_ (below_al (below_al (below_al (below_al (Below.refl _ _) _) _) _) _)
 ·have := ((Blk.new (W.alloc (.cells c1 t1)) t2 c2).alloc (.cells c3 t3)).alloc (.cells c4 t4);rwa [World.size_alloc] at this
 ·have := (Blk.new ((W.alloc (.cells c1 t1)).alloc (.cells c2 t2)) t3 c3).alloc (.cells c4 t4);rwa [World.size_alloc, World.size_alloc] at this
 ·have := Blk.new (((W.alloc (.cells c1 t1)).alloc (.cells c2 t2)).alloc (.cells c3 t3)) t4 c4;rwa [World.size_alloc, World.size_alloc, World.size_alloc] at this
theorem rRcHash_q (x : Rc) (h : RcOK x) : Ret 28 #[.agg (rcA x)] (.agg (u8a (shaS (textL x)))) := by
 intro w;have m1 := Lib.hid (rRcText_q x h);have m2 := Lib.hid (fun W => rSum_any (strB (textL x)) W (by rw [strB_size]; have := textL_len h; omega));rw [strB_list] at m2;have hsz : (u8a (shaS (textL x))).size = 32 := u8a_len (sha_len _);generalize shaS (textL x) = g at *;generalize strB (textL x) = t at *;have HX := Lib.hid h;clear h;go_enter Tryz.func28, Tryz.ntmps28;go_upto_region 1 with fail;refine name2e (rcA x) (u8a zero32) rfl rfl ?_;intro W0 k1 k2 hB _;obtain ⟨p, hp⟩ := exq w.heap.size;have hpB : w.heap.size ≤ p := Nat.le_of_eq hp.symm;rw [← hp] at k1 k2 ⊢;clear hp
 go_wp2_with (first
  | (refine wpList_load_rowG (by rfl) 75 _ rfl _ rfl p rfl _ (rcA x) (0, 0) _ k1 Tryz.underlying75 rfl (by rw [rcA_size HX.out]; exact rc_size) ?_)
  | (go_at_call 29; (with_reducible refine (m1.out _).mono ?_); rintro e w1 ⟨rfl, hb⟩; replace k2 := k2.below hb k2.lt; replace hB := below_then hB hb; clear hb)
  | (go_at_call 65; (with_reducible refine (m2.out _).mono ?_); rintro e w2 ⟨rfl, hb⟩; replace k2 := k2.below hb k2.lt; replace hB := below_then hB hb; clear hb)
  | (refine wpList_store_rowTo rfl 38 _ _ rfl rfl _ (u8a g) rfl rfl _ _ k2 (by rw [hsz]; exact hash_size) (by rw [hsz]; rfl) (u8a_one _) ?_))
 refine bodyPost_ret (results_cell_row (p := 2) (ty := 38) rfl _ _ (p + 1) _ (u8a g) (0, 0) _ rfl (k2.rowA _) Tryz.underlying38 rfl (by rw [hsz]; exact hash_size)) rfl ?_;exact ⟨rfl, below_setRow hB (by omega) _⟩
def Rc.withSig (x : Rc) (q : Nat × Nat) : Rc := { x with r := q.1, t := q.2 }
def Rc.sign (x : Rc) (secret : Nat) : Rc := x.withSig (signN (secret % qG) (bodyL x))
theorem withSig_ok {x : Rc} (h : RcOK x) (q : Nat × Nat) (h1 : q.1 ≤ 9223372036854775807) (h2 : q.2 ≤ 9223372036854775807) : RcOK (x.withSig q) := ⟨h.k, h.s, h.n, h.d, h.o, h.h, h.p, h1, h2⟩
theorem sign_small (x : Nat) (text : List UInt8) : (signN x text).1 ≤ 9223372036854775807 ∧ (signN x text).2 ≤ 9223372036854775807 := by
 obtain ⟨h1, h2⟩ := sign_I64 x text;generalize signN x text = q at *;obtain ⟨a, b⟩ := q;have := h1.2;have := h2.2;dsimp only at *
 omega
theorem sign_ok {x : Rc} (h : RcOK x) (secret : Nat) : RcOK (x.sign secret) := withSig_ok h _ (sign_small _ _).1 (sign_small _ _).2
theorem rSigned_q (secret : Nat) (hsec : secret ≤ 9223372036854775807) (x : Rc) (h : RcOK x) : Ret 64 #[.int .i64 (secret : Int), .agg (rcA x)] (.agg (rcA (x.sign secret))) := by
 intro w;have m1 := Lib.hid (rBody_q x h);have m2 := Lib.hid (rSign_s secret (strB (bodyL x)) hsec (by rw [strB_size]; have := bodyL_len h; omega));rw [strB_list] at m2;have hy := sign_ok h secret;have hsx := rcA_size h;have hsy := rcA_size hy;obtain ⟨y, hyd⟩ := exq (x.sign secret);rw [← hyd] at hy hsy ⊢;unfold Rc.sign at hyd;generalize signN (secret % qG) (bodyL x) = sg at *;obtain ⟨r, t⟩ := sg;have hset := rc_sig h r t;rw [show ({ x with r := r, t := t } : Rc) = x.withSig (r, t) from rfl, ← hyd] at hset;dsimp only at m2;unfold sigA at m2;clear hyd;generalize strB (bodyL x) = bs at *;have HX := Lib.hid h;have HY := Lib.hid hy;have HSET := Lib.hid hset;clear h hy hset;go_enter Tryz.func64, Tryz.ntmps64;go_upto_region 1 with fail;refine name2e (rcA x) (rcA rcZero) rfl rfl ?_;intro W0 k1 k2 hB _;obtain ⟨p, hp⟩ := exq w.heap.size;have hpB : w.heap.size ≤ p := Nat.le_of_eq hp.symm;rw [← hp] at k1 k2 ⊢;clear hp
 go_upto_region 2 with (first
  | (refine wpList_load_rowG (by rfl) 75 _ rfl _ rfl p rfl _ (rcA x) (0, 0) _ k1 Tryz.underlying75 rfl (by rw [hsx]; exact rc_size) ?_)
  | (refine wpList_store_rowTo rfl 75 _ _ rfl rfl _ (rcA x) rfl rfl _ _ (Blk.new _ _ _) (by rw [hsx]; exact rc_size) (by rw [hsx]; rfl) (rcA_one _) ?_))
 refine name1r ?_;intro W1 k3 hB1;obtain ⟨q, hq⟩ := exq W0.heap.size;have hqp : q ≠ p + 1 := by rw [hq]; exact Nat.ne_of_gt k2.lt
 rw [← hq] at k3 ⊢;replace k1 := k1.below hB1 k1.lt;replace k2 := k2.below hB1 k2.lt;have hqB : w.heap.size ≤ q := by have := hB.size; omega
 replace hB := below_then hB hB1;clear hB1 hq
 go_upto_region 3 with (first
  | (refine wpList_load_rowG (by rfl) 75 _ rfl _ rfl p rfl _ (rcA x) (0, 0) _ k1 Tryz.underlying75 rfl (by rw [hsx]; exact rc_size) ?_)
  | (go_at_call 67; (with_reducible refine (m1.out _).mono ?_); rintro e w1 ⟨rfl, hb⟩; replace k3 := k3.below hb k3.lt; replace k2 := k2.below hb k2.lt; replace hB := below_then hB hb; clear hb k1)
  | (go_at_call 116; (with_reducible refine (m2.out _).mono ?_); rintro e w2 ⟨rfl, hb⟩; replace k3 := k3.below hb k3.lt; replace k2 := k2.below hb k2.lt; replace hB := below_then hB hb; clear hb; have c0 := (rc_at k3 HX.out).r; have c1 := (rc_at k3 HX.out).t; have f0 := k3.frozen 100; have f1 := k3.frozen 101))
 have kS := (k3.set_ 100 (.int .i64 (r : Int))).set_ 101 (.int .i64 (t : Int));rw [HSET.out] at kS;replace k2 := (k2.far (p := ⟨q, 100, none⟩) (Ne.symm hqp) (.int .i64 (r : Int))).far (p := ⟨q, 101, none⟩) (Ne.symm hqp) (.int .i64 (t : Int));replace hB := below_set (below_set hB (p := ⟨q, 100, none⟩) hqB (.int .i64 (r : Int))) (p := ⟨q, 101, none⟩) hqB (.int .i64 (t : Int));clear c0 c1 f0 f1 k3;obtain ⟨W5, hW⟩ : ∃ W, W = (w2.setCell ⟨q, 100, none⟩ (.int .i64 (r : Int))).setCell ⟨q, 101, none⟩ (.int .i64 (t : Int)) := ⟨_, rfl⟩;rw [← hW] at kS k2 hB ⊢;clear hW
 go_wp2_with (first
  | (refine wpList_load_rowG (by rfl) 75 _ rfl _ rfl q rfl _ (rcA y) (0, 0) _ kS Tryz.underlying75 rfl (by rw [hsy]; exact rc_size) ?_)
  | (refine wpList_store_rowTo rfl 75 _ _ rfl rfl _ (rcA y) rfl rfl _ _ k2 (by rw [hsy]; exact rc_size) (by rw [hsy]; exact rcA_size rcZero_ok) (rcA_one _) ?_))
 refine bodyPost_ret (results_cell_row (p := 4) (ty := 75) rfl _ _ (p + 1) _ (rcA y) (0, 0) _ rfl (k2.rowA _) Tryz.underlying75 rfl (by rw [hsy]; exact rc_size)) rfl ?_;exact ⟨rfl, below_setRow hB (by omega) _⟩
theorem rPrint_q (k : Int) (secret : Nat) (s : Int) (d : ByteArray) (n : Int) (o h p : List UInt8) (hsec : secret ≤ 9223372036854775807) (hk : I64 k) (hs : I64 s) (hn : I64 n) (hd : d.size ≤ 1000) (ho : o.length = 32) (hh : h.length = 32) (hp : p.length = 32) :
 Ret 27 #[.int .i64 k, .int .i64 (secret : Int), .int .i64 s, .string d, .int .i64 n, .agg (u8a o), .agg (u8a h), .agg (u8a p)] (.agg (rcA ((⟨k, s, d, n, o, h, p, 0, 0⟩ : Rc).sign secret))) := by
 intro w;have hx : RcOK ⟨k, s, d, n, o, h, p, 0, 0⟩ := ⟨hk, hs, hn, hd, ho, hh, hp, Nat.zero_le _, Nat.zero_le _⟩;have hsy := rcA_size (sign_ok hx secret);have m1 := Lib.hid (rSigned_q secret hsec _ hx);have HB := Lib.hid (rc_built k s d n o h p ho hh hp);have HO := Lib.hid (And.intro ho (And.intro hh hp));have hso : (u8a o).size = 32 := u8a_len ho;have hsh : (u8a h).size = 32 := u8a_len hh;have hsp : (u8a p).size = 32 := u8a_len hp;generalize Rc.sign ⟨k, s, d, n, o, h, p, 0, 0⟩ secret = y at *;clear hk hs hn hd ho hh hp hx;generalize rcA ⟨k, s, d, n, o, h, p, 0, 0⟩ = xa at *;go_enter Tryz.func27, Tryz.ntmps27;go_upto_region 1 with fail;refine name4e (u8a o) (u8a h) (u8a p) (rcA rcZero) rfl rfl rfl rfl ?_;intro W0 k1 k2 k3 k4 hB;obtain ⟨b, hb0⟩ : ∃ p, p = w.heap.size := ⟨_, rfl⟩;have hpB : w.heap.size ≤ b := Nat.le_of_eq hb0.symm;rw [← hb0] at k1 k2 k3 k4 ⊢;clear hb0
 go_wp2_with (first
  | (refine wpList_load_rowG (by rfl) 38 _ rfl _ rfl b rfl _ (u8a o) (0, 0) _ k1 Tryz.underlying38 rfl (by rw [hso]; exact hash_size) ?_)
  | (refine wpList_load_rowG (by rfl) 38 _ rfl _ rfl (b + 1) rfl _ (u8a h) (0, 0) _ k2 Tryz.underlying38 rfl (by rw [hsh]; exact hash_size) ?_)
  | (refine wpList_load_rowG (by rfl) 38 _ rfl _ rfl (b + 1 + 1) rfl _ (u8a p) (0, 0) _ k3 Tryz.underlying38 rfl (by rw [hsp]; exact hash_size) ?_)
  | (refine wpList_buildTo rfl 75 _ rfl _ rfl xa (by simp [Act.eval]; exact HB.out) ?_)
  | (go_at_call 64; (with_reducible refine (m1.out _).mono ?_); rintro e w1 ⟨rfl, hb⟩; replace k4 := k4.below hb k4.lt; replace hB := below_then hB hb; clear hb)
  | (refine wpList_store_rowTo rfl 75 _ _ rfl rfl _ (rcA y) rfl rfl _ _ k4 (by rw [hsy]; exact rc_size) (by rw [hsy]; exact rcA_size rcZero_ok) (rcA_one _) ?_))
 refine bodyPost_ret (results_cell_row (p := 16) (ty := 75) rfl _ _ (b + 1 + 1 + 1) _ (rcA y) (0, 0) _ rfl (k4.rowA _) Tryz.underlying75 rfl (by rw [hsy]; exact rc_size)) rfl ?_;exact ⟨rfl, below_setRow hB (by omega) _⟩
def entriesL (d : ByteArray) (size : Int) (root : List UInt8) : List UInt8 := [101, 110, 116, 114, 105, 101, 115] ++ 32 :: (d.data.toList ++ 32 :: (decI size ++ 32 :: hexL root))
theorem entries_cat (d : ByteArray) (size : Int) (root : List UInt8) : ((((⟨#[101, 110, 116, 114, 105, 101, 115, 32]⟩ : ByteArray) ++ d) ++ ⟨#[32]⟩) ++ decIS size) ++ ⟨#[32]⟩ ++ strB (hexL root) = strB (entriesL d size root) := bytes_eq (by
 rw [strB_list];unfold entriesL;simp only [ByteArray.data_append, Array.toList_append, decIS_list, strB_list]
 simp)
theorem entriesL_size {d : ByteArray} {size : Int} {root : List UInt8} (hd : d.size ≤ 1000) (hs : I64 size) (hr : root.length = 32) : (strB (entriesL d size root)).size ≤ 1200 := by
 have h1 := decI_len hs;have h2 := size_len d;rw [strB_size];unfold entriesL;simp only [List.length_append, List.length_cons, hexL_len, hr, List.length_nil]
 omega
def recR (key : Int) (x : Rc) (size n : Int) (root : List UInt8) (ps : List (List UInt8)) (ms : List Mem) (vs : List Vt) : Int :=
 if verS key (bodyL x) (x.r : Int) (x.t : Int) = false then 21 else if fitsB size n (textL x) ps root = false then 20 else if decide (2 * totW ms < 3 * weightI ms vs (strB (entriesL x.d size root))) = false then 24 else 0
theorem rTotal_q (A : Option Addr) (n c : Nat) (ms : List Mem) (hn : n ≤ 9223372036854775807) (hI : I64M ms) (w : World) (hr : RowM w A n c ms) :
 Calls Tryz.prog 138 #[.slice A n c] w fun e w' => e = .returned (.int .i64 (totR ms)) ∧ Below w.heap.size w w' := by
 have m1 := Lib.hid (rtotal_q A n c ms hn hI w hr);generalize totR ms = b at *;clear hr hI hn;go_enter Tryz.func138, Tryz.ntmps138;go_wp2_with (go_at_call 91; (with_reducible refine m1.out.mono ?_); rintro e w1 ⟨rfl, hB⟩);go_ret;exact ⟨rfl, hB⟩
theorem rMany_q (A : Option Addr) (n c : Nat) (ms : List Mem) (A2 : Option Addr) (m c2 : Nat) (vs : List Vt) (t : ByteArray) (hr : rightMems ms = true) (hI : I64M ms) (hm : m ≤ 100000) (hIv : I64V vs) (ht : t.size ≤ 800000) (w : World) (h1 : RowM w A n c ms) (h2 : RowVt w A2 m c2 vs) :
 Calls Tryz.prog 78 #[.slice A n c, .slice A2 m c2, .string t] w fun e w' => e = .returned (.bool (decide (2 * totW ms < 3 * weightI ms vs t))) ∧ Below w.heap.size w w' := by
 have hR := rightM_iff.1 hr;have htot := totR_right hR;have hn13 : n ≤ 13 := by rw [← h1.len]; exact hR.hi
 have m1 := Lib.hid (rWeight_q A A2 n c m c2 ms vs t (by omega) hm hI hIv ht w h1 h2);have m2 := Lib.hid (fun W (hb : Below w.heap.size w W) => rTotal_q A n c ms (by omega) hI W (h1.below hb));rw [htot.1] at m2;have hw := weight_bound ms vs t;have hl := h1.len;obtain ⟨-, t1, t2⟩ := htot;generalize weightI ms vs t = a at *;generalize totW ms = b at *;have hwa : 0 ≤ a ∧ a ≤ 2000 := by omega
 clear hw hl hR h1 h2 hI hIv;obtain ⟨bo, hbo⟩ := exq (decide (2 * b < 3 * a));have HB := Lib.hid hbo;rw [← hbo];have hB := Below.refl w.heap.size w;clear hbo;go_enter Tryz.func78, Tryz.ntmps78
 go_wp2_with (first
  | (go_at_call 24; (with_reducible refine m1.out.mono ?_); rintro e w1 ⟨rfl, hb⟩; replace hB := below_then hB hb; clear hb)
  | (go_at_call 138; (with_reducible refine (m2.out _ hB).mono ?_); rintro e w2 ⟨rfl, hb⟩; replace hB := below_then hB hb; clear hb))
 go_ret;exact ⟨by rw [HB.out]; rfl, hB⟩
theorem rEntries_q (d : ByteArray) (size : Int) (root : List UInt8) (hd : d.size ≤ 1000) (hs : I64 size) (hr : root.length = 32) : Ret 32 #[.string d, .int .i64 size, .agg (u8a root)] (.string (strB (entriesL d size root))) := by
 intro w;have m1 := Lib.hid (Decimal_q size hs);have m2 := Lib.hid (rText_h root hr);have hds := hd;have s1 := decIS_size hs;have s2 : (strB (hexL root)).size ≤ 64 := by rw [strB_size, hexL_len, hr]; omega
 have HC := Lib.hid (entries_cat d size root);generalize strB (entriesL d size root) = out at *;generalize strB (hexL root) = d2 at *;generalize decIS size = d1 at *;have n0 : ¬ 9223372036854775807 < 8 + d.size := by omega
 have n1 : ¬ 9223372036854775807 < 8 + d.size + 1 := by omega
 have n2 : ¬ 9223372036854775807 < 8 + d.size + 1 + d1.size := by omega
 have n3 : ¬ 9223372036854775807 < 8 + d.size + 1 + d1.size + 1 := by omega
 have n4 : ¬ 9223372036854775807 < 8 + d.size + 1 + d1.size + 1 + d2.size := by omega
 have HR := Lib.hid hr;go_enter Tryz.func32, Tryz.ntmps32;go_upto_region 1 with fail;refine name1 (u8a root) rfl ?_;intro W0 k1 hB;obtain ⟨p, hp⟩ := exq w.heap.size;rw [← hp] at k1 ⊢;clear hp;have HB := Lib.hid hB;have HS := Lib.hid (fun Z (hb : Below W0.heap.size W0 Z) => hash_range (k1.below hb k1.lt));have hbd := (Below.refl W0.heap.size W0).drew;clear k1 hB;refine region_here (fun Z : World => Z.rangeAt p 0 (u8l root)) 9 (by kernel_rfl) (HS.out _ hbd) (fun hHeld => ?_);generalize W0.drew = V at *;refine tkT 0 rfl ?_;refine tkT 1 rfl ?_;refine tkT 2 rfl ?_;refine tkT 3 rfl ?_;refine tkV 7 (.agg (u8a root)) rfl (yieldsIf_load_mid (by rfl) 38 (.tmp 5) rfl p 0 rfl (u8l root) _ (fun Z hZ => hZ) Tryz.underlying38 rfl (by rw [u8l_len, HR.out]; exact hash_size)) ?_;refine tkO 4 rfl fun K hK => ?_;go_simp;go_at_call 48
 (with_reducible refine (m1.out _).mono ?_)
 rintro e wa ⟨rfl, hbwa⟩
 (try go_wp2_with fail)
 replace hbd := below_then hbd hbwa;refine hK.out _ _ ?_ (fun hHeld4 => ?_)
 ·exact HS.out _ hbd
 clear hK K
 try simp only [Act.put, pq1, pq2, pq3]
 refine tkT 5 rfl ?_;refine tkT 6 rfl ?_;refine tkO 8 rfl fun K hK => ?_;go_simp;go_at_call 71
 (with_reducible refine (m2.out _).mono ?_)
 rintro e wb ⟨rfl, hbwb⟩
 (try go_wp2_with fail)
 replace hbd := below_then hbd hbwb;refine hK.out _ _ ?_ (fun hHeld8 => ?_)
 ·exact HS.out _ hbd
 clear hK K
 try simp only [Act.put, pq1, pq2, pq3]
 refine tkK 9 rfl fun K hK => ?_;go_simp;refine hK.out _ _ ?_;clear hK K
 try simp only [Act.put, pq1, pq2, pq3]
 refine tkB 10 rfl ?_;refine tkD ?_;go_wp2_with fail;go_ret;exact ⟨by rw [HC.out]; rfl, below_then HB.out hbd⟩
theorem rReceipt_q (pc : Nat) (key size n : Int) (x : Rc) (root : List UInt8) (A4 : Option Addr) (n4 c4 : Nat) (ps : List (List UInt8)) (A5 : Option Addr) (n5 c5 : Nat) (vs : List Vt) (A3 : Option Addr) (n3 c3 : Nat) (ms : List Mem) (hrm : rightMems ms = true) (hIm : I64M ms) (hk : I64 key) (hs : I64 size) (hn : I64 n) (hx : RcOK x) (hr : root.length = 32) (h4 : n4 ≤ 1000) (hps : ∀ y ∈ ps, y.length = 32) (h5 : n5 ≤ 100000) (hIv : I64V vs) (w : World) (hc6 : w.cell? ⟨pc, 6, none⟩ = some (.slice A3 n3 c3)) (hm3 : RowM w A3 n3 c3 ms) (hrow : RowH w A4 n4 c4 ps) (hv : RowVt w A5 n5 c5 vs) :
 Calls Tryz.prog 36 #[.pointer (some ⟨pc, 0, none⟩), .agg (rcA x), .int .i64 key, .int .i64 size, .agg (u8a root), .int .i64 n, .slice A4 n4 c4, .slice A5 n5 c5] w fun e w' => e = .returned (.int .i64 (recR key x size n root ps ms vs)) ∧ Below w.heap.size w w' := by
 have m1 := Lib.hid (rRcVerify_q key hk x hx);have m2 := Lib.hid (rRcText_q x hx);have m3 := Lib.hid (fun W (h : Below w.heap.size w W) => rCheckPath_q size n root (strB (textL x)) A4 n4 c4 ps hs hn hr (by rw [strB_size]; have := textL_len hx; omega) h4 hps W (hrow.below h));rw [strB_list] at m3;have m4 := Lib.hid (rEntries_q x.d size root hx.d hs hr);have m5 := Lib.hid (fun W (hb : Below w.heap.size w W) => rMany_q A3 n3 c3 ms A5 n5 c5 vs (strB (entriesL x.d size root)) hrm hIm h5 hIv (by have := entriesL_size hx.d hs hr; omega) W (hm3.below hb) (hv.below hb));have HCC := Lib.hid (fun W (hb : Below w.heap.size w W) => cell_b hb hc6);unfold recR;generalize verS key (bodyL x) (x.r : Int) (x.t : Int) = b1 at *;generalize fitsB size n (textL x) ps root = b2 at *;generalize strB (textL x) = tx at *;generalize decide (2 * totW ms < 3 * weightI ms vs (strB (entriesL x.d size root))) = b3 at *;generalize strB (entriesL x.d size root) = out at *;have HX := Lib.hid hx;have HR := Lib.hid hr;clear hk hs hn hx hr hps hIv hrow hv hm3 hc6 hrm hIm;go_enter Tryz.func36, Tryz.ntmps36;go_upto_region 1 with fail;refine name2e (rcA x) (u8a root) rfl rfl ?_;intro W0 k1 k2 hB _;obtain ⟨p, hp⟩ := exq w.heap.size;rw [← hp] at k1 k2 ⊢;clear hp;have hsx := rcA_size HX.out;have HB := Lib.hid (fun Z (hb : Below W0.heap.size W0 Z) => below_then hB hb);have HS := Lib.hid (fun Z (hb : Below W0.heap.size W0 Z) => And.intro (rc_at (k1.below hb k1.lt) HX.out) (And.intro (hash_range (k2.below hb k2.lt)) (HCC.out Z (below_then hB hb))));have hbd := Below.refl W0.heap.size W0
 cases b1 with
 | false =>
   go_wp2_with (first
    | (refine wpList_load_rowG (by rfl) 75 _ rfl _ rfl p rfl _ (rcA x) (0, 0) _ k1 Tryz.underlying75 rfl (by rw [hsx]; exact rc_size) ?_)
    | (go_at_call 76; (with_reducible refine (m1.out _).mono ?_); rintro e w1 ⟨rfl, hb1⟩; replace hbd := below_then hbd hb1; clear hb1))
   go_ret;exact ⟨rfl, HB.out _ hbd⟩
 | true =>
   go_upto_region 4 with (first
    | (refine wpList_load_rowG (by rfl) 75 _ rfl _ rfl p rfl _ (rcA x) (0, 0) _ k1 Tryz.underlying75 rfl (by rw [hsx]; exact rc_size) ?_)
    | (go_at_call 76; (with_reducible refine (m1.out _).mono ?_); rintro e w1 ⟨rfl, hb1⟩; replace hbd := below_then hbd hb1; clear hb1))
   clear k1 k2;replace hbd := hbd.drew;refine region_here (fun Z : World => RcAt Z p x ∧ Z.rangeAt (p + 1) 0 (u8l root) ∧ Z.cell? ⟨pc, 6, none⟩ = some (.slice A3 n3 c3)) 6 (by kernel_rfl) (HS.out _ hbd) (fun hHeld => ?_);generalize w1.drew = V at *;refine tkT 0 rfl ?_;refine tkV 1 (.agg (u8a root)) rfl (yieldsIf_load_mid (by rfl) 38 (.tmp 12) rfl (p + 1) 0 rfl (u8l root) _ (fun Z hZ => hZ.2.1) Tryz.underlying38 rfl (by rw [u8l_len, HR.out]; exact hash_size)) ?_;refine tkT 2 rfl ?_;refine tkV 3 (.agg (rcA x)) rfl (yieldsIf_load_mid (by rfl) 75 (.tmp 9) rfl p 0 rfl (rcCells x) _ (fun Z hZ => hZ.1.all) Tryz.underlying75 rfl (by rw [rcCells_len HX.out]; exact rc_size)) ?_;refine tkT 5 rfl ?_;refine tkO 4 rfl fun K hK => ?_;go_simp;go_at_call 29
   (with_reducible refine (m2.out _).mono ?_)
   rintro e wa ⟨rfl, hbwa⟩
   (try go_wp2_with fail)
   replace hbd := below_then hbd hbwa;refine hK.out _ _ ?_ (fun hHeld4 => ?_)
   ·exact HS.out _ hbd
   clear hK K
   try simp only [Act.put, pq1, pq2, pq3]
   refine tkK 6 rfl fun K hK => ?_;go_simp;go_at_call 77
   (with_reducible refine (m3.out _ (HB.out _ hbd)).mono ?_)
   rintro e wb ⟨rfl, hbwb⟩
   (try go_wp2_with fail)
   replace hbd := below_then hbd hbwb;refine hK.out _ _ ?_;clear hK K
   try simp only [Act.put, pq1, pq2, pq3]
   refine tkB 7 rfl ?_;refine tkD ?_
   cases b2 with
   | false =>
     go_wp2_with fail;go_ret;exact ⟨rfl, HB.out _ hbd⟩
   | true =>
     go_upto_region 7 with fail;replace hbd := hbd.drew;refine region_here (fun Z : World => RcAt Z p x ∧ Z.rangeAt (p + 1) 0 (u8l root) ∧ Z.cell? ⟨pc, 6, none⟩ = some (.slice A3 n3 c3)) 11 (by kernel_rfl) (HS.out _ hbd) (fun hHeld => ?_);generalize wb.drew = V2 at *;refine tkT 0 rfl ?_;refine tkT 1 rfl ?_;refine tkT 2 rfl ?_;refine tkT 3 rfl ?_;refine tkV 4 (.slice A3 n3 c3) rfl (Or.inl ⟨by rfl, by intro Z hZ; have h1 := hZ.2.2; clear hZ; go_simp; try with_reducible rfl⟩) ?_;refine tkT 5 rfl ?_;refine tkT 6 rfl ?_;refine tkV 7 (.string x.d) rfl (Or.inl ⟨by rfl, by intro Z hZ; have h1 := hZ.1.d; clear hZ; go_simp; try with_reducible rfl⟩) ?_;refine tkT 8 rfl ?_;refine tkV 9 (.agg (u8a root)) rfl (yieldsIf_load_mid (by rfl) 38 (.tmp 12) rfl (p + 1) 0 rfl (u8l root) _ (fun Z hZ => hZ.2.1) Tryz.underlying38 rfl (by rw [u8l_len, HR.out]; exact hash_size)) ?_;refine tkO 10 rfl fun K hK => ?_;go_simp;go_at_call 32
     (with_reducible refine (m4.out _).mono ?_)
     rintro e we ⟨rfl, hbwe⟩
     (try go_wp2_with fail)
     replace hbd := below_then hbd hbwe;refine hK.out _ _ ?_ (fun hHeld10 => ?_)
     ·exact HS.out _ hbd
     clear hK K
     try simp only [Act.put, pq1, pq2, pq3]
     refine tkK 11 rfl fun K hK => ?_;go_simp;go_at_call 78
     (with_reducible refine (m5.out _ (HB.out _ hbd)).mono ?_)
     rintro e wf ⟨rfl, hbwf⟩
     (try go_wp2_with fail)
     replace hbd := below_then hbd hbwf;refine hK.out _ _ ?_;clear hK K
     try simp only [Act.put, pq1, pq2, pq3]
     refine tkB 12 rfl ?_;refine tkD ?_
     cases b3 with
     | false =>
       go_wp2_with fail;go_ret;exact ⟨rfl, HB.out _ hbd⟩
     | true =>
       go_wp2_with fail;go_ret;exact ⟨rfl, HB.out _ hbd⟩
theorem Receipt_q (pc : Nat) (key size n : Int) (x : Rc) (root : List UInt8) (A4 : Option Addr) (n4 c4 : Nat) (ps : List (List UInt8)) (A5 : Option Addr) (n5 c5 : Nat) (vs : List Vt) (B : Nat) (top : Hdr) (h : Hdr) (hsm : HdrSm h) (hrm : rightMems h.mems = true) (hk : I64 key) (hs : I64 size) (_hn : I64 n) (hx : RcOK x) (hr : root.length = 32) (h4 : n4 ≤ 1000) (hps : ∀ y ∈ ps, y.length = 32) (h5 : n5 ≤ 100000) (hIv : I64V vs) (w : World) (hT : Tabs w) (hcli : Cli B pc w top h) (hrow : RowH w A4 n4 c4 ps) (hv : RowVt w A5 n5 c5 vs) :
 Calls Tryz.prog 33 #[.pointer (some ⟨pc, 0, none⟩), .agg (rcA x), .int .i64 key, .int .i64 size, .agg (u8a root), .int .i64 n, .slice A4 n4 c4, .slice A5 n5 c5] w fun e w' => e = .returned (.int .i64 (recR key x size n root ps h.mems vs)) ∧ Below w.heap.size w w' := by
 have m1 := Lib.hid (RcVerify_q key hk x hx);have m2 := Lib.hid (RcText_q x hx);have m3 := Lib.hid (fun W (h : Below w.heap.size w W) => CheckPath_q size n root (strB (textL x)) A4 n4 c4 ps hs hr (by rw [strB_size]; have := textL_len hx; omega) h4 hps W (hT.below h) (hrow.below h));rw [strB_list] at m3;have m4 := Lib.hid (itoa_int size hs);have m5 := Lib.hid (Text_h root hr);have hd := hx.d;have hds := hd;have s1 := decIS_size hs;have s2 : (strB (hexL root)).size ≤ 64 := by rw [strB_size, hexL_len, hr]; omega
 have HC := Lib.hid (entries_cat x.d size root);obtain ⟨hcB, xt, y, kc, -, hyo⟩ := hcli;have m6 := Lib.hid (fun W (hb : Below w.heap.size w W) => many_q y h hsm hrm A5 n5 c5 vs (strB (entriesL x.d size root)) h5 hIv (by have := entriesL_size hx.d hs hr; omega) W (hT.below hb) (hyo.in_.below hb) (hv.below hb));unfold hdrA at m6;unfold cliA at kc;have hcc : ∀ W, Below w.heap.size w W → Blk W pc 90 _ := fun W hb => kc.below hb kc.lt;have HCC := Lib.hid hcc;unfold recR;generalize verS key (bodyL x) (x.r : Int) (x.t : Int) = b1 at *;generalize fitsB size n (textL x) ps root = b2 at *;generalize strB (textL x) = tx at *;generalize decide (2 * totW h.mems < 3 * weightI h.mems vs (strB (entriesL x.d size root))) = b3 at *;generalize strB (entriesL x.d size root) = out at *;generalize strB (hexL root) = d2 at *;generalize decIS size = d1 at *;have HT := Lib.hid (fun W (h : Below w.heap.size w W) => hT.below h);have n0' : ¬ 9223372036854775807 < 8 + x.d.size := by omega
 have n1' : ¬ 9223372036854775807 < 8 + x.d.size + 1 := by omega
 have n2' : ¬ 9223372036854775807 < 8 + x.d.size + 1 + d1.size := by omega
 have n3' : ¬ 9223372036854775807 < 8 + x.d.size + 1 + d1.size + 1 := by omega
 have n4' : ¬ 9223372036854775807 < 8 + x.d.size + 1 + d1.size + 1 + d2.size := by omega
 have HX := Lib.hid hx;have HR := Lib.hid hr;clear hk hs _hn hx hr hps hIv hrow hv hT hsm hrm hcc hyo kc hds hcB;go_enter Tryz.func33, Tryz.ntmps33;go_upto_region 1 with fail;refine name2e (rcA x) (u8a root) rfl rfl ?_;intro W0 k1 k2 hB _;obtain ⟨p, hp⟩ := exq w.heap.size;rw [← hp] at k1 k2 ⊢;clear hp;have hsx := rcA_size HX.out;have HB := Lib.hid (fun Z (hb : Below W0.heap.size W0 Z) => below_then hB hb);have HS := Lib.hid (fun Z (hb : Below W0.heap.size W0 Z) => And.intro (rc_at (k1.below hb k1.lt) HX.out) (And.intro (hash_range (k2.below hb k2.lt)) trivial));have hbd := Below.refl W0.heap.size W0;have mn := Lib.hid (none_of pc true W0 ((HCC.out W0 (HB.out W0 hbd)).cell 0))
 cases b1 with
 | false =>
   go_wp2_with (first
    | (go_at_call 52; (with_reducible refine mn.out.mono ?_); rintro e w1 ⟨rfl, hww⟩; obtain rfl := hww.symm)
    | (refine wpList_load_rowG (by rfl) 75 _ rfl _ rfl p rfl _ (rcA x) (0, 0) _ k1 Tryz.underlying75 rfl (by rw [hsx]; exact rc_size) ?_)
    | (go_at_call 72; (with_reducible refine (m1.out _ (HT.out _ (HB.out _ hbd))).mono ?_); rintro e w1 ⟨rfl, hb1⟩; replace hbd := below_then hbd hb1; clear hb1))
   go_ret;exact ⟨rfl, HB.out _ hbd⟩
 | true =>
   go_upto_region 5 with (first
    | (go_at_call 52; (with_reducible refine mn.out.mono ?_); rintro e w1 ⟨rfl, hww⟩; obtain rfl := hww.symm)
    | (refine wpList_load_rowG (by rfl) 75 _ rfl _ rfl p rfl _ (rcA x) (0, 0) _ k1 Tryz.underlying75 rfl (by rw [hsx]; exact rc_size) ?_)
    | (go_at_call 72; (with_reducible refine (m1.out _ (HT.out _ (HB.out _ hbd))).mono ?_); rintro e w1 ⟨rfl, hb1⟩; replace hbd := below_then hbd hb1; clear hb1))
   clear k1 k2;replace hbd := hbd.drew;refine region_here (fun Z : World => RcAt Z p x ∧ Z.rangeAt (p + 1) 0 (u8l root) ∧ True) 6 (by kernel_rfl) (HS.out _ hbd) (fun hHeld => ?_);generalize w1.drew = V at *;refine tkT 0 rfl ?_;refine tkV 1 (.agg (u8a root)) rfl (yieldsIf_load_mid (by rfl) 38 (.tmp 12) rfl (p + 1) 0 rfl (u8l root) _ (fun Z hZ => hZ.2.1) Tryz.underlying38 rfl (by rw [u8l_len, HR.out]; exact hash_size)) ?_;refine tkT 2 rfl ?_;refine tkV 3 (.agg (rcA x)) rfl (yieldsIf_load_mid (by rfl) 75 (.tmp 9) rfl p 0 rfl (rcCells x) _ (fun Z hZ => hZ.1.all) Tryz.underlying75 rfl (by rw [rcCells_len HX.out]; exact rc_size)) ?_;refine tkT 5 rfl ?_;refine tkO 4 rfl fun K hK => ?_;go_simp;go_at_call 74
   (with_reducible refine (m2.out _ (HT.out _ (HB.out _ hbd))).mono ?_)
   rintro e wa ⟨rfl, hbwa⟩
   (try go_wp2_with fail)
   replace hbd := below_then hbd hbwa;refine hK.out _ _ ?_ (fun hHeld4 => ?_)
   ·exact HS.out _ hbd
   clear hK K
   try simp only [Act.put, pq1, pq2, pq3]
   refine tkK 6 rfl fun K hK => ?_;go_simp;go_at_call 73
   (with_reducible refine (m3.out _ (HB.out _ hbd)).mono ?_)
   rintro e wb ⟨rfl, hbwb⟩
   (try go_wp2_with fail)
   replace hbd := below_then hbd hbwb;refine hK.out _ _ ?_;clear hK K
   try simp only [Act.put, pq1, pq2, pq3]
   refine tkB 7 rfl ?_;refine tkD ?_
   cases b2 with
   | false =>
     go_wp2_with fail;go_ret;exact ⟨rfl, HB.out _ hbd⟩
   | true =>
     go_upto_region 7 with fail;replace hbd := hbd.drew;refine region_here (fun Z : World => RcAt Z p x ∧ Z.rangeAt (p + 1) 0 (u8l root) ∧ True) 10 (by kernel_rfl) (HS.out _ hbd) (fun hHeld => ?_);generalize wb.drew = V2 at *;refine tkT 0 rfl ?_;refine tkV 1 (.string x.d) rfl (Or.inl ⟨by rfl, by intro Z hZ; have h1 := hZ.1.d; clear hZ; go_simp; try with_reducible rfl⟩) ?_;refine tkT 2 rfl ?_;refine tkT 3 rfl ?_;refine tkT 4 rfl ?_;refine tkV 8 (.agg (u8a root)) rfl (yieldsIf_load_mid (by rfl) 38 (.tmp 12) rfl (p + 1) 0 rfl (u8l root) _ (fun Z hZ => hZ.2.1) Tryz.underlying38 rfl (by rw [u8l_len, HR.out]; exact hash_size)) ?_;refine tkO 5 rfl fun K hK => ?_;go_simp;go_at_call 57
     (with_reducible refine (m4.out _ (HT.out _ (HB.out _ hbd))).mono ?_)
     rintro e we ⟨rfl, hbwe⟩
     (try go_wp2_with fail)
     replace hbd := below_then hbd hbwe;refine hK.out _ _ ?_ (fun hHeld5 => ?_)
     ·exact HS.out _ hbd
     clear hK K
     try simp only [Act.put, pq1, pq2, pq3]
     refine tkT 6 rfl ?_;refine tkT 7 rfl ?_;refine tkO 9 rfl fun K hK => ?_;go_simp;go_at_call 59
     (with_reducible refine (m5.out _).mono ?_)
     rintro e wf ⟨rfl, hbwf⟩
     (try go_wp2_with fail)
     replace hbd := below_then hbd hbwf;refine hK.out _ _ ?_ (fun hHeld9 => ?_)
     ·exact HS.out _ hbd
     clear hK K
     try simp only [Act.put, pq1, pq2, pq3]
     refine tkK 10 rfl fun K hK => ?_;go_simp;refine hK.out _ _ ?_;clear hK K
     try simp only [Act.put, pq1, pq2, pq3]
     refine tkB 11 rfl ?_;refine tkD ?_;go_upto_region 8 with fail;rw [HC.out];have kk := HCC.out _ (HB.out _ hbd);have q6 := kk.cell 6;have q7 := kk.cell 7;have q8 := kk.cell 8;have q9 := kk.cell 9;have q10 := kk.cell 10;clear kk
     cases b3 with
     | false =>
       go_wp2_with (go_at_call 53; (with_reducible refine (m6.out _ (HB.out _ hbd)).mono ?_); rintro e w9 ⟨rfl, hb9⟩; replace hbd := below_then hbd hb9);go_ret;exact ⟨rfl, HB.out _ hbd⟩
     | true =>
       go_wp2_with (go_at_call 53; (with_reducible refine (m6.out _ (HB.out _ hbd)).mono ?_); rintro e w9 ⟨rfl, hb9⟩; replace hbd := below_then hbd hb9);go_ret;exact ⟨rfl, HB.out _ hbd⟩
theorem Mod_q (n m : Int) (h3 : 0 < m) (h4 : m ≤ 4611686018427387904) : Ret 34 #[.int .i64 n, .int .i64 m] (.int .i64 (n % m)) := by
 intro w;have hm0 : ¬ m = 0 := by omega
 have hr := Int.emod_nonneg n hm0;have hl := Int.emod_lt_of_pos n h3;have ht : n.tmod m = n % m ∨ (n.tmod m = n % m - m ∧ n.tmod m < 0) := by
  rw [Int.tmod_eq_emod]
  split
  ·left; omega
  ·right
   rename_i hh
   have hz : n % m ≠ 0 := fun e => hh (.inr (Int.dvd_of_emod_eq_zero e));rw [Int.natAbs_of_nonneg (by omega)]
   omega
 generalize n % m = r at *;generalize htm : n.tmod m = t at *;have hb0 : (m == 0) = false := by rw [beq_eq_false_iff_ne]; omega
 have hw : IntKind.i64.wrap t = t := IntWalk.i64_in _ (by omega)
 rcases ht with rfl | ⟨ht, hneg⟩
 ·go_enter Tryz.func34, Tryz.ntmps34;go_wp2_with fail;go_ret;exact ⟨rfl, Below.refl _ _⟩
 ·have hs : IntKind.i64.wrap (t + m) = t + m := IntWalk.i64_in _ (by omega);obtain rfl : r = t + m := by omega
  clear ht;go_enter Tryz.func34, Tryz.ntmps34;go_wp2_with fail;go_ret;exact ⟨rfl, Below.refl _ _⟩
abbrev Rc1 := { x : Rc // RcOK x }
def encRc (x : Rc1) : List Value := rcCells x.1
theorem encRc_len (x : Rc1) : (encRc x).length = 102 := rcCells_len x.2
theorem encRc_one (x : Rc1) : ∀ u ∈ encRc x, u.oneCell' = true := fun u hu => by
 have := rcA_one x.1;rw [Array.all_eq_true_iff_forall_mem] at this;exact this u (by unfold rcA; rw [List.mem_toArray]; exact hu)
theorem rc_info : (Tryz.prog.info? 75).map (fun i => (i.zero, i.size, i.bytes)) = some (some (.agg (rcA rcZero)), 102, 152) := by kernel_rfl
theorem rc_sl_fill (parts : List (Nat × Value)) : Tryz.prog.builtSlice 75 1 parts = Instr.fill (fun i => some (i * 102, 102)) (rcA rcZero) parts := by kernel_rfl
theorem rc_slice1 (x : Rc) (h : RcOK x) : Tryz.prog.builtSlice 75 1 [(0, .agg (rcA x))] = some (rcA x) := by
 rw [rc_sl_fill, fill_step (v := .agg (rcA x)) (off := 0) (size := 102) rfl (rcA_size h) (by rw [rcA_size rcZero_ok]; omega)];show some _ = some _
 congr 1
 exact rc_put (v := rcA x) (off := 0) (size := 102) (y := x) [] (rcCells rcZero) [] (by simp) rfl (rcCells_len rcZero_ok) (by unfold rcA; simp)
def lottoB : ByteArray := ⟨#[108, 111, 116, 116, 111]⟩
def kR (sec k : Nat) (prev : List UInt8) : Rc := (⟨3, ((1 + k : Nat) : Int), lottoB, ((k / 2 : Nat) : Int), zero32, UInt8.ofNat k :: List.replicate 31 0, prev, 0, 0⟩ : Rc).sign sec
def prevK (sec : Nat) : Nat → List UInt8
 | 0 => zero32
 | k + 1 => shaS (textL (kR sec k (prevK sec k)))
theorem prevK_len (sec : Nat) : ∀ k, (prevK sec k).length = 32
 | 0 => rfl
 | _ + 1 => sha_len _
def recK (sec k : Nat) : Rc := kR sec k (prevK sec k)
theorem kR_base {k : Nat} {prev : List UInt8} (hk : k ≤ 100) (hp : prev.length = 32) : RcOK ⟨3, ((1 + k : Nat) : Int), lottoB, ((k / 2 : Nat) : Int), zero32, UInt8.ofNat k :: List.replicate 31 0, prev, 0, 0⟩ :=
 ⟨⟨by show -9223372036854775808 ≤ (3 : Int); omega, by show (3 : Int) ≤ 9223372036854775807; omega⟩, ⟨by show -9223372036854775808 ≤ ((1 + k : Nat) : Int); omega, by show ((1 + k : Nat) : Int) ≤ 9223372036854775807; omega⟩,
   ⟨by show -9223372036854775808 ≤ ((k / 2 : Nat) : Int); omega, by show ((k / 2 : Nat) : Int) ≤ 9223372036854775807; omega⟩, by show 5 ≤ 1000; omega, rfl, by show (UInt8.ofNat k :: List.replicate 31 0).length = 32; simp, hp, Nat.zero_le _, Nat.zero_le _⟩
theorem recK_ok (sec : Nat) {k : Nat} (hk : k ≤ 100) : RcOK (recK sec k) := sign_ok (kR_base hk (prevK_len sec k)) sec
def recs (sec i : Nat) : List Rc := (List.range i).map (recK sec)
theorem recs_succ (sec i : Nat) : recs sec (i + 1) = recs sec i ++ [recK sec i] := by unfold recs; rw [List.range_succ, List.map_append]; rfl
theorem recs_len (sec i : Nat) : (recs sec i).length = i := by unfold recs; rw [List.length_map, List.length_range]
def lvs (sec i : Nat) : List ByteArray := (List.range i).map fun k => strB (textL (recK sec k))
theorem lvs_succ (sec i : Nat) : lvs sec (i + 1) = lvs sec i ++ [strB (textL (recK sec i))] := by unfold lvs; rw [List.range_succ, List.map_append]; rfl
theorem lvs_len (sec i : Nat) : (lvs sec i).length = i := by unfold lvs; rw [List.length_map, List.length_range]
theorem lvs_size (sec : Nat) {i : Nat} (hi : i ≤ 100) : ∀ s ∈ lvs sec i, s.size ≤ 900000 := fun s hs => by
 unfold lvs at hs;obtain ⟨k, hk, rfl⟩ := List.mem_map.1 hs;have hk2 := List.mem_range.1 hk;have := textL_len (recK_ok sec (k := k) (by omega));rw [strB_size]; omega
theorem lvs_txs (sec i : Nat) : txs (lvs sec i) = (List.range i).map fun k => textL (recK sec k) := by
 unfold txs lvs;rw [List.map_map];refine List.map_congr_left fun k _ => ?_;exact strB_list _
theorem rec_fits (sec N i : Nat) (hi : i < N) (hN : N ≤ 100) : fitsB (N : Int) (i : Int) (textL (recK sec i)) (pathT (63 + 1) (txs (lvs sec N)) i) (rootT (63 + 1) (txs (lvs sec N))) = true := by
 have hl : (txs (lvs sec N)).length = N := by rw [txs_len, lvs_len]
 have h1 := path_len 63 (txs (lvs sec N)) i (by omega) (by omega) (by omega);have h2 := up_path 63 (txs (lvs sec N)) i (by omega) (by omega) (by omega);have h3 : (txs (lvs sec N)).getD i [] = textL (recK sec i) := by
  rw [lvs_txs, List.getD_eq_getElem?_getD, List.getElem?_map, List.getElem?_range hi]; rfl
 rw [hl] at h1;rw [h3, hl] at h2;rw [fitsB_in hi h1];exact decide_eq_true h2
theorem withSig_body (x : Rc) (q : Nat × Nat) : bodyL (x.withSig q) = bodyL x := rfl
theorem withSig_r (x : Rc) (q : Nat × Nat) : (x.withSig q).r = q.1 := rfl
theorem withSig_t (x : Rc) (q : Nat × Nat) : (x.withSig q).t = q.2 := rfl
theorem rec_signed (sec k : Nat) (hs : sec < qG) : verS ((gP sec : Nat) : Int) (bodyL (recK sec k)) ((recK sec k).r : Int) ((recK sec k).t : Int) = true := by
 unfold recK kR Rc.sign;rw [withSig_body, withSig_r, withSig_t, Nat.mod_eq_of_lt hs];exact ver_sign sec hs _
theorem recR_ok {key : Int} {x : Rc} {size n : Int} {root : List UInt8} {ps : List (List UInt8)} {ms : List Mem} {vs : List Vt} (h1 : verS key (bodyL x) (x.r : Int) (x.t : Int) = true) (h2 : fitsB size n (textL x) ps root = true) (h3 : 2 * totW ms < 3 * weightI ms vs (strB (entriesL x.d size root))) : recR key x size n root ps ms vs = 0 := by
 unfold recR;rw [h1, h2, decide_eq_true h3]; rfl
theorem Made_one (A : Option Addr) (n c : Nat) (l : List Int) (hI1 : ∀ x ∈ l, I64 x) (hn : n ≤ 9223372036854775807) (w : World) (h1 : RowI w A n c l) :
 Calls Tryz.prog 13 #[.slice (some ⟨w.heap.size, 0, none⟩) 1 1] (w.alloc (.cells #[.slice A n c] 25)) (ChainPost 1 w) := by
 have hB : Below w.heap.size w (w.alloc (.cells #[.slice A n c] 25)) := below_al (Below.refl _ _) _;have k3 := Blk.new w 25 #[.slice A n c];have r3 : RowV (w.alloc (.cells #[.slice A n c] 25)) (some ⟨w.heap.size, 0, none⟩) 1 1 [.slice A n c] := by
  refine ⟨rfl, Nat.le_refl _, fun _ => ⟨_, 0, rfl, fun j i x u hx hu => ?_⟩⟩;have hi : i < 1 := (List.getElem?_eq_some_iff.1 hu).1;obtain rfl : i = 0 := by omega
  obtain rfl : x = u := Option.some.inj hu;have hj : j < 1 := (List.getElem?_eq_some_iff.1 hx).1;obtain rfl : j = 0 := by omega
  exact (k3.cell 0).trans hx
 have hl1 := h1.len;have r4 : RowsI (w.alloc (.cells #[.slice A n c] 25)) [.slice A n c] [l] := by
  refine ⟨rfl, fun i v x hv hx => ?_⟩;have hi : i < 1 := (List.getElem?_eq_some_iff.1 hv).1;obtain rfl : i = 0 := by omega
  cases hv; cases hx; rw [hl1]; exact ⟨A, c, rfl, h1.below hB⟩
 refine (Made_q (some ⟨w.heap.size, 0, none⟩) 1 1 _ [l] (by omega) (fun x hx => ?_) (fun x hx => ?_) _ r3 r4).mono ?_
 ·obtain rfl := List.mem_singleton.1 hx;exact hI1
 ·obtain rfl := List.mem_singleton.1 hx
  omega
 rintro e' w' ⟨vG, vH, gs, ys, es, hs, K, rfl, q1, q2, q3, q4, q5, q6⟩;exact ⟨vG, vH, gs, ys, es, hs, K, rfl, q1.le hB.size, q2.le hB.size, q3.le hB.size, q4, q5, below_then hB q6⟩
theorem rNew_q (e : Int) (A1 A2 A3 A4 : Option Addr) (n1 c1 n2 c2 n3 c3 n4 c4 : Nat) (w : World) :
 Calls Tryz.prog 25 #[.agg #[.int .i64 e, .slice A1 n1 c1, .slice A2 n2 c2, .slice A3 n3 c3, .slice A4 n4 c4]] w fun en w' => ∃ p, en = .returned (.pointer (some ⟨p, 0, none⟩)) ∧ w'.cell? ⟨p, 6, none⟩ = some (.slice A1 n1 c1) ∧ Below w.heap.size w w' := by
 go_enter Tryz.func25, Tryz.ntmps25;go_upto_region 1 with fail;refine name1p ?_;intro W0 k1 hB;have q0 : W0.cell? ⟨w.heap.size, 0, none⟩ = some (.int .i64 e) := k1.cell 0;have q1 : W0.cell? ⟨w.heap.size, 1, none⟩ = some (.slice A1 n1 c1) := k1.cell 1;have q2 : W0.cell? ⟨w.heap.size, 2, none⟩ = some (.slice A2 n2 c2) := k1.cell 2;have q3 : W0.cell? ⟨w.heap.size, 3, none⟩ = some (.slice A3 n3 c3) := k1.cell 3;have q4 : W0.cell? ⟨w.heap.size, 4, none⟩ = some (.slice A4 n4 c4) := k1.cell 4;go_wp2_with fail;go_ret;exact ⟨_, rfl, (Blk.new _ _ _).cell 6, below_al hB _⟩
end Go.Proofs.YtkpinmejfdnhbaaGreatDoor
