/- Joined by a program: RefE, RefF, RefG, RefH. -/
import Derived.Test.YtkpinmejfdnhbaaGreatDoorRefOne
import Derived.Test.YtkpinmejfdnhbaaGreatDoorNatThree
import Derived.Deep.RegionLaw
set_option maxRecDepth 100000
set_option maxHeartbeats 4000000
namespace Go.Proofs.YtkpinmejfdnhbaaGreatDoor
open Go.RowKit
theorem P8_P24 (j : Nat) : P8 (3 * j) = R.P24 j := by unfold P8 R.P24; rw [Nat.pow_mul]
theorem R.trim_of_val {ds : List Nat} (hl : R.Lt24 ds) (h : 0 < ds.length → R.P24 (ds.length - 1) ≤ R.val ds) : R.Trim ds := by
 intro h0;have hk : ds.length - 1 < ds.length := by omega
 refine ⟨ds[ds.length - 1], List.getElem?_eq_getElem hk, fun e => ?_⟩;have h1 := h h0;have h2 := R.val_split (List.getElem?_eq_getElem hk);rw [e, show ds.length - 1 + 1 = ds.length by omega, List.drop_of_length_le (Nat.le_refl _)] at h2;have h3 := R.val_lt (hl.take (ds.length - 1));rw [List.length_take, Nat.min_eq_left (by omega)] at h3;simp only [R.val, Nat.mul_zero, Nat.add_zero] at h2
 omega
theorem chunk_step {l : List UInt8} {ds : List Nat} {p m j : Nat} (hp : p ≤ l.length) (hm : m ≤ p) (hj : ds.length = j) (hpj : l.length - p = 3 * j) (hv : R.val ds = bv (l.drop p)) :
 R.val (ds ++ [bv ((l.take p).drop m)]) = bv (l.drop m) := by
 have e : l.drop m = (l.take p).drop m ++ l.drop p := by
  have h1 : l = l.take p ++ l.drop p := (List.take_append_drop p l).symm
  conv => lhs; rw [h1]
  rw [List.drop_append_of_le_length (by rw [List.length_take]; omega)]
 rw [e, bv_append, R.val_snoc, hv, hj, List.length_drop, hpj, P8_P24, Nat.mul_comm, Nat.add_comm]
theorem chunk_lt {l : List UInt8} {p m : Nat} (hm : p - 3 ≤ m) : bv ((l.take p).drop m) < 16777216 := by
 have h1 := bv_lt ((l.take p).drop m);have h2 : ((l.take p).drop m).length ≤ 3 := by rw [List.length_drop, List.length_take]; omega
 exact Nat.lt_of_lt_of_le h1 (Nat.pow_le_pow_right (by omega) h2)
theorem chunk_byte (s : ByteArray) {k m : Nat} (h : k < s.size) (hm : m ≤ k) : bv ((s.data.toList.take (k + 1)).drop m) = bv ((s.data.toList.take k).drop m) * 256 + s[k].toNat := by
 rw [take_byte s h, List.drop_append_of_le_length (by rw [List.length_take, size_len]; omega), bv_snoc]
theorem own_base {w : World} {base e size n : Nat} {v : Value} {xs : List Value} (h : w.ownsRow base e size v n xs) : ∀ k, v.ownBlock = some k → base ≤ k := fun k hk => (h.lt k hk).1
theorem wp_append24 {ops : Array Oper} {rest : List Oper} {o : Oper} {a : Act} {Q : Exit → Act → World → Prop} (hgd : o.guard = none) (s x : Operand)
 (ho : o.op = .call { callee := .builtin .append, args := #[s, x], argTypes := #[25, 25] }) {w0 wo : World} {v : Value} {ds : List Nat} {d : Nat} (hs : a.eval s = v) (hown : Own24 w0.heap.size wo v ds)
 (hx : a.eval x = .slice (some ⟨wo.heap.size, 0, none⟩) 1 1) (hl : ds.length ≤ 10000000) (hb : Below w0.heap.size w0 wo)
 (h : ∀ v' w', Own24 w0.heap.size w' v' (ds ++ [d]) → Below w0.heap.size w0 w' → wo.grownBy w' v.ownBlock → wpList Tryz.prog ops Q rest (a.put o.dst v') w') :
 wpList Tryz.prog ops Q (o :: rest) a (wo.alloc (.cells #[.int .i64 (d : Int)] 3)) := by
 obtain ⟨i0, hi0, hz0, hz1, hz2⟩ := info_parts int_info;have hbs : w0.heap.size ≤ wo.heap.size := hb.size;refine wpList_append_own _ hgd s x 25 ho w0.heap.size 3 i0 (.int .i64 0) 1 8 Tryz.underlying25 hi0 hz0 hz1 hz2 rfl (by decide) v ds.length (i64s ds) hs (World.ownsRow.alloc hown _) ⟨wo.heap.size, 0, none⟩ 1 1 [.int .i64 (d : Int)] hx rfl ?_ ?_ ?_ ?_ ?_ ?_
 ·intro j u hu
  cases j with
  | zero => simp at hu; subst hu; rw [add_addr]; exact (Blk.new wo 3 #[.int .i64 (d : Int)]).cell 0
  | succ j => simp at hu
 ·intro u hu; simp at hu; subst hu; rfl
 ·unfold maxLen; omega
 ·omega
 ·rw [World.size_alloc]; omega
 ·intro v' w' ho' hg' _;have hgal : wo.grownBy (wo.alloc (.cells #[.int .i64 (d : Int)] 3)) v.ownBlock := grown_of_below ((Below.refl _ _).alloc (Nat.le_refl _) _) _;have hg2 := grown_trans hgal hg';refine h v' w' ?_ (hb.grown hg2 hbs (own_base hown)) hg2;rw [i64s_snoc] at ho';unfold Own24;rw [List.length_append];exact ho'
theorem rOf_ (a : ByteArray) (w : World) (ha : a.size ≤ 100000) :
 Calls Tryz.prog 171 #[.string a] w fun e w' => GivesI w' (sval a) e ∧ Below w.heap.size w w' := by
 obtain ⟨s, hs⟩ : ∃ s, s = natS (sval a) := ⟨_, rfl⟩;have hsl : s.size ≤ 100000 := by rw [hs]; exact Nat.le_trans (canon_le a) ha
 have HC : Hid (∀ W, Calls Tryz.prog 167 #[.string a] W fun e w' => e = .returned (.string s) ∧ W = w') := Lib.hid (fun W => by rw [hs]; exact rCanon a W (by omega));have HS := Lib.hid hs;clear hs;go_enter Tryz.func171, Tryz.ntmps171;go_wp2_with fail;refine (HC.out _).mono ?_;rintro e w' ⟨rfl, rfl⟩;go_wp2_with fail
 go_loopw [3, 4, 5, 6] (fun v p _ _ wr => ∃ (j : Nat) (ds : List Nat), 3 * j ≤ s.size + 2 ∧ p = .int .i64 ((s.size : Int) - 3 * (j : Int)) ∧ Own24 w.heap.size wr v ds ∧ R.Lt24 ds ∧ Hid (ds.length = j ∧ R.val ds = bv (s.data.toList.drop (s.size - 3 * j))) ∧ Below w.heap.size w wr) (fun _ p _ _ _ => (intOf p + 3).toNat)
 case atStart =>
  refine ⟨0, [], by omega, by go_num, Own24.nil_ _ _, R.Lt24.nil, Lib.hid ⟨rfl, ?_⟩, Below.refl _ _⟩;rw [List.drop_of_length_le (by rw [size_len]; omega)]; rfl
 case round =>
  obtain ⟨j, ds, hj, rfl, hown, hlt, HD, hb⟩ := hrel
  by_cases h0 : 3 * j < s.size
  ·obtain ⟨p, hp⟩ : ∃ p, p = s.size - 3 * j := ⟨_, rfl⟩;rw [show (s.size : Int) - 3 * (j : Int) = (p : Int) by omega];have hp0 : 0 < p := by omega
   have hps : p ≤ s.size := by omega
   rw [← hp] at HD;have HP := Lib.hid hp;clear hp;obtain ⟨m, hm⟩ : ∃ m, m = p - 3 := ⟨_, rfl⟩;have hmx : max ((p : Int) - 3) 0 = (m : Int) := by omega
   have hmp : m < p := by omega
   have hm3 : p - 3 ≤ m := by omega
   have HM := Lib.hid hm;clear hm;go_wp2_with fail;clear hmx;obtain ⟨wo, hwo⟩ : ∃ wo : World, wo = wr := ⟨_, rfl⟩;subst hwo
   go_loop [5, 6] (fun d k => ∃ i : Nat, m ≤ i ∧ i ≤ p ∧ k = .int .i64 (i : Int) ∧ d = .int .i64 (bv ((s.data.toList.take i).drop m) : Int)) (fun _ k => p - (intOf k).toNat)
   case atStart => exact ⟨m, Nat.le_refl _, by omega, rfl, by rw [List.drop_of_length_le (by rw [List.length_take]; omega)]; rfl⟩
   case round =>
    obtain ⟨i, hi1, hi2, rfl, rfl⟩ := hrel
    by_cases hlt2 : i < p
    ·have his : i < s.size := by omega
     have HN := Lib.hid (chunk_byte s his hi1);have hx := chunk_lt (l := s.data.toList) (p := i) (m := m) (by omega);obtain ⟨x, hxe⟩ : ∃ x, x = bv ((s.data.toList.take i).drop m) := ⟨_, rfl⟩;rw [← hxe] at HN hx ⊢;clear hxe;have hbl := s[i].toNat_lt;go_wp2_with fail;go_round
     case rel => exact ⟨i + 1, by omega, by omega, by go_num, by rw [HN.out]; go_num⟩
     case measure => simp [intOf]; omega
    ·obtain rfl : i = p := by omega
     have hx := chunk_lt (l := s.data.toList) (p := i) (m := m) (by omega);have HST := Lib.hid (chunk_step (l := s.data.toList) (m := m) (by rw [size_len]; exact hps) (by omega) HD.out.1 (by rw [size_len, HP.out]; omega) HD.out.2);obtain ⟨x, hxe⟩ : ∃ x, x = bv ((s.data.toList.take i).drop m) := ⟨_, rfl⟩;rw [← hxe] at HST hx ⊢;clear hxe;have hdl : ds.length ≤ 10000000 := by rw [HD.out.1]; omega
     go_wp2_with (at_builtin; refine wp_append24 rfl _ _ rfl rfl hown rfl hdl hb ?_; intro v1 w1 hown1 hb1 hg1);go_roundw
     case rel =>
      refine ⟨j + 1, ds ++ [x], by have := HP.out; omega, ?_, hown1, hlt.snoc hx, Lib.hid ⟨by rw [List.length_append, HD.out.1]; rfl, ?_⟩, hb1⟩
      ·have := HP.out; congr 1; omega
      ·rw [HST.out, HM.out, HP.out]; congr 2
     case measure => simp [intOf]; omega
  ·go_wp2_with fail;go_ret;obtain ⟨A, c, rfl, hdg⟩ := hown.dig hlt;refine ⟨⟨A, ds.length, c, ds, rfl, hdg, R.trim_of_val hlt ?_, ?_⟩, hb⟩
   ·intro h1;rw [HD.out.2, show s.size - 3 * j = 0 by omega, List.drop_zero];have h2 : s.data.toList ≠ [] := by intro e; have := size_len s; rw [e] at this; simp at this; have := HD.out.1; omega
    have h3 := canon_pos (by have := natS_canon (sval a); rw [← HS.out] at this; exact this) h2;refine Nat.le_trans ?_ h3;rw [← P8_P24, size_len];have := HD.out.1;exact P8_mono (by omega)
   ·rw [HD.out.2, show s.size - 3 * j = 0 by omega, List.drop_zero];show sval s = _;rw [HS.out, sval_natS]
theorem mul_bd {u : Nat} (d : Nat) (hu : u < 16777216) : u * d + d ≤ 16777216 * d := by
 have := Nat.mul_le_mul_right d (show u + 1 ≤ 16777216 from hu);rwa [Nat.add_mul, Nat.one_mul] at this
theorem rtimes (A : Option Addr) (n c : Nat) (us : List Nat) (d : Nat) (w : World) (h : IDg w A n c us) (hn : n ≤ 1000000) (hd : d < 16777216) :
 Calls Tryz.prog 215 #[.slice A n c, .int .i64 (d : Int)] w fun e w' => GivesI w' (R.val us * d) e ∧ Below w.heap.size w w' := by
 have HL := Lib.hid h.len;go_enter Tryz.func215, Tryz.ntmps215;go_wp2_with fail
 go_loopw [5, 6, 7, 8] (fun v cy k _ wr => ∃ (i t : Nat) (fs : List Nat), i ≤ n ∧ k = .int .i64 (i : Int) ∧ cy = .int .i64 (t : Int) ∧ t ≤ d ∧ Own24 w.heap.size wr v fs ∧ R.Lt24 fs ∧ Hid (fs.length = i ∧ R.val fs + R.P24 i * t = R.val (us.take i) * d) ∧ Below w.heap.size w wr) (fun _ _ k _ _ => n - (intOf k).toNat)
 case atStart =>
  exact ⟨0, 0, [], by omega, rfl, rfl, by omega, Own24.nil_ _ _, R.Lt24.nil, Lib.hid ⟨rfl, by simp [R.val]⟩, Below.refl _ _⟩
 case round =>
  obtain ⟨i, t, fs, hi, rfl, rfl, ht, hown, hlt, HF, hb⟩ := hrel
  by_cases h0 : i < n
  ·obtain ⟨b, o, u, rfl, hu, hul, huc⟩ := (h.below hb).get (k := i) h0;have HU := Lib.hid hu;clear hu;have hm := mul_bd d hul;obtain ⟨p, hp⟩ : ∃ p, p = u * d := ⟨_, rfl⟩;rw [← hp] at hm;have hmul : (u : Int) * (d : Int) = (p : Int) := by rw [hp]; simp
   obtain ⟨s, hs⟩ : ∃ s, s = p + t := ⟨_, rfl⟩;have hsum : (p : Int) + (t : Int) = (s : Int) := by omega
   obtain ⟨r, hr⟩ : ∃ r, r = s % 16777216 := ⟨_, rfl⟩;obtain ⟨q, hq⟩ : ∃ q, q = s / 16777216 := ⟨_, rfl⟩;have hrr : (s : Int) % 16777216 = (r : Int) := by omega
   have hqq : (s : Int) / 16777216 = (q : Int) := by omega
   have hsl : s ≤ 16777216 * 16777216 := by omega
   have hrl : r < 16777216 := by omega
   have hql : q ≤ d := by omega
   have HST : Hid (R.val (fs ++ [r]) + R.P24 (i + 1) * q = R.val (us.take (i + 1)) * d) := Lib.hid (by
    rw [hr, hq, R.carry_step HF.out.1, hs, hp, Nat.mul_add, R.val_take_succ HU.out, Nat.add_mul, ← HF.out.2, Nat.mul_assoc]
    omega)
   have HP := Lib.hid hp;clear hp hs hr hq hm;have hdl : fs.length ≤ 10000000 := by rw [HF.out.1]; omega
   go_wp2_with (at_builtin; refine wp_append24 rfl _ _ rfl rfl hown rfl hdl hb ?_; intro v1 w1 hown1 hb1 hg1);go_roundw
   case rel => exact ⟨i + 1, q, fs ++ [r], by omega, by go_num, rfl, hql, hown1, hlt.snoc hrl, Lib.hid ⟨by rw [List.length_append, HF.out.1]; rfl, HST.out⟩, hb1⟩
   case measure => simp [intOf]; omega
  ·obtain rfl : i = n := by omega
   have hdl : fs.length ≤ 10000000 := by rw [HF.out.1]; omega
   go_wp2_with (at_builtin; refine wp_append24 rfl _ _ rfl rfl hown rfl hdl hb ?_; intro v1 w1 hown1 hb1 hg1);obtain ⟨A2, c2, rfl, hdg⟩ := hown1.dig (hlt.snoc (by omega));have hdl2 : (fs ++ [t]).length ≤ 100000000 := by rw [List.length_append]; simp; omega
   refine (rTrim_gives _ _ _ _ _ hdg hdl2).mono ?_;rintro e w2 ⟨⟨A3, n3, c3, zs, rfl, hd3, ht3, hv3⟩, rfl⟩;have HV3 := Lib.hid hv3;clear hv3 hdl2;go_wp2_with fail;go_ret;refine ⟨⟨A3, n3, c3, zs, rfl, hd3, ht3, ?_⟩, hb1⟩;have h1 := HF.out;rw [HV3.out, R.val_snoc, h1.1, h1.2, R.val_take_all (by rw [HL.out]; exact Nat.le_refl _)]
theorem take_getD {xs : List Nat} (k : Nat) : R.val (xs.take (k + 1)) = R.val (xs.take k) + R.P24 k * xs.getD k 0 := by
 by_cases h : k < xs.length
 ·rw [R.val_take_succ (List.getElem?_eq_getElem h), List.getD_eq_getElem?_getD, List.getElem?_eq_getElem h]; rfl
 ·rw [List.take_of_length_le (by omega), List.take_of_length_le (by omega), List.getD_eq_getElem?_getD, List.getElem?_eq_none (by omega)]; simp
theorem bor_parts {x y b : Nat} (hx : x < 16777216) (hy : y < 16777216) (hb : b ≤ 1) :
 (b + y ≤ x ∧ ∃ v : Nat, (x : Int) - (b : Int) - (y : Int) = (v : Int) ∧ v < 16777216 ∧ v + b + y = x + 16777216 * 0) ∨
 (x < b + y ∧ (x : Int) - (b : Int) - (y : Int) < 0 ∧ ∃ v : Nat, (x : Int) - (b : Int) - (y : Int) + 16777216 = (v : Int) ∧ v < 16777216 ∧ v + b + y = x + 16777216 * 1) := by
 rcases Nat.lt_or_ge x (b + y) with h | h
 ·exact .inr ⟨h, by omega, x + 16777216 - b - y, by omega, by omega, by omega⟩
 ·exact .inl ⟨h, x - b - y, by omega, by omega, by omega⟩
theorem rminus (A : Option Addr) (n c : Nat) (us : List Nat) (B : Option Addr) (m d : Nat) (vs : List Nat) (w : World) (h : IDg w A n c us) (k : IDg w B m d vs) (hn : n ≤ 1000000) (hmn : m ≤ n) (hle : R.val vs ≤ R.val us) :
 Calls Tryz.prog 214 #[.slice A n c, .slice B m d] w fun e w' => GivesI w' (R.val us - R.val vs) e ∧ Below w.heap.size w w' := by
 have HL := Lib.hid h.len;have HM := Lib.hid k.len;have HLE := Lib.hid hle;clear hle;go_enter Tryz.func214, Tryz.ntmps214;go_wp2_with fail
 go_loopw [5, 6, 7, 8] (fun v bw s7 _ wr => ∃ (i t : Nat) (fs : List Nat), i ≤ n ∧ s7 = .int .i64 (i : Int) ∧ bw = .int .i64 (t : Int) ∧ t ≤ 1 ∧ Own24 w.heap.size wr v fs ∧ R.Lt24 fs ∧ Hid (fs.length = i ∧ R.val fs + R.val (vs.take i) = R.val (us.take i) + R.P24 i * t) ∧ Below w.heap.size w wr) (fun _ _ s7 _ _ => n - (intOf s7).toNat)
 case atStart =>
  exact ⟨0, 0, [], by omega, rfl, rfl, by omega, Own24.nil_ _ _, R.Lt24.nil, Lib.hid ⟨rfl, by simp [R.val]⟩, Below.refl _ _⟩
 case round =>
  obtain ⟨i, t, fs, hi, rfl, rfl, ht, hown, hlt, HF, hb⟩ := hrel;have hdl : fs.length ≤ 10000000 := by rw [HF.out.1]; omega
  by_cases h0 : i < n
  ·obtain ⟨b, o, x, rfl, hx, hxl, hxc⟩ := (h.below hb).get (k := i) h0;have HX := Lib.hid hx;clear hx
   by_cases h1 : i < m
   ·obtain ⟨b2, o2, y, rfl, hy, hyl, hyc⟩ := (k.below hb).get (k := i) h1;have HY := Lib.hid hy;clear hy
    rcases bor_parts hxl hyl ht with ⟨hge, v, hv, hvl, hvv⟩ | ⟨hge, hneg, v, hv, hvl, hvv⟩
    ·have HST : Hid (R.val (fs ++ [v]) + R.val (vs.take (i + 1)) = R.val (us.take (i + 1)) + R.P24 (i + 1) * 0) := Lib.hid (by
      rw [R.val_take_succ HX.out, R.val_take_succ HY.out]; exact R.borrow_step HF.out.1 HF.out.2 hvv)
     clear hvv;go_wp2_with (at_builtin; refine wp_append24 rfl _ _ rfl rfl hown rfl hdl hb ?_; intro v1 w1 hown1 hb1 hg1);go_roundw
     case rel => exact ⟨i + 1, 0, fs ++ [v], by omega, by go_num, rfl, by omega, hown1, hlt.snoc hvl, Lib.hid ⟨by rw [List.length_append, HF.out.1]; rfl, HST.out⟩, hb1⟩
     case measure => simp [intOf]; omega
    ·have HST : Hid (R.val (fs ++ [v]) + R.val (vs.take (i + 1)) = R.val (us.take (i + 1)) + R.P24 (i + 1) * 1) := Lib.hid (by
      rw [R.val_take_succ HX.out, R.val_take_succ HY.out]; exact R.borrow_step HF.out.1 HF.out.2 hvv)
     clear hvv;go_wp2_with (at_builtin; refine wp_append24 rfl _ _ rfl rfl hown rfl hdl hb ?_; intro v1 w1 hown1 hb1 hg1);go_roundw
     case rel => exact ⟨i + 1, 1, fs ++ [v], by omega, by go_num, rfl, by omega, hown1, hlt.snoc hvl, Lib.hid ⟨by rw [List.length_append, HF.out.1]; rfl, HST.out⟩, hb1⟩
     case measure => simp [intOf]; omega
   ·have hz : R.val (vs.take (i + 1)) = R.val (vs.take i) + R.P24 i * 0 := by
     rw [take_getD, List.getD_eq_getElem?_getD, List.getElem?_eq_none (by rw [HM.out]; omega)]; rfl
    have HZ := Lib.hid hz;clear hz
    rcases bor_parts (y := 0) hxl (by omega) ht with ⟨hge, v, hv, hvl, hvv⟩ | ⟨hge, hneg, v, hv, hvl, hvv⟩
    ·have HST : Hid (R.val (fs ++ [v]) + R.val (vs.take (i + 1)) = R.val (us.take (i + 1)) + R.P24 (i + 1) * 0) := Lib.hid (by
      rw [R.val_take_succ HX.out, HZ.out]; exact R.borrow_step HF.out.1 HF.out.2 hvv)
     have hv' : (x : Int) - (t : Int) = (v : Int) := by omega
     clear hvv hv;go_wp2_with (at_builtin; refine wp_append24 rfl _ _ rfl rfl hown rfl hdl hb ?_; intro v1 w1 hown1 hb1 hg1);go_roundw
     case rel => exact ⟨i + 1, 0, fs ++ [v], by omega, by go_num, rfl, by omega, hown1, hlt.snoc hvl, Lib.hid ⟨by rw [List.length_append, HF.out.1]; rfl, HST.out⟩, hb1⟩
     case measure => simp [intOf]; omega
    ·have HST : Hid (R.val (fs ++ [v]) + R.val (vs.take (i + 1)) = R.val (us.take (i + 1)) + R.P24 (i + 1) * 1) := Lib.hid (by
      rw [R.val_take_succ HX.out, HZ.out]; exact R.borrow_step HF.out.1 HF.out.2 hvv)
     have hv' : (x : Int) - (t : Int) + 16777216 = (v : Int) := by omega
     have hneg' : (x : Int) - (t : Int) < 0 := by omega
     clear hvv hv hneg;go_wp2_with (at_builtin; refine wp_append24 rfl _ _ rfl rfl hown rfl hdl hb ?_; intro v1 w1 hown1 hb1 hg1);go_roundw
     case rel => exact ⟨i + 1, 1, fs ++ [v], by omega, by go_num, rfl, by omega, hown1, hlt.snoc hvl, Lib.hid ⟨by rw [List.length_append, HF.out.1]; rfl, HST.out⟩, hb1⟩
     case measure => simp [intOf]; omega
  ·obtain rfl : i = n := by omega
   obtain ⟨A2, c2, rfl, hdg⟩ := hown.dig hlt;go_wp2_with fail;refine (rTrim_gives _ _ _ _ _ hdg (by omega)).mono ?_;rintro e w2 ⟨⟨A3, n3, c3, zs, rfl, hd3, ht3, hv3⟩, rfl⟩;have HV3 := Lib.hid hv3;clear hv3;go_wp2_with fail;go_ret;refine ⟨⟨A3, n3, c3, zs, rfl, hd3, ht3, ?_⟩, hb⟩;have h1 := HF.out;have h2 := HLE.out;rw [R.val_take_all (by rw [HM.out]; exact hmn), R.val_take_all (by rw [HL.out]; exact Nat.le_refl _)] at h1;have h3 := R.val_lt hlt;rw [h1.1] at h3;rw [HV3.out]
   rcases Nat.eq_zero_or_pos t with h4 | h4
   ·rw [h4] at h1; omega
   ·have : t = 1 := by omega
    rw [this] at h1; omega
def u8l (l : List UInt8) : List Value := l.map fun b : UInt8 => Value.int .u8 (b.toNat : Int)
theorem u8l_len (l : List UInt8) : (u8l l).length = l.length := by simp [u8l]
theorem u8l_app (l m : List UInt8) : u8l l ++ u8l m = u8l (l ++ m) := by simp [u8l]
def OwnB (B : Nat) (w : World) (v : Value) (l : List UInt8) : Prop := w.ownsRow B 5 1 v l.length (u8l l)
theorem OwnB.nil_ (B : Nat) (w : World) : OwnB B w (.slice none 0 0) [] := ⟨rfl, .inl ⟨rfl, rfl⟩⟩
theorem byte_info : (Tryz.prog.info? 5).map (fun i => (i.zero, i.size, i.bytes)) = some (some (.int .u8 0), 1, 1) := by kernel_rfl
theorem run_own_nat {B : Nat} {w : World} {v : Value} {l : List UInt8} (h : OwnB B w v l) :
 (convert 116 93 v).run Tryz.prog w = .ok (.string ⟨l.toArray⟩) w := by
 rcases h.2 with ⟨rfl, hn⟩ | ⟨g, cap, cur, rfl, _, hh, hc, _, _, ht⟩
 ·have : l = [] := List.eq_nil_of_length_eq_zero hn;subst this;rw [run_convert_bytes_string w 116 93 5 _ _ _ Tryz.underlying116 Tryz.underlying5 Tryz.underlying93]
  rfl
 ·rw [run_convert_bytes_string w 116 93 5 _ _ _ Tryz.underlying116 Tryz.underlying5 Tryz.underlying93]
  have hld := run_loadCells_list (P := Tryz.prog) w ⟨g, 0, none⟩ ((l.map fun b : UInt8 => (b.toNat : Int)).map (Value.int .u8)) (fun j v hv => by
   exact h.cells (g := g) rfl j v (by rw [List.map_map] at hv; exact hv))
  rw [List.length_map, List.length_map] at hld;rw [run_bytesToString w _ _ cap _ hld, push_all]
  simp
theorem wp_appendB {ops : Array Oper} {rest : List Oper} {o : Oper} {a : Act} {Q : Exit → Act → World → Prop} (hgd : o.guard = none) (s x : Operand)
 (ho : o.op = .call { callee := .builtin .append, args := #[s, x], argTypes := #[116, 116] }) {w0 wo : World} {v : Value} {l : List UInt8} (news : List UInt8) (m : Nat) (hm : news.length = m) {cells : Array Value}
 (hc : cells = (u8l news).toArray) (hs : a.eval s = v) (hown : OwnB w0.heap.size wo v l)
 (hx : a.eval x = .slice (some ⟨wo.heap.size, 0, none⟩) m m) (hl : l.length ≤ 10000000) (hm10 : m ≤ 10) (hb : Below w0.heap.size w0 wo)
 (h : ∀ v' w', OwnB w0.heap.size w' v' (l ++ news) → Below w0.heap.size w0 w' → wpList Tryz.prog ops Q rest (a.put o.dst v') w') :
 wpList Tryz.prog ops Q (o :: rest) a (wo.alloc (.cells cells 5)) := by
 subst hc;obtain ⟨i0, hi0, hz0, hz1, hz2⟩ := info_parts byte_info;have hbs : w0.heap.size ≤ wo.heap.size := hb.size;refine wpList_append_own _ hgd s x 116 ho w0.heap.size 5 i0 (.int .u8 0) 1 1 Tryz.underlying116 hi0 hz0 hz1 hz2 rfl (by decide) v l.length (u8l l) hs (World.ownsRow.alloc hown _) ⟨wo.heap.size, 0, none⟩ m m (u8l news) hx (by rw [u8l_len, hm, Nat.mul_one]) ?_ ?_ ?_ ?_ ?_ ?_
 ·intro j u hu;rw [add_addr, Nat.zero_add];exact ((Blk.new wo 5 (u8l news).toArray).cell j).trans (by simpa using hu)
 ·intro u hu;simp only [u8l, List.mem_map] at hu;obtain ⟨b, _, rfl⟩ := hu
  rfl
 ·unfold maxLen; omega
 ·omega
 ·rw [World.size_alloc]; omega
 ·intro v' w' ho' hg' _;have hgal : wo.grownBy (wo.alloc (.cells (u8l news).toArray 5)) v.ownBlock := grown_of_below ((Below.refl _ _).alloc (Nat.le_refl _) _) _;have hg2 := grown_trans hgal hg';refine h v' w' ?_ (hb.grown hg2 hbs (own_base hown));rw [u8l_app] at ho';unfold OwnB;rw [List.length_append, hm];exact ho'
theorem step_appendB {ops : Array Oper} {o : Oper} {a : Act} {K : Act → World → Prop} {Q : Exit → Act → World → Prop} {E : Prop} (hgd : o.guard = none) (s x : Operand)
 (ho : o.op = .call { callee := .builtin .append, args := #[s, x], argTypes := #[116, 116] }) {w0 wo : World} {v : Value} {l : List UInt8} (news : List UInt8) (m : Nat) (hm : news.length = m) {cells : Array Value}
 (hc : cells = (u8l news).toArray) (hs : a.eval s = v) (hown : OwnB w0.heap.size wo v l)
 (hx : a.eval x = .slice (some ⟨wo.heap.size, 0, none⟩) m m) (hl : l.length ≤ 10000000) (hm10 : m ≤ 10) (hb : Below w0.heap.size w0 wo)
 (h : ∀ v' w', OwnB w0.heap.size w' v' (l ++ news) → Below w0.heap.size w0 w' → K (a.put o.dst v') w') :
 if Region.wanted o (yielded ops a.tmps) = true then Oper.wp Tryz.prog o a (wo.alloc (.cells cells 5)) K Q else E := by
 subst hc;have hw : Region.wanted o (yielded ops a.tmps) = true := by simp [Region.wanted, hgd]
 rw [if_pos hw];obtain ⟨i0, hi0, hz0, hz1, hz2⟩ := info_parts byte_info;have hbs : w0.heap.size ≤ wo.heap.size := hb.size;refine wp_append_own _ s x 116 ho w0.heap.size 5 i0 (.int .u8 0) 1 1 Tryz.underlying116 hi0 hz0 hz1 hz2 rfl (by decide) v l.length (u8l l) hs (World.ownsRow.alloc hown _) ⟨wo.heap.size, 0, none⟩ m m (u8l news) hx (by rw [u8l_len, hm, Nat.mul_one]) ?_ ?_ ?_ ?_ ?_ ?_
 ·intro j u hu;rw [add_addr, Nat.zero_add];exact ((Blk.new wo 5 (u8l news).toArray).cell j).trans (by simpa using hu)
 ·intro u hu;simp only [u8l, List.mem_map] at hu;obtain ⟨b, _, rfl⟩ := hu
  rfl
 ·unfold maxLen; omega
 ·omega
 ·rw [World.size_alloc]; omega
 ·intro v' w' ho' hg' _;have hgal : wo.grownBy (wo.alloc (.cells (u8l news).toArray 5)) v.ownBlock := grown_of_below ((Below.refl _ _).alloc (Nat.le_refl _) _) _;have hg2 := grown_trans hgal hg';refine h v' w' ?_ (hb.grown hg2 hbs (own_base hown));rw [u8l_app] at ho';unfold OwnB;rw [List.length_append, hm];exact ho'
theorem u8_wrap (n : Int) : IntKind.u8.wrap n = n % 256 := by simp [IntKind.wrap, IntKind.bits, IntKind.signed]
theorem byte_toNat {x : Nat} (h : x < 256) : (UInt8.ofNat x).toNat = x := by rw [UInt8.toNat_ofNat', Nat.mod_eq_of_lt (show x < 2 ^ 8 from h)]
theorem shift_step (n κ : Nat) : n / 2 ^ (κ + 8) * 256 + n / 2 ^ κ % 256 = n / 2 ^ κ := by
 rw [Nat.pow_add, ← Nat.div_div_eq_div_mul, show (2 : Nat) ^ 8 = 256 by rfl]
 omega
theorem rOf_nat (n : Nat) (w : World) (h : n ≤ 9223372036854775807) (h1 : 0 < n) :
 Calls Tryz.prog 105 #[.int .i64 (n : Int)] w fun e w' => e = .returned (.string (natS n)) ∧ Below w.heap.size w w' := by
 have hnb : n / 2 ^ 64 = 0 := Nat.div_eq_of_lt (by omega);have HNB := Lib.hid hnb;clear hnb;go_enter Tryz.func105, Tryz.ntmps105;go_wp2_with fail
 go_loopw [3, 4] (fun v s4 wr => ∃ (r : Nat) (l : List UInt8), r ≤ 8 ∧ s4 = .int .i64 (8 * (r : Int) - 8) ∧ OwnB w.heap.size wr v l ∧ Hid (l.length = 8 - r ∧ bv l = n / 2 ^ (8 * r)) ∧ Below w.heap.size w wr) (fun _ s4 _ => (intOf s4 + 8).toNat)
 case atStart => exact ⟨8, [], by omega, by go_num, OwnB.nil_ _ _, Lib.hid ⟨rfl, HNB.out.symm⟩, Below.refl _ _⟩
 case round =>
  obtain ⟨r, l, hr, rfl, hown, HL, hb⟩ := hrel
  by_cases h0 : 0 < r
  ·obtain ⟨κ, hκ⟩ : ∃ κ, κ = 8 * r - 8 := ⟨_, rfl⟩;rw [show 8 * (r : Int) - 8 = (κ : Int) by omega];have hκl : κ ≤ 56 := by omega
   have HK := Lib.hid hκ;clear hκ;have hdl : l.length ≤ 10000000 := by rw [HL.out.1]; omega
   obtain ⟨b, hbb⟩ : ∃ b, b = UInt8.ofNat (n / 2 ^ κ % 256) := ⟨_, rfl⟩;have hbn : b.toNat = n / 2 ^ κ % 256 := by rw [hbb, byte_toNat (Nat.mod_lt _ (by omega))]
   have HCB : Hid (#[Value.int .u8 ((n : Int) / 2 ^ κ % 256)] = (u8l [b]).toArray) := Lib.hid (by
    have e : ((n / 2 ^ κ % 256 : Nat) : Int) = (n : Int) / 2 ^ κ % 256 := by simp
    rw [← e, ← hbn]; rfl)
   have HBN := Lib.hid hbn;clear hbb hbn;go_wp2_with (at_builtin; refine wp_appendB rfl _ _ rfl [b] 1 rfl HCB.out rfl hown rfl hdl (by decide) hb ?_; intro v1 w1 hown1 hb1);go_roundw
   case rel =>
    refine ⟨r - 1, l ++ [b], by omega, ?_, hown1, Lib.hid ⟨by rw [List.length_append, HL.out.1]; simp; omega, ?_⟩, hb1⟩
    ·have := HK.out; congr 1; omega
    ·have h2 := HK.out;rw [bv_snoc, HL.out.2, HBN.out, show 8 * r = κ + 8 by omega, shift_step]
     congr 2; omega
   case measure => simp [intOf]; omega
  ·have hr0 : r = 0 := by omega
   subst hr0;have HV : Hid (sval ⟨l.toArray⟩ = n) := Lib.hid (by show bv l = n; rw [HL.out.2]; simp);have hcv := run_own_nat hown;have hls : (⟨l.toArray⟩ : ByteArray).size ≤ 1000000 := by show l.toArray.size ≤ _; rw [List.size_toArray, HL.out.1]; omega
   go_wp2_with fail;refine (rCanon _ _ hls).mono ?_;rintro e w' ⟨rfl, rfl⟩;rw [HV.out];go_wp2_with fail;go_ret;exact ⟨rfl, hb⟩
theorem rOf_neg (n : Int) (w : World) (h : n ≤ 0) :
 Calls Tryz.prog 105 #[.int .i64 n] w fun e w' => e = .returned (.string (natS n.toNat)) ∧ Below w.heap.size w w' := by
 have hcv := run_own_nat (OwnB.nil_ w.heap.size w);have HZ : Hid (n.toNat = 0) := Lib.hid (by omega);go_enter Tryz.func105, Tryz.ntmps105;go_wp2_with fail
 go_loop [3, 4] (fun v k => v = .slice none 0 0 ∧ k = .int .i64 56) (fun _ _ => 0)
 case atStart => exact ⟨rfl, rfl⟩
 case round =>
  obtain ⟨rfl, rfl⟩ := hrel;go_wp2_with fail;refine (rCanon ⟨#[]⟩ _ (by decide)).mono ?_;rintro e w' ⟨rfl, rfl⟩;go_wp2_with fail;go_ret;exact ⟨by rw [HZ.out]; rfl, Below.refl _ _⟩
theorem rOf (n : Int) (w : World) (h : n ≤ 9223372036854775807) :
 Calls Tryz.prog 105 #[.int .i64 n] w fun e w' => e = .returned (.string (natS n.toNat)) ∧ Below w.heap.size w w' := by
 rcases Int.lt_or_le 0 n with h0 | h0
 ·obtain ⟨k, rfl⟩ := Int.eq_ofNat_of_zero_le (Int.le_of_lt h0);rw [Int.toNat_natCast];exact rOf_nat k w (by omega) (by omega)
 ·exact rOf_neg n w h0
theorem rnumber (A : Option Addr) (n c : Nat) (us : List Nat) (w : World) (h : IDg w A n c us) (hn : n ≤ 300000) :
 Calls Tryz.prog 172 #[.slice A n c] w fun e w' => e = .returned (.string (natS (R.val us))) ∧ Below w.heap.size w w' := by
 have HL := Lib.hid h.len;go_enter Tryz.func172, Tryz.ntmps172;go_wp2_with fail
 go_loopw [3, 4] (fun v s4 wr => ∃ (i : Nat) (l : List UInt8), i ≤ n ∧ s4 = .int .i64 ((i : Int) - 1) ∧ OwnB w.heap.size wr v l ∧ Hid (l.length = 3 * (n - i) ∧ bv l = R.val (us.drop i)) ∧ Below w.heap.size w wr) (fun _ s4 _ => (intOf s4 + 1).toNat)
 case atStart => exact ⟨n, [], by omega, by go_num, OwnB.nil_ _ _, Lib.hid ⟨by simp, by rw [List.drop_of_length_le (by rw [HL.out]; exact Nat.le_refl _)]; rfl⟩, Below.refl _ _⟩
 case round =>
  obtain ⟨i, l, hi, rfl, hown, HF, hb⟩ := hrel;have hdl : l.length ≤ 10000000 := by rw [HF.out.1]; omega
  by_cases h0 : 0 < i
  ·obtain ⟨j, rfl⟩ : ∃ j, i = j + 1 := ⟨i - 1, by omega⟩;rw [show ((j + 1 : Nat) : Int) - 1 = (j : Int) by omega];obtain ⟨b, o, x, rfl, hx, hxl, hxc⟩ := (h.below hb).get (k := j) (by omega);have HX := Lib.hid hx;clear hx;have hjn : (j : Int) < (n : Int) := by omega
   have hj0 : (0 : Int) ≤ (j : Int) := by omega
   go_wp2_with fail;obtain ⟨b1, hb1⟩ : ∃ b, b = UInt8.ofNat (x / 65536 % 256) := ⟨_, rfl⟩;obtain ⟨b2, hb2⟩ : ∃ b, b = UInt8.ofNat (x / 256 % 256) := ⟨_, rfl⟩;obtain ⟨b3, hb3⟩ : ∃ b, b = UInt8.ofNat (x % 256) := ⟨_, rfl⟩
   have HCB : Hid (#[Value.int .u8 (IntKind.u8.wrap ((x : Int) / 65536)), Value.int .u8 (IntKind.u8.wrap ((x : Int) / 256)), Value.int .u8 (IntKind.u8.wrap (x : Int))] = (u8l [b1, b2, b3]).toArray) := Lib.hid (by
    rw [u8_wrap, u8_wrap, u8_wrap];rw [hb1, hb2, hb3];simp only [u8l, List.map_cons, List.map_nil, byte_toNat (show x / 65536 % 256 < 256 by omega), byte_toNat (show x / 256 % 256 < 256 by omega), byte_toNat (show x % 256 < 256 by omega)]
    simp)
   have HBV : Hid (bv (l ++ [b1, b2, b3]) = R.val (us.drop j)) := Lib.hid (by
    rw [drop_cons HX.out, R.val, ← HF.out.2, bv_append, hb1, hb2, hb3];simp only [bv_cons, bv_nil, byte_toNat (show x / 65536 % 256 < 256 by omega), byte_toNat (show x / 256 % 256 < 256 by omega), byte_toNat (show x % 256 < 256 by omega), List.length_cons, List.length_nil];rw [show P8 (0 + 1 + 1 + 1) = 16777216 by rfl, show P8 (0 + 1 + 1) = 65536 by rfl, show P8 (0 + 1) = 256 by rfl, P8_zero]
    omega)
   clear hb1 hb2 hb3
   go_region_law (refine step_appendB rfl (.tmp 12) (.tmp 30) rfl [b1, b2, b3] 3 rfl HCB.out (by simp [Act.eval]) (World.ownsRow.drew hown) (by simp [Act.eval]) hdl (by decide) hb.drew ?_; intro v1 w1 hown1 hbw1)
   all_goals go_wp2_with fail
   all_goals
    go_roundw
    case rel => exact ⟨j, l ++ [b1, b2, b3], by omega, rfl, hown1, Lib.hid ⟨by rw [List.length_append, HF.out.1]; simp; omega, HBV.out⟩, hbw1⟩
    case measure => simp [intOf]
  ·obtain rfl : i = 0 := by omega
   have HV : Hid (sval ⟨l.toArray⟩ = R.val us) := Lib.hid (by show bv l = _; rw [HF.out.2, List.drop_zero]);have hcv := run_own_nat hown;have hls : (⟨l.toArray⟩ : ByteArray).size ≤ 1000000 := by show l.toArray.size ≤ _; rw [List.size_toArray, HF.out.1]; omega
   go_wp2_with fail;refine (rCanon _ _ hls).mono ?_;rintro e w' ⟨rfl, rfl⟩;rw [HV.out];go_wp2_with fail;go_ret;exact ⟨rfl, hb⟩
theorem ifew {w : World} {A : Option Addr} {n c k : Nat} {xs : List Nat} (h : IDg w A n c xs) (ht : R.Trim xs) (hv : R.val xs < P8 k) : n ≤ k := by
 rw [← h.len];refine ht.len_le (Nat.lt_of_lt_of_le hv ?_);rw [← P8_P24];exact P8_mono (by omega)
theorem small_yes (a : ByteArray) (k : Nat) (hk : k ≤ 7) (ha : a.size ≤ 100000) (h : sval a < P8 k) (W : World) :
 Calls Tryz.prog 170 #[.string a, .int .i64 (k : Int)] W fun e w' => e = .returned (.tuple #[.int .i64 (sval a : Int), .bool true]) ∧ W = w' := by
 have := rSmall a k W (by omega) hk;unfold smallRes at this;rwa [if_pos h] at this
theorem small_no (a : ByteArray) (k : Nat) (hk : k ≤ 7) (ha : a.size ≤ 100000) (h : ¬ sval a < P8 k) (W : World) :
 Calls Tryz.prog 170 #[.string a, .int .i64 (k : Int)] W fun e w' => e = .returned (.tuple #[.int .i64 0, .bool false]) ∧ W = w' := by
 have := rSmall a k W (by omega) hk;unfold smallRes at this;rwa [if_neg h] at this
theorem add_step {fs us vs : List Nat} {k t x y s : Nat} (hf : fs.length = k) (h : R.val fs + R.P24 k * t = R.val (us.take k) + R.val (vs.take k)) (hx : us.getD k 0 = x) (hy : vs.getD k 0 = y) (hs : s = t + x + y) :
 R.val (fs ++ [s % 16777216]) + R.P24 (k + 1) * (s / 16777216) = R.val (us.take (k + 1)) + R.val (vs.take (k + 1)) := by
 rw [R.carry_step hf, take_getD, take_getD, hx, hy, hs, Nat.mul_add, Nat.mul_add]
 omega
theorem getD_some {xs : List Nat} {k d : Nat} (h : xs[k]? = some d) : xs.getD k 0 = d := by rw [List.getD_eq_getElem?_getD, h]; rfl
theorem getD_none {xs : List Nat} {k : Nat} (h : xs.length ≤ k) : xs.getD k 0 = 0 := by rw [List.getD_eq_getElem?_getD, List.getElem?_eq_none h]; rfl
theorem rAdd_small (a b : ByteArray) (w : World) (ha : a.size ≤ 100000) (hb : b.size ≤ 100000) (h1 : sval a < P8 7) (h2 : sval b < P8 7) :
 Calls Tryz.prog 106 #[.string a, .string b] w fun e w' => e = .returned (.string (natS (sval a + sval b))) ∧ Below w.heap.size w w' := by
 have HA := Lib.hid (small_yes a 7 (by omega) ha h1);have HB := Lib.hid (small_yes b 7 (by omega) hb h2);rw [P8_7] at h1 h2;go_enter Tryz.func106, Tryz.ntmps106;go_wp2_with fail;refine (HA.out _).mono ?_;rintro e w' ⟨rfl, rfl⟩;go_wp2_with fail;refine (HB.out _).mono ?_;rintro e w' ⟨rfl, rfl⟩;go_wp2_with fail;refine (rOf _ _ (by omega)).mono ?_;rintro e w' ⟨rfl, hb1⟩;go_wp2_with fail;go_ret;exact ⟨by rw [show ((sval a : Int) + (sval b : Int)).toNat = sval a + sval b by omega]; rfl, hb1⟩
theorem small_ways (a b : ByteArray) (j k : Nat) (hj : j ≤ 7) (hk : k ≤ 7) (ha : a.size ≤ 100000) (hb : b.size ≤ 100000) (hbig : ¬ (sval a < P8 j ∧ sval b < P8 k)) :
 (∃ (x y : Int) (q : Bool), (∀ W, Calls Tryz.prog 170 #[.string a, .int .i64 (j : Int)] W fun e w' => e = .returned (.tuple #[.int .i64 x, .bool false]) ∧ W = w') ∧ (∀ W, Calls Tryz.prog 170 #[.string b, .int .i64 (k : Int)] W fun e w' => e = .returned (.tuple #[.int .i64 y, .bool q]) ∧ W = w')) ∨
 (∃ (x y : Int), (∀ W, Calls Tryz.prog 170 #[.string a, .int .i64 (j : Int)] W fun e w' => e = .returned (.tuple #[.int .i64 x, .bool true]) ∧ W = w') ∧ (∀ W, Calls Tryz.prog 170 #[.string b, .int .i64 (k : Int)] W fun e w' => e = .returned (.tuple #[.int .i64 y, .bool false]) ∧ W = w')) := by
 by_cases h1 : sval a < P8 j
 ·have h2 : ¬ sval b < P8 k := fun h => hbig ⟨h1, h⟩;exact .inr ⟨_, _, small_yes a j hj ha h1, small_no b k hk hb h2⟩
 ·by_cases h2 : sval b < P8 k
  ·exact .inl ⟨_, _, true, small_no a j hj ha h1, small_yes b k hk hb h2⟩
  ·exact .inl ⟨_, _, false, small_no a j hj ha h1, small_no b k hk hb h2⟩
theorem rAdd_big (a b : ByteArray) (w : World) (ha : a.size ≤ 100000) (hb : b.size ≤ 100000) (hbig : ¬ (sval a < P8 7 ∧ sval b < P8 7)) :
 Calls Tryz.prog 106 #[.string a, .string b] w fun e w' => e = .returned (.string (natS (sval a + sval b))) ∧ Below w.heap.size w w' := by
 have hcase := small_ways a b 7 7 (by omega) (by omega) ha hb hbig;clear hbig
 rcases hcase with ⟨x0, y0, q, hA, hB⟩ | ⟨x0, y0, hA, hB⟩
 all_goals
  have HA := Lib.hid hA;have HB := Lib.hid hB;clear hA hB;go_enter Tryz.func106, Tryz.ntmps106;go_wp2_with fail;refine (HA.out _).mono ?_;rintro e w' ⟨rfl, rfl⟩;go_wp2_with fail;refine (HB.out _).mono ?_;rintro e w' ⟨rfl, rfl⟩;go_wp2_with fail;refine (rOf_ a _ ha).mono ?_;rintro e w1 ⟨⟨A, n, c, us, rfl, hu, htu, hvu⟩, hb1⟩;have hn : n ≤ a.size := ifew hu htu (by rw [hvu]; exact sval_lt a);have HVU := Lib.hid hvu;clear hvu;go_wp2_with fail;refine (rOf_ b _ hb).mono ?_;rintro e w2 ⟨⟨B, m, d, vs, rfl, hv, htv, hvv⟩, hb2⟩;have hm : m ≤ b.size := ifew hv htv (by rw [hvv]; exact sval_lt b);have HVV := Lib.hid hvv;clear hvv;have hb12 := below_then hb1 hb2;have hu2 := hu.below hb2;have LU := Lib.hid hu2.len;have LV := Lib.hid hv.len;clear hb1 hb2 hu;go_wp2_with fail
  go_loopw [11, 12, 13, 14] (fun s11 s12 s13 _ wr => ∃ (i t : Nat) (fs : List Nat), i ≤ n + m + 1 ∧ s13 = .int .i64 (i : Int) ∧ s12 = .int .i64 (t : Int) ∧ t ≤ 1 ∧ (n + m < i → t = 0) ∧ Own24 w2.heap.size wr s11 fs ∧ R.Lt24 fs ∧ Hid (fs.length = i ∧ R.val fs + R.P24 i * t = R.val (us.take i) + R.val (vs.take i) ∧ (n ≤ i → m ≤ i → R.P24 i * t + R.val fs = R.val us + R.val vs)) ∧ Below w2.heap.size w2 wr) (fun _ _ s13 _ _ => n + m + 1 - (intOf s13).toNat)
  case atStart =>
   refine ⟨0, 0, [], by omega, rfl, rfl, by omega, fun _ => rfl, Own24.nil_ _ _, R.Lt24.nil, Lib.hid ⟨rfl, by simp [R.val], fun h1 h2 => ?_⟩, Below.refl _ _⟩;have e1 : us = [] := List.eq_nil_of_length_eq_zero (by rw [LU.out]; omega);have e2 : vs = [] := List.eq_nil_of_length_eq_zero (by rw [LV.out]; omega);rw [e1, e2]; rfl
  case round =>
   obtain ⟨i, t, fs, hi, rfl, rfl, ht, htz, hown, hlt, HF, hbw⟩ := hrel;have hdl : fs.length ≤ 10000000 := by rw [HF.out.1]; omega
   have hnext : ∀ s : Nat, s = t + us.getD i 0 + vs.getD i 0 → Hid (R.val (fs ++ [s % 16777216]) + R.P24 (i + 1) * (s / 16777216) = R.val (us.take (i + 1)) + R.val (vs.take (i + 1)) ∧ (n ≤ i + 1 → m ≤ i + 1 → R.P24 (i + 1) * (s / 16777216) + R.val (fs ++ [s % 16777216]) = R.val us + R.val vs)) := fun s hs => Lib.hid ⟨add_step HF.out.1 HF.out.2.1 rfl rfl hs, fun h1 h2 => by
    have := add_step HF.out.1 HF.out.2.1 rfl rfl hs;rw [R.val_take_all (by rw [LU.out]; exact h1), R.val_take_all (by rw [LV.out]; exact h2)] at this
    omega⟩
   have HN := Lib.hid hnext;clear hnext
   by_cases h0 : i < n
   ·obtain ⟨bx, ox, x, rfl, hx, hxl, hxc⟩ := (hu2.below hbw).get (k := i) h0;have hxg := getD_some hx
    by_cases h1 : i < m
    ·obtain ⟨by_, oy, y, rfl, hy, hyl, hyc⟩ := (hv.below hbw).get (k := i) h1;have hyg := getD_some hy;obtain ⟨s, hs⟩ : ∃ s, s = t + x + y := ⟨_, rfl⟩;have HST := HN.out s (by rw [hxg, hyg]; exact hs);have hsum : (t : Int) + (x : Int) + (y : Int) = (s : Int) := by omega
     have hrr : (s : Int) % 16777216 = ((s % 16777216 : Nat) : Int) := by omega
     have hqq : (s : Int) / 16777216 = ((s / 16777216 : Nat) : Int) := by omega
     have hql : s / 16777216 ≤ 1 := by omega
     have hrl : s % 16777216 < 16777216 := by omega
     obtain ⟨r, hr⟩ : ∃ r, r = s % 16777216 := ⟨_, rfl⟩;obtain ⟨q2, hq⟩ : ∃ q, q = s / 16777216 := ⟨_, rfl⟩;rw [← hr] at hrr hrl HST;rw [← hq] at hqq hql HST;clear hr hq hs hxg hyg hx hy;go_wp2_with (at_builtin; refine wp_append24 rfl _ _ rfl rfl hown rfl hdl hbw ?_; intro v1 w3 hown1 hbw1 hg1);go_roundw
     case rel => exact ⟨i + 1, q2, fs ++ [r], by omega, by go_num, rfl, hql, fun h => by omega, hown1, hlt.snoc hrl, Lib.hid ⟨by rw [List.length_append, HF.out.1]; rfl, HST.out⟩, hbw1⟩
     case measure => simp [intOf]; omega
    ·have hyg := getD_none (xs := vs) (k := i) (by rw [LV.out]; omega);obtain ⟨s, hs⟩ : ∃ s, s = t + x := ⟨_, rfl⟩;have HST := HN.out s (by rw [hxg, hyg]; omega);have hsum : (t : Int) + (x : Int) = (s : Int) := by omega
     have hrr : (s : Int) % 16777216 = ((s % 16777216 : Nat) : Int) := by omega
     have hqq : (s : Int) / 16777216 = ((s / 16777216 : Nat) : Int) := by omega
     have hql : s / 16777216 ≤ 1 := by omega
     have hrl : s % 16777216 < 16777216 := by omega
     have hsz : n + m < i + 1 → s / 16777216 = 0 := by omega
     obtain ⟨r, hr⟩ : ∃ r, r = s % 16777216 := ⟨_, rfl⟩;obtain ⟨q2, hq⟩ : ∃ q, q = s / 16777216 := ⟨_, rfl⟩;rw [← hr] at hrr hrl HST;rw [← hq] at hqq hql HST hsz;clear hr hq hs hxg hyg hx;go_wp2_with (at_builtin; refine wp_append24 rfl _ _ rfl rfl hown rfl hdl hbw ?_; intro v1 w3 hown1 hbw1 hg1);go_roundw
     case rel => exact ⟨i + 1, q2, fs ++ [r], by omega, by go_num, rfl, hql, hsz, hown1, hlt.snoc hrl, Lib.hid ⟨by rw [List.length_append, HF.out.1]; rfl, HST.out⟩, hbw1⟩
     case measure => simp [intOf]; omega
   ·have hxg := getD_none (xs := us) (k := i) (by rw [LU.out]; omega)
    by_cases h1 : i < m
    ·obtain ⟨by_, oy, y, rfl, hy, hyl, hyc⟩ := (hv.below hbw).get (k := i) h1;have hyg := getD_some hy;obtain ⟨s, hs⟩ : ∃ s, s = t + y := ⟨_, rfl⟩;have HST := HN.out s (by rw [hxg, hyg]; omega);have hsum : (t : Int) + (y : Int) = (s : Int) := by omega
     have hrr : (s : Int) % 16777216 = ((s % 16777216 : Nat) : Int) := by omega
     have hqq : (s : Int) / 16777216 = ((s / 16777216 : Nat) : Int) := by omega
     have hql : s / 16777216 ≤ 1 := by omega
     have hrl : s % 16777216 < 16777216 := by omega
     have hsz : n + m < i + 1 → s / 16777216 = 0 := by omega
     obtain ⟨r, hr⟩ : ∃ r, r = s % 16777216 := ⟨_, rfl⟩;obtain ⟨q2, hq⟩ : ∃ q, q = s / 16777216 := ⟨_, rfl⟩;rw [← hr] at hrr hrl HST;rw [← hq] at hqq hql HST hsz;clear hr hq hs hxg hyg hy;go_wp2_with (at_builtin; refine wp_append24 rfl _ _ rfl rfl hown rfl hdl hbw ?_; intro v1 w3 hown1 hbw1 hg1);go_roundw
     case rel => exact ⟨i + 1, q2, fs ++ [r], by omega, by go_num, rfl, hql, hsz, hown1, hlt.snoc hrl, Lib.hid ⟨by rw [List.length_append, HF.out.1]; rfl, HST.out⟩, hbw1⟩
     case measure => simp [intOf]; omega
    ·have hyg := getD_none (xs := vs) (k := i) (by rw [LV.out]; omega)
     by_cases h2 : 0 < t
     ·have hle : i ≤ n + m := by
       rcases Nat.lt_or_ge (n + m) i with h | h
       ·have := htz h; omega
       ·exact h
      have HST := HN.out t (by rw [hxg, hyg]; omega);have hrr : (t : Int) % 16777216 = ((t % 16777216 : Nat) : Int) := by omega
      have hqq : (t : Int) / 16777216 = ((t / 16777216 : Nat) : Int) := by omega
      have hql : t / 16777216 ≤ 1 := by omega
      have hrl : t % 16777216 < 16777216 := by omega
      have hsz : n + m < i + 1 → t / 16777216 = 0 := by omega
      obtain ⟨r, hr⟩ : ∃ r, r = t % 16777216 := ⟨_, rfl⟩;obtain ⟨q2, hq⟩ : ∃ q, q = t / 16777216 := ⟨_, rfl⟩;rw [← hr] at hrr hrl HST;rw [← hq] at hqq hql HST hsz;clear hr hq htz hxg hyg;go_wp2_with (at_builtin; refine wp_append24 rfl _ _ rfl rfl hown rfl hdl hbw ?_; intro v1 w3 hown1 hbw1 hg1);go_roundw
      case rel => exact ⟨i + 1, q2, fs ++ [r], by omega, by go_num, rfl, hql, hsz, hown1, hlt.snoc hrl, Lib.hid ⟨by rw [List.length_append, HF.out.1]; rfl, HST.out⟩, hbw1⟩
      case measure => simp [intOf]; omega
     ·obtain rfl : t = 0 := by omega
      clear hxg hyg htz;obtain ⟨A2, c2, rfl, hdg⟩ := hown.dig hlt;have hnl : fs.length ≤ 200000 + 1 := by rw [HF.out.1]; omega
      go_wp2_with fail;refine (rnumber _ _ _ _ _ hdg (by omega)).mono ?_;rintro e w4 ⟨rfl, hb4⟩;go_wp2_with fail;go_ret;have h3 := HF.out.2.2 (by omega) (by omega);rw [HVU.out, HVV.out] at h3;exact ⟨by rw [show R.val fs = sval a + sval b by omega]; rfl, below_then (below_then hb12 hbw) hb4⟩
theorem rAdd (a b : ByteArray) (w : World) (ha : a.size ≤ 100000) (hb : b.size ≤ 100000) :
 Calls Tryz.prog 106 #[.string a, .string b] w fun e w' => e = .returned (.string (natS (sval a + sval b))) ∧ Below w.heap.size w w' := by
 by_cases h : sval a < P8 7 ∧ sval b < P8 7
 ·exact rAdd_small a b w ha hb h.1 h.2
 ·exact rAdd_big a b w ha hb h
end Go.Proofs.YtkpinmejfdnhbaaGreatDoor
