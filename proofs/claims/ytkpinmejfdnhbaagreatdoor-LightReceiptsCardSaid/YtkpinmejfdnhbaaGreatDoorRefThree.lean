/- Joined by a program: RefI, RefJ, RefK, RefL. -/
import Derived.Test.YtkpinmejfdnhbaaGreatDoorRefTwo
import Derived.Deep.RegionHeld
import Derived.Deep.RegionHeld3
import Derived.Deep.RegionWith
import Derived.Test.YtkpinmejfdnhbaaGreatDoorPlainAll
set_option maxRecDepth 100000
set_option maxHeartbeats 6000000
namespace Go.Proofs.YtkpinmejfdnhbaaGreatDoor
open Go.RowKit
def i64a (l : List Nat) : Array Value := (i64s l).toArray
theorem i64a_get {l : List Nat} {i d : Nat} (h : l[i]? = some d) : (i64a l)[i]? = some (.int .i64 (d : Int)) := by simp [i64a, i64s, h]
theorem i64a_set (l : List Nat) (i d : Nat) : (i64a l).setIfInBounds i (.int .i64 (d : Int)) = i64a (l.set i d) := by simp [i64a, i64s, List.map_set]
theorem i64a_made (n : Nat) : madeCells #[.int .i64 0] n = i64a (List.replicate n 0) := by
 apply Array.toList_inj.1
 rw [toList_madeCells_one]
 simp [i64a, i64s]
theorem Blk.i64 {w : World} {g : Nat} {t : TypeId} {l : List Nat} (h : Blk w g t (i64a l)) {i d : Nat} (hd : l[i]? = some d) : w.cell? ⟨g, i, none⟩ = some (.int .i64 (d : Int)) := (h.cell i).trans (i64a_get hd)
theorem Blk.put64 {w : World} {g : Nat} {t : TypeId} {l : List Nat} (h : Blk w g t (i64a l)) (i d : Nat) : Blk (w.setCell ⟨g, i, none⟩ (.int .i64 (d : Int))) g t (i64a (l.set i d)) := by
 have := h.set_ i (.int .i64 (d : Int));rwa [i64a_set] at this
theorem Blk.idg {w : World} {g : Nat} {t : TypeId} {l : List Nat} (h : Blk w g t (i64a l)) (hl : R.Lt24 l) {n c : Nat} (hn : l.length = n) (hc : n ≤ c) : IDg w (some ⟨g, 0, none⟩) n c l :=
 ⟨hn, hc, hl, fun _ => ⟨g, 0, rfl, fun j d hd => by rw [Nat.zero_add]; exact h.i64 hd⟩⟩
theorem make_int (n : Nat) (hn : n ≤ 10000000) (w : World) :
 (Instr.makeSlice 25 (.int .i64 (n : Int)) (.int .i64 (n : Int))).run Tryz.prog w = .ok (.slice (some ⟨w.heap.size, 0, none⟩) n n) (w.alloc (.cells (i64a (List.replicate n 0)) 3)) := by
 rw [← i64a_made];exact run_make_row' 25 3 (.int .i64 0) 8 Tryz.underlying25 int_info rfl .i64 .i64 n (by omega) (by omega) w
theorem div_between {U V lo : Nat} (h1 : V * lo ≤ U) (h2 : U < V * (lo + 1)) : lo = U / V := by
 refine (Nat.div_eq_of_lt_le ?_ ?_).symm
 ·rw [Nat.mul_comm]; exact h1
 ·rw [Nat.mul_comm]; exact h2
theorem rdigit (A : Option Addr) (n c : Nat) (us : List Nat) (B : Option Addr) (m d : Nat) (vs : List Nat) (w : World) (h : IDg w A n c us) (k : IDg w B m d vs) (tu : R.Trim us) (hn : n ≤ 300000) (hm : m ≤ 300000) (hlt : R.val us < R.val vs * 16777216) :
 Calls Tryz.prog 213 #[.slice A n c, .slice B m d] w fun e w' => e = .returned (.int .i64 ((R.val us / R.val vs : Nat) : Int)) ∧ Below w.heap.size w w' := by
 have HLT := Lib.hid hlt;clear hlt;go_enter Tryz.func213, Tryz.ntmps213;go_wp2_with fail
 go_loopw [5, 6, 7] (fun s5 s6 _ wr => ∃ lo hi : Nat, lo ≤ hi ∧ hi ≤ 16777215 ∧ s5 = .int .i64 (lo : Int) ∧ s6 = .int .i64 (hi : Int) ∧ Hid (R.val vs * lo ≤ R.val us ∧ R.val us < R.val vs * (hi + 1)) ∧ Below w.heap.size w wr) (fun s5 s6 _ _ => (intOf s6 - intOf s5).toNat)
 case atStart => exact ⟨0, 16777215, by omega, by omega, rfl, rfl, Lib.hid ⟨by omega, HLT.out⟩, Below.refl _ _⟩
 case round =>
  obtain ⟨lo, hi, hle, hhi, rfl, rfl, HI, hb⟩ := hrel
  by_cases h0 : lo < hi
  ·obtain ⟨md, hmd⟩ : ∃ md, md = (lo + hi + 1) / 2 := ⟨_, rfl⟩;have hrule : ((lo : Int) + (hi : Int) + 1) / 2 = (md : Int) := by omega
   have hm1 : lo < md := by omega
   have hm2 : md ≤ hi := by omega
   clear hmd;go_wp2_with fail;have HR := Lib.hid hrule;clear hrule;refine (rtimes _ _ _ vs md _ (k.below hb) (by omega) (by omega)).mono ?_;rintro e w1 ⟨⟨A1, n1, c1, ts, rfl, ht1, htt, hvt⟩, hb1⟩;have hn1 : n1 ≤ m + 1 := by
    rw [← ht1.len];refine htt.len_le ?_;rw [hvt, R.P24_succ, Nat.mul_comm];exact Nat.mul_lt_mul'' (by omega) (by have := R.val_lt k.lt; rwa [k.len] at this)
   have HVT := Lib.hid hvt;clear hvt;go_wp2_with fail;refine (rcmp _ _ _ _ _ _ _ us _ ht1 ((h.below hb).below hb1) (by omega) (by omega) htt tu).mono ?_;rintro e w2 ⟨⟨r, rfl, hr1, hr2, hr3⟩, hb2⟩;rw [HVT.out] at hr1 hr2 hr3;have HS := Lib.hid (And.intro hr1 (And.intro hr2 hr3));clear hr1 hr2 hr3;have hb12 := below_then (below_then hb hb1) hb2
   by_cases hr : r ≤ 0
   ·have HX : Hid (R.val vs * md ≤ R.val us) := Lib.hid (by
     rcases Nat.lt_or_ge (R.val us) (R.val vs * md) with hh | hh
     ·have := HS.out.2.2 hh; omega
     ·exact hh)
    go_wp2_with fail;go_roundw
    case rel => exact ⟨md, hi, hm2, hhi, by rw [HR.out], rfl, Lib.hid ⟨HX.out, HI.out.2⟩, hb12⟩
    case measure => simp [intOf]; omega
   ·have HX : Hid (R.val us < R.val vs * md) := Lib.hid (by
     rcases Nat.lt_trichotomy (R.val vs * md) (R.val us) with hh | hh | hh
     ·have := HS.out.1 hh; omega
     ·have := HS.out.2.1 hh; omega
     ·exact hh)
    go_wp2_with fail;go_roundw
    case rel => exact ⟨lo, md - 1, by omega, by omega, rfl, by rw [HR.out]; congr 1; omega, Lib.hid ⟨HI.out.1, by rw [show md - 1 + 1 = md by omega]; exact HX.out⟩, hb12⟩
    case measure => simp [intOf]; omega
  ·obtain rfl : lo = hi := by omega
   have HD := Lib.hid (div_between HI.out.1 HI.out.2);go_wp2_with fail;go_ret;exact ⟨by rw [← HD.out]; rfl, hb⟩
theorem own_one (w0 wo : World) (hb : w0.heap.size ≤ wo.heap.size) (x : Nat) : Own24 w0.heap.size (wo.alloc (.cells #[.int .i64 (x : Int)] 3)) (.slice (some ⟨wo.heap.size, 0, none⟩) 1 1) [x] :=
 ⟨rfl, .inr ⟨wo.heap.size, 1, #[.int .i64 (x : Int)], rfl, hb, heap_alloc_new _ _, Nat.le_refl _, by decide, rfl, rfl⟩⟩
theorem Own24.at_ {B : Nat} {w : World} {v : Value} {xs : List Nat} (h : Own24 B w v xs) (hl : R.Lt24 xs) (h0 : 0 < xs.length) : ∃ g c, v = .slice (some ⟨g, 0, none⟩) xs.length c ∧ B ≤ g ∧ IDg w (some ⟨g, 0, none⟩) xs.length c xs := by
 obtain ⟨A, c, rfl, hd⟩ := h.dig hl;obtain ⟨b, o, rfl, _⟩ := hd.at_ h0
 rcases h.2 with ⟨h1, _⟩ | ⟨g, cap, cur, h1, h2, _⟩
 ·cases h1
 ·injection h1 with h3 h4 h5
  cases h3
  exact ⟨_, c, rfl, h2, hd⟩
theorem idg_far {w : World} {A : Option Addr} {n c : Nat} {xs : List Nat} (h : IDg w A n c xs) {p : Addr} (hp : ∀ b o, A = some ⟨b, o, none⟩ → b ≠ p.block) (u : Value) : IDg (w.setCell p u) A n c xs := by
 refine ⟨h.len, h.cap, h.lt, fun hn => ?_⟩;obtain ⟨b, o, e, hc⟩ := h.at_ hn;exact ⟨b, o, e, fun j d hd => (World.cell?_setCell_far w p ⟨b, o + j, none⟩ u (fun e2 => hp b o e e2.symm)).trans (hc j d hd)⟩
theorem run_append_nilc {P : Program} (w : World) (base : Nat) (t ty e : TypeId) (i : TypeInfo) (size : Nat) (ht : P.underlying t = some (.slice e)) (hi : P.info? e = some i)
 (v : Value) (n : Nat) (xs : List Value) (hown : w.ownsRow base e size v n xs) (c : Nat) : (Builtin.append_ #[t, t] ty #[v, .slice none 0 c]).run P w = .ok v w := by
 rcases hown.2 with ⟨rfl, rfl⟩ | ⟨g, cap, cur, rfl, _, _, hnc, _⟩
 ·simp [Builtin.append_, run_underlying ht, sizeOf, typeInfo, hi, Builtin.lenOf, Builtin.firstCells]
 ·simp [Builtin.append_, run_underlying ht, sizeOf, typeInfo, hi, Builtin.lenOf, Builtin.firstCells, hnc, storeCells]
theorem wp_append24s {ops : Array Oper} {rest : List Oper} {o : Oper} {a : Act} {Q : Exit → Act → World → Prop} (hgd : o.guard = none) (s x : Operand)
 (ho : o.op = .call { callee := .builtin .append, args := #[s, x], argTypes := #[25, 25] }) {w0 wo : World} {v : Value} {ds : List Nat} {A : Option Addr} {n c : Nat} {xs : List Nat} (hs : a.eval s = v) (hown : Own24 w0.heap.size wo v ds)
 (hx : a.eval x = .slice A n c) (hsrc : IDg wo A n c xs) (hl : ds.length ≤ 1000000) (hn : n ≤ 1000000) (hb : Below w0.heap.size w0 wo)
 (h : ∀ v' w', Own24 w0.heap.size w' v' (ds ++ xs) → Below w0.heap.size w0 w' → wpList Tryz.prog ops Q rest (a.put o.dst v') w') :
 wpList Tryz.prog ops Q (o :: rest) a wo := by
 obtain ⟨i0, hi0, hz0, hz1, hz2⟩ := info_parts int_info;have hbs : w0.heap.size ≤ wo.heap.size := hb.size;have hfin : ∀ v' w', w'.ownsRow w0.heap.size 3 1 v' (ds.length + n) (i64s ds ++ i64s xs) → wo.grownBy w' v.ownBlock → wpList Tryz.prog ops Q rest (a.put o.dst v') w' := by
  intro v' w' ho' hg';refine h v' w' ?_ (hb.grown hg' hbs (own_base hown));unfold Own24;rw [List.length_append, hsrc.len, show i64s (ds ++ xs) = i64s ds ++ i64s xs by simp [i64s]];exact ho'
 have hone : ∀ u ∈ i64s xs, u.oneCell' = true := by
  intro u hu;simp only [i64s, List.mem_map] at hu;obtain ⟨b, _, rfl⟩ := hu
  rfl
 cases A with
 | none =>
   have hn0 : n = 0 := by
    rcases Nat.eq_zero_or_pos n with h0 | h0
    ·exact h0
    ·obtain ⟨b, o, e, _⟩ := hsrc.at_ h0; cases e
   have hx0 : xs = [] := List.eq_nil_of_length_eq_zero (by rw [hsrc.len, hn0]);subst hn0 hx0;have hrun := run_append_nilc wo w0.heap.size 25 o.type 3 i0 1 Tryz.underlying25 hi0 v ds.length (i64s ds) hown c;refine wpList_plain hgd fun K hK => ?_;unfold Oper.wp;simp only [execOp, ho, resolve, invoke, builtin, Sem.run_bind, Sem.run_pure, Result.andThen_ok, List.map_toArray, List.map_cons, List.map_nil, hs, hx, hrun];exact hK _ _ (h v wo (by rw [List.append_nil]; exact hown) hb)
 | some ad =>
   refine wpList_append_own _ hgd s x 25 ho w0.heap.size 3 i0 (.int .i64 0) 1 8 Tryz.underlying25 hi0 hz0 hz1 hz2 rfl (by decide) v ds.length (i64s ds) hs hown ad n c (i64s xs) hx (by rw [i64s_len, hsrc.len, Nat.mul_one]) ?_ hone ?_ ?_ hbs ?_
   ·intro j u hu;have hj : j < xs.length := by
     have := (List.getElem?_eq_some_iff.1 hu).1;rwa [i64s_len] at this
    obtain ⟨b, o, e, hc⟩ := hsrc.at_ (by have := hsrc.len; omega)
    cases e
    rw [add_addr];simp only [i64s, List.getElem?_map, Option.map_eq_some_iff] at hu;obtain ⟨d, hd, rfl⟩ := hu;exact hc j d hd
   ·unfold maxLen; omega
   ·omega
   ·intro v' w' ho' hg' _;exact hfin v' w' ho' hg'
theorem Blk.belowK {w w' : World} {g : Nat} {t : TypeId} {cs : Array Value} (h : Blk w g t cs) (hb : Below w.heap.size w w') : Blk w' g t cs := h.below hb h.lt
theorem natS_zero_size {v : Nat} : (natS v).size = 0 ↔ v = 0 := by
 constructor
 ·intro h;have := natS_lt (v := v) (k := 0) (by omega);rw [P8_zero] at this
  omega
 ·rintro rfl; rfl
theorem rQuo_zero (a b : ByteArray) (w : World) (hb : b.size ≤ 100000) (h0 : sval b = 0) :
 Calls Tryz.prog 168 #[.string a, .string b] w fun e w' => e = .returned (quoRes (sval a) (sval b)) ∧ Below w.heap.size w w' := by
 have HC : Hid (∀ W, Calls Tryz.prog 167 #[.string b] W fun e w' => e = .returned (.string ⟨#[]⟩) ∧ W = w') := Lib.hid (fun W => by
  have := rCanon b W (by omega); rw [h0] at this; exact this)
 have hR : quoRes (sval a) (sval b) = .tuple #[.string ⟨#[]⟩, .string ⟨#[]⟩, .bool false] := by unfold quoRes; rw [if_pos h0]
 rw [hR];clear hR h0;go_enter Tryz.func168, Tryz.ntmps168;go_wp2_with fail;refine (HC.out _).mono ?_;rintro e w' ⟨rfl, rfl⟩;go_wp2_with fail
 go_ret3
 exact ⟨rfl, Below.refl _ _⟩
theorem rQuo_small (a b : ByteArray) (w : World) (ha : a.size ≤ 100000) (hb : b.size ≤ 100000) (h0 : sval b ≠ 0) (h1 : sval a < P8 7) (h2 : sval b < P8 7) :
 Calls Tryz.prog 168 #[.string a, .string b] w fun e w' => e = .returned (quoRes (sval a) (sval b)) ∧ Below w.heap.size w w' := by
 obtain ⟨t, ht⟩ : ∃ t, t = natS (sval b) := ⟨_, rfl⟩;have htl : t.size ≤ 100000 := by rw [ht]; exact Nat.le_trans (canon_le b) hb
 have hts : sval t = sval b := by rw [ht, sval_natS]
 have ht0 : ((t.size : Int) == 0) = false := by
  rw [beq_eq_false_iff_ne]; intro e;exact h0 (natS_zero_size.1 (by rw [← ht]; omega))
 have HC : Hid (∀ W, Calls Tryz.prog 167 #[.string b] W fun e w' => e = .returned (.string t) ∧ W = w') := Lib.hid (fun W => by rw [ht]; exact rCanon b W (by omega));have HA := Lib.hid (small_yes a 7 (by omega) ha h1);have hB := small_yes t 7 (by omega) htl (by rw [hts]; exact h2);rw [hts] at hB;have HB := Lib.hid hB;have HR : Hid (quoRes (sval a) (sval b) = .tuple #[.string (natS (sval a / sval b)), .string (natS (sval a % sval b)), .bool true]) := Lib.hid (by unfold quoRes; rw [if_neg h0]);clear ht hts hB;rw [P8_7] at h1 h2;obtain ⟨x, hx⟩ : ∃ x, x = sval a := ⟨_, rfl⟩;obtain ⟨y, hy⟩ : ∃ y, y = sval b := ⟨_, rfl⟩;rw [← hx] at h1 HA HR ⊢;rw [← hy] at h0 h2 HB HR ⊢;clear hx hy;obtain ⟨q, hq⟩ : ∃ q, q = x / y := ⟨_, rfl⟩;obtain ⟨r, hr⟩ : ∃ r, r = x % y := ⟨_, rfl⟩;have hql : q ≤ x := by rw [hq]; exact Nat.div_le_self _ _
 have hrl : r ≤ x := by rw [hr]; exact Nat.mod_le _ _
 have hdiv : (x : Int).tdiv (y : Int) = (q : Int) := by rw [hq]; simp [Int.tdiv_eq_ediv_of_nonneg]
 have hmod : (x : Int).tmod (y : Int) = (r : Int) := by rw [hr]; simp [Int.tmod_eq_emod_of_nonneg]
 have hdiv2 : (x : Int) / (y : Int) = (q : Int) := by rw [hq]; simp
 have hmod2 : (x : Int) % (y : Int) = (r : Int) := by rw [hr]; simp
 have hwq : IntKind.i64.wrap (q : Int) = (q : Int) := IntWalk.i64_in _ (by omega);have hwr : IntKind.i64.wrap (r : Int) = (r : Int) := IntWalk.i64_in _ (by omega);have hy0 : ((y : Int) == 0) = false := by rw [beq_eq_false_iff_ne]; omega
 have hy0' : (y : Int) ≠ 0 := by omega
 have HOQ : Hid (∀ W, Calls Tryz.prog 105 #[.int .i64 (q : Int)] W fun e w' => e = .returned (.string (natS q)) ∧ Below W.heap.size W w') := Lib.hid (fun W => by have := rOf (q : Int) W (by omega); rwa [Int.toNat_natCast] at this);have HOR : Hid (∀ W, Calls Tryz.prog 105 #[.int .i64 (r : Int)] W fun e w' => e = .returned (.string (natS r)) ∧ Below W.heap.size W w') := Lib.hid (fun W => by have := rOf (r : Int) W (by omega); rwa [Int.toNat_natCast] at this);rw [← hq, ← hr] at HR;clear hq hr;go_enter Tryz.func168, Tryz.ntmps168;go_wp2_with fail;refine (HC.out _).mono ?_;rintro e w' ⟨rfl, rfl⟩;go_wp2_with fail;refine (HA.out _).mono ?_;rintro e w' ⟨rfl, rfl⟩;go_wp2_with fail;refine (HB.out _).mono ?_;rintro e w' ⟨rfl, rfl⟩;go_upto_region 7 with fail
 go_region_with (first
  | (go_at_call 105; (with_reducible refine (HOQ.out _).mono ?_); rintro e wa ⟨rfl, hba⟩)
  | (go_at_call 105; (with_reducible refine (HOR.out _).mono ?_); rintro e wb ⟨rfl, hbb⟩))
 all_goals go_wp2_with fail
 all_goals go_ret3
 all_goals
  refine ⟨by rw [HR.out]; rfl, ?_⟩
  (repeat (first | exact Below.refl _ _ | apply Below.drew | refine below_then ?_ hba | refine below_then ?_ hbb))
theorem rdiv_step (X V x : Nat) (hV : 0 < V) : (x + 16777216 * X) / V = (x + 16777216 * (X % V)) / V + 16777216 * (X / V) ∧ (x + 16777216 * X) % V = (x + 16777216 * (X % V)) % V := by
 have e : x + 16777216 * X = (x + 16777216 * (X % V)) + V * (16777216 * (X / V)) := by
  have h := Nat.div_add_mod X V;have h2 : 16777216 * X = 16777216 * (V * (X / V)) + 16777216 * (X % V) := by rw [← Nat.mul_add, h]
  rw [h2, Nat.mul_left_comm V]
  omega
 rw [e, Nat.add_mul_div_left _ _ hV, Nat.add_mul_mod_self_left];exact ⟨rfl, rfl⟩
theorem rQuo_big (a b : ByteArray) (w : World) (ha : a.size ≤ 100000) (hb : b.size ≤ 100000) (h0 : sval b ≠ 0) (hbig : ¬ (sval a < P8 7 ∧ sval b < P8 7)) :
 Calls Tryz.prog 168 #[.string a, .string b] w fun e w' => e = .returned (quoRes (sval a) (sval b)) ∧ Below w.heap.size w w' := by
 obtain ⟨t, ht⟩ : ∃ t, t = natS (sval b) := ⟨_, rfl⟩;have htl : t.size ≤ 100000 := by rw [ht]; exact Nat.le_trans (canon_le b) hb
 have hts : sval t = sval b := by rw [ht, sval_natS]
 have ht0 : ((t.size : Int) == 0) = false := by
  rw [beq_eq_false_iff_ne]; intro e;exact h0 (natS_zero_size.1 (by rw [← ht]; omega))
 have HC : Hid (∀ W, Calls Tryz.prog 167 #[.string b] W fun e w' => e = .returned (.string t) ∧ W = w') := Lib.hid (fun W => by rw [ht]; exact rCanon b W (by omega));have hcase := small_ways a t 7 7 (by omega) (by omega) ha htl (by rw [hts]; exact hbig);have HR : Hid (quoRes (sval a) (sval b) = .tuple #[.string (natS (sval a / sval b)), .string (natS (sval a % sval b)), .bool true]) := Lib.hid (by unfold quoRes; rw [if_neg h0]);have HTS := Lib.hid hts;have hVp : 0 < sval b := by omega
 clear hbig ht hts h0
 rcases hcase with ⟨x0, y0, q, hA, hB⟩ | ⟨x0, y0, hA, hB⟩
 all_goals
  have HA := Lib.hid hA;have HB := Lib.hid hB;clear hA hB;go_enter Tryz.func168, Tryz.ntmps168;go_wp2_with fail;refine (HC.out _).mono ?_;rintro e w' ⟨rfl, rfl⟩;go_wp2_with fail;refine (HA.out _).mono ?_;rintro e w' ⟨rfl, rfl⟩;go_wp2_with fail;refine (HB.out _).mono ?_;rintro e w' ⟨rfl, rfl⟩;go_wp2_with fail;refine (rOf_ a _ ha).mono ?_;rintro e w1 ⟨⟨A, n, c, us, rfl, hu, htu, hvu⟩, hb1⟩;have hn : n ≤ a.size := ifew hu htu (by rw [hvu]; exact sval_lt a);have HVU := Lib.hid hvu;clear hvu;go_wp2_with fail;refine (rOf_ t _ htl).mono ?_;rintro e w2 ⟨⟨B, m, d, vs, rfl, k, htv, hvv⟩, hb2⟩;have hm : m ≤ t.size := ifew k htv (by rw [hvv]; exact sval_lt t);rw [HTS.out] at hvv;have HVV := Lib.hid hvv;clear hvv;have hb12 := below_then hb1 hb2;have h := hu.below hb2;clear hb1 hb2 hu;have hmk := make_int n (by omega);obtain ⟨V, hV⟩ : ∃ V, V = sval b := ⟨_, rfl⟩;rw [← hV] at hVp HVV;have HV := Lib.hid hV;clear hV;go_wp2_with fail
  go_loopw [14, 15] (fun s14 s15 wr => ∃ (i : Nat) (hs : List Nat) (Ar : Option Addr) (nr cr : Nat) (rs : List Nat), i ≤ n ∧ s15 = .int .i64 ((i : Int) - 1) ∧ s14 = .slice Ar nr cr ∧ IDg wr Ar nr cr rs ∧ R.Trim rs ∧ R.Lt24 hs ∧ Hid (hs.length = n - i ∧ R.val rs = R.val (us.drop i) % V ∧ R.val hs = R.val (us.drop i) / V) ∧ Blk wr w2.heap.size 3 (i64a (List.replicate i 0 ++ hs)) ∧ Below w2.heap.size w2 wr) (fun _ s15 _ => (intOf s15 + 1).toNat)
  case atStart =>
   refine ⟨n, [], none, 0, 0, [], by omega, rfl, rfl, IDg.nil_ _ _ _, (fun h => by simp at h), R.Lt24.nil, Lib.hid ⟨by simp, ?_, ?_⟩, ?_, (Below.refl _ _).alloc (Nat.le_refl _) _⟩
   ·rw [List.drop_of_length_le (by rw [h.len]; omega)]; simp [R.val]
   ·rw [List.drop_of_length_le (by rw [h.len]; omega)]; simp [R.val]
   ·rw [List.append_nil]; exact Blk.new _ _ _
  case round =>
   obtain ⟨i, hs, Ar, nr, cr, rs, hi, rfl, rfl, hr, htr, hlt, HF, hbk, hbw⟩ := hrel;have hnr : nr ≤ m := by
    rw [← hr.len, ← k.len];refine htr.len_le ?_;rw [HF.out.2.1];refine Nat.lt_trans (Nat.mod_lt _ hVp) ?_;rw [← HVV.out];exact R.val_lt k.lt
   by_cases hi0 : 0 < i
   ·obtain ⟨j, rfl⟩ : ∃ j, i = j + 1 := ⟨i - 1, by omega⟩;rw [show ((j + 1 : Nat) : Int) - 1 = (j : Int) by omega];obtain ⟨bx, ox, x, rfl, hx, hxl, hxc⟩ := (h.below hbw).get (k := j) (by omega);have HX := Lib.hid hx;clear hx;have hbal : Below wr.heap.size wr (wr.alloc (.cells #[.int .i64 (x : Int)] 3)) := below_al (Below.refl _ _) _;have hown := own_one wr wr (Nat.le_refl _) x;have hsrc := idg_al hr (.cells #[.int .i64 (x : Int)] 3);have h1l : [x].length ≤ 1000000 := by simp
    have hnr2 : nr ≤ 1000000 := by omega
    go_wp2_with (at_builtin; refine wp_append24s rfl _ _ rfl rfl hown rfl hsrc h1l hnr2 hbal ?_; intro v1 w3 hown1 hb3);have hlrs : R.Lt24 ([x] ++ rs) := (R.Lt24.one hxl).append hr.lt;obtain ⟨g, c3, rfl, hgl, hd3⟩ := hown1.at_ hlrs (by simp);refine (rTrim _ _ _ _ _ hd3 (by have := hr.len; simp; omega)).mono ?_;rintro e w4 ⟨⟨m4, hm4, rfl, hz4, hn4⟩, rfl⟩;obtain ⟨ts, hts⟩ : ∃ ts, ts = ([x] ++ rs).take m4 := ⟨_, rfl⟩;have hdt := hd3.take hm4;have htt : R.Trim ts := by
     rw [hts];intro h0;rw [List.length_take, Nat.min_eq_left (by omega)] at h0 ⊢;obtain ⟨dd, hdd, hne⟩ := hn4 h0;exact ⟨dd, by rw [List.getElem?_take, if_pos (by omega)]; exact hdd, hne⟩
    have hvt : R.val ts = x + 16777216 * (R.val (us.drop (j + 1)) % V) := by
     rw [hts, R.val_trim hz4, ← HF.out.2.1]; rfl
    rw [← hts] at hdt;have hm4l : m4 ≤ 200000 := by have := hr.len; simp at hm4; omega
    have hUl : R.val ts < V * 16777216 := by
     rw [hvt];have := Nat.mod_lt (R.val (us.drop (j + 1))) hVp
     omega
    have hst := rdiv_step (R.val (us.drop (j + 1))) V x hVp;have hdj : R.val (us.drop j) = x + 16777216 * R.val (us.drop (j + 1)) := by rw [drop_cons HX.out]; rfl
    rw [← hdj, ← hvt, ← HF.out.2.2] at hst;have HST := Lib.hid hst;have HUL := Lib.hid hUl;clear hts hvt hst hdj hUl hz4 hn4 hm4 hd3 hown1 hown hsrc hlrs;have hbw3 := below_then hbw hb3;have hgne : g ≠ w2.heap.size := by
     have h1 := hbk.lt
     omega
    have hbk3 := hbk.belowK hb3;go_wp2_with fail;refine (rcmp _ _ _ ts _ _ _ vs _ hdt (k.below hbw3) (by omega) (by omega) htt htv).mono ?_;rintro e w5 ⟨⟨r, rfl, hr1, hr2, hr3⟩, hb5⟩;rw [HVV.out] at hr1 hr2 hr3;have HS := Lib.hid (And.intro hr1 (And.intro hr2 hr3));clear hr1 hr2 hr3;have hbw5 := below_then hbw3 hb5;have hbk5 := hbk3.belowK hb5;have hdt5 := hdt.below hb5
    by_cases hr0 : 0 ≤ r
    ·have HGE : Hid (V ≤ R.val ts) := Lib.hid (by
      rcases Nat.lt_or_ge (R.val ts) V with hh | hh
      ·have := HS.out.1 hh; omega
      ·exact hh)
     go_wp2_with fail;refine (rdigit _ _ _ ts _ _ _ vs _ hdt5 (k.below hbw5) htt (by omega) (by omega) (by rw [HVV.out]; exact HUL.out)).mono ?_;rintro e w6 ⟨rfl, hb6⟩;rw [HVV.out];obtain ⟨dd, hdd⟩ : ∃ dd, dd = R.val ts / V := ⟨_, rfl⟩;rw [← hdd];have hddl : dd < 16777216 := by rw [hdd]; exact Nat.div_lt_of_lt_mul HUL.out
     have hmle : V * dd ≤ R.val ts := by rw [hdd]; exact Nat.mul_div_le _ _
     have hmrest : R.val ts - V * dd = R.val ts % V := by
      have := Nat.div_add_mod (R.val ts) V;rw [← hdd] at this
      omega
     have HDD := Lib.hid hdd;have HML := Lib.hid hmle;have HMR := Lib.hid hmrest;clear hdd hmle hmrest;have hbw6 := below_then hbw5 hb6;have hbk6 := hbk5.belowK hb6;have hdt6 := hdt5.below hb6;have hc6 := hbk6.i64 (i := j) (d := 0) (by rw [List.getElem?_append_left (by simp), List.getElem?_replicate, if_pos (by omega)]);have hf6 := hbk6.frozen j;have hjn : (j : Int) < (n : Int) := by omega
     have hput := hbk6.put64 j dd;have hset : (List.replicate (j + 1) 0 ++ hs).set j dd = List.replicate j 0 ++ dd :: hs := by
      rw [List.replicate_succ', List.append_assoc, List.set_append_right _ _ (by simp)]
      simp
     rw [hset] at hput;clear hset;have hbw7 := below_set (p := ⟨w2.heap.size, j, none⟩) hbw6 (Nat.le_refl _) (.int .i64 (dd : Int));have hdt7 := idg_far hdt6 (p := ⟨w2.heap.size, j, none⟩) (fun b o e => by cases e; exact hgne) (.int .i64 (dd : Int));have hc7 := hput.i64 (i := j) (d := dd) (by rw [List.getElem?_append_right (by simp)]; simp);go_wp2_with fail;refine (rtimes _ _ _ vs dd _ (k.below hbw7) (by omega) hddl).mono ?_;rintro e w8 ⟨⟨A8, n8, c8, t8, rfl, hd8, ht8, hv8⟩, hb8⟩;rw [HVV.out] at hv8;have hn8 : n8 ≤ m4 := by
      rw [← hd8.len];refine ht8.len_le ?_;rw [hv8];refine Nat.lt_of_le_of_lt HML.out ?_;have := R.val_lt hdt.lt;rwa [hdt.len] at this
     have hle8 : R.val t8 ≤ R.val ts := by rw [hv8]; exact HML.out
     have HV8 := Lib.hid hv8;clear hv8;go_wp2_with fail;refine (rminus _ _ _ ts _ _ _ t8 _ (hdt7.below hb8) hd8 (by omega) hn8 hle8).mono ?_;rintro e w9 ⟨⟨A9, n9, c9, r9, rfl, hd9, ht9, hv9⟩, hb9⟩;rw [HV8.out, HMR.out] at hv9;have HV9 := Lib.hid hv9;clear hv9 hle8;go_wp2_with fail;go_roundw
     case rel =>
      refine ⟨j, dd :: hs, A9, n9, c9, r9, by omega, rfl, rfl, hd9, ht9, (R.Lt24.one hddl).append hlt, Lib.hid ⟨?_, ?_, ?_⟩, (hput.belowK hb8).belowK hb9, below_then (below_then hbw7 hb8) hb9⟩
      ·have := HF.out.1; simp; omega
      ·rw [HV9.out, HST.out.2]
      ·rw [HST.out.1, ← HDD.out]; rfl
     case measure => simp [intOf]
    ·have HGE : Hid (R.val ts < V) := Lib.hid (by
      rcases Nat.lt_trichotomy (R.val ts) V with hh | hh | hh
      ·exact hh
      ·have := HS.out.2.1 hh; omega
      ·have := HS.out.2.2 hh; omega)
     go_wp2_with fail;go_roundw
     case rel =>
      refine ⟨j, 0 :: hs, _, m4, c3, ts, by omega, rfl, rfl, hdt5, htt, (R.Lt24.one (by omega)).append hlt, Lib.hid ⟨?_, ?_, ?_⟩, ?_, hbw5⟩
      ·have := HF.out.1; simp; omega
      ·rw [HST.out.2, Nat.mod_eq_of_lt HGE.out]
      ·rw [HST.out.1, Nat.div_eq_of_lt HGE.out]; rfl
      ·have e : List.replicate (j + 1) 0 ++ hs = List.replicate j 0 ++ 0 :: hs := by rw [List.replicate_succ', List.append_assoc]; rfl
       rw [← e]; exact hbk5
     case measure => simp [intOf]
   ·obtain rfl : i = 0 := by omega
    rw [List.replicate_zero, List.nil_append] at hbk;have hdg := hbk.idg hlt (n := n) (c := n) (by rw [HF.out.1]; omega) (Nat.le_refl _);go_wp2_with fail;refine (rnumber _ _ _ _ _ hdg (by omega)).mono ?_;rintro e w4 ⟨rfl, hb4⟩;go_wp2_with fail;refine (rnumber _ _ _ _ _ (hr.below hb4) (by omega)).mono ?_;rintro e w5 ⟨rfl, hb5⟩;have h3 := HF.out.2;rw [List.drop_zero, HVU.out, HV.out] at h3;rw [h3.1, h3.2];go_wp2_with fail
    go_ret3
    exact ⟨by rw [HR.out]; rfl, below_then (below_then (below_then hb12 hbw) hb4) hb5⟩
theorem rQuo (a b : ByteArray) (w : World) (ha : a.size ≤ 100000) (hb : b.size ≤ 100000) :
 Calls Tryz.prog 168 #[.string a, .string b] w fun e w' => e = .returned (quoRes (sval a) (sval b)) ∧ Below w.heap.size w w' := by
 by_cases h0 : sval b = 0
 ·exact rQuo_zero a b w hb h0
 ·by_cases h : sval a < P8 7 ∧ sval b < P8 7
  ·exact rQuo_small a b w ha hb h0 h.1 h.2
  ·exact rQuo_big a b w ha hb h0 h
theorem rGcd (a b : ByteArray) (w : World) (ha : a.size ≤ 50000) (hb : b.size ≤ 50000) :
 Calls Tryz.prog 276 #[.string a, .string b] w fun e w' => e = .returned (.string (natS (Nat.gcd (sval a) (sval b)))) ∧ Below w.heap.size w w' := by
 obtain ⟨s, hs⟩ : ∃ s, s = natS (sval a) := ⟨_, rfl⟩;obtain ⟨t, ht⟩ : ∃ t, t = natS (sval b) := ⟨_, rfl⟩;have HA : Hid (∀ W, Calls Tryz.prog 167 #[.string a] W fun e w' => e = .returned (.string s) ∧ W = w') := Lib.hid (fun W => by rw [hs]; exact rCanon a W (by omega));have HB : Hid (∀ W, Calls Tryz.prog 167 #[.string b] W fun e w' => e = .returned (.string t) ∧ W = w') := Lib.hid (fun W => by rw [ht]; exact rCanon b W (by omega));have HS := Lib.hid hs;have HT := Lib.hid ht;clear hs ht;go_enter Tryz.func276, Tryz.ntmps276;go_wp2_with fail;refine (HA.out _).mono ?_;rintro e w' ⟨rfl, rfl⟩;go_wp2_with fail;refine (HB.out _).mono ?_;rintro e w' ⟨rfl, rfl⟩;go_wp2_with fail
 go_loopg [0, 1, 5, 6, 7] (sval b) (fun g s0 s1 _ _ _ wr => ∃ x y : Nat, s0 = .string (natS x) ∧ s1 = .string (natS y) ∧ g = y ∧ Hid (x < P8 50000 ∧ y < P8 50000 ∧ Nat.gcd x y = Nat.gcd (sval a) (sval b)) ∧ Below w.heap.size w wr)
 case atStart =>
  exact ⟨sval a, sval b, by rw [HS.out], by rw [HT.out], rfl, Lib.hid ⟨Nat.lt_of_lt_of_le (sval_lt a) (P8_mono ha), Nat.lt_of_lt_of_le (sval_lt b) (P8_mono hb), rfl⟩, Below.refl _ _⟩
 case round =>
  obtain ⟨x, y, rfl, rfl, hg, HF, hbw⟩ := hrel;have hxs : (natS x).size ≤ 50000 := natS_size HF.out.1;have hys : (natS y).size ≤ 50000 := natS_size HF.out.2.1
  by_cases hy0 : y = 0
  ·have hz : (natS y).size = 0 := natS_zero_size.2 hy0;have hgcd : x = Nat.gcd (sval a) (sval b) := by have := HF.out.2.2; rw [hy0, Nat.gcd_zero_right] at this; exact this
   have HG := Lib.hid hgcd;clear hgcd hy0 hg;have hz2 : (natS y).size ≤ 0 := by omega
   clear hz;go_wp2_with fail;go_ret;exact ⟨by rw [← HG.out]; rfl, hbw⟩
  ·have hpos : 0 < (natS y).size := by
    rcases Nat.eq_zero_or_pos (natS y).size with h | h
    ·exact absurd (natS_zero_size.1 h) hy0
    ·exact h
   have HQ : Hid (∀ W, Calls Tryz.prog 168 #[.string (natS x), .string (natS y)] W fun e w' => e = .returned (.tuple #[.string (natS (x / y)), .string (natS (x % y)), .bool true]) ∧ Below W.heap.size W w') := Lib.hid (fun W => by
    have := rQuo (natS x) (natS y) W (by omega) (by omega);unfold quoRes at this;rw [sval_natS, sval_natS, if_neg hy0] at this
    exact this)
   have HY := Lib.hid hy0;have HG := Lib.hid hg;clear hy0 hg;go_wp2_with fail;refine (HQ.out _).mono ?_;rintro e w1 ⟨rfl, hb1⟩;go_wp2_with fail
   go_roundg (x % y)
   case measure => rw [HG.out]; exact Nat.mod_lt _ (by have := HY.out; omega)
   case rel =>
    refine ⟨y, x % y, rfl, rfl, rfl, Lib.hid ⟨HF.out.2.1, Nat.lt_of_le_of_lt (Nat.mod_le _ _) HF.out.1, ?_⟩, below_then hbw hb1⟩;rw [← HF.out.2.2, Nat.gcd_comm y, ← Nat.gcd_rec, Nat.gcd_comm]
end Go.Proofs.YtkpinmejfdnhbaaGreatDoor
