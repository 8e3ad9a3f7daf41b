/- Joined by a program: LjB, LjC, LjD, LjE. -/
import Derived.Test.YtkpinmejfdnhbaaGreatDoorLwH
import Derived.Test.YtkpinmejfdnhbaaGreatDoorShelfTxt
import Derived.Shelf.Strings.Builder1
set_option maxRecDepth 100000
set_option maxHeartbeats 4000000
namespace Go.Proofs.YtkpinmejfdnhbaaGreatDoor
structure Ep where
 ms : List Mem
 ss : List Nat
 cf : List Nat
def hdrE (hs : List Hdr) (i : Nat) (e : Ep) : Hdr := ⟨(i : Int), e.ms, intsN (e.cf.map gP), pointsL 1 e.ms, linksL hs i⟩
theorem links_len (hs : List Hdr) (n : Nat) : (linksL hs n).length = bitsN n := by simp [linksL]
theorem links_get {hs : List Hdr} {n i : Nat} {h : Hdr} (hi : i < bitsN n) (hh : hs[n - 2 ^ i]? = some h) : (linksL hs n)[i]? = some (shaS (hdrL h)) := by
 unfold linksL;rw [List.getElem?_map, List.getElem?_range hi, Option.map_some, hh]
theorem links_app (hs gs : List Hdr) {n : Nat} (h : n ≤ hs.length) : linksL (hs ++ gs) n = linksL hs n := by
 unfold linksL;refine List.map_congr_left fun i hi => ?_;have h1 := List.mem_range.1 hi;have h2 := bits_le_iff.2 h1;have h3 := Nat.two_pow_pos i;rw [List.getElem?_append_left (by omega)]
theorem links_32 (hs : List Hdr) (n : Nat) (hn : n ≤ hs.length) : ∀ l ∈ linksL hs n, l.length = 32 := fun l hl => by
 obtain ⟨i, hi, rfl⟩ := List.mem_map.1 hl;have h1 := List.mem_range.1 hi;have h2 := bits_le_iff.2 h1;have h3 := Nat.two_pow_pos i;rw [List.getElem?_eq_getElem (show n - 2 ^ i < hs.length by omega)];exact sha_len _
structure ChainOK (K : Nat) (es : List Ep) (hs : List Hdr) : Prop where
 len : hs.length = es.length
 one : ∀ (i : Nat) (e : Ep), es[i]? = some e → hs[i]? = some (hdrE hs i e)
 grp : ∀ (i : Nat) (e : Ep), es[i]? = some e → GrpOK (1 + 10 * i) e.ms e.ss e.cf
 key : ∀ e ∈ es, e.cf.headD 0 = K
theorem ChainOK.nil (K : Nat) : ChainOK K [] [] := ⟨rfl, by simp, by simp, by simp⟩
theorem ChainOK.snoc {K : Nat} {es : List Ep} {hs : List Hdr} {e : Ep} (h : ChainOK K es hs) (hg : GrpOK (1 + 10 * es.length) e.ms e.ss e.cf) (hk : e.cf.headD 0 = K) : ChainOK K (es ++ [e]) (hs ++ [hdrE hs es.length e]) := by
 have hl0 := h.len;refine ⟨by simp [h.len], fun i x hx => ?_, fun i x hx => ?_, fun x hx => ?_⟩
 ·rcases Nat.lt_or_ge i es.length with hi | hi
  ·rw [List.getElem?_append_left hi] at hx;rw [List.getElem?_append_left (by omega), h.one i x hx];unfold hdrE;rw [links_app hs _ (by omega)]
  ·have hl := (List.getElem?_eq_some_iff.1 hx).1;rw [List.length_append, List.length_singleton] at hl;obtain rfl : i = es.length := by omega
   rw [List.getElem?_append_right (Nat.le_refl _), Nat.sub_self] at hx;obtain rfl : e = x := Option.some.inj hx;rw [List.getElem?_append_right (by omega), hl0, Nat.sub_self];show some _ = some _;unfold hdrE;rw [links_app hs _ (by omega)]
 ·rcases Nat.lt_or_ge i es.length with hi | hi
  ·rw [List.getElem?_append_left hi] at hx;exact h.grp i x hx
  ·have hl := (List.getElem?_eq_some_iff.1 hx).1;rw [List.length_append, List.length_singleton] at hl;obtain rfl : i = es.length := by omega
   rw [List.getElem?_append_right (Nat.le_refl _), Nat.sub_self] at hx;obtain rfl : e = x := Option.some.inj hx;exact hg
 ·rcases List.mem_append.1 hx with hx | hx
  ·exact h.key x hx
  ·obtain rfl := List.mem_singleton.1 hx;exact hk
theorem ChainOK.get {K : Nat} {es : List Ep} {hs : List Hdr} (h : ChainOK K es hs) {i : Nat} (hi : i < es.length) : ∃ e, es[i]? = some e ∧ e ∈ es ∧ hs[i]? = some (hdrE hs i e) ∧ GrpOK (1 + 10 * i) e.ms e.ss e.cf :=
 ⟨es[i], List.getElem?_eq_getElem hi, List.getElem_mem hi, h.one _ _ (List.getElem?_eq_getElem hi), h.grp _ _ (List.getElem?_eq_getElem hi)⟩
theorem hdr_right {first i : Nat} {hs : List Hdr} {e : Ep} (hg : GrpOK first e.ms e.ss e.cf) (hf : first ≤ 1000000) (hi : i ≤ 1000000000) : rightH (hdrE hs i e) = true := by
 obtain ⟨hR, -, -, hT⟩ := crew_right hg.crew hg.lo hg.hi hf;obtain ⟨-, h1, h2⟩ := totR_right hR;have hO : OldOK (totW e.ms).toNat e.ms e.cf := ⟨hR, by omega, hg.len, hg.lt⟩;unfold rightH hdrE;dsimp only;rw [rightM_iff.2 hR, hO.keys, links_len, decide_eq_true (show (0 : Int) ≤ (i : Int) by omega), decide_eq_true (show (i : Int) ≤ 1000000000 by omega), decide_eq_true rfl, decide_eq_true (by simp)]
 rfl
theorem cut10 : ∀ {a b x y : List UInt8}, (10 : UInt8) ∉ a → (10 : UInt8) ∉ b → a ++ 10 :: x = b ++ 10 :: y → a = b ∧ x = y
 | [], [], _, _, _, _, h => ⟨rfl, List.cons.inj h |>.2⟩
 | [], c :: b, _, _, _, hb, h => absurd (List.cons.inj h).1 (fun e => hb (e ▸ List.mem_cons_self ..))
 | c :: a, [], _, _, ha, _, h => absurd (List.cons.inj h).1 (fun e => ha (e ▸ List.mem_cons_self ..))
 | c :: a, d :: b, _, _, ha, hb, h => by
   obtain ⟨h1, h2⟩ := List.cons.inj h;obtain ⟨e1, e2⟩ := cut10 (fun m => ha (List.mem_cons_of_mem _ m)) (fun m => hb (List.mem_cons_of_mem _ m)) h2;exact ⟨by rw [h1, e1], e2⟩
theorem hdr_epoch {a b : Hdr} (h : hdrL a = hdrL b) : a.epoch = b.epoch := by
 unfold hdrL lineL numsL at h;simp only [List.flatMap_cons, List.flatMap_nil, List.append_nil, List.append_assoc] at h;have h2 := List.append_cancel_left h;have h3 := (List.cons.inj h2).2;simp only [List.cons_append, List.nil_append] at h3;exact decI_inj (cut10 (decI_no (by decide) (by decide) _) (decI_no (by decide) (by decide) _) h3).1
/-! ### votes -/
def bitN (b i : Nat) : Nat := b / 2 ^ i % 2
def vtE (e : Ep) (t : ByteArray) (wrong i : Nat) (m : Mem) : Vt :=
 ⟨m.id, t, ((signN ((e.ss.getD i 0 + bitN wrong i) % qG) t.data.toList).1 : Int), ((signN ((e.ss.getD i 0 + bitN wrong i) % qG) t.data.toList).2 : Int)⟩
def votesL (e : Ep) (t : ByteArray) (bits wrong : Nat) : Nat → List Vt
 | 0 => []
 | k + 1 => votesL e t bits wrong k ++ (match e.ms[k]? with
   | some m => if bitN bits k = 1 then [vtE e t wrong k m] else []
   | none => [])
theorem votes_yes {e : Ep} {t : ByteArray} {bits wrong k : Nat} {m : Mem} (hm : e.ms[k]? = some m) (hb : bitN bits k = 1) : votesL e t bits wrong (k + 1) = votesL e t bits wrong k ++ [vtE e t wrong k m] := by
 unfold votesL;rw [hm];dsimp only;rw [if_pos hb]
 cases k <;> rfl
theorem votes_no {e : Ep} {t : ByteArray} {bits wrong k : Nat} (hb : bitN bits k ≠ 1) : votesL e t bits wrong (k + 1) = votesL e t bits wrong k := by
 rw [votesL]
 cases hm : e.ms[k]? with
 | none => simp
 | some m => simp [hb]
theorem votes_mem {e : Ep} {t : ByteArray} {bits wrong i : Nat} {m : Mem} (hm : e.ms[i]? = some m) (hb : bitN bits i = 1) : ∀ {n : Nat}, i < n → vtE e t wrong i m ∈ votesL e t bits wrong n
 | 0, h => absurd h (by omega)
 | n + 1, h => by
   by_cases hi : i = n
   ·subst hi;rw [votes_yes hm hb];exact List.mem_append_right _ (List.mem_singleton.2 rfl)
   ·have := votes_mem (t := t) (wrong := wrong) hm hb (n := n) (by omega);rw [votesL];exact List.mem_append_left _ this
def votedI (ms : List Mem) (bits wrong i : Nat) : Int := match ms[i]? with
 | some m => if bitN bits i = 1 ∧ bitN wrong i = 0 then m.wt else 0
 | none => 0
theorem txt_beq (t : ByteArray) : (t == t) = true := by
 cases t
 exact beq_self_eq_true (α := Array UInt8) _
theorem sumI_le {f g : Nat → Int} : ∀ {n : Nat}, (∀ i, i < n → f i ≤ g i) → sumI f n ≤ sumI g n
 | 0, _ => Int.le_refl _
 | n + 1, h => by
   have h1 := sumI_le (n := n) fun i hi => h i (by omega);have h2 := h n (by omega);show sumI f n + f n ≤ sumI g n + g n
   omega
theorem voted_le {first : Nat} {e : Ep} {t : ByteArray} {bits wrong : Nat} (hg : GrpOK first e.ms e.ss e.cf) (hf : first ≤ 1000000) (vs : List Vt) :
 sumI (votedI e.ms bits wrong) e.ms.length ≤ weightI e.ms (votesL e t bits wrong e.ms.length ++ vs) t := by
 obtain ⟨hR, -, -, -⟩ := crew_right hg.crew hg.lo hg.hi hf;refine sumI_le fun i hi => ?_;have hm := List.getElem?_eq_getElem hi;obtain ⟨-, h1, h3, s, hs, hs1, hs2, hp⟩ := hg.crew.one i _ hm;unfold votedI addsI;rw [hm];dsimp only
 by_cases hb : bitN bits i = 1 ∧ bitN wrong i = 0
 ·rw [if_pos hb];have hok := hR.ok;have h4 := okB_le (show i + 1 ≤ e.ms.length by omega) hok;rw [okB_succ hm] at h4;simp only [Bool.and_eq_true] at h4;have h5 : (votesL e t bits wrong e.ms.length ++ vs).any (·.ok e.ms[i] t) = true := by
   rw [List.any_eq_true];refine ⟨vtE e t wrong i e.ms[i], List.mem_append_left _ (votes_mem hm hb.1 hi), ?_⟩;unfold Vt.ok vtE;have e1 : (e.ss.getD i 0 + bitN wrong i) % qG = s := by
    rw [hb.2, Nat.add_zero, List.getD_eq_getElem?_getD, hs, Option.getD_some, Nat.mod_eq_of_lt hs2]
   rw [e1, hp];have := ver_sign s hs2 t.data.toList
   simp [this, txt_beq]
  rw [if_pos (by simp [h4.2.1, h4.2.2, h5])];exact Int.le_refl _
 ·rw [if_neg hb]
  split
  ·omega
  ·exact Int.le_refl _
theorem sumI_wt : ∀ (ms : List Mem) (k : Nat), k ≤ ms.length → sumI (fun i => match ms[i]? with | some m => m.wt | none => 0) k = totW (ms.take k)
 | ms, 0, _ => by simp [sumI, totW]
 | ms, k + 1, h => by
   have hm := List.getElem?_eq_getElem (show k < ms.length by omega);rw [totW_take hm, ← sumI_wt ms k (by omega)];show sumI _ k + (match ms[k]? with | some m => m.wt | none => 0) = _;rw [hm]
theorem voted_all {first : Nat} {e : Ep} {t : ByteArray} {bits : Nat} (hg : GrpOK first e.ms e.ss e.cf) (hf : first ≤ 1000000) (hb : ∀ i, i < 4 → bitN bits i = 1) : 2 * totW e.ms < 3 * weightI e.ms (votesL e t bits 0 e.ms.length) t := by
 obtain ⟨hR, -, -, -⟩ := crew_right hg.crew hg.lo hg.hi hf;obtain ⟨-, h1, -⟩ := totR_right hR;have h2 := voted_le (t := t) (bits := bits) (wrong := 0) hg hf [];rw [List.append_nil] at h2;have h3 : sumI (votedI e.ms bits 0) e.ms.length = totW e.ms := by
  have h4 := sumI_wt e.ms e.ms.length (Nat.le_refl _);rw [List.take_of_length_le (Nat.le_refl _)] at h4;rw [← h4];refine sumI_congr fun i hi => ?_;have := hg.hi;unfold votedI;rw [List.getElem?_eq_getElem hi];dsimp only;rw [if_pos ⟨hb i (by omega), by simp [bitN]⟩]
 omega
end Go.Proofs.YtkpinmejfdnhbaaGreatDoor
namespace Go.Proofs.YtkpinmejfdnhbaaGreatDoor
open Go.RowKit Go.Shelf
attribute [local go_sem] Oper.semAt_some
def encH (h : List UInt8) : List Value := u8l ((h ++ zero32).take 32)
theorem encH_len (h : List UInt8) : (encH h).length = 32 := by
 unfold encH;rw [u8l_len, List.length_take, List.length_append, zero32_len]; omega
theorem encH_eq {h : List UInt8} (hl : h.length = 32) : encH h = u8l h := by
 unfold encH;rw [List.take_append_of_le_length (by omega), List.take_of_length_le (by omega)]
theorem encH_one (h : List UInt8) : ∀ u ∈ encH h, u.oneCell' = true := fun u hu => by
 unfold encH at hu;rw [← flat8] at hu;obtain ⟨b, -, hb⟩ := List.mem_flatMap.1 hu;exact enc8_one b u hb
abbrev OwnH (B : Nat) (w : World) (v : Value) (l : List (List UInt8)) : Prop := OwnL encH 38 32 B w v l
abbrev RowH (w : World) (A : Option Addr) (n c : Nat) (xs : List (List UInt8)) : Prop := Row encH 32 w A n c xs
theorem rowH_range {w : World} {A : Option Addr} {n c : Nat} {xs : List (List UInt8)} (h : RowH w A n c xs) {k : Nat} (hk : k < n) : ∃ b o x, A = some ⟨b, o, none⟩ ∧ xs[k]? = some x ∧ (x.length = 32 → w.rangeAt b (o + k * 32) (u8l x)) := by
 obtain ⟨b, o, e, hc⟩ := h.at_ (by omega);have hl : k < xs.length := by have := h.len; omega
 have hm : xs[k]? = some xs[k] := List.getElem?_eq_getElem hl;refine ⟨b, o, xs[k], e, hm, fun h32 j v hv => ?_⟩;rw [← encH_eq h32] at hv;exact hc k j _ v hm hv
structure Hc where
 e : Int
 m : Value
 c : Value
 p : Value
 l : Value
def encHd (x : Hc) : List Value := [.int .i64 x.e, x.m, x.c, x.p, x.l]
theorem encHd_len (x : Hc) : (encHd x).length = 5 := rfl
def hdrA (x : Hc) : Array Value := #[.int .i64 x.e, x.m, x.c, x.p, x.l]
structure HdrIn (w : World) (x : Hc) (h : Hdr) : Prop where
 e : x.e = h.epoch
 m : ∃ A c, x.m = .slice A h.mems.length c ∧ RowM w A h.mems.length c h.mems
 c : ∃ A c, x.c = .slice A h.commits.length c ∧ RowI w A h.commits.length c h.commits
 p : ∃ A c vs, x.p = .slice A h.points.length c ∧ RowV w A h.points.length c vs ∧ RowsI w vs h.points
 l : ∃ A c, x.l = .slice A h.links.length c ∧ RowH w A h.links.length c h.links
theorem HdrIn.below {w w' : World} {x : Hc} {h : Hdr} (hi : HdrIn w x h) (hb : Below w.heap.size w w') : HdrIn w' x h := by
 obtain ⟨h1, ⟨A, c, e2, h2⟩, ⟨A3, c3, e3, h3⟩, ⟨A4, c4, vs, e4, h4, h5⟩, ⟨A6, c6, e6, h6⟩⟩ := hi;exact ⟨h1, ⟨A, c, e2, h2.below hb⟩, ⟨A3, c3, e3, h3.below hb⟩, ⟨A4, c4, vs, e4, h4.below hb, h5.below hb⟩, ⟨A6, c6, e6, h6.below hb⟩⟩
structure HdrSm (h : Hdr) : Prop where
 e : I64 h.epoch
 m1 : h.mems.length ≤ 20
 m2 : I64M h.mems
 c1 : h.commits.length ≤ 100
 c2 : ∀ x ∈ h.commits, I64 x
 p1 : h.points.length ≤ 100
 p2 : ∀ l ∈ h.points, l.length ≤ 100
 p3 : ∀ l ∈ h.points, ∀ x ∈ l, I64 x
 l1 : h.links.length ≤ 64
 l2 : ∀ l ∈ h.links, l.length = 32
theorem numsL_len {xs : List Int} (h : ∀ x ∈ xs, I64 x) : (numsL xs).length ≤ 21 * xs.length := by
 induction xs with
 | nil => simp [numsL]
 | cons x xs ih =>
   have h1 := decI_len (h x (List.mem_cons_self ..));have h2 := ih fun y hy => h y (List.mem_cons_of_mem _ hy);unfold numsL at h2 ⊢;simp only [List.flatMap_cons, List.length_append, List.length_cons] at h2 ⊢
   omega
theorem lineL_len {word : List UInt8} {xs : List Int} (h : ∀ x ∈ xs, I64 x) : (lineL word xs).length ≤ word.length + 21 * xs.length + 1 := by
 have := numsL_len h;unfold lineL;rw [List.length_append, List.length_append, List.length_singleton]
 omega
theorem line_q (word : ByteArray) (A : Option Addr) (n c : Nat) (xs : List Int) (hw : word.size ≤ 100) (hn : n ≤ 1000) (hI : ∀ x ∈ xs, I64 x) (w : World) (hr : RowI w A n c xs) :
 Calls Tryz.prog 88 #[.string word, .slice A n c] w fun e w' => e = .returned (.string (strB (lineL word.data.toList xs))) ∧ Below w.heap.size w w' := by
 have hl := hr.len;have HR := Lib.hid hr;have HI := Lib.hid hI;have hB := Below.refl w.heap.size w;clear hr hI;go_enter Tryz.func88, Tryz.ntmps88;go_wp2_with fail
 go_loopw [0, 5] (fun s0 s5 wr => ∃ (i : Nat) (t : ByteArray), i ≤ n ∧ s5 = .int .i64 (i : Int) ∧ s0 = .string t ∧ t.size ≤ 100 + 21 * i ∧ Hid (t.data.toList = word.data.toList ++ numsL (xs.take i)) ∧ Below w.heap.size w wr) (fun _ s5 _ => n - (intOf s5).toNat)
 case atStart => exact ⟨0, word, by omega, rfl, rfl, by omega, Lib.hid (by simp [numsL]), hB⟩
 case round =>
  clear hB;obtain ⟨i, t, hi, rfl, rfl, ht, HT, hB⟩ := hrel
  by_cases hlt : i < n
  ·have hlt' : (i : Int) < (n : Int) := by omega
   obtain ⟨b, o, x, rfl, hx, c0⟩ := RowI.get (HR.out.below hB) hlt;have hxi := HI.out x (List.mem_of_getElem? hx);have m1 := Lib.hid (Decimal_q x hxi);have hd := decIS_size hxi;have hdl := decIS_list x;have HX : Hid (xs.take (i + 1) = xs.take i ++ [x]) := Lib.hid (by rw [List.take_add_one, hx]; rfl);generalize decIS x = d at *;obtain ⟨t2, ht2⟩ : ∃ t2 : ByteArray, (t ++ (⟨#[32]⟩ : ByteArray)) ++ d = t2 := ⟨_, rfl⟩;have z2 : t2.size = t.size + 1 + d.size := by rw [← ht2, ByteArray.size_append, ByteArray.size_append]; rfl
   have HT3 : Hid (t2.data.toList = word.data.toList ++ numsL (xs.take (i + 1))) := Lib.hid (by
    rw [HX.out, numsL_snoc, ← List.append_assoc, ← HT.out, ← ht2, ByteArray.data_append, ByteArray.data_append, Array.toList_append, Array.toList_append, hdl, List.append_assoc]; rfl)
   have n1 : (9223372036854775807 < t.size + 1) = False := by simp only [eq_iff_iff, iff_false]; omega
   have n2 : (9223372036854775807 < t.size + 1 + d.size) = False := by simp only [eq_iff_iff, iff_false]; omega
   have z3 : t2.size ≤ 100 + 21 * (i + 1) := by omega
   clear hx hdl z2;go_wp2_with (first | (go_at_call 48; (with_reducible refine (m1.out _).mono ?_); rintro e w1 ⟨rfl, hb⟩; replace hB := below_then hB hb; clear hb c0));go_roundw
   case rel => exact ⟨i + 1, t2, by omega, by go_num, (by first | rfl | (rw [← ht2])), z3, HT3, hB⟩
   case measure => simp [intOf]; omega
  ·obtain rfl : n = i := by omega
   have n1 : (9223372036854775807 < t.size + 1) = False := by simp only [eq_iff_iff, iff_false]; omega
   have HE : Hid (strB (lineL word.data.toList xs) = t ++ ⟨#[10]⟩) := Lib.hid (bytes_eq (by
    rw [strB_list, ByteArray.data_append, Array.toList_append, HT.out, List.take_of_length_le (by omega)]; rfl))
   go_wp2_with fail;go_ret;exact ⟨by rw [HE.out]; rfl, hB⟩
theorem alloc_drew {K : Act → World → Prop} {a : Act} {W : World} {cs : Array Value} {t : TypeId} (h : ∀ W' : World, Blk W' W.heap.size t cs → Below W.heap.size W W' → K a W') : K a (W.alloc (.cells cs t)).drew :=
 h _ (Blk.new _ _ _) (below_al (Below.refl _ _) _).drew
theorem hdr_size : (Tryz.prog.info? 46).map (·.size) = some 5 := by kernel_rfl
theorem flatMap_take {α : Type} (f : α → List UInt8) {l : List α} {i : Nat} {x : α} (h : l[i]? = some x) : (l.take (i + 1)).flatMap f = (l.take i).flatMap f ++ f x := by
 rw [List.take_add_one, h]; simp
theorem str_add {s t r : ByteArray} {a b : List UInt8} (hr : s ++ t = r) (hs : s.data.toList = a) (ht : t.data.toList = b) : r.data.toList = a ++ b := by
 rw [← hr, ByteArray.data_append, Array.toList_append, hs, ht]
theorem rowI_new {w : World} {g : Nat} {t : TypeId} {xs : List Int} {n : Nat} (hk : Blk w g t (xs.flatMap encI).toArray) (hl : xs.length = n) : RowI w (some ⟨g, 0, none⟩) n n xs := by
 refine ⟨hl, Nat.le_refl _, fun _ => ⟨g, 0, rfl, fun j k x u hx hu => ?_⟩⟩;have hk1 := (List.getElem?_eq_some_iff.1 hu).1;rw [encI_len] at hk1;have := flat_get (enc := encI) encI_len xs j k x hx hk1;rw [Nat.zero_add];exact (hk.cell _).trans (by rw [List.getElem?_toArray, this, hu])
theorem rHeaderText_q (x : Hc) (h : Hdr) (hs : HdrSm h) (w : World) (hi : HdrIn w x h) :
 Calls Tryz.prog 40 #[.agg (hdrA x)] w fun e w' => e = .returned (.string (strB (hdrL h))) ∧ Below w.heap.size w w' := by
 obtain ⟨xe, xm, xc, xp, xl⟩ := x;obtain ⟨h1, ⟨A2, c2, e2, h2⟩, ⟨A3, c3, e3, h3⟩, ⟨A4, c4, vs, e4, h4, h5⟩, ⟨A6, c6, e6, h6⟩⟩ := hi;obtain ⟨he, hm1, hm2, hc1, hc2, hp1, hp2, hp3, hl1, hl2⟩ := hs;obtain ⟨E, ms, cs, ps, ls⟩ := h;dsimp only at *;subst h1 e2 e3 e4 e6;obtain ⟨nm, hnm⟩ : ∃ n, n = ms.length := ⟨_, rfl⟩;obtain ⟨nc, hnc⟩ : ∃ n, n = cs.length := ⟨_, rfl⟩;obtain ⟨np, hnp⟩ : ∃ n, n = ps.length := ⟨_, rfl⟩;obtain ⟨nl, hnl⟩ : ∃ n, n = ls.length := ⟨_, rfl⟩;rw [← hnm] at h2 hm1 ⊢;rw [← hnc] at h3 hc1 ⊢;rw [← hnp] at h4 hp1 ⊢;rw [← hnl] at h6 hl1 ⊢;have HR := Lib.hid (And.intro h2 (And.intro h3 (And.intro h4 (And.intro h5 h6))));have HS := Lib.hid (And.intro hm2 (And.intro hc2 (And.intro hp2 (And.intro hp3 hl2))));have HN := Lib.hid (And.intro hnm (And.intro hnc (And.intro hnp hnl)));have hIe : ∀ y ∈ [xe], I64 y := fun y hy => by obtain rfl := List.mem_singleton.1 hy; exact he
 have p1 := Lib.hid (fun (A : Option Addr) W h => line_q ⟨#[104, 101, 97, 100, 101, 114]⟩ A 1 1 [xe] (by decide) (by omega) hIe W h);have hz1 := lineL_len (word := (⟨#[104, 101, 97, 100, 101, 114]⟩ : ByteArray).data.toList) hIe;have p4 := Lib.hid (fun W h => line_q ⟨#[107, 101, 121, 115]⟩ A3 nc c3 cs (by decide) (by omega) hc2 W h);have hz4 := lineL_len (word := (⟨#[107, 101, 121, 115]⟩ : ByteArray).data.toList) hc2;obtain ⟨s1, hs1⟩ : ∃ s, s = strB (lineL (⟨#[104, 101, 97, 100, 101, 114]⟩ : ByteArray).data.toList [xe]) := ⟨_, rfl⟩;obtain ⟨s4, hs4⟩ : ∃ s, s = strB (lineL (⟨#[107, 101, 121, 115]⟩ : ByteArray).data.toList cs) := ⟨_, rfl⟩;rw [← strB_size, ← hs1] at hz1;rw [← strB_size, ← hs4, ← hnc] at hz4;rw [← hs1] at p1;rw [← hs4] at p4;have z1 : s1.size ≤ 100 := by simp at hz1; omega
 have z4 : s4.size ≤ 3000 := by simp at hz4; omega
 have L1 : Hid (s1.data.toList = lineL wHeader [xe]) := Lib.hid (by rw [hs1, strB_list]; rfl);have L4 : Hid (s4.data.toList = lineL wKeys cs) := Lib.hid (by rw [hs4, strB_list]; rfl);clear h2 h3 h4 h5 h6 hm2 hc2 hp2 hp3 hl2 hnm hnc hnp hnl he hIe hz1 hz4 hs1 hs4;unfold hdrA;go_enter Tryz.func40, Tryz.ntmps40;go_upto_region 1 with fail;refine name1p ?_;intro W0 k1 hB;obtain ⟨g, hg⟩ := exq w.heap.size;have hgB : w.heap.size ≤ g := Nat.le_of_eq hg.symm;rw [← hg] at k1 ⊢;clear hg;have a0 : W0.cell? ⟨g, 0, none⟩ = some (.int .i64 xe) := k1.cell 0;go_wp2_with (go_at_call 88; have hzz := p1.out _ _ (rowI_new (xs := [xe]) (Blk.new W0 3 #[.int .i64 xe]) rfl); (refine hzz.mono ?_); clear hzz; rintro e w1 ⟨rfl, hb⟩; replace hb := below_then (below_al (Below.refl _ _) _) hb; replace k1 := k1.below hb k1.lt; replace hB := below_then hB hb; clear hb a0)
 go_loopw [3, 4] (fun s3 s4 wr => ∃ (i : Nat) (t : ByteArray), i ≤ nm ∧ s4 = .int .i64 (i : Int) ∧ s3 = .string t ∧ t.size ≤ 100 + 100 * i ∧ Hid (t.data.toList = lineL wHeader [xe] ++ (ms.take i).flatMap memL) ∧ Blk wr g 46 #[.int .i64 xe, .slice A2 nm c2, .slice A3 nc c3, .slice A4 np c4, .slice A6 nl c6] ∧ Below w.heap.size w wr) (fun _ s4 _ => nm - (intOf s4).toNat)
 case atStart => exact ⟨0, s1, by omega, rfl, rfl, by omega, Lib.hid (by rw [List.take_zero]; simpa using L1.out), k1, hB⟩
 case round =>
  clear k1 hB;obtain ⟨i, t, hi, rfl, rfl, ht, HT, k1, hB⟩ := hrel;have a1 : wr.cell? ⟨g, 1, none⟩ = some (.slice A2 nm c2) := k1.cell 1
  by_cases hlt : i < nm
  ·have hlt' : (i : Int) < (nm : Int) := by omega
   have hBd := hB.drew;obtain ⟨b, o, m, rfl, hm, d0, d1, d2⟩ := RowM.get (HR.out.1.below hBd) hlt;have hmi := HS.out.1 m (List.mem_of_getElem? hm);have hIm : ∀ y ∈ [m.id, m.wt, m.pub], I64 y := fun y hy => by
    simp only [List.mem_cons, List.not_mem_nil, or_false] at hy
    rcases hy with rfl | rfl | rfl
    ·exact hmi.1
    ·exact hmi.2.1
    ·exact hmi.2.2
   have p5 := Lib.hid (fun (A : Option Addr) W h => line_q ⟨#[109, 101, 109, 98, 101, 114]⟩ A 3 3 [m.id, m.wt, m.pub] (by decide) (by omega) hIm W h);have hz5 := lineL_len (word := (⟨#[109, 101, 109, 98, 101, 114]⟩ : ByteArray).data.toList) hIm;obtain ⟨s5, hs5⟩ : ∃ s, s = strB (lineL (⟨#[109, 101, 109, 98, 101, 114]⟩ : ByteArray).data.toList [m.id, m.wt, m.pub]) := ⟨_, rfl⟩;rw [← strB_size, ← hs5] at hz5;rw [← hs5] at p5;have z5 : s5.size ≤ 100 := by simp at hz5; omega
   obtain ⟨t5, ht5⟩ : ∃ t5 : ByteArray, t ++ s5 = t5 := ⟨_, rfl⟩
   have L5 : Hid (t5.data.toList = lineL wHeader [xe] ++ (ms.take (i + 1)).flatMap memL) := Lib.hid (by
    rw [flatMap_take memL hm, ← List.append_assoc]
    exact str_add ht5 HT.out (by rw [hs5, strB_list]; rfl))
   have z6 : t5.size = t.size + s5.size := by rw [← ht5, ByteArray.size_append]
   have n1 : (9223372036854775807 < t.size + s5.size) = False := by simp only [eq_iff_iff, iff_false]; omega
   have k1d : Blk wr.drew g 46 #[.int .i64 xe, .slice (some ⟨b, o, none⟩) nm c2, .slice A3 nc c3, .slice A4 np c4, .slice A6 nl c6] := k1;have a1d : wr.drew.cell? ⟨g, 1, none⟩ = some (.slice (some ⟨b, o, none⟩) nm c2) := k1d.cell 1;clear hm hmi hIm hz5 hs5;go_upto_region 5 with fail;refine region_here (fun Z => Z.cell? ⟨g, 1, none⟩ = some (.slice (some ⟨b, o, none⟩) nm c2) ∧ Z.cell? ⟨b, o + i * 3, none⟩ = some (.int .i64 m.id) ∧ Z.cell? ⟨b, o + i * 3 + 1, none⟩ = some (.int .i64 m.wt) ∧ Z.cell? ⟨b, o + i * 3 + 2, none⟩ = some (.int .i64 m.pub)) 22 (by kernel_rfl) ⟨a1d, d0, d1, d2⟩ (fun hHeld => ?_);refine tkT 0 rfl ?_;refine tkT 1 rfl ?_;refine tkT 2 rfl ?_;refine tkT 3 rfl ?_;refine tkT 4 rfl ?_;refine tkT 5 rfl ?_;refine tkT 6 rfl ?_;refine tkT 7 rfl ?_;refine tkT 8 rfl ?_;refine tkT 9 rfl ?_;refine tkT 10 rfl ?_;refine tkT 11 rfl ?_;refine tkT 12 rfl ?_;refine tkT 13 rfl ?_;refine tkT 14 rfl ?_;refine tkT 15 rfl ?_;refine tkT 16 rfl ?_;refine tkT 17 rfl ?_;refine tkT 18 rfl ?_;refine tkO 19 rfl fun K hK => ?_;go_simp;refine alloc_drew ?_;intro wz kz hbz;refine hK.out _ _ ?_ (fun hHeld19 => ?_)
   ·exact ⟨cell_b hbz hHeld.1, cell_b hbz hHeld.2.1, cell_b hbz hHeld.2.2.1, cell_b hbz hHeld.2.2.2⟩
   clear hK K
   try simp only [Act.put, pq1, pq2, pq3]
   refine tkO 20 rfl fun K hK => ?_;go_simp;go_at_call 88;refine (p5.out _ _ (rowI_new (xs := [m.id, m.wt, m.pub]) kz rfl)).mono ?_;rintro e wa ⟨rfl, hba⟩
   (try go_wp2_with fail)
   refine hK.out _ _ ?_ (fun hHeld20 => ?_)
   ·exact ⟨cell_b hba hHeld19.1, cell_b hba hHeld19.2.1, cell_b hba hHeld19.2.2.1, cell_b hba hHeld19.2.2.2⟩
   clear hK K
   try simp only [Act.put, pq1, pq2, pq3]
   refine tkT 21 rfl ?_;refine tkK 22 rfl fun K hK => ?_;go_simp;refine hK.out _ _ ?_;clear hK K
   try simp only [Act.put, pq1, pq2, pq3]
   refine tkD ?_;have hb2 := below_then hbz hba;have k2 := k1.below hb2 k1.lt;have hB2 := below_then hB hb2;go_wp2_with fail;go_roundw
   case rel => exact ⟨i + 1, t5, by omega, by go_num, (by first | rfl | (rw [← ht5])), by omega, L5, k2, hB2⟩
   case measure => simp [intOf]; omega
  ·obtain rfl : nm = i := by omega
   have hHT : Hid (t.data.toList = lineL wHeader [xe] ++ ms.flatMap memL) := Lib.hid (by rw [HT.out, List.take_of_length_le (by have := HN.out.1; omega)]);clear HT;go_wp2_with fail;clear a1
   go_loopw [3, 5] (fun s3 s5 wr => ∃ (i : Nat) (u : ByteArray), i ≤ np ∧ s5 = .int .i64 (i : Int) ∧ s3 = .string u ∧ u.size ≤ 3000 + 3000 * i ∧ Hid (u.data.toList = lineL wHeader [xe] ++ (ms.flatMap memL ++ (ps.take i).flatMap (lineL wPoints))) ∧ Blk wr g 46 #[.int .i64 xe, .slice A2 nm c2, .slice A3 nc c3, .slice A4 np c4, .slice A6 nl c6] ∧ Below w.heap.size w wr) (fun _ s5 _ => np - (intOf s5).toNat)
   case atStart => exact ⟨0, t, by omega, rfl, rfl, by omega, Lib.hid (by rw [List.take_zero, hHT.out]; simp), k1, hB⟩
   case round =>
    clear k1 hB hHT ht;obtain ⟨i, u, hi, rfl, rfl, hu, HU, k1, hB⟩ := hrel;have a2 : wr.cell? ⟨g, 3, none⟩ = some (.slice A4 np c4) := k1.cell 3
    by_cases hlt : i < np
    ·have hlt' : (i : Int) < (np : Int) := by omega
     obtain ⟨b, o, v, rfl, hv, cv⟩ := RowV.get (HR.out.2.2.1.below hB) hlt;have hil : i < ps.length := by have := HN.out.2.2.1; omega
     have hls : ps[i]? = some ps[i] := List.getElem?_eq_getElem hil;obtain ⟨A7, c7, rfl, hr7⟩ := (HR.out.2.2.2.1.below hB).one i v _ hv hls;have hmem := List.getElem_mem hil;have h71 := HS.out.2.2.1 _ hmem;have h72 := HS.out.2.2.2.1 _ hmem;have HX := Lib.hid hls;generalize ps[i] = l at *;obtain ⟨n7, hn7⟩ : ∃ n, n = l.length := ⟨_, rfl⟩;rw [← hn7] at hr7 cv h71;have p5 := Lib.hid (fun W h => line_q ⟨#[112, 111, 105, 110, 116, 115]⟩ A7 n7 c7 l (by decide) (by omega) h72 W h);have hz5 := lineL_len (word := (⟨#[112, 111, 105, 110, 116, 115]⟩ : ByteArray).data.toList) h72;obtain ⟨s5, hs5⟩ : ∃ s, s = strB (lineL (⟨#[112, 111, 105, 110, 116, 115]⟩ : ByteArray).data.toList l) := ⟨_, rfl⟩;rw [← strB_size, ← hs5, ← hn7] at hz5;rw [← hs5] at p5;have z5 : s5.size ≤ 3000 := by simp at hz5; omega
     obtain ⟨t5, ht5⟩ : ∃ t5 : ByteArray, u ++ s5 = t5 := ⟨_, rfl⟩
     have L5 : Hid (t5.data.toList = lineL wHeader [xe] ++ (ms.flatMap memL ++ (ps.take (i + 1)).flatMap (lineL wPoints))) := Lib.hid (by
      rw [flatMap_take (lineL wPoints) HX.out, ← List.append_assoc (ms.flatMap memL), ← List.append_assoc (lineL wHeader [xe])]
      exact str_add ht5 HU.out (by rw [hs5, strB_list]; rfl))
     have z6 : t5.size = u.size + s5.size := by rw [← ht5, ByteArray.size_append]
     have n1 : (9223372036854775807 < u.size + s5.size) = False := by simp only [eq_iff_iff, iff_false]; omega
     have HR7 := Lib.hid hr7;clear hv hls hmem h72 hn7 hz5 hs5 hr7;go_wp2_with (go_at_call 88; (with_reducible refine (p5.out _ HR7.out).mono ?_); rintro e w2 ⟨rfl, hb⟩; replace k1 := k1.below hb k1.lt; replace hB := below_then hB hb; clear hb cv a2 HR7);go_roundw
     case rel => exact ⟨i + 1, t5, by omega, by go_num, (by first | rfl | (rw [← ht5])), by omega, L5, k1, hB⟩
     case measure => simp [intOf]; omega
    ·obtain rfl : np = i := by omega
     have hHU : Hid (u.data.toList = lineL wHeader [xe] ++ (ms.flatMap memL ++ ps.flatMap (lineL wPoints))) := Lib.hid (by rw [HU.out, List.take_of_length_le (by have := HN.out.2.2.1; omega)]);clear HU;have a3 : wr.cell? ⟨g, 2, none⟩ = some (.slice A3 nc c3) := k1.cell 2;obtain ⟨t5, ht5⟩ : ∃ t5 : ByteArray, u ++ s4 = t5 := ⟨_, rfl⟩;have z6 : t5.size = u.size + s4.size := by rw [← ht5, ByteArray.size_append]
     have n1 : (9223372036854775807 < u.size + s4.size) = False := by simp only [eq_iff_iff, iff_false]; omega
     have L5 : Hid (t5.data.toList = (lineL wHeader [xe] ++ (ms.flatMap memL ++ ps.flatMap (lineL wPoints))) ++ lineL wKeys cs) := Lib.hid (str_add ht5 hHU.out L4.out);go_wp2_with (go_at_call 88; (with_reducible refine (p4.out _ (HR.out.2.1.below hB)).mono ?_); rintro e w2 ⟨rfl, hb⟩; replace k1 := k1.below hb k1.lt; replace hB := below_then hB hb; clear hb a3 a2);clear hHU p1 p4
     go_loopw [3, 6] (fun s3 s6 wr => ∃ (i : Nat) (u : ByteArray), i ≤ nl ∧ s6 = .int .i64 (i : Int) ∧ s3 = .string u ∧ u.size ≤ 400000 + 100 * i ∧ Hid (u.data.toList = (lineL wHeader [xe] ++ (ms.flatMap memL ++ ps.flatMap (lineL wPoints))) ++ lineL wKeys cs ++ (ls.take i).flatMap linkL) ∧ Blk wr g 46 #[.int .i64 xe, .slice A2 nm c2, .slice A3 nc c3, .slice A4 np c4, .slice A6 nl c6] ∧ Below w.heap.size w wr) (fun _ s6 _ => nl - (intOf s6).toNat)
     case atStart => exact ⟨0, t5, by omega, rfl, (by first | rfl | (rw [← ht5])), by omega, Lib.hid (by rw [List.take_zero, L5.out]; simp), k1, hB⟩
     case round =>
      clear k1 hB L5 hu n1 z6 ht5;obtain ⟨i, t, hi, rfl, rfl, ht, HT, k1, hB⟩ := hrel;have a4 : wr.cell? ⟨g, 4, none⟩ = some (.slice A6 nl c6) := k1.cell 4
      by_cases hlt : i < nl
      ·have hlt' : (i : Int) < (nl : Int) := by omega
       obtain ⟨b, o, x, rfl, hx, hrg⟩ := rowH_range (HR.out.2.2.2.2.below hB) hlt;have hx32 := HS.out.2.2.2.2 x (List.mem_of_getElem? hx);replace hrg := hrg hx32;have p5 : Hid (Ret 71 #[.agg (u8l x).toArray] (.string (strB (hexL x)))) := Lib.hid (rText_h x hx32);have hz5 : (strB (hexL x)).size = 64 := by rw [strB_size, hexL_len, hx32]
       have HX := Lib.hid hx32;obtain ⟨s5, hs5⟩ : ∃ s, s = strB (hexL x) := ⟨_, rfl⟩;rw [← hs5] at hz5 p5;obtain ⟨t5, ht5⟩ : ∃ t5 : ByteArray, ((t ++ (⟨#[108, 105, 110, 107, 32]⟩ : ByteArray)) ++ s5) ++ (⟨#[10]⟩ : ByteArray) = t5 := ⟨_, rfl⟩;have z6 : t5.size = t.size + 5 + s5.size + 1 := by rw [← ht5, ByteArray.size_append, ByteArray.size_append, ByteArray.size_append]; rfl
       have n1 : (9223372036854775807 < t.size + 5) = False := by simp only [eq_iff_iff, iff_false]; omega
       have n2 : (9223372036854775807 < t.size + 5 + s5.size) = False := by simp only [eq_iff_iff, iff_false]; omega
       have n3 : (9223372036854775807 < t.size + 5 + s5.size + 1) = False := by simp only [eq_iff_iff, iff_false]; omega
       have L5 : Hid (t5.data.toList = (lineL wHeader [xe] ++ (ms.flatMap memL ++ ps.flatMap (lineL wPoints))) ++ lineL wKeys cs ++ (ls.take (i + 1)).flatMap linkL) := Lib.hid (by
        rw [flatMap_take linkL hx, ← List.append_assoc, ← HT.out, ← ht5];simp only [ByteArray.data_append, Array.toList_append, hs5, strB_list, List.append_assoc]
        rfl)
       clear hx hs5
       go_wp2_with (first
        | (refine wpList_load_mid rfl 38 _ rfl b (o + i * 32) rfl (u8l x) _ hrg Tryz.underlying38 rfl (by rw [u8l_len, HX.out]; exact hash_size) ?_)
        | (go_at_call 71; (with_reducible refine (p5.out _).mono ?_); rintro e w2 ⟨rfl, hb⟩; replace k1 := k1.below hb k1.lt; replace hB := below_then hB hb; clear hb a4 hrg))
       go_roundw
       case rel => exact ⟨i + 1, t5, by omega, by go_num, (by first | rfl | (rw [← ht5])), by omega, L5, k1, hB⟩
       case measure => simp [intOf]; omega
      ·obtain rfl : nl = i := by omega
       have hE : Hid (strB (hdrL ⟨xe, ms, cs, ps, ls⟩) = t) := Lib.hid (bytes_eq (by
        rw [strB_list, HT.out, List.take_of_length_le (by have := HN.out.2.2.2; omega)];unfold hdrL
        simp only [List.append_assoc]))
       go_wp2_with fail;go_ret;exact ⟨by rw [hE.out]; rfl, hB⟩
end Go.Proofs.YtkpinmejfdnhbaaGreatDoor
namespace Go.Proofs.YtkpinmejfdnhbaaGreatDoor
open Go.RowKit
attribute [local go_sem] Oper.semAt_some
def IntK (w w' : World) : Prop := ∀ (k : Nat) (cs : Array Value), Blk w k 3 cs → Blk w' k 3 cs
theorem IntK.refl (w : World) : IntK w w := fun _ _ h => h
theorem IntK.trans {a b c : World} (h : IntK a b) (k : IntK b c) : IntK a c := fun i cs x => k i cs (h i cs x)
theorem IntK.below {w w' : World} (hb : Below w.heap.size w w') : IntK w w' := fun _ _ h => h.below hb h.lt
theorem IntK.set {w : World} {b : Nat} {cur : Array Value} {t : TypeId} {fz : Nat × Nat} (hb : w.heap[b]? = some (.cells cur t fz)) (hne : t ≠ 3) (i : Nat) (v : Value) : IntK w (w.setCell ⟨b, i, none⟩ v) := fun k cs h => by
 have hk : b ≠ k := fun e => by
  subst e;have := Option.some.inj (hb.symm.trans h);simp only [Obj.cells.injEq] at this;exact hne this.2.1
 exact (RowKit.Below.heap_setCell _ _ _ _ (fun e => hk e.symm)).trans h
theorem IntK.grown {w w' : World} {e : TypeId} {B : Nat} {v : Value} {n : Nat} {bs : List Value} (h : w.grownBy w' v.ownBlock) (ho : w.ownsRow B e 1 v n bs) (hne : e ≠ 3) : IntK w w' := fun k cs hk => by
 refine (h.block k hk.lt (fun ek => ?_)).trans hk
 rcases ho.2 with ⟨rfl, _⟩ | ⟨g, cap, cur, rfl, _, hh, _⟩
 ·simp [Value.ownBlock] at ek
 ·simp only [Value.ownBlock, Option.some.injEq] at ek;subst ek;have := Option.some.inj ((show w.heap[k]? = _ from hk).symm.trans hh);simp only [Obj.cells.injEq] at this;exact hne this.2.1.symm
abbrev IsB (B b : Nat) (bs : List Value) (w : World) : Prop := Lib.IsBuilder 118 5 B b bs w
theorem bstr_any (B b : Nat) (l : List UInt8) (w : World) (h : IsB B b (Lib.byteCells l) w) (hBw : B ≤ w.heap.size) :
 Calls Tryz.prog 60 #[.pointer (some ⟨b, 0, none⟩)] w fun e w' => e = .returned (.string ⟨l.toArray⟩) ∧ Below B w w' :=
 Any.Builder_String_any (ρ := Tryz.lays105_ren) { Tryz.lays105 with } Tryz.Builder_Extra_105 B b l w h hBw
theorem check_k (B b : Nat) (bs : List Value) (w : World) (h : IsB B b bs w) :
 Calls Tryz.prog 117 #[.pointer (some ⟨b, 0, none⟩)] w fun e w' => e = .returned (.tuple #[]) ∧ Lib.BuilderAt 118 5 B b (.pointer (some ⟨b, 0, none⟩)) bs w' ∧ Below B w w' ∧ IntK w w' := by
 rcases h with h | h
 ·refine (Any.Builder_copyCheck_fresh (ρ := Tryz.lays105_ren) { Tryz.lays105 with } Tryz.Builder_Extra_105.toX72 b w h.cell0 h.shape h.frozen0).mono ?_;rintro e w' ⟨rfl, rfl⟩;obtain ⟨hB, v, hb, -⟩ := id h;exact ⟨rfl, h.used _, (Below.refl B w).setCell (p := ⟨b, 0, none⟩) hB _, IntK.set hb (by decide) _ _⟩
 ·refine (Any.Builder_copyCheck_used (ρ := Tryz.lays105_ren) { Tryz.lays105 with } Tryz.Builder_Extra_105.toX72 b w h.cell0).mono ?_;rintro e w' ⟨rfl, rfl⟩;exact ⟨rfl, h, Below.refl B _, IntK.refl _⟩
theorem atB_below {T e : TypeId} {B b : Nat} {p : Value} {bs : List Value} {W W' : World} (h : Lib.BuilderAt T e B b p bs W) (hb : Below W.heap.size W W') : Lib.BuilderAt T e B b p bs W' := by
 have hlt := h.lt;obtain ⟨hB, v, hv, hown, hne⟩ := h;exact ⟨hB, v, (hb.block b hlt).trans hv, hown.kept (row := none) ⟨hb.os, hb.tape, hb.output, hb.size, fun k hk _ => hb.block k hk⟩ (Classical.em _), hne⟩
theorem isB_below {B b : Nat} {bs : List Value} {W W' : World} (h : IsB B b bs W) (hb : Below W.heap.size W W') : IsB B b bs W' :=
 h.elim (fun x => .inl (atB_below x hb)) (fun x => .inr (atB_below x hb))
theorem isB_new (w : World) : IsB w.heap.size w.heap.size [] (w.alloc (.cells #[.pointer none, .slice none 0 0] 118)) :=
 .inl ⟨Nat.le_refl _, .slice none 0 0, Blk.new _ _ _, ⟨rfl, .inl ⟨rfl, rfl⟩⟩, by simp [Value.ownBlock]⟩
theorem ws_k (B b : Nat) (bs : List Value) (s : ByteArray) (w : World) (h : IsB B b bs w) (hlen : bs.length + s.size ≤ 140737488355328) (hBw : B ≤ w.heap.size) :
 Calls Tryz.prog 56 #[.pointer (some ⟨b, 0, none⟩), .string s] w fun e w' => e = .returned (.tuple #[.int .i64 s.size, .nilIface]) ∧ IsB B b (bs ++ Lib.strCells s) w' ∧ Below B w w' ∧ IntK w w' := by
 obtain ⟨i0, hi, hz0, hz1, hz2⟩ := info_parts (P := Tryz.prog) info_u8;go_enter Tryz.func56, Tryz.ntmps56;go_wp2_with (go_at_call 117; refine (check_k B b bs _ h).mono ?_);rintro e w1 ⟨rfl, ⟨hB, v, hbk, hown, hne⟩, hb1, hk1⟩;have c0 : w1.cell? ⟨b, 0, none⟩ = some (.pointer (some ⟨b, 0, none⟩)) := by rw [Lib.cell_of_heap hbk]; rfl
 have c1 : w1.cell? ⟨b, 1, none⟩ = some v := by rw [Lib.cell_of_heap hbk]; rfl
 go_wp2_with (at_builtin; refine Lib.wpList_append_own_string _ rfl _ _ 116 9 rfl B 5 i0 Tryz.underlying116 Tryz.underlying9 hi hz0 hz1 hz2 _ _ _ rfl hown s rfl ?c3 ?c4 ?c5 ?_)
 case c3 => unfold maxLen; omega
 case c4 => omega
 case c5 => have := hb1.size; omega
 intro v' w2 hown' hgrow _;have hlt : b < w1.heap.size := by
  rcases Nat.lt_or_ge b w1.heap.size with h' | h'
  ·exact h'
  ·simp [Array.getElem?_eq_none h'] at hbk
 have hb2 : w2.heap[b]? = some (.cells #[.pointer (some ⟨b, 0, none⟩), v] 118 (0, 0)) := by
  rw [hgrow.block b hlt (fun e => hne e.symm)];exact hbk
 have hk2 := hk1.trans (IntK.grown hgrow hown (by decide));have d0 : w2.cell? ⟨b, 0, none⟩ = some (.pointer (some ⟨b, 0, none⟩)) := by rw [Lib.cell_of_heap hb2]; rfl
 have d1 : w2.cell? ⟨b, 1, none⟩ = some v := by rw [Lib.cell_of_heap hb2]; rfl
 have f1 : w2.frozen? ⟨b, 1, none⟩ = false := Lib.frozen_of_heap hb2 1;obtain ⟨ao, n', cap, rfl⟩ : ∃ ao n' cap, v' = .slice ao n' cap := by
  rcases hown'.2 with ⟨hv, _⟩ | ⟨g, cap, cur, hv, _⟩
  ·exact ⟨_, _, _, hv⟩
  ·exact ⟨_, _, _, hv⟩
 go_wp2_with fail;go_ret2;refine ⟨rfl, .inr ?_, ?_, hk2.trans (IntK.set hb2 (by decide) _ _)⟩
 ·exact Lib.BuilderAt.put (T := 118) (e := 5) hB hb2 (bs' := bs ++ Lib.strCells s) (by simpa [Lib.strCells_length] using hown') (by decide)
 ·exact (hb1.grown hgrow (by have := hb1.size; omega) (fun k hk => (hown.lt k hk).1)).setCell (p := ⟨b, 1, none⟩) hB _
theorem wb_k (B b : Nat) (bs : List Value) (c : Int) (w : World) (h : IsB B b bs w) (hlen : bs.length + 1 ≤ 140737488355328) (hBw : B ≤ w.heap.size) :
 Calls Tryz.prog 58 #[.pointer (some ⟨b, 0, none⟩), .int .u8 c] w fun e w' => e = .returned .nilIface ∧ IsB B b (bs ++ [.int .u8 c]) w' ∧ Below B w w' ∧ IntK w w' := by
 obtain ⟨i0, hi, hz0, hz1, hz2⟩ := info_parts (P := Tryz.prog) info_u8;go_enter Tryz.func58, Tryz.ntmps58;go_wp2_with (go_at_call 117; refine (check_k B b bs _ h).mono ?_);rintro e w1 ⟨rfl, ⟨hB, v, hbk, hown, hne⟩, hb1, hk1⟩;have c0 : w1.cell? ⟨b, 0, none⟩ = some (.pointer (some ⟨b, 0, none⟩)) := by rw [Lib.cell_of_heap hbk]; rfl
 have c1 : w1.cell? ⟨b, 1, none⟩ = some v := by rw [Lib.cell_of_heap hbk]; rfl
 go_wp2_with (at_builtin; refine wpList_append_own _ rfl _ _ 116 rfl B 5 i0 (.int .u8 0) 1 1 Tryz.underlying116 hi hz0 hz1 hz2 rfl (by decide) _ _ _ rfl (hown.alloc _) ⟨w1.heap.size, 0, none⟩ 1 1 [.int .u8 c] rfl rfl ?c1 ?c2 ?c3 ?c4 ?c5 ?_)
 case c1 =>
  intro j u hj
  match j, hj with
  | 0, hj => simp at hj; subst hj; simp [Addr.add]
 case c2 => intro u hu; simp at hu; subst hu; rfl
 case c3 => unfold maxLen; omega
 case c4 => omega
 case c5 => have := hb1.size; simp; omega
 intro v' w2 hown' hgrow _;have hlt : b < w1.heap.size := by
  rcases Nat.lt_or_ge b w1.heap.size with h' | h'
  ·exact h'
  ·simp [Array.getElem?_eq_none h'] at hbk
 have hb2 : w2.heap[b]? = some (.cells #[.pointer (some ⟨b, 0, none⟩), v] 118 (0, 0)) := by
  rw [hgrow.block b (by simp; omega) (fun e => hne e.symm), Lib.alloc_old w1 _ b hlt];exact hbk
 have hk2 := (hk1.trans (IntK.below ((Below.refl _ _).alloc (Nat.le_refl _) (.cells #[.int .u8 c] 5)))).trans (IntK.grown hgrow (hown.alloc _) (by decide));have d0 : w2.cell? ⟨b, 0, none⟩ = some (.pointer (some ⟨b, 0, none⟩)) := by rw [Lib.cell_of_heap hb2]; rfl
 have d1 : w2.cell? ⟨b, 1, none⟩ = some v := by rw [Lib.cell_of_heap hb2]; rfl
 have f1 : w2.frozen? ⟨b, 1, none⟩ = false := Lib.frozen_of_heap hb2 1;obtain ⟨g, cap, rfl⟩ : ∃ g cap, v' = .slice (some ⟨g, 0, none⟩) (bs.length + 1) cap := by
  rcases hown'.2 with ⟨_, h0⟩ | ⟨g, cap, cur, hv, _⟩
  ·omega
  ·exact ⟨g, cap, hv⟩
 go_wp2_with fail;go_ret;refine ⟨rfl, .inr ?_, ?_, hk2.trans (IntK.set hb2 (by decide) _ _)⟩
 ·exact Lib.BuilderAt.put (T := 118) (e := 5) hB hb2 (bs' := bs ++ [.int .u8 c]) (by simpa using hown') (by decide)
 ·exact ((hb1.alloc (by have := hb1.size; omega) _).grown hgrow (by have := hb1.size; simp; omega) (fun k hk => (hown.lt k hk).1)).setCell (p := ⟨b, 1, none⟩) hB _
theorem textLine_q (word : ByteArray) (A : Option Addr) (n c B p : Nat) (xs : List Int) (l0 : List UInt8) (hw : word.size ≤ 100) (hl0 : l0.length ≤ 1000000) (hn : n ≤ 1000) (hl : xs.length = n) (hI : ∀ x ∈ xs, I64 x) (w : World) (hT : ∀ W', Below B w W' → Tabs W') (hrow : ∀ W', Below B w W' → IntK w W' → RowI W' A n c xs) (hb : IsB B p (Lib.byteCells l0) w) (hBw : B ≤ w.heap.size) :
 Calls Tryz.prog 55 #[.string word, .slice A n c, .pointer (some ⟨p, 0, none⟩)] w fun e w' => e = .returned (.tuple #[]) ∧ IsB B p (Lib.byteCells (l0 ++ lineL word.data.toList xs)) w' ∧ Below B w w' ∧ IntK w w' := by
 have HT := Lib.hid hT;have HR := Lib.hid hrow;have HI := Lib.hid hI;clear hT hrow hI;go_enter Tryz.func55, Tryz.ntmps55;go_wp2_with (go_at_call 56; (refine (ws_k B p _ word _ hb (by rw [Lib.byteCells_length]; omega) hBw).mono ?_); rintro e w1 ⟨rfl, hb1, hB, hK⟩);have hBz : B ≤ w1.heap.size := Nat.le_trans hBw hB.size;have hb1' : IsB B p (Lib.byteCells (l0 ++ word.data.toList)) w1 := by rw [Lib.byteCells_append]; exact hb1
 clear hb1 hb
 go_loopw [6, 11] (fun _ s11 wr => ∃ (i : Nat) (l : List UInt8), i ≤ n ∧ s11 = .int .i64 (i : Int) ∧ IsB B p (Lib.byteCells l) wr ∧ l.length ≤ 1000100 + 21 * i ∧ Hid (l = l0 ++ (word.data.toList ++ numsL (xs.take i))) ∧ B ≤ wr.heap.size ∧ Below B w wr ∧ IntK w wr) (fun _ s11 _ => n - (intOf s11).toNat)
 case atStart => exact ⟨0, _, Nat.zero_le _, rfl, hb1', by rw [List.length_append, size_len]; omega, Lib.hid (by simp [numsL]), hBz, hB, hK⟩
 case round =>
  clear hb1' hBz hB hK;obtain ⟨i, l, hi, rfl, hb, hll, HL, hBz, hB, hK⟩ := hrel
  by_cases hlt : i < n
  ·have hlt' : (i : Int) < (n : Int) := by omega
   obtain ⟨b, o, x, rfl, hx, c0⟩ := RowI.get (HR.out wr hB hK) hlt;have hxi := HI.out x (List.mem_of_getElem? hx);have m1 := Lib.hid (itoa_int x hxi);have hd := decIS_size hxi;have hdl := decIS_list x;have HX : Hid (xs.take (i + 1) = xs.take i ++ [x]) := Lib.hid (by rw [List.take_add_one, hx]; rfl);generalize decIS x = d at *;obtain ⟨t2, ht2⟩ : ∃ t2 : ByteArray, (⟨#[32]⟩ : ByteArray) ++ d = t2 := ⟨_, rfl⟩;have z2 : t2.size = 1 + d.size := by rw [← ht2, ByteArray.size_append]; rfl
   have HT3 : Hid (l ++ t2.data.toList = l0 ++ (word.data.toList ++ numsL (xs.take (i + 1)))) := Lib.hid (by
    rw [HX.out, numsL_snoc, HL.out, ← ht2, ByteArray.data_append, Array.toList_append, hdl]; simp)
   have n1 : (9223372036854775807 < 1 + d.size) = False := by simp only [eq_iff_iff, iff_false]; omega
   clear hx hdl
   go_wp2_with (first
    | (go_at_call 57; (with_reducible refine (m1.out _ (HT.out _ hB)).mono ?_); rintro e w2 ⟨rfl, hb2⟩; replace hb := isB_below hb hb2; replace hK := hK.trans (IntK.below hb2); replace hB := hB.trans (hb2.mono hBz); replace hBz := Nat.le_trans hBz hb2.size; clear hb2 c0)
    | (go_at_call 56; (try rw [ht2]); (refine (ws_k B p _ t2 _ hb (by rw [Lib.byteCells_length]; omega) hBz).mono ?_); rintro e w3 ⟨rfl, hb3, hb2, hK2⟩; replace hK := hK.trans hK2; replace hB := hB.trans hb2; replace hBz := Nat.le_trans hBz hb2.size; clear hb2 hK2 hb))
   have hb4 : IsB B p (Lib.byteCells (l ++ t2.data.toList)) w3 := by rw [Lib.byteCells_append]; exact hb3
   clear hb3;go_roundw
   case rel => exact ⟨i + 1, _, by omega, by go_num, hb4, by rw [List.length_append, size_len]; omega, HT3, hBz, hB, hK⟩
   case measure => simp [intOf]; omega
  ·obtain rfl : n = i := by omega
   have HE : Hid (l ++ [10] = l0 ++ lineL word.data.toList xs) := Lib.hid (by rw [HL.out, List.take_of_length_le (by omega)]; unfold lineL; simp);go_wp2_with (go_at_call 58; (refine (wb_k B p _ 10 _ hb (by rw [Lib.byteCells_length]; omega) hBz).mono ?_); rintro e w3 ⟨rfl, hb3, hb2, hK2⟩);go_end0;refine ⟨rfl, ?_, hB.trans hb2, hK.trans hK2⟩;rw [← HE.out, Lib.byteCells_append];exact hb3
end Go.Proofs.YtkpinmejfdnhbaaGreatDoor
