/- Locks: two strings, combined byte by byte. -/
import Derived.Test.YtebgmlbbilcbbaaGreatDoorLockB
import Derived.Test.YtebgmlbbilcbbaaGreatDoorDelThree
import Derived.Test.YtebgmlbbilcbbaaGreatDoorDelHelp
import Derived.Test.YtebgmlbbilcbbaaGreatDoorPlainMore
import Derived.Stop.RegionWithIn
namespace Go.Proofs.YtebgmlbbilcbbaaGreatDoor
open Go.RowKit Go.Shelf
attribute [local go_sem] Oper.semAt_some

/-- A byte as cells. -/
def enc8 (b : UInt8) : List Value := [.int .u8 (b.toNat : Int)]
theorem enc8_len (b : UInt8) : (enc8 b).length = 1 := rfl
theorem enc8_one (b : UInt8) : ∀ u ∈ enc8 b, u.oneCell' = true := fun u hu => by
  obtain rfl := List.mem_singleton.1 hu; rfl
abbrev Own8 (B : Nat) (w : World) (v : Value) (l : List UInt8) : Prop := OwnL enc8 5 1 B w v l
theorem flat8 (l : List UInt8) : l.flatMap enc8 = u8l l := by
  induction l with
  | nil => rfl
  | cons b l ih => rw [List.flatMap_cons, ih]; rfl
theorem Own8.bdg {B : Nat} {w : World} {v : Value} {l : List UInt8} (h : Own8 B w v l) : ∃ A c, v = .slice A l.length c ∧ BDg w A l.length c l := by
  obtain ⟨A, c, rfl, hr⟩ := OwnL.row h enc8_len
  refine ⟨A, c, rfl, hr.len, hr.cap, fun h0 => ?_⟩
  obtain ⟨b, o, e, hc⟩ := hr.at_ h0
  refine ⟨b, o, e, fun j x hx => ?_⟩
  have := hc j 0 x (.int .u8 (x.toNat : Int)) hx rfl
  rwa [Nat.mul_one, Nat.add_zero] at this
theorem make_u8c (n : Nat) (hn : n ≤ 100000000) (w : World) :
    (Instr.makeSlice 22 (.int .i64 0) (.int .i64 (n : Int))).run Tryz.prog w = .ok (.slice (some ⟨w.heap.size, 0, none⟩) 0 n) (w.alloc (.cells (u8s (List.replicate n 0)) 5)) := by
  obtain ⟨i, hi, hzz⟩ := Option.map_eq_some_iff.1 info_u8
  simp only [Prod.mk.injEq] at hzz
  obtain ⟨hz, hs, hb⟩ := hzz
  have hr := run_make (P := Tryz.prog) w 22 5 i (.int .u8 0) Tryz.underlying22 hi hz .i64 .i64 0 (n : Int) (by omega) (by omega) (by rw [hb]; omega) (by omega)
  rw [← u8s_made]
  rw [hs, Int.toNat_natCast, Nat.mul_one] at hr
  exact hr
theorem Own8.fresh {w : World} {k B n : Nat} (h : Blk w k 5 (u8s (List.replicate n 0))) (hB : B ≤ k) (hn : n ≤ 1000000) : Own8 B w (.slice (some ⟨k, 0, none⟩) 0 n) [] :=
  ⟨by simp, .inr ⟨k, n, _, rfl, hB, h, Nat.zero_le _, by unfold maxLen; omega, by simp [u8s], by simp⟩⟩
theorem own_keptL {α : Type} {enc : α → List Value} {e : TypeId} {s B : Nat} {W W' : World} {v : Value} {l : List α} {row : Option Nat} (h : OwnL enc e s B W v l) (hg : W.grownBy W' row) (hrow : ∀ r, row = some r → ∃ o : Obj, W.heap[r]? = some o ∧ o.isCells = false) : OwnL enc e s B W' v l := by
  refine OwnL.kept h hg ?_
  rcases h.2 with ⟨rfl, _⟩ | ⟨g, cap, cur, rfl, _, hh, _⟩
  · exact .inl rfl
  · refine .inr (fun e => ?_)
    have e2 : row = some g := by rw [← e]; rfl
    obtain ⟨o, h1, h2⟩ := hrow g e2
    rw [hh] at h1
    obtain rfl := Option.some.inj h1
    simp [Obj.isCells] at h2

/-- Two blocks lie as they lay. -/
def SameTwo (p q : Nat) (A B : World) : Prop := B.heap[p]? = A.heap[p]? ∧ B.heap[q]? = A.heap[q]?
theorem sameTwo_t {p q : Nat} {A B C : World} (h : SameTwo p q A B) (k : SameTwo p q B C) : SameTwo p q A C := ⟨k.1.trans h.1, k.2.trans h.2⟩
theorem sameTwo_b {p q : Nat} {w : World} (hp : p < w.heap.size) (hq : q < w.heap.size) (W : World) (l : Nat) (o o' : Obj) (hl : w.heap.size ≤ l) (_ : W.heap[l]? = some o) (_ : o.isCells = false) (_ : o.isWalk = false) : SameTwo p q W (W.putObj l o') :=
  ⟨World.putObj_heap_other (by omega), World.putObj_heap_other (by omega)⟩

theorem rf_two {α : Type} {enc1 enc2 : α → Value} {F : Fence} {n : Nat} {P : Program} {g : Operand} {p0 p1 : Tmp} {assign body : Code} {Q : Exit → Act → World → Prop} {a : Act} {w : World}
    (hro : F.round = none) (h1 : 1 ≤ n) {gf : Nat} {lb : Array Value} (hg : a.eval g = .func (.func gf) #[] lb) (hFg : F.fn gf) (eg : ∀ args w, (callFunc gf args).run P w = .ok (.enter gf args) w)
    {Kp : World → World → Prop} {S Sp : List α → Prop} {N : Nat} {w0 : World} (hseq : SeqStopsK F (n - 1) P gf lb (fun x => #[enc1 x, enc2 x]) Kp S Sp N w0)
    (hKt : ∀ {A B C : World}, Kp A B → Kp B C → Kp A C) (hKb : ∀ (W : World) (l : Nat) (o o' : Obj), w.heap.size ≤ l → W.heap[l]? = some o → o.isCells = false → o.isWalk = false → Kp W (W.putObj l o')) (hb0 : Below w0.heap.size w0 w)
    (I : List α → World → Prop) (hI : OwnFrom w.heap.size I) (h0 : I [] w) (a₁ : α → Act)
    (hassign : ∀ (l : Nat) (x : α) (W : World) (K : Act → World → Prop), K (a₁ x) W →
      assign.wpIn (F.inRound l) (n - 1 - 1) P (Exit.then K (fun _ _ _ => False)) { tmps := (a.tmps.setIfInBounds p0 (enc1 x)).setIfInBounds p1 (enc2 x), defers := [] } W)
    (hbody : ∀ (l : Nat) (pre : List α) (x : α) (W : World), I pre W → pre.length < N → body.wpIn (F.inRound l) (n - 1 - 1) P (ownPostK Kp I (fun _ _ _ => False) (pre ++ [x]) W) (a₁ x) W)
    (hdone : ∀ (D : Nat) (xs : List α) (W : World), w.heap.size ≤ D → S xs → I xs W → W.heap[D]? = some (.deferred (some [])) → Q .normal { a with defers := { target := .collected D, args := #[] } :: a.defers } W) :
    (Code.rangeFunc g #[p0, p1] assign body).wpIn F n P Q a w :=
  wpIn_rangeFunc_ownF hro h1 hg hFg eg hseq hKt hKb hb0 (fun _ => rfl) I (fun _ _ _ => False) hI (fun _ _ _ _ _ hs _ _ => hs) h0
    a₁ (fun l x W K hK => by have := hassign l x W K hK; simpa using this) hbody hdone (fun _ _ _ _ _ _ h _ => h.elim)

theorem byte_getL {s : ByteArray} {i : Nat} (h : i < s.size) : s.data.toList[i]? = some s[i] := by
  rw [List.getElem?_eq_getElem (by rw [size_len]; exact h)]; rfl
/-- Two bytes. -/
abbrev B2 := UInt8 × UInt8
/-- The pairs that have come. -/
def pairL (a b : ByteArray) (k : Nat) : List B2 := (a.data.toList.zip b.data.toList).take k
theorem pairL_succ {a b : ByteArray} {k : Nat} (ha : k < a.size) (hb : k < b.size) : pairL a b (k + 1) = pairL a b k ++ [(a[k], b[k])] := by
  unfold pairL
  rw [List.take_add_one]
  congr 1
  have h1 := byte_getL ha
  have h2 := byte_getL hb
  have hz : (a.data.toList.zip b.data.toList)[k]? = some (a[k], b[k]) := by
    rw [List.getElem?_zip_eq_some]; exact ⟨h1, h2⟩
  rw [hz]; rfl
theorem pairL_len {a b : ByteArray} (h : b.size = a.size) {k : Nat} (hk : k ≤ a.size) : (pairL a b k).length = k := by
  unfold pairL
  rw [List.length_take, List.length_zip, size_len, size_len, h]; omega
/-- A pair, combined. -/
def xorP (p : B2) : UInt8 := p.1 ^^^ p.2
theorem pairL_comb {a b : ByteArray} (h : b.size = a.size) : (pairL a b a.size).map xorP = combL a.data.toList b.data.toList := by
  unfold pairL combL
  rw [List.take_of_length_le (by rw [List.length_zip, size_len, size_len, h]; omega)]
  rw [List.zip, List.map_zipWith]
  rfl
theorem u8_xor (a b : UInt8) : bits .xor .u8 (a.toNat : Int) (b.toNat : Int) = ((a ^^^ b).toNat : Int) := by
  have ha := UInt8.toNat_lt a
  have hb := UInt8.toNat_lt b
  have hx : a.toNat ^^^ b.toNat < 2 ^ 8 := Nat.xor_lt_two_pow ha hb
  show IntKind.u8.wrap ((BitVec.ofInt 8 (a.toNat : Int) ^^^ BitVec.ofInt 8 (b.toNat : Int)).toNat : Int) = _
  rw [BitVec.toNat_xor, BitVec.ofInt_natCast, BitVec.ofInt_natCast, BitVec.toNat_ofNat, BitVec.toNat_ofNat, Nat.mod_eq_of_lt ha, Nat.mod_eq_of_lt hb, u8_wrap, UInt8.toNat_xor]
  omega

/-- How a round ends, as one ending. -/
theorem yield_bool {e : Ending} {A C : Prop} (h : (e = .returned (.bool true) ∧ A) ∨ (e = .returned (.bool false) ∧ C)) : ∃ b : Bool, e = .returned (.bool b) ∧ Hid ((b = true ∧ A) ∨ (b = false ∧ C)) := by
  rcases h with ⟨rfl, h⟩ | ⟨rfl, h⟩
  · exact ⟨true, rfl, Lib.hid (.inl ⟨rfl, h⟩)⟩
  · exact ⟨false, rfl, Lib.hid (.inr ⟨rfl, h⟩)⟩

theorem pairs_any (a b : ByteArray) (w : World) :
    Calls Tryz.prog 151 #[.string a, .string b] w fun e w' => e = .returned (.func (.func 177) #[] #[.pointer (some ⟨w.heap.size, 0, none⟩), .pointer (some ⟨w.heap.size + 1, 0, none⟩)]) ∧ (w.alloc (.cells #[.string a] 9)).alloc (.cells #[.string b] 9) = w' := by
  go_enter Tryz.func151, Tryz.ntmps151
  go_wp2_with fail
  go_ret
  exact ⟨rfl, rfl⟩

set_option maxRecDepth 100000 in
set_option maxHeartbeats 2000000 in
theorem pairs_stops (n p q : Nat) (a b : ByteArray) (hs : b.size = a.size) (ha : a.size ≤ 1000) (w : World) (kp : Blk w p 9 #[.string a]) (kq : Blk w q 9 #[.string b]) :
    SeqStopsK Fence.wide n Tryz.prog 177 #[.pointer (some ⟨p, 0, none⟩), .pointer (some ⟨q, 0, none⟩)] (fun x : B2 => #[.int .u8 (x.1.toNat : Int), .int .u8 (x.2.toNat : Int)]) (SameTwo p q) (fun xs => xs = pairL a b a.size) (fun _ => True) a.size w := fun l J Jx W hbW hJa _ hY h0 => by
  have kpW := kp.below hbW kp.lt
  have kqW := kq.below hbW kq.lt
  have HS := Lib.hid hs
  refine callsIn_of_wp Tryz.func177 rfl trivial ?_ rfl
  simp only [Tryz.ntmps177, List.size_toArray, List.length_cons, List.length_nil, Nat.reduceAdd, Nat.reduceSub, Array.replicate_succ, Array.replicate_zero, List.push_toArray, List.append_toArray, List.nil_append, List.cons_append]
  have HY := Lib.hid hY
  have HJ := Lib.hid hJa
  clear hY hJa kp kq
  have c1 : W.cell? ⟨p, 0, none⟩ = some (.string a) := kpW.cell 0
  have c2 : W.cell? ⟨q, 0, none⟩ = some (.string b) := kqW.cell 0
  have hm : min (a.size : Int) (b.size : Int) = (a.size : Int) := by omega
  clear hs
  gi_wp2_with fail
  clear c1 c2
  gi_loopw [10] (fun s10 wr => ∃ k : Nat, k ≤ a.size ∧ s10 = .int .i64 (k : Int) ∧ J (pairL a b k) wr ∧ Blk wr p 9 #[.string a] ∧ Blk wr q 9 #[.string b]) (fun s10 _ => a.size - (intOf s10).toNat)
  case atStart => exact ⟨0, Nat.zero_le _, rfl, h0, kpW, kqW⟩
  case round =>
    obtain ⟨k, hk, rfl, hj, k1, k2⟩ := hrel
    by_cases hlt : k < a.size
    · have hlb : k < b.size := by rw [HS.out]; exact hlt
      have hlt' : (k : Int) < (a.size : Int) := by omega
      have hlb' : (k : Int) < (b.size : Int) := by omega
      have hjd : J (pairL a b k) wr.drew := HJ.out _ _ _ none hj (grown_of_below (Below.refl _ _).drew none) (fun r e => by cases e)
      have k1d : Blk wr.drew p 9 #[.string a] := k1
      have k2d : Blk wr.drew q 9 #[.string b] := k2
      obtain ⟨fn, tmps, assign, body, hy, hR⟩ := HY.out (pairL a b k) (a[k], b[k]) wr.drew hjd (by rw [pairL_len HS.out (by omega)]; exact hlt)
      have c1 : wr.cell? ⟨p, 0, none⟩ = some (.string a) := k1.cell 0
      have c2 : wr.cell? ⟨q, 0, none⟩ = some (.string b) := k2.cell 0
      clear hj k1 k2
      dsimp only at hy
      gi_wp2_with fail
      gi_region_with (refine ⟨fun hz => by simp [Fence.wide] at hz, ?_⟩; refine hR.mono ?_; intro e W3 he; obtain ⟨bb, rfl, HE⟩ := yield_bool he; clear he)
      all_goals
        rcases HE.out with ⟨rfl, hJ3, hK3⟩ | ⟨rfl, hJx3⟩
        · clear HE
          gi_wp2_with fail
          go_roundw
          case rel =>
            refine ⟨k + 1, by omega, by go_num, ?_, hK3.1.trans k1d, hK3.2.trans k2d⟩
            rw [pairL_succ hlt hlb]; exact hJ3
          case measure => simp [intOf]; omega
        · clear HE
          gi_wp2_with fail
          refine bodyPost_ret (results_none rfl _ _ _) rfl ?_
          exact ⟨⟨_, rfl⟩, .inr ⟨_, trivial, hJx3⟩⟩
    · obtain rfl : k = a.size := by omega
      gi_wp2_with fail
      go_end0
      exact ⟨⟨_, rfl⟩, .inl ⟨_, rfl, hj⟩⟩

set_option maxRecDepth 100000 in
set_option maxHeartbeats 2000000 in
theorem combine_q (a b : ByteArray) (hs : b.size = a.size) (ha : a.size ≤ 1000) : Ret 105 #[.string a, .string b] (.string (strB (combL a.data.toList b.data.toList))) := by
  intro w
  have HR := Lib.hid (pairL_comb hs)
  generalize combL a.data.toList b.data.toList = r at HR ⊢
  have HS := Lib.hid hs
  clear hs
  refine (callsIn_wide (n := 4)).1 ?_
  refine callsIn_of_wp_marks Tryz.func105 rfl trivial ?_ rfl
  refine wpIn_wide.2 ?_
  simp only [Tryz.ntmps105, List.size_toArray, List.length_cons, List.length_nil, Nat.reduceAdd, Nat.reduceSub, Array.replicate_succ, Array.replicate_zero, List.push_toArray, List.append_toArray, List.nil_append, List.cons_append]
  have hmk := make_u8c a.size (by omega)
  go_upto_region 2 with fail
  refine name2p ?_
  intro W0 k1 k2 hB
  obtain ⟨B, hBe⟩ : ∃ B, B = w.heap.size := ⟨_, rfl⟩
  rw [← hBe] at k1 k2 ⊢
  have hgB : w.heap.size ≤ B := by omega
  clear hBe hmk
  have z2 := k2.lt
  go_wp2_with fail
  refine (pairs_any a b _).mono ?_
  rintro e w4 ⟨rfl, rfl⟩
  go_wp2_with fail
  obtain ⟨p, hp⟩ : ∃ p, p = W0.heap.size := ⟨_, rfl⟩
  have kp := (Blk.new W0 9 #[.string a]).alloc (.cells #[.string b] 9)
  have kq := Blk.new (W0.alloc (.cells #[.string a] 9)) 9 #[.string b]
  rw [World.size_alloc] at kq
  have hbb : Below W0.heap.size W0 ((W0.alloc (.cells #[.string a] 9)).alloc (.cells #[.string b] 9)) := below_al (below_al (Below.refl _ _) _) _
  replace k1 := k1.below hbb k1.lt
  replace k2 := k2.below hbb k2.lt
  replace hB := below_then hB hbb
  generalize ((W0.alloc (.cells #[.string a] 9)).alloc (.cells #[.string b] 9)) = W4 at k1 k2 kp kq hB ⊢
  rw [← hp] at kp kq z2 ⊢
  clear hbb hp
  have hpl := kp.lt
  have hql := kq.lt
  refine (wpIn_wide (n := 4)).1 ?_
  refine rf_two rfl (by omega) (gf := 177) (lb := #[.pointer (some ⟨p, 0, none⟩), .pointer (some ⟨p + 1, 0, none⟩)]) rfl trivial (enters_of Tryz.func177 (by kernel_rfl) rfl)
    (pairs_stops _ p (p + 1) a b HS.out ha W4 kp kq) sameTwo_t (sameTwo_b hpl hql) (Below.refl _ _)
    (fun pre W => ∃ v : Value, Blk W (B + 1) 22 #[v] ∧ Own8 B W v (pre.map xorP) ∧ Blk W p 9 #[.string a] ∧ Blk W (p + 1) 9 #[.string b] ∧ Below w.heap.size w W)
    ?own ?start (fun x => { tmps := #[.string a, .string b, undef, undef, .string ⟨#[]⟩, .pointer (some ⟨B + 1, 0, none⟩), .int .u8 (x.1.toNat : Int), .int .u8 (x.2.toNat : Int), .string a, .int .i64 (a.size : Int), .slice (some ⟨B, 0, none⟩) 0 a.size, .string a, .string b, .func (.func 177) #[] #[.pointer (some ⟨p, 0, none⟩), .pointer (some ⟨p + 1, 0, none⟩)], .int .u8 (x.1.toNat : Int), .int .u8 (x.2.toNat : Int), undef, undef, undef, undef, undef, undef, undef, undef], defers := [] }) ?assign ?body ?done
  case own =>
    rintro pre A' B' row ⟨v, j1, ho, j2, j3, hb⟩ hg hr
    have hr' := fun r e => (hr r e).2
    exact ⟨v, blk_kept j1 hg hr', own_keptL ho hg hr', blk_kept j2 hg hr', blk_kept j3 hg hr', ownFrom_below (β := List B2) (Nat.le_refl _) (by omega) [] A' B' row hb hg hr⟩
  case start =>
    exact ⟨_, k2, Own8.fresh k1 (Nat.le_refl _) (by omega), kp, kq, hB⟩
  case assign =>
    intro l x W K hK
    gi_wp2
    exact hK
  case body =>
    rintro l pre ⟨x, y⟩ W ⟨v, j1, ho, j2, j3, hb⟩ hlen
    dsimp only
    have c1 : W.cell? ⟨B + 1, 0, none⟩ = some v := j1.cell 0
    obtain ⟨z, hz⟩ : ∃ z, z = x ^^^ y := ⟨_, rfl⟩
    have hzv : bits .xor .u8 (x.toNat : Int) (y.toNat : Int) = (z.toNat : Int) := by rw [hz, u8_xor]
    have HZ : Hid ((pre ++ [(x, y)]).map xorP = pre.map xorP ++ [z]) := Lib.hid (by rw [hz, List.map_append]; rfl)
    have hjl := j1.lt
    have hBW : B ≤ W.heap.size := by omega
    have hpl : (pre.map xorP).length ≤ 1000000 := by rw [List.length_map]; omega
    have n1 := own_ty ho j1 (by decide)
    have n2 := own_ty ho j2 (by decide)
    have n3 := own_ty ho j3 (by decide)
    clear hz
    gi_wp2_with (refine wpIn_append_row (enc := enc8) Tryz.underlying22 byte_info rfl (by decide) (by decide) rfl _ _ rfl z rfl enc8_len (enc8_one _) rfl ho rfl hpl hBW ?_; intro g cc W3 ho3 hg3; have k1s := j1.grown hg3 n1; have k2s := j2.grown hg3 n2; have k3s := j3.grown hg3 n3; have d1 : W3.cell? ⟨B + 1, 0, none⟩ = some v := k1s.cell 0; have d1f := k1s.frozen 0)
    have hC := own_cells ho
    have hO := own_high ho
    rw [List.length_map] at ho3
    have e2 := blk_ty k2s k1s (by decide)
    have e3 := blk_ty k3s k1s (by decide)
    have k1f := k1s.set_ 0 (.slice (some ⟨g, 0, none⟩) (pre.length + 1) cc)
    have k2f := kept_set k2s e2 0 (.slice (some ⟨g, 0, none⟩) (pre.length + 1) cc)
    have k3f := kept_set k3s e3 0 (.slice (some ⟨g, 0, none⟩) (pre.length + 1) cc)
    have hof := OwnL.kept ho3 (grown_set (grown_refl W3 (some (B + 1))) 0 (.slice (some ⟨g, 0, none⟩) (pre.length + 1) cc)) (.inr (Ne.symm (own_ty ho3 k1s (by decide))))
    rw [← HZ.out] at hof
    exact ⟨(KeepsOthers.of_grownBy hg3 hC).trans (KeepsOthers.setCell W3 ⟨B + 1, 0, none⟩ _), ⟨Eq.trans k2f (Eq.symm j2), Eq.trans k3f (Eq.symm j3)⟩, _, k1f, hof, k2f, k3f, below_set (hb.grown hg3 hb.size (fun k e => Nat.le_trans hgB (hO k e))) (p := ⟨B + 1, 0, none⟩) (by show w.heap.size ≤ B + 1; omega) _⟩
  case done =>
    rintro D xs W hD rfl ⟨v, j1, ho, j2, j3, hb⟩ hdef
    rw [HR.out] at ho
    obtain ⟨A, c, rfl, hd⟩ := ho.bdg
    have c1 : W.cell? ⟨B + 1, 0, none⟩ = some (.slice A r.length c) := j1.cell 0
    have hcv := run_bdg_str hd
    go_wp2_with fail
    refine ⟨by simp, .inl ⟨_, _, rfl, run_takeDeferred hdef, ?_⟩⟩
    refine ⟨.string (strB r), ?_, rfl, hb.trans (belowK_b (w := w) (Nat.le_refl _) W D _ _ (by omega) hdef rfl rfl)⟩
    simp [results, Tryz.f105, go_sem, strB]

end Go.Proofs.YtebgmlbbilcbbaaGreatDoor
