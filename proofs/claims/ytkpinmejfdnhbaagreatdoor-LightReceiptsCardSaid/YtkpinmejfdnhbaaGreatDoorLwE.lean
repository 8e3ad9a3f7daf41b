/- Joined by a program: LiP, LiQ, LiR. -/
import Derived.Test.YtkpinmejfdnhbaaGreatDoorLwD
set_option maxRecDepth 100000
set_option maxHeartbeats 4000000
namespace Go.Proofs.YtkpinmejfdnhbaaGreatDoor
open Go.RowKit
attribute [local go_sem] Oper.semAt_some
theorem OwnL.row_at {α : Type} {enc : α → List Value} {e : TypeId} {s B : Nat} {w : World} {A : Option Addr} {n c : Nat} {l : List α} (h : OwnL enc e s B w (.slice A n c) l) (hs : ∀ x, (enc x).length = s) : Row enc s w A n c l := by
 obtain ⟨A', c', e, hr⟩ := OwnL.row h hs
 cases e
 exact hr
theorem rowN_own {B : Nat} {w : World} {A : Option Addr} {n c : Nat} {l : List Nat} (h : OwnI B w (.slice A n c) (intsN l)) : RowN w A n c l := OwnL.row_at h encI_len
theorem own_lt {α : Type} {enc : α → List Value} {e : TypeId} {s B : Nat} {w : World} {v : Value} {l : List α} (h : OwnL enc e s B w v l) : ∀ j, v.ownBlock = some j → j < w.heap.size := fun j ej => by
 rcases h.2 with ⟨rfl, _⟩ | ⟨g, cap, cur, rfl, _, hh, _⟩
 ·simp [Value.ownBlock] at ej
 ·simp only [Value.ownBlock, Option.some.injEq] at ej;subst ej;exact (Array.getElem?_eq_some_iff.1 hh).1
theorem set3_name {K : Act → World → Prop} {a : Act} {W : World} {g : Nat} {t : TypeId} {u0 u1 u2 v0 v1 v2 : Value} (hk : Blk W g t #[u0, u1, u2])
 (h : ∀ W' : World, Blk W' g t #[v0, v1, v2] → W.grownBy W' (some g) → (∀ b o : Nat, b ≠ g → W'.cell? ⟨b, o, none⟩ = W.cell? ⟨b, o, none⟩) → K a W') :
 K a (((W.setCell ⟨g, 0, none⟩ v0).setCell ⟨g, 1, none⟩ v1).setCell ⟨g, 2, none⟩ v2) := by
 have far : ∀ (W : World) (i : Nat) (u : Value) (b o : Nat), b ≠ g → (W.setCell ⟨g, i, none⟩ u).cell? ⟨b, o, none⟩ = W.cell? ⟨b, o, none⟩ := fun W i u b o hne =>
  World.cell?_setCell_other (w := W) (h := fun e => hne (congrArg Addr.block e).symm) ..
 exact h _ (((hk.set_ 0 v0).set_ 1 v1).set_ 2 v2) (grown_set (grown_set (grown_set (grown_refl W (some g)) 0 v0) 1 v1) 2 v2) (fun b o hne => by rw [far _ _ _ _ _ hne, far _ _ _ _ _ hne, far _ _ _ _ _ hne])
structure Dl where
 v1 : Value
 pt : Int
 v3 : Value
def encD (d : Dl) : List Value := [d.v1, .int .i64 d.pt, d.v3]
theorem encD_len (d : Dl) : (encD d).length = 3 := rfl
theorem deal_info : (Tryz.prog.info? 166).map (fun i => (i.zero, i.size, i.bytes)) = some (some (.agg #[.slice none 0 0, .int .i64 0, .slice none 0 0]), 3, 56) := by kernel_rfl
abbrev OwnD (B : Nat) (w : World) (v : Value) (l : List Dl) : Prop := OwnL encD 166 3 B w v l
theorem DealOK.one_cell {B : Nat} {w : World} {v1 v3 : Value} {pt : Int} {cs : List Nat} {n : Nat} (h : DealOK B w v1 pt v3 cs n) : ∀ u ∈ encD ⟨v1, pt, v3⟩, u.oneCell' = true := fun u hu => by
 obtain ⟨bs, hb, -⟩ := h.box;obtain ⟨A1, c1, rfl, -⟩ := OwnL.row h.com encI_len;obtain ⟨A3, c3, rfl, -⟩ := OwnL.row hb encT_len;simp only [encD, List.mem_cons, List.not_mem_nil, or_false] at hu
 rcases hu with rfl | rfl | rfl <;> rfl
theorem DealOK.grown {B : Nat} {w w' : World} {v1 v3 : Value} {pt : Int} {cs : List Nat} {n : Nat} (h : DealOK B w v1 pt v3 cs n) {row : Option Nat} {t : TypeId} {k : Nat} {c : Array Value} (hg : w.grownBy w' row) (hr : row = some k) (hk : Blk w k t c) (h1 : t ≠ 3) (h2 : t ≠ 9) : DealOK B w' v1 pt v3 cs n := by
 obtain ⟨bs, hb, hbl, h16⟩ := h.box;subst hr;exact ⟨OwnL.kept h.com hg (.inr (Ne.symm (own_ty h.com hk h1))), h.pt, bs, OwnL.kept hb hg (.inr (Ne.symm (own_ty hb hk h2))), hbl, h16⟩
theorem DealOK.kept {B B2 : Nat} {w w' : World} {v1 v3 v : Value} {pt : Int} {cs : List Nat} {n : Nat} {ds : List Dl} (h : DealOK B w v1 pt v3 cs n) (ho : OwnD B2 w v ds) (hg : w.grownBy w' v.ownBlock) : DealOK B w' v1 pt v3 cs n := by
 obtain ⟨bs, hb, hbl, h16⟩ := h.box;exact ⟨OwnL.kept h.com hg (rows_apart h.com ho (by decide)), h.pt, bs, OwnL.kept hb hg (rows_apart hb ho (by decide)), hbl, h16⟩
theorem DealOK.le {B B' : Nat} {w : World} {v1 v3 : Value} {pt : Int} {cs : List Nat} {n : Nat} (h : DealOK B' w v1 pt v3 cs n) (hB : B ≤ B') : DealOK B w v1 pt v3 cs n := by
 obtain ⟨bs, hb, hbl, h16⟩ := h.box;exact ⟨h.com.le hB, h.pt, bs, hb.le hB, hbl, h16⟩
structure DealsOK (B : Nat) (w : World) (ds : List Dl) (P : List (List Nat)) (n : Nat) : Prop where
 len : ds.length = P.length
 one : ∀ (i : Nat) (d : Dl) (p : List Nat), ds[i]? = some d → P[i]? = some p → DealOK B w d.v1 d.pt d.v3 p n
theorem DealsOK.nil (B : Nat) (w : World) (n : Nat) : DealsOK B w [] [] n := ⟨rfl, fun i d p h => by simp at h⟩
theorem DealsOK.below {B : Nat} {w w' : World} {ds : List Dl} {P : List (List Nat)} {n : Nat} (h : DealsOK B w ds P n) (hb : Below w.heap.size w w') : DealsOK B w' ds P n := ⟨h.len, fun i d p hd hp => (h.one i d p hd hp).below hb⟩
theorem DealsOK.grown {B : Nat} {w w' : World} {ds : List Dl} {P : List (List Nat)} {n : Nat} (h : DealsOK B w ds P n) {row : Option Nat} {t : TypeId} {k : Nat} {c : Array Value} (hg : w.grownBy w' row) (hr : row = some k) (hk : Blk w k t c) (h1 : t ≠ 3) (h2 : t ≠ 9) : DealsOK B w' ds P n := ⟨h.len, fun i d p hd hp => (h.one i d p hd hp).grown hg hr hk h1 h2⟩
theorem DealsOK.kept {B B2 : Nat} {w w' : World} {v : Value} {ds es : List Dl} {P : List (List Nat)} {n : Nat} (h : DealsOK B w ds P n) (ho : OwnD B2 w v es) (hg : w.grownBy w' v.ownBlock) : DealsOK B w' ds P n := ⟨h.len, fun i d p hd hp => (h.one i d p hd hp).kept ho hg⟩
theorem DealsOK.snoc {B : Nat} {w : World} {ds : List Dl} {P : List (List Nat)} {n : Nat} {d : Dl} {p : List Nat} (h : DealsOK B w ds P n) (hd : DealOK B w d.v1 d.pt d.v3 p n) : DealsOK B w (ds ++ [d]) (P ++ [p]) n := by
 refine ⟨by simp [h.len], fun i u k hu hk => ?_⟩
 rcases Nat.lt_or_ge i ds.length with hi | hi
 ·rw [List.getElem?_append_left hi] at hu;rw [List.getElem?_append_left (by rw [← h.len]; exact hi)] at hk;exact h.one i u k hu hk
 ·have hi0 : i = ds.length := by
   have := (List.getElem?_eq_some_iff.1 hu).1
   simp at this
   omega
  subst hi0;rw [List.getElem?_append_right (Nat.le_refl _), Nat.sub_self] at hu;rw [List.getElem?_append_right (by rw [h.len]; exact Nat.le_refl _), h.len, Nat.sub_self] at hk;obtain rfl := Option.some.inj hu;obtain rfl := Option.some.inj hk;exact hd
def seedOf (seed : List UInt8) (id : Nat) : List UInt8 := seed ++ (32 :: Lib.decDigits id)
def polysL (seed : List UInt8) (need : Nat) (ms : List Mem) : List (List Nat) := ms.map fun m => polyL (seedOf seed m.id.toNat) need
theorem polysL_snoc (seed : List UInt8) (need : Nat) (ms : List Mem) (m : Mem) : polysL seed need (ms ++ [m]) = polysL seed need ms ++ [polyL (seedOf seed m.id.toNat) need] := by simp [polysL]
def DealingsPost (seed : ByteArray) (need n : Nat) (ms : List Mem) (w : World) (e : Ending) (w' : World) : Prop :=
 ∃ (v : Value) (ds : List Dl), e = .returned v ∧ OwnD w.heap.size w' v ds ∧ DealsOK w.heap.size w' ds (polysL seed.data.toList need ms) n ∧ Below w.heap.size w w'
structure Keyed8 (ms : List Mem) : Prop where
 right : RightM ms
 id : ∀ m ∈ ms, 0 ≤ m.id ∧ m.id ≤ 9223372036854775807
 key : ∀ m ∈ ms, ∃ s : Nat, s < qG ∧ m.pub = ((gP s : Nat) : Int)
theorem boxKeys_nat : ∀ {ms : List Mem}, (∀ m ∈ ms, 1 ≤ m.wt) → (∀ m ∈ ms, ∃ s : Nat, s < qG ∧ m.pub = ((gP s : Nat) : Int)) → ∃ ks : List Nat, boxKeys ms = intsN ks ∧ (ks.length : Int) = totW ms ∧ ∀ k ∈ ks, memB (k : Int) = true ∧ k ≤ 9223372036854775807
 | [], _, _ => ⟨[], rfl, rfl, fun k h => by simp at h⟩
 | m :: ms, hw, h => by
   obtain ⟨ks, h1, h2, h3⟩ := boxKeys_nat (ms := ms) (fun x hx => hw x (List.mem_cons_of_mem _ hx)) (fun x hx => h x (List.mem_cons_of_mem _ hx));obtain ⟨s, hs, hp⟩ := h m (List.mem_cons_self ..);have hwm := hw m (List.mem_cons_self ..);have hl := gP_lt s (Nat.lt_trans hs qG_64);have e := pG_lit;refine ⟨List.replicate m.wt.toNat (gP s) ++ ks, ?_, ?_, fun k hk => ?_⟩
   ·show List.replicate m.wt.toNat m.pub ++ boxKeys ms = _;rw [h1, hp];unfold intsN;rw [List.map_append, List.map_replicate]
   ·simp only [totW, List.map_cons, List.sum_cons, List.length_append, List.length_replicate] at h2 ⊢
    omega
   ·rcases List.mem_append.1 hk with hk | hk
    ·obtain rfl := (List.mem_replicate.1 hk).2;exact ⟨mem_g s (Nat.lt_trans hs qG_64), by omega⟩
    ·exact h3 k hk
theorem rDealings_q (A : Option Addr) (n c : Nat) (ms : List Mem) (seed : ByteArray) (hk : Keyed8 ms) (hI : I64M ms) (hs : seed.size ≤ 1000) (w : World) (hr : RowM w A n c ms) :
 Calls Tryz.prog 92 #[.slice A n c, .string seed] w (DealingsPost seed (needN (totW ms).toNat) (totW ms).toNat ms w) := by
 have hl := hr.len;have HR := Lib.hid hr;obtain ⟨e1, e2, e3⟩ := totR_right hk.right;obtain ⟨ks, hks, hkl, hkm⟩ := boxKeys_nat (fun m hm => (hk.right.wt m hm).1) hk.key;obtain ⟨T, hT⟩ : ∃ T : Nat, totW ms = (T : Int) := ⟨(totW ms).toNat, by omega⟩;rw [hT] at e1 e2 e3 hkl ⊢;rw [Int.toNat_natCast];replace hkl : ks.length = T := by omega
 have q3 := Lib.hid (fun W h => rtotal_q A n c ms (by have := hk.right.hi; omega) hI W h);rw [e1] at q3;have q4 := Lib.hid (rNeed_q T (by omega));obtain ⟨N, hN, hN1, hN2⟩ : ∃ N, N = needN T ∧ 1 ≤ N ∧ N ≤ T := ⟨needN T, rfl, by unfold needN; split <;> omega, by unfold needN; split <;> omega⟩;rw [← hN] at q4 ⊢;have q1 := Lib.hid (fun W h => rBoxes_q A n c ms (by have := hk.right.hi; omega) hk.right.wt W h);have HB := Lib.hid hks;have hall : (intsN ks).all memB = true := by
  rw [List.all_eq_true]; intro x hx;obtain ⟨k, hk2, rfl⟩ := List.mem_map.1 hx;exact (hkm k hk2).1
 have HK := Lib.hid hk;have hB := Below.refl w.heap.size w;have hn13 : n ≤ 13 := by have := hk.right.hi; omega
 clear hr hN hks hT hk e1;go_enter Tryz.func92, Tryz.ntmps92;go_wp2_with fail
 go_loopw [5, 6, 7, 8, 9] (fun s5 s6 _ _ _ wr => ∃ (i : Nat) (ds : List Dl), i ≤ n ∧ s6 = .int .i64 (i : Int) ∧ ds.length = i ∧ OwnD w.heap.size wr s5 ds ∧ DealsOK w.heap.size wr ds (polysL seed.data.toList N (ms.take i)) T ∧ Below w.heap.size w wr) (fun _ s6 _ _ _ _ => n - (intOf s6).toNat)
 case atStart => exact ⟨0, [], by omega, rfl, rfl, OwnL.nil_ _ _ _ _ _, DealsOK.nil _ _ _, hB⟩
 case round =>
  clear hB;obtain ⟨i, ds, hi, rfl, hdl, ho, hD, hB⟩ := hrel
  by_cases hlt : i < n
  ·have hlt' : (i : Int) < (n : Int) := by omega
   obtain ⟨b, o, m, rfl, hm, c0, -⟩ := RowM.get (HR.out.below hB) hlt;obtain ⟨f, hf⟩ : ∃ f : Nat, m.id = (f : Int) := ⟨m.id.toNat, by have := HK.out.id m (List.mem_of_getElem? hm); omega⟩;have hfl := (HK.out.id m (List.mem_of_getElem? hm)).2
   have HP : Hid (polysL seed.data.toList N (ms.take (i + 1)) = polysL seed.data.toList N (ms.take i) ++ [polyL (seedOf seed.data.toList f) N]) := Lib.hid (by
    rw [List.take_add_one, hm];have := polysL_snoc seed.data.toList N (ms.take i) m;rw [hf, Int.toNat_natCast] at this
    exact this)
   have HM := Lib.hid hm;rw [hf] at c0 hfl;have m3 := Lib.hid (rText8_q f (by omega));have hds := decS_20 (n := f) (by omega);have hdd := decS_list f;generalize decS f = d at *;obtain ⟨t1, ht1⟩ : ∃ t : ByteArray, seed ++ (⟨#[32]⟩ : ByteArray) = t := ⟨_, rfl⟩;have z1 : t1.size = seed.size + 1 := by rw [← ht1, ByteArray.size_append]; rfl
   obtain ⟨t2, ht2⟩ : ∃ t : ByteArray, t1 ++ d = t := ⟨_, rfl⟩;have z2 : t2.size = t1.size + d.size := by rw [← ht2, ByteArray.size_append]
   have hl2 : t2.data.toList = seedOf seed.data.toList f := by
    rw [← ht2, ← ht1];simp only [ByteArray.data_append, Array.toList_append, hdd];unfold seedOf
    simp
   have q5 := Lib.hid (fun W => rPolynomial_q t2 N (by omega) (by omega) W);have n1 : (9223372036854775807 < seed.size + 1) = False := by simp only [eq_iff_iff, iff_false]; omega
   have n2 : (9223372036854775807 < t1.size + d.size) = False := by simp only [eq_iff_iff, iff_false]; omega
   obtain ⟨p, hp⟩ := exq (polyL (seedOf seed.data.toList f) N);have hpl : p.length = N := by rw [hp, polyL_len]
   have hpq : ∀ c ∈ p, c < qG := by rw [hp]; exact polyL_lt _ _
   have HPP : Hid (polyL t2.data.toList N = p) := Lib.hid (by rw [hp, hl2]);rw [← hp] at HP;have q2 := Lib.hid (fun (A1 A2 : Option Addr) (c1 c2 : Nat) W h1 h2 => rDeal_q A1 A2 N c1 T c2 p ks t2 hN1 hN2 (by omega) hpq hall (fun k hk => (hkm k hk).2) (by omega) W h1 h2);clear hm hp hl2 hdd hall hkm hpq hI z1 z2
   go_upto_region 6 with (first
    | (go_at_call 94; (with_reducible refine (m3.out _).mono ?_); rintro e w2 ⟨rfl, hb⟩; replace ho := ho.below hb; replace hD := hD.below hb; replace hB := below_then hB hb; clear hb c0)
    | (go_at_call 91; (with_reducible refine (q3.out _ (HR.out.below hB)).mono ?_); rintro e w3 ⟨rfl, hb⟩; replace ho := ho.below hb; replace hD := hD.below hb; replace hB := below_then hB hb; clear hb)
    | (go_at_call 90; (with_reducible refine (q4.out _).mono ?_); rintro e w4 ⟨rfl, hww⟩; obtain rfl := hww.symm)
    | (go_at_call 93; (try rw [ht2]); (refine (q5.out _).mono ?_); rintro e w5 ⟨vp, rfl, hop, hb⟩; replace ho := ho.below hb; replace hD := hD.below hb; replace hop := hop.le hB.size; replace hB := below_then hB hb; clear hb))
   rw [HPP.out] at hop;obtain ⟨Ap, cp, hvp, -⟩ := OwnL.row hop encI_len;rw [intsN_len, hpl] at hvp;subst hvp;obtain ⟨m', hm', c0, -⟩ := rowM_at (HR.out.below hB) hlt;obtain rfl : m' = m := Option.some.inj (hm'.symm.trans HM.out);rw [hf] at c0;have hin : (i : Int) < (n : Int) := hlt';have hwi : IntKind.i64.wrap (i : Int) = (i : Int) := IntWalk.i64_in _ (by omega);have hcur := hB.drew;have hcur0 := hcur;have g0 : w5.drew.cell? ⟨b, o + i * 3, none⟩ = some (.int .i64 (f : Int)) := c0;replace ho : OwnD w.heap.size w5.drew _ ds := ho;replace hD : DealsOK w.heap.size w5.drew ds (polysL seed.data.toList N (ms.take i)) T := hD.below (Below.refl _ _).drew;replace hop : OwnI w.heap.size w5.drew (.slice Ap N cp) (intsN p) := hop;clear c0 hm' hB;refine region_here (fun Z => Z.cell? ⟨b, o + i * 3, none⟩ = some (.int .i64 (f : Int))) 18 (by kernel_rfl) g0 (fun hHeld => ?_);refine tkT 0 rfl ?_;refine tkT 1 rfl ?_;refine tkT 3 rfl ?_;refine tkT 4 rfl ?_;refine tkT 5 rfl ?_;refine tkT 6 rfl ?_;refine tkT 7 rfl ?_;refine tkT 8 rfl ?_;refine tkT 9 rfl ?_;refine wpAnyS_two (i := 2) (j := 16) (oi := ⟨_, _, _, _, _, _⟩) (oj := ⟨_, _, _, _, _, _⟩) rfl rfl (by kernel_rfl) (fun K hK => ?_) (fun K hK => ?_)
   ·skip;go_simp;go_at_call 101;refine (q1.out _ (HR.out.below hcur)).mono ?_;rintro e wa ⟨vb, rfl, hob, hba⟩;obtain ⟨Ab, cb, hvb, -⟩ := OwnL.row hob encI_len;rw [HB.out, intsN_len, hkl] at hvb;rw [HB.out] at hob;subst hvb;replace hob := hob.le hcur.size
    (try go_wp2_with fail)
    replace ho := ho.below hba;replace hD := hD.below hba;replace hop := hop.below hba
    (try replace hok := hok.below hba)
    (try replace k8 := k8.below hba k8.lt)
    replace hcur := below_then hcur hba;refine hK.out _ _ ?_ (fun hHeld2 => ?_)
    ·exact cell_b hba hHeld
    clear hK K
    try simp only [Act.put, pq1, pq2, pq3]
    refine wpAnyS_two (i := 10) (j := 16) (oi := ⟨_, _, _, _, _, _⟩) (oj := ⟨_, _, _, _, _, _⟩) rfl rfl (by kernel_rfl) (fun K hK => ?_) (fun K hK => ?_)
    ·skip;go_simp;go_at_call 94;refine (m3.out _).mono ?_;rintro e wb ⟨rfl, hbb⟩
     (try go_wp2_with fail)
     replace ho := ho.below hbb;replace hD := hD.below hbb;replace hop := hop.below hbb
     (try replace hob := hob.below hbb)
     (try replace hok := hok.below hbb)
     (try replace k8 := k8.below hbb k8.lt)
     replace hcur := below_then hcur hbb;refine hK.out _ _ ?_ (fun hHeld10 => ?_)
     ·exact cell_b hbb hHeld2
     clear hK K
     try simp only [Act.put, pq1, pq2, pq3]
     refine tkT 11 rfl ?_;refine wpAnyS_two (i := 12) (j := 16) (oi := ⟨_, _, _, _, _, _⟩) (oj := ⟨_, _, _, _, _, _⟩) rfl rfl (by kernel_rfl) (fun K hK => ?_) (fun K hK => ?_)
     ·skip;go_simp;go_at_call 100;refine (q2.out Ap Ab cp cb _ (rowN_own hop) (rowN_own hob)).mono ?_;rintro e wc ⟨v1, v3, pt, rfl, hok, hbc⟩;obtain ⟨bs, hbs, -⟩ := hok.box;obtain ⟨Av, cv, hv1, -⟩ := OwnL.row hok.com encI_len;obtain ⟨Av3, cv3, hv3, -⟩ := OwnL.row hbs encT_len;subst hv1;subst hv3;clear hbs;replace hok := hok.le hcur.size;simp only [dealA]
      (try go_wp2_with fail)
      replace ho := ho.below hbc;replace hD := hD.below hbc;replace hop := hop.below hbc
      (try replace hob := hob.below hbc)
      (try replace hok := hok.below hbc)
      (try replace k8 := k8.below hbc k8.lt)
      replace hcur := below_then hcur hbc;refine hK.out _ _ ?_ (fun hHeld12 => ?_)
      ·exact cell_b hbc hHeld10
      clear hK K
      try simp only [Act.put, pq1, pq2, pq3]
      refine tkT 13 rfl ?_;refine tkT 14 rfl ?_;refine tkT 15 rfl ?_;refine tkO 16 rfl fun K hK => ?_;go_simp;have hb8 := block_lt_of_cell hHeld12;have h8w := hcur.size;have hog := fun j e => own_lt ho j e
      first
       | (refine alloc_name (W := w5.drew) ?_; intro wz k8' hbz; have k8 : Blk wz w5.heap.size 166 #[.slice none 0 0, .int .i64 0, .slice none 0 0] := k8'; clear k8')
       | (refine alloc_name ?_; intro wz k8 hbz)
      replace ho := ho.below hbz;replace hD := hD.below hbz;replace hop := hop.below hbz
      (try replace hob := hob.below hbz)
      (try replace hok := hok.below hbz)
      replace hcur := below_then hcur hbz;refine hK.out _ _ ?_ (fun hHeld16 => ?_)
      ·exact cell_b hbz hHeld12
      clear hK K
      try simp only [Act.put, pq1, pq2, pq3]
      refine tkO 17 rfl fun K hK => ?_;have cz0 := k8.cell 0;have cz1 := k8.cell 1;have cz2 := k8.cell 2;have fz0 := k8.frozen 0;have fz1 := k8.frozen 1;have fz2 := k8.frozen 2;go_simp;refine set3_name k8 ?_;intro ws kS hgS hcS;replace ho := OwnL.kept ho hgS (.inr (fun e => absurd (hog _ e) (Nat.lt_irrefl _)));replace hD := hD.grown hgS rfl k8 (by decide) (by decide);replace hok := hok.grown hgS rfl k8 (by decide) (by decide);replace hcur := hcur.grown hgS hcur.size (fun j e => by cases e; exact h8w);clear cz0 cz1 cz2 fz0 fz1 fz2;refine hK.out _ _ ?_ (fun hHeld17 => ?_)
      ·exact (hcS _ _ (Nat.ne_of_lt hb8)).trans hHeld16
      clear hK K
      try simp only [Act.put]
      refine tkK 18 rfl fun K hK => ?_;go_simp;refine hK.out _ _ ?_;clear hK K
      try simp only [Act.put, pq1, pq2, pq3]
      refine tkD ?_;have z0 := kS.cell 0;have z1 := kS.cell 1;have z2 := kS.cell 2;go_wp2_with (refine wp_append_row (enc := encD) Tryz.underlying105 deal_info rfl (by decide) (by decide) rfl _ _ rfl ⟨.slice Av (intsN (p.map gP)).length cv, (pt : Int), .slice Av3 bs.length cv3⟩ rfl rfl hok.one_cell rfl ho rfl (by omega) hcur.size ?_; intro v6 w6 ho6 hg6);go_roundw
      case rel => exact ⟨i + 1, _, by omega, by go_num, by simp [hdl], ho6, by rw [HP.out]; exact (hD.kept ho hg6).snoc (hok.kept ho hg6), hcur.grown hg6 hcur.size (own_high ho)⟩
      case measure => simp [intOf]; omega
     ·skip;go_simp;have hb8 := block_lt_of_cell hHeld10;have h8w := hcur.size;have hog := fun j e => own_lt ho j e
      first
       | (refine alloc_name (W := w5.drew) ?_; intro wz k8' hbz; have k8 : Blk wz w5.heap.size 166 #[.slice none 0 0, .int .i64 0, .slice none 0 0] := k8'; clear k8')
       | (refine alloc_name ?_; intro wz k8 hbz)
      replace ho := ho.below hbz;replace hD := hD.below hbz;replace hop := hop.below hbz
      (try replace hob := hob.below hbz)
      (try replace hok := hok.below hbz)
      replace hcur := below_then hcur hbz;refine hK.out _ _ ?_ (fun hHeld16 => ?_)
      ·exact cell_b hbz hHeld10
      clear hK K
      try simp only [Act.put, pq1, pq2, pq3]
      refine tkO 12 rfl fun K hK => ?_;go_simp;go_at_call 100;refine (q2.out Ap Ab cp cb _ (rowN_own hop) (rowN_own hob)).mono ?_;rintro e wc ⟨v1, v3, pt, rfl, hok, hbc⟩;obtain ⟨bs, hbs, -⟩ := hok.box;obtain ⟨Av, cv, hv1, -⟩ := OwnL.row hok.com encI_len;obtain ⟨Av3, cv3, hv3, -⟩ := OwnL.row hbs encT_len;subst hv1;subst hv3;clear hbs;replace hok := hok.le hcur.size;simp only [dealA]
      (try go_wp2_with fail)
      replace ho := ho.below hbc;replace hD := hD.below hbc;replace hop := hop.below hbc
      (try replace hob := hob.below hbc)
      (try replace hok := hok.below hbc)
      (try replace k8 := k8.below hbc k8.lt)
      replace hcur := below_then hcur hbc;refine hK.out _ _ ?_ (fun hHeld12 => ?_)
      ·exact cell_b hbc hHeld16
      clear hK K
      try simp only [Act.put, pq1, pq2, pq3]
      refine tkT 13 rfl ?_;refine tkT 14 rfl ?_;refine tkT 15 rfl ?_;refine tkO 17 rfl fun K hK => ?_;have cz0 := k8.cell 0;have cz1 := k8.cell 1;have cz2 := k8.cell 2;have fz0 := k8.frozen 0;have fz1 := k8.frozen 1;have fz2 := k8.frozen 2;go_simp;refine set3_name k8 ?_;intro ws kS hgS hcS;replace ho := OwnL.kept ho hgS (.inr (fun e => absurd (hog _ e) (Nat.lt_irrefl _)));replace hD := hD.grown hgS rfl k8 (by decide) (by decide);replace hok := hok.grown hgS rfl k8 (by decide) (by decide);replace hcur := hcur.grown hgS hcur.size (fun j e => by cases e; exact h8w);clear cz0 cz1 cz2 fz0 fz1 fz2;refine hK.out _ _ ?_ (fun hHeld17 => ?_)
      ·exact (hcS _ _ (Nat.ne_of_lt hb8)).trans hHeld12
      clear hK K
      try simp only [Act.put]
      refine tkK 18 rfl fun K hK => ?_;go_simp;refine hK.out _ _ ?_;clear hK K
      try simp only [Act.put, pq1, pq2, pq3]
      refine tkD ?_;have z0 := kS.cell 0;have z1 := kS.cell 1;have z2 := kS.cell 2;go_wp2_with (refine wp_append_row (enc := encD) Tryz.underlying105 deal_info rfl (by decide) (by decide) rfl _ _ rfl ⟨.slice Av (intsN (p.map gP)).length cv, (pt : Int), .slice Av3 bs.length cv3⟩ rfl rfl hok.one_cell rfl ho rfl (by omega) hcur.size ?_; intro v6 w6 ho6 hg6);go_roundw
      case rel => exact ⟨i + 1, _, by omega, by go_num, by simp [hdl], ho6, by rw [HP.out]; exact (hD.kept ho hg6).snoc (hok.kept ho hg6), hcur.grown hg6 hcur.size (own_high ho)⟩
      case measure => simp [intOf]; omega
    ·skip;go_simp;have hb8 := block_lt_of_cell hHeld2;have h8w := hcur.size;have hog := fun j e => own_lt ho j e
     first
      | (refine alloc_name (W := w5.drew) ?_; intro wz k8' hbz; have k8 : Blk wz w5.heap.size 166 #[.slice none 0 0, .int .i64 0, .slice none 0 0] := k8'; clear k8')
      | (refine alloc_name ?_; intro wz k8 hbz)
     replace ho := ho.below hbz;replace hD := hD.below hbz;replace hop := hop.below hbz
     (try replace hob := hob.below hbz)
     (try replace hok := hok.below hbz)
     replace hcur := below_then hcur hbz;refine hK.out _ _ ?_ (fun hHeld16 => ?_)
     ·exact cell_b hbz hHeld2
     clear hK K
     try simp only [Act.put, pq1, pq2, pq3]
     refine tkO 10 rfl fun K hK => ?_;go_simp;go_at_call 94;refine (m3.out _).mono ?_;rintro e wb ⟨rfl, hbb⟩
     (try go_wp2_with fail)
     replace ho := ho.below hbb;replace hD := hD.below hbb;replace hop := hop.below hbb
     (try replace hob := hob.below hbb)
     (try replace hok := hok.below hbb)
     (try replace k8 := k8.below hbb k8.lt)
     replace hcur := below_then hcur hbb;refine hK.out _ _ ?_ (fun hHeld10 => ?_)
     ·exact cell_b hbb hHeld16
     clear hK K
     try simp only [Act.put, pq1, pq2, pq3]
     refine tkT 11 rfl ?_;refine tkO 12 rfl fun K hK => ?_;go_simp;go_at_call 100;refine (q2.out Ap Ab cp cb _ (rowN_own hop) (rowN_own hob)).mono ?_;rintro e wc ⟨v1, v3, pt, rfl, hok, hbc⟩;obtain ⟨bs, hbs, -⟩ := hok.box;obtain ⟨Av, cv, hv1, -⟩ := OwnL.row hok.com encI_len;obtain ⟨Av3, cv3, hv3, -⟩ := OwnL.row hbs encT_len;subst hv1;subst hv3;clear hbs;replace hok := hok.le hcur.size;simp only [dealA]
     (try go_wp2_with fail)
     replace ho := ho.below hbc;replace hD := hD.below hbc;replace hop := hop.below hbc
     (try replace hob := hob.below hbc)
     (try replace hok := hok.below hbc)
     (try replace k8 := k8.below hbc k8.lt)
     replace hcur := below_then hcur hbc;refine hK.out _ _ ?_ (fun hHeld12 => ?_)
     ·exact cell_b hbc hHeld10
     clear hK K
     try simp only [Act.put, pq1, pq2, pq3]
     refine tkT 13 rfl ?_;refine tkT 14 rfl ?_;refine tkT 15 rfl ?_;refine tkO 17 rfl fun K hK => ?_;have cz0 := k8.cell 0;have cz1 := k8.cell 1;have cz2 := k8.cell 2;have fz0 := k8.frozen 0;have fz1 := k8.frozen 1;have fz2 := k8.frozen 2;go_simp;refine set3_name k8 ?_;intro ws kS hgS hcS;replace ho := OwnL.kept ho hgS (.inr (fun e => absurd (hog _ e) (Nat.lt_irrefl _)));replace hD := hD.grown hgS rfl k8 (by decide) (by decide);replace hok := hok.grown hgS rfl k8 (by decide) (by decide);replace hcur := hcur.grown hgS hcur.size (fun j e => by cases e; exact h8w);clear cz0 cz1 cz2 fz0 fz1 fz2;refine hK.out _ _ ?_ (fun hHeld17 => ?_)
     ·exact (hcS _ _ (Nat.ne_of_lt hb8)).trans hHeld12
     clear hK K
     try simp only [Act.put]
     refine tkK 18 rfl fun K hK => ?_;go_simp;refine hK.out _ _ ?_;clear hK K
     try simp only [Act.put, pq1, pq2, pq3]
     refine tkD ?_;have z0 := kS.cell 0;have z1 := kS.cell 1;have z2 := kS.cell 2;go_wp2_with (refine wp_append_row (enc := encD) Tryz.underlying105 deal_info rfl (by decide) (by decide) rfl _ _ rfl ⟨.slice Av (intsN (p.map gP)).length cv, (pt : Int), .slice Av3 bs.length cv3⟩ rfl rfl hok.one_cell rfl ho rfl (by omega) hcur.size ?_; intro v6 w6 ho6 hg6);go_roundw
     case rel => exact ⟨i + 1, _, by omega, by go_num, by simp [hdl], ho6, by rw [HP.out]; exact (hD.kept ho hg6).snoc (hok.kept ho hg6), hcur.grown hg6 hcur.size (own_high ho)⟩
     case measure => simp [intOf]; omega
   ·skip;go_simp;have hb8 := block_lt_of_cell hHeld;have h8w := hcur.size;have hog := fun j e => own_lt ho j e
    first
     | (refine alloc_name (W := w5.drew) ?_; intro wz k8' hbz; have k8 : Blk wz w5.heap.size 166 #[.slice none 0 0, .int .i64 0, .slice none 0 0] := k8'; clear k8')
     | (refine alloc_name ?_; intro wz k8 hbz)
    replace ho := ho.below hbz;replace hD := hD.below hbz;replace hop := hop.below hbz
    (try replace hob := hob.below hbz)
    (try replace hok := hok.below hbz)
    replace hcur := below_then hcur hbz;refine hK.out _ _ ?_ (fun hHeld16 => ?_)
    ·exact cell_b hbz hHeld
    clear hK K
    try simp only [Act.put, pq1, pq2, pq3]
    refine tkO 2 rfl fun K hK => ?_;go_simp;go_at_call 101;refine (q1.out _ (HR.out.below hcur)).mono ?_;rintro e wa ⟨vb, rfl, hob, hba⟩;obtain ⟨Ab, cb, hvb, -⟩ := OwnL.row hob encI_len;rw [HB.out, intsN_len, hkl] at hvb;rw [HB.out] at hob;subst hvb;replace hob := hob.le hcur.size
    (try go_wp2_with fail)
    replace ho := ho.below hba;replace hD := hD.below hba;replace hop := hop.below hba
    (try replace hok := hok.below hba)
    (try replace k8 := k8.below hba k8.lt)
    replace hcur := below_then hcur hba;refine hK.out _ _ ?_ (fun hHeld2 => ?_)
    ·exact cell_b hba hHeld16
    clear hK K
    try simp only [Act.put, pq1, pq2, pq3]
    refine tkO 10 rfl fun K hK => ?_;go_simp;go_at_call 94;refine (m3.out _).mono ?_;rintro e wb ⟨rfl, hbb⟩
    (try go_wp2_with fail)
    replace ho := ho.below hbb;replace hD := hD.below hbb;replace hop := hop.below hbb
    (try replace hob := hob.below hbb)
    (try replace hok := hok.below hbb)
    (try replace k8 := k8.below hbb k8.lt)
    replace hcur := below_then hcur hbb;refine hK.out _ _ ?_ (fun hHeld10 => ?_)
    ·exact cell_b hbb hHeld2
    clear hK K
    try simp only [Act.put, pq1, pq2, pq3]
    refine tkT 11 rfl ?_;refine tkO 12 rfl fun K hK => ?_;go_simp;go_at_call 100;refine (q2.out Ap Ab cp cb _ (rowN_own hop) (rowN_own hob)).mono ?_;rintro e wc ⟨v1, v3, pt, rfl, hok, hbc⟩;obtain ⟨bs, hbs, -⟩ := hok.box;obtain ⟨Av, cv, hv1, -⟩ := OwnL.row hok.com encI_len;obtain ⟨Av3, cv3, hv3, -⟩ := OwnL.row hbs encT_len;subst hv1;subst hv3;clear hbs;replace hok := hok.le hcur.size;simp only [dealA]
    (try go_wp2_with fail)
    replace ho := ho.below hbc;replace hD := hD.below hbc;replace hop := hop.below hbc
    (try replace hob := hob.below hbc)
    (try replace hok := hok.below hbc)
    (try replace k8 := k8.below hbc k8.lt)
    replace hcur := below_then hcur hbc;refine hK.out _ _ ?_ (fun hHeld12 => ?_)
    ·exact cell_b hbc hHeld10
    clear hK K
    try simp only [Act.put, pq1, pq2, pq3]
    refine tkT 13 rfl ?_;refine tkT 14 rfl ?_;refine tkT 15 rfl ?_;refine tkO 17 rfl fun K hK => ?_;have cz0 := k8.cell 0;have cz1 := k8.cell 1;have cz2 := k8.cell 2;have fz0 := k8.frozen 0;have fz1 := k8.frozen 1;have fz2 := k8.frozen 2;go_simp;refine set3_name k8 ?_;intro ws kS hgS hcS;replace ho := OwnL.kept ho hgS (.inr (fun e => absurd (hog _ e) (Nat.lt_irrefl _)));replace hD := hD.grown hgS rfl k8 (by decide) (by decide);replace hok := hok.grown hgS rfl k8 (by decide) (by decide);replace hcur := hcur.grown hgS hcur.size (fun j e => by cases e; exact h8w);clear cz0 cz1 cz2 fz0 fz1 fz2;refine hK.out _ _ ?_ (fun hHeld17 => ?_)
    ·exact (hcS _ _ (Nat.ne_of_lt hb8)).trans hHeld12
    clear hK K
    try simp only [Act.put]
    refine tkK 18 rfl fun K hK => ?_;go_simp;refine hK.out _ _ ?_;clear hK K
    try simp only [Act.put, pq1, pq2, pq3]
    refine tkD ?_;have z0 := kS.cell 0;have z1 := kS.cell 1;have z2 := kS.cell 2;go_wp2_with (refine wp_append_row (enc := encD) Tryz.underlying105 deal_info rfl (by decide) (by decide) rfl _ _ rfl ⟨.slice Av (intsN (p.map gP)).length cv, (pt : Int), .slice Av3 bs.length cv3⟩ rfl rfl hok.one_cell rfl ho rfl (by omega) hcur.size ?_; intro v6 w6 ho6 hg6);go_roundw
    case rel => exact ⟨i + 1, _, by omega, by go_num, by simp [hdl], ho6, by rw [HP.out]; exact (hD.kept ho hg6).snoc (hok.kept ho hg6), hcur.grown hg6 hcur.size (own_high ho)⟩
    case measure => simp [intOf]; omega
  ·obtain rfl : i = n := by omega
   rw [List.take_of_length_le (by omega)] at hD;go_wp2_with fail;go_ret;exact ⟨_, ds, rfl, ho, hD, hB⟩
abbrev RowD (w : World) (A : Option Addr) (n c : Nat) (xs : List Dl) : Prop := Row encD 3 w A n c xs
theorem rowD_at {w : World} {A : Option Addr} {n c : Nat} {ds : List Dl} (h : RowD w A n c ds) {k : Nat} (hk : k < n) : ∃ b o d, A = some ⟨b, o, none⟩ ∧ ds[k]? = some d ∧ w.cell? ⟨b, o + k * 3, none⟩ = some d.v1 ∧ w.cell? ⟨b, o + k * 3 + 1, none⟩ = some (.int .i64 d.pt) ∧ w.cell? ⟨b, o + k * 3 + 2, none⟩ = some d.v3 := by
 obtain ⟨b, o, e, hc⟩ := h.at_ (by omega);have hl : k < ds.length := by have := h.len; omega
 have hm : ds[k]? = some ds[k] := List.getElem?_eq_getElem hl;exact ⟨b, o, ds[k], e, hm, hc k 0 _ _ hm rfl, hc k 1 _ _ hm rfl, hc k 2 _ _ hm rfl⟩
structure PolyOK (P : List (List Nat)) (need : Nat) : Prop where
 len : ∀ p ∈ P, p.length = need
 lt : ∀ p ∈ P, ∀ c ∈ p, c < qG
theorem memB_I64 {a : Int} (h : memB a = true) : I64 a := by
 obtain ⟨n, rfl, h1, h2, -⟩ := memB_low h;have e := pG_lit;exact ⟨by omega, by omega⟩
theorem rfits_q (A : Option Addr) (n c : Nat) (ds : List Dl) (P : List (List Nat)) (T B : Nat) (hn : 1 ≤ n) (hn2 : n ≤ 1000) (hT : 1 ≤ T) (hT2 : T ≤ 60) (hP : PolyOK P (needN T)) (w : World) (hr : RowD w A n c ds) (hD : DealsOK B w ds P T) :
 Calls Tryz.prog 158 #[.slice A n c, .int .i64 (T : Int)] w fun e w' => e = .returned (.bool true) ∧ Below w.heap.size w w' := by
 have hl := hr.len;have HR := Lib.hid hr;have HD := Lib.hid hD;have HP := Lib.hid hP;have m1 := Lib.hid (rNeed_q T (by omega));obtain ⟨N, hN, hN1, hN2⟩ : ∃ N, N = needN T ∧ 1 ≤ N ∧ N ≤ T := ⟨needN T, rfl, by unfold needN; split <;> omega, by unfold needN; split <;> omega⟩;rw [← hN] at m1 HP;have q1 := Lib.hid (fun (v1 v3 : Value) (pt : Int) (p : List Nat) (hp : p.length = N) (hq : ∀ c ∈ p, c < qG) (hpt : I64 pt) W h => rCheck_q v1 v3 pt p T B (by omega) (by omega) hT2 hq hpt W h);have hB := Below.refl w.heap.size w;clear hr hD hP hN;go_enter Tryz.func158, Tryz.ntmps158;go_wp2_with fail
 go_loopw [5, 6] (fun s5 _ wr => ∃ i : Nat, i ≤ n ∧ s5 = .int .i64 (i : Int) ∧ Below w.heap.size w wr) (fun s5 _ _ => n - (intOf s5).toNat)
 case atStart => exact ⟨0, by omega, rfl, hB⟩
 case round =>
  clear hB;obtain ⟨i, hi, rfl, hB⟩ := hrel
  by_cases hlt : i < n
  ·have hlt' : (i : Int) < (n : Int) := by omega
   obtain ⟨b, o, d, rfl, hd, c0, c1, c2⟩ := rowD_at (HR.out.below hB) hlt;obtain ⟨p, hp⟩ : ∃ p, P[i]? = some p := ⟨_, List.getElem?_eq_getElem (by rw [← HD.out.len, hl]; exact hlt)⟩;have hok := (HD.out.one i d p hd hp).below hB;have hpl := HP.out.len p (List.mem_of_getElem? hp);have m2 := Lib.hid (q1.out d.v1 d.v3 d.pt p hpl (HP.out.lt p (List.mem_of_getElem? hp)) (memB_I64 hok.pt));have hcl : (intsN (p.map gP)).length = N := by rw [intsN_len, List.length_map, hpl]
   obtain ⟨A1, c1', hv1, -⟩ := OwnL.row hok.com encI_len;obtain ⟨bs, hbs, -⟩ := hok.box;obtain ⟨A3, c3', hv3, -⟩ := OwnL.row hbs encT_len;rw [hcl] at hv1;have HOK := Lib.hid hok;have HDD := Lib.hid hd;clear hok hd hp hpl hcl hbs;obtain ⟨v1, pt, v3⟩ := d;dsimp only at *;subst hv1 hv3;unfold dealA at m2
   go_upto_region 5 with (first
    | (go_at_call 209; (with_reducible refine (m2.out _ HOK.out).mono ?_); rintro e w1 ⟨rfl, hb⟩; have hB2 := below_then hB hb; have c0 := cell_b hb c0; clear hB hb))
   have hN0 : ((N : Int) != (N : Int)) = false := by simp
   have hwi : IntKind.i64.wrap (i : Int) = (i : Int) := IntWalk.i64_in _ (by omega)
   go_quiet (first
    | (go_at_call 90; with_reducible exact Calls.quiet_of_same (m1.out _)))
   have hB3 := below_drewN hB2 nq;clear c0 c1 c2 hB2 m2;generalize w1.drewN nq = wq at hB3 ⊢;go_wp2_with fail;go_roundw
   case rel => exact ⟨i + 1, by omega, by go_num, hB3⟩
   case measure => simp [intOf]; omega
  ·obtain rfl : i = n := by omega
   go_wp2_with fail;go_ret;exact ⟨congrArg (fun b => Ending.returned (.bool b)) (decide_eq_true (show 0 < i by omega)), hB⟩
def colG (P : List (List Nat)) (j : Nat) : List Nat := P.map fun p => gP (p.getD j 0)
def colN (P : List (List Nat)) (j : Nat) : List Nat := P.map fun p => p.getD j 0
theorem colG_eq (P : List (List Nat)) (j : Nat) : colG P j = (colN P j).map gP := by simp [colG, colN]
theorem mixN_snoc : ∀ (a b : List Nat) (x y o : Nat), a.length = b.length → mixN (a ++ [x]) (b ++ [y]) o = mixN a b o * pm pG 64 x y % pG
 | [], [], _, _, _, _ => rfl
 | [], _ :: _, _, _, _, h => by simp at h
 | _ :: _, [], _, _, _, h => by simp at h
 | c :: a, f :: b, x, y, o, h => by
   show mixN (a ++ [x]) (b ++ [y]) (o * pm pG 64 c f % pG) = mixN a b (o * pm pG 64 c f % pG) * pm pG 64 x y % pG;exact mixN_snoc a b x y _ (by simpa using h)
def mixL (fs : List Nat) (P : List (List Nat)) (need : Nat) : List Nat := (List.range need).map fun j => mixN (colG P j) fs 1
theorem mixL_len (fs : List Nat) (P : List (List Nat)) (need : Nat) : (mixL fs P need).length = need := by simp [mixL]
theorem mixL_succ (fs : List Nat) (P : List (List Nat)) (need : Nat) : mixL fs P (need + 1) = mixL fs P need ++ [mixN (colG P need) fs 1] := by simp [mixL, List.range_succ]
def MixedPost (fs : List Nat) (P : List (List Nat)) (need : Nat) (w : World) (e : Ending) (w' : World) : Prop := ∃ v : Value, e = .returned v ∧ OwnI w.heap.size w' v (intsN (mixL fs P need)) ∧ Below w.heap.size w w'
theorem rmixed_q (A AF : Option Addr) (n c nF cF : Nat) (ds : List Dl) (P : List (List Nat)) (fs : List Nat) (need T B : Nat) (hn2 : n ≤ 1000) (hF : nF = n) (hneed : need ≤ 1000) (hP : PolyOK P need) (hfs : ∀ f ∈ fs, f < qG) (w : World) (hr : RowD w A n c ds) (hD : DealsOK B w ds P T) (hf : RowN w AF nF cF fs) :
 Calls Tryz.prog 159 #[.slice A n c, .slice AF nF cF, .int .i64 (need : Int)] w (MixedPost fs P need w) := by
 subst hF;have hl := hr.len;have hfl := rowN_len hf;have HR := Lib.hid hr;have HD := Lib.hid hD;have HP := Lib.hid hP;have HF := Lib.hid hf;have HFS := Lib.hid hfs;have q1 := Lib.hid rPowP_q;have q2 := Lib.hid rMulP_q;have hB := Below.refl w.heap.size w;have hPl : P.length = nF := by rw [← hD.len, hl]
 clear hr hD hP hf hfs;go_enter Tryz.func159, Tryz.ntmps159;go_wp2_with fail
 go_loopw [7, 8, 9, 10] (fun s7 s8 _ _ wr => ∃ j : Nat, j ≤ need ∧ s8 = .int .i64 (j : Int) ∧ OwnI w.heap.size wr s7 (intsN (mixL fs P j)) ∧ Below w.heap.size w wr) (fun _ s8 _ _ _ => need - (intOf s8).toNat)
 case atStart => exact ⟨0, by omega, rfl, OwnL.nil_ _ _ _ _ _, hB⟩
 case round =>
  clear hB;obtain ⟨j, hj, rfl, ho, hB⟩ := hrel
  by_cases hlt : j < need
  ·have hlt' : (j : Int) < (need : Int) := by omega
   go_wp2_with fail
   go_loopw [9, 10] (fun s9 s10 wz => ∃ i c' : Nat, i ≤ nF ∧ s10 = .int .i64 (i : Int) ∧ s9 = .int .i64 (c' : Int) ∧ Hid (c' = mixN ((colG P j).take i) (fs.take i) 1) ∧ Below wr.heap.size wr wz) (fun _ s10 _ => nF - (intOf s10).toNat)
   case atStart => exact ⟨0, 1, by omega, rfl, rfl, Lib.hid rfl, Below.refl _ _⟩
   case round =>
    obtain ⟨i, c', hi, rfl, rfl, HC, hb⟩ := hrel
    by_cases hin : i < nF
    ·have hin' : (i : Int) < (nF : Int) := by omega
     have hB2 := below_then hB hb;obtain ⟨b, o, d, rfl, hd, c0, -, -⟩ := rowD_at (HR.out.below hB2) hin;obtain ⟨bf, of, f, rfl, hff, cf⟩ := rowN_at (HF.out.below hB2) hin;obtain ⟨p, hp⟩ : ∃ p, P[i]? = some p := ⟨_, List.getElem?_eq_getElem (by omega)⟩;have hok := (HD.out.one i d p hd hp).below hB2;have hpl := HP.out.len p (List.mem_of_getElem? hp);obtain ⟨A1, c1', hv1, hrow⟩ := OwnL.row hok.com encI_len;rw [intsN_len, List.length_map, hpl] at hv1 hrow;obtain ⟨b1, o1, y, hA1, hy, cy⟩ := rowN_at (show RowN _ A1 need c1' (p.map gP) from hrow) hlt;subst hA1;rw [hv1] at c0;have hfq := HFS.out f (List.mem_of_getElem? hff);have hql := qG_lit;have p1 := Lib.hid (q1.out y f (by omega));have p2 := Lib.hid (q2.out c' (pm pG 64 y f))
     have HN : Hid (c' * pm pG 64 y f % pG = mixN ((colG P j).take (i + 1)) (fs.take (i + 1)) 1) := Lib.hid (by
      have e1 : (colG P j).take (i + 1) = (colG P j).take i ++ [y] := by
       rw [List.take_add_one]
       congr 1
       unfold colG;rw [List.getElem?_map, hp];rw [List.getElem?_map, Option.map_eq_some_iff] at hy;obtain ⟨z, hz, rfl⟩ := hy;rw [Option.map_some, List.getD_eq_getElem?_getD, hz]; rfl
      have e2 : fs.take (i + 1) = fs.take i ++ [f] := by rw [List.take_add_one, hff]; rfl
      rw [e1, e2, mixN_snoc _ _ _ _ _ (by rw [List.length_take, List.length_take]; unfold colG; rw [List.length_map]; omega), HC.out])
     have hwi : IntKind.i64.wrap (i : Int) = (i : Int) := IntWalk.i64_in _ (by omega);have hwj : IntKind.i64.wrap (j : Int) = (j : Int) := IntWalk.i64_in _ (by omega);clear hd hff hp hok hpl hrow hy hv1 hql hfq;generalize c' * pm pG 64 y f % pG = z at *;generalize pm pG 64 y f = u at *;go_upto_region 9 with fail
     go_quiet (first
      | (go_at_call 75; with_reducible exact Calls.quiet_of_same (p1.out _))
      | (go_at_call 102; with_reducible exact Calls.quiet_of_same (p2.out _)))
     have hb2 := below_drewN hb nq;clear c0 cf cy;generalize World.drewN _ nq = wq at hb2 ⊢;go_wp2_with fail;go_roundw
     case rel => exact ⟨i + 1, z, by omega, by go_num, rfl, HN, hb2⟩
     case measure => simp [intOf]; omega
    ·obtain rfl : i = nF := by omega
     have HE : Hid (mixL fs P (j + 1) = mixL fs P j ++ [c']) := Lib.hid (by
      rw [mixL_succ, HC.out, List.take_of_length_le (by unfold colG; rw [List.length_map]; omega), List.take_of_length_le (by omega)])
     have hB2 := below_then hB hb;have hoo := ho.below hb;have hll : (intsN (mixL fs P j)).length ≤ 1000 := by rw [intsN_len, mixL_len]; omega
     go_wp2_with (refine wp_append_row (enc := encI) Tryz.underlying25 int_info rfl (by decide) (by decide) rfl _ _ rfl (c' : Int) rfl rfl (encI_one _) rfl hoo rfl (by omega) hB2.size ?_; intro v6 w6 ho6 hg6);go_roundw
     case rel => exact ⟨j + 1, by omega, by go_num, by rw [HE.out, intsN_snoc]; exact ho6, hB2.grown hg6 hB2.size (own_high hoo)⟩
     case measure => simp [intOf]; omega
  ·obtain rfl : j = need := by omega
   go_wp2_with fail;go_ret;exact ⟨_, rfl, ho, hB⟩
theorem OwnL.block_fresh {α : Type} {enc : α → List Value} {e : TypeId} {s B : Nat} {w : World} {v : Value} {l : List α} (h : OwnL enc e s B w v l) {g : Nat} (hg : g < B) : v.ownBlock = none ∨ v.ownBlock ≠ some g := .inr (fun e => by have := own_high h g e; omega)
theorem ListI.far {B : Nat} {w w' : World} {vs : List Value} {ls : List (List Int)} (h : ListI B w vs ls) {g : Nat} {t : TypeId} {c : Array Value} (hk : Blk w g t c) (h1 : t ≠ 3) (hgr : w.grownBy w' (some g)) : ListI B w' vs ls := ⟨h.len, fun i v l hv hl => OwnL.kept (h.one i v l hv hl) hgr (.inr (Ne.symm (own_ty (h.one i v l hv hl) hk h1)))⟩
theorem ListI.le {B B' : Nat} {w : World} {vs : List Value} {ls : List (List Int)} (h : ListI B' w vs ls) (hB : B ≤ B') : ListI B w vs ls := ⟨h.len, fun i v l hv hl => (h.one i v l hv hl).le hB⟩
theorem results_keys {fn : Func} {tmps : Array Value} {w : World} {s r k : Nat} {t : TypeId} {u v y : Value} (hr : fn.results = #[.cell s 44, .tmp r]) (hs : tmps[s]?.getD undef = .pointer (some ⟨k, 0, none⟩)) (hy : tmps[r]?.getD undef = y) (hb : Blk w k t #[u, v]) :
 (results fn tmps).run Tryz.prog w = .ok (.tuple #[.agg #[u, v], y]) w := by
 have h0 : w.cell? ⟨k, 0, none⟩ = some u := hb.cell 0;have h1 : w.cell? ⟨k, 1, none⟩ = some v := hb.cell 1
 simp [results, hr, hs, hy, go_sem, h0, h1]
def onesL (n : Nat) : List Nat := List.replicate n 1
def KeysPost (ls : List Nat) (ms : List Mem) (w : World) (e : Ending) (w' : World) : Prop :=
 ∃ (vc vp : Value) (vs : List Value), e = .returned (.tuple #[.agg #[vc, vp], .bool true]) ∧ OwnI w.heap.size w' vc (intsN ls) ∧ OwnV w.heap.size w' vp vs ∧ ListI w.heap.size w' vs (pointsL 1 ms) ∧ Below w.heap.size w w'
theorem qone : (1 : Nat) < qG := qG_gt
theorem rBegin_q (A A2 : Option Addr) (n c n2 c2 : Nat) (ms : List Mem) (ds : List Dl) (P : List (List Nat)) (T B : Nat) (hM : RightM ms) (hI : I64M ms) (hT : totW ms = (T : Int)) (hn1 : 1 ≤ n2) (hn2 : n2 ≤ 1000) (hP : PolyOK P (needN T)) (w : World) (hr : RowM w A n c ms) (hd : RowD w A2 n2 c2 ds) (hD : DealsOK B w ds P T) :
 Calls Tryz.prog 96 #[.slice A n c, .slice A2 n2 c2] w (KeysPost (mixL (onesL n2) P (needN T)) ms w) := by
 have hl := hr.len;obtain ⟨e1, e2, e3⟩ := totR_right hM;rw [hT] at e1 e2 e3;have hn13 : n ≤ 13 := by have := hM.hi; omega
 have m1 := Lib.hid (fun W h => rtotal_q A n c ms (by omega) hI W h);rw [e1] at m1;have m2 := Lib.hid (fun W h1 h2 => rfits_q A2 n2 c2 ds P T B hn1 hn2 (by omega) (by omega) hP W h1 h2);have m3 := Lib.hid (fun W h => rPoints_q A n c ms (by omega) hI W h);have m4 := Lib.hid (rNeed_q T (by omega));obtain ⟨N, hN, hN2⟩ : ∃ N, N = needN T ∧ N ≤ 1000 := ⟨needN T, rfl, by unfold needN; split <;> omega⟩;rw [← hN] at m4 ⊢;rw [← hN] at hP;have m5 := Lib.hid (fun (AF : Option Addr) (cF : Nat) W h1 h2 h3 => rmixed_q A2 AF n2 c2 n2 cF ds P (onesL n2) N T B hn2 rfl hN2 hP (fun f hf => by rw [(List.mem_replicate.1 hf).2]; exact qone) W h1 h2 h3);have HR := Lib.hid hr;have HD := Lib.hid (And.intro hd hD);have HOK := Lib.hid (rightM_iff.2 hM);have hT0 : ((T : Int) == 0) = false := by rw [beq_eq_false_iff_ne]; omega
 clear hr hd hD hP hM hN hI hT e1 e2 e3;go_enter Tryz.func96, Tryz.ntmps96;go_upto_region 1 with fail;refine name1p ?_;intro W0 k4 hB;obtain ⟨g, hg⟩ := exq w.heap.size;have hg1 : g < W0.heap.size := by rw [hg]; exact k4.lt
 rw [← hg] at k4 ⊢;have hgB : w.heap.size ≤ g := by omega
 clear hg
 go_upto_region 5 with (first
  | (go_at_call 91; (with_reducible refine (m1.out _ (HR.out.below hB)).mono ?_); rintro e w1 ⟨rfl, hb⟩; replace k4 := k4.below hb k4.lt; replace hB := below_then hB hb; clear hb)
  | (go_at_call 158; (with_reducible refine (m2.out _ (HD.out.1.below hB) (HD.out.2.below hB)).mono ?_); rintro e w2 ⟨rfl, hb⟩; replace k4 := k4.below hb k4.lt; replace hB := below_then hB hb; clear hb))
 clear m1 m2;go_wp2_with fail
 go_loopw [8, 9] (fun s8 s9 wr => ∃ i : Nat, i ≤ n2 ∧ s9 = .int .i64 (i : Int) ∧ OwnI w.heap.size wr s8 (intsN (onesL i)) ∧ Blk wr g 44 #[.slice none 0 0, .slice none 0 0] ∧ Below w.heap.size w wr) (fun _ s9 _ => n2 - (intOf s9).toNat)
 case atStart => exact ⟨0, by omega, rfl, OwnL.nil_ _ _ _ _ _, k4, hB⟩
 case round =>
  clear k4 hB;obtain ⟨i, hi, rfl, ho, k4, hB⟩ := hrel
  by_cases hlt : i < n2
  ·have hlt' : (i : Int) < (n2 : Int) := by omega
   have hll : (intsN (onesL i)).length ≤ 1000 := by rw [intsN_len]; unfold onesL; rw [List.length_replicate]; omega
   go_wp2_with (refine wp_append_row (enc := encI) Tryz.underlying25 int_info rfl (by decide) (by decide) rfl _ _ rfl (1 : Int) rfl rfl (encI_one _) rfl ho rfl (by omega) hB.size ?_; intro v6 w6 ho6 hg6);go_roundw
   case rel => exact ⟨i + 1, by omega, by go_num, by unfold onesL; rw [List.replicate_succ', intsN_snoc]; exact ho6, k4.grown hg6 (own_ty ho k4 (by decide)), hB.grown hg6 hB.size (own_high ho)⟩
   case measure => simp [intOf]; omega
  ·obtain rfl : i = n2 := by omega
   obtain ⟨AF, cF, rfl, -⟩ := OwnL.row ho encI_len;have hol : (intsN (onesL i)).length = i := by rw [intsN_len]; exact List.length_replicate ..
   rw [hol] at ho ⊢;clear hol
   go_wp2_with (first
    | (go_at_call 79; (refine (m3.out _ (HR.out.below hB)).mono ?_); rintro e w3 ⟨vp, vs, rfl, hov, hL, hb⟩; rw [HOK.out] at hL ⊢; replace hov := hov.le hB.size; replace hL := hL.le hB.size; replace ho := ho.below hb; replace k4 := k4.below hb k4.lt; replace hB := below_then hB hb; clear hb m3; obtain ⟨Ap, cp, rfl, -⟩ := OwnL.row hov encV_len)
    | (go_at_call 90; (with_reducible refine (m4.out _).mono ?_); rintro e w4 ⟨rfl, hww⟩; obtain rfl := hww.symm)
    | (go_at_call 159; (refine (m5.out AF cF _ (HD.out.1.below hB) (HD.out.2.below hB) (rowN_own ho)).mono ?_); rintro e w5 ⟨vc, rfl, hoc, hb⟩; replace hoc := hoc.le hB.size; replace hov := hov.below hb; replace hL := hL.below hb; replace ho := ho.below hb; replace k4 := k4.below hb k4.lt; replace hB := below_then hB hb; clear hb m5; obtain ⟨Ac, cc, rfl, -⟩ := OwnL.row hoc encI_len; have x0 := k4.cell 0; have x1 := k4.cell 1; have f0 := k4.frozen 0; have f1 := k4.frozen 1))
   have kS : Blk _ g 44 #[.slice Ac (intsN (mixL (onesL i) P N)).length cc, .slice Ap vs.length cp] := (k4.set_ 0 (.slice Ac (intsN (mixL (onesL i) P N)).length cc)).set_ 1 (.slice Ap vs.length cp);have hgS := grown_set (grown_set (grown_refl w5 (some g)) 0 (.slice Ac (intsN (mixL (onesL i) P N)).length cc)) 1 (.slice Ap vs.length cp);refine bodyPost_ret (results_keys rfl rfl rfl kS) rfl ?_;exact ⟨_, _, vs, rfl, OwnL.kept hoc hgS (.inr (Ne.symm (own_ty hoc k4 (by decide)))), OwnL.kept hov hgS (.inr (Ne.symm (own_ty hov k4 (by decide)))), hL.far k4 (by decide) hgS, hB.grown hgS hB.size (fun j e => by cases e; exact hgB)⟩
end Go.Proofs.YtkpinmejfdnhbaaGreatDoor
