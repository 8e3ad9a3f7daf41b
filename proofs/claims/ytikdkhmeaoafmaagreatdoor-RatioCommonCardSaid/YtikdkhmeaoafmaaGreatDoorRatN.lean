/- Sums of lists of ratios. -/
import Derived.Test.YtikdkhmeaoafmaaGreatDoorRatM
namespace Go.Proofs.YtikdkhmeaoafmaaGreatDoor
open Go.RowKit

/-- The sum of a list. -/
def sumQ (xs : List Rw) : Rat := xs.foldl (fun x r => x + ratOf r.1 r.2.1 r.2.2) 0
theorem sum_snoc {xs : List Rw} {k : Nat} {r : Rw} (h : xs[k]? = some r) : sumQ (xs.take (k + 1)) = sumQ (xs.take k) + ratOf r.1 r.2.1 r.2.2 := by
  unfold sumQ
  rw [List.take_add_one, h, List.foldl_append]; rfl
theorem sum_sm {xs : List Rw} (hs : Shorts xs) : ∀ k, k ≤ xs.length → Sm (21 * k + 1) (sumQ (xs.take k))
  | 0, _ => sm_zero _ (by omega)
  | k + 1, hk => by
    have hl : k < xs.length := by omega
    have e := List.getElem?_eq_getElem hl
    rw [sum_snoc e]
    have h1 := sum_sm hs k (by omega)
    have h2 := hs _ (List.mem_of_getElem? e)
    exact (h1.add (sm_of h2.1 h2.2 (by omega))).mono (by omega)
/-- One step of a sum, in words. -/
theorem sum_step {F : FuncId} (H : ∀ (g : Bool) (a b : ByteArray) (h : Bool) (c d : ByteArray), a.size ≤ 300 → b.size ≤ 300 → c.size ≤ 300 → d.size ≤ 300 → Ret F #[ratW g a b, ratW h c d] (ratV (ratOf g a b + ratOf h c d)))
    {xs : List Rw} {n k : Nat} {g : Bool} {a b : ByteArray} {r : Rw} (hs : Shorts xs) (hl : xs.length = n) (hn : n ≤ 13) (hk : k < n) (e : ratV (sumQ (xs.take k)) = ratW g a b) (hr : xs[k]? = some r) :
    ∃ (g' : Bool) (a' b' : ByteArray), ratV (sumQ (xs.take (k + 1))) = ratW g' a' b' ∧ Ret F #[ratW g a b, ratW r.1 r.2.1 r.2.2] (ratW g' a' b') := by
  have h0 := (sum_sm hs k (by omega)).mono (k := 300) (by omega)
  obtain ⟨g1, a1, b1, e1, -, -, -, s1, s2, o1⟩ := words h0
  rw [e1] at e
  simp only [Value.agg.injEq, Array.mk.injEq, List.cons.injEq, Value.bool.injEq, Value.string.injEq, and_true] at e
  obtain ⟨rfl, rfl, rfl⟩ := e
  have h2 := hs _ (List.mem_of_getElem? hr)
  obtain ⟨g', a', b', e', -⟩ := words ((sum_sm hs (k + 1) (by omega)).mono (k := 300) (by omega))
  refine ⟨g', a', b', e', ?_⟩
  have p := H g1 a1 b1 r.1 r.2.1 r.2.2 s1 s2 (Nat.le_trans h2.1 (by omega)) (Nat.le_trans h2.2 (by omega))
  rw [o1, ← sum_snoc hr, e'] at p
  exact p
theorem zero_words (xs : List Rw) : ratV (sumQ (xs.take 0)) = ratW false ⟨#[]⟩ ⟨#[1]⟩ := rfl

set_option maxRecDepth 100000 in
set_option maxHeartbeats 1000000 in
theorem foldR_q (A : Option Addr) (n c : Nat) (xs : List Rw) (w : World) (h : RDg w A n c xs) (hn : n ≤ 13) (hs : Shorts xs) :
    Calls Tryz.prog 72 #[.slice A n c, .agg #[.bool false, .string ⟨#[]⟩, .string ⟨#[1]⟩], .func (.func 27) #[] #[]] w fun e w' => e = .returned (ratV (sumQ xs)) ∧ Below w.heap.size w w' := by
  have HS := Lib.hid hs
  clear hs
  go_enter Tryz.func72, Tryz.ntmps72
  go_upto_region 1 with fail
  obtain ⟨W0, hW0, hka, hkr, hB⟩ : ∃ W0 : World, (w.alloc (.cells #[.bool false, .string ⟨#[]⟩, .string ⟨#[1]⟩] 27)).alloc (.cells #[.bool false, .string ⟨#[]⟩, .string ⟨#[]⟩] 27) = W0 ∧
      R3 W0 w.heap.size false ⟨#[]⟩ ⟨#[1]⟩ ∧ R3 W0 (w.heap.size + 1) false ⟨#[]⟩ ⟨#[]⟩ ∧ Below w.heap.size w W0 :=
    ⟨_, rfl, (Blk.new _ _ _).alloc _, Blk.new2 _ _ _ _, below_al (below_al (Below.refl _ _) _) _⟩
  rw [hW0]
  clear hW0
  go_wp2_with fail
  go_loopw [8, 11] (fun _ s11 wr => ∃ k : Nat, k ≤ n ∧ s11 = .int .i64 (k : Int) ∧ (∃ (g : Bool) (a b : ByteArray), Hid (ratV (sumQ (xs.take k)) = ratW g a b) ∧ R3 wr w.heap.size g a b) ∧ R3 wr (w.heap.size + 1) false ⟨#[]⟩ ⟨#[]⟩ ∧ Below w.heap.size w wr) (fun _ s11 _ => n - (intOf s11).toNat)
  case atStart => exact ⟨0, Nat.zero_le _, rfl, ⟨_, _, _, Lib.hid (zero_words xs), hka⟩, hkr, hB⟩
  case round =>
    clear hka hkr hB
    obtain ⟨k, hk, rfl, ⟨g, a, b, HE, hka⟩, hkr, hbw⟩ := hrel
    by_cases hlt : k < n
    · obtain ⟨bk, o, rg, ra, rd, rfl, hxk, c0, c1, c2⟩ := (h.below hbw).get hlt
      obtain ⟨g', a', b', e', p⟩ := sum_step Add_q HS.out h.len hn hlt HE.out hxk
      have m1 := Lib.hid p
      have HE' := Lib.hid e'
      clear p e' hxk
      obtain ⟨chka0, chka1, chka2⟩ := cells3 hka (Below.refl _ _)
      have hsz := hka.lt
      go_wp2_with fail
      refine (m1.out _).mono ?_
      rintro e w1 ⟨rfl, hb1⟩
      replace hka := (hka.alloc (.cells #[.bool rg, .string ra, .string rd] 27)).belowK hb1
      replace hkr := (hkr.alloc (.cells #[.bool rg, .string ra, .string rd] 27)).belowK hb1
      replace hbw := below_then (below_al hbw _) hb1
      clear hb1 chka0 chka1 chka2
      obtain ⟨chka0, chka1, chka2⟩ := cells3 hka (Below.refl _ _)
      obtain ⟨fka0, fka1, fka2⟩ := free3 hka (Below.refl _ _)
      go_wp2_with fail
      go_roundw
      case rel => exact ⟨k + 1, by omega, by go_num, ⟨_, _, _, HE', hka.put3 _ _ _⟩, hkr.far3 (by omega) _ _ _, below_put3 hbw (Nat.le_refl _) _ _ _⟩
      case measure => simp [intOf]; omega
    · obtain rfl : k = n := by omega
      have HT : Hid (xs.take k = xs) := Lib.hid (List.take_of_length_le (by rw [h.len]; exact Nat.le_refl _))
      rw [HT.out] at HE
      obtain ⟨chka0, chka1, chka2⟩ := cells3 hka (Below.refl _ _)
      obtain ⟨fkr0, fkr1, fkr2⟩ := free3 hkr (Below.refl _ _)
      obtain ⟨ckr0, ckr1, ckr2⟩ := cells3 hkr (Below.refl _ _)
      go_wp2_with fail
      refine bodyPost_ret (results_rat rfl rfl (hkr.put3 _ _ _)) rfl ?_
      exact ⟨by rw [HE.out], below_put3 hbw (by omega) _ _ _⟩

set_option maxRecDepth 100000 in
set_option maxHeartbeats 1000000 in
theorem Sum_q (A : Option Addr) (n c : Nat) (xs : List Rw) (w : World) (h : RDg w A n c xs) (hn : n ≤ 13) (hs : Shorts xs) :
    Calls Tryz.prog 28 #[.slice A n c] w fun e w' => e = .returned (ratV (sumQ xs)) ∧ Below w.heap.size w w' := by
  have m1 : Hid (Ret 73 #[] (ratW false ⟨#[]⟩ ⟨#[1]⟩)) := Lib.hid zero_any
  have HF := Lib.hid (fun (W : World) (k : RDg W A n c xs) => foldR_q A n c xs W k hn hs)
  obtain ⟨g, a, b, e, -⟩ := words ((sum_sm hs n (by rw [h.len]; exact Nat.le_refl _)).mono (k := 300) (by omega))
  rw [List.take_of_length_le (by rw [h.len]; exact Nat.le_refl _)] at e
  rw [e] at HF ⊢
  clear e
  go_enter Tryz.func28, Tryz.ntmps28
  go_upto_region 1 with fail
  obtain ⟨W0, hW0, hkr, hB⟩ : ∃ W0 : World, w.alloc (.cells #[.bool false, .string ⟨#[]⟩, .string ⟨#[]⟩] 27) = W0 ∧ R3 W0 w.heap.size false ⟨#[]⟩ ⟨#[]⟩ ∧ Below w.heap.size w W0 :=
    ⟨_, rfl, Blk.new _ _ _, below_al (Below.refl _ _) _⟩
  rw [hW0]
  clear hW0
  go_wp2_with fail
  refine (m1.out _).mono ?_
  rintro e w1 ⟨rfl, hb1⟩
  replace hkr := hkr.belowK hb1
  replace hB := below_then hB hb1
  clear hb1
  go_wp2_with fail
  refine (HF.out _ (h.below hB)).mono ?_
  rintro e w2 ⟨rfl, hb1⟩
  replace hkr := hkr.belowK hb1
  replace hB := below_then hB hb1
  clear hb1
  obtain ⟨fkr0, fkr1, fkr2⟩ := free3 hkr (Below.refl _ _)
  obtain ⟨ckr0, ckr1, ckr2⟩ := cells3 hkr (Below.refl _ _)
  go_wp2_with fail
  refine bodyPost_ret (results_rat rfl rfl (hkr.put3 _ _ _)) rfl ?_
  exact ⟨rfl, below_put3 hB (Nat.le_refl _) _ _ _⟩

set_option maxRecDepth 100000 in
set_option maxHeartbeats 1000000 in
theorem rSum_q (A : Option Addr) (n c : Nat) (xs : List Rw) (w : World) (h : RDg w A n c xs) (hn : n ≤ 13) (hs : Shorts xs) :
    Calls Tryz.prog 43 #[.slice A n c] w fun e w' => e = .returned (ratV (sumQ xs)) ∧ Below w.heap.size w w' := by
  have HS := Lib.hid hs
  clear hs
  have m0 : Hid (Ret 21 #[.int .i64 0] (ratW false ⟨#[]⟩ ⟨#[1]⟩)) := Lib.hid (rOf_q 0 (by omega) (by omega))
  go_enter Tryz.func43, Tryz.ntmps43
  go_upto_region 1 with fail
  obtain ⟨W0, hW0, hkr, hB⟩ : ∃ W0 : World, w.alloc (.cells #[.bool false, .string ⟨#[]⟩, .string ⟨#[]⟩] 27) = W0 ∧ R3 W0 w.heap.size false ⟨#[]⟩ ⟨#[]⟩ ∧ Below w.heap.size w W0 :=
    ⟨_, rfl, Blk.new _ _ _, below_al (Below.refl _ _) _⟩
  rw [hW0]
  clear hW0
  go_wp2_with fail
  refine (m0.out _).mono ?_
  rintro e w1 ⟨rfl, hb1⟩
  replace hkr := hkr.belowK hb1
  replace hB := below_then hB hb1
  clear hb1
  go_wp2_with fail
  have hka := Blk.new w1 27 #[.bool false, .string ⟨#[]⟩, .string ⟨#[1]⟩]
  have hgw := hB.size
  have hne := hkr.lt
  replace hB := below_al hB (.cells #[.bool false, .string ⟨#[]⟩, .string ⟨#[1]⟩] 27)
  replace hkr := hkr.alloc (.cells #[.bool false, .string ⟨#[]⟩, .string ⟨#[1]⟩] 27)
  generalize w1.alloc (.cells #[.bool false, .string ⟨#[]⟩, .string ⟨#[1]⟩] 27) = wa at hka hkr hB ⊢
  generalize w1.heap.size = ka at hka hgw hne ⊢
  go_loopw [4] (fun s4 wr => ∃ k : Nat, k ≤ n ∧ s4 = .int .i64 (k : Int) ∧ (∃ (g : Bool) (a b : ByteArray), Hid (ratV (sumQ (xs.take k)) = ratW g a b) ∧ R3 wr ka g a b) ∧ R3 wr w.heap.size false ⟨#[]⟩ ⟨#[]⟩ ∧ Below w.heap.size w wr) (fun s4 _ => n - (intOf s4).toNat)
  case atStart => exact ⟨0, Nat.zero_le _, rfl, ⟨_, _, _, Lib.hid (zero_words xs), hka⟩, hkr, hB⟩
  case round =>
    clear hka hkr hB
    obtain ⟨k, hk, rfl, ⟨g, a, b, HE, hka⟩, hkr, hbw⟩ := hrel
    by_cases hlt : k < n
    · obtain ⟨bk, o, rg, ra, rd, rfl, hxk, c0, c1, c2⟩ := (h.below hbw).get hlt
      obtain ⟨g', a', b', e', p⟩ := sum_step rAdd_q HS.out h.len hn hlt HE.out hxk
      have m1 := Lib.hid p
      have HE' := Lib.hid e'
      clear p e' hxk
      obtain ⟨chka0, chka1, chka2⟩ := cells3 hka (Below.refl _ _)
      have hj0 : (0 : Int) ≤ (k : Int) := by omega
      have hj1 : (k : Int) < (n : Int) := by omega
      go_upto_region 5 with fail
      go_region_with (first
        | (go_at_call 34; (with_reducible refine (m1.out _).mono ?_); rintro e v0 ⟨rfl, hz0⟩; have hl0 : Below wr.heap.size wr v0 := (by (repeat (first | exact Below.refl _ _ | apply Below.drew | refine below_then ?_ hz0))); obtain ⟨a00, a10, a20⟩ := cells3 hka hl0; obtain ⟨fa00, fa10, fa20⟩ := free3 hka hl0))
      all_goals go_wp2_with fail
      all_goals
        go_roundw
        case rel => exact ⟨k + 1, by omega, by go_num, ⟨_, _, _, HE', (hka.belowK hl0).put3 _ _ _⟩, (hkr.belowK hl0).far3 (by omega) _ _ _, below_put3 (below_then hbw hl0) hgw _ _ _⟩
        case measure => simp [intOf]; omega
    · obtain rfl : k = n := by omega
      have HT : Hid (xs.take k = xs) := Lib.hid (List.take_of_length_le (by rw [h.len]; exact Nat.le_refl _))
      rw [HT.out] at HE
      obtain ⟨chka0, chka1, chka2⟩ := cells3 hka (Below.refl _ _)
      obtain ⟨fkr0, fkr1, fkr2⟩ := free3 hkr (Below.refl _ _)
      obtain ⟨ckr0, ckr1, ckr2⟩ := cells3 hkr (Below.refl _ _)
      go_wp2_with fail
      refine bodyPost_ret (results_rat rfl rfl (hkr.put3 _ _ _)) rfl ?_
      exact ⟨by rw [HE.out], below_put3 hbw (Nat.le_refl _) _ _ _⟩

end Go.Proofs.YtikdkhmeaoafmaaGreatDoor
