/- The law RatioCommon: it returns true. -/
import Derived.Test.YtikdkhmeaoafmaaGreatDoorRatLawA
import Derived.Test.YtikdkhmeaoafmaaGreatDoorRatO
namespace Go.Proofs.YtikdkhmeaoafmaaGreatDoor
open Go.RowKit

/-- A ratio without its sign. -/
def posR (r : Rw) : Rw := (false, r.2.1, r.2.2)
theorem wrd_right {r : Rw} (h : Wrd r) : rRightB r.1 r.2.1 r.2.2 = true ∧ r.2.1.size ≤ 20 ∧ r.2.2.size ≤ 20 := by
  obtain ⟨x, hx, e⟩ := h
  obtain ⟨g, a, b, e2, -, -, -, s1, s2, -⟩ := words hx
  have h := (ratOf_words x).1
  rw [e] at e2
  unfold ratV at e
  simp only [Value.agg.injEq, Array.mk.injEq, List.cons.injEq, Value.bool.injEq, Value.string.injEq, and_true] at e e2
  rw [e.1, e.2.1, e.2.2] at h
  exact ⟨h, e2.2.1 ▸ s1, e2.2.2 ▸ s2⟩
theorem pos_ok {r : Rw} (h : Wrd r) : okR (posR r) = true := by
  have ht := (wrd_right h).1
  show (rRightB false r.2.1 r.2.2 && !false) = true
  rw [Bool.not_false, Bool.and_true]
  unfold rRightB at *
  simp only [Bool.and_eq_true] at *
  exact ⟨⟨ht.1.1, by simp⟩, ht.2⟩
theorem pos_all {xs : List Rw} (h : ∀ r ∈ xs, Wrd r) : okL (xs.map posR) = true := by
  unfold okL
  rw [List.all_eq_true]
  intro r hr
  obtain ⟨q, hq, rfl⟩ := List.mem_map.1 hr
  exact pos_ok (h q hq)
theorem pos_shorts {xs : List Rw} (h : ∀ r ∈ xs, Wrd r) : Shorts (xs.map posR) := fun r hr => by
  obtain ⟨q, hq, rfl⟩ := List.mem_map.1 hr
  exact (wrd_right (h q hq)).2
theorem wrd_shorts {xs : List Rw} (h : ∀ r ∈ xs, Wrd r) : Shorts xs := fun r hr => (wrd_right (h r hr)).2
theorem lcmS_dvd (d : Nat) (x : Rw) : d ∣ lcmS d x ∧ sval x.2.2 ∣ lcmS d x := by
  unfold lcmS
  refine ⟨Nat.dvd_mul_right _ _, ?_⟩
  obtain ⟨k, hk⟩ := Nat.gcd_dvd_left d (sval x.2.2)
  have h3 : sval x.2.2 / Nat.gcd d (sval x.2.2) * Nat.gcd d (sval x.2.2) = sval x.2.2 := Nat.div_mul_cancel (Nat.gcd_dvd_right d (sval x.2.2))
  refine ⟨k, ?_⟩
  generalize Nat.gcd d (sval x.2.2) = g at hk h3 ⊢
  rw [hk, Nat.mul_right_comm, Nat.mul_comm g, h3]
theorem fold_dvd : ∀ (xs : List Rw) (d : Nat), d ∣ xs.foldl lcmS d ∧ ∀ x ∈ xs, sval x.2.2 ∣ xs.foldl lcmS d
  | [], d => ⟨Nat.dvd_refl _, fun x hx => by cases hx⟩
  | y :: xs, d => by
    obtain ⟨h1, h2⟩ := fold_dvd xs (lcmS d y)
    obtain ⟨h3, h4⟩ := lcmS_dvd d y
    refine ⟨Nat.dvd_trans h3 h1, fun x hx => ?_⟩
    rcases List.mem_cons.1 hx with rfl | hx
    · exact Nat.dvd_trans h4 h1
    · exact h2 x hx
/-- A numerator over the common denominator is the element. -/
theorem make_part {xs : List Rw} {k : Nat} {x : Rw} (hs : Shorts xs) (hn : xs.length ≤ 13) (hok : okL xs = true) (hx : xs[k]? = some x) : Ret 17 #[.bool false, .string (natS (lcmL xs / sval x.2.2 * sval x.2.1)), .string (natS (lcmL xs))] (.tuple #[ratW x.1 x.2.1 x.2.2, .bool true]) := by
  have hm := List.mem_of_getElem? hx
  have hd := ok_dens hs hok
  have hl := fold_lcm hd xs.length
  rw [List.take_length] at hl
  have hdv : sval x.2.2 ∣ lcmL xs := (fold_dvd xs 1).2 x hm
  have ho := List.all_eq_true.1 hok x hm
  obtain ⟨h20, h21⟩ := hs x hm
  have hden := (hd x hm).2
  have hr : rRightB x.1 x.2.1 x.2.2 = true ∧ x.1 = false := by
    unfold okR at ho
    simpa using ho
  have e1 : mkRat (signed false (sval (natS (lcmL xs / sval x.2.2 * sval x.2.1)))) (sval (natS (lcmL xs))) = ratOf x.1 x.2.1 x.2.2 := by
    unfold ratOf
    rw [if_pos hr.1, hr.2, sval_natS, sval_natS]
    refine (Rat.mkRat_eq_iff (show lcmL xs ≠ 0 from Nat.ne_of_gt hl.1) (Nat.ne_of_gt hden)).2 ?_
    show ((lcmL xs / sval x.2.2 * sval x.2.1 : Nat) : Int) * ((sval x.2.2 : Nat) : Int) = ((sval x.2.1 : Nat) : Int) * ((lcmL xs : Nat) : Int)
    rw [← Int.natCast_mul, ← Int.natCast_mul]
    congr 1
    rw [Nat.mul_right_comm, Nat.div_mul_cancel hdv, Nat.mul_comm]
  have s1 : (natS (lcmL xs)).size ≤ 1000 := Nat.le_trans (natS_size (P8_up hl.2 (k := 261) (by omega))) (by omega)
  have s2 : (natS (lcmL xs / sval x.2.2 * sval x.2.1)).size ≤ 1000 := Nat.le_trans (natS_size (P8_mul_lt (Nat.lt_of_le_of_lt (Nat.div_le_self _ _) (P8_up hl.2 (k := 261) (by omega))) (sval_le h20))) (by omega)
  have p := Make_q false (natS (lcmL xs / sval x.2.2 * sval x.2.1)) (natS (lcmL xs)) s2 s1 (by rw [e1]; exact sm_of (Nat.le_trans h20 (by omega)) (Nat.le_trans h21 (by omega)) (by omega))
  unfold makeQ at p
  rw [if_pos ⟨right_canon _, right_canon _, fun e => by
    have := (size_pos_sval (right_canon (lcmL xs))).1 e
    rw [sval_natS] at this
    exact absurd this (Nat.ne_of_gt hl.1)⟩, e1] at p
  rw [ratV_of hr.1] at p
  exact p

/-- Slices in an array that the call has made. -/
abbrev Sl := Option Addr × Nat × Nat × List Rw
def slA (l : List Sl) : Array Value := (l.map fun q => Value.slice q.1 q.2.1 q.2.2.1).toArray
/-- What the slices are. -/
def Sls (w : World) (l : List Sl) : Prop := ∀ q ∈ l, RDg w q.1 q.2.1 q.2.2.1 q.2.2.2 ∧ q.2.1 ≤ 13 ∧ Shorts q.2.2.2
theorem Sls.below {w w' : World} {l : List Sl} (h : Sls w l) (hb : Below w.heap.size w w') : Sls w' l := fun q hq => ⟨(h q hq).1.below hb, (h q hq).2⟩

theorem RDg.row {w : World} {A : Option Addr} {n c : Nat} {xs : List Rw} (h : RDg w A n c xs) : Row encR 3 w A n c xs := by
  refine ⟨h.len, h.cap, fun hn => ?_⟩
  obtain ⟨b, o, e, hc⟩ := h.at_ hn
  refine ⟨b, o, e, fun j k x u hx hu => ?_⟩
  obtain ⟨h0, h1, h2⟩ := hc j x hx
  match k, hu with
  | 0, hu => obtain rfl := Option.some.inj hu; exact h0
  | 1, hu => obtain rfl := Option.some.inj hu; exact h1
  | 2, hu => obtain rfl := Option.some.inj hu; exact h2
  | k + 3, hu => simp [encR] at hu
theorem blk_ne {w : World} {k j : Nat} {t u : TypeId} {cs ds : Array Value} (h : Blk w k t cs) (g : Blk w j u ds) (hne : ¬ (cs = ds ∧ t = u)) : k ≠ j := fun e => hne (by
  subst e
  have := Option.some.inj ((show w.heap[k]? = _ from h).symm.trans g)
  simp only [Obj.cells.injEq, and_true] at this
  exact this)
theorem own_ne {α : Type} {enc : α → List Value} {e t : TypeId} {s B k : Nat} {w : World} {v : Value} {l : List α} {cs : Array Value} (h : OwnL enc e s B w v l) (hb : Blk w k t cs) (hne : t ≠ e) : some k ≠ v.ownBlock := by
  rcases h.2 with ⟨rfl, _⟩ | ⟨g, cap, cur, rfl, _, hh, _⟩
  · simp [Value.ownBlock]
  · intro he
    simp only [Value.ownBlock, Option.some.injEq] at he
    subst he
    have := Option.some.inj ((show w.heap[k]? = _ from hb).symm.trans hh)
    simp only [Obj.cells.injEq, and_true] at this
    exact hne this.2
theorem sls_three {w : World} {A1 A2 A3 : Option Addr} {n1 n2 n3 c1 c2 c3 : Nat} {x1 x2 x3 : List Rw} (h1 : RDg w A1 n1 c1 x1) (k1 : n1 ≤ 13) (s1 : Shorts x1) (h2 : RDg w A2 n2 c2 x2) (k2 : n2 ≤ 13) (s2 : Shorts x2) (h3 : RDg w A3 n3 c3 x3) (k3 : n3 ≤ 13) (s3 : Shorts x3) : Sls w [(A1, n1, c1, x1), (A2, n2, c2, x2), (A3, n3, c3, x3)] := fun q hq => by
  simp only [List.mem_cons, List.not_mem_nil, or_false] at hq
  rcases hq with rfl | rfl | rfl
  · exact ⟨h1, k1, s1⟩
  · exact ⟨h2, k2, s2⟩
  · exact ⟨h3, k3, s3⟩
theorem shorts_snoc {xs : List Rw} {g : Bool} {a b : ByteArray} (h : Shorts xs) (ha : a.size ≤ 20) (hb : b.size ≤ 20) : Shorts (xs ++ [(g, a, b)]) := fun r hr => by
  rcases List.mem_append.1 hr with hr | hr
  · exact h r hr
  · obtain rfl := List.mem_singleton.1 hr
    exact ⟨ha, hb⟩
theorem new_raw (w : World) (g : Bool) (a b : ByteArray) : ∃ W0 : World, w.alloc (.cells #[.bool g, .string a, .string b] 27) = W0 ∧ R3 W0 w.heap.size g a b ∧ Below w.heap.size w W0 :=
  ⟨_, rfl, Blk.new _ _ _, below_al (Below.refl _ _) _⟩

set_option maxRecDepth 100000 in
set_option maxHeartbeats 4000000 in
theorem RatioCommon_any (A : Option Addr) (n c : Nat) (ts : List (Int × Int × Int)) (rg : Bool) (ru rv : ByteArray) (w : World) (ht : Pow10 w) (h : TDg w A n c ts) (hn : n ≤ 9223372036854775807) (hs : ru.size ≤ 9223372036854775807 ∧ rv.size ≤ 9223372036854775807) :
    Calls Tryz.prog 5 #[.slice A n c, ratW rg ru rv] w fun e w' => e = .returned (.bool true) ∧ Below w.heap.size w w' := by
  have HT := Lib.hid ht
  clear ht
  obtain ⟨hs0, hs1⟩ := hs
  obtain ⟨m0, hm0⟩ : ∃ m, m = min ru.size 10 := ⟨_, rfl⟩
  have z0 : (ru.extract 0 m0).size = m0 := by rw [ByteArray.size_extract]; omega
  have x0 : min (ru.size : Int) 10 = (m0 : Int) := by omega
  have y0 : m0 ≤ ru.size := by omega
  have k0 : (0 : Int) ≤ (m0 : Int) := by omega
  have l0 : (m0 : Int) ≤ (ru.size : Int) := by omega
  have j0 : m0 ≤ 20 := by omega
  clear hm0
  obtain ⟨ra, E0⟩ : ∃ s, ru.extract 0 m0 = s := ⟨_, rfl⟩
  have n0 : ra.size ≤ 20 := by rw [← E0]; omega
  clear z0
  have H0 := Lib.hid E0
  clear E0
  obtain ⟨m1, hm1⟩ : ∃ m, m = min rv.size 10 := ⟨_, rfl⟩
  have z1 : (rv.extract 0 m1).size = m1 := by rw [ByteArray.size_extract]; omega
  have x1 : min (rv.size : Int) 10 = (m1 : Int) := by omega
  have y1 : m1 ≤ rv.size := by omega
  have k1 : (0 : Int) ≤ (m1 : Int) := by omega
  have l1 : (m1 : Int) ≤ (rv.size : Int) := by omega
  have j1 : m1 ≤ 20 := by omega
  clear hm1
  obtain ⟨rb, E1⟩ : ∃ s, rv.extract 0 m1 = s := ⟨_, rfl⟩
  have n1 : rb.size ≤ 20 := by rw [← E1]; omega
  clear z1
  have H1 := Lib.hid E1
  clear E1
  go_enter Tryz.func5, Tryz.ntmps5
  go_upto_region 1 with fail
  obtain ⟨W0, hW0, hkr, hB⟩ := new_raw w rg ru rv
  rw [hW0]
  clear hW0
  go_upto_region 2 with (first
    | (go_at_call 10; (with_reducible refine (sanity_q _ (HT.out.below hB)).mono ?_); rintro e w' ⟨rfl, hb'⟩; replace hB := below_then hB hb'; replace hkr := hkr.belowK hb'; clear hb'))
  obtain ⟨ch0, ch1, ch2⟩ := cells3 hkr (Below.refl _ _)
  obtain ⟨fh0, fh1, fh2⟩ := free3 hkr (Below.refl _ _)
  go_upto_region 3 with fail
  rw [H0.out]
  clear ch0 ch1 ch2 fh0 fh1 fh2 H0
  replace hkr : R3 _ w.heap.size rg ra rv := hkr.set_ 1 (.string ra)
  replace hB := below_set (p := ⟨w.heap.size, 1, none⟩) hB (by simp) (.string ra)
  generalize w'.setCell ⟨w.heap.size, 1, none⟩ (.string ra) = w1 at hkr hB ⊢
  obtain ⟨ch0, ch1, ch2⟩ := cells3 hkr (Below.refl _ _)
  obtain ⟨fh0, fh1, fh2⟩ := free3 hkr (Below.refl _ _)
  go_upto_region 4 with fail
  rw [H1.out]
  clear ch0 ch1 ch2 fh0 fh1 fh2 H1 x0 y0 k0 l0 j0 x1 y1 k1 l1 j1 hs0 hs1
  replace hkr : R3 _ w.heap.size rg ra rb := hkr.set_ 2 (.string rb)
  replace hB := below_set (p := ⟨w.heap.size, 2, none⟩) hB (by simp) (.string rb)
  generalize w1.setCell ⟨w.heap.size, 2, none⟩ (.string rb) = w2 at hkr hB ⊢
  have HL := Lib.hid (fun (W : World) (k : TDg W A n c ts) => List_q A n c ts W k hn)
  go_wp2_with fail
  refine (HL.out _ (h.below hB)).mono ?_
  rintro e w3 ⟨A1, c1, xs, rfl, hx12, hxw, hd, hb'⟩
  replace hB := below_then hB hb'
  replace hkr := hkr.belowK hb'
  clear hb' HL
  have HXW := Lib.hid hxw
  clear hxw
  have hlx : xs.length ≤ 12 := hx12
  obtain ⟨nx, hnx⟩ : ∃ nx, xs.length = nx := ⟨_, rfl⟩
  rw [hnx] at hd hlx ⊢
  have HNX := Lib.hid hnx
  clear hnx hx12
  go_wp2_with fail
  go_loopw [7, 8, 9] (fun s7 s8 _ wr => ∃ k : Nat, k ≤ nx ∧ s8 = .int .i64 (k : Int) ∧ OwnR w3.heap.size wr s7 ((xs.take k).map posR) ∧ Below w3.heap.size w3 wr) (fun _ s8 _ _ => nx - (intOf s8).toNat)
  case atStart => exact ⟨0, Nat.zero_le _, rfl, OwnL.nil_ _ _ _ _ _, Below.refl _ _⟩
  case round =>
    obtain ⟨k, hk, rfl, hown, hbw⟩ := hrel
    by_cases hlt : k < nx
    · obtain ⟨b, o, g, a, d, rfl, hxk, c0, c1, c2⟩ := (hd.below hbw).get hlt
      have HS : Hid ((xs.take (k + 1)).map posR = (xs.take k).map posR ++ [(false, a, d)]) := Lib.hid (by rw [List.take_add_one, hxk, List.map_append]; rfl)
      have hgl : ((xs.take k).map posR).length ≤ 1000000 := by rw [List.length_map, List.length_take]; omega
      clear hxk
      have hj0 : (0 : Int) ≤ (k : Int) := by omega
      have hj1 : (k : Int) < (nx : Int) := by omega
      generalize (xs.take k).map posR = L at *
      go_upto_region 11 with fail
      have hkx := Blk.new wr 27 #[.bool false, .string a, .string d]
      replace hown := hown.below (below_al (Below.refl _ _) (.cells #[.bool false, .string a, .string d] 27))
      replace hbw := below_al hbw (.cells #[.bool false, .string a, .string d] 27)
      clear c0 c1 c2
      generalize wr.alloc (.cells #[.bool false, .string a, .string d] 27) = wx at hkx hown hbw ⊢
      generalize wr.heap.size = kx at hkx ⊢
      obtain ⟨ch0, ch1, ch2⟩ := cells3 hkx (Below.refl _ _)
      go_wp2_with (at_builtin; refine wp_append_row (enc := encR) Tryz.underlying43 rat_info rfl (by decide) (by decide) rfl _ _ rfl (false, a, d) rfl rfl (encR_one _) rfl hown rfl hgl hbw.size ?_; intro v1 w5 hown5 hg5)
      have hbw5 := below_own hbw hown hg5
      clear hg5 ch0 ch1 ch2 hkx hown hbw
      go_wp2_with fail
      go_roundw
      case rel => exact ⟨k + 1, by omega, by go_num, by rw [HS.out]; exact hown5, hbw5⟩
      case measure => simp [intOf]; omega
    · obtain rfl : k = nx := by omega
      have HTK : Hid (xs.take k = xs) := Lib.hid (List.take_of_length_le (by rw [HNX.out]; exact Nat.le_refl _))
      rw [HTK.out] at hown
      obtain ⟨GA, gc, rfl, hgd⟩ := OwnR.rdg hown
      have hgn : (xs.map posR).length = k := by rw [List.length_map]; exact HNX.out
      rw [hgn] at hgd ⊢
      clear hown HTK hgn
      replace hd := hd.below hbw
      replace hkr := hkr.belowK hbw
      replace hB := below_then hB hbw
      clear hbw
      have HGS := Lib.hid (pos_shorts HXW.out)
      have HGO := Lib.hid (pos_all HXW.out)
      have HXS := Lib.hid (wrd_shorts HXW.out)
      have HGN : Hid ((xs.map posR).length = k) := Lib.hid (by rw [List.length_map]; exact HNX.out)
      generalize xs.map posR = gs at *
      go_upto_region 12 with fail
      have HN6 : Hid ((gs ++ [(rg, ra, rb)]).length = k + 1) := Lib.hid (by rw [List.length_append, HGN.out]; rfl)
      go_cut [10] (fun s wx => ∃ (kl : Nat) (L : List Sl), s = .pointer (some ⟨kl, 0, none⟩) ∧ Blk wx kl 45 (slA L) ∧ L.length = 3 ∧ Hid (Sls wx L) ∧ Below wr.heap.size wr wx)
      case first =>
        refine wp_region_held_drew (S := fun W : World => Below wr.heap.size wr W) (by kernel_rfl) (Below.refl _ _).drew (fun hHeld => ?_)
        have hB : Below wr.heap.size wr wr.drew := hHeld
        generalize wr.drew = W at hB hHeld ⊢
        refine wpAnyH_take (i := 0) (oi := ⟨_, _, _, _, _, _⟩) (v := ?_) rfl (by kernel_rfl) (by kernel_rfl) (by kernel_rfl) (fun _ _ _ h => h) (Or.inl ⟨by rfl, ?_⟩) (by assumption) ?_
        rotate_left
        · (intro w9 hSw; (try dsimp only at hSw); go_simp; try with_reducible rfl)
        try simp only [Act.put, List.setIfInBounds_toArray, List.set_cons_zero, List.set_cons_succ]
        refine wpAnyH_take (i := 1) (oi := ⟨_, _, _, _, _, _⟩) (v := ?_) rfl (by kernel_rfl) (by kernel_rfl) (by kernel_rfl) (fun _ _ _ h => h) (Or.inl ⟨by rfl, ?_⟩) (by assumption) ?_
        rotate_left
        · (intro w9 hSw; (try dsimp only at hSw); go_simp; try with_reducible rfl)
        try simp only [Act.put, List.setIfInBounds_toArray, List.set_cons_zero, List.set_cons_succ]
        refine wpAnyH_take (i := 3) (oi := ⟨_, _, _, _, _, _⟩) (v := ?_) rfl (by kernel_rfl) (by kernel_rfl) (by kernel_rfl) (fun _ _ _ h => h) (Or.inl ⟨by rfl, ?_⟩) (by assumption) ?_
        rotate_left
        · (intro w9 hSw; (try dsimp only at hSw); go_simp; try with_reducible rfl)
        try simp only [Act.put, List.setIfInBounds_toArray, List.set_cons_zero, List.set_cons_succ]
        refine wpAnyH_take (i := 5) (oi := ⟨_, _, _, _, _, _⟩) (v := ?_) rfl (by kernel_rfl) (by kernel_rfl) (by kernel_rfl) (fun _ _ _ h => h) (Or.inl ⟨by rfl, ?_⟩) (by assumption) ?_
        rotate_left
        · (intro w9 hSw; (obtain ⟨e0, e1, e2⟩ := cells3 hkr hSw); go_simp; try with_reducible rfl)
        try simp only [Act.put, List.setIfInBounds_toArray, List.set_cons_zero, List.set_cons_succ]
        refine wpAnyH_ready (rs := [2, 6, 9]) (by kernel_rfl) (by simp) ?_
        refine AllReadyH.cons (o := ⟨_, _, _, _, _, _⟩) rfl (fun K hK => ?_) ?_
        · skip
          go_simp
          have h61 := Blk.new W 27 #[]
          have gk61 := hB.size
          replace hB := below_al hB (.cells #[] 27)
          generalize W.alloc (.cells #[] 27) = W2 at hB h61  ⊢
          generalize W.heap.size = k61 at h61 gk61 ⊢
          refine hK.out _ _ hB (fun hHeld2 => ?_)
          clear hK K hHeld W
          have hHeld := hHeld2
          clear hHeld2
          try simp only [Act.put, List.setIfInBounds_toArray, List.set_cons_zero, List.set_cons_succ]
          obtain ⟨W, hWW⟩ : ∃ W, W = W2 := ⟨_, rfl⟩
          subst hWW
          refine wpAnyH_ready (rs := [4, 6, 9]) (by kernel_rfl) (by simp) ?_
          refine AllReadyH.cons (o := ⟨_, _, _, _, _, _⟩) rfl (fun K hK => ?_) ?_
          · skip
            refine step_append_rows (enc := encR) (B := wr.heap.size) (v := .slice (some ⟨k61, 0, none⟩) 0 0) (l := []) Tryz.underlying43 rat_info rfl (by decide) (by decide) rfl (.tmp 61) (.tmp 62) rfl encR_len encR_one rfl (OwnL.empty encR _ 3 h61 gk61) rfl ((RDg.row hgd).below hB) (by simp) (by omega) hB.size ?_
            intro v63 W2 hown hg
            rw [List.nil_append] at hown
            replace hB : Below wr.heap.size wr W2 := hB.grown hg hB.size (fun g e => by simp [Value.ownBlock] at e; omega)
            clear hg h61
            refine hK.out _ _ hB (fun hHeld2 => ?_)
            clear hK K hHeld W
            have hHeld := hHeld2
            clear hHeld2
            try simp only [Act.put, List.setIfInBounds_toArray, List.set_cons_zero, List.set_cons_succ]
            obtain ⟨W, hWW⟩ : ∃ W, W = W2 := ⟨_, rfl⟩
            subst hWW
            refine wpAnyH_ready (rs := [6, 9]) (by kernel_rfl) (by simp) ?_
            refine AllReadyH.cons (o := ⟨_, _, _, _, _, _⟩) rfl (fun K hK => ?_) ?_
            · skip
              go_simp
              have h65 := Blk.new W 27 #[.bool rg, .string ra, .string rb]
              have gk65 := hB.size
              replace hB := below_al hB (.cells #[.bool rg, .string ra, .string rb] 27)
              replace hown := hown.below (below_al (Below.refl _ _) (.cells #[.bool rg, .string ra, .string rb] 27))
              generalize W.alloc (.cells #[.bool rg, .string ra, .string rb] 27) = W2 at hB h65 hown ⊢
              generalize W.heap.size = k65 at h65 gk65 ⊢
              refine hK.out _ _ hB (fun hHeld2 => ?_)
              clear hK K hHeld W
              have hHeld := hHeld2
              clear hHeld2
              try simp only [Act.put, List.setIfInBounds_toArray, List.set_cons_zero, List.set_cons_succ]
              obtain ⟨W, hWW⟩ : ∃ W, W = W2 := ⟨_, rfl⟩
              subst hWW
              refine wpAnyH_ready (rs := [7, 9]) (by kernel_rfl) (by simp) ?_
              refine AllReadyH.cons (o := ⟨_, _, _, _, _, _⟩) rfl (fun K hK => ?_) ?_
              · skip
                refine step_append_rows (enc := encR) (B := wr.heap.size) (ds := [(rg, ra, rb)]) (A := some ⟨k65, 0, none⟩) (n := 1) (c := 1) Tryz.underlying43 rat_info rfl (by decide) (by decide) rfl (.tmp 63) (.tmp 65) rfl encR_len encR_one rfl hown rfl (row_new h65) (by have := HGN.out; omega) (by omega) hB.size ?_
                intro v66 W2 hown2 hg
                replace hB := below_own hB hown hg
                obtain ⟨A6, c6, e6, hd6⟩ := OwnR.rdg hown2
                rw [HN6.out] at e6
                subst e6
                clear hg h65 hown hd6
                have hown := hown2
                clear hown2
                refine hK.out _ _ hB (fun hHeld2 => ?_)
                clear hK K hHeld W
                have hHeld := hHeld2
                clear hHeld2
                try simp only [Act.put, List.setIfInBounds_toArray, List.set_cons_zero, List.set_cons_succ]
                obtain ⟨W, hWW⟩ : ∃ W, W = W2 := ⟨_, rfl⟩
                subst hWW
                refine wpAnyH_take (i := 8) (oi := ⟨_, _, _, _, _, _⟩) (v := ?_) rfl (by kernel_rfl) (by kernel_rfl) (by kernel_rfl) (fun _ _ _ h => h) (Or.inl ⟨by rfl, ?_⟩) (by assumption) ?_
                rotate_left
                · (intro w9 hSw; (try dsimp only at hSw); go_simp; try with_reducible rfl)
                try simp only [Act.put, List.setIfInBounds_toArray, List.set_cons_zero, List.set_cons_succ]
                refine wpAnyH_ready (rs := [9]) (by kernel_rfl) (by simp) ?_
                refine AllReadyH.cons (o := ⟨_, _, _, _, _, _⟩) rfl (fun K hK => ?_) AllReadyH.nil
                go_simp
                have hL := Blk.new W 45 #[.slice none 0 0, .slice none 0 0, .slice none 0 0]
                have gkl := hB.size
                replace hB := below_al hB (.cells #[.slice none 0 0, .slice none 0 0, .slice none 0 0] 45)
                replace hown := hown.below (below_al (Below.refl _ _) (.cells #[.slice none 0 0, .slice none 0 0, .slice none 0 0] 45))
                generalize W.alloc (.cells #[.slice none 0 0, .slice none 0 0, .slice none 0 0] 45) = W2 at hB hL hown ⊢
                generalize W.heap.size = kl at hL gkl ⊢
                refine hK.out _ _ hB (fun hHeld2 => ?_)
                clear hK K hHeld W
                have hHeld := hHeld2
                clear hHeld2
                try simp only [Act.put, List.setIfInBounds_toArray, List.set_cons_zero, List.set_cons_succ]
                obtain ⟨W, hWW⟩ : ∃ W, W = W2 := ⟨_, rfl⟩
                subst hWW
                refine wpAnyH_ready (rs := [10]) (by kernel_rfl) (by simp) ?_
                refine AllReadyH.cons (o := ⟨_, _, _, _, _, _⟩) rfl (fun K hK => ?_) AllReadyH.nil
                have f0 := hL.frozen 0
                have f1 := hL.frozen 1
                have f2 := hL.frozen 2
                have q0 := hL.cell 0
                have q1 := hL.cell 1
                have q2 := hL.cell 2
                simp only [List.getElem?_toArray, List.getElem?_cons_zero, List.getElem?_cons_succ] at q0 q1 q2
                have hne := own_ne hown hL (by decide)
                go_simp
                replace hown := hown.kept (grown_set (grown_set (grown_set (grown_refl W (some kl)) 0 (.slice A1 k c1)) 1 (.slice GA k gc)) 2 (.slice A6 (k + 1) c6)) (.inr (Ne.symm hne))
                replace hL := ((hL.set_ 0 (.slice A1 k c1)).set_ 1 (.slice GA k gc)).set_ 2 (.slice A6 (k + 1) c6)
                replace hB := below_set (p := ⟨kl, 2, none⟩) (below_set (p := ⟨kl, 1, none⟩) (below_set (p := ⟨kl, 0, none⟩) hB gkl (.slice A1 k c1)) gkl (.slice GA k gc)) gkl (.slice A6 (k + 1) c6)
                generalize ((W.setCell ⟨kl, 0, none⟩ (.slice A1 k c1)).setCell ⟨kl, 1, none⟩ (.slice GA k gc)).setCell ⟨kl, 2, none⟩ (.slice A6 (k + 1) c6) = W2 at hB hL hown ⊢
                clear f0 f1 f2 q0 q1 q2 hne
                refine hK.out _ _ hB (fun hHeld2 => ?_)
                clear hK K hHeld W
                have hHeld := hHeld2
                clear hHeld2
                try simp only [Act.put, List.setIfInBounds_toArray, List.set_cons_zero, List.set_cons_succ]
                obtain ⟨W, hWW⟩ : ∃ W, W = W2 := ⟨_, rfl⟩
                subst hWW
                refine wpAnyH_done (by kernel_rfl) ?_ _
                go_wp2_with fail
                go_meet
                obtain ⟨A6', c6', e6, hd6⟩ := OwnR.rdg hown
                rw [HN6.out] at e6 hd6
                obtain ⟨rfl, rfl⟩ : A6 = A6' ∧ c6 = c6' := by simpa using e6
                exact ⟨kl, [(A1, k, c1, xs), (GA, k, gc, gs), (A6, k + 1, c6, gs ++ [(rg, ra, rb)])], rfl, hL, rfl, Lib.hid (sls_three (hd.below hB) (by omega) HXS.out (hgd.below hB) (by omega) HGS.out hd6 (by omega) (shorts_snoc HGS.out n0 n1)), hB⟩
              refine AllReadyH.cons (o := ⟨_, _, _, _, _, _⟩) rfl (fun K hK => ?_) AllReadyH.nil
              go_simp
              have hL := Blk.new W 45 #[.slice none 0 0, .slice none 0 0, .slice none 0 0]
              have gkl := hB.size
              replace hB := below_al hB (.cells #[.slice none 0 0, .slice none 0 0, .slice none 0 0] 45)
              replace h65 := h65.alloc (.cells #[.slice none 0 0, .slice none 0 0, .slice none 0 0] 45)
              replace hown := hown.below (below_al (Below.refl _ _) (.cells #[.slice none 0 0, .slice none 0 0, .slice none 0 0] 45))
              generalize W.alloc (.cells #[.slice none 0 0, .slice none 0 0, .slice none 0 0] 45) = W2 at hB hL h65 hown ⊢
              generalize W.heap.size = kl at hL gkl ⊢
              refine hK.out _ _ hB (fun hHeld2 => ?_)
              clear hK K hHeld W
              have hHeld := hHeld2
              clear hHeld2
              try simp only [Act.put, List.setIfInBounds_toArray, List.set_cons_zero, List.set_cons_succ]
              obtain ⟨W, hWW⟩ : ∃ W, W = W2 := ⟨_, rfl⟩
              subst hWW
              refine wpAnyH_ready (rs := [7]) (by kernel_rfl) (by simp) ?_
              refine AllReadyH.cons (o := ⟨_, _, _, _, _, _⟩) rfl (fun K hK => ?_) AllReadyH.nil
              refine step_append_rows (enc := encR) (B := wr.heap.size) (ds := [(rg, ra, rb)]) (A := some ⟨k65, 0, none⟩) (n := 1) (c := 1) Tryz.underlying43 rat_info rfl (by decide) (by decide) rfl (.tmp 63) (.tmp 65) rfl encR_len encR_one rfl hown rfl (row_new h65) (by have := HGN.out; omega) (by omega) hB.size ?_
              intro v66 W2 hown2 hg
              replace hB := below_own hB hown hg
              replace hL := hL.grown hg (own_ne hown hL (by decide))
              obtain ⟨A6, c6, e6, hd6⟩ := OwnR.rdg hown2
              rw [HN6.out] at e6
              subst e6
              clear hg h65 hown hd6
              have hown := hown2
              clear hown2
              refine hK.out _ _ hB (fun hHeld2 => ?_)
              clear hK K hHeld W
              have hHeld := hHeld2
              clear hHeld2
              try simp only [Act.put, List.setIfInBounds_toArray, List.set_cons_zero, List.set_cons_succ]
              obtain ⟨W, hWW⟩ : ∃ W, W = W2 := ⟨_, rfl⟩
              subst hWW
              refine wpAnyH_take (i := 8) (oi := ⟨_, _, _, _, _, _⟩) (v := ?_) rfl (by kernel_rfl) (by kernel_rfl) (by kernel_rfl) (fun _ _ _ h => h) (Or.inl ⟨by rfl, ?_⟩) (by assumption) ?_
              rotate_left
              · (intro w9 hSw; (try dsimp only at hSw); go_simp; try with_reducible rfl)
              try simp only [Act.put, List.setIfInBounds_toArray, List.set_cons_zero, List.set_cons_succ]
              refine wpAnyH_ready (rs := [10]) (by kernel_rfl) (by simp) ?_
              refine AllReadyH.cons (o := ⟨_, _, _, _, _, _⟩) rfl (fun K hK => ?_) AllReadyH.nil
              have f0 := hL.frozen 0
              have f1 := hL.frozen 1
              have f2 := hL.frozen 2
              have q0 := hL.cell 0
              have q1 := hL.cell 1
              have q2 := hL.cell 2
              simp only [List.getElem?_toArray, List.getElem?_cons_zero, List.getElem?_cons_succ] at q0 q1 q2
              have hne := own_ne hown hL (by decide)
              go_simp
              replace hown := hown.kept (grown_set (grown_set (grown_set (grown_refl W (some kl)) 0 (.slice A1 k c1)) 1 (.slice GA k gc)) 2 (.slice A6 (k + 1) c6)) (.inr (Ne.symm hne))
              replace hL := ((hL.set_ 0 (.slice A1 k c1)).set_ 1 (.slice GA k gc)).set_ 2 (.slice A6 (k + 1) c6)
              replace hB := below_set (p := ⟨kl, 2, none⟩) (below_set (p := ⟨kl, 1, none⟩) (below_set (p := ⟨kl, 0, none⟩) hB gkl (.slice A1 k c1)) gkl (.slice GA k gc)) gkl (.slice A6 (k + 1) c6)
              generalize ((W.setCell ⟨kl, 0, none⟩ (.slice A1 k c1)).setCell ⟨kl, 1, none⟩ (.slice GA k gc)).setCell ⟨kl, 2, none⟩ (.slice A6 (k + 1) c6) = W2 at hB hL hown ⊢
              clear f0 f1 f2 q0 q1 q2 hne
              refine hK.out _ _ hB (fun hHeld2 => ?_)
              clear hK K hHeld W
              have hHeld := hHeld2
              clear hHeld2
              try simp only [Act.put, List.setIfInBounds_toArray, List.set_cons_zero, List.set_cons_succ]
              obtain ⟨W, hWW⟩ : ∃ W, W = W2 := ⟨_, rfl⟩
              subst hWW
              refine wpAnyH_done (by kernel_rfl) ?_ _
              go_wp2_with fail
              go_meet
              obtain ⟨A6', c6', e6, hd6⟩ := OwnR.rdg hown
              rw [HN6.out] at e6 hd6
              obtain ⟨rfl, rfl⟩ : A6 = A6' ∧ c6 = c6' := by simpa using e6
              exact ⟨kl, [(A1, k, c1, xs), (GA, k, gc, gs), (A6, k + 1, c6, gs ++ [(rg, ra, rb)])], rfl, hL, rfl, Lib.hid (sls_three (hd.below hB) (by omega) HXS.out (hgd.below hB) (by omega) HGS.out hd6 (by omega) (shorts_snoc HGS.out n0 n1)), hB⟩
            refine AllReadyH.cons (o := ⟨_, _, _, _, _, _⟩) rfl (fun K hK => ?_) AllReadyH.nil
            go_simp
            have hL := Blk.new W 45 #[.slice none 0 0, .slice none 0 0, .slice none 0 0]
            have gkl := hB.size
            replace hB := below_al hB (.cells #[.slice none 0 0, .slice none 0 0, .slice none 0 0] 45)
            replace hown := hown.below (below_al (Below.refl _ _) (.cells #[.slice none 0 0, .slice none 0 0, .slice none 0 0] 45))
            generalize W.alloc (.cells #[.slice none 0 0, .slice none 0 0, .slice none 0 0] 45) = W2 at hB hL hown ⊢
            generalize W.heap.size = kl at hL gkl ⊢
            refine hK.out _ _ hB (fun hHeld2 => ?_)
            clear hK K hHeld W
            have hHeld := hHeld2
            clear hHeld2
            try simp only [Act.put, List.setIfInBounds_toArray, List.set_cons_zero, List.set_cons_succ]
            obtain ⟨W, hWW⟩ : ∃ W, W = W2 := ⟨_, rfl⟩
            subst hWW
            refine wpAnyH_ready (rs := [6]) (by kernel_rfl) (by simp) ?_
            refine AllReadyH.cons (o := ⟨_, _, _, _, _, _⟩) rfl (fun K hK => ?_) AllReadyH.nil
            go_simp
            have h65 := Blk.new W 27 #[.bool rg, .string ra, .string rb]
            have gk65 := hB.size
            replace hB := below_al hB (.cells #[.bool rg, .string ra, .string rb] 27)
            replace hL := hL.alloc (.cells #[.bool rg, .string ra, .string rb] 27)
            replace hown := hown.below (below_al (Below.refl _ _) (.cells #[.bool rg, .string ra, .string rb] 27))
            generalize W.alloc (.cells #[.bool rg, .string ra, .string rb] 27) = W2 at hB h65 hL hown ⊢
            generalize W.heap.size = k65 at h65 gk65 ⊢
            refine hK.out _ _ hB (fun hHeld2 => ?_)
            clear hK K hHeld W
            have hHeld := hHeld2
            clear hHeld2
            try simp only [Act.put, List.setIfInBounds_toArray, List.set_cons_zero, List.set_cons_succ]
            obtain ⟨W, hWW⟩ : ∃ W, W = W2 := ⟨_, rfl⟩
            subst hWW
            refine wpAnyH_ready (rs := [7]) (by kernel_rfl) (by simp) ?_
            refine AllReadyH.cons (o := ⟨_, _, _, _, _, _⟩) rfl (fun K hK => ?_) AllReadyH.nil
            refine step_append_rows (enc := encR) (B := wr.heap.size) (ds := [(rg, ra, rb)]) (A := some ⟨k65, 0, none⟩) (n := 1) (c := 1) Tryz.underlying43 rat_info rfl (by decide) (by decide) rfl (.tmp 63) (.tmp 65) rfl encR_len encR_one rfl hown rfl (row_new h65) (by have := HGN.out; omega) (by omega) hB.size ?_
            intro v66 W2 hown2 hg
            replace hB := below_own hB hown hg
            replace hL := hL.grown hg (own_ne hown hL (by decide))
            obtain ⟨A6, c6, e6, hd6⟩ := OwnR.rdg hown2
            rw [HN6.out] at e6
            subst e6
            clear hg h65 hown hd6
            have hown := hown2
            clear hown2
            refine hK.out _ _ hB (fun hHeld2 => ?_)
            clear hK K hHeld W
            have hHeld := hHeld2
            clear hHeld2
            try simp only [Act.put, List.setIfInBounds_toArray, List.set_cons_zero, List.set_cons_succ]
            obtain ⟨W, hWW⟩ : ∃ W, W = W2 := ⟨_, rfl⟩
            subst hWW
            refine wpAnyH_take (i := 8) (oi := ⟨_, _, _, _, _, _⟩) (v := ?_) rfl (by kernel_rfl) (by kernel_rfl) (by kernel_rfl) (fun _ _ _ h => h) (Or.inl ⟨by rfl, ?_⟩) (by assumption) ?_
            rotate_left
            · (intro w9 hSw; (try dsimp only at hSw); go_simp; try with_reducible rfl)
            try simp only [Act.put, List.setIfInBounds_toArray, List.set_cons_zero, List.set_cons_succ]
            refine wpAnyH_ready (rs := [10]) (by kernel_rfl) (by simp) ?_
            refine AllReadyH.cons (o := ⟨_, _, _, _, _, _⟩) rfl (fun K hK => ?_) AllReadyH.nil
            have f0 := hL.frozen 0
            have f1 := hL.frozen 1
            have f2 := hL.frozen 2
            have q0 := hL.cell 0
            have q1 := hL.cell 1
            have q2 := hL.cell 2
            simp only [List.getElem?_toArray, List.getElem?_cons_zero, List.getElem?_cons_succ] at q0 q1 q2
            have hne := own_ne hown hL (by decide)
            go_simp
            replace hown := hown.kept (grown_set (grown_set (grown_set (grown_refl W (some kl)) 0 (.slice A1 k c1)) 1 (.slice GA k gc)) 2 (.slice A6 (k + 1) c6)) (.inr (Ne.symm hne))
            replace hL := ((hL.set_ 0 (.slice A1 k c1)).set_ 1 (.slice GA k gc)).set_ 2 (.slice A6 (k + 1) c6)
            replace hB := below_set (p := ⟨kl, 2, none⟩) (below_set (p := ⟨kl, 1, none⟩) (below_set (p := ⟨kl, 0, none⟩) hB gkl (.slice A1 k c1)) gkl (.slice GA k gc)) gkl (.slice A6 (k + 1) c6)
            generalize ((W.setCell ⟨kl, 0, none⟩ (.slice A1 k c1)).setCell ⟨kl, 1, none⟩ (.slice GA k gc)).setCell ⟨kl, 2, none⟩ (.slice A6 (k + 1) c6) = W2 at hB hL hown ⊢
            clear f0 f1 f2 q0 q1 q2 hne
            refine hK.out _ _ hB (fun hHeld2 => ?_)
            clear hK K hHeld W
            have hHeld := hHeld2
            clear hHeld2
            try simp only [Act.put, List.setIfInBounds_toArray, List.set_cons_zero, List.set_cons_succ]
            obtain ⟨W, hWW⟩ : ∃ W, W = W2 := ⟨_, rfl⟩
            subst hWW
            refine wpAnyH_done (by kernel_rfl) ?_ _
            go_wp2_with fail
            go_meet
            obtain ⟨A6', c6', e6, hd6⟩ := OwnR.rdg hown
            rw [HN6.out] at e6 hd6
            obtain ⟨rfl, rfl⟩ : A6 = A6' ∧ c6 = c6' := by simpa using e6
            exact ⟨kl, [(A1, k, c1, xs), (GA, k, gc, gs), (A6, k + 1, c6, gs ++ [(rg, ra, rb)])], rfl, hL, rfl, Lib.hid (sls_three (hd.below hB) (by omega) HXS.out (hgd.below hB) (by omega) HGS.out hd6 (by omega) (shorts_snoc HGS.out n0 n1)), hB⟩
          refine AllReadyH.cons (o := ⟨_, _, _, _, _, _⟩) rfl (fun K hK => ?_) ?_
          · skip
            go_simp
            have h65 := Blk.new W 27 #[.bool rg, .string ra, .string rb]
            have gk65 := hB.size
            replace hB := below_al hB (.cells #[.bool rg, .string ra, .string rb] 27)
            replace h61 := h61.alloc (.cells #[.bool rg, .string ra, .string rb] 27)
            generalize W.alloc (.cells #[.bool rg, .string ra, .string rb] 27) = W2 at hB h65 h61 ⊢
            generalize W.heap.size = k65 at h65 gk65 ⊢
            refine hK.out _ _ hB (fun hHeld2 => ?_)
            clear hK K hHeld W
            have hHeld := hHeld2
            clear hHeld2
            try simp only [Act.put, List.setIfInBounds_toArray, List.set_cons_zero, List.set_cons_succ]
            obtain ⟨W, hWW⟩ : ∃ W, W = W2 := ⟨_, rfl⟩
            subst hWW
            refine wpAnyH_ready (rs := [4, 9]) (by kernel_rfl) (by simp) ?_
            refine AllReadyH.cons (o := ⟨_, _, _, _, _, _⟩) rfl (fun K hK => ?_) ?_
            · skip
              refine step_append_rows (enc := encR) (B := wr.heap.size) (v := .slice (some ⟨k61, 0, none⟩) 0 0) (l := []) Tryz.underlying43 rat_info rfl (by decide) (by decide) rfl (.tmp 61) (.tmp 62) rfl encR_len encR_one rfl (OwnL.empty encR _ 3 h61 gk61) rfl ((RDg.row hgd).below hB) (by simp) (by omega) hB.size ?_
              intro v63 W2 hown hg
              rw [List.nil_append] at hown
              replace hB : Below wr.heap.size wr W2 := hB.grown hg hB.size (fun g e => by simp [Value.ownBlock] at e; omega)
              replace h65 := h65.grown hg (by simpa [Value.ownBlock] using blk_ne h65 h61 (by simp))
              clear hg h61
              refine hK.out _ _ hB (fun hHeld2 => ?_)
              clear hK K hHeld W
              have hHeld := hHeld2
              clear hHeld2
              try simp only [Act.put, List.setIfInBounds_toArray, List.set_cons_zero, List.set_cons_succ]
              obtain ⟨W, hWW⟩ : ∃ W, W = W2 := ⟨_, rfl⟩
              subst hWW
              refine wpAnyH_ready (rs := [7, 9]) (by kernel_rfl) (by simp) ?_
              refine AllReadyH.cons (o := ⟨_, _, _, _, _, _⟩) rfl (fun K hK => ?_) ?_
              · skip
                refine step_append_rows (enc := encR) (B := wr.heap.size) (ds := [(rg, ra, rb)]) (A := some ⟨k65, 0, none⟩) (n := 1) (c := 1) Tryz.underlying43 rat_info rfl (by decide) (by decide) rfl (.tmp 63) (.tmp 65) rfl encR_len encR_one rfl hown rfl (row_new h65) (by have := HGN.out; omega) (by omega) hB.size ?_
                intro v66 W2 hown2 hg
                replace hB := below_own hB hown hg
                obtain ⟨A6, c6, e6, hd6⟩ := OwnR.rdg hown2
                rw [HN6.out] at e6
                subst e6
                clear hg h65 hown hd6
                have hown := hown2
                clear hown2
                refine hK.out _ _ hB (fun hHeld2 => ?_)
                clear hK K hHeld W
                have hHeld := hHeld2
                clear hHeld2
                try simp only [Act.put, List.setIfInBounds_toArray, List.set_cons_zero, List.set_cons_succ]
                obtain ⟨W, hWW⟩ : ∃ W, W = W2 := ⟨_, rfl⟩
                subst hWW
                refine wpAnyH_take (i := 8) (oi := ⟨_, _, _, _, _, _⟩) (v := ?_) rfl (by kernel_rfl) (by kernel_rfl) (by kernel_rfl) (fun _ _ _ h => h) (Or.inl ⟨by rfl, ?_⟩) (by assumption) ?_
                rotate_left
                · (intro w9 hSw; (try dsimp only at hSw); go_simp; try with_reducible rfl)
                try simp only [Act.put, List.setIfInBounds_toArray, List.set_cons_zero, List.set_cons_succ]
                refine wpAnyH_ready (rs := [9]) (by kernel_rfl) (by simp) ?_
                refine AllReadyH.cons (o := ⟨_, _, _, _, _, _⟩) rfl (fun K hK => ?_) AllReadyH.nil
                go_simp
                have hL := Blk.new W 45 #[.slice none 0 0, .slice none 0 0, .slice none 0 0]
                have gkl := hB.size
                replace hB := below_al hB (.cells #[.slice none 0 0, .slice none 0 0, .slice none 0 0] 45)
                replace hown := hown.below (below_al (Below.refl _ _) (.cells #[.slice none 0 0, .slice none 0 0, .slice none 0 0] 45))
                generalize W.alloc (.cells #[.slice none 0 0, .slice none 0 0, .slice none 0 0] 45) = W2 at hB hL hown ⊢
                generalize W.heap.size = kl at hL gkl ⊢
                refine hK.out _ _ hB (fun hHeld2 => ?_)
                clear hK K hHeld W
                have hHeld := hHeld2
                clear hHeld2
                try simp only [Act.put, List.setIfInBounds_toArray, List.set_cons_zero, List.set_cons_succ]
                obtain ⟨W, hWW⟩ : ∃ W, W = W2 := ⟨_, rfl⟩
                subst hWW
                refine wpAnyH_ready (rs := [10]) (by kernel_rfl) (by simp) ?_
                refine AllReadyH.cons (o := ⟨_, _, _, _, _, _⟩) rfl (fun K hK => ?_) AllReadyH.nil
                have f0 := hL.frozen 0
                have f1 := hL.frozen 1
                have f2 := hL.frozen 2
                have q0 := hL.cell 0
                have q1 := hL.cell 1
                have q2 := hL.cell 2
                simp only [List.getElem?_toArray, List.getElem?_cons_zero, List.getElem?_cons_succ] at q0 q1 q2
                have hne := own_ne hown hL (by decide)
                go_simp
                replace hown := hown.kept (grown_set (grown_set (grown_set (grown_refl W (some kl)) 0 (.slice A1 k c1)) 1 (.slice GA k gc)) 2 (.slice A6 (k + 1) c6)) (.inr (Ne.symm hne))
                replace hL := ((hL.set_ 0 (.slice A1 k c1)).set_ 1 (.slice GA k gc)).set_ 2 (.slice A6 (k + 1) c6)
                replace hB := below_set (p := ⟨kl, 2, none⟩) (below_set (p := ⟨kl, 1, none⟩) (below_set (p := ⟨kl, 0, none⟩) hB gkl (.slice A1 k c1)) gkl (.slice GA k gc)) gkl (.slice A6 (k + 1) c6)
                generalize ((W.setCell ⟨kl, 0, none⟩ (.slice A1 k c1)).setCell ⟨kl, 1, none⟩ (.slice GA k gc)).setCell ⟨kl, 2, none⟩ (.slice A6 (k + 1) c6) = W2 at hB hL hown ⊢
                clear f0 f1 f2 q0 q1 q2 hne
                refine hK.out _ _ hB (fun hHeld2 => ?_)
                clear hK K hHeld W
                have hHeld := hHeld2
                clear hHeld2
                try simp only [Act.put, List.setIfInBounds_toArray, List.set_cons_zero, List.set_cons_succ]
                obtain ⟨W, hWW⟩ : ∃ W, W = W2 := ⟨_, rfl⟩
                subst hWW
                refine wpAnyH_done (by kernel_rfl) ?_ _
                go_wp2_with fail
                go_meet
                obtain ⟨A6', c6', e6, hd6⟩ := OwnR.rdg hown
                rw [HN6.out] at e6 hd6
                obtain ⟨rfl, rfl⟩ : A6 = A6' ∧ c6 = c6' := by simpa using e6
                exact ⟨kl, [(A1, k, c1, xs), (GA, k, gc, gs), (A6, k + 1, c6, gs ++ [(rg, ra, rb)])], rfl, hL, rfl, Lib.hid (sls_three (hd.below hB) (by omega) HXS.out (hgd.below hB) (by omega) HGS.out hd6 (by omega) (shorts_snoc HGS.out n0 n1)), hB⟩
              refine AllReadyH.cons (o := ⟨_, _, _, _, _, _⟩) rfl (fun K hK => ?_) AllReadyH.nil
              go_simp
              have hL := Blk.new W 45 #[.slice none 0 0, .slice none 0 0, .slice none 0 0]
              have gkl := hB.size
              replace hB := below_al hB (.cells #[.slice none 0 0, .slice none 0 0, .slice none 0 0] 45)
              replace h65 := h65.alloc (.cells #[.slice none 0 0, .slice none 0 0, .slice none 0 0] 45)
              replace hown := hown.below (below_al (Below.refl _ _) (.cells #[.slice none 0 0, .slice none 0 0, .slice none 0 0] 45))
              generalize W.alloc (.cells #[.slice none 0 0, .slice none 0 0, .slice none 0 0] 45) = W2 at hB hL h65 hown ⊢
              generalize W.heap.size = kl at hL gkl ⊢
              refine hK.out _ _ hB (fun hHeld2 => ?_)
              clear hK K hHeld W
              have hHeld := hHeld2
              clear hHeld2
              try simp only [Act.put, List.setIfInBounds_toArray, List.set_cons_zero, List.set_cons_succ]
              obtain ⟨W, hWW⟩ : ∃ W, W = W2 := ⟨_, rfl⟩
              subst hWW
              refine wpAnyH_ready (rs := [7]) (by kernel_rfl) (by simp) ?_
              refine AllReadyH.cons (o := ⟨_, _, _, _, _, _⟩) rfl (fun K hK => ?_) AllReadyH.nil
              refine step_append_rows (enc := encR) (B := wr.heap.size) (ds := [(rg, ra, rb)]) (A := some ⟨k65, 0, none⟩) (n := 1) (c := 1) Tryz.underlying43 rat_info rfl (by decide) (by decide) rfl (.tmp 63) (.tmp 65) rfl encR_len encR_one rfl hown rfl (row_new h65) (by have := HGN.out; omega) (by omega) hB.size ?_
              intro v66 W2 hown2 hg
              replace hB := below_own hB hown hg
              replace hL := hL.grown hg (own_ne hown hL (by decide))
              obtain ⟨A6, c6, e6, hd6⟩ := OwnR.rdg hown2
              rw [HN6.out] at e6
              subst e6
              clear hg h65 hown hd6
              have hown := hown2
              clear hown2
              refine hK.out _ _ hB (fun hHeld2 => ?_)
              clear hK K hHeld W
              have hHeld := hHeld2
              clear hHeld2
              try simp only [Act.put, List.setIfInBounds_toArray, List.set_cons_zero, List.set_cons_succ]
              obtain ⟨W, hWW⟩ : ∃ W, W = W2 := ⟨_, rfl⟩
              subst hWW
              refine wpAnyH_take (i := 8) (oi := ⟨_, _, _, _, _, _⟩) (v := ?_) rfl (by kernel_rfl) (by kernel_rfl) (by kernel_rfl) (fun _ _ _ h => h) (Or.inl ⟨by rfl, ?_⟩) (by assumption) ?_
              rotate_left
              · (intro w9 hSw; (try dsimp only at hSw); go_simp; try with_reducible rfl)
              try simp only [Act.put, List.setIfInBounds_toArray, List.set_cons_zero, List.set_cons_succ]
              refine wpAnyH_ready (rs := [10]) (by kernel_rfl) (by simp) ?_
              refine AllReadyH.cons (o := ⟨_, _, _, _, _, _⟩) rfl (fun K hK => ?_) AllReadyH.nil
              have f0 := hL.frozen 0
              have f1 := hL.frozen 1
              have f2 := hL.frozen 2
              have q0 := hL.cell 0
              have q1 := hL.cell 1
              have q2 := hL.cell 2
              simp only [List.getElem?_toArray, List.getElem?_cons_zero, List.getElem?_cons_succ] at q0 q1 q2
              have hne := own_ne hown hL (by decide)
              go_simp
              replace hown := hown.kept (grown_set (grown_set (grown_set (grown_refl W (some kl)) 0 (.slice A1 k c1)) 1 (.slice GA k gc)) 2 (.slice A6 (k + 1) c6)) (.inr (Ne.symm hne))
              replace hL := ((hL.set_ 0 (.slice A1 k c1)).set_ 1 (.slice GA k gc)).set_ 2 (.slice A6 (k + 1) c6)
              replace hB := below_set (p := ⟨kl, 2, none⟩) (below_set (p := ⟨kl, 1, none⟩) (below_set (p := ⟨kl, 0, none⟩) hB gkl (.slice A1 k c1)) gkl (.slice GA k gc)) gkl (.slice A6 (k + 1) c6)
              generalize ((W.setCell ⟨kl, 0, none⟩ (.slice A1 k c1)).setCell ⟨kl, 1, none⟩ (.slice GA k gc)).setCell ⟨kl, 2, none⟩ (.slice A6 (k + 1) c6) = W2 at hB hL hown ⊢
              clear f0 f1 f2 q0 q1 q2 hne
              refine hK.out _ _ hB (fun hHeld2 => ?_)
              clear hK K hHeld W
              have hHeld := hHeld2
              clear hHeld2
              try simp only [Act.put, List.setIfInBounds_toArray, List.set_cons_zero, List.set_cons_succ]
              obtain ⟨W, hWW⟩ : ∃ W, W = W2 := ⟨_, rfl⟩
              subst hWW
              refine wpAnyH_done (by kernel_rfl) ?_ _
              go_wp2_with fail
              go_meet
              obtain ⟨A6', c6', e6, hd6⟩ := OwnR.rdg hown
              rw [HN6.out] at e6 hd6
              obtain ⟨rfl, rfl⟩ : A6 = A6' ∧ c6 = c6' := by simpa using e6
              exact ⟨kl, [(A1, k, c1, xs), (GA, k, gc, gs), (A6, k + 1, c6, gs ++ [(rg, ra, rb)])], rfl, hL, rfl, Lib.hid (sls_three (hd.below hB) (by omega) HXS.out (hgd.below hB) (by omega) HGS.out hd6 (by omega) (shorts_snoc HGS.out n0 n1)), hB⟩
            refine AllReadyH.cons (o := ⟨_, _, _, _, _, _⟩) rfl (fun K hK => ?_) AllReadyH.nil
            go_simp
            have hL := Blk.new W 45 #[.slice none 0 0, .slice none 0 0, .slice none 0 0]
            have gkl := hB.size
            replace hB := below_al hB (.cells #[.slice none 0 0, .slice none 0 0, .slice none 0 0] 45)
            replace h61 := h61.alloc (.cells #[.slice none 0 0, .slice none 0 0, .slice none 0 0] 45)
            replace h65 := h65.alloc (.cells #[.slice none 0 0, .slice none 0 0, .slice none 0 0] 45)
            generalize W.alloc (.cells #[.slice none 0 0, .slice none 0 0, .slice none 0 0] 45) = W2 at hB hL h61 h65 ⊢
            generalize W.heap.size = kl at hL gkl ⊢
            refine hK.out _ _ hB (fun hHeld2 => ?_)
            clear hK K hHeld W
            have hHeld := hHeld2
            clear hHeld2
            try simp only [Act.put, List.setIfInBounds_toArray, List.set_cons_zero, List.set_cons_succ]
            obtain ⟨W, hWW⟩ : ∃ W, W = W2 := ⟨_, rfl⟩
            subst hWW
            refine wpAnyH_ready (rs := [4]) (by kernel_rfl) (by simp) ?_
            refine AllReadyH.cons (o := ⟨_, _, _, _, _, _⟩) rfl (fun K hK => ?_) AllReadyH.nil
            refine step_append_rows (enc := encR) (B := wr.heap.size) (v := .slice (some ⟨k61, 0, none⟩) 0 0) (l := []) Tryz.underlying43 rat_info rfl (by decide) (by decide) rfl (.tmp 61) (.tmp 62) rfl encR_len encR_one rfl (OwnL.empty encR _ 3 h61 gk61) rfl ((RDg.row hgd).below hB) (by simp) (by omega) hB.size ?_
            intro v63 W2 hown hg
            rw [List.nil_append] at hown
            replace hB : Below wr.heap.size wr W2 := hB.grown hg hB.size (fun g e => by simp [Value.ownBlock] at e; omega)
            replace h65 := h65.grown hg (by simpa [Value.ownBlock] using blk_ne h65 h61 (by simp))
            replace hL := hL.grown hg (by simpa [Value.ownBlock] using blk_ne hL h61 (by simp))
            clear hg h61
            refine hK.out _ _ hB (fun hHeld2 => ?_)
            clear hK K hHeld W
            have hHeld := hHeld2
            clear hHeld2
            try simp only [Act.put, List.setIfInBounds_toArray, List.set_cons_zero, List.set_cons_succ]
            obtain ⟨W, hWW⟩ : ∃ W, W = W2 := ⟨_, rfl⟩
            subst hWW
            refine wpAnyH_ready (rs := [7]) (by kernel_rfl) (by simp) ?_
            refine AllReadyH.cons (o := ⟨_, _, _, _, _, _⟩) rfl (fun K hK => ?_) AllReadyH.nil
            refine step_append_rows (enc := encR) (B := wr.heap.size) (ds := [(rg, ra, rb)]) (A := some ⟨k65, 0, none⟩) (n := 1) (c := 1) Tryz.underlying43 rat_info rfl (by decide) (by decide) rfl (.tmp 63) (.tmp 65) rfl encR_len encR_one rfl hown rfl (row_new h65) (by have := HGN.out; omega) (by omega) hB.size ?_
            intro v66 W2 hown2 hg
            replace hB := below_own hB hown hg
            replace hL := hL.grown hg (own_ne hown hL (by decide))
            obtain ⟨A6, c6, e6, hd6⟩ := OwnR.rdg hown2
            rw [HN6.out] at e6
            subst e6
            clear hg h65 hown hd6
            have hown := hown2
            clear hown2
            refine hK.out _ _ hB (fun hHeld2 => ?_)
            clear hK K hHeld W
            have hHeld := hHeld2
            clear hHeld2
            try simp only [Act.put, List.setIfInBounds_toArray, List.set_cons_zero, List.set_cons_succ]
            obtain ⟨W, hWW⟩ : ∃ W, W = W2 := ⟨_, rfl⟩
            subst hWW
            refine wpAnyH_take (i := 8) (oi := ⟨_, _, _, _, _, _⟩) (v := ?_) rfl (by kernel_rfl) (by kernel_rfl) (by kernel_rfl) (fun _ _ _ h => h) (Or.inl ⟨by rfl, ?_⟩) (by assumption) ?_
            rotate_left
            · (intro w9 hSw; (try dsimp only at hSw); go_simp; try with_reducible rfl)
            try simp only [Act.put, List.setIfInBounds_toArray, List.set_cons_zero, List.set_cons_succ]
            refine wpAnyH_ready (rs := [10]) (by kernel_rfl) (by simp) ?_
            refine AllReadyH.cons (o := ⟨_, _, _, _, _, _⟩) rfl (fun K hK => ?_) AllReadyH.nil
            have f0 := hL.frozen 0
            have f1 := hL.frozen 1
            have f2 := hL.frozen 2
            have q0 := hL.cell 0
            have q1 := hL.cell 1
            have q2 := hL.cell 2
            simp only [List.getElem?_toArray, List.getElem?_cons_zero, List.getElem?_cons_succ] at q0 q1 q2
            have hne := own_ne hown hL (by decide)
            go_simp
            replace hown := hown.kept (grown_set (grown_set (grown_set (grown_refl W (some kl)) 0 (.slice A1 k c1)) 1 (.slice GA k gc)) 2 (.slice A6 (k + 1) c6)) (.inr (Ne.symm hne))
            replace hL := ((hL.set_ 0 (.slice A1 k c1)).set_ 1 (.slice GA k gc)).set_ 2 (.slice A6 (k + 1) c6)
            replace hB := below_set (p := ⟨kl, 2, none⟩) (below_set (p := ⟨kl, 1, none⟩) (below_set (p := ⟨kl, 0, none⟩) hB gkl (.slice A1 k c1)) gkl (.slice GA k gc)) gkl (.slice A6 (k + 1) c6)
            generalize ((W.setCell ⟨kl, 0, none⟩ (.slice A1 k c1)).setCell ⟨kl, 1, none⟩ (.slice GA k gc)).setCell ⟨kl, 2, none⟩ (.slice A6 (k + 1) c6) = W2 at hB hL hown ⊢
            clear f0 f1 f2 q0 q1 q2 hne
            refine hK.out _ _ hB (fun hHeld2 => ?_)
            clear hK K hHeld W
            have hHeld := hHeld2
            clear hHeld2
            try simp only [Act.put, List.setIfInBounds_toArray, List.set_cons_zero, List.set_cons_succ]
            obtain ⟨W, hWW⟩ : ∃ W, W = W2 := ⟨_, rfl⟩
            subst hWW
            refine wpAnyH_done (by kernel_rfl) ?_ _
            go_wp2_with fail
            go_meet
            obtain ⟨A6', c6', e6, hd6⟩ := OwnR.rdg hown
            rw [HN6.out] at e6 hd6
            obtain ⟨rfl, rfl⟩ : A6 = A6' ∧ c6 = c6' := by simpa using e6
            exact ⟨kl, [(A1, k, c1, xs), (GA, k, gc, gs), (A6, k + 1, c6, gs ++ [(rg, ra, rb)])], rfl, hL, rfl, Lib.hid (sls_three (hd.below hB) (by omega) HXS.out (hgd.below hB) (by omega) HGS.out hd6 (by omega) (shorts_snoc HGS.out n0 n1)), hB⟩
          refine AllReadyH.cons (o := ⟨_, _, _, _, _, _⟩) rfl (fun K hK => ?_) AllReadyH.nil
          go_simp
          have hL := Blk.new W 45 #[.slice none 0 0, .slice none 0 0, .slice none 0 0]
          have gkl := hB.size
          replace hB := below_al hB (.cells #[.slice none 0 0, .slice none 0 0, .slice none 0 0] 45)
          replace h61 := h61.alloc (.cells #[.slice none 0 0, .slice none 0 0, .slice none 0 0] 45)
          generalize W.alloc (.cells #[.slice none 0 0, .slice none 0 0, .slice none 0 0] 45) = W2 at hB hL h61 ⊢
          generalize W.heap.size = kl at hL gkl ⊢
          refine hK.out _ _ hB (fun hHeld2 => ?_)
          clear hK K hHeld W
          have hHeld := hHeld2
          clear hHeld2
          try simp only [Act.put, List.setIfInBounds_toArray, List.set_cons_zero, List.set_cons_succ]
          obtain ⟨W, hWW⟩ : ∃ W, W = W2 := ⟨_, rfl⟩
          subst hWW
          refine wpAnyH_ready (rs := [4, 6]) (by kernel_rfl) (by simp) ?_
          refine AllReadyH.cons (o := ⟨_, _, _, _, _, _⟩) rfl (fun K hK => ?_) ?_
          · skip
            refine step_append_rows (enc := encR) (B := wr.heap.size) (v := .slice (some ⟨k61, 0, none⟩) 0 0) (l := []) Tryz.underlying43 rat_info rfl (by decide) (by decide) rfl (.tmp 61) (.tmp 62) rfl encR_len encR_one rfl (OwnL.empty encR _ 3 h61 gk61) rfl ((RDg.row hgd).below hB) (by simp) (by omega) hB.size ?_
            intro v63 W2 hown hg
            rw [List.nil_append] at hown
            replace hB : Below wr.heap.size wr W2 := hB.grown hg hB.size (fun g e => by simp [Value.ownBlock] at e; omega)
            replace hL := hL.grown hg (by simpa [Value.ownBlock] using blk_ne hL h61 (by simp))
            clear hg h61
            refine hK.out _ _ hB (fun hHeld2 => ?_)
            clear hK K hHeld W
            have hHeld := hHeld2
            clear hHeld2
            try simp only [Act.put, List.setIfInBounds_toArray, List.set_cons_zero, List.set_cons_succ]
            obtain ⟨W, hWW⟩ : ∃ W, W = W2 := ⟨_, rfl⟩
            subst hWW
            refine wpAnyH_ready (rs := [6]) (by kernel_rfl) (by simp) ?_
            refine AllReadyH.cons (o := ⟨_, _, _, _, _, _⟩) rfl (fun K hK => ?_) AllReadyH.nil
            go_simp
            have h65 := Blk.new W 27 #[.bool rg, .string ra, .string rb]
            have gk65 := hB.size
            replace hB := below_al hB (.cells #[.bool rg, .string ra, .string rb] 27)
            replace hL := hL.alloc (.cells #[.bool rg, .string ra, .string rb] 27)
            replace hown := hown.below (below_al (Below.refl _ _) (.cells #[.bool rg, .string ra, .string rb] 27))
            generalize W.alloc (.cells #[.bool rg, .string ra, .string rb] 27) = W2 at hB h65 hL hown ⊢
            generalize W.heap.size = k65 at h65 gk65 ⊢
            refine hK.out _ _ hB (fun hHeld2 => ?_)
            clear hK K hHeld W
            have hHeld := hHeld2
            clear hHeld2
            try simp only [Act.put, List.setIfInBounds_toArray, List.set_cons_zero, List.set_cons_succ]
            obtain ⟨W, hWW⟩ : ∃ W, W = W2 := ⟨_, rfl⟩
            subst hWW
            refine wpAnyH_ready (rs := [7]) (by kernel_rfl) (by simp) ?_
            refine AllReadyH.cons (o := ⟨_, _, _, _, _, _⟩) rfl (fun K hK => ?_) AllReadyH.nil
            refine step_append_rows (enc := encR) (B := wr.heap.size) (ds := [(rg, ra, rb)]) (A := some ⟨k65, 0, none⟩) (n := 1) (c := 1) Tryz.underlying43 rat_info rfl (by decide) (by decide) rfl (.tmp 63) (.tmp 65) rfl encR_len encR_one rfl hown rfl (row_new h65) (by have := HGN.out; omega) (by omega) hB.size ?_
            intro v66 W2 hown2 hg
            replace hB := below_own hB hown hg
            replace hL := hL.grown hg (own_ne hown hL (by decide))
            obtain ⟨A6, c6, e6, hd6⟩ := OwnR.rdg hown2
            rw [HN6.out] at e6
            subst e6
            clear hg h65 hown hd6
            have hown := hown2
            clear hown2
            refine hK.out _ _ hB (fun hHeld2 => ?_)
            clear hK K hHeld W
            have hHeld := hHeld2
            clear hHeld2
            try simp only [Act.put, List.setIfInBounds_toArray, List.set_cons_zero, List.set_cons_succ]
            obtain ⟨W, hWW⟩ : ∃ W, W = W2 := ⟨_, rfl⟩
            subst hWW
            refine wpAnyH_take (i := 8) (oi := ⟨_, _, _, _, _, _⟩) (v := ?_) rfl (by kernel_rfl) (by kernel_rfl) (by kernel_rfl) (fun _ _ _ h => h) (Or.inl ⟨by rfl, ?_⟩) (by assumption) ?_
            rotate_left
            · (intro w9 hSw; (try dsimp only at hSw); go_simp; try with_reducible rfl)
            try simp only [Act.put, List.setIfInBounds_toArray, List.set_cons_zero, List.set_cons_succ]
            refine wpAnyH_ready (rs := [10]) (by kernel_rfl) (by simp) ?_
            refine AllReadyH.cons (o := ⟨_, _, _, _, _, _⟩) rfl (fun K hK => ?_) AllReadyH.nil
            have f0 := hL.frozen 0
            have f1 := hL.frozen 1
            have f2 := hL.frozen 2
            have q0 := hL.cell 0
            have q1 := hL.cell 1
            have q2 := hL.cell 2
            simp only [List.getElem?_toArray, List.getElem?_cons_zero, List.getElem?_cons_succ] at q0 q1 q2
            have hne := own_ne hown hL (by decide)
            go_simp
            replace hown := hown.kept (grown_set (grown_set (grown_set (grown_refl W (some kl)) 0 (.slice A1 k c1)) 1 (.slice GA k gc)) 2 (.slice A6 (k + 1) c6)) (.inr (Ne.symm hne))
            replace hL := ((hL.set_ 0 (.slice A1 k c1)).set_ 1 (.slice GA k gc)).set_ 2 (.slice A6 (k + 1) c6)
            replace hB := below_set (p := ⟨kl, 2, none⟩) (below_set (p := ⟨kl, 1, none⟩) (below_set (p := ⟨kl, 0, none⟩) hB gkl (.slice A1 k c1)) gkl (.slice GA k gc)) gkl (.slice A6 (k + 1) c6)
            generalize ((W.setCell ⟨kl, 0, none⟩ (.slice A1 k c1)).setCell ⟨kl, 1, none⟩ (.slice GA k gc)).setCell ⟨kl, 2, none⟩ (.slice A6 (k + 1) c6) = W2 at hB hL hown ⊢
            clear f0 f1 f2 q0 q1 q2 hne
            refine hK.out _ _ hB (fun hHeld2 => ?_)
            clear hK K hHeld W
            have hHeld := hHeld2
            clear hHeld2
            try simp only [Act.put, List.setIfInBounds_toArray, List.set_cons_zero, List.set_cons_succ]
            obtain ⟨W, hWW⟩ : ∃ W, W = W2 := ⟨_, rfl⟩
            subst hWW
            refine wpAnyH_done (by kernel_rfl) ?_ _
            go_wp2_with fail
            go_meet
            obtain ⟨A6', c6', e6, hd6⟩ := OwnR.rdg hown
            rw [HN6.out] at e6 hd6
            obtain ⟨rfl, rfl⟩ : A6 = A6' ∧ c6 = c6' := by simpa using e6
            exact ⟨kl, [(A1, k, c1, xs), (GA, k, gc, gs), (A6, k + 1, c6, gs ++ [(rg, ra, rb)])], rfl, hL, rfl, Lib.hid (sls_three (hd.below hB) (by omega) HXS.out (hgd.below hB) (by omega) HGS.out hd6 (by omega) (shorts_snoc HGS.out n0 n1)), hB⟩
          refine AllReadyH.cons (o := ⟨_, _, _, _, _, _⟩) rfl (fun K hK => ?_) AllReadyH.nil
          go_simp
          have h65 := Blk.new W 27 #[.bool rg, .string ra, .string rb]
          have gk65 := hB.size
          replace hB := below_al hB (.cells #[.bool rg, .string ra, .string rb] 27)
          replace h61 := h61.alloc (.cells #[.bool rg, .string ra, .string rb] 27)
          replace hL := hL.alloc (.cells #[.bool rg, .string ra, .string rb] 27)
          generalize W.alloc (.cells #[.bool rg, .string ra, .string rb] 27) = W2 at hB h65 h61 hL ⊢
          generalize W.heap.size = k65 at h65 gk65 ⊢
          refine hK.out _ _ hB (fun hHeld2 => ?_)
          clear hK K hHeld W
          have hHeld := hHeld2
          clear hHeld2
          try simp only [Act.put, List.setIfInBounds_toArray, List.set_cons_zero, List.set_cons_succ]
          obtain ⟨W, hWW⟩ : ∃ W, W = W2 := ⟨_, rfl⟩
          subst hWW
          refine wpAnyH_ready (rs := [4]) (by kernel_rfl) (by simp) ?_
          refine AllReadyH.cons (o := ⟨_, _, _, _, _, _⟩) rfl (fun K hK => ?_) AllReadyH.nil
          refine step_append_rows (enc := encR) (B := wr.heap.size) (v := .slice (some ⟨k61, 0, none⟩) 0 0) (l := []) Tryz.underlying43 rat_info rfl (by decide) (by decide) rfl (.tmp 61) (.tmp 62) rfl encR_len encR_one rfl (OwnL.empty encR _ 3 h61 gk61) rfl ((RDg.row hgd).below hB) (by simp) (by omega) hB.size ?_
          intro v63 W2 hown hg
          rw [List.nil_append] at hown
          replace hB : Below wr.heap.size wr W2 := hB.grown hg hB.size (fun g e => by simp [Value.ownBlock] at e; omega)
          replace h65 := h65.grown hg (by simpa [Value.ownBlock] using blk_ne h65 h61 (by simp))
          replace hL := hL.grown hg (by simpa [Value.ownBlock] using blk_ne hL h61 (by simp))
          clear hg h61
          refine hK.out _ _ hB (fun hHeld2 => ?_)
          clear hK K hHeld W
          have hHeld := hHeld2
          clear hHeld2
          try simp only [Act.put, List.setIfInBounds_toArray, List.set_cons_zero, List.set_cons_succ]
          obtain ⟨W, hWW⟩ : ∃ W, W = W2 := ⟨_, rfl⟩
          subst hWW
          refine wpAnyH_ready (rs := [7]) (by kernel_rfl) (by simp) ?_
          refine AllReadyH.cons (o := ⟨_, _, _, _, _, _⟩) rfl (fun K hK => ?_) AllReadyH.nil
          refine step_append_rows (enc := encR) (B := wr.heap.size) (ds := [(rg, ra, rb)]) (A := some ⟨k65, 0, none⟩) (n := 1) (c := 1) Tryz.underlying43 rat_info rfl (by decide) (by decide) rfl (.tmp 63) (.tmp 65) rfl encR_len encR_one rfl hown rfl (row_new h65) (by have := HGN.out; omega) (by omega) hB.size ?_
          intro v66 W2 hown2 hg
          replace hB := below_own hB hown hg
          replace hL := hL.grown hg (own_ne hown hL (by decide))
          obtain ⟨A6, c6, e6, hd6⟩ := OwnR.rdg hown2
          rw [HN6.out] at e6
          subst e6
          clear hg h65 hown hd6
          have hown := hown2
          clear hown2
          refine hK.out _ _ hB (fun hHeld2 => ?_)
          clear hK K hHeld W
          have hHeld := hHeld2
          clear hHeld2
          try simp only [Act.put, List.setIfInBounds_toArray, List.set_cons_zero, List.set_cons_succ]
          obtain ⟨W, hWW⟩ : ∃ W, W = W2 := ⟨_, rfl⟩
          subst hWW
          refine wpAnyH_take (i := 8) (oi := ⟨_, _, _, _, _, _⟩) (v := ?_) rfl (by kernel_rfl) (by kernel_rfl) (by kernel_rfl) (fun _ _ _ h => h) (Or.inl ⟨by rfl, ?_⟩) (by assumption) ?_
          rotate_left
          · (intro w9 hSw; (try dsimp only at hSw); go_simp; try with_reducible rfl)
          try simp only [Act.put, List.setIfInBounds_toArray, List.set_cons_zero, List.set_cons_succ]
          refine wpAnyH_ready (rs := [10]) (by kernel_rfl) (by simp) ?_
          refine AllReadyH.cons (o := ⟨_, _, _, _, _, _⟩) rfl (fun K hK => ?_) AllReadyH.nil
          have f0 := hL.frozen 0
          have f1 := hL.frozen 1
          have f2 := hL.frozen 2
          have q0 := hL.cell 0
          have q1 := hL.cell 1
          have q2 := hL.cell 2
          simp only [List.getElem?_toArray, List.getElem?_cons_zero, List.getElem?_cons_succ] at q0 q1 q2
          have hne := own_ne hown hL (by decide)
          go_simp
          replace hown := hown.kept (grown_set (grown_set (grown_set (grown_refl W (some kl)) 0 (.slice A1 k c1)) 1 (.slice GA k gc)) 2 (.slice A6 (k + 1) c6)) (.inr (Ne.symm hne))
          replace hL := ((hL.set_ 0 (.slice A1 k c1)).set_ 1 (.slice GA k gc)).set_ 2 (.slice A6 (k + 1) c6)
          replace hB := below_set (p := ⟨kl, 2, none⟩) (below_set (p := ⟨kl, 1, none⟩) (below_set (p := ⟨kl, 0, none⟩) hB gkl (.slice A1 k c1)) gkl (.slice GA k gc)) gkl (.slice A6 (k + 1) c6)
          generalize ((W.setCell ⟨kl, 0, none⟩ (.slice A1 k c1)).setCell ⟨kl, 1, none⟩ (.slice GA k gc)).setCell ⟨kl, 2, none⟩ (.slice A6 (k + 1) c6) = W2 at hB hL hown ⊢
          clear f0 f1 f2 q0 q1 q2 hne
          refine hK.out _ _ hB (fun hHeld2 => ?_)
          clear hK K hHeld W
          have hHeld := hHeld2
          clear hHeld2
          try simp only [Act.put, List.setIfInBounds_toArray, List.set_cons_zero, List.set_cons_succ]
          obtain ⟨W, hWW⟩ : ∃ W, W = W2 := ⟨_, rfl⟩
          subst hWW
          refine wpAnyH_done (by kernel_rfl) ?_ _
          go_wp2_with fail
          go_meet
          obtain ⟨A6', c6', e6, hd6⟩ := OwnR.rdg hown
          rw [HN6.out] at e6 hd6
          obtain ⟨rfl, rfl⟩ : A6 = A6' ∧ c6 = c6' := by simpa using e6
          exact ⟨kl, [(A1, k, c1, xs), (GA, k, gc, gs), (A6, k + 1, c6, gs ++ [(rg, ra, rb)])], rfl, hL, rfl, Lib.hid (sls_three (hd.below hB) (by omega) HXS.out (hgd.below hB) (by omega) HGS.out hd6 (by omega) (shorts_snoc HGS.out n0 n1)), hB⟩
        refine AllReadyH.cons (o := ⟨_, _, _, _, _, _⟩) rfl (fun K hK => ?_) ?_
        · skip
          go_simp
          have h65 := Blk.new W 27 #[.bool rg, .string ra, .string rb]
          have gk65 := hB.size
          replace hB := below_al hB (.cells #[.bool rg, .string ra, .string rb] 27)
          generalize W.alloc (.cells #[.bool rg, .string ra, .string rb] 27) = W2 at hB h65  ⊢
          generalize W.heap.size = k65 at h65 gk65 ⊢
          refine hK.out _ _ hB (fun hHeld2 => ?_)
          clear hK K hHeld W
          have hHeld := hHeld2
          clear hHeld2
          try simp only [Act.put, List.setIfInBounds_toArray, List.set_cons_zero, List.set_cons_succ]
          obtain ⟨W, hWW⟩ : ∃ W, W = W2 := ⟨_, rfl⟩
          subst hWW
          refine wpAnyH_ready (rs := [2, 9]) (by kernel_rfl) (by simp) ?_
          refine AllReadyH.cons (o := ⟨_, _, _, _, _, _⟩) rfl (fun K hK => ?_) ?_
          · skip
            go_simp
            have h61 := Blk.new W 27 #[]
            have gk61 := hB.size
            replace hB := below_al hB (.cells #[] 27)
            replace h65 := h65.alloc (.cells #[] 27)
            generalize W.alloc (.cells #[] 27) = W2 at hB h61 h65 ⊢
            generalize W.heap.size = k61 at h61 gk61 ⊢
            refine hK.out _ _ hB (fun hHeld2 => ?_)
            clear hK K hHeld W
            have hHeld := hHeld2
            clear hHeld2
            try simp only [Act.put, List.setIfInBounds_toArray, List.set_cons_zero, List.set_cons_succ]
            obtain ⟨W, hWW⟩ : ∃ W, W = W2 := ⟨_, rfl⟩
            subst hWW
            refine wpAnyH_ready (rs := [4, 9]) (by kernel_rfl) (by simp) ?_
            refine AllReadyH.cons (o := ⟨_, _, _, _, _, _⟩) rfl (fun K hK => ?_) ?_
            · skip
              refine step_append_rows (enc := encR) (B := wr.heap.size) (v := .slice (some ⟨k61, 0, none⟩) 0 0) (l := []) Tryz.underlying43 rat_info rfl (by decide) (by decide) rfl (.tmp 61) (.tmp 62) rfl encR_len encR_one rfl (OwnL.empty encR _ 3 h61 gk61) rfl ((RDg.row hgd).below hB) (by simp) (by omega) hB.size ?_
              intro v63 W2 hown hg
              rw [List.nil_append] at hown
              replace hB : Below wr.heap.size wr W2 := hB.grown hg hB.size (fun g e => by simp [Value.ownBlock] at e; omega)
              replace h65 := h65.grown hg (by simpa [Value.ownBlock] using blk_ne h65 h61 (by simp))
              clear hg h61
              refine hK.out _ _ hB (fun hHeld2 => ?_)
              clear hK K hHeld W
              have hHeld := hHeld2
              clear hHeld2
              try simp only [Act.put, List.setIfInBounds_toArray, List.set_cons_zero, List.set_cons_succ]
              obtain ⟨W, hWW⟩ : ∃ W, W = W2 := ⟨_, rfl⟩
              subst hWW
              refine wpAnyH_ready (rs := [7, 9]) (by kernel_rfl) (by simp) ?_
              refine AllReadyH.cons (o := ⟨_, _, _, _, _, _⟩) rfl (fun K hK => ?_) ?_
              · skip
                refine step_append_rows (enc := encR) (B := wr.heap.size) (ds := [(rg, ra, rb)]) (A := some ⟨k65, 0, none⟩) (n := 1) (c := 1) Tryz.underlying43 rat_info rfl (by decide) (by decide) rfl (.tmp 63) (.tmp 65) rfl encR_len encR_one rfl hown rfl (row_new h65) (by have := HGN.out; omega) (by omega) hB.size ?_
                intro v66 W2 hown2 hg
                replace hB := below_own hB hown hg
                obtain ⟨A6, c6, e6, hd6⟩ := OwnR.rdg hown2
                rw [HN6.out] at e6
                subst e6
                clear hg h65 hown hd6
                have hown := hown2
                clear hown2
                refine hK.out _ _ hB (fun hHeld2 => ?_)
                clear hK K hHeld W
                have hHeld := hHeld2
                clear hHeld2
                try simp only [Act.put, List.setIfInBounds_toArray, List.set_cons_zero, List.set_cons_succ]
                obtain ⟨W, hWW⟩ : ∃ W, W = W2 := ⟨_, rfl⟩
                subst hWW
                refine wpAnyH_take (i := 8) (oi := ⟨_, _, _, _, _, _⟩) (v := ?_) rfl (by kernel_rfl) (by kernel_rfl) (by kernel_rfl) (fun _ _ _ h => h) (Or.inl ⟨by rfl, ?_⟩) (by assumption) ?_
                rotate_left
                · (intro w9 hSw; (try dsimp only at hSw); go_simp; try with_reducible rfl)
                try simp only [Act.put, List.setIfInBounds_toArray, List.set_cons_zero, List.set_cons_succ]
                refine wpAnyH_ready (rs := [9]) (by kernel_rfl) (by simp) ?_
                refine AllReadyH.cons (o := ⟨_, _, _, _, _, _⟩) rfl (fun K hK => ?_) AllReadyH.nil
                go_simp
                have hL := Blk.new W 45 #[.slice none 0 0, .slice none 0 0, .slice none 0 0]
                have gkl := hB.size
                replace hB := below_al hB (.cells #[.slice none 0 0, .slice none 0 0, .slice none 0 0] 45)
                replace hown := hown.below (below_al (Below.refl _ _) (.cells #[.slice none 0 0, .slice none 0 0, .slice none 0 0] 45))
                generalize W.alloc (.cells #[.slice none 0 0, .slice none 0 0, .slice none 0 0] 45) = W2 at hB hL hown ⊢
                generalize W.heap.size = kl at hL gkl ⊢
                refine hK.out _ _ hB (fun hHeld2 => ?_)
                clear hK K hHeld W
                have hHeld := hHeld2
                clear hHeld2
                try simp only [Act.put, List.setIfInBounds_toArray, List.set_cons_zero, List.set_cons_succ]
                obtain ⟨W, hWW⟩ : ∃ W, W = W2 := ⟨_, rfl⟩
                subst hWW
                refine wpAnyH_ready (rs := [10]) (by kernel_rfl) (by simp) ?_
                refine AllReadyH.cons (o := ⟨_, _, _, _, _, _⟩) rfl (fun K hK => ?_) AllReadyH.nil
                have f0 := hL.frozen 0
                have f1 := hL.frozen 1
                have f2 := hL.frozen 2
                have q0 := hL.cell 0
                have q1 := hL.cell 1
                have q2 := hL.cell 2
                simp only [List.getElem?_toArray, List.getElem?_cons_zero, List.getElem?_cons_succ] at q0 q1 q2
                have hne := own_ne hown hL (by decide)
                go_simp
                replace hown := hown.kept (grown_set (grown_set (grown_set (grown_refl W (some kl)) 0 (.slice A1 k c1)) 1 (.slice GA k gc)) 2 (.slice A6 (k + 1) c6)) (.inr (Ne.symm hne))
                replace hL := ((hL.set_ 0 (.slice A1 k c1)).set_ 1 (.slice GA k gc)).set_ 2 (.slice A6 (k + 1) c6)
                replace hB := below_set (p := ⟨kl, 2, none⟩) (below_set (p := ⟨kl, 1, none⟩) (below_set (p := ⟨kl, 0, none⟩) hB gkl (.slice A1 k c1)) gkl (.slice GA k gc)) gkl (.slice A6 (k + 1) c6)
                generalize ((W.setCell ⟨kl, 0, none⟩ (.slice A1 k c1)).setCell ⟨kl, 1, none⟩ (.slice GA k gc)).setCell ⟨kl, 2, none⟩ (.slice A6 (k + 1) c6) = W2 at hB hL hown ⊢
                clear f0 f1 f2 q0 q1 q2 hne
                refine hK.out _ _ hB (fun hHeld2 => ?_)
                clear hK K hHeld W
                have hHeld := hHeld2
                clear hHeld2
                try simp only [Act.put, List.setIfInBounds_toArray, List.set_cons_zero, List.set_cons_succ]
                obtain ⟨W, hWW⟩ : ∃ W, W = W2 := ⟨_, rfl⟩
                subst hWW
                refine wpAnyH_done (by kernel_rfl) ?_ _
                go_wp2_with fail
                go_meet
                obtain ⟨A6', c6', e6, hd6⟩ := OwnR.rdg hown
                rw [HN6.out] at e6 hd6
                obtain ⟨rfl, rfl⟩ : A6 = A6' ∧ c6 = c6' := by simpa using e6
                exact ⟨kl, [(A1, k, c1, xs), (GA, k, gc, gs), (A6, k + 1, c6, gs ++ [(rg, ra, rb)])], rfl, hL, rfl, Lib.hid (sls_three (hd.below hB) (by omega) HXS.out (hgd.below hB) (by omega) HGS.out hd6 (by omega) (shorts_snoc HGS.out n0 n1)), hB⟩
              refine AllReadyH.cons (o := ⟨_, _, _, _, _, _⟩) rfl (fun K hK => ?_) AllReadyH.nil
              go_simp
              have hL := Blk.new W 45 #[.slice none 0 0, .slice none 0 0, .slice none 0 0]
              have gkl := hB.size
              replace hB := below_al hB (.cells #[.slice none 0 0, .slice none 0 0, .slice none 0 0] 45)
              replace h65 := h65.alloc (.cells #[.slice none 0 0, .slice none 0 0, .slice none 0 0] 45)
              replace hown := hown.below (below_al (Below.refl _ _) (.cells #[.slice none 0 0, .slice none 0 0, .slice none 0 0] 45))
              generalize W.alloc (.cells #[.slice none 0 0, .slice none 0 0, .slice none 0 0] 45) = W2 at hB hL h65 hown ⊢
              generalize W.heap.size = kl at hL gkl ⊢
              refine hK.out _ _ hB (fun hHeld2 => ?_)
              clear hK K hHeld W
              have hHeld := hHeld2
              clear hHeld2
              try simp only [Act.put, List.setIfInBounds_toArray, List.set_cons_zero, List.set_cons_succ]
              obtain ⟨W, hWW⟩ : ∃ W, W = W2 := ⟨_, rfl⟩
              subst hWW
              refine wpAnyH_ready (rs := [7]) (by kernel_rfl) (by simp) ?_
              refine AllReadyH.cons (o := ⟨_, _, _, _, _, _⟩) rfl (fun K hK => ?_) AllReadyH.nil
              refine step_append_rows (enc := encR) (B := wr.heap.size) (ds := [(rg, ra, rb)]) (A := some ⟨k65, 0, none⟩) (n := 1) (c := 1) Tryz.underlying43 rat_info rfl (by decide) (by decide) rfl (.tmp 63) (.tmp 65) rfl encR_len encR_one rfl hown rfl (row_new h65) (by have := HGN.out; omega) (by omega) hB.size ?_
              intro v66 W2 hown2 hg
              replace hB := below_own hB hown hg
              replace hL := hL.grown hg (own_ne hown hL (by decide))
              obtain ⟨A6, c6, e6, hd6⟩ := OwnR.rdg hown2
              rw [HN6.out] at e6
              subst e6
              clear hg h65 hown hd6
              have hown := hown2
              clear hown2
              refine hK.out _ _ hB (fun hHeld2 => ?_)
              clear hK K hHeld W
              have hHeld := hHeld2
              clear hHeld2
              try simp only [Act.put, List.setIfInBounds_toArray, List.set_cons_zero, List.set_cons_succ]
              obtain ⟨W, hWW⟩ : ∃ W, W = W2 := ⟨_, rfl⟩
              subst hWW
              refine wpAnyH_take (i := 8) (oi := ⟨_, _, _, _, _, _⟩) (v := ?_) rfl (by kernel_rfl) (by kernel_rfl) (by kernel_rfl) (fun _ _ _ h => h) (Or.inl ⟨by rfl, ?_⟩) (by assumption) ?_
              rotate_left
              · (intro w9 hSw; (try dsimp only at hSw); go_simp; try with_reducible rfl)
              try simp only [Act.put, List.setIfInBounds_toArray, List.set_cons_zero, List.set_cons_succ]
              refine wpAnyH_ready (rs := [10]) (by kernel_rfl) (by simp) ?_
              refine AllReadyH.cons (o := ⟨_, _, _, _, _, _⟩) rfl (fun K hK => ?_) AllReadyH.nil
              have f0 := hL.frozen 0
              have f1 := hL.frozen 1
              have f2 := hL.frozen 2
              have q0 := hL.cell 0
              have q1 := hL.cell 1
              have q2 := hL.cell 2
              simp only [List.getElem?_toArray, List.getElem?_cons_zero, List.getElem?_cons_succ] at q0 q1 q2
              have hne := own_ne hown hL (by decide)
              go_simp
              replace hown := hown.kept (grown_set (grown_set (grown_set (grown_refl W (some kl)) 0 (.slice A1 k c1)) 1 (.slice GA k gc)) 2 (.slice A6 (k + 1) c6)) (.inr (Ne.symm hne))
              replace hL := ((hL.set_ 0 (.slice A1 k c1)).set_ 1 (.slice GA k gc)).set_ 2 (.slice A6 (k + 1) c6)
              replace hB := below_set (p := ⟨kl, 2, none⟩) (below_set (p := ⟨kl, 1, none⟩) (below_set (p := ⟨kl, 0, none⟩) hB gkl (.slice A1 k c1)) gkl (.slice GA k gc)) gkl (.slice A6 (k + 1) c6)
              generalize ((W.setCell ⟨kl, 0, none⟩ (.slice A1 k c1)).setCell ⟨kl, 1, none⟩ (.slice GA k gc)).setCell ⟨kl, 2, none⟩ (.slice A6 (k + 1) c6) = W2 at hB hL hown ⊢
              clear f0 f1 f2 q0 q1 q2 hne
              refine hK.out _ _ hB (fun hHeld2 => ?_)
              clear hK K hHeld W
              have hHeld := hHeld2
              clear hHeld2
              try simp only [Act.put, List.setIfInBounds_toArray, List.set_cons_zero, List.set_cons_succ]
              obtain ⟨W, hWW⟩ : ∃ W, W = W2 := ⟨_, rfl⟩
              subst hWW
              refine wpAnyH_done (by kernel_rfl) ?_ _
              go_wp2_with fail
              go_meet
              obtain ⟨A6', c6', e6, hd6⟩ := OwnR.rdg hown
              rw [HN6.out] at e6 hd6
              obtain ⟨rfl, rfl⟩ : A6 = A6' ∧ c6 = c6' := by simpa using e6
              exact ⟨kl, [(A1, k, c1, xs), (GA, k, gc, gs), (A6, k + 1, c6, gs ++ [(rg, ra, rb)])], rfl, hL, rfl, Lib.hid (sls_three (hd.below hB) (by omega) HXS.out (hgd.below hB) (by omega) HGS.out hd6 (by omega) (shorts_snoc HGS.out n0 n1)), hB⟩
            refine AllReadyH.cons (o := ⟨_, _, _, _, _, _⟩) rfl (fun K hK => ?_) AllReadyH.nil
            go_simp
            have hL := Blk.new W 45 #[.slice none 0 0, .slice none 0 0, .slice none 0 0]
            have gkl := hB.size
            replace hB := below_al hB (.cells #[.slice none 0 0, .slice none 0 0, .slice none 0 0] 45)
            replace h61 := h61.alloc (.cells #[.slice none 0 0, .slice none 0 0, .slice none 0 0] 45)
            replace h65 := h65.alloc (.cells #[.slice none 0 0, .slice none 0 0, .slice none 0 0] 45)
            generalize W.alloc (.cells #[.slice none 0 0, .slice none 0 0, .slice none 0 0] 45) = W2 at hB hL h61 h65 ⊢
            generalize W.heap.size = kl at hL gkl ⊢
            refine hK.out _ _ hB (fun hHeld2 => ?_)
            clear hK K hHeld W
            have hHeld := hHeld2
            clear hHeld2
            try simp only [Act.put, List.setIfInBounds_toArray, List.set_cons_zero, List.set_cons_succ]
            obtain ⟨W, hWW⟩ : ∃ W, W = W2 := ⟨_, rfl⟩
            subst hWW
            refine wpAnyH_ready (rs := [4]) (by kernel_rfl) (by simp) ?_
            refine AllReadyH.cons (o := ⟨_, _, _, _, _, _⟩) rfl (fun K hK => ?_) AllReadyH.nil
            refine step_append_rows (enc := encR) (B := wr.heap.size) (v := .slice (some ⟨k61, 0, none⟩) 0 0) (l := []) Tryz.underlying43 rat_info rfl (by decide) (by decide) rfl (.tmp 61) (.tmp 62) rfl encR_len encR_one rfl (OwnL.empty encR _ 3 h61 gk61) rfl ((RDg.row hgd).below hB) (by simp) (by omega) hB.size ?_
            intro v63 W2 hown hg
            rw [List.nil_append] at hown
            replace hB : Below wr.heap.size wr W2 := hB.grown hg hB.size (fun g e => by simp [Value.ownBlock] at e; omega)
            replace h65 := h65.grown hg (by simpa [Value.ownBlock] using blk_ne h65 h61 (by simp))
            replace hL := hL.grown hg (by simpa [Value.ownBlock] using blk_ne hL h61 (by simp))
            clear hg h61
            refine hK.out _ _ hB (fun hHeld2 => ?_)
            clear hK K hHeld W
            have hHeld := hHeld2
            clear hHeld2
            try simp only [Act.put, List.setIfInBounds_toArray, List.set_cons_zero, List.set_cons_succ]
            obtain ⟨W, hWW⟩ : ∃ W, W = W2 := ⟨_, rfl⟩
            subst hWW
            refine wpAnyH_ready (rs := [7]) (by kernel_rfl) (by simp) ?_
            refine AllReadyH.cons (o := ⟨_, _, _, _, _, _⟩) rfl (fun K hK => ?_) AllReadyH.nil
            refine step_append_rows (enc := encR) (B := wr.heap.size) (ds := [(rg, ra, rb)]) (A := some ⟨k65, 0, none⟩) (n := 1) (c := 1) Tryz.underlying43 rat_info rfl (by decide) (by decide) rfl (.tmp 63) (.tmp 65) rfl encR_len encR_one rfl hown rfl (row_new h65) (by have := HGN.out; omega) (by omega) hB.size ?_
            intro v66 W2 hown2 hg
            replace hB := below_own hB hown hg
            replace hL := hL.grown hg (own_ne hown hL (by decide))
            obtain ⟨A6, c6, e6, hd6⟩ := OwnR.rdg hown2
            rw [HN6.out] at e6
            subst e6
            clear hg h65 hown hd6
            have hown := hown2
            clear hown2
            refine hK.out _ _ hB (fun hHeld2 => ?_)
            clear hK K hHeld W
            have hHeld := hHeld2
            clear hHeld2
            try simp only [Act.put, List.setIfInBounds_toArray, List.set_cons_zero, List.set_cons_succ]
            obtain ⟨W, hWW⟩ : ∃ W, W = W2 := ⟨_, rfl⟩
            subst hWW
            refine wpAnyH_take (i := 8) (oi := ⟨_, _, _, _, _, _⟩) (v := ?_) rfl (by kernel_rfl) (by kernel_rfl) (by kernel_rfl) (fun _ _ _ h => h) (Or.inl ⟨by rfl, ?_⟩) (by assumption) ?_
            rotate_left
            · (intro w9 hSw; (try dsimp only at hSw); go_simp; try with_reducible rfl)
            try simp only [Act.put, List.setIfInBounds_toArray, List.set_cons_zero, List.set_cons_succ]
            refine wpAnyH_ready (rs := [10]) (by kernel_rfl) (by simp) ?_
            refine AllReadyH.cons (o := ⟨_, _, _, _, _, _⟩) rfl (fun K hK => ?_) AllReadyH.nil
            have f0 := hL.frozen 0
            have f1 := hL.frozen 1
            have f2 := hL.frozen 2
            have q0 := hL.cell 0
            have q1 := hL.cell 1
            have q2 := hL.cell 2
            simp only [List.getElem?_toArray, List.getElem?_cons_zero, List.getElem?_cons_succ] at q0 q1 q2
            have hne := own_ne hown hL (by decide)
            go_simp
            replace hown := hown.kept (grown_set (grown_set (grown_set (grown_refl W (some kl)) 0 (.slice A1 k c1)) 1 (.slice GA k gc)) 2 (.slice A6 (k + 1) c6)) (.inr (Ne.symm hne))
            replace hL := ((hL.set_ 0 (.slice A1 k c1)).set_ 1 (.slice GA k gc)).set_ 2 (.slice A6 (k + 1) c6)
            replace hB := below_set (p := ⟨kl, 2, none⟩) (below_set (p := ⟨kl, 1, none⟩) (below_set (p := ⟨kl, 0, none⟩) hB gkl (.slice A1 k c1)) gkl (.slice GA k gc)) gkl (.slice A6 (k + 1) c6)
            generalize ((W.setCell ⟨kl, 0, none⟩ (.slice A1 k c1)).setCell ⟨kl, 1, none⟩ (.slice GA k gc)).setCell ⟨kl, 2, none⟩ (.slice A6 (k + 1) c6) = W2 at hB hL hown ⊢
            clear f0 f1 f2 q0 q1 q2 hne
            refine hK.out _ _ hB (fun hHeld2 => ?_)
            clear hK K hHeld W
            have hHeld := hHeld2
            clear hHeld2
            try simp only [Act.put, List.setIfInBounds_toArray, List.set_cons_zero, List.set_cons_succ]
            obtain ⟨W, hWW⟩ : ∃ W, W = W2 := ⟨_, rfl⟩
            subst hWW
            refine wpAnyH_done (by kernel_rfl) ?_ _
            go_wp2_with fail
            go_meet
            obtain ⟨A6', c6', e6, hd6⟩ := OwnR.rdg hown
            rw [HN6.out] at e6 hd6
            obtain ⟨rfl, rfl⟩ : A6 = A6' ∧ c6 = c6' := by simpa using e6
            exact ⟨kl, [(A1, k, c1, xs), (GA, k, gc, gs), (A6, k + 1, c6, gs ++ [(rg, ra, rb)])], rfl, hL, rfl, Lib.hid (sls_three (hd.below hB) (by omega) HXS.out (hgd.below hB) (by omega) HGS.out hd6 (by omega) (shorts_snoc HGS.out n0 n1)), hB⟩
          refine AllReadyH.cons (o := ⟨_, _, _, _, _, _⟩) rfl (fun K hK => ?_) AllReadyH.nil
          go_simp
          have hL := Blk.new W 45 #[.slice none 0 0, .slice none 0 0, .slice none 0 0]
          have gkl := hB.size
          replace hB := below_al hB (.cells #[.slice none 0 0, .slice none 0 0, .slice none 0 0] 45)
          replace h65 := h65.alloc (.cells #[.slice none 0 0, .slice none 0 0, .slice none 0 0] 45)
          generalize W.alloc (.cells #[.slice none 0 0, .slice none 0 0, .slice none 0 0] 45) = W2 at hB hL h65 ⊢
          generalize W.heap.size = kl at hL gkl ⊢
          refine hK.out _ _ hB (fun hHeld2 => ?_)
          clear hK K hHeld W
          have hHeld := hHeld2
          clear hHeld2
          try simp only [Act.put, List.setIfInBounds_toArray, List.set_cons_zero, List.set_cons_succ]
          obtain ⟨W, hWW⟩ : ∃ W, W = W2 := ⟨_, rfl⟩
          subst hWW
          refine wpAnyH_ready (rs := [2]) (by kernel_rfl) (by simp) ?_
          refine AllReadyH.cons (o := ⟨_, _, _, _, _, _⟩) rfl (fun K hK => ?_) AllReadyH.nil
          go_simp
          have h61 := Blk.new W 27 #[]
          have gk61 := hB.size
          replace hB := below_al hB (.cells #[] 27)
          replace h65 := h65.alloc (.cells #[] 27)
          replace hL := hL.alloc (.cells #[] 27)
          generalize W.alloc (.cells #[] 27) = W2 at hB h61 h65 hL ⊢
          generalize W.heap.size = k61 at h61 gk61 ⊢
          refine hK.out _ _ hB (fun hHeld2 => ?_)
          clear hK K hHeld W
          have hHeld := hHeld2
          clear hHeld2
          try simp only [Act.put, List.setIfInBounds_toArray, List.set_cons_zero, List.set_cons_succ]
          obtain ⟨W, hWW⟩ : ∃ W, W = W2 := ⟨_, rfl⟩
          subst hWW
          refine wpAnyH_ready (rs := [4]) (by kernel_rfl) (by simp) ?_
          refine AllReadyH.cons (o := ⟨_, _, _, _, _, _⟩) rfl (fun K hK => ?_) AllReadyH.nil
          refine step_append_rows (enc := encR) (B := wr.heap.size) (v := .slice (some ⟨k61, 0, none⟩) 0 0) (l := []) Tryz.underlying43 rat_info rfl (by decide) (by decide) rfl (.tmp 61) (.tmp 62) rfl encR_len encR_one rfl (OwnL.empty encR _ 3 h61 gk61) rfl ((RDg.row hgd).below hB) (by simp) (by omega) hB.size ?_
          intro v63 W2 hown hg
          rw [List.nil_append] at hown
          replace hB : Below wr.heap.size wr W2 := hB.grown hg hB.size (fun g e => by simp [Value.ownBlock] at e; omega)
          replace h65 := h65.grown hg (by simpa [Value.ownBlock] using blk_ne h65 h61 (by simp))
          replace hL := hL.grown hg (by simpa [Value.ownBlock] using blk_ne hL h61 (by simp))
          clear hg h61
          refine hK.out _ _ hB (fun hHeld2 => ?_)
          clear hK K hHeld W
          have hHeld := hHeld2
          clear hHeld2
          try simp only [Act.put, List.setIfInBounds_toArray, List.set_cons_zero, List.set_cons_succ]
          obtain ⟨W, hWW⟩ : ∃ W, W = W2 := ⟨_, rfl⟩
          subst hWW
          refine wpAnyH_ready (rs := [7]) (by kernel_rfl) (by simp) ?_
          refine AllReadyH.cons (o := ⟨_, _, _, _, _, _⟩) rfl (fun K hK => ?_) AllReadyH.nil
          refine step_append_rows (enc := encR) (B := wr.heap.size) (ds := [(rg, ra, rb)]) (A := some ⟨k65, 0, none⟩) (n := 1) (c := 1) Tryz.underlying43 rat_info rfl (by decide) (by decide) rfl (.tmp 63) (.tmp 65) rfl encR_len encR_one rfl hown rfl (row_new h65) (by have := HGN.out; omega) (by omega) hB.size ?_
          intro v66 W2 hown2 hg
          replace hB := below_own hB hown hg
          replace hL := hL.grown hg (own_ne hown hL (by decide))
          obtain ⟨A6, c6, e6, hd6⟩ := OwnR.rdg hown2
          rw [HN6.out] at e6
          subst e6
          clear hg h65 hown hd6
          have hown := hown2
          clear hown2
          refine hK.out _ _ hB (fun hHeld2 => ?_)
          clear hK K hHeld W
          have hHeld := hHeld2
          clear hHeld2
          try simp only [Act.put, List.setIfInBounds_toArray, List.set_cons_zero, List.set_cons_succ]
          obtain ⟨W, hWW⟩ : ∃ W, W = W2 := ⟨_, rfl⟩
          subst hWW
          refine wpAnyH_take (i := 8) (oi := ⟨_, _, _, _, _, _⟩) (v := ?_) rfl (by kernel_rfl) (by kernel_rfl) (by kernel_rfl) (fun _ _ _ h => h) (Or.inl ⟨by rfl, ?_⟩) (by assumption) ?_
          rotate_left
          · (intro w9 hSw; (try dsimp only at hSw); go_simp; try with_reducible rfl)
          try simp only [Act.put, List.setIfInBounds_toArray, List.set_cons_zero, List.set_cons_succ]
          refine wpAnyH_ready (rs := [10]) (by kernel_rfl) (by simp) ?_
          refine AllReadyH.cons (o := ⟨_, _, _, _, _, _⟩) rfl (fun K hK => ?_) AllReadyH.nil
          have f0 := hL.frozen 0
          have f1 := hL.frozen 1
          have f2 := hL.frozen 2
          have q0 := hL.cell 0
          have q1 := hL.cell 1
          have q2 := hL.cell 2
          simp only [List.getElem?_toArray, List.getElem?_cons_zero, List.getElem?_cons_succ] at q0 q1 q2
          have hne := own_ne hown hL (by decide)
          go_simp
          replace hown := hown.kept (grown_set (grown_set (grown_set (grown_refl W (some kl)) 0 (.slice A1 k c1)) 1 (.slice GA k gc)) 2 (.slice A6 (k + 1) c6)) (.inr (Ne.symm hne))
          replace hL := ((hL.set_ 0 (.slice A1 k c1)).set_ 1 (.slice GA k gc)).set_ 2 (.slice A6 (k + 1) c6)
          replace hB := below_set (p := ⟨kl, 2, none⟩) (below_set (p := ⟨kl, 1, none⟩) (below_set (p := ⟨kl, 0, none⟩) hB gkl (.slice A1 k c1)) gkl (.slice GA k gc)) gkl (.slice A6 (k + 1) c6)
          generalize ((W.setCell ⟨kl, 0, none⟩ (.slice A1 k c1)).setCell ⟨kl, 1, none⟩ (.slice GA k gc)).setCell ⟨kl, 2, none⟩ (.slice A6 (k + 1) c6) = W2 at hB hL hown ⊢
          clear f0 f1 f2 q0 q1 q2 hne
          refine hK.out _ _ hB (fun hHeld2 => ?_)
          clear hK K hHeld W
          have hHeld := hHeld2
          clear hHeld2
          try simp only [Act.put, List.setIfInBounds_toArray, List.set_cons_zero, List.set_cons_succ]
          obtain ⟨W, hWW⟩ : ∃ W, W = W2 := ⟨_, rfl⟩
          subst hWW
          refine wpAnyH_done (by kernel_rfl) ?_ _
          go_wp2_with fail
          go_meet
          obtain ⟨A6', c6', e6, hd6⟩ := OwnR.rdg hown
          rw [HN6.out] at e6 hd6
          obtain ⟨rfl, rfl⟩ : A6 = A6' ∧ c6 = c6' := by simpa using e6
          exact ⟨kl, [(A1, k, c1, xs), (GA, k, gc, gs), (A6, k + 1, c6, gs ++ [(rg, ra, rb)])], rfl, hL, rfl, Lib.hid (sls_three (hd.below hB) (by omega) HXS.out (hgd.below hB) (by omega) HGS.out hd6 (by omega) (shorts_snoc HGS.out n0 n1)), hB⟩
        refine AllReadyH.cons (o := ⟨_, _, _, _, _, _⟩) rfl (fun K hK => ?_) AllReadyH.nil
        go_simp
        have hL := Blk.new W 45 #[.slice none 0 0, .slice none 0 0, .slice none 0 0]
        have gkl := hB.size
        replace hB := below_al hB (.cells #[.slice none 0 0, .slice none 0 0, .slice none 0 0] 45)
        generalize W.alloc (.cells #[.slice none 0 0, .slice none 0 0, .slice none 0 0] 45) = W2 at hB hL  ⊢
        generalize W.heap.size = kl at hL gkl ⊢
        refine hK.out _ _ hB (fun hHeld2 => ?_)
        clear hK K hHeld W
        have hHeld := hHeld2
        clear hHeld2
        try simp only [Act.put, List.setIfInBounds_toArray, List.set_cons_zero, List.set_cons_succ]
        obtain ⟨W, hWW⟩ : ∃ W, W = W2 := ⟨_, rfl⟩
        subst hWW
        refine wpAnyH_ready (rs := [2, 6]) (by kernel_rfl) (by simp) ?_
        refine AllReadyH.cons (o := ⟨_, _, _, _, _, _⟩) rfl (fun K hK => ?_) ?_
        · skip
          go_simp
          have h61 := Blk.new W 27 #[]
          have gk61 := hB.size
          replace hB := below_al hB (.cells #[] 27)
          replace hL := hL.alloc (.cells #[] 27)
          generalize W.alloc (.cells #[] 27) = W2 at hB h61 hL ⊢
          generalize W.heap.size = k61 at h61 gk61 ⊢
          refine hK.out _ _ hB (fun hHeld2 => ?_)
          clear hK K hHeld W
          have hHeld := hHeld2
          clear hHeld2
          try simp only [Act.put, List.setIfInBounds_toArray, List.set_cons_zero, List.set_cons_succ]
          obtain ⟨W, hWW⟩ : ∃ W, W = W2 := ⟨_, rfl⟩
          subst hWW
          refine wpAnyH_ready (rs := [4, 6]) (by kernel_rfl) (by simp) ?_
          refine AllReadyH.cons (o := ⟨_, _, _, _, _, _⟩) rfl (fun K hK => ?_) ?_
          · skip
            refine step_append_rows (enc := encR) (B := wr.heap.size) (v := .slice (some ⟨k61, 0, none⟩) 0 0) (l := []) Tryz.underlying43 rat_info rfl (by decide) (by decide) rfl (.tmp 61) (.tmp 62) rfl encR_len encR_one rfl (OwnL.empty encR _ 3 h61 gk61) rfl ((RDg.row hgd).below hB) (by simp) (by omega) hB.size ?_
            intro v63 W2 hown hg
            rw [List.nil_append] at hown
            replace hB : Below wr.heap.size wr W2 := hB.grown hg hB.size (fun g e => by simp [Value.ownBlock] at e; omega)
            replace hL := hL.grown hg (by simpa [Value.ownBlock] using blk_ne hL h61 (by simp))
            clear hg h61
            refine hK.out _ _ hB (fun hHeld2 => ?_)
            clear hK K hHeld W
            have hHeld := hHeld2
            clear hHeld2
            try simp only [Act.put, List.setIfInBounds_toArray, List.set_cons_zero, List.set_cons_succ]
            obtain ⟨W, hWW⟩ : ∃ W, W = W2 := ⟨_, rfl⟩
            subst hWW
            refine wpAnyH_ready (rs := [6]) (by kernel_rfl) (by simp) ?_
            refine AllReadyH.cons (o := ⟨_, _, _, _, _, _⟩) rfl (fun K hK => ?_) AllReadyH.nil
            go_simp
            have h65 := Blk.new W 27 #[.bool rg, .string ra, .string rb]
            have gk65 := hB.size
            replace hB := below_al hB (.cells #[.bool rg, .string ra, .string rb] 27)
            replace hL := hL.alloc (.cells #[.bool rg, .string ra, .string rb] 27)
            replace hown := hown.below (below_al (Below.refl _ _) (.cells #[.bool rg, .string ra, .string rb] 27))
            generalize W.alloc (.cells #[.bool rg, .string ra, .string rb] 27) = W2 at hB h65 hL hown ⊢
            generalize W.heap.size = k65 at h65 gk65 ⊢
            refine hK.out _ _ hB (fun hHeld2 => ?_)
            clear hK K hHeld W
            have hHeld := hHeld2
            clear hHeld2
            try simp only [Act.put, List.setIfInBounds_toArray, List.set_cons_zero, List.set_cons_succ]
            obtain ⟨W, hWW⟩ : ∃ W, W = W2 := ⟨_, rfl⟩
            subst hWW
            refine wpAnyH_ready (rs := [7]) (by kernel_rfl) (by simp) ?_
            refine AllReadyH.cons (o := ⟨_, _, _, _, _, _⟩) rfl (fun K hK => ?_) AllReadyH.nil
            refine step_append_rows (enc := encR) (B := wr.heap.size) (ds := [(rg, ra, rb)]) (A := some ⟨k65, 0, none⟩) (n := 1) (c := 1) Tryz.underlying43 rat_info rfl (by decide) (by decide) rfl (.tmp 63) (.tmp 65) rfl encR_len encR_one rfl hown rfl (row_new h65) (by have := HGN.out; omega) (by omega) hB.size ?_
            intro v66 W2 hown2 hg
            replace hB := below_own hB hown hg
            replace hL := hL.grown hg (own_ne hown hL (by decide))
            obtain ⟨A6, c6, e6, hd6⟩ := OwnR.rdg hown2
            rw [HN6.out] at e6
            subst e6
            clear hg h65 hown hd6
            have hown := hown2
            clear hown2
            refine hK.out _ _ hB (fun hHeld2 => ?_)
            clear hK K hHeld W
            have hHeld := hHeld2
            clear hHeld2
            try simp only [Act.put, List.setIfInBounds_toArray, List.set_cons_zero, List.set_cons_succ]
            obtain ⟨W, hWW⟩ : ∃ W, W = W2 := ⟨_, rfl⟩
            subst hWW
            refine wpAnyH_take (i := 8) (oi := ⟨_, _, _, _, _, _⟩) (v := ?_) rfl (by kernel_rfl) (by kernel_rfl) (by kernel_rfl) (fun _ _ _ h => h) (Or.inl ⟨by rfl, ?_⟩) (by assumption) ?_
            rotate_left
            · (intro w9 hSw; (try dsimp only at hSw); go_simp; try with_reducible rfl)
            try simp only [Act.put, List.setIfInBounds_toArray, List.set_cons_zero, List.set_cons_succ]
            refine wpAnyH_ready (rs := [10]) (by kernel_rfl) (by simp) ?_
            refine AllReadyH.cons (o := ⟨_, _, _, _, _, _⟩) rfl (fun K hK => ?_) AllReadyH.nil
            have f0 := hL.frozen 0
            have f1 := hL.frozen 1
            have f2 := hL.frozen 2
            have q0 := hL.cell 0
            have q1 := hL.cell 1
            have q2 := hL.cell 2
            simp only [List.getElem?_toArray, List.getElem?_cons_zero, List.getElem?_cons_succ] at q0 q1 q2
            have hne := own_ne hown hL (by decide)
            go_simp
            replace hown := hown.kept (grown_set (grown_set (grown_set (grown_refl W (some kl)) 0 (.slice A1 k c1)) 1 (.slice GA k gc)) 2 (.slice A6 (k + 1) c6)) (.inr (Ne.symm hne))
            replace hL := ((hL.set_ 0 (.slice A1 k c1)).set_ 1 (.slice GA k gc)).set_ 2 (.slice A6 (k + 1) c6)
            replace hB := below_set (p := ⟨kl, 2, none⟩) (below_set (p := ⟨kl, 1, none⟩) (below_set (p := ⟨kl, 0, none⟩) hB gkl (.slice A1 k c1)) gkl (.slice GA k gc)) gkl (.slice A6 (k + 1) c6)
            generalize ((W.setCell ⟨kl, 0, none⟩ (.slice A1 k c1)).setCell ⟨kl, 1, none⟩ (.slice GA k gc)).setCell ⟨kl, 2, none⟩ (.slice A6 (k + 1) c6) = W2 at hB hL hown ⊢
            clear f0 f1 f2 q0 q1 q2 hne
            refine hK.out _ _ hB (fun hHeld2 => ?_)
            clear hK K hHeld W
            have hHeld := hHeld2
            clear hHeld2
            try simp only [Act.put, List.setIfInBounds_toArray, List.set_cons_zero, List.set_cons_succ]
            obtain ⟨W, hWW⟩ : ∃ W, W = W2 := ⟨_, rfl⟩
            subst hWW
            refine wpAnyH_done (by kernel_rfl) ?_ _
            go_wp2_with fail
            go_meet
            obtain ⟨A6', c6', e6, hd6⟩ := OwnR.rdg hown
            rw [HN6.out] at e6 hd6
            obtain ⟨rfl, rfl⟩ : A6 = A6' ∧ c6 = c6' := by simpa using e6
            exact ⟨kl, [(A1, k, c1, xs), (GA, k, gc, gs), (A6, k + 1, c6, gs ++ [(rg, ra, rb)])], rfl, hL, rfl, Lib.hid (sls_three (hd.below hB) (by omega) HXS.out (hgd.below hB) (by omega) HGS.out hd6 (by omega) (shorts_snoc HGS.out n0 n1)), hB⟩
          refine AllReadyH.cons (o := ⟨_, _, _, _, _, _⟩) rfl (fun K hK => ?_) AllReadyH.nil
          go_simp
          have h65 := Blk.new W 27 #[.bool rg, .string ra, .string rb]
          have gk65 := hB.size
          replace hB := below_al hB (.cells #[.bool rg, .string ra, .string rb] 27)
          replace h61 := h61.alloc (.cells #[.bool rg, .string ra, .string rb] 27)
          replace hL := hL.alloc (.cells #[.bool rg, .string ra, .string rb] 27)
          generalize W.alloc (.cells #[.bool rg, .string ra, .string rb] 27) = W2 at hB h65 h61 hL ⊢
          generalize W.heap.size = k65 at h65 gk65 ⊢
          refine hK.out _ _ hB (fun hHeld2 => ?_)
          clear hK K hHeld W
          have hHeld := hHeld2
          clear hHeld2
          try simp only [Act.put, List.setIfInBounds_toArray, List.set_cons_zero, List.set_cons_succ]
          obtain ⟨W, hWW⟩ : ∃ W, W = W2 := ⟨_, rfl⟩
          subst hWW
          refine wpAnyH_ready (rs := [4]) (by kernel_rfl) (by simp) ?_
          refine AllReadyH.cons (o := ⟨_, _, _, _, _, _⟩) rfl (fun K hK => ?_) AllReadyH.nil
          refine step_append_rows (enc := encR) (B := wr.heap.size) (v := .slice (some ⟨k61, 0, none⟩) 0 0) (l := []) Tryz.underlying43 rat_info rfl (by decide) (by decide) rfl (.tmp 61) (.tmp 62) rfl encR_len encR_one rfl (OwnL.empty encR _ 3 h61 gk61) rfl ((RDg.row hgd).below hB) (by simp) (by omega) hB.size ?_
          intro v63 W2 hown hg
          rw [List.nil_append] at hown
          replace hB : Below wr.heap.size wr W2 := hB.grown hg hB.size (fun g e => by simp [Value.ownBlock] at e; omega)
          replace h65 := h65.grown hg (by simpa [Value.ownBlock] using blk_ne h65 h61 (by simp))
          replace hL := hL.grown hg (by simpa [Value.ownBlock] using blk_ne hL h61 (by simp))
          clear hg h61
          refine hK.out _ _ hB (fun hHeld2 => ?_)
          clear hK K hHeld W
          have hHeld := hHeld2
          clear hHeld2
          try simp only [Act.put, List.setIfInBounds_toArray, List.set_cons_zero, List.set_cons_succ]
          obtain ⟨W, hWW⟩ : ∃ W, W = W2 := ⟨_, rfl⟩
          subst hWW
          refine wpAnyH_ready (rs := [7]) (by kernel_rfl) (by simp) ?_
          refine AllReadyH.cons (o := ⟨_, _, _, _, _, _⟩) rfl (fun K hK => ?_) AllReadyH.nil
          refine step_append_rows (enc := encR) (B := wr.heap.size) (ds := [(rg, ra, rb)]) (A := some ⟨k65, 0, none⟩) (n := 1) (c := 1) Tryz.underlying43 rat_info rfl (by decide) (by decide) rfl (.tmp 63) (.tmp 65) rfl encR_len encR_one rfl hown rfl (row_new h65) (by have := HGN.out; omega) (by omega) hB.size ?_
          intro v66 W2 hown2 hg
          replace hB := below_own hB hown hg
          replace hL := hL.grown hg (own_ne hown hL (by decide))
          obtain ⟨A6, c6, e6, hd6⟩ := OwnR.rdg hown2
          rw [HN6.out] at e6
          subst e6
          clear hg h65 hown hd6
          have hown := hown2
          clear hown2
          refine hK.out _ _ hB (fun hHeld2 => ?_)
          clear hK K hHeld W
          have hHeld := hHeld2
          clear hHeld2
          try simp only [Act.put, List.setIfInBounds_toArray, List.set_cons_zero, List.set_cons_succ]
          obtain ⟨W, hWW⟩ : ∃ W, W = W2 := ⟨_, rfl⟩
          subst hWW
          refine wpAnyH_take (i := 8) (oi := ⟨_, _, _, _, _, _⟩) (v := ?_) rfl (by kernel_rfl) (by kernel_rfl) (by kernel_rfl) (fun _ _ _ h => h) (Or.inl ⟨by rfl, ?_⟩) (by assumption) ?_
          rotate_left
          · (intro w9 hSw; (try dsimp only at hSw); go_simp; try with_reducible rfl)
          try simp only [Act.put, List.setIfInBounds_toArray, List.set_cons_zero, List.set_cons_succ]
          refine wpAnyH_ready (rs := [10]) (by kernel_rfl) (by simp) ?_
          refine AllReadyH.cons (o := ⟨_, _, _, _, _, _⟩) rfl (fun K hK => ?_) AllReadyH.nil
          have f0 := hL.frozen 0
          have f1 := hL.frozen 1
          have f2 := hL.frozen 2
          have q0 := hL.cell 0
          have q1 := hL.cell 1
          have q2 := hL.cell 2
          simp only [List.getElem?_toArray, List.getElem?_cons_zero, List.getElem?_cons_succ] at q0 q1 q2
          have hne := own_ne hown hL (by decide)
          go_simp
          replace hown := hown.kept (grown_set (grown_set (grown_set (grown_refl W (some kl)) 0 (.slice A1 k c1)) 1 (.slice GA k gc)) 2 (.slice A6 (k + 1) c6)) (.inr (Ne.symm hne))
          replace hL := ((hL.set_ 0 (.slice A1 k c1)).set_ 1 (.slice GA k gc)).set_ 2 (.slice A6 (k + 1) c6)
          replace hB := below_set (p := ⟨kl, 2, none⟩) (below_set (p := ⟨kl, 1, none⟩) (below_set (p := ⟨kl, 0, none⟩) hB gkl (.slice A1 k c1)) gkl (.slice GA k gc)) gkl (.slice A6 (k + 1) c6)
          generalize ((W.setCell ⟨kl, 0, none⟩ (.slice A1 k c1)).setCell ⟨kl, 1, none⟩ (.slice GA k gc)).setCell ⟨kl, 2, none⟩ (.slice A6 (k + 1) c6) = W2 at hB hL hown ⊢
          clear f0 f1 f2 q0 q1 q2 hne
          refine hK.out _ _ hB (fun hHeld2 => ?_)
          clear hK K hHeld W
          have hHeld := hHeld2
          clear hHeld2
          try simp only [Act.put, List.setIfInBounds_toArray, List.set_cons_zero, List.set_cons_succ]
          obtain ⟨W, hWW⟩ : ∃ W, W = W2 := ⟨_, rfl⟩
          subst hWW
          refine wpAnyH_done (by kernel_rfl) ?_ _
          go_wp2_with fail
          go_meet
          obtain ⟨A6', c6', e6, hd6⟩ := OwnR.rdg hown
          rw [HN6.out] at e6 hd6
          obtain ⟨rfl, rfl⟩ : A6 = A6' ∧ c6 = c6' := by simpa using e6
          exact ⟨kl, [(A1, k, c1, xs), (GA, k, gc, gs), (A6, k + 1, c6, gs ++ [(rg, ra, rb)])], rfl, hL, rfl, Lib.hid (sls_three (hd.below hB) (by omega) HXS.out (hgd.below hB) (by omega) HGS.out hd6 (by omega) (shorts_snoc HGS.out n0 n1)), hB⟩
        refine AllReadyH.cons (o := ⟨_, _, _, _, _, _⟩) rfl (fun K hK => ?_) AllReadyH.nil
        go_simp
        have h65 := Blk.new W 27 #[.bool rg, .string ra, .string rb]
        have gk65 := hB.size
        replace hB := below_al hB (.cells #[.bool rg, .string ra, .string rb] 27)
        replace hL := hL.alloc (.cells #[.bool rg, .string ra, .string rb] 27)
        generalize W.alloc (.cells #[.bool rg, .string ra, .string rb] 27) = W2 at hB h65 hL ⊢
        generalize W.heap.size = k65 at h65 gk65 ⊢
        refine hK.out _ _ hB (fun hHeld2 => ?_)
        clear hK K hHeld W
        have hHeld := hHeld2
        clear hHeld2
        try simp only [Act.put, List.setIfInBounds_toArray, List.set_cons_zero, List.set_cons_succ]
        obtain ⟨W, hWW⟩ : ∃ W, W = W2 := ⟨_, rfl⟩
        subst hWW
        refine wpAnyH_ready (rs := [2]) (by kernel_rfl) (by simp) ?_
        refine AllReadyH.cons (o := ⟨_, _, _, _, _, _⟩) rfl (fun K hK => ?_) AllReadyH.nil
        go_simp
        have h61 := Blk.new W 27 #[]
        have gk61 := hB.size
        replace hB := below_al hB (.cells #[] 27)
        replace h65 := h65.alloc (.cells #[] 27)
        replace hL := hL.alloc (.cells #[] 27)
        generalize W.alloc (.cells #[] 27) = W2 at hB h61 h65 hL ⊢
        generalize W.heap.size = k61 at h61 gk61 ⊢
        refine hK.out _ _ hB (fun hHeld2 => ?_)
        clear hK K hHeld W
        have hHeld := hHeld2
        clear hHeld2
        try simp only [Act.put, List.setIfInBounds_toArray, List.set_cons_zero, List.set_cons_succ]
        obtain ⟨W, hWW⟩ : ∃ W, W = W2 := ⟨_, rfl⟩
        subst hWW
        refine wpAnyH_ready (rs := [4]) (by kernel_rfl) (by simp) ?_
        refine AllReadyH.cons (o := ⟨_, _, _, _, _, _⟩) rfl (fun K hK => ?_) AllReadyH.nil
        refine step_append_rows (enc := encR) (B := wr.heap.size) (v := .slice (some ⟨k61, 0, none⟩) 0 0) (l := []) Tryz.underlying43 rat_info rfl (by decide) (by decide) rfl (.tmp 61) (.tmp 62) rfl encR_len encR_one rfl (OwnL.empty encR _ 3 h61 gk61) rfl ((RDg.row hgd).below hB) (by simp) (by omega) hB.size ?_
        intro v63 W2 hown hg
        rw [List.nil_append] at hown
        replace hB : Below wr.heap.size wr W2 := hB.grown hg hB.size (fun g e => by simp [Value.ownBlock] at e; omega)
        replace h65 := h65.grown hg (by simpa [Value.ownBlock] using blk_ne h65 h61 (by simp))
        replace hL := hL.grown hg (by simpa [Value.ownBlock] using blk_ne hL h61 (by simp))
        clear hg h61
        refine hK.out _ _ hB (fun hHeld2 => ?_)
        clear hK K hHeld W
        have hHeld := hHeld2
        clear hHeld2
        try simp only [Act.put, List.setIfInBounds_toArray, List.set_cons_zero, List.set_cons_succ]
        obtain ⟨W, hWW⟩ : ∃ W, W = W2 := ⟨_, rfl⟩
        subst hWW
        refine wpAnyH_ready (rs := [7]) (by kernel_rfl) (by simp) ?_
        refine AllReadyH.cons (o := ⟨_, _, _, _, _, _⟩) rfl (fun K hK => ?_) AllReadyH.nil
        refine step_append_rows (enc := encR) (B := wr.heap.size) (ds := [(rg, ra, rb)]) (A := some ⟨k65, 0, none⟩) (n := 1) (c := 1) Tryz.underlying43 rat_info rfl (by decide) (by decide) rfl (.tmp 63) (.tmp 65) rfl encR_len encR_one rfl hown rfl (row_new h65) (by have := HGN.out; omega) (by omega) hB.size ?_
        intro v66 W2 hown2 hg
        replace hB := below_own hB hown hg
        replace hL := hL.grown hg (own_ne hown hL (by decide))
        obtain ⟨A6, c6, e6, hd6⟩ := OwnR.rdg hown2
        rw [HN6.out] at e6
        subst e6
        clear hg h65 hown hd6
        have hown := hown2
        clear hown2
        refine hK.out _ _ hB (fun hHeld2 => ?_)
        clear hK K hHeld W
        have hHeld := hHeld2
        clear hHeld2
        try simp only [Act.put, List.setIfInBounds_toArray, List.set_cons_zero, List.set_cons_succ]
        obtain ⟨W, hWW⟩ : ∃ W, W = W2 := ⟨_, rfl⟩
        subst hWW
        refine wpAnyH_take (i := 8) (oi := ⟨_, _, _, _, _, _⟩) (v := ?_) rfl (by kernel_rfl) (by kernel_rfl) (by kernel_rfl) (fun _ _ _ h => h) (Or.inl ⟨by rfl, ?_⟩) (by assumption) ?_
        rotate_left
        · (intro w9 hSw; (try dsimp only at hSw); go_simp; try with_reducible rfl)
        try simp only [Act.put, List.setIfInBounds_toArray, List.set_cons_zero, List.set_cons_succ]
        refine wpAnyH_ready (rs := [10]) (by kernel_rfl) (by simp) ?_
        refine AllReadyH.cons (o := ⟨_, _, _, _, _, _⟩) rfl (fun K hK => ?_) AllReadyH.nil
        have f0 := hL.frozen 0
        have f1 := hL.frozen 1
        have f2 := hL.frozen 2
        have q0 := hL.cell 0
        have q1 := hL.cell 1
        have q2 := hL.cell 2
        simp only [List.getElem?_toArray, List.getElem?_cons_zero, List.getElem?_cons_succ] at q0 q1 q2
        have hne := own_ne hown hL (by decide)
        go_simp
        replace hown := hown.kept (grown_set (grown_set (grown_set (grown_refl W (some kl)) 0 (.slice A1 k c1)) 1 (.slice GA k gc)) 2 (.slice A6 (k + 1) c6)) (.inr (Ne.symm hne))
        replace hL := ((hL.set_ 0 (.slice A1 k c1)).set_ 1 (.slice GA k gc)).set_ 2 (.slice A6 (k + 1) c6)
        replace hB := below_set (p := ⟨kl, 2, none⟩) (below_set (p := ⟨kl, 1, none⟩) (below_set (p := ⟨kl, 0, none⟩) hB gkl (.slice A1 k c1)) gkl (.slice GA k gc)) gkl (.slice A6 (k + 1) c6)
        generalize ((W.setCell ⟨kl, 0, none⟩ (.slice A1 k c1)).setCell ⟨kl, 1, none⟩ (.slice GA k gc)).setCell ⟨kl, 2, none⟩ (.slice A6 (k + 1) c6) = W2 at hB hL hown ⊢
        clear f0 f1 f2 q0 q1 q2 hne
        refine hK.out _ _ hB (fun hHeld2 => ?_)
        clear hK K hHeld W
        have hHeld := hHeld2
        clear hHeld2
        try simp only [Act.put, List.setIfInBounds_toArray, List.set_cons_zero, List.set_cons_succ]
        obtain ⟨W, hWW⟩ : ∃ W, W = W2 := ⟨_, rfl⟩
        subst hWW
        refine wpAnyH_done (by kernel_rfl) ?_ _
        go_wp2_with fail
        go_meet
        obtain ⟨A6', c6', e6, hd6⟩ := OwnR.rdg hown
        rw [HN6.out] at e6 hd6
        obtain ⟨rfl, rfl⟩ : A6 = A6' ∧ c6 = c6' := by simpa using e6
        exact ⟨kl, [(A1, k, c1, xs), (GA, k, gc, gs), (A6, k + 1, c6, gs ++ [(rg, ra, rb)])], rfl, hL, rfl, Lib.hid (sls_three (hd.below hB) (by omega) HXS.out (hgd.below hB) (by omega) HGS.out hd6 (by omega) (shorts_snoc HGS.out n0 n1)), hB⟩
      obtain ⟨kl, L, rfl, hkl, hll, HLS, hcb⟩ := hcut
      replace hB := below_then hB hcb
      replace hgd := hgd.below hcb
      clear hcb hkr
      go_wp2_with fail
      go_loopw [11, 12, 13, 14, 15, 16, 17] (fun s11 _ _ _ _ _ _ wy => ∃ j : Nat, j ≤ 3 ∧ s11 = .int .i64 (j : Int) ∧ Below wc.heap.size wc wy) (fun s11 _ _ _ _ _ _ _ => 3 - (intOf s11).toNat)
      case atStart => exact ⟨0, Nat.zero_le _, rfl, Below.refl _ _⟩
      case round =>
        obtain ⟨j, hj, rfl, hbw⟩ := hrel
        by_cases hjt : j < 3
        · obtain ⟨q, hq⟩ : ∃ q, L[j]? = some q := ⟨_, List.getElem?_eq_getElem (by omega)⟩
          obtain ⟨QA, qn, qc, qx⟩ := q
          have hqm := (HLS.out.below hbw) _ (List.mem_of_getElem? hq)
          obtain ⟨hqd, hqn, hqs⟩ : RDg wr QA qn qc qx ∧ qn ≤ 13 ∧ Shorts qx := hqm
          have c0 : wr.cell? ⟨kl, j, none⟩ = some (.slice QA qn qc) := ((hkl.belowK hbw).cell j).trans (by simp [slA, hq])
          have HQS := Lib.hid hqs
          clear hqs hq
          have hj0 : (0 : Int) ≤ (j : Int) := by omega
          have hj1 : (j : Int) < 3 := by omega
          have hgt := block_lt_of_cell c0
          have m1 := Lib.hid (fun (W : World) (d : RDg W QA qn qc qx) => Common_q QA qn qc qx W d hqn HQS.out)
          have m2 := Lib.hid (fun (W : World) (d : RDg W QA qn qc qx) => rCommon_q QA qn qc qx W d hqn HQS.out)
          go_wp2_with fail
          refine (m1.out _ hqd).mono ?_
          rintro e v1 ⟨hz1, ⟨hok, PA, pc, rfl, hsd1⟩ | ⟨hok, rfl⟩⟩
          · replace c0 := (hz1.cell (p := ⟨kl, j, none⟩) hgt).trans c0
            go_wp2_with fail
            refine (m2.out _ (hqd.below hz1)).mono ?_
            rintro e v2 ⟨hz2, ⟨_, RA, rc, rfl, hsd2⟩ | ⟨hno, rfl⟩⟩
            · have HSM := Lib.hid (Same_q PA qn pc RA qn rc _ v2 (hsd1.below hz2) hsd2 (by omega))
              clear hsd1 hsd2 hok hqd
              replace hbw := below_then (below_then hbw hz1) hz2
              clear hz1 hz2
              generalize natS (lcmL qx) = dq at *
              go_wp2_with fail
              refine HSM.out.mono ?_
              rintro e v3 ⟨rfl, hz3⟩
              replace hbw := below_then hbw hz3
              clear hz3
              go_wp2_with fail
              go_roundw
              case rel => exact ⟨j + 1, by omega, by go_num, hbw⟩
              case measure => simp [intOf]; omega
            · exact absurd (hok.symm.trans hno) (by decide)
          · replace c0 := (hz1.cell (p := ⟨kl, j, none⟩) hgt).trans c0
            go_wp2_with fail
            refine (m2.out _ (hqd.below hz1)).mono ?_
            rintro e v2 ⟨hz2, ⟨hno, RA, rc, rfl, hsd2⟩ | ⟨_, rfl⟩⟩
            · exact absurd (hno.symm.trans hok) (by decide)
            · have HSM := Lib.hid (Same_q none 0 0 none 0 0 [] v2 ⟨rfl, Nat.le_refl _, fun h => absurd h (by omega)⟩ ⟨rfl, Nat.le_refl _, fun h => absurd h (by omega)⟩ (by omega))
              clear hok hqd
              replace hbw := below_then (below_then hbw hz1) hz2
              clear hz1 hz2
              go_wp2_with fail
              refine HSM.out.mono ?_
              rintro e v3 ⟨rfl, hz3⟩
              replace hbw := below_then hbw hz3
              clear hz3
              go_wp2_with fail
              go_roundw
              case rel => exact ⟨j + 1, by omega, by go_num, hbw⟩
              case measure => simp [intOf]; omega
        · obtain rfl : j = 3 := by omega
          replace hgd := hgd.below hbw
          replace hB := below_then hB hbw
          clear hbw hkl HLS hll
          have hk13 : k ≤ 13 := by omega
          have m1 := Lib.hid (fun (W : World) (d : RDg W GA k gc gs) => Common_q GA k gc gs W d hk13 HGS.out)
          go_wp2_with fail
          refine (m1.out _ hgd).mono ?_
          rintro e v1 ⟨hz1, ⟨_, PA, pc, rfl, hsd⟩ | ⟨hno, _⟩⟩
          · replace hgd := hgd.below hz1
            replace hB := below_then hB hz1
            clear hz1 m1
            have m0 : Hid (Ret 20 #[.int .i64 0] (ratW false ⟨#[]⟩ ⟨#[1]⟩)) := Lib.hid (Of_q 0 (by omega) (by omega))
            obtain ⟨DN, HDN⟩ : ∃ DN, Hid (natS (lcmL gs) = DN) := ⟨_, Lib.hid rfl⟩
            rw [HDN.out]
            go_wp2_with fail
            refine (m0.out _).mono ?_
            rintro e v2 ⟨rfl, hz1⟩
            replace hgd := hgd.below hz1
            replace hsd := hsd.below hz1
            replace hB := below_then hB hz1
            clear hz1
            go_upto_region 24 with fail
            have hks := Blk.new v2 27 #[.bool false, .string ⟨#[]⟩, .string ⟨#[1]⟩]
            obtain ⟨v3, hv3⟩ : ∃ v3, v2.alloc (.cells #[.bool false, .string ⟨#[]⟩, .string ⟨#[1]⟩] 27) = v3 := ⟨_, rfl⟩
            have hb3 : Below v2.heap.size v2 v3 := hv3 ▸ below_al (Below.refl _ _) _
            rw [hv3] at hks ⊢
            clear hv3
            go_wp2_with fail
            go_loopw [22, 23, 24] (fun s22 _ _ wz => ∃ j : Nat, j ≤ k ∧ s22 = .int .i64 (j : Int) ∧ (∃ (g : Bool) (a b : ByteArray), Hid (ratV (sumQ (gs.take j)) = ratW g a b) ∧ R3 wz v2.heap.size g a b) ∧ Below v2.heap.size v2 wz) (fun s22 _ _ _ => k - (intOf s22).toNat)
            case atStart => exact ⟨0, Nat.zero_le _, rfl, ⟨_, _, _, Lib.hid (zero_words gs), hks⟩, hb3⟩
            case round =>
              clear hks hb3
              obtain ⟨j, hj, rfl, ⟨g, a, b, HE, hks⟩, hbw⟩ := hrel
              by_cases hjt : j < k
              · obtain ⟨bk, o, rg', ra', rd', hGA, hxj, c0, c1, c2⟩ := (hgd.below hbw).get hjt
                obtain ⟨bk2, o2, nv, hPA, hnj, c3⟩ := (hsd.below hbw).get hjt
                have p := make_part HGS.out (by have := HGN.out; omega) HGO.out hxj
                have hnv : nv = natS (lcmL gs / sval rd' * sval ra') := by
                  unfold numsL at hnj
                  rw [List.getElem?_map, hxj] at hnj
                  exact (Option.some.inj hnj).symm
                rw [← hnv, HDN.out] at p
                obtain ⟨g', a', b', e', p2⟩ := sum_step Add_q HGS.out HGN.out (by omega) hjt HE.out hxj
                have m1 : Hid (Ret 17 #[.bool false, .string nv, .string DN] (.tuple #[ratW rg' ra' rd', .bool true])) := Lib.hid p
                have m2 : Hid (Ret 27 #[ratW g a b, ratW rg' ra' rd'] (ratW g' a' b')) := Lib.hid p2
                have HE' := Lib.hid e'
                clear p p2 e' hnv hnj hxj
                subst hGA hPA
                have hj0 : (0 : Int) ≤ (j : Int) := by omega
                have hj1 : (j : Int) < (k : Int) := by omega
                have hgt0 := block_lt_of_cell c0
                go_wp2_with fail
                refine (m1.out _).mono ?_
                rintro e v4 ⟨rfl, hz1⟩
                replace c0 := (hz1.cell (p := ⟨bk, o + j * 3, none⟩) hgt0).trans c0
                replace c1 := (hz1.cell (p := ⟨bk, o + j * 3 + 1, none⟩) hgt0).trans c1
                replace c2 := (hz1.cell (p := ⟨bk, o + j * 3 + 2, none⟩) hgt0).trans c2
                replace hgt0 := block_lt_of_cell c0
                have hba := below_al (Below.refl _ v4) (.cells #[.bool rg', .string ra', .string rd'] 27)
                replace c0 := (hba.cell (p := ⟨bk, o + j * 3, none⟩) hgt0).trans c0
                replace c1 := (hba.cell (p := ⟨bk, o + j * 3 + 1, none⟩) hgt0).trans c1
                replace c2 := (hba.cell (p := ⟨bk, o + j * 3 + 2, none⟩) hgt0).trans c2
                have hkx := Blk.new v4 27 #[.bool rg', .string ra', .string rd']
                have hkn := hks.lt
                have hkz := hz1.size
                replace hks := (hks.belowK hz1).alloc (.cells #[.bool rg', .string ra', .string rd'] 27)
                replace hbw := below_al (below_then hbw hz1) (.cells #[.bool rg', .string ra', .string rd'] 27)
                clear hz1 c3 hba
                go_upto_region 28 with fail
                generalize v4.alloc (.cells #[.bool rg', .string ra', .string rd'] 27) = v5 at hkx hks hbw c0 c1 c2 ⊢
                have hne : v4.heap.size ≠ v2.heap.size := by omega
                generalize v4.heap.size = kx at hkx hne hkz ⊢
                obtain ⟨d0, d1, d2⟩ := cells3 hkx (Below.refl _ _)
                obtain ⟨s0, s1, s2⟩ := cells3 hks (Below.refl _ _)
                obtain ⟨f0, f1, f2⟩ := free3 hks (Below.refl _ _)
                go_region
                clear c0 c1 c2 d0 d1 d2 s0 s1 s2 f0 f1 f2
                replace hkx : R3 v5.drew kx rg' ra' rd' := hkx
                replace hks : R3 v5.drew v2.heap.size g a b := hks
                replace hbw : Below v2.heap.size v2 v5.drew := hbw.drew
                generalize v5.drew = v6 at hkx hks hbw ⊢
                obtain ⟨d0, d1, d2⟩ := cells3 hkx (Below.refl _ _)
                obtain ⟨s0, s1, s2⟩ := cells3 hks (Below.refl _ _)
                go_wp2_with fail
                refine (m2.out _).mono ?_
                rintro e v7 ⟨rfl, hz1⟩
                replace hks := hks.belowK hz1
                replace hbw := below_then hbw hz1
                clear hz1 d0 d1 d2 s0 s1 s2
                obtain ⟨s0, s1, s2⟩ := cells3 hks (Below.refl _ _)
                obtain ⟨f0, f1, f2⟩ := free3 hks (Below.refl _ _)
                go_wp2_with fail
                go_roundw
                case rel => exact ⟨j + 1, by omega, by go_num, ⟨_, _, _, HE', hks.put3 _ _ _⟩, below_put3 hbw (Nat.le_refl _) _ _ _⟩
                case measure => simp [intOf]; omega
              · obtain rfl : j = k := by omega
                have HT : Hid (gs.take j = gs) := Lib.hid (List.take_of_length_le (by rw [HGN.out]; exact Nat.le_refl _))
                rw [HT.out] at HE
                have p := fun (W : World) (d : RDg W GA j gc gs) => Sum_q GA j gc gs W d (by omega) HGS.out
                rw [HE.out] at p
                have m1 := Lib.hid p
                clear p
                replace hgd := hgd.below hbw
                replace hB := below_then hB hbw
                go_upto_region 31 with fail
                have m2 : Hid (∀ W : World, Below wr.heap.size wr W → Calls Tryz.prog 28 #[.slice GA j gc] W fun e w' => e = .returned (ratW g a b) ∧ Below W.heap.size W w') := Lib.hid (fun W hl => m1.out W (hgd.below hl))
                go_region_held3 (fun W : World => W.cell? ⟨v2.heap.size, 0, none⟩ = some (.bool g) ∧ W.cell? ⟨v2.heap.size, 1, none⟩ = some (.string a) ∧ W.cell? ⟨v2.heap.size, 2, none⟩ = some (.string b))
                  ((refine cells3 hks ?_ <;> (repeat (first | exact Below.refl _ _ | apply Below.drew | refine below_al ?_ _ | refine below_then ?_ (by assumption)))))
                  (first
                    | (go_at_call 28; (with_reducible refine (m2.out _ (by (repeat (first | exact Below.refl _ _ | apply Below.drew)))).mono ?_); rintro e v9 ⟨rfl, hz9⟩))
                all_goals go_wp2_with fail
                all_goals go_ret
                all_goals
                  refine ⟨by first | rfl | simp, below_then hB ?_⟩
                  (repeat (first | exact Below.refl _ _ | apply Below.drew | refine below_al ?_ _ | refine below_then ?_ (by assumption)))
          · exact absurd (HGO.out.symm.trans hno) (by decide)

end Go.Proofs.YtikdkhmeaoafmaaGreatDoor
