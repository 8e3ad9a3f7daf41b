/- Lists of ratios of the reference: Common, List. -/
import Derived.Test.YtikdkhmeaoafmaaGreatDoorRatN
import Derived.Test.YtikdkhmeaoafmaaGreatDoorRatV
import Derived.Test.YtikdkhmeaoafmaaGreatDoorOwn
namespace Go.Proofs.YtikdkhmeaoafmaaGreatDoor
open Go.RowKit

/-- The cells of a ratio. -/
def encR (r : Rw) : List Value := [.bool r.1, .string r.2.1, .string r.2.2]
theorem encR_len (r : Rw) : (encR r).length = 3 := rfl
theorem encR_one (r : Rw) : ∀ u ∈ encR r, u.oneCell' = true := fun u hu => by
  simp only [encR, List.mem_cons, List.not_mem_nil, or_false] at hu
  rcases hu with rfl | rfl | rfl <;> rfl
/-- The cell of a natural number. -/
def encN (s : ByteArray) : List Value := [.string s]
theorem encN_len (s : ByteArray) : (encN s).length = 1 := rfl
theorem encN_one (s : ByteArray) : ∀ u ∈ encN s, u.oneCell' = true := fun u hu => by
  simp only [encN, List.mem_cons, List.not_mem_nil, or_false] at hu
  subst hu; rfl
theorem rat_info : (Tryz.prog.info? 27).map (fun i => (i.zero, i.size, i.bytes)) = some (some (.agg #[.bool false, .string ⟨#[]⟩, .string ⟨#[]⟩]), 3, 40) := by kernel_rfl
abbrev OwnR (B : Nat) (w : World) (v : Value) (l : List Rw) : Prop := OwnL encR 27 3 B w v l
abbrev OwnN (B : Nat) (w : World) (v : Value) (l : List ByteArray) : Prop := OwnL encN 25 1 B w v l
theorem OwnR.rdg {B : Nat} {w : World} {v : Value} {l : List Rw} (h : OwnR B w v l) : ∃ A c, v = .slice A l.length c ∧ RDg w A l.length c l := by
  rcases OwnL.at_ h encR_len with ⟨rfl, rfl⟩ | ⟨g, cc, rfl, hc, -, -, hd⟩
  · exact ⟨none, 0, rfl, rfl, Nat.le_refl _, fun h => absurd h (by simp)⟩
  · exact ⟨_, _, rfl, rfl, hc, fun _ => ⟨g, 0, rfl, fun j x hx => by
      rw [Nat.zero_add]
      exact ⟨(hd j 0 x _ hx rfl).1, (hd j 1 x _ hx rfl).1, (hd j 2 x _ hx rfl).1⟩⟩⟩
theorem OwnN.sdg {B : Nat} {w : World} {v : Value} {l : List ByteArray} (h : OwnN B w v l) : ∃ A c, v = .slice A l.length c ∧ SDg w A l.length c l := by
  rcases OwnL.at_ h encN_len with ⟨rfl, rfl⟩ | ⟨g, cc, rfl, hc, -, -, hd⟩
  · exact ⟨none, 0, rfl, rfl, Nat.le_refl _, fun h => absurd h (by simp)⟩
  · exact ⟨_, _, rfl, rfl, hc, fun _ => ⟨g, 0, rfl, fun j x hx => by
      have := (hd j 0 x _ hx rfl).1
      rw [Nat.mul_one, Nat.add_zero] at this
      rw [Nat.zero_add]
      exact this⟩⟩
theorem below_own {α : Type} {enc : α → List Value} {e : TypeId} {s : Nat} {w0 wo w' : World} {v : Value} {l : List α} (hb : Below w0.heap.size w0 wo) (h : OwnL enc e s w0.heap.size wo v l) (hg : wo.grownBy w' v.ownBlock) : Below w0.heap.size w0 w' :=
  hb.grown hg hb.size (own_base h)

/-- The first numerators. -/
theorem nums_snoc {D : Nat} {xs : List Rw} {k : Nat} {x : Rw} (h : xs[k]? = some x) : numsL D (xs.take (k + 1)) = numsL D (xs.take k) ++ [natS (sval x.2.1 * (D / sval x.2.2))] := by
  unfold numsL
  rw [List.take_add_one, h, List.map_append, Nat.mul_comm]
  rfl

set_option maxRecDepth 100000 in
set_option maxHeartbeats 4000000 in
theorem rCommon_q (A : Option Addr) (n c : Nat) (xs : List Rw) (w : World) (h : RDg w A n c xs) (hn : n ≤ 13) (hs : Shorts xs) :
    Calls Tryz.prog 25 #[.slice A n c] w fun e w' => CommonPost w n xs e w' := by
  have HS := Lib.hid hs
  clear hs
  have m0 := Lib.hid ret_rone
  go_enter Tryz.func25, Tryz.ntmps25
  go_wp2_with fail
  refine (m0.out _).mono ?_
  rintro e w0 ⟨rfl, hb0⟩
  go_wp2_with fail
  go_loopw [5, 6, 7, 8, 9, 10, 11] (fun s5 s6 _ _ _ _ _ wr => ∃ k : Nat, k ≤ n ∧ s6 = .int .i64 (k : Int) ∧ Hid ((xs.take k).all okR = true) ∧ s5 = .string (natS ((xs.take k).foldl lcmS 1)) ∧ Below w.heap.size w wr) (fun _ s6 _ _ _ _ _ _ => n - (intOf s6).toNat)
  case atStart => exact ⟨0, Nat.zero_le _, rfl, Lib.hid rfl, rfl, hb0⟩
  case round =>
    obtain ⟨k, hk, rfl, HA, rfl, hbw⟩ := hrel
    by_cases hlt : k < n
    · obtain ⟨b, o, g, a, d, rfl, hxk, c0, c1, c2⟩ := (h.below hbw).get hlt
      have hsk := HS.out _ (List.mem_of_getElem? hxk)
      have m1 := Lib.hid (rRight_q g a d (Nat.le_trans hsk.1 (by omega)) (Nat.le_trans hsk.2 (by omega)))
      have HXK := Lib.hid hxk
      have HSK := Lib.hid hsk
      clear hxk hsk
      have hj0 : (0 : Int) ≤ (k : Int) := by omega
      have hj1 : (k : Int) < (n : Int) := by omega
      have hgt := block_lt_of_cell c0
      go_wp2_with fail
      refine (m1.out _).mono ?_
      rintro e w1 ⟨rfl, hb1⟩
      replace c0 := (hb1.cell (p := ⟨b, o + k * 3, none⟩) hgt).trans c0
      replace c1 := (hb1.cell (p := ⟨b, o + k * 3 + 1, none⟩) hgt).trans c1
      replace c2 := (hb1.cell (p := ⟨b, o + k * 3 + 2, none⟩) hgt).trans c2
      replace hgt := block_lt_of_cell c0
      replace hbw := below_then hbw hb1
      clear hb1
      cases hr : rRightB g a d
      · have HO := Lib.hid (not_ok HXK.out (by unfold okR; rw [hr]; rfl))
        go_wp2_with fail
        go_ret3
        exact ⟨hbw, .inr ⟨HO.out, rfl⟩⟩
      · cases g
        · have HO := Lib.hid (ok_snoc HA.out HXK.out (by unfold okR; rw [hr]; rfl))
          have hd0 : 0 < sval d := ok_den (x := (false, a, d)) (by unfold okR; rw [hr]; rfl)
          have HN : Hid (natS ((xs.take (k + 1)).foldl lcmS 1) = natS (lcmS ((xs.take k).foldl lcmS 1) (false, a, d))) := Lib.hid (by
            rw [List.take_add_one, HXK.out, List.foldl_append]; rfl)
          have hDk : Dens (xs.take k) := ok_dens (fun x hx => HS.out x (List.mem_of_mem_take hx)) HA.out
          have hlk := fold_lcm hDk k
          rw [List.take_take, Nat.min_self] at hlk
          generalize (xs.take k).foldl lcmS 1 = D at *
          have hDs : (natS D).size ≤ 400 := Nat.le_trans (natS_size hlk.2) (by omega)
          have hdl := sval_le hDs
          rw [sval_natS] at hdl
          have hds : d.size ≤ 20 := HSK.out.2
          have hgp : Nat.gcd D (sval d) ≠ 0 := Nat.ne_of_gt (Nat.gcd_pos_of_pos_left _ hlk.1)
          have hgs : (natS (Nat.gcd D (sval d))).size ≤ 1000 := Nat.le_trans (natS_size (gcd_lt hdl (sval_le (Nat.le_trans hds (by omega))))) (by omega)
          have p1 := ret_rgcd (a := natS D) (b := d) (by omega) (by omega)
          rw [sval_natS] at p1
          have p2 := ret_rquo (a := d) (b := natS (Nat.gcd D (sval d))) (by omega) hgs rfl (sval_natS _) hgp
          have p3 := ret_rmul (a := natS D) (b := natS (sval d / Nat.gcd D (sval d))) (by omega) (Nat.le_trans (natS_size (Nat.lt_of_le_of_lt (Nat.div_le_self _ _) (sval_le (Nat.le_trans hds (by omega : 20 ≤ 400))))) (by omega))
          rw [sval_natS, sval_natS] at p3
          have m2 := Lib.hid p1
          have m3 := Lib.hid p2
          have m4 : Hid (Ret 45 #[.string (natS D), .string (natS (sval d / Nat.gcd D (sval d)))] (.string (natS (lcmS D (false, a, d))))) := Lib.hid p3
          clear p1 p2 p3 hgp hgs hdl hDs hlk hDk hd0 hds
          generalize natS (lcmS D (false, a, d)) = res at *
          generalize natS (sval d / Nat.gcd D (sval d)) = qv at *
          generalize natS (sval d % Nat.gcd D (sval d)) = rv at *
          generalize natS (Nat.gcd D (sval d)) = tv at *
          generalize natS D = dd at *
          go_wp2_with fail
          refine (m2.out _).mono ?_
          rintro e w2 ⟨rfl, hb1⟩
          replace c2 := (hb1.cell (p := ⟨b, o + k * 3 + 2, none⟩) hgt).trans c2
          clear c0 c1
          replace hbw := below_then hbw hb1
          clear hb1
          go_wp2_with fail
          refine (m3.out _).mono ?_
          rintro e w3 ⟨rfl, hb1⟩
          replace hbw := below_then hbw hb1
          clear hb1 c2
          go_wp2_with fail
          refine (m4.out _).mono ?_
          rintro e w4 ⟨rfl, hb1⟩
          replace hbw := below_then hbw hb1
          clear hb1
          go_wp2_with fail
          go_roundw
          case rel => exact ⟨k + 1, by omega, by go_num, HO, by rw [HN.out], hbw⟩
          case measure => simp [intOf]; omega
        · have HO := Lib.hid (not_ok HXK.out (by unfold okR; rw [hr]; rfl))
          go_wp2_with fail
          go_ret3
          exact ⟨hbw, .inr ⟨HO.out, rfl⟩⟩
    · obtain rfl : k = n := by omega
      have HTK : Hid (xs.take k = xs) := Lib.hid (List.take_of_length_le (by rw [h.len]; exact Nat.le_refl _))
      have HOK : Hid (okL xs = true) := Lib.hid (by have := HA.out; rw [HTK.out] at this; exact this)
      have HD := Lib.hid (ok_dens HS.out HOK.out)
      have HL := Lib.hid (fold_lcm HD.out k)
      rw [HTK.out] at HL
      rw [HTK.out]
      obtain ⟨D, hD⟩ : ∃ D, xs.foldl lcmS 1 = D := ⟨_, rfl⟩
      have HDL : Hid (lcmL xs = D) := Lib.hid hD
      rw [hD] at HL
      rw [hD]
      have HDS : Hid ((natS D).size ≤ 400) := Lib.hid (Nat.le_trans (natS_size HL.out.2) (by omega))
      clear HA hD
      obtain ⟨ND, HND⟩ : ∃ ND, Hid (natS D = ND) := ⟨_, Lib.hid rfl⟩
      rw [HND.out]
      go_wp2_with fail
      go_loopw [12, 13, 14, 15, 16] (fun s12 s13 _ _ _ wr => ∃ j : Nat, j ≤ k ∧ s13 = .int .i64 (j : Int) ∧ OwnN w.heap.size wr s12 (numsL D (xs.take j)) ∧ Below w.heap.size w wr) (fun _ s13 _ _ _ _ => k - (intOf s13).toNat)
      case atStart => exact ⟨0, Nat.zero_le _, rfl, OwnL.nil_ _ _ _ _ _, hbw⟩
      case round =>
        clear hbw
        obtain ⟨j, hj, rfl, hown, hbw⟩ := hrel
        by_cases hjt : j < k
        · obtain ⟨b, o, g, a, d, rfl, hxj, c0, c1, c2⟩ := (h.below hbw).get hjt
          have hsj := HS.out _ (List.mem_of_getElem? hxj)
          have hdj := HD.out _ (List.mem_of_getElem? hxj)
          have HSN := Lib.hid (nums_snoc (D := D) hxj)
          have e1 : d.size ≤ 20 := hsj.2
          have e2 : a.size ≤ 20 := hsj.1
          have e3 : sval d ≠ 0 := Nat.ne_of_gt hdj.2
          have e4 := sval_le HDS.out
          rw [sval_natS] at e4
          have p1 := ret_rquo (a := natS D) (b := d) (Nat.le_trans HDS.out (by omega)) (by omega) (sval_natS _) rfl e3
          have p2 := ret_rmul (a := a) (b := natS (D / sval d)) (by omega) (Nat.le_trans (natS_size (Nat.lt_of_le_of_lt (Nat.div_le_self _ _) e4)) (by omega))
          rw [sval_natS] at p2
          rw [HND.out] at p1
          have m2 := Lib.hid p1
          have m3 : Hid (Ret 45 #[.string a, .string (natS (D / sval d))] (.string (natS (sval a * (D / sval d))))) := Lib.hid p2
          have hgl : (numsL D (xs.take j)).length ≤ 1000000 := by unfold numsL; rw [List.length_map, List.length_take]; omega
          clear p1 p2 hxj hsj hdj e1 e2 e3 e4
          have hj0 : (0 : Int) ≤ (j : Int) := by omega
          have hj1 : (j : Int) < (k : Int) := by omega
          have hgt := block_lt_of_cell c0
          replace HSN : Hid (numsL D (xs.take (j + 1)) = numsL D (xs.take j) ++ [natS (sval a * (D / sval d))]) := HSN
          generalize natS (sval a * (D / sval d)) = nv at *
          generalize natS (D / sval d) = qv at *
          generalize natS (D % sval d) = rv at *
          generalize numsL D (xs.take j) = L at *
          go_wp2_with fail
          refine (m2.out _).mono ?_
          rintro e x1 ⟨rfl, hb1⟩
          replace c1 := (hb1.cell (p := ⟨b, o + j * 3 + 1, none⟩) hgt).trans c1
          replace hown := hown.below hb1
          replace hbw := below_then hbw hb1
          clear hb1 c0 c2
          go_wp2_with fail
          refine (m3.out _).mono ?_
          rintro e x2 ⟨rfl, hb1⟩
          replace hown := hown.below hb1
          replace hbw := below_then hbw hb1
          clear hb1 c1
          go_wp2_with (at_builtin; refine wp_append_row (enc := encN) Tryz.underlying46 nat_info rfl (by decide) (by decide) rfl _ _ rfl nv rfl rfl (encN_one _) rfl hown rfl hgl hbw.size ?_; intro v1 w5 hown5 hg5)
          have hbw5 := below_own hbw hown hg5
          clear hg5
          go_wp2_with fail
          go_roundw
          case rel => exact ⟨j + 1, by omega, by go_num, by rw [HSN.out]; exact hown5, hbw5⟩
          case measure => simp [intOf]; omega
        · obtain rfl : j = k := by omega
          rw [HTK.out] at hown
          obtain ⟨A', c', e', hsd⟩ := OwnN.sdg hown
          have hnl : (numsL D xs).length = j := by unfold numsL; rw [List.length_map]; exact h.len
          rw [hnl] at e' hsd
          subst e'
          go_wp2_with fail
          go_ret3
          refine ⟨hbw, .inl ⟨HOK.out, _, _, by rw [HDL.out, HND.out]; rfl, ?_⟩⟩
          rw [HDL.out]
          exact hsd

/-- A slice of triples of ints that reads as a list. -/
structure TDg (w : World) (A : Option Addr) (n c : Nat) (xs : List (Int × Int × Int)) : Prop where
  len : xs.length = n
  cap : n ≤ c
  at_ : 0 < n → ∃ b o, A = some ⟨b, o, none⟩ ∧ ∀ (j : Nat) (x : Int × Int × Int), xs[j]? = some x → w.cell? ⟨b, o + j * 3, none⟩ = some (.int .i64 x.1) ∧ w.cell? ⟨b, o + j * 3 + 1, none⟩ = some (.int .i64 x.2.1) ∧ w.cell? ⟨b, o + j * 3 + 2, none⟩ = some (.int .i64 x.2.2)
theorem TDg.get {w : World} {A : Option Addr} {n c k : Nat} {xs : List (Int × Int × Int)} (h : TDg w A n c xs) (hk : k < n) :
    ∃ (b o : Nat) (x y z : Int), A = some ⟨b, o, none⟩ ∧ w.cell? ⟨b, o + k * 3, none⟩ = some (.int .i64 x) ∧ w.cell? ⟨b, o + k * 3 + 1, none⟩ = some (.int .i64 y) ∧ w.cell? ⟨b, o + k * 3 + 2, none⟩ = some (.int .i64 z) := by
  obtain ⟨b, o, e, hc⟩ := h.at_ (by omega)
  have hl : k < xs.length := by have := h.len; omega
  obtain ⟨h1, h2, h3⟩ := hc k _ (List.getElem?_eq_getElem hl)
  exact ⟨b, o, _, _, _, e, h1, h2, h3⟩
theorem TDg.below {w w' : World} {A : Option Addr} {n c : Nat} {xs : List (Int × Int × Int)} (h : TDg w A n c xs) (hb : Below w.heap.size w w') : TDg w' A n c xs := by
  refine ⟨h.len, h.cap, fun hn => ?_⟩
  obtain ⟨b, o, e, hc⟩ := h.at_ hn
  refine ⟨b, o, e, fun j x hx => ?_⟩
  obtain ⟨h1, h2, h3⟩ := hc j x hx
  exact ⟨(hb.cell (p := ⟨b, o + j * 3, none⟩) (block_lt_of_cell h1)).trans h1, (hb.cell (p := ⟨b, o + j * 3 + 1, none⟩) (block_lt_of_cell h2)).trans h2, (hb.cell (p := ⟨b, o + j * 3 + 2, none⟩) (block_lt_of_cell h3)).trans h3⟩

/-- A ratio in words. -/
def Wrd (r : Rw) : Prop := ∃ x : Rat, Sm 20 x ∧ ratV x = ratW r.1 r.2.1 r.2.2
/-- What List returns. -/
def ListPost (w : World) (e : Ending) (w' : World) : Prop :=
  ∃ (A : Option Addr) (c : Nat) (xs : List Rw), e = .returned (.slice A xs.length c) ∧ xs.length ≤ 12 ∧ (∀ r ∈ xs, Wrd r) ∧ RDg w' A xs.length c xs ∧ Below w.heap.size w w'

set_option maxRecDepth 100000 in
set_option maxHeartbeats 2000000 in
theorem List_q (A : Option Addr) (n c : Nat) (ts : List (Int × Int × Int)) (w : World) (h : TDg w A n c ts) (hn : n ≤ 9223372036854775807) :
    Calls Tryz.prog 23 #[.slice A n c] w fun e w' => ListPost w e w' := by
  go_enter Tryz.func23, Tryz.ntmps23
  go_wp2_with fail
  go_loopw [3, 4] (fun s3 s4 wr => ∃ (k : Nat) (xs : List Rw), k ≤ n ∧ k ≤ 12 ∧ s4 = .int .i64 (k : Int) ∧ xs.length = k ∧ Hid (∀ r ∈ xs, Wrd r) ∧ OwnR w.heap.size wr s3 xs ∧ Below w.heap.size w wr) (fun _ s4 _ => n - (intOf s4).toNat)
  case atStart => exact ⟨0, [], Nat.zero_le _, by omega, rfl, rfl, Lib.hid (fun _ hm => by cases hm), OwnL.nil_ _ _ _ _ _, Below.refl _ _⟩
  case round =>
    obtain ⟨k, xs, hk, hk2, rfl, hl, HW, hown, hbw⟩ := hrel
    by_cases hlt : k < n
    · have hd1 : decide (k < n) = true := decide_eq_true hlt
      by_cases h12 : k < 12
      · obtain ⟨b, o, x, y, z, rfl, c0, c1, c2⟩ := (h.below hbw).get hlt
        obtain ⟨q, g, a, d, hq, e, hm⟩ := Made_q x y z
        have m1 := Lib.hid hm
        have HW2 : Hid (∀ r ∈ xs ++ [(g, a, d)], Wrd r) := Lib.hid (fun r hr => by
          rcases List.mem_append.1 hr with hr | hr
          · exact HW.out r hr
          · obtain rfl := List.mem_singleton.1 hr
            exact ⟨q, hq, e⟩)
        clear hm e hq
        have hj0 : (0 : Int) ≤ (k : Int) := by omega
        have hj1 : (k : Int) < (n : Int) := by omega
        have hgl : xs.length ≤ 1000000 := by omega
        go_wp2_with fail
        refine (m1.out _).mono ?_
        rintro e w1 ⟨rfl, hb1⟩
        replace hown := hown.below hb1
        replace hbw := below_then hbw hb1
        clear hb1 c0 c1 c2
        go_wp2_with (at_builtin; refine wp_append_row (enc := encR) Tryz.underlying43 rat_info rfl (by decide) (by decide) rfl _ _ rfl (g, a, d) rfl rfl (encR_one _) rfl hown rfl hgl hbw.size ?_; intro v1 w5 hown5 hg5)
        have hbw5 := below_own hbw hown hg5
        clear hg5
        go_wp2_with fail
        go_roundw
        case rel => exact ⟨k + 1, _, by omega, by omega, by go_num, by rw [List.length_append, hl]; rfl, HW2, hown5, hbw5⟩
        case measure => simp [intOf]; omega
      · obtain ⟨A', c', rfl, hd⟩ := OwnR.rdg hown
        go_wp2_with fail
        go_ret
        exact ⟨A', c', xs, rfl, by omega, HW.out, hd, hbw⟩
    · obtain rfl : k = n := by omega
      obtain ⟨A', c', rfl, hd⟩ := OwnR.rdg hown
      go_wp2_with fail
      go_ret
      exact ⟨A', c', xs, rfl, by omega, HW.out, hd, hbw⟩

end Go.Proofs.YtikdkhmeaoafmaaGreatDoor
