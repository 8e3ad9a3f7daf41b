/- ratio.Common. -/
import Derived.Test.YtikdkhmeaoafmaaGreatDoorRatL
namespace Go.Proofs.YtikdkhmeaoafmaaGreatDoor
open Go.RowKit

/-- The least common denominator. -/
def lcmL (xs : List Rw) : Nat := xs.foldl lcmS 1
/-- The numerators for a common denominator. -/
def numsL (D : Nat) (xs : List Rw) : List ByteArray := xs.map fun x => natS (D / sval x.2.2 * sval x.2.1)
/-- Whether an element is right and not negative. -/
def okR (x : Rw) : Bool := rRightB x.1 x.2.1 x.2.2 && !x.1
/-- Whether all elements are. -/
def okL (xs : List Rw) : Bool := xs.all okR
/-- Elements of at most 20 bytes. -/
def Shorts (xs : List Rw) : Prop := ∀ x ∈ xs, x.2.1.size ≤ 20 ∧ x.2.2.size ≤ 20
/-- What Common returns. -/
def CommonPost (w : World) (n : Nat) (xs : List Rw) (e : Ending) (w' : World) : Prop :=
  Below w.heap.size w w' ∧ ((okL xs = true ∧ ∃ (A : Option Addr) (c : Nat), e = .returned (.tuple #[.string (natS (lcmL xs)), .slice A n c, .bool true]) ∧ SDg w' A n c (numsL (lcmL xs) xs)) ∨ (okL xs = false ∧ e = .returned (.tuple #[.string ⟨#[]⟩, .slice none 0 0, .bool false])))

theorem ok_den {x : Rw} (h : okR x = true) : 0 < sval x.2.2 := by
  unfold okR rRightB at h
  simp only [Bool.and_eq_true, decide_eq_true_eq] at h
  rcases Nat.eq_zero_or_pos (sval x.2.2) with e | e
  · exact absurd ((size_pos_sval h.1.1.1.1.2).2 e) h.1.1.1.2
  · exact e
theorem ok_dens {xs : List Rw} (hs : Shorts xs) (h : okL xs = true) : Dens xs := fun x hx => ⟨(hs x hx).2, ok_den (List.all_eq_true.1 h x hx)⟩
theorem ok_snoc {xs : List Rw} {k : Nat} {x : Rw} (h : (xs.take k).all okR = true) (hx : xs[k]? = some x) (hk : okR x = true) : (xs.take (k + 1)).all okR = true := by
  rw [List.take_add_one, hx, List.all_append, h]; simp [hk]
theorem not_ok {xs : List Rw} {k : Nat} {x : Rw} (hx : xs[k]? = some x) (hk : okR x = false) : okL xs = false := by
  unfold okL
  rw [List.all_eq_false]
  exact ⟨x, List.mem_of_getElem? hx, by rw [hk]; simp⟩

/-- Cells that hold strings. -/
def strA (l : List ByteArray) : Array Value := (l.map Value.string).toArray
theorem strA_get {l : List ByteArray} {i : Nat} {d : ByteArray} (h : l[i]? = some d) : (strA l)[i]? = some (.string d) := by simp [strA, h]
theorem strA_set (l : List ByteArray) (i : Nat) (d : ByteArray) : (strA l).setIfInBounds i (.string d) = strA (l.set i d) := by simp [strA, List.map_set]
theorem strA_made (n : Nat) : madeCells #[.string ⟨#[]⟩] n = strA (List.replicate n ⟨#[]⟩) := by
  apply Array.toList_inj.1
  rw [toList_madeCells_one]
  simp [strA]
theorem Blk.strg {w : World} {g : Nat} {t : TypeId} {l : List ByteArray} (h : Blk w g t (strA l)) {i : Nat} {d : ByteArray} (hd : l[i]? = some d) : w.cell? ⟨g, i, none⟩ = some (.string d) := (h.cell i).trans (strA_get hd)
theorem Blk.putS {w : World} {g : Nat} {t : TypeId} {l : List ByteArray} (h : Blk w g t (strA l)) (i : Nat) (d : ByteArray) : Blk (w.setCell ⟨g, i, none⟩ (.string d)) g t (strA (l.set i d)) := by
  have := h.set_ i (.string d)
  rwa [strA_set] at this
theorem Blk.sdg {w : World} {g : Nat} {t : TypeId} {l : List ByteArray} (h : Blk w g t (strA l)) {n c : Nat} (hn : l.length = n) (hc : n ≤ c) : SDg w (some ⟨g, 0, none⟩) n c l :=
  ⟨hn, hc, fun _ => ⟨g, 0, rfl, fun j d hd => by rw [Nat.zero_add]; exact h.strg hd⟩⟩
theorem nat_info : (Tryz.prog.info? 25).map (fun i => (i.zero, i.size, i.bytes)) = some (some (.string ⟨#[]⟩), 1, 16) := by kernel_rfl
theorem make_nat (n : Nat) (hn : n ≤ 10000000) (w : World) :
    (Instr.makeSlice 46 (.int .i64 (n : Int)) (.int .i64 (n : Int))).run Tryz.prog w = .ok (.slice (some ⟨w.heap.size, 0, none⟩) n n) (w.alloc (.cells (strA (List.replicate n ⟨#[]⟩)) 25)) := by
  rw [← strA_made]
  exact run_make_row' 46 25 (.string ⟨#[]⟩) 16 Tryz.underlying46 nat_info rfl .i64 .i64 n (by omega) (by omega) w
theorem fill_set {N : List ByteArray} {n k : Nat} {d : ByteArray} (hN : N.length = n) (hk : k < n) (hd : N[k]? = some d) : (N.take k ++ List.replicate (n - k) (⟨#[]⟩ : ByteArray)).set k d = N.take (k + 1) ++ List.replicate (n - (k + 1)) ⟨#[]⟩ := by
  have h1 : (N.take k).length = k := by rw [List.length_take]; omega
  rw [List.set_append_right _ _ (by omega), h1, Nat.sub_self, show n - k = (n - (k + 1)) + 1 by omega, List.replicate_succ, List.set_cons_zero, List.take_add_one, hd]
  simp

set_option maxRecDepth 100000 in
set_option maxHeartbeats 4000000 in
theorem Common_q (A : Option Addr) (n c : Nat) (xs : List Rw) (w : World) (h : RDg w A n c xs) (hn : n ≤ 13) (hs : Shorts xs) :
    Calls Tryz.prog 24 #[.slice A n c] w fun e w' => CommonPost w n xs e w' := by
  have HS := Lib.hid hs
  clear hs
  go_enter Tryz.func24, Tryz.ntmps24
  go_wp2_with fail
  go_loopw [6, 16] (fun _ s16 wr => ∃ k : Nat, k ≤ n ∧ s16 = .int .i64 (k : Int) ∧ Hid ((xs.take k).all okR = true) ∧ Below w.heap.size w wr) (fun _ s16 _ => n - (intOf s16).toNat)
  case atStart => exact ⟨0, Nat.zero_le _, rfl, Lib.hid rfl, Below.refl _ _⟩
  case round =>
    obtain ⟨k, hk, rfl, HA, hbw⟩ := hrel
    by_cases hlt : k < n
    · obtain ⟨b, o, g, a, d, rfl, hxk, c0, c1, c2⟩ := (h.below hbw).get hlt
      have hsk := HS.out _ (List.mem_of_getElem? hxk)
      have m1 := Lib.hid (Right_q g a d (Nat.le_trans hsk.1 (by omega)) (Nat.le_trans hsk.2 (by omega)))
      have HXK := Lib.hid hxk
      clear hxk hsk
      go_wp2_with fail
      refine (m1.out _).mono ?_
      rintro e w1 ⟨rfl, hb1⟩
      have hka := (Blk.new wr 27 #[.bool g, .string a, .string d]).belowK hb1
      replace hbw := below_then (below_al hbw _) hb1
      clear hb1
      obtain ⟨chka0, chka1, chka2⟩ := cells3 hka (Below.refl _ _)
      cases hr : rRightB g a d
      · have HO := Lib.hid (not_ok HXK.out (by unfold okR; rw [hr]; rfl))
        go_wp2_with fail
        go_ret3
        exact ⟨hbw, .inr ⟨HO.out, rfl⟩⟩
      · cases g
        · have HO := Lib.hid (ok_snoc HA.out HXK.out (by unfold okR; rw [hr]; rfl))
          go_wp2_with fail
          go_roundw
          case rel => exact ⟨k + 1, by omega, by go_num, HO, hbw⟩
          case measure => simp [intOf]; omega
        · have HO := Lib.hid (not_ok HXK.out (by unfold okR; rw [hr]; rfl))
          go_wp2_with fail
          go_ret3
          exact ⟨hbw, .inr ⟨HO.out, rfl⟩⟩
    · obtain rfl : k = n := by omega
      have HOK : Hid (okL xs = true) := Lib.hid (by
        have := HA.out
        rw [List.take_of_length_le (by rw [h.len]; exact Nat.le_refl _)] at this
        exact this)
      have HD := Lib.hid (ok_dens HS.out HOK.out)
      have HL := Lib.hid (fold_lcm HD.out k)
      obtain ⟨D, hD⟩ : ∃ D, xs.foldl lcmS 1 = D := ⟨_, rfl⟩
      have HDL : Hid (lcmL xs = D) := Lib.hid hD
      have HDS : Hid ((natS D).size ≤ 400) := Lib.hid (by
        have := HL.out.2
        rw [List.take_of_length_le (by rw [h.len]; exact Nat.le_refl _), hD] at this
        exact Nat.le_trans (natS_size this) (by omega))
      have m1 := Lib.hid (foldN_q A k c xs)
      rw [hD] at m1
      clear HA hD HL
      obtain ⟨N, hN⟩ : ∃ N, numsL D xs = N := ⟨_, rfl⟩
      have HNL : Hid (N.length = k) := Lib.hid (by rw [← hN]; unfold numsL; rw [List.length_map]; exact h.len)
      have HNG : Hid (∀ (j : Nat) (x : Rw), xs[j]? = some x → N[j]? = some (natS (D / sval x.2.2 * sval x.2.1))) := Lib.hid (fun j x hx => by rw [← hN]; unfold numsL; rw [List.getElem?_map, hx]; rfl)
      have HNN := Lib.hid hN
      clear hN
      go_wp2_with fail
      refine (m1.out _ (h.below hbw) hn HD.out).mono ?_
      rintro e w1 ⟨rfl, hb1⟩
      replace hbw := below_then hbw hb1
      clear hb1
      have hmk := make_nat k (by omega)
      go_wp2_with fail
      have hg0 : Blk (w1.alloc (.cells (strA (List.replicate k ⟨#[]⟩)) 25)) w1.heap.size 25 (strA (List.replicate k ⟨#[]⟩)) := Blk.new _ _ _
      have hgw := hbw.size
      replace hbw := below_al hbw (.cells (strA (List.replicate k ⟨#[]⟩)) 25)
      generalize w1.alloc (.cells (strA (List.replicate k ⟨#[]⟩)) 25) = w2 at hg0 hbw ⊢
      generalize w1.heap.size = gb at hg0 hgw ⊢
      go_loopw [9, 10, 11, 12, 13, 35] (fun _ _ _ _ _ s35 wr => ∃ j : Nat, j ≤ k ∧ s35 = .int .i64 (j : Int) ∧ Blk wr gb 25 (strA (N.take j ++ List.replicate (k - j) ⟨#[]⟩)) ∧ Below w.heap.size w wr) (fun _ _ _ _ _ s35 _ => k - (intOf s35).toNat)
      case atStart => exact ⟨0, Nat.zero_le _, rfl, hg0, hbw⟩
      case round =>
        clear hbw hg0
        obtain ⟨j, hj, rfl, hg, hbw⟩ := hrel
        by_cases hjt : j < k
        · obtain ⟨b, o, g, a, d, rfl, hxj, c0, c1, c2⟩ := (h.below hbw).get hjt
          have hsj := HS.out _ (List.mem_of_getElem? hxj)
          have hdj := HD.out _ (List.mem_of_getElem? hxj)
          have hnj := HNG.out j _ hxj
          have e1 : d.size ≤ 20 := hsj.2
          have e2 : a.size ≤ 20 := hsj.1
          have e3 : sval d ≠ 0 := Nat.ne_of_gt hdj.2
          have e4 := sval_le HDS.out
          rw [sval_natS] at e4
          have p1 := ret_quo (a := natS D) (b := d) (Nat.le_trans HDS.out (by omega)) (by omega) (sval_natS _) rfl e3
          have p2 := ret_mul (a := natS (D / sval d)) (b := a) (Nat.le_trans (natS_size (Nat.lt_of_le_of_lt (Nat.div_le_self _ _) e4)) (by omega)) (by omega) rfl
          rw [sval_natS] at p2
          have HFS := Lib.hid (fill_set HNL.out hjt hnj)
          have m2 := Lib.hid p1
          have m3 : Hid (Ret 68 #[.string (natS (D / sval d)), .string a] (.string (natS (D / sval d * sval a)))) := Lib.hid p2
          have hLk : (N.take j ++ List.replicate (k - j) (⟨#[]⟩ : ByteArray))[j]? = some ⟨#[]⟩ := by
            have h1 : (N.take j).length = j := by rw [List.length_take, HNL.out]; omega
            rw [List.getElem?_append_right (by omega), h1, Nat.sub_self, List.getElem?_replicate, if_pos (by omega)]
          have HLK := Lib.hid hLk
          clear p1 p2 hxj hsj hdj hnj e1 e2 e3 e4 hLk
          generalize natS (D / sval d * sval a) = nv at *
          generalize natS (D / sval d) = qv at *
          generalize natS (D % sval d) = rv at *
          generalize N.take j ++ List.replicate (k - j) (⟨#[]⟩ : ByteArray) = L at *
          generalize natS D = ND at *
          go_wp2_with fail
          refine (m2.out _).mono ?_
          rintro e x1 ⟨rfl, hb1⟩
          have hka := (Blk.new wr 27 #[.bool g, .string a, .string d]).belowK hb1
          replace hg := (hg.alloc (.cells #[.bool g, .string a, .string d] 27)).belowK hb1
          replace hbw := below_then (below_al hbw _) hb1
          clear hb1
          obtain ⟨chka0, chka1, chka2⟩ := cells3 hka (Below.refl _ _)
          go_wp2_with fail
          refine (m3.out _).mono ?_
          rintro e x2 ⟨rfl, hb2⟩
          replace hg := hg.belowK hb2
          replace hbw := below_then hbw hb2
          clear hb2
          clear chka0 chka1 chka2
          have hcj := hg.strg HLK.out
          have hfj := hg.frozen j
          go_wp2_with fail
          go_roundw
          case rel => exact ⟨j + 1, by omega, by go_num, HFS.out ▸ hg.putS j nv, below_set hbw hgw _⟩
          case measure => simp [intOf]; omega
        · obtain rfl : j = k := by omega
          have HTT : Hid (N.take j ++ List.replicate (j - j) (⟨#[]⟩ : ByteArray) = N) := Lib.hid (by rw [Nat.sub_self, List.replicate_zero, List.append_nil, List.take_of_length_le (by rw [HNL.out]; exact Nat.le_refl _)])
          rw [HTT.out] at hg
          go_wp2_with fail
          go_ret3
          refine ⟨hbw, .inl ⟨HOK.out, _, _, by rw [HDL.out]; rfl, ?_⟩⟩
          rw [HDL.out, HNN.out]
          exact hg.sdg HNL.out (Nat.le_refl _)

end Go.Proofs.YtikdkhmeaoafmaaGreatDoor
