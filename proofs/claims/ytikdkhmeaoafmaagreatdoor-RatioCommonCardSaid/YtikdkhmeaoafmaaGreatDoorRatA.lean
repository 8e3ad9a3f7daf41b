/- The functions of ratio without a draw: zero, reduce, right, value, negate. -/
import Derived.Test.YtikdkhmeaoafmaaGreatDoorRet
import Derived.Test.YtikdkhmeaoafmaaGreatDoorPlainRatT
namespace Go.Proofs.YtikdkhmeaoafmaaGreatDoor
open Go.RowKit

theorem str_no {b : ByteArray} (h : b.size ≠ 0) : b.toList.isEmpty = false := by
  rw [ByteArray.toList_eq, List.isEmpty_eq_false_iff]; intro e; have := congrArg List.length e; rw [Array.length_toList] at this; exact h this
theorem str_nil {b : ByteArray} (h : b.size = 0) : b = ⟨#[]⟩ := by
  cases b with
  | mk d => simp [ByteArray.size] at h; subst h; rfl
theorem str_yes {b : ByteArray} (h : b.size = 0) : b.toList.isEmpty = true := by
  obtain rfl := str_nil h
  rw [ByteArray.toList_eq]; rfl
theorem natS_empty (n : Nat) : (natS n).toList.isEmpty = decide (n = 0) := by
  by_cases h : n = 0
  · subst h; rw [str_yes rfl]; rfl
  · rw [str_no (fun e => h (natS_zero_size.1 e)), decide_eq_false h]
/-- An api.Rat as it is passed. -/
abbrev ratW (g : Bool) (a b : ByteArray) : Value := .agg #[.bool g, .string a, .string b]
/-- The empty api.Rat. -/
abbrev rat0 : Value := .agg #[.bool false, .string ⟨#[]⟩, .string ⟨#[]⟩]
/-- A block that holds an api.Rat. -/
abbrev R3 (w : World) (k : Nat) (g : Bool) (a b : ByteArray) : Prop := Blk w k 27 #[.bool g, .string a, .string b]

theorem cells3 {w w' : World} {k : Nat} {t : TypeId} {u v x : Value} (h : Blk w k t #[u, v, x]) (hb : Below w.heap.size w w') :
    w'.cell? ⟨k, 0, none⟩ = some u ∧ w'.cell? ⟨k, 1, none⟩ = some v ∧ w'.cell? ⟨k, 2, none⟩ = some x :=
  ⟨(h.belowK hb).cell 0, (h.belowK hb).cell 1, (h.belowK hb).cell 2⟩
theorem free3 {w w' : World} {k : Nat} {t : TypeId} {u v x : Value} (h : Blk w k t #[u, v, x]) (hb : Below w.heap.size w w') :
    w'.frozen? ⟨k, 0, none⟩ = false ∧ w'.frozen? ⟨k, 1, none⟩ = false ∧ w'.frozen? ⟨k, 2, none⟩ = false :=
  ⟨(h.belowK hb).frozen 0, (h.belowK hb).frozen 1, (h.belowK hb).frozen 2⟩
theorem Blk.put3 {w : World} {k : Nat} {t : TypeId} {u v x : Value} (h : Blk w k t #[u, v, x]) (u' v' x' : Value) : Blk (((w.setCell ⟨k, 0, none⟩ u').setCell ⟨k, 1, none⟩ v').setCell ⟨k, 2, none⟩ x') k t #[u', v', x'] := ((h.set_ 0 u').set_ 1 v').set_ 2 x'
theorem Blk.far3 {w : World} {k j : Nat} {t : TypeId} {cs : Array Value} (h : Blk w k t cs) (hne : k ≠ j) (u' v' x' : Value) : Blk (((w.setCell ⟨j, 0, none⟩ u').setCell ⟨j, 1, none⟩ v').setCell ⟨j, 2, none⟩ x') k t cs := ((h.far hne u').far hne v').far hne x'
theorem below_put3 {a w : World} {k : Nat} (h : Below a.heap.size a w) (hk : a.heap.size ≤ k) (u' v' x' : Value) : Below a.heap.size a (((w.setCell ⟨k, 0, none⟩ u').setCell ⟨k, 1, none⟩ v').setCell ⟨k, 2, none⟩ x') := below_set (below_set (below_set h hk u') hk v') hk x'

theorem Blk.new2 (w : World) (o : Obj) (t : TypeId) (cs : Array Value) : Blk ((w.alloc o).alloc (.cells cs t)) (w.heap.size + 1) t cs := by
  have := Blk.new (w.alloc o) t cs
  simpa using this
theorem Blk.new3 (w : World) (o p : Obj) (t : TypeId) (cs : Array Value) : Blk (((w.alloc o).alloc p).alloc (.cells cs t)) (w.heap.size + 1 + 1) t cs := by
  have := Blk.new2 (w.alloc o) p t cs
  simpa using this

theorem results_rat {fn : Func} {tmps : Array Value} {w : World} {s k : Nat} {t : TypeId} {u v x : Value} (hr : fn.results = #[.cell s 27]) (hs : tmps[s]?.getD undef = .pointer (some ⟨k, 0, none⟩)) (hb : Blk w k t #[u, v, x]) :
    (results fn tmps).run Tryz.prog w = .ok (.agg #[u, v, x]) w := by
  have h0 : w.cell? ⟨k, 0, none⟩ = some u := hb.cell 0
  have h1 : w.cell? ⟨k, 1, none⟩ = some v := hb.cell 1
  have h2 : w.cell? ⟨k, 2, none⟩ = some x := hb.cell 2
  simp [results, hr, hs, go_sem, h0, h1, h2]
theorem results_rat2 {fn : Func} {tmps : Array Value} {w : World} {s r k : Nat} {t : TypeId} {u v x y : Value} (hr : fn.results = #[.cell s 27, .tmp r]) (hs : tmps[s]?.getD undef = .pointer (some ⟨k, 0, none⟩)) (hb : Blk w k t #[u, v, x]) (hy : tmps[r]?.getD undef = y) :
    (results fn tmps).run Tryz.prog w = .ok (.tuple #[.agg #[u, v, x], y]) w := by
  have h0 : w.cell? ⟨k, 0, none⟩ = some u := hb.cell 0
  have h1 : w.cell? ⟨k, 1, none⟩ = some v := hb.cell 1
  have h2 : w.cell? ⟨k, 2, none⟩ = some x := hb.cell 2
  simp [results, hr, hs, hy, go_sem, h0, h1, h2]

theorem gcd_lt {m n k : Nat} (hm : m < P8 k) (hn : n < P8 k) : Nat.gcd m n < P8 k := by
  rcases Nat.eq_zero_or_pos m with h | h
  · subst h; rw [Nat.gcd_zero_left]; exact hn
  · exact Nat.lt_of_le_of_lt (Nat.gcd_le_left _ h) hm
theorem ret_gcd {a b : ByteArray} (ha : a.size ≤ 1000) (hb : b.size ≤ 1000) : Ret 67 #[.string a, .string b] (.string (natS (Nat.gcd (sval a) (sval b)))) := fun W => Gcd_any a b W (by omega) (by omega)
theorem unit_iff (n : Nat) : ((natS n).toList == [1]) = decide (n = 1) := by
  by_cases h : n = 1
  · subst h; rw [ByteArray.toList_eq]; rfl
  · rw [decide_eq_false h, beq_eq_false_iff_ne]
    intro e
    apply h
    rw [ByteArray.toList_eq] at e
    have h2 := bv_nb n
    have h3 : (natS n).data.toList = nb n := by simp [natS]
    rw [← h3, e] at h2
    exact h2.symm

theorem zero_any (w : World) : Calls Tryz.prog 73 #[] w fun e w' => e = .returned (ratV 0) ∧ Below w.heap.size w w' := by
  go_enter Tryz.func73, Tryz.ntmps73
  go_wp2_with fail
  refine bodyPost_ret (results_rat rfl rfl (Blk.new _ _ _)) rfl ?_
  exact ⟨rfl, below_al (Below.refl _ _) _⟩

set_option maxHeartbeats 400000 in
theorem reduce_any (g : Bool) (a b : ByteArray) (w : World) (ha : a.size ≤ 1000) (hb : b.size ≤ 1000) (h0 : sval b ≠ 0) :
    Calls Tryz.prog 57 #[.bool g, .string a, .string b] w fun e w' => e = .returned (ratV (mkRat (signed g (sval a)) (sval b))) ∧ Below w.heap.size w w' := by
  have hgp : Nat.gcd (sval a) (sval b) ≠ 0 := Nat.ne_of_gt (Nat.gcd_pos_of_pos_right _ (by omega))
  have hgs : (natS (Nat.gcd (sval a) (sval b))).size ≤ 1000 := natS_size (gcd_lt (sval_le ha) (sval_le hb))
  have h1 := Lib.hid (ret_gcd ha hb)
  have h2 := Lib.hid (ret_quo ha hgs rfl (sval_natS _) hgp)
  have h3 := Lib.hid (ret_quo hb hgs rfl (sval_natS _) hgp)
  have HR := Lib.hid (ratV_mk g (n := sval a) h0)
  have HZ : Hid (decide (sval a / Nat.gcd (sval a) (sval b) ≠ 0) = decide (sval a ≠ 0)) := Lib.hid (by
    by_cases e : sval a = 0
    · rw [e, Nat.zero_div]
    · have := Nat.div_pos (Nat.le_of_dvd (by omega) (Nat.gcd_dvd_left (sval a) (sval b))) (by omega)
      rw [decide_eq_true (show _ ≠ 0 by omega), decide_eq_true e])
  have HE := Lib.hid (natS_empty (sval a / Nat.gcd (sval a) (sval b)))
  clear hgp hgs h0
  generalize sval a / Nat.gcd (sval a) (sval b) = q at *
  generalize sval b / Nat.gcd (sval a) (sval b) = r at *
  generalize sval a % Nat.gcd (sval a) (sval b) = p at *
  generalize sval b % Nat.gcd (sval a) (sval b) = o at *
  generalize natS (Nat.gcd (sval a) (sval b)) = c at *
  have hB := Below.refl w.heap.size w
  go_enter Tryz.func57, Tryz.ntmps57
  go_wp2_with fail
  refine (h1.out _).mono ?_
  rintro e w1 ⟨rfl, hb1⟩
  have hk := (Blk.new w _ _).belowK hb1
  replace hB := below_then (below_al hB _) hb1
  clear hb1
  go_wp2_with fail
  refine (h2.out _).mono ?_
  rintro e w2 ⟨rfl, hb2⟩
  replace hB := below_then hB hb2
  replace hk := hk.belowK hb2
  clear hb2
  go_wp2_with fail
  refine (h3.out _).mono ?_
  rintro e w3 ⟨rfl, hb3⟩
  replace hB := below_then hB hb3
  replace hk := hk.belowK hb3
  clear hb3
  obtain ⟨hc0, hc1, hc2⟩ := cells3 hk (Below.refl _ _)
  obtain ⟨hf0, hf1, hf2⟩ := free3 hk (Below.refl _ _)
  cases g
  · go_wp2_with fail
    refine bodyPost_ret (results_rat rfl rfl (hk.put3 _ _ _)) rfl ?_
    exact ⟨by rw [HR.out]; rfl, below_put3 hB (Nat.le_refl _) _ _ _⟩
  · go_wp2_with fail
    refine bodyPost_ret (results_rat rfl rfl (hk.put3 _ _ _)) rfl ?_
    exact ⟨by rw [HR.out, HE.out, ← HZ.out]; simp, below_put3 hB (Nat.le_refl _) _ _ _⟩

set_option maxHeartbeats 400000 in
theorem right_any (g : Bool) (a b : ByteArray) (w : World) (ha : a.size ≤ 1000) (hb : b.size ≤ 1000) :
    Calls Tryz.prog 63 #[ratW g a b] w fun e w' => e = .returned (.bool (rRightB g a b)) ∧ Below w.heap.size w w' := by
  have H1 := Lib.hid (ret_gcd ha hb)
  have H2 := Lib.hid (ret_right ha rfl)
  have H3 := Lib.hid (ret_right hb rfl)
  have HE : Hid (rRightB g a b = (rightB a && rightB b && decide (b.size ≠ 0) && !(decide (a.size = 0) && g) && decide (Nat.gcd (sval a) (sval b) = 1))) := Lib.hid rfl
  have HU := Lib.hid (unit_iff (Nat.gcd (sval a) (sval b)))
  have HS : Hid (b.size ≠ 0 → b.toList.isEmpty = false) := Lib.hid str_no
  have HT : Hid (a.size ≠ 0 → a.toList.isEmpty = false) := Lib.hid str_no
  generalize natS (Nat.gcd (sval a) (sval b)) = c at *
  generalize decide (Nat.gcd (sval a) (sval b) = 1) = d at *
  have hB := Below.refl w.heap.size w
  go_enter Tryz.func63, Tryz.ntmps63
  go_wp2_with fail
  refine (H2.out _).mono ?_
  rintro e w1 ⟨rfl, hb1⟩
  have hk := (Blk.new w _ _).belowK hb1
  replace hB := below_then (below_al hB _) hb1
  clear hb1
  obtain ⟨hc0, hc1, hc2⟩ := cells3 hk (Below.refl _ _)
  cases hra : rightB a
  · go_wp2_with fail
    go_ret
    exact ⟨by rw [HE.out, hra]; rfl, hB⟩
  · go_wp2_with fail
    refine (H3.out _).mono ?_
    rintro e w2 ⟨rfl, hb2⟩
    replace hB := below_then hB hb2
    replace hk := hk.belowK hb2
    clear hb2 hc0 hc1 hc2
    obtain ⟨hc0, hc1, hc2⟩ := cells3 hk (Below.refl _ _)
    cases hrb : rightB b
    · go_wp2_with fail
      go_ret
      exact ⟨by rw [HE.out, hra, hrb]; rfl, hB⟩
    · by_cases hb0 : b.size = 0
      · have hbn := str_yes hb0
        go_wp2_with fail
        go_ret
        exact ⟨by rw [HE.out]; simp [hb0], hB⟩
      · have hbn := HS.out hb0
        by_cases ha0 : a.size = 0
        · have han := str_yes ha0
          cases g
          · go_wp2_with fail
            refine (H1.out _).mono ?_
            rintro e w3 ⟨rfl, hb3⟩
            replace hB := below_then hB hb3
            go_wp2_with fail
            go_ret
            exact ⟨by rw [HE.out, hra, hrb, ← HU.out]; simp [hb0], hB⟩
          · go_wp2_with fail
            go_ret
            exact ⟨by rw [HE.out]; simp [ha0], hB⟩
        · have han := HT.out ha0
          go_wp2_with fail
          refine (H1.out _).mono ?_
          rintro e w3 ⟨rfl, hb3⟩
          replace hB := below_then hB hb3
          go_wp2_with fail
          go_ret
          exact ⟨by rw [HE.out, hra, hrb, ← HU.out]; simp [hb0, ha0], hB⟩

theorem ret_nright (g : Bool) {a b : ByteArray} (ha : a.size ≤ 1000) (hb : b.size ≤ 1000) : Ret 63 #[ratW g a b] (.bool (rRightB g a b)) := fun W => right_any g a b W ha hb

set_option maxHeartbeats 400000 in
theorem value_any (g : Bool) (a b : ByteArray) (w : World) (ha : a.size ≤ 1000) (hb : b.size ≤ 1000) :
    Calls Tryz.prog 47 #[ratW g a b] w fun e w' => e = .returned (ratV (ratOf g a b)) ∧ Below w.heap.size w w' := by
  have H1 := Lib.hid (ret_nright g ha hb)
  have H2 : Hid (Ret 73 #[] (ratW false ⟨#[]⟩ ⟨#[1]⟩)) := Lib.hid zero_any
  have HY : Hid (rRightB g a b = true → ratV (ratOf g a b) = ratW g a b) := Lib.hid (fun h => ratV_of h)
  have HN : Hid (rRightB g a b = false → ratV (ratOf g a b) = ratW false ⟨#[]⟩ ⟨#[1]⟩) := Lib.hid (fun h => by unfold ratOf; rw [h]; rfl)
  have hB := Below.refl w.heap.size w
  have hka := Blk.new w 27 #[.bool g, .string a, .string b]
  go_enter Tryz.func47, Tryz.ntmps47
  go_wp2_with fail
  refine (H1.out _).mono ?_
  rintro e w1 ⟨rfl, hb1⟩
  have hkr := (Blk.new2 w (.cells #[.bool g, .string a, .string b] 27) 27 #[.bool false, .string ⟨#[]⟩, .string ⟨#[]⟩]).belowK hb1
  replace hka := (hka.alloc _).belowK hb1
  replace hB := below_then (below_al (below_al hB _) _) hb1
  clear hb1
  have hne : w.heap.size ≤ w.heap.size + 1 := by omega
  cases hr : rRightB g a b
  · go_wp2_with fail
    refine (H2.out _).mono ?_
    rintro e w2 ⟨rfl, hb2⟩
    replace hB := below_then hB hb2
    replace hkr := hkr.belowK hb2
    clear hb2
    obtain ⟨hc0, hc1, hc2⟩ := cells3 hkr (Below.refl _ _)
    obtain ⟨hf0, hf1, hf2⟩ := free3 hkr (Below.refl _ _)
    go_wp2_with fail
    refine bodyPost_ret (results_rat rfl rfl (hkr.put3 _ _ _)) rfl ?_
    exact ⟨by rw [HN.out hr], below_put3 hB hne _ _ _⟩
  · obtain ⟨hc0, hc1, hc2⟩ := cells3 hkr (Below.refl _ _)
    obtain ⟨hf0, hf1, hf2⟩ := free3 hkr (Below.refl _ _)
    obtain ⟨ha0, ha1, ha2⟩ := cells3 hka (Below.refl _ _)
    go_wp2_with fail
    refine bodyPost_ret (results_rat rfl rfl (hkr.put3 _ _ _)) rfl ?_
    exact ⟨by rw [HY.out hr], below_put3 hB hne _ _ _⟩

set_option maxHeartbeats 400000 in
/-- negate, at a right number. -/
theorem negate_any (x : Rat) (w : World) :
    Calls Tryz.prog 74 #[ratV x] w fun e w' => e = .returned (ratV (-x)) ∧ Below w.heap.size w w' := by
  have HR := Lib.hid (ratV_neg x)
  have HE := Lib.hid (natS_empty x.num.natAbs)
  have HZ : Hid (decide (x.num.natAbs = 0) = decide (x.num = 0)) := Lib.hid (by by_cases h : x.num = 0 <;> simp [h])
  have e : ratV x = .agg #[.bool (decide (x.num < 0)), .string (natS x.num.natAbs), .string (natS x.den)] := rfl
  rw [e, HR.out]
  clear e HR
  unfold negB
  generalize decide (x.num < 0) = g at *
  generalize natS x.num.natAbs = a at *
  generalize natS x.den = b at *
  cases g
  · go_enter Tryz.func74, Tryz.ntmps74
    go_wp2_with fail
    refine bodyPost_ret (results_rat rfl rfl (Blk.new2 _ _ _ _)) rfl ?_
    exact ⟨by rw [HE.out, HZ.out]; simp, below_al (below_al (Below.refl _ _) _) _⟩
  · go_enter Tryz.func74, Tryz.ntmps74
    go_wp2_with fail
    refine bodyPost_ret (results_rat rfl rfl (Blk.new2 _ _ _ _)) rfl ?_
    exact ⟨by simp, below_al (below_al (Below.refl _ _) _) _⟩
end Go.Proofs.YtikdkhmeaoafmaaGreatDoor
