/- Delays: Bent of the reference. -/
import Derived.Test.YtebgmlbbilcbbaaGreatDoorDelHelp
import Derived.Test.YtebgmlbbilcbbaaGreatDoorHelds
import Derived.Test.YtebgmlbbilcbbaaGreatDoorModQ
namespace Go.Proofs.YtebgmlbbilcbbaaGreatDoor
open Go.RowKit
attribute [local go_sem] Oper.semAt_some

theorem NDg.first {w : World} {A : Option Addr} {n c m : Nat} {l : List ByteArray} (h : NDg w A n c l) (hm : m ≤ n) : NDg w A m c (l.take m) := by
  refine ⟨by rw [List.length_take, h.len]; omega, Nat.le_trans hm h.cap, fun h0 => ?_⟩
  obtain ⟨b, o, e, hc⟩ := h.at_ (by omega)
  refine ⟨b, o, e, fun j d hd => hc j d ?_⟩
  rw [List.getElem?_take] at hd
  split at hd
  · exact hd
  · cases hd
theorem NDg.set {w : World} {b o n c k : Nat} {l : List ByteArray} (h : NDg w (some ⟨b, o, none⟩) n c l) (hk : k < n) (s : ByteArray) : NDg (w.setCell ⟨b, o + k, none⟩ (.string s)) (some ⟨b, o, none⟩) n c (l.set k s) := by
  refine ⟨by rw [List.length_set]; exact h.len, h.cap, fun h0 => ⟨b, o, rfl, fun j d hd => ?_⟩⟩
  obtain ⟨b', o', e, hc⟩ := h.at_ h0
  obtain ⟨rfl, rfl⟩ : b' = b ∧ o' = o := by cases e; exact ⟨rfl, rfl⟩
  have hl := h.len
  rw [List.getElem?_set] at hd
  split at hd
  · rename_i hjk
    subst hjk
    rw [if_pos (by omega)] at hd
    obtain rfl := Option.some.inj hd
    exact World.cell?_setCell_same _ _ _ (hc k _ (List.getElem?_eq_getElem (by omega)))
  · rename_i hjk
    exact (World.cell?_setCell_other _ _ _ _ (fun e => hjk (by injection e with _ e2; omega))).trans (hc j d hd)
theorem NDg.set0 {w : World} {b n c k : Nat} {l : List ByteArray} (h : NDg w (some ⟨b, 0, none⟩) n c l) (hk : k < n) (s : ByteArray) : NDg (w.setCell ⟨b, k, none⟩ (.string s)) (some ⟨b, 0, none⟩) n c (l.set k s) := by
  have := h.set hk s
  rwa [Nat.zero_add] at this
theorem Short.set {l : List ByteArray} (h : Short l) {s : ByteArray} (hs : s.size ≤ 100) (k : Nat) : Short (l.set k s) := fun m hm => by
  rcases List.mem_or_eq_of_mem_set hm with h1 | h1
  · exact h m h1
  · rw [h1]; exact hs
theorem Short.snoc {l : List ByteArray} (h : Short l) {s : ByteArray} (hs : s.size ≤ 100) : Short (l ++ [s]) := fun m hm => by
  rcases List.mem_append.1 hm with h1 | h1
  · exact h m h1
  · obtain rfl := List.mem_singleton.1 h1; exact hs
theorem Short.take {l : List ByteArray} (h : Short l) (k : Nat) : Short (l.take k) := fun m hm => h m (List.mem_of_mem_take hm)

/-- What Bent gives. -/
def BentPost (w : World) (e : Ending) (w' : World) : Prop :=
  ∃ (A : Option Addr) (n c : Nat) (l : List ByteArray), e = .returned (.slice A n c) ∧ NDg w' A n c l ∧ Short l ∧ n ≤ 1000 ∧ Below w.heap.size w w'

theorem bent_done {w w' : World} {B : Nat} {v : Value} {l : List ByteArray} (ho : OwnT B w' v l) (hs : Short l) (hl : l.length ≤ 1000) (hB : Below w.heap.size w w') : BentPost w (.returned v) w' := by
  obtain ⟨A, c, rfl, hd⟩ := OwnT.ndg ho
  exact ⟨A, l.length, c, l, rfl, hd, hs, hl, hB⟩

set_option maxRecDepth 100000 in
set_option maxHeartbeats 4000000 in
theorem Bent_any (A : Option Addr) (n c : Nat) (l : List ByteArray) (q0 q1 q2 : Int) (hn : n ≤ 100) (hl : ∀ m ∈ l, m.size ≤ 16) (_h0 : -9223372036854775808 ≤ q0 ∧ q0 ≤ 9223372036854775807) (h1 : -9223372036854775808 ≤ q1 ∧ q1 ≤ 9223372036854775807) (w : World) (hx : NDg w A n c l) :
    Calls Tryz.prog 34 #[.slice A n c, .agg #[.int .i64 q0, .int .i64 q1, .int .i64 q2]] w fun e w' => BentPost w e w' := by
  have hrow := hx.row
  have hlen := hx.len
  have HS := Lib.hid (show Short l from fun m hm => by have := hl m hm; omega)
  have HL16 := Lib.hid hl
  clear hx hl
  go_enter Tryz.func34, Tryz.ntmps34
  go_upto_region 1 with fail
  refine name1p ?_
  intro w0 k3 hB
  have hrow0 := (hrow.below hB).below (below_al (Below.refl _ _) (.cells #[] 25))
  clear hrow
  have ho0 : OwnT w.heap.size (w0.alloc (.cells #[] 25)) (.slice (some ⟨w0.heap.size, 0, none⟩) 0 0) [] := OwnL.empty encT _ 1 (Blk.new w0 25 #[]) hB.size
  go_upto_region 2 with (refine wp_append_rows (enc := encT) (B := w.heap.size) Tryz.underlying28 nat_info rfl (by decide) (by decide) rfl (.tmp 7) (.tmp 8) rfl encT_len encT_one rfl ho0 rfl hrow0 (by simp) (by omega) (below_al hB _).size ?_; intro v1 w1 ho1 hg1)
  have hB1 : Below w.heap.size w w1 := (below_al hB _).grown hg1 (below_al hB _).size (fun k e => by cases e; exact hB.size)
  have hk31 := ((k3.below (below_al (Below.refl w0.heap.size w0) _) k3.lt)).grown hg1 (fun e => by have h1 := Option.some.inj (show some w.heap.size = some w0.heap.size from e); have h2 := k3.lt; omega)
  rw [List.nil_append] at ho1
  clear hg1 hrow0 k3 hB
  have c0 : w1.cell? ⟨w.heap.size, 0, none⟩ = some (.int .i64 q0) := hk31.cell 0
  have c1 : w1.cell? ⟨w.heap.size, 1, none⟩ = some (.int .i64 q1) := hk31.cell 1
  by_cases hn0 : n = 0
  · obtain rfl : l = [] := List.eq_nil_of_length_eq_zero (by omega)
    obtain ⟨A1, cc, rfl, hd1⟩ := OwnT.ndg ho1
    have m1 := Lib.hid (fun W => rOf q1 W h1.2)
    have hq1s : (natS q1.toNat).size ≤ 100 := Nat.le_trans (natS_i64 (by omega)) (by omega)
    generalize natS q1.toNat = o1 at m1 hq1s
    by_cases hr : q0.tmod 2 = 0
    · have hr' : (q0.tmod 2 == 0) = true := by simp [hr]
      go_wp2_with (first
        | (go_at_call 73; (with_reducible refine (m1.out _).mono ?_); rintro e w2 ⟨rfl, hb⟩; replace ho1 := OwnL.below ho1 hb; replace hB1 := below_then hB1 hb; clear hb)
        | (refine wp_append_row (enc := encT) Tryz.underlying28 nat_info rfl (by decide) (by decide) rfl _ _ rfl o1 rfl rfl (encT_one _) rfl ho1 rfl (by simp) hB1.size ?_; intro v3 w3 ho3 hg3))
      go_ret
      exact bent_done ho3 (Short.snoc (fun m hm => by cases hm) hq1s) (by simp) (hB1.grown hg3 hB1.size (own_high ho1))
    · have hr' : (q0.tmod 2 == 0) = false := by simp [hr]
      go_wp2_with fail
      go_ret
      exact bent_done ho1 (fun m hm => by cases hm) (by simp) hB1
  · rcases OwnL.at_ ho1 encT_len with ⟨_, h⟩ | ⟨g, cc, rfl, hcc, hg1, hg2, hcell⟩
    · exact absurd (congrArg List.length h) (by rw [hlen]; exact hn0)
    rw [hlen] at hcc
    obtain ⟨j, hj, hjn⟩ : ∃ j : Nat, q1 % (n : Int) = (j : Int) ∧ j < n := ⟨(q1 % (n : Int)).toNat, by have := Int.emod_nonneg q1 (show (n : Int) ≠ 0 by omega); omega, by have := Int.emod_nonneg q1 (show (n : Int) ≠ 0 by omega); have := Int.emod_lt_of_pos q1 (show (0 : Int) < (n : Int) by omega); omega⟩
    obtain ⟨r, hr, hr6⟩ : ∃ r : Nat, q0 % 6 = (r : Int) ∧ r < 6 := ⟨(q0 % 6).toNat, by omega, by omega⟩
    have m1 : Hid (Ret 43 #[.int .i64 q1, .int .i64 (n : Int)] (.int .i64 (j : Int))) := Lib.hid ((rMod1_q q1 n (by omega) (by omega)).of (by rw [hj]))
    have m2 : Hid (Ret 43 #[.int .i64 q0, .int .i64 6] (.int .i64 (r : Int))) := Lib.hid ((rMod1_q q0 6 (by omega) (by omega)).of (by rw [hr]))
    obtain ⟨s, hs⟩ : ∃ s, l[j]? = some s := ⟨l[j]'(by omega), List.getElem?_eq_getElem _⟩
    have hs16 := HL16.out s (List.mem_of_getElem? hs)
    have hcs := hcell j 0 s (.string s) hs rfl
    rw [Nat.mul_one, Nat.add_zero] at hcs
    obtain ⟨cs, fs⟩ := hcs
    obtain ⟨A1, c1', hv, hd1⟩ := OwnT.ndg ho1
    rw [hlen] at hv hd1
    obtain ⟨rfl, rfl⟩ : A1 = some ⟨g, 0, none⟩ ∧ c1' = cc := by cases hv; exact ⟨rfl, rfl⟩
    rw [hlen] at ho1
    have hgB : w.heap.size ≤ g := hg1
    have hnn : ((n : Int) == 0) = false := by rw [beq_eq_false_iff_ne]; omega
    have hj2 : (j : Int) < (n : Int) := by omega
    have hzg : w.heap.size ≠ g := fun e => own_ty ho1 hk31 (by decide) (by rw [e]; rfl)
    clear hcell hv hj hr hg1
    go_upto_region 8 with (first
      | (go_at_call 43; (with_reducible refine (m1.out _).mono ?_); rintro e w2 ⟨rfl, hb⟩; replace hd1 := hd1.below hb; replace ho1 := OwnL.below ho1 hb; replace hB1 := below_then hB1 hb; replace fs := frozen_c hb cs fs; replace cs := cell_b hb cs; replace hk31 := hk31.below hb hk31.lt; replace c0 := cell_b hb c0; replace c1 := cell_b hb c1; clear hb)
      | (go_at_call 43; (with_reducible refine (m2.out _).mono ?_); rintro e w3 ⟨rfl, hb⟩; replace hd1 := hd1.below hb; replace ho1 := OwnL.below ho1 hb; replace hB1 := below_then hB1 hb; replace fs := frozen_c hb cs fs; replace cs := cell_b hb cs; replace hk31 := hk31.below hb hk31.lt; replace c0 := cell_b hb c0; replace c1 := cell_b hb c1; clear hb))
    have c2 : w3.cell? ⟨w.heap.size, 2, none⟩ = some (.int .i64 q2) := hk31.cell 2
    clear c0 c1 m1 m2
    obtain rfl | rfl | rfl | rfl | rfl | rfl : r = 0 ∨ r = 1 ∨ r = 2 ∨ r = 3 ∨ r = 4 ∨ r = 5 := by omega
    · obtain ⟨m9, hm9, hm9l⟩ : ∃ m : Nat, q2 % 9 = (m : Int) ∧ m < 9 := ⟨(q2 % 9).toNat, by omega, by omega⟩
      have n1 : Hid (Ret 43 #[.int .i64 q2, .int .i64 9] (.int .i64 (m9 : Int))) := Lib.hid ((rMod1_q q2 9 (by omega) (by omega)).of (by rw [hm9]))
      obtain ⟨o9, ho9⟩ : ∃ o : Nat, (1 : Int) + (m9 : Int) = (o : Int) ∧ o < 100 := ⟨1 + m9, by omega, by omega⟩
      have n2 : Hid (Ret 73 #[.int .i64 (o9 : Int)] (.string (natS o9))) := Lib.hid (fun W => by
        have := rOf (o9 : Int) W (by omega)
        rwa [Int.toNat_natCast] at this)
      have n3 : Hid (Ret 22 #[.string s, .string (natS o9)] (.string (natS (sval s + o9)))) := Lib.hid (fun W => by
        have := rAdd s (natS o9) W (by omega) (Nat.le_trans (natS_i64 (by omega)) (by omega))
        rwa [sval_natS] at this)
      have hz : (natS (sval s + o9)).size ≤ 17 := natS_size (P8_sum (sval_le hs16) (Nat.lt_of_lt_of_le (Nat.lt_trans ho9.2 (show 100 < P8 1 by decide)) (P8_mono (by omega))))
      have n4 := Lib.hid (rRest_q (natS (sval s + o9)) (by omega))
      have hz2 := natS_mod (sval (natS (sval s + o9)))
      generalize natS (sval (natS (sval s + o9)) % modN) = y at n4 hz2
      generalize natS (sval s + o9) = x at n3 n4 hz
      generalize natS o9 = oo at n2 n3
      have hwj : IntKind.i64.wrap (j : Int) = (j : Int) := IntWalk.i64_in _ (by omega)
      have hw9 : IntKind.i64.wrap ((1 : Int) + (m9 : Int)) = (o9 : Int) := by rw [ho9.1]; exact IntWalk.i64_in _ (by omega)
      clear hm9 ho9
      go_upto_region 9 with fail
      have hBd := hB1.drew
      have hdd := hd1.below (Below.refl w3.heap.size w3).drew
      have g1 : w3.drew.cell? ⟨g, j, none⟩ = some (.string s) := cs
      have g2 : w3.drew.cell? ⟨w.heap.size, 2, none⟩ = some (.int .i64 q2) := c2
      have fm : w3.drew.frozen? ⟨g, j, none⟩ = false := fs
      clear hB1 hd1 cs c2 fs ho1 hk31
      refine region_here (fun Z => Z.cell? ⟨g, j, none⟩ = some (.string s) ∧ Z.cell? ⟨w.heap.size, 2, none⟩ = some (.int .i64 q2)) 14 (by kernel_rfl) ⟨g1, g2⟩ (fun hHeld => ?_)
      refine wpAnyS_take [13, 14] (i := 0) (oi := ⟨_, _, _, _, _, _⟩) (v := ?_) (by simp) (by kernel_rfl) rfl (by kernel_rfl) (by kernel_rfl) (by kernel_rfl) (fun _ _ _ h => h) (Or.inl ⟨by rfl, ?_⟩) (by assumption) ?_
      rotate_left
      · (intro w hSw; (try dsimp only at hSw); go_simp; try with_reducible rfl)
      try simp only [Act.put, List.setIfInBounds_toArray, List.set_cons_zero, List.set_cons_succ]
      refine wpAnyS_take [13, 14] (i := 1) (oi := ⟨_, _, _, _, _, _⟩) (v := ?_) (by simp) (by kernel_rfl) rfl (by kernel_rfl) (by kernel_rfl) (by kernel_rfl) (fun _ _ _ h => h) (Or.inl ⟨by rfl, ?_⟩) (by assumption) ?_
      rotate_left
      · (intro w hSw; (try dsimp only at hSw); go_simp; try with_reducible rfl)
      try simp only [Act.put, List.setIfInBounds_toArray, List.set_cons_zero, List.set_cons_succ]
      refine wpAnyS_take [4, 5, 11, 12, 13, 14] (i := 2) (oi := ⟨_, _, _, _, _, _⟩) (v := ?_) (by simp) (by kernel_rfl) rfl (by kernel_rfl) (by kernel_rfl) (by kernel_rfl) (fun _ _ _ h => h) (Or.inl ⟨by rfl, ?_⟩) (by assumption) ?_
      rotate_left
      · (intro w hSw; (try dsimp only at hSw); go_simp; try with_reducible rfl)
      try simp only [Act.put, List.setIfInBounds_toArray, List.set_cons_zero, List.set_cons_succ]
      refine wpAnyS_take [4, 5, 11, 12, 13, 14] (i := 3) (oi := ⟨_, _, _, _, _, _⟩) (v := ?_) (by simp) (by kernel_rfl) rfl (by kernel_rfl) (by kernel_rfl) (by kernel_rfl) (fun _ _ _ h => h) (Or.inl ⟨by rfl, ?_⟩) (by assumption) ?_
      rotate_left
      · (intro w hSw; (try dsimp only at hSw); go_simp; try with_reducible rfl)
      try simp only [Act.put, List.setIfInBounds_toArray, List.set_cons_zero, List.set_cons_succ]
      refine wpAnyS_take [5, 11, 12, 13, 14] (i := 4) (oi := ⟨_, _, _, _, _, _⟩) (v := ?_) (by simp) (by kernel_rfl) rfl (by kernel_rfl) (by kernel_rfl) (by kernel_rfl) (fun _ _ _ h => h) (Or.inl ⟨by rfl, ?_⟩) (by assumption) ?_
      rotate_left
      · (intro w hSw; (try dsimp only at hSw); go_simp; try with_reducible rfl)
      try simp only [Act.put, List.setIfInBounds_toArray, List.set_cons_zero, List.set_cons_succ]
      refine wpAnyS_take [11, 12, 13, 14] (i := 5) (oi := ⟨_, _, _, _, _, _⟩) (v := ?_) (by simp) (by kernel_rfl) rfl (by kernel_rfl) (by kernel_rfl) (by kernel_rfl) (fun _ _ _ h => h) (Or.inl ⟨by rfl, ?_⟩) (by assumption) ?_
      rotate_left
      · (intro w hSw; (try dsimp only at hSw); go_simp; try with_reducible rfl)
      try simp only [Act.put, List.setIfInBounds_toArray, List.set_cons_zero, List.set_cons_succ]
      refine wpAnyS_take [7, 8, 9, 10, 11, 12, 13, 14] (i := 6) (oi := ⟨_, _, _, _, _, _⟩) (v := ?_) (by simp) (by kernel_rfl) rfl (by kernel_rfl) (by kernel_rfl) (by kernel_rfl) (fun _ _ _ h => h) (Or.inl ⟨by rfl, ?_⟩) (by assumption) ?_
      rotate_left
      · (intro w hSw; (try dsimp only at hSw); go_simp; try with_reducible rfl)
      try simp only [Act.put, List.setIfInBounds_toArray, List.set_cons_zero, List.set_cons_succ]
      refine wpAnyS_take [8, 9, 10, 11, 12, 13, 14] (i := 7) (oi := ⟨_, _, _, _, _, _⟩) (v := ?_) (by simp) (by kernel_rfl) rfl (by kernel_rfl) (by kernel_rfl) (by kernel_rfl) (fun _ _ _ h => h) (Or.inl ⟨by rfl, ?_⟩) (by assumption) ?_
      rotate_left
      · (intro w hSw; (try dsimp only at hSw); go_simp; try with_reducible rfl)
      try simp only [Act.put, List.setIfInBounds_toArray, List.set_cons_zero, List.set_cons_succ]
      refine wpAnyS_one (i := 8) (oi := ⟨_, _, _, _, _, _⟩) rfl (by kernel_rfl) (fun K hK => ?_)
      go_simp
      go_at_call 43
      refine (n1.out _).mono ?_
      rintro e wa ⟨rfl, hba⟩
      (try go_wp2_with fail)
      refine hK.out _ _ ?_ (fun hHeld8 => ?_)
      · exact ⟨cell_b hba hHeld.1, cell_b hba hHeld.2⟩
      clear hK K
      try simp only [Act.put, List.setIfInBounds_toArray, List.set_cons_zero, List.set_cons_succ]
      refine wpAnyS_take [10, 11, 12, 13, 14] (i := 9) (oi := ⟨_, _, _, _, _, _⟩) (v := ?_) (by simp) (by kernel_rfl) rfl (by kernel_rfl) (by kernel_rfl) (by kernel_rfl) (fun _ _ _ h => h) (Or.inl ⟨by rfl, ?_⟩) (by assumption) ?_
      rotate_left
      · (intro w hSw; (try dsimp only at hSw); go_simp; try with_reducible rfl)
      try simp only [Act.put, List.setIfInBounds_toArray, List.set_cons_zero, List.set_cons_succ]
      refine wpAnyS_one (i := 10) (oi := ⟨_, _, _, _, _, _⟩) rfl (by kernel_rfl) (fun K hK => ?_)
      go_simp
      go_at_call 73
      refine (n2.out _).mono ?_
      rintro e wb ⟨rfl, hbb⟩
      (try go_wp2_with fail)
      refine hK.out _ _ ?_ (fun hHeld10 => ?_)
      · exact ⟨cell_b hbb hHeld8.1, cell_b hbb hHeld8.2⟩
      clear hK K
      try simp only [Act.put, List.setIfInBounds_toArray, List.set_cons_zero, List.set_cons_succ]
      refine wpAnyS_one (i := 11) (oi := ⟨_, _, _, _, _, _⟩) rfl (by kernel_rfl) (fun K hK => ?_)
      go_simp
      go_at_call 22
      refine (n3.out _).mono ?_
      rintro e wc ⟨rfl, hbc⟩
      (try go_wp2_with fail)
      refine hK.out _ _ ?_ (fun hHeld11 => ?_)
      · exact ⟨cell_b hbc hHeld10.1, cell_b hbc hHeld10.2⟩
      clear hK K
      try simp only [Act.put, List.setIfInBounds_toArray, List.set_cons_zero, List.set_cons_succ]
      refine wpAnyS_one (i := 12) (oi := ⟨_, _, _, _, _, _⟩) rfl (by kernel_rfl) (fun K hK => ?_)
      go_simp
      go_at_call 18
      refine (n4.out _).mono ?_
      rintro e wd ⟨rfl, hbd⟩
      (try go_wp2_with fail)
      refine hK.out _ _ ?_ (fun hHeld12 => ?_)
      · exact ⟨cell_b hbd hHeld11.1, cell_b hbd hHeld11.2⟩
      clear hK K
      try simp only [Act.put, List.setIfInBounds_toArray, List.set_cons_zero, List.set_cons_succ]
      refine wpAnyS_take [14] (i := 13) (oi := ⟨_, _, _, _, _, _⟩) (v := ?_) (by simp) (by kernel_rfl) rfl (by kernel_rfl) (by kernel_rfl) (by kernel_rfl) (fun _ _ _ h => h) (Or.inl ⟨by rfl, ?_⟩) (by assumption) ?_
      rotate_left
      · (intro w hSw; (try dsimp only at hSw); go_simp; try with_reducible rfl)
      try simp only [Act.put, List.setIfInBounds_toArray, List.set_cons_zero, List.set_cons_succ]
      refine wpAnyS_call (k := 14) (ok := ⟨_, _, _, _, _, _⟩) rfl (by kernel_rfl) (by kernel_rfl) (fun K hK => ?_)
      have fa := frozen_c hba g1 fm
      have fb := frozen_c hbb hHeld8.1 fa
      have fc := frozen_c hbc hHeld10.1 fb
      have fd := frozen_c hbd hHeld11.1 fc
      have ce := hHeld12.1
      go_simp
      refine hK.out _ _ ?_
      clear hK K
      try simp only [Act.put, List.setIfInBounds_toArray, List.set_cons_zero, List.set_cons_succ]
      refine wpAny_done (by kernel_rfl) ?_ _
      have hB5 := below_then (below_then (below_then (below_then hBd hba) hbb) hbc) hbd
      have hd5 := ((((hdd.below hba).below hbb).below hbc).below hbd)
      go_wp2_with fail
      go_ret
      exact ⟨_, n, _, _, rfl, hd5.set0 hjn _, Short.set HS.out (by omega) _, by omega, below_set hB5 (p := ⟨g, j, none⟩) hgB _⟩
    · have hn1 : (0 : Int) ≤ (n : Int) - 1 := by omega
      have hn2 : (n : Int) - 1 = ((n - 1 : Nat) : Int) := by omega
      go_wp2_with fail
      go_ret
      exact ⟨_, n - 1, _, _, rfl, hd1.first (by omega), HS.out.take _, by omega, hB1⟩
    · go_wp2_with (refine wp_append_row (enc := encT) Tryz.underlying28 nat_info rfl (by decide) (by decide) rfl _ _ rfl s rfl rfl (encT_one _) rfl ho1 rfl (by omega) hB1.size ?_; intro v5 w5 ho5 hg5)
      go_ret
      exact bent_done ho5 (Short.snoc HS.out (by omega)) (by simp; omega) (hB1.grown hg5 hB1.size (own_high ho1))
    · have hcat : ¬ 9223372036854775807 < 1 + s.size := by omega
      go_wp2_with fail
      go_ret
      exact ⟨_, n, _, _, rfl, hd1.set0 hjn _, Short.set HS.out (s := ⟨#[0]⟩ ++ s) (by rw [ByteArray.size_append]; show 1 + s.size ≤ 100; omega) _, by omega, below_set hB1 (p := ⟨g, j, none⟩) hgB _⟩
    · have m3 := Lib.hid (fun W => rAdd s modS W (by omega) (by decide))
      have hz : (natS (sval s + sval modS)).size ≤ 17 := natS_size (P8_sum (sval_le hs16) (sval_le (show modS.size ≤ 16 by decide)))
      generalize natS (sval s + sval modS) = x at m3 hz
      unfold modS at m3
      go_wp2_with (first
        | (go_at_call 22; (with_reducible refine (m3.out _).mono ?_); rintro e w4 ⟨rfl, hb⟩; replace hd1 := hd1.below hb; replace hB1 := below_then hB1 hb; replace fs := frozen_c hb cs fs; replace cs := cell_b hb cs; clear hb))
      go_ret
      exact ⟨_, n, _, _, rfl, hd1.set0 hjn _, Short.set HS.out (by omega) _, by omega, below_set hB1 (p := ⟨g, j, none⟩) hgB _⟩
    · have m3 := Lib.hid (fun W => rSub modS s W (by decide) (by omega))
      obtain ⟨x, b, hx, hxs⟩ : ∃ (x : ByteArray) (b : Bool), subRes (sval modS) (sval s) = .tuple #[.string x, .bool b] ∧ x.size ≤ 16 := by
        unfold subRes
        split
        · exact ⟨_, _, rfl, natS_size (Nat.lt_of_le_of_lt (Nat.sub_le _ _) (sval_le (show modS.size ≤ 16 by decide)))⟩
        · exact ⟨_, _, rfl, by decide⟩
      rw [hx] at m3
      clear hx
      unfold modS at m3
      go_wp2_with (first
        | (go_at_call 90; (with_reducible refine (m3.out _).mono ?_); rintro e w4 ⟨rfl, hb⟩; replace hd1 := hd1.below hb; replace hB1 := below_then hB1 hb; replace fs := frozen_c hb cs fs; replace cs := cell_b hb cs; clear hb))
      go_ret
      exact ⟨_, n, _, _, rfl, hd1.set0 hjn _, Short.set HS.out (by omega) _, by omega, below_set hB1 (p := ⟨g, j, none⟩) hgB _⟩

end Go.Proofs.YtebgmlbbilcbbaaGreatDoor
