/- The law DelayConvicts. -/
import Derived.Test.YtebgmlbbilcbbaaGreatDoorDelHelp
import Derived.Test.YtebgmlbbilcbbaaGreatDoorPlainMore
import Derived.Test.YtebgmlbbilcbbaaGreatDoorHelds
import Derived.IntWalk
import Derived.Deep.QuietTactic
namespace Go.Proofs.YtebgmlbbilcbbaaGreatDoor
open Go.RowKit
attribute [local go_sem] Oper.semAt_some

set_option maxRecDepth 100000 in
set_option maxHeartbeats 2000000 in
theorem lie_any (x k : Nat) (B5 B11 : Nat) (A AR : Option Addr) (n c nR cR : Nat) (l : List UInt8) (R : List ByteArray) (hk : k < nR) (hk2 : k ≤ 300) (hR : R[k]? = some (natS (ranN x k))) (hn : n ≤ 9223372036854775807) (w : World)
    (k5 : Blk w B5 22 #[.slice A n c]) (hl : BDg w A n c l) (k11 : Blk w B11 28 #[.slice AR nR cR]) (hr : NDg w AR nR cR R) :
    Calls Tryz.prog 21 #[.int .i64 (k : Int), .pointer (some ⟨B5, 0, none⟩), .pointer (some ⟨B11, 0, none⟩)] w fun e w' => e = .returned (.string (natS (ranN x k + liesN l k))) ∧ Below w.heap.size w w' := by
  obtain ⟨br, or, s, rfl, hs, hsc⟩ := hr.get hk
  obtain rfl : s = natS (ranN x k) := Option.some.inj (hs.symm.trans hR)
  have c5 : w.cell? ⟨B5, 0, none⟩ = some (.slice A n c) := k5.cell 0
  have c11 : w.cell? ⟨B11, 0, none⟩ = some (.slice (some ⟨br, or, none⟩) nR cR) := k11.cell 0
  clear hs hR
  have hrl := ranN_lt x k
  have hrs := natS_lt_mod hrl
  by_cases h0 : n = 0
  · subst h0
    have hl0 : l = [] := List.eq_nil_of_length_eq_zero hl.len
    have hL : natS (ranN x k + liesN l k) = natS (ranN x k) := by rw [hl0]; rfl
    rw [hL]
    generalize natS (ranN x k) = r at *
    go_enter Tryz.func21, Tryz.ntmps21
    go_upto_region 1 with fail
    go_quiet (fail)
    have c11' : (w.drewN nq).cell? ⟨B11, 0, none⟩ = some (.slice (some ⟨br, or, none⟩) nR cR) := c11
    have hsc' : (w.drewN nq).cell? ⟨br, or + k, none⟩ = some (.string r) := hsc
    go_wp2_with fail
    go_ret
    exact ⟨rfl, below_drewN (Below.refl _ _) _⟩
  · obtain ⟨j, hj, hjn⟩ : ∃ j : Nat, (k : Int).tmod (n : Int) = (j : Int) ∧ j = k % n := ⟨k % n, by rw [Int.tmod_eq_emod_of_nonneg (by omega)]; omega, rfl⟩
    have hjl : j < n := by rw [hjn]; exact Nat.mod_lt _ (by omega)
    obtain ⟨b, o, rfl, hc⟩ := hl.at_ (by omega)
    have hln := hl.len
    have hb : l[j]? = some l[j] := List.getElem?_eq_getElem (by omega)
    have hbc := hc j l[j] hb
    have hlies : liesN l k = if l[j].toNat % 3 = 0 then 0 else l[j].toNat := by unfold liesN; rw [show k % l.length = j by rw [hln, hjn], hb]
    have hv := UInt8.toNat_lt l[j]
    generalize l[j].toNat = v at hbc hlies hv
    have hn0 : ((n : Int) == 0) = false := by rw [beq_eq_false_iff_ne]; omega
    clear hc hjn hb
    obtain ⟨u, hu⟩ : ∃ u : Nat, (v : Int).tmod 3 = (u : Int) ∧ u = v % 3 := ⟨v % 3, by rw [Int.tmod_eq_emod_of_nonneg (by omega)]; omega, rfl⟩
    have hwj : IntKind.i64.wrap (j : Int) = (j : Int) := IntWalk.i64_in _ (by omega)
    have hwv : IntKind.i64.wrap (v : Int) = (v : Int) := IntWalk.i64_in _ (by omega)
    by_cases h3 : v % 3 = 0
    · have hL : natS (ranN x k + liesN l k) = natS (ranN x k) := by rw [hlies, if_pos h3]; rfl
      rw [hL]
      have hu1 : (v : Int).tmod 3 = 0 := by rw [hu.1]; omega
      clear hL hlies hu
      generalize natS (ranN x k) = r at *
      go_enter Tryz.func21, Tryz.ntmps21
      go_upto_region 1 with fail
      go_quiet (fail)
      have c11' : (w.drewN nq).cell? ⟨B11, 0, none⟩ = some (.slice (some ⟨br, or, none⟩) nR cR) := c11
      have hsc' : (w.drewN nq).cell? ⟨br, or + k, none⟩ = some (.string r) := hsc
      go_wp2_with fail
      go_ret
      exact ⟨rfl, below_drewN (Below.refl _ _) _⟩
    · have m1 := Lib.hid (of_nat v (by omega))
      have m2 := Lib.hid ((rAdd_q (natS (ranN x k)) (natS v) (by omega) (Nat.le_trans (natS_i64 (by omega)) (by omega))).of (by rw [sval_natS, sval_natS]))
      have hL : liesN l k = v := by rw [hlies, if_neg h3]
      rw [hL]
      have hu1 : ((v : Int).tmod 3 == 0) = false := by rw [hu.1, beq_eq_false_iff_ne]; omega
      clear hL hlies hu
      generalize natS (ranN x k + v) = rr at m2 ⊢
      generalize natS v = vs at m1 m2
      generalize natS (ranN x k) = r at *
      go_enter Tryz.func21, Tryz.ntmps21
      go_upto_region 1 with fail
      go_quiet (fail)
      have hB := below_drewN (Below.refl w.heap.size w) nq
      have d5 : (w.drewN nq).cell? ⟨B5, 0, none⟩ = some (.slice (some ⟨b, o, none⟩) n c) := c5
      have d11 : (w.drewN nq).cell? ⟨B11, 0, none⟩ = some (.slice (some ⟨br, or, none⟩) nR cR) := c11
      have dsc : (w.drewN nq).cell? ⟨br, or + k, none⟩ = some (.string r) := hsc
      have dbc : (w.drewN nq).cell? ⟨b, o + j, none⟩ = some (.int .u8 (v : Int)) := hbc
      generalize w.drewN nq = wq at hB d5 d11 dsc dbc ⊢
      clear c5 c11 hsc hbc k5 k11 hl hr
      go_upto_region 3 with fail
      have g1 : wq.drew.cell? ⟨B5, 0, none⟩ = some (.slice (some ⟨b, o, none⟩) n c) := d5
      have g2 : wq.drew.cell? ⟨B11, 0, none⟩ = some (.slice (some ⟨br, or, none⟩) nR cR) := d11
      have g3 : wq.drew.cell? ⟨br, or + k, none⟩ = some (.string r) := dsc
      have g4 : wq.drew.cell? ⟨b, o + j, none⟩ = some (.int .u8 (v : Int)) := dbc
      have hBd := hB.drew
      refine region_here (fun Z => Z.cell? ⟨B5, 0, none⟩ = some (.slice (some ⟨b, o, none⟩) n c) ∧ Z.cell? ⟨B11, 0, none⟩ = some (.slice (some ⟨br, or, none⟩) nR cR) ∧ Z.cell? ⟨br, or + k, none⟩ = some (.string r) ∧ Z.cell? ⟨b, o + j, none⟩ = some (.int .u8 (v : Int))) 13 (by kernel_rfl) ⟨g1, g2, g3, g4⟩ (fun hHeld => ?_)
      refine wpAnyS_take [2, 3, 13, 14] (i := 0) (oi := ⟨_, _, _, _, _, _⟩) (v := ?_) (by simp) (by kernel_rfl) rfl (by kernel_rfl) (by kernel_rfl) (by kernel_rfl) (fun _ _ _ h => h) (Or.inl ⟨by rfl, ?_⟩) (by assumption) ?_
      rotate_left
      · (intro w hSw; (try dsimp only at hSw); go_simp; try with_reducible rfl)
      try simp only [Act.put, List.setIfInBounds_toArray, List.set_cons_zero, List.set_cons_succ]
      refine wpAnyS_take [2, 3, 13, 14] (i := 1) (oi := ⟨_, _, _, _, _, _⟩) (v := ?_) (by simp) (by kernel_rfl) rfl (by kernel_rfl) (by kernel_rfl) (by kernel_rfl) (fun _ _ _ h => h) (Or.inl ⟨by rfl, ?_⟩) (by assumption) ?_
      rotate_left
      · (intro w hSw; (try dsimp only at hSw); go_simp; try with_reducible rfl)
      try simp only [Act.put, List.setIfInBounds_toArray, List.set_cons_zero, List.set_cons_succ]
      refine wpAnyS_take [3, 13, 14] (i := 2) (oi := ⟨_, _, _, _, _, _⟩) (v := ?_) (by simp) (by kernel_rfl) rfl (by kernel_rfl) (by kernel_rfl) (by kernel_rfl) (fun _ _ _ h => h) (Or.inl ⟨by rfl, ?_⟩) (by assumption) ?_
      rotate_left
      · (intro w hSw; (try dsimp only at hSw); go_simp; try with_reducible rfl)
      try simp only [Act.put, List.setIfInBounds_toArray, List.set_cons_zero, List.set_cons_succ]
      refine wpAnyS_take [13, 14] (i := 3) (oi := ⟨_, _, _, _, _, _⟩) (v := ?_) (by simp) (by kernel_rfl) rfl (by kernel_rfl) (by kernel_rfl) (by kernel_rfl) (fun _ _ _ h => h) (Or.inl ⟨by rfl, ?_⟩) (by assumption) ?_
      rotate_left
      · (intro w hSw; (try dsimp only at hSw); go_simp; try with_reducible rfl)
      try simp only [Act.put, List.setIfInBounds_toArray, List.set_cons_zero, List.set_cons_succ]
      refine wpAnyS_take [9, 10, 11, 12, 13, 14] (i := 4) (oi := ⟨_, _, _, _, _, _⟩) (v := ?_) (by simp) (by kernel_rfl) rfl (by kernel_rfl) (by kernel_rfl) (by kernel_rfl) (fun _ _ _ h => h) (Or.inl ⟨by rfl, ?_⟩) (by assumption) ?_
      rotate_left
      · (intro w hSw; (try dsimp only at hSw); go_simp; try with_reducible rfl)
      try simp only [Act.put, List.setIfInBounds_toArray, List.set_cons_zero, List.set_cons_succ]
      refine wpAnyS_take [8, 9, 10, 11, 12, 13, 14] (i := 5) (oi := ⟨_, _, _, _, _, _⟩) (v := ?_) (by simp) (by kernel_rfl) rfl (by kernel_rfl) (by kernel_rfl) (by kernel_rfl) (fun _ _ _ h => h) (Or.inl ⟨by rfl, ?_⟩) (by assumption) ?_
      rotate_left
      · (intro w hSw; (try dsimp only at hSw); go_simp; try with_reducible rfl)
      try simp only [Act.put, List.setIfInBounds_toArray, List.set_cons_zero, List.set_cons_succ]
      refine wpAnyS_take [7, 8, 9, 10, 11, 12, 13, 14] (i := 6) (oi := ⟨_, _, _, _, _, _⟩) (v := ?_) (by simp) (by kernel_rfl) rfl (by kernel_rfl) (by kernel_rfl) (by kernel_rfl) (fun _ _ _ h => h) (Or.inl ⟨by rfl, ?_⟩) (by assumption) ?_
      rotate_left
      · (intro w hSw; (try dsimp only at hSw); go_simp; try with_reducible rfl)
      try simp only [Act.put, List.setIfInBounds_toArray, List.set_cons_zero, List.set_cons_succ]
      refine wpAnyS_take [8, 9, 10, 11, 12, 13, 14] (i := 7) (oi := ⟨_, _, _, _, _, _⟩) (v := ?_) (by simp) (by kernel_rfl) rfl (by kernel_rfl) (by kernel_rfl) (by kernel_rfl) (fun _ _ _ h => h) (Or.inl ⟨by rfl, ?_⟩) (by assumption) ?_
      rotate_left
      · (intro w hSw; (try dsimp only at hSw); go_simp; try with_reducible rfl)
      try simp only [Act.put, List.setIfInBounds_toArray, List.set_cons_zero, List.set_cons_succ]
      refine wpAnyS_take [9, 10, 11, 12, 13, 14] (i := 8) (oi := ⟨_, _, _, _, _, _⟩) (v := ?_) (by simp) (by kernel_rfl) rfl (by kernel_rfl) (by kernel_rfl) (by kernel_rfl) (fun _ _ _ h => h) (Or.inl ⟨by rfl, ?_⟩) (by assumption) ?_
      rotate_left
      · (intro w hSw; (try dsimp only at hSw); go_simp; try with_reducible rfl)
      try simp only [Act.put, List.setIfInBounds_toArray, List.set_cons_zero, List.set_cons_succ]
      refine wpAnyS_take [10, 11, 12, 13, 14] (i := 9) (oi := ⟨_, _, _, _, _, _⟩) (v := ?_) (by simp) (by kernel_rfl) rfl (by kernel_rfl) (by kernel_rfl) (by kernel_rfl) (fun _ _ _ h => h) (Or.inl ⟨by rfl, ?_⟩) (by assumption) ?_
      rotate_left
      · (intro w hSw; (try dsimp only at hSw); go_simp; try with_reducible rfl)
      try simp only [Act.put, List.setIfInBounds_toArray, List.set_cons_zero, List.set_cons_succ]
      refine wpAnyS_take [11, 12, 13, 14] (i := 10) (oi := ⟨_, _, _, _, _, _⟩) (v := ?_) (by simp) (by kernel_rfl) rfl (by kernel_rfl) (by kernel_rfl) (by kernel_rfl) (fun _ _ _ h => h) (Or.inl ⟨by rfl, ?_⟩) (by assumption) ?_
      rotate_left
      · (intro w hSw; (try dsimp only at hSw); go_simp; try with_reducible rfl)
      try simp only [Act.put, List.setIfInBounds_toArray, List.set_cons_zero, List.set_cons_succ]
      refine wpAnyS_take [12, 13, 14] (i := 11) (oi := ⟨_, _, _, _, _, _⟩) (v := ?_) (by simp) (by kernel_rfl) rfl (by kernel_rfl) (by kernel_rfl) (by kernel_rfl) (fun _ _ _ h => h) (Or.inl ⟨by rfl, ?_⟩) (by assumption) ?_
      rotate_left
      · (intro w hSw; (try dsimp only at hSw); go_simp; try with_reducible rfl)
      try simp only [Act.put, List.setIfInBounds_toArray, List.set_cons_zero, List.set_cons_succ]
      refine wpAnyS_one (i := 12) (oi := ⟨_, _, _, _, _, _⟩) rfl (by kernel_rfl) (fun K hK => ?_)
      go_simp
      go_at_call 23
      refine (m1.out _).mono ?_
      rintro e wa ⟨rfl, hba⟩
      (try go_wp2_with fail)
      refine hK.out _ _ ?_ (fun hHeld12 => ?_)
      · exact ⟨cell_b hba g1, cell_b hba g2, cell_b hba g3, cell_b hba g4⟩
      clear hK K
      try simp only [Act.put, List.setIfInBounds_toArray, List.set_cons_zero, List.set_cons_succ]
      refine wpAnyS_call (k := 13) (ok := ⟨_, _, _, _, _, _⟩) rfl (by kernel_rfl) (by kernel_rfl) (fun K hK => ?_)
      go_simp
      go_at_call 22
      refine (m2.out _).mono ?_
      rintro e wb ⟨rfl, hbb⟩
      (try go_wp2_with fail)
      refine hK.out _ _ ?_
      clear hK K
      try simp only [Act.put, List.setIfInBounds_toArray, List.set_cons_zero, List.set_cons_succ]
      refine wpAny_take (i := 14) (oi := ⟨_, _, _, _, _, _⟩) (v := ?_) rfl (by kernel_rfl) (by kernel_rfl) (by kernel_rfl) (fun _ _ _ h => h) (Or.inl ⟨by rfl, ?_⟩) ?_
      rotate_left
      · (intro w; go_simp; try with_reducible rfl)
      try simp only [Act.put, List.setIfInBounds_toArray, List.set_cons_zero, List.set_cons_succ]
      refine wpAny_done (by kernel_rfl) ?_ _
      have hB2 := below_then (below_then hBd hba) hbb
      go_wp2_with fail
      go_ret
      exact ⟨rfl, hB2⟩

/-- The numbers of a run, as strings. -/
def runL (x m : Nat) : List ByteArray := (List.range m).map fun k => natS (ranN x k)
theorem runL_len (x m : Nat) : (runL x m).length = m := by simp [runL]
theorem runL_get {x m k : Nat} (h : k < m) : (runL x m)[k]? = some (natS (ranN x k)) := by simp [runL, h]
theorem runL_succ (x m : Nat) : runL x (m + 1) = runL x m ++ [natS (ranN x m)] := by simp [runL, List.range_succ]
theorem runL_one (x : Nat) : runL x 1 = [natS (ranN x 0)] := by simp [runL]
theorem run_q (x k : Nat) : Ret 20 #[.string (natS (ranN x k))] (.string (natS (ranN x (k + 1)))) := (rSquare_q _ (Nat.le_trans (ran_size x k) (by omega))).of (by rw [ran_step])
/-- A dispute's cells. -/
def dispA (l h : Int) (f a b : ByteArray) : Array Value := #[.int .i64 l, .int .i64 h, .string f, .string a, .string b]

set_option maxRecDepth 100000 in
set_option maxHeartbeats 4000000 in
theorem DelayConvicts_any (A : Option Addr) (n c : Nat) (l : List UInt8) (t : Nat) (AL : Option Addr) (nL cL : Nat) (lies : List UInt8) (w : World) (hT : Tabs w) (hx : BDg w A n c l) (hy : BDg w AL nL cL lies) (hn : n ≤ 9223372036854775807) (ht : t ≤ 65535) (hnL : nL ≤ 9223372036854775807) :
    Calls Tryz.prog 3 #[.slice A n c, .int .u16 (t : Int), .slice AL nL cL] w fun e w' => e = .returned (.bool true) ∧ Below w.heap.size w w' := by
  have HT := Lib.hid hT
  have HX := Lib.hid hx
  have HY := Lib.hid hy
  clear hT hx hy
  have ms := Lib.hid sanity10
  have m1 := Lib.hid (fun W h => rMade A n c l W h hn)
  have hsz := madeS_size l
  generalize madeS l = x0 at m1 hsz
  have m2 := Lib.hid (rRest_q x0 (by omega))
  obtain ⟨x, hx⟩ : ∃ x, x = sval x0 := ⟨_, rfl⟩
  have hx0 : natS (sval x0 % modN) = natS (ranN x 0) := by rw [hx]; rfl
  rw [hx0] at m2
  clear hx hx0
  obtain ⟨N, hN, hN1, hN2⟩ : ∃ N : Nat, (1 : Int) + (t : Int) % 300 = (N : Int) ∧ 1 ≤ N ∧ N ≤ 300 := ⟨1 + t % 300, by omega, by omega, by omega⟩
  obtain ⟨first, hfirst⟩ : ∃ b : Bool, ((t : Int) / 512 % 2 == 0) = b := ⟨_, rfl⟩
  have ms3 := Lib.hid (run_q x)
  go_enter Tryz.func3, Tryz.ntmps3
  have hB : Below w.heap.size w w := Below.refl _ _
  go_upto_region 1 with fail
  refine name1p ?_
  intro w0 k5 hb0
  replace hB := below_then hB hb0
  clear hb0
  go_upto_region 6 with (first
    | (go_at_call 17; (with_reducible refine (ms.out _ ?_).mono ?_); (exact HT.out.below hB); rintro e wz ⟨rfl, hb⟩; replace hB := below_then hB hb; replace k5 := k5.below hb k5.lt; clear hb)
    | (go_at_call 19; (with_reducible refine (m1.out _ ?_).mono ?_); (exact HX.out.below hB); rintro e wz ⟨rfl, rfl⟩)
    | (go_at_call 18; (with_reducible refine (m2.out _).mono ?_); rintro e wz ⟨rfl, hb⟩; replace hB := below_then hB hb; replace k5 := k5.below hb k5.lt; clear hb))
  rw [show (#[.string (natS (ranN x 0))] : Array Value) = (encT (natS (ranN x 0))).toArray from rfl]
  refine name2p ?_
  intro w1 kr k11 hb1
  have hz := hB.size
  replace k5 := k5.below hb1 k5.lt
  replace hB := below_then hB hb1
  have ho : OwnT w.heap.size w1 (.slice (some ⟨wz.heap.size, 0, none⟩) 1 1) (runL x 1) := by rw [runL_one]; exact OwnT.one kr hz
  clear hb1 kr
  obtain ⟨B11, hB11⟩ : ∃ B, B = wz.heap.size + 1 := ⟨_, rfl⟩
  rw [← hB11] at k11 ⊢
  have h11 : w.heap.size < B11 := by omega
  clear hB11
  have h5 := k5.lt
  obtain ⟨B5, hB5⟩ : ∃ B, B = w.heap.size := ⟨_, rfl⟩
  rw [← hB5] at k5 ⊢
  have h511 : B5 < B11 := by omega
  clear hB5 h5
  go_wp2_with fail
  go_loopw [12, 36] (fun _ s36 wr => ∃ (i : Nat) (v : Value), i ≤ N ∧ s36 = .int .i64 (i : Int) ∧ OwnT w.heap.size wr v (runL x (i + 1)) ∧ Blk wr B11 28 #[v] ∧ Blk wr B5 22 #[.slice AL nL cL] ∧ Below w.heap.size w wr) (fun _ s36 _ => N - (intOf s36).toNat)
  case atStart => exact ⟨0, _, Nat.zero_le _, rfl, ho, k11, k5, hB⟩
  case round =>
    obtain ⟨i, v, hi, rfl, ho, k11, k5, hB⟩ := hrel
    rcases OwnL.at_ ho encT_len with ⟨_, h⟩ | ⟨g, cc, rfl, hcc, hg1, hg2, hcell⟩
    · exact absurd (congrArg List.length h) (by rw [runL_len]; simp)
    rw [runL_len] at hcc k11
    by_cases hlt : i < N
    · have hlt' : (i : Int) < (N : Int) := by omega
      have ce : wr.cell? ⟨g, i, none⟩ = some (.string (natS (ranN x i))) := by
        have := (hcell i 0 _ _ (runL_get (show i < i + 1 by omega)) rfl).1
        rwa [Nat.mul_one, Nat.add_zero] at this
      have c11 : wr.cell? ⟨B11, 0, none⟩ = some (.slice (some ⟨g, 0, none⟩) (i + 1) cc) := k11.cell 0
      clear hcell
      go_upto_region 9 with fail
      have hod : OwnT w.heap.size wr.drew (.slice (some ⟨g, 0, none⟩) (runL x (i + 1)).length cc) (runL x (i + 1)) := ho
      have kd : Blk wr.drew B11 28 #[.slice (some ⟨g, 0, none⟩) (i + 1) cc] := k11
      have k5d : Blk wr.drew B5 22 #[.slice AL nL cL] := k5
      have hBd := hB.drew
      have g1 : wr.drew.cell? ⟨B11, 0, none⟩ = some (.slice (some ⟨g, 0, none⟩) (i + 1) cc) := c11
      have g2 : wr.drew.cell? ⟨g, i, none⟩ = some (.string (natS (ranN x i))) := ce
      clear ho k11 k5 hB c11 ce
      have hii : (i : Int) < (i : Int) + 1 := by omega
      refine region_here (fun Z => Z.cell? ⟨B11, 0, none⟩ = some (.slice (some ⟨g, 0, none⟩) (i + 1) cc) ∧ Z.cell? ⟨g, i, none⟩ = some (.string (natS (ranN x i)))) 7 (by kernel_rfl) ⟨g1, g2⟩ (fun hHeld => ?_)
      refine wpAnyS_take [7, 8] (i := 0) (oi := ⟨_, _, _, _, _, _⟩) (v := ?_) (by simp) (by kernel_rfl) rfl (by kernel_rfl) (by kernel_rfl) (by kernel_rfl) (fun _ _ _ h => h) (Or.inl ⟨by rfl, ?_⟩) (by assumption) ?_
      rotate_left
      · (intro w hSw; (try dsimp only at hSw); go_simp; try with_reducible rfl)
      try simp only [Act.put, List.setIfInBounds_toArray, List.set_cons_zero, List.set_cons_succ]
      refine wpAnyS_take [3, 4, 5, 6, 7, 8] (i := 1) (oi := ⟨_, _, _, _, _, _⟩) (v := ?_) (by simp) (by kernel_rfl) rfl (by kernel_rfl) (by kernel_rfl) (by kernel_rfl) (fun _ _ _ h => h) (Or.inl ⟨by rfl, ?_⟩) (by assumption) ?_
      rotate_left
      · (intro w hSw; (try dsimp only at hSw); go_simp; try with_reducible rfl)
      try simp only [Act.put, List.setIfInBounds_toArray, List.set_cons_zero, List.set_cons_succ]
      refine wpAnyS_take [3, 4, 5, 6, 7, 8] (i := 2) (oi := ⟨_, _, _, _, _, _⟩) (v := ?_) (by simp) (by kernel_rfl) rfl (by kernel_rfl) (by kernel_rfl) (by kernel_rfl) (fun _ _ _ h => h) (Or.inl ⟨by rfl, ?_⟩) (by assumption) ?_
      rotate_left
      · (intro w hSw; (try dsimp only at hSw); go_simp; try with_reducible rfl)
      try simp only [Act.put, List.setIfInBounds_toArray, List.set_cons_zero, List.set_cons_succ]
      refine wpAnyS_take [4, 5, 6, 7, 8] (i := 3) (oi := ⟨_, _, _, _, _, _⟩) (v := ?_) (by simp) (by kernel_rfl) rfl (by kernel_rfl) (by kernel_rfl) (by kernel_rfl) (fun _ _ _ h => h) (Or.inl ⟨by rfl, ?_⟩) (by assumption) ?_
      rotate_left
      · (intro w hSw; (try dsimp only at hSw); go_simp; try with_reducible rfl)
      try simp only [Act.put, List.setIfInBounds_toArray, List.set_cons_zero, List.set_cons_succ]
      refine wpAnyS_take [5, 6, 7, 8] (i := 4) (oi := ⟨_, _, _, _, _, _⟩) (v := ?_) (by simp) (by kernel_rfl) rfl (by kernel_rfl) (by kernel_rfl) (by kernel_rfl) (fun _ _ _ h => h) (Or.inl ⟨by rfl, ?_⟩) (by assumption) ?_
      rotate_left
      · (intro w hSw; (try dsimp only at hSw); go_simp; try with_reducible rfl)
      try simp only [Act.put, List.setIfInBounds_toArray, List.set_cons_zero, List.set_cons_succ]
      refine wpAnyS_one (i := 5) (oi := ⟨_, _, _, _, _, _⟩) rfl (by kernel_rfl) (fun K hK => ?_)
      go_simp
      go_at_call 20
      refine (ms3.out i _).mono ?_
      rintro e wa ⟨rfl, hba⟩
      (try go_wp2_with fail)
      refine hK.out _ _ ?_ (fun hHeld5 => ?_)
      · exact ⟨cell_b hba hHeld.1, cell_b hba hHeld.2⟩
      clear hK K
      try simp only [Act.put, List.setIfInBounds_toArray, List.set_cons_zero, List.set_cons_succ]
      refine wpAnyS_one (i := 6) (oi := ⟨_, _, _, _, _, _⟩) rfl (by kernel_rfl) (fun K hK => ?_)
      go_simp
      have hba2 := below_al (Below.refl wa.heap.size wa) (.cells #[.string (natS (ranN x (i + 1)))] 25)
      have hoA := (hod.below hba).below hba2
      refine hK.out _ _ ?_ (fun hHeld6 => ?_)
      · exact ⟨cell_b hba2 hHeld5.1, cell_b hba2 hHeld5.2⟩
      clear hK K
      try simp only [Act.put, List.setIfInBounds_toArray, List.set_cons_zero, List.set_cons_succ]
      refine wpAnyS_call (k := 7) (ok := ⟨_, _, _, _, _, _⟩) rfl (by kernel_rfl) (by kernel_rfl) (fun K hK => ?_)
      rw [runL_len] at hoA
      refine step_append_rows (enc := encT) (B := w.heap.size) (l := runL x (i + 1)) (ds := [natS (ranN x (i + 1))]) (A := some ⟨wa.heap.size, 0, none⟩) (n := 1) (c := 1) Tryz.underlying28 nat_info rfl (by decide) (by decide) rfl (.tmp 39) (.tmp 45) rfl encT_len encT_one rfl hoA rfl (row_new (Blk.new wa 25 #[.string (natS (ranN x (i + 1)))])) (by rw [runL_len]; omega) (by decide) (below_then (below_then hBd hba) hba2).size ?_
      intro v' w' ho' hg'
      rw [← runL_succ] at ho'
      obtain ⟨A', c', rfl, -⟩ := OwnT.ndg ho'
      have k11' := ((kd.below hba kd.lt).below hba2 (kd.below hba kd.lt).lt).grown hg' (own_ty hoA ((kd.below hba kd.lt).below hba2 (kd.below hba kd.lt).lt) (by decide))
      have c11' := k11'.cell 0
      have f11' := k11'.frozen 0
      refine hK.out _ _ ?_
      clear hK K
      try simp only [Act.put, List.setIfInBounds_toArray, List.set_cons_zero, List.set_cons_succ]
      refine wpAny_ready (rs := [8]) (by kernel_rfl) (by simp) ?_
      refine AllReady.cons (o := ⟨_, _, _, _, _, _⟩) rfl (fun K hK => ?_) AllReady.nil
      go_simp
      refine hK _ _ ?_
      clear hK K
      try simp only [Act.put]
      refine wpAny_done (by kernel_rfl) ?_ _
      have hB2 := (below_then (below_then hBd hba) hba2).grown hg' (below_then (below_then hBd hba) hba2).size (fun k e => own_high hoA k e)
      have k11'' := k11'.set_ 0 (.slice A' (runL x (i + 1 + 1)).length c')
      go_wp2_with fail
      go_roundw
      case rel =>
        refine ⟨i + 1, _, hlt, by go_num, ?_, k11'', ?_, ?_⟩
        · exact OwnL.kept ho' (grown_set (grown_refl _ _) 0 _) (.inr (Ne.symm (own_ty ho' k11' (by decide))))
        · exact kept_set (((k5d.below hba k5d.lt).below hba2 (k5d.below hba k5d.lt).lt).grown hg' (own_ty hoA ((k5d.below hba k5d.lt).below hba2 (k5d.below hba k5d.lt).lt) (by decide))) (by omega) 0 _
        · exact below_set hB2 (p := ⟨B11, 0, none⟩) (by show w.heap.size ≤ B11; omega) _
      case measure => simp [intOf]; omega
    · obtain rfl : i = N := by omega
      have hh : ¬ ((i : Int) < (i : Int)) := by omega
      have ce : ∀ k, k ≤ i → wr.cell? ⟨g, k, none⟩ = some (.string (natS (ranN x k))) := fun k hk => by
        have := (hcell k 0 _ _ (runL_get (show k < i + 1 by omega)) rfl).1
        rwa [Nat.mul_one, Nat.add_zero] at this
      have CE := Lib.hid ce
      clear hcell ce hN hh
      go_upto_region 12 with fail
      have q1 : Hid (Ret 23 #[.int .i64 1] (.string (natS 1))) := Lib.hid (of_nat 1 (by omega))
      have hrl := ranN_lt x i
      have q2 := Lib.hid ((rAdd_q (natS (ranN x i)) (natS 1) (Nat.le_trans (natS_lt_mod hrl) (by omega)) (Nat.le_trans (natS_i64 (by omega)) (by omega))).of (by rw [sval_natS, sval_natS]))
      go_cut [14] (fun s14 wx => ∃ B14, s14 = .pointer (some ⟨B14, 0, none⟩) ∧ Blk wx B14 32 (dispA 0 (i : Int) (natS (ranN x 0)) (natS (ranN x i)) (natS (ranN x i + 1))) ∧ w.heap.size ≤ B14 ∧ OwnT w.heap.size wx (.slice (some ⟨g, 0, none⟩) (runL x (i + 1)).length cc) (runL x (i + 1)) ∧ Blk wx B11 28 #[.slice (some ⟨g, 0, none⟩) (i + 1) cc] ∧ Blk wx B5 22 #[.slice AL nL cL] ∧ Below w.heap.size w wx)
      case first =>
        have hod : OwnT w.heap.size wr.drew (.slice (some ⟨g, 0, none⟩) (runL x (i + 1)).length cc) (runL x (i + 1)) := ho
        have kd : Blk wr.drew B11 28 #[.slice (some ⟨g, 0, none⟩) (i + 1) cc] := k11
        have k5d : Blk wr.drew B5 22 #[.slice AL nL cL] := k5
        have hBd := hB.drew
        have g1 : wr.drew.cell? ⟨B11, 0, none⟩ = some (.slice (some ⟨g, 0, none⟩) (i + 1) cc) := k11.cell 0
        have g2 : wr.drew.cell? ⟨g, i, none⟩ = some (.string (natS (ranN x i))) := CE.out i (Nat.le_refl _)
        clear ho k11 k5 hB
        have hii : (i : Int) < (i : Int) + 1 := by omega
        refine region_here (fun Z => Z.cell? ⟨B11, 0, none⟩ = some (.slice (some ⟨g, 0, none⟩) (i + 1) cc) ∧ Z.cell? ⟨g, i, none⟩ = some (.string (natS (ranN x i)))) 14 (by kernel_rfl) ⟨g1, g2⟩ (fun hHeld => ?_)
        refine wpAnyS_take [12, 14] (i := 0) (oi := ⟨_, _, _, _, _, _⟩) (v := ?_) (by simp) (by kernel_rfl) rfl (by kernel_rfl) (by kernel_rfl) (by kernel_rfl) (fun _ _ _ h => h) (Or.inl ⟨by rfl, ?_⟩) (by assumption) ?_
        rotate_left
        · (intro w hSw; (try dsimp only at hSw); go_simp; try with_reducible rfl)
        try simp only [Act.put, List.setIfInBounds_toArray, List.set_cons_zero, List.set_cons_succ]
        refine wpAnyS_take [12, 14] (i := 1) (oi := ⟨_, _, _, _, _, _⟩) (v := ?_) (by simp) (by kernel_rfl) rfl (by kernel_rfl) (by kernel_rfl) (by kernel_rfl) (fun _ _ _ h => h) (Or.inl ⟨by rfl, ?_⟩) (by assumption) ?_
        rotate_left
        · (intro w hSw; (try dsimp only at hSw); go_simp; try with_reducible rfl)
        try simp only [Act.put, List.setIfInBounds_toArray, List.set_cons_zero, List.set_cons_succ]
        refine wpAnyS_take [4, 5, 12, 14] (i := 2) (oi := ⟨_, _, _, _, _, _⟩) (v := ?_) (by simp) (by kernel_rfl) rfl (by kernel_rfl) (by kernel_rfl) (by kernel_rfl) (fun _ _ _ h => h) (Or.inl ⟨by rfl, ?_⟩) (by assumption) ?_
        rotate_left
        · (intro w hSw; (try dsimp only at hSw); go_simp; try with_reducible rfl)
        try simp only [Act.put, List.setIfInBounds_toArray, List.set_cons_zero, List.set_cons_succ]
        refine wpAnyS_take [4, 5, 12, 14] (i := 3) (oi := ⟨_, _, _, _, _, _⟩) (v := ?_) (by simp) (by kernel_rfl) rfl (by kernel_rfl) (by kernel_rfl) (by kernel_rfl) (fun _ _ _ h => h) (Or.inl ⟨by rfl, ?_⟩) (by assumption) ?_
        rotate_left
        · (intro w hSw; (try dsimp only at hSw); go_simp; try with_reducible rfl)
        try simp only [Act.put, List.setIfInBounds_toArray, List.set_cons_zero, List.set_cons_succ]
        refine wpAnyS_take [5, 12, 14] (i := 4) (oi := ⟨_, _, _, _, _, _⟩) (v := ?_) (by simp) (by kernel_rfl) rfl (by kernel_rfl) (by kernel_rfl) (by kernel_rfl) (fun _ _ _ h => h) (Or.inl ⟨by rfl, ?_⟩) (by assumption) ?_
        rotate_left
        · (intro w hSw; (try dsimp only at hSw); go_simp; try with_reducible rfl)
        try simp only [Act.put, List.setIfInBounds_toArray, List.set_cons_zero, List.set_cons_succ]
        refine wpAnyS_take [12, 14] (i := 5) (oi := ⟨_, _, _, _, _, _⟩) (v := ?_) (by simp) (by kernel_rfl) rfl (by kernel_rfl) (by kernel_rfl) (by kernel_rfl) (fun _ _ _ h => h) (Or.inl ⟨by rfl, ?_⟩) (by assumption) ?_
        rotate_left
        · (intro w hSw; (try dsimp only at hSw); go_simp; try with_reducible rfl)
        try simp only [Act.put, List.setIfInBounds_toArray, List.set_cons_zero, List.set_cons_succ]
        refine wpAnyS_take [8, 9, 11, 12, 14] (i := 6) (oi := ⟨_, _, _, _, _, _⟩) (v := ?_) (by simp) (by kernel_rfl) rfl (by kernel_rfl) (by kernel_rfl) (by kernel_rfl) (fun _ _ _ h => h) (Or.inl ⟨by rfl, ?_⟩) (by assumption) ?_
        rotate_left
        · (intro w hSw; (try dsimp only at hSw); go_simp; try with_reducible rfl)
        try simp only [Act.put, List.setIfInBounds_toArray, List.set_cons_zero, List.set_cons_succ]
        refine wpAnyS_take [8, 9, 11, 12, 14] (i := 7) (oi := ⟨_, _, _, _, _, _⟩) (v := ?_) (by simp) (by kernel_rfl) rfl (by kernel_rfl) (by kernel_rfl) (by kernel_rfl) (fun _ _ _ h => h) (Or.inl ⟨by rfl, ?_⟩) (by assumption) ?_
        rotate_left
        · (intro w hSw; (try dsimp only at hSw); go_simp; try with_reducible rfl)
        try simp only [Act.put, List.setIfInBounds_toArray, List.set_cons_zero, List.set_cons_succ]
        refine wpAnyS_take [9, 11, 12, 14] (i := 8) (oi := ⟨_, _, _, _, _, _⟩) (v := ?_) (by simp) (by kernel_rfl) rfl (by kernel_rfl) (by kernel_rfl) (by kernel_rfl) (fun _ _ _ h => h) (Or.inl ⟨by rfl, ?_⟩) (by assumption) ?_
        rotate_left
        · (intro w hSw; (try dsimp only at hSw); go_simp; try with_reducible rfl)
        try simp only [Act.put, List.setIfInBounds_toArray, List.set_cons_zero, List.set_cons_succ]
        refine wpAnyS_take [11, 12, 14] (i := 9) (oi := ⟨_, _, _, _, _, _⟩) (v := ?_) (by simp) (by kernel_rfl) rfl (by kernel_rfl) (by kernel_rfl) (by kernel_rfl) (fun _ _ _ h => h) (Or.inl ⟨by rfl, ?_⟩) (by assumption) ?_
        rotate_left
        · (intro w hSw; (try dsimp only at hSw); go_simp; try with_reducible rfl)
        try simp only [Act.put, List.setIfInBounds_toArray, List.set_cons_zero, List.set_cons_succ]
        refine wpAnyS_two (i := 10) (j := 13) (oi := ⟨_, _, _, _, _, _⟩) (oj := ⟨_, _, _, _, _, _⟩) rfl rfl (by kernel_rfl) (fun K hK => ?_) (fun K hK => ?_)
        · skip
          go_simp
          go_at_call 23
          refine (q1.out _).mono ?_
          rintro e wa ⟨rfl, hba⟩
          (try go_wp2_with fail)
          refine hK.out _ _ ?_ (fun hHeld10 => ?_)
          · exact ⟨cell_b hba hHeld.1, cell_b hba hHeld.2⟩
          clear hK K
          try simp only [Act.put, List.setIfInBounds_toArray, List.set_cons_zero, List.set_cons_succ]
          refine wpAnyS_two (i := 11) (j := 13) (oi := ⟨_, _, _, _, _, _⟩) (oj := ⟨_, _, _, _, _, _⟩) rfl rfl (by kernel_rfl) (fun K hK => ?_) (fun K hK => ?_)
          · skip
            go_simp
            go_at_call 22
            refine (q2.out _).mono ?_
            rintro e wb ⟨rfl, hbb⟩
            (try go_wp2_with fail)
            refine hK.out _ _ ?_ (fun hHeld11 => ?_)
            · exact ⟨cell_b hbb hHeld10.1, cell_b hbb hHeld10.2⟩
            clear hK K
            try simp only [Act.put, List.setIfInBounds_toArray, List.set_cons_zero, List.set_cons_succ]
            refine wpAnyS_take [14] (i := 12) (oi := ⟨_, _, _, _, _, _⟩) (v := ?_) (by simp) (by kernel_rfl) rfl (by kernel_rfl) (by kernel_rfl) (by kernel_rfl) (fun _ _ _ h => h) (Or.inl ⟨by rfl, ?_⟩) (by assumption) ?_
            rotate_left
            · (intro w hSw; (try dsimp only at hSw); go_simp; try with_reducible rfl)
            try simp only [Act.put, List.setIfInBounds_toArray, List.set_cons_zero, List.set_cons_succ]
            refine wpAnyS_one (i := 13) (oi := ⟨_, _, _, _, _, _⟩) rfl (by kernel_rfl) (fun K hK => ?_)
            go_simp
            first | (refine alloc_name (W := wr.drew) ?_; intro wc k15 hbc; have k14 : Blk wc wr.heap.size 32 #[.int .i64 0, .int .i64 0, .string ⟨#[]⟩, .string ⟨#[]⟩, .string ⟨#[]⟩] := k15; clear k15) | (refine alloc_name ?_; intro wc k14 hbc)
            refine hK.out _ _ ?_ (fun hHeld13 => ?_)
            · exact ⟨cell_b hbc hHeld11.1, cell_b hbc hHeld11.2⟩
            clear hK K
            try simp only [Act.put, List.setIfInBounds_toArray, List.set_cons_zero, List.set_cons_succ]
            refine wpAnyS_call (k := 14) (ok := ⟨_, _, _, _, _, _⟩) rfl (by kernel_rfl) (by kernel_rfl) (fun K hK => ?_)
            first | (have k14' := (k14.below hba k14.lt).below hbb (k14.below hba k14.lt).lt; have BF := below_then (below_then hbc hba) hbb; have hge : w.heap.size ≤ wr.heap.size := hBd.size) | (have k14' := k14.below hbb k14.lt; have BF := below_then (below_then hba hbc) hbb; have hge := (below_then hBd hba).size) | (have k14' := k14; have BF := below_then (below_then hba hbb) hbc; have hge := (below_then (below_then hBd hba) hbb).size)
            have e0 := k14'.cell 0
            have e1 := k14'.cell 1
            have e2 := k14'.cell 2
            have e3 := k14'.cell 3
            have e4 := k14'.cell 4
            have f0 := k14'.frozen 0
            have f1 := k14'.frozen 1
            have f2 := k14'.frozen 2
            have f3 := k14'.frozen 3
            have f4 := k14'.frozen 4
            go_simp
            refine hK.out _ _ ?_
            clear hK K
            try simp only [Act.put]
            refine wpAny_done (by kernel_rfl) ?_ _
            obtain ⟨ks, hg⟩ := disp_store k14' (.int .i64 0) (.int .i64 (i : Int)) (.string (natS (ranN x 0))) (.string (natS (ranN x i))) (.string (natS (ranN x i + 1)))
            have ho2 := hod.below BF
            have kd2 := kd.below BF kd.lt
            have k52 := k5d.below BF k5d.lt
            have n11 := blk_ty kd2 k14' (by decide)
            have n5 := blk_ty k52 k14' (by decide)
            go_wp2_with fail
            go_meet
            exact ⟨_, rfl, ks, hge, OwnL.kept ho2 hg (.inr (Ne.symm (own_ty ho2 k14' (by decide)))), kd2.grown hg (fun e => n11 (Option.some.inj e)), k52.grown hg (fun e => n5 (Option.some.inj e)), (below_then hBd BF).grown hg (below_then hBd BF).size (fun k e => by cases e; exact hge)⟩
          · skip
            go_simp
            first | (refine alloc_name (W := wr.drew) ?_; intro wc k15 hbc; have k14 : Blk wc wr.heap.size 32 #[.int .i64 0, .int .i64 0, .string ⟨#[]⟩, .string ⟨#[]⟩, .string ⟨#[]⟩] := k15; clear k15) | (refine alloc_name ?_; intro wc k14 hbc)
            refine hK.out _ _ ?_ (fun hHeld13 => ?_)
            · exact ⟨cell_b hbc hHeld10.1, cell_b hbc hHeld10.2⟩
            clear hK K
            try simp only [Act.put, List.setIfInBounds_toArray, List.set_cons_zero, List.set_cons_succ]
            refine wpAnyS_one (i := 11) (oi := ⟨_, _, _, _, _, _⟩) rfl (by kernel_rfl) (fun K hK => ?_)
            go_simp
            go_at_call 22
            refine (q2.out _).mono ?_
            rintro e wb ⟨rfl, hbb⟩
            (try go_wp2_with fail)
            refine hK.out _ _ ?_ (fun hHeld11 => ?_)
            · exact ⟨cell_b hbb hHeld13.1, cell_b hbb hHeld13.2⟩
            clear hK K
            try simp only [Act.put, List.setIfInBounds_toArray, List.set_cons_zero, List.set_cons_succ]
            refine wpAnyS_take [14] (i := 12) (oi := ⟨_, _, _, _, _, _⟩) (v := ?_) (by simp) (by kernel_rfl) rfl (by kernel_rfl) (by kernel_rfl) (by kernel_rfl) (fun _ _ _ h => h) (Or.inl ⟨by rfl, ?_⟩) (by assumption) ?_
            rotate_left
            · (intro w hSw; (try dsimp only at hSw); go_simp; try with_reducible rfl)
            try simp only [Act.put, List.setIfInBounds_toArray, List.set_cons_zero, List.set_cons_succ]
            refine wpAnyS_call (k := 14) (ok := ⟨_, _, _, _, _, _⟩) rfl (by kernel_rfl) (by kernel_rfl) (fun K hK => ?_)
            first | (have k14' := (k14.below hba k14.lt).below hbb (k14.below hba k14.lt).lt; have BF := below_then (below_then hbc hba) hbb; have hge : w.heap.size ≤ wr.heap.size := hBd.size) | (have k14' := k14.below hbb k14.lt; have BF := below_then (below_then hba hbc) hbb; have hge := (below_then hBd hba).size) | (have k14' := k14; have BF := below_then (below_then hba hbb) hbc; have hge := (below_then (below_then hBd hba) hbb).size)
            have e0 := k14'.cell 0
            have e1 := k14'.cell 1
            have e2 := k14'.cell 2
            have e3 := k14'.cell 3
            have e4 := k14'.cell 4
            have f0 := k14'.frozen 0
            have f1 := k14'.frozen 1
            have f2 := k14'.frozen 2
            have f3 := k14'.frozen 3
            have f4 := k14'.frozen 4
            go_simp
            refine hK.out _ _ ?_
            clear hK K
            try simp only [Act.put]
            refine wpAny_done (by kernel_rfl) ?_ _
            obtain ⟨ks, hg⟩ := disp_store k14' (.int .i64 0) (.int .i64 (i : Int)) (.string (natS (ranN x 0))) (.string (natS (ranN x i))) (.string (natS (ranN x i + 1)))
            have ho2 := hod.below BF
            have kd2 := kd.below BF kd.lt
            have k52 := k5d.below BF k5d.lt
            have n11 := blk_ty kd2 k14' (by decide)
            have n5 := blk_ty k52 k14' (by decide)
            go_wp2_with fail
            go_meet
            exact ⟨_, rfl, ks, hge, OwnL.kept ho2 hg (.inr (Ne.symm (own_ty ho2 k14' (by decide)))), kd2.grown hg (fun e => n11 (Option.some.inj e)), k52.grown hg (fun e => n5 (Option.some.inj e)), (below_then hBd BF).grown hg (below_then hBd BF).size (fun k e => by cases e; exact hge)⟩
        · skip
          go_simp
          first | (refine alloc_name (W := wr.drew) ?_; intro wc k15 hbc; have k14 : Blk wc wr.heap.size 32 #[.int .i64 0, .int .i64 0, .string ⟨#[]⟩, .string ⟨#[]⟩, .string ⟨#[]⟩] := k15; clear k15) | (refine alloc_name ?_; intro wc k14 hbc)
          refine hK.out _ _ ?_ (fun hHeld13 => ?_)
          · exact ⟨cell_b hbc hHeld.1, cell_b hbc hHeld.2⟩
          clear hK K
          try simp only [Act.put, List.setIfInBounds_toArray, List.set_cons_zero, List.set_cons_succ]
          refine wpAnyS_one (i := 10) (oi := ⟨_, _, _, _, _, _⟩) rfl (by kernel_rfl) (fun K hK => ?_)
          go_simp
          go_at_call 23
          refine (q1.out _).mono ?_
          rintro e wa ⟨rfl, hba⟩
          (try go_wp2_with fail)
          refine hK.out _ _ ?_ (fun hHeld10 => ?_)
          · exact ⟨cell_b hba hHeld13.1, cell_b hba hHeld13.2⟩
          clear hK K
          try simp only [Act.put, List.setIfInBounds_toArray, List.set_cons_zero, List.set_cons_succ]
          refine wpAnyS_one (i := 11) (oi := ⟨_, _, _, _, _, _⟩) rfl (by kernel_rfl) (fun K hK => ?_)
          go_simp
          go_at_call 22
          refine (q2.out _).mono ?_
          rintro e wb ⟨rfl, hbb⟩
          (try go_wp2_with fail)
          refine hK.out _ _ ?_ (fun hHeld11 => ?_)
          · exact ⟨cell_b hbb hHeld10.1, cell_b hbb hHeld10.2⟩
          clear hK K
          try simp only [Act.put, List.setIfInBounds_toArray, List.set_cons_zero, List.set_cons_succ]
          refine wpAnyS_take [14] (i := 12) (oi := ⟨_, _, _, _, _, _⟩) (v := ?_) (by simp) (by kernel_rfl) rfl (by kernel_rfl) (by kernel_rfl) (by kernel_rfl) (fun _ _ _ h => h) (Or.inl ⟨by rfl, ?_⟩) (by assumption) ?_
          rotate_left
          · (intro w hSw; (try dsimp only at hSw); go_simp; try with_reducible rfl)
          try simp only [Act.put, List.setIfInBounds_toArray, List.set_cons_zero, List.set_cons_succ]
          refine wpAnyS_call (k := 14) (ok := ⟨_, _, _, _, _, _⟩) rfl (by kernel_rfl) (by kernel_rfl) (fun K hK => ?_)
          first | (have k14' := (k14.below hba k14.lt).below hbb (k14.below hba k14.lt).lt; have BF := below_then (below_then hbc hba) hbb; have hge : w.heap.size ≤ wr.heap.size := hBd.size) | (have k14' := k14.below hbb k14.lt; have BF := below_then (below_then hba hbc) hbb; have hge := (below_then hBd hba).size) | (have k14' := k14; have BF := below_then (below_then hba hbb) hbc; have hge := (below_then (below_then hBd hba) hbb).size)
          have e0 := k14'.cell 0
          have e1 := k14'.cell 1
          have e2 := k14'.cell 2
          have e3 := k14'.cell 3
          have e4 := k14'.cell 4
          have f0 := k14'.frozen 0
          have f1 := k14'.frozen 1
          have f2 := k14'.frozen 2
          have f3 := k14'.frozen 3
          have f4 := k14'.frozen 4
          go_simp
          refine hK.out _ _ ?_
          clear hK K
          try simp only [Act.put]
          refine wpAny_done (by kernel_rfl) ?_ _
          obtain ⟨ks, hg⟩ := disp_store k14' (.int .i64 0) (.int .i64 (i : Int)) (.string (natS (ranN x 0))) (.string (natS (ranN x i))) (.string (natS (ranN x i + 1)))
          have ho2 := hod.below BF
          have kd2 := kd.below BF kd.lt
          have k52 := k5d.below BF k5d.lt
          have n11 := blk_ty kd2 k14' (by decide)
          have n5 := blk_ty k52 k14' (by decide)
          go_wp2_with fail
          go_meet
          exact ⟨_, rfl, ks, hge, OwnL.kept ho2 hg (.inr (Ne.symm (own_ty ho2 k14' (by decide)))), kd2.grown hg (fun e => n11 (Option.some.inj e)), k52.grown hg (fun e => n5 (Option.some.inj e)), (below_then hBd BF).grown hg (below_then hBd BF).size (fun k e => by cases e; exact hge)⟩
      obtain ⟨B14, rfl, k14, hge, ho, k11, k5, hB⟩ := hcut
      clear q1 q2
      cases first with
      | true =>
        have e3 : wc.cell? ⟨B14, 3, none⟩ = some (.string (natS (ranN x i))) := k14.cell 3
        have e4 : wc.cell? ⟨B14, 4, none⟩ = some (.string (natS (ranN x i + 1))) := k14.cell 4
        have f3 := k14.frozen 3
        have f4 := k14.frozen 4
        have hr0 := ranN_lt x 0
        have HD0 : Hid (Disp x i 0 i (ranN x 0) (ranN x i) (ranN x i + 1) true ∧ (i - 0 - 1) * 2 ^ 0 ≤ 300) := Lib.hid ⟨by have := Disp.start x i (ranN x i + 1) true (by omega) (by omega); simpa using this, by simp; omega⟩
        go_wp2_with fail
        go_loopw [15, 16, 17, 18, 19] (fun s15 _ _ _ _ wr => ∃ r l h f a b : Nat, s15 = .int .i64 (r : Int) ∧ r ≤ 9 ∧ l < h ∧ h ≤ i ∧ Hid (Disp x i l h f a b true ∧ (h - l - 1) * 2 ^ r ≤ 300) ∧ f ≤ modN + 256 ∧ a ≤ modN + 256 ∧ b ≤ modN + 256 ∧ Blk wr B14 32 (dispA (l : Int) (h : Int) (natS f) (natS a) (natS b)) ∧ OwnT w.heap.size wr (.slice (some ⟨g, 0, none⟩) (runL x (i + 1)).length cc) (runL x (i + 1)) ∧ Blk wr B11 28 #[.slice (some ⟨g, 0, none⟩) (i + 1) cc] ∧ Blk wr B5 22 #[.slice AL nL cL] ∧ Below w.heap.size w wr) (fun s15 _ _ _ _ _ => 10 - (intOf s15).toNat)
        case atStart =>
          exact ⟨0, 0, i, ranN x 0, ranN x i, ranN x i + 1, rfl, by omega, by omega, Nat.le_refl _, HD0, by omega, by omega, by omega, k14, ho, k11, k5, hB⟩
        case round =>
          obtain ⟨r, l, h, f, a, b, rfl, hr9, hlh, hhi, HD, hf, ha, hb, k14, ho, k11, k5, hB⟩ := hrel
          have e0 : wr.cell? ⟨B14, 0, none⟩ = some (.int .i64 (l : Int)) := k14.cell 0
          have e1 : wr.cell? ⟨B14, 1, none⟩ = some (.int .i64 (h : Int)) := k14.cell 1
          have zsz : ∀ z, z ≤ modN + 256 → (natS z).size ≤ 400 := fun z hz => Nat.le_trans (natS_size (k := 17) (by have := modN_lt; rw [P8_succ]; omega)) (by omega)
          by_cases hc : l + 1 < h
          · have hc' : (l : Int) + 1 < (h : Int) := by omega
            obtain ⟨d, hd, hd1⟩ : ∃ d : Nat, (h : Int) - (l : Int) = (d : Int) ∧ d = h - l := ⟨h - l, by omega, rfl⟩
            obtain ⟨q, hq, hq1⟩ : ∃ q : Nat, (d : Int) / 2 = (q : Int) ∧ q = d / 2 := ⟨d / 2, by omega, rfl⟩
            obtain ⟨m, hm, hm1⟩ : ∃ m : Nat, (l : Int) + (q : Int) = (m : Int) ∧ m = l + q := ⟨l + q, by omega, rfl⟩
            have hlm : l < m := by omega
            have hmh : m < h := by omega
            have HM : Hid (m = l + (h - l) / 2 ∧ d = h - l) := Lib.hid ⟨by omega, hd1⟩
            have hrm := ranN_lt x m
            have hlv := lies_le lies m
            have hmi300 : m ≤ 300 ∧ m < i + 1 := by omega
            have hnd : NDg wr (some ⟨g, 0, none⟩) (i + 1) cc (runL x (i + 1)) := by
              obtain ⟨A', c', e, h⟩ := OwnT.ndg ho
              cases e
              rwa [runL_len] at h
            have q3 := Lib.hid (fun W p1 p2 p3 p4 => lie_any x m B5 B11 AL (some ⟨g, 0, none⟩) nL cL (i + 1) cc lies (runL x (i + 1)) hmi300.2 hmi300.1 (runL_get hmi300.2) hnL W p1 p2 p3 p4)
            clear hm1 hq1 hd1
            obtain ⟨LLv, hLL⟩ : ∃ v, v = ranN x m + liesN lies m := ⟨_, rfl⟩
            rw [← hLL] at q3
            have hLb : LLv ≤ modN + 256 := by omega
            have HMINE : Hid ((if true then ranN x m else LLv) = ranN x m) := Lib.hid (by simp)
            clear hLL
            go_upto_region 19 with fail
            have hBd := hB.drew
            have k14d : Blk wr.drew B14 32 (dispA (l : Int) (h : Int) (natS f) (natS a) (natS b)) := k14
            have hod : OwnT w.heap.size wr.drew (.slice (some ⟨g, 0, none⟩) (runL x (i + 1)).length cc) (runL x (i + 1)) := ho
            have k11d : Blk wr.drew B11 28 #[.slice (some ⟨g, 0, none⟩) (i + 1) cc] := k11
            have k5d : Blk wr.drew B5 22 #[.slice AL nL cL] := k5
            have hyd : BDg wr.drew AL nL cL lies := HY.out.below hBd
            have hndd : NDg wr.drew (some ⟨g, 0, none⟩) (i + 1) cc (runL x (i + 1)) := hnd.below (Below.refl _ _).drew
            have g1 : wr.drew.cell? ⟨B11, 0, none⟩ = some (.slice (some ⟨g, 0, none⟩) (i + 1) cc) := k11d.cell 0
            have g2 : wr.drew.cell? ⟨g, m, none⟩ = some (.string (natS (ranN x m))) := by
              obtain ⟨b', o', e, hcc2⟩ := hndd.at_ (by omega)
              cases e
              have := hcc2 m _ (runL_get (by omega))
              rwa [Nat.zero_add] at this
            have hmi : (m : Int) < (i : Int) + 1 := by omega
            clear hB k14 ho k11 k5 hnd e0 e1
            refine region_here (fun Z => Z.cell? ⟨B11, 0, none⟩ = some (.slice (some ⟨g, 0, none⟩) (i + 1) cc) ∧ Z.cell? ⟨g, m, none⟩ = some (.string (natS (ranN x m)))) 7 (by kernel_rfl) ⟨g1, g2⟩ (fun hHeld => ?_)
            refine wpAnyS_take [2, 3, 7, 8] (i := 0) (oi := ⟨_, _, _, _, _, _⟩) (v := ?_) (by simp) (by kernel_rfl) rfl (by kernel_rfl) (by kernel_rfl) (by kernel_rfl) (fun _ _ _ h => h) (Or.inl ⟨by rfl, ?_⟩) (by assumption) ?_
            rotate_left
            · (intro w hSw; (try dsimp only at hSw); go_simp; try with_reducible rfl)
            try simp only [Act.put, List.setIfInBounds_toArray, List.set_cons_zero, List.set_cons_succ]
            refine wpAnyS_take [2, 3, 7, 8] (i := 1) (oi := ⟨_, _, _, _, _, _⟩) (v := ?_) (by simp) (by kernel_rfl) rfl (by kernel_rfl) (by kernel_rfl) (by kernel_rfl) (fun _ _ _ h => h) (Or.inl ⟨by rfl, ?_⟩) (by assumption) ?_
            rotate_left
            · (intro w hSw; (try dsimp only at hSw); go_simp; try with_reducible rfl)
            try simp only [Act.put, List.setIfInBounds_toArray, List.set_cons_zero, List.set_cons_succ]
            refine wpAnyS_take [3, 7, 8] (i := 2) (oi := ⟨_, _, _, _, _, _⟩) (v := ?_) (by simp) (by kernel_rfl) rfl (by kernel_rfl) (by kernel_rfl) (by kernel_rfl) (fun _ _ _ h => h) (Or.inl ⟨by rfl, ?_⟩) (by assumption) ?_
            rotate_left
            · (intro w hSw; (try dsimp only at hSw); go_simp; try with_reducible rfl)
            try simp only [Act.put, List.setIfInBounds_toArray, List.set_cons_zero, List.set_cons_succ]
            refine wpAnyS_take [7, 8] (i := 3) (oi := ⟨_, _, _, _, _, _⟩) (v := ?_) (by simp) (by kernel_rfl) rfl (by kernel_rfl) (by kernel_rfl) (by kernel_rfl) (fun _ _ _ h => h) (Or.inl ⟨by rfl, ?_⟩) (by assumption) ?_
            rotate_left
            · (intro w hSw; (try dsimp only at hSw); go_simp; try with_reducible rfl)
            try simp only [Act.put, List.setIfInBounds_toArray, List.set_cons_zero, List.set_cons_succ]
            refine wpAnyS_take [6, 7, 8] (i := 4) (oi := ⟨_, _, _, _, _, _⟩) (v := ?_) (by simp) (by kernel_rfl) rfl (by kernel_rfl) (by kernel_rfl) (by kernel_rfl) (fun _ _ _ h => h) (Or.inl ⟨by rfl, ?_⟩) (by assumption) ?_
            rotate_left
            · (intro w hSw; (try dsimp only at hSw); go_simp; try with_reducible rfl)
            try simp only [Act.put, List.setIfInBounds_toArray, List.set_cons_zero, List.set_cons_succ]
            refine wpAnyS_take [6, 7, 8] (i := 5) (oi := ⟨_, _, _, _, _, _⟩) (v := ?_) (by simp) (by kernel_rfl) rfl (by kernel_rfl) (by kernel_rfl) (by kernel_rfl) (fun _ _ _ h => h) (Or.inl ⟨by rfl, ?_⟩) (by assumption) ?_
            rotate_left
            · (intro w hSw; (try dsimp only at hSw); go_simp; try with_reducible rfl)
            try simp only [Act.put, List.setIfInBounds_toArray, List.set_cons_zero, List.set_cons_succ]
            refine wpAnyS_one (i := 6) (oi := ⟨_, _, _, _, _, _⟩) rfl (by kernel_rfl) (fun K hK => ?_)
            go_simp
            go_at_call 21
            refine (q3.out _ k5d hyd k11d hndd).mono ?_
            rintro e wa ⟨rfl, hba⟩
            (try go_wp2_with fail)
            refine hK.out _ _ ?_ (fun hHeld6 => ?_)
            · exact ⟨cell_b hba hHeld.1, cell_b hba hHeld.2⟩
            clear hK K
            try simp only [Act.put, List.setIfInBounds_toArray, List.set_cons_zero, List.set_cons_succ]
            refine wpAnyS_call (k := 7) (ok := ⟨_, _, _, _, _, _⟩) rfl (by kernel_rfl) (by kernel_rfl) (fun K hK => ?_)
            go_simp
            refine hK.out _ _ ?_
            clear hK K
            try simp only [Act.put, List.setIfInBounds_toArray, List.set_cons_zero, List.set_cons_succ]
            refine wpAny_take (i := 8) (oi := ⟨_, _, _, _, _, _⟩) (v := ?_) rfl (by kernel_rfl) (by kernel_rfl) (by kernel_rfl) (fun _ _ _ h => h) (Or.inl ⟨by rfl, ?_⟩) ?_
            rotate_left
            · (intro w; go_simp; try with_reducible rfl)
            try simp only [Act.put, List.setIfInBounds_toArray, List.set_cons_zero, List.set_cons_succ]
            refine wpAny_done (by kernel_rfl) ?_ _
            have hBa := below_then hBd hba
            have k14a := k14d.below hba k14d.lt
            have hoa := hod.below hba
            have k11a := k11d.below hba k11d.lt
            have k5a := k5d.below hba k5d.lt
            have a0 : wa.cell? ⟨B14, 0, none⟩ = some (.int .i64 (l : Int)) := k14a.cell 0
            have a1 : wa.cell? ⟨B14, 1, none⟩ = some (.int .i64 (h : Int)) := k14a.cell 1
            have a2 : wa.cell? ⟨B14, 2, none⟩ = some (.string (natS f)) := k14a.cell 2
            have a3 : wa.cell? ⟨B14, 3, none⟩ = some (.string (natS a)) := k14a.cell 3
            have a4 : wa.cell? ⟨B14, 4, none⟩ = some (.string (natS b)) := k14a.cell 4
            clear hBd k14d hod k11d k5d hyd hndd g1 g2 hHeld hHeld6 hba q3
            by_cases hs : ranN x m = LLv
            · skip
              have q4 : Hid (Ret 24 #[.agg #[.int .i64 (l : Int), .int .i64 (h : Int), .string (natS f), .string (natS a), .string (natS b)], .string (natS (ranN x m)), .string (natS (LLv))] (.agg #[.int .i64 (m : Int), .int .i64 (h : Int), .string (natS (ranN x m)), .string (natS (a)), .string (natS (b))])) :=
                Lib.hid ((Next_in (l : Int) (h : Int) (natS f) (natS a) (natS b) (natS (ranN x m)) (natS (LLv)) (by omega) (by omega) (by omega) (Nat.le_trans (zsz (ranN x m) (by omega)) (by omega)) (Nat.le_trans (zsz (LLv) (by omega)) (by omega))).of (by rw [sval_natS, sval_natS, if_pos hs, hd, hq, hm]; rfl))
              have HE : Hid (Disp x i m h (ranN x m) (a) (b) true ∧ (h - m - 1) * 2 ^ (r + 1) ≤ 300) := Lib.hid ⟨HD.out.1.low hlm hmh HMINE.out hs, by have := (disp_half hc HD.out.2).1; rw [← HM.out.1] at this; exact this⟩
              have hord : m < h ∧ h ≤ i ∧ h - m < d ∧ ranN x m ≤ modN + 256 ∧ a ≤ modN + 256 ∧ b ≤ modN + 256 := by have := HM.out.2; omega
              have hr8 : r ≤ 8 := disp_bound hc HD.out.2
              obtain ⟨nd, c24f, c24g⟩ : ∃ nd : Nat, (h : Int) - (m : Int) = (nd : Int) ∧ nd < d := ⟨h - m, by omega, hord.2.2.1⟩
              have c24b : ¬ (d : Int) ≤ (nd : Int) := by omega
              have c24c : ¬ (m : Int) < 0 := by omega
              have c24d : ¬ (i : Int) < (h : Int) := by omega
              have c24e : ¬ (20 : Int) < (r : Int) := by omega
              clear hs hlv
              go_upto_region 24 with (first
                | (go_at_call 24; (with_reducible refine (q4.out _).mono ?_); rintro e wn ⟨rfl, hbn⟩; have k14n := k14a.below hbn k14a.lt; have n0 : wn.cell? ⟨B14, 0, none⟩ = some (.int .i64 (l : Int)) := k14n.cell 0; have n1 : wn.cell? ⟨B14, 1, none⟩ = some (.int .i64 (h : Int)) := k14n.cell 1; have n2 : wn.cell? ⟨B14, 2, none⟩ = some (.string (natS f)) := k14n.cell 2; have n3 : wn.cell? ⟨B14, 3, none⟩ = some (.string (natS a)) := k14n.cell 3; have n4 : wn.cell? ⟨B14, 4, none⟩ = some (.string (natS b)) := k14n.cell 4; have z0 := k14n.frozen 0; have z1 := k14n.frozen 1; have z2 := k14n.frozen 2; have z3 := k14n.frozen 3; have z4 := k14n.frozen 4))
              have ho2 := hoa.below hbn
              have k112 := k11a.below hbn k11a.lt
              have k52 := k5a.below hbn k5a.lt
              have hB2 := below_then hBa hbn
              obtain ⟨ks, hg⟩ := disp_store k14n (.int .i64 (m : Int)) (.int .i64 (h : Int)) (.string (natS (ranN x m))) (.string (natS (a))) (.string (natS (b)))
              have ho3 := OwnL.kept ho2 hg (.inr (Ne.symm (own_ty ho2 k14n (by decide))))
              have k113 := k112.grown hg (fun e => blk_ty k112 k14n (by decide) (Option.some.inj e))
              have k53 := k52.grown hg (fun e => blk_ty k52 k14n (by decide) (Option.some.inj e))
              have hB3 := hB2.grown hg hB2.size (fun k e => by cases e; exact hge)
              clear n0 n1 n2 n3 n4 z0 z1 z2 z3 z4 ho2 k112 k52 hB2 a0 a1 a2 a3 a4 hbn q4
              generalize (((((wn.setCell ⟨B14, 0, none⟩ (.int .i64 (m : Int))).setCell ⟨B14, 1, none⟩ (.int .i64 (h : Int))).setCell ⟨B14, 2, none⟩ (.string (natS (ranN x m)))).setCell ⟨B14, 3, none⟩ (.string (natS (a)))).setCell ⟨B14, 4, none⟩ (.string (natS (b)))) = ws at ks hg ho3 k113 k53 hB3 ⊢
              clear hd hq hm hc hc' hlm hmh hrm hmi300 hLb hmi k14n hr0 e3 e4 f3 f4 hf ha hb HD HM HMINE HD0 hcc hg1 hg2
              generalize hU9 : natS (ranN x m) = U9 at ks ⊢
              generalize hL9 : natS LLv = L9 at ks ⊢
              have HU9 := Lib.hid hU9
              have HL9 := Lib.hid hL9
              have HORD := Lib.hid (And.intro hord hr8)
              clear hU9 hL9 hord zsz hr8 hlh hhi hr9 CE hfirst h11 h511 hz hN1 hn ht hnL hsz hrl ho hlt hi HX HY m1 m2 ms3 ms k14 k11 k5 hB
              have s0 : ws.cell? ⟨B14, 0, none⟩ = some (.int .i64 (m : Int)) := ks.cell 0
              have s1 : ws.cell? ⟨B14, 1, none⟩ = some (.int .i64 (h : Int)) := ks.cell 1
              go_wp2_with fail
              go_roundw
              case rel => obtain rfl := HU9.out; obtain rfl := HL9.out; exact ⟨r + 1, m, h, ranN x m, a, b, by go_num, by have := HORD.out.2; omega, HORD.out.1.1, HORD.out.1.2.1, HE, HORD.out.1.2.2.2.1, HORD.out.1.2.2.2.2.1, HORD.out.1.2.2.2.2.2, ks, ho3, k113, k53, hB3⟩
              case measure => have := HORD.out.2; simp [intOf]; omega

            · skip
              have q4 : Hid (Ret 24 #[.agg #[.int .i64 (l : Int), .int .i64 (h : Int), .string (natS f), .string (natS a), .string (natS b)], .string (natS (ranN x m)), .string (natS (LLv))] (.agg #[.int .i64 (l : Int), .int .i64 (m : Int), .string (natS (f)), .string (natS (ranN x m)), .string (natS (LLv))])) :=
                Lib.hid ((Next_in (l : Int) (h : Int) (natS f) (natS a) (natS b) (natS (ranN x m)) (natS (LLv)) (by omega) (by omega) (by omega) (Nat.le_trans (zsz (ranN x m) (by omega)) (by omega)) (Nat.le_trans (zsz (LLv) (by omega)) (by omega))).of (by rw [sval_natS, sval_natS, if_neg hs, hd, hq, hm]; rfl))
              have HE : Hid (Disp x i l m (f) (ranN x m) (LLv) true ∧ (m - l - 1) * 2 ^ (r + 1) ≤ 300) := Lib.hid ⟨HD.out.1.high hlm hmh HMINE.out hs, by have := (disp_half hc HD.out.2).2; rw [← HM.out.1] at this; exact this⟩
              have hord : l < m ∧ m ≤ i ∧ m - l < d ∧ f ≤ modN + 256 ∧ ranN x m ≤ modN + 256 ∧ LLv ≤ modN + 256 := by have := HM.out.2; omega
              have hr8 : r ≤ 8 := disp_bound hc HD.out.2
              obtain ⟨nd, c24f, c24g⟩ : ∃ nd : Nat, (m : Int) - (l : Int) = (nd : Int) ∧ nd < d := ⟨m - l, by omega, hord.2.2.1⟩
              have c24b : ¬ (d : Int) ≤ (nd : Int) := by omega
              have c24c : ¬ (l : Int) < 0 := by omega
              have c24d : ¬ (i : Int) < (m : Int) := by omega
              have c24e : ¬ (20 : Int) < (r : Int) := by omega
              clear hs hlv
              go_upto_region 24 with (first
                | (go_at_call 24; (with_reducible refine (q4.out _).mono ?_); rintro e wn ⟨rfl, hbn⟩; have k14n := k14a.below hbn k14a.lt; have n0 : wn.cell? ⟨B14, 0, none⟩ = some (.int .i64 (l : Int)) := k14n.cell 0; have n1 : wn.cell? ⟨B14, 1, none⟩ = some (.int .i64 (h : Int)) := k14n.cell 1; have n2 : wn.cell? ⟨B14, 2, none⟩ = some (.string (natS f)) := k14n.cell 2; have n3 : wn.cell? ⟨B14, 3, none⟩ = some (.string (natS a)) := k14n.cell 3; have n4 : wn.cell? ⟨B14, 4, none⟩ = some (.string (natS b)) := k14n.cell 4; have z0 := k14n.frozen 0; have z1 := k14n.frozen 1; have z2 := k14n.frozen 2; have z3 := k14n.frozen 3; have z4 := k14n.frozen 4))
              have ho2 := hoa.below hbn
              have k112 := k11a.below hbn k11a.lt
              have k52 := k5a.below hbn k5a.lt
              have hB2 := below_then hBa hbn
              obtain ⟨ks, hg⟩ := disp_store k14n (.int .i64 (l : Int)) (.int .i64 (m : Int)) (.string (natS (f))) (.string (natS (ranN x m))) (.string (natS (LLv)))
              have ho3 := OwnL.kept ho2 hg (.inr (Ne.symm (own_ty ho2 k14n (by decide))))
              have k113 := k112.grown hg (fun e => blk_ty k112 k14n (by decide) (Option.some.inj e))
              have k53 := k52.grown hg (fun e => blk_ty k52 k14n (by decide) (Option.some.inj e))
              have hB3 := hB2.grown hg hB2.size (fun k e => by cases e; exact hge)
              clear n0 n1 n2 n3 n4 z0 z1 z2 z3 z4 ho2 k112 k52 hB2 a0 a1 a2 a3 a4 hbn q4
              generalize (((((wn.setCell ⟨B14, 0, none⟩ (.int .i64 (l : Int))).setCell ⟨B14, 1, none⟩ (.int .i64 (m : Int))).setCell ⟨B14, 2, none⟩ (.string (natS (f)))).setCell ⟨B14, 3, none⟩ (.string (natS (ranN x m)))).setCell ⟨B14, 4, none⟩ (.string (natS (LLv)))) = ws at ks hg ho3 k113 k53 hB3 ⊢
              clear hd hq hm hc hc' hlm hmh hrm hmi300 hLb hmi k14n hr0 e3 e4 f3 f4 hf ha hb HD HM HMINE HD0 hcc hg1 hg2
              generalize hU9 : natS (ranN x m) = U9 at ks ⊢
              generalize hL9 : natS LLv = L9 at ks ⊢
              have HU9 := Lib.hid hU9
              have HL9 := Lib.hid hL9
              have HORD := Lib.hid (And.intro hord hr8)
              clear hU9 hL9 hord zsz hr8 hlh hhi hr9 CE hfirst h11 h511 hz hN1 hn ht hnL hsz hrl ho hlt hi HX HY m1 m2 ms3 ms k14 k11 k5 hB
              have s0 : ws.cell? ⟨B14, 0, none⟩ = some (.int .i64 (l : Int)) := ks.cell 0
              have s1 : ws.cell? ⟨B14, 1, none⟩ = some (.int .i64 (m : Int)) := ks.cell 1
              go_wp2_with fail
              go_roundw
              case rel => obtain rfl := HU9.out; obtain rfl := HL9.out; exact ⟨r + 1, l, m, f, ranN x m, LLv, by go_num, by have := HORD.out.2; omega, HORD.out.1.1, HORD.out.1.2.1, HE, HORD.out.1.2.2.2.1, HORD.out.1.2.2.2.2.1, HORD.out.1.2.2.2.2.2, ks, ho3, k113, k53, hB3⟩
              case measure => have := HORD.out.2; simp [intOf]; omega

          · have hc' : ¬ (l : Int) + 1 < (h : Int) := by omega
            have e2 : wr.cell? ⟨B14, 2, none⟩ = some (.string (natS f)) := k14.cell 2
            have e3 : wr.cell? ⟨B14, 3, none⟩ = some (.string (natS a)) := k14.cell 3
            have e4 : wr.cell? ⟨B14, 4, none⟩ = some (.string (natS b)) := k14.cell 4
            have q5 : Hid (Ret 25 #[.agg #[.int .i64 (l : Int), .int .i64 (h : Int), .string (natS f), .string (natS a), .string (natS b)]] (.int .i64 2)) :=
              Lib.hid ((Decide_in (l : Int) (h : Int) (natS f) (natS a) (natS b) (by omega) (by omega) (by omega) (zsz f hf) (zsz a ha) (zsz b hb)).of (by
                have hv := HD.out.1.verdict (show h = l + 1 by omega)
                unfold decideN
                rw [sval_natS, sval_natS, sval_natS, hv]; rfl))
            go_wp2_with (first
              | (go_at_call 25; (with_reducible refine (q5.out _).mono ?_); rintro e wz ⟨rfl, hb⟩; replace hB := below_then hB hb; clear hb))
            go_ret
            exact ⟨rfl, hB⟩

      | false =>
        have e3 : wc.cell? ⟨B14, 3, none⟩ = some (.string (natS (ranN x i))) := k14.cell 3
        have e4 : wc.cell? ⟨B14, 4, none⟩ = some (.string (natS (ranN x i + 1))) := k14.cell 4
        have f3 := k14.frozen 3
        have f4 := k14.frozen 4
        have hr0 := ranN_lt x 0
        have HD0 : Hid (Disp x i 0 i (ranN x 0) (ranN x i + 1) (ranN x i) false ∧ (i - 0 - 1) * 2 ^ 0 ≤ 300) := Lib.hid ⟨by have := Disp.start x i (ranN x i + 1) false (by omega) (by omega); simpa using this, by simp; omega⟩
        go_wp2_with fail
        go_loopw [15, 16, 17, 18, 19] (fun s15 _ _ _ _ wr => ∃ r l h f a b : Nat, s15 = .int .i64 (r : Int) ∧ r ≤ 9 ∧ l < h ∧ h ≤ i ∧ Hid (Disp x i l h f a b false ∧ (h - l - 1) * 2 ^ r ≤ 300) ∧ f ≤ modN + 256 ∧ a ≤ modN + 256 ∧ b ≤ modN + 256 ∧ Blk wr B14 32 (dispA (l : Int) (h : Int) (natS f) (natS a) (natS b)) ∧ OwnT w.heap.size wr (.slice (some ⟨g, 0, none⟩) (runL x (i + 1)).length cc) (runL x (i + 1)) ∧ Blk wr B11 28 #[.slice (some ⟨g, 0, none⟩) (i + 1) cc] ∧ Blk wr B5 22 #[.slice AL nL cL] ∧ Below w.heap.size w wr) (fun s15 _ _ _ _ _ => 10 - (intOf s15).toNat)
        case atStart =>
          have ks := (k14.set_ 3 (.string (natS (ranN x i + 1)))).set_ 4 (.string (natS (ranN x i)))
          have hg := grown_set (grown_set (grown_refl wc (some B14)) 3 (.string (natS (ranN x i + 1)))) 4 (.string (natS (ranN x i)))
          exact ⟨0, 0, i, ranN x 0, ranN x i + 1, ranN x i, rfl, by omega, by omega, Nat.le_refl _, HD0, by omega, by omega, by omega, ks, OwnL.kept ho hg (.inr (Ne.symm (own_ty ho k14 (by decide)))), k11.grown hg (fun e => blk_ty k11 k14 (by decide) (Option.some.inj e)), k5.grown hg (fun e => blk_ty k5 k14 (by decide) (Option.some.inj e)), hB.grown hg hB.size (fun k e => by cases e; exact hge)⟩
        case round =>
          obtain ⟨r, l, h, f, a, b, rfl, hr9, hlh, hhi, HD, hf, ha, hb, k14, ho, k11, k5, hB⟩ := hrel
          have e0 : wr.cell? ⟨B14, 0, none⟩ = some (.int .i64 (l : Int)) := k14.cell 0
          have e1 : wr.cell? ⟨B14, 1, none⟩ = some (.int .i64 (h : Int)) := k14.cell 1
          have zsz : ∀ z, z ≤ modN + 256 → (natS z).size ≤ 400 := fun z hz => Nat.le_trans (natS_size (k := 17) (by have := modN_lt; rw [P8_succ]; omega)) (by omega)
          by_cases hc : l + 1 < h
          · have hc' : (l : Int) + 1 < (h : Int) := by omega
            obtain ⟨d, hd, hd1⟩ : ∃ d : Nat, (h : Int) - (l : Int) = (d : Int) ∧ d = h - l := ⟨h - l, by omega, rfl⟩
            obtain ⟨q, hq, hq1⟩ : ∃ q : Nat, (d : Int) / 2 = (q : Int) ∧ q = d / 2 := ⟨d / 2, by omega, rfl⟩
            obtain ⟨m, hm, hm1⟩ : ∃ m : Nat, (l : Int) + (q : Int) = (m : Int) ∧ m = l + q := ⟨l + q, by omega, rfl⟩
            have hlm : l < m := by omega
            have hmh : m < h := by omega
            have HM : Hid (m = l + (h - l) / 2 ∧ d = h - l) := Lib.hid ⟨by omega, hd1⟩
            have hrm := ranN_lt x m
            have hlv := lies_le lies m
            have hmi300 : m ≤ 300 ∧ m < i + 1 := by omega
            have hnd : NDg wr (some ⟨g, 0, none⟩) (i + 1) cc (runL x (i + 1)) := by
              obtain ⟨A', c', e, h⟩ := OwnT.ndg ho
              cases e
              rwa [runL_len] at h
            have q3 := Lib.hid (fun W p1 p2 p3 p4 => lie_any x m B5 B11 AL (some ⟨g, 0, none⟩) nL cL (i + 1) cc lies (runL x (i + 1)) hmi300.2 hmi300.1 (runL_get hmi300.2) hnL W p1 p2 p3 p4)
            clear hm1 hq1 hd1
            obtain ⟨LLv, hLL⟩ : ∃ v, v = ranN x m + liesN lies m := ⟨_, rfl⟩
            rw [← hLL] at q3
            have hLb : LLv ≤ modN + 256 := by omega
            have HMINE : Hid ((if false then LLv else ranN x m) = ranN x m) := Lib.hid (by simp)
            clear hLL
            go_upto_region 19 with fail
            have hBd := hB.drew
            have k14d : Blk wr.drew B14 32 (dispA (l : Int) (h : Int) (natS f) (natS a) (natS b)) := k14
            have hod : OwnT w.heap.size wr.drew (.slice (some ⟨g, 0, none⟩) (runL x (i + 1)).length cc) (runL x (i + 1)) := ho
            have k11d : Blk wr.drew B11 28 #[.slice (some ⟨g, 0, none⟩) (i + 1) cc] := k11
            have k5d : Blk wr.drew B5 22 #[.slice AL nL cL] := k5
            have hyd : BDg wr.drew AL nL cL lies := HY.out.below hBd
            have hndd : NDg wr.drew (some ⟨g, 0, none⟩) (i + 1) cc (runL x (i + 1)) := hnd.below (Below.refl _ _).drew
            have g1 : wr.drew.cell? ⟨B11, 0, none⟩ = some (.slice (some ⟨g, 0, none⟩) (i + 1) cc) := k11d.cell 0
            have g2 : wr.drew.cell? ⟨g, m, none⟩ = some (.string (natS (ranN x m))) := by
              obtain ⟨b', o', e, hcc2⟩ := hndd.at_ (by omega)
              cases e
              have := hcc2 m _ (runL_get (by omega))
              rwa [Nat.zero_add] at this
            have hmi : (m : Int) < (i : Int) + 1 := by omega
            clear hB k14 ho k11 k5 hnd e0 e1
            refine region_here (fun Z => Z.cell? ⟨B11, 0, none⟩ = some (.slice (some ⟨g, 0, none⟩) (i + 1) cc) ∧ Z.cell? ⟨g, m, none⟩ = some (.string (natS (ranN x m)))) 7 (by kernel_rfl) ⟨g1, g2⟩ (fun hHeld => ?_)
            refine wpAnyS_take [2, 3, 7, 8] (i := 0) (oi := ⟨_, _, _, _, _, _⟩) (v := ?_) (by simp) (by kernel_rfl) rfl (by kernel_rfl) (by kernel_rfl) (by kernel_rfl) (fun _ _ _ h => h) (Or.inl ⟨by rfl, ?_⟩) (by assumption) ?_
            rotate_left
            · (intro w hSw; (try dsimp only at hSw); go_simp; try with_reducible rfl)
            try simp only [Act.put, List.setIfInBounds_toArray, List.set_cons_zero, List.set_cons_succ]
            refine wpAnyS_take [2, 3, 7, 8] (i := 1) (oi := ⟨_, _, _, _, _, _⟩) (v := ?_) (by simp) (by kernel_rfl) rfl (by kernel_rfl) (by kernel_rfl) (by kernel_rfl) (fun _ _ _ h => h) (Or.inl ⟨by rfl, ?_⟩) (by assumption) ?_
            rotate_left
            · (intro w hSw; (try dsimp only at hSw); go_simp; try with_reducible rfl)
            try simp only [Act.put, List.setIfInBounds_toArray, List.set_cons_zero, List.set_cons_succ]
            refine wpAnyS_take [3, 7, 8] (i := 2) (oi := ⟨_, _, _, _, _, _⟩) (v := ?_) (by simp) (by kernel_rfl) rfl (by kernel_rfl) (by kernel_rfl) (by kernel_rfl) (fun _ _ _ h => h) (Or.inl ⟨by rfl, ?_⟩) (by assumption) ?_
            rotate_left
            · (intro w hSw; (try dsimp only at hSw); go_simp; try with_reducible rfl)
            try simp only [Act.put, List.setIfInBounds_toArray, List.set_cons_zero, List.set_cons_succ]
            refine wpAnyS_take [7, 8] (i := 3) (oi := ⟨_, _, _, _, _, _⟩) (v := ?_) (by simp) (by kernel_rfl) rfl (by kernel_rfl) (by kernel_rfl) (by kernel_rfl) (fun _ _ _ h => h) (Or.inl ⟨by rfl, ?_⟩) (by assumption) ?_
            rotate_left
            · (intro w hSw; (try dsimp only at hSw); go_simp; try with_reducible rfl)
            try simp only [Act.put, List.setIfInBounds_toArray, List.set_cons_zero, List.set_cons_succ]
            refine wpAnyS_take [6, 7, 8] (i := 4) (oi := ⟨_, _, _, _, _, _⟩) (v := ?_) (by simp) (by kernel_rfl) rfl (by kernel_rfl) (by kernel_rfl) (by kernel_rfl) (fun _ _ _ h => h) (Or.inl ⟨by rfl, ?_⟩) (by assumption) ?_
            rotate_left
            · (intro w hSw; (try dsimp only at hSw); go_simp; try with_reducible rfl)
            try simp only [Act.put, List.setIfInBounds_toArray, List.set_cons_zero, List.set_cons_succ]
            refine wpAnyS_take [6, 7, 8] (i := 5) (oi := ⟨_, _, _, _, _, _⟩) (v := ?_) (by simp) (by kernel_rfl) rfl (by kernel_rfl) (by kernel_rfl) (by kernel_rfl) (fun _ _ _ h => h) (Or.inl ⟨by rfl, ?_⟩) (by assumption) ?_
            rotate_left
            · (intro w hSw; (try dsimp only at hSw); go_simp; try with_reducible rfl)
            try simp only [Act.put, List.setIfInBounds_toArray, List.set_cons_zero, List.set_cons_succ]
            refine wpAnyS_one (i := 6) (oi := ⟨_, _, _, _, _, _⟩) rfl (by kernel_rfl) (fun K hK => ?_)
            go_simp
            go_at_call 21
            refine (q3.out _ k5d hyd k11d hndd).mono ?_
            rintro e wa ⟨rfl, hba⟩
            (try go_wp2_with fail)
            refine hK.out _ _ ?_ (fun hHeld6 => ?_)
            · exact ⟨cell_b hba hHeld.1, cell_b hba hHeld.2⟩
            clear hK K
            try simp only [Act.put, List.setIfInBounds_toArray, List.set_cons_zero, List.set_cons_succ]
            refine wpAnyS_call (k := 7) (ok := ⟨_, _, _, _, _, _⟩) rfl (by kernel_rfl) (by kernel_rfl) (fun K hK => ?_)
            go_simp
            refine hK.out _ _ ?_
            clear hK K
            try simp only [Act.put, List.setIfInBounds_toArray, List.set_cons_zero, List.set_cons_succ]
            refine wpAny_take (i := 8) (oi := ⟨_, _, _, _, _, _⟩) (v := ?_) rfl (by kernel_rfl) (by kernel_rfl) (by kernel_rfl) (fun _ _ _ h => h) (Or.inl ⟨by rfl, ?_⟩) ?_
            rotate_left
            · (intro w; go_simp; try with_reducible rfl)
            try simp only [Act.put, List.setIfInBounds_toArray, List.set_cons_zero, List.set_cons_succ]
            refine wpAny_done (by kernel_rfl) ?_ _
            have hBa := below_then hBd hba
            have k14a := k14d.below hba k14d.lt
            have hoa := hod.below hba
            have k11a := k11d.below hba k11d.lt
            have k5a := k5d.below hba k5d.lt
            have a0 : wa.cell? ⟨B14, 0, none⟩ = some (.int .i64 (l : Int)) := k14a.cell 0
            have a1 : wa.cell? ⟨B14, 1, none⟩ = some (.int .i64 (h : Int)) := k14a.cell 1
            have a2 : wa.cell? ⟨B14, 2, none⟩ = some (.string (natS f)) := k14a.cell 2
            have a3 : wa.cell? ⟨B14, 3, none⟩ = some (.string (natS a)) := k14a.cell 3
            have a4 : wa.cell? ⟨B14, 4, none⟩ = some (.string (natS b)) := k14a.cell 4
            clear hBd k14d hod k11d k5d hyd hndd g1 g2 hHeld hHeld6 hba q3
            by_cases hs : LLv = ranN x m
            · skip
              have q4 : Hid (Ret 24 #[.agg #[.int .i64 (l : Int), .int .i64 (h : Int), .string (natS f), .string (natS a), .string (natS b)], .string (natS (LLv)), .string (natS (ranN x m))] (.agg #[.int .i64 (m : Int), .int .i64 (h : Int), .string (natS (LLv)), .string (natS (a)), .string (natS (b))])) :=
                Lib.hid ((Next_in (l : Int) (h : Int) (natS f) (natS a) (natS b) (natS (LLv)) (natS (ranN x m)) (by omega) (by omega) (by omega) (Nat.le_trans (zsz (LLv) (by omega)) (by omega)) (Nat.le_trans (zsz (ranN x m) (by omega)) (by omega))).of (by rw [sval_natS, sval_natS, if_pos hs, hd, hq, hm]; rfl))
              have HE : Hid (Disp x i m h (LLv) (a) (b) false ∧ (h - m - 1) * 2 ^ (r + 1) ≤ 300) := Lib.hid ⟨HD.out.1.low hlm hmh HMINE.out hs, by have := (disp_half hc HD.out.2).1; rw [← HM.out.1] at this; exact this⟩
              have hord : m < h ∧ h ≤ i ∧ h - m < d ∧ LLv ≤ modN + 256 ∧ a ≤ modN + 256 ∧ b ≤ modN + 256 := by have := HM.out.2; omega
              have hr8 : r ≤ 8 := disp_bound hc HD.out.2
              obtain ⟨nd, c24f, c24g⟩ : ∃ nd : Nat, (h : Int) - (m : Int) = (nd : Int) ∧ nd < d := ⟨h - m, by omega, hord.2.2.1⟩
              have c24b : ¬ (d : Int) ≤ (nd : Int) := by omega
              have c24c : ¬ (m : Int) < 0 := by omega
              have c24d : ¬ (i : Int) < (h : Int) := by omega
              have c24e : ¬ (20 : Int) < (r : Int) := by omega
              clear hs hlv
              go_upto_region 24 with (first
                | (go_at_call 24; (with_reducible refine (q4.out _).mono ?_); rintro e wn ⟨rfl, hbn⟩; have k14n := k14a.below hbn k14a.lt; have n0 : wn.cell? ⟨B14, 0, none⟩ = some (.int .i64 (l : Int)) := k14n.cell 0; have n1 : wn.cell? ⟨B14, 1, none⟩ = some (.int .i64 (h : Int)) := k14n.cell 1; have n2 : wn.cell? ⟨B14, 2, none⟩ = some (.string (natS f)) := k14n.cell 2; have n3 : wn.cell? ⟨B14, 3, none⟩ = some (.string (natS a)) := k14n.cell 3; have n4 : wn.cell? ⟨B14, 4, none⟩ = some (.string (natS b)) := k14n.cell 4; have z0 := k14n.frozen 0; have z1 := k14n.frozen 1; have z2 := k14n.frozen 2; have z3 := k14n.frozen 3; have z4 := k14n.frozen 4))
              have ho2 := hoa.below hbn
              have k112 := k11a.below hbn k11a.lt
              have k52 := k5a.below hbn k5a.lt
              have hB2 := below_then hBa hbn
              obtain ⟨ks, hg⟩ := disp_store k14n (.int .i64 (m : Int)) (.int .i64 (h : Int)) (.string (natS (LLv))) (.string (natS (a))) (.string (natS (b)))
              have ho3 := OwnL.kept ho2 hg (.inr (Ne.symm (own_ty ho2 k14n (by decide))))
              have k113 := k112.grown hg (fun e => blk_ty k112 k14n (by decide) (Option.some.inj e))
              have k53 := k52.grown hg (fun e => blk_ty k52 k14n (by decide) (Option.some.inj e))
              have hB3 := hB2.grown hg hB2.size (fun k e => by cases e; exact hge)
              clear n0 n1 n2 n3 n4 z0 z1 z2 z3 z4 ho2 k112 k52 hB2 a0 a1 a2 a3 a4 hbn q4
              generalize (((((wn.setCell ⟨B14, 0, none⟩ (.int .i64 (m : Int))).setCell ⟨B14, 1, none⟩ (.int .i64 (h : Int))).setCell ⟨B14, 2, none⟩ (.string (natS (LLv)))).setCell ⟨B14, 3, none⟩ (.string (natS (a)))).setCell ⟨B14, 4, none⟩ (.string (natS (b)))) = ws at ks hg ho3 k113 k53 hB3 ⊢
              clear hd hq hm hc hc' hlm hmh hrm hmi300 hLb hmi k14n hr0 e3 e4 f3 f4 hf ha hb HD HM HMINE HD0 hcc hg1 hg2
              generalize hU9 : natS (ranN x m) = U9 at ks ⊢
              generalize hL9 : natS LLv = L9 at ks ⊢
              have HU9 := Lib.hid hU9
              have HL9 := Lib.hid hL9
              have HORD := Lib.hid (And.intro hord hr8)
              clear hU9 hL9 hord zsz hr8 hlh hhi hr9 CE hfirst h11 h511 hz hN1 hn ht hnL hsz hrl ho hlt hi HX HY m1 m2 ms3 ms k14 k11 k5 hB
              have s0 : ws.cell? ⟨B14, 0, none⟩ = some (.int .i64 (m : Int)) := ks.cell 0
              have s1 : ws.cell? ⟨B14, 1, none⟩ = some (.int .i64 (h : Int)) := ks.cell 1
              go_wp2_with fail
              go_roundw
              case rel => obtain rfl := HU9.out; obtain rfl := HL9.out; exact ⟨r + 1, m, h, LLv, a, b, by go_num, by have := HORD.out.2; omega, HORD.out.1.1, HORD.out.1.2.1, HE, HORD.out.1.2.2.2.1, HORD.out.1.2.2.2.2.1, HORD.out.1.2.2.2.2.2, ks, ho3, k113, k53, hB3⟩
              case measure => have := HORD.out.2; simp [intOf]; omega

            · skip
              have q4 : Hid (Ret 24 #[.agg #[.int .i64 (l : Int), .int .i64 (h : Int), .string (natS f), .string (natS a), .string (natS b)], .string (natS (LLv)), .string (natS (ranN x m))] (.agg #[.int .i64 (l : Int), .int .i64 (m : Int), .string (natS (f)), .string (natS (LLv)), .string (natS (ranN x m))])) :=
                Lib.hid ((Next_in (l : Int) (h : Int) (natS f) (natS a) (natS b) (natS (LLv)) (natS (ranN x m)) (by omega) (by omega) (by omega) (Nat.le_trans (zsz (LLv) (by omega)) (by omega)) (Nat.le_trans (zsz (ranN x m) (by omega)) (by omega))).of (by rw [sval_natS, sval_natS, if_neg hs, hd, hq, hm]; rfl))
              have HE : Hid (Disp x i l m (f) (LLv) (ranN x m) false ∧ (m - l - 1) * 2 ^ (r + 1) ≤ 300) := Lib.hid ⟨HD.out.1.high hlm hmh HMINE.out hs, by have := (disp_half hc HD.out.2).2; rw [← HM.out.1] at this; exact this⟩
              have hord : l < m ∧ m ≤ i ∧ m - l < d ∧ f ≤ modN + 256 ∧ LLv ≤ modN + 256 ∧ ranN x m ≤ modN + 256 := by have := HM.out.2; omega
              have hr8 : r ≤ 8 := disp_bound hc HD.out.2
              obtain ⟨nd, c24f, c24g⟩ : ∃ nd : Nat, (m : Int) - (l : Int) = (nd : Int) ∧ nd < d := ⟨m - l, by omega, hord.2.2.1⟩
              have c24b : ¬ (d : Int) ≤ (nd : Int) := by omega
              have c24c : ¬ (l : Int) < 0 := by omega
              have c24d : ¬ (i : Int) < (m : Int) := by omega
              have c24e : ¬ (20 : Int) < (r : Int) := by omega
              clear hs hlv
              go_upto_region 24 with (first
                | (go_at_call 24; (with_reducible refine (q4.out _).mono ?_); rintro e wn ⟨rfl, hbn⟩; have k14n := k14a.below hbn k14a.lt; have n0 : wn.cell? ⟨B14, 0, none⟩ = some (.int .i64 (l : Int)) := k14n.cell 0; have n1 : wn.cell? ⟨B14, 1, none⟩ = some (.int .i64 (h : Int)) := k14n.cell 1; have n2 : wn.cell? ⟨B14, 2, none⟩ = some (.string (natS f)) := k14n.cell 2; have n3 : wn.cell? ⟨B14, 3, none⟩ = some (.string (natS a)) := k14n.cell 3; have n4 : wn.cell? ⟨B14, 4, none⟩ = some (.string (natS b)) := k14n.cell 4; have z0 := k14n.frozen 0; have z1 := k14n.frozen 1; have z2 := k14n.frozen 2; have z3 := k14n.frozen 3; have z4 := k14n.frozen 4))
              have ho2 := hoa.below hbn
              have k112 := k11a.below hbn k11a.lt
              have k52 := k5a.below hbn k5a.lt
              have hB2 := below_then hBa hbn
              obtain ⟨ks, hg⟩ := disp_store k14n (.int .i64 (l : Int)) (.int .i64 (m : Int)) (.string (natS (f))) (.string (natS (LLv))) (.string (natS (ranN x m)))
              have ho3 := OwnL.kept ho2 hg (.inr (Ne.symm (own_ty ho2 k14n (by decide))))
              have k113 := k112.grown hg (fun e => blk_ty k112 k14n (by decide) (Option.some.inj e))
              have k53 := k52.grown hg (fun e => blk_ty k52 k14n (by decide) (Option.some.inj e))
              have hB3 := hB2.grown hg hB2.size (fun k e => by cases e; exact hge)
              clear n0 n1 n2 n3 n4 z0 z1 z2 z3 z4 ho2 k112 k52 hB2 a0 a1 a2 a3 a4 hbn q4
              generalize (((((wn.setCell ⟨B14, 0, none⟩ (.int .i64 (l : Int))).setCell ⟨B14, 1, none⟩ (.int .i64 (m : Int))).setCell ⟨B14, 2, none⟩ (.string (natS (f)))).setCell ⟨B14, 3, none⟩ (.string (natS (LLv)))).setCell ⟨B14, 4, none⟩ (.string (natS (ranN x m)))) = ws at ks hg ho3 k113 k53 hB3 ⊢
              clear hd hq hm hc hc' hlm hmh hrm hmi300 hLb hmi k14n hr0 e3 e4 f3 f4 hf ha hb HD HM HMINE HD0 hcc hg1 hg2
              generalize hU9 : natS (ranN x m) = U9 at ks ⊢
              generalize hL9 : natS LLv = L9 at ks ⊢
              have HU9 := Lib.hid hU9
              have HL9 := Lib.hid hL9
              have HORD := Lib.hid (And.intro hord hr8)
              clear hU9 hL9 hord zsz hr8 hlh hhi hr9 CE hfirst h11 h511 hz hN1 hn ht hnL hsz hrl ho hlt hi HX HY m1 m2 ms3 ms k14 k11 k5 hB
              have s0 : ws.cell? ⟨B14, 0, none⟩ = some (.int .i64 (l : Int)) := ks.cell 0
              have s1 : ws.cell? ⟨B14, 1, none⟩ = some (.int .i64 (m : Int)) := ks.cell 1
              go_wp2_with fail
              go_roundw
              case rel => obtain rfl := HU9.out; obtain rfl := HL9.out; exact ⟨r + 1, l, m, f, LLv, ranN x m, by go_num, by have := HORD.out.2; omega, HORD.out.1.1, HORD.out.1.2.1, HE, HORD.out.1.2.2.2.1, HORD.out.1.2.2.2.2.1, HORD.out.1.2.2.2.2.2, ks, ho3, k113, k53, hB3⟩
              case measure => have := HORD.out.2; simp [intOf]; omega

          · have hc' : ¬ (l : Int) + 1 < (h : Int) := by omega
            have e2 : wr.cell? ⟨B14, 2, none⟩ = some (.string (natS f)) := k14.cell 2
            have e3 : wr.cell? ⟨B14, 3, none⟩ = some (.string (natS a)) := k14.cell 3
            have e4 : wr.cell? ⟨B14, 4, none⟩ = some (.string (natS b)) := k14.cell 4
            have q5 : Hid (Ret 25 #[.agg #[.int .i64 (l : Int), .int .i64 (h : Int), .string (natS f), .string (natS a), .string (natS b)]] (.int .i64 1)) :=
              Lib.hid ((Decide_in (l : Int) (h : Int) (natS f) (natS a) (natS b) (by omega) (by omega) (by omega) (zsz f hf) (zsz a ha) (zsz b hb)).of (by
                have hv := HD.out.1.verdict (show h = l + 1 by omega)
                unfold decideN
                rw [sval_natS, sval_natS, sval_natS, hv]; rfl))
            go_wp2_with (first
              | (go_at_call 25; (with_reducible refine (q5.out _).mono ?_); rintro e wz ⟨rfl, hb⟩; replace hB := below_then hB hb; clear hb))
            go_ret
            exact ⟨rfl, hB⟩


end Go.Proofs.YtebgmlbbilcbbaaGreatDoor
