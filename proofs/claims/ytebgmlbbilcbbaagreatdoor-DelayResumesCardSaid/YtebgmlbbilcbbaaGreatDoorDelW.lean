/- The law DelayResumes. -/
import Derived.Test.YtebgmlbbilcbbaaGreatDoorDelV
import Derived.Test.YtebgmlbbilcbbaaGreatDoorModQ
namespace Go.Proofs.YtebgmlbbilcbbaaGreatDoor
open Go.RowKit
attribute [local go_sem] Oper.semAt_some

theorem i64_and1 (n : Int) : bits .and .i64 n 1 = n % 2 := by
  have h1 : (BitVec.ofInt 64 1).toNat = 2 ^ 1 - 1 := by decide
  have key : (BitVec.ofInt 64 n &&& BitVec.ofInt 64 1).toNat = (n % ((2 ^ 64 : Nat) : Int)).toNat % 2 ^ 1 := by
    rw [BitVec.toNat_and, BitVec.toNat_ofInt, h1, Nat.and_two_pow_sub_one_eq_mod]
  show IntKind.i64.wrap ((BitVec.ofInt 64 n &&& BitVec.ofInt 64 1).toNat : Nat) = n % 2
  rw [key, IntKind.wrap_i64]
  omega
theorem byteR_of (q : Int) : ∃ y : UInt8, IntKind.u8.wrap q = (y.toNat : Int) := ⟨UInt8.ofNat (q % 256).toNat, by rw [u8_wrap, UInt8.toNat_ofNat']; omega⟩
theorem one_bdg {w : World} {g : Nat} {y : UInt8} (h : Blk w g 5 #[.int .u8 (y.toNat : Int)]) : BDg w (some ⟨g, 0, none⟩) 1 1 [y] := h.bdg (l := [y]) rfl (Nat.le_refl _)
theorem saveS_size (d t v : Nat) : (saveS d t v).size = 7 + (decS d).size + (decS t).size + (decS v).size := by
  have e5 : (⟨#[119, 111, 114, 107, 32]⟩ : ByteArray).size = 5 := rfl
  have e1 : (⟨#[32]⟩ : ByteArray).size = 1 := rfl
  unfold saveS
  rw [ByteArray.size_append, ByteArray.size_append, ByteArray.size_append, ByteArray.size_append, ByteArray.size_append, e5, e1]
  omega
theorem save_back {s : ByteArray} {d t v : Nat} (h : workL s.data.toList = some (d, t, v)) : saveS d t v = s ∧ d ≤ t ∧ t ≤ 1048576 ∧ v < modN := by
  obtain ⟨h1, h2⟩ := workL_some h
  refine ⟨bytes_eq ?_, h2⟩
  rw [h1]
  unfold saveS
  rw [ByteArray.data_append, ByteArray.data_append, ByteArray.data_append, ByteArray.data_append, ByteArray.data_append, Array.toList_append, Array.toList_append, Array.toList_append, Array.toList_append, Array.toList_append, decS_list, decS_list, decS_list]
  simp
theorem decS_39 {n : Nat} (h : n < 10 ^ 40) : (decS n).size ≤ 40 := by
  show (Lib.decDigits n).toArray.size ≤ _
  rw [List.size_toArray]
  exact (dec_len 39 n h).1

set_option maxRecDepth 100000 in
set_option maxHeartbeats 4000000 in
theorem DelayResumes_any (a b c : Int) (raw : ByteArray) (q0 q1 q2 : Int) (w : World) (hT : Tabs w) (hE : ErrV w) (hM : MaxL w) (ha : I64 a) (hb : I64 b) (hc : I64 c) (hr : raw.size ≤ 9223372036854775807) (_h0 : I64 q0) (_h1 : I64 q1) (_h2 : I64 q2) :
    Calls Tryz.prog 8 #[.agg #[.int .i64 a, .int .i64 b, .int .i64 c], .string raw, .agg #[.int .i64 q0, .int .i64 q1, .int .i64 q2]] w fun e w' => e = .returned (.bool true) ∧ Below w.heap.size w w' := by
  have HT := Lib.hid hT
  have HE := Lib.hid hE
  have HM := Lib.hid hM
  clear hT hE hM
  have ms := Lib.hid sanity10
  have ofT : ∀ z : Int, I64 z → Ret 23 #[.int .i64 z] (.string (natS z.toNat)) := fun z hz => of_q (fun W => rOf z W hz.2)
  have txT : ∀ n : Nat, (natS n).size ≤ 100 → Ret 41 #[.string (natS n)] (.string (decS n)) := fun n hn W => by
    have := rText (natS n) W (by omega)
    rwa [sval_natS] at this
  have na : a.toNat ≤ 9223372036854775807 := by have := ha.2; omega
  have nb : b.toNat ≤ 9223372036854775807 := by have := hb.2; omega
  have nc : c.toNat ≤ 9223372036854775807 := by have := hc.2; omega
  obtain ⟨o, ho, ho2⟩ : ∃ o : Nat, bits .and .i64 c 1 = (o : Int) ∧ o ≤ 1 := ⟨(c % 2).toNat, by rw [i64_and1]; omega, by omega⟩
  have m1 := Lib.hid (ofT a ha)
  have m2 := Lib.hid (txT a.toNat (Nat.le_trans (natS_i64 na) (by omega)))
  have m3 := Lib.hid (ofT b hb)
  have m4 := Lib.hid (txT b.toNat (Nat.le_trans (natS_i64 nb) (by omega)))
  have m5 := Lib.hid (ofT c hc)
  have m6 : Hid (Ret 23 #[.int .i64 4611686018427387903] (.string (natS 4611686018427387903))) := Lib.hid (of_nat 4611686018427387903 (by omega))
  have s5 := natS_i64 nc
  have s6 := natS_i64 (n := 4611686018427387903) (by omega)
  have m7 : Hid (Ret 42 #[.string (natS c.toNat), .string (natS 4611686018427387903)] (.string (natS (c.toNat * 4611686018427387903)))) := Lib.hid (fun W => by
    have := rMul (natS c.toNat) (natS 4611686018427387903) W (by omega) (by omega)
    rwa [sval_natS, sval_natS] at this)
  have hV : c.toNat * 4611686018427387903 ≤ 9223372036854775807 * 4611686018427387903 := Nat.mul_le_mul_right _ nc
  have s8 : (natS (c.toNat * 4611686018427387903)).size ≤ 16 := natS_size (Nat.lt_of_le_of_lt hV (by decide +kernel))
  have m8 := Lib.hid (txT (c.toNat * 4611686018427387903) (by omega))
  have zV : (decS (c.toNat * 4611686018427387903)).size ≤ 40 := decS_39 (Nat.lt_of_le_of_lt hV (by decide +kernel))
  have zA := decS_int na
  have zB := decS_int nb
  have q4 := Lib.hid (of_nat o (by omega))
  have q5 : Hid (Ret 22 #[.string modS, .string (natS o)] (.string (natS (modN + o)))) := Lib.hid (fun W => by
    have := rAdd_q modS (natS o) (by decide) (Nat.le_trans (natS_i64 (n := o) (by omega)) (by omega)) W
    rwa [sval_modS, sval_natS] at this)
  have q6 := Lib.hid (txT (modN + o) (Nat.le_trans (natS_size (k := 17) (Nat.lt_of_le_of_lt (show modN + o ≤ modN + 1 by omega) (by decide +kernel))) (by omega)))
  have zH : (decS (modN + o)).size ≤ 40 := decS_39 (Nat.lt_of_le_of_lt (show modN + o ≤ modN + 1 by omega) (by decide +kernel))
  generalize natS (c.toNat * 4611686018427387903) = sV at m7 m8
  generalize decS (c.toNat * 4611686018427387903) = dV at m8 zV
  generalize natS 4611686018427387903 = sM at m6 m7
  generalize natS c.toNat = sC at m5 m7
  generalize natS a.toNat = sA at m1 m2
  generalize natS b.toNat = sB at m3 m4
  generalize decS a.toNat = dA at m2 zA
  generalize decS b.toNat = dB at m4 zB
  generalize natS (modN + o) = sH at q5 q6
  generalize decS (modN + o) = dH at q6 zH
  generalize natS o = sO at q4 q5
  clear hV s5 s6 s8 na nb nc ofT txT ha hb hc
  have z1 : ¬ 9223372036854775807 < 5 + dA.size := by omega
  have z2 : ¬ 9223372036854775807 < 5 + dA.size + 1 := by omega
  have z3 : ¬ 9223372036854775807 < 5 + dA.size + 1 + dB.size := by omega
  have z4 : ¬ 9223372036854775807 < 5 + dA.size + 1 + dB.size + 1 := by omega
  have z5 : ¬ 9223372036854775807 < 5 + dA.size + 1 + dB.size + 1 + dV.size := by omega
  have z6 : ¬ 9223372036854775807 < 9 + dH.size := by omega
  go_enter Tryz.func8, Tryz.ntmps8
  go_upto_region 1 with fail
  refine name2p ?_
  intro w1 k3 k5 hB
  obtain ⟨BA, hBA⟩ : ∃ BA, BA = w.heap.size := ⟨_, rfl⟩
  rw [← hBA] at k3 k5 ⊢
  clear hBA
  go_upto_region 2 with (go_at_call 17; (with_reducible refine (ms.out _ ?_).mono ?_); (exact HT.out.below hB); rintro e wz ⟨rfl, hb⟩; replace hB := below_then hB hb; replace k3 := k3.below hb k3.lt; replace k5 := k5.below hb k5.lt; clear hb)
  have g0 : wz.drew.cell? ⟨BA, 0, none⟩ = some (.int .i64 a) := k3.cell 0
  have g1 : wz.drew.cell? ⟨BA, 1, none⟩ = some (.int .i64 b) := k3.cell 1
  have g2 : wz.drew.cell? ⟨BA, 2, none⟩ = some (.int .i64 c) := k3.cell 2
  have hBd : Below w.heap.size w wz.drew := hB.drew
  have k3d : Blk wz.drew BA 53 #[.int .i64 a, .int .i64 b, .int .i64 c] := k3
  have k5d : Blk wz.drew (BA + 1) 53 #[.int .i64 q0, .int .i64 q1, .int .i64 q2] := k5
  have hB2 : Below wz.drew.heap.size wz.drew wz.drew := Below.refl _ _
  go_region_held3 (fun Z : World => Z.cell? ⟨BA, 0, none⟩ = some (.int .i64 a) ∧ Z.cell? ⟨BA, 1, none⟩ = some (.int .i64 b) ∧ Z.cell? ⟨BA, 2, none⟩ = some (.int .i64 c))
    (first
      | exact ⟨g0, g1, g2⟩
      | exact ⟨cell_b hB2 g0, cell_b hB2 g1, cell_b hB2 g2⟩)
    (first
      | (go_at_call 23; (with_reducible refine (m1.out _).mono ?_); rintro e wa ⟨rfl, hbz⟩; replace hB2 := below_then hB2 hbz; clear hbz)
      | (go_at_call 41; (with_reducible refine (m2.out _).mono ?_); rintro e wa ⟨rfl, hbz⟩; replace hB2 := below_then hB2 hbz; clear hbz)
      | (go_at_call 23; (with_reducible refine (m3.out _).mono ?_); rintro e wa ⟨rfl, hbz⟩; replace hB2 := below_then hB2 hbz; clear hbz)
      | (go_at_call 41; (with_reducible refine (m4.out _).mono ?_); rintro e wa ⟨rfl, hbz⟩; replace hB2 := below_then hB2 hbz; clear hbz)
      | (go_at_call 23; (with_reducible refine (m5.out _).mono ?_); rintro e wa ⟨rfl, hbz⟩; replace hB2 := below_then hB2 hbz; clear hbz)
      | (go_at_call 23; (with_reducible refine (m6.out _).mono ?_); rintro e wa ⟨rfl, hbz⟩; replace hB2 := below_then hB2 hbz; clear hbz)
      | (go_at_call 42; (with_reducible refine (m7.out _).mono ?_); rintro e wa ⟨rfl, hbz⟩; replace hB2 := below_then hB2 hbz; clear hbz)
      | (go_at_call 41; (with_reducible refine (m8.out _).mono ?_); rintro e wa ⟨rfl, hbz⟩; replace hB2 := below_then hB2 hbz; clear hbz))
  rename World => wb
  have hB3 := below_then hBd hB2
  replace k3 := k3d.below hB2 k3d.lt
  replace k5 := k5d.below hB2 k5d.lt
  clear g0 g1 g2 hB hBd k3d k5d hB2 m1 m2 m3 m4 m5 m6 m7 m8 ms z1 z2 z3 z4 z5
  have hsz : (((((⟨#[119, 111, 114, 107, 32]⟩ ++ dA) ++ ⟨#[32]⟩) ++ dB) ++ ⟨#[32]⟩) ++ dV : ByteArray).size = 7 + dA.size + dB.size + dV.size := by
    have e5 : (⟨#[119, 111, 114, 107, 32]⟩ : ByteArray).size = 5 := rfl
    have e1 : (⟨#[32]⟩ : ByteArray).size = 1 := rfl
    rw [ByteArray.size_append, ByteArray.size_append, ByteArray.size_append, ByteArray.size_append, ByteArray.size_append, e5, e1]
    omega
  have hs1 : (((((⟨#[119, 111, 114, 107, 32]⟩ ++ dA) ++ ⟨#[32]⟩) ++ dB) ++ ⟨#[32]⟩) ++ dV : ByteArray).size ≤ 100 := by omega
  have hs0 : 0 < (((((⟨#[119, 111, 114, 107, 32]⟩ ++ dA) ++ ⟨#[32]⟩) ++ dB) ++ ⟨#[32]⟩) ++ dV : ByteArray).size := by omega
  clear hsz
  generalize (((((⟨#[119, 111, 114, 107, 32]⟩ ++ dA) ++ ⟨#[32]⟩) ++ dB) ++ ⟨#[32]⟩) ++ dV : ByteArray) = s at hs0 hs1 ⊢
  clear zA zB zV
  obtain ⟨k, hk, hk2⟩ : ∃ k : Nat, q0 % (s.size : Int) = (k : Int) ∧ k < s.size := by
    have h1 := Int.emod_nonneg q0 (b := (s.size : Int)) (by omega)
    have h2 := Int.emod_lt_of_pos q0 (b := (s.size : Int)) (by omega)
    exact ⟨(q0 % (s.size : Int)).toNat, by omega, by omega⟩
  have mk := Lib.hid (rMod1_q q0 (s.size : Int) (by omega) (by omega))
  rw [hk] at mk
  obtain ⟨j, hj, hj2⟩ : ∃ j : Nat, q1 % 2 = (j : Int) ∧ j ≤ 1 := ⟨(q1 % 2).toNat, by omega, by omega⟩
  have mj := Lib.hid (rMod1_q q1 2 (by omega) (by omega))
  rw [hj] at mj
  obtain ⟨y, hy⟩ := byteR_of q2
  clear hk hj
  have e0 : wb.cell? ⟨BA + 1, 0, none⟩ = some (.int .i64 q0) := k5.cell 0
  go_upto_region 4 with (go_at_call 43; (with_reducible refine (mk.out _).mono ?_); rintro e wc ⟨rfl, hb⟩; replace k3 := k3.below hb k3.lt; replace k5 := k5.below hb k5.lt; replace hB3 := below_then hB3 hb; clear hb)
  clear e0 mk
  have e1 : wc.drew.cell? ⟨BA + 1, 1, none⟩ = some (.int .i64 q1) := k5.cell 1
  have e2 : wc.drew.cell? ⟨BA + 1, 2, none⟩ = some (.int .i64 q2) := k5.cell 2
  replace k3 : Blk wc.drew BA 53 #[.int .i64 a, .int .i64 b, .int .i64 c] := k3
  replace k5 : Blk wc.drew (BA + 1) 53 #[.int .i64 q0, .int .i64 q1, .int .i64 q2] := k5
  replace hB3 : Below w.heap.size w wc.drew := hB3.drew
  have hp : (s.extract 0 k).size ≤ 100 := by rw [ByteArray.size_extract]; omega
  obtain ⟨p, hpk⟩ : ∃ p, p = k + j := ⟨_, rfl⟩
  have hps : p ≤ s.size := by omega
  have hpw : IntKind.i64.wrap ((k : Int) + (j : Int)) = (p : Int) := (IntWalk.i64_in _ (by omega)).trans (by omega)
  have hq : (s.extract p s.size).size ≤ 100 := by rw [ByteArray.size_extract]; omega
  clear hpk
  go_cut [10] (fun s10 wx => s10 = .string ((s.extract 0 k ++ ⟨#[y]⟩) ++ s.extract p s.size) ∧ Below wc.drew.heap.size wc.drew wx)
  case first =>
    have hk3 : k ≤ s.size := by omega
    have hk4 : (k : Int) ≤ (s.size : Int) := by omega
    have hp0 : (0 : Int) ≤ (p : Int) := by omega
    have hp4 : (p : Int) ≤ (s.size : Int) := by omega
    have zk : ¬ 9223372036854775807 < k + 1 := by omega
    have zk2 : ¬ 9223372036854775807 < k + 1 + (s.size - p) := by omega
    refine region_here (fun Z => Z.cell? ⟨BA + 1, 1, none⟩ = some (.int .i64 q1) ∧ Z.cell? ⟨BA + 1, 2, none⟩ = some (.int .i64 q2) ∧ Below wc.drew.heap.size wc.drew Z) 16 (by kernel_rfl) ⟨e1, e2, Below.refl _ _⟩ (fun hHeld => ?_)
    refine wpAnyS_take [2, 8, 16, 17] (i := 0) (oi := ⟨_, _, _, _, _, _⟩) (v := ?_) (by simp) (by kernel_rfl) rfl (by kernel_rfl) (by kernel_rfl) (by kernel_rfl) (fun _ _ _ h => h) (Or.inl ⟨by rfl, ?_⟩) (by assumption) ?_
    rotate_left
    · (intro w hSw; (try dsimp only at hSw); go_simp; try with_reducible rfl)
    try simp only [Act.put, List.setIfInBounds_toArray, List.set_cons_zero, List.set_cons_succ]
    refine wpAnyS_take [2, 8, 16, 17] (i := 1) (oi := ⟨_, _, _, _, _, _⟩) (v := ?_) (by simp) (by kernel_rfl) rfl (by kernel_rfl) (by kernel_rfl) (by kernel_rfl) (fun _ _ _ h => h) (Or.inl ⟨by rfl, ?_⟩) (by assumption) ?_
    rotate_left
    · (intro w hSw; (try dsimp only at hSw); go_simp; try with_reducible rfl)
    try simp only [Act.put, List.setIfInBounds_toArray, List.set_cons_zero, List.set_cons_succ]
    refine wpAnyS_take [8, 16, 17] (i := 2) (oi := ⟨_, _, _, _, _, _⟩) (v := ?_) (by simp) (by kernel_rfl) rfl (by kernel_rfl) (by kernel_rfl) (by kernel_rfl) (fun _ _ _ h => h) (Or.inl ⟨by rfl, ?_⟩) (by assumption) ?_
    rotate_left
    · (intro w hSw; (try dsimp only at hSw); go_simp; try with_reducible rfl)
    try simp only [Act.put, List.setIfInBounds_toArray, List.set_cons_zero, List.set_cons_succ]
    refine wpAnyS_take [4, 5, 6, 7, 8, 16, 17] (i := 3) (oi := ⟨_, _, _, _, _, _⟩) (v := ?_) (by simp) (by kernel_rfl) rfl (by kernel_rfl) (by kernel_rfl) (by kernel_rfl) (fun _ _ _ h => h) (Or.inl ⟨by rfl, ?_⟩) (by assumption) ?_
    rotate_left
    · (intro w hSw; (try dsimp only at hSw); go_simp; try with_reducible rfl)
    try simp only [Act.put, List.setIfInBounds_toArray, List.set_cons_zero, List.set_cons_succ]
    refine wpAnyS_take [5, 6, 7, 8, 16, 17] (i := 4) (oi := ⟨_, _, _, _, _, _⟩) (v := ?_) (by simp) (by kernel_rfl) rfl (by kernel_rfl) (by kernel_rfl) (by kernel_rfl) (fun _ _ _ h => h) (Or.inl ⟨by rfl, ?_⟩) (by assumption) ?_
    rotate_left
    · (intro w hSw; (try dsimp only at hSw); go_simp; try with_reducible rfl)
    try simp only [Act.put, List.setIfInBounds_toArray, List.set_cons_zero, List.set_cons_succ]
    refine wpAnyS_take [6, 7, 8, 16, 17] (i := 5) (oi := ⟨_, _, _, _, _, _⟩) (v := ?_) (by simp) (by kernel_rfl) rfl (by kernel_rfl) (by kernel_rfl) (by kernel_rfl) (fun _ _ _ h => h) (Or.inl ⟨by rfl, ?_⟩) (by assumption) ?_
    rotate_left
    · (intro w hSw; (try dsimp only at hSw); go_simp; try with_reducible rfl)
    try simp only [Act.put, List.setIfInBounds_toArray, List.set_cons_zero, List.set_cons_succ]
    refine wpAnyS_take [15, 16, 17] (i := 9) (oi := ⟨_, _, _, _, _, _⟩) (v := ?_) (by simp) (by kernel_rfl) rfl (by kernel_rfl) (by kernel_rfl) (by kernel_rfl) (fun _ _ _ h => h) (Or.inl ⟨by rfl, ?_⟩) (by assumption) ?_
    rotate_left
    · (intro w hSw; (try dsimp only at hSw); go_simp; try with_reducible rfl)
    try simp only [Act.put, List.setIfInBounds_toArray, List.set_cons_zero, List.set_cons_succ]
    refine wpAnyS_take [14, 15, 16, 17] (i := 10) (oi := ⟨_, _, _, _, _, _⟩) (v := ?_) (by simp) (by kernel_rfl) rfl (by kernel_rfl) (by kernel_rfl) (by kernel_rfl) (fun _ _ _ h => h) (Or.inl ⟨by rfl, ?_⟩) (by assumption) ?_
    rotate_left
    · (intro w hSw; (try dsimp only at hSw); go_simp; try with_reducible rfl)
    try simp only [Act.put, List.setIfInBounds_toArray, List.set_cons_zero, List.set_cons_succ]
    refine wpAnyS_take [12, 13, 14, 15, 16, 17] (i := 11) (oi := ⟨_, _, _, _, _, _⟩) (v := ?_) (by simp) (by kernel_rfl) rfl (by kernel_rfl) (by kernel_rfl) (by kernel_rfl) (fun _ _ _ h => h) (Or.inl ⟨by rfl, ?_⟩) (by assumption) ?_
    rotate_left
    · (intro w hSw; (try dsimp only at hSw); go_simp; try with_reducible rfl)
    try simp only [Act.put, List.setIfInBounds_toArray, List.set_cons_zero, List.set_cons_succ]
    refine wpAnyS_take [13, 14, 15, 16, 17] (i := 12) (oi := ⟨_, _, _, _, _, _⟩) (v := ?_) (by simp) (by kernel_rfl) rfl (by kernel_rfl) (by kernel_rfl) (by kernel_rfl) (fun _ _ _ h => h) (Or.inl ⟨by rfl, ?_⟩) (by assumption) ?_
    rotate_left
    · (intro w hSw; (try dsimp only at hSw); go_simp; try with_reducible rfl)
    try simp only [Act.put, List.setIfInBounds_toArray, List.set_cons_zero, List.set_cons_succ]
    refine wpAnyS_two (i := 6) (j := 13) (oi := ⟨_, _, _, _, _, _⟩) (oj := ⟨_, _, _, _, _, _⟩) rfl rfl (by kernel_rfl) (fun K hK => ?_) (fun K hK => ?_)
    · skip
      go_simp
      first
        | (have kb : Blk (wm.alloc (.cells #[.int .u8 (y.toNat : Int)] 5)) wm.heap.size 5 #[.int .u8 (y.toNat : Int)] := Blk.new wm _ _; have hb4 : Below wm.heap.size wm (wm.alloc (.cells #[.int .u8 (y.toNat : Int)] 5)) := below_al (Below.refl wm.heap.size wm) _)
        | (have kb : Blk ((wc.alloc (.cells #[.int .u8 (y.toNat : Int)] 5)).drew) wc.heap.size 5 #[.int .u8 (y.toNat : Int)] := Blk.new wc.drew _ _; have hb4 : Below wc.drew.heap.size wc.drew ((wc.alloc (.cells #[.int .u8 (y.toNat : Int)] 5)).drew) := below_al (Below.refl wc.drew.heap.size wc.drew) _)
      refine hK.out _ _ ?_ (fun hHeld6 => ?_)
      · exact ⟨cell_b hb4 hHeld.1, cell_b hb4 hHeld.2.1, below_then hHeld.2.2 hb4⟩
      clear hK K
      try simp only [Act.put, List.setIfInBounds_toArray, List.set_cons_zero, List.set_cons_succ]
      refine wpAnyS_two (i := 7) (j := 13) (oi := ⟨_, _, _, _, _, _⟩) (oj := ⟨_, _, _, _, _, _⟩) rfl rfl (by kernel_rfl) (fun K hK => ?_) (fun K hK => ?_)
      · skip
        first
          | have hcv := run_bdg_str (one_bdg (kb.below hba kb.lt))
          | have hcv := run_bdg_str (one_bdg kb)
        go_simp
        refine hK.out _ _ ?_ (fun hHeld7 => ?_)
        · assumption
        clear hK K
        try simp only [Act.put, List.setIfInBounds_toArray, List.set_cons_zero, List.set_cons_succ]
        refine wpAnyS_take [16, 17] (i := 8) (oi := ⟨_, _, _, _, _, _⟩) (v := ?_) (by simp) (by kernel_rfl) rfl (by kernel_rfl) (by kernel_rfl) (by kernel_rfl) (fun _ _ _ h => h) (Or.inl ⟨by rfl, ?_⟩) (by assumption) ?_
        rotate_left
        · (intro w hSw; (try dsimp only at hSw); go_simp; try with_reducible rfl)
        try simp only [Act.put, List.setIfInBounds_toArray, List.set_cons_zero, List.set_cons_succ]
        refine wpAnyS_one (i := 13) (oi := ⟨_, _, _, _, _, _⟩) rfl (by kernel_rfl) (fun K hK => ?_)
        go_simp
        go_at_call 43
        (with_reducible refine (mj.out _).mono ?_)
        rintro e wm ⟨rfl, hba⟩
        (try go_wp2_with fail)
        refine hK.out _ _ ?_ (fun hHeld13 => ?_)
        · exact ⟨cell_b hba hHeld7.1, cell_b hba hHeld7.2.1, below_then hHeld7.2.2 hba⟩
        clear hK K
        try simp only [Act.put, List.setIfInBounds_toArray, List.set_cons_zero, List.set_cons_succ]
        refine wpAnyS_take [15, 16, 17] (i := 14) (oi := ⟨_, _, _, _, _, _⟩) (v := ?_) (by simp) (by kernel_rfl) rfl (by kernel_rfl) (by kernel_rfl) (by kernel_rfl) (fun _ _ _ h => h) (Or.inl ⟨by rfl, ?_⟩) (by assumption) ?_
        rotate_left
        · (intro w hSw; (try dsimp only at hSw); go_simp; try with_reducible rfl)
        try simp only [Act.put, List.setIfInBounds_toArray, List.set_cons_zero, List.set_cons_succ]
        refine wpAnyS_take [16, 17] (i := 15) (oi := ⟨_, _, _, _, _, _⟩) (v := ?_) (by simp) (by kernel_rfl) rfl (by kernel_rfl) (by kernel_rfl) (by kernel_rfl) (fun _ _ _ h => h) (Or.inl ⟨by rfl, ?_⟩) (by assumption) ?_
        rotate_left
        · (intro w hSw; (try dsimp only at hSw); go_simp; try with_reducible rfl)
        try simp only [Act.put, List.setIfInBounds_toArray, List.set_cons_zero, List.set_cons_succ]
        refine wpAnyS_call (k := 16) (ok := ⟨_, _, _, _, _, _⟩) rfl (by kernel_rfl) (by kernel_rfl) (fun K hK => ?_)
        go_simp
        refine hK.out _ _ ?_
        clear hK K
        try simp only [Act.put, List.setIfInBounds_toArray, List.set_cons_zero, List.set_cons_succ]
        refine wpAny_take (i := 17) (oi := ⟨_, _, _, _, _, _⟩) (v := ?_) rfl (by kernel_rfl) (by kernel_rfl) (by kernel_rfl) (fun _ _ _ h => h) (Or.inl ⟨by rfl, ?_⟩) ?_
        rotate_left
        · (intro w; go_simp; try with_reducible rfl)
        try simp only [Act.put, List.setIfInBounds_toArray, List.set_cons_zero, List.set_cons_succ]
        refine wpAny_done (by kernel_rfl) ?_ _
        go_wp2_with fail
        go_meet
        first
          | exact ⟨rfl, hHeld13.2.2⟩
          | exact ⟨rfl, hHeld7.2.2⟩
      · skip
        go_simp
        go_at_call 43
        (with_reducible refine (mj.out _).mono ?_)
        rintro e wm ⟨rfl, hba⟩
        (try go_wp2_with fail)
        refine hK.out _ _ ?_ (fun hHeld13 => ?_)
        · exact ⟨cell_b hba hHeld6.1, cell_b hba hHeld6.2.1, below_then hHeld6.2.2 hba⟩
        clear hK K
        try simp only [Act.put, List.setIfInBounds_toArray, List.set_cons_zero, List.set_cons_succ]
        refine wpAnyS_take [15, 16, 17] (i := 14) (oi := ⟨_, _, _, _, _, _⟩) (v := ?_) (by simp) (by kernel_rfl) rfl (by kernel_rfl) (by kernel_rfl) (by kernel_rfl) (fun _ _ _ h => h) (Or.inl ⟨by rfl, ?_⟩) (by assumption) ?_
        rotate_left
        · (intro w hSw; (try dsimp only at hSw); go_simp; try with_reducible rfl)
        try simp only [Act.put, List.setIfInBounds_toArray, List.set_cons_zero, List.set_cons_succ]
        refine wpAnyS_take [16, 17] (i := 15) (oi := ⟨_, _, _, _, _, _⟩) (v := ?_) (by simp) (by kernel_rfl) rfl (by kernel_rfl) (by kernel_rfl) (by kernel_rfl) (fun _ _ _ h => h) (Or.inl ⟨by rfl, ?_⟩) (by assumption) ?_
        rotate_left
        · (intro w hSw; (try dsimp only at hSw); go_simp; try with_reducible rfl)
        try simp only [Act.put, List.setIfInBounds_toArray, List.set_cons_zero, List.set_cons_succ]
        refine wpAnyS_one (i := 7) (oi := ⟨_, _, _, _, _, _⟩) rfl (by kernel_rfl) (fun K hK => ?_)
        first
          | have hcv := run_bdg_str (one_bdg (kb.below hba kb.lt))
          | have hcv := run_bdg_str (one_bdg kb)
        go_simp
        refine hK.out _ _ ?_ (fun hHeld7 => ?_)
        · assumption
        clear hK K
        try simp only [Act.put, List.setIfInBounds_toArray, List.set_cons_zero, List.set_cons_succ]
        refine wpAnyS_take [16, 17] (i := 8) (oi := ⟨_, _, _, _, _, _⟩) (v := ?_) (by simp) (by kernel_rfl) rfl (by kernel_rfl) (by kernel_rfl) (by kernel_rfl) (fun _ _ _ h => h) (Or.inl ⟨by rfl, ?_⟩) (by assumption) ?_
        rotate_left
        · (intro w hSw; (try dsimp only at hSw); go_simp; try with_reducible rfl)
        try simp only [Act.put, List.setIfInBounds_toArray, List.set_cons_zero, List.set_cons_succ]
        refine wpAnyS_call (k := 16) (ok := ⟨_, _, _, _, _, _⟩) rfl (by kernel_rfl) (by kernel_rfl) (fun K hK => ?_)
        go_simp
        refine hK.out _ _ ?_
        clear hK K
        try simp only [Act.put, List.setIfInBounds_toArray, List.set_cons_zero, List.set_cons_succ]
        refine wpAny_take (i := 17) (oi := ⟨_, _, _, _, _, _⟩) (v := ?_) rfl (by kernel_rfl) (by kernel_rfl) (by kernel_rfl) (fun _ _ _ h => h) (Or.inl ⟨by rfl, ?_⟩) ?_
        rotate_left
        · (intro w; go_simp; try with_reducible rfl)
        try simp only [Act.put, List.setIfInBounds_toArray, List.set_cons_zero, List.set_cons_succ]
        refine wpAny_done (by kernel_rfl) ?_ _
        go_wp2_with fail
        go_meet
        first
          | exact ⟨rfl, hHeld13.2.2⟩
          | exact ⟨rfl, hHeld7.2.2⟩
    · skip
      go_simp
      go_at_call 43
      (with_reducible refine (mj.out _).mono ?_)
      rintro e wm ⟨rfl, hba⟩
      (try go_wp2_with fail)
      refine hK.out _ _ ?_ (fun hHeld13 => ?_)
      · exact ⟨cell_b hba hHeld.1, cell_b hba hHeld.2.1, below_then hHeld.2.2 hba⟩
      clear hK K
      try simp only [Act.put, List.setIfInBounds_toArray, List.set_cons_zero, List.set_cons_succ]
      refine wpAnyS_take [15, 16, 17] (i := 14) (oi := ⟨_, _, _, _, _, _⟩) (v := ?_) (by simp) (by kernel_rfl) rfl (by kernel_rfl) (by kernel_rfl) (by kernel_rfl) (fun _ _ _ h => h) (Or.inl ⟨by rfl, ?_⟩) (by assumption) ?_
      rotate_left
      · (intro w hSw; (try dsimp only at hSw); go_simp; try with_reducible rfl)
      try simp only [Act.put, List.setIfInBounds_toArray, List.set_cons_zero, List.set_cons_succ]
      refine wpAnyS_take [16, 17] (i := 15) (oi := ⟨_, _, _, _, _, _⟩) (v := ?_) (by simp) (by kernel_rfl) rfl (by kernel_rfl) (by kernel_rfl) (by kernel_rfl) (fun _ _ _ h => h) (Or.inl ⟨by rfl, ?_⟩) (by assumption) ?_
      rotate_left
      · (intro w hSw; (try dsimp only at hSw); go_simp; try with_reducible rfl)
      try simp only [Act.put, List.setIfInBounds_toArray, List.set_cons_zero, List.set_cons_succ]
      refine wpAnyS_one (i := 6) (oi := ⟨_, _, _, _, _, _⟩) rfl (by kernel_rfl) (fun K hK => ?_)
      go_simp
      first
        | (have kb : Blk (wm.alloc (.cells #[.int .u8 (y.toNat : Int)] 5)) wm.heap.size 5 #[.int .u8 (y.toNat : Int)] := Blk.new wm _ _; have hb4 : Below wm.heap.size wm (wm.alloc (.cells #[.int .u8 (y.toNat : Int)] 5)) := below_al (Below.refl wm.heap.size wm) _)
        | (have kb : Blk ((wc.alloc (.cells #[.int .u8 (y.toNat : Int)] 5)).drew) wc.heap.size 5 #[.int .u8 (y.toNat : Int)] := Blk.new wc.drew _ _; have hb4 : Below wc.drew.heap.size wc.drew ((wc.alloc (.cells #[.int .u8 (y.toNat : Int)] 5)).drew) := below_al (Below.refl wc.drew.heap.size wc.drew) _)
      refine hK.out _ _ ?_ (fun hHeld6 => ?_)
      · exact ⟨cell_b hb4 hHeld13.1, cell_b hb4 hHeld13.2.1, below_then hHeld13.2.2 hb4⟩
      clear hK K
      try simp only [Act.put, List.setIfInBounds_toArray, List.set_cons_zero, List.set_cons_succ]
      refine wpAnyS_one (i := 7) (oi := ⟨_, _, _, _, _, _⟩) rfl (by kernel_rfl) (fun K hK => ?_)
      first
        | have hcv := run_bdg_str (one_bdg (kb.below hba kb.lt))
        | have hcv := run_bdg_str (one_bdg kb)
      go_simp
      refine hK.out _ _ ?_ (fun hHeld7 => ?_)
      · assumption
      clear hK K
      try simp only [Act.put, List.setIfInBounds_toArray, List.set_cons_zero, List.set_cons_succ]
      refine wpAnyS_take [16, 17] (i := 8) (oi := ⟨_, _, _, _, _, _⟩) (v := ?_) (by simp) (by kernel_rfl) rfl (by kernel_rfl) (by kernel_rfl) (by kernel_rfl) (fun _ _ _ h => h) (Or.inl ⟨by rfl, ?_⟩) (by assumption) ?_
      rotate_left
      · (intro w hSw; (try dsimp only at hSw); go_simp; try with_reducible rfl)
      try simp only [Act.put, List.setIfInBounds_toArray, List.set_cons_zero, List.set_cons_succ]
      refine wpAnyS_call (k := 16) (ok := ⟨_, _, _, _, _, _⟩) rfl (by kernel_rfl) (by kernel_rfl) (fun K hK => ?_)
      go_simp
      refine hK.out _ _ ?_
      clear hK K
      try simp only [Act.put, List.setIfInBounds_toArray, List.set_cons_zero, List.set_cons_succ]
      refine wpAny_take (i := 17) (oi := ⟨_, _, _, _, _, _⟩) (v := ?_) rfl (by kernel_rfl) (by kernel_rfl) (by kernel_rfl) (fun _ _ _ h => h) (Or.inl ⟨by rfl, ?_⟩) ?_
      rotate_left
      · (intro w; go_simp; try with_reducible rfl)
      try simp only [Act.put, List.setIfInBounds_toArray, List.set_cons_zero, List.set_cons_succ]
      refine wpAny_done (by kernel_rfl) ?_ _
      go_wp2_with fail
      go_meet
      first
        | exact ⟨rfl, hHeld13.2.2⟩
        | exact ⟨rfl, hHeld7.2.2⟩
  obtain ⟨rfl, hbc⟩ := hcut
  rename World => wd
  replace k3 := k3.below hbc k3.lt
  replace hB3 := below_then hB3 hbc
  clear k5 hbc mj e1 e2 hpw hy
  have hbs : ((s.extract 0 k ++ ⟨#[y]⟩) ++ s.extract p s.size).size ≤ 300 := by
    have e1 : (⟨#[y]⟩ : ByteArray).size = 1 := rfl
    rw [ByteArray.size_append, ByteArray.size_append, e1]
    omega
  generalize (s.extract 0 k ++ ⟨#[y]⟩) ++ s.extract p s.size = bent at hbs ⊢
  clear hps hq
  have c2 : wd.cell? ⟨BA, 2, none⟩ = some (.int .i64 c) := k3.cell 2
  go_upto_region 6 with (first
    | (go_at_call 23; (with_reducible refine (q4.out _).mono ?_); rintro e we ⟨rfl, hb⟩; replace hB3 := below_then hB3 hb; clear hb)
    | (go_at_call 22; (refine (q5.out _).mono ?_); rintro e we ⟨rfl, hb⟩; replace hB3 := below_then hB3 hb; clear hb)
    | (go_at_call 41; (with_reducible refine (q6.out _).mono ?_); rintro e we ⟨rfl, hb⟩; replace hB3 := below_then hB3 hb; clear hb))
  clear k3 c2 q4 q5 q6
  have hhs : ((⟨#[119, 111, 114, 107, 32, 48, 32, 53, 32]⟩ : ByteArray) ++ dH).size ≤ 100 := by
    have e9 : (⟨#[119, 111, 114, 107, 32, 48, 32, 53, 32]⟩ : ByteArray).size = 9 := rfl
    rw [ByteArray.size_append, e9]
    omega
  generalize (⟨#[119, 111, 114, 107, 32, 48, 32, 53, 32]⟩ : ByteArray) ++ dH = high at hhs ⊢
  clear zH z6 ho
  obtain ⟨m, hm⟩ : ∃ m, m = min raw.size 100 := ⟨_, rfl⟩
  have hmin : min (raw.size : Int) 100 = (m : Int) := by omega
  have hmr : m ≤ raw.size := by omega
  have hm1 : m ≤ 100 := by omega
  have hk3 : k ≤ s.size := by omega
  have hk4 : (k : Int) ≤ (s.size : Int) := by omega
  have zc : ¬ 9223372036854775807 < s.size + m := by omega
  have hrs : (raw.extract 0 m).size ≤ 100 := by rw [ByteArray.size_extract]; omega
  have hts : ∀ x ∈ [s, bent, raw.extract 0 m, s ++ raw.extract 0 m, s.extract 0 k, high], x.size ≤ 400 := by
    intro x hx
    simp only [List.mem_cons, List.not_mem_nil, or_false] at hx
    rcases hx with rfl | rfl | rfl | rfl | rfl | rfl
    · omega
    · omega
    · omega
    · rw [ByteArray.size_append]; omega
    · omega
    · omega
  have HTS := Lib.hid hts
  clear hts hm hr
  go_cut [85, 86, 87] (fun s85 s86 s87 wx => ∃ BT : Nat, s85 = .slice (some ⟨BT, 0, none⟩) 6 6 ∧ s86 = .int .i64 6 ∧ s87 = .int .i64 0 ∧ Blk wx BT 9 (([s, bent, raw.extract 0 m, s ++ raw.extract 0 m, s.extract 0 k, high].map Value.string).toArray) ∧ Below we.heap.size we wx)
  case first =>
    go_region
    all_goals go_wp2_with fail
    all_goals go_meet
    all_goals exact ⟨_, rfl, rfl, rfl, Blk.new _ _ _, below_al ((Below.refl _ _).drew) _⟩
  obtain ⟨BT, rfl, rfl, rfl, kT, hbc⟩ := hcut
  rename World => wf
  replace hB3 := below_then hB3 hbc
  clear hbc hmin hmr hm1 hk3 hk4 zc hrs hhs hbs hp hs0 hs1 hk2 hj2 ho2
  have hln : [s, bent, raw.extract 0 m, s ++ raw.extract 0 m, s.extract 0 k, high].length = 6 := rfl
  generalize [s, bent, raw.extract 0 m, s ++ raw.extract 0 m, s.extract 0 k, high] = ts at kT HTS hln
  have HLN := Lib.hid hln
  clear hln
  have hnb : ∀ b : Bool, (b != b) = false := fun b => by simp
  go_wp2_with fail
  go_loopw [13, 14, 15, 16, 17, 87] (fun _ _ _ _ _ s87 wr => ∃ i : Nat, i ≤ 6 ∧ s87 = .int .i64 (i : Int) ∧ Blk wr BT 9 ((ts.map Value.string).toArray) ∧ Below w.heap.size w wr) (fun _ _ _ _ _ s87 _ => 6 - (intOf s87).toNat)
  case atStart => exact ⟨0, by omega, rfl, kT, hB3⟩
  case round =>
    obtain ⟨i, hi, rfl, kT, hB⟩ := hrel
    by_cases hlt : i < 6
    · have hlt' : (i : Int) < 6 := by omega
      have hi0 : (0 : Int) ≤ (i : Int) := by omega
      obtain ⟨x, hx⟩ : ∃ x, ts[i]? = some x := ⟨_, List.getElem?_eq_getElem (by rw [HLN.out]; exact hlt)⟩
      have hxs := HTS.out x (List.mem_of_getElem? hx)
      have ci : wr.cell? ⟨BT, i, none⟩ = some (.string x) := (kT.cell i).trans (by simp [hx])
      have hq := str_same x
      clear hx
      go_wp2_with fail
      refine (Resume_any x hxs _ (HT.out.below hB) (HE.out.below hB) (HM.out.below hB)).mono ?_
      rintro e w1 ⟨hcase, hb1⟩
      have kT1 := kT.below hb1 kT.lt
      have hB1 := below_then hB hb1
      have m2 := Lib.hid (rResume_any x hxs w1)
      rcases hcase with ⟨d, t, v, g, hw, rfl, hg, kg⟩ | ⟨hw, rfl⟩
      · obtain ⟨hsv, hdt, ht, hv⟩ := save_back hw
        have hvs : (natS v).size ≤ 16 := natS_size (Nat.lt_trans hv (by decide +kernel))
        have e31 : saveS d t (sval (natS v)) = x := by rw [sval_natS]; exact hsv
        have HW := Lib.hid hw
        clear hw hsv hv
        go_wp2_with fail
        refine (m2.out).mono ?_
        rintro e w2 ⟨hcase, hb2⟩
        rcases hcase with ⟨d', t', v', g', hw', rfl, hg', kg'⟩ | ⟨hw', -⟩
        · rw [HW.out] at hw'
          obtain ⟨rfl, rfl, rfl⟩ : d = d' ∧ t = t' ∧ v = v' := by
            injection hw' with hw'
            injection hw' with h1 h2
            injection h2 with h2 h3
            exact ⟨h1, h2, h3⟩
          have kT2 := kT1.below hb2 kT1.lt
          have kg2 := kg.below hb2 kg.lt
          have hB2 := below_then hB1 hb2
          have hgg : g < g' := Nat.lt_of_lt_of_le kg.lt hg'
          have m31 : Hid (∀ W, Tabs W → Blk W g 46 (workA (natS v) d t) → Calls Tryz.prog 31 #[.pointer (some ⟨g, 0, none⟩)] W fun e w' => e = .returned (.string x) ∧ Below W.heap.size W w') := Lib.hid (fun W hT hk => e31 ▸ Save_yes g (natS v) d t (by omega) (by omega) ht W hT hk)
          have m46 : Hid (∀ W, Blk W g' 125 (rworkA (natS v) d t) → Calls Tryz.prog 46 #[.pointer (some ⟨g', 0, none⟩)] W fun e w' => e = .returned (.string x) ∧ Below W.heap.size W w') := Lib.hid (fun W hk => e31 ▸ rSave_yes g' (natS v) d t (by omega) (by omega) ht W hk)
          have m30 := Lib.hid (fun W hk => Step_zero g (natS v) d t hdt ht hvs W hk)
          have m47 := Lib.hid (fun W hk => rStep_zero g' (natS v) d t W hk)
          generalize decide (d = t) = bb at m30 m47
          have hge : w.heap.size ≤ g := Nat.le_trans hB.size hg
          have hbg : BT < g := Nat.lt_of_lt_of_le kT.lt hg
          clear hw' e31 m2 hb1 hb2 hg hg' kT kT1 kg hB hB1
          go_wp2_with (first
            | (go_at_call 31; (refine (m31.out _ ?_ ?_).mono ?_); (exact HT.out.below hB2); (with_reducible exact kg2); rintro e wz ⟨rfl, hb⟩; replace hB2 := below_then hB2 hb; replace kT2 := kT2.below hb kT2.lt; replace kg2 := kg2.below hb kg2.lt; replace kg' := kg'.below hb kg'.lt; clear hb)
            | (go_at_call 46; (refine (m46.out _ ?_).mono ?_); (with_reducible exact kg'); rintro e wz ⟨rfl, hb⟩; replace hB2 := below_then hB2 hb; replace kT2 := kT2.below hb kT2.lt; replace kg2 := kg2.below hb kg2.lt; replace kg' := kg'.below hb kg'.lt; clear hb)
            | (go_at_call 30; (refine (m30.out _ ?_).mono ?_); (with_reducible exact kg2); rintro e wz ⟨rfl, -, hg2⟩; replace hB2 := hB2.grown hg2 hB2.size (fun k e => by cases e; exact hge); replace kT2 := kT2.grown hg2 (by intro e; injection e with e; omega); replace kg' := kg'.grown hg2 (by intro e; injection e with e; omega); clear hg2)
            | (go_at_call 47; (refine (m47.out _ ?_).mono ?_); (with_reducible exact kg'); rintro e wz ⟨rfl, hb⟩; replace hB2 := below_then hB2 hb; replace kT2 := kT2.below hb kT2.lt; clear hb))
          go_roundw
          case rel => exact ⟨i + 1, by omega, by go_num, kT2, hB2⟩
          case measure => simp [intOf]; omega
        · rw [HW.out] at hw'; cases hw'
      · have HW := Lib.hid hw
        clear hw
        go_wp2_with fail
        refine (m2.out).mono ?_
        rintro e w2 ⟨hcase, hb2⟩
        rcases hcase with ⟨d', t', v', g', hw', -⟩ | ⟨-, rfl⟩
        · rw [HW.out] at hw'; cases hw'
        · have kT2 := kT1.below hb2 kT1.lt
          have hB2 := below_then hB1 hb2
          go_wp2_with fail
          go_roundw
          case rel => exact ⟨i + 1, by omega, by go_num, kT2, hB2⟩
          case measure => simp [intOf]; omega
    · obtain rfl : i = 6 := by omega
      go_wp2_with fail
      go_ret
      exact ⟨rfl, hB⟩

end Go.Proofs.YtebgmlbbilcbbaaGreatDoor
