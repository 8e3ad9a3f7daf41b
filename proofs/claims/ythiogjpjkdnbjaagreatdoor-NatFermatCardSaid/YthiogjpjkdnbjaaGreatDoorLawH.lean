/- The law NatFermat: it returns true. -/
import Derived.Test.YthiogjpjkdnbjaaGreatDoorLawG
import Derived.Test.YthiogjpjkdnbjaaGreatDoorPlainPrime
import Derived.Deep.RegionHeld3
import Derived.IntWalk
namespace Go.Proofs.YthiogjpjkdnbjaaGreatDoor
open Go.RowKit

section
variable {a e m : ByteArray} (ha : a.size ≤ 1000) (he : e.size ≤ 1000) (hm : m.size ≤ 1000)
include ha he hm
theorem ret_pow {x y z : Nat} (h1 : sval a = x) (h2 : sval e = y) (h3 : sval m = z) (h0 : z ≠ 0) : Ret 23 #[.string a, .string e, .string m] (.tuple #[.string (natS (x ^ y % z)), .bool true]) := fun W => by
  have := Pow_any a e m W (by omega) (by omega) (by omega)
  unfold powRes at this
  rw [h1, h2, h3, if_neg h0] at this
  exact this
theorem ret_pow0 (h0 : sval m = 0) : Ret 23 #[.string a, .string e, .string m] (.tuple #[.string ⟨#[]⟩, .bool false]) := fun W => by
  have := Pow_any a e m W (by omega) (by omega) (by omega)
  unfold powRes at this
  rw [if_pos h0] at this
  exact this
end
theorem ret_rof {z : Nat} (hz : z ≤ 9223372036854775807) : Ret 17 #[.int .i64 (z : Int)] (.string (natS z)) := fun W => by
  have := rOf (z : Int) W (by omega)
  rwa [Int.toNat_natCast] at this
theorem natS_small {z k : Nat} (hz : z < P8 k) (hk : k ≤ 1000) : (natS z).size ≤ 1000 := natS_sz hz hk
theorem natS_nil : natS 0 = ⟨#[]⟩ := by decide
theorem natS_one : natS 1 = ⟨#[1]⟩ := by decide
theorem natS_ne {z : Nat} (h : z ≠ 0) : (natS z).size ≠ 0 := fun e => h (by
  have h2 := sval_lt (natS z)
  rw [e, sval_natS] at h2
  have : z < 1 := h2
  omega)
theorem ne_nil {s : ByteArray} (h : s.size ≠ 0) : s ≠ ⟨#[]⟩ := fun e => h (by rw [e]; rfl)
theorem str_ne {s t : ByteArray} (h : s ≠ t) : (s.toList == t.toList) = false := by
  rw [beq_eq_false_iff_ne]
  intro e
  rw [ByteArray.toList_eq, ByteArray.toList_eq] at e
  exact h (ByteArray.ext (Array.toList_inj.1 e))
theorem pow_join (a u v z : Nat) : (a ^ u % z) * (a ^ v % z) % z = a ^ (u + v) % z := by rw [← Nat.mul_mod, ← Nat.pow_add]

/-- What the last line of NatFermat compares. -/
theorem fermat_end (A E P : Nat) (hP : P = 2305843009213691579) (hE : E = P - 1) : (natS (A % P) = ⟨#[]⟩ ∧ natS (A ^ E % P) = ⟨#[]⟩) ∨ (natS (A % P) ≠ ⟨#[]⟩ ∧ natS (A ^ E % P) = ⟨#[1]⟩) := by
  subst hE
  by_cases h : A % P = 0
  · left
    refine ⟨by rw [h, natS_nil], ?_⟩
    have e : A ^ (P - 1) % P = 0 := by
      rw [Nat.pow_mod, h, Nat.zero_pow (by omega), Nat.zero_mod]
    rw [e, natS_nil]
  · right
    refine ⟨ne_nil (natS_ne h), ?_⟩
    rw [(all_2305843009213691579 P hP).1 A h, natS_one]

set_option maxRecDepth 100000 in
set_option maxHeartbeats 2000000 in
theorem fermat_zero (A : Option Addr) (n c : Nat) (l : List UInt8) (C : Option Addr) (p q : Nat) (j : List UInt8) (u v : Nat) (a z : ByteArray) (w : World) (ht : Pow10 w) (hx : BDg w A n c l) (hy : BDg w C p q j)
    (hn : n ≤ 9223372036854775807) (hp : p ≤ 9223372036854775807) (hu : u ≤ 4294967295) (hv : v ≤ 4294967295) (hae : a = ⟨(l.take (min n 24)).toArray⟩) (hze : z = ⟨(j.take (min p 24)).toArray⟩) (h0 : sval z = 0) :
    Calls Tryz.prog 10 #[.slice A n c, .agg #[.int .u32 (u : Int), .int .u32 (v : Int)], .slice C p q] w fun e w' => e = .returned (.bool true) ∧ Below w.heap.size w w' := by
  have HT := Lib.hid ht
  clear ht
  obtain ⟨n1, hn1⟩ : ∃ n1, n1 = min n 24 := ⟨_, rfl⟩
  obtain ⟨p1, hp1⟩ : ∃ p1, p1 = min p 24 := ⟨_, rfl⟩
  rw [← hn1] at hae
  rw [← hp1] at hze
  have hcx := hx.cap
  have hcy := hy.cap
  have e1 : min (n : Int) 24 = (n1 : Int) := by omega
  have e3 : min (p : Int) 24 = (p1 : Int) := by omega
  have i1 : (0 : Int) ≤ (n1 : Int) := by omega
  have i2 : (n1 : Int) ≤ (c : Int) := by omega
  have i5 : (0 : Int) ≤ (p1 : Int) := by omega
  have i6 : (p1 : Int) ≤ (q : Int) := by omega
  have j1 : n1 ≤ c := by omega
  have j3 : p1 ≤ q := by omega
  have ha : a.size ≤ 24 := by rw [hae]; show (l.take n1).toArray.size ≤ 24; simp; omega
  have hz : z.size ≤ 24 := by rw [hze]; show (j.take p1).toArray.size ≤ 24; simp; omega
  have KA : Hid (∀ W, Below w.heap.size w W → (convert 22 24 (.slice A n1 c)).run Tryz.prog W = .ok (.string a) W) := Lib.hid (fun W hW => hae ▸ run_bdg_nat ((hx.below hW).take (by omega)))
  have KC : Hid (∀ W, Below w.heap.size w W → (convert 22 24 (.slice C p1 q)).run Tryz.prog W = .ok (.string z) W) := Lib.hid (fun W hW => hze ▸ run_bdg_nat ((hy.below hW).take (by omega)))
  clear hae hze hn1 hp1
  have ha' : a.size ≤ 1000 := by omega
  have hz' : z.size ≤ 1000 := by omega
  have pu : u < P8 8 := by rw [P8_8]; omega
  have pv : v < P8 8 := by rw [P8_8]; omega
  have sU := natS_sz pu (by omega)
  have sV := natS_sz pv (by omega)
  have sUV := natS_sz (P8_sum pu pv) (by omega)
  have H1 := Lib.hid (ret_pow0 ha' sU hz' h0)
  have H2 := Lib.hid (ret_pow0 ha' sV hz' h0)
  have H3 := Lib.hid (ret_add sU sV (n := u + v) (by rw [sval_natS, sval_natS]))
  have H4 := Lib.hid (ret_pow0 ha' sUV hz' h0)
  have H5 := Lib.hid ((ret_bits (a := z) hz' rfl).of (u := .int .i64 0) (by rw [h0]; rfl))
  obtain ⟨P, hP⟩ : ∃ P, P = 2305843009213691579 := ⟨_, rfl⟩
  obtain ⟨E, hE⟩ : ∃ E, E = P - 1 := ⟨_, rfl⟩
  have hPl : P < P8 8 := by rw [P8_8]; omega
  have hEl : E < P8 8 := by rw [P8_8]; omega
  have sPr := natS_sz hPl (by omega)
  have sE := natS_sz hEl (by omega)
  have H8 : Hid (Ret 17 #[.int .i64 2305843009213691579] (.string (natS P))) := Lib.hid (by
    have := ret_rof (z := P) (by omega)
    rwa [show (P : Int) = 2305843009213691579 by omega] at this)
  have H9 : Hid (Ret 17 #[.int .i64 2305843009213691578] (.string (natS E))) := Lib.hid (by
    have := ret_rof (z := E) (by omega)
    rwa [show (E : Int) = 2305843009213691578 by omega] at this)
  have H10 := Lib.hid (ret_pow ha' sE sPr rfl (sval_natS E) (sval_natS P) (by omega))
  have H11 := Lib.hid (ret_quo ha' sPr rfl (sval_natS P) (by omega))
  have HEND := Lib.hid (fermat_end (sval a) E P hP hE)
  have HU := Lib.hid (ret_rof (z := u) (by omega))
  have HV := Lib.hid (ret_rof (z := v) (by omega))
  clear hP hE hPl hEl pu pv h0
  generalize natS (sval a % P) = tR at *
  generalize natS (sval a / P) = tD at *
  generalize natS (sval a ^ E % P) = tO at *
  generalize natS P = tPr at *
  generalize natS E = tE at *
  generalize natS (u + v) = tUV at *
  generalize natS u = tU at *
  generalize natS v = tV at *
  clear sU sV sUV sPr sE
  go_enter Tryz.func10, Tryz.ntmps10
  go_wp2_with fail
  have hB0 : Below w.heap.size w (w.alloc (.cells #[.int .u32 (u : Int), .int .u32 (v : Int)] 53)) := below_al (Below.refl _ _) _
  have hbG0 := Blk.new w 53 #[.int .u32 (u : Int), .int .u32 (v : Int)]
  generalize (w.alloc (.cells #[.int .u32 (u : Int), .int .u32 (v : Int)] 53)) = w0 at hB0 hbG0 ⊢
  refine (sanity_any _ (HT.out.below hB0)).mono ?_
  rintro e w1 ⟨rfl, hb1⟩
  have hbG1 := hbG0.belowK hb1
  have hB1 := below_then hB0 hb1
  have ka := fun nq => KA.out (w1.drewN nq) (below_drewN hB1 nq)
  have kc := fun nq => KC.out (w1.drewN nq) (below_drewN hB1 nq)
  go_wp2_with fail
  go_quiet (fail)
  clear ka kc
  have hbG2 : Blk (w1.drewN nq) w.heap.size 53 #[.int .u32 (u : Int), .int .u32 (v : Int)] := hbG1
  replace hB1 := below_drewN hB1 nq
  generalize w1.drewN nq = w2 at hB1 hbG2 ⊢
  go_upto_region 3 with fail
  have wu : IntKind.i64.wrap (u : Int) = (u : Int) := IntWalk.i64_in _ (by omega)
  have wv : IntKind.i64.wrap (v : Int) = (v : Int) := IntWalk.i64_in _ (by omega)
  have hg0 := hbG2.cell 0
  have hg1 := hbG2.cell 1
  go_cut [10, 11] (fun s10 s11 wx => s10 = .string tU ∧ s11 = .string tV ∧ Below w2.heap.size w2 wx)
  case first =>
    go_region_held3 (fun w' => w'.cell? ⟨w.heap.size, 0, none⟩ = some (.int .u32 (u : Int)) ∧ w'.cell? ⟨w.heap.size, 1, none⟩ = some (.int .u32 (v : Int))) ((refine hbG2.kept2 ?_; (repeat (first | exact Below.refl _ _ | apply Below.drew | refine below_then ?_ hba | refine below_then ?_ hbb)))) (first
      | (go_at_call 17; (with_reducible refine (HU.out _).mono ?_); rintro e wa ⟨rfl, hba⟩)
      | (go_at_call 17; (with_reducible refine (HV.out _).mono ?_); rintro e wb ⟨rfl, hbb⟩))
    all_goals go_wp2_with fail
    all_goals go_meet
    all_goals
      refine ⟨rfl, rfl, ?_⟩
      (repeat (first | exact Below.refl _ _ | apply Below.drew | refine below_then ?_ hba | refine below_then ?_ hbb))
  obtain ⟨rfl, rfl, hb3⟩ := hcut
  have hB := below_then hB1 hb3
  rcases HEND.out with ⟨rfl, rfl⟩ | ⟨hne, rfl⟩
  · go_wp2_with (first
    | (go_at_call 23; (with_reducible refine (H1.out _).mono ?_); rintro e w' ⟨rfl, hb''⟩; replace hB := below_then hB hb''; clear hb'')
    | (go_at_call 23; (with_reducible refine (H2.out _).mono ?_); rintro e w' ⟨rfl, hb''⟩; replace hB := below_then hB hb''; clear hb'')
    | (go_at_call 39; (with_reducible refine (H3.out _).mono ?_); rintro e w' ⟨rfl, hb''⟩; replace hB := below_then hB hb''; clear hb'')
    | (go_at_call 23; (with_reducible refine (H4.out _).mono ?_); rintro e w' ⟨rfl, hb''⟩; replace hB := below_then hB hb''; clear hb'')
    | (go_at_call 34; (with_reducible refine (H5.out _).mono ?_); rintro e w' ⟨rfl, hb''⟩; replace hB := below_then hB hb''; clear hb'')
    | (go_at_call 17; (with_reducible refine (H8.out _).mono ?_); rintro e w' ⟨rfl, hb''⟩; replace hB := below_then hB hb''; clear hb'')
    | (go_at_call 17; (with_reducible refine (H9.out _).mono ?_); rintro e w' ⟨rfl, hb''⟩; replace hB := below_then hB hb''; clear hb'')
    | (go_at_call 23; (with_reducible refine (H10.out _).mono ?_); rintro e w' ⟨rfl, hb''⟩; replace hB := below_then hB hb''; clear hb'')
    | (go_at_call 19; (with_reducible refine (H11.out _).mono ?_); rintro e w' ⟨rfl, hb''⟩; replace hB := below_then hB hb''; clear hb''))
    go_ret
    exact ⟨rfl, hB⟩
  · have hq : (tR.toList == (⟨#[]⟩ : ByteArray).toList) = false := str_ne hne
    have hq2 : (tR.toList == []) = false := by have e : (⟨#[]⟩ : ByteArray).toList = [] := by rw [ByteArray.toList_eq]
                                               rw [← e]; exact hq
    go_wp2_with (first
    | (go_at_call 23; (with_reducible refine (H1.out _).mono ?_); rintro e w' ⟨rfl, hb''⟩; replace hB := below_then hB hb''; clear hb'')
    | (go_at_call 23; (with_reducible refine (H2.out _).mono ?_); rintro e w' ⟨rfl, hb''⟩; replace hB := below_then hB hb''; clear hb'')
    | (go_at_call 39; (with_reducible refine (H3.out _).mono ?_); rintro e w' ⟨rfl, hb''⟩; replace hB := below_then hB hb''; clear hb'')
    | (go_at_call 23; (with_reducible refine (H4.out _).mono ?_); rintro e w' ⟨rfl, hb''⟩; replace hB := below_then hB hb''; clear hb'')
    | (go_at_call 34; (with_reducible refine (H5.out _).mono ?_); rintro e w' ⟨rfl, hb''⟩; replace hB := below_then hB hb''; clear hb'')
    | (go_at_call 17; (with_reducible refine (H8.out _).mono ?_); rintro e w' ⟨rfl, hb''⟩; replace hB := below_then hB hb''; clear hb'')
    | (go_at_call 17; (with_reducible refine (H9.out _).mono ?_); rintro e w' ⟨rfl, hb''⟩; replace hB := below_then hB hb''; clear hb'')
    | (go_at_call 23; (with_reducible refine (H10.out _).mono ?_); rintro e w' ⟨rfl, hb''⟩; replace hB := below_then hB hb''; clear hb'')
    | (go_at_call 19; (with_reducible refine (H11.out _).mono ?_); rintro e w' ⟨rfl, hb''⟩; replace hB := below_then hB hb''; clear hb''))
    go_ret
    exact ⟨rfl, hB⟩

set_option maxRecDepth 100000 in
set_option maxHeartbeats 2000000 in
theorem fermat_pos (A : Option Addr) (n c : Nat) (l : List UInt8) (C : Option Addr) (p q : Nat) (j : List UInt8) (u v : Nat) (a z : ByteArray) (w : World) (ht : Pow10 w) (hx : BDg w A n c l) (hy : BDg w C p q j)
    (hn : n ≤ 9223372036854775807) (hp : p ≤ 9223372036854775807) (hu : u ≤ 4294967295) (hv : v ≤ 4294967295) (hae : a = ⟨(l.take (min n 24)).toArray⟩) (hze : z = ⟨(j.take (min p 24)).toArray⟩) (h0 : sval z ≠ 0) :
    Calls Tryz.prog 10 #[.slice A n c, .agg #[.int .u32 (u : Int), .int .u32 (v : Int)], .slice C p q] w fun e w' => e = .returned (.bool true) ∧ Below w.heap.size w w' := by
  have HT := Lib.hid ht
  clear ht
  obtain ⟨n1, hn1⟩ : ∃ n1, n1 = min n 24 := ⟨_, rfl⟩
  obtain ⟨p1, hp1⟩ : ∃ p1, p1 = min p 24 := ⟨_, rfl⟩
  rw [← hn1] at hae
  rw [← hp1] at hze
  have hcx := hx.cap
  have hcy := hy.cap
  have e1 : min (n : Int) 24 = (n1 : Int) := by omega
  have e3 : min (p : Int) 24 = (p1 : Int) := by omega
  have i1 : (0 : Int) ≤ (n1 : Int) := by omega
  have i2 : (n1 : Int) ≤ (c : Int) := by omega
  have i5 : (0 : Int) ≤ (p1 : Int) := by omega
  have i6 : (p1 : Int) ≤ (q : Int) := by omega
  have j1 : n1 ≤ c := by omega
  have j3 : p1 ≤ q := by omega
  have ha : a.size ≤ 24 := by rw [hae]; show (l.take n1).toArray.size ≤ 24; simp; omega
  have hz : z.size ≤ 24 := by rw [hze]; show (j.take p1).toArray.size ≤ 24; simp; omega
  have KA : Hid (∀ W, Below w.heap.size w W → (convert 22 24 (.slice A n1 c)).run Tryz.prog W = .ok (.string a) W) := Lib.hid (fun W hW => hae ▸ run_bdg_nat ((hx.below hW).take (by omega)))
  have KC : Hid (∀ W, Below w.heap.size w W → (convert 22 24 (.slice C p1 q)).run Tryz.prog W = .ok (.string z) W) := Lib.hid (fun W hW => hze ▸ run_bdg_nat ((hy.below hW).take (by omega)))
  clear hae hze hn1 hp1
  have ha' : a.size ≤ 1000 := by omega
  have hz' : z.size ≤ 1000 := by omega
  have pu : u < P8 8 := by rw [P8_8]; omega
  have pv : v < P8 8 := by rw [P8_8]; omega
  have sU := natS_sz pu (by omega)
  have sV := natS_sz pv (by omega)
  have sUV := natS_sz (P8_sum pu pv) (by omega)
  have hZ := sval_le hz
  have hpz : ∀ x, x % sval z < P8 24 := fun x => Nat.lt_trans (Nat.mod_lt _ (by omega)) hZ
  have sP := natS_sz (hpz (sval a ^ u)) (by omega)
  have sQ := natS_sz (hpz (sval a ^ v)) (by omega)
  have sM := natS_sz (P8_prod (hpz (sval a ^ u)) (hpz (sval a ^ v))) (by omega)
  have H1 := Lib.hid (ret_pow ha' sU hz' rfl (sval_natS u) rfl h0)
  have H2 := Lib.hid (ret_pow ha' sV hz' rfl (sval_natS v) rfl h0)
  have H3 := Lib.hid (ret_add sU sV (n := u + v) (by rw [sval_natS, sval_natS]))
  have H4 := Lib.hid (ret_pow ha' sUV hz' rfl (sval_natS (u + v)) rfl h0)
  obtain ⟨bz, hbz⟩ : ∃ bz, bz = bitsN (sval z) := ⟨_, rfl⟩
  have hbp : 0 < bz := by
    obtain ⟨k, hk, _, _⟩ := bitsN_bounds (n := sval z) h0
    omega
  have H5 := Lib.hid (ret_bits (a := z) hz' hbz.symm)
  have H6 := Lib.hid (ret_mul sP sQ (n := (sval a ^ u % sval z) * (sval a ^ v % sval z)) (by rw [sval_natS, sval_natS]))
  have H7 := Lib.hid (ret_quo sM hz' (sval_natS _) rfl h0)
  rw [pow_join] at H7
  clear hbz hZ hpz
  obtain ⟨P, hP⟩ : ∃ P, P = 2305843009213691579 := ⟨_, rfl⟩
  obtain ⟨E, hE⟩ : ∃ E, E = P - 1 := ⟨_, rfl⟩
  have hPl : P < P8 8 := by rw [P8_8]; omega
  have hEl : E < P8 8 := by rw [P8_8]; omega
  have sPr := natS_sz hPl (by omega)
  have sE := natS_sz hEl (by omega)
  have H8 : Hid (Ret 17 #[.int .i64 2305843009213691579] (.string (natS P))) := Lib.hid (by
    have := ret_rof (z := P) (by omega)
    rwa [show (P : Int) = 2305843009213691579 by omega] at this)
  have H9 : Hid (Ret 17 #[.int .i64 2305843009213691578] (.string (natS E))) := Lib.hid (by
    have := ret_rof (z := E) (by omega)
    rwa [show (E : Int) = 2305843009213691578 by omega] at this)
  have H10 := Lib.hid (ret_pow ha' sE sPr rfl (sval_natS E) (sval_natS P) (by omega))
  have H11 := Lib.hid (ret_quo ha' sPr rfl (sval_natS P) (by omega))
  have HEND := Lib.hid (fermat_end (sval a) E P hP hE)
  have HU := Lib.hid (ret_rof (z := u) (by omega))
  have HV := Lib.hid (ret_rof (z := v) (by omega))
  clear hP hE hPl hEl pu pv h0
  generalize natS (sval a ^ u % sval z * (sval a ^ v % sval z)) = tM at *
  generalize natS (sval a ^ u % sval z * (sval a ^ v % sval z) / sval z) = tMQ at *
  generalize natS (sval a ^ u % sval z) = tP at *
  generalize natS (sval a ^ v % sval z) = tQ at *
  generalize natS (sval a ^ (u + v) % sval z) = tB at *
  generalize natS (sval a % P) = tR at *
  generalize natS (sval a / P) = tD at *
  generalize natS (sval a ^ E % P) = tO at *
  generalize natS P = tPr at *
  generalize natS E = tE at *
  generalize natS (u + v) = tUV at *
  generalize natS u = tU at *
  generalize natS v = tV at *
  clear sU sV sUV sPr sE
  go_enter Tryz.func10, Tryz.ntmps10
  go_wp2_with fail
  have hB0 : Below w.heap.size w (w.alloc (.cells #[.int .u32 (u : Int), .int .u32 (v : Int)] 53)) := below_al (Below.refl _ _) _
  have hbG0 := Blk.new w 53 #[.int .u32 (u : Int), .int .u32 (v : Int)]
  generalize (w.alloc (.cells #[.int .u32 (u : Int), .int .u32 (v : Int)] 53)) = w0 at hB0 hbG0 ⊢
  refine (sanity_any _ (HT.out.below hB0)).mono ?_
  rintro e w1 ⟨rfl, hb1⟩
  have hbG1 := hbG0.belowK hb1
  have hB1 := below_then hB0 hb1
  have ka := fun nq => KA.out (w1.drewN nq) (below_drewN hB1 nq)
  have kc := fun nq => KC.out (w1.drewN nq) (below_drewN hB1 nq)
  go_wp2_with fail
  go_quiet (fail)
  clear ka kc
  have hbG2 : Blk (w1.drewN nq) w.heap.size 53 #[.int .u32 (u : Int), .int .u32 (v : Int)] := hbG1
  replace hB1 := below_drewN hB1 nq
  generalize w1.drewN nq = w2 at hB1 hbG2 ⊢
  go_upto_region 3 with fail
  have wu : IntKind.i64.wrap (u : Int) = (u : Int) := IntWalk.i64_in _ (by omega)
  have wv : IntKind.i64.wrap (v : Int) = (v : Int) := IntWalk.i64_in _ (by omega)
  have hg0 := hbG2.cell 0
  have hg1 := hbG2.cell 1
  go_cut [10, 11] (fun s10 s11 wx => s10 = .string tU ∧ s11 = .string tV ∧ Below w2.heap.size w2 wx)
  case first =>
    go_region_held3 (fun w' => w'.cell? ⟨w.heap.size, 0, none⟩ = some (.int .u32 (u : Int)) ∧ w'.cell? ⟨w.heap.size, 1, none⟩ = some (.int .u32 (v : Int))) ((refine hbG2.kept2 ?_; (repeat (first | exact Below.refl _ _ | apply Below.drew | refine below_then ?_ hba | refine below_then ?_ hbb)))) (first
      | (go_at_call 17; (with_reducible refine (HU.out _).mono ?_); rintro e wa ⟨rfl, hba⟩)
      | (go_at_call 17; (with_reducible refine (HV.out _).mono ?_); rintro e wb ⟨rfl, hbb⟩))
    all_goals go_wp2_with fail
    all_goals go_meet
    all_goals
      refine ⟨rfl, rfl, ?_⟩
      (repeat (first | exact Below.refl _ _ | apply Below.drew | refine below_then ?_ hba | refine below_then ?_ hbb))
  obtain ⟨rfl, rfl, hb3⟩ := hcut
  have hB := below_then hB1 hb3
  rcases HEND.out with ⟨rfl, rfl⟩ | ⟨hne, rfl⟩
  · go_wp2_with (first
    | (go_at_call 23; (with_reducible refine (H1.out _).mono ?_); rintro e w' ⟨rfl, hb''⟩; replace hB := below_then hB hb''; clear hb'')
    | (go_at_call 23; (with_reducible refine (H2.out _).mono ?_); rintro e w' ⟨rfl, hb''⟩; replace hB := below_then hB hb''; clear hb'')
    | (go_at_call 39; (with_reducible refine (H3.out _).mono ?_); rintro e w' ⟨rfl, hb''⟩; replace hB := below_then hB hb''; clear hb'')
    | (go_at_call 23; (with_reducible refine (H4.out _).mono ?_); rintro e w' ⟨rfl, hb''⟩; replace hB := below_then hB hb''; clear hb'')
    | (go_at_call 34; (with_reducible refine (H5.out _).mono ?_); rintro e w' ⟨rfl, hb''⟩; replace hB := below_then hB hb''; clear hb'')
    | (go_at_call 30; (with_reducible refine (H6.out _).mono ?_); rintro e w' ⟨rfl, hb''⟩; replace hB := below_then hB hb''; clear hb'')
    | (go_at_call 19; (with_reducible refine (H7.out _).mono ?_); rintro e w' ⟨rfl, hb''⟩; replace hB := below_then hB hb''; clear hb'')
    | (go_at_call 17; (with_reducible refine (H8.out _).mono ?_); rintro e w' ⟨rfl, hb''⟩; replace hB := below_then hB hb''; clear hb'')
    | (go_at_call 17; (with_reducible refine (H9.out _).mono ?_); rintro e w' ⟨rfl, hb''⟩; replace hB := below_then hB hb''; clear hb'')
    | (go_at_call 23; (with_reducible refine (H10.out _).mono ?_); rintro e w' ⟨rfl, hb''⟩; replace hB := below_then hB hb''; clear hb'')
    | (go_at_call 19; (with_reducible refine (H11.out _).mono ?_); rintro e w' ⟨rfl, hb''⟩; replace hB := below_then hB hb''; clear hb''))
    go_ret
    exact ⟨rfl, hB⟩
  · have hq : (tR.toList == (⟨#[]⟩ : ByteArray).toList) = false := str_ne hne
    have hq2 : (tR.toList == []) = false := by have e : (⟨#[]⟩ : ByteArray).toList = [] := by rw [ByteArray.toList_eq]
                                               rw [← e]; exact hq
    go_wp2_with (first
    | (go_at_call 23; (with_reducible refine (H1.out _).mono ?_); rintro e w' ⟨rfl, hb''⟩; replace hB := below_then hB hb''; clear hb'')
    | (go_at_call 23; (with_reducible refine (H2.out _).mono ?_); rintro e w' ⟨rfl, hb''⟩; replace hB := below_then hB hb''; clear hb'')
    | (go_at_call 39; (with_reducible refine (H3.out _).mono ?_); rintro e w' ⟨rfl, hb''⟩; replace hB := below_then hB hb''; clear hb'')
    | (go_at_call 23; (with_reducible refine (H4.out _).mono ?_); rintro e w' ⟨rfl, hb''⟩; replace hB := below_then hB hb''; clear hb'')
    | (go_at_call 34; (with_reducible refine (H5.out _).mono ?_); rintro e w' ⟨rfl, hb''⟩; replace hB := below_then hB hb''; clear hb'')
    | (go_at_call 30; (with_reducible refine (H6.out _).mono ?_); rintro e w' ⟨rfl, hb''⟩; replace hB := below_then hB hb''; clear hb'')
    | (go_at_call 19; (with_reducible refine (H7.out _).mono ?_); rintro e w' ⟨rfl, hb''⟩; replace hB := below_then hB hb''; clear hb'')
    | (go_at_call 17; (with_reducible refine (H8.out _).mono ?_); rintro e w' ⟨rfl, hb''⟩; replace hB := below_then hB hb''; clear hb'')
    | (go_at_call 17; (with_reducible refine (H9.out _).mono ?_); rintro e w' ⟨rfl, hb''⟩; replace hB := below_then hB hb''; clear hb'')
    | (go_at_call 23; (with_reducible refine (H10.out _).mono ?_); rintro e w' ⟨rfl, hb''⟩; replace hB := below_then hB hb''; clear hb'')
    | (go_at_call 19; (with_reducible refine (H11.out _).mono ?_); rintro e w' ⟨rfl, hb''⟩; replace hB := below_then hB hb''; clear hb''))
    go_ret
    exact ⟨rfl, hB⟩

theorem NatFermat_any (A : Option Addr) (n c : Nat) (l : List UInt8) (u v : Nat) (C : Option Addr) (p q : Nat) (j : List UInt8) (w : World) (ht : Pow10 w) (hx : BDg w A n c l) (hy : BDg w C p q j)
    (hn : n ≤ 9223372036854775807) (hp : p ≤ 9223372036854775807) (huv : u ≤ 4294967295 ∧ v ≤ 4294967295) :
    Calls Tryz.prog 10 #[.slice A n c, .agg #[.int .u32 (u : Int), .int .u32 (v : Int)], .slice C p q] w fun e w' => e = .returned (.bool true) ∧ Below w.heap.size w w' := by
  by_cases h0 : sval ⟨(j.take (min p 24)).toArray⟩ = 0
  · exact fermat_zero A n c l C p q j u v _ _ w ht hx hy hn hp huv.1 huv.2 rfl rfl h0
  · exact fermat_pos A n c l C p q j u v _ _ w ht hx hy hn hp huv.1 huv.2 rfl rfl h0

end Go.Proofs.YthiogjpjkdnbjaaGreatDoor
