/- Delays: Verify and Prove of the reference. -/
import Derived.Test.YtebgmlbbilcbbaaGreatDoorDelHelp
namespace Go.Proofs.YtebgmlbbilcbbaaGreatDoor
open Go.RowKit

theorem rVerify_bad (t : Int) (h : ∀ n : Nat, n ≤ 20 → t ≠ ((2 ^ n : Nat) : Int)) (x y : ByteArray) (A : Option Addr) (n c : Nat) (hx : x.size ≤ 400) (hy : y.size ≤ 400) : Ret 35 #[.string x, .string y, .int .i64 t, .slice A n c] (.bool false) := by
  intro w
  have m1 := Lib.hid (Log_no t h)
  have m2 := Lib.hid (rReduced_q x (by omega))
  have m3 := Lib.hid (rReduced_q y (by omega))
  clear h
  go_enter Tryz.func35, Tryz.ntmps35
  go_wp2_with fail
  refine (m1.out _).mono ?_
  rintro e w1 ⟨rfl, hB⟩
  go_wp2_with fail
  refine (m2.out _).mono ?_
  rintro e w2 ⟨rfl, hb⟩
  replace hB := below_then hB hb
  go_wp2_with fail
  refine (m3.out _).mono ?_
  rintro e w3 ⟨rfl, hb⟩
  replace hB := below_then hB hb
  go_wp2_with fail
  go_ret
  exact ⟨rfl, hB⟩

/-- The halvings of Verify so far. -/
structure VerIs (x y : ByteArray) (T : Nat) (ms : List ByteArray) (i : Nat) (p q : ByteArray) (s : Nat) : Prop where
  one : (sval p, sval q) = chainN (sval x) (sval y) T ((ms.take i).map sval)
  size : s = T / 2 ^ i
  redp : redN p = true
  redq : redN q = true
  all : (ms.take i).all redN = true
theorem VerIs.step {x y : ByteArray} {T i s : Nat} {p q m : ByteArray} {ms : List ByteArray} (h : VerIs x y T ms i p q s) (hl : i < ms.length) (hm : ms[i]? = some m) (hr : redN m = true) :
    VerIs x y T ms (i + 1) (natS (halveN (sval p) (sval q) (sval m) s).1) (natS (halveN (sval p) (sval q) (sval m) s).2) (s / 2) := by
  have e : ms.take (i + 1) = ms.take i ++ [m] := by rw [List.take_add_one, hm]; rfl
  have hlt := halve_lt (sval p) (sval q) (sval m) s
  refine ⟨?_, ?_, redN_natS hlt.1, redN_natS hlt.2, ?_⟩
  · rw [e, List.map_append, sval_natS, sval_natS]
    show _ = chainN _ _ _ (_ ++ [sval m])
    rw [chain_snoc, ← h.one, List.length_map, List.length_take, Nat.min_eq_left (by omega), ← h.size]
  · rw [h.size, Nat.pow_succ, Nat.div_div_eq_div_mul]
  · rw [e, List.all_append, h.all]; simp [hr]

set_option maxRecDepth 100000 in
set_option maxHeartbeats 2000000 in
theorem rVerify_yes (x y : ByteArray) (N : Nat) (hN : N ≤ 20) (A : Option Addr) (n c : Nat) (ms : List ByteArray) (hx : x.size ≤ 400) (hy : y.size ≤ 400) (hms : ∀ m ∈ ms, m.size ≤ 400) (hn : n ≤ 100000) (w : World) (hm : NDg w A n c ms) :
    Calls Tryz.prog 35 #[.string x, .string y, .int .i64 ((2 ^ N : Nat) : Int), .slice A n c] w fun e w' => e = .returned (.bool (verN N x y ms)) ∧ Below w.heap.size w w' := by
  have m1 := Lib.hid (Log_yes N hN)
  have m2 := Lib.hid (rReduced_q x (by omega))
  have m3 := Lib.hid (rReduced_q y (by omega))
  have h20 := pow_le20 hN
  obtain ⟨V, hV⟩ : ∃ V, V = verN N x y ms := ⟨_, rfl⟩
  rw [← hV]
  have HV := Lib.hid hV
  obtain ⟨T, hTT⟩ : ∃ T : Nat, T = 2 ^ N := ⟨_, rfl⟩
  rw [← hTT] at m1 h20 ⊢
  have HTT := Lib.hid hTT
  have HMS := Lib.hid hms
  clear hTT hV hms
  go_enter Tryz.func35, Tryz.ntmps35
  go_wp2_with fail
  refine (m1.out _).mono ?_
  rintro e w1 ⟨rfl, hB⟩
  go_wp2_with fail
  refine (m2.out _).mono ?_
  rintro e w2 ⟨rfl, hb⟩
  replace hB := below_then hB hb
  go_wp2_with fail
  refine (m3.out _).mono ?_
  rintro e w3 ⟨rfl, hb⟩
  replace hB := below_then hB hb
  clear hb m1 m2 m3
  cases hrx : redN x with
  | false =>
    have hVf : V = false := by rw [HV.out]; unfold verN; rw [hrx]; rfl
    subst hVf
    go_wp2_with fail
    go_ret
    exact ⟨rfl, hB⟩
  | true =>
    cases hry : redN y with
    | false =>
      have hVf : V = false := by rw [HV.out]; unfold verN; rw [hrx, hry]; rfl
      subst hVf
      go_wp2_with fail
      go_ret
      exact ⟨rfl, hB⟩
    | true =>
      by_cases hlen : n = N
      · have heq : ((n : Int) != (N : Int)) = false := by simp; omega
        have HI : Hid (VerIs x y T ms 0 x y T) := Lib.hid ⟨by rw [List.take_zero, List.map_nil, chain_nil], by simp, hrx, hry, by simp⟩
        have HRX := Lib.hid (And.intro hrx hry)
        clear hrx hry
        replace hm := hm.below hB
        obtain rfl : n = N := hlen
        go_wp2_with fail
        go_loopw [0, 1, 2, 13, 14] (fun s0 s1 s2 s13 _ wr => ∃ (i : Nat) (p q : ByteArray) (s : Nat), i ≤ n ∧ s0 = .string p ∧ s1 = .string q ∧ s2 = .int .i64 (s : Int) ∧ s13 = .int .i64 (i : Int) ∧ s ≤ 1048576 ∧ Hid (VerIs x y T ms i p q s) ∧ NDg wr A n c ms ∧ Below w.heap.size w wr) (fun _ _ _ s13 _ _ => n - (intOf s13).toNat)
        case atStart => exact ⟨0, x, y, T, Nat.zero_le _, rfl, rfl, rfl, rfl, h20, HI, hm, hB⟩
        case round =>
          obtain ⟨i, p, q, s, hi, rfl, rfl, rfl, rfl, hs, HI, hm, hB⟩ := hrel
          have hp := redN_size HI.out.redp
          have hq := redN_size HI.out.redq
          by_cases hlt : i < n
          · have hlt' : (i : Int) < (n : Int) := by omega
            obtain ⟨b, o, m, rfl, hmi, hmc⟩ := hm.get hlt
            have hms := HMS.out m (List.mem_of_getElem? hmi)
            have q1 := Lib.hid (rReduced_q m (by omega))
            have q2 := Lib.hid (rHalve_q p q m s (by omega) (by omega) (by omega) (by omega))
            have HMI := Lib.hid hmi
            clear hmi
            go_wp2_with fail
            refine (q1.out _).mono ?_
            rintro e w4 ⟨rfl, hb⟩
            replace hm := hm.below hb
            replace hB := below_then hB hb
            replace hmc := (hb.cell (p := ⟨b, o + i, none⟩) (block_lt_of_cell hmc)).trans hmc
            clear hb
            cases hrm : redN m with
            | false =>
              have hVf : V = false := by
                rw [HV.out]
                unfold verN
                have : ms.all redN = false := by
                  rw [List.all_eq_false]
                  exact ⟨m, List.mem_of_getElem? HMI.out, by rw [hrm]; simp⟩
                rw [this]; simp
              subst hVf
              go_wp2_with fail
              go_ret
              exact ⟨rfl, hB⟩
            | true =>
              have HS := Lib.hid (HI.out.step (by rw [hm.len]; exact hlt) HMI.out hrm)
              have hs2 : (s : Int).tdiv 2 = ((s / 2 : Nat) : Int) := by rw [Int.tdiv_eq_ediv_of_nonneg (by omega)]; omega
              have hs3 : (s : Int) / 2 = ((s / 2 : Nat) : Int) := by omega
              have hs4 : s / 2 ≤ 1048576 := by omega
              clear hrm HMI
              generalize (halveN (sval p) (sval q) (sval m) s).1 = P at q2 HS
              generalize (halveN (sval p) (sval q) (sval m) s).2 = Q at q2 HS
              generalize s / 2 = s' at hs2 hs3 hs4 HS
              go_wp2_with fail
              refine (q2.out _).mono ?_
              rintro e w5 ⟨rfl, hb⟩
              replace hm := hm.below hb
              replace hB := below_then hB hb
              clear hb hmc
              go_wp2_with fail
              go_roundw
              case rel => exact ⟨i + 1, natS P, natS Q, s', by omega, rfl, rfl, by first | rfl | go_num, by go_num, hs4, HS, hm, hB⟩
              case measure => simp [intOf]; omega
          · obtain rfl : i = n := by omega
            have q1 := Lib.hid (rSquare_q p (by omega))
            have hbeq : ((natS (sval p * sval p % modN)).toList == q.toList) = V := by
              have h0 := HI.out
              have hq2 := (redN_self h0.redq).1
              have ht : ms.take i = ms := List.take_of_length_le (by rw [hm.len]; exact Nat.le_refl _)
              have hone := h0.one
              have hall := h0.all
              rw [ht] at hone hall
              rw [← hq2, natS_beq, HV.out]
              unfold verN
              rw [← HTT.out, ← hone, HRX.out.1, HRX.out.2, hall, decide_eq_true (show ms.length = i from hm.len)]
              simp
            clear HI
            go_wp2_with fail
            refine (q1.out _).mono ?_
            rintro e w4 ⟨rfl, hb⟩
            replace hB := below_then hB hb
            go_wp2_with fail
            go_ret
            exact ⟨rfl, hB⟩
      · have hne : ((n : Int) != (N : Int)) = true := by simp; omega
        have hVf : V = false := by
          rw [HV.out]
          unfold verN
          rw [decide_eq_false (show ¬ ms.length = N by rw [hm.len]; exact hlen)]
          simp
        subst hVf
        go_wp2_with fail
        go_ret
        exact ⟨rfl, hB⟩

set_option maxRecDepth 100000 in
set_option maxHeartbeats 2000000 in
theorem rMiddles_any : ∀ (n : Nat), n ≤ 20 → ∀ (x y : ByteArray), x.size ≤ 400 → y.size ≤ 400 → ∀ w : World,
    Calls Tryz.prog 89 #[.string x, .string y, .int .i64 ((2 ^ n : Nat) : Int)] w fun e w' => ∃ (A : Option Addr) (c : Nat) (ms : List ByteArray), e = .returned (.slice A n c) ∧ OwnT w.heap.size w' (.slice A n c) ms ∧ ms.length = n ∧ Tiny ms ∧ Below w.heap.size w w' := by
  intro n
  induction n with
  | zero =>
    intro _ x y _ _ w
    go_enter Tryz.func89, Tryz.ntmps89
    go_wp2_with fail
    go_ret
    exact ⟨none, 0, [], rfl, OwnL.nil_ _ _ _ _ _, rfl, fun m hm => (List.not_mem_nil hm).elim, Below.refl _ _⟩
  | succ n ih =>
    intro hn x y hx hy w
    have h20 := pow_le20 (show n + 1 ≤ 20 from hn)
    have hp1 : 0 < 2 ^ n := Nat.two_pow_pos n
    obtain ⟨T, hT⟩ : ∃ T : Nat, T = 2 ^ n := ⟨_, rfl⟩
    have h2T : 2 ^ (n + 1) = 2 * T := by rw [Nat.pow_succ, hT, Nat.mul_comm]
    rw [h2T] at h20 ⊢
    rw [← hT] at hp1
    have m1 := Lib.hid (rRan_q x T (by omega) (by omega))
    have hr := ran_size (sval x) T
    have m2 := Lib.hid (rHalve_q x y (natS (ranN (sval x) T)) (2 * T) hx hy (by omega) (by omega))
    have hlt := halve_lt (sval x) (sval y) (sval (natS (ranN (sval x) T))) (2 * T)
    generalize (halveN (sval x) (sval y) (sval (natS (ranN (sval x) T))) (2 * T)).1 = P at m2 hlt
    generalize (halveN (sval x) (sval y) (sval (natS (ranN (sval x) T))) (2 * T)).2 = Q at m2 hlt
    have m3 := Lib.hid (ih (by omega) (natS P) (natS Q) (Nat.le_trans (natS_lt_mod hlt.1) (by omega)) (Nat.le_trans (natS_lt_mod hlt.2) (by omega)))
    rw [← hT] at m3
    generalize natS (ranN (sval x) T) = r at m1 m2 hr
    have hn1 : (((2 * T : Nat) : Int) == 1) = false := by rw [beq_eq_false_iff_ne]; omega
    have hdiv : (((2 * T : Nat) : Int)) / 2 = (T : Int) := by omega
    have hdiv2 : (((2 * T : Nat) : Int)).tdiv 2 = (T : Int) := by rw [Int.tdiv_eq_ediv_of_nonneg (by omega)]; omega
    clear ih hT h2T
    generalize 2 * T = D at *
    go_enter Tryz.func89, Tryz.ntmps89
    go_wp2_with fail
    refine (m1.out _).mono ?_
    rintro e w1 ⟨rfl, hB⟩
    go_wp2_with fail
    refine (m2.out _).mono ?_
    rintro e w2 ⟨rfl, hb⟩
    replace hB := below_then hB hb
    clear hb
    go_wp2_with (first
      | (go_at_call 89; (with_reducible refine (m3.out _).mono ?_); rintro e w3 ⟨A3, c3, ms, rfl, ho3, hl3, hs3, hb3⟩; obtain ⟨A9, c9, hv3, hr3⟩ := OwnL.row ho3 encT_len; rw [hl3] at hv3 hr3; injection hv3 with i1 i2 i3; rw [← i1, ← i3] at hr3; clear i1 i2 i3; have ho := OwnL.below (OwnT.one (Blk.new w2 25 #[.string r]) hB.size) hb3; replace hB := below_then (below_al hB _) hb3)
      | (refine wp_append_rows (enc := encT) Tryz.underlying28 nat_info rfl (by decide) (by decide) rfl _ _ rfl encT_len encT_one rfl ho rfl (by assumption) (by simp) (by omega) hB.size ?_; intro v4 w4 ho4 hg4))
    go_ret
    obtain ⟨A4, c4, rfl, -⟩ := OwnT.ndg ho4
    have hl4 : ([r] ++ ms).length = n + 1 := by rw [List.length_append, hl3]; simp; omega
    rw [hl4] at ho4 ⊢
    exact ⟨A4, c4, [r] ++ ms, rfl, ho4, hl4, hs3.cons hr, hB.grown hg4 hB.size (own_high ho)⟩

set_option maxRecDepth 100000 in
set_option maxHeartbeats 2000000 in
theorem rProve_any (x : ByteArray) (n : Nat) (hx : x.size ≤ 400) (hn : n ≤ 20) (w : World) :
    Calls Tryz.prog 33 #[.string x, .int .i64 ((2 ^ n : Nat) : Int)] w fun e w' => ∃ (A : Option Addr) (c : Nat) (ms : List ByteArray), e = .returned (.tuple #[.string (natS (ranN (sval x) (2 ^ n))), .slice A n c, .bool true]) ∧ NDg w' A n c ms ∧ Tiny ms ∧ Below w.heap.size w w' := by
  have h20 := pow_le20 hn
  have m1 := Lib.hid (Log_yes n hn)
  have m2 := Lib.hid (rRan_q x (2 ^ n) (by omega) (by omega))
  have m3 := Lib.hid (rRest_q x (by omega))
  have m4 := Lib.hid (fun W => rMiddles_any n hn (natS (sval x % modN)) (natS (ranN (sval x) (2 ^ n))) (Nat.le_trans (natS_mod _) (by omega)) (Nat.le_trans (ran_size _ _) (by omega)) W)
  generalize natS (sval x % modN) = X at m3 m4
  generalize natS (ranN (sval x) (2 ^ n)) = Y at m2 m4 ⊢
  generalize 2 ^ n = T at *
  go_enter Tryz.func33, Tryz.ntmps33
  go_wp2_with fail
  refine (m1.out _).mono ?_
  rintro e w1 ⟨rfl, hB⟩
  go_wp2_with fail
  refine (m2.out _).mono ?_
  rintro e w2 ⟨rfl, hb⟩
  replace hB := below_then hB hb
  go_wp2_with fail
  refine (m3.out _).mono ?_
  rintro e w3 ⟨rfl, hb⟩
  replace hB := below_then hB hb
  go_wp2_with fail
  refine (m4.out _).mono ?_
  rintro e w4 ⟨A, c, ms, rfl, ho, hl, ht, hb⟩
  replace hB := below_then hB hb
  go_wp2_with fail
  refine bodyPost_ret (show (results _ _).run Tryz.prog _ = .ok (.tuple #[.string Y, .slice A n c, .bool true]) _ from by simp [results, Tryz.f33, go_sem]) rfl ?_
  obtain ⟨A', c', hv, hd⟩ := OwnT.ndg ho
  rw [hl] at hv hd
  cases hv
  exact ⟨_, _, ms, rfl, hd, ht, hB⟩

end Go.Proofs.YtebgmlbbilcbbaaGreatDoor
