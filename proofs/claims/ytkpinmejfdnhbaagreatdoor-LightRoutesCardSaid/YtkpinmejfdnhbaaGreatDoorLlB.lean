/- The law of routes. -/
import Derived.Test.YtkpinmejfdnhbaaGreatDoorLkS
namespace Go.Proofs.YtkpinmejfdnhbaaGreatDoor
open Go.RowKit Go.Shelf
attribute [local go_sem] Oper.semAt_some
theorem wtLlB {P : Program} {md : Region.Mode} {ops : Array Oper} {Q : Exit → Act → World → Prop} {S : World → Prop} {k : Nat} (D : List Nat) (i : Nat) {oi : Oper} {v : Value} {fuel : Nat} {listed : Array Bool} {a : Act} {w : World} (hi : ops[i]? = some oi)
    (h : wpAnyS P md ops Q S k fuel (listed.setIfInBounds i true) (a.put oi.dst v) w)
    (hkD : k ∈ D := by simp) (hD : waitsB md ops listed i D = true := by kernel_rfl)
    (hs : Region.noSelect ops = true := by kernel_rfl) (hf : Region.free md ops listed i = true := by kernel_rfl) (hr : (Region.ready md ops listed).contains i = true := by kernel_rfl)
    (hQ : ∀ c a w, Q (.panic c) (a.put oi.dst v) w → Q (.panic c) a w := by exact fun _ _ _ h => h)
    (hw : Region.wanted oi (yielded ops a.tmps) = true := by rfl)
    (hy : ∀ w, S w → (execOp a.eval oi).run P w = .ok (.value v) w := by (intro w hSw; (try dsimp only at hSw); go_simp; try with_reducible rfl)) (hS : S w := by assumption)
    : wpAnyS P md ops Q S k (fuel + 1) listed a w :=
  wpAnyS_take D hkD hD hi hs hf hr hQ (Or.inl ⟨hw, hy⟩) hS h

theorem route_le (a b : Int) : (intsN (routeG a b)).length ≤ 64 := by
 unfold routeG intsN
 rw [List.length_map]
 split
 ·exact Nat.zero_le _
 ·unfold routeD; rw [List.length_map]; exact left_le _ _
theorem ones_le : ∀ f n, onesN f n ≤ f
 | 0, _ => Nat.le_refl _
 | f + 1, n => by show n % 2 + onesN f (n / 2) ≤ f + 1; have := ones_le f (n / 2); omega
theorem route_row (a b : Int) (ha : I64 a) (w : World) : Calls Tryz.prog 10 #[.int .i64 a, .int .i64 b] w fun e w' => ∃ A n c, e = .returned (.slice A n c) ∧ RowI w' A n c (intsN (routeG a b)) ∧ Below w.heap.size w w' := by
 refine (Route_q a b ha w).mono ?_
 rintro e w' ⟨v, rfl, ho, hb⟩
 obtain ⟨A, c, rfl, hr⟩ := OwnL.row ho encI_len
 exact ⟨A, _, c, rfl, hr, hb⟩
theorem rroute_row (a b : Int) (ha : I64 a) (w : World) : Calls Tryz.prog 12 #[.int .i64 a, .int .i64 b] w fun e w' => ∃ A n c, e = .returned (.slice A n c) ∧ RowI w' A n c (intsN (routeG a b)) ∧ Below w.heap.size w w' := by
 refine (rRoute_q a b ha w).mono ?_
 rintro e w' ⟨v, rfl, ho, hb⟩
 obtain ⟨A, c, rfl, hr⟩ := OwnL.row ho encI_len
 exact ⟨A, _, c, rfl, hr, hb⟩
theorem two_routes (A1 A2 : Option Addr) (n c1 m c2 : Nat) (a b : Int) (w : World) (h1 : RowI w A1 n c1 (intsN (routeG a b))) (h2 : RowI w A2 m c2 (intsN (routeG a b))) :
 Calls Tryz.prog 11 #[.slice A1 n c1, .slice A2 m c2] w fun e w' => e = .returned (.bool true) ∧ Below w.heap.size w w' := by
 refine (Ints_q A1 A2 n c1 m c2 _ _ (by have := h1.len; have := route_le a b; omega) w h1 h2).mono ?_
 rintro e w' ⟨rfl, hb⟩
 exact ⟨by rw [decide_eq_true rfl], hb⟩
theorem bits_step (k : Nat) (hk : k < 63) : Go.bits .and .i64 ((2 ^ k : Nat) : Int) (((2 ^ k : Nat) : Int) - 1) = 0 := by
 have h1 := Nat.two_pow_pos k
 have h2 : 2 ^ k < 2 ^ 63 := Nat.pow_lt_pow_right (by omega) hk
 rw [show ((2 ^ k : Nat) : Int) - 1 = ((2 ^ k - 1 : Nat) : Int) by omega]
 generalize hx : 2 ^ k = X at *
 have h3 : X &&& (X - 1) = 0 := by rw [← hx]; exact powAnd k
 show IntKind.i64.wrap ((BitVec.ofInt 64 ((X : Nat) : Int) &&& BitVec.ofInt 64 ((X - 1 : Nat) : Int)).toNat : Int) = _
 rw [BitVec.toNat_and, BitVec.ofInt_natCast, BitVec.ofInt_natCast, BitVec.toNat_ofNat, BitVec.toNat_ofNat, Nat.mod_eq_of_lt (show X < 2 ^ 64 by omega), Nat.mod_eq_of_lt (show X - 1 < 2 ^ 64 by omega), h3]
 rfl

set_option maxRecDepth 100000 in
set_option maxHeartbeats 1500000 in
theorem LightRoutes_any (z0 z1 : Nat) (x y : Int) (w : World) (hT : Tabs w) (h0 : z0 ≤ 4294967295) (h1 : z1 ≤ 4294967295) (hx : I64 x) (_hy : I64 y) :
 Calls Tryz.prog 3 #[.int .u32 (z0 : Int), .int .u32 (z1 : Int), .agg #[.int .i64 x, .int .i64 y]] w fun e w' => e = .returned (.bool true) ∧ Below w.heap.size w w' := by
 have HT := Lib.hid hT
 have HX := Lib.hid hx
 clear hT hx
 obtain ⟨b, hb1⟩ : ∃ b, b = z1 % (z0 + 1) := ⟨_, rfl⟩
 have hba : b ≤ z0 := by have := Nat.mod_lt z1 (show 0 < z0 + 1 by omega); omega
 have hrem : (z1 : Int).tmod ((z0 : Int) + 1) = (b : Int) := by rw [Int.tmod_eq_emod_of_nonneg (by omega), hb1, Int.natCast_emod]; rfl
 have hm0 : (((z0 : Int) + 1) == 0) = false := by rw [beq_eq_false_iff_ne]; omega
 clear hb1
 go_enter Tryz.func3, Tryz.ntmps3
 go_upto_region 1 with fail
 refine name1p ?_
 intro w1 k1 hB
 obtain ⟨g, hg⟩ : ∃ g, g = w.heap.size := ⟨_, rfl⟩
 rw [← hg] at k1 ⊢
 clear hg
 have m1 := Lib.hid (sanity_q w1 (HT.out.below hB))
 go_upto_region 2 with (go_at_call 9; (with_reducible refine m1.out.mono ?_); rintro e w2 ⟨rfl, hb2⟩)
 replace k1 := k1.below hb2 k1.lt
 replace hB := below_then hB hb2
 clear hb2 m1
 have m2 := Lib.hid (route_row (z0 : Int) (b : Int) ⟨by omega, by omega⟩)
 go_upto_region 5 with (go_at_call 10; (with_reducible refine (m2.out _).mono ?_); rintro e w3 ⟨A3, nl, c3, rfl, hr3, hb3⟩)
 replace k1 := k1.below hb3 k1.lt
 replace hB := below_then hB hb3
 clear hb3 m2 hrem hm0
 obtain ⟨D, hD⟩ : ∃ D, D = z0 - b := ⟨_, rfl⟩
 have hsub : (z0 : Int) - (b : Int) = (D : Int) := by omega
 have hD2 : z0 = b + D := by omega
 have HD := Lib.hid hD2
 have hDl : D ≤ 4294967295 := by omega
 rw [route_small hba, ← hD] at hr3
 have HR := Lib.hid hr3
 have HNL : Hid (nl = (leftD 64 D).length) := Lib.hid (by have := hr3.len; rw [intsN, List.length_map, List.length_map] at this; exact this.symm)
 have HNO : Hid (nl = onesN 64 D) := Lib.hid (by rw [HNL.out]; exact left_len 64 64 D (by omega) (by omega))
 have hnl : nl ≤ 64 := by rw [HNL.out]; exact left_le _ _
 clear hr3 hD hD2
 go_wp2_with fail
 go_loopw [11, 12] (fun s11 s12 wr => ∃ o n : Nat, s11 = .int .i64 (o : Int) ∧ s12 = .int .i64 (n : Int) ∧ o ≤ 64 ∧ n ≤ 4294967295 ∧ Hid (o + onesN 64 n = onesN 64 D) ∧ w3 = wr) (fun _ s12 _ => (intOf s12).toNat)
 case atStart => exact ⟨0, D, rfl, rfl, by omega, by omega, Lib.hid (Nat.zero_add _), rfl⟩
 case round =>
  obtain ⟨o, n, rfl, rfl, ho, hn, HO, hwr⟩ := hrel
  subst hwr
  by_cases hn0 : 0 < n
  ·have hn0' : 0 < (n : Int) := by omega
   obtain ⟨r, hr1⟩ : ∃ r, r = n % 2 := ⟨_, rfl⟩
   obtain ⟨k, hk1⟩ : ∃ k, k = n / 2 := ⟨_, rfl⟩
   have ht : (n : Int).tmod 2 = (r : Int) := by rw [Int.tmod_eq_emod_of_nonneg (by omega)]; omega
   have HO2 : Hid (o + r + onesN 64 k = onesN 64 D) := Lib.hid (by rw [← HO.out, ones_half (n := n) (by omega), hr1, hk1]; omega)
   have hor : o + r ≤ 64 := by have := HO2.out; have := ones_le 64 D; omega
   have hr2 : r ≤ 1 := by omega
   have hkn : k < n := by omega
   have HK := Lib.hid hk1
   clear hr1 hk1 HO
   go_wp2_with fail
   go_roundw
   case rel => exact ⟨o + r, k, by go_num, by rw [HK.out]; go_num, hor, by omega, HO2, by first | rfl | trivial⟩
   case measure => have := HK.out; simp [intOf]; omega
  ·obtain rfl : n = 0 := by omega
   obtain rfl : o = nl := by have := HO.out; rw [ones_zero] at this; rw [HNO.out]; exact this
   clear HO HNO
   go_wp2_with fail
   go_loopw [13, 14, 15] (fun s13 s14 s15 wr => ∃ (i f d P S : Nat), s13 = .int .i64 (P : Int) ∧ s14 = .int .i64 (S : Int) ∧ s15 = .int .i64 (i : Int) ∧ i ≤ o ∧ P ≤ 4294967295 ∧ d < S ∧ S ≤ 1099511627776 ∧ Hid (P = b + d) ∧ Hid ((leftD 64 D).drop i = leftD f d ∧ d < 2 ^ f) ∧ w3 = wr) (fun _ _ s15 _ => o - (intOf s15).toNat)
   case atStart => exact ⟨0, 64, D, z0, 1099511627776, rfl, rfl, rfl, by omega, by omega, by omega, by omega, HD, Lib.hid ⟨by rw [List.drop_zero], by omega⟩, rfl⟩
   case round =>
    obtain ⟨i, f, d, P, S, rfl, rfl, rfl, hi, hP, hdS, hS, HP, HF, hwr⟩ := hrel
    subst hwr
    by_cases hlt : i < o
    ·have hlt' : (i : Int) < (o : Int) := by omega
     obtain ⟨f2, k, hk1, hk2, he, hf2, hd2⟩ := drop_left HF.out.1 HF.out.2 (by rw [← HNL.out]; exact hlt)
     obtain ⟨bb, oo, v, rfl, hv, cv⟩ := RowI.get HR.out hlt
     obtain ⟨Q, hQ⟩ : ∃ Q, Q = b + (d - 2 ^ k) := ⟨_, rfl⟩
     obtain rfl : v = (Q : Int) := by
      unfold intsN at hv
      rw [List.getElem?_map, List.getElem?_map, he] at hv
      rw [hQ]; exact (Option.some.inj hv).symm
     have hk63 : k < 63 := (Nat.pow_lt_pow_iff_right (a := 2) (by omega)).1 (by omega)
     have hbits := bits_step k hk63
     have hK0 := Nat.two_pow_pos k
     have HF2 := Lib.hid (And.intro hf2 hd2)
     have hPP := HP.out
     obtain ⟨X, hX⟩ : ∃ X, X = 2 ^ k := ⟨_, rfl⟩
     rw [← hX] at hk1 hk2 hQ hbits hK0 HF2
     have hsub2 : (P : Int) - (Q : Int) = (X : Int) := by omega
     have hX1 : ((X : Int) < 1) = False := by simp; omega
     have hX2 : ((S : Int) ≤ (X : Int)) = False := by simp; omega
     have hQP : Q ≤ 4294967295 := by omega
     have hdX : d - X < X := by omega
     have HQ := Lib.hid hQ
     clear hv he hf2 hd2 hQ hPP hX HP HF hk63
     go_wp2_with fail
     go_roundw
     case rel => exact ⟨i + 1, f2, d - X, Q, X, rfl, rfl, by go_num, by omega, hQP, hdX, by omega, HQ, HF2, by first | rfl | trivial⟩
     case measure => simp [intOf]; omega
    ·obtain rfl : i = o := by omega
     have hd0 : d = 0 := drop_end HF.out.1 HF.out.2 (by rw [← HNL.out]; exact Nat.le_refl _)
     obtain rfl : P = b := by rw [HP.out, hd0]; rfl
     have hz : z0 = P + D := HD.out
     clear hsub hd0 HP HF HD hdS hS HR hP hn hn0
     have k1d : Blk w3.drew g 23 _ := k1
     have hBd := hB.drew
     clear k1 hB
     by_cases h00 : i = 0
     ·have hD0 : D = 0 := (left_nil_iff (by omega)).1 (List.eq_nil_of_length_eq_zero (by rw [← HNL.out]; exact h00))
      obtain rfl : P = z0 := by omega
      subst h00
      clear hz hD0 HNL
      go_upto_region 22 with fail
      refine region_here (fun Z : World => Z.cell? ⟨g, 0, none⟩ = some (.int .i64 x) ∧ Z.cell? ⟨g, 1, none⟩ = some (.int .i64 y)) 31 (by kernel_rfl) ⟨k1d.cell 0, k1d.cell 1⟩ (fun hHeld => ?_)
      generalize w3.drew = V at *
      have hbd := Below.refl V.heap.size V
      clear k1d
      refine wtLlB [1, 2, 3, 4, 5, 6, 7, 8, 9, 10, 11, 12, 13, 14, 15, 16, 17, 18, 19, 20, 21, 22, 23, 24, 25, 26, 27, 28, 29, 30, 31, 32, 33] 0 (oi := ⟨_, _, _, _, _, _⟩) rfl ?_
      try simp only [Act.put, pq1, pq2, pq3]
      refine wtLlB [2, 3, 4, 5, 6, 7, 8, 9, 10, 11, 12, 13, 14, 15, 16, 17, 18, 19, 20, 21, 22, 23, 24, 25, 26, 27, 28, 29, 30, 31, 32, 33] 1 (oi := ⟨_, _, _, _, _, _⟩) rfl ?_
      try simp only [Act.put, pq1, pq2, pq3]
      refine wtLlB [3, 4, 5, 6, 7, 8, 9, 10, 11, 12, 13, 14, 15, 16, 17, 18, 19, 20, 21, 22, 23, 24, 25, 26, 27, 28, 29, 30, 31, 32, 33] 2 (oi := ⟨_, _, _, _, _, _⟩) rfl ?_
      try simp only [Act.put, pq1, pq2, pq3]
      refine wtLlB [4, 5, 6, 7, 8, 9, 10, 11, 12, 13, 14, 15, 16, 17, 18, 19, 20, 21, 22, 23, 24, 25, 26, 27, 28, 29, 30, 31, 32, 33] 3 (oi := ⟨_, _, _, _, _, _⟩) rfl ?_
      try simp only [Act.put, pq1, pq2, pq3]
      refine wpAnyS_take [5, 6, 7, 8, 9, 10, 11, 12, 13, 14, 15, 16, 17, 18, 19, 20, 21, 22, 23, 24, 25, 26, 27, 28, 29, 30, 31, 32, 33] (i := 4) (oi := ⟨_, _, _, _, _, _⟩) (v := .bool true) (by simp) (by kernel_rfl) rfl (by kernel_rfl) (by kernel_rfl) (by kernel_rfl) (fun _ _ _ h => h) (Or.inl ⟨by rfl, by intro w hSw; (try dsimp only at hSw); go_simp; first | done | rfl⟩) (by assumption) ?_
      try simp only [Act.put, pq1, pq2, pq3]
      refine wtLlB [6, 7, 8, 9, 10, 11, 12, 13, 14, 15, 16, 17, 18, 19, 20, 21, 22, 23, 24, 25, 26, 27, 28, 29, 30, 31, 32, 33] 5 (oi := ⟨_, _, _, _, _, _⟩) rfl ?_
      try simp only [Act.put, pq1, pq2, pq3]
      refine wpAnyS_take [8, 9, 10, 11, 12, 13, 14, 15, 16, 17, 18, 19, 20, 21, 22, 23, 24, 25, 26, 27, 28, 29, 30, 31, 32, 33] (i := 6) (oi := ⟨_, _, _, _, _, _⟩) (v := undef) (by simp) (by kernel_rfl) rfl (by kernel_rfl) (by kernel_rfl) (by kernel_rfl) (fun _ _ _ h => h) (Or.inr ⟨by rfl, rfl⟩) (by assumption) ?_
      try simp only [Act.put, pq1, pq2, pq3]
      refine wpAnyS_take [8, 9, 10, 11, 12, 13, 14, 15, 16, 17, 18, 19, 20, 21, 22, 23, 24, 25, 26, 27, 28, 29, 30, 31, 32, 33] (i := 7) (oi := ⟨_, _, _, _, _, _⟩) (v := undef) (by simp) (by kernel_rfl) rfl (by kernel_rfl) (by kernel_rfl) (by kernel_rfl) (fun _ _ _ h => h) (Or.inr ⟨by rfl, rfl⟩) (by assumption) ?_
      try simp only [Act.put, pq1, pq2, pq3]
      refine wpAnyS_take [9, 10, 11, 12, 13, 14, 15, 16, 17, 18, 19, 20, 21, 22, 23, 24, 25, 26, 27, 28, 29, 30, 31, 32, 33] (i := 8) (oi := ⟨_, _, _, _, _, _⟩) (v := undef) (by simp) (by kernel_rfl) rfl (by kernel_rfl) (by kernel_rfl) (by kernel_rfl) (fun _ _ _ h => h) (Or.inr ⟨by rfl, rfl⟩) (by assumption) ?_
      try simp only [Act.put, pq1, pq2, pq3]
      refine wtLlB [10, 11, 12, 13, 14, 15, 16, 17, 18, 19, 20, 21, 22, 23, 24, 25, 26, 27, 28, 29, 30, 31, 32, 33] 9 (oi := ⟨_, _, _, _, _, _⟩) rfl ?_
      try simp only [Act.put, pq1, pq2, pq3]
      refine wtLlB [11, 12, 13, 14, 15, 16, 17, 18, 19, 20, 21, 22, 23, 24, 25, 26, 27, 28, 29, 30, 31, 32, 33] 10 (oi := ⟨_, _, _, _, _, _⟩) rfl ?_
      try simp only [Act.put, pq1, pq2, pq3]
      refine wtLlB [12, 13, 14, 15, 16, 17, 18, 19, 20, 21, 22, 23, 24, 25, 26, 27, 28, 29, 30, 31, 32, 33] 11 (oi := ⟨_, _, _, _, _, _⟩) rfl ?_
      try simp only [Act.put, pq1, pq2, pq3]
      refine wtLlB [14, 18, 19, 20, 21, 22, 23, 24, 25, 26, 27, 28, 29, 30, 31, 32, 33] 12 (oi := ⟨_, _, _, _, _, _⟩) rfl ?_
      try simp only [Act.put, pq1, pq2, pq3]
      refine wtLlB [14, 18, 19, 20, 21, 22, 23, 24, 25, 26, 27, 28, 29, 30, 31, 32, 33] 13 (oi := ⟨_, _, _, _, _, _⟩) rfl ?_
      try simp only [Act.put, pq1, pq2, pq3]
      refine wpAnyS_take [18, 19, 20, 21, 22, 23, 24, 25, 26, 27, 28, 29, 30, 31, 32, 33] (i := 14) (oi := ⟨_, _, _, _, _, _⟩) (v := .bool true) (by simp) (by kernel_rfl) rfl (by kernel_rfl) (by kernel_rfl) (by kernel_rfl) (fun _ _ _ h => h) (Or.inl ⟨by rfl, by intro w hSw; (try dsimp only at hSw); go_simp; first | done | rfl⟩) (by assumption) ?_
      try simp only [Act.put, pq1, pq2, pq3]
      refine wtLlB [16, 17, 18, 19, 20, 21, 22, 23, 24, 25, 26, 27, 28, 29, 30, 31, 32, 33] 15 (oi := ⟨_, _, _, _, _, _⟩) rfl ?_
      try simp only [Act.put, pq1, pq2, pq3]
      refine wtLlB [17, 18, 19, 20, 21, 22, 23, 24, 25, 26, 27, 28, 29, 30, 31, 32, 33] 16 (oi := ⟨_, _, _, _, _, _⟩) rfl ?_
      try simp only [Act.put, pq1, pq2, pq3]
      refine wpAnyS_take [18, 19, 20, 21, 22, 23, 24, 25, 26, 27, 28, 29, 30, 31, 32, 33] (i := 17) (oi := ⟨_, _, _, _, _, _⟩) (v := .bool true) (by simp) (by kernel_rfl) rfl (by kernel_rfl) (by kernel_rfl) (by kernel_rfl) (fun _ _ _ h => h) (Or.inl ⟨by rfl, by intro w hSw; (try dsimp only at hSw); go_simp; first | done | rfl⟩) (by assumption) ?_
      try simp only [Act.put, pq1, pq2, pq3]
      refine wpAnyS_take [19, 20, 21, 22, 23, 24, 25, 26, 27, 28, 29, 30, 31, 32, 33] (i := 18) (oi := ⟨_, _, _, _, _, _⟩) (v := .bool true) (by simp) (by kernel_rfl) rfl (by kernel_rfl) (by kernel_rfl) (by kernel_rfl) (fun _ _ _ h => h) (Or.inl ⟨by rfl, by intro w hSw; (try dsimp only at hSw); go_simp; first | done | rfl⟩) (by assumption) ?_
      try simp only [Act.put, pq1, pq2, pq3]
      refine wtLlB [20, 21, 22, 23, 24, 25, 26, 27, 28, 29, 30, 31, 32, 33] 19 (oi := ⟨_, _, _, _, _, _⟩) rfl ?_
      try simp only [Act.put, pq1, pq2, pq3]
      refine wtLlB [21, 22, 23, 24, 25, 26, 27, 28, 29, 30, 31, 32, 33] 20 (oi := ⟨_, _, _, _, _, _⟩) rfl ?_
      try simp only [Act.put, pq1, pq2, pq3]
      refine wtLlB [22, 25, 30, 31, 32, 33] 21 (oi := ⟨_, _, _, _, _, _⟩) rfl ?_
      try simp only [Act.put, pq1, pq2, pq3]
      refine wtLlB [25, 30, 31, 32, 33] 22 (oi := ⟨_, _, _, _, _, _⟩) rfl ?_
      try simp only [Act.put, pq1, pq2, pq3]
      refine wtLlB [24, 25, 30, 31, 32, 33] 23 (oi := ⟨_, _, _, _, _, _⟩) rfl ?_
      try simp only [Act.put, pq1, pq2, pq3]
      refine wtLlB [25, 30, 31, 32, 33] 24 (oi := ⟨_, _, _, _, _, _⟩) rfl ?_
      try simp only [Act.put, pq1, pq2, pq3]
      refine wtLlB [27, 30, 31, 32, 33] 26 (oi := ⟨_, _, _, _, _, _⟩) rfl ?_
      try simp only [Act.put, pq1, pq2, pq3]
      refine wtLlB [30, 31, 32, 33] 27 (oi := ⟨_, _, _, _, _, _⟩) rfl ?_
      try simp only [Act.put, pq1, pq2, pq3]
      refine wtLlB [29, 30, 31, 32, 33] 28 (oi := ⟨_, _, _, _, _, _⟩) rfl ?_
      try simp only [Act.put, pq1, pq2, pq3]
      refine wtLlB [30, 31, 32, 33] 29 (oi := ⟨_, _, _, _, _, _⟩) rfl ?_
      try simp only [Act.put, pq1, pq2, pq3]
      refine wpAnyS_one (i := 25) (oi := ⟨_, _, _, _, _, _⟩) rfl (by kernel_rfl) (fun K hK => ?_)
      go_simp
      go_at_call 10
      refine (route_row x y HX.out _).mono ?_
      rintro e wa ⟨A6, n6, c6, rfl, hr6, hba⟩
      (try go_wp2_with fail)
      replace hbd := below_then hbd hba
      refine hK.out _ _ ?_ (fun hHeld25 => ?_)
      ·exact ⟨cell_b hba hHeld.1, cell_b hba hHeld.2⟩
      clear hK K
      try simp only [Act.put, pq1, pq2, pq3]
      refine wpAnyS_one (i := 30) (oi := ⟨_, _, _, _, _, _⟩) rfl (by kernel_rfl) (fun K hK => ?_)
      go_simp
      go_at_call 12
      refine (rroute_row x y HX.out _).mono ?_
      rintro e wa ⟨A7, n7, c7, rfl, hr7, hba⟩
      (try go_wp2_with fail)
      replace hr6 := hr6.below hba
      replace hbd := below_then hbd hba
      refine hK.out _ _ ?_ (fun hHeld30 => ?_)
      ·exact ⟨cell_b hba hHeld25.1, cell_b hba hHeld25.2⟩
      clear hK K
      try simp only [Act.put, pq1, pq2, pq3]
      refine wpAnyS_call (k := 31) (ok := ⟨_, _, _, _, _, _⟩) rfl (by kernel_rfl) (by kernel_rfl) (fun K hK => ?_)
      go_simp
      go_at_call 11
      refine (two_routes _ _ _ _ _ _ x y _ hr6 hr7).mono ?_
      rintro e wa ⟨rfl, hba⟩
      (try go_wp2_with fail)
      replace hbd := below_then hbd hba
      refine hK.out _ _ ?_
      clear hK K
      try simp only [Act.put, pq1, pq2, pq3]
      refine wpAny_take (i := 32) (oi := ⟨_, _, _, _, _, _⟩) (v := ?_) rfl (by kernel_rfl) (by kernel_rfl) (by kernel_rfl) (fun _ _ _ h => h) (Or.inl ⟨by rfl, ?_⟩) ?_
      rotate_left
      ·(intro w; go_simp; try with_reducible rfl)
      try simp only [Act.put, pq1, pq2, pq3]
      refine wpAny_take (i := 33) (oi := ⟨_, _, _, _, _, _⟩) (v := ?_) rfl (by kernel_rfl) (by kernel_rfl) (by kernel_rfl) (fun _ _ _ h => h) (Or.inl ⟨by rfl, ?_⟩) ?_
      rotate_left
      ·(intro w; go_simp; try with_reducible rfl)
      try simp only [Act.put, pq1, pq2, pq3]
      refine wpAny_done (by kernel_rfl) ?_ _
      go_wp2_with fail
      go_ret
      exact ⟨rfl, below_then hBd hbd⟩
     ·have hD1 : D ≠ 0 := fun e => h00 (by rw [HNL.out, e, left_nil]; rfl)
      have hzb : decide ((z0 : Int) = (P : Int)) = false := decide_eq_false (by omega)
      have hzi : decide ((i : Int) = 0) = false := decide_eq_false (by omega)
      clear hz hD1 HNL
      go_upto_region 22 with fail
      refine region_here (fun Z : World => Z.cell? ⟨g, 0, none⟩ = some (.int .i64 x) ∧ Z.cell? ⟨g, 1, none⟩ = some (.int .i64 y)) 31 (by kernel_rfl) ⟨k1d.cell 0, k1d.cell 1⟩ (fun hHeld => ?_)
      generalize w3.drew = V at *
      have hbd := Below.refl V.heap.size V
      clear k1d
      refine wtLlB [1, 2, 3, 4, 5, 6, 7, 8, 9, 10, 11, 12, 13, 14, 15, 16, 17, 18, 19, 20, 21, 22, 23, 24, 25, 26, 27, 28, 29, 30, 31, 32, 33] 0 (oi := ⟨_, _, _, _, _, _⟩) rfl ?_
      try simp only [Act.put, pq1, pq2, pq3]
      refine wtLlB [2, 3, 4, 5, 6, 7, 8, 9, 10, 11, 12, 13, 14, 15, 16, 17, 18, 19, 20, 21, 22, 23, 24, 25, 26, 27, 28, 29, 30, 31, 32, 33] 1 (oi := ⟨_, _, _, _, _, _⟩) rfl ?_
      try simp only [Act.put, pq1, pq2, pq3]
      refine wtLlB [3, 4, 5, 6, 7, 8, 9, 10, 11, 12, 13, 14, 15, 16, 17, 18, 19, 20, 21, 22, 23, 24, 25, 26, 27, 28, 29, 30, 31, 32, 33] 2 (oi := ⟨_, _, _, _, _, _⟩) rfl ?_
      try simp only [Act.put, pq1, pq2, pq3]
      refine wtLlB [4, 5, 6, 7, 8, 9, 10, 11, 12, 13, 14, 15, 16, 17, 18, 19, 20, 21, 22, 23, 24, 25, 26, 27, 28, 29, 30, 31, 32, 33] 3 (oi := ⟨_, _, _, _, _, _⟩) rfl ?_
      try simp only [Act.put, pq1, pq2, pq3]
      refine wpAnyS_take [5, 6, 7, 8, 9, 10, 11, 12, 13, 14, 15, 16, 17, 18, 19, 20, 21, 22, 23, 24, 25, 26, 27, 28, 29, 30, 31, 32, 33] (i := 4) (oi := ⟨_, _, _, _, _, _⟩) (v := .bool false) (by simp) (by kernel_rfl) rfl (by kernel_rfl) (by kernel_rfl) (by kernel_rfl) (fun _ _ _ h => h) (Or.inl ⟨by rfl, by intro w hSw; (try dsimp only at hSw); go_simp; first | done | (simp only [hzb, hzi]; done) | exact of_decide_eq_false hzb | exact of_decide_eq_false hzi | (have := of_decide_eq_false hzb; omega) | (have := of_decide_eq_false hzi; omega)⟩) (by assumption) ?_
      try simp only [Act.put, pq1, pq2, pq3]
      refine wtLlB [6, 7, 8, 9, 10, 11, 12, 13, 14, 15, 16, 17, 18, 19, 20, 21, 22, 23, 24, 25, 26, 27, 28, 29, 30, 31, 32, 33] 5 (oi := ⟨_, _, _, _, _, _⟩) rfl ?_
      try simp only [Act.put, pq1, pq2, pq3]
      refine wtLlB [8, 9, 10, 11, 12, 13, 14, 15, 16, 17, 18, 19, 20, 21, 22, 23, 24, 25, 26, 27, 28, 29, 30, 31, 32, 33] 6 (oi := ⟨_, _, _, _, _, _⟩) rfl ?_
      try simp only [Act.put, pq1, pq2, pq3]
      refine wtLlB [8, 9, 10, 11, 12, 13, 14, 15, 16, 17, 18, 19, 20, 21, 22, 23, 24, 25, 26, 27, 28, 29, 30, 31, 32, 33] 7 (oi := ⟨_, _, _, _, _, _⟩) rfl ?_
      try simp only [Act.put, pq1, pq2, pq3]
      refine wpAnyS_take [9, 10, 11, 12, 13, 14, 15, 16, 17, 18, 19, 20, 21, 22, 23, 24, 25, 26, 27, 28, 29, 30, 31, 32, 33] (i := 8) (oi := ⟨_, _, _, _, _, _⟩) (v := .bool true) (by simp) (by kernel_rfl) rfl (by kernel_rfl) (by kernel_rfl) (by kernel_rfl) (fun _ _ _ h => h) (Or.inl ⟨by rfl, by intro w hSw; (try dsimp only at hSw); go_simp; first | done | (simp only [hzb, hzi]; done) | exact of_decide_eq_false hzb | exact of_decide_eq_false hzi | (have := of_decide_eq_false hzb; omega) | (have := of_decide_eq_false hzi; omega)⟩) (by assumption) ?_
      try simp only [Act.put, pq1, pq2, pq3]
      refine wtLlB [10, 11, 12, 13, 14, 15, 16, 17, 18, 19, 20, 21, 22, 23, 24, 25, 26, 27, 28, 29, 30, 31, 32, 33] 9 (oi := ⟨_, _, _, _, _, _⟩) rfl ?_
      try simp only [Act.put, pq1, pq2, pq3]
      refine wtLlB [11, 12, 13, 14, 15, 16, 17, 18, 19, 20, 21, 22, 23, 24, 25, 26, 27, 28, 29, 30, 31, 32, 33] 10 (oi := ⟨_, _, _, _, _, _⟩) rfl ?_
      try simp only [Act.put, pq1, pq2, pq3]
      refine wtLlB [12, 13, 14, 15, 16, 17, 18, 19, 20, 21, 22, 23, 24, 25, 26, 27, 28, 29, 30, 31, 32, 33] 11 (oi := ⟨_, _, _, _, _, _⟩) rfl ?_
      try simp only [Act.put, pq1, pq2, pq3]
      refine wtLlB [14, 18, 19, 20, 21, 22, 23, 24, 25, 26, 27, 28, 29, 30, 31, 32, 33] 12 (oi := ⟨_, _, _, _, _, _⟩) rfl ?_
      try simp only [Act.put, pq1, pq2, pq3]
      refine wtLlB [14, 18, 19, 20, 21, 22, 23, 24, 25, 26, 27, 28, 29, 30, 31, 32, 33] 13 (oi := ⟨_, _, _, _, _, _⟩) rfl ?_
      try simp only [Act.put, pq1, pq2, pq3]
      refine wpAnyS_take [18, 19, 20, 21, 22, 23, 24, 25, 26, 27, 28, 29, 30, 31, 32, 33] (i := 14) (oi := ⟨_, _, _, _, _, _⟩) (v := .bool false) (by simp) (by kernel_rfl) rfl (by kernel_rfl) (by kernel_rfl) (by kernel_rfl) (fun _ _ _ h => h) (Or.inl ⟨by rfl, by intro w hSw; (try dsimp only at hSw); go_simp; first | done | (simp only [hzb, hzi]; done) | exact of_decide_eq_false hzb | exact of_decide_eq_false hzi | (have := of_decide_eq_false hzb; omega) | (have := of_decide_eq_false hzi; omega)⟩) (by assumption) ?_
      try simp only [Act.put, pq1, pq2, pq3]
      refine wtLlB [16, 17, 18, 19, 20, 21, 22, 23, 24, 25, 26, 27, 28, 29, 30, 31, 32, 33] 15 (oi := ⟨_, _, _, _, _, _⟩) rfl ?_
      try simp only [Act.put, pq1, pq2, pq3]
      refine wtLlB [17, 18, 19, 20, 21, 22, 23, 24, 25, 26, 27, 28, 29, 30, 31, 32, 33] 16 (oi := ⟨_, _, _, _, _, _⟩) rfl ?_
      try simp only [Act.put, pq1, pq2, pq3]
      refine wpAnyS_take [18, 19, 20, 21, 22, 23, 24, 25, 26, 27, 28, 29, 30, 31, 32, 33] (i := 17) (oi := ⟨_, _, _, _, _, _⟩) (v := .bool false) (by simp) (by kernel_rfl) rfl (by kernel_rfl) (by kernel_rfl) (by kernel_rfl) (fun _ _ _ h => h) (Or.inl ⟨by rfl, by intro w hSw; (try dsimp only at hSw); go_simp; first | done | (simp only [hzb, hzi]; done) | exact of_decide_eq_false hzb | exact of_decide_eq_false hzi | (have := of_decide_eq_false hzb; omega) | (have := of_decide_eq_false hzi; omega)⟩) (by assumption) ?_
      try simp only [Act.put, pq1, pq2, pq3]
      refine wpAnyS_take [19, 20, 21, 22, 23, 24, 25, 26, 27, 28, 29, 30, 31, 32, 33] (i := 18) (oi := ⟨_, _, _, _, _, _⟩) (v := .bool true) (by simp) (by kernel_rfl) rfl (by kernel_rfl) (by kernel_rfl) (by kernel_rfl) (fun _ _ _ h => h) (Or.inl ⟨by rfl, by intro w hSw; (try dsimp only at hSw); go_simp; first | done | (simp only [hzb, hzi]; done) | exact of_decide_eq_false hzb | exact of_decide_eq_false hzi | (have := of_decide_eq_false hzb; omega) | (have := of_decide_eq_false hzi; omega)⟩) (by assumption) ?_
      try simp only [Act.put, pq1, pq2, pq3]
      refine wtLlB [20, 21, 22, 23, 24, 25, 26, 27, 28, 29, 30, 31, 32, 33] 19 (oi := ⟨_, _, _, _, _, _⟩) rfl ?_
      try simp only [Act.put, pq1, pq2, pq3]
      refine wtLlB [21, 22, 23, 24, 25, 26, 27, 28, 29, 30, 31, 32, 33] 20 (oi := ⟨_, _, _, _, _, _⟩) rfl ?_
      try simp only [Act.put, pq1, pq2, pq3]
      refine wtLlB [22, 25, 30, 31, 32, 33] 21 (oi := ⟨_, _, _, _, _, _⟩) rfl ?_
      try simp only [Act.put, pq1, pq2, pq3]
      refine wtLlB [25, 30, 31, 32, 33] 22 (oi := ⟨_, _, _, _, _, _⟩) rfl ?_
      try simp only [Act.put, pq1, pq2, pq3]
      refine wtLlB [24, 25, 30, 31, 32, 33] 23 (oi := ⟨_, _, _, _, _, _⟩) rfl ?_
      try simp only [Act.put, pq1, pq2, pq3]
      refine wtLlB [25, 30, 31, 32, 33] 24 (oi := ⟨_, _, _, _, _, _⟩) rfl ?_
      try simp only [Act.put, pq1, pq2, pq3]
      refine wtLlB [27, 30, 31, 32, 33] 26 (oi := ⟨_, _, _, _, _, _⟩) rfl ?_
      try simp only [Act.put, pq1, pq2, pq3]
      refine wtLlB [30, 31, 32, 33] 27 (oi := ⟨_, _, _, _, _, _⟩) rfl ?_
      try simp only [Act.put, pq1, pq2, pq3]
      refine wtLlB [29, 30, 31, 32, 33] 28 (oi := ⟨_, _, _, _, _, _⟩) rfl ?_
      try simp only [Act.put, pq1, pq2, pq3]
      refine wtLlB [30, 31, 32, 33] 29 (oi := ⟨_, _, _, _, _, _⟩) rfl ?_
      try simp only [Act.put, pq1, pq2, pq3]
      refine wpAnyS_one (i := 25) (oi := ⟨_, _, _, _, _, _⟩) rfl (by kernel_rfl) (fun K hK => ?_)
      go_simp
      go_at_call 10
      refine (route_row x y HX.out _).mono ?_
      rintro e wa ⟨A6, n6, c6, rfl, hr6, hba⟩
      (try go_wp2_with fail)
      replace hbd := below_then hbd hba
      refine hK.out _ _ ?_ (fun hHeld25 => ?_)
      ·exact ⟨cell_b hba hHeld.1, cell_b hba hHeld.2⟩
      clear hK K
      try simp only [Act.put, pq1, pq2, pq3]
      refine wpAnyS_one (i := 30) (oi := ⟨_, _, _, _, _, _⟩) rfl (by kernel_rfl) (fun K hK => ?_)
      go_simp
      go_at_call 12
      refine (rroute_row x y HX.out _).mono ?_
      rintro e wa ⟨A7, n7, c7, rfl, hr7, hba⟩
      (try go_wp2_with fail)
      replace hr6 := hr6.below hba
      replace hbd := below_then hbd hba
      refine hK.out _ _ ?_ (fun hHeld30 => ?_)
      ·exact ⟨cell_b hba hHeld25.1, cell_b hba hHeld25.2⟩
      clear hK K
      try simp only [Act.put, pq1, pq2, pq3]
      refine wpAnyS_call (k := 31) (ok := ⟨_, _, _, _, _, _⟩) rfl (by kernel_rfl) (by kernel_rfl) (fun K hK => ?_)
      go_simp
      go_at_call 11
      refine (two_routes _ _ _ _ _ _ x y _ hr6 hr7).mono ?_
      rintro e wa ⟨rfl, hba⟩
      (try go_wp2_with fail)
      replace hbd := below_then hbd hba
      refine hK.out _ _ ?_
      clear hK K
      try simp only [Act.put, pq1, pq2, pq3]
      refine wpAny_take (i := 32) (oi := ⟨_, _, _, _, _, _⟩) (v := ?_) rfl (by kernel_rfl) (by kernel_rfl) (by kernel_rfl) (fun _ _ _ h => h) (Or.inl ⟨by rfl, ?_⟩) ?_
      rotate_left
      ·(intro w; go_simp; try with_reducible rfl)
      try simp only [Act.put, pq1, pq2, pq3]
      refine wpAny_take (i := 33) (oi := ⟨_, _, _, _, _, _⟩) (v := ?_) rfl (by kernel_rfl) (by kernel_rfl) (by kernel_rfl) (fun _ _ _ h => h) (Or.inl ⟨by rfl, ?_⟩) ?_
      rotate_left
      ·(intro w; go_simp; try with_reducible rfl)
      try simp only [Act.put, pq1, pq2, pq3]
      refine wpAny_done (by kernel_rfl) ?_ _
      go_wp2_with fail
      go_ret
      exact ⟨rfl, below_then hBd hbd⟩

end Go.Proofs.YtkpinmejfdnhbaaGreatDoor
