/- The law DelayFalse. -/
import Derived.Test.YtebgmlbbilcbbaaGreatDoorDelFour
import Derived.Test.YtebgmlbbilcbbaaGreatDoorDelOne
namespace Go.Proofs.YtebgmlbbilcbbaaGreatDoor
open Go.RowKit

theorem all_red (ms : List Nat) (h : ∀ m ∈ ms, m < modN) : (ms.map natS).all redN = true := by
  rw [List.all_eq_true]
  intro s hs
  obtain ⟨m, hm, rfl⟩ := List.mem_map.1 hs
  exact redN_natS (h m hm)
theorem map_sval : ∀ ms : List Nat, (ms.map natS).map sval = ms
  | [] => rfl
  | m :: ms => by rw [List.map_cons, List.map_cons, sval_natS, map_sval ms]
/-- Middles that are numbers. -/
theorem verN_nat (n X Y : Nat) (ms : List Nat) (hX : X < modN) (hY : Y < modN) (hl : ms.length = n) (hm : ∀ m ∈ ms, m < modN) :
    verN n (natS X) (natS Y) (ms.map natS) = decide ((chainN X Y (2 ^ n) ms).1 * (chainN X Y (2 ^ n) ms).1 % modN = (chainN X Y (2 ^ n) ms).2) := by
  unfold verN
  rw [redN_natS hX, redN_natS hY, all_red ms hm, map_sval, sval_natS, sval_natS, decide_eq_true (show (ms.map natS).length = n by rw [List.length_map, hl])]
  simp only [Bool.true_and]
theorem rAdd_q (a b : ByteArray) (ha : a.size ≤ 1000) (hb : b.size ≤ 1000) : Ret 22 #[.string a, .string b] (.string (natS (sval a + sval b))) := fun W => rAdd a b W (by omega) (by omega)
theorem natS_i64 {n : Nat} (h : n ≤ 9223372036854775807) : (natS n).size ≤ 8 := natS_size (Nat.lt_of_le_of_lt h (by decide +kernel))
theorem of_nat (k : Nat) (hk : k ≤ 9223372036854775807) : Ret 23 #[.int .i64 (k : Int)] (.string (natS k)) := of_q (fun W => rOf (k : Int) W (by omega))
/-- Equal as strings of numbers. -/
theorem natS_beq (a b : Nat) : ((natS a).toList == (natS b).toList) = decide (a = b) := by
  by_cases h : a = b
  · subst h; simp
  · rw [str_diff (fun e => h (by rw [← sval_natS a, e, sval_natS])), decide_eq_false h]


/-- A slice of one string, with a block of its own. -/
theorem OwnT.one {w : World} {k B : Nat} {s : ByteArray} (h : Blk w k 25 #[.string s]) (hB : B ≤ k) : OwnT B w (.slice (some ⟨k, 0, none⟩) 1 1) [s] :=
  ⟨by simp [encT], .inr ⟨k, 1, #[.string s], rfl, hB, h, Nat.le_refl _, by decide, by simp, by simp [encT]⟩⟩
theorem NDg.row {w : World} {A : Option Addr} {n c : Nat} {xs : List ByteArray} (h : NDg w A n c xs) : Row encT 1 w A n c xs := by
  refine ⟨h.len, h.cap, fun hn => ?_⟩
  obtain ⟨b, o, e, hc⟩ := h.at_ hn
  refine ⟨b, o, e, fun j k x u hx hu => ?_⟩
  cases k with
  | zero =>
    obtain rfl := Option.some.inj hu
    rw [Nat.mul_one, Nat.add_zero]
    exact hc j x hx
  | succ k => simp [encT] at hu

/-- Halvings so far. -/
structure HalfIs (X Y T : Nat) (ms : List Nat) (i p q s : Nat) : Prop where
  one : (p, q) = chainN X Y T (ms.take i)
  size : s = T / 2 ^ i
theorem HalfIs.step {X Y T i p q s m : Nat} {ms : List Nat} (h : HalfIs X Y T ms i p q s) (hl : i ≤ ms.length) (hm : ms[i]? = some m) : HalfIs X Y T ms (i + 1) (halveN p q m s).1 (halveN p q m s).2 (s / 2) := by
  refine ⟨?_, ?_⟩
  · rw [List.take_add_one, hm]
    show _ = chainN X Y T (ms.take i ++ [m])
    rw [chain_snoc, ← h.one, List.length_take, Nat.min_eq_left hl, ← h.size]
  · rw [h.size, Nat.pow_succ, Nat.div_div_eq_div_mul]

set_option maxRecDepth 100000 in
set_option maxHeartbeats 2000000 in
theorem DelayFalse_any (A : Option Addr) (n c : Nat) (l : List UInt8) (lg more : Nat) (w : World) (hT : Tabs w) (hx : BDg w A n c l) (hn : n ≤ 9223372036854775807) (hlg : lg ≤ 255) (hmo : more ≤ 255) :
    Calls Tryz.prog 4 #[.slice A n c, .int .u8 (lg : Int), .int .u8 (more : Int)] w fun e w' => e = .returned (.bool true) ∧ Below w.heap.size w w' := by
  have HT := Lib.hid hT
  have HX := Lib.hid hx
  clear hT hx
  have ms := Lib.hid sanity10
  have m1 := Lib.hid (fun W h => rMade A n c l W h hn)
  have hsz := madeS_size l
  generalize madeS l = x at m1 hsz
  have m2 := Lib.hid (rRest_q x (by omega))
  obtain ⟨X, hX⟩ : ∃ X, X = sval x % modN := ⟨_, rfl⟩
  have hXl : X < modN := by rw [hX]; exact mod_lt _
  rw [← hX] at m2
  clear hX
  obtain ⟨k, hk, hk2⟩ : ∃ k : Nat, (lg : Int).tmod 7 = (k : Int) ∧ k ≤ 6 := ⟨lg % 7, by rw [Int.tmod_eq_emod_of_nonneg (by omega)]; omega, by omega⟩
  have hkp := pow_le20 (show k ≤ 20 by omega)
  have m3 := Lib.hid (fun W hT => Prove_yes (natS X) k (Nat.le_trans (natS_lt_mod hXl) (by omega)) (by omega) W hT)
  obtain ⟨T, hTT⟩ : ∃ T : Nat, T = 2 ^ k := ⟨_, rfl⟩
  have hsh : ((2 : Int) ^ k) = (T : Int) := by rw [hTT]; simp
  have h64 : (k : Int) ≤ 64 := by omega
  unfold ProvePost at m3
  rw [← hTT] at m3 hkp
  rw [sval_natS] at m3
  obtain ⟨y, hy⟩ : ∃ y, y = ranN X T := ⟨_, rfl⟩
  have hyl : y < modN := by rw [hy]; exact ranN_lt _ _
  rw [← hy] at m3
  clear hy
  obtain ⟨inc, hadd, hinc, hinc2⟩ : ∃ inc : Nat, (1 : Int) + (more : Int) = (inc : Int) ∧ 1 ≤ inc ∧ inc ≤ 256 := ⟨1 + more, by omega, by omega, by omega⟩
  have m4 := Lib.hid (of_nat inc (by omega))
  have m5 := Lib.hid ((rAdd_q (natS y) (natS inc) (Nat.le_trans (natS_lt_mod hyl) (by omega)) (Nat.le_trans (natS_i64 (by omega)) (by omega))).of (by rw [sval_natS, sval_natS]))
  have hss : (natS (y + inc)).size ≤ 1000 := Nat.le_trans (natS_size (k := 17) (by have := modN_lt; rw [P8_succ]; omega)) (by omega)
  have m6 := Lib.hid ((rRest_q _ hss).of (by rw [sval_natS]))
  obtain ⟨Y, hY⟩ : ∃ Y, Y = (y + inc) % modN := ⟨_, rfl⟩
  have hYl : Y < modN := by rw [hY]; exact mod_lt _
  rw [← hY] at m6
  clear hY hss
  have m7 := Lib.hid (fun A n c ms hms hn W hT hm => Verify_yes (natS X) (natS Y) k (by omega) A n c ms (Nat.le_trans (natS_lt_mod hXl) (by omega)) (Nat.le_trans (natS_lt_mod hYl) (by omega)) hms hn W hT hm)
  rw [← hTT] at m7
  have HTT := Lib.hid hTT
  clear hTT
  go_enter Tryz.func4, Tryz.ntmps4
  have hB : Below w.heap.size w w := Below.refl _ _
  go_wp2_with (first
    | (go_at_call 17; (with_reducible refine (ms.out _ ?_).mono ?_); (exact HT.out.below hB); rintro e wz ⟨rfl, hb⟩; replace hB := below_then hB hb; clear hb)
    | (go_at_call 19; (with_reducible refine (m1.out _ ?_).mono ?_); (exact HX.out.below hB); rintro e wz ⟨rfl, rfl⟩)
    | (go_at_call 18; (with_reducible refine (m2.out _).mono ?_); rintro e wz ⟨rfl, hb⟩; replace hB := below_then hB hb; clear hb))
  refine (m3.out _ (HT.out.below hB)).mono ?_
  rintro e w4 ⟨A4, c4, mm, rfl, hd4, hml, hmr, -, hb⟩
  replace hB := below_then hB hb
  clear hb
  have HMR := Lib.hid hmr
  clear hmr
  go_wp2_with (first
    | (go_at_call 23; (with_reducible refine (m4.out _).mono ?_); rintro e wz ⟨rfl, hb⟩; replace hB := below_then hB hb; replace hd4 := hd4.below hb; clear hb)
    | (go_at_call 22; (with_reducible refine (m5.out _).mono ?_); rintro e wz ⟨rfl, hb⟩; replace hB := below_then hB hb; replace hd4 := hd4.below hb; clear hb)
    | (go_at_call 18; (with_reducible refine (m6.out _).mono ?_); rintro e wz ⟨rfl, hb⟩; replace hB := below_then hB hb; replace hd4 := hd4.below hb; clear hb))
  go_loopw [14, 15, 16, 18, 47] (fun s14 s15 s16 _ s47 wr => ∃ i p q s : Nat, i ≤ k ∧ s47 = .int .i64 (i : Int) ∧ s14 = .string (natS p) ∧ s15 = .string (natS q) ∧ s16 = .int .i64 (s : Int) ∧ s ≤ 1048576 ∧ Hid (HalfIs X Y T mm i p q s ∧ p < modN ∧ q < modN) ∧ NDg wr A4 k c4 (mm.map natS) ∧ Below w.heap.size w wr) (fun _ _ _ _ s47 _ => k - (intOf s47).toNat)
  case atStart => exact ⟨0, X, Y, T, Nat.zero_le _, rfl, rfl, rfl, rfl, hkp, Lib.hid ⟨⟨by rw [List.take_zero, chain_nil], by simp⟩, hXl, hYl⟩, hd4, hB⟩
  case round =>
    obtain ⟨i, p, q, s, hi, rfl, rfl, rfl, rfl, hs, HI, hd4, hB⟩ := hrel
    have hh := HI.out
    by_cases hlt : i < k
    · have hlt' : (i : Int) < (k : Int) := by omega
      obtain ⟨b, o, m, rfl, hmi, hmc⟩ := hd4.get hlt
      obtain ⟨z, hz, rfl⟩ : ∃ z, mm[i]? = some z ∧ m = natS z := by
        rw [List.getElem?_map, Option.map_eq_some_iff] at hmi
        obtain ⟨z, hz, e⟩ := hmi
        exact ⟨z, hz, e.symm⟩
      have hzl := HMR.out z (List.mem_of_getElem? hz)
      have q1 : Hid (Ret 27 #[.string (natS p), .string (natS q), .string (natS z), .int .i64 (s : Int)] (.tuple #[.string (natS (halveN p q z s).1), .string (natS (halveN p q z s).2)])) := Lib.hid ((rHalve_q (natS p) (natS q) (natS z) s (Nat.le_trans (natS_lt_mod hh.2.1) (by omega)) (Nat.le_trans (natS_lt_mod hh.2.2) (by omega)) (Nat.le_trans (natS_lt_mod hzl) (by omega)) (by omega)).of (by rw [sval_natS, sval_natS, sval_natS]))
      have HS := Lib.hid (And.intro (hh.1.step (by rw [hml]; exact hi) hz) (halve_lt p q z s))
      obtain ⟨s', hs', hs2⟩ : ∃ s' : Nat, s / 2 = s' ∧ s' ≤ 1048576 := ⟨s / 2, rfl, by omega⟩
      have hs3 : (s : Int).tdiv 2 = (s' : Int) := by rw [Int.tdiv_eq_ediv_of_nonneg (by omega)]; omega
      have hs4 : (s : Int) / 2 = (s' : Int) := by omega
      rw [hs'] at HS
      clear hh HI hs' hmi hz hzl
      generalize (halveN p q z s).1 = P at q1 HS
      generalize (halveN p q z s).2 = Q at q1 HS
      go_wp2_with (first
        | (go_at_call 27; (with_reducible refine (q1.out _).mono ?_); rintro e wz ⟨rfl, hb⟩; replace hB := below_then hB hb; replace hd4 := hd4.below hb; clear hb))
      go_roundw
      case rel => exact ⟨i + 1, P, Q, s', by omega, by go_num, rfl, rfl, rfl, hs2, HS, hd4, hB⟩
      case measure => simp [intOf]; omega
    · obtain rfl : i = k := by omega
      have q1 : Hid (Ret 20 #[.string (natS p)] (.string (natS (p * p % modN)))) := Lib.hid ((rSquare_q (natS p) (Nat.le_trans (natS_lt_mod hh.2.1) (by omega))).of (by rw [sval_natS]))
      have hbeq : ((natS (p * p % modN)).toList == (natS q).toList) = verN i (natS X) (natS Y) (mm.map natS) := by
        have ho := hh.1.one
        rw [List.take_of_length_le (by rw [hml]; exact Nat.le_refl _), HTT.out] at ho
        rw [natS_beq, verN_nat i X Y mm hXl hYl hml HMR.out, ← ho]
      have m8 := Lib.hid (fun W hT hd => m7.out A4 i c4 (mm.map natS) (fun m hm => by obtain ⟨z, hz, rfl⟩ := List.mem_map.1 hm; exact Nat.le_trans (natS_lt_mod (HMR.out z hz)) (by omega)) (by omega) W hT hd)
      generalize verN i (natS X) (natS Y) (mm.map natS) = V at m8 hbeq
      have hVV : (V == V) = true := by simp
      clear hh HI
      go_wp2_with (first
        | (go_at_call 28; (with_reducible refine (m8.out _ ?_ ?_).mono ?_); (exact HT.out.below hB); (exact hd4); rintro e wz ⟨rfl, hb⟩; replace hB := below_then hB hb; clear hb)
        | (go_at_call 20; (with_reducible refine (q1.out _).mono ?_); rintro e wz ⟨rfl, hb⟩; replace hB := below_then hB hb; clear hb))
      go_ret
      exact ⟨by simp, hB⟩

end Go.Proofs.YtebgmlbbilcbbaaGreatDoor
