/- The reference's Add and Sub: what they return. -/
import Derived.Test.YthiogjpjkdnbjaaGreatDoorRefG
namespace Go.Proofs.YthiogjpjkdnbjaaGreatDoor
open Go.RowKit

theorem ifew {w : World} {A : Option Addr} {n c k : Nat} {xs : List Nat} (h : IDg w A n c xs) (ht : R.Trim xs) (hv : R.val xs < P8 k) : n ≤ k := by
  rw [← h.len]
  refine ht.len_le (Nat.lt_of_lt_of_le hv ?_)
  rw [← P8_P24]
  exact P8_mono (by omega)

theorem small_yes (a : ByteArray) (k : Nat) (hk : k ≤ 7) (ha : a.size ≤ 100000) (h : sval a < P8 k) (W : World) :
    Calls Tryz.prog 42 #[.string a, .int .i64 (k : Int)] W fun e w' => e = .returned (.tuple #[.int .i64 (sval a : Int), .bool true]) ∧ W = w' := by
  have := rSmall a k W (by omega) hk
  unfold smallRes at this
  rwa [if_pos h] at this
theorem small_no (a : ByteArray) (k : Nat) (hk : k ≤ 7) (ha : a.size ≤ 100000) (h : ¬ sval a < P8 k) (W : World) :
    Calls Tryz.prog 42 #[.string a, .int .i64 (k : Int)] W fun e w' => e = .returned (.tuple #[.int .i64 0, .bool false]) ∧ W = w' := by
  have := rSmall a k W (by omega) hk
  unfold smallRes at this
  rwa [if_neg h] at this

theorem add_step {fs us vs : List Nat} {k t x y s : Nat} (hf : fs.length = k) (h : R.val fs + R.P24 k * t = R.val (us.take k) + R.val (vs.take k)) (hx : us.getD k 0 = x) (hy : vs.getD k 0 = y) (hs : s = t + x + y) :
    R.val (fs ++ [s % 16777216]) + R.P24 (k + 1) * (s / 16777216) = R.val (us.take (k + 1)) + R.val (vs.take (k + 1)) := by
  rw [R.carry_step hf, take_getD, take_getD, hx, hy, hs, Nat.mul_add, Nat.mul_add]
  omega
theorem getD_some {xs : List Nat} {k d : Nat} (h : xs[k]? = some d) : xs.getD k 0 = d := by rw [List.getD_eq_getElem?_getD, h]; rfl
theorem getD_none {xs : List Nat} {k : Nat} (h : xs.length ≤ k) : xs.getD k 0 = 0 := by rw [List.getD_eq_getElem?_getD, List.getElem?_eq_none h]; rfl

set_option maxRecDepth 100000 in
set_option maxHeartbeats 400000 in
theorem rAdd_small (a b : ByteArray) (w : World) (ha : a.size ≤ 100000) (hb : b.size ≤ 100000) (h1 : sval a < P8 7) (h2 : sval b < P8 7) :
    Calls Tryz.prog 15 #[.string a, .string b] w fun e w' => e = .returned (.string (natS (sval a + sval b))) ∧ Below w.heap.size w w' := by
  have HA := Lib.hid (small_yes a 7 (by omega) ha h1)
  have HB := Lib.hid (small_yes b 7 (by omega) hb h2)
  rw [P8_7] at h1 h2
  go_enter Tryz.func15, Tryz.ntmps15
  go_wp2_with fail
  refine (HA.out _).mono ?_
  rintro e w' ⟨rfl, rfl⟩
  go_wp2_with fail
  refine (HB.out _).mono ?_
  rintro e w' ⟨rfl, rfl⟩
  go_wp2_with fail
  refine (rOf _ _ (by omega)).mono ?_
  rintro e w' ⟨rfl, hb1⟩
  go_wp2_with fail
  go_ret
  exact ⟨by rw [show ((sval a : Int) + (sval b : Int)).toNat = sval a + sval b by omega]; rfl, hb1⟩

/-- Not both are small: the two ways that the test may go. -/
theorem small_ways (a b : ByteArray) (j k : Nat) (hj : j ≤ 7) (hk : k ≤ 7) (ha : a.size ≤ 100000) (hb : b.size ≤ 100000) (hbig : ¬ (sval a < P8 j ∧ sval b < P8 k)) :
    (∃ (x y : Int) (q : Bool), (∀ W, Calls Tryz.prog 42 #[.string a, .int .i64 (j : Int)] W fun e w' => e = .returned (.tuple #[.int .i64 x, .bool false]) ∧ W = w') ∧ (∀ W, Calls Tryz.prog 42 #[.string b, .int .i64 (k : Int)] W fun e w' => e = .returned (.tuple #[.int .i64 y, .bool q]) ∧ W = w')) ∨
    (∃ (x y : Int), (∀ W, Calls Tryz.prog 42 #[.string a, .int .i64 (j : Int)] W fun e w' => e = .returned (.tuple #[.int .i64 x, .bool true]) ∧ W = w') ∧ (∀ W, Calls Tryz.prog 42 #[.string b, .int .i64 (k : Int)] W fun e w' => e = .returned (.tuple #[.int .i64 y, .bool false]) ∧ W = w')) := by
  by_cases h1 : sval a < P8 j
  · have h2 : ¬ sval b < P8 k := fun h => hbig ⟨h1, h⟩
    exact .inr ⟨_, _, small_yes a j hj ha h1, small_no b k hk hb h2⟩
  · by_cases h2 : sval b < P8 k
    · exact .inl ⟨_, _, true, small_no a j hj ha h1, small_yes b k hk hb h2⟩
    · exact .inl ⟨_, _, false, small_no a j hj ha h1, small_no b k hk hb h2⟩

set_option maxRecDepth 100000 in
set_option maxHeartbeats 4000000 in
theorem rAdd_big (a b : ByteArray) (w : World) (ha : a.size ≤ 100000) (hb : b.size ≤ 100000) (hbig : ¬ (sval a < P8 7 ∧ sval b < P8 7)) :
    Calls Tryz.prog 15 #[.string a, .string b] w fun e w' => e = .returned (.string (natS (sval a + sval b))) ∧ Below w.heap.size w w' := by
  have hcase := small_ways a b 7 7 (by omega) (by omega) ha hb hbig
  clear hbig
  rcases hcase with ⟨x0, y0, q, hA, hB⟩ | ⟨x0, y0, hA, hB⟩
  all_goals
    have HA := Lib.hid hA
    have HB := Lib.hid hB
    clear hA hB
    go_enter Tryz.func15, Tryz.ntmps15
    go_wp2_with fail
    refine (HA.out _).mono ?_
    rintro e w' ⟨rfl, rfl⟩
    go_wp2_with fail
    refine (HB.out _).mono ?_
    rintro e w' ⟨rfl, rfl⟩
    go_wp2_with fail
    refine (rOf_ a _ ha).mono ?_
    rintro e w1 ⟨⟨A, n, c, us, rfl, hu, htu, hvu⟩, hb1⟩
    have hn : n ≤ a.size := ifew hu htu (by rw [hvu]; exact sval_lt a)
    have HVU := Lib.hid hvu
    clear hvu
    go_wp2_with fail
    refine (rOf_ b _ hb).mono ?_
    rintro e w2 ⟨⟨B, m, d, vs, rfl, hv, htv, hvv⟩, hb2⟩
    have hm : m ≤ b.size := ifew hv htv (by rw [hvv]; exact sval_lt b)
    have HVV := Lib.hid hvv
    clear hvv
    have hb12 := below_then hb1 hb2
    have hu2 := hu.below hb2
    have LU := Lib.hid hu2.len
    have LV := Lib.hid hv.len
    clear hb1 hb2 hu
    go_wp2_with fail
    go_loopw [11, 12, 13, 14] (fun s11 s12 s13 _ wr => ∃ (i t : Nat) (fs : List Nat), i ≤ n + m + 1 ∧ s13 = .int .i64 (i : Int) ∧ s12 = .int .i64 (t : Int) ∧ t ≤ 1 ∧ (n + m < i → t = 0) ∧ Own24 w2.heap.size wr s11 fs ∧ R.Lt24 fs ∧ Hid (fs.length = i ∧ R.val fs + R.P24 i * t = R.val (us.take i) + R.val (vs.take i) ∧ (n ≤ i → m ≤ i → R.P24 i * t + R.val fs = R.val us + R.val vs)) ∧ Below w2.heap.size w2 wr) (fun _ _ s13 _ _ => n + m + 1 - (intOf s13).toNat)
    case atStart =>
      refine ⟨0, 0, [], by omega, rfl, rfl, by omega, fun _ => rfl, Own24.nil_ _ _, R.Lt24.nil, Lib.hid ⟨rfl, by simp [R.val], fun h1 h2 => ?_⟩, Below.refl _ _⟩
      have e1 : us = [] := List.eq_nil_of_length_eq_zero (by rw [LU.out]; omega)
      have e2 : vs = [] := List.eq_nil_of_length_eq_zero (by rw [LV.out]; omega)
      rw [e1, e2]; rfl
    case round =>
      obtain ⟨i, t, fs, hi, rfl, rfl, ht, htz, hown, hlt, HF, hbw⟩ := hrel
      have hdl : fs.length ≤ 10000000 := by rw [HF.out.1]; omega
      have hnext : ∀ s : Nat, s = t + us.getD i 0 + vs.getD i 0 → Hid (R.val (fs ++ [s % 16777216]) + R.P24 (i + 1) * (s / 16777216) = R.val (us.take (i + 1)) + R.val (vs.take (i + 1)) ∧ (n ≤ i + 1 → m ≤ i + 1 → R.P24 (i + 1) * (s / 16777216) + R.val (fs ++ [s % 16777216]) = R.val us + R.val vs)) := fun s hs => Lib.hid ⟨add_step HF.out.1 HF.out.2.1 rfl rfl hs, fun h1 h2 => by
        have := add_step HF.out.1 HF.out.2.1 rfl rfl hs
        rw [R.val_take_all (by rw [LU.out]; exact h1), R.val_take_all (by rw [LV.out]; exact h2)] at this
        omega⟩
      have HN := Lib.hid hnext
      clear hnext
      by_cases h0 : i < n
      · obtain ⟨bx, ox, x, rfl, hx, hxl, hxc⟩ := (hu2.below hbw).get (k := i) h0
        have hxg := getD_some hx
        by_cases h1 : i < m
        · obtain ⟨by_, oy, y, rfl, hy, hyl, hyc⟩ := (hv.below hbw).get (k := i) h1
          have hyg := getD_some hy
          obtain ⟨s, hs⟩ : ∃ s, s = t + x + y := ⟨_, rfl⟩
          have HST := HN.out s (by rw [hxg, hyg]; exact hs)
          have hsum : (t : Int) + (x : Int) + (y : Int) = (s : Int) := by omega
          have hrr : (s : Int) % 16777216 = ((s % 16777216 : Nat) : Int) := by omega
          have hqq : (s : Int) / 16777216 = ((s / 16777216 : Nat) : Int) := by omega
          have hql : s / 16777216 ≤ 1 := by omega
          have hrl : s % 16777216 < 16777216 := by omega
          obtain ⟨r, hr⟩ : ∃ r, r = s % 16777216 := ⟨_, rfl⟩
          obtain ⟨q2, hq⟩ : ∃ q, q = s / 16777216 := ⟨_, rfl⟩
          rw [← hr] at hrr hrl HST
          rw [← hq] at hqq hql HST
          clear hr hq hs hxg hyg hx hy
          go_wp2_with (at_builtin; refine wp_append24 rfl _ _ rfl rfl hown rfl hdl hbw ?_; intro v1 w3 hown1 hbw1 hg1)
          go_roundw
          case rel => exact ⟨i + 1, q2, fs ++ [r], by omega, by go_num, rfl, hql, fun h => by omega, hown1, hlt.snoc hrl, Lib.hid ⟨by rw [List.length_append, HF.out.1]; rfl, HST.out⟩, hbw1⟩
          case measure => simp [intOf]; omega
        · have hyg := getD_none (xs := vs) (k := i) (by rw [LV.out]; omega)
          obtain ⟨s, hs⟩ : ∃ s, s = t + x := ⟨_, rfl⟩
          have HST := HN.out s (by rw [hxg, hyg]; omega)
          have hsum : (t : Int) + (x : Int) = (s : Int) := by omega
          have hrr : (s : Int) % 16777216 = ((s % 16777216 : Nat) : Int) := by omega
          have hqq : (s : Int) / 16777216 = ((s / 16777216 : Nat) : Int) := by omega
          have hql : s / 16777216 ≤ 1 := by omega
          have hrl : s % 16777216 < 16777216 := by omega
          have hsz : n + m < i + 1 → s / 16777216 = 0 := by omega
          obtain ⟨r, hr⟩ : ∃ r, r = s % 16777216 := ⟨_, rfl⟩
          obtain ⟨q2, hq⟩ : ∃ q, q = s / 16777216 := ⟨_, rfl⟩
          rw [← hr] at hrr hrl HST
          rw [← hq] at hqq hql HST hsz
          clear hr hq hs hxg hyg hx
          go_wp2_with (at_builtin; refine wp_append24 rfl _ _ rfl rfl hown rfl hdl hbw ?_; intro v1 w3 hown1 hbw1 hg1)
          go_roundw
          case rel => exact ⟨i + 1, q2, fs ++ [r], by omega, by go_num, rfl, hql, hsz, hown1, hlt.snoc hrl, Lib.hid ⟨by rw [List.length_append, HF.out.1]; rfl, HST.out⟩, hbw1⟩
          case measure => simp [intOf]; omega
      · have hxg := getD_none (xs := us) (k := i) (by rw [LU.out]; omega)
        by_cases h1 : i < m
        · obtain ⟨by_, oy, y, rfl, hy, hyl, hyc⟩ := (hv.below hbw).get (k := i) h1
          have hyg := getD_some hy
          obtain ⟨s, hs⟩ : ∃ s, s = t + y := ⟨_, rfl⟩
          have HST := HN.out s (by rw [hxg, hyg]; omega)
          have hsum : (t : Int) + (y : Int) = (s : Int) := by omega
          have hrr : (s : Int) % 16777216 = ((s % 16777216 : Nat) : Int) := by omega
          have hqq : (s : Int) / 16777216 = ((s / 16777216 : Nat) : Int) := by omega
          have hql : s / 16777216 ≤ 1 := by omega
          have hrl : s % 16777216 < 16777216 := by omega
          have hsz : n + m < i + 1 → s / 16777216 = 0 := by omega
          obtain ⟨r, hr⟩ : ∃ r, r = s % 16777216 := ⟨_, rfl⟩
          obtain ⟨q2, hq⟩ : ∃ q, q = s / 16777216 := ⟨_, rfl⟩
          rw [← hr] at hrr hrl HST
          rw [← hq] at hqq hql HST hsz
          clear hr hq hs hxg hyg hy
          go_wp2_with (at_builtin; refine wp_append24 rfl _ _ rfl rfl hown rfl hdl hbw ?_; intro v1 w3 hown1 hbw1 hg1)
          go_roundw
          case rel => exact ⟨i + 1, q2, fs ++ [r], by omega, by go_num, rfl, hql, hsz, hown1, hlt.snoc hrl, Lib.hid ⟨by rw [List.length_append, HF.out.1]; rfl, HST.out⟩, hbw1⟩
          case measure => simp [intOf]; omega
        · have hyg := getD_none (xs := vs) (k := i) (by rw [LV.out]; omega)
          by_cases h2 : 0 < t
          · have hle : i ≤ n + m := by
              rcases Nat.lt_or_ge (n + m) i with h | h
              · have := htz h; omega
              · exact h
            have HST := HN.out t (by rw [hxg, hyg]; omega)
            have hrr : (t : Int) % 16777216 = ((t % 16777216 : Nat) : Int) := by omega
            have hqq : (t : Int) / 16777216 = ((t / 16777216 : Nat) : Int) := by omega
            have hql : t / 16777216 ≤ 1 := by omega
            have hrl : t % 16777216 < 16777216 := by omega
            have hsz : n + m < i + 1 → t / 16777216 = 0 := by omega
            obtain ⟨r, hr⟩ : ∃ r, r = t % 16777216 := ⟨_, rfl⟩
            obtain ⟨q2, hq⟩ : ∃ q, q = t / 16777216 := ⟨_, rfl⟩
            rw [← hr] at hrr hrl HST
            rw [← hq] at hqq hql HST hsz
            clear hr hq htz hxg hyg
            go_wp2_with (at_builtin; refine wp_append24 rfl _ _ rfl rfl hown rfl hdl hbw ?_; intro v1 w3 hown1 hbw1 hg1)
            go_roundw
            case rel => exact ⟨i + 1, q2, fs ++ [r], by omega, by go_num, rfl, hql, hsz, hown1, hlt.snoc hrl, Lib.hid ⟨by rw [List.length_append, HF.out.1]; rfl, HST.out⟩, hbw1⟩
            case measure => simp [intOf]; omega
          · obtain rfl : t = 0 := by omega
            clear hxg hyg htz
            obtain ⟨A2, c2, rfl, hdg⟩ := hown.dig hlt
            have hnl : fs.length ≤ 200000 + 1 := by rw [HF.out.1]; omega
            go_wp2_with fail
            refine (rnumber _ _ _ _ _ hdg (by omega)).mono ?_
            rintro e w4 ⟨rfl, hb4⟩
            go_wp2_with fail
            go_ret
            have h3 := HF.out.2.2 (by omega) (by omega)
            rw [HVU.out, HVV.out] at h3
            exact ⟨by rw [show R.val fs = sval a + sval b by omega]; rfl, below_then (below_then hb12 hbw) hb4⟩

theorem rAdd (a b : ByteArray) (w : World) (ha : a.size ≤ 100000) (hb : b.size ≤ 100000) :
    Calls Tryz.prog 15 #[.string a, .string b] w fun e w' => e = .returned (.string (natS (sval a + sval b))) ∧ Below w.heap.size w w' := by
  by_cases h : sval a < P8 7 ∧ sval b < P8 7
  · exact rAdd_small a b w ha hb h.1 h.2
  · exact rAdd_big a b w ha hb h

set_option maxHeartbeats 400000 in
theorem rSub (a b : ByteArray) (w : World) (ha : a.size ≤ 100000) (hb : b.size ≤ 100000) :
    Calls Tryz.prog 18 #[.string a, .string b] w fun e w' => e = .returned (subRes (sval a) (sval b)) ∧ Below w.heap.size w w' := by
  rcases Nat.lt_or_ge (sval a) (sval b) with h | h
  · have HC : Hid (∀ W, Calls Tryz.prog 41 #[.string a, .string b] W fun e w' => e = .returned (.int .i64 (-1)) ∧ W = w') := Lib.hid (fun W => by rw [← cmpI_lt h]; exact rCmp a b W (by omega) (by omega))
    have hR : subRes (sval a) (sval b) = .tuple #[.string ⟨#[]⟩, .bool false] := by unfold subRes; rw [if_neg (by omega)]
    rw [hR]
    clear hR h
    go_enter Tryz.func18, Tryz.ntmps18
    go_wp2_with fail
    refine (HC.out _).mono ?_
    rintro e w' ⟨rfl, rfl⟩
    go_wp2_with fail
    go_ret2
    exact ⟨rfl, Below.refl _ _⟩
  · have hc : 0 ≤ cmpI (sval a) (sval b) := by
      rcases Nat.lt_or_ge (sval b) (sval a) with h1 | h1
      · rw [cmpI_gt h1]; omega
      · rw [cmpI_eq (by omega)]; omega
    have HR : Hid (subRes (sval a) (sval b) = .tuple #[.string (natS (sval a - sval b)), .bool true]) := Lib.hid (by unfold subRes; rw [if_pos h])
    have HGE := Lib.hid h
    clear h
    go_enter Tryz.func18, Tryz.ntmps18
    go_wp2_with fail
    refine (rCmp a b _ (by omega) (by omega)).mono ?_
    rintro e w' ⟨rfl, rfl⟩
    go_wp2_with fail
    refine (rOf_ a _ ha).mono ?_
    rintro e w1 ⟨⟨A, n, c, us, rfl, hu, htu, hvu⟩, hb1⟩
    have hn : n ≤ a.size := ifew hu htu (by rw [hvu]; exact sval_lt a)
    have HVU := Lib.hid hvu
    clear hvu
    go_wp2_with fail
    refine (rOf_ b _ hb).mono ?_
    rintro e w2 ⟨⟨B, m, d, vs, rfl, hv, htv, hvv⟩, hb2⟩
    have hmn : m ≤ n := by
      rw [← hv.len, ← hu.len]
      refine htv.len_le ?_
      rw [hvv]
      refine Nat.lt_of_le_of_lt HGE.out ?_
      rw [← HVU.out]
      exact R.val_lt hu.lt
    have HVV := Lib.hid hvv
    clear hvv
    go_wp2_with fail
    refine (rminus _ _ _ _ _ _ _ _ _ (hu.below hb2) hv (by omega) hmn (by rw [HVU.out, HVV.out]; exact HGE.out)).mono ?_
    rintro e w3 ⟨⟨A3, n3, c3, zs, rfl, hz, htz, hvz⟩, hb3⟩
    rw [HVU.out, HVV.out] at hvz
    have hn3 : n3 ≤ a.size := ifew hz htz (by rw [hvz]; exact Nat.lt_of_le_of_lt (Nat.sub_le _ _) (sval_lt a))
    have HVZ := Lib.hid hvz
    clear hvz
    go_wp2_with fail
    refine (rnumber _ _ _ _ _ hz (by omega)).mono ?_
    rintro e w4 ⟨rfl, hb4⟩
    rw [HVZ.out]
    go_wp2_with fail
    go_ret2
    exact ⟨by rw [HR.out]; rfl, below_then (below_then (below_then hb1 hb2) hb3) hb4⟩

end Go.Proofs.YthiogjpjkdnbjaaGreatDoor
