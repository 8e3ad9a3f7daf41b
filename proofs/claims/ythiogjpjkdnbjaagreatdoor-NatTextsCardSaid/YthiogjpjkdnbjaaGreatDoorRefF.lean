/- The reference's times and minus, on digits. -/
import Derived.Test.YthiogjpjkdnbjaaGreatDoorRefE
namespace Go.Proofs.YthiogjpjkdnbjaaGreatDoor
open Go.RowKit

theorem own_below {B : Nat} {w w' : World} {v : Value} {xs : List Nat} (h : Own24 B w v xs) (hb : Below w.heap.size w w') : Own24 B w' v xs :=
  World.ownsRow.kept h (grown_of_below hb none) (by
    rcases h.2 with ⟨rfl, _⟩ | ⟨g, cap, cur, rfl, _⟩
    · exact .inl rfl
    · exact .inr (by simp [Value.ownBlock]))

theorem mul_bd {u : Nat} (d : Nat) (hu : u < 16777216) : u * d + d ≤ 16777216 * d := by
  have := Nat.mul_le_mul_right d (show u + 1 ≤ 16777216 from hu)
  rwa [Nat.add_mul, Nat.one_mul] at this

set_option maxRecDepth 100000 in
set_option maxHeartbeats 1000000 in
theorem rtimes (A : Option Addr) (n c : Nat) (us : List Nat) (d : Nat) (w : World) (h : IDg w A n c us) (hn : n ≤ 1000000) (hd : d < 16777216) :
    Calls Tryz.prog 52 #[.slice A n c, .int .i64 (d : Int)] w fun e w' => GivesI w' (R.val us * d) e ∧ Below w.heap.size w w' := by
  have HL := Lib.hid h.len
  go_enter Tryz.func52, Tryz.ntmps52
  go_wp2_with fail
  go_loopw [5, 6, 7, 8] (fun v cy k _ wr => ∃ (i t : Nat) (fs : List Nat), i ≤ n ∧ k = .int .i64 (i : Int) ∧ cy = .int .i64 (t : Int) ∧ t ≤ d ∧ Own24 w.heap.size wr v fs ∧ R.Lt24 fs ∧ Hid (fs.length = i ∧ R.val fs + R.P24 i * t = R.val (us.take i) * d) ∧ Below w.heap.size w wr) (fun _ _ k _ _ => n - (intOf k).toNat)
  case atStart =>
    exact ⟨0, 0, [], by omega, rfl, rfl, by omega, Own24.nil_ _ _, R.Lt24.nil, Lib.hid ⟨rfl, by simp [R.val]⟩, Below.refl _ _⟩
  case round =>
    obtain ⟨i, t, fs, hi, rfl, rfl, ht, hown, hlt, HF, hb⟩ := hrel
    by_cases h0 : i < n
    · obtain ⟨b, o, u, rfl, hu, hul, huc⟩ := (h.below hb).get (k := i) h0
      have HU := Lib.hid hu
      clear hu
      have hm := mul_bd d hul
      obtain ⟨p, hp⟩ : ∃ p, p = u * d := ⟨_, rfl⟩
      rw [← hp] at hm
      have hmul : (u : Int) * (d : Int) = (p : Int) := by rw [hp]; simp
      obtain ⟨s, hs⟩ : ∃ s, s = p + t := ⟨_, rfl⟩
      have hsum : (p : Int) + (t : Int) = (s : Int) := by omega
      obtain ⟨r, hr⟩ : ∃ r, r = s % 16777216 := ⟨_, rfl⟩
      obtain ⟨q, hq⟩ : ∃ q, q = s / 16777216 := ⟨_, rfl⟩
      have hrr : (s : Int) % 16777216 = (r : Int) := by omega
      have hqq : (s : Int) / 16777216 = (q : Int) := by omega
      have hsl : s ≤ 16777216 * 16777216 := by omega
      have hrl : r < 16777216 := by omega
      have hql : q ≤ d := by omega
      have HST : Hid (R.val (fs ++ [r]) + R.P24 (i + 1) * q = R.val (us.take (i + 1)) * d) := Lib.hid (by
        rw [hr, hq, R.carry_step HF.out.1, hs, hp, Nat.mul_add, R.val_take_succ HU.out, Nat.add_mul, ← HF.out.2, Nat.mul_assoc]
        omega)
      have HP := Lib.hid hp
      clear hp hs hr hq hm
      have hdl : fs.length ≤ 10000000 := by rw [HF.out.1]; omega
      go_wp2_with (at_builtin; refine wp_append24 rfl _ _ rfl rfl hown rfl hdl hb ?_; intro v1 w1 hown1 hb1 hg1)
      go_roundw
      case rel => exact ⟨i + 1, q, fs ++ [r], by omega, by go_num, rfl, hql, hown1, hlt.snoc hrl, Lib.hid ⟨by rw [List.length_append, HF.out.1]; rfl, HST.out⟩, hb1⟩
      case measure => simp [intOf]; omega
    · obtain rfl : i = n := by omega
      have hdl : fs.length ≤ 10000000 := by rw [HF.out.1]; omega
      go_wp2_with (at_builtin; refine wp_append24 rfl _ _ rfl rfl hown rfl hdl hb ?_; intro v1 w1 hown1 hb1 hg1)
      obtain ⟨A2, c2, rfl, hdg⟩ := hown1.dig (hlt.snoc (by omega))
      have hdl2 : (fs ++ [t]).length ≤ 100000000 := by rw [List.length_append]; simp; omega
      refine (rTrim_gives _ _ _ _ _ hdg hdl2).mono ?_
      rintro e w2 ⟨⟨A3, n3, c3, zs, rfl, hd3, ht3, hv3⟩, rfl⟩
      have HV3 := Lib.hid hv3
      clear hv3 hdl2
      go_wp2_with fail
      go_ret
      refine ⟨⟨A3, n3, c3, zs, rfl, hd3, ht3, ?_⟩, hb1⟩
      have h1 := HF.out
      rw [HV3.out, R.val_snoc, h1.1, h1.2, R.val_take_all (by rw [HL.out]; exact Nat.le_refl _)]

theorem take_getD {xs : List Nat} (k : Nat) : R.val (xs.take (k + 1)) = R.val (xs.take k) + R.P24 k * xs.getD k 0 := by
  by_cases h : k < xs.length
  · rw [R.val_take_succ (List.getElem?_eq_getElem h), List.getD_eq_getElem?_getD, List.getElem?_eq_getElem h]; rfl
  · rw [List.take_of_length_le (by omega), List.take_of_length_le (by omega), List.getD_eq_getElem?_getD, List.getElem?_eq_none (by omega)]; simp

/-- A step of a subtraction, borrow and all. -/
theorem bor_parts {x y b : Nat} (hx : x < 16777216) (hy : y < 16777216) (hb : b ≤ 1) :
    (b + y ≤ x ∧ ∃ v : Nat, (x : Int) - (b : Int) - (y : Int) = (v : Int) ∧ v < 16777216 ∧ v + b + y = x + 16777216 * 0) ∨
    (x < b + y ∧ (x : Int) - (b : Int) - (y : Int) < 0 ∧ ∃ v : Nat, (x : Int) - (b : Int) - (y : Int) + 16777216 = (v : Int) ∧ v < 16777216 ∧ v + b + y = x + 16777216 * 1) := by
  rcases Nat.lt_or_ge x (b + y) with h | h
  · exact .inr ⟨h, by omega, x + 16777216 - b - y, by omega, by omega, by omega⟩
  · exact .inl ⟨h, x - b - y, by omega, by omega, by omega⟩

set_option maxRecDepth 100000 in
set_option maxHeartbeats 2000000 in
theorem rminus (A : Option Addr) (n c : Nat) (us : List Nat) (B : Option Addr) (m d : Nat) (vs : List Nat) (w : World) (h : IDg w A n c us) (k : IDg w B m d vs) (hn : n ≤ 1000000) (hmn : m ≤ n) (hle : R.val vs ≤ R.val us) :
    Calls Tryz.prog 45 #[.slice A n c, .slice B m d] w fun e w' => GivesI w' (R.val us - R.val vs) e ∧ Below w.heap.size w w' := by
  have HL := Lib.hid h.len
  have HM := Lib.hid k.len
  have HLE := Lib.hid hle
  clear hle
  go_enter Tryz.func45, Tryz.ntmps45
  go_wp2_with fail
  go_loopw [5, 6, 7, 8] (fun v bw s7 _ wr => ∃ (i t : Nat) (fs : List Nat), i ≤ n ∧ s7 = .int .i64 (i : Int) ∧ bw = .int .i64 (t : Int) ∧ t ≤ 1 ∧ Own24 w.heap.size wr v fs ∧ R.Lt24 fs ∧ Hid (fs.length = i ∧ R.val fs + R.val (vs.take i) = R.val (us.take i) + R.P24 i * t) ∧ Below w.heap.size w wr) (fun _ _ s7 _ _ => n - (intOf s7).toNat)
  case atStart =>
    exact ⟨0, 0, [], by omega, rfl, rfl, by omega, Own24.nil_ _ _, R.Lt24.nil, Lib.hid ⟨rfl, by simp [R.val]⟩, Below.refl _ _⟩
  case round =>
    obtain ⟨i, t, fs, hi, rfl, rfl, ht, hown, hlt, HF, hb⟩ := hrel
    have hdl : fs.length ≤ 10000000 := by rw [HF.out.1]; omega
    by_cases h0 : i < n
    · obtain ⟨b, o, x, rfl, hx, hxl, hxc⟩ := (h.below hb).get (k := i) h0
      have HX := Lib.hid hx
      clear hx
      by_cases h1 : i < m
      · obtain ⟨b2, o2, y, rfl, hy, hyl, hyc⟩ := (k.below hb).get (k := i) h1
        have HY := Lib.hid hy
        clear hy
        rcases bor_parts hxl hyl ht with ⟨hge, v, hv, hvl, hvv⟩ | ⟨hge, hneg, v, hv, hvl, hvv⟩
        · have HST : Hid (R.val (fs ++ [v]) + R.val (vs.take (i + 1)) = R.val (us.take (i + 1)) + R.P24 (i + 1) * 0) := Lib.hid (by
            rw [R.val_take_succ HX.out, R.val_take_succ HY.out]; exact R.borrow_step HF.out.1 HF.out.2 hvv)
          clear hvv
          go_wp2_with (at_builtin; refine wp_append24 rfl _ _ rfl rfl hown rfl hdl hb ?_; intro v1 w1 hown1 hb1 hg1)
          go_roundw
          case rel => exact ⟨i + 1, 0, fs ++ [v], by omega, by go_num, rfl, by omega, hown1, hlt.snoc hvl, Lib.hid ⟨by rw [List.length_append, HF.out.1]; rfl, HST.out⟩, hb1⟩
          case measure => simp [intOf]; omega
        · have HST : Hid (R.val (fs ++ [v]) + R.val (vs.take (i + 1)) = R.val (us.take (i + 1)) + R.P24 (i + 1) * 1) := Lib.hid (by
            rw [R.val_take_succ HX.out, R.val_take_succ HY.out]; exact R.borrow_step HF.out.1 HF.out.2 hvv)
          clear hvv
          go_wp2_with (at_builtin; refine wp_append24 rfl _ _ rfl rfl hown rfl hdl hb ?_; intro v1 w1 hown1 hb1 hg1)
          go_roundw
          case rel => exact ⟨i + 1, 1, fs ++ [v], by omega, by go_num, rfl, by omega, hown1, hlt.snoc hvl, Lib.hid ⟨by rw [List.length_append, HF.out.1]; rfl, HST.out⟩, hb1⟩
          case measure => simp [intOf]; omega
      · have hz : R.val (vs.take (i + 1)) = R.val (vs.take i) + R.P24 i * 0 := by
          rw [take_getD, List.getD_eq_getElem?_getD, List.getElem?_eq_none (by rw [HM.out]; omega)]; rfl
        have HZ := Lib.hid hz
        clear hz
        rcases bor_parts (y := 0) hxl (by omega) ht with ⟨hge, v, hv, hvl, hvv⟩ | ⟨hge, hneg, v, hv, hvl, hvv⟩
        · have HST : Hid (R.val (fs ++ [v]) + R.val (vs.take (i + 1)) = R.val (us.take (i + 1)) + R.P24 (i + 1) * 0) := Lib.hid (by
            rw [R.val_take_succ HX.out, HZ.out]; exact R.borrow_step HF.out.1 HF.out.2 hvv)
          have hv' : (x : Int) - (t : Int) = (v : Int) := by omega
          clear hvv hv
          go_wp2_with (at_builtin; refine wp_append24 rfl _ _ rfl rfl hown rfl hdl hb ?_; intro v1 w1 hown1 hb1 hg1)
          go_roundw
          case rel => exact ⟨i + 1, 0, fs ++ [v], by omega, by go_num, rfl, by omega, hown1, hlt.snoc hvl, Lib.hid ⟨by rw [List.length_append, HF.out.1]; rfl, HST.out⟩, hb1⟩
          case measure => simp [intOf]; omega
        · have HST : Hid (R.val (fs ++ [v]) + R.val (vs.take (i + 1)) = R.val (us.take (i + 1)) + R.P24 (i + 1) * 1) := Lib.hid (by
            rw [R.val_take_succ HX.out, HZ.out]; exact R.borrow_step HF.out.1 HF.out.2 hvv)
          have hv' : (x : Int) - (t : Int) + 16777216 = (v : Int) := by omega
          have hneg' : (x : Int) - (t : Int) < 0 := by omega
          clear hvv hv hneg
          go_wp2_with (at_builtin; refine wp_append24 rfl _ _ rfl rfl hown rfl hdl hb ?_; intro v1 w1 hown1 hb1 hg1)
          go_roundw
          case rel => exact ⟨i + 1, 1, fs ++ [v], by omega, by go_num, rfl, by omega, hown1, hlt.snoc hvl, Lib.hid ⟨by rw [List.length_append, HF.out.1]; rfl, HST.out⟩, hb1⟩
          case measure => simp [intOf]; omega
    · obtain rfl : i = n := by omega
      obtain ⟨A2, c2, rfl, hdg⟩ := hown.dig hlt
      go_wp2_with fail
      refine (rTrim_gives _ _ _ _ _ hdg (by omega)).mono ?_
      rintro e w2 ⟨⟨A3, n3, c3, zs, rfl, hd3, ht3, hv3⟩, rfl⟩
      have HV3 := Lib.hid hv3
      clear hv3
      go_wp2_with fail
      go_ret
      refine ⟨⟨A3, n3, c3, zs, rfl, hd3, ht3, ?_⟩, hb⟩
      have h1 := HF.out
      have h2 := HLE.out
      rw [R.val_take_all (by rw [HM.out]; exact hmn), R.val_take_all (by rw [HL.out]; exact Nat.le_refl _)] at h1
      have h3 := R.val_lt hlt
      rw [h1.1] at h3
      rw [HV3.out]
      rcases Nat.eq_zero_or_pos t with h4 | h4
      · rw [h4] at h1; omega
      · have : t = 1 := by omega
        rw [this] at h1; omega

end Go.Proofs.YthiogjpjkdnbjaaGreatDoor
