/- Joined by a program: DelD, DelE. -/
import Derived.Test.YtebgmlbbilcbbaaGreatDoorDelOne
namespace Go.Proofs.YtebgmlbbilcbbaaGreatDoor
open Go.RowKit

/-- A challenge as a string. -/
def chalS (x y m t : Nat) : ByteArray := ⟨((shaS (chalL x y m t)).take 8).toArray⟩
theorem sval_chalS (x y m t : Nat) : sval (chalS x y m t) = chalN x y m t := sval_of _
theorem chalS_size (x y m t : Nat) : (chalS x y m t).size = 8 := by
  show (List.toArray _).size = 8
  simp [sha_len]
theorem decS_len {a : ByteArray} (h : a.size ≤ 400) : (decS (sval a)).size ≤ 1201 := by
  have := dec_bytes a
  show (Lib.decDigits (sval a)).toArray.size ≤ _
  rw [List.size_toArray]; omega
theorem decS_int {t : Nat} (h : t ≤ 9223372036854775807) : (decS t).size ≤ 20 := by
  show (Lib.decDigits t).toArray.size ≤ _
  rw [List.size_toArray]
  exact Nat.le_trans (dec_len 19 t (by omega)).1 (by omega)
theorem decS_list (n : Nat) : (decS n).data.toList = Lib.decDigits n := by simp [decS]
theorem bytes_eq {a b : ByteArray} (h : a.data.toList = b.data.toList) : a = b := ByteArray.ext (Array.toList_inj.1 h)
theorem BDg.first {w : World} {A : Option Addr} {n c m : Nat} {l : List UInt8} (h : BDg w A n c l) (hm : m ≤ n) : BDg w A m c (l.take m) := by
  refine ⟨by rw [List.length_take, h.len]; omega, Nat.le_trans hm h.cap, fun h0 => ?_⟩
  obtain ⟨b, o, e, hc⟩ := h.at_ (by omega)
  refine ⟨b, o, e, fun j d hd => hc j d ?_⟩
  rw [List.getElem?_take] at hd
  split at hd
  · exact hd
  · cases hd
theorem join4 (a b c d : List UInt8) : Lib.join [a, b, c, d] [47] = a ++ 47 :: (b ++ 47 :: (c ++ 47 :: d)) := by
  simp [Lib.join, List.intercalate, List.intersperse]

set_option maxRecDepth 100000 in
set_option maxHeartbeats 2000000 in
theorem challenge_q (x y m : ByteArray) (t : Nat) (hx : x.size ≤ 400) (hy : y.size ≤ 400) (hm : m.size ≤ 400) (ht : t ≤ 9223372036854775807) : RetT 136 #[.string x, .string y, .string m, .int .i64 (t : Int)] (.string (chalS (sval x) (sval y) (sval m) t)) := by
  intro w hT
  obtain ⟨h, hh⟩ : ∃ h, h = shaS (chalL (sval x) (sval y) (sval m) t) := ⟨_, rfl⟩
  have hl : h.length = 32 := by rw [hh]; exact sha_len _
  have m1 := Lib.hid (fun (W : World) (hW : Tabs W) => Text_any x W (by omega) hW.p)
  have m2 := Lib.hid (fun (W : World) (hW : Tabs W) => Text_any y W (by omega) hW.p)
  have m3 := Lib.hid (fun (W : World) (hW : Tabs W) => Text_any m W (by omega) hW.p)
  have m4 : Hid (∀ W, Tabs W → Calls Tryz.prog 85 #[.int .i64 (t : Int)] W fun e w' => e = .returned (.string (decS t)) ∧ Below W.heap.size W w') := Lib.hid (fun W hW => itoa_nat t W ht hW.p)
  have s1 := decS_len hx
  have s2 := decS_len hy
  have s3 := decS_len hm
  have s4 := decS_int ht
  have hjl : (Lib.join ([decS (sval x), decS (sval y), decS (sval m), decS t].map (·.data.toList)) [47]).length ≤ 4000 := by
    simp only [List.map_cons, List.map_nil]
    rw [join4]
    simp only [List.length_append, List.length_cons, size_len]
    omega
  obtain ⟨j, hj⟩ : ∃ j, j = (⟨(Lib.join ([decS (sval x), decS (sval y), decS (sval m), decS t].map (·.data.toList)) [47]).toArray⟩ : ByteArray) := ⟨_, rfl⟩
  have m5 : Hid (∀ (W : World) (g : Nat), Blk W g 9 #[.string (decS (sval x)), .string (decS (sval y)), .string (decS (sval m)), .string (decS t)] → Calls Tryz.prog 143 #[.slice (some ⟨g, 0, none⟩) 4 4, .string ⟨#[47]⟩] W fun e w' => e = .returned (.string j) ∧ Below W.heap.size W w') := Lib.hid (fun W g hk => by
    rw [hj]
    refine Tryz.strings_Join g 0 4 [decS (sval x), decS (sval y), decS (sval m), decS t] ⟨#[47]⟩ W (fun i z hz => ?_) hk.lt (by show 4 ≤ _; omega) (by show 4 ≤ 4; omega) (Nat.le_trans hjl (by decide))
    rw [Nat.zero_add]
    match i, hz with
    | 0, hz => obtain rfl := Option.some.inj hz; exact hk.cell 0
    | 1, hz => obtain rfl := Option.some.inj hz; exact hk.cell 1
    | 2, hz => obtain rfl := Option.some.inj hz; exact hk.cell 2
    | 3, hz => obtain rfl := Option.some.inj hz; exact hk.cell 3
    | i + 4, hz => simp at hz)
  have hjs : j.size ≤ 4000 := by rw [hj]; show (List.toArray _).size ≤ _; rw [List.size_toArray]; exact hjl
  obtain ⟨u, hu⟩ : ∃ u, u = (⟨#[100, 101, 108, 97, 121, 47]⟩ : ByteArray) ++ j := ⟨_, rfl⟩
  have hul : u.data.toList = chalL (sval x) (sval y) (sval m) t := by
    rw [hu, ByteArray.data_append, Array.toList_append, hj]
    unfold chalL
    simp only [List.map_cons, List.map_nil, join4, decS_list]
  have hus : u.size ≤ 1000000 := by rw [hu, ByteArray.size_append]; show 6 + j.size ≤ _; omega
  have m6 : Hid (∀ W, Tabs W → Calls Tryz.prog 92 #[.string u] W fun e w' => e = .returned (.agg (u8a h)) ∧ Below W.heap.size W w') := Lib.hid (fun W hW => by rw [hh, ← hul]; exact Sum_any u W hus hW.k hW.f)
  have hres : chalS (sval x) (sval y) (sval m) t = ⟨(h.take 8).toArray⟩ := by rw [hh]; rfl
  rw [hres]
  have hcat := hu.symm
  have HT := Lib.hid hT
  clear hu hul hh hj hres hT hjl
  generalize decS (sval x) = d1 at m1 m5 s1
  generalize decS (sval y) = d2 at m2 m5 s2
  generalize decS (sval m) = d3 at m3 m5 s3
  generalize decS t = d4 at m4 m5 s4
  go_enter Tryz.func136, Tryz.ntmps136
  go_wp2_with fail
  refine (m1.out _ HT.out).mono ?_
  rintro e w1 ⟨rfl, hB⟩
  go_wp2_with fail
  refine (m2.out _ (HT.out.below hB)).mono ?_
  rintro e w2 ⟨rfl, hb⟩
  replace hB := below_then hB hb
  go_wp2_with fail
  refine (m3.out _ (HT.out.below hB)).mono ?_
  rintro e w3 ⟨rfl, hb⟩
  replace hB := below_then hB hb
  go_wp2_with fail
  refine (m4.out _ (HT.out.below hB)).mono ?_
  rintro e w4 ⟨rfl, hb⟩
  replace hB := below_then hB hb
  go_upto_region 2 with fail
  refine nameOne #[.string d1, .string d2, .string d3, .string d4] rfl ?_
  intro W0 hk hb0
  replace hB := below_then hB hb0
  go_wp2_with fail
  refine (m5.out _ _ hk).mono ?_
  rintro e w5 ⟨rfl, hb⟩
  replace hB := below_then hB hb
  go_wp2_with fail
  refine (m6.out _ (HT.out.below hB)).mono ?_
  rintro e w6 ⟨rfl, hb⟩
  replace hB := below_then hB hb
  have hsz : (u8a h).size = 32 := by simp [u8a, u8l, hl]
  go_upto_region 3 with (refine wpList_store_rowTo rfl 71 _ _ rfl rfl _ (u8a h) rfl rfl _ _ (Blk.new _ _ _) (by rw [hsz]; kernel_rfl) (by rw [hsz]; rfl) (u8a_one _) ?_)
  refine nameStored (u8a h) ?_
  intro W1 hk1 hb1
  have hcv := run_nat_bytes (BDg.first (hk1.bdg (n := 32) (c := 32) hl (Nat.le_refl _)) (show 8 ≤ 32 by decide))
  go_wp2_with fail
  go_ret
  exact ⟨rfl, below_then hB hb1⟩

/-- The numbers of a halving as strings. -/
theorem pow_q (a s : ByteArray) (ha : a.size ≤ 400) (hs : s.size ≤ 400) : Ret 137 #[.string a, .string s, .string modS] (.tuple #[.string (natS (sval a ^ sval s % modN)), .bool true]) := fun W => by
  have := Pow_any a s modS W (by omega) (by omega) (by decide)
  unfold powRes at this
  rw [sval_modS, if_neg (by decide)] at this
  exact this
theorem rpow_q (a s : ByteArray) (ha : a.size ≤ 400) (hs : s.size ≤ 400) : Ret 82 #[.string a, .string s, .string modS] (.tuple #[.string (natS (sval a ^ sval s % modN)), .bool true]) := fun W => by
  have := rPow a s modS W (by omega) (by omega) (by decide) (by rw [sval_modS]; decide)
  rw [sval_modS] at this
  exact this
theorem rest_mul (a : ByteArray) (k : Nat) (ha : a.size ≤ 400) : ∃ c : ByteArray, Ret 93 #[.string a, .string (natS (k % modN))] (.string c) ∧ Ret 78 #[.string c] (.string (natS (sval a * (k % modN) % modN))) := by
  have h1 := natS_mod k
  refine ⟨natS (sval a * (k % modN)), ret_mul (by omega) (by omega) (by rw [sval_natS]), ?_⟩
  exact (rest_q _ (Nat.le_trans (natS_size (P8_prod (sval_le ha) (Nat.lt_trans (mod_lt k) modN_lt))) (by omega))).of (by rw [sval_natS])
theorem rRest_mul (a : ByteArray) (k : Nat) (ha : a.size ≤ 400) : ∃ c : ByteArray, Ret 42 #[.string (natS (k % modN)), .string a] (.string c) ∧ Ret 18 #[.string c] (.string (natS (sval a * (k % modN) % modN))) := by
  have h1 := natS_mod k
  refine ⟨natS (sval a * (k % modN)), fun W => ?_, ?_⟩
  · have := rMul (natS (k % modN)) a W (by omega) (by omega)
    rw [sval_natS, Nat.mul_comm] at this
    exact this
  · exact (rRest_q _ (Nat.le_trans (natS_size (P8_prod (sval_le ha) (Nat.lt_trans (mod_lt k) modN_lt))) (by omega))).of (by rw [sval_natS])

set_option maxRecDepth 100000 in
set_option maxHeartbeats 2000000 in
theorem halve_q (x y m : ByteArray) (t : Nat) (hx : x.size ≤ 400) (hy : y.size ≤ 400) (hm : m.size ≤ 400) (ht : t ≤ 9223372036854775807) : RetT 80 #[.string x, .string y, .string m, .int .i64 (t : Int)] (.tuple #[.string (natS (halveN (sval x) (sval y) (sval m) t).1), .string (natS (halveN (sval x) (sval y) (sval m) t).2)]) := by
  intro w hT
  obtain ⟨r, hr, hrs, hrv⟩ : ∃ r : ByteArray, RetT 136 #[.string x, .string y, .string m, .int .i64 (t : Int)] (.string r) ∧ r.size = 8 ∧ sval r = chalN (sval x) (sval y) (sval m) t := ⟨_, challenge_q x y m t hx hy hm ht, chalS_size _ _ _ _, sval_chalS _ _ _ _⟩
  have p1 := pow_q x r hx (by omega)
  have p2 := pow_q m r hm (by omega)
  obtain ⟨c1, u1, v1⟩ := rest_mul m (sval x ^ sval r) hm
  obtain ⟨c2, u2, v2⟩ := rest_mul y (sval m ^ sval r) hy
  rw [halve_eq, ← hrv]
  dsimp only
  have m0 := Lib.hid hr
  have m1 := Lib.hid p1
  have m2 := Lib.hid p2
  have m3 := Lib.hid u1
  have m4 := Lib.hid v1
  have m5 := Lib.hid u2
  have m6 := Lib.hid v2
  clear hr hrs hrv p1 p2 u1 v1 u2 v2
  generalize natS (sval m * (sval x ^ sval r % modN) % modN) = R1 at m4 ⊢
  generalize natS (sval y * (sval m ^ sval r % modN) % modN) = R2 at m6 ⊢
  generalize natS (sval x ^ sval r % modN) = P1 at m1 m3
  generalize natS (sval m ^ sval r % modN) = P2 at m2 m5
  go_enter Tryz.func80, Tryz.ntmps80
  go_wp2_with fail
  refine (m0.out _ hT).mono ?_
  rintro e w1 ⟨rfl, hB⟩
  go_wp2_with fail
  refine (m1.out _).mono ?_
  rintro e w2 ⟨rfl, hb⟩
  replace hB := below_then hB hb
  go_wp2_with fail
  refine (m2.out _).mono ?_
  rintro e w3 ⟨rfl, hb⟩
  replace hB := below_then hB hb
  go_wp2_with fail
  refine (m3.out _).mono ?_
  rintro e w4 ⟨rfl, hb⟩
  replace hB := below_then hB hb
  go_wp2_with fail
  refine (m4.out _).mono ?_
  rintro e w5 ⟨rfl, hb⟩
  replace hB := below_then hB hb
  go_wp2_with fail
  refine (m5.out _).mono ?_
  rintro e w6 ⟨rfl, hb⟩
  replace hB := below_then hB hb
  go_wp2_with fail
  refine (m6.out _).mono ?_
  rintro e w7 ⟨rfl, hb⟩
  replace hB := below_then hB hb
  go_wp2_with fail
  go_ret2
  exact ⟨rfl, hB⟩

set_option maxHeartbeats 400000 in
theorem decimal_q (t : Nat) (ht : t ≤ 9223372036854775807) : Ret 102 #[.int .i64 (t : Int)] (.string (decS t)) := by
  intro w
  have h1 : Ret 73 #[.int .i64 (t : Int)] (.string (natS t)) := fun W => by
    have := rOf (t : Int) W (by omega)
    exact this
  have hs : (natS t).size ≤ 8 := natS_size (Nat.lt_of_le_of_lt ht (by decide +kernel))
  have h2 : Ret 41 #[.string (natS t)] (.string (decS t)) := fun W => by
    have := rText (natS t) W (by omega)
    rw [sval_natS] at this
    exact this
  have m1 := Lib.hid h1
  have m2 := Lib.hid h2
  clear h1 h2
  go_enter Tryz.func102, Tryz.ntmps102
  go_wp2_with fail
  refine (m1.out _).mono ?_
  rintro e w1 ⟨rfl, hB⟩
  go_wp2_with fail
  refine (m2.out _).mono ?_
  rintro e w2 ⟨rfl, hb⟩
  go_wp2_with fail
  go_ret
  exact ⟨rfl, below_then hB hb⟩

set_option maxRecDepth 100000 in
set_option maxHeartbeats 2000000 in
theorem rChallenge_q (x y m : ByteArray) (t : Nat) (hx : x.size ≤ 400) (hy : y.size ≤ 400) (hm : m.size ≤ 400) (ht : t ≤ 9223372036854775807) : Ret 81 #[.string x, .string y, .string m, .int .i64 (t : Int)] (.string (chalS (sval x) (sval y) (sval m) t)) := by
  intro w
  obtain ⟨h, hh⟩ : ∃ h, h = shaS (chalL (sval x) (sval y) (sval m) t) := ⟨_, rfl⟩
  have hl : h.length = 32 := by rw [hh]; exact sha_len _
  have m1 := Lib.hid (fun (W : World) => rText x W (by omega))
  have m2 := Lib.hid (fun (W : World) => rText y W (by omega))
  have m3 := Lib.hid (fun (W : World) => rText m W (by omega))
  have m4 := Lib.hid (decimal_q t ht)
  have s1 := decS_len hx
  have s2 := decS_len hy
  have s3 := decS_len hm
  have s4 := decS_int ht
  obtain ⟨u, hu⟩ : ∃ u, u = (⟨#[100, 101, 108, 97, 121, 47]⟩ : ByteArray) ++ decS (sval x) ++ ⟨#[47]⟩ ++ decS (sval y) ++ ⟨#[47]⟩ ++ decS (sval m) ++ ⟨#[47]⟩ ++ decS t := ⟨_, rfl⟩
  have hul : u.data.toList = chalL (sval x) (sval y) (sval m) t := by
    rw [hu]
    unfold chalL
    simp only [ByteArray.data_append, Array.toList_append, decS_list, List.append_assoc]
    rfl
  have hus : u.size ≤ 1000000 := by
    rw [hu]
    simp only [ByteArray.size_append]
    show 6 + _ + 1 + _ + 1 + _ + 1 + _ ≤ 1000000
    omega
  have m6 : Hid (∀ W : World, Calls Tryz.prog 64 #[.string u] W fun e w' => e = .returned (.agg (u8a h)) ∧ Below W.heap.size W w') := Lib.hid (fun W => by rw [hh, ← hul]; exact rSum_any u W hus)
  have hres : chalS (sval x) (sval y) (sval m) t = ⟨(h.take 8).toArray⟩ := by rw [hh]; rfl
  rw [hres]
  have hcat := hu.symm
  clear hu hul hh hres
  generalize decS (sval x) = d1 at m1 hcat s1
  generalize decS (sval y) = d2 at m2 hcat s2
  generalize decS (sval m) = d3 at m3 hcat s3
  generalize decS t = d4 at m4 hcat s4
  go_enter Tryz.func81, Tryz.ntmps81
  go_wp2_with fail
  refine (m1.out _).mono ?_
  rintro e w1 ⟨rfl, hB⟩
  go_wp2_with fail
  refine (m2.out _).mono ?_
  rintro e w2 ⟨rfl, hb⟩
  replace hB := below_then hB hb
  go_wp2_with fail
  refine (m3.out _).mono ?_
  rintro e w3 ⟨rfl, hb⟩
  replace hB := below_then hB hb
  go_wp2_with fail
  refine (m4.out _).mono ?_
  rintro e w4 ⟨rfl, hb⟩
  replace hB := below_then hB hb
  go_wp2_with fail
  refine (m6.out _).mono ?_
  rintro e w6 ⟨rfl, hb⟩
  replace hB := below_then hB hb
  have hsz : (u8a h).size = 32 := by simp [u8a, u8l, hl]
  go_upto_region 2 with (refine wpList_store_rowTo rfl 71 _ _ rfl rfl _ (u8a h) rfl rfl _ _ (Blk.new _ _ _) (by rw [hsz]; kernel_rfl) (by rw [hsz]; rfl) (u8a_one _) ?_)
  refine nameStored (u8a h) ?_
  intro W1 hk1 hb1
  have hcv := run_nat_bytes (BDg.first (hk1.bdg (n := 32) (c := 32) hl (Nat.le_refl _)) (show 8 ≤ 32 by decide))
  go_wp2_with fail
  go_ret
  exact ⟨rfl, below_then hB hb1⟩

set_option maxRecDepth 100000 in
set_option maxHeartbeats 2000000 in
theorem rHalve_q (x y m : ByteArray) (t : Nat) (hx : x.size ≤ 400) (hy : y.size ≤ 400) (hm : m.size ≤ 400) (ht : t ≤ 9223372036854775807) : Ret 27 #[.string x, .string y, .string m, .int .i64 (t : Int)] (.tuple #[.string (natS (halveN (sval x) (sval y) (sval m) t).1), .string (natS (halveN (sval x) (sval y) (sval m) t).2)]) := by
  intro w
  obtain ⟨r, hr, hrs, hrv⟩ : ∃ r : ByteArray, Ret 81 #[.string x, .string y, .string m, .int .i64 (t : Int)] (.string r) ∧ r.size = 8 ∧ sval r = chalN (sval x) (sval y) (sval m) t := ⟨_, rChallenge_q x y m t hx hy hm ht, chalS_size _ _ _ _, sval_chalS _ _ _ _⟩
  have p1 := rpow_q x r hx (by omega)
  have p2 := rpow_q m r hm (by omega)
  obtain ⟨c1, u1, v1⟩ := rRest_mul m (sval x ^ sval r) hm
  obtain ⟨c2, u2, v2⟩ := rRest_mul y (sval m ^ sval r) hy
  rw [halve_eq, ← hrv]
  dsimp only
  have m0 := Lib.hid hr
  have m1 := Lib.hid p1
  have m2 := Lib.hid p2
  have m3 := Lib.hid u1
  have m4 := Lib.hid v1
  have m5 := Lib.hid u2
  have m6 := Lib.hid v2
  clear hr hrs hrv p1 p2 u1 v1 u2 v2
  generalize natS (sval m * (sval x ^ sval r % modN) % modN) = R1 at m4 ⊢
  generalize natS (sval y * (sval m ^ sval r % modN) % modN) = R2 at m6 ⊢
  generalize natS (sval x ^ sval r % modN) = P1 at m1 m3
  generalize natS (sval m ^ sval r % modN) = P2 at m2 m5
  go_enter Tryz.func27, Tryz.ntmps27
  go_wp2_with fail
  refine (m0.out _).mono ?_
  rintro e w1 ⟨rfl, hB⟩
  go_wp2_with fail
  refine (m1.out _).mono ?_
  rintro e w2 ⟨rfl, hb⟩
  replace hB := below_then hB hb
  go_wp2_with fail
  refine (m2.out _).mono ?_
  rintro e w3 ⟨rfl, hb⟩
  replace hB := below_then hB hb
  go_wp2_with fail
  refine (m3.out _).mono ?_
  rintro e w4 ⟨rfl, hb⟩
  replace hB := below_then hB hb
  go_wp2_with fail
  refine (m4.out _).mono ?_
  rintro e w5 ⟨rfl, hb⟩
  replace hB := below_then hB hb
  go_wp2_with fail
  refine (m5.out _).mono ?_
  rintro e w6 ⟨rfl, hb⟩
  replace hB := below_then hB hb
  go_wp2_with fail
  refine (m6.out _).mono ?_
  rintro e w7 ⟨rfl, hb⟩
  replace hB := below_then hB hb
  go_wp2_with fail
  go_ret2
  exact ⟨rfl, hB⟩

end Go.Proofs.YtebgmlbbilcbbaaGreatDoor
namespace Go.Proofs.YtebgmlbbilcbbaaGreatDoor
open Go.RowKit

theorem ofInt_i64 (a : Nat) (ha : a < 18446744073709551616) : (BitVec.ofInt 64 (a : Int)).toNat = a := by
  rw [BitVec.ofInt_natCast, BitVec.toNat_ofNat]; exact Nat.mod_eq_of_lt (by omega)
theorem i64_and_nat (a b : Nat) (ha : a < 9223372036854775808) (hb : b < 9223372036854775808) : bits .and .i64 (a : Int) (b : Int) = ((a &&& b : Nat) : Int) := by
  have hx : a &&& b < 2 ^ 63 := Nat.and_lt_two_pow _ (by omega)
  show IntKind.i64.wrap ((BitVec.ofInt 64 (a : Int) &&& BitVec.ofInt 64 (b : Int)).toNat : Int) = _
  rw [BitVec.toNat_and, ofInt_i64 a (by omega), ofInt_i64 b (by omega), IntKind.wrap_i64]
  omega
theorem i64_and63 (n : Int) : bits .and .i64 n 63 = n % 64 := by
  have h127 : (BitVec.ofInt 64 63).toNat = 2 ^ 6 - 1 := by decide
  have key : (BitVec.ofInt 64 n &&& BitVec.ofInt 64 63).toNat = (n % ((2 ^ 64 : Nat) : Int)).toNat % 2 ^ 6 := by
    rw [BitVec.toNat_and, BitVec.toNat_ofInt, h127, Nat.and_two_pow_sub_one_eq_mod]
  show IntKind.i64.wrap ((BitVec.ofInt 64 n &&& BitVec.ofInt 64 63).toNat : Nat) = n % 64
  rw [key, IntKind.wrap_i64]
  omega
/-- A number without bits of the one below is a power of 2. -/
theorem pow_and : ∀ (n k : Nat), n ≤ k → 0 < n → n &&& (n - 1) = 0 → ∃ j, n = 2 ^ j
  | n, 0, h, h0, _ => by omega
  | n, k + 1, h, h0, ha => by
    by_cases h1 : n = 1
    · exact ⟨0, h1⟩
    have hd : (n &&& (n - 1)) / 2 = (n / 2) &&& ((n - 1) / 2) := Nat.and_div_two
    rw [ha] at hd
    rcases Nat.mod_two_eq_zero_or_one n with he | he
    · rw [show (n - 1) / 2 = n / 2 - 1 by omega] at hd
      obtain ⟨j, hj⟩ := pow_and (n / 2) k (by omega) (by omega) hd.symm
      exact ⟨j + 1, by rw [Nat.pow_succ]; omega⟩
    · rw [show (n - 1) / 2 = n / 2 by omega, Nat.and_self] at hd
      omega
theorem and_pow (j : Nat) : 2 ^ j &&& (2 ^ j - 1) = 0 := by
  rw [Nat.and_two_pow_sub_one_eq_mod, Nat.mod_self]
/-- A number of steps that is a power of 2. -/
theorem pow_le20 {n : Nat} (h : n ≤ 20) : 2 ^ n ≤ 1048576 := Nat.pow_le_pow_right (n := 2) (by omega) h
theorem le20_pow {n : Nat} (h : 2 ^ n ≤ 1048576) : n ≤ 20 := by
  rcases Nat.lt_or_ge 20 n with h1 | h1
  · have := Nat.pow_le_pow_right (n := 2) (by omega) (show 21 ≤ n from h1)
    have e : (2 : Nat) ^ 21 = 2097152 := by decide
    omega
  · exact h1

theorem power_yes (n : Nat) (hn : n ≤ 20) : Ret 77 #[.int .i64 ((2 ^ n : Nat) : Int)] (.bool true) := by
  intro w
  have h1 := pow_le20 hn
  have h2 : 0 < 2 ^ n := Nat.two_pow_pos n
  have h3 : bits .and .i64 ((2 ^ n : Nat) : Int) (((2 ^ n : Nat) : Int) - 1) = 0 := by
    rw [show ((2 ^ n : Nat) : Int) - 1 = ((2 ^ n - 1 : Nat) : Int) by omega, i64_and_nat _ _ (by omega) (by omega), and_pow]; rfl
  generalize (2 ^ n : Nat) = t at *
  have g1 : (1 : Int) ≤ (t : Int) := by omega
  have g2 : (t : Int) ≤ 1048576 := by omega
  go_enter Tryz.func77, Tryz.ntmps77
  go_wp2_with fail
  go_ret
  exact ⟨rfl, Below.refl _ _⟩
theorem power_no (t : Int) (h : ∀ n : Nat, n ≤ 20 → t ≠ ((2 ^ n : Nat) : Int)) : Ret 77 #[.int .i64 t] (.bool false) := by
  intro w
  by_cases g1 : 1 ≤ t
  · by_cases g2 : t ≤ 1048576
    · obtain ⟨k, rfl⟩ := Int.eq_ofNat_of_zero_le (show 0 ≤ t by omega)
      have h3 : (bits .and .i64 (k : Int) ((k : Int) - 1) == 0) = false := by
        rw [beq_eq_false_iff_ne]
        intro e
        rw [show (k : Int) - 1 = ((k - 1 : Nat) : Int) by omega, i64_and_nat _ _ (by omega) (by omega)] at e
        obtain ⟨j, hj⟩ := pow_and k k (Nat.le_refl _) (by omega) (by omega)
        refine h j (le20_pow (by omega)) ?_
        rw [hj]
      clear h
      go_enter Tryz.func77, Tryz.ntmps77
      go_wp2_with fail
      go_ret
      exact ⟨rfl, Below.refl _ _⟩
    · clear h
      have g3 : decide (t ≤ 1048576) = false := by simp; omega
      go_enter Tryz.func77, Tryz.ntmps77
      go_wp2_with fail
      go_ret
      exact ⟨rfl, Below.refl _ _⟩
  · clear h
    have g3 : decide (1 ≤ t) = false := by simp; omega
    go_enter Tryz.func77, Tryz.ntmps77
    go_wp2_with fail
    go_ret
    exact ⟨rfl, Below.refl _ _⟩

theorem Log_yes (n : Nat) (hn : n ≤ 20) : Ret 87 #[.int .i64 ((2 ^ n : Nat) : Int)] (.tuple #[.int .i64 (n : Int), .bool true]) := by
  intro w
  obtain ⟨t, ht⟩ : ∃ t, t = 2 ^ n := ⟨_, rfl⟩
  rw [← ht]
  have HT := Lib.hid ht
  clear ht
  go_enter Tryz.func87, Tryz.ntmps87
  go_wp2_with fail
  go_loopw [4] (fun s4 wr => ∃ i : Nat, i ≤ n ∧ s4 = .int .i64 (i : Int) ∧ w = wr) (fun s4 _ => n - (intOf s4).toNat)
  case atStart => exact ⟨0, Nat.zero_le _, rfl, rfl⟩
  case round =>
    obtain ⟨i, hi, rfl, rfl⟩ := hrel
    have hp := pow_le20 (show i ≤ 20 by omega)
    obtain ⟨q, hq⟩ : ∃ q : Nat, q = 2 ^ i := ⟨_, rfl⟩
    have hw : ((2 : Int) ^ i) = (q : Int) := by rw [hq]; simp
    rw [← hq] at hp
    have h20 : (i : Int) ≤ 20 := by omega
    by_cases hlt : i < n
    · have hne2 : ((t : Int) == (q : Int)) = false := by
        rw [beq_eq_false_iff_ne, HT.out, hq]
        intro e
        have := (Nat.pow_right_inj (a := 2) (by omega)).1 (show 2 ^ n = 2 ^ i by omega)
        omega
      clear hq
      go_wp2_with fail
      go_roundw
      case rel => exact ⟨i + 1, hlt, by go_num, trivial⟩
      case measure => simp [intOf]; omega
    · obtain rfl : i = n := by omega
      have heq : ((t : Int) == (q : Int)) = true := by rw [beq_iff_eq, HT.out, hq]
      clear hq
      go_wp2_with fail
      go_ret2
      exact ⟨rfl, Below.refl _ _⟩
theorem Log_no (t : Int) (h : ∀ n : Nat, n ≤ 20 → t ≠ ((2 ^ n : Nat) : Int)) : Ret 87 #[.int .i64 t] (.tuple #[.int .i64 0, .bool false]) := by
  intro w
  have H := Lib.hid h
  clear h
  go_enter Tryz.func87, Tryz.ntmps87
  go_wp2_with fail
  go_loopw [4] (fun s4 wr => ∃ i : Nat, i ≤ 21 ∧ s4 = .int .i64 (i : Int) ∧ w = wr) (fun s4 _ => 21 - (intOf s4).toNat)
  case atStart => exact ⟨0, Nat.zero_le _, rfl, rfl⟩
  case round =>
    obtain ⟨i, hi, rfl, rfl⟩ := hrel
    by_cases hlt : i < 21
    · have hp := pow_le20 (show i ≤ 20 by omega)
      obtain ⟨q, hq⟩ : ∃ q : Nat, q = 2 ^ i := ⟨_, rfl⟩
      have hw : ((2 : Int) ^ i) = (q : Int) := by rw [hq]; simp
      rw [← hq] at hp
      have h20 : (i : Int) ≤ 20 := by omega
      have hne2 : (t == (q : Int)) = false := by
        rw [beq_eq_false_iff_ne, hq]
        exact H.out i (by omega)
      clear hq
      go_wp2_with fail
      go_roundw
      case rel => exact ⟨i + 1, hlt, by go_num, trivial⟩
      case measure => simp [intOf]; omega
    · obtain rfl : i = 21 := by omega
      go_wp2_with fail
      go_ret2
      exact ⟨rfl, Below.refl _ _⟩

/-- Whether a string is a right number that is less than the modulus. -/
def redN (s : ByteArray) : Bool := rightB s && decide (sval s < modN)
theorem cmp_neg (a b : Nat) : decide (cmpI a b < 0) = decide (a < b) := by
  unfold cmpI
  split
  · rename_i h; simp [h]
  · rename_i h; split <;> simp <;> omega
theorem right_self {s : ByteArray} (h : rightB s = true) : natS (sval s) = s := by
  rw [natS_sval]
  refine bytes_eq ?_
  show (strip0 s.data.toList).toArray.toList = _
  unfold rightB at h
  cases e : s.data.toList with
  | nil => rfl
  | cons x l =>
    rw [e] at h
    simp at h
    simp [strip0, h]
theorem redN_self {s : ByteArray} (h : redN s = true) : natS (sval s) = s ∧ sval s < modN := by
  unfold redN at h
  simp only [Bool.and_eq_true, decide_eq_true_eq] at h
  exact ⟨right_self h.1, h.2⟩
theorem redN_size {s : ByteArray} (h : redN s = true) : s.size ≤ 16 := by
  obtain ⟨h1, h2⟩ := redN_self h
  rw [← h1]
  exact natS_lt_mod h2
theorem redN_natS {n : Nat} (h : n < modN) : redN (natS n) = true := by
  unfold redN
  rw [right_natS, sval_natS]
  simp [h]
set_option maxHeartbeats 400000 in
theorem reduced_q (x : ByteArray) (hx : x.size ≤ 1000) : Ret 83 #[.string x] (.bool (redN x)) := by
  intro w
  have hc := cmp_neg (sval x) modN
  have m1 := Lib.hid (ret_right hx (b := rightB x) rfl)
  have m2 := Lib.hid (ret_cmp (a := x) (b := modS) hx (by decide) (r := cmpI (sval x) modN) (by rw [sval_modS]))
  unfold redN
  rw [← hc]
  clear hc
  generalize cmpI (sval x) modN = c at m2 ⊢
  cases hb : rightB x
  · rw [hb] at m1
    clear hb
    go_enter Tryz.func83, Tryz.ntmps83
    go_wp2_with fail
    refine (m1.out _).mono ?_
    rintro e w1 ⟨rfl, hB⟩
    go_wp2_with fail
    go_ret
    exact ⟨rfl, hB⟩
  · rw [hb] at m1
    clear hb
    go_enter Tryz.func83, Tryz.ntmps83
    go_wp2_with fail
    refine (m1.out _).mono ?_
    rintro e w1 ⟨rfl, hB⟩
    go_wp2_with fail
    refine (m2.out _).mono ?_
    rintro e w2 ⟨rfl, hb⟩
    go_wp2_with fail
    go_ret
    exact ⟨by simp, below_then hB hb⟩
set_option maxHeartbeats 400000 in
theorem rReduced_q (x : ByteArray) (hx : x.size ≤ 1000) : Ret 91 #[.string x] (.bool (redN x)) := by
  intro w
  have hc := cmp_neg (sval x) modN
  have m1 : Hid (Ret 144 #[.string x] (.bool (rightB x))) := Lib.hid (Ret.quiet fun W => rRight x W (by omega))
  have m2 : Hid (Ret 101 #[.string x, .string modS] (.int .i64 (cmpI (sval x) modN))) := Lib.hid (Ret.quiet fun W => by
    have := rCmp x modS W (by omega) (by decide)
    rw [sval_modS] at this
    exact this)
  unfold redN
  rw [← hc]
  clear hc
  generalize cmpI (sval x) modN = c at m2 ⊢
  cases hb : rightB x
  · rw [hb] at m1
    clear hb
    go_enter Tryz.func91, Tryz.ntmps91
    go_wp2_with fail
    refine (m1.out _).mono ?_
    rintro e w1 ⟨rfl, hB⟩
    go_wp2_with fail
    go_ret
    exact ⟨rfl, hB⟩
  · rw [hb] at m1
    clear hb
    go_enter Tryz.func91, Tryz.ntmps91
    go_wp2_with fail
    refine (m1.out _).mono ?_
    rintro e w1 ⟨rfl, hB⟩
    go_wp2_with fail
    refine (m2.out _).mono ?_
    rintro e w2 ⟨rfl, hb⟩
    go_wp2_with fail
    go_ret
    exact ⟨by simp, below_then hB hb⟩

end Go.Proofs.YtebgmlbbilcbbaaGreatDoor
