/- Joined by a program: LiE, LiF, LiG. -/
import Derived.Test.YtkpinmejfdnhbaaGreatDoorLwA
set_option maxRecDepth 100000
set_option maxHeartbeats 2000000
namespace Go.Proofs.YtkpinmejfdnhbaaGreatDoor
open Go.RowKit
attribute [local go_sem] Oper.semAt_some
def b8S (n : Nat) : ByteArray := ⟨(lenS n).toArray⟩
theorem b8S_list (n : Nat) : (b8S n).data.toList = lenS n := by simp [b8S]
theorem b8S_size (n : Nat) : (b8S n).size = 8 := by show (lenS n).toArray.size = 8; rw [List.size_toArray, lenS_len]
theorem lenS_get (n : Nat) {i : Nat} (hi : i < 8) : (lenS n)[i]? = some (UInt8.ofNat (n / 2 ^ (56 - 8 * i) % 256)) := by
 unfold lenS; rw [List.getElem?_map, List.getElem?_range hi]; rfl
theorem bytes_q (n : Nat) (_hn : n ≤ 9223372036854775807) : Ret 225 #[.int .i64 (n : Int)] (.string (b8S n)) := by
 intro w;show Calls _ _ _ _ fun e w' => e = .returned (.string ⟨(lenS n).toArray⟩) ∧ _;go_enter Tryz.func225, Tryz.ntmps225;go_upto_region 2 with fail;refine nameOne (u8a (upto 8 (lenS n) 0)) (by rw [upto_zero]; rfl) ?_;intro W0 hk hB;go_wp2_with fail
 go_loopw [4, 5] (fun _ s5 wr => ∃ i : Nat, i ≤ 8 ∧ s5 = .int .i64 (i : Int) ∧ Blk wr w.heap.size 263 (u8a (upto 8 (lenS n) i)) ∧ Below w.heap.size w wr) (fun _ s5 _ => 8 - (intOf s5).toNat)
 case atStart => exact ⟨0, by omega, rfl, hk, hB⟩
 case round =>
  obtain ⟨i, hi, rfl, hk, hB⟩ := hrel
  by_cases hlt : i < 8
  ·have c0 := hk.u8A (upto_cur (lenS_len n) hlt);have hfz := hk.frozen i;obtain ⟨s, hs⟩ := exq (56 - 8 * i);have e0 : (56 : Int) - 8 * (i : Int) = (s : Int) := by omega
   have e1 : (0 : Int) ≤ (s : Int) := by omega
   have e2 : (0 : Int) ≤ (i : Int) := by omega
   have e3 : (i : Int) < 8 := by omega
   have HS := Lib.hid hs;clear hs;go_wp2_with fail;go_roundw
   case rel =>
    have e : (n : Int) / 2 ^ s % 256 = ((UInt8.ofNat (n / 2 ^ s % 256)).toNat : Int) := by
     rw [byte_toNat (Nat.mod_lt _ (by omega))]
     simp
    rw [e];refine ⟨i + 1, by omega, by go_num, ?_, below_set hB (p := ⟨w.heap.size, i, none⟩) (Nat.le_refl _) _⟩;rw [← upto_set (lenS_len n) hlt (lenS_at n hlt), ← HS.out];exact hk.put8A _ _
   case measure => simp [intOf]; omega
  ·obtain rfl : i = 8 := by omega
   rw [upto_end (lenS_len n)] at hk;have hcv := run_bdg_str (hk.bdg (n := 8) (c := 8) (lenS_len n) (by omega));go_wp2_with fail;go_ret;exact ⟨rfl, hB⟩
theorem u8_info1 : (Tryz.prog.info? 5).map (fun i => (i.zero, i.size, i.bytes)) = some (some (.int .u8 0), 1, 1) := by kernel_rfl
theorem take_lenS {n i : Nat} (hi : i < 8) : (lenS n).take (i + 1) = (lenS n).take i ++ [UInt8.ofNat (n / 2 ^ (56 - 8 * i) % 256)] := by
 rw [List.take_add_one, lenS_get n hi]; rfl
theorem Bytes_q (n : Nat) (_hn : n ≤ 9223372036854775807) : Ret 178 #[.int .i64 (n : Int)] (.string (b8S n)) := by
 intro w;show Calls _ _ _ _ fun e w' => e = .returned (.string ⟨(lenS n).toArray⟩) ∧ _;go_enter Tryz.func178, Tryz.ntmps178;go_wp2_with fail
 go_loopw [3, 4] (fun s3 s4 wr => ∃ i : Nat, i ≤ 8 ∧ s4 = .int .i64 (7 - (i : Int)) ∧ Own8 w.heap.size wr s3 ((lenS n).take i) ∧ Below w.heap.size w wr) (fun _ s4 _ => (intOf s4 + 1).toNat)
 case atStart => exact ⟨0, by omega, rfl, OwnL.nil_ _ _ _ _ _, Below.refl _ _⟩
 case round =>
  obtain ⟨i, hi, rfl, ho, hB⟩ := hrel
  by_cases hlt : i < 8
  ·obtain ⟨k, hk⟩ : ∃ k : Nat, (7 : Int) - (i : Int) = (k : Int) := ⟨7 - i, by omega⟩;rw [hk];have h0 : (0 : Int) ≤ (k : Int) := by omega
   obtain ⟨s, hs, hs1⟩ : ∃ s : Nat, (8 : Int) * (k : Int) = (s : Int) ∧ s = 56 - 8 * i := ⟨56 - 8 * i, by omega, rfl⟩;have e : (n : Int) / 2 ^ s % 256 = ((UInt8.ofNat (n / 2 ^ s % 256)).toNat : Int) := by
    rw [byte_toNat (Nat.mod_lt _ (by omega))]
    simp
   have HT := Lib.hid (take_lenS (n := n) hlt);rw [← hs1] at HT;have hll : ((lenS n).take i).length = i := by rw [List.length_take, lenS_len]; omega
   generalize UInt8.ofNat (n / 2 ^ s % 256) = b at *;clear hs1;go_wp2_with (refine wp_append_row (enc := enc8) Tryz.underlying116 u8_info1 rfl (by decide) (by decide) rfl _ _ rfl b rfl rfl (enc8_one _) rfl ho rfl (by omega) hB.size ?_; intro v w2 ho2 hg2);go_roundw
   case rel => exact ⟨i + 1, by omega, congrArg (Value.int .i64) (by omega), by rw [HT.out]; exact ho2, hB.grown hg2 hB.size (own_high ho)⟩
   case measure => simp [intOf] <;> omega
  ·obtain rfl : i = 8 := by omega
   rw [List.take_of_length_le (by rw [lenS_len]; omega)] at ho;obtain ⟨A, c, rfl, hb⟩ := Own8.bdg ho;have hcv := run_bdg_str hb;rw [lenS_len] at hcv ⊢;go_wp2_with fail;go_ret;exact ⟨rfl, hB⟩
def challB (r key : Nat) (text : ByteArray) : ByteArray := ((⟨#[99]⟩ ++ b8S r) ++ b8S key) ++ text
theorem challB_list (r key : Nat) (text : ByteArray) : (challB r key text).data.toList = 99 :: (lenS r ++ (lenS key ++ text.data.toList)) := by
 unfold challB;simp only [ByteArray.data_append, Array.toList_append, b8S_list]
 simp
theorem challB_size (r key : Nat) (text : ByteArray) : (challB r key text).size = 17 + text.size := by
 unfold challB;simp only [ByteArray.size_append, b8S_size];show 1 + 8 + 8 + text.size = _
 omega
theorem join_nosep : ∀ l : List (List UInt8), Lib.join l [] = l.flatten
 | [] => rfl
 | [a] => by simp [Lib.join, List.intercalate, List.intersperse]
 | a :: b :: l => by
   have ih := join_nosep (b :: l);unfold Lib.join at ih ⊢;simp only [List.intercalate, List.intersperse, List.flatten_cons, List.nil_append] at ih ⊢;rw [ih]
theorem rChallenge_q (r key : Nat) (text : ByteArray) (hr : r ≤ 9223372036854775807) (hk : key ≤ 9223372036854775807) (ht : text.size ≤ 800000) : Ret 120 #[.int .i64 (r : Int), .int .i64 (key : Int), .string text] (.int .i64 ((challN r key text.data.toList : Nat) : Int)) := by
 intro w;have m1 := Lib.hid (Bytes_q r hr);have m2 := Lib.hid (Bytes_q key hk);have hs := challB_size r key text;have m3 := Lib.hid (rScalar_q (challB r key text) (by omega));have hv : scalN (challB r key text).data.toList = challN r key text.data.toList := by rw [challB_list]; rfl
 rw [hv] at m3;unfold challB at m3 hs;have s1 := b8S_size r;have s2 := b8S_size key;generalize challN r key text.data.toList = c at *;generalize b8S r = a at *;generalize b8S key = b at *;have z1 : ((⟨#[99]⟩ : ByteArray) ++ a).size = 9 := by rw [ByteArray.size_append, s1]; rfl
 have z2 : (((⟨#[99]⟩ : ByteArray) ++ a) ++ b).size = 17 := by rw [ByteArray.size_append, z1, s2]
 have n1 : ¬ (9223372036854775807 : Int) < (((⟨#[99]⟩ : ByteArray) ++ a).size : Int) := by omega
 have n2 : ¬ (9223372036854775807 : Int) < ((((⟨#[99]⟩ : ByteArray) ++ a) ++ b).size : Int) := by omega
 have n3 : ¬ (9223372036854775807 : Int) < (((((⟨#[99]⟩ : ByteArray) ++ a) ++ b) ++ text).size : Int) := by omega
 clear hv;go_enter Tryz.func120, Tryz.ntmps120
 go_wp2_with (first
  | (go_at_call 178; (with_reducible refine (m1.out _).mono ?_); rintro e w1 ⟨rfl, hB⟩; clear m1)
  | (go_at_call 178; (with_reducible refine (m2.out _).mono ?_); rintro e w2 ⟨rfl, hb⟩; replace hB := below_then hB hb; clear hb)
  | (go_at_call 121; (with_reducible refine (m3.out _).mono ?_); rintro e w3 ⟨rfl, hb⟩; replace hB := below_then hB hb; clear hb))
 go_ret;exact ⟨rfl, hB⟩
theorem scalar4_q (g : Nat) (a b c d : ByteArray) (hs : a.size + b.size + c.size + d.size ≤ 900000) (w : World) (hT : Tabs w) (hk : Blk w g 9 #[.string a, .string b, .string c, .string d]) :
 Calls Tryz.prog 224 #[.slice (some ⟨g, 0, none⟩) 4 4] w fun e w' => e = .returned (.int .i64 ((scalN (a.data.toList ++ (b.data.toList ++ (c.data.toList ++ d.data.toList))) : Nat) : Int)) ∧ Below w.heap.size w w' := by
 obtain ⟨j, hj⟩ := exq ((⟨(Lib.join ([a, b, c, d].map (·.data.toList)) []).toArray⟩ : ByteArray));have hjl : (Lib.join ([a, b, c, d].map (·.data.toList)) []).length = a.size + b.size + c.size + d.size := by
  rw [join_nosep]
  simp
  omega
 have m1 : Hid (Calls Tryz.prog 141 #[.slice (some ⟨g, 0, none⟩) 4 4, .string ⟨#[]⟩] w fun e w' => e = .returned (.string j) ∧ Below w.heap.size w w') := Lib.hid (by
  rw [hj];refine Tryz.strings_Join g 0 4 [a, b, c, d] ⟨#[]⟩ w (fun i z hz => ?_) hk.lt (by show 4 ≤ _; omega) (by show 4 ≤ 4; omega) (by show (Lib.join _ []).length ≤ _; rw [hjl]; omega);rw [Nat.zero_add]
  match i, hz with
  | 0, hz => obtain rfl := Option.some.inj hz; exact hk.cell 0
  | 1, hz => obtain rfl := Option.some.inj hz; exact hk.cell 1
  | 2, hz => obtain rfl := Option.some.inj hz; exact hk.cell 2
  | 3, hz => obtain rfl := Option.some.inj hz; exact hk.cell 3
  | i + 4, hz => simp at hz)
 have hjs : j.size = a.size + b.size + c.size + d.size := by rw [hj]; show (List.toArray _).size = _; rw [List.size_toArray, hjl]
 have hjd : j.data.toList = a.data.toList ++ (b.data.toList ++ (c.data.toList ++ d.data.toList)) := by rw [hj, join_nosep]; simp
 have m2 := Lib.hid (Scalar_q j (by omega));rw [hjd] at m2;generalize scalN (a.data.toList ++ (b.data.toList ++ (c.data.toList ++ d.data.toList))) = r at *;have HT := Lib.hid hT;clear hj hjl hjd hT;go_enter Tryz.func224, Tryz.ntmps224
 go_wp2_with (first
  | (go_at_call 141; (with_reducible refine (m1.out).mono ?_); rintro e w1 ⟨rfl, hB⟩)
  | (go_at_call 254; (with_reducible refine (m2.out _ (HT.out.below hB)).mono ?_); rintro e w3 ⟨rfl, hb⟩; replace hB := below_then hB hb; clear hb))
 go_ret;exact ⟨rfl, hB⟩
theorem challenge_s (r key : Nat) (text : ByteArray) (hr : r ≤ 9223372036854775807) (hk : key ≤ 9223372036854775807) (ht : text.size ≤ 800000) : RetT 185 #[.int .i64 (r : Int), .int .i64 (key : Int), .string text] (.int .i64 ((challN r key text.data.toList : Nat) : Int)) := by
 intro w hT;have m1 := Lib.hid (bytes_q r hr);have m2 := Lib.hid (bytes_q key hk);have s1 := b8S_size r;have s2 := b8S_size key;have m3 := Lib.hid (fun W g h hk => scalar4_q g (⟨#[99]⟩ : ByteArray) (b8S r) (b8S key) text (by rw [s1, s2]; show 1 + 8 + 8 + text.size ≤ _; omega) W h hk);have hv : scalN ((⟨#[99]⟩ : ByteArray).data.toList ++ ((b8S r).data.toList ++ ((b8S key).data.toList ++ text.data.toList))) = challN r key text.data.toList := by rw [b8S_list, b8S_list]; rfl
 rw [hv] at m3;generalize challN r key text.data.toList = c at *;generalize b8S r = a at *;generalize b8S key = b at *;have HT := Lib.hid hT;clear hv hT;go_enter Tryz.func185, Tryz.ntmps185
 go_wp2_with (first
  | (go_at_call 225; (with_reducible refine (m1.out _).mono ?_); rintro e w1 ⟨rfl, hB⟩; clear m1)
  | (go_at_call 225; (with_reducible refine (m2.out _).mono ?_); rintro e w2 ⟨rfl, hb⟩; replace hB := below_then hB hb; clear hb)
  | (go_at_call 224; (with_reducible refine (m3.out _ _ (HT.out.below (below_al hB _)) (Blk.new _ _ _)).mono ?_); rintro e w3 ⟨rfl, hb⟩; replace hB := below_then (below_al hB _) hb; clear hb))
 go_ret;exact ⟨rfl, hB⟩
theorem scal_small (l : List UInt8) : scalN l ≤ 1152921504606845788 := by have := scal_lt l; have h : qG = 1152921504606845789 := rfl; omega
theorem qG_lit : qG = 1152921504606845789 := rfl
theorem pG_lit : pG = 2305843009213691579 := rfl
theorem gP_small (n : Nat) (h : n ≤ 9223372036854775807) : gP n ≤ 2305843009213691578 := by have := gP_lt n (by omega); have e := pG_lit; omega
theorem rExponent_q (n : Nat) (hn : n ≤ 9223372036854775807) : RetS 122 #[.int .i64 (n : Int)] (.int .i64 ((n % qG : Nat) : Int)) := by
 intro w;obtain ⟨r, hr, hr1⟩ : ∃ r : Nat, (n : Int).tmod 1152921504606845789 = (r : Int) ∧ r = n % qG := ⟨n % qG, by rw [Int.tmod_eq_emod_of_nonneg (by omega), Int.natCast_emod]; rfl, rfl⟩;rw [← hr1];have hn0 : ¬ (r : Int) < 0 := by omega
 clear hr1;go_enter Tryz.func122, Tryz.ntmps122;go_wp2_with fail;go_ret;exact ⟨rfl, rfl⟩
theorem rpositive_q (s : ByteArray) (hs : s.size ≤ 900000) : Ret 62 #[.string s] (.int .i64 ((posN (scalN s.data.toList) : Nat) : Int)) := by
 intro w;have m1 := Lib.hid (rScalar_q s hs);generalize scalN s.data.toList = n at *;have hm : max (n : Int) 1 = ((posN n : Nat) : Int) := by unfold posN; split <;> omega
 generalize posN n = r at *;go_enter Tryz.func62, Tryz.ntmps62
 go_wp2_with (first
  | (go_at_call 121; (with_reducible refine (m1.out _).mono ?_); rintro e w1 ⟨rfl, hB⟩))
 go_ret;exact ⟨rfl, hB⟩
theorem rPublic_q (n : Nat) (hn : n ≤ 9223372036854775807) : RetS 63 #[.int .i64 (n : Int)] (.int .i64 ((gP (n % qG) : Nat) : Int)) := by
 intro w;have m1 := Lib.hid (rExponent_q n hn);have m2 := Lib.hid (rG_q (n % qG) (by have := Nat.mod_le n qG; omega));generalize n % qG = x at *;generalize gP x = r at *;go_enter Tryz.func63, Tryz.ntmps63
 go_wp2_with (first
  | (go_at_call 122; (with_reducible refine (m1.out _).mono ?_); rintro e w1 ⟨rfl, hww⟩; obtain rfl := hww.symm)
  | (go_at_call 75; (with_reducible refine (m2.out _).mono ?_); rintro e w1 ⟨rfl, hww⟩; obtain rfl := hww.symm))
 go_ret;exact ⟨rfl, rfl⟩
theorem rPublic8_q (n : Nat) (hn : n ≤ 9223372036854775807) : RetS 35 #[.int .i64 (n : Int)] (.int .i64 ((gP n : Nat) : Int)) := by
 intro w;have m2 := Lib.hid (rG_q n hn);generalize gP n = r at *;go_enter Tryz.func35, Tryz.ntmps35
 go_wp2_with (first
  | (go_at_call 75; (with_reducible refine (m2.out _).mono ?_); rintro e w1 ⟨rfl, hww⟩; obtain rfl := hww.symm))
 go_ret;exact ⟨rfl, rfl⟩
theorem rKey_q (s : ByteArray) (hs : s.size ≤ 800000) : Ret 26 #[.string s] (.tuple #[.int .i64 ((keyN s.data.toList : Nat) : Int), .int .i64 ((gP (keyN s.data.toList) : Nat) : Int)]) := by
 intro w;obtain ⟨t, ht⟩ : ∃ t : ByteArray, (⟨#[107]⟩ : ByteArray) ++ s = t := ⟨_, rfl⟩;have htl : t.data.toList = 107 :: s.data.toList := by rw [← ht, ByteArray.data_append, Array.toList_append]; rfl
 have hts : t.size = 1 + s.size := by rw [← ht, ByteArray.size_append]; rfl
 have m1 := Lib.hid (rpositive_q t (by omega));rw [htl] at m1;have hk : posN (scalN (107 :: s.data.toList)) = keyN s.data.toList := rfl;rw [hk] at m1;have hl := (pos_lt (scal_lt (107 :: s.data.toList))).2;rw [hk] at hl;have m2 := Lib.hid (rPublic_q (keyN s.data.toList) (by have := qG_lit; omega));rw [Nat.mod_eq_of_lt hl] at m2;generalize gP (keyN s.data.toList) = y at *;generalize keyN s.data.toList = x at *;clear htl hk hl;go_enter Tryz.func26, Tryz.ntmps26
 go_wp2_with (first
  | (go_at_call 62; (try rw [ht]); (with_reducible refine (m1.out _).mono ?_); rintro e w1 ⟨rfl, hB⟩)
  | (go_at_call 63; (with_reducible refine (m2.out _).mono ?_); rintro e w2 ⟨rfl, hww⟩; obtain rfl := hww.symm))
 go_ret2;exact ⟨rfl, hB⟩
def sigA (r s : Int) : Array Value := #[.int .i64 r, .int .i64 s]
theorem sig_size : (Tryz.prog.info? 73).map (·.size) = some 2 := by kernel_rfl
theorem rSignWith_q (x : Nat) (text : ByteArray) (n : Nat) (hx : x ≤ 9223372036854775807) (hn : n ≤ 9223372036854775807) (ht : text.size ≤ 800000) :
 Ret 179 #[.int .i64 (x : Int), .string text, .int .i64 (n : Int)] (.agg (sigA (gP n) (((n + (x % qG) * challN (gP n) (gP (x % qG)) text.data.toList % qG) % qG : Nat) : Int))) := by
 intro w;have hxq := Nat.mod_lt x qG_pos;have hql := qG_lit;have m1 := Lib.hid (rExponent_q x hx);have m2 := Lib.hid (rG_q n hn);have m3 := Lib.hid (rPublic_q x hx);have g1 := gP_small n hn;have g2 := gP_small (x % qG) (by omega);have m4 := Lib.hid (rChallenge_q (gP n) (gP (x % qG)) text (by omega) (by omega) ht);have m5 := Lib.hid (rMulQ_q (x % qG) (challN (gP n) (gP (x % qG)) text.data.toList));have m6 := Lib.hid (rAddQ_q n ((x % qG) * challN (gP n) (gP (x % qG)) text.data.toList % qG));generalize (n + (x % qG) * challN (gP n) (gP (x % qG)) text.data.toList % qG) % qG = s at *;generalize (x % qG) * challN (gP n) (gP (x % qG)) text.data.toList % qG = p at *;generalize challN (gP n) (gP (x % qG)) text.data.toList = c at *;generalize gP (x % qG) = y at *;generalize gP n = r at *;generalize x % qG = x1 at *;clear hql hxq;go_enter Tryz.func179, Tryz.ntmps179;go_upto_region 1 with fail;refine name1p ?_;intro W0 hk hB;obtain ⟨g, hg⟩ := exq w.heap.size;rw [← hg] at hk ⊢;have hgB : w.heap.size ≤ g := by omega
 clear hg
 go_wp2_with (first
  | (go_at_call 122; (with_reducible refine (m1.out _).mono ?_); rintro e w1 ⟨rfl, hww⟩; obtain rfl := hww.symm)
  | (go_at_call 75; (with_reducible refine (m2.out _).mono ?_); rintro e w2 ⟨rfl, hww⟩; obtain rfl := hww.symm)
  | (go_at_call 63; (with_reducible refine (m3.out _).mono ?_); rintro e w3 ⟨rfl, hww⟩; obtain rfl := hww.symm)
  | (go_at_call 120; (with_reducible refine (m4.out _).mono ?_); rintro e w4 ⟨rfl, hb⟩; replace hk := hk.below hb hk.lt; replace hB := below_then hB hb; clear hb)
  | (go_at_call 102; (with_reducible refine (m5.out _).mono ?_); rintro e w5 ⟨rfl, hww⟩; obtain rfl := hww.symm)
  | (go_at_call 95; (with_reducible refine (m6.out _).mono ?_); rintro e w6 ⟨rfl, hww⟩; obtain rfl := hww.symm; have c0 : w4.cell? ⟨g, 0, none⟩ = some (.int .i64 0) := hk.cell 0; have c1 : w4.cell? ⟨g, 1, none⟩ = some (.int .i64 0) := hk.cell 1; have f0 := hk.frozen 0; have f1 := hk.frozen 1))
 have ks : Blk _ g 73 (sigA (r : Int) (s : Int)) := (hk.set_ 0 (.int .i64 (r : Int))).set_ 1 (.int .i64 (s : Int));refine bodyPost_ret (results_cell_row (p := 6) (ty := 73) rfl _ _ g _ (sigA (r : Int) (s : Int)) (0, 0) _ rfl ks Tryz.underlying73 rfl sig_size) rfl ?_;exact ⟨rfl, below_set (below_set hB hgB _) hgB _⟩
def nonceB (x : Nat) (text : ByteArray) : ByteArray := (⟨#[110]⟩ ++ b8S x) ++ text
theorem nonceB_list (x : Nat) (text : ByteArray) : (nonceB x text).data.toList = 110 :: (lenS x ++ text.data.toList) := by
 unfold nonceB;simp only [ByteArray.data_append, Array.toList_append, b8S_list]
 simp
theorem nonceB_size (x : Nat) (text : ByteArray) : (nonceB x text).size = 9 + text.size := by
 unfold nonceB;simp only [ByteArray.size_append, b8S_size];show 1 + 8 + text.size = _
 omega
theorem rSign_s (x : Nat) (text : ByteArray) (hx : x ≤ 9223372036854775807) (ht : text.size ≤ 800000) :
 Ret 116 #[.int .i64 (x : Int), .string text] (.agg (sigA ((signN (x % qG) text.data.toList).1 : Int) ((signN (x % qG) text.data.toList).2 : Int))) := by
 intro w;have hxq := Nat.mod_lt x qG_pos;have hql := qG_lit;have m1 := Lib.hid (rExponent_q x hx);have m2 := Lib.hid (Bytes_q (x % qG) (by omega));have hs := nonceB_size (x % qG) text;have m3 := Lib.hid (rpositive_q (nonceB (x % qG) text) (by omega));rw [nonceB_list] at m3;have hnl := (pos_lt (scal_lt (110 :: (lenS (x % qG) ++ text.data.toList)))).2;have m4 := Lib.hid (rSignWith_q x text (posN (scalN (110 :: (lenS (x % qG) ++ text.data.toList)))) hx (by omega) ht);unfold signN;dsimp only;generalize posN (scalN (110 :: (lenS (x % qG) ++ text.data.toList))) = n at *;generalize (n + x % qG * challN (gP n) (gP (x % qG)) text.data.toList % qG) % qG = S at *;generalize gP n = R at *;unfold nonceB at m3 hs;have s1 := b8S_size (x % qG);generalize b8S (x % qG) = b at *;generalize x % qG = x1 at *;clear hql hxq hnl;have z1 : ((⟨#[110]⟩ : ByteArray) ++ b).size = 9 := by rw [ByteArray.size_append, s1]; rfl
 have n1 : ¬ (9223372036854775807 : Int) < (((⟨#[110]⟩ : ByteArray) ++ b).size : Int) := by omega
 have n2 : ¬ (9223372036854775807 : Int) < ((((⟨#[110]⟩ : ByteArray) ++ b) ++ text).size : Int) := by omega
 go_enter Tryz.func116, Tryz.ntmps116;go_upto_region 1 with fail;refine name1p ?_;intro W0 hk hB;obtain ⟨g, hg⟩ := exq w.heap.size;rw [← hg] at hk ⊢;have hgB : w.heap.size ≤ g := by omega
 clear hg
 go_wp2_with (first
  | (go_at_call 122; (with_reducible refine (m1.out _).mono ?_); rintro e w1 ⟨rfl, hww⟩; obtain rfl := hww.symm)
  | (go_at_call 178; (with_reducible refine (m2.out _).mono ?_); rintro e w2 ⟨rfl, hb⟩; replace hk := hk.below hb hk.lt; replace hB := below_then hB hb; clear hb)
  | (go_at_call 62; (with_reducible refine (m3.out _).mono ?_); rintro e w3 ⟨rfl, hb⟩; replace hk := hk.below hb hk.lt; replace hB := below_then hB hb; clear hb)
  | (go_at_call 179; (with_reducible refine (m4.out _).mono ?_); rintro e w4 ⟨rfl, hb⟩; replace hk := hk.below hb hk.lt; replace hB := below_then hB hb; clear hb; have c0 : w4.cell? ⟨g, 0, none⟩ = some (.int .i64 0) := hk.cell 0; have c1 : w4.cell? ⟨g, 1, none⟩ = some (.int .i64 0) := hk.cell 1; have f0 := hk.frozen 0; have f1 := hk.frozen 1; simp only [sigA]))
 have ks : Blk _ g 73 (sigA (R : Int) (S : Int)) := (hk.set_ 0 (.int .i64 (R : Int))).set_ 1 (.int .i64 (S : Int));refine bodyPost_ret (results_cell_row (p := 4) (ty := 73) rfl _ _ g _ (sigA (R : Int) (S : Int)) (0, 0) _ rfl ks Tryz.underlying73 rfl sig_size) rfl ?_;exact ⟨rfl, below_set (below_set hB hgB _) hgB _⟩
def voteA (who : Int) (text : ByteArray) (r s : Int) : Array Value := #[.int .i64 who, .string text, .int .i64 r, .int .i64 s]
theorem vote_size : (Tryz.prog.info? 113).map (·.size) = some 4 := by kernel_rfl
theorem rVote_q (who : Int) (x : Nat) (text : ByteArray) (hx : x ≤ 9223372036854775807) (ht : text.size ≤ 800000) :
 Ret 54 #[.int .i64 who, .int .i64 (x : Int), .string text] (.agg (voteA who text ((signN (x % qG) text.data.toList).1 : Int) ((signN (x % qG) text.data.toList).2 : Int))) := by
 intro w;have m1 := Lib.hid (rSign_s x text hx ht);generalize ((signN (x % qG) text.data.toList).1 : Int) = R at *;generalize ((signN (x % qG) text.data.toList).2 : Int) = S at *;go_enter Tryz.func54, Tryz.ntmps54;go_upto_region 1 with fail;refine name1p ?_;intro W0 hk hB;obtain ⟨g, hg⟩ := exq w.heap.size;rw [← hg] at hk ⊢;have hgB : w.heap.size ≤ g := by omega
 clear hg
 go_wp2_with (first
  | (go_at_call 116; (with_reducible refine (m1.out _).mono ?_); rintro e w4 ⟨rfl, hb⟩; replace hk := hk.below hb hk.lt; replace hB := below_then hB hb; clear hb; have c0 : w4.cell? ⟨g, 0, none⟩ = some (.int .i64 0) := hk.cell 0; have c1 : w4.cell? ⟨g, 1, none⟩ = some (.string ⟨#[]⟩) := hk.cell 1; have c2 : w4.cell? ⟨g, 2, none⟩ = some (.int .i64 0) := hk.cell 2; have c3 : w4.cell? ⟨g, 3, none⟩ = some (.int .i64 0) := hk.cell 3; have f0 := hk.frozen 0; have f1 := hk.frozen 1; have f2 := hk.frozen 2; have f3 := hk.frozen 3; simp only [sigA]))
 have ks : Blk _ g 113 (voteA who text R S) := (((hk.set_ 0 (.int .i64 who)).set_ 1 (.string text)).set_ 2 (.int .i64 R)).set_ 3 (.int .i64 S);refine bodyPost_ret (results_cell_row (p := 6) (ty := 113) rfl _ _ g _ (voteA who text R S) (0, 0) _ rfl ks Tryz.underlying113 rfl vote_size) rfl ?_;exact ⟨rfl, below_set (below_set (below_set (below_set hB hgB _) hgB _) hgB _) hgB _⟩
theorem power_q (n : Nat) (hn : n ≤ 9223372036854775807) : Ret 186 #[.int .i64 (n : Int)] (.int .i64 ((gP n : Nat) : Int)) := by
 intro w;have m1 := Lib.hid (G_q n hn);generalize gP n = r at *;go_enter Tryz.func186, Tryz.ntmps186
 go_wp2_with (first
  | (go_at_call 188; (with_reducible refine (m1.out _).mono ?_); rintro e w1 ⟨rfl, hB⟩))
 go_ret;exact ⟨rfl, hB⟩
theorem verS_in {k r s : Nat} {text : List UInt8} (h1 : memB (k : Int) = true) (h2 : memB (r : Int) = true) (h3 : (s : Int) < 1152921504606845789) :
 verS (k : Int) text (r : Int) (s : Int) = (((gP s : Nat) : Int) == ((r * pm pG 64 k (challN r k text) % pG : Nat) : Int)) := by
 unfold verS;rw [h1, h2, decide_eq_true (show (0 : Int) ≤ (s : Int) by omega), decide_eq_true h3];simp only [Bool.true_and, Int.toNat_natCast];rw [Bool.eq_iff_iff, beq_iff_eq, beq_iff_eq]
 omega
theorem verS_key {k r s : Int} {text : List UInt8} (h : memB k = false) : verS k text r s = false := by unfold verS; simp [h]
theorem verS_r {k r s : Int} {text : List UInt8} (h : memB r = false) : verS k text r s = false := by unfold verS; simp [h]
theorem verS_neg {k r s : Int} {text : List UInt8} (h : s < 0) : verS k text r s = false := by unfold verS; rw [decide_eq_false (show ¬ 0 ≤ s by omega)]; simp
theorem verS_big {k r s : Int} {text : List UInt8} (h : ¬ s < 1152921504606845789) : verS k text r s = false := by unfold verS; rw [decide_eq_false h]; simp
theorem rVerify_s (key : Int) (text : ByteArray) (r s : Int) (hk : I64 key) (hr : I64 r) (hs : I64 s) (ht : text.size ≤ 800000) :
 Ret 61 #[.int .i64 key, .string text, .agg (sigA r s)] (.bool (verS key text.data.toList r s)) := by
 intro w;have m1 := Lib.hid (rMember_q key hk.1 hk.2);have m2 := Lib.hid (rMember_q r hr.1 hr.2);have enter : ∀ v : Bool, (Blk (w.alloc (.cells #[.int .i64 r, .int .i64 s] 73)) w.heap.size 73 #[.int .i64 r, .int .i64 s]) := fun _ => Blk.new _ _ _;clear enter;obtain ⟨b1, hb1⟩ : ∃ b, memB key = b := ⟨_, rfl⟩;obtain ⟨b2, hb2⟩ : ∃ b, memB r = b := ⟨_, rfl⟩;rw [hb1] at m1;rw [hb2] at m2;obtain ⟨V, hV⟩ : ∃ V, verS key text.data.toList r s = V := ⟨_, rfl⟩;rw [hV];have HV := Lib.hid hV;have H1 := Lib.hid hb1;have H2 := Lib.hid hb2;clear hV hb1 hb2;go_enter Tryz.func61, Tryz.ntmps61;simp only [sigA];go_upto_region 1 with fail;refine name1p ?_;intro W0 k0 hB;obtain ⟨g, hg⟩ := exq w.heap.size;rw [← hg] at k0 ⊢;clear hg;have c0 : W0.cell? ⟨g, 0, none⟩ = some (.int .i64 r) := k0.cell 0;have c1 : W0.cell? ⟨g, 1, none⟩ = some (.int .i64 s) := k0.cell 1
 go_upto_region 3 with (first
  | (go_at_call 119; (with_reducible refine (m1.out _).mono ?_); rintro e w1 ⟨rfl, hww⟩; obtain rfl := hww.symm; clear m1)
  | (go_at_call 119; (with_reducible refine (m2.out _).mono ?_); rintro e w1 ⟨rfl, hww⟩; obtain rfl := hww.symm))
 clear m2
 cases b1 with
 | false =>
   obtain rfl : V = false := by rw [← HV.out]; exact verS_key H1.out
   go_wp2_with fail;go_ret;exact ⟨rfl, hB⟩
 | true =>
   cases b2 with
   | false =>
     obtain rfl : V = false := by rw [← HV.out]; exact verS_r H2.out
     go_wp2_with fail;go_ret;exact ⟨rfl, hB⟩
   | true =>
     by_cases h3 : s < 0
     ·obtain rfl : V = false := by rw [← HV.out]; exact verS_neg h3
      go_wp2_with fail;go_ret;exact ⟨rfl, hB⟩
     ·by_cases h4 : s < 1152921504606845789
      ·obtain ⟨k, rfl, hk1, hk2, -⟩ := memB_low H1.out;obtain ⟨r, rfl, hr1, hr2, -⟩ := memB_low H2.out;obtain ⟨s, rfl⟩ := Int.eq_ofNat_of_zero_le (show 0 ≤ s by omega);have hpl := pG_lit;have hql := qG_lit;have hv := verS_in (text := text.data.toList) H1.out H2.out h4;have hcl := scal_small (99 :: (lenS r ++ (lenS k ++ text.data.toList)));rw [HV.out] at hv;have q1 := Lib.hid (rChallenge_q r k text (by omega) (by omega) ht);have p1 := Lib.hid (rG_q s (by omega));have p2 := Lib.hid (rPowP_q k (challN r k text.data.toList) (by unfold challN; omega));have p3 := Lib.hid (rMulP_q r (pm pG 64 k (challN r k text.data.toList)));generalize r * pm pG 64 k (challN r k text.data.toList) % pG = z at *;generalize pm pG 64 k (challN r k text.data.toList) = y at *;generalize challN r k text.data.toList = c at *;generalize gP s = x at *;have h4' : ((1152921504606845789 : Int) ≤ (s : Int)) = False := by simp only [eq_iff_iff, iff_false]; omega
       have h3' : ((s : Int) < 0) = False := by simp only [eq_iff_iff, iff_false]; omega
       clear hcl hpl hql HV H1 H2 h3 h4
       go_upto_region 6 with (first
        | (go_at_call 120; (with_reducible refine (q1.out _).mono ?_); rintro e w2 ⟨rfl, hb⟩; replace hB := below_then hB hb; replace k0 := k0.below hb k0.lt; clear hb c0 c1; have c0 : w2.cell? ⟨g, 0, none⟩ = some (.int .i64 (r : Int)) := k0.cell 0; have c1 : w2.cell? ⟨g, 1, none⟩ = some (.int .i64 (s : Int)) := k0.cell 1))
       clear q1
       go_quiet (first
        | (go_at_call 75; with_reducible exact Calls.quiet_of_same (p1.out _))
        | (go_at_call 75; with_reducible exact Calls.quiet_of_same (p2.out _))
        | (go_at_call 102; with_reducible exact Calls.quiet_of_same (p3.out _)))
       go_wp2_with fail;go_ret;exact ⟨congrArg (fun b => Ending.returned (.bool b)) hv.symm, below_drewN hB _⟩
      ·obtain rfl : V = false := by rw [← HV.out]; exact verS_big h4
       have h4' : (1152921504606845789 : Int) ≤ s := by omega
       go_wp2_with fail;go_ret;exact ⟨rfl, hB⟩
theorem Verify_s (key : Int) (text : ByteArray) (r s : Int) (hk : I64 key) (hr : I64 r) (hs : I64 s) (ht : text.size ≤ 800000) :
 RetT 127 #[.int .i64 key, .string text, .agg (sigA r s)] (.bool (verS key text.data.toList r s)) := by
 intro w hT;have m1 := Lib.hid (Member_q key hk.1 hk.2);have m2 := Lib.hid (Member_q r hr.1 hr.2);obtain ⟨b1, hb1⟩ : ∃ b, memB key = b := ⟨_, rfl⟩;obtain ⟨b2, hb2⟩ : ∃ b, memB r = b := ⟨_, rfl⟩;rw [hb1] at m1;rw [hb2] at m2;obtain ⟨V, hV⟩ : ∃ V, verS key text.data.toList r s = V := ⟨_, rfl⟩;rw [hV];have HV := Lib.hid hV;have H1 := Lib.hid hb1;have H2 := Lib.hid hb2;have HT := Lib.hid hT;clear hV hb1 hb2 hT;go_enter Tryz.func127, Tryz.ntmps127;simp only [sigA];go_upto_region 1 with fail;refine name1p ?_;intro W0 k0 hB;obtain ⟨g, hg⟩ := exq w.heap.size;rw [← hg] at k0 ⊢;clear hg
 cases b1 with
 | false =>
   obtain rfl : V = false := by rw [← HV.out]; exact verS_key H1.out
   go_wp2_with (first
    | (go_at_call 177; (with_reducible refine (m1.out _).mono ?_); rintro e w1 ⟨rfl, hb⟩; replace hB := below_then hB hb; clear m1))
   go_ret;exact ⟨rfl, hB⟩
 | true =>
   cases b2 with
   | false =>
     obtain rfl : V = false := by rw [← HV.out]; exact verS_r H2.out
     go_wp2_with (first
      | (go_at_call 177; (with_reducible refine (m1.out _).mono ?_); rintro e w1 ⟨rfl, hb⟩; replace hB := below_then hB hb; replace k0 := k0.below hb k0.lt; have c0 : w1.cell? ⟨g, 0, none⟩ = some (.int .i64 r) := k0.cell 0; clear m1)
      | (go_at_call 177; (with_reducible refine (m2.out _).mono ?_); rintro e w2 ⟨rfl, hb⟩; replace hB := below_then hB hb))
     go_ret;exact ⟨rfl, hB⟩
   | true =>
     by_cases h3 : s < 0
     ·obtain rfl : V = false := by rw [← HV.out]; exact verS_neg h3
      go_wp2_with (first
       | (go_at_call 177; (with_reducible refine (m1.out _).mono ?_); rintro e w1 ⟨rfl, hb⟩; replace hB := below_then hB hb; replace k0 := k0.below hb k0.lt; have c0 : w1.cell? ⟨g, 0, none⟩ = some (.int .i64 r) := k0.cell 0; clear m1)
       | (go_at_call 177; (with_reducible refine (m2.out _).mono ?_); rintro e w2 ⟨rfl, hb⟩; replace hB := below_then hB hb; replace k0 := k0.below hb k0.lt; have c1 : w2.cell? ⟨g, 1, none⟩ = some (.int .i64 s) := k0.cell 1))
      go_ret;exact ⟨rfl, hB⟩
     ·by_cases h4 : s < 1152921504606845789
      ·obtain ⟨k, rfl, hk1, hk2, -⟩ := memB_low H1.out;obtain ⟨r, rfl, hr1, hr2, -⟩ := memB_low H2.out;obtain ⟨s, rfl⟩ := Int.eq_ofNat_of_zero_le (show 0 ≤ s by omega);have hpl := pG_lit;have hql := qG_lit;have hv := verS_in (text := text.data.toList) H1.out H2.out h4;have hcl := scal_small (99 :: (lenS r ++ (lenS k ++ text.data.toList)));rw [HV.out] at hv;have q1 := Lib.hid (challenge_s r k text (by omega) (by omega) ht);have p1 := Lib.hid (power_q s (by omega));have p2 := Lib.hid (PowP_q k (challN r k text.data.toList) (by unfold challN; omega));have p3 := Lib.hid (MulP_q r (pm pG 64 k (challN r k text.data.toList)));generalize r * pm pG 64 k (challN r k text.data.toList) % pG = z at *;generalize pm pG 64 k (challN r k text.data.toList) = y at *;generalize challN r k text.data.toList = c at *;generalize gP s = x at *;have h4' : ((1152921504606845788 : Int) < (s : Int)) = False := by simp only [eq_iff_iff, iff_false]; omega
       have h3' : ((s : Int) < 0) = False := by simp only [eq_iff_iff, iff_false]; omega
       clear hcl hpl hql HV H1 H2 h3 h4
       go_upto_region 4 with (first
        | (go_at_call 177; (with_reducible refine (m1.out _).mono ?_); rintro e w1 ⟨rfl, hb⟩; replace hB := below_then hB hb; replace k0 := k0.below hb k0.lt; have c0 : w1.cell? ⟨g, 0, none⟩ = some (.int .i64 (r : Int)) := k0.cell 0; clear m1 hb)
        | (go_at_call 177; (with_reducible refine (m2.out _).mono ?_); rintro e w2 ⟨rfl, hb⟩; replace hB := below_then hB hb; replace k0 := k0.below hb k0.lt; clear c0; have c1 : w2.cell? ⟨g, 1, none⟩ = some (.int .i64 (s : Int)) := k0.cell 1; have c0 : w2.cell? ⟨g, 0, none⟩ = some (.int .i64 (r : Int)) := k0.cell 0; clear m2 hb)
        | (go_at_call 185; (with_reducible refine (q1.out _ (HT.out.below hB)).mono ?_); rintro e w3 ⟨rfl, hb⟩; replace hB := below_then hB hb; replace k0 := k0.below hb k0.lt; clear hb c0 c1; have c0 : w3.cell? ⟨g, 0, none⟩ = some (.int .i64 (r : Int)) := k0.cell 0; have c1 : w3.cell? ⟨g, 1, none⟩ = some (.int .i64 (s : Int)) := k0.cell 1))
       clear q1 HT;have hBd := hB.drew;have k0d : Blk w3.drew g 73 #[.int .i64 (r : Int), .int .i64 (s : Int)] := k0;have g0 : w3.drew.cell? ⟨g, 0, none⟩ = some (.int .i64 (r : Int)) := k0d.cell 0;have g1 : w3.drew.cell? ⟨g, 1, none⟩ = some (.int .i64 (s : Int)) := k0d.cell 1;have hv2 : ((x : Int) == (z : Int)) = V := hv.symm;clear hv hB k0 k0d c0 c1;refine region_here (fun Z => Z.cell? ⟨g, 0, none⟩ = some (.int .i64 (r : Int)) ∧ Z.cell? ⟨g, 1, none⟩ = some (.int .i64 (s : Int))) 8 (by kernel_rfl) ⟨g0, g1⟩ (fun hHeld => ?_);refine tkT 0 rfl ?_;refine tkT 1 rfl ?_;refine tkT 3 rfl ?_;refine tkT 4 rfl ?_;refine tkT 5 rfl ?_;refine tkT 6 rfl ?_;refine tkO 2 rfl fun K hK => ?_;go_simp;go_at_call 186;refine (p1.out _).mono ?_;rintro e wa ⟨rfl, hba⟩
       (try go_wp2_with fail)
       refine hK.out _ _ ?_ (fun hHeld2 => ?_)
       ·exact ⟨cell_b hba hHeld.1, cell_b hba hHeld.2⟩
       clear hK K
       try simp only [Act.put, pq1, pq2, pq3]
       refine tkO 7 rfl fun K hK => ?_;go_simp;go_at_call 188;refine (p2.out _).mono ?_;rintro e wb ⟨rfl, hbb⟩
       (try go_wp2_with fail)
       refine hK.out _ _ ?_ (fun hHeld7 => ?_)
       ·exact ⟨cell_b hbb hHeld2.1, cell_b hbb hHeld2.2⟩
       clear hK K
       try simp only [Act.put, pq1, pq2, pq3]
       refine tkK 8 rfl fun K hK => ?_;go_simp;go_at_call 187;refine (p3.out _).mono ?_;rintro e wc ⟨rfl, hww⟩
       (try go_wp2_with fail)
       obtain rfl := hww.symm;refine hK.out _ _ ?_;clear hK K
       try simp only [Act.put, pq1, pq2, pq3]
       refine tkB 9 rfl ?_;refine tkB 10 rfl ?_;refine tkD ?_;go_wp2_with fail;go_ret;exact ⟨rfl, by first | exact below_then (below_then hBd hba) hbb | exact below_then (below_then hBd hbb) hba⟩
      ·obtain rfl : V = false := by rw [← HV.out]; exact verS_big h4
       have h4' : (1152921504606845788 : Int) < s := by omega
       go_wp2_with (first
        | (go_at_call 177; (with_reducible refine (m1.out _).mono ?_); rintro e w1 ⟨rfl, hb⟩; replace hB := below_then hB hb; replace k0 := k0.below hb k0.lt; have c0 : w1.cell? ⟨g, 0, none⟩ = some (.int .i64 r) := k0.cell 0; clear m1)
        | (go_at_call 177; (with_reducible refine (m2.out _).mono ?_); rintro e w2 ⟨rfl, hb⟩; replace hB := below_then hB hb; replace k0 := k0.below hb k0.lt; have c1 : w2.cell? ⟨g, 1, none⟩ = some (.int .i64 s) := k0.cell 1))
       go_ret;exact ⟨rfl, hB⟩
end Go.Proofs.YtkpinmejfdnhbaaGreatDoor
