/- Joined by a program: LiM, LiN, LiO. -/
import Derived.Test.YtkpinmejfdnhbaaGreatDoorLwC
set_option maxRecDepth 100000
set_option maxHeartbeats 4000000
namespace Go.Proofs.YtkpinmejfdnhbaaGreatDoor
open Go.RowKit
attribute [local go_sem] Oper.semAt_some
theorem intsN_get {l : List Nat} {k : Nat} {x : Nat} (h : l[k]? = some x) : (intsN l)[k]? = some (x : Int) := by simp [intsN, h]
abbrev RowN (w : World) (A : Option Addr) (n c : Nat) (xs : List Nat) : Prop := RowI w A n c (intsN xs)
theorem rowN_len {w : World} {A : Option Addr} {n c : Nat} {xs : List Nat} (h : RowN w A n c xs) : xs.length = n := by have := h.len; rwa [intsN_len] at this
theorem rowN_at {w : World} {A : Option Addr} {n c : Nat} {xs : List Nat} (h : RowN w A n c xs) {k : Nat} (hk : k < n) : ∃ b o x, A = some ⟨b, o, none⟩ ∧ xs[k]? = some x ∧ w.cell? ⟨b, o + k, none⟩ = some (.int .i64 ((x : Nat) : Int)) := by
 obtain ⟨b, o, x, e, hx, hc⟩ := RowI.get h hk;have hl : k < xs.length := by rw [rowN_len h]; exact hk
 have h2 := List.getElem?_eq_getElem hl;have h3 := intsN_get h2;rw [h3] at hx;obtain rfl := Option.some.inj hx;exact ⟨b, o, xs[k], e, h2, hc⟩
theorem drop_cons' {α : Type} {l : List α} {k : Nat} {x : α} (h : l[k]? = some x) : l.drop k = x :: l.drop (k + 1) := by
 obtain ⟨hl, rfl⟩ := List.getElem?_eq_some_iff.1 h;exact List.drop_eq_getElem_cons hl
theorem rValue_q (A : Option Addr) (n c : Nat) (cs : List Nat) (x : Nat) (hn : n ≤ 9223372036854775807) (w : World) (hr : RowN w A n c cs) :
 Calls Tryz.prog 162 #[.slice A n c, .int .i64 (x : Int)] w fun e w' => e = .returned (.int .i64 ((valN x cs : Nat) : Int)) ∧ Below w.heap.size w w' := by
 have hl := rowN_len hr;have HR := Lib.hid hr;have q1 := Lib.hid rMulQ_q;have q2 := Lib.hid rAddQ_q;have hB := Below.refl w.heap.size w;have HV : Hid (valN x (cs.drop 0) = valN x cs) := Lib.hid rfl;generalize valN x cs = R at *;clear hr;go_enter Tryz.func162, Tryz.ntmps162;go_wp2_with fail
 go_loopw [5, 6] (fun s5 s6 wr => ∃ j o : Nat, j ≤ n ∧ s6 = .int .i64 ((j : Int) - 1) ∧ s5 = .int .i64 (o : Int) ∧ Hid (o = valN x (cs.drop j)) ∧ Below w.heap.size w wr) (fun _ s6 _ => (intOf s6 + 1).toNat)
 case atStart => exact ⟨n, 0, Nat.le_refl _, rfl, rfl, Lib.hid (by rw [List.drop_of_length_le (by omega)]; rfl), hB⟩
 case round =>
  obtain ⟨j, o, hj, rfl, rfl, HO, hB⟩ := hrel
  by_cases h0 : j = 0
  ·subst h0;obtain rfl : o = R := by rw [HO.out, HV.out]
   have hneg : ¬ (0 : Int) ≤ ((0 : Nat) : Int) - 1 := by omega
   go_wp2_with fail;go_ret;exact ⟨rfl, hB⟩
  ·obtain ⟨k, hk, hk1⟩ : ∃ k : Nat, (j : Int) - 1 = (k : Int) ∧ k + 1 = j := ⟨j - 1, by omega, by omega⟩;rw [hk];have hk0 : (0 : Int) ≤ (k : Int) := by omega
   have hkn : (k : Int) < (n : Int) := by omega
   obtain ⟨b, oo, y, rfl, hy, hc⟩ := rowN_at (HR.out.below hB) (show k < n by omega);have p1 := Lib.hid (q1.out o x);have p2 := Lib.hid (q2.out (o * x % qG) y);have HN : Hid ((o * x % qG + y) % qG = valN x (cs.drop k)) := Lib.hid (by rw [drop_cons' hy, hk1, HO.out]; rfl);clear hy;generalize (o * x % qG + y) % qG = z at *;generalize o * x % qG = u at *;go_upto_region 5 with fail
   go_quiet (first
    | (go_at_call 102; with_reducible exact Calls.quiet_of_same (p1.out _))
    | (go_at_call 95; with_reducible exact Calls.quiet_of_same (p2.out _)))
   have hB2 := below_drewN hB nq;clear hc;generalize wr.drewN nq = wq at hB2 ⊢;go_wp2_with fail;go_roundw
   case rel => exact ⟨k, z, by omega, by go_num, rfl, HN, hB2⟩
   case measure => simp [intOf] <;> omega
theorem rAt_q (A : Option Addr) (n c : Nat) (cs : List Nat) (x : Nat) (hn : n ≤ 9223372036854775807) (w : World) (hr : RowN w A n c cs) :
 Calls Tryz.prog 166 #[.slice A n c, .int .i64 (x : Int)] w fun e w' => e = .returned (.int .i64 ((atN x cs 1 1 : Nat) : Int)) ∧ w' = w := by
 have hl := rowN_len hr;have HR := Lib.hid hr;have q1 := Lib.hid rPowP_q;have q2 := Lib.hid rMulP_q;have q3 := Lib.hid rMulQ_q;have hql := qG_lit;have HV : Hid (atN x (cs.drop 0) 1 1 = atN x cs 1 1) := Lib.hid rfl;generalize atN x cs 1 1 = R at *;clear hr;go_enter Tryz.func166, Tryz.ntmps166;go_wp2_with fail
 go_loop [5, 6, 7] (fun s5 s6 s7 => ∃ k o p : Nat, k ≤ n ∧ s7 = .int .i64 (k : Int) ∧ s5 = .int .i64 (o : Int) ∧ s6 = .int .i64 (p : Int) ∧ p < qG ∧ Hid (atN x (cs.drop k) o p = R)) (fun _ _ s7 => n - (intOf s7).toNat)
 case atStart => exact ⟨0, 1, 1, by omega, rfl, rfl, rfl, qG_gt, HV⟩
 case round =>
  obtain ⟨k, o, p, hk, rfl, rfl, rfl, hp, HO⟩ := hrel
  by_cases hlt : k < n
  ·have hlt' : (k : Int) < (n : Int) := by omega
   obtain ⟨b, oo, y, rfl, hy, hc⟩ := rowN_at HR.out hlt;have p1 := Lib.hid (q1.out y p (by omega));have p2 := Lib.hid (q2.out o (pm pG 64 y p));have p3 := Lib.hid (q3.out p x)
   have HN : Hid (atN x (cs.drop (k + 1)) (o * pm pG 64 y p % pG) (p * x % qG) = R) := Lib.hid (by
    have := HO.out;rw [drop_cons' hy] at this
    exact this)
   have hp2 := Nat.mod_lt (p * x) qG_pos;clear hy HO;generalize o * pm pG 64 y p % pG = o2 at *;generalize pm pG 64 y p = z at *;generalize p * x % qG = pp at *
   go_wp2_with (first
    | (go_at_call 75; (with_reducible refine (p1.out _).mono ?_); rintro e w1 ⟨rfl, hww⟩; obtain rfl := hww.symm)
    | (go_at_call 102; (with_reducible refine (p2.out _).mono ?_); rintro e w1 ⟨rfl, hww⟩; obtain rfl := hww.symm; clear p2)
    | (go_at_call 102; (with_reducible refine (p3.out _).mono ?_); rintro e w1 ⟨rfl, hww⟩; obtain rfl := hww.symm))
   go_round
   case rel => exact ⟨k + 1, _, _, by omega, by go_num, rfl, rfl, hp2, HN⟩
   case measure => simp [intOf]; omega
  ·obtain rfl : k = n := by omega
   obtain rfl : o = R := by have := HO.out; rwa [List.drop_of_length_le (by omega)] at this
   go_wp2_with fail;go_ret;exact ⟨rfl, rfl⟩
theorem rmembers_q (A : Option Addr) (n c : Nat) (xs : List Int) (hn : n ≤ 9223372036854775807) (hI : ∀ x ∈ xs, I64 x) (w : World) (hr : RowI w A n c xs) :
 Calls Tryz.prog 163 #[.slice A n c] w fun e w' => e = .returned (.bool (xs.all memB)) ∧ w' = w := by
 have hl := hr.len;have HR := Lib.hid hr;obtain ⟨R, hR⟩ := exq (xs.all memB);rw [← hR];have HV := Lib.hid hR;clear hr hR;go_enter Tryz.func163, Tryz.ntmps163;go_wp2_with fail
 go_loop [3, 4] (fun s3 _ => ∃ k : Nat, k ≤ n ∧ s3 = .int .i64 (k : Int) ∧ Hid ((xs.take k).all memB = true)) (fun s3 _ => n - (intOf s3).toNat)
 case atStart => exact ⟨0, by omega, rfl, Lib.hid rfl⟩
 case round =>
  obtain ⟨k, hk, rfl, HK⟩ := hrel
  by_cases hlt : k < n
  ·have hlt' : (k : Int) < (n : Int) := by omega
   obtain ⟨b, oo, y, rfl, hy, hc⟩ := RowI.get HR.out hlt;have hyI := hI y (List.mem_of_getElem? hy);have p1 := Lib.hid (rMember_q y hyI.1 hyI.2);have HY := Lib.hid hy;clear hy
   cases hm : memB y
   ·rw [hm] at p1;obtain rfl : R = false := by
     rw [HV.out, List.all_eq_false];exact ⟨y, List.mem_of_getElem? HY.out, by simp [hm]⟩
    go_wp2_with (first
     | (go_at_call 119; (with_reducible refine (p1.out _).mono ?_); rintro e w1 ⟨rfl, hww⟩; obtain rfl := hww.symm))
    go_ret;exact ⟨rfl, rfl⟩
   ·rw [hm] at p1
    go_wp2_with (first
     | (go_at_call 119; (with_reducible refine (p1.out _).mono ?_); rintro e w1 ⟨rfl, hww⟩; obtain rfl := hww.symm))
    go_round
    case rel => exact ⟨k + 1, by omega, by go_num, Lib.hid (by rw [List.take_add_one, HY.out, List.all_append, HK.out]; simp [hm])⟩
    case measure => simp [intOf]; omega
  ·obtain rfl : k = n := by omega
   obtain rfl : R = true := by have := HK.out; rw [List.take_of_length_le (by omega)] at this; rw [HV.out, this]
   go_wp2_with fail;go_ret;exact ⟨rfl, rfl⟩
theorem rdecimal7_q (n : Nat) (hn : n ≤ 9223372036854775807) : Ret 246 #[.int .i64 (n : Int)] (.string (decS n)) := by
 intro w;have hsz := natS_9' hn;have m1 := Lib.hid (ret_rof (n := (n : Int)) (by omega));rw [Int.toNat_natCast] at m1
 have m2 : Hid (∀ W : World, Calls Tryz.prog 104 #[.string (natS n)] W fun e w' => e = .returned (.string (decS n)) ∧ Below W.heap.size W w') := Lib.hid (fun W => by
  have := rText (natS n) W (by omega)
  rwa [sval_natS] at this)
 generalize natS n = a at *;generalize decS n = t at *;have h1 : ((n : Int) == -9223372036854775808) = false := by rw [beq_eq_false_iff_ne]; omega
 have h2 : ((n : Int) < 0) = False := by simp only [eq_iff_iff, iff_false]; omega
 go_enter Tryz.func246, Tryz.ntmps246
 go_wp2_with (first
  | (go_at_call 105; (with_reducible refine (m1.out _).mono ?_); rintro e w1 ⟨rfl, hB⟩)
  | (go_at_call 104; (with_reducible refine (m2.out _).mono ?_); rintro e w2 ⟨rfl, hb⟩; replace hB := below_then hB hb; clear hb))
 go_ret;exact ⟨rfl, hB⟩
def PadPost (w : World) (e : Ending) (w' : World) : Prop := ∃ h : List UInt8, h.length = 32 ∧ e = .returned (.agg (u8a h)) ∧ Below w.heap.size w w'
theorem rPad_q (key index : Nat) (hk : key ≤ 9223372036854775807) (hi : index ≤ 9223372036854775807) (w : World) : Calls Tryz.prog 210 #[.int .i64 (key : Int), .int .i64 (index : Int)] w (PadPost w) := by
 have m1 := Lib.hid (rdecimal7_q key hk);have m2 := Lib.hid (rdecimal7_q index hi);have s1 := decS_20 hk;have s2 := decS_20 hi;generalize decS key = a at *;generalize decS index = b at *;have z1 : ((⟨#[98, 111, 120, 47]⟩ : ByteArray) ++ a).size = 4 + a.size := by rw [ByteArray.size_append]; rfl
 have z2 : (((⟨#[98, 111, 120, 47]⟩ : ByteArray) ++ a) ++ (⟨#[47]⟩ : ByteArray)).size = 5 + a.size := by rw [ByteArray.size_append, z1]; show 4 + a.size + 1 = _; omega
 have z3 : ((((⟨#[98, 111, 120, 47]⟩ : ByteArray) ++ a) ++ (⟨#[47]⟩ : ByteArray)) ++ b).size = 5 + a.size + b.size := by rw [ByteArray.size_append, z2]
 have n1 : ¬ (9223372036854775807 : Int) < (((⟨#[98, 111, 120, 47]⟩ : ByteArray) ++ a).size : Int) := by omega
 have n2 : ¬ (9223372036854775807 : Int) < ((((⟨#[98, 111, 120, 47]⟩ : ByteArray) ++ a) ++ (⟨#[47]⟩ : ByteArray)).size : Int) := by omega
 have n3 : ¬ (9223372036854775807 : Int) < (((((⟨#[98, 111, 120, 47]⟩ : ByteArray) ++ a) ++ (⟨#[47]⟩ : ByteArray)) ++ b).size : Int) := by omega
 have m3 := Lib.hid (fun W => rSum_any ((((⟨#[98, 111, 120, 47]⟩ : ByteArray) ++ a) ++ (⟨#[47]⟩ : ByteArray)) ++ b) W (by omega));have hl := sha_len ((((⟨#[98, 111, 120, 47]⟩ : ByteArray) ++ a) ++ (⟨#[47]⟩ : ByteArray)) ++ b).data.toList;generalize shaS ((((⟨#[98, 111, 120, 47]⟩ : ByteArray) ++ a) ++ (⟨#[47]⟩ : ByteArray)) ++ b).data.toList = h at *;have hsz : (u8a h).size = 32 := by simp [u8a, u8l, hl]
 go_enter Tryz.func210, Tryz.ntmps210;go_upto_region 1 with fail;refine nameOne (u8a (List.replicate 32 0)) rfl ?_;intro W0 hk0 hB
 go_wp2_with (first
  | (go_at_call 246; (with_reducible refine (m1.out _).mono ?_); rintro e w1 ⟨rfl, hb⟩; replace hk0 := hk0.below hb hk0.lt; replace hB := below_then hB hb; clear hb m1)
  | (go_at_call 246; (with_reducible refine (m2.out _).mono ?_); rintro e w2 ⟨rfl, hb⟩; replace hk0 := hk0.below hb hk0.lt; replace hB := below_then hB hb; clear hb)
  | (go_at_call 65; (with_reducible refine (m3.out _).mono ?_); rintro e w3 ⟨rfl, hb⟩; replace hk0 := hk0.below hb hk0.lt; replace hB := below_then hB hb; clear hb)
  | (refine wpList_store_rowTo rfl 38 _ _ rfl rfl _ (u8a h) rfl rfl _ _ hk0 (by rw [hsz]; kernel_rfl) (by rw [hsz, u8a_len (List.length_replicate ..)]) (u8a_one _) ?_))
 refine bodyPost_ret (results_cell_row (p := 4) (ty := 38) rfl _ _ w.heap.size _ (u8a h) (0, 0) _ rfl (hk0.rowA _) Tryz.underlying38 rfl (by rw [hsz]; kernel_rfl)) rfl ?_;exact ⟨h, hl, rfl, below_setRow hB (Nat.le_refl _) _⟩
def SealPost (w : World) (e : Ending) (w' : World) : Prop := ∃ s : ByteArray, s.size = 16 ∧ e = .returned (.string s) ∧ Below w.heap.size w w'
theorem row8_sub {w : World} {g : Nat} {t : TypeId} {h : List UInt8} (hk : Blk w g t (u8a h)) (hl : h.length = 32) : Row enc8 1 w (some ⟨g, 8, none⟩) 8 24 ((h.drop 8).take 8) := by
 refine ⟨by rw [List.length_take, List.length_drop]; omega, by omega, fun _ => ⟨g, 8, rfl, fun j k x u hx hu => ?_⟩⟩;have hk0 : k = 0 := by
  have := (List.getElem?_eq_some_iff.1 hu).1;rw [enc8_len] at this
  omega
 subst hk0;obtain rfl := Option.some.inj (show some (Value.int .u8 (x.toNat : Int)) = some u from hu);rw [List.getElem?_take] at hx
 split at hx
 ·rw [List.getElem?_drop] at hx;rw [Nat.mul_one, Nat.add_zero];exact (hk.cell (8 + j)).trans (u8a_get hx)
 ·cases hx
theorem byteN (y s : Nat) : (y : Int) / 2 ^ s % 256 = ((UInt8.ofNat (y / 2 ^ s % 256)).toNat : Int) := by
 rw [byte_toNat (Nat.mod_lt _ (by omega))]
 simp
theorem rSeal_q (y key index : Nat) (_hy : y ≤ 9223372036854775807) (hk : key ≤ 9223372036854775807) (hi : index ≤ 9223372036854775807) (w : World) : Calls Tryz.prog 164 #[.int .i64 (y : Int), .int .i64 (key : Int), .int .i64 (index : Int)] w (SealPost w) := by
 have m1 := Lib.hid (rPad_q key index hk hi);go_enter Tryz.func164, Tryz.ntmps164
 go_upto_region 2 with (first
  | (go_at_call 210; (with_reducible refine (m1.out _).mono ?_); rintro e w1 ⟨h, hl, rfl, hB⟩; have hsz : (u8a h).size = 32 := by simp [u8a, u8l, hl])
  | (refine wpList_store_rowTo rfl 38 _ _ rfl rfl _ (u8a h) rfl rfl _ _ (Blk.new _ _ _) (by rw [hsz]; kernel_rfl) (by rw [hsz]; rfl) (u8a_one _) ?_))
 refine nameStored (u8a h) ?_;intro W0 hk0 hb2;replace hB := below_then hB hb2;obtain ⟨g, hg⟩ := exq w1.heap.size;rw [← hg] at hk0 ⊢;clear hg hb2 m1;go_wp2_with fail
 go_loopw [8, 9] (fun s8 s9 wr => ∃ (i : Nat) (l : List UInt8), i ≤ 8 ∧ s9 = .int .i64 (i : Int) ∧ l.length = i ∧ Own8 w.heap.size wr s8 l ∧ Blk wr g 38 (u8a h) ∧ Below w.heap.size w wr) (fun _ s9 _ => 8 - (intOf s9).toNat)
 case atStart => exact ⟨0, [], by omega, rfl, rfl, OwnL.nil_ _ _ _ _ _, hk0, hB⟩
 case round =>
  clear hk0 hB;obtain ⟨i, l, hi8, rfl, hll, ho, hk0, hB⟩ := hrel
  by_cases hlt : i < 8
  ·have hlt' : (i : Int) < 8 := by omega
   obtain ⟨u, hu⟩ : ∃ u, h[i]? = some u := ⟨_, List.getElem?_eq_getElem (by omega)⟩;obtain ⟨a, ha, ha1⟩ : ∃ a : Nat, (8 : Int) * (i : Int) = (a : Int) ∧ a = 8 * i := ⟨8 * i, by omega, rfl⟩;obtain ⟨s, hs, hs1⟩ : ∃ s : Nat, (56 : Int) - (a : Int) = (s : Int) ∧ s = 56 - 8 * i := ⟨56 - 8 * i, by omega, rfl⟩;have hs0 : (0 : Int) ≤ (s : Int) := by omega
   have hi32 : (i : Int) < 32 := by omega
   have hi00 : (0 : Int) ≤ (i : Int) := by omega
   have hbyte := byteN y s;generalize UInt8.ofNat (y / 2 ^ s % 256) = b at *;have hx := u8_xor b u;have hwb : IntKind.u8.wrap ((y : Int) / 2 ^ s) = (b.toNat : Int) := by rw [u8_wrap]; exact hbyte
   have hwa : IntKind.i64.wrap (a : Int) = (a : Int) := IntWalk.i64_in _ (by omega);have hws : IntKind.i64.wrap (s : Int) = (s : Int) := IntWalk.i64_in _ (by omega);have hwi : IntKind.i64.wrap (i : Int) = (i : Int) := IntWalk.i64_in _ (by omega);generalize hz : b ^^^ u = z at hx;clear hz hs1 ha1;go_upto_region 6 with fail;have hBd := hB.drew;have hod : Own8 w.heap.size wr.drew _ l := ho;have kd : Blk wr.drew g 38 (u8a h) := hk0;have g0 : wr.drew.cell? ⟨g, i, none⟩ = some (.int .u8 (u.toNat : Int)) := (kd.cell i).trans (u8a_get hu);clear ho hk0 hB hu;refine region_here (fun Z => Z.cell? ⟨g, i, none⟩ = some (.int .u8 (u.toNat : Int))) 12 (by kernel_rfl) g0 (fun hHeld => ?_);refine tkT 0 rfl ?_;refine tkT 1 rfl ?_;refine tkT 2 rfl ?_;refine tkT 3 rfl ?_;refine tkT 4 rfl ?_;refine tkT 5 rfl ?_;refine tkT 6 rfl ?_;refine tkT 7 rfl ?_;refine tkT 8 rfl ?_;refine tkT 9 rfl ?_;refine tkT 10 rfl ?_;refine tkO 11 rfl fun K hK => ?_;go_simp;have hba := below_al (Below.refl wr.drew.heap.size wr.drew) (.cells #[.int .u8 (z.toNat : Int)] 5);have hoA := hod.below hba;have kA := kd.below hba kd.lt;refine hK.out _ _ ?_ (fun hHeld11 => ?_)
   ·exact cell_b hba hHeld
   clear hK K
   try simp only [Act.put, pq1, pq2, pq3]
   refine tkK 12 rfl fun K hK => ?_;refine step_append_rows (enc := enc8) (B := w.heap.size) (l := l) (ds := [z]) (A := some ⟨wr.drew.heap.size, 0, none⟩) (n := 1) (c := 1) Tryz.underlying116 u8_info1 rfl (by decide) (by decide) rfl (.tmp 17) (.tmp 28) rfl enc8_len enc8_one rfl hoA rfl (row_new (Blk.new wr.drew 5 #[.int .u8 (z.toNat : Int)])) (by omega) (by decide) (below_then hBd hba).size ?_;intro v' w' ho' hg';have kB := kA.grown hg' (own_ty hoA kA (by decide));have hB' := (below_then hBd hba).grown hg' (below_then hBd hba).size (own_high hoA);refine hK.out _ _ ?_;clear hK K
   try simp only [Act.put, pq1, pq2, pq3]
   refine tkB 13 rfl ?_;refine tkD ?_;go_wp2_with fail;go_roundw
   case rel => exact ⟨i + 1, l ++ [z], by omega, by go_num, by simp [hll], ho', kB, hB'⟩
   case measure => simp [intOf]; omega
  ·obtain rfl : i = 8 := by omega
   have hsrc := row8_sub hk0 hl;have hdl : ((h.drop 8).take 8).length = 8 := by rw [List.length_take, List.length_drop]; omega
   go_upto_region 7 with fail;refine wp_region_lit ?_;refine wpList_plain rfl fun K1 hK1 => ?_;go_simp;refine hK1 _ _ ?_;clear hK1 K1;refine wpList_plain rfl fun K2 hK2 => ?_;go_simp;refine hK2 _ _ ?_;clear hK2 K2
   try simp only [Act.put, pq1, pq2, pq3]
   refine wp_append_rows (enc := enc8) (B := w.heap.size) (l := l) (ds := (h.drop 8).take 8) (A := some ⟨g, 8, none⟩) (n := 8) (c := 24) Tryz.underlying116 u8_info1 rfl (by decide) (by decide) rfl (.tmp 30) (.tmp 31) rfl enc8_len enc8_one rfl ho rfl hsrc (by omega) (by decide) hB.size ?_;intro v6 w6 ho6 hg6;obtain ⟨A6, c6, rfl, hb6⟩ := Own8.bdg ho6;have hcv := run_bdg_str hb6;have h16 : (l ++ (h.drop 8).take 8).length = 16 := by rw [List.length_append, hdl, hll]
   rw [h16] at hcv;go_wp2_with fail;go_ret;refine ⟨⟨(l ++ (h.drop 8).take 8).toArray⟩, ?_, rfl, hB.grown hg6 hB.size (own_high ho)⟩;show (List.toArray _).size = 16;rw [List.size_toArray, List.length_append, hdl, hll]
theorem strs_info : (Tryz.prog.info? 9).map (fun i => (i.zero, i.size, i.bytes)) = some (some (.string ⟨#[]⟩), 1, 16) := by kernel_rfl
abbrev OwnStr (B : Nat) (w : World) (v : Value) (l : List ByteArray) : Prop := OwnL encT 9 1 B w v l
theorem deal_size : (Tryz.prog.info? 166).map (·.size) = some 3 := by kernel_rfl
def dealA (v1 : Value) (pt : Int) (v3 : Value) : Array Value := #[v1, .int .i64 pt, v3]
theorem results_deal {fn : Func} {tmps : Array Value} {w : World} {s r k : Nat} {t : TypeId} {u v x y : Value} (hr : fn.results = #[.cell s 166, .tmp r]) (hs : tmps[s]?.getD undef = .pointer (some ⟨k, 0, none⟩)) (hy : tmps[r]?.getD undef = y) (hb : Blk w k t #[u, v, x]) :
 (results fn tmps).run Tryz.prog w = .ok (.tuple #[.agg #[u, v, x], y]) w := by
 have h0 : w.cell? ⟨k, 0, none⟩ = some u := hb.cell 0;have h1 : w.cell? ⟨k, 1, none⟩ = some v := hb.cell 1;have h2 : w.cell? ⟨k, 2, none⟩ = some x := hb.cell 2
 simp [results, hr, hs, hy, go_sem, h0, h1, h2]
structure DealOK (B : Nat) (w : World) (v1 : Value) (pt : Int) (v3 : Value) (cs : List Nat) (n : Nat) : Prop where
 com : OwnI B w v1 (intsN (cs.map gP))
 pt : memB pt = true
 box : ∃ bs : List ByteArray, OwnStr B w v3 bs ∧ bs.length = n ∧ ∀ s ∈ bs, s.size = 16
theorem DealOK.below {B : Nat} {w w' : World} {v1 v3 : Value} {pt : Int} {cs : List Nat} {n : Nat} (h : DealOK B w v1 pt v3 cs n) (hb : Below w.heap.size w w') : DealOK B w' v1 pt v3 cs n :=
 ⟨h.com.below hb, h.pt, let ⟨bs, a, b, c⟩ := h.box; ⟨bs, a.below hb, b, c⟩⟩
def DealPost (cs : List Nat) (n : Nat) (w : World) (e : Ending) (w' : World) : Prop :=
 ∃ (v1 v3 : Value) (pt : Nat), e = .returned (.tuple #[.agg (dealA v1 (pt : Int) v3), .bool true]) ∧ DealOK w.heap.size w' v1 (pt : Int) v3 cs n ∧ Below w.heap.size w w'
theorem rDeal_q (A1 A2 : Option Addr) (n1 c1 n2 c2 : Nat) (cs ks : List Nat) (seed : ByteArray) (h1 : 1 ≤ n1) (h12 : n1 ≤ n2) (h2 : n2 ≤ 60) (hq : ∀ c ∈ cs, c < qG) (hm : (intsN ks).all memB = true) (hkI : ∀ k ∈ ks, k ≤ 9223372036854775807) (hs : seed.size ≤ 100000) (w : World) (hr1 : RowN w A1 n1 c1 cs) (hr2 : RowN w A2 n2 c2 ks) :
 Calls Tryz.prog 100 #[.slice A1 n1 c1, .slice A2 n2 c2, .string seed] w (DealPost cs n2 w) := by
 have hl1 := rowN_len hr1;have hl2 := rowN_len hr2;have HC := Lib.hid hr1;have HK := Lib.hid hr2
 have m1 := Lib.hid (fun W h => rmembers_q A2 n2 c2 (intsN ks) (by omega) (fun x hx => by
  obtain ⟨k, hk, rfl⟩ := List.mem_map.1 hx;have := hkI k hk
  exact ⟨by omega, by omega⟩) W h)
 rw [hm] at m1;obtain ⟨t, ht⟩ : ∃ t : ByteArray, (⟨#[112, 111, 105, 110, 116, 47]⟩ : ByteArray) ++ seed = t := ⟨_, rfl⟩;have hts : t.size = 6 + seed.size := by rw [← ht, ByteArray.size_append]; rfl
 have m2 := Lib.hid (rScalar_q t (by omega));have hnl := scal_lt t.data.toList;generalize scalN t.data.toList = x at *;have hql := qG_lit;have m3 := Lib.hid (rG_q x (by omega));obtain ⟨N, hN⟩ := exq (gP x);have hNm : memB (N : Int) = true := by rw [hN]; exact mem_g x (by omega)
 rw [← hN] at m3;have q1 := Lib.hid (fun (i : Nat) W h => rValue_q A1 n1 c1 cs i (by omega) W h);have b1 : ((n2 : Int) < 1) = False := by simp only [eq_iff_iff, iff_false]; omega
 have b2 : ((60 : Int) < (n2 : Int)) = False := by simp only [eq_iff_iff, iff_false]; omega
 have b3 : ((n1 : Int) < 1) = False := by simp only [eq_iff_iff, iff_false]; omega
 have b4 : ((n2 : Int) < (n1 : Int)) = False := by simp only [eq_iff_iff, iff_false]; omega
 clear hr1 hr2 hN hm;go_enter Tryz.func100, Tryz.ntmps100;go_upto_region 1 with fail;refine name1p ?_;intro W0 k6 hB;obtain ⟨p6, hp6⟩ : ∃ p, p = w.heap.size := ⟨_, rfl⟩;rw [← hp6] at k6 ⊢;have hpB : w.heap.size ≤ p6 := by omega
 clear hp6
 go_upto_region 4 with (first
  | (go_at_call 163; (with_reducible refine (m1.out _ (HK.out.below hB)).mono ?_); rintro e w1 ⟨rfl, hww⟩; obtain rfl := hww.symm))
 clear m1 b1 b2 b3 b4;go_wp2_with fail
 go_loop [9] (fun s9 => ∃ k : Nat, k ≤ n1 ∧ s9 = .int .i64 (k : Int)) (fun s9 => n1 - (intOf s9).toNat)
 case atStart => exact ⟨0, by omega, rfl⟩
 case round =>
  obtain ⟨k, hk, rfl⟩ := hrel
  by_cases hlt : k < n1
  ·have hlt' : (k : Int) < (n1 : Int) := by omega
   obtain ⟨b, o, c, rfl, hc, hcc⟩ := rowN_at (HC.out.below hB) hlt;have hcq := hq c (List.mem_of_getElem? hc);have d1 : ((c : Int) < 0) = False := by simp only [eq_iff_iff, iff_false]; omega
   have d2 : ((1152921504606845789 : Int) ≤ (c : Int)) = False := by simp only [eq_iff_iff, iff_false]; omega
   clear hc;go_wp2_with fail;go_round
   case rel => exact ⟨k + 1, by omega, by go_num⟩
   case measure => simp [intOf]; omega
  ·obtain rfl : k = n1 := by omega
   go_upto_region 10 with (first
    | (go_at_call 121; (try rw [ht]); (with_reducible refine (m2.out _).mono ?_); rintro e w2 ⟨rfl, hb⟩; replace k6 := k6.below hb k6.lt; replace hB := below_then hB hb; clear hb))
   clear m2
   go_upto_region 11 with (first
    | (go_at_call 75; (with_reducible refine (m3.out _).mono ?_); rintro e w3 ⟨rfl, hww⟩; obtain rfl := hww.symm)
    | (refine wpList_store_rowTo rfl 166 _ _ rfl rfl _ (dealA (.slice none 0 0) (N : Int) (.slice none 0 0)) rfl rfl _ _ (Blk.new _ _ _) deal_size rfl rfl ?_))
   refine name1p ?_;intro W3 kg hb3;obtain ⟨g, hg⟩ := exq w2.heap.size;rw [← hg] at kg ⊢;have hg6 : p6 ≠ g := by have := k6.lt; omega
   have hgB : w.heap.size ≤ g := by have := hB.size; omega
   replace k6 := k6.below hb3 k6.lt;replace hB := below_then hB hb3;clear hg hb3 m3;obtain ⟨L, hL⟩ := exq (cs.map gP);have hLl : L.length = k := by rw [hL, List.length_map, hl1]
   have HL := Lib.hid hL;clear hL;go_wp2_with fail
   go_loopw [12] (fun s12 wr => ∃ (j : Nat) (v : Value), j ≤ k ∧ s12 = .int .i64 (j : Int) ∧ Blk wr g 166 #[v, .int .i64 (N : Int), .slice none 0 0] ∧ Blk wr p6 166 #[.slice none 0 0, .int .i64 0, .slice none 0 0] ∧ OwnI w.heap.size wr v (intsN (L.take j)) ∧ Below w.heap.size w wr) (fun s12 _ => k - (intOf s12).toNat)
   case atStart => exact ⟨0, _, by omega, rfl, kg, k6, OwnL.nil_ _ _ _ _ _, hB⟩
   case round =>
    clear kg k6 hB;obtain ⟨j, v, hj, rfl, kg, k6, ho, hB⟩ := hrel
    by_cases hjk : j < k
    ·have hjk' : (j : Int) < (k : Int) := by omega
     obtain ⟨b, o, y, rfl, hy, hcy⟩ := rowN_at (HC.out.below hB) hjk;have hyq := hq y (List.mem_of_getElem? hy);have p1 := Lib.hid (rG_q y (by omega));obtain ⟨z, hz⟩ := exq (gP y);rw [← hz] at p1;have HT : Hid (L.take (j + 1) = L.take j ++ [z]) := Lib.hid (by rw [List.take_add_one, HL.out, List.getElem?_map, hy, hz]; rfl);have hwj : IntKind.i64.wrap (j : Int) = (j : Int) := IntWalk.i64_in _ (by omega);clear hy hz hyq;go_upto_region 14 with fail;have hBd := hB.drew;have kd : Blk wr.drew g 166 #[v, .int .i64 (N : Int), .slice none 0 0] := kg;have k6d : Blk wr.drew p6 166 #[.slice none 0 0, .int .i64 0, .slice none 0 0] := k6;have hod : OwnI w.heap.size wr.drew v (intsN (L.take j)) := ho;have g0 : wr.drew.cell? ⟨g, 0, none⟩ = some v := kd.cell 0;have g1 : wr.drew.cell? ⟨b, o + j, none⟩ = some (.int .i64 (y : Int)) := hcy;clear kg k6 ho hB hcy;refine region_here (fun Z => Z.cell? ⟨g, 0, none⟩ = some v ∧ Z.cell? ⟨b, o + j, none⟩ = some (.int .i64 (y : Int))) 8 (by kernel_rfl) ⟨g0, g1⟩ (fun hHeld => ?_);refine tkT 0 rfl ?_;refine tkT 1 rfl ?_;refine tkT 2 rfl ?_;refine tkT 3 rfl ?_;refine tkT 4 rfl ?_;refine tkT 5 rfl ?_;refine tkO 6 rfl fun K hK => ?_;go_simp;go_at_call 75;refine (p1.out _).mono ?_;rintro e wa ⟨rfl, hww⟩
     (try go_wp2_with fail)
     obtain rfl := hww.symm;refine hK.out _ _ ?_ (fun hHeld6 => ?_)
     ·exact hHeld
     clear hK K
     try simp only [Act.put, pq1, pq2, pq3]
     refine tkO 7 rfl fun K hK => ?_;go_simp;have hba := below_al (Below.refl wr.drew.heap.size wr.drew) (.cells #[.int .i64 ((z : Nat) : Int)] 3);have hoA := hod.below hba;have kA := kd.below hba kd.lt;have k6A := k6d.below hba k6d.lt;refine hK.out _ _ ?_ (fun hHeld7 => ?_)
     ·exact ⟨cell_b hba hHeld6.1, cell_b hba hHeld6.2⟩
     clear hK K
     try simp only [Act.put, pq1, pq2, pq3]
     refine tkK 8 rfl fun K hK => ?_;refine step_append_rows (enc := encI) (B := w.heap.size) (l := intsN (L.take j)) (ds := [((z : Nat) : Int)]) (A := some ⟨wr.drew.heap.size, 0, none⟩) (n := 1) (c := 1) Tryz.underlying25 int_info rfl (by decide) (by decide) rfl (.tmp 73) (.tmp 79) rfl encI_len encI_one rfl hoA rfl (row_new (Blk.new wr.drew 3 #[.int .i64 ((z : Nat) : Int)])) (by rw [intsN_len, List.length_take]; omega) (by decide) (below_then hBd hba).size ?_;intro v' w' ho' hg';have kB := kA.grown hg' (own_ty hoA kA (by decide));have k6B := k6A.grown hg' (own_ty hoA k6A (by decide));have hB' := (below_then hBd hba).grown hg' (below_then hBd hba).size (own_high hoA);have cB0 := kB.cell 0;have fB0 := kB.frozen 0;obtain ⟨A', c', hv', -⟩ := OwnL.row ho' encI_len;obtain ⟨n', hn'⟩ := exq ((intsN (L.take j) ++ [((z : Nat) : Int)]).length);rw [← hn'] at hv';subst hv';clear hn';refine hK.out _ _ ?_;clear hK K
     try simp only [Act.put, pq1, pq2, pq3]
     refine tkB 9 rfl ?_;refine tkR 10 rfl fun K hK => ?_;go_simp;refine hK _ _ ?_;clear hK K
     try simp only [Act.put]
     refine tkD ?_;have kS : Blk (w'.setCell ⟨g, 0, none⟩ (.slice A' n' c')) g 166 #[.slice A' n' c', .int .i64 (N : Int), .slice none 0 0] := kB.set_ 0 _;have hgS := grown_set (grown_refl w' (some g)) 0 (.slice A' n' c');have hoS := OwnL.kept ho' hgS (.inr (Ne.symm (own_ty ho' kB (by decide))));have k6S := k6B.grown hgS (fun e => hg6 (Option.some.inj e));have hBS := hB'.grown hgS hB'.size (fun j e => by cases e; exact hgB);go_wp2_with fail;go_roundw
     case rel => exact ⟨j + 1, _, by omega, by go_num, kS, k6S, by rw [HT.out, intsN_snoc]; exact hoS, hBS⟩
     case measure => simp [intOf]; omega
    ·obtain rfl : j = k := by omega
     rw [List.take_of_length_le (by omega), HL.out] at ho;clear HL;go_wp2_with fail
     go_loopw [13] (fun s13 wr => ∃ (i : Nat) (v3 : Value) (L2 : List ByteArray), i ≤ n2 ∧ s13 = .int .i64 (i : Int) ∧ Blk wr g 166 #[v, .int .i64 (N : Int), v3] ∧ Blk wr p6 166 #[.slice none 0 0, .int .i64 0, .slice none 0 0] ∧ OwnI w.heap.size wr v (intsN (cs.map gP)) ∧ OwnStr w.heap.size wr v3 L2 ∧ L2.length = i ∧ (∀ s ∈ L2, s.size = 16) ∧ Below w.heap.size w wr) (fun s13 _ => n2 - (intOf s13).toNat)
     case atStart => exact ⟨0, _, [], by omega, rfl, kg, k6, ho, OwnL.nil_ _ _ _ _ _, rfl, fun s h => by simp at h, hB⟩
     case round =>
      clear kg k6 hB ho;obtain ⟨i, v3, L2, hi, rfl, kg, k6, ho1, ho, hL2, hS16, hB⟩ := hrel
      by_cases hin : i < n2
      ·have hin' : (i : Int) < (n2 : Int) := by omega
       obtain ⟨b, o, y, rfl, hy, hcy⟩ := rowN_at (HK.out.below hB) hin;have hyq := hkI y (List.mem_of_getElem? hy);obtain ⟨i1, hi1, hi2⟩ : ∃ i1 : Nat, (i : Int) + 1 = (i1 : Int) ∧ i1 = i + 1 := ⟨i + 1, by omega, rfl⟩;have hwi : IntKind.i64.wrap (i : Int) = (i : Int) := IntWalk.i64_in _ (by omega);have hwi1 : IntKind.i64.wrap (i1 : Int) = (i1 : Int) := IntWalk.i64_in _ (by omega);have p1 := Lib.hid (rPowP_q y x (by omega));have hpl := pG_lit;have hzl : pm pG 64 y x < pG := by rw [pm_eq _ _ _ _ (by omega)]; exact Nat.mod_lt _ (by omega)
       have hvl := valN_lt i1 cs;have p2 := Lib.hid (fun W => rSeal_q (valN i1 cs) (pm pG 64 y x) i (by omega) (by omega) (by omega) W);have q2 := Lib.hid (q1.out i1);generalize pm pG 64 y x = z at *;generalize valN i1 cs = u at *;clear hy hi2 hpl hzl hvl;go_upto_region 18 with fail;have hBd := hB.drew;have kd : Blk wr.drew g 166 #[v, .int .i64 (N : Int), v3] := kg;have k6d : Blk wr.drew p6 166 #[.slice none 0 0, .int .i64 0, .slice none 0 0] := k6;have hod : OwnStr w.heap.size wr.drew v3 L2 := ho;have ho1d : OwnI w.heap.size wr.drew v (intsN (cs.map gP)) := ho1;have g0 : wr.drew.cell? ⟨g, 2, none⟩ = some v3 := kd.cell 2;have g1 : wr.drew.cell? ⟨b, o + i, none⟩ = some (.int .i64 (y : Int)) := hcy;clear kg k6 ho hB hcy ho1;refine region_here (fun Z => Z.cell? ⟨g, 2, none⟩ = some v3 ∧ Z.cell? ⟨b, o + i, none⟩ = some (.int .i64 (y : Int))) 15 (by kernel_rfl) ⟨g0, g1⟩ (fun hHeld => ?_);refine tkT 0 rfl ?_;refine tkT 1 rfl ?_;refine tkT 2 rfl ?_;refine tkT 3 rfl ?_;refine tkT 4 rfl ?_;refine tkT 6 rfl ?_;refine tkT 7 rfl ?_;refine tkT 8 rfl ?_;refine tkT 9 rfl ?_;refine tkT 10 rfl ?_;refine tkT 12 rfl ?_;refine tkO 5 rfl fun K hK => ?_;go_simp;go_at_call 162;refine (q2.out _ (HC.out.below hBd)).mono ?_;rintro e wa ⟨rfl, hba⟩
       (try go_wp2_with fail)
       refine hK.out _ _ ?_ (fun hHeld5 => ?_)
       ·exact ⟨cell_b hba hHeld.1, cell_b hba hHeld.2⟩
       clear hK K
       try simp only [Act.put, pq1, pq2, pq3]
       refine tkO 11 rfl fun K hK => ?_;go_simp;go_at_call 75;refine (p1.out _).mono ?_;rintro e wb ⟨rfl, hww⟩
       (try go_wp2_with fail)
       obtain rfl := hww.symm;refine hK.out _ _ ?_ (fun hHeld11 => ?_)
       ·exact hHeld5
       clear hK K
       try simp only [Act.put, pq1, pq2, pq3]
       refine tkO 13 rfl fun K hK => ?_;go_simp;go_at_call 164;refine (p2.out _).mono ?_;rintro e wc ⟨s, hs16, rfl, hbc⟩
       (try go_wp2_with fail)
       refine hK.out _ _ ?_ (fun hHeld13 => ?_)
       ·exact ⟨cell_b hbc hHeld11.1, cell_b hbc hHeld11.2⟩
       clear hK K
       try simp only [Act.put, pq1, pq2, pq3]
       refine tkO 14 rfl fun K hK => ?_;go_simp;have hb3 := below_al (Below.refl wc.heap.size wc) (.cells #[.string s] 9);have hBA := below_then (below_then (below_then hBd hba) hbc) hb3;have hoA := ((hod.below hba).below hbc).below hb3;have ho1A := ((ho1d.below hba).below hbc).below hb3;have kA := ((kd.below hba kd.lt).below hbc (kd.below hba kd.lt).lt).below hb3 ((kd.below hba kd.lt).below hbc (kd.below hba kd.lt).lt).lt;have k6A := ((k6d.below hba k6d.lt).below hbc (k6d.below hba k6d.lt).lt).below hb3 ((k6d.below hba k6d.lt).below hbc (k6d.below hba k6d.lt).lt).lt;refine hK.out _ _ ?_ (fun hHeld14 => ?_)
       ·exact ⟨cell_b hb3 hHeld13.1, cell_b hb3 hHeld13.2⟩
       clear hK K
       try simp only [Act.put, pq1, pq2, pq3]
       refine tkK 15 rfl fun K hK => ?_;refine step_append_rows (enc := encT) (B := w.heap.size) (l := L2) (ds := [s]) (A := some ⟨wc.heap.size, 0, none⟩) (n := 1) (c := 1) Tryz.underlying71 strs_info rfl (by decide) (by decide) rfl (.tmp 89) (.tmp 102) rfl encT_len encT_one rfl hoA rfl (row_new (Blk.new wc 9 #[.string s])) (by omega) (by decide) hBA.size ?_;intro v' w' ho' hg';have kB := kA.grown hg' (own_ty hoA kA (by decide));have k6B := k6A.grown hg' (own_ty hoA k6A (by decide));have ho1B := OwnL.kept ho1A hg' (rows_apart ho1A hoA (by decide));have hB' := hBA.grown hg' hBA.size (own_high hoA);have cB2 := kB.cell 2;have fB2 := kB.frozen 2;obtain ⟨A', c', hv', -⟩ := OwnL.row ho' encT_len;obtain ⟨n', hn'⟩ := exq ((L2 ++ [s]).length);rw [← hn'] at hv';subst hv';clear hn';refine hK.out _ _ ?_;clear hK K
       try simp only [Act.put, pq1, pq2, pq3]
       refine tkB 16 rfl ?_;refine tkR 17 rfl fun K hK => ?_;go_simp;refine hK _ _ ?_;clear hK K
       try simp only [Act.put]
       refine tkD ?_;have kS : Blk (w'.setCell ⟨g, 2, none⟩ (.slice A' n' c')) g 166 #[v, .int .i64 (N : Int), .slice A' n' c'] := kB.set_ 2 _;have hgS := grown_set (grown_refl w' (some g)) 2 (.slice A' n' c');have hoS := OwnL.kept ho' hgS (.inr (Ne.symm (own_ty ho' kB (by decide))));have ho1S := OwnL.kept ho1B hgS (.inr (Ne.symm (own_ty ho1B kB (by decide))));have k6S := k6B.grown hgS (fun e => hg6 (Option.some.inj e));have hBS := hB'.grown hgS hB'.size (fun j e => by cases e; exact hgB);go_wp2_with fail;go_roundw
       case rel => exact ⟨i + 1, _, L2 ++ [s], by omega, by go_num, kS, k6S, ho1S, hoS, by simp [hL2], fun t ht => (List.mem_append.1 ht).elim (hS16 t) (fun h => by rw [List.mem_singleton.1 h]; exact hs16), hBS⟩
       case measure => simp [intOf]; omega
      ·obtain rfl : i = n2 := by omega
       have a0 : wr.cell? ⟨g, 0, none⟩ = some v := kg.cell 0;have a1 : wr.cell? ⟨g, 1, none⟩ = some (.int .i64 (N : Int)) := kg.cell 1;have a2 : wr.cell? ⟨g, 2, none⟩ = some v3 := kg.cell 2;have e0 : wr.cell? ⟨p6, 0, none⟩ = some (.slice none 0 0) := k6.cell 0;have e1 : wr.cell? ⟨p6, 1, none⟩ = some (.int .i64 0) := k6.cell 1;have e2 : wr.cell? ⟨p6, 2, none⟩ = some (.slice none 0 0) := k6.cell 2;have f0 := k6.frozen 0;have f1 := k6.frozen 1;have f2 := k6.frozen 2;obtain ⟨Av, cv, rfl, -⟩ := OwnL.row ho1 encI_len;obtain ⟨Av3, cv3, rfl, -⟩ := OwnL.row ho encT_len;rw [hL2] at ho;go_wp2_with fail;have kS : Blk _ p6 166 (dealA (.slice Av (intsN (cs.map gP)).length cv) (N : Int) (.slice Av3 i cv3)) := ((k6.set_ 0 (.slice Av (intsN (cs.map gP)).length cv)).set_ 1 (.int .i64 (N : Int))).set_ 2 (.slice Av3 i cv3);refine bodyPost_ret (results_deal rfl rfl rfl kS) rfl ?_;have hs3 := grown_set (grown_set (grown_set (grown_refl wr (some p6)) 0 (.slice Av (intsN (cs.map gP)).length cv)) 1 (.int .i64 (N : Int))) 2 (.slice Av3 i cv3);exact ⟨_, _, N, rfl, ⟨OwnL.kept ho1 hs3 (.inr (Ne.symm (own_ty ho1 k6 (by decide)))), hNm, L2, OwnL.kept ho hs3 (.inr (Ne.symm (own_ty ho k6 (by decide)))), hL2, hS16⟩, below_set (below_set (below_set hB hpB _) hpB _) hpB _⟩
theorem intsN_I64 {l : List Nat} (h : ∀ x ∈ l, x ≤ 9223372036854775807) : ∀ x ∈ intsN l, I64 x := fun x hx => by
 obtain ⟨k, hk, rfl⟩ := List.mem_map.1 hx;have := h k hk;exact ⟨by omega, by omega⟩
theorem gP_all {cs : List Nat} (h : ∀ c ∈ cs, c < qG) : (intsN (cs.map gP)).all memB = true := by
 rw [List.all_eq_true];intro x hx;obtain ⟨y, hy, rfl⟩ := List.mem_map.1 hx;obtain ⟨c, hc, rfl⟩ := List.mem_map.1 hy;exact mem_g c (Nat.lt_trans (h c hc) qG_64)
theorem gP_I64 {cs : List Nat} (h : ∀ c ∈ cs, c < qG) : ∀ x ∈ intsN (cs.map gP), I64 x := intsN_I64 fun x hx => by
 obtain ⟨c, hc, rfl⟩ := List.mem_map.1 hx;have := gP_lt c (Nat.lt_trans (h c hc) qG_64);have e := pG_lit
 omega
theorem rCheck_q (v1 v3 : Value) (pt : Int) (cs : List Nat) (n B : Nat) (h1 : 1 ≤ cs.length) (h2 : cs.length ≤ n) (hn : n ≤ 60) (hq : ∀ c ∈ cs, c < qG) (hpt : I64 pt) (w : World) (hd : DealOK B w v1 pt v3 cs n) :
 Calls Tryz.prog 209 #[.agg (dealA v1 pt v3), .int .i64 (n : Int)] w fun e w' => e = .returned (.bool true) ∧ Below w.heap.size w w' := by
 obtain ⟨bs, hbs, hbl, hb16⟩ := hd.box;obtain ⟨A1, c1, rfl, hr1⟩ := OwnL.row hd.com encI_len;obtain ⟨A3, c3, rfl, hr3⟩ := OwnL.row hbs encT_len;have hll : (intsN (cs.map gP)).length = cs.length := by rw [intsN_len, List.length_map]
 rw [hll] at hr1 ⊢;rw [hbl] at hr3 ⊢;have m1 := Lib.hid (rMember_q pt hpt.1 hpt.2);rw [hd.pt] at m1;have m2 := Lib.hid (fun W h => rmembers_q A1 cs.length c1 (intsN (cs.map gP)) (by omega) (gP_I64 hq) W h);rw [gP_all hq] at m2;clear hll;generalize cs.length = k at *;have HR1 := Lib.hid hr1;have HR3 := Lib.hid hr3;have b1 : ((n : Int) != (n : Int)) = false := by simp
 have b2 : ((k : Int) < 1) = False := by simp only [eq_iff_iff, iff_false]; omega
 have b3 : ((n : Int) < (k : Int)) = False := by simp only [eq_iff_iff, iff_false]; omega
 clear hr1 hr3 hd hbs;unfold dealA;go_enter Tryz.func209, Tryz.ntmps209;go_upto_region 1 with fail;refine name1p ?_;intro W0 k0 hB;obtain ⟨g, hg⟩ := exq w.heap.size;rw [← hg] at k0 ⊢;clear hg;have c0 : W0.cell? ⟨g, 0, none⟩ = some (.slice A1 k c1) := k0.cell 0;have c1' : W0.cell? ⟨g, 1, none⟩ = some (.int .i64 pt) := k0.cell 1;have c2 : W0.cell? ⟨g, 2, none⟩ = some (.slice A3 n c3) := k0.cell 2
 go_upto_region 5 with (first
  | (go_at_call 119; (with_reducible refine (m1.out _).mono ?_); rintro e w1 ⟨rfl, hww⟩; obtain rfl := hww.symm)
  | (go_at_call 163; (with_reducible refine (m2.out _ (HR1.out.below hB)).mono ?_); rintro e w1 ⟨rfl, hww⟩; obtain rfl := hww.symm))
 clear m1 m2 b1 b2 b3;go_wp2_with fail
 go_loop [7] (fun s7 => ∃ j : Nat, j ≤ n ∧ s7 = .int .i64 (j : Int)) (fun s7 => n - (intOf s7).toNat)
 case atStart => exact ⟨0, by omega, rfl⟩
 case round =>
  obtain ⟨j, hj, rfl⟩ := hrel
  by_cases hlt : j < n
  ·have hlt' : (j : Int) < (n : Int) := by omega
   obtain ⟨b, o, rfl, hc⟩ := (HR3.out.below hB).at_ (by omega);have hs : bs[j]? = some bs[j] := List.getElem?_eq_getElem (by omega);have hcs := hc j 0 _ _ hs rfl;rw [Nat.mul_one, Nat.add_zero] at hcs;have h16 := hb16 bs[j] (List.getElem_mem _);generalize bs[j] = s at *;have hne : ((s.size : Int) != 16) = false := by rw [h16]; rfl
   clear hc hs h16;go_wp2_with fail;go_round
   case rel => exact ⟨j + 1, by omega, by go_num⟩
   case measure => simp [intOf]; omega
  ·obtain rfl : j = n := by omega
   go_wp2_with fail;go_ret;exact ⟨rfl, hB⟩
def boxKeys (ms : List Mem) : List Int := ms.flatMap fun m => List.replicate m.wt.toNat m.pub
theorem boxKeys_snoc (ms : List Mem) (m : Mem) : boxKeys (ms ++ [m]) = boxKeys ms ++ List.replicate m.wt.toNat m.pub := by simp [boxKeys]
def BoxesPost (ms : List Mem) (w : World) (e : Ending) (w' : World) : Prop := ∃ v : Value, e = .returned v ∧ OwnI w.heap.size w' v (boxKeys ms) ∧ Below w.heap.size w w'
theorem rBoxes_q (A : Option Addr) (n c : Nat) (ms : List Mem) (hn : n ≤ 13) (hw : ∀ m ∈ ms, 1 ≤ m.wt ∧ m.wt ≤ 20) (w : World) (hr : RowM w A n c ms) :
 Calls Tryz.prog 101 #[.slice A n c] w (BoxesPost ms w) := by
 have hl := hr.len;have HR := Lib.hid hr;have hB := Below.refl w.heap.size w;clear hr;go_enter Tryz.func101, Tryz.ntmps101;go_wp2_with fail
 go_loopw [3, 4, 5] (fun s3 s4 _ wr => ∃ i : Nat, i ≤ n ∧ s4 = .int .i64 (i : Int) ∧ OwnI w.heap.size wr s3 (boxKeys (ms.take i)) ∧ (boxKeys (ms.take i)).length ≤ 20 * i ∧ Below w.heap.size w wr) (fun _ s4 _ _ => n - (intOf s4).toNat)
 case atStart => exact ⟨0, by omega, rfl, OwnL.nil_ _ _ _ _ _, by simp [boxKeys], hB⟩
 case round =>
  clear hB;obtain ⟨i, hi, rfl, ho, hbl, hB⟩ := hrel
  by_cases hlt : i < n
  ·have hlt' : (i : Int) < (n : Int) := by omega
   obtain ⟨b, o, m, rfl, hm, -⟩ := RowM.get (HR.out.below hB) hlt;obtain ⟨g1, g2⟩ := hw m (List.mem_of_getElem? hm);obtain ⟨k0, hk0, hk1⟩ : ∃ k0 : Nat, m.wt = (k0 : Int) ∧ k0 = m.wt.toNat := ⟨m.wt.toNat, by omega, rfl⟩;have HM := Lib.hid hm;have HK := Lib.hid hk1;have hk20 : k0 ≤ 20 := by omega
   clear hm hk1;go_wp2_with fail
   go_loopw [3, 5] (fun s3 s5 wz => ∃ k : Nat, k ≤ k0 ∧ s5 = .int .i64 (k : Int) ∧ OwnI w.heap.size wz s3 (boxKeys (ms.take i) ++ List.replicate k m.pub) ∧ Below w.heap.size w wz) (fun _ s5 _ => k0 - (intOf s5).toNat)
   case atStart => exact ⟨0, by omega, rfl, by simpa using ho, hB⟩
   case round =>
    clear ho hB;obtain ⟨k, hk, rfl, ho, hB⟩ := hrel;obtain ⟨m', hm', -, c1, c2⟩ := rowM_at (HR.out.below hB) hlt;obtain rfl : m' = m := Option.some.inj (hm'.symm.trans HM.out);rw [hk0] at c1;clear hm'
    by_cases hkk : k < k0
    ·have hkk' : (k : Int) < (k0 : Int) := by omega
     have hll : (boxKeys (ms.take i) ++ List.replicate k m'.pub).length ≤ 1000 := by rw [List.length_append, List.length_replicate]; omega
     go_wp2_with (refine wp_append_row (enc := encI) Tryz.underlying25 int_info rfl (by decide) (by decide) rfl _ _ rfl m'.pub rfl rfl (encI_one _) rfl ho rfl (by omega) hB.size ?_; intro v6 w6 ho6 hg6);go_roundw
     case rel => exact ⟨k + 1, by omega, by go_num, by rw [List.replicate_succ', ← List.append_assoc]; exact ho6, hB.grown hg6 hB.size (own_high ho)⟩
     case measure => simp [intOf]; omega
    ·obtain rfl : k = k0 := by omega
     have HE : Hid (boxKeys (ms.take (i + 1)) = boxKeys (ms.take i) ++ List.replicate k m'.pub) := Lib.hid (by
      rw [List.take_add_one, HM.out, HK.out]; exact boxKeys_snoc _ _)
     go_wp2_with fail;go_roundw
     case rel => exact ⟨i + 1, by omega, by go_num, by rw [HE.out]; exact ho, by rw [HE.out, List.length_append, List.length_replicate]; omega, hB⟩
     case measure => simp [intOf]; omega
  ·obtain rfl : i = n := by omega
   rw [List.take_of_length_le (by omega)] at ho;go_wp2_with fail;go_ret;exact ⟨_, rfl, ho, hB⟩
def polyT (seed : List UInt8) (i : Nat) : List UInt8 := [99, 111, 101, 102, 102, 105, 99, 105, 101, 110, 116, 32] ++ (Lib.decDigits i ++ ([32, 111, 102, 32] ++ seed))
def polyL (seed : List UInt8) (n : Nat) : List Nat := (List.range n).map fun i => scalN (polyT seed i)
theorem polyL_len (seed : List UInt8) (n : Nat) : (polyL seed n).length = n := by simp [polyL]
theorem polyL_lt (seed : List UInt8) (n : Nat) : ∀ c ∈ polyL seed n, c < qG := fun c hc => by
 obtain ⟨i, -, rfl⟩ := List.mem_map.1 hc;exact scal_lt _
theorem polyL_succ (seed : List UInt8) (n : Nat) : polyL seed (n + 1) = polyL seed n ++ [scalN (polyT seed n)] := by simp [polyL, List.range_succ]
def PolyPost (seed : ByteArray) (n : Nat) (w : World) (e : Ending) (w' : World) : Prop := ∃ v : Value, e = .returned v ∧ OwnI w.heap.size w' v (intsN (polyL seed.data.toList n)) ∧ Below w.heap.size w w'
theorem rPolynomial_q (seed : ByteArray) (n : Nat) (hs : seed.size ≤ 100000) (hn : n ≤ 1000) (w : World) : Calls Tryz.prog 93 #[.string seed, .int .i64 (n : Int)] w (PolyPost seed n w) := by
 have hB := Below.refl w.heap.size w;go_enter Tryz.func93, Tryz.ntmps93;go_wp2_with fail
 go_loopw [5, 6] (fun s5 s6 wr => ∃ i : Nat, i ≤ n ∧ s6 = .int .i64 (i : Int) ∧ OwnI w.heap.size wr s5 (intsN (polyL seed.data.toList i)) ∧ Below w.heap.size w wr) (fun _ s6 _ => n - (intOf s6).toNat)
 case atStart => exact ⟨0, by omega, rfl, OwnL.nil_ _ _ _ _ _, hB⟩
 case round =>
  clear hB;obtain ⟨i, hi, rfl, ho, hB⟩ := hrel
  by_cases hlt : i < n
  ·have hlt' : (i : Int) < (n : Int) := by omega
   have m1 := Lib.hid (rText8_q i (by omega));have hds := decS_20 (n := i) (by omega);have hdl := decS_list i;generalize decS i = d at *;obtain ⟨t1, ht1⟩ : ∃ t : ByteArray, (⟨#[99, 111, 101, 102, 102, 105, 99, 105, 101, 110, 116, 32]⟩ : ByteArray) ++ d = t := ⟨_, rfl⟩;have z1 : t1.size = 12 + d.size := by rw [← ht1, ByteArray.size_append]; rfl
   obtain ⟨t2, ht2⟩ : ∃ t : ByteArray, t1 ++ (⟨#[32, 111, 102, 32]⟩ : ByteArray) = t := ⟨_, rfl⟩;have z2 : t2.size = t1.size + 4 := by rw [← ht2, ByteArray.size_append]; rfl
   obtain ⟨t3, ht3⟩ : ∃ t : ByteArray, t2 ++ seed = t := ⟨_, rfl⟩;have z3 : t3.size = t2.size + seed.size := by rw [← ht3, ByteArray.size_append]
   have hl3 : t3.data.toList = polyT seed.data.toList i := by
    rw [← ht3, ← ht2, ← ht1];simp only [ByteArray.data_append, Array.toList_append, hdl];unfold polyT
    simp
   have m2 := Lib.hid (rScalar_q t3 (by omega));rw [hl3] at m2;have HP := Lib.hid (polyL_succ seed.data.toList i);generalize scalN (polyT seed.data.toList i) = x at *;have hll : (intsN (polyL seed.data.toList i)).length ≤ 1000 := by rw [intsN_len, polyL_len]; omega
   clear hl3 hdl
   go_wp2_with (first
    | (go_at_call 94; (with_reducible refine (m1.out _).mono ?_); rintro e w2 ⟨rfl, hb⟩; replace ho := ho.below hb; replace hB := below_then hB hb; clear hb)
    | (go_at_call 121; (try rw [ht3]); (with_reducible refine (m2.out _).mono ?_); rintro e w3 ⟨rfl, hb⟩; replace ho := ho.below hb; replace hB := below_then hB hb; clear hb)
    | (refine wp_append_row (enc := encI) Tryz.underlying25 int_info rfl (by decide) (by decide) rfl _ _ rfl (x : Int) rfl rfl (encI_one _) rfl ho rfl (by omega) hB.size ?_; intro v6 w6 ho6 hg6))
   go_roundw
   case rel => exact ⟨i + 1, by omega, by go_num, by rw [HP.out, intsN_snoc]; exact ho6, hB.grown hg6 hB.size (own_high ho)⟩
   case measure => simp [intOf]; omega
  ·obtain rfl : i = n := by omega
   go_wp2_with fail;go_ret;exact ⟨_, rfl, ho, hB⟩
end Go.Proofs.YtkpinmejfdnhbaaGreatDoor
