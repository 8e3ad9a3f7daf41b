/- Locks: the reference's strings combined, limits, and streams. -/
import Derived.Test.YtebgmlbbilcbbaaGreatDoorLockC
namespace Go.Proofs.YtebgmlbbilcbbaaGreatDoor
open Go.RowKit

theorem own_same {B : Nat} {w : World} {v : Value} {l : List UInt8} (h : OwnB B w v l) : Own8 B w v l := by
  show w.ownsRow _ _ _ _ _ _
  rw [flat8]; exact h

/-- Whether a length and a number of squares are permitted. -/
def okSq (n : Nat) (sq : Int) : Bool := decide (n ≤ 100 ∧ 1 ≤ sq ∧ sq ≤ 1048576)
theorem right_q (n : Nat) (sq : Int) : Ret 107 #[.int .i64 (n : Int), .int .i64 sq] (.bool (okSq n sq)) := by
  intro w
  by_cases h1 : n ≤ 100
  · have h1' : (n : Int) ≤ 100 := by omega
    by_cases h2 : 1 ≤ sq
    · by_cases h3 : sq ≤ 1048576
      · have e : okSq n sq = true := decide_eq_true ⟨h1, h2, h3⟩
        rw [e]
        clear e h1
        go_enter Tryz.func107, Tryz.ntmps107
        go_wp2_with fail
        go_ret
        exact ⟨rfl, Below.refl _ _⟩
      · have e : okSq n sq = false := decide_eq_false (fun h => h3 h.2.2)
        rw [e]
        clear e h1
        go_enter Tryz.func107, Tryz.ntmps107
        go_wp2_with fail
        go_ret
        exact ⟨rfl, Below.refl _ _⟩
    · have e : okSq n sq = false := decide_eq_false (fun h => h2 h.2.1)
      rw [e]
      clear e h1
      go_enter Tryz.func107, Tryz.ntmps107
      go_wp2_with fail
      go_ret
      exact ⟨rfl, Below.refl _ _⟩
  · have e : okSq n sq = false := decide_eq_false (fun h => h1 h.1)
    have h1' : ¬ (n : Int) ≤ 100 := by omega
    rw [e]
    clear e h1
    go_enter Tryz.func107, Tryz.ntmps107
    go_wp2_with fail
    go_ret
    exact ⟨rfl, Below.refl _ _⟩

theorem comb_take {a b : List UInt8} {i : Nat} {x y : UInt8} (ha : a[i]? = some x) (hb : b[i]? = some y) : (combL a b).take (i + 1) = (combL a b).take i ++ [x ^^^ y] := by
  rw [List.take_add_one]
  congr 1
  unfold combL
  rw [List.getElem?_zipWith, ha, hb]; rfl

set_option maxRecDepth 100000 in
set_option maxHeartbeats 1000000 in
theorem combined_q (a b : ByteArray) (hs : b.size = a.size) (ha : a.size ≤ 1000) : Ret 108 #[.string a, .string b] (.string (strB (combL a.data.toList b.data.toList))) := by
  intro w
  obtain ⟨r, hr⟩ : ∃ r, r = combL a.data.toList b.data.toList := ⟨_, rfl⟩
  have hrl : r.length = a.size := by rw [hr, comb_len (by rw [size_len, size_len, hs]), size_len]
  have HRL := Lib.hid hrl
  have HR := Lib.hid hr
  have HS := Lib.hid hs
  rw [← hr]
  clear hr hs hrl
  go_enter Tryz.func108, Tryz.ntmps108
  go_wp2_with fail
  go_loopw [5, 6] (fun v s6 wr => ∃ (i : Nat), i ≤ a.size ∧ s6 = .int .i64 (i : Int) ∧ OwnB w.heap.size wr v (r.take i) ∧ Below w.heap.size w wr) (fun _ s6 _ => a.size - (intOf s6).toNat)
  case atStart => exact ⟨0, by omega, rfl, OwnB.nil_ _ _, Below.refl _ _⟩
  case round =>
    obtain ⟨i, hi, rfl, hown, hb⟩ := hrel
    by_cases hlt : i < a.size
    · have hlt' : (i : Int) < (a.size : Int) := by omega
      have hlb : i < b.size := by rw [HS.out]; exact hlt
      have hlb' : (i : Int) < (b.size : Int) := by omega
      obtain ⟨x, hx⟩ : ∃ x, x = a[i] ^^^ b[i] := ⟨_, rfl⟩
      have hxv : bits .xor .u8 (a[i].toNat : Int) (b[i].toNat : Int) = (x.toNat : Int) := by rw [hx, u8_xor]
      have HT : Hid (r.take (i + 1) = r.take i ++ [x]) := Lib.hid (by rw [HR.out, hx]; exact comb_take (byte_getL hlt) (byte_getL hlb))
      have hdl : (r.take i).length ≤ 10000000 := by rw [List.length_take]; omega
      clear hx
      go_upto_region 5 with fail
      go_region_law (refine step_appendB rfl (.tmp 13) (.tmp 21) rfl [x] 1 rfl rfl (by simp [Act.eval]) (World.ownsRow.drew hown) (by simp [Act.eval]) hdl (by decide) hb.drew ?_; intro v1 w1 hown1 hbw1)
      all_goals go_wp2_with fail
      all_goals
        go_roundw
        case rel => exact ⟨i + 1, by omega, by go_num, by rw [HT.out]; exact hown1, hbw1⟩
        case measure => simp [intOf]; omega
    · obtain rfl : i = a.size := by omega
      rw [List.take_of_length_le (by rw [HRL.out]; exact Nat.le_refl _)] at hown
      obtain ⟨A, c, rfl, hd⟩ := (own_same hown).bdg
      have hcv := run_bdg_str hd
      go_wp2_with fail
      go_ret
      exact ⟨rfl, hb⟩

theorem dig_cut : ∀ q : Nat, q < 10 → (⟨#[48, 49, 50, 51, 52, 53, 54, 55, 56, 57]⟩ : ByteArray).extract q (q + 1) = decS q := by
  have h : ∀ q : Fin 10, ((⟨#[48, 49, 50, 51, 52, 53, 54, 55, 56, 57]⟩ : ByteArray).extract q.val (q.val + 1)).data.toList = [UInt8.ofNat (48 + q.val)] := by decide +kernel
  exact fun q hq => bytes_eq (by rw [decS_list, Lib.decDigits_one hq]; exact h ⟨q, hq⟩)
theorem decimal3_q (n : Nat) (hn : n < 10) (w : World) : Calls Tryz.prog 179 #[.int .i64 (n : Int)] w fun e w' => e = .returned (.string (decS n)) ∧ w = w' := by
  have h1 : (n : Int) < 10 := by omega
  have h2 : (n : Int) ≤ 10 := by omega
  have h3 : (n : Int) + 1 ≤ 10 := by omega
  have hc := dig_cut n hn
  generalize decS n = d at hc ⊢
  go_enter Tryz.func179, Tryz.ntmps179
  go_wp2_with fail
  go_ret
  exact ⟨rfl, rfl⟩

set_option maxRecDepth 100000 in
set_option maxHeartbeats 2000000 in
theorem rStream_q (s : ByteArray) (n : Nat) (hs : s.size ≤ 100000) (hn : n ≤ 300) : Ret 153 #[.string s, .int .i64 (n : Int)] (.string (strB (streamL s.data.toList n))) := by
  intro w
  by_cases h0 : n = 0
  · subst h0
    have e : strB (streamL s.data.toList 0) = ⟨#[]⟩ := by
      have : streamL s.data.toList 0 = [] := List.eq_nil_of_length_eq_zero (stream_len _ _)
      rw [this]; rfl
    rw [e]
    go_enter Tryz.func153, Tryz.ntmps153
    go_wp2_with fail
    go_ret
    exact ⟨rfl, Below.refl _ _⟩
  · have h1 : ¬ (n : Int) < 1 := by omega
    have h2 : ¬ 1048576 < (n : Int) := by omega
    obtain ⟨L, hL⟩ : ∃ L, L = s.data.toList := ⟨_, rfl⟩
    have HL := Lib.hid hL
    rw [← hL]
    have HRL := Lib.hid (stream_len L n)
    have HG := Lib.hid (fun i (h : i < n) => stream_get L n i h)
    generalize streamL L n = R at HRL HG ⊢
    have hmk := make_u8 n (by omega)
    clear h0 hL
    go_enter Tryz.func153, Tryz.ntmps153
    go_upto_region 4 with fail
    refine nameOne (u8s (upto n R 0)) (by rw [upto_zero]) ?_
    intro W1 k5 hB
    go_upto_region 5 with fail
    refine nameOne (u8a (List.replicate 32 0)) rfl ?_
    intro W2 k6 hB2
    obtain ⟨G, hGe⟩ : ∃ G, G = w.heap.size := ⟨_, rfl⟩
    obtain ⟨H, hHe⟩ : ∃ H, H = W1.heap.size := ⟨_, rfl⟩
    rw [← hGe] at k5 ⊢
    rw [← hHe] at k6 ⊢
    have hne : H ≠ G := by have := k5.lt; omega
    have hgG : w.heap.size ≤ G := by omega
    have hgH : w.heap.size ≤ H := by have := hB.size; omega
    replace k5 := k5.below hB2 k5.lt
    replace hB := below_then hB hB2
    clear hB2 hGe hHe hmk
    go_wp2_with fail
    go_loopw [7] (fun s7 wr => ∃ (i : Nat) (h : List UInt8), i ≤ n ∧ s7 = .int .i64 (i : Int) ∧ Blk wr G 5 (u8s (upto n R i)) ∧ Blk wr H 71 (u8a h) ∧ Hid (h.length = 32 ∧ (i % 32 ≠ 0 → h = blockL L (i / 32))) ∧ Below w.heap.size w wr) (fun s7 _ => n - (intOf s7).toNat)
    case atStart => exact ⟨0, _, by omega, rfl, k5, k6, Lib.hid ⟨by simp, fun h => absurd rfl h⟩, hB⟩
    case round =>
      obtain ⟨i, h, hi, rfl, k5, k6, HH, hB⟩ := hrel
      by_cases hlt : i < n
      · have hlt' : (i : Int) < (n : Int) := by omega
        by_cases hm : i % 32 = 0
        · obtain ⟨q, hq, hq1⟩ : ∃ q : Nat, q = i / 32 ∧ q < 10 := ⟨_, rfl, by omega⟩
          obtain ⟨h2, hh2⟩ : ∃ h2, h2 = blockL L q := ⟨_, rfl⟩
          have HB2 : Hid (h2.length = 32 ∧ h2 = blockL L (i / 32)) := Lib.hid ⟨by rw [hh2]; exact block_len _ _, by rw [hh2, hq]⟩
          have m1 := Lib.hid (fun W => decimal3_q q hq1 W)
          have hds : (decS q).size ≤ 20 := decS_int (by omega)
          have m2 : Hid (Ret 64 #[.string ((s ++ ⟨#[47]⟩) ++ decS q)] (.agg (u8a h2))) := Lib.hid (fun W => by
            have hsz : ((s ++ ⟨#[47]⟩) ++ decS q).size = s.size + 1 + (decS q).size := by rw [ByteArray.size_append, ByteArray.size_append]; rfl
            have := rSum_any ((s ++ ⟨#[47]⟩) ++ decS q) W (by rw [hsz]; omega)
            have e : ((s ++ (⟨#[47]⟩ : ByteArray)) ++ decS q).data.toList = L ++ 47 :: Lib.decDigits q := by
              rw [ByteArray.data_append, ByteArray.data_append, Array.toList_append, Array.toList_append, decS_list, HL.out, List.append_assoc]; rfl
            rw [e] at this
            rw [hh2]; exact this)
          have z1 : ¬ 9223372036854775807 < s.size + 1 := by omega
          have z2 : ¬ 9223372036854775807 < s.size + 1 + (decS q).size := by omega
          have hsz2 : (u8a h2).size = 32 := u8a_len HB2.out.1
          have hsz0 : (u8a h).size = 32 := u8a_len HH.out.1
          have e1 : (i : Int).tmod 32 = 0 := by rw [Int.tmod_eq_emod_of_nonneg (by omega)]; omega
          have e2 : (i : Int) % 32 = 0 := by omega
          have e3 : (i : Int).tdiv 32 = (q : Int) := by rw [Int.tdiv_eq_ediv_of_nonneg (by omega)]; omega
          have e4 : (i : Int) / 32 = (q : Int) := by omega
          generalize decS q = dq at m1 m2 z2 hds
          clear hq hh2 hm
          go_wp2_with fail
          refine (m1.out _).mono ?_
          rintro e w1 ⟨rfl, rfl⟩
          go_wp2_with fail
          refine (m2.out _).mono ?_
          rintro e w2 ⟨rfl, hb⟩
          replace k5 := k5.below hb k5.lt
          replace k6 := k6.below hb k6.lt
          replace hB := below_then hB hb
          clear hb
          go_upto_region 10 with (refine wpList_store_rowTo rfl 71 _ _ rfl rfl H (u8a h2) rfl rfl _ _ k6 (by rw [hsz2]; kernel_rfl) (by rw [hsz2, hsz0]) (u8a_one _) ?_)
          replace k5 := k5.rowFar (Ne.symm hne) (u8a h2)
          replace k6 := k6.rowA (u8a h2)
          replace hB := below_setRow hB hgH (u8a h2)
          generalize World.setRow w2 H (u8a h2) = wx at k5 k6 hB ⊢
          clear e1 e2 e3 e4 m1 m2 HH hsz0 hsz2 z1 z2 hds
          obtain ⟨d, hd⟩ : ∃ d, R[i]? = some d := ⟨R[i]'(by rw [HRL.out]; exact hlt), List.getElem?_eq_getElem _⟩
          obtain ⟨r, hr, hr1⟩ : ∃ r : Nat, r = i % 32 ∧ r < 32 := ⟨_, rfl, by omega⟩
          have c6 : wx.cell? ⟨H, r, none⟩ = some (.int .u8 (d.toNat : Int)) := k6.u8A (by rw [HB2.out.2, hr, ← HG.out i hlt]; exact hd)
          have c5 : wx.cell? ⟨G, i, none⟩ = some (.int .u8 ((0 : UInt8).toNat : Int)) := k5.u8 (upto_cur HRL.out hlt)
          have f5 := k5.frozen i
          have e1 : (i : Int).tmod 32 = (r : Int) := by rw [Int.tmod_eq_emod_of_nonneg (by omega)]; omega
          have e2 : (i : Int) % 32 = (r : Int) := by omega
          have hr2 : (r : Int) < 32 := by omega
          have HD := Lib.hid hd
          clear hr hd
          go_wp2_with fail
          go_roundw
          case rel =>
            refine ⟨i + 1, h2, by omega, by go_num, ?_, kept_set k6 hne _ _, Lib.hid ⟨HB2.out.1, fun hne2 => by rw [HB2.out.2, show (i + 1) / 32 = i / 32 by omega]⟩, below_set hB (p := ⟨G, _, none⟩) hgG _⟩
            have k5s := k5.put8 i d
            rw [upto_set HRL.out hlt HD.out] at k5s
            exact k5s
          case measure => simp [intOf]; omega
        · have hm' : ¬ (i : Int) % 32 = 0 := by omega
          have hm1 : ((i : Int) % 32 == 0) = false := by rw [beq_eq_false_iff_ne]; exact hm'
          have hm2 : ((i : Int).tmod 32 == 0) = false := by rw [Int.tmod_eq_emod_of_nonneg (by omega)]; exact hm1
          have HB2 : Hid (h.length = 32 ∧ h = blockL L (i / 32)) := Lib.hid ⟨HH.out.1, HH.out.2 hm⟩
          obtain ⟨h2, hh2⟩ : ∃ h2, h2 = h := ⟨_, rfl⟩
          rw [← hh2] at HB2 k6
          clear hm hh2 HH
          go_upto_region 10 with fail
          obtain ⟨wx, hwx⟩ : ∃ wx, wx = wr := ⟨_, rfl⟩
          subst hwx
          clear hm' hm1 hm2
          obtain ⟨d, hd⟩ : ∃ d, R[i]? = some d := ⟨R[i]'(by rw [HRL.out]; exact hlt), List.getElem?_eq_getElem _⟩
          obtain ⟨r, hr, hr1⟩ : ∃ r : Nat, r = i % 32 ∧ r < 32 := ⟨_, rfl, by omega⟩
          have c6 : wx.cell? ⟨H, r, none⟩ = some (.int .u8 (d.toNat : Int)) := k6.u8A (by rw [HB2.out.2, hr, ← HG.out i hlt]; exact hd)
          have c5 : wx.cell? ⟨G, i, none⟩ = some (.int .u8 ((0 : UInt8).toNat : Int)) := k5.u8 (upto_cur HRL.out hlt)
          have f5 := k5.frozen i
          have e1 : (i : Int).tmod 32 = (r : Int) := by rw [Int.tmod_eq_emod_of_nonneg (by omega)]; omega
          have e2 : (i : Int) % 32 = (r : Int) := by omega
          have hr2 : (r : Int) < 32 := by omega
          have HD := Lib.hid hd
          clear hr hd
          go_wp2_with fail
          go_roundw
          case rel =>
            refine ⟨i + 1, h2, by omega, by go_num, ?_, kept_set k6 hne _ _, Lib.hid ⟨HB2.out.1, fun hne2 => by rw [HB2.out.2, show (i + 1) / 32 = i / 32 by omega]⟩, below_set hB (p := ⟨G, _, none⟩) hgG _⟩
            have k5s := k5.put8 i d
            rw [upto_set HRL.out hlt HD.out] at k5s
            exact k5s
          case measure => simp [intOf]; omega
      · obtain rfl : i = n := by omega
        rw [upto_end HRL.out] at k5
        have hcv := run_bytes_str wr G i i R k5 HRL.out
        go_wp2_with fail
        go_ret
        exact ⟨rfl, hB⟩

end Go.Proofs.YtebgmlbbilcbbaaGreatDoor
