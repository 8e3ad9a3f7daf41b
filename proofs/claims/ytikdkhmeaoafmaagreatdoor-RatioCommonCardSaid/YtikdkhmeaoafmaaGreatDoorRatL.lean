/- Lists of rational numbers: the least common denominator (Common$1, fold), Same. -/
import Derived.Test.YtikdkhmeaoafmaaGreatDoorRatY
namespace Go.Proofs.YtikdkhmeaoafmaaGreatDoor
open Go.RowKit

/-- An api.Rat as three words. -/
abbrev Rw := Bool × ByteArray × ByteArray
/-- A slice of api.Rat that reads as a list. -/
structure RDg (w : World) (A : Option Addr) (n c : Nat) (xs : List Rw) : Prop where
  len : xs.length = n
  cap : n ≤ c
  at_ : 0 < n → ∃ b o, A = some ⟨b, o, none⟩ ∧ ∀ (j : Nat) (x : Rw), xs[j]? = some x → w.cell? ⟨b, o + j * 3, none⟩ = some (.bool x.1) ∧ w.cell? ⟨b, o + j * 3 + 1, none⟩ = some (.string x.2.1) ∧ w.cell? ⟨b, o + j * 3 + 2, none⟩ = some (.string x.2.2)
/-- A slice of api.Nat that reads as a list. -/
structure SDg (w : World) (A : Option Addr) (n c : Nat) (xs : List ByteArray) : Prop where
  len : xs.length = n
  cap : n ≤ c
  at_ : 0 < n → ∃ b o, A = some ⟨b, o, none⟩ ∧ ∀ (j : Nat) (x : ByteArray), xs[j]? = some x → w.cell? ⟨b, o + j, none⟩ = some (.string x)

theorem RDg.get {w : World} {A : Option Addr} {n c k : Nat} {xs : List Rw} (h : RDg w A n c xs) (hk : k < n) :
    ∃ (b o : Nat) (g : Bool) (a d : ByteArray), A = some ⟨b, o, none⟩ ∧ xs[k]? = some (g, a, d) ∧ w.cell? ⟨b, o + k * 3, none⟩ = some (.bool g) ∧ w.cell? ⟨b, o + k * 3 + 1, none⟩ = some (.string a) ∧ w.cell? ⟨b, o + k * 3 + 2, none⟩ = some (.string d) := by
  obtain ⟨b, o, e, hc⟩ := h.at_ (by omega)
  have hl : k < xs.length := by have := h.len; omega
  obtain ⟨h1, h2, h3⟩ := hc k _ (List.getElem?_eq_getElem hl)
  exact ⟨b, o, xs[k].1, xs[k].2.1, xs[k].2.2, e, List.getElem?_eq_getElem hl, h1, h2, h3⟩
theorem RDg.below {w w' : World} {A : Option Addr} {n c : Nat} {xs : List Rw} (h : RDg w A n c xs) (hb : Below w.heap.size w w') : RDg w' A n c xs := by
  refine ⟨h.len, h.cap, fun hn => ?_⟩
  obtain ⟨b, o, e, hc⟩ := h.at_ hn
  refine ⟨b, o, e, fun j x hx => ?_⟩
  obtain ⟨h1, h2, h3⟩ := hc j x hx
  exact ⟨(hb.cell (p := ⟨b, o + j * 3, none⟩) (block_lt_of_cell h1)).trans h1, (hb.cell (p := ⟨b, o + j * 3 + 1, none⟩) (block_lt_of_cell h2)).trans h2, (hb.cell (p := ⟨b, o + j * 3 + 2, none⟩) (block_lt_of_cell h3)).trans h3⟩
theorem SDg.get {w : World} {A : Option Addr} {n c k : Nat} {xs : List ByteArray} (h : SDg w A n c xs) (hk : k < n) :
    ∃ (b o : Nat) (a : ByteArray), A = some ⟨b, o, none⟩ ∧ xs[k]? = some a ∧ w.cell? ⟨b, o + k, none⟩ = some (.string a) := by
  obtain ⟨b, o, e, hc⟩ := h.at_ (by omega)
  have hl : k < xs.length := by have := h.len; omega
  exact ⟨b, o, xs[k], e, List.getElem?_eq_getElem hl, hc k _ (List.getElem?_eq_getElem hl)⟩
theorem SDg.below {w w' : World} {A : Option Addr} {n c : Nat} {xs : List ByteArray} (h : SDg w A n c xs) (hb : Below w.heap.size w w') : SDg w' A n c xs := by
  refine ⟨h.len, h.cap, fun hn => ?_⟩
  obtain ⟨b, o, e, hc⟩ := h.at_ hn
  exact ⟨b, o, e, fun j x hx => (hb.cell (p := ⟨b, o + j, none⟩) (block_lt_of_cell (hc j x hx))).trans (hc j x hx)⟩

/-- One step to the least common denominator. -/
def lcmS (d : Nat) (x : Rw) : Nat := d * (sval x.2.2 / Nat.gcd d (sval x.2.2))
theorem lcmS_pos {d : Nat} {x : Rw} (hd : 0 < d) (hx : 0 < sval x.2.2) : 0 < lcmS d x :=
  Nat.mul_pos hd (Nat.div_pos (Nat.gcd_le_right _ hx) (Nat.gcd_pos_of_pos_left _ hd))
theorem lcmS_lt {d k : Nat} {x : Rw} (hd : d < P8 k) (hx : x.2.2.size ≤ 20) : lcmS d x < P8 (k + 20) :=
  P8_mul_lt hd (Nat.lt_of_le_of_lt (Nat.div_le_self _ _) (sval_le hx))

set_option maxRecDepth 100000 in
set_option maxHeartbeats 1000000 in
theorem Common1_q (d g a b : _) (hd : (natS d).size ≤ 400) (hb : b.size ≤ 400) (h0 : 0 < d) : Ret 65 #[.string (natS d), ratW g a b] (.string (natS (lcmS d (g, a, b)))) := by
  intro w
  have hgp : Nat.gcd d (sval b) ≠ 0 := Nat.ne_of_gt (Nat.gcd_pos_of_pos_left _ h0)
  have hbl := sval_le hb
  have hdl := sval_le hd
  rw [sval_natS] at hdl
  have hgs : (natS (Nat.gcd d (sval b))).size ≤ 1000 := Nat.le_trans (natS_size (gcd_lt hdl hbl)) (by omega)
  have p1 := ret_gcd (a := natS d) (b := b) (by omega) (by omega)
  rw [sval_natS] at p1
  have p2 := ret_quo (a := b) (by omega) hgs rfl (sval_natS _) hgp
  have p3 := ret_mul (a := natS d) (b := natS (sval b / Nat.gcd d (sval b))) (by omega) (Nat.le_trans (natS_size (Nat.lt_of_le_of_lt (Nat.div_le_self _ _) hbl)) (by omega)) rfl
  rw [sval_natS, sval_natS] at p3
  have m1 := Lib.hid p1
  have m2 := Lib.hid p2
  have m3 : Hid (Ret 68 #[.string (natS d), .string (natS (sval b / Nat.gcd d (sval b)))] (.string (natS (lcmS d (g, a, b))))) := Lib.hid p3
  clear p1 p2 p3 hgp hgs hbl hdl h0
  generalize natS (lcmS d (g, a, b)) = res at *
  generalize natS (sval b / Nat.gcd d (sval b)) = q at *
  generalize natS (sval b % Nat.gcd d (sval b)) = r at *
  generalize natS (Nat.gcd d (sval b)) = t at *
  generalize natS d = dd at *
  go_enter Tryz.func65, Tryz.ntmps65
  go_upto_region 1 with fail
  obtain ⟨W0, hW0⟩ : ∃ W0, w.alloc (.cells #[.bool g, .string a, .string b] 27) = W0 := ⟨_, rfl⟩
  have hka : R3 W0 w.heap.size g a b := hW0 ▸ Blk.new _ _ _
  have hB : Below w.heap.size w W0 := hW0 ▸ below_al (Below.refl _ _) _
  rw [hW0]
  clear hW0
  go_region_held3 (fun W : World => (W.cell? ⟨w.heap.size, 0, none⟩ = some (.bool g) ∧ W.cell? ⟨w.heap.size, 1, none⟩ = some (.string a) ∧ W.cell? ⟨w.heap.size, 2, none⟩ = some (.string b)))
    ((refine cells3 hka ?_; (repeat (first | exact Below.refl _ _ | apply Below.drew | refine below_then ?_ hz0 | refine below_then ?_ hz1))))
    (first
      | (go_at_call 67; (with_reducible refine (m1.out _).mono ?_); rintro e v0 ⟨rfl, hz0⟩)
      | (go_at_call 66; (with_reducible refine (m2.out _).mono ?_); rintro e v1 ⟨rfl, hz1⟩))
  have hl : Below W0.heap.size W0 v1 := (by (repeat (first | exact Below.refl _ _ | apply Below.drew | refine below_then ?_ hz0 | refine below_then ?_ hz1)))
  replace hB := below_then hB hl
  go_wp2_with fail
  refine (m3.out _).mono ?_
  rintro e w3 ⟨rfl, hb3⟩
  replace hB := below_then hB hb3
  go_wp2_with fail
  go_ret
  exact ⟨rfl, hB⟩

/-- What the elements of a list must be. -/
def Dens (xs : List Rw) : Prop := ∀ x ∈ xs, x.2.2.size ≤ 20 ∧ 0 < sval x.2.2
theorem fold_lcm {xs : List Rw} (hx : Dens xs) (k : Nat) : 0 < (xs.take k).foldl lcmS 1 ∧ (xs.take k).foldl lcmS 1 < P8 (1 + 20 * k) := by
  induction k with
  | zero => exact ⟨Nat.one_pos, show 1 < 256 by omega⟩
  | succ k ih =>
    by_cases hk : k < xs.length
    · rw [List.take_succ_eq_append_getElem hk, List.foldl_append]
      have hm := hx _ (List.getElem_mem hk)
      exact ⟨lcmS_pos ih.1 hm.2, lcmS_lt ih.2 hm.1⟩
    · rw [List.take_of_length_le (by omega)] at ih ⊢
      exact ⟨ih.1, P8_up ih.2 (by omega)⟩

set_option maxRecDepth 100000 in
set_option maxHeartbeats 1000000 in
theorem foldN_q (A : Option Addr) (n c : Nat) (xs : List Rw) (w : World) (h : RDg w A n c xs) (hn : n ≤ 13) (hx : Dens xs) :
    Calls Tryz.prog 64 #[.slice A n c, .string ⟨#[1]⟩, .func (.func 65) #[] #[]] w fun e w' => e = .returned (.string (natS (xs.foldl lcmS 1))) ∧ Below w.heap.size w w' := by
  have HX := Lib.hid hx
  have HL := Lib.hid (fold_lcm hx)
  clear hx
  go_enter Tryz.func64, Tryz.ntmps64
  go_wp2_with fail
  go_loopw [1, 8, 11] (fun s1 _ s11 wr => ∃ k : Nat, k ≤ n ∧ s11 = .int .i64 (k : Int) ∧ s1 = .string (natS ((xs.take k).foldl lcmS 1)) ∧ Below w.heap.size w wr) (fun _ _ s11 _ => n - (intOf s11).toNat)
  case atStart => exact ⟨0, Nat.zero_le _, rfl, rfl, Below.refl _ _⟩
  case round =>
    obtain ⟨k, hk, rfl, rfl, hbw⟩ := hrel
    by_cases hlt : k < n
    · obtain ⟨b, o, g, a, d, rfl, hxk, c0, c1, c2⟩ := (h.below hbw).get hlt
      have hdk := HX.out _ (List.mem_of_getElem? hxk)
      have hlk := HL.out k
      have HN : Hid ((xs.take (k + 1)).foldl lcmS 1 = lcmS ((xs.take k).foldl lcmS 1) (g, a, d)) := Lib.hid (by
        rw [List.take_add_one, hxk, List.foldl_append]; rfl)
      generalize (xs.take k).foldl lcmS 1 = D at *
      have m1 := Lib.hid (Common1_q D g a d (Nat.le_trans (natS_size hlk.2) (by omega)) (Nat.le_trans hdk.1 (by omega)) hlk.1)
      clear hxk hdk hlk
      go_wp2_with fail
      refine (m1.out _).mono ?_
      rintro e w1 ⟨rfl, hb1⟩
      replace hbw := below_then (below_al hbw _) hb1
      clear hb1
      go_wp2_with fail
      go_roundw
      case rel => exact ⟨k + 1, by omega, by go_num, by rw [HN.out], hbw⟩
      case measure => simp [intOf]; omega
    · obtain rfl : k = n := by omega
      have HT : Hid (xs.take k = xs) := Lib.hid (List.take_of_length_le (by rw [h.len]; exact Nat.le_refl _))
      rw [HT.out]
      go_wp2_with fail
      go_ret
      exact ⟨rfl, hbw⟩

set_option maxRecDepth 100000 in
set_option maxHeartbeats 1000000 in
theorem Same_q (A : Option Addr) (n c : Nat) (B : Option Addr) (m d : Nat) (xs : List ByteArray) (w : World) (h : SDg w A n c xs) (k : SDg w B m d xs) (hn : n ≤ 1000) :
    Calls Tryz.prog 26 #[.slice A n c, .slice B m d] w fun e w' => e = .returned (.bool true) ∧ Below w.heap.size w w' := by
  obtain rfl : m = n := by rw [← h.len, ← k.len]
  go_enter Tryz.func26, Tryz.ntmps26
  go_wp2_with fail
  go_loopw [5] (fun s5 wr => ∃ j : Nat, j ≤ m ∧ s5 = .int .i64 (j : Int) ∧ Below w.heap.size w wr) (fun s5 _ => m - (intOf s5).toNat)
  case atStart => exact ⟨0, Nat.zero_le _, rfl, Below.refl _ _⟩
  case round =>
    obtain ⟨j, hj, rfl, hbw⟩ := hrel
    by_cases hlt : j < m
    · obtain ⟨b, o, s, rfl, hs, c0⟩ := (h.below hbw).get hlt
      obtain ⟨b', o', s', rfl, hs', c1⟩ := (k.below hbw).get hlt
      obtain rfl : s = s' := Option.some.inj (hs.symm.trans hs')
      clear hs hs'
      have hj0 : (0 : Int) ≤ (j : Int) := by omega
      have hj1 : (j : Int) < (m : Int) := by omega
      go_upto_region 6 with fail
      go_region
      all_goals go_wp2_with fail
      all_goals go_roundw
      case rel => exact ⟨j + 1, by omega, by go_num, hbw.drew⟩
      case measure => simp [intOf]; omega
    · obtain rfl : j = m := by omega
      go_wp2_with fail
      go_ret
      exact ⟨rfl, hbw⟩

end Go.Proofs.YtikdkhmeaoafmaaGreatDoor
