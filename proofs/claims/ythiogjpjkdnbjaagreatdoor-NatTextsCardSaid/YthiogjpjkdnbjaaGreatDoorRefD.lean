/- Words for slices of ints that read as digits to the base 2^24; the reference's trim and cmp. The words are printed from those for slices of uint32. -/
import Derived.Test.YthiogjpjkdnbjaaGreatDoorRefC
import Derived.Test.YthiogjpjkdnbjaaGreatDoorNatC
import Derived.Laws.AppendOwn
import Derived.IntWalk
namespace Go.Proofs.YthiogjpjkdnbjaaGreatDoor
open Go.RowKit

/-- A slice of int whose cells read as the digits xs. -/
structure IDg (w : World) (A : Option Addr) (n c : Nat) (xs : List Nat) : Prop where
  len : xs.length = n
  cap : n ≤ c
  lt : R.Lt24 xs
  at_ : 0 < n → ∃ b o, A = some ⟨b, o, none⟩ ∧ ∀ j d : Nat, xs[j]? = some d → w.cell? ⟨b, o + j, none⟩ = some (.int .i64 (d : Int))

theorem IDg.get {w : World} {A : Option Addr} {n c k : Nat} {xs : List Nat} (h : IDg w A n c xs) (hk : k < n) :
    ∃ b o d, A = some ⟨b, o, none⟩ ∧ xs[k]? = some d ∧ d < 16777216 ∧ w.cell? ⟨b, o + k, none⟩ = some (.int .i64 (d : Int)) := by
  obtain ⟨b, o, e, hc⟩ := h.at_ (by omega)
  have hl : k < xs.length := by have := h.len; omega
  exact ⟨b, o, xs[k], e, List.getElem?_eq_getElem hl, h.lt _ _ (List.getElem?_eq_getElem hl), hc k _ (List.getElem?_eq_getElem hl)⟩

theorem IDg.below {w w' : World} {A : Option Addr} {n c : Nat} {xs : List Nat} (h : IDg w A n c xs) (hb : Below w.heap.size w w') : IDg w' A n c xs := by
  refine ⟨h.len, h.cap, h.lt, fun hn => ?_⟩
  obtain ⟨b, o, e, hc⟩ := h.at_ hn
  refine ⟨b, o, e, fun j d hd => ?_⟩
  have h1 := hc j d hd
  exact (hb.cell (p := ⟨b, o + j, none⟩) (block_lt_of_cell h1)).trans h1

theorem IDg.nil_ (w : World) (A : Option Addr) (c : Nat) : IDg w A 0 c [] := ⟨rfl, Nat.zero_le _, R.Lt24.nil, fun h => absurd h (by omega)⟩

theorem IDg.take {w : World} {A : Option Addr} {n c m : Nat} {xs : List Nat} (h : IDg w A n c xs) (hm : m ≤ n) : IDg w A m c (xs.take m) := by
  have hl := h.len
  refine ⟨by rw [List.length_take]; omega, by have := h.cap; omega, h.lt.take m, fun hn => ?_⟩
  obtain ⟨b, o, e, hc⟩ := h.at_ (by omega)
  refine ⟨b, o, e, fun j d hd => hc j d ?_⟩
  rw [List.getElem?_take] at hd
  split at hd
  · exact hd
  · cases hd


theorem idg_al {w : World} {A : Option Addr} {n c : Nat} {xs : List Nat} (h : IDg w A n c xs) (o : Obj) : IDg (w.alloc o) A n c xs := h.below ((Below.refl _ _).alloc (Nat.le_refl _) _)
theorem idg_drewN {w : World} {A : Option Addr} {n c : Nat} {xs : List Nat} (h : IDg w A n c xs) (k : Nat) : IDg (w.drewN k) A n c xs := ⟨h.len, h.cap, h.lt, h.at_⟩

/-- Digits as values. -/
def i64s (xs : List Nat) : List Value := xs.map fun d : Nat => Value.int .i64 (d : Int)
theorem i64s_len (xs : List Nat) : (i64s xs).length = xs.length := by simp [i64s]
theorem i64s_snoc (xs : List Nat) (d : Nat) : i64s xs ++ [.int .i64 (d : Int)] = i64s (xs ++ [d]) := by simp [i64s]
theorem i64s_get {xs : List Nat} {j d : Nat} (h : xs[j]? = some d) : (i64s xs)[j]? = some (.int .i64 (d : Int)) := by simp [i64s, h]

/-- A slice that the call made by append; it holds the digits xs. -/
def Own24 (B : Nat) (w : World) (v : Value) (xs : List Nat) : Prop := w.ownsRow B 3 1 v xs.length (i64s xs)
theorem Own24.nil_ (B : Nat) (w : World) : Own24 B w (.slice none 0 0) [] := ⟨rfl, .inl ⟨rfl, rfl⟩⟩
theorem Own24.dig {B : Nat} {w : World} {v : Value} {xs : List Nat} (h : Own24 B w v xs) (hl : R.Lt24 xs) : ∃ A c, v = .slice A xs.length c ∧ IDg w A xs.length c xs := by
  rcases h.2 with ⟨rfl, hn⟩ | ⟨g, cap, cur, rfl, _, hh, hc, _, _, ht⟩
  · refine ⟨none, 0, by rw [hn], rfl, by omega, hl, fun h0 => absurd h0 (by omega)⟩
  · refine ⟨_, cap, rfl, rfl, hc, hl, fun _ => ⟨g, 0, rfl, fun j d hd => ?_⟩⟩
    have h1 := h.cells (g := g) rfl j _ (i64s_get hd)
    rwa [add_addr] at h1

theorem int_info : (Tryz.prog.info? 3).map (fun i => (i.zero, i.size, i.bytes)) = some (some (.int .i64 0), 1, 8) := by kernel_rfl

/-- What a function returns that makes a number's digits. -/
def GivesI (w' : World) (v : Nat) (e : Ending) : Prop := ∃ (A : Option Addr) (n c : Nat) (xs : List Nat), e = .returned (.slice A n c) ∧ IDg w' A n c xs ∧ R.Trim xs ∧ R.val xs = v

set_option maxHeartbeats 400000 in
theorem rTrim (A : Option Addr) (n c : Nat) (xs : List Nat) (w : World) (h : IDg w A n c xs) (hn : n ≤ 100000000) :
    Calls Tryz.prog 49 #[.slice A n c] w fun e w' => Trimmed A n c xs e ∧ w = w' := by
  have hcap := h.cap
  go_enter Tryz.func49, Tryz.ntmps49
  go_wp2
  go_loop [0] (fun t => ∃ m : Nat, m ≤ n ∧ t = .slice A m c ∧ ∀ j d : Nat, m ≤ j → xs[j]? = some d → d = 0) (fun t => lenOf t)
  case atStart => exact ⟨n, Nat.le_refl _, rfl, fun j d hj hd => by have := h.len; have := (List.getElem?_eq_some_iff.1 hd).1; omega⟩
  case round =>
    obtain ⟨m, hm, rfl, hz⟩ := hrel
    have HZ := Lib.hid hz
    clear hz
    by_cases h0 : 0 < m
    · obtain ⟨b, o, d, rfl, hd, hlt, hc⟩ := h.get (k := m - 1) (by omega)
      have HD := Lib.hid hd
      clear hd
      by_cases hd0 : d = 0
      · subst hd0
        go_wp2
        go_round
        case rel =>
          refine ⟨m - 1, by omega, rfl, fun j d hj hd => ?_⟩
          by_cases e : j = m - 1
          · subst e; have := HD.out; rw [this] at hd; simpa using hd.symm
          · exact HZ.out j d (by omega) hd
        case measure => simp [lenOf]; omega
      · have hb : ((d : Int) == 0) = false := by simpa using hd0
        go_wp2
        go_ret
        exact ⟨⟨m, hm, rfl, HZ.out, fun _ => ⟨d, HD.out, hd0⟩⟩, rfl⟩
    · obtain rfl : m = 0 := by omega
      go_wp2
      go_ret
      exact ⟨⟨0, hm, rfl, HZ.out, fun h => absurd h (by omega)⟩, rfl⟩

theorem rTrim_gives (A : Option Addr) (n c : Nat) (xs : List Nat) (w : World) (h : IDg w A n c xs) (hn : n ≤ 100000000) :
    Calls Tryz.prog 49 #[.slice A n c] w fun e w' => GivesI w (R.val xs) e ∧ w = w' := by
  refine (rTrim A n c xs w h hn).mono ?_
  rintro e w' ⟨⟨m, hm, rfl, hz, hd⟩, rfl⟩
  refine ⟨⟨A, m, c, xs.take m, rfl, h.take hm, fun h0 => ?_, R.val_trim hz⟩, rfl⟩
  have hl := h.len
  rw [List.length_take, Nat.min_eq_left (by omega)] at h0 ⊢
  obtain ⟨d, hd, hne⟩ := hd h0
  exact ⟨d, by rw [List.getElem?_take, if_pos (by omega)]; exact hd, hne⟩

/-- A sign that tells how two numbers compare. -/
def Signs (r : Int) (a b : Nat) : Prop := (a < b → r < 0) ∧ (a = b → r = 0) ∧ (b < a → 0 < r)

set_option maxHeartbeats 400000 in
theorem rcmp (A : Option Addr) (n c : Nat) (xs : List Nat) (B : Option Addr) (m d : Nat) (ys : List Nat) (w : World) (h : IDg w A n c xs) (k : IDg w B m d ys) (hn : n ≤ 1000000) (hm : m ≤ 1000000) (tx : R.Trim xs) (ty : R.Trim ys) :
    Calls Tryz.prog 50 #[.slice A n c, .slice B m d] w fun e w' => (∃ r : Int, e = .returned (.int .i64 r) ∧ Signs r (R.val xs) (R.val ys)) ∧ Below w.heap.size w w' := by
  have lx := h.len
  have ly := k.len
  have LX := Lib.hid lx
  have LY := Lib.hid ly
  rcases Nat.lt_trichotomy n m with hlt | heq | hgt
  · have hv := ty.lt_of_len h.lt (by omega : xs.length < ys.length)
    clear lx ly
    have hb : ((n : Int) != (m : Int)) = true := by simp; omega
    go_enter Tryz.func50, Tryz.ntmps50
    go_wp2_with fail
    go_ret
    exact ⟨⟨_, rfl, fun _ => by omega, fun e => by omega, fun e => by omega⟩, Below.refl _ _⟩
  · subst heq
    clear lx ly
    go_enter Tryz.func50, Tryz.ntmps50
    go_wp2_with fail
    go_loopw [5] (fun s5 wr => ∃ i : Nat, i ≤ n ∧ s5 = .int .i64 ((i : Int) - 1) ∧ Hid (xs.drop i = ys.drop i) ∧ Below w.heap.size w wr) (fun s5 _ => (intOf s5 + 1).toNat)
    case atStart => exact ⟨n, Nat.le_refl _, rfl, by show _ = _; rw [List.drop_of_length_le (by rw [LX.out]; omega), List.drop_of_length_le (by rw [LY.out]; omega)], Below.refl _ _⟩
    case round =>
      obtain ⟨i, hi, rfl, HD, hb⟩ := hrel
      by_cases h0 : 0 < i
      · obtain ⟨b, o, x, rfl, hx, hxl, hxc⟩ := (h.below hb).get (k := i - 1) (by omega)
        obtain ⟨b2, o2, y, rfl, hy, hyl, hyc⟩ := (k.below hb).get (k := i - 1) (by omega)
        have HX := Lib.hid hx
        have HY := Lib.hid hy
        clear hx hy
        rcases Nat.lt_trichotomy x y with c1 | c1 | c1
        · have hne : ((x : Int) != (y : Int)) = true := by simp; omega
          have hwr : IntKind.i64.wrap ((x : Int) - (y : Int)) = (x : Int) - (y : Int) := IntWalk.i64_in _ (by omega)
          go_wp2_with fail
          go_quiet (fail)
          go_wp2_with fail
          go_quiet (fail)
          go_wp2_with fail
          go_ret
          have hv := R.val_lt_at HX.out HY.out (by rw [show i - 1 + 1 = i by omega]; exact HD.out) h.lt c1
          exact ⟨⟨_, rfl, fun _ => by omega, fun e => by omega, fun e => by omega⟩, below_drewN (below_drewN hb _) _⟩
        · subst c1
          go_wp2_with fail
          go_quiet (fail)
          go_wp2_with fail
          go_roundw
          case rel =>
            refine ⟨i - 1, by omega, by go_num, ?_, below_drewN hb _⟩
            show _ = _
            rw [drop_cons HX.out, drop_cons HY.out, show i - 1 + 1 = i by omega, HD.out]
          case measure => simp [intOf]; omega
        · have hne : ((x : Int) != (y : Int)) = true := by simp; omega
          have hwr : IntKind.i64.wrap ((x : Int) - (y : Int)) = (x : Int) - (y : Int) := IntWalk.i64_in _ (by omega)
          go_wp2_with fail
          go_quiet (fail)
          go_wp2_with fail
          go_quiet (fail)
          go_wp2_with fail
          go_ret
          have hv := R.val_lt_at HY.out HX.out (by rw [show i - 1 + 1 = i by omega]; exact HD.out.symm) k.lt c1
          exact ⟨⟨_, rfl, fun _ => by omega, fun e => by omega, fun e => by omega⟩, below_drewN (below_drewN hb _) _⟩
      · obtain rfl : i = 0 := by omega
        go_wp2_with fail
        go_ret
        have hv : xs = ys := HD.out
        rw [hv]
        exact ⟨⟨_, rfl, fun e => by omega, fun e => rfl, fun e => by omega⟩, hb⟩
  · have hv := tx.lt_of_len k.lt (by omega : ys.length < xs.length)
    clear lx ly
    have hb : ((n : Int) != (m : Int)) = true := by simp; omega
    go_enter Tryz.func50, Tryz.ntmps50
    go_wp2_with fail
    go_ret
    exact ⟨⟨_, rfl, fun _ => by omega, fun e => by omega, fun e => by omega⟩, Below.refl _ _⟩

end Go.Proofs.YthiogjpjkdnbjaaGreatDoor
