import Derived.Test.YthiogjpjkdnbjaaGreatDoorWords
namespace Go.Proofs.YthiogjpjkdnbjaaGreatDoor
open Go.RowKit

/-- What trim returns. -/
def Trimmed (A : Option Addr) (n c : Nat) (xs : List Nat) (e : Ending) : Prop :=
  ∃ m, m ≤ n ∧ e = .returned (.slice A m c) ∧ (∀ j d : Nat, m ≤ j → xs[j]? = some d → d = 0) ∧ (0 < m → ∃ d, xs[m - 1]? = some d ∧ d ≠ 0)

set_option maxHeartbeats 400000 in
theorem trim_any (A : Option Addr) (n c : Nat) (xs : List Nat) (w : World) (h : Dig w A n c xs) (hn : n ≤ 100000000) :
    Calls Tryz.prog 69 #[.slice A n c] w fun e w' => Trimmed A n c xs e ∧ w = w' := by
  have hcap := h.cap
  go_enter Tryz.func69, Tryz.ntmps69
  go_wp2
  go_loop [0] (fun t => ∃ m : Nat, m ≤ n ∧ t = .slice A m c ∧ ∀ j d : Nat, m ≤ j → xs[j]? = some d → d = 0) (fun t => lenOf t)
  case atStart => exact ⟨n, Nat.le_refl _, rfl, fun j d hj hd => by have := h.len; have := (List.getElem?_eq_some_iff.1 hd).1; omega⟩
  case round =>
    obtain ⟨m, hm, rfl, hz⟩ := hrel
    have HZ := Lib.hid hz
    clear hz
    by_cases h0 : 0 < m
    · obtain ⟨b, o, d, rfl, hd, hlt, hc⟩ := h.get (k := m - 1) (by omega)
      have HD := Lib.hid hd
      clear hd
      by_cases hd0 : d = 0
      · subst hd0
        go_wp2
        go_round
        case rel =>
          refine ⟨m - 1, by omega, rfl, fun j d hj hd => ?_⟩
          by_cases e : j = m - 1
          · subst e; have := HD.out; rw [this] at hd; simpa using hd.symm
          · exact HZ.out j d (by omega) hd
        case measure => simp [lenOf]; omega
      · have hb : ((d : Int) == 0) = false := by simpa using hd0
        go_wp2
        go_ret
        exact ⟨⟨m, hm, rfl, HZ.out, fun _ => ⟨d, HD.out, hd0⟩⟩, rfl⟩
    · obtain rfl : m = 0 := by omega
      go_wp2
      go_ret
      exact ⟨⟨0, hm, rfl, HZ.out, fun h => absurd h (by omega)⟩, rfl⟩

/-- What a function that makes trimmed digits returns. -/
def Gives (w : World) (v : Nat) (e : Ending) : Prop := ∃ A m c zs, e = .returned (.slice A m c) ∧ Dig w A m c zs ∧ Trim zs ∧ val zs = v

theorem trim_gives (A : Option Addr) (n c : Nat) (xs : List Nat) (w : World) (h : Dig w A n c xs) (hn : n ≤ 100000000) :
    Calls Tryz.prog 69 #[.slice A n c] w fun e w' => Gives w (val xs) e ∧ w = w' := by
  refine (trim_any A n c xs w h hn).mono ?_
  rintro e w' ⟨⟨m, hm, rfl, hz, hd⟩, rfl⟩
  refine ⟨⟨A, m, c, xs.take m, rfl, h.take hm, fun h0 => ?_, val_trim hz⟩, rfl⟩
  have hl := h.len
  rw [List.length_take, Nat.min_eq_left (by omega)] at h0 ⊢
  obtain ⟨d, hd, hne⟩ := hd h0
  exact ⟨d, by rw [List.getElem?_take, if_pos (by omega)]; exact hd, hne⟩

end Go.Proofs.YthiogjpjkdnbjaaGreatDoor
