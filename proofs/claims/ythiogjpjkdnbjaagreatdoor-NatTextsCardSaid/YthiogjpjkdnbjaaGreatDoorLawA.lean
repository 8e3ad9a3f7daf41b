/- Made; the law NatProducts: it returns true. -/
import Derived.Test.YthiogjpjkdnbjaaGreatDoorSanity
import Derived.Test.YthiogjpjkdnbjaaGreatDoorRefK
namespace Go.Proofs.YthiogjpjkdnbjaaGreatDoor
open Go.RowKit

/-- A slice of bytes that reads as a list. -/
structure BDg (w : World) (A : Option Addr) (n c : Nat) (l : List UInt8) : Prop where
  len : l.length = n
  cap : n ≤ c
  at_ : 0 < n → ∃ b o, A = some ⟨b, o, none⟩ ∧ ∀ (j : Nat) (d : UInt8), l[j]? = some d → w.cell? ⟨b, o + j, none⟩ = some (.int .u8 (d.toNat : Int))

theorem BDg.below {w w' : World} {A : Option Addr} {n c : Nat} {l : List UInt8} (h : BDg w A n c l) (hb : Below w.heap.size w w') : BDg w' A n c l := by
  refine ⟨h.len, h.cap, fun hn => ?_⟩
  obtain ⟨b, o, e, hc⟩ := h.at_ hn
  refine ⟨b, o, e, fun j d hd => ?_⟩
  have h1 := hc j d hd
  exact (hb.cell (p := ⟨b, o + j, none⟩) (block_lt_of_cell h1)).trans h1
theorem BDg.take {w : World} {A : Option Addr} {n c m : Nat} {l : List UInt8} (h : BDg w A n c l) (hm : m ≤ n) : BDg w A m c (l.take m) := by
  have hl := h.len
  refine ⟨by rw [List.length_take]; omega, by have := h.cap; omega, fun hn => ?_⟩
  obtain ⟨b, o, e, hc⟩ := h.at_ (by omega)
  refine ⟨b, o, e, fun j d hd => hc j d ?_⟩
  rw [List.getElem?_take] at hd
  split at hd
  · exact hd
  · cases hd

/-- A slice of bytes turned into a number. -/
theorem run_bdg_nat {w : World} {A : Option Addr} {n c : Nat} {l : List UInt8} (h : BDg w A n c l) :
    (convert 22 24 (.slice A n c)).run Tryz.prog w = .ok (.string ⟨l.toArray⟩) w := by
  rw [run_convert_bytes_string w 22 24 5 _ _ _ Tryz.underlying22 Tryz.underlying5 Tryz.underlying24]
  rcases Nat.eq_zero_or_pos n with h0 | h0
  · subst h0
    have : l = [] := List.eq_nil_of_length_eq_zero h.len
    subst this
    cases A <;> rfl
  · obtain ⟨b, o, rfl, hc⟩ := h.at_ h0
    have hld := run_loadCells_list (P := Tryz.prog) w ⟨b, o, none⟩ ((l.map fun b : UInt8 => (b.toNat : Int)).map (Value.int .u8)) (fun j v hv => by
      rw [List.map_map, List.getElem?_map] at hv
      obtain ⟨d, hd, rfl⟩ := Option.map_eq_some_iff.1 hv
      rw [add_addr]
      exact hc j d hd)
    rw [List.length_map, List.length_map, h.len] at hld
    rw [run_bytesToString w _ n c _ hld, push_all]
    simp

/-- The number that Made makes. -/
def madeS (l : List UInt8) : ByteArray := ⟨(l.take 40).toArray⟩
theorem madeS_size (l : List UInt8) : (madeS l).size ≤ 40 := by show (l.take 40).toArray.size ≤ 40; simp; omega

set_option maxHeartbeats 400000 in
theorem rMade (A : Option Addr) (n c : Nat) (l : List UInt8) (w : World) (h : BDg w A n c l) (hn : n ≤ 9223372036854775807) :
    Calls Tryz.prog 14 #[.slice A n c] w fun e w' => e = .returned (.string (madeS l)) ∧ w = w' := by
  obtain ⟨m, hm⟩ : ∃ m, m = min n 40 := ⟨_, rfl⟩
  have hmn : m ≤ n := by omega
  have hcap := h.cap
  have hcv := run_bdg_nat (h.take hmn)
  have hmin : min (n : Int) 40 = (m : Int) := by omega
  have HS : Hid ((⟨(l.take m).toArray⟩ : ByteArray) = madeS l) := Lib.hid (by
    have e : l.take m = l.take 40 := by
      rw [hm, ← h.len]
      rcases Nat.le_total l.length 40 with h1 | h1
      · rw [Nat.min_eq_left h1, List.take_of_length_le (Nat.le_refl _), List.take_of_length_le h1]
      · rw [Nat.min_eq_right h1]
    unfold madeS
    rw [e])
  clear hm
  go_enter Tryz.func14, Tryz.ntmps14
  go_wp2_with fail
  go_ret
  exact ⟨by rw [← HS.out]; rfl, rfl⟩

set_option maxRecDepth 100000 in
set_option maxHeartbeats 1000000 in
theorem NatProducts_any (A : Option Addr) (n c : Nat) (l : List UInt8) (B : Option Addr) (m d : Nat) (k : List UInt8) (w : World) (ht : Pow10 w) (hx : BDg w A n c l) (hy : BDg w B m d k) (hn : n ≤ 9223372036854775807) (hm : m ≤ 9223372036854775807) :
    Calls Tryz.prog 7 #[.slice A n c, .slice B m d] w fun e w' => e = .returned (.bool true) ∧ Below w.heap.size w w' := by
  have HT := Lib.hid ht
  clear ht
  have ha := madeS_size l
  have hb := madeS_size k
  go_enter Tryz.func7, Tryz.ntmps7
  go_wp2_with fail
  refine (sanity_any _ HT.out).mono ?_
  rintro e w1 ⟨rfl, hB⟩
  go_wp2_with fail
  refine (rMade _ _ _ l _ (hx.below hB) hn).mono ?_
  rintro e w' ⟨rfl, rfl⟩
  go_wp2_with fail
  refine (rMade _ _ _ k _ (hy.below hB) hm).mono ?_
  rintro e w' ⟨rfl, rfl⟩
  obtain ⟨a, hae⟩ : ∃ a, a = madeS l := ⟨_, rfl⟩
  obtain ⟨b, hbe⟩ : ∃ b, b = madeS k := ⟨_, rfl⟩
  rw [← hae] at ha ⊢
  rw [← hbe] at hb ⊢
  clear hae hbe
  have heq : ∀ s : ByteArray, (s.toList == s.toList) = true := fun s => by simp
  go_wp2_with (first
    | (go_at_call 30; (with_reducible refine (Mul_any _ _ _ (by omega) (by omega)).mono ?_); rintro e w' ⟨rfl, hb'⟩; replace hB := below_then hB hb'; clear hb')
    | (go_at_call 16; (with_reducible refine (rMul _ _ _ (by omega) (by omega)).mono ?_); rintro e w' ⟨rfl, hb'⟩; replace hB := below_then hB hb'; clear hb'))
  go_ret
  exact ⟨rfl, hB⟩

end Go.Proofs.YthiogjpjkdnbjaaGreatDoor
