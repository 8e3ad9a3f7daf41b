/- Slices of bytes. -/
import Derived.Test.YtebgmlbbilcbbaaGreatDoorRefThree
namespace Go.Proofs.YtebgmlbbilcbbaaGreatDoor
open Go.RowKit

/-- A slice of bytes that reads as a list. -/
structure BDg (w : World) (A : Option Addr) (n c : Nat) (l : List UInt8) : Prop where
  len : l.length = n
  cap : n ≤ c
  at_ : 0 < n → ∃ b o, A = some ⟨b, o, none⟩ ∧ ∀ (j : Nat) (d : UInt8), l[j]? = some d → w.cell? ⟨b, o + j, none⟩ = some (.int .u8 (d.toNat : Int))

theorem BDg.below {w w' : World} {A : Option Addr} {n c : Nat} {l : List UInt8} (h : BDg w A n c l) (hb : Below w.heap.size w w') : BDg w' A n c l := by
  refine ⟨h.len, h.cap, fun hn => ?_⟩
  obtain ⟨b, o, e, hc⟩ := h.at_ hn
  refine ⟨b, o, e, fun j d hd => ?_⟩
  have h1 := hc j d hd
  exact (hb.cell (p := ⟨b, o + j, none⟩) (block_lt_of_cell h1)).trans h1
theorem BDg.take {w : World} {A : Option Addr} {n c m : Nat} {l : List UInt8} (h : BDg w A n c l) (hm : m ≤ n) : BDg w A m c (l.take m) := by
  have hl := h.len
  refine ⟨by rw [List.length_take]; omega, by have := h.cap; omega, fun hn => ?_⟩
  obtain ⟨b, o, e, hc⟩ := h.at_ (by omega)
  refine ⟨b, o, e, fun j d hd => hc j d ?_⟩
  rw [List.getElem?_take] at hd
  split at hd
  · exact hd
  · cases hd

/-- A slice of bytes turned into a number. -/
theorem run_bdg_nat {w : World} {A : Option Addr} {n c : Nat} {l : List UInt8} (h : BDg w A n c l) :
    (convert 22 25 (.slice A n c)).run Tryz.prog w = .ok (.string ⟨l.toArray⟩) w := by
  rw [run_convert_bytes_string w 22 25 5 _ _ _ Tryz.underlying22 Tryz.underlying5 Tryz.underlying25]
  rcases Nat.eq_zero_or_pos n with h0 | h0
  · subst h0
    have : l = [] := List.eq_nil_of_length_eq_zero h.len
    subst this
    cases A <;> rfl
  · obtain ⟨b, o, rfl, hc⟩ := h.at_ h0
    have hld := run_loadCells_list (P := Tryz.prog) w ⟨b, o, none⟩ ((l.map fun b : UInt8 => (b.toNat : Int)).map (Value.int .u8)) (fun j v hv => by
      rw [List.map_map, List.getElem?_map] at hv
      obtain ⟨d, hd, rfl⟩ := Option.map_eq_some_iff.1 hv
      rw [add_addr]
      exact hc j d hd)
    rw [List.length_map, List.length_map, h.len] at hld
    rw [run_bytesToString w _ n c _ hld, push_all]
    simp


end Go.Proofs.YtebgmlbbilcbbaaGreatDoor
