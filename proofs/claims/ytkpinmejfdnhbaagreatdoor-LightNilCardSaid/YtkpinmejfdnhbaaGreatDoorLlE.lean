/- The law of too few votes. -/
import Derived.Test.YtkpinmejfdnhbaaGreatDoorLkS
namespace Go.Proofs.YtkpinmejfdnhbaaGreatDoor
open Go.RowKit Go.Shelf
attribute [local go_sem] Oper.semAt_some

theorem Made_two (A : Option Addr) (n c : Nat) (l : List Int) (B : Option Addr) (m e : Nat) (k : List Int) (hI1 : ∀ x ∈ l, I64 x) (hI2 : ∀ x ∈ k, I64 x) (hn : n ≤ 9223372036854775807) (hm : m ≤ 9223372036854775807) (w : World) (h1 : RowI w A n c l) (h2 : RowI w B m e k) :
 Calls Tryz.prog 13 #[.slice (some ⟨w.heap.size, 0, none⟩) 2 2] (w.alloc (.cells #[.slice A n c, .slice B m e] 25)) (ChainPost 2 w) := by
 have hB : Below w.heap.size w (w.alloc (.cells #[.slice A n c, .slice B m e] 25)) := below_al (Below.refl _ _) _
 have k3 := Blk.new w 25 #[.slice A n c, .slice B m e]
 have r3 : RowV (w.alloc (.cells #[.slice A n c, .slice B m e] 25)) (some ⟨w.heap.size, 0, none⟩) 2 2 [.slice A n c, .slice B m e] := by
  refine ⟨rfl, Nat.le_refl _, fun _ => ⟨_, 0, rfl, fun j i x u hx hu => ?_⟩⟩
  have hi : i < 1 := (List.getElem?_eq_some_iff.1 hu).1
  obtain rfl : i = 0 := by omega
  obtain rfl : x = u := Option.some.inj hu
  have hj : j < 2 := (List.getElem?_eq_some_iff.1 hx).1
  rcases (show j = 0 ∨ j = 1 by omega) with rfl | rfl
  ·exact (k3.cell 0).trans hx
  ·exact (k3.cell 1).trans hx
 have hl1 := h1.len
 have hl2 := h2.len
 have r4 : RowsI (w.alloc (.cells #[.slice A n c, .slice B m e] 25)) [.slice A n c, .slice B m e] [l, k] := by
  refine ⟨rfl, fun i v x hv hx => ?_⟩
  have hi : i < 2 := (List.getElem?_eq_some_iff.1 hv).1
  rcases (show i = 0 ∨ i = 1 by omega) with rfl | rfl
  ·cases hv; cases hx; rw [hl1]; exact ⟨A, c, rfl, h1.below hB⟩
  ·cases hv; cases hx; rw [hl2]; exact ⟨B, e, rfl, h2.below hB⟩
 refine (Made_q (some ⟨w.heap.size, 0, none⟩) 2 2 _ [l, k] (by omega) (fun x hx => ?_) (fun x hx => ?_) _ r3 r4).mono ?_
 ·simp only [List.mem_cons, List.not_mem_nil, or_false] at hx
  rcases hx with rfl | rfl
  ·exact hI1
  ·exact hI2
 ·simp only [List.mem_cons, List.not_mem_nil, or_false] at hx
  rcases hx with rfl | rfl
  ·omega
  ·omega
 rintro e' w' ⟨vG, vH, gs, ys, es, hs, K, rfl, q1, q2, q3, q4, q5, q6⟩
 exact ⟨vG, vH, gs, ys, es, hs, K, rfl, q1.le hB.size, q2.le hB.size, q3.le hB.size, q4, q5, below_then hB q6⟩
end Go.Proofs.YtkpinmejfdnhbaaGreatDoor
