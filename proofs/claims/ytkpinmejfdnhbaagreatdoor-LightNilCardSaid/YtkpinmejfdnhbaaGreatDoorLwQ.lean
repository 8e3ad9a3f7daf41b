/- Joined by a program: LkQ, LkR. -/
import Derived.Test.YtkpinmejfdnhbaaGreatDoorLwP
namespace Go.Proofs.YtkpinmejfdnhbaaGreatDoor
open Go.RowKit Go.Shelf
attribute [local go_sem] Oper.semAt_some

end Go.Proofs.YtkpinmejfdnhbaaGreatDoor
namespace Go.Proofs.YtkpinmejfdnhbaaGreatDoor
open Go.RowKit Go.Shelf
attribute [local go_sem] Oper.semAt_some

theorem ChainIn.le {B B' : Nat} {w : World} {gs : List Gc} {xs : List Hc} {es : List Ep} {hs : List Hdr} (h : ChainIn B' w gs xs es hs) (hB : B ≤ B') : ChainIn B w gs xs es hs :=
 ⟨h.gl, fun i q e hq he => by
  obtain ⟨q1, q2, q3, q4, vs, q5, q6⟩ := h.g i q e hq he
  exact ⟨q1.le hB, q2.le hB, q3.le hB, q4.le hB, vs, q5.le hB, q6.len, fun i v l hv hl => (q6.one i v l hv hl).le hB⟩, h.hl, fun i x y hx hy => (h.h i x y hx hy).le hB⟩
theorem Made_lit (a b : Int) (ha : I64 a) (hb : I64 b) (w : World) :
 Calls Tryz.prog 13 #[.slice (some ⟨w.heap.size + 1 + 1, 0, none⟩) 2 2] (((w.alloc (.cells #[.int .i64 a] 3)).alloc (.cells #[.int .i64 b] 3)).alloc (.cells #[.slice (some ⟨w.heap.size, 0, none⟩) 1 1, .slice (some ⟨w.heap.size + 1, 0, none⟩) 1 1] 25)) (ChainPost 2 w) := by
 obtain ⟨W, hW⟩ : ∃ W, W = ((w.alloc (.cells #[.int .i64 a] 3)).alloc (.cells #[.int .i64 b] 3)).alloc (.cells #[.slice (some ⟨w.heap.size, 0, none⟩) 1 1, .slice (some ⟨w.heap.size + 1, 0, none⟩) 1 1] 25) := ⟨_, rfl⟩
 have k1 : Blk W w.heap.size 3 #[.int .i64 a] := by rw [hW]; exact ((Blk.new _ _ _).alloc _).alloc _
 have k2 : Blk W (w.heap.size + 1) 3 #[.int .i64 b] := by
  rw [hW]
  have := (Blk.new (w.alloc (.cells #[.int .i64 a] 3)) 3 #[.int .i64 b]).alloc (.cells #[.slice (some ⟨w.heap.size, 0, none⟩) 1 1, .slice (some ⟨w.heap.size + 1, 0, none⟩) 1 1] 25)
  rwa [World.size_alloc] at this
 have k3 : Blk W (w.heap.size + 1 + 1) 25 #[.slice (some ⟨w.heap.size, 0, none⟩) 1 1, .slice (some ⟨w.heap.size + 1, 0, none⟩) 1 1] := by
  rw [hW]
  have := Blk.new ((w.alloc (.cells #[.int .i64 a] 3)).alloc (.cells #[.int .i64 b] 3)) 25 #[.slice (some ⟨w.heap.size, 0, none⟩) 1 1, .slice (some ⟨w.heap.size + 1, 0, none⟩) 1 1]
  rwa [World.size_alloc, World.size_alloc] at this
 have hB : Below w.heap.size w W := by rw [hW]; exact below_al (below_al (below_al (Below.refl _ _) _) _) _
 rw [← hW]
 have r1 : RowI W (some ⟨w.heap.size, 0, none⟩) 1 1 [a] := rowI_new (xs := [a]) k1 rfl
 have r2 : RowI W (some ⟨w.heap.size + 1, 0, none⟩) 1 1 [b] := rowI_new (xs := [b]) k2 rfl
 have r3 : RowV W (some ⟨w.heap.size + 1 + 1, 0, none⟩) 2 2 [.slice (some ⟨w.heap.size, 0, none⟩) 1 1, .slice (some ⟨w.heap.size + 1, 0, none⟩) 1 1] := by
  refine ⟨rfl, Nat.le_refl _, fun _ => ⟨_, 0, rfl, fun j i x u hx hu => ?_⟩⟩
  have hi : i < 1 := (List.getElem?_eq_some_iff.1 hu).1
  obtain rfl : i = 0 := by omega
  obtain rfl : x = u := Option.some.inj hu
  have hj : j < 2 := (List.getElem?_eq_some_iff.1 hx).1
  rcases (show j = 0 ∨ j = 1 by omega) with rfl | rfl
  ·exact (k3.cell 0).trans hx
  ·exact (k3.cell 1).trans hx
 have r4 : RowsI W [.slice (some ⟨w.heap.size, 0, none⟩) 1 1, .slice (some ⟨w.heap.size + 1, 0, none⟩) 1 1] [[a], [b]] := by
  refine ⟨rfl, fun i v l hv hl => ?_⟩
  have hi : i < 2 := (List.getElem?_eq_some_iff.1 hv).1
  rcases (show i = 0 ∨ i = 1 by omega) with rfl | rfl
  ·cases hv; cases hl; exact ⟨_, 1, rfl, r1⟩
  ·cases hv; cases hl; exact ⟨_, 1, rfl, r2⟩
 have hI : ∀ l ∈ [[a], [b]], (∀ x ∈ l, I64 x) ∧ l.length ≤ 9223372036854775807 := fun l hl => by
  simp only [List.mem_cons, List.not_mem_nil, or_false] at hl
  rcases hl with rfl | rfl
  ·exact ⟨fun x hx => by rw [List.mem_singleton.1 hx]; exact ha, by simp⟩
  ·exact ⟨fun x hx => by rw [List.mem_singleton.1 hx]; exact hb, by simp⟩
 refine (Made_q (some ⟨w.heap.size + 1 + 1, 0, none⟩) 2 2 _ [[a], [b]] (by omega) (fun l hl => (hI l hl).1) (fun l hl => (hI l hl).2) W r3 r4).mono ?_
 rintro e w' ⟨vG, vH, gs, ys, es, hs, K, rfl, h1, h2, h3, h4, h5, h6⟩
 exact ⟨vG, vH, gs, ys, es, hs, K, rfl, h1.le hB.size, h2.le hB.size, h3.le hB.size, h4, h5, below_then hB h6⟩

end Go.Proofs.YtkpinmejfdnhbaaGreatDoor
