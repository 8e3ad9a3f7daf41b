/- Delays: blocks, cells, frames. -/
import Derived.Test.YtebgmlbbilcbbaaGreatDoorDelP
namespace Go.Proofs.YtebgmlbbilcbbaaGreatDoor
open Go.RowKit

/-- A cell, behind a frame. -/
theorem cell_b {w w' : World} {p : Addr} {v : Value} (hb : Below w.heap.size w w') (h : w.cell? p = some v) : w'.cell? p = some v := (hb.cell (block_lt_of_cell h)).trans h
/-- A cell may be written, behind a frame. -/
theorem frozen_b {w w' : World} {p : Addr} (hb : Below w.heap.size w w') (hp : p.block < w.heap.size) (h : w.frozen? p = false) : w'.frozen? p = false := by
  unfold World.frozen? at h ⊢
  rw [hb.block _ hp]; exact h
theorem frozen_c {w w' : World} {p : Addr} {v : Value} (hb : Below w.heap.size w w') (hc : w.cell? p = some v) (h : w.frozen? p = false) : w'.frozen? p = false := frozen_b hb (block_lt_of_cell hc) h
/-- Five stores into a block of five cells. -/
theorem disp_store {W : World} {B : Nat} {t : TypeId} {u0 u1 u2 u3 u4 : Value} (hk : Blk W B t #[u0, u1, u2, u3, u4]) (v0 v1 v2 v3 v4 : Value) :
    Blk (((((W.setCell ⟨B, 0, none⟩ v0).setCell ⟨B, 1, none⟩ v1).setCell ⟨B, 2, none⟩ v2).setCell ⟨B, 3, none⟩ v3).setCell ⟨B, 4, none⟩ v4) B t #[v0, v1, v2, v3, v4] ∧
    W.grownBy (((((W.setCell ⟨B, 0, none⟩ v0).setCell ⟨B, 1, none⟩ v1).setCell ⟨B, 2, none⟩ v2).setCell ⟨B, 3, none⟩ v3).setCell ⟨B, 4, none⟩ v4) (some B) :=
  ⟨((((hk.set_ 0 v0).set_ 1 v1).set_ 2 v2).set_ 3 v3).set_ 4 v4, grown_set (grown_set (grown_set (grown_set (grown_set (grown_refl _ _) 0 _) 1 _) 2 _) 3 _) 4 _⟩
/-- Blocks of different types. -/
theorem blk_ty {w : World} {k j : Nat} {t u : TypeId} {cs ds : Array Value} (h : Blk w k t cs) (g : Blk w j u ds) (hne : t ≠ u) : k ≠ j := fun e => by
  subst e
  have := Option.some.inj ((show w.heap[k]? = _ from h).symm.trans g)
  simp only [Obj.cells.injEq, and_true] at this
  exact hne this.2
/-- A new block, under a letter. -/
theorem alloc_name {K : Act → World → Prop} {a : Act} {W : World} {cs : Array Value} {t : TypeId} (h : ∀ W' : World, Blk W' W.heap.size t cs → Below W.heap.size W W' → K a W') : K a (W.alloc (.cells cs t)) :=
  h _ (Blk.new _ _ _) (below_al (Below.refl _ _) _)
/-- A row is not a block of another type. -/
theorem own_ty {α : Type} {enc : α → List Value} {e t : TypeId} {s B k : Nat} {w : World} {v : Value} {l : List α} {cs : Array Value} (h : OwnL enc e s B w v l) (hb : Blk w k t cs) (hne : t ≠ e) : some k ≠ v.ownBlock := by
  rcases h.2 with ⟨rfl, _⟩ | ⟨g, cap, cur, rfl, _, hh, _⟩
  · simp [Value.ownBlock]
  · intro he
    simp only [Value.ownBlock, Option.some.injEq] at he
    subst he
    have := Option.some.inj ((show w.heap[k]? = _ from hb).symm.trans hh)
    simp only [Obj.cells.injEq, and_true] at this
    exact hne this.2

/-- Strings that are not long. -/
def Short (ms : List ByteArray) : Prop := ∀ m ∈ ms, m.size ≤ 100
def Tiny (ms : List ByteArray) : Prop := ∀ m ∈ ms, m.size ≤ 16
theorem Tiny.short {ms : List ByteArray} (h : Tiny ms) : Short ms := fun m hm => Nat.le_trans (h m hm) (by omega)
theorem Tiny.cons {ms : List ByteArray} (h : Tiny ms) {s : ByteArray} (hs : s.size ≤ 16) : Tiny ([s] ++ ms) := fun m hm => by
  rcases List.mem_append.1 hm with h1 | h1
  · obtain rfl := List.mem_singleton.1 h1; exact hs
  · exact h m h1
theorem NDg.nil (w : World) : NDg w none 0 0 [] := ⟨rfl, Nat.le_refl _, fun h => absurd h (by omega)⟩

end Go.Proofs.YtebgmlbbilcbbaaGreatDoor
