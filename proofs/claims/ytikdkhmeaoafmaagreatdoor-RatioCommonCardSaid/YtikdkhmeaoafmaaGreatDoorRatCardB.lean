/- Slices of triples of ints among the arguments, opened. -/
import Derived.Test.YtikdkhmeaoafmaaGreatDoorRatCard
import Derived.Test.YtikdkhmeaoafmaaGreatDoorRatO
import Derived.ChangeArms
namespace Go.Proofs.YtikdkhmeaoafmaaGreatDoor
open Go.ChangeShapes Go.WideShapes Go.ChangeAt Go.RowKit
section
variable {H : Type} {enc : TypeId × Value → H}
theorem cellsI2 : Tryz.prog.cellsOf 23 = 2 := by kernel_rfl
set_option maxRecDepth 100000 in
theorem i2_of {W : World} {base : Nat} {v : Value} {d : DataW H} {p : List MemPlace} (hval : Value.okWide Tryz.prog W .any base 23 v) (h : DataW.Trod enc Tryz.prog W 0 (fun _ => true) true 23 v d p) :
    ∃ x y : Int, v = .agg #[.int .i64 x, .int .i64 y] ∧ (-9223372036854775808 ≤ x ∧ x ≤ 9223372036854775807) ∧ (-9223372036854775808 ≤ y ∧ y ≤ 9223372036854775807) := by
  obtain ⟨l, rfl, hl, hw⟩ := arr_of Tryz.underlying23 Tryz.underlying3 cellsInt cellsI2 hval h
  obtain ⟨x, y, rfl⟩ := list_two hl
  exact ⟨x, y, rfl, bounds_i64 (hw x (by simp)), bounds_i64 (hw y (by simp))⟩
theorem list_of {α : Type} {P : Nat → α → Prop} : ∀ n : Nat, (∀ i, i < n → ∃ x, P i x) → ∃ l : List α, l.length = n ∧ ∀ (j : Nat) (x : α), l[j]? = some x → P j x
  | 0, _ => ⟨[], rfl, fun j x h => by simp at h⟩
  | n + 1, h => by
    obtain ⟨l, hl, hp⟩ := list_of n (fun i hi => h i (by omega))
    obtain ⟨x, hx⟩ := h n (by omega)
    refine ⟨l ++ [x], by simp [hl], fun j y hy => ?_⟩
    rw [List.getElem?_append] at hy
    split at hy
    · exact hp j y hy
    · rename_i hj
      have hj2 : j - l.length = 0 := by
        have := (List.getElem?_eq_some_iff.1 hy).1
        simp at this; omega
      rw [hj2] at hy
      obtain rfl := Option.some.inj hy
      obtain rfl : j = n := by omega
      exact hx
theorem cells_three {W : World} {a : Addr} {cs : List Value} (h : W.cells? 0 a 3 = some cs) : ∃ u0 u1 u2, cs = [u0, u1, u2] ∧ W.cell? (a.add 0) = some u0 ∧ W.cell? (a.add 1) = some u1 ∧ W.cell? (a.add 2) = some u2 := by
  unfold World.cells? at h
  rw [if_pos (Nat.zero_le _)] at h
  simp only [List.range, List.range.loop, List.mapM_cons, List.mapM_nil, Option.pure_def, Option.bind_eq_bind, Option.bind_eq_some_iff] at h
  obtain ⟨u0, h0, c1, ⟨u1, h1, c2, ⟨u2, h2, c3, hc3, h5⟩, h6⟩, h7⟩ := h
  obtain rfl := Option.some.inj hc3
  obtain rfl := Option.some.inj h5
  obtain rfl := Option.some.inj h6
  exact ⟨u0, u1, u2, (Option.some.inj h7).symm, h0, h1, h2⟩
set_option maxRecDepth 100000 in
theorem l3_of {W : World} {base : Nat} {v : Value} {d : DataW H} {p : List MemPlace} (hval : Value.okWide Tryz.prog W .any base 42 v) (h : DataW.Trod enc Tryz.prog W 0 (fun _ => true) true 42 v d p) :
    ∃ (A : Option Addr) (n c : Nat) (l : List (Int × Int × Int)), v = .slice A n c ∧ TDg W A n c l ∧ n ≤ 9223372036854775807 := by
  obtain ⟨a1, len, cap, rfl⟩ := okWide_slice Tryz.underlying42 hval
  obtain ⟨fuel, hf⟩ := h
  rcases DataW.trod_slice Tryz.underlying42 hf with ⟨hcs, _⟩ | ⟨a, len', cap', elems, rest, n, rfl, hcs, _, _, hl, hm, hz, hel, _, _⟩
  · simp [Value.cells] at hcs
    obtain ⟨rfl, rfl, rfl⟩ := hcs
    exact ⟨none, 0, 0, [], rfl, ⟨rfl, Nat.le_refl _, fun h => absurd h (by omega)⟩, by omega⟩
  · simp [Value.cells] at hcs
    obtain ⟨rfl, rfl, rfl⟩ := hcs
    have each : ∀ i, i < len → ∃ x : Int × Int × Int, W.cell? ((a.add (i * 3)).add 0) = some (.int .i64 x.1) ∧ W.cell? ((a.add (i * 3)).add 1) = some (.int .i64 x.2.1) ∧ W.cell? ((a.add (i * 3)).add 2) = some (.int .i64 x.2.2) := fun i hi => by
      have h1 := hel i hi
      rw [cellsI3, List.getElem?_eq_getElem (by omega), Option.bind_eq_some_iff] at h1
      obtain ⟨cs, hcs, ht⟩ := h1
      obtain ⟨u0, u1, u2, rfl, c0, c1, c2⟩ := cells_three hcs
      obtain ⟨xs, m, _, _, _, hxl, hxe⟩ := DataW.trod_array Tryz.underlying22 ht
      have g : ∀ i, i < 3 → ∃ z, ([u0, u1, u2].drop i).take 1 = [.int .i64 z] := fun i hi => by
        have h2 := hxe i hi
        rw [cellsInt, Nat.mul_one, List.getElem?_eq_getElem (by omega)] at h2
        obtain ⟨z, e1, _, _⟩ := DataW.trod_int Tryz.underlying3 h2
        exact ⟨z, e1⟩
      obtain ⟨x, g0⟩ := g 0 (by omega)
      obtain ⟨y, g1⟩ := g 1 (by omega)
      obtain ⟨z, g2⟩ := g 2 (by omega)
      simp at g0 g1 g2
      subst g0 g1 g2
      exact ⟨(x, y, z), c0, c1, c2⟩
    obtain ⟨l, hll, hp⟩ := list_of len each
    refine ⟨some a, len, cap, l, rfl, ⟨hll, hl, fun hn => ?_⟩, Nat.le_trans hl hm⟩
    obtain ⟨b, off, spot⟩ := a
    have hspot : spot = none := by
      obtain ⟨x, h0, _⟩ := each 0 hn
      simpa [Addr.add] using World.cell?_spot h0
    subst hspot
    refine ⟨b, off, rfl, fun j x hx => ?_⟩
    obtain ⟨h0, h1, h2⟩ := hp j x hx
    simp only [add_addr, Nat.add_zero] at h0 h1 h2
    exact ⟨h0, h1, h2⟩
end
end Go.Proofs.YtikdkhmeaoafmaaGreatDoor
