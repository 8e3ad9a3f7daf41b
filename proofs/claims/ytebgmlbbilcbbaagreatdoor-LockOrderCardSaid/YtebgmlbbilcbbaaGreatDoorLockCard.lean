/- Slices of pairs of ints, and hashes, among the arguments, opened. -/
import Derived.Test.YtebgmlbbilcbbaaGreatDoorDelCards
import Derived.Test.YtebgmlbbilcbbaaGreatDoorLockT
import Derived.ChangeArms
namespace Go.Proofs.YtebgmlbbilcbbaaGreatDoor
open Go.ChangeShapes Go.WideShapes Go.ChangeAt Go.RowKit
section
variable {H : Type} {enc : TypeId × Value → H}
theorem list_of {α : Type} {P : Nat → α → Prop} : ∀ n : Nat, (∀ i, i < n → ∃ x, P i x) → ∃ l : List α, l.length = n ∧ ∀ (j : Nat) (x : α), l[j]? = some x → P j x
  | 0, _ => ⟨[], rfl, fun j x h => by simp at h⟩
  | n + 1, h => by
    obtain ⟨l, hl, hp⟩ := list_of n (fun i hi => h i (by omega))
    obtain ⟨x, hx⟩ := h n (by omega)
    refine ⟨l ++ [x], by simp [hl], fun j y hy => ?_⟩
    rw [List.getElem?_append] at hy
    split at hy
    · exact hp j y hy
    · rename_i hj
      have hj2 : j - l.length = 0 := by
        have := (List.getElem?_eq_some_iff.1 hy).1
        simp at this; omega
      rw [hj2] at hy
      obtain rfl := Option.some.inj hy
      obtain rfl : j = n := by omega
      exact hx
theorem cells_two {W : World} {a : Addr} {cs : List Value} (h : W.cells? 0 a 2 = some cs) : ∃ u0 u1, cs = [u0, u1] ∧ W.cell? (a.add 0) = some u0 ∧ W.cell? (a.add 1) = some u1 := by
  unfold World.cells? at h
  rw [if_pos (Nat.zero_le _)] at h
  simp only [List.range, List.range.loop, List.mapM_cons, List.mapM_nil, Option.pure_def, Option.bind_eq_bind, Option.bind_eq_some_iff] at h
  obtain ⟨u0, h0, c1, ⟨u1, h1, c2, hc2, h5⟩, h6⟩ := h
  obtain rfl := Option.some.inj hc2
  obtain rfl := Option.some.inj h5
  exact ⟨u0, u1, (Option.some.inj h6).symm, h0, h1⟩
set_option maxRecDepth 100000 in
theorem p2_of {W : World} {base : Nat} {v : Value} {d : DataW H} {p : List MemPlace} (hval : Value.okWide Tryz.prog W .any base 83 v) (h : DataW.Trod enc Tryz.prog W 0 (fun _ => true) true 83 v d p) :
    ∃ (A : Option Addr) (n c : Nat) (l : List (Int × Int)), v = .slice A n c ∧ PRow W A n c l ∧ (∀ x ∈ l, I64 x.1 ∧ I64 x.2) ∧ n ≤ 9223372036854775807 := by
  obtain ⟨a1, len, cap, rfl⟩ := okWide_slice Tryz.underlying83 hval
  obtain ⟨fuel, hf⟩ := h
  rcases DataW.trod_slice Tryz.underlying83 hf with ⟨hcs, _⟩ | ⟨a, len', cap', elems, rest, n, rfl, hcs, _, _, hl, hm, hz, hel, _, _⟩
  · simp [Value.cells] at hcs
    obtain ⟨rfl, rfl, rfl⟩ := hcs
    exact ⟨none, 0, 0, [], rfl, ⟨rfl, Nat.le_refl _, fun h => absurd h (by omega)⟩, fun x hx => by simp at hx, by omega⟩
  · simp [Value.cells] at hcs
    obtain ⟨rfl, rfl, rfl⟩ := hcs
    have each : ∀ i, i < len → ∃ x : Int × Int, W.cell? ((a.add (i * 2)).add 0) = some (.int .i64 x.1) ∧ W.cell? ((a.add (i * 2)).add 1) = some (.int .i64 x.2) ∧ I64 x.1 ∧ I64 x.2 := fun i hi => by
      have h1 := hel i hi
      rw [cellsI2, List.getElem?_eq_getElem (by omega), Option.bind_eq_some_iff] at h1
      obtain ⟨cs, hcs, ht⟩ := h1
      obtain ⟨u0, u1, rfl, c0, c1⟩ := cells_two hcs
      obtain ⟨xs, m, _, _, _, hxl, hxe⟩ := DataW.trod_array Tryz.underlying68 ht
      have g : ∀ i, i < 2 → ∃ z, ([u0, u1].drop i).take 1 = [.int .i64 z] ∧ I64 z := fun i hi => by
        have h2 := hxe i hi
        rw [cellsInt, Nat.mul_one, List.getElem?_eq_getElem (by omega)] at h2
        obtain ⟨z, e1, _, hw⟩ := DataW.trod_int Tryz.underlying3 h2
        exact ⟨z, e1, bounds_i64 hw⟩
      obtain ⟨x, g0, b0⟩ := g 0 (by omega)
      obtain ⟨y, g1, b1⟩ := g 1 (by omega)
      simp at g0 g1
      subst g0 g1
      exact ⟨(x, y), c0, c1, b0, b1⟩
    obtain ⟨l, hll, hp⟩ := list_of len each
    refine ⟨some a, len, cap, l, rfl, ⟨hll, hl, fun hn => ?_⟩, fun x hx => ?_, Nat.le_trans hl hm⟩
    · obtain ⟨b, off, spot⟩ := a
      have hspot : spot = none := by
        obtain ⟨x, h0, _⟩ := each 0 hn
        simpa [Addr.add] using World.cell?_spot h0
      subst hspot
      refine ⟨b, off, rfl, fun j k x u hx hu => ?_⟩
      obtain ⟨h0, h1, -⟩ := hp j x hx
      simp only [add_addr, Nat.add_zero] at h0 h1
      match k, hu with
      | 0, hu => obtain rfl := Option.some.inj hu; exact h0
      | 1, hu => obtain rfl := Option.some.inj hu; exact h1
      | k + 2, hu => simp [encP] at hu
    · obtain ⟨j, hj⟩ := List.mem_iff_getElem?.1 hx
      exact (hp j x hj).2.2
theorem cellsHash : Tryz.prog.cellsOf 71 = 32 := by kernel_rfl
theorem cellsByte : Tryz.prog.cellsOf 5 = 1 := by kernel_rfl
set_option maxRecDepth 100000 in
/-- A hash, opened. -/
theorem hash_of {W : World} {base : Nat} {v : Value} {d : DataW H} {p : List MemPlace} (hval : Value.okWide Tryz.prog W .any base 71 v) (h : DataW.Trod enc Tryz.prog W 0 (fun _ => true) true 71 v d p) :
    ∃ g : List UInt8, v = .agg (u8a g) ∧ g.length = 32 := by
  obtain ⟨l, rfl, hl, hw⟩ := arr_of Tryz.underlying71 Tryz.underlying5 cellsByte cellsHash hval h
  refine ⟨l.map fun z => UInt8.ofNat z.toNat, ?_, by rw [List.length_map, hl]⟩
  unfold u8a u8l
  rw [List.map_map]
  congr 2
  apply List.map_congr_left
  intro z hz
  have h3 := bounds_u8 (hw z hz)
  show Value.int .u8 z = .int .u8 ((UInt8.ofNat z.toNat).toNat : Int)
  rw [byte_toNat (by omega)]
  congr 1
  omega
end
end Go.Proofs.YtebgmlbbilcbbaaGreatDoor
