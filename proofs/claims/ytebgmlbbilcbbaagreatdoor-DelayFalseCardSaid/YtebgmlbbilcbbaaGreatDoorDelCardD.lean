/- Arrays of integers and strings among the arguments, opened. -/
import Derived.Test.YtebgmlbbilcbbaaGreatDoorDelCardC
import Derived.OpenShut
import Derived.ChangeMaps5
namespace Go.Proofs.YtebgmlbbilcbbaaGreatDoor
open Go.ChangeShapes Go.WideShapes Go.ChangeAt Go.RowKit
section
variable {H : Type} {enc : TypeId × Value → H}
/-- The integer of a value. -/
def intIn : Value → Int
  | .int _ z => z
  | _ => 0
theorem arr_of {P : Program} {W : World} {base : Nat} {t e : TypeId} {k : IntKind} {n : Nat} {v : Value} {d : DataW H} {p : List MemPlace} (ht : P.underlying t = some (.array n e)) (he : P.underlying e = some (.int k)) (hc : P.cellsOf e = 1) (hn : P.cellsOf t = n)
    (hval : Value.okWide P W .any base t v) (h : DataW.Trod enc P W 0 (fun _ => true) true t v d p) :
    ∃ l : List Int, v = .agg (l.map (Value.int k)).toArray ∧ l.length = n ∧ ∀ z ∈ l, (Lit.int k z).wf = true := by
  obtain ⟨cs, rfl, hsz, _⟩ : ∃ cs, v = .agg cs ∧ cs.size = P.cellsOf t ∧ Row.okWide P W .any base t cs := by
    simpa [Value.okWide, ht] using hval
  rw [hn] at hsz
  obtain ⟨fuel, hf⟩ := h
  obtain ⟨xs, m, _, _, _, hl, hel⟩ := DataW.trod_array ht hf
  have each : ∀ i, i < n → ∃ z, cs.toList[i]? = some (.int k z) ∧ (Lit.int k z).wf = true := fun i hi => by
    have h1 := hel i hi
    rw [hc, Nat.mul_one, List.getElem?_eq_getElem (by omega)] at h1
    obtain ⟨z, e1, _, hw⟩ := DataW.trod_int he h1
    refine ⟨z, ?_, hw⟩
    have h0 : ((cs.toList.drop i).take 1)[0]? = some (.int k z) := by
      have e1' : (cs.toList.drop i).take 1 = [.int k z] := e1
      rw [e1']; rfl
    simpa using h0
  refine ⟨cs.toList.map intIn, ?_, by simpa using hsz, ?_⟩
  · congr 1
    apply Array.toList_inj.1
    apply List.ext_getElem?
    intro i
    rcases Nat.lt_or_ge i n with hi | hi
    · obtain ⟨z, hz, _⟩ := each i hi
      simp only [List.getElem?_map, hz, Option.map_some, intIn]
    · rw [List.getElem?_eq_none (by simpa using hsz ▸ hi), List.getElem?_eq_none (by simpa using hsz ▸ hi)]
  · intro z hz
    obtain ⟨v, hv, rfl⟩ := List.mem_map.1 hz
    obtain ⟨i, hi⟩ := List.mem_iff_getElem?.1 hv
    have hlt : i < n := by
      have := (List.getElem?_eq_some_iff.1 hi).1
      simpa [hsz] using this
    obtain ⟨z, hz, hw⟩ := each i hlt
    rw [hz] at hi
    cases hi
    exact hw
theorem list_two {l : List Int} (h : l.length = 2) : ∃ x y, l = [x, y] := by
  match l, h with
  | [x, y], _ => exact ⟨x, y, rfl⟩
theorem list_three {l : List Int} (h : l.length = 3) : ∃ x y z, l = [x, y, z] := by
  match l, h with
  | [x, y, z], _ => exact ⟨x, y, z, rfl⟩
theorem list_six {l : List Int} (h : l.length = 6) : ∃ t u v x y z, l = [t, u, v, x, y, z] := by
  match l, h with
  | [t, u, v, x, y, z], _ => exact ⟨t, u, v, x, y, z, rfl⟩
theorem cellsInt : Tryz.prog.cellsOf 3 = 1 := by kernel_rfl
theorem cellsI2 : Tryz.prog.cellsOf 68 = 2 := by kernel_rfl
theorem cellsI3 : Tryz.prog.cellsOf 53 = 3 := by kernel_rfl
theorem cellsI6 : Tryz.prog.cellsOf 51 = 6 := by kernel_rfl
set_option maxRecDepth 100000 in
theorem i2_of {W : World} {base : Nat} {v : Value} {d : DataW H} {p : List MemPlace} (hval : Value.okWide Tryz.prog W .any base 68 v) (h : DataW.Trod enc Tryz.prog W 0 (fun _ => true) true 68 v d p) :
    ∃ x y : Int, v = .agg #[.int .i64 x, .int .i64 y] ∧ (-9223372036854775808 ≤ x ∧ x ≤ 9223372036854775807) ∧ (-9223372036854775808 ≤ y ∧ y ≤ 9223372036854775807) := by
  obtain ⟨l, rfl, hl, hw⟩ := arr_of Tryz.underlying68 Tryz.underlying3 cellsInt cellsI2 hval h
  obtain ⟨x, y, rfl⟩ := list_two hl
  exact ⟨x, y, rfl, bounds_i64 (hw x (by simp)), bounds_i64 (hw y (by simp))⟩
set_option maxRecDepth 100000 in
theorem i3_of {W : World} {base : Nat} {v : Value} {d : DataW H} {p : List MemPlace} (hval : Value.okWide Tryz.prog W .any base 53 v) (h : DataW.Trod enc Tryz.prog W 0 (fun _ => true) true 53 v d p) :
    ∃ x y z : Int, v = .agg #[.int .i64 x, .int .i64 y, .int .i64 z] ∧ (-9223372036854775808 ≤ x ∧ x ≤ 9223372036854775807) ∧ (-9223372036854775808 ≤ y ∧ y ≤ 9223372036854775807) ∧ (-9223372036854775808 ≤ z ∧ z ≤ 9223372036854775807) := by
  obtain ⟨l, rfl, hl, hw⟩ := arr_of Tryz.underlying53 Tryz.underlying3 cellsInt cellsI3 hval h
  obtain ⟨x, y, z, rfl⟩ := list_three hl
  exact ⟨x, y, z, rfl, bounds_i64 (hw x (by simp)), bounds_i64 (hw y (by simp)), bounds_i64 (hw z (by simp))⟩
set_option maxRecDepth 100000 in
theorem i6_of {W : World} {base : Nat} {v : Value} {d : DataW H} {p : List MemPlace} (hval : Value.okWide Tryz.prog W .any base 51 v) (h : DataW.Trod enc Tryz.prog W 0 (fun _ => true) true 51 v d p) :
    ∃ t u v' x y z : Int, v = .agg #[.int .i64 t, .int .i64 u, .int .i64 v', .int .i64 x, .int .i64 y, .int .i64 z] ∧ (-9223372036854775808 ≤ t ∧ t ≤ 9223372036854775807) ∧ (-9223372036854775808 ≤ u ∧ u ≤ 9223372036854775807) ∧ (-9223372036854775808 ≤ v' ∧ v' ≤ 9223372036854775807) ∧ (-9223372036854775808 ≤ x ∧ x ≤ 9223372036854775807) ∧ (-9223372036854775808 ≤ y ∧ y ≤ 9223372036854775807) ∧ (-9223372036854775808 ≤ z ∧ z ≤ 9223372036854775807) := by
  obtain ⟨l, rfl, hl, hw⟩ := arr_of Tryz.underlying51 Tryz.underlying3 cellsInt cellsI6 hval h
  obtain ⟨t, u, v', x, y, z, rfl⟩ := list_six hl
  exact ⟨t, u, v', x, y, z, rfl, bounds_i64 (hw t (by simp)), bounds_i64 (hw u (by simp)), bounds_i64 (hw v' (by simp)), bounds_i64 (hw x (by simp)), bounds_i64 (hw y (by simp)), bounds_i64 (hw z (by simp))⟩
set_option maxRecDepth 100000 in
theorem u16_of {W : World} {base : Nat} {v : Value} {d : DataW H} {p : List MemPlace} (hval : Value.okWide Tryz.prog W .any base 23 v) (h : DataW.Trod enc Tryz.prog W 0 (fun _ => true) true 23 v d p) :
    ∃ z : Nat, v = .int .u16 (z : Int) ∧ z ≤ 65535 := by
  obtain ⟨z, rfl, rfl, rfl, hw⟩ := open_int Tryz.underlying23 hval h
  have hb := bounds_u16 hw
  exact ⟨z.toNat, by rw [Int.toNat_of_nonneg hb.1], by omega⟩
set_option maxRecDepth 100000 in
theorem str_of {W : World} {base : Nat} {v : Value} {d : DataW H} {p : List MemPlace} (hval : Value.okWide Tryz.prog W .any base 9 v) (h : DataW.Trod enc Tryz.prog W 0 (fun _ => true) true 9 v d p) :
    ∃ s : ByteArray, v = .string s ∧ s.size ≤ 9223372036854775807 := by
  obtain ⟨s, rfl, _, _, hs⟩ := Go.ChangeMaps.open_string Tryz.underlying9 hval h
  exact ⟨s, rfl, hs⟩
end
end Go.Proofs.YtebgmlbbilcbbaaGreatDoor
