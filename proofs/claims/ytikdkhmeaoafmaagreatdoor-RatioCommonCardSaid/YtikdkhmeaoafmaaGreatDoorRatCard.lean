/- The arguments of chapter 02's laws, opened. -/
import Derived.Test.YtikdkhmeaoafmaaGreatDoorCardD
import Derived.Deep.Strs
namespace Go.Proofs.YtikdkhmeaoafmaaGreatDoor
open Go.ChangeShapes Go.WideShapes Go.ChangeAt Go.RowKit
section
variable {H : Type} {enc : TypeId × Value → H}
theorem list_three {l : List Int} (h : l.length = 3) : ∃ x y z, l = [x, y, z] := by
  match l, h with
  | [x, y, z], _ => exact ⟨x, y, z, rfl⟩
theorem cellsInt : Tryz.prog.cellsOf 3 = 1 := by kernel_rfl
theorem cellsI3 : Tryz.prog.cellsOf 22 = 3 := by kernel_rfl
set_option maxRecDepth 100000 in
theorem i3_of {W : World} {base : Nat} {v : Value} {d : DataW H} {p : List MemPlace} (hval : Value.okWide Tryz.prog W .any base 22 v) (h : DataW.Trod enc Tryz.prog W 0 (fun _ => true) true 22 v d p) :
    ∃ x y z : Int, v = .agg #[.int .i64 x, .int .i64 y, .int .i64 z] ∧ (-9223372036854775808 ≤ x ∧ x ≤ 9223372036854775807) ∧ (-9223372036854775808 ≤ y ∧ y ≤ 9223372036854775807) ∧ (-9223372036854775808 ≤ z ∧ z ≤ 9223372036854775807) := by
  obtain ⟨l, rfl, hl, hw⟩ := arr_of Tryz.underlying22 Tryz.underlying3 cellsInt cellsI3 hval h
  obtain ⟨x, y, z, rfl⟩ := list_three hl
  exact ⟨x, y, z, rfl, bounds_i64 (hw x (by simp)), bounds_i64 (hw y (by simp)), bounds_i64 (hw z (by simp))⟩
set_option maxRecDepth 100000 in
theorem bool_of {W : World} {base : Nat} {v : Value} {d : DataW H} {p : List MemPlace} (hval : Value.okWide Tryz.prog W .any base 4 v) (h : DataW.Trod enc Tryz.prog W 0 (fun _ => true) true 4 v d p) : ∃ b : Bool, v = .bool b := by
  obtain ⟨b, rfl, _⟩ := open_bool Tryz.underlying4 hval h
  exact ⟨b, rfl⟩
theorem cellsNat : Tryz.prog.cellsOf 25 = 1 := by kernel_rfl
theorem cellsBool : Tryz.prog.cellsOf 4 = 1 := by kernel_rfl
theorem cellsN2 : Tryz.prog.cellsOf 36 = 2 := by kernel_rfl
theorem cellsRat : Tryz.prog.cellsOf 27 = 3 := by kernel_rfl
theorem nth_take {l : List Value} {i : Nat} {x : Value} (h : (l.drop i).take 1 = [x]) : l[i]? = some x := by
  have : ((l.drop i).take 1)[0]? = some x := by rw [h]; rfl
  simpa using this
set_option maxRecDepth 100000 in
theorem n2_of {W : World} {base : Nat} {v : Value} {d : DataW H} {p : List MemPlace} (hval : Value.okWide Tryz.prog W .any base 36 v) (h : DataW.Trod enc Tryz.prog W 0 (fun _ => true) true 36 v d p) :
    ∃ a b : ByteArray, v = .agg #[.string a, .string b] ∧ a.size ≤ 9223372036854775807 ∧ b.size ≤ 9223372036854775807 := by
  have ht := Tryz.underlying36
  obtain ⟨cs, rfl, hsz, _⟩ : ∃ cs, v = .agg cs ∧ cs.size = Tryz.prog.cellsOf 36 ∧ Row.okWide Tryz.prog W .any base 36 cs := by
    simpa [Value.okWide, ht] using hval
  rw [cellsN2] at hsz
  obtain ⟨fuel, hf⟩ := h
  obtain ⟨xs, m, _, _, _, hl, hel⟩ := DataW.trod_array ht hf
  have each : ∀ i, i < 2 → ∃ s : ByteArray, cs.toList[i]? = some (.string s) ∧ s.size ≤ maxLen := fun i hi => by
    have h1 := hel i hi
    rw [cellsNat, Nat.mul_one, List.getElem?_eq_getElem (by omega)] at h1
    obtain ⟨s, e1, _, hw⟩ := DataW.trod_string Tryz.underlying25 h1
    exact ⟨s, nth_take e1, hw⟩
  obtain ⟨a, ha, hla⟩ := each 0 (by omega)
  obtain ⟨b, hb, hlb⟩ := each 1 (by omega)
  refine ⟨a, b, ?_, hla, hlb⟩
  congr 1
  apply Array.toList_inj.1
  apply List.ext_getElem?
  intro i
  match i with
  | 0 => rw [ha]; rfl
  | 1 => rw [hb]; rfl
  | i + 2 => rw [List.getElem?_eq_none (by simp; omega), List.getElem?_eq_none (by simp)]
set_option maxRecDepth 100000 in
theorem rat_of {W : World} {base : Nat} {v : Value} {d : DataW H} {p : List MemPlace} (hval : Value.okWide Tryz.prog W .any base 27 v) (h : DataW.Trod enc Tryz.prog W 0 (fun _ => true) true 27 v d p) :
    ∃ (g : Bool) (a b : ByteArray), v = .agg #[.bool g, .string a, .string b] ∧ a.size ≤ 9223372036854775807 ∧ b.size ≤ 9223372036854775807 := by
  have ht := Tryz.underlying27
  obtain ⟨cs, rfl, hsz, _⟩ : ∃ cs, v = .agg cs ∧ cs.size = Tryz.prog.cellsOf 27 ∧ Row.okWide Tryz.prog W .any base 27 cs := by
    simpa [Value.okWide, ht] using hval
  rw [cellsRat] at hsz
  obtain ⟨fuel, hf⟩ := h
  obtain ⟨y0, y1, y2, m, _, _, h0, h1, h2⟩ := Go.Deep.trod_struct3 ht hf
  simp only [cellsBool, cellsNat] at h0 h1 h2
  obtain ⟨g, e0, _⟩ := DataW.trod_bool Tryz.underlying4 h0
  obtain ⟨a, e1, _, hla⟩ := DataW.trod_string Tryz.underlying25 h1
  obtain ⟨b, e2, _, hlb⟩ := DataW.trod_string Tryz.underlying25 h2
  refine ⟨g, a, b, ?_, hla, hlb⟩
  congr 1
  apply Array.toList_inj.1
  apply List.ext_getElem?
  intro i
  match i with
  | 0 => exact (show cs.toList[0]? = _ from nth_take e0).trans rfl
  | 1 => exact (show cs.toList[1]? = _ from nth_take e1).trans rfl
  | 2 => exact (show cs.toList[2]? = _ from nth_take e2).trans rfl
  | i + 3 => rw [List.getElem?_eq_none (by simp; omega), List.getElem?_eq_none (by simp)]
end
end Go.Proofs.YtikdkhmeaoafmaaGreatDoor
