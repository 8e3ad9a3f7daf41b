/- A pair of lists of texts among the arguments, opened. -/
import Derived.Test.YtebgmlbbilcbbaaGreatDoorDelCards
import Derived.Test.YtebgmlbbilcbbaaGreatDoorDelThree
import Derived.ChangeArms
import Derived.SliceStrings
namespace Go.Proofs.YtebgmlbbilcbbaaGreatDoor
open Go.ChangeShapes Go.WideShapes Go.ChangeAt Go.RowKit Go.ChangeShapes
section
variable {H : Type} {enc : TypeId × Value → H}
theorem nth_one {cs : List Value} {i : Nat} {u : Value} (h : (cs.drop i).take 1 = [u]) : cs[i]? = some u := by
  have h0 : ((cs.drop i).take 1)[0]? = some u := by rw [h]; rfl
  simpa using h0
theorem cellsStr : Tryz.prog.cellsOf 9 = 1 := by kernel_rfl
theorem cellsStrs : Tryz.prog.cellsOf 60 = 1 := by kernel_rfl
theorem cellsS2 : Tryz.prog.cellsOf 92 = 2 := by kernel_rfl
set_option maxRecDepth 100000 in
theorem strs_of {W : World} {m : Nat} {cs : List Value} {x : DataW H × List MemPlace} (h : DataW.trod enc Tryz.prog W 0 (fun _ => true) true m 60 cs = some x) :
    ∃ (A : Option Addr) (n c : Nat) (l : List ByteArray), cs = [.slice A n c] ∧ NDg W A n c l ∧ (∀ s ∈ l, s.size ≤ 9223372036854775807) ∧ n ≤ 9223372036854775807 := by
  rcases open_strings Tryz.underlying60 Tryz.underlying9 cellsStr h with ⟨rfl, _⟩ | ⟨a, len, cap, ss, rfl, _, hl, hm, hz, _, hcell, hw⟩
  · exact ⟨none, 0, 0, [], rfl, ⟨rfl, Nat.le_refl _, fun h => absurd h (by omega)⟩, fun s hs => by simp at hs, by omega⟩
  · simp only [if_true] at hz
    refine ⟨some a, len, cap, ss.take len, rfl, ⟨by rw [List.length_take]; omega, hl, fun hn => ?_⟩, fun s hs => hw s (List.mem_of_mem_take hs), Nat.le_trans hl hm⟩
    obtain ⟨b, off, spot⟩ := a
    have hspot : spot = none := by
      have h0 := hcell 0 (by omega)
      simpa [Addr.add] using World.cell?_spot h0
    subst hspot
    refine ⟨b, off, rfl, fun j s hs => ?_⟩
    rw [List.getElem?_take] at hs
    split at hs
    · have hj := (List.getElem?_eq_some_iff.1 hs).1
      have h1 := hcell j hj
      rw [add_addr, List.getD_eq_getElem?_getD, hs] at h1
      exact h1
    · cases hs
set_option maxRecDepth 100000 in
theorem ss2_of {W : World} {base : Nat} {v : Value} {d : DataW H} {p : List MemPlace} (hval : Value.okWide Tryz.prog W .any base 92 v) (h : DataW.Trod enc Tryz.prog W 0 (fun _ => true) true 92 v d p) :
    ∃ (A : Option Addr) (n c : Nat) (l : List ByteArray) (B : Option Addr) (m e : Nat) (k : List ByteArray), v = .agg #[.slice A n c, .slice B m e] ∧ NDg W A n c l ∧ NDg W B m e k ∧ (∀ s ∈ l, s.size ≤ 9223372036854775807) ∧ (∀ s ∈ k, s.size ≤ 9223372036854775807) ∧
      n ≤ 9223372036854775807 ∧ m ≤ 9223372036854775807 := by
  have ht := Tryz.underlying92
  obtain ⟨cs, rfl, hsz, _⟩ : ∃ cs, v = .agg cs ∧ cs.size = Tryz.prog.cellsOf 92 ∧ Row.okWide Tryz.prog W .any base 92 cs := by
    simpa [Value.okWide, ht] using hval
  rw [cellsS2] at hsz
  obtain ⟨fuel, hf⟩ := h
  obtain ⟨xs, m, _, _, _, hl, hel⟩ := DataW.trod_array ht hf
  have each : ∀ i, i < 2 → ∃ (A : Option Addr) (n c : Nat) (l : List ByteArray), cs.toList[i]? = some (.slice A n c) ∧ NDg W A n c l ∧ (∀ s ∈ l, s.size ≤ 9223372036854775807) ∧ n ≤ 9223372036854775807 := fun i hi => by
    have h1 := hel i hi
    rw [cellsStrs, Nat.mul_one, List.getElem?_eq_getElem (by omega)] at h1
    obtain ⟨A, n, c, l, e1, h2, h3, h4⟩ := strs_of h1
    exact ⟨A, n, c, l, nth_one e1, h2, h3, h4⟩
  obtain ⟨A, n, c, l, ha, h1, h2, h3⟩ := each 0 (by omega)
  obtain ⟨B, m, e, k, hb, h4, h5, h6⟩ := each 1 (by omega)
  refine ⟨A, n, c, l, B, m, e, k, ?_, h1, h4, h2, h5, h3, h6⟩
  congr 1
  apply Array.toList_inj.1
  apply List.ext_getElem?
  intro i
  match i with
  | 0 => rw [ha]; rfl
  | 1 => rw [hb]; rfl
  | i + 2 => rw [List.getElem?_eq_none (by simp; omega), List.getElem?_eq_none (by simp)]
theorem cellsHash2 : Tryz.prog.cellsOf 71 = 32 := by kernel_rfl
theorem cellsByte2 : Tryz.prog.cellsOf 5 = 1 := by kernel_rfl
set_option maxRecDepth 100000 in
/-- A hash, opened. -/
theorem hash2_of {W : World} {base : Nat} {v : Value} {d : DataW H} {p : List MemPlace} (hval : Value.okWide Tryz.prog W .any base 71 v) (h : DataW.Trod enc Tryz.prog W 0 (fun _ => true) true 71 v d p) :
    ∃ g : List UInt8, v = .agg (u8a g) ∧ g.length = 32 := by
  obtain ⟨l, rfl, hl, hw⟩ := arr_of Tryz.underlying71 Tryz.underlying5 cellsByte2 cellsHash2 hval h
  refine ⟨l.map fun z => UInt8.ofNat z.toNat, ?_, by rw [List.length_map, hl]⟩
  unfold u8a u8l
  rw [List.map_map]
  congr 2
  apply List.map_congr_left
  intro z hz
  have h3 := bounds_u8 (hw z hz)
  show Value.int .u8 z = .int .u8 ((UInt8.ofNat z.toNat).toNat : Int)
  rw [byte_toNat (by omega)]
  congr 1
  omega
end
end Go.Proofs.YtebgmlbbilcbbaaGreatDoor
