/- Joined by a program: DelCardA, DelCardB, DelCardC, DelCardD. -/
import Derived.Test.YtebgmlbbilcbbaaGreatDoorCards
import Derived.Test.YtebgmlbbilcbbaaGreatDoorTie
import Derived.Test.YtebgmlbbilcbbaaGreatDoorDelOne
import Derived.ProofKit
import Derived.OpenShut
import Derived.LaidMore
import Derived.Deep.DeepHandedRow
import Derived.Deep.DeepWitnessRowRef
import Derived.Lib.LaidTab
import Derived.Carry
import Derived.ChangeMaps5
namespace Go.Proofs.YtebgmlbbilcbbaaGreatDoor
open Go.ChangeShapes Go.WideShapes Go.ChangeAt Go.RowKit

theorem own : ownKnob Tryz.prog.godebug = none := by kernel_rfl

/-- The seven variables that each row lists. -/
def laid7 : List (String × DataW Unit) := Rows.delayNilRow.laid

/-- The door's own heap, with the pinned table in its place. -/
noncomputable def laidWorld (os : Os) : World :=
  { World.doorLaid Tryz.prog 200 os with heap := (World.doorLaid Tryz.prog 200 os).heap.modify 6 fun
      | .cells _ t frozen => .cells (Pinned.utf8FirstZ.map fun z : Nat => Value.int .u8 (z : Int)).toArray t frozen
      | o => o }

set_option maxRecDepth 100000 in
theorem laid_met (os : Os) (args : Array Value) : laidMet Tryz.prog laid7 ((laidWorld os).forCall (fun _ _ => 0) ⟨#[], args, []⟩).memory :=
  laidMet_of_run' 8 (by kernel_rfl) (by kernel_rfl)

theorem gTab : Tryz.prog.globalNamed "internal/strconv.uint64pow10" = some 4 := by kernel_rfl
theorem gK : Tryz.prog.globalNamed "sortes/digest.constants" = some 1 := by kernel_rfl
theorem gF : Tryz.prog.globalNamed "sortes/digest.first" = some 0 := by kernel_rfl
theorem gTabType : (Tryz.prog.globals[4]?).map (·.type) = some 238 := by kernel_rfl
theorem gKType : (Tryz.prog.globals[1]?).map (·.type) = some 170 := by kernel_rfl
theorem gFType : (Tryz.prog.globals[0]?).map (·.type) = some 141 := by kernel_rfl
theorem cellsTab : Tryz.prog.cellsOf 238 = 20 := by kernel_rfl
theorem cellsK : Tryz.prog.cellsOf 170 = 64 := by kernel_rfl
theorem cellsF : Tryz.prog.cellsOf 141 = 8 := by kernel_rfl
theorem cellsU64 : Tryz.prog.cellsOf 160 = 1 := by kernel_rfl
theorem cellsU32 : Tryz.prog.cellsOf 140 = 1 := by kernel_rfl
theorem tab_is : (Rows.laid_internal_strconv_uint64pow10 : DataW Unit) = Lib.tabData .u64 Lib.pow10Tab := by rfl
theorem k_is : (Rows.laid_sortes_digest_constants : DataW Unit) = Lib.tabData .u32 (kS.map fun n : Nat => (n : Int)) := by rfl
theorem f_is : (Rows.laid_sortes_digest_first : DataW Unit) = Lib.tabData .u32 (ivS.map fun n : Nat => (n : Int)) := by rfl

/-- What the list gives: the tables. -/
theorem tabs_of {W : World} (h : laidMetH Tryz.prog laid7 W) : Tabs W := by
  have h' : laidMet Tryz.prog laid7 W := h
  obtain ⟨ps, ⟨_, _, _, _, _, _, _, _, _, _, ⟨_, _, _, _, _, _, _, _, _, _, ⟨g2, t2, cs2, f2, p2, q2, hg2, ht2, hv2, hd2, ⟨_, _, _, _, _, _, _, _, _, _, ⟨g4, t4, cs4, f4, p4, q4, hg4, ht4, hv4, hd4, ⟨g5, t5, cs5, f5, p5, q5, hg5, ht5, hv5, hd5, _, _⟩, _⟩, _⟩, _⟩, _⟩, _⟩, _, _⟩ := h'
  refine ⟨?_, ?_, ?_⟩
  · obtain rfl := Option.some.inj (gK.symm.trans hg5)
    obtain rfl := Option.some.inj (gKType.symm.trans ht5)
    rw [k_is] at hd5
    unfold KTab Lib.TabIs
    rw [hv5, ← Lib.cells_of_tab Tryz.underlying170 Tryz.underlying140 cellsU32 cellsK hd5]
  · obtain rfl := Option.some.inj (gF.symm.trans hg4)
    obtain rfl := Option.some.inj (gFType.symm.trans ht4)
    rw [f_is] at hd4
    unfold FTab Lib.TabIs
    rw [hv4, ← Lib.cells_of_tab Tryz.underlying141 Tryz.underlying140 cellsU32 cellsF hd4]
  · obtain rfl := Option.some.inj (gTab.symm.trans hg2)
    obtain rfl := Option.some.inj (gTabType.symm.trans ht2)
    rw [tab_is] at hd2
    unfold Pow10 Lib.TabIs
    rw [hv2, ← Lib.cells_of_tab Tryz.underlying238 Tryz.underlying160 cellsU64 cellsTab hd2]

end Go.Proofs.YtebgmlbbilcbbaaGreatDoor
namespace Go.Proofs.YtebgmlbbilcbbaaGreatDoor
open Go.ChangeShapes Go.WideShapes Go.ChangeAt Go.RowKit

theorem cellsU8 : Tryz.prog.cellsOf 5 = 1 := by kernel_rfl
theorem laidOut : laidOutB Tryz.prog = true := by kernel_rfl

section
variable {H : Type} {enc : TypeId × Value → H}

set_option maxRecDepth 100000 in
/-- A slice of bytes, opened. -/
theorem bdg_of {W : World} {base : Nat} {v : Value} {d : DataW H} {p : List MemPlace} (hval : Value.okWide Tryz.prog W .any base 22 v) (h : DataW.Trod enc Tryz.prog W 0 (fun _ => true) true 22 v d p) :
    ∃ (A : Option Addr) (n c : Nat) (l : List UInt8), v = .slice A n c ∧ BDg W A n c l ∧ n ≤ 9223372036854775807 := by
  obtain ⟨a1, len, cap, rfl⟩ := okWide_slice Tryz.underlying22 hval
  obtain ⟨fuel, hf⟩ := h
  rcases open_ints Tryz.underlying22 Tryz.underlying5 cellsU8 hf with ⟨hcs, _⟩ | ⟨a, len', cap', zs, hcs, _, hl, hm, hz, _, hcell, hwz⟩
  · simp [Value.cells] at hcs
    obtain ⟨rfl, rfl, rfl⟩ := hcs
    exact ⟨none, 0, 0, [], rfl, ⟨rfl, Nat.le_refl _, fun h => absurd h (by omega)⟩, by omega⟩
  · simp [Value.cells] at hcs
    obtain ⟨rfl, rfl, rfl⟩ := hcs
    simp only [if_true] at hz
    refine ⟨some a, len, cap, (zs.take len).map fun z => UInt8.ofNat z.toNat, rfl, ⟨by rw [List.length_map, List.length_take]; omega, hl, fun hn => ?_⟩, Nat.le_trans hl hm⟩
    obtain ⟨b, o, rfl, hc⟩ := ints_at hcell (by omega)
    refine ⟨b, o, rfl, fun j e he => ?_⟩
    rw [List.getElem?_map, Option.map_eq_some_iff] at he
    obtain ⟨z, hzj, rfl⟩ := he
    rw [List.getElem?_take] at hzj
    split at hzj
    · have hj := (List.getElem?_eq_some_iff.1 hzj).1
      have h1 := hc j hj
      have h2 : zs.getD j 0 = z := by rw [List.getD_eq_getElem?_getD, hzj]; rfl
      have h3 := bounds_u8 (hwz z (List.mem_of_getElem? hzj))
      rw [h1, h2, byte_toNat (by omega)]
      congr 2
      omega
    · cases hzj

theorem trodAll_stays {W W' : World} (hb : Below W.heap.size W W') : ∀ {ts : List TypeId} {vs : List Value} {ds : List (DataW H)} {ps : List MemPlace},
    (∀ t ∈ ts, Tryz.prog.readableRec t = true ∧ t < Tryz.prog.types.size) → DataW.TrodAll enc Tryz.prog W 0 (fun _ => true) true ts vs ds ps → (∀ x ∈ ps, x.block < W.heap.size) →
    DataW.TrodAll enc Tryz.prog W' 0 (fun b => decide (b < W.heap.size)) true ts vs ds ps
  | [], vs, ds, ps, _, h, _ => by
    obtain ⟨rfl, rfl, rfl⟩ := trodAll_nil h
    exact trodAll_mk0
  | t :: ts, vs, ds, ps, hT, h, hlt => by
    obtain ⟨v0, vs0, d0, ds0, p0, q0, rfl, rfl, rfl, h0, r0⟩ := trodAll_cons h
    have ht := hT t (List.mem_cons.2 (.inl rfl))
    exact trodAll_cons_mk (Below.trod laidOut ht.1 ht.2 h0 hb (fun x hx => hlt x (List.mem_append.2 (.inl hx))))
      (trodAll_stays hb (fun t' h' => hT t' (List.mem_cons.2 (.inr h'))) r0 (fun x hx => hlt x (List.mem_append.2 (.inr hx))))

/-- Behind a law's call: true, and each argument as it was. -/
theorem law_post {f : Func} {s : ChangeSpec} {W W' : World} {args : Array Value} {ds gs : List (DataW H)} {before : List MemPlace}
    (hW : DataW.Whole enc Tryz.prog f.params.toList s.vars false W args.toList ds gs before) (hv : s.vars = []) (hr : f.resultTypes = #[4])
    (hT : ∀ t ∈ f.params.toList, Tryz.prog.readableRec t = true ∧ t < Tryz.prog.types.size)
    (hfn : s.fn H (ds ++ []) = { results := [.lit (.bool true)], args := ds }) (hb : Below W.heap.size W W') :
    s.post enc Tryz.prog f false true false false W args (.bool true) W' := by
  have hW' := hW
  obtain ⟨p, q, hA, hV, hps, hfz, hnd⟩ := hW
  have hlt : ∀ x ∈ before, x.block < W.heap.size := fun x hx => hW'.lt x hx
  rw [hv] at hV
  obtain ⟨rfl, rfl⟩ := trodVars_none hV
  rw [List.append_nil] at hps
  subst hps
  refine ⟨ds, [], before, [], before, [], hW', ?_, ?_, ?_, World.keptBut_mono (fun p hp => ⟨hp, .inr (.inl hp)⟩) (hb.frame (· ∈ before)), fun h => by cases h⟩
  · rw [hfn, hr]
    exact trodAll_mk1 (shut_bool Tryz.underlying4 _)
  · rw [hfn]
    exact trodAll_stays hb hT hA hlt
  · rw [hfn, hv]
    rfl
end

end Go.Proofs.YtebgmlbbilcbbaaGreatDoor
namespace Go.Proofs.YtebgmlbbilcbbaaGreatDoor
open Go.ChangeShapes Go.WideShapes Go.ChangeAt Go.RowKit
section
variable {H : Type} {enc : TypeId × Value → H}
set_option maxRecDepth 100000 in
theorem i64_of {W : World} {base : Nat} {v : Value} {d : DataW H} {p : List MemPlace} (hval : Value.okWide Tryz.prog W .any base 3 v) (h : DataW.Trod enc Tryz.prog W 0 (fun _ => true) true 3 v d p) :
    ∃ z : Int, v = .int .i64 z ∧ -9223372036854775808 ≤ z ∧ z ≤ 9223372036854775807 := by
  obtain ⟨z, rfl, rfl, rfl, hw⟩ := open_int Tryz.underlying3 hval h
  exact ⟨z, rfl, bounds_i64 hw⟩
set_option maxRecDepth 100000 in
theorem u8_of {W : World} {base : Nat} {v : Value} {d : DataW H} {p : List MemPlace} (hval : Value.okWide Tryz.prog W .any base 5 v) (h : DataW.Trod enc Tryz.prog W 0 (fun _ => true) true 5 v d p) :
    ∃ z : Nat, v = .int .u8 (z : Int) ∧ z ≤ 255 := by
  obtain ⟨z, rfl, rfl, rfl, hw⟩ := open_int Tryz.underlying5 hval h
  have hb := bounds_u8 hw
  exact ⟨z.toNat, by rw [Int.toNat_of_nonneg hb.1], by omega⟩
end
end Go.Proofs.YtebgmlbbilcbbaaGreatDoor
namespace Go.Proofs.YtebgmlbbilcbbaaGreatDoor
open Go.ChangeShapes Go.WideShapes Go.ChangeAt Go.RowKit
section
variable {H : Type} {enc : TypeId × Value → H}
/-- The integer of a value. -/
def intIn : Value → Int
  | .int _ z => z
  | _ => 0
theorem arr_of {P : Program} {W : World} {base : Nat} {t e : TypeId} {k : IntKind} {n : Nat} {v : Value} {d : DataW H} {p : List MemPlace} (ht : P.underlying t = some (.array n e)) (he : P.underlying e = some (.int k)) (hc : P.cellsOf e = 1) (hn : P.cellsOf t = n)
    (hval : Value.okWide P W .any base t v) (h : DataW.Trod enc P W 0 (fun _ => true) true t v d p) :
    ∃ l : List Int, v = .agg (l.map (Value.int k)).toArray ∧ l.length = n ∧ ∀ z ∈ l, (Lit.int k z).wf = true := by
  obtain ⟨cs, rfl, hsz, _⟩ : ∃ cs, v = .agg cs ∧ cs.size = P.cellsOf t ∧ Row.okWide P W .any base t cs := by
    simpa [Value.okWide, ht] using hval
  rw [hn] at hsz
  obtain ⟨fuel, hf⟩ := h
  obtain ⟨xs, m, _, _, _, hl, hel⟩ := DataW.trod_array ht hf
  have each : ∀ i, i < n → ∃ z, cs.toList[i]? = some (.int k z) ∧ (Lit.int k z).wf = true := fun i hi => by
    have h1 := hel i hi
    rw [hc, Nat.mul_one, List.getElem?_eq_getElem (by omega)] at h1
    obtain ⟨z, e1, _, hw⟩ := DataW.trod_int he h1
    refine ⟨z, ?_, hw⟩
    have h0 : ((cs.toList.drop i).take 1)[0]? = some (.int k z) := by
      have e1' : (cs.toList.drop i).take 1 = [.int k z] := e1
      rw [e1']; rfl
    simpa using h0
  refine ⟨cs.toList.map intIn, ?_, by simpa using hsz, ?_⟩
  · congr 1
    apply Array.toList_inj.1
    apply List.ext_getElem?
    intro i
    rcases Nat.lt_or_ge i n with hi | hi
    · obtain ⟨z, hz, _⟩ := each i hi
      simp only [List.getElem?_map, hz, Option.map_some, intIn]
    · rw [List.getElem?_eq_none (by simpa using hsz ▸ hi), List.getElem?_eq_none (by simpa using hsz ▸ hi)]
  · intro z hz
    obtain ⟨v, hv, rfl⟩ := List.mem_map.1 hz
    obtain ⟨i, hi⟩ := List.mem_iff_getElem?.1 hv
    have hlt : i < n := by
      have := (List.getElem?_eq_some_iff.1 hi).1
      simpa [hsz] using this
    obtain ⟨z, hz, hw⟩ := each i hlt
    rw [hz] at hi
    cases hi
    exact hw
theorem list_two {l : List Int} (h : l.length = 2) : ∃ x y, l = [x, y] := by
  match l, h with
  | [x, y], _ => exact ⟨x, y, rfl⟩
theorem list_three {l : List Int} (h : l.length = 3) : ∃ x y z, l = [x, y, z] := by
  match l, h with
  | [x, y, z], _ => exact ⟨x, y, z, rfl⟩
theorem list_six {l : List Int} (h : l.length = 6) : ∃ t u v x y z, l = [t, u, v, x, y, z] := by
  match l, h with
  | [t, u, v, x, y, z], _ => exact ⟨t, u, v, x, y, z, rfl⟩
theorem cellsInt : Tryz.prog.cellsOf 3 = 1 := by kernel_rfl
theorem cellsI2 : Tryz.prog.cellsOf 68 = 2 := by kernel_rfl
theorem cellsI3 : Tryz.prog.cellsOf 53 = 3 := by kernel_rfl
theorem cellsI6 : Tryz.prog.cellsOf 51 = 6 := by kernel_rfl
set_option maxRecDepth 100000 in
theorem i2_of {W : World} {base : Nat} {v : Value} {d : DataW H} {p : List MemPlace} (hval : Value.okWide Tryz.prog W .any base 68 v) (h : DataW.Trod enc Tryz.prog W 0 (fun _ => true) true 68 v d p) :
    ∃ x y : Int, v = .agg #[.int .i64 x, .int .i64 y] ∧ (-9223372036854775808 ≤ x ∧ x ≤ 9223372036854775807) ∧ (-9223372036854775808 ≤ y ∧ y ≤ 9223372036854775807) := by
  obtain ⟨l, rfl, hl, hw⟩ := arr_of Tryz.underlying68 Tryz.underlying3 cellsInt cellsI2 hval h
  obtain ⟨x, y, rfl⟩ := list_two hl
  exact ⟨x, y, rfl, bounds_i64 (hw x (by simp)), bounds_i64 (hw y (by simp))⟩
set_option maxRecDepth 100000 in
theorem i3_of {W : World} {base : Nat} {v : Value} {d : DataW H} {p : List MemPlace} (hval : Value.okWide Tryz.prog W .any base 53 v) (h : DataW.Trod enc Tryz.prog W 0 (fun _ => true) true 53 v d p) :
    ∃ x y z : Int, v = .agg #[.int .i64 x, .int .i64 y, .int .i64 z] ∧ (-9223372036854775808 ≤ x ∧ x ≤ 9223372036854775807) ∧ (-9223372036854775808 ≤ y ∧ y ≤ 9223372036854775807) ∧ (-9223372036854775808 ≤ z ∧ z ≤ 9223372036854775807) := by
  obtain ⟨l, rfl, hl, hw⟩ := arr_of Tryz.underlying53 Tryz.underlying3 cellsInt cellsI3 hval h
  obtain ⟨x, y, z, rfl⟩ := list_three hl
  exact ⟨x, y, z, rfl, bounds_i64 (hw x (by simp)), bounds_i64 (hw y (by simp)), bounds_i64 (hw z (by simp))⟩
set_option maxRecDepth 100000 in
theorem i6_of {W : World} {base : Nat} {v : Value} {d : DataW H} {p : List MemPlace} (hval : Value.okWide Tryz.prog W .any base 51 v) (h : DataW.Trod enc Tryz.prog W 0 (fun _ => true) true 51 v d p) :
    ∃ t u v' x y z : Int, v = .agg #[.int .i64 t, .int .i64 u, .int .i64 v', .int .i64 x, .int .i64 y, .int .i64 z] ∧ (-9223372036854775808 ≤ t ∧ t ≤ 9223372036854775807) ∧ (-9223372036854775808 ≤ u ∧ u ≤ 9223372036854775807) ∧ (-9223372036854775808 ≤ v' ∧ v' ≤ 9223372036854775807) ∧ (-9223372036854775808 ≤ x ∧ x ≤ 9223372036854775807) ∧ (-9223372036854775808 ≤ y ∧ y ≤ 9223372036854775807) ∧ (-9223372036854775808 ≤ z ∧ z ≤ 9223372036854775807) := by
  obtain ⟨l, rfl, hl, hw⟩ := arr_of Tryz.underlying51 Tryz.underlying3 cellsInt cellsI6 hval h
  obtain ⟨t, u, v', x, y, z, rfl⟩ := list_six hl
  exact ⟨t, u, v', x, y, z, rfl, bounds_i64 (hw t (by simp)), bounds_i64 (hw u (by simp)), bounds_i64 (hw v' (by simp)), bounds_i64 (hw x (by simp)), bounds_i64 (hw y (by simp)), bounds_i64 (hw z (by simp))⟩
set_option maxRecDepth 100000 in
theorem u16_of {W : World} {base : Nat} {v : Value} {d : DataW H} {p : List MemPlace} (hval : Value.okWide Tryz.prog W .any base 23 v) (h : DataW.Trod enc Tryz.prog W 0 (fun _ => true) true 23 v d p) :
    ∃ z : Nat, v = .int .u16 (z : Int) ∧ z ≤ 65535 := by
  obtain ⟨z, rfl, rfl, rfl, hw⟩ := open_int Tryz.underlying23 hval h
  have hb := bounds_u16 hw
  exact ⟨z.toNat, by rw [Int.toNat_of_nonneg hb.1], by omega⟩
set_option maxRecDepth 100000 in
theorem str_of {W : World} {base : Nat} {v : Value} {d : DataW H} {p : List MemPlace} (hval : Value.okWide Tryz.prog W .any base 9 v) (h : DataW.Trod enc Tryz.prog W 0 (fun _ => true) true 9 v d p) :
    ∃ s : ByteArray, v = .string s ∧ s.size ≤ 9223372036854775807 := by
  obtain ⟨s, rfl, _, _, hs⟩ := Go.ChangeMaps.open_string Tryz.underlying9 hval h
  exact ⟨s, rfl, hs⟩
end
end Go.Proofs.YtebgmlbbilcbbaaGreatDoor
