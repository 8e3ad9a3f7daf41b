/- The words of the cards of chapter 32: what the listed variables give, arguments opened, what is left to say behind a call. -/
import Derived.Test.YtkpinmejfdnhbaaGreatDoorCards
import Derived.Test.YtkpinmejfdnhbaaGreatDoorTie
import Derived.Test.YtkpinmejfdnhbaaGreatDoorDelOne
import Derived.ProofKit
import Derived.OpenShut
import Derived.LaidMore
import Derived.Deep.DeepHandedRow
import Derived.Deep.DeepWitnessRowRef
import Derived.Lib.LaidTab
import Derived.Carry
import Derived.ChangeMaps5
import Derived.Test.YtkpinmejfdnhbaaGreatDoorLwF
import Derived.ChangeArms
set_option maxRecDepth 100000
namespace Go.Proofs.YtkpinmejfdnhbaaGreatDoor
open Go.ChangeShapes Go.WideShapes Go.ChangeAt Go.RowKit
theorem own : ownKnob Tryz.prog.godebug = none := by kernel_rfl
noncomputable def laidWorld (os : Os) : World :=
 { World.doorLaid Tryz.prog 200 os with heap := (World.doorLaid Tryz.prog 200 os).heap.modify 6 fun
  | .cells _ t frozen => .cells (Pinned.utf8FirstZ.map fun z : Nat => Value.int .u8 (z : Int)).toArray t frozen
  | o => o }
theorem gTab : Tryz.prog.globalNamed "internal/strconv.uint64pow10" = some 2 := by kernel_rfl
theorem gK : Tryz.prog.globalNamed "sortes/digest.constants" = some 1 := by kernel_rfl
theorem gF : Tryz.prog.globalNamed "sortes/digest.first" = some 0 := by kernel_rfl
theorem gTabType : (Tryz.prog.globals[2]?).map (·.type) = some 290 := by kernel_rfl
theorem gKType : (Tryz.prog.globals[1]?).map (·.type) = some 239 := by kernel_rfl
theorem gFType : (Tryz.prog.globals[0]?).map (·.type) = some 183 := by kernel_rfl
theorem cellsTab : Tryz.prog.cellsOf 290 = 20 := by kernel_rfl
theorem cellsK : Tryz.prog.cellsOf 239 = 64 := by kernel_rfl
theorem cellsF : Tryz.prog.cellsOf 183 = 8 := by kernel_rfl
theorem cellsU64 : Tryz.prog.cellsOf 231 = 1 := by kernel_rfl
theorem cellsU32 : Tryz.prog.cellsOf 22 = 1 := by kernel_rfl
theorem tab_is : (Rows.laid_internal_strconv_uint64pow10 : DataW Unit) = Lib.tabData .u64 Lib.pow10Tab := by rfl
theorem k_is : (Rows.laid_sortes_digest_constants : DataW Unit) = Lib.tabData .u32 (kS.map fun n : Nat => (n : Int)) := by rfl
theorem f_is : (Rows.laid_sortes_digest_first : DataW Unit) = Lib.tabData .u32 (ivS.map fun n : Nat => (n : Int)) := by rfl
def laid5 : List (String × DataW Unit) := Rows.lightRoutesRow.laid
theorem laid_met5 (os : Os) (args : Array Value) : laidMet Tryz.prog laid5 ((laidWorld os).forCall (fun _ _ => 0) ⟨#[], args, []⟩).memory :=
 laidMet_of_run' 8 (by kernel_rfl) (by kernel_rfl)
theorem tabs5 {W : World} (h : laidMetH Tryz.prog laid5 W) : Tabs W := by
 have h' : laidMet Tryz.prog laid5 W := h;obtain ⟨ps, ⟨_, _, _, _, _, _, _, _, _, _, ⟨_, _, _, _, _, _, _, _, _, _, ⟨g2, t2, cs2, f2, p2, q2, hg2, ht2, hv2, hd2, ⟨g4, t4, cs4, f4, p4, q4, hg4, ht4, hv4, hd4, ⟨g5, t5, cs5, f5, p5, q5, hg5, ht5, hv5, hd5, _, _⟩, _⟩, _⟩, _⟩, _⟩, _, _⟩ := h';refine ⟨?_, ?_, ?_⟩
 ·obtain rfl := Option.some.inj (gK.symm.trans hg5);obtain rfl := Option.some.inj (gKType.symm.trans ht5);rw [k_is] at hd5;unfold KTab Lib.TabIs;rw [hv5, ← Lib.cells_of_tab Tryz.underlying239 Tryz.underlying22 cellsU32 cellsK hd5]
 ·obtain rfl := Option.some.inj (gF.symm.trans hg4);obtain rfl := Option.some.inj (gFType.symm.trans ht4);rw [f_is] at hd4;unfold FTab Lib.TabIs;rw [hv4, ← Lib.cells_of_tab Tryz.underlying183 Tryz.underlying22 cellsU32 cellsF hd4]
 ·obtain rfl := Option.some.inj (gTab.symm.trans hg2);obtain rfl := Option.some.inj (gTabType.symm.trans ht2);rw [tab_is] at hd2;unfold Pow10 Lib.TabIs;rw [hv2, ← Lib.cells_of_tab Tryz.underlying290 Tryz.underlying231 cellsU64 cellsTab hd2]
theorem cellsU8 : Tryz.prog.cellsOf 5 = 1 := by kernel_rfl
theorem laidOut : laidOutB Tryz.prog = true := by kernel_rfl
section
variable {H : Type} {enc : TypeId × Value → H}
theorem bdg_of {W : World} {base : Nat} {v : Value} {d : DataW H} {p : List MemPlace} (hval : Value.okWide Tryz.prog W .any base 116 v) (h : DataW.Trod enc Tryz.prog W 0 (fun _ => true) true 116 v d p) :
 ∃ (A : Option Addr) (n c : Nat) (l : List UInt8), v = .slice A n c ∧ BDg W A n c l ∧ n ≤ 9223372036854775807 := by
 obtain ⟨a1, len, cap, rfl⟩ := okWide_slice Tryz.underlying116 hval;obtain ⟨fuel, hf⟩ := h
 rcases open_ints Tryz.underlying116 Tryz.underlying5 cellsU8 hf with ⟨hcs, _⟩ | ⟨a, len', cap', zs, hcs, _, hl, hm, hz, _, hcell, hwz⟩
 ·simp [Value.cells] at hcs
  obtain ⟨rfl, rfl, rfl⟩ := hcs;exact ⟨none, 0, 0, [], rfl, ⟨rfl, Nat.le_refl _, fun h => absurd h (by omega)⟩, by omega⟩
 ·simp [Value.cells] at hcs
  obtain ⟨rfl, rfl, rfl⟩ := hcs;simp only [if_true] at hz;refine ⟨some a, len, cap, (zs.take len).map fun z => UInt8.ofNat z.toNat, rfl, ⟨by rw [List.length_map, List.length_take]; omega, hl, fun hn => ?_⟩, Nat.le_trans hl hm⟩;obtain ⟨b, o, rfl, hc⟩ := ints_at hcell (by omega);refine ⟨b, o, rfl, fun j e he => ?_⟩;rw [List.getElem?_map, Option.map_eq_some_iff] at he;obtain ⟨z, hzj, rfl⟩ := he;rw [List.getElem?_take] at hzj
  split at hzj
  ·have hj := (List.getElem?_eq_some_iff.1 hzj).1;have h1 := hc j hj;have h2 : zs.getD j 0 = z := by rw [List.getD_eq_getElem?_getD, hzj]; rfl
   have h3 := bounds_u8 (hwz z (List.mem_of_getElem? hzj));rw [h1, h2, byte_toNat (by omega)]
   congr 2
   omega
  ·cases hzj
theorem trodAll_stays {W W' : World} (hb : Below W.heap.size W W') : ∀ {ts : List TypeId} {vs : List Value} {ds : List (DataW H)} {ps : List MemPlace},
 (∀ t ∈ ts, Tryz.prog.readableRec t = true ∧ t < Tryz.prog.types.size) → DataW.TrodAll enc Tryz.prog W 0 (fun _ => true) true ts vs ds ps → (∀ x ∈ ps, x.block < W.heap.size) →
 DataW.TrodAll enc Tryz.prog W' 0 (fun b => decide (b < W.heap.size)) true ts vs ds ps
 | [], vs, ds, ps, _, h, _ => by
   obtain ⟨rfl, rfl, rfl⟩ := trodAll_nil h;exact trodAll_mk0
 | t :: ts, vs, ds, ps, hT, h, hlt => by
   obtain ⟨v0, vs0, d0, ds0, p0, q0, rfl, rfl, rfl, h0, r0⟩ := trodAll_cons h;have ht := hT t (List.mem_cons.2 (.inl rfl));exact trodAll_cons_mk (Below.trod laidOut ht.1 ht.2 h0 hb (fun x hx => hlt x (List.mem_append.2 (.inl hx))))
    (trodAll_stays hb (fun t' h' => hT t' (List.mem_cons.2 (.inr h'))) r0 (fun x hx => hlt x (List.mem_append.2 (.inr hx))))
theorem law_post {f : Func} {s : ChangeSpec} {W W' : World} {args : Array Value} {ds gs : List (DataW H)} {before : List MemPlace}
 (hW : DataW.Whole enc Tryz.prog f.params.toList s.vars false W args.toList ds gs before) (hv : s.vars = []) (hr : f.resultTypes = #[4])
 (hT : ∀ t ∈ f.params.toList, Tryz.prog.readableRec t = true ∧ t < Tryz.prog.types.size)
 (hfn : s.fn H (ds ++ []) = { results := [.lit (.bool true)], args := ds }) (hb : Below W.heap.size W W') :
 s.post enc Tryz.prog f false true false false W args (.bool true) W' := by
 have hW' := hW;obtain ⟨p, q, hA, hV, hps, hfz, hnd⟩ := hW;have hlt : ∀ x ∈ before, x.block < W.heap.size := fun x hx => hW'.lt x hx;rw [hv] at hV;obtain ⟨rfl, rfl⟩ := trodVars_none hV;rw [List.append_nil] at hps;subst hps;refine ⟨ds, [], before, [], before, [], hW', ?_, ?_, ?_, World.keptBut_mono (fun p hp => ⟨hp, .inr (.inl hp)⟩) (hb.frame (· ∈ before)), fun h => by cases h⟩
 ·rw [hfn, hr];exact trodAll_mk1 (shut_bool Tryz.underlying4 _)
 ·rw [hfn];exact trodAll_stays hb hT hA hlt
 ·rw [hfn, hv]
  rfl
end
end Go.Proofs.YtkpinmejfdnhbaaGreatDoor
namespace Go.Proofs.YtkpinmejfdnhbaaGreatDoor
open Go.ChangeShapes Go.WideShapes Go.ChangeAt Go.RowKit
section
variable {H : Type} {enc : TypeId × Value → H}
end
end Go.Proofs.YtkpinmejfdnhbaaGreatDoor
namespace Go.Proofs.YtkpinmejfdnhbaaGreatDoor
open Go.ChangeShapes Go.WideShapes Go.ChangeAt Go.RowKit
section
variable {H : Type} {enc : TypeId × Value → H}
def intIn : Value → Int
 | .int _ z => z
 | _ => 0
theorem arr_of {P : Program} {W : World} {base : Nat} {t e : TypeId} {k : IntKind} {n : Nat} {v : Value} {d : DataW H} {p : List MemPlace} (ht : P.underlying t = some (.array n e)) (he : P.underlying e = some (.int k)) (hc : P.cellsOf e = 1) (hn : P.cellsOf t = n)
 (hval : Value.okWide P W .any base t v) (h : DataW.Trod enc P W 0 (fun _ => true) true t v d p) :
 ∃ l : List Int, v = .agg (l.map (Value.int k)).toArray ∧ l.length = n ∧ ∀ z ∈ l, (Lit.int k z).wf = true := by
 obtain ⟨cs, rfl, hsz, _⟩ : ∃ cs, v = .agg cs ∧ cs.size = P.cellsOf t ∧ Row.okWide P W .any base t cs := by
  simpa [Value.okWide, ht] using hval
 rw [hn] at hsz;obtain ⟨fuel, hf⟩ := h;obtain ⟨xs, m, _, _, _, hl, hel⟩ := DataW.trod_array ht hf;have each : ∀ i, i < n → ∃ z, cs.toList[i]? = some (.int k z) ∧ (Lit.int k z).wf = true := fun i hi => by
  have h1 := hel i hi;rw [hc, Nat.mul_one, List.getElem?_eq_getElem (by omega)] at h1;obtain ⟨z, e1, _, hw⟩ := DataW.trod_int he h1;refine ⟨z, ?_, hw⟩;have h0 : ((cs.toList.drop i).take 1)[0]? = some (.int k z) := by
   have e1' : (cs.toList.drop i).take 1 = [.int k z] := e1;rw [e1']; rfl
  simpa using h0
 refine ⟨cs.toList.map intIn, ?_, by simpa using hsz, ?_⟩
 ·congr 1
  apply Array.toList_inj.1
  apply List.ext_getElem?
  intro i
  rcases Nat.lt_or_ge i n with hi | hi
  ·obtain ⟨z, hz, _⟩ := each i hi;simp only [List.getElem?_map, hz, Option.map_some, intIn]
  ·rw [List.getElem?_eq_none (by simpa using hsz ▸ hi), List.getElem?_eq_none (by simpa using hsz ▸ hi)]
 ·intro z hz;obtain ⟨v, hv, rfl⟩ := List.mem_map.1 hz;obtain ⟨i, hi⟩ := List.mem_iff_getElem?.1 hv;have hlt : i < n := by
   have := (List.getElem?_eq_some_iff.1 hi).1
   simpa [hsz] using this
  obtain ⟨z, hz, hw⟩ := each i hlt;rw [hz] at hi
  cases hi
  exact hw
theorem list_two {l : List Int} (h : l.length = 2) : ∃ x y, l = [x, y] := by
 match l, h with
 | [x, y], _ => exact ⟨x, y, rfl⟩
theorem list_three {l : List Int} (h : l.length = 3) : ∃ x y z, l = [x, y, z] := by
 match l, h with
 | [x, y, z], _ => exact ⟨x, y, z, rfl⟩
theorem cellsInt : Tryz.prog.cellsOf 3 = 1 := by kernel_rfl
theorem cellsI3 : Tryz.prog.cellsOf 65 = 3 := by kernel_rfl
theorem i3_of {W : World} {base : Nat} {v : Value} {d : DataW H} {p : List MemPlace} (hval : Value.okWide Tryz.prog W .any base 65 v) (h : DataW.Trod enc Tryz.prog W 0 (fun _ => true) true 65 v d p) :
 ∃ x y z : Int, v = .agg #[.int .i64 x, .int .i64 y, .int .i64 z] ∧ (-9223372036854775808 ≤ x ∧ x ≤ 9223372036854775807) ∧ (-9223372036854775808 ≤ y ∧ y ≤ 9223372036854775807) ∧ (-9223372036854775808 ≤ z ∧ z ≤ 9223372036854775807) := by
 obtain ⟨l, rfl, hl, hw⟩ := arr_of Tryz.underlying65 Tryz.underlying3 cellsInt cellsI3 hval h;obtain ⟨x, y, z, rfl⟩ := list_three hl;exact ⟨x, y, z, rfl, bounds_i64 (hw x (by simp)), bounds_i64 (hw y (by simp)), bounds_i64 (hw z (by simp))⟩
end
end Go.Proofs.YtkpinmejfdnhbaaGreatDoor
namespace Go.Proofs.YtkpinmejfdnhbaaGreatDoor
open Go.ChangeShapes Go.WideShapes Go.ChangeAt Go.RowKit
section
variable {H : Type} {enc : TypeId × Value → H}
theorem ints_of {W : World} {m : Nat} {cs : List Value} {x : DataW H × List MemPlace} (h : DataW.trod enc Tryz.prog W 0 (fun _ => true) true m 25 cs = some x) :
 ∃ (A : Option Addr) (n c : Nat) (l : List Int), cs = [.slice A n c] ∧ RowI W A n c l ∧ (∀ x ∈ l, I64 x) ∧ n ≤ 9223372036854775807 := by
 rcases open_ints Tryz.underlying25 Tryz.underlying3 cellsInt h with ⟨rfl, _⟩ | ⟨a, len, cap, zs, rfl, _, hl, hm, hz, _, hcell, hwz⟩
 ·exact ⟨none, 0, 0, [], rfl, ⟨rfl, Nat.le_refl _, fun h => absurd h (by omega)⟩, fun x hx => by simp at hx, by omega⟩
 ·simp only [if_true] at hz;refine ⟨some a, len, cap, zs.take len, rfl, ⟨by rw [List.length_take]; omega, hl, fun hn => ?_⟩, fun x hx => bounds_i64 (hwz x (List.mem_of_mem_take hx)), Nat.le_trans hl hm⟩;obtain ⟨b, o, rfl, hc⟩ := ints_at hcell (by omega);refine ⟨b, o, rfl, fun j k x u hx hu => ?_⟩;have hk : k = 0 := by
   have := (List.getElem?_eq_some_iff.1 hu).1;rw [encI_len] at this; omega
  subst hk;obtain rfl := Option.some.inj hu;rw [List.getElem?_take] at hx
  split at hx
  ·have hj := (List.getElem?_eq_some_iff.1 hx).1;have h1 := hc j hj;rw [List.getD_eq_getElem?_getD, hx] at h1;rw [Nat.mul_one, Nat.add_zero];exact h1
  ·cases hx
theorem il_of {W : World} {base : Nat} {v : Value} {d : DataW H} {p : List MemPlace} (hval : Value.okWide Tryz.prog W .any base 25 v) (h : DataW.Trod enc Tryz.prog W 0 (fun _ => true) true 25 v d p) :
 ∃ (A : Option Addr) (n c : Nat) (l : List Int), v = .slice A n c ∧ RowI W A n c l ∧ (∀ x ∈ l, I64 x) ∧ n ≤ 9223372036854775807 := by
 obtain ⟨a1, len, cap, rfl⟩ := okWide_slice Tryz.underlying25 hval;obtain ⟨fuel, hf⟩ := h;obtain ⟨A, n, c, l, e, q⟩ := ints_of hf
 simp [Value.cells] at e
 obtain ⟨rfl, rfl, rfl⟩ := e;exact ⟨_, _, _, l, rfl, q⟩
end
end Go.Proofs.YtkpinmejfdnhbaaGreatDoor
