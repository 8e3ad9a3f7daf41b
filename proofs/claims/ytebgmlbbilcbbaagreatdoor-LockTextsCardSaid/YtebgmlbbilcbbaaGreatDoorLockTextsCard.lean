/- The law LockTexts, as the seat states it (a tied card): for every input the call returns true, and each argument reads afterwards as it read before; the seven listed variables of the library are as the program's text lays them. -/
import Derived.Test.YtebgmlbbilcbbaaGreatDoorDelFacts
import Derived.Test.YtebgmlbbilcbbaaGreatDoorDelCards
import Derived.Test.YtebgmlbbilcbbaaGreatDoorDelU
import Derived.Stop.LaidErr
import Derived.Shelf.Vars
import Derived.Test.YtebgmlbbilcbbaaGreatDoorTxtAll
namespace Go.Proofs.YtebgmlbbilcbbaaGreatDoor
open Go.ChangeShapes Go.WideShapes Go.ChangeAt Go.RowKit

/-- The nine variables that the row lists. -/
def laid9 : List (String × DataW Unit) := Rows.delayResumesRow.laid

theorem gES : Tryz.prog.globalNamed "strconv.ErrSyntax" = some 2 := by kernel_rfl
theorem gER : Tryz.prog.globalNamed "strconv.ErrRange" = some 3 := by kernel_rfl
theorem gESType : (Tryz.prog.globals[2]?).map (·.type) = some 137 := by kernel_rfl
theorem gERType : (Tryz.prog.globals[3]?).map (·.type) = some 137 := by kernel_rfl
theorem cellsES : Tryz.prog.cellsOf 253 = 1 := by kernel_rfl
theorem cellsStr : Tryz.prog.cellsOf 9 = 1 := by kernel_rfl
theorem starES : "*" ++ "errors.errorString" = "*errors.errorString" := by decide
theorem rowES (u : TypeId) (h : Tryz.prog.typeName? 3 u = some "*errors.errorString") : u = 251 :=
  typeName_ptr_named (nm := "errors.errorString") (by rw [starES]; kernel_rfl) (by kernel_rfl) (by decide) u (by rw [starES]; exact h)

/-- What the list gives: the tables. -/
theorem tabs9 {W : World} (h : laidMetH Tryz.prog laid9 W) : Tabs W := by
  have h0 : laidMet Tryz.prog laid9 W := h
  have h2 := h0.tail.tail
  obtain ⟨_, ⟨g2, t2, cs2, f2, p2, q2, hg2, ht2, hv2, hd2, _, _⟩, _, _⟩ := h2
  obtain ⟨_, ⟨g4, t4, cs4, f4, p4, q4, hg4, ht4, hv4, hd4, ⟨g5, t5, cs5, f5, p5, q5, hg5, ht5, hv5, hd5, _, _⟩, _⟩, _, _⟩ := h0.tail.tail.tail.tail.tail.tail
  refine ⟨?_, ?_, ?_⟩
  · obtain rfl := Option.some.inj (gK.symm.trans hg5)
    obtain rfl := Option.some.inj (gKType.symm.trans ht5)
    rw [k_is] at hd5
    unfold KTab Lib.TabIs
    rw [hv5, ← Lib.cells_of_tab Tryz.underlying170 Tryz.underlying140 cellsU32 cellsK hd5]
  · obtain rfl := Option.some.inj (gF.symm.trans hg4)
    obtain rfl := Option.some.inj (gFType.symm.trans ht4)
    rw [f_is] at hd4
    unfold FTab Lib.TabIs
    rw [hv4, ← Lib.cells_of_tab Tryz.underlying141 Tryz.underlying140 cellsU32 cellsF hd4]
  · obtain rfl := Option.some.inj (gTab.symm.trans hg2)
    obtain rfl := Option.some.inj (gTabType.symm.trans ht2)
    rw [tab_is] at hd2
    unfold Pow10 Lib.TabIs
    rw [hv2, ← Lib.cells_of_tab Tryz.underlying238 Tryz.underlying160 cellsU64 cellsTab hd2]
/-- The two errors. -/
theorem errs9 {W : World} (h : laidMetH Tryz.prog laid9 W) : ErrV W := by
  have h0 : laidMet Tryz.prog laid9 W := h
  have h4 := h0.tail.tail.tail.tail
  obtain ⟨a0, s0, hv0, -, -, -⟩ := laid_sentinel h4 gER gERType Tryz.underlying137 rowES Tryz.underlying251 Tryz.underlying253 rfl rfl Tryz.underlying9 cellsES cellsStr
  obtain ⟨a1, s1, hv1, -, -, -⟩ := laid_sentinel h4.tail gES gESType Tryz.underlying137 rowES Tryz.underlying251 Tryz.underlying253 rfl rfl Tryz.underlying9 cellsES cellsStr
  exact ⟨⟨_, by have h0 := World.var?_cell gES hv1 0; simpa using h0, .inr ⟨_, _, rfl⟩⟩, ⟨_, by have h0 := World.var?_cell gER hv0 0; simpa using h0, .inr ⟨_, _, rfl⟩⟩⟩
/-- The variable that Split reads holds an integer. -/
theorem maxL_of {W : World} (h : W.ShapedOpen Tryz.prog) : MaxL W :=
  cell_of_shapedOpen_int (zero := #[.int .i64 0]) h (of_decide_eq_true (by kernel_rfl)) (by kernel_rfl) rfl (by kernel_rfl) (by kernel_rfl) Tryz.underlying3

set_option maxRecDepth 100000 in
theorem laid_met9 (os : Os) (args : Array Value) : laidMet Tryz.prog laid9 ((laidWorld os).forCall (fun _ _ => 0) ⟨#[], args, []⟩).memory :=
  laidMet_of_run' 8 (by kernel_rfl) (by kernel_rfl)

end Go.Proofs.YtebgmlbbilcbbaaGreatDoor
namespace Go.Proofs.YtebgmlbbilcbbaaGreatDoor.lockTexts
open Go.ChangeShapes Go.WideShapes Go.ChangeAt Go.RowKit

set_option maxRecDepth 100000 in
theorem contract (H : Type) (enc : TypeId × Value → H) (W : World) (base : Nat) (args : Array Value) (ds gs : List (DataW H)) (before : List MemPlace)
    (hval : ∀ (j : Nat) t v, Tryz.f16.params[j]? = some t → args[j]? = some v → Value.okWide Tryz.prog W .any base t v)
    (hW : DataW.Whole enc Tryz.prog Tryz.f16.params.toList Rows.lockTextsSpec.vars false W args.toList ds gs before) (hL : laidMetH Tryz.prog laid9 W) (hsh : W.ShapedOpen Tryz.prog) :
    Calls Tryz.prog 16 args W fun e W' => ∃ v, e = .returned v ∧ Rows.lockTextsSpec.post enc Tryz.prog Tryz.f16 false true false false W args v W' := by
  have hW' := hW
  obtain ⟨p, q, hA0, hV, hps, hfz, hnd⟩ := hW
  have hA : DataW.TrodAll enc Tryz.prog W 0 (fun _ => true) true Tryz.f16.params.toList args.toList ds p := hA0
  rw [Tryz.params16] at hA hval
  obtain ⟨v0, vs0, d0, ds0, p0, q0, hargs, rfl, rfl, h0, r0⟩ := trodAll_cons hA
  obtain ⟨v1, vs1, d1, ds1, p1, q1, rfl, rfl, rfl, h1, r1⟩ := trodAll_cons r0
  obtain ⟨v2, vs2, d2, ds2, p2, q2, rfl, rfl, rfl, h2, r2⟩ := trodAll_cons r1
  obtain ⟨rfl, rfl, rfl⟩ := trodAll_nil r2
  obtain rfl : args = #[v0, v1, v2] := by cases args; simp_all
  obtain ⟨c0, rfl, hc0, hi0, hx0⟩ := com_in (hval 0 73 v0 rfl rfl) h0
  obtain ⟨z1, rfl, hz1⟩ := str_of (hval 1 9 v1 rfl rfl) h1
  obtain ⟨z2, y2, rfl, hz2, hy2⟩ := i2_of (hval 2 68 v2 rfl rfl) h2
  refine (LockTexts_any c0 z1 z2 y2 W (tabs9 hL) (errs9 hL) (maxL_of hsh) hc0 hi0 hx0 hz1 hz2 hy2).mono fun e W' ⟨he, hbw⟩ => ?_
  subst he
  refine ⟨_, rfl, law_post hW' rfl (by kernel_rfl) (fun t ht => ?_) rfl hbw⟩
  have hall : (Tryz.f16.params.toList.all fun t => Tryz.prog.readableRec t && decide (t < Tryz.prog.types.size)) = true := by kernel_rfl
  simpa using List.all_eq_true.1 hall t ht

/-- The zero commitment. -/
def zeroCom : Value := .agg (#[Value.int .i64 0] ++ Array.replicate 32 (Value.int .u8 0) ++ #[Value.string ⟨#[]⟩])
theorem reads (os : Os) {H : Type} (enc : TypeId × Value → H) : ∃ places, DataW.whole enc Tryz.prog ((laidWorld os).forCall (fun _ _ => 0) ⟨#[], #[zeroCom, .string ⟨#[]⟩, .agg #[.int .i64 0, .int .i64 0]], []⟩).memory Tryz.f16.params.toList Rows.lockTextsSpec.vars false (#[zeroCom, .string ⟨#[]⟩, .agg #[.int .i64 0, .int .i64 0]] : Array Value).toList 8 = some ([.agg [.lit (.int .i64 0), .agg [.lit (.int .u8 0), .lit (.int .u8 0), .lit (.int .u8 0), .lit (.int .u8 0), .lit (.int .u8 0), .lit (.int .u8 0), .lit (.int .u8 0), .lit (.int .u8 0), .lit (.int .u8 0), .lit (.int .u8 0), .lit (.int .u8 0), .lit (.int .u8 0), .lit (.int .u8 0), .lit (.int .u8 0), .lit (.int .u8 0), .lit (.int .u8 0), .lit (.int .u8 0), .lit (.int .u8 0), .lit (.int .u8 0), .lit (.int .u8 0), .lit (.int .u8 0), .lit (.int .u8 0), .lit (.int .u8 0), .lit (.int .u8 0), .lit (.int .u8 0), .lit (.int .u8 0), .lit (.int .u8 0), .lit (.int .u8 0), .lit (.int .u8 0), .lit (.int .u8 0), .lit (.int .u8 0), .lit (.int .u8 0)], .lit (.string [])], .lit (.string []), .agg [.lit (.int .i64 0), .lit (.int .i64 0)]], [], places) :=
  ⟨[], by kernel_rfl⟩

set_option maxRecDepth 100000 in
theorem lifted (os : Os) (started : os.Started) (H : Type) (enc : TypeId × Value → H) (F : Stop.Interp) :
    ReturnsInHanded {} Tryz.checked os 16 .any ((OpenSpec.ofChange Rows.lockTextsSpec).preRow enc Tryz.prog Tryz.f16 Rows.lockTextsRow.domain false Rows.lockTextsRow.laid) (((OpenSpec.ofChange Rows.lockTextsSpec).at F).post enc Tryz.prog Tryz.f16 false true false false) := by
  obtain ⟨places, hx⟩ := reads os enc
  refine returnsInHanded_of_row (C := Tryz.checked) (s := OpenSpec.ofChange Rows.lockTextsSpec) own started (by kernel_rfl) Tryz.func16
    (witness_row_atRef (enc := enc) (C := Tryz.checked) false (laidWorld os) #[zeroCom, .string ⟨#[]⟩, .agg #[.int .i64 0, .int .i64 0]] rfl (by kernel_rfl) (by kernel_rfl) (by kernel_rfl)
      (OpenSpec.preRow_of_cond 8 hx (by kernel_rfl) (fun k hk => by cases hk) (by kernel_rfl) (laid_met9 os _))) ?_
  intro W base args ds gs before hval hW _ _ _ hL hsh _
  exact contract H enc W base args ds gs before hval hW hL hsh

theorem k1 : Rows.lockTextsRow.wf (OpenSpec.ofChange (OpenSpec.ofChange Rows.lockTextsSpec).bare) = true := by kernel_rfl
theorem k5 : namedTie Tryz.prog Rows.lockTextsRow.named (OpenSpec.ofChange Rows.lockTextsSpec).bare.vars = true := by kernel_rfl
theorem k10 : (Rows.lockTextsRow.inPlace == Tryz.prog.inPlace 16) = true := by kernel_rfl
theorem k11 : (Rows.lockTextsRow.unfollowed == Tryz.prog.unfollowed 16) = true := by kernel_rfl
theorem k12 : (Rows.lockTextsRow.recurses == Tryz.prog.recurses 16) = true := by kernel_rfl
theorem k13 : (Rows.lockTextsRow.named == Tryz.prog.varsNamed 16) = true := by kernel_rfl
theorem closed : joinedFacts Tryz.prog 16 Tryz.f16 (OpenSpec.ofChange Rows.lockTextsSpec).bare Rows.lockTextsRow = true := by
  unfold joinedFacts
  simp only [Bool.and_eq_true]
  refine ⟨⟨⟨⟨⟨⟨⟨⟨⟨⟨⟨⟨⟨⟨⟨⟨⟨⟨⟨⟨⟨⟨⟨⟨⟨⟨⟨⟨⟨⟨⟨k1, laidOut⟩, fRowed⟩, ?_⟩, k5⟩, ?_⟩, fStops⟩, ?_⟩, fKnobs⟩, k10⟩, k11⟩, k12⟩, k13⟩, ?_⟩, ?_⟩, ?_⟩, ?_⟩, ?_⟩, ?_⟩, ?_⟩, ?_⟩, ?_⟩, fKeys⟩, ?_⟩, fHeard⟩, fEnter⟩, fLifted⟩, fMake⟩, ?_⟩, ?_⟩, ?_⟩, ?_⟩
  all_goals (as_aux_lemma => kernel_rfl)

theorem said : Rows.LockTextsSaid :=
  OpenClaim.holds_of_cond 16 Tryz.f16 rfl rfl rfl rfl rfl rfl rfl ⟨rfl, rfl, rfl, rfl, rfl⟩ rfl rfl rfl rfl rfl (by as_aux_lemma => kernel_rfl) Tryz.func16 closed
    (of_decide_eq_true (by as_aux_lemma => kernel_rfl)) (by unfold Func.isWrapper; first | (rw [if_pos (by decide +kernel)]; kernel_rfl) | (rw [if_neg (by decide +kernel)]; exact ⟨rfl, rfl⟩))
    (fun os started H enc _ F => by rw [OpenClaim.pre_eq_preRow]; exact lifted os started H enc F)

theorem plain (f : FuncId) (fn : Func) (hf : Tryz.pinned.checked.prog.funcNamed "sortes/sorteslaw11.LockTexts" = some f) (hfn : Tryz.pinned.checked.prog.funcs[f]? = some fn) :
    true = Tryz.pinned.checked.prog.looks [] ∧ ∀ (j : Nat) t, fn.params[j]? = some t → Tryz.pinned.checked.prog.wantsStandIn t = false := by
  obtain rfl : f = 16 := Option.some.inj ((show Tryz.prog.funcNamed "sortes/sorteslaw11.LockTexts" = some 16 by kernel_rfl).symm.trans hf) |>.symm
  obtain rfl : fn = Tryz.f16 := (Option.some.inj (Tryz.func16.symm.trans hfn)).symm
  refine ⟨by kernel_rfl, fun j t ht => ?_⟩
  have hall : (Tryz.f16.params.toList.all fun u => !Tryz.prog.wantsStandIn u) = true := by kernel_rfl
  have hm : t ∈ Tryz.f16.params.toList := by simpa using Array.mem_of_getElem? ht
  exact (show Tryz.prog.wantsStandIn t = false by simpa using List.all_eq_true.1 hall t hm)

end Go.Proofs.YtebgmlbbilcbbaaGreatDoor.lockTexts
namespace Go.Proofs.YtebgmlbbilcbbaaGreatDoor
open Go

/-- The card. -/
theorem lockTexts_card : Rows.LockTextsCardSaid :=
  Claim7.holds_tied_plain_at .later [] _ _ _ _ lockTexts.said (fun _ h => by cases h) (by kernel_rfl) (fun _ h => by cases h) lockTexts_row_tie rfl ⟨rfl, rfl⟩ (by kernel_rfl) rfl lockTexts.plain (by kernel_rfl)
#print axioms lockTexts_card
end Go.Proofs.YtebgmlbbilcbbaaGreatDoor
