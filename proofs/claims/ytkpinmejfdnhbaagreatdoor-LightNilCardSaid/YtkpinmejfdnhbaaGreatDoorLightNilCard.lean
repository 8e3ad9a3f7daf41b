/- The law LightNil, as the seat states it (a tied card): for every input the call returns true, and each argument reads afterwards as it read before; the seven listed variables of the library are as the program's text lays them. -/
import Derived.Test.YtkpinmejfdnhbaaGreatDoorLiFacts
import Derived.Test.YtkpinmejfdnhbaaGreatDoorLlI
namespace Go.Proofs.YtkpinmejfdnhbaaGreatDoor.lightNil
open Go.ChangeShapes Go.WideShapes Go.ChangeAt Go.RowKit

set_option maxRecDepth 100000 in
theorem contract (H : Type) (enc : TypeId × Value → H) (W : World) (base : Nat) (args : Array Value) (ds gs : List (DataW H)) (before : List MemPlace)
 (hval : ∀ (j : Nat) t v, Tryz.f8.params[j]? = some t → args[j]? = some v → Value.okWide Tryz.prog W .any base t v)
 (hW : DataW.Whole enc Tryz.prog Tryz.f8.params.toList Rows.lightNilSpec.vars false W args.toList ds gs before) (hL : laidMetH Tryz.prog laid7 W) :
 Calls Tryz.prog 8 args W fun e W' => ∃ v, e = .returned v ∧ Rows.lightNilSpec.post enc Tryz.prog Tryz.f8 false true false false W args v W' := by
 have hW' := hW
 obtain ⟨p, q, hA0, hV, hps, hfz, hnd⟩ := hW
 have hA : DataW.TrodAll enc Tryz.prog W 0 (fun _ => true) true Tryz.f8.params.toList args.toList ds p := hA0
 rw [Tryz.params8] at hA hval
 obtain ⟨v0, vs0, d0, ds0, p0, q0, hargs, rfl, rfl, h0, r0⟩ := trodAll_cons hA
 obtain ⟨v1, vs1, d1, ds1, p1, q1, rfl, rfl, rfl, h1, r1⟩ := trodAll_cons r0
 obtain ⟨rfl, rfl, rfl⟩ := trodAll_nil r1
 obtain rfl : args = #[v0, v1] := by cases args; simp_all
 obtain ⟨A0, n0, c0, l0, rfl, hb0, hI0, hn0⟩ := il_of (hval 0 25 v0 rfl rfl) h0
 obtain ⟨z1, y1, x1, rfl, hz1, hy1, hx1⟩ := i3_of (hval 1 65 v1 rfl rfl) h1
 refine (LightNil_any _ _ _ l0 z1 y1 x1 W (tabs_of hL) hb0 hI0 hn0 hz1 hy1 hx1).mono fun e W' ⟨he, hbw⟩ => ?_
 subst he
 refine ⟨_, rfl, law_post hW' rfl (by kernel_rfl) (fun t ht => ?_) rfl hbw⟩
 have hall : (Tryz.f8.params.toList.all fun t => Tryz.prog.readableRec t && decide (t < Tryz.prog.types.size)) = true := by kernel_rfl
 simpa using List.all_eq_true.1 hall t ht

theorem reads (os : Os) {H : Type} (enc : TypeId × Value → H) : ∃ places, DataW.whole enc Tryz.prog ((laidWorld os).forCall (fun _ _ => 0) ⟨#[], #[.slice none 0 0, .agg #[.int .i64 0, .int .i64 0, .int .i64 0]], []⟩).memory Tryz.f8.params.toList Rows.lightNilSpec.vars false (#[.slice none 0 0, .agg #[.int .i64 0, .int .i64 0, .int .i64 0]] : Array Value).toList 8 = some ([.nil, .agg [.lit (.int .i64 0), .lit (.int .i64 0), .lit (.int .i64 0)]], [], places) :=
 ⟨[], by kernel_rfl⟩

set_option maxRecDepth 100000 in
theorem lifted (os : Os) (started : os.Started) (H : Type) (enc : TypeId × Value → H) (F : Stop.Interp) :
 ReturnsInHanded {} Tryz.checked os 8 .any ((OpenSpec.ofChange Rows.lightNilSpec).preRow enc Tryz.prog Tryz.f8 Rows.lightNilRow.domain false Rows.lightNilRow.laid) (((OpenSpec.ofChange Rows.lightNilSpec).at F).post enc Tryz.prog Tryz.f8 false true false false) := by
 obtain ⟨places, hx⟩ := reads os enc
 refine returnsInHanded_of_row (C := Tryz.checked) (s := OpenSpec.ofChange Rows.lightNilSpec) own started (by kernel_rfl) Tryz.func8
  (witness_row_atRef (enc := enc) (C := Tryz.checked) false (laidWorld os) #[.slice none 0 0, .agg #[.int .i64 0, .int .i64 0, .int .i64 0]] rfl (by kernel_rfl) (by kernel_rfl) (by kernel_rfl)
   (OpenSpec.preRow_of_cond 8 hx (by kernel_rfl) (fun k hk => by cases hk) (by kernel_rfl) (laid_met os _))) ?_
 intro W base args ds gs before hval hW _ _ _ hL _ _
 exact contract H enc W base args ds gs before hval hW hL

theorem k1 : Rows.lightNilRow.wf (OpenSpec.ofChange (OpenSpec.ofChange Rows.lightNilSpec).bare) = true := by kernel_rfl
theorem k5 : namedTie Tryz.prog Rows.lightNilRow.named (OpenSpec.ofChange Rows.lightNilSpec).bare.vars = true := by kernel_rfl
theorem k10 : (Rows.lightNilRow.inPlace == Tryz.prog.inPlace 8) = true := by kernel_rfl
theorem k11 : (Rows.lightNilRow.unfollowed == Tryz.prog.unfollowed 8) = true := by kernel_rfl
theorem k12 : (Rows.lightNilRow.recurses == Tryz.prog.recurses 8) = true := by kernel_rfl
theorem k13 : (Rows.lightNilRow.named == Tryz.prog.varsNamed 8) = true := by kernel_rfl
theorem closed : joinedFacts Tryz.prog 8 Tryz.f8 (OpenSpec.ofChange Rows.lightNilSpec).bare Rows.lightNilRow = true := by
 unfold joinedFacts
 simp only [Bool.and_eq_true]
 refine ⟨⟨⟨⟨⟨⟨⟨⟨⟨⟨⟨⟨⟨⟨⟨⟨⟨⟨⟨⟨⟨⟨⟨⟨⟨⟨⟨⟨⟨⟨⟨k1, laidOut⟩, fRowed⟩, ?_⟩, k5⟩, ?_⟩, fStops⟩, ?_⟩, fKnobs⟩, k10⟩, k11⟩, k12⟩, k13⟩, ?_⟩, ?_⟩, ?_⟩, ?_⟩, ?_⟩, ?_⟩, ?_⟩, ?_⟩, ?_⟩, fKeys⟩, ?_⟩, fHeard⟩, fEnter⟩, fLifted⟩, fMake⟩, ?_⟩, ?_⟩, ?_⟩, ?_⟩
 all_goals (as_aux_lemma => kernel_rfl)

theorem said : Rows.LightNilSaid :=
 OpenClaim.holds_of_cond 8 Tryz.f8 rfl rfl rfl rfl rfl rfl rfl ⟨rfl, rfl, rfl, rfl, rfl⟩ rfl rfl rfl rfl rfl (by as_aux_lemma => kernel_rfl) Tryz.func8 closed
  (of_decide_eq_true (by as_aux_lemma => kernel_rfl)) (by unfold Func.isWrapper; first | (rw [if_pos (by decide +kernel)]; kernel_rfl) | (rw [if_neg (by decide +kernel)]; exact ⟨rfl, rfl⟩))
  (fun os started H enc _ F => by rw [OpenClaim.pre_eq_preRow]; exact lifted os started H enc F)

theorem plain (f : FuncId) (fn : Func) (hf : Tryz.pinned.checked.prog.funcNamed "sortes/sorteslaw32.LightNil" = some f) (hfn : Tryz.pinned.checked.prog.funcs[f]? = some fn) :
 false = Tryz.pinned.checked.prog.looks [] ∧ ∀ (j : Nat) t, fn.params[j]? = some t → Tryz.pinned.checked.prog.wantsStandIn t = false := by
 obtain rfl : f = 8 := Option.some.inj ((show Tryz.prog.funcNamed "sortes/sorteslaw32.LightNil" = some 8 by kernel_rfl).symm.trans hf) |>.symm
 obtain rfl : fn = Tryz.f8 := (Option.some.inj (Tryz.func8.symm.trans hfn)).symm
 refine ⟨by kernel_rfl, fun j t ht => ?_⟩
 have hall : (Tryz.f8.params.toList.all fun u => !Tryz.prog.wantsStandIn u) = true := by kernel_rfl
 have hm : t ∈ Tryz.f8.params.toList := by simpa using Array.mem_of_getElem? ht
 exact (show Tryz.prog.wantsStandIn t = false by simpa using List.all_eq_true.1 hall t hm)

end Go.Proofs.YtkpinmejfdnhbaaGreatDoor.lightNil
namespace Go.Proofs.YtkpinmejfdnhbaaGreatDoor
open Go

theorem lightNil_card : Rows.LightNilCardSaid :=
 Claim7.holds_tied_plain_at .later [] _ _ _ _ lightNil.said (fun _ h => by cases h) (by kernel_rfl) (fun _ h => by cases h) lightNil_row_tie rfl ⟨rfl, rfl⟩ (by kernel_rfl) rfl lightNil.plain (by kernel_rfl)
#print axioms lightNil_card
end Go.Proofs.YtkpinmejfdnhbaaGreatDoor
