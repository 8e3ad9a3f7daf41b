/- The law LightReceipts, as the seat states it (a tied card): for every input the call returns true, and each argument reads afterwards as it read before; the five listed variables of the library are as the program's text lays them. -/
import Derived.Test.YtkpinmejfdnhbaaGreatDoorLiFacts
import Derived.Test.YtkpinmejfdnhbaaGreatDoorLmZ
namespace Go.Proofs.YtkpinmejfdnhbaaGreatDoor.lightReceipts
open Go.ChangeShapes Go.WideShapes Go.ChangeAt Go.RowKit

theorem cellsU8 : Tryz.prog.cellsOf 5 = 1 := by kernel_rfl
theorem cellsB2 : Tryz.prog.cellsOf 64 = 2 := by kernel_rfl
set_option maxRecDepth 100000 in
theorem b2_of {H : Type} {enc : TypeId × Value → H} {W : World} {base : Nat} {v : Value} {d : DataW H} {p : List MemPlace} (hval : Value.okWide Tryz.prog W .any base 64 v) (h : DataW.Trod enc Tryz.prog W 0 (fun _ => true) true 64 v d p) :
 ∃ x y : Nat, v = .agg #[.int .u8 (x : Int), .int .u8 (y : Int)] ∧ x ≤ 255 ∧ y ≤ 255 := by
 obtain ⟨l, rfl, hl, hw⟩ := arr_of Tryz.underlying64 Tryz.underlying5 cellsU8 cellsB2 hval h
 obtain ⟨x, y, rfl⟩ := list_two hl
 have hx := hw x (by simp)
 have hy := hw y (by simp)
 have bd : ∀ z : Int, (Lit.int .u8 z).wf = true → 0 ≤ z ∧ z ≤ 255 := fun z hz => by
  simpa [Lit.wf, IntKind.min, IntKind.max, IntKind.signed, IntKind.bits] using hz
 obtain ⟨a, rfl⟩ := Int.eq_ofNat_of_zero_le (bd x hx).1
 obtain ⟨b, rfl⟩ := Int.eq_ofNat_of_zero_le (bd y hy).1
 have h1 := (bd _ hx).2
 have h2 := (bd _ hy).2
 exact ⟨a, b, rfl, by omega, by omega⟩
set_option maxRecDepth 100000 in
theorem contract (H : Type) (enc : TypeId × Value → H) (W : World) (base : Nat) (args : Array Value) (ds gs : List (DataW H)) (before : List MemPlace)
 (hval : ∀ (j : Nat) t v, Tryz.f7.params[j]? = some t → args[j]? = some v → Value.okWide Tryz.prog W .any base t v)
 (hW : DataW.Whole enc Tryz.prog Tryz.f7.params.toList Rows.lightReceiptsSpec.vars false W args.toList ds gs before) (hL : laidMetH Tryz.prog laid5 W) :
 Calls Tryz.prog 7 args W fun e W' => ∃ v, e = .returned v ∧ Rows.lightReceiptsSpec.post enc Tryz.prog Tryz.f7 false true false false W args v W' := by
 have hW' := hW
 obtain ⟨p, q, hA0, hV, hps, hfz, hnd⟩ := hW
 have hA : DataW.TrodAll enc Tryz.prog W 0 (fun _ => true) true Tryz.f7.params.toList args.toList ds p := hA0
 rw [Tryz.params7] at hA hval
 obtain ⟨v0, vs0, d0, ds0, p0, q0, hargs, rfl, rfl, h0, r0⟩ := trodAll_cons hA
 obtain ⟨v1, vs1, d1, ds1, p1, q1, rfl, rfl, rfl, h1, r1⟩ := trodAll_cons r0
 obtain ⟨v2, vs2, d2, ds2, p2, q2, rfl, rfl, rfl, h2, r2⟩ := trodAll_cons r1
 obtain ⟨rfl, rfl, rfl⟩ := trodAll_nil r2
 obtain rfl : args = #[v0, v1, v2] := by cases args; simp_all
 obtain ⟨A0, n0, c0, l0, rfl, hb0, hI0, hn0⟩ := il_of (hval 0 25 v0 rfl rfl) h0
 obtain ⟨z1, y1, rfl, hz1, hy1⟩ := b2_of (hval 1 64 v1 rfl rfl) h1
 obtain ⟨z2, y2, x2, rfl, hz2, hy2, hx2⟩ := i3_of (hval 2 65 v2 rfl rfl) h2
 refine (LightReceipts_any _ _ _ l0 z1 y1 z2 y2 x2 W (tabs5 hL) hb0 hI0 hn0 hz1 hy1 hz2 hy2 hx2).mono fun e W' ⟨he, hbw⟩ => ?_
 subst he
 refine ⟨_, rfl, law_post hW' rfl (by kernel_rfl) (fun t ht => ?_) rfl hbw⟩
 have hall : (Tryz.f7.params.toList.all fun t => Tryz.prog.readableRec t && decide (t < Tryz.prog.types.size)) = true := by kernel_rfl
 simpa using List.all_eq_true.1 hall t ht

theorem reads (os : Os) {H : Type} (enc : TypeId × Value → H) : ∃ places, DataW.whole enc Tryz.prog ((laidWorld os).forCall (fun _ _ => 0) ⟨#[], #[.slice none 0 0, .agg #[.int .u8 0, .int .u8 0], .agg #[.int .i64 0, .int .i64 0, .int .i64 0]], []⟩).memory Tryz.f7.params.toList Rows.lightReceiptsSpec.vars false (#[.slice none 0 0, .agg #[.int .u8 0, .int .u8 0], .agg #[.int .i64 0, .int .i64 0, .int .i64 0]] : Array Value).toList 8 = some ([.nil, .agg [.lit (.int .u8 0), .lit (.int .u8 0)], .agg [.lit (.int .i64 0), .lit (.int .i64 0), .lit (.int .i64 0)]], [], places) :=
 ⟨[], by kernel_rfl⟩

set_option maxRecDepth 100000 in
theorem lifted (os : Os) (started : os.Started) (H : Type) (enc : TypeId × Value → H) (F : Stop.Interp) :
 ReturnsInHanded {} Tryz.checked os 7 .any ((OpenSpec.ofChange Rows.lightReceiptsSpec).preRow enc Tryz.prog Tryz.f7 Rows.lightReceiptsRow.domain false Rows.lightReceiptsRow.laid) (((OpenSpec.ofChange Rows.lightReceiptsSpec).at F).post enc Tryz.prog Tryz.f7 false true false false) := by
 obtain ⟨places, hx⟩ := reads os enc
 refine returnsInHanded_of_row (C := Tryz.checked) (s := OpenSpec.ofChange Rows.lightReceiptsSpec) own started (by kernel_rfl) Tryz.func7
  (witness_row_atRef (enc := enc) (C := Tryz.checked) false (laidWorld os) #[.slice none 0 0, .agg #[.int .u8 0, .int .u8 0], .agg #[.int .i64 0, .int .i64 0, .int .i64 0]] rfl (by kernel_rfl) (by kernel_rfl) (by kernel_rfl)
   (OpenSpec.preRow_of_cond 8 hx (by kernel_rfl) (fun k hk => by cases hk) (by kernel_rfl) (laid_met5 os _))) ?_
 intro W base args ds gs before hval hW _ _ _ hL _ _
 exact contract H enc W base args ds gs before hval hW hL

theorem k1 : Rows.lightReceiptsRow.wf (OpenSpec.ofChange (OpenSpec.ofChange Rows.lightReceiptsSpec).bare) = true := by kernel_rfl
theorem k5 : namedTie Tryz.prog Rows.lightReceiptsRow.named (OpenSpec.ofChange Rows.lightReceiptsSpec).bare.vars = true := by kernel_rfl
theorem k10 : (Rows.lightReceiptsRow.inPlace == Tryz.prog.inPlace 7) = true := by kernel_rfl
theorem k11 : (Rows.lightReceiptsRow.unfollowed == Tryz.prog.unfollowed 7) = true := by kernel_rfl
theorem k12 : (Rows.lightReceiptsRow.recurses == Tryz.prog.recurses 7) = true := by kernel_rfl
theorem k13 : (Rows.lightReceiptsRow.named == Tryz.prog.varsNamed 7) = true := by kernel_rfl
theorem closed : joinedFacts Tryz.prog 7 Tryz.f7 (OpenSpec.ofChange Rows.lightReceiptsSpec).bare Rows.lightReceiptsRow = true := by
 unfold joinedFacts
 simp only [Bool.and_eq_true]
 refine ⟨⟨⟨⟨⟨⟨⟨⟨⟨⟨⟨⟨⟨⟨⟨⟨⟨⟨⟨⟨⟨⟨⟨⟨⟨⟨⟨⟨⟨⟨⟨k1, laidOut⟩, fRowed⟩, ?_⟩, k5⟩, ?_⟩, fStops⟩, ?_⟩, fKnobs⟩, k10⟩, k11⟩, k12⟩, k13⟩, ?_⟩, ?_⟩, ?_⟩, ?_⟩, ?_⟩, ?_⟩, ?_⟩, ?_⟩, ?_⟩, fKeys⟩, ?_⟩, fHeard⟩, fEnter⟩, fLifted⟩, fMake⟩, ?_⟩, ?_⟩, ?_⟩, ?_⟩
 all_goals (as_aux_lemma => kernel_rfl)

theorem said : Rows.LightReceiptsSaid :=
 OpenClaim.holds_of_cond 7 Tryz.f7 rfl rfl rfl rfl rfl rfl rfl ⟨rfl, rfl, rfl, rfl, rfl⟩ rfl rfl rfl rfl rfl (by as_aux_lemma => kernel_rfl) Tryz.func7 closed
  (of_decide_eq_true (by as_aux_lemma => kernel_rfl)) (by unfold Func.isWrapper; first | (rw [if_pos (by decide +kernel)]; kernel_rfl) | (rw [if_neg (by decide +kernel)]; exact ⟨rfl, rfl⟩))
  (fun os started H enc _ F => by rw [OpenClaim.pre_eq_preRow]; exact lifted os started H enc F)

theorem plain (f : FuncId) (fn : Func) (hf : Tryz.pinned.checked.prog.funcNamed "sortes/sorteslaw32.LightReceipts" = some f) (hfn : Tryz.pinned.checked.prog.funcs[f]? = some fn) :
 false = Tryz.pinned.checked.prog.looks [] ∧ ∀ (j : Nat) t, fn.params[j]? = some t → Tryz.pinned.checked.prog.wantsStandIn t = false := by
 obtain rfl : f = 7 := Option.some.inj ((show Tryz.prog.funcNamed "sortes/sorteslaw32.LightReceipts" = some 7 by kernel_rfl).symm.trans hf) |>.symm
 obtain rfl : fn = Tryz.f7 := (Option.some.inj (Tryz.func7.symm.trans hfn)).symm
 refine ⟨by kernel_rfl, fun j t ht => ?_⟩
 have hall : (Tryz.f7.params.toList.all fun u => !Tryz.prog.wantsStandIn u) = true := by kernel_rfl
 have hm : t ∈ Tryz.f7.params.toList := by simpa using Array.mem_of_getElem? ht
 exact (show Tryz.prog.wantsStandIn t = false by simpa using List.all_eq_true.1 hall t hm)

end Go.Proofs.YtkpinmejfdnhbaaGreatDoor.lightReceipts
namespace Go.Proofs.YtkpinmejfdnhbaaGreatDoor
open Go

theorem lightReceipts_card : Rows.LightReceiptsCardSaid :=
 Claim7.holds_tied_plain_at .later [] _ _ _ _ lightReceipts.said (fun _ h => by cases h) (by kernel_rfl) (fun _ h => by cases h) lightReceipts_row_tie rfl ⟨rfl, rfl⟩ (by kernel_rfl) rfl lightReceipts.plain (by kernel_rfl)
#print axioms lightReceipts_card
end Go.Proofs.YtkpinmejfdnhbaaGreatDoor
