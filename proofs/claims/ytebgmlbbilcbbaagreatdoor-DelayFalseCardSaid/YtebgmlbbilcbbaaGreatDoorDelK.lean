/- sanity of chapter 10: the examples of the document hold. -/
import Derived.Test.YtebgmlbbilcbbaaGreatDoorDelJ
namespace Go.Proofs.YtebgmlbbilcbbaaGreatDoor
open Go.RowKit

theorem ndg_one {w : World} {g : Nat} {t : TypeId} {x : ByteArray} (h : Blk w g t #[.string x]) : NDg w (some ⟨g, 0, none⟩) 1 1 [x] := by
  refine ⟨rfl, Nat.le_refl _, fun _ => ⟨g, 0, rfl, fun j y hy => ?_⟩⟩
  match j, hy with
  | 0, hy => obtain rfl := Option.some.inj hy; exact h.cell 0
  | j + 1, hy => simp at hy

theorem tSame (A B : Option Addr) (c d : Nat) (W : World) (hA : NDg W A 1 c [⟨#[4]⟩]) (hB : NDg W B 1 d [⟨#[4]⟩]) : Calls Tryz.prog 70 #[.slice A 1 c, .slice B 1 d] W fun e w' => e = .returned (.bool true) ∧ Below W.heap.size W w' := by
  have := Same_any A B 1 c d (by omega) _ _ W hA hB
  rw [decide_eq_true rfl] at this
  exact this
theorem of_q {k : Int} {s : ByteArray} (h : Ret 73 #[.int .i64 k] (.string s)) : Ret 23 #[.int .i64 k] (.string s) := by
  intro w
  have m1 := Lib.hid h
  clear h
  go_enter Tryz.func23, Tryz.ntmps23
  go_wp2_with fail
  refine (m1.out _).mono ?_
  rintro e w1 ⟨rfl, hb1⟩
  go_wp2_with fail
  go_ret
  exact ⟨rfl, hb1⟩

set_option maxRecDepth 100000 in
set_option maxHeartbeats 2000000 in
theorem sanity10 : RetT 17 #[] (.bool true) := by
  intro w hT
  have HT := Lib.hid hT
  clear hT
  have o2 := Lib.hid (of_q tOf2)
  have o4 := Lib.hid (of_q tOf4)
  have o256 := Lib.hid (of_q tOf256)
  have o16 := Lib.hid (of_q tOf16)
  have o5 := Lib.hid (of_q tOf5)
  have o3 := Lib.hid (of_q tOf3)
  have o7 := Lib.hid (of_q tOf7)
  have o8 := Lib.hid (of_q tOf8)
  have o9 := Lib.hid (of_q tOf9)
  have o81 := Lib.hid (of_q tOf81)
  have u0 := Lib.hid tRun0
  have u1 := Lib.hid tRun1
  have u3 := Lib.hid tRun3
  have um := Lib.hid tRunM
  have n7 : Hid (Ret 24 #[.agg #[.int .i64 0, .int .i64 4, .string ⟨#[]⟩, .string ⟨#[]⟩, .string ⟨#[]⟩], .string ⟨#[7]⟩, .string ⟨#[7]⟩] (.agg #[.int .i64 2, .int .i64 4, .string ⟨#[7]⟩, .string ⟨#[]⟩, .string ⟨#[]⟩])) := Lib.hid tNext7
  have n8 : Hid (Ret 24 #[.agg #[.int .i64 0, .int .i64 4, .string ⟨#[]⟩, .string ⟨#[]⟩, .string ⟨#[]⟩], .string ⟨#[7]⟩, .string ⟨#[8]⟩] (.agg #[.int .i64 0, .int .i64 2, .string ⟨#[]⟩, .string ⟨#[7]⟩, .string ⟨#[8]⟩])) := Lib.hid tNext8
  have d2 : Hid (Ret 25 #[.agg #[.int .i64 0, .int .i64 1, .string ⟨#[3]⟩, .string ⟨#[9]⟩, .string ⟨#[8]⟩]] (.int .i64 2)) := Lib.hid tDec2
  have d1 : Hid (Ret 25 #[.agg #[.int .i64 0, .int .i64 1, .string ⟨#[3]⟩, .string ⟨#[8]⟩, .string ⟨#[9]⟩]] (.int .i64 1)) := Lib.hid tDec1
  have d3 : Hid (Ret 25 #[.agg #[.int .i64 0, .int .i64 1, .string ⟨#[3]⟩, .string ⟨#[7]⟩, .string ⟨#[8]⟩]] (.int .i64 3)) := Lib.hid tDec3
  have v1 := Lib.hid tVerY
  have v2 := Lib.hid tVerN
  have v3 := Lib.hid tVerB
  have k0 := Lib.hid tNew
  have k1 := Lib.hid tStep1
  have k5 := Lib.hid tStep5
  have ks := Lib.hid tSave
  have ke := Lib.hid tEnd
  have sm := Lib.hid tSame
  have heq : ∀ s : ByteArray, (s.toList == s.toList) = true := fun s => by simp
  go_enter Tryz.func17, Tryz.ntmps17
  have hB : Below w.heap.size w w := Below.refl _ _
  go_upto_region 5 with (first
    | (go_at_call 23; (with_reducible refine (o2.out _).mono ?_); rintro e wz ⟨rfl, hb⟩; replace hB := below_then hB hb; clear hb)
    | (go_at_call 36; (with_reducible first | refine (u0.out _).mono ?_ | refine (u1.out _).mono ?_ | refine (u3.out _).mono ?_ | refine (um.out _).mono ?_); rintro e wz ⟨rfl, hb⟩; replace hB := below_then hB hb; clear hb))
  go_upto_region 6 with (first
    | (go_at_call 23; (with_reducible refine (o2.out _).mono ?_); rintro e wz ⟨rfl, hb⟩; replace hB := below_then hB hb; clear hb)
    | (go_at_call 26; (with_reducible refine (tProve _ (HT.out.below hB)).mono ?_); rintro e wz ⟨⟨A, c, rfl, hm⟩, hb⟩; replace hB := below_then hB hb; clear hb))
  go_upto_region 7 with (first
    | (go_at_call 23; (with_reducible first | refine (o2.out _).mono ?_ | refine (o4.out _).mono ?_ | refine (o256.out _).mono ?_ | refine (o16.out _).mono ?_); rintro e wz ⟨rfl, hb⟩; replace hB := below_then hB hb; replace hm := hm.below hb; clear hb)
    | (go_at_call 70; (with_reducible refine (sm.out _ _ _ _ _ ?_ ?_).mono ?_); (exact hm.below (below_al (Below.refl _ _) _)); (exact ndg_one (Blk.new _ _ _)); rintro e wz ⟨rfl, hb⟩; replace hB := below_then (below_al hB _) hb; replace hm := (hm.below (below_al (Below.refl _ _) _)).below hb; clear hb))
  go_upto_region 10 with (first
    | (go_at_call 23; (with_reducible first | refine (o2.out _).mono ?_ | refine (o16.out _).mono ?_ | refine (o5.out _).mono ?_); rintro e wz ⟨rfl, hb⟩; replace hB := below_then hB hb; replace hm := hm.below hb; clear hb)
    | (go_at_call 28; (with_reducible refine (v1.out _ _ _ ?_ ?_).mono ?_); (exact HT.out.below hB); (with_reducible exact hm); rintro e wz ⟨rfl, hb⟩; replace hB := below_then hB hb; replace hm := hm.below hb; clear hb)
    | (go_at_call 28; (with_reducible refine (v2.out _ _ _ ?_ ?_).mono ?_); (exact HT.out.below (below_al hB _)); (exact ndg_one (Blk.new _ _ _)); rintro e wz ⟨rfl, hb⟩; replace hB := below_then (below_al hB _) hb; replace hm := (hm.below (below_al (Below.refl _ _) _)).below hb; clear hb)
    | (go_at_call 28; (with_reducible refine (v3.out _ _ _ _).mono ?_); rintro e wz ⟨rfl, hb⟩; replace hB := below_then hB hb; replace hm := hm.below hb; clear hb))
  clear hm
  go_upto_region 11 with (first
    | (go_at_call 23; (with_reducible first | refine (o3.out _).mono ?_); rintro e wz ⟨rfl, hb⟩; replace hB := below_then hB hb;  clear hb)
    | (go_at_call 32; (with_reducible refine (k0.out _).mono ?_); rintro e wz ⟨g, rfl, hg, hk, hb⟩; replace hg := Nat.le_trans hB.size hg; replace hB := below_then hB hb; clear hb))
  go_upto_region 14 with (first
    | (go_at_call 30; (with_reducible refine (k1.out g _ ?_).mono ?_); (with_reducible exact hk); rintro e wz ⟨rfl, hk2, hg2⟩; replace hB := hB.grown hg2 hB.size (fun k e => by cases e; exact hg); replace hk := hk2; clear hg2 hk2)
    | (go_at_call 30; (with_reducible refine (k5.out g _ ?_).mono ?_); (with_reducible exact hk); rintro e wz ⟨rfl, hk2, hg2⟩; replace hB := hB.grown hg2 hB.size (fun k e => by cases e; exact hg); replace hk := hk2; clear hg2 hk2)
    | (go_at_call 31; (with_reducible refine (ks.out g _ ?_ ?_).mono ?_); (exact HT.out.below hB); (with_reducible exact hk); rintro e wz ⟨rfl, hb⟩; replace hB := below_then hB hb; replace hk := hk.below hb hk.lt; clear hb)
    | (go_at_call 29; (with_reducible refine (ke.out g _ ?_).mono ?_); (with_reducible exact hk); rintro e wz ⟨rfl, hb⟩; replace hB := below_then hB hb; clear hb))
  clear hk hg
  go_upto_region 15 with (first
    | (go_at_call 23; (with_reducible first | refine (o7.out _).mono ?_); rintro e wz ⟨rfl, hb⟩; replace hB := below_then hB hb;  clear hb)
    | (go_at_call 24; (with_reducible refine (n7.out _).mono ?_); rintro e wz ⟨rfl, hb⟩; replace hB := below_then hB hb; clear hb))
  refine name1p ?_
  intro wy j1 hb
  replace hB := below_then hB hb
  clear hb
  generalize wz.heap.size = q1 at j1 ⊢
  go_upto_region 16 with (first
    | (go_at_call 23; (with_reducible first | refine (o7.out _).mono ?_ | refine (o8.out _).mono ?_); rintro e wz ⟨rfl, hb⟩; replace hB := below_then hB hb; replace j1 := j1.below hb j1.lt; clear hb)
    | (go_at_call 24; (with_reducible refine (n8.out _).mono ?_); rintro e wz ⟨rfl, hb⟩; replace hB := below_then hB hb; replace j1 := j1.below hb j1.lt; clear hb))
  refine name1p ?_
  intro wx j2 hb
  replace hB := below_then hB hb
  replace j1 := j1.below hb j1.lt
  clear hb
  generalize wz.heap.size = q2 at j2 ⊢
  replace j1 : Blk wx.drew q1 32 #[.int .i64 2, .int .i64 4, .string ⟨#[7]⟩, .string ⟨#[]⟩, .string ⟨#[]⟩] := j1
  replace j2 : Blk wx.drew q2 32 #[.int .i64 0, .int .i64 2, .string ⟨#[]⟩, .string ⟨#[7]⟩, .string ⟨#[8]⟩] := j2
  replace hB := hB.drew
  go_region_held3 (fun Z : World => Z.cell? ⟨q1, 0, none⟩ = some (.int .i64 2) ∧ Z.cell? ⟨q1, 1, none⟩ = some (.int .i64 4) ∧ Z.cell? ⟨q1, 2, none⟩ = some (.string ⟨#[7]⟩) ∧ Z.cell? ⟨q1, 3, none⟩ = some (.string ⟨#[]⟩) ∧ Z.cell? ⟨q1, 4, none⟩ = some (.string ⟨#[]⟩) ∧ Z.cell? ⟨q2, 0, none⟩ = some (.int .i64 0) ∧ Z.cell? ⟨q2, 1, none⟩ = some (.int .i64 2) ∧ Z.cell? ⟨q2, 2, none⟩ = some (.string ⟨#[]⟩) ∧ Z.cell? ⟨q2, 3, none⟩ = some (.string ⟨#[7]⟩) ∧ Z.cell? ⟨q2, 4, none⟩ = some (.string ⟨#[8]⟩)) (exact ⟨j1.cell 0, j1.cell 1, j1.cell 2, j1.cell 3, j1.cell 4, j2.cell 0, j2.cell 1, j2.cell 2, j2.cell 3, j2.cell 4⟩) (first | (go_at_call 23; (with_reducible first | refine (o81.out _).mono ?_ | refine (o7.out _).mono ?_ | refine (o8.out _).mono ?_); rintro e wz ⟨rfl, hb⟩; replace hB := below_then hB hb; replace j1 := j1.below hb j1.lt; replace j2 := j2.below hb j2.lt; clear hb))
  clear j1 j2
  go_wp2_with (first
    | (go_at_call 23; (with_reducible first | refine (o3.out _).mono ?_ | refine (o9.out _).mono ?_ | refine (o8.out _).mono ?_ | refine (o7.out _).mono ?_); rintro e wz ⟨rfl, hb⟩; replace hB := below_then hB hb; clear hb)
    | (go_at_call 25; (with_reducible first | refine (d2.out _).mono ?_ | refine (d1.out _).mono ?_ | refine (d3.out _).mono ?_); rintro e wz ⟨rfl, hb⟩; replace hB := below_then hB hb; clear hb))
  go_ret
  exact ⟨rfl, hB⟩

end Go.Proofs.YtebgmlbbilcbbaaGreatDoor
