/- Clients that New has not made: nil, and zero. -/
import Derived.Test.YtkpinmejfdnhbaaGreatDoorLlA
namespace Go.Proofs.YtkpinmejfdnhbaaGreatDoor
open Go.RowKit Go.Shelf
attribute [local go_sem] Oper.semAt_some

def NoCli (P : Option Addr) (w : World) : Prop := ∀ W, Below w.heap.size w W → Calls Tryz.prog 52 #[.pointer P] W fun e w' => e = .returned (.bool true) ∧ w' = W
theorem NoCli.nil (w : World) : NoCli none w := fun W _ => (none_nil W).mono fun e w' ⟨h1, h2⟩ => ⟨h1, by first | exact h2 | exact h2.symm⟩
theorem NoCli.zero {p : Nat} {w : World} (h : w.cell? ⟨p, 0, none⟩ = some (.bool false)) : NoCli (some ⟨p, 0, none⟩) w := fun W hb => none_of p false W (cell_b hb h)
theorem NoCli.below {P : Option Addr} {w w' : World} (h : NoCli P w) (hb : Below w.heap.size w w') : NoCli P w' := fun W h2 => h W (below_then hb h2)

theorem Epoch_no (P : Option Addr) (w : World) (hN : NoCli P w) : Calls Tryz.prog 20 #[.pointer P] w fun e w' => e = .returned (.int .i64 0) ∧ w' = w := by
 have n1 := Lib.hid (hN w (Below.refl _ _))
 clear hN
 go_enter Tryz.func20, Tryz.ntmps20
 go_wp2_with (go_at_call 52; (with_reducible refine n1.out.mono ?_); rintro e w1 ⟨rfl, hww⟩; obtain rfl := hww.symm)
 go_ret
 exact ⟨rfl, rfl⟩
theorem Size_no (P : Option Addr) (w : World) (hN : NoCli P w) : Calls Tryz.prog 21 #[.pointer P] w fun e w' => e = .returned (.int .i64 0) ∧ w' = w := by
 have n1 := Lib.hid (hN w (Below.refl _ _))
 clear hN
 go_enter Tryz.func21, Tryz.ntmps21
 go_wp2_with (go_at_call 52; (with_reducible refine n1.out.mono ?_); rintro e w1 ⟨rfl, hww⟩; obtain rfl := hww.symm)
 go_ret
 exact ⟨rfl, rfl⟩
set_option maxHeartbeats 1000000 in
theorem Round_no (P : Option Addr) (cs : Array Value) (w : World) (hN : NoCli P w) : Calls Tryz.prog 39 #[.pointer P, .agg cs, .int .i64 1, .slice none 0 0, .slice none 0 0, .string ⟨#[]⟩] w fun e w' => e = .returned (.int .i64 1) ∧ Below w.heap.size w w' := by
 have HN := Lib.hid hN
 clear hN
 go_enter Tryz.func39, Tryz.ntmps39
 go_upto_region 1 with fail
 refine name1p ?_
 intro W k1 hB
 have n1 := Lib.hid (HN.out W hB)
 clear k1
 go_wp2_with (go_at_call 52; (with_reducible refine n1.out.mono ?_); rintro e w1 ⟨rfl, hww⟩; obtain rfl := hww.symm)
 go_ret
 exact ⟨rfl, hB⟩
set_option maxHeartbeats 1000000 in
theorem Receipt_no (P : Option Addr) (cs hs : Array Value) (w : World) (hN : NoCli P w) : Calls Tryz.prog 33 #[.pointer P, .agg cs, .int .i64 1, .int .i64 1, .agg hs, .int .i64 0, .slice none 0 0, .slice none 0 0] w fun e w' => e = .returned (.int .i64 1) ∧ Below w.heap.size w w' := by
 have HN := Lib.hid hN
 clear hN
 go_enter Tryz.func33, Tryz.ntmps33
 go_upto_region 1 with fail
 refine name2p ?_
 intro W k1 k2 hB
 have n1 := Lib.hid (HN.out W hB)
 clear k1 k2
 go_wp2_with (go_at_call 52; (with_reducible refine n1.out.mono ?_); rintro e w1 ⟨rfl, hww⟩; obtain rfl := hww.symm)
 go_ret
 exact ⟨rfl, hB⟩
set_option maxHeartbeats 1000000 in
theorem Follow_no (P : Option Addr) (xe : Int) (xm xc xp xl : Value) (w : World) (hN : NoCli P w) : Calls Tryz.prog 17 #[.pointer P, .agg #[.int .i64 xe, xm, xc, xp, xl], .slice none 0 0] w fun e w' => e = .returned (.int .i64 1) ∧ Below w.heap.size w w' := by
 have HN := Lib.hid hN
 clear hN
 refine (callsIn_wide (n := 4)).1 ?_
 refine callsIn_of_wp_marks Tryz.func17 rfl trivial ?_ rfl
 refine wpIn_wide.2 ?_
 simp only [Tryz.ntmps17, List.size_toArray, List.length_cons, List.length_nil, Nat.reduceAdd, Nat.reduceSub, Array.replicate_succ, Array.replicate_zero, List.push_toArray, List.append_toArray, List.nil_append, List.cons_append]
 go_upto_region 1 with fail
 refine name3p ?_
 intro W j3 j4 j6 hB
 obtain ⟨g, hg⟩ : ∃ g, g = w.heap.size := ⟨_, rfl⟩
 rw [← hg] at j3 j4 j6 ⊢
 have hgw : w.heap.size ≤ g := by omega
 clear hg
 have n1 := Lib.hid (HN.out W hB)
 have q3 : W.cell? ⟨g, 0, none⟩ = some (.pointer P) := j3.cell 0
 have q6 : W.cell? ⟨g + 1 + 1, 0, none⟩ = some (.int .i64 0) := j6.cell 0
 have f6 := j6.frozen 0
 go_wp2_with (go_at_call 52; (with_reducible refine n1.out.mono ?_); rintro e w1 ⟨rfl, hww⟩; obtain rfl := hww.symm)
 have cf : (W.setCell ⟨g + 1 + 1, 0, none⟩ (.int .i64 1)).cell? ⟨g + 1 + 1, 0, none⟩ = some (.int .i64 1) := (j6.set_ 0 (.int .i64 1)).cell 0
 exact ⟨.int .i64 1, by simp [results, Tryz.f17, go_sem, cf], rfl, below_set hB (by show w.heap.size ≤ g + 1 + 1; omega) _⟩
set_option maxHeartbeats 1000000 in
theorem Back_no (P : Option Addr) (xe : Int) (xm xc xp xl : Value) (w : World) (hN : NoCli P w) : Calls Tryz.prog 22 #[.pointer P, .agg #[.int .i64 xe, xm, xc, xp, xl]] w fun e w' => e = .returned (.int .i64 1) ∧ Below w.heap.size w w' := by
 have HN := Lib.hid hN
 clear hN
 refine (callsIn_wide (n := 4)).1 ?_
 refine callsIn_of_wp_marks Tryz.func22 rfl trivial ?_ rfl
 refine wpIn_wide.2 ?_
 simp only [Tryz.ntmps22, List.size_toArray, List.length_cons, List.length_nil, Nat.reduceAdd, Nat.reduceSub, Array.replicate_succ, Array.replicate_zero, List.push_toArray, List.append_toArray, List.nil_append, List.cons_append]
 go_upto_region 1 with fail
 refine name3p ?_
 intro W j3 j4 j6 hB
 obtain ⟨g, hg⟩ : ∃ g, g = w.heap.size := ⟨_, rfl⟩
 rw [← hg] at j3 j4 j6 ⊢
 have hgw : w.heap.size ≤ g := by omega
 clear hg
 have n1 := Lib.hid (HN.out W hB)
 have q3 : W.cell? ⟨g, 0, none⟩ = some (.pointer P) := j3.cell 0
 have q6 : W.cell? ⟨g + 1 + 1, 0, none⟩ = some (.int .i64 0) := j6.cell 0
 have f6 := j6.frozen 0
 go_wp2_with (go_at_call 52; (with_reducible refine n1.out.mono ?_); rintro e w1 ⟨rfl, hww⟩; obtain rfl := hww.symm)
 have cf : (W.setCell ⟨g + 1 + 1, 0, none⟩ (.int .i64 1)).cell? ⟨g + 1 + 1, 0, none⟩ = some (.int .i64 1) := (j6.set_ 0 (.int .i64 1)).cell 0
 exact ⟨.int .i64 1, by simp [results, Tryz.f22, go_sem, cf], rfl, below_set hB (by show w.heap.size ≤ g + 1 + 1; omega) _⟩

end Go.Proofs.YtkpinmejfdnhbaaGreatDoor
