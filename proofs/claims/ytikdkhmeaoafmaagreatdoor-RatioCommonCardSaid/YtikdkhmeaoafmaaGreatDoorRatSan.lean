/- sanity of chapter 02: the examples of the document hold. Printed by a program. -/
import Derived.Test.YtikdkhmeaoafmaaGreatDoorRatM
namespace Go.Proofs.YtikdkhmeaoafmaaGreatDoor
open Go.RowKit

theorem rdg3 {w : World} {k : Nat} {t : TypeId} {g0 g1 g2 : Bool} {a0 b0 a1 b1 a2 b2 : ByteArray} (h : Blk w k t #[.bool g0, .string a0, .string b0, .bool g1, .string a1, .string b1, .bool g2, .string a2, .string b2]) :
    RDg w (some ⟨k, 0, none⟩) 3 3 [(g0, a0, b0), (g1, a1, b1), (g2, a2, b2)] := by
  refine ⟨rfl, Nat.le_refl _, fun _ => ⟨k, 0, rfl, fun j x hx => ?_⟩⟩
  match j, hx with
  | 0, hx => obtain rfl := Option.some.inj hx; exact ⟨h.cell 0, h.cell 1, h.cell 2⟩
  | 1, hx => obtain rfl := Option.some.inj hx; exact ⟨h.cell 3, h.cell 4, h.cell 5⟩
  | 2, hx => obtain rfl := Option.some.inj hx; exact ⟨h.cell 6, h.cell 7, h.cell 8⟩
  | j + 3, hx => simp at hx
theorem sdg3 {w : World} {k : Nat} {t : TypeId} {a b c : ByteArray} (h : Blk w k t #[.string a, .string b, .string c]) : SDg w (some ⟨k, 0, none⟩) 3 3 [a, b, c] := by
  refine ⟨rfl, Nat.le_refl _, fun _ => ⟨k, 0, rfl, fun j x hx => ?_⟩⟩
  match j, hx with
  | 0, hx => obtain rfl := Option.some.inj hx; exact h.cell 0
  | 1, hx => obtain rfl := Option.some.inj hx; exact h.cell 1
  | 2, hx => obtain rfl := Option.some.inj hx; exact h.cell 2
  | j + 3, hx => simp at hx
theorem parse_no {l : List UInt8} (h : ¬ fineL l) : parseQ l = .tuple #[rat0, .bool false] := if_neg (fun e => h e.2)
theorem dec_1 {n : Nat} (h : n < 10) : decS n = ⟨#[UInt8.ofNat (48 + n)]⟩ := by unfold decS; rw [Lib.decDigits_one h]

theorem s2Of6 : Ret 19 #[.int .i64 6] (.string ⟨#[6]⟩) := fun W => rOf 6 W (by omega)
theorem s2Of4 : Ret 19 #[.int .i64 4] (.string ⟨#[4]⟩) := fun W => rOf 4 W (by omega)
theorem s2Of1 : Ret 19 #[.int .i64 1] (.string ⟨#[1]⟩) := fun W => rOf 1 W (by omega)
theorem s2Of0 : Ret 19 #[.int .i64 0] (.string ⟨#[]⟩) := fun W => rOf 0 W (by omega)
theorem s2Of3 : Ret 19 #[.int .i64 3] (.string ⟨#[3]⟩) := fun W => rOf 3 W (by omega)
theorem s2Of2 : Ret 19 #[.int .i64 2] (.string ⟨#[2]⟩) := fun W => rOf 2 W (by omega)
theorem s2F1_2 : Ret 44 #[.int .i64 (1), .int .i64 (2)] (ratW false ⟨#[1]⟩ ⟨#[2]⟩) := (frac_q (1) (2) (by omega) (by omega) (by omega)).of (by kernel_rfl)
theorem s2Fm1_4 : Ret 44 #[.int .i64 (-1), .int .i64 (4)] (ratW true ⟨#[1]⟩ ⟨#[4]⟩) := (frac_q (-1) (4) (by omega) (by omega) (by omega)).of (by kernel_rfl)
theorem s2F1_3 : Ret 44 #[.int .i64 (1), .int .i64 (3)] (ratW false ⟨#[1]⟩ ⟨#[3]⟩) := (frac_q (1) (3) (by omega) (by omega) (by omega)).of (by kernel_rfl)
theorem s2F0_1 : Ret 44 #[.int .i64 (0), .int .i64 (1)] (ratW false ⟨#[]⟩ ⟨#[1]⟩) := (frac_q (0) (1) (by omega) (by omega) (by omega)).of (by kernel_rfl)
theorem s2Fm3_2 : Ret 44 #[.int .i64 (-3), .int .i64 (2)] (ratW true ⟨#[3]⟩ ⟨#[2]⟩) := (frac_q (-3) (2) (by omega) (by omega) (by omega)).of (by kernel_rfl)
theorem s2Fm1_3 : Ret 44 #[.int .i64 (-1), .int .i64 (3)] (ratW true ⟨#[1]⟩ ⟨#[3]⟩) := (frac_q (-1) (3) (by omega) (by omega) (by omega)).of (by kernel_rfl)
theorem s2F1_6 : Ret 44 #[.int .i64 (1), .int .i64 (6)] (ratW false ⟨#[1]⟩ ⟨#[6]⟩) := (frac_q (1) (6) (by omega) (by omega) (by omega)).of (by kernel_rfl)
theorem s2Fm2_1 : Ret 44 #[.int .i64 (-2), .int .i64 (1)] (ratW true ⟨#[2]⟩ ⟨#[1]⟩) := (frac_q (-2) (1) (by omega) (by omega) (by omega)).of (by kernel_rfl)
theorem s2M1 : Ret 17 #[.bool true, .string ⟨#[6]⟩, .string ⟨#[4]⟩] (.tuple #[ratW true ⟨#[3]⟩ ⟨#[2]⟩, .bool true]) := (Make_q true ⟨#[6]⟩ ⟨#[4]⟩ (by decide) (by decide) (sm_mk _ (P8_up (j := 1) (by decide) (by decide)) (P8_up (j := 1) (by decide) (by decide)) (by decide))).of (by kernel_rfl)
theorem s2M2 : Ret 17 #[.bool false, .string ⟨#[1]⟩, .string ⟨#[]⟩] (.tuple #[rat0, .bool false]) := (Make_q false ⟨#[1]⟩ ⟨#[]⟩ (by decide) (by decide) (by rw [show sval ⟨#[]⟩ = 0 by decide, Rat.mkRat_zero]; exact sm_zero _ (by omega))).of (by kernel_rfl)
theorem s2Q : Ret 31 #[ratW false ⟨#[1]⟩ ⟨#[2]⟩, ratW true ⟨#[1]⟩ ⟨#[4]⟩] (.tuple #[ratW true ⟨#[2]⟩ ⟨#[1]⟩, .bool true]) := (Quo_q false ⟨#[1]⟩ ⟨#[2]⟩ true ⟨#[1]⟩ ⟨#[4]⟩ (by decide) (by decide) (by decide) (by decide)).of (by kernel_rfl)
theorem s2A : Ret 27 #[ratW false ⟨#[1]⟩ ⟨#[2]⟩, ratW true ⟨#[1]⟩ ⟨#[3]⟩] (ratW false ⟨#[1]⟩ ⟨#[6]⟩) := (Add_q false ⟨#[1]⟩ ⟨#[2]⟩ true ⟨#[1]⟩ ⟨#[3]⟩ (by decide) (by decide) (by decide) (by decide)).of (by kernel_rfl)
theorem s2P1 : Ret 14 #[.string ⟨#[54, 47, 52]⟩] (.tuple #[rat0, .bool false]) := (Parse_q ⟨#[54, 47, 52]⟩ (by decide)).of (parse_no (fun h => absurd h.2.2.2 (by decide)))
theorem s2P2 : Ret 14 #[.string ⟨#[45, 48]⟩] (.tuple #[rat0, .bool false]) := (Parse_q ⟨#[45, 48]⟩ (by decide)).of (parse_no (fun h => h.2.2.1 (by decide)))
theorem s2P3 : Ret 14 #[.string ⟨#[51, 47, 49]⟩] (.tuple #[rat0, .bool false]) := (Parse_q ⟨#[51, 47, 49]⟩ (by decide)).of (parse_no (fun h => h.2.1 (by decide) (by decide)))
theorem s2X : textS (ratOf true ⟨#[3]⟩ ⟨#[2]⟩) = ⟨#[45, 51, 47, 50]⟩ := by
  rw [text_parts]
  have e1 : negB (ratOf true ⟨#[3]⟩ ⟨#[2]⟩) = true := by kernel_rfl
  have e2 : (ratOf true ⟨#[3]⟩ ⟨#[2]⟩).num.natAbs = 3 := by kernel_rfl
  have e3 : (ratOf true ⟨#[3]⟩ ⟨#[2]⟩).den = 2 := by kernel_rfl
  rw [e1, e2, e3, dec_1 (by omega), dec_1 (by omega)]
  rfl
def s2L : List Rw := [(false, ⟨#[1]⟩, ⟨#[2]⟩), (false, ⟨#[1]⟩, ⟨#[3]⟩), (false, ⟨#[]⟩, ⟨#[1]⟩)]
theorem s2C (k : Nat) (W : World) (h : RDg W (some ⟨k, 0, none⟩) 3 3 s2L) : Calls Tryz.prog 24 #[.slice (some ⟨k, 0, none⟩) 3 3] W fun e w' => (∃ (A : Option Addr) (c : Nat), e = .returned (.tuple #[.string ⟨#[6]⟩, .slice A 3 c, .bool true]) ∧ SDg w' A 3 c [⟨#[3]⟩, ⟨#[2]⟩, ⟨#[]⟩]) ∧ Below W.heap.size W w' := by
  refine (Common_q _ _ _ s2L W h (by omega) (fun x hx => ?_)).mono ?_
  · simp only [s2L, List.mem_cons, List.not_mem_nil, or_false] at hx
    rcases hx with rfl | rfl | rfl <;> exact ⟨by decide, by decide⟩
  · rintro e w' ⟨hb, ⟨_, A, c, he, hs⟩ | ⟨h0, _⟩⟩
    · exact ⟨⟨A, c, he.trans (congrArg (fun s => Ending.returned (.tuple #[.string s, .slice A 3 c, .bool true])) (show natS (lcmL s2L) = ⟨#[6]⟩ by kernel_rfl)), (show numsL (lcmL s2L) s2L = [⟨#[3]⟩, ⟨#[2]⟩, ⟨#[]⟩] by kernel_rfl) ▸ hs⟩, hb⟩
    · exact absurd ((show okL s2L = true by kernel_rfl).symm.trans h0) (by simp)

set_option maxRecDepth 100000 in
set_option maxHeartbeats 4000000 in
theorem sanity_q (w : World) (ht : Pow10 w) : Calls Tryz.prog 10 #[] w fun e w' => e = .returned (.bool true) ∧ Below w.heap.size w w' := by
  have HT := Lib.hid ht
  clear ht
  have hB := Below.refl w.heap.size w
  go_enter Tryz.func10, Tryz.ntmps10
  go_upto_region 2 with (first
    | (go_at_call 19; (with_reducible refine (s2Of6 _).mono ?_); rintro e w' ⟨rfl, hb'⟩; replace hB := below_then hB hb'; clear hb')
    | (go_at_call 19; (with_reducible refine (s2Of4 _).mono ?_); rintro e w' ⟨rfl, hb'⟩; replace hB := below_then hB hb'; clear hb')
    | (go_at_call 19; (with_reducible refine (s2Of1 _).mono ?_); rintro e w' ⟨rfl, hb'⟩; replace hB := below_then hB hb'; clear hb')
    | (go_at_call 19; (with_reducible refine (s2Of0 _).mono ?_); rintro e w' ⟨rfl, hb'⟩; replace hB := below_then hB hb'; clear hb')
    | (go_at_call 19; (with_reducible refine (s2Of3 _).mono ?_); rintro e w' ⟨rfl, hb'⟩; replace hB := below_then hB hb'; clear hb')
    | (go_at_call 19; (with_reducible refine (s2Of2 _).mono ?_); rintro e w' ⟨rfl, hb'⟩; replace hB := below_then hB hb'; clear hb')
    | (go_at_call 17; (with_reducible refine (s2M1 _).mono ?_); rintro e w' ⟨rfl, hb'⟩; replace hB := below_then hB hb'; clear hb'))
  obtain ⟨Wa, hW, hka, hB'⟩ : ∃ Wa, w'.alloc (.cells #[.bool true, .string ⟨#[3]⟩, .string ⟨#[2]⟩] 27) = Wa ∧ Blk Wa w'.heap.size 27 #[.bool true, .string ⟨#[3]⟩, .string ⟨#[2]⟩] ∧ Below w.heap.size w Wa := ⟨_, rfl, Blk.new _ _ _, below_al hB _⟩
  rw [hW]
  have hgw := hB.size
  generalize w'.heap.size = ka at hka hgw ⊢
  clear hW hB
  have hB := hB'
  clear hB'
  have ht0 := hka.lt
  go_upto_region 3 with (first
    | (go_at_call 19; (with_reducible refine (s2Of6 _).mono ?_); rintro e w' ⟨rfl, hb'⟩; replace hB := below_then hB hb'; replace hka := hka.belowK hb'; clear hb')
    | (go_at_call 19; (with_reducible refine (s2Of4 _).mono ?_); rintro e w' ⟨rfl, hb'⟩; replace hB := below_then hB hb'; replace hka := hka.belowK hb'; clear hb')
    | (go_at_call 19; (with_reducible refine (s2Of1 _).mono ?_); rintro e w' ⟨rfl, hb'⟩; replace hB := below_then hB hb'; replace hka := hka.belowK hb'; clear hb')
    | (go_at_call 19; (with_reducible refine (s2Of0 _).mono ?_); rintro e w' ⟨rfl, hb'⟩; replace hB := below_then hB hb'; replace hka := hka.belowK hb'; clear hb')
    | (go_at_call 19; (with_reducible refine (s2Of3 _).mono ?_); rintro e w' ⟨rfl, hb'⟩; replace hB := below_then hB hb'; replace hka := hka.belowK hb'; clear hb')
    | (go_at_call 19; (with_reducible refine (s2Of2 _).mono ?_); rintro e w' ⟨rfl, hb'⟩; replace hB := below_then hB hb'; replace hka := hka.belowK hb'; clear hb')
    | (go_at_call 17; (with_reducible refine (s2M2 _).mono ?_); rintro e w' ⟨rfl, hb'⟩; replace hB := below_then hB hb'; replace hka := hka.belowK hb'; clear hb'))
  replace hB := below_al hB (.cells #[.bool false, .string ⟨#[]⟩, .string ⟨#[]⟩] 27)
  replace hka := hka.alloc (.cells #[.bool false, .string ⟨#[]⟩, .string ⟨#[]⟩] 27)
  generalize w'.alloc (.cells #[.bool false, .string ⟨#[]⟩, .string ⟨#[]⟩] 27) = w2 at hB hka ⊢
  go_upto_region 4 with (first
    | (go_at_call 44; (with_reducible refine (s2F1_2 _).mono ?_); rintro e w' ⟨rfl, hb'⟩; replace hB := below_then hB hb'; replace hka := hka.belowK hb'; clear hb')
    | (go_at_call 44; (with_reducible refine (s2Fm1_4 _).mono ?_); rintro e w' ⟨rfl, hb'⟩; replace hB := below_then hB hb'; replace hka := hka.belowK hb'; clear hb')
    | (go_at_call 44; (with_reducible refine (s2F1_3 _).mono ?_); rintro e w' ⟨rfl, hb'⟩; replace hB := below_then hB hb'; replace hka := hka.belowK hb'; clear hb')
    | (go_at_call 44; (with_reducible refine (s2F0_1 _).mono ?_); rintro e w' ⟨rfl, hb'⟩; replace hB := below_then hB hb'; replace hka := hka.belowK hb'; clear hb')
    | (go_at_call 44; (with_reducible refine (s2Fm3_2 _).mono ?_); rintro e w' ⟨rfl, hb'⟩; replace hB := below_then hB hb'; replace hka := hka.belowK hb'; clear hb')
    | (go_at_call 44; (with_reducible refine (s2Fm1_3 _).mono ?_); rintro e w' ⟨rfl, hb'⟩; replace hB := below_then hB hb'; replace hka := hka.belowK hb'; clear hb')
    | (go_at_call 44; (with_reducible refine (s2F1_6 _).mono ?_); rintro e w' ⟨rfl, hb'⟩; replace hB := below_then hB hb'; replace hka := hka.belowK hb'; clear hb')
    | (go_at_call 44; (with_reducible refine (s2Fm2_1 _).mono ?_); rintro e w' ⟨rfl, hb'⟩; replace hB := below_then hB hb'; replace hka := hka.belowK hb'; clear hb')
    | (go_at_call 31; (with_reducible refine (s2Q _).mono ?_); rintro e w' ⟨rfl, hb'⟩; replace hB := below_then hB hb'; replace hka := hka.belowK hb'; clear hb'))
  replace hka := hka.alloc (.cells #[.bool true, .string ⟨#[2]⟩, .string ⟨#[1]⟩] 27)
  have hkq := Blk.new w' 27 #[.bool true, .string ⟨#[2]⟩, .string ⟨#[1]⟩]
  have hgq := hB.size
  replace hB := below_al hB (.cells #[.bool true, .string ⟨#[2]⟩, .string ⟨#[1]⟩] 27)
  generalize w'.alloc (.cells #[.bool true, .string ⟨#[2]⟩, .string ⟨#[1]⟩] 27) = w3 at hB hka hkq ⊢
  generalize w'.heap.size = kq at hkq hgq ⊢
  go_wp2_with (first
    | (go_at_call 44; (with_reducible refine (s2F1_2 _).mono ?_); rintro e w' ⟨rfl, hb'⟩; replace hB := below_then hB hb'; replace hka := hka.belowK hb'; replace hkq := hkq.belowK hb'; clear hb')
    | (go_at_call 44; (with_reducible refine (s2Fm1_4 _).mono ?_); rintro e w' ⟨rfl, hb'⟩; replace hB := below_then hB hb'; replace hka := hka.belowK hb'; replace hkq := hkq.belowK hb'; clear hb')
    | (go_at_call 44; (with_reducible refine (s2F1_3 _).mono ?_); rintro e w' ⟨rfl, hb'⟩; replace hB := below_then hB hb'; replace hka := hka.belowK hb'; replace hkq := hkq.belowK hb'; clear hb')
    | (go_at_call 44; (with_reducible refine (s2F0_1 _).mono ?_); rintro e w' ⟨rfl, hb'⟩; replace hB := below_then hB hb'; replace hka := hka.belowK hb'; replace hkq := hkq.belowK hb'; clear hb')
    | (go_at_call 44; (with_reducible refine (s2Fm3_2 _).mono ?_); rintro e w' ⟨rfl, hb'⟩; replace hB := below_then hB hb'; replace hka := hka.belowK hb'; replace hkq := hkq.belowK hb'; clear hb')
    | (go_at_call 44; (with_reducible refine (s2Fm1_3 _).mono ?_); rintro e w' ⟨rfl, hb'⟩; replace hB := below_then hB hb'; replace hka := hka.belowK hb'; replace hkq := hkq.belowK hb'; clear hb')
    | (go_at_call 44; (with_reducible refine (s2F1_6 _).mono ?_); rintro e w' ⟨rfl, hb'⟩; replace hB := below_then hB hb'; replace hka := hka.belowK hb'; replace hkq := hkq.belowK hb'; clear hb')
    | (go_at_call 44; (with_reducible refine (s2Fm2_1 _).mono ?_); rintro e w' ⟨rfl, hb'⟩; replace hB := below_then hB hb'; replace hka := hka.belowK hb'; replace hkq := hkq.belowK hb'; clear hb'))
  refine (s2C _ _ (rdg3 (Blk.new _ _ _))).mono ?_
  rintro e w4 ⟨⟨A, c, rfl, hsd⟩, hb'⟩
  replace hB := below_then (below_al hB _) hb'
  replace hka := (hka.alloc _).belowK hb'
  replace hkq := (hkq.alloc _).belowK hb'
  clear hb'
  go_upto_region 8 with (first
    | (go_at_call 14; (with_reducible refine (s2P1 _).mono ?_); rintro e w' ⟨rfl, hb'⟩; (first | replace hB := below_then hB hb' | replace hB := below_then (below_al hB _) hb'); (first | replace hka := hka.belowK hb' | replace hka := (hka.alloc _).belowK hb'); (first | replace hkq := hkq.belowK hb' | replace hkq := (hkq.alloc _).belowK hb'); (first | replace hsd := hsd.below hb' | replace hsd := (hsd.below (below_al (Below.refl _ _) _)).below hb'); clear hb')
    | (go_at_call 14; (with_reducible refine (s2P2 _).mono ?_); rintro e w' ⟨rfl, hb'⟩; (first | replace hB := below_then hB hb' | replace hB := below_then (below_al hB _) hb'); (first | replace hka := hka.belowK hb' | replace hka := (hka.alloc _).belowK hb'); (first | replace hkq := hkq.belowK hb' | replace hkq := (hkq.alloc _).belowK hb'); (first | replace hsd := hsd.below hb' | replace hsd := (hsd.below (below_al (Below.refl _ _) _)).below hb'); clear hb')
    | (go_at_call 14; (with_reducible refine (s2P3 _).mono ?_); rintro e w' ⟨rfl, hb'⟩; (first | replace hB := below_then hB hb' | replace hB := below_then (below_al hB _) hb'); (first | replace hka := hka.belowK hb' | replace hka := (hka.alloc _).belowK hb'); (first | replace hkq := hkq.belowK hb' | replace hkq := (hkq.alloc _).belowK hb'); (first | replace hsd := hsd.below hb' | replace hsd := (hsd.below (below_al (Below.refl _ _) _)).below hb'); clear hb'))
  replace hsd := hsd.below (below_al (Below.refl _ _) (.cells #[.bool false, .string ⟨#[]⟩, .string ⟨#[]⟩] 27))
  replace hB := below_al hB (.cells #[.bool false, .string ⟨#[]⟩, .string ⟨#[]⟩] 27)
  replace hka := hka.alloc (.cells #[.bool false, .string ⟨#[]⟩, .string ⟨#[]⟩] 27)
  replace hkq := hkq.alloc (.cells #[.bool false, .string ⟨#[]⟩, .string ⟨#[]⟩] 27)
  generalize w'.alloc (.cells #[.bool false, .string ⟨#[]⟩, .string ⟨#[]⟩] 27) = w8 at hB hka hkq hsd ⊢
  have m1 := Lib.hid s2Fm3_2
  have m2 := Lib.hid s2F1_2
  have m3 := Lib.hid s2Fm1_3
  have m4 := Lib.hid s2A
  have m5 := Lib.hid s2F1_6
  have m6 := Lib.hid s2Fm2_1
  go_cut [16] (fun s wx => s = .bool true ∧ Below w8.heap.size w8 wx)
  case first =>
    go_region_held3 (fun W : World => (W.cell? ⟨ka, 0, none⟩ = some (.bool true) ∧ W.cell? ⟨ka, 1, none⟩ = some (.string ⟨#[3]⟩) ∧ W.cell? ⟨ka, 2, none⟩ = some (.string ⟨#[2]⟩)) ∧ (W.cell? ⟨kq, 0, none⟩ = some (.bool true) ∧ W.cell? ⟨kq, 1, none⟩ = some (.string ⟨#[2]⟩) ∧ W.cell? ⟨kq, 2, none⟩ = some (.string ⟨#[1]⟩)))
      ((refine ⟨cells3 hka ?_, cells3 hkq ?_⟩ <;> (repeat (first | exact Below.refl _ _ | apply Below.drew | refine below_then ?_ hz0 | refine below_then ?_ hz1 | refine below_then ?_ hz2 | refine below_then ?_ hz3 | refine below_then ?_ hz4 | refine below_then ?_ hz5))))
      (first
        | (go_at_call 44; (with_reducible refine (m1.out _).mono ?_); rintro e v0 ⟨rfl, hz0⟩)
        | (go_at_call 44; (with_reducible refine (m2.out _).mono ?_); rintro e v1 ⟨rfl, hz1⟩)
        | (go_at_call 44; (with_reducible refine (m3.out _).mono ?_); rintro e v2 ⟨rfl, hz2⟩)
        | (go_at_call 27; (with_reducible refine (m4.out _).mono ?_); rintro e v3 ⟨rfl, hz3⟩)
        | (go_at_call 44; (with_reducible refine (m5.out _).mono ?_); rintro e v4 ⟨rfl, hz4⟩)
        | (go_at_call 44; (with_reducible refine (m6.out _).mono ?_); rintro e v5 ⟨rfl, hz5⟩))
    all_goals go_wp2_with fail
    all_goals go_meet
    all_goals
      refine ⟨by first | rfl | decide, ?_⟩
      (repeat (first | exact Below.refl _ _ | apply Below.drew | refine below_then ?_ hz0 | refine below_then ?_ hz1 | refine below_then ?_ hz2 | refine below_then ?_ hz3 | refine below_then ?_ hz4 | refine below_then ?_ hz5))
  obtain ⟨rfl, hcb⟩ := hcut
  replace hB := below_then hB hcb
  replace hsd := hsd.below hcb
  clear hcb hka hkq m1 m2 m3 m4 m5 m6
  go_wp2_with (first
    | (go_at_call 19; (with_reducible refine (s2Of6 _).mono ?_); rintro e w' ⟨rfl, hb'⟩; replace hB := below_then hB hb'; replace hsd := hsd.below hb'; clear hb')
    | (go_at_call 19; (with_reducible refine (s2Of4 _).mono ?_); rintro e w' ⟨rfl, hb'⟩; replace hB := below_then hB hb'; replace hsd := hsd.below hb'; clear hb')
    | (go_at_call 19; (with_reducible refine (s2Of1 _).mono ?_); rintro e w' ⟨rfl, hb'⟩; replace hB := below_then hB hb'; replace hsd := hsd.below hb'; clear hb')
    | (go_at_call 19; (with_reducible refine (s2Of0 _).mono ?_); rintro e w' ⟨rfl, hb'⟩; replace hB := below_then hB hb'; replace hsd := hsd.below hb'; clear hb')
    | (go_at_call 19; (with_reducible refine (s2Of3 _).mono ?_); rintro e w' ⟨rfl, hb'⟩; replace hB := below_then hB hb'; replace hsd := hsd.below hb'; clear hb')
    | (go_at_call 19; (with_reducible refine (s2Of2 _).mono ?_); rintro e w' ⟨rfl, hb'⟩; replace hB := below_then hB hb'; replace hsd := hsd.below hb'; clear hb'))
  refine (Same_q _ _ _ _ _ _ _ _ (hsd.below (below_al (Below.refl _ _) _)) (sdg3 (Blk.new _ _ _)) (by omega)).mono ?_
  rintro e w9 ⟨rfl, hb'⟩
  replace hB := below_then (below_al hB _) hb'
  clear hb' hsd
  go_wp2_with (first
    | (go_at_call 44; (with_reducible refine (s2Fm3_2 _).mono ?_); rintro e w' ⟨rfl, hb'⟩; replace hB := below_then hB hb'; clear hb'))
  refine (Text_q true ⟨#[3]⟩ ⟨#[2]⟩ _ (by decide) (by decide) (HT.out.below hB)).mono ?_
  rw [s2X]
  rintro e w10 ⟨rfl, hb'⟩
  replace hB := below_then hB hb'
  clear hb'
  go_wp2_with fail
  go_ret
  exact ⟨rfl, hB⟩

end Go.Proofs.YtikdkhmeaoafmaaGreatDoor
