/- Text of ratio and of its reference. -/
import Derived.Test.YtikdkhmeaoafmaaGreatDoorRatV
import Derived.Test.YtikdkhmeaoafmaaGreatDoorNatS
import Derived.Test.YtikdkhmeaoafmaaGreatDoorRefO
namespace Go.Proofs.YtikdkhmeaoafmaaGreatDoor
open Go.RowKit

/-- The text of a number. -/
def textS (x : Rat) : ByteArray := ⟨(textQ x).toArray⟩
theorem text_parts {x : Rat} : textS x = (if negB x = true then ⟨#[45]⟩ ++ decS x.num.natAbs else decS x.num.natAbs) ++ (if x.den = 1 then ⟨#[]⟩ else ⟨#[47]⟩ ++ decS x.den) := by
  apply ByteArray.ext
  apply Array.toList_inj.1
  unfold textS textQ textL decS
  by_cases h1 : negB x = true <;> by_cases h2 : x.den = 1 <;> simp [h1, h2]
theorem decS_size {a : ByteArray} {k n : Nat} (h : a.size ≤ k) (e : sval a = n) : (decS n).size ≤ 3 * k + 1 := by
  have := dec_bytes a
  rw [← e]
  show (Lib.decDigits (sval a)).toArray.size ≤ _
  simp; omega
theorem app_nil (t : ByteArray) : t ++ (⟨#[]⟩ : ByteArray) = t := by
  apply ByteArray.ext; apply Array.toList_inj.1; simp
theorem app_assoc (a b c : ByteArray) : a ++ b ++ c = a ++ (b ++ c) := by
  apply ByteArray.ext; apply Array.toList_inj.1; simp

set_option maxRecDepth 100000 in
set_option maxHeartbeats 1000000 in
theorem Text_q (g : Bool) (a b : ByteArray) (w : World) (ha : a.size ≤ 300) (hb : b.size ≤ 300) (ht : Pow10 w) :
    Calls Tryz.prog 12 #[ratW g a b] w fun e w' => e = .returned (.string (textS (ratOf g a b))) ∧ Below w.heap.size w w' := by
  have hx : Sm 300 (ratOf g a b) := sm_of ha hb (by omega)
  obtain ⟨g1, a1, b1, e1, eg, ea, eb, sa, sb, -, -, eu⟩ := words_right hx
  have p1 : Ret 47 #[ratW g a b] (ratW g1 a1 b1) := fun W => e1 ▸ value_any g a b W (by omega) (by omega)
  have m1 := Lib.hid p1
  have m2 : Hid (∀ W : World, Pow10 W → Calls Tryz.prog 48 #[.string a1] W fun e w' => e = .returned (.string (decS (ratOf g a b).num.natAbs)) ∧ Below W.heap.size W w') := Lib.hid (fun (W : World) (h : Pow10 W) => ea ▸ Text_any a1 W (by omega) h)
  have m3 : Hid (∀ W : World, Pow10 W → Calls Tryz.prog 48 #[.string b1] W fun e w' => e = .returned (.string (decS (ratOf g a b).den)) ∧ Below W.heap.size W w') := Lib.hid (fun (W : World) (h : Pow10 W) => eb ▸ Text_any b1 W (by omega) h)
  have l1 : (decS (ratOf g a b).num.natAbs).size ≤ 3 * 300 + 1 := decS_size sa ea
  have l2 : (decS (ratOf g a b).den).size ≤ 3 * 300 + 1 := decS_size sb eb
  have HP := Lib.hid (text_parts (x := ratOf g a b))
  rw [← eg] at HP
  have HT := Lib.hid ht
  clear ht
  clear p1 e1 ea eb eg hx
  have HX : Hid (∀ (t1 t2 : ByteArray), decS (ratOf g a b).num.natAbs = t1 → decS (ratOf g a b).den = t2 → textS (ratOf g a b) = (if g1 = true then ⟨#[45]⟩ ++ t1 else t1) ++ (if (ratOf g a b).den = 1 then ⟨#[]⟩ else ⟨#[47]⟩ ++ t2)) := Lib.hid (fun t1 t2 h1 h2 => by rw [← h1, ← h2]; exact HP.out)
  generalize decS (ratOf g a b).num.natAbs = t1 at *
  generalize decS (ratOf g a b).den = t2 at *
  replace HX := Lib.hid (HX.out t1 t2 rfl rfl)
  clear HP
  generalize textS (ratOf g a b) = res at *
  have hB := Below.refl w.heap.size w
  go_enter Tryz.func12, Tryz.ntmps12
  go_wp2_with fail
  refine (m1.out _).mono ?_
  rintro e w1 ⟨rfl, hb1⟩
  have hka := (Blk.new w 27 #[.bool g, .string a, .string b]).belowK hb1
  replace hB := below_then (below_al hB _) hb1
  clear hb1
  obtain ⟨chka0, chka1, chka2⟩ := cells3 hka (Below.refl _ _)
  obtain ⟨fhka0, fhka1, fhka2⟩ := free3 hka (Below.refl _ _)
  go_wp2_with fail
  replace hB := below_put3 (k := w.heap.size) hB (by omega) (.bool g1) (.string a1) (.string b1)
  refine (m2.out _ (HT.out.below hB)).mono ?_
  rintro e w2 ⟨rfl, hb2⟩
  replace hka := (hka.put3 (.bool g1) (.string a1) (.string b1)).belowK hb2
  replace hB := below_then hB hb2
  clear hb2
  clear chka0 chka1 chka2
  clear fhka0 fhka1 fhka2
  obtain ⟨chka0, chka1, chka2⟩ := cells3 hka (Below.refl _ _)
  cases g1
  · by_cases h1 : (ratOf g a b).den = 1
    · rw [decide_eq_true h1] at eu
      have H1 := Lib.hid h1
      clear h1
      go_wp2_with fail
      go_ret
      exact ⟨by rw [HX.out, if_pos H1.out, app_nil]; rfl, hB⟩
    · rw [decide_eq_false h1] at eu
      have H1 := Lib.hid h1
      clear h1
      go_wp2_with fail
      refine (m3.out _ (HT.out.below hB)).mono ?_
      rintro e w3 ⟨rfl, hb3⟩
      replace hB := below_then hB hb3
      go_wp2_with fail
      go_ret
      exact ⟨by rw [HX.out, if_neg H1.out]; rfl, hB⟩
  · by_cases h1 : (ratOf g a b).den = 1
    · rw [decide_eq_true h1] at eu
      have H1 := Lib.hid h1
      clear h1
      go_wp2_with fail
      go_ret
      exact ⟨by rw [HX.out, if_pos H1.out, app_nil]; rfl, hB⟩
    · rw [decide_eq_false h1] at eu
      have H1 := Lib.hid h1
      clear h1
      go_wp2_with fail
      refine (m3.out _ (HT.out.below hB)).mono ?_
      rintro e w3 ⟨rfl, hb3⟩
      replace hB := below_then hB hb3
      go_wp2_with fail
      go_ret
      exact ⟨by rw [HX.out, if_neg H1.out]; rfl, hB⟩

set_option maxRecDepth 100000 in
set_option maxHeartbeats 1000000 in
theorem rText_q (g : Bool) (a b : ByteArray) (w : World) (ha : a.size ≤ 300) (hb : b.size ≤ 300) :
    Calls Tryz.prog 13 #[ratW g a b] w fun e w' => e = .returned (.string (textS (ratOf g a b))) ∧ Below w.heap.size w w' := by
  have hx : Sm 300 (ratOf g a b) := sm_of ha hb (by omega)
  obtain ⟨g1, a1, b1, e1, eg, ea, eb, sa, sb, -, -, eu⟩ := words_right hx
  have p1 : Ret 49 #[ratW g a b] (ratW g1 a1 b1) := fun W => e1 ▸ rvalue_q g a b (by omega) (by omega) W
  have m1 := Lib.hid p1
  have m2 : Hid (∀ W : World, Calls Tryz.prog 50 #[.string a1] W fun e w' => e = .returned (.string (decS (ratOf g a b).num.natAbs)) ∧ Below W.heap.size W w') := Lib.hid (fun W => ea ▸ rText a1 W (by omega))
  have m3 : Hid (∀ W : World, Calls Tryz.prog 50 #[.string b1] W fun e w' => e = .returned (.string (decS (ratOf g a b).den)) ∧ Below W.heap.size W w') := Lib.hid (fun W => eb ▸ rText b1 W (by omega))
  have m4 := Lib.hid ret_rone
  have m5 := Lib.hid (ret_rcmp (a := b1) (b := ⟨#[1]⟩) (by omega) (by decide))
  rw [sval_unit, eb] at m5
  have HC := Lib.hid (cmpI_one (ratOf g a b).den)
  generalize cmpI (ratOf g a b).den 1 = z at *
  have l1 : (decS (ratOf g a b).num.natAbs).size ≤ 3 * 300 + 1 := decS_size sa ea
  have l2 : (decS (ratOf g a b).den).size ≤ 3 * 300 + 1 := decS_size sb eb
  have HP := Lib.hid (text_parts (x := ratOf g a b))
  rw [← eg] at HP
  clear p1 e1 ea eb eg hx
  have HX : Hid (∀ (t1 t2 : ByteArray), decS (ratOf g a b).num.natAbs = t1 → decS (ratOf g a b).den = t2 → textS (ratOf g a b) = (if g1 = true then ⟨#[45]⟩ ++ t1 else t1) ++ (if (ratOf g a b).den = 1 then ⟨#[]⟩ else ⟨#[47]⟩ ++ t2)) := Lib.hid (fun t1 t2 h1 h2 => by rw [← h1, ← h2]; exact HP.out)
  generalize decS (ratOf g a b).num.natAbs = t1 at *
  generalize decS (ratOf g a b).den = t2 at *
  replace HX := Lib.hid (HX.out t1 t2 rfl rfl)
  clear HP
  generalize textS (ratOf g a b) = res at *
  have hB := Below.refl w.heap.size w
  go_enter Tryz.func13, Tryz.ntmps13
  go_wp2_with fail
  refine (m1.out _).mono ?_
  rintro e w1 ⟨rfl, hb1⟩
  have hka := (Blk.new w 27 #[.bool g, .string a, .string b]).belowK hb1
  replace hB := below_then (below_al hB _) hb1
  clear hb1
  obtain ⟨chka0, chka1, chka2⟩ := cells3 hka (Below.refl _ _)
  obtain ⟨fhka0, fhka1, fhka2⟩ := free3 hka (Below.refl _ _)
  go_wp2_with fail
  replace hB := below_put3 (k := w.heap.size) hB (by omega) (.bool g1) (.string a1) (.string b1)
  refine (m2.out _).mono ?_
  rintro e w2 ⟨rfl, hb2⟩
  replace hka := (hka.put3 (.bool g1) (.string a1) (.string b1)).belowK hb2
  replace hB := below_then hB hb2
  clear hb2
  clear chka0 chka1 chka2
  clear fhka0 fhka1 fhka2
  obtain ⟨chka0, chka1, chka2⟩ := cells3 hka (Below.refl _ _)
  cases g1
  · by_cases h1 : (ratOf g a b).den = 1
    · have hz := HC.out
      rw [decide_eq_true h1] at hz
      have H1 := Lib.hid h1
      clear h1
      go_upto_region 5 with fail
      go_cut [17] (fun s wx => s = .bool false ∧ Below w2.heap.size w2 wx)
      case first =>
        go_region_held3 (fun W : World => (W.cell? ⟨w.heap.size, 0, none⟩ = some (.bool false) ∧ W.cell? ⟨w.heap.size, 1, none⟩ = some (.string a1) ∧ W.cell? ⟨w.heap.size, 2, none⟩ = some (.string b1)))
          ((refine cells3 hka ?_; (repeat (first | exact Below.refl _ _ | apply Below.drew | refine below_then ?_ hz0 | refine below_then ?_ hz1))))
          (first
            | (go_at_call 19; (with_reducible refine (m4.out _).mono ?_); rintro e v0 ⟨rfl, hz0⟩)
            | (go_at_call 51; (with_reducible refine (m5.out _).mono ?_); rintro e v1 ⟨rfl, hz1⟩))
        all_goals go_wp2_with fail
        all_goals go_meet
        all_goals
          refine ⟨by first | rfl | (have := HC.out; simp_all), ?_⟩
          (repeat (first | exact Below.refl _ _ | apply Below.drew | refine below_then ?_ hz0 | refine below_then ?_ hz1))
      obtain ⟨rfl, hcb⟩ := hcut
      clear chka0 chka1 chka2
      replace hB := below_then hB hcb
      replace hka := hka.belowK hcb
      clear hcb
      obtain ⟨chka0, chka1, chka2⟩ := cells3 hka (Below.refl _ _)
      go_wp2_with fail
      go_ret
      exact ⟨by rw [HX.out, if_pos H1.out, app_nil]; rfl, hB⟩
    · have hz := HC.out
      rw [decide_eq_false h1] at hz
      have H1 := Lib.hid h1
      clear h1
      go_upto_region 5 with fail
      go_cut [17] (fun s wx => s = .bool true ∧ Below w2.heap.size w2 wx)
      case first =>
        go_region_held3 (fun W : World => (W.cell? ⟨w.heap.size, 0, none⟩ = some (.bool false) ∧ W.cell? ⟨w.heap.size, 1, none⟩ = some (.string a1) ∧ W.cell? ⟨w.heap.size, 2, none⟩ = some (.string b1)))
          ((refine cells3 hka ?_; (repeat (first | exact Below.refl _ _ | apply Below.drew | refine below_then ?_ hz0 | refine below_then ?_ hz1))))
          (first
            | (go_at_call 19; (with_reducible refine (m4.out _).mono ?_); rintro e v0 ⟨rfl, hz0⟩)
            | (go_at_call 51; (with_reducible refine (m5.out _).mono ?_); rintro e v1 ⟨rfl, hz1⟩))
        all_goals go_wp2_with fail
        all_goals go_meet
        all_goals
          refine ⟨by first | rfl | (have := HC.out; simp_all), ?_⟩
          (repeat (first | exact Below.refl _ _ | apply Below.drew | refine below_then ?_ hz0 | refine below_then ?_ hz1))
      obtain ⟨rfl, hcb⟩ := hcut
      clear chka0 chka1 chka2
      replace hB := below_then hB hcb
      replace hka := hka.belowK hcb
      clear hcb
      obtain ⟨chka0, chka1, chka2⟩ := cells3 hka (Below.refl _ _)
      go_wp2_with fail
      refine (m3.out _).mono ?_
      rintro e w3 ⟨rfl, hb3⟩
      replace hB := below_then hB hb3
      go_wp2_with fail
      go_ret
      exact ⟨by rw [HX.out, if_neg H1.out, ← app_assoc]; rfl, hB⟩
  · by_cases h1 : (ratOf g a b).den = 1
    · have hz := HC.out
      rw [decide_eq_true h1] at hz
      have H1 := Lib.hid h1
      clear h1
      go_upto_region 5 with fail
      go_cut [17] (fun s wx => s = .bool false ∧ Below w2.heap.size w2 wx)
      case first =>
        go_region_held3 (fun W : World => (W.cell? ⟨w.heap.size, 0, none⟩ = some (.bool true) ∧ W.cell? ⟨w.heap.size, 1, none⟩ = some (.string a1) ∧ W.cell? ⟨w.heap.size, 2, none⟩ = some (.string b1)))
          ((refine cells3 hka ?_; (repeat (first | exact Below.refl _ _ | apply Below.drew | refine below_then ?_ hz0 | refine below_then ?_ hz1))))
          (first
            | (go_at_call 19; (with_reducible refine (m4.out _).mono ?_); rintro e v0 ⟨rfl, hz0⟩)
            | (go_at_call 51; (with_reducible refine (m5.out _).mono ?_); rintro e v1 ⟨rfl, hz1⟩))
        all_goals go_wp2_with fail
        all_goals go_meet
        all_goals
          refine ⟨by first | rfl | (have := HC.out; simp_all), ?_⟩
          (repeat (first | exact Below.refl _ _ | apply Below.drew | refine below_then ?_ hz0 | refine below_then ?_ hz1))
      obtain ⟨rfl, hcb⟩ := hcut
      clear chka0 chka1 chka2
      replace hB := below_then hB hcb
      replace hka := hka.belowK hcb
      clear hcb
      obtain ⟨chka0, chka1, chka2⟩ := cells3 hka (Below.refl _ _)
      go_wp2_with fail
      go_ret
      exact ⟨by rw [HX.out, if_pos H1.out, app_nil]; rfl, hB⟩
    · have hz := HC.out
      rw [decide_eq_false h1] at hz
      have H1 := Lib.hid h1
      clear h1
      go_upto_region 5 with fail
      go_cut [17] (fun s wx => s = .bool true ∧ Below w2.heap.size w2 wx)
      case first =>
        go_region_held3 (fun W : World => (W.cell? ⟨w.heap.size, 0, none⟩ = some (.bool true) ∧ W.cell? ⟨w.heap.size, 1, none⟩ = some (.string a1) ∧ W.cell? ⟨w.heap.size, 2, none⟩ = some (.string b1)))
          ((refine cells3 hka ?_; (repeat (first | exact Below.refl _ _ | apply Below.drew | refine below_then ?_ hz0 | refine below_then ?_ hz1))))
          (first
            | (go_at_call 19; (with_reducible refine (m4.out _).mono ?_); rintro e v0 ⟨rfl, hz0⟩)
            | (go_at_call 51; (with_reducible refine (m5.out _).mono ?_); rintro e v1 ⟨rfl, hz1⟩))
        all_goals go_wp2_with fail
        all_goals go_meet
        all_goals
          refine ⟨by first | rfl | (have := HC.out; simp_all), ?_⟩
          (repeat (first | exact Below.refl _ _ | apply Below.drew | refine below_then ?_ hz0 | refine below_then ?_ hz1))
      obtain ⟨rfl, hcb⟩ := hcut
      clear chka0 chka1 chka2
      replace hB := below_then hB hcb
      replace hka := hka.belowK hcb
      clear hcb
      obtain ⟨chka0, chka1, chka2⟩ := cells3 hka (Below.refl _ _)
      go_wp2_with fail
      refine (m3.out _).mono ?_
      rintro e w3 ⟨rfl, hb3⟩
      replace hB := below_then hB hb3
      go_wp2_with fail
      go_ret
      exact ⟨by rw [HX.out, if_neg H1.out, ← app_assoc]; rfl, hB⟩

end Go.Proofs.YtikdkhmeaoafmaaGreatDoor
