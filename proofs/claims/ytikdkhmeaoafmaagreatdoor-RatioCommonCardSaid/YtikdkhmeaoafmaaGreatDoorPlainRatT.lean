/- Texts of rational numbers, and how they are read, in plain Lean. -/
import Derived.Test.YtikdkhmeaoafmaaGreatDoorPlainRatB
namespace Go.Proofs.YtikdkhmeaoafmaaGreatDoor
open Go.Lib (decDigits)

theorem dec_self : ∀ (k : Nat) (l : List UInt8), l.length = k → goodD l = true → decDigits (dval l) = l
  | 0, l, hk, h => by
    obtain rfl := List.eq_nil_of_length_eq_zero hk
    simp [goodD] at h
  | k + 1, l, hk, h => by
    obtain ⟨t, b, rfl⟩ : ∃ t b, l = t ++ [b] := ⟨l.dropLast, l.getLast (by intro e; subst e; simp at hk), (List.dropLast_concat_getLast _).symm⟩
    have hk' : t.length = k := by simpa using hk
    have ha : (t ++ [b]).all isD = true := by unfold goodD at h; simp only [Bool.and_eq_true] at h; exact h.2
    rw [List.all_append, Bool.and_eq_true] at ha
    have hb : isD b = true := by simpa using ha.2
    obtain ⟨h1, h2⟩ := isD_iff.1 hb
    rw [dval_snoc]
    have hbyte : UInt8.ofNat (48 + (b.toNat - 48)) = b := by
      rw [show 48 + (b.toNat - 48) = b.toNat by omega]; simp
    cases t with
    | nil =>
      rw [dval_nil, Nat.zero_mul, Nat.zero_add, Lib.decDigits_one (by omega), hbyte]; rfl
    | cons c t =>
      have hc : c ≠ 48 := by
        unfold goodD at h
        simp at h
        exact h.1
      have hg : goodD (c :: t) = true := by
        unfold goodD
        simp only [Bool.and_eq_true]
        exact ⟨⟨by simp, by simp [hc]⟩, ha.1⟩
      have ih := dec_self k (c :: t) hk' hg
      have hpos : 0 < dval (c :: t) := by
        rcases Nat.eq_zero_or_pos (dval (c :: t)) with h0 | h0
        · rw [h0, Lib.decDigits_one (by omega)] at ih
          have := (List.cons.inj ih).1
          exact absurd this.symm (by simpa using hc)
        · exact h0
      rw [dec_ten (by omega), show (dval (c :: t) * 10 + (b.toNat - 48)) / 10 = dval (c :: t) by omega, show (dval (c :: t) * 10 + (b.toNat - 48)) % 10 = b.toNat - 48 by omega, hbyte, ih]

/-- The text of a number by its parts. -/
def textL (g : Bool) (m d : Nat) : List UInt8 := (if g = true then [45] else []) ++ (decDigits m ++ (if d = 1 then [] else 47 :: decDigits d))
/-- The text of a number. -/
def textQ (x : Rat) : List UInt8 := textL (negB x) x.num.natAbs x.den

/-- Behind the sign. -/
def bodyL (l : List UInt8) : List UInt8 := if l.head? = some 45 then l.tail else l
/-- In front of the stroke. -/
def upL (l : List UInt8) : List UInt8 := (bodyL l).takeWhile (· != 47)
/-- From the stroke on. -/
def downL (l : List UInt8) : List UInt8 := (bodyL l).dropWhile (· != 47)
/-- The denominator that a text names. -/
def denL (l : List UInt8) : Nat := if downL l = [] then 1 else dval (downL l).tail
/-- Whether both parts of a text are numerals. -/
def readsL (l : List UInt8) : Prop := goodD (upL l) = true ∧ (downL l ≠ [] → goodD (downL l).tail = true)
/-- Whether a text is that of a right number, given that its parts are numerals. -/
def fineL (l : List UInt8) : Prop := denL l ≠ 0 ∧ (downL l ≠ [] → denL l ≠ 1) ∧ ¬ (dval (upL l) = 0 ∧ l.head? = some 45) ∧ Nat.gcd (dval (upL l)) (denL l) = 1

theorem digit_ne {l : List UInt8} (h : l.all isD = true) : ∀ b ∈ l, b ≠ 45 ∧ b ≠ 47 := fun b hb => by
  have := isD_iff.1 (List.all_eq_true.1 h b hb)
  constructor
  · rintro rfl; simp at this
  · rintro rfl; simp at this

theorem split_text (l : List UInt8) : l = (if l.head? = some 45 then [45] else []) ++ (upL l ++ downL l) := by
  unfold upL downL
  rw [List.takeWhile_append_dropWhile]
  unfold bodyL
  split
  · rename_i h
    cases l with
    | nil => simp at h
    | cons a t => simp at h; subst h; rfl
  · rfl
theorem down_head {l : List UInt8} (h : downL l ≠ []) : downL l = 47 :: (downL l).tail := by
  unfold downL at *
  generalize bodyL l = r at *
  induction r with
  | nil => simp at h
  | cons a t ih =>
    by_cases e : a = 47
    · subst e; simp
    · have e' : (a != 47) = true := by simpa using e
      rw [List.dropWhile_cons, if_pos e'] at h ⊢
      exact ih h

theorem take_digits {a t : List UInt8} (ha : a.all isD = true) (ht : t = [] ∨ ∃ u, t = 47 :: u) : (a ++ t).takeWhile (· != 47) = a ∧ (a ++ t).dropWhile (· != 47) = t := by
  induction a with
  | nil =>
    rcases ht with rfl | ⟨u, rfl⟩
    · simp
    · simp
  | cons b a ih =>
    have hb := (digit_ne ha b (by simp)).2
    have e' : (b != 47) = true := by simpa using hb
    have ih := ih (by simp at ha ⊢; exact ha.2)
    constructor
    · rw [List.cons_append, List.takeWhile_cons, if_pos e', ih.1]
    · rw [List.cons_append, List.dropWhile_cons, if_pos e', ih.2]

theorem head_digits {a t : List UInt8} (ha : a.all isD = true) (hne : a ≠ []) : (a ++ t).head? ≠ some 45 := by
  cases a with
  | nil => exact absurd rfl hne
  | cons b a =>
    have hb := (digit_ne ha b (by simp)).1
    simpa using hb

/-- The parts of a text that is put together. -/
theorem parts_text (g : Bool) {a t : List UInt8} (ha : a.all isD = true) (hne : a ≠ []) (ht : t = [] ∨ ∃ u, t = 47 :: u) :
    ((((if g = true then [45] else []) ++ (a ++ t)).head? = some 45) ↔ g = true) ∧ upL ((if g = true then [45] else []) ++ (a ++ t)) = a ∧ downL ((if g = true then [45] else []) ++ (a ++ t)) = t := by
  have hb : bodyL ((if g = true then [45] else []) ++ (a ++ t)) = a ++ t := by
    unfold bodyL
    cases g
    · simp only [Bool.false_eq_true, if_false, List.nil_append]
      rw [if_neg (head_digits ha hne)]
    · simp
  unfold upL downL
  rw [hb]
  refine ⟨?_, take_digits ha ht⟩
  cases g
  · simp only [Bool.false_eq_true, if_false, List.nil_append]
    exact ⟨fun h => absurd h (head_digits ha hne), fun h => by cases h⟩
  · simp

theorem tail_shape (d : Nat) : (if d = 1 then [] else 47 :: decDigits d) = ([] : List UInt8) ∨ ∃ u, (if d = 1 then [] else 47 :: decDigits d) = (47 : UInt8) :: u := by
  by_cases h : d = 1
  · left; rw [if_pos h]
  · right; exact ⟨_, by rw [if_neg h]⟩

theorem dec_inj {m n : Nat} (h : decDigits m = decDigits n) : m = n := by rw [← dec_val m, h, dec_val]

/-- The parts of a number's text. -/
theorem parts_textL (g : Bool) (m d : Nat) : ((textL g m d).head? = some 45 ↔ g = true) ∧ upL (textL g m d) = decDigits m ∧ downL (textL g m d) = (if d = 1 then [] else 47 :: decDigits d) :=
  parts_text g (dec_all m) (dec_ne m) (tail_shape d)

theorem textL_reads (g : Bool) (m d : Nat) : readsL (textL g m d) ∧ dval (upL (textL g m d)) = m ∧ denL (textL g m d) = d := by
  obtain ⟨_, h2, h3⟩ := parts_textL g m d
  unfold readsL denL
  rw [h2, h3, dec_val]
  by_cases h : d = 1
  · subst h; simp [dec_good]
  · simp [h, dec_good, dec_val]

theorem gcd_mk {n d : Nat} (g : Bool) (hd : d ≠ 0) : negB (mkRat (signed g n) d) = (g && decide (n ≠ 0)) ∧ (mkRat (signed g n) d).num.natAbs = n / Nat.gcd n d ∧ (mkRat (signed g n) d).den = d / Nat.gcd n d := by
  have h := ratV_mk g (n := n) hd
  unfold ratV at h
  simp only [Value.agg.injEq, Array.mk.injEq, List.cons.injEq, Value.bool.injEq, Value.string.injEq, and_true] at h
  exact ⟨h.1, natS_inj h.2.1, natS_inj h.2.2⟩

/-- A text whose parts are numerals is the text of the number that they name exactly if it is fine. -/
theorem text_iff {l : List UInt8} (hr : readsL l) (hd : denL l ≠ 0) : textQ (mkRat (signed (decide (l.head? = some 45)) (dval (upL l))) (denL l)) = l ↔ fineL l := by
  obtain ⟨hu, hdn⟩ := hr
  obtain ⟨g1, g2, g3⟩ := gcd_mk (n := dval (upL l)) (decide (l.head? = some 45)) hd
  unfold textQ
  rw [g1, g2, g3]
  have hup : decDigits (dval (upL l)) = upL l := dec_self _ _ rfl hu
  obtain ⟨t1, t2, t3⟩ := parts_textL (decide (l.head? = some 45) && decide (dval (upL l) ≠ 0)) (dval (upL l) / Nat.gcd (dval (upL l)) (denL l)) (denL l / Nat.gcd (dval (upL l)) (denL l))
  constructor
  · intro h
    rw [h] at t1 t2 t3
    have e1 : dval (upL l) = dval (upL l) / Nat.gcd (dval (upL l)) (denL l) := by
      have := congrArg dval t2
      rw [dec_val] at this
      exact this
    refine ⟨hd, fun hne => ?_, ?_, ?_⟩
    · intro h1
      rw [h1, Nat.gcd_one_right, Nat.div_one, if_pos rfl] at t3
      exact hne t3
    · rintro ⟨z1, z2⟩
      have := t1.1 z2
      simp [z1] at this
    · by_cases hne : downL l = []
      · have : denL l = 1 := by unfold denL; rw [if_pos hne]
        rw [this, Nat.gcd_one_right]
      · by_cases hq : denL l / Nat.gcd (dval (upL l)) (denL l) = 1
        · rw [if_pos hq] at t3; exact absurd t3 hne
        · rw [if_neg hq] at t3
          have e2 : denL l = denL l / Nat.gcd (dval (upL l)) (denL l) := by
            have h4 := congrArg (fun z => dval z.tail) t3
            simp only [List.tail_cons, dec_val] at h4
            unfold denL at h4 ⊢
            rw [if_neg hne] at h4 ⊢
            exact h4
          have hgp : 0 < Nat.gcd (dval (upL l)) (denL l) := Nat.gcd_pos_of_pos_right _ (by omega)
          generalize Nat.gcd (dval (upL l)) (denL l) = k at *
          rcases Nat.lt_or_ge 1 k with hk | hk
          · have := Nat.div_lt_self (n := denL l) (k := k) (by omega) hk
            omega
          · omega
  · rintro ⟨_, h2, h3, h4⟩
    rw [h4, Nat.div_one, Nat.div_one]
    have e0 : (decide (l.head? = some 45) && decide (dval (upL l) ≠ 0)) = decide (l.head? = some 45) := by
      by_cases h : l.head? = some 45
      · have : dval (upL l) ≠ 0 := fun e => h3 ⟨e, h⟩
        simp [h, this]
      · simp [h]
    rw [e0]
    unfold textL
    rw [hup]
    have e1 : (if denL l = 1 then [] else 47 :: decDigits (denL l)) = downL l := by
      by_cases hne : downL l = []
      · have : denL l = 1 := by unfold denL; rw [if_pos hne]
        rw [this, if_pos rfl, hne]
      · rw [if_neg (h2 hne)]
        have : denL l = dval (downL l).tail := by unfold denL; rw [if_neg hne]
        rw [this, dec_self _ _ rfl (hdn hne), ← down_head hne]
    rw [e1]
    have e2 : (if decide (l.head? = some 45) = true then [45] else []) = (if l.head? = some 45 then [(45 : UInt8)] else []) := by simp
    rw [e2]
    exact (split_text l).symm

end Go.Proofs.YtikdkhmeaoafmaaGreatDoor
