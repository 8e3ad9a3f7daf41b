/- Texts read back, and lists ordered by hand, in plain words. -/
import Derived.Test.YtebgmlbbilcbbaaGreatDoorPlainMore
namespace Go.Proofs.YtebgmlbbilcbbaaGreatDoor
open Go.Lib (decDigits)

theorem hexL_append (a b : List UInt8) : hexL (a ++ b) = hexL a ++ hexL b := by unfold hexL; rw [List.flatMap_append]
theorem hexL_snoc (l : List UInt8) (b : UInt8) : hexL (l ++ [b]) = hexL l ++ [hexD (b.toNat / 16), hexD (b.toNat % 16)] := by
  rw [hexL_append]; rfl
theorem hex_get : ∀ {l : List UInt8} {i : Nat} {b : UInt8}, l[i]? = some b → (hexL l)[2 * i]? = some (hexD (b.toNat / 16)) ∧ (hexL l)[2 * i + 1]? = some (hexD (b.toNat % 16))
  | [], i, b, h => by simp at h
  | c :: l, 0, b, h => by
    obtain rfl := Option.some.inj h
    rw [hexL_cons]; exact ⟨rfl, rfl⟩
  | c :: l, i + 1, b, h => by
    have ih := hex_get (l := l) (i := i) (b := b) (by simpa using h)
    rw [hexL_cons, show 2 * (i + 1) = 2 * i + 2 by omega]
    exact ih
theorem hex_get1 {l : List UInt8} {i : Nat} {b : UInt8} (h : l[i]? = some b) : (hexL l)[2 * i]? = some (hexD (b.toNat / 16)) := (hex_get h).1
theorem hex_get2 {l : List UInt8} {i : Nat} {b : UInt8} (h : l[i]? = some b) : (hexL l)[2 * i + 1]? = some (hexD (b.toNat % 16)) := (hex_get h).2
theorem hex_all {y : List UInt8} {b : UInt8} (h : b ∈ hexL y) : ∃ n, n < 16 ∧ hexD n = b := by
  obtain ⟨c, _, hc⟩ := List.mem_flatMap.1 h
  have := UInt8.toNat_lt c
  simp only [List.mem_cons, List.not_mem_nil, or_false] at hc
  rcases hc with rfl | rfl
  · exact ⟨_, by omega, rfl⟩
  · exact ⟨_, by omega, rfl⟩
/-- A byte that is no digit. -/
theorem not_hex {l : List UInt8} {j : Nat} {b : UInt8} (h : l[j]? = some b) (hb : ∀ n, n < 16 → hexD n ≠ b) (y : List UInt8) : l ≠ hexL y := fun e => by
  obtain ⟨n, hn, hx⟩ := hex_all (y := y) (b := b) (by rw [← e]; exact List.mem_of_getElem? h)
  exact hb n hn hx
theorem hex_odd {l : List UInt8} (h : l.length % 2 ≠ 0) (y : List UInt8) : l ≠ hexL y := fun e => h (by rw [e, hexL_len]; omega)
/-- One byte more. -/
theorem hex_step {l out : List UInt8} {i x y : Nat} (h : hexL out = l.take (2 * i)) (hi : l[2 * i]? = some (hexD x)) (hj : l[2 * i + 1]? = some (hexD y)) (hx : x < 16) (hy : y < 16) :
    hexL (out ++ [UInt8.ofNat (16 * x + y)]) = l.take (2 * (i + 1)) := by
  have e : (UInt8.ofNat (16 * x + y)).toNat = 16 * x + y := by simp; omega
  rw [hexL_snoc, e, show (16 * x + y) / 16 = x by omega, show (16 * x + y) % 16 = y by omega, h, show 2 * (i + 1) = 2 * i + 1 + 1 by omega, List.take_add_one, List.take_add_one, hi, hj]
  simp
theorem hex_full {l out : List UInt8} {i : Nat} (h : hexL out = l.take (2 * i)) (hl : l.length = 2 * i) : l = hexL out := by
  rw [h, List.take_of_length_le (by omega)]

/-- Ints of 64 bits. -/
def I64 (z : Int) : Prop := -9223372036854775808 ≤ z ∧ z ≤ 9223372036854775807
theorem decI_of_nonneg {z : Int} (h : 0 ≤ z) : decI z = decDigits z.natAbs := by unfold decI; rw [if_neg (by omega)]
theorem decI_of_neg {z : Int} (h : z < 0) : decI z = 45 :: decDigits z.natAbs := by unfold decI; rw [if_pos h]
theorem dec_no45 (n : Nat) : (decDigits n).head? ≠ some 45 := fun e => by
  cases k : decDigits n with
  | nil => rw [k] at e; cases e
  | cons x t =>
    rw [k] at e
    have hx : x = 45 := Option.some.inj e
    exact dec_no (m := 45) (by decide) n (by rw [k, hx]; simp)
/-- A text without a sign. -/
theorem int_bad {l : List UInt8} (h45 : l.head? ≠ some 45) (hg : goodD l = false) (z : Int) : l ≠ decI z := fun e => by
  unfold decI at e
  split at e
  · exact h45 (by rw [e]; rfl)
  · rw [e, dec_good] at hg; cases hg
theorem int_nat {l : List UInt8} (hg : goodD l = true) : l = decI (dval l : Int) := by rw [decI_nat, dec_self _ l rfl hg]
/-- A text with a sign. -/
theorem int_bad_neg {l : List UInt8} (hg : goodD l = false) (z : Int) : 45 :: l ≠ decI z := fun e => by
  unfold decI at e
  split at e
  · have := List.tail_eq_of_cons_eq e
    rw [this, dec_good] at hg; cases hg
  · exact dec_no45 z.natAbs (by rw [← e]; rfl)
theorem int_neg {l : List UInt8} (hg : goodD l = true) (h : 1 ≤ dval l) : 45 :: l = decI (-(dval l : Int)) := by
  rw [decI_of_neg (by omega), show (-(dval l : Int)).natAbs = dval l by omega, dec_self _ l rfl hg]
theorem int_zero_neg {l : List UInt8} (h : dval l = 0) (z : Int) : 45 :: l ≠ decI z := fun e => by
  unfold decI at e
  split at e
  · have h1 := List.tail_eq_of_cons_eq e
    rw [h1, dec_val] at h
    omega
  · exact dec_no45 z.natAbs (by rw [← e]; rfl)

/-- The words of a commitment's text. -/
theorem commit_words (who : Int) (h b : List UInt8) : wordsL (commitL who h b) = [[99, 111, 109, 109, 105, 116], decI who, hexL h, hexL b] := by
  have e : commitL who h b = [99, 111, 109, 109, 105, 116] ++ 32 :: (decI who ++ 32 :: (hexL h ++ 32 :: hexL b)) := by unfold commitL; simp
  rw [e]
  exact words_of_four (by decide) (decI_no (by decide) (by decide) _) (hex_no (.inl rfl) _) (hex_no (.inl rfl) _)
theorem commit_of_words {l : List UInt8} {who : Int} {h b : List UInt8} (e : wordsL l = [[99, 111, 109, 109, 105, 116], decI who, hexL h, hexL b]) : l = commitL who h b := by
  rw [words_four e]; unfold commitL; simp
/-- What a text of a commitment says. -/
def Reads (l : List UInt8) (who : Int) (h b : List UInt8) : Prop := l = commitL who h b ∧ h.length = 32 ∧ I64 who
theorem reads_one {l : List UInt8} {w w' : Int} {h h' b b' : List UInt8} (r : Reads l w h b) (s : Reads l w' h' b') : w = w' ∧ h = h' ∧ b = b' := commitL_inj (r.1.symm.trans s.1)
theorem commit_len (who : Int) (h b : List UInt8) : (commitL who h b).length = 9 + (decI who).length + 2 * h.length + 2 * b.length := by
  unfold commitL
  simp only [List.length_append, List.length_cons, List.length_nil, hexL_len]
  omega

/-- What is left of a list, where marks say what is done. -/
def remL : List Bool → List Com → List Com
  | u :: us, c :: cs => if u then remL us cs else c :: remL us cs
  | _, _ => []
theorem rem_none : ∀ (n : Nat) (cs : List Com), n = cs.length → remL (List.replicate n false) cs = cs
  | 0, cs, h => by obtain rfl := List.eq_nil_of_length_eq_zero h.symm; rfl
  | n + 1, [], h => by cases h
  | n + 1, c :: cs, h => by
    rw [List.replicate_succ, remL, if_neg (by simp), rem_none n cs (by simpa using h)]
theorem rem_mem : ∀ {us : List Bool} {cs : List Com} {c : Com}, c ∈ remL us cs ↔ ∃ k : Nat, us[k]? = some false ∧ cs[k]? = some c
  | [], cs, c => by simp [remL]
  | u :: us, [], c => by simp [remL]
  | u :: us, d :: cs, c => by
    have ih := rem_mem (us := us) (cs := cs) (c := c)
    unfold remL
    constructor
    · intro h
      split at h
      · obtain ⟨k, h1, h2⟩ := ih.1 h
        exact ⟨k + 1, by simpa using h1, by simpa using h2⟩
      · rename_i hu
        rcases List.mem_cons.1 h with rfl | h
        · exact ⟨0, by simpa using hu, rfl⟩
        · obtain ⟨k, h1, h2⟩ := ih.1 h
          exact ⟨k + 1, by simpa using h1, by simpa using h2⟩
    · rintro ⟨k, h1, h2⟩
      cases k with
      | zero =>
        have hu : u = false := by simpa using h1
        have hd : d = c := by simpa using h2
        rw [hu, hd]; simp
      | succ k =>
        have := ih.2 ⟨k, by simpa using h1, by simpa using h2⟩
        split
        · exact this
        · exact List.mem_cons_of_mem _ this
theorem rem_set : ∀ {us : List Bool} {cs : List Com} {k : Nat} {c : Com}, us[k]? = some false → cs[k]? = some c → (remL us cs).Perm (c :: remL (us.set k true) cs)
  | [], _, k, c, h, _ => by simp at h
  | u :: us, [], k, c, _, h => by simp at h
  | u :: us, d :: cs, 0, c, h1, h2 => by
    have hu : u = false := by simpa using h1
    have hd : d = c := by simpa using h2
    rw [hu, hd, List.set_cons_zero, remL, remL, if_neg (by simp), if_pos rfl]
  | u :: us, d :: cs, k + 1, c, h1, h2 => by
    have ih := rem_set (us := us) (cs := cs) (k := k) (c := c) (by simpa using h1) (by simpa using h2)
    rw [List.set_cons_succ, remL, remL]
    split
    · exact ih
    · exact (ih.cons d).trans (List.Perm.swap _ _ _)
/-- A list as it is ordered by hand: what is done, and what is left. -/
structure Half (cs : List Com) (us : List Bool) (done : List Com) : Prop where
  len : us.length = cs.length
  perm : (done ++ remL us cs).Perm cs
  ord : done.Pairwise (fun a b => a.who ≤ b.who)
  low : ∀ a ∈ done, ∀ b ∈ remL us cs, a.who ≤ b.who
theorem Half.start (cs : List Com) : Half cs (List.replicate cs.length false) [] :=
  ⟨by simp, by rw [rem_none _ _ rfl]; simp, List.Pairwise.nil, fun a h => by cases h⟩
theorem Half.step {cs : List Com} {us : List Bool} {done : List Com} (h : Half cs us done) {k : Nat} {c : Com} (hk : us[k]? = some false) (hc : cs[k]? = some c) (hm : ∀ (j : Nat) (b : Com), us[j]? = some false → cs[j]? = some b → c.who ≤ b.who) :
    Half cs (us.set k true) (done ++ [c]) := by
  have hp := rem_set hk hc
  have hmem : ∀ b ∈ remL (us.set k true) cs, b ∈ remL us cs := fun b hb => hp.mem_iff.2 (List.mem_cons_of_mem _ hb)
  have hcm : c ∈ remL us cs := hp.mem_iff.2 (by simp)
  refine ⟨by rw [List.length_set]; exact h.len, ?_, ?_, ?_⟩
  · rw [List.append_assoc]
    exact (List.Perm.append_left _ hp.symm).trans h.perm
  · rw [List.pairwise_append]
    refine ⟨h.ord, by simp, fun a ha b hb => ?_⟩
    obtain rfl : b = c := by simpa using hb
    exact h.low a ha b hcm
  · intro a ha b hb
    rcases List.mem_append.1 ha with ha | ha
    · exact h.low a ha b (hmem b hb)
    · obtain rfl : a = c := by simpa using ha
      obtain ⟨j, h1, h2⟩ := rem_mem.1 (hmem b hb)
      exact hm j b h1 h2
theorem Half.length {cs : List Com} {us : List Bool} {done : List Com} (h : Half cs us done) : done.length + (remL us cs).length = cs.length := by
  rw [← h.perm.length_eq, List.length_append]
/-- As long as something is left, there is a mark that says so. -/
theorem Half.more {cs : List Com} {us : List Bool} {done : List Com} (h : Half cs us done) (hd : done.length < cs.length) : ∃ (k : Nat) (c : Com), us[k]? = some false ∧ cs[k]? = some c := by
  have hl := h.length
  cases e : remL us cs with
  | nil => rw [e] at hl; simp at hl; omega
  | cons c r =>
    obtain ⟨k, h1, h2⟩ := rem_mem.1 (show c ∈ remL us cs by rw [e]; simp)
    exact ⟨k, c, h1, h2⟩
theorem Half.done {cs : List Com} {us : List Bool} {done : List Com} (h : Half cs us done) (hs : Single cs) (hd : done.length = cs.length) : done = sortL cs := by
  have hl := h.length
  have e : remL us cs = [] := List.eq_nil_of_length_eq_zero (by omega)
  have hp := h.perm
  rw [e, List.append_nil] at hp
  exact sortL_one hs hp h.ord
/-- The best so far. -/
def Best (cs : List Com) (us : List Bool) (j : Nat) (b : Int) : Prop :=
  (b = -1 ∧ ∀ k, k < j → us[k]? ≠ some false) ∨ ∃ (k : Nat) (c : Com), b = (k : Int) ∧ k < j ∧ us[k]? = some false ∧ cs[k]? = some c ∧ ∀ (i : Nat) (d : Com), i < j → us[i]? = some false → cs[i]? = some d → c.who ≤ d.who
theorem Best.start (cs : List Com) (us : List Bool) : Best cs us 0 (-1) := .inl ⟨rfl, fun k h => by omega⟩
theorem Best.used {cs : List Com} {us : List Bool} {j : Nat} {b : Int} (h : Best cs us j b) (hu : us[j]? = some true) : Best cs us (j + 1) b := by
  have no : us[j]? ≠ some false := by rw [hu]; simp
  rcases h with ⟨h1, h2⟩ | ⟨k, c, h1, h2, h3, h4, h5⟩
  · exact .inl ⟨h1, fun k hk => (Nat.lt_or_eq_of_le (Nat.le_of_lt_succ hk)).elim (h2 k) (fun e => e ▸ no)⟩
  · exact .inr ⟨k, c, h1, by omega, h3, h4, fun i d hi hu' hc => (Nat.lt_or_eq_of_le (Nat.le_of_lt_succ hi)).elim (fun h => h5 i d h hu' hc) (fun e => absurd hu' (e ▸ no))⟩
theorem Best.first {cs : List Com} {us : List Bool} {j : Nat} {c : Com} (h : Best cs us j (-1)) (hu : us[j]? = some false) (hc : cs[j]? = some c) : Best cs us (j + 1) (j : Int) := by
  rcases h with ⟨_, h2⟩ | ⟨k, c, h1, _⟩
  · refine .inr ⟨j, c, rfl, by omega, hu, hc, fun i d hi hu' hd => ?_⟩
    rcases Nat.lt_or_eq_of_le (Nat.le_of_lt_succ hi) with h | rfl
    · exact absurd hu' (h2 i h)
    · rw [hc] at hd; rw [Option.some.inj hd]; exact Int.le_refl _
  · omega
theorem Best.less {cs : List Com} {us : List Bool} {j k : Nat} {c d : Com} (h : Best cs us j (k : Int)) (hu : us[j]? = some false) (hc : cs[j]? = some c) (hd : cs[k]? = some d) (hl : c.who < d.who) : Best cs us (j + 1) (j : Int) := by
  rcases h with ⟨h1, _⟩ | ⟨k', c', h1, h2, h3, h4, h5⟩
  · omega
  · obtain rfl : k = k' := by omega
    rw [h4] at hd
    obtain rfl := Option.some.inj hd
    refine .inr ⟨j, c, rfl, by omega, hu, hc, fun i e hi hu' he => ?_⟩
    rcases Nat.lt_or_eq_of_le (Nat.le_of_lt_succ hi) with h | rfl
    · have := h5 i e h hu' he; omega
    · rw [hc] at he; rw [Option.some.inj he]; exact Int.le_refl _
theorem Best.not_less {cs : List Com} {us : List Bool} {j k : Nat} {c d : Com} (h : Best cs us j (k : Int)) (hc : cs[j]? = some c) (hd : cs[k]? = some d) (hl : ¬ c.who < d.who) : Best cs us (j + 1) (k : Int) := by
  rcases h with ⟨h1, _⟩ | ⟨k', c', h1, h2, h3, h4, h5⟩
  · omega
  · obtain rfl : k = k' := by omega
    rw [h4] at hd
    obtain rfl := Option.some.inj hd
    refine .inr ⟨k, c', rfl, by omega, h3, h4, fun i e hi hu' he => ?_⟩
    rcases Nat.lt_or_eq_of_le (Nat.le_of_lt_succ hi) with h | rfl
    · exact h5 i e h hu' he
    · rw [hc] at he; rw [← Option.some.inj he]; omega
theorem Best.end_ {cs : List Com} {us : List Bool} {b : Int} (h : Best cs us cs.length b) (hm : ∃ (k : Nat) (c : Com), us[k]? = some false ∧ cs[k]? = some c) :
    ∃ (k : Nat) (c : Com), b = (k : Int) ∧ k < cs.length ∧ us[k]? = some false ∧ cs[k]? = some c ∧ ∀ (j : Nat) (d : Com), us[j]? = some false → cs[j]? = some d → c.who ≤ d.who := by
  obtain ⟨k0, c0, h1, h2⟩ := hm
  have hk0 := (List.getElem?_eq_some_iff.1 h2).1
  rcases h with ⟨_, h3⟩ | ⟨k, c, e, hk, g1, g2, g3⟩
  · exact absurd h1 (h3 k0 hk0)
  · exact ⟨k, c, e, hk, g1, g2, fun j d hj hd => g3 j d (List.getElem?_eq_some_iff.1 hd).1 hj hd⟩

end Go.Proofs.YtebgmlbbilcbbaaGreatDoor
