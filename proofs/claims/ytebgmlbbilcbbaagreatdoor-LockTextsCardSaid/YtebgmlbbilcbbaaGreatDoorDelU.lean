/- Texts of works: Resume of both. -/
import Derived.Test.YtebgmlbbilcbbaaGreatDoorDelT
namespace Go.Proofs.YtebgmlbbilcbbaaGreatDoor
open Go.RowKit

/-- The variable that the library's Split reads is laid. -/
def MaxL (w : World) : Prop := ∃ m : Int, w.cell? ⟨5, 0, none⟩ = some (.int .i64 m)
theorem MaxL.below {w w' : World} (h : MaxL w) (hb : Below w.heap.size w w') : MaxL w' := by
  obtain ⟨m, hm⟩ := h
  exact ⟨m, cell_b hb hm⟩
theorem wordsS_split (s : ByteArray) : Lib.splitB ⟨#[32]⟩ 0 (Lib.countB s ⟨#[32]⟩) s = wordsS s := by
  have h := Lib.splitB_data ⟨#[32]⟩ 0 (Lib.countB s ⟨#[32]⟩) s
  have h2 : Lib.countB s ⟨#[32]⟩ = Lib.count s.data.toList [32] := rfl
  rw [h2] at h ⊢
  rw [show (ByteArray.data ⟨#[32]⟩).toList = [32] from rfl, split_words] at h
  unfold wordsS
  rw [← h, List.map_map]
  conv => lhs; rw [← List.map_id (Lib.splitB _ _ _ _)]
  exact List.map_congr_left fun x _ => (strB_self x).symm
theorem splitW_any (s : ByteArray) (hs : s.size ≤ 1000) (w : World) (hM : MaxL w) :
    Calls Tryz.prog 96 #[.string s, .string ⟨#[32]⟩] w fun e w' => ∃ (A : Option Addr) (c : Nat), e = .returned (.slice A (wordsS s).length c) ∧ NDg w' A (wordsS s).length c (wordsS s) ∧ Below w.heap.size w w' := by
  obtain ⟨m, hm⟩ := hM
  refine (Tryz.strings_Split s ⟨#[32]⟩ m w (by omega) hm (by decide)).mono ?_
  rintro e w' ⟨rfl, rfl⟩
  have hl : (wordsS s).length = Lib.countB s ⟨#[32]⟩ + 1 := by rw [← wordsS_split]; exact Lib.splitB_all _ (by decide) 0 _ s rfl
  rw [wordsS_split, hl]
  refine ⟨_, _, rfl, ⟨hl, Nat.le_refl _, fun _ => ⟨_, 0, rfl, fun j x hx => ?_⟩⟩, below_al (Below.refl _ _) _⟩
  have hk := Blk.new w 9 ((wordsS s).map Value.string).toArray
  rw [Nat.zero_add]
  exact (hk.cell j).trans (by simp [hx])

theorem parse_pair (s : ByteArray) : ∃ x : ByteArray, parseRes s = .tuple #[.string x, .bool (goodD s.data.toList)] ∧ (goodD s.data.toList = true → x = natS (dval s.data.toList)) ∧ x.size ≤ s.size := by
  unfold parseRes
  cases h : goodD s.data.toList with
  | false => exact ⟨⟨#[]⟩, rfl, fun h => (Bool.false_ne_true h).elim, Nat.zero_le _⟩
  | true =>
    refine ⟨natS (dval s.data.toList), by rw [if_pos rfl], fun _ => rfl, ?_⟩
    have ha : s.data.toList.all isD = true := by unfold goodD at h; simp only [Bool.and_eq_true] at h; exact h.2
    have := natS_size (dval_lt8 _ ha)
    rwa [size_len] at this
theorem words_size (s : ByteArray) : ∀ m ∈ wordsS s, m.size ≤ s.size := fun m hm => by
  obtain ⟨l, hl, rfl⟩ := List.mem_map.1 hm
  have := words_len _ l hl
  rw [strB_size]
  rwa [size_len] at this

/-- The cells of the reference's work. -/
def rworkA (x : ByteArray) (d t : Int) : Array Value := #[.string x, .int .i64 d, .int .i64 t]
/-- What four words say. -/
def four (a b c d : ByteArray) : Option (Nat × Nat × Nat) :=
  if a = ⟨#[119, 111, 114, 107]⟩ ∧ goodD b.data.toList = true ∧ goodD c.data.toList = true ∧ goodD d.data.toList = true ∧ dval b.data.toList ≤ dval c.data.toList ∧ dval c.data.toList ≤ 1048576 ∧ dval d.data.toList < modN then some (dval b.data.toList, dval c.data.toList, dval d.data.toList) else none
theorem work_four {s a b c d : ByteArray} (h : wordsS s = [a, b, c, d]) : workL s.data.toList = four a b c d := by
  unfold wordsS at h
  obtain ⟨a', t1, e1, ha, h1⟩ := List.map_eq_cons_iff.1 h
  obtain ⟨b', t2, e2, hb, h2⟩ := List.map_eq_cons_iff.1 h1
  obtain ⟨c', t3, e3, hc, h3⟩ := List.map_eq_cons_iff.1 h2
  obtain ⟨d', t4, e4, hd, h4⟩ := List.map_eq_cons_iff.1 h3
  obtain rfl := List.map_eq_nil_iff.1 h4
  subst e4 e3 e2
  unfold workL four
  rw [e1, ← ha, ← hb, ← hc, ← hd, strB_list, strB_list, strB_list]
  have e : (strB a' = ⟨#[119, 111, 114, 107]⟩) = (a' = [119, 111, 114, 107]) := propext ⟨fun h => by rw [← strB_list a', h], fun h => by rw [h]; rfl⟩
  simp only [e]
theorem work_else {s : ByteArray} (h : (wordsS s).length ≠ 4) : workL s.data.toList = none := by
  unfold workL
  split
  · rename_i a b c d e
    exact absurd (by unfold wordsS; rw [e]; rfl) h
  · rfl
theorem list_four {α : Type} {l : List α} (h : l.length = 4) : ∃ a b c d, l = [a, b, c, d] := by
  match l, h with
  | [a, b, c, d], _ => exact ⟨a, b, c, d, rfl⟩

/-- How Resume of the reference ends. -/
def RResume (s : ByteArray) (w : World) (e : Ending) (w' : World) : Prop :=
  ((∃ d t v g : Nat, workL s.data.toList = some (d, t, v) ∧ e = .returned (.tuple #[.pointer (some ⟨g, 0, none⟩), .bool true]) ∧ w.heap.size ≤ g ∧ Blk w' g 125 (rworkA (natS v) d t)) ∨ (workL s.data.toList = none ∧ e = .returned (.tuple #[.pointer none, .bool false]))) ∧ Below w.heap.size w w'
/-- How Resume ends. -/
def Resumes (s : ByteArray) (w : World) (e : Ending) (w' : World) : Prop :=
  ((∃ d t v g : Nat, workL s.data.toList = some (d, t, v) ∧ e = .returned (.tuple #[.pointer (some ⟨g, 0, none⟩), .int .i64 0]) ∧ w.heap.size ≤ g ∧ Blk w' g 46 (workA (natS v) d t)) ∨ (workL s.data.toList = none ∧ e = .returned (.tuple #[.pointer none, .int .i64 11]))) ∧ Below w.heap.size w w'

set_option maxRecDepth 100000 in
set_option maxHeartbeats 2000000 in
theorem rResume_any (s : ByteArray) (hs : s.size ≤ 400) (w : World) : Calls Tryz.prog 45 #[.string s] w fun e w' => RResume s w e w' := by
  unfold RResume
  have m1 := Lib.hid (fun W => rwords_any s (by omega) W)
  by_cases h4 : (wordsS s).length = 4
  · obtain ⟨a, b, c, d, hw⟩ := list_four h4
    have hz := words_size s
    have HF := Lib.hid (work_four hw)
    rw [hw] at m1 hz
    have za := hz a (by simp)
    have zb := hz b (by simp)
    have zc := hz c (by simp)
    have zd := hz d (by simp)
    clear hz h4 hw
    obtain ⟨x1, e1, x2, x3⟩ := parse_pair b
    obtain ⟨y1, f1, y2, y3⟩ := parse_pair c
    obtain ⟨u1, g1, u2, u3⟩ := parse_pair d
    have q1 : Hid (∀ W, Calls Tryz.prog 100 #[.string b] W fun e w' => e = .returned (.tuple #[.string x1, .bool (goodD b.data.toList)]) ∧ Below W.heap.size W w') := Lib.hid (fun W => e1 ▸ rParse b W (by omega))
    have q2 : Hid (∀ W, Calls Tryz.prog 100 #[.string c] W fun e w' => e = .returned (.tuple #[.string y1, .bool (goodD c.data.toList)]) ∧ Below W.heap.size W w') := Lib.hid (fun W => f1 ▸ rParse c W (by omega))
    have q3 : Hid (∀ W, Calls Tryz.prog 100 #[.string d] W fun e w' => e = .returned (.tuple #[.string u1, .bool (goodD d.data.toList)]) ∧ Below W.heap.size W w') := Lib.hid (fun W => g1 ▸ rParse d W (by omega))
    have q4 := Lib.hid (rReduced_q u1 (by omega))
    have q5 : Hid (Ret 101 #[.string x1, .string y1] (.int .i64 (cmpI (sval x1) (sval y1)))) := Lib.hid (Ret.quiet fun W => rCmp x1 y1 W (by omega) (by omega))
    have q6 : Hid (Ret 73 #[.int .i64 1048576] (.string (natS 1048576))) := Lib.hid (fun W => rOf 1048576 W (by omega))
    have q7 : Hid (Ret 101 #[.string y1, .string (natS 1048576)] (.int .i64 (cmpI (sval y1) 1048576))) := Lib.hid (Ret.quiet fun W => by
      have := rCmp y1 (natS 1048576) W (by omega) (Nat.le_trans (natS_i64 (by omega)) (by omega))
      rwa [sval_natS] at this)
    clear e1 f1 g1
    have no : ∀ P : Prop, (P → False) → (P → False) := fun _ h => h
    clear no
    go_enter Tryz.func45, Tryz.ntmps45
    go_wp2_with fail
    refine (m1.out _).mono ?_
    rintro e w1 ⟨A, cc, rfl, hd, hB⟩
    obtain ⟨b0, o0, hA, hcell⟩ := hd.at_ (by simp)
    cases hA
    have c0 : w1.cell? ⟨b0, o0, none⟩ = some (.string a) := hcell 0 a rfl
    have c1 : w1.cell? ⟨b0, o0 + 1, none⟩ = some (.string b) := hcell 1 b rfl
    have c2 : w1.cell? ⟨b0, o0 + 2, none⟩ = some (.string c) := hcell 2 c rfl
    have c3 : w1.cell? ⟨b0, o0 + 3, none⟩ = some (.string d) := hcell 3 d rfl
    clear hd hcell
    by_cases ha : a = ⟨#[119, 111, 114, 107]⟩
    · subst ha
      go_wp2_with fail
      refine (q1.out _).mono ?_
      rintro e w2 ⟨rfl, hb⟩
      replace hB := below_then hB hb
      replace c2 := cell_b hb c2
      replace c3 := cell_b hb c3
      clear hb c0 c1
      go_wp2_with fail
      refine (q2.out _).mono ?_
      rintro e w3 ⟨rfl, hb⟩
      replace hB := below_then hB hb
      replace c3 := cell_b hb c3
      clear hb c2
      go_wp2_with fail
      refine (q3.out _).mono ?_
      rintro e w4 ⟨rfl, hb⟩
      replace hB := below_then hB hb
      clear hb c3
      go_wp2_with fail
      refine (q4.out _).mono ?_
      rintro e w5 ⟨rfl, hb⟩
      replace hB := below_then hB hb
      clear hb q1 q2 q3 q4
      have none_of : (goodD b.data.toList = true ∧ goodD c.data.toList = true ∧ goodD d.data.toList = true ∧ dval b.data.toList ≤ dval c.data.toList ∧ dval c.data.toList ≤ 1048576 ∧ dval d.data.toList < modN → False) → workL s.data.toList = none := fun h => by
        rw [HF.out]; unfold four; rw [if_neg (fun k => h k.2)]
      cases gb : goodD b.data.toList with
      | false =>
        have HN := Lib.hid (none_of (fun k => by rw [gb] at k; exact absurd k.1 (by simp)))
        clear none_of gb
        go_wp2_with fail
        go_ret2
        exact ⟨.inr ⟨HN.out, rfl⟩, hB⟩
      | true =>
        cases gc : goodD c.data.toList with
        | false =>
          have HN := Lib.hid (none_of (fun k => by rw [gc] at k; exact absurd k.2.1 (by simp)))
          clear none_of gb gc
          go_wp2_with fail
          go_ret2
          exact ⟨.inr ⟨HN.out, rfl⟩, hB⟩
        | true =>
          cases gd : goodD d.data.toList with
          | false =>
            have HN := Lib.hid (none_of (fun k => by rw [gd] at k; exact absurd k.2.2.1 (by simp)))
            clear none_of gb gc gd
            go_wp2_with fail
            go_ret2
            exact ⟨.inr ⟨HN.out, rfl⟩, hB⟩
          | true =>
            obtain rfl := x2 gb
            obtain rfl := y2 gc
            obtain rfl := u2 gd
            have hred : redN (natS (dval d.data.toList)) = decide (dval d.data.toList < modN) := by
              unfold redN
              rw [right_natS, sval_natS, Bool.true_and]
            rw [sval_natS, sval_natS] at q5
            rw [sval_natS] at q7
            by_cases hm : dval d.data.toList < modN
            · rw [hred, decide_eq_true hm]
              by_cases h1 : dval b.data.toList ≤ dval c.data.toList
              · have hcmp : ¬ (0 : Int) < cmpI (dval b.data.toList) (dval c.data.toList) := by unfold cmpI; split <;> (try split) <;> omega
                by_cases h2 : dval c.data.toList ≤ 1048576
                · have hcmp2 : ¬ (0 : Int) < cmpI (dval c.data.toList) 1048576 := by unfold cmpI; split <;> (try split) <;> omega
                  have HN : Hid (workL s.data.toList = some (dval b.data.toList, dval c.data.toList, dval d.data.toList)) := Lib.hid (by
                    rw [HF.out]; unfold four; rw [if_pos ⟨rfl, gb, gc, gd, h1, h2, hm⟩])
                  have q8 : Hid (Ret 95 #[.string (natS (dval b.data.toList))] (.tuple #[.int .i64 (dval b.data.toList : Int), .bool true])) := Lib.hid (Ret.quiet fun W => by
                    have := rInt (natS (dval b.data.toList)) W (by omega)
                    rwa [sval_natS, int_ok (by omega)] at this)
                  have q9 : Hid (Ret 95 #[.string (natS (dval c.data.toList))] (.tuple #[.int .i64 (dval c.data.toList : Int), .bool true])) := Lib.hid (Ret.quiet fun W => by
                    have := rInt (natS (dval c.data.toList)) W (by omega)
                    rwa [sval_natS, int_ok (by omega)] at this)
                  clear none_of gb gc gd hred hm h1 h2 x2 y2 u2 HF za zb zc zd x3 y3 u3
                  generalize cmpI (dval b.data.toList) (dval c.data.toList) = k1 at *
                  generalize cmpI (dval c.data.toList) 1048576 = k2 at *
                  generalize dval b.data.toList = vb at *
                  generalize dval c.data.toList = vc at *
                  generalize dval d.data.toList = vd at *
                  generalize natS vb = sb at *
                  generalize natS vc = sc at *
                  go_wp2_with (first
                    | (go_at_call 101; (with_reducible refine (q5.out _).mono ?_); rintro e wz ⟨rfl, hb⟩; replace hB := below_then hB hb; clear hb)
                    | (go_at_call 101; (with_reducible refine (q7.out _).mono ?_); rintro e wz ⟨rfl, hb⟩; replace hB := below_then hB hb; clear hb)
                    | (go_at_call 73; (with_reducible refine (q6.out _).mono ?_); rintro e wz ⟨rfl, hb⟩; replace hB := below_then hB hb; clear hb)
                    | (go_at_call 95; (with_reducible refine (q8.out _).mono ?_); rintro e wz ⟨rfl, hb⟩; replace hB := below_then hB hb; clear hb)
                    | (go_at_call 95; (with_reducible refine (q9.out _).mono ?_); rintro e wz ⟨rfl, hb⟩; replace hB := below_then hB hb; clear hb))
                  go_ret2
                  exact ⟨.inl ⟨vb, vc, vd, _, HN.out, rfl, hB.size, Blk.new _ _ _⟩, below_al hB _⟩
                · have hcmp2 : (0 : Int) < cmpI (dval c.data.toList) 1048576 := by unfold cmpI; split <;> (try split) <;> omega
                  have HN := Lib.hid (none_of (fun k => h2 k.2.2.2.2.1))
                  clear none_of gb gc gd hred hm h1 h2 x2 y2 u2 HF za zb zc zd x3 y3 u3
                  generalize cmpI (dval b.data.toList) (dval c.data.toList) = k1 at *
                  generalize cmpI (dval c.data.toList) 1048576 = k2 at *
                  go_wp2_with (first
                    | (go_at_call 101; (with_reducible refine (q5.out _).mono ?_); rintro e wz ⟨rfl, hb⟩; replace hB := below_then hB hb; clear hb)
                    | (go_at_call 101; (with_reducible refine (q7.out _).mono ?_); rintro e wz ⟨rfl, hb⟩; replace hB := below_then hB hb; clear hb)
                    | (go_at_call 73; (with_reducible refine (q6.out _).mono ?_); rintro e wz ⟨rfl, hb⟩; replace hB := below_then hB hb; clear hb))
                  go_ret2
                  exact ⟨.inr ⟨HN.out, rfl⟩, hB⟩
              · have hcmp : (0 : Int) < cmpI (dval b.data.toList) (dval c.data.toList) := by unfold cmpI; split <;> (try split) <;> omega
                have HN := Lib.hid (none_of (fun k => h1 k.2.2.2.1))
                clear none_of gb gc gd hred hm h1 x2 y2 u2 HF za zb zc zd x3 y3 u3
                generalize cmpI (dval b.data.toList) (dval c.data.toList) = k1 at *
                go_wp2_with (first
                  | (go_at_call 101; (with_reducible refine (q5.out _).mono ?_); rintro e wz ⟨rfl, hb⟩; replace hB := below_then hB hb; clear hb))
                go_ret2
                exact ⟨.inr ⟨HN.out, rfl⟩, hB⟩
            · rw [hred, decide_eq_false hm]
              have HN := Lib.hid (none_of (fun k => hm k.2.2.2.2.2))
              clear none_of gb gc gd hred hm
              go_wp2_with fail
              go_ret2
              exact ⟨.inr ⟨HN.out, rfl⟩, hB⟩
    · have hq : (a.toList == [119, 111, 114, 107]) = false := by have h0 := str_diff ha; rwa [show (⟨#[119, 111, 114, 107]⟩ : ByteArray).toList = [119, 111, 114, 107] from by decide +kernel] at h0
      have HN : Hid (workL s.data.toList = none) := Lib.hid (by rw [HF.out]; unfold four; rw [if_neg (fun k => ha k.1)])
      go_wp2_with fail
      go_ret2
      exact ⟨.inr ⟨HN.out, rfl⟩, hB⟩
  · have HF := Lib.hid (work_else h4)
    have hl : (((wordsS s).length : Int) != 4) = true := by simp; omega
    generalize wordsS s = l at *
    go_enter Tryz.func45, Tryz.ntmps45
    go_wp2_with fail
    refine (m1.out _).mono ?_
    rintro e w1 ⟨A, c, rfl, hd, hB⟩
    clear h4
    go_wp2_with fail
    go_ret2
    exact ⟨.inr ⟨HF.out, rfl⟩, hB⟩

theorem modDec_size : (decS modN).size = 39 := by
  show (Lib.decDigits modN).toArray.size = 39
  rw [List.size_toArray]
  decide +kernel
theorem short_dec {d : ByteArray} (hg : goodD d.data.toList = true) (hm : dval d.data.toList < modN) : d.size ≤ 39 := by
  have h := (dec_len 38 (dval d.data.toList) (Nat.lt_trans hm (by decide +kernel))).1
  rw [dec_self _ d.data.toList rfl hg, size_len] at h
  exact h

set_option maxRecDepth 100000 in
set_option maxHeartbeats 2000000 in
theorem Resume_any (s : ByteArray) (hs : s.size ≤ 400) (w : World) (hT : Tabs w) (hE : ErrV w) (hM : MaxL w) : Calls Tryz.prog 44 #[.string s] w fun e w' => Resumes s w e w' := by
  unfold Resumes
  have m1 := Lib.hid (fun W h => splitW_any s (by omega) W h)
  have HT := Lib.hid hT
  have HE := Lib.hid hE
  have HM := Lib.hid hM
  clear hT hE hM
  by_cases h4 : (wordsS s).length = 4
  · obtain ⟨a, b, c, d, hw⟩ := list_four h4
    have hz := words_size s
    have HF := Lib.hid (work_four hw)
    rw [hw] at m1 hz
    have zb := hz b (by simp)
    have zc := hz c (by simp)
    have zd := hz d (by simp)
    clear hz h4 hw
    have none_of : (a = ⟨#[119, 111, 114, 107]⟩ ∧ goodD b.data.toList = true ∧ goodD c.data.toList = true ∧ goodD d.data.toList = true ∧ dval b.data.toList ≤ dval c.data.toList ∧ dval c.data.toList ≤ 1048576 ∧ dval d.data.toList < modN → False) → workL s.data.toList = none := fun h => by
      rw [HF.out]; unfold four; rw [if_neg h]
    have q1 := Lib.hid (fun W hT hE => small_any b (by omega) W hT hE)
    have q2 := Lib.hid (fun W hT hE => small_any c (by omega) W hT hE)
    unfold smallOf at q1 q2
    go_enter Tryz.func44, Tryz.ntmps44
    go_wp2_with fail
    refine (m1.out _ HM.out).mono ?_
    rintro e w1 ⟨A, cc, rfl, hd, hB⟩
    obtain ⟨b0, o0, hA, hcell⟩ := hd.at_ (by simp)
    cases hA
    have c0 : w1.cell? ⟨b0, o0, none⟩ = some (.string a) := hcell 0 a rfl
    have c1 : w1.cell? ⟨b0, o0 + 1, none⟩ = some (.string b) := hcell 1 b rfl
    have c2 : w1.cell? ⟨b0, o0 + 2, none⟩ = some (.string c) := hcell 2 c rfl
    have c3 : w1.cell? ⟨b0, o0 + 3, none⟩ = some (.string d) := hcell 3 d rfl
    clear hd hcell m1
    by_cases ha : a = ⟨#[119, 111, 114, 107]⟩
    · subst ha
      go_wp2_with fail
      refine (q1.out _ (HT.out.below hB) (HE.out.below hB)).mono ?_
      rintro e w2 ⟨rfl, hb⟩
      replace hB := below_then hB hb
      replace c2 := cell_b hb c2
      replace c3 := cell_b hb c3
      clear hb c0 c1 q1
      cases sb : smallL b.data.toList with
      | false =>
        have HN := Lib.hid (none_of (fun k => by
          have : smallL b.data.toList = true := by unfold smallL; rw [k.2.1]; simp; omega
          rw [sb] at this; cases this))
        rw [if_neg (by simp)]
        clear none_of sb
        go_wp2_with fail
        go_ret2
        exact ⟨.inr ⟨HN.out, rfl⟩, hB⟩
      | true =>
        rw [if_pos rfl]
        go_wp2_with fail
        refine (q2.out _ (HT.out.below hB) (HE.out.below hB)).mono ?_
        rintro e w3 ⟨rfl, hb⟩
        replace hB := below_then hB hb
        replace c3 := cell_b hb c3
        clear hb c2 q2
        cases sc : smallL c.data.toList with
        | false =>
          have HN := Lib.hid (none_of (fun k => by
            have : smallL c.data.toList = true := by unfold smallL; rw [k.2.2.1]; simp; omega
            rw [sc] at this; cases this))
          rw [if_neg (by simp)]
          clear none_of sb sc
          go_wp2_with fail
          go_ret2
          exact ⟨.inr ⟨HN.out, rfl⟩, hB⟩
        | true =>
          rw [if_pos rfl]
          have gb : goodD b.data.toList = true := by unfold smallL at sb; simp only [Bool.and_eq_true] at sb; exact sb.1
          have gc : goodD c.data.toList = true := by unfold smallL at sc; simp only [Bool.and_eq_true] at sc; exact sc.1
          have lc := (smallL_dec sc).2
          have lb := (smallL_dec sb).2
          have hn : ¬ (1048576 : Int) < (dval c.data.toList : Int) := by omega
          by_cases h1 : dval b.data.toList ≤ dval c.data.toList
          · have hn2 : ¬ (dval c.data.toList : Int) < (dval b.data.toList : Int) := by omega
            have m5 : Hid (∀ W, Tabs W → Calls Tryz.prog 86 #[.string modS] W fun e w' => e = .returned (.string (decS modN)) ∧ Below W.heap.size W w') := Lib.hid (fun W hT => by
              have := Text_any modS W (by decide) hT.p
              rwa [sval_modS] at this)
            have h39 := modDec_size
            generalize decS modN = md at m5 h39
            go_upto_region 10 with fail
            have g3 : w3.drew.cell? ⟨b0, o0 + 3, none⟩ = some (.string d) := c3
            have hBd := hB.drew
            go_region_held3 (fun Z : World => Z.cell? ⟨b0, o0 + 3, none⟩ = some (.string d)) (first | exact g3 | exact cell_b hba g3) (first | (go_at_call 86; (refine (m5.out _ ?_).mono ?_); (exact HT.out.below hBd); rintro e wa ⟨rfl, hba⟩))
            have g4 := cell_b hba g3
            have hBa := below_then hBd hba
            clear g3 c3 hba hBd m5
            by_cases hd39 : d.size ≤ 39
            · have hn3 : ¬ ((md.size : Int) < (d.size : Int)) := by omega
              obtain ⟨u1, e1, u2, u3⟩ := parse_pair d
              have q3 : Hid (∀ W, Calls Tryz.prog 98 #[.string d] W fun e w' => e = .returned (.tuple #[.string u1, .bool (goodD d.data.toList)]) ∧ Below W.heap.size W w') := Lib.hid (fun W => e1 ▸ Parse_any d W (by omega))
              have q4 := Lib.hid (reduced_q u1 (by omega))
              clear e1
              go_wp2_with fail
              refine (q3.out _).mono ?_
              rintro e w5 ⟨rfl, hb⟩
              replace hBa := below_then hBa hb
              clear hb q3 g4
              cases gd : goodD d.data.toList with
              | false =>
                have HN := Lib.hid (none_of (fun k => by rw [gd] at k; exact absurd k.2.2.2.1 (by simp)))
                clear none_of sb sc gb gc gd
                go_wp2_with fail
                go_ret2
                exact ⟨.inr ⟨HN.out, rfl⟩, hBa⟩
              | true =>
                obtain rfl := u2 gd
                have hred : redN (natS (dval d.data.toList)) = decide (dval d.data.toList < modN) := by
                  unfold redN
                  rw [right_natS, sval_natS, Bool.true_and]
                rw [hred] at q4
                by_cases hm : dval d.data.toList < modN
                · rw [decide_eq_true hm] at q4
                  have HN : Hid (workL s.data.toList = some (dval b.data.toList, dval c.data.toList, dval d.data.toList)) := Lib.hid (by
                    rw [HF.out]; unfold four; rw [if_pos ⟨rfl, gb, gc, gd, h1, lc, hm⟩])
                  clear none_of sb sc gb gc gd hred hm u2 u3
                  go_wp2_with fail
                  refine (q4.out _).mono ?_
                  rintro e w6 ⟨rfl, hb⟩
                  replace hBa := below_then hBa hb
                  go_wp2_with fail
                  go_ret2
                  exact ⟨.inl ⟨_, _, _, _, HN.out, rfl, hBa.size, Blk.new _ _ _⟩, below_al hBa _⟩
                · rw [decide_eq_false hm] at q4
                  have HN := Lib.hid (none_of (fun k => hm k.2.2.2.2.2.2))
                  clear none_of sb sc gb gc gd hred hm u2 u3
                  go_wp2_with fail
                  refine (q4.out _).mono ?_
                  rintro e w6 ⟨rfl, hb⟩
                  replace hBa := below_then hBa hb
                  go_wp2_with fail
                  go_ret2
                  exact ⟨.inr ⟨HN.out, rfl⟩, hBa⟩
            · have hn3 : (md.size : Int) < (d.size : Int) := by omega
              have HN := Lib.hid (none_of (fun k => hd39 (short_dec k.2.2.2.1 k.2.2.2.2.2.2)))
              clear none_of sb sc gb gc
              go_wp2_with fail
              go_ret2
              exact ⟨.inr ⟨HN.out, rfl⟩, hBa⟩
          · have hn2 : (dval c.data.toList : Int) < (dval b.data.toList : Int) := by omega
            have HN := Lib.hid (none_of (fun k => h1 k.2.2.2.2.1))
            clear none_of sb sc gb gc
            go_wp2_with fail
            go_ret2
            exact ⟨.inr ⟨HN.out, rfl⟩, hB⟩
    · have hq : (a.toList == [119, 111, 114, 107]) = false := by have h0 := str_diff ha; rwa [show (⟨#[119, 111, 114, 107]⟩ : ByteArray).toList = [119, 111, 114, 107] from by decide +kernel] at h0
      have HN := Lib.hid (none_of (fun k => ha k.1))
      clear none_of
      go_wp2_with fail
      go_ret2
      exact ⟨.inr ⟨HN.out, rfl⟩, hB⟩
  · have HF := Lib.hid (work_else h4)
    have hl : (((wordsS s).length : Int) != 4) = true := by simp; omega
    generalize wordsS s = l at *
    go_enter Tryz.func44, Tryz.ntmps44
    go_wp2_with fail
    refine (m1.out _ HM.out).mono ?_
    rintro e w1 ⟨A, c, rfl, hd, hB⟩
    clear h4
    go_wp2_with fail
    go_ret2
    exact ⟨.inr ⟨HF.out, rfl⟩, hB⟩

end Go.Proofs.YtebgmlbbilcbbaaGreatDoor
