/- Parse of ratio. -/
import Derived.Test.YtikdkhmeaoafmaaGreatDoorRatW
import Derived.Test.YtikdkhmeaoafmaaGreatDoorShelfCut
namespace Go.Proofs.YtikdkhmeaoafmaaGreatDoor
open Go.RowKit

open Classical in
/-- What Parse returns. -/
noncomputable def parseQ (l : List UInt8) : Value := if readsL l ∧ fineL l then .tuple #[ratW (decide (l.head? = some 45)) (natS (dval (upL l))) (natS (denL l)), .bool true] else .tuple #[rat0, .bool false]

theorem pre_has (l : List UInt8) : Lib.hasPrefix l [45] = decide (l.head? = some 45) := by
  unfold Lib.hasPrefix
  cases l with
  | nil => rfl
  | cons a t =>
    by_cases h : a = 45
    · subst h; simp [List.isPrefixOf]
    · have h' : ¬ (45 = a) := fun e => h e.symm
      simp [List.isPrefixOf, h, h']
theorem pre_trim (l : List UInt8) : Lib.trimPrefix l [45] = bodyL l := by
  unfold Lib.trimPrefix bodyL
  rw [pre_has]
  by_cases h : l.head? = some 45
  · simp [h]
  · simp [h]

theorem index_none {r : List UInt8} (h : r.dropWhile (· != 47) = []) : Lib.indexByte r 47 = -1 := by
  induction r with
  | nil => rfl
  | cons a t ih =>
    by_cases e : a = 47
    · subst e; simp at h
    · have e' : (a != 47) = true := by simpa using e
      have e2 : (a == 47) = false := by simpa using e
      rw [List.dropWhile_cons, if_pos e'] at h
      unfold Lib.indexByte
      rw [e2, ih h]
      rfl
theorem index_some {r : List UInt8} (h : r.dropWhile (· != 47) ≠ []) : Lib.indexByte r 47 = ((r.takeWhile (· != 47)).length : Int) := by
  induction r with
  | nil => simp at h
  | cons a t ih =>
    by_cases e : a = 47
    · subst e; simp [Lib.indexByte]
    · have e' : (a != 47) = true := by simpa using e
      have e2 : (a == 47) = false := by simpa using e
      rw [List.dropWhile_cons, if_pos e'] at h
      unfold Lib.indexByte
      rw [e2, ih h, List.takeWhile_cons, if_pos e']
      have : ((((t.takeWhile (· != 47)).length : Nat) : Int) == -1) = false := by rw [beq_eq_false_iff_ne]; omega
      rw [this]
      simp

theorem bytes_of (l : List UInt8) : (⟨l.toArray⟩ : ByteArray).data.toList = l := by simp
theorem size_of (l : List UInt8) : (⟨l.toArray⟩ : ByteArray).size = l.length := by show l.toArray.size = _; simp
theorem extract_take (l : List UInt8) {i : Nat} : (⟨l.toArray⟩ : ByteArray).extract 0 i = ⟨(l.take i).toArray⟩ := by
  apply ByteArray.ext; apply Array.toList_inj.1; simp [List.extract]
theorem extract_drop (l : List UInt8) {i : Nat} : (⟨l.toArray⟩ : ByteArray).extract i l.length = ⟨(l.drop i).toArray⟩ := by
  apply ByteArray.ext; apply Array.toList_inj.1; simp [List.extract, List.take_of_length_le]

/-- What Cut returns at a stroke. -/
def cutQ (r : List UInt8) : Value := if r.dropWhile (· != 47) = [] then .tuple #[.string ⟨r.toArray⟩, .string ⟨#[]⟩, .bool false] else .tuple #[.string ⟨(r.takeWhile (· != 47)).toArray⟩, .string ⟨(r.dropWhile (· != 47)).tail.toArray⟩, .bool true]

set_option maxRecDepth 100000 in
set_option maxHeartbeats 400000 in
theorem Cut_q (r : List UInt8) (hr : r.length ≤ 1000) : Ret 88 #[.string ⟨r.toArray⟩, .string ⟨#[47]⟩] (cutQ r) := by
  intro w
  have p1 := Tryz.stringslite_Index_one ⟨r.toArray⟩ 47 w
  rw [bytes_of] at p1
  have hsz := size_of r
  by_cases h : r.dropWhile (· != 47) = []
  · have HQ : Hid (cutQ r = .tuple #[.string ⟨r.toArray⟩, .string ⟨#[]⟩, .bool false]) := Lib.hid (if_pos h)
    rw [index_none h] at p1
    rw [HQ.out]
    have m1 := Lib.hid p1
    clear p1 h HQ
    go_enter Tryz.func88, Tryz.ntmps88
    go_wp2_with fail
    refine m1.out.mono ?_
    rintro e w1 ⟨rfl, rfl⟩
    go_wp2_with fail
    go_ret3
    exact ⟨rfl, Below.refl _ _⟩
  · have HQ : Hid (cutQ r = .tuple #[.string ⟨(r.takeWhile (· != 47)).toArray⟩, .string ⟨(r.dropWhile (· != 47)).tail.toArray⟩, .bool true]) := Lib.hid (if_neg h)
    rw [index_some h] at p1
    rw [HQ.out]
    have m1 := Lib.hid p1
    have hd : r.dropWhile (· != 47) = 47 :: (r.dropWhile (· != 47)).tail := by
      cases e : r.dropWhile (· != 47) with
      | nil => exact absurd e h
      | cons a t =>
        have := List.head_dropWhile_not (l := r) (fun x : UInt8 => x != 47) (by rw [e]; simp)
        simp only [e, List.head_cons] at this
        have h47 : a = 47 := by simpa using this
        rw [h47]; rfl
    obtain ⟨u, hu⟩ : ∃ u, r.takeWhile (· != 47) = u := ⟨_, rfl⟩
    obtain ⟨v, hv⟩ : ∃ v, (r.dropWhile (· != 47)).tail = v := ⟨_, rfl⟩
    have hrr : r = u ++ 47 :: v := by rw [← hu, ← hv, ← hd, List.takeWhile_append_dropWhile]
    rw [hu, hv]
    rw [hu] at m1
    have hl : r.length = u.length + 1 + v.length := by rw [hrr]; simp; omega
    have x1 : (⟨r.toArray⟩ : ByteArray).extract 0 u.length = ⟨u.toArray⟩ := by rw [extract_take, hrr]; simp
    have x2 : (⟨r.toArray⟩ : ByteArray).extract (u.length + 1) r.length = ⟨v.toArray⟩ := by rw [extract_drop, hrr]; simp
    clear p1 h HQ hd hu hv hrr
    obtain ⟨k, hk⟩ : ∃ k, u.length = k := ⟨_, rfl⟩
    rw [hk] at m1 x1 x2 hl
    clear hk
    generalize (⟨r.toArray⟩ : ByteArray) = s at *
    generalize (⟨u.toArray⟩ : ByteArray) = su at *
    generalize (⟨v.toArray⟩ : ByteArray) = sv at *
    rw [← hsz] at x2
    have hle : k + 1 ≤ s.size := by omega
    have hsm : s.size ≤ 1000 := by omega
    clear hsz hl
    go_enter Tryz.func88, Tryz.ntmps88
    go_wp2_with fail
    refine m1.out.mono ?_
    rintro e w1 ⟨rfl, rfl⟩
    go_wp2_with fail
    have hk0 : (0 : Int) ≤ (k : Int) := by omega
    have hk1 : (k : Int) ≤ (s.size : Int) := by omega
    have hk2 : IntKind.i64.wrap ((k : Int) + 1) = (k : Int) + 1 := IntWalk.i64_in _ (by omega)
    have hk3 : (0 : Int) ≤ (k : Int) + 1 := by omega
    have hk4 : (k : Int) + 1 ≤ (s.size : Int) := by omega
    have hk5 : ((k : Int) + 1).toNat = k + 1 := by omega
    go_region
    go_wp2_with fail
    go_ret3
    exact ⟨by first | rfl | simp [x1, x2], (Below.refl _ _).drew⟩
theorem cut_words (r : List UInt8) : ∃ (a b : ByteArray) (f : Bool), cutQ r = .tuple #[.string a, .string b, .bool f] := by
  unfold cutQ
  split
  · exact ⟨_, _, _, rfl⟩
  · exact ⟨_, _, _, rfl⟩
theorem SCut_q (r : List UInt8) (hr : r.length ≤ 1000) : Ret 53 #[.string ⟨r.toArray⟩, .string ⟨#[47]⟩] (cutQ r) := by
  intro w
  have p1 := Cut_q r hr
  obtain ⟨a, b, f, e⟩ := cut_words r
  rw [e] at p1 ⊢
  have m1 := Lib.hid p1
  clear p1 e
  generalize (⟨r.toArray⟩ : ByteArray) = s at *
  go_enter Tryz.func53, Tryz.ntmps53
  go_wp2_with fail
  refine (m1.out _).mono ?_
  rintro e w1 ⟨rfl, hb1⟩
  go_wp2_with fail
  go_ret3
  exact ⟨rfl, hb1⟩

theorem up_len (l : List UInt8) : (upL l).length ≤ l.length ∧ (downL l).tail.length ≤ l.length := by
  have h := congrArg List.length (split_text l)
  rw [List.length_append, List.length_append] at h
  rw [List.length_tail]
  omega
theorem good_len {l : List UInt8} {k : Nat} (hl : l.length ≤ k) (h : goodD l = true) : (natS (dval l)).size ≤ k := by
  have ha : l.all isD = true := by unfold goodD at h; simp only [Bool.and_eq_true] at h; exact h.2
  exact natS_size (P8_up (dval_lt8 l ha) hl)
theorem right_words (g : Bool) (n d : Nat) : rRightB g (natS n) (natS d) = true ↔ d ≠ 0 ∧ ¬ (n = 0 ∧ g = true) ∧ Nat.gcd n d = 1 := by
  unfold rRightB
  rw [right_natS, right_natS, sval_natS, sval_natS]
  have e1 : decide ((natS d).size ≠ 0) = decide (d ≠ 0) := decide_eq_decide.2 (not_congr natS_zero_size)
  have e2 : decide ((natS n).size = 0) = decide (n = 0) := decide_eq_decide.2 natS_zero_size
  rw [e1, e2]
  simp
  constructor
  · rintro ⟨⟨h1, h2⟩, h3⟩
    exact ⟨h1, fun e => by rcases h2 with h | h <;> simp_all, h3⟩
  · rintro ⟨h1, h2, h3⟩
    refine ⟨⟨h1, ?_⟩, h3⟩
    by_cases e : n = 0
    · right; simpa using h2 e
    · left; exact e

set_option maxRecDepth 100000 in
set_option maxHeartbeats 2000000 in
theorem Parse_q (s : ByteArray) (hs : s.size ≤ 300) : Ret 14 #[.string s] (parseQ s.data.toList) := by
  intro w
  obtain ⟨l, hl⟩ : ∃ l, s.data.toList = l := ⟨_, rfl⟩
  have hll : l.length ≤ 300 := by rw [← hl, ← Lib.size_eq]; exact hs
  have hul := up_len l
  have p1 : Ret 52 #[.string s, .string ⟨#[45]⟩] (.tuple #[.string ⟨(bodyL l).toArray⟩, .bool (decide (l.head? = some 45))]) := fun W => by
    have := Tryz.strings_CutPrefix s ⟨#[45]⟩ W
    rw [hl, show (⟨#[45]⟩ : ByteArray).data.toList = [45] from rfl, pre_trim, pre_has] at this
    exact this.mono fun e w' h => ⟨h.1, h.2 ▸ Below.refl _ _⟩
  have p2 := SCut_q (bodyL l) (by have := congrArg List.length (split_text l); unfold upL downL at this; rw [List.takeWhile_append_dropWhile, List.length_append] at this; omega)
  have HN : Hid (¬ (readsL l ∧ fineL l) → parseQ l = .tuple #[rat0, .bool false]) := Lib.hid (fun h => if_neg h)
  have HY : Hid (readsL l ∧ fineL l → parseQ l = .tuple #[ratW (decide (l.head? = some 45)) (natS (dval (upL l))) (natS (denL l)), .bool true]) := Lib.hid (fun h => if_pos h)
  have HR := Lib.hid (right_words (decide (l.head? = some 45)) (dval (upL l)) (denL l))
  have HRR : Hid (goodD (upL l) = true → (natS (denL l)).size ≤ 1000 → Ret 22 #[ratW (decide (l.head? = some 45)) (natS (dval (upL l))) (natS (denL l))] (.bool (rRightB (decide (l.head? = some 45)) (natS (dval (upL l))) (natS (denL l))))) := Lib.hid (fun h h' => Right_q _ _ _ (Nat.le_trans (good_len hul.1 h) (by omega)) h')
  have q3 := fun W => Parse_any ⟨(upL l).toArray⟩ W (by rw [size_of]; omega)
  have q4 := fun W => Parse_any ⟨(downL l).tail.toArray⟩ W (by rw [size_of]; omega)
  unfold parseRes at q3 q4
  rw [bytes_of] at q3 q4
  have HF : Hid (rRightB (decide (l.head? = some 45)) (natS (dval (upL l))) (natS (denL l)) = true → readsL l → (downL l ≠ [] → denL l ≠ 1) → readsL l ∧ fineL l) := Lib.hid (fun h hr hd => by
    obtain ⟨x1, x2, x3⟩ := HR.out.1 h
    exact ⟨hr, x1, hd, fun e => x2 ⟨e.1, by simp [e.2]⟩, x3⟩)
  have HG : Hid (readsL l ∧ fineL l → rRightB (decide (l.head? = some 45)) (natS (dval (upL l))) (natS (denL l)) = true) := Lib.hid (fun h => by
    obtain ⟨_, x1, _, x3, x4⟩ := h
    exact HR.out.2 ⟨x1, fun e => x3 ⟨e.1, by simpa using e.2⟩, x4⟩)
  have HD1 : Hid (downL l = [] → denL l = 1) := Lib.hid (fun e => by unfold denL; rw [if_pos e])
  have HD2 : Hid (downL l ≠ [] → denL l = dval (downL l).tail) := Lib.hid (fun e => by unfold denL; rw [if_neg e])
  have HGL : Hid (goodD (downL l).tail = true → (natS (dval (downL l).tail)).size ≤ 1000) := Lib.hid (fun h => Nat.le_trans (good_len hul.2 h) (by omega))
  rw [hl]
  clear hul hs hll HR
  have m1 := Lib.hid p1
  have hcut : Hid ((downL l = [] → cutQ (bodyL l) = .tuple #[.string ⟨(upL l).toArray⟩, .string ⟨#[]⟩, .bool false]) ∧ (downL l ≠ [] → cutQ (bodyL l) = .tuple #[.string ⟨(upL l).toArray⟩, .string ⟨(downL l).tail.toArray⟩, .bool true])) := Lib.hid ⟨fun h => by
    have e : upL l = bodyL l := by
      have := List.takeWhile_append_dropWhile (p := fun x : UInt8 => x != 47) (l := bodyL l)
      unfold downL at h
      rw [h, List.append_nil] at this
      exact this
    rw [e]; exact if_pos h, fun h => if_neg h⟩
  generalize (⟨(bodyL l).toArray⟩ : ByteArray) = r0 at *
  generalize decide (l.head? = some 45) = ng at *
  generalize parseQ l = res at *
  generalize (⟨(upL l).toArray⟩ : ByteArray) = su at *
  generalize (⟨(downL l).tail.toArray⟩ : ByteArray) = sd at *
  have hB := Below.refl w.heap.size w
  clear p1
  by_cases hd : downL l = []
  · have p2' := p2
    rw [hcut.out.1 hd] at p2'
    have m2 := Lib.hid p2'
    have hd1 := HD1.out hd
    have HDD := Lib.hid hd
    clear p2 p2' hcut HD1 HD2 HGL q4 hd
    rw [hd1] at HY HF HG HRR
    by_cases hg : goodD (upL l) = true
    · rw [if_pos hg] at q3
      have m3 := Lib.hid q3
      have m4 := Lib.hid (HRR.out hg (by decide))
      have HRD : Hid (readsL l) := Lib.hid ⟨hg, fun h => absurd HDD.out h⟩
      clear q3 hg HRR
      generalize natS (dval (upL l)) = n at *
      go_enter Tryz.func14, Tryz.ntmps14
      go_wp2_with fail
      refine (m1.out _).mono ?_
      rintro e w1 ⟨rfl, hb1⟩
      have hkr := (Blk.new w _ _).belowK hb1
      replace hB := below_then (below_al hB _) hb1
      clear hb1
      go_wp2_with fail
      refine (m2.out _).mono ?_
      rintro e w2 ⟨rfl, hb2⟩
      replace hB := below_then hB hb2
      replace hkr := hkr.belowK hb2
      clear hb2
      go_wp2_with fail
      refine (m3.out _).mono ?_
      rintro e w3 ⟨rfl, hb3⟩
      have hlt := hkr.lt
      have hle := hB.size
      have hka := (Blk.new w2 _ _).belowK hb3
      replace hkr := (hkr.alloc _).belowK hb3
      replace hB := below_then (below_al hB _) hb3
      clear hb3
      generalize w2.heap.size = ka at *
      obtain ⟨chka0, chka1, chka2⟩ := cells3 hka (Below.refl _ _)
      obtain ⟨fhka0, fhka1, fhka2⟩ := free3 hka (Below.refl _ _)
      go_upto_region 6 with fail
      clear chka0 chka1 chka2
      clear fhka0 fhka1 fhka2
      replace hka := hka.set_ 1 (.string n)
      replace hkr := hkr.far (p := ⟨ka, 1, none⟩) (by show w.heap.size ≠ ka; omega) (.string n)
      replace hB := below_set (p := ⟨ka, 1, none⟩) hB (by show w.heap.size ≤ ka; omega) (.string n)
      generalize w3.setCell ⟨ka, 1, none⟩ (.string n) = wc at *
      obtain ⟨chka0, chka1, chka2⟩ := cells3 hka (Below.refl _ _)
      go_wp2_with fail
      refine (m4.out _).mono ?_
      rintro e w5 ⟨rfl, hb5⟩
      clear chka0 chka1 chka2
      replace hB := below_then hB hb5
      replace hka := hka.belowK hb5
      replace hkr := hkr.belowK hb5
      clear hb5
      obtain ⟨chka0, chka1, chka2⟩ := cells3 hka (Below.refl _ _)
      obtain ⟨chkr0, chkr1, chkr2⟩ := cells3 hkr (Below.refl _ _)
      obtain ⟨fhkr0, fhkr1, fhkr2⟩ := free3 hkr (Below.refl _ _)
      cases hrr : rRightB ng n (natS 1)
      · obtain rfl := HN.out (fun h => by have := HG.out h; rw [hrr] at this; cases this)
        go_wp2_with fail
        refine bodyPost_ret (results_rat2 rfl rfl (hkr.put3 _ _ _) rfl) rfl ?_
        exact ⟨rfl, below_put3 hB (by omega) _ _ _⟩
      · obtain rfl := HY.out (HF.out hrr HRD.out (fun h => absurd HDD.out h))
        go_wp2_with fail
        refine bodyPost_ret (results_rat2 rfl rfl (hkr.put3 _ _ _) rfl) rfl ?_
        exact ⟨rfl, below_put3 hB (by omega) _ _ _⟩
    · rw [if_neg hg] at q3
      have m3 := Lib.hid q3
      obtain rfl := HN.out (fun h => hg h.1.1)
      clear q3 hg HRR HY HF HG
      go_enter Tryz.func14, Tryz.ntmps14
      go_wp2_with fail
      refine (m1.out _).mono ?_
      rintro e w1 ⟨rfl, hb1⟩
      have hkr := (Blk.new w _ _).belowK hb1
      replace hB := below_then (below_al hB _) hb1
      clear hb1
      go_wp2_with fail
      refine (m2.out _).mono ?_
      rintro e w2 ⟨rfl, hb2⟩
      replace hB := below_then hB hb2
      replace hkr := hkr.belowK hb2
      clear hb2
      go_wp2_with fail
      refine (m3.out _).mono ?_
      rintro e w3 ⟨rfl, hb3⟩
      have hlt := hkr.lt
      have hle := hB.size
      have hka := (Blk.new w2 _ _).belowK hb3
      replace hkr := (hkr.alloc _).belowK hb3
      replace hB := below_then (below_al hB _) hb3
      clear hb3
      generalize w2.heap.size = ka at *
      obtain ⟨chka0, chka1, chka2⟩ := cells3 hka (Below.refl _ _)
      obtain ⟨fhka0, fhka1, fhka2⟩ := free3 hka (Below.refl _ _)
      go_upto_region 6 with fail
      clear chka0 chka1 chka2
      clear fhka0 fhka1 fhka2
      replace hka := hka.set_ 1 (.string ⟨#[]⟩)
      replace hkr := hkr.far (p := ⟨ka, 1, none⟩) (by show w.heap.size ≠ ka; omega) (.string ⟨#[]⟩)
      replace hB := below_set (p := ⟨ka, 1, none⟩) hB (by show w.heap.size ≤ ka; omega) (.string ⟨#[]⟩)
      generalize w3.setCell ⟨ka, 1, none⟩ (.string ⟨#[]⟩) = wc at *
      obtain ⟨chkr0, chkr1, chkr2⟩ := cells3 hkr (Below.refl _ _)
      obtain ⟨fhkr0, fhkr1, fhkr2⟩ := free3 hkr (Below.refl _ _)
      go_wp2_with fail
      refine bodyPost_ret (results_rat2 rfl rfl (hkr.put3 _ _ _) rfl) rfl ?_
      exact ⟨rfl, below_put3 hB (by omega) _ _ _⟩
  · have p2' := p2
    rw [hcut.out.2 hd] at p2'
    have m2 := Lib.hid p2'
    have hd2 := HD2.out hd
    have HDD := Lib.hid hd
    clear p2 p2' hcut HD1 HD2 hd
    by_cases hg : goodD (upL l) = true
    · rw [if_pos hg] at q3
      have m3 := Lib.hid q3
      by_cases hg2 : goodD (downL l).tail = true
      · rw [if_pos hg2] at q4
        have m5 := Lib.hid q4
        have q6 := HRR.out hg (by rw [hd2]; exact HGL.out hg2)
        rw [hd2] at q6 HY HF HG
        have m4 := Lib.hid q6
        have HRD : Hid (readsL l) := Lib.hid ⟨hg, fun _ => hg2⟩
        have HU := Lib.hid (unit_iff (dval (downL l).tail))
        have HFN : Hid (dval (downL l).tail = 1 → ¬ (readsL l ∧ fineL l)) := Lib.hid (fun h1 h => h.2.2.1 HDD.out (hd2.trans h1))
        clear q3 q4 q6 hg hg2 HRR HGL hd2
        generalize natS (dval (upL l)) = n at *
        generalize natS (dval (downL l).tail) = d at *
        go_enter Tryz.func14, Tryz.ntmps14
        go_wp2_with fail
        refine (m1.out _).mono ?_
        rintro e w1 ⟨rfl, hb1⟩
        have hkr := (Blk.new w _ _).belowK hb1
        replace hB := below_then (below_al hB _) hb1
        clear hb1
        go_wp2_with fail
        refine (m2.out _).mono ?_
        rintro e w2 ⟨rfl, hb2⟩
        replace hB := below_then hB hb2
        replace hkr := hkr.belowK hb2
        clear hb2
        go_wp2_with fail
        refine (m3.out _).mono ?_
        rintro e w3 ⟨rfl, hb3⟩
        have hlt := hkr.lt
        have hle := hB.size
        have hka := (Blk.new w2 _ _).belowK hb3
        replace hkr := (hkr.alloc _).belowK hb3
        replace hB := below_then (below_al hB _) hb3
        clear hb3
        generalize w2.heap.size = ka at *
        obtain ⟨chka0, chka1, chka2⟩ := cells3 hka (Below.refl _ _)
        obtain ⟨fhka0, fhka1, fhka2⟩ := free3 hka (Below.refl _ _)
        go_upto_region 6 with fail
        clear chka0 chka1 chka2
        clear fhka0 fhka1 fhka2
        replace hka := hka.set_ 1 (.string n)
        replace hkr := hkr.far (p := ⟨ka, 1, none⟩) (by show w.heap.size ≠ ka; omega) (.string n)
        replace hB := below_set (p := ⟨ka, 1, none⟩) hB (by show w.heap.size ≤ ka; omega) (.string n)
        generalize w3.setCell ⟨ka, 1, none⟩ (.string n) = wc at *
        go_wp2_with fail
        refine (m5.out _).mono ?_
        rintro e w4 ⟨rfl, hb4⟩
        replace hB := below_then hB hb4
        replace hka := hka.belowK hb4
        replace hkr := hkr.belowK hb4
        clear hb4
        obtain ⟨chka0, chka1, chka2⟩ := cells3 hka (Below.refl _ _)
        obtain ⟨fhka0, fhka1, fhka2⟩ := free3 hka (Below.refl _ _)
        go_upto_region 10 with fail
        clear chka0 chka1 chka2
        clear fhka0 fhka1 fhka2
        replace hka := hka.set_ 2 (.string d)
        replace hkr := hkr.far (p := ⟨ka, 2, none⟩) (by show w.heap.size ≠ ka; omega) (.string d)
        replace hB := below_set (p := ⟨ka, 2, none⟩) hB (by show w.heap.size ≤ ka; omega) (.string d)
        generalize w4.setCell ⟨ka, 2, none⟩ (.string d) = wd at *
        obtain ⟨chka0, chka1, chka2⟩ := cells3 hka (Below.refl _ _)
        obtain ⟨chkr0, chkr1, chkr2⟩ := cells3 hkr (Below.refl _ _)
        obtain ⟨fhkr0, fhkr1, fhkr2⟩ := free3 hkr (Below.refl _ _)
        by_cases h1 : dval (downL l).tail = 1
        · obtain rfl := HN.out (HFN.out h1)
          have hu := HU.out
          rw [decide_eq_true h1] at hu
          clear h1
          go_wp2_with fail
          refine bodyPost_ret (results_rat2 rfl rfl (hkr.put3 _ _ _) rfl) rfl ?_
          exact ⟨rfl, below_put3 hB (by omega) _ _ _⟩
        · have hu := HU.out
          rw [decide_eq_false h1] at hu
          have HH1 := Lib.hid h1
          clear h1
          clear chka0 chka1 chka2 chkr0 chkr1 chkr2
          clear fhkr0 fhkr1 fhkr2
          obtain ⟨chka0, chka1, chka2⟩ := cells3 hka (Below.refl _ _)
          go_wp2_with fail
          refine (m4.out _).mono ?_
          rintro e w5 ⟨rfl, hb5⟩
          clear chka0 chka1 chka2
          replace hB := below_then hB hb5
          replace hka := hka.belowK hb5
          replace hkr := hkr.belowK hb5
          clear hb5
          obtain ⟨chka0, chka1, chka2⟩ := cells3 hka (Below.refl _ _)
          obtain ⟨chkr0, chkr1, chkr2⟩ := cells3 hkr (Below.refl _ _)
          obtain ⟨fhkr0, fhkr1, fhkr2⟩ := free3 hkr (Below.refl _ _)
          cases hrr : rRightB ng n d
          · obtain rfl := HN.out (fun h => by have := HG.out h; rw [hrr] at this; cases this)
            go_wp2_with fail
            refine bodyPost_ret (results_rat2 rfl rfl (hkr.put3 _ _ _) rfl) rfl ?_
            exact ⟨rfl, below_put3 hB (by omega) _ _ _⟩
          · obtain rfl := HY.out (HF.out hrr HRD.out (fun _ => HH1.out))
            go_wp2_with fail
            refine bodyPost_ret (results_rat2 rfl rfl (hkr.put3 _ _ _) rfl) rfl ?_
            exact ⟨rfl, below_put3 hB (by omega) _ _ _⟩
      · rw [if_neg hg2] at q4
        have m5 := Lib.hid q4
        obtain rfl := HN.out (fun h => hg2 (h.1.2 HDD.out))
        clear q3 q4 hg hg2 HRR HY HF HG HGL hd2
        generalize natS (dval (upL l)) = n at *
        go_enter Tryz.func14, Tryz.ntmps14
        go_wp2_with fail
        refine (m1.out _).mono ?_
        rintro e w1 ⟨rfl, hb1⟩
        have hkr := (Blk.new w _ _).belowK hb1
        replace hB := below_then (below_al hB _) hb1
        clear hb1
        go_wp2_with fail
        refine (m2.out _).mono ?_
        rintro e w2 ⟨rfl, hb2⟩
        replace hB := below_then hB hb2
        replace hkr := hkr.belowK hb2
        clear hb2
        go_wp2_with fail
        refine (m3.out _).mono ?_
        rintro e w3 ⟨rfl, hb3⟩
        have hlt := hkr.lt
        have hle := hB.size
        have hka := (Blk.new w2 _ _).belowK hb3
        replace hkr := (hkr.alloc _).belowK hb3
        replace hB := below_then (below_al hB _) hb3
        clear hb3
        generalize w2.heap.size = ka at *
        obtain ⟨chka0, chka1, chka2⟩ := cells3 hka (Below.refl _ _)
        obtain ⟨fhka0, fhka1, fhka2⟩ := free3 hka (Below.refl _ _)
        go_upto_region 6 with fail
        clear chka0 chka1 chka2
        clear fhka0 fhka1 fhka2
        replace hka := hka.set_ 1 (.string n)
        replace hkr := hkr.far (p := ⟨ka, 1, none⟩) (by show w.heap.size ≠ ka; omega) (.string n)
        replace hB := below_set (p := ⟨ka, 1, none⟩) hB (by show w.heap.size ≤ ka; omega) (.string n)
        generalize w3.setCell ⟨ka, 1, none⟩ (.string n) = wc at *
        go_wp2_with fail
        refine (m5.out _).mono ?_
        rintro e w4 ⟨rfl, hb4⟩
        replace hB := below_then hB hb4
        replace hka := hka.belowK hb4
        replace hkr := hkr.belowK hb4
        clear hb4
        obtain ⟨chka0, chka1, chka2⟩ := cells3 hka (Below.refl _ _)
        obtain ⟨fhka0, fhka1, fhka2⟩ := free3 hka (Below.refl _ _)
        go_upto_region 10 with fail
        clear chka0 chka1 chka2
        clear fhka0 fhka1 fhka2
        replace hka := hka.set_ 2 (.string ⟨#[]⟩)
        replace hkr := hkr.far (p := ⟨ka, 2, none⟩) (by show w.heap.size ≠ ka; omega) (.string ⟨#[]⟩)
        replace hB := below_set (p := ⟨ka, 2, none⟩) hB (by show w.heap.size ≤ ka; omega) (.string ⟨#[]⟩)
        generalize w4.setCell ⟨ka, 2, none⟩ (.string ⟨#[]⟩) = wd at *
        obtain ⟨chkr0, chkr1, chkr2⟩ := cells3 hkr (Below.refl _ _)
        obtain ⟨fhkr0, fhkr1, fhkr2⟩ := free3 hkr (Below.refl _ _)
        go_wp2_with fail
        refine bodyPost_ret (results_rat2 rfl rfl (hkr.put3 _ _ _) rfl) rfl ?_
        exact ⟨rfl, below_put3 hB (by omega) _ _ _⟩
    · rw [if_neg hg] at q3
      have m3 := Lib.hid q3
      obtain rfl := HN.out (fun h => hg h.1.1)
      clear q3 q4 hg HRR HY HF HG HGL hd2
      go_enter Tryz.func14, Tryz.ntmps14
      go_wp2_with fail
      refine (m1.out _).mono ?_
      rintro e w1 ⟨rfl, hb1⟩
      have hkr := (Blk.new w _ _).belowK hb1
      replace hB := below_then (below_al hB _) hb1
      clear hb1
      go_wp2_with fail
      refine (m2.out _).mono ?_
      rintro e w2 ⟨rfl, hb2⟩
      replace hB := below_then hB hb2
      replace hkr := hkr.belowK hb2
      clear hb2
      go_wp2_with fail
      refine (m3.out _).mono ?_
      rintro e w3 ⟨rfl, hb3⟩
      have hlt := hkr.lt
      have hle := hB.size
      have hka := (Blk.new w2 _ _).belowK hb3
      replace hkr := (hkr.alloc _).belowK hb3
      replace hB := below_then (below_al hB _) hb3
      clear hb3
      generalize w2.heap.size = ka at *
      obtain ⟨chka0, chka1, chka2⟩ := cells3 hka (Below.refl _ _)
      obtain ⟨fhka0, fhka1, fhka2⟩ := free3 hka (Below.refl _ _)
      go_upto_region 6 with fail
      clear chka0 chka1 chka2
      clear fhka0 fhka1 fhka2
      replace hka := hka.set_ 1 (.string ⟨#[]⟩)
      replace hkr := hkr.far (p := ⟨ka, 1, none⟩) (by show w.heap.size ≠ ka; omega) (.string ⟨#[]⟩)
      replace hB := below_set (p := ⟨ka, 1, none⟩) hB (by show w.heap.size ≤ ka; omega) (.string ⟨#[]⟩)
      generalize w3.setCell ⟨ka, 1, none⟩ (.string ⟨#[]⟩) = wc at *
      obtain ⟨chkr0, chkr1, chkr2⟩ := cells3 hkr (Below.refl _ _)
      obtain ⟨fhkr0, fhkr1, fhkr2⟩ := free3 hkr (Below.refl _ _)
      go_wp2_with fail
      refine bodyPost_ret (results_rat2 rfl rfl (hkr.put3 _ _ _) rfl) rfl ?_
      exact ⟨rfl, below_put3 hB (by omega) _ _ _⟩

end Go.Proofs.YtikdkhmeaoafmaaGreatDoor
