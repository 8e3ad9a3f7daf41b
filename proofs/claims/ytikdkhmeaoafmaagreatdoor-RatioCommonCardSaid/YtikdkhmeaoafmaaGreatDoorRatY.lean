/- Parse of the reference of ratio. -/
import Derived.Test.YtikdkhmeaoafmaaGreatDoorRatX
namespace Go.Proofs.YtikdkhmeaoafmaaGreatDoor
open Go.RowKit

theorem bytes_get (l : List UInt8) {k : Nat} (h : k < (⟨l.toArray⟩ : ByteArray).size) (h' : k < l.length) : (⟨l.toArray⟩ : ByteArray)[k]'h = l[k]'h' := by
  show l.toArray[k] = l[k]
  simp
theorem body_split (l : List UInt8) : bodyL l = upL l ++ downL l := by unfold upL downL; rw [List.takeWhile_append_dropWhile]
theorem up_byte (l : List UInt8) {k : Nat} (hk : k < (upL l).length) (h : k < (⟨(bodyL l).toArray⟩ : ByteArray).size) : (⟨(bodyL l).toArray⟩ : ByteArray)[k].toNat ≠ 47 := by
  have hl : k < (bodyL l).length := by rw [size_of] at h; exact h
  rw [bytes_get _ h hl]
  have hm : (bodyL l)[k] ∈ upL l := by
    have : (bodyL l)[k] = (upL l)[k] := by simp only [body_split l]; rw [List.getElem_append_left hk]
    rw [this]; exact List.getElem_mem _
  have := List.all_eq_true.1 (List.all_takeWhile (p := fun x : UInt8 => x != 47) (l := bodyL l)) _ hm
  intro e
  have e' : (bodyL l)[k] = 47 := UInt8.toNat_inj.1 e
  rw [e'] at this
  simp at this
theorem down_byte (l : List UInt8) (hd : downL l ≠ []) (h : (upL l).length < (⟨(bodyL l).toArray⟩ : ByteArray).size) : (⟨(bodyL l).toArray⟩ : ByteArray)[(upL l).length].toNat = 47 := by
  have hl : (upL l).length < (bodyL l).length := by rw [size_of] at h; exact h
  rw [bytes_get _ h hl]
  have : (bodyL l)[(upL l).length] = 47 := by
    obtain ⟨t, ht⟩ : ∃ t, downL l = 47 :: t := ⟨_, down_head hd⟩
    simp only [body_split l, ht]
    rw [List.getElem_append_right (Nat.le_refl _)]
    simp
  rw [this]; rfl
theorem head_dash {s : ByteArray} (h : 0 < s.size) : (s.data.toList.head? = some 45) ↔ s[0].toNat = 45 := by
  rw [head_byte h]
  constructor
  · intro e; have := Option.some.inj e; rw [this]; rfl
  · intro e; rw [show s[0] = 45 from UInt8.toNat_inj.1 e]

set_option maxRecDepth 100000 in
set_option maxHeartbeats 2000000 in
theorem rParse_q (s : ByteArray) (hs : s.size ≤ 300) : Ret 16 #[.string s] (parseQ s.data.toList) := by
  intro w
  obtain ⟨l, hl⟩ : ∃ l, s.data.toList = l := ⟨_, rfl⟩
  have hll : l.length = s.size := by rw [← hl, ← Lib.size_eq]
  obtain ⟨ng, hng⟩ : ∃ ng, decide (l.head? = some 45) = ng := ⟨_, rfl⟩
  have HB1 : Hid (ng = true → s.extract 1 s.size = ⟨(bodyL l).toArray⟩) := Lib.hid (fun h => by
    have h45 : l.head? = some 45 := by rw [← hng] at h; simpa using h
    have e : s = ⟨l.toArray⟩ := by apply ByteArray.ext; apply Array.toList_inj.1; rw [hl]
    rw [← hll, e, extract_drop]
    unfold bodyL
    rw [if_pos h45, List.drop_one])
  have HB0 : Hid (ng = false → s = ⟨(bodyL l).toArray⟩) := Lib.hid (fun h => by
    have h45 : ¬ l.head? = some 45 := by rw [← hng] at h; simpa using h
    apply ByteArray.ext; apply Array.toList_inj.1; rw [hl]
    unfold bodyL
    rw [if_neg h45])
  have HH : Hid (∀ h : 0 < s.size, (l.head? = some 45) ↔ s[0].toNat = 45) := Lib.hid (fun h => hl ▸ head_dash h)
  have HE : Hid (s.size = 0 → ng = false) := Lib.hid (fun h => by
    have : l = [] := List.eq_nil_of_length_eq_zero (by rw [hll]; exact h)
    rw [← hng, this]; rfl)
  have HP : Hid (ng = true → 0 < s.size) := Lib.hid (fun h => by
    rcases Nat.eq_zero_or_pos s.size with e | e
    · rw [HE.out e] at h; cases h
    · exact e)
  rw [hl]
  have hB := Below.refl w.heap.size w
  go_enter Tryz.func16, Tryz.ntmps16
  go_upto_region 2 with fail
  go_cut [5] (fun s5 wx => s5 = .bool ng ∧ wx = w.alloc (.cells #[.bool false, .string ⟨#[]⟩, .string ⟨#[]⟩] 27))
  case first =>
    by_cases h0 : s.size = 0
    · have hn := HE.out h0
      subst hn
      have hq : ¬ (0 : Int) < (s.size : Int) := by omega
      clear HB0 HB1 HH hl hng HP HE
      go_wp2_with fail
      go_meet
      exact ⟨rfl, rfl⟩
    · have hp : 0 < s.size := by omega
      have hq : (0 : Int) < (s.size : Int) := by omega
      by_cases h4 : s[0].toNat = 45
      · obtain rfl : ng = true := by rw [← hng]; simpa using (HH.out hp).2 h4
        have hz : ((s[0].toNat : Int) == 45) = true := by simp [h4]
        clear HB0 HB1 HH hl hng HP HE h4
        go_wp2_with fail
        go_meet
        exact ⟨rfl, rfl⟩
      · obtain rfl : ng = false := by rw [← hng]; simpa using fun e => h4 ((HH.out hp).1 e)
        have hz : ((s[0].toNat : Int) == 45) = false := by rw [beq_eq_false_iff_ne]; omega
        clear HB0 HB1 HH hl hng HP HE h4
        go_wp2_with fail
        go_meet
        exact ⟨rfl, rfl⟩
  obtain ⟨rfl, rfl⟩ := hcut
  go_upto_if 24 with fail
  go_cut [4] (fun s4 wx => s4 = .string ⟨(bodyL l).toArray⟩ ∧ wx = w.alloc (.cells #[.bool false, .string ⟨#[]⟩, .string ⟨#[]⟩] 27))
  case first =>
    cases ng with
    | false =>
      have e := HB0.out rfl
      clear HB0 HB1 HH hl hng HP HE
      go_wp2_with fail
      go_meet
      exact ⟨by rw [← e], rfl⟩
    | true =>
      have e := HB1.out rfl
      have hp := HP.out rfl
      have hp1 : (1 : Int) ≤ (s.size : Int) := by omega
      clear HB0 HB1 HH hl hng HP HE
      go_wp2_with fail
      go_meet
      exact ⟨by rw [← e], rfl⟩
  obtain ⟨rfl, rfl⟩ := hcut
  clear HB0 HB1 HH HP HE
  obtain ⟨sl, hsl⟩ : ∃ sl : List UInt8, (if downL l = [] then [49] else (downL l).tail) = sl := ⟨_, rfl⟩
  obtain ⟨r, hr⟩ : ∃ r : ByteArray, ⟨(bodyL l).toArray⟩ = r := ⟨_, rfl⟩
  obtain ⟨su, hsu⟩ : ∃ su : ByteArray, ⟨(upL l).toArray⟩ = su := ⟨_, rfl⟩
  obtain ⟨sd, hsd⟩ : ∃ sd : ByteArray, ⟨sl.toArray⟩ = sd := ⟨_, rfl⟩
  have hrs : r.size = (upL l).length + (downL l).length := by rw [← hr, size_of, body_split, List.length_append]
  have hul := up_len l
  have hbs : r.size ≤ 300 := by
    have h1 := congrArg List.length (split_text l)
    rw [List.length_append, List.length_append] at h1
    omega
  have HU : Hid (∀ (k : Nat) (h : k < r.size), k < (upL l).length → r[k].toNat ≠ 47) := Lib.hid (fun k h hk => by subst hr; exact up_byte l hk h)
  have HD : Hid (∀ (k : Nat) (h : k < r.size), k = (upL l).length → r[k].toNat = 47) := Lib.hid (fun k h hk => by
    subst hr
    subst hk
    refine down_byte l (fun e => ?_) h
    rw [e] at hrs
    simp at hrs
    omega)
  have HX1 : Hid (downL l = [] → r = su ∧ sd = ⟨#[49]⟩) := Lib.hid (fun e => ⟨by rw [← hr, ← hsu, body_split, e, List.append_nil], by rw [← hsd, ← hsl, if_pos e]⟩)
  have HX2 : Hid (downL l ≠ [] → r.extract 0 (upL l).length = su ∧ r.extract ((upL l).length + 1) r.size = sd) := Lib.hid (fun e => by
    have h2 : r.size = (bodyL l).length := by rw [← hr, size_of]
    constructor
    · rw [← hr, ← hsu, extract_take, body_split]; simp
    · rw [h2, ← hr, extract_drop, ← hsd, ← hsl, if_neg e]
      obtain ⟨t, ht⟩ : ∃ t, downL l = 47 :: t := ⟨_, down_head e⟩
      rw [body_split, ht]; simp)
  have HDL : Hid (downL l = [] ↔ (downL l).length = 0) := Lib.hid (by rw [List.length_eq_zero_iff])
  have hsll : sl.length ≤ 300 := by
    rw [← hsl]
    split
    · simp
    · omega
  have hden : dval sl = denL l := by
    rw [← hsl]
    unfold denL
    split
    · rfl
    · rfl
  have HRD : Hid (goodD (upL l) = true → goodD sl = true → readsL l) := Lib.hid (fun h1 h2 => ⟨h1, fun e => by rw [← hsl, if_neg e] at h2; exact h2⟩)
  have HRN : Hid (readsL l → goodD (upL l) = true ∧ goodD sl = true) := Lib.hid (fun h => ⟨h.1, by
    rw [← hsl]
    split
    · rfl
    · rename_i e; exact h.2 e⟩)
  have q1 := fun W => rParse su W (by rw [← hsu, size_of]; omega)
  have q2 := fun W => rParse sd W (by rw [← hsd, size_of]; omega)
  unfold parseRes at q1 q2
  rw [← hsu, bytes_of] at q1
  rw [← hsd, bytes_of, hden] at q2
  rw [hsu] at q1
  rw [hsd] at q2
  have HN : Hid (¬ (readsL l ∧ fineL l) → parseQ l = .tuple #[rat0, .bool false]) := Lib.hid (fun h => if_neg h)
  have HY : Hid (readsL l ∧ fineL l → parseQ l = .tuple #[ratW ng (natS (dval (upL l))) (natS (denL l)), .bool true]) := Lib.hid (fun h => by rw [← hng]; exact if_pos h)
  have HM : Hid (goodD (upL l) = true → goodD sl = true → denL l = 0 → Ret 18 #[.bool ng, .string (natS (dval (upL l))), .string (natS (denL l))] (.tuple #[rat0, .bool false])) := Lib.hid (fun h1 h2 h3 => by
    have e1 := good_len (k := 300) (by omega) h1
    have e2 := good_len hsll h2
    rw [hden] at e2
    have := rMake_q ng (natS (dval (upL l))) (natS (denL l)) (by omega) (by omega) (by rw [sval_natS, sval_natS, h3, Rat.mkRat_zero]; exact sm_zero _ (by omega))
    unfold makeQ at this
    rw [if_neg (fun h => h.2.2 (natS_zero_size.2 h3))] at this
    exact this)
  have HK : Hid (goodD (upL l) = true → goodD sl = true → denL l ≠ 0 → ∃ (rg : Bool) (ra rb : ByteArray), ra.size ≤ 300 ∧ rb.size ≤ 300 ∧ Ret 18 #[.bool ng, .string (natS (dval (upL l))), .string (natS (denL l))] (.tuple #[ratW rg ra rb, .bool true]) ∧
      (fineL l → ratW rg ra rb = ratW ng (natS (dval (upL l))) (natS (denL l))) ∧ (textQ (ratOf rg ra rb) = l ↔ fineL l)) := Lib.hid (fun h1 h2 h3 => by
    have e1 := good_len (k := 300) (by omega) h1
    have e2 := good_len hsll h2
    rw [hden] at e2
    have b1 := sval_le e1
    have b2 := sval_le e2
    rw [sval_natS] at b1 b2
    have hs : Sm 300 (mkRat (signed ng (dval (upL l))) (denL l)) := sm_mk _ (P8_up b1 (by omega)) b2 h3
    obtain ⟨rg, ra, rb, er, -, -, -, z1, z2, eo⟩ := words hs
    have := rMake_q ng (natS (dval (upL l))) (natS (denL l)) (by omega) (by omega) (by rw [sval_natS, sval_natS]; exact hs.mono (by omega))
    unfold makeQ at this
    rw [if_pos ⟨right_natS _, right_natS _, fun e => h3 (natS_zero_size.1 e)⟩, sval_natS, sval_natS, er] at this
    refine ⟨rg, ra, rb, z1, z2, this, fun hf => ?_, ?_⟩
    · rw [← er, ratV_mk _ h3, hf.2.2.2, Nat.div_one, Nat.div_one]
      have : (ng && decide (dval (upL l) ≠ 0)) = ng := by
        cases ng
        · rfl
        · have : dval (upL l) ≠ 0 := fun e => hf.2.2.1 ⟨e, by simpa using hng⟩
          simp [this]
      rw [this]
    · rw [eo, ← hng]
      exact text_iff (HRD.out h1 h2) h3)
  have HS : Hid (∀ x : Rat, textQ x = l → (textS x).toList = s.toList) := Lib.hid (fun x h => by
    rw [ByteArray.toList_eq, ByteArray.toList_eq, hl]; unfold textS; rw [h])
  have HS2 : Hid (∀ x : Rat, textQ x ≠ l → ((textS x).toList == s.toList) = false) := Lib.hid (fun x h => by
    rw [beq_eq_false_iff_ne, ByteArray.toList_eq, ByteArray.toList_eq, hl]; unfold textS; simpa using h)
  rw [hr]
  obtain ⟨W0, hW0⟩ : ∃ W0, w.alloc (.cells #[.bool false, .string ⟨#[]⟩, .string ⟨#[]⟩] 27) = W0 := ⟨_, rfl⟩
  have hkr : R3 W0 w.heap.size false ⟨#[]⟩ ⟨#[]⟩ := hW0 ▸ Blk.new _ _ _
  replace hB : Below w.heap.size w W0 := hW0 ▸ below_al hB _
  rw [hW0]
  clear hW0
  obtain ⟨ul, hule⟩ : ∃ ul, (upL l).length = ul := ⟨_, rfl⟩
  obtain ⟨dl, hdle⟩ : ∃ dl, (downL l).length = dl := ⟨_, rfl⟩
  rw [hule] at hrs HX2
  simp only [hule] at HU HD
  rw [hdle] at hrs HDL
  clear hr hsu hsd hl hng hul hule hdle hden hsl hll hsll
  go_wp2_with fail
  by_cases hd : downL l = []
  · have hdz := HDL.out.1 hd
    obtain ⟨rfl, rfl⟩ := HX1.out hd
    clear hd HX1 HX2 HDL HD
    go_loopw [6, 7, 8] (fun s6 s7 s8 wr => ∃ k : Nat, k ≤ ul ∧ s8 = .int .i64 (k : Int) ∧ s6 = .string r ∧ s7 = .string ⟨#[49]⟩ ∧ wr = W0) (fun _ _ s8 _ => r.size - (intOf s8).toNat)
    case atStart => exact ⟨0, Nat.zero_le _, rfl, rfl, rfl, rfl⟩
    case round =>
      obtain ⟨k, hk, rfl, rfl, rfl, rfl⟩ := hrel
      by_cases hlt : k < r.size
      · have hne := HU.out k hlt (by omega)
        have hz : ((r[k].toNat : Int) == 47) = false := by rw [beq_eq_false_iff_ne]; omega
        clear hne
        go_wp2_with fail
        go_roundw
        case rel => exact ⟨k + 1, by omega, by go_num, rfl, rfl, trivial⟩
        case measure => simp [intOf]; omega
      · skip
        by_cases hg1 : goodD (upL l) = true
        · rw [if_pos hg1] at q1
          have m1 := Lib.hid q1
          by_cases hg2 : goodD sl = true
          · rw [if_pos hg2] at q2
            have m2 := Lib.hid q2
            by_cases hdn : denL l = 0
            · have m3 := Lib.hid (HM.out hg1 hg2 hdn)
              have HRES := Lib.hid (HN.out (fun h => h.2.1 hdn))
              clear hg1 hg2 hdn q1 q2 HRD HRN HN HY HM HK HS HS2
              generalize natS (dval (upL l)) = tn at *
              generalize natS (denL l) = td at *
              go_wp2_with fail
              refine (m1.out _).mono ?_
              rintro e w1 ⟨rfl, hb1⟩
              replace hB := below_then hB hb1
              replace hkr := hkr.belowK hb1
              clear hb1
              go_wp2_with fail
              refine (m2.out _).mono ?_
              rintro e w2 ⟨rfl, hb2⟩
              replace hB := below_then hB hb2
              replace hkr := hkr.belowK hb2
              clear hb2
              go_wp2_with fail
              refine (m3.out _).mono ?_
              rintro e w3 ⟨rfl, hb3⟩
              replace hB := below_then hB hb3
              replace hkr := hkr.belowK hb3
              clear hb3
              have hlt := hkr.lt
              obtain ⟨chkr0, chkr1, chkr2⟩ := cells3 hkr (Below.refl _ _)
              obtain ⟨fhkr0, fhkr1, fhkr2⟩ := free3 hkr (Below.refl _ _)
              go_wp2_with fail
              refine bodyPost_ret (results_rat2 rfl rfl ((hkr.put3 _ _ _).alloc _) rfl) rfl ?_
              exact ⟨by rw [HRES.out]; rfl, below_al (below_put3 hB (by omega) _ _ _) _⟩
            · obtain ⟨rg, ra, rb, z1, z2, q3, hfe, hft⟩ := HK.out hg1 hg2 hdn
              have m3 := Lib.hid q3
              have m4 := Lib.hid (fun W : World => rText_q rg ra rb W (by omega) (by omega))
              have HFE := Lib.hid hfe
              have HFT := Lib.hid hft
              have HRD' := Lib.hid (HRD.out hg1 hg2)
              clear hg1 hg2 hdn q1 q2 q3 hfe hft HRD HRN HM HK
              generalize natS (dval (upL l)) = tn at *
              generalize natS (denL l) = td at *
              go_wp2_with fail
              refine (m1.out _).mono ?_
              rintro e w1 ⟨rfl, hb1⟩
              replace hB := below_then hB hb1
              replace hkr := hkr.belowK hb1
              clear hb1
              go_wp2_with fail
              refine (m2.out _).mono ?_
              rintro e w2 ⟨rfl, hb2⟩
              replace hB := below_then hB hb2
              replace hkr := hkr.belowK hb2
              clear hb2
              go_wp2_with fail
              refine (m3.out _).mono ?_
              rintro e w3 ⟨rfl, hb3⟩
              replace hB := below_then hB hb3
              replace hkr := hkr.belowK hb3
              clear hb3
              have hlt := hkr.lt
              go_wp2_with fail
              refine (m4.out _).mono ?_
              rintro e w4 ⟨rfl, hb4⟩
              have hle := hB.size
              have hka := (Blk.new w3 _ _).belowK hb4
              replace hkr := (hkr.alloc _).belowK hb4
              replace hB := below_then (below_al hB _) hb4
              clear hb4
              obtain ⟨chka0, chka1, chka2⟩ := cells3 hka (Below.refl _ _)
              obtain ⟨chkr0, chkr1, chkr2⟩ := cells3 hkr (Below.refl _ _)
              obtain ⟨fhkr0, fhkr1, fhkr2⟩ := free3 hkr (Below.refl _ _)
              by_cases hf : fineL l
              · have ht := HS.out _ (HFT.out.2 hf)
                have HRES := Lib.hid ((HY.out ⟨HRD'.out, hf⟩).trans (by rw [← HFE.out hf]))
                clear hf HS HS2 HFE HFT HY HN
                go_wp2_with fail
                refine bodyPost_ret (results_rat2 rfl rfl (hkr.put3 _ _ _) rfl) rfl ?_
                exact ⟨by rw [HRES.out]; rfl, below_put3 hB (by omega) _ _ _⟩
              · have ht := HS2.out _ (fun e => hf (HFT.out.1 e))
                have HRES := Lib.hid (HN.out (fun h => hf h.2))
                clear hf HS HS2 HFE HFT HY HN
                go_wp2_with fail
                refine bodyPost_ret (results_rat2 rfl rfl (hkr.put3 _ _ _) rfl) rfl ?_
                exact ⟨by rw [HRES.out]; rfl, below_put3 hB (by omega) _ _ _⟩
          · rw [if_neg hg2] at q2
            have m2 := Lib.hid q2
            have HRES := Lib.hid (HN.out (fun h => hg2 (HRN.out h.1).2))
            clear hg1 hg2 q1 q2 HRD HRN HN HY HM HK HS HS2
            generalize natS (dval (upL l)) = tn at *
            go_wp2_with fail
            refine (m1.out _).mono ?_
            rintro e w1 ⟨rfl, hb1⟩
            replace hB := below_then hB hb1
            replace hkr := hkr.belowK hb1
            clear hb1
            go_wp2_with fail
            refine (m2.out _).mono ?_
            rintro e w2 ⟨rfl, hb2⟩
            replace hB := below_then hB hb2
            replace hkr := hkr.belowK hb2
            clear hb2
            obtain ⟨chkr0, chkr1, chkr2⟩ := cells3 hkr (Below.refl _ _)
            obtain ⟨fhkr0, fhkr1, fhkr2⟩ := free3 hkr (Below.refl _ _)
            go_wp2_with fail
            refine bodyPost_ret (results_rat2 rfl rfl (hkr.put3 _ _ _) rfl) rfl ?_
            exact ⟨by rw [HRES.out]; rfl, below_put3 hB (by omega) _ _ _⟩
        · rw [if_neg hg1] at q1
          have m1 := Lib.hid q1
          obtain ⟨y, b, hyb⟩ : ∃ (y : ByteArray) (b : Bool), (if goodD sl = true then Value.tuple #[.string (natS (denL l)), .bool true] else Value.tuple #[.string ⟨#[]⟩, .bool false]) = .tuple #[.string y, .bool b] := by
            split
            · exact ⟨_, _, rfl⟩
            · exact ⟨_, _, rfl⟩
          rw [hyb] at q2
          have m2 := Lib.hid q2
          have HRES := Lib.hid (HN.out (fun h => hg1 (HRN.out h.1).1))
          clear hg1 hyb q1 q2 HRD HRN HN HY HM HK HS HS2
          go_wp2_with fail
          refine (m1.out _).mono ?_
          rintro e w1 ⟨rfl, hb1⟩
          replace hB := below_then hB hb1
          replace hkr := hkr.belowK hb1
          clear hb1
          go_wp2_with fail
          refine (m2.out _).mono ?_
          rintro e w2 ⟨rfl, hb2⟩
          replace hB := below_then hB hb2
          replace hkr := hkr.belowK hb2
          clear hb2
          obtain ⟨chkr0, chkr1, chkr2⟩ := cells3 hkr (Below.refl _ _)
          obtain ⟨fhkr0, fhkr1, fhkr2⟩ := free3 hkr (Below.refl _ _)
          go_wp2_with fail
          refine bodyPost_ret (results_rat2 rfl rfl (hkr.put3 _ _ _) rfl) rfl ?_
          exact ⟨by rw [HRES.out]; rfl, below_put3 hB (by omega) _ _ _⟩
  · have hdz : dl ≠ 0 := fun e => hd (HDL.out.2 e)
    obtain ⟨x1, x2⟩ := HX2.out hd
    clear hd HX1 HX2 HDL
    go_loopw [6, 7, 8] (fun s6 s7 s8 wr => ∃ k : Nat, k ≤ ul ∧ s8 = .int .i64 (k : Int) ∧ s6 = .string r ∧ s7 = .string ⟨#[49]⟩ ∧ wr = W0) (fun _ _ s8 _ => r.size - (intOf s8).toNat)
    case atStart => exact ⟨0, Nat.zero_le _, rfl, rfl, rfl, rfl⟩
    case round =>
      obtain ⟨k, hk, rfl, rfl, rfl, rfl⟩ := hrel
      have hlt : k < r.size := by omega
      by_cases hku : k < ul
      · have hne := HU.out k hlt hku
        have hz : ((r[k].toNat : Int) == 47) = false := by rw [beq_eq_false_iff_ne]; omega
        clear hne
        go_wp2_with fail
        go_roundw
        case rel => exact ⟨k + 1, by omega, by go_num, rfl, rfl, trivial⟩
        case measure => simp [intOf]; omega
      · obtain rfl : k = ul := by omega
        have he := HD.out k hlt rfl
        have hz : ((r[k].toNat : Int) == 47) = true := by simp [he]
        have hk0 : (0 : Int) ≤ (k : Int) := by omega
        have hk1 : (k : Int) ≤ (r.size : Int) := by omega
        have hk3 : (0 : Int) ≤ (k : Int) + 1 := by omega
        have hk4 : (k : Int) + 1 ≤ (r.size : Int) := by omega
        have hk5 : ((k : Int) + 1).toNat = k + 1 := by omega
        clear he HU HD hrs
        by_cases hg1 : goodD (upL l) = true
        · rw [if_pos hg1] at q1
          have m1 := Lib.hid q1
          by_cases hg2 : goodD sl = true
          · rw [if_pos hg2] at q2
            have m2 := Lib.hid q2
            by_cases hdn : denL l = 0
            · have m3 := Lib.hid (HM.out hg1 hg2 hdn)
              have HRES := Lib.hid (HN.out (fun h => h.2.1 hdn))
              clear hg1 hg2 hdn q1 q2 HRD HRN HN HY HM HK HS HS2
              generalize natS (dval (upL l)) = tn at *
              generalize natS (denL l) = td at *
              go_wp2_with fail
              refine (m1.out _).mono ?_
              rintro e w1 ⟨rfl, hb1⟩
              replace hB := below_then hB hb1
              replace hkr := hkr.belowK hb1
              clear hb1
              go_wp2_with fail
              refine (m2.out _).mono ?_
              rintro e w2 ⟨rfl, hb2⟩
              replace hB := below_then hB hb2
              replace hkr := hkr.belowK hb2
              clear hb2
              go_wp2_with fail
              refine (m3.out _).mono ?_
              rintro e w3 ⟨rfl, hb3⟩
              replace hB := below_then hB hb3
              replace hkr := hkr.belowK hb3
              clear hb3
              have hlt := hkr.lt
              obtain ⟨chkr0, chkr1, chkr2⟩ := cells3 hkr (Below.refl _ _)
              obtain ⟨fhkr0, fhkr1, fhkr2⟩ := free3 hkr (Below.refl _ _)
              go_wp2_with fail
              refine bodyPost_ret (results_rat2 rfl rfl ((hkr.put3 _ _ _).alloc _) rfl) rfl ?_
              exact ⟨by rw [HRES.out]; rfl, below_al (below_put3 hB (by omega) _ _ _) _⟩
            · obtain ⟨rg, ra, rb, z1, z2, q3, hfe, hft⟩ := HK.out hg1 hg2 hdn
              have m3 := Lib.hid q3
              have m4 := Lib.hid (fun W : World => rText_q rg ra rb W (by omega) (by omega))
              have HFE := Lib.hid hfe
              have HFT := Lib.hid hft
              have HRD' := Lib.hid (HRD.out hg1 hg2)
              clear hg1 hg2 hdn q1 q2 q3 hfe hft HRD HRN HM HK
              generalize natS (dval (upL l)) = tn at *
              generalize natS (denL l) = td at *
              go_wp2_with fail
              refine (m1.out _).mono ?_
              rintro e w1 ⟨rfl, hb1⟩
              replace hB := below_then hB hb1
              replace hkr := hkr.belowK hb1
              clear hb1
              go_wp2_with fail
              refine (m2.out _).mono ?_
              rintro e w2 ⟨rfl, hb2⟩
              replace hB := below_then hB hb2
              replace hkr := hkr.belowK hb2
              clear hb2
              go_wp2_with fail
              refine (m3.out _).mono ?_
              rintro e w3 ⟨rfl, hb3⟩
              replace hB := below_then hB hb3
              replace hkr := hkr.belowK hb3
              clear hb3
              have hlt := hkr.lt
              go_wp2_with fail
              refine (m4.out _).mono ?_
              rintro e w4 ⟨rfl, hb4⟩
              have hle := hB.size
              have hka := (Blk.new w3 _ _).belowK hb4
              replace hkr := (hkr.alloc _).belowK hb4
              replace hB := below_then (below_al hB _) hb4
              clear hb4
              obtain ⟨chka0, chka1, chka2⟩ := cells3 hka (Below.refl _ _)
              obtain ⟨chkr0, chkr1, chkr2⟩ := cells3 hkr (Below.refl _ _)
              obtain ⟨fhkr0, fhkr1, fhkr2⟩ := free3 hkr (Below.refl _ _)
              by_cases hf : fineL l
              · have ht := HS.out _ (HFT.out.2 hf)
                have HRES := Lib.hid ((HY.out ⟨HRD'.out, hf⟩).trans (by rw [← HFE.out hf]))
                clear hf HS HS2 HFE HFT HY HN
                go_wp2_with fail
                refine bodyPost_ret (results_rat2 rfl rfl (hkr.put3 _ _ _) rfl) rfl ?_
                exact ⟨by rw [HRES.out]; rfl, below_put3 hB (by omega) _ _ _⟩
              · have ht := HS2.out _ (fun e => hf (HFT.out.1 e))
                have HRES := Lib.hid (HN.out (fun h => hf h.2))
                clear hf HS HS2 HFE HFT HY HN
                go_wp2_with fail
                refine bodyPost_ret (results_rat2 rfl rfl (hkr.put3 _ _ _) rfl) rfl ?_
                exact ⟨by rw [HRES.out]; rfl, below_put3 hB (by omega) _ _ _⟩
          · rw [if_neg hg2] at q2
            have m2 := Lib.hid q2
            have HRES := Lib.hid (HN.out (fun h => hg2 (HRN.out h.1).2))
            clear hg1 hg2 q1 q2 HRD HRN HN HY HM HK HS HS2
            generalize natS (dval (upL l)) = tn at *
            go_wp2_with fail
            refine (m1.out _).mono ?_
            rintro e w1 ⟨rfl, hb1⟩
            replace hB := below_then hB hb1
            replace hkr := hkr.belowK hb1
            clear hb1
            go_wp2_with fail
            refine (m2.out _).mono ?_
            rintro e w2 ⟨rfl, hb2⟩
            replace hB := below_then hB hb2
            replace hkr := hkr.belowK hb2
            clear hb2
            obtain ⟨chkr0, chkr1, chkr2⟩ := cells3 hkr (Below.refl _ _)
            obtain ⟨fhkr0, fhkr1, fhkr2⟩ := free3 hkr (Below.refl _ _)
            go_wp2_with fail
            refine bodyPost_ret (results_rat2 rfl rfl (hkr.put3 _ _ _) rfl) rfl ?_
            exact ⟨by rw [HRES.out]; rfl, below_put3 hB (by omega) _ _ _⟩
        · rw [if_neg hg1] at q1
          have m1 := Lib.hid q1
          obtain ⟨y, b, hyb⟩ : ∃ (y : ByteArray) (b : Bool), (if goodD sl = true then Value.tuple #[.string (natS (denL l)), .bool true] else Value.tuple #[.string ⟨#[]⟩, .bool false]) = .tuple #[.string y, .bool b] := by
            split
            · exact ⟨_, _, rfl⟩
            · exact ⟨_, _, rfl⟩
          rw [hyb] at q2
          have m2 := Lib.hid q2
          have HRES := Lib.hid (HN.out (fun h => hg1 (HRN.out h.1).1))
          clear hg1 hyb q1 q2 HRD HRN HN HY HM HK HS HS2
          go_wp2_with fail
          refine (m1.out _).mono ?_
          rintro e w1 ⟨rfl, hb1⟩
          replace hB := below_then hB hb1
          replace hkr := hkr.belowK hb1
          clear hb1
          go_wp2_with fail
          refine (m2.out _).mono ?_
          rintro e w2 ⟨rfl, hb2⟩
          replace hB := below_then hB hb2
          replace hkr := hkr.belowK hb2
          clear hb2
          obtain ⟨chkr0, chkr1, chkr2⟩ := cells3 hkr (Below.refl _ _)
          obtain ⟨fhkr0, fhkr1, fhkr2⟩ := free3 hkr (Below.refl _ _)
          go_wp2_with fail
          refine bodyPost_ret (results_rat2 rfl rfl (hkr.put3 _ _ _) rfl) rfl ?_
          exact ⟨by rw [HRES.out]; rfl, below_put3 hB (by omega) _ _ _⟩

end Go.Proofs.YtikdkhmeaoafmaaGreatDoor
