/- The law RatioTexts: it returns true. -/
import Derived.Test.YtikdkhmeaoafmaaGreatDoorRatLawA
namespace Go.Proofs.YtikdkhmeaoafmaaGreatDoor
open Go.RowKit

theorem parse_text (x : Rat) : parseQ (textQ x) = .tuple #[ratV x, .bool true] := by
  obtain ⟨h1, h2, h3⟩ := textL_reads (negB x) x.num.natAbs x.den
  obtain ⟨t1, _, _⟩ := parts_textL (negB x) x.num.natAbs x.den
  have hd : decide ((textQ x).head? = some 45) = negB x := by
    cases e : negB x
    · rw [decide_eq_false]; intro h; have := t1.1 h; rw [e] at this; cases this
    · rw [decide_eq_true]; exact t1.2 e
  have hd' : decide ((textL (negB x) x.num.natAbs x.den).head? = some 45) = negB x := hd
  have hf : fineL (textQ x) := (text_iff h1 (by rw [h3]; exact x.den_nz)).1 (by
    rw [hd', h2, h3, num_signed, Rat.mkRat_self]; rfl)
  refine (if_pos ⟨h1, hf⟩).trans ?_
  rw [hd]
  show Value.tuple #[ratW (negB x) (natS (dval (upL (textL (negB x) x.num.natAbs x.den)))) (natS (denL (textL (negB x) x.num.natAbs x.den))), .bool true] = _
  rw [h2, h3]
  rfl
theorem parse_words (s : ByteArray) (hs : s.size ≤ 300) : ∃ (g : Bool) (a b : ByteArray) (f : Bool), Ret 14 #[.string s] (.tuple #[ratW g a b, .bool f]) ∧ Ret 16 #[.string s] (.tuple #[ratW g a b, .bool f]) := by
  have p1 := Parse_q s hs
  have p2 := rParse_q s hs
  unfold parseQ at p1 p2
  by_cases h : readsL s.data.toList ∧ fineL s.data.toList
  · rw [if_pos h] at p1 p2
    exact ⟨_, _, _, _, p1, p2⟩
  · rw [if_neg h] at p1 p2
    exact ⟨false, ⟨#[]⟩, ⟨#[]⟩, false, p1, p2⟩
theorem run_one (W : World) (k b : Nat) (hb : b < 256) (h : W.cell? ⟨k, 0, none⟩ = some (.int .u8 (b : Int))) : (convert 33 9 (.slice (some ⟨k, 0, none⟩) 1 1)).run Tryz.prog W = .ok (.string ⟨#[UInt8.ofNat b]⟩) W := by
  have h : BDg W (some ⟨k, 0, none⟩) 1 1 [UInt8.ofNat b] := by
    refine ⟨rfl, Nat.le_refl _, fun _ => ⟨_, _, rfl, fun j e he => ?_⟩⟩
    cases j with
    | zero =>
      obtain rfl := Option.some.inj he
      rw [byte_toNat hb]
      exact h
    | succ j => simp at he
  exact run_bdg_str h
theorem text_size {x : Rat} {g : Bool} {a b : ByteArray} (e : ratV x = ratW g a b) (ha : a.size ≤ 20) (hb : b.size ≤ 20) : 0 < (textS x).size ∧ (textS x).size ≤ 124 := by
  unfold ratV at e
  simp only [Value.agg.injEq, Array.mk.injEq, List.cons.injEq, Value.bool.injEq, Value.string.injEq, and_true] at e
  have v1 : sval a = x.num.natAbs := by rw [← e.2.1, sval_natS]
  have v2 : sval b = x.den := by rw [← e.2.2, sval_natS]
  have l1 := decS_size ha v1
  have l2 := decS_size hb v2
  have l0 : 0 < (decS x.num.natAbs).size := by
    have := List.length_pos_iff.2 (dec_ne x.num.natAbs)
    show 0 < (Lib.decDigits x.num.natAbs).toArray.size
    simpa using this
  have q1 : ({ data := #[45] } : ByteArray).size = 1 := rfl
  have q2 : ({ data := #[47] } : ByteArray).size = 1 := rfl
  have q3 : ({ data := #[] } : ByteArray).size = 0 := rfl
  rw [text_parts]
  split <;> split <;> simp only [ByteArray.size_append, q1, q2, q3] <;> omega
/-- Strings of an array that the call has made, named. -/
theorem strs3 {P : Program} {code : Code} {Q : Exit → Act → World → Prop} {act : Act} {W : World} {t : TypeId} {cells : Array Value} (ss : List ByteArray) (hc : cells = (ss.map Value.string).toArray) (hk : ss.length = 3) (hs : ∀ v ∈ ss, v.size ≤ 300)
    (h : ∀ (w5 : World) (tt : List ByteArray), tt.length = 3 → (∀ v ∈ tt, v.size ≤ 300) → Blk w5 W.heap.size t (strA tt) → Below W.heap.size W w5 → code.wp P Q act w5) :
    code.wp P Q act (W.alloc (.cells cells t)) := by
  subst hc
  exact h _ ss hk hs (Blk.new _ _ _) (below_al (Below.refl _ _) _)

set_option maxRecDepth 100000 in
set_option maxHeartbeats 4000000 in
theorem RatioTexts_any (x0 x1 x2 : Int) (raw : ByteArray) (y0 y1 : Int) (w : World) (ht : Pow10 w) (hr : raw.size ≤ 9223372036854775807) :
    Calls Tryz.prog 3 #[.agg #[.int .i64 x0, .int .i64 x1, .int .i64 x2], .string raw, .agg #[.int .i64 y0, .int .i64 y1]] w fun e w' => e = .returned (.bool true) ∧ Below w.heap.size w w' := by
  have HT := Lib.hid ht
  clear ht
  obtain ⟨X, g1, a1, b1, hx, e1, o1, s1, s2, p1⟩ := made_words x0 x1 x2
  obtain ⟨ts, hts⟩ : ∃ ts, textS X = ts := ⟨_, rfl⟩
  have hsz := text_size e1 s1 s2
  rw [hts] at hsz
  obtain ⟨hz0, hz1⟩ := hsz
  have p2 := fun (W : World) (h : Pow10 W) => Text_q g1 a1 b1 W (by omega) (by omega) h
  have p3 := fun (W : World) => rText_q g1 a1 b1 W (by omega) (by omega)
  rw [o1, hts] at p2 p3
  have p4 := Parse_q ts (by omega)
  rw [← hts, show (textS X).data.toList = textQ X from bytes_of _, parse_text, e1, hts] at p4
  obtain ⟨r, p5, l5, u5⟩ := mod_int y0 (m := (ts.size : Int)) (by omega) (by omega)
  obtain ⟨kk, rfl⟩ := Int.eq_ofNat_of_zero_le l5
  obtain ⟨bb, hbb, hb2⟩ : ∃ bb : Nat, IntKind.u8.wrap y1 = (bb : Int) ∧ bb < 256 := ⟨(y1 % 256).toNat, by rw [u8_wrap]; omega, by omega⟩
  have c1 := Lib.hid p1
  have c2 := Lib.hid p2
  have c3 := Lib.hid p3
  have c4 := Lib.hid p4
  have c5 := Lib.hid p5
  have hkk : kk < ts.size := by omega
  clear p1 p2 p3 p4 p5 e1 o1 hx hts u5 l5
  have hz : ((ts.size : Int) == 0) = false := by rw [beq_eq_false_iff_ne]; omega
  have heq : ∀ s : ByteArray, (s.toList == s.toList) = true := fun s => by simp
  go_enter Tryz.func3, Tryz.ntmps3
  go_upto_region 1 with fail
  obtain ⟨W0, hW0, hkx, hky, hB⟩ : ∃ W0 : World, (w.alloc (.cells #[.int .i64 x0, .int .i64 x1, .int .i64 x2] 22)).alloc (.cells #[.int .i64 y0, .int .i64 y1] 23) = W0 ∧ Blk W0 w.heap.size 22 #[.int .i64 x0, .int .i64 x1, .int .i64 x2] ∧ Blk W0 (w.heap.size + 1) 23 #[.int .i64 y0, .int .i64 y1] ∧ Below w.heap.size w W0 :=
    ⟨_, rfl, (Blk.new _ _ _).alloc _, Blk.new2 _ _ _ _, below_al (below_al (Below.refl _ _) _) _⟩
  rw [hW0]
  clear hW0
  go_upto_region 2 with (first
    | (go_at_call 10; (with_reducible refine (sanity_q _ (HT.out.below hB)).mono ?_); rintro e w' ⟨rfl, hb'⟩; replace hB := below_then hB hb'; replace hkx := hkx.belowK hb'; replace hky := hky.belowK hb'; clear hb'))
  obtain ⟨chkx0, chkx1, chkx2⟩ := cells3 hkx (Below.refl _ _)
  go_upto_region 3 with (first
    | (go_at_call 11; (with_reducible refine (c1.out _).mono ?_); rintro e w' ⟨rfl, hb'⟩; replace hB := below_then hB hb'; replace hkx := hkx.belowK hb'; replace hky := hky.belowK hb'; clear hb'))
  clear chkx0 chkx1 chkx2
  replace hkx := hkx.alloc (.cells #[.bool g1, .string a1, .string b1] 27)
  replace hky := hky.alloc (.cells #[.bool g1, .string a1, .string b1] 27)
  have hka := Blk.new w' 27 #[.bool g1, .string a1, .string b1]
  replace hB := below_al hB (.cells #[.bool g1, .string a1, .string b1] 27)
  generalize w'.alloc (.cells #[.bool g1, .string a1, .string b1] 27) = wa at hB hkx hky hka ⊢
  generalize w'.heap.size = khka at hka ⊢
  obtain ⟨chka0, chka1, chka2⟩ := cells3 hka (Below.refl _ _)
  go_upto_region 4 with (first
    | (go_at_call 12; (with_reducible refine (c2.out _ (HT.out.below hB)).mono ?_); rintro e w' ⟨rfl, hb'⟩; replace hB := below_then hB hb'; replace hka := hka.belowK hb'; replace hky := hky.belowK hb'; clear hb'))
  clear chka0 chka1 chka2
  obtain ⟨chka0, chka1, chka2⟩ := cells3 hka (Below.refl _ _)
  go_upto_region 6 with (first
    | (go_at_call 13; (with_reducible refine (c3.out _).mono ?_); rintro e w' ⟨rfl, hb'⟩; replace hB := below_then hB hb'; replace hka := hka.belowK hb'; replace hky := hky.belowK hb'; clear hb'))
  clear chka0 chka1 chka2
  go_upto_region 7 with (first
    | (go_at_call 14; (with_reducible refine (c4.out _).mono ?_); rintro e w' ⟨rfl, hb'⟩; replace hB := below_then hB hb'; replace hka := hka.belowK hb'; replace hky := hky.belowK hb'; clear hb'))
  replace hka := hka.alloc (.cells #[.bool g1, .string a1, .string b1] 27)
  replace hky := hky.alloc (.cells #[.bool g1, .string a1, .string b1] 27)
  have hkb := Blk.new w' 27 #[.bool g1, .string a1, .string b1]
  replace hB := below_al hB (.cells #[.bool g1, .string a1, .string b1] 27)
  generalize w'.alloc (.cells #[.bool g1, .string a1, .string b1] 27) = wb at hB hka hky hkb ⊢
  generalize w'.heap.size = khkb at hkb ⊢
  obtain ⟨hy0, hy1⟩ := hky.kept2 (Below.refl _ _)
  go_upto_region 8 with (first
    | (go_at_call 15; (with_reducible refine (c5.out _).mono ?_); rintro e w' ⟨rfl, hb'⟩; replace hB := below_then hB hb'; replace hka := hka.belowK hb'; replace hkb := hkb.belowK hb'; replace hky := hky.belowK hb'; clear hb'))
  clear hy0 hy1
  obtain ⟨hy0, hy1⟩ := hky.kept2 (Below.refl _ _)
  obtain ⟨mr, hmr⟩ : ∃ mr, mr = min raw.size 40 := ⟨_, rfl⟩
  have h1 : min (raw.size : Int) 40 = (mr : Int) := by omega
  have h2 : mr ≤ raw.size := by omega
  have h3 : mr ≤ 40 := by omega
  have h4 : (0 : Int) ≤ (mr : Int) := by omega
  have h5 : (mr : Int) ≤ (raw.size : Int) := by omega
  have h6 : (0 : Int) ≤ (kk : Int) := by omega
  have h7 : (kk : Int) ≤ (ts.size : Int) := by omega
  have h8 : IntKind.i64.wrap ((kk : Int) + 1) = (kk : Int) + 1 := IntWalk.i64_in _ (by omega)
  have h9 : (0 : Int) ≤ (kk : Int) + 1 := by omega
  have h10 : (kk : Int) + 1 ≤ (ts.size : Int) := by omega
  have h11 : ((kk : Int) + 1).toNat = kk + 1 := by omega
  have h12 : min kk ts.size = kk := by omega
  have h13 : ¬ 9223372036854775807 < kk + 1 := by omega
  have h14 : ¬ 9223372036854775807 < kk + 1 + (ts.size - (kk + 1)) := by omega
  have h15 : ¬ 9223372036854775807 < 1 + ts.size := by omega
  have hlt := hky.lt
  have hcv := fun (W : World) (k : Nat) (h : W.cell? ⟨k, 0, none⟩ = some (.int .u8 (bb : Int))) => run_one W k bb hb2 h
  have Q0 : Hid ((raw.extract 0 mr).size ≤ 300) := Lib.hid (by rw [ByteArray.size_extract]; omega)
  have Q1 : Hid ((ts.extract 0 kk ++ { data := #[UInt8.ofNat bb] } ++ ts.extract (kk + 1) ts.size).size ≤ 300) := Lib.hid (by
    rw [ByteArray.size_append, ByteArray.size_append, ByteArray.size_extract, ByteArray.size_extract]
    show _ + 1 + _ ≤ 300
    omega)
  have Q2 : Hid (({ data := #[48] } ++ ts : ByteArray).size ≤ 300) := Lib.hid (by
    rw [ByteArray.size_append]
    show 1 + _ ≤ 300
    omega)
  clear hmr
  go_cut [13] (fun s wx => ∃ (k : Nat) (tt : List ByteArray), s = .pointer (some ⟨k, 0, none⟩) ∧ Blk wx k 34 (strA tt) ∧ tt.length = 3 ∧ Hid (∀ v ∈ tt, v.size ≤ 300) ∧ Below w'.heap.size w' wx)
  case first =>
    go_region
    all_goals go_wp2_with fail
    all_goals go_meet
    all_goals
      have hq : Hid (∀ v ∈ [raw.extract 0 mr, ts.extract 0 kk ++ { data := #[UInt8.ofNat bb] } ++ ts.extract (kk + 1) ts.size, { data := #[48] } ++ ts], v.size ≤ 300) := Lib.hid (fun v hv => by
        simp only [List.mem_cons, List.not_mem_nil, or_false] at hv
        rcases hv with rfl | rfl | rfl
        · exact Q0.out
        · exact Q1.out
        · exact Q2.out)
      first
        | exact ⟨_, [_, _, _], rfl, Blk.new2 w' _ _ _, rfl, hq, (below_al (below_al (Below.refl _ _) _) _).drew⟩
        | exact ⟨_, [_, _, _], rfl, (Blk.new w' _ _).alloc _, rfl, hq, (below_al (below_al (Below.refl _ _) _) _).drew⟩
  obtain ⟨k5, tt, rfl, hks, htl, HTS, hcb⟩ := hcut
  replace hB := below_then hB hcb
  replace hka := hka.belowK hcb
  replace hkb := hkb.belowK hcb
  clear hcb h1 h2 h3 h4 h5 h6 h7 h8 h9 h10 h11 h12 h13 h14 h15 hlt hcv hy0 hy1 hkx hky c1 c2 c3 c4 c5 Q0 Q1 Q2
  go_wp2_with fail
  go_loopw [14, 15, 16, 17, 18] (fun s14 _ _ _ _ wr => ∃ k : Nat, k ≤ 3 ∧ s14 = .int .i64 (k : Int) ∧ Below wc.heap.size wc wr) (fun s14 _ _ _ _ _ => 3 - (intOf s14).toNat)
  case atStart => exact ⟨0, Nat.zero_le _, rfl, Below.refl _ _⟩
  case round =>
    obtain ⟨k, hk, rfl, hbw⟩ := hrel
    by_cases hlt : k < 3
    · obtain ⟨s, hs⟩ : ∃ s, tt[k]? = some s := ⟨_, List.getElem?_eq_getElem (by omega)⟩
      have c0 := (hks.belowK hbw).strg hs
      have hss := HTS.out s (List.mem_of_getElem? hs)
      obtain ⟨g, a, b, f, p1, p2⟩ := parse_words s hss
      have m1 := Lib.hid p1
      have m2 := Lib.hid p2
      clear p1 p2 hss hs
      have hj0 : (0 : Int) ≤ (k : Int) := by omega
      have hj1 : (k : Int) < 3 := by omega
      have hgt := block_lt_of_cell c0
      go_wp2_with fail
      refine (m1.out _).mono ?_
      rintro e v1 ⟨rfl, hz1⟩
      have hkx := Blk.new v1 27 #[.bool g, .string a, .string b]
      replace c0 := (hz1.cell (p := ⟨k5, k, none⟩) hgt).trans c0
      replace hgt := block_lt_of_cell c0
      replace hbw := below_al (below_then hbw hz1) (.cells #[.bool g, .string a, .string b] 27)
      clear hz1
      replace c0 := (Below.cell (p := ⟨k5, k, none⟩) (below_al (Below.refl _ v1) (.cells #[.bool g, .string a, .string b] 27)) hgt).trans c0
      go_upto_region 13 with fail
      generalize v1.alloc (.cells #[.bool g, .string a, .string b] 27) = v2 at hkx hbw c0 ⊢
      generalize v1.heap.size = kx at hkx ⊢
      go_wp2_with fail
      refine (m2.out _).mono ?_
      rintro e v3 ⟨rfl, hz1⟩
      replace hkx := (hkx.belowK hz1).alloc (.cells #[.bool g, .string a, .string b] 27)
      have hky := Blk.new v3 27 #[.bool g, .string a, .string b]
      replace hbw := below_al (below_then hbw hz1) (.cells #[.bool g, .string a, .string b] 27)
      clear hz1 c0
      go_upto_region 14 with fail
      generalize v3.alloc (.cells #[.bool g, .string a, .string b] 27) = v4 at hkx hky hbw ⊢
      generalize v3.heap.size = ky at hky ⊢
      obtain ⟨chkx0, chkx1, chkx2⟩ := cells3 hkx (Below.refl _ _)
      obtain ⟨chky0, chky1, chky2⟩ := cells3 hky (Below.refl _ _)
      go_wp2_with fail
      go_roundw
      case rel => exact ⟨k + 1, by omega, by go_num, hbw⟩
      case measure => simp [intOf]; omega
    · obtain rfl : k = 3 := by omega
      obtain ⟨chka0, chka1, chka2⟩ := cells3 (hka.belowK hbw) (Below.refl _ _)
      obtain ⟨chkb0, chkb1, chkb2⟩ := cells3 (hkb.belowK hbw) (Below.refl _ _)
      go_wp2_with fail
      go_ret
      exact ⟨rfl, below_then hB hbw⟩

end Go.Proofs.YtikdkhmeaoafmaaGreatDoor
