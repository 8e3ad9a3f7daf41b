/- Joined by a program: LjH, LjF, LjG, LjI. -/
import Derived.Test.YtkpinmejfdnhbaaGreatDoorLwI
set_option maxRecDepth 100000
set_option maxHeartbeats 4000000
namespace Go.Proofs.YtkpinmejfdnhbaaGreatDoor
open Go.RowKit
attribute [local go_sem] Oper.semAt_some
theorem name1r {P : Program} {code : Code} {Q : Exit → Act → World → Prop} {act : Act} {W : World} {t : TypeId} {z cs : Array Value}
 (h : ∀ W' : World, Blk W' W.heap.size t cs → Below W.heap.size W W' → code.wp P Q act W') : code.wp P Q act ((W.alloc (.cells z t)).setRow W.heap.size cs) :=
 h _ ((Blk.new W t z).rowA cs) (below_setRow (below_al (Below.refl _ _) _) (Nat.le_refl _) _)
theorem textLit_q (word : ByteArray) (n B p : Nat) (xs : List Int) (l0 : List UInt8) (cs : Array Value) (hcs : cs = (xs.flatMap encI).toArray) (hw : word.size ≤ 100) (hl0 : l0.length ≤ 1000000) (hn : n ≤ 1000) (hl : xs.length = n) (hI : ∀ x ∈ xs, I64 x) (w : World) (hT : ∀ W', Below B w W' → Tabs W') (hb : IsB B p (Lib.byteCells l0) w) (hBw : B ≤ w.heap.size) :
 Calls Tryz.prog 55 #[.string word, .slice (some ⟨w.heap.size, 0, none⟩) n n, .pointer (some ⟨p, 0, none⟩)] (w.alloc (.cells cs 3)) fun e w' => e = .returned (.tuple #[]) ∧ IsB B p (Lib.byteCells (l0 ++ lineL word.data.toList xs)) w' ∧ Below B w w' ∧ B ≤ w'.heap.size := by
 subst hcs;have ha : Below B w (w.alloc (.cells (xs.flatMap encI).toArray 3)) := (Below.refl B w).alloc hBw _;refine (textLine_q word _ n n B p xs l0 hw hl0 hn hl hI _ (fun W' hb2 => hT W' (ha.trans hb2)) (fun W' _ hk => rowI_new (hk _ _ (Blk.new w 3 _)) hl) (isB_below hb ((Below.refl _ w).alloc (Nat.le_refl _) _)) (Nat.le_trans hBw (by rw [World.size_alloc]; exact Nat.le_succ _))).mono ?_;rintro e w' ⟨rfl, h1, h2, -⟩;exact ⟨rfl, h1, ha.trans h2, Nat.le_trans hBw (ha.trans h2).size⟩
theorem HeaderText_q (x : Hc) (h : Hdr) (hs : HdrSm h) (w : World) (hT : Tabs w) (hi : HdrIn w x h) :
 Calls Tryz.prog 19 #[.agg (hdrA x)] w fun e w' => e = .returned (.string (strB (hdrL h))) ∧ Below w.heap.size w w' := by
 obtain ⟨xe, xm, xc, xp, xl⟩ := x;obtain ⟨h1, ⟨A2, c2, e2, h2⟩, ⟨A3, c3, e3, h3⟩, ⟨A4, c4, vs, e4, h4, h5⟩, ⟨A6, c6, e6, h6⟩⟩ := hi;obtain ⟨he, hm1, hm2, hc1, hc2, hp1, hp2, hp3, hl1, hl2⟩ := hs;obtain ⟨E, ms, cs, ps, ls⟩ := h;dsimp only at *;subst h1 e2 e3 e4 e6;obtain ⟨nm, hnm⟩ : ∃ n, n = ms.length := ⟨_, rfl⟩;obtain ⟨nc, hnc⟩ : ∃ n, n = cs.length := ⟨_, rfl⟩;obtain ⟨np, hnp⟩ : ∃ n, n = ps.length := ⟨_, rfl⟩;obtain ⟨nl, hnl⟩ : ∃ n, n = ls.length := ⟨_, rfl⟩;rw [← hnm] at h2 hm1 ⊢;rw [← hnc] at h3 hc1 ⊢;rw [← hnp] at h4 hp1 ⊢;rw [← hnl] at h6 hl1 ⊢;have HR := Lib.hid (And.intro h2 (And.intro h3 (And.intro h4 (And.intro h5 h6))));have HS := Lib.hid (And.intro hm2 (And.intro hc2 (And.intro hp2 (And.intro hp3 hl2))));have HN := Lib.hid (And.intro hnm (And.intro hnc (And.intro hnp hnl)));have hIe : ∀ y ∈ [xe], I64 y := fun y hy => by obtain rfl := List.mem_singleton.1 hy; exact he
 have HE := Lib.hid hIe;clear h2 h3 h4 h5 h6 hm2 hc2 hp2 hp3 hl2 hnm hnc hnp hnl he hIe;unfold hdrA;go_enter Tryz.func19, Tryz.ntmps19;go_upto_region 1 with fail;refine name1p ?_;intro W0 k1 hB0;obtain ⟨g, hg⟩ := exq w.heap.size;have hgB : w.heap.size ≤ g := Nat.le_of_eq hg.symm;rw [← hg] at k1 ⊢;have hgl := k1.lt;clear hg;go_upto_region 2 with fail;have hb0 := isB_new W0;have hal : Below W0.heap.size W0 (W0.alloc (.cells #[.pointer none, .slice none 0 0] 118)) := below_al (Below.refl _ _) _;have hBz : W0.heap.size ≤ (W0.alloc (.cells #[.pointer none, .slice none 0 0] 118)).heap.size := hal.size;have hTT : ∀ W', Below W0.heap.size W0 W' → Tabs W' := fun W' hb => (hT.below hB0).below hb;have hRR : ∀ W', Below W0.heap.size W0 W' → RowM W' A2 nm c2 ms ∧ RowI W' A3 nc c3 cs ∧ RowV W' A4 np c4 vs ∧ RowsI W' vs ps ∧ RowH W' A6 nl c6 ls := fun W' hb =>
  have hb2 := below_then hB0 hb
  ⟨HR.out.1.below hb2, HR.out.2.1.below hb2, HR.out.2.2.1.below hb2, HR.out.2.2.2.1.below hb2, HR.out.2.2.2.2.below hb2⟩
 have hB2 : ∀ W', Below W0.heap.size W0 W' → Below w.heap.size w W' := fun W' hb => below_then hB0 hb;have hKK : ∀ W', Below W0.heap.size W0 W' → Blk W' g 46 #[.int .i64 xe, .slice A2 nm c2, .slice A3 nc c3, .slice A4 np c4, .slice A6 nl c6] := fun W' hb => k1.below hb hgl;generalize W0.alloc (.cells #[.pointer none, .slice none 0 0] 118) = wq at hb0 hBz hal ⊢;generalize W0.heap.size = B at hb0 hBz hal hTT hRR hB2 hKK hgl ⊢;have HT := Lib.hid hTT;have HQ := Lib.hid hRR;have HW := Lib.hid hB2;have HK := Lib.hid hKK;have a0 : wq.cell? ⟨g, 0, none⟩ = some (.int .i64 xe) := (HK.out wq hal).cell 0;clear hT hTT hRR hB2 hKK HR k1 hB0;go_wp2_with (go_at_call 55; (refine (textLit_q ⟨#[104, 101, 97, 100, 101, 114]⟩ 1 B B [xe] [] _ rfl (by decide) (by simp) (by omega) rfl HE.out wq (fun W' hb => HT.out W' (hal.trans hb)) hb0 hBz).mono ?_); rintro e w1 ⟨rfl, hb1, hbw, hBz1⟩; replace hal := hal.trans hbw; clear hbw a0; have a1 : w1.cell? ⟨g, 1, none⟩ = some (.slice A2 nm c2) := (HK.out w1 hal).cell 1);clear a1;clear hb0 hBz;have hz1 := lineL_len (word := (⟨#[104, 101, 97, 100, 101, 114]⟩ : ByteArray).data.toList) HE.out
 go_loopw [6, 20] (fun _ s20 wr => ∃ (i : Nat) (l : List UInt8), i ≤ nm ∧ s20 = .int .i64 (i : Int) ∧ IsB B B (Lib.byteCells l) wr ∧ l.length ≤ 100 + 100 * i ∧ Hid (l = lineL wHeader [xe] ++ (ms.take i).flatMap memL) ∧ B ≤ wr.heap.size ∧ Below B W0 wr) (fun _ s20 _ => nm - (intOf s20).toNat)
 case atStart => exact ⟨0, _, by omega, rfl, hb1, by rw [List.nil_append]; simp at hz1; exact Nat.le_trans hz1 (by omega), Lib.hid (by simp; rfl), hBz1, hal⟩
 case round =>
  clear hb1 hz1 hBz1 hal;obtain ⟨i, l, hi, rfl, hb, hll, HL, hBz, hB⟩ := hrel
  by_cases hlt : i < nm
  ·have hlt' : (i : Int) < (nm : Int) := by omega
   obtain ⟨b, o, m, rfl, hm, d0, d1, d2⟩ := RowM.get (HQ.out wr hB).1 hlt;have hmi := HS.out.1 m (List.mem_of_getElem? hm);have hIm : ∀ y ∈ [m.id, m.wt, m.pub], I64 y := fun y hy => by
    simp only [List.mem_cons, List.not_mem_nil, or_false] at hy
    rcases hy with rfl | rfl | rfl
    ·exact hmi.1
    ·exact hmi.2.1
    ·exact hmi.2.2
   have HI := Lib.hid hIm;have hz5 := lineL_len (word := (⟨#[109, 101, 109, 98, 101, 114]⟩ : ByteArray).data.toList) hIm;have hz5' : (lineL (⟨#[109, 101, 109, 98, 101, 114]⟩ : ByteArray).data.toList [m.id, m.wt, m.pub]).length ≤ 100 := Nat.le_trans hz5 (by simp)
   have HL2 : Hid (l ++ lineL (⟨#[109, 101, 109, 98, 101, 114]⟩ : ByteArray).data.toList [m.id, m.wt, m.pub] = lineL wHeader [xe] ++ (ms.take (i + 1)).flatMap memL) := Lib.hid (by
    rw [flatMap_take memL hm, HL.out, List.append_assoc]; rfl)
   clear hm hmi hIm hz5;go_upto_region 7 with fail;refine name1p ?_;intro W1 k6 hb6;replace hb := isB_below hb hb6;replace hB := hB.trans (hb6.mono hBz);replace hBz := Nat.le_trans hBz hb6.size;have e0 := k6.cell 0;have e1 := k6.cell 1;have e2 := k6.cell 2;clear d0 d1 d2 hb6;go_wp2_with (go_at_call 55; (refine (textLit_q ⟨#[109, 101, 109, 98, 101, 114]⟩ 3 B B [m.id, m.wt, m.pub] l _ rfl (by decide) (by omega) (by omega) rfl HI.out W1 (fun W' hb => HT.out W' (hB.trans hb)) hb hBz).mono ?_); rintro e w1 ⟨rfl, hb1, hbw, hBz1⟩; replace hB := hB.trans hbw; clear hbw k6 e0 e1 e2);go_roundw
   case rel => exact ⟨i + 1, _, by omega, by go_num, hb1, by rw [List.length_append]; omega, HL2, hBz1, hB⟩
   case measure => simp [intOf]; omega
  ·obtain rfl : nm = i := by omega
   have hHT : Hid (l = lineL wHeader [xe] ++ ms.flatMap memL) := Lib.hid (by rw [HL.out, List.take_of_length_le (by have := HN.out.1; omega)]);have a3 : wr.cell? ⟨g, 3, none⟩ = some (.slice A4 np c4) := (HK.out wr hB).cell 3;clear HL;go_wp2_with fail;clear a3
   go_loopw [8, 38] (fun _ s38 wr => ∃ (i : Nat) (u : List UInt8), i ≤ np ∧ s38 = .int .i64 (i : Int) ∧ IsB B B (Lib.byteCells u) wr ∧ u.length ≤ 3000 + 3000 * i ∧ Hid (u = lineL wHeader [xe] ++ (ms.flatMap memL ++ (ps.take i).flatMap (lineL wPoints))) ∧ B ≤ wr.heap.size ∧ Below B W0 wr) (fun _ s38 _ => np - (intOf s38).toNat)
   case atStart => exact ⟨0, l, by omega, rfl, hb, by omega, Lib.hid (by rw [hHT.out]; simp), hBz, hB⟩
   case round =>
    clear hb hBz hB hHT hll;obtain ⟨i, u, hi, rfl, hb, hll, HU, hBz, hB⟩ := hrel
    by_cases hlt : i < np
    ·have hlt' : (i : Int) < (np : Int) := by omega
     obtain ⟨b, o, v, rfl, hv, cv⟩ := RowV.get (HQ.out wr hB).2.2.1 hlt;have hil : i < ps.length := by have := HN.out.2.2.1; omega
     have hls : ps[i]? = some ps[i] := List.getElem?_eq_getElem hil;obtain ⟨A7, c7, rfl, hr7⟩ := (HQ.out wr hB).2.2.2.1.one i v _ hv hls
     have HR7 : Hid (∀ W', Below B W0 W' → RowI W' A7 (ps[i]).length c7 ps[i]) := Lib.hid (fun W' hb => by
      obtain ⟨A', c', e', hr'⟩ := (HQ.out W' hb).2.2.2.1.one i _ _ hv hls
      cases e'
      exact hr')
     have hmem := List.getElem_mem hil;have h71 := HS.out.2.2.1 _ hmem;have h72 := HS.out.2.2.2.1 _ hmem;have HX := Lib.hid hls;generalize ps[i] = l at *;obtain ⟨n7, hn7⟩ : ∃ n, n = l.length := ⟨_, rfl⟩;rw [← hn7] at hr7 cv h71 HR7;have hz5 := lineL_len (word := (⟨#[112, 111, 105, 110, 116, 115]⟩ : ByteArray).data.toList) h72;rw [← hn7] at hz5;have hz5' : (lineL (⟨#[112, 111, 105, 110, 116, 115]⟩ : ByteArray).data.toList l).length ≤ 3000 := Nat.le_trans hz5 (by simp; omega)
     have HL2 : Hid (u ++ lineL (⟨#[112, 111, 105, 110, 116, 115]⟩ : ByteArray).data.toList l = lineL wHeader [xe] ++ (ms.flatMap memL ++ (ps.take (i + 1)).flatMap (lineL wPoints))) := Lib.hid (by
      rw [flatMap_take (lineL wPoints) HX.out, HU.out]
      simp only [List.append_assoc]; rfl)
     have HI := Lib.hid (And.intro h72 hn7.symm);clear hv hls hmem h72 hz5 hr7 hn7;go_wp2_with (go_at_call 55; (refine (textLine_q ⟨#[112, 111, 105, 110, 116, 115]⟩ A7 n7 c7 B B l u (by decide) (by omega) (by omega) HI.out.2 HI.out.1 wr (fun W' hb => HT.out W' (hB.trans hb)) (fun W' hb _ => HR7.out W' (hB.trans hb)) hb hBz).mono ?_); rintro e w1 ⟨rfl, hb1, hbw, -⟩; replace hB := hB.trans hbw; replace hBz := Nat.le_trans hBz hbw.size; clear hbw cv HR7);go_roundw
     case rel => exact ⟨i + 1, _, by omega, by go_num, hb1, by rw [List.length_append]; omega, HL2, hBz, hB⟩
     case measure => simp [intOf]; omega
    ·obtain rfl : np = i := by omega
     have hHU : Hid (u = lineL wHeader [xe] ++ (ms.flatMap memL ++ ps.flatMap (lineL wPoints))) := Lib.hid (by rw [HU.out, List.take_of_length_le (by have := HN.out.2.2.1; omega)]);clear HU;have a2 : wr.cell? ⟨g, 2, none⟩ = some (.slice A3 nc c3) := (HK.out wr hB).cell 2;have hz4 := lineL_len (word := (⟨#[107, 101, 121, 115]⟩ : ByteArray).data.toList) HS.out.2.1;rw [← HN.out.2.1] at hz4;have hz4' : (lineL (⟨#[107, 101, 121, 115]⟩ : ByteArray).data.toList cs).length ≤ 3000 := Nat.le_trans hz4 (by simp; omega);clear hz4;go_wp2_with (go_at_call 55; (refine (textLine_q ⟨#[107, 101, 121, 115]⟩ A3 nc c3 B B cs u (by decide) (by omega) (by omega) HN.out.2.1.symm HS.out.2.1 wr (fun W' hb => HT.out W' (hB.trans hb)) (fun W' hb _ => (HQ.out W' (hB.trans hb)).2.1) hb hBz).mono ?_); rintro e w1 ⟨rfl, hb1, hbw, -⟩; replace hB := hB.trans hbw; replace hBz := Nat.le_trans hBz hbw.size; clear hbw a2; have a4 : w1.cell? ⟨g, 4, none⟩ = some (.slice A6 nl c6) := (HK.out w1 hB).cell 4);clear a4
     go_loopw [10, 54] (fun _ s54 wr => ∃ (i : Nat) (l : List UInt8), i ≤ nl ∧ s54 = .int .i64 (i : Int) ∧ IsB B B (Lib.byteCells l) wr ∧ l.length ≤ 400000 + 100 * i ∧ Hid (l = (lineL wHeader [xe] ++ (ms.flatMap memL ++ ps.flatMap (lineL wPoints))) ++ lineL wKeys cs ++ (ls.take i).flatMap linkL) ∧ B ≤ wr.heap.size ∧ Below B W0 wr) (fun _ s54 _ => nl - (intOf s54).toNat)
     case atStart => exact ⟨0, _, by omega, rfl, hb1, by rw [List.length_append]; omega, Lib.hid (by rw [hHU.out]; simp; rfl), hBz, hB⟩
     case round =>
      clear hb1 hBz hB hHU hll hz4';obtain ⟨i, l, hi, rfl, hb, hll, HL, hBz, hB⟩ := hrel
      by_cases hlt : i < nl
      ·have hlt' : (i : Int) < (nl : Int) := by omega
       obtain ⟨b, o, x, rfl, hx, hrg⟩ := rowH_range (HQ.out wr hB).2.2.2.2 hlt;have hx32 := HS.out.2.2.2.2 x (List.mem_of_getElem? hx);replace hrg := hrg hx32;have p5 := Lib.hid (Text_h x hx32);have hz5 : (strB (hexL x)).size = 64 := by rw [strB_size, hexL_len, hx32]
       have HX := Lib.hid hx32;obtain ⟨s5, hs5⟩ : ∃ s, s = strB (hexL x) := ⟨_, rfl⟩;rw [← hs5] at hz5 p5;obtain ⟨t5, ht5⟩ : ∃ t5 : ByteArray, ((⟨#[108, 105, 110, 107, 32]⟩ : ByteArray) ++ s5) ++ (⟨#[10]⟩ : ByteArray) = t5 := ⟨_, rfl⟩;have z6 : t5.size = 5 + s5.size + 1 := by rw [← ht5, ByteArray.size_append, ByteArray.size_append]; rfl
       have n2 : (9223372036854775807 < 5 + s5.size) = False := by simp only [eq_iff_iff, iff_false]; omega
       have n3 : (9223372036854775807 < 5 + s5.size + 1) = False := by simp only [eq_iff_iff, iff_false]; omega
       have L5 : Hid (l ++ t5.data.toList = (lineL wHeader [xe] ++ (ms.flatMap memL ++ ps.flatMap (lineL wPoints))) ++ lineL wKeys cs ++ (ls.take (i + 1)).flatMap linkL) := Lib.hid (by
        rw [flatMap_take linkL hx, ← List.append_assoc, ← HL.out, ← ht5];simp only [ByteArray.data_append, Array.toList_append, hs5, strB_list, List.append_assoc]
        rfl)
       clear hx hs5;have hsz : (u8a x).size = 32 := u8a_len hx32
       go_upto_region 18 with (first
        | (refine wpList_load_mid rfl 38 _ rfl b (o + i * 32) rfl (u8l x) _ hrg Tryz.underlying38 rfl (by rw [u8l_len, HX.out]; exact hash_size) ?_)
        | (refine wpList_store_rowTo rfl 38 _ _ rfl rfl _ (u8a x) rfl rfl _ _ (Blk.new _ _ _) (by rw [hsz]; kernel_rfl) (by rw [hsz]; rfl) (u8a_one _) ?_))
       refine name1r ?_;intro W1 k10 hb10;replace hb := isB_below hb hb10;replace hB := hB.trans (hb10.mono hBz);replace hBz := Nat.le_trans hBz hb10.size;clear hb10 hrg
       go_wp2_with (first
        | (refine wpList_load_row rfl 38 _ rfl _ rfl _ (u8a x) (0, 0) _ k10 Tryz.underlying38 rfl (by rw [hsz]; kernel_rfl) ?_)
        | (go_at_call 59; (with_reducible refine (p5.out _).mono ?_); rintro e w2 ⟨rfl, hb2⟩; replace hb := isB_below hb hb2; replace hB := hB.trans (hb2.mono hBz); replace hBz := Nat.le_trans hBz hb2.size; clear hb2 k10)
        | (go_at_call 56; (try rw [ht5]); (refine (ws_k B B _ t5 _ hb (by rw [Lib.byteCells_length]; omega) hBz).mono ?_); rintro e w3 ⟨rfl, hb3, hb2, -⟩; replace hB := hB.trans hb2; replace hBz := Nat.le_trans hBz hb2.size; clear hb2 hb))
       have hb4 : IsB B B (Lib.byteCells (l ++ t5.data.toList)) w3 := by rw [Lib.byteCells_append]; exact hb3
       clear hb3;go_roundw
       case rel => exact ⟨i + 1, _, by omega, by go_num, hb4, by rw [List.length_append, size_len]; omega, L5, hBz, hB⟩
       case measure => simp [intOf]; omega
      ·obtain rfl : nl = i := by omega
       have hE : Hid (strB (hdrL ⟨xe, ms, cs, ps, ls⟩) = ⟨l.toArray⟩) := Lib.hid (by
        rw [HL.out, List.take_of_length_le (by have := HN.out.2.2.2; omega)];unfold hdrL strB
        simp only [List.append_assoc])
       go_wp2_with (go_at_call 60; (refine (bstr_any B B l _ hb hBz).mono ?_); rintro e w2 ⟨rfl, hb2⟩; replace hB := hB.trans hb2; clear hb2);go_ret;exact ⟨by rw [hE.out]; rfl, HW.out _ hB⟩
end Go.Proofs.YtkpinmejfdnhbaaGreatDoor
namespace Go.Proofs.YtkpinmejfdnhbaaGreatDoor
open Go.RowKit Go.Shelf
attribute [local go_sem] Oper.semAt_some
theorem rHeaderHash_q (x : Hc) (h : Hdr) (hs : HdrSm h) (hz : (hdrL h).length ≤ 1000000) (w : World) (hi : HdrIn w x h) :
 Calls Tryz.prog 41 #[.agg (hdrA x)] w fun e w' => e = .returned (.agg (u8a (shaS (hdrL h)))) ∧ Below w.heap.size w w' := by
 have m1 := Lib.hid (fun W h2 => rHeaderText_q x h hs W h2);have m2 := Lib.hid (fun W => rSum_any (strB (hdrL h)) W (by rw [strB_size]; exact hz));rw [strB_list] at m2;obtain ⟨g, hg⟩ := exq (shaS (hdrL h));have hsz : (u8a g).size = 32 := by rw [hg]; exact u8a_len (sha_len _)
 rw [← hg] at m2 ⊢;have HI := Lib.hid hi;clear hg hi;generalize strB (hdrL h) = t at *;unfold hdrA at *;go_enter Tryz.func41, Tryz.ntmps41;go_upto_region 1 with fail;refine name2e #[.int .i64 x.e, x.m, x.c, x.p, x.l] (u8a zero32) rfl rfl ?_;intro W0 k1 k2 hB _;obtain ⟨p, hp⟩ := exq w.heap.size;have hpB : w.heap.size ≤ p := Nat.le_of_eq hp.symm;rw [← hp] at k1 k2 ⊢;clear hp;have a0 : W0.cell? ⟨p, 0, none⟩ = some (.int .i64 x.e) := k1.cell 0;have a1 : W0.cell? ⟨p, 1, none⟩ = some x.m := k1.cell 1;have a2 : W0.cell? ⟨p, 2, none⟩ = some x.c := k1.cell 2;have a3 : W0.cell? ⟨p, 3, none⟩ = some x.p := k1.cell 3;have a4 : W0.cell? ⟨p, 4, none⟩ = some x.l := k1.cell 4
 go_wp2_with (first
  | (go_at_call 40; (with_reducible refine (m1.out _ (HI.out.below hB)).mono ?_); rintro e w1 ⟨rfl, hb⟩; replace k2 := k2.below hb k2.lt; replace hB := below_then hB hb; clear hb)
  | (go_at_call 65; (with_reducible refine (m2.out _).mono ?_); rintro e w2 ⟨rfl, hb⟩; replace k2 := k2.below hb k2.lt; replace hB := below_then hB hb; clear hb)
  | (refine wpList_store_rowTo rfl 38 _ _ rfl rfl _ (u8a g) rfl rfl _ _ k2 (by rw [hsz]; kernel_rfl) (by rw [hsz]; rfl) (u8a_one _) ?_))
 refine bodyPost_ret (results_cell_row (p := 2) (ty := 38) rfl _ _ (p + 1) _ (u8a g) (0, 0) _ rfl (k2.rowA _) Tryz.underlying38 rfl (by rw [hsz]; kernel_rfl)) rfl ?_;exact ⟨rfl, below_setRow hB (by omega) _⟩
def stepsN (n : Nat) : List Nat := (List.range (bitsN n)).map fun i => 2 ^ i
theorem stepsN_len (n : Nat) : (stepsN n).length = bitsN n := by simp [stepsN]
theorem stepsN_get {n i : Nat} (h : i < bitsN n) : (stepsN n)[i]? = some (2 ^ i) := by unfold stepsN; rw [List.getElem?_map, List.getElem?_range h]; rfl
def powI (i : Nat) : Int := if i < 63 then ((2 ^ i : Nat) : Int) else -9223372036854775808
theorem powI_low {i : Nat} (h : i < 63) : powI i = ((2 ^ i : Nat) : Int) := if_pos h
theorem powI_succ {i : Nat} (h : i < 63) : IntKind.i64.wrap (2 * powI i) = powI (i + 1) := by
 rw [powI_low h]
 by_cases h2 : i + 1 < 63
 ·rw [powI_low h2];have h3 := Nat.pow_le_pow_right (n := 2) (by omega) (show i + 1 ≤ 62 by omega);rw [Nat.pow_succ] at h3 ⊢;have h4 : (2 : Nat) ^ 62 = 4611686018427387904 := by decide
  rw [h4] at h3;rw [show (2 : Int) * ((2 ^ i : Nat) : Int) = ((2 ^ i * 2 : Nat) : Int) by rw [Int.natCast_mul]; omega];exact IntWalk.i64_in _ (by omega)
 ·obtain rfl : i = 62 := by omega
  decide
theorem bits_63 {n : Nat} (h : n < 2 ^ 63) : bitsN n ≤ 63 := by
 rcases Nat.lt_or_ge 63 (bitsN n) with h1 | h1
 ·have := bits_le_iff.2 h1; omega
 ·exact h1
def StepsPost (N : Nat) (w : World) (e : Ending) (w' : World) : Prop := ∃ v : Value, e = .returned v ∧ OwnI w.heap.size w' v (intsN (stepsN N)) ∧ Below w.heap.size w w'
theorem range_pow (i : Nat) : (List.range (i + 1)).map (fun j => 2 ^ j) = (List.range i).map (fun j => 2 ^ j) ++ [2 ^ i] := by rw [List.range_succ, List.map_append]; rfl
def pows (i : Nat) : List Nat := (List.range i).map fun j => 2 ^ j
theorem pows_succ (i : Nat) : pows (i + 1) = pows i ++ [2 ^ i] := range_pow i
theorem pows_len (i : Nat) : (pows i).length = i := by simp [pows]
theorem rSteps_q (n : Int) (hn : I64 n) (w : World) : Calls Tryz.prog 43 #[.int .i64 n] w (StepsPost n.toNat w) := by
 obtain ⟨N, hN⟩ := exq n.toNat;have hN63 : N < 2 ^ 63 := by have := hn.2; omega
 have hb63 := bits_63 hN63;have HN := Lib.hid hN;obtain ⟨b, hb⟩ := exq (bitsN N);have HS : Hid (stepsN N = pows b) := Lib.hid (by rw [hb]; rfl);have HB : Hid (∀ i, 2 ^ i ≤ N ↔ i < b) := Lib.hid (fun i => by rw [hb]; exact bits_le_iff);rw [← hN, ];rw [← hb] at hb63;have hB := Below.refl w.heap.size w;clear hN hN63 hb;go_enter Tryz.func43, Tryz.ntmps43;go_wp2_with fail
 go_loopw [3, 4] (fun s3 s4 wr => ∃ i : Nat, i ≤ b ∧ s4 = .int .i64 (powI i) ∧ OwnI w.heap.size wr s3 (intsN (pows i)) ∧ w.heap.size ≤ wr.heap.size ∧ Hid (lenOf s3 = i) ∧ Below w.heap.size w wr) (fun s3 _ _ => 64 - lenOf s3)
 case atStart => exact ⟨0, by omega, rfl, OwnL.nil_ _ _ _ _ _, Nat.le_refl _, Lib.hid rfl, hB⟩
 case round =>
  clear hB;obtain ⟨i, hi, rfl, ho, hcB, hlen, hB⟩ := hrel
  by_cases hlt : i < b
  ·obtain ⟨K, hK⟩ : ∃ K : Nat, K = 2 ^ i := ⟨_, rfl⟩;have hpk : powI i = (K : Int) := by rw [hK]; exact powI_low (by omega)
   have hps := powI_succ (i := i) (by omega);have hKN := (HB.out i).2 hlt;have hK1 := Nat.two_pow_pos i;rw [← hK] at hKN hK1;have g1 : (0 : Int) < (K : Int) := by omega
   have g2 : (K : Int) ≤ n := by have := HN.out; omega
   have HP : Hid (pows (i + 1) = pows i ++ [K]) := Lib.hid (by rw [pows_succ, hK]);rw [hpk] at hps ⊢;obtain ⟨z, hz⟩ := exq (powI (i + 1));rw [← hz] at hps;have HZ := Lib.hid hz;clear hz;have hll : (intsN (pows i)).length ≤ 100 := by rw [intsN_len, pows_len]; omega
   have hL6 : (intsN (pows i) ++ [(K : Int)]).length = i + 1 := by rw [List.length_append, intsN_len, pows_len]; rfl
   clear hpk hK hKN hK1;go_wp2_with (refine wp_append_row (enc := encI) Tryz.underlying25 int_info rfl (by decide) (by decide) rfl _ _ rfl (K : Int) rfl rfl (encI_one _) rfl ho rfl (by omega) hcB ?_; intro v6 w6 ho6 hg6; obtain ⟨A6, c6, hv6, -⟩ := OwnL.row ho6 encI_len; rw [hL6] at hv6; subst hv6);go_roundw
   case rel => exact ⟨i + 1, by omega, by rw [← HZ.out], by rw [HP.out, intsN_snoc]; exact ho6, Nat.le_trans hcB hg6.size, Lib.hid rfl, hB.grown hg6 hcB (own_high ho)⟩
   case measure => show 64 - (i + 1) < 64 - lenOf _; rw [hlen.out]; omega
  ·obtain rfl : b = i := by omega
   have hno : ¬ 2 ^ b ≤ N := fun h => absurd ((HB.out b).1 h) (by omega);rw [← HS.out] at ho
   by_cases h63 : b < 63
   ·obtain ⟨K, hK⟩ : ∃ K : Nat, K = 2 ^ b := ⟨_, rfl⟩;have hpk : powI b = (K : Int) := by rw [hK]; exact powI_low h63
    have hK1 := Nat.two_pow_pos b;rw [← hK] at hno hK1;have g1 : (0 : Int) < (K : Int) := by omega
    have g2 : ¬ (K : Int) ≤ n := by have := HN.out; omega
    rw [hpk];clear hpk hK hno hK1;go_wp2_with fail;go_ret;exact ⟨_, rfl, ho, hB⟩
   ·have hpk : powI b = -9223372036854775808 := if_neg h63;rw [hpk];clear hno;go_wp2_with fail;go_ret;exact ⟨_, rfl, ho, hB⟩
theorem steps_any (n : Int) (w : World) :
 Calls Tryz.prog 42 #[.int .i64 n] w fun e w' => e = .returned (.func (.func 89) #[] #[.pointer (some ⟨w.heap.size, 0, none⟩)]) ∧ w.alloc (.cells #[.int .i64 n] 3) = w' := by
 go_enter Tryz.func42, Tryz.ntmps42;go_wp2_with fail;go_ret;exact ⟨rfl, rfl⟩
def SameOne (p : Nat) (A B : World) : Prop := B.heap[p]? = A.heap[p]?
theorem sameOne_t {p : Nat} {A B C : World} (h : SameOne p A B) (k : SameOne p B C) : SameOne p A C := k.trans h
theorem sameOne_b {p : Nat} {w : World} (hp : p < w.heap.size) (W : World) (l : Nat) (o o' : Obj) (hl : w.heap.size ≤ l) (_ : W.heap[l]? = some o) (_ : o.isCells = false) (_ : o.isWalk = false) : SameOne p W (W.putObj l o') := World.putObj_heap_other (by omega)
def encS (i : Nat) : Array Value := #[.int .i64 (i : Int), .int .i64 ((2 ^ i : Nat) : Int)]
def finL (b i : Nat) : List (Fin b) := (List.finRange b).take i
theorem finL_succ {b i : Nat} (h : i < b) : finL b (i + 1) = finL b i ++ [⟨i, h⟩] := by
 unfold finL;rw [List.take_add_one, List.getElem?_eq_getElem (by simpa using h), List.getElem_finRange]
 rfl
theorem finL_len {b i : Nat} (h : i ≤ b) : (finL b i).length = i := by simp [finL]; omega
theorem finL_all (b : Nat) : finL b b = List.finRange b := List.take_of_length_le (by simp)
theorem fin_range (b : Nat) : (List.finRange b).map (·.1) = List.range b := by
 apply List.ext_getElem
 ·simp
 ·intro i h1 h2
  simp
theorem fin_map {α : Type} (b : Nat) (f : Nat → α) : (List.finRange b).map (fun x => f x.1) = (List.range b).map f := by
 rw [← fin_range b, List.map_map]; rfl
theorem steps_stops (n p : Nat) (e : Int) (he : I64 e) (b : Nat) (hb : b = bitsN e.toNat) (w : World) (kp : Blk w p 3 #[.int .i64 e]) :
 SeqStopsK Fence.wide n Tryz.prog 89 #[.pointer (some ⟨p, 0, none⟩)] (fun x : Fin b => encS x.1) (SameOne p) (fun xs => xs = List.finRange b) (fun _ => True) b w := fun l J Jx W hbW hJa _ hY h0 => by
 have kpW := kp.below hbW kp.lt;obtain ⟨N, hN⟩ := exq e.toNat;have hN63 : N < 2 ^ 63 := by have := he.2; omega
 have hb63 := bits_63 hN63;have HN := Lib.hid hN;rw [← hN] at hb;have HB : Hid (∀ i, 2 ^ i ≤ N ↔ i < b) := Lib.hid (fun i => by rw [hb]; exact bits_le_iff);rw [← hb] at hb63;clear hN hN63 hb;refine callsIn_of_wp Tryz.func89 rfl trivial ?_ rfl;simp only [Tryz.ntmps89, List.size_toArray, List.length_cons, List.length_nil, Nat.reduceAdd, Nat.reduceSub, Array.replicate_succ, Array.replicate_zero, List.push_toArray, List.append_toArray, List.nil_append, List.cons_append];have HY := Lib.hid hY;clear hY hJa kp
 gi_wp2_with fail
 gi_loopw [3, 4] (fun s3 s4 wr => ∃ i : Nat, i ≤ b ∧ s3 = .int .i64 (i : Int) ∧ s4 = .int .i64 (powI i) ∧ J (finL b i) wr ∧ Blk wr p 3 #[.int .i64 e]) (fun s3 _ _ => b - (intOf s3).toNat)
 case atStart => exact ⟨0, Nat.zero_le _, rfl, rfl, h0, kpW⟩
 case round =>
  obtain ⟨i, hi, rfl, rfl, hj, kq⟩ := hrel;have c1 : wr.cell? ⟨p, 0, none⟩ = some (.int .i64 e) := kq.cell 0
  by_cases hlt : i < b
  ·obtain ⟨K, hK⟩ : ∃ K : Nat, K = 2 ^ i := ⟨_, rfl⟩;have hpk : powI i = (K : Int) := by rw [hK]; exact powI_low (by omega)
   have hps := powI_succ (i := i) (by omega);rw [Int.mul_comm] at hps;have hKN := (HB.out i).2 hlt;have hK1 := Nat.two_pow_pos i;rw [← hK] at hKN hK1;have g1 : (0 : Int) < (K : Int) := by omega
   have g2 : (K : Int) ≤ e := by have := HN.out; omega
   obtain ⟨fn, tmps, assign, body, hy, hR⟩ := HY.out (finL b i) ⟨i, hlt⟩ wr hj (by rw [finL_len (by omega)]; exact hlt);rw [hpk] at hps ⊢;obtain ⟨z, hz⟩ := exq (powI (i + 1));rw [← hz] at hps;have HZ := Lib.hid hz;dsimp only at hy;unfold encS at hy;rw [← hK] at hy;clear hz hpk hK hKN hK1
   gi_wp2_with (refine ⟨fun hz => by simp [Fence.wide] at hz, ?_⟩; refine hR.mono ?_; intro e W3 he; obtain ⟨bb, rfl, HE⟩ := yield_bool he; clear he)
   ·rcases HE.out with ⟨rfl, -, -⟩ | ⟨rfl, hJx3⟩
    ·rename_i hx; simp at hx
    ·refine bodyPost_ret (results_none rfl _ _ _) rfl ?_;exact ⟨⟨_, rfl⟩, .inr ⟨_, trivial, hJx3⟩⟩
   case roundEnd =>
    rcases HE.out with ⟨rfl, hJ3, hK3⟩ | ⟨rfl, -⟩
    ·exact ⟨⟨i + 1, by omega, by go_num, by rw [HZ.out], by rw [finL_succ hlt]; exact hJ3, Eq.trans hK3 kq⟩, by simp [intOf]; omega⟩
    ·rename_i hx; simp at hx
  ·obtain rfl : b = i := by omega
   rw [finL_all] at hj;have hno : ¬ 2 ^ b ≤ N := fun h => absurd ((HB.out b).1 h) (by omega)
   by_cases h63 : b < 63
   ·obtain ⟨K, hK⟩ : ∃ K : Nat, K = 2 ^ b := ⟨_, rfl⟩;have hpk : powI b = (K : Int) := by rw [hK]; exact powI_low h63
    have hK1 := Nat.two_pow_pos b;rw [← hK] at hno hK1;have g1 : (0 : Int) < (K : Int) := by omega
    have g2 : ¬ (K : Int) ≤ e := by have := HN.out; omega
    rw [hpk];clear hpk hK hno hK1
    gi_wp2_with fail
    go_end0
    first | exact ⟨⟨_, rfl⟩, .inl ⟨_, rfl, hj⟩⟩ | exact ⟨⟨_, rfl⟩, .inl hj⟩
   ·have hpk : powI b = -9223372036854775808 := if_neg h63;rw [hpk];clear hno
    gi_wp2_with fail
    go_end0
    first | exact ⟨⟨_, rfl⟩, .inl ⟨_, rfl, hj⟩⟩ | exact ⟨⟨_, rfl⟩, .inl hj⟩
theorem flatMap_le {α : Type} {f : α → List UInt8} {b : Nat} : ∀ {l : List α}, (∀ x ∈ l, (f x).length ≤ b) → (l.flatMap f).length ≤ b * l.length
 | [], _ => by simp
 | x :: l, h => by
   have h1 := h x (List.mem_cons_self ..);have h2 := flatMap_le (l := l) fun y hy => h y (List.mem_cons_of_mem _ hy);rw [List.flatMap_cons, List.length_append, List.length_cons, Nat.mul_succ]
   omega
theorem hdrL_len {h : Hdr} (hs : HdrSm h) : (hdrL h).length ≤ 250000 := by
 have h1 := lineL_len (word := wHeader) (xs := [h.epoch]) (fun y hy => by obtain rfl := List.mem_singleton.1 hy; exact hs.e)
 have h2 := flatMap_le (f := memL) (l := h.mems) (b := 100) (fun m hm => by
  have hi := hs.m2 m hm
  have := lineL_len (word := wMember) (xs := [m.id, m.wt, m.pub]) (fun y hy => by
   simp only [List.mem_cons, List.not_mem_nil, or_false] at hy
   rcases hy with rfl | rfl | rfl
   ·exact hi.1
   ·exact hi.2.1
   ·exact hi.2.2)
  exact Nat.le_trans this (by simp [wMember]))
 have h3 := flatMap_le (f := lineL wPoints) (l := h.points) (b := 2200) (fun l hl => by
  have := lineL_len (word := wPoints) (hs.p3 l hl);have h2 := hs.p2 l hl
  exact Nat.le_trans this (by simp [wPoints]; omega))
 have h4 := lineL_len (word := wKeys) hs.c2
 have h5 := flatMap_le (f := linkL) (l := h.links) (b := 100) (fun l hl => by
  have := hs.l2 l hl;unfold linkL
  rw [List.length_append, List.length_append, hexL_len, this]; simp)
 have a1 := hs.m1;have a2 := hs.c1;have a3 := hs.p1;have a4 := hs.l1;have b1 : wHeader.length = 6 := rfl;have b2 : wKeys.length = 4 := rfl;unfold hdrL;simp only [List.length_append, List.length_cons, List.length_nil] at h1 ⊢
 omega
theorem HeaderHash_q (x : Hc) (h : Hdr) (hs : HdrSm h) (w : World) (hT : Tabs w) (hi : HdrIn w x h) :
 Calls Tryz.prog 49 #[.agg (hdrA x)] w fun e w' => e = .returned (.agg (u8a (shaS (hdrL h)))) ∧ Below w.heap.size w w' := by
 have hz := hdrL_len hs;have m1 := Lib.hid (fun W h1 h2 => HeaderText_q x h hs W h1 h2);have m2 := Lib.hid (fun W (hT : Tabs W) => Sum_any (strB (hdrL h)) W (by rw [strB_size]; omega) hT.k hT.f);rw [strB_list] at m2;obtain ⟨g, hg⟩ := exq (shaS (hdrL h));have hsz : (u8a g).size = 32 := by rw [hg]; exact u8a_len (sha_len _)
 rw [← hg] at m2 ⊢;have HI := Lib.hid (And.intro hT hi);clear hg hi hT hz;generalize strB (hdrL h) = t at *;unfold hdrA at *;go_enter Tryz.func49, Tryz.ntmps49;go_upto_region 1 with fail;refine name2e #[.int .i64 x.e, x.m, x.c, x.p, x.l] (u8a zero32) rfl rfl ?_;intro W0 k1 k2 hB _;obtain ⟨p, hp⟩ := exq w.heap.size;have hpB : w.heap.size ≤ p := Nat.le_of_eq hp.symm;rw [← hp] at k1 k2 ⊢;clear hp;have a0 : W0.cell? ⟨p, 0, none⟩ = some (.int .i64 x.e) := k1.cell 0;have a1 : W0.cell? ⟨p, 1, none⟩ = some x.m := k1.cell 1;have a2 : W0.cell? ⟨p, 2, none⟩ = some x.c := k1.cell 2;have a3 : W0.cell? ⟨p, 3, none⟩ = some x.p := k1.cell 3;have a4 : W0.cell? ⟨p, 4, none⟩ = some x.l := k1.cell 4
 go_wp2_with (first
  | (go_at_call 19; (with_reducible refine (m1.out _ (HI.out.1.below hB) (HI.out.2.below hB)).mono ?_); rintro e w1 ⟨rfl, hb⟩; replace k2 := k2.below hb k2.lt; replace hB := below_then hB hb; clear hb)
  | (go_at_call 107; (with_reducible refine (m2.out _ (HI.out.1.below hB)).mono ?_); rintro e w2 ⟨rfl, hb⟩; replace k2 := k2.below hb k2.lt; replace hB := below_then hB hb; clear hb)
  | (refine wpList_store_rowTo rfl 38 _ _ rfl rfl _ (u8a g) rfl rfl _ _ k2 (by rw [hsz]; kernel_rfl) (by rw [hsz]; rfl) (u8a_one _) ?_))
 refine bodyPost_ret (results_cell_row (p := 2) (ty := 38) rfl _ _ (p + 1) _ (u8a g) (0, 0) _ rfl (k2.rowA _) Tryz.underlying38 rfl (by rw [hsz]; kernel_rfl)) rfl ?_;exact ⟨rfl, below_setRow hB (by omega) _⟩
/-! ### rows of headers -/
abbrev RowHd (w : World) (A : Option Addr) (n c : Nat) (xs : List Hc) : Prop := Row encHd 5 w A n c xs
structure HdrsIn (w : World) (xs : List Hc) (hs : List Hdr) : Prop where
 len : xs.length = hs.length
 one : ∀ (i : Nat) (x : Hc) (h : Hdr), xs[i]? = some x → hs[i]? = some h → HdrIn w x h
theorem rowHd_at {w : World} {A : Option Addr} {n c : Nat} {xs : List Hc} (h : RowHd w A n c xs) {k : Nat} (hk : k < n) : ∃ b o x, A = some ⟨b, o, none⟩ ∧ xs[k]? = some x ∧ w.cell? ⟨b, o + k * 5, none⟩ = some (.int .i64 x.e) ∧ w.cell? ⟨b, o + k * 5 + 1, none⟩ = some x.m ∧ w.cell? ⟨b, o + k * 5 + 2, none⟩ = some x.c ∧ w.cell? ⟨b, o + k * 5 + 3, none⟩ = some x.p ∧ w.cell? ⟨b, o + k * 5 + 4, none⟩ = some x.l := by
 obtain ⟨b, o, e, hc⟩ := h.at_ (by omega);have hl : k < xs.length := by have := h.len; omega
 have hm : xs[k]? = some xs[k] := List.getElem?_eq_getElem hl;exact ⟨b, o, xs[k], e, hm, hc k 0 _ _ hm rfl, hc k 1 _ _ hm rfl, hc k 2 _ _ hm rfl, hc k 3 _ _ hm rfl, hc k 4 _ _ hm rfl⟩
theorem hash_info : (Tryz.prog.info? 38).map (fun i => (i.zero, i.size, i.bytes)) = some (some (.agg (u8a zero32)), 32, 32) := by kernel_rfl
theorem hash_sl_fill (parts : List (Nat × Value)) : Tryz.prog.builtSlice 38 1 parts = Instr.fill (fun i => some (i * 32, 32)) (u8a zero32) parts := by kernel_rfl
theorem hash_slice1 (h : List UInt8) (hl : h.length = 32) : Tryz.prog.builtSlice 38 1 [(0, .agg (u8a h))] = some (u8a h) := by
 rw [hash_sl_fill];have hz : (u8a zero32).toList.length = 32 := rfl;rw [fill_step (off := 0) (size := 32) rfl (by show (u8a h).size = 32; exact u8a_len hl) (by show 0 + 32 ≤ 32; omega)];show some _ = some _
 congr 1
 show ((u8a zero32).toList.take 0 ++ ((u8a h).toList ++ (u8a zero32).toList.drop (0 + 32))).toArray = _;rw [List.take_zero, List.nil_append, List.drop_of_length_le (by omega), List.append_nil, Array.toArray_toList]
def linksG (hs : List Hdr) (e : Int) : List (List UInt8) := if e < 1 ∨ e > hs.length then [] else linksL hs e.toNat
end Go.Proofs.YtkpinmejfdnhbaaGreatDoor
