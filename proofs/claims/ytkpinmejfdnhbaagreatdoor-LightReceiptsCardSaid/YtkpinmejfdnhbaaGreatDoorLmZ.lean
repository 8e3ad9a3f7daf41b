/- The law of receipts. -/
import Derived.Test.YtkpinmejfdnhbaaGreatDoorLmThree
import Derived.Test.YtkpinmejfdnhbaaGreatDoorLkS
set_option maxRecDepth 100000
set_option maxHeartbeats 8000000
namespace Go.Proofs.YtkpinmejfdnhbaaGreatDoor
open Go.RowKit Go.Shelf
attribute [local go_sem] Oper.semAt_some
theorem hash_one8 (i : Nat) (hi : i ≤ 255) : Tryz.prog.built 38 [(0, .int .u8 (i : Int))] = some (u8a (UInt8.ofNat i :: List.replicate 31 0)) := by
 have e : (i : Int) = ((UInt8.ofNat i).toNat : Int) := by rw [UInt8.toNat_ofNat']; omega
 rw [e];generalize UInt8.ofNat i = q
 rfl
theorem rc_serial (x : Rc) (v : Int) : (rcA x).setIfInBounds 1 (.int .i64 v) = rcA { x with s := v } := by
 unfold rcA rcCells
 simp
theorem own_rows {B : Nat} {w : World} {v : Value} {xs : List Rc1} {sec i : Nat} (hx : xs.map (·.1) = recs sec i) (h : OwnL encRc 75 102 B w v xs) : ∃ A c, v = .slice A i c ∧ Row encRc 102 w A i c xs := by
 obtain ⟨A, c, e, hr⟩ := OwnL.row h encRc_len;have hl : xs.length = i := by have := congrArg List.length hx; rwa [List.length_map, recs_len] at this
 rw [hl] at e hr;exact ⟨A, c, e, hr⟩
theorem own_texts {B : Nat} {w : World} {v : Value} {sec i : Nat} (h : OwnL encT 9 1 B w v (lvs sec i)) : ∃ A c, v = .slice A i c ∧ RowT w A i c (lvs sec i) := by
 obtain ⟨A, c, e, hr⟩ := OwnL.row h encT_len;rw [lvs_len] at e hr;exact ⟨A, c, e, hr⟩
theorem row_rc {w : World} {A : Option Addr} {n c : Nat} {xs : List Rc1} (h : Row encRc 102 w A n c xs) {k : Nat} (hk : k < n) : ∃ b o x, A = some ⟨b, o, none⟩ ∧ xs[k]? = some x ∧ w.rangeAt b (o + k * 102) (rcCells x.1) := by
 obtain ⟨b, o, e, hc⟩ := h.at_ (by omega);have hl : k < xs.length := by have := h.len; omega
 exact ⟨b, o, xs[k], e, List.getElem?_eq_getElem hl, fun j v hv => hc k j _ v (List.getElem?_eq_getElem hl) hv⟩
theorem recs_get {xs : List Rc1} {sec i k : Nat} {x : Rc1} (hx : xs.map (·.1) = recs sec i) (h : xs[k]? = some x) (hk : k < i) : x.1 = recK sec k := by
 have h1 : (xs.map (·.1))[k]? = some x.1 := by rw [List.getElem?_map, h]; rfl
 rw [hx] at h1;unfold recs at h1;rw [List.getElem?_map, List.getElem?_range hk] at h1;exact (Option.some.inj h1).symm
theorem own_not {v : Value} {M p : Nat} (h : ∀ j, v.ownBlock = some j → j < M) (hp : M ≤ p) : some p ≠ v.ownBlock := fun e => absurd (h p e.symm) (by omega)
theorem public_any (q : Int) (hq : I64 q) : ∃ pb : Int, RetS 35 #[.int .i64 q] (.int .i64 pb) ∧ I64 pb := by
 by_cases h : q < 0
 ·refine ⟨0, fun w => ?_, by omega, by omega⟩
  have mP : Hid (RetS 75 #[.int .i64 4, .int .i64 q, .int .i64 2305843009213691579] (.int .i64 0)) := Lib.hid (fun w => by
   go_enter Tryz.func75, Tryz.ntmps75;go_wp2_with fail;go_ret
   exact ⟨rfl, rfl⟩)
  go_enter Tryz.func35, Tryz.ntmps35;go_wp2_with (go_at_call 75; (with_reducible refine (mP.out _).mono ?_); rintro e w2 ⟨rfl, hww⟩; obtain rfl := hww.symm);go_ret;exact ⟨rfl, rfl⟩
 ·obtain ⟨n, rfl⟩ := Int.eq_ofNat_of_zero_le (show 0 ≤ q by omega);have hn := hq.2;have := gP_small n (by omega);exact ⟨_, rPublic8_q n (by omega), by omega, by omega⟩
theorem wrap64_bd2 (z : Int) : I64 (wrap64 z) := by unfold I64 wrap64; omega
theorem own_at_row {α : Type} {enc : α → List Value} {e : TypeId} {s B n c : Nat} {w : World} {A : Option Addr} {l : List α} (h : OwnL enc e s B w (.slice A n c) l) (hs : ∀ x, (enc x).length = s) : Row enc s w A n c l := by
 obtain ⟨A', c', e, hr⟩ := OwnL.row h hs
 injection e with e1 e2 e3
 subst e1 e2 e3;exact hr
theorem chain_votesV {K : Nat} {es : List Ep} {hs : List Hdr} (h : ChainOK K es hs) (hl : es.length ≤ 1000) {k : Nat} {tk : Hdr} (hk : hs[k]? = some tk) :
 ∃ e : Ep, tk.mems = e.ms ∧ ∀ (t : ByteArray) (bits wrong : Nat), t.size ≤ 800000 → bits < 65536 → wrong < 65536 → I64V (votesL e t bits wrong e.ms.length) ∧ (votesL e t bits wrong e.ms.length).length ≤ 4 ∧ (wrong = 0 → (∀ i, i < 4 → bitN bits i = 1) → 2 * totW tk.mems < 3 * weightI tk.mems (votesL e t bits wrong e.ms.length) t) ∧
  ∀ (B : Nat) (W : World) (gs : List Gc) (xs : List Hc) (AG : Option Addr) (nG cG : Nat) (vH : Value), ChainIn B W gs xs es hs → Row encGc 5 W AG nG cG gs →
   Calls Tryz.prog 18 #[.agg #[.slice AG nG cG, vH], .int .i64 (k : Int), .string t, .int .u16 (bits : Int), .int .u16 (wrong : Int)] W (VotesPost (votesL e t bits wrong e.ms.length) W) := by
 obtain ⟨e, he, hm, hg, hf⟩ := chain_mems h hl hk;refine ⟨e, hm, fun t bits wrong ht hb1 hb2 => ?_⟩;obtain ⟨q1, q2⟩ := votes_I64 hg hf t bits wrong e.ms.length;refine ⟨q1, Nat.le_trans q2 hg.hi, fun h0 hbit => by subst h0; rw [hm]; exact all_many hg hf hbit, fun B W gs xs AG nG cG vH hCI hr => ?_⟩;have hkl : k < gs.length := by have := hCI.gl; have := (List.getElem?_eq_some_iff.1 he).1; omega
 exact Votes_q B (1 + 10 * k) k bits wrong nG cG AG vH gs gs[k] e t hg hf (List.getElem?_eq_getElem hkl) ht hb1 hb2 W (hCI.g k _ e (List.getElem?_eq_getElem hkl) he) hr
theorem byteU_of2 (q : Int) : ∃ y : UInt8, IntKind.u8.wrap q = (y.toNat : Int) ∧ q % 256 = (y.toNat : Int) := ⟨UInt8.ofNat (q % 256).toNat, by rw [u8_wrap, UInt8.toNat_ofNat']; omega, by rw [UInt8.toNat_ofNat']; omega⟩
theorem u16_of2 (q : Int) : ∃ b : Nat, IntKind.u16.wrap q = (b : Int) ∧ q % 65536 = (b : Int) ∧ b < 65536 := ⟨(q % 65536).toNat, by rw [IntKind.wrap_u16]; omega, by omega, by omega⟩
theorem own_d {α : Type} {enc : α → List Value} {e t : TypeId} {s B D : Nat} {w : World} {v : Value} {l : List α} {cs : Array Value} (h : OwnL enc e s B w v l) (hb : Blk w D t cs) (hne : t ≠ e) (ds : Array Value) : OwnL enc e s B (w.setRow D ds) v l :=
 OwnL.kept h (grown_row hb ds) (.inr (Ne.symm (own_ty h hb hne)))
theorem LightReceipts_any (A : Option Addr) (n c : Nat) (l : List Int) (z0 z1 : Nat) (q0 q1 q2 : Int) (w : World) (hT : Tabs w) (h1 : RowI w A n c l) (hI1 : ∀ x ∈ l, I64 x) (hn : n ≤ 9223372036854775807) (hz0 : z0 ≤ 255) (hz1 : z1 ≤ 255) (hq0 : I64 q0) (hq1 : I64 q1) (hq2 : I64 q2) :
 Calls Tryz.prog 7 #[.slice A n c, .agg #[.int .u8 (z0 : Int), .int .u8 (z1 : Int)], .agg #[.int .i64 q0, .int .i64 q1, .int .i64 q2]] w fun e w' => e = .returned (.bool true) ∧ Below w.heap.size w w' := by
 have HT := Lib.hid hT;have HR := Lib.hid h1;have HQ := Lib.hid (And.intro hq0 (And.intro hq1 hq2));have m2 := Lib.hid (fun W h => Made_one A n c l hI1 hn W h);clear hT h1 hI1 hn hq0 hq1 hq2;go_enter Tryz.func7, Tryz.ntmps7;go_upto_region 1 with fail;refine name2p ?_;intro w1 kz kq hB;obtain ⟨g0, hg0⟩ : ∃ g, g = w.heap.size := ⟨_, rfl⟩;rw [← hg0] at kz kq ⊢;clear hg0;have m1 := Lib.hid (sanity_q w1 (HT.out.below hB));go_upto_region 2 with (go_at_call 9; (with_reducible refine m1.out.mono ?_); rintro e w2 ⟨rfl, hb2⟩);replace kz := kz.below hb2 kz.lt;replace kq := kq.below hb2 kq.lt;replace hB := below_then hB hb2;clear m1 hb2;go_upto_region 3 with (go_at_call 13; (with_reducible refine (m2.out _ (HR.out.below hB)).mono ?_); rintro e w3 ⟨vG, vH, gs, ys, es, hs, K, rfl, hoG, hoH, hCI, hCO, hel, hb2⟩; obtain ⟨AG, cG, hvG, hrG⟩ := OwnL.row hoG encGc_len; obtain ⟨AH, cH, hvH, hrH⟩ := OwnL.row hoH encH1_len; subst hvG hvH);replace kz := kz.below hb2 kz.lt;replace kq := kq.below hb2 kq.lt;replace hB := below_then hB hb2;clear hb2 m2 HR;refine name1p ?_;intro W0 k1 hb3;replace kz := kz.below hb3 kz.lt;replace kq := kq.below hb3 kq.lt;replace hB := below_then hB hb3;have hyl : ys.length = hs.length := by have := hCI.hl; rwa [List.length_map] at this
 have hel2 : es.length = 1 := by rw [hel]; rfl
 have hes : es.length ≤ 1000 := by omega
 have hyn : ys.length = 1 := by rw [hyl, hCO.len]; exact hel2
 have hgn : gs.length = 1 := by rw [hCI.gl]; exact hel2
 rw [hgn] at hrG k1;rw [hyn] at hrH k1;obtain ⟨b, o, hAH, hcc⟩ := chain_cells ((rowHd_map hrH).below hb3) (⟨hCI.hl, fun i x y hx hy => (hCI.h i x y hx hy).in_.below hb3⟩) (by omega);subst hAH;obtain ⟨x0, t0, ht0, hx0⟩ := hcc 0 (by omega);simp only [Nat.zero_mul, Nat.add_zero] at hx0;obtain ⟨xe, xm, xc, xp, xl⟩ := x0;obtain ⟨he0, ⟨Am, cm, em, -⟩, ⟨Ac, cc, ec, -⟩, ⟨Ap, cp, vp, ep, -, -⟩, ⟨Al, cl, el, -⟩⟩ := (hx0 W0 (Below.refl _ _)).1;dsimp only at em ec ep el hx0;subst em ec ep el;obtain ⟨nm, hnm⟩ : ∃ k, k = t0.mems.length := ⟨_, rfl⟩;rw [← hnm] at hx0;generalize t0.commits.length = nc at hx0;generalize t0.points.length = np at hx0;generalize t0.links.length = nl at hx0;have HX0 := Lib.hid hx0;have HH := Lib.hid ht0;have HCI := Lib.hid (fun W (h : Below W0.heap.size W0 W) => And.intro ((hCI.below hb3).below h) ((hrG.below hb3).below h));have HCO := Lib.hid (And.intro hCO hes);have HTT := Lib.hid (fun W (h : Below W0.heap.size W0 W) => (HT.out.below hB).below h);have HSM := Lib.hid (hCO.small hes t0 (List.mem_of_getElem? ht0));obtain ⟨g, hg⟩ := exq w3.heap.size;rw [← hg] at k1 ⊢;have HG := Lib.hid (fun W (h : Below W0.heap.size W0 W) => And.intro (k1.below h k1.lt) (And.intro (kz.below h kz.lt) (kq.below h kq.lt)));have HBW := Lib.hid hB;have HNM := Lib.hid hnm;clear hcc hoG hoH hrG hrH hCI hCO hel hel2 hes hb3 HT hx0 ht0 hg k1 hyl hyn hgn kz kq hB he0 hnm;have hb0 := Below.refl W0.heap.size W0;obtain ⟨hI0, c0, c1, c2, c3, c4⟩ := HX0.out W0 hb0;have p1 : W0.cell? ⟨g, 1, none⟩ = some (.slice (some ⟨b, o, none⟩) 1 cH) := (HG.out W0 hb0).1.cell 1;have mN := Lib.hid (chain_new HCO.out.1 HCO.out.2 HH.out _ W0 hI0);dsimp only at mN;clear hI0;go_upto_region 4 with (go_at_call 16; (with_reducible refine mN.out.mono ?_); rintro e w4 ⟨pc, rfl, hCli, hb4⟩);replace hb0 := below_then hb0 hb4;clear c0 c1 c2 c3 c4 p1 mN hb4;obtain ⟨-, c0, c1, c2, c3, c4⟩ := HX0.out w4 hb0;have p1 : w4.cell? ⟨g, 1, none⟩ = some (.slice (some ⟨b, o, none⟩) 1 cH) := (HG.out w4 hb0).1.cell 1;have mR := Lib.hid (rNew_q xe Am Ac Ap Al nm cm nc cc np cp nl cl w4);go_upto_region 7 with (go_at_call 25; (with_reducible refine mR.out.mono ?_); rintro e w5 ⟨pm, rfl, hc6, hb5⟩);replace hCli := hCli.below hb5;replace hb0 := below_then hb0 hb5;clear c0 c1 c2 c3 c4 p1 mR hb5;obtain ⟨sec, hsec⟩ : ∃ s, s = keyN [107, 105, 111, 115, 107] := ⟨_, rfl⟩;have hsq : sec < qG := by rw [hsec]; exact (pos_lt (scal_lt _)).2
 have hs63 : sec ≤ 9223372036854775807 := by have := qG_lit; omega
 have hp63 := gP_small sec hs63
 have mK : Hid (Ret 26 #[.string ⟨#[107, 105, 111, 115, 107]⟩] (.tuple #[.int .i64 (sec : Int), .int .i64 ((gP sec : Nat) : Int)])) := Lib.hid (by
  have := rKey_q ⟨#[107, 105, 111, 115, 107]⟩ (by show 5 ≤ 800000; omega);rw [show (⟨#[107, 105, 111, 115, 107]⟩ : ByteArray).data.toList = [107, 105, 111, 115, 107] from rfl, ← hsec] at this
  exact this)
 have HKEY := Lib.hid hsq;obtain ⟨pub, hpub⟩ : ∃ p, p = gP sec := ⟨_, rfl⟩;rw [← hpub] at mK hp63;have HPUB := Lib.hid hpub;clear hsec hsq hpub;go_upto_region 8 with (go_at_call 26; (with_reducible refine (mK.out _).mono ?_); rintro e Wb ⟨rfl, hb5⟩);replace hCli := hCli.below hb5;replace hc6 := cell_b hb5 hc6;replace hb0 := below_then hb0 hb5;clear mK hb5;go_upto_region 11 with fail;refine name1 (u8a zero32) rfl ?_;intro W6 kp hB6;obtain ⟨D, hD⟩ := exq Wb.heap.size;rw [← hD] at kp ⊢;have hD0 : W0.heap.size ≤ D := by rw [hD]; exact hb0.size
 obtain ⟨m0, hm0⟩ : ∃ m, m = z0 % 8 := ⟨_, rfl⟩;have hrem : (z0 : Int).tmod 8 = (m0 : Int) := by rw [Int.tmod_eq_emod_of_nonneg (by omega)]; omega
 have hrem2 : (z0 : Int) % 8 = (m0 : Int) := by omega
 have hm8 : m0 < 8 := by omega
 obtain ⟨N, hN⟩ := exq (m0 + 1);have hN8 : N ≤ 8 := by omega
 have hN1 : 1 ≤ N := by omega
 have HMN : Hid (∀ i : Nat, (i : Int) ≤ (m0 : Int) ↔ i < N) := Lib.hid (fun i => by omega)
 -- what lies below the loop
 have HST := Lib.hid (fun W (h : Below D Wb W) => have h' : Below Wb.heap.size Wb W := by rw [← hD]; exact h
  And.intro (below_then hb0 h') (And.intro (hCli.below h') (cell_b h' hc6)))
 have hB7 : Below D Wb W6 := by rw [hD]; exact hB6
 clear hCli hc6 hb0 hB6 hm0 hN hD;go_wp2_with fail
 go_loopw [13, 14, 16, 17] (fun s13 s14 s16 _ wr => ∃ i : Nat, i ≤ N ∧ s16 = .int .i64 (i : Int) ∧ (∃ xs : List Rc1, xs.map (·.1) = recs sec i ∧ OwnL encRc 75 102 D wr s13 xs) ∧ OwnL encT 9 1 D wr s14 (lvs sec i) ∧ Blk wr D 38 (u8a (prevK sec i)) ∧ Below D Wb wr) (fun _ _ s16 _ _ => N - (intOf s16).toNat)
 case atStart => exact ⟨0, by omega, rfl, ⟨[], rfl, OwnL.nil_ _ _ _ _ _⟩, OwnL.nil_ _ _ _ _ _, kp, hB7⟩
 case round =>
  clear kp hB7;obtain ⟨i, hi, rfl, ⟨xs, hxs, ho13⟩, ho14, kp, hBr⟩ := hrel;have hst := HST.out wr hBr;have kzz := (HG.out wr hst.1).2.1;have cz0 : wr.cell? ⟨g0, 0, none⟩ = some (.int .u8 (z0 : Int)) := kzz.cell 0
  by_cases hlt : i < N
  ·have hle : (i : Int) ≤ (m0 : Int) := (HMN.out i).2 hlt;have HXS := Lib.hid hxs;have hDlt := kp.lt;have hD1 : D ≤ wr.heap.size := Nat.le_of_lt kp.lt;have hown := own_lt ho13;have hprev := prevK_len sec i;have hrk := recK_ok sec (k := i) (by omega);have HRK := Lib.hid hrk;obtain ⟨h2, hh2, hh3⟩ : ∃ h2 : Nat, (i : Int).tdiv 2 = (h2 : Int) ∧ h2 = i / 2 := ⟨i / 2, by rw [Int.tdiv_eq_ediv_of_nonneg (by omega)]; omega, rfl⟩;have hh4 : (i : Int) / 2 = (h2 : Int) := by omega
   have mP : Hid (Ret 27 #[.int .i64 3, .int .i64 (sec : Int), .int .i64 (1 + (i : Int)), .string lottoB, .int .i64 (h2 : Int), .agg (u8a zero32), .agg (u8a (UInt8.ofNat i :: List.replicate 31 0)), .agg (u8a (prevK sec i))] (.agg (rcA (recK sec i)))) := Lib.hid (by
    have hb := kR_base (k := i) (by omega) hprev;have := rPrint_q 3 sec ((1 + i : Nat) : Int) lottoB ((i / 2 : Nat) : Int) zero32 (UInt8.ofNat i :: List.replicate 31 0) (prevK sec i) hs63 hb.k hb.s hb.n hb.d hb.o hb.h hb.p;rw [← hh3, show ((1 + i : Nat) : Int) = 1 + (i : Int) by omega] at this;unfold recK kR;rw [← hh3, show ((1 + i : Nat) : Int) = 1 + (i : Int) by omega]
    exact this)
   unfold lottoB at mP;have mH := Lib.hid (rRcHash_q (recK sec i) hrk);have mX := Lib.hid (rRcText_q (recK sec i) hrk);have HP1 : Hid (prevK sec (i + 1) = shaS (textL (recK sec i))) := Lib.hid rfl;have HL1 := Lib.hid (lvs_succ sec i);have HR1 := Lib.hid (recs_succ sec i);have hsr := rcA_size hrk;have HV : Hid ((u8a (prevK sec i)).size = 32) := Lib.hid (u8a_len hprev);have hsv := HV.out;have hsg : (u8a (shaS (textL (recK sec i)))).size = 32 := u8a_len (sha_len _);have hll : (lvs sec i).length ≤ 100 := by rw [lvs_len]; omega
   have hxl : xs.length ≤ 100 := by have := congrArg List.length hxs; rw [List.length_map, recs_len] at this; omega
   generalize strB (textL (recK sec i)) = tx at *;generalize shaS (textL (recK sec i)) = gh at *;generalize recK sec i = rk at *;generalize prevK sec i = pv at *;generalize lvs sec i = lv at *;have h255 : i ≤ 255 := by omega
   have HB1 := Lib.hid (hash_one8 i h255);generalize UInt8.ofNat i :: List.replicate 31 0 = oh at *;clear hprev hrk hxs hh3 kzz
   go_upto_region 15 with (first
    | (refine wpList_buildTo rfl 38 _ rfl _ rfl (u8a zero32) (by simp [Act.eval]; exact hash_built0) ?_)
    | (refine wpList_buildTo rfl 38 _ rfl _ rfl (u8a oh) (by simp [Act.eval]; exact HB1.out) ?_)
    | (refine wpList_load_rowG (by rfl) 38 _ rfl _ rfl D rfl _ (u8a pv) (0, 0) _ kp Tryz.underlying38 rfl (by rw [hsv]; exact hash_size) ?_)
    | (go_at_call 27; (with_reducible refine (mP.out _).mono ?_); rintro e wA ⟨rfl, hbA⟩)
    | (refine wpList_store_rowTo rfl 75 _ _ rfl rfl _ (rcA rk) rfl rfl _ _ (Blk.new _ _ _) (by rw [hsr]; exact rc_size) (by rw [hsr]; exact rcA_size rcZero_ok) (rcA_one _) ?_))
   refine name1r ?_;intro wB kr hbB;obtain ⟨pr, hpr⟩ : ∃ q, q = wA.heap.size := ⟨_, rfl⟩;rw [← hpr] at kr ⊢;have hbAB := below_then hbA hbB;have hBB : Below D Wb wB := hBr.trans (hbAB.mono hD1);replace kp := kp.below hbAB kp.lt;replace ho13 := ho13.below hbAB;replace ho14 := ho14.below hbAB;have hD2 : D ≤ wB.heap.size := Nat.le_of_lt kp.lt;have hprD : pr ≠ D := by have h1 := hbA.size; omega
   have hprO := own_not hown (show wr.heap.size ≤ pr by have h1 := hbA.size; omega);clear hbA hbB hbAB hpr hBr hown hDlt
   go_upto_region 16 with (first
    | (refine wpList_load_rowG (by rfl) 75 _ rfl _ rfl pr rfl _ (rcA rk) (0, 0) _ kr Tryz.underlying75 rfl (by rw [hsr]; exact rc_size) ?_)
    | (go_at_call 28; (with_reducible refine (mH.out _).mono ?_); rintro e wC ⟨rfl, hb⟩; replace kp := kp.below hb kp.lt; replace kr := kr.below hb kr.lt; replace ho13 := ho13.below hb; replace ho14 := ho14.below hb; replace hBB := hBB.trans (hb.mono hD2); replace hD2 := Nat.le_trans hD2 hb.size; clear hb)
    | (refine wpList_store_rowTo rfl 38 _ _ rfl rfl _ (u8a gh) rfl rfl _ _ kp (by rw [hsg]; exact hash_size) (by rw [hsg, hsv]) (u8a_one _) ?_))
   replace ho13 := own_d ho13 kp (by decide) (u8a gh);replace ho14 := own_d ho14 kp (by decide) (u8a gh);replace kr := kr.rowFar hprD (u8a gh);replace hBB : Below D Wb (wC.setRow D (u8a gh)) := hBB.grown (grown_row kp (u8a gh)) hD2 (fun k e => by cases e; exact Nat.le_refl _);replace kp := kp.rowA (u8a gh);obtain ⟨wE, hwE⟩ : ∃ W, W = wC.setRow D (u8a gh) := ⟨_, rfl⟩;rw [← hwE] at ho13 ho14 kr hBB kp ⊢;clear hwE;have hD3 : D ≤ wE.heap.size := Nat.le_of_lt kp.lt
   go_upto_region 17 with (first
    | (refine wpList_load_rowG (by rfl) 75 _ rfl _ rfl pr rfl _ (rcA rk) (0, 0) _ kr Tryz.underlying75 rfl (by rw [hsr]; exact rc_size) ?_)
    | (refine wpList_plain rfl fun K hK => wp_buildSliceTo 70 75 1 _ rfl Tryz.underlying70 (rcA rk) (by simp [Act.eval]; exact rc_slice1 rk HRK.out) (hK _ _ ?_))
    | (refine wp_append_row (enc := encRc) Tryz.underlying70 rc_info (rcA_size rcZero_ok) (by decide) (by decide) rfl _ _ rfl (⟨rk, HRK.out⟩ : Rc1) rfl (encRc_len _) (encRc_one _) rfl ho13 rfl (by omega) hD3 ?_; intro v5 wF ho5 hg5))
   replace kr := kr.grown hg5 hprO;replace kp := kp.grown hg5 (own_ty ho13 kp (by decide));replace ho14 := OwnL.kept ho14 hg5 (rows_apart ho14 ho13 (by decide));replace hBB := hBB.grown hg5 hD3 (own_high ho13);have hD4 : D ≤ wF.heap.size := Nat.le_of_lt kp.lt;clear ho13 hg5
   go_wp2_with (first
    | (refine wpList_load_rowG (by rfl) 75 _ rfl _ rfl pr rfl _ (rcA rk) (0, 0) _ kr Tryz.underlying75 rfl (by rw [hsr]; exact rc_size) ?_)
    | (go_at_call 29; (with_reducible refine (mX.out _).mono ?_); rintro e wG ⟨rfl, hb⟩; replace kp := kp.below hb kp.lt; replace ho5 := ho5.below hb; replace ho14 := ho14.below hb; replace hBB := hBB.trans (hb.mono hD4); replace hD4 := Nat.le_trans hD4 hb.size; clear hb)
    | (refine wp_append_row (enc := encT) Tryz.underlying71 str_info rfl (by decide) (by decide) rfl _ _ rfl tx rfl (encT_len _) (encT_one _) rfl ho14 rfl (by omega) hD4 ?_; intro v6 wH ho6 hg6))
   replace kp := kp.grown hg6 (own_ty ho14 kp (by decide));replace ho5 := OwnL.kept ho5 hg6 (rows_apart ho5 ho14 (by decide));replace hBB := hBB.grown hg6 hD4 (own_high ho14);clear hg6 ho14;go_roundw
   case rel => exact ⟨i + 1, by omega, by go_num, ⟨xs ++ [⟨rk, HRK.out⟩], by rw [List.map_append, HXS.out, HR1.out]; rfl, ho5⟩, by rw [HL1.out]; exact ho6, by rw [HP1.out]; exact kp, hBB⟩
   case measure => simp [intOf]; omega
  ·obtain rfl : i = N := by omega
   have hle : ¬ (i : Int) ≤ (m0 : Int) := fun h => hlt ((HMN.out i).1 h);obtain ⟨A13, c13, hv13, hr13⟩ := own_rows hxs ho13;obtain ⟨A14, c14, hv14, hr14⟩ := own_texts ho14;subst hv13 hv14;have HXS := Lib.hid hxs;have hDs : D ≤ wr.heap.size := Nat.le_of_lt kp.lt;clear ho13 ho14 kp HMN hlt hxs;go_upto_region 18 with fail;have hBs := hst.1;have cz1 : wr.cell? ⟨g0, 1, none⟩ = some (.int .u8 (z1 : Int)) := kzz.cell 1;obtain ⟨j, hj1, hj2⟩ : ∃ j : Nat, (z1 : Int).tmod (i : Int) = (j : Int) ∧ j < i := ⟨z1 % i, by rw [Int.tmod_eq_emod_of_nonneg (by omega), ← Int.natCast_emod], Nat.mod_lt _ (by omega)⟩;have hi0 : ((i : Int) == 0) = false := by rw [beq_eq_false_iff_ne]; omega
   have hi0' : ¬ (i : Int) = 0 := by omega
   have hjn : (j : Int) < (i : Int) := by omega
   have mPa := Lib.hid (rPath_q 63 i j A14 c14 (lvs sec i) hj2 (by omega) (by omega) (by omega) (lvs_size sec (by omega)) wr hr14);have mRo := Lib.hid (fun W (h : Below wr.heap.size wr W) => rRoot_q 63 i A14 c14 (lvs sec i) (by omega) (by omega) (by omega) (by omega) (lvs_size sec (by omega)) W (hr14.below h));have hpath : ∀ y ∈ pathT (63 + 1) (txs (lvs sec i)) j, y.length = 32 := pathT_32 63 _ _ (by rw [txs_len, lvs_len]; omega) (by omega);have hpl : (pathT (63 + 1) (txs (lvs sec i)) j).length ≤ 64 := by rw [path_len 63 _ _ (by rw [txs_len, lvs_len]; omega) (by rw [txs_len, lvs_len]; omega) (by omega)]; exact depth_le _ _ _
   have hrl : (rootT (63 + 1) (txs (lvs sec i))).length = 32 := rootT_len;have HFIT := Lib.hid (rec_fits sec i j hj2 (by omega));obtain ⟨b13, o13, xk, hA13, hxk, hrg⟩ := row_rc hr13 hj2;have HXK := Lib.hid (recs_get HXS.out hxk hj2);have hxkOK := xk.2;subst hA13;unfold PathPost at mPa;generalize rootT (63 + 1) (txs (lvs sec i)) = root at *;generalize pathT (63 + 1) (txs (lvs sec i)) j = path at *;have HRL := Lib.hid hrl;have HPT := Lib.hid (And.intro hpath hpl);have hsro : (u8a root).size = 32 := u8a_len hrl;obtain ⟨xr, hxr⟩ : ∃ x : Rc, x = xk.1 := ⟨_, rfl⟩;rw [← hxr] at hrg hxkOK HXK;have HOK := Lib.hid hxkOK;have hsx := rcA_size hxkOK;have hbw := Below.refl wr.heap.size wr;have HR13 := Lib.hid (fun W (h : Below wr.heap.size wr W) => hr13.below h);clear hrl hpath hr13 hr14 hxk hxkOK hxr hst kzz cz0 hj2 hpl
   go_upto_region 21 with (first
    | (go_at_call 30; (with_reducible refine mPa.out.mono ?_); rintro e w7 ⟨v19, rfl, hoP, hb⟩; replace hbw := below_then hbw hb; clear hb)
    | (go_at_call 31; (with_reducible refine (mRo.out _ hbw).mono ?_); rintro e w8 ⟨rfl, hb⟩; replace hoP := hoP.below hb; replace hbw := below_then hbw hb; clear hb)
    | (refine wpList_store_rowTo rfl 38 _ _ rfl rfl _ (u8a root) rfl rfl _ _ (Blk.new _ _ _) (by rw [hsro]; exact hash_size) (by rw [hsro]; rfl) (u8a_one _) ?_))
   refine name1r ?_;intro w9 kR hb9;obtain ⟨pR, hpR⟩ : ∃ q, q = w8.heap.size := ⟨_, rfl⟩;have hpRw : wr.heap.size ≤ pR := by rw [hpR]; exact hbw.size
   have hPO := own_not (own_lt hoP) (Nat.le_of_eq hpR.symm);rw [← hpR] at kR ⊢;replace hoP := hoP.below hb9;replace hbw := below_then hbw hb9;clear hb9 hpR mPa mRo cz1;have hrg9 := range_below hrg hbw
   go_upto_region 23 with (first
    | (refine wpList_load_mid rfl 75 _ rfl b13 (o13 + j * 102) rfl (rcCells xr) _ hrg9 Tryz.underlying75 rfl (by rw [rcCells_len HOK.out]; exact rc_size) ?_)
    | (refine wpList_store_rowTo rfl 75 _ _ rfl rfl _ (rcA xr) rfl rfl _ _ (Blk.new _ _ _) (by rw [hsx]; exact rc_size) (by rw [hsx]; exact rcA_size rcZero_ok) (rcA_one _) ?_))
   refine name1r ?_;intro wX kX hbX;obtain ⟨pX, hpX⟩ : ∃ q, q = w9.heap.size := ⟨_, rfl⟩;have hpXw : wr.heap.size ≤ pX := by rw [hpX]; exact hbw.size
   have hRX : pR ≠ pX := by rw [hpX]; exact Nat.ne_of_lt kR.lt
   rw [← hpX] at kX ⊢;replace hoP := hoP.below hbX;replace kR := kR.below hbX kR.lt;replace hbw := below_then hbw hbX;clear hbX hpX hrg9;have hDr : D ≤ wr.heap.size := hDs;obtain ⟨A4, c4, hv19, hr4⟩ := OwnL.row hoP encH_len;subst hv19;obtain ⟨n4, hn4⟩ : ∃ k, k = path.length := ⟨_, rfl⟩;rw [← hn4] at hoP hr4 hPO ⊢;have hn4l : n4 ≤ 64 := by rw [hn4]; exact HPT.out.2
   have HN4 := Lib.hid hn4;clear hr4 hn4;have hi64 : I64 (i : Int) := ⟨by omega, by omega⟩;have hj64 : I64 (j : Int) := ⟨by omega, by omega⟩;have hel := entriesL_size (d := lottoB) (size := (i : Int)) (root := root) (by show 5 ≤ 1000; omega) hi64 HRL.out;obtain ⟨ep, hep, hV⟩ := chain_votesV HCO.out.1 HCO.out.2 HH.out;obtain ⟨hIv, hvl, hm0, hVo⟩ := hV (strB (entriesL lottoB (i : Int) root)) 65535 0 (by omega) (by omega) (by omega);have hmany := hm0 rfl (fun j hj => by rcases (show j = 0 ∨ j = 1 ∨ j = 2 ∨ j = 3 by omega) with rfl | rfl | rfl | rfl <;> rfl);have HVV := Lib.hid hV;generalize votesL ep (strB (entriesL lottoB (i : Int) root)) 65535 0 ep.ms.length = vs at *;have HIV := Lib.hid hIv;have mE := Lib.hid (rEntries_q lottoB (i : Int) root (by show 5 ≤ 1000; omega) hi64 HRL.out);unfold lottoB at mE;have HW0 := Lib.hid (fun W (h : Below wX.heap.size wX W) => below_then hBs (below_then hbw h));have HDW := Lib.hid (fun W (h : Below wX.heap.size wX W) => hBr.trans ((below_then hbw h).mono hDr));have HVO := Lib.hid (fun W (h : Below wX.heap.size wX W) => hVo _ W gs _ AG 1 cG (.slice (some ⟨b, o, none⟩) 1 cH) (HCI.out W (HW0.out W h)).1 (HCI.out W (HW0.out W h)).2);have h0 : recR (pub : Int) xr (i : Int) (j : Int) root path t0.mems vs = 0 := by
    have e1 := HXK.out;have e2 := HPUB.out;have e3 := HFIT.out;subst e1;rw [e2];exact recR_ok (rec_signed sec j HKEY.out) e3 hmany
   have hright : rightMems t0.mems = true := (follow_ok HCO.out.1 HCO.out.2 HH.out HH.out).2.1;have hIM := HSM.out.m2;have HRM := Lib.hid (And.intro hright hIM);have hpubI : I64 (pub : Int) := ⟨by omega, by omega⟩
   have mRc := Lib.hid (fun (A5 : Option Addr) (c5 : Nat) W (h : Below wX.heap.size wX W) (hv : RowVt W A5 vs.length c5 vs) => by
    have := Receipt_q pc (pub : Int) (i : Int) (j : Int) xr root A4 n4 c4 path A5 vs.length c5 vs W0.heap.size t0 t0 HSM.out HRM.out.1 hpubI hi64 hj64 HOK.out HRL.out (by omega) HPT.out.1 (by omega) HIV.out W (HTT.out W (HW0.out W h)) (HST.out W (HDW.out W h)).2.1 (by have := OwnL.row (hoP.below h) encH_len; obtain ⟨A, c, e, r⟩ := this; rw [← HN4.out] at e r; cases e; exact r) hv;rw [h0] at this
    exact this)
   have HC := Lib.hid (fun Z (h : Below wX.heap.size wX Z) => And.intro (kX.below h kX.lt) (And.intro (kR.below h kR.lt) (hoP.below h)));have HS := Lib.hid (fun Z (h : Below wX.heap.size wX Z) => And.intro ((HG.out Z (HW0.out Z h)).1.cell 0) (And.intro ((HG.out Z (HW0.out Z h)).1.cell 1) (hash_range (kR.below h kR.lt))));have hbd := (Below.refl wX.heap.size wX).drew;clear hVo hmany hIv h0 hright hIM kX kR hoP hm0 hV;refine region_here (fun Z : World => Z.cell? ⟨g, 0, none⟩ = some (.slice AG 1 cG) ∧ Z.cell? ⟨g, 1, none⟩ = some (.slice (some ⟨b, o, none⟩) 1 cH) ∧ Z.rangeAt pR 0 (u8l root)) 4 (by kernel_rfl) (HS.out _ hbd) (fun hHeld => ?_);generalize wX.drew = V at *;refine tkT 0 rfl ?_;refine tkT 1 rfl ?_;refine tkV 2 (.agg (u8a root)) rfl (yieldsIf_load_mid (by rfl) 38 (.tmp 21) rfl pR 0 rfl (u8l root) _ (fun Z hZ => hZ.2.2) Tryz.underlying38 rfl (by rw [u8l_len, HRL.out]; exact hash_size)) ?_;refine tkO 3 rfl fun K hK => ?_;go_simp;go_at_call 32
   (with_reducible refine (mE.out _).mono ?_)
   rintro e wa ⟨rfl, hba⟩
   (try go_wp2_with fail)
   replace hbd := below_then hbd hba;refine hK.out _ _ ?_ (fun hHeld3 => ?_)
   ·exact HS.out _ hbd
   clear hK K
   try simp only [Act.put, pq1, pq2, pq3]
   refine tkK 4 rfl fun K hK => ?_;go_simp;go_at_call 18;refine (HVO.out _ hbd).mono ?_;rintro e wv ⟨v24, rfl, hoV, hbv⟩;obtain ⟨A5, c5, rfl, hv5⟩ := OwnL.row hoV encVt_len
   (try go_wp2_with fail)
   replace hbd := below_then hbd hbv;refine hK.out _ _ ?_;clear hK K
   try simp only [Act.put, pq1, pq2, pq3]
   refine tkB 5 rfl ?_;refine tkD ?_;go_upto_region 24 with fail;have kX := (HC.out _ hbd).1;have kR := (HC.out _ hbd).2.1
   go_upto_region 26 with (first
    | (refine wpList_load_rowG (by rfl) 75 _ rfl _ rfl pX rfl _ (rcA xr) (0, 0) _ kX Tryz.underlying75 rfl (by rw [hsx]; exact rc_size) ?_)
    | (refine wpList_load_rowG (by rfl) 38 _ rfl _ rfl pR rfl _ (u8a root) (0, 0) _ kR Tryz.underlying38 rfl (by rw [hsro]; exact hash_size) ?_)
    | (go_at_call 33; (with_reducible refine (mRc.out _ _ _ hbd hv5).mono ?_); rintro e wS ⟨rfl, hbS⟩; replace hoV := hoV.below hbS; replace hv5 := hv5.below hbS; replace hbd := below_then hbd hbS))
   clear kX kR hbS;obtain ⟨m, hm8a, hm8b⟩ : ∃ m : Nat, q0 % 8 = (m : Int) ∧ m < 8 := ⟨(q0 % 8).toNat, by omega, by omega⟩;have mm : Hid (Ret 34 #[.int .i64 q0, .int .i64 8] (.int .i64 (m : Int))) := Lib.hid (hm8a ▸ Mod_q q0 8 (by omega) (by omega));have HQC := Lib.hid (fun W (h : Below wX.heap.size wX W) => And.intro ((HG.out W (HW0.out W h)).2.2.cell 0) (And.intro ((HG.out W (HW0.out W h)).2.2.cell 1) ((HG.out W (HW0.out W h)).2.2.cell 2)));have e0 : wS.cell? ⟨g0 + 1, 0, none⟩ = some (.int .i64 q0) := (HQC.out _ hbd).1;clear hm8a
   go_upto_block 2 with (go_at_call 34; (with_reducible refine (mm.out _).mono ?_); rintro e wt ⟨rfl, hbt⟩; replace hoV := hoV.below hbt; replace hv5 := hv5.below hbt; replace hbd := below_then hbd hbt; clear hbt)
   clear e0;have hfr := And.intro (HC.out _ hbd).1 (And.intro (HC.out _ hbd).2.1 (And.intro (HC.out _ hbd).2.2 (HDW.out _ hbd)));obtain ⟨nv, hnv⟩ : ∃ k, k = vs.length := ⟨_, rfl⟩;have hnv4 : nv ≤ 4 := by rw [hnv]; exact hvl
   rw [← hnv] at hoV hv5 ⊢;clear hnv hvl;have hXw : D ≤ pX := by omega
   have hRw : D ≤ pR := by omega
   go_cut [12, 18, 19, 22, 24] (fun s12 s18 s19 s22 s24 wx => ∃ (key size n : Int) (x : Rc) (rt : List UInt8) (A4 : Option Addr) (n4 c4 : Nat) (ps : List (List UInt8)) (A5 : Option Addr) (n5 c5 : Nat) (us : List Vt), s12 = .int .i64 key ∧ s18 = .int .i64 n ∧ s19 = .slice A4 n4 c4 ∧ s22 = .int .i64 size ∧ s24 = .slice A5 n5 c5 ∧
    I64 key ∧ I64 size ∧ I64 n ∧ Hid (RcOK x) ∧ Hid (rt.length = 32) ∧ n4 ≤ 1000 ∧ Hid (∀ y ∈ ps, y.length = 32) ∧ n5 ≤ 100000 ∧ Hid (I64V us) ∧ RowH wx A4 n4 c4 ps ∧ RowVt wx A5 n5 c5 us ∧ Blk wx pX 75 (rcA x) ∧ Blk wx pR 38 (u8a rt) ∧ Below D Wb wx)
   case first =>
    obtain ⟨kX, kR, hoP, hBw⟩ := hfr;have hr4 := own_at_row hoP encH_len;have e1 : wt.cell? ⟨g0 + 1, 1, none⟩ = some (.int .i64 q1) := (HQC.out _ hbd).2.1;have hq1 := HQ.out.2.1;have HPT1 := Lib.hid HPT.out.1;have hDt : D ≤ wt.heap.size := by have := kX.lt; omega
    have hm' : m = 0 ∨ m = 1 ∨ m = 2 ∨ m = 3 ∨ m = 4 ∨ m = 5 ∨ m = 6 ∨ m = 7 := by omega
    clear mm hm8b
    rcases hm' with rfl | rfl | rfl | rfl | rfl | rfl | rfl | rfl
    ·skip;obtain ⟨b2, hb2, hb2m, hb2l⟩ := u16_of2 q2;obtain ⟨b1, hb1, hb1m, hb1l⟩ := u16_of2 q1;obtain ⟨hIv2, hvl2, -, hVo2⟩ := HVV.out (strB (entriesL lottoB (i : Int) root)) b2 b1 (by omega) hb2l hb1l;generalize votesL ep (strB (entriesL lottoB (i : Int) root)) b2 b1 ep.ms.length = vs2 at *;have HIV2 := Lib.hid hIv2;have HVO2 := Lib.hid (fun W (h : Below wX.heap.size wX W) => hVo2 _ W gs _ AG 1 cG (.slice (some ⟨b, o, none⟩) 1 cH) (HCI.out W (HW0.out W h)).1 (HCI.out W (HW0.out W h)).2);have HS2 := Lib.hid (fun Z (h : Below wX.heap.size wX Z) => And.intro (HS.out Z h) (HQC.out Z h).2);clear hVo2 hIv2 e1;go_upto_region 28 with fail;replace hbd := hbd.drew;refine region_here (fun Z : World => (Z.cell? ⟨g, 0, none⟩ = some (.slice AG 1 cG) ∧ Z.cell? ⟨g, 1, none⟩ = some (.slice (some ⟨b, o, none⟩) 1 cH) ∧ Z.rangeAt pR 0 (u8l root)) ∧ Z.cell? ⟨g0 + 1, 1, none⟩ = some (.int .i64 q1) ∧ Z.cell? ⟨g0 + 1, 2, none⟩ = some (.int .i64 q2)) 10 (by kernel_rfl) (HS2.out _ hbd) (fun hHeld => ?_);generalize wt.drew = V3 at *;refine tkT 0 rfl ?_;refine tkT 1 rfl ?_;refine tkV 2 (.agg (u8a root)) rfl (yieldsIf_load_mid (by rfl) 38 (.tmp 21) rfl pR 0 rfl (u8l root) _ (fun Z hZ => hZ.1.2.2) Tryz.underlying38 rfl (by rw [u8l_len, HRL.out]; exact hash_size)) ?_;refine tkT 4 rfl ?_;refine tkT 5 rfl ?_;refine tkT 6 rfl ?_;refine tkT 7 rfl ?_;refine tkT 8 rfl ?_;refine tkT 9 rfl ?_;refine tkO 3 rfl fun K hK => ?_;go_simp;go_at_call 32
     (with_reducible refine (mE.out _).mono ?_)
     rintro e wa ⟨rfl, hba⟩
     (try go_wp2_with fail)
     replace hbd := below_then hbd hba;refine hK.out _ _ ?_ (fun hHeld3 => ?_)
     ·exact HS2.out _ hbd
     clear hK K
     try simp only [Act.put, pq1, pq2, pq3]
     refine tkK 10 rfl fun K hK => ?_;go_simp;go_at_call 18;refine (HVO2.out _ hbd).mono ?_;rintro e wv ⟨v25, rfl, hoV6, hbv⟩;obtain ⟨A6, c6, rfl, hv6⟩ := OwnL.row hoV6 encVt_len
     (try go_wp2_with fail)
     replace hbd := below_then hbd hbv;refine hK.out _ _ ?_;clear hK K
     try simp only [Act.put, pq1, pq2, pq3]
     refine tkB 11 rfl ?_;refine tkD ?_;go_wp2_with fail;obtain ⟨kX, kR, hoP⟩ := HC.out _ hbd;have hr4 := own_at_row hoP encH_len;go_meet;exact ⟨_, _, _, xr, root, _, _, _, path, _, _, _, vs2, rfl, rfl, rfl, rfl, rfl, hpubI, hi64, hj64, HOK, HRL, by omega, HPT1, by omega, HIV2, hr4, hv6, kX, kR, HDW.out _ hbd⟩
    ·obtain ⟨pb, mPb, hpb⟩ := public_any q1 hq1;have mPb' := Lib.hid mPb;clear mPb;go_wp2_with (go_at_call 35; (with_reducible refine (mPb'.out _).mono ?_); rintro e wu ⟨rfl, hww⟩; obtain rfl := hww.symm);go_meet;exact ⟨pb, _, _, xr, root, _, _, _, path, _, _, _, vs, rfl, rfl, rfl, rfl, rfl, hpb, hi64, hj64, HOK, HRL, by omega, HPT1, by omega, HIV, hr4, hv5, kX, kR, hBw⟩
    ·have cs := (rc_at kX HOK.out).s;have fs := kX.frozen 1;go_wp2_with fail;have kX2 := kX.set_ 1 (.int .i64 (wrap64 (xr.s + q1)));rw [rc_serial] at kX2;have kR2 := kR.far (p := ⟨pX, 1, none⟩) hRX (.int .i64 (wrap64 (xr.s + q1)));have hg := grown_set (grown_refl wt (some pX)) 1 (.int .i64 (wrap64 (xr.s + q1)));have hoP2 := own_at_row (OwnL.kept hoP hg (.inr (Ne.symm (own_ty hoP kX (by decide))))) encH_len;have hoV2 := own_at_row (OwnL.kept hoV hg (.inr (Ne.symm (own_ty hoV kX (by decide))))) encVt_len;go_meet;exact ⟨_, _, _, { xr with s := wrap64 (xr.s + q1) }, root, _, _, _, path, _, _, _, vs, rfl, rfl, rfl, rfl, rfl, hpubI, hi64, hj64, Lib.hid ⟨HOK.out.k, wrap64_bd2 _, HOK.out.n, HOK.out.d, HOK.out.o, HOK.out.h, HOK.out.p, HOK.out.r, HOK.out.t⟩, HRL, by omega, HPT1, by omega, HIV, hoP2, hoV2, kX2, kR2, below_grown hBw hg hXw hDt⟩
    ·go_wp2_with fail;go_meet;exact ⟨_, wrap64 ((i : Int) + q1), _, xr, root, _, _, _, path, _, _, _, vs, rfl, rfl, rfl, rfl, rfl, hpubI, wrap64_bd2 _, hj64, HOK, HRL, by omega, HPT1, by omega, HIV, hr4, hv5, kX, kR, hBw⟩
    ·go_wp2_with fail;go_meet;exact ⟨_, _, wrap64 ((j : Int) + q1), xr, root, _, _, _, path, _, _, _, vs, rfl, rfl, rfl, rfl, rfl, hpubI, hi64, wrap64_bd2 _, HOK, HRL, by omega, HPT1, by omega, HIV, hr4, hv5, kX, kR, hBw⟩
    ·obtain ⟨u0, hu0⟩ : ∃ u0, root[0]? = some u0 := ⟨_, List.getElem?_eq_getElem (by rw [HRL.out]; omega)⟩;obtain ⟨y0, hy0, hy1⟩ := byteU_of2 q1;obtain ⟨z0', hz0'⟩ : ∃ z : UInt8, bits .xor .u8 (u0.toNat : Int) (y0.toNat : Int) = (z.toNat : Int) := ⟨_, u8_xor u0 y0⟩;have cR : wt.cell? ⟨pR, 0, none⟩ = some (.int .u8 (u0.toNat : Int)) := kR.u8A hu0;have fR := kR.frozen 0;clear hu0;go_wp2_with fail;have kR2 := kR.put8A 0 z0';have kX2 := kX.far (p := ⟨pR, 0, none⟩) (Ne.symm hRX) (.int .u8 (z0'.toNat : Int));have hg := grown_set (grown_refl wt (some pR)) 0 (.int .u8 (z0'.toNat : Int));have hoP2 := own_at_row (OwnL.kept hoP hg (.inr (Ne.symm hPO))) encH_len;have hoV2 := own_at_row (OwnL.kept hoV hg (.inr (Ne.symm (own_ty hoV kR (by decide))))) encVt_len;go_meet;exact ⟨_, _, _, xr, root.set 0 z0', _, _, _, path, _, _, _, vs, rfl, rfl, rfl, rfl, rfl, hpubI, hi64, hj64, HOK, Lib.hid (by rw [List.length_set]; exact HRL.out), by omega, HPT1, by omega, HIV, hoP2, hoV2, kX2, kR2, below_grown hBw hg hRw hDt⟩
    ·go_wp2_with (first
      | (refine wpList_buildTo rfl 38 _ rfl _ rfl (u8a zero32) (by simp [Act.eval]; exact hash_built0) ?_)
      | (refine wpList_plain rfl fun K hK => wp_buildSliceTo 35 38 1 _ rfl Tryz.underlying35 (u8a zero32) (by simp [Act.eval]; exact hash_slice1 zero32 rfl) (hK _ _ ?_))
      | (refine wp_append_row (enc := encH) Tryz.underlying35 hash_info rfl (by decide) (by decide) rfl _ _ rfl zero32 rfl (encH_len _) (encH_one _) rfl hoP rfl (by have := HPT.out.2; omega) (below_then hbw hbd).size ?_; intro v6 w6 ho6 hg6))
     have kX2 := kX.grown hg6 (own_ty hoP kX (by decide));have kR2 := kR.grown hg6 hPO;have hoV2 := own_at_row (OwnL.kept hoV hg6 (rows_apart hoV hoP (by decide))) encVt_len;obtain ⟨A6, c6, rfl, hr6⟩ := OwnL.row ho6 encH_len;have hBw2 : Below D Wb w6 := hBw.grown hg6 hDt (fun k e => Nat.le_trans hDr (own_high hoP k e));go_meet;exact ⟨_, _, _, xr, root, _, _, _, path ++ [zero32], _, _, _, vs, rfl, rfl, rfl, rfl, rfl, hpubI, hi64, hj64, HOK, HRL, by rw [List.length_append]; have := HPT.out.2; show _ + 1 ≤ 1000; omega, Lib.hid (fun y hy => (List.mem_append.1 hy).elim (HPT.out.1 y) (fun h => by rw [List.mem_singleton.1 h]; rfl)), by omega, HIV, hr6, hoV2, kX2, kR2, hBw2⟩
    ·obtain ⟨k7, hk7, hk7l⟩ : ∃ k7 : Nat, q1 % (i : Int) = (k7 : Int) ∧ k7 < i := ⟨(q1 % (i : Int)).toNat, by have := Int.emod_nonneg q1 (show (i : Int) ≠ 0 by omega); omega, by have := Int.emod_nonneg q1 (show (i : Int) ≠ 0 by omega); have := Int.emod_lt_of_pos q1 (show (0 : Int) < (i : Int) by omega); omega⟩;have m7 : Hid (Ret 34 #[.int .i64 q1, .int .i64 (i : Int)] (.int .i64 (k7 : Int))) := Lib.hid (hk7 ▸ Mod_q q1 (i : Int) (by omega) (by omega));have hk7' : (k7 : Int) < (i : Int) := by omega
     obtain ⟨b', o', x7, hA7, hx7, hrg7⟩ := row_rc (HR13.out _ (below_then hbw hbd)) hk7l
     cases hA7
     have hx7o := x7.2;obtain ⟨xs7, hxs7⟩ : ∃ x : Rc, x = x7.1 := ⟨_, rfl⟩;rw [← hxs7] at hrg7 hx7o;have HX7 := Lib.hid hx7o;have hs7 := rcA_size hx7o;clear hk7 hx7 hx7o hxs7 hk7l
     go_wp2_with (first
      | (go_at_call 34; (with_reducible refine (m7.out _).mono ?_); rintro e wu ⟨rfl, hbu⟩; replace hoV := hoV.below hbu; replace hoP := hoP.below hbu; replace kX := kX.below hbu kX.lt; replace kR := kR.below hbu kR.lt; replace hBw := hBw.trans (hbu.mono hDt); replace hDt := Nat.le_trans hDt hbu.size; replace hrg7 := range_below hrg7 hbu)
      | (refine wpList_load_mid rfl 75 _ rfl b13 (o13 + k7 * 102) rfl (rcCells xs7) _ hrg7 Tryz.underlying75 rfl (by rw [rcCells_len HX7.out]; exact rc_size) ?_)
      | (refine wpList_store_rowTo rfl 75 _ _ rfl rfl _ (rcA xs7) rfl rfl _ _ kX (by rw [hs7]; exact rc_size) (by rw [hs7, hsx]) (rcA_one _) ?_))
     have hg := grown_row kX (rcA xs7);have hoP2 := own_at_row (OwnL.kept hoP hg (.inr (Ne.symm (own_ty hoP kX (by decide))))) encH_len;have hoV2 := own_at_row (OwnL.kept hoV hg (.inr (Ne.symm (own_ty hoV kX (by decide))))) encVt_len;have kR2 := kR.rowFar hRX (rcA xs7);have kX2 := kX.rowA (rcA xs7);go_meet;exact ⟨_, _, _, xs7, root, _, _, _, path, _, _, _, vs, rfl, rfl, rfl, rfl, rfl, hpubI, hi64, hj64, HX7, HRL, by omega, HPT1, by omega, HIV, hoP2, hoV2, kX2, kR2, below_grown hBw hg hXw hDt⟩
   clear hfr hbd hoV hv5 mm HC HS HQC;obtain ⟨key, size, n9, x9, rt, A9, n9a, c9, ps9, A10, n10, c10, us, rfl, rfl, rfl, rfl, rfl, hk9, hs9, hn9, HX9, HRT9, hn9l, HPS9, hn10, HIU, hr9, hv9, kX, kR, hB9⟩ := hcut;rename World => wz;have hDz : D ≤ wz.heap.size := by have := kX.lt; omega
   have mA := Lib.hid (fun W (h : Below wz.heap.size wz W) => Receipt_q pc key size n9 x9 rt A9 n9a c9 ps9 A10 n10 c10 us W0.heap.size t0 t0 HSM.out HRM.out.1 hk9 hs9 hn9 HX9.out HRT9.out hn9l HPS9.out hn10 HIU.out W (HTT.out W (HST.out W (hB9.trans (h.mono hDz))).1) (HST.out W (hB9.trans (h.mono hDz))).2.1 (hr9.below h) (hv9.below h))
   have mB := Lib.hid (fun W (h : Below wz.heap.size wz W) => rReceipt_q pm key size n9 x9 rt A9 n9a c9 ps9 A10 n10 c10 us Am nm cm t0.mems HRM.out.1 HRM.out.2 hk9 hs9 hn9 HX9.out HRT9.out hn9l HPS9.out hn10 HIU.out W (HST.out W (hB9.trans (h.mono hDz))).2.2 (by
    obtain ⟨A', c', e', r'⟩ := (HX0.out W (HST.out W (hB9.trans (h.mono hDz))).1).1.m;dsimp only at e';rw [← HNM.out] at e' r'
    cases e'
    exact r') (hr9.below h) (hv9.below h))
   generalize recR key x9 size n9 rt ps9 t0.mems us = rz at *;have HS9 := Lib.hid (fun Z (h : Below wz.heap.size wz Z) => And.intro (rc_at (kX.below h kX.lt) HX9.out).all (hash_range (kR.below h kR.lt)));have hbd := (Below.refl wz.heap.size wz).drew;clear kX kR hr9 hv9;go_upto_region 43 with fail;refine region_here (fun Z : World => Z.rangeAt pX 0 (rcCells x9) ∧ Z.rangeAt pR 0 (u8l rt)) 19 (by kernel_rfl) (HS9.out _ hbd) (fun hHeld => ?_);generalize wz.drew = V4 at *;refine tkT 0 rfl ?_;refine tkT 1 rfl ?_;refine tkT 2 rfl ?_;refine tkV 3 (.agg (rcA x9)) rfl (yieldsIf_load_mid (by rfl) 75 (.tmp 23) rfl pX 0 rfl (rcCells x9) _ (fun Z hZ => hZ.1) Tryz.underlying75 rfl (by rw [rcCells_len HX9.out]; exact rc_size)) ?_;refine tkT 4 rfl ?_;refine tkT 5 rfl ?_;refine tkV 6 (.agg (u8a rt)) rfl (yieldsIf_load_mid (by rfl) 38 (.tmp 21) rfl pR 0 rfl (u8l rt) _ (fun Z hZ => hZ.2) Tryz.underlying38 rfl (by rw [u8l_len, HRT9.out]; exact hash_size)) ?_;refine tkT 7 rfl ?_;refine tkT 8 rfl ?_;refine tkT 9 rfl ?_;refine tkT 11 rfl ?_;refine tkV 12 (.agg (rcA x9)) rfl (yieldsIf_load_mid (by rfl) 75 (.tmp 23) rfl pX 0 rfl (rcCells x9) _ (fun Z hZ => hZ.1) Tryz.underlying75 rfl (by rw [rcCells_len HX9.out]; exact rc_size)) ?_;refine tkT 13 rfl ?_;refine tkT 14 rfl ?_;refine tkV 15 (.agg (u8a rt)) rfl (yieldsIf_load_mid (by rfl) 38 (.tmp 21) rfl pR 0 rfl (u8l rt) _ (fun Z hZ => hZ.2) Tryz.underlying38 rfl (by rw [u8l_len, HRT9.out]; exact hash_size)) ?_;refine tkT 16 rfl ?_;refine tkT 17 rfl ?_;refine tkT 18 rfl ?_;refine tkO 10 rfl fun K hK => ?_;go_simp;go_at_call 33
   (with_reducible refine (mA.out _ hbd).mono ?_)
   rintro e wl ⟨rfl, hbwl⟩
   (try go_wp2_with fail)
   replace hbd := below_then hbd hbwl;refine hK.out _ _ ?_ (fun hHeld10 => ?_)
   ·exact HS9.out _ hbd
   clear hK K
   try simp only [Act.put, pq1, pq2, pq3]
   refine tkK 19 rfl fun K hK => ?_;go_simp;go_at_call 36
   (with_reducible refine (mB.out _ hbd).mono ?_)
   rintro e wm ⟨rfl, hbwm⟩
   (try go_wp2_with fail)
   replace hbd := below_then hbd hbwm;refine hK.out _ _ ?_;clear hK K
   try simp only [Act.put, pq1, pq2, pq3]
   refine tkB 20 rfl ?_;refine tkB 21 rfl ?_;refine tkB 22 rfl ?_;refine tkD ?_;go_wp2_with fail;go_ret;exact ⟨by simp, below_then HBW.out (HST.out _ (hB9.trans (hbd.mono hDz))).1⟩
end Go.Proofs.YtkpinmejfdnhbaaGreatDoor
