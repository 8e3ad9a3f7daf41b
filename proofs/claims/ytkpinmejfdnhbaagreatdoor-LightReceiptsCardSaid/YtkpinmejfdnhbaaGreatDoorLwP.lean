/- Joined by a program: LkN, LkO, LkP. -/
import Derived.Test.YtkpinmejfdnhbaaGreatDoorLwO
import Derived.Test.YtkpinmejfdnhbaaGreatDoorLwH
import Derived.Deep.DeepCutAuto
import Derived.Deep.CutBlock
set_option maxRecDepth 100000
set_option maxHeartbeats 1500000
namespace Go.Proofs.YtkpinmejfdnhbaaGreatDoor
open Go.RowKit Go.Shelf
attribute [local go_sem] Oper.semAt_some
structure Gc where
 a : Value
 b : Value
 c : Value
 d : Value
 f : Value
def encGc (x : Gc) : List Value := [x.a, x.b, x.c, x.d, x.f]
theorem encGc_len (x : Gc) : (encGc x).length = 5 := rfl
theorem grp_info : (Tryz.prog.info? 59).map (fun i => (i.zero, i.size, i.bytes)) = some (some (.agg #[.slice none 0 0, .slice none 0 0, .slice none 0 0, .slice none 0 0, .slice none 0 0]), 5, 120) := by kernel_rfl
theorem hdr_info : (Tryz.prog.info? 46).map (fun i => (i.zero, i.size, i.bytes)) = some (some (.agg #[.int .i64 0, .slice none 0 0, .slice none 0 0, .slice none 0 0, .slice none 0 0]), 5, 104) := by kernel_rfl
theorem GrpW.far {B k : Nat} {w w' : World} {a b c d f : Value} {ms : List Mem} {ss cf : List Nat} {t : TypeId} {cs : Array Value} (h : GrpW B w a b c d f ms ss cf) (hk : Blk w k t cs) (h1 : t ≠ 61) (h2 : t ≠ 3) (h3 : t ≠ 25) (hg : w.grownBy w' (some k)) : GrpW B w' a b c d f ms ss cf := by
 obtain ⟨q1, q2, q3, q4, vs, q5, q6⟩ := h;exact ⟨OwnL.kept q1 hg (.inr (Ne.symm (own_ty q1 hk h1))), OwnL.kept q2 hg (.inr (Ne.symm (own_ty q2 hk h2))), OwnL.kept q3 hg (.inr (Ne.symm (own_ty q3 hk h2))), OwnL.kept q4 hg (.inr (Ne.symm (own_ty q4 hk h2))), vs, OwnL.kept q5 hg (.inr (Ne.symm (own_ty q5 hk h3))), q6.far hk h2 hg⟩
theorem GrpW.apart {α : Type} {enc : α → List Value} {e : TypeId} {s B B2 : Nat} {w w' : World} {v : Value} {l : List α} {a b c d f : Value} {ms : List Mem} {ss cf : List Nat} (h : GrpW B w a b c d f ms ss cf) (ho : OwnL enc e s B2 w v l) (h1 : 61 ≠ e) (h2 : 3 ≠ e) (h3 : 25 ≠ e) (hg : w.grownBy w' v.ownBlock) : GrpW B w' a b c d f ms ss cf := by
 obtain ⟨q1, q2, q3, q4, vs, q5, q6⟩ := h;exact ⟨OwnL.kept q1 hg (rows_apart q1 ho h1), OwnL.kept q2 hg (rows_apart q2 ho h2), OwnL.kept q3 hg (rows_apart q3 ho h2), OwnL.kept q4 hg (rows_apart q4 ho h2), vs, OwnL.kept q5 hg (rows_apart q5 ho h3), q6.len, fun i u l hu hl => OwnL.kept (q6.one i u l hu hl) hg (rows_apart (q6.one i u l hu hl) ho h2)⟩
theorem HdrOwn.apart {α : Type} {enc : α → List Value} {e : TypeId} {s B B2 : Nat} {w w' : World} {v : Value} {l : List α} {x : Hc} {h : Hdr} (hi : HdrOwn B w x h) (ho : OwnL enc e s B2 w v l) (h1 : 61 ≠ e) (h2 : 3 ≠ e) (h3 : 25 ≠ e) (h4 : 38 ≠ e) (hg : w.grownBy w' v.ownBlock) : HdrOwn B w' x h := by
 obtain ⟨q0, q1, q2, ⟨vs, q4, q5⟩, q6⟩ := hi;exact ⟨q0, OwnL.kept q1 hg (rows_apart q1 ho h1), OwnL.kept q2 hg (rows_apart q2 ho h2), ⟨vs, OwnL.kept q4 hg (rows_apart q4 ho h3), q5.len, fun i u l hu hl => OwnL.kept (q5.one i u l hu hl) hg (rows_apart (q5.one i u l hu hl) ho h2)⟩, OwnL.kept q6 hg (rows_apart q6 ho h4)⟩
abbrev OwnG (B : Nat) (w : World) (v : Value) (l : List Gc) : Prop := OwnL encGc 59 5 B w v l
abbrev Hc1 := { x : Hc // ∀ u ∈ encHd x, u.oneCell' = true }
def encH1 (x : Hc1) : List Value := encHd x.1
theorem encH1_len (x : Hc1) : (encH1 x).length = 5 := rfl
theorem encH1_one (x : Hc1) : ∀ u ∈ encH1 x, u.oneCell' = true := x.2
abbrev OwnHd (B : Nat) (w : World) (v : Value) (l : List Hc1) : Prop := OwnL encH1 46 5 B w v l
theorem rowHd_map {w : World} {A : Option Addr} {n c : Nat} {ys : List Hc1} (h : Row encH1 5 w A n c ys) : RowHd w A n c (ys.map (·.1)) := by
 refine ⟨by rw [List.length_map]; exact h.len, h.cap, fun h0 => ?_⟩;obtain ⟨b, o, e, hc⟩ := h.at_ h0;refine ⟨b, o, e, fun k j x u hx hu => ?_⟩;rw [List.getElem?_map] at hx;obtain ⟨y, hy, rfl⟩ := Option.map_eq_some_iff.1 hx;exact hc k j y u hy hu
structure ChainIn (B : Nat) (w : World) (gs : List Gc) (xs : List Hc) (es : List Ep) (hs : List Hdr) : Prop where
 gl : gs.length = es.length
 g : ∀ (i : Nat) (q : Gc) (e : Ep), gs[i]? = some q → es[i]? = some e → GrpW B w q.a q.b q.c q.d q.f e.ms e.ss e.cf
 hl : xs.length = hs.length
 h : ∀ (i : Nat) (x : Hc) (y : Hdr), xs[i]? = some x → hs[i]? = some y → HdrOwn B w x y
theorem ChainIn.nil (B : Nat) (w : World) : ChainIn B w [] [] [] [] := ⟨rfl, by simp, rfl, by simp⟩
theorem ChainIn.below {B : Nat} {w w' : World} {gs : List Gc} {xs : List Hc} {es : List Ep} {hs : List Hdr} (h : ChainIn B w gs xs es hs) (hb : Below w.heap.size w w') : ChainIn B w' gs xs es hs :=
 ⟨h.gl, fun i q e hq he => (h.g i q e hq he).below hb, h.hl, fun i x y hx hy => (h.h i x y hx hy).below hb⟩
theorem ChainIn.far {B k : Nat} {w w' : World} {gs : List Gc} {xs : List Hc} {es : List Ep} {hs : List Hdr} {t : TypeId} {cs : Array Value} (h : ChainIn B w gs xs es hs) (hk : Blk w k t cs) (h1 : t ≠ 61) (h2 : t ≠ 3) (h3 : t ≠ 25) (h4 : t ≠ 38) (hg : w.grownBy w' (some k)) : ChainIn B w' gs xs es hs :=
 ⟨h.gl, fun i q e hq he => (h.g i q e hq he).far hk h1 h2 h3 hg, h.hl, fun i x y hx hy => (h.h i x y hx hy).far hk h1 h2 h3 h4 hg⟩
theorem ChainIn.apart {α : Type} {enc : α → List Value} {e : TypeId} {s B B2 : Nat} {w w' : World} {v : Value} {l : List α} {gs : List Gc} {xs : List Hc} {es : List Ep} {hs : List Hdr} (h : ChainIn B w gs xs es hs) (ho : OwnL enc e s B2 w v l) (h1 : 61 ≠ e) (h2 : 3 ≠ e) (h3 : 25 ≠ e) (h4 : 38 ≠ e) (hg : w.grownBy w' v.ownBlock) : ChainIn B w' gs xs es hs :=
 ⟨h.gl, fun i q e hq he => (h.g i q e hq he).apart ho h1 h2 h3 hg, h.hl, fun i x y hx hy => (h.h i x y hx hy).apart ho h1 h2 h3 h4 hg⟩
theorem get_snoc {α : Type} {l : List α} {x y : α} {i : Nat} (h : (l ++ [x])[i]? = some y) : l[i]? = some y ∨ (i = l.length ∧ x = y) := by
 rcases Nat.lt_or_ge i l.length with hi | hi
 ·rw [List.getElem?_append_left hi] at h; exact .inl h
 ·have := (List.getElem?_eq_some_iff.1 h).1;rw [List.length_append, List.length_singleton] at this;obtain rfl : i = l.length := by omega
  rw [List.getElem?_append_right (Nat.le_refl _), Nat.sub_self] at h;exact .inr ⟨rfl, Option.some.inj h⟩
theorem ChainIn.snoc {B : Nat} {w : World} {gs : List Gc} {xs : List Hc} {es : List Ep} {hs : List Hdr} (h : ChainIn B w gs xs es hs) {q : Gc} {x : Hc} {e : Ep} {y : Hdr} (h1 : GrpW B w q.a q.b q.c q.d q.f e.ms e.ss e.cf) (h2 : HdrOwn B w x y) : ChainIn B w (gs ++ [q]) (xs ++ [x]) (es ++ [e]) (hs ++ [y]) := by
 refine ⟨by simp [h.gl], fun i q' e' hq he => ?_, by simp [h.hl], fun i x' y' hx hy => ?_⟩
 ·rcases get_snoc hq with hq | ⟨rfl, rfl⟩
  ·rcases get_snoc he with he | ⟨rfl, rfl⟩
   ·exact h.g i q' e' hq he
   ·have := (List.getElem?_eq_some_iff.1 hq).1; have := h.gl; omega
  ·rcases get_snoc he with he | ⟨-, rfl⟩
   ·have := (List.getElem?_eq_some_iff.1 he).1; have := h.gl; omega
   ·exact h1
 ·rcases get_snoc hx with hx | ⟨rfl, rfl⟩
  ·rcases get_snoc hy with hy | ⟨rfl, rfl⟩
   ·exact h.h i x' y' hx hy
   ·have := (List.getElem?_eq_some_iff.1 hx).1; have := h.hl; omega
  ·rcases get_snoc hy with hy | ⟨-, rfl⟩
   ·have := (List.getElem?_eq_some_iff.1 hy).1; have := h.hl; omega
   ·exact h2
theorem GrpOK.old {first : Nat} {ms : List Mem} {ss cf : List Nat} (h : GrpOK first ms ss cf) (hf : first ≤ 1000000) : OldOK (totW ms).toNat ms cf := by
 obtain ⟨hR, -, -, -⟩ := crew_right h.crew h.lo h.hi hf;obtain ⟨-, h1, h2⟩ := totR_right hR;exact ⟨hR, by omega, h.len, h.lt⟩
theorem hdrE_small {first i : Nat} {hs : List Hdr} {e : Ep} (hg : GrpOK first e.ms e.ss e.cf) (hf : first ≤ 1000000) (hi : i ≤ 1000000000) (hl : i ≤ hs.length) : HdrSm (hdrE hs i e) := by
 obtain ⟨hR, -, hI, hT⟩ := crew_right hg.crew hg.lo hg.hi hf;obtain ⟨-, h1, h2⟩ := totR_right hR;have hn := hg.len;have hnn : needN (totW e.ms).toNat ≤ 60 := by unfold needN; split <;> omega
 have hm := hg.hi;refine ⟨⟨by show _ ≤ (i : Int); omega, by show (i : Int) ≤ _; omega⟩, by show e.ms.length ≤ 20; omega, hI, by show (intsN (e.cf.map gP)).length ≤ 100; rw [intsN_len, List.length_map]; omega, fun x hx => ?_, by show (pointsL 1 e.ms).length ≤ 100; rw [pointsL_len]; omega, fun l hl => ?_, fun l hl x hx => ?_, by show (linksL hs i).length ≤ 64; rw [links_len]; have := bits_63 (show i < 2 ^ 63 by omega); omega, links_32 hs i hl⟩
 ·exact gP_I64 hg.lt x hx
 ·have := (points_mem e.ms 1 (fun m hm => hR.wt m hm) (by omega) l hl).1; omega
 ·have := (points_mem e.ms 1 (fun m hm => hR.wt m hm) (by omega) l hl).2 x hx;exact ⟨by omega, by omega⟩
theorem GrpW.opened {B : Nat} {w : World} {a b c d f : Value} {ms : List Mem} {ss cf : List Nat} (h : GrpW B w a b c d f ms ss cf) : ∃ (A1 A2 A3 A4 A5 : Option Addr) (c1 c2 c3 c4 c5 n5 : Nat), a = .slice A1 ms.length c1 ∧ b = .slice A2 ss.length c2 ∧ c = .slice A3 cf.length c3 ∧ d = .slice A4 cf.length c4 ∧ f = .slice A5 n5 c5 ∧ RowM w A1 ms.length c1 ms ∧ RowN w A2 ss.length c2 ss ∧ RowN w A3 cf.length c3 cf ∧ RowN w A4 cf.length c4 (cf.map gP) ∧ ∃ vs, n5 = vs.length ∧ RowV w A5 n5 c5 vs ∧ RowsI w vs (pointsL 1 ms) := by
 obtain ⟨q1, q2, q3, q4, vs, q5, q6⟩ := h;obtain ⟨A1, c1, e1, r1⟩ := OwnL.row q1 encM_len;obtain ⟨A2, c2, e2, r2⟩ := OwnL.row q2 encI_len;obtain ⟨A3, c3, e3, r3⟩ := OwnL.row q3 encI_len;obtain ⟨A4, c4, e4, r4⟩ := OwnL.row q4 encI_len;obtain ⟨A5, c5, e5, r5⟩ := OwnL.row q5 encV_len;rw [intsN_len] at e2 r2 e3 r3 e4 r4;rw [List.length_map] at e4 r4;exact ⟨A1, A2, A3, A4, A5, c1, c2, c3, c4, c5, _, e1, e2, e3, e4, e5, r1, r2, r3, r4, vs, rfl, r5, q6.rows⟩
theorem linksG_all {hs : List Hdr} {i : Nat} (h : i = hs.length) : linksG hs (i : Int) = linksL hs i := by
 unfold linksG
 by_cases h0 : i = 0
 ·subst h0;rw [if_pos (.inl (by omega))]
  simp [linksL, bitsN_zero]
 ·rw [if_neg (by omega), Int.toNat_natCast]
theorem ChainIn.hdrs {B : Nat} {w : World} {gs : List Gc} {xs : List Hc} {es : List Ep} {hs : List Hdr} (h : ChainIn B w gs xs es hs) : HdrsIn w xs hs := ⟨h.hl, fun i x y hx hy => (h.h i x y hx hy).in_⟩
theorem ChainOK.small {K : Nat} {es : List Ep} {hs : List Hdr} (h : ChainOK K es hs) (hl : es.length ≤ 1000) : ∀ y ∈ hs, HdrSm y := fun y hy => by
 obtain ⟨i, hi, rfl⟩ := List.getElem_of_mem hy;have h1 := h.len;obtain ⟨e, he, -, hh, hg⟩ := h.get (i := i) (by omega);have := hdrE_small (hs := hs) (i := i) hg (by omega) (by omega) (by omega);rw [List.getElem?_eq_getElem hi] at hh;rw [Option.some.inj hh];exact this
theorem chain_size : (Tryz.prog.info? 33).map (·.size) = some 2 := by kernel_rfl
def epochsN (n : Nat) : Nat := max 1 (min n 6)
def ChainPost (n : Nat) (w : World) (e : Ending) (w' : World) : Prop :=
 ∃ (vG vH : Value) (gs : List Gc) (ys : List Hc1) (es : List Ep) (hs : List Hdr) (K : Nat), e = .returned (.agg #[vG, vH]) ∧ OwnG w.heap.size w' vG gs ∧ OwnHd w.heap.size w' vH ys ∧ ChainIn w.heap.size w' gs (ys.map (·.1)) es hs ∧ ChainOK K es hs ∧ es.length = epochsN n ∧ Below w.heap.size w w'
theorem Made_q (A : Option Addr) (n c : Nat) (rs : List Value) (ls : List (List Int)) (hn : n ≤ 9223372036854775807) (hI : ∀ l ∈ ls, ∀ x ∈ l, I64 x) (hL : ∀ l ∈ ls, l.length ≤ 9223372036854775807) (w : World) (hr : RowV w A n c rs) (hrs : RowsI w rs ls) :
 Calls Tryz.prog 13 #[.slice A n c] w (ChainPost n w) := by
 have hll : ls.length = n := by rw [← hrs.len, hr.len]
 have HR := Lib.hid (And.intro hr hrs);have HL := Lib.hid (And.intro hI hL);clear hr hrs hI hL
 -- the first list
 have hfirst : ∃ (A1 : Option Addr) (n1 c1 : Nat) (xs1 : List Int), (0 < n → rs[0]? = some (.slice A1 n1 c1)) ∧ (n = 0 → A1 = none ∧ n1 = 0 ∧ c1 = 0) ∧ n1 ≤ 9223372036854775807 ∧ (∀ x ∈ xs1, I64 x) ∧ ∀ W, Below w.heap.size w W → RowI W A1 n1 c1 xs1 := by
  by_cases h0 : n = 0
  ·exact ⟨none, 0, 0, [], fun h => absurd h0 (by omega), fun _ => ⟨rfl, rfl, rfl⟩, by omega, by simp, fun W _ => ⟨rfl, Nat.le_refl _, fun h => absurd h (by omega)⟩⟩
  ·have hrl := HR.out.1.len;have hv : rs[0]? = some (rs[0]'(by omega)) := List.getElem?_eq_getElem _;have hl : ls[0]? = some (ls[0]'(by omega)) := List.getElem?_eq_getElem _;obtain ⟨A1, c1, e, h1⟩ := HR.out.2.one 0 _ _ hv hl;exact ⟨A1, _, c1, ls[0]'(by omega), fun _ => by rw [hv, e], fun h => absurd h h0, HL.out.2 _ (List.mem_of_getElem? hl), HL.out.1 _ (List.mem_of_getElem? hl), fun W hb => h1.below hb⟩
 obtain ⟨A1, n1, c1, xs1, hf1, hf2, hn1, hI1, hf3⟩ := hfirst;have m1 := Lib.hid (fun W h => rMade8_q A1 n1 c1 xs1 hn1 hI1 W h);have HF := Lib.hid (And.intro hf1 hf3);clear hf1 hf3;go_enter Tryz.func13, Tryz.ntmps13;go_upto_region 2 with fail;refine name2p ?_;intro W0 k2 k3 hB;obtain ⟨p2, hp2⟩ : ∃ g, g = w.heap.size := ⟨_, rfl⟩;have hB2 : w.heap.size ≤ p2 := Nat.le_of_eq hp2.symm;rw [← hp2] at k2 k3 ⊢;clear hp2;obtain ⟨N, hN⟩ := exq (epochsN n);have hN1 : 1 ≤ N ∧ N ≤ 6 ∧ (∀ i, 1 ≤ i → (i < N ↔ i < n ∧ i < 6)) := by
  rw [hN]; unfold epochsN;refine ⟨by omega, by omega, fun i hi => by omega⟩
 have HN := Lib.hid hN;clear hN
 go_upto_if 11 with fail
 go_cut [4] (fun s4 wx => s4 = .slice A1 n1 c1 ∧ wx = W0)
 case first =>
  by_cases h0 : n = 0
  ·obtain ⟨rfl, rfl, rfl⟩ := hf2 h0;subst h0;go_wp2_with fail;go_meet;exact ⟨rfl, rfl⟩
  ·have h0' : (0 : Int) < (n : Int) := by omega
   obtain ⟨b0, o0, v0, rfl, hv0, cv0⟩ := RowV.get (HR.out.1.below hB) (show 0 < n by omega);rw [HF.out.1 (by omega)] at hv0;obtain rfl := Option.some.inj hv0;have cv1 : W0.cell? ⟨b0, o0, none⟩ = some (.slice A1 n1 c1) := by simpa using cv0
   clear cv0 hv0 hf2;go_wp2_with fail;go_meet;exact ⟨rfl, rfl⟩
 case rest =>
  obtain ⟨rfl, rfl⟩ := hcut;go_upto_region 6 with (go_at_call 44; (with_reducible refine (m1.out _ (HF.out.2 _ hB)).mono ?_); rintro e w1 ⟨ga, gb, gc, gd, gf, ms, ss, cf, rfl, hG, hGO, hb⟩; obtain ⟨A1, A2, A3, A4, A5, c1, c2, c3, c4, c5, n5, rfl, rfl, rfl, rfl, rfl, -⟩ := hG.opened; unfold grpA; replace hG : GrpW w.heap.size w1 _ _ _ _ _ ms ss cf := ⟨hG.L.le hB.size, hG.S.le hB.size, hG.C.le hB.size, hG.K.le hB.size, hG.P.elim fun vs h => ⟨vs, h.1.le hB.size, h.2.len, fun i v l hv hl => (h.2.one i v l hv hl).le hB.size⟩⟩; replace k2 := k2.below hb k2.lt; replace k3 := k3.below hb k3.lt; replace hB := below_then hB hb; clear hb);refine name1p ?_;intro W5 k5 hb5;obtain ⟨p5, hp5⟩ : ∃ g, g = w1.heap.size := ⟨_, rfl⟩;have hp25 : p2 + 1 < p5 := by have := k3.lt; omega
  rw [← hp5] at k5 ⊢;replace hG := hG.below hb5;replace k2 := k2.below hb5 k2.lt;replace k3 := k3.below hb5 k3.lt;replace hB := below_then hB hb5;obtain ⟨KY, hK⟩ := exq (cf.headD 0);have HGO := Lib.hid hGO;have HKE := Lib.hid hK.symm;have HCO : Hid (ChainOK KY [] []) := Lib.hid (ChainOK.nil KY);clear hp5 hb5 hGO hK m1;go_wp2_with fail
  go_loopw [6, 7, 8] (fun s6 _ _ wr => ∃ (i : Nat) (ga gb gc gd gf : Value) (ms : List Mem) (ss cf : List Nat) (vG vH : Value) (gs : List Gc) (ys : List Hc1) (es : List Ep) (hs : List Hdr), i ≤ N ∧ s6 = .int .i64 (i : Int) ∧ Hid (GrpOK (1 + 10 * (i - 1)) ms ss cf) ∧ Hid (cf.headD 0 = KY) ∧ Blk wr p5 59 #[ga, gb, gc, gd, gf] ∧ GrpW w.heap.size wr ga gb gc gd gf ms ss cf ∧ Blk wr (p2 + 1) 33 #[vG, vH] ∧ Blk wr p2 33 #[.slice none 0 0, .slice none 0 0] ∧ OwnG (p5 + 1) wr vG gs ∧ OwnHd w.heap.size wr vH ys ∧ ChainIn w.heap.size wr gs (ys.map (·.1)) es hs ∧ Hid (ChainOK KY es hs) ∧ es.length = i ∧ Below w.heap.size w wr) (fun s6 _ _ _ => N - (intOf s6).toNat)
  case atStart => exact ⟨0, _, _, _, _, _, ms, ss, cf, _, _, [], [], [], [], by omega, rfl, HGO, HKE, k5, hG, k3, k2, OwnL.nil_ _ _ _ _ _, OwnL.nil_ _ _ _ _ _, ChainIn.nil _ _, HCO, rfl, hB⟩
  case round =>
   clear HGO HKE k5 hG k3 k2 HCO hB;obtain ⟨i, ga, gb, gc, gd, gf, ms, ss, cf, vG, vH, gs, ys, es, hs, hi, rfl, HGO, HKE, k5, hG, k3, k2, hoG, hoH, hCI, HCO, hel, hB⟩ := hrel
   by_cases hlt : i < N
   ·by_cases h0 : i = 0
    ·obtain ⟨A1, A2, A3, A4, A5, c1, c2, c3, c4, c5, n5, rfl, rfl, rfl, rfl, rfl, -⟩ := hG.opened;subst h0;have HGO2 : Hid (GrpOK (1 + 10 * 0) ms ss cf) := HGO;clear HGO;have hN0 := hN1.1;go_upto_region 12 with fail;have hgl : gs.length ≤ 1000000 := by have := hCI.gl; omega
     have x0 : _ = some vG := k3.cell 0;have y0 : _ = some _ := k5.cell 0;have y1 : _ = some _ := k5.cell 1;have y2 : _ = some _ := k5.cell 2;have y3 : _ = some _ := k5.cell 3;have y4 : _ = some _ := k5.cell 4;refine wp_region_lit ?_;refine wpList_plain rfl fun K hK => ?_;go_simp;refine hK _ _ ?_;clear hK K
     try simp only [Act.put, pq1, pq2, pq3]
     refine wpList_plain rfl fun K hK => ?_;go_simp;refine hK _ _ ?_;clear hK K
     try simp only [Act.put, pq1, pq2, pq3]
     refine wpList_plain rfl fun K hK => ?_;go_simp;refine hK _ _ ?_;clear hK K
     try simp only [Act.put, pq1, pq2, pq3]
     refine wpList_plain rfl fun K hK => ?_;go_simp;refine hK _ _ ?_;clear hK K
     try simp only [Act.put, pq1, pq2, pq3]
     refine wp_append_row (enc := encGc) Tryz.underlying30 grp_info rfl (by decide) (by decide) rfl _ _ rfl ⟨.slice A1 ms.length c1, .slice A2 ss.length c2, .slice A3 cf.length c3, .slice A4 cf.length c4, .slice A5 n5 c5⟩ rfl rfl (fun u hu => by simp only [encGc, List.mem_cons, List.not_mem_nil, or_false] at hu; rcases hu with rfl | rfl | rfl | rfl | rfl <;> rfl) rfl hoG rfl (by omega) (Nat.succ_le_of_lt k5.lt) ?_;intro vG2 wg hoG2 hgG;have hG2 := hG.apart hoG (by decide) (by decide) (by decide) hgG;have hoH2 := OwnL.kept hoH hgG (rows_apart hoH hoG (by decide));have hCI2 := hCI.apart hoG (by decide) (by decide) (by decide) (by decide) hgG;have k52 := k5.grown hgG (own_low hoG (Nat.lt_succ_self p5));have k32 := k3.grown hgG (own_ty hoG k3 (by decide));have k22 := k2.grown hgG (own_ty hoG k2 (by decide));have hBg := hB.grown hgG hB.size (fun j e => by have := own_high hoG j e; omega);clear hG hoH hCI k5 k3 k2 hB hoG hgG x0 y0 y1 y2 y3 y4;obtain ⟨AG, cG, hvG, -⟩ := OwnL.row hoG2 encGc_len;generalize (gs ++ [(⟨.slice A1 ms.length c1, .slice A2 ss.length c2, .slice A3 cf.length c3, .slice A4 cf.length c4, .slice A5 n5 c5⟩ : Gc)]).length = nG at hvG;subst hvG;have x0 : _ = some vG := k32.cell 0;have f0 := k32.frozen 0;go_upto_region 13 with fail;have hgs := grown_set (grown_refl wg (some (p2 + 1))) 0 (Value.slice AG nG cG);have hoG := OwnL.kept hoG2 hgs (.inr (Ne.symm (own_ty hoG2 k32 (by decide))));have hoH := OwnL.kept hoH2 hgs (.inr (Ne.symm (own_ty hoH2 k32 (by decide))));have hG := hG2.far k32 (by decide) (by decide) (by decide) hgs;have hCI := hCI2.far k32 (by decide) (by decide) (by decide) (by decide) hgs;have k5 := k52.grown hgs (fun e => by have := Option.some.inj e; omega);have k2 := k22.grown hgs (fun e => by have := Option.some.inj e; omega);have hB := hBg.grown hgs hBg.size (fun j e => by cases e; omega);have k3 : Blk (wg.setCell ⟨p2 + 1, 0, none⟩ (Value.slice AG nG cG)) (p2 + 1) 33 #[Value.slice AG nG cG, vH] := k32.set_ 0 (Value.slice AG nG cG);clear hoG2 hoH2 hG2 hCI2 k52 k22 k32 hBg hgs x0 f0;generalize wg.setCell ⟨p2 + 1, 0, none⟩ (Value.slice AG nG cG) = wh at *;have hoHd : OwnHd w.heap.size wh.drew vH ys := hoH;have hoGd : OwnG (p5 + 1) wh.drew (.slice AG nG cG) (gs ++ [⟨.slice A1 ms.length c1, .slice A2 ss.length c2, .slice A3 cf.length c3, .slice A4 cf.length c4, .slice A5 n5 c5⟩]) := hoG;have hGd := hG.below (Below.refl wh.heap.size wh).drew;have hCId := hCI.below (Below.refl wh.heap.size wh).drew;have k5d : Blk wh.drew p5 59 _ := k5;have k3d : Blk wh.drew (p2 + 1) 33 #[Value.slice AG nG cG, vH] := k3;have k2d : Blk wh.drew p2 33 _ := k2;have hBd := hB.drew;obtain ⟨AH, cH, hvH, hrH⟩ := OwnL.row hoHd encH1_len;have hyl : ys.length = 0 := by have h1 := hCI.hl; rw [List.length_map] at h1; have h2 := HCO.out.len; omega
     have HLK := Lib.hid (fun W h1 h2 => rLinks_q AH ys.length cH (ys.map (·.1)) hs (0 : Int) (by omega) (HCO.out.small (by omega)) W h1 h2);have hLG : linksG hs (0 : Int) = linksL hs (0) := linksG_all (hs := hs) (i := 0) (by have := HCO.out.len; omega);rw [hLG] at HLK;have hRW := Lib.hid (And.intro (rowHd_map hrH) hCId.hdrs);subst hvH;have HYL : Hid (ys.length ≤ 6) := Lib.hid (by omega);clear hyl;generalize ys.length = nH at HLK hRW hoHd k3d ⊢;clear hoG hoH hG hCI k5 k3 k2 hB hrH hLG;refine region_here (fun Z : World => Z.cell? ⟨p2 + 1, 1, none⟩ = some (.slice AH nH cH) ∧ Z.cell? ⟨p5, 0, none⟩ = some (.slice A1 ms.length c1) ∧ Z.cell? ⟨p5, 3, none⟩ = some (.slice A4 cf.length c4) ∧ Z.cell? ⟨p5, 4, none⟩ = some (.slice A5 n5 c5)) 15 (by kernel_rfl) ⟨k3d.cell 1, k5d.cell 0, k5d.cell 3, k5d.cell 4⟩ (fun hHeld => ?_);generalize wh.drew = wi at *;refine tkT 0 rfl ?_;refine tkT 1 rfl ?_;refine tkT 2 rfl ?_;refine tkT 3 rfl ?_;refine tkT 4 rfl ?_;refine tkT 5 rfl ?_;refine tkT 6 rfl ?_;refine tkT 7 rfl ?_;refine tkT 8 rfl ?_;refine tkT 9 rfl ?_;refine tkO 10 rfl fun K hK => ?_;go_simp;go_at_call 15
     with_reducible refine (HLK.out _ hRW.out.1 hRW.out.2).mono ?_
     rintro e wa ⟨vL, rfl, hoL, hba⟩
     (try go_wp2_with fail)
     replace hoL := hoL.le hBd.size;obtain ⟨AL, cL, hvL, -⟩ := OwnL.row hoL encH_len;generalize (linksL hs (0)).length = nL at hvL;subst hvL;replace hoHd := hoHd.below hba;replace hoGd := hoGd.below hba;replace hGd := hGd.below hba;replace hCId := hCId.below hba;replace k5d := k5d.below hba k5d.lt;replace k3d := k3d.below hba k3d.lt;replace k2d := k2d.below hba k2d.lt;replace hBd := below_then hBd hba;refine hK.out _ _ ?_ (fun hHeld10 => ?_)
     ·exact ⟨k3d.cell 1, k5d.cell 0, k5d.cell 3, k5d.cell 4⟩
     clear hK K
     try simp only [Act.put, pq1, pq2, pq3]
     refine tkT 11 rfl ?_;refine tkO 12 rfl fun K hK => ?_;go_simp;refine alloc_name ?_;intro wz kz hbz;replace hoL := hoL.below hbz;replace hoHd := hoHd.below hbz;replace hoGd := hoGd.below hbz;replace hGd := hGd.below hbz;replace hCId := hCId.below hbz;replace k5d := k5d.below hbz k5d.lt;replace k3d := k3d.below hbz k3d.lt;replace k2d := k2d.below hbz k2d.lt;replace hBd := below_then hBd hbz;refine hK.out _ _ ?_ (fun hHeld12 => ?_)
     ·exact ⟨k3d.cell 1, k5d.cell 0, k5d.cell 3, k5d.cell 4⟩
     clear hK K
     try simp only [Act.put, pq1, pq2, pq3]
     refine tkO 13 rfl fun K hK => ?_;have hyl6 : ys.length ≤ 1000000 := by have := HYL.out; omega
     refine step_append_rows (enc := encH1) (B := w.heap.size) (l := ys) (ds := [⟨⟨(0 : Int), (.slice A1 ms.length c1), (.slice A4 cf.length c4), (.slice A5 n5 c5), (.slice AL nL cL)⟩, fun u hu => by simp only [encHd, List.mem_cons, List.not_mem_nil, or_false] at hu; rcases hu with rfl | rfl | rfl | rfl | rfl <;> rfl⟩]) (A := some ⟨wa.heap.size, 0, none⟩) (n := 1) (c := 1) Tryz.underlying31 hdr_info rfl (by decide) (by decide) rfl (.tmp 67) (.tmp 78) rfl encH1_len encH1_one rfl hoHd rfl (row_new kz) hyl6 (by decide) hBd.size ?_;intro v3 w3 ho3 hg3;obtain ⟨A3h, c3h, hv3, -⟩ := OwnL.row ho3 encH1_len;generalize (ys ++ [_]).length = n3h at hv3;subst hv3;replace hoL := OwnL.kept hoL hg3 (rows_apart hoL hoHd (by decide));replace hoGd := OwnL.kept hoGd hg3 (rows_apart hoGd hoHd (by decide));replace hGd := hGd.apart hoHd (by decide) (by decide) (by decide) hg3;replace hCId := hCId.apart hoHd (by decide) (by decide) (by decide) (by decide) hg3;replace k5d := k5d.grown hg3 (own_ty hoHd k5d (by decide));replace k3d := k3d.grown hg3 (own_ty hoHd k3d (by decide));replace k2d := k2d.grown hg3 (own_ty hoHd k2d (by decide));replace hBd := hBd.grown hg3 hBd.size (own_high hoHd);clear hoHd hg3 kz;refine hK.out _ _ ?_ (fun hHeld13 => ?_)
     ·exact ⟨k3d.cell 1, k5d.cell 0, k5d.cell 3, k5d.cell 4⟩
     clear hK K
     try simp only [Act.put, pq1, pq2, pq3]
     refine tkT 14 rfl ?_;refine tkK 15 rfl fun K hK => ?_;have y1 : _ = some _ := k3d.cell 1;have z1 := k3d.frozen 1;go_simp;refine hK.out _ _ ?_;clear hK K
     try simp only [Act.put]
     refine tkD ?_;have hgs := grown_set (grown_refl w3 (some (p2 + 1))) 1 (Value.slice A3h n3h c3h);have ho4 := OwnL.kept ho3 hgs (.inr (Ne.symm (own_ty ho3 k3d (by decide))));have hoG4 := OwnL.kept hoGd hgs (.inr (Ne.symm (own_ty hoGd k3d (by decide))));have hoL4 := OwnL.kept hoL hgs (.inr (Ne.symm (own_ty hoL k3d (by decide))));have hG4 := hGd.far k3d (by decide) (by decide) (by decide) hgs;have hCI4 := hCId.far k3d (by decide) (by decide) (by decide) (by decide) hgs;have k54 := k5d.grown hgs (fun e => by have := Option.some.inj e; omega);have k24 := k2d.grown hgs (fun e => by have := Option.some.inj e; omega);have hB4 := hBd.grown hgs hBd.size (fun j e => by cases e; omega);have k34 : Blk (w3.setCell ⟨p2 + 1, 1, none⟩ (Value.slice A3h n3h c3h)) (p2 + 1) 33 #[Value.slice AG nG cG, (Value.slice A3h n3h c3h)] := k3d.set_ 1 (Value.slice A3h n3h c3h);have hCI5 := hCI4.snoc (q := ⟨.slice A1 ms.length c1, .slice A2 ss.length c2, .slice A3 cf.length c3, .slice A4 cf.length c4, .slice A5 n5 c5⟩) (x := ⟨(0 : Int), (.slice A1 ms.length c1), (.slice A4 cf.length c4), (.slice A5 n5 c5), (.slice AL nL cL)⟩) (e := ⟨ms, ss, cf⟩) (y := hdrE hs (0) ⟨ms, ss, cf⟩) hG4 ⟨rfl, hG4.L, hG4.K, hG4.P, hoL4⟩;have HCO2 : Hid (ChainOK KY (es ++ [⟨ms, ss, cf⟩]) (hs ++ [hdrE hs (0) ⟨ms, ss, cf⟩])) := Lib.hid (by have := HCO.out.snoc (e := ⟨ms, ss, cf⟩) (by rw [hel]; exact HGO2.out) HKE.out; rwa [hel] at this);have HEL2 : Hid ((es ++ [(⟨ms, ss, cf⟩ : Ep)]).length = (0) + 1) := Lib.hid (by rw [List.length_append, hel]; rfl);generalize w3.setCell ⟨p2 + 1, 1, none⟩ (Value.slice A3h n3h c3h) = w4 at *;clear hoGd hGd hCId k5d k3d k2d hBd hoL ho3 hgs hCI4;clear y1 z1;go_wp2_with fail;go_roundw
     case rel => exact ⟨(0) + 1, _, _, _, _, _, ms, ss, cf, _, _, _, _, _, _, by omega, by go_num, HGO2, HKE, k54, hG4, k34, k24, hoG4, ho4, by rw [List.map_append]; exact hCI5, HCO2, HEL2.out, hB4⟩
     case measure => simp [intOf]; omega
    ·obtain ⟨msO, rfl⟩ : ∃ z, z = ms := ⟨_, rfl⟩;obtain ⟨ssO, rfl⟩ : ∃ z, z = ss := ⟨_, rfl⟩;obtain ⟨cfO, rfl⟩ : ∃ z, z = cf := ⟨_, rfl⟩;obtain ⟨B1, B2, B3, B4, B5, d1, d2, d3, d4, d5, m5, rfl, rfl, rfl, rfl, rfl, -⟩ := hG.opened;have h0' : ¬ (i : Int) = 0 := by omega
     have h0p : (0 : Int) < (i : Int) := by omega
     obtain ⟨hln, hl6⟩ := (hN1.2.2 i (by omega)).1 hlt;have hln' : (i : Int) < (n : Int) := by omega
     have hl6' : (i : Int) < 6 := by omega
     have hOld := HGO.out.old (by omega);obtain ⟨-, -, hIo, hTo⟩ := crew_right HGO.out.crew HGO.out.lo HGO.out.hi (by omega);obtain ⟨-, hTo1, hTo2⟩ := totR_right hOld.right;obtain ⟨T0, hT0⟩ : ∃ T : Nat, T = (totW msO).toNat := ⟨_, rfl⟩;rw [← hT0] at hOld;have hT60 : 1 ≤ T0 ∧ T0 ≤ 60 := by omega
     have hcN : cfO.length = needN T0 := hOld.len;have hcT : 1 ≤ cfO.length ∧ cfO.length ≤ T0 := by
      rw [hcN];unfold needN
      split
      ·omega
      ·omega
     have HOLD := Lib.hid (And.intro hOld (And.intro hIo hcT));clear hOld hIo hTo hTo1 hTo2 hT0 hcN hcT HGO;have hrow : ∃ (Ar : Option Addr) (nr cr b o : Nat) (xsr : List Int), A = some ⟨b, o, none⟩ ∧ nr ≤ 9223372036854775807 ∧ (∀ x ∈ xsr, I64 x) ∧ (∀ W, Below w.heap.size w W → RowI W Ar nr cr xsr ∧ W.cell? ⟨b, o + i, none⟩ = some (.slice Ar nr cr)) := by
      have hrl := HR.out.1.len;have hv : rs[i]? = some (rs[i]'(by omega)) := List.getElem?_eq_getElem _;have hl : ls[i]? = some (ls[i]'(by omega)) := List.getElem?_eq_getElem _;obtain ⟨Ar, cr, e, h1⟩ := HR.out.2.one i _ _ hv hl;obtain ⟨b, o, v, eA, -, -⟩ := RowV.get HR.out.1 hln;refine ⟨Ar, _, cr, b, o, ls[i]'(by omega), eA, HL.out.2 _ (List.mem_of_getElem? hl), HL.out.1 _ (List.mem_of_getElem? hl), fun W hb => ⟨h1.below hb, ?_⟩⟩;obtain ⟨b', o', v', eA', hv', cv⟩ := RowV.get (HR.out.1.below hb) hln;rw [eA] at eA'
      cases eA'
      rw [hv] at hv';rw [cv, ← Option.some.inj hv', e]
     obtain ⟨Ar, nr, cr, b, o, xsr, rfl, hnr, hIr, hrW⟩ := hrow;have HRW0 := Lib.hid hrW;have m2 := Lib.hid (fun W h => Crew_q Ar nr cr xsr (1 + 10 * i) hnr (by omega) hIr W h);rw [show ((1 + 10 * i : Nat) : Int) = 1 + 10 * (i : Int) by omega] at m2;have hw1 : IntKind.i64.wrap (10 * (i : Int)) = 10 * (i : Int) := IntWalk.i64_in _ (by omega);have hw2 : IntKind.i64.wrap (1 + 10 * (i : Int)) = 1 + 10 * (i : Int) := IntWalk.i64_in _ (by omega);have cr0 : wr.cell? ⟨b, o + i, none⟩ = some (.slice Ar nr cr) := (hrW wr hB).2;clear hrW;go_upto_region 11 with (go_at_call 45; (with_reducible refine (m2.out _ (HRW0.out _ hB).1).mono ?_); rintro e w2 ⟨vM, vS, ms, ss, rfl, hoM, hoS, hCr, hlo, hhi, hb⟩; replace hoM := hoM.le hB.size; replace hoS := hoS.le hB.size; replace k5 := k5.below hb k5.lt; replace hG := hG.below hb; replace k3 := k3.below hb k3.lt; replace k2 := k2.below hb k2.lt; replace hoG := hoG.below hb; replace hoH := hoH.below hb; replace hCI := hCI.below hb; replace hB := below_then hB hb; clear hb cr0);obtain ⟨hkN, hKn, hIn, hTn⟩ := crew_right hCr hlo hhi (by omega);obtain ⟨-, hTn1, hTn2⟩ := totR_right hkN;obtain ⟨T, hT⟩ : ∃ T : Nat, T = (totW ms).toNat := ⟨_, rfl⟩;have hTT : totW ms = (T : Int) := by omega
     have hT1 : 1 ≤ T ∧ T ≤ 60 := by omega
     have HNEW := Lib.hid (And.intro hCr (And.intro hlo (And.intro hhi (And.intro hKn (And.intro hIn (And.intro hTT (And.intro hT hT1)))))));clear hkN hKn hIn hTn hTn1 hTn2 hTT hT hT1 hCr hlo hhi;obtain ⟨AM, cM, rfl, -⟩ := OwnL.row hoM encM_len;obtain ⟨AS, cS, hvS, -⟩ := OwnL.row hoS encI_len;rw [intsN_len] at hvS;subst hvS;obtain ⟨sd, hsd⟩ : ∃ s : ByteArray, (⟨#[101, 112, 111, 99, 104, 32]⟩ : ByteArray) ++ decIS (i : Int) = s := ⟨_, rfl⟩;have hsz : sd.size ≤ 1000 := by
      have h1 := decIS_size (z := (i : Int)) ⟨by omega, by omega⟩;rw [← hsd, ByteArray.size_append];show 6 + _ ≤ 1000
      omega
     have HSZ := Lib.hid hsz;have HDS : Hid (¬ 9223372036854775807 < 6 + (decIS (i : Int)).size) := Lib.hid (by have h1 := decIS_size (z := (i : Int)) ⟨by omega, by omega⟩; omega);clear hsz;have m3 := Lib.hid (fun W h1 h2 => Chosen_q B1 B4 Ar msO.length d1 cfO.length d4 nr cr (.slice B2 ssO.length d2) (.slice B3 cfO.length d3) (.slice B5 m5 d5) msO xsr T0 HOLD.out.1.right HOLD.out.2.1 HOLD.out.1.tot HOLD.out.2.2.2 hnr hIr W h1 h2);unfold grpA at m3;have m4 := Lib.hid (Decimal_q (i : Int) ⟨by omega, by omega⟩);have hoGd : OwnG (p5 + 1) w2.drew vG gs := hoG;have hoHd : OwnHd w.heap.size w2.drew vH ys := hoH;have hoMd : OwnM w.heap.size w2.drew (.slice AM ms.length cM) ms := hoM;have hoSd : OwnI w.heap.size w2.drew (.slice AS ss.length cS) (intsN ss) := hoS;have hGd := hG.below (Below.refl w2.heap.size w2).drew;have hCId := hCI.below (Below.refl w2.heap.size w2).drew;have k5d : Blk w2.drew p5 59 _ := k5;have k3d : Blk w2.drew (p2 + 1) 33 #[vG, vH] := k3;have k2d : Blk w2.drew p2 33 _ := k2;have hBd := hB.drew;clear hoG hoH hoM hoS hG hCI k5 k3 k2 hB m2 hw1 hw2;refine region_here (fun Z : World => Z.cell? ⟨p5, 0, none⟩ = some (.slice B1 msO.length d1) ∧ Z.cell? ⟨p5, 1, none⟩ = some (.slice B2 ssO.length d2) ∧ Z.cell? ⟨p5, 2, none⟩ = some (.slice B3 cfO.length d3) ∧ Z.cell? ⟨p5, 3, none⟩ = some (.slice B4 cfO.length d4) ∧ Z.cell? ⟨p5, 4, none⟩ = some (.slice B5 m5 d5) ∧ Z.cell? ⟨b, o + i, none⟩ = some (.slice Ar nr cr)) 12 (by kernel_rfl) ⟨k5d.cell 0, k5d.cell 1, k5d.cell 2, k5d.cell 3, k5d.cell 4, (HRW0.out _ hBd).2⟩ (fun hHeld => ?_);generalize w2.drew = wd at *;refine tkT 0 rfl ?_;refine tkT 1 rfl ?_;refine tkT 2 rfl ?_;refine tkT 3 rfl ?_;refine tkT 4 rfl ?_;refine tkT 5 rfl ?_;refine tkT 6 rfl ?_;refine tkT 7 rfl ?_;refine tkT 9 rfl ?_;refine tkO 8 rfl fun K hK => ?_;go_simp;go_at_call 47
     with_reducible refine (m3.out _ (OwnL.row_at hGd.L encM_len) (HRW0.out _ hBd).1).mono ?_
     rintro e wa ⟨vF, ps, rfl, hoF, hpl, hpn, hpr, hba⟩
     (try go_wp2_with fail)
     obtain ⟨AF, cF, hvF, -⟩ := OwnL.row hoF encI_len;rw [intsN_len, hpl] at hvF;subst hvF;have HPS := Lib.hid (And.intro hpl (And.intro hpn hpr));clear hpl hpn hpr;replace hoGd := hoGd.below hba;replace hoHd := hoHd.below hba;replace hoMd := hoMd.below hba;replace hoSd := hoSd.below hba;replace hGd := hGd.below hba;replace hCId := hCId.below hba;replace k5d := k5d.below hba k5d.lt;replace k3d := k3d.below hba k3d.lt;replace k2d := k2d.below hba k2d.lt;replace hBd := below_then hBd hba;refine hK.out _ _ ?_ (fun hHeld8 => ?_)
     ·exact ⟨k5d.cell 0, k5d.cell 1, k5d.cell 2, k5d.cell 3, k5d.cell 4, (HRW0.out _ hBd).2⟩
     clear hK K
     try simp only [Act.put, pq1, pq2, pq3]
     refine tkO 10 rfl fun K hK => ?_;go_simp;go_at_call 48
     with_reducible refine (m4.out _).mono ?_
     rintro e wb ⟨rfl, hbb⟩
     (try go_wp2_with fail)
     replace hoF := hoF.below hbb;replace hoGd := hoGd.below hbb;replace hoHd := hoHd.below hbb;replace hoMd := hoMd.below hbb;replace hoSd := hoSd.below hbb;replace hGd := hGd.below hbb;replace hCId := hCId.below hbb;replace k5d := k5d.below hbb k5d.lt;replace k3d := k3d.below hbb k3d.lt;replace k2d := k2d.below hbb k2d.lt;replace hBd := below_then hBd hbb;refine hK.out _ _ ?_ (fun hHeld10 => ?_)
     ·exact ⟨k5d.cell 0, k5d.cell 1, k5d.cell 2, k5d.cell 3, k5d.cell 4, (HRW0.out _ hBd).2⟩
     clear hK K
     try simp only [Act.put, pq1, pq2, pq3]
     refine tkV 11 (.string sd) rfl (Or.inl ⟨by rfl, by intro w hSw; (try dsimp only at hSw); go_simp; first | (rw [if_neg HDS.out]; done) | (have := HDS.out; omega)⟩) ?_;refine tkK 12 rfl fun K hK => ?_;go_simp;go_at_call 46;obtain ⟨vsP, hvP, hliP⟩ := hGd.P;have hrV := OwnL.row_at hvP encV_len;have m6 := Lib.hid (fun W h1 h2 h3 h4 h5 h6 h7 h8 => Reshared_q (.slice B1 msO.length d1) (.slice B2 ssO.length d2) B3 B4 B5 AM AS AF cfO.length d3 d4 m5 d5 cM cS cF w.heap.size msO ms cfO ss ps vsP sd T0 T HOLD.out.1 HNEW.out.2.2.2.1 HNEW.out.2.2.2.2.1 HNEW.out.2.2.2.2.2.1 HPS.out.2.1 HPS.out.2.2 HSZ.out W h1 h2 h3 h4 h5 h6 h7 h8);unfold grpA at m6
     with_reducible refine (m6.out _ hBd.size (rowN_own hGd.C) (rowN_own hGd.K) hrV hliP.rows hoMd hoSd (rowN_own hoF)).mono ?_
     rintro e wc ⟨na, nb, nc, nd, nf, vd, rfl, hGn, hbc⟩
     (try go_wp2_with fail)
     clear m6 hrV hvP hliP hoF hoMd hoSd;have hcfL : (accF (ps.map (facN ps)) (polysR sd.data.toList (needN T) cfO ps) (needN T)).length = needN T := accF_len _ _ _;have hcfT : ∀ c ∈ accF (ps.map (facN ps)) (polysR sd.data.toList (needN T) cfO ps) (needN T), c < qG := accF_lt;have hn1 : 1 ≤ needN T := by
      have := HNEW.out.2.2.2.2.2.2.2;unfold needN
      split <;> omega
     have hcfK : (accF (ps.map (facN ps)) (polysR sd.data.toList (needN T) cfO ps) (needN T)).headD 0 = KY := by
      rw [acc_head (T := T0) HPS.out.2.1 HPS.out.2.2 HPS.out.1 hn1 hT60.2 HOLD.out.2.2.1 HOLD.out.1.lt];exact HKE.out
     generalize accF (ps.map (facN ps)) (polysR sd.data.toList (needN T) cfO ps) (needN T) = cf at *;have HGO2 : Hid (GrpOK (1 + 10 * i) ms ss cf) := Lib.hid ⟨HNEW.out.1, HNEW.out.2.1, HNEW.out.2.2.1, by rw [hcfL, HNEW.out.2.2.2.2.2.2.1], hcfT⟩;have HKE2 := Lib.hid hcfK;clear hcfL hcfT hcfK hn1;obtain ⟨A1, A2, A3, A4, A5, c1, c2, c3, c4, c5, n5, rfl, rfl, rfl, rfl, rfl, -⟩ := hGn.opened;unfold grpA;replace hoGd := hoGd.below hbc;replace hoHd := hoHd.below hbc;replace hCId := hCId.below hbc;replace k5d := k5d.below hbc k5d.lt;replace k3d := k3d.below hbc k3d.lt;replace k2d := k2d.below hbc k2d.lt;replace hBd := below_then hBd hbc;clear hGd;refine hK.out _ _ ?_;clear hK K
     try simp only [Act.put, pq1, pq2, pq3]
     refine tkB 13 rfl ?_;refine tkB 14 rfl ?_;refine tkB 15 rfl ?_;refine tkR 16 rfl fun K hK => ?_;have y0 : _ = some _ := k5d.cell 0;have z0 := k5d.frozen 0;have y1 : _ = some _ := k5d.cell 1;have z1 := k5d.frozen 1;have y2 : _ = some _ := k5d.cell 2;have z2 := k5d.frozen 2;have y3 : _ = some _ := k5d.cell 3;have z3 := k5d.frozen 3;have y4 : _ = some _ := k5d.cell 4;have z4 := k5d.frozen 4;go_simp;refine hK _ _ ?_;clear hK K
     try simp only [Act.put]
     refine tkD ?_;clear y0 y1 y2 y3 y4 z0 z1 z2 z3 z4;have hgs : wc.grownBy (((((wc.setCell ⟨p5, 0, none⟩ (.slice A1 ms.length c1)).setCell ⟨p5, 1, none⟩ (.slice A2 ss.length c2)).setCell ⟨p5, 2, none⟩ (.slice A3 cf.length c3)).setCell ⟨p5, 3, none⟩ (.slice A4 cf.length c4)).setCell ⟨p5, 4, none⟩ (.slice A5 n5 c5)) (some p5) := (grown_set (grown_set (grown_set (grown_set (grown_set (grown_refl wc (some p5)) 0 (.slice A1 ms.length c1)) 1 (.slice A2 ss.length c2)) 2 (.slice A3 cf.length c3)) 3 (.slice A4 cf.length c4)) 4 (.slice A5 n5 c5));have k5 : Blk (((((wc.setCell ⟨p5, 0, none⟩ (.slice A1 ms.length c1)).setCell ⟨p5, 1, none⟩ (.slice A2 ss.length c2)).setCell ⟨p5, 2, none⟩ (.slice A3 cf.length c3)).setCell ⟨p5, 3, none⟩ (.slice A4 cf.length c4)).setCell ⟨p5, 4, none⟩ (.slice A5 n5 c5)) p5 59 #[(.slice A1 ms.length c1), (.slice A2 ss.length c2), (.slice A3 cf.length c3), (.slice A4 cf.length c4), (.slice A5 n5 c5)] := (((((k5d.set_ 0 (.slice A1 ms.length c1)).set_ 1 (.slice A2 ss.length c2)).set_ 2 (.slice A3 cf.length c3)).set_ 3 (.slice A4 cf.length c4)).set_ 4 (.slice A5 n5 c5));have hG := hGn.far k5d (by decide) (by decide) (by decide) hgs;have hoG := OwnL.kept hoGd hgs (.inr (Ne.symm (own_low hoGd (Nat.lt_succ_self p5))));have hoH := OwnL.kept hoHd hgs (.inr (Ne.symm (own_ty hoHd k5d (by decide))));have hCI := hCId.far k5d (by decide) (by decide) (by decide) (by decide) hgs;have k3 := k3d.grown hgs (fun e => by have := Option.some.inj e; omega);have k2 := k2d.grown hgs (fun e => by have := Option.some.inj e; omega);have hB := hBd.grown hgs hBd.size (fun j e => by cases e; omega);generalize (((((wc.setCell ⟨p5, 0, none⟩ (.slice A1 ms.length c1)).setCell ⟨p5, 1, none⟩ (.slice A2 ss.length c2)).setCell ⟨p5, 2, none⟩ (.slice A3 cf.length c3)).setCell ⟨p5, 3, none⟩ (.slice A4 cf.length c4)).setCell ⟨p5, 4, none⟩ (.slice A5 n5 c5)) = we at *;clear hgs k5d hGn hoGd hoHd hCId k3d k2d hBd HKE m3 m4 hsd;have HKE := HKE2;go_upto_region 12 with fail;have hgl : gs.length ≤ 1000000 := by have := hCI.gl; omega
     have x0 : _ = some vG := k3.cell 0;have y0 : _ = some _ := k5.cell 0;have y1 : _ = some _ := k5.cell 1;have y2 : _ = some _ := k5.cell 2;have y3 : _ = some _ := k5.cell 3;have y4 : _ = some _ := k5.cell 4;refine wp_region_lit ?_;refine wpList_plain rfl fun K hK => ?_;go_simp;refine hK _ _ ?_;clear hK K
     try simp only [Act.put, pq1, pq2, pq3]
     refine wpList_plain rfl fun K hK => ?_;go_simp;refine hK _ _ ?_;clear hK K
     try simp only [Act.put, pq1, pq2, pq3]
     refine wpList_plain rfl fun K hK => ?_;go_simp;refine hK _ _ ?_;clear hK K
     try simp only [Act.put, pq1, pq2, pq3]
     refine wpList_plain rfl fun K hK => ?_;go_simp;refine hK _ _ ?_;clear hK K
     try simp only [Act.put, pq1, pq2, pq3]
     refine wp_append_row (enc := encGc) Tryz.underlying30 grp_info rfl (by decide) (by decide) rfl _ _ rfl ⟨.slice A1 ms.length c1, .slice A2 ss.length c2, .slice A3 cf.length c3, .slice A4 cf.length c4, .slice A5 n5 c5⟩ rfl rfl (fun u hu => by simp only [encGc, List.mem_cons, List.not_mem_nil, or_false] at hu; rcases hu with rfl | rfl | rfl | rfl | rfl <;> rfl) rfl hoG rfl (by omega) (Nat.succ_le_of_lt k5.lt) ?_;intro vG2 wg hoG2 hgG;have hG2 := hG.apart hoG (by decide) (by decide) (by decide) hgG;have hoH2 := OwnL.kept hoH hgG (rows_apart hoH hoG (by decide));have hCI2 := hCI.apart hoG (by decide) (by decide) (by decide) (by decide) hgG;have k52 := k5.grown hgG (own_low hoG (Nat.lt_succ_self p5));have k32 := k3.grown hgG (own_ty hoG k3 (by decide));have k22 := k2.grown hgG (own_ty hoG k2 (by decide));have hBg := hB.grown hgG hB.size (fun j e => by have := own_high hoG j e; omega);clear hG hoH hCI k5 k3 k2 hB hoG hgG x0 y0 y1 y2 y3 y4;obtain ⟨AG, cG, hvG, -⟩ := OwnL.row hoG2 encGc_len;generalize (gs ++ [(⟨.slice A1 ms.length c1, .slice A2 ss.length c2, .slice A3 cf.length c3, .slice A4 cf.length c4, .slice A5 n5 c5⟩ : Gc)]).length = nG at hvG;subst hvG;have x0 : _ = some vG := k32.cell 0;have f0 := k32.frozen 0;go_upto_region 13 with fail;have hgs := grown_set (grown_refl wg (some (p2 + 1))) 0 (Value.slice AG nG cG);have hoG := OwnL.kept hoG2 hgs (.inr (Ne.symm (own_ty hoG2 k32 (by decide))));have hoH := OwnL.kept hoH2 hgs (.inr (Ne.symm (own_ty hoH2 k32 (by decide))));have hG := hG2.far k32 (by decide) (by decide) (by decide) hgs;have hCI := hCI2.far k32 (by decide) (by decide) (by decide) (by decide) hgs;have k5 := k52.grown hgs (fun e => by have := Option.some.inj e; omega);have k2 := k22.grown hgs (fun e => by have := Option.some.inj e; omega);have hB := hBg.grown hgs hBg.size (fun j e => by cases e; omega);have k3 : Blk (wg.setCell ⟨p2 + 1, 0, none⟩ (Value.slice AG nG cG)) (p2 + 1) 33 #[Value.slice AG nG cG, vH] := k32.set_ 0 (Value.slice AG nG cG);clear hoG2 hoH2 hG2 hCI2 k52 k22 k32 hBg hgs x0 f0;generalize wg.setCell ⟨p2 + 1, 0, none⟩ (Value.slice AG nG cG) = wh at *;have hoHd : OwnHd w.heap.size wh.drew vH ys := hoH;have hoGd : OwnG (p5 + 1) wh.drew (.slice AG nG cG) (gs ++ [⟨.slice A1 ms.length c1, .slice A2 ss.length c2, .slice A3 cf.length c3, .slice A4 cf.length c4, .slice A5 n5 c5⟩]) := hoG;have hGd := hG.below (Below.refl wh.heap.size wh).drew;have hCId := hCI.below (Below.refl wh.heap.size wh).drew;have k5d : Blk wh.drew p5 59 _ := k5;have k3d : Blk wh.drew (p2 + 1) 33 #[Value.slice AG nG cG, vH] := k3;have k2d : Blk wh.drew p2 33 _ := k2;have hBd := hB.drew;obtain ⟨AH, cH, hvH, hrH⟩ := OwnL.row hoHd encH1_len;have hyl : ys.length = i := by have h1 := hCI.hl; rw [List.length_map] at h1; have h2 := HCO.out.len; omega
     have HLK := Lib.hid (fun W h1 h2 => rLinks_q AH ys.length cH (ys.map (·.1)) hs (i : Int) (by omega) (HCO.out.small (by omega)) W h1 h2);have hLG : linksG hs (i : Int) = linksL hs (i) := linksG_all (hs := hs) (i := i) (by have := HCO.out.len; omega);rw [hLG] at HLK;have hRW := Lib.hid (And.intro (rowHd_map hrH) hCId.hdrs);subst hvH;have HYL : Hid (ys.length ≤ 6) := Lib.hid (by omega);clear hyl;generalize ys.length = nH at HLK hRW hoHd k3d ⊢;clear hoG hoH hG hCI k5 k3 k2 hB hrH hLG;refine region_here (fun Z : World => Z.cell? ⟨p2 + 1, 1, none⟩ = some (.slice AH nH cH) ∧ Z.cell? ⟨p5, 0, none⟩ = some (.slice A1 ms.length c1) ∧ Z.cell? ⟨p5, 3, none⟩ = some (.slice A4 cf.length c4) ∧ Z.cell? ⟨p5, 4, none⟩ = some (.slice A5 n5 c5)) 15 (by kernel_rfl) ⟨k3d.cell 1, k5d.cell 0, k5d.cell 3, k5d.cell 4⟩ (fun hHeld => ?_);generalize wh.drew = wi at *;refine tkT 0 rfl ?_;refine tkT 1 rfl ?_;refine tkT 2 rfl ?_;refine tkT 3 rfl ?_;refine tkT 4 rfl ?_;refine tkT 5 rfl ?_;refine tkT 6 rfl ?_;refine tkT 7 rfl ?_;refine tkT 8 rfl ?_;refine tkT 9 rfl ?_;refine tkO 10 rfl fun K hK => ?_;go_simp;go_at_call 15
     with_reducible refine (HLK.out _ hRW.out.1 hRW.out.2).mono ?_
     rintro e wa ⟨vL, rfl, hoL, hba⟩
     (try go_wp2_with fail)
     replace hoL := hoL.le hBd.size;obtain ⟨AL, cL, hvL, -⟩ := OwnL.row hoL encH_len;generalize (linksL hs (i)).length = nL at hvL;subst hvL;replace hoHd := hoHd.below hba;replace hoGd := hoGd.below hba;replace hGd := hGd.below hba;replace hCId := hCId.below hba;replace k5d := k5d.below hba k5d.lt;replace k3d := k3d.below hba k3d.lt;replace k2d := k2d.below hba k2d.lt;replace hBd := below_then hBd hba;refine hK.out _ _ ?_ (fun hHeld10 => ?_)
     ·exact ⟨k3d.cell 1, k5d.cell 0, k5d.cell 3, k5d.cell 4⟩
     clear hK K
     try simp only [Act.put, pq1, pq2, pq3]
     refine tkT 11 rfl ?_;refine tkO 12 rfl fun K hK => ?_;go_simp;refine alloc_name ?_;intro wz kz hbz;replace hoL := hoL.below hbz;replace hoHd := hoHd.below hbz;replace hoGd := hoGd.below hbz;replace hGd := hGd.below hbz;replace hCId := hCId.below hbz;replace k5d := k5d.below hbz k5d.lt;replace k3d := k3d.below hbz k3d.lt;replace k2d := k2d.below hbz k2d.lt;replace hBd := below_then hBd hbz;refine hK.out _ _ ?_ (fun hHeld12 => ?_)
     ·exact ⟨k3d.cell 1, k5d.cell 0, k5d.cell 3, k5d.cell 4⟩
     clear hK K
     try simp only [Act.put, pq1, pq2, pq3]
     refine tkO 13 rfl fun K hK => ?_;have hyl6 : ys.length ≤ 1000000 := by have := HYL.out; omega
     refine step_append_rows (enc := encH1) (B := w.heap.size) (l := ys) (ds := [⟨⟨(i : Int), (.slice A1 ms.length c1), (.slice A4 cf.length c4), (.slice A5 n5 c5), (.slice AL nL cL)⟩, fun u hu => by simp only [encHd, List.mem_cons, List.not_mem_nil, or_false] at hu; rcases hu with rfl | rfl | rfl | rfl | rfl <;> rfl⟩]) (A := some ⟨wa.heap.size, 0, none⟩) (n := 1) (c := 1) Tryz.underlying31 hdr_info rfl (by decide) (by decide) rfl (.tmp 67) (.tmp 78) rfl encH1_len encH1_one rfl hoHd rfl (row_new kz) hyl6 (by decide) hBd.size ?_;intro v3 w3 ho3 hg3;obtain ⟨A3h, c3h, hv3, -⟩ := OwnL.row ho3 encH1_len;generalize (ys ++ [_]).length = n3h at hv3;subst hv3;replace hoL := OwnL.kept hoL hg3 (rows_apart hoL hoHd (by decide));replace hoGd := OwnL.kept hoGd hg3 (rows_apart hoGd hoHd (by decide));replace hGd := hGd.apart hoHd (by decide) (by decide) (by decide) hg3;replace hCId := hCId.apart hoHd (by decide) (by decide) (by decide) (by decide) hg3;replace k5d := k5d.grown hg3 (own_ty hoHd k5d (by decide));replace k3d := k3d.grown hg3 (own_ty hoHd k3d (by decide));replace k2d := k2d.grown hg3 (own_ty hoHd k2d (by decide));replace hBd := hBd.grown hg3 hBd.size (own_high hoHd);clear hoHd hg3 kz;refine hK.out _ _ ?_ (fun hHeld13 => ?_)
     ·exact ⟨k3d.cell 1, k5d.cell 0, k5d.cell 3, k5d.cell 4⟩
     clear hK K
     try simp only [Act.put, pq1, pq2, pq3]
     refine tkT 14 rfl ?_;refine tkK 15 rfl fun K hK => ?_;have y1 : _ = some _ := k3d.cell 1;have z1 := k3d.frozen 1;go_simp;refine hK.out _ _ ?_;clear hK K
     try simp only [Act.put]
     refine tkD ?_;have hgs := grown_set (grown_refl w3 (some (p2 + 1))) 1 (Value.slice A3h n3h c3h);have ho4 := OwnL.kept ho3 hgs (.inr (Ne.symm (own_ty ho3 k3d (by decide))));have hoG4 := OwnL.kept hoGd hgs (.inr (Ne.symm (own_ty hoGd k3d (by decide))));have hoL4 := OwnL.kept hoL hgs (.inr (Ne.symm (own_ty hoL k3d (by decide))));have hG4 := hGd.far k3d (by decide) (by decide) (by decide) hgs;have hCI4 := hCId.far k3d (by decide) (by decide) (by decide) (by decide) hgs;have k54 := k5d.grown hgs (fun e => by have := Option.some.inj e; omega);have k24 := k2d.grown hgs (fun e => by have := Option.some.inj e; omega);have hB4 := hBd.grown hgs hBd.size (fun j e => by cases e; omega);have k34 : Blk (w3.setCell ⟨p2 + 1, 1, none⟩ (Value.slice A3h n3h c3h)) (p2 + 1) 33 #[Value.slice AG nG cG, (Value.slice A3h n3h c3h)] := k3d.set_ 1 (Value.slice A3h n3h c3h);have hCI5 := hCI4.snoc (q := ⟨.slice A1 ms.length c1, .slice A2 ss.length c2, .slice A3 cf.length c3, .slice A4 cf.length c4, .slice A5 n5 c5⟩) (x := ⟨(i : Int), (.slice A1 ms.length c1), (.slice A4 cf.length c4), (.slice A5 n5 c5), (.slice AL nL cL)⟩) (e := ⟨ms, ss, cf⟩) (y := hdrE hs (i) ⟨ms, ss, cf⟩) hG4 ⟨rfl, hG4.L, hG4.K, hG4.P, hoL4⟩;have HCO2 : Hid (ChainOK KY (es ++ [⟨ms, ss, cf⟩]) (hs ++ [hdrE hs (i) ⟨ms, ss, cf⟩])) := Lib.hid (by have := HCO.out.snoc (e := ⟨ms, ss, cf⟩) (by rw [hel]; exact HGO2.out) HKE.out; rwa [hel] at this);have HEL2 : Hid ((es ++ [(⟨ms, ss, cf⟩ : Ep)]).length = (i) + 1) := Lib.hid (by rw [List.length_append, hel]; rfl);generalize w3.setCell ⟨p2 + 1, 1, none⟩ (Value.slice A3h n3h c3h) = w4 at *;clear hoGd hGd hCId k5d k3d k2d hBd hoL ho3 hgs hCI4;clear y1 z1;go_wp2_with fail;go_roundw
     case rel => exact ⟨(i) + 1, _, _, _, _, _, ms, ss, cf, _, _, _, _, _, _, by omega, by go_num, HGO2, HKE, k54, hG4, k34, k24, hoG4, ho4, by rw [List.map_append]; exact hCI5, HCO2, HEL2.out, hB4⟩
     case measure => simp [intOf]; omega
   ·obtain rfl : N = i := by omega
    have h0' : ¬ (N : Int) = 0 := by omega
    have hlen : es.length = epochsN n := by rw [hel, HN.out]
    have HLN := Lib.hid hlen;obtain ⟨AG, cG, hvG, -⟩ := OwnL.row hoG encGc_len;obtain ⟨AH, cH, hvH, -⟩ := OwnL.row hoH encH1_len;generalize gs.length = nG at hvG;generalize ys.length = nH at hvH;subst hvG hvH;have x0 : _ = some _ := k3.cell 0;have x1 : _ = some _ := k3.cell 1;have y0 : _ = some _ := k2.cell 0;have y1 : _ = some _ := k2.cell 1;have z0 := k2.frozen 0;have z1 := k2.frozen 1;have hgs := grown_set (grown_set (grown_refl wr (some p2)) 0 (.slice AG nG cG)) 1 (.slice AH nH cH);have hoG4 := OwnL.kept hoG hgs (.inr (Ne.symm (own_ty hoG k2 (by decide))));have hoH4 := OwnL.kept hoH hgs (.inr (Ne.symm (own_ty hoH k2 (by decide))));have hCI4 := hCI.far k2 (by decide) (by decide) (by decide) (by decide) hgs;have hB4 := hB.grown hgs hB.size (fun j e => by cases e; omega);have ks : Blk _ p2 33 #[.slice AG nG cG, .slice AH nH cH] := (k2.set_ 0 (.slice AG nG cG)).set_ 1 (.slice AH nH cH);have HPOST := Lib.hid (And.intro hoG4 (And.intro hoH4 (And.intro hCI4 (And.intro hB4 ks))));have hpw : w.heap.size ≤ p5 + 1 := by omega
    clear hgs hoG4 hoH4 hCI4 hB4 ks hoG hoH hCI hB k3 k2 k5 hG hlen hel
    by_cases hin : N < n
    ·have hin' : (N : Int) < (n : Int) := by omega
     have h6 : ¬ (N : Int) < 6 := by have := (hN1.2.2 N (by omega)); omega
     have h6' : ((N : Int) < 6) = False := by simp only [eq_iff_iff, iff_false]; exact h6
     clear h6;go_wp2_with fail;refine bodyPost_ret (results_cell_row (p := 2) (ty := 33) rfl _ _ p2 _ #[.slice AG nG cG, .slice AH nH cH] (0, 0) _ rfl HPOST.out.2.2.2.2 Tryz.underlying33 rfl chain_size) rfl ?_;exact ⟨_, _, gs, ys, es, hs, KY, rfl, HPOST.out.1.le hpw, HPOST.out.2.1, HPOST.out.2.2.1, HCO.out, HLN.out, HPOST.out.2.2.2.1⟩
    ·have hin' : ((N : Int) < (n : Int)) = False := by simp only [eq_iff_iff, iff_false]; omega
     go_wp2_with fail;refine bodyPost_ret (results_cell_row (p := 2) (ty := 33) rfl _ _ p2 _ #[.slice AG nG cG, .slice AH nH cH] (0, 0) _ rfl HPOST.out.2.2.2.2 Tryz.underlying33 rfl chain_size) rfl ?_;exact ⟨_, _, gs, ys, es, hs, KY, rfl, HPOST.out.1.le hpw, HPOST.out.2.1, HPOST.out.2.2.1, HCO.out, HLN.out, HPOST.out.2.2.2.1⟩
theorem vote_info : (Tryz.prog.info? 113).map (fun i => (i.zero, i.size, i.bytes)) = some (some (.agg #[.int .i64 0, .string ⟨#[]⟩, .int .i64 0, .int .i64 0]), 4, 40) := by kernel_rfl
theorem encVt_one (v : Vt) : ∀ u ∈ encVt v, u.oneCell' = true := fun u hu => by
 simp only [encVt, List.mem_cons, List.not_mem_nil, or_false] at hu
 rcases hu with rfl | rfl | rfl | rfl <;> rfl
theorem bitN_lt (b i : Nat) : bitN b i = 0 ∨ bitN b i = 1 := by unfold bitN; omega
theorem u16_and (b i : Nat) (hb : b < 65536) : Go.bits .and .u16 ((b : Int) / 2 ^ i) 1 = ((bitN b i : Nat) : Int) := by
 have e : (b : Int) / 2 ^ i = ((b / 2 ^ i : Nat) : Int) := by rw [Int.natCast_ediv, Int.natCast_pow]; rfl
 rw [e];have hx : b / 2 ^ i < 65536 := Nat.lt_of_le_of_lt (Nat.div_le_self _ _) hb;show IntKind.u16.wrap ((BitVec.ofInt 16 ((b / 2 ^ i : Nat) : Int) &&& BitVec.ofInt 16 ((1 : Nat) : Int)).toNat : Int) = _;rw [BitVec.toNat_and, BitVec.ofInt_natCast, BitVec.ofInt_natCast, BitVec.toNat_ofNat, BitVec.toNat_ofNat, Nat.mod_eq_of_lt hx, Nat.mod_eq_of_lt (by decide : 1 < 2 ^ 16), Nat.and_one_is_mod];show IntKind.u16.wrap ((bitN b i : Nat) : Int) = _
 rcases bitN_lt b i with h | h <;> rw [h] <;> rfl
theorem RowG.get {w : World} {A : Option Addr} {n c : Nat} {gs : List Gc} (h : Row encGc 5 w A n c gs) {k : Nat} (hk : k < n) : ∃ b o q, A = some ⟨b, o, none⟩ ∧ gs[k]? = some q ∧ w.cell? ⟨b, o + k * 5, none⟩ = some q.a ∧ w.cell? ⟨b, o + k * 5 + 1, none⟩ = some q.b ∧ w.cell? ⟨b, o + k * 5 + 2, none⟩ = some q.c ∧ w.cell? ⟨b, o + k * 5 + 3, none⟩ = some q.d ∧ w.cell? ⟨b, o + k * 5 + 4, none⟩ = some q.f := by
 obtain ⟨b, o, e, hc⟩ := h.at_ (by omega);have hl : k < gs.length := by have := h.len; omega
 have hm : gs[k]? = some gs[k] := List.getElem?_eq_getElem hl;exact ⟨b, o, gs[k], e, hm, hc k 0 _ _ hm rfl, hc k 1 _ _ hm rfl, hc k 2 _ _ hm rfl, hc k 3 _ _ hm rfl, hc k 4 _ _ hm rfl⟩
def VotesPost (l : List Vt) (w : World) (e : Ending) (w' : World) : Prop := ∃ v : Value, e = .returned v ∧ OwnVt w.heap.size w' v l ∧ Below w.heap.size w w'
theorem Votes_q (B first k bits wrong nG cG : Nat) (AG : Option Addr) (vH : Value) (gs : List Gc) (q : Gc) (e : Ep) (t : ByteArray) (hg : GrpOK first e.ms e.ss e.cf) (hf : first ≤ 1000000) (hq : gs[k]? = some q) (ht : t.size ≤ 800000) (hb1 : bits < 65536) (hb2 : wrong < 65536) (w : World) (hG : GrpW B w q.a q.b q.c q.d q.f e.ms e.ss e.cf) (hr : Row encGc 5 w AG nG cG gs) :
 Calls Tryz.prog 18 #[.agg #[.slice AG nG cG, vH], .int .i64 (k : Int), .string t, .int .u16 (bits : Int), .int .u16 (wrong : Int)] w (VotesPost (votesL e t bits wrong e.ms.length) w) := by
 have hk : k < nG := by rw [← hr.len]; exact (List.getElem?_eq_some_iff.1 hq).1
 obtain ⟨A1, A2, A3, A4, A5, c1, c2, c3, c4, c5, n5, e1, e2, e3, e4, e5, r1, r2, -⟩ := hG.opened;have hcell : ∃ b o, AG = some ⟨b, o, none⟩ ∧ ∀ W, Below w.heap.size w W → W.cell? ⟨b, o + k * 5, none⟩ = some q.a ∧ W.cell? ⟨b, o + k * 5 + 1, none⟩ = some q.b ∧ W.cell? ⟨b, o + k * 5 + 2, none⟩ = some q.c ∧ W.cell? ⟨b, o + k * 5 + 3, none⟩ = some q.d ∧ W.cell? ⟨b, o + k * 5 + 4, none⟩ = some q.f := by
  obtain ⟨b, o, q', e, hq', -⟩ := RowG.get hr hk;subst e;refine ⟨b, o, rfl, fun W hb => ?_⟩;obtain ⟨b', o', q'', e', hq'', h⟩ := RowG.get (hr.below hb) hk
  cases e'
  rw [hq] at hq''
  cases hq''
  exact h
 obtain ⟨b, o, rfl, hcell⟩ := hcell;rw [e1, e2, e3, e4, e5] at hcell;have HC := Lib.hid hcell;rw [hg.crew.len] at r2;have HR := Lib.hid (And.intro r1 r2);have HG := Lib.hid hg;have hln := hg.crew.len;have hm4 := hg.hi;clear hcell hr hG r1 r2 e1 e2 e3 e4 e5 hq hg;have hk' : (k : Int) < (nG : Int) := by omega
 go_enter Tryz.func18, Tryz.ntmps18;go_upto_region 1 with fail;refine name1p ?_;intro W0 k5 hB;obtain ⟨p5, hp5⟩ : ∃ g, g = w.heap.size := ⟨_, rfl⟩;rw [← hp5] at k5 ⊢;have hpB : w.heap.size ≤ p5 := Nat.le_of_eq hp5.symm;clear hp5;have a0 : W0.cell? ⟨p5, 0, none⟩ = some (.slice (some ⟨b, o, none⟩) nG cG) := k5.cell 0;obtain ⟨x0, x1, x2, x3, x4⟩ := HC.out W0 hB;go_upto_region 3 with fail;refine name1p ?_;intro W1 k12 hb12;obtain ⟨p12, hp12⟩ : ∃ g, g = W0.heap.size := ⟨_, rfl⟩;rw [← hp12] at k12 ⊢;replace hB := below_then hB hb12;clear hp12 hb12 k5 a0 x0 x1 x2 x3 x4;obtain ⟨nM, hnM⟩ : ∃ n, n = e.ms.length := ⟨_, rfl⟩;rw [← hnM] at k12 hm4 hln HR;have HNM := Lib.hid hnM;clear hnM;go_wp2_with fail
 go_loopw [11, 13] (fun s11 s13 wr => ∃ i : Nat, i ≤ nM ∧ s13 = .int .i64 (i : Int) ∧ OwnVt w.heap.size wr s11 (votesL e t bits wrong i) ∧ Hid ((votesL e t bits wrong i).length ≤ i) ∧ Blk wr p12 59 #[.slice A1 nM c1, .slice A2 nM c2, .slice A3 e.cf.length c3, .slice A4 e.cf.length c4, .slice A5 n5 c5] ∧ Below w.heap.size w wr) (fun _ s13 _ => nM - (intOf s13).toNat)
 case atStart => exact ⟨0, by omega, rfl, OwnL.nil_ _ _ _ _ _, Lib.hid (Nat.le_refl _), k12, hB⟩
 case round =>
  clear k12 hB;obtain ⟨i, hi, rfl, ho, HLL, k12, hB⟩ := hrel;have y0 : wr.cell? ⟨p12, 0, none⟩ = some (.slice A1 nM c1) := k12.cell 0
  by_cases hlt : i < nM
  ·have hlt' : (i : Int) < (nM : Int) := by omega
   obtain ⟨bm, om, m, rfl, hm, d0, -, -⟩ := RowM.get (HR.out.1.below hB) hlt;obtain ⟨bs, os, x, rfl, hx, cx⟩ := RowI.get (HR.out.2.below hB) hlt;obtain ⟨hid, -, -, sk, hsk, -, hsq, -⟩ := HG.out.crew.one i m hm;have hxs : x = (sk : Int) := by
    unfold intsN at hx;rw [List.getElem?_map, hsk] at hx;exact (Option.some.inj hx).symm
   subst hxs;have hmi : I64 m.id := by
    have := HG.out.hi;have := (List.getElem?_eq_some_iff.1 hm).1;exact ⟨by omega, by omega⟩
   have hsk2 : sk ≤ 9223372036854775806 := by have := qG_lit; omega
   obtain ⟨z, hz⟩ := exq (bitN wrong i);have hz1 : z ≤ 1 := by rcases bitN_lt wrong i with h | h <;> omega
   have hbw : Go.bits .and .u16 ((wrong : Int) / 2 ^ i) 1 = (z : Int) := by rw [u16_and _ _ hb2, hz]
   have HSK := Lib.hid hsk;have HMM := Lib.hid hm;have HZ := Lib.hid hz;clear hx hid hsq hsk hm hz
   by_cases hbi : bitN bits i = 1
   ·have hba : Go.bits .and .u16 ((bits : Int) / 2 ^ i) 1 = 1 := by rw [u16_and _ _ hb1, hbi]; rfl
    have HV : Hid (votesL e t bits wrong (i + 1) = votesL e t bits wrong i ++ [vtE e t wrong i m]) := Lib.hid (votes_yes HMM.out hbi);have hvt : vtE e t wrong i m = ⟨m.id, t, ((signN ((sk + z) % qG) t.data.toList).1 : Int), ((signN ((sk + z) % qG) t.data.toList).2 : Int)⟩ := by
     unfold vtE;rw [List.getD_eq_getElem?_getD, HSK.out, ← HZ.out]
     rfl
    have m1 := Lib.hid (rVote_q m.id (sk + z) t (by omega) ht);have HVT := Lib.hid hvt;clear hbi hvt;rw [Int.natCast_add] at m1;generalize ((signN ((sk + z) % qG) t.data.toList).1 : Int) = R1 at *;generalize ((signN ((sk + z) % qG) t.data.toList).2 : Int) = S1 at *;unfold voteA at m1;have hwz : IntKind.i64.wrap (z : Int) = (z : Int) := IntWalk.i64_in _ (by omega);have hws : IntKind.i64.wrap ((sk : Int) + (z : Int)) = (sk : Int) + (z : Int) := IntWalk.i64_in _ (by omega);go_upto_region 7 with fail;have k12d : Blk wr.drew p12 59 _ := k12;have hod : OwnVt w.heap.size wr.drew u11 (votesL e t bits wrong i) := ho;have hBd := hB.drew;have d0d : wr.drew.cell? ⟨bm, om + i * 3, none⟩ = some (.int .i64 m.id) := d0;have cxd : wr.drew.cell? ⟨bs, os + i, none⟩ = some (.int .i64 (sk : Int)) := cx;clear k12 ho hB d0 cx y0 hba;refine region_here (fun Z : World => Z.cell? ⟨p12, 0, none⟩ = some (.slice (some ⟨bm, om, none⟩) nM c1) ∧ Z.cell? ⟨p12, 1, none⟩ = some (.slice (some ⟨bs, os, none⟩) nM c2) ∧ Z.cell? ⟨bm, om + i * 3, none⟩ = some (.int .i64 m.id) ∧ Z.cell? ⟨bs, os + i, none⟩ = some (.int .i64 (sk : Int))) 21 (by kernel_rfl) ⟨k12d.cell 0, k12d.cell 1, d0d, cxd⟩ (fun hHeld => ?_);clear d0d cxd;generalize wr.drew = wd at *;refine tkT 0 rfl ?_;refine tkT 1 rfl ?_;refine tkT 2 rfl ?_;refine tkT 3 rfl ?_;refine tkT 4 rfl ?_;refine tkT 5 rfl ?_;refine tkT 6 rfl ?_;refine tkT 7 rfl ?_;refine tkT 8 rfl ?_;refine tkT 9 rfl ?_;refine tkT 10 rfl ?_;refine tkT 11 rfl ?_;refine tkT 12 rfl ?_;refine tkT 13 rfl ?_;refine tkT 14 rfl ?_;refine tkT 15 rfl ?_;refine tkT 16 rfl ?_;refine tkT 17 rfl ?_;refine tkT 18 rfl ?_;refine tkO 19 rfl fun K hK => ?_;go_simp;go_at_call 54
    with_reducible refine (m1.out _).mono ?_
    rintro e1 wa ⟨rfl, hba⟩
    (try go_wp2_with fail)
    replace k12d := k12d.below hba k12d.lt;replace hod := hod.below hba;replace hBd := below_then hBd hba;refine hK.out _ _ ?_ (fun hHeld19 => ?_)
    ·exact ⟨k12d.cell 0, k12d.cell 1, cell_b hba hHeld.2.2.1, cell_b hba hHeld.2.2.2⟩
    clear hK K
    try simp only [Act.put, pq1, pq2, pq3]
    refine tkO 20 rfl fun K hK => ?_;go_simp;refine alloc_name ?_;intro wz kz hbz;replace k12d := k12d.below hbz k12d.lt;replace hod := hod.below hbz;replace hBd := below_then hBd hbz;refine hK.out _ _ ?_ (fun hHeld20 => ?_)
    ·exact ⟨k12d.cell 0, k12d.cell 1, cell_b hbz hHeld19.2.2.1, cell_b hbz hHeld19.2.2.2⟩
    clear hK K
    try simp only [Act.put, pq1, pq2, pq3]
    refine tkK 21 rfl fun K hK => ?_;refine step_append_rows (enc := encVt) (B := w.heap.size) (l := votesL e t bits wrong i) (ds := [⟨m.id, t, R1, S1⟩]) (A := some ⟨wa.heap.size, 0, none⟩) (n := 1) (c := 1) Tryz.underlying49 vote_info rfl (by decide) (by decide) rfl (.tmp 31) (.tmp 51) rfl encVt_len encVt_one rfl hod rfl (row_new kz) (by have := HLL.out; omega) (by decide) hBd.size ?_;intro v3 w3 ho3 hg3;replace k12d := k12d.grown hg3 (own_ty hod k12d (by decide));replace hBd := hBd.grown hg3 hBd.size (own_high hod);clear hod hg3 kz;refine hK.out _ _ ?_;clear hK K
    try simp only [Act.put, pq1, pq2, pq3]
    refine tkB 22 rfl ?_;refine tkD ?_;go_wp2_with fail;go_roundw
    case rel => exact ⟨i + 1, by omega, by go_num, by rw [HV.out, HVT.out]; exact ho3, Lib.hid (by rw [HV.out, List.length_append]; have := HLL.out; simp; omega), k12d, hBd⟩
    case measure => simp [intOf]; omega
   ·have hb0 : bitN bits i = 0 := by rcases bitN_lt bits i with h | h <;> omega
    have hba : Go.bits .and .u16 ((bits : Int) / 2 ^ i) 1 = 0 := by rw [u16_and _ _ hb1, hb0]; rfl
    have HV : Hid (votesL e t bits wrong (i + 1) = votesL e t bits wrong i) := Lib.hid (votes_no hbi);clear hbi hb0 hbw;go_wp2_with fail;go_roundw
    case rel => exact ⟨i + 1, by omega, by go_num, by rw [HV.out]; exact ho, Lib.hid (by rw [HV.out]; have := HLL.out; omega), k12, hB⟩
    case measure => simp [intOf]; omega
  ·obtain rfl : nM = i := by omega
   go_wp2_with fail;go_ret;exact ⟨_, rfl, by rw [← HNM.out]; exact ho, hB⟩
end Go.Proofs.YtkpinmejfdnhbaaGreatDoor
namespace Go.Proofs.YtkpinmejfdnhbaaGreatDoor
theorem ChainOK.hdr {K : Nat} {es : List Ep} {hs : List Hdr} (h : ChainOK K es hs) {i : Nat} (hi : i < es.length) : ∃ e, es[i]? = some e ∧ hs[i]? = some (hdrE hs i e) ∧ GrpOK (1 + 10 * i) e.ms e.ss e.cf ∧ e.cf.headD 0 = K := by
 obtain ⟨e, h1, h2, h3, h4⟩ := h.get hi;exact ⟨e, h1, h3, h4, h.key e h2⟩
theorem hdr_key {first K i : Nat} {hs : List Hdr} {e : Ep} (hg : GrpOK first e.ms e.ss e.cf) (hf : first ≤ 1000000) (hk : e.cf.headD 0 = K) : (hdrE hs i e).commits[0]? = some ((gP K : Nat) : Int) ∧ 1 ≤ (hdrE hs i e).commits.length := by
 obtain ⟨hR, -, -, -⟩ := crew_right hg.crew hg.lo hg.hi hf;obtain ⟨-, h1, h2⟩ := totR_right hR;have hl := hg.len;have hn : 1 ≤ needN (totW e.ms).toNat := by unfold needN; split <;> omega
 show (intsN (e.cf.map gP))[0]? = _ ∧ 1 ≤ (intsN (e.cf.map gP)).length;rw [intsN_len, List.length_map];refine ⟨?_, by omega⟩
 cases hc : e.cf with
 | nil => rw [hc] at hl; simp at hl; omega
 | cons c cs =>
   rw [hc] at hk;obtain rfl : c = K := hk
   rfl
theorem hdr_link {K : Nat} {es : List Ep} {hs : List Hdr} (h : ChainOK K es hs) {a b : Nat} {ta tb : Hdr} (ha : hs[a]? = some ta) (hb : hs[b]? = some tb) {i : Nat} (hi : b = a + 2 ^ i) : i < bitsN b ∧ tb.links[i]? = some (shaS (hdrL ta)) := by
 have hbl := (List.getElem?_eq_some_iff.1 hb).1;obtain ⟨e, -, -, h3, -⟩ := h.get (i := b) (by have := h.len; omega);rw [hb] at h3;obtain rfl := Option.some.inj h3;have h1 : i < bitsN b := bits_le_iff.1 (by omega);refine ⟨h1, ?_⟩;show (linksL hs b)[i]? = _;exact links_get h1 (by rw [hi, Nat.add_sub_cancel]; exact ha)
theorem follow_ok {K : Nat} {es : List Ep} {hs : List Hdr} (h : ChainOK K es hs) (hl : es.length ≤ 1000) {a b : Nat} {ta tb : Hdr} (ha : hs[a]? = some ta) (hb : hs[b]? = some tb) :
 rightH tb = true ∧ rightMems ta.mems = true ∧ 1 ≤ ta.commits.length ∧ tb.commits[0]? = ta.commits[0]? ∧ (tb.epoch = ta.epoch → hdrL tb = hdrL ta) ∧ (∀ i, i < bitsN tb.epoch.toNat → tb.epoch = ta.epoch + ((2 ^ i : Nat) : Int) → tb.links[i]? = some (shaS (hdrL ta))) ∧ ta.epoch = (a : Int) ∧ tb.epoch = (b : Int) := by
 have hal := (List.getElem?_eq_some_iff.1 ha).1;have hbl := (List.getElem?_eq_some_iff.1 hb).1;have hlen := h.len;obtain ⟨e, -, he, hg, hk⟩ := h.hdr (i := a) (by omega);obtain ⟨f, -, hf, hgf, hkf⟩ := h.hdr (i := b) (by omega);rw [ha] at he;rw [hb] at hf;have ea := Option.some.inj he;have eb := Option.some.inj hf;obtain ⟨k1, k2⟩ := hdr_key (hs := hs) (i := a) hg (by omega) hk;obtain ⟨k3, -⟩ := hdr_key (hs := hs) (i := b) hgf (by omega) hkf;rw [← ea] at k1 k2;rw [← eb] at k3;have e1 : ta.epoch = (a : Int) := by rw [ea]; rfl
 have e2 : tb.epoch = (b : Int) := by rw [eb]; rfl
 refine ⟨by rw [eb]; exact hdr_right hgf (by omega) (by omega), ?_, k2, by rw [k1, k3], fun hee => ?_, fun i hi hee => ?_, e1, e2⟩
 ·obtain ⟨hR, -, -, -⟩ := crew_right hg.crew hg.lo hg.hi (by omega);rw [ea];exact rightM_iff.2 hR
 ·have : a = b := by omega
  subst this;rw [ha] at hb;rw [Option.some.inj hb]
 ·exact (hdr_link h ha hb (i := i) (by omega)).2
theorem back_ok {K : Nat} {es : List Ep} {hs : List Hdr} (h : ChainOK K es hs) (hl : es.length ≤ 1000) {a b i : Nat} {ta tb : Hdr} (ha : hs[a]? = some ta) (hb : hs[b]? = some tb) (hi : b = a + 2 ^ i) :
 rightH ta = true ∧ (0 ≤ tb.epoch ∧ tb.epoch ≤ 1000000000) ∧ tb.links.length = bitsN tb.epoch.toNat ∧ bitsN tb.epoch.toNat ≠ 0 ∧ (bitsN tb.epoch.toNat ≠ 0 → ∃ i, i < bitsN tb.epoch.toNat ∧ tb.epoch = ta.epoch + ((2 ^ i : Nat) : Int) ∧ tb.links[i]? = some (shaS (hdrL ta))) := by
 obtain ⟨-, -, -, -, -, -, e1, e2⟩ := follow_ok h hl ha hb;obtain ⟨h1, -, -, -, -, -, -, -⟩ := follow_ok h hl hb ha;obtain ⟨h2, -, -, -, -, -, -, -⟩ := follow_ok h hl ha hb;obtain ⟨h3, h4⟩ := hdr_link h ha hb hi;have hp := hdr_parts h2;have e3 : tb.epoch.toNat = b := by rw [e2, Int.toNat_natCast]
 exact ⟨h1, hp.1, hp.2, by rw [e3]; omega, fun _ => ⟨i, by rw [e3]; exact h3, by rw [e1, e2, hi]; omega, h4⟩⟩
theorem all_many {first : Nat} {e : Ep} {t : ByteArray} {bits : Nat} (hg : GrpOK first e.ms e.ss e.cf) (hf : first ≤ 1000000) (hb : ∀ i, i < 4 → bitN bits i = 1) : 2 * totW e.ms < 3 * weightI e.ms (votesL e t bits 0 e.ms.length) t := voted_all hg hf hb
theorem sign_I64 (x : Nat) (text : List UInt8) : I64 ((signN x text).1 : Int) ∧ I64 ((signN x text).2 : Int) := by
 unfold signN;dsimp only;have h1 := (pos_lt (scal_lt (110 :: (lenS x ++ text)))).2;generalize posN (scalN (110 :: (lenS x ++ text))) = n at *;have h2 := gP_lt n (Nat.lt_trans h1 qG_64);have h3 := pG_lit;have h4 := qG_lit;have h5 : (n + x * challN (gP n) (gP x) text % qG) % qG < qG := Nat.mod_lt _ (by omega);exact ⟨⟨by omega, by omega⟩, ⟨by omega, by omega⟩⟩
theorem votes_I64 {first : Nat} {e : Ep} (hg : GrpOK first e.ms e.ss e.cf) (hf : first ≤ 1000000) (t : ByteArray) (bits wrong : Nat) : ∀ n, I64V (votesL e t bits wrong n) ∧ (votesL e t bits wrong n).length ≤ n
 | 0 => ⟨fun v hv => by simp [votesL] at hv, Nat.le_refl _⟩
 | n + 1 => by
   obtain ⟨h1, h2⟩ := votes_I64 hg hf t bits wrong n
   cases hm : e.ms[n]? with
   | none =>
     have : votesL e t bits wrong (n + 1) = votesL e t bits wrong n := by rw [votesL, hm]; simp
     rw [this];exact ⟨h1, by omega⟩
   | some m =>
     by_cases hb : bitN bits n = 1
     ·rw [votes_yes hm hb];refine ⟨fun v hv => ?_, by rw [List.length_append]; simp; omega⟩
      rcases List.mem_append.1 hv with hv | hv
      ·exact h1 v hv
      ·rw [List.mem_singleton.1 hv];obtain ⟨-, -, hI, -⟩ := crew_right hg.crew hg.lo hg.hi hf;exact ⟨(hI m (List.mem_of_getElem? hm)).1, sign_I64 _ _⟩
     ·rw [votes_no hb];exact ⟨h1, by omega⟩
end Go.Proofs.YtkpinmejfdnhbaaGreatDoor
