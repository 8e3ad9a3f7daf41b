/- What the laws of chapter 32 use: ways down, literal lists, six empty headers. -/
import Derived.Test.YtkpinmejfdnhbaaGreatDoorLwQ
namespace Go.Proofs.YtkpinmejfdnhbaaGreatDoor
open Go.RowKit Go.Shelf
attribute [local go_sem] Oper.semAt_some
theorem below_grown {B p : Nat} {a w w' : World} (h : Below B a w) (hg : w.grownBy w' (some p)) (hp : B ≤ p) (hw : B ≤ w.heap.size) : Below B a w' :=
 ⟨hg.os.trans h.os, hg.tape.trans h.tape, hg.output.trans h.output, Nat.le_trans h.size hg.size, fun k hk => (hg.block k (Nat.lt_of_lt_of_le hk hw) (fun e => by have := Option.some.inj e; omega)).trans (h.block k hk)⟩
theorem route_lit (a b : Int) (l : List Int) (n : Nat) (h : intsN (routeG a b) = l) (hn : l.length = n) (ha : I64 a) (w : World) :
 Calls Tryz.prog 10 #[.int .i64 a, .int .i64 b] w fun e w' => ∃ A c, e = .returned (.slice A n c) ∧ RowI w' A n c l ∧ Below w.heap.size w w' := by
 subst hn h;refine (Route_q a b ha w).mono ?_;rintro e w' ⟨v, rfl, ho, hb⟩;obtain ⟨A, c, rfl, hr⟩ := OwnL.row ho encI_len;exact ⟨A, c, rfl, hr, hb⟩
theorem route1 : intsN (routeG 13 0) = [5, 1, 0] := by decide +kernel
theorem route2 : intsN (routeG 6 5) = [5] := by decide +kernel
theorem route3 : intsN (routeG 3 3) = [] := by decide +kernel
theorem ints_same (A : Option Addr) (n c : Nat) (xs : List Int) (cs : Array Value) (hcs : cs = (xs.flatMap encI).toArray) (hn : n ≤ 1000000) (w : World) (h1 : RowI w A n c xs) :
 Calls Tryz.prog 11 #[.slice A n c, .slice (some ⟨w.heap.size, 0, none⟩) n n] (w.alloc (.cells cs 3)) fun e w' => e = .returned (.bool true) ∧ Below w.heap.size w w' := by
 subst hcs;refine (Ints_q A _ n c n n xs xs hn _ (h1.below (below_al (Below.refl _ _) _)) (rowI_new (Blk.new w _ _) h1.len)).mono ?_;rintro e w' ⟨rfl, hb⟩;exact ⟨by rw [decide_eq_true rfl], below_then (below_al (Below.refl _ _) _) hb⟩
theorem ints13 (A : Option Addr) (c : Nat) (w : World) (h : RowI w A 3 c [5, 1, 0]) : Calls Tryz.prog 11 #[.slice A 3 c, .slice (some ⟨w.heap.size, 0, none⟩) 3 3] (w.alloc (.cells #[.int .i64 5, .int .i64 1, .int .i64 0] 3)) fun e w' => e = .returned (.bool true) ∧ Below w.heap.size w w' := ints_same A 3 c [5, 1, 0] _ rfl (by omega) w h
theorem ints6 (A : Option Addr) (c : Nat) (w : World) (h : RowI w A 1 c [5]) : Calls Tryz.prog 11 #[.slice A 1 c, .slice (some ⟨w.heap.size, 0, none⟩) 1 1] (w.alloc (.cells #[.int .i64 5] 3)) fun e w' => e = .returned (.bool true) ∧ Below w.heap.size w w' := ints_same A 1 c [5] _ rfl (by omega) w h
/-! ### six headers with nothing but their epochs -/
def hzC (i : Nat) : Hc := ⟨(i : Int), .slice none 0 0, .slice none 0 0, .slice none 0 0, .slice none 0 0⟩
def hzH (i : Nat) : Hdr := ⟨(i : Int), [], [], [], []⟩
def sixC (i : Nat) : Array Value := (((List.range 6).map fun j => hzC (if j < i then j else 0)).flatMap encHd).toArray
theorem six_all : sixC 6 = (((List.range 6).map hzC).flatMap encHd).toArray := by kernel_rfl
theorem six_set {i : Nat} (hi : i < 6) : (sixC i).setIfInBounds (i * 5) (.int .i64 (i : Int)) = sixC (i + 1) := by
 rcases (show i = 0 ∨ i = 1 ∨ i = 2 ∨ i = 3 ∨ i = 4 ∨ i = 5 by omega) with rfl | rfl | rfl | rfl | rfl | rfl <;> kernel_rfl
theorem six_cell {i : Nat} (hi : i < 6) : ∃ v, (sixC i)[i * 5]? = some v := by
 have : (sixC i).size = 30 := by
  rcases (show i = 0 ∨ i = 1 ∨ i = 2 ∨ i = 3 ∨ i = 4 ∨ i = 5 by omega) with rfl | rfl | rfl | rfl | rfl | rfl <;> kernel_rfl
 exact ⟨_, Array.getElem?_eq_getElem (by omega)⟩
theorem made_six (w : World) : (Instr.makeSlice 31 (.int .i64 6) (.int .i64 6)).run Tryz.prog w = .ok (.slice (some ⟨w.heap.size, 0, none⟩) 6 6) (w.alloc (.cells (sixC 0) 46)) := by
 obtain ⟨i, hi, hzz⟩ := Option.map_eq_some_iff.1 hdr_info;simp only [Prod.mk.injEq] at hzz;obtain ⟨hz, hs, hb⟩ := hzz;have hr := run_make (P := Tryz.prog) w 31 46 i _ Tryz.underlying31 hi hz .i64 .i64 (6 : Int) (6 : Int) (by omega) (Int.le_refl _) (by rw [hb]; omega) (by omega);rw [hs] at hr;have e : madeCells (Value.agg #[.int .i64 0, .slice none 0 0, .slice none 0 0, .slice none 0 0, .slice none 0 0]).cells ((6 : Int).toNat * 5) = sixC 0 := by kernel_rfl
 rw [e] at hr;exact hr
theorem rowHd_new {w : World} {g : Nat} {t : TypeId} {xs : List Hc} {n : Nat} (hk : Blk w g t (xs.flatMap encHd).toArray) (hl : xs.length = n) : RowHd w (some ⟨g, 0, none⟩) n n xs := by
 refine ⟨hl, Nat.le_refl _, fun _ => ⟨g, 0, rfl, fun j k x u hx hu => ?_⟩⟩;have hk1 := (List.getElem?_eq_some_iff.1 hu).1;rw [encHd_len] at hk1;have := flat_get (enc := encHd) encHd_len xs j k x hx hk1;rw [Nat.zero_add];exact (hk.cell _).trans (by rw [List.getElem?_toArray, this, hu])
theorem row_none {α : Type} {enc : α → List Value} {s : Nat} (w : World) : Row enc s w none 0 0 ([] : List α) := ⟨rfl, Nat.le_refl _, fun h => absurd h (by omega)⟩
theorem hz_in (w : World) (i : Nat) : HdrIn w (hzC i) (hzH i) :=
 ⟨rfl, ⟨none, 0, rfl, row_none w⟩, ⟨none, 0, rfl, row_none w⟩, ⟨none, 0, [], rfl, row_none w, ⟨rfl, fun i v l hv hl => by simp at hv⟩⟩, ⟨none, 0, rfl, row_none w⟩⟩
theorem hz_small {i : Nat} (hi : i < 6) : HdrSm (hzH i) where
 e := ⟨by show -9223372036854775808 ≤ (i : Int); omega, by show (i : Int) ≤ 9223372036854775807; omega⟩
 m1 := Nat.zero_le _
 m2 := fun x hx => by cases hx
 c1 := Nat.zero_le _
 c2 := fun x hx => by cases hx
 p1 := Nat.zero_le _
 p2 := fun x hx => by cases hx
 p3 := fun x hx => by cases hx
 l1 := Nat.zero_le _
 l2 := fun x hx => by cases hx
theorem hz_all (w : World) : HdrsIn w ((List.range 6).map hzC) ((List.range 6).map hzH) :=
 ⟨by rw [List.length_map, List.length_map], fun i x h hx hh => by
  rw [List.getElem?_map, Option.map_eq_some_iff] at hx hh;obtain ⟨a, ha, rfl⟩ := hx;obtain ⟨b, hb, rfl⟩ := hh;rw [ha] at hb
  cases hb
  exact hz_in w a⟩
theorem links_six : linksG ((List.range 6).map hzH) 5 = [shaS (hdrL (hzH 4)), shaS (hdrL (hzH 3)), shaS (hdrL (hzH 1))] := by
 have hb : bitsN 5 = 3 := by decide +kernel
 rw [show (5 : Int) = ((5 : Nat) : Int) from rfl, linksG_yes (by omega) (by simp)];unfold linksL;rw [hb]
 rfl
theorem six_small : ∀ h ∈ (List.range 6).map hzH, HdrSm h := fun h hh => by
 obtain ⟨i, hi, rfl⟩ := List.mem_map.1 hh;exact hz_small (List.mem_range.1 hi)
theorem six_lit : sixC 6 = #[.int .i64 0, .slice none 0 0, .slice none 0 0, .slice none 0 0, .slice none 0 0, .int .i64 1, .slice none 0 0, .slice none 0 0, .slice none 0 0, .slice none 0 0, .int .i64 2, .slice none 0 0, .slice none 0 0, .slice none 0 0, .slice none 0 0, .int .i64 3, .slice none 0 0, .slice none 0 0, .slice none 0 0, .slice none 0 0, .int .i64 4, .slice none 0 0, .slice none 0 0, .slice none 0 0, .slice none 0 0, .int .i64 5, .slice none 0 0, .slice none 0 0, .slice none 0 0, .slice none 0 0] := by kernel_rfl
def yS (i : Nat) : List UInt8 := shaS (hdrL (hzH i))
theorem yS_len (i : Nat) : (yS i).length = 32 := sha_len _
theorem eq_yS (i : Nat) (w : World) : (Op.equalIn 10000 38 (.agg (u8a (yS i))) (.agg (u8a (yS i)))).run Tryz.prog w = .ok true w := by
 have := run_eq_hash (yS_len i) (yS_len i) 9998 w;rw [decide_eq_true rfl] at this;exact this
theorem six_hash (i : Nat) (hi : i < 6) (z : Int) (hz : z = (i : Int)) (w : World) :
 Calls Tryz.prog 41 #[.agg #[.int .i64 z, .slice none 0 0, .slice none 0 0, .slice none 0 0, .slice none 0 0]] w fun e w' => e = .returned (.agg (u8a (yS i))) ∧ Below w.heap.size w w' := by
 subst hz;exact rHeaderHash_q (hzC i) (hzH i) (hz_small hi) (Nat.le_trans (hdrL_len (hz_small hi)) (by omega)) w (hz_in w i)
theorem six_links (g : Nat) (w : World) (hT : Tabs w) (k : Blk w g 46 (sixC 6)) :
 Calls Tryz.prog 14 #[.slice (some ⟨g, 0, none⟩) 6 6, .int .i64 5] w fun e w' => ∃ bl ol cL, e = .returned (.slice (some ⟨bl, ol, none⟩) 3 cL) ∧ (w'.rangeAt bl ol (u8l (yS 4)) ∧ w'.rangeAt bl (ol + 32) (u8l (yS 3)) ∧ w'.rangeAt bl (ol + 64) (u8l (yS 1))) ∧ Below w.heap.size w w' := by
 rw [six_all] at k;have m := Links_q (some ⟨g, 0, none⟩) 6 6 _ _ 5 (by omega) ⟨by omega, by omega⟩ six_small w hT (rowHd_new k rfl) (hz_all w);rw [links_six] at m;refine m.mono ?_;rintro e w' ⟨v, rfl, ho, hb⟩;obtain ⟨A, c, rfl, hr⟩ := OwnL.row ho encH_len
 change RowH w' A 3 c [yS 4, yS 3, yS 1] at hr
 obtain ⟨bl, ol, y, rfl, hy, r0⟩ := rowH_range hr (k := 0) (by omega);obtain ⟨b1, o1, y1, e1, hy1, r1⟩ := rowH_range hr (k := 1) (by omega);obtain ⟨b2, o2, y2, e2, hy2, r2⟩ := rowH_range hr (k := 2) (by omega)
 cases e1; cases e2; cases hy; cases hy1; cases hy2
 exact ⟨bl, ol, c, rfl, ⟨r0 (yS_len 4), r1 (yS_len 3), r2 (yS_len 1)⟩, hb⟩
theorem range_b {w w' : World} {b o : Nat} {cs : List Value} (hb : Below w.heap.size w w') (h : w.rangeAt b o cs) : w'.rangeAt b o cs := fun j v hv => cell_b hb (h j v hv)
/-! ### a client and a chain -/
section
variable {K : Nat} {es : List Ep} {hs : List Hdr} (h : ChainOK K es hs) (hl : es.length ≤ 1000)
include h hl
theorem chain_follow {a b : Nat} {ta tb : Hdr} (ha : hs[a]? = some ta) (hb : hs[b]? = some tb)
 (B p : Nat) (pres : Hdr) (x : Hc) (A : Option Addr) (n c : Nat) (vs : List Vt) (hn : n ≤ 100000) (hIv : I64V vs) (W : World) (hT : Tabs W) (hi : HdrIn W x tb) (hv : RowVt W A n c vs) (hc : Cli B p W ta pres) :
 Calls Tryz.prog 17 #[.pointer (some ⟨p, 0, none⟩), .agg #[.int .i64 x.e, x.m, x.c, x.p, x.l], .slice A n c] W (FollowPost B p ta pres tb vs (strB (hdrL tb)) W) := by
 have hsm := h.small hl;obtain ⟨f1, f2, f3, f4, f5, f6, -, -⟩ := follow_ok h hl ha hb;exact Follow_q B p ta pres x tb (hsm tb (List.mem_of_getElem? hb)) (hsm ta (List.mem_of_getElem? ha)) f1 f2 f3 A n c vs hn hIv f4 f5 f6 W hT hi hv hc
theorem chain_epochs {a b : Nat} {ta tb : Hdr} (ha : hs[a]? = some ta) (hb : hs[b]? = some tb) : ta.epoch = (a : Int) ∧ tb.epoch = (b : Int) := (follow_ok h hl ha hb).2.2.2.2.2.2
theorem chain_many {a b : Nat} {ta tb : Hdr} (ha : hs[a]? = some ta) (hb : hs[b]? = some tb) (hab : a < b)
 (B p : Nat) (pres : Hdr) (x : Hc) (A : Option Addr) (n c : Nat) (vs : List Vt) (hm : 2 * totW ta.mems < 3 * weightI ta.mems vs (strB (hdrL tb))) (hn : n ≤ 100000) (hIv : I64V vs) (W : World) (hT : Tabs W) (hi : HdrIn W x tb) (hv : RowVt W A n c vs) (hc : Cli B p W ta pres) :
 Calls Tryz.prog 17 #[.pointer (some ⟨p, 0, none⟩), .agg #[.int .i64 x.e, x.m, x.c, x.p, x.l], .slice A n c] W fun e w' => e = .returned (.int .i64 0) ∧ Cli B p w' tb tb ∧ W.grownBy w' (some p) := by
 obtain ⟨e1, e2⟩ := chain_epochs h hl ha hb;refine (chain_follow h hl ha hb B p pres x A n c vs hn hIv W hT hi hv hc).mono ?_;rintro e w' ⟨rfl, q1, -, q3⟩;refine ⟨?_, q1 ⟨by omega, hm⟩, q3⟩;unfold followR;rw [if_neg (by omega), if_neg (by omega), if_pos hm]
theorem chain_few {a b : Nat} {ta tb : Hdr} (ha : hs[a]? = some ta) (hb : hs[b]? = some tb) (hab : a < b)
 (B p : Nat) (pres : Hdr) (x : Hc) (A : Option Addr) (n c : Nat) (vs : List Vt) (hm : ¬ 2 * totW ta.mems < 3 * weightI ta.mems vs (strB (hdrL tb))) (hn : n ≤ 100000) (hIv : I64V vs) (W : World) (hT : Tabs W) (hi : HdrIn W x tb) (hv : RowVt W A n c vs) (hc : Cli B p W ta pres) :
 Calls Tryz.prog 17 #[.pointer (some ⟨p, 0, none⟩), .agg #[.int .i64 x.e, x.m, x.c, x.p, x.l], .slice A n c] W fun e w' => e = .returned (.int .i64 24) ∧ Cli B p w' ta pres ∧ W.grownBy w' (some p) := by
 obtain ⟨e1, e2⟩ := chain_epochs h hl ha hb;refine (chain_follow h hl ha hb B p pres x A n c vs hn hIv W hT hi hv hc).mono ?_;rintro e w' ⟨rfl, -, q2, q3⟩;refine ⟨?_, q2 (fun q => hm q.2), q3⟩;unfold followR;rw [if_neg (by omega), if_neg (by omega), if_neg hm]
theorem chain_back {a b i : Nat} {ta tb : Hdr} (ha : hs[a]? = some ta) (hb : hs[b]? = some tb) (hi : b = a + 2 ^ i)
 (B p : Nat) (top : Hdr) (x : Hc) (W : World) (hT : Tabs W) (hin : HdrIn W x ta) (hc : Cli B p W top tb) :
 Calls Tryz.prog 22 #[.pointer (some ⟨p, 0, none⟩), .agg #[.int .i64 x.e, x.m, x.c, x.p, x.l]] W fun e w' => e = .returned (.int .i64 0) ∧ Cli B p w' top ta ∧ W.grownBy w' (some p) := by
 obtain ⟨b1, b2, b3, b4, b5⟩ := back_ok h hl ha hb hi;refine (Back_q B p top tb x ta (h.small hl ta (List.mem_of_getElem? ha)) b1 b2 b3 b5 W hT hin hc).mono ?_;rintro e w' ⟨-, q2, q3⟩;exact ⟨(q2 b4).1, (q2 b4).2, q3⟩
end
theorem few_nil {K : Nat} {es : List Ep} {hs : List Hdr} (h : ChainOK K es hs) (hl : es.length ≤ 1000) {a : Nat} {ta : Hdr} (ha : hs[a]? = some ta) (t : ByteArray) : ¬ 2 * totW ta.mems < 3 * weightI ta.mems [] t := by
 rw [weight_nil];have hal := (List.getElem?_eq_some_iff.1 ha).1;obtain ⟨e, -, h2, h3, -⟩ := h.hdr (i := a) (by rw [← h.len]; exact hal);rw [ha] at h2
 cases h2
 obtain ⟨hR, -, -, -⟩ := crew_right h3.crew h3.lo h3.hi (by have := h.len; omega);obtain ⟨-, h1, -⟩ := totR_right hR;show ¬ 2 * totW e.ms < _
 omega
theorem chain_mems {K : Nat} {es : List Ep} {hs : List Hdr} (h : ChainOK K es hs) (hl : es.length ≤ 1000) {a : Nat} {ta : Hdr} (ha : hs[a]? = some ta) : ∃ e, es[a]? = some e ∧ ta.mems = e.ms ∧ GrpOK (1 + 10 * a) e.ms e.ss e.cf ∧ 1 + 10 * a ≤ 1000000 := by
 have hal := (List.getElem?_eq_some_iff.1 ha).1;obtain ⟨e, h1, h2, h3, -⟩ := h.hdr (i := a) (by rw [← h.len]; exact hal);rw [ha] at h2
 cases h2
 exact ⟨e, h1, rfl, h3, by have := h.len; omega⟩
theorem chain_cells {W0 : World} {A : Option Addr} {n c : Nat} {xs : List Hc} {hs : List Hdr} (hr : RowHd W0 A n c xs) (hi : HdrsIn W0 xs hs) (h0 : 0 < n) :
 ∃ b o, A = some ⟨b, o, none⟩ ∧ ∀ i, i < n → ∃ x t, hs[i]? = some t ∧ ∀ W, Below W0.heap.size W0 W → HdrIn W x t ∧ W.cell? ⟨b, o + i * 5, none⟩ = some (.int .i64 x.e) ∧ W.cell? ⟨b, o + i * 5 + 1, none⟩ = some x.m ∧ W.cell? ⟨b, o + i * 5 + 2, none⟩ = some x.c ∧ W.cell? ⟨b, o + i * 5 + 3, none⟩ = some x.p ∧ W.cell? ⟨b, o + i * 5 + 4, none⟩ = some x.l := by
 obtain ⟨b, o, x0, e0, -⟩ := rowHd_at hr h0;refine ⟨b, o, e0, fun i hin => ?_⟩;obtain ⟨b1, o1, x, e1, hx, -⟩ := rowHd_at hr hin;have hl : i < hs.length := by have h1 := hr.len; have h2 := hi.len; omega
 refine ⟨x, hs[i], List.getElem?_eq_getElem hl, fun W hb => ?_⟩;obtain ⟨b2, o2, y, e2, hy, q⟩ := rowHd_at (hr.below hb) hin;rw [hx] at hy;obtain rfl := Option.some.inj hy;rw [e0] at e2
 cases e2
 exact ⟨(hi.one i x _ hx (List.getElem?_eq_getElem hl)).below hb, q⟩
theorem chain_new {K : Nat} {es : List Ep} {hs : List Hdr} (h : ChainOK K es hs) (hl : es.length ≤ 1000) {a : Nat} {ta : Hdr} (ha : hs[a]? = some ta) (x : Hc) (W : World) (hi : HdrIn W x ta) :
 Calls Tryz.prog 16 #[.agg #[.int .i64 x.e, x.m, x.c, x.p, x.l]] W fun e w' => ∃ p, e = .returned (.pointer (some ⟨p, 0, none⟩)) ∧ Cli W.heap.size p w' ta ta ∧ Below W.heap.size W w' := by
 refine (New_q x ta (h.small hl ta (List.mem_of_getElem? ha)) W hi).mono ?_;rintro e w' ⟨h1, -, hb⟩;obtain ⟨p, rfl, hc⟩ := h1 (follow_ok h hl ha ha).1;exact ⟨p, rfl, hc, hb⟩
theorem chain_votes {K : Nat} {es : List Ep} {hs : List Hdr} (h : ChainOK K es hs) (hl : es.length ≤ 1000) {B : Nat} {W : World} {gs : List Gc} {xs : List Hc} (hCI : ChainIn B W gs xs es hs) {AG : Option Addr} {nG cG : Nat} (hr : Row encGc 5 W AG nG cG gs) (vH : Value) {k : Nat} {tk : Hdr} (hk : hs[k]? = some tk) (t : ByteArray) (bits wrong : Nat) (ht : t.size ≤ 800000) (hb1 : bits < 65536) (hb2 : wrong < 65536) :
 ∃ e : Ep, es[k]? = some e ∧ tk.mems = e.ms ∧ GrpOK (1 + 10 * k) e.ms e.ss e.cf ∧ Calls Tryz.prog 18 #[.agg #[.slice AG nG cG, vH], .int .i64 (k : Int), .string t, .int .u16 (bits : Int), .int .u16 (wrong : Int)] W fun e' w' => ∃ A n c, e' = .returned (.slice A n c) ∧ RowVt w' A n c (votesL e t bits wrong e.ms.length) ∧ I64V (votesL e t bits wrong e.ms.length) ∧ n ≤ 4 ∧ Below W.heap.size W w' := by
 obtain ⟨e, he, hm, hg, hf⟩ := chain_mems h hl hk;have hkl : k < gs.length := by have := hCI.gl; have := (List.getElem?_eq_some_iff.1 he).1; omega
 refine ⟨e, he, hm, hg, ?_⟩;refine (Votes_q B (1 + 10 * k) k bits wrong nG cG AG vH gs gs[k] e t hg hf (List.getElem?_eq_getElem hkl) ht hb1 hb2 W (hCI.g k _ e (List.getElem?_eq_getElem hkl) he) hr).mono ?_;rintro e' w' ⟨v, rfl, ho, hb⟩;obtain ⟨A, c, rfl, hrw⟩ := OwnL.row ho encVt_len;obtain ⟨q1, q2⟩ := votes_I64 hg hf t bits wrong e.ms.length;exact ⟨A, _, c, rfl, hrw, q1, Nat.le_trans q2 hg.hi, hb⟩
theorem chain_all {K : Nat} {es : List Ep} {hs : List Hdr} (h : ChainOK K es hs) (hl : es.length ≤ 1000) {k : Nat} {tk : Hdr} (hk : hs[k]? = some tk) (t : ByteArray) (ht : t.size ≤ 800000) (bits : Nat) (hb : bits < 65536) (hbit : ∀ i, i < 4 → bitN bits i = 1) :
 ∃ vs : List Vt, 2 * totW tk.mems < 3 * weightI tk.mems vs t ∧ I64V vs ∧ ∀ (B : Nat) (W : World) (gs : List Gc) (xs : List Hc) (AG : Option Addr) (nG cG : Nat) (vH : Value), ChainIn B W gs xs es hs → Row encGc 5 W AG nG cG gs →
  Calls Tryz.prog 18 #[.agg #[.slice AG nG cG, vH], .int .i64 (k : Int), .string t, .int .u16 (bits : Int), .int .u16 0] W fun e' w' => ∃ A n c, e' = .returned (.slice A n c) ∧ n ≤ 4 ∧ RowVt w' A n c vs ∧ Below W.heap.size W w' := by
 obtain ⟨e, he, hm, hg, hf⟩ := chain_mems h hl hk;obtain ⟨q1, q2⟩ := votes_I64 hg hf t bits 0 e.ms.length;refine ⟨votesL e t bits 0 e.ms.length, by rw [hm]; exact all_many hg hf hbit, q1, fun B W gs xs AG nG cG vH hCI hr => ?_⟩;obtain ⟨e2, he2, -, -, m⟩ := chain_votes h hl hCI hr vH hk t bits 0 ht hb (by omega);rw [he] at he2;obtain rfl := Option.some.inj he2;refine m.mono ?_;rintro e' w' ⟨A, n, c, rfl, hv, -, hn, hbw⟩;exact ⟨A, n, c, rfl, hn, hv, hbw⟩
end Go.Proofs.YtkpinmejfdnhbaaGreatDoor
