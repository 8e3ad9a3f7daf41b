/- Joined by a program: ShaD, ShaE. -/
import Derived.Test.YtkpinmejfdnhbaaGreatDoorShaOne
import Derived.Laws.CopyOwn
import Derived.Great.BuildSlice
import Derived.Test.YtkpinmejfdnhbaaGreatDoorShelfTxt
import Derived.Test.YtkpinmejfdnhbaaGreatDoorRefFour
import Derived.Deep.RegionWith
import Derived.Test.YtkpinmejfdnhbaaGreatDoorShaC
set_option maxRecDepth 100000
set_option maxHeartbeats 4000000
namespace Go.Proofs.YtkpinmejfdnhbaaGreatDoor
open Go.RowKit
theorem nameOne {P : Program} {code : Code} {Q : Exit → Act → World → Prop} {act : Act} {W : World} {t1 : TypeId} {c1 : Array Value} (d1 : Array Value) (h1 : c1 = d1)
 (h : ∀ W0 : World, Blk W0 W.heap.size t1 d1 → Below W.heap.size W W0 → code.wp P Q act W0) : code.wp P Q act (W.alloc (.cells c1 t1)) := by
 subst h1;exact h _ (Blk.new _ _ _) (below_al (Below.refl _ _) _)
def u8a (l : List UInt8) : Array Value := (u8l l).toArray
theorem u8a_get {l : List UInt8} {i : Nat} {d : UInt8} (h : l[i]? = some d) : (u8a l)[i]? = some (.int .u8 (d.toNat : Int)) := by simp [u8a, u8l, h]
theorem u8a_set (l : List UInt8) (i : Nat) (d : UInt8) : (u8a l).setIfInBounds i (.int .u8 (d.toNat : Int)) = u8a (l.set i d) := by simp [u8a, u8l, List.map_set]
theorem Blk.u8A {w : World} {g : Nat} {t : TypeId} {l : List UInt8} (h : Blk w g t (u8a l)) {i : Nat} {d : UInt8} (hd : l[i]? = some d) : w.cell? ⟨g, i, none⟩ = some (.int .u8 (d.toNat : Int)) := (h.cell i).trans (u8a_get hd)
theorem Blk.put8A {w : World} {g : Nat} {t : TypeId} {l : List UInt8} (h : Blk w g t (u8a l)) (i : Nat) (d : UInt8) : Blk (w.setCell ⟨g, i, none⟩ (.int .u8 (d.toNat : Int))) g t (u8a (l.set i d)) := by
 have := h.set_ i (.int .u8 (d.toNat : Int));rwa [u8a_set] at this
theorem Blk.bdg {w : World} {g : Nat} {t : TypeId} {l : List UInt8} (h : Blk w g t (u8a l)) {n c : Nat} (hn : l.length = n) (hc : n ≤ c) : BDg w (some ⟨g, 0, none⟩) n c l :=
 ⟨hn, hc, fun _ => ⟨g, 0, rfl, fun j d hd => by rw [Nat.zero_add]; exact h.u8A hd⟩⟩
def upto (N : Nat) (l : List UInt8) (k : Nat) : List UInt8 := l.take k ++ List.replicate (N - k) 0
theorem upto_cur {N : Nat} {l : List UInt8} {k : Nat} (hl : l.length = N) (hk : k < N) : (upto N l k)[k]? = some 0 := by
 unfold upto;rw [List.getElem?_append_right (by rw [List.length_take]; omega), List.length_take, List.getElem?_replicate, if_pos (by omega)]
theorem upto_set {N : Nat} {l : List UInt8} {k : Nat} {d : UInt8} (hl : l.length = N) (hk : k < N) (hd : l[k]? = some d) : (upto N l k).set k d = upto N l (k + 1) := by
 unfold upto;rw [List.set_append_right _ _ (by rw [List.length_take]; omega), List.length_take, Nat.min_eq_left (by omega), Nat.sub_self, show N - k = (N - (k + 1)) + 1 by omega, List.replicate_succ, List.set_cons_zero, List.take_add_one, hd, List.append_assoc]
 rfl
theorem Blk.rowA {w : World} {g : Nat} {t : TypeId} {old : Array Value} (h : Blk w g t old) (cs : Array Value) : Blk (w.setRow g cs) g t cs := setRow_heap w g old cs t (0, 0) h
theorem eight_at {S : List Nat} (h : Eight S) {i : Nat} (hi : i < 8) : S[i]? = some (S.getD i 0) := by
 rw [List.getD_eq_getElem?_getD, List.getElem?_eq_getElem (by rw [h.len]; exact hi)]; rfl
theorem u8a_sha (L : List UInt8) : (u8a (shaS L)).size = 32 := by simp [u8a, u8l, sha_len]
theorem u8a_one (L : List UInt8) : (u8a L).all (·.oneCell') = true := by
 rw [Array.all_eq_true_iff_forall_mem];intro x hx;simp only [u8a, u8l, List.mem_toArray, List.mem_map] at hx;obtain ⟨b, _, rfl⟩ := hx
 rfl
theorem upto_zero (N : Nat) (l : List UInt8) : upto N l 0 = List.replicate N 0 := by simp [upto]
theorem upto_end {N : Nat} {l : List UInt8} (hl : l.length = N) : upto N l N = l := by
 unfold upto;rw [Nat.sub_self, ← hl, List.take_length]; simp
theorem lenS_at (n : Nat) {i : Nat} (hi : i < 8) : (lenS n)[i]? = some (UInt8.ofNat (n / 2 ^ (56 - 8 * i) % 256)) := by simp [lenS, hi]
theorem bytesS_at (l : List Nat) {i : Nat} (hi : i < 32) : (bytesS l)[i]? = some (UInt8.ofNat (l.getD (i / 4) 0 / 2 ^ (24 - i % 4 * 8) % 256)) := by simp [bytesS, hi]
theorem length_any (n : Nat) (_hn : n < 18446744073709551616) (w : World) : Calls Tryz.prog 175 #[.int .u64 (n : Int)] w fun e w' => e = .returned (.string ⟨(lenS n).toArray⟩) ∧ Below w.heap.size w w' := by
 go_enter Tryz.func175, Tryz.ntmps175;go_upto_region 2 with fail;refine nameOne (u8a (upto 8 (lenS n) 0)) (by rw [upto_zero]; rfl) ?_;intro W0 hk hB;go_wp2_with fail
 go_loopw [4, 5] (fun _ s5 wr => ∃ i : Nat, i ≤ 8 ∧ s5 = .int .i64 (i : Int) ∧ Blk wr w.heap.size 263 (u8a (upto 8 (lenS n) i)) ∧ Below w.heap.size w wr) (fun _ s5 _ => 8 - (intOf s5).toNat)
 case atStart => exact ⟨0, by omega, rfl, hk, hB⟩
 case round =>
  obtain ⟨i, hi, rfl, hk, hB⟩ := hrel
  by_cases hlt : i < 8
  ·have c0 := hk.u8A (upto_cur (lenS_len n) hlt);have hfz := hk.frozen i;obtain ⟨s, hs⟩ : ∃ s, s = 56 - 8 * i := ⟨_, rfl⟩;have e0 : (56 : Int) - 8 * (i : Int) = (s : Int) := by omega
   have e1 : (0 : Int) ≤ (s : Int) := by omega
   have e2 : (0 : Int) ≤ (i : Int) := by omega
   have e3 : (i : Int) < 8 := by omega
   have HS := Lib.hid hs;clear hs;go_wp2_with fail;go_roundw
   case rel =>
    have e : (n : Int) / 2 ^ s % 256 = ((UInt8.ofNat (n / 2 ^ s % 256)).toNat : Int) := by
     rw [byte_toNat (Nat.mod_lt _ (by omega))]
     simp
    rw [e];refine ⟨i + 1, by omega, by go_num, ?_, below_set hB (p := ⟨w.heap.size, i, none⟩) (Nat.le_refl _) _⟩;rw [← upto_set (lenS_len n) hlt (lenS_at n hlt), ← HS.out];exact hk.put8A _ _
   case measure => simp [intOf]; omega
  ·obtain rfl : i = 8 := by omega
   rw [upto_end (lenS_len n)] at hk;have hcv := run_bdg_str (hk.bdg (n := 8) (c := 8) (lenS_len n) (by omega));go_wp2_with fail;go_ret;exact ⟨rfl, hB⟩
def FTab (w : World) : Prop := Lib.TabIs Tryz.prog w "sortes/digest.first" .u32 (ivS.map fun n : Nat => (n : Int))
theorem FTab.cell {w : World} (h : FTab w) {i : Nat} (hi : i < 8) : w.cell? ⟨0, i, none⟩ = some (.int .u32 ((ivS.getD i 0 : Nat) : Int)) := by
 obtain ⟨t, fr, hb⟩ := tab_block (show Tryz.prog.globalNamed "sortes/digest.first" = some 0 by kernel_rfl) h;rw [cell_of_row w _ i _ t fr hb, List.getD_eq_getElem?_getD, List.getElem?_eq_getElem (show i < ivS.length from hi)]
 simp [show i < ivS.length from hi]
theorem FTab.below {w w' : World} (h : FTab w) (hb : Below w.heap.size w w') : FTab w' := by
 have hg : Tryz.prog.globalNamed "sortes/digest.first" = some 0 := by kernel_rfl
 unfold FTab Lib.TabIs World.var? at h ⊢;rw [hg] at h ⊢;simp only [Option.bind_some] at h ⊢;have hlt : 0 < w.heap.size := by
  rcases Nat.lt_or_ge 0 w.heap.size with hl | hl
  ·exact hl
  ·rw [Array.getElem?_eq_none hl] at h; cases h
 rw [hb.block _ hlt];exact h
theorem extract_bytes (s : ByteArray) (a b : Nat) : (s.extract a b).data.toList = (s.data.toList.drop a).take (b - a) := by
 simp [ByteArray.data_extract, Array.toList_extract, List.extract]
theorem cells8 {w : World} {g : Nat} {t : TypeId} {v0 v1 v2 v3 v4 v5 v6 v7 : Value} (h : Blk w g t #[v0, v1, v2, v3, v4, v5, v6, v7]) :
 (w.cell? ⟨g, 0, none⟩ = some v0 ∧ w.cell? ⟨g, 1, none⟩ = some v1 ∧ w.cell? ⟨g, 2, none⟩ = some v2 ∧ w.cell? ⟨g, 3, none⟩ = some v3 ∧ w.cell? ⟨g, 4, none⟩ = some v4 ∧ w.cell? ⟨g, 5, none⟩ = some v5 ∧ w.cell? ⟨g, 6, none⟩ = some v6 ∧ w.cell? ⟨g, 7, none⟩ = some v7) ∧
 (w.frozen? ⟨g, 0, none⟩ = false ∧ w.frozen? ⟨g, 1, none⟩ = false ∧ w.frozen? ⟨g, 2, none⟩ = false ∧ w.frozen? ⟨g, 3, none⟩ = false ∧ w.frozen? ⟨g, 4, none⟩ = false ∧ w.frozen? ⟨g, 5, none⟩ = false ∧ w.frozen? ⟨g, 6, none⟩ = false ∧ w.frozen? ⟨g, 7, none⟩ = false) :=
 ⟨⟨h.cell 0, h.cell 1, h.cell 2, h.cell 3, h.cell 4, h.cell 5, h.cell 6, h.cell 7⟩, h.frozen 0, h.frozen 1, h.frozen 2, h.frozen 3, h.frozen 4, h.frozen 5, h.frozen 6, h.frozen 7⟩
theorem put8s {w : World} {g : Nat} {t : TypeId} {v0 v1 v2 v3 v4 v5 v6 v7 : Value} (h : Blk w g t #[v0, v1, v2, v3, v4, v5, v6, v7]) (u0 u1 u2 u3 u4 u5 u6 u7 : Value) :
 Blk ((((((((w.setCell ⟨g, 0, none⟩ u0).setCell ⟨g, 1, none⟩ u1).setCell ⟨g, 2, none⟩ u2).setCell ⟨g, 3, none⟩ u3).setCell ⟨g, 4, none⟩ u4).setCell ⟨g, 5, none⟩ u5).setCell ⟨g, 6, none⟩ u6).setCell ⟨g, 7, none⟩ u7) g t #[u0, u1, u2, u3, u4, u5, u6, u7] := by
 have k := (((((((h.set_ 0 u0).set_ 1 u1).set_ 2 u2).set_ 3 u3).set_ 4 u4).set_ 5 u5).set_ 6 u6).set_ 7 u7;simp only [List.setIfInBounds_toArray, List.set_cons_zero, List.set_cons_succ] at k;exact k
theorem name2 {P : Program} {code : Code} {Q : Exit → Act → World → Prop} {act : Act} {W : World} {t1 t2 : TypeId} {c1 c2 : Array Value} (d1 d2 : Array Value) (h1 : c1 = d1) (h2 : c2 = d2)
 (h : ∀ W0 : World, Blk W0 W.heap.size t1 d1 → Blk W0 (W.heap.size + 1) t2 d2 → Below W.heap.size W W0 → code.wp P Q act W0) : code.wp P Q act ((W.alloc (.cells c1 t1)).alloc (.cells c2 t2)) := by
 subst h1 h2;refine h _ ((Blk.new _ _ _).alloc _) ?_ (below_al (below_al (Below.refl _ _) _) _);have := Blk.new (W.alloc (.cells c1 t1)) t2 c2;rwa [World.size_alloc] at this
theorem repeatL_one (b : UInt8) : ∀ c : Nat, Lib.repeatL [b] c = List.replicate c b
 | 0 => rfl
 | c + 1 => by rw [Lib.repeatL, repeatL_one b c, List.replicate_succ]; rfl
theorem repeat_zero (z : Nat) (w : World) (hz : z ≤ 1000000) : Calls Tryz.prog 174 #[.string ⟨#[0]⟩, .int .i64 (z : Int)] w fun e w' => e = .returned (.string ⟨(List.replicate z (0 : UInt8)).toArray⟩) ∧ Below w.heap.size w w' := by
 have h := Tryz.strings_Repeat ⟨#[0]⟩ z w (by omega) (by show 1 * z ≤ _; omega);rw [show (⟨#[0]⟩ : ByteArray).data.toList = [0] from rfl, repeatL_one] at h;exact h
theorem mix_lit {a0 a1 a2 a3 a4 a5 a6 a7 b0 b1 b2 b3 b4 b5 b6 b7 : Nat} {b : ByteArray} (hE : Eight [a0, a1, a2, a3, a4, a5, a6, a7]) (hb : b.size = 64) (h : mixS [a0, a1, a2, a3, a4, a5, a6, a7] b.data.toList = [b0, b1, b2, b3, b4, b5, b6, b7]) (w : World) (hk : KTab w) :
 Calls Tryz.prog 173 #[.agg #[.int .u32 (a0 : Int), .int .u32 (a1 : Int), .int .u32 (a2 : Int), .int .u32 (a3 : Int), .int .u32 (a4 : Int), .int .u32 (a5 : Int), .int .u32 (a6 : Int), .int .u32 (a7 : Int)], .string b] w fun e w' => e = .returned (.agg #[.int .u32 (b0 : Int), .int .u32 (b1 : Int), .int .u32 (b2 : Int), .int .u32 (b3 : Int), .int .u32 (b4 : Int), .int .u32 (b5 : Int), .int .u32 (b6 : Int), .int .u32 (b7 : Int)]) ∧ Below w.heap.size w w' :=
 (mix_any _ hE b hb w hk).mono fun e w' h' => ⟨h'.1.trans (by rw [h]; rfl), h'.2⟩
theorem Sum_any (s : ByteArray) (w : World) (hs : s.size ≤ 1000000) (hk : KTab w) (hf : FTab w) : Calls Tryz.prog 107 #[.string s] w fun e w' => e = .returned (.agg (u8a (shaS s.data.toList))) ∧ Below w.heap.size w w' := by
 obtain ⟨L, hL⟩ : ∃ L, L = s.data.toList := ⟨_, rfl⟩;have hLn : L.length = s.size := by rw [hL]; exact size_len s
 rw [← hL];have HL := Lib.hid hL;have HK := Lib.hid hk;have c0 : w.cell? ⟨0, 0, none⟩ = some (.int .u32 1779033703) := hf.cell (i := 0) (by omega);have c1 : w.cell? ⟨0, 1, none⟩ = some (.int .u32 3144134277) := hf.cell (i := 1) (by omega);have c2 : w.cell? ⟨0, 2, none⟩ = some (.int .u32 1013904242) := hf.cell (i := 2) (by omega);have c3 : w.cell? ⟨0, 3, none⟩ = some (.int .u32 2773480762) := hf.cell (i := 3) (by omega);have c4 : w.cell? ⟨0, 4, none⟩ = some (.int .u32 1359893119) := hf.cell (i := 4) (by omega);have c5 : w.cell? ⟨0, 5, none⟩ = some (.int .u32 2600822924) := hf.cell (i := 5) (by omega);have c6 : w.cell? ⟨0, 6, none⟩ = some (.int .u32 528734635) := hf.cell (i := 6) (by omega);have c7 : w.cell? ⟨0, 7, none⟩ = some (.int .u32 1541459225) := hf.cell (i := 7) (by omega);have hg0 := block_lt_of_cell c0;dsimp only at hg0;have hg1 : ¬ 0 = w.heap.size := by omega
 clear hL hk hf;go_enter Tryz.func107, Tryz.ntmps107;go_upto_region 2 with fail;refine name2 (u8a (List.replicate 32 0)) (u32s (stateS (padS L) 0)) rfl rfl ?_;intro W0 hkH hkS hB;clear c0 c1 c2 c3 c4 c5 c6 c7 hg0 hg1;obtain ⟨wh, hwh⟩ : ∃ k, k = s.size / 64 * 64 := ⟨_, rfl⟩;have ewh : (s.size : Int) / 64 * 64 = (wh : Int) := by omega
 have HWH := Lib.hid hwh;clear hwh;go_wp2_with fail
 go_loopw [5] (fun s5 wr => ∃ (k p : Nat), s5 = .int .i64 (p : Int) ∧ Hid (p = 64 * k ∧ k ≤ s.size / 64) ∧ p ≤ 1000000 ∧ Blk wr w.heap.size 38 (u8a (List.replicate 32 0)) ∧ Blk wr (w.heap.size + 1) 183 (u32s (stateS (padS L) k)) ∧ Below w.heap.size w wr) (fun s5 _ => wh - (intOf s5).toNat)
 case atStart => exact ⟨0, 0, rfl, Lib.hid ⟨rfl, Nat.zero_le _⟩, by omega, hkH, hkS, hB⟩
 case round =>
  obtain ⟨k, p, rfl, HP, hp, hkH, hkS, hB⟩ := hrel
  by_cases hlt : p < wh
  ·have hlt' : (p : Int) < (wh : Int) := by omega
   obtain ⟨q, hq⟩ : ∃ q, q = p + 64 := ⟨_, rfl⟩;have eq1 : (p : Int) + 64 = (q : Int) := by omega
   have hpk := HP.out;have hwk := HWH.out;have hqs : q ≤ s.size := by omega
   have hbl : (s.extract p q).size = 64 := by rw [ByteArray.size_extract]; omega
   have hbd : (s.extract p q).data.toList = ((padS L).drop (64 * k)).take 64 := by
    rw [extract_bytes, ← HL.out, hpk.1, hq, hpk.1, Nat.add_sub_cancel_left, pad_block (by rw [hLn]; omega)]
   obtain ⟨a0, a1, a2, a3, a4, a5, a6, a7, hl, -⟩ := eight_of (stateS_eight (padS L) k);obtain ⟨b0, b1, b2, b3, b4, b5, b6, b7, hl2, -⟩ := eight_of (stateS_eight (padS L) (k + 1));have hm : mixS [a0, a1, a2, a3, a4, a5, a6, a7] (s.extract p q).data.toList = [b0, b1, b2, b3, b4, b5, b6, b7] := by
    rw [hbd, ← hl, ← hl2]; rfl
   have m1 := Lib.hid (fun W h => mix_lit (hl ▸ stateS_eight (padS L) k) hbl hm W h);rw [hl] at hkS;have HL2 := Lib.hid hl2;have hkn : k + 1 ≤ s.size / 64 := by omega
   have HKN := Lib.hid (And.intro hkn (And.intro hpk.1 hq));have hq2 : (q : Int) ≤ (s.size : Int) := by omega
   have hq3 : (p : Int) ≤ (q : Int) := by omega
   have hq1 : q ≤ 1000000 := by omega
   clear hq;clear hl hl2 hm hbd hbl hpk hwk hkn;obtain ⟨⟨x0, x1, x2, x3, x4, x5, x6, x7⟩, -⟩ := cells8 hkS;have hq5 : IntKind.i64.wrap (q : Int) = (q : Int) := IntWalk.i64_in _ (by omega);have hq6 : (0 : Int) ≤ (q : Int) := by omega
   have hq4 : (0 : Int) ≤ (p : Int) := by omega
   have hle : w.heap.size ≤ w.heap.size + 1 := by omega
   have HKT := Lib.hid (HK.out.below hB.drew);have hkS0 : Blk wr.drew (w.heap.size + 1) 183 #[.int .u32 (a0 : Int), .int .u32 (a1 : Int), .int .u32 (a2 : Int), .int .u32 (a3 : Int), .int .u32 (a4 : Int), .int .u32 (a5 : Int), .int .u32 (a6 : Int), .int .u32 (a7 : Int)] := hkS;have hkH0 : Blk wr.drew w.heap.size 38 (u8a (List.replicate 32 0)) := hkH;have hB0 := hB.drew;go_upto_region 6 with fail
   go_region_with (first
    | (go_at_call 173; (with_reducible refine (m1.out _ ?_).mono ?_); (exact HKT.out); rintro e w' ⟨rfl, hb'⟩; have hkS2 := hkS0.below hb' hkS0.lt; obtain ⟨⟨y0, y1, y2, y3, y4, y5, y6, y7⟩, z0, z1, z2, z3, z4, z5, z6, z7⟩ := cells8 hkS2))
   go_wp2_with fail;go_roundw
   case rel =>
    refine ⟨k + 1, q, rfl, Lib.hid ⟨by have := HKN.out; omega, HKN.out.1⟩, hq1, ?_, ?_, ?_⟩
    ·(repeat (refine kept_set ?_ (by omega) _ _)); exact hkH0.below hb' hkH0.lt
    ·rw [HL2.out]; exact put8s hkS2 _ _ _ _ _ _ _ _
    ·(repeat (refine below_set ?_ hle _)); exact below_then hB0 hb'
   case measure => simp [intOf]; have := HKN.out; omega
  ·have hge : ¬ ((p : Int) < (wh : Int)) := by omega
   have hkk : k = L.length / 64 := by have := HP.out; have := HWH.out; rw [hLn]; omega
   rw [hkk] at hkS;clear HP hkk hp;obtain ⟨r1, hr1⟩ : ∃ r, r = s.extract wh s.size ++ ⟨#[128]⟩ := ⟨_, rfl⟩;have hr1l : r1.data.toList = L.drop wh ++ [128] := by
    rw [hr1, ByteArray.data_append, Array.toList_append, extract_bytes, ← HL.out, List.take_of_length_le (by rw [List.length_drop, hLn]; omega)]
   have hr1n : r1.size = s.size - wh + 1 := by rw [← size_len, hr1l]; simp [hLn]
   obtain ⟨y, hy⟩ : ∃ y, y = 120 - r1.size := ⟨_, rfl⟩;obtain ⟨z, hz⟩ : ∃ z, z = y % 64 := ⟨_, rfl⟩;obtain ⟨n8, hn8⟩ : ∃ n, n = s.size * 8 := ⟨_, rfl⟩;have hwh' := HWH.out;have hzz : z = zerosS L.length := by unfold zerosS; rw [hLn]; omega
   have e1 : (120 : Int) - (r1.size : Int) = (y : Int) := by omega
   have e2 : (y : Int) % 64 = (z : Int) := by omega
   have e3 : (y : Int).tmod 64 = (z : Int) := by rw [Int.tmod_eq_emod_of_nonneg (by omega)]; exact e2
   have e4 : (s.size : Int) * 8 = (n8 : Int) := by omega
   have e5 : (wh : Int) ≤ (s.size : Int) := by omega
   have e6 : (0 : Int) ≤ (wh : Int) := by omega
   obtain ⟨rz, m1, hrz⟩ : ∃ rz : ByteArray, Hid (∀ W : World, Calls Tryz.prog 174 #[.string ⟨#[0]⟩, .int .i64 (z : Int)] W fun e w' => e = .returned (.string rz) ∧ Below W.heap.size W w') ∧ rz.data.toList = List.replicate z 0 := ⟨_, Lib.hid (fun W => repeat_zero z W (by omega)), by simp⟩;obtain ⟨rl, m2, hrl⟩ : ∃ rl : ByteArray, Hid (∀ W : World, Calls Tryz.prog 175 #[.int .u64 (n8 : Int)] W fun e w' => e = .returned (.string rl) ∧ Below W.heap.size W w') ∧ rl.data.toList = lenS n8 := ⟨_, Lib.hid (fun W => length_any n8 (by omega) W), by simp⟩;obtain ⟨r2, hr2⟩ : ∃ r, r = r1 ++ (rz ++ rl) := ⟨_, rfl⟩;have hsz1 : rz.size = z := by rw [← size_len, hrz]; simp
   have hsz2 : rl.size = 8 := by rw [← size_len, hrl, lenS_len]
   have hr2l : r2.data.toList = restS L := by
    rw [hr2, ByteArray.data_append, Array.toList_append, ByteArray.data_append, Array.toList_append, hr1l, hrz, hrl, hzz, hn8, hwh', ← hLn];unfold restS
    simp
   have hr2n : r2.size = 64 * ((s.size + 72) / 64) - wh := by rw [← size_len, hr2l, restS_len, hLn, hwh']
   have hrs : (r1.size : Int) ≤ 100 := by omega
   have HR2 := Lib.hid (And.intro hr2l hr2n);have hcat := hr2.symm;have hcat1 := hr1.symm;have hbig : r2.size ≤ 1000200 := by omega
   have hbz : z ≤ 64 := by omega
   clear hrz hrl hr1 hr2 hr2l hr1l hzz hy hz hn8 hwh' hr2n hr1n;go_wp2_with fail;refine (m1.out _).mono ?_;rintro e w1 ⟨rfl, hb1⟩;replace hkH := hkH.below hb1 hkH.lt;replace hkS := hkS.below hb1 hkS.lt;replace hB := below_then hB hb1;clear hb1;go_wp2_with fail;refine (m2.out _).mono ?_;rintro e w2 ⟨rfl, hb1⟩;replace hkH := hkH.below hb1 hkH.lt;replace hkS := hkS.below hb1 hkS.lt;replace hB := below_then hB hb1;clear hb1;have hle : w.heap.size ≤ w.heap.size + 1 := by omega
   go_wp2_with fail;clear m1 m2 e1 e2 e3 e4 hcat hcat1 hsz1 hsz2 hrs hge hlt
   go_loopw [7] (fun s7 wr => ∃ (m p : Nat), s7 = .int .i64 (p : Int) ∧ Hid (p = 64 * m) ∧ p ≤ r2.size ∧ Blk wr w.heap.size 38 (u8a (List.replicate 32 0)) ∧ Blk wr (w.heap.size + 1) 183 (u32s (stateS (padS L) (L.length / 64 + m))) ∧ Below w.heap.size w wr) (fun s7 _ => r2.size - (intOf s7).toNat)
   case atStart => exact ⟨0, 0, rfl, Lib.hid rfl, by omega, hkH, hkS, hB⟩
   case round =>
    obtain ⟨m, p, rfl, HP, hp, hkH, hkS, hB⟩ := hrel
    by_cases hlt : p < r2.size
    ·have hlt' : (p : Int) < (r2.size : Int) := by omega
     obtain ⟨q, hq⟩ : ∃ q, q = p + 64 := ⟨_, rfl⟩;have eq1 : (p : Int) + 64 = (q : Int) := by omega
     have hpk := HP.out;have hn2 := HR2.out.2;have hwk := HWH.out;have hqs : q ≤ r2.size := by omega
     have hbl : (r2.extract p q).size = 64 := by rw [ByteArray.size_extract]; omega
     have hbd : (r2.extract p q).data.toList = ((padS L).drop (64 * (L.length / 64 + m))).take 64 := by
      rw [extract_bytes, HR2.out.1, hq, hpk, Nat.add_sub_cancel_left, pad_rest]
     obtain ⟨a0, a1, a2, a3, a4, a5, a6, a7, hl, -⟩ := eight_of (stateS_eight (padS L) (L.length / 64 + m));obtain ⟨b0, b1, b2, b3, b4, b5, b6, b7, hl2, -⟩ := eight_of (stateS_eight (padS L) (L.length / 64 + m + 1));have hm : mixS [a0, a1, a2, a3, a4, a5, a6, a7] (r2.extract p q).data.toList = [b0, b1, b2, b3, b4, b5, b6, b7] := by
      rw [hbd, ← hl, ← hl2]; rfl
     have m1 := Lib.hid (fun W h => mix_lit (hl ▸ stateS_eight (padS L) (L.length / 64 + m)) hbl hm W h);rw [hl] at hkS;have HL2 := Lib.hid hl2;have HKN := Lib.hid (And.intro hpk hq);have hq2 : (q : Int) ≤ (r2.size : Int) := by omega
     have hq3 : (p : Int) ≤ (q : Int) := by omega
     have hq1 : q ≤ 1000200 := by omega
     clear hq;clear hl hl2 hm hbd hbl hpk hwk hn2;obtain ⟨⟨x0, x1, x2, x3, x4, x5, x6, x7⟩, -⟩ := cells8 hkS;have hq5 : IntKind.i64.wrap (q : Int) = (q : Int) := IntWalk.i64_in _ (by omega);have hq6 : (0 : Int) ≤ (q : Int) := by omega
     have hq4 : (0 : Int) ≤ (p : Int) := by omega
     have HKT := Lib.hid (HK.out.below hB.drew);have hkS0 : Blk wr.drew (w.heap.size + 1) 183 #[.int .u32 (a0 : Int), .int .u32 (a1 : Int), .int .u32 (a2 : Int), .int .u32 (a3 : Int), .int .u32 (a4 : Int), .int .u32 (a5 : Int), .int .u32 (a6 : Int), .int .u32 (a7 : Int)] := hkS;have hkH0 : Blk wr.drew w.heap.size 38 (u8a (List.replicate 32 0)) := hkH;have hB0 := hB.drew;go_upto_region 12 with fail
     go_region_with (first
      | (go_at_call 173; (with_reducible refine (m1.out _ ?_).mono ?_); (exact HKT.out); rintro e w' ⟨rfl, hb'⟩; have hkS2 := hkS0.below hb' hkS0.lt; obtain ⟨⟨y0, y1, y2, y3, y4, y5, y6, y7⟩, z0, z1, z2, z3, z4, z5, z6, z7⟩ := cells8 hkS2))
     go_wp2_with fail;go_roundw
     case rel =>
      refine ⟨m + 1, q, rfl, Lib.hid (by have := HKN.out; omega), hqs, ?_, ?_, ?_⟩
      ·(repeat (refine kept_set ?_ (by omega) _ _)); exact hkH0.below hb' hkH0.lt
      ·rw [← Nat.add_assoc, HL2.out]; exact put8s hkS2 _ _ _ _ _ _ _ _
      ·(repeat (refine below_set ?_ hle _)); exact below_then hB0 hb'
     case measure => simp [intOf]; have := HKN.out; omega
    ·have hge : ¬ ((p : Int) < (r2.size : Int)) := by omega
     have hkk : L.length / 64 + m = (L.length + 72) / 64 := by have := HP.out; have := HWH.out; have := HR2.out.2; rw [hLn]; omega
     rw [hkk] at hkS;clear HP hkk hp HR2 HWH;obtain ⟨S, hS⟩ : ∃ S, S = stateS (padS L) ((L.length + 72) / 64) := ⟨_, rfl⟩;have hSE : Eight S := by rw [hS]; exact stateS_eight _ _
     have hsha : shaS L = bytesS S := by rw [hS]; rfl
     rw [← hS] at hkS;have HSH := Lib.hid hsha;have HSE := Lib.hid hSE;clear hS hsha hSE;have hlb := hkS.lt;go_upto_region 14 with fail;refine nameOne (u8a (upto 32 (bytesS S) 0)) (by rw [upto_zero]; rfl) ?_;intro W0 hkB hb1;replace hkH := hkH.below hb1 hkH.lt;replace hkS := hkS.below hb1 hkS.lt;replace hB := below_then hB hb1;generalize wr.heap.size = kB at hkB hlb ⊢;clear hb1;go_wp2_with fail;have hne0 : w.heap.size ≠ kB := by omega
     have hne1 : w.heap.size + 1 ≠ kB := by omega
     have hlB : w.heap.size ≤ kB := by omega
     go_loopw [9, 57] (fun _ s57 wr => ∃ i : Nat, i ≤ 32 ∧ s57 = .int .i64 (i : Int) ∧ Blk wr kB 38 (u8a (upto 32 (bytesS S) i)) ∧ Blk wr w.heap.size 38 (u8a (List.replicate 32 0)) ∧ Blk wr (w.heap.size + 1) 183 (u32s S) ∧ Below w.heap.size w wr) (fun _ s57 _ => 32 - (intOf s57).toNat)
     case atStart => exact ⟨0, by omega, rfl, hkB, hkH, hkS, hB⟩
     case round =>
      obtain ⟨i, hi, rfl, hkB, hkH, hkS, hB⟩ := hrel
      by_cases hlt : i < 32
      ·obtain ⟨v, hv⟩ : ∃ v, v = S.getD (i / 4) 0 := ⟨_, rfl⟩;have cv := hkS.u32 (eight_at HSE.out (show i / 4 < 8 by omega));rw [← hv] at cv;obtain ⟨j, hj⟩ : ∃ j, j = i / 4 := ⟨_, rfl⟩;obtain ⟨k, hk⟩ : ∃ k, k = 24 - i % 4 * 8 := ⟨_, rfl⟩;rw [← hj] at cv;have e1 : (i : Int) / 4 = (j : Int) := by omega
       have e2 : (24 : Int) - (i : Int) % 4 * 8 = (k : Int) := by omega
       have e3 : (j : Int) < 8 := by omega
       have e4 : (0 : Int) ≤ (j : Int) := by omega
       have e5 : (0 : Int) ≤ (k : Int) := by omega
       have e6 : (0 : Int) ≤ (i : Int) := by omega
       have e7 : (i : Int) < 32 := by omega
       have cb := hkB.u8A (upto_cur (bytesS_len S) hlt);have fb := hkB.frozen i;have HV := Lib.hid (And.intro hv hk);clear hv hj hk;go_wp2_with fail;go_roundw
       case rel =>
        have e : (v : Int) / 2 ^ k % 256 = ((UInt8.ofNat (v / 2 ^ k % 256)).toNat : Int) := by
         rw [byte_toNat (Nat.mod_lt _ (by omega))]
         simp
        rw [e];refine ⟨i + 1, by omega, by go_num, ?_, kept_set hkH hne0 _ _, kept_set hkS hne1 _ _, below_set hB (p := ⟨kB, i, none⟩) hlB _⟩;rw [← upto_set (bytesS_len S) hlt (bytesS_at S hlt), ← HV.out.1, ← HV.out.2];exact hkB.put8A _ _
       case measure => simp [intOf]; omega
      ·obtain rfl : i = 32 := by omega
       rw [upto_end (bytesS_len S), ← HSH.out] at hkB;have hsz : (u8a (shaS L)).size = 32 := u8a_sha L
       go_wp2_with (first
        | refine wpList_load_row rfl 38 _ rfl kB rfl _ (u8a (shaS L)) (0, 0) _ hkB Tryz.underlying38 rfl (by rw [hsz]; kernel_rfl) ?_
        | refine wpList_store_rowTo rfl 38 _ _ rfl rfl w.heap.size (u8a (shaS L)) rfl rfl _ _ hkH (by rw [hsz]; kernel_rfl) (by rw [hsz]; rfl) (u8a_one _) ?_)
       refine bodyPost_ret (results_cell_row (p := 2) (ty := 38) rfl _ _ w.heap.size _ (u8a (shaS L)) (0, 0) _ rfl (hkH.rowA _) Tryz.underlying38 rfl (by rw [hsz]; kernel_rfl)) rfl ?_;exact ⟨rfl, below_setRow hB (Nat.le_refl _) _⟩
def sizeS : Value → Nat
 | .string s => s.size
 | _ => 0
theorem run_byte1 (W : World) (k b : Nat) (hb : b < 256) (h : W.cell? ⟨k, 0, none⟩ = some (.int .u8 (b : Int))) : (convert 116 9 (.slice (some ⟨k, 0, none⟩) 1 1)).run Tryz.prog W = .ok (.string ⟨#[UInt8.ofNat b]⟩) W := by
 have h : BDg W (some ⟨k, 0, none⟩) 1 1 [UInt8.ofNat b] := by
  refine ⟨rfl, Nat.le_refl _, fun _ => ⟨_, _, rfl, fun j e he => ?_⟩⟩
  cases j with
  | zero =>
    obtain rfl := Option.some.inj he;rw [byte_toNat hb];exact h
  | succ j => simp at he
 exact run_bdg_str h
theorem padded_any (s : ByteArray) (w : World) (hs : s.size ≤ 1000000) : Calls Tryz.prog 123 #[.string s] w fun e w' => e = .returned (.string ⟨(padS s.data.toList).toArray⟩) ∧ Below w.heap.size w w' := by
 obtain ⟨L, hL⟩ : ∃ L, L = s.data.toList := ⟨_, rfl⟩;have hLn : L.length = s.size := by rw [hL]; exact size_len s
 rw [← hL];have HL := Lib.hid hL;obtain ⟨Z, hZ⟩ : ∃ Z, Z = zerosS s.size := ⟨_, rfl⟩;have hZ2 : Z = (119 - s.size % 64) % 64 := hZ;obtain ⟨n8, hn8⟩ : ∃ n, n = s.size * 8 := ⟨_, rfl⟩;have HN8 := Lib.hid hn8;have hP : padS L = L ++ ([128] ++ List.replicate Z 0) ++ lenS n8 := by
  unfold padS;rw [hLn, ← hZ, ← hn8]; simp
 rw [hP];obtain ⟨u0, hu0⟩ : ∃ u, u = s ++ (⟨#[128]⟩ : ByteArray) := ⟨_, rfl⟩;have hu0l : u0.data.toList = L ++ ([128] ++ List.replicate 0 0) := by
  rw [hu0, ByteArray.data_append, Array.toList_append, ← hL]; rfl
 have hcat0 := hu0.symm;have HZ := Lib.hid hZ2;have hzb : Z ≤ 64 := by omega
 clear hL hu0 hZ hZ2 hP hn8;go_enter Tryz.func123, Tryz.ntmps123;go_wp2_with fail
 go_loopw [3] (fun s3 wr => ∃ (k : Nat) (u : ByteArray), s3 = .string u ∧ Hid (u.data.toList = L ++ ([128] ++ List.replicate k 0)) ∧ Hid (k ≤ Z) ∧ w = wr) (fun s3 _ => 2000000 - sizeS s3)
 case atStart => exact ⟨0, u0, rfl, Lib.hid hu0l, Lib.hid (Nat.zero_le _), rfl⟩
 case round =>
  obtain ⟨k, u, rfl, HU, HKZ, rfl⟩ := hrel;have hun : u.size = s.size + 1 + k := by rw [← size_len, HU.out]; simp [hLn]; omega
  have hkz := HKZ.out;have hzz := HZ.out
  by_cases hlt : k < Z
  ·have ht : ((u.size : Int) % 64 == 56) = false := by rw [beq_eq_false_iff_ne]; omega
   obtain ⟨u1, hu1⟩ : ∃ v, v = u ++ (⟨#[0]⟩ : ByteArray) := ⟨_, rfl⟩;have hu1l : u1.data.toList = L ++ ([128] ++ List.replicate (k + 1) 0) := by
    rw [hu1, ByteArray.data_append, Array.toList_append, HU.out, List.replicate_succ']; simp
   have hu1n : u1.size = u.size + 1 := by rw [hu1, ByteArray.size_append]; rfl
   have hb2 : u.size ≤ 1000100 := by omega
   have HU1 := Lib.hid (And.intro hu1l hu1n);have hcat1 := hu1.symm;have HUN := Lib.hid hun;clear hun hkz hzz hu1 hu1l hu1n;go_wp2_with fail;go_roundw
   case rel => exact ⟨k + 1, u1, rfl, Lib.hid HU1.out.1, Lib.hid (by have := HKZ.out; omega), trivial⟩
   case measure => simp [sizeS]; have := HU1.out.2; omega
  ·obtain rfl : k = Z := by omega
   have ht : ((u.size : Int) % 64 == 56) = true := by rw [beq_iff_eq]; omega
   have hb2 : u.size ≤ 1000100 := by omega
   have e8 : (s.size : Int) * 8 = (n8 : Int) := by have := HN8.out; omega
   have HUN := Lib.hid hun;clear hun hkz hzz;go_wp2_with fail
   go_loopw [3, 5] (fun s3 s5 wr => ∃ (m : Nat) (v : ByteArray), m ≤ 8 ∧ s3 = .string v ∧ s5 = .int .i64 (7 - (m : Int)) ∧ Hid (v.data.toList = L ++ ([128] ++ List.replicate k 0) ++ (lenS n8).take m) ∧ Below w.heap.size w wr) (fun _ s5 _ => (intOf s5 + 1).toNat)
   case atStart => exact ⟨0, u, by omega, rfl, by simp, Lib.hid (by rw [HU.out]; simp), Below.refl _ _⟩
   case round =>
    obtain ⟨m, v, hm, rfl, rfl, HV, hB⟩ := hrel;have hvn : v.size ≤ 1001000 := by
     rw [← size_len, HV.out];have h1 : ((lenS n8).take m).length ≤ 8 := by rw [List.length_take, lenS_len]; omega
     simp only [List.length_append, List.length_replicate, hLn, List.length_cons, List.length_nil]
     omega
    by_cases hlt : m < 8
    ·obtain ⟨i, hi⟩ : ∃ i, i = 7 - m := ⟨_, rfl⟩;have ei : (7 : Int) - (m : Int) = (i : Int) := by omega
     obtain ⟨j, hj⟩ : ∃ j, j = 8 * i := ⟨_, rfl⟩;have ej : (8 : Int) * (i : Int) = (j : Int) := by omega
     have e0 : (0 : Int) ≤ (i : Int) := by omega
     have e1 : (0 : Int) ≤ (j : Int) := by omega
     obtain ⟨bb, hbb⟩ : ∃ b, b = n8 / 2 ^ j % 256 := ⟨_, rfl⟩;have hb256 : bb < 256 := by rw [hbb]; exact Nat.mod_lt _ (by omega)
     have ebb : (n8 : Int) / 2 ^ j % 256 = (bb : Int) := by rw [hbb]; simp
     have hcv := fun (W : World) (k : Nat) (h : W.cell? ⟨k, 0, none⟩ = some (.int .u8 (bb : Int))) => run_byte1 W k bb hb256 h;obtain ⟨v1, hv1⟩ : ∃ x, x = v ++ (⟨#[UInt8.ofNat bb]⟩ : ByteArray) := ⟨_, rfl⟩;have hv1l : v1.data.toList = L ++ ([128] ++ List.replicate k 0) ++ (lenS n8).take (m + 1) := by
      rw [hv1, ByteArray.data_append, Array.toList_append, HV.out, List.take_add_one, lenS_at n8 hlt, List.append_assoc, hbb, hj, hi, show 8 * (7 - m) = 56 - 8 * m by omega]
      rfl
     have HV1 := Lib.hid hv1l;have hcat1 := hv1.symm;have HI := Lib.hid hi;clear hi hj hbb hv1 hv1l;rw [ei];go_wp2_with fail;go_roundw
     case rel => exact ⟨m + 1, v1, by omega, rfl, congrArg (Value.int .i64) (by have := HI.out; omega), HV1, below_al hB _⟩
     case measure => simp [intOf]
    ·obtain rfl : m = 8 := by omega
     go_wp2_with fail;go_ret;refine ⟨congrArg (fun s => Ending.returned (.string s)) (ByteArray.ext (Array.toList_inj.1 ?_)), hB⟩;rw [HV.out, List.take_of_length_le (by rw [lenS_len]; exact Nat.le_refl _)]
     simp
theorem block_lit {a0 a1 a2 a3 a4 a5 a6 a7 b0 b1 b2 b3 b4 b5 b6 b7 : Nat} {b : ByteArray} (hE : Eight [a0, a1, a2, a3, a4, a5, a6, a7]) (hb : b.size = 64) (h : mixS [a0, a1, a2, a3, a4, a5, a6, a7] b.data.toList = [b0, b1, b2, b3, b4, b5, b6, b7]) (w : World) :
 Calls Tryz.prog 124 #[.agg #[.int .u32 (a0 : Int), .int .u32 (a1 : Int), .int .u32 (a2 : Int), .int .u32 (a3 : Int), .int .u32 (a4 : Int), .int .u32 (a5 : Int), .int .u32 (a6 : Int), .int .u32 (a7 : Int)], .string b] w fun e w' => e = .returned (.agg #[.int .u32 (b0 : Int), .int .u32 (b1 : Int), .int .u32 (b2 : Int), .int .u32 (b3 : Int), .int .u32 (b4 : Int), .int .u32 (b5 : Int), .int .u32 (b6 : Int), .int .u32 (b7 : Int)]) ∧ Below w.heap.size w w' :=
 (block_any _ hE b hb w).mono fun e w' h' => ⟨h'.1.trans (by rw [h]; rfl), h'.2⟩
theorem rSum_any (s : ByteArray) (w : World) (hs : s.size ≤ 1000000) : Calls Tryz.prog 65 #[.string s] w fun e w' => e = .returned (.agg (u8a (shaS s.data.toList))) ∧ Below w.heap.size w w' := by
 obtain ⟨L, hL⟩ : ∃ L, L = s.data.toList := ⟨_, rfl⟩;have hLn : L.length = s.size := by rw [hL]; exact size_len s
 rw [← hL];obtain ⟨r2, m0, hr2l⟩ : ∃ r2 : ByteArray, Hid (∀ W : World, Calls Tryz.prog 123 #[.string s] W fun e w' => e = .returned (.string r2) ∧ Below W.heap.size W w') ∧ r2.data.toList = padS L := ⟨_, Lib.hid (fun W => padded_any s W hs), by rw [← hL]⟩;have hr2n : r2.size = 64 * ((s.size + 72) / 64) := by rw [← size_len, hr2l, padS_len, hLn]
 have HR2 := Lib.hid (And.intro hr2l hr2n);have hbig : r2.size ≤ 1000200 := by omega
 clear hL hr2l hr2n;go_enter Tryz.func65, Tryz.ntmps65;go_upto_region 2 with fail;refine name2 (u8a (List.replicate 32 0)) (u32s (stateS (padS L) 0)) rfl rfl ?_;intro W0 hkH hkS hB;have hle : w.heap.size ≤ w.heap.size + 1 := by omega
 go_wp2_with fail;refine (m0.out _).mono ?_;rintro e w1 ⟨rfl, hb1⟩;replace hkH := hkH.below hb1 hkH.lt;replace hkS := hkS.below hb1 hkS.lt;replace hB := below_then hB hb1;clear hb1 m0;go_wp2_with fail
 go_loopw [5] (fun s7 wr => ∃ (m p : Nat), s7 = .int .i64 (p : Int) ∧ Hid (p = 64 * m) ∧ p ≤ r2.size ∧ Blk wr w.heap.size 38 (u8a (List.replicate 32 0)) ∧ Blk wr (w.heap.size + 1) 183 (u32s (stateS (padS L) m)) ∧ Below w.heap.size w wr) (fun s7 _ => r2.size - (intOf s7).toNat)
 case atStart => exact ⟨0, 0, rfl, Lib.hid rfl, by omega, hkH, hkS, hB⟩
 case round =>
  obtain ⟨m, p, rfl, HP, hp, hkH, hkS, hB⟩ := hrel
  by_cases hlt : p < r2.size
  ·have hlt' : (p : Int) < (r2.size : Int) := by omega
   obtain ⟨q, hq⟩ : ∃ q, q = p + 64 := ⟨_, rfl⟩;have eq1 : (p : Int) + 64 = (q : Int) := by omega
   have hpk := HP.out;have hn2 := HR2.out.2;have hqs : q ≤ r2.size := by omega
   have hbl : (r2.extract p q).size = 64 := by rw [ByteArray.size_extract]; omega
   have hbd : (r2.extract p q).data.toList = ((padS L).drop (64 * (m))).take 64 := by
    rw [extract_bytes, HR2.out.1, hq, hpk, Nat.add_sub_cancel_left]
   obtain ⟨a0, a1, a2, a3, a4, a5, a6, a7, hl, -⟩ := eight_of (stateS_eight (padS L) m);obtain ⟨b0, b1, b2, b3, b4, b5, b6, b7, hl2, -⟩ := eight_of (stateS_eight (padS L) (m + 1));have hm : mixS [a0, a1, a2, a3, a4, a5, a6, a7] (r2.extract p q).data.toList = [b0, b1, b2, b3, b4, b5, b6, b7] := by
    rw [hbd, ← hl, ← hl2]; rfl
   have m1 := Lib.hid (fun W => block_lit (hl ▸ stateS_eight (padS L) (m)) hbl hm W);rw [hl] at hkS;have HL2 := Lib.hid hl2;have HKN := Lib.hid (And.intro hpk hq);have hq2 : (q : Int) ≤ (r2.size : Int) := by omega
   have hq3 : (p : Int) ≤ (q : Int) := by omega
   have hq1 : q ≤ 1000200 := by omega
   clear hq;clear hl hl2 hm hbd hbl hpk hn2;obtain ⟨⟨x0, x1, x2, x3, x4, x5, x6, x7⟩, -⟩ := cells8 hkS;have hq5 : IntKind.i64.wrap (q : Int) = (q : Int) := IntWalk.i64_in _ (by omega);have hq6 : (0 : Int) ≤ (q : Int) := by omega
   have hq4 : (0 : Int) ≤ (p : Int) := by omega
   have hkS0 : Blk wr.drew (w.heap.size + 1) 183 #[.int .u32 (a0 : Int), .int .u32 (a1 : Int), .int .u32 (a2 : Int), .int .u32 (a3 : Int), .int .u32 (a4 : Int), .int .u32 (a5 : Int), .int .u32 (a6 : Int), .int .u32 (a7 : Int)] := hkS;have hkH0 : Blk wr.drew w.heap.size 38 (u8a (List.replicate 32 0)) := hkH;have hB0 := hB.drew;go_upto_region 6 with fail
   go_region_with (first
    | (go_at_call 124; (with_reducible refine (m1.out _).mono ?_); rintro e w' ⟨rfl, hb'⟩; have hkS2 := hkS0.below hb' hkS0.lt; obtain ⟨⟨y0, y1, y2, y3, y4, y5, y6, y7⟩, z0, z1, z2, z3, z4, z5, z6, z7⟩ := cells8 hkS2))
   go_wp2_with fail;go_roundw
   case rel =>
    refine ⟨m + 1, q, rfl, Lib.hid (by have := HKN.out; omega), hqs, ?_, ?_, ?_⟩
    ·(repeat (refine kept_set ?_ (by omega) _ _)); exact hkH0.below hb' hkH0.lt
    ·rw [HL2.out]; exact put8s hkS2 _ _ _ _ _ _ _ _
    ·(repeat (refine below_set ?_ hle _)); exact below_then hB0 hb'
   case measure => simp [intOf]; have := HKN.out; omega
  ·have hge : ¬ ((p : Int) < (r2.size : Int)) := by omega
   have hkk : m = (L.length + 72) / 64 := by have := HP.out; have := HR2.out.2; rw [hLn]; omega
   rw [hkk] at hkS;clear HP hkk hp HR2;obtain ⟨S, hS⟩ : ∃ S, S = stateS (padS L) ((L.length + 72) / 64) := ⟨_, rfl⟩;have hSE : Eight S := by rw [hS]; exact stateS_eight _ _
   have hsha : shaS L = bytesS S := by rw [hS]; rfl
   rw [← hS] at hkS;have HSH := Lib.hid hsha;have HSE := Lib.hid hSE;clear hS hsha hSE;have hlb := hkS.lt;go_upto_region 8 with fail;refine nameOne (u8a (upto 32 (bytesS S) 0)) (by rw [upto_zero]; rfl) ?_;intro W0 hkB hb1;replace hkH := hkH.below hb1 hkH.lt;replace hkS := hkS.below hb1 hkS.lt;replace hB := below_then hB hb1;generalize wr.heap.size = kB at hkB hlb ⊢;clear hb1;go_wp2_with fail;have hne0 : w.heap.size ≠ kB := by omega
   have hne1 : w.heap.size + 1 ≠ kB := by omega
   have hlB : w.heap.size ≤ kB := by omega
   go_loopw [7] (fun s57 wr => ∃ i : Nat, i ≤ 32 ∧ s57 = .int .i64 (i : Int) ∧ Blk wr kB 38 (u8a (upto 32 (bytesS S) i)) ∧ Blk wr w.heap.size 38 (u8a (List.replicate 32 0)) ∧ Blk wr (w.heap.size + 1) 183 (u32s S) ∧ Below w.heap.size w wr) (fun s57 _ => 32 - (intOf s57).toNat)
   case atStart => exact ⟨0, by omega, rfl, hkB, hkH, hkS, hB⟩
   case round =>
    obtain ⟨i, hi, rfl, hkB, hkH, hkS, hB⟩ := hrel
    by_cases hlt : i < 32
    ·obtain ⟨v, hv⟩ : ∃ v, v = S.getD (i / 4) 0 := ⟨_, rfl⟩;have cv := hkS.u32 (eight_at HSE.out (show i / 4 < 8 by omega));rw [← hv] at cv;obtain ⟨j, hj⟩ : ∃ j, j = i / 4 := ⟨_, rfl⟩;obtain ⟨k, hk⟩ : ∃ k, k = 24 - i % 4 * 8 := ⟨_, rfl⟩;rw [← hj] at cv;have e1 : (i : Int) / 4 = (j : Int) := by omega
     have e2 : (8 : Int) * (3 - (i : Int) % 4) = (k : Int) := by omega
     have e3 : (j : Int) < 8 := by omega
     have e4 : (0 : Int) ≤ (j : Int) := by omega
     have e5 : (0 : Int) ≤ (k : Int) := by omega
     have e6 : (0 : Int) ≤ (i : Int) := by omega
     have e7 : (i : Int) < 32 := by omega
     have cb := hkB.u8A (upto_cur (bytesS_len S) hlt);have fb := hkB.frozen i;have HV := Lib.hid (And.intro hv hk);clear hv hj hk;go_wp2_with fail;go_roundw
     case rel =>
      have e : (v : Int) / 2 ^ k % 256 = ((UInt8.ofNat (v / 2 ^ k % 256)).toNat : Int) := by
       rw [byte_toNat (Nat.mod_lt _ (by omega))]
       simp
      rw [e];refine ⟨i + 1, by omega, by go_num, ?_, kept_set hkH hne0 _ _, kept_set hkS hne1 _ _, below_set hB (p := ⟨kB, i, none⟩) hlB _⟩;rw [← upto_set (bytesS_len S) hlt (bytesS_at S hlt), ← HV.out.1, ← HV.out.2];exact hkB.put8A _ _
     case measure => simp [intOf]; omega
    ·obtain rfl : i = 32 := by omega
     rw [upto_end (bytesS_len S), ← HSH.out] at hkB;have hsz : (u8a (shaS L)).size = 32 := u8a_sha L
     go_wp2_with (first
      | refine wpList_load_row rfl 38 _ rfl kB rfl _ (u8a (shaS L)) (0, 0) _ hkB Tryz.underlying38 rfl (by rw [hsz]; kernel_rfl) ?_
      | refine wpList_store_rowTo rfl 38 _ _ rfl rfl w.heap.size (u8a (shaS L)) rfl rfl _ _ hkH (by rw [hsz]; kernel_rfl) (by rw [hsz]; rfl) (u8a_one _) ?_)
     refine bodyPost_ret (results_cell_row (p := 2) (ty := 38) rfl _ _ w.heap.size _ (u8a (shaS L)) (0, 0) _ rfl (hkH.rowA _) Tryz.underlying38 rfl (by rw [hsz]; kernel_rfl)) rfl ?_;exact ⟨rfl, below_setRow hB (Nat.le_refl _) _⟩
end Go.Proofs.YtkpinmejfdnhbaaGreatDoor
