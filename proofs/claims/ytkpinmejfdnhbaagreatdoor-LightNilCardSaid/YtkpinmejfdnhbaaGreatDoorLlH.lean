/- Headers in which one thing was changed (Bent of the reference). -/
import Derived.Test.YtkpinmejfdnhbaaGreatDoorLlG
namespace Go.Proofs.YtkpinmejfdnhbaaGreatDoor
open Go.RowKit Go.Shelf
attribute [local go_sem] Oper.semAt_some

theorem flat_set {α : Type} {enc : α → List Value} {s : Nat} (hs : ∀ x, (enc x).length = s) : ∀ (xs : List α) (i k : Nat) (x x' : α) (u : Value), xs[i]? = some x → k < s → (enc x).set k u = enc x' → (xs.flatMap enc).set (i * s + k) u = (xs.set i x').flatMap enc
 | [], i, _, _, _, _, h, _, _ => by simp at h
 | y :: ys, 0, k, x, x', u, h, hk, he => by
   obtain rfl := Option.some.inj h
   show (enc y ++ ys.flatMap enc).set (0 * s + k) u = enc x' ++ ys.flatMap enc
   rw [Nat.zero_mul, Nat.zero_add, List.set_append_left _ _ (by rw [hs]; exact hk), he]
 | y :: ys, i + 1, k, x, x', u, h, hk, he => by
   show (enc y ++ ys.flatMap enc).set ((i + 1) * s + k) u = enc y ++ (ys.set i x').flatMap enc
   rw [← flat_set hs ys i k x x' u h hk he, List.set_append_right _ _ (by rw [hs, Nat.succ_mul]; omega)]
   congr 2
   rw [hs, Nat.succ_mul]; omega
theorem OwnL.changed {α : Type} {enc : α → List Value} {e : TypeId} {s B g n c : Nat} {w : World} {xs : List α} (hs : ∀ x, (enc x).length = s) (h : OwnL enc e s B w (.slice (some ⟨g, 0, none⟩) n c) xs) {i k : Nat} {x x' : α} {u : Value} (hn : n = xs.length) (hx : xs[i]? = some x) (hk : k < s) (he : (enc x).set k u = enc x') :
 OwnL enc e s B (w.setCell ⟨g, i * s + k, none⟩ u) (.slice (some ⟨g, 0, none⟩) n c) (xs.set i x') := by
 subst hn
 have := World.ownsRow.stored h (i * s + k) u
 unfold OwnL
 rw [List.length_set, ← flat_set hs xs i k x x' u hx hk he]
 exact this.1
theorem OwnL.frozenAt {α : Type} {enc : α → List Value} {e : TypeId} {s B g n c : Nat} {w : World} {xs : List α} (h : OwnL enc e s B w (.slice (some ⟨g, 0, none⟩) n c) xs) (hn : n = xs.length) (j : Nat) : w.frozen? ⟨g, j, none⟩ = false := by
 subst hn
 exact World.ownsRow.frozenAt h j
theorem OwnL.cellAt {α : Type} {enc : α → List Value} {e : TypeId} {s B g n c : Nat} {w : World} {xs : List α} (hs : ∀ x, (enc x).length = s) (h : OwnL enc e s B w (.slice (some ⟨g, 0, none⟩) n c) xs) {i k : Nat} {x : α} {u : Value} (hx : xs[i]? = some x) (hu : (enc x)[k]? = some u) : w.cell? ⟨g, i * s + k, none⟩ = some u := by
 have hr := OwnL.row_at h hs
 obtain ⟨b, o, e, hc⟩ := hr.at_ (by rw [← hr.len]; have := (List.getElem?_eq_some_iff.1 hx).1; omega)
 cases e
 have := hc i k x u hx hu
 rwa [Nat.zero_add] at this
abbrev V1 := { v : Value // v.oneCell' = true }
def encV1 (x : V1) : List Value := [x.1]
theorem encV1_len (x : V1) : (encV1 x).length = 1 := rfl
theorem encV1_one (x : V1) : ∀ u ∈ encV1 x, u.oneCell' = true := fun u hu => by
 obtain rfl := List.mem_singleton.1 hu
 exact x.2
theorem flatV1 : ∀ xs : List V1, xs.flatMap encV1 = (xs.map (·.1)).flatMap encV
 | [] => rfl
 | x :: xs => by show x.1 :: xs.flatMap encV1 = x.1 :: (xs.map (·.1)).flatMap encV; rw [flatV1 xs]
theorem ownV1 {B : Nat} {w : World} {v : Value} {xs : List V1} (h : OwnL encV1 25 1 B w v xs) : OwnV B w v (xs.map (·.1)) := by
 unfold OwnV
 unfold OwnL at h ⊢
 rw [List.length_map, ← flatV1]
 exact h
theorem rowV1 {w : World} {A : Option Addr} {n c : Nat} {vs : List Value} {ls : List (List Int)} (h : RowV w A n c vs) (hr : RowsI w vs ls) : ∃ xs : List V1, xs.map (·.1) = vs ∧ Row encV1 1 w A n c xs := by
 have hone : ∀ v ∈ vs, v.oneCell' = true := fun v hv => by
  obtain ⟨i, hi, rfl⟩ := List.getElem_of_mem hv
  obtain ⟨A', c', e, -⟩ := hr.one i _ (ls[i]'(by rw [← hr.len]; exact hi)) (List.getElem?_eq_getElem hi) (List.getElem?_eq_getElem _)
  rw [e]; rfl
 refine ⟨vs.attach.map fun v => ⟨v.1, hone v.1 v.2⟩, by rw [List.map_map]; exact List.attach_map_subtype_val vs, by rw [List.length_map, List.length_attach]; exact h.len, h.cap, fun h0 => ?_⟩
 obtain ⟨b, o, e, hc⟩ := h.at_ h0
 refine ⟨b, o, e, fun j k x u hx hu => ?_⟩
 have hx2 : vs[j]? = some x.1 := by
  have h3 : (vs.attach.map fun v => (⟨v.1, hone v.1 v.2⟩ : V1)).map (·.1) = vs := by rw [List.map_map]; exact List.attach_map_subtype_val vs
  rw [← h3, List.getElem?_map, hx]; rfl
 exact hc j k x.1 u hx2 hu
theorem mod_fix (q : Int) (m : Nat) (hm : 0 < m) : ∃ (a : Int) (s : Nat), q.tmod (m : Int) = a ∧ -(m : Int) < a ∧ a < (m : Int) ∧ s < m ∧ (a + (m : Int)).tmod (m : Int) = (s : Int) := by
 have hn := Int.natAbs_tmod q (m : Int)
 rw [Int.natAbs_natCast] at hn
 have hl := Nat.mod_lt q.natAbs hm
 have h0 := Int.emod_nonneg (q.tmod m + m) (show (m : Int) ≠ 0 by omega)
 have h1 := Int.emod_lt_of_pos (q.tmod m + m) (show (0 : Int) < m by omega)
 refine ⟨q.tmod m, ((q.tmod m + m) % m).toNat, rfl, by omega, by omega, by omega, ?_⟩
 rw [Int.tmod_eq_emod_of_nonneg (by omega), Int.toNat_of_nonneg h0]

theorem own_at0 {α : Type} {enc : α → List Value} {e : TypeId} {s B n c : Nat} {w : World} {A : Option Addr} {xs : List α} (h : OwnL enc e s B w (.slice A n c) xs) (hn : 0 < n) : ∃ g, A = some ⟨g, 0, none⟩ := by
 rcases h.2 with ⟨e, -⟩ | ⟨g, cap, cur, e, -⟩
 ·injection e with e1 e2
  omega
 ·injection e with e1
  exact ⟨g, e1⟩
theorem alloc_here {K : Act → World → Prop} {a : Act} {W : World} {cs : Array Value} {t : TypeId} (h : ∀ W' : World, Blk W' W.heap.size t cs → Below W.heap.size W W' → K a W') : K a (W.alloc (.cells cs t)) := h _ (Blk.new _ _ _) (below_al (Below.refl _ _) _)
theorem four_cell {w : World} {g : Nat} {t : TypeId} {p : Int} (k : Blk w g t #[.int .i64 0, .int .i64 1, .int .i64 4, .int .i64 p]) (hp : I64 p) {r : Nat} (hr : r < 4) : ∃ v, w.cell? ⟨g, r, none⟩ = some (.int .i64 v) ∧ I64 v := by
 rcases (show r = 0 ∨ r = 1 ∨ r = 2 ∨ r = 3 by omega) with rfl | rfl | rfl | rfl
 ·exact ⟨0, k.cell 0, by omega, by omega⟩
 ·exact ⟨1, k.cell 1, by omega, by omega⟩
 ·exact ⟨4, k.cell 2, by omega, by omega⟩
 ·exact ⟨p, k.cell 3, hp⟩
theorem own_ne {w : World} {a b : Nat} {s t : TypeId} {cs ds : Array Value} (h1 : Blk w a s cs) (h2 : Blk w b t ds) (hne : s ≠ t) : a ≠ b := fun e => by
 subst e
 have := h1.symm.trans h2
 injection this with e1
 injection e1 with e2 e3
 exact hne e3
theorem own_ne2 {w : World} {a b : Nat} {s t : TypeId} {cs ds : Array Value} (h1 : Blk w a s cs) (h2 : Blk w b t ds) (hne : s ≠ t) : a = b → False := own_ne h1 h2 hne
theorem bent_xor (a : Nat) (ha : a < 256) : Go.bits .xor .u8 (a : Int) 1 = ((a ^^^ 1 : Nat) : Int) ∧ a ^^^ 1 < 256 := by
 have h1 : a ^^^ 1 < 2 ^ 8 := Nat.xor_lt_two_pow (by omega) (by omega)
 refine ⟨?_, by omega⟩
 show IntKind.u8.wrap ((BitVec.ofInt 8 ((a : Nat) : Int) ^^^ BitVec.ofInt 8 ((1 : Nat) : Int)).toNat : Int) = _
 rw [BitVec.toNat_xor, BitVec.ofInt_natCast, BitVec.ofInt_natCast, BitVec.toNat_ofNat, BitVec.toNat_ofNat, Nat.mod_eq_of_lt (by omega : a < 2 ^ 8), Nat.mod_eq_of_lt (by decide : 1 < 2 ^ 8)]
 generalize a ^^^ 1 = z at h1 ⊢
 rw [u8_wrap]
 omega
theorem hash_first {x : List UInt8} (hx : x.length = 32) (c : Nat) (hc : c < 256) : ∃ b : Nat, b < 256 ∧ (encH x)[0]? = some (.int .u8 (b : Int)) ∧ (encH x).set 0 (.int .u8 (c : Int)) = encH (x.set 0 (UInt8.ofNat c)) := by
 have h0 : x[0]? = some x[0] := List.getElem?_eq_getElem (by omega)
 refine ⟨x[0].toNat, x[0].toNat_lt, ?_, ?_⟩
 ·rw [encH_eq hx]
  unfold u8l
  rw [List.getElem?_map, h0]; rfl
 ·rw [encH_eq hx, encH_eq (by rw [List.length_set]; exact hx)]
  unfold u8l
  rw [List.map_set]
  congr 2
  rw [byte_toNat hc]
structure RowsA (P : Nat → Prop) (w : World) (vs : List Value) (ls : List (List Int)) : Prop where
 len : vs.length = ls.length
 one : ∀ (i : Nat) (v : Value) (l : List Int), vs[i]? = some v → ls[i]? = some l → ∃ A c, v = .slice A l.length c ∧ RowI w A l.length c l ∧ (0 < l.length → ∀ b o, A = some ⟨b, o, none⟩ → ¬ P b)
theorem RowsA.rows {P : Nat → Prop} {w : World} {vs : List Value} {ls : List (List Int)} (h : RowsA P w vs ls) : RowsI w vs ls :=
 ⟨h.len, fun i v l hv hl => let ⟨A, c, e, hr, _⟩ := h.one i v l hv hl; ⟨A, c, e, hr⟩⟩
theorem RowsA.below {P : Nat → Prop} {w w' : World} {vs : List Value} {ls : List (List Int)} (h : RowsA P w vs ls) (hb : Below w.heap.size w w') : RowsA P w' vs ls :=
 ⟨h.len, fun i v l hv hl => let ⟨A, c, e, hr, hp⟩ := h.one i v l hv hl; ⟨A, c, e, hr.below hb, hp⟩⟩
theorem RowsA.of {P : Nat → Prop} {w : World} {vs : List Value} {ls : List (List Int)} (h : RowsI w vs ls) (hP : ∀ b, P b → w.heap.size ≤ b) : RowsA P w vs ls :=
 ⟨h.len, fun i v l hv hl => by
  obtain ⟨A, c, e, hr⟩ := h.one i v l hv hl
  refine ⟨A, c, e, hr, fun h0 b o hA hb => ?_⟩
  obtain ⟨b2, o2, x, e2, -, cx⟩ := RowI.get hr h0
  rw [hA] at e2
  cases e2
  have := block_lt_of_cell cx
  have := hP b hb
  simp only at *
  omega⟩
theorem RowsA.kept {p : Nat} {w w' : World} {vs : List Value} {ls : List (List Int)} (h : RowsA (· = p) w vs ls) (hg : w.grownBy w' (some p)) : RowsA (· = p) w' vs ls :=
 ⟨h.len, fun i v l hv hl => by
  obtain ⟨A, c, e, hr, hp⟩ := h.one i v l hv hl
  refine ⟨A, c, e, ⟨hr.len, hr.cap, fun hn => ?_⟩, hp⟩
  obtain ⟨b, o, e1, hc⟩ := hr.at_ hn
  refine ⟨b, o, e1, fun j k x u hx hu => ?_⟩
  have h1 := hc j k x u hx hu
  exact (World.cell?_of_block (hg.block b (block_lt_of_cell h1) (fun e2 => hp hn b o e1 (Option.some.inj e2)))).trans h1⟩
theorem RowsA.snoc {P : Nat → Prop} {w : World} {vs : List Value} {ps : List (List Int)} {g : Nat} {y : Int} (h : RowsA P w vs ps) (k : Blk w g 3 #[.int .i64 y]) (hg : ¬ P g) : RowsA P w (vs ++ [.slice (some ⟨g, 0, none⟩) 1 1]) (ps ++ [[y]]) := by
 refine ⟨by rw [List.length_append, List.length_append, h.len]; rfl, fun i v l hv hl => ?_⟩
 rcases Nat.lt_or_ge i vs.length with hi | hi
 ·rw [List.getElem?_append_left hi] at hv
  rw [List.getElem?_append_left (by rw [← h.len]; exact hi)] at hl
  exact h.one i v l hv hl
 ·rw [List.getElem?_append_right hi] at hv
  rw [List.getElem?_append_right (by rw [← h.len]; exact hi)] at hl
  rw [h.len] at hv
  have h1 : i - ps.length = 0 := by
   have := (List.getElem?_eq_some_iff.1 hl).1
   simp at this; omega
  rw [h1] at hv hl
  cases hv; cases hl
  exact ⟨_, 1, rfl, rowI_new (xs := [y]) k rfl, fun _ b o e => by cases e; exact hg⟩
structure HdrInA (P : Nat → Prop) (w : World) (x : Hc) (h : Hdr) : Prop where
 e : x.e = h.epoch
 m : ∃ A c, x.m = .slice A h.mems.length c ∧ RowM w A h.mems.length c h.mems
 c : ∃ A c, x.c = .slice A h.commits.length c ∧ RowI w A h.commits.length c h.commits
 p : ∃ A c vs, x.p = .slice A h.points.length c ∧ RowV w A h.points.length c vs ∧ RowsA P w vs h.points
 l : ∃ A c, x.l = .slice A h.links.length c ∧ RowH w A h.links.length c h.links
theorem HdrInA.of {P : Nat → Prop} {w : World} {x : Hc} {h : Hdr} (hi : HdrIn w x h) (hP : ∀ b, P b → w.heap.size ≤ b) : HdrInA P w x h :=
 ⟨hi.e, hi.m, hi.c, let ⟨A, c, vs, e, h4, h5⟩ := hi.p; ⟨A, c, vs, e, h4, RowsA.of h5 hP⟩, hi.l⟩
structure HdrAp (P : Nat → Prop) (B : Nat) (w : World) (y : Hc) (t : Hdr) : Prop where
 e : y.e = t.epoch
 m : OwnM B w y.m t.mems
 c : OwnI B w y.c t.commits
 p : ∃ us, OwnV B w y.p us ∧ RowsA P w us t.points
 l : OwnH B w y.l t.links
theorem HdrAp.below {P : Nat → Prop} {B : Nat} {w w' : World} {y : Hc} {t : Hdr} (h : HdrAp P B w y t) (hb : Below w.heap.size w w') : HdrAp P B w' y t :=
 ⟨h.e, h.m.below hb, h.c.below hb, let ⟨us, h1, h2⟩ := h.p; ⟨us, h1.below hb, h2.below hb⟩, h.l.below hb⟩
theorem HdrAp.in_ {P : Nat → Prop} {B : Nat} {w : World} {y : Hc} {t : Hdr} (h : HdrAp P B w y t) : HdrIn w y t := by
 obtain ⟨us, h1, h2⟩ := h.p
 obtain ⟨Av, cv, e, hrv⟩ := OwnL.row h1 encV_len
 have hlen := h2.len
 rw [hlen] at e hrv
 exact ⟨h.e, OwnL.row h.m encM_len, OwnL.row h.c encI_len, ⟨Av, cv, us, e, hrv, h2.rows⟩, OwnL.row h.l encH_len⟩
theorem HdrAp.kept {p B : Nat} {w w' : World} {y : Hc} {t : Hdr} (h : HdrAp (· = p) B w y t) (hg : w.grownBy w' (some p)) (hp : p < B) : HdrAp (· = p) B w' y t :=
 ⟨h.e, OwnL.kept h.m hg (.inr (Ne.symm (own_low h.m hp))), OwnL.kept h.c hg (.inr (Ne.symm (own_low h.c hp))), let ⟨us, h1, h2⟩ := h.p; ⟨us, OwnL.kept h1 hg (.inr (Ne.symm (own_low h1 hp))), h2.kept hg⟩, OwnL.kept h.l hg (.inr (Ne.symm (own_low h.l hp)))⟩
theorem bent_in {P : Nat → Prop} {B g2 : Nat} {w4 w' : World} {xe : Int} {xm xc xp xl : Value} {ms : List Mem} {cs : List Int} {us : List Value} {ps : List (List Int)} {ls : List (List UInt8)} {c2 : Array Value} (hm : OwnM B w4 xm ms) (hc : OwnI B w4 xc cs) (hv : OwnV B w4 xp us) (hl : OwnH B w4 xl ls) (k2 : Blk w4 g2 46 c2) (hg : w4.grownBy w' (some g2)) (hr : RowsA P w' us ps) :
 HdrAp P B w' ⟨xe, xm, xc, xp, xl⟩ ⟨xe, ms, cs, ps, ls⟩ :=
 ⟨rfl, OwnL.kept hm hg (.inr (Ne.symm (own_ty hm k2 (by decide)))), OwnL.kept hc hg (.inr (Ne.symm (own_ty hc k2 (by decide)))), ⟨us, OwnL.kept hv hg (.inr (Ne.symm (own_ty hv k2 (by decide)))), hr⟩, OwnL.kept hl hg (.inr (Ne.symm (own_ty hl k2 (by decide))))⟩

def BentPost (P : Nat → Prop) (h : Hdr) (q0 : Int) (w : World) (e : Ending) (w' : World) : Prop :=
 ∃ (y : Hc) (t : Hdr), e = .returned (.agg #[.int .i64 y.e, y.m, y.c, y.p, y.l]) ∧ HdrAp P w.heap.size w' y t ∧ HdrSm t ∧ (q0 = 8 → t = h) ∧ Below w.heap.size w w'

set_option maxRecDepth 100000 in
set_option maxHeartbeats 9000000 in
theorem Bent_q (P : Nat → Prop) (x : Hc) (h : Hdr) (hs : HdrSm h) (hep : 0 ≤ h.epoch ∧ h.epoch ≤ 1000000000) (hwt : ∀ m ∈ h.mems, 0 ≤ m.wt ∧ m.wt ≤ 1000) (hlk : h.links.length ≤ 32) (hpt : h.points.length ≤ 50) (q0 q1 q2 : Int) (hq0 : I64 q0) (_hq1 : I64 q1) (w : World) (hP : ∀ b, P b → b < w.heap.size) (hi : HdrInA P w x h) :
 Calls Tryz.prog 37 #[.agg #[.int .i64 x.e, x.m, x.c, x.p, x.l], .agg #[.int .i64 q0, .int .i64 q1, .int .i64 q2]] w (BentPost P h q0 w) := by
 obtain ⟨xe, xm, xc, xp, xl⟩ := x
 obtain ⟨h1, ⟨A2, c2, e2, h2⟩, ⟨A3, c3, e3, h3⟩, ⟨A4, c4, vs, e4, h4, h5⟩, ⟨A6, c6, e6, h6⟩⟩ := hi
 obtain ⟨E, ms, cs, ps, ls⟩ := h
 have HSM := Lib.hid hs
 obtain ⟨he, hm1, hm2, hc1, hc2, hp1, hp2, hp3, hl1, hl2⟩ := hs
 dsimp only at *
 subst h1 e2 e3 e4 e6
 obtain ⟨vx, hvx, hrV⟩ := rowV1 h4 h5.rows
 obtain ⟨nm, hnm⟩ : ∃ n, n = ms.length := ⟨_, rfl⟩
 obtain ⟨nc, hnc⟩ : ∃ n, n = cs.length := ⟨_, rfl⟩
 obtain ⟨np, hnp⟩ : ∃ n, n = ps.length := ⟨_, rfl⟩
 obtain ⟨nl, hnl⟩ : ∃ n, n = ls.length := ⟨_, rfl⟩
 rw [← hnm] at h2 hm1 ⊢
 rw [← hnc] at h3 hc1 ⊢
 rw [← hnp] at h4 hp1 hrV hpt ⊢
 rw [← hnl] at h6 hl1 hlk ⊢
 have HR := Lib.hid (And.intro h2 (And.intro h3 (And.intro hrV h6)))
 have HRS := Lib.hid (And.intro h5 hvx)
 have HN := Lib.hid (And.intro hnm (And.intro hnc (And.intro hnp hnl)))
 have HNV : Hid (vx.length = np) := Lib.hid hrV.len
 have HW := Lib.hid hwt
 have HQ := Lib.hid hep
 clear h2 h3 h4 h5 h6 hm2 hc2 hp2 hp3 hl2 hnm hnc hnp hnl he hvx hrV hwt
 obtain ⟨a7, s7, ht7, ha7, hb7, hs7, hu7⟩ := mod_fix q1 7 (by omega)
 obtain ⟨a9, s9, ht9, ha9, hb9, hs9, hu9⟩ := mod_fix q0 9 (by omega)
 have H8 : Hid (q0 = 8 → s9 = 8) := Lib.hid (fun e => by subst e; have h1 : a9 = 8 := by rw [← ht9]; rfl
                                                         subst h1; have h2 : ((8 : Int) + (9 : Nat)).tmod (9 : Nat) = 8 := rfl
                                                         rw [h2] at hu9; omega)
 rw [show ((7 : Nat) : Int) = 7 from rfl] at ht7 ha7 hb7 hu7
 rw [show ((9 : Nat) : Int) = 9 from rfl] at ht9 ha9 hb9 hu9
 go_enter Tryz.func37, Tryz.ntmps37
 go_upto_region 1 with fail
 refine name3p ?_
 intro W0 k1 kq k2 hB
 obtain ⟨g, hg⟩ : ∃ g, g = w.heap.size := ⟨_, rfl⟩
 have hgB : w.heap.size ≤ g := Nat.le_of_eq hg.symm
 rw [← hg] at k1 kq k2 ⊢
 clear hg
 -- cell 1
 have a := k1.cell 1
 have hal := below_al (Below.refl W0.heap.size W0) (.cells #[] 61)
 have a' : (W0.alloc (.cells #[] 61)).cell? ⟨g, 1, none⟩ = some (.slice A2 nm c2) := cell_b hal a
 have ho0 : OwnL encM 61 3 W0.heap.size (W0.alloc (.cells #[] 61)) (.slice (some ⟨W0.heap.size, 0, none⟩) 0 0) [] := OwnL.empty encM _ 3 (Blk.new W0 61 #[]) (Nat.le_refl _)
 have hrow0 := (HR.out.1.below hB).below hal
 go_upto_region 2 with (refine wp_append_rows (enc := encM) (B := W0.heap.size) Tryz.underlying42 mem_info rfl (by decide) (by decide) rfl (.tmp 6) (.tmp 8) rfl encM_len encM_one rfl ho0 rfl hrow0 (by simp) (by omega) hal.size ?_; intro v u1 ho1 hg1; have hb : Below W0.heap.size W0 u1 := hal.grown hg1 hal.size (fun k e => by cases e; exact Nat.le_refl _); rw [List.nil_append] at ho1; obtain ⟨B1, d1, hv, -⟩ := OwnL.row ho1 encM_len; rw [← HN.out.1] at hv; subst hv; replace ho1 := ho1.le hB.size; replace k1 := k1.below hb k1.lt; replace kq := kq.below hb kq.lt; replace k2 := k2.below hb k2.lt; replace hB := below_then hB hb; have f1 := k1.frozen 1; have b1 : u1.cell? ⟨g, 1, none⟩ = some (.slice A2 nm c2) := k1.cell 1; clear hb a a' ho0 hrow0 hal hg1)
 have hgs := grown_set (grown_refl u1 (some g)) 1 (Value.slice B1 nm d1)
 replace ho1 := OwnL.kept ho1 hgs (.inr (Ne.symm (own_ty ho1 k1 (by decide))))
 replace k2 := k2.grown hgs (fun e => by have := Option.some.inj e; omega)
 replace kq := kq.grown hgs (fun e => by have := Option.some.inj e; omega)
 replace hB := hB.grown hgs hB.size (fun j e => by cases e; exact hgB)
 replace k1 : Blk (u1.setCell ⟨g, 1, none⟩ (Value.slice B1 nm d1)) g 46 #[(.int .i64 xe), (Value.slice B1 nm d1), (.slice A3 nc c3), (.slice A4 np c4), (.slice A6 nl c6)] := k1.set_ 1 (Value.slice B1 nm d1)
 obtain ⟨w1, hw⟩ : ∃ w2, w2 = u1.setCell ⟨g, 1, none⟩ (Value.slice B1 nm d1) := ⟨_, rfl⟩
 rw [← hw] at ho1 k1 kq k2 hB ⊢
 clear hw hgs f1 b1
 -- cell 4
 have a := k1.cell 4
 have hal := below_al (Below.refl w1.heap.size w1) (.cells #[] 38)
 have a' : (w1.alloc (.cells #[] 38)).cell? ⟨g, 4, none⟩ = some (.slice A6 nl c6) := cell_b hal a
 have ho0 : OwnL encH 38 32 w1.heap.size (w1.alloc (.cells #[] 38)) (.slice (some ⟨w1.heap.size, 0, none⟩) 0 0) [] := OwnL.empty encH _ 32 (Blk.new w1 38 #[]) (Nat.le_refl _)
 have hrow0 := (HR.out.2.2.2.below hB).below hal
 go_upto_region 3 with (refine wp_append_rows (enc := encH) (B := w1.heap.size) Tryz.underlying35 hash_info rfl (by decide) (by decide) rfl (.tmp 11) (.tmp 13) rfl encH_len encH_one rfl ho0 rfl hrow0 (by simp) (by omega) hal.size ?_; intro v u2 ho2 hg1; have hb : Below w1.heap.size w1 u2 := hal.grown hg1 hal.size (fun k e => by cases e; exact Nat.le_refl _); rw [List.nil_append] at ho2; obtain ⟨B2, d2, hv, -⟩ := OwnL.row ho2 encH_len; rw [← HN.out.2.2.2] at hv; subst hv; replace ho2 := ho2.le hB.size; replace ho1 := ho1.below hb; replace k1 := k1.below hb k1.lt; replace kq := kq.below hb kq.lt; replace k2 := k2.below hb k2.lt; replace hB := below_then hB hb; have f1 := k1.frozen 4; have b1 : u2.cell? ⟨g, 4, none⟩ = some (.slice A6 nl c6) := k1.cell 4; clear hb a a' ho0 hrow0 hal hg1)
 have hgs := grown_set (grown_refl u2 (some g)) 4 (Value.slice B2 nl d2)
 replace ho1 := OwnL.kept ho1 hgs (.inr (Ne.symm (own_ty ho1 k1 (by decide))))
 replace ho2 := OwnL.kept ho2 hgs (.inr (Ne.symm (own_ty ho2 k1 (by decide))))
 replace k2 := k2.grown hgs (fun e => by have := Option.some.inj e; omega)
 replace kq := kq.grown hgs (fun e => by have := Option.some.inj e; omega)
 replace hB := hB.grown hgs hB.size (fun j e => by cases e; exact hgB)
 replace k1 : Blk (u2.setCell ⟨g, 4, none⟩ (Value.slice B2 nl d2)) g 46 #[(.int .i64 xe), (Value.slice B1 nm d1), (.slice A3 nc c3), (.slice A4 np c4), (Value.slice B2 nl d2)] := k1.set_ 4 (Value.slice B2 nl d2)
 obtain ⟨w2, hw⟩ : ∃ w2, w2 = u2.setCell ⟨g, 4, none⟩ (Value.slice B2 nl d2) := ⟨_, rfl⟩
 rw [← hw] at ho1 ho2 k1 kq k2 hB ⊢
 clear hw hgs f1 b1
 -- cell 2
 have a := k1.cell 2
 have hal := below_al (Below.refl w2.heap.size w2) (.cells #[] 3)
 have a' : (w2.alloc (.cells #[] 3)).cell? ⟨g, 2, none⟩ = some (.slice A3 nc c3) := cell_b hal a
 have ho0 : OwnL encI 3 1 w2.heap.size (w2.alloc (.cells #[] 3)) (.slice (some ⟨w2.heap.size, 0, none⟩) 0 0) [] := OwnL.empty encI _ 1 (Blk.new w2 3 #[]) (Nat.le_refl _)
 have hrow0 := (HR.out.2.1.below hB).below hal
 go_upto_region 4 with (refine wp_append_rows (enc := encI) (B := w2.heap.size) Tryz.underlying25 int_info rfl (by decide) (by decide) rfl (.tmp 16) (.tmp 19) rfl encI_len encI_one rfl ho0 rfl hrow0 (by simp) (by omega) hal.size ?_; intro v u3 ho3 hg1; have hb : Below w2.heap.size w2 u3 := hal.grown hg1 hal.size (fun k e => by cases e; exact Nat.le_refl _); rw [List.nil_append] at ho3; obtain ⟨B3, d3, hv, -⟩ := OwnL.row ho3 encI_len; rw [← HN.out.2.1] at hv; subst hv; replace ho3 := ho3.le hB.size; replace ho1 := ho1.below hb; replace ho2 := ho2.below hb; replace k1 := k1.below hb k1.lt; replace kq := kq.below hb kq.lt; replace k2 := k2.below hb k2.lt; replace hB := below_then hB hb; have f1 := k1.frozen 2; have b1 : u3.cell? ⟨g, 2, none⟩ = some (.slice A3 nc c3) := k1.cell 2; clear hb a a' ho0 hrow0 hal hg1)
 have hgs := grown_set (grown_refl u3 (some g)) 2 (Value.slice B3 nc d3)
 replace ho1 := OwnL.kept ho1 hgs (.inr (Ne.symm (own_ty ho1 k1 (by decide))))
 replace ho2 := OwnL.kept ho2 hgs (.inr (Ne.symm (own_ty ho2 k1 (by decide))))
 replace ho3 := OwnL.kept ho3 hgs (.inr (Ne.symm (own_ty ho3 k1 (by decide))))
 replace k2 := k2.grown hgs (fun e => by have := Option.some.inj e; omega)
 replace kq := kq.grown hgs (fun e => by have := Option.some.inj e; omega)
 replace hB := hB.grown hgs hB.size (fun j e => by cases e; exact hgB)
 replace k1 : Blk (u3.setCell ⟨g, 2, none⟩ (Value.slice B3 nc d3)) g 46 #[(.int .i64 xe), (Value.slice B1 nm d1), (Value.slice B3 nc d3), (.slice A4 np c4), (Value.slice B2 nl d2)] := k1.set_ 2 (Value.slice B3 nc d3)
 obtain ⟨w3, hw⟩ : ∃ w2, w2 = u3.setCell ⟨g, 2, none⟩ (Value.slice B3 nc d3) := ⟨_, rfl⟩
 rw [← hw] at ho1 ho2 ho3 k1 kq k2 hB ⊢
 clear hw hgs f1 b1
 -- cell 3
 have a := k1.cell 3
 have hal := below_al (Below.refl w3.heap.size w3) (.cells #[] 25)
 have a' : (w3.alloc (.cells #[] 25)).cell? ⟨g, 3, none⟩ = some (.slice A4 np c4) := cell_b hal a
 have ho0 : OwnL encV1 25 1 w3.heap.size (w3.alloc (.cells #[] 25)) (.slice (some ⟨w3.heap.size, 0, none⟩) 0 0) [] := OwnL.empty encV1 _ 1 (Blk.new w3 25 #[]) (Nat.le_refl _)
 have hrow0 := (HR.out.2.2.1.below hB).below hal
 go_upto_region 5 with (refine wp_append_rows (enc := encV1) (B := w3.heap.size) Tryz.underlying29 ints_info rfl (by decide) (by decide) rfl (.tmp 23) (.tmp 26) rfl encV1_len encV1_one rfl ho0 rfl hrow0 (by simp) (by omega) hal.size ?_; intro v u4 ho4 hg1; have hb : Below w3.heap.size w3 u4 := hal.grown hg1 hal.size (fun k e => by cases e; exact Nat.le_refl _); rw [List.nil_append] at ho4; obtain ⟨B4, d4, hv, -⟩ := OwnL.row ho4 encV1_len; rw [HNV.out] at hv; subst hv; replace ho4 := ho4.le hB.size; replace ho1 := ho1.below hb; replace ho2 := ho2.below hb; replace ho3 := ho3.below hb; replace k1 := k1.below hb k1.lt; replace kq := kq.below hb kq.lt; replace k2 := k2.below hb k2.lt; replace hB := below_then hB hb; have f1 := k1.frozen 3; have b1 : u4.cell? ⟨g, 3, none⟩ = some (.slice A4 np c4) := k1.cell 3; clear hb a a' ho0 hrow0 hal hg1)
 have hgs := grown_set (grown_refl u4 (some g)) 3 (Value.slice B4 np d4)
 replace ho1 := OwnL.kept ho1 hgs (.inr (Ne.symm (own_ty ho1 k1 (by decide))))
 replace ho2 := OwnL.kept ho2 hgs (.inr (Ne.symm (own_ty ho2 k1 (by decide))))
 replace ho3 := OwnL.kept ho3 hgs (.inr (Ne.symm (own_ty ho3 k1 (by decide))))
 replace ho4 := OwnL.kept ho4 hgs (.inr (Ne.symm (own_ty ho4 k1 (by decide))))
 replace k2 := k2.grown hgs (fun e => by have := Option.some.inj e; omega)
 replace kq := kq.grown hgs (fun e => by have := Option.some.inj e; omega)
 replace hB := hB.grown hgs hB.size (fun j e => by cases e; exact hgB)
 replace k1 : Blk (u4.setCell ⟨g, 3, none⟩ (Value.slice B4 np d4)) g 46 #[(.int .i64 xe), (Value.slice B1 nm d1), (Value.slice B3 nc d3), (Value.slice B4 np d4), (Value.slice B2 nl d2)] := k1.set_ 3 (Value.slice B4 np d4)
 obtain ⟨w4, hw⟩ : ∃ w2, w2 = u4.setCell ⟨g, 3, none⟩ (Value.slice B4 np d4) := ⟨_, rfl⟩
 rw [← hw] at ho1 ho2 ho3 ho4 k1 kq k2 hB ⊢
 clear hw hgs f1 b1
 have c0 : w4.cell? ⟨g + 1, 0, none⟩ = some (.int .i64 q0) := kq.cell 0
 have c1 : w4.cell? ⟨g + 1, 1, none⟩ = some (.int .i64 q1) := kq.cell 1
 go_upto_region 7 with fail
 clear c0 c1 kq ht7 hu7 ht9 hu9 ha7 hb7 ha9 hb9 hq0 _hq1
 rcases (show s9 = 0 ∨ s9 = 1 ∨ s9 = 2 ∨ s9 = 3 ∨ s9 = 4 ∨ s9 = 5 ∨ s9 = 6 ∨ s9 = 7 ∨ s9 = 8 by omega) with rfl | rfl | rfl | rfl | rfl | rfl | rfl | rfl | rfl
 ·clear hs9
  obtain ⟨E2, hE2⟩ : ∃ E2 : Int, xe + (s7 : Int) - 3 = E2 := ⟨_, rfl⟩
  have hxe := HQ.out
  have f0 := k1.frozen 0
  have b0 : _ = some (Value.int .i64 xe) := k1.cell 0
  go_upto_region 27 with fail
  clear f0 b0
  have hgs := grown_set (grown_refl w4 (some g)) 0 (.int .i64 E2)
  replace ho1 := OwnL.kept ho1 hgs (.inr (Ne.symm (own_ty ho1 k1 (by decide))))
  replace ho2 := OwnL.kept ho2 hgs (.inr (Ne.symm (own_ty ho2 k1 (by decide))))
  replace ho3 := OwnL.kept ho3 hgs (.inr (Ne.symm (own_ty ho3 k1 (by decide))))
  replace ho4 := OwnL.kept ho4 hgs (.inr (Ne.symm (own_ty ho4 k1 (by decide))))
  replace k2 := k2.grown hgs (fun e => by have := Option.some.inj e; omega)
  replace hB := hB.grown hgs hB.size (fun j e => by cases e; exact hgB)
  replace k1 : Blk (w4.setCell ⟨g, 0, none⟩ (.int .i64 E2)) g 46 #[(.int .i64 E2), (Value.slice B1 nm d1), (Value.slice B3 nc d3), (Value.slice B4 np d4), (Value.slice B2 nl d2)] := k1.set_ 0 (.int .i64 E2)
  obtain ⟨w5, hw⟩ : ∃ w2, w2 = w4.setCell ⟨g, 0, none⟩ (.int .i64 E2) := ⟨_, rfl⟩
  rw [← hw] at ho1 ho2 ho3 ho4 k1 k2 hB ⊢
  clear hw hgs
  have x0 : _ = some (Value.int .i64 E2) := k1.cell 0
  have x1 : _ = some (Value.slice B1 nm d1) := k1.cell 1
  have x2 : _ = some (Value.slice B3 nc d3) := k1.cell 2
  have x3 : _ = some (Value.slice B4 np d4) := k1.cell 3
  have x4 : _ = some (Value.slice B2 nl d2) := k1.cell 4
  have y0 : _ = some (Value.int .i64 0) := k2.cell 0
  have y1 : _ = some (Value.slice none 0 0) := k2.cell 1
  have y2 : _ = some (Value.slice none 0 0) := k2.cell 2
  have y3 : _ = some (Value.slice none 0 0) := k2.cell 3
  have y4 : _ = some (Value.slice none 0 0) := k2.cell 4
  have z0 := k2.frozen 0
  have z1 := k2.frozen 1
  have z2 := k2.frozen 2
  have z3 := k2.frozen 3
  have z4 := k2.frozen 4
  go_wp2_with fail
  have kR : Blk _ (g + 1 + 1) 46 #[(.int .i64 E2), (Value.slice B1 nm d1), (Value.slice B3 nc d3), (Value.slice B4 np d4), (Value.slice B2 nl d2)] := (((((k2.set_ 0 (.int .i64 E2)).set_ 1 (Value.slice B1 nm d1)).set_ 2 (Value.slice B3 nc d3)).set_ 3 (Value.slice B4 np d4)).set_ 4 (Value.slice B2 nl d2))
  have hgR := (grown_set (grown_set (grown_set (grown_set (grown_set (grown_refl w5 (some (g + 1 + 1))) 0 (.int .i64 E2)) 1 (Value.slice B1 nm d1)) 2 (Value.slice B3 nc d3)) 3 (Value.slice B4 np d4)) 4 (Value.slice B2 nl d2))
  have hBF := hB.grown hgR hB.size (fun j e => by cases e; omega)
  refine bodyPost_ret (results_cell_row (p := 4) (ty := 46) rfl _ _ (g + 1 + 1) _ #[(.int .i64 E2), (Value.slice B1 nm d1), (Value.slice B3 nc d3), (Value.slice B4 np d4), (Value.slice B2 nl d2)] (0, 0) _ rfl kR Tryz.underlying46 rfl hdr_size) rfl ?_
  have pA := bent_in (P := P) (xe := E2) (ps := ps) ho1 ho3 (ownV1 ho4) ho2 k2 hgR (by rw [HRS.out.2]; exact HRS.out.1.below hBF)
  exact ⟨⟨E2, _, _, _, _⟩, ⟨_, ms, cs, ps, ls⟩, rfl, pA, { HSM.out with e := ⟨by show -9223372036854775808 ≤ E2; omega, by show E2 ≤ 9223372036854775807; omega⟩ }, fun e => absurd (H8.out e) (by omega), hBF⟩
 ·clear hs9
  by_cases hz : nm = 0
  ·subst hz
   have b0 : w4.cell? ⟨g, 1, none⟩ = some (Value.slice B1 0 d1) := k1.cell 1
   go_upto_region 27 with fail
   clear b0
   have x0 : _ = some (Value.int .i64 xe) := k1.cell 0
   have x1 : _ = some (Value.slice B1 0 d1) := k1.cell 1
   have x2 : _ = some (Value.slice B3 nc d3) := k1.cell 2
   have x3 : _ = some (Value.slice B4 np d4) := k1.cell 3
   have x4 : _ = some (Value.slice B2 nl d2) := k1.cell 4
   have y0 : _ = some (Value.int .i64 0) := k2.cell 0
   have y1 : _ = some (Value.slice none 0 0) := k2.cell 1
   have y2 : _ = some (Value.slice none 0 0) := k2.cell 2
   have y3 : _ = some (Value.slice none 0 0) := k2.cell 3
   have y4 : _ = some (Value.slice none 0 0) := k2.cell 4
   have z0 := k2.frozen 0
   have z1 := k2.frozen 1
   have z2 := k2.frozen 2
   have z3 := k2.frozen 3
   have z4 := k2.frozen 4
   go_wp2_with fail
   have kR : Blk _ (g + 1 + 1) 46 #[(.int .i64 xe), (Value.slice B1 0 d1), (Value.slice B3 nc d3), (Value.slice B4 np d4), (Value.slice B2 nl d2)] := (((((k2.set_ 0 (.int .i64 xe)).set_ 1 (Value.slice B1 0 d1)).set_ 2 (Value.slice B3 nc d3)).set_ 3 (Value.slice B4 np d4)).set_ 4 (Value.slice B2 nl d2))
   have hgR := (grown_set (grown_set (grown_set (grown_set (grown_set (grown_refl w4 (some (g + 1 + 1))) 0 (.int .i64 xe)) 1 (Value.slice B1 0 d1)) 2 (Value.slice B3 nc d3)) 3 (Value.slice B4 np d4)) 4 (Value.slice B2 nl d2))
   have hBF := hB.grown hgR hB.size (fun j e => by cases e; omega)
   refine bodyPost_ret (results_cell_row (p := 4) (ty := 46) rfl _ _ (g + 1 + 1) _ #[(.int .i64 xe), (Value.slice B1 0 d1), (Value.slice B3 nc d3), (Value.slice B4 np d4), (Value.slice B2 nl d2)] (0, 0) _ rfl kR Tryz.underlying46 rfl hdr_size) rfl ?_
   have pA := bent_in (P := P) (xe := xe) (ps := ps) ho1 ho3 (ownV1 ho4) ho2 k2 hgR (by rw [HRS.out.2]; exact HRS.out.1.below hBF)
   exact ⟨⟨xe, _, _, _, _⟩, ⟨_, ms, cs, ps, ls⟩, rfl, pA, HSM.out, fun e => absurd (H8.out e) (by omega), hBF⟩
  ·skip
   have hpos : (0 : Int) < (nm : Int) := by omega
   obtain ⟨j, hj, hjn⟩ : ∃ j : Nat, (s7 : Int).tmod (nm : Int) = (j : Int) ∧ j < nm := ⟨s7 % nm, by rw [Int.tmod_eq_emod_of_nonneg (by omega), ← Int.natCast_emod], Nat.mod_lt _ (by omega)⟩
   have hm0 : ((nm : Int) == 0) = false := by rw [beq_eq_false_iff_ne]; omega
   have hjn' : (j : Int) < (nm : Int) := by omega
   obtain ⟨gm, hgm⟩ := own_at0 ho1 (show 0 < nm by omega)
   subst hgm
   obtain ⟨x, hx⟩ : ∃ x, ms[j]? = some x := ⟨_, List.getElem?_eq_getElem (by rw [← HN.out.1]; exact hjn)⟩
   have hxw := HW.out x (List.mem_of_getElem? hx)
   have hxI := HSM.out.m2 x (List.mem_of_getElem? hx)
   have hwr : IntKind.i64.wrap (x.wt + 1) = x.wt + 1 := IntWalk.i64_in _ (by omega)
   have HXM : Hid (I64 x.id ∧ I64 (x.wt + 1) ∧ I64 x.pub) := Lib.hid ⟨hxI.1, ⟨by omega, by omega⟩, hxI.2.2⟩
   clear hxI
   have b0 : w4.cell? ⟨g, 1, none⟩ = some (Value.slice (some ⟨gm, 0, none⟩) nm d1) := k1.cell 1
   go_upto_region 11 with fail
   clear b0
   have hbd : Below w4.heap.size w4 w4.drew := (Below.refl _ _).drew
   replace ho1 := ho1.below hbd
   replace ho2 := ho2.below hbd
   replace ho3 := ho3.below hbd
   replace ho4 := ho4.below hbd
   replace k1 := k1.below hbd k1.lt
   replace k2 := k2.below hbd k2.lt
   replace hB := below_then hB hbd
   clear hbd
   refine region_here (fun Z : World => Z.cell? ⟨g, 1, none⟩ = some (Value.slice (some ⟨gm, 0, none⟩) nm d1) ∧ Z.cell? ⟨gm, j * 3 + 1, none⟩ = some (.int .i64 x.wt)) 13 (by kernel_rfl) (⟨k1.cell 1, OwnL.cellAt encM_len ho1 hx (k := 1) rfl⟩) (fun hHeld => ?_)
   generalize w4.drew = V at *
   refine tkT 0 rfl ?_
   refine tkT 1 rfl ?_
   refine tkT 2 rfl ?_
   refine tkT 3 rfl ?_
   refine tkT 4 rfl ?_
   refine tkT 5 rfl ?_
   refine tkT 6 rfl ?_
   refine tkT 7 rfl ?_
   refine tkT 8 rfl ?_
   refine tkT 9 rfl ?_
   refine tkT 10 rfl ?_
   refine tkT 11 rfl ?_
   refine tkT 12 rfl ?_
   refine tkK 13 rfl fun K hK => ?_
   have f5 := OwnL.frozenAt ho1 HN.out.1 (j * 3 + 1)
   have b5 := OwnL.cellAt encM_len ho1 hx (k := 1) rfl
   go_simp
   have hgs : V.grownBy (V.setCell ⟨gm, j * 3 + 1, none⟩ (.int .i64 (x.wt + 1))) (some gm) := grown_set (grown_refl V (some gm)) _ _
   replace ho2 := OwnL.kept ho2 hgs (rows_apart ho2 ho1 (by decide))
   replace ho3 := OwnL.kept ho3 hgs (rows_apart ho3 ho1 (by decide))
   replace ho4 := OwnL.kept ho4 hgs (rows_apart ho4 ho1 (by decide))
   replace k1 := k1.grown hgs (own_ty ho1 k1 (by decide))
   replace k2 := k2.grown hgs (own_ty ho1 k2 (by decide))
   replace hB := hB.grown hgs hB.size (own_high ho1)
   have ho9 := OwnL.changed encM_len ho1 HN.out.1 hx (k := 1) (x' := { x with wt := x.wt + 1 }) (u := .int .i64 (x.wt + 1)) (by omega) (by rfl)
   clear ho1
   have ho1 := ho9
   clear ho9
   obtain ⟨u5, hu5⟩ : ∃ Z, Z = V.setCell ⟨gm, j * 3 + 1, none⟩ (.int .i64 (x.wt + 1)) := ⟨_, rfl⟩
   rw [← hu5] at ho1 ho2 ho3 ho4 k1 k2 hB ⊢
   clear hu5 hgs f5 b5
   refine hK.out _ _ ?_
   clear hK K
   try simp only [Act.put]
   refine wpAny_done (by kernel_rfl) ?_ _
   have x0 : _ = some (Value.int .i64 xe) := k1.cell 0
   have x1 : _ = some (Value.slice (some ⟨gm, 0, none⟩) nm d1) := k1.cell 1
   have x2 : _ = some (Value.slice B3 nc d3) := k1.cell 2
   have x3 : _ = some (Value.slice B4 np d4) := k1.cell 3
   have x4 : _ = some (Value.slice B2 nl d2) := k1.cell 4
   have y0 : _ = some (Value.int .i64 0) := k2.cell 0
   have y1 : _ = some (Value.slice none 0 0) := k2.cell 1
   have y2 : _ = some (Value.slice none 0 0) := k2.cell 2
   have y3 : _ = some (Value.slice none 0 0) := k2.cell 3
   have y4 : _ = some (Value.slice none 0 0) := k2.cell 4
   have z0 := k2.frozen 0
   have z1 := k2.frozen 1
   have z2 := k2.frozen 2
   have z3 := k2.frozen 3
   have z4 := k2.frozen 4
   go_wp2_with fail
   have kR : Blk _ (g + 1 + 1) 46 #[(.int .i64 xe), (Value.slice (some ⟨gm, 0, none⟩) nm d1), (Value.slice B3 nc d3), (Value.slice B4 np d4), (Value.slice B2 nl d2)] := (((((k2.set_ 0 (.int .i64 xe)).set_ 1 (Value.slice (some ⟨gm, 0, none⟩) nm d1)).set_ 2 (Value.slice B3 nc d3)).set_ 3 (Value.slice B4 np d4)).set_ 4 (Value.slice B2 nl d2))
   have hgR := (grown_set (grown_set (grown_set (grown_set (grown_set (grown_refl u5 (some (g + 1 + 1))) 0 (.int .i64 xe)) 1 (Value.slice (some ⟨gm, 0, none⟩) nm d1)) 2 (Value.slice B3 nc d3)) 3 (Value.slice B4 np d4)) 4 (Value.slice B2 nl d2))
   have hBF := hB.grown hgR hB.size (fun j e => by cases e; omega)
   refine bodyPost_ret (results_cell_row (p := 4) (ty := 46) rfl _ _ (g + 1 + 1) _ #[(.int .i64 xe), (Value.slice (some ⟨gm, 0, none⟩) nm d1), (Value.slice B3 nc d3), (Value.slice B4 np d4), (Value.slice B2 nl d2)] (0, 0) _ rfl kR Tryz.underlying46 rfl hdr_size) rfl ?_
   have pA := bent_in (P := P) (xe := xe) (ps := ps) ho1 ho3 (ownV1 ho4) ho2 k2 hgR (by rw [HRS.out.2]; exact HRS.out.1.below hBF)
   exact ⟨⟨xe, _, _, _, _⟩, ⟨_, (ms.set j { x with wt := x.wt + 1 }), cs, ps, ls⟩, rfl, pA, { HSM.out with m1 := by show (ms.set j _).length ≤ 20; rw [List.length_set]; exact HSM.out.m1, m2 := fun y hy => (List.mem_or_eq_of_mem_set hy).elim (HSM.out.m2 y) (fun e => by rw [e]; exact HXM.out) }, fun e => absurd (H8.out e) (by omega), hBF⟩
 ·clear hs9
  by_cases hz : nm = 0
  ·subst hz
   have b0 : w4.cell? ⟨g, 1, none⟩ = some (Value.slice B1 0 d1) := k1.cell 1
   go_upto_region 27 with fail
   clear b0
   have x0 : _ = some (Value.int .i64 xe) := k1.cell 0
   have x1 : _ = some (Value.slice B1 0 d1) := k1.cell 1
   have x2 : _ = some (Value.slice B3 nc d3) := k1.cell 2
   have x3 : _ = some (Value.slice B4 np d4) := k1.cell 3
   have x4 : _ = some (Value.slice B2 nl d2) := k1.cell 4
   have y0 : _ = some (Value.int .i64 0) := k2.cell 0
   have y1 : _ = some (Value.slice none 0 0) := k2.cell 1
   have y2 : _ = some (Value.slice none 0 0) := k2.cell 2
   have y3 : _ = some (Value.slice none 0 0) := k2.cell 3
   have y4 : _ = some (Value.slice none 0 0) := k2.cell 4
   have z0 := k2.frozen 0
   have z1 := k2.frozen 1
   have z2 := k2.frozen 2
   have z3 := k2.frozen 3
   have z4 := k2.frozen 4
   go_wp2_with fail
   have kR : Blk _ (g + 1 + 1) 46 #[(.int .i64 xe), (Value.slice B1 0 d1), (Value.slice B3 nc d3), (Value.slice B4 np d4), (Value.slice B2 nl d2)] := (((((k2.set_ 0 (.int .i64 xe)).set_ 1 (Value.slice B1 0 d1)).set_ 2 (Value.slice B3 nc d3)).set_ 3 (Value.slice B4 np d4)).set_ 4 (Value.slice B2 nl d2))
   have hgR := (grown_set (grown_set (grown_set (grown_set (grown_set (grown_refl w4 (some (g + 1 + 1))) 0 (.int .i64 xe)) 1 (Value.slice B1 0 d1)) 2 (Value.slice B3 nc d3)) 3 (Value.slice B4 np d4)) 4 (Value.slice B2 nl d2))
   have hBF := hB.grown hgR hB.size (fun j e => by cases e; omega)
   refine bodyPost_ret (results_cell_row (p := 4) (ty := 46) rfl _ _ (g + 1 + 1) _ #[(.int .i64 xe), (Value.slice B1 0 d1), (Value.slice B3 nc d3), (Value.slice B4 np d4), (Value.slice B2 nl d2)] (0, 0) _ rfl kR Tryz.underlying46 rfl hdr_size) rfl ?_
   have pA := bent_in (P := P) (xe := xe) (ps := ps) ho1 ho3 (ownV1 ho4) ho2 k2 hgR (by rw [HRS.out.2]; exact HRS.out.1.below hBF)
   exact ⟨⟨xe, _, _, _, _⟩, ⟨_, ms, cs, ps, ls⟩, rfl, pA, HSM.out, fun e => absurd (H8.out e) (by omega), hBF⟩
  ·skip
   have hpos : (0 : Int) < (nm : Int) := by omega
   obtain ⟨j, hj, hjn⟩ : ∃ j : Nat, (s7 : Int).tmod (nm : Int) = (j : Int) ∧ j < nm := ⟨s7 % nm, by rw [Int.tmod_eq_emod_of_nonneg (by omega), ← Int.natCast_emod], Nat.mod_lt _ (by omega)⟩
   have hm0 : ((nm : Int) == 0) = false := by rw [beq_eq_false_iff_ne]; omega
   have hjn' : (j : Int) < (nm : Int) := by omega
   obtain ⟨gm, hgm⟩ := own_at0 ho1 (show 0 < nm by omega)
   subst hgm
   obtain ⟨x, hx⟩ : ∃ x, ms[j]? = some x := ⟨_, List.getElem?_eq_getElem (by rw [← HN.out.1]; exact hjn)⟩
   have hwr : IntKind.i64.wrap ((s7 : Int) + 1) = (s7 : Int) + 1 := IntWalk.i64_in _ (by omega)
   have hxI := HSM.out.m2 x (List.mem_of_getElem? hx)
   have HXM : Hid (I64 x.id ∧ I64 x.wt ∧ I64 ((gP (s7 + 1) : Nat) : Int)) := Lib.hid ⟨hxI.1, hxI.2.1, ⟨by omega, by have := gP_small (s7 + 1) (by omega); omega⟩⟩
   clear hxI
   have mp := Lib.hid (fun W => (show Calls Tryz.prog 35 #[.int .i64 ((s7 : Int) + 1)] W _ from rPublic8_q (s7 + 1) (by omega) W))
   have b0 : w4.cell? ⟨g, 1, none⟩ = some (Value.slice (some ⟨gm, 0, none⟩) nm d1) := k1.cell 1
   go_upto_region 14 with fail
   clear b0
   have hbd : Below w4.heap.size w4 w4.drew := (Below.refl _ _).drew
   replace ho1 := ho1.below hbd
   replace ho2 := ho2.below hbd
   replace ho3 := ho3.below hbd
   replace ho4 := ho4.below hbd
   replace k1 := k1.below hbd k1.lt
   replace k2 := k2.below hbd k2.lt
   replace hB := below_then hB hbd
   clear hbd
   refine region_here (fun Z : World => Z.cell? ⟨g, 1, none⟩ = some (Value.slice (some ⟨gm, 0, none⟩) nm d1)) 12 (by kernel_rfl) (k1.cell 1) (fun hHeld => ?_)
   generalize w4.drew = V at *
   refine tkT 0 rfl ?_
   refine tkT 1 rfl ?_
   refine tkT 2 rfl ?_
   refine tkT 3 rfl ?_
   refine tkT 4 rfl ?_
   refine tkT 5 rfl ?_
   refine tkT 6 rfl ?_
   refine tkT 7 rfl ?_
   refine tkT 8 rfl ?_
   refine tkO 9 rfl fun K hK => ?_
   go_simp
   go_at_call 35
   refine (mp.out _).mono ?_
   rintro e wa ⟨rfl, hww⟩
   obtain rfl := hww.symm
   (try go_wp2_with fail)
   refine hK.out _ _ ?_ (fun hHeld9 => ?_)
   ·exact hHeld
   clear hK K
   try simp only [Act.put, pq1, pq2, pq3]
   refine tkT 10 rfl ?_
   refine tkT 11 rfl ?_
   refine tkK 12 rfl fun K hK => ?_
   have f5 := OwnL.frozenAt ho1 HN.out.1 (j * 3 + 2)
   have b5 := OwnL.cellAt encM_len ho1 hx (k := 2) rfl
   go_simp
   have hgs : V.grownBy (V.setCell ⟨gm, j * 3 + 2, none⟩ (.int .i64 ((gP (s7 + 1) : Nat) : Int))) (some gm) := grown_set (grown_refl V (some gm)) _ _
   replace ho2 := OwnL.kept ho2 hgs (rows_apart ho2 ho1 (by decide))
   replace ho3 := OwnL.kept ho3 hgs (rows_apart ho3 ho1 (by decide))
   replace ho4 := OwnL.kept ho4 hgs (rows_apart ho4 ho1 (by decide))
   replace k1 := k1.grown hgs (own_ty ho1 k1 (by decide))
   replace k2 := k2.grown hgs (own_ty ho1 k2 (by decide))
   replace hB := hB.grown hgs hB.size (own_high ho1)
   have ho9 := OwnL.changed encM_len ho1 HN.out.1 hx (k := 2) (x' := { x with pub := ((gP (s7 + 1) : Nat) : Int) }) (u := .int .i64 ((gP (s7 + 1) : Nat) : Int)) (by omega) (by rfl)
   clear ho1
   have ho1 := ho9
   clear ho9
   obtain ⟨u5, hu5⟩ : ∃ Z, Z = V.setCell ⟨gm, j * 3 + 2, none⟩ (.int .i64 ((gP (s7 + 1) : Nat) : Int)) := ⟨_, rfl⟩
   rw [← hu5] at ho1 ho2 ho3 ho4 k1 k2 hB ⊢
   clear hu5 hgs f5 b5
   refine hK.out _ _ ?_
   clear hK K
   try simp only [Act.put]
   refine wpAny_done (by kernel_rfl) ?_ _
   have x0 : _ = some (Value.int .i64 xe) := k1.cell 0
   have x1 : _ = some (Value.slice (some ⟨gm, 0, none⟩) nm d1) := k1.cell 1
   have x2 : _ = some (Value.slice B3 nc d3) := k1.cell 2
   have x3 : _ = some (Value.slice B4 np d4) := k1.cell 3
   have x4 : _ = some (Value.slice B2 nl d2) := k1.cell 4
   have y0 : _ = some (Value.int .i64 0) := k2.cell 0
   have y1 : _ = some (Value.slice none 0 0) := k2.cell 1
   have y2 : _ = some (Value.slice none 0 0) := k2.cell 2
   have y3 : _ = some (Value.slice none 0 0) := k2.cell 3
   have y4 : _ = some (Value.slice none 0 0) := k2.cell 4
   have z0 := k2.frozen 0
   have z1 := k2.frozen 1
   have z2 := k2.frozen 2
   have z3 := k2.frozen 3
   have z4 := k2.frozen 4
   go_wp2_with fail
   have kR : Blk _ (g + 1 + 1) 46 #[(.int .i64 xe), (Value.slice (some ⟨gm, 0, none⟩) nm d1), (Value.slice B3 nc d3), (Value.slice B4 np d4), (Value.slice B2 nl d2)] := (((((k2.set_ 0 (.int .i64 xe)).set_ 1 (Value.slice (some ⟨gm, 0, none⟩) nm d1)).set_ 2 (Value.slice B3 nc d3)).set_ 3 (Value.slice B4 np d4)).set_ 4 (Value.slice B2 nl d2))
   have hgR := (grown_set (grown_set (grown_set (grown_set (grown_set (grown_refl u5 (some (g + 1 + 1))) 0 (.int .i64 xe)) 1 (Value.slice (some ⟨gm, 0, none⟩) nm d1)) 2 (Value.slice B3 nc d3)) 3 (Value.slice B4 np d4)) 4 (Value.slice B2 nl d2))
   have hBF := hB.grown hgR hB.size (fun j e => by cases e; omega)
   refine bodyPost_ret (results_cell_row (p := 4) (ty := 46) rfl _ _ (g + 1 + 1) _ #[(.int .i64 xe), (Value.slice (some ⟨gm, 0, none⟩) nm d1), (Value.slice B3 nc d3), (Value.slice B4 np d4), (Value.slice B2 nl d2)] (0, 0) _ rfl kR Tryz.underlying46 rfl hdr_size) rfl ?_
   have pA := bent_in (P := P) (xe := xe) (ps := ps) ho1 ho3 (ownV1 ho4) ho2 k2 hgR (by rw [HRS.out.2]; exact HRS.out.1.below hBF)
   exact ⟨⟨xe, _, _, _, _⟩, ⟨_, (ms.set j { x with pub := ((gP (s7 + 1) : Nat) : Int) }), cs, ps, ls⟩, rfl, pA, { HSM.out with m1 := by show (ms.set j _).length ≤ 20; rw [List.length_set]; exact HSM.out.m1, m2 := fun y hy => (List.mem_or_eq_of_mem_set hy).elim (HSM.out.m2 y) (fun e => by rw [e]; exact HXM.out) }, fun e => absurd (H8.out e) (by omega), hBF⟩
 ·clear hs9
  by_cases hz : nl = 0
  ·subst hz
   have b0 : w4.cell? ⟨g, 4, none⟩ = some (Value.slice B2 0 d2) := k1.cell 4
   go_upto_region 27 with fail
   clear b0
   have x0 : _ = some (Value.int .i64 xe) := k1.cell 0
   have x1 : _ = some (Value.slice B1 nm d1) := k1.cell 1
   have x2 : _ = some (Value.slice B3 nc d3) := k1.cell 2
   have x3 : _ = some (Value.slice B4 np d4) := k1.cell 3
   have x4 : _ = some (Value.slice B2 0 d2) := k1.cell 4
   have y0 : _ = some (Value.int .i64 0) := k2.cell 0
   have y1 : _ = some (Value.slice none 0 0) := k2.cell 1
   have y2 : _ = some (Value.slice none 0 0) := k2.cell 2
   have y3 : _ = some (Value.slice none 0 0) := k2.cell 3
   have y4 : _ = some (Value.slice none 0 0) := k2.cell 4
   have z0 := k2.frozen 0
   have z1 := k2.frozen 1
   have z2 := k2.frozen 2
   have z3 := k2.frozen 3
   have z4 := k2.frozen 4
   go_wp2_with fail
   have kR : Blk _ (g + 1 + 1) 46 #[(.int .i64 xe), (Value.slice B1 nm d1), (Value.slice B3 nc d3), (Value.slice B4 np d4), (Value.slice B2 0 d2)] := (((((k2.set_ 0 (.int .i64 xe)).set_ 1 (Value.slice B1 nm d1)).set_ 2 (Value.slice B3 nc d3)).set_ 3 (Value.slice B4 np d4)).set_ 4 (Value.slice B2 0 d2))
   have hgR := (grown_set (grown_set (grown_set (grown_set (grown_set (grown_refl w4 (some (g + 1 + 1))) 0 (.int .i64 xe)) 1 (Value.slice B1 nm d1)) 2 (Value.slice B3 nc d3)) 3 (Value.slice B4 np d4)) 4 (Value.slice B2 0 d2))
   have hBF := hB.grown hgR hB.size (fun j e => by cases e; omega)
   refine bodyPost_ret (results_cell_row (p := 4) (ty := 46) rfl _ _ (g + 1 + 1) _ #[(.int .i64 xe), (Value.slice B1 nm d1), (Value.slice B3 nc d3), (Value.slice B4 np d4), (Value.slice B2 0 d2)] (0, 0) _ rfl kR Tryz.underlying46 rfl hdr_size) rfl ?_
   have pA := bent_in (P := P) (xe := xe) (ps := ps) ho1 ho3 (ownV1 ho4) ho2 k2 hgR (by rw [HRS.out.2]; exact HRS.out.1.below hBF)
   exact ⟨⟨xe, _, _, _, _⟩, ⟨_, ms, cs, ps, ls⟩, rfl, pA, HSM.out, fun e => absurd (H8.out e) (by omega), hBF⟩
  ·skip
   have hpos : (0 : Int) < (nl : Int) := by omega
   obtain ⟨j, hj, hjn⟩ : ∃ j : Nat, (s7 : Int).tmod (nl : Int) = (j : Int) ∧ j < nl := ⟨s7 % nl, by rw [Int.tmod_eq_emod_of_nonneg (by omega), ← Int.natCast_emod], Nat.mod_lt _ (by omega)⟩
   have hm0 : ((nl : Int) == 0) = false := by rw [beq_eq_false_iff_ne]; omega
   have hjn' : (j : Int) < (nl : Int) := by omega
   obtain ⟨gm, hgm⟩ := own_at0 ho2 (show 0 < nl by omega)
   subst hgm
   obtain ⟨x, hx⟩ : ∃ x, ls[j]? = some x := ⟨_, List.getElem?_eq_getElem (by rw [← HN.out.2.2.2]; exact hjn)⟩
   have hx32 := Lib.hid (HSM.out.l2 x (List.mem_of_getElem? hx))
   obtain ⟨b, hb256, HB⟩ : ∃ b : Nat, b < 256 ∧ Hid ((encH x)[0]? = some (.int .u8 (b : Int)) ∧ (encH x).set 0 (.int .u8 ((b ^^^ 1 : Nat) : Int)) = encH (x.set 0 (UInt8.ofNat (b ^^^ 1)))) := by
    obtain ⟨b, h1, h2, -⟩ := hash_first hx32.out 0 (by omega)
    obtain ⟨b2, -, h3, h4⟩ := hash_first hx32.out (b ^^^ 1) (bent_xor b h1).2
    exact ⟨b, h1, Lib.hid ⟨h2, h4⟩⟩
   have hxor := (bent_xor b hb256).1
   have b0 : w4.cell? ⟨g, 4, none⟩ = some (Value.slice (some ⟨gm, 0, none⟩) nl d2) := k1.cell 4
   go_upto_region 17 with fail
   clear b0
   have hbd : Below w4.heap.size w4 w4.drew := (Below.refl _ _).drew
   replace ho1 := ho1.below hbd
   replace ho2 := ho2.below hbd
   replace ho3 := ho3.below hbd
   replace ho4 := ho4.below hbd
   replace k1 := k1.below hbd k1.lt
   replace k2 := k2.below hbd k2.lt
   replace hB := below_then hB hbd
   clear hbd
   refine region_here (fun Z : World => Z.cell? ⟨g, 4, none⟩ = some (Value.slice (some ⟨gm, 0, none⟩) nl d2) ∧ Z.cell? ⟨gm, j * 32, none⟩ = some (.int .u8 (b : Int))) 13 (by kernel_rfl) (⟨k1.cell 4, by have := OwnL.cellAt encH_len ho2 hx (k := 0) HB.out.1; simpa using this⟩) (fun hHeld => ?_)
   generalize w4.drew = V at *
   refine tkT 0 rfl ?_
   refine tkT 1 rfl ?_
   refine tkT 2 rfl ?_
   refine tkT 3 rfl ?_
   refine tkT 4 rfl ?_
   refine tkT 5 rfl ?_
   refine tkT 6 rfl ?_
   refine tkT 7 rfl ?_
   refine tkT 8 rfl ?_
   refine tkT 9 rfl ?_
   refine tkT 10 rfl ?_
   refine tkT 11 rfl ?_
   refine tkT 12 rfl ?_
   refine tkK 13 rfl fun K hK => ?_
   have f5 := OwnL.frozenAt ho2 HN.out.2.2.2 (j * 32)
   have b5 := OwnL.cellAt encH_len ho2 hx (k := 0) HB.out.1
   rw [Nat.add_zero] at b5
   go_simp
   have hgs : V.grownBy (V.setCell ⟨gm, j * 32, none⟩ (.int .u8 ((b ^^^ 1 : Nat) : Int))) (some gm) := grown_set (grown_refl V (some gm)) _ _
   replace ho1 := OwnL.kept ho1 hgs (rows_apart ho1 ho2 (by decide))
   replace ho3 := OwnL.kept ho3 hgs (rows_apart ho3 ho2 (by decide))
   replace ho4 := OwnL.kept ho4 hgs (rows_apart ho4 ho2 (by decide))
   replace k1 := k1.grown hgs (own_ty ho2 k1 (by decide))
   replace k2 := k2.grown hgs (own_ty ho2 k2 (by decide))
   replace hB := hB.grown hgs hB.size (own_high ho2)
   have ho9 := OwnL.changed encH_len ho2 HN.out.2.2.2 hx (k := 0) (x' := (x.set 0 (UInt8.ofNat (b ^^^ 1)))) (u := .int .u8 ((b ^^^ 1 : Nat) : Int)) (by omega) (HB.out.2)
   rw [Nat.add_zero] at ho9
   clear ho2
   have ho2 := ho9
   clear ho9
   obtain ⟨u5, hu5⟩ : ∃ Z, Z = V.setCell ⟨gm, j * 32, none⟩ (.int .u8 ((b ^^^ 1 : Nat) : Int)) := ⟨_, rfl⟩
   rw [← hu5] at ho1 ho2 ho3 ho4 k1 k2 hB ⊢
   clear hu5 hgs f5 b5
   refine hK.out _ _ ?_
   clear hK K
   try simp only [Act.put]
   refine wpAny_done (by kernel_rfl) ?_ _
   have x0 : _ = some (Value.int .i64 xe) := k1.cell 0
   have x1 : _ = some (Value.slice B1 nm d1) := k1.cell 1
   have x2 : _ = some (Value.slice B3 nc d3) := k1.cell 2
   have x3 : _ = some (Value.slice B4 np d4) := k1.cell 3
   have x4 : _ = some (Value.slice (some ⟨gm, 0, none⟩) nl d2) := k1.cell 4
   have y0 : _ = some (Value.int .i64 0) := k2.cell 0
   have y1 : _ = some (Value.slice none 0 0) := k2.cell 1
   have y2 : _ = some (Value.slice none 0 0) := k2.cell 2
   have y3 : _ = some (Value.slice none 0 0) := k2.cell 3
   have y4 : _ = some (Value.slice none 0 0) := k2.cell 4
   have z0 := k2.frozen 0
   have z1 := k2.frozen 1
   have z2 := k2.frozen 2
   have z3 := k2.frozen 3
   have z4 := k2.frozen 4
   go_wp2_with fail
   have kR : Blk _ (g + 1 + 1) 46 #[(.int .i64 xe), (Value.slice B1 nm d1), (Value.slice B3 nc d3), (Value.slice B4 np d4), (Value.slice (some ⟨gm, 0, none⟩) nl d2)] := (((((k2.set_ 0 (.int .i64 xe)).set_ 1 (Value.slice B1 nm d1)).set_ 2 (Value.slice B3 nc d3)).set_ 3 (Value.slice B4 np d4)).set_ 4 (Value.slice (some ⟨gm, 0, none⟩) nl d2))
   have hgR := (grown_set (grown_set (grown_set (grown_set (grown_set (grown_refl u5 (some (g + 1 + 1))) 0 (.int .i64 xe)) 1 (Value.slice B1 nm d1)) 2 (Value.slice B3 nc d3)) 3 (Value.slice B4 np d4)) 4 (Value.slice (some ⟨gm, 0, none⟩) nl d2))
   have hBF := hB.grown hgR hB.size (fun j e => by cases e; omega)
   refine bodyPost_ret (results_cell_row (p := 4) (ty := 46) rfl _ _ (g + 1 + 1) _ #[(.int .i64 xe), (Value.slice B1 nm d1), (Value.slice B3 nc d3), (Value.slice B4 np d4), (Value.slice (some ⟨gm, 0, none⟩) nl d2)] (0, 0) _ rfl kR Tryz.underlying46 rfl hdr_size) rfl ?_
   have pA := bent_in (P := P) (xe := xe) (ps := ps) ho1 ho3 (ownV1 ho4) ho2 k2 hgR (by rw [HRS.out.2]; exact HRS.out.1.below hBF)
   exact ⟨⟨xe, _, _, _, _⟩, ⟨_, ms, cs, ps, (ls.set j (x.set 0 (UInt8.ofNat (b ^^^ 1))))⟩, rfl, pA, { HSM.out with l1 := by show (ls.set j _).length ≤ 64; rw [List.length_set]; exact HSM.out.l1, l2 := fun y hy => (List.mem_or_eq_of_mem_set hy).elim (HSM.out.l2 y) (fun e => by rw [e, List.length_set]; exact hx32.out) }, fun e => absurd (H8.out e) (by omega), hBF⟩
 ·clear hs9
  have a : w4.cell? ⟨g, 4, none⟩ = some (Value.slice B2 nl d2) := k1.cell 4
  go_upto_region 27 with (refine wp_append_row (enc := encH) Tryz.underlying35 hash_info rfl (by decide) (by decide) rfl _ _ rfl zero32 rfl (encH_len _) (encH_one _) rfl ho2 rfl (by rw [← HN.out.2.2.2]; omega) hB.size ?_; intro v5 u5 ho5 hg5; replace k1 := k1.grown hg5 (own_ty ho2 k1 (by decide)); replace k2 := k2.grown hg5 (own_ty ho2 k2 (by decide)); replace ho1 := OwnL.kept ho1 hg5 (rows_apart ho1 ho2 (by decide)); replace ho3 := OwnL.kept ho3 hg5 (rows_apart ho3 ho2 (by decide)); replace ho4 := OwnL.kept ho4 hg5 (rows_apart ho4 ho2 (by decide)); replace hB := hB.grown hg5 hB.size (own_high ho2); obtain ⟨B5, d5, hv, -⟩ := OwnL.row ho5 encH_len; rw [List.length_append, List.length_singleton, ← HN.out.2.2.2] at hv; subst hv; have f4 := k1.frozen 4; have b4 : u5.cell? ⟨g, 4, none⟩ = some (Value.slice B2 nl d2) := k1.cell 4; clear a ho2 hg5)
  replace ho2 := ho5
  clear ho5 f4 b4
  have hgs := grown_set (grown_refl u5 (some g)) 4 (.slice B5 (nl + 1) d5)
  replace ho1 := OwnL.kept ho1 hgs (.inr (Ne.symm (own_ty ho1 k1 (by decide))))
  replace ho2 := OwnL.kept ho2 hgs (.inr (Ne.symm (own_ty ho2 k1 (by decide))))
  replace ho3 := OwnL.kept ho3 hgs (.inr (Ne.symm (own_ty ho3 k1 (by decide))))
  replace ho4 := OwnL.kept ho4 hgs (.inr (Ne.symm (own_ty ho4 k1 (by decide))))
  replace k2 := k2.grown hgs (fun e => by have := Option.some.inj e; omega)
  replace hB := hB.grown hgs hB.size (fun j e => by cases e; exact hgB)
  replace k1 : Blk (u5.setCell ⟨g, 4, none⟩ (.slice B5 (nl + 1) d5)) g 46 #[(.int .i64 xe), (Value.slice B1 nm d1), (Value.slice B3 nc d3), (Value.slice B4 np d4), (.slice B5 (nl + 1) d5)] := k1.set_ 4 (.slice B5 (nl + 1) d5)
  obtain ⟨w5, hw⟩ : ∃ w2, w2 = u5.setCell ⟨g, 4, none⟩ (.slice B5 (nl + 1) d5) := ⟨_, rfl⟩
  rw [← hw] at ho1 ho2 ho3 ho4 k1 k2 hB ⊢
  clear hw hgs
  have x0 : _ = some (Value.int .i64 xe) := k1.cell 0
  have x1 : _ = some (Value.slice B1 nm d1) := k1.cell 1
  have x2 : _ = some (Value.slice B3 nc d3) := k1.cell 2
  have x3 : _ = some (Value.slice B4 np d4) := k1.cell 3
  have x4 : _ = some (Value.slice B5 (nl + 1) d5) := k1.cell 4
  have y0 : _ = some (Value.int .i64 0) := k2.cell 0
  have y1 : _ = some (Value.slice none 0 0) := k2.cell 1
  have y2 : _ = some (Value.slice none 0 0) := k2.cell 2
  have y3 : _ = some (Value.slice none 0 0) := k2.cell 3
  have y4 : _ = some (Value.slice none 0 0) := k2.cell 4
  have z0 := k2.frozen 0
  have z1 := k2.frozen 1
  have z2 := k2.frozen 2
  have z3 := k2.frozen 3
  have z4 := k2.frozen 4
  go_wp2_with fail
  have kR : Blk _ (g + 1 + 1) 46 #[(.int .i64 xe), (Value.slice B1 nm d1), (Value.slice B3 nc d3), (Value.slice B4 np d4), (.slice B5 (nl + 1) d5)] := (((((k2.set_ 0 (.int .i64 xe)).set_ 1 (Value.slice B1 nm d1)).set_ 2 (Value.slice B3 nc d3)).set_ 3 (Value.slice B4 np d4)).set_ 4 (.slice B5 (nl + 1) d5))
  have hgR := (grown_set (grown_set (grown_set (grown_set (grown_set (grown_refl w5 (some (g + 1 + 1))) 0 (.int .i64 xe)) 1 (Value.slice B1 nm d1)) 2 (Value.slice B3 nc d3)) 3 (Value.slice B4 np d4)) 4 (.slice B5 (nl + 1) d5))
  have hBF := hB.grown hgR hB.size (fun j e => by cases e; omega)
  refine bodyPost_ret (results_cell_row (p := 4) (ty := 46) rfl _ _ (g + 1 + 1) _ #[(.int .i64 xe), (Value.slice B1 nm d1), (Value.slice B3 nc d3), (Value.slice B4 np d4), (.slice B5 (nl + 1) d5)] (0, 0) _ rfl kR Tryz.underlying46 rfl hdr_size) rfl ?_
  have pA := bent_in (P := P) (xe := xe) (ps := ps) ho1 ho3 (ownV1 ho4) ho2 k2 hgR (by rw [HRS.out.2]; exact HRS.out.1.below hBF)
  exact ⟨⟨xe, _, _, _, _⟩, ⟨_, ms, cs, ps, (ls ++ [zero32])⟩, rfl, pA, { HSM.out with l1 := by show (ls ++ [zero32]).length ≤ 64; rw [List.length_append, ← HN.out.2.2.2]; show nl + 1 ≤ 64; omega, l2 := fun l hl => (List.mem_append.1 hl).elim (HSM.out.l2 l) (fun h => by rw [List.mem_singleton.1 h]; rfl) }, fun e => absurd (H8.out e) (by omega), hBF⟩
 ·clear hs9
  by_cases hz : nc = 0
  ·subst hz
   have b0 : w4.cell? ⟨g, 2, none⟩ = some (Value.slice B3 0 d3) := k1.cell 2
   go_upto_region 27 with fail
   clear b0
   have x0 : _ = some (Value.int .i64 xe) := k1.cell 0
   have x1 : _ = some (Value.slice B1 nm d1) := k1.cell 1
   have x2 : _ = some (Value.slice B3 0 d3) := k1.cell 2
   have x3 : _ = some (Value.slice B4 np d4) := k1.cell 3
   have x4 : _ = some (Value.slice B2 nl d2) := k1.cell 4
   have y0 : _ = some (Value.int .i64 0) := k2.cell 0
   have y1 : _ = some (Value.slice none 0 0) := k2.cell 1
   have y2 : _ = some (Value.slice none 0 0) := k2.cell 2
   have y3 : _ = some (Value.slice none 0 0) := k2.cell 3
   have y4 : _ = some (Value.slice none 0 0) := k2.cell 4
   have z0 := k2.frozen 0
   have z1 := k2.frozen 1
   have z2 := k2.frozen 2
   have z3 := k2.frozen 3
   have z4 := k2.frozen 4
   go_wp2_with fail
   have kR : Blk _ (g + 1 + 1) 46 #[(.int .i64 xe), (Value.slice B1 nm d1), (Value.slice B3 0 d3), (Value.slice B4 np d4), (Value.slice B2 nl d2)] := (((((k2.set_ 0 (.int .i64 xe)).set_ 1 (Value.slice B1 nm d1)).set_ 2 (Value.slice B3 0 d3)).set_ 3 (Value.slice B4 np d4)).set_ 4 (Value.slice B2 nl d2))
   have hgR := (grown_set (grown_set (grown_set (grown_set (grown_set (grown_refl w4 (some (g + 1 + 1))) 0 (.int .i64 xe)) 1 (Value.slice B1 nm d1)) 2 (Value.slice B3 0 d3)) 3 (Value.slice B4 np d4)) 4 (Value.slice B2 nl d2))
   have hBF := hB.grown hgR hB.size (fun j e => by cases e; omega)
   refine bodyPost_ret (results_cell_row (p := 4) (ty := 46) rfl _ _ (g + 1 + 1) _ #[(.int .i64 xe), (Value.slice B1 nm d1), (Value.slice B3 0 d3), (Value.slice B4 np d4), (Value.slice B2 nl d2)] (0, 0) _ rfl kR Tryz.underlying46 rfl hdr_size) rfl ?_
   have pA := bent_in (P := P) (xe := xe) (ps := ps) ho1 ho3 (ownV1 ho4) ho2 k2 hgR (by rw [HRS.out.2]; exact HRS.out.1.below hBF)
   exact ⟨⟨xe, _, _, _, _⟩, ⟨_, ms, cs, ps, ls⟩, rfl, pA, HSM.out, fun e => absurd (H8.out e) (by omega), hBF⟩
  ·skip
   have hpos : (0 : Int) < (nc : Int) := by omega
   obtain ⟨j, hj, hjn⟩ : ∃ j : Nat, (s7 : Int).tmod (nc : Int) = (j : Int) ∧ j < nc := ⟨s7 % nc, by rw [Int.tmod_eq_emod_of_nonneg (by omega), ← Int.natCast_emod], Nat.mod_lt _ (by omega)⟩
   have hm0 : ((nc : Int) == 0) = false := by rw [beq_eq_false_iff_ne]; omega
   have hjn' : (j : Int) < (nc : Int) := by omega
   obtain ⟨gm, hgm⟩ := own_at0 ho3 (show 0 < nc by omega)
   subst hgm
   obtain ⟨x, hx⟩ : ∃ x, cs[j]? = some x := ⟨_, List.getElem?_eq_getElem (by rw [← HN.out.2.1]; exact hjn)⟩
   obtain ⟨r, hr, hr4⟩ : ∃ r : Nat, (s7 : Int).tmod 4 = (r : Int) ∧ r < 4 := ⟨s7 % 4, by rw [Int.tmod_eq_emod_of_nonneg (by omega)]; omega, by omega⟩
   have hr4' : (r : Int) < 4 := by omega
   have mp := Lib.hid (fun W => (show Calls Tryz.prog 35 #[.int .i64 9] W _ from rPublic8_q 9 (by omega) W))
   have b0 : w4.cell? ⟨g, 2, none⟩ = some (Value.slice (some ⟨gm, 0, none⟩) nc d3) := k1.cell 2
   go_upto_region 22 with fail
   clear b0
   have hbd : Below w4.heap.size w4 w4.drew := (Below.refl _ _).drew
   replace ho1 := ho1.below hbd
   replace ho2 := ho2.below hbd
   replace ho3 := ho3.below hbd
   replace ho4 := ho4.below hbd
   replace k1 := k1.below hbd k1.lt
   replace k2 := k2.below hbd k2.lt
   replace hB := below_then hB hbd
   clear hbd
   refine region_here (fun Z : World => Z.cell? ⟨g, 2, none⟩ = some (Value.slice (some ⟨gm, 0, none⟩) nc d3)) 16 (by kernel_rfl) (k1.cell 2) (fun hHeld => ?_)
   generalize w4.drew = V at *
   refine tkT 0 rfl ?_
   refine tkT 1 rfl ?_
   refine tkT 2 rfl ?_
   refine tkT 3 rfl ?_
   refine tkT 4 rfl ?_
   refine tkT 5 rfl ?_
   refine tkT 6 rfl ?_
   refine tkT 7 rfl ?_
   refine tkT 8 rfl ?_
   refine tkT 11 rfl ?_
   refine tkT 12 rfl ?_
   refine tkO 9 rfl fun K hK => ?_
   go_simp
   go_at_call 35
   refine (mp.out _).mono ?_
   rintro e wa ⟨rfl, hww⟩
   obtain rfl := hww.symm
   (try go_wp2_with fail)
   refine hK.out _ _ ?_ (fun hHeld9 => ?_)
   ·exact hHeld
   clear hK K
   try simp only [Act.put, pq1, pq2, pq3]
   refine tkO 10 rfl fun K hK => ?_
   go_simp
   first | refine alloc_drew ?_ | refine alloc_here ?_
   intro wz kz hbz
   obtain ⟨v, e14, hv⟩ := four_cell kz ⟨by omega, by have := gP_small 9 (by omega); omega⟩ hr4
   have HV := Lib.hid hv
   clear hv
   replace ho1 := ho1.below hbz
   replace ho2 := ho2.below hbz
   replace ho3 := ho3.below hbz
   replace ho4 := ho4.below hbz
   replace k1 := k1.below hbz k1.lt
   replace k2 := k2.below hbz k2.lt
   replace hB := below_then hB hbz
   refine hK.out _ _ ?_ (fun hHeld10 => ?_)
   ·exact cell_b hbz hHeld9
   clear hK K
   try simp only [Act.put, pq1, pq2, pq3]
   refine tkT 13 rfl ?_
   refine tkO 14 rfl fun K hK => ?_
   go_simp
   refine hK.out _ _ ?_ (fun hHeld14 => ?_)
   ·exact hHeld10
   clear hK K
   try simp only [Act.put, pq1, pq2, pq3]
   refine tkT 15 rfl ?_
   refine tkK 16 rfl fun K hK => ?_
   have f5 := OwnL.frozenAt ho3 HN.out.2.1 (j)
   have b5 := OwnL.cellAt encI_len ho3 hx (k := 0) rfl
   rw [Nat.add_zero, Nat.mul_one] at b5
   go_simp
   have hgs : wz.grownBy (wz.setCell ⟨gm, j, none⟩ (.int .i64 v)) (some gm) := grown_set (grown_refl wz (some gm)) _ _
   replace ho1 := OwnL.kept ho1 hgs (rows_apart ho1 ho3 (by decide))
   replace ho2 := OwnL.kept ho2 hgs (rows_apart ho2 ho3 (by decide))
   replace ho4 := OwnL.kept ho4 hgs (rows_apart ho4 ho3 (by decide))
   replace k1 := k1.grown hgs (own_ty ho3 k1 (by decide))
   replace k2 := k2.grown hgs (own_ty ho3 k2 (by decide))
   replace hB := hB.grown hgs hB.size (own_high ho3)
   have ho9 := OwnL.changed encI_len ho3 HN.out.2.1 hx (k := 0) (x' := v) (u := .int .i64 v) (by omega) (by rfl)
   rw [Nat.add_zero, Nat.mul_one] at ho9
   clear ho3
   have ho3 := ho9
   clear ho9
   obtain ⟨u5, hu5⟩ : ∃ Z, Z = wz.setCell ⟨gm, j, none⟩ (.int .i64 v) := ⟨_, rfl⟩
   rw [← hu5] at ho1 ho2 ho3 ho4 k1 k2 hB ⊢
   clear hu5 hgs f5 b5
   refine hK.out _ _ ?_
   clear hK K
   try simp only [Act.put]
   refine wpAny_done (by kernel_rfl) ?_ _
   have x0 : _ = some (Value.int .i64 xe) := k1.cell 0
   have x1 : _ = some (Value.slice B1 nm d1) := k1.cell 1
   have x2 : _ = some (Value.slice (some ⟨gm, 0, none⟩) nc d3) := k1.cell 2
   have x3 : _ = some (Value.slice B4 np d4) := k1.cell 3
   have x4 : _ = some (Value.slice B2 nl d2) := k1.cell 4
   have y0 : _ = some (Value.int .i64 0) := k2.cell 0
   have y1 : _ = some (Value.slice none 0 0) := k2.cell 1
   have y2 : _ = some (Value.slice none 0 0) := k2.cell 2
   have y3 : _ = some (Value.slice none 0 0) := k2.cell 3
   have y4 : _ = some (Value.slice none 0 0) := k2.cell 4
   have z0 := k2.frozen 0
   have z1 := k2.frozen 1
   have z2 := k2.frozen 2
   have z3 := k2.frozen 3
   have z4 := k2.frozen 4
   go_wp2_with fail
   have kR : Blk _ (g + 1 + 1) 46 #[(.int .i64 xe), (Value.slice B1 nm d1), (Value.slice (some ⟨gm, 0, none⟩) nc d3), (Value.slice B4 np d4), (Value.slice B2 nl d2)] := (((((k2.set_ 0 (.int .i64 xe)).set_ 1 (Value.slice B1 nm d1)).set_ 2 (Value.slice (some ⟨gm, 0, none⟩) nc d3)).set_ 3 (Value.slice B4 np d4)).set_ 4 (Value.slice B2 nl d2))
   have hgR := (grown_set (grown_set (grown_set (grown_set (grown_set (grown_refl u5 (some (g + 1 + 1))) 0 (.int .i64 xe)) 1 (Value.slice B1 nm d1)) 2 (Value.slice (some ⟨gm, 0, none⟩) nc d3)) 3 (Value.slice B4 np d4)) 4 (Value.slice B2 nl d2))
   have hBF := hB.grown hgR hB.size (fun j e => by cases e; omega)
   refine bodyPost_ret (results_cell_row (p := 4) (ty := 46) rfl _ _ (g + 1 + 1) _ #[(.int .i64 xe), (Value.slice B1 nm d1), (Value.slice (some ⟨gm, 0, none⟩) nc d3), (Value.slice B4 np d4), (Value.slice B2 nl d2)] (0, 0) _ rfl kR Tryz.underlying46 rfl hdr_size) rfl ?_
   have pA := bent_in (P := P) (xe := xe) (ps := ps) ho1 ho3 (ownV1 ho4) ho2 k2 hgR (by rw [HRS.out.2]; exact HRS.out.1.below hBF)
   exact ⟨⟨xe, _, _, _, _⟩, ⟨_, ms, (cs.set j v), ps, ls⟩, rfl, pA, { HSM.out with c1 := by show (cs.set j _).length ≤ 100; rw [List.length_set]; exact HSM.out.c1, c2 := fun y hy => (List.mem_or_eq_of_mem_set hy).elim (HSM.out.c2 y) (fun e => by rw [e]; exact HV.out) }, fun e => absurd (H8.out e) (by omega), hBF⟩
 ·clear hs9
  have a : w4.cell? ⟨g, 3, none⟩ = some (Value.slice B4 np d4) := k1.cell 3
  have hal := below_al (Below.refl w4.heap.size w4) (.cells #[.int .i64 (s7 : Int)] 3)
  have kA := Blk.new w4 3 #[.int .i64 (s7 : Int)]
  obtain ⟨gi, hgi⟩ : ∃ k, k = w4.heap.size := ⟨_, rfl⟩
  have hgi2 : w.heap.size ≤ gi := by rw [hgi]; exact hB.size
  have hoA := ho4.below hal
  obtain ⟨dv, hdv⟩ : ∃ d : V1, d.1 = Value.slice (some ⟨w4.heap.size, 0, none⟩) 1 1 := ⟨⟨_, rfl⟩, rfl⟩
  go_upto_region 27 with (refine wp_append_row (enc := encV1) Tryz.underlying29 ints_info rfl (by decide) (by decide) rfl _ _ rfl dv (by show _ = #[dv.1]; rw [hdv]) (encV1_len _) (encV1_one _) rfl hoA (by rw [World.size_alloc]; rfl) (by rw [HNV.out]; omega) (Nat.le_trans hB.size hal.size) ?_; intro v5 u5 ho5 hg5; replace kA := kA.grown hg5 (own_ty hoA kA (by decide)); replace k1 := (k1.below hal k1.lt).grown hg5 (own_ty hoA (k1.below hal k1.lt) (by decide)); replace k2 := (k2.below hal k2.lt).grown hg5 (own_ty hoA (k2.below hal k2.lt) (by decide)); replace ho1 := OwnL.kept (ho1.below hal) hg5 (rows_apart (ho1.below hal) hoA (by decide)); replace ho2 := OwnL.kept (ho2.below hal) hg5 (rows_apart (ho2.below hal) hoA (by decide)); replace ho3 := OwnL.kept (ho3.below hal) hg5 (rows_apart (ho3.below hal) hoA (by decide)); replace hB := (below_then hB hal).grown hg5 (below_then hB hal).size (own_high hoA); rw [← hgi] at hdv kA; obtain ⟨B5, d5, hv, -⟩ := OwnL.row ho5 encV1_len; rw [List.length_append, List.length_singleton, HNV.out] at hv; subst hv; have f4 := k1.frozen 3; have b4 : u5.cell? ⟨g, 3, none⟩ = some (Value.slice B4 np d4) := k1.cell 3; clear a ho4 hg5 hoA hal hgi)
  replace ho4 := ho5
  clear ho5 f4 b4
  have kA2 := kA.far (p := ⟨g, 3, none⟩) (show gi ≠ g from own_ne kA k1 (by decide)) (.slice B5 (np + 1) d5)
  have hgs := grown_set (grown_refl u5 (some g)) 3 (.slice B5 (np + 1) d5)
  replace ho1 := OwnL.kept ho1 hgs (.inr (Ne.symm (own_ty ho1 k1 (by decide))))
  replace ho2 := OwnL.kept ho2 hgs (.inr (Ne.symm (own_ty ho2 k1 (by decide))))
  replace ho3 := OwnL.kept ho3 hgs (.inr (Ne.symm (own_ty ho3 k1 (by decide))))
  replace ho4 := OwnL.kept ho4 hgs (.inr (Ne.symm (own_ty ho4 k1 (by decide))))
  replace k2 := k2.grown hgs (fun e => by have := Option.some.inj e; omega)
  replace hB := hB.grown hgs hB.size (fun j e => by cases e; exact hgB)
  replace k1 : Blk (u5.setCell ⟨g, 3, none⟩ (.slice B5 (np + 1) d5)) g 46 #[(.int .i64 xe), (Value.slice B1 nm d1), (Value.slice B3 nc d3), (.slice B5 (np + 1) d5), (Value.slice B2 nl d2)] := k1.set_ 3 (.slice B5 (np + 1) d5)
  obtain ⟨w5, hw⟩ : ∃ w2, w2 = u5.setCell ⟨g, 3, none⟩ (.slice B5 (np + 1) d5) := ⟨_, rfl⟩
  rw [← hw] at ho1 ho2 ho3 ho4 k1 k2 hB kA2 ⊢
  clear hw hgs
  have x0 : _ = some (Value.int .i64 xe) := k1.cell 0
  have x1 : _ = some (Value.slice B1 nm d1) := k1.cell 1
  have x2 : _ = some (Value.slice B3 nc d3) := k1.cell 2
  have x3 : _ = some (Value.slice B5 (np + 1) d5) := k1.cell 3
  have x4 : _ = some (Value.slice B2 nl d2) := k1.cell 4
  have y0 : _ = some (Value.int .i64 0) := k2.cell 0
  have y1 : _ = some (Value.slice none 0 0) := k2.cell 1
  have y2 : _ = some (Value.slice none 0 0) := k2.cell 2
  have y3 : _ = some (Value.slice none 0 0) := k2.cell 3
  have y4 : _ = some (Value.slice none 0 0) := k2.cell 4
  have z0 := k2.frozen 0
  have z1 := k2.frozen 1
  have z2 := k2.frozen 2
  have z3 := k2.frozen 3
  have z4 := k2.frozen 4
  go_wp2_with fail
  have kR : Blk _ (g + 1 + 1) 46 #[(.int .i64 xe), (Value.slice B1 nm d1), (Value.slice B3 nc d3), (.slice B5 (np + 1) d5), (Value.slice B2 nl d2)] := (((((k2.set_ 0 (.int .i64 xe)).set_ 1 (Value.slice B1 nm d1)).set_ 2 (Value.slice B3 nc d3)).set_ 3 (.slice B5 (np + 1) d5)).set_ 4 (Value.slice B2 nl d2))
  have hgR := (grown_set (grown_set (grown_set (grown_set (grown_set (grown_refl w5 (some (g + 1 + 1))) 0 (.int .i64 xe)) 1 (Value.slice B1 nm d1)) 2 (Value.slice B3 nc d3)) 3 (.slice B5 (np + 1) d5)) 4 (Value.slice B2 nl d2))
  have hBF := hB.grown hgR hB.size (fun j e => by cases e; omega)
  refine bodyPost_ret (results_cell_row (p := 4) (ty := 46) rfl _ _ (g + 1 + 1) _ #[(.int .i64 xe), (Value.slice B1 nm d1), (Value.slice B3 nc d3), (.slice B5 (np + 1) d5), (Value.slice B2 nl d2)] (0, 0) _ rfl kR Tryz.underlying46 rfl hdr_size) rfl ?_
  have pA := bent_in (P := P) (xe := xe) (ps := (ps ++ [[(s7 : Int)]])) ho1 ho3 (ownV1 ho4) ho2 k2 hgR (by rw [List.map_append, HRS.out.2]; show RowsA P _ (vs ++ [dv.1]) _; rw [hdv]; exact (HRS.out.1.below hBF).snoc (kA2.grown hgR (fun e => own_ne2 kA2 k2 (by decide) (Option.some.inj e))) (fun hb => by have := hP gi hb; omega))
  exact ⟨⟨xe, _, _, _, _⟩, ⟨_, ms, cs, (ps ++ [[(s7 : Int)]]), ls⟩, rfl, pA, { HSM.out with p1 := by show (ps ++ [[(s7 : Int)]]).length ≤ 100; rw [List.length_append, ← HN.out.2.2.1]; show np + 1 ≤ 100; omega, p2 := fun l hl => (List.mem_append.1 hl).elim (HSM.out.p2 l) (fun h => by rw [List.mem_singleton.1 h]; show 1 ≤ 100; omega), p3 := fun l hl => (List.mem_append.1 hl).elim (HSM.out.p3 l) (fun h x hx => by rw [List.mem_singleton.1 h] at hx; rw [List.mem_singleton.1 hx]; exact ⟨by omega, by omega⟩) }, fun e => absurd (H8.out e) (by omega), hBF⟩
 ·clear hs9
  have f1 := k1.frozen 1
  have b1 : _ = some (Value.slice B1 nm d1) := k1.cell 1
  go_upto_region 27 with fail
  clear f1 b1
  have hgs := grown_set (grown_refl w4 (some g)) 1 (.slice none 0 0)
  replace ho1 := OwnL.kept ho1 hgs (.inr (Ne.symm (own_ty ho1 k1 (by decide))))
  replace ho2 := OwnL.kept ho2 hgs (.inr (Ne.symm (own_ty ho2 k1 (by decide))))
  replace ho3 := OwnL.kept ho3 hgs (.inr (Ne.symm (own_ty ho3 k1 (by decide))))
  replace ho4 := OwnL.kept ho4 hgs (.inr (Ne.symm (own_ty ho4 k1 (by decide))))
  replace k2 := k2.grown hgs (fun e => by have := Option.some.inj e; omega)
  replace hB := hB.grown hgs hB.size (fun j e => by cases e; exact hgB)
  replace k1 : Blk (w4.setCell ⟨g, 1, none⟩ (.slice none 0 0)) g 46 #[(.int .i64 xe), (.slice none 0 0), (Value.slice B3 nc d3), (Value.slice B4 np d4), (Value.slice B2 nl d2)] := k1.set_ 1 (.slice none 0 0)
  obtain ⟨w5, hw⟩ : ∃ w2, w2 = w4.setCell ⟨g, 1, none⟩ (.slice none 0 0) := ⟨_, rfl⟩
  rw [← hw] at ho1 ho2 ho3 ho4 k1 k2 hB ⊢
  clear hw hgs
  have hoN := OwnL.nil_ encM 61 3 w.heap.size w5
  have x0 : _ = some (Value.int .i64 xe) := k1.cell 0
  have x1 : _ = some (Value.slice none 0 0) := k1.cell 1
  have x2 : _ = some (Value.slice B3 nc d3) := k1.cell 2
  have x3 : _ = some (Value.slice B4 np d4) := k1.cell 3
  have x4 : _ = some (Value.slice B2 nl d2) := k1.cell 4
  have y0 : _ = some (Value.int .i64 0) := k2.cell 0
  have y1 : _ = some (Value.slice none 0 0) := k2.cell 1
  have y2 : _ = some (Value.slice none 0 0) := k2.cell 2
  have y3 : _ = some (Value.slice none 0 0) := k2.cell 3
  have y4 : _ = some (Value.slice none 0 0) := k2.cell 4
  have z0 := k2.frozen 0
  have z1 := k2.frozen 1
  have z2 := k2.frozen 2
  have z3 := k2.frozen 3
  have z4 := k2.frozen 4
  go_wp2_with fail
  have kR : Blk _ (g + 1 + 1) 46 #[(.int .i64 xe), (.slice none 0 0), (Value.slice B3 nc d3), (Value.slice B4 np d4), (Value.slice B2 nl d2)] := (((((k2.set_ 0 (.int .i64 xe)).set_ 1 (.slice none 0 0)).set_ 2 (Value.slice B3 nc d3)).set_ 3 (Value.slice B4 np d4)).set_ 4 (Value.slice B2 nl d2))
  have hgR := (grown_set (grown_set (grown_set (grown_set (grown_set (grown_refl w5 (some (g + 1 + 1))) 0 (.int .i64 xe)) 1 (.slice none 0 0)) 2 (Value.slice B3 nc d3)) 3 (Value.slice B4 np d4)) 4 (Value.slice B2 nl d2))
  have hBF := hB.grown hgR hB.size (fun j e => by cases e; omega)
  refine bodyPost_ret (results_cell_row (p := 4) (ty := 46) rfl _ _ (g + 1 + 1) _ #[(.int .i64 xe), (.slice none 0 0), (Value.slice B3 nc d3), (Value.slice B4 np d4), (Value.slice B2 nl d2)] (0, 0) _ rfl kR Tryz.underlying46 rfl hdr_size) rfl ?_
  have pA := bent_in (P := P) (xe := xe) (ps := ps) hoN ho3 (ownV1 ho4) ho2 k2 hgR (by rw [HRS.out.2]; exact HRS.out.1.below hBF)
  exact ⟨⟨xe, _, _, _, _⟩, ⟨_, [], cs, ps, ls⟩, rfl, pA, { HSM.out with m1 := Nat.zero_le _, m2 := fun x hx => by cases hx }, fun e => absurd (H8.out e) (by omega), hBF⟩
 ·clear hs9
  go_upto_region 27 with fail
  have x0 : _ = some (Value.int .i64 xe) := k1.cell 0
  have x1 : _ = some (Value.slice B1 nm d1) := k1.cell 1
  have x2 : _ = some (Value.slice B3 nc d3) := k1.cell 2
  have x3 : _ = some (Value.slice B4 np d4) := k1.cell 3
  have x4 : _ = some (Value.slice B2 nl d2) := k1.cell 4
  have y0 : _ = some (Value.int .i64 0) := k2.cell 0
  have y1 : _ = some (Value.slice none 0 0) := k2.cell 1
  have y2 : _ = some (Value.slice none 0 0) := k2.cell 2
  have y3 : _ = some (Value.slice none 0 0) := k2.cell 3
  have y4 : _ = some (Value.slice none 0 0) := k2.cell 4
  have z0 := k2.frozen 0
  have z1 := k2.frozen 1
  have z2 := k2.frozen 2
  have z3 := k2.frozen 3
  have z4 := k2.frozen 4
  go_wp2_with fail
  have kR : Blk _ (g + 1 + 1) 46 #[(.int .i64 xe), (Value.slice B1 nm d1), (Value.slice B3 nc d3), (Value.slice B4 np d4), (Value.slice B2 nl d2)] := (((((k2.set_ 0 (.int .i64 xe)).set_ 1 (Value.slice B1 nm d1)).set_ 2 (Value.slice B3 nc d3)).set_ 3 (Value.slice B4 np d4)).set_ 4 (Value.slice B2 nl d2))
  have hgR := (grown_set (grown_set (grown_set (grown_set (grown_set (grown_refl w4 (some (g + 1 + 1))) 0 (.int .i64 xe)) 1 (Value.slice B1 nm d1)) 2 (Value.slice B3 nc d3)) 3 (Value.slice B4 np d4)) 4 (Value.slice B2 nl d2))
  have hBF := hB.grown hgR hB.size (fun j e => by cases e; omega)
  refine bodyPost_ret (results_cell_row (p := 4) (ty := 46) rfl _ _ (g + 1 + 1) _ #[(.int .i64 xe), (Value.slice B1 nm d1), (Value.slice B3 nc d3), (Value.slice B4 np d4), (Value.slice B2 nl d2)] (0, 0) _ rfl kR Tryz.underlying46 rfl hdr_size) rfl ?_
  have pA := bent_in (P := P) (xe := xe) (ps := ps) ho1 ho3 (ownV1 ho4) ho2 k2 hgR (by rw [HRS.out.2]; exact HRS.out.1.below hBF)
  exact ⟨⟨xe, _, _, _, _⟩, ⟨_, ms, cs, ps, ls⟩, rfl, pA, HSM.out, fun _ => rfl, hBF⟩

end Go.Proofs.YtkpinmejfdnhbaaGreatDoor
