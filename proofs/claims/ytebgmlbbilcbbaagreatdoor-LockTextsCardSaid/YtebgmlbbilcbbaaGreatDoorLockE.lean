/- Locks: streams of the program. -/
import Derived.Test.YtebgmlbbilcbbaaGreatDoorLockD
import Derived.Test.YtebgmlbbilcbbaaGreatDoorHelds
import Derived.IntWalk
namespace Go.Proofs.YtebgmlbbilcbbaaGreatDoor
open Go.RowKit Go.Shelf
attribute [local go_sem] Oper.semAt_some

/-- An operation in a round is as everywhere. -/
theorem opIn_round {P : Program} {l n : Nat} {o : Oper} (hnd : ∀ c, o.op ≠ .defer c) {K : Act → World → Prop} {Q : Exit → Act → World → Prop} {a : Act} {w : World} (h : Oper.wp P o a w K Q) : o.wpIn (Fence.wide.inRound l) n P a w K Q := by
  refine ⟨fun _ _ => trivial, ?_⟩
  rw [Oper.semAt_eq _ _ _ (fun c => hnd c)]
  unfold Oper.wp at h
  generalize (execOp a.eval o).run P w = r at *
  cases r with
  | ok x w' =>
    have hz : (Fence.wide.inRound l).depth.isSome = true → 1 ≤ n := fun e => by simp [Fence.wide] at e
    cases x <;> simp only [Oper.upon, Oper.uponIn] at h ⊢ <;>
      first
        | exact h
        | exact False.elim h
        | exact ⟨hz, CallsIn.inRound l (callsIn_wide.2 h)⟩
        | (refine ⟨hz, ?_⟩
           intro c cs _
           obtain ⟨v, w', r, s⟩ := h c cs
           exact ⟨v, w', r, stepsIn_wide.2 s⟩)
  | halt x w' => cases x <;> simp only [Oper.upon, Oper.uponIn] at h ⊢ <;> exact h
theorem wpListIn_store_rowTo {P : Program} {l n : Nat} {ops : Array Oper} {rest : List Oper} {o : Oper} {a : Act} {w : World} {Q : Exit → Act → World → Prop} (hgd : o.guard = none) (ty : TypeId) (x y : Operand) (ho : o.op = .store ty x y)
    (hd : o.dst = none) (g : Nat) (cells : Array Value) (hx : a.eval x = .pointer (some ⟨g, 0, none⟩)) (hy : a.eval y = .agg cells)
    (t : TypeId) (old : Array Value) (hg : w.heap[g]? = some (.cells old t (0, 0))) (hi : (P.info? ty).map (·.size) = some cells.size)
    (hold : old.size = cells.size) (h1 : cells.all (·.oneCell') = true)
    (h : wpListIn (Fence.wide.inRound l) n P ops Q rest a (w.setRow g cells)) : wpListIn (Fence.wide.inRound l) n P ops Q (o :: rest) a w :=
  wpListIn_plain hgd fun K hK => opIn_round (by rw [ho]; intro c e; cases e) (wp_store_row ty x y ho g cells hx hy t old hg hi hold h1 (hK _ _ (by rw [hd]; exact h)))

/-- A block of bytes is a row. -/
theorem row8_of {w : World} {g : Nat} {t : TypeId} {h : List UInt8} {n : Nat} (hk : Blk w g t (u8a h)) (hl : h.length = n) : Row enc8 1 w (some ⟨g, 0, none⟩) n n h := by
  refine ⟨hl, Nat.le_refl _, fun _ => ⟨g, 0, rfl, fun j k x u hx hu => ?_⟩⟩
  cases k with
  | zero =>
    obtain rfl := Option.some.inj hu
    rw [Nat.mul_one, Nat.add_zero, Nat.zero_add]
    exact hk.u8A hx
  | succ k => simp [enc8] at hu

theorem new_row_K {K : Act → World → Prop} {a : Act} {W : World} {t : TypeId} {z cs : Array Value} (h : ∀ W' : World, Blk W' W.heap.size t cs → Below W.heap.size W W' → K a W') : K a ((W.alloc (.cells z t)).setRow W.heap.size cs) :=
  h _ ((Blk.new W t z).rowA cs) (below_setRow (below_al (Below.refl _ _) _) (Nat.le_refl _) _)

theorem blocks_any (s : ByteArray) (N : Nat) (w : World) :
    Calls Tryz.prog 178 #[.string s, .int .i64 (N : Int)] w fun e w' => e = .returned (.func (.func 216) #[] #[.pointer (some ⟨w.heap.size + 1, 0, none⟩), .pointer (some ⟨w.heap.size, 0, none⟩)]) ∧ (w.alloc (.cells #[.string s] 9)).alloc (.cells #[.int .i64 (N : Int)] 3) = w' := by
  go_enter Tryz.func178, Tryz.ntmps178
  go_wp2_with fail
  go_ret
  exact ⟨rfl, rfl⟩

/-- What a round must keep: two blocks, and what lay at the beginning. -/
def KeepB (p q B : Nat) (A C : World) : Prop := SameTwo p q A C ∧ Below B A C
theorem keepB_t {p q B : Nat} {A C D : World} (h : KeepB p q B A C) (k : KeepB p q B C D) : KeepB p q B A D := ⟨sameTwo_t h.1 k.1, h.2.trans k.2⟩
theorem keepB_b {p q B : Nat} {w : World} (hp : p < w.heap.size) (hq : q < w.heap.size) (hB : B ≤ w.heap.size) (W : World) (l : Nat) (o o' : Obj) (hl : w.heap.size ≤ l) (h : W.heap[l]? = some o) (h1 : o.isCells = false) (h2 : o.isWalk = false) : KeepB p q B W (W.putObj l o') :=
  ⟨sameTwo_b hp hq W l o o' hl h h1 h2, belowK_b hB W l o o' hl h h1 h2⟩

set_option maxRecDepth 100000 in
set_option maxHeartbeats 2000000 in
theorem blocks_stops (n p q : Nat) (s : ByteArray) (N : Nat) (hs : s.size ≤ 100000) (hN : N ≤ 100) (w0 : World) (hT : Tabs w0) (w : World) (hw : Below w0.heap.size w0 w) (kp : Blk w p 9 #[.string s]) (kq : Blk w q 3 #[.int .i64 (N : Int)]) :
    SeqStopsK Fence.wide n Tryz.prog 216 #[.pointer (some ⟨q, 0, none⟩), .pointer (some ⟨p, 0, none⟩)] (fun k : Nat => #[.agg (u8a (blockL s.data.toList k))]) (KeepB p q w0.heap.size) (fun xs => xs = List.range N) (fun _ => True) N w := fun l J Jx W hbW hJa _ hY h0 => by
  have kpW := kp.below hbW kp.lt
  have kqW := kq.below hbW kq.lt
  have hwW := below_then hw hbW
  refine callsIn_of_wp Tryz.func216 rfl trivial ?_ rfl
  simp only [Tryz.ntmps216, List.size_toArray, List.length_cons, List.length_nil, Nat.reduceAdd, Nat.reduceSub, Array.replicate_succ, Array.replicate_zero, List.push_toArray, List.append_toArray, List.nil_append, List.cons_append]
  have HY := Lib.hid hY
  have HJ := Lib.hid hJa
  have HT := Lib.hid hT
  clear hY hJa kp kq hT hw hbW
  have c2 : W.cell? ⟨q, 0, none⟩ = some (.int .i64 (N : Int)) := kqW.cell 0
  gi_wp2_with fail
  clear c2
  gi_loopw [6] (fun s6 wr => ∃ k : Nat, k ≤ N ∧ s6 = .int .i64 (k : Int) ∧ J (List.range k) wr ∧ Blk wr p 9 #[.string s] ∧ Blk wr q 3 #[.int .i64 (N : Int)] ∧ Below w0.heap.size w0 wr) (fun s6 _ => N - (intOf s6).toNat)
  case atStart => exact ⟨0, Nat.zero_le _, rfl, h0, kpW, kqW, hwW⟩
  case round =>
    obtain ⟨k, hk, rfl, hj, k1, k2, hB⟩ := hrel
    by_cases hlt : k < N
    · have hlt' : (k : Int) < (N : Int) := by omega
      have hjd : J (List.range k) wr.drew := HJ.out _ _ _ none hj (grown_of_below (Below.refl _ _).drew none) (fun r e => by cases e)
      have k1d : Blk wr.drew p 9 #[.string s] := k1
      have k2d : Blk wr.drew q 3 #[.int .i64 (N : Int)] := k2
      have hBd := hB.drew
      have c1 : wr.drew.cell? ⟨p, 0, none⟩ = some (.string s) := k1.cell 0
      have hds : (decS k).size ≤ 20 := decS_int (by omega)
      have m1 : Hid (RetT 85 #[.int .i64 (k : Int)] (.string (decS k))) := Lib.hid (fun W hW => itoa_nat k W (by omega) hW.p)
      obtain ⟨h, hh⟩ : ∃ h, h = blockL s.data.toList k := ⟨_, rfl⟩
      have m2 : Hid (RetT 92 #[.string ((s ++ ⟨#[47]⟩) ++ decS k)] (.agg (u8a h))) := Lib.hid (fun W hW => by
        have hsz : ((s ++ ⟨#[47]⟩) ++ decS k).size = s.size + 1 + (decS k).size := by rw [ByteArray.size_append, ByteArray.size_append]; rfl
        have := Sum_any ((s ++ ⟨#[47]⟩) ++ decS k) W (by rw [hsz]; omega) hW.k hW.f
        have e : ((s ++ (⟨#[47]⟩ : ByteArray)) ++ decS k).data.toList = s.data.toList ++ 47 :: Lib.decDigits k := by
          rw [ByteArray.data_append, ByteArray.data_append, Array.toList_append, Array.toList_append, decS_list, List.append_assoc]; rfl
        rw [e] at this
        rw [hh]; exact this)
      have z1 : ¬ 9223372036854775807 < s.size + 1 := by omega
      have z2 : ¬ 9223372036854775807 < s.size + 1 + (decS k).size := by omega
      have HH := Lib.hid hh
      generalize decS k = dq at m1 m2 z2 hds
      clear hj k1 k2 hB hh
      gi_wp2_with fail
      gi_region_with (first
        | ((refine ⟨trivial, fun hz => by simp [Fence.wide] at hz, ?_⟩); gi_at_call 85; (with_reducible refine (callsIn_wide.2 (m1.out _ ?_)).mono ?_); (exact HT.out.below hBd); rintro e wa ⟨rfl, hba⟩; have c1a := cell_b hba c1)
        | ((refine ⟨trivial, fun hz => by simp [Fence.wide] at hz, ?_⟩); gi_at_call 92; (with_reducible refine (callsIn_wide.2 (m2.out _ ?_)).mono ?_); (exact HT.out.below (below_then hBd hba)); rintro e wb ⟨rfl, hbb⟩; have hjb := HJ.out _ _ _ none (HJ.out _ _ _ none hjd (grown_of_below hba none) (fun r e => by cases e)) (grown_of_below hbb none) (fun r e => by cases e); obtain ⟨fn, tmps, assign, body, hy, hR⟩ := HY.out (List.range k) k wb hjb (by rw [List.length_range]; exact hlt); rw [← HH.out] at hy)
        | (refine ⟨fun hz => by simp [Fence.wide] at hz, ?_⟩; refine hR.mono ?_; intro e W3 he; obtain ⟨bb, rfl, HE⟩ := yield_bool he; clear he))
      all_goals
        have k1b := (k1d.below hba k1d.lt).below hbb (k1d.below hba k1d.lt).lt
        have k2b := (k2d.below hba k2d.lt).below hbb (k2d.below hba k2d.lt).lt
        have hBb := below_then (below_then hBd hba) hbb
        clear hy
        rcases HE.out with ⟨rfl, hJ3, hK3⟩ | ⟨rfl, hJx3⟩
        · clear HE
          gi_wp2_with fail
          go_roundw
          case rel =>
            refine ⟨k + 1, by omega, by go_num, ?_, hK3.1.1.trans k1b, hK3.1.2.trans k2b, hBb.trans hK3.2⟩
            rw [List.range_succ]; exact hJ3
          case measure => simp [intOf]; omega
        · clear HE
          gi_wp2_with fail
          refine bodyPost_ret (results_none rfl _ _ _) rfl ?_
          exact ⟨⟨_, rfl⟩, .inr ⟨_, trivial, hJx3⟩⟩
    · obtain rfl : k = N := by omega
      gi_wp2_with fail
      go_end0
      exact ⟨⟨_, rfl⟩, .inl ⟨_, rfl, hj⟩⟩

theorem rf_held {α : Type} {enc : α → Value} {F : Fence} {n : Nat} {P : Program} {g : Operand} {p0 : Tmp} {assign body : Code} {Q : Exit → Act → World → Prop} {a : Act} {w : World}
    (hro : F.round = none) (h1 : 1 ≤ n) {gf : Nat} {lb : Array Value} (hg : a.eval g = .func (.func gf) #[] lb) (hFg : F.fn gf) (eg : ∀ args w, (callFunc gf args).run P w = .ok (.enter gf args) w)
    {Kp : World → World → Prop} {S Sp : List α → Prop} {N : Nat} {w0 : World} (hseq : SeqStopsK F (n - 1) P gf lb (fun x => #[enc x]) Kp S Sp N w0)
    (hKt : ∀ {A B C : World}, Kp A B → Kp B C → Kp A C) (hKb : ∀ (W : World) (l : Nat) (o o' : Obj), w.heap.size ≤ l → W.heap[l]? = some o → o.isCells = false → o.isWalk = false → Kp W (W.putObj l o')) (hb0 : Below w0.heap.size w0 w)
    (I : List α → World → Prop) (hI : OwnFrom w.heap.size I) (h0 : I [] w) (Ax : α → Act → World → Prop) (hAx : ∀ x a', OwnFrom w.heap.size (fun (_ : Unit) W => Ax x a' W))
    (hassign : ∀ (l : Nat) (pre : List α) (x : α) (W : World) (K : Act → World → Prop), I pre W → (∀ a' W', KeepsFrom w.heap.size W W' → Kp W W' → I pre W' → Ax x a' W' → K a' W') →
      assign.wpIn (F.inRound l) (n - 1 - 1) P (Exit.then K (fun _ _ _ => False)) { tmps := a.tmps.setIfInBounds p0 (enc x), defers := [] } W)
    (hbody : ∀ (l : Nat) (pre : List α) (x : α) (a' : Act) (W : World), I pre W → Ax x a' W → pre.length < N → body.wpIn (F.inRound l) (n - 1 - 1) P (ownPostG w.heap.size Kp I (fun _ _ _ => False) (pre ++ [x]) W) a' W)
    (hdone : ∀ (D : Nat) (xs : List α) (W : World), w.heap.size ≤ D → S xs → I xs W → W.heap[D]? = some (.deferred (some [])) → Q .normal { a with defers := { target := .collected D, args := #[] } :: a.defers } W) :
    (Code.rangeFunc g #[p0] assign body).wpIn F n P Q a w :=
  wpIn_rangeFunc_ownH hro h1 hg hFg eg hseq hKt hKb hb0 (fun _ => rfl) I (fun _ _ _ => False) hI (fun _ _ _ _ _ hs _ _ => hs) h0 Ax hAx
    (fun l pre x W K hi hK => by have := hassign l pre x W K hi hK; simpa using this) (fun l pre x a' W _ _ hi ha hl => hbody l pre x a' W hi ha hl) hdone (fun _ _ _ _ _ _ h _ => h.elim)

set_option maxRecDepth 100000 in
set_option maxHeartbeats 4000000 in
theorem Stream_q (s : ByteArray) (n : Nat) (hs : s.size ≤ 100000) (hn : n ≤ 300) : RetT 152 #[.string s, .int .i64 (n : Int)] (.string (strB (streamL s.data.toList n))) := by
  intro w hT
  by_cases h0 : n = 0
  · subst h0
    have e : strB (streamL s.data.toList 0) = ⟨#[]⟩ := by
      have : streamL s.data.toList 0 = [] := List.eq_nil_of_length_eq_zero (stream_len _ _)
      rw [this]; rfl
    rw [e]
    go_enter Tryz.func152, Tryz.ntmps152
    go_wp2_with fail
    go_ret
    exact ⟨rfl, Below.refl _ _⟩
  obtain ⟨L, hL⟩ : ∃ L, L = s.data.toList := ⟨_, rfl⟩
  obtain ⟨r, hr⟩ : ∃ r, r = streamL L n := ⟨_, rfl⟩
  obtain ⟨N, hN⟩ : ∃ N, N = (n + 31) / 32 := ⟨_, rfl⟩
  have HR : Hid (r = (blocksL L N).take n) := Lib.hid (by rw [hr, hN]; rfl)
  rw [← hL, ← hr]
  have HLS := Lib.hid hL
  have HT := Lib.hid hT
  have hN10 : N ≤ 10 := by omega
  have hn1 : ¬ (n : Int) < 1 := by omega
  have hn2 : ¬ 1048576 < (n : Int) := by omega
  obtain ⟨M, hM, hM2⟩ : ∃ M : Nat, (n : Int) + 32 = (M : Int) ∧ M ≤ 400 := ⟨n + 32, by omega, by omega⟩
  obtain ⟨M1, hM1, hM12⟩ : ∃ M1 : Nat, (n : Int) + 31 = (M1 : Int) ∧ N = M1 / 32 := ⟨n + 31, by omega, hN⟩
  have e1 : (M1 : Int).tdiv 32 = (N : Int) := by rw [Int.tdiv_eq_ediv_of_nonneg (by omega)]; omega
  have e2 : (M1 : Int) / 32 = (N : Int) := by omega
  have hnN : n ≤ 32 * N := by omega
  have hnM : n ≤ M := by omega
  have hmk := make_u8c M (by omega)
  clear hL hr hN hM12 hT h0
  refine (callsIn_wide (n := 4)).1 ?_
  refine callsIn_of_wp_marks Tryz.func152 rfl trivial ?_ rfl
  refine wpIn_wide.2 ?_
  simp only [Tryz.ntmps152, List.size_toArray, List.length_cons, List.length_nil, Nat.reduceAdd, Nat.reduceSub, Array.replicate_succ, Array.replicate_zero, List.push_toArray, List.append_toArray, List.nil_append, List.cons_append]
  go_upto_region 4 with fail
  refine name2p ?_
  intro W0 k1 k2 hB
  obtain ⟨B, hBe⟩ : ∃ B, B = w.heap.size := ⟨_, rfl⟩
  rw [← hBe] at k1 k2 ⊢
  have hgB : w.heap.size ≤ B := by omega
  clear hBe hmk
  have z2 := k2.lt
  go_wp2_with fail
  refine (blocks_any s N _).mono ?_
  rintro e w4 ⟨rfl, rfl⟩
  go_wp2_with fail
  obtain ⟨p, hp⟩ : ∃ p, p = W0.heap.size := ⟨_, rfl⟩
  have kp := (Blk.new W0 9 #[.string s]).alloc (.cells #[.int .i64 (N : Int)] 3)
  have kq := Blk.new (W0.alloc (.cells #[.string s] 9)) 3 #[.int .i64 (N : Int)]
  rw [World.size_alloc] at kq
  have hbb : Below W0.heap.size W0 ((W0.alloc (.cells #[.string s] 9)).alloc (.cells #[.int .i64 (N : Int)] 3)) := below_al (below_al (Below.refl _ _) _) _
  replace k1 := k1.below hbb k1.lt
  replace k2 := k2.below hbb k2.lt
  replace hB := below_then hB hbb
  generalize ((W0.alloc (.cells #[.string s] 9)).alloc (.cells #[.int .i64 (N : Int)] 3)) = W4 at k1 k2 kp kq hB ⊢
  rw [← hp] at kp kq z2 ⊢
  clear hbb hp
  have hpl := kp.lt
  have hql := kq.lt
  have hwl := hB.size
  refine (wpIn_wide (n := 4)).1 ?_
  refine rf_held (enc := fun k : Nat => .agg (u8a (blockL L k))) (Kp := KeepB p (p + 1) w.heap.size) (S := fun xs => xs = List.range N) (Sp := fun _ => True) (N := N) (w0 := W4) rfl (by omega) (gf := 216) (lb := #[.pointer (some ⟨p + 1, 0, none⟩), .pointer (some ⟨p, 0, none⟩)]) rfl trivial (enters_of Tryz.func216 (by kernel_rfl) rfl)
    (by have := blocks_stops (4 - 1) p (p + 1) s N hs (by omega) w HT.out W4 hB kp kq; rw [← HLS.out] at this; exact this) keepB_t (keepB_b hpl hql hwl) (Below.refl _ _)
    (fun pre W => ∃ v : Value, Blk W (B + 1) 22 #[v] ∧ Own8 B W v (pre.flatMap (blockL L)) ∧ Blk W p 9 #[.string s] ∧ Blk W (p + 1) 3 #[.int .i64 (N : Int)] ∧ Below w.heap.size w W)
    ?own ?start (fun x a' W => ∃ b6, a' = { tmps := #[.string s, .int .i64 (n : Int), undef, undef, .string ⟨#[]⟩, .pointer (some ⟨B + 1, 0, none⟩), .pointer (some ⟨b6, 0, none⟩), .int .i64 (n : Int), .bool false, .bool false, .int .i64 (n : Int), .bool false, .bool false, .int .i64 (n : Int), .int .i64 (M : Int), .slice (some ⟨B, 0, none⟩) 0 M, .string s, .int .i64 (n : Int), .int .i64 (M1 : Int), .int .i64 (N : Int), .func (.func 216) #[] #[.pointer (some ⟨p + 1, 0, none⟩), .pointer (some ⟨p, 0, none⟩)], .agg (u8a (blockL L x)), undef, undef, undef, undef, undef, undef, undef], defers := [] } ∧ Blk W b6 71 (u8a (blockL L x))) ?ax ?assign ?body ?done
  case own =>
    rintro pre A' B' row ⟨v, j1, ho, j2, j3, hb⟩ hg hr
    have hr' := fun r e => (hr r e).2
    exact ⟨v, blk_kept j1 hg hr', own_keptL ho hg hr', blk_kept j2 hg hr', blk_kept j3 hg hr', ownFrom_below (β := List Nat) (Nat.le_refl _) (by omega) [] A' B' row hb hg hr⟩
  case start =>
    exact ⟨_, k2, Own8.fresh k1 (Nat.le_refl _) (by omega), kp, kq, hB⟩
  case ax =>
    rintro x a' _ A' B' row ⟨b6, ha, hk⟩ hg hr
    exact ⟨b6, ha, blk_kept hk hg (fun r e => (hr r e).2)⟩
  case assign =>
    rintro l pre x W K ⟨v, j1, ho, j2, j3, hb⟩ hK
    have hsz2 : (u8a (blockL L x)).size = 32 := u8a_len (block_len _ _)
    simp only [List.setIfInBounds_toArray, List.set_cons_zero, List.set_cons_succ]
    gi_wp2_with (refine wpListIn_store_rowTo rfl 71 _ _ rfl rfl _ (u8a (blockL L x)) rfl rfl _ _ (Blk.new _ _ _) (by rw [hsz2]; kernel_rfl) (by rw [hsz2]; rfl) (u8a_one _) ?_)
    refine new_row_K ?_
    intro W' k6 hnb
    exact hK _ W' ((keeps_below hnb).from _) ⟨⟨hnb.block p j2.lt, hnb.block (p + 1) j3.lt⟩, hnb.mono hb.size⟩ ⟨v, j1.below hnb j1.lt, OwnL.below ho hnb, j2.below hnb j2.lt, j3.below hnb j3.lt, below_then hb hnb⟩ ⟨_, rfl, k6⟩
  case body =>
    rintro l pre x a' W ⟨v, j1, ho, j2, j3, hb⟩ ⟨b6, rfl, k6⟩ hlen
    have hod : Own8 B W.drew v (pre.flatMap (blockL L)) := ho
    have k1d : Blk W.drew (B + 1) 22 #[v] := j1
    have k2d : Blk W.drew p 9 #[.string s] := j2
    have k3d : Blk W.drew (p + 1) 3 #[.int .i64 (N : Int)] := j3
    have k6d : Blk W.drew b6 71 (u8a (blockL L x)) := k6
    have hbd := hb.drew
    have c1 : W.drew.cell? ⟨B + 1, 0, none⟩ = some v := k1d.cell 0
    have hpl : (pre.flatMap (blockL L)).length ≤ 1000000 := by
      have : ∀ l : List Nat, (l.flatMap (blockL L)).length = 32 * l.length := fun l => by
        induction l with
        | nil => rfl
        | cons a l ih => rw [List.flatMap_cons, List.length_append, block_len, ih, List.length_cons]; omega
      rw [this]; omega
    have hjl := k1d.lt
    have hBW : B ≤ W.drew.heap.size := by omega
    have n1 := own_ty hod k1d (by decide)
    have n2 := own_ty hod k2d (by decide)
    have n3 := own_ty hod k3d (by decide)
    gi_wp2_with fail
    refine region_round (fun Z : World => Z.cell? ⟨B + 1, 0, none⟩ = some v) 2 (by kernel_rfl) (by kernel_rfl) (by rintro ⟨_, _, h⟩; exact h) c1 (fun hHeld => ?_)
    refine wpAnyS_take [2, 3] (i := 0) (oi := ⟨_, _, _, _, _, _⟩) (v := ?_) (by simp) (by kernel_rfl) rfl (by kernel_rfl) (by kernel_rfl) (by kernel_rfl) (fun _ _ _ h => h) (Or.inl ⟨by rfl, ?_⟩) (by assumption) ?_
    rotate_left
    · (intro w hSw; (try dsimp only at hSw); go_simp; try with_reducible rfl)
    try simp only [Act.put, List.setIfInBounds_toArray, List.set_cons_zero, List.set_cons_succ]
    refine wpAnyS_take [2, 3] (i := 1) (oi := ⟨_, _, _, _, _, _⟩) (v := ?_) (by simp) (by kernel_rfl) rfl (by kernel_rfl) (by kernel_rfl) (by kernel_rfl) (fun _ _ _ h => h) (Or.inl ⟨by rfl, ?_⟩) (by assumption) ?_
    rotate_left
    · (intro w hSw; (try dsimp only at hSw); go_simp; try with_reducible rfl)
    try simp only [Act.put, List.setIfInBounds_toArray, List.set_cons_zero, List.set_cons_succ]
    refine wpAnyS_call (k := 2) (ok := ⟨_, _, _, _, _, _⟩) rfl (by kernel_rfl) (by kernel_rfl) (fun K hK => ?_)
    refine step_append_rows (enc := enc8) (B := B) (l := pre.flatMap (blockL L)) (ds := blockL L x) (A := some ⟨b6, 0, none⟩) (n := 32) (c := 32) Tryz.underlying22 byte_info rfl (by decide) (by decide) rfl (.tmp 22) (.tmp 23) rfl enc8_len enc8_one rfl hod rfl (row8_of k6d (block_len _ _)) hpl (by decide) hBW ?_
    intro v' w3 ho3 hg3
    obtain ⟨A3, c3, hv3, -⟩ := Own8.bdg ho3
    generalize (pre.flatMap (blockL L) ++ blockL L x).length = m3 at hv3
    subst hv3
    have k1s := k1d.grown hg3 n1
    have k2s := k2d.grown hg3 n2
    have k3s := k3d.grown hg3 n3
    have d1 : w3.cell? ⟨B + 1, 0, none⟩ = some v := k1s.cell 0
    have d1f := k1s.frozen 0
    refine hK.out _ _ ?_
    clear hK K
    try simp only [Act.put, List.setIfInBounds_toArray, List.set_cons_zero, List.set_cons_succ]
    refine wpAny_ready (rs := [3]) (by kernel_rfl) (by simp) ?_
    refine AllReady.cons (o := ⟨_, _, _, _, _, _⟩) rfl (fun K hK => ?_) AllReady.nil
    go_simp
    refine hK _ _ ?_
    clear hK K
    try simp only [Act.put, List.setIfInBounds_toArray, List.set_cons_zero, List.set_cons_succ]
    refine wpAny_done (by kernel_rfl) ?_ _
    have hC := own_cells hod
    have hO := own_high hod
    have e2 := blk_ty k2s k1s (by decide)
    have e3 := blk_ty k3s k1s (by decide)
    have k1f := k1s.set_ 0 (Value.slice A3 m3 c3)
    have k2f := kept_set k2s e2 0 (Value.slice A3 m3 c3)
    have k3f := kept_set k3s e3 0 (Value.slice A3 m3 c3)
    have hof := OwnL.kept ho3 (grown_set (grown_refl w3 (some (B + 1))) 0 (Value.slice A3 m3 c3)) (.inr (Ne.symm (own_ty ho3 k1s (by decide))))
    have hex : (pre ++ [x]).flatMap (blockL L) = pre.flatMap (blockL L) ++ blockL L x := by rw [List.flatMap_append, List.flatMap_cons, List.flatMap_nil, List.append_nil]
    rw [← hex] at hof
    have hgr := (hbd.grown hg3 hbd.size (fun k e => Nat.le_trans hgB (hO k e)))
    have hWd : Below w.heap.size W W.drew := (Below.refl _ _).drew
    have hWg : Below w.heap.size W w3 := hWd.grown hg3 hbd.size (fun k e => Nat.le_trans hgB (hO k e))
    exact ⟨(((KeepsOthers.drew W).trans (KeepsOthers.of_grownBy hg3 hC)).trans (KeepsOthers.setCell w3 ⟨B + 1, 0, none⟩ _)).from _, ⟨⟨Eq.trans k2f (Eq.symm j2), Eq.trans k3f (Eq.symm j3)⟩, hWg.setCell (p := ⟨B + 1, 0, none⟩) (by show w.heap.size ≤ B + 1; omega) _⟩, _, k1f, hof, k2f, k3f, below_set hgr (p := ⟨B + 1, 0, none⟩) (by show w.heap.size ≤ B + 1; omega) _⟩
  case done =>
    rintro D xs W hD rfl ⟨v, j1, ho, j2, j3, hb⟩ hdef
    rw [← show blocksL L N = (List.range N).flatMap (blockL L) from rfl] at ho
    obtain ⟨A, c, rfl, hd⟩ := ho.bdg
    rw [blocks_len] at hd j1
    have hlc := hd.cap
    have hnc : n ≤ c := by omega
    have hd2 := hd.first (m := n) hnN
    rw [← HR.out] at hd2
    have c1 : W.cell? ⟨B + 1, 0, none⟩ = some (.slice A (32 * N) c) := j1.cell 0
    have hcv := run_bdg_str hd2
    go_wp2_with fail
    refine ⟨by simp, .inl ⟨_, _, rfl, run_takeDeferred hdef, ?_⟩⟩
    refine ⟨.string (strB r), ?_, rfl, hb.trans (belowK_b (w := w) (Nat.le_refl _) W D _ _ (by omega) hdef rfl rfl)⟩
    simp [results, Tryz.f152, go_sem, strB]

end Go.Proofs.YtebgmlbbilcbbaaGreatDoor
