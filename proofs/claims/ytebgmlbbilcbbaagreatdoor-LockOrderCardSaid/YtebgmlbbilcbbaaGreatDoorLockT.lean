/- Locks: the lists of the laws. -/
import Derived.Test.YtebgmlbbilcbbaaGreatDoorLockP
namespace Go.Proofs.YtebgmlbbilcbbaaGreatDoor
open Go.RowKit
attribute [local go_sem] Oper.semAt_some

/-- Two numbers as cells. -/
def encP (x : Int × Int) : List Value := [.int .i64 x.1, .int .i64 x.2]
theorem encP_len (x : Int × Int) : (encP x).length = 2 := rfl
abbrev PRow (w : World) (A : Option Addr) (n c : Nat) (xs : List (Int × Int)) : Prop := Row encP 2 w A n c xs
/-- The box of a member that was made of a number. -/
def boxN (n i : Nat) : List UInt8 := if 280 < n then List.replicate (80 + n - 280 + i) 0 else [UInt8.ofNat n]
/-- A member that was made of two numbers. -/
def itemC (i : Nat) (x : Int × Int) : C32 := ⟨⟨x.1, shaS (decI (x.2 % 300)), boxN (x.2 % 300).toNat i⟩, sha_len _⟩
theorem itemC_eq {k m : Nat} {x : Int × Int} {bl : List UInt8} (hm : x.2 % 300 = (m : Int)) (hbl : boxN m k = bl) : (itemC k x).1 = ⟨x.1, shaS (decI (m : Int)), bl⟩ := by
  show (⟨x.1, shaS (decI (x.2 % 300)), boxN (x.2 % 300).toNat k⟩ : Com) = _
  rw [hm, Int.toNat_natCast, hbl]
/-- The list that was made of pairs. -/
def listC (xs : List (Int × Int)) : List C32 := (xs.take 15).mapIdx itemC
theorem listC_succ {xs : List (Int × Int)} {k : Nat} {x : Int × Int} (h : xs[k]? = some x) : (xs.take (k + 1)).mapIdx itemC = (xs.take k).mapIdx itemC ++ [itemC k x] := by
  have hk := (List.getElem?_eq_some_iff.1 h).1
  rw [List.take_add_one, h, Option.toList_some, List.mapIdx_concat, List.length_take, Nat.min_eq_left (by omega)]
theorem yieldsIf_build {P : Program} {ops : Array Oper} {S : World → Prop} {op : Oper} {a : Act} (hw : Region.wanted op (yielded ops a.tmps) = true) (t : TypeId) (parts : Array (Nat × Operand)) (ho : op.op = .build t parts)
    (cells : Array Value) (hf : P.built t (parts.map fun (i, x) => (i, a.eval x)).toList = some cells) : YieldsIf P ops S op (.agg cells) a :=
  .inl ⟨hw, fun w _ => by
    unfold execOp
    simp only [ho, Sem.run_bind, run_build w t _ cells hf, Result.andThen_ok]
    rfl⟩
theorem com_sl_fill (parts : List (Nat × Value)) : Tryz.prog.builtSlice 73 1 parts = Instr.fill (fun i => some (i * 34, 34)) (comA comZero) parts := by kernel_rfl
theorem com_slice1 (c : Com) (h : c.hash.length = 32) : Tryz.prog.builtSlice 73 1 [(0, .agg (comA c))] = some (comA c) := by
  have hs := comA_size h
  rw [com_sl_fill, fill_step (v := .agg (comA c)) (off := 0) (size := 34) rfl hs (by rw [comA_size (c := comZero) rfl]; exact Nat.le_refl _)]
  have h1 : List.drop (0 + 34) (comA comZero).toList = [] := List.drop_of_length_le (by rw [Array.length_toList, comA_size (c := comZero) rfl]; exact Nat.le_refl _)
  rw [h1, List.append_nil, List.take_zero, List.nil_append]
  rfl
theorem wp_buildSliceTo {P : Program} {o : Oper} {a : Act} {w : World} {K : Act → World → Prop} {Q : Exit → Act → World → Prop} (t e : TypeId) (len : Nat) (parts : Array (Nat × Operand)) (ho : o.op = .buildSlice t len parts)
    (hu : P.underlying t = some (.slice e)) (cells : Array Value) (hf : P.builtSlice e len (parts.map fun (i, x) => (i, a.eval x)).toList = some cells)
    (h : K (a.put o.dst (.slice (some ⟨w.heap.size, 0, none⟩) len len)) (w.alloc (.cells cells e))) : o.wp P a w K Q := by
  unfold Program.builtSlice at hf
  cases hie : P.info? e with
  | none => simp [hie] at hf
  | some ie =>
    simp only [hie] at hf
    cases hz : ie.zero with
    | none => simp [hz] at hf
    | some z =>
      simp only [hz] at hf
      by_cases hc : len * ie.size > 2 ^ 24 ∨ len * ie.size = 0
      · simp [hc] at hf
      · rw [if_neg hc] at hf
        exact wp_buildSlice t e len parts ho cells ie z hu hie hz (fun h' => hc (Or.inl h')) (fun h' => hc (Or.inr h')) hf h
theorem com_info : (Tryz.prog.info? 73).map (fun i => (i.zero, i.size, i.bytes)) = some (some (.agg (comA comZero)), 34, 56) := by kernel_rfl
theorem box_small {n : Nat} (h : ¬ 280 < n) (i : Nat) : boxN n i = [UInt8.ofNat n] := if_neg h
theorem box_large {n : Nat} (h : 280 < n) (i : Nat) : boxN n i = List.replicate (80 + n - 280 + i) 0 := if_pos h

set_option maxRecDepth 100000 in
set_option maxHeartbeats 4000000 in
theorem list_any (A : Option Addr) (n c : Nat) (xs : List (Int × Int)) (w : World) (hx : PRow w A n c xs) (hr : ∀ x ∈ xs, I64 x.1 ∧ I64 x.2) (hn : n ≤ 9223372036854775807) :
    Calls Tryz.prog 58 #[.slice A n c] w fun e w' => (∃ (B : Option Addr) (d : Nat), e = .returned (.slice B (listC xs).length d) ∧ CRow w' B (listC xs).length d (listC xs)) ∧ Below w.heap.size w w' := by
  have HX := Lib.hid hx
  have HR := Lib.hid hr
  have hlen := hx.len
  clear hx hr
  have hB := Below.refl w.heap.size w
  go_enter Tryz.func58, Tryz.ntmps58
  go_wp2_with fail
  go_loopw [3, 4] (fun s3 s4 wr => ∃ k : Nat, k ≤ n ∧ k ≤ 15 ∧ s4 = .int .i64 (k : Int) ∧ OwnL encC 73 34 w.heap.size wr s3 ((xs.take k).mapIdx itemC) ∧ Below w.heap.size w wr) (fun _ s4 _ => 15 - (intOf s4).toNat)
  case atStart => exact ⟨0, Nat.zero_le _, Nat.zero_le _, rfl, OwnL.nil_ _ _ _ _ _, hB⟩
  case round =>
    obtain ⟨k, hk, hk15, rfl, ho, hB⟩ := hrel
    by_cases hlt : k < n ∧ k < 15
    · obtain ⟨hlt, h15⟩ := hlt
      have hlt' : (k : Int) < (n : Int) := by omega
      have h15' : (k : Int) < 15 := by omega
      obtain ⟨x, hx⟩ : ∃ x, xs[k]? = some x := ⟨_, List.getElem?_eq_getElem (by omega)⟩
      obtain ⟨hr1, hr2⟩ := HR.out x (List.mem_of_getElem? hx)
      obtain ⟨b, o, rfl, hc⟩ := (HX.out.below hB).at_ (by omega)
      have c0 : wr.cell? ⟨b, o + k * 2, none⟩ = some (.int .i64 x.1) := hc k 0 x _ hx rfl
      have c1 : wr.cell? ⟨b, o + k * 2 + 1, none⟩ = some (.int .i64 x.2) := hc k 1 x _ hx rfl
      obtain ⟨m, hm, hm3⟩ : ∃ m : Nat, x.2 % 300 = (m : Int) ∧ m < 300 := ⟨(x.2 % 300).toNat, by omega, by omega⟩
      have m1 : Hid (Ret 54 #[.int .i64 x.2, .int .i64 300] (.int .i64 (m : Int))) := Lib.hid (hm ▸ Mod_q x.2 300 (by omega) (by omega))
      clear hc
      obtain ⟨q, hw8, hcv8⟩ : ∃ q : UInt8, (m : Int) % 256 = (q.toNat : Int) ∧ Hid (q = UInt8.ofNat m) := ⟨UInt8.ofNat m, by rw [UInt8.toNat_ofNat']; omega, Lib.hid rfl⟩
      have hcv : ∀ W : World, (convert 22 9 (.slice (some ⟨W.heap.size, 0, none⟩) 1 1)).run Tryz.prog (W.alloc (.cells #[.int .u8 (q.toNat : Int)] 5)) = .ok (.string ⟨[q].toArray⟩) (W.alloc (.cells #[.int .u8 (q.toNat : Int)] 5)) :=
        fun W => run_bdg_str ((Blk.new W 5 (u8a [q])).bdg rfl (Nat.le_refl _))
      obtain ⟨h32, h32e⟩ : ∃ h32, h32 = shaS (decI (m : Int)) := ⟨_, rfl⟩
      have HL : Hid (h32.length = 32) := Lib.hid (h32e ▸ sha_len _)
      have m2 : Hid (Ret 110 #[.int .i64 (m : Int)] (.string (decIS (m : Int)))) := Lib.hid (Decimal_q (m : Int) (i64_small (by omega) (by omega)))
      have m3 : Hid (Ret 64 #[.string (decIS (m : Int))] (.agg (u8a h32))) := Lib.hid (fun W => by
        have := rSum_any (decIS (m : Int)) W (Nat.le_trans (decIS_size (i64_small (by omega) (by omega))) (by omega))
        rwa [decIS_list, ← h32e] at this)
      generalize decIS (m : Int) = ds at m2 m3
      have HI : ∀ bl, boxN m k = bl → Hid ((itemC k x).1 = ⟨x.1, h32, bl⟩) := fun bl hbl => Lib.hid (by
        rw [h32e]
        exact itemC_eq hm hbl)
      have HS := Lib.hid (listC_succ hx)
      have hKL : ((xs.take k).mapIdx itemC).length = k := by rw [List.length_mapIdx, List.length_take]; omega
      clear hm h32e hx hlen
      go_upto_region 6 with (go_at_call 54; (with_reducible refine (m1.out _).mono ?_); rintro e w1 ⟨rfl, hb1⟩)
      go_upto_region 7 with fail
      have ho1 := (ho.below hb1).below (below_al (Below.refl w1.heap.size w1) (.cells #[.int .u8 (q.toNat : Int)] 5))
      have c01 := cell_b (below_al (Below.refl w1.heap.size w1) (.cells #[.int .u8 (q.toNat : Int)] 5)) (cell_b hb1 c0)
      have hB1 := below_al (below_then hB hb1) (.cells #[.int .u8 (q.toNat : Int)] 5)
      clear c1 hcv
      generalize (w1.alloc (.cells #[.int .u8 (q.toNat : Int)] 5)) = w2 at ho1 c01 hB1 ⊢
      clear ho c0 hb1 hB
      by_cases h280 : 280 < m
      · have h280' : (280 : Int) < (m : Int) := by omega
        obtain ⟨N, hN⟩ : ∃ N : Nat, N = 80 + m - 280 + k := ⟨_, rfl⟩
        have hNi : 80 + (m : Int) - 280 + (k : Int) = (N : Int) := by omega
        obtain ⟨bl, hbl⟩ : ∃ bl : List UInt8, bl = List.replicate N 0 := ⟨_, rfl⟩
        have HY := HI bl (by rw [box_large h280, hbl, hN])
        obtain ⟨cz, hmk, hcv⟩ : ∃ cz : Array Value, (∀ W : World, (Instr.makeSlice 22 (.int .i64 (N : Int)) (.int .i64 (N : Int))).run Tryz.prog W = .ok (.slice (some ⟨W.heap.size, 0, none⟩) N N) (W.alloc (.cells cz 5))) ∧
            ∀ W : World, (convert 22 9 (.slice (some ⟨W.heap.size, 0, none⟩) N N)).run Tryz.prog (W.alloc (.cells cz 5)) = .ok (.string ⟨bl.toArray⟩) (W.alloc (.cells cz 5)) := by
          refine ⟨u8s (List.replicate N 0), fun W => make_u8 N (by omega) W, fun W => ?_⟩
          rw [hbl]
          exact run_bdg_str (bdg_zero N W)
        clear HI hcv8 hbl hN
        go_upto_region 9 with fail
        have ho2 := ho1.below (below_al (Below.refl w2.heap.size w2) (.cells cz 5))
        have c02 := cell_b (below_al (Below.refl w2.heap.size w2) (.cells cz 5)) c01
        have hB2 := below_al hB1 (.cells cz 5)
        clear hmk hcv
        generalize (w2.alloc (.cells cz 5)) = w3 at ho2 c02 hB2 ⊢
        clear ho1 c01 hB1
        have ho3 := ho2.below (Below.refl _ w3).drew
        have c03 := cell_b (Below.refl _ w3).drew c02
        have hB3 := hB2.drew
        refine region_here (fun Z : World => Z.cell? ⟨b, o + k * 2, none⟩ = some (.int .i64 x.1)) 12 (by kernel_rfl) c03 (fun hHeld => ?_)
        refine wpAnyS_take [12, 13] (i := 0) (oi := ⟨_, _, _, _, _, _⟩) (v := ?_) (by simp) (by kernel_rfl) rfl (by kernel_rfl) (by kernel_rfl) (by kernel_rfl) (fun _ _ _ h => h) (Or.inl ⟨by rfl, ?_⟩) (by assumption) ?_
        rotate_left
        · (intro w hSw; (try dsimp only at hSw); go_simp; try with_reducible rfl)
        try simp only [Act.put, List.setIfInBounds_toArray, List.set_cons_zero, List.set_cons_succ]
        refine wpAnyS_take [3, 4, 5, 10, 11, 12, 13] (i := 1) (oi := ⟨_, _, _, _, _, _⟩) (v := ?_) (by simp) (by kernel_rfl) rfl (by kernel_rfl) (by kernel_rfl) (by kernel_rfl) (fun _ _ _ h => h) (Or.inl ⟨by rfl, ?_⟩) (by assumption) ?_
        rotate_left
        · (intro w hSw; (try dsimp only at hSw); go_simp; try with_reducible rfl)
        try simp only [Act.put, List.setIfInBounds_toArray, List.set_cons_zero, List.set_cons_succ]
        refine wpAnyS_take [3, 4, 5, 10, 11, 12, 13] (i := 2) (oi := ⟨_, _, _, _, _, _⟩) (v := ?_) (by simp) (by kernel_rfl) rfl (by kernel_rfl) (by kernel_rfl) (by kernel_rfl) (fun _ _ _ h => h) (Or.inl ⟨by rfl, ?_⟩) (by assumption) ?_
        rotate_left
        · (intro w hSw; (try dsimp only at hSw); go_simp; try with_reducible rfl)
        try simp only [Act.put, List.setIfInBounds_toArray, List.set_cons_zero, List.set_cons_succ]
        refine wpAnyS_take [4, 5, 10, 11, 12, 13] (i := 3) (oi := ⟨_, _, _, _, _, _⟩) (v := ?_) (by simp) (by kernel_rfl) rfl (by kernel_rfl) (by kernel_rfl) (by kernel_rfl) (fun _ _ _ h => h) (Or.inl ⟨by rfl, ?_⟩) (by assumption) ?_
        rotate_left
        · (intro w hSw; (try dsimp only at hSw); go_simp; try with_reducible rfl)
        try simp only [Act.put, List.setIfInBounds_toArray, List.set_cons_zero, List.set_cons_succ]
        refine wpAnyS_take [5, 10, 11, 12, 13] (i := 4) (oi := ⟨_, _, _, _, _, _⟩) (v := ?_) (by simp) (by kernel_rfl) rfl (by kernel_rfl) (by kernel_rfl) (by kernel_rfl) (fun _ _ _ h => h) (Or.inl ⟨by rfl, ?_⟩) (by assumption) ?_
        rotate_left
        · (intro w hSw; (try dsimp only at hSw); go_simp; try with_reducible rfl)
        try simp only [Act.put, List.setIfInBounds_toArray, List.set_cons_zero, List.set_cons_succ]
        refine wpAnyS_take [10, 11, 12, 13] (i := 5) (oi := ⟨_, _, _, _, _, _⟩) (v := ?_) (by simp) (by kernel_rfl) rfl (by kernel_rfl) (by kernel_rfl) (by kernel_rfl) (fun _ _ _ h => h) (Or.inl ⟨by rfl, ?_⟩) (by assumption) ?_
        rotate_left
        · (intro w hSw; (try dsimp only at hSw); go_simp; try with_reducible rfl)
        try simp only [Act.put, List.setIfInBounds_toArray, List.set_cons_zero, List.set_cons_succ]
        refine wpAnyS_take [10, 11, 12, 13] (i := 6) (oi := ⟨_, _, _, _, _, _⟩) (v := ?_) (by simp) (by kernel_rfl) rfl (by kernel_rfl) (by kernel_rfl) (by kernel_rfl) (fun _ _ _ h => h) (Or.inl ⟨by rfl, ?_⟩) (by assumption) ?_
        rotate_left
        · (intro w hSw; (try dsimp only at hSw); go_simp; try with_reducible rfl)
        try simp only [Act.put, List.setIfInBounds_toArray, List.set_cons_zero, List.set_cons_succ]
        refine wpAnyS_take [8, 9, 10, 11, 12, 13] (i := 7) (oi := ⟨_, _, _, _, _, _⟩) (v := ?_) (by simp) (by kernel_rfl) rfl (by kernel_rfl) (by kernel_rfl) (by kernel_rfl) (fun _ _ _ h => h) (Or.inl ⟨by rfl, ?_⟩) (by assumption) ?_
        rotate_left
        · (intro w hSw; (try dsimp only at hSw); go_simp; try with_reducible rfl)
        try simp only [Act.put, List.setIfInBounds_toArray, List.set_cons_zero, List.set_cons_succ]
        refine wpAnyS_one (i := 8) (oi := ⟨_, _, _, _, _, _⟩) rfl (by kernel_rfl) (fun K hK => ?_)
        go_simp
        go_at_call 110
        (with_reducible refine (m2.out _).mono ?_)
        rintro e wa ⟨rfl, hba⟩
        (try go_wp2_with fail)
        refine hK.out _ _ ?_ (fun hHeld8 => ?_)
        · exact cell_b hba hHeld
        clear hK K
        try simp only [Act.put, List.setIfInBounds_toArray, List.set_cons_zero, List.set_cons_succ]
        refine wpAnyS_one (i := 9) (oi := ⟨_, _, _, _, _, _⟩) rfl (by kernel_rfl) (fun K hK => ?_)
        go_simp
        go_at_call 64
        (with_reducible refine (m3.out _).mono ?_)
        rintro e wb ⟨rfl, hbb⟩
        (try go_wp2_with fail)
        refine hK.out _ _ ?_ (fun hHeld9 => ?_)
        · exact cell_b hbb hHeld8
        clear hK K
        try simp only [Act.put, List.setIfInBounds_toArray, List.set_cons_zero, List.set_cons_succ]
        refine wpAnyS_take [11, 12, 13] (i := 10) (oi := ⟨_, _, _, _, _, _⟩) (v := .agg (comA ⟨x.1, h32, bl⟩)) (by simp) (by kernel_rfl) rfl (by kernel_rfl) (by kernel_rfl) (by kernel_rfl) (fun _ _ _ h => h) (yieldsIf_build (by rfl) 73 _ rfl (comA ⟨x.1, h32, bl⟩) (by simp [Act.eval]; exact com_built021 x.1 bl h32 HL.out)) (by assumption) ?_
        try simp only [Act.put, List.setIfInBounds_toArray, List.set_cons_zero, List.set_cons_succ]
        refine wpAnyS_one (i := 11) (oi := ⟨_, _, _, _, _, _⟩) rfl (by kernel_rfl) (fun K hK => ?_)
        rw [if_pos (by rfl)]
        refine wp_buildSliceTo 84 73 1 _ rfl Tryz.underlying84 (comA ⟨x.1, h32, bl⟩) (by simp [Act.eval]; exact com_slice1 ⟨x.1, h32, bl⟩ HL.out) ?_
        refine hK.out _ _ ?_ (fun hHeld11 => ?_)
        · exact cell_b (below_al (Below.refl wb.heap.size wb) _) hHeld9
        clear hK K
        try simp only [Act.put, List.setIfInBounds_toArray, List.set_cons_zero, List.set_cons_succ]
        refine wpAnyS_call (k := 12) (ok := ⟨_, _, _, _, _, _⟩) rfl (by kernel_rfl) (by kernel_rfl) (fun K hK => ?_)
        have hba2 := below_al (Below.refl wb.heap.size wb) (.cells (comA ⟨x.1, h32, bl⟩) 73)
        have ho5 := ((ho3.below hba).below hbb).below hba2
        have hB5 := below_al (below_then (below_then hB3 hba) hbb) (.cells (comA ⟨x.1, h32, bl⟩) 73)
        have hk5 : Blk (wb.alloc (.cells (comA ⟨x.1, h32, bl⟩) 73)) wb.heap.size 73 (encC (itemC k x)).toArray := by
          rw [show encC (itemC k x) = comCells ⟨x.1, h32, bl⟩ from by unfold encC; rw [HY.out]]
          exact Blk.new _ _ _
        refine step_append_rows (enc := encC) (B := w.heap.size) (l := (xs.take k).mapIdx itemC) (ds := [itemC k x]) (A := some ⟨wb.heap.size, 0, none⟩) (n := 1) (c := 1) Tryz.underlying84 com_info (comA_size (c := comZero) rfl) (by decide) (by decide) rfl (.tmp 36) (.tmp 47) rfl encC_len encC_one rfl ho5 rfl (row_new hk5) (by omega) (by decide) hB5.size ?_
        intro v' w' ho' hg'
        refine hK.out _ _ ?_
        clear hK K
        try simp only [Act.put, List.setIfInBounds_toArray, List.set_cons_zero, List.set_cons_succ]
        refine wpAny_take (i := 13) (oi := ⟨_, _, _, _, _, _⟩) (v := ?_) rfl (by kernel_rfl) (by kernel_rfl) (by kernel_rfl) (fun _ _ _ h => h) (Or.inl ⟨by rfl, ?_⟩) ?_
        rotate_left
        · (intro w; go_simp; try with_reducible rfl)
        try simp only [Act.put, List.setIfInBounds_toArray, List.set_cons_zero, List.set_cons_succ]
        refine wpAny_done (by kernel_rfl) ?_ _
        rw [← HS.out] at ho'
        go_wp2_with fail
        go_roundw
        case rel => exact ⟨k + 1, by omega, by omega, by go_num, ho', hB5.grown hg' hB5.size (own_high ho5)⟩
        case measure => simp [intOf]; omega
      · have h280' : ¬ (280 : Int) < (m : Int) := by omega
        obtain ⟨bl, hbl⟩ : ∃ bl : List UInt8, bl = [q] := ⟨_, rfl⟩
        have HY := HI bl (by rw [box_small h280, hbl, hcv8.out])
        rw [← hbl]
        clear HI hcv8 hbl
        go_upto_region 9 with fail
        have ho2 := ho1
        have c02 := c01
        have hB2 := hB1
        clear ho1 c01 hB1
        have ho3 := ho2.below (Below.refl _ w2).drew
        have c03 := cell_b (Below.refl _ w2).drew c02
        have hB3 := hB2.drew
        refine region_here (fun Z : World => Z.cell? ⟨b, o + k * 2, none⟩ = some (.int .i64 x.1)) 12 (by kernel_rfl) c03 (fun hHeld => ?_)
        refine wpAnyS_take [12, 13] (i := 0) (oi := ⟨_, _, _, _, _, _⟩) (v := ?_) (by simp) (by kernel_rfl) rfl (by kernel_rfl) (by kernel_rfl) (by kernel_rfl) (fun _ _ _ h => h) (Or.inl ⟨by rfl, ?_⟩) (by assumption) ?_
        rotate_left
        · (intro w hSw; (try dsimp only at hSw); go_simp; try with_reducible rfl)
        try simp only [Act.put, List.setIfInBounds_toArray, List.set_cons_zero, List.set_cons_succ]
        refine wpAnyS_take [3, 4, 5, 10, 11, 12, 13] (i := 1) (oi := ⟨_, _, _, _, _, _⟩) (v := ?_) (by simp) (by kernel_rfl) rfl (by kernel_rfl) (by kernel_rfl) (by kernel_rfl) (fun _ _ _ h => h) (Or.inl ⟨by rfl, ?_⟩) (by assumption) ?_
        rotate_left
        · (intro w hSw; (try dsimp only at hSw); go_simp; try with_reducible rfl)
        try simp only [Act.put, List.setIfInBounds_toArray, List.set_cons_zero, List.set_cons_succ]
        refine wpAnyS_take [3, 4, 5, 10, 11, 12, 13] (i := 2) (oi := ⟨_, _, _, _, _, _⟩) (v := ?_) (by simp) (by kernel_rfl) rfl (by kernel_rfl) (by kernel_rfl) (by kernel_rfl) (fun _ _ _ h => h) (Or.inl ⟨by rfl, ?_⟩) (by assumption) ?_
        rotate_left
        · (intro w hSw; (try dsimp only at hSw); go_simp; try with_reducible rfl)
        try simp only [Act.put, List.setIfInBounds_toArray, List.set_cons_zero, List.set_cons_succ]
        refine wpAnyS_take [4, 5, 10, 11, 12, 13] (i := 3) (oi := ⟨_, _, _, _, _, _⟩) (v := ?_) (by simp) (by kernel_rfl) rfl (by kernel_rfl) (by kernel_rfl) (by kernel_rfl) (fun _ _ _ h => h) (Or.inl ⟨by rfl, ?_⟩) (by assumption) ?_
        rotate_left
        · (intro w hSw; (try dsimp only at hSw); go_simp; try with_reducible rfl)
        try simp only [Act.put, List.setIfInBounds_toArray, List.set_cons_zero, List.set_cons_succ]
        refine wpAnyS_take [5, 10, 11, 12, 13] (i := 4) (oi := ⟨_, _, _, _, _, _⟩) (v := ?_) (by simp) (by kernel_rfl) rfl (by kernel_rfl) (by kernel_rfl) (by kernel_rfl) (fun _ _ _ h => h) (Or.inl ⟨by rfl, ?_⟩) (by assumption) ?_
        rotate_left
        · (intro w hSw; (try dsimp only at hSw); go_simp; try with_reducible rfl)
        try simp only [Act.put, List.setIfInBounds_toArray, List.set_cons_zero, List.set_cons_succ]
        refine wpAnyS_take [10, 11, 12, 13] (i := 5) (oi := ⟨_, _, _, _, _, _⟩) (v := ?_) (by simp) (by kernel_rfl) rfl (by kernel_rfl) (by kernel_rfl) (by kernel_rfl) (fun _ _ _ h => h) (Or.inl ⟨by rfl, ?_⟩) (by assumption) ?_
        rotate_left
        · (intro w hSw; (try dsimp only at hSw); go_simp; try with_reducible rfl)
        try simp only [Act.put, List.setIfInBounds_toArray, List.set_cons_zero, List.set_cons_succ]
        refine wpAnyS_take [10, 11, 12, 13] (i := 6) (oi := ⟨_, _, _, _, _, _⟩) (v := ?_) (by simp) (by kernel_rfl) rfl (by kernel_rfl) (by kernel_rfl) (by kernel_rfl) (fun _ _ _ h => h) (Or.inl ⟨by rfl, ?_⟩) (by assumption) ?_
        rotate_left
        · (intro w hSw; (try dsimp only at hSw); go_simp; try with_reducible rfl)
        try simp only [Act.put, List.setIfInBounds_toArray, List.set_cons_zero, List.set_cons_succ]
        refine wpAnyS_take [8, 9, 10, 11, 12, 13] (i := 7) (oi := ⟨_, _, _, _, _, _⟩) (v := ?_) (by simp) (by kernel_rfl) rfl (by kernel_rfl) (by kernel_rfl) (by kernel_rfl) (fun _ _ _ h => h) (Or.inl ⟨by rfl, ?_⟩) (by assumption) ?_
        rotate_left
        · (intro w hSw; (try dsimp only at hSw); go_simp; try with_reducible rfl)
        try simp only [Act.put, List.setIfInBounds_toArray, List.set_cons_zero, List.set_cons_succ]
        refine wpAnyS_one (i := 8) (oi := ⟨_, _, _, _, _, _⟩) rfl (by kernel_rfl) (fun K hK => ?_)
        go_simp
        go_at_call 110
        (with_reducible refine (m2.out _).mono ?_)
        rintro e wa ⟨rfl, hba⟩
        (try go_wp2_with fail)
        refine hK.out _ _ ?_ (fun hHeld8 => ?_)
        · exact cell_b hba hHeld
        clear hK K
        try simp only [Act.put, List.setIfInBounds_toArray, List.set_cons_zero, List.set_cons_succ]
        refine wpAnyS_one (i := 9) (oi := ⟨_, _, _, _, _, _⟩) rfl (by kernel_rfl) (fun K hK => ?_)
        go_simp
        go_at_call 64
        (with_reducible refine (m3.out _).mono ?_)
        rintro e wb ⟨rfl, hbb⟩
        (try go_wp2_with fail)
        refine hK.out _ _ ?_ (fun hHeld9 => ?_)
        · exact cell_b hbb hHeld8
        clear hK K
        try simp only [Act.put, List.setIfInBounds_toArray, List.set_cons_zero, List.set_cons_succ]
        refine wpAnyS_take [11, 12, 13] (i := 10) (oi := ⟨_, _, _, _, _, _⟩) (v := .agg (comA ⟨x.1, h32, bl⟩)) (by simp) (by kernel_rfl) rfl (by kernel_rfl) (by kernel_rfl) (by kernel_rfl) (fun _ _ _ h => h) (yieldsIf_build (by rfl) 73 _ rfl (comA ⟨x.1, h32, bl⟩) (by simp [Act.eval]; exact com_built021 x.1 bl h32 HL.out)) (by assumption) ?_
        try simp only [Act.put, List.setIfInBounds_toArray, List.set_cons_zero, List.set_cons_succ]
        refine wpAnyS_one (i := 11) (oi := ⟨_, _, _, _, _, _⟩) rfl (by kernel_rfl) (fun K hK => ?_)
        rw [if_pos (by rfl)]
        refine wp_buildSliceTo 84 73 1 _ rfl Tryz.underlying84 (comA ⟨x.1, h32, bl⟩) (by simp [Act.eval]; exact com_slice1 ⟨x.1, h32, bl⟩ HL.out) ?_
        refine hK.out _ _ ?_ (fun hHeld11 => ?_)
        · exact cell_b (below_al (Below.refl wb.heap.size wb) _) hHeld9
        clear hK K
        try simp only [Act.put, List.setIfInBounds_toArray, List.set_cons_zero, List.set_cons_succ]
        refine wpAnyS_call (k := 12) (ok := ⟨_, _, _, _, _, _⟩) rfl (by kernel_rfl) (by kernel_rfl) (fun K hK => ?_)
        have hba2 := below_al (Below.refl wb.heap.size wb) (.cells (comA ⟨x.1, h32, bl⟩) 73)
        have ho5 := ((ho3.below hba).below hbb).below hba2
        have hB5 := below_al (below_then (below_then hB3 hba) hbb) (.cells (comA ⟨x.1, h32, bl⟩) 73)
        have hk5 : Blk (wb.alloc (.cells (comA ⟨x.1, h32, bl⟩) 73)) wb.heap.size 73 (encC (itemC k x)).toArray := by
          rw [show encC (itemC k x) = comCells ⟨x.1, h32, bl⟩ from by unfold encC; rw [HY.out]]
          exact Blk.new _ _ _
        refine step_append_rows (enc := encC) (B := w.heap.size) (l := (xs.take k).mapIdx itemC) (ds := [itemC k x]) (A := some ⟨wb.heap.size, 0, none⟩) (n := 1) (c := 1) Tryz.underlying84 com_info (comA_size (c := comZero) rfl) (by decide) (by decide) rfl (.tmp 36) (.tmp 47) rfl encC_len encC_one rfl ho5 rfl (row_new hk5) (by omega) (by decide) hB5.size ?_
        intro v' w' ho' hg'
        refine hK.out _ _ ?_
        clear hK K
        try simp only [Act.put, List.setIfInBounds_toArray, List.set_cons_zero, List.set_cons_succ]
        refine wpAny_take (i := 13) (oi := ⟨_, _, _, _, _, _⟩) (v := ?_) rfl (by kernel_rfl) (by kernel_rfl) (by kernel_rfl) (fun _ _ _ h => h) (Or.inl ⟨by rfl, ?_⟩) ?_
        rotate_left
        · (intro w; go_simp; try with_reducible rfl)
        try simp only [Act.put, List.setIfInBounds_toArray, List.set_cons_zero, List.set_cons_succ]
        refine wpAny_done (by kernel_rfl) ?_ _
        rw [← HS.out] at ho'
        go_wp2_with fail
        go_roundw
        case rel => exact ⟨k + 1, by omega, by omega, by go_num, ho', hB5.grown hg' hB5.size (own_high ho5)⟩
        case measure => simp [intOf]; omega
    · have he : listC xs = (xs.take k).mapIdx itemC := by
        unfold listC
        congr 1
        by_cases hkn : k < n
        · rw [show k = 15 by omega]
        · rw [List.take_of_length_le (by omega), List.take_of_length_le (by omega)]
      obtain ⟨A', c', rfl, hrow⟩ := OwnL.row ho encC_len
      have hkl : ((xs.take k).mapIdx itemC).length = k := by rw [List.length_mapIdx, List.length_take]; omega
      rw [hkl] at hrow ⊢
      by_cases hkn : k < n
      · have h1 : (k : Int) < (n : Int) := by omega
        have h2 : ¬ (k : Int) < 15 := by omega
        go_wp2_with fail
        go_ret
        exact ⟨⟨A', c', rfl, hrow⟩, hB⟩
      · have h1 : ¬ (k : Int) < (n : Int) := by omega
        go_wp2_with fail
        go_ret
        exact ⟨⟨A', c', rfl, hrow⟩, hB⟩

end Go.Proofs.YtebgmlbbilcbbaaGreatDoor
