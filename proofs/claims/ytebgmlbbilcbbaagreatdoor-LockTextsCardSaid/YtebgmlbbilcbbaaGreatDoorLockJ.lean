/- Locks: lists of commitments, ordered by the library's sort. -/
import Derived.Test.YtebgmlbbilcbbaaGreatDoorLockI
import Derived.Test.YtebgmlbbilcbbaaGreatDoorShelfSo
import Derived.Shelf.SlSortCmp.InsertionK
import Derived.Shelf.SlSortFuncK.HeapSortK
import Derived.Sort.LotA
namespace Go.Proofs.YtebgmlbbilcbbaaGreatDoor
open Go.RowKit Go.Sort Go.Shelf
attribute [local go_sem] Oper.semAt_some

/-- A commitment with a hash of 32 bytes. -/
abbrev C32 := { c : Com // c.hash.length = 32 }
instance : Inhabited C32 := ⟨⟨comZero, rfl⟩⟩
def encC (c : C32) : List Value := comCells c.1
theorem encC_len (c : C32) : (encC c).length = 34 := comCells_len c.2
theorem encC_one (c : C32) : ∀ v ∈ encC c, v.oneCell' = true := fun v hv => Array.all_eq_true_iff_forall_mem.1 (comA_one c.1) v (by show v ∈ (comCells c.1).toArray; rw [List.mem_toArray]; exact hv)
/-- How commitments are compared. -/
def keyC (x y : C32) : Int := Lib.compareInt x.1.who y.1.who

def sortRen : Go.Shelf.Ren := ⟨fun | 20 => 217 | n => n, fun | 0 => 0 | 3 => 3 | 4 => 4 | 22 => 84 | 24 => 73 | 25 => 167 | n => n, fun n => n⟩
theorem sortLays : Go.Proofs.SlLaysF0.n20 Tryz.prog sortRen := {
  mixed := by kernel_rfl
  f20 := ⟨"slices.insertionSortCmpFunc[sortes/api.Commitment]", by decide +kernel, Tryz.func217.trans (congrArg some (by kernel_rfl))⟩
  t0 := Tryz.underlying0
  a0 := Tryz.isAgg0
  z0 := Tryz.sizeOf0
  v0 := Tryz.zeroValue0
  t3 := Tryz.underlying3
  a3 := Tryz.isAgg3
  z3 := Tryz.sizeOf3
  v3 := Tryz.zeroValue3
  t4 := Tryz.underlying4
  a4 := Tryz.isAgg4
  z4 := Tryz.sizeOf4
  v4 := Tryz.zeroValue4
  t22 := Tryz.underlying84
  a22 := Tryz.isAgg84
  z22 := Tryz.sizeOf84
  v22 := Tryz.zeroValue84
  t25 := Tryz.underlying167
  a25 := Tryz.isAgg167
  z25 := Tryz.sizeOf167
  v25 := Tryz.zeroValue167 }

theorem num_any (c : Com) (hc : c.hash.length = 32) (w : World) : Calls Tryz.prog 112 #[.agg (comA c)] w fun e w' => e = .returned (.int .i64 c.who) ∧ w.alloc (.cells (comA c) 73) = w' := by
  have HC := Lib.hid hc
  clear hc
  go_enter Tryz.func112, Tryz.ntmps112
  go_upto_region 1 with fail
  have k0 : Blk (w.alloc (.cells (comA c) 73)) w.heap.size 73 (comA c) := Blk.new _ _ _
  have c0 : (w.alloc (.cells (comA c) 73)).cell? ⟨w.heap.size, 0, none⟩ = some (.int .i64 c.who) := k0.cell 0
  generalize hw0 : w.alloc (.cells (comA c) 73) = w0 at c0 k0 ⊢
  have HW := Lib.hid hw0
  clear hw0
  go_wp2_with fail
  go_ret
  exact ⟨rfl, HW.out⟩

theorem name2e {P : Program} {code : Code} {Q : Exit → Act → World → Prop} {act : Act} {W : World} {t1 t2 : TypeId} {c1 c2 : Array Value} (d1 d2 : Array Value) (e1 : c1 = d1) (e2 : c2 = d2)
    (h : ∀ W0 : World, Blk W0 W.heap.size t1 d1 → Blk W0 (W.heap.size + 1) t2 d2 → Below W.heap.size W W0 → Hid (W0 = (W.alloc (.cells d1 t1)).alloc (.cells d2 t2)) → code.wp P Q act W0) : code.wp P Q act ((W.alloc (.cells c1 t1)).alloc (.cells c2 t2)) := by
  subst e1 e2
  refine h _ ((Blk.new _ _ _).alloc _) ?_ (below_al (below_al (Below.refl _ _) _) _) (Lib.hid rfl)
  have := Blk.new (W.alloc (.cells c1 t1)) t2 c2
  rwa [World.size_alloc] at this

set_option maxRecDepth 100000 in
set_option maxHeartbeats 2000000 in
theorem key_any (x y : C32) (p : Nat) (w : World) (hp : w.cell? ⟨p, 0, none⟩ = some (.func (.func 112) #[] #[])) :
    Calls Tryz.prog 155 #[.agg (comA x.1), .agg (comA y.1), .pointer (some ⟨p, 0, none⟩)] w fun e w' => e = .returned (.int .i64 (keyC x y)) ∧ ∃ q os', w' = grow (w.drewN q) os' := by
  go_enter Tryz.func155, Tryz.ntmps155
  go_upto_region 1 with fail
  refine name2e (comA x.1) (comA y.1) rfl rfl ?_
  intro w0 k1 k2 hB HW
  have hpd : w0.drew.cell? ⟨p, 0, none⟩ = some (.func (.func 112) #[] #[]) := cell_b hB.drew hp
  obtain ⟨p1, hp1⟩ : ∃ p1, p1 = w.heap.size := ⟨_, rfl⟩
  obtain ⟨p2, hp2⟩ : ∃ p2, p2 = w.heap.size + 1 := ⟨_, rfl⟩
  rw [← hp2] at k2 ⊢
  rw [← hp1] at k1 ⊢
  have k1d : Blk w0.drew p1 73 (comA x.1) := k1
  have k2d : Blk w0.drew p2 73 (comA y.1) := k2
  clear hB hp1 hp2 hp
  refine region_here (fun Z : World => Z.cell? ⟨p, 0, none⟩ = some (.func (.func 112) #[] #[]) ∧ Blk Z p1 73 (comA x.1) ∧ Blk Z p2 73 (comA y.1)) 6 (by kernel_rfl) ⟨hpd, k1d, k2d⟩ (fun hHeld => ?_)
  refine wpAnyS_take [2, 5, 6, 7] (i := 0) (oi := ⟨_, _, _, _, _, _⟩) (v := ?_) (by simp) (by kernel_rfl) rfl (by kernel_rfl) (by kernel_rfl) (by kernel_rfl) (fun _ _ _ h => h) (Or.inl ⟨by rfl, ?_⟩) (by assumption) ?_
  rotate_left
  · (intro w hSw; (try dsimp only at hSw); go_simp; try with_reducible rfl)
  try simp only [Act.put, List.setIfInBounds_toArray, List.set_cons_zero, List.set_cons_succ]
  refine wpAnyS_take [2, 5, 6, 7] (i := 1) (oi := ⟨_, _, _, _, _, _⟩) (v := .agg (comA x.1)) (by simp) (by kernel_rfl) rfl (by kernel_rfl) (by kernel_rfl) (by kernel_rfl) (fun _ _ _ h => h) (yieldsIf_load_mid rfl 73 (.tmp 3) rfl p1 0 rfl (comCells x.1) _ (fun Z hZ => com_rangeAll hZ.2.1) Tryz.underlying73 rfl (by rw [comCells_len x.2]; exact com_size)) (by assumption) ?_
  try simp only [Act.put, List.setIfInBounds_toArray, List.set_cons_zero, List.set_cons_succ]
  refine wpAnyS_take [5, 6, 7] (i := 3) (oi := ⟨_, _, _, _, _, _⟩) (v := ?_) (by simp) (by kernel_rfl) rfl (by kernel_rfl) (by kernel_rfl) (by kernel_rfl) (fun _ _ _ h => h) (Or.inl ⟨by rfl, ?_⟩) (by assumption) ?_
  rotate_left
  · (intro w hSw; (try dsimp only at hSw); go_simp; try with_reducible rfl)
  try simp only [Act.put, List.setIfInBounds_toArray, List.set_cons_zero, List.set_cons_succ]
  refine wpAnyS_take [5, 6, 7] (i := 4) (oi := ⟨_, _, _, _, _, _⟩) (v := .agg (comA y.1)) (by simp) (by kernel_rfl) rfl (by kernel_rfl) (by kernel_rfl) (by kernel_rfl) (fun _ _ _ h => h) (yieldsIf_load_mid rfl 73 (.tmp 4) rfl p2 0 rfl (comCells y.1) _ (fun Z hZ => com_rangeAll hZ.2.2) Tryz.underlying73 rfl (by rw [comCells_len y.2]; exact com_size)) (by assumption) ?_
  try simp only [Act.put, List.setIfInBounds_toArray, List.set_cons_zero, List.set_cons_succ]
  refine wpAnyS_one (i := 2) (oi := ⟨_, _, _, _, _, _⟩) rfl (by kernel_rfl) (fun K hK => ?_)
  go_simp
  go_at_call 112
  (with_reducible refine (num_any x.1 x.2 _).mono ?_)
  rintro e w1 ⟨rfl, hw1⟩
  have hb1 : Below (w0.drew).heap.size w0.drew w1 := hw1 ▸ below_al (Below.refl _ _) _
  (try go_wp2_with fail)
  refine hK.out _ _ ?_ (fun hHeld2 => ?_)
  · exact ⟨cell_b hb1 hHeld.1, hHeld.2.1.below hb1 hHeld.2.1.lt, hHeld.2.2.below hb1 hHeld.2.2.lt⟩
  clear hK K
  try simp only [Act.put, List.setIfInBounds_toArray, List.set_cons_zero, List.set_cons_succ]
  refine wpAnyS_one (i := 5) (oi := ⟨_, _, _, _, _, _⟩) rfl (by kernel_rfl) (fun K hK => ?_)
  go_simp
  go_at_call 112
  (with_reducible refine (num_any y.1 y.2 _).mono ?_)
  rintro e w2 ⟨rfl, hw2⟩
  have hb2 : Below w1.heap.size w1 w2 := hw2 ▸ below_al (Below.refl _ _) _
  (try go_wp2_with fail)
  refine hK.out _ _ ?_ (fun hHeld5 => ?_)
  · exact ⟨cell_b hb2 hHeld2.1, hHeld2.2.1.below hb2 hHeld2.2.1.lt, hHeld2.2.2.below hb2 hHeld2.2.2.lt⟩
  clear hK K
  try simp only [Act.put, List.setIfInBounds_toArray, List.set_cons_zero, List.set_cons_succ]
  refine wpAnyS_call (k := 6) (ok := ⟨_, _, _, _, _, _⟩) rfl (by kernel_rfl) (by kernel_rfl) (fun K hK => ?_)
  go_simp
  go_at_call 156
  (with_reducible refine (Tryz.cmp_Compare_int x.1.who y.1.who _).mono ?_)
  rintro e w3 ⟨rfl, rfl⟩
  (try go_wp2_with fail)
  refine hK.out _ _ ?_
  clear hK K
  try simp only [Act.put, List.setIfInBounds_toArray, List.set_cons_zero, List.set_cons_succ]
  refine wpAny_take (i := 7) (oi := ⟨_, _, _, _, _, _⟩) (v := ?_) rfl (by kernel_rfl) (by kernel_rfl) (by kernel_rfl) (fun _ _ _ h => h) (Or.inl ⟨by rfl, ?_⟩) ?_
  rotate_left
  · (intro w; go_simp; try with_reducible rfl)
  try simp only [Act.put, List.setIfInBounds_toArray, List.set_cons_zero, List.set_cons_succ]
  refine wpAny_done (by kernel_rfl) ?_ _
  go_wp2_with fail
  go_ret
  refine ⟨rfl, 1, #[.cells (comA x.1) 73, .cells (comA y.1) 73, .cells (comA x.1) 73, .cells (comA y.1) 73], ?_⟩
  rw [← hw2, ← hw1, HW.out]
  simp only [alloc_eq_grow, grow_grow, drew_grow]
  rfl

set_option maxRecDepth 100000 in
set_option maxHeartbeats 1000000 in
theorem stable_any (p blk cap : Nat) (d : Array C32) (hd : d.size ≤ 19) (w : World) (hp : w.cell? ⟨p, 0, none⟩ = some (.func (.func 112) #[] #[])) (hpb : p ≠ blk) (hH : HoldsK encC 34 w blk 0 d) (hblk : blk < w.heap.size) :
    Calls Tryz.prog 154 #[.slice (some ⟨blk, 0, none⟩) d.size cap, .func (.func 155) #[] #[.pointer (some ⟨p, 0, none⟩)]] w fun e w' =>
      e = .returned (.tuple #[]) ∧ ∃ n os, w' = sortWorldK encC 34 w blk 0 n (insertionSort (ltOf keyC) d 0 d.size) os := by
  have hcmp : CmpLays Tryz.prog 155 #[.pointer (some ⟨p, 0, none⟩)] encC 34 keyC blk 0 d.size w := fun m os dk _ x y =>
    key_any x y p _ ((cell?_sortWorldK_other encC 34 w blk 0 m dk os ⟨p, 0, none⟩ hpb (block_lt_of_cell hp)).trans hp)
  have m1 := Lib.hid (AnyQ.insertionSortCmpFunc sortLays 34 Tryz.isAgg73 Tryz.sizeOf73 encC encC_len encC_one keyC 155 #[.pointer (some ⟨p, 0, none⟩)] blk 0 cap 0 d.size d w
    (enters_of Tryz.func155 (by kernel_rfl) rfl) hcmp hH hblk (Nat.zero_le _) (Nat.le_refl _) (by omega))
  clear hcmp hp hH
  obtain ⟨n, hn⟩ : ∃ n, n = d.size := ⟨_, rfl⟩
  rw [← hn] at m1 hd ⊢
  clear hn
  have h1 : ¬ (20 : Int) ≤ (n : Int) := by omega
  have h2 : ¬ (20 : Int) < (n : Int) := by omega
  have m2 : Hid (Calls Tryz.prog 180 #[.slice (some ⟨blk, 0, none⟩) n cap, .int .i64 (n : Int), .func (.func 155) #[] #[.pointer (some ⟨p, 0, none⟩)]] w fun e w' =>
      e = .returned (.tuple #[]) ∧ ∃ k os, w' = sortWorldK encC 34 w blk 0 k (insertionSort (ltOf keyC) d 0 n) os) := Lib.hid (by
    go_enter Tryz.func180, Tryz.ntmps180
    go_wp2_with fail
    go_loopw [7, 8] (fun s7 s8 wr => s7 = .int .i64 0 ∧ s8 = .int .i64 20 ∧ wr = w) (fun _ _ _ => 0)
    case atStart => exact ⟨rfl, rfl, rfl⟩
    case round =>
      obtain ⟨rfl, rfl, rfl⟩ := hrel
      go_wp2_with fail
      refine m1.out.mono ?_
      rintro e w1 ⟨rfl, k, os, hw⟩
      have HW := Lib.hid hw
      clear hw
      go_wp2_with fail
      go_loopw [6] (fun s6 wr => s6 = .int .i64 20 ∧ wr = w1) (fun _ _ => 0)
      case atStart => exact ⟨rfl, rfl⟩
      case round =>
        obtain ⟨rfl, rfl⟩ := hrel
        go_wp2_with fail
        go_end0
        exact ⟨rfl, k, os, HW.out⟩)
  go_enter Tryz.func154, Tryz.ntmps154
  go_wp2_with fail
  refine m2.out.mono ?_
  rintro e w1 ⟨rfl, k, os, hw⟩
  have HW := Lib.hid hw
  clear hw
  go_wp2_with fail
  go_end0
  exact ⟨rfl, k, os, HW.out⟩

end Go.Proofs.YtebgmlbbilcbbaaGreatDoor
