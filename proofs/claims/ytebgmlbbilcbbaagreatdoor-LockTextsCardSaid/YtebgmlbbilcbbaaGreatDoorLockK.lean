/- Locks: a copy of a list, ordered. -/
import Derived.Test.YtebgmlbbilcbbaaGreatDoorLockJ
namespace Go.Proofs.YtebgmlbbilcbbaaGreatDoor
open Go.RowKit Go.Sort Go.Shelf

/-- A slice of commitments. -/
abbrev CRow (w : World) (A : Option Addr) (n c : Nat) (cs : List C32) : Prop := Row encC 34 w A n c cs

theorem size_made (z : Array Value) (n : Nat) (_hz : z.size ≠ 0) : (madeCells z n).size = n := by simp [madeCells]
theorem make_com (n : Nat) (hn : n ≤ 100000) : ∃ zc : Array Value, zc.size = n * 34 ∧ ∀ w : World, (Instr.makeSlice 84 (.int .i64 (n : Int)) (.int .i64 (n : Int))).run Tryz.prog w = .ok (.slice (some ⟨w.heap.size, 0, none⟩) n n) (w.alloc (.cells zc 73)) := by
  have hinf : ((Tryz.prog.info? 73).map (fun i => (i.zero.map (·.cells.size), i.size, i.bytes))) = some (some 34, 34, 56) := by kernel_rfl
  obtain ⟨i, hi, hzz⟩ := Option.map_eq_some_iff.1 hinf
  simp only [Prod.mk.injEq] at hzz
  obtain ⟨hz, hs, hb⟩ := hzz
  obtain ⟨z, hz1, hz2⟩ := Option.map_eq_some_iff.1 hz
  refine ⟨madeCells z.cells (n * 34), size_made _ _ (by rw [hz2]; omega), fun w => ?_⟩
  have hr := run_make (P := Tryz.prog) w 84 73 i z Tryz.underlying84 hi hz1 .i64 .i64 (n : Int) (n : Int) (by omega) (Int.le_refl _) (by rw [hb]; omega) (by omega)
  rw [hs, Int.toNat_natCast] at hr
  exact hr

/-- The cells of a list. -/
def listA (cs : List C32) : Array Value := (cs.flatMap encC).toArray
theorem listA_size (cs : List C32) : (listA cs).size = cs.length * 34 := by
  show (cs.flatMap encC).length = _
  exact flat_len encC_len cs
theorem row_of_list {w : World} {g : Nat} {cs : List C32} (h : Blk w g 73 (listA cs)) {n : Nat} (hn : cs.length = n) : CRow w (some ⟨g, 0, none⟩) n n cs := by
  refine ⟨hn, Nat.le_refl _, fun _ => ⟨g, 0, rfl, fun j k x u hx hu => ?_⟩⟩
  have hk : k < 34 := by have := (List.getElem?_eq_some_iff.1 hu).1; rwa [encC_len] at this
  rw [Nat.zero_add]
  refine (h.cell _).trans ?_
  show (cs.flatMap encC).toArray[j * 34 + k]? = _
  rw [List.getElem?_toArray, flat_get encC_len cs j k x hx hk]; exact hu

theorem run_copy_com (w : World) (g n : Nat) (cur : Array Value) (hg : Blk w g 73 cur) (hcs : cur.size = n * 34) (A : Option Addr) (c : Nat) (cs : List C32) (h : CRow w A n c cs) :
    ∃ w', (Builtin.copy_ #[84, 84] 3 #[.slice (some ⟨g, 0, none⟩) n n, .slice A n c]).run Tryz.prog w = .ok (.int .i64 (n : Int)) w' ∧ Blk w' g 73 (listA cs) ∧ ∀ B, B ≤ g → RowKit.Below B w w' := by
  have hl := h.len
  have hinf : (Tryz.prog.info? 73).map (·.size) = some 34 := com_size
  obtain ⟨i, hi, hs⟩ := Option.map_eq_some_iff.1 hinf
  rcases Nat.eq_zero_or_pos n with h0 | h0
  · subst h0
    obtain rfl : cs = [] := List.eq_nil_of_length_eq_zero hl
    have hc0 : cur = listA [] := by
      have : cur.size = 0 := by omega
      exact Array.eq_empty_of_size_eq_zero this
    refine ⟨w, ?_, hc0 ▸ hg, fun B _ => RowKit.Below.refl _ _⟩
    cases A with
    | none => simp [Builtin.copy_, run_underlying Tryz.underlying84, Builtin.lenOf, Builtin.firstCells, sizeOf, typeInfo, hi, goInt, storeCells]
    | some ad =>
      have hld := run_loadCells_list (P := Tryz.prog) w ad [] (fun j v hv => by simp at hv)
      rw [List.length_nil] at hld
      simp [Builtin.copy_, run_underlying Tryz.underlying84, Builtin.lenOf, Builtin.firstCells, sizeOf, typeInfo, hi, goInt, storeCells, hld]
  · obtain ⟨b, o, rfl, hc⟩ := h.at_ h0
    have hll : (cs.flatMap encC).length = n * 34 := by rw [flat_len encC_len, hl]
    have hld := run_loadCells_list (P := Tryz.prog) w ⟨b, o, none⟩ (cs.flatMap encC) (fun j v hv => by
      obtain ⟨x, hx, hu⟩ := flat_at encC_len (by omega) hv
      rw [add_addr]
      have := hc _ _ _ _ hx hu
      rwa [Nat.add_assoc, Nat.div_add_mod'] at this)
    have hst := run_storeCells_at Tryz.prog g 0 73 (cs.flatMap encC) 0 cur w hg (by rw [hll, hcs]; omega) (fun v hv => by
      obtain ⟨x, _, hx⟩ := List.mem_flatMap.1 hv
      exact encC_one x v hx)
    have e : (cur.toList.take (0 + 0) ++ cs.flatMap encC ++ cur.toList.drop (0 + 0 + (cs.flatMap encC).length)).toArray = listA cs := by
      rw [List.drop_of_length_le (by rw [Array.length_toList]; omega)]
      simp [listA]
    rw [e] at hst
    rw [hll] at hld
    refine ⟨_, ?_, setRow_heap w g _ _ _ _ hg, fun B hB => below_setRow (RowKit.Below.refl _ _) hB _⟩
    simp [Builtin.copy_, run_underlying Tryz.underlying84, Builtin.lenOf, Builtin.firstCells, sizeOf, typeInfo, hi, hs, hld, hst, goInt]

theorem get_of_getElem? {α : Type} [Inhabited α] {l : List α} {i : Nat} {x : α} (h : l[i]? = some x) : l.toArray[i]! = x := by
  have := (List.getElem?_eq_some_iff.1 h).1
  rw [getElem!_pos _ i (by simpa using this)]
  simpa using (List.getElem?_eq_some_iff.1 h).2
theorem holds_of_list {w : World} {g : Nat} {cs : List C32} (h : Blk w g 73 (listA cs)) : HoldsK encC 34 w g 0 cs.toArray := fun j hj => by
  rw [size_flatK, List.size_toArray] at hj
  have hq : j / 34 < cs.length := Nat.div_lt_of_lt_mul (by rw [Nat.mul_comm]; exact hj)
  have hr : j % 34 < 34 := Nat.mod_lt _ (by omega)
  have e1 : cs[j / 34]? = some cs[j / 34] := List.getElem?_eq_getElem hq
  have e2 : (encC cs[j / 34])[j % 34]? = some ((encC cs[j / 34])[j % 34]'(by rw [encC_len]; exact hr)) := List.getElem?_eq_getElem _
  rw [Nat.zero_add]
  refine ⟨?_, h.frozen j⟩
  refine (h.cell j).trans ?_
  show (cs.flatMap encC).toArray[j]? = _
  rw [List.getElem?_toArray]
  have e3 := flat_get encC_len cs (j / 34) (j % 34) _ e1 hr
  rw [Nat.div_add_mod'] at e3
  rw [e3, get_flatK _ _ _ _ (by rw [List.size_toArray]; exact hj), get_of_getElem? e1, e2]
  congr 1
  exact (getElem!_pos (encC cs[j / 34]) (j % 34) (by rw [encC_len]; exact hr)).symm
theorem row_of_holds {w : World} {g : Nat} {d : Array C32} (h : HoldsK encC 34 w g 0 d) {n : Nat} (hn : d.size = n) : CRow w (some ⟨g, 0, none⟩) n n d.toList := by
  refine ⟨by rw [Array.length_toList]; exact hn, Nat.le_refl _, fun _ => ⟨g, 0, rfl, fun j k x u hx hu => ?_⟩⟩
  have hk : k < 34 := by have := (List.getElem?_eq_some_iff.1 hu).1; rwa [encC_len] at this
  have hj : j < d.size := by have := (List.getElem?_eq_some_iff.1 hx).1; rwa [Array.length_toList] at this
  have hlt : j * 34 + k < d.size * 34 := by omega
  have h1 := (h (j * 34 + k) (by rw [size_flatK]; exact hlt)).1
  rw [Nat.add_assoc]
  refine h1.trans ?_
  rw [get_flatK _ _ _ _ hlt, show (j * 34 + k) / 34 = j by omega, show (j * 34 + k) % 34 = k by omega]
  have e1 : d[j]! = x := by
    rw [getElem!_pos d j hj]
    have := (List.getElem?_eq_some_iff.1 hx).2
    simpa using this
  rw [e1]
  show some _ = some u
  have hk' := (List.getElem?_eq_some_iff.1 hu).1
  rw [getElem!_pos (encC x) k hk', (List.getElem?_eq_some_iff.1 hu).2]
  rfl
theorem below_sort {w : World} {g B n : Nat} {d : Array C32} {os : Array Obj} (hg : g < w.heap.size) (hB : B ≤ g) : RowKit.Below B w (sortWorldK encC 34 w g 0 n d os) := by
  refine ⟨rfl, rfl, rfl, size_sortWorldK_c encC 34 w g 0 n d os, fun k hk => ?_⟩
  show ((w.heap.modify g _) ++ os)[k]? = _
  rw [Array.getElem?_append_left (by rw [Array.size_modify]; omega), Array.getElem?_modify, if_neg (by omega)]

theorem keyC_swo : SWO (ltOf keyC) := by
  have h : ∀ x y : C32, ltOf keyC x y = decide (x.1.who < y.1.who) := fun x y => by
    unfold ltOf keyC Lib.compareInt
    split
    · simp; assumption
    · split <;> simp <;> omega
  refine ⟨fun x => by rw [h]; simp, fun x y z => ?_, fun x y z => ?_⟩ <;> rw [h, h, h] <;> simp <;> omega
theorem ltOf_false {x y : C32} (h : ltOf keyC x y = false) : y.1.who ≤ x.1.who := by
  unfold ltOf keyC Lib.compareInt at h
  have := of_decide_eq_false h
  split at this
  · omega
  · omega

set_option maxRecDepth 100000 in
set_option maxHeartbeats 2000000 in
theorem sorted_any (A : Option Addr) (n c : Nat) (cs : List C32) (w : World) (h : CRow w A n c cs) (hn : n ≤ 19) :
    Calls Tryz.prog 111 #[.slice A n c, .func (.func 112) #[] #[]] w fun e w' => ∃ (g : Nat) (ds : List C32), e = .returned (.slice (some ⟨g, 0, none⟩) n n) ∧ CRow w' (some ⟨g, 0, none⟩) n n ds ∧ ds.Perm cs ∧ ds.Pairwise (fun a b => a.1.who ≤ b.1.who) ∧ RowKit.Below w.heap.size w w' := by
  have hlen := h.len
  have HL := Lib.hid hlen
  obtain ⟨zc, hzc, hmk⟩ := make_com n (by omega)
  have HZ := Lib.hid hzc
  have HR := Lib.hid h
  clear hlen hzc h
  go_enter Tryz.func111, Tryz.ntmps111
  go_upto_region 2 with fail
  refine name2p ?_
  intro w0 k1 k2 hB
  have HM := Lib.hid hmk
  clear hmk
  obtain ⟨w1, hcp, k2', hb⟩ := run_copy_com w0 (w.heap.size + 1) n zc k2 HZ.out A c cs (HR.out.below hB)
  have hb2 := hb (w.heap.size + 1) (Nat.le_refl _)
  have hk1 : Blk w1 w.heap.size 131 #[.func (.func 112) #[] #[]] := (hb2.block _ (Nat.lt_succ_self _)).trans k1
  replace hB : RowKit.Below w.heap.size w w1 := hB.trans (hb _ (Nat.le_succ _))
  clear hb hb2 k1 k2
  go_wp2_with fail
  have m1 := Lib.hid (stable_any w.heap.size (w.heap.size + 1) n cs.toArray (by rw [List.size_toArray, HL.out]; exact hn) w1 (hk1.cell 0) (by omega) (holds_of_list k2') k2'.lt)
  rw [show cs.toArray.size = n by rw [List.size_toArray, HL.out]] at m1
  refine m1.out.mono ?_
  rintro e w2 ⟨rfl, q, os, hw⟩
  have HW := Lib.hid hw
  clear hw hcp
  go_wp2_with fail
  go_ret
  have hsz : cs.toArray.size = n := by rw [List.size_toArray, HL.out]
  obtain ⟨hp, hs⟩ := insertionSort_holds keyC_swo cs.toArray 0 n (Nat.zero_le _) (by rw [hsz]; exact Nat.le_refl _)
  generalize insertionSort (ltOf keyC) cs.toArray 0 n = d at hp hs HW
  have hds : d.size = n := hp.1.trans hsz
  refine ⟨w.heap.size + 1, d.toList, rfl, ?_, ?_, ?_, ?_⟩
  · rw [HW.out]
    exact row_of_holds (holdsK_sortWorldK_c encC 34 w1 (w.heap.size + 1) 0 cs.toArray d q os (holds_of_list k2') k2'.lt (by rw [hds, hsz])) hds
  · have h1 := hp.2.2
    rw [Array.extract_eq_self_of_le (by rw [hds]; exact Nat.le_refl _), Array.extract_eq_self_of_le (by rw [hsz]; exact Nat.le_refl _)] at h1
    exact h1
  · rw [List.pairwise_iff_getElem]
    intro i j hi hj hij
    rw [Array.length_toList] at hi hj
    have h1 := ltOf_false (hs i j (Nat.zero_le _) hij (by omega))
    rw [getElem!_pos d j hj, getElem!_pos d i hi] at h1
    simpa using h1
  · rw [HW.out]
    exact hB.trans (below_sort k2'.lt (Nat.le_succ _))

end Go.Proofs.YtebgmlbbilcbbaaGreatDoor
