/- Locks: commitments as values. -/
import Derived.Test.YtebgmlbbilcbbaaGreatDoorLockE
import Derived.Deep.MidRow
import Derived.Great.BuildSlice
import Derived.ChangeKeysEq
namespace Go.Proofs.YtebgmlbbilcbbaaGreatDoor
open Go.RowKit

/-- The zero hash. -/
def zero32 : List UInt8 := List.replicate 32 0
theorem zero32_len : zero32.length = 32 := rfl
/-- The cells of a commitment. -/
def comCells (c : Com) : List Value := .int .i64 c.who :: (u8l c.hash ++ [.string (strB c.box)])
def comA (c : Com) : Array Value := (comCells c).toArray
def comZero : Com := ⟨0, zero32, []⟩
theorem comCells_len {c : Com} (h : c.hash.length = 32) : (comCells c).length = 34 := by
  unfold comCells
  rw [List.length_cons, List.length_append, u8l_len, h]; rfl
theorem comA_size {c : Com} (h : c.hash.length = 32) : (comA c).size = 34 := comCells_len h
theorem comA_one (c : Com) : (comA c).all (·.oneCell') = true := all_oneCell_toArray (fun v hv => by
  unfold comCells at hv
  rcases List.mem_cons.1 hv with rfl | hv
  · rfl
  · rcases List.mem_append.1 hv with hv | hv
    · simp only [u8l, List.mem_map] at hv
      obtain ⟨b, _, rfl⟩ := hv; rfl
    · obtain rfl := List.mem_singleton.1 hv; rfl)
theorem com_who (c : Com) : (comA c)[0]? = some (.int .i64 c.who) := rfl
theorem com_byte {c : Com} {j : Nat} {b : UInt8} (h : c.hash[j]? = some b) : (comA c)[1 + j]? = some (.int .u8 (b.toNat : Int)) := by
  have hj := (List.getElem?_eq_some_iff.1 h).1
  unfold comA comCells
  rw [List.getElem?_toArray, Nat.add_comm 1 j, List.getElem?_cons_succ, List.getElem?_append_left (by rw [u8l_len]; exact hj)]
  simp [u8l, h]
theorem com_box {c : Com} (h : c.hash.length = 32) : (comA c)[33]? = some (.string (strB c.box)) := by
  unfold comA comCells
  rw [List.getElem?_toArray, show 33 = 32 + 1 from rfl, List.getElem?_cons_succ, List.getElem?_append_right (by rw [u8l_len, h]; exact Nat.le_refl _), u8l_len, h]
  rfl
theorem com_set {c : Com} (h : c.hash.length = 32) (b : List UInt8) : (comA c).setIfInBounds 33 (.string (strB b)) = comA ⟨c.who, c.hash, b⟩ := by
  unfold comA comCells
  rw [List.setIfInBounds_toArray, show 33 = 32 + 1 from rfl, List.set_cons_succ, List.set_append_right _ _ (by rw [u8l_len, h]; exact Nat.le_refl _), u8l_len, h]
  rfl

theorem fold_put (off : Nat) : ∀ (vs : List Value) (k : Nat) (cs : Array Value), off + k + vs.length ≤ cs.size →
    ((vs.zipIdx k).foldl (fun (cs : Array Value) (x : Value × Nat) => cs.setIfInBounds (off + x.2) x.1) cs) = (cs.toList.take (off + k) ++ (vs ++ cs.toList.drop (off + k + vs.length))).toArray
  | [], k, cs, _ => by simp
  | v :: vs, k, cs, h => by
    rw [List.zipIdx_cons, List.foldl_cons, fold_put off vs (k + 1) _ (by rw [Array.size_setIfInBounds]; rw [List.length_cons] at h; omega)]
    have hlt : off + k < cs.toList.length := by rw [Array.length_toList]; rw [List.length_cons] at h; omega
    rw [Array.toList_setIfInBounds, List.set_eq_take_append_cons_drop, if_pos hlt]
    have h1 : (cs.toList.take (off + k)).length = off + k := by rw [List.length_take]; omega
    congr 1
    have e1 : off + (k + 1) = (cs.toList.take (off + k)).length + 1 := by omega
    have e2 : off + (k + 1) + vs.length = (cs.toList.take (off + k)).length + (vs.length + 1) := by omega
    rw [e2, List.drop_length_add_append, e1, List.take_length_add_append]
    have e3 : List.drop vs.length (List.drop (off + k + 1) cs.toList) = List.drop (off + k + (v :: vs).length) cs.toList := by
      rw [List.drop_drop]; congr 1; rw [List.length_cons]; omega
    rw [List.drop_succ_cons, e3]
    simp
theorem fill_step {place : Nat → Option (Nat × Nat)} {cells : Array Value} {i : Nat} {v : Value} {rest : List (Nat × Value)} {off size : Nat} (hp : place i = some (off, size)) (hs : v.cells.size = size) (hb : off + size ≤ cells.size) :
    Instr.fill place cells ((i, v) :: rest) = Instr.fill place (cells.toList.take off ++ (v.cells.toList ++ cells.toList.drop (off + size))).toArray rest := by
  rw [Instr.fill, hp]
  have hc : ¬ (v.cells.size ≠ size || off + v.cells.size > cells.size) = true := by simp [hs]; omega
  simp only
  rw [if_neg hc]
  congr 1
  have := fold_put off v.cells.toList 0 cells (by rw [Array.length_toList, hs]; exact hb)
  rw [Array.length_toList, hs, Nat.add_zero] at this
  rw [← this]
  rw [← Array.foldl_toList, Array.toList_zipIdx]
theorem com_fill (parts : List (Nat × Value)) : Tryz.prog.built 73 parts = Instr.fill (fun i => (#[(0, 1), (1, 32), (33, 1)] : Array (Nat × Nat))[i]?) (comA comZero) parts := by kernel_rfl
theorem com_built0 : Tryz.prog.built 73 [] = some (comA comZero) := by rw [com_fill]; rfl
theorem hash_built0 : Tryz.prog.built 71 [] = some (u8a zero32) := by kernel_rfl
theorem drop32 (h : List UInt8) (hl : h.length = 32) (t : List Value) : (u8l h ++ t).drop 32 = t := by
  rw [List.drop_append_of_le_length (by rw [u8l_len, hl]; exact Nat.le_refl _), List.drop_of_length_le (by rw [u8l_len, hl]; exact Nat.le_refl _)]; rfl
theorem take32 (h : List UInt8) (hl : h.length = 32) (t : List Value) : (u8l h ++ t).take 32 = u8l h := by
  rw [List.take_append_of_le_length (by rw [u8l_len, hl]; exact Nat.le_refl _), List.take_of_length_le (by rw [u8l_len, hl]; exact Nat.le_refl _)]
theorem com_put0 (c : Com) (w : Int) : (List.take 0 (comA c).toList ++ ((Value.int .i64 w).cells.toList ++ List.drop (0 + 1) (comA c).toList)).toArray = comA ⟨w, c.hash, c.box⟩ := rfl
theorem com_put1 {c : Com} (h : c.hash.length = 32) (g : List UInt8) : (List.take 1 (comA c).toList ++ ((Value.agg (u8a g)).cells.toList ++ List.drop (1 + 32) (comA c).toList)).toArray = comA ⟨c.who, g, c.box⟩ := by
  show (Value.int .i64 c.who :: (u8l g ++ List.drop 32 (u8l c.hash ++ [.string (strB c.box)]))).toArray = _
  rw [drop32 _ h]; rfl
theorem com_put2 {c : Com} (h : c.hash.length = 32) (b : List UInt8) : (List.take 33 (comA c).toList ++ ((Value.string (strB b)).cells.toList ++ List.drop (33 + 1) (comA c).toList)).toArray = comA ⟨c.who, c.hash, b⟩ := by
  have h1 : List.take 33 (comA c).toList = .int .i64 c.who :: u8l c.hash := by
    show Value.int .i64 c.who :: List.take 32 (u8l c.hash ++ [.string (strB c.box)]) = _
    rw [take32 _ h]
  have h2 : List.drop (33 + 1) (comA c).toList = [] := List.drop_of_length_le (by show (comCells c).length ≤ _; rw [comCells_len h]; exact Nat.le_refl _)
  rw [h1, h2]; rfl
theorem com_built1 (w : Int) : Tryz.prog.built 73 [(0, .int .i64 w)] = some (comA ⟨w, zero32, []⟩) := by
  rw [com_fill, fill_step (off := 0) (size := 1) rfl rfl (by decide), com_put0]; rfl
theorem com_built2 (w : Int) (h : List UInt8) (hl : h.length = 32) : Tryz.prog.built 73 [(0, .int .i64 w), (1, .agg (u8a h))] = some (comA ⟨w, h, []⟩) := by
  rw [com_fill, fill_step (off := 0) (size := 1) rfl rfl (by decide), com_put0, fill_step (off := 1) (size := 32) rfl (by show (u8a h).size = 32; exact u8a_len hl) (by rw [comA_size rfl]; omega), com_put1 rfl]; rfl
theorem com_built3 (w : Int) (h : List UInt8) (hl : h.length = 32) (b : List UInt8) : Tryz.prog.built 73 [(0, .int .i64 w), (1, .agg (u8a h)), (2, .string (strB b))] = some (comA ⟨w, h, b⟩) := by
  rw [com_fill, fill_step (off := 0) (size := 1) rfl rfl (by decide), com_put0, fill_step (off := 1) (size := 32) rfl (by show (u8a h).size = 32; exact u8a_len hl) (by rw [comA_size rfl]; omega), com_put1 rfl,
    fill_step (off := 33) (size := 1) rfl rfl (by rw [comA_size hl]; omega), com_put2 hl]; rfl
theorem com_built02 (w : Int) (b : List UInt8) : Tryz.prog.built 73 [(0, .int .i64 w), (2, .string (strB b))] = some (comA ⟨w, zero32, b⟩) := by
  rw [com_fill, fill_step (off := 0) (size := 1) rfl rfl (by decide), com_put0, fill_step (off := 33) (size := 1) rfl rfl (by rw [comA_size rfl]; omega), com_put2 rfl]; rfl
theorem com_built021 (w : Int) (b : List UInt8) (h : List UInt8) (hl : h.length = 32) : Tryz.prog.built 73 [(0, .int .i64 w), (2, .string (strB b)), (1, .agg (u8a h))] = some (comA ⟨w, h, b⟩) := by
  rw [com_fill, fill_step (off := 0) (size := 1) rfl rfl (by decide), com_put0, fill_step (off := 33) (size := 1) rfl rfl (by rw [comA_size rfl]; omega), com_put2 rfl, fill_step (off := 1) (size := 32) rfl (by show (u8a h).size = 32; exact u8a_len hl) (by rw [comA_size rfl]; omega), com_put1 rfl]; rfl

/-- The hash within a commitment's block. -/
theorem com_range {w : World} {k : Nat} {t : TypeId} {c : Com} (hk : Blk w k t (comA c)) : w.rangeAt k 1 (u8l c.hash) := fun j v hv => by
  unfold u8l at hv
  rw [List.getElem?_map, Option.map_eq_some_iff] at hv
  obtain ⟨b, hb, rfl⟩ := hv
  exact (hk.cell _).trans (com_byte hb)
theorem hash_size : (Tryz.prog.info? 71).map (·.size) = some 32 := by kernel_rfl
theorem com_size : (Tryz.prog.info? 73).map (·.size) = some 34 := by kernel_rfl

/-! Comparisons -/
theorem run_part8 {l : List UInt8} {i : Nat} {b : UInt8} (h : l[i]? = some b) (w : World) : (part 5 (u8a l) (i * 1)).run Tryz.prog w = .ok (.int .u8 (b.toNat : Int)) w := by
  have hg := u8a_get h
  simp [part, isAgg, run_underlying Tryz.underlying5, hg]
theorem run_items8 (a b : List UInt8) (d : Nat) (w : World) : ∀ is : List Nat, (∀ i ∈ is, i < a.length ∧ i < b.length) → (Op.eqItems (d + 1) 5 1 (u8a a) (u8a b) is).run Tryz.prog w = .ok (is.all fun i => a[i]? == b[i]?) w
  | [], _ => by simp [Op.eqItems]
  | i :: is, h => by
    have h1 := h i (by simp)
    have ih := run_items8 a b d w is (fun j hj => h j (by simp [hj]))
    have ea : a[i]? = some a[i] := List.getElem?_eq_getElem h1.1
    have eb : b[i]? = some b[i] := List.getElem?_eq_getElem h1.2
    rw [List.all_cons, ea, eb]
    generalize a[i] = x at ea ⊢
    generalize b[i] = y at eb ⊢
    simp only [Op.eqItems, Sem.run_bind, run_part8 ea, run_part8 eb, Result.andThen_ok, run_equalIn_int w d 5 .u8 .u8 _ _ Tryz.underlying5]
    have e : ((x.toNat : Int) == (y.toNat : Int)) = (some x == some y) := by
      rw [Bool.eq_iff_iff]
      simp only [beq_iff_eq, Option.some.injEq]
      constructor
      · intro e; exact UInt8.toNat_inj.1 (by omega)
      · intro e; rw [e]
    rw [e]
    cases he : (some x == some y)
    · simp
    · simp [ih]
theorem cells_u8 : Tryz.prog.cellsOf 5 = 1 := by kernel_rfl
set_option maxRecDepth 100000 in
theorem run_eq_hash {a b : List UInt8} (ha : a.length = 32) (hb : b.length = 32) (d : Nat) (w : World) : (Op.equalIn (d + 2) 71 (.agg (u8a a)) (.agg (u8a b))).run Tryz.prog w = .ok (decide (a = b)) w := by
  obtain ⟨i, hi, _⟩ := Option.map_eq_some_iff.1 info_u8
  rw [run_equalIn_array w (d + 1) (u8a a) (u8a b) Tryz.underlying71 hi, cells_u8, run_items8 a b d w _ (fun i hi => by rw [ha, hb]; exact ⟨List.mem_range.1 hi, List.mem_range.1 hi⟩)]
  congr 1
  rw [Bool.eq_iff_iff, List.all_eq_true, decide_eq_true_iff]
  constructor
  · intro h
    refine List.ext_getElem? (fun i => ?_)
    by_cases hi : i < 32
    · exact beq_iff_eq.1 (h i (List.mem_range.2 hi))
    · rw [List.getElem?_eq_none (by omega), List.getElem?_eq_none (by omega)]
  · intro h i _; rw [h]; simp
theorem part_who (c : Com) (w : World) : (part 3 (comA c) 0).run Tryz.prog w = .ok (.int .i64 c.who) w := by
  have hg := com_who c
  simp [part, isAgg, run_underlying Tryz.underlying3, hg]
theorem part_box {c : Com} (h : c.hash.length = 32) (w : World) : (part 9 (comA c) 33).run Tryz.prog w = .ok (.string (strB c.box)) w := by
  have hg := com_box h
  simp [part, isAgg, run_underlying Tryz.underlying9, hg]
theorem com_extract {c : Com} (h : c.hash.length = 32) : (comA c).extract 1 33 = u8a c.hash := by
  apply Array.toList_inj.1
  rw [Array.toList_extract, List.extract_eq_take_drop]
  show List.take 32 (u8l c.hash ++ [.string (strB c.box)]) = _
  rw [take32 _ h]; rfl
theorem part_hash {c : Com} (h : c.hash.length = 32) (w : World) : (part 71 (comA c) 1).run Tryz.prog w = .ok (.agg (u8a c.hash)) w := by
  obtain ⟨i, hi, _⟩ := Option.map_eq_some_iff.1 hash_size
  have he := com_extract h
  simp only [part, Sem.run_bind, isAgg, run_underlying Tryz.underlying71, Result.andThen_ok, Sem.run_pure, if_true, Sem.run_ite, run_sizeOf w hi]
  rw [show Tryz.prog.cellsOf 71 = 32 by kernel_rfl, he]
theorem com_ext {a b : Com} : a = b ↔ a.who = b.who ∧ a.hash = b.hash ∧ a.box = b.box := by
  cases a; cases b; simp
set_option maxRecDepth 100000 in
theorem run_eq_com {a b : Com} (ha : a.hash.length = 32) (hb : b.hash.length = 32) (d : Nat) (w : World) : (Op.equalIn (d + 3) 73 (.agg (comA a)) (.agg (comA b))).run Tryz.prog w = .ok (decide (a = b)) w := by
  have hp : Tryz.prog.stoodInHeld 73 = false := by kernel_rfl
  rw [run_equalIn_struct w (d + 2) _ _ _ Tryz.underlying73 hp]
  have hf : (Tryz.prog.fieldsOf 73).toList.map (fun f => (f.name == "_", f.type, f.offset)) = [(false, 3, 0), (false, 71, 1), (false, 9, 33)] := by kernel_rfl
  generalize (Tryz.prog.fieldsOf 73).toList = fs at hf
  obtain ⟨f1, t1, rfl, e1, hf⟩ := List.map_eq_cons_iff.1 hf
  obtain ⟨f2, t2, rfl, e2, hf⟩ := List.map_eq_cons_iff.1 hf
  obtain ⟨f3, t3, rfl, e3, hf⟩ := List.map_eq_cons_iff.1 hf
  obtain rfl := List.map_eq_nil_iff.1 hf
  simp only [Prod.mk.injEq, beq_eq_false_iff_ne] at e1 e2 e3
  obtain ⟨n1, y1, o1⟩ := e1
  obtain ⟨n2, y2, o2⟩ := e2
  obtain ⟨n3, y3, o3⟩ := e3
  simp only [Op.eqFields, n1, n2, n3, y1, y2, y3, o1, o2, o3, ne_eq, not_false_eq_true, if_true, Sem.run_bind, part_who, part_hash ha, part_hash hb, part_box ha, part_box hb, Result.andThen_ok,
    run_equalIn_int w (d + 1) 3 .i64 .i64 _ _ Tryz.underlying3, run_eq_hash ha hb d w, run_equalIn_string w (d + 1) 9 _ _ Tryz.underlying9, Sem.run_ite, Sem.run_pure]
  have e : ((strB a.box).toList == (strB b.box).toList) = decide (a.box = b.box) := by
    rw [Bool.eq_iff_iff, beq_iff_eq, decide_eq_true_iff]
    constructor
    · intro h
      have h2 : (strB a.box).data.toList = (strB b.box).data.toList := by rw [← ByteArray.toList_eq, ← ByteArray.toList_eq, h]
      rwa [strB_list, strB_list] at h2
    · intro h; rw [h]
  rw [e]
  simp only [com_ext]
  by_cases h1 : a.who = b.who <;> by_cases h2 : a.hash = b.hash <;> by_cases h3 : a.box = b.box <;> simp [h1, h2, h3]

end Go.Proofs.YtebgmlbbilcbbaaGreatDoor
