/- Locks: clash, and what lists have in common, for the law LockOrder. -/
import Derived.Test.YtebgmlbbilcbbaaGreatDoorLockT
namespace Go.Proofs.YtebgmlbbilcbbaaGreatDoor
open Go.RowKit
attribute [local go_sem] Oper.semAt_some

theorem listC_le (xs : List (Int × Int)) : (listC xs).length ≤ 15 := by unfold listC; rw [List.length_mapIdx, List.length_take]; omega
theorem listC_ids {xs : List (Int × Int)} (h : ∀ x ∈ xs, I64 x.1 ∧ I64 x.2) : ∀ y ∈ listC xs, I64 y.1.who := fun y hy => by
  obtain ⟨i, hi, rfl⟩ := List.mem_mapIdx.1 hy
  exact (h _ (List.mem_of_mem_take (List.getElem_mem hi))).1
/-- Whether two different texts have one hash. -/
def clashB (a b : ByteArray) : Bool := decide (a ≠ b ∧ shaS a.data.toList = shaS b.data.toList)
set_option maxRecDepth 100000 in
set_option maxHeartbeats 1000000 in
theorem clash_q (a b : ByteArray) (ha : a.size ≤ 1000000) (hb : b.size ≤ 1000000) : Ret 62 #[.string a, .string b] (.bool (clashB a b)) := by
  intro w
  have m1 := Lib.hid (fun W => rSum_any a W ha)
  have m2 := Lib.hid (fun W => rSum_any b W hb)
  have hl1 : (shaS a.data.toList).length = 32 := sha_len _
  have hl2 : (shaS b.data.toList).length = 32 := sha_len _
  have hEq := fun w => run_eq_hash hl1 hl2 9998 w
  have hB := Below.refl w.heap.size w
  by_cases hab : a = b
  · have hc : clashB a b = false := decide_eq_false (fun h => h.1 hab)
    subst hab
    have hq := txt_same a
    rw [hc]
    clear hEq hl1 hl2 m1 m2 hc
    go_enter Tryz.func62, Tryz.ntmps62
    go_wp2_with fail
    go_ret
    exact ⟨rfl, hB⟩
  · have hc : clashB a b = decide (shaS a.data.toList = shaS b.data.toList) := by
      unfold clashB
      exact decide_eq_decide.2 ⟨fun h => h.2, fun h => ⟨hab, h⟩⟩
    have hq := txt_diff hab
    rw [hc]
    generalize shaS a.data.toList = g1 at *
    generalize shaS b.data.toList = g2 at *
    clear hc hab hl1 hl2
    go_enter Tryz.func62, Tryz.ntmps62
    go_wp2_with (go_at_call 64; (with_reducible first | refine (m1.out _).mono ?_ | refine (m2.out _).mono ?_); rintro e wz ⟨rfl, hb⟩; replace hB := below_then hB hb; clear hb)
    go_ret
    exact ⟨rfl, hB⟩

theorem com_other {a : Int} {h b b' : List UInt8} (hh : h.length = 32) {t : Nat} (ht : t ≠ 33) {u : Value} (hu : (comCells ⟨a, h, b⟩)[t]? = some u) : (comCells ⟨a, h, b'⟩)[t]? = some u := by
  cases t with
  | zero => exact hu
  | succ t =>
    have e : ∀ z : List UInt8, (comCells ⟨a, h, z⟩)[t + 1]? = (u8l h ++ [.string (strB z)])[t]? := fun _ => rfl
    rw [e] at hu ⊢
    have hl : (u8l h).length = 32 := by rw [u8l_len, hh]
    rcases Nat.lt_or_ge t 32 with h1 | h1
    · rwa [List.getElem?_append_left (by omega)] at hu ⊢
    · rw [List.getElem?_append_right (by omega), hl] at hu
      have : t - 32 ≠ 0 := by omega
      rw [List.getElem?_eq_none (by simp; omega)] at hu
      cases hu
/-- A box in a row of members, set. -/
theorem CRow.setBox {w : World} {g n c : Nat} {cs : List C32} (h : CRow w (some ⟨g, 0, none⟩) n c cs) {k : Nat} {x : C32} (hx : cs[k]? = some x) (b : List UInt8) :
    CRow (w.setCell ⟨g, k * 34 + 33, none⟩ (.string (strB b))) (some ⟨g, 0, none⟩) n c (cs.set k ⟨⟨x.1.who, x.1.hash, b⟩, x.2⟩) := by
  refine ⟨by rw [List.length_set]; exact h.len, h.cap, fun h0 => ⟨g, 0, rfl, fun j t y u hy hu => ?_⟩⟩
  obtain ⟨b', o', e, hc⟩ := h.at_ h0
  obtain ⟨rfl, rfl⟩ : b' = g ∧ o' = 0 := by cases e; exact ⟨rfl, rfl⟩
  have ht34 : t < 34 := by have := (List.getElem?_eq_some_iff.1 hu).1; rwa [encC_len] at this
  have h33 : w.cell? ⟨b', k * 34 + 33, none⟩ = some (.string (strB x.1.box)) := by
    have := hc k 33 x (.string (strB x.1.box)) hx (by
      have h2 := com_box x.2
      unfold comA at h2
      rwa [List.getElem?_toArray] at h2)
    rwa [Nat.zero_add] at this
  rw [List.getElem?_set] at hy
  split at hy
  · rename_i hjk
    subst hjk
    have hk := (List.getElem?_eq_some_iff.1 hx).1
    rw [if_pos hk] at hy
    obtain rfl := Option.some.inj hy
    by_cases ht : t = 33
    · subst ht
      have hu' : u = .string (strB b) := by
        have h2 := com_box (c := ⟨x.1.who, x.1.hash, b⟩) x.2
        unfold comA at h2
        rw [List.getElem?_toArray] at h2
        exact Option.some.inj (hu.symm.trans h2)
      subst hu'
      rw [Nat.zero_add]
      exact World.cell?_setCell_same _ _ _ h33
    · exact (World.cell?_setCell_other _ _ _ _ (fun e => ht (by injection e with _ e2; omega))).trans (hc k t x u hx (com_other x.2 ht hu))
  · rename_i hjk
    exact (World.cell?_setCell_other _ _ _ _ (fun e => hjk (by injection e with _ e2; omega))).trans (hc j t y u hy hu)

/-- A row of members without its first one. -/
theorem CRow.rest {w : World} {b o n c : Nat} {cs : List C32} (h : CRow w (some ⟨b, o, none⟩) (n + 1) c cs) : CRow w (some ⟨b, o + 34, none⟩) n (c - 1) (cs.drop 1) := by
  have hl := h.len
  have hc' := h.cap
  refine ⟨by rw [List.length_drop]; omega, by omega, fun h0 => ⟨b, o + 34, rfl, fun j t y u hy hu => ?_⟩⟩
  obtain ⟨b', o', e, hc⟩ := h.at_ (by omega)
  obtain ⟨rfl, rfl⟩ : b' = b ∧ o' = o := by cases e; exact ⟨rfl, rfl⟩
  rw [List.getElem?_drop] at hy
  have := hc (1 + j) t y u hy hu
  rwa [show o' + (1 + j) * 34 + t = o' + 34 + j * 34 + t by omega] at this
theorem who_set {C : List C32} {k : Nat} {x : C32} (hx : C[k]? = some x) (b : List UInt8) : (C.set k ⟨⟨x.1.who, x.1.hash, b⟩, x.2⟩).map (fun z => z.1.who) = C.map (fun z => z.1.who) := by
  apply List.ext_getElem?
  intro i
  rw [List.getElem?_map, List.getElem?_map, List.getElem?_set]
  split
  · rename_i h
    subst h
    rw [if_pos (List.getElem?_eq_some_iff.1 hx).1, hx]; rfl
  · rfl

theorem lines_len {l : List Com} (hw : ∀ x ∈ l, I64 x.who ∧ x.hash.length = 32 ∧ x.box.length ≤ 100) : (l.flatMap comL).length ≤ 300 * l.length := by
  induction l with
  | nil => simp
  | cons x l ih =>
    rw [List.flatMap_cons, List.length_append, List.length_cons]
    have h1 := ih (fun y hy => hw y (List.mem_cons_of_mem _ hy))
    obtain ⟨a, b, c⟩ := hw x List.mem_cons_self
    have h2 := comT_len a b
    have h3 : (comL x).length = (comT x).length + 1 := by unfold comL; rw [List.length_append]; rfl
    omega
/-- The text of a lock is not long. -/
theorem lockL_size {round : Int} {C : List C32} (h1 : I64 round) (hw : ∀ x ∈ C, I64 x.1.who) (hb : ∀ x ∈ C, x.1.box.length ≤ 100) (hn : C.length ≤ 12) : (strB (lockL round (sortL (C.map (·.1))))).size ≤ 1000000 := by
  have hp := sortL_perm (C.map (·.1))
  have h2 := lines_len (l := sortL (C.map (·.1))) (fun x hx => by
    obtain ⟨y, hy, rfl⟩ := List.mem_map.1 (hp.mem_iff.1 hx)
    exact ⟨hw y hy, y.2, hb y hy⟩)
  have h3 := hp.length_eq
  rw [List.length_map] at h3
  have h4 := decI_len h1
  rw [strB_size]
  unfold lockL
  simp only [List.length_append, List.length_cons, List.length_nil]
  omega

theorem byteQ_of (q : Int) : ∃ y : UInt8, IntKind.u8.wrap q = (y.toNat : Int) := ⟨UInt8.ofNat (q % 256).toNat, by rw [u8_wrap, UInt8.toNat_ofNat']; omega⟩

end Go.Proofs.YtebgmlbbilcbbaaGreatDoor
