/-
  Words for memory, used by the walks of this seat: a slice of uint32 that reads as a list of digits; a block that is known whole.
-/
import Derived.Test.YthiogjpjkdnbjaaGreatDoorChecked
import Derived.Test.YthiogjpjkdnbjaaGreatDoorPlain
import Derived.WalkKit
import Derived.WalkSpells
import Derived.WalkLawsBesides
import Derived.Lib.Hide
import Derived.Deep.Draws
import Derived.Deep.OwnRows
namespace Go.Proofs.YthiogjpjkdnbjaaGreatDoor
open Go.RowKit

theorem u64_neg (n : Int) (h : -18446744073709551616 ≤ n) (h2 : n < 0) : IntKind.u64.wrap n = n + 18446744073709551616 := by
  simp [IntKind.wrap, IntKind.bits, IntKind.signed]; omega
theorem u64_sub (a b : Int) : IntKind.u64.wrap (IntKind.u64.wrap a - b) = IntKind.u64.wrap (a - b) := by
  simp [IntKind.wrap, IntKind.bits, IntKind.signed]
theorem u64_add (a b : Int) : IntKind.u64.wrap (IntKind.u64.wrap a + b) = IntKind.u64.wrap (a + b) := by
  simp [IntKind.wrap, IntKind.bits, IntKind.signed]

theorem or_hi (a b k : Nat) (hb : b < 2 ^ k) : a * 2 ^ k ||| b = a * 2 ^ k + b := by
  rw [← Nat.shiftLeft_eq]; exact (Nat.shiftLeft_add_eq_or_of_lt hb a).symm
theorem or_lo (a b k : Nat) (hb : b < 2 ^ k) : b ||| a * 2 ^ k = b + a * 2 ^ k := by rw [Nat.or_comm, or_hi a b k hb, Nat.add_comm]
theorem u64_or_hi (a b : Nat) (ha : a < 4294967296) (hb : b < 4294967296) : bits .or .u64 ((a : Int) * 4294967296) (b : Int) = (a : Int) * 4294967296 + b := by
  have e := u64_or_nat (a * 4294967296) b (by omega) (by omega)
  rw [or_hi a b 32 hb] at e
  simpa using e
theorem u64_or_lo (a b : Nat) (ha : a < 4294967296) (hb : b < 4294967296) : bits .or .u64 (b : Int) ((a : Int) * 4294967296) = (b : Int) + (a : Int) * 4294967296 := by
  have e := u64_or_nat b (a * 4294967296) (by omega) (by omega)
  rw [or_lo a b 32 hb] at e
  simpa using e

theorem add_addr (b o j : Nat) : (⟨b, o, none⟩ : Addr).add j = ⟨b, o + j, none⟩ := by unfold Addr.add; split <;> simp_all

theorem u64_low (s : Nat) (hs : s < 18446744073709551616) : bits .and .u64 (s : Int) 4294967295 = ((s % 4294967296 : Nat) : Int) := by
  have e := u64_and_nat s 4294967295 (by omega) (by omega)
  rw [show (4294967295 : Nat) = 2 ^ 32 - 1 by rfl, Nat.and_two_pow_sub_one_eq_mod] at e
  exact e
theorem u64_borrow (u lo bw : Nat) (hu : u < 4294967296) (hlo : lo < 4294967296) (hbw : bw ≤ 1) :
    ∃ D dg b : Nat, IntKind.u64.wrap (IntKind.u64.wrap ((u : Int) - lo) - bw) = (D : Int) ∧ dg = D % 4294967296 ∧ b = D / 9223372036854775808 ∧ b ≤ 1 ∧ dg < 4294967296 ∧ dg + lo + bw = u + 4294967296 * b ∧ D < 18446744073709551616 := by
  rw [u64_sub]
  by_cases h : lo + bw ≤ u
  · refine ⟨u - lo - bw, _, _, ?_, rfl, rfl, by omega, by omega, by omega, by omega⟩
    rw [IntWalk.u64_in _ (by omega)]
    omega
  · refine ⟨u + 18446744073709551616 - lo - bw, _, _, ?_, rfl, rfl, by omega, by omega, by omega, by omega⟩
    rw [u64_neg _ (by omega) (by omega)]
    omega

theorem below_drewN {B : Nat} {a w : World} (h : Below B a w) (n : Nat) : Below B a (w.drewN n) := ⟨h.os, h.tape, h.output, h.size, h.block⟩

/-- One call behind another: what was there when the first began is as it was. -/
theorem below_then {a b c : World} (h : Below a.heap.size a b) (k : Below b.heap.size b c) : Below a.heap.size a c := h.trans (k.mono h.size)

/-- The number of elements of a slice: for a loop's measure. -/
def lenOf : Value → Nat
  | .slice _ n _ => n
  | _ => 0

/-- A slice of uint32 whose cells read as the digits xs. -/
structure Dig (w : World) (A : Option Addr) (n c : Nat) (xs : List Nat) : Prop where
  len : xs.length = n
  cap : n ≤ c
  lt : Lt32 xs
  at_ : 0 < n → ∃ b o, A = some ⟨b, o, none⟩ ∧ ∀ j d : Nat, xs[j]? = some d → w.cell? ⟨b, o + j, none⟩ = some (.int .u32 (d : Int))

theorem Dig.get {w : World} {A : Option Addr} {n c k : Nat} {xs : List Nat} (h : Dig w A n c xs) (hk : k < n) :
    ∃ b o d, A = some ⟨b, o, none⟩ ∧ xs[k]? = some d ∧ d < 4294967296 ∧ w.cell? ⟨b, o + k, none⟩ = some (.int .u32 (d : Int)) := by
  obtain ⟨b, o, e, hc⟩ := h.at_ (by omega)
  have hl : k < xs.length := by have := h.len; omega
  exact ⟨b, o, xs[k], e, List.getElem?_eq_getElem hl, h.lt _ _ (List.getElem?_eq_getElem hl), hc k _ (List.getElem?_eq_getElem hl)⟩

theorem Dig.below {w w' : World} {A : Option Addr} {n c : Nat} {xs : List Nat} (h : Dig w A n c xs) (hb : Below w.heap.size w w') : Dig w' A n c xs := by
  refine ⟨h.len, h.cap, h.lt, fun hn => ?_⟩
  obtain ⟨b, o, e, hc⟩ := h.at_ hn
  refine ⟨b, o, e, fun j d hd => ?_⟩
  have h1 := hc j d hd
  exact (hb.cell (p := ⟨b, o + j, none⟩) (block_lt_of_cell h1)).trans h1

theorem Dig.nil_ (w : World) (A : Option Addr) (c : Nat) : Dig w A 0 c [] := ⟨rfl, Nat.zero_le _, Lt32.nil, fun h => absurd h (by omega)⟩

theorem Dig.take {w : World} {A : Option Addr} {n c m : Nat} {xs : List Nat} (h : Dig w A n c xs) (hm : m ≤ n) : Dig w A m c (xs.take m) := by
  have hl := h.len
  refine ⟨by rw [List.length_take]; omega, by have := h.cap; omega, h.lt.take m, fun hn => ?_⟩
  obtain ⟨b, o, e, hc⟩ := h.at_ (by omega)
  refine ⟨b, o, e, fun j d hd => hc j d ?_⟩
  rw [List.getElem?_take] at hd
  split at hd
  · exact hd
  · cases hd

/-- Block g is just the cells cs of element type t; none is frozen. -/
def Blk (w : World) (g : Nat) (t : TypeId) (cs : Array Value) : Prop := w.heap[g]? = some (.cells cs t (0, 0))

theorem Blk.lt {w : World} {g : Nat} {t : TypeId} {cs : Array Value} (h : Blk w g t cs) : g < w.heap.size := by
  rcases Nat.lt_or_ge g w.heap.size with hl | hl
  · exact hl
  · unfold Blk at h; rw [Array.getElem?_eq_none hl] at h; cases h
theorem Blk.cell {w : World} {g : Nat} {t : TypeId} {cs : Array Value} (h : Blk w g t cs) (i : Nat) : w.cell? ⟨g, i, none⟩ = cs[i]? := cell_of_row w g i cs t (0, 0) h
theorem Blk.frozen {w : World} {g : Nat} {t : TypeId} {cs : Array Value} (h : Blk w g t cs) (i : Nat) : w.frozen? ⟨g, i, none⟩ = false := frozen_of_row w g i cs t h
theorem Blk.new (w : World) (t : TypeId) (cs : Array Value) : Blk (w.alloc (.cells cs t)) w.heap.size t cs := heap_alloc_new w _
theorem Blk.below {w w' : World} {g : Nat} {t : TypeId} {cs : Array Value} (h : Blk w g t cs) {B : Nat} (hb : Below B w w') (hg : g < B) : Blk w' g t cs := (hb.block g hg).trans h
theorem Blk.set_ {w : World} {g : Nat} {t : TypeId} {cs : Array Value} (h : Blk w g t cs) (i : Nat) (u : Value) : Blk (w.setCell ⟨g, i, none⟩ u) g t (cs.setIfInBounds i u) := heap_setCell_same w g i cs t u h
theorem Blk.far {w : World} {g : Nat} {t : TypeId} {cs : Array Value} (h : Blk w g t cs) {p : Addr} (hp : g ≠ p.block) (u : Value) : Blk (w.setCell p u) g t cs := (heap_setCell_other w p g u hp).trans h
theorem Blk.alloc {w : World} {g : Nat} {t : TypeId} {cs : Array Value} (h : Blk w g t cs) (o : Obj) : Blk (w.alloc o) g t cs := (Below.heap_alloc w o g h.lt).trans h

theorem Blk.grown {w w' : World} {row : Option Nat} {g : Nat} {t : TypeId} {cs : Array Value} (h : Blk w g t cs) (hg : w.grownBy w' row) (hne : some g ≠ row) : Blk w' g t cs := (hg.block g h.lt hne).trans h
theorem grown_set {a w : World} {g : Nat} (h : a.grownBy w (some g)) (i : Nat) (u : Value) : a.grownBy (w.setCell ⟨g, i, none⟩ u) (some g) :=
  ⟨h.os, h.tape, h.output, by simpa [World.setCell] using h.size, fun k hk hne => (Below.heap_setCell w _ u k (by rintro rfl; exact hne rfl)).trans (h.block k hk hne)⟩
theorem grown_refl (w : World) (row : Option Nat) : w.grownBy w row := ⟨rfl, rfl, rfl, Nat.le_refl _, fun _ _ _ => rfl⟩
theorem grown_trans {a b c : World} {row : Option Nat} (h : a.grownBy b row) (k : b.grownBy c row) : a.grownBy c row :=
  ⟨k.os.trans h.os, k.tape.trans h.tape, k.output.trans h.output, Nat.le_trans h.size k.size, fun i hi hne => (k.block i (Nat.lt_of_lt_of_le hi h.size) hne).trans (h.block i hi hne)⟩
theorem grown_of_below {a b : World} (h : Below a.heap.size a b) (row : Option Nat) : a.grownBy b row := ⟨h.os, h.tape, h.output, h.size, fun i hi _ => h.block i hi⟩

theorem below_al {a w : World} (h : Below a.heap.size a w) (o : Obj) : Below a.heap.size a (w.alloc o) := h.alloc h.size o
theorem below_set {a w : World} {p : Addr} (h : Below a.heap.size a w) (hp : a.heap.size ≤ p.block) (u : Value) : Below a.heap.size a (w.setCell p u) := h.setCell hp u
theorem dig_al {w : World} {A : Option Addr} {n c : Nat} {xs : List Nat} (h : Dig w A n c xs) (o : Obj) : Dig (w.alloc o) A n c xs := h.below ((Below.refl _ _).alloc (Nat.le_refl _) _)
theorem Blk.kept2 {w w' : World} {g : Nat} {t : TypeId} {u v : Value} (h : Blk w g t #[u, v]) (hb : Below w.heap.size w w') : w'.cell? ⟨g, 0, none⟩ = some u ∧ w'.cell? ⟨g, 1, none⟩ = some v :=
  ⟨(h.below hb h.lt).cell 0, (h.below hb h.lt).cell 1⟩
theorem Blk.kept1 {w w' : World} {g : Nat} {t : TypeId} {u : Value} (h : Blk w g t #[u]) (hb : Below w.heap.size w w') : w'.cell? ⟨g, 0, none⟩ = some u := (h.below hb h.lt).cell 0

/-- Cells that hold digits. -/
def u32s (l : List Nat) : Array Value := (l.map fun d : Nat => Value.int .u32 (d : Int)).toArray
theorem u32s_get {l : List Nat} {i d : Nat} (h : l[i]? = some d) : (u32s l)[i]? = some (.int .u32 (d : Int)) := by simp [u32s, h]
theorem u32s_set (l : List Nat) (i d : Nat) : (u32s l).setIfInBounds i (.int .u32 (d : Int)) = u32s (l.set i d) := by simp [u32s, List.map_set]
theorem u32s_size (l : List Nat) : (u32s l).size = l.length := by simp [u32s]
theorem u32s_made (n : Nat) : madeCells #[.int .u32 0] n = u32s (List.replicate n 0) := by
  apply Array.toList_inj.1
  rw [toList_madeCells_one]
  simp [u32s]

theorem Blk.u32 {w : World} {g : Nat} {t : TypeId} {l : List Nat} (h : Blk w g t (u32s l)) {i d : Nat} (hd : l[i]? = some d) : w.cell? ⟨g, i, none⟩ = some (.int .u32 (d : Int)) := (h.cell i).trans (u32s_get hd)
theorem Blk.put32 {w : World} {g : Nat} {t : TypeId} {l : List Nat} (h : Blk w g t (u32s l)) (i d : Nat) : Blk (w.setCell ⟨g, i, none⟩ (.int .u32 (d : Int))) g t (u32s (l.set i d)) := by
  have := h.set_ i (.int .u32 (d : Int))
  rwa [u32s_set] at this
theorem Blk.dig {w : World} {g : Nat} {t : TypeId} {l : List Nat} (h : Blk w g t (u32s l)) (hl : Lt32 l) {n c : Nat} (hn : l.length = n) (hc : n ≤ c) : Dig w (some ⟨g, 0, none⟩) n c l :=
  ⟨hn, hc, hl, fun _ => ⟨g, 0, rfl, fun j d hd => by rw [Nat.zero_add]; exact h.u32 hd⟩⟩

end Go.Proofs.YthiogjpjkdnbjaaGreatDoor
