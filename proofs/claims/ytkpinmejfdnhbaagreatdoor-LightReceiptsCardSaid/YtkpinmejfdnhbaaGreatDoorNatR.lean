/- Text: a number in decimal. -/
import Derived.Test.YtkpinmejfdnhbaaGreatDoorNatThree
import Derived.Test.YtkpinmejfdnhbaaGreatDoorPlainAll
import Derived.Test.YtkpinmejfdnhbaaGreatDoorShelfTxt
import Derived.Test.YtkpinmejfdnhbaaGreatDoorRefTwo
import Derived.Lib.ItoaMem
import Derived.Sort.OwnSorted
namespace Go.Proofs.YtkpinmejfdnhbaaGreatDoor
open Go.RowKit Go.Shelf
theorem str_info : (Tryz.prog.info? 9).map (fun i => (i.zero, i.size, i.bytes)) = some (some (.string ⟨#[]⟩), 1, 16) := by kernel_rfl
def Pow10 (w : World) : Prop := Lib.TabIs Tryz.prog w "internal/strconv.uint64pow10" .u64 Lib.pow10Tab
theorem Pow10.below {w w' : World} (h : Pow10 w) (hb : Below w.heap.size w w') : Pow10 w' := by
 have hg : Tryz.prog.globalNamed "internal/strconv.uint64pow10" = some (Tryz.laysM171_ren.g 17) := by kernel_rfl
 unfold Pow10 Lib.TabIs World.var? at h ⊢;rw [hg] at h ⊢;simp only [Option.bind_some] at h ⊢;have hlt : Tryz.laysM171_ren.g 17 < w.heap.size := by
  rcases Nat.lt_or_ge (Tryz.laysM171_ren.g 17) w.heap.size with hl | hl
  ·exact hl
  ·rw [Array.getElem?_eq_none hl] at h; cases h
 rw [hb.block _ hlt];exact h
theorem below_grow (w : World) (k : Nat) (os : Array Obj) : Below w.heap.size w (Sort.grow (w.drewN k) os) :=
 ⟨rfl, rfl, rfl, by show w.heap.size ≤ (w.heap ++ os).size; simp, fun i hi => by show (w.heap ++ os)[i]? = _; rw [Array.getElem?_append_left hi]⟩
def decS (n : Nat) : ByteArray := ⟨(Lib.decDigits n).toArray⟩
theorem decS_zero : decS 0 = ⟨#[48]⟩ := by unfold decS; rw [Lib.decDigits_one (by omega)]; rfl
theorem dec_bytes (a : ByteArray) : (Lib.decDigits (sval a)).length ≤ 3 * a.size + 1 := by
 refine (dec_len (3 * a.size) _ ?_).1;refine Nat.lt_of_lt_of_le (sval_lt a) ?_;unfold P8;refine Nat.le_trans (Nat.pow_le_pow_left (show 256 ≤ 10 ^ 3 by decide) a.size) ?_;rw [← Nat.pow_mul];exact Nat.pow_le_pow_right (by omega) (by omega)
end Go.Proofs.YtkpinmejfdnhbaaGreatDoor
