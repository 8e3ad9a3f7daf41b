/- Joined by a program: NatJ, NatK, NatL. -/
import Derived.Test.YtkpinmejfdnhbaaGreatDoorNatTwo
import Derived.Test.YtkpinmejfdnhbaaGreatDoorShelf
import Derived.StillTailTactics
import Derived.Deep.DeepMust
import Derived.Test.YtkpinmejfdnhbaaGreatDoorNatOne
import Derived.Test.YtkpinmejfdnhbaaGreatDoorPlainAll
import Derived.BigRegion
namespace Go.Proofs.YtkpinmejfdnhbaaGreatDoor
open Go.RowKit
theorem info_u8 : (Tryz.prog.info? 5).map (fun i => (i.zero, i.size, i.bytes)) = some (some (.int .u8 0), 1, 1) := by kernel_rfl
theorem push_all : ∀ (l : List UInt8) (s : ByteArray), (l.map fun b : UInt8 => (b.toNat : Int)).foldl (fun r n => r.push (UInt8.ofNat n.toNat)) s = ⟨(s.data.toList ++ l).toArray⟩
 | [], s => by simp
 | b :: t, s => by
   rw [List.map_cons, List.foldl_cons, push_all t]
   simp
theorem P8_le_P32 (k : Nat) : P8 k ≤ P32 k := by rw [P32_P8]; exact Nat.pow_le_pow_right (by omega) (by omega)
theorem Dig.few {w : World} {A : Option Addr} {m c k : Nat} {zs : List Nat} (h : Dig w A m c zs) (ht : Trim zs) (hv : val zs < P8 k) : m ≤ k := by
 rw [← h.len];exact ht.len_le (Nat.lt_of_lt_of_le hv (P8_le_P32 k))
theorem few {w : World} {A : Option Addr} {m c : Nat} {zs : List Nat} {s : ByteArray} (h : Dig w A m c zs) (ht : Trim zs) (hv : val zs = sval s) : m ≤ s.size := h.few ht (by rw [hv]; exact sval_lt s)
end Go.Proofs.YtkpinmejfdnhbaaGreatDoor
