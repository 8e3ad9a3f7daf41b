/- binary: the iterator over the binary digits of an exponent. -/
import Derived.RangeFuncNested
import Derived.RangeFuncBound
import Derived.RangeFuncCalls
import Derived.RangeFuncLeaves
import Derived.Shelf.Abstract
import Derived.Shelf.RegionOpen
import Derived.OwnWalkIn
import Derived.TacticsInMore
import Derived.LoopNIn
import Derived.LoopIn
import Derived.Test.YtebgmlbbilcbbaaGreatDoorNatL
import Derived.Test.YtebgmlbbilcbbaaGreatDoorPlainAll
namespace Go.Proofs.YtebgmlbbilcbbaaGreatDoor
open Go.RowKit Go.Shelf
attribute [local go_sem] Oper.semAt_some

theorem binary_any (s : ByteArray) (w : World) :
    Calls Tryz.prog 166 #[.string s] w fun e w' => e = .returned (.func (.func 200) #[] #[.pointer (some ⟨w.heap.size, 0, none⟩)]) ∧ w.alloc (.cells #[.string s] 25) = w' := by
  go_enter Tryz.func166, Tryz.ntmps166
  go_wp2_with fail
  go_ret
  exact ⟨rfl, rfl⟩

/-- A block is as it was. -/
def SameBlk (b : Nat) (W W' : World) : Prop := W'.heap[b]? = W.heap[b]?
theorem sameBlk_t {b : Nat} {A B C : World} (h : SameBlk b A B) (k : SameBlk b B C) : SameBlk b A C := Eq.trans k h
theorem sameBlk_b {b : Nat} {w : World} (hb : b < w.heap.size) (W : World) (l : Nat) (o o' : Obj) (hl : w.heap.size ≤ l) (h : W.heap[l]? = some o) (_ : o.isCells = false) (_ : o.isWalk = false) : SameBlk b W (W.putObj l o') :=
  (grownBy_putObj' W l o').block b (by have := (Array.getElem?_eq_some_iff.1 h).1; omega) (fun e => by cases e; omega)

set_option maxRecDepth 100000 in
set_option maxHeartbeats 2000000 in
theorem binary_stops (n Bn : Nat) (_hn : 1 ≤ n) (s : ByteArray) (hs : s.size ≤ 100000) (w : World) (hle : Bn < w.heap.size) (hc : w.cell? ⟨Bn, 0, none⟩ = some (.string s)) :
    SeqStopsK Fence.wide n Tryz.prog 200 #[.pointer (some ⟨Bn, 0, none⟩)] (fun b : Bool => #[.bool b]) (SameBlk Bn) (fun xs => xs = binL (sval s)) (fun _ => True) (bitsN (sval s)) w := fun l J Jx W hbW _ _ hY h0 => by
  have hcW : W.cell? ⟨Bn, 0, none⟩ = some (.string s) := (hbW.cell (p := ⟨Bn, 0, none⟩) (by show Bn < _; omega)).trans hc
  have hbits : bitsN (sval s) ≤ 8 * s.size := bitsN_le (by have := sval_lt s; rw [P8_two, Nat.mul_comm] at this; exact this)
  refine callsIn_of_wp Tryz.func200 rfl trivial ?_ rfl
  simp only [Tryz.ntmps200, List.size_toArray, List.length_cons, List.length_nil, Nat.reduceAdd, Nat.reduceSub, Array.replicate_succ, Array.replicate_zero, List.push_toArray, List.append_toArray, List.nil_append, List.cons_append]
  have HY := Lib.hid hY
  have HC := Lib.hid hc
  clear hY hc
  gi_wp2_with fail
  refine ⟨trivial, ?_⟩
  refine (callsIn_wide.2 (Bits_any s _ hs)).mono ?_
  rintro e w' ⟨rfl, rfl⟩
  obtain ⟨K, hK⟩ : ∃ K, K = bitsN (sval s) := ⟨_, rfl⟩
  rw [← hK] at hbits HY ⊢
  have HK := Lib.hid hK
  clear hK
  gi_wp2_with fail
  gi_loopw [3] (fun s3 wr => ∃ k : Nat, k ≤ K ∧ s3 = .int .i64 ((k : Int) - 1) ∧ J (bitsTo (sval s) K (K - k)) wr ∧ wr.cell? ⟨Bn, 0, none⟩ = some (.string s)) (fun s3 _ => (intOf s3 + 1).toNat)
  case atStart => exact ⟨K, Nat.le_refl _, rfl, by rw [Nat.sub_self]; exact h0, hcW⟩
  case round =>
    obtain ⟨k, hk, rfl, hJ, hcr⟩ := hrel
    by_cases hk0 : 0 < k
    · obtain ⟨i, rfl⟩ : ∃ i, k = i + 1 := ⟨k - 1, by omega⟩
      rw [show ((i + 1 : Nat) : Int) - 1 = (i : Int) by omega]
      obtain ⟨j, hj⟩ : ∃ j, j = s.size - 1 - i / 8 := ⟨_, rfl⟩
      have hj2 : (s.size : Int) - 1 - (i : Int) / 8 = (j : Int) := by omega
      have hjl : j < s.size := by omega
      have hjl2 : (j : Int) < (s.size : Int) := by omega
      have hj0 : (0 : Int) ≤ (j : Int) := by omega
      have hbyte : sval s / P8 (i / 8) % 256 = s[j].toNat := byte_lv _ _ _ (rev_byte s hj (by omega) hjl)
      have hbit := bit_byte hbyte
      have hbl := s[j].toNat_lt
      have hbe : (bits BinOp.and IntKind.u8 ((s[j].toNat : Int) / 2 ^ (i % 8)) 1 == 1) = bitB (sval s) i := by
        rw [hbit]
        have e := u8_and_nat (s[j].toNat / 2 ^ (i % 8)) 1 (Nat.lt_of_le_of_lt (Nat.div_le_self _ _) (by omega)) (by omega)
        rw [show (1 : Nat) = 2 ^ 1 - 1 by rfl, Nat.and_two_pow_sub_one_eq_mod] at e
        have e2 : ((s[j].toNat / 2 ^ (i % 8) : Nat) : Int) = (s[j].toNat : Int) / 2 ^ (i % 8) := by simp
        rw [e2] at e
        have e3 : bits BinOp.and IntKind.u8 ((s[j].toNat : Int) / 2 ^ (i % 8)) 1 = ((s[j].toNat / 2 ^ (i % 8) % 2 : Nat) : Int) := e
        rw [e3, Bool.eq_iff_iff]
        simp only [beq_iff_eq]
        omega
      have HJ := Lib.hid hj
      clear hj hbyte hbit hbl
      obtain ⟨fn, tmps, assign, body, hy, hR⟩ := HY.out (bitsTo (sval s) K (K - (i + 1))) (bitB (sval s) i) wr hJ (by rw [bitsTo_length]; omega)
      gi_wp2_with fail
      refine hR.mono ?_
      rintro e W3 (⟨rfl, hJ3, hk3⟩ | ⟨rfl, hJx3⟩)
      · have hc3 : W3.cell? ⟨Bn, 0, none⟩ = some (.string s) := (World.cell?_of_block (w := wr) (a := ⟨Bn, 0, none⟩) hk3).trans hcr
        gi_wp2_with fail
        go_roundw
        case rel => exact ⟨i, by omega, rfl, by rw [show K - i = (K - (i + 1)) + 1 by omega, bitsTo_succ, show K - 1 - (K - (i + 1)) = i by omega]; exact hJ3, hc3⟩
        case measure => simp [intOf]
      · gi_wp2_with fail
        refine bodyPost_ret (results_none rfl _ _ _) rfl ?_
        exact ⟨⟨_, rfl⟩, .inr ⟨_, trivial, hJx3⟩⟩
    · obtain rfl : k = 0 := by omega
      gi_wp2_with fail
      go_end0
      refine ⟨⟨_, rfl⟩, .inl ⟨_, ?_, hJ⟩⟩
      rw [Nat.sub_zero, HK.out]
      rfl

end Go.Proofs.YtebgmlbbilcbbaaGreatDoor
