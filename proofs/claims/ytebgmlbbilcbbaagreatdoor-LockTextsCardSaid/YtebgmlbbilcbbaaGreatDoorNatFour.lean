/- Joined by a program: NatM, NatN, NatO. -/
import Derived.RangeFuncNested
import Derived.RangeFuncBound
import Derived.RangeFuncCalls
import Derived.RangeFuncLeaves
import Derived.Shelf.Abstract
import Derived.Shelf.RegionOpen
import Derived.OwnWalkIn
import Derived.TacticsInMore
import Derived.LoopNIn
import Derived.LoopIn
import Derived.Test.YtebgmlbbilcbbaaGreatDoorNatThree
import Derived.Test.YtebgmlbbilcbbaaGreatDoorPlainAll
import Derived.Deep.QuietTactic
import Derived.BigQuiet
namespace Go.Proofs.YtebgmlbbilcbbaaGreatDoor
open Go.RowKit Go.Shelf
attribute [local go_sem] Oper.semAt_some

theorem binary_any (s : ByteArray) (w : World) :
    Calls Tryz.prog 166 #[.string s] w fun e w' => e = .returned (.func (.func 200) #[] #[.pointer (some ⟨w.heap.size, 0, none⟩)]) ∧ w.alloc (.cells #[.string s] 25) = w' := by
  go_enter Tryz.func166, Tryz.ntmps166
  go_wp2_with fail
  go_ret
  exact ⟨rfl, rfl⟩

/-- A block is as it was. -/
def SameBlk (b : Nat) (W W' : World) : Prop := W'.heap[b]? = W.heap[b]?
theorem sameBlk_t {b : Nat} {A B C : World} (h : SameBlk b A B) (k : SameBlk b B C) : SameBlk b A C := Eq.trans k h
theorem sameBlk_b {b : Nat} {w : World} (hb : b < w.heap.size) (W : World) (l : Nat) (o o' : Obj) (hl : w.heap.size ≤ l) (h : W.heap[l]? = some o) (_ : o.isCells = false) (_ : o.isWalk = false) : SameBlk b W (W.putObj l o') :=
  (grownBy_putObj' W l o').block b (by have := (Array.getElem?_eq_some_iff.1 h).1; omega) (fun e => by cases e; omega)

set_option maxRecDepth 100000 in
set_option maxHeartbeats 2000000 in
theorem binary_stops (n Bn : Nat) (_hn : 1 ≤ n) (s : ByteArray) (hs : s.size ≤ 100000) (w : World) (hle : Bn < w.heap.size) (hc : w.cell? ⟨Bn, 0, none⟩ = some (.string s)) :
    SeqStopsK Fence.wide n Tryz.prog 200 #[.pointer (some ⟨Bn, 0, none⟩)] (fun b : Bool => #[.bool b]) (SameBlk Bn) (fun xs => xs = binL (sval s)) (fun _ => True) (bitsN (sval s)) w := fun l J Jx W hbW _ _ hY h0 => by
  have hcW : W.cell? ⟨Bn, 0, none⟩ = some (.string s) := (hbW.cell (p := ⟨Bn, 0, none⟩) (by show Bn < _; omega)).trans hc
  have hbits : bitsN (sval s) ≤ 8 * s.size := bitsN_le (by have := sval_lt s; rw [P8_two, Nat.mul_comm] at this; exact this)
  refine callsIn_of_wp Tryz.func200 rfl trivial ?_ rfl
  simp only [Tryz.ntmps200, List.size_toArray, List.length_cons, List.length_nil, Nat.reduceAdd, Nat.reduceSub, Array.replicate_succ, Array.replicate_zero, List.push_toArray, List.append_toArray, List.nil_append, List.cons_append]
  have HY := Lib.hid hY
  have HC := Lib.hid hc
  clear hY hc
  gi_wp2_with fail
  refine ⟨trivial, ?_⟩
  refine (callsIn_wide.2 (Bits_any s _ hs)).mono ?_
  rintro e w' ⟨rfl, rfl⟩
  obtain ⟨K, hK⟩ : ∃ K, K = bitsN (sval s) := ⟨_, rfl⟩
  rw [← hK] at hbits HY ⊢
  have HK := Lib.hid hK
  clear hK
  gi_wp2_with fail
  gi_loopw [3] (fun s3 wr => ∃ k : Nat, k ≤ K ∧ s3 = .int .i64 ((k : Int) - 1) ∧ J (bitsTo (sval s) K (K - k)) wr ∧ wr.cell? ⟨Bn, 0, none⟩ = some (.string s)) (fun s3 _ => (intOf s3 + 1).toNat)
  case atStart => exact ⟨K, Nat.le_refl _, rfl, by rw [Nat.sub_self]; exact h0, hcW⟩
  case round =>
    obtain ⟨k, hk, rfl, hJ, hcr⟩ := hrel
    by_cases hk0 : 0 < k
    · obtain ⟨i, rfl⟩ : ∃ i, k = i + 1 := ⟨k - 1, by omega⟩
      rw [show ((i + 1 : Nat) : Int) - 1 = (i : Int) by omega]
      obtain ⟨j, hj⟩ : ∃ j, j = s.size - 1 - i / 8 := ⟨_, rfl⟩
      have hj2 : (s.size : Int) - 1 - (i : Int) / 8 = (j : Int) := by omega
      have hjl : j < s.size := by omega
      have hjl2 : (j : Int) < (s.size : Int) := by omega
      have hj0 : (0 : Int) ≤ (j : Int) := by omega
      have hbyte : sval s / P8 (i / 8) % 256 = s[j].toNat := byte_lv _ _ _ (rev_byte s hj (by omega) hjl)
      have hbit := bit_byte hbyte
      have hbl := s[j].toNat_lt
      have hbe : (bits BinOp.and IntKind.u8 ((s[j].toNat : Int) / 2 ^ (i % 8)) 1 == 1) = bitB (sval s) i := by
        rw [hbit]
        have e := u8_and_nat (s[j].toNat / 2 ^ (i % 8)) 1 (Nat.lt_of_le_of_lt (Nat.div_le_self _ _) (by omega)) (by omega)
        rw [show (1 : Nat) = 2 ^ 1 - 1 by rfl, Nat.and_two_pow_sub_one_eq_mod] at e
        have e2 : ((s[j].toNat / 2 ^ (i % 8) : Nat) : Int) = (s[j].toNat : Int) / 2 ^ (i % 8) := by simp
        rw [e2] at e
        have e3 : bits BinOp.and IntKind.u8 ((s[j].toNat : Int) / 2 ^ (i % 8)) 1 = ((s[j].toNat / 2 ^ (i % 8) % 2 : Nat) : Int) := e
        rw [e3, Bool.eq_iff_iff]
        simp only [beq_iff_eq]
        omega
      have HJ := Lib.hid hj
      clear hj hbyte hbit hbl
      obtain ⟨fn, tmps, assign, body, hy, hR⟩ := HY.out (bitsTo (sval s) K (K - (i + 1))) (bitB (sval s) i) wr hJ (by rw [bitsTo_length]; omega)
      gi_wp2_with fail
      refine hR.mono ?_
      rintro e W3 (⟨rfl, hJ3, hk3⟩ | ⟨rfl, hJx3⟩)
      · have hc3 : W3.cell? ⟨Bn, 0, none⟩ = some (.string s) := (World.cell?_of_block (w := wr) (a := ⟨Bn, 0, none⟩) hk3).trans hcr
        gi_wp2_with fail
        go_roundw
        case rel => exact ⟨i, by omega, rfl, by rw [show K - i = (K - (i + 1)) + 1 by omega, bitsTo_succ, show K - 1 - (K - (i + 1)) = i by omega]; exact hJ3, hc3⟩
        case measure => simp [intOf]
      · gi_wp2_with fail
        refine bodyPost_ret (results_none rfl _ _ _) rfl ?_
        exact ⟨⟨_, rfl⟩, .inr ⟨_, trivial, hJx3⟩⟩
    · obtain rfl : k = 0 := by omega
      gi_wp2_with fail
      go_end0
      refine ⟨⟨_, rfl⟩, .inl ⟨_, ?_, hJ⟩⟩
      rw [Nat.sub_zero, HK.out]
      rfl

end Go.Proofs.YtebgmlbbilcbbaaGreatDoor
namespace Go.Proofs.YtebgmlbbilcbbaaGreatDoor
open Go.RowKit

set_option maxHeartbeats 1000000 in
theorem newMontgomery_any (A : Option Addr) (n c : Nat) (ms : List Nat) (m0 : Nat) (w : World) (h : Dig w A n c ms) (h0 : ms[0]? = some m0) (hodd : m0 % 2 = 1) :
    Calls Tryz.prog 197 #[.slice A n c] w fun e w' => ∃ inv : Nat, e = .returned (.agg #[.slice A n c, .int .u32 (inv : Int)]) ∧ inv < 4294967296 ∧ ((m0 : Int) * inv + 1) % 4294967296 = 0 ∧ Below w.heap.size w w' := by
  have hn0 : 0 < n := by
    rw [← h.len]
    exact (List.getElem?_eq_some_iff.1 h0).1
  obtain ⟨b, o, m0', rfl, hm, hml, hmc⟩ := h.get hn0
  obtain rfl : m0' = m0 := by rw [h0] at hm; simpa using hm.symm
  rw [Nat.add_zero] at hmc
  have hmc2 : (w.alloc (.cells #[.slice none 0 0, .int .u32 0] 211)).cell? ⟨b, o, none⟩ = some (.int .u32 (m0' : Int)) := (World.cell?_alloc_lt _ _ _ (block_lt_of_cell hmc)).trans hmc
  clear hm h0
  go_enter Tryz.func197, Tryz.ntmps197
  go_wp2_with fail
  go_loop [3, 7] (fun s3 s7 => ∃ (k v : Nat), k ≤ 5 ∧ s7 = .int .i64 (k : Int) ∧ s3 = .int .u32 (v : Int) ∧ v < 4294967296 ∧ Hid (((2 : Int) ^ invBits k) ∣ ((m0' : Int) * v - 1))) (fun _ s7 => 5 - (intOf s7).toNat)
  case atStart => exact ⟨0, m0', by omega, rfl, rfl, hml, odd_square m0' hodd⟩
  case round =>
    obtain ⟨k, v, hk, rfl, rfl, hv, HI⟩ := hrel
    by_cases hlt : k < 5
    · go_wp2_with fail
      go_round
      case rel =>
        have hnn : 0 ≤ (v : Int) * ((2 - (m0' : Int) * v) % 4294967296) % 4294967296 := Int.emod_nonneg _ (by omega)
        have hll : (v : Int) * ((2 - (m0' : Int) * v) % 4294967296) % 4294967296 < 4294967296 := Int.emod_lt_of_pos _ (by omega)
        obtain ⟨u, hu⟩ := Int.eq_ofNat_of_zero_le hnn
        refine ⟨k + 1, u, by omega, by go_num, by rw [hu], by omega, ?_⟩
        have e := inv_step HI.out
        have e2 : (2 - (m0' : Int) * v % 4294967296) % 4294967296 = (2 - (m0' : Int) * v) % 4294967296 := by omega
        rw [e2, hu] at e
        exact e
      case measure => simp [intOf]; omega
    · obtain rfl : k = 5 := by omega
      go_wp2_with fail
      have hnn : 0 ≤ -(v : Int) % 4294967296 := Int.emod_nonneg _ (by omega)
      have hll : -(v : Int) % 4294967296 < 4294967296 := Int.emod_lt_of_pos _ (by omega)
      obtain ⟨u, hu⟩ := Int.eq_ofNat_of_zero_le hnn
      have hend := inv_end HI.out (u := (u : Int)) hu.symm
      rw [hu]
      exact bodyPost_ret (v := .agg #[.slice (some ⟨b, o, none⟩) n c, .int .u32 (u : Int)]) (by simp [results, Tryz.results197, go_sem]) rfl ⟨u, rfl, by omega, hend, (Below.refl _ _).alloc (Nat.le_refl _) _⟩

end Go.Proofs.YtebgmlbbilcbbaaGreatDoor
namespace Go.Proofs.YtebgmlbbilcbbaaGreatDoor
open Go.RowKit

set_option maxRecDepth 100000 in
set_option maxHeartbeats 4000000 in
theorem product_any (A : Option Addr) (n c : Nat) (ms : List Nat) (inv : Nat) (A1 : Option Addr) (c1 : Nat) (xs : List Nat) (A2 : Option Addr) (c2 : Nat) (ys : List Nat) (m0 : Nat) (w : World)
    (hM : Dig w A n c ms) (hX : Dig w A1 n c1 xs) (hY : Dig w A2 n c2 ys) (tM : Trim ms) (hm0 : ms[0]? = some m0) (hi1 : ((m0 : Int) * inv + 1) % 4294967296 = 0) (hn : n ≤ 100000) (hxm : val xs < val ms) :
    Calls Tryz.prog 198 #[.agg #[.slice A n c, .int .u32 (inv : Int)], .slice A1 n c1, .slice A2 n c2] w fun e w' => (∃ R : Nat, GivesN w' n R e ∧ R < val ms ∧ R * P32 n % val ms = val xs * val ys % val ms) ∧ Below w.heap.size w w' := by
  have hn0 : 0 < n := by
    rw [← hM.len]
    exact (List.getElem?_eq_some_iff.1 hm0).1
  have hmk := make_u32 (n + 2) (by omega)
  rw [show ((n + 2 : Nat) : Int) = (n : Int) + 2 by omega] at hmk
  have HI1 := Lib.hid hi1
  have HM0 := Lib.hid hm0
  have HXM := Lib.hid hxm
  clear hi1 hm0 hxm
  go_enter Tryz.func198, Tryz.ntmps198
  go_wp2_with fail
  go_loopw [24] (fun s24 wr => ∃ (i : Nat) (t : List Nat) (Q : Nat), i ≤ n ∧ s24 = .int .i64 (i : Int) ∧ Hid (t.length = n + 2) ∧ Lt32 t ∧ Hid (val (t.take (n + 1)) * P32 i = val xs * val (ys.take i) + Q * val ms) ∧ Hid (Q < P32 i) ∧
    Blk wr w.heap.size 211 #[.slice A n c, .int .u32 (inv : Int)] ∧ Blk wr (w.heap.size + 1) 140 (u32s t) ∧ Below w.heap.size w wr) (fun s24 _ => n - (intOf s24).toNat)
  case atStart =>
    refine ⟨0, List.replicate (n + 2) 0, 0, by omega, rfl, by show _ = _; simp, Lt32.zeros _, ?_, ?_, (Blk.new _ _ _).alloc _, ?_, ((Below.refl _ _).alloc (Nat.le_refl _) _).alloc (by simp) _⟩
    · show _ = _
      rw [List.take_replicate, val_zeros, List.take_zero]
      simp [val]
    · show _ < _
      exact P32_pos 0
    · have := Blk.new (w.alloc (Obj.cells #[Value.slice A n c, Value.int IntKind.u32 (inv : Int)] 211)) 140 (u32s (List.replicate (n + 2) 0))
      rwa [World.size_alloc] at this
  case round =>
    obtain ⟨i, t, Q, hi, rfl, HTL, hlt, HI, HQ, hbG, hbH, hb⟩ := hrel
    by_cases hin : i < n
    · obtain ⟨b2, o2, d, rfl, hd, hdl, hdc⟩ := (hY.below hb).get hin
      have HD := Lib.hid hd
      clear hd
      obtain ⟨wo, rfl⟩ : ∃ wo : World, wo = wr := ⟨_, rfl⟩
      go_wp2_with fail
      go_loopw [11, 29] (fun s11 s29 wr => ∃ (j cy : Nat) (u : List Nat), j ≤ n ∧ s29 = .int .i64 (j : Int) ∧ s11 = .int .u64 (cy : Int) ∧ cy < 4294967296 ∧ Hid (u.length = n + 2) ∧ Lt32 u ∧ Hid (val (u.take (n + 1)) + P32 j * cy = val (t.take (n + 1)) + val (xs.take j) * d) ∧
        Blk wr w.heap.size 211 #[.slice A n c, .int .u32 (inv : Int)] ∧ Blk wr (w.heap.size + 1) 140 (u32s u) ∧ Below w.heap.size w wr) (fun _ s29 _ => n - (intOf s29).toNat)
      case atStart => exact ⟨0, 0, t, by omega, rfl, rfl, by omega, HTL, hlt, by simp [Hid, val], hbG, hbH, hb⟩
      case round =>
        obtain ⟨j, cy, u, hj, rfl, rfl, hcy, HUL, hut, HJ, hbG2, hbH2, hb2⟩ := hrel
        by_cases hjn : j < n
        · obtain ⟨b3, o3, x, rfl, hx, hxl, hxc⟩ := (hX.below hb2).get hjn
          have HX := Lib.hid hx
          clear hx
          obtain ⟨z, hz⟩ : ∃ z, u[j]? = some z := ⟨_, List.getElem?_eq_getElem (by rw [HUL.out]; omega)⟩
          have hzl := hut _ _ hz
          have hzc := hbH2.u32 hz
          have hzf := hbH2.frozen j
          have HZ := Lib.hid hz
          clear hz
          have hxy : (x : Int) * d ≤ 18446744065119617025 := by
            have : x * d ≤ 4294967295 * 4294967295 := Nat.mul_le_mul (by omega) (by omega)
            have : ((x * d : Nat) : Int) ≤ 18446744065119617025 := by omega
            simpa using this
          have hxy0 : 0 ≤ (x : Int) * d := by
            have : 0 ≤ ((x * d : Nat) : Int) := by omega
            simpa using this
          go_wp2_with fail
          go_quiet (fail)
          go_wp2_with fail
          go_roundw
          case rel =>
            have hxyn : x * d ≤ 18446744065119617025 := Nat.mul_le_mul (show x ≤ 4294967295 by omega) (show d ≤ 4294967295 by omega)
            refine ⟨j + 1, (cy + (x * d + z)) / 4294967296, u.set j ((cy + (x * d + z)) % 4294967296), by omega, by go_num, by simp, by omega, by show _ = _; rw [List.length_set]; exact HUL.out, hut.set (by omega), ?_, hbG2.far (by simp) _, ?_, (below_drewN hb2 _).setCell (by simp) _⟩
            · show _ = _
              rw [List.take_set, val_take_succ HX.out]
              exact mont_in (by rw [List.getElem?_take, if_pos (by omega)]; exact HZ.out) HJ.out
            · have e := hbH2.put32 j ((cy + (x * d + z)) % 4294967296)
              simp only [Int.natCast_emod, Int.natCast_add, Int.natCast_mul, Int.cast_ofNat_Int] at e
              exact e
          case measure => simp [intOf]; omega
        · obtain rfl : n = j := by omega
          obtain ⟨tn, htn⟩ : ∃ z, u[n]? = some z := ⟨_, List.getElem?_eq_getElem (by rw [HUL.out]; omega)⟩
          obtain ⟨t1, ht1⟩ : ∃ z, u[n + 1]? = some z := ⟨_, List.getElem?_eq_getElem (by rw [HUL.out]; omega)⟩
          have htnl := hut _ _ htn
          have htnc := hbH2.u32 htn
          have htnf := hbH2.frozen n
          have ht1c := hbH2.u32 ht1
          have ht1f := hbH2.frozen (n + 1)
          obtain ⟨a, ha⟩ : ∃ a, a = (cy + tn) % 4294967296 := ⟨_, rfl⟩
          obtain ⟨b, hb'⟩ : ∃ b, b = (cy + tn) / 4294967296 := ⟨_, rfl⟩
          have ha2 : ((cy : Int) + tn) % 4294967296 = (a : Int) := by omega
          have hb2' : ((cy : Int) + tn) / 4294967296 = (b : Int) := by omega
          have hal : a < 4294967296 := by omega
          have hbl : b ≤ 1 := by omega
          have hsum := mont_sum HUL.out htn ht1 HJ.out
          rw [← ha, ← hb'] at hsum
          have HSUM := Lib.hid hsum
          have HTN := Lib.hid htn
          have HT1 := Lib.hid ht1
          clear hsum htn ht1 ha hb'
          go_upto_region 16 with fail
          have hbS : Blk ((wr.setCell ⟨w.heap.size + 1, n, none⟩ (.int .u32 (a : Int))).setCell ⟨w.heap.size + 1, n + 1, none⟩ (.int .u32 (b : Int))) (w.heap.size + 1) 140 (u32s ((u.set n a).set (n + 1) b)) := (hbH2.put32 n a).put32 (n + 1) b
          have hbGS : Blk ((wr.setCell ⟨w.heap.size + 1, n, none⟩ (.int .u32 (a : Int))).setCell ⟨w.heap.size + 1, n + 1, none⟩ (.int .u32 (b : Int))) w.heap.size 211 #[.slice A n c, .int .u32 (inv : Int)] := (hbG2.far (by simp) _).far (by simp) _
          have hbbS : Below w.heap.size w ((wr.setCell ⟨w.heap.size + 1, n, none⟩ (.int .u32 (a : Int))).setCell ⟨w.heap.size + 1, n + 1, none⟩ (.int .u32 (b : Int))) := (hb2.setCell (by simp) _).setCell (by simp) _
          generalize ((wr.setCell ⟨w.heap.size + 1, n, none⟩ (.int .u32 (a : Int))).setCell ⟨w.heap.size + 1, n + 1, none⟩ (.int .u32 (b : Int))) = W1 at hbS hbGS hbbS ⊢
          obtain ⟨S, hS⟩ : ∃ S, S = (u.set n a).set (n + 1) b := ⟨_, rfl⟩
          have hSl : S.length = n + 2 := by rw [hS, List.length_set, List.length_set]; exact HUL.out
          have hSt : Lt32 S := by rw [hS]; exact (hut.set hal).set (by omega)
          have hS1 : S[n + 1]? = some b := by rw [hS, List.getElem?_set_self (by rw [List.length_set, HUL.out]; omega)]
          have hSn : S[n]? = some a := by rw [hS, List.getElem?_set_ne (by omega), List.getElem?_set_self (by rw [HUL.out]; omega)]
          rw [← hS] at hbS HSUM
          have HSL := Lib.hid hSl
          have HS1 := Lib.hid hS1
          have HSN := Lib.hid hSn
          clear hS hSl hS1 hSn htnc htnf ht1c ht1f hbH2 hbG2 hb2 ha2 hb2' HTN HT1 HJ HUL hut htnl
          obtain ⟨s0, hs0⟩ : ∃ z, S[0]? = some z := ⟨_, List.getElem?_eq_getElem (by rw [HSL.out]; omega)⟩
          have hs0l := hSt _ _ hs0
          have hs0c := hbS.u32 hs0
          have hG0 : W1.cell? ⟨w.heap.size, 0, none⟩ = some (.slice A n c) := hbGS.cell 0
          have hG1 : W1.cell? ⟨w.heap.size, 1, none⟩ = some (.int .u32 (inv : Int)) := hbGS.cell 1
          obtain ⟨b4, o4, m0', rfl, hm0', hm0l, hm0c⟩ := (hM.below hbbS).get hn0
          obtain rfl : m0' = m0 := by have := HM0.out; rw [hm0'] at this; simpa using this
          rw [Nat.add_zero] at hm0c
          obtain ⟨f, hf⟩ : ∃ f, f = s0 * inv % 4294967296 := ⟨_, rfl⟩
          have hf2 : (s0 : Int) * inv % 4294967296 = (f : Int) := by rw [hf]; simp
          have hfl : f < 4294967296 := by rw [hf]; exact Nat.mod_lt _ (by omega)
          obtain ⟨k0, hk0⟩ : ∃ k, k = (f * m0' + s0) / 4294967296 := ⟨_, rfl⟩
          have hk2 : ((f : Int) * m0' + s0) / 4294967296 = (k0 : Int) := by rw [hk0]; simp
          have hfm : f * m0' ≤ 4294967295 * 4294967295 := Nat.mul_le_mul (by omega) (by omega)
          have hk0l : k0 < 4294967296 := by omega
          have hfm2 : (f : Int) * m0' ≤ 18446744065119617025 := by
            have : ((f * m0' : Nat) : Int) ≤ 18446744065119617025 := by omega
            simpa using this
          have hfm0 : 0 ≤ (f : Int) * m0' := by
            have : 0 ≤ ((f * m0' : Nat) : Int) := by omega
            simpa using this
          have hstart := mont_start hf HI1.out hk0 hs0 hm0'
          have HSTART := Lib.hid hstart
          have HS0 := Lib.hid hs0
          have HF := Lib.hid hf
          clear hstart hs0 hf hk0 hm0' hfm
          go_quiet (fail)
          go_wp2_with fail
          go_quiet (fail)
          go_wp2_with fail
          go_loopw [11, 14] (fun s11 s14 wr => ∃ (j cy : Nat) (out : List Nat), j ≤ n ∧ s14 = .int .i64 (j : Int) ∧ s11 = .int .u64 (cy : Int) ∧ cy < 4294967296 ∧ Hid (out.length + 1 = j) ∧ 1 ≤ j ∧ Lt32 out ∧ Hid (4294967296 * val out + P32 j * cy = val (S.take j) + f * val (ms.take j)) ∧
            Blk wr w.heap.size 211 #[.slice (some ⟨b4, o4, none⟩) n c, .int .u32 (inv : Int)] ∧ Blk wr (w.heap.size + 1) 140 (u32s (out ++ S.drop (j - 1))) ∧ Below w.heap.size w wr) (fun _ s14 _ => n - (intOf s14).toNat)
          case atStart => exact ⟨1, k0, [], by omega, rfl, rfl, hk0l, rfl, Nat.le_refl _, Lt32.nil, HSTART, hbGS, hbS, below_drewN (below_drewN hbbS _) _⟩
          case round =>
            obtain ⟨j, cy, out, hj, rfl, rfl, hcy, HOL, hj1, hot, HJ, hbG3, hbH3, hb3⟩ := hrel
            have hG0' : wr.cell? ⟨w.heap.size, 0, none⟩ = some (.slice (some ⟨b4, o4, none⟩) n c) := hbG3.cell 0
            obtain ⟨p, hp⟩ : ∃ z, S[j - 1]? = some z := ⟨_, List.getElem?_eq_getElem (by rw [HSL.out]; omega)⟩
            have hpc := hbH3.u32 (mont_get HOL.out (Nat.le_refl _) hp)
            have hpf := hbH3.frozen (j - 1)
            have HP := Lib.hid hp
            clear hp
            by_cases hjn : j < n
            · obtain ⟨b5, o5, m, he5, hm, hml, hmc⟩ := (hM.below hb3).get hjn
              cases he5
              obtain ⟨sj, hsj⟩ : ∃ z, S[j]? = some z := ⟨_, List.getElem?_eq_getElem (by rw [HSL.out]; omega)⟩
              have hsjl := hSt _ _ hsj
              have hsjc := hbH3.u32 (mont_get HOL.out (by omega) hsj)
              have HSJ := Lib.hid hsj
              have HM := Lib.hid hm
              clear hsj hm
              have hfmn : f * m ≤ 4294967295 * 4294967295 := Nat.mul_le_mul (by omega) (by omega)
              have hfm3 : (f : Int) * m ≤ 18446744065119617025 := by
                have : ((f * m : Nat) : Int) ≤ 18446744065119617025 := by omega
                simpa using this
              have hfm4 : 0 ≤ (f : Int) * m := by
                have : 0 ≤ ((f * m : Nat) : Int) := by omega
                simpa using this
              obtain ⟨F, hF⟩ : ∃ F, F = (cy + (f * m + sj)) % 4294967296 := ⟨_, rfl⟩
              obtain ⟨K, hK⟩ : ∃ K, K = (cy + (f * m + sj)) / 4294967296 := ⟨_, rfl⟩
              have hF2 : ((cy : Int) + ((f : Int) * m + sj)) % 4294967296 = (F : Int) := by rw [hF]; simp
              have hK2 : ((cy : Int) + ((f : Int) * m + sj)) / 4294967296 = (K : Int) := by rw [hK]; simp
              have hFl : F < 4294967296 := by rw [hF]; exact Nat.mod_lt _ (by omega)
              have hKl : K < 4294967296 := by omega
              have hnew := mont_out HOL.out HSJ.out HM.out HJ.out hF hK
              have HNEW := Lib.hid hnew
              clear hnew hF hK hfmn
              go_wp2_with fail
              go_quiet (fail)
              go_wp2_with fail
              go_roundw
              case rel =>
                refine ⟨j + 1, K, out ++ [F], by omega, by go_num, ?_, hKl, ?_, by omega, hot.snoc hFl, HNEW, hbG3.far (by simp) _, ?_, (below_drewN hb3 _).setCell (by simp) _⟩
                · first | rfl | rw [hK2]
                · show _ = _
                  rw [List.length_append, List.length_singleton, HOL.out]
                · have e := hbH3.put32 (j - 1) F
                  rw [mont_set HOL.out HP.out] at e
                  rw [show j + 1 - 1 = j by omega]
                  first | exact e | (rw [hF2]; exact e)
              case measure => simp [intOf]; omega
            · obtain rfl : n = j := by omega
              have hanc := hbH3.u32 (mont_get HOL.out (by omega) HSN.out)
              have hanf := hbH3.frozen n
              have hbnc := hbH3.u32 (mont_get HOL.out (by omega) HS1.out)
              obtain ⟨F, hF⟩ : ∃ F, F = (cy + a) % 4294967296 := ⟨_, rfl⟩
              obtain ⟨K, hK⟩ : ∃ K, K = (cy + a) / 4294967296 := ⟨_, rfl⟩
              have hF2 : ((cy : Int) + a) % 4294967296 = (F : Int) := by omega
              have hK2 : ((cy : Int) + a) / 4294967296 = (K : Int) := by omega
              have hFl : F < 4294967296 := by omega
              have hKl : K ≤ 1 := by omega
              have hfin := mont_end (t1 := b) HOL.out HSL.out HSN.out HS1.out hM.len HJ.out
              rw [← hF, ← hK, HSUM.out] at hfin
              have HFIN := Lib.hid hfin
              clear hfin hF hK
              have hxt : val (xs.take n) = val xs := val_take_all (by rw [hX.len]; omega)
              rw [hxt] at HFIN
              have hrnd := mont_round HI.out HFIN.out HQ.out hfl
              have HRND := Lib.hid hrnd
              clear hrnd hxt
              have htk : (out ++ [F, b + K] ++ [b]).take (n + 1) = out ++ [F, b + K] := by
                rw [List.take_append_of_le_length (by simp; have := HOL.out; omega), List.take_of_length_le (by simp; have := HOL.out; omega)]
              have htl : (out ++ [F, b + K] ++ [b]).length = n + 2 := by simp; have := HOL.out; omega
              have htt : Lt32 (out ++ [F, b + K] ++ [b]) := ((hot.snoc hFl).append (Lt32.one (show b + K < 4294967296 by omega))).append (Lt32.one (show b < 4294967296 by omega)) |> fun h => by simpa using h
              have hll := mont_last (a := F) (b := b + K) HOL.out HSL.out HP.out HSN.out HS1.out
              have HTK := Lib.hid htk
              have HTL2 := Lib.hid htl
              have HLL := Lib.hid hll
              clear htk htl hll
              go_wp2_with fail
              go_roundw
              case rel =>
                refine ⟨i + 1, out ++ [F, b + K] ++ [b], Q + P32 i * f, by omega, by go_num, HTL2, htt, ?_, HRND.out.2, (hbG3.far (by simp) _).far (by simp) _, ?_, (hb3.setCell (by simp) _).setCell (by simp) _⟩
                · show _ = _
                  rw [HTK.out, val_take_succ HD.out]
                  exact HRND.out.1
                · have e := (hbH3.put32 (n - 1) F).put32 n (b + K)
                  rw [HLL.out] at e
                  simpa using e
              case measure => simp [intOf]; omega
    · obtain rfl : n = i := by omega
      have hyt : val (ys.take n) = val ys := val_take_all (by rw [hY.len]; omega)
      rw [hyt] at HI
      clear hyt
      have hyl : val ys < P32 n := by have := val_lt hY.lt; rwa [hY.len] at this
      have hbd := mont_bound HI.out HQ.out hyl HXM.out
      have HBD := Lib.hid hbd
      clear hbd hyl
      have htd := (hbH.dig hlt (n := n + 2) (c := n + 2) HTL.out (Nat.le_refl _)).take (m := n + 1) (by omega)
      have hG0' : wr.cell? ⟨w.heap.size, 0, none⟩ = some (.slice A n c) := hbG.cell 0
      have hMr := hM.below hb
      go_wp2_with fail
      refine (trim_gives _ _ _ _ _ htd (by omega)).mono ?_
      rintro e wx ⟨⟨Az, mz, cz, zs, rfl, hdz, htz, hvz⟩, rfl⟩
      have hmz : mz ≤ n + 1 := by
        rw [← hdz.len]
        refine htz.len_le (n := n + 1) ?_
        rw [hvz]
        have := val_lt (hlt.take (n + 1))
        rwa [List.length_take, Nat.min_eq_left (by rw [HTL.out]; omega)] at this
      rw [← hvz] at HBD HI
      have HVZ := Lib.hid hvz
      clear hvz
      have hcm := compare_any _ _ _ _ _ _ _ _ _ hdz hMr (by omega) (by omega) htz tM
      rcases Nat.lt_or_ge (val zs) (val ms) with hlt2 | hge2
      · rw [cmpI_lt hlt2] at hcm
        have HC := Lib.hid hcm
        have HLT2 := Lib.hid hlt2
        clear hcm hlt2
        go_wp2_with fail
        refine HC.out.mono ?_
        rintro e w3 ⟨rfl, hb3⟩
        have hmz2 : mz ≤ n := by
          rw [← hdz.len]
          exact htz.len_le (Nat.lt_trans HLT2.out (by have := val_lt hM.lt; rwa [hM.len] at this))
        go_wp2_with fail
        refine (pad_any _ _ _ n _ _ (hdz.below hb3) hmz2 (by omega)).mono ?_
        rintro e w4 ⟨⟨A4, c4, z4, rfl, hd4, hv4⟩, hb4⟩
        have HV4 := Lib.hid hv4
        clear hv4
        go_wp2_with fail
        go_ret
        exact ⟨⟨val zs, ⟨_, _, _, rfl, hd4, HV4.out⟩, HLT2.out, mont_res HI.out (.inl rfl)⟩, below_then (below_then hb hb3) hb4⟩
      · obtain ⟨z, hz, hz0⟩ : ∃ z, cmpI (val zs) (val ms) = z ∧ 0 ≤ z := by
          rcases Nat.lt_or_ge (val ms) (val zs) with h1 | h1
          · exact ⟨1, cmpI_gt h1, by omega⟩
          · exact ⟨0, cmpI_eq (by omega), by omega⟩
        rw [hz] at hcm
        have hmm : n ≤ mz := by
          rcases Nat.lt_or_ge mz n with h1 | h1
          · exfalso
            have := tM.lt_of_len hdz.lt (by rw [hdz.len, hM.len]; exact h1)
            omega
          · exact h1
        have HC := Lib.hid hcm
        have HGE := Lib.hid hge2
        clear hcm hge2 hz
        go_wp2_with fail
        refine HC.out.mono ?_
        rintro e w3 ⟨rfl, hb3⟩
        have hG3 : w3.cell? ⟨w.heap.size, 0, none⟩ = some (.slice A n c) := (hb3.cell (p := ⟨w.heap.size, 0, none⟩) hbG.lt).trans hG0'
        go_wp2_with fail
        refine (subtract_any _ _ _ _ _ _ _ _ _ (hdz.below hb3) (hMr.below hb3) (by omega) hmm HGE.out).mono ?_
        rintro e w4 ⟨⟨A3, m3, c3, z3, rfl, hd3, ht3, hv3⟩, hb4⟩
        have hr : val z3 < val ms := by
          have := HBD.out
          have := HGE.out
          omega
        have hm3 : m3 ≤ n := by
          rw [← hd3.len]
          exact ht3.len_le (Nat.lt_trans hr (by have := val_lt hM.lt; rwa [hM.len] at this))
        have hadd : val z3 + val ms = val zs := by
          have := HGE.out
          omega
        have HR := Lib.hid hr
        have HADD := Lib.hid hadd
        clear hv3 hr hadd
        go_wp2_with fail
        refine (pad_any _ _ _ n _ _ hd3 hm3 (by omega)).mono ?_
        rintro e w5 ⟨⟨A4, c4, z4, rfl, hd4, hv4⟩, hb5⟩
        have HV4 := Lib.hid hv4
        clear hv4
        go_wp2_with fail
        go_ret
        exact ⟨⟨val z3, ⟨_, _, _, rfl, hd4, HV4.out⟩, HR.out, mont_res HI.out (.inr HADD.out)⟩, below_then (below_then (below_then hb hb3) hb4) hb5⟩

end Go.Proofs.YtebgmlbbilcbbaaGreatDoor
