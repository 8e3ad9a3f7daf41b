/- Locks: texts of hashes and boxes. -/
import Derived.Test.YtkpinmejfdnhbaaGreatDoorLockA
import Derived.Deep.MidRow
import Derived.BigRegion
import Derived.IntWalk
set_option maxRecDepth 100000
set_option maxHeartbeats 2000000
namespace Go.Proofs.YtkpinmejfdnhbaaGreatDoor
open Go.RowKit
theorem hex_at : ∀ q : Nat, q < 16 → (⟨#[48, 49, 50, 51, 52, 53, 54, 55, 56, 57, 97, 98, 99, 100, 101, 102]⟩ : ByteArray)[q]? = some (hexD q) := by
 have h : ∀ q : Fin 16, (⟨#[48, 49, 50, 51, 52, 53, 54, 55, 56, 57, 97, 98, 99, 100, 101, 102]⟩ : ByteArray)[q.val]? = some (hexD q.val) := by decide +kernel
 exact fun q hq => h ⟨q, hq⟩
theorem u8_and15 (b : Nat) (h : b < 256) : bits .and .u8 (b : Int) 15 = ((b % 16 : Nat) : Int) := by
 have h2 : ∀ b : Fin 256, bits .and .u8 (b.val : Int) 15 = ((b.val % 16 : Nat) : Int) := by decide +kernel
 exact h2 ⟨b, h⟩
theorem run_hash_at {h : List UInt8} {i : Nat} (hi : i < 32) {b : UInt8} (hb : h[i]? = some b) (W : World) : (Instr.index 38 (.agg (u8a h)) (.int .i64 (i : Int))).run Tryz.prog W = .ok (.int .u8 (b.toNat : Int)) W := by
 have hg := u8a_get hb;have h1 : ¬ 32 ≤ i := by omega
 simp [Instr.index, run_underlying Tryz.underlying38, asIntOf, go_sem, part, hg, h1]
theorem upto_far {N : Nat} {l : List UInt8} {k j : Nat} (hl : l.length = N) (hk : k ≤ j) (hj : j < N) : (upto N l k)[j]? = some 0 := by
 unfold upto;rw [List.getElem?_append_right (by rw [List.length_take]; omega), List.length_take, List.getElem?_replicate, if_pos (by omega)]
theorem run_hex {q : Nat} (hq : q < 16) (W : World) : (Instr.index 9 (.string ⟨#[48, 49, 50, 51, 52, 53, 54, 55, 56, 57, 97, 98, 99, 100, 101, 102]⟩) (.int .u8 (q : Int))).run Tryz.prog W = .ok (.int .u8 ((hexD q).toNat : Int)) W := by
 have hg := hex_at q hq;simp only [Instr.index, run_underlying Tryz.underlying9, asIntOf, Sem.run_bind, Sem.run_pure, Result.andThen_ok];rw [if_pos (by omega), Int.toNat_natCast, hg]
 rfl
theorem Text_h (h : List UInt8) (hl : h.length = 32) : Ret 59 #[.agg (u8a h)] (.string (strB (hexL h))) := by
 intro w;have hsz : (u8a h).size = 32 := u8a_len hl;have HL := Lib.hid hl;clear hl;go_enter Tryz.func59, Tryz.ntmps59;go_upto_region 1 with fail;refine nameOne (u8a h) rfl ?_;intro w1 kh hB1;go_upto_region 2 with fail;refine nameOne (u8a (upto 64 (hexL h) 0)) (by rw [upto_zero]; rfl) ?_;intro w2 kb hB2;have hB := below_then hB1 hB2;replace kh := kh.below hB2 kh.lt;have hz := hB1.size;have hgb : w.heap.size ≤ w1.heap.size := hz;obtain ⟨B, hBe⟩ : ∃ B, B = w1.heap.size := ⟨_, rfl⟩;rw [← hBe] at kb hgb ⊢;clear hz hB1 hB2 hBe;go_upto_region 3 with (refine wpList_load_row rfl 38 _ rfl w.heap.size rfl _ (u8a h) (0, 0) _ kh Tryz.underlying38 rfl (by rw [hsz]; kernel_rfl) ?_);clear kh
 go_loopw [4, 5, 7] (fun _ _ s7 wr => ∃ i : Nat, i ≤ 32 ∧ s7 = .int .i64 (i : Int) ∧ Blk wr B 178 (u8a (upto 64 (hexL h) (2 * i))) ∧ Below w.heap.size w wr) (fun _ _ s7 _ => 32 - (intOf s7).toNat)
 case atStart => exact ⟨0, by omega, rfl, kb, hB⟩
 case round =>
  obtain ⟨i, hi, rfl, kb, hB⟩ := hrel
  by_cases hlt : i < 32
  ·obtain ⟨b, hb⟩ : ∃ b, h[i]? = some b := ⟨h[i]'(by rw [HL.out]; exact hlt), List.getElem?_eq_getElem _⟩;have hbv := UInt8.toNat_lt b;have hix := run_hash_at hlt hb;go_upto_region 5 with fail;obtain ⟨x, hx, hx16⟩ : ∃ x : Nat, x = b.toNat / 16 ∧ x < 16 := ⟨_, rfl, by omega⟩;obtain ⟨y, hy, hy16⟩ : ∃ y : Nat, y = b.toNat % 16 ∧ y < 16 := ⟨_, rfl, by omega⟩;have ex : (b.toNat : Int) / 16 = (x : Int) := by omega
   have ey : bits .and .u8 (b.toNat : Int) 15 = (y : Int) := by rw [u8_and15 _ hbv, hy]
   have h1 := run_hex hx16;have h2 := run_hex hy16;have hd1 : (hexL h)[2 * i]? = some (hexD x) := by rw [hx]; exact hex_get1 hb
   have hd2 : (hexL h)[2 * i + 1]? = some (hexD y) := by rw [hy]; exact hex_get2 hb
   have HD := Lib.hid (And.intro hd1 hd2);have w1 : IntKind.i64.wrap (2 * (i : Int)) = 2 * (i : Int) := IntWalk.i64_in _ (by omega);have w2 : IntKind.i64.wrap (2 * (i : Int) + 1) = 2 * (i : Int) + 1 := IntWalk.i64_in _ (by omega);have b1 : (0 : Int) ≤ 2 * (i : Int) := by omega
   have b2 : 2 * (i : Int) < 64 := by omega
   have b3 : 2 * (i : Int) + 1 < 64 := by omega
   have b4 : (0 : Int) ≤ 2 * (i : Int) + 1 := by omega
   have f1 := kb.frozen (2 * i);have f2 := kb.frozen (2 * i + 1);clear hd1 hd2 hx hy;have hHl : (hexL h).length = 64 := by rw [hexL_len, HL.out]
   have c1 : wr.cell? ⟨B, 2 * i, none⟩ = some (.int .u8 0) := kb.u8A (upto_far hHl (Nat.le_refl _) (by omega));have c2 : wr.cell? ⟨B, 2 * i + 1, none⟩ = some (.int .u8 0) := kb.u8A (upto_far hHl (by omega) (by omega))
   go_region
   go_wp2_with fail;go_roundw
   case rel =>
    refine ⟨i + 1, by omega, by go_num, ?_, below_set (below_set hB.drew (p := ⟨B, _, none⟩) hgb _) (p := ⟨B, _, none⟩) hgb _⟩;have k1 : Blk wr.drew B 178 (u8a (upto 64 (hexL h) (2 * i))) := kb;have k2 := k1.put8A (2 * i) (hexD x);rw [upto_set hHl (by omega) HD.out.1] at k2;have k3 := k2.put8A (2 * i + 1) (hexD y);rw [upto_set hHl (by omega) HD.out.2] at k3;exact k3
   case measure => simp [intOf]; omega
  ·obtain rfl : i = 32 := by omega
   have hHl : (hexL h).length = 64 := by rw [hexL_len, HL.out]
   rw [upto_end hHl] at kb;have hcv := run_bdg_str (kb.bdg (n := 64) (c := 64) hHl (by omega));go_wp2_with fail;go_ret;exact ⟨rfl, hB⟩
theorem hex_cut : ∀ q : Nat, q < 16 → (⟨#[48, 49, 50, 51, 52, 53, 54, 55, 56, 57, 97, 98, 99, 100, 101, 102]⟩ : ByteArray).extract q (q + 1) = ⟨#[hexD q]⟩ := by
 have h : ∀ q : Fin 16, ((⟨#[48, 49, 50, 51, 52, 53, 54, 55, 56, 57, 97, 98, 99, 100, 101, 102]⟩ : ByteArray).extract q.val (q.val + 1)).data.toList = [hexD q.val] := by decide +kernel
 exact fun q hq => bytes_eq (h ⟨q, hq⟩)
theorem strB_snoc (l : List UInt8) (b : UInt8) : strB l ++ ⟨#[b]⟩ = strB (l ++ [b]) := bytes_eq (by
 rw [ByteArray.data_append, Array.toList_append, strB_list, strB_list])
theorem take_two {l : List UInt8} {i : Nat} {a b : UInt8} (h1 : l[2 * i]? = some a) (h2 : l[2 * i + 1]? = some b) : l.take (2 * (i + 1)) = l.take (2 * i) ++ [a] ++ [b] := by
 rw [show 2 * (i + 1) = 2 * i + 1 + 1 by omega, List.take_add_one, List.take_add_one, h1, h2]
 simp
theorem rText_h (h : List UInt8) (hl : h.length = 32) : Ret 71 #[.agg (u8a h)] (.string (strB (hexL h))) := by
 intro w;have HL := Lib.hid hl;clear hl;go_enter Tryz.func71, Tryz.ntmps71;go_upto_region 1 with fail;refine nameOne (u8a h) rfl ?_;intro w1 kh hB;obtain ⟨B, hBe⟩ : ∃ B, B = w.heap.size := ⟨_, rfl⟩;rw [← hBe] at kh ⊢;clear hBe;go_wp2_with fail
 go_loopw [3, 4] (fun s3 s4 wr => ∃ i : Nat, i ≤ 32 ∧ s4 = .int .i64 (i : Int) ∧ s3 = .string (strB ((hexL h).take (2 * i))) ∧ Blk wr B 38 (u8a h) ∧ Below w.heap.size w wr) (fun _ s4 _ => 32 - (intOf s4).toNat)
 case atStart => exact ⟨0, by omega, rfl, rfl, kh, hB⟩
 case round =>
  obtain ⟨i, hi, rfl, rfl, kh, hB⟩ := hrel;have hHl : (hexL h).length = 64 := by rw [hexL_len, HL.out]
  by_cases hlt : i < 32
  ·obtain ⟨b, hb⟩ : ∃ b, h[i]? = some b := ⟨h[i]'(by rw [HL.out]; exact hlt), List.getElem?_eq_getElem _⟩;have hbv := UInt8.toNat_lt b;have c0 := kh.u8A hb;obtain ⟨x, hx, hx16⟩ : ∃ x : Nat, x = b.toNat / 16 ∧ x < 16 := ⟨_, rfl, by omega⟩;obtain ⟨y, hy, hy16⟩ : ∃ y : Nat, y = b.toNat % 16 ∧ y < 16 := ⟨_, rfl, by omega⟩;have ex : (b.toNat : Int) / 16 = (x : Int) := by omega
   have ex' : (b.toNat : Int).tdiv 16 = (x : Int) := by rw [Int.tdiv_eq_ediv_of_nonneg (by omega)]; omega
   have ey : (b.toNat : Int).tmod 16 = (y : Int) := by rw [Int.tmod_eq_emod_of_nonneg (by omega)]; omega
   have wx : IntKind.u8.wrap (x : Int) = (x : Int) := by rw [u8_wrap]; omega
   have wy : IntKind.u8.wrap (y : Int) = (y : Int) := by rw [u8_wrap]; omega
   have wx1 : IntKind.u8.wrap ((x : Int) + 1) = ((x + 1 : Nat) : Int) := by rw [u8_wrap]; omega
   have wy1 : IntKind.u8.wrap ((y : Int) + 1) = ((y + 1 : Nat) : Int) := by rw [u8_wrap]; omega
   have hx1 := hex_cut x hx16;have hy1 := hex_cut y hy16;have HT2 := Lib.hid (take_two (hex_get1 hb) (hex_get2 hb));rw [← hx, ← hy] at HT2;obtain ⟨u, hu⟩ : ∃ u, u = strB ((hexL h).take (2 * i)) := ⟨_, rfl⟩;have hun : u.size ≤ 64 := by rw [hu, strB_size, List.length_take]; omega
   obtain ⟨v, hv⟩ : ∃ v, v = u ++ (⟨#[hexD x]⟩ : ByteArray) := ⟨_, rfl⟩;have hvn : v.size ≤ 65 := by rw [hv, ByteArray.size_append]; show u.size + 1 ≤ 65; omega
   have hr : v ++ (⟨#[hexD y]⟩ : ByteArray) = strB ((hexL h).take (2 * (i + 1))) := by rw [hv, hu, strB_snoc, strB_snoc, HT2.out]
   rw [← hu];have hcat := hv.symm;obtain ⟨z, hz⟩ : ∃ z, z = strB ((hexL h).take (2 * (i + 1))) := ⟨_, rfl⟩;have HZE := Lib.hid hz;rw [← hz] at hr;clear hz;clear hx hy hu hv HT2;go_upto_region 5 with fail
   go_region
   go_wp2_with fail;go_roundw
   case rel => exact ⟨i + 1, by omega, by go_num, by rw [HZE.out], kh, hB.drew⟩
   case measure => simp [intOf]; omega
  ·obtain rfl : i = 32 := by omega
   rw [List.take_of_length_le (by omega)];go_wp2_with fail;go_ret;exact ⟨rfl, hB⟩
end Go.Proofs.YtkpinmejfdnhbaaGreatDoor
