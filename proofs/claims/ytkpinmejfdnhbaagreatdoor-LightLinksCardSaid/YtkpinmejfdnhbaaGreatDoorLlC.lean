/- The law of links. -/
import Derived.Test.YtkpinmejfdnhbaaGreatDoorLkS
namespace Go.Proofs.YtkpinmejfdnhbaaGreatDoor
open Go.RowKit Go.Shelf
attribute [local go_sem] Oper.semAt_some

theorem linksG_32 {hs : List Hdr} {e : Int} : ∀ x ∈ linksG hs e, x.length = 32 := by
 intro x hx
 unfold linksG at hx
 split at hx
 ·simp at hx
 ·rename_i hc
  obtain ⟨i, hi, rfl⟩ := List.getElem_of_mem hx
  have hb : i < bitsN e.toNat := by rwa [links_len] at hi
  have h2 := bits_le_iff.2 hb
  have h1 := Nat.two_pow_pos i
  have hh : hs[e.toNat - 2 ^ i]? = some hs[e.toNat - 2 ^ i] := List.getElem?_eq_getElem (by omega)
  have h3 := links_get hb hh
  rw [List.getElem?_eq_getElem hi] at h3
  rw [Option.some.inj h3]
  exact sha_len _
theorem linksG_le {hs : List Hdr} {e : Int} (he : I64 e) : (linksG hs e).length ≤ 63 := by
 unfold linksG
 split
 ·exact Nat.zero_le _
 ·rw [links_len]; exact bits_63 (by have := he.2; omega)
theorem links_row (A : Option Addr) (n c : Nat) (xs : List Hc) (hs : List Hdr) (e : Int) (hn : n ≤ 1000) (he : I64 e) (hsm : ∀ h ∈ hs, HdrSm h) (w : World) (hT : Tabs w) (hr : RowHd w A n c xs) (hi : HdrsIn w xs hs) :
 Calls Tryz.prog 14 #[.slice A n c, .int .i64 e] w fun e' w' => ∃ A2 n2 c2, e' = .returned (.slice A2 n2 c2) ∧ RowH w' A2 n2 c2 (linksG hs e) ∧ Below w.heap.size w w' := by
 refine (Links_q A n c xs hs e hn he hsm w hT hr hi).mono ?_
 rintro e' w' ⟨v, rfl, ho, hb⟩
 obtain ⟨A2, c2, rfl, hr2⟩ := OwnL.row ho encH_len
 exact ⟨A2, _, c2, rfl, hr2, hb⟩
theorem rlinks_row (A : Option Addr) (n c : Nat) (xs : List Hc) (hs : List Hdr) (e : Int) (hn : n ≤ 1000) (_he : I64 e) (hsm : ∀ h ∈ hs, HdrSm h) (w : World) (hr : RowHd w A n c xs) (hi : HdrsIn w xs hs) :
 Calls Tryz.prog 15 #[.slice A n c, .int .i64 e] w fun e' w' => ∃ A2 n2 c2, e' = .returned (.slice A2 n2 c2) ∧ RowH w' A2 n2 c2 (linksG hs e) ∧ Below w.heap.size w w' := by
 refine (rLinks_q A n c xs hs e hn hsm w hr hi).mono ?_
 rintro e' w' ⟨v, rfl, ho, hb⟩
 obtain ⟨A2, c2, rfl, hr2⟩ := OwnL.row ho encH_len
 exact ⟨A2, _, c2, rfl, hr2, hb⟩

set_option maxRecDepth 100000 in
set_option maxHeartbeats 1500000 in
theorem LightLinks_any (A : Option Addr) (n c : Nat) (rs : List Value) (ls : List (List Int)) (z : Nat) (w : World) (hT : Tabs w) (hr : RowV w A n c rs) (hrs : RowsI w rs ls) (hI : ∀ l ∈ ls, ∀ x ∈ l, I64 x) (hL : ∀ l ∈ ls, l.length ≤ 9223372036854775807) (hn : n ≤ 9223372036854775807) (hz : z ≤ 255) :
 Calls Tryz.prog 4 #[.slice A n c, .int .u8 (z : Int)] w fun e w' => e = .returned (.bool true) ∧ Below w.heap.size w w' := by
 have HT := Lib.hid hT
 have HR := Lib.hid (And.intro hr hrs)
 have m2 := Lib.hid (fun W h1 h2 => Made_q A n c rs ls hn hI hL W h1 h2)
 have m1 := Lib.hid (sanity_q w hT)
 clear hT hr hrs hI hL hn
 obtain ⟨m, hm⟩ : ∃ m, m = z % 10 := ⟨_, rfl⟩
 have hrem : (z : Int).tmod 10 = (m : Int) := by rw [Int.tmod_eq_emod_of_nonneg (by omega)]; omega
 have hm9 : m ≤ 9 := by omega
 clear hm
 obtain ⟨E, hE⟩ : ∃ E : Int, (m : Int) - 2 = E := ⟨_, rfl⟩
 have hE1 : I64 E := ⟨by omega, by omega⟩
 go_enter Tryz.func4, Tryz.ntmps4
 go_upto_region 2 with (go_at_call 9; (with_reducible refine m1.out.mono ?_); rintro e w1 ⟨rfl, hB⟩)
 clear m1
 go_upto_region 3 with (go_at_call 13; (with_reducible refine (m2.out _ (HR.out.1.below hB) (HR.out.2.below hB)).mono ?_); rintro e w2 ⟨vG, vH, gs, ys, es, hs, K, rfl, hoG, hoH, hCI, hCO, hel, hb2⟩; obtain ⟨AG, cG, hvG, hrG⟩ := OwnL.row hoG encGc_len; obtain ⟨AH, cH, hvH, hrH⟩ := OwnL.row hoH encH1_len; subst hvG hvH)
 replace hB := below_then hB hb2
 clear hb2 m2
 refine name1p ?_
 intro w3 k1 hb3
 have hyl : ys.length = hs.length := by have := hCI.hl; rwa [List.length_map] at this
 have hes : es.length ≤ 1000 := by rw [hel]; unfold epochsN; omega
 have hyn : ys.length ≤ 1000 := by rw [hyl, hCO.len]; exact hes
 have HC := Lib.hid (And.intro ((rowHd_map hrH).below hb3) (And.intro (show HdrsIn w3 (ys.map (·.1)) hs from ⟨hCI.hl, fun i x y hx hy => (hCI.h i x y hx hy).in_.below hb3⟩) (hCO.small hes)))
 replace hB := below_then hB hb3
 clear hoG hoH hrG hrH hCI hCO hel hb3 hyl hes
 generalize gs.length = ng at k1
 obtain ⟨nh, hnh⟩ : ∃ k, k = ys.length := ⟨_, rfl⟩
 rw [← hnh] at HC k1 hyn
 obtain ⟨g, hg⟩ : ∃ g, g = w2.heap.size := ⟨_, rfl⟩
 rw [← hg] at k1 ⊢
 clear hg hnh
 have q1 : w3.cell? ⟨g, 1, none⟩ = some (.slice AH nh cH) := k1.cell 1
 have m3 := Lib.hid (links_row AH nh cH _ hs E hyn hE1 HC.out.2.2 w3 (HT.out.below hB) HC.out.1 HC.out.2.1)
 go_upto_region 5 with (go_at_call 14; (with_reducible refine m3.out.mono ?_); rintro e w4 ⟨A4, n4, c4, rfl, hr4, hb4⟩)
 have m4 := Lib.hid (rlinks_row AH nh cH _ hs E hyn hE1 HC.out.2.2 w4 (HC.out.1.below hb4) (HC.out.2.1.below hb4))
 replace k1 := k1.below hb4 k1.lt
 replace q1 := cell_b hb4 q1
 replace hB := below_then hB hb4
 clear hb4 m3
 go_upto_region 6 with (go_at_call 15; (with_reducible refine m4.out.mono ?_); rintro e w5 ⟨A5, n5, c5, rfl, hr5, hb5⟩)
 replace hr4 := hr4.below hb5
 replace hB := below_then hB hb5
 obtain rfl : n4 = n5 := by rw [← hr4.len, ← hr5.len]
 have hn63 : n4 ≤ 63 := by rw [← hr4.len]; exact linksG_le hE1
 clear hb5 m4 q1 k1
 have HW := Lib.hid (And.intro hr4 hr5)
 clear hr4 hr5
 have hW := Below.refl w5.heap.size w5
 go_wp2_with fail
 go_loopw [10] (fun s10 wr => ∃ i : Nat, i ≤ n4 ∧ s10 = .int .i64 (i : Int) ∧ Below w5.heap.size w5 wr) (fun s10 _ => n4 - (intOf s10).toNat)
 case atStart => exact ⟨0, by omega, rfl, hW⟩
 case round =>
  clear hW
  obtain ⟨i, hi, rfl, hW⟩ := hrel
  by_cases hlt : i < n4
  ·have hlt' : (i : Int) < (n4 : Int) := by omega
   obtain ⟨b4, o4, x, rfl, hx, r4⟩ := rowH_range (HW.out.1.below hW) hlt
   obtain ⟨b5, o5, x5, rfl, hx5, r5⟩ := rowH_range (HW.out.2.below hW) hlt
   rw [hx] at hx5
   obtain rfl := Option.some.inj hx5
   have hx32 := linksG_32 x (List.mem_of_getElem? hx)
   have L1d : wr.drew.rangeAt b4 (o4 + i * 32) (u8l x) := r4 hx32
   have L2d : wr.drew.rangeAt b5 (o5 + i * 32) (u8l x) := r5 hx32
   have H32 := Lib.hid hx32
   have hEq : ∀ w : World, (Op.equalIn 10000 38 (.agg (u8a x)) (.agg (u8a x))).run Tryz.prog w = .ok true w := fun w => by
    have := run_eq_hash H32.out H32.out 9998 w
    rw [decide_eq_true rfl] at this
    exact this
   have hWd := hW.drew
   clear hx hx5 hx32 r4 r5 hW
   go_upto_region 11 with fail
   refine region_here (fun Z : World => Z.rangeAt b4 (o4 + i * 32) (u8l x) ∧ Z.rangeAt b5 (o5 + i * 32) (u8l x)) 8 (by kernel_rfl) ⟨L1d, L2d⟩ (fun hHeld => ?_)
   generalize wr.drew = V at *
   refine wpAnyS_take [2, 3, 8] (i := 0) (oi := ⟨_, _, _, _, _, _⟩) (v := ?_) (by simp) (by kernel_rfl) rfl (by kernel_rfl) (by kernel_rfl) (by kernel_rfl) (fun _ _ _ h => h) (Or.inl ⟨by rfl, ?_⟩) (by assumption) ?_
   rotate_left
   ·(intro w hSw; (try dsimp only at hSw); go_simp; try with_reducible rfl)
   try simp only [Act.put, pq1, pq2, pq3]
   refine wpAnyS_take [2, 3, 8] (i := 1) (oi := ⟨_, _, _, _, _, _⟩) (v := ?_) (by simp) (by kernel_rfl) rfl (by kernel_rfl) (by kernel_rfl) (by kernel_rfl) (fun _ _ _ h => h) (Or.inl ⟨by rfl, ?_⟩) (by assumption) ?_
   rotate_left
   ·(intro w hSw; (try dsimp only at hSw); go_simp; try with_reducible rfl)
   try simp only [Act.put, pq1, pq2, pq3]
   refine wpAnyS_take [3, 8] (i := 2) (oi := ⟨_, _, _, _, _, _⟩) (v := ?_) (by simp) (by kernel_rfl) rfl (by kernel_rfl) (by kernel_rfl) (by kernel_rfl) (fun _ _ _ h => h) (Or.inl ⟨by rfl, ?_⟩) (by assumption) ?_
   rotate_left
   ·(intro w hSw; (try dsimp only at hSw); go_simp; try with_reducible rfl)
   try simp only [Act.put, pq1, pq2, pq3]
   refine wpAnyS_take [8] (i := 3) (oi := ⟨_, _, _, _, _, _⟩) (v := .agg (u8a x)) (by simp) (by kernel_rfl) rfl (by kernel_rfl) (by kernel_rfl) (by kernel_rfl) (fun _ _ _ h => h) (yieldsIf_load_mid (by rfl) 38 (.tmp 39) rfl b4 (o4 + i * 32) rfl (u8l x) _ (fun Z hZ => hZ.1) Tryz.underlying38 rfl (by rw [u8l_len, H32.out]; exact hash_size)) (by assumption) ?_
   try simp only [Act.put, pq1, pq2, pq3]
   refine wpAnyS_take [6, 7, 8] (i := 4) (oi := ⟨_, _, _, _, _, _⟩) (v := ?_) (by simp) (by kernel_rfl) rfl (by kernel_rfl) (by kernel_rfl) (by kernel_rfl) (fun _ _ _ h => h) (Or.inl ⟨by rfl, ?_⟩) (by assumption) ?_
   rotate_left
   ·(intro w hSw; (try dsimp only at hSw); go_simp; try with_reducible rfl)
   try simp only [Act.put, pq1, pq2, pq3]
   refine wpAnyS_take [6, 7, 8] (i := 5) (oi := ⟨_, _, _, _, _, _⟩) (v := ?_) (by simp) (by kernel_rfl) rfl (by kernel_rfl) (by kernel_rfl) (by kernel_rfl) (fun _ _ _ h => h) (Or.inl ⟨by rfl, ?_⟩) (by assumption) ?_
   rotate_left
   ·(intro w hSw; (try dsimp only at hSw); go_simp; try with_reducible rfl)
   try simp only [Act.put, pq1, pq2, pq3]
   refine wpAnyS_take [7, 8] (i := 6) (oi := ⟨_, _, _, _, _, _⟩) (v := ?_) (by simp) (by kernel_rfl) rfl (by kernel_rfl) (by kernel_rfl) (by kernel_rfl) (fun _ _ _ h => h) (Or.inl ⟨by rfl, ?_⟩) (by assumption) ?_
   rotate_left
   ·(intro w hSw; (try dsimp only at hSw); go_simp; try with_reducible rfl)
   try simp only [Act.put, pq1, pq2, pq3]
   refine wpAnyS_take [8] (i := 7) (oi := ⟨_, _, _, _, _, _⟩) (v := .agg (u8a x)) (by simp) (by kernel_rfl) rfl (by kernel_rfl) (by kernel_rfl) (by kernel_rfl) (fun _ _ _ h => h) (yieldsIf_load_mid (by rfl) 38 (.tmp 43) rfl b5 (o5 + i * 32) rfl (u8l x) _ (fun Z hZ => hZ.2) Tryz.underlying38 rfl (by rw [u8l_len, H32.out]; exact hash_size)) (by assumption) ?_
   try simp only [Act.put, pq1, pq2, pq3]
   refine wpAnyS_call (k := 8) (ok := ⟨_, _, _, _, _, _⟩) rfl (by kernel_rfl) (by kernel_rfl) (fun K hK => ?_)
   go_simp
   refine hK.out _ _ ?_
   clear hK K
   try simp only [Act.put, pq1, pq2, pq3]
   refine wpAny_done (by kernel_rfl) ?_ _
   go_wp2_with fail
   go_roundw
   case rel => exact ⟨i + 1, by omega, by go_num, hWd⟩
   case measure => simp [intOf]; omega
  ·obtain rfl : i = n4 := by omega
   have hB5 := below_then hB hW
   go_wp2_with fail
   go_ret
   exact ⟨rfl, hB5⟩

end Go.Proofs.YtkpinmejfdnhbaaGreatDoor
