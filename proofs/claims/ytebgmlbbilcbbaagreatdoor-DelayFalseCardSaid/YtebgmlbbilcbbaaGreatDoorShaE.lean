/- SHA-256 of the reference: padded, Sum. -/
import Derived.Test.YtebgmlbbilcbbaaGreatDoorShaC
import Derived.Test.YtebgmlbbilcbbaaGreatDoorShaD
namespace Go.Proofs.YtebgmlbbilcbbaaGreatDoor
open Go.RowKit

/-- The number of bytes of a string: for a loop's measure. -/
def sizeS : Value → Nat
  | .string s => s.size
  | _ => 0
theorem run_byte1 (W : World) (k b : Nat) (hb : b < 256) (h : W.cell? ⟨k, 0, none⟩ = some (.int .u8 (b : Int))) : (convert 22 9 (.slice (some ⟨k, 0, none⟩) 1 1)).run Tryz.prog W = .ok (.string ⟨#[UInt8.ofNat b]⟩) W := by
  have h : BDg W (some ⟨k, 0, none⟩) 1 1 [UInt8.ofNat b] := by
    refine ⟨rfl, Nat.le_refl _, fun _ => ⟨_, _, rfl, fun j e he => ?_⟩⟩
    cases j with
    | zero =>
      obtain rfl := Option.some.inj he
      rw [byte_toNat hb]
      exact h
    | succ j => simp at he
  exact run_bdg_str h

set_option maxRecDepth 100000 in
set_option maxHeartbeats 2000000 in
theorem padded_any (s : ByteArray) (w : World) (hs : s.size ≤ 1000000) : Calls Tryz.prog 116 #[.string s] w fun e w' => e = .returned (.string ⟨(padS s.data.toList).toArray⟩) ∧ Below w.heap.size w w' := by
  obtain ⟨L, hL⟩ : ∃ L, L = s.data.toList := ⟨_, rfl⟩
  have hLn : L.length = s.size := by rw [hL]; exact size_len s
  rw [← hL]
  have HL := Lib.hid hL
  obtain ⟨Z, hZ⟩ : ∃ Z, Z = zerosS s.size := ⟨_, rfl⟩
  have hZ2 : Z = (119 - s.size % 64) % 64 := hZ
  obtain ⟨n8, hn8⟩ : ∃ n, n = s.size * 8 := ⟨_, rfl⟩
  have HN8 := Lib.hid hn8
  have hP : padS L = L ++ ([128] ++ List.replicate Z 0) ++ lenS n8 := by
    unfold padS
    rw [hLn, ← hZ, ← hn8]; simp
  rw [hP]
  obtain ⟨u0, hu0⟩ : ∃ u, u = s ++ (⟨#[128]⟩ : ByteArray) := ⟨_, rfl⟩
  have hu0l : u0.data.toList = L ++ ([128] ++ List.replicate 0 0) := by
    rw [hu0, ByteArray.data_append, Array.toList_append, ← hL]; rfl
  have hcat0 := hu0.symm
  have HZ := Lib.hid hZ2
  have hzb : Z ≤ 64 := by omega
  clear hL hu0 hZ hZ2 hP hn8
  go_enter Tryz.func116, Tryz.ntmps116
  go_wp2_with fail
  go_loopw [3] (fun s3 wr => ∃ (k : Nat) (u : ByteArray), s3 = .string u ∧ Hid (u.data.toList = L ++ ([128] ++ List.replicate k 0)) ∧ Hid (k ≤ Z) ∧ w = wr) (fun s3 _ => 2000000 - sizeS s3)
  case atStart => exact ⟨0, u0, rfl, Lib.hid hu0l, Lib.hid (Nat.zero_le _), rfl⟩
  case round =>
    obtain ⟨k, u, rfl, HU, HKZ, rfl⟩ := hrel
    have hun : u.size = s.size + 1 + k := by rw [← size_len, HU.out]; simp [hLn]; omega
    have hkz := HKZ.out
    have hzz := HZ.out
    by_cases hlt : k < Z
    · have ht : ((u.size : Int) % 64 == 56) = false := by rw [beq_eq_false_iff_ne]; omega
      obtain ⟨u1, hu1⟩ : ∃ v, v = u ++ (⟨#[0]⟩ : ByteArray) := ⟨_, rfl⟩
      have hu1l : u1.data.toList = L ++ ([128] ++ List.replicate (k + 1) 0) := by
        rw [hu1, ByteArray.data_append, Array.toList_append, HU.out, List.replicate_succ']; simp
      have hu1n : u1.size = u.size + 1 := by rw [hu1, ByteArray.size_append]; rfl
      have hb2 : u.size ≤ 1000100 := by omega
      have HU1 := Lib.hid (And.intro hu1l hu1n)
      have hcat1 := hu1.symm
      have HUN := Lib.hid hun
      clear hun hkz hzz hu1 hu1l hu1n
      go_wp2_with fail
      go_roundw
      case rel => exact ⟨k + 1, u1, rfl, Lib.hid HU1.out.1, Lib.hid (by have := HKZ.out; omega), trivial⟩
      case measure => simp [sizeS]; have := HU1.out.2; omega
    · obtain rfl : k = Z := by omega
      have ht : ((u.size : Int) % 64 == 56) = true := by rw [beq_iff_eq]; omega
      have hb2 : u.size ≤ 1000100 := by omega
      have e8 : (s.size : Int) * 8 = (n8 : Int) := by have := HN8.out; omega
      have HUN := Lib.hid hun
      clear hun hkz hzz
      go_wp2_with fail
      go_loopw [3, 5] (fun s3 s5 wr => ∃ (m : Nat) (v : ByteArray), m ≤ 8 ∧ s3 = .string v ∧ s5 = .int .i64 (7 - (m : Int)) ∧ Hid (v.data.toList = L ++ ([128] ++ List.replicate k 0) ++ (lenS n8).take m) ∧ Below w.heap.size w wr) (fun _ s5 _ => (intOf s5 + 1).toNat)
      case atStart => exact ⟨0, u, by omega, rfl, by simp, Lib.hid (by rw [HU.out]; simp), Below.refl _ _⟩
      case round =>
        obtain ⟨m, v, hm, rfl, rfl, HV, hB⟩ := hrel
        have hvn : v.size ≤ 1001000 := by
          rw [← size_len, HV.out]
          have h1 : ((lenS n8).take m).length ≤ 8 := by rw [List.length_take, lenS_len]; omega
          simp only [List.length_append, List.length_replicate, hLn, List.length_cons, List.length_nil]
          omega
        by_cases hlt : m < 8
        · obtain ⟨i, hi⟩ : ∃ i, i = 7 - m := ⟨_, rfl⟩
          have ei : (7 : Int) - (m : Int) = (i : Int) := by omega
          obtain ⟨j, hj⟩ : ∃ j, j = 8 * i := ⟨_, rfl⟩
          have ej : (8 : Int) * (i : Int) = (j : Int) := by omega
          have e0 : (0 : Int) ≤ (i : Int) := by omega
          have e1 : (0 : Int) ≤ (j : Int) := by omega
          obtain ⟨bb, hbb⟩ : ∃ b, b = n8 / 2 ^ j % 256 := ⟨_, rfl⟩
          have hb256 : bb < 256 := by rw [hbb]; exact Nat.mod_lt _ (by omega)
          have ebb : (n8 : Int) / 2 ^ j % 256 = (bb : Int) := by rw [hbb]; simp
          have hcv := fun (W : World) (k : Nat) (h : W.cell? ⟨k, 0, none⟩ = some (.int .u8 (bb : Int))) => run_byte1 W k bb hb256 h
          obtain ⟨v1, hv1⟩ : ∃ x, x = v ++ (⟨#[UInt8.ofNat bb]⟩ : ByteArray) := ⟨_, rfl⟩
          have hv1l : v1.data.toList = L ++ ([128] ++ List.replicate k 0) ++ (lenS n8).take (m + 1) := by
            rw [hv1, ByteArray.data_append, Array.toList_append, HV.out, List.take_add_one, lenS_at n8 hlt, List.append_assoc, hbb, hj, hi, show 8 * (7 - m) = 56 - 8 * m by omega]
            rfl
          have HV1 := Lib.hid hv1l
          have hcat1 := hv1.symm
          have HI := Lib.hid hi
          clear hi hj hbb hv1 hv1l
          rw [ei]
          go_wp2_with fail
          go_roundw
          case rel => exact ⟨m + 1, v1, by omega, rfl, congrArg (Value.int .i64) (by have := HI.out; omega), HV1, below_al hB _⟩
          case measure => simp [intOf]
        · obtain rfl : m = 8 := by omega
          go_wp2_with fail
          go_ret
          refine ⟨congrArg (fun s => Ending.returned (.string s)) (ByteArray.ext (Array.toList_inj.1 ?_)), hB⟩
          rw [HV.out, List.take_of_length_le (by rw [lenS_len]; exact Nat.le_refl _)]
          simp

theorem block_lit {a0 a1 a2 a3 a4 a5 a6 a7 b0 b1 b2 b3 b4 b5 b6 b7 : Nat} {b : ByteArray} (hE : Eight [a0, a1, a2, a3, a4, a5, a6, a7]) (hb : b.size = 64) (h : mixS [a0, a1, a2, a3, a4, a5, a6, a7] b.data.toList = [b0, b1, b2, b3, b4, b5, b6, b7]) (w : World) :
    Calls Tryz.prog 117 #[.agg #[.int .u32 (a0 : Int), .int .u32 (a1 : Int), .int .u32 (a2 : Int), .int .u32 (a3 : Int), .int .u32 (a4 : Int), .int .u32 (a5 : Int), .int .u32 (a6 : Int), .int .u32 (a7 : Int)], .string b] w fun e w' => e = .returned (.agg #[.int .u32 (b0 : Int), .int .u32 (b1 : Int), .int .u32 (b2 : Int), .int .u32 (b3 : Int), .int .u32 (b4 : Int), .int .u32 (b5 : Int), .int .u32 (b6 : Int), .int .u32 (b7 : Int)]) ∧ Below w.heap.size w w' :=
  (block_any _ hE b hb w).mono fun e w' h' => ⟨h'.1.trans (by rw [h]; rfl), h'.2⟩

set_option maxRecDepth 100000 in
set_option maxHeartbeats 4000000 in
theorem rSum_any (s : ByteArray) (w : World) (hs : s.size ≤ 1000000) : Calls Tryz.prog 64 #[.string s] w fun e w' => e = .returned (.agg (u8a (shaS s.data.toList))) ∧ Below w.heap.size w w' := by
  obtain ⟨L, hL⟩ : ∃ L, L = s.data.toList := ⟨_, rfl⟩
  have hLn : L.length = s.size := by rw [hL]; exact size_len s
  rw [← hL]
  obtain ⟨r2, m0, hr2l⟩ : ∃ r2 : ByteArray, Hid (∀ W : World, Calls Tryz.prog 116 #[.string s] W fun e w' => e = .returned (.string r2) ∧ Below W.heap.size W w') ∧ r2.data.toList = padS L := ⟨_, Lib.hid (fun W => padded_any s W hs), by rw [← hL]⟩
  have hr2n : r2.size = 64 * ((s.size + 72) / 64) := by rw [← size_len, hr2l, padS_len, hLn]
  have HR2 := Lib.hid (And.intro hr2l hr2n)
  have hbig : r2.size ≤ 1000200 := by omega
  clear hL hr2l hr2n
  go_enter Tryz.func64, Tryz.ntmps64
  go_upto_region 2 with fail
  refine name2 (u8a (List.replicate 32 0)) (u32s (stateS (padS L) 0)) rfl rfl ?_
  intro W0 hkH hkS hB
  have hle : w.heap.size ≤ w.heap.size + 1 := by omega
  go_wp2_with fail
  refine (m0.out _).mono ?_
  rintro e w1 ⟨rfl, hb1⟩
  replace hkH := hkH.below hb1 hkH.lt
  replace hkS := hkS.below hb1 hkS.lt
  replace hB := below_then hB hb1
  clear hb1 m0
  go_wp2_with fail
  go_loopw [5] (fun s7 wr => ∃ (m p : Nat), s7 = .int .i64 (p : Int) ∧ Hid (p = 64 * m) ∧ p ≤ r2.size ∧ Blk wr w.heap.size 71 (u8a (List.replicate 32 0)) ∧ Blk wr (w.heap.size + 1) 141 (u32s (stateS (padS L) m)) ∧ Below w.heap.size w wr) (fun s7 _ => r2.size - (intOf s7).toNat)
  case atStart => exact ⟨0, 0, rfl, Lib.hid rfl, by omega, hkH, hkS, hB⟩
  case round =>
    obtain ⟨m, p, rfl, HP, hp, hkH, hkS, hB⟩ := hrel
    by_cases hlt : p < r2.size
    · have hlt' : (p : Int) < (r2.size : Int) := by omega
      obtain ⟨q, hq⟩ : ∃ q, q = p + 64 := ⟨_, rfl⟩
      have eq1 : (p : Int) + 64 = (q : Int) := by omega
      have hpk := HP.out
      have hn2 := HR2.out.2
      have hqs : q ≤ r2.size := by omega
      have hbl : (r2.extract p q).size = 64 := by rw [ByteArray.size_extract]; omega
      have hbd : (r2.extract p q).data.toList = ((padS L).drop (64 * (m))).take 64 := by
        rw [extract_bytes, HR2.out.1, hq, hpk, Nat.add_sub_cancel_left]
      obtain ⟨a0, a1, a2, a3, a4, a5, a6, a7, hl, -⟩ := eight_of (stateS_eight (padS L) m)
      obtain ⟨b0, b1, b2, b3, b4, b5, b6, b7, hl2, -⟩ := eight_of (stateS_eight (padS L) (m + 1))
      have hm : mixS [a0, a1, a2, a3, a4, a5, a6, a7] (r2.extract p q).data.toList = [b0, b1, b2, b3, b4, b5, b6, b7] := by
        rw [hbd, ← hl, ← hl2]; rfl
      have m1 := Lib.hid (fun W => block_lit (hl ▸ stateS_eight (padS L) (m)) hbl hm W)
      rw [hl] at hkS
      have HL2 := Lib.hid hl2
      have HKN := Lib.hid (And.intro hpk hq)
      have hq2 : (q : Int) ≤ (r2.size : Int) := by omega
      have hq3 : (p : Int) ≤ (q : Int) := by omega
      have hq1 : q ≤ 1000200 := by omega
      clear hq
      clear hl hl2 hm hbd hbl hpk hn2
      obtain ⟨⟨x0, x1, x2, x3, x4, x5, x6, x7⟩, -⟩ := cells8 hkS
      have hq5 : IntKind.i64.wrap (q : Int) = (q : Int) := IntWalk.i64_in _ (by omega)
      have hq6 : (0 : Int) ≤ (q : Int) := by omega
      have hq4 : (0 : Int) ≤ (p : Int) := by omega
      have hkS0 : Blk wr.drew (w.heap.size + 1) 141 #[.int .u32 (a0 : Int), .int .u32 (a1 : Int), .int .u32 (a2 : Int), .int .u32 (a3 : Int), .int .u32 (a4 : Int), .int .u32 (a5 : Int), .int .u32 (a6 : Int), .int .u32 (a7 : Int)] := hkS
      have hkH0 : Blk wr.drew w.heap.size 71 (u8a (List.replicate 32 0)) := hkH
      have hB0 := hB.drew
      go_upto_region 6 with fail
      go_region_with (first
        | (go_at_call 117; (with_reducible refine (m1.out _).mono ?_); rintro e w' ⟨rfl, hb'⟩; have hkS2 := hkS0.below hb' hkS0.lt; obtain ⟨⟨y0, y1, y2, y3, y4, y5, y6, y7⟩, z0, z1, z2, z3, z4, z5, z6, z7⟩ := cells8 hkS2))
      go_wp2_with fail
      go_roundw
      case rel =>
        refine ⟨m + 1, q, rfl, Lib.hid (by have := HKN.out; omega), hqs, ?_, ?_, ?_⟩
        · (repeat (refine kept_set ?_ (by omega) _ _)); exact hkH0.below hb' hkH0.lt
        · rw [HL2.out]; exact put8s hkS2 _ _ _ _ _ _ _ _
        · (repeat (refine below_set ?_ hle _)); exact below_then hB0 hb'
      case measure => simp [intOf]; have := HKN.out; omega
    · have hge : ¬ ((p : Int) < (r2.size : Int)) := by omega
      have hkk : m = (L.length + 72) / 64 := by have := HP.out; have := HR2.out.2; rw [hLn]; omega
      rw [hkk] at hkS
      clear HP hkk hp HR2
      obtain ⟨S, hS⟩ : ∃ S, S = stateS (padS L) ((L.length + 72) / 64) := ⟨_, rfl⟩
      have hSE : Eight S := by rw [hS]; exact stateS_eight _ _
      have hsha : shaS L = bytesS S := by rw [hS]; rfl
      rw [← hS] at hkS
      have HSH := Lib.hid hsha
      have HSE := Lib.hid hSE
      clear hS hsha hSE
      have hlb := hkS.lt
      go_upto_region 8 with fail
      refine nameOne (u8a (upto 32 (bytesS S) 0)) (by rw [upto_zero]; rfl) ?_
      intro W0 hkB hb1
      replace hkH := hkH.below hb1 hkH.lt
      replace hkS := hkS.below hb1 hkS.lt
      replace hB := below_then hB hb1
      generalize wr.heap.size = kB at hkB hlb ⊢
      clear hb1
      go_wp2_with fail
      have hne0 : w.heap.size ≠ kB := by omega
      have hne1 : w.heap.size + 1 ≠ kB := by omega
      have hlB : w.heap.size ≤ kB := by omega
      go_loopw [7] (fun s57 wr => ∃ i : Nat, i ≤ 32 ∧ s57 = .int .i64 (i : Int) ∧ Blk wr kB 71 (u8a (upto 32 (bytesS S) i)) ∧ Blk wr w.heap.size 71 (u8a (List.replicate 32 0)) ∧ Blk wr (w.heap.size + 1) 141 (u32s S) ∧ Below w.heap.size w wr) (fun s57 _ => 32 - (intOf s57).toNat)
      case atStart => exact ⟨0, by omega, rfl, hkB, hkH, hkS, hB⟩
      case round =>
        obtain ⟨i, hi, rfl, hkB, hkH, hkS, hB⟩ := hrel
        by_cases hlt : i < 32
        · obtain ⟨v, hv⟩ : ∃ v, v = S.getD (i / 4) 0 := ⟨_, rfl⟩
          have cv := hkS.u32 (eight_at HSE.out (show i / 4 < 8 by omega))
          rw [← hv] at cv
          obtain ⟨j, hj⟩ : ∃ j, j = i / 4 := ⟨_, rfl⟩
          obtain ⟨k, hk⟩ : ∃ k, k = 24 - i % 4 * 8 := ⟨_, rfl⟩
          rw [← hj] at cv
          have e1 : (i : Int) / 4 = (j : Int) := by omega
          have e2 : (8 : Int) * (3 - (i : Int) % 4) = (k : Int) := by omega
          have e3 : (j : Int) < 8 := by omega
          have e4 : (0 : Int) ≤ (j : Int) := by omega
          have e5 : (0 : Int) ≤ (k : Int) := by omega
          have e6 : (0 : Int) ≤ (i : Int) := by omega
          have e7 : (i : Int) < 32 := by omega
          have cb := hkB.u8A (upto_cur (bytesS_len S) hlt)
          have fb := hkB.frozen i
          have HV := Lib.hid (And.intro hv hk)
          clear hv hj hk
          go_wp2_with fail
          go_roundw
          case rel =>
            have e : (v : Int) / 2 ^ k % 256 = ((UInt8.ofNat (v / 2 ^ k % 256)).toNat : Int) := by
              rw [byte_toNat (Nat.mod_lt _ (by omega))]
              simp
            rw [e]
            refine ⟨i + 1, by omega, by go_num, ?_, kept_set hkH hne0 _ _, kept_set hkS hne1 _ _, below_set hB (p := ⟨kB, i, none⟩) hlB _⟩
            rw [← upto_set (bytesS_len S) hlt (bytesS_at S hlt), ← HV.out.1, ← HV.out.2]
            exact hkB.put8A _ _
          case measure => simp [intOf]; omega
        · obtain rfl : i = 32 := by omega
          rw [upto_end (bytesS_len S), ← HSH.out] at hkB
          have hsz : (u8a (shaS L)).size = 32 := u8a_sha L
          go_wp2_with (first
            | refine wpList_load_row rfl 71 _ rfl kB rfl _ (u8a (shaS L)) (0, 0) _ hkB Tryz.underlying71 rfl (by rw [hsz]; kernel_rfl) ?_
            | refine wpList_store_rowTo rfl 71 _ _ rfl rfl w.heap.size (u8a (shaS L)) rfl rfl _ _ hkH (by rw [hsz]; kernel_rfl) (by rw [hsz]; rfl) (u8a_one _) ?_)
          refine bodyPost_ret (results_cell_row (p := 2) (ty := 71) rfl _ _ w.heap.size _ (u8a (shaS L)) (0, 0) _ rfl (hkH.rowA _) Tryz.underlying71 rfl (by rw [hsz]; kernel_rfl)) rfl ?_
          exact ⟨rfl, below_setRow hB (Nat.le_refl _) _⟩

end Go.Proofs.YtebgmlbbilcbbaaGreatDoor
