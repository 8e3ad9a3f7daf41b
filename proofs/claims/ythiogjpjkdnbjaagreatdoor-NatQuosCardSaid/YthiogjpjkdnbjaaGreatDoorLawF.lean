/- The law NatInts: it returns true. -/
import Derived.Test.YthiogjpjkdnbjaaGreatDoorLawB
import Derived.Test.YthiogjpjkdnbjaaGreatDoorRefL
namespace Go.Proofs.YthiogjpjkdnbjaaGreatDoor
open Go.RowKit

theorem wrap64_bd (z : Int) : -9223372036854775808 ≤ wrap64 z ∧ wrap64 z ≤ 9223372036854775807 := by unfold wrap64; omega
theorem bits_bd (z y : Int) : -9223372036854775808 ≤ bits .and .i64 z y ∧ bits .and .i64 z y ≤ 9223372036854775807 := by
  unfold bits
  simp only []
  rw [IntKind.wrap_i64]
  omega
theorem ints_blk {w : World} {g : Nat} {t : TypeId} {vs : List Int} (h : Blk w g t (vs.map (Value.int .i64)).toArray) {i : Nat} {v : Int} (hv : vs[i]? = some v) : w.cell? ⟨g, i, none⟩ = some (.int .i64 v) := (h.cell i).trans (by simp [hv])
theorem strs_blk {w : World} {g : Nat} {t : TypeId} {vs : List ByteArray} (h : Blk w g t (vs.map Value.string).toArray) {i : Nat} {v : ByteArray} (hv : vs[i]? = some v) : w.cell? ⟨g, i, none⟩ = some (.string v) := (h.cell i).trans (by simp [hv])
theorem int_pair (v : Nat) : ∃ (x : Int) (p : Bool), intRes v = .tuple #[.int .i64 x, .bool p] := by
  unfold intRes
  split
  · exact ⟨_, _, rfl⟩
  · exact ⟨_, _, rfl⟩

set_option maxRecDepth 100000 in
set_option maxHeartbeats 2000000 in
theorem NatInts_any (z : Int) (B : Option Addr) (m d : Nat) (k : List UInt8) (w : World) (ht : Pow10 w) (hy : BDg w B m d k) (hm : m ≤ 9223372036854775807) (hz : -9223372036854775808 ≤ z ∧ z ≤ 9223372036854775807) :
    Calls Tryz.prog 8 #[.int .i64 z, .slice B m d] w fun e w' => e = .returned (.bool true) ∧ Below w.heap.size w w' := by
  have HT := Lib.hid ht
  clear ht
  obtain ⟨hz1, hz2⟩ := hz
  obtain ⟨b, hbe⟩ : ∃ b, b = madeS k := ⟨_, rfl⟩
  have hb : b.size ≤ 40 := by rw [hbe]; exact madeS_size k
  have HMB : Hid (∀ W, Below w.heap.size w W → Calls Tryz.prog 14 #[.slice B m d] W fun e w' => e = .returned (.string b) ∧ W = w') := Lib.hid (fun W hW => hbe ▸ rMade B m d k W (hy.below hW) hm)
  clear hbe
  go_enter Tryz.func8, Tryz.ntmps8
  go_wp2_with fail
  refine (sanity_any _ HT.out).mono ?_
  rintro e w1 ⟨rfl, hB⟩
  go_wp2_with fail
  refine (HMB.out _ hB).mono ?_
  rintro e w' ⟨rfl, rfl⟩
  go_wp2_with fail
  have hblk : Blk (w1.alloc (.cells #[Value.int IntKind.i64 z, Value.int IntKind.i64 (wrap64 (-z)), Value.int IntKind.i64 (z / 256), Value.int IntKind.i64 (bits BinOp.and IntKind.i64 z 255), Value.int IntKind.i64 9223372036854775807, Value.int IntKind.i64 (-9223372036854775808)] 3)) w1.heap.size 3 (([z, wrap64 (-z), z / 256, bits .and .i64 z 255, 9223372036854775807, -9223372036854775808] : List Int).map (Value.int .i64)).toArray := Blk.new _ _ _
  have hbd : ∀ v ∈ ([z, wrap64 (-z), z / 256, bits .and .i64 z 255, 9223372036854775807, -9223372036854775808] : List Int), -9223372036854775808 ≤ v ∧ v ≤ 9223372036854775807 := by
    have h1 := wrap64_bd (-z)
    have h2 := bits_bd z 255
    intro v hv
    simp only [List.mem_cons, List.not_mem_nil, or_false] at hv
    rcases hv with rfl | rfl | rfl | rfl | rfl | rfl
    · exact ⟨hz1, hz2⟩
    · exact h1
    · omega
    · exact h2
    · omega
    · omega
  have hlen : ([z, wrap64 (-z), z / 256, bits .and .i64 z 255, 9223372036854775807, -9223372036854775808] : List Int).length = 6 := rfl
  generalize ([z, wrap64 (-z), z / 256, bits .and .i64 z 255, 9223372036854775807, -9223372036854775808] : List Int) = vs at hblk hbd hlen
  have hB2 := below_al hB (.cells #[Value.int IntKind.i64 z, Value.int IntKind.i64 (wrap64 (-z)), Value.int IntKind.i64 (z / 256), Value.int IntKind.i64 (bits BinOp.and IntKind.i64 z 255), Value.int IntKind.i64 9223372036854775807, Value.int IntKind.i64 (-9223372036854775808)] 3)
  generalize (w1.alloc (.cells #[Value.int IntKind.i64 z, Value.int IntKind.i64 (wrap64 (-z)), Value.int IntKind.i64 (z / 256), Value.int IntKind.i64 (bits BinOp.and IntKind.i64 z 255), Value.int IntKind.i64 9223372036854775807, Value.int IntKind.i64 (-9223372036854775808)] 3)) = w2 at hblk hB2 ⊢
  generalize w1.heap.size = g at hblk ⊢
  have HBD := Lib.hid hbd
  have HLN := Lib.hid hlen
  clear hbd hlen
  go_loopw [8, 9, 10, 11, 30] (fun _ _ _ _ s30 wr => ∃ i : Nat, i ≤ 6 ∧ s30 = .int .i64 (i : Int) ∧ Below w2.heap.size w2 wr) (fun _ _ _ _ s30 _ => 6 - (intOf s30).toNat)
  case atStart => exact ⟨0, by omega, rfl, Below.refl _ _⟩
  case round =>
    obtain ⟨i, hi, rfl, hbw⟩ := hrel
    by_cases h6 : i < 6
    · obtain ⟨v, hv⟩ : ∃ v, vs[i]? = some v := ⟨_, List.getElem?_eq_getElem (by rw [HLN.out]; exact h6)⟩
      have hvb := HBD.out v (List.mem_of_getElem? hv)
      have hc := ints_blk (hblk.belowK hbw) hv
      obtain ⟨hv1, hv2⟩ := hvb
      obtain ⟨x, hx⟩ : ∃ x, x = v.toNat := ⟨_, rfl⟩
      have hxl : x ≤ 9223372036854775807 := by omega
      have hmax : max v 0 = (x : Int) := by omega
      have hts : (natS x).size ≤ 8 := natS_size (by rw [P8_8]; omega)
      have H1 : Hid (Ret 31 #[.int .i64 v] (.string (natS x))) := Lib.hid (fun W => hx ▸ Of_any v W hv2)
      have H2 : Hid (Ret 32 #[.string (natS x)] (.tuple #[.int .i64 (x : Int), .bool true])) := Lib.hid (fun W => by
        have := Int_any (natS x) W (by omega)
        rw [sval_natS, int_ok hxl] at this
        exact this)
      have H3 : Hid (Ret 17 #[.int .i64 v] (.string (natS x))) := Lib.hid (fun W => hx ▸ rOf v W hv2)
      clear hv hx hts
      generalize natS x = tx at H1 H2 H3
      replace hbw := hbw
      go_wp2_with (first
        | (go_at_call 31; (with_reducible refine (H1.out _).mono ?_); rintro e w' ⟨rfl, hb''⟩; replace hbw := below_then hbw hb''; clear hb'')
        | (go_at_call 32; (with_reducible refine (H2.out _).mono ?_); rintro e w' ⟨rfl, hb''⟩; replace hbw := below_then hbw hb''; clear hb'')
        | (go_at_call 17; (with_reducible refine (H3.out _).mono ?_); rintro e w' ⟨rfl, hb''⟩; replace hbw := below_then hbw hb''; clear hb''))
      go_roundw
      case rel => exact ⟨i + 1, by omega, by go_num, hbw⟩
      case measure => simp [intOf]; omega
    · obtain rfl : i = 6 := by omega
      go_wp2_with fail
      have hblk2 : Blk (wr.alloc (.cells #[Value.string b, Value.string { data := #[128, 0, 0, 0, 0, 0, 0, 0] }, Value.string { data := #[127, 255, 255, 255, 255, 255, 255, 255] }, Value.string ({ data := #[0] } ++ b)] 24)) wr.heap.size 24 (([b, { data := #[128, 0, 0, 0, 0, 0, 0, 0] }, { data := #[127, 255, 255, 255, 255, 255, 255, 255] }, { data := #[0] } ++ b] : List ByteArray).map Value.string).toArray := Blk.new _ _ _
      have hbd2 : ∀ v ∈ ([b, { data := #[128, 0, 0, 0, 0, 0, 0, 0] }, { data := #[127, 255, 255, 255, 255, 255, 255, 255] }, { data := #[0] } ++ b] : List ByteArray), v.size ≤ 1000 := by
        intro v hv
        simp only [List.mem_cons, List.not_mem_nil, or_false] at hv
        rcases hv with rfl | rfl | rfl | rfl
        · omega
        · decide
        · decide
        · rw [ByteArray.size_append]
          have : (⟨#[0]⟩ : ByteArray).size = 1 := rfl
          omega
      have hlen2 : ([b, { data := #[128, 0, 0, 0, 0, 0, 0, 0] }, { data := #[127, 255, 255, 255, 255, 255, 255, 255] }, { data := #[0] } ++ b] : List ByteArray).length = 4 := rfl
      generalize ([b, { data := #[128, 0, 0, 0, 0, 0, 0, 0] }, { data := #[127, 255, 255, 255, 255, 255, 255, 255] }, { data := #[0] } ++ b] : List ByteArray) = ss at hblk2 hbd2 hlen2
      have hB3 := below_al (below_then hB2 hbw) (.cells #[Value.string b, Value.string { data := #[128, 0, 0, 0, 0, 0, 0, 0] }, Value.string { data := #[127, 255, 255, 255, 255, 255, 255, 255] }, Value.string ({ data := #[0] } ++ b)] 24)
      generalize (wr.alloc (.cells #[Value.string b, Value.string { data := #[128, 0, 0, 0, 0, 0, 0, 0] }, Value.string { data := #[127, 255, 255, 255, 255, 255, 255, 255] }, Value.string ({ data := #[0] } ++ b)] 24)) = w3 at hblk2 hB3 ⊢
      generalize wr.heap.size = g3 at hblk2 ⊢
      have HBD2 := Lib.hid hbd2
      have HLN2 := Lib.hid hlen2
      clear hbd2 hlen2
      go_loopw [13, 14, 15, 16, 17, 61] (fun _ _ _ _ _ s61 wq => ∃ i : Nat, i ≤ 4 ∧ s61 = .int .i64 (i : Int) ∧ Below w3.heap.size w3 wq) (fun _ _ _ _ _ s61 _ => 4 - (intOf s61).toNat)
      case atStart => exact ⟨0, by omega, rfl, Below.refl _ _⟩
      case round =>
        obtain ⟨i, hi4, rfl, hbq⟩ := hrel
        by_cases h4 : i < 4
        · obtain ⟨v, hv⟩ : ∃ v, ss[i]? = some v := ⟨_, List.getElem?_eq_getElem (by rw [HLN2.out]; exact h4)⟩
          have hvs := HBD2.out v (List.mem_of_getElem? hv)
          have hc := strs_blk (hblk2.belowK hbq) hv
          obtain ⟨x, p, hxp⟩ := int_pair (sval v)
          have H1 : Hid (Ret 32 #[.string v] (.tuple #[.int .i64 x, .bool p])) := Lib.hid (fun W => hxp ▸ Int_any v W (by omega))
          have H2 : Hid (Ret 33 #[.string v] (.tuple #[.int .i64 x, .bool p])) := Lib.hid (Ret.quiet fun W => hxp ▸ rInt v W (by omega))
          have H3 : Hid (Ret 34 #[.string v] (.int .i64 (bitsN (sval v) : Int))) := Lib.hid (ret_bits hvs rfl)
          have H4 : Hid (Ret 35 #[.string v] (.int .i64 (bitsN (sval v) : Int))) := Lib.hid (Ret.quiet fun W => rBits v W (by omega))
          have H5 : Hid (Ret 36 #[.string v] (.bool (rightB v))) := Lib.hid (ret_right hvs rfl)
          have H6 : Hid (Ret 37 #[.string v] (.bool (rightB v))) := Lib.hid (Ret.quiet fun W => rRight v W (by omega))
          clear hv hxp
          generalize bitsN (sval v) = bn at H3 H4
          generalize rightB v = rb at H5 H6
          go_wp2_with (first
            | (go_at_call 32; (with_reducible refine (H1.out _).mono ?_); rintro e w' ⟨rfl, hb''⟩; replace hbq := below_then hbq hb''; clear hb'')
            | (go_at_call 33; (with_reducible refine (H2.out _).mono ?_); rintro e w' ⟨rfl, hb''⟩; replace hbq := below_then hbq hb''; clear hb'')
            | (go_at_call 34; (with_reducible refine (H3.out _).mono ?_); rintro e w' ⟨rfl, hb''⟩; replace hbq := below_then hbq hb''; clear hb'')
            | (go_at_call 35; (with_reducible refine (H4.out _).mono ?_); rintro e w' ⟨rfl, hb''⟩; replace hbq := below_then hbq hb''; clear hb'')
            | (go_at_call 36; (with_reducible refine (H5.out _).mono ?_); rintro e w' ⟨rfl, hb''⟩; replace hbq := below_then hbq hb''; clear hb'')
            | (go_at_call 37; (with_reducible refine (H6.out _).mono ?_); rintro e w' ⟨rfl, hb''⟩; replace hbq := below_then hbq hb''; clear hb''))
          go_roundw
          case rel => ((repeat apply Exists.intro); exact ⟨⟨i + 1, by omega, by go_num, hbq⟩, rfl⟩)
          case measure => simp [intOf]; omega
        · obtain rfl : i = 4 := by omega
          go_wp2_with fail
          go_ret
          exact ⟨rfl, below_then hB3 hbq⟩

end Go.Proofs.YthiogjpjkdnbjaaGreatDoor
