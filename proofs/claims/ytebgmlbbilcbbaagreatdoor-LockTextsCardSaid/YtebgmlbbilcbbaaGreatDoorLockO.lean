/- Locks: inputs of both. -/
import Derived.Test.YtebgmlbbilcbbaaGreatDoorLockN
import Derived.Test.YtebgmlbbilcbbaaGreatDoorShelfTxt
import Derived.Shelf.Strings.BuilderF
namespace Go.Proofs.YtebgmlbbilcbbaaGreatDoor
open Go.RowKit
attribute [local go_sem] Oper.semAt_some

/-- A builder of the call's own. -/
abbrev IsB (B b : Nat) (bs : List Value) (w : World) : Prop := Lib.IsBuilderF 135 5 B b bs w
theorem ws_any (B b : Nat) (bs : List Value) (s : ByteArray) (w : World) (h : IsB B b bs w) (hlen : bs.length + s.size ≤ 140737488355328) (hBw : B ≤ w.heap.size) :
    Calls Tryz.prog 113 #[.pointer (some ⟨b, 0, none⟩), .string s] w fun e w' => e = .returned (.tuple #[.int .i64 s.size, .nilIface]) ∧ (Lib.BuilderAtF 135 5 B b (.pointer (some ⟨b, 0, none⟩)) (bs ++ Lib.strCells s) w' ∧ Below B w w') :=
  Any.Builder_WriteString_f (ρ := Tryz.lays105_ren) { Tryz.lays105 with } Tryz.Builder_Extra_105 B b bs s w h hlen hBw
theorem bstr_any (B b : Nat) (l : List UInt8) (w : World) (h : IsB B b (Lib.byteCells l) w) (hBw : B ≤ w.heap.size) :
    Calls Tryz.prog 115 #[.pointer (some ⟨b, 0, none⟩)] w fun e w' => e = .returned (.string ⟨l.toArray⟩) ∧ (IsB B b (Lib.byteCells l) w' ∧ Below B w w') :=
  Any.Builder_String_any_f (ρ := Tryz.lays105_ren) { Tryz.lays105 with } Tryz.Builder_Extra_105 B b l w h hBw
theorem atF_below {T e : TypeId} {B b : Nat} {p : Value} {bs : List Value} {W W' : World} (h : Lib.BuilderAtF T e B b p bs W) (hb : Below W.heap.size W W') : Lib.BuilderAtF T e B b p bs W' := by
  have hlt := h.lt
  obtain ⟨hB, v, hv, hown, hne⟩ := h
  exact ⟨hB, v, (hb.block b hlt).trans hv, hown.kept (row := none) ⟨hb.os, hb.tape, hb.output, hb.size, fun k hk _ => hb.block k hk⟩ (Classical.em _), hne⟩

theorem isB_below {B b : Nat} {bs : List Value} {W W' : World} (h : IsB B b bs W) (hb : Below W.heap.size W W') : IsB B b bs W' :=
  h.elim (fun x => .inl (atF_below x hb)) (fun x => .inr (atF_below x hb))
theorem isB_new (w : World) : IsB w.heap.size w.heap.size [] (w.alloc (.cells #[.pointer none, .slice none 0 0] 135)) :=
  .inl ⟨Nat.le_refl _, .slice none 0 0, Blk.new _ _ _, ⟨rfl, .inl ⟨rfl, rfl⟩⟩, by simp [Value.ownBlock]⟩
theorem hash_range {w : World} {k : Nat} {t : TypeId} {h : List UInt8} (hk : Blk w k t (u8a h)) : w.rangeAt k 0 (u8l h) := fun j v hv => by
  unfold u8l at hv
  rw [List.getElem?_map, Option.map_eq_some_iff] at hv
  obtain ⟨b, hb, rfl⟩ := hv
  rw [Nat.zero_add]
  exact hk.u8A hb
/-- The beginning of an input. -/
def inHead (d h : ByteArray) : ByteArray := ((⟨#[114, 111, 117, 110, 100, 47]⟩ ++ d) ++ ⟨#[47]⟩) ++ h
theorem inHead_list (round : Int) (h : List UInt8) : (inHead (decIS round) (strB (hexL h))).data.toList = inputL round h [] := by
  unfold inHead inputL
  simp only [ByteArray.data_append, Array.toList_append, decIS_list, strB_list, List.append_assoc]
  simp
theorem inHead_size (d h : ByteArray) : (inHead d h).size = 6 + d.size + 1 + h.size := by
  unfold inHead
  simp only [ByteArray.size_append]
  rfl
/-- The part for one secret. -/
def partB (d s : ByteArray) : ByteArray := ((⟨#[47]⟩ ++ d) ++ ⟨#[58]⟩) ++ s
theorem partB_list (s : ByteArray) : (partB (decS s.size) s).data.toList = partL s.data.toList := by
  unfold partB partL
  simp only [ByteArray.data_append, Array.toList_append, decS_list, List.append_assoc, size_len]
  simp
theorem partB_size (d s : ByteArray) : (partB d s).size = 1 + d.size + 1 + s.size := by
  unfold partB
  simp only [ByteArray.size_append]
  rfl
theorem inputL_snoc (round : Int) (h : List UInt8) (l : List (List UInt8)) (s : List UInt8) : inputL round h (l ++ [s]) = inputL round h l ++ partL s := by
  unfold inputL
  rw [List.flatMap_append, List.flatMap_cons, List.flatMap_nil, List.append_nil]
  simp

set_option maxRecDepth 100000 in
set_option maxHeartbeats 4000000 in
theorem Input_q (round : Int) (h1 : I64 round) (h : List UInt8) (hh : h.length = 32) (A : Option Addr) (n c : Nat) (xs : List ByteArray) (hx : ∀ x ∈ xs, x.size ≤ 1000) (hn : n ≤ 1000) (w : World) (hT : Tabs w) (hd : NDg w A n c xs) :
    Calls Tryz.prog 63 #[.int .i64 round, .agg (u8a h), .slice A n c] w fun e w' => e = .returned (.string (strB (inputL round h (xs.map (·.data.toList))))) ∧ Below w.heap.size w w' := by
  have HT := Lib.hid hT
  clear hT
  have m1 := Lib.hid (itoa_int round h1)
  have m2 := Lib.hid (Text_h h hh)
  obtain ⟨out, hout⟩ : ∃ out, out = inputL round h (xs.map (·.data.toList)) := ⟨_, rfl⟩
  have HO := Lib.hid hout
  rw [← hout]
  clear hout
  have hHl := hh
  have HL := Lib.hid hh
  have HX := Lib.hid hx
  have HN := Lib.hid hd
  have hlen := hd.len
  have HXL := Lib.hid hlen
  have s1 := decIS_size h1
  have s2 : (strB (hexL h)).size = 64 := by rw [strB_size, hexL_len, hh]
  obtain ⟨u0, hu0⟩ : ∃ u0, u0 = inHead (decIS round) (strB (hexL h)) := ⟨_, rfl⟩
  have HU0 : Hid (u0.data.toList = inputL round h []) := Lib.hid (by rw [hu0]; exact inHead_list round h)
  have hu0s : u0.size ≤ 100 := by rw [hu0, inHead_size]; omega
  have hcat : ((⟨#[114, 111, 117, 110, 100, 47]⟩ ++ decIS round) ++ ⟨#[47]⟩) ++ strB (hexL h) = u0 := by rw [hu0]; rfl
  have z1 : ¬ 9223372036854775807 < 6 + (decIS round).size := by omega
  have z2 : ¬ 9223372036854775807 < 6 + (decIS round).size + 1 := by omega
  have z3 : ¬ 9223372036854775807 < 6 + (decIS round).size + 1 + (strB (hexL h)).size := by omega
  clear hu0 hh hx hd hlen s2
  generalize decIS round = d1 at *
  generalize strB (hexL h) = d2 at *
  go_enter Tryz.func63, Tryz.ntmps63
  go_upto_region 1 with fail
  refine nameOne (u8a h) rfl ?_
  intro w0 k0 hB
  obtain ⟨H, hH⟩ : ∃ H, H = w.heap.size := ⟨_, rfl⟩
  rw [← hH] at k0 ⊢
  clear hH
  go_upto_region 2 with fail
  have hb0 := isB_new w0
  have hal : Below w0.heap.size w0 (w0.alloc (.cells #[.pointer none, .slice none 0 0] 135)) := below_al (Below.refl _ _) _
  have hBz : w0.heap.size ≤ (w0.alloc (.cells #[.pointer none, .slice none 0 0] 135)).drew.heap.size := hal.drew.size
  have hgB : w.heap.size ≤ w0.heap.size := hB.size
  replace k0 := k0.below hal k0.lt
  replace hB := below_then hB hal
  generalize w0.alloc (.cells #[.pointer none, .slice none 0 0] 135) = wq at hb0 hBz k0 hB ⊢
  generalize w0.heap.size = B at hb0 hBz hgB ⊢
  clear hal
  have hbd : IsB B B [] wq.drew := isB_below hb0 (Below.refl _ _).drew
  have hBd := hB.drew
  have k0d : Blk wq.drew H 71 (u8a h) := k0
  refine region_here (fun Z : World => Blk Z H 71 (u8a h)) 7 (by kernel_rfl) k0d (fun hHeld => ?_)
  refine wpAnyS_take [1, 2, 3, 5, 6, 7] (i := 0) (oi := ⟨_, _, _, _, _, _⟩) (v := ?_) (by simp) (by kernel_rfl) rfl (by kernel_rfl) (by kernel_rfl) (by kernel_rfl) (fun _ _ _ h => h) (Or.inl ⟨by rfl, ?_⟩) (by assumption) ?_
  rotate_left
  · (intro w hSw; (try dsimp only at hSw); go_simp; try with_reducible rfl)
  try simp only [Act.put, List.setIfInBounds_toArray, List.set_cons_zero, List.set_cons_succ]
  refine wpAnyS_take [5, 6, 7] (i := 4) (oi := ⟨_, _, _, _, _, _⟩) (v := .agg (u8a h)) (by simp) (by kernel_rfl) rfl (by kernel_rfl) (by kernel_rfl) (by kernel_rfl) (fun _ _ _ h => h) (yieldsIf_load_mid rfl 71 (.tmp 4) rfl H 0 rfl (u8l h) _ (fun Z hZ => hash_range hZ) Tryz.underlying71 rfl (by rw [u8l_len, HL.out]; exact hash_size)) (by assumption) ?_
  try simp only [Act.put, List.setIfInBounds_toArray, List.set_cons_zero, List.set_cons_succ]
  refine wpAnyS_one (i := 1) (oi := ⟨_, _, _, _, _, _⟩) rfl (by kernel_rfl) (fun K hK => ?_)
  go_simp
  go_at_call 85
  (with_reducible refine (m1.out _ ?_).mono ?_)
  · exact HT.out.below hBd
  rintro e w1 ⟨rfl, hb1⟩
  (try go_wp2_with fail)
  refine hK.out _ _ ?_ (fun hHeld1 => ?_)
  · exact hHeld.below hb1 hHeld.lt
  clear hK K
  try simp only [Act.put, List.setIfInBounds_toArray, List.set_cons_zero, List.set_cons_succ]
  refine wpAnyS_take [3, 6, 7] (i := 2) (oi := ⟨_, _, _, _, _, _⟩) (v := ?_) (by simp) (by kernel_rfl) rfl (by kernel_rfl) (by kernel_rfl) (by kernel_rfl) (fun _ _ _ h => h) (Or.inl ⟨by rfl, ?_⟩) (by assumption) ?_
  rotate_left
  · (intro w hSw; (try dsimp only at hSw); go_simp; try with_reducible rfl)
  try simp only [Act.put, List.setIfInBounds_toArray, List.set_cons_zero, List.set_cons_succ]
  refine wpAnyS_take [6, 7] (i := 3) (oi := ⟨_, _, _, _, _, _⟩) (v := ?_) (by simp) (by kernel_rfl) rfl (by kernel_rfl) (by kernel_rfl) (by kernel_rfl) (fun _ _ _ h => h) (Or.inl ⟨by rfl, ?_⟩) (by assumption) ?_
  rotate_left
  · (intro w hSw; (try dsimp only at hSw); go_simp; try with_reducible rfl)
  try simp only [Act.put, List.setIfInBounds_toArray, List.set_cons_zero, List.set_cons_succ]
  refine wpAnyS_one (i := 5) (oi := ⟨_, _, _, _, _, _⟩) rfl (by kernel_rfl) (fun K hK => ?_)
  go_simp
  go_at_call 114
  (with_reducible refine (m2.out _).mono ?_)
  rintro e w2 ⟨rfl, hb2⟩
  (try go_wp2_with fail)
  refine hK.out _ _ ?_ (fun hHeld5 => ?_)
  · exact hHeld1.below hb2 hHeld1.lt
  clear hK K
  try simp only [Act.put, List.setIfInBounds_toArray, List.set_cons_zero, List.set_cons_succ]
  refine wpAnyS_take [7] (i := 6) (oi := ⟨_, _, _, _, _, _⟩) (v := ?_) (by simp) (by kernel_rfl) rfl (by kernel_rfl) (by kernel_rfl) (by kernel_rfl) (fun _ _ _ h => h) (Or.inl ⟨by rfl, ?_⟩) (by assumption) ?_
  rotate_left
  · (intro w hSw; (try dsimp only at hSw); go_simp; try with_reducible rfl)
  try simp only [Act.put, List.setIfInBounds_toArray, List.set_cons_zero, List.set_cons_succ]
  refine wpAnyS_call (k := 7) (ok := ⟨_, _, _, _, _, _⟩) rfl (by kernel_rfl) (by kernel_rfl) (fun K hK => ?_)
  have hbd2 := isB_below (isB_below hbd hb1) hb2
  have hBd2 := below_then (below_then hBd hb1) hb2
  go_simp
  go_at_call 113
  refine (ws_any B B [] u0 _ hbd2 (by rw [List.length_nil]; omega) (Nat.le_trans hBz (Nat.le_trans hb1.size hb2.size))).mono ?_
  rintro e w3 ⟨rfl, hat, hb3⟩
  (try go_wp2_with fail)
  refine hK.out _ _ ?_
  clear hK K
  try simp only [Act.put, List.setIfInBounds_toArray, List.set_cons_zero, List.set_cons_succ]
  refine wpAny_done (by kernel_rfl) ?_ _
  have hB3 := hBd2.trans (hb3.mono hgB)
  have hat3 : IsB B B (Lib.byteCells u0.data.toList) w3 := .inr hat
  have hBz3 : B ≤ w3.heap.size := Nat.le_trans hBz (Nat.le_trans hb1.size (Nat.le_trans hb2.size hb3.size))
  clear hat hbd hbd2 hBd hBd2 hb1 hb2 hb3 hb0 hB k0 k0d hcat z1 z2 z3
  go_wp2_with fail
  go_loopw [20] (fun s20 wr => ∃ (k : Nat) (l : List UInt8), k ≤ n ∧ s20 = .int .i64 (k : Int) ∧ IsB B B (Lib.byteCells l) wr ∧ l.length ≤ 100 + 1100 * k ∧ Hid (l = inputL round h ((xs.take k).map (·.data.toList))) ∧ B ≤ wr.heap.size ∧ Below w.heap.size w wr) (fun s20 _ => n - (intOf s20).toNat)
  case atStart => exact ⟨0, u0.data.toList, Nat.zero_le _, rfl, hat3, by rw [size_len]; omega, Lib.hid (by rw [List.take_zero]; exact HU0.out), hBz3, hB3⟩
  case round =>
    obtain ⟨k, l, hk, rfl, hb, hll, HI, hBz, hB⟩ := hrel
    by_cases hlt : k < n
    · have hlt' : (k : Int) < (n : Int) := by omega
      obtain ⟨b, o, s, rfl, hs, hsc⟩ := (HN.out.below hB).get hlt
      have hss := HX.out s (List.mem_of_getElem? hs)
      have m3 : Hid (∀ W, Pow10 W → Calls Tryz.prog 85 #[.int .i64 (s.size : Int)] W fun e w' => e = .returned (.string (decS s.size)) ∧ Below W.heap.size W w') := Lib.hid (fun W hT => itoa_nat s.size W (by omega) hT)
      have hds : (decS s.size).size ≤ 20 := decS_int (by omega)
      obtain ⟨p, hp⟩ : ∃ p, p = partB (decS s.size) s := ⟨_, rfl⟩
      have HST : Hid (l ++ p.data.toList = inputL round h ((xs.take (k + 1)).map (·.data.toList))) := Lib.hid (by
        rw [List.take_add_one, hs, Option.toList_some, List.map_append, List.map_cons, List.map_nil, inputL_snoc, ← HI.out, hp, partB_list])
      have hps : p.size ≤ 1100 := by rw [hp, partB_size]; omega
      have hcat : ((⟨#[47]⟩ ++ decS s.size) ++ ⟨#[58]⟩) ++ s = p := by rw [hp]; rfl
      have z1 : ¬ 9223372036854775807 < 1 + (decS s.size).size := by omega
      have z1' : ¬ 9223372036854775807 ≤ (decS s.size).size := by omega
      have z2 : ¬ 9223372036854775807 < 1 + (decS s.size).size + 1 := by omega
      have z3 : ¬ 9223372036854775807 < 1 + (decS s.size).size + 1 + s.size := by omega
      clear hp hs
      generalize decS s.size = d3 at *
      go_wp2_with fail
      refine (m3.out _ (HT.out.below hB).p).mono ?_
      rintro e w4 ⟨rfl, hb4⟩
      replace hb := isB_below hb hb4
      replace hB := below_then hB hb4
      replace hBz := Nat.le_trans hBz hb4.size
      clear hb4
      go_wp2_with fail
      refine (ws_any B B (Lib.byteCells l) p _ hb (by rw [Lib.byteCells_length]; omega) hBz).mono ?_
      rintro e w5 ⟨rfl, hat, hb5⟩
      have hat5 : IsB B B (Lib.byteCells (l ++ p.data.toList)) w5 := .inr (by rw [Lib.byteCells_append]; exact hat)
      have hB5 := hB.trans (hb5.mono hgB)
      have hBz5 := Nat.le_trans hBz hb5.size
      clear hat hb5 hb hB hBz hcat z1 z2 z3
      go_wp2_with fail
      go_roundw
      case rel => exact ⟨k + 1, l ++ p.data.toList, by omega, by go_num, hat5, by rw [List.length_append, size_len]; omega, HST, hBz5, hB5⟩
      case measure => simp [intOf]; omega
    · obtain rfl : k = n := by omega
      have hl : l = out := by rw [HI.out, HO.out, List.take_of_length_le (by rw [HXL.out]; exact Nat.le_refl _)]
      subst hl
      go_wp2_with fail
      refine (bstr_any B B l _ hb hBz).mono ?_
      rintro e w4 ⟨rfl, -, hb4⟩
      have hB5 := hB.trans (hb4.mono hgB)
      go_wp2_with fail
      go_ret
      exact ⟨rfl, hB5⟩

set_option maxRecDepth 100000 in
set_option maxHeartbeats 4000000 in
theorem rInput_q (round : Int) (h1 : I64 round) (h : List UInt8) (hh : h.length = 32) (A : Option Addr) (n c : Nat) (xs : List ByteArray) (hx : ∀ x ∈ xs, x.size ≤ 1000) (hn : n ≤ 1000) (w : World) (hd : NDg w A n c xs) :
    Calls Tryz.prog 65 #[.int .i64 round, .agg (u8a h), .slice A n c] w fun e w' => e = .returned (.string (strB (inputL round h (xs.map (·.data.toList))))) ∧ Below w.heap.size w w' := by
  have m1 := Lib.hid (Decimal_q round h1)
  have m2 := Lib.hid (rText_h h hh)
  obtain ⟨out, hout⟩ : ∃ out, out = inputL round h (xs.map (·.data.toList)) := ⟨_, rfl⟩
  have HO := Lib.hid hout
  rw [← hout]
  clear hout
  have hHl := hh
  have HL := Lib.hid hh
  have HX := Lib.hid hx
  have HN := Lib.hid hd
  have hlen := hd.len
  have HXL := Lib.hid hlen
  have s1 := decIS_size h1
  have s2 : (strB (hexL h)).size = 64 := by rw [strB_size, hexL_len, hh]
  obtain ⟨u0, hu0⟩ : ∃ u0, u0 = inHead (decIS round) (strB (hexL h)) := ⟨_, rfl⟩
  have HU0 : Hid (u0.data.toList = inputL round h []) := Lib.hid (by rw [hu0]; exact inHead_list round h)
  have hu0s : u0.size ≤ 100 := by rw [hu0, inHead_size]; omega
  have hcat : ((⟨#[114, 111, 117, 110, 100, 47]⟩ ++ decIS round) ++ ⟨#[47]⟩) ++ strB (hexL h) = u0 := by rw [hu0]; rfl
  have z1 : ¬ 9223372036854775807 < 6 + (decIS round).size := by omega
  have z2 : ¬ 9223372036854775807 < 6 + (decIS round).size + 1 := by omega
  have z3 : ¬ 9223372036854775807 < 6 + (decIS round).size + 1 + (strB (hexL h)).size := by omega
  clear hu0 hh hx hd hlen s2
  generalize decIS round = d1 at *
  generalize strB (hexL h) = d2 at *
  go_enter Tryz.func65, Tryz.ntmps65
  go_upto_region 1 with fail
  refine nameOne (u8a h) rfl ?_
  intro w0 k0 hB
  obtain ⟨H, hH⟩ : ∃ H, H = w.heap.size := ⟨_, rfl⟩
  rw [← hH] at k0 ⊢
  clear hH
  have hBd := hB.drew
  have k0d : Blk w0.drew H 71 (u8a h) := k0
  refine region_here (fun Z : World => Blk Z H 71 (u8a h)) 6 (by kernel_rfl) k0d (fun hHeld => ?_)
  refine wpAnyS_take [1, 2, 3, 5, 6, 7] (i := 0) (oi := ⟨_, _, _, _, _, _⟩) (v := ?_) (by simp) (by kernel_rfl) rfl (by kernel_rfl) (by kernel_rfl) (by kernel_rfl) (fun _ _ _ h => h) (Or.inl ⟨by rfl, ?_⟩) (by assumption) ?_
  rotate_left
  · (intro w hSw; (try dsimp only at hSw); go_simp; try with_reducible rfl)
  try simp only [Act.put, List.setIfInBounds_toArray, List.set_cons_zero, List.set_cons_succ]
  refine wpAnyS_take [5, 6, 7] (i := 4) (oi := ⟨_, _, _, _, _, _⟩) (v := .agg (u8a h)) (by simp) (by kernel_rfl) rfl (by kernel_rfl) (by kernel_rfl) (by kernel_rfl) (fun _ _ _ h => h) (yieldsIf_load_mid rfl 71 (.tmp 4) rfl H 0 rfl (u8l h) _ (fun Z hZ => hash_range hZ) Tryz.underlying71 rfl (by rw [u8l_len, HL.out]; exact hash_size)) (by assumption) ?_
  try simp only [Act.put, List.setIfInBounds_toArray, List.set_cons_zero, List.set_cons_succ]
  refine wpAnyS_one (i := 1) (oi := ⟨_, _, _, _, _, _⟩) rfl (by kernel_rfl) (fun K hK => ?_)
  go_simp
  go_at_call 110
  (with_reducible refine (m1.out _).mono ?_)
  rintro e w1 ⟨rfl, hb1⟩
  (try go_wp2_with fail)
  refine hK.out _ _ ?_ (fun hHeld1 => ?_)
  · exact hHeld.below hb1 hHeld.lt
  clear hK K
  try simp only [Act.put, List.setIfInBounds_toArray, List.set_cons_zero, List.set_cons_succ]
  refine wpAnyS_take [3, 6, 7] (i := 2) (oi := ⟨_, _, _, _, _, _⟩) (v := ?_) (by simp) (by kernel_rfl) rfl (by kernel_rfl) (by kernel_rfl) (by kernel_rfl) (fun _ _ _ h => h) (Or.inl ⟨by rfl, ?_⟩) (by assumption) ?_
  rotate_left
  · (intro w hSw; (try dsimp only at hSw); go_simp; try with_reducible rfl)
  try simp only [Act.put, List.setIfInBounds_toArray, List.set_cons_zero, List.set_cons_succ]
  refine wpAnyS_take [6, 7] (i := 3) (oi := ⟨_, _, _, _, _, _⟩) (v := ?_) (by simp) (by kernel_rfl) rfl (by kernel_rfl) (by kernel_rfl) (by kernel_rfl) (fun _ _ _ h => h) (Or.inl ⟨by rfl, ?_⟩) (by assumption) ?_
  rotate_left
  · (intro w hSw; (try dsimp only at hSw); go_simp; try with_reducible rfl)
  try simp only [Act.put, List.setIfInBounds_toArray, List.set_cons_zero, List.set_cons_succ]
  refine wpAnyS_one (i := 5) (oi := ⟨_, _, _, _, _, _⟩) rfl (by kernel_rfl) (fun K hK => ?_)
  go_simp
  go_at_call 103
  (with_reducible refine (m2.out _).mono ?_)
  rintro e w2 ⟨rfl, hb2⟩
  (try go_wp2_with fail)
  refine hK.out _ _ ?_ (fun hHeld5 => ?_)
  · exact hHeld1.below hb2 hHeld1.lt
  clear hK K
  try simp only [Act.put, List.setIfInBounds_toArray, List.set_cons_zero, List.set_cons_succ]
  refine wpAnyS_call (k := 6) (ok := ⟨_, _, _, _, _, _⟩) rfl (by kernel_rfl) (by kernel_rfl) (fun K hK => ?_)
  go_simp
  refine hK.out _ _ ?_
  clear hK K
  try simp only [Act.put, List.setIfInBounds_toArray, List.set_cons_zero, List.set_cons_succ]
  refine wpAny_take (i := 7) (oi := ⟨_, _, _, _, _, _⟩) (v := ?_) rfl (by kernel_rfl) (by kernel_rfl) (by kernel_rfl) (fun _ _ _ h => h) (Or.inl ⟨by rfl, ?_⟩) ?_
  rotate_left
  · (intro w; go_simp; try with_reducible rfl)
  try simp only [Act.put, List.setIfInBounds_toArray, List.set_cons_zero, List.set_cons_succ]
  refine wpAny_done (by kernel_rfl) ?_ _
  have hB3 := below_then (below_then hBd hb1) hb2
  clear hBd hb1 hb2 hB k0 k0d hcat z1 z2 z3
  go_wp2_with fail
  go_loopw [7, 8] (fun s7 s8 wr => ∃ (k : Nat) (u : ByteArray), k ≤ n ∧ s8 = .int .i64 (k : Int) ∧ s7 = .string u ∧ u.size ≤ 100 + 1100 * k ∧ Hid (u.data.toList = inputL round h ((xs.take k).map (·.data.toList))) ∧ Below w.heap.size w wr) (fun _ s8 _ => n - (intOf s8).toNat)
  case atStart => exact ⟨0, u0, Nat.zero_le _, rfl, rfl, by omega, Lib.hid (by rw [List.take_zero]; exact HU0.out), hB3⟩
  case round =>
    obtain ⟨k, u, hk, rfl, rfl, hus, HI, hB⟩ := hrel
    by_cases hlt : k < n
    · have hlt' : (k : Int) < (n : Int) := by omega
      obtain ⟨b, o, s, rfl, hs, hsc⟩ := (HN.out.below hB).get hlt
      have hss := HX.out s (List.mem_of_getElem? hs)
      have m3 : Hid (Ret 110 #[.int .i64 (s.size : Int)] (.string (decS s.size))) := Lib.hid (by
        have := Decimal_q (s.size : Int) ⟨by omega, by omega⟩
        rwa [decIS_nat] at this)
      have hds : (decS s.size).size ≤ 20 := decS_int (by omega)
      obtain ⟨v, hv⟩ : ∃ v, v = (((u ++ ⟨#[47]⟩) ++ decS s.size) ++ ⟨#[58]⟩) ++ s := ⟨_, rfl⟩
      have hvl : v.data.toList = u.data.toList ++ partL s.data.toList := by
        rw [hv, ← partB_list]
        unfold partB
        simp only [ByteArray.data_append, Array.toList_append, List.append_assoc]
      have HST : Hid (v.data.toList = inputL round h ((xs.take (k + 1)).map (·.data.toList))) := Lib.hid (by
        rw [List.take_add_one, hs, Option.toList_some, List.map_append, List.map_cons, List.map_nil, inputL_snoc, ← HI.out, hvl])
      have hvs : v.size ≤ 100 + 1100 * (k + 1) := by
        rw [hv]
        simp only [ByteArray.size_append]
        show u.size + 1 + (decS s.size).size + 1 + s.size ≤ _
        omega
      have hcat := hv.symm
      have hku : u.size ≤ 2000000 := by omega
      have z0 : ¬ 9223372036854775807 < u.size + 1 := by omega
      have z1 : ¬ 9223372036854775807 < u.size + 1 + (decS s.size).size := by omega
      have z2 : ¬ 9223372036854775807 < u.size + 1 + (decS s.size).size + 1 := by omega
      have z3 : ¬ 9223372036854775807 < u.size + 1 + (decS s.size).size + 1 + s.size := by omega
      clear hv hs hvl
      generalize decS s.size = d3 at *
      go_upto_region 5 with fail
      have hscd : wr.drew.cell? ⟨b, o + k, none⟩ = some (.string s) := hsc
      have hBd := hB.drew
      clear hsc
      refine region_here (fun Z : World => Z.cell? ⟨b, o + k, none⟩ = some (.string s)) 14 (by kernel_rfl) hscd (fun hHeld => ?_)
      refine wpAnyS_take [1, 8, 9, 14, 15] (i := 0) (oi := ⟨_, _, _, _, _, _⟩) (v := ?_) (by simp) (by kernel_rfl) rfl (by kernel_rfl) (by kernel_rfl) (by kernel_rfl) (fun _ _ _ h => h) (Or.inl ⟨by rfl, ?_⟩) (by assumption) ?_
      rotate_left
      · (intro w hSw; (try dsimp only at hSw); go_simp; try with_reducible rfl)
      try simp only [Act.put, List.setIfInBounds_toArray, List.set_cons_zero, List.set_cons_succ]
      refine wpAnyS_take [8, 9, 14, 15] (i := 1) (oi := ⟨_, _, _, _, _, _⟩) (v := ?_) (by simp) (by kernel_rfl) rfl (by kernel_rfl) (by kernel_rfl) (by kernel_rfl) (fun _ _ _ h => h) (Or.inl ⟨by rfl, ?_⟩) (by assumption) ?_
      rotate_left
      · (intro w hSw; (try dsimp only at hSw); go_simp; try with_reducible rfl)
      try simp only [Act.put, List.setIfInBounds_toArray, List.set_cons_zero, List.set_cons_succ]
      refine wpAnyS_take [4, 5, 6, 7, 8, 9, 14, 15] (i := 2) (oi := ⟨_, _, _, _, _, _⟩) (v := ?_) (by simp) (by kernel_rfl) rfl (by kernel_rfl) (by kernel_rfl) (by kernel_rfl) (fun _ _ _ h => h) (Or.inl ⟨by rfl, ?_⟩) (by assumption) ?_
      rotate_left
      · (intro w hSw; (try dsimp only at hSw); go_simp; try with_reducible rfl)
      try simp only [Act.put, List.setIfInBounds_toArray, List.set_cons_zero, List.set_cons_succ]
      refine wpAnyS_take [4, 5, 6, 7, 8, 9, 14, 15] (i := 3) (oi := ⟨_, _, _, _, _, _⟩) (v := ?_) (by simp) (by kernel_rfl) rfl (by kernel_rfl) (by kernel_rfl) (by kernel_rfl) (fun _ _ _ h => h) (Or.inl ⟨by rfl, ?_⟩) (by assumption) ?_
      rotate_left
      · (intro w hSw; (try dsimp only at hSw); go_simp; try with_reducible rfl)
      try simp only [Act.put, List.setIfInBounds_toArray, List.set_cons_zero, List.set_cons_succ]
      refine wpAnyS_take [5, 6, 7, 8, 9, 14, 15] (i := 4) (oi := ⟨_, _, _, _, _, _⟩) (v := ?_) (by simp) (by kernel_rfl) rfl (by kernel_rfl) (by kernel_rfl) (by kernel_rfl) (fun _ _ _ h => h) (Or.inl ⟨by rfl, ?_⟩) (by assumption) ?_
      rotate_left
      · (intro w hSw; (try dsimp only at hSw); go_simp; try with_reducible rfl)
      try simp only [Act.put, List.setIfInBounds_toArray, List.set_cons_zero, List.set_cons_succ]
      refine wpAnyS_take [6, 7, 8, 9, 14, 15] (i := 5) (oi := ⟨_, _, _, _, _, _⟩) (v := ?_) (by simp) (by kernel_rfl) rfl (by kernel_rfl) (by kernel_rfl) (by kernel_rfl) (fun _ _ _ h => h) (Or.inl ⟨by rfl, ?_⟩) (by assumption) ?_
      rotate_left
      · (intro w hSw; (try dsimp only at hSw); go_simp; try with_reducible rfl)
      try simp only [Act.put, List.setIfInBounds_toArray, List.set_cons_zero, List.set_cons_succ]
      refine wpAnyS_take [7, 8, 9, 14, 15] (i := 6) (oi := ⟨_, _, _, _, _, _⟩) (v := ?_) (by simp) (by kernel_rfl) rfl (by kernel_rfl) (by kernel_rfl) (by kernel_rfl) (fun _ _ _ h => h) (Or.inl ⟨by rfl, ?_⟩) (by assumption) ?_
      rotate_left
      · (intro w hSw; (try dsimp only at hSw); go_simp; try with_reducible rfl)
      try simp only [Act.put, List.setIfInBounds_toArray, List.set_cons_zero, List.set_cons_succ]
      refine wpAnyS_take [12, 13, 14, 15] (i := 10) (oi := ⟨_, _, _, _, _, _⟩) (v := ?_) (by simp) (by kernel_rfl) rfl (by kernel_rfl) (by kernel_rfl) (by kernel_rfl) (fun _ _ _ h => h) (Or.inl ⟨by rfl, ?_⟩) (by assumption) ?_
      rotate_left
      · (intro w hSw; (try dsimp only at hSw); go_simp; try with_reducible rfl)
      try simp only [Act.put, List.setIfInBounds_toArray, List.set_cons_zero, List.set_cons_succ]
      refine wpAnyS_take [12, 13, 14, 15] (i := 11) (oi := ⟨_, _, _, _, _, _⟩) (v := ?_) (by simp) (by kernel_rfl) rfl (by kernel_rfl) (by kernel_rfl) (by kernel_rfl) (fun _ _ _ h => h) (Or.inl ⟨by rfl, ?_⟩) (by assumption) ?_
      rotate_left
      · (intro w hSw; (try dsimp only at hSw); go_simp; try with_reducible rfl)
      try simp only [Act.put, List.setIfInBounds_toArray, List.set_cons_zero, List.set_cons_succ]
      refine wpAnyS_take [13, 14, 15] (i := 12) (oi := ⟨_, _, _, _, _, _⟩) (v := ?_) (by simp) (by kernel_rfl) rfl (by kernel_rfl) (by kernel_rfl) (by kernel_rfl) (fun _ _ _ h => h) (Or.inl ⟨by rfl, ?_⟩) (by assumption) ?_
      rotate_left
      · (intro w hSw; (try dsimp only at hSw); go_simp; try with_reducible rfl)
      try simp only [Act.put, List.setIfInBounds_toArray, List.set_cons_zero, List.set_cons_succ]
      refine wpAnyS_take [14, 15] (i := 13) (oi := ⟨_, _, _, _, _, _⟩) (v := ?_) (by simp) (by kernel_rfl) rfl (by kernel_rfl) (by kernel_rfl) (by kernel_rfl) (fun _ _ _ h => h) (Or.inl ⟨by rfl, ?_⟩) (by assumption) ?_
      rotate_left
      · (intro w hSw; (try dsimp only at hSw); go_simp; try with_reducible rfl)
      try simp only [Act.put, List.setIfInBounds_toArray, List.set_cons_zero, List.set_cons_succ]
      refine wpAnyS_one (i := 7) (oi := ⟨_, _, _, _, _, _⟩) rfl (by kernel_rfl) (fun K hK => ?_)
      go_simp
      go_at_call 110
      (with_reducible refine (m3.out _).mono ?_)
      rintro e w3 ⟨rfl, hb3⟩
      (try go_wp2_with fail)
      refine hK.out _ _ ?_ (fun hHeld7 => ?_)
      · exact cell_b hb3 hHeld
      clear hK K
      try simp only [Act.put, List.setIfInBounds_toArray, List.set_cons_zero, List.set_cons_succ]
      refine wpAnyS_take [9, 14, 15] (i := 8) (oi := ⟨_, _, _, _, _, _⟩) (v := ?_) (by simp) (by kernel_rfl) rfl (by kernel_rfl) (by kernel_rfl) (by kernel_rfl) (fun _ _ _ h => h) (Or.inl ⟨by rfl, ?_⟩) (by assumption) ?_
      rotate_left
      · (intro w hSw; (try dsimp only at hSw); go_simp; try with_reducible rfl)
      try simp only [Act.put, List.setIfInBounds_toArray, List.set_cons_zero, List.set_cons_succ]
      refine wpAnyS_take [14, 15] (i := 9) (oi := ⟨_, _, _, _, _, _⟩) (v := ?_) (by simp) (by kernel_rfl) rfl (by kernel_rfl) (by kernel_rfl) (by kernel_rfl) (fun _ _ _ h => h) (Or.inl ⟨by rfl, ?_⟩) (by assumption) ?_
      rotate_left
      · (intro w hSw; (try dsimp only at hSw); go_simp; try with_reducible rfl)
      try simp only [Act.put, List.setIfInBounds_toArray, List.set_cons_zero, List.set_cons_succ]
      refine wpAnyS_call (k := 14) (ok := ⟨_, _, _, _, _, _⟩) rfl (by kernel_rfl) (by kernel_rfl) (fun K hK => ?_)
      go_simp
      refine hK.out _ _ ?_
      clear hK K
      try simp only [Act.put, List.setIfInBounds_toArray, List.set_cons_zero, List.set_cons_succ]
      refine wpAny_take (i := 15) (oi := ⟨_, _, _, _, _, _⟩) (v := ?_) rfl (by kernel_rfl) (by kernel_rfl) (by kernel_rfl) (fun _ _ _ h => h) (Or.inl ⟨by rfl, ?_⟩) ?_
      rotate_left
      · (intro w; go_simp; try with_reducible rfl)
      try simp only [Act.put, List.setIfInBounds_toArray, List.set_cons_zero, List.set_cons_succ]
      refine wpAny_done (by kernel_rfl) ?_ _
      have hB5 := below_then hBd hb3
      clear hcat z0 z1 z2 z3 hBd hb3
      go_wp2_with fail
      go_roundw
      case rel => exact ⟨k + 1, v, by omega, by go_num, rfl, hvs, HST, hB5⟩
      case measure => simp [intOf]; omega
    · obtain rfl : k = n := by omega
      have hl : strB out = u := bytes_eq (by rw [strB_list, HI.out, HO.out, List.take_of_length_le (by rw [HXL.out]; exact Nat.le_refl _)])
      have HZ := Lib.hid hl
      clear hl
      go_wp2_with fail
      go_ret
      exact ⟨by rw [HZ.out]; rfl, hB⟩

end Go.Proofs.YtebgmlbbilcbbaaGreatDoor
