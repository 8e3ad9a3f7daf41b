/- Joined by a program: RefN, RefO, NatS. -/
import Derived.Test.YtebgmlbbilcbbaaGreatDoorNatR
import Derived.Test.YtebgmlbbilcbbaaGreatDoorHelps
import Derived.Test.YtebgmlbbilcbbaaGreatDoorPlainAll
import Derived.Deep.RegionHeld3
import Derived.IntWalk
namespace Go.Proofs.YtebgmlbbilcbbaaGreatDoor
open Go.RowKit

/-- What Parse returns. -/
def parseRes (s : ByteArray) : Value := if goodD s.data.toList = true then .tuple #[.string (natS (dval s.data.toList)), .bool true] else .tuple #[.string ⟨#[]⟩, .bool false]

/-- A slice of bytes turned into a string. -/
theorem run_bdg_str {w : World} {A : Option Addr} {n c : Nat} {l : List UInt8} (h : BDg w A n c l) :
    (convert 22 9 (.slice A n c)).run Tryz.prog w = .ok (.string ⟨l.toArray⟩) w := by
  rw [run_convert_bytes_string w 22 9 5 _ _ _ Tryz.underlying22 Tryz.underlying5 Tryz.underlying9]
  rcases Nat.eq_zero_or_pos n with h0 | h0
  · subst h0
    have : l = [] := List.eq_nil_of_length_eq_zero h.len
    subst this
    cases A <;> rfl
  · obtain ⟨b, o, rfl, hc⟩ := h.at_ h0
    have hld := run_loadCells_list (P := Tryz.prog) w ⟨b, o, none⟩ ((l.map fun b : UInt8 => (b.toNat : Int)).map (Value.int .u8)) (fun j v hv => by
      rw [List.map_map, List.getElem?_map] at hv
      obtain ⟨d, hd, rfl⟩ := Option.map_eq_some_iff.1 hv
      rw [add_addr]
      exact hc j d hd)
    rw [List.length_map, List.length_map, h.len] at hld
    rw [run_bytesToString w _ n c _ hld, push_all]
    simp

/-- A new slice of one byte turned into a string. -/
theorem run_one_str (W : World) (d : Nat) (hd : d < 10) :
    (convert 22 9 (.slice (some ⟨W.heap.size, 0, none⟩) 1 1)).run Tryz.prog (W.alloc (.cells #[.int .u8 (48 + (d : Int))] 5)) = .ok (.string ⟨#[UInt8.ofNat (48 + d)]⟩) (W.alloc (.cells #[.int .u8 (48 + (d : Int))] 5)) := by
  have h : BDg (W.alloc (.cells #[.int .u8 (48 + (d : Int))] 5)) (some ⟨W.heap.size, 0, none⟩) 1 1 [UInt8.ofNat (48 + d)] := by
    refine ⟨rfl, Nat.le_refl _, fun _ => ⟨_, _, rfl, fun j e he => ?_⟩⟩
    cases j with
    | zero =>
      obtain rfl := Option.some.inj he
      rw [dig_byte hd]
      refine ((Blk.new W 5 #[.int .u8 (48 + (d : Int))]).cell 0).trans ?_
      have : ((48 + d : Nat) : Int) = 48 + (d : Int) := by omega
      rw [this]
      rfl
    | succ j => simp at he
  exact run_bdg_str h

theorem dec_next {X : Nat} {D t : List UInt8} (hX : 0 < X) (h : D = (if X = 0 then [] else Lib.decDigits X) ++ t) : D = (if X / 10 = 0 then [] else Lib.decDigits (X / 10)) ++ (UInt8.ofNat (48 + X % 10) :: t) := by
  rw [if_neg (by omega)] at h
  by_cases h1 : X < 10
  · rw [if_pos (by omega), h, Lib.decDigits_one h1, Nat.mod_eq_of_lt h1]; rfl
  · rw [if_neg (by omega), h, dec_ten h1, List.append_assoc]; rfl
theorem natS_pos {n : Nat} (h : 0 < n) : 0 < (natS n).size := by
  rcases Nat.eq_zero_or_pos (natS n).size with e | e
  · have := natS_zero_size.1 e; omega
  · exact e

set_option maxRecDepth 100000 in
set_option maxHeartbeats 2000000 in
theorem rText (a : ByteArray) (w : World) (ha : a.size ≤ 10000) :
    Calls Tryz.prog 41 #[.string a] w fun e w' => e = .returned (.string (decS (sval a))) ∧ Below w.heap.size w w' := by
  obtain ⟨Y, hY⟩ : ∃ Y, Y = sval a := ⟨_, rfl⟩
  have hYl : Y < P8 10000 := by rw [hY]; exact Nat.lt_of_lt_of_le (sval_lt a) (P8_mono ha)
  have HYL := Lib.hid hYl
  have HDB : Hid ((Lib.decDigits Y).length ≤ 30001) := Lib.hid (by rw [hY]; have := dec_bytes a; omega)
  have HC : Hid (∀ W, Calls Tryz.prog 94 #[.string a] W fun e w' => e = .returned (.string (natS Y)) ∧ W = w') := Lib.hid (fun W => hY ▸ rCanon a W (by omega))
  rw [← hY]
  clear hY hYl
  go_enter Tryz.func41, Tryz.ntmps41
  go_wp2_with fail
  refine (HC.out _).mono ?_
  rintro e w' ⟨rfl, rfl⟩
  by_cases h0 : Y = 0
  · have hs : (natS Y).size = 0 := by rw [h0]; rfl
    go_wp2_with fail
    go_ret
    exact ⟨by rw [h0, decS_zero]; rfl, Below.refl _ _⟩
  · have hs := natS_pos (n := Y) (by omega)
    have hs0 : (((natS Y).size : Int) == 0) = false := by rw [beq_eq_false_iff_ne]; omega
    go_wp2_with fail
    clear hs hs0
    go_loopg [0, 3, 4, 5, 6, 7, 8] Y (fun g s0 s3 _ _ _ _ _ wr => ∃ (X : Nat) (t : ByteArray), g = X ∧ X ≤ Y ∧ s0 = .string (natS X) ∧ s3 = .string t ∧ Hid (Lib.decDigits Y = (if X = 0 then [] else Lib.decDigits X) ++ t.data.toList) ∧ Below w.heap.size w wr)
    case atStart => exact ⟨Y, ⟨#[]⟩, rfl, Nat.le_refl _, rfl, rfl, Lib.hid (by rw [if_neg h0]; simp), Below.refl _ _⟩
    case round =>
      obtain ⟨X, t, hg, hXY, rfl, rfl, HD, hbw⟩ := hrel
      have htl : t.size ≤ 30001 := by
        have h1 := congrArg List.length HD.out
        rw [List.length_append] at h1
        have h2 := HDB.out
        have h3 : t.data.toList.length = t.size := size_len t
        omega
      by_cases hX : 0 < X
      · have hxs := natS_pos hX
        have hxl : (natS X).size ≤ 10000 := natS_size (by have := HYL.out; omega)
        obtain ⟨d, hd⟩ : ∃ d, d = X % 10 := ⟨_, rfl⟩
        have hdl : d < 10 := by rw [hd]; exact Nat.mod_lt _ (by omega)
        have hds : (natS d).size ≤ 1 := natS_size (by show d < 256; omega)
        have H1 : Hid (∀ W, Calls Tryz.prog 73 #[.int .i64 10] W fun e w' => e = .returned (.string (natS 10)) ∧ Below W.heap.size W w') := Lib.hid (fun W => rOf 10 W (by omega))
        have H2 : Hid (∀ W, Calls Tryz.prog 71 #[.string (natS X), .string (natS 10)] W fun e w' => e = .returned (.tuple #[.string (natS (X / 10)), .string (natS d), .bool true]) ∧ Below W.heap.size W w') := Lib.hid (fun W => by
          have := rQuo (natS X) (natS 10) W (by omega) (by decide)
          unfold quoRes at this
          rw [sval_natS, sval_natS, if_neg (by omega), ← hd] at this
          exact this)
        have H3 : Hid (∀ W, Calls Tryz.prog 95 #[.string (natS d)] W fun e w' => e = .returned (.tuple #[.int .i64 (d : Int), .bool true]) ∧ W = w') := Lib.hid (fun W => by
          have := rInt (natS d) W (by omega)
          unfold intRes at this
          rw [sval_natS, if_pos (by omega)] at this
          exact this)
        have HN := Lib.hid (dec_next hX HD.out)
        rw [← hd] at HN
        have hco := fun W => run_one_str W d hdl
        have h48 : (48 : Int) + (d : Int) < 256 := by omega
        have hlt : X / 10 < X := by omega
        have HG := Lib.hid hg
        clear hd hg
        generalize natS 10 = tt at H1 H2
        go_wp2_with (first
          | (go_at_call 73; (with_reducible refine (H1.out _).mono ?_); rintro e w' ⟨rfl, hb''⟩; replace hbw := below_then hbw hb''; clear hb'')
          | (go_at_call 71; (with_reducible refine (H2.out _).mono ?_); rintro e w' ⟨rfl, hb''⟩; replace hbw := below_then hbw hb''; clear hb'')
          | (go_at_call 95; (with_reducible refine (H3.out _).mono ?_); rintro e w' ⟨rfl, rfl⟩))
        go_roundg (X / 10)
        case measure => rw [HG.out]; exact hlt
        case rel =>
          refine ⟨X / 10, _, rfl, by omega, rfl, rfl, Lib.hid ?_, below_al hbw _⟩
          rw [HN.out]
          congr 1
          simp [ByteArray.data_append]
      · obtain rfl : X = 0 := by omega
        have hs : (natS 0).size = 0 := rfl
        have HE : Hid (t = decS Y) := Lib.hid (by
          have := HD.out
          rw [if_pos rfl, List.nil_append] at this
          unfold decS
          rw [this])
        clear hg
        go_wp2_with fail
        go_ret
        exact ⟨by rw [← HE.out]; rfl, hbw⟩

end Go.Proofs.YtebgmlbbilcbbaaGreatDoor
namespace Go.Proofs.YtebgmlbbilcbbaaGreatDoor
open Go.RowKit

theorem parse_bad {s : ByteArray} (h : goodD s.data.toList = false) : parseRes s = .tuple #[.string ⟨#[]⟩, .bool false] := by
  unfold parseRes; rw [if_neg (by rw [h]; simp)]
theorem parse_ok {s : ByteArray} (h : goodD s.data.toList = true) : parseRes s = .tuple #[.string (natS (dval s.data.toList)), .bool true] := by
  unfold parseRes; rw [if_pos h]
theorem good_none {s : ByteArray} (h : s.size = 0) : goodD s.data.toList = false := by
  have : s.data.toList = [] := List.eq_nil_of_length_eq_zero (by rw [size_len]; exact h)
  rw [this]; rfl
theorem head_byte {s : ByteArray} (h : 0 < s.size) : s.data.toList.head? = some s[0] := by
  rw [List.head?_eq_getElem?, List.getElem?_eq_getElem (by rw [size_len]; exact h)]; rfl
theorem good_zero {s : ByteArray} (h : 1 < s.size) (h1 : s[0].toNat = 48) : goodD s.data.toList = false := by
  unfold goodD
  rw [head_byte (by omega), size_len, show s[0] = 48 from UInt8.toNat_inj.1 h1]
  simp [h]
theorem byte_mem {s : ByteArray} {k : Nat} (h : k < s.size) : s[k] ∈ s.data.toList := by
  have : s.data.toList[k]? = some s[k] := by rw [List.getElem?_eq_getElem (by rw [size_len]; exact h)]; rfl
  exact List.mem_of_getElem? this
theorem good_bad {s : ByteArray} {k : Nat} (h : k < s.size) (h1 : s[k].toNat < 48 ∨ 57 < s[k].toNat) : goodD s.data.toList = false := by
  unfold goodD
  have : s.data.toList.all isD = false := by
    rw [Bool.eq_false_iff]
    intro e
    have := isD_iff.1 (List.all_eq_true.1 e _ (byte_mem h))
    omega
  rw [this, Bool.and_false]
theorem good_all {s : ByteArray} (h0 : 0 < s.size) (h1 : ¬ (1 < s.size ∧ s[0].toNat = 48)) (h : s.data.toList.all isD = true) : goodD s.data.toList = true := by
  unfold goodD
  rw [h, head_byte h0, size_len]
  have e1 : s.data.toList.isEmpty = false := by rw [List.isEmpty_eq_false_iff]; intro e; rw [← size_len, e] at h0; simp at h0
  rw [e1]
  by_cases h2 : 1 < s.size
  · have : (some s[0] == some (48 : UInt8)) = false := by
      rw [beq_eq_false_iff_ne]; intro e; exact h1 ⟨h2, by rw [Option.some.inj e]; rfl⟩
    rw [this]; simp
  · simp [h2]
theorem all_snoc {l : List UInt8} {b : UInt8} (h : l.all isD = true) (h1 : 48 ≤ b.toNat) (h2 : b.toNat ≤ 57) : (l ++ [b]).all isD = true := by
  rw [List.all_append, h]; simp [isD, h1, h2]

set_option maxRecDepth 100000 in
set_option maxHeartbeats 2000000 in
theorem rParse (s : ByteArray) (w : World) (hs : s.size ≤ 1000) :
    Calls Tryz.prog 100 #[.string s] w fun e w' => e = .returned (parseRes s) ∧ Below w.heap.size w w' := by
  obtain ⟨bd, hbd⟩ : ∃ bd : Bool, bd = (decide (s.size = 0) || (decide (1 < s.size) && decide (∃ h : 0 < s.size, s[0].toNat = 48))) := ⟨_, rfl⟩
  go_enter Tryz.func100, Tryz.ntmps100
  go_upto_region 1 with fail
  go_cut [18] (fun s18 wx => s18 = .bool bd ∧ w = wx)
  case first =>
    by_cases h0 : s.size = 0
    · have hb0 : bd = true := by rw [hbd]; simp [h0]
      subst hb0
      clear hbd
      have hq : ((s.size : Int) == 0) = true := by simp [h0]
      go_wp2_with fail
      go_meet
      exact ⟨rfl, rfl⟩
    · have hq : ((s.size : Int) == 0) = false := by rw [beq_eq_false_iff_ne]; omega
      by_cases h1 : 1 < s.size
      · have hl : 0 < s.size := by omega
        by_cases h2 : s[0].toNat = 48
        · have hb0 : bd = true := by rw [hbd]; simp [h1, h2, hl]
          subst hb0
          clear hbd
          have hz : ((s[0].toNat : Int) == 48) = true := by simp [h2]
          clear h2
          go_wp2_with fail
          go_meet
          exact ⟨rfl, rfl⟩
        · have hb0 : bd = false := by rw [hbd]; simp [h0, h2]
          subst hb0
          clear hbd
          have hz : ((s[0].toNat : Int) == 48) = false := by rw [beq_eq_false_iff_ne]; omega
          clear h2
          go_wp2_with fail
          go_meet
          exact ⟨rfl, rfl⟩
      · have hb0 : bd = false := by rw [hbd]; simp [h0, h1]
        subst hb0
        clear hbd
        go_wp2_with fail
        go_meet
        exact ⟨rfl, rfl⟩
  obtain ⟨rfl, rfl⟩ := hcut
  cases bd with
  | true =>
    have HB : Hid (goodD s.data.toList = false) := Lib.hid (by
      simp only [Bool.true_eq, Bool.or_eq_true, Bool.and_eq_true, decide_eq_true_eq] at hbd
      rcases hbd with h | ⟨h1, h2, h3⟩
      · exact good_none h
      · exact good_zero h1 h3)
    clear hbd
    go_wp2_with fail
    go_ret2
    exact ⟨by rw [parse_bad HB.out]; rfl, Below.refl _ _⟩
  | false =>
    have HG : Hid (0 < s.size ∧ ∀ h : 0 < s.size, ¬ (1 < s.size ∧ s[0].toNat = 48)) := Lib.hid (by
      simp only [Bool.false_eq, Bool.or_eq_false_iff, Bool.and_eq_false_iff, decide_eq_false_iff_not] at hbd
      refine ⟨by omega, fun h ⟨h1, h2⟩ => ?_⟩
      rcases hbd.2 with h3 | h3
      · exact h3 h1
      · exact h3 ⟨h, h2⟩)
    clear hbd
    go_wp2_with fail
    go_loopw [4, 5] (fun s4 s5 wr => ∃ k : Nat, k ≤ s.size ∧ s5 = .int .i64 (k : Int) ∧ s4 = .string (natS (dval (s.data.toList.take k))) ∧ Hid ((s.data.toList.take k).all isD = true) ∧ Below w.heap.size w wr) (fun _ s5 _ => s.size - (intOf s5).toNat)
    case atStart => exact ⟨0, Nat.zero_le _, rfl, rfl, Lib.hid rfl, Below.refl _ _⟩
    case round =>
      obtain ⟨k, hk, rfl, rfl, HD, hbw⟩ := hrel
      by_cases hlt : k < s.size
      · by_cases hy : s[k].toNat < 48 ∨ 57 < s[k].toNat
        · have HB := Lib.hid (good_bad hlt hy)
          rcases hy with hy | hy
          · have hy1 : (s[k].toNat : Int) < 48 := by omega
            go_wp2_with fail
            go_ret2
            exact ⟨by rw [parse_bad HB.out]; rfl, hbw⟩
          · have hy1 : ¬ (s[k].toNat : Int) < 48 := by omega
            have hy2 : (57 : Int) < (s[k].toNat : Int) := by omega
            go_wp2_with fail
            go_ret2
            exact ⟨by rw [parse_bad HB.out]; rfl, hbw⟩
        · obtain ⟨V, hV⟩ : ∃ V, V = dval (s.data.toList.take k) := ⟨_, rfl⟩
          obtain ⟨dd, hdd⟩ : ∃ dd, dd = s[k].toNat - 48 := ⟨_, rfl⟩
          have hVl : V < P8 1000 := by
            rw [hV]
            refine Nat.lt_of_lt_of_le (dval_lt8 _ HD.out) (P8_mono ?_)
            rw [List.length_take]; omega
          have HN : Hid (dval (s.data.toList.take (k + 1)) = V * 10 + dd) := Lib.hid (by rw [take_byte s hlt, dval_snoc, ← hV, hdd])
          have HD' : Hid ((s.data.toList.take (k + 1)).all isD = true) := Lib.hid (by rw [take_byte s hlt]; exact all_snoc HD.out (by omega) (by omega))
          rw [← hV]
          have hd9 : dd ≤ 9 := by omega
          have hw8 : IntKind.u8.wrap ((s[k].toNat : Int) - 48) = (dd : Int) := by rw [IntWalk.u8_in _ (by omega)]; omega
          have hw6 : IntKind.i64.wrap (dd : Int) = (dd : Int) := IntWalk.i64_in _ (by omega)
          have hy1 : ¬ (s[k].toNat : Int) < 48 := by omega
          have hy2 : ¬ (57 : Int) < (s[k].toNat : Int) := by omega
          have sV : (natS V).size ≤ 1000 := natS_size hVl
          have sD : (natS dd).size ≤ 1000 := Nat.le_trans (natS_size (k := 1) (by show dd < 256; omega)) (by omega)
          have sM : (natS (V * 10)).size ≤ 1001 := natS_size (by rw [P8_succ]; omega)
          have H1 : Hid (∀ W, Calls Tryz.prog 73 #[.int .i64 10] W fun e w' => e = .returned (.string (natS 10)) ∧ Below W.heap.size W w') := Lib.hid (fun W => rOf 10 W (by omega))
          have H2 : Hid (∀ W, Calls Tryz.prog 42 #[.string (natS V), .string (natS 10)] W fun e w' => e = .returned (.string (natS (V * 10))) ∧ Below W.heap.size W w') := Lib.hid (fun W => by have := rMul (natS V) (natS 10) W (by omega) (by decide); rwa [sval_natS, sval_natS] at this)
          have H3 : Hid (∀ W, Calls Tryz.prog 73 #[.int .i64 (dd : Int)] W fun e w' => e = .returned (.string (natS dd)) ∧ Below W.heap.size W w') := Lib.hid (fun W => by have := rOf (dd : Int) W (by omega); rwa [Int.toNat_natCast] at this)
          have H4 : Hid (∀ W, Calls Tryz.prog 22 #[.string (natS (V * 10)), .string (natS dd)] W fun e w' => e = .returned (.string (natS (V * 10 + dd))) ∧ Below W.heap.size W w') := Lib.hid (fun W => by have := rAdd (natS (V * 10)) (natS dd) W (by omega) (by omega); rwa [sval_natS, sval_natS] at this)
          clear hy hV hdd hVl
          generalize natS 10 = tt at H1 H2
          go_upto_region 9 with fail
          obtain ⟨wo, hwo⟩ : ∃ wo : World, wo = wr := ⟨_, rfl⟩
          subst hwo
          go_region_held3 (fun _ => True) (trivial) (first
            | (go_at_call 73; (with_reducible refine (H1.out _).mono ?_); rintro e wa ⟨rfl, hba⟩)
            | (go_at_call 42; (with_reducible refine (H2.out _).mono ?_); rintro e wb ⟨rfl, hbb⟩)
            | (go_at_call 73; (with_reducible refine (H3.out _).mono ?_); rintro e wd ⟨rfl, hbd⟩)
            | (go_at_call 22; (with_reducible refine (H4.out _).mono ?_); rintro e we ⟨rfl, hbe⟩))
          all_goals go_wp2_with fail
          all_goals go_roundw
          all_goals try (simp [intOf]; omega)
          all_goals
            refine ⟨k + 1, by omega, by go_num, by rw [HN.out], HD', ?_⟩
            (repeat (first | exact hbw | apply Below.drew | refine below_then ?_ hba | refine below_then ?_ hbb | refine below_then ?_ hbd | refine below_then ?_ hbe))
      · obtain rfl : k = s.size := by omega
        have HT : Hid (s.data.toList.take s.size = s.data.toList) := Lib.hid (List.take_of_length_le (by rw [size_len]; exact Nat.le_refl _))
        rw [HT.out]
        go_wp2_with fail
        go_ret2
        refine ⟨?_, hbw⟩
        have h1 := HD.out
        rw [HT.out] at h1
        rw [parse_ok (good_all HG.out.1 (HG.out.2 HG.out.1) h1)]
        rfl

end Go.Proofs.YtebgmlbbilcbbaaGreatDoor
namespace Go.Proofs.YtebgmlbbilcbbaaGreatDoor
open Go.RowKit

theorem ext_take (s : ByteArray) (k : Nat) : s.extract 0 k = ⟨(s.data.toList.take k).toArray⟩ := by
  apply ByteArray.ext
  rw [ByteArray.data_extract]
  apply Array.toList_inj.1
  rw [Array.toList_extract, List.extract_eq_take_drop]
  simp

theorem trim_nil' : Trim [] := fun h => absurd h (by simp)
theorem dig_one (W : World) (x : Nat) (hx : x < 4294967296) : Dig (W.alloc (.cells #[.int .u32 (x : Int)] 140)) (some ⟨W.heap.size, 0, none⟩) 1 1 [x] :=
  Blk.dig (show Blk _ _ 140 (u32s [x]) from Blk.new W 140 #[.int .u32 (x : Int)]) (fun k d h => by
    cases k with
    | zero => obtain rfl := Option.some.inj h; exact hx
    | succ k => simp at h) rfl (Nat.le_refl _)
theorem dig_bil (W : World) : Dig (W.alloc (.cells #[.int .u32 1000000000] 140)) (some ⟨W.heap.size, 0, none⟩) 1 1 [1000000000] := dig_one W 1000000000 (by omega)
theorem val_one (x : Nat) : val [x] = x := by simp [val]

set_option maxRecDepth 100000 in
set_option maxHeartbeats 2000000 in
theorem Parse_any (s : ByteArray) (w : World) (hs : s.size ≤ 1000) :
    Calls Tryz.prog 98 #[.string s] w fun e w' => e = .returned (parseRes s) ∧ Below w.heap.size w w' := by
  obtain ⟨bd, hbd⟩ : ∃ bd : Bool, bd = (decide (s.size = 0) || (decide (1 < s.size) && decide (∃ h : 0 < s.size, s[0].toNat = 48))) := ⟨_, rfl⟩
  go_enter Tryz.func98, Tryz.ntmps98
  go_upto_region 1 with fail
  go_cut [20] (fun s20 wx => s20 = .bool bd ∧ w = wx)
  case first =>
    by_cases h0 : s.size = 0
    · have hb0 : bd = true := by rw [hbd]; simp [h0]
      subst hb0
      clear hbd
      obtain rfl : s = ⟨#[]⟩ := by
        have : s.data.toList = [] := List.eq_nil_of_length_eq_zero (by rw [size_len]; exact h0)
        exact ByteArray.ext (Array.toList_inj.1 (by rw [this]))
      go_wp2_with fail
      go_meet
      exact ⟨rfl, rfl⟩
    · have hq : (s.toList == []) = false := by
        rw [beq_eq_false_iff_ne, ByteArray.toList_eq]; intro e; rw [← size_len, e] at h0; simp at h0
      have hq2 : (s.toList == (⟨#[]⟩ : ByteArray).toList) = false := by
        rw [ByteArray.toList_eq ⟨#[]⟩]; exact hq
      by_cases h1 : 1 < s.size
      · have hl : 0 < s.size := by omega
        by_cases h2 : s[0].toNat = 48
        · have hb0 : bd = true := by rw [hbd]; simp [h1, h2, hl]
          subst hb0
          clear hbd
          have hz : ((s[0].toNat : Int) == 48) = true := by simp [h2]
          clear h2
          go_wp2_with fail
          go_meet
          exact ⟨rfl, rfl⟩
        · have hb0 : bd = false := by rw [hbd]; simp [h0, h2]
          subst hb0
          clear hbd
          have hz : ((s[0].toNat : Int) == 48) = false := by rw [beq_eq_false_iff_ne]; omega
          clear h2
          go_wp2_with fail
          go_meet
          exact ⟨rfl, rfl⟩
      · have hb0 : bd = false := by rw [hbd]; simp [h0, h1]
        subst hb0
        clear hbd
        go_wp2_with fail
        go_meet
        exact ⟨rfl, rfl⟩
  obtain ⟨rfl, rfl⟩ := hcut
  cases bd with
  | true =>
    have HB : Hid (goodD s.data.toList = false) := Lib.hid (by
      simp only [Bool.true_eq, Bool.or_eq_true, Bool.and_eq_true, decide_eq_true_eq] at hbd
      rcases hbd with h | ⟨h1, h2, h3⟩
      · exact good_none h
      · exact good_zero h1 h3)
    clear hbd
    go_wp2_with fail
    go_ret2
    exact ⟨by rw [parse_bad HB.out]; rfl, Below.refl _ _⟩
  | false =>
    have HG : Hid (0 < s.size ∧ ∀ h : 0 < s.size, ¬ (1 < s.size ∧ s[0].toNat = 48)) := Lib.hid (by
      simp only [Bool.false_eq, Bool.or_eq_false_iff, Bool.and_eq_false_iff, decide_eq_false_iff_not] at hbd
      refine ⟨by omega, fun h ⟨h1, h2⟩ => ?_⟩
      rcases hbd.2 with h3 | h3
      · exact h3 h1
      · exact h3 ⟨h, h2⟩)
    clear hbd
    go_wp2_with fail
    go_loopw [4, 23] (fun _ s23 wr => ∃ k : Nat, k ≤ s.size ∧ s23 = .int .i64 (k : Int) ∧ Hid ((s.data.toList.take k).all isD = true) ∧ w = wr) (fun _ s23 _ => s.size - (intOf s23).toNat)
    case atStart => exact ⟨0, Nat.zero_le _, rfl, Lib.hid rfl, rfl⟩
    case round =>
      obtain ⟨k, hk, rfl, HD, rfl⟩ := hrel
      by_cases hlt : k < s.size
      · by_cases hy : s[k].toNat < 48 ∨ 57 < s[k].toNat
        · have HB := Lib.hid (good_bad hlt hy)
          rcases hy with hy | hy
          · have hy1 : (s[k].toNat : Int) < 48 := by omega
            go_wp2_with fail
            go_ret2
            exact ⟨by rw [parse_bad HB.out]; rfl, Below.refl _ _⟩
          · have hy1 : ¬ (s[k].toNat : Int) < 48 := by omega
            have hy2 : (57 : Int) < (s[k].toNat : Int) := by omega
            go_wp2_with fail
            go_ret2
            exact ⟨by rw [parse_bad HB.out]; rfl, Below.refl _ _⟩
        · have HD' : Hid ((s.data.toList.take (k + 1)).all isD = true) := Lib.hid (by rw [take_byte s hlt]; exact all_snoc HD.out (by omega) (by omega))
          have hy1 : ¬ (s[k].toNat : Int) < 48 := by omega
          have hy2 : ¬ (57 : Int) < (s[k].toNat : Int) := by omega
          clear hy
          go_wp2_with fail
          go_roundw
          case rel => exact ⟨k + 1, by omega, by go_num, HD', trivial⟩
          case measure => simp [intOf]; omega
      · have hks : k = s.size := by omega
        have HA : Hid (s.data.toList.all isD = true) := Lib.hid (by
          have h1 := HD.out
          rwa [List.take_of_length_le (by rw [size_len]; omega)] at h1)
        subst hks
        have HOK := Lib.hid (parse_ok (good_all HG.out.1 (HG.out.2 HG.out.1) HA.out))
        clear HD HG hk hlt
        go_wp2_with fail
        go_loopg [0, 5, 6, 7, 8] s.size (fun g s0 s5 _ _ _ wr => ∃ (pre : List UInt8) (t : ByteArray) (A : Option Addr) (n c : Nat) (xs : List Nat), g = t.size ∧ t.size ≤ s.size ∧ s0 = .string t ∧ s5 = .slice A n c ∧ Dig wr A n c xs ∧ Trim xs ∧ Hid (s.data.toList = pre ++ t.data.toList ∧ (pre = [] ∨ t.size % 9 = 0) ∧ val xs = dval pre) ∧ Below w.heap.size w wr)
        case atStart => exact ⟨[], s, none, 0, 0, [], rfl, Nat.le_refl _, rfl, rfl, Dig.nil_ _ _ _, trim_nil', Lib.hid ⟨rfl, .inl rfl, rfl⟩, Below.refl _ _⟩
        case round =>
          obtain ⟨pre, t, A, n, c, xs, hg, hts, rfl, rfl, hd, htx, HF, hbw⟩ := hrel
          have hpl : pre.length ≤ 1000 := by
            have := congrArg List.length HF.out.1
            rw [List.length_append, size_len] at this
            omega
          have HPA : Hid (pre.all isD = true ∧ t.data.toList.all isD = true) := Lib.hid (by
            have := HA.out
            rw [HF.out.1, List.all_append, Bool.and_eq_true] at this
            exact this)
          have hn : n ≤ 1000 := hd.few htx (by rw [HF.out.2.2]; exact Nat.lt_of_lt_of_le (dval_lt8 _ HPA.out.1) (P8_mono hpl))
          by_cases ht0 : 0 < t.size
          · obtain ⟨m, hm⟩ : ∃ m, m = (t.size - 1) % 9 + 1 := ⟨_, rfl⟩
            have hm9 : m ≤ 9 := by omega
            have hm1 : 1 ≤ m := by omega
            have hmt : m ≤ t.size := by omega
            have hmi : ((t.size : Int) - 1) % 9 + 1 = (m : Int) := by omega
            have hmi2 : ((t.size : Int) - 1).tmod 9 + 1 = (m : Int) := by rw [Int.tmod_eq_emod_of_nonneg (by omega)]; omega
            have hm9t : (t.size - m) % 9 = 0 := by omega
            have HM9 := Lib.hid hm9t
            have HMP : Hid (pre = [] ∨ m = 9) := Lib.hid (by rcases HF.out.2.1 with h | h; exact .inl h; right; omega)
            clear hm hm9t
            obtain ⟨g, hgE⟩ : ∃ g : List UInt8, g = t.data.toList.take m := ⟨_, rfl⟩
            obtain ⟨tr, htr⟩ : ∃ tr : List UInt8, tr = t.data.toList.drop m := ⟨_, rfl⟩
            have hgl : g.length = m := by rw [hgE, List.length_take, size_len]; omega
            have hgt : t.data.toList = g ++ tr := by rw [hgE, htr, List.take_append_drop]
            have hga : g.all isD = true := by rw [hgE]; exact all_take HPA.out.2 m
            have hgv : dval g < 1000000000 := Nat.lt_of_lt_of_le (dval_lt g hga) (by rw [hgl]; exact Nat.pow_le_pow_right (by omega) hm9)
            have hgs : t.extract 0 m = ⟨g.toArray⟩ := by rw [ext_take, hgE]
            have hts2 : t.extract m t.size = ⟨tr.toArray⟩ := by rw [ext_drop, htr]
            have htrl : tr.length = t.size - m := by rw [htr, List.length_drop, size_len]
            have hat : Lib.atoi (⟨g.toArray⟩ : ByteArray).data.toList = some ((dval g : Nat) : Int) := atoi_eq g (by intro e; rw [e] at hgl; simp at hgl; omega) hga
            have hasz : (⟨g.toArray⟩ : ByteArray).size ≤ 18 := by show g.toArray.size ≤ 18; simp; omega
            have HAT := Lib.hid (fun W => Tryz.strconv_Atoi ⟨g.toArray⟩ _ hasz hat W)
            have HVV : Hid (dval (pre ++ g) = val xs * 1000000000 + dval g) := Lib.hid (by rw [HF.out.2.2]; exact group_val (by rcases HMP.out with h | h; exact .inl h; exact .inr (by rw [hgl, h])))
            have HST : Hid (s.data.toList = (pre ++ g) ++ tr) := Lib.hid (by rw [HF.out.1, hgt, List.append_assoc])
            have HTRL := Lib.hid htrl
            obtain ⟨gv, hgve⟩ : ∃ gv, gv = dval g := ⟨_, rfl⟩
            rw [← hgve] at hgv HVV HAT
            have HG' := Lib.hid hg
            clear hgE htr hgt hga hat htrl hgve hg hasz
            go_wp2_with fail
            refine (HAT.out _).mono ?_
            rintro e w2 ⟨rfl, tb, rfl⟩
            have hb2 := Lib.bytesWorld_below wr 5 tb
            have hd2 := hd.below hb2
            replace hbw := below_then hbw hb2
            generalize Lib.bytesWorld wr 5 tb = w2 at hb2 hd2 hbw ⊢
            clear hb2
            go_wp2_with fail
            refine (multiply_any _ _ _ xs _ _ _ [1000000000] _ (dig_al hd2 _) (dig_bil w2) (by omega) (by omega)).mono ?_
            rintro e w3 ⟨⟨A3, n3, c3, zs3, rfl, hd3, ht3, hv3⟩, hb3⟩
            rw [val_one] at hv3
            have hn3 : n3 ≤ 1004 := hd3.few ht3 (by
              rw [hv3, HF.out.2.2]
              have h1 := Nat.lt_of_lt_of_le (dval_lt8 _ HPA.out.1) (P8_mono hpl)
              rw [show 1004 = 1000 + 4 from rfl, P8_add]
              exact Nat.mul_lt_mul'' h1 (by decide))
            have HV3 := Lib.hid hv3
            clear hv3
            replace hbw := below_then (below_al hbw _) hb3
            have hgw : (gv : Int) < 4294967296 := by omega
            go_wp2_with fail
            refine (add_any _ _ _ zs3 _ _ _ [gv] _ (dig_al hd3 _) (dig_one w3 gv (by omega)) (by omega) (by omega)).mono ?_
            rintro e w4 ⟨⟨A4, n4, c4, zs4, rfl, hd4, ht4, hv4⟩, hb4⟩
            rw [val_one, HV3.out, ← HVV.out] at hv4
            have HV4 := Lib.hid hv4
            clear hv4
            replace hbw := below_then (below_al hbw _) hb4
            go_wp2_with fail
            have htz : (⟨tr.toArray⟩ : ByteArray).size = t.size - m := by show tr.toArray.size = _; rw [List.size_toArray, HTRL.out]
            go_roundg (t.size - m)
            case measure => rw [HG'.out]; omega
            case rel => exact ⟨pre ++ g, ⟨tr.toArray⟩, A4, n4, c4, zs4, htz.symm, by omega, rfl, rfl, hd4, ht4, Lib.hid ⟨HST.out, .inr (by rw [htz]; exact HM9.out), HV4.out⟩, hbw⟩
          · have ht0' : t.size = 0 := by omega
            have HVV : Hid (val xs = dval s.data.toList) := Lib.hid (by
              have : t.data.toList = [] := List.eq_nil_of_length_eq_zero (by rw [size_len]; exact ht0')
              rw [HF.out.2.2, HF.out.1, this, List.append_nil])
            clear hg
            go_wp2_with fail
            refine (number_any _ _ _ xs _ hd (by omega)).mono ?_
            rintro e w2 ⟨rfl, hb2⟩
            go_wp2_with fail
            go_ret2
            exact ⟨by rw [HOK.out, ← HVV.out]; rfl, below_then hbw hb2⟩

end Go.Proofs.YtebgmlbbilcbbaaGreatDoor
