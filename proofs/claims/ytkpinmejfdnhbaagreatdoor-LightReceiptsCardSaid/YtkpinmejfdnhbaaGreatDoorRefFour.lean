/- Joined by a program: RefN, RefO, NatS. -/
import Derived.Test.YtkpinmejfdnhbaaGreatDoorNatR
import Derived.Test.YtkpinmejfdnhbaaGreatDoorHelps
import Derived.Test.YtkpinmejfdnhbaaGreatDoorPlainAll
import Derived.Deep.RegionHeld3
import Derived.IntWalk
set_option maxRecDepth 100000
set_option maxHeartbeats 2000000
namespace Go.Proofs.YtkpinmejfdnhbaaGreatDoor
open Go.RowKit
theorem run_bdg_str {w : World} {A : Option Addr} {n c : Nat} {l : List UInt8} (h : BDg w A n c l) :
 (convert 116 9 (.slice A n c)).run Tryz.prog w = .ok (.string ⟨l.toArray⟩) w := by
 rw [run_convert_bytes_string w 116 9 5 _ _ _ Tryz.underlying116 Tryz.underlying5 Tryz.underlying9]
 rcases Nat.eq_zero_or_pos n with h0 | h0
 ·subst h0;have : l = [] := List.eq_nil_of_length_eq_zero h.len;subst this
  cases A <;> rfl
 ·obtain ⟨b, o, rfl, hc⟩ := h.at_ h0
  have hld := run_loadCells_list (P := Tryz.prog) w ⟨b, o, none⟩ ((l.map fun b : UInt8 => (b.toNat : Int)).map (Value.int .u8)) (fun j v hv => by
   rw [List.map_map, List.getElem?_map] at hv;obtain ⟨d, hd, rfl⟩ := Option.map_eq_some_iff.1 hv;rw [add_addr]
   exact hc j d hd)
  rw [List.length_map, List.length_map, h.len] at hld;rw [run_bytesToString w _ n c _ hld, push_all]
  simp
theorem run_one_str (W : World) (d : Nat) (hd : d < 10) :
 (convert 116 9 (.slice (some ⟨W.heap.size, 0, none⟩) 1 1)).run Tryz.prog (W.alloc (.cells #[.int .u8 (48 + (d : Int))] 5)) = .ok (.string ⟨#[UInt8.ofNat (48 + d)]⟩) (W.alloc (.cells #[.int .u8 (48 + (d : Int))] 5)) := by
 have h : BDg (W.alloc (.cells #[.int .u8 (48 + (d : Int))] 5)) (some ⟨W.heap.size, 0, none⟩) 1 1 [UInt8.ofNat (48 + d)] := by
  refine ⟨rfl, Nat.le_refl _, fun _ => ⟨_, _, rfl, fun j e he => ?_⟩⟩
  cases j with
  | zero =>
    obtain rfl := Option.some.inj he;rw [dig_byte hd];refine ((Blk.new W 5 #[.int .u8 (48 + (d : Int))]).cell 0).trans ?_;have : ((48 + d : Nat) : Int) = 48 + (d : Int) := by omega
    rw [this]
    rfl
  | succ j => simp at he
 exact run_bdg_str h
theorem dec_next {X : Nat} {D t : List UInt8} (hX : 0 < X) (h : D = (if X = 0 then [] else Lib.decDigits X) ++ t) : D = (if X / 10 = 0 then [] else Lib.decDigits (X / 10)) ++ (UInt8.ofNat (48 + X % 10) :: t) := by
 rw [if_neg (by omega)] at h
 by_cases h1 : X < 10
 ·rw [if_pos (by omega), h, Lib.decDigits_one h1, Nat.mod_eq_of_lt h1]; rfl
 ·rw [if_neg (by omega), h, dec_ten h1, List.append_assoc]; rfl
theorem natS_pos {n : Nat} (h : 0 < n) : 0 < (natS n).size := by
 rcases Nat.eq_zero_or_pos (natS n).size with e | e
 ·have := natS_zero_size.1 e; omega
 ·exact e
theorem rText (a : ByteArray) (w : World) (ha : a.size ≤ 10000) :
 Calls Tryz.prog 104 #[.string a] w fun e w' => e = .returned (.string (decS (sval a))) ∧ Below w.heap.size w w' := by
 obtain ⟨Y, hY⟩ : ∃ Y, Y = sval a := ⟨_, rfl⟩;have hYl : Y < P8 10000 := by rw [hY]; exact Nat.lt_of_lt_of_le (sval_lt a) (P8_mono ha)
 have HYL := Lib.hid hYl;have HDB : Hid ((Lib.decDigits Y).length ≤ 30001) := Lib.hid (by rw [hY]; have := dec_bytes a; omega);have HC : Hid (∀ W, Calls Tryz.prog 167 #[.string a] W fun e w' => e = .returned (.string (natS Y)) ∧ W = w') := Lib.hid (fun W => hY ▸ rCanon a W (by omega));rw [← hY];clear hY hYl;go_enter Tryz.func104, Tryz.ntmps104;go_wp2_with fail;refine (HC.out _).mono ?_;rintro e w' ⟨rfl, rfl⟩
 by_cases h0 : Y = 0
 ·have hs : (natS Y).size = 0 := by rw [h0]; rfl
  go_wp2_with fail;go_ret;exact ⟨by rw [h0, decS_zero]; rfl, Below.refl _ _⟩
 ·have hs := natS_pos (n := Y) (by omega);have hs0 : (((natS Y).size : Int) == 0) = false := by rw [beq_eq_false_iff_ne]; omega
  go_wp2_with fail;clear hs hs0
  go_loopg [0, 3, 4, 5, 6, 7, 8] Y (fun g s0 s3 _ _ _ _ _ wr => ∃ (X : Nat) (t : ByteArray), g = X ∧ X ≤ Y ∧ s0 = .string (natS X) ∧ s3 = .string t ∧ Hid (Lib.decDigits Y = (if X = 0 then [] else Lib.decDigits X) ++ t.data.toList) ∧ Below w.heap.size w wr)
  case atStart => exact ⟨Y, ⟨#[]⟩, rfl, Nat.le_refl _, rfl, rfl, Lib.hid (by rw [if_neg h0]; simp), Below.refl _ _⟩
  case round =>
   obtain ⟨X, t, hg, hXY, rfl, rfl, HD, hbw⟩ := hrel;have htl : t.size ≤ 30001 := by
    have h1 := congrArg List.length HD.out;rw [List.length_append] at h1;have h2 := HDB.out;have h3 : t.data.toList.length = t.size := size_len t
    omega
   by_cases hX : 0 < X
   ·have hxs := natS_pos hX;have hxl : (natS X).size ≤ 10000 := natS_size (by have := HYL.out; omega);obtain ⟨d, hd⟩ : ∃ d, d = X % 10 := ⟨_, rfl⟩;have hdl : d < 10 := by rw [hd]; exact Nat.mod_lt _ (by omega)
    have hds : (natS d).size ≤ 1 := natS_size (by show d < 256; omega);have H1 : Hid (∀ W, Calls Tryz.prog 105 #[.int .i64 10] W fun e w' => e = .returned (.string (natS 10)) ∧ Below W.heap.size W w') := Lib.hid (fun W => rOf 10 W (by omega))
    have H2 : Hid (∀ W, Calls Tryz.prog 168 #[.string (natS X), .string (natS 10)] W fun e w' => e = .returned (.tuple #[.string (natS (X / 10)), .string (natS d), .bool true]) ∧ Below W.heap.size W w') := Lib.hid (fun W => by
     have := rQuo (natS X) (natS 10) W (by omega) (by decide);unfold quoRes at this;rw [sval_natS, sval_natS, if_neg (by omega), ← hd] at this
     exact this)
    have H3 : Hid (∀ W, Calls Tryz.prog 169 #[.string (natS d)] W fun e w' => e = .returned (.tuple #[.int .i64 (d : Int), .bool true]) ∧ W = w') := Lib.hid (fun W => by
     have := rInt (natS d) W (by omega);unfold intRes at this;rw [sval_natS, if_pos (by omega)] at this
     exact this)
    have HN := Lib.hid (dec_next hX HD.out);rw [← hd] at HN;have hco := fun W => run_one_str W d hdl;have h48 : (48 : Int) + (d : Int) < 256 := by omega
    have hlt : X / 10 < X := by omega
    have HG := Lib.hid hg;clear hd hg;generalize natS 10 = tt at H1 H2
    go_wp2_with (first
     | (go_at_call 105; (with_reducible refine (H1.out _).mono ?_); rintro e w' ⟨rfl, hb''⟩; replace hbw := below_then hbw hb''; clear hb'')
     | (go_at_call 168; (with_reducible refine (H2.out _).mono ?_); rintro e w' ⟨rfl, hb''⟩; replace hbw := below_then hbw hb''; clear hb'')
     | (go_at_call 169; (with_reducible refine (H3.out _).mono ?_); rintro e w' ⟨rfl, rfl⟩))
    go_roundg (X / 10)
    case measure => rw [HG.out]; exact hlt
    case rel =>
     refine ⟨X / 10, _, rfl, by omega, rfl, rfl, Lib.hid ?_, below_al hbw _⟩;rw [HN.out]
     congr 1
     simp [ByteArray.data_append]
   ·obtain rfl : X = 0 := by omega
    have hs : (natS 0).size = 0 := rfl
    have HE : Hid (t = decS Y) := Lib.hid (by
     have := HD.out;rw [if_pos rfl, List.nil_append] at this;unfold decS
     rw [this])
    clear hg;go_wp2_with fail;go_ret;exact ⟨by rw [← HE.out]; rfl, hbw⟩
end Go.Proofs.YtkpinmejfdnhbaaGreatDoor
