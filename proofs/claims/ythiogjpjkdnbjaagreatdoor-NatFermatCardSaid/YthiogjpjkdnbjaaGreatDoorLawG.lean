/- The law NatPows: it returns true. -/
import Derived.Test.YthiogjpjkdnbjaaGreatDoorLawF
import Derived.Test.YthiogjpjkdnbjaaGreatDoorRefM
import Derived.Deep.QuietTactic
import Derived.BigQuiet
namespace Go.Proofs.YthiogjpjkdnbjaaGreatDoor
open Go.RowKit

set_option maxHeartbeats 400000 in
theorem rPow_zero (a s m : ByteArray) (w : World) (hm : m.size ≤ 10000) (ha : a.size ≤ 10000) (h0 : sval m = 0) :
    Calls Tryz.prog 24 #[.string a, .string s, .string m] w fun e w' => e = .returned (.tuple #[.string ⟨#[]⟩, .bool false]) ∧ Below w.heap.size w w' := by
  have HQ : Hid (Ret 20 #[.string a, .string m] (.tuple #[.string ⟨#[]⟩, .string ⟨#[]⟩, .bool false])) := Lib.hid (fun W => by
    have := rQuo a m W (by omega) (by omega)
    unfold quoRes at this
    rw [if_pos h0] at this
    exact this)
  clear h0
  go_enter Tryz.func24, Tryz.ntmps24
  go_wp2_with fail
  refine (HQ.out _).mono ?_
  rintro e w1 ⟨rfl, hB⟩
  go_wp2_with fail
  go_ret2
  exact ⟨rfl, hB⟩

theorem rPow_any (a s m : ByteArray) (w : World) (ha : a.size ≤ 10000) (hs : s.size ≤ 100000) (hm : m.size ≤ 10000) :
    Calls Tryz.prog 24 #[.string a, .string s, .string m] w fun e w' => e = .returned (powRes (sval a) (sval s) (sval m)) ∧ Below w.heap.size w w' := by
  unfold powRes
  by_cases h0 : sval m = 0
  · rw [if_pos h0]; exact rPow_zero a s m w hm ha h0
  · rw [if_neg h0]; exact rPow a s m w ha hs hm h0

theorem pow_pair (a e m : Nat) : ∃ (x : ByteArray) (p : Bool), powRes a e m = .tuple #[.string x, .bool p] := by
  unfold powRes
  split
  · exact ⟨_, _, rfl⟩
  · exact ⟨_, _, rfl⟩
theorem ret_radd {a b : ByteArray} (ha : a.size ≤ 1000) (hb : b.size ≤ 1000) {n : Nat} (h : sval a + sval b = n) : Ret 15 #[.string a, .string b] (.string (natS n)) := fun W => h ▸ rAdd a b W (by omega) (by omega)

/-- A slice of three strings, new: only what is asked of it is kept. -/
theorem three_new {P : Program} {code : Code} {Q : Exit → Act → World → Prop} {act : Act} {w0 W : World} {t : TypeId} {a b c : ByteArray} (ha : a.size ≤ 1000) (hb : b.size ≤ 1000) (hc : c.size ≤ 1000) (hB : Below w0.heap.size w0 W)
    (h : ∀ (w5 : World) (ss : List ByteArray), ss.length = 3 → (∀ v ∈ ss, v.size ≤ 1000) → Blk w5 W.heap.size t (ss.map Value.string).toArray → Below w0.heap.size w0 w5 → code.wp P Q act w5) :
    code.wp P Q act (W.alloc (.cells #[.string a, .string b, .string c] t)) := by
  refine h _ [a, b, c] rfl ?_ (Blk.new _ _ _) (below_al hB _)
  intro v hv
  simp only [List.mem_cons, List.not_mem_nil, or_false] at hv
  rcases hv with rfl | rfl | rfl
  · exact ha
  · exact hb
  · exact hc

set_option maxRecDepth 100000 in
set_option maxHeartbeats 2000000 in
theorem NatPows_any (A : Option Addr) (n c : Nat) (l : List UInt8) (B : Option Addr) (m d : Nat) (k : List UInt8) (C : Option Addr) (p q : Nat) (j : List UInt8) (w : World) (ht : Pow10 w) (hx : BDg w A n c l) (hy : BDg w B m d k) (hz : BDg w C p q j)
    (hn : n ≤ 9223372036854775807) (hm : m ≤ 9223372036854775807) (hp : p ≤ 9223372036854775807) :
    Calls Tryz.prog 5 #[.slice A n c, .slice B m d, .slice C p q] w fun e w' => e = .returned (.bool true) ∧ Below w.heap.size w w' := by
  have HT := Lib.hid ht
  clear ht
  obtain ⟨n1, hn1⟩ : ∃ n1, n1 = min n 24 := ⟨_, rfl⟩
  obtain ⟨m1, hm1⟩ : ∃ m1, m1 = min m 12 := ⟨_, rfl⟩
  obtain ⟨p1, hp1⟩ : ∃ p1, p1 = min p 24 := ⟨_, rfl⟩
  have hcx := hx.cap
  have hcy := hy.cap
  have hcz := hz.cap
  have e1 : min (n : Int) 24 = (n1 : Int) := by omega
  have e2 : min (m : Int) 12 = (m1 : Int) := by omega
  have e3 : min (p : Int) 24 = (p1 : Int) := by omega
  have i1 : (0 : Int) ≤ (n1 : Int) := by omega
  have i2 : (n1 : Int) ≤ (c : Int) := by omega
  have i3 : (0 : Int) ≤ (m1 : Int) := by omega
  have i4 : (m1 : Int) ≤ (d : Int) := by omega
  have i5 : (0 : Int) ≤ (p1 : Int) := by omega
  have i6 : (p1 : Int) ≤ (q : Int) := by omega
  have j1 : n1 ≤ c := by omega
  have j2 : m1 ≤ d := by omega
  have j3 : p1 ≤ q := by omega
  go_enter Tryz.func5, Tryz.ntmps5
  go_wp2_with fail
  refine (sanity_any _ HT.out).mono ?_
  rintro e w1 ⟨rfl, hB⟩
  have ka := fun nq => run_bdg_nat (show BDg (w1.drewN nq) A n1 c (l.take n1) from ((hx.below (below_drewN hB nq)).take (by omega)))
  have kb := fun nq => run_bdg_nat (show BDg (w1.drewN nq) B m1 d (k.take m1) from ((hy.below (below_drewN hB nq)).take (by omega)))
  have kc := fun nq => run_bdg_nat (show BDg (w1.drewN nq) C p1 q (j.take p1) from ((hz.below (below_drewN hB nq)).take (by omega)))
  have hsa : (⟨(l.take n1).toArray⟩ : ByteArray).size ≤ 24 := by show (l.take n1).toArray.size ≤ 24; simp; omega
  have hsb : (⟨(k.take m1).toArray⟩ : ByteArray).size ≤ 24 := by show (k.take m1).toArray.size ≤ 24; simp; omega
  have hsc : (⟨(j.take p1).toArray⟩ : ByteArray).size ≤ 24 := by show (j.take p1).toArray.size ≤ 24; simp; omega
  generalize (⟨(l.take n1).toArray⟩ : ByteArray) = a at ka hsa
  generalize (⟨(k.take m1).toArray⟩ : ByteArray) = b at kb hsb
  generalize (⟨(j.take p1).toArray⟩ : ByteArray) = g at kc hsc
  clear hn1 hm1 hp1
  go_wp2_with fail
  go_quiet (fail)
  clear ka kb kc
  replace hB := below_drewN hB nq
  generalize w1.drewN nq = w2 at hB ⊢
  go_wp2_with fail
  refine (ret_radd (a := g) (b := ⟨#[1]⟩) (by omega) (by decide) rfl _).mono ?_
  rintro e w3 ⟨rfl, hb3⟩
  replace hB := below_then hB hb3
  clear hb3
  have hts : (natS (sval g + sval ⟨#[1]⟩)).size ≤ 1000 := natS_sz (k := 26) (P8_sum (sval_le (by omega)) (Nat.lt_of_lt_of_le (sval_lt _) (P8_mono (by decide)))) (by omega)
  generalize natS (sval g + sval ⟨#[1]⟩) = tg at hts ⊢
  go_wp2_with fail
  refine three_new (w0 := w) (by omega) hts (by decide) hB ?_
  intro w5 ss hlen hbd hblk hB5
  generalize w3.heap.size = g5 at hblk ⊢
  have HBD := Lib.hid hbd
  have HLN := Lib.hid hlen
  clear hbd hlen
  go_loopw [12, 13, 14, 15, 16, 41] (fun _ _ _ _ _ s41 wr => ∃ i : Nat, i ≤ 3 ∧ s41 = .int .i64 (i : Int) ∧ Below w5.heap.size w5 wr) (fun _ _ _ _ _ s41 _ => 3 - (intOf s41).toNat)
  case atStart => exact ⟨0, by omega, rfl, Below.refl _ _⟩
  case round =>
    obtain ⟨i, hi, rfl, hbw⟩ := hrel
    by_cases h3 : i < 3
    · obtain ⟨v, hv⟩ : ∃ v, ss[i]? = some v := ⟨_, List.getElem?_eq_getElem (by rw [HLN.out]; exact h3)⟩
      have hvs := HBD.out v (List.mem_of_getElem? hv)
      have hc := strs_blk (hblk.belowK hbw) hv
      obtain ⟨x, pp, hxp⟩ := pow_pair (sval a) (sval b) (sval v)
      have H1 : Hid (Ret 23 #[.string a, .string b, .string v] (.tuple #[.string x, .bool pp])) := Lib.hid (fun W => hxp ▸ Pow_any a b v W (by omega) (by omega) (by omega))
      have H2 : Hid (Ret 24 #[.string a, .string b, .string v] (.tuple #[.string x, .bool pp])) := Lib.hid (fun W => hxp ▸ rPow_any a b v W (by omega) (by omega) (by omega))
      clear hv hxp
      go_wp2_with (first
        | (go_at_call 23; (with_reducible refine (H1.out _).mono ?_); rintro e w' ⟨rfl, hb''⟩; replace hbw := below_then hbw hb''; clear hb'')
        | (go_at_call 24; (with_reducible refine (H2.out _).mono ?_); rintro e w' ⟨rfl, hb''⟩; replace hbw := below_then hbw hb''; clear hb''))
      go_roundw
      case rel => first | exact ⟨i + 1, by omega, by go_num, hbw⟩ | ((repeat apply Exists.intro); exact ⟨⟨i + 1, by omega, by go_num, hbw⟩, rfl⟩)
      case measure => simp [intOf]; omega
    · obtain rfl : i = 3 := by omega
      go_wp2_with fail
      go_ret
      exact ⟨rfl, below_then hB5 hbw⟩

end Go.Proofs.YthiogjpjkdnbjaaGreatDoor
