/- The reference's of: the digits of a number. -/
import Derived.Test.YthiogjpjkdnbjaaGreatDoorRefD
namespace Go.Proofs.YthiogjpjkdnbjaaGreatDoor
open Go.RowKit

theorem P8_P24 (j : Nat) : P8 (3 * j) = R.P24 j := by unfold P8 R.P24; rw [Nat.pow_mul]
theorem R.trim_of_val {ds : List Nat} (hl : R.Lt24 ds) (h : 0 < ds.length → R.P24 (ds.length - 1) ≤ R.val ds) : R.Trim ds := by
  intro h0
  have hk : ds.length - 1 < ds.length := by omega
  refine ⟨ds[ds.length - 1], List.getElem?_eq_getElem hk, fun e => ?_⟩
  have h1 := h h0
  have h2 := R.val_split (List.getElem?_eq_getElem hk)
  rw [e, show ds.length - 1 + 1 = ds.length by omega, List.drop_of_length_le (Nat.le_refl _)] at h2
  have h3 := R.val_lt (hl.take (ds.length - 1))
  rw [List.length_take, Nat.min_eq_left (by omega)] at h3
  simp only [R.val, Nat.mul_zero, Nat.add_zero] at h2
  omega

/-- One more group of three bytes. -/
theorem chunk_step {l : List UInt8} {ds : List Nat} {p m j : Nat} (hp : p ≤ l.length) (hm : m ≤ p) (hj : ds.length = j) (hpj : l.length - p = 3 * j) (hv : R.val ds = bv (l.drop p)) :
    R.val (ds ++ [bv ((l.take p).drop m)]) = bv (l.drop m) := by
  have e : l.drop m = (l.take p).drop m ++ l.drop p := by
    have h1 : l = l.take p ++ l.drop p := (List.take_append_drop p l).symm
    conv => lhs; rw [h1]
    rw [List.drop_append_of_le_length (by rw [List.length_take]; omega)]
  rw [e, bv_append, R.val_snoc, hv, hj, List.length_drop, hpj, P8_P24, Nat.mul_comm, Nat.add_comm]
theorem chunk_lt {l : List UInt8} {p m : Nat} (hm : p - 3 ≤ m) : bv ((l.take p).drop m) < 16777216 := by
  have h1 := bv_lt ((l.take p).drop m)
  have h2 : ((l.take p).drop m).length ≤ 3 := by rw [List.length_drop, List.length_take]; omega
  exact Nat.lt_of_lt_of_le h1 (Nat.pow_le_pow_right (by omega) h2)
theorem chunk_byte (s : ByteArray) {k m : Nat} (h : k < s.size) (hm : m ≤ k) : bv ((s.data.toList.take (k + 1)).drop m) = bv ((s.data.toList.take k).drop m) * 256 + s[k].toNat := by
  rw [take_byte s h, List.drop_append_of_le_length (by rw [List.length_take, size_len]; omega), bv_snoc]

theorem own_base {w : World} {base e size n : Nat} {v : Value} {xs : List Value} (h : w.ownsRow base e size v n xs) : ∀ k, v.ownBlock = some k → base ≤ k := fun k hk => (h.lt k hk).1

/-- append of one int onto a slice of the call's own. -/
theorem wp_append24 {ops : Array Oper} {rest : List Oper} {o : Oper} {a : Act} {Q : Exit → Act → World → Prop} (hgd : o.guard = none) (s x : Operand)
    (ho : o.op = .call { callee := .builtin .append, args := #[s, x], argTypes := #[46, 46] }) {w0 wo : World} {v : Value} {ds : List Nat} {d : Nat} (hs : a.eval s = v) (hown : Own24 w0.heap.size wo v ds)
    (hx : a.eval x = .slice (some ⟨wo.heap.size, 0, none⟩) 1 1) (hl : ds.length ≤ 10000000) (hb : Below w0.heap.size w0 wo)
    (h : ∀ v' w', Own24 w0.heap.size w' v' (ds ++ [d]) → Below w0.heap.size w0 w' → wo.grownBy w' v.ownBlock → wpList Tryz.prog ops Q rest (a.put o.dst v') w') :
    wpList Tryz.prog ops Q (o :: rest) a (wo.alloc (.cells #[.int .i64 (d : Int)] 3)) := by
  obtain ⟨i0, hi0, hz0, hz1, hz2⟩ := info_parts int_info
  have hbs : w0.heap.size ≤ wo.heap.size := hb.size
  refine wpList_append_own _ hgd s x 46 ho w0.heap.size 3 i0 (.int .i64 0) 1 8 Tryz.underlying46 hi0 hz0 hz1 hz2 rfl (by decide) v ds.length (i64s ds) hs (World.ownsRow.alloc hown _) ⟨wo.heap.size, 0, none⟩ 1 1 [.int .i64 (d : Int)] hx rfl ?_ ?_ ?_ ?_ ?_ ?_
  · intro j u hu
    cases j with
    | zero => simp at hu; subst hu; rw [add_addr]; exact (Blk.new wo 3 #[.int .i64 (d : Int)]).cell 0
    | succ j => simp at hu
  · intro u hu; simp at hu; subst hu; rfl
  · unfold maxLen; omega
  · omega
  · rw [World.size_alloc]; omega
  · intro v' w' ho' hg' _
    have hgal : wo.grownBy (wo.alloc (.cells #[.int .i64 (d : Int)] 3)) v.ownBlock := grown_of_below ((Below.refl _ _).alloc (Nat.le_refl _) _) _
    have hg2 := grown_trans hgal hg'
    refine h v' w' ?_ (hb.grown hg2 hbs (own_base hown)) hg2
    rw [i64s_snoc] at ho'
    unfold Own24
    rw [List.length_append]
    exact ho'

set_option maxRecDepth 100000 in
set_option maxHeartbeats 1000000 in
theorem rOf_ (a : ByteArray) (w : World) (ha : a.size ≤ 100000) :
    Calls Tryz.prog 43 #[.string a] w fun e w' => GivesI w' (sval a) e ∧ Below w.heap.size w w' := by
  obtain ⟨s, hs⟩ : ∃ s, s = natS (sval a) := ⟨_, rfl⟩
  have hsl : s.size ≤ 100000 := by rw [hs]; exact Nat.le_trans (canon_le a) ha
  have HC : Hid (∀ W, Calls Tryz.prog 28 #[.string a] W fun e w' => e = .returned (.string s) ∧ W = w') := Lib.hid (fun W => by rw [hs]; exact rCanon a W (by omega))
  have HS := Lib.hid hs
  clear hs
  go_enter Tryz.func43, Tryz.ntmps43
  go_wp2_with fail
  refine (HC.out _).mono ?_
  rintro e w' ⟨rfl, rfl⟩
  go_wp2_with fail
  go_loopw [3, 4, 5, 6] (fun v p _ _ wr => ∃ (j : Nat) (ds : List Nat), 3 * j ≤ s.size + 2 ∧ p = .int .i64 ((s.size : Int) - 3 * (j : Int)) ∧ Own24 w.heap.size wr v ds ∧ R.Lt24 ds ∧ Hid (ds.length = j ∧ R.val ds = bv (s.data.toList.drop (s.size - 3 * j))) ∧ Below w.heap.size w wr) (fun _ p _ _ _ => (intOf p + 3).toNat)
  case atStart =>
    refine ⟨0, [], by omega, by go_num, Own24.nil_ _ _, R.Lt24.nil, Lib.hid ⟨rfl, ?_⟩, Below.refl _ _⟩
    rw [List.drop_of_length_le (by rw [size_len]; omega)]; rfl
  case round =>
    obtain ⟨j, ds, hj, rfl, hown, hlt, HD, hb⟩ := hrel
    by_cases h0 : 3 * j < s.size
    · obtain ⟨p, hp⟩ : ∃ p, p = s.size - 3 * j := ⟨_, rfl⟩
      rw [show (s.size : Int) - 3 * (j : Int) = (p : Int) by omega]
      have hp0 : 0 < p := by omega
      have hps : p ≤ s.size := by omega
      rw [← hp] at HD
      have HP := Lib.hid hp
      clear hp
      obtain ⟨m, hm⟩ : ∃ m, m = p - 3 := ⟨_, rfl⟩
      have hmx : max ((p : Int) - 3) 0 = (m : Int) := by omega
      have hmp : m < p := by omega
      have hm3 : p - 3 ≤ m := by omega
      have HM := Lib.hid hm
      clear hm
      go_wp2_with fail
      clear hmx
      obtain ⟨wo, hwo⟩ : ∃ wo : World, wo = wr := ⟨_, rfl⟩
      subst hwo
      go_loop [5, 6] (fun d k => ∃ i : Nat, m ≤ i ∧ i ≤ p ∧ k = .int .i64 (i : Int) ∧ d = .int .i64 (bv ((s.data.toList.take i).drop m) : Int)) (fun _ k => p - (intOf k).toNat)
      case atStart => exact ⟨m, Nat.le_refl _, by omega, rfl, by rw [List.drop_of_length_le (by rw [List.length_take]; omega)]; rfl⟩
      case round =>
        obtain ⟨i, hi1, hi2, rfl, rfl⟩ := hrel
        by_cases hlt2 : i < p
        · have his : i < s.size := by omega
          have HN := Lib.hid (chunk_byte s his hi1)
          have hx := chunk_lt (l := s.data.toList) (p := i) (m := m) (by omega)
          obtain ⟨x, hxe⟩ : ∃ x, x = bv ((s.data.toList.take i).drop m) := ⟨_, rfl⟩
          rw [← hxe] at HN hx ⊢
          clear hxe
          have hbl := s[i].toNat_lt
          go_wp2_with fail
          go_round
          case rel => exact ⟨i + 1, by omega, by omega, by go_num, by rw [HN.out]; go_num⟩
          case measure => simp [intOf]; omega
        · obtain rfl : i = p := by omega
          have hx := chunk_lt (l := s.data.toList) (p := i) (m := m) (by omega)
          have HST := Lib.hid (chunk_step (l := s.data.toList) (m := m) (by rw [size_len]; exact hps) (by omega) HD.out.1 (by rw [size_len, HP.out]; omega) HD.out.2)
          obtain ⟨x, hxe⟩ : ∃ x, x = bv ((s.data.toList.take i).drop m) := ⟨_, rfl⟩
          rw [← hxe] at HST hx ⊢
          clear hxe
          have hdl : ds.length ≤ 10000000 := by rw [HD.out.1]; omega
          go_wp2_with (at_builtin; refine wp_append24 rfl _ _ rfl rfl hown rfl hdl hb ?_; intro v1 w1 hown1 hb1 hg1)
          go_roundw
          case rel =>
            refine ⟨j + 1, ds ++ [x], by have := HP.out; omega, ?_, hown1, hlt.snoc hx, Lib.hid ⟨by rw [List.length_append, HD.out.1]; rfl, ?_⟩, hb1⟩
            · have := HP.out; congr 1; omega
            · rw [HST.out, HM.out, HP.out]; congr 2
          case measure => simp [intOf]; omega
    · go_wp2_with fail
      go_ret
      obtain ⟨A, c, rfl, hdg⟩ := hown.dig hlt
      refine ⟨⟨A, ds.length, c, ds, rfl, hdg, R.trim_of_val hlt ?_, ?_⟩, hb⟩
      · intro h1
        rw [HD.out.2, show s.size - 3 * j = 0 by omega, List.drop_zero]
        have h2 : s.data.toList ≠ [] := by intro e; have := size_len s; rw [e] at this; simp at this; have := HD.out.1; omega
        have h3 := canon_pos (by have := natS_canon (sval a); rw [← HS.out] at this; exact this) h2
        refine Nat.le_trans ?_ h3
        rw [← P8_P24, size_len]
        have := HD.out.1
        exact P8_mono (by omega)
      · rw [HD.out.2, show s.size - 3 * j = 0 by omega, List.drop_zero]
        show sval s = _
        rw [HS.out, sval_natS]

end Go.Proofs.YthiogjpjkdnbjaaGreatDoor
