/- The reference's Of and number: strings out of appended bytes. -/
import Derived.Test.YthiogjpjkdnbjaaGreatDoorRefF
import Derived.Test.YthiogjpjkdnbjaaGreatDoorNatK
import Derived.Deep.RegionLaw
namespace Go.Proofs.YthiogjpjkdnbjaaGreatDoor
open Go.RowKit

/-- Bytes as values. -/
def u8l (l : List UInt8) : List Value := l.map fun b : UInt8 => Value.int .u8 (b.toNat : Int)
theorem u8l_len (l : List UInt8) : (u8l l).length = l.length := by simp [u8l]
theorem u8l_app (l m : List UInt8) : u8l l ++ u8l m = u8l (l ++ m) := by simp [u8l]

/-- A slice of bytes that the call made by append. -/
def OwnB (B : Nat) (w : World) (v : Value) (l : List UInt8) : Prop := w.ownsRow B 5 1 v l.length (u8l l)
theorem OwnB.nil_ (B : Nat) (w : World) : OwnB B w (.slice none 0 0) [] := ⟨rfl, .inl ⟨rfl, rfl⟩⟩

theorem byte_info : (Tryz.prog.info? 5).map (fun i => (i.zero, i.size, i.bytes)) = some (some (.int .u8 0), 1, 1) := by kernel_rfl

theorem run_own_nat {B : Nat} {w : World} {v : Value} {l : List UInt8} (h : OwnB B w v l) :
    (convert 22 24 v).run Tryz.prog w = .ok (.string ⟨l.toArray⟩) w := by
  rcases h.2 with ⟨rfl, hn⟩ | ⟨g, cap, cur, rfl, _, hh, hc, _, _, ht⟩
  · have : l = [] := List.eq_nil_of_length_eq_zero hn
    subst this
    rw [run_convert_bytes_string w 22 24 5 _ _ _ Tryz.underlying22 Tryz.underlying5 Tryz.underlying24]
    rfl
  · rw [run_convert_bytes_string w 22 24 5 _ _ _ Tryz.underlying22 Tryz.underlying5 Tryz.underlying24]
    have hld := run_loadCells_list (P := Tryz.prog) w ⟨g, 0, none⟩ ((l.map fun b : UInt8 => (b.toNat : Int)).map (Value.int .u8)) (fun j v hv => by
      exact h.cells (g := g) rfl j v (by rw [List.map_map] at hv; exact hv))
    rw [List.length_map, List.length_map] at hld
    rw [run_bytesToString w _ _ cap _ hld, push_all]
    simp

/-- append of some bytes onto a slice of the call's own. -/
theorem wp_appendB {ops : Array Oper} {rest : List Oper} {o : Oper} {a : Act} {Q : Exit → Act → World → Prop} (hgd : o.guard = none) (s x : Operand)
    (ho : o.op = .call { callee := .builtin .append, args := #[s, x], argTypes := #[22, 22] }) {w0 wo : World} {v : Value} {l : List UInt8} (news : List UInt8) (m : Nat) (hm : news.length = m) {cells : Array Value}
    (hc : cells = (u8l news).toArray) (hs : a.eval s = v) (hown : OwnB w0.heap.size wo v l)
    (hx : a.eval x = .slice (some ⟨wo.heap.size, 0, none⟩) m m) (hl : l.length ≤ 10000000) (hm10 : m ≤ 10) (hb : Below w0.heap.size w0 wo)
    (h : ∀ v' w', OwnB w0.heap.size w' v' (l ++ news) → Below w0.heap.size w0 w' → wpList Tryz.prog ops Q rest (a.put o.dst v') w') :
    wpList Tryz.prog ops Q (o :: rest) a (wo.alloc (.cells cells 5)) := by
  subst hc
  obtain ⟨i0, hi0, hz0, hz1, hz2⟩ := info_parts byte_info
  have hbs : w0.heap.size ≤ wo.heap.size := hb.size
  refine wpList_append_own _ hgd s x 22 ho w0.heap.size 5 i0 (.int .u8 0) 1 1 Tryz.underlying22 hi0 hz0 hz1 hz2 rfl (by decide) v l.length (u8l l) hs (World.ownsRow.alloc hown _) ⟨wo.heap.size, 0, none⟩ m m (u8l news) hx (by rw [u8l_len, hm, Nat.mul_one]) ?_ ?_ ?_ ?_ ?_ ?_
  · intro j u hu
    rw [add_addr, Nat.zero_add]
    exact ((Blk.new wo 5 (u8l news).toArray).cell j).trans (by simpa using hu)
  · intro u hu
    simp only [u8l, List.mem_map] at hu
    obtain ⟨b, _, rfl⟩ := hu
    rfl
  · unfold maxLen; omega
  · omega
  · rw [World.size_alloc]; omega
  · intro v' w' ho' hg' _
    have hgal : wo.grownBy (wo.alloc (.cells (u8l news).toArray 5)) v.ownBlock := grown_of_below ((Below.refl _ _).alloc (Nat.le_refl _) _) _
    have hg2 := grown_trans hgal hg'
    refine h v' w' ?_ (hb.grown hg2 hbs (own_base hown))
    rw [u8l_app] at ho'
    unfold OwnB
    rw [List.length_append, hm]
    exact ho'

/-- The same in a region that draws its order. -/
theorem step_appendB {ops : Array Oper} {o : Oper} {a : Act} {K : Act → World → Prop} {Q : Exit → Act → World → Prop} {E : Prop} (hgd : o.guard = none) (s x : Operand)
    (ho : o.op = .call { callee := .builtin .append, args := #[s, x], argTypes := #[22, 22] }) {w0 wo : World} {v : Value} {l : List UInt8} (news : List UInt8) (m : Nat) (hm : news.length = m) {cells : Array Value}
    (hc : cells = (u8l news).toArray) (hs : a.eval s = v) (hown : OwnB w0.heap.size wo v l)
    (hx : a.eval x = .slice (some ⟨wo.heap.size, 0, none⟩) m m) (hl : l.length ≤ 10000000) (hm10 : m ≤ 10) (hb : Below w0.heap.size w0 wo)
    (h : ∀ v' w', OwnB w0.heap.size w' v' (l ++ news) → Below w0.heap.size w0 w' → K (a.put o.dst v') w') :
    if Region.wanted o (yielded ops a.tmps) = true then Oper.wp Tryz.prog o a (wo.alloc (.cells cells 5)) K Q else E := by
  subst hc
  have hw : Region.wanted o (yielded ops a.tmps) = true := by simp [Region.wanted, hgd]
  rw [if_pos hw]
  obtain ⟨i0, hi0, hz0, hz1, hz2⟩ := info_parts byte_info
  have hbs : w0.heap.size ≤ wo.heap.size := hb.size
  refine wp_append_own _ s x 22 ho w0.heap.size 5 i0 (.int .u8 0) 1 1 Tryz.underlying22 hi0 hz0 hz1 hz2 rfl (by decide) v l.length (u8l l) hs (World.ownsRow.alloc hown _) ⟨wo.heap.size, 0, none⟩ m m (u8l news) hx (by rw [u8l_len, hm, Nat.mul_one]) ?_ ?_ ?_ ?_ ?_ ?_
  · intro j u hu
    rw [add_addr, Nat.zero_add]
    exact ((Blk.new wo 5 (u8l news).toArray).cell j).trans (by simpa using hu)
  · intro u hu
    simp only [u8l, List.mem_map] at hu
    obtain ⟨b, _, rfl⟩ := hu
    rfl
  · unfold maxLen; omega
  · omega
  · rw [World.size_alloc]; omega
  · intro v' w' ho' hg' _
    have hgal : wo.grownBy (wo.alloc (.cells (u8l news).toArray 5)) v.ownBlock := grown_of_below ((Below.refl _ _).alloc (Nat.le_refl _) _) _
    have hg2 := grown_trans hgal hg'
    refine h v' w' ?_ (hb.grown hg2 hbs (own_base hown))
    rw [u8l_app] at ho'
    unfold OwnB
    rw [List.length_append, hm]
    exact ho'

theorem u8_wrap (n : Int) : IntKind.u8.wrap n = n % 256 := by simp [IntKind.wrap, IntKind.bits, IntKind.signed]
theorem byte_toNat {x : Nat} (h : x < 256) : (UInt8.ofNat x).toNat = x := by rw [UInt8.toNat_ofNat', Nat.mod_eq_of_lt (show x < 2 ^ 8 from h)]

theorem shift_step (n κ : Nat) : n / 2 ^ (κ + 8) * 256 + n / 2 ^ κ % 256 = n / 2 ^ κ := by
  rw [Nat.pow_add, ← Nat.div_div_eq_div_mul, show (2 : Nat) ^ 8 = 256 by rfl]
  omega

set_option maxRecDepth 100000 in
set_option maxHeartbeats 1000000 in
theorem rOf_nat (n : Nat) (w : World) (h : n ≤ 9223372036854775807) (h1 : 0 < n) :
    Calls Tryz.prog 17 #[.int .i64 (n : Int)] w fun e w' => e = .returned (.string (natS n)) ∧ Below w.heap.size w w' := by
  have hnb : n / 2 ^ 64 = 0 := Nat.div_eq_of_lt (by omega)
  have HNB := Lib.hid hnb
  clear hnb
  go_enter Tryz.func17, Tryz.ntmps17
  go_wp2_with fail
  go_loopw [3, 4] (fun v s4 wr => ∃ (r : Nat) (l : List UInt8), r ≤ 8 ∧ s4 = .int .i64 (8 * (r : Int) - 8) ∧ OwnB w.heap.size wr v l ∧ Hid (l.length = 8 - r ∧ bv l = n / 2 ^ (8 * r)) ∧ Below w.heap.size w wr) (fun _ s4 _ => (intOf s4 + 8).toNat)
  case atStart => exact ⟨8, [], by omega, by go_num, OwnB.nil_ _ _, Lib.hid ⟨rfl, HNB.out.symm⟩, Below.refl _ _⟩
  case round =>
    obtain ⟨r, l, hr, rfl, hown, HL, hb⟩ := hrel
    by_cases h0 : 0 < r
    · obtain ⟨κ, hκ⟩ : ∃ κ, κ = 8 * r - 8 := ⟨_, rfl⟩
      rw [show 8 * (r : Int) - 8 = (κ : Int) by omega]
      have hκl : κ ≤ 56 := by omega
      have HK := Lib.hid hκ
      clear hκ
      have hdl : l.length ≤ 10000000 := by rw [HL.out.1]; omega
      obtain ⟨b, hbb⟩ : ∃ b, b = UInt8.ofNat (n / 2 ^ κ % 256) := ⟨_, rfl⟩
      have hbn : b.toNat = n / 2 ^ κ % 256 := by rw [hbb, byte_toNat (Nat.mod_lt _ (by omega))]
      have HCB : Hid (#[Value.int .u8 ((n : Int) / 2 ^ κ % 256)] = (u8l [b]).toArray) := Lib.hid (by
        have e : ((n / 2 ^ κ % 256 : Nat) : Int) = (n : Int) / 2 ^ κ % 256 := by simp
        rw [← e, ← hbn]; rfl)
      have HBN := Lib.hid hbn
      clear hbb hbn
      go_wp2_with (at_builtin; refine wp_appendB rfl _ _ rfl [b] 1 rfl HCB.out rfl hown rfl hdl (by decide) hb ?_; intro v1 w1 hown1 hb1)
      go_roundw
      case rel =>
        refine ⟨r - 1, l ++ [b], by omega, ?_, hown1, Lib.hid ⟨by rw [List.length_append, HL.out.1]; simp; omega, ?_⟩, hb1⟩
        · have := HK.out; congr 1; omega
        · have h2 := HK.out
          rw [bv_snoc, HL.out.2, HBN.out, show 8 * r = κ + 8 by omega, shift_step]
          congr 2; omega
      case measure => simp [intOf]; omega
    · have hr0 : r = 0 := by omega
      subst hr0
      have HV : Hid (sval ⟨l.toArray⟩ = n) := Lib.hid (by show bv l = n; rw [HL.out.2]; simp)
      have hcv := run_own_nat hown
      have hls : (⟨l.toArray⟩ : ByteArray).size ≤ 1000000 := by show l.toArray.size ≤ _; rw [List.size_toArray, HL.out.1]; omega
      go_wp2_with fail
      refine (rCanon _ _ hls).mono ?_
      rintro e w' ⟨rfl, rfl⟩
      rw [HV.out]
      go_wp2_with fail
      go_ret
      exact ⟨rfl, hb⟩

set_option maxRecDepth 100000 in
set_option maxHeartbeats 400000 in
theorem rOf_neg (n : Int) (w : World) (h : n ≤ 0) :
    Calls Tryz.prog 17 #[.int .i64 n] w fun e w' => e = .returned (.string (natS n.toNat)) ∧ Below w.heap.size w w' := by
  have hcv := run_own_nat (OwnB.nil_ w.heap.size w)
  have HZ : Hid (n.toNat = 0) := Lib.hid (by omega)
  go_enter Tryz.func17, Tryz.ntmps17
  go_wp2_with fail
  go_loop [3, 4] (fun v k => v = .slice none 0 0 ∧ k = .int .i64 56) (fun _ _ => 0)
  case atStart => exact ⟨rfl, rfl⟩
  case round =>
    obtain ⟨rfl, rfl⟩ := hrel
    go_wp2_with fail
    refine (rCanon ⟨#[]⟩ _ (by decide)).mono ?_
    rintro e w' ⟨rfl, rfl⟩
    go_wp2_with fail
    go_ret
    exact ⟨by rw [HZ.out]; rfl, Below.refl _ _⟩

theorem rOf (n : Int) (w : World) (h : n ≤ 9223372036854775807) :
    Calls Tryz.prog 17 #[.int .i64 n] w fun e w' => e = .returned (.string (natS n.toNat)) ∧ Below w.heap.size w w' := by
  rcases Int.lt_or_le 0 n with h0 | h0
  · obtain ⟨k, rfl⟩ := Int.eq_ofNat_of_zero_le (Int.le_of_lt h0)
    rw [Int.toNat_natCast]
    exact rOf_nat k w (by omega) (by omega)
  · exact rOf_neg n w h0

set_option maxRecDepth 100000 in
set_option maxHeartbeats 1000000 in
theorem rnumber (A : Option Addr) (n c : Nat) (us : List Nat) (w : World) (h : IDg w A n c us) (hn : n ≤ 300000) :
    Calls Tryz.prog 44 #[.slice A n c] w fun e w' => e = .returned (.string (natS (R.val us))) ∧ Below w.heap.size w w' := by
  have HL := Lib.hid h.len
  go_enter Tryz.func44, Tryz.ntmps44
  go_wp2_with fail
  go_loopw [3, 4] (fun v s4 wr => ∃ (i : Nat) (l : List UInt8), i ≤ n ∧ s4 = .int .i64 ((i : Int) - 1) ∧ OwnB w.heap.size wr v l ∧ Hid (l.length = 3 * (n - i) ∧ bv l = R.val (us.drop i)) ∧ Below w.heap.size w wr) (fun _ s4 _ => (intOf s4 + 1).toNat)
  case atStart => exact ⟨n, [], by omega, by go_num, OwnB.nil_ _ _, Lib.hid ⟨by simp, by rw [List.drop_of_length_le (by rw [HL.out]; exact Nat.le_refl _)]; rfl⟩, Below.refl _ _⟩
  case round =>
    obtain ⟨i, l, hi, rfl, hown, HF, hb⟩ := hrel
    have hdl : l.length ≤ 10000000 := by rw [HF.out.1]; omega
    by_cases h0 : 0 < i
    · obtain ⟨j, rfl⟩ : ∃ j, i = j + 1 := ⟨i - 1, by omega⟩
      rw [show ((j + 1 : Nat) : Int) - 1 = (j : Int) by omega]
      obtain ⟨b, o, x, rfl, hx, hxl, hxc⟩ := (h.below hb).get (k := j) (by omega)
      have HX := Lib.hid hx
      clear hx
      have hjn : (j : Int) < (n : Int) := by omega
      have hj0 : (0 : Int) ≤ (j : Int) := by omega
      go_wp2_with fail
      obtain ⟨b1, hb1⟩ : ∃ b, b = UInt8.ofNat (x / 65536 % 256) := ⟨_, rfl⟩
      obtain ⟨b2, hb2⟩ : ∃ b, b = UInt8.ofNat (x / 256 % 256) := ⟨_, rfl⟩
      obtain ⟨b3, hb3⟩ : ∃ b, b = UInt8.ofNat (x % 256) := ⟨_, rfl⟩
      have HCB : Hid (#[Value.int .u8 (IntKind.u8.wrap ((x : Int) / 65536)), Value.int .u8 (IntKind.u8.wrap ((x : Int) / 256)), Value.int .u8 (IntKind.u8.wrap (x : Int))] = (u8l [b1, b2, b3]).toArray) := Lib.hid (by
        rw [u8_wrap, u8_wrap, u8_wrap]
        rw [hb1, hb2, hb3]
        simp only [u8l, List.map_cons, List.map_nil, byte_toNat (show x / 65536 % 256 < 256 by omega), byte_toNat (show x / 256 % 256 < 256 by omega), byte_toNat (show x % 256 < 256 by omega)]
        simp)
      have HBV : Hid (bv (l ++ [b1, b2, b3]) = R.val (us.drop j)) := Lib.hid (by
        rw [drop_cons HX.out, R.val, ← HF.out.2, bv_append, hb1, hb2, hb3]
        simp only [bv_cons, bv_nil, byte_toNat (show x / 65536 % 256 < 256 by omega), byte_toNat (show x / 256 % 256 < 256 by omega), byte_toNat (show x % 256 < 256 by omega), List.length_cons, List.length_nil]
        rw [show P8 (0 + 1 + 1 + 1) = 16777216 by rfl, show P8 (0 + 1 + 1) = 65536 by rfl, show P8 (0 + 1) = 256 by rfl, P8_zero]
        omega)
      clear hb1 hb2 hb3
      go_region_law (refine step_appendB rfl (.tmp 12) (.tmp 30) rfl [b1, b2, b3] 3 rfl HCB.out (by simp [Act.eval]) (World.ownsRow.drew hown) (by simp [Act.eval]) hdl (by decide) hb.drew ?_; intro v1 w1 hown1 hbw1)
      all_goals go_wp2_with fail
      all_goals
        go_roundw
        case rel => exact ⟨j, l ++ [b1, b2, b3], by omega, rfl, hown1, Lib.hid ⟨by rw [List.length_append, HF.out.1]; simp; omega, HBV.out⟩, hbw1⟩
        case measure => simp [intOf]
    · obtain rfl : i = 0 := by omega
      have HV : Hid (sval ⟨l.toArray⟩ = R.val us) := Lib.hid (by show bv l = _; rw [HF.out.2, List.drop_zero])
      have hcv := run_own_nat hown
      have hls : (⟨l.toArray⟩ : ByteArray).size ≤ 1000000 := by show l.toArray.size ≤ _; rw [List.size_toArray, HF.out.1]; omega
      go_wp2_with fail
      refine (rCanon _ _ hls).mono ?_
      rintro e w' ⟨rfl, rfl⟩
      rw [HV.out]
      go_wp2_with fail
      go_ret
      exact ⟨rfl, hb⟩

end Go.Proofs.YthiogjpjkdnbjaaGreatDoor
