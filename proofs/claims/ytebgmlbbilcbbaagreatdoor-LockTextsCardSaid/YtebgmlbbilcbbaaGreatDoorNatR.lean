/- Text: a number in decimal. -/
import Derived.Test.YtebgmlbbilcbbaaGreatDoorNatThree
import Derived.Test.YtebgmlbbilcbbaaGreatDoorPlainAll
import Derived.Test.YtebgmlbbilcbbaaGreatDoorShelfTxt
import Derived.Test.YtebgmlbbilcbbaaGreatDoorRefTwo
import Derived.Lib.ItoaMem
import Derived.Sort.OwnSorted
namespace Go.Proofs.YtebgmlbbilcbbaaGreatDoor
open Go.RowKit Go.Shelf

/-- Strings as values. -/
def strs (l : List (List UInt8)) : List Value := l.map fun s => Value.string ⟨s.toArray⟩
/-- A slice of strings that the call made by append. -/
def OwnS (B : Nat) (w : World) (v : Value) (l : List (List UInt8)) : Prop := w.ownsRow B 9 1 v l.length (strs l)
theorem OwnS.nil_ (B : Nat) (w : World) : OwnS B w (.slice none 0 0) [] := ⟨rfl, .inl ⟨rfl, rfl⟩⟩
theorem str_info : (Tryz.prog.info? 9).map (fun i => (i.zero, i.size, i.bytes)) = some (some (.string ⟨#[]⟩), 1, 16) := by kernel_rfl
theorem OwnS.below {B : Nat} {w w' : World} {v : Value} {l : List (List UInt8)} (h : OwnS B w v l) (hb : Below w.heap.size w w') : OwnS B w' v l :=
  World.ownsRow.kept h (grown_of_below hb none) (by
    rcases h.2 with ⟨rfl, _⟩ | ⟨g, cap, cur, rfl, _⟩
    · exact .inl rfl
    · exact .inr (by simp [Value.ownBlock]))

/-- append of one string onto a slice of the call's own. -/
theorem wp_appendS {ops : Array Oper} {rest : List Oper} {o : Oper} {a : Act} {Q : Exit → Act → World → Prop} (hgd : o.guard = none) (s x : Operand)
    (ho : o.op = .call { callee := .builtin .append, args := #[s, x], argTypes := #[60, 60] }) {w0 wo : World} {v : Value} {l : List (List UInt8)} {d : List UInt8} {ds : ByteArray} (hds : ds = ⟨d.toArray⟩) (hs : a.eval s = v) (hown : OwnS w0.heap.size wo v l)
    (hx : a.eval x = .slice (some ⟨wo.heap.size, 0, none⟩) 1 1) (hl : l.length ≤ 10000000) (hb : Below w0.heap.size w0 wo)
    (h : ∀ v' w', OwnS w0.heap.size w' v' (l ++ [d]) → Below w0.heap.size w0 w' → wo.grownBy w' v.ownBlock → wpList Tryz.prog ops Q rest (a.put o.dst v') w') :
    wpList Tryz.prog ops Q (o :: rest) a (wo.alloc (.cells #[.string ds] 9)) := by
  subst hds
  obtain ⟨i0, hi0, hz0, hz1, hz2⟩ := info_parts str_info
  have hbs : w0.heap.size ≤ wo.heap.size := hb.size
  refine wpList_append_own _ hgd s x 60 ho w0.heap.size 9 i0 (.string ⟨#[]⟩) 1 16 Tryz.underlying60 hi0 hz0 hz1 hz2 rfl (by decide) v l.length (strs l) hs (World.ownsRow.alloc hown _) ⟨wo.heap.size, 0, none⟩ 1 1 [.string ⟨d.toArray⟩] hx rfl ?_ ?_ ?_ ?_ ?_ ?_
  · intro j u hu
    cases j with
    | zero => simp at hu; subst hu; rw [add_addr]; exact (Blk.new wo 9 #[.string ⟨d.toArray⟩]).cell 0
    | succ j => simp at hu
  · intro u hu; simp at hu; subst hu; rfl
  · unfold maxLen; omega
  · omega
  · rw [World.size_alloc]; omega
  · intro v' w' ho' hg' _
    have hgal : wo.grownBy (wo.alloc (.cells #[.string ⟨d.toArray⟩] 9)) v.ownBlock := grown_of_below ((Below.refl _ _).alloc (Nat.le_refl _) _) _
    have hg2 := grown_trans hgal hg'
    refine h v' w' ?_ (hb.grown hg2 hbs (own_base hown)) hg2
    unfold OwnS
    rw [List.length_append, show strs (l ++ [d]) = strs l ++ [.string ⟨d.toArray⟩] by simp [strs]]
    exact ho'

/-- The table of powers of ten is as the library lays it. -/
def Pow10 (w : World) : Prop := Lib.TabIs Tryz.prog w "internal/strconv.uint64pow10" .u64 Lib.pow10Tab
theorem Pow10.below {w w' : World} (h : Pow10 w) (hb : Below w.heap.size w w') : Pow10 w' := by
  have hg : Tryz.prog.globalNamed "internal/strconv.uint64pow10" = some (Tryz.laysM171_ren.g 17) := by kernel_rfl
  unfold Pow10 Lib.TabIs World.var? at h ⊢
  rw [hg] at h ⊢
  simp only [Option.bind_some] at h ⊢
  have hlt : Tryz.laysM171_ren.g 17 < w.heap.size := by
    rcases Nat.lt_or_ge (Tryz.laysM171_ren.g 17) w.heap.size with hl | hl
    · exact hl
    · rw [Array.getElem?_eq_none hl] at h; cases h
  rw [hb.block _ hlt]
  exact h

theorem below_grow (w : World) (k : Nat) (os : Array Obj) : Below w.heap.size w (Sort.grow (w.drewN k) os) :=
  ⟨rfl, rfl, rfl, by show w.heap.size ≤ (w.heap ++ os).size; simp, fun i hi => by show (w.heap ++ os)[i]? = _; rw [Array.getElem?_append_left hi]⟩

/-- Itoa of a number. -/
theorem itoa_nat (r : Nat) (w : World) (hr : r ≤ 9223372036854775807) (ht : Pow10 w) :
    Calls Tryz.prog 85 #[.int .i64 (r : Int)] w fun e w' => e = .returned (.string ⟨(Lib.decDigits r).toArray⟩) ∧ Below w.heap.size w w' := by
  refine (Tryz.strconv_Itoa (r : Int) (by omega) (by omega) w ht).mono ?_
  rintro e w' ⟨rfl, k, os, rfl⟩
  rw [Lib.itoa_nonneg]
  exact ⟨rfl, below_grow w k os⟩

/-- What Text returns. -/
def decS (n : Nat) : ByteArray := ⟨(Lib.decDigits n).toArray⟩

set_option maxHeartbeats 400000 in
theorem divideDigit_at (A : Option Addr) (n c : Nat) (xs : List Nat) (y : Nat) (w : World) (h : Dig w A n c xs) (hn : n ≤ 1000000) (hy : 0 < y) (hy2 : y < 4294967296) :
    Calls Tryz.prog 140 #[.slice A n c, .int .u32 (y : Int)] w fun e w' => ∃ (m c' : Nat) (zs : List Nat), e = .returned (.tuple #[.slice (some ⟨w.heap.size, 0, none⟩) m c', .int .u32 ((val xs % y : Nat) : Int)]) ∧ Dig w' (some ⟨w.heap.size, 0, none⟩) m c' zs ∧ Trim zs ∧ val zs = val xs / y ∧ Below w.heap.size w w' := by
  have hmk := make_u32 n (by omega)
  go_enter Tryz.func140, Tryz.ntmps140
  go_wp2_with fail
  go_loopw [7, 8] (fun s7 s8 wr => ∃ (i r : Nat) (qs : List Nat), i ≤ n ∧ s8 = .int .i64 ((i : Int) - 1) ∧ s7 = .int .u64 (r : Int) ∧ r < y ∧ qs.length = n ∧ Lt32 qs ∧ (∀ j d : Nat, j < i → qs[j]? = some d → d = 0) ∧ Hid (val (xs.drop i) = val (qs.drop i) * y + r) ∧ Blk wr w.heap.size 140 (u32s qs) ∧ Below w.heap.size w wr) (fun _ s8 _ => (intOf s8 + 1).toNat)
  case atStart => exact ⟨n, 0, List.replicate n 0, Nat.le_refl _, rfl, rfl, hy, by simp, Lt32.zeros _, (fun j d _ hd => by rw [List.getElem?_replicate] at hd; split at hd <;> simp_all), by show _ = _; rw [List.drop_of_length_le (by rw [h.len]; omega), List.drop_of_length_le (by simp)]; simp [val], Blk.new _ _ _, (Below.refl _ _).alloc (Nat.le_refl _) _⟩
  case round =>
    obtain ⟨i, r, qs, hi, rfl, rfl, hr, hq, hlt, hz, HI, hbk, hb⟩ := hrel
    have HQ := Lib.hid hq
    have HZ := Lib.hid hz
    clear hz hq
    by_cases h0 : 0 < i
    · obtain ⟨b, o, x, rfl, hx, hxl, hxc⟩ := (h.below hb).get (k := i - 1) (by omega)
      have HX := Lib.hid hx
      clear hx
      have hzc : ∃ z : Nat, wr.cell? ⟨w.heap.size, i - 1, none⟩ = some (.int .u32 (z : Int)) := by
        have hl : i - 1 < qs.length := by rw [HQ.out]; omega
        exact ⟨_, hbk.u32 (List.getElem?_eq_getElem hl)⟩
      obtain ⟨z, hzc⟩ := hzc
      have hfz := hbk.frozen (i - 1)
      have hor := u64_or_hi r x (by omega) hxl
      have hql : (r * 4294967296 + x) / y < 4294967296 := by
        apply Nat.div_lt_of_lt_mul
        have : (r + 1) * 4294967296 ≤ y * 4294967296 := Nat.mul_le_mul_right _ hr
        omega
      have hrl : (r * 4294967296 + x) % y < y := Nat.mod_lt _ hy
      obtain ⟨q, hq⟩ : ∃ q, q = (r * 4294967296 + x) / y := ⟨_, rfl⟩
      obtain ⟨t, ht⟩ : ∃ t, t = (r * 4294967296 + x) % y := ⟨_, rfl⟩
      rw [← hq] at hql
      rw [← ht] at hrl
      have hq2 : ((r : Int) * 4294967296 + x) / y = (q : Int) := by rw [hq]; simp
      have ht2 : ((r : Int) * 4294967296 + x) % y = (t : Int) := by rw [ht]; simp
      have HQ2 := Lib.hid hq
      have HT2 := Lib.hid ht
      clear hq ht
      go_wp2_with fail
      go_roundw
      case rel =>
        have hl : i - 1 < qs.length := by rw [HQ.out]; omega
        refine ⟨i - 1, t, qs.set (i - 1) q, by omega, by go_num, by rw [ht2], hrl, by simp [HQ.out], hlt.set hql, (fun j d hj hd => ?_), ?_, hbk.put32 (i - 1) q, hb.setCell (Nat.le_refl _) _⟩
        · rw [List.getElem?_set_ne (by omega)] at hd
          exact HZ.out j d (by omega) hd
        · show _ = _
          rw [set_drop hl, drop_cons HX.out, val, val, show i - 1 + 1 = i by omega, HQ2.out, HT2.out]
          exact digit_step HI.out
      case measure => simp [intOf]; omega
    · obtain rfl : i = 0 := by omega
      have hdg := hbk.dig hlt (n := n) (c := n) HQ.out (Nat.le_refl _)
      go_wp2_with fail
      refine (trim_any _ _ _ _ _ hdg (by omega)).mono ?_
      rintro e w' ⟨⟨m1, hm1, rfl, hz1, hn1⟩, rfl⟩
      have HM := Lib.hid (And.intro hz1 hn1)
      clear hz1 hn1
      go_wp2_with fail
      go_ret2
      have e2 := HI.out
      rw [List.drop_zero, List.drop_zero] at e2
      have e3 : val xs / y = val qs := by rw [e2, Nat.mul_comm, Nat.mul_add_div hy, Nat.div_eq_of_lt hr, Nat.add_zero]
      have e4 : val xs % y = r := by rw [e2, Nat.mul_comm, Nat.mul_add_mod, Nat.mod_eq_of_lt hr]
      refine ⟨m1, n, qs.take m1, by rw [e4]; rfl, hdg.take hm1, fun h1 => ?_, by rw [val_trim HM.out.1, e3], hb⟩
      rw [List.length_take, Nat.min_eq_left (by rw [HQ.out]; omega)] at h1 ⊢
      obtain ⟨d, hd, hne⟩ := HM.out.2 h1
      exact ⟨d, by rw [List.getElem?_take, if_pos (by omega)]; exact hd, hne⟩

theorem dig_grown {w w' : World} {g n c : Nat} {xs : List Nat} {row : Option Nat} (h : Dig w (some ⟨g, 0, none⟩) n c xs) (hg : w.grownBy w' row) (hne : some g ≠ row) : Dig w' (some ⟨g, 0, none⟩) n c xs := by
  refine ⟨h.len, h.cap, h.lt, fun hn => ?_⟩
  obtain ⟨b, o, e, hc⟩ := h.at_ hn
  cases e
  refine ⟨g, 0, rfl, fun j d hd => ?_⟩
  have h1 := hc j d hd
  exact (World.cell?_of_block (w := w) (a := ⟨g, 0 + j, none⟩) (hg.block g (block_lt_of_cell h1) hne)).trans h1

theorem decS_zero : decS 0 = ⟨#[48]⟩ := by unfold decS; rw [Lib.decDigits_one (by omega)]; rfl
theorem dec_bytes (a : ByteArray) : (Lib.decDigits (sval a)).length ≤ 3 * a.size + 1 := by
  refine (dec_len (3 * a.size) _ ?_).1
  refine Nat.lt_of_lt_of_le (sval_lt a) ?_
  unfold P8
  refine Nat.le_trans (Nat.pow_le_pow_left (show 256 ≤ 10 ^ 3 by decide) a.size) ?_
  rw [← Nat.pow_mul]
  exact Nat.pow_le_pow_right (by omega) (by omega)
theorem repeat48 : ∀ c : Nat, Lib.repeatL [48] c = List.replicate c 48
  | 0 => rfl
  | c + 1 => by rw [Lib.repeatL, repeat48 c, List.replicate_succ]; rfl

theorem join_flat (gs : List (List UInt8)) : Lib.join gs [] = gs.flatten := by
  unfold Lib.join List.intercalate
  induction gs with
  | nil => rfl
  | cons a l ih =>
    cases l with
    | nil => simp
    | cons b m => simp at ih ⊢; exact ih

theorem OwnS.at_ {B : Nat} {w : World} {v : Value} {l : List (List UInt8)} (h : OwnS B w v l) (h0 : l ≠ []) :
    ∃ g cc, v = .slice (some ⟨g, 0, none⟩) l.length cc ∧ l.length ≤ cc ∧ B ≤ g ∧ g < w.heap.size ∧ Sort.Holds encStr w g 0 l.toArray := by
  rcases h.2 with ⟨_, hn⟩ | ⟨g, cap, cur, rfl, hB, hh, hc, _⟩
  · exact absurd (List.eq_nil_of_length_eq_zero hn) h0
  · refine ⟨g, cap, rfl, hc, hB, (Array.getElem?_eq_some_iff.1 hh).1, fun j hj => ?_⟩
    rw [List.size_toArray] at hj
    rw [Nat.zero_add]
    refine ⟨(World.ownsRow.cellAt h j (by omega)).trans ?_, World.ownsRow.frozenAt h j⟩
    simp [strs, hj]

/-- The groups in their order, joined. -/
theorem join_rev {w : World} {g cc : Nat} {gs : List (List UInt8)} (hH : Sort.Holds encStr w g 0 gs.toArray) (hg : g < w.heap.size) (hc : gs.length ≤ cc) (hl : gs.reverse.flatten.length ≤ 300001) (hn : gs.length ≤ 10000000) (k : Nat) :
    Calls Tryz.prog 143 #[.slice (some ⟨g, 0, none⟩) gs.length cc, .string ⟨#[]⟩] (Sort.putRow encStr (Sort.ahead w k) g 0 gs.reverse.toArray) fun e w' => e = .returned (.string ⟨gs.reverse.flatten.toArray⟩) ∧ Below (Sort.putRow encStr (Sort.ahead w k) g 0 gs.reverse.toArray).heap.size (Sort.putRow encStr (Sort.ahead w k) g 0 gs.reverse.toArray) w' := by
  have hH2 := Sort.holds_putRow encStr (Sort.ahead w k) g 0 gs.toArray gs.reverse.toArray hH (by simp)
  have hmap : (gs.reverse.map fun s : List UInt8 => (⟨s.toArray⟩ : ByteArray)).map (·.data.toList) = gs.reverse := by rw [List.map_map]; simp [Function.comp_def]
  have h := Tryz.strings_Join g 0 cc (gs.reverse.map fun s => ⟨s.toArray⟩) ⟨#[]⟩ (Sort.putRow encStr (Sort.ahead w k) g 0 gs.reverse.toArray) (fun j x hx => ?_) (by simpa using hg) (by simp; omega) (by simpa using hc) (by
    rw [hmap, show (⟨#[]⟩ : ByteArray).data.toList = [] from rfl, join_flat]; omega)
  · rw [hmap, show (⟨#[]⟩ : ByteArray).data.toList = [] from rfl, join_flat, List.length_map, List.length_reverse] at h
    exact h
  · rw [List.getElem?_map, Option.map_eq_some_iff] at hx
    obtain ⟨s, hs, rfl⟩ := hx
    have hj : j < gs.reverse.toArray.size := by
      have := (List.getElem?_eq_some_iff.1 hs).1
      simpa using this
    have h2 := (hH2 j hj).1
    rw [h2]
    have h3 : gs.reverse.toArray[j]! = s := by
      rw [getElem!_pos _ j hj]
      have := (List.getElem?_eq_some_iff.1 hs).2
      simpa using this
    rw [h3]

theorem text_step {X : Nat} {D : List UInt8} {gs : List (List UInt8)} (h : D = Lib.decDigits X ++ gs.reverse.flatten) :
    (0 < X / 1000000000 → D = Lib.decDigits (X / 1000000000) ++ (gs ++ [List.replicate (9 - (Lib.decDigits (X % 1000000000)).length) 48 ++ Lib.decDigits (X % 1000000000)]).reverse.flatten) ∧
    (X / 1000000000 = 0 → D = (gs ++ [Lib.decDigits (X % 1000000000)]).reverse.flatten) := by
  constructor
  · intro h1
    rw [h, dec_group (by omega)]
    simp
  · intro h1
    rw [h, Nat.mod_eq_of_lt (by omega)]
    simp

set_option maxRecDepth 100000 in
set_option maxHeartbeats 2000000 in
theorem Text_any (a : ByteArray) (w : World) (ha : a.size ≤ 100000) (ht : Pow10 w) :
    Calls Tryz.prog 86 #[.string a] w fun e w' => e = .returned (.string (decS (sval a))) ∧ Below w.heap.size w w' := by
  have HT := Lib.hid ht
  clear ht
  go_enter Tryz.func86, Tryz.ntmps86
  go_wp2_with fail
  refine (digits_any a _ (by omega)).mono ?_
  rintro e w1 ⟨⟨A0, n0, c0, x0, rfl, hd0, ht0, hv0⟩, hb1⟩
  have hn0 := few hd0 ht0 hv0
  have HV0 := Lib.hid hv0
  clear hv0
  by_cases h0 : n0 = 0
  · subst h0
    have H0 : Hid (sval a = 0) := Lib.hid (by rw [← HV0.out, List.eq_nil_of_length_eq_zero hd0.len]; rfl)
    go_wp2_with fail
    go_ret
    exact ⟨by rw [H0.out, decS_zero]; rfl, hb1⟩
  · have hbz : ((n0 : Int) == 0) = false := by rw [beq_eq_false_iff_ne]; omega
    go_wp2_with fail
    have hlen := dec_bytes a
    have HLEN := Lib.hid hlen
    clear hlen
    go_loopg [3, 4, 5, 6] (val x0) (fun g s3 s4 _ _ wr => ∃ (A : Option Addr) (n c : Nat) (xs : List Nat) (gs : List (List UInt8)), n ≤ n0 ∧ s3 = .slice A n c ∧ Dig wr A n c xs ∧ Trim xs ∧ g = val xs ∧ OwnS w.heap.size wr s4 gs ∧ Hid ((val xs = 0 → gs ≠ []) ∧ gs.length ≤ gs.reverse.flatten.length ∧ Lib.decDigits (sval a) = (if val xs = 0 then [] else Lib.decDigits (val xs)) ++ gs.reverse.flatten) ∧ Below w.heap.size w wr)
    case atStart =>
      have hp : 0 < val x0 := by
        have := ht0.ge (by rw [hd0.len]; omega)
        have := P32_pos (x0.length - 1)
        omega
      exact ⟨A0, n0, c0, x0, [], Nat.le_refl _, rfl, hd0, ht0, rfl, OwnS.nil_ _ _, Lib.hid ⟨fun h => by omega, by simp, by rw [if_neg (by omega), HV0.out]; simp⟩, hb1⟩
    case round =>
      obtain ⟨A, n, c, xs, gs, hn, rfl, hd, htx, hg, hown, HF, hbw⟩ := hrel
      have hgl : gs.length ≤ 10000000 := by
        have h1 := HF.out.2.1
        have h2 := congrArg List.length HF.out.2.2
        rw [List.length_append] at h2
        have h3 := HLEN.out
        omega
      by_cases hn0' : 0 < n
      · have hp : 0 < val xs := by
          have := htx.ge (by rw [hd.len]; omega)
          have := P32_pos (xs.length - 1)
          omega
        have HP := Lib.hid hp
        have HG := Lib.hid hg
        clear hp hg
        go_wp2_with fail
        refine (divideDigit_at _ _ _ xs 1000000000 _ hd (by omega) (by omega) (by omega)).mono ?_
        rintro e w2 ⟨m, c2, zs, rfl, hd2, ht2, hv2, hb2⟩
        obtain ⟨r, hr⟩ : ∃ r, r = val xs % 1000000000 := ⟨_, rfl⟩
        have hrl : r < 1000000000 := by rw [hr]; exact Nat.mod_lt _ (by omega)
        rw [← hr]
        have HR := Lib.hid hr
        have HV2 := Lib.hid hv2
        have hbw2 := below_then hbw hb2
        have hmn : m ≤ n0 := by
          have h1 : m ≤ n := by
            rw [← hd2.len]
            refine ht2.len_le ?_
            rw [hv2]
            refine Nat.lt_of_le_of_lt (Nat.div_le_self _ _) ?_
            have := val_lt hd.lt
            rwa [hd.len] at this
          omega
        clear hr hv2
        go_wp2_with fail
        refine (itoa_nat r _ (by omega) (HT.out.below hbw2)).mono ?_
        rintro e w3 ⟨rfl, hb3⟩
        have hbw3 := below_then hbw2 hb3
        have hown3 := (hown.below hb2).below hb3
        have hgne : ∀ g', Value.ownBlock _ = some g' → g' < wr.heap.size := fun g' hg' => (World.ownsRow.lt hown g' hg').2
        have hLr := dec_len 8 r (by omega)
        obtain ⟨gS, hgS⟩ : ∃ gS : ByteArray, gS = ⟨(Lib.decDigits r).toArray⟩ := ⟨_, rfl⟩
        rw [← hgS]
        have hsz : gS.size = (Lib.decDigits r).length := by rw [hgS]; show (Lib.decDigits r).toArray.size = _; simp
        rw [← hsz] at hLr
        have hL9 := hLr.1
        have hL1 := hLr.2
        have HGS := Lib.hid hgS
        have HSZ := Lib.hid hsz
        have HGN := Lib.hid hgne
        have hd3 := hd2.below hb3
        clear hgS hsz hLr hgne
        by_cases hm0 : 0 < m
        · obtain ⟨cnt, hcnt⟩ : ∃ cnt, cnt = 9 - gS.size := ⟨_, rfl⟩
          have hcr : (9 : Int) - (gS.size : Int) = (cnt : Int) := by omega
          have HCNT := Lib.hid hcnt
          clear hcnt
          go_wp2_with fail
          refine (Tryz.strings_Repeat ⟨#[48]⟩ cnt _ (by omega) (by show 1 * cnt ≤ _; omega)).mono ?_
          rintro e w4 ⟨rfl, hb4⟩
          have hbw4 := below_then hbw3 hb4
          have hown4 := hown3.below hb4
          have hd4 := hd3.below hb4
          obtain ⟨sR, hsR⟩ : ∃ sR : ByteArray, sR = ⟨(Lib.repeatL (⟨#[48]⟩ : ByteArray).data.toList cnt).toArray⟩ := ⟨_, rfl⟩
          rw [← hsR]
          have hsRl : sR.size ≤ 9 := by
            rw [hsR]
            show (Lib.repeatL [48] cnt).toArray.size ≤ 9
            rw [List.size_toArray, Lib.repeatL_length]
            have := HCNT.out
            simp; omega
          have HDS : Hid (sR ++ gS = ⟨(List.replicate (9 - (Lib.decDigits r).length) 48 ++ Lib.decDigits r).toArray⟩) := Lib.hid (by
            rw [hsR, show (⟨#[48]⟩ : ByteArray).data.toList = [48] from rfl, repeat48, HGS.out, HCNT.out, HSZ.out]
            apply ByteArray.ext
            simp)
          clear hsR
          go_wp2_with (at_builtin; refine wp_appendS rfl _ _ rfl HDS.out rfl hown4 rfl hgl hbw4 ?_; intro v1 w5 hown5 hb5 hg5)
          have hst := (text_step (X := val xs) (D := Lib.decDigits (sval a)) (gs := gs) (by have := HF.out.2.2; rwa [if_neg (by have := HP.out; omega)] at this)).1
          have HZP : Hid (0 < val zs) := Lib.hid (by
            have := ht2.ge (by rw [hd2.len]; omega)
            have := P32_pos (zs.length - 1)
            omega)
          go_roundg (val zs)
          case measure => rw [HV2.out, HG.out]; exact Nat.div_lt_self HP.out (by omega)
          case rel =>
            refine ⟨_, m, c2, zs, gs ++ [List.replicate (9 - (Lib.decDigits r).length) 48 ++ Lib.decDigits r], hmn, rfl, dig_grown hd4 hg5 (fun e => by have := HGN.out _ e.symm; omega), ht2, rfl, hown5, Lib.hid ⟨fun _ => by simp, ?_, ?_⟩, hb5⟩
            · have h1 := HF.out.2.1
              have h2 := HSZ.out
              simp at h1 ⊢
              omega
            · rw [if_neg (by have := HZP.out; omega), HV2.out, HR.out]
              exact hst (by rw [← HV2.out]; exact HZP.out)
        · have hzz : zs = [] := List.eq_nil_of_length_eq_zero (by rw [hd2.len]; omega)
          have HZZ : Hid (val zs = 0) := Lib.hid (by rw [hzz]; rfl)
          clear hzz
          have HDS : Hid (gS = ⟨(Lib.decDigits r).toArray⟩) := HGS
          go_wp2_with (at_builtin; refine wp_appendS rfl _ _ rfl HDS.out rfl hown3 rfl hgl hbw3 ?_; intro v1 w5 hown5 hb5 hg5)
          have hst := (text_step (X := val xs) (D := Lib.decDigits (sval a)) (gs := gs) (by have := HF.out.2.2; rwa [if_neg (by have := HP.out; omega)] at this)).2
          go_roundg (val zs)
          case measure => rw [HV2.out, HG.out]; exact Nat.div_lt_self HP.out (by omega)
          case rel =>
            refine ⟨_, m, c2, zs, gs ++ [Lib.decDigits r], hmn, rfl, dig_grown hd3 hg5 (fun e => by have := HGN.out _ e.symm; omega), ht2, rfl, hown5, Lib.hid ⟨fun _ => by simp, ?_, ?_⟩, hb5⟩
            · have h1 := HF.out.2.1
              have h2 := HSZ.out
              simp at h1 ⊢
              omega
            · rw [if_pos HZZ.out, List.nil_append, HR.out]
              exact hst (by rw [← HV2.out]; exact HZZ.out)
      · obtain rfl : n = 0 := by omega
        have hxs : xs = [] := List.eq_nil_of_length_eq_zero hd.len
        have hv0 : val xs = 0 := by rw [hxs]; rfl
        have hF := HF.out
        rw [if_pos hv0, List.nil_append] at hF
        have hne := hF.1 hv0
        have HE := Lib.hid hF.2.2
        have hfl : gs.reverse.flatten.length ≤ 300001 := by rw [← hF.2.2]; have := HLEN.out; omega
        clear hF hxs hv0 hg
        obtain ⟨g, cc, rfl, hcc, hbg, hglt, hH⟩ := hown.at_ hne
        have HH := Lib.hid hH
        clear hH hne
        go_wp2_with fail
        refine (Tryz.slices_Reverse_string g 0 cc gs _ HH.out (by omega)).mono ?_
        rintro e w2 ⟨rfl, k, rfl⟩
        have hbr : Below w.heap.size w (Sort.putRow encStr (Sort.ahead wr k) g 0 gs.reverse.toArray) := by
          have hg := grownBy_sorted (w := wr) (g := g) (n := k) (os := #[]) gs.reverse.toArray
          rw [Sort.grow_empty] at hg
          exact hbw.grown hg hbw.size (fun j hj => by cases hj; exact hbg)
        have HJ := Lib.hid (join_rev HH.out hglt hcc hfl hgl k)
        generalize Sort.putRow encStr (Sort.ahead wr k) g 0 gs.reverse.toArray = w2 at hbr HJ ⊢
        go_wp2_with fail
        refine HJ.out.mono ?_
        rintro e w3 ⟨rfl, hb3⟩
        go_wp2_with fail
        go_ret
        exact ⟨by rw [← HE.out]; rfl, below_then hbr hb3⟩

end Go.Proofs.YtebgmlbbilcbbaaGreatDoor
