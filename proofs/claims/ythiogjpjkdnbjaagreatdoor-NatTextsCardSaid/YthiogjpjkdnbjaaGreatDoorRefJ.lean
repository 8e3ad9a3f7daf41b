/- The reference's digit; append of a slice onto one of the call's own. -/
import Derived.Test.YthiogjpjkdnbjaaGreatDoorRefI
import Derived.Deep.RegionHeld
namespace Go.Proofs.YthiogjpjkdnbjaaGreatDoor
open Go.RowKit

theorem div_between {U V lo : Nat} (h1 : V * lo ≤ U) (h2 : U < V * (lo + 1)) : lo = U / V := by
  refine (Nat.div_eq_of_lt_le ?_ ?_).symm
  · rw [Nat.mul_comm]; exact h1
  · rw [Nat.mul_comm]; exact h2

set_option maxRecDepth 100000 in
set_option maxHeartbeats 1000000 in
theorem rdigit (A : Option Addr) (n c : Nat) (us : List Nat) (B : Option Addr) (m d : Nat) (vs : List Nat) (w : World) (h : IDg w A n c us) (k : IDg w B m d vs) (tu : R.Trim us) (hn : n ≤ 300000) (hm : m ≤ 300000) (hlt : R.val us < R.val vs * 16777216) :
    Calls Tryz.prog 51 #[.slice A n c, .slice B m d] w fun e w' => e = .returned (.int .i64 ((R.val us / R.val vs : Nat) : Int)) ∧ Below w.heap.size w w' := by
  have HLT := Lib.hid hlt
  clear hlt
  go_enter Tryz.func51, Tryz.ntmps51
  go_wp2_with fail
  go_loopw [5, 6, 7] (fun s5 s6 _ wr => ∃ lo hi : Nat, lo ≤ hi ∧ hi ≤ 16777215 ∧ s5 = .int .i64 (lo : Int) ∧ s6 = .int .i64 (hi : Int) ∧ Hid (R.val vs * lo ≤ R.val us ∧ R.val us < R.val vs * (hi + 1)) ∧ Below w.heap.size w wr) (fun s5 s6 _ _ => (intOf s6 - intOf s5).toNat)
  case atStart => exact ⟨0, 16777215, by omega, by omega, rfl, rfl, Lib.hid ⟨by omega, HLT.out⟩, Below.refl _ _⟩
  case round =>
    obtain ⟨lo, hi, hle, hhi, rfl, rfl, HI, hb⟩ := hrel
    by_cases h0 : lo < hi
    · obtain ⟨md, hmd⟩ : ∃ md, md = (lo + hi + 1) / 2 := ⟨_, rfl⟩
      have hrule : ((lo : Int) + (hi : Int) + 1) / 2 = (md : Int) := by omega
      have hm1 : lo < md := by omega
      have hm2 : md ≤ hi := by omega
      clear hmd
      go_wp2_with fail
      have HR := Lib.hid hrule
      clear hrule
      refine (rtimes _ _ _ vs md _ (k.below hb) (by omega) (by omega)).mono ?_
      rintro e w1 ⟨⟨A1, n1, c1, ts, rfl, ht1, htt, hvt⟩, hb1⟩
      have hn1 : n1 ≤ m + 1 := by
        rw [← ht1.len]
        refine htt.len_le ?_
        rw [hvt, R.P24_succ, Nat.mul_comm]
        exact Nat.mul_lt_mul'' (by omega) (by have := R.val_lt k.lt; rwa [k.len] at this)
      have HVT := Lib.hid hvt
      clear hvt
      go_wp2_with fail
      refine (rcmp _ _ _ _ _ _ _ us _ ht1 ((h.below hb).below hb1) (by omega) (by omega) htt tu).mono ?_
      rintro e w2 ⟨⟨r, rfl, hr1, hr2, hr3⟩, hb2⟩
      rw [HVT.out] at hr1 hr2 hr3
      have HS := Lib.hid (And.intro hr1 (And.intro hr2 hr3))
      clear hr1 hr2 hr3
      have hb12 := below_then (below_then hb hb1) hb2
      by_cases hr : r ≤ 0
      · have HX : Hid (R.val vs * md ≤ R.val us) := Lib.hid (by
          rcases Nat.lt_or_ge (R.val us) (R.val vs * md) with hh | hh
          · have := HS.out.2.2 hh; omega
          · exact hh)
        go_wp2_with fail
        go_roundw
        case rel => exact ⟨md, hi, hm2, hhi, by rw [HR.out], rfl, Lib.hid ⟨HX.out, HI.out.2⟩, hb12⟩
        case measure => simp [intOf]; omega
      · have HX : Hid (R.val us < R.val vs * md) := Lib.hid (by
          rcases Nat.lt_trichotomy (R.val vs * md) (R.val us) with hh | hh | hh
          · have := HS.out.1 hh; omega
          · have := HS.out.2.1 hh; omega
          · exact hh)
        go_wp2_with fail
        go_roundw
        case rel => exact ⟨lo, md - 1, by omega, by omega, rfl, by rw [HR.out]; congr 1; omega, Lib.hid ⟨HI.out.1, by rw [show md - 1 + 1 = md by omega]; exact HX.out⟩, hb12⟩
        case measure => simp [intOf]; omega
    · obtain rfl : lo = hi := by omega
      have HD := Lib.hid (div_between HI.out.1 HI.out.2)
      go_wp2_with fail
      go_ret
      exact ⟨by rw [← HD.out]; rfl, hb⟩

theorem own_one (w0 wo : World) (hb : w0.heap.size ≤ wo.heap.size) (x : Nat) : Own24 w0.heap.size (wo.alloc (.cells #[.int .i64 (x : Int)] 3)) (.slice (some ⟨wo.heap.size, 0, none⟩) 1 1) [x] :=
  ⟨rfl, .inr ⟨wo.heap.size, 1, #[.int .i64 (x : Int)], rfl, hb, heap_alloc_new _ _, Nat.le_refl _, by decide, rfl, rfl⟩⟩

theorem Own24.at_ {B : Nat} {w : World} {v : Value} {xs : List Nat} (h : Own24 B w v xs) (hl : R.Lt24 xs) (h0 : 0 < xs.length) : ∃ g c, v = .slice (some ⟨g, 0, none⟩) xs.length c ∧ B ≤ g ∧ IDg w (some ⟨g, 0, none⟩) xs.length c xs := by
  obtain ⟨A, c, rfl, hd⟩ := h.dig hl
  obtain ⟨b, o, rfl, _⟩ := hd.at_ h0
  rcases h.2 with ⟨h1, _⟩ | ⟨g, cap, cur, h1, h2, _⟩
  · cases h1
  · injection h1 with h3 h4 h5
    cases h3
    exact ⟨_, c, rfl, h2, hd⟩

theorem idg_far {w : World} {A : Option Addr} {n c : Nat} {xs : List Nat} (h : IDg w A n c xs) {p : Addr} (hp : ∀ b o, A = some ⟨b, o, none⟩ → b ≠ p.block) (u : Value) : IDg (w.setCell p u) A n c xs := by
  refine ⟨h.len, h.cap, h.lt, fun hn => ?_⟩
  obtain ⟨b, o, e, hc⟩ := h.at_ hn
  exact ⟨b, o, e, fun j d hd => (World.cell?_setCell_far w p ⟨b, o + j, none⟩ u (fun e2 => hp b o e e2.symm)).trans (hc j d hd)⟩

/-- append of an empty slice whose address is nil changes nothing. -/
theorem run_append_nilc {P : Program} (w : World) (base : Nat) (t ty e : TypeId) (i : TypeInfo) (size : Nat) (ht : P.underlying t = some (.slice e)) (hi : P.info? e = some i)
    (v : Value) (n : Nat) (xs : List Value) (hown : w.ownsRow base e size v n xs) (c : Nat) : (Builtin.append_ #[t, t] ty #[v, .slice none 0 c]).run P w = .ok v w := by
  rcases hown.2 with ⟨rfl, rfl⟩ | ⟨g, cap, cur, rfl, _, _, hnc, _⟩
  · simp [Builtin.append_, run_underlying ht, sizeOf, typeInfo, hi, Builtin.lenOf, Builtin.firstCells]
  · simp [Builtin.append_, run_underlying ht, sizeOf, typeInfo, hi, Builtin.lenOf, Builtin.firstCells, hnc, storeCells]

/-- append of a slice of digits onto a slice of the call's own. -/
theorem wp_append24s {ops : Array Oper} {rest : List Oper} {o : Oper} {a : Act} {Q : Exit → Act → World → Prop} (hgd : o.guard = none) (s x : Operand)
    (ho : o.op = .call { callee := .builtin .append, args := #[s, x], argTypes := #[46, 46] }) {w0 wo : World} {v : Value} {ds : List Nat} {A : Option Addr} {n c : Nat} {xs : List Nat} (hs : a.eval s = v) (hown : Own24 w0.heap.size wo v ds)
    (hx : a.eval x = .slice A n c) (hsrc : IDg wo A n c xs) (hl : ds.length ≤ 1000000) (hn : n ≤ 1000000) (hb : Below w0.heap.size w0 wo)
    (h : ∀ v' w', Own24 w0.heap.size w' v' (ds ++ xs) → Below w0.heap.size w0 w' → wpList Tryz.prog ops Q rest (a.put o.dst v') w') :
    wpList Tryz.prog ops Q (o :: rest) a wo := by
  obtain ⟨i0, hi0, hz0, hz1, hz2⟩ := info_parts int_info
  have hbs : w0.heap.size ≤ wo.heap.size := hb.size
  have hfin : ∀ v' w', w'.ownsRow w0.heap.size 3 1 v' (ds.length + n) (i64s ds ++ i64s xs) → wo.grownBy w' v.ownBlock → wpList Tryz.prog ops Q rest (a.put o.dst v') w' := by
    intro v' w' ho' hg'
    refine h v' w' ?_ (hb.grown hg' hbs (own_base hown))
    unfold Own24
    rw [List.length_append, hsrc.len, show i64s (ds ++ xs) = i64s ds ++ i64s xs by simp [i64s]]
    exact ho'
  have hone : ∀ u ∈ i64s xs, u.oneCell' = true := by
    intro u hu
    simp only [i64s, List.mem_map] at hu
    obtain ⟨b, _, rfl⟩ := hu
    rfl
  cases A with
  | none =>
    have hn0 : n = 0 := by
      rcases Nat.eq_zero_or_pos n with h0 | h0
      · exact h0
      · obtain ⟨b, o, e, _⟩ := hsrc.at_ h0; cases e
    have hx0 : xs = [] := List.eq_nil_of_length_eq_zero (by rw [hsrc.len, hn0])
    subst hn0 hx0
    have hrun := run_append_nilc wo w0.heap.size 46 o.type 3 i0 1 Tryz.underlying46 hi0 v ds.length (i64s ds) hown c
    refine wpList_plain hgd fun K hK => ?_
    unfold Oper.wp
    simp only [execOp, ho, resolve, invoke, builtin, Sem.run_bind, Sem.run_pure, Result.andThen_ok, List.map_toArray, List.map_cons, List.map_nil, hs, hx, hrun]
    exact hK _ _ (h v wo (by rw [List.append_nil]; exact hown) hb)
  | some ad =>
    refine wpList_append_own _ hgd s x 46 ho w0.heap.size 3 i0 (.int .i64 0) 1 8 Tryz.underlying46 hi0 hz0 hz1 hz2 rfl (by decide) v ds.length (i64s ds) hs hown ad n c (i64s xs) hx (by rw [i64s_len, hsrc.len, Nat.mul_one]) ?_ hone ?_ ?_ hbs ?_
    · intro j u hu
      have hj : j < xs.length := by
        have := (List.getElem?_eq_some_iff.1 hu).1
        rwa [i64s_len] at this
      obtain ⟨b, o, e, hc⟩ := hsrc.at_ (by have := hsrc.len; omega)
      cases e
      rw [add_addr]
      simp only [i64s, List.getElem?_map, Option.map_eq_some_iff] at hu
      obtain ⟨d, hd, rfl⟩ := hu
      exact hc j d hd
    · unfold maxLen; omega
    · omega
    · intro v' w' ho' hg' _
      exact hfin v' w' ho' hg'

end Go.Proofs.YthiogjpjkdnbjaaGreatDoor
