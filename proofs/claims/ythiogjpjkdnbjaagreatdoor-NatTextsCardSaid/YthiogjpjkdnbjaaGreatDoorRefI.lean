/- The reference's Mul: what it returns. -/
import Derived.Test.YthiogjpjkdnbjaaGreatDoorRefH
namespace Go.Proofs.YthiogjpjkdnbjaaGreatDoor
open Go.RowKit

/-- Cells that hold ints. -/
def i64a (l : List Nat) : Array Value := (i64s l).toArray
theorem i64a_get {l : List Nat} {i d : Nat} (h : l[i]? = some d) : (i64a l)[i]? = some (.int .i64 (d : Int)) := by simp [i64a, i64s, h]
theorem i64a_set (l : List Nat) (i d : Nat) : (i64a l).setIfInBounds i (.int .i64 (d : Int)) = i64a (l.set i d) := by simp [i64a, i64s, List.map_set]
theorem i64a_made (n : Nat) : madeCells #[.int .i64 0] n = i64a (List.replicate n 0) := by
  apply Array.toList_inj.1
  rw [toList_madeCells_one]
  simp [i64a, i64s]
theorem Blk.i64 {w : World} {g : Nat} {t : TypeId} {l : List Nat} (h : Blk w g t (i64a l)) {i d : Nat} (hd : l[i]? = some d) : w.cell? ⟨g, i, none⟩ = some (.int .i64 (d : Int)) := (h.cell i).trans (i64a_get hd)
theorem Blk.put64 {w : World} {g : Nat} {t : TypeId} {l : List Nat} (h : Blk w g t (i64a l)) (i d : Nat) : Blk (w.setCell ⟨g, i, none⟩ (.int .i64 (d : Int))) g t (i64a (l.set i d)) := by
  have := h.set_ i (.int .i64 (d : Int))
  rwa [i64a_set] at this
theorem Blk.idg {w : World} {g : Nat} {t : TypeId} {l : List Nat} (h : Blk w g t (i64a l)) (hl : R.Lt24 l) {n c : Nat} (hn : l.length = n) (hc : n ≤ c) : IDg w (some ⟨g, 0, none⟩) n c l :=
  ⟨hn, hc, hl, fun _ => ⟨g, 0, rfl, fun j d hd => by rw [Nat.zero_add]; exact h.i64 hd⟩⟩

theorem make_int (n : Nat) (hn : n ≤ 10000000) (w : World) :
    (Instr.makeSlice 46 (.int .i64 (n : Int)) (.int .i64 (n : Int))).run Tryz.prog w = .ok (.slice (some ⟨w.heap.size, 0, none⟩) n n) (w.alloc (.cells (i64a (List.replicate n 0)) 3)) := by
  rw [← i64a_made]
  exact run_make_row' 46 3 (.int .i64 0) 8 Tryz.underlying46 int_info rfl .i64 .i64 n (by omega) (by omega) w

theorem iget_of_lt {xs : List Nat} {k : Nat} (h : k < xs.length) : ∃ d, xs[k]? = some d := ⟨_, List.getElem?_eq_getElem h⟩

set_option maxRecDepth 100000 in
set_option maxHeartbeats 400000 in
theorem rMul_small (a b : ByteArray) (w : World) (ha : a.size ≤ 100000) (hb : b.size ≤ 100000) (h1 : sval a < P8 3) (h2 : sval b < P8 4) :
    Calls Tryz.prog 16 #[.string a, .string b] w fun e w' => e = .returned (.string (natS (sval a * sval b))) ∧ Below w.heap.size w w' := by
  have HA := Lib.hid (small_yes a 3 (by omega) ha h1)
  have HB := Lib.hid (small_yes b 4 (by omega) hb h2)
  obtain ⟨p, hp⟩ : ∃ p, p = sval a * sval b := ⟨_, rfl⟩
  have hpl : p ≤ 16777216 * 4294967296 := by
    rw [hp]
    exact Nat.mul_le_mul (Nat.le_of_lt (show sval a < 16777216 from h1)) (Nat.le_of_lt (show sval b < 4294967296 from h2))
  have hmul : (sval a : Int) * (sval b : Int) = (p : Int) := by rw [hp]; simp
  rw [← hp]
  clear hp h1 h2
  go_enter Tryz.func16, Tryz.ntmps16
  go_wp2_with fail
  refine (HA.out _).mono ?_
  rintro e w' ⟨rfl, rfl⟩
  go_wp2_with fail
  refine (HB.out _).mono ?_
  rintro e w' ⟨rfl, rfl⟩
  go_wp2_with fail
  refine (rOf _ _ (by omega)).mono ?_
  rintro e w' ⟨rfl, hb1⟩
  rw [Int.toNat_natCast]
  go_wp2_with fail
  go_ret
  exact ⟨rfl, hb1⟩

set_option maxRecDepth 100000 in
set_option maxHeartbeats 4000000 in
theorem rMul_big (a b : ByteArray) (w : World) (ha : a.size ≤ 100000) (hb : b.size ≤ 100000) (hbig : ¬ (sval a < P8 3 ∧ sval b < P8 4)) :
    Calls Tryz.prog 16 #[.string a, .string b] w fun e w' => e = .returned (.string (natS (sval a * sval b))) ∧ Below w.heap.size w w' := by
  have hcase := small_ways a b 3 4 (by omega) (by omega) ha hb hbig
  clear hbig
  rcases hcase with ⟨x0, y0, q, hA, hB⟩ | ⟨x0, y0, hA, hB⟩
  all_goals
    have HA := Lib.hid hA
    have HB := Lib.hid hB
    clear hA hB
    go_enter Tryz.func16, Tryz.ntmps16
    go_wp2_with fail
    refine (HA.out _).mono ?_
    rintro e w' ⟨rfl, rfl⟩
    go_wp2_with fail
    refine (HB.out _).mono ?_
    rintro e w' ⟨rfl, rfl⟩
    go_wp2_with fail
    refine (rOf_ a _ ha).mono ?_
    rintro e w1 ⟨⟨A, n, c, xs, rfl, hu, htu, hvu⟩, hb1⟩
    have hn : n ≤ a.size := ifew hu htu (by rw [hvu]; exact sval_lt a)
    have HVU := Lib.hid hvu
    clear hvu
    go_wp2_with fail
    refine (rOf_ b _ hb).mono ?_
    rintro e w2 ⟨⟨B, m, d, ys, rfl, k, htv, hvv⟩, hb2⟩
    have hm : m ≤ b.size := ifew k htv (by rw [hvv]; exact sval_lt b)
    have HVV := Lib.hid hvv
    clear hvv
    have hb12 := below_then hb1 hb2
    have h := hu.below hb2
    clear hb1 hb2 hu
    obtain ⟨N, hN⟩ : ∃ N, N = n + m := ⟨_, rfl⟩
    have hNl : N ≤ 200000 := by omega
    have hmk := make_int N (by omega)
    rw [show (N : Int) = (n : Int) + (m : Int) by omega] at hmk
    have HN := Lib.hid hN
    clear hN
    go_wp2_with fail
    go_loopw [12, 13, 14, 15] (fun s12 _ _ _ wr => ∃ (i : Nat) (zs : List Nat), i ≤ n ∧ s12 = .int .i64 (i : Int) ∧ R.Lt24 zs ∧ Hid (zs.length = N ∧ (∀ j z : Nat, i + m ≤ j → zs[j]? = some z → z = 0) ∧ R.val zs = R.val (xs.take i) * R.val ys) ∧ Blk wr w2.heap.size 3 (i64a zs) ∧ Below w2.heap.size w2 wr) (fun s12 _ _ _ _ => n - (intOf s12).toNat)
    case atStart =>
      exact ⟨0, List.replicate N 0, by omega, rfl, R.Lt24.zeros _, Lib.hid ⟨by simp, (fun j z _ hz => by rw [List.getElem?_replicate] at hz; split at hz <;> simp_all), by rw [R.val_zeros]; simp [R.val]⟩, Blk.new _ _ _, (Below.refl _ _).alloc (Nat.le_refl _) _⟩
    case round =>
      obtain ⟨i, zs, hi, rfl, hlt, HI, hbk, hbw⟩ := hrel
      by_cases hin : i < n
      · obtain ⟨bx, ox, x, rfl, hx, hxl, hxc0⟩ := (h.below hbw).get hin
        have HX := Lib.hid hx
        clear hx hxc0
        obtain ⟨wo, hwo⟩ : ∃ wo : World, wo = wr := ⟨_, rfl⟩
        subst hwo
        go_wp2_with fail
        go_loopw [13, 14, 15] (fun s13 s14 _ wr => ∃ (j cy : Nat) (qs : List Nat), j ≤ m ∧ s14 = .int .i64 (j : Int) ∧ s13 = .int .i64 (cy : Int) ∧ cy < 16777216 ∧ R.Lt24 qs ∧ Hid (qs.length = N ∧ (∀ j z : Nat, i + m ≤ j → qs[j]? = some z → z = 0) ∧ R.val qs + R.P24 (i + j) * cy = R.val zs + R.P24 i * x * R.val (ys.take j)) ∧ Blk wr w2.heap.size 3 (i64a qs) ∧ Below w2.heap.size w2 wr) (fun _ s14 _ _ => m - (intOf s14).toNat)
        case atStart => exact ⟨0, 0, zs, by omega, rfl, rfl, by omega, hlt, Lib.hid ⟨HI.out.1, HI.out.2.1, by simp [R.val]⟩, hbk, hbw⟩
        case round =>
          obtain ⟨j, cy, qs, hj, rfl, rfl, hcy, hqt, HJ, hbk2, hb2⟩ := hrel
          by_cases hjm : j < m
          · obtain ⟨b2, o2, y, rfl, hy, hyl, hyc⟩ := (k.below hb2).get hjm
            have HY := Lib.hid hy
            clear hy
            obtain ⟨bx', ox', x', hbo, hx', hxl', hxc⟩ := (h.below hb2).get hin
            have ebo : (⟨bx, ox, none⟩ : Addr) = ⟨bx', ox', none⟩ := by simpa using hbo
            cases ebo
            obtain rfl : x = x' := by have := HX.out; rw [this] at hx'; simpa using hx'
            clear hx' hbo hxl'
            obtain ⟨p, hp⟩ : ∃ p, p = i + j := ⟨_, rfl⟩
            obtain ⟨z, hz⟩ := iget_of_lt (xs := qs) (k := p) (by rw [HJ.out.1, HN.out]; omega)
            have hzl := hqt _ _ hz
            have hzc := hbk2.i64 hz
            have hzf := hbk2.frozen p
            have hw1 : IntKind.i64.wrap ((i : Int) + (j : Int)) = (p : Int) := by rw [IntWalk.i64_in _ (by omega)]; omega
            have hw1' : (i : Int) + (j : Int) = (p : Int) := by omega
            have hp0 : (0 : Int) ≤ (p : Int) := by omega
            have hpN : (p : Int) < (N : Int) := by rw [HN.out]; omega
            have hpN2 : p < N := by omega
            have hin2 : (i : Int) < (n : Int) := by omega
            have hjm2 : (j : Int) < (m : Int) := by omega
            have hi0 : (0 : Int) ≤ (i : Int) := by omega
            have hj0 : (0 : Int) ≤ (j : Int) := by omega
            have hmb := mul_bd y hxl
            obtain ⟨xy, hxy⟩ : ∃ xy, xy = x * y := ⟨_, rfl⟩
            rw [← hxy] at hmb
            have hmul : IntKind.i64.wrap ((x : Int) * (y : Int)) = (xy : Int) := by
              rw [show (x : Int) * (y : Int) = (xy : Int) by rw [hxy]; simp]
              exact IntWalk.i64_in _ (by omega)
            obtain ⟨s1, hs1⟩ : ∃ s1, s1 = z + xy := ⟨_, rfl⟩
            have hsum1 : IntKind.i64.wrap ((z : Int) + (xy : Int)) = (s1 : Int) := by rw [IntWalk.i64_in _ (by omega)]; omega
            obtain ⟨s, hs⟩ : ∃ s, s = cy + (x * y + z) := ⟨_, rfl⟩
            have hsum2 : IntKind.i64.wrap ((s1 : Int) + (cy : Int)) = (s : Int) := by rw [IntWalk.i64_in _ (by omega), hs, ← hxy]; omega
            have hsl : s ≤ 16777216 * 16777216 := by rw [hs, ← hxy]; omega
            have hmst := R.mul_step (qs := qs) (i := i) (j := j) (cy := cy) (x := x) (y := y) (z := z) (by rw [← hp]; exact hz) HJ.out.2.2
            rw [← hs, ← hp] at hmst
            obtain ⟨r, hr⟩ : ∃ r, r = s % 16777216 := ⟨_, rfl⟩
            obtain ⟨q2, hq⟩ : ∃ q, q = s / 16777216 := ⟨_, rfl⟩
            have hrr : (s : Int) % 16777216 = (r : Int) := by omega
            have hqq : (s : Int) / 16777216 = (q2 : Int) := by omega
            have hrl : r < 16777216 := by omega
            have hql : q2 < 16777216 := by
              have : xy + y ≤ 16777216 * 16777215 := Nat.le_trans hmb (Nat.mul_le_mul_left _ (by omega))
              rw [hq, hs, ← hxy]; omega
            rw [← hr, ← hq] at hmst
            have HST := Lib.hid hmst
            have HP := Lib.hid hp
            clear hmst hr hq hs hs1 hxy hp hz hmb
            go_upto_region 15 with fail
            go_quiet (fail)
            clear hw1 hmul hsum1 hsum2
            go_wp2_with fail
            go_roundw
            case rel =>
              refine ⟨j + 1, q2, qs.set p r, by omega, by go_num, rfl, hql, hqt.set hrl, Lib.hid ⟨by simp [HJ.out.1], (fun j' z' hj' hz' => ?_), ?_⟩, ?_, ?_⟩
              · have := HP.out
                rw [List.getElem?_set_ne (by omega)] at hz'
                exact HJ.out.2.1 j' z' hj' hz'
              · rw [R.val_take_succ HY.out]
                exact HST.out
              · exact Blk.put64 (w := World.drewN _ _) hbk2 p r
              · exact (below_drewN hb2 _).setCell (Nat.le_refl _) _
            case measure => simp [intOf]; omega
          · obtain rfl : m = j := by omega
            obtain ⟨p, hp⟩ : ∃ p, p = i + m := ⟨_, rfl⟩
            obtain ⟨z, hz⟩ := iget_of_lt (xs := qs) (k := p) (by rw [HJ.out.1, HN.out]; omega)
            obtain rfl : z = 0 := HJ.out.2.1 _ _ (by omega) hz
            have hzc := hbk2.i64 hz
            have hzf := hbk2.frozen p
            have hw1' : (i : Int) + (m : Int) = (p : Int) := by omega
            have hpN : (p : Int) < (N : Int) := by rw [HN.out]; omega
            have hpN2 : p < N := by omega
            have hp0 : (0 : Int) ≤ (p : Int) := by omega
            have HZ := Lib.hid hz
            have HP := Lib.hid hp
            clear hz hp
            go_wp2_with fail
            go_roundw
            case rel =>
              refine ⟨i + 1, qs.set p cy, by omega, by go_num, hqt.set hcy, Lib.hid ⟨by simp [HJ.out.1], (fun j' z' hj' hz' => ?_), ?_⟩, hbk2.put64 _ _, hb2.setCell (Nat.le_refl _) _⟩
              · have := HP.out
                rw [List.getElem?_set_ne (by omega)] at hz'
                exact HJ.out.2.1 j' z' (by omega) hz'
              · have e := R.val_set HZ.out cy
                have e2 := HJ.out.2.2
                rw [R.val_take_all (by rw [k.len]; omega), ← HP.out] at e2
                rw [R.val_take_succ HX.out, Nat.add_mul, ← HI.out.2.2]
                omega
            case measure => simp [intOf]; omega
      · obtain rfl : n = i := by omega
        have hdg := hbk.idg hlt (n := N) (c := N) HI.out.1 (Nat.le_refl _)
        go_wp2_with fail
        refine (rnumber _ _ _ _ _ hdg (by omega)).mono ?_
        rintro e w4 ⟨rfl, hb4⟩
        go_wp2_with fail
        go_ret
        have h3 := HI.out.2.2
        rw [R.val_take_all (by rw [h.len]; omega), HVU.out, HVV.out] at h3
        exact ⟨by rw [h3]; rfl, below_then (below_then hb12 hbw) hb4⟩

theorem rMul (a b : ByteArray) (w : World) (ha : a.size ≤ 100000) (hb : b.size ≤ 100000) :
    Calls Tryz.prog 16 #[.string a, .string b] w fun e w' => e = .returned (.string (natS (sval a * sval b))) ∧ Below w.heap.size w w' := by
  by_cases h : sval a < P8 3 ∧ sval b < P8 4
  · exact rMul_small a b w ha hb h.1 h.2
  · exact rMul_big a b w ha hb h

end Go.Proofs.YthiogjpjkdnbjaaGreatDoor
