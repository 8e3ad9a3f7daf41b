/- estimate by values; divide: the short ways. -/
import Derived.Test.YthiogjpjkdnbjaaGreatDoorNatC
import Derived.Test.YthiogjpjkdnbjaaGreatDoorNatD
import Derived.Test.YthiogjpjkdnbjaaGreatDoorNatE
import Derived.Test.YthiogjpjkdnbjaaGreatDoorNatG
import Derived.Test.YthiogjpjkdnbjaaGreatDoorNatH
import Derived.Test.YthiogjpjkdnbjaaGreatDoorPlainDiv
import Derived.Deep.RegionWith
namespace Go.Proofs.YthiogjpjkdnbjaaGreatDoor
open Go.RowKit

theorem estimate_any (g j n cu gv cv : Nat) (L vs : List Nat) (w : World) (hg : Blk w g 52 (u32s L)) (hL : Lt32 L) (hj : j + n + 1 ≤ L.length) (hv : Blk w gv 52 (u32s vs)) (hV : Lt32 vs) (hvl : vs.length = n + 1) (hn2 : 2 ≤ n) (hnb : n ≤ 1000000)
    (hpos : ∃ v1, vs[n - 1]? = some v1 ∧ 0 < v1) (hlt : val ((L.drop j).take (n + 1)) < 4294967296 * val (vs.take n)) :
    Calls Tryz.prog 72 #[.slice (some ⟨g, j, none⟩) (n + 1) cu, .slice (some ⟨gv, 0, none⟩) (n + 1) cv] w fun e w' => ∃ t : Nat, e = .returned (.int .u64 (t : Int)) ∧ val ((L.drop j).take (n + 1)) / val (vs.take n) ≤ t ∧ t ≤ val ((L.drop j).take (n + 1)) / val (vs.take n) + 1 ∧ t < 4294967296 ∧ ∃ k, w' = w.drewN k := by
  obtain ⟨m, rfl⟩ : ∃ m, n = m + 2 := ⟨n - 2, by omega⟩
  obtain ⟨v1, hv1, h1⟩ := hpos
  rw [show m + 2 - 1 = m + 1 by omega] at hv1
  have gu : ∀ i, i < m + 3 → ∃ u, L[j + i]? = some u := fun i hi => ⟨_, List.getElem?_eq_getElem (by omega)⟩
  obtain ⟨u0, hu0⟩ := gu m (by omega)
  obtain ⟨u1, hu1⟩ := gu (m + 1) (by omega)
  obtain ⟨u2, hu2⟩ := gu (m + 2) (by omega)
  obtain ⟨v0, hv0⟩ : ∃ v, vs[m]? = some v := ⟨_, List.getElem?_eq_getElem (by omega)⟩
  have win : ∀ i u, i < m + 3 → L[j + i]? = some u → ((L.drop j).take (m + 2 + 1))[i]? = some u := fun i u hi h => by
    rw [List.getElem?_take, if_pos (by omega), List.getElem?_drop]; exact h
  have wl : ((L.drop j).take (m + 2 + 1)).length = m + 3 := by rw [List.length_take, List.length_drop]; omega
  have hWL : Lt32 ((L.drop j).take (m + 2 + 1)) := (hL.drop j).take _
  have eU := val_three wl (win m u0 (by omega) hu0) (win (m + 1) u1 (by omega) hu1) (win (m + 2) u2 (by omega) hu2)
  have loU := val_take_lt (m := m) hWL (by omega)
  have vin : ∀ i v, i < m + 2 → vs[i]? = some v → (vs.take (m + 2))[i]? = some v := fun i v hi h => by rw [List.getElem?_take, if_pos hi]; exact h
  have vl : (vs.take (m + 2)).length = m + 2 := by rw [List.length_take]; omega
  have eV := val_two vl (vin m v0 (by omega) hv0) (vin (m + 1) v1 (by omega) hv1)
  have loV := val_take_lt (m := m) (hV.take (m + 2)) (by omega)
  generalize hUU : val ((L.drop j).take (m + 2 + 1)) = U at *
  generalize hVV : val (vs.take (m + 2)) = V at *
  have pp := P32_pos m
  have hVp : 0 < V := by
    rw [eV]
    have : P32 m * 1 ≤ P32 m * (v0 + 4294967296 * v1) := Nat.mul_le_mul_left _ (by omega)
    omega
  have hq : U / V * V ≤ U := Nat.div_mul_le_self U V
  have l0 := hL _ _ hu0
  have k0 := hV _ _ hv0
  have htop := est_top eU eV loV k0 hlt
  have hqB : U / V < 4294967296 := (Nat.div_lt_iff_lt_mul hVp).2 hlt
  refine (estimate_raw g j m cu gv cv u2 u1 u0 v1 v0 w (hg.u32 hu2) (hg.u32 hu1) (hg.u32 hu0) (hv.u32 hv1) (hv.u32 hv0) (hL _ _ hu2) (hL _ _ hu1) l0 (hV _ _ hv1) k0 (by omega) h1 htop (U / V) hqB
    (fun t r ht hr => est_over eU loU eV hq ht hr) (fun t r ht hr => est_more eU loU eV l0 hq ht hr)).mono ?_
  rintro e w' ⟨t, r, rfl, ht, hqt, htl, hle, hw⟩
  refine ⟨t, rfl, hqt, ?_, htl, hw⟩
  have := est_post pp eU eV loV h1 ht htl hle
  have e2 : t * V < (U / V + 2) * V := by
    have h3 := Nat.div_add_mod U V
    have h4 := Nat.mod_lt U hVp
    rw [Nat.mul_comm V] at h3
    rw [Nat.add_mul]
    omega
  have := Nat.lt_of_mul_lt_mul_right e2
  omega

/-- What divide returns. -/
def Divides (w : World) (q r : Nat) (e : Ending) : Prop :=
  ∃ A1 n1 c1 q1 A2 n2 c2 r1, e = .returned (.tuple #[.slice A1 n1 c1, .slice A2 n2 c2]) ∧ Dig w A1 n1 c1 q1 ∧ Trim q1 ∧ val q1 = q ∧ Dig w A2 n2 c2 r1 ∧ Trim r1 ∧ val r1 = r

set_option maxHeartbeats 400000 in
theorem divide_lt (A : Option Addr) (n c : Nat) (xs : List Nat) (B : Option Addr) (m d : Nat) (ys : List Nat) (w : World) (h : Dig w A n c xs) (k : Dig w B m d ys) (hn : n ≤ 1000000) (hm : m ≤ 1000000) (tx : Trim xs) (ty : Trim ys) (hlt : val xs < val ys) :
    Calls Tryz.prog 47 #[.slice A n c, .slice B m d] w fun e w' => Divides w' (val xs / val ys) (val xs % val ys) e ∧ Below w.heap.size w w' := by
  have hc := compare_any A n c xs B m d ys w h k hn hm tx ty
  rw [cmpI_lt hlt] at hc
  have HC := Lib.hid hc
  have HLT := Lib.hid hlt
  clear hc hlt
  go_enter Tryz.func47, Tryz.ntmps47
  go_wp2_with fail
  refine HC.out.mono ?_
  rintro e w1 ⟨rfl, hb⟩
  go_wp2_with fail
  go_ret2
  refine ⟨⟨_, _, _, [], _, _, _, xs, rfl, Dig.nil_ _ _ _, fun h => absurd h (by simp), ?_, h.below hb, tx, ?_⟩, hb⟩
  · rw [Nat.div_eq_of_lt HLT.out]; rfl
  · rw [Nat.mod_eq_of_lt HLT.out]

set_option maxHeartbeats 400000 in
theorem divide_small (A : Option Addr) (n c : Nat) (xs : List Nat) (B : Option Addr) (m d : Nat) (ys : List Nat) (w : World) (h : Dig w A n c xs) (k : Dig w B m d ys) (hn : n ≤ 2) (tx : Trim xs) (ty : Trim ys) (hge : val ys ≤ val xs) (hpos : 0 < val ys) :
    Calls Tryz.prog 47 #[.slice A n c, .slice B m d] w fun e w' => Divides w' (val xs / val ys) (val xs % val ys) e ∧ Below w.heap.size w w' := by
  have hx := val_lt h.lt
  have hx2 : val xs < 18446744073709551616 := by
    have : P32 xs.length ≤ P32 2 := Nat.pow_le_pow_right (by omega) (by rw [h.len]; exact hn)
    have e : P32 2 = 18446744073709551616 := rfl
    omega
  have hm : m ≤ 2 := by
    rw [← k.len]
    exact ty.len_le (n := 2) (by have e : P32 2 = 18446744073709551616 := rfl; omega)
  have hcm : ∃ z : Int, 0 ≤ z ∧ cmpI (val xs) (val ys) = z := by
    rcases Nat.lt_or_ge (val ys) (val xs) with h1 | h1
    · exact ⟨1, by omega, cmpI_gt h1⟩
    · exact ⟨0, by omega, cmpI_eq (by omega)⟩
  obtain ⟨z, hz0, hz⟩ := hcm
  have hc := compare_any A n c xs B m d ys w h k (by omega) (by omega) tx ty
  rw [hz] at hc
  obtain ⟨a, ha⟩ : ∃ a, a = val xs := ⟨_, rfl⟩
  obtain ⟨b, hb⟩ : ∃ b, b = val ys := ⟨_, rfl⟩
  obtain ⟨q, hq⟩ : ∃ q, q = a / b := ⟨_, rfl⟩
  obtain ⟨r, hr⟩ : ∃ r, r = a % b := ⟨_, rfl⟩
  have hq2 : (a : Int) / b = (q : Int) := by rw [hq]; simp
  have hr2 : (a : Int) % b = (r : Int) := by rw [hr]; simp
  have hr3 : (a : Int).tmod b = (r : Int) := by rw [Int.tmod_eq_emod_of_nonneg (by omega), hr2]
  have hq3 : IntKind.u64.wrap ((a : Int).tdiv b) = (q : Int) := by
    rw [Int.tdiv_eq_ediv_of_nonneg (by omega), hq2, IntWalk.u64_in]
    have : q ≤ a := by rw [hq]; exact Nat.div_le_self _ _
    omega
  have hql : q ≤ a := by rw [hq]; exact Nat.div_le_self _ _
  have hrl : r ≤ a := by rw [hr]; exact Nat.mod_le _ _
  have hq4 : IntKind.u64.wrap (q : Int) = (q : Int) := IntWalk.u64_in _ (by omega)
  rw [← ha] at hge hx2
  rw [← hb] at hge hpos
  have HC := Lib.hid hc
  have HQ := Lib.hid hq
  have HR := Lib.hid hr
  have HA := Lib.hid ha
  have HB := Lib.hid hb
  clear hc hz hq hr ha hb hx
  go_enter Tryz.func47, Tryz.ntmps47
  go_wp2_with fail
  refine HC.out.mono ?_
  rintro e w1 ⟨rfl, hb1⟩
  have h1 := h.below hb1
  have k1 := k.below hb1
  go_wp2_with fail
  refine (join_any _ _ _ _ _ h1 hn).mono ?_
  rintro e w1 ⟨rfl, rfl⟩
  rw [← HA.out]
  go_wp2_with fail
  refine (join_any _ _ _ _ _ k1 hm).mono ?_
  rintro e w1 ⟨rfl, rfl⟩
  rw [← HB.out]
  go_upto_region 5 with fail
  go_region_with (first
    | (go_at_call_of 63 (Value.int IntKind.u64 (q : Int)); refine (split_any q _ (by omega)).mono ?_; rintro e wq ⟨⟨Aq, mq, cq, zq, rfl, hdq, htq, hvq⟩, hbq⟩; have HVQ := Lib.hid hvq; clear hvq)
    | (go_at_call_of 63 (Value.int IntKind.u64 (r : Int)); refine (split_any r _ (by omega)).mono ?_; rintro e wr ⟨⟨Ar, mr, cr, zr, rfl, hdr, htr, hvr⟩, hbr⟩; have HVR := Lib.hid hvr; clear hvr))
  all_goals (go_wp2_with fail; go_ret2)
  all_goals
    refine ⟨⟨_, _, _, _, _, _, _, _, rfl, hdq.below hbr, htq, ?_, hdr, htr, ?_⟩, below_then (below_then hb1.drew hbq) hbr⟩
    · rw [HVQ.out, HQ.out, HA.out, HB.out]
    · rw [HVR.out, HR.out, HA.out, HB.out]

set_option maxHeartbeats 400000 in
theorem divide_one (A : Option Addr) (n c : Nat) (xs : List Nat) (B : Option Addr) (d : Nat) (y : Nat) (w : World) (h : Dig w A n c xs) (k : Dig w B 1 d [y]) (hn : n ≤ 1000000) (hn2 : 2 < n) (tx : Trim xs) (ty : Trim [y]) :
    Calls Tryz.prog 47 #[.slice A n c, .slice B 1 d] w fun e w' => Divides w' (val xs / val [y]) (val xs % val [y]) e ∧ Below w.heap.size w w' := by
  have hc := compare_any A n c xs B 1 d [y] w h k hn (by omega) tx ty
  rw [cmpI_gt (tx.lt_of_len k.lt (by rw [h.len]; simp; omega))] at hc
  obtain ⟨b, o, y', rfl, hy, hyl, hyc⟩ := k.get (k := 0) (by omega)
  have e : y' = y := by simpa using hy.symm
  subst e
  have hyp : 0 < y' := by
    obtain ⟨d, hd, hne⟩ := ty (by simp)
    simp at hd
    omega
  have HC := Lib.hid hc
  clear hc hy
  rw [Nat.add_zero] at hyc
  go_enter Tryz.func47, Tryz.ntmps47
  go_wp2_with fail
  refine HC.out.mono ?_
  rintro e w1 ⟨rfl, hb1⟩
  have h1 := h.below hb1
  have hyc1 : w1.cell? ⟨b, o, none⟩ = some (.int .u32 (y' : Int)) := (hb1.cell (p := ⟨b, o, none⟩) (block_lt_of_cell hyc)).trans hyc
  go_wp2_with fail
  refine (divideDigit_any _ _ _ _ _ _ h1 hn hyp hyl).mono ?_
  rintro e w2 ⟨A', m', c', zs, rfl, hd, ht, hv, hb2⟩
  have HV := Lib.hid hv
  clear hv
  have hrl : val xs % y' < y' := Nat.mod_lt _ hyp
  obtain ⟨r, hr⟩ : ∃ r, r = val xs % y' := ⟨_, rfl⟩
  rw [← hr] at hrl ⊢
  have HR := Lib.hid hr
  clear hr
  go_wp2_with fail
  refine (split_any r _ (by omega)).mono ?_
  rintro e w3 ⟨⟨A3, m3, c3, z3, rfl, hd3, ht3, hv3⟩, hb3⟩
  have HV3 := Lib.hid hv3
  clear hv3
  go_wp2_with fail
  go_ret2
  have hb : Below w.heap.size w w3 := (hb1.trans (hb2.mono hb1.size)).trans (hb3.mono (Nat.le_trans hb1.size hb2.size))
  refine ⟨⟨_, _, _, _, _, _, _, _, rfl, hd.below hb3, ht, ?_, hd3, ht3, ?_⟩, hb⟩
  · rw [HV.out]; simp [val]
  · rw [HV3.out, HR.out]; simp [val]

end Go.Proofs.YthiogjpjkdnbjaaGreatDoor
