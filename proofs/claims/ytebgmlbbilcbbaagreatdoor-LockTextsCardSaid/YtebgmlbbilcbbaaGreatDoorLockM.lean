/- Locks: the reference's list, ordered by hand. -/
import Derived.Test.YtebgmlbbilcbbaaGreatDoorLockL
namespace Go.Proofs.YtebgmlbbilcbbaaGreatDoor
open Go.RowKit

/-- A truth value as cells. -/
def encB (b : Bool) : List Value := [.bool b]
theorem encB_len (b : Bool) : (encB b).length = 1 := rfl
theorem encB_one (b : Bool) : ∀ u ∈ encB b, u.oneCell' = true := fun u hu => by
  obtain rfl := List.mem_singleton.1 hu; rfl
theorem bool_info : (Tryz.prog.info? 4).map (fun i => (i.zero, i.size, i.bytes)) = some (some (.bool false), 1, 1) := by kernel_rfl
abbrev OwnBo (B : Nat) (w : World) (v : Value) (l : List Bool) : Prop := OwnL encB 4 1 B w v l
theorem flatB (l : List Bool) : l.flatMap encB = l.map Value.bool := by
  induction l with
  | nil => rfl
  | cons b l ih => rw [List.flatMap_cons, ih]; rfl
theorem OwnBo.set {B : Nat} {w : World} {g n cc : Nat} {l : List Bool} (h : OwnBo B w (.slice (some ⟨g, 0, none⟩) n cc) l) (k : Nat) (b : Bool) : OwnBo B (w.setCell ⟨g, k, none⟩ (.bool b)) (.slice (some ⟨g, 0, none⟩) n cc) (l.set k b) := by
  obtain ⟨h1, h2⟩ := h
  rcases h2 with ⟨e, _⟩ | ⟨g', cap, cur, e, hB, hh, hn, hc, hs, ht⟩
  · cases e
  · cases e
    refine ⟨by rw [List.length_set, flatB, List.length_map, List.length_set, Nat.mul_one], .inr ⟨g, cc, cur.setIfInBounds k (.bool b), by rw [List.length_set], hB, ?_, by rw [List.length_set]; exact hn, hc, by rw [Array.size_setIfInBounds]; exact hs, ?_⟩⟩
    · exact (show Blk w g 4 cur from hh).set_ k (.bool b)
    · rw [List.length_set, Array.toList_setIfInBounds, List.take_set, ht, flatB, flatB, List.map_set]

set_option maxRecDepth 100000 in
set_option maxHeartbeats 4000000 in
theorem rListed_q (round : Int) (h1 : I64 round) (A : Option Addr) (n c : Nat) (cs : List C32) (hw : ∀ x ∈ cs, I64 x.1.who) (hbx : ∀ x ∈ cs, x.1.box.length ≤ 100) (hs : Single (cs.map (·.1))) (hn : n ≤ 19) (w : World) (h : CRow w A n c cs) :
    Calls Tryz.prog 61 #[.int .i64 round, .slice A n c] w fun e w' => e = .returned (.string (strB (lockL round (sortL (cs.map (·.1)))))) ∧ Below w.heap.size w w' := by
  have hlen := h.len
  have HL := Lib.hid hlen
  have HR := Lib.hid h
  have HW := Lib.hid hw
  have HBX := Lib.hid hbx
  have HS := Lib.hid hs
  obtain ⟨out, hout⟩ : ∃ out, out = lockL round (sortL (cs.map (·.1))) := ⟨_, rfl⟩
  have HO := Lib.hid hout
  rw [← hout]
  obtain ⟨C, hC⟩ : ∃ C : List Com, C = cs.map (·.1) := ⟨_, rfl⟩
  have HC := Lib.hid hC
  have hCl : C.length = n := by rw [hC, List.length_map, hlen]
  have HCL := Lib.hid hCl
  clear hlen h hw hbx hs hout hC hCl
  have m2 := Lib.hid (Decimal_q round h1)
  have s2 := decIS_size h1
  obtain ⟨u0, hu0⟩ : ∃ u0, u0 = headB (decIS round) := ⟨_, rfl⟩
  have HU0 : Hid (u0 = strB (lockL round [])) := Lib.hid (by rw [hu0, headB_eq])
  have hu0s : u0.size ≤ 30 := by
    rw [hu0]; unfold headB
    rw [ByteArray.size_append, ByteArray.size_append]
    show 5 + (decIS round).size + 1 ≤ 30
    omega
  have hcat : (⟨#[108, 111, 99, 107, 47]⟩ ++ decIS round) ++ ⟨#[47]⟩ = u0 := by rw [hu0]; rfl
  clear hu0
  generalize decIS round = d2 at *
  have z1 : ¬ 9223372036854775807 < 5 + d2.size := by omega
  have z2 : ¬ 9223372036854775807 < 5 + d2.size + 1 := by omega
  go_enter Tryz.func61, Tryz.ntmps61
  go_wp2_with fail
  refine (m2.out _).mono ?_
  rintro e w0 ⟨rfl, hB⟩
  go_wp2_with fail
  clear hcat z1 z2 m2
  go_loopw [6, 7] (fun v s7 wr => ∃ i : Nat, i ≤ n ∧ s7 = .int .i64 (i : Int) ∧ OwnBo w.heap.size wr v (List.replicate i false) ∧ Below w.heap.size w wr) (fun _ s7 _ => n - (intOf s7).toNat)
  case atStart => exact ⟨0, Nat.zero_le _, rfl, OwnL.nil_ _ _ _ _ _, hB⟩
  case round =>
    obtain ⟨i, hi, rfl, ho, hB⟩ := hrel
    have ho0 := own_high ho
    by_cases hlt : i < n
    · have hlt' : (i : Int) < (n : Int) := by omega
      go_wp2_with (refine wp_append_row (enc := encB) Tryz.underlying132 bool_info rfl (by decide) (by decide) rfl _ _ rfl false rfl rfl (encB_one _) rfl ho rfl (by rw [List.length_replicate]; omega) hB.size ?_; intro v w2 ho2 hg2)
      go_roundw
      case rel => exact ⟨i + 1, by omega, by go_num, by rw [List.replicate_succ']; exact ho2, hB.grown hg2 hB.size ho0⟩
      case measure => simp [intOf]; omega
    · obtain rfl : i = n := by omega
      have hh : ¬ (i : Int) < (i : Int) := by omega
      clear ho0
      have HU1 : Hid (strB out = u0 ∨ 0 < i) := Lib.hid (by
        rcases Nat.eq_zero_or_pos i with h0 | h0
        · left
          have hc0 : cs = [] := List.eq_nil_of_length_eq_zero (by rw [HL.out, h0])
          rw [HO.out, HU0.out, hc0, List.map_nil, List.perm_nil.1 (sortL_perm [])]
        · right; exact h0)
      rcases OwnL.at_ ho encB_len with ⟨rfl, h0⟩ | ⟨g, cc, rfl, hcc, hg1, hg2, hcell⟩
      · have hi0 : i = 0 := by have := congrArg List.length h0; simpa using this
        have hz : strB out = u0 := by rcases HU1.out with h | h; exact h; omega
        have HZ := Lib.hid hz
        clear hz h0
        subst hi0
        go_wp2_with fail
        go_loopw [5, 8] (fun s5 s8 wo => s8 = .int .i64 0 ∧ s5 = .string u0 ∧ Below w.heap.size w wo) (fun _ _ _ => 0)
        case atStart => exact ⟨rfl, rfl, hB⟩
        case round =>
          obtain ⟨rfl, rfl, hB⟩ := hrel
          go_wp2_with fail
          go_ret
          exact ⟨by rw [HZ.out]; rfl, hB⟩
      · rw [List.length_replicate] at ho hcc
        clear hcell
        go_wp2_with fail
        clear hh
        go_loopw [5, 8] (fun s5 s8 wo => ∃ (k : Nat) (u : ByteArray) (us : List Bool) (done : List Com), k ≤ i ∧ s8 = .int .i64 (k : Int) ∧ s5 = .string u ∧ u.size ≤ 30 + 400 * k ∧ OwnBo w.heap.size wo (.slice (some ⟨g, 0, none⟩) i cc) us ∧ Hid (Half C us done ∧ done.length = k ∧ u = strB (lockL round done)) ∧ Below w.heap.size w wo) (fun _ s8 _ => i - (intOf s8).toNat)
        case atStart => exact ⟨0, u0, List.replicate i false, [], Nat.zero_le _, rfl, rfl, hu0s, ho, Lib.hid ⟨by rw [← HCL.out]; exact Half.start C, rfl, HU0.out⟩, hB⟩
        case round =>
          obtain ⟨k, u, us, done, hk, rfl, rfl, hus, ho, HI, hB⟩ := hrel
          by_cases hlk : k < i
          · have hlk' : (k : Int) < (i : Int) := by omega
            have husl : us.length = i := by rw [HI.out.1.len, HCL.out]
            have HUS := Lib.hid husl
            have HM := Lib.hid (HI.out.1.more (by rw [HI.out.2.1, HCL.out]; exact hlk))
            clear husl
            obtain ⟨wo, rfl⟩ : ∃ wo : World, wo = wr := ⟨_, rfl⟩
            have hrow := HR.out.below hB
            obtain ⟨b, o, rfl, -⟩ := hrow.at_ (by omega)
            have HRW := Lib.hid hrow
            clear hrow
            go_wp2_with fail
            go_loopw [9, 10] (fun s9 s10 wi => ∃ (j : Nat) (best : Int), j ≤ i ∧ s10 = .int .i64 (j : Int) ∧ s9 = .int .i64 best ∧ -1 ≤ best ∧ best < (i : Int) ∧ Hid (Best C us j best) ∧ OwnBo w.heap.size wi (.slice (some ⟨g, 0, none⟩) i cc) us ∧ CRow wi (some ⟨b, o, none⟩) i c cs ∧ Below w.heap.size w wi) (fun _ s10 _ => i - (intOf s10).toNat)
            case atStart => exact ⟨0, -1, Nat.zero_le _, rfl, rfl, by omega, by omega, Lib.hid (Best.start C us), ho, HRW.out, hB⟩
            case round =>
              obtain ⟨j, best, hj, rfl, rfl, hb1, hb2, HB, ho, hrow, hB⟩ := hrel
              by_cases hlj : j < i
              · have hlj' : (j : Int) < (i : Int) := by omega
                obtain ⟨x, hx⟩ : ∃ x, cs[j]? = some x := ⟨cs[j]'(by rw [HL.out]; omega), List.getElem?_eq_getElem _⟩
                obtain ⟨q, hq⟩ : ∃ q, us[j]? = some q := ⟨us[j]'(by rw [HUS.out]; omega), List.getElem?_eq_getElem _⟩
                have hxc : C[j]? = some x.1 := by rw [HC.out, List.getElem?_map, hx]; rfl
                have cx := crow_who hrow hx
                have cq : wr.cell? ⟨g, j, none⟩ = some (.bool q) := by
                  rcases OwnL.at_ ho encB_len with ⟨e, _⟩ | ⟨g', cc', e, _, _, _, hcell⟩
                  · cases e
                  · cases e
                    have := (hcell j 0 q _ hq rfl).1
                    rwa [Nat.mul_one, Nat.add_zero] at this
                have HXC := Lib.hid (And.intro hxc hq)
                clear hx hxc hq
                cases q with
                | true =>
                  go_upto_region 14 with fail
                  go_quiet (fail)
                  go_wp2_with fail
                  go_roundw
                  case rel =>
                    refine ⟨j + 1, best, by omega, by go_num, rfl, by omega, by omega, Lib.hid (HB.out.used HXC.out.2), OwnL.below ho (below_drewN (Below.refl _ _) _), hrow.below (below_drewN (Below.refl _ _) _), below_drewN hB _⟩
                  case measure => simp [intOf]; omega
                | false =>
                  by_cases hbn : best < 0
                  · obtain rfl : best = -1 := by omega
                    go_upto_region 14 with fail
                    go_quiet (fail)
                    go_wp2_with fail
                    go_roundw
                    case rel =>
                      refine ⟨j + 1, (j : Int), by omega, by go_num, rfl, by omega, by omega, Lib.hid (HB.out.first HXC.out.2 HXC.out.1), OwnL.below ho (below_drewN (Below.refl _ _) _), hrow.below (below_drewN (Below.refl _ _) _), below_drewN hB _⟩
                    case measure => simp [intOf]; omega
                  · obtain ⟨kk, rfl⟩ := Int.eq_ofNat_of_zero_le (show 0 ≤ best by omega)
                    have hkk : kk < i := by omega
                    obtain ⟨y, hy⟩ : ∃ y, cs[kk]? = some y := ⟨cs[kk]'(by rw [HL.out]; exact hkk), List.getElem?_eq_getElem _⟩
                    have hyc : C[kk]? = some y.1 := by rw [HC.out, List.getElem?_map, hy]; rfl
                    have cy := crow_who hrow hy
                    have HYC := Lib.hid hyc
                    have hk0 : decide ((kk : Int) < 0) = false := decide_eq_false (by omega)
                    have hk1 : ¬ (kk : Int) < 0 := by omega
                    have hk2 : (0 : Int) ≤ (kk : Int) := by omega
                    have hk3 : (kk : Int) < (i : Int) := by omega
                    clear hy hyc hbn
                    by_cases hle : x.1.who < y.1.who
                    · have hled : decide (x.1.who < y.1.who) = true := decide_eq_true hle
                      go_upto_region 14 with fail
                      go_quiet (fail)
                      go_wp2_with fail
                      go_roundw
                      case rel =>
                        refine ⟨j + 1, (j : Int), by omega, by go_num, rfl, by omega, by omega, Lib.hid (HB.out.less HXC.out.2 HXC.out.1 HYC.out hle), OwnL.below ho (below_drewN (Below.refl _ _) _), hrow.below (below_drewN (Below.refl _ _) _), below_drewN hB _⟩
                      case measure => simp [intOf]; omega
                    · have hled : decide (x.1.who < y.1.who) = false := decide_eq_false hle
                      go_upto_region 14 with fail
                      go_quiet (fail)
                      go_wp2_with fail
                      go_roundw
                      case rel =>
                        refine ⟨j + 1, (kk : Int), by omega, by go_num, rfl, by omega, by omega, Lib.hid (HB.out.not_less HXC.out.1 HYC.out hle), OwnL.below ho (below_drewN (Below.refl _ _) _), hrow.below (below_drewN (Below.refl _ _) _), below_drewN hB _⟩
                      case measure => simp [intOf]; omega
              · obtain rfl : j = i := by omega
                obtain ⟨kk, cm, rfl, hkl, huk, hck, hmin⟩ := Best.end_ (cs := C) (us := us) (b := best) (by rw [HCL.out]; exact HB.out) HM.out
                rw [HCL.out] at hkl
                obtain ⟨x, hx⟩ : ∃ x, cs[kk]? = some x := ⟨cs[kk]'(by rw [HL.out]; exact hkl), List.getElem?_eq_getElem _⟩
                obtain rfl : cm = x.1 := by
                  rw [HC.out, List.getElem?_map, hx] at hck
                  exact (Option.some.inj hck).symm
                have cq : wr.cell? ⟨g, kk, none⟩ = some (.bool false) ∧ wr.frozen? ⟨g, kk, none⟩ = false := by
                  rcases OwnL.at_ ho encB_len with ⟨e, _⟩ | ⟨g', cc', e, _, _, _, hcell⟩
                  · cases e
                  · cases e
                    have := hcell kk 0 false _ huk rfl
                    rwa [Nat.mul_one, Nat.add_zero] at this
                obtain ⟨cq1, cq2⟩ := cq
                have hk2 : (0 : Int) ≤ (kk : Int) := by omega
                have hk3 : (kk : Int) < (j : Int) := by omega
                have hxm := List.mem_of_getElem? hx
                have HH := Lib.hid (HI.out.1.step huk hck hmin)
                have HX := Lib.hid hx
                have hB5 := below_set hB (p := ⟨g, kk, none⟩) (by exact hg1) (.bool true)
                have ho5 := OwnBo.set ho kk true
                have hr5 := (HR.out.below hB5)
                have m3 := Lib.hid (rcomText_q x.1 x.2 (HW.out x hxm) (by have := HBX.out x hxm; omega))
                have htl : (strB (comT x.1)).size ≤ 300 := by rw [strB_size]; have := comT_len (HW.out x hxm) x.2; have := HBX.out x hxm; omega
                have HSt : Hid ((u ++ strB (comT x.1)) ++ ⟨#[10]⟩ = strB (lockL round (done ++ [x.1]))) := Lib.hid (by
                  rw [HI.out.2.2, lockL_snoc]
                  exact bytes_eq (by simp only [ByteArray.data_append, Array.toList_append, strB_list, List.append_assoc]))
                generalize strB (comT x.1) = tx at m3 htl HSt
                have z1 : ¬ 9223372036854775807 < u.size + tx.size := by omega
                have z2 : ¬ 9223372036854775807 < u.size + tx.size + 1 := by omega
                clear hx hck huk hmin HB ho
                go_upto_region 17 with fail
                have hrg := crow_range hr5 HX.out
                generalize wr.setCell ⟨g, kk, none⟩ (.bool true) = w5 at hB5 ho5 hr5 hrg ⊢
                clear hB cq1 cq2
                go_wp2_with (refine wpList_load_mid rfl 73 _ rfl b (o + kk * 34) rfl (comCells x.1) _ hrg Tryz.underlying73 rfl (by rw [comCells_len x.2]; exact com_size) ?_)
                refine (m3.out _).mono ?_
                rintro e w6 ⟨rfl, hb⟩
                have ho6 := OwnL.below ho5 hb
                have hB6 := below_then hB5 hb
                clear hb hrg hr5 ho5 hB5
                go_wp2_with fail
                go_roundw
                case rel => exact ⟨k + 1, (u ++ tx) ++ ⟨#[10]⟩, us.set kk true, done ++ [x.1], by omega, by go_num, rfl, by rw [ByteArray.size_append, ByteArray.size_append]; show u.size + tx.size + 1 ≤ _; omega, ho6, Lib.hid ⟨HH.out, by rw [List.length_append, HI.out.2.1]; rfl, HSt.out⟩, hB6⟩
                case measure => simp [intOf]; omega
          · obtain rfl : k = i := by omega
            have hh : ¬ (k : Int) < (k : Int) := by omega
            have hz : strB out = u := by rw [HO.out, HI.out.2.2, ← HC.out, HI.out.1.done (by rw [HC.out]; exact HS.out) (by rw [HI.out.2.1, HCL.out])]
            have HZ := Lib.hid hz
            clear hz
            go_wp2_with fail
            go_ret
            exact ⟨by rw [HZ.out]; rfl, hB⟩

end Go.Proofs.YtebgmlbbilcbbaaGreatDoor
