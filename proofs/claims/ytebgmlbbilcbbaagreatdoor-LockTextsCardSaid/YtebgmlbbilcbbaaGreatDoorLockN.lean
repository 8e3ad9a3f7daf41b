/- Locks: the hash of a lock by the reference. -/
import Derived.Test.YtebgmlbbilcbbaaGreatDoorLockM
namespace Go.Proofs.YtebgmlbbilcbbaaGreatDoor
open Go.RowKit

set_option maxRecDepth 100000 in
set_option maxHeartbeats 4000000 in
theorem rLocked_q (round : Int) (h1 : I64 round) (A : Option Addr) (n c : Nat) (cs : List C32) (hw : ∀ x ∈ cs, I64 x.1.who) (hn : n ≤ 19) (w : World) (h : CRow w A n c cs) :
    Calls Tryz.prog 60 #[.int .i64 round, .slice A n c] w fun e w' => e = .returned (.tuple #[.agg (u8a (lockedR round (cs.map (·.1))).1), .int .i64 (lockedR round (cs.map (·.1))).2]) ∧ Below w.heap.size w w' := by
  have hlen := h.len
  have HL := Lib.hid hlen
  have HR := Lib.hid h
  have HW := Lib.hid hw
  obtain ⟨C, hC⟩ : ∃ C : List Com, C = cs.map (·.1) := ⟨_, rfl⟩
  have HC := Lib.hid hC
  have hCl : C.length = n := by rw [hC, List.length_map, hlen]
  have HCL := Lib.hid hCl
  rw [← hC]
  clear h hw hlen hC hCl
  obtain ⟨V, hV⟩ : ∃ V, V = lockedR round C := ⟨_, rfl⟩
  rw [← hV]
  have HV := Lib.hid hV
  clear hV
  have hsz0 : (u8a zero32).size = 32 := u8a_len zero32_len
  by_cases h13 : 13 < n
  · have h13' : (13 : Int) < (n : Int) := by omega
    have hv : V = (zero32, 2) := HV.out.trans (locked_many (by rw [HCL.out]; exact h13))
    subst hv
    go_enter Tryz.func60, Tryz.ntmps60
    go_upto_region 1 with fail
    refine nameOne (u8a zero32) rfl ?_
    intro w0 k0 hB
    go_wp2_with (refine wpList_store_rowTo rfl 71 _ _ rfl rfl _ (u8a zero32) rfl rfl _ _ k0 (by rw [hsz0]; exact hash_size) rfl (u8a_one _) ?_)
    refine bodyPost_ret (results_hash rfl (k0.rowA _) rfl zero32_len) rfl ?_
    exact ⟨rfl, below_setRow hB (Nat.le_refl _) _⟩
  · have h13' : ¬ (13 : Int) < (n : Int) := by omega
    have H13 : Hid (¬ 13 < C.length) := Lib.hid (by rw [HCL.out]; exact h13)
    go_enter Tryz.func60, Tryz.ntmps60
    go_upto_region 1 with fail
    refine nameOne (u8a zero32) rfl ?_
    intro w0 k0 hB
    obtain ⟨H, hH⟩ : ∃ H, H = w.heap.size := ⟨_, rfl⟩
    rw [← hH] at k0 ⊢
    have hgH : w.heap.size ≤ H := by omega
    clear hH
    go_wp2_with fail
    go_loopw [6] (fun s6 wr => ∃ i : Nat, i ≤ n ∧ s6 = .int .i64 (i : Int) ∧ Blk wr H 71 (u8a zero32) ∧ Hid (∀ (k j : Nat) (a b : Com), k < j → j < i → C[k]? = some a → C[j]? = some b → a.who ≠ b.who) ∧ Below w.heap.size w wr) (fun s6 _ => n - (intOf s6).toNat)
    case atStart => exact ⟨0, Nat.zero_le _, rfl, k0, Lib.hid (fun k j a b _ h => absurd h (Nat.not_lt_zero _)), hB⟩
    case round =>
      obtain ⟨i, hi, rfl, k0, HN, hB⟩ := hrel
      by_cases hlt : i < n
      · have hlt' : (i : Int) < (n : Int) := by omega
        have hrow := HR.out.below hB
        obtain ⟨b, o, rfl, -⟩ := hrow.at_ (by omega)
        clear hrow
        obtain ⟨y, hy⟩ : ∃ y, cs[i]? = some y := ⟨cs[i]'(by rw [HL.out]; exact hlt), List.getElem?_eq_getElem _⟩
        have hyc : C[i]? = some y.1 := by rw [HC.out, List.getElem?_map, hy]; rfl
        have HY := Lib.hid hy
        have HYC := Lib.hid hyc
        clear hy hyc
        obtain ⟨wo, rfl⟩ : ∃ wo : World, wo = wr := ⟨_, rfl⟩
        go_wp2_with fail
        go_loopw [7] (fun s7 wi => ∃ j : Nat, j ≤ i ∧ s7 = .int .i64 (j : Int) ∧ Blk wi H 71 (u8a zero32) ∧ Hid (∀ (k : Nat) (a : Com), k < j → C[k]? = some a → a.who ≠ y.1.who) ∧ Below w.heap.size w wi) (fun s7 _ => i - (intOf s7).toNat)
        case atStart => exact ⟨0, Nat.zero_le _, rfl, k0, Lib.hid (fun k a h => absurd h (Nat.not_lt_zero _)), hB⟩
        case round =>
          obtain ⟨j, hj, rfl, k0, HK, hB⟩ := hrel
          by_cases hlj : j < i
          · have hlj' : (j : Int) < (i : Int) := by omega
            have hljn : (j : Int) < (n : Int) := by omega
            obtain ⟨x, hx⟩ : ∃ x, cs[j]? = some x := ⟨cs[j]'(by rw [HL.out]; omega), List.getElem?_eq_getElem _⟩
            have hxc : C[j]? = some x.1 := by rw [HC.out, List.getElem?_map, hx]; rfl
            have hrow := HR.out.below hB
            have cx := crow_who hrow hx
            have cy := crow_who hrow HY.out
            have HXC := Lib.hid hxc
            clear hx hxc hrow
            by_cases he : x.1.who = y.1.who
            · have heb : (x.1.who == y.1.who) = true := by rw [he]; simp
              have hv : V = (zero32, 33) := HV.out.trans (locked_twice H13.out (pair_eq hlj HXC.out HYC.out he))
              subst hv
              clear he
              go_upto_region 9 with fail
              go_quiet (fail)
              have k0d : Blk (wr.drewN nq) H 71 (u8a zero32) := k0
              have hBd := below_drewN hB nq
              go_wp2_with (refine wpList_store_rowTo rfl 71 _ _ rfl rfl _ (u8a zero32) rfl rfl _ _ k0d (by rw [hsz0]; exact hash_size) rfl (u8a_one _) ?_)
              refine bodyPost_ret (results_hash rfl (k0d.rowA _) rfl zero32_len) rfl ?_
              exact ⟨rfl, below_setRow hBd hgH _⟩
            · have heb : (x.1.who == y.1.who) = false := by rw [beq_eq_false_iff_ne]; exact he
              have HE := Lib.hid he
              clear he
              go_upto_region 9 with fail
              go_quiet (fail)
              go_wp2_with fail
              go_roundw
              case rel =>
                refine ⟨j + 1, by omega, by go_num, k0, Lib.hid ?_, below_drewN hB _⟩
                intro k a hk ha
                rcases Nat.lt_or_eq_of_le (Nat.le_of_lt_succ hk) with hk | rfl
                · exact HK.out k a hk ha
                · rw [HXC.out] at ha
                  obtain rfl := Option.some.inj ha
                  exact HE.out
              case measure => simp [intOf]; omega
          · obtain rfl : j = i := by omega
            have hh : ¬ (j : Int) < (j : Int) := by omega
            go_wp2_with fail
            go_roundw
            case rel =>
              refine ⟨j + 1, by omega, by go_num, k0, Lib.hid ?_, hB⟩
              intro k m a d hkm hm ha hd
              rcases Nat.lt_or_eq_of_le (Nat.le_of_lt_succ hm) with hm | rfl
              · exact HN.out k m a d hkm hm ha hd
              · rw [HYC.out] at hd
                obtain rfl := Option.some.inj hd
                exact HK.out k a hkm ha
            case measure => simp [intOf]; omega
      · obtain rfl : i = n := by omega
        have hh : ¬ (i : Int) < (i : Int) := by omega
        have hS : Single C := single_iff.2 (fun k m a d hkm ha hd => HN.out k m a d hkm (by have := (List.getElem?_eq_some_iff.1 hd).1; rw [HCL.out] at this; exact this) ha hd)
        have HS := Lib.hid hS
        clear hS HN
        go_wp2_with fail
        go_loopw [8] (fun s8 wi => ∃ j : Nat, j ≤ i ∧ s8 = .int .i64 (j : Int) ∧ Blk wi H 71 (u8a zero32) ∧ Hid (∀ (k : Nat) (a : C32), k < j → cs[k]? = some a → a.1.box.length ≤ 100) ∧ Below w.heap.size w wi) (fun s8 _ => i - (intOf s8).toNat)
        case atStart => exact ⟨0, Nat.zero_le _, rfl, k0, Lib.hid (fun k a h => absurd h (Nat.not_lt_zero _)), hB⟩
        case round =>
          obtain ⟨j, hj, rfl, k0, HK, hB⟩ := hrel
          by_cases hlj : j < i
          · have hlj' : (j : Int) < (i : Int) := by omega
            obtain ⟨x, hx⟩ : ∃ x, cs[j]? = some x := ⟨cs[j]'(by rw [HL.out]; omega), List.getElem?_eq_getElem _⟩
            have hxc : C[j]? = some x.1 := by rw [HC.out, List.getElem?_map, hx]; rfl
            have hrow := HR.out.below hB
            obtain ⟨b, o, rfl, -⟩ := hrow.at_ (by omega)
            have cx : wr.cell? ⟨b, o + j * 34 + 33, none⟩ = some (.string (strB x.1.box)) := crow_range hrow hx 33 _ (by
              have := com_box x.2
              rwa [show comA x.1 = (comCells x.1).toArray from rfl, List.getElem?_toArray] at this)
            have hbs : (strB x.1.box).size = x.1.box.length := strB_size _
            have HX := Lib.hid hx
            have HXC := Lib.hid hxc
            clear hx hxc hrow
            by_cases hbx : 100 < (strB x.1.box).size
            · have hbx' : (100 : Int) < ((strB x.1.box).size : Int) := by omega
              have hv : V = (zero32, 15) := HV.out.trans (locked_long H13.out HS.out (List.mem_of_getElem? HXC.out) (by omega))
              subst hv
              go_wp2_with (refine wpList_store_rowTo rfl 71 _ _ rfl rfl _ (u8a zero32) rfl rfl _ _ k0 (by rw [hsz0]; exact hash_size) rfl (u8a_one _) ?_)
              refine bodyPost_ret (results_hash rfl (k0.rowA _) rfl zero32_len) rfl ?_
              exact ⟨rfl, below_setRow hB hgH _⟩
            · have hbx' : ¬ (100 : Int) < ((strB x.1.box).size : Int) := by omega
              have HBL : Hid (x.1.box.length ≤ 100) := Lib.hid (by omega)
              clear hbs hbx
              go_wp2_with fail
              go_roundw
              case rel =>
                refine ⟨j + 1, by omega, by go_num, k0, Lib.hid ?_, hB⟩
                intro k a hk ha
                rcases Nat.lt_or_eq_of_le (Nat.le_of_lt_succ hk) with hk | rfl
                · exact HK.out k a hk ha
                · rw [HX.out] at ha
                  obtain rfl := Option.some.inj ha
                  exact HBL.out
              case measure => simp [intOf]; omega
          · obtain rfl : j = i := by omega
            have hh2 : ¬ (j : Int) < (j : Int) := by omega
            have HA : Hid (∀ x ∈ cs, x.1.box.length ≤ 100) := Lib.hid (fun x hx => by
              obtain ⟨k, hk⟩ := List.mem_iff_getElem?.1 hx
              exact HK.out k x (by have := (List.getElem?_eq_some_iff.1 hk).1; rw [HL.out] at this; exact this) hk)
            have m1 := Lib.hid (fun W hW => rListed_q round h1 A j c cs HW.out HA.out (by rw [← HC.out]; exact HS.out) hn W hW)
            rw [← HC.out] at m1
            obtain ⟨L, hL⟩ : ∃ L, L = lockL round (sortL C) := ⟨_, rfl⟩
            obtain ⟨sh, hsh⟩ : ∃ sh, sh = shaS L := ⟨_, rfl⟩
            have hv : V = (sh, 0) := HV.out.trans ((locked_ok H13.out HS.out (fun x hx => by
              rw [HC.out] at hx
              obtain ⟨y, hy, rfl⟩ := List.mem_map.1 hx
              exact HA.out y hy)).trans (by rw [hsh, hL]))
            have hLl : (strB L).size ≤ 900000 := by
              rw [strB_size, hL]
              have hb : ∀ l : List Com, (∀ x ∈ l, x.box.length ≤ 100 ∧ I64 x.who ∧ x.hash.length = 32) → (l.flatMap comL).length ≤ 300 * l.length := fun l => by
                induction l with
                | nil => intro _; simp
                | cons x l ih =>
                  intro h
                  have hx := h x (by simp)
                  have := ih (fun y hy => h y (by simp [hy]))
                  have h2 := comT_len hx.2.1 hx.2.2
                  have h3 : (comL x).length = (comT x).length + 1 := by unfold comL; simp
                  rw [List.flatMap_cons, List.length_append, List.length_cons]
                  omega
              have h5 := hb (sortL C) (fun x hx => by
                have hx := (sortL_perm C).mem_iff.1 hx
                rw [HC.out] at hx
                obtain ⟨y, hy, rfl⟩ := List.mem_map.1 hx
                exact ⟨HA.out y hy, HW.out y hy, y.2⟩)
              rw [(sortL_perm C).length_eq, HCL.out] at h5
              have h6 := decI_len h1
              unfold lockL
              simp only [List.length_append, List.length_cons, List.length_nil]
              omega
            have m2 := Lib.hid (fun W => rSum_any (strB L) W (by omega))
            rw [strB_list, ← hsh] at m2
            rw [← hL] at m1
            have hsl : sh.length = 32 := by rw [hsh]; exact sha_len _
            have hsz : (u8a sh).size = 32 := u8a_len hsl
            have HSL := Lib.hid hsl
            subst hv
            clear hsh hL hsl hLl hh
            go_wp2_with fail
            refine (m1.out _ (HR.out.below hB)).mono ?_
            rintro e w3 ⟨rfl, hb⟩
            replace k0 := k0.below hb k0.lt
            replace hB := below_then hB hb
            clear hb
            go_wp2_with fail
            refine (m2.out _).mono ?_
            rintro e w4 ⟨rfl, hb⟩
            replace k0 := k0.below hb k0.lt
            replace hB := below_then hB hb
            clear hb
            go_wp2_with (refine wpList_store_rowTo rfl 71 _ _ rfl rfl _ (u8a sh) rfl rfl _ _ k0 (by rw [hsz]; exact hash_size) (by rw [hsz]; rfl) (u8a_one _) ?_)
            refine bodyPost_ret (results_hash rfl (k0.rowA _) rfl HSL.out) rfl ?_
            exact ⟨rfl, below_setRow hB hgH _⟩

end Go.Proofs.YtebgmlbbilcbbaaGreatDoor
