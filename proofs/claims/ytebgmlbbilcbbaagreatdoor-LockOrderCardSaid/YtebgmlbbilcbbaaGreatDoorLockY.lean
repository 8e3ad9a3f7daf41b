/- The law LockOrder. -/
import Derived.Test.YtebgmlbbilcbbaaGreatDoorLockX
import Derived.Deep.CutBlock
namespace Go.Proofs.YtebgmlbbilcbbaaGreatDoor
open Go.RowKit
attribute [local go_sem] Oper.semAt_some

theorem com_box_list {c : Com} (h : c.hash.length = 32) : (comCells c)[33]? = some (.string (strB c.box)) := by
  have := com_box h
  unfold comA at this
  rwa [List.getElem?_toArray] at this
/-- What the law picks: members with different numbers, and boxes that are not long. -/
structure Picks (C : List C32) : Prop where
  one : Single (C.map (·.1))
  box : ∀ x ∈ C, x.1.box.length ≤ 100
  who : ∀ x ∈ C, I64 x.1.who
theorem crow_box {w : World} {b o n c : Nat} {cs : List C32} (h : CRow w (some ⟨b, o, none⟩) n c cs) {i : Nat} {x : C32} (hx : cs[i]? = some x) : w.cell? ⟨b, o + i * 34 + 33, none⟩ = some (.string (strB x.1.box)) := by
  have := crow_range h hx 33 _ (com_box_list x.2)
  exact this
theorem Picks.set {C : List C32} (h : Picks C) {k : Nat} {x : C32} (hx : C[k]? = some x) {b : List UInt8} (hb : b.length ≤ 100) : Picks (C.set k ⟨⟨x.1.who, x.1.hash, b⟩, x.2⟩) := by
  refine ⟨?_, fun y hy => ?_, fun y hy => ?_⟩
  · have h1 := h.one
    unfold Single at h1 ⊢
    rw [List.map_map] at h1 ⊢
    show ((C.set k ⟨⟨x.1.who, x.1.hash, b⟩, x.2⟩).map (fun z => z.1.who)).Nodup
    rw [who_set hx]
    exact h1
  · rcases List.mem_or_eq_of_mem_set hy with h1 | h1
    · exact h.box y h1
    · subst h1; exact hb
  · rcases List.mem_or_eq_of_mem_set hy with h1 | h1
    · exact h.who y h1
    · subst h1; exact h.who x (List.mem_of_getElem? hx)
theorem picks_rest {C : List C32} (h : Picks C) : Picks (C.drop 1) :=
  ⟨by
    have h1 := h.one
    unfold Single at h1 ⊢
    rw [List.map_map] at h1 ⊢
    rw [List.map_drop]
    exact h1.sublist (List.drop_sublist 1 _), fun y hy => h.box y (List.mem_of_mem_drop hy), fun y hy => h.who y (List.mem_of_mem_drop hy)⟩
theorem picks_box {C : List C32} (h : Picks C) : ∀ y ∈ C.map (·.1), y.box.length ≤ 100 := fun y hy => by
  obtain ⟨x, hx, rfl⟩ := List.mem_map.1 hy
  exact h.box x hx
theorem Picks.nil : Picks [] := ⟨by unfold Single; simp, fun x h => by simp at h, fun x h => by simp at h⟩
theorem Picks.snoc {C : List C32} {x : C32} (h : Picks C) (hb : x.1.box.length ≤ 100) (hw : I64 x.1.who) (hn : ∀ y ∈ C, y.1.who ≠ x.1.who) : Picks (C ++ [x]) := by
  refine ⟨?_, fun y hy => ?_, fun y hy => ?_⟩
  · unfold Single
    rw [List.map_append, List.map_append, List.nodup_append]
    refine ⟨h.one, by simp, fun a ha b hb e => ?_⟩
    simp only [List.map_cons, List.map_nil, List.mem_singleton] at hb
    rw [List.map_map, List.mem_map] at ha
    obtain ⟨y, hy, rfl⟩ := ha
    exact hn y hy (e.trans hb)
  · rcases List.mem_append.1 hy with h1 | h1
    · exact h.box y h1
    · obtain rfl := List.mem_singleton.1 h1; exact hb
  · rcases List.mem_append.1 hy with h1 | h1
    · exact h.who y h1
    · obtain rfl := List.mem_singleton.1 h1; exact hw

set_option maxRecDepth 100000 in
set_option maxHeartbeats 4000000 in
theorem LockOrder_any (r0 r1 : Int) (A : Option Addr) (n c : Nat) (xs : List (Int × Int)) (q0 q1 : Int) (w : World) (hT : Tabs w) (hx : PRow w A n c xs) (h1 : I64 r0) (h2 : I64 r1) (hr : ∀ x ∈ xs, I64 x.1 ∧ I64 x.2) (hn : n ≤ 9223372036854775807) (_hq0 : I64 q0) (_hq1 : I64 q1) :
    Calls Tryz.prog 14 #[.agg #[.int .i64 r0, .int .i64 r1], .slice A n c, .agg #[.int .i64 q0, .int .i64 q1]] w fun e w' => e = .returned (.bool true) ∧ Below w.heap.size w w' := by
  have HT := Lib.hid hT
  have HX := Lib.hid hx
  clear hT hx
  have ms := Lib.hid sanity11
  have ml := Lib.hid (fun W h => list_any A n c xs W h hr hn)
  have hcl := listC_le xs
  have HW := Lib.hid (listC_ids hr)
  generalize listC xs = cs at *
  obtain ⟨m, hm⟩ : ∃ m, m = cs.length := ⟨_, rfl⟩
  rw [← hm] at ml hcl
  have HM := Lib.hid hm
  clear hm hr
  go_enter Tryz.func14, Tryz.ntmps14
  go_upto_region 1 with fail
  refine name2e #[.int .i64 r0, .int .i64 r1] #[.int .i64 q0, .int .i64 q1] rfl rfl ?_
  intro w0 kA kQ hB _
  obtain ⟨BA, hBA⟩ : ∃ B, B = w.heap.size := ⟨_, rfl⟩
  rw [← hBA] at kA kQ ⊢
  clear hBA
  go_upto_region 3 with (go_at_call 48; (with_reducible refine (ms.out _ ?_).mono ?_); exact HT.out.below hB; rintro e wz ⟨rfl, hb⟩; replace kA := kA.below hb kA.lt; replace kQ := kQ.below hb kQ.lt; replace hB := below_then hB hb; clear hb)
  go_upto_region 4 with (go_at_call 58; (with_reducible refine (ml.out _ ?_).mono ?_); exact HX.out.below hB; rintro e wy ⟨⟨B, d, rfl, hcr⟩, hb⟩; replace kA := kA.below hb kA.lt; replace kQ := kQ.below hb kQ.lt; replace hB := below_then hB hb; clear hb)
  clear ms ml
  go_upto_block 0 with fail
  go_cut [8] (fun s8 wx => ∃ C : List C32, OwnL encC 73 34 wy.heap.size wx s8 C ∧ Hid (Picks C) ∧ C.length ≤ 12 ∧ Below wy.heap.size wy wx)
  case first =>
    go_wp2_with fail
    go_loopw [8, 10] (fun s8 s10 wr => ∃ (i : Nat) (C : List C32), i ≤ m ∧ s10 = .int .i64 (i : Int) ∧ OwnL encC 73 34 wy.heap.size wr s8 C ∧ Hid (Picks C) ∧ C.length ≤ 12 ∧ Below wy.heap.size wy wr) (fun _ s10 _ => m - (intOf s10).toNat)
    case atStart => exact ⟨0, [], Nat.zero_le _, rfl, OwnL.nil_ _ _ _ _ _, Lib.hid Picks.nil, by simp, Below.refl _ _⟩
    case round =>
      obtain ⟨i, C, him, rfl, ho, HP, hC, hb⟩ := hrel
      have hrow := hcr.below hb
      by_cases hlt : i < m ∧ C.length < 12
      · obtain ⟨hlt, hC12⟩ := hlt
        have hlt' : (i : Int) < (m : Int) := by omega
        have hC12' : (C.length : Int) < 12 := by omega
        obtain ⟨x, hx⟩ : ∃ x, cs[i]? = some x := ⟨_, List.getElem?_eq_getElem (by have := HM.out; omega)⟩
        obtain ⟨b, o, rfl, -⟩ := hrow.at_ (by omega)
        have cw := crow_who hrow hx
        have cb := crow_box hrow hx
        obtain ⟨Ac, cc, rfl, hCr⟩ := OwnL.row ho encC_len
        obtain ⟨u, hu⟩ : ∃ u, u = strB x.1.box := ⟨_, rfl⟩
        have HU : Hid (u.size = x.1.box.length) := Lib.hid (by rw [hu, strB_size])
        rw [← hu] at cb
        obtain ⟨f0, hf0⟩ : ∃ f0 : Bool, decide ((u.size : Int) ≤ 100) = f0 := ⟨_, rfl⟩
        have HF : Hid (f0 = true → x.1.box.length ≤ 100) := Lib.hid (fun h => by
          have := of_decide_eq_true (hf0.trans h)
          have := HU.out
          omega)
        have HXI := Lib.hid hx
        clear hu hx
        go_wp2_with fail
        go_loopw [11, 12] (fun s11 s12 wi => ∃ (k : Nat) (g : Bool), k ≤ C.length ∧ s12 = .int .i64 (k : Int) ∧ s11 = .bool g ∧ Hid (g = true → x.1.box.length ≤ 100 ∧ ∀ y ∈ C.take k, y.1.who ≠ x.1.who) ∧ OwnL encC 73 34 wy.heap.size wi (.slice Ac C.length cc) C ∧ Below wy.heap.size wy wi) (fun _ s12 _ => C.length - (intOf s12).toNat)
        case atStart => exact ⟨0, f0, Nat.zero_le _, rfl, rfl, Lib.hid (fun h => ⟨HF.out h, fun y hy => by simp at hy⟩), ho, hb⟩
        case round =>
          clear cw cb hf0 hrow hCr ho hb
          obtain ⟨k, g, hk, rfl, rfl, HG, ho, hb⟩ := hrel
          have hrow := hcr.below hb
          have cw := crow_who hrow HXI.out
          by_cases hlk : k < C.length
          · have hlk' : (k : Int) < (C.length : Int) := by omega
            obtain ⟨y, hy⟩ : ∃ y, C[k]? = some y := ⟨_, List.getElem?_eq_getElem hlk⟩
            obtain ⟨Ad, cd, e, hCr⟩ := OwnL.row ho encC_len
            cases e
            obtain ⟨b2, o2, rfl, -⟩ := hCr.at_ (by omega)
            have cy := crow_who hCr hy
            have HY := Lib.hid hy
            clear hy
            cases g with
            | false =>
              go_upto_region 11 with fail
              go_quiet (fail)
              go_wp2_with fail
              go_roundw
              case rel => exact ⟨k + 1, false, by omega, by go_num, rfl, Lib.hid (fun h => by cases h), OwnL.below ho (below_drewN (Below.refl _ _) _), below_drewN hb _⟩
              case measure => simp [intOf]; omega
            | true =>
              by_cases hyx : y.1.who = x.1.who
              · go_upto_region 11 with fail
                go_quiet (fail)
                go_wp2_with fail
                go_roundw
                case rel => exact ⟨k + 1, false, by omega, by go_num, rfl, Lib.hid (fun h => by cases h), OwnL.below ho (below_drewN (Below.refl _ _) _), below_drewN hb _⟩
                case measure => simp [intOf]; omega
              · go_upto_region 11 with fail
                go_quiet (fail)
                go_wp2_with fail
                go_roundw
                case rel => exact ⟨k + 1, true, by omega, by go_num, congrArg Value.bool (bne_iff_ne.2 hyx), Lib.hid (fun h => ⟨(HG.out h).1, fun z hz => by
                  rw [List.take_add_one, HY.out, Option.toList_some] at hz
                  rcases List.mem_append.1 hz with h1 | h1
                  · exact (HG.out h).2 z h1
                  · obtain rfl := List.mem_singleton.1 h1; exact hyx⟩), OwnL.below ho (below_drewN (Below.refl _ _) _), below_drewN hb _⟩
                case measure => simp [intOf]; omega
          · have hlk' : ¬ (k : Int) < (C.length : Int) := by omega
            cases g with
            | false =>
              go_wp2_with fail
              go_roundw
              case rel => exact ⟨i + 1, C, by omega, by go_num, ho, HP, hC, hb⟩
              case measure => simp [intOf]; omega
            | true =>
              have HN : Hid (Picks (C ++ [x])) := Lib.hid (HP.out.snoc (HG.out rfl).1 (HW.out x (List.mem_of_getElem? HXI.out)) (fun y hy => (HG.out rfl).2 y (by rw [List.take_of_length_le (by omega)]; exact hy)))
              have hrg := crow_range hrow HXI.out
              go_wp2_with (first
                | (refine wpList_load_mid rfl 73 _ rfl b (o + i * 34) rfl (comCells x.1) _ hrg Tryz.underlying73 rfl (by rw [comCells_len x.2]; exact com_size) ?_)
                | (refine wpList_plain rfl fun K hK => wp_buildSliceTo 84 73 1 _ rfl Tryz.underlying84 (comA x.1) (by simp [Act.eval]; exact com_slice1 x.1 x.2) (hK _ _ ?_))
                | (refine wp_append_row (enc := encC) Tryz.underlying84 com_info (comA_size (c := comZero) rfl) (by decide) (by decide) rfl _ _ rfl x rfl (encC_len x) (encC_one x) rfl ho rfl (by omega) hb.size ?_; intro v1 w1 ho1 hg1))
              go_roundw
              case rel => exact ⟨i + 1, C ++ [x], by omega, by go_num, ho1, HN, by rw [List.length_append]; simp; omega, hb.grown hg1 hb.size (own_high ho)⟩
              case measure => simp [intOf]; omega
      · have hend : ¬ (i : Int) < (m : Int) ∨ ¬ (C.length : Int) < 12 := by omega
        obtain ⟨Ac, cc, rfl, hCr⟩ := OwnL.row ho encC_len
        by_cases hi : i < m
        · have hlt' : (i : Int) < (m : Int) := by omega
          have hC12' : ¬ (C.length : Int) < 12 := by omega
          go_wp2_with fail
          go_meet
          exact ⟨C, ho, HP, hC, hb⟩
        · have hlt' : ¬ (i : Int) < (m : Int) := by omega
          go_wp2_with fail
          go_meet
          exact ⟨C, ho, HP, hC, hb⟩
  obtain ⟨C, ho, HP, hC, hb⟩ := hcut
  obtain ⟨Ac, cc, rfl, hCr⟩ := OwnL.row ho encC_len
  replace kA := kA.below hb kA.lt
  replace kQ := kQ.below hb kQ.lt
  replace hB := below_then hB hb
  clear ho hb hcr HW HM hcl
  obtain ⟨L, hL⟩ : ∃ L, L = C.length := ⟨_, rfl⟩
  have HL := Lib.hid hL
  rw [← hL] at hCr hC ⊢
  clear hL
  rename World => w5
  go_upto_block 4 with fail
  go_cut [13] (fun s13 wx => ∃ (At : Option Addr) (ct : Nat), s13 = .slice At L ct ∧ CRow wx At L ct C.reverse ∧ Below w5.heap.size w5 wx)
  case first =>
    go_wp2_with fail
    go_loopw [13, 14] (fun s13 s14 wr => ∃ (p : Nat) (z : Int), p ≤ L ∧ s14 = .int .i64 z ∧ z = (p : Int) - 1 ∧ OwnL encC 73 34 w5.heap.size wr s13 (C.reverse.take (L - p)) ∧ Below w5.heap.size w5 wr) (fun _ s14 _ => (intOf s14 + 1).toNat)
    case atStart => exact ⟨L, _, Nat.le_refl _, rfl, rfl, by rw [Nat.sub_self]; exact OwnL.nil_ _ _ _ _ _, Below.refl _ _⟩
    case round =>
      obtain ⟨p, z, hp, rfl, hz, ho, hb⟩ := hrel
      cases p with
      | zero =>
        have hz0 : ¬ (0 : Int) ≤ z := by omega
        rw [Nat.sub_zero, List.take_of_length_le (by rw [List.length_reverse, HL.out]; exact Nat.le_refl _)] at ho
        obtain ⟨At, ct, rfl, hrow⟩ := OwnL.row ho encC_len
        have hll : C.reverse.length = L := by rw [List.length_reverse, HL.out]
        rw [hll] at hrow ⊢
        clear hz
        go_wp2_with fail
        go_meet
        exact ⟨At, ct, rfl, hrow, hb⟩
      | succ p =>
        obtain rfl : z = (p : Int) := by omega
        have hpL : (p : Int) < (L : Int) := by omega
        have hrow := hCr.below hb
        obtain ⟨x, hx⟩ : ∃ x, C[p]? = some x := ⟨_, List.getElem?_eq_getElem (by have := HL.out; omega)⟩
        obtain ⟨b, o, rfl, -⟩ := hrow.at_ (by omega)
        have hrg := crow_range hrow hx
        have HT2 : Hid (C.reverse.take (L - p) = C.reverse.take (L - (p + 1)) ++ [x]) := Lib.hid (by
          have e1 : L - p = (L - (p + 1)) + 1 := by omega
          have e2 : C.reverse[L - (p + 1)]? = some x := by
            rw [List.getElem?_reverse (by have := HL.out; omega), ← HL.out, show L - 1 - (L - (p + 1)) = p by omega, hx]
          rw [e1, List.take_add_one, e2, Option.toList_some])
        have hlt : (C.reverse.take (L - (p + 1))).length ≤ 12 := by rw [List.length_take]; omega
        clear hz hx
        go_wp2_with (first
          | (refine wpList_load_mid rfl 73 _ rfl b (o + p * 34) rfl (comCells x.1) _ hrg Tryz.underlying73 rfl (by rw [comCells_len x.2]; exact com_size) ?_)
          | (refine wpList_plain rfl fun K hK => wp_buildSliceTo 84 73 1 _ rfl Tryz.underlying84 (comA x.1) (by simp [Act.eval]; exact com_slice1 x.1 x.2) (hK _ _ ?_))
          | (refine wp_append_row (enc := encC) Tryz.underlying84 com_info (comA_size (c := comZero) rfl) (by decide) (by decide) rfl _ _ rfl x rfl (encC_len x) (encC_one x) rfl ho rfl (by omega) hb.size ?_; intro v1 w1 ho1 hg1))
        go_roundw
        case rel => exact ⟨p, (p : Int) - 1, by omega, rfl, rfl, by rw [HT2.out]; exact ho1, hb.grown hg1 hb.size (own_high ho)⟩
        case measure => simp [intOf]
  obtain ⟨At, ct, rfl, hTr, hb⟩ := hcut
  replace hCr := hCr.below hb
  replace kA := kA.below hb kA.lt
  replace kQ := kQ.below hb kQ.lt
  replace hB := below_then hB hb
  clear hb
  rename World => w6
  obtain ⟨h1h, hh1⟩ : ∃ g, g = shaS (lockL r0 (sortL (C.map (·.1)))) := ⟨_, rfl⟩
  have hl1 : h1h.length = 32 := by rw [hh1]; exact sha_len _
  have HL1 := Lib.hid hl1
  have e1 : lockedR r0 (C.map (·.1)) = (h1h, 0) := by rw [hh1]; exact locked_ok (by rw [List.length_map]; have := HL.out; omega) HP.out.one (picks_box HP.out)
  have e2 : lockedR r0 (C.reverse.map (·.1)) = (h1h, 0) := by
    have hp : (C.reverse.map (·.1)).Perm (C.map (·.1)) := (List.reverse_perm C).map _
    rw [hh1, ← sortL_of_perm HP.out.one hp]
    exact locked_ok (by rw [List.length_map, List.length_reverse]; have := HL.out; omega) ((single_perm hp).2 HP.out.one) (fun x hx => picks_box HP.out x (hp.mem_iff.1 hx))
  have mp := Lib.hid (fun W hT h => Locked_q r0 h1 Ac L cc C HP.out.who (by omega) W hT h)
  have mt := Lib.hid (fun W hT h => Locked_q r0 h1 At L ct C.reverse (fun x hx => HP.out.who x (List.mem_reverse.1 hx)) (by omega) W hT h)
  rw [e1] at mp
  rw [e2] at mt
  have hEq := fun w => run_eq_hash hl1 hl1 9998 w
  have HH1 := Lib.hid hh1
  clear e1 e2 hh1 hl1
  have c0 : w6.cell? ⟨BA, 0, none⟩ = some (.int .i64 r0) := kA.cell 0
  go_upto_region 20 with (first
    | (go_at_call 59; (with_reducible refine (mp.out _ ?_ hCr).mono ?_); exact HT.out.below hB; rintro e wx ⟨rfl, hb⟩; replace hCr := hCr.below hb; replace hTr := hTr.below hb; replace kA := kA.below hb kA.lt; replace kQ := kQ.below hb kQ.lt; replace hB := below_then hB hb; clear hb)
    | (refine wpList_store_rowTo rfl 71 _ _ rfl rfl _ (u8a h1h) rfl rfl _ _ (Blk.new _ _ _) (by rw [u8a_len HL1.out]; exact hash_size) (by rw [u8a_len HL1.out]; rfl) (u8a_one _) ?_))
  refine nameStored (u8a h1h) ?_
  intro w7 k1 hb
  replace hCr := hCr.below hb
  replace hTr := hTr.below hb
  replace kA := kA.below hb kA.lt
  replace kQ := kQ.below hb kQ.lt
  replace hB := below_then hB hb
  clear hb c0
  generalize wx.heap.size = G1 at k1 ⊢
  have c0 : w7.cell? ⟨BA, 0, none⟩ = some (.int .i64 r0) := kA.cell 0
  go_upto_region 21 with (first
    | (go_at_call 59; (with_reducible refine (mt.out _ ?_ hTr).mono ?_); exact HT.out.below hB; rintro e wv ⟨rfl, hb⟩; replace hCr := hCr.below hb; replace k1 := k1.below hb k1.lt; replace kA := kA.below hb kA.lt; replace kQ := kQ.below hb kQ.lt; replace hB := below_then hB hb; clear hb)
    | (refine wpList_store_rowTo rfl 71 _ _ rfl rfl _ (u8a h1h) rfl rfl _ _ (Blk.new _ _ _) (by rw [u8a_len HL1.out]; exact hash_size) (by rw [u8a_len HL1.out]; rfl) (u8a_one _) ?_))
  refine nameStored (u8a h1h) ?_
  intro w8 k2 hb
  replace hCr := hCr.below hb
  replace k1 := k1.below hb k1.lt
  replace kA := kA.below hb kA.lt
  replace kQ := kQ.below hb kQ.lt
  replace hB := below_then hB hb
  clear hb c0 hTr mt
  generalize wv.heap.size = G2 at k2 ⊢
  go_upto_region 23 with (first
    | (refine wpList_load_rowG (by rfl) 71 _ rfl _ rfl G1 rfl _ (u8a h1h) (0, 0) _ k1 Tryz.underlying71 rfl (by rw [u8a_len HL1.out]; exact hash_size) ?_)
    | (refine wpList_load_rowG (by rfl) 71 _ rfl _ rfl G2 rfl _ (u8a h1h) (0, 0) _ k2 Tryz.underlying71 rfl (by rw [u8a_len HL1.out]; exact hash_size) ?_))
  clear k2 hEq
  have hal := below_al (Below.refl w8.heap.size w8) (.cells #[] 73)
  have hrow0 := hCr.below hal
  have ho0 : OwnL encC 73 34 w8.heap.size (w8.alloc (.cells #[] 73)) (.slice (some ⟨w8.heap.size, 0, none⟩) 0 0) [] := OwnL.empty encC _ 34 (Blk.new w8 73 #[]) (Nat.le_refl _)
  go_upto_region 24 with (refine wp_append_rows (enc := encC) (B := w8.heap.size) Tryz.underlying84 com_info (comA_size (c := comZero) rfl) (by decide) (by decide) rfl (.tmp 115) (.tmp 116) rfl encC_len encC_one rfl ho0 rfl hrow0 (by simp) (by omega) hal.size ?_; intro v1 w9 ho1 hg1)
  have hb : Below w8.heap.size w8 w9 := hal.grown hg1 hal.size (fun k e => by cases e; exact Nat.le_refl _)
  rw [List.nil_append] at ho1
  clear hal hrow0 ho0 hg1
  have HHEQ := Lib.hid (fun (g h : List UInt8) (hg : g.length = 32) (hh : h.length = 32) (w : World) => run_eq_hash hg hh 9998 w)
  obtain ⟨Ao, co, ev1, hrow1⟩ := OwnL.row ho1 encC_len
  rw [← HL.out] at ev1 hrow1
  subst ev1
  go_upto_if 120 with fail
  go_cut [20] (fun _ wx => ∃ C2 : List C32, CRow wx Ao L co C2 ∧ Hid (Picks C2) ∧ Below w8.heap.size w8 wx)
  case first =>
    by_cases hL0 : 0 < L
    · skip
      obtain ⟨L1, hL1⟩ : ∃ L1, L = L1 + 1 := ⟨L - 1, by omega⟩
      rcases OwnL.at_ ho1 encC_len with ⟨_, hnil⟩ | ⟨g, co', e1, hco, hgB, hgl, hcell⟩
      · exact absurd HL.out (by rw [hnil, List.length_nil]; omega)
      · rw [← HL.out] at hco
        injection e1 with ea el ec
        subst ea ec
        clear el
        obtain ⟨k, hk, hkL⟩ : ∃ k : Nat, q0 % (L : Int) = (k : Int) ∧ k < L := ⟨(q0 % (L : Int)).toNat, by have := Int.emod_nonneg q0 (show (L : Int) ≠ 0 by omega); omega, by have := Int.emod_lt_of_pos q0 (show (0 : Int) < (L : Int) by omega); have := Int.emod_nonneg q0 (show (L : Int) ≠ 0 by omega); omega⟩
        have mm : Hid (Ret 54 #[.int .i64 q0, .int .i64 (L : Int)] (.int .i64 (k : Int))) := Lib.hid (hk ▸ Mod_q q0 (L : Int) (by omega) (by omega))
        obtain ⟨x, hx⟩ : ∃ x, C[k]? = some x := ⟨_, List.getElem?_eq_getElem (by rw [← HL.out]; exact hkL)⟩
        obtain ⟨y, hy⟩ := byteQ_of q1
        obtain ⟨c33, f33⟩ := hcell k 33 x _ hx (com_box_list x.2)
        have hLz : (0 : Int) < (L : Int) := by omega
        have hkz : (k : Int) < (L : Int) := by omega
        have hkz0 : (0 : Int) ≤ (k : Int) := by omega
        have HK := Lib.hid (And.intro hk hL1)
        clear hcell hk hL1 hkL
        have cq0 : w9.cell? ⟨BA + 1, 0, none⟩ = some (.int .i64 q0) := (kQ.below hb kQ.lt).cell 0
        go_upto_region 26 with (go_at_call 54; (with_reducible refine (mm.out _).mono ?_); rintro e wb ⟨rfl, hbb⟩)
        have cq1 : wb.cell? ⟨BA + 1, 1, none⟩ = some (.int .i64 q1) := (kQ.below (below_then hb hbb) kQ.lt).cell 1
        replace f33 := frozen_c hbb c33 f33
        replace c33 := cell_b hbb c33
        replace hrow1 := hrow1.below hbb
        have hb9 := below_then hb hbb
        clear cq0 mm hbb
        have hcv : (convert 22 9 (.slice (some ⟨wb.heap.size, 0, none⟩) 1 1)).run Tryz.prog (wb.alloc (.cells #[.int .u8 (y.toNat : Int)] 5)) = .ok (.string ⟨[y].toArray⟩) (wb.alloc (.cells #[.int .u8 (y.toNat : Int)] 5)) :=
          run_bdg_str ((Blk.new wb 5 (u8a [y])).bdg rfl (Nat.le_refl _))
        have hadd : (⟨#[y]⟩ : ByteArray) ++ ⟨#[120]⟩ = strB [y, 120] := rfl
        have hbn := below_al (Below.refl wb.heap.size wb) (.cells #[.int .u8 (y.toNat : Int)] 5)
        have c33n := cell_b hbn c33
        have f33n := frozen_c hbn c33 f33
        replace hrow1 := hrow1.below hbn
        have hb10 := below_then hb9 hbn
        have HX := Lib.hid hx
        clear hx hb9 hbn c33 f33
        go_upto_region 27 with fail
        have hrow2 := CRow.setBox hrow1 HX.out [y, 120]
        have hb11 := below_set hb10 (p := ⟨g, k * 34 + 33, none⟩) hgB (.string (strB [y, 120]))
        have HP2 : Hid (Picks (C.set k ⟨⟨x.1.who, x.1.hash, [y, 120]⟩, x.2⟩)) := Lib.hid (HP.out.set HX.out (by simp))
        generalize C.set k ⟨⟨x.1.who, x.1.hash, [y, 120]⟩, x.2⟩ = C2 at hrow2 HP2
        clear hcv hadd c33n f33n hrow1 hb10 cq1 hy HX
        generalize World.setCell (wb.alloc (.cells #[.int .u8 (y.toNat : Int)] 5)) ⟨g, k * 34 + 33, none⟩ (.string (strB [y, 120])) = w10 at hrow2 hb11 ⊢
        clear hb ho1 hco hgl
        have hb10 := hb11
        clear hb11
        obtain ⟨-, rfl⟩ := HK.out
        obtain ⟨b, o, rfl, -⟩ := hCr.at_ (by omega)
        have hRr0 := (CRow.rest hCr).below hb10
        have hcap := hCr.cap
        obtain ⟨c1, hc1⟩ : ∃ c1, c1 = cc - 1 := ⟨_, rfl⟩
        rw [← hc1] at hRr0
        obtain ⟨o2, ho2⟩ : ∃ o2, o2 = if cc = 1 then o else o + 34 := ⟨_, rfl⟩
        have hRr : CRow w10 (some ⟨b, o2, none⟩) L1 c1 (C.drop 1) := by
          rw [ho2]
          split
          · exact ⟨hRr0.len, hRr0.cap, fun h => absurd h (by omega)⟩
          · exact hRr0
        have hcc : (if cc = 1 then some (⟨b, o, none⟩ : Addr) else some ⟨b, o + 34, none⟩) = some ⟨b, o2, none⟩ := by rw [ho2]; split <;> rfl
        have hcm : cc - 1 = c1 := hc1.symm
        have h1L : (1 : Int) ≤ (L1 : Int) + 1 := by omega
        clear ho2 hRr0
        obtain ⟨h2h, hh2⟩ : ∃ g, g = shaS (lockL r0 (sortL ((C.drop 1).map (·.1)))) := ⟨_, rfl⟩
        have hl2 : h2h.length = 32 := by rw [hh2]; exact sha_len _
        have HL2 := Lib.hid hl2
        have HPr := Lib.hid (picks_rest HP.out)
        have e3 : lockedR r0 ((C.drop 1).map (·.1)) = (h2h, 0) := by rw [hh2]; exact locked_ok (by rw [List.length_map, List.length_drop]; have := HL.out; omega) HPr.out.one (picks_box HPr.out)
        have ms := Lib.hid (fun W hT h => Locked_q r0 h1 (some ⟨b, o2, none⟩) L1 c1 (C.drop 1) HPr.out.who (by omega) W hT h)
        rw [e3] at ms
        have mR := Lib.hid (fun W h => rListed_q r0 h1 (some ⟨b, o2, none⟩) L1 c1 (C.drop 1) HPr.out.who HPr.out.box HPr.out.one (by omega) W h)
        have mC := Lib.hid (fun W h => rListed_q r0 h1 (some ⟨b, o, none⟩) (L1 + 1) cc C HP.out.who HP.out.box HP.out.one (by omega) W h)
        have zR := lockL_size h1 HPr.out.who HPr.out.box (by rw [List.length_drop]; have := HL.out; omega)
        have zC := lockL_size h1 HP.out.who HP.out.box (by have := HL.out; omega)
        have HH2 := Lib.hid (And.intro hh2 hc1)
        clear e3 hh2 hc1
        go_upto_region 27 with fail
        go_cut [21] (fun s21 wx => ∃ G3, s21 = .pointer (some ⟨G3, 0, none⟩) ∧ Blk wx G3 71 (u8a h2h) ∧ Below w10.heap.size w10 wx)
        case first =>
          have hd := (Below.refl w10.heap.size w10).drew
          refine region_here (fun Z : World => Z.cell? ⟨BA, 0, none⟩ = some (.int .i64 r0) ∧ Below w10.heap.size w10 Z) 10 (by kernel_rfl) ⟨(kA.below (below_then hb10 hd) kA.lt).cell 0, hd⟩ (fun hHeld => ?_)
          refine wpAnyS_take [1, 4, 5, 6, 7, 9, 10] (i := 0) (oi := ⟨_, _, _, _, _, _⟩) (v := ?_) (by simp) (by kernel_rfl) rfl (by kernel_rfl) (by kernel_rfl) (by kernel_rfl) (fun _ _ _ h => h) (Or.inl ⟨by rfl, ?_⟩) (by assumption) ?_
          rotate_left
          · (intro w hSw; (try dsimp only at hSw); go_simp; try with_reducible rfl)
          try simp only [Act.put, List.setIfInBounds_toArray, List.set_cons_zero, List.set_cons_succ]
          refine wpAnyS_take [4, 5, 6, 7, 9, 10] (i := 1) (oi := ⟨_, _, _, _, _, _⟩) (v := ?_) (by simp) (by kernel_rfl) rfl (by kernel_rfl) (by kernel_rfl) (by kernel_rfl) (fun _ _ _ h => h) (Or.inl ⟨by rfl, ?_⟩) (by assumption) ?_
          rotate_left
          · (intro w hSw; (try dsimp only at hSw); go_simp; try with_reducible rfl)
          try simp only [Act.put, List.setIfInBounds_toArray, List.set_cons_zero, List.set_cons_succ]
          refine wpAnyS_take [3, 4, 5, 6, 7, 9, 10] (i := 2) (oi := ⟨_, _, _, _, _, _⟩) (v := ?_) (by simp) (by kernel_rfl) rfl (by kernel_rfl) (by kernel_rfl) (by kernel_rfl) (fun _ _ _ h => h) (Or.inl ⟨by rfl, ?_⟩) (by assumption) ?_
          rotate_left
          · (intro w hSw; (try dsimp only at hSw); go_simp; try with_reducible rfl)
          try simp only [Act.put, List.setIfInBounds_toArray, List.set_cons_zero, List.set_cons_succ]
          refine wpAnyS_take [4, 5, 6, 7, 9, 10] (i := 3) (oi := ⟨_, _, _, _, _, _⟩) (v := (.slice (some ⟨b, o2, none⟩) L1 c1)) (by simp) (by kernel_rfl) rfl (by kernel_rfl) (by kernel_rfl) (by kernel_rfl) (fun _ _ _ h => h) (Or.inl ⟨by rfl, by intro w hSw; (try dsimp only at hSw); go_simp; try with_reducible rfl⟩) (by assumption) ?_
          try simp only [Act.put, List.setIfInBounds_toArray, List.set_cons_zero, List.set_cons_succ]
          refine wpAnyS_two (i := 4) (j := 8) (oi := ⟨_, _, _, _, _, _⟩) (oj := ⟨_, _, _, _, _, _⟩) rfl rfl (by kernel_rfl) (fun K hK => ?_) (fun K hK => ?_)
          · skip
            go_simp
            go_at_call 59
            (refine (ms.out _ (HT.out.below (below_then (below_then hB hb10) hHeld.2)) (hRr.below hHeld.2)).mono ?_)
            rintro e wa ⟨rfl, hba⟩
            (try go_wp2_with fail)
            refine hK.out _ _ ?_ (fun hHeld4 => ?_)
            · exact ⟨cell_b hba hHeld.1, below_then hHeld.2 hba⟩
            clear hK K
            try simp only [Act.put, List.setIfInBounds_toArray, List.set_cons_zero, List.set_cons_succ]
            refine wpAnyS_take [6, 7, 9, 10] (i := 5) (oi := ⟨_, _, _, _, _, _⟩) (v := ?_) (by simp) (by kernel_rfl) rfl (by kernel_rfl) (by kernel_rfl) (by kernel_rfl) (fun _ _ _ h => h) (Or.inl ⟨by rfl, ?_⟩) (by assumption) ?_
            rotate_left
            · (intro w hSw; (try dsimp only at hSw); go_simp; try with_reducible rfl)
            try simp only [Act.put, List.setIfInBounds_toArray, List.set_cons_zero, List.set_cons_succ]
            refine wpAnyS_take [9, 10] (i := 6) (oi := ⟨_, _, _, _, _, _⟩) (v := ?_) (by simp) (by kernel_rfl) rfl (by kernel_rfl) (by kernel_rfl) (by kernel_rfl) (fun _ _ _ h => h) (Or.inl ⟨by rfl, ?_⟩) (by assumption) ?_
            rotate_left
            · (intro w hSw; (try dsimp only at hSw); go_simp; try with_reducible rfl)
            try simp only [Act.put, List.setIfInBounds_toArray, List.set_cons_zero, List.set_cons_succ]
            refine wpAnyS_take [10] (i := 7) (oi := ⟨_, _, _, _, _, _⟩) (v := ?_) (by simp) (by kernel_rfl) rfl (by kernel_rfl) (by kernel_rfl) (by kernel_rfl) (fun _ _ _ h => h) (Or.inl ⟨by rfl, ?_⟩) (by assumption) ?_
            rotate_left
            · (intro w hSw; (try dsimp only at hSw); go_simp; try with_reducible rfl)
            try simp only [Act.put, List.setIfInBounds_toArray, List.set_cons_zero, List.set_cons_succ]
            refine wpAnyS_one (i := 8) (oi := ⟨_, _, _, _, _, _⟩) rfl (by kernel_rfl) (fun K hK => ?_)
            go_simp
            first
              | (have kz : Blk (wa.alloc (.cells #[.int .u8 0, .int .u8 0, .int .u8 0, .int .u8 0, .int .u8 0, .int .u8 0, .int .u8 0, .int .u8 0, .int .u8 0, .int .u8 0, .int .u8 0, .int .u8 0, .int .u8 0, .int .u8 0, .int .u8 0, .int .u8 0, .int .u8 0, .int .u8 0, .int .u8 0, .int .u8 0, .int .u8 0, .int .u8 0, .int .u8 0, .int .u8 0, .int .u8 0, .int .u8 0, .int .u8 0, .int .u8 0, .int .u8 0, .int .u8 0, .int .u8 0, .int .u8 0] 71)) wa.heap.size 71 #[.int .u8 0, .int .u8 0, .int .u8 0, .int .u8 0, .int .u8 0, .int .u8 0, .int .u8 0, .int .u8 0, .int .u8 0, .int .u8 0, .int .u8 0, .int .u8 0, .int .u8 0, .int .u8 0, .int .u8 0, .int .u8 0, .int .u8 0, .int .u8 0, .int .u8 0, .int .u8 0, .int .u8 0, .int .u8 0, .int .u8 0, .int .u8 0, .int .u8 0, .int .u8 0, .int .u8 0, .int .u8 0, .int .u8 0, .int .u8 0, .int .u8 0, .int .u8 0] := Blk.new wa _ _)
              | (have kz : Blk ((w10.alloc (.cells #[.int .u8 0, .int .u8 0, .int .u8 0, .int .u8 0, .int .u8 0, .int .u8 0, .int .u8 0, .int .u8 0, .int .u8 0, .int .u8 0, .int .u8 0, .int .u8 0, .int .u8 0, .int .u8 0, .int .u8 0, .int .u8 0, .int .u8 0, .int .u8 0, .int .u8 0, .int .u8 0, .int .u8 0, .int .u8 0, .int .u8 0, .int .u8 0, .int .u8 0, .int .u8 0, .int .u8 0, .int .u8 0, .int .u8 0, .int .u8 0, .int .u8 0, .int .u8 0] 71)).drew) w10.heap.size 71 #[.int .u8 0, .int .u8 0, .int .u8 0, .int .u8 0, .int .u8 0, .int .u8 0, .int .u8 0, .int .u8 0, .int .u8 0, .int .u8 0, .int .u8 0, .int .u8 0, .int .u8 0, .int .u8 0, .int .u8 0, .int .u8 0, .int .u8 0, .int .u8 0, .int .u8 0, .int .u8 0, .int .u8 0, .int .u8 0, .int .u8 0, .int .u8 0, .int .u8 0, .int .u8 0, .int .u8 0, .int .u8 0, .int .u8 0, .int .u8 0, .int .u8 0, .int .u8 0] := Blk.new w10.drew _ _)
            refine hK.out _ _ ?_ (fun hHeld8 => ?_)
            · exact ⟨cell_b (below_al (Below.refl _ _) _) hHeld4.1, below_al hHeld4.2 _⟩
            clear hK K
            try simp only [Act.put, List.setIfInBounds_toArray, List.set_cons_zero, List.set_cons_succ]
            refine wpAnyS_one (i := 9) (oi := ⟨_, _, _, _, _, _⟩) rfl (by kernel_rfl) (fun K hK => ?_)
            rw [if_pos (by rfl)]
            first
              | (refine wp_store_row 71 _ _ rfl _ (u8a h2h) rfl rfl _ _ kz (by rw [u8a_len HL2.out]; exact hash_size) (by rw [u8a_len HL2.out]; rfl) (u8a_one _) ?_)
              | (refine wp_store_row 71 _ _ rfl _ (u8a h2h) rfl rfl _ _ (kz.below hba kz.lt) (by rw [u8a_len HL2.out]; exact hash_size) (by rw [u8a_len HL2.out]; rfl) (u8a_one _) ?_)
            refine hK.out _ _ ?_ (fun hHeld9 => ?_)
            · (refine ⟨?_, (below_setRow hHeld8.2 (by first | exact Nat.le_refl _ | exact (below_then hHeld.2 hba).size) _)⟩; exact (kA.below (below_then hb10 (below_setRow hHeld8.2 (by first | exact Nat.le_refl _ | exact (below_then hHeld.2 hba).size) _)) kA.lt).cell 0)
            clear hK K
            try simp only [Act.put]
            refine wpAnyS_call (k := 10) (ok := ⟨_, _, _, _, _, _⟩) rfl (by kernel_rfl) (by kernel_rfl) (fun K hK => ?_)
            go_simp
            refine hK.out _ _ ?_
            clear hK K
            try simp only [Act.put, List.setIfInBounds_toArray, List.set_cons_zero, List.set_cons_succ]
            refine wpAny_done (by kernel_rfl) ?_ _
            go_wp2_with fail
            go_meet
            first
              | exact ⟨_, rfl, kz.rowA _, hHeld9.2⟩
              | exact ⟨_, rfl, (kz.below hba kz.lt).rowA _, hHeld9.2⟩
          · skip
            go_simp
            first
              | (have kz : Blk (wa.alloc (.cells #[.int .u8 0, .int .u8 0, .int .u8 0, .int .u8 0, .int .u8 0, .int .u8 0, .int .u8 0, .int .u8 0, .int .u8 0, .int .u8 0, .int .u8 0, .int .u8 0, .int .u8 0, .int .u8 0, .int .u8 0, .int .u8 0, .int .u8 0, .int .u8 0, .int .u8 0, .int .u8 0, .int .u8 0, .int .u8 0, .int .u8 0, .int .u8 0, .int .u8 0, .int .u8 0, .int .u8 0, .int .u8 0, .int .u8 0, .int .u8 0, .int .u8 0, .int .u8 0] 71)) wa.heap.size 71 #[.int .u8 0, .int .u8 0, .int .u8 0, .int .u8 0, .int .u8 0, .int .u8 0, .int .u8 0, .int .u8 0, .int .u8 0, .int .u8 0, .int .u8 0, .int .u8 0, .int .u8 0, .int .u8 0, .int .u8 0, .int .u8 0, .int .u8 0, .int .u8 0, .int .u8 0, .int .u8 0, .int .u8 0, .int .u8 0, .int .u8 0, .int .u8 0, .int .u8 0, .int .u8 0, .int .u8 0, .int .u8 0, .int .u8 0, .int .u8 0, .int .u8 0, .int .u8 0] := Blk.new wa _ _)
              | (have kz : Blk ((w10.alloc (.cells #[.int .u8 0, .int .u8 0, .int .u8 0, .int .u8 0, .int .u8 0, .int .u8 0, .int .u8 0, .int .u8 0, .int .u8 0, .int .u8 0, .int .u8 0, .int .u8 0, .int .u8 0, .int .u8 0, .int .u8 0, .int .u8 0, .int .u8 0, .int .u8 0, .int .u8 0, .int .u8 0, .int .u8 0, .int .u8 0, .int .u8 0, .int .u8 0, .int .u8 0, .int .u8 0, .int .u8 0, .int .u8 0, .int .u8 0, .int .u8 0, .int .u8 0, .int .u8 0] 71)).drew) w10.heap.size 71 #[.int .u8 0, .int .u8 0, .int .u8 0, .int .u8 0, .int .u8 0, .int .u8 0, .int .u8 0, .int .u8 0, .int .u8 0, .int .u8 0, .int .u8 0, .int .u8 0, .int .u8 0, .int .u8 0, .int .u8 0, .int .u8 0, .int .u8 0, .int .u8 0, .int .u8 0, .int .u8 0, .int .u8 0, .int .u8 0, .int .u8 0, .int .u8 0, .int .u8 0, .int .u8 0, .int .u8 0, .int .u8 0, .int .u8 0, .int .u8 0, .int .u8 0, .int .u8 0] := Blk.new w10.drew _ _)
            refine hK.out _ _ ?_ (fun hHeld8 => ?_)
            · exact ⟨cell_b (below_al (Below.refl _ _) _) hHeld.1, below_al hHeld.2 _⟩
            clear hK K
            try simp only [Act.put, List.setIfInBounds_toArray, List.set_cons_zero, List.set_cons_succ]
            refine wpAnyS_one (i := 4) (oi := ⟨_, _, _, _, _, _⟩) rfl (by kernel_rfl) (fun K hK => ?_)
            go_simp
            go_at_call 59
            (refine (ms.out _ (HT.out.below (below_then (below_then hB hb10) hHeld8.2)) (hRr.below hHeld8.2)).mono ?_)
            rintro e wa ⟨rfl, hba⟩
            (try go_wp2_with fail)
            refine hK.out _ _ ?_ (fun hHeld4 => ?_)
            · exact ⟨cell_b hba hHeld8.1, below_then hHeld8.2 hba⟩
            clear hK K
            try simp only [Act.put, List.setIfInBounds_toArray, List.set_cons_zero, List.set_cons_succ]
            refine wpAnyS_take [6, 7, 9, 10] (i := 5) (oi := ⟨_, _, _, _, _, _⟩) (v := ?_) (by simp) (by kernel_rfl) rfl (by kernel_rfl) (by kernel_rfl) (by kernel_rfl) (fun _ _ _ h => h) (Or.inl ⟨by rfl, ?_⟩) (by assumption) ?_
            rotate_left
            · (intro w hSw; (try dsimp only at hSw); go_simp; try with_reducible rfl)
            try simp only [Act.put, List.setIfInBounds_toArray, List.set_cons_zero, List.set_cons_succ]
            refine wpAnyS_take [9, 10] (i := 6) (oi := ⟨_, _, _, _, _, _⟩) (v := ?_) (by simp) (by kernel_rfl) rfl (by kernel_rfl) (by kernel_rfl) (by kernel_rfl) (fun _ _ _ h => h) (Or.inl ⟨by rfl, ?_⟩) (by assumption) ?_
            rotate_left
            · (intro w hSw; (try dsimp only at hSw); go_simp; try with_reducible rfl)
            try simp only [Act.put, List.setIfInBounds_toArray, List.set_cons_zero, List.set_cons_succ]
            refine wpAnyS_take [10] (i := 7) (oi := ⟨_, _, _, _, _, _⟩) (v := ?_) (by simp) (by kernel_rfl) rfl (by kernel_rfl) (by kernel_rfl) (by kernel_rfl) (fun _ _ _ h => h) (Or.inl ⟨by rfl, ?_⟩) (by assumption) ?_
            rotate_left
            · (intro w hSw; (try dsimp only at hSw); go_simp; try with_reducible rfl)
            try simp only [Act.put, List.setIfInBounds_toArray, List.set_cons_zero, List.set_cons_succ]
            refine wpAnyS_one (i := 9) (oi := ⟨_, _, _, _, _, _⟩) rfl (by kernel_rfl) (fun K hK => ?_)
            rw [if_pos (by rfl)]
            first
              | (refine wp_store_row 71 _ _ rfl _ (u8a h2h) rfl rfl _ _ kz (by rw [u8a_len HL2.out]; exact hash_size) (by rw [u8a_len HL2.out]; rfl) (u8a_one _) ?_)
              | (refine wp_store_row 71 _ _ rfl _ (u8a h2h) rfl rfl _ _ (kz.below hba kz.lt) (by rw [u8a_len HL2.out]; exact hash_size) (by rw [u8a_len HL2.out]; rfl) (u8a_one _) ?_)
            refine hK.out _ _ ?_ (fun hHeld9 => ?_)
            · (refine ⟨?_, (below_setRow hHeld4.2 (by first | exact Nat.le_refl _ | exact (below_then hHeld.2 hba).size) _)⟩; exact (kA.below (below_then hb10 (below_setRow hHeld4.2 (by first | exact Nat.le_refl _ | exact (below_then hHeld.2 hba).size) _)) kA.lt).cell 0)
            clear hK K
            try simp only [Act.put]
            refine wpAnyS_call (k := 10) (ok := ⟨_, _, _, _, _, _⟩) rfl (by kernel_rfl) (by kernel_rfl) (fun K hK => ?_)
            go_simp
            refine hK.out _ _ ?_
            clear hK K
            try simp only [Act.put, List.setIfInBounds_toArray, List.set_cons_zero, List.set_cons_succ]
            refine wpAny_done (by kernel_rfl) ?_ _
            go_wp2_with fail
            go_meet
            first
              | exact ⟨_, rfl, kz.rowA _, hHeld9.2⟩
              | exact ⟨_, rfl, (kz.below hba kz.lt).rowA _, hHeld9.2⟩
        obtain ⟨G3, rfl, k3, hb11⟩ := hcut
        clear ms
        rename World => w11
        obtain ⟨ta, hta⟩ : ∃ t, t = strB (lockL r0 (sortL ((C.drop 1).map (·.1)))) := ⟨_, rfl⟩
        obtain ⟨tb, htb⟩ : ∃ t, t = strB (lockL r0 (sortL (C.map (·.1)))) := ⟨_, rfl⟩
        have HS : Hid (h2h = shaS ta.data.toList ∧ h1h = shaS tb.data.toList) := Lib.hid ⟨by rw [hta, strB_list]; exact HH2.out.1, by rw [htb, strB_list]; exact HH1.out⟩
        rw [← hta] at mR zR
        rw [← htb] at mC zC
        clear hta htb
        have mX := Lib.hid (clash_q ta tb zR zC)
        have k1z := k1.below (below_then hb10 hb11) k1.lt
        have cz0 : w11.cell? ⟨BA, 0, none⟩ = some (.int .i64 r0) := (kA.below (below_then hb10 hb11) kA.lt).cell 0
        have hEq := HHEQ.out h2h h1h HL2.out HL1.out
        go_upto_region 28 with fail
        have hd := (Below.refl w11.heap.size w11).drew
        replace hRr := hRr.below hb11
        replace hCr := hCr.below (below_then hb10 hb11)
        replace hrow2 := hrow2.below hb11
        replace hb10 := below_then hb10 hb11
        replace k1z := k1z.below hd k1z.lt
        replace k3 := k3.below hd k3.lt
        replace cz0 := cell_b hd cz0
        clear hb11 zR zC hl2 hcap
        refine region_here (fun Z : World => Z.cell? ⟨BA, 0, none⟩ = some (.int .i64 r0) ∧ Blk Z G1 71 (u8a h1h) ∧ Blk Z G3 71 (u8a h2h) ∧ Below w11.heap.size w11 Z) 27 (by kernel_rfl) ⟨cz0, k1z, k3, hd⟩ (fun hHeld => ?_)
        clear cz0 k1z k3 hd
        by_cases hg : h2h = h1h
        · by_cases ht : ta = tb
          · have hq := txt_same tb
            subst hg ht
            refine wpAnyS_take [2, 3, 4, 5, 6, 7, 8, 9, 10, 11, 12, 13, 14, 15, 16, 17, 18, 19, 20, 21, 22, 23, 24, 25, 26, 27] (i := 0) (oi := ⟨_, _, _, _, _, _⟩) (v := .agg (u8a h2h)) (by simp) (by kernel_rfl) rfl (by kernel_rfl) (by kernel_rfl) (by kernel_rfl) (fun _ _ _ h => h) (yieldsIf_load_mid (by rfl) 71 (.tmp 21) rfl G3 0 rfl (u8l h2h) _ (fun Z hZ => hash_range hZ.2.2.1) Tryz.underlying71 rfl (by rw [u8l_len, HL2.out]; exact hash_size)) (by assumption) ?_
            try simp only [Act.put, List.setIfInBounds_toArray, List.set_cons_zero, List.set_cons_succ]
            refine wpAnyS_take [2, 3, 4, 5, 6, 7, 8, 9, 10, 11, 12, 13, 14, 15, 16, 17, 18, 19, 20, 21, 22, 23, 24, 25, 26, 27] (i := 1) (oi := ⟨_, _, _, _, _, _⟩) (v := .agg (u8a h2h)) (by simp) (by kernel_rfl) rfl (by kernel_rfl) (by kernel_rfl) (by kernel_rfl) (fun _ _ _ h => h) (yieldsIf_load_mid (by rfl) 71 (.tmp 15) rfl G1 0 rfl (u8l h2h) _ (fun Z hZ => hash_range hZ.2.1) Tryz.underlying71 rfl (by rw [u8l_len, HL2.out]; exact hash_size)) (by assumption) ?_
            try simp only [Act.put, List.setIfInBounds_toArray, List.set_cons_zero, List.set_cons_succ]
            refine wpAnyS_take [3, 4, 5, 6, 7, 8, 9, 10, 11, 12, 13, 14, 15, 16, 17, 18, 19, 20, 21, 22, 23, 24, 25, 26, 27] (i := 2) (oi := ⟨_, _, _, _, _, _⟩) (v := ?_) (by simp) (by kernel_rfl) rfl (by kernel_rfl) (by kernel_rfl) (by kernel_rfl) (fun _ _ _ h => h) (Or.inl ⟨by rfl, ?_⟩) (by assumption) ?_
            rotate_left
            · (intro w hSw; (try dsimp only at hSw); go_simp; try with_reducible rfl)
            try simp only [Act.put, List.setIfInBounds_toArray, List.set_cons_zero, List.set_cons_succ]
            refine wpAnyS_take [4, 5, 6, 7, 8, 9, 10, 11, 12, 13, 14, 15, 16, 17, 18, 19, 20, 21, 22, 23, 24, 25, 26, 27] (i := 3) (oi := ⟨_, _, _, _, _, _⟩) (v := ?_) (by simp) (by kernel_rfl) rfl (by kernel_rfl) (by kernel_rfl) (by kernel_rfl) (fun _ _ _ h => h) (Or.inl ⟨by rfl, ?_⟩) (by assumption) ?_
            rotate_left
            · (intro w hSw; (try dsimp only at hSw); go_simp; try with_reducible rfl)
            try simp only [Act.put, List.setIfInBounds_toArray, List.set_cons_zero, List.set_cons_succ]
            refine wpAnyS_take [5, 8, 12, 13, 14, 15, 16, 17, 18, 19, 20, 21, 22, 23, 24, 25, 26, 27] (i := 4) (oi := ⟨_, _, _, _, _, _⟩) (v := ?_) (by simp) (by kernel_rfl) rfl (by kernel_rfl) (by kernel_rfl) (by kernel_rfl) (fun _ _ _ h => h) (Or.inl ⟨by rfl, ?_⟩) (by assumption) ?_
            rotate_left
            · (intro w hSw; (try dsimp only at hSw); go_simp; try with_reducible rfl)
            try simp only [Act.put, List.setIfInBounds_toArray, List.set_cons_zero, List.set_cons_succ]
            refine wpAnyS_take [8, 12, 13, 14, 15, 16, 17, 18, 19, 20, 21, 22, 23, 24, 25, 26, 27] (i := 5) (oi := ⟨_, _, _, _, _, _⟩) (v := ?_) (by simp) (by kernel_rfl) rfl (by kernel_rfl) (by kernel_rfl) (by kernel_rfl) (fun _ _ _ h => h) (Or.inl ⟨by rfl, ?_⟩) (by assumption) ?_
            rotate_left
            · (intro w hSw; (try dsimp only at hSw); go_simp; try with_reducible rfl)
            try simp only [Act.put, List.setIfInBounds_toArray, List.set_cons_zero, List.set_cons_succ]
            refine wpAnyS_take [7, 8, 12, 13, 14, 15, 16, 17, 18, 19, 20, 21, 22, 23, 24, 25, 26, 27] (i := 6) (oi := ⟨_, _, _, _, _, _⟩) (v := ?_) (by simp) (by kernel_rfl) rfl (by kernel_rfl) (by kernel_rfl) (by kernel_rfl) (fun _ _ _ h => h) (Or.inl ⟨by rfl, ?_⟩) (by assumption) ?_
            rotate_left
            · (intro w hSw; (try dsimp only at hSw); go_simp; try with_reducible rfl)
            try simp only [Act.put, List.setIfInBounds_toArray, List.set_cons_zero, List.set_cons_succ]
            refine wpAnyS_take [8, 12, 13, 14, 15, 16, 17, 18, 19, 20, 21, 22, 23, 24, 25, 26, 27] (i := 7) (oi := ⟨_, _, _, _, _, _⟩) (v := (.slice (some ⟨b, o2, none⟩) L1 c1)) (by simp) (by kernel_rfl) rfl (by kernel_rfl) (by kernel_rfl) (by kernel_rfl) (fun _ _ _ h => h) (Or.inl ⟨by rfl, by intro w hSw; (try dsimp only at hSw); go_simp; try with_reducible rfl⟩) (by assumption) ?_
            try simp only [Act.put, List.setIfInBounds_toArray, List.set_cons_zero, List.set_cons_succ]
            refine wpAnyS_take [10, 12, 13, 14, 15, 16, 17, 18, 19, 20, 21, 22, 23, 24, 25, 26, 27] (i := 9) (oi := ⟨_, _, _, _, _, _⟩) (v := ?_) (by simp) (by kernel_rfl) rfl (by kernel_rfl) (by kernel_rfl) (by kernel_rfl) (fun _ _ _ h => h) (Or.inl ⟨by rfl, ?_⟩) (by assumption) ?_
            rotate_left
            · (intro w hSw; (try dsimp only at hSw); go_simp; try with_reducible rfl)
            try simp only [Act.put, List.setIfInBounds_toArray, List.set_cons_zero, List.set_cons_succ]
            refine wpAnyS_take [12, 13, 14, 15, 16, 17, 18, 19, 20, 21, 22, 23, 24, 25, 26, 27] (i := 10) (oi := ⟨_, _, _, _, _, _⟩) (v := ?_) (by simp) (by kernel_rfl) rfl (by kernel_rfl) (by kernel_rfl) (by kernel_rfl) (fun _ _ _ h => h) (Or.inl ⟨by rfl, ?_⟩) (by assumption) ?_
            rotate_left
            · (intro w hSw; (try dsimp only at hSw); go_simp; try with_reducible rfl)
            try simp only [Act.put, List.setIfInBounds_toArray, List.set_cons_zero, List.set_cons_succ]
            refine wpAnyS_take [12, 13, 14, 15, 16, 17, 18, 19, 20, 21, 22, 23, 24, 25, 26, 27] (i := 11) (oi := ⟨_, _, _, _, _, _⟩) (v := ?_) (by simp) (by kernel_rfl) rfl (by kernel_rfl) (by kernel_rfl) (by kernel_rfl) (fun _ _ _ h => h) (Or.inl ⟨by rfl, ?_⟩) (by assumption) ?_
            rotate_left
            · (intro w hSw; (try dsimp only at hSw); go_simp; try with_reducible rfl)
            try simp only [Act.put, List.setIfInBounds_toArray, List.set_cons_zero, List.set_cons_succ]
            refine wpAnyS_one (i := 8) (oi := ⟨_, _, _, _, _, _⟩) rfl (by kernel_rfl) (fun K hK => ?_)
            go_simp
            go_at_call 61
            (refine (mR.out _ (hRr.below hHeld.2.2.2)).mono ?_)
            rintro e wa ⟨rfl, hba⟩
            (try go_wp2_with fail)
            refine hK.out _ _ ?_ (fun hHeld8 => ?_)
            · exact ⟨cell_b hba hHeld.1, hHeld.2.1.below hba hHeld.2.1.lt, hHeld.2.2.1.below hba hHeld.2.2.1.lt, below_then hHeld.2.2.2 hba⟩
            clear hK K
            try simp only [Act.put, List.setIfInBounds_toArray, List.set_cons_zero, List.set_cons_succ]
            refine wpAnyS_one (i := 12) (oi := ⟨_, _, _, _, _, _⟩) rfl (by kernel_rfl) (fun K hK => ?_)
            go_simp
            go_at_call 61
            (refine (mC.out _ (hCr.below hHeld8.2.2.2)).mono ?_)
            rintro e wb ⟨rfl, hbb⟩
            (try go_wp2_with fail)
            refine hK.out _ _ ?_ (fun hHeld12 => ?_)
            · exact ⟨cell_b hbb hHeld8.1, hHeld8.2.1.below hbb hHeld8.2.1.lt, hHeld8.2.2.1.below hbb hHeld8.2.2.1.lt, below_then hHeld8.2.2.2 hbb⟩
            clear hK K
            try simp only [Act.put, List.setIfInBounds_toArray, List.set_cons_zero, List.set_cons_succ]
            refine wpAnyS_take [14, 15, 16, 17, 18, 19, 20, 21, 22, 23, 24, 25, 26, 27] (i := 13) (oi := ⟨_, _, _, _, _, _⟩) (v := ?_) (by simp) (by kernel_rfl) rfl (by kernel_rfl) (by kernel_rfl) (by kernel_rfl) (fun _ _ _ h => h) (Or.inl ⟨by rfl, ?_⟩) (by assumption) ?_
            rotate_left
            · (intro w hSw; (try dsimp only at hSw); go_simp; try with_reducible rfl)
            try simp only [Act.put, List.setIfInBounds_toArray, List.set_cons_zero, List.set_cons_succ]
            refine wpAnyS_take [15, 16, 17, 18, 19, 20, 21, 22, 23, 24, 25, 26, 27] (i := 14) (oi := ⟨_, _, _, _, _, _⟩) (v := ?_) (by simp) (by kernel_rfl) rfl (by kernel_rfl) (by kernel_rfl) (by kernel_rfl) (fun _ _ _ h => h) (Or.inl ⟨by rfl, ?_⟩) (by assumption) ?_
            rotate_left
            · (intro w hSw; (try dsimp only at hSw); go_simp; try with_reducible rfl)
            try simp only [Act.put, List.setIfInBounds_toArray, List.set_cons_zero, List.set_cons_succ]
            refine wpAnyS_take [16, 17, 18, 19, 20, 21, 22, 23, 24, 25, 26, 27] (i := 15) (oi := ⟨_, _, _, _, _, _⟩) (v := ?_) (by simp) (by kernel_rfl) rfl (by kernel_rfl) (by kernel_rfl) (by kernel_rfl) (fun _ _ _ h => h) (Or.inl ⟨by rfl, ?_⟩) (by assumption) ?_
            rotate_left
            · (intro w hSw; (try dsimp only at hSw); go_simp; try with_reducible rfl)
            try simp only [Act.put, List.setIfInBounds_toArray, List.set_cons_zero, List.set_cons_succ]
            refine wpAnyS_take [17, 20, 24, 25, 26, 27] (i := 16) (oi := ⟨_, _, _, _, _, _⟩) (v := undef) (by simp) (by kernel_rfl) rfl (by kernel_rfl) (by kernel_rfl) (by kernel_rfl) (fun _ _ _ h => h) (Or.inr ⟨by rfl, rfl⟩) (by assumption) ?_
            try simp only [Act.put, List.setIfInBounds_toArray, List.set_cons_zero, List.set_cons_succ]
            refine wpAnyS_take [20, 24, 25, 26, 27] (i := 17) (oi := ⟨_, _, _, _, _, _⟩) (v := undef) (by simp) (by kernel_rfl) rfl (by kernel_rfl) (by kernel_rfl) (by kernel_rfl) (fun _ _ _ h => h) (Or.inr ⟨by rfl, rfl⟩) (by assumption) ?_
            try simp only [Act.put, List.setIfInBounds_toArray, List.set_cons_zero, List.set_cons_succ]
            refine wpAnyS_take [19, 20, 24, 25, 26, 27] (i := 18) (oi := ⟨_, _, _, _, _, _⟩) (v := undef) (by simp) (by kernel_rfl) rfl (by kernel_rfl) (by kernel_rfl) (by kernel_rfl) (fun _ _ _ h => h) (Or.inr ⟨by rfl, rfl⟩) (by assumption) ?_
            try simp only [Act.put, List.setIfInBounds_toArray, List.set_cons_zero, List.set_cons_succ]
            refine wpAnyS_take [20, 24, 25, 26, 27] (i := 19) (oi := ⟨_, _, _, _, _, _⟩) (v := undef) (by simp) (by kernel_rfl) rfl (by kernel_rfl) (by kernel_rfl) (by kernel_rfl) (fun _ _ _ h => h) (Or.inr ⟨by rfl, rfl⟩) (by assumption) ?_
            try simp only [Act.put, List.setIfInBounds_toArray, List.set_cons_zero, List.set_cons_succ]
            refine wpAnyS_take [24, 25, 26, 27] (i := 20) (oi := ⟨_, _, _, _, _, _⟩) (v := undef) (by simp) (by kernel_rfl) rfl (by kernel_rfl) (by kernel_rfl) (by kernel_rfl) (fun _ _ _ h => h) (Or.inr ⟨by rfl, rfl⟩) (by assumption) ?_
            try simp only [Act.put, List.setIfInBounds_toArray, List.set_cons_zero, List.set_cons_succ]
            refine wpAnyS_take [22, 24, 25, 26, 27] (i := 21) (oi := ⟨_, _, _, _, _, _⟩) (v := undef) (by simp) (by kernel_rfl) rfl (by kernel_rfl) (by kernel_rfl) (by kernel_rfl) (fun _ _ _ h => h) (Or.inr ⟨by rfl, rfl⟩) (by assumption) ?_
            try simp only [Act.put, List.setIfInBounds_toArray, List.set_cons_zero, List.set_cons_succ]
            refine wpAnyS_take [24, 25, 26, 27] (i := 22) (oi := ⟨_, _, _, _, _, _⟩) (v := undef) (by simp) (by kernel_rfl) rfl (by kernel_rfl) (by kernel_rfl) (by kernel_rfl) (fun _ _ _ h => h) (Or.inr ⟨by rfl, rfl⟩) (by assumption) ?_
            try simp only [Act.put, List.setIfInBounds_toArray, List.set_cons_zero, List.set_cons_succ]
            refine wpAnyS_take [24, 25, 26, 27] (i := 23) (oi := ⟨_, _, _, _, _, _⟩) (v := undef) (by simp) (by kernel_rfl) rfl (by kernel_rfl) (by kernel_rfl) (by kernel_rfl) (fun _ _ _ h => h) (Or.inr ⟨by rfl, rfl⟩) (by assumption) ?_
            try simp only [Act.put, List.setIfInBounds_toArray, List.set_cons_zero, List.set_cons_succ]
            refine wpAnyS_take [25, 26, 27] (i := 24) (oi := ⟨_, _, _, _, _, _⟩) (v := undef) (by simp) (by kernel_rfl) rfl (by kernel_rfl) (by kernel_rfl) (by kernel_rfl) (fun _ _ _ h => h) (Or.inr ⟨by rfl, rfl⟩) (by assumption) ?_
            try simp only [Act.put, List.setIfInBounds_toArray, List.set_cons_zero, List.set_cons_succ]
            refine wpAnyS_take [26, 27] (i := 25) (oi := ⟨_, _, _, _, _, _⟩) (v := undef) (by simp) (by kernel_rfl) rfl (by kernel_rfl) (by kernel_rfl) (by kernel_rfl) (fun _ _ _ h => h) (Or.inr ⟨by rfl, rfl⟩) (by assumption) ?_
            try simp only [Act.put, List.setIfInBounds_toArray, List.set_cons_zero, List.set_cons_succ]
            refine wpAnyS_take [27] (i := 26) (oi := ⟨_, _, _, _, _, _⟩) (v := undef) (by simp) (by kernel_rfl) rfl (by kernel_rfl) (by kernel_rfl) (by kernel_rfl) (fun _ _ _ h => h) (Or.inr ⟨by rfl, rfl⟩) (by assumption) ?_
            try simp only [Act.put, List.setIfInBounds_toArray, List.set_cons_zero, List.set_cons_succ]
            refine wpAnyS_call (k := 27) (ok := ⟨_, _, _, _, _, _⟩) rfl (by kernel_rfl) (by kernel_rfl) (fun K hK => ?_)
            go_simp
            refine hK.out _ _ ?_
            clear hK K
            try simp only [Act.put, List.setIfInBounds_toArray, List.set_cons_zero, List.set_cons_succ]
            refine wpAny_done (by kernel_rfl) ?_ _
            go_wp2_with fail
            go_meet
            exact ⟨C2, hrow2.below (below_then (below_then hHeld.2.2.2 hba) hbb), HP2, below_then hb10 (below_then (below_then hHeld.2.2.2 hba) hbb)⟩
          · have hcl : clashB ta tb = true := decide_eq_true ⟨ht, HS.out.1.symm.trans (hg.trans HS.out.2)⟩
            have hq := txt_diff ht
            rw [hcl] at mX
            subst hg
            clear hcl ht
            refine wpAnyS_take [2, 3, 4, 5, 6, 7, 8, 9, 10, 11, 12, 13, 14, 15, 16, 17, 18, 19, 20, 21, 22, 23, 24, 25, 26, 27] (i := 0) (oi := ⟨_, _, _, _, _, _⟩) (v := .agg (u8a h2h)) (by simp) (by kernel_rfl) rfl (by kernel_rfl) (by kernel_rfl) (by kernel_rfl) (fun _ _ _ h => h) (yieldsIf_load_mid (by rfl) 71 (.tmp 21) rfl G3 0 rfl (u8l h2h) _ (fun Z hZ => hash_range hZ.2.2.1) Tryz.underlying71 rfl (by rw [u8l_len, HL2.out]; exact hash_size)) (by assumption) ?_
            try simp only [Act.put, List.setIfInBounds_toArray, List.set_cons_zero, List.set_cons_succ]
            refine wpAnyS_take [2, 3, 4, 5, 6, 7, 8, 9, 10, 11, 12, 13, 14, 15, 16, 17, 18, 19, 20, 21, 22, 23, 24, 25, 26, 27] (i := 1) (oi := ⟨_, _, _, _, _, _⟩) (v := .agg (u8a h2h)) (by simp) (by kernel_rfl) rfl (by kernel_rfl) (by kernel_rfl) (by kernel_rfl) (fun _ _ _ h => h) (yieldsIf_load_mid (by rfl) 71 (.tmp 15) rfl G1 0 rfl (u8l h2h) _ (fun Z hZ => hash_range hZ.2.1) Tryz.underlying71 rfl (by rw [u8l_len, HL2.out]; exact hash_size)) (by assumption) ?_
            try simp only [Act.put, List.setIfInBounds_toArray, List.set_cons_zero, List.set_cons_succ]
            refine wpAnyS_take [3, 4, 5, 6, 7, 8, 9, 10, 11, 12, 13, 14, 15, 16, 17, 18, 19, 20, 21, 22, 23, 24, 25, 26, 27] (i := 2) (oi := ⟨_, _, _, _, _, _⟩) (v := ?_) (by simp) (by kernel_rfl) rfl (by kernel_rfl) (by kernel_rfl) (by kernel_rfl) (fun _ _ _ h => h) (Or.inl ⟨by rfl, ?_⟩) (by assumption) ?_
            rotate_left
            · (intro w hSw; (try dsimp only at hSw); go_simp; try with_reducible rfl)
            try simp only [Act.put, List.setIfInBounds_toArray, List.set_cons_zero, List.set_cons_succ]
            refine wpAnyS_take [4, 5, 6, 7, 8, 9, 10, 11, 12, 13, 14, 15, 16, 17, 18, 19, 20, 21, 22, 23, 24, 25, 26, 27] (i := 3) (oi := ⟨_, _, _, _, _, _⟩) (v := ?_) (by simp) (by kernel_rfl) rfl (by kernel_rfl) (by kernel_rfl) (by kernel_rfl) (fun _ _ _ h => h) (Or.inl ⟨by rfl, ?_⟩) (by assumption) ?_
            rotate_left
            · (intro w hSw; (try dsimp only at hSw); go_simp; try with_reducible rfl)
            try simp only [Act.put, List.setIfInBounds_toArray, List.set_cons_zero, List.set_cons_succ]
            refine wpAnyS_take [5, 8, 12, 13, 14, 15, 16, 17, 18, 19, 20, 21, 22, 23, 24, 25, 26, 27] (i := 4) (oi := ⟨_, _, _, _, _, _⟩) (v := ?_) (by simp) (by kernel_rfl) rfl (by kernel_rfl) (by kernel_rfl) (by kernel_rfl) (fun _ _ _ h => h) (Or.inl ⟨by rfl, ?_⟩) (by assumption) ?_
            rotate_left
            · (intro w hSw; (try dsimp only at hSw); go_simp; try with_reducible rfl)
            try simp only [Act.put, List.setIfInBounds_toArray, List.set_cons_zero, List.set_cons_succ]
            refine wpAnyS_take [8, 12, 13, 14, 15, 16, 17, 18, 19, 20, 21, 22, 23, 24, 25, 26, 27] (i := 5) (oi := ⟨_, _, _, _, _, _⟩) (v := ?_) (by simp) (by kernel_rfl) rfl (by kernel_rfl) (by kernel_rfl) (by kernel_rfl) (fun _ _ _ h => h) (Or.inl ⟨by rfl, ?_⟩) (by assumption) ?_
            rotate_left
            · (intro w hSw; (try dsimp only at hSw); go_simp; try with_reducible rfl)
            try simp only [Act.put, List.setIfInBounds_toArray, List.set_cons_zero, List.set_cons_succ]
            refine wpAnyS_take [7, 8, 12, 13, 14, 15, 16, 17, 18, 19, 20, 21, 22, 23, 24, 25, 26, 27] (i := 6) (oi := ⟨_, _, _, _, _, _⟩) (v := ?_) (by simp) (by kernel_rfl) rfl (by kernel_rfl) (by kernel_rfl) (by kernel_rfl) (fun _ _ _ h => h) (Or.inl ⟨by rfl, ?_⟩) (by assumption) ?_
            rotate_left
            · (intro w hSw; (try dsimp only at hSw); go_simp; try with_reducible rfl)
            try simp only [Act.put, List.setIfInBounds_toArray, List.set_cons_zero, List.set_cons_succ]
            refine wpAnyS_take [8, 12, 13, 14, 15, 16, 17, 18, 19, 20, 21, 22, 23, 24, 25, 26, 27] (i := 7) (oi := ⟨_, _, _, _, _, _⟩) (v := (.slice (some ⟨b, o2, none⟩) L1 c1)) (by simp) (by kernel_rfl) rfl (by kernel_rfl) (by kernel_rfl) (by kernel_rfl) (fun _ _ _ h => h) (Or.inl ⟨by rfl, by intro w hSw; (try dsimp only at hSw); go_simp; try with_reducible rfl⟩) (by assumption) ?_
            try simp only [Act.put, List.setIfInBounds_toArray, List.set_cons_zero, List.set_cons_succ]
            refine wpAnyS_take [10, 12, 13, 14, 15, 16, 17, 18, 19, 20, 21, 22, 23, 24, 25, 26, 27] (i := 9) (oi := ⟨_, _, _, _, _, _⟩) (v := ?_) (by simp) (by kernel_rfl) rfl (by kernel_rfl) (by kernel_rfl) (by kernel_rfl) (fun _ _ _ h => h) (Or.inl ⟨by rfl, ?_⟩) (by assumption) ?_
            rotate_left
            · (intro w hSw; (try dsimp only at hSw); go_simp; try with_reducible rfl)
            try simp only [Act.put, List.setIfInBounds_toArray, List.set_cons_zero, List.set_cons_succ]
            refine wpAnyS_take [12, 13, 14, 15, 16, 17, 18, 19, 20, 21, 22, 23, 24, 25, 26, 27] (i := 10) (oi := ⟨_, _, _, _, _, _⟩) (v := ?_) (by simp) (by kernel_rfl) rfl (by kernel_rfl) (by kernel_rfl) (by kernel_rfl) (fun _ _ _ h => h) (Or.inl ⟨by rfl, ?_⟩) (by assumption) ?_
            rotate_left
            · (intro w hSw; (try dsimp only at hSw); go_simp; try with_reducible rfl)
            try simp only [Act.put, List.setIfInBounds_toArray, List.set_cons_zero, List.set_cons_succ]
            refine wpAnyS_take [12, 13, 14, 15, 16, 17, 18, 19, 20, 21, 22, 23, 24, 25, 26, 27] (i := 11) (oi := ⟨_, _, _, _, _, _⟩) (v := ?_) (by simp) (by kernel_rfl) rfl (by kernel_rfl) (by kernel_rfl) (by kernel_rfl) (fun _ _ _ h => h) (Or.inl ⟨by rfl, ?_⟩) (by assumption) ?_
            rotate_left
            · (intro w hSw; (try dsimp only at hSw); go_simp; try with_reducible rfl)
            try simp only [Act.put, List.setIfInBounds_toArray, List.set_cons_zero, List.set_cons_succ]
            refine wpAnyS_one (i := 8) (oi := ⟨_, _, _, _, _, _⟩) rfl (by kernel_rfl) (fun K hK => ?_)
            go_simp
            go_at_call 61
            (refine (mR.out _ (hRr.below hHeld.2.2.2)).mono ?_)
            rintro e wa ⟨rfl, hba⟩
            (try go_wp2_with fail)
            refine hK.out _ _ ?_ (fun hHeld8 => ?_)
            · exact ⟨cell_b hba hHeld.1, hHeld.2.1.below hba hHeld.2.1.lt, hHeld.2.2.1.below hba hHeld.2.2.1.lt, below_then hHeld.2.2.2 hba⟩
            clear hK K
            try simp only [Act.put, List.setIfInBounds_toArray, List.set_cons_zero, List.set_cons_succ]
            refine wpAnyS_one (i := 12) (oi := ⟨_, _, _, _, _, _⟩) rfl (by kernel_rfl) (fun K hK => ?_)
            go_simp
            go_at_call 61
            (refine (mC.out _ (hCr.below hHeld8.2.2.2)).mono ?_)
            rintro e wb ⟨rfl, hbb⟩
            (try go_wp2_with fail)
            refine hK.out _ _ ?_ (fun hHeld12 => ?_)
            · exact ⟨cell_b hbb hHeld8.1, hHeld8.2.1.below hbb hHeld8.2.1.lt, hHeld8.2.2.1.below hbb hHeld8.2.2.1.lt, below_then hHeld8.2.2.2 hbb⟩
            clear hK K
            try simp only [Act.put, List.setIfInBounds_toArray, List.set_cons_zero, List.set_cons_succ]
            refine wpAnyS_take [14, 15, 16, 17, 18, 19, 20, 21, 22, 23, 24, 25, 26, 27] (i := 13) (oi := ⟨_, _, _, _, _, _⟩) (v := ?_) (by simp) (by kernel_rfl) rfl (by kernel_rfl) (by kernel_rfl) (by kernel_rfl) (fun _ _ _ h => h) (Or.inl ⟨by rfl, ?_⟩) (by assumption) ?_
            rotate_left
            · (intro w hSw; (try dsimp only at hSw); go_simp; try with_reducible rfl)
            try simp only [Act.put, List.setIfInBounds_toArray, List.set_cons_zero, List.set_cons_succ]
            refine wpAnyS_take [15, 16, 17, 18, 19, 20, 21, 22, 23, 24, 25, 26, 27] (i := 14) (oi := ⟨_, _, _, _, _, _⟩) (v := ?_) (by simp) (by kernel_rfl) rfl (by kernel_rfl) (by kernel_rfl) (by kernel_rfl) (fun _ _ _ h => h) (Or.inl ⟨by rfl, ?_⟩) (by assumption) ?_
            rotate_left
            · (intro w hSw; (try dsimp only at hSw); go_simp; try with_reducible rfl)
            try simp only [Act.put, List.setIfInBounds_toArray, List.set_cons_zero, List.set_cons_succ]
            refine wpAnyS_take [16, 17, 18, 19, 20, 21, 22, 23, 24, 25, 26, 27] (i := 15) (oi := ⟨_, _, _, _, _, _⟩) (v := ?_) (by simp) (by kernel_rfl) rfl (by kernel_rfl) (by kernel_rfl) (by kernel_rfl) (fun _ _ _ h => h) (Or.inl ⟨by rfl, ?_⟩) (by assumption) ?_
            rotate_left
            · (intro w hSw; (try dsimp only at hSw); go_simp; try with_reducible rfl)
            try simp only [Act.put, List.setIfInBounds_toArray, List.set_cons_zero, List.set_cons_succ]
            refine wpAnyS_take [17, 20, 24, 25, 26, 27] (i := 16) (oi := ⟨_, _, _, _, _, _⟩) (v := ?_) (by simp) (by kernel_rfl) rfl (by kernel_rfl) (by kernel_rfl) (by kernel_rfl) (fun _ _ _ h => h) (Or.inl ⟨by rfl, ?_⟩) (by assumption) ?_
            rotate_left
            · (intro w hSw; (try dsimp only at hSw); go_simp; try with_reducible rfl)
            try simp only [Act.put, List.setIfInBounds_toArray, List.set_cons_zero, List.set_cons_succ]
            refine wpAnyS_take [20, 24, 25, 26, 27] (i := 17) (oi := ⟨_, _, _, _, _, _⟩) (v := ?_) (by simp) (by kernel_rfl) rfl (by kernel_rfl) (by kernel_rfl) (by kernel_rfl) (fun _ _ _ h => h) (Or.inl ⟨by rfl, ?_⟩) (by assumption) ?_
            rotate_left
            · (intro w hSw; (try dsimp only at hSw); go_simp; try with_reducible rfl)
            try simp only [Act.put, List.setIfInBounds_toArray, List.set_cons_zero, List.set_cons_succ]
            refine wpAnyS_take [19, 20, 24, 25, 26, 27] (i := 18) (oi := ⟨_, _, _, _, _, _⟩) (v := ?_) (by simp) (by kernel_rfl) rfl (by kernel_rfl) (by kernel_rfl) (by kernel_rfl) (fun _ _ _ h => h) (Or.inl ⟨by rfl, ?_⟩) (by assumption) ?_
            rotate_left
            · (intro w hSw; (try dsimp only at hSw); go_simp; try with_reducible rfl)
            try simp only [Act.put, List.setIfInBounds_toArray, List.set_cons_zero, List.set_cons_succ]
            refine wpAnyS_take [20, 24, 25, 26, 27] (i := 19) (oi := ⟨_, _, _, _, _, _⟩) (v := (.slice (some ⟨b, o2, none⟩) L1 c1)) (by simp) (by kernel_rfl) rfl (by kernel_rfl) (by kernel_rfl) (by kernel_rfl) (fun _ _ _ h => h) (Or.inl ⟨by rfl, by intro w hSw; (try dsimp only at hSw); go_simp; try with_reducible rfl⟩) (by assumption) ?_
            try simp only [Act.put, List.setIfInBounds_toArray, List.set_cons_zero, List.set_cons_succ]
            refine wpAnyS_take [22, 24, 25, 26, 27] (i := 21) (oi := ⟨_, _, _, _, _, _⟩) (v := ?_) (by simp) (by kernel_rfl) rfl (by kernel_rfl) (by kernel_rfl) (by kernel_rfl) (fun _ _ _ h => h) (Or.inl ⟨by rfl, ?_⟩) (by assumption) ?_
            rotate_left
            · (intro w hSw; (try dsimp only at hSw); go_simp; try with_reducible rfl)
            try simp only [Act.put, List.setIfInBounds_toArray, List.set_cons_zero, List.set_cons_succ]
            refine wpAnyS_take [24, 25, 26, 27] (i := 22) (oi := ⟨_, _, _, _, _, _⟩) (v := ?_) (by simp) (by kernel_rfl) rfl (by kernel_rfl) (by kernel_rfl) (by kernel_rfl) (fun _ _ _ h => h) (Or.inl ⟨by rfl, ?_⟩) (by assumption) ?_
            rotate_left
            · (intro w hSw; (try dsimp only at hSw); go_simp; try with_reducible rfl)
            try simp only [Act.put, List.setIfInBounds_toArray, List.set_cons_zero, List.set_cons_succ]
            refine wpAnyS_take [24, 25, 26, 27] (i := 23) (oi := ⟨_, _, _, _, _, _⟩) (v := ?_) (by simp) (by kernel_rfl) rfl (by kernel_rfl) (by kernel_rfl) (by kernel_rfl) (fun _ _ _ h => h) (Or.inl ⟨by rfl, ?_⟩) (by assumption) ?_
            rotate_left
            · (intro w hSw; (try dsimp only at hSw); go_simp; try with_reducible rfl)
            try simp only [Act.put, List.setIfInBounds_toArray, List.set_cons_zero, List.set_cons_succ]
            refine wpAnyS_one (i := 20) (oi := ⟨_, _, _, _, _, _⟩) rfl (by kernel_rfl) (fun K hK => ?_)
            go_simp
            go_at_call 61
            (refine (mR.out _ (hRr.below hHeld12.2.2.2)).mono ?_)
            rintro e wc ⟨rfl, hbc⟩
            (try go_wp2_with fail)
            refine hK.out _ _ ?_ (fun hHeld20 => ?_)
            · exact ⟨cell_b hbc hHeld12.1, hHeld12.2.1.below hbc hHeld12.2.1.lt, hHeld12.2.2.1.below hbc hHeld12.2.2.1.lt, below_then hHeld12.2.2.2 hbc⟩
            clear hK K
            try simp only [Act.put, List.setIfInBounds_toArray, List.set_cons_zero, List.set_cons_succ]
            refine wpAnyS_one (i := 24) (oi := ⟨_, _, _, _, _, _⟩) rfl (by kernel_rfl) (fun K hK => ?_)
            go_simp
            go_at_call 61
            (refine (mC.out _ (hCr.below hHeld20.2.2.2)).mono ?_)
            rintro e wd ⟨rfl, hbd⟩
            (try go_wp2_with fail)
            refine hK.out _ _ ?_ (fun hHeld24 => ?_)
            · exact ⟨cell_b hbd hHeld20.1, hHeld20.2.1.below hbd hHeld20.2.1.lt, hHeld20.2.2.1.below hbd hHeld20.2.2.1.lt, below_then hHeld20.2.2.2 hbd⟩
            clear hK K
            try simp only [Act.put, List.setIfInBounds_toArray, List.set_cons_zero, List.set_cons_succ]
            refine wpAnyS_one (i := 25) (oi := ⟨_, _, _, _, _, _⟩) rfl (by kernel_rfl) (fun K hK => ?_)
            go_simp
            go_at_call 62
            (refine (mX.out _).mono ?_)
            rintro e we ⟨rfl, hbe⟩
            (try go_wp2_with fail)
            refine hK.out _ _ ?_ (fun hHeld25 => ?_)
            · exact ⟨cell_b hbe hHeld24.1, hHeld24.2.1.below hbe hHeld24.2.1.lt, hHeld24.2.2.1.below hbe hHeld24.2.2.1.lt, below_then hHeld24.2.2.2 hbe⟩
            clear hK K
            try simp only [Act.put, List.setIfInBounds_toArray, List.set_cons_zero, List.set_cons_succ]
            refine wpAnyS_take [27] (i := 26) (oi := ⟨_, _, _, _, _, _⟩) (v := ?_) (by simp) (by kernel_rfl) rfl (by kernel_rfl) (by kernel_rfl) (by kernel_rfl) (fun _ _ _ h => h) (Or.inl ⟨by rfl, ?_⟩) (by assumption) ?_
            rotate_left
            · (intro w hSw; (try dsimp only at hSw); go_simp; try with_reducible rfl)
            try simp only [Act.put, List.setIfInBounds_toArray, List.set_cons_zero, List.set_cons_succ]
            refine wpAnyS_call (k := 27) (ok := ⟨_, _, _, _, _, _⟩) rfl (by kernel_rfl) (by kernel_rfl) (fun K hK => ?_)
            go_simp
            refine hK.out _ _ ?_
            clear hK K
            try simp only [Act.put, List.setIfInBounds_toArray, List.set_cons_zero, List.set_cons_succ]
            refine wpAny_done (by kernel_rfl) ?_ _
            go_wp2_with fail
            go_meet
            exact ⟨C2, hrow2.below (below_then (below_then (below_then (below_then (below_then hHeld.2.2.2 hba) hbb) hbc) hbd) hbe), HP2, below_then hb10 (below_then (below_then (below_then (below_then (below_then hHeld.2.2.2 hba) hbb) hbc) hbd) hbe)⟩
        · skip
          refine wpAnyS_take [2, 3, 4, 5, 6, 7, 8, 9, 10, 11, 12, 13, 14, 15, 16, 17, 18, 19, 20, 21, 22, 23, 24, 25, 26, 27] (i := 0) (oi := ⟨_, _, _, _, _, _⟩) (v := .agg (u8a h2h)) (by simp) (by kernel_rfl) rfl (by kernel_rfl) (by kernel_rfl) (by kernel_rfl) (fun _ _ _ h => h) (yieldsIf_load_mid (by rfl) 71 (.tmp 21) rfl G3 0 rfl (u8l h2h) _ (fun Z hZ => hash_range hZ.2.2.1) Tryz.underlying71 rfl (by rw [u8l_len, HL2.out]; exact hash_size)) (by assumption) ?_
          try simp only [Act.put, List.setIfInBounds_toArray, List.set_cons_zero, List.set_cons_succ]
          refine wpAnyS_take [2, 3, 4, 5, 6, 7, 8, 9, 10, 11, 12, 13, 14, 15, 16, 17, 18, 19, 20, 21, 22, 23, 24, 25, 26, 27] (i := 1) (oi := ⟨_, _, _, _, _, _⟩) (v := .agg (u8a h1h)) (by simp) (by kernel_rfl) rfl (by kernel_rfl) (by kernel_rfl) (by kernel_rfl) (fun _ _ _ h => h) (yieldsIf_load_mid (by rfl) 71 (.tmp 15) rfl G1 0 rfl (u8l h1h) _ (fun Z hZ => hash_range hZ.2.1) Tryz.underlying71 rfl (by rw [u8l_len, HL1.out]; exact hash_size)) (by assumption) ?_
          try simp only [Act.put, List.setIfInBounds_toArray, List.set_cons_zero, List.set_cons_succ]
          refine wpAnyS_take [3, 4, 5, 6, 7, 8, 9, 10, 11, 12, 13, 14, 15, 16, 17, 18, 19, 20, 21, 22, 23, 24, 25, 26, 27] (i := 2) (oi := ⟨_, _, _, _, _, _⟩) (v := ?_) (by simp) (by kernel_rfl) rfl (by kernel_rfl) (by kernel_rfl) (by kernel_rfl) (fun _ _ _ h => h) (Or.inl ⟨by rfl, ?_⟩) (by assumption) ?_
          rotate_left
          · (intro w hSw; (try dsimp only at hSw); go_simp; try with_reducible rfl)
          try simp only [Act.put, List.setIfInBounds_toArray, List.set_cons_zero, List.set_cons_succ]
          refine wpAnyS_take [4, 5, 6, 7, 8, 9, 10, 11, 12, 13, 14, 15, 16, 17, 18, 19, 20, 21, 22, 23, 24, 25, 26, 27] (i := 3) (oi := ⟨_, _, _, _, _, _⟩) (v := ?_) (by simp) (by kernel_rfl) rfl (by kernel_rfl) (by kernel_rfl) (by kernel_rfl) (fun _ _ _ h => h) (Or.inl ⟨by rfl, ?_⟩) (by assumption) ?_
          rotate_left
          · (intro w hSw; (try dsimp only at hSw); go_simp; try with_reducible rfl)
          try simp only [Act.put, List.setIfInBounds_toArray, List.set_cons_zero, List.set_cons_succ]
          refine wpAnyS_take [5, 8, 12, 13, 14, 15, 16, 17, 18, 19, 20, 21, 22, 23, 24, 25, 26, 27] (i := 4) (oi := ⟨_, _, _, _, _, _⟩) (v := undef) (by simp) (by kernel_rfl) rfl (by kernel_rfl) (by kernel_rfl) (by kernel_rfl) (fun _ _ _ h => h) (Or.inr ⟨by rfl, rfl⟩) (by assumption) ?_
          try simp only [Act.put, List.setIfInBounds_toArray, List.set_cons_zero, List.set_cons_succ]
          refine wpAnyS_take [8, 12, 13, 14, 15, 16, 17, 18, 19, 20, 21, 22, 23, 24, 25, 26, 27] (i := 5) (oi := ⟨_, _, _, _, _, _⟩) (v := undef) (by simp) (by kernel_rfl) rfl (by kernel_rfl) (by kernel_rfl) (by kernel_rfl) (fun _ _ _ h => h) (Or.inr ⟨by rfl, rfl⟩) (by assumption) ?_
          try simp only [Act.put, List.setIfInBounds_toArray, List.set_cons_zero, List.set_cons_succ]
          refine wpAnyS_take [7, 8, 12, 13, 14, 15, 16, 17, 18, 19, 20, 21, 22, 23, 24, 25, 26, 27] (i := 6) (oi := ⟨_, _, _, _, _, _⟩) (v := undef) (by simp) (by kernel_rfl) rfl (by kernel_rfl) (by kernel_rfl) (by kernel_rfl) (fun _ _ _ h => h) (Or.inr ⟨by rfl, rfl⟩) (by assumption) ?_
          try simp only [Act.put, List.setIfInBounds_toArray, List.set_cons_zero, List.set_cons_succ]
          refine wpAnyS_take [8, 12, 13, 14, 15, 16, 17, 18, 19, 20, 21, 22, 23, 24, 25, 26, 27] (i := 7) (oi := ⟨_, _, _, _, _, _⟩) (v := undef) (by simp) (by kernel_rfl) rfl (by kernel_rfl) (by kernel_rfl) (by kernel_rfl) (fun _ _ _ h => h) (Or.inr ⟨by rfl, rfl⟩) (by assumption) ?_
          try simp only [Act.put, List.setIfInBounds_toArray, List.set_cons_zero, List.set_cons_succ]
          refine wpAnyS_take [12, 13, 14, 15, 16, 17, 18, 19, 20, 21, 22, 23, 24, 25, 26, 27] (i := 8) (oi := ⟨_, _, _, _, _, _⟩) (v := undef) (by simp) (by kernel_rfl) rfl (by kernel_rfl) (by kernel_rfl) (by kernel_rfl) (fun _ _ _ h => h) (Or.inr ⟨by rfl, rfl⟩) (by assumption) ?_
          try simp only [Act.put, List.setIfInBounds_toArray, List.set_cons_zero, List.set_cons_succ]
          refine wpAnyS_take [10, 12, 13, 14, 15, 16, 17, 18, 19, 20, 21, 22, 23, 24, 25, 26, 27] (i := 9) (oi := ⟨_, _, _, _, _, _⟩) (v := undef) (by simp) (by kernel_rfl) rfl (by kernel_rfl) (by kernel_rfl) (by kernel_rfl) (fun _ _ _ h => h) (Or.inr ⟨by rfl, rfl⟩) (by assumption) ?_
          try simp only [Act.put, List.setIfInBounds_toArray, List.set_cons_zero, List.set_cons_succ]
          refine wpAnyS_take [12, 13, 14, 15, 16, 17, 18, 19, 20, 21, 22, 23, 24, 25, 26, 27] (i := 10) (oi := ⟨_, _, _, _, _, _⟩) (v := undef) (by simp) (by kernel_rfl) rfl (by kernel_rfl) (by kernel_rfl) (by kernel_rfl) (fun _ _ _ h => h) (Or.inr ⟨by rfl, rfl⟩) (by assumption) ?_
          try simp only [Act.put, List.setIfInBounds_toArray, List.set_cons_zero, List.set_cons_succ]
          refine wpAnyS_take [12, 13, 14, 15, 16, 17, 18, 19, 20, 21, 22, 23, 24, 25, 26, 27] (i := 11) (oi := ⟨_, _, _, _, _, _⟩) (v := undef) (by simp) (by kernel_rfl) rfl (by kernel_rfl) (by kernel_rfl) (by kernel_rfl) (fun _ _ _ h => h) (Or.inr ⟨by rfl, rfl⟩) (by assumption) ?_
          try simp only [Act.put, List.setIfInBounds_toArray, List.set_cons_zero, List.set_cons_succ]
          refine wpAnyS_take [13, 14, 15, 16, 17, 18, 19, 20, 21, 22, 23, 24, 25, 26, 27] (i := 12) (oi := ⟨_, _, _, _, _, _⟩) (v := undef) (by simp) (by kernel_rfl) rfl (by kernel_rfl) (by kernel_rfl) (by kernel_rfl) (fun _ _ _ h => h) (Or.inr ⟨by rfl, rfl⟩) (by assumption) ?_
          try simp only [Act.put, List.setIfInBounds_toArray, List.set_cons_zero, List.set_cons_succ]
          refine wpAnyS_take [14, 15, 16, 17, 18, 19, 20, 21, 22, 23, 24, 25, 26, 27] (i := 13) (oi := ⟨_, _, _, _, _, _⟩) (v := undef) (by simp) (by kernel_rfl) rfl (by kernel_rfl) (by kernel_rfl) (by kernel_rfl) (fun _ _ _ h => h) (Or.inr ⟨by rfl, rfl⟩) (by assumption) ?_
          try simp only [Act.put, List.setIfInBounds_toArray, List.set_cons_zero, List.set_cons_succ]
          refine wpAnyS_take [15, 16, 17, 18, 19, 20, 21, 22, 23, 24, 25, 26, 27] (i := 14) (oi := ⟨_, _, _, _, _, _⟩) (v := ?_) (by simp) (by kernel_rfl) rfl (by kernel_rfl) (by kernel_rfl) (by kernel_rfl) (fun _ _ _ h => h) (Or.inl ⟨by rfl, ?_⟩) (by assumption) ?_
          rotate_left
          · (intro w hSw; (try dsimp only at hSw); go_simp; try with_reducible rfl)
          try simp only [Act.put, List.setIfInBounds_toArray, List.set_cons_zero, List.set_cons_succ]
          refine wpAnyS_take [16, 17, 18, 19, 20, 21, 22, 23, 24, 25, 26, 27] (i := 15) (oi := ⟨_, _, _, _, _, _⟩) (v := ?_) (by simp) (by kernel_rfl) rfl (by kernel_rfl) (by kernel_rfl) (by kernel_rfl) (fun _ _ _ h => h) (Or.inl ⟨by rfl, ?_⟩) (by assumption) ?_
          rotate_left
          · (intro w hSw; (try dsimp only at hSw); go_simp; try with_reducible rfl)
          try simp only [Act.put, List.setIfInBounds_toArray, List.set_cons_zero, List.set_cons_succ]
          refine wpAnyS_take [17, 20, 24, 25, 26, 27] (i := 16) (oi := ⟨_, _, _, _, _, _⟩) (v := undef) (by simp) (by kernel_rfl) rfl (by kernel_rfl) (by kernel_rfl) (by kernel_rfl) (fun _ _ _ h => h) (Or.inr ⟨by rfl, rfl⟩) (by assumption) ?_
          try simp only [Act.put, List.setIfInBounds_toArray, List.set_cons_zero, List.set_cons_succ]
          refine wpAnyS_take [20, 24, 25, 26, 27] (i := 17) (oi := ⟨_, _, _, _, _, _⟩) (v := undef) (by simp) (by kernel_rfl) rfl (by kernel_rfl) (by kernel_rfl) (by kernel_rfl) (fun _ _ _ h => h) (Or.inr ⟨by rfl, rfl⟩) (by assumption) ?_
          try simp only [Act.put, List.setIfInBounds_toArray, List.set_cons_zero, List.set_cons_succ]
          refine wpAnyS_take [19, 20, 24, 25, 26, 27] (i := 18) (oi := ⟨_, _, _, _, _, _⟩) (v := undef) (by simp) (by kernel_rfl) rfl (by kernel_rfl) (by kernel_rfl) (by kernel_rfl) (fun _ _ _ h => h) (Or.inr ⟨by rfl, rfl⟩) (by assumption) ?_
          try simp only [Act.put, List.setIfInBounds_toArray, List.set_cons_zero, List.set_cons_succ]
          refine wpAnyS_take [20, 24, 25, 26, 27] (i := 19) (oi := ⟨_, _, _, _, _, _⟩) (v := undef) (by simp) (by kernel_rfl) rfl (by kernel_rfl) (by kernel_rfl) (by kernel_rfl) (fun _ _ _ h => h) (Or.inr ⟨by rfl, rfl⟩) (by assumption) ?_
          try simp only [Act.put, List.setIfInBounds_toArray, List.set_cons_zero, List.set_cons_succ]
          refine wpAnyS_take [24, 25, 26, 27] (i := 20) (oi := ⟨_, _, _, _, _, _⟩) (v := undef) (by simp) (by kernel_rfl) rfl (by kernel_rfl) (by kernel_rfl) (by kernel_rfl) (fun _ _ _ h => h) (Or.inr ⟨by rfl, rfl⟩) (by assumption) ?_
          try simp only [Act.put, List.setIfInBounds_toArray, List.set_cons_zero, List.set_cons_succ]
          refine wpAnyS_take [22, 24, 25, 26, 27] (i := 21) (oi := ⟨_, _, _, _, _, _⟩) (v := undef) (by simp) (by kernel_rfl) rfl (by kernel_rfl) (by kernel_rfl) (by kernel_rfl) (fun _ _ _ h => h) (Or.inr ⟨by rfl, rfl⟩) (by assumption) ?_
          try simp only [Act.put, List.setIfInBounds_toArray, List.set_cons_zero, List.set_cons_succ]
          refine wpAnyS_take [24, 25, 26, 27] (i := 22) (oi := ⟨_, _, _, _, _, _⟩) (v := undef) (by simp) (by kernel_rfl) rfl (by kernel_rfl) (by kernel_rfl) (by kernel_rfl) (fun _ _ _ h => h) (Or.inr ⟨by rfl, rfl⟩) (by assumption) ?_
          try simp only [Act.put, List.setIfInBounds_toArray, List.set_cons_zero, List.set_cons_succ]
          refine wpAnyS_take [24, 25, 26, 27] (i := 23) (oi := ⟨_, _, _, _, _, _⟩) (v := undef) (by simp) (by kernel_rfl) rfl (by kernel_rfl) (by kernel_rfl) (by kernel_rfl) (fun _ _ _ h => h) (Or.inr ⟨by rfl, rfl⟩) (by assumption) ?_
          try simp only [Act.put, List.setIfInBounds_toArray, List.set_cons_zero, List.set_cons_succ]
          refine wpAnyS_take [25, 26, 27] (i := 24) (oi := ⟨_, _, _, _, _, _⟩) (v := undef) (by simp) (by kernel_rfl) rfl (by kernel_rfl) (by kernel_rfl) (by kernel_rfl) (fun _ _ _ h => h) (Or.inr ⟨by rfl, rfl⟩) (by assumption) ?_
          try simp only [Act.put, List.setIfInBounds_toArray, List.set_cons_zero, List.set_cons_succ]
          refine wpAnyS_take [26, 27] (i := 25) (oi := ⟨_, _, _, _, _, _⟩) (v := undef) (by simp) (by kernel_rfl) rfl (by kernel_rfl) (by kernel_rfl) (by kernel_rfl) (fun _ _ _ h => h) (Or.inr ⟨by rfl, rfl⟩) (by assumption) ?_
          try simp only [Act.put, List.setIfInBounds_toArray, List.set_cons_zero, List.set_cons_succ]
          refine wpAnyS_take [27] (i := 26) (oi := ⟨_, _, _, _, _, _⟩) (v := undef) (by simp) (by kernel_rfl) rfl (by kernel_rfl) (by kernel_rfl) (by kernel_rfl) (fun _ _ _ h => h) (Or.inr ⟨by rfl, rfl⟩) (by assumption) ?_
          try simp only [Act.put, List.setIfInBounds_toArray, List.set_cons_zero, List.set_cons_succ]
          refine wpAnyS_call (k := 27) (ok := ⟨_, _, _, _, _, _⟩) rfl (by kernel_rfl) (by kernel_rfl) (fun K hK => ?_)
          go_simp
          refine hK.out _ _ ?_
          clear hK K
          try simp only [Act.put, List.setIfInBounds_toArray, List.set_cons_zero, List.set_cons_succ]
          refine wpAny_done (by kernel_rfl) ?_ _
          go_wp2_with fail
          go_meet
          exact ⟨C2, hrow2.below hHeld.2.2.2, HP2, below_then hb10 hHeld.2.2.2⟩
    · obtain rfl : L = 0 := by omega
      go_wp2_with fail
      go_meet
      exact ⟨C, hrow1, HP, hb⟩
  obtain ⟨C2, hCr2, HP2, hb'⟩ := hcut
  clear ho1 hb hrow1
  rename World => w10
  have hln2 := hCr2.len
  replace hCr := hCr.below hb'
  replace k1 := k1.below hb' k1.lt
  replace kA := kA.below hb' kA.lt
  replace hB := below_then hB hb'
  clear hb' kQ mp
  obtain ⟨g2, hg2⟩ : ∃ g, g = shaS (lockL r1 (sortL (C2.map (·.1)))) := ⟨_, rfl⟩
  have hl2 : g2.length = 32 := by rw [hg2]; exact sha_len _
  have HL2 := Lib.hid hl2
  have e3 : lockedR r1 (C2.map (·.1)) = (g2, 0) := by rw [hg2]; exact locked_ok (by rw [List.length_map]; omega) HP2.out.one (picks_box HP2.out)
  have mq := Lib.hid (fun W hT h => Locked_q r1 h2 Ao L co C2 HP2.out.who (by omega) W hT h)
  rw [e3] at mq
  have ma := Lib.hid (fun W h => rListed_q r0 h1 Ac L cc C HP.out.who HP.out.box HP.out.one (by omega) W h)
  have mb := Lib.hid (fun W h => rListed_q r1 h2 Ao L co C2 HP2.out.who HP2.out.box HP2.out.one (by omega) W h)
  have za := lockL_size h1 HP.out.who HP.out.box (by have := HL.out; omega)
  have zb := lockL_size h2 HP2.out.who HP2.out.box (by omega)
  obtain ⟨ta, hta⟩ : ∃ t, t = strB (lockL r0 (sortL (C.map (·.1)))) := ⟨_, rfl⟩
  obtain ⟨tb, htb⟩ : ∃ t, t = strB (lockL r1 (sortL (C2.map (·.1)))) := ⟨_, rfl⟩
  have HS : Hid (h1h = shaS ta.data.toList ∧ g2 = shaS tb.data.toList) := Lib.hid ⟨by rw [hta, strB_list]; exact HH1.out, by rw [htb, strB_list]; exact hg2⟩
  rw [← hta] at ma za
  rw [← htb] at mb zb
  have mX := Lib.hid (clash_q ta tb za zb)
  have hEq := HHEQ.out g2 h1h HL2.out HL1.out
  clear hta htb hg2 e3 za zb hl2 HH1 HHEQ hln2
  have c1 : w10.cell? ⟨BA, 1, none⟩ = some (.int .i64 r1) := kA.cell 1
  go_upto_region 31 with (first
    | (go_at_call 59; (with_reducible refine (mq.out _ ?_ hCr2).mono ?_); exact HT.out.below hB; rintro e wu ⟨rfl, hb⟩; replace hCr := hCr.below hb; replace hCr2 := hCr2.below hb; replace k1 := k1.below hb k1.lt; replace kA := kA.below hb kA.lt; replace hB := below_then hB hb; clear hb)
    | (refine wpList_store_rowTo rfl 71 _ _ rfl rfl _ (u8a g2) rfl rfl _ _ (Blk.new _ _ _) (by rw [u8a_len HL2.out]; exact hash_size) (by rw [u8a_len HL2.out]; rfl) (u8a_one _) ?_))
  refine nameStored (u8a g2) ?_
  intro w11 k4 hb
  replace hCr := hCr.below hb
  replace hCr2 := hCr2.below hb
  replace k1 := k1.below hb k1.lt
  replace kA := kA.below hb kA.lt
  replace hB := below_then hB hb
  clear hb c1 mq
  generalize wu.heap.size = G4 at k4 ⊢
  have c0 : w11.cell? ⟨BA, 0, none⟩ = some (.int .i64 r0) := kA.cell 0
  have c1 : w11.cell? ⟨BA, 1, none⟩ = some (.int .i64 r1) := kA.cell 1
  go_upto_region 33 with (go_at_call 61; (with_reducible first | refine (ma.out _ hCr).mono ?_ | refine (mb.out _ hCr2).mono ?_); rintro e wq ⟨rfl, hb⟩; replace hCr := hCr.below hb; replace hCr2 := hCr2.below hb; replace k1 := k1.below hb k1.lt; replace k4 := k4.below hb k4.lt; replace c0 := cell_b hb c0; replace c1 := cell_b hb c1; replace hB := below_then hB hb; clear hb)
  clear hCr hCr2 kA ma mb c0 c1 HT
  have walk33 : True := trivial
  clear walk33
  by_cases ht : ta = tb
  · obtain rfl : g2 = h1h := by rw [HS.out.1, HS.out.2, ht]
    have hq := txt_same tb
    subst ht
    clear HS
    go_wp2_with (first
    | (refine wpList_load_rowG (by rfl) 71 _ rfl _ rfl G4 rfl _ (u8a g2) (0, 0) _ k4 Tryz.underlying71 rfl (by rw [u8a_len HL2.out]; exact hash_size) ?_)
    | (refine wpList_load_rowG (by rfl) 71 _ rfl _ rfl G1 rfl _ (u8a g2) (0, 0) _ k1 Tryz.underlying71 rfl (by rw [u8a_len HL2.out]; exact hash_size) ?_))
    go_ret
    exact ⟨by simp, hB⟩
  · have hq := txt_diff ht
    by_cases hg : g2 = h1h
    · have hcl : clashB ta tb = true := decide_eq_true ⟨ht, HS.out.1.symm.trans (hg.symm.trans HS.out.2)⟩
      rw [hcl] at mX
      subst hg
      clear HS hcl ht
      go_wp2_with (first
    | (refine wpList_load_rowG (by rfl) 71 _ rfl _ rfl G4 rfl _ (u8a g2) (0, 0) _ k4 Tryz.underlying71 rfl (by rw [u8a_len HL2.out]; exact hash_size) ?_)
    | (refine wpList_load_rowG (by rfl) 71 _ rfl _ rfl G1 rfl _ (u8a g2) (0, 0) _ k1 Tryz.underlying71 rfl (by rw [u8a_len HL2.out]; exact hash_size) ?_)
    | (go_at_call 62; (with_reducible refine (mX.out _).mono ?_); rintro e wp ⟨rfl, hb⟩; replace hB := below_then hB hb; clear hb))
      go_ret
      exact ⟨by simp, hB⟩
    · clear HS ht
      go_wp2_with (first
    | (refine wpList_load_rowG (by rfl) 71 _ rfl _ rfl G4 rfl _ (u8a g2) (0, 0) _ k4 Tryz.underlying71 rfl (by rw [u8a_len HL2.out]; exact hash_size) ?_)
    | (refine wpList_load_rowG (by rfl) 71 _ rfl _ rfl G1 rfl _ (u8a h1h) (0, 0) _ k1 Tryz.underlying71 rfl (by rw [u8a_len HL1.out]; exact hash_size) ?_))
      go_ret
      exact ⟨by simp, hB⟩

end Go.Proofs.YtebgmlbbilcbbaaGreatDoor
