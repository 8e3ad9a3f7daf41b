/- Locks: what the checks of chapter 11 find, for all laws of it. -/
import Derived.Test.YtebgmlbbilcbbaaGreatDoorLockN
import Derived.Test.YtebgmlbbilcbbaaGreatDoorLockO
import Derived.Test.YtebgmlbbilcbbaaGreatDoorModQ
import Derived.Great.Walk
namespace Go.Proofs.YtebgmlbbilcbbaaGreatDoor
open Go.RowKit
attribute [local go_sem] Oper.semAt_some

/-- A step under a guard that holds. -/
theorem wpList_on {P : Program} {ops : Array Oper} {rest : List Oper} {o : Oper} {a : Act} {w : World} {Q : Exit → Act → World → Prop} (hw : Region.wanted o (yielded ops a.tmps) = true)
    (h : ∀ K : Act → World → Prop, (∀ a w, wpList P ops Q rest a w → K a w) → o.wp P a w K Q) : wpList P ops Q (o :: rest) a w :=
  wpList_step fun K hK => by rw [if_pos hw]; exact h K hK
theorem wpList_load_rowG {P : Program} {ops : Array Oper} {rest : List Oper} {o : Oper} {a : Act} {w : World} {Q : Exit → Act → World → Prop} (hw : Region.wanted o (yielded ops a.tmps) = true) (ty : TypeId) (x : Operand) (ho : o.op = .load ty x)
    (d : Option Tmp) (hd : o.dst = d) (g : Nat) (hx : a.eval x = .pointer (some ⟨g, 0, none⟩)) (t : TypeId) (cs : Array Value) (fr : Nat × Nat) (ds : TypeDesc) (hg : w.heap[g]? = some (.cells cs t fr))
    (hu : P.underlying ty = some ds) (hds : (match ds with | .struct _ | .array _ _ => true | _ => false) = true) (hi : (P.info? ty).map (·.size) = some cs.size)
    (h : wpList P ops Q rest (a.put d (.agg cs)) w) : wpList P ops Q (o :: rest) a w := by
  subst hd
  exact wpList_on hw fun _ hK => wp_load_row ty x ho g hx t cs fr ds hg hu hds hi (hK _ _ h)
theorem wpList_buildToG {P : Program} {ops : Array Oper} {rest : List Oper} {o : Oper} {a : Act} {w : World} {Q : Exit → Act → World → Prop} (hw : Region.wanted o (yielded ops a.tmps) = true) (t : TypeId) (parts : Array (Nat × Operand)) (ho : o.op = .build t parts)
    (d : Option Tmp) (hd : o.dst = d) (cells : Array Value) (hf : P.built t (parts.map fun (i, x) => (i, a.eval x)).toList = some cells)
    (h : wpList P ops Q rest (a.put d (.agg cells)) w) : wpList P ops Q (o :: rest) a w := by
  subst hd
  refine wpList_on hw fun _ hK => wp_build t parts ho (by rw [hf]; rfl) (hK _ _ ?_)
  rw [hf]
  exact h

theorem txt_same (s : ByteArray) : (s.toList == s.toList) = true := by simp
theorem txt_diff {s t : ByteArray} (h : s ≠ t) : (s.toList == t.toList) = false := by
  have e : ∀ a : ByteArray, a.toList = a.data.toList := fun a => ByteArray.toList_eq a
  refine Bool.eq_false_iff.2 fun hb => h ?_
  exact bytes_eq (by rw [← e, ← e]; exact eq_of_beq hb)
/-- A text, cut. -/
def cutS (s : ByteArray) (n : Nat) : ByteArray := s.extract 0 (min s.size n)
theorem cutS_size (s : ByteArray) (n : Nat) : (cutS s n).size = min s.size n := by unfold cutS; rw [ByteArray.size_extract]; omega
theorem cutS_le (s : ByteArray) (n : Nat) : (cutS s n).size ≤ n := by rw [cutS_size]; exact Nat.min_le_right _ _

set_option maxHeartbeats 400000 in
theorem cut_q (s : ByteArray) (n : Nat) (_hs : s.size ≤ 9223372036854775807) (_hn : n ≤ 1000) :
    Ret 49 #[.string s, .int .i64 (n : Int)] (.string (cutS s n)) := by
  intro w
  have h1 : min (s.size : Int) (n : Int) = ((min s.size n : Nat) : Int) := by omega
  have h2 : min s.size n ≤ s.size := Nat.min_le_left _ _
  go_enter Tryz.func49, Tryz.ntmps49
  go_wp2_with fail
  go_ret
  exact ⟨rfl, Below.refl _ _⟩

theorem u8s_zero (n : Nat) : u8s (List.replicate n 0) = u8a (List.replicate n 0) := by
  unfold u8s u8a u8l
  rw [List.map_replicate]
theorem bdg_zero (n : Nat) (W : World) : BDg (W.alloc (.cells (u8s (List.replicate n 0)) 5)) (some ⟨W.heap.size, 0, none⟩) n n (List.replicate n 0) := by
  rw [u8s_zero]
  exact (Blk.new W 5 (u8a (List.replicate n 0))).bdg List.length_replicate (Nat.le_refl _)

theorem i64_small {z : Int} (h : 0 ≤ z) (h' : z ≤ 1000) : I64 z := ⟨by omega, by omega⟩

theorem made_hash (who round : Int) (s : List UInt8) (sq : Nat) : (comMade who round s sq).hash = secretH who round s := rfl
theorem made_len (who round : Int) (s : List UInt8) (sq : Nat) : (comMade who round s sq).hash.length = 32 := sha_len _
theorem made_box (who round : Int) (s : List UInt8) (sq : Nat) : (comMade who round s sq).box.length = s.length := boxed_len _ _ _ _ _
/-- What was made, is found again. -/
theorem made_recover (who round : Int) (s : List UInt8) (sq : Nat) : recoverV (comMade who round s sq) round sq = .tuple #[.string (strB s), .bool true] := by
  have e : boxed (comMade who round s sq).who round (comMade who round s sq).hash sq (comMade who round s sq).box = s := boxed_back _ _ _ _ _
  unfold recoverV
  rw [e]
  exact if_pos (decide_eq_true rfl)
theorem made_opens (who round : Int) (s : List UInt8) (sq : Nat) : opensR (comMade who round s sq) round s = true := decide_eq_true rfl

theorem two_rounds : secretH 7 3 [115] ≠ secretH 7 4 [115] := by decide +kernel

/-- What sanity makes, opens and recovers. -/
theorem san_com : ∃ c : Com, Hid (c.hash.length = 32) ∧ Hid (RetT 50 #[.int .i64 7, .int .i64 3, .string ⟨#[115]⟩, .int .i64 5] (.tuple #[.agg (comA c), .bool true])) ∧
    Hid (RetT 52 #[.agg (comA c), .int .i64 3, .int .i64 5] (.tuple #[.string ⟨#[115]⟩, .bool true])) ∧
    Hid (RetT 53 #[.agg (comA c), .int .i64 3, .string ⟨#[115]⟩] (.bool true)) ∧
    Hid (RetT 53 #[.agg (comA c), .int .i64 4, .string ⟨#[115]⟩] (.bool false)) := by
  have hw : I64 (comMade 7 3 [115] 5).who := i64_small (z := 7) (by decide) (by decide)
  have hl := made_len 7 3 [115] 5
  have r := Recover_yes (comMade 7 3 [115] 5) 3 5 hl hw (i64_small (by decide) (by decide)) (by rw [made_box]; decide) (by decide) (by decide)
  rw [made_recover] at r
  have o1 := Opens_q (comMade 7 3 [115] 5) 3 ⟨#[115]⟩ hl hw (i64_small (by decide) (by decide)) (by decide)
  have o2 := Opens_q (comMade 7 3 [115] 5) 4 ⟨#[115]⟩ hl hw (i64_small (by decide) (by decide)) (by decide)
  rw [show opensR (comMade 7 3 [115] 5) 3 (⟨#[115]⟩ : ByteArray).data.toList = true from made_opens 7 3 [115] 5] at o1
  rw [show opensR (comMade 7 3 [115] 5) 4 (⟨#[115]⟩ : ByteArray).data.toList = false from decide_eq_false two_rounds] at o2
  exact ⟨_, Lib.hid hl, Lib.hid (Commit_yes 7 3 ⟨#[115]⟩ 5 (i64_small (by decide) (by decide)) (i64_small (by decide) (by decide)) (by decide) (by decide) (by decide)), Lib.hid r, Lib.hid o1, Lib.hid o2⟩

theorem san_none : Ret 50 #[.int .i64 7, .int .i64 3, .string ⟨#[115]⟩, .int .i64 0] (.tuple #[.agg (comA comZero), .bool false]) :=
  Commit_no 7 3 ⟨#[115]⟩ 0 (by decide) (by decide)
theorem san_long : ∃ z : ByteArray, z = ⟨(List.replicate 101 (0 : UInt8)).toArray⟩ ∧ Hid (Ret 50 #[.int .i64 7, .int .i64 3, .string z, .int .i64 5] (.tuple #[.agg (comA comZero), .bool false])) :=
  ⟨_, rfl, Lib.hid (Commit_no 7 3 _ 5 (by show (101 : Nat) ≤ _; decide) (by decide))⟩

/-- The member of the list that sanity locks. -/
def san7 : C32 := ⟨⟨7, zero32, []⟩, rfl⟩
theorem calls_alloc {P : Program} {f : Nat} {args : Array Value} {w : World} {t : TypeId} {X : Array Value} {Q : Ending → World → Prop} (Y : Array Value) (e : X = Y) (h : Calls P f args (w.alloc (.cells Y t)) Q) : Calls P f args (w.alloc (.cells X t)) Q := e ▸ h
theorem san_locked (g : Nat) (W : World) (hT : Tabs W) (h : Blk W g 73 (listA [san7, san7])) :
    Calls Tryz.prog 59 #[.int .i64 3, .slice (some ⟨g, 0, none⟩) 2 2] W fun e w' => e = .returned (.tuple #[.agg (u8a zero32), .int .i64 33]) ∧ Below W.heap.size W w' := by
  have e : lockedR 3 ([san7, san7].map (·.1)) = (zero32, 33) := locked_twice (by decide) (by unfold Single; decide)
  have m := Locked_q 3 (i64_small (by decide) (by decide)) (some ⟨g, 0, none⟩) 2 2 [san7, san7] (fun x hx => by
    simp only [List.mem_cons, List.not_mem_nil, or_false, or_self] at hx
    subst hx
    exact i64_small (z := 7) (by decide) (by decide)) (by decide) W hT (row_of_list h rfl)
  rw [e] at m
  exact m
theorem ndg_pair {w : World} {g : Nat} {t : TypeId} {x y : ByteArray} (h : Blk w g t #[.string x, .string y]) : NDg w (some ⟨g, 0, none⟩) 2 2 [x, y] :=
  ⟨rfl, Nat.le_refl _, fun _ => ⟨g, 0, rfl, fun j s hs => by
    match j, hs with
    | 0, hs => obtain rfl := Option.some.inj hs; exact h.cell 0
    | 1, hs => obtain rfl := Option.some.inj hs; exact h.cell 1
    | j + 2, hs => simp at hs⟩⟩
theorem san_input (g : Nat) (t : TypeId) (W : World) (hT : Tabs W) (h : Blk W g t #[.string ⟨#[97]⟩, .string ⟨#[]⟩]) :
    Calls Tryz.prog 63 #[.int .i64 3, .agg (u8a zero32), .slice (some ⟨g, 0, none⟩) 2 2] W fun e w' => e = .returned (.string (strB (inputL 3 zero32 [[97], []]))) ∧ Below W.heap.size W w' :=
  Input_q 3 (i64_small (by decide) (by decide)) zero32 rfl (some ⟨g, 0, none⟩) 2 2 [⟨#[97]⟩, ⟨#[]⟩] (fun x hx => by
    simp only [List.mem_cons, List.not_mem_nil, or_false] at hx
    rcases hx with rfl | rfl <;> decide) (by decide) W hT (ndg_pair h)
theorem san_text : RetT 66 #[.agg (comA ⟨7, zero32, [97]⟩)] (.string (strB (comT ⟨7, zero32, [97]⟩))) :=
  comText_q ⟨7, zero32, [97]⟩ rfl (i64_small (z := 7) (by decide) (by decide)) (by decide)
theorem san_in : strB (inputL 3 zero32 [[97], []]) = ((⟨#[114, 111, 117, 110, 100, 47, 51, 47]⟩ ++ strB (hexL zero32)) ++ ⟨#[47, 49, 58, 97, 47, 48, 58]⟩ : ByteArray) := by decide +kernel
theorem san_tx : strB (comT ⟨7, zero32, [97]⟩) = ((⟨#[99, 111, 109, 109, 105, 116, 32, 55, 32]⟩ ++ strB (hexL zero32)) ++ ⟨#[32, 54, 49]⟩ : ByteArray) := by decide +kernel

set_option maxRecDepth 100000 in
set_option maxHeartbeats 4000000 in
theorem sanity11 : RetT 48 #[] (.bool true) := by
  intro w hT
  have HT := Lib.hid hT
  clear hT
  obtain ⟨c, HC, m1, m2, o1, o2⟩ := san_com
  obtain ⟨z, hz, m4⟩ := san_long
  have m3 := Lib.hid san_none
  have mL := Lib.hid san_locked
  have mT := Lib.hid (rText_h zero32 rfl)
  have mI := Lib.hid san_input
  have mC := Lib.hid san_text
  have hsz0 : (u8a zero32).size = 32 := rfl
  obtain ⟨cz, hmk, hcv⟩ : ∃ cz : Array Value, (∀ W : World, (Instr.makeSlice 22 (.int .i64 101) (.int .i64 101)).run Tryz.prog W = .ok (.slice (some ⟨W.heap.size, 0, none⟩) 101 101) (W.alloc (.cells cz 5))) ∧
      ∀ W : World, (convert 22 9 (.slice (some ⟨W.heap.size, 0, none⟩) 101 101)).run Tryz.prog (W.alloc (.cells cz 5)) = .ok (.string z) (W.alloc (.cells cz 5)) := by
    refine ⟨u8s (List.replicate 101 0), fun W => make_u8 101 (by omega) W, fun W => ?_⟩
    rw [hz]
    exact run_bdg_str (bdg_zero 101 W)
  clear hz
  have hi1 := san_in
  have hi2 := san_tx
  obtain ⟨zt, hzt⟩ : ∃ zt, zt = strB (hexL zero32) := ⟨_, rfl⟩
  have hzs : zt.size = 64 := by rw [hzt]; rfl
  rw [← hzt] at mT hi1 hi2
  generalize strB (inputL 3 zero32 [[97], []]) = ri at mI hi1
  generalize strB (comT ⟨7, zero32, [97]⟩) = rt at mC hi2
  clear hzt
  have hB := Below.refl w.heap.size w
  go_enter Tryz.func48, Tryz.ntmps48
  go_upto_region 2 with (first
    | (go_at_call 50; (with_reducible refine (m1.out _ ?_).mono ?_); exact HT.out.below hB; rintro e wz ⟨rfl, hb⟩; replace hB := below_then hB hb; clear hb)
    | (refine wpList_store_rowTo rfl 73 _ _ rfl rfl _ (comA c) rfl rfl _ _ (Blk.new _ _ _) (by rw [comA_size (c := c) HC.out]; exact com_size) (by rw [comA_size (c := c) HC.out]; rfl) (comA_one _) ?_))
  refine nameStored (comA c) ?_
  intro w1 k1 hb
  have hgC : w.heap.size ≤ wz.heap.size := hB.size
  replace hB := below_then hB hb
  clear hb
  generalize wz.heap.size = C at k1 hgC ⊢
  go_upto_region 4 with (first
    | (refine wpList_load_row rfl 73 _ rfl C rfl _ (comA c) (0, 0) _ k1 Tryz.underlying73 rfl (by rw [comA_size (c := c) HC.out]; exact com_size) ?_)
    | (go_at_call 52; (with_reducible refine (m2.out _ ?_).mono ?_); exact HT.out.below hB; rintro e wz ⟨rfl, hb⟩; replace k1 := k1.below hb k1.lt; replace hB := below_then hB hb; clear hb)
    | (go_at_call 50; (with_reducible refine (m3.out _).mono ?_); rintro e wz ⟨rfl, hb⟩; replace k1 := k1.below hb k1.lt; replace hB := below_then hB hb; clear hb)
    | (refine wpList_store_rowTo rfl 73 _ _ rfl rfl _ (comA comZero) rfl rfl _ _ (Blk.new _ _ _) (by rw [comA_size (c := comZero) rfl]; exact com_size) (by rw [comA_size (c := comZero) rfl]; rfl) (comA_one _) ?_))
  refine nameStored (comA comZero) ?_
  intro w2 k2 hb
  clear k2
  replace k1 := k1.below hb k1.lt
  replace hB := below_then hB hb
  clear hb
  generalize wz.heap.size = C5 at ⊢
  go_upto_region 5 with (first
    | (go_at_call 50; (with_reducible refine (m4.out _).mono ?_); rintro e wz ⟨rfl, hb⟩; replace hb := below_then (below_al (Below.refl w2.heap.size w2) _) hb; replace k1 := k1.below hb k1.lt; replace hB := below_then hB hb; clear hb)
    | (refine wpList_store_rowTo rfl 73 _ _ rfl rfl _ (comA comZero) rfl rfl _ _ (Blk.new _ _ _) (by rw [comA_size (c := comZero) rfl]; exact com_size) (by rw [comA_size (c := comZero) rfl]; rfl) (comA_one _) ?_))
  refine nameStored (comA comZero) ?_
  intro w3 k3 hb
  clear k3
  replace k1 := k1.below hb k1.lt
  replace hB := below_then hB hb
  clear hb hcv hmk m4
  generalize wz.heap.size = C7 at ⊢
  go_upto_region 6 with (first
    | (refine wpList_buildTo rfl 73 _ rfl _ rfl (comA ⟨7, zero32, []⟩) (by simp [Act.eval]; exact (com_built1 7)) ?_)
    | (refine wpList_buildTo rfl 71 _ rfl _ rfl (u8a zero32) (by simp [Act.eval]; exact hash_built0) ?_)
    | (go_at_call 59; (with_reducible refine calls_alloc (listA [san7, san7]) (by kernel_rfl) ?_); (with_reducible refine (mL.out _ _ ?_ (Blk.new _ _ _)).mono ?_); exact HT.out.below (below_al hB _); rintro e wz ⟨rfl, hb⟩; replace hb := below_then (below_al (Below.refl w3.heap.size w3) _) hb; replace k1 := k1.below hb k1.lt; replace hB := below_then hB hb; clear hb)
    | (refine wpList_store_rowTo rfl 71 _ _ rfl rfl _ (u8a zero32) rfl rfl _ _ (Blk.new _ _ _) (by rw [hsz0]; exact hash_size) (by rw [hsz0]; rfl) (u8a_one _) ?_))
  refine nameStored (u8a zero32) ?_
  intro w4 k4 hb
  clear k4
  replace k1 := k1.below hb k1.lt
  replace hB := below_then hB hb
  clear hb mL m1 m2 m3
  generalize wz.heap.size = C9 at ⊢
  go_upto_region 8 with (first
    | (refine wpList_buildTo rfl 71 _ rfl _ rfl (u8a zero32) (by simp [Act.eval]; exact hash_built0) ?_)
    | (go_at_call 103; (with_reducible refine (mT.out _).mono ?_); rintro e wz ⟨rfl, hb⟩; replace k1 := k1.below hb k1.lt; replace hB := below_then hB hb; clear hb)
    | (refine wpList_load_rowG (by rfl) 73 _ rfl _ rfl C rfl _ (comA c) (0, 0) _ k1 Tryz.underlying73 rfl (by rw [comA_size (c := c) HC.out]; exact com_size) ?_)
    | (go_at_call 53; (with_reducible first | refine (o1.out _ ?_).mono ?_ | refine (o2.out _ ?_).mono ?_); exact HT.out.below hB; rintro e wz ⟨rfl, hb⟩; replace k1 := k1.below hb k1.lt; replace hB := below_then hB hb; clear hb))
  go_wp2_with (first
    | (refine wpList_buildToG (by rfl) 71 _ rfl _ rfl (u8a zero32) (by simp [Act.eval]; exact hash_built0) ?_)
    | (go_at_call 63; (with_reducible refine (mI.out _ _ _ ?_ (Blk.new _ _ _)).mono ?_); exact HT.out.below (below_al hB _); rintro e wz2 ⟨rfl, hb⟩; replace hb := below_then (below_al (Below.refl wz.heap.size wz) _) hb; replace hB := below_then hB hb; clear hb)
    | (refine wpList_buildToG (by rfl) 73 _ rfl _ rfl (comA ⟨7, zero32, [97]⟩) (by simp [Act.eval]; exact (com_built02 7 [97])) ?_)
    | (go_at_call 66; (with_reducible refine (mC.out _ ?_).mono ?_); exact HT.out.below hB; rintro e wz ⟨rfl, hb⟩; replace hB := below_then hB hb; clear hb))
  go_ret
  exact ⟨rfl, hB⟩

end Go.Proofs.YtebgmlbbilcbbaaGreatDoor
