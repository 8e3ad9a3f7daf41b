/- The law LockInputs. -/
import Derived.Test.YtebgmlbbilcbbaaGreatDoorLockP
namespace Go.Proofs.YtebgmlbbilcbbaaGreatDoor
open Go.RowKit
attribute [local go_sem] Oper.semAt_some

abbrev OwnX (B : Nat) (w : World) (v : Value) (l : List ByteArray) : Prop := OwnL encT 9 1 B w v l
theorem OwnX.ndg {B : Nat} {w : World} {v : Value} {l : List ByteArray} (h : OwnX B w v l) : ∃ A c, v = .slice A l.length c ∧ NDg w A l.length c l := by
  obtain ⟨A, c, rfl, hr⟩ := OwnL.row h encT_len
  refine ⟨A, c, rfl, hr.len, hr.cap, fun h0 => ?_⟩
  obtain ⟨b, o, e, hc⟩ := hr.at_ h0
  refine ⟨b, o, e, fun j x hx => ?_⟩
  have := hc j 0 x (.string x) hx rfl
  rw [Nat.mul_one, Nat.add_zero] at this
  exact this
theorem name3e {P : Program} {code : Code} {Q : Exit → Act → World → Prop} {act : Act} {W : World} {t1 t2 t3 : TypeId} {c1 c2 c3 : Array Value} (d1 d2 d3 : Array Value) (e1 : c1 = d1) (e2 : c2 = d2) (e3 : c3 = d3)
    (h : ∀ W0 : World, Blk W0 W.heap.size t1 d1 → Blk W0 (W.heap.size + 1) t2 d2 → Blk W0 (W.heap.size + 2) t3 d3 → Below W.heap.size W W0 → code.wp P Q act W0) : code.wp P Q act (((W.alloc (.cells c1 t1)).alloc (.cells c2 t2)).alloc (.cells c3 t3)) := by
  subst e1 e2 e3
  refine h _ (((Blk.new _ _ _).alloc _).alloc _) ?_ ?_ (below_al (below_al (below_al (Below.refl _ _) _) _) _)
  · have := (Blk.new (W.alloc (.cells c1 t1)) t2 c2).alloc (.cells c3 t3)
    rwa [World.size_alloc] at this
  · have := Blk.new ((W.alloc (.cells c1 t1)).alloc (.cells c2 t2)) t3 c3
    rwa [World.size_alloc, World.size_alloc] at this
/-- The texts that a law takes of a list. -/
def cutL (xs : List ByteArray) : List ByteArray := (xs.take 5).map fun s => cutS s 20
theorem cutL_succ {xs : List ByteArray} {k : Nat} {s : ByteArray} (h : xs[k]? = some s) : (xs.take (k + 1)).map (fun s => cutS s 20) = (xs.take k).map (fun s => cutS s 20) ++ [cutS s 20] := by
  rw [List.take_add_one, h, Option.toList_some, List.map_append]; rfl
theorem cutL_len (xs : List ByteArray) : (cutL xs).length = min 5 xs.length := by unfold cutL; rw [List.length_map, List.length_take]
/-- What lies about the loops. -/
structure LayI (BA D : Nat) (r0 r1 : Int) (s0 s1 : Value) (h : List UInt8) (w : World) (v0 v1 : Value) (wr : World) : Prop where
  a : Blk wr BA 68 #[.int .i64 r0, .int .i64 r1]
  s : Blk wr (BA + 1) 92 #[s0, s1]
  h : Blk wr (BA + 2) 71 (u8a h)
  d : Blk wr D 92 #[v0, v1]
  b : Below w.heap.size w wr
theorem LayI.below {BA D : Nat} {r0 r1 : Int} {s0 s1 : Value} {h : List UInt8} {w : World} {v0 v1 : Value} {wr wt : World} (l : LayI BA D r0 r1 s0 s1 h w v0 v1 wr) (hb : Below wr.heap.size wr wt) : LayI BA D r0 r1 s0 s1 h w v0 v1 wt :=
  ⟨l.a.below hb l.a.lt, l.s.below hb l.s.lt, l.h.below hb l.h.lt, l.d.below hb l.d.lt, below_then l.b hb⟩
theorem LayI.grown {BA D : Nat} {r0 r1 : Int} {s0 s1 : Value} {h : List UInt8} {w : World} {v0 v1 : Value} {wr wt : World} (l : LayI BA D r0 r1 s0 s1 h w v0 v1 wr) {B : Nat} {v : Value} {xs : List ByteArray} (ho : OwnX B wr v xs) (hB : w.heap.size ≤ B) (hg : wr.grownBy wt v.ownBlock) : LayI BA D r0 r1 s0 s1 h w v0 v1 wt :=
  ⟨l.a.grown hg (own_ty ho l.a (by decide)), l.s.grown hg (own_ty ho l.s (by decide)), l.h.grown hg (own_ty ho l.h (by decide)), l.d.grown hg (own_ty ho l.d (by decide)), l.b.grown hg l.b.size (fun k e => Nat.le_trans hB (own_high ho k e))⟩
theorem LayI.set0 {BA D : Nat} {r0 r1 : Int} {s0 s1 : Value} {h : List UInt8} {w : World} {v0 v1 : Value} {wr : World} (l : LayI BA D r0 r1 s0 s1 h w v0 v1 wr) (hBA : w.heap.size ≤ BA) (hD : BA + 2 < D) (v : Value) : LayI BA D r0 r1 s0 s1 h w v v1 (wr.setCell ⟨D, 0, none⟩ v) :=
  ⟨kept_set l.a (by omega) 0 v, kept_set l.s (by omega) 0 v, kept_set l.h (by omega) 0 v, l.d.set_ 0 v, below_set l.b (p := ⟨D, 0, none⟩) (by show w.heap.size ≤ D; omega) v⟩
theorem LayI.set1 {BA D : Nat} {r0 r1 : Int} {s0 s1 : Value} {h : List UInt8} {w : World} {v0 v1 : Value} {wr : World} (l : LayI BA D r0 r1 s0 s1 h w v0 v1 wr) (hBA : w.heap.size ≤ BA) (hD : BA + 2 < D) (v : Value) : LayI BA D r0 r1 s0 s1 h w v0 v (wr.setCell ⟨D, 1, none⟩ v) :=
  ⟨kept_set l.a (by omega) 1 v, kept_set l.s (by omega) 1 v, kept_set l.h (by omega) 1 v, l.d.set_ 1 v, below_set l.b (p := ⟨D, 1, none⟩) (by show w.heap.size ≤ D; omega) v⟩

theorem ownW_shape {B : Nat} {w : World} {v : Value} {l : List ByteArray} (h : OwnX B w v l) : ∃ (A : Option Addr) (m c : Nat), v = .slice A m c := by
  obtain ⟨A, c, e, _⟩ := OwnX.ndg h
  exact ⟨A, _, c, e⟩
theorem own_lowW {B : Nat} {w : World} {v : Value} {l : List ByteArray} (h : OwnX B w v l) : ∀ g, v.ownBlock = some g → g < w.heap.size := by
  intro g hg
  rcases h.2 with ⟨rfl, _⟩ | ⟨g', cap, cur, rfl, _, hh, _⟩
  · simp [Value.ownBlock] at hg
  · simp [Value.ownBlock] at hg
    subst hg
    exact (Array.getElem?_eq_some_iff.1 hh).1
theorem own_apart {B B1 : Nat} {w w' : World} {v0 v : Value} {l l' : List ByteArray} (_ : OwnX B w v0 l) (h' : OwnX B1 w' v l') (hlow : ∀ g, v0.ownBlock = some g → g < B1) : v0.ownBlock = none ∨ v0.ownBlock ≠ v.ownBlock := by
  cases e : v0.ownBlock with
  | none => exact .inl rfl
  | some g =>
    refine .inr fun e' => ?_
    have h1 := hlow g e
    have h2 := own_high h' g e'.symm
    omega

theorem same_end {r0 r1 : Int} {m0 m1 i : Nat} {L0 L1 : List ByteArray} {b : Bool} (h0 : m0 = L0.length) (h1 : m1 = L1.length) (hb : b = true ↔ r0 = r1 ∧ m0 = m1 ∧ L0.take i = L1.take i) (he : b = true → i = m0) : b = true ↔ r0 = r1 ∧ L0 = L1 := by
  constructor
  · intro h
    obtain ⟨e1, e2, e3⟩ := hb.1 h
    refine ⟨e1, ?_⟩
    have hi := he h
    rwa [List.take_of_length_le (by omega), List.take_of_length_le (by omega)] at e3
  · rintro ⟨rfl, rfl⟩
    exact hb.2 ⟨rfl, by omega, rfl⟩
theorem same_step {r0 r1 : Int} {m0 m1 i : Nat} {L0 L1 : List ByteArray} {s : ByteArray} (h : r0 = r1 ∧ m0 = m1 ∧ L0.take i = L1.take i) (hs : L0[i]? = some s) (ht : L1[i]? = some s) : true = true ↔ r0 = r1 ∧ m0 = m1 ∧ L0.take (i + 1) = L1.take (i + 1) :=
  ⟨fun _ => ⟨h.1, h.2.1, by rw [List.take_add_one, List.take_add_one, h.2.2, hs, ht]⟩, fun _ => rfl⟩
theorem same_stop {r0 r1 : Int} {m0 m1 i : Nat} {L0 L1 : List ByteArray} {s t : ByteArray} (hs : L0[i]? = some s) (ht : L1[i]? = some t) (hst : ¬ s = t) : false = true ↔ r0 = r1 ∧ m0 = m1 ∧ L0.take (i + 1) = L1.take (i + 1) := by
  refine ⟨fun h => Bool.noConfusion h, fun h => ?_⟩
  have e : (L0.take (i + 1))[i]? = (L1.take (i + 1))[i]? := by rw [h.2.2]
  rw [List.getElem?_take, List.getElem?_take, if_pos (by omega), if_pos (by omega), hs, ht] at e
  exact absurd (Option.some.inj e) hst
theorem cutL_small (xs : List ByteArray) : ∀ x ∈ cutL xs, x.size ≤ 20 := fun x hx => by
  obtain ⟨y, _, rfl⟩ := List.mem_map.1 hx
  exact cutS_le y 20
theorem parts_len : ∀ L : List ByteArray, (∀ x ∈ L, x.size ≤ 20) → ((L.map (·.data.toList)).flatMap partL).length ≤ L.length * 42
  | [], _ => by simp
  | x :: L, h => by
    have h1 := parts_len L (fun y hy => h y (List.mem_cons_of_mem _ hy))
    have h2 := h x (List.mem_cons_self ..)
    have h3 : (decS x.size).size ≤ 20 := decS_int (by omega)
    rw [List.map_cons, List.flatMap_cons, List.length_append, List.length_cons]
    have h4 : (partL x.data.toList).length = 1 + (decS x.size).size + 1 + x.size := by
      rw [← partB_list, size_len, partB_size]
    omega
theorem input_len {r : Int} (hr : I64 r) {h : List UInt8} (hh : h.length = 32) {L : List ByteArray} (hL : ∀ x ∈ L, x.size ≤ 20) (hl : L.length ≤ 5) : (inputL r h (L.map (·.data.toList))).length ≤ 1000 := by
  have h1 := parts_len L hL
  have h2 := decI_len hr
  unfold inputL
  simp only [List.length_append, List.length_cons, List.length_nil, hexL_len, hh]
  omega
theorem input_same {r r' : Int} {h : List UInt8} {L L' : List ByteArray} (e : strB (inputL r h (L.map (·.data.toList))) = strB (inputL r' h (L'.map (·.data.toList)))) : r = r' ∧ L = L' := by
  have e' : inputL r h (L.map (·.data.toList)) = inputL r' h (L'.map (·.data.toList)) := by rw [← strB_list (inputL r h _), e, strB_list]
  obtain ⟨h1, _, h3⟩ := inputL_inj rfl e'
  refine ⟨h1, ?_⟩
  apply List.ext_getElem?
  intro i
  have h4 : (L.map (·.data.toList))[i]? = (L'.map (·.data.toList))[i]? := by rw [h3]
  rw [List.getElem?_map, List.getElem?_map] at h4
  cases ha : L[i]? with
  | none => cases hb : L'[i]? with
    | none => rfl
    | some y => rw [ha, hb] at h4; cases h4
  | some x => cases hb : L'[i]? with
    | none => rw [ha, hb] at h4; cases h4
    | some y => rw [ha, hb] at h4; rw [bytes_eq (Option.some.inj h4)]
theorem input_hash {r : Int} {h h' : List UInt8} (hl : h'.length = h.length) {L : List ByteArray} : ((strB (inputL r h' (L.map (·.data.toList)))).toList == (strB (inputL r h (L.map (·.data.toList)))).toList) = decide (h' = h) := by
  by_cases e : h' = h
  · subst e
    rw [decide_eq_true rfl]; exact txt_same _
  · rw [decide_eq_false e]
    refine txt_diff fun e' => e ?_
    have e2 : inputL r h' (L.map (·.data.toList)) = inputL r h (L.map (·.data.toList)) := by rw [← strB_list (inputL r h' _), e', strB_list]
    exact (inputL_inj hl e2).2.1

set_option maxRecDepth 100000 in
set_option maxHeartbeats 4000000 in
theorem LockInputs_any (r0 r1 : Int) (A0 : Option Addr) (n0 c0 : Nat) (xs0 : List ByteArray) (A1 : Option Addr) (n1 c1 : Nat) (xs1 : List ByteArray) (h : List UInt8) (w : World) (hT : Tabs w) (hx0 : NDg w A0 n0 c0 xs0) (hx1 : NDg w A1 n1 c1 xs1) (h1 : I64 r0) (h2 : I64 r1)
    (hs0 : ∀ x ∈ xs0, x.size ≤ 9223372036854775807) (hs1 : ∀ x ∈ xs1, x.size ≤ 9223372036854775807) (_hn0 : n0 ≤ 9223372036854775807) (_hn1 : n1 ≤ 9223372036854775807) (hh : h.length = 32) :
    Calls Tryz.prog 15 #[.agg #[.int .i64 r0, .int .i64 r1], .agg #[.slice A0 n0 c0, .slice A1 n1 c1], .agg (u8a h)] w fun e w' => e = .returned (.bool true) ∧ Below w.heap.size w w' := by
  have HT := Lib.hid hT
  have HX0 := Lib.hid hx0
  have HX1 := Lib.hid hx1
  have HL0 := Lib.hid hx0.len
  have HL1 := Lib.hid hx1.len
  have HS0 := Lib.hid hs0
  have HS1 := Lib.hid hs1
  have HH := Lib.hid hh
  clear hT hx0 hx1 hs0 hs1 hh
  have ms := Lib.hid sanity11
  go_enter Tryz.func15, Tryz.ntmps15
  go_upto_region 1 with fail
  refine name3e #[.int .i64 r0, .int .i64 r1] #[.slice A0 n0 c0, .slice A1 n1 c1] (u8a h) rfl rfl rfl ?_
  intro w0 kA kS kH hB
  obtain ⟨BA, hBAe⟩ : ∃ B, B = w.heap.size := ⟨_, rfl⟩
  rw [← hBAe] at kA kS kH ⊢
  have hBA : w.heap.size ≤ BA := by omega
  clear hBAe
  go_upto_region 2 with (first | (go_at_call 48; (with_reducible refine (ms.out _ ?_).mono ?_); exact HT.out.below hB; rintro e wz ⟨rfl, hb⟩; replace kA := kA.below hb kA.lt; replace kS := kS.below hb kS.lt; replace kH := kH.below hb kH.lt; replace hB := below_then hB hb; clear hb))
  go_upto_region 3 with fail
  refine nameOne #[.slice none 0 0, .slice none 0 0] rfl ?_
  intro w1 kD hb
  have hD0 := kH.lt
  have LY : LayI BA wz.heap.size r0 r1 (.slice A0 n0 c0) (.slice A1 n1 c1) h w (.slice none 0 0) (.slice none 0 0) w1 := ⟨kA.below hb kA.lt, kS.below hb kS.lt, kH.below hb kH.lt, kD, below_then hB hb⟩
  obtain ⟨D, hDe⟩ : ∃ D, D = wz.heap.size := ⟨_, rfl⟩
  rw [← hDe] at LY ⊢
  have hD : BA + 2 < D := by omega
  clear hb kA kS kH kD hB hD0 hDe ms
  go_wp2_with fail
  go_loopw [9] (fun s9 wr => ∃ v0 v1 : Value, LayI BA D r0 r1 (.slice A0 n0 c0) (.slice A1 n1 c1) h w v0 v1 wr ∧ ((s9 = .int .i64 0 ∧ v0 = .slice none 0 0 ∧ v1 = .slice none 0 0) ∨ (s9 = .int .i64 1 ∧ OwnX w.heap.size wr v0 (cutL xs0) ∧ v1 = .slice none 0 0) ∨
    (s9 = .int .i64 2 ∧ ∃ (Ax : Option Addr) (cx : Nat) (Ay : Option Addr) (cy : Nat), v0 = .slice Ax (cutL xs0).length cx ∧ v1 = .slice Ay (cutL xs1).length cy ∧ NDg wr Ax (cutL xs0).length cx (cutL xs0) ∧ NDg wr Ay (cutL xs1).length cy (cutL xs1)))) (fun s9 _ => 2 - (intOf s9).toNat)
  case atStart => exact ⟨_, _, LY, .inl ⟨rfl, rfl, rfl⟩⟩
  case round =>
    obtain ⟨v0, v1, LY, hcase⟩ := hrel
    rcases hcase with ⟨rfl, rfl, rfl⟩ | ⟨rfl, ho0, rfl⟩ | ⟨rfl, Ax, cx, Ay, cy, rfl, rfl, hx, hy⟩
    · skip
      have l0 : wr.cell? ⟨BA + 1, 0, none⟩ = some (.slice A0 n0 c0) := LY.s.cell 0
      go_wp2_with fail
      go_loopw [10] (fun s10 wi => ∃ (i : Nat) (v : Value), i ≤ n0 ∧ i ≤ 5 ∧ s10 = .int .i64 (i : Int) ∧ OwnX w.heap.size wi v ((xs0.take i).map fun s => cutS s 20) ∧ LayI BA D r0 r1 (.slice A0 n0 c0) (.slice A1 n1 c1) h w v (.slice none 0 0) wi ∧ w.heap.size ≤ wi.heap.size) (fun s10 _ => 5 - (intOf s10).toNat)
      case atStart => exact ⟨0, _, Nat.zero_le _, Nat.zero_le _, rfl, OwnL.nil_ _ _ _ _ _, LY, LY.b.size⟩
      case round =>
        obtain ⟨i, v, hin, hi5, rfl, ho, LY, hBz⟩ := hrel
        have l0 : wr.cell? ⟨BA + 1, 0, none⟩ = some (.slice A0 n0 c0) := LY.s.cell 0
        by_cases hlt : i < n0 ∧ i < 5
        · obtain ⟨hlt, hl5⟩ := hlt
          have hlt' : (i : Int) < (n0 : Int) := by omega
          have hl5' : (i : Int) < 5 := by omega
          obtain ⟨b, o, s, rfl, hs, hsw⟩ := HX0.out.get hlt
          have hsc := cell_b LY.b hsw
          have mc : Hid (Ret 49 #[.string s, .int .i64 20] (.string (cutS s 20))) := Lib.hid (cut_q s 20 (HS0.out s (List.mem_of_getElem? hs)) (by omega))
          have HQ := Lib.hid (cutL_succ hs)
          have hml : ((xs0.take i).map fun s => cutS s 20).length ≤ 5 := by rw [List.length_map, List.length_take]; omega
          obtain ⟨q, hq⟩ : ∃ q, q = cutS s 20 := ⟨_, rfl⟩
          rw [← hq] at mc HQ
          clear hs hq
          have LD := LY.below (Below.refl _ wr).drew
          have hod := ho.below (Below.refl _ wr).drew
          have hsd := cell_b (Below.refl _ wr).drew hsc
          have hdc := LD.d.cell 0
          go_upto_region 9 with fail
          refine region_here (fun Z : World => Z.cell? ⟨D, 0, none⟩ = some v ∧ Z.cell? ⟨BA + 1, 0, none⟩ = some (.slice (some ⟨b, o, none⟩) n0 c0) ∧ Z.cell? ⟨b, o + i, none⟩ = some (.string s)) 14 (by kernel_rfl) ⟨hdc, LD.s.cell 0, hsd⟩ (fun hHeld => ?_)
          refine wpAnyS_take [13, 14] (i := 0) (oi := ⟨_, _, _, _, _, _⟩) (v := ?_) (by simp) (by kernel_rfl) rfl (by kernel_rfl) (by kernel_rfl) (by kernel_rfl) (fun _ _ _ h => h) (Or.inl ⟨by rfl, ?_⟩) (by assumption) ?_
          rotate_left
          · (intro w hSw; (try dsimp only at hSw); go_simp; try with_reducible rfl)
          try simp only [Act.put, List.setIfInBounds_toArray, List.set_cons_zero, List.set_cons_succ]
          refine wpAnyS_take [2, 3, 12, 13, 14] (i := 1) (oi := ⟨_, _, _, _, _, _⟩) (v := ?_) (by simp) (by kernel_rfl) rfl (by kernel_rfl) (by kernel_rfl) (by kernel_rfl) (fun _ _ _ h => h) (Or.inl ⟨by rfl, ?_⟩) (by assumption) ?_
          rotate_left
          · (intro w hSw; (try dsimp only at hSw); go_simp; try with_reducible rfl)
          try simp only [Act.put, List.setIfInBounds_toArray, List.set_cons_zero, List.set_cons_succ]
          refine wpAnyS_take [3, 12, 13, 14] (i := 2) (oi := ⟨_, _, _, _, _, _⟩) (v := ?_) (by simp) (by kernel_rfl) rfl (by kernel_rfl) (by kernel_rfl) (by kernel_rfl) (fun _ _ _ h => h) (Or.inl ⟨by rfl, ?_⟩) (by assumption) ?_
          rotate_left
          · (intro w hSw; (try dsimp only at hSw); go_simp; try with_reducible rfl)
          try simp only [Act.put, List.setIfInBounds_toArray, List.set_cons_zero, List.set_cons_succ]
          refine wpAnyS_take [12, 13, 14] (i := 3) (oi := ⟨_, _, _, _, _, _⟩) (v := ?_) (by simp) (by kernel_rfl) rfl (by kernel_rfl) (by kernel_rfl) (by kernel_rfl) (fun _ _ _ h => h) (Or.inl ⟨by rfl, ?_⟩) (by assumption) ?_
          rotate_left
          · (intro w hSw; (try dsimp only at hSw); go_simp; try with_reducible rfl)
          try simp only [Act.put, List.setIfInBounds_toArray, List.set_cons_zero, List.set_cons_succ]
          refine wpAnyS_take [5, 6, 8, 9, 10, 11, 12, 13, 14] (i := 4) (oi := ⟨_, _, _, _, _, _⟩) (v := ?_) (by simp) (by kernel_rfl) rfl (by kernel_rfl) (by kernel_rfl) (by kernel_rfl) (fun _ _ _ h => h) (Or.inl ⟨by rfl, ?_⟩) (by assumption) ?_
          rotate_left
          · (intro w hSw; (try dsimp only at hSw); go_simp; try with_reducible rfl)
          try simp only [Act.put, List.setIfInBounds_toArray, List.set_cons_zero, List.set_cons_succ]
          refine wpAnyS_take [6, 8, 9, 10, 11, 12, 13, 14] (i := 5) (oi := ⟨_, _, _, _, _, _⟩) (v := ?_) (by simp) (by kernel_rfl) rfl (by kernel_rfl) (by kernel_rfl) (by kernel_rfl) (fun _ _ _ h => h) (Or.inl ⟨by rfl, ?_⟩) (by assumption) ?_
          rotate_left
          · (intro w hSw; (try dsimp only at hSw); go_simp; try with_reducible rfl)
          try simp only [Act.put, List.setIfInBounds_toArray, List.set_cons_zero, List.set_cons_succ]
          refine wpAnyS_take [8, 9, 10, 11, 12, 13, 14] (i := 6) (oi := ⟨_, _, _, _, _, _⟩) (v := ?_) (by simp) (by kernel_rfl) rfl (by kernel_rfl) (by kernel_rfl) (by kernel_rfl) (fun _ _ _ h => h) (Or.inl ⟨by rfl, ?_⟩) (by assumption) ?_
          rotate_left
          · (intro w hSw; (try dsimp only at hSw); go_simp; try with_reducible rfl)
          try simp only [Act.put, List.setIfInBounds_toArray, List.set_cons_zero, List.set_cons_succ]
          refine wpAnyS_take [8, 9, 10, 11, 12, 13, 14] (i := 7) (oi := ⟨_, _, _, _, _, _⟩) (v := ?_) (by simp) (by kernel_rfl) rfl (by kernel_rfl) (by kernel_rfl) (by kernel_rfl) (fun _ _ _ h => h) (Or.inl ⟨by rfl, ?_⟩) (by assumption) ?_
          rotate_left
          · (intro w hSw; (try dsimp only at hSw); go_simp; try with_reducible rfl)
          try simp only [Act.put, List.setIfInBounds_toArray, List.set_cons_zero, List.set_cons_succ]
          refine wpAnyS_take [9, 10, 11, 12, 13, 14] (i := 8) (oi := ⟨_, _, _, _, _, _⟩) (v := ?_) (by simp) (by kernel_rfl) rfl (by kernel_rfl) (by kernel_rfl) (by kernel_rfl) (fun _ _ _ h => h) (Or.inl ⟨by rfl, ?_⟩) (by assumption) ?_
          rotate_left
          · (intro w hSw; (try dsimp only at hSw); go_simp; try with_reducible rfl)
          try simp only [Act.put, List.setIfInBounds_toArray, List.set_cons_zero, List.set_cons_succ]
          refine wpAnyS_take [10, 11, 12, 13, 14] (i := 9) (oi := ⟨_, _, _, _, _, _⟩) (v := ?_) (by simp) (by kernel_rfl) rfl (by kernel_rfl) (by kernel_rfl) (by kernel_rfl) (fun _ _ _ h => h) (Or.inl ⟨by rfl, ?_⟩) (by assumption) ?_
          rotate_left
          · (intro w hSw; (try dsimp only at hSw); go_simp; try with_reducible rfl)
          try simp only [Act.put, List.setIfInBounds_toArray, List.set_cons_zero, List.set_cons_succ]
          refine wpAnyS_one (i := 10) (oi := ⟨_, _, _, _, _, _⟩) rfl (by kernel_rfl) (fun K hK => ?_)
          go_simp
          go_at_call 49
          (with_reducible refine (mc.out _).mono ?_)
          rintro e wa ⟨rfl, hba⟩
          (try go_wp2_with fail)
          refine hK.out _ _ ?_ (fun hHeld10 => ?_)
          · exact ⟨cell_b hba hHeld.1, cell_b hba hHeld.2.1, cell_b hba hHeld.2.2⟩
          clear hK K
          try simp only [Act.put, List.setIfInBounds_toArray, List.set_cons_zero, List.set_cons_succ]
          refine wpAnyS_one (i := 11) (oi := ⟨_, _, _, _, _, _⟩) rfl (by kernel_rfl) (fun K hK => ?_)
          go_simp
          have hba2 := below_al (Below.refl wa.heap.size wa) (.cells #[.string q] 9)
          refine hK.out _ _ ?_ (fun hHeld11 => ?_)
          · exact ⟨cell_b hba2 hHeld10.1, cell_b hba2 hHeld10.2.1, cell_b hba2 hHeld10.2.2⟩
          clear hK K
          try simp only [Act.put, List.setIfInBounds_toArray, List.set_cons_zero, List.set_cons_succ]
          refine wpAnyS_one (i := 12) (oi := ⟨_, _, _, _, _, _⟩) rfl (by kernel_rfl) (fun K hK => ?_)
          have hl5 := ((LD.below hba).below hba2)
          have ho5 := (hod.below hba).below hba2
          refine step_append_rows (enc := encT) (B := w.heap.size) (ds := [q]) (A := some ⟨wa.heap.size, 0, none⟩) (n := 1) (c := 1) Tryz.underlying60 str_info rfl (by decide) (by decide) rfl (.tmp 36) (.tmp 44) rfl encT_len encT_one rfl ho5 rfl (row_new (Blk.new wa 9 #[.string q])) (by omega) (by decide) (Nat.le_trans hBz (Nat.le_trans hba.size hba2.size)) ?_
          intro v' w' ho' hg'
          obtain ⟨A', m', c', rfl⟩ := ownW_shape ho'
          have hl6 := hl5.grown ho5 (Nat.le_refl _) hg'
          have d6 : w'.cell? ⟨D, 0, none⟩ = some v := hl6.d.cell 0
          have f6 := hl6.d.frozen 0
          refine hK.out _ _ ?_ (fun hHeld12 => ?_)
          · exact ⟨d6, hl6.s.cell 0, cell_b hl6.b hsw⟩
          clear hK K
          try simp only [Act.put, List.setIfInBounds_toArray, List.set_cons_zero, List.set_cons_succ]
          refine wpAnyS_take [14] (i := 13) (oi := ⟨_, _, _, _, _, _⟩) (v := ?_) (by simp) (by kernel_rfl) rfl (by kernel_rfl) (by kernel_rfl) (by kernel_rfl) (fun _ _ _ h => h) (Or.inl ⟨by rfl, ?_⟩) (by assumption) ?_
          rotate_left
          · (intro w hSw; (try dsimp only at hSw); go_simp; try with_reducible rfl)
          try simp only [Act.put, List.setIfInBounds_toArray, List.set_cons_zero, List.set_cons_succ]
          refine wpAnyS_call (k := 14) (ok := ⟨_, _, _, _, _, _⟩) rfl (by kernel_rfl) (by kernel_rfl) (fun K hK => ?_)
          go_simp
          refine hK.out _ _ ?_
          clear hK K
          try simp only [Act.put, List.setIfInBounds_toArray, List.set_cons_zero, List.set_cons_succ]
          refine wpAny_done (by kernel_rfl) ?_ _
          have hl7 := hl6.set0 hBA hD (.slice A' m' c')
          have ho7 := OwnL.kept ho' (grown_set (grown_refl w' (some D)) 0 (.slice A' m' c')) (.inr (Ne.symm (own_ty ho' hl6.d (by decide))))
          rw [← HQ.out] at ho7
          have hsz7 : w.heap.size ≤ (w'.setCell ⟨D, 0, none⟩ (.slice A' m' c')).heap.size := Nat.le_trans hBz (Nat.le_trans hba.size (Nat.le_trans hba2.size (Nat.le_trans hg'.size (by simp [World.setCell]))))
          go_wp2_with fail
          go_roundw
          case rel => exact ⟨i + 1, .slice A' m' c', by omega, by omega, by go_num, ho7, hl7, hsz7⟩
          case measure => simp [intOf]; omega
        · have he : (xs0.take i).map (fun s => cutS s 20) = cutL xs0 := by
            unfold cutL
            congr 1
            by_cases hkn : i < n0
            · rw [show i = 5 by omega]
            · rw [List.take_of_length_le (by rw [HL0.out]; omega), List.take_of_length_le (by rw [HL0.out]; omega)]
          rw [he] at ho
          clear he
          by_cases hkn : i < n0
          · have h1 : (i : Int) < (n0 : Int) := by omega
            have h2 : ¬ (i : Int) < 5 := by omega
            go_wp2_with fail
            go_roundw
            case rel => exact ⟨v, _, LY, .inr (.inl ⟨by go_num, ho, rfl⟩)⟩
            case measure => simp [intOf]
          · have h1 : ¬ (i : Int) < (n0 : Int) := by omega
            go_wp2_with fail
            go_roundw
            case rel => exact ⟨v, _, LY, .inr (.inl ⟨by go_num, ho, rfl⟩)⟩
            case measure => simp [intOf]
    · obtain ⟨B1, hB1e⟩ : ∃ B1, B1 = wr.heap.size := ⟨_, rfl⟩
      have hB1 : w.heap.size ≤ B1 := hB1e ▸ LY.b.size
      have hlow : ∀ g, v0.ownBlock = some g → g < B1 := hB1e ▸ own_lowW ho0
      have hB1l : B1 ≤ wr.heap.size := by omega
      clear hB1e
      have l0 : wr.cell? ⟨BA + 1, 1, none⟩ = some (.slice A1 n1 c1) := LY.s.cell 1
      go_wp2_with fail
      go_loopw [10] (fun s10 wi => ∃ (i : Nat) (v : Value), i ≤ n1 ∧ i ≤ 5 ∧ s10 = .int .i64 (i : Int) ∧ OwnX B1 wi v ((xs1.take i).map fun s => cutS s 20) ∧ OwnX w.heap.size wi v0 (cutL xs0) ∧ LayI BA D r0 r1 (.slice A0 n0 c0) (.slice A1 n1 c1) h w v0 v wi ∧ B1 ≤ wi.heap.size) (fun s10 _ => 5 - (intOf s10).toNat)
      case atStart => exact ⟨0, _, Nat.zero_le _, Nat.zero_le _, rfl, OwnL.nil_ _ _ _ _ _, ho0, LY, (by omega)⟩
      case round =>
        obtain ⟨i, v, hin, hi5, rfl, ho, ho0, LY, hBz⟩ := hrel
        have l0 : wr.cell? ⟨BA + 1, 1, none⟩ = some (.slice A1 n1 c1) := LY.s.cell 1
        by_cases hlt : i < n1 ∧ i < 5
        · obtain ⟨hlt, hl5⟩ := hlt
          have hlt' : (i : Int) < (n1 : Int) := by omega
          have hl5' : (i : Int) < 5 := by omega
          obtain ⟨b, o, s, rfl, hs, hsw⟩ := HX1.out.get hlt
          have hsc := cell_b LY.b hsw
          have mc : Hid (Ret 49 #[.string s, .int .i64 20] (.string (cutS s 20))) := Lib.hid (cut_q s 20 (HS1.out s (List.mem_of_getElem? hs)) (by omega))
          have HQ := Lib.hid (cutL_succ hs)
          have hml : ((xs1.take i).map fun s => cutS s 20).length ≤ 5 := by rw [List.length_map, List.length_take]; omega
          obtain ⟨q, hq⟩ : ∃ q, q = cutS s 20 := ⟨_, rfl⟩
          rw [← hq] at mc HQ
          clear hs hq
          have LD := LY.below (Below.refl _ wr).drew
          have hod := ho.below (Below.refl _ wr).drew
          have hsd := cell_b (Below.refl _ wr).drew hsc
          have hdc := LD.d.cell 1
          go_upto_region 9 with fail
          refine region_here (fun Z : World => Z.cell? ⟨D, 1, none⟩ = some v ∧ Z.cell? ⟨BA + 1, 1, none⟩ = some (.slice (some ⟨b, o, none⟩) n1 c1) ∧ Z.cell? ⟨b, o + i, none⟩ = some (.string s)) 14 (by kernel_rfl) ⟨hdc, LD.s.cell 1, hsd⟩ (fun hHeld => ?_)
          refine wpAnyS_take [13, 14] (i := 0) (oi := ⟨_, _, _, _, _, _⟩) (v := ?_) (by simp) (by kernel_rfl) rfl (by kernel_rfl) (by kernel_rfl) (by kernel_rfl) (fun _ _ _ h => h) (Or.inl ⟨by rfl, ?_⟩) (by assumption) ?_
          rotate_left
          · (intro w hSw; (try dsimp only at hSw); go_simp; try with_reducible rfl)
          try simp only [Act.put, List.setIfInBounds_toArray, List.set_cons_zero, List.set_cons_succ]
          refine wpAnyS_take [2, 3, 12, 13, 14] (i := 1) (oi := ⟨_, _, _, _, _, _⟩) (v := ?_) (by simp) (by kernel_rfl) rfl (by kernel_rfl) (by kernel_rfl) (by kernel_rfl) (fun _ _ _ h => h) (Or.inl ⟨by rfl, ?_⟩) (by assumption) ?_
          rotate_left
          · (intro w hSw; (try dsimp only at hSw); go_simp; try with_reducible rfl)
          try simp only [Act.put, List.setIfInBounds_toArray, List.set_cons_zero, List.set_cons_succ]
          refine wpAnyS_take [3, 12, 13, 14] (i := 2) (oi := ⟨_, _, _, _, _, _⟩) (v := ?_) (by simp) (by kernel_rfl) rfl (by kernel_rfl) (by kernel_rfl) (by kernel_rfl) (fun _ _ _ h => h) (Or.inl ⟨by rfl, ?_⟩) (by assumption) ?_
          rotate_left
          · (intro w hSw; (try dsimp only at hSw); go_simp; try with_reducible rfl)
          try simp only [Act.put, List.setIfInBounds_toArray, List.set_cons_zero, List.set_cons_succ]
          refine wpAnyS_take [12, 13, 14] (i := 3) (oi := ⟨_, _, _, _, _, _⟩) (v := ?_) (by simp) (by kernel_rfl) rfl (by kernel_rfl) (by kernel_rfl) (by kernel_rfl) (fun _ _ _ h => h) (Or.inl ⟨by rfl, ?_⟩) (by assumption) ?_
          rotate_left
          · (intro w hSw; (try dsimp only at hSw); go_simp; try with_reducible rfl)
          try simp only [Act.put, List.setIfInBounds_toArray, List.set_cons_zero, List.set_cons_succ]
          refine wpAnyS_take [5, 6, 8, 9, 10, 11, 12, 13, 14] (i := 4) (oi := ⟨_, _, _, _, _, _⟩) (v := ?_) (by simp) (by kernel_rfl) rfl (by kernel_rfl) (by kernel_rfl) (by kernel_rfl) (fun _ _ _ h => h) (Or.inl ⟨by rfl, ?_⟩) (by assumption) ?_
          rotate_left
          · (intro w hSw; (try dsimp only at hSw); go_simp; try with_reducible rfl)
          try simp only [Act.put, List.setIfInBounds_toArray, List.set_cons_zero, List.set_cons_succ]
          refine wpAnyS_take [6, 8, 9, 10, 11, 12, 13, 14] (i := 5) (oi := ⟨_, _, _, _, _, _⟩) (v := ?_) (by simp) (by kernel_rfl) rfl (by kernel_rfl) (by kernel_rfl) (by kernel_rfl) (fun _ _ _ h => h) (Or.inl ⟨by rfl, ?_⟩) (by assumption) ?_
          rotate_left
          · (intro w hSw; (try dsimp only at hSw); go_simp; try with_reducible rfl)
          try simp only [Act.put, List.setIfInBounds_toArray, List.set_cons_zero, List.set_cons_succ]
          refine wpAnyS_take [8, 9, 10, 11, 12, 13, 14] (i := 6) (oi := ⟨_, _, _, _, _, _⟩) (v := ?_) (by simp) (by kernel_rfl) rfl (by kernel_rfl) (by kernel_rfl) (by kernel_rfl) (fun _ _ _ h => h) (Or.inl ⟨by rfl, ?_⟩) (by assumption) ?_
          rotate_left
          · (intro w hSw; (try dsimp only at hSw); go_simp; try with_reducible rfl)
          try simp only [Act.put, List.setIfInBounds_toArray, List.set_cons_zero, List.set_cons_succ]
          refine wpAnyS_take [8, 9, 10, 11, 12, 13, 14] (i := 7) (oi := ⟨_, _, _, _, _, _⟩) (v := ?_) (by simp) (by kernel_rfl) rfl (by kernel_rfl) (by kernel_rfl) (by kernel_rfl) (fun _ _ _ h => h) (Or.inl ⟨by rfl, ?_⟩) (by assumption) ?_
          rotate_left
          · (intro w hSw; (try dsimp only at hSw); go_simp; try with_reducible rfl)
          try simp only [Act.put, List.setIfInBounds_toArray, List.set_cons_zero, List.set_cons_succ]
          refine wpAnyS_take [9, 10, 11, 12, 13, 14] (i := 8) (oi := ⟨_, _, _, _, _, _⟩) (v := ?_) (by simp) (by kernel_rfl) rfl (by kernel_rfl) (by kernel_rfl) (by kernel_rfl) (fun _ _ _ h => h) (Or.inl ⟨by rfl, ?_⟩) (by assumption) ?_
          rotate_left
          · (intro w hSw; (try dsimp only at hSw); go_simp; try with_reducible rfl)
          try simp only [Act.put, List.setIfInBounds_toArray, List.set_cons_zero, List.set_cons_succ]
          refine wpAnyS_take [10, 11, 12, 13, 14] (i := 9) (oi := ⟨_, _, _, _, _, _⟩) (v := ?_) (by simp) (by kernel_rfl) rfl (by kernel_rfl) (by kernel_rfl) (by kernel_rfl) (fun _ _ _ h => h) (Or.inl ⟨by rfl, ?_⟩) (by assumption) ?_
          rotate_left
          · (intro w hSw; (try dsimp only at hSw); go_simp; try with_reducible rfl)
          try simp only [Act.put, List.setIfInBounds_toArray, List.set_cons_zero, List.set_cons_succ]
          refine wpAnyS_one (i := 10) (oi := ⟨_, _, _, _, _, _⟩) rfl (by kernel_rfl) (fun K hK => ?_)
          go_simp
          go_at_call 49
          (with_reducible refine (mc.out _).mono ?_)
          rintro e wa ⟨rfl, hba⟩
          (try go_wp2_with fail)
          refine hK.out _ _ ?_ (fun hHeld10 => ?_)
          · exact ⟨cell_b hba hHeld.1, cell_b hba hHeld.2.1, cell_b hba hHeld.2.2⟩
          clear hK K
          try simp only [Act.put, List.setIfInBounds_toArray, List.set_cons_zero, List.set_cons_succ]
          refine wpAnyS_one (i := 11) (oi := ⟨_, _, _, _, _, _⟩) rfl (by kernel_rfl) (fun K hK => ?_)
          go_simp
          have hba2 := below_al (Below.refl wa.heap.size wa) (.cells #[.string q] 9)
          refine hK.out _ _ ?_ (fun hHeld11 => ?_)
          · exact ⟨cell_b hba2 hHeld10.1, cell_b hba2 hHeld10.2.1, cell_b hba2 hHeld10.2.2⟩
          clear hK K
          try simp only [Act.put, List.setIfInBounds_toArray, List.set_cons_zero, List.set_cons_succ]
          refine wpAnyS_one (i := 12) (oi := ⟨_, _, _, _, _, _⟩) rfl (by kernel_rfl) (fun K hK => ?_)
          have hl5 := ((LD.below hba).below hba2)
          have ho5 := (hod.below hba).below hba2
          refine step_append_rows (enc := encT) (B := B1) (ds := [q]) (A := some ⟨wa.heap.size, 0, none⟩) (n := 1) (c := 1) Tryz.underlying60 str_info rfl (by decide) (by decide) rfl (.tmp 36) (.tmp 44) rfl encT_len encT_one rfl ho5 rfl (row_new (Blk.new wa 9 #[.string q])) (by omega) (by decide) (Nat.le_trans hBz (Nat.le_trans hba.size hba2.size)) ?_
          intro v' w' ho' hg'
          obtain ⟨A', m', c', rfl⟩ := ownW_shape ho'
          have hl6 := hl5.grown ho5 hB1 hg'
          have d6 : w'.cell? ⟨D, 1, none⟩ = some v := hl6.d.cell 1
          have f6 := hl6.d.frozen 1
          refine hK.out _ _ ?_ (fun hHeld12 => ?_)
          · exact ⟨d6, hl6.s.cell 1, cell_b hl6.b hsw⟩
          clear hK K
          try simp only [Act.put, List.setIfInBounds_toArray, List.set_cons_zero, List.set_cons_succ]
          refine wpAnyS_take [14] (i := 13) (oi := ⟨_, _, _, _, _, _⟩) (v := ?_) (by simp) (by kernel_rfl) rfl (by kernel_rfl) (by kernel_rfl) (by kernel_rfl) (fun _ _ _ h => h) (Or.inl ⟨by rfl, ?_⟩) (by assumption) ?_
          rotate_left
          · (intro w hSw; (try dsimp only at hSw); go_simp; try with_reducible rfl)
          try simp only [Act.put, List.setIfInBounds_toArray, List.set_cons_zero, List.set_cons_succ]
          refine wpAnyS_call (k := 14) (ok := ⟨_, _, _, _, _, _⟩) rfl (by kernel_rfl) (by kernel_rfl) (fun K hK => ?_)
          go_simp
          refine hK.out _ _ ?_
          clear hK K
          try simp only [Act.put, List.setIfInBounds_toArray, List.set_cons_zero, List.set_cons_succ]
          refine wpAny_done (by kernel_rfl) ?_ _
          have hl7 := hl6.set1 hBA hD (.slice A' m' c')
          have ho7 := OwnL.kept ho' (grown_set (grown_refl w' (some D)) 1 (.slice A' m' c')) (.inr (Ne.symm (own_ty ho' hl6.d (by decide))))
          rw [← HQ.out] at ho7
          have hsz7 : B1 ≤ (w'.setCell ⟨D, 1, none⟩ (.slice A' m' c')).heap.size := Nat.le_trans hBz (Nat.le_trans hba.size (Nat.le_trans hba2.size (Nat.le_trans hg'.size (by simp [World.setCell]))))
          have ho0b := OwnL.kept (((ho0.below (Below.refl _ wr).drew).below hba).below hba2) hg' (own_apart ho0 ho5 hlow)
          have ho07 := OwnL.kept ho0b (grown_set (grown_refl w' (some D)) 1 (.slice A' m' c')) (.inr (Ne.symm (own_ty ho0b hl6.d (by decide))))
          go_wp2_with fail
          go_roundw
          case rel => exact ⟨i + 1, .slice A' m' c', by omega, by omega, by go_num, ho7, ho07, hl7, hsz7⟩
          case measure => simp [intOf]; omega
        · have he : (xs1.take i).map (fun s => cutS s 20) = cutL xs1 := by
            unfold cutL
            congr 1
            by_cases hkn : i < n1
            · rw [show i = 5 by omega]
            · rw [List.take_of_length_le (by rw [HL1.out]; omega), List.take_of_length_le (by rw [HL1.out]; omega)]
          rw [he] at ho
          clear he
          by_cases hkn : i < n1
          · have h1 : (i : Int) < (n1 : Int) := by omega
            have h2 : ¬ (i : Int) < 5 := by omega
            go_wp2_with fail
            go_roundw
            case rel => obtain ⟨Ax, cx, rfl, hx⟩ := OwnX.ndg ho0; obtain ⟨Ay, cy, rfl, hy⟩ := OwnX.ndg ho; exact ⟨_, _, LY, .inr (.inr ⟨by go_num, Ax, cx, Ay, cy, rfl, rfl, hx, hy⟩)⟩
            case measure => simp [intOf]
          · have h1 : ¬ (i : Int) < (n1 : Int) := by omega
            go_wp2_with fail
            go_roundw
            case rel => obtain ⟨Ax, cx, rfl, hx⟩ := OwnX.ndg ho0; obtain ⟨Ay, cy, rfl, hy⟩ := OwnX.ndg ho; exact ⟨_, _, LY, .inr (.inr ⟨by go_num, Ax, cx, Ay, cy, rfl, rfl, hx, hy⟩)⟩
            case measure => simp [intOf]
    · have f0 : (cutL xs0).length ≤ 5 := by rw [cutL_len]; omega
      have f1 : (cutL xs1).length ≤ 5 := by rw [cutL_len]; omega
      have g0 := cutL_small xs0
      have g1 := cutL_small xs1
      generalize cutL xs0 = L0 at *
      generalize cutL xs1 = L1 at *
      obtain ⟨m0, hm0⟩ : ∃ m, m = L0.length := ⟨_, rfl⟩
      obtain ⟨m1, hm1⟩ : ∃ m, m = L1.length := ⟨_, rfl⟩
      rw [← hm0] at LY hx f0 ⊢
      rw [← hm1] at LY hy f1 ⊢
      have HM := Lib.hid (And.intro hm0 hm1)
      have inA := Lib.hid (fun W hT hd => Input_q r0 h1 h HH.out Ax m0 cx L0 (fun x hx => Nat.le_trans (g0 x hx) (by decide)) (by omega) W hT hd)
      have inB := Lib.hid (fun W hT hd => Input_q r1 h2 h HH.out Ay m1 cy L1 (fun x hx => Nat.le_trans (g1 x hx) (by decide)) (by omega) W hT hd)
      have inR := Lib.hid (fun W hd => rInput_q r0 h1 h HH.out Ax m0 cx L0 (fun x hx => Nat.le_trans (g0 x hx) (by decide)) (by omega) W hd)
      obtain ⟨ta, hta⟩ : ∃ ta, ta = strB (inputL r0 h (L0.map (·.data.toList))) := ⟨_, rfl⟩
      have htl : ta.size ≤ 1000000 := by rw [hta, strB_size]; exact Nat.le_trans (input_len h1 HH.out g0 (by omega)) (by decide)
      obtain ⟨h', hh'⟩ : ∃ h', h' = shaS ta.data.toList := ⟨_, rfl⟩
      have hl' : h'.length = 32 := hh' ▸ sha_len _
      have mS : Hid (Ret 64 #[.string ta] (.agg (u8a h'))) := Lib.hid (fun W => hh' ▸ rSum_any ta W htl)
      have inC := Lib.hid (fun W hT hd => Input_q r0 h1 h' hl' Ax m0 cx L0 (fun x hx => Nat.le_trans (g0 x hx) (by decide)) (by omega) W hT hd)
      have hEq := fun w => run_eq_hash hl' HH.out 9998 w
      have hca := input_hash (r := r0) (h := h) (h' := h') (hl'.trans HH.out.symm) (L := L0)
      have HAB : Hid (∀ b : Bool, (b = true ↔ r0 = r1 ∧ L0 = L1) → (ta.toList == (strB (inputL r1 h (L1.map (·.data.toList)))).toList) = b) := Lib.hid fun b hb => by
        cases b with
        | true => obtain ⟨e1, e2⟩ := hb.1 rfl; rw [hta, e1, e2]; exact txt_same _
        | false => exact txt_diff fun e => by have := hb.2 (input_same (hta ▸ e)); cases this
      rw [← hta] at inA inR hca
      generalize strB (inputL r1 h (L1.map (·.data.toList))) = tb at inB HAB
      generalize strB (inputL r0 h' (L0.map (·.data.toList))) = tc at inC hca
      have haa := txt_same ta
      clear hm0 hm1 hta htl hh' hl' g0 g1
      have c0 : wr.cell? ⟨BA, 0, none⟩ = some (.int .i64 r0) := LY.a.cell 0
      have d0 : wr.cell? ⟨D, 0, none⟩ = some (.slice Ax m0 cx) := LY.d.cell 0
      go_upto_region 11 with (first | (refine wpList_load_row rfl 71 _ rfl (BA + 2) rfl _ (u8a h) (0, 0) _ LY.h Tryz.underlying71 rfl (by rw [u8a_len HH.out]; exact hash_size) ?_) | (go_at_call 63; (with_reducible refine (inA.out _ ?_ (by assumption)).mono ?_); exact HT.out.below LY.b; rintro e wt ⟨rfl, hb⟩; replace LY := LY.below hb; replace hx := hx.below hb; replace hy := hy.below hb; clear hb))
      clear c0 d0
      have c1 : wt.cell? ⟨BA, 1, none⟩ = some (.int .i64 r1) := LY.a.cell 1
      have d1 : wt.cell? ⟨D, 1, none⟩ = some (.slice Ay m1 cy) := LY.d.cell 1
      go_upto_region 12 with (first | (refine wpList_load_row rfl 71 _ rfl (BA + 2) rfl _ (u8a h) (0, 0) _ LY.h Tryz.underlying71 rfl (by rw [u8a_len HH.out]; exact hash_size) ?_) | (go_at_call 63; (with_reducible refine (inB.out _ ?_ (by assumption)).mono ?_); exact HT.out.below LY.b; rintro e wu ⟨rfl, hb⟩; replace LY := LY.below hb; replace hx := hx.below hb; replace hy := hy.below hb; clear hb))
      clear c1 d1
      have c0 : wu.cell? ⟨BA, 0, none⟩ = some (.int .i64 r0) := LY.a.cell 0
      have c1 : wu.cell? ⟨BA, 1, none⟩ = some (.int .i64 r1) := LY.a.cell 1
      have d0 : wu.cell? ⟨D, 0, none⟩ = some (.slice Ax m0 cx) := LY.d.cell 0
      have d1 : wu.cell? ⟨D, 1, none⟩ = some (.slice Ay m1 cy) := LY.d.cell 1
      obtain ⟨bb, hbb⟩ : ∃ bb : Bool, bb = decide (r0 = r1 ∧ m0 = m1) := ⟨_, rfl⟩
      have HBB := Lib.hid hbb
      clear hbb
      go_cut [13] (fun s13 wx => s13 = .bool bb ∧ wx = wu)
      case first =>
        by_cases hr : r0 = r1
        · by_cases hm : m0 = m1
          · obtain rfl : bb = true := by rw [HBB.out]; exact decide_eq_true ⟨hr, hm⟩
            clear HBB
            subst hr hm
            go_wp2_with fail
            go_meet
            exact ⟨rfl, rfl⟩
          · obtain rfl : bb = false := by rw [HBB.out]; exact decide_eq_false (fun h => hm h.2)
            clear HBB
            subst hr
            have hm' : ¬ (m0 : Int) = (m1 : Int) := by omega
            go_wp2_with fail
            go_meet
            exact ⟨congrArg Value.bool (beq_eq_false_iff_ne.2 hm'), rfl⟩
        · obtain rfl : bb = false := by rw [HBB.out]; exact decide_eq_false (fun h => hr h.1)
          clear HBB
          go_wp2_with fail
          go_meet
          exact ⟨rfl, rfl⟩
      clear c0 c1 d0 d1
      obtain ⟨rfl, rfl⟩ := hcut
      go_wp2_with fail
      go_loopw [13, 14] (fun s13 s14 wi => ∃ (i : Nat) (b : Bool), i ≤ m0 ∧ s14 = .int .i64 (i : Int) ∧ s13 = .bool b ∧ Hid (b = true ↔ r0 = r1 ∧ m0 = m1 ∧ L0.take i = L1.take i) ∧ LayI BA D r0 r1 (.slice A0 n0 c0) (.slice A1 n1 c1) h w (.slice Ax m0 cx) (.slice Ay m1 cy) wi ∧ NDg wi Ax m0 cx L0 ∧ NDg wi Ay m1 cy L1) (fun _ s14 _ => m0 - (intOf s14).toNat)
      case atStart => exact ⟨0, bb, Nat.zero_le _, rfl, rfl, Lib.hid (by rw [HBB.out, decide_eq_true_iff, List.take_zero, List.take_zero]; simp), LY, hx, hy⟩
      case round =>
        clear HBB
        obtain ⟨i, b, him, rfl, rfl, HP, LY, hx, hy⟩ := hrel
        have d0 : wr.cell? ⟨D, 0, none⟩ = some (.slice Ax m0 cx) := LY.d.cell 0
        cases b with
        | false =>
          have hab := HAB.out false (same_end HM.out.1 HM.out.2 HP.out (fun h => by cases h))
          clear d0
          go_upto_region 17 with fail
          have hbd := (Below.refl wr.heap.size wr).drew
          refine region_here (fun Z : World => Z.cell? ⟨BA, 0, none⟩ = some (.int .i64 r0) ∧ Z.cell? ⟨D, 0, none⟩ = some (.slice Ax m0 cx)) 6 (by kernel_rfl) ⟨(LY.below hbd).a.cell 0, (LY.below hbd).d.cell 0⟩ (fun hHeld => ?_)
          refine wpAnyS_take [1, 6, 7] (i := 0) (oi := ⟨_, _, _, _, _, _⟩) (v := ?_) (by simp) (by kernel_rfl) rfl (by kernel_rfl) (by kernel_rfl) (by kernel_rfl) (fun _ _ _ h => h) (Or.inl ⟨by rfl, ?_⟩) (by assumption) ?_
          rotate_left
          · (intro w hSw; (try dsimp only at hSw); go_simp; try with_reducible rfl)
          try simp only [Act.put, List.setIfInBounds_toArray, List.set_cons_zero, List.set_cons_succ]
          refine wpAnyS_take [6, 7] (i := 1) (oi := ⟨_, _, _, _, _, _⟩) (v := ?_) (by simp) (by kernel_rfl) rfl (by kernel_rfl) (by kernel_rfl) (by kernel_rfl) (fun _ _ _ h => h) (Or.inl ⟨by rfl, ?_⟩) (by assumption) ?_
          rotate_left
          · (intro w hSw; (try dsimp only at hSw); go_simp; try with_reducible rfl)
          try simp only [Act.put, List.setIfInBounds_toArray, List.set_cons_zero, List.set_cons_succ]
          refine wpAnyS_take [3, 6, 7] (i := 2) (oi := ⟨_, _, _, _, _, _⟩) (v := ?_) (by simp) (by kernel_rfl) rfl (by kernel_rfl) (by kernel_rfl) (by kernel_rfl) (fun _ _ _ h => h) (Or.inl ⟨by rfl, ?_⟩) (by assumption) ?_
          rotate_left
          · (intro w hSw; (try dsimp only at hSw); go_simp; try with_reducible rfl)
          try simp only [Act.put, List.setIfInBounds_toArray, List.set_cons_zero, List.set_cons_succ]
          refine wpAnyS_take [5, 6, 7] (i := 4) (oi := ⟨_, _, _, _, _, _⟩) (v := ?_) (by simp) (by kernel_rfl) rfl (by kernel_rfl) (by kernel_rfl) (by kernel_rfl) (fun _ _ _ h => h) (Or.inl ⟨by rfl, ?_⟩) (by assumption) ?_
          rotate_left
          · (intro w hSw; (try dsimp only at hSw); go_simp; try with_reducible rfl)
          try simp only [Act.put, List.setIfInBounds_toArray, List.set_cons_zero, List.set_cons_succ]
          refine wpAnyS_take [6, 7] (i := 5) (oi := ⟨_, _, _, _, _, _⟩) (v := ?_) (by simp) (by kernel_rfl) rfl (by kernel_rfl) (by kernel_rfl) (by kernel_rfl) (fun _ _ _ h => h) (Or.inl ⟨by rfl, ?_⟩) (by assumption) ?_
          rotate_left
          · (intro w hSw; (try dsimp only at hSw); go_simp; try with_reducible rfl)
          try simp only [Act.put, List.setIfInBounds_toArray, List.set_cons_zero, List.set_cons_succ]
          refine wpAnyS_one (i := 3) (oi := ⟨_, _, _, _, _, _⟩) rfl (by kernel_rfl) (fun K hK => ?_)
          go_simp
          go_at_call 64
          (with_reducible refine (mS.out _).mono ?_)
          rintro e wa ⟨rfl, hba⟩
          (try go_wp2_with fail)
          refine hK.out _ _ ?_ (fun hHeld3 => ?_)
          · exact ⟨cell_b hba hHeld.1, cell_b hba hHeld.2⟩
          clear hK K
          try simp only [Act.put, List.setIfInBounds_toArray, List.set_cons_zero, List.set_cons_succ]
          refine wpAnyS_call (k := 6) (ok := ⟨_, _, _, _, _, _⟩) rfl (by kernel_rfl) (by kernel_rfl) (fun K hK => ?_)
          go_simp
          go_at_call 63
          (with_reducible refine (inC.out _ ?_ ((hx.below hbd).below hba)).mono ?_)
          · exact HT.out.below (below_then (below_then LY.b hbd) hba)
          rintro e wb ⟨rfl, hbb⟩
          (try go_wp2_with fail)
          refine hK.out _ _ ?_
          clear hK K
          try simp only [Act.put, List.setIfInBounds_toArray, List.set_cons_zero, List.set_cons_succ]
          refine wpAny_take (i := 7) (oi := ⟨_, _, _, _, _, _⟩) (v := ?_) rfl (by kernel_rfl) (by kernel_rfl) (by kernel_rfl) (fun _ _ _ h => h) (Or.inl ⟨by rfl, ?_⟩) ?_
          rotate_left
          · (intro w; go_simp; try with_reducible rfl)
          try simp only [Act.put, List.setIfInBounds_toArray, List.set_cons_zero, List.set_cons_succ]
          refine wpAny_done (by kernel_rfl) ?_ _
          have LY2 := ((LY.below hbd).below hba).below hbb
          have hx2 := ((hx.below hbd).below hba).below hbb
          clear hbd hba hbb LY hx hy
          go_upto_region 18 with fail
          have hbd := (Below.refl wb.heap.size wb).drew
          refine region_here (fun Z : World => Z.cell? ⟨BA, 0, none⟩ = some (.int .i64 r0) ∧ Z.cell? ⟨D, 0, none⟩ = some (.slice Ax m0 cx) ∧ Blk Z (BA + 2) 71 (u8a h)) 28 (by kernel_rfl) ⟨(LY2.below hbd).a.cell 0, (LY2.below hbd).d.cell 0, (LY2.below hbd).h⟩ (fun hHeld => ?_)
          refine wpAnyS_take [1, 2, 3, 4, 5, 6, 7, 8, 9, 10, 11, 12, 13, 14, 15, 16, 17, 18, 19, 20, 21, 22, 23, 24, 25, 26, 27, 28] (i := 0) (oi := ⟨_, _, _, _, _, _⟩) (v := ?_) (by simp) (by kernel_rfl) rfl (by kernel_rfl) (by kernel_rfl) (by kernel_rfl) (fun _ _ _ h => h) (Or.inl ⟨by rfl, ?_⟩) (by assumption) ?_
          rotate_left
          · (intro w hSw; (try dsimp only at hSw); go_simp; try with_reducible rfl)
          try simp only [Act.put, List.setIfInBounds_toArray, List.set_cons_zero, List.set_cons_succ]
          refine wpAnyS_take [2, 3, 4, 5, 6, 7, 8, 9, 10, 11, 12, 13, 14, 15, 16, 17, 18, 19, 20, 21, 22, 23, 24, 25, 26, 27, 28] (i := 1) (oi := ⟨_, _, _, _, _, _⟩) (v := ?_) (by simp) (by kernel_rfl) rfl (by kernel_rfl) (by kernel_rfl) (by kernel_rfl) (fun _ _ _ h => h) (Or.inl ⟨by rfl, ?_⟩) (by assumption) ?_
          rotate_left
          · (intro w hSw; (try dsimp only at hSw); go_simp; try with_reducible rfl)
          try simp only [Act.put, List.setIfInBounds_toArray, List.set_cons_zero, List.set_cons_succ]
          refine wpAnyS_take [9, 10, 11, 12, 13, 14, 15, 16, 17, 18, 19, 20, 21, 22, 23, 24, 25, 26, 27, 28] (i := 2) (oi := ⟨_, _, _, _, _, _⟩) (v := ?_) (by simp) (by kernel_rfl) rfl (by kernel_rfl) (by kernel_rfl) (by kernel_rfl) (fun _ _ _ h => h) (Or.inl ⟨by rfl, ?_⟩) (by assumption) ?_
          rotate_left
          · (intro w hSw; (try dsimp only at hSw); go_simp; try with_reducible rfl)
          try simp only [Act.put, List.setIfInBounds_toArray, List.set_cons_zero, List.set_cons_succ]
          refine wpAnyS_take [4, 8, 9, 10, 11, 12, 13, 14, 15, 16, 17, 18, 19, 20, 21, 22, 23, 24, 25, 26, 27, 28] (i := 3) (oi := ⟨_, _, _, _, _, _⟩) (v := ?_) (by simp) (by kernel_rfl) rfl (by kernel_rfl) (by kernel_rfl) (by kernel_rfl) (fun _ _ _ h => h) (Or.inl ⟨by rfl, ?_⟩) (by assumption) ?_
          rotate_left
          · (intro w hSw; (try dsimp only at hSw); go_simp; try with_reducible rfl)
          try simp only [Act.put, List.setIfInBounds_toArray, List.set_cons_zero, List.set_cons_succ]
          refine wpAnyS_take [8, 9, 10, 11, 12, 13, 14, 15, 16, 17, 18, 19, 20, 21, 22, 23, 24, 25, 26, 27, 28] (i := 4) (oi := ⟨_, _, _, _, _, _⟩) (v := ?_) (by simp) (by kernel_rfl) rfl (by kernel_rfl) (by kernel_rfl) (by kernel_rfl) (fun _ _ _ h => h) (Or.inl ⟨by rfl, ?_⟩) (by assumption) ?_
          rotate_left
          · (intro w hSw; (try dsimp only at hSw); go_simp; try with_reducible rfl)
          try simp only [Act.put, List.setIfInBounds_toArray, List.set_cons_zero, List.set_cons_succ]
          refine wpAnyS_take [8, 9, 10, 11, 12, 13, 14, 15, 16, 17, 18, 19, 20, 21, 22, 23, 24, 25, 26, 27, 28] (i := 5) (oi := ⟨_, _, _, _, _, _⟩) (v := .agg (u8a h)) (by simp) (by kernel_rfl) rfl (by kernel_rfl) (by kernel_rfl) (by kernel_rfl) (fun _ _ _ h => h) (yieldsIf_load_mid (by rfl) 71 (.tmp 5) rfl (BA + 2) 0 rfl (u8l h) _ (fun Z hZ => hash_range hZ.2.2) Tryz.underlying71 rfl (by rw [u8l_len, HH.out]; exact hash_size)) (by assumption) ?_
          try simp only [Act.put, List.setIfInBounds_toArray, List.set_cons_zero, List.set_cons_succ]
          refine wpAnyS_take [7, 8, 9, 10, 11, 12, 13, 14, 15, 16, 17, 18, 19, 20, 21, 22, 23, 24, 25, 26, 27, 28] (i := 6) (oi := ⟨_, _, _, _, _, _⟩) (v := ?_) (by simp) (by kernel_rfl) rfl (by kernel_rfl) (by kernel_rfl) (by kernel_rfl) (fun _ _ _ h => h) (Or.inl ⟨by rfl, ?_⟩) (by assumption) ?_
          rotate_left
          · (intro w hSw; (try dsimp only at hSw); go_simp; try with_reducible rfl)
          try simp only [Act.put, List.setIfInBounds_toArray, List.set_cons_zero, List.set_cons_succ]
          refine wpAnyS_take [8, 9, 10, 11, 12, 13, 14, 15, 16, 17, 18, 19, 20, 21, 22, 23, 24, 25, 26, 27, 28] (i := 7) (oi := ⟨_, _, _, _, _, _⟩) (v := ?_) (by simp) (by kernel_rfl) rfl (by kernel_rfl) (by kernel_rfl) (by kernel_rfl) (fun _ _ _ h => h) (Or.inl ⟨by rfl, ?_⟩) (by assumption) ?_
          rotate_left
          · (intro w hSw; (try dsimp only at hSw); go_simp; try with_reducible rfl)
          try simp only [Act.put, List.setIfInBounds_toArray, List.set_cons_zero, List.set_cons_succ]
          refine wpAnyS_one (i := 8) (oi := ⟨_, _, _, _, _, _⟩) rfl (by kernel_rfl) (fun K hK => ?_)
          go_simp
          go_at_call 65
          (with_reducible refine (inR.out _ (hx2.below hbd)).mono ?_)
          rintro e wa ⟨rfl, hba⟩
          (try go_wp2_with fail)
          refine hK.out _ _ ?_ (fun hHeld8 => ?_)
          · exact ⟨cell_b hba hHeld.1, cell_b hba hHeld.2.1, hHeld.2.2.below hba hHeld.2.2.lt⟩
          clear hK K
          try simp only [Act.put, List.setIfInBounds_toArray, List.set_cons_zero, List.set_cons_succ]
          refine wpAnyS_take [10, 11, 12, 13, 14, 15, 16, 17, 18, 19, 20, 21, 22, 23, 24, 25, 26, 27, 28] (i := 9) (oi := ⟨_, _, _, _, _, _⟩) (v := ?_) (by simp) (by kernel_rfl) rfl (by kernel_rfl) (by kernel_rfl) (by kernel_rfl) (fun _ _ _ h => h) (Or.inl ⟨by rfl, ?_⟩) (by assumption) ?_
          rotate_left
          · (intro w hSw; (try dsimp only at hSw); go_simp; try with_reducible rfl)
          try simp only [Act.put, List.setIfInBounds_toArray, List.set_cons_zero, List.set_cons_succ]
          refine wpAnyS_take [11, 12, 13, 14, 15, 16, 17, 18, 19, 20, 21, 22, 23, 24, 25, 26, 27, 28] (i := 10) (oi := ⟨_, _, _, _, _, _⟩) (v := ?_) (by simp) (by kernel_rfl) rfl (by kernel_rfl) (by kernel_rfl) (by kernel_rfl) (fun _ _ _ h => h) (Or.inl ⟨by rfl, ?_⟩) (by assumption) ?_
          rotate_left
          · (intro w hSw; (try dsimp only at hSw); go_simp; try with_reducible rfl)
          try simp only [Act.put, List.setIfInBounds_toArray, List.set_cons_zero, List.set_cons_succ]
          refine wpAnyS_take [12, 13, 14, 15, 16, 17, 18, 19, 20, 21, 22, 23, 24, 25, 26, 27, 28] (i := 11) (oi := ⟨_, _, _, _, _, _⟩) (v := ?_) (by simp) (by kernel_rfl) rfl (by kernel_rfl) (by kernel_rfl) (by kernel_rfl) (fun _ _ _ h => h) (Or.inl ⟨by rfl, ?_⟩) (by assumption) ?_
          rotate_left
          · (intro w hSw; (try dsimp only at hSw); go_simp; try with_reducible rfl)
          try simp only [Act.put, List.setIfInBounds_toArray, List.set_cons_zero, List.set_cons_succ]
          refine wpAnyS_take [14, 16, 17, 18, 19, 20, 21, 22, 23, 24, 25, 26, 27, 28] (i := 12) (oi := ⟨_, _, _, _, _, _⟩) (v := ?_) (by simp) (by kernel_rfl) rfl (by kernel_rfl) (by kernel_rfl) (by kernel_rfl) (fun _ _ _ h => h) (Or.inl ⟨by rfl, ?_⟩) (by assumption) ?_
          rotate_left
          · (intro w hSw; (try dsimp only at hSw); go_simp; try with_reducible rfl)
          try simp only [Act.put, List.setIfInBounds_toArray, List.set_cons_zero, List.set_cons_succ]
          refine wpAnyS_take [14, 16, 17, 18, 19, 20, 21, 22, 23, 24, 25, 26, 27, 28] (i := 13) (oi := ⟨_, _, _, _, _, _⟩) (v := ?_) (by simp) (by kernel_rfl) rfl (by kernel_rfl) (by kernel_rfl) (by kernel_rfl) (fun _ _ _ h => h) (Or.inl ⟨by rfl, ?_⟩) (by assumption) ?_
          rotate_left
          · (intro w hSw; (try dsimp only at hSw); go_simp; try with_reducible rfl)
          try simp only [Act.put, List.setIfInBounds_toArray, List.set_cons_zero, List.set_cons_succ]
          refine wpAnyS_take [16, 17, 18, 19, 20, 21, 22, 23, 24, 25, 26, 27, 28] (i := 14) (oi := ⟨_, _, _, _, _, _⟩) (v := ?_) (by simp) (by kernel_rfl) rfl (by kernel_rfl) (by kernel_rfl) (by kernel_rfl) (fun _ _ _ h => h) (Or.inl ⟨by rfl, ?_⟩) (by assumption) ?_
          rotate_left
          · (intro w hSw; (try dsimp only at hSw); go_simp; try with_reducible rfl)
          try simp only [Act.put, List.setIfInBounds_toArray, List.set_cons_zero, List.set_cons_succ]
          refine wpAnyS_take [16, 17, 18, 19, 20, 21, 22, 23, 24, 25, 26, 27, 28] (i := 15) (oi := ⟨_, _, _, _, _, _⟩) (v := ?_) (by simp) (by kernel_rfl) rfl (by kernel_rfl) (by kernel_rfl) (by kernel_rfl) (fun _ _ _ h => h) (Or.inl ⟨by rfl, ?_⟩) (by assumption) ?_
          rotate_left
          · (intro w hSw; (try dsimp only at hSw); go_simp; try with_reducible rfl)
          try simp only [Act.put, List.setIfInBounds_toArray, List.set_cons_zero, List.set_cons_succ]
          refine wpAnyS_take [17, 18, 19, 20, 21, 22, 23, 24, 25, 26, 27, 28] (i := 16) (oi := ⟨_, _, _, _, _, _⟩) (v := ?_) (by simp) (by kernel_rfl) rfl (by kernel_rfl) (by kernel_rfl) (by kernel_rfl) (fun _ _ _ h => h) (Or.inl ⟨by rfl, ?_⟩) (by assumption) ?_
          rotate_left
          · (intro w hSw; (try dsimp only at hSw); go_simp; try with_reducible rfl)
          try simp only [Act.put, List.setIfInBounds_toArray, List.set_cons_zero, List.set_cons_succ]
          refine wpAnyS_take [18, 19, 20, 21, 22, 23, 24, 25, 26, 27, 28] (i := 17) (oi := ⟨_, _, _, _, _, _⟩) (v := ?_) (by simp) (by kernel_rfl) rfl (by kernel_rfl) (by kernel_rfl) (by kernel_rfl) (fun _ _ _ h => h) (Or.inl ⟨by rfl, ?_⟩) (by assumption) ?_
          rotate_left
          · (intro w hSw; (try dsimp only at hSw); go_simp; try with_reducible rfl)
          try simp only [Act.put, List.setIfInBounds_toArray, List.set_cons_zero, List.set_cons_succ]
          refine wpAnyS_take [19, 20, 21, 22, 23, 24, 25, 26, 27, 28] (i := 18) (oi := ⟨_, _, _, _, _, _⟩) (v := ?_) (by simp) (by kernel_rfl) rfl (by kernel_rfl) (by kernel_rfl) (by kernel_rfl) (fun _ _ _ h => h) (Or.inl ⟨by rfl, ?_⟩) (by assumption) ?_
          rotate_left
          · (intro w hSw; (try dsimp only at hSw); go_simp; try with_reducible rfl)
          try simp only [Act.put, List.setIfInBounds_toArray, List.set_cons_zero, List.set_cons_succ]
          refine wpAnyS_take [21, 26, 27, 28] (i := 19) (oi := ⟨_, _, _, _, _, _⟩) (v := ?_) (by simp) (by kernel_rfl) rfl (by kernel_rfl) (by kernel_rfl) (by kernel_rfl) (fun _ _ _ h => h) (Or.inl ⟨by rfl, ?_⟩) (by assumption) ?_
          rotate_left
          · (intro w hSw; (try dsimp only at hSw); go_simp; try with_reducible rfl)
          try simp only [Act.put, List.setIfInBounds_toArray, List.set_cons_zero, List.set_cons_succ]
          refine wpAnyS_take [21, 26, 27, 28] (i := 20) (oi := ⟨_, _, _, _, _, _⟩) (v := ?_) (by simp) (by kernel_rfl) rfl (by kernel_rfl) (by kernel_rfl) (by kernel_rfl) (fun _ _ _ h => h) (Or.inl ⟨by rfl, ?_⟩) (by assumption) ?_
          rotate_left
          · (intro w hSw; (try dsimp only at hSw); go_simp; try with_reducible rfl)
          try simp only [Act.put, List.setIfInBounds_toArray, List.set_cons_zero, List.set_cons_succ]
          refine wpAnyS_take [26, 27, 28] (i := 21) (oi := ⟨_, _, _, _, _, _⟩) (v := ?_) (by simp) (by kernel_rfl) rfl (by kernel_rfl) (by kernel_rfl) (by kernel_rfl) (fun _ _ _ h => h) (Or.inl ⟨by rfl, ?_⟩) (by assumption) ?_
          rotate_left
          · (intro w hSw; (try dsimp only at hSw); go_simp; try with_reducible rfl)
          try simp only [Act.put, List.setIfInBounds_toArray, List.set_cons_zero, List.set_cons_succ]
          refine wpAnyS_take [23, 25, 26, 27, 28] (i := 22) (oi := ⟨_, _, _, _, _, _⟩) (v := ?_) (by simp) (by kernel_rfl) rfl (by kernel_rfl) (by kernel_rfl) (by kernel_rfl) (fun _ _ _ h => h) (Or.inl ⟨by rfl, ?_⟩) (by assumption) ?_
          rotate_left
          · (intro w hSw; (try dsimp only at hSw); go_simp; try with_reducible rfl)
          try simp only [Act.put, List.setIfInBounds_toArray, List.set_cons_zero, List.set_cons_succ]
          refine wpAnyS_take [25, 26, 27, 28] (i := 24) (oi := ⟨_, _, _, _, _, _⟩) (v := .agg (u8a h)) (by simp) (by kernel_rfl) rfl (by kernel_rfl) (by kernel_rfl) (by kernel_rfl) (fun _ _ _ h => h) (yieldsIf_load_mid (by rfl) 71 (.tmp 5) rfl (BA + 2) 0 rfl (u8l h) _ (fun Z hZ => hash_range hZ.2.2) Tryz.underlying71 rfl (by rw [u8l_len, HH.out]; exact hash_size)) (by assumption) ?_
          try simp only [Act.put, List.setIfInBounds_toArray, List.set_cons_zero, List.set_cons_succ]
          refine wpAnyS_one (i := 23) (oi := ⟨_, _, _, _, _, _⟩) rfl (by kernel_rfl) (fun K hK => ?_)
          go_simp
          go_at_call 64
          (with_reducible refine (mS.out _).mono ?_)
          rintro e wb ⟨rfl, hbb⟩
          (try go_wp2_with fail)
          refine hK.out _ _ ?_ (fun hHeld23 => ?_)
          · exact ⟨cell_b hbb hHeld8.1, cell_b hbb hHeld8.2.1, hHeld8.2.2.below hbb hHeld8.2.2.lt⟩
          clear hK K
          try simp only [Act.put, List.setIfInBounds_toArray, List.set_cons_zero, List.set_cons_succ]
          refine wpAnyS_take [26, 27, 28] (i := 25) (oi := ⟨_, _, _, _, _, _⟩) (v := ?_) (by simp) (by kernel_rfl) rfl (by kernel_rfl) (by kernel_rfl) (by kernel_rfl) (fun _ _ _ h => h) (Or.inl ⟨by rfl, ?_⟩) (by assumption) ?_
          rotate_left
          · (intro w hSw; (try dsimp only at hSw); go_simp; try with_reducible rfl)
          try simp only [Act.put, List.setIfInBounds_toArray, List.set_cons_zero, List.set_cons_succ]
          refine wpAnyS_take [27, 28] (i := 26) (oi := ⟨_, _, _, _, _, _⟩) (v := ?_) (by simp) (by kernel_rfl) rfl (by kernel_rfl) (by kernel_rfl) (by kernel_rfl) (fun _ _ _ h => h) (Or.inl ⟨by rfl, ?_⟩) (by assumption) ?_
          rotate_left
          · (intro w hSw; (try dsimp only at hSw); go_simp; try with_reducible rfl)
          try simp only [Act.put, List.setIfInBounds_toArray, List.set_cons_zero, List.set_cons_succ]
          refine wpAnyS_take [28] (i := 27) (oi := ⟨_, _, _, _, _, _⟩) (v := ?_) (by simp) (by kernel_rfl) rfl (by kernel_rfl) (by kernel_rfl) (by kernel_rfl) (fun _ _ _ h => h) (Or.inl ⟨by rfl, ?_⟩) (by assumption) ?_
          rotate_left
          · (intro w hSw; (try dsimp only at hSw); go_simp; try with_reducible rfl)
          try simp only [Act.put, List.setIfInBounds_toArray, List.set_cons_zero, List.set_cons_succ]
          refine wpAnyS_call (k := 28) (ok := ⟨_, _, _, _, _, _⟩) rfl (by kernel_rfl) (by kernel_rfl) (fun K hK => ?_)
          go_simp
          refine hK.out _ _ ?_
          clear hK K
          try simp only [Act.put, List.setIfInBounds_toArray, List.set_cons_zero, List.set_cons_succ]
          refine wpAny_done (by kernel_rfl) ?_ _
          have hBz := below_then (below_then (below_then LY2.b hbd) hba) hbb
          go_wp2_with fail
          go_ret
          exact ⟨by simp, hBz⟩
        | true =>
          by_cases hlt : i < m0
          · have hlt' : (i : Int) < (m0 : Int) := by omega
            have HPi := Lib.hid (HP.out.1 rfl)
            obtain ⟨b0, o0, s, rfl, hs, hsc⟩ := hx.get hlt
            obtain ⟨b1, o1, t, rfl, ht, htc⟩ := hy.get (k := i) (by have := HPi.out.2.1; omega)
            have HST := Lib.hid (And.intro hs ht)
            have hlt1 : (i : Int) < (m1 : Int) := by have := HPi.out.2.1; omega
            clear hs ht
            go_upto_region 16 with fail
            have hbd := (Below.refl wr.heap.size wr).drew
            have LD := LY.below hbd
            have hxd := hx.below hbd
            have hyd := hy.below hbd
            by_cases hst : s = t
            · subst hst
              have hq := txt_same s
              refine region_here (fun Z : World => Z.cell? ⟨D, 0, none⟩ = some (.slice (some ⟨b0, o0, none⟩) m0 cx) ∧ Z.cell? ⟨D, 1, none⟩ = some (.slice (some ⟨b1, o1, none⟩) m1 cy) ∧ Z.cell? ⟨b0, o0 + i, none⟩ = some (.string s) ∧ Z.cell? ⟨b1, o1 + i, none⟩ = some (.string s)) 11 (by kernel_rfl) ⟨LD.d.cell 0, LD.d.cell 1, cell_b hbd hsc, cell_b hbd htc⟩ (fun hHeld => ?_)
              refine wpAnyS_take [1, 3, 4, 10, 11] (i := 0) (oi := ⟨_, _, _, _, _, _⟩) (v := ?_) (by simp) (by kernel_rfl) rfl (by kernel_rfl) (by kernel_rfl) (by kernel_rfl) (fun _ _ _ h => h) (Or.inl ⟨by rfl, ?_⟩) (by assumption) ?_
              rotate_left
              · (intro w hSw; (try dsimp only at hSw); go_simp; try with_reducible rfl)
              try simp only [Act.put, List.setIfInBounds_toArray, List.set_cons_zero, List.set_cons_succ]
              refine wpAnyS_take [3, 4, 10, 11] (i := 1) (oi := ⟨_, _, _, _, _, _⟩) (v := ?_) (by simp) (by kernel_rfl) rfl (by kernel_rfl) (by kernel_rfl) (by kernel_rfl) (fun _ _ _ h => h) (Or.inl ⟨by rfl, ?_⟩) (by assumption) ?_
              rotate_left
              · (intro w hSw; (try dsimp only at hSw); go_simp; try with_reducible rfl)
              try simp only [Act.put, List.setIfInBounds_toArray, List.set_cons_zero, List.set_cons_succ]
              refine wpAnyS_take [3, 4, 10, 11] (i := 2) (oi := ⟨_, _, _, _, _, _⟩) (v := ?_) (by simp) (by kernel_rfl) rfl (by kernel_rfl) (by kernel_rfl) (by kernel_rfl) (fun _ _ _ h => h) (Or.inl ⟨by rfl, ?_⟩) (by assumption) ?_
              rotate_left
              · (intro w hSw; (try dsimp only at hSw); go_simp; try with_reducible rfl)
              try simp only [Act.put, List.setIfInBounds_toArray, List.set_cons_zero, List.set_cons_succ]
              refine wpAnyS_take [4, 10, 11] (i := 3) (oi := ⟨_, _, _, _, _, _⟩) (v := ?_) (by simp) (by kernel_rfl) rfl (by kernel_rfl) (by kernel_rfl) (by kernel_rfl) (fun _ _ _ h => h) (Or.inl ⟨by rfl, ?_⟩) (by assumption) ?_
              rotate_left
              · (intro w hSw; (try dsimp only at hSw); go_simp; try with_reducible rfl)
              try simp only [Act.put, List.setIfInBounds_toArray, List.set_cons_zero, List.set_cons_succ]
              refine wpAnyS_take [10, 11] (i := 4) (oi := ⟨_, _, _, _, _, _⟩) (v := ?_) (by simp) (by kernel_rfl) rfl (by kernel_rfl) (by kernel_rfl) (by kernel_rfl) (fun _ _ _ h => h) (Or.inl ⟨by rfl, ?_⟩) (by assumption) ?_
              rotate_left
              · (intro w hSw; (try dsimp only at hSw); go_simp; try with_reducible rfl)
              try simp only [Act.put, List.setIfInBounds_toArray, List.set_cons_zero, List.set_cons_succ]
              refine wpAnyS_take [6, 8, 9, 10, 11] (i := 5) (oi := ⟨_, _, _, _, _, _⟩) (v := ?_) (by simp) (by kernel_rfl) rfl (by kernel_rfl) (by kernel_rfl) (by kernel_rfl) (fun _ _ _ h => h) (Or.inl ⟨by rfl, ?_⟩) (by assumption) ?_
              rotate_left
              · (intro w hSw; (try dsimp only at hSw); go_simp; try with_reducible rfl)
              try simp only [Act.put, List.setIfInBounds_toArray, List.set_cons_zero, List.set_cons_succ]
              refine wpAnyS_take [8, 9, 10, 11] (i := 6) (oi := ⟨_, _, _, _, _, _⟩) (v := ?_) (by simp) (by kernel_rfl) rfl (by kernel_rfl) (by kernel_rfl) (by kernel_rfl) (fun _ _ _ h => h) (Or.inl ⟨by rfl, ?_⟩) (by assumption) ?_
              rotate_left
              · (intro w hSw; (try dsimp only at hSw); go_simp; try with_reducible rfl)
              try simp only [Act.put, List.setIfInBounds_toArray, List.set_cons_zero, List.set_cons_succ]
              refine wpAnyS_take [8, 9, 10, 11] (i := 7) (oi := ⟨_, _, _, _, _, _⟩) (v := ?_) (by simp) (by kernel_rfl) rfl (by kernel_rfl) (by kernel_rfl) (by kernel_rfl) (fun _ _ _ h => h) (Or.inl ⟨by rfl, ?_⟩) (by assumption) ?_
              rotate_left
              · (intro w hSw; (try dsimp only at hSw); go_simp; try with_reducible rfl)
              try simp only [Act.put, List.setIfInBounds_toArray, List.set_cons_zero, List.set_cons_succ]
              refine wpAnyS_take [9, 10, 11] (i := 8) (oi := ⟨_, _, _, _, _, _⟩) (v := ?_) (by simp) (by kernel_rfl) rfl (by kernel_rfl) (by kernel_rfl) (by kernel_rfl) (fun _ _ _ h => h) (Or.inl ⟨by rfl, ?_⟩) (by assumption) ?_
              rotate_left
              · (intro w hSw; (try dsimp only at hSw); go_simp; try with_reducible rfl)
              try simp only [Act.put, List.setIfInBounds_toArray, List.set_cons_zero, List.set_cons_succ]
              refine wpAnyS_take [10, 11] (i := 9) (oi := ⟨_, _, _, _, _, _⟩) (v := ?_) (by simp) (by kernel_rfl) rfl (by kernel_rfl) (by kernel_rfl) (by kernel_rfl) (fun _ _ _ h => h) (Or.inl ⟨by rfl, ?_⟩) (by assumption) ?_
              rotate_left
              · (intro w hSw; (try dsimp only at hSw); go_simp; try with_reducible rfl)
              try simp only [Act.put, List.setIfInBounds_toArray, List.set_cons_zero, List.set_cons_succ]
              refine wpAnyS_take [11] (i := 10) (oi := ⟨_, _, _, _, _, _⟩) (v := ?_) (by simp) (by kernel_rfl) rfl (by kernel_rfl) (by kernel_rfl) (by kernel_rfl) (fun _ _ _ h => h) (Or.inl ⟨by rfl, ?_⟩) (by assumption) ?_
              rotate_left
              · (intro w hSw; (try dsimp only at hSw); go_simp; try with_reducible rfl)
              try simp only [Act.put, List.setIfInBounds_toArray, List.set_cons_zero, List.set_cons_succ]
              refine wpAnyS_call (k := 11) (ok := ⟨_, _, _, _, _, _⟩) rfl (by kernel_rfl) (by kernel_rfl) (fun K hK => ?_)
              go_simp
              refine hK.out _ _ ?_
              clear hK K
              try simp only [Act.put, List.setIfInBounds_toArray, List.set_cons_zero, List.set_cons_succ]
              refine wpAny_done (by kernel_rfl) ?_ _
              go_wp2_with fail
              go_roundw
              case rel => exact ⟨i + 1, true, by omega, by go_num, rfl, Lib.hid (same_step HPi.out HST.out.1 HST.out.2), LD, hxd, hyd⟩
              case measure => simp [intOf]; omega
            · have hq := txt_diff hst
              refine region_here (fun Z : World => Z.cell? ⟨D, 0, none⟩ = some (.slice (some ⟨b0, o0, none⟩) m0 cx) ∧ Z.cell? ⟨D, 1, none⟩ = some (.slice (some ⟨b1, o1, none⟩) m1 cy) ∧ Z.cell? ⟨b0, o0 + i, none⟩ = some (.string s) ∧ Z.cell? ⟨b1, o1 + i, none⟩ = some (.string t)) 11 (by kernel_rfl) ⟨LD.d.cell 0, LD.d.cell 1, cell_b hbd hsc, cell_b hbd htc⟩ (fun hHeld => ?_)
              refine wpAnyS_take [1, 3, 4, 10, 11] (i := 0) (oi := ⟨_, _, _, _, _, _⟩) (v := ?_) (by simp) (by kernel_rfl) rfl (by kernel_rfl) (by kernel_rfl) (by kernel_rfl) (fun _ _ _ h => h) (Or.inl ⟨by rfl, ?_⟩) (by assumption) ?_
              rotate_left
              · (intro w hSw; (try dsimp only at hSw); go_simp; try with_reducible rfl)
              try simp only [Act.put, List.setIfInBounds_toArray, List.set_cons_zero, List.set_cons_succ]
              refine wpAnyS_take [3, 4, 10, 11] (i := 1) (oi := ⟨_, _, _, _, _, _⟩) (v := ?_) (by simp) (by kernel_rfl) rfl (by kernel_rfl) (by kernel_rfl) (by kernel_rfl) (fun _ _ _ h => h) (Or.inl ⟨by rfl, ?_⟩) (by assumption) ?_
              rotate_left
              · (intro w hSw; (try dsimp only at hSw); go_simp; try with_reducible rfl)
              try simp only [Act.put, List.setIfInBounds_toArray, List.set_cons_zero, List.set_cons_succ]
              refine wpAnyS_take [3, 4, 10, 11] (i := 2) (oi := ⟨_, _, _, _, _, _⟩) (v := ?_) (by simp) (by kernel_rfl) rfl (by kernel_rfl) (by kernel_rfl) (by kernel_rfl) (fun _ _ _ h => h) (Or.inl ⟨by rfl, ?_⟩) (by assumption) ?_
              rotate_left
              · (intro w hSw; (try dsimp only at hSw); go_simp; try with_reducible rfl)
              try simp only [Act.put, List.setIfInBounds_toArray, List.set_cons_zero, List.set_cons_succ]
              refine wpAnyS_take [4, 10, 11] (i := 3) (oi := ⟨_, _, _, _, _, _⟩) (v := ?_) (by simp) (by kernel_rfl) rfl (by kernel_rfl) (by kernel_rfl) (by kernel_rfl) (fun _ _ _ h => h) (Or.inl ⟨by rfl, ?_⟩) (by assumption) ?_
              rotate_left
              · (intro w hSw; (try dsimp only at hSw); go_simp; try with_reducible rfl)
              try simp only [Act.put, List.setIfInBounds_toArray, List.set_cons_zero, List.set_cons_succ]
              refine wpAnyS_take [10, 11] (i := 4) (oi := ⟨_, _, _, _, _, _⟩) (v := ?_) (by simp) (by kernel_rfl) rfl (by kernel_rfl) (by kernel_rfl) (by kernel_rfl) (fun _ _ _ h => h) (Or.inl ⟨by rfl, ?_⟩) (by assumption) ?_
              rotate_left
              · (intro w hSw; (try dsimp only at hSw); go_simp; try with_reducible rfl)
              try simp only [Act.put, List.setIfInBounds_toArray, List.set_cons_zero, List.set_cons_succ]
              refine wpAnyS_take [6, 8, 9, 10, 11] (i := 5) (oi := ⟨_, _, _, _, _, _⟩) (v := ?_) (by simp) (by kernel_rfl) rfl (by kernel_rfl) (by kernel_rfl) (by kernel_rfl) (fun _ _ _ h => h) (Or.inl ⟨by rfl, ?_⟩) (by assumption) ?_
              rotate_left
              · (intro w hSw; (try dsimp only at hSw); go_simp; try with_reducible rfl)
              try simp only [Act.put, List.setIfInBounds_toArray, List.set_cons_zero, List.set_cons_succ]
              refine wpAnyS_take [8, 9, 10, 11] (i := 6) (oi := ⟨_, _, _, _, _, _⟩) (v := ?_) (by simp) (by kernel_rfl) rfl (by kernel_rfl) (by kernel_rfl) (by kernel_rfl) (fun _ _ _ h => h) (Or.inl ⟨by rfl, ?_⟩) (by assumption) ?_
              rotate_left
              · (intro w hSw; (try dsimp only at hSw); go_simp; try with_reducible rfl)
              try simp only [Act.put, List.setIfInBounds_toArray, List.set_cons_zero, List.set_cons_succ]
              refine wpAnyS_take [8, 9, 10, 11] (i := 7) (oi := ⟨_, _, _, _, _, _⟩) (v := ?_) (by simp) (by kernel_rfl) rfl (by kernel_rfl) (by kernel_rfl) (by kernel_rfl) (fun _ _ _ h => h) (Or.inl ⟨by rfl, ?_⟩) (by assumption) ?_
              rotate_left
              · (intro w hSw; (try dsimp only at hSw); go_simp; try with_reducible rfl)
              try simp only [Act.put, List.setIfInBounds_toArray, List.set_cons_zero, List.set_cons_succ]
              refine wpAnyS_take [9, 10, 11] (i := 8) (oi := ⟨_, _, _, _, _, _⟩) (v := ?_) (by simp) (by kernel_rfl) rfl (by kernel_rfl) (by kernel_rfl) (by kernel_rfl) (fun _ _ _ h => h) (Or.inl ⟨by rfl, ?_⟩) (by assumption) ?_
              rotate_left
              · (intro w hSw; (try dsimp only at hSw); go_simp; try with_reducible rfl)
              try simp only [Act.put, List.setIfInBounds_toArray, List.set_cons_zero, List.set_cons_succ]
              refine wpAnyS_take [10, 11] (i := 9) (oi := ⟨_, _, _, _, _, _⟩) (v := ?_) (by simp) (by kernel_rfl) rfl (by kernel_rfl) (by kernel_rfl) (by kernel_rfl) (fun _ _ _ h => h) (Or.inl ⟨by rfl, ?_⟩) (by assumption) ?_
              rotate_left
              · (intro w hSw; (try dsimp only at hSw); go_simp; try with_reducible rfl)
              try simp only [Act.put, List.setIfInBounds_toArray, List.set_cons_zero, List.set_cons_succ]
              refine wpAnyS_take [11] (i := 10) (oi := ⟨_, _, _, _, _, _⟩) (v := ?_) (by simp) (by kernel_rfl) rfl (by kernel_rfl) (by kernel_rfl) (by kernel_rfl) (fun _ _ _ h => h) (Or.inl ⟨by rfl, ?_⟩) (by assumption) ?_
              rotate_left
              · (intro w hSw; (try dsimp only at hSw); go_simp; try with_reducible rfl)
              try simp only [Act.put, List.setIfInBounds_toArray, List.set_cons_zero, List.set_cons_succ]
              refine wpAnyS_call (k := 11) (ok := ⟨_, _, _, _, _, _⟩) rfl (by kernel_rfl) (by kernel_rfl) (fun K hK => ?_)
              go_simp
              refine hK.out _ _ ?_
              clear hK K
              try simp only [Act.put, List.setIfInBounds_toArray, List.set_cons_zero, List.set_cons_succ]
              refine wpAny_done (by kernel_rfl) ?_ _
              go_wp2_with fail
              go_roundw
              case rel => exact ⟨i + 1, false, by omega, by go_num, rfl, Lib.hid (same_stop HST.out.1 HST.out.2 hst), LD, hxd, hyd⟩
              case measure => simp [intOf]; omega
          · have hlt' : ¬ (i : Int) < (m0 : Int) := by omega
            have hab := HAB.out true (same_end HM.out.1 HM.out.2 HP.out (fun _ => by omega))
            go_upto_region 17 with fail
            have hbd := (Below.refl wr.heap.size wr).drew
            refine region_here (fun Z : World => Z.cell? ⟨BA, 0, none⟩ = some (.int .i64 r0) ∧ Z.cell? ⟨D, 0, none⟩ = some (.slice Ax m0 cx)) 6 (by kernel_rfl) ⟨(LY.below hbd).a.cell 0, (LY.below hbd).d.cell 0⟩ (fun hHeld => ?_)
            refine wpAnyS_take [1, 6, 7] (i := 0) (oi := ⟨_, _, _, _, _, _⟩) (v := ?_) (by simp) (by kernel_rfl) rfl (by kernel_rfl) (by kernel_rfl) (by kernel_rfl) (fun _ _ _ h => h) (Or.inl ⟨by rfl, ?_⟩) (by assumption) ?_
            rotate_left
            · (intro w hSw; (try dsimp only at hSw); go_simp; try with_reducible rfl)
            try simp only [Act.put, List.setIfInBounds_toArray, List.set_cons_zero, List.set_cons_succ]
            refine wpAnyS_take [6, 7] (i := 1) (oi := ⟨_, _, _, _, _, _⟩) (v := ?_) (by simp) (by kernel_rfl) rfl (by kernel_rfl) (by kernel_rfl) (by kernel_rfl) (fun _ _ _ h => h) (Or.inl ⟨by rfl, ?_⟩) (by assumption) ?_
            rotate_left
            · (intro w hSw; (try dsimp only at hSw); go_simp; try with_reducible rfl)
            try simp only [Act.put, List.setIfInBounds_toArray, List.set_cons_zero, List.set_cons_succ]
            refine wpAnyS_take [3, 6, 7] (i := 2) (oi := ⟨_, _, _, _, _, _⟩) (v := ?_) (by simp) (by kernel_rfl) rfl (by kernel_rfl) (by kernel_rfl) (by kernel_rfl) (fun _ _ _ h => h) (Or.inl ⟨by rfl, ?_⟩) (by assumption) ?_
            rotate_left
            · (intro w hSw; (try dsimp only at hSw); go_simp; try with_reducible rfl)
            try simp only [Act.put, List.setIfInBounds_toArray, List.set_cons_zero, List.set_cons_succ]
            refine wpAnyS_take [5, 6, 7] (i := 4) (oi := ⟨_, _, _, _, _, _⟩) (v := ?_) (by simp) (by kernel_rfl) rfl (by kernel_rfl) (by kernel_rfl) (by kernel_rfl) (fun _ _ _ h => h) (Or.inl ⟨by rfl, ?_⟩) (by assumption) ?_
            rotate_left
            · (intro w hSw; (try dsimp only at hSw); go_simp; try with_reducible rfl)
            try simp only [Act.put, List.setIfInBounds_toArray, List.set_cons_zero, List.set_cons_succ]
            refine wpAnyS_take [6, 7] (i := 5) (oi := ⟨_, _, _, _, _, _⟩) (v := ?_) (by simp) (by kernel_rfl) rfl (by kernel_rfl) (by kernel_rfl) (by kernel_rfl) (fun _ _ _ h => h) (Or.inl ⟨by rfl, ?_⟩) (by assumption) ?_
            rotate_left
            · (intro w hSw; (try dsimp only at hSw); go_simp; try with_reducible rfl)
            try simp only [Act.put, List.setIfInBounds_toArray, List.set_cons_zero, List.set_cons_succ]
            refine wpAnyS_one (i := 3) (oi := ⟨_, _, _, _, _, _⟩) rfl (by kernel_rfl) (fun K hK => ?_)
            go_simp
            go_at_call 64
            (with_reducible refine (mS.out _).mono ?_)
            rintro e wa ⟨rfl, hba⟩
            (try go_wp2_with fail)
            refine hK.out _ _ ?_ (fun hHeld3 => ?_)
            · exact ⟨cell_b hba hHeld.1, cell_b hba hHeld.2⟩
            clear hK K
            try simp only [Act.put, List.setIfInBounds_toArray, List.set_cons_zero, List.set_cons_succ]
            refine wpAnyS_call (k := 6) (ok := ⟨_, _, _, _, _, _⟩) rfl (by kernel_rfl) (by kernel_rfl) (fun K hK => ?_)
            go_simp
            go_at_call 63
            (with_reducible refine (inC.out _ ?_ ((hx.below hbd).below hba)).mono ?_)
            · exact HT.out.below (below_then (below_then LY.b hbd) hba)
            rintro e wb ⟨rfl, hbb⟩
            (try go_wp2_with fail)
            refine hK.out _ _ ?_
            clear hK K
            try simp only [Act.put, List.setIfInBounds_toArray, List.set_cons_zero, List.set_cons_succ]
            refine wpAny_take (i := 7) (oi := ⟨_, _, _, _, _, _⟩) (v := ?_) rfl (by kernel_rfl) (by kernel_rfl) (by kernel_rfl) (fun _ _ _ h => h) (Or.inl ⟨by rfl, ?_⟩) ?_
            rotate_left
            · (intro w; go_simp; try with_reducible rfl)
            try simp only [Act.put, List.setIfInBounds_toArray, List.set_cons_zero, List.set_cons_succ]
            refine wpAny_done (by kernel_rfl) ?_ _
            have LY2 := ((LY.below hbd).below hba).below hbb
            have hx2 := ((hx.below hbd).below hba).below hbb
            clear hbd hba hbb LY hx hy
            go_upto_region 18 with fail
            have hbd := (Below.refl wb.heap.size wb).drew
            refine region_here (fun Z : World => Z.cell? ⟨BA, 0, none⟩ = some (.int .i64 r0) ∧ Z.cell? ⟨D, 0, none⟩ = some (.slice Ax m0 cx) ∧ Blk Z (BA + 2) 71 (u8a h)) 28 (by kernel_rfl) ⟨(LY2.below hbd).a.cell 0, (LY2.below hbd).d.cell 0, (LY2.below hbd).h⟩ (fun hHeld => ?_)
            refine wpAnyS_take [1, 2, 3, 4, 5, 6, 7, 8, 9, 10, 11, 12, 13, 14, 15, 16, 17, 18, 19, 20, 21, 22, 23, 24, 25, 26, 27, 28] (i := 0) (oi := ⟨_, _, _, _, _, _⟩) (v := ?_) (by simp) (by kernel_rfl) rfl (by kernel_rfl) (by kernel_rfl) (by kernel_rfl) (fun _ _ _ h => h) (Or.inl ⟨by rfl, ?_⟩) (by assumption) ?_
            rotate_left
            · (intro w hSw; (try dsimp only at hSw); go_simp; try with_reducible rfl)
            try simp only [Act.put, List.setIfInBounds_toArray, List.set_cons_zero, List.set_cons_succ]
            refine wpAnyS_take [2, 3, 4, 5, 6, 7, 8, 9, 10, 11, 12, 13, 14, 15, 16, 17, 18, 19, 20, 21, 22, 23, 24, 25, 26, 27, 28] (i := 1) (oi := ⟨_, _, _, _, _, _⟩) (v := ?_) (by simp) (by kernel_rfl) rfl (by kernel_rfl) (by kernel_rfl) (by kernel_rfl) (fun _ _ _ h => h) (Or.inl ⟨by rfl, ?_⟩) (by assumption) ?_
            rotate_left
            · (intro w hSw; (try dsimp only at hSw); go_simp; try with_reducible rfl)
            try simp only [Act.put, List.setIfInBounds_toArray, List.set_cons_zero, List.set_cons_succ]
            refine wpAnyS_take [9, 10, 11, 12, 13, 14, 15, 16, 17, 18, 19, 20, 21, 22, 23, 24, 25, 26, 27, 28] (i := 2) (oi := ⟨_, _, _, _, _, _⟩) (v := ?_) (by simp) (by kernel_rfl) rfl (by kernel_rfl) (by kernel_rfl) (by kernel_rfl) (fun _ _ _ h => h) (Or.inl ⟨by rfl, ?_⟩) (by assumption) ?_
            rotate_left
            · (intro w hSw; (try dsimp only at hSw); go_simp; try with_reducible rfl)
            try simp only [Act.put, List.setIfInBounds_toArray, List.set_cons_zero, List.set_cons_succ]
            refine wpAnyS_take [4, 8, 9, 10, 11, 12, 13, 14, 15, 16, 17, 18, 19, 20, 21, 22, 23, 24, 25, 26, 27, 28] (i := 3) (oi := ⟨_, _, _, _, _, _⟩) (v := ?_) (by simp) (by kernel_rfl) rfl (by kernel_rfl) (by kernel_rfl) (by kernel_rfl) (fun _ _ _ h => h) (Or.inl ⟨by rfl, ?_⟩) (by assumption) ?_
            rotate_left
            · (intro w hSw; (try dsimp only at hSw); go_simp; try with_reducible rfl)
            try simp only [Act.put, List.setIfInBounds_toArray, List.set_cons_zero, List.set_cons_succ]
            refine wpAnyS_take [8, 9, 10, 11, 12, 13, 14, 15, 16, 17, 18, 19, 20, 21, 22, 23, 24, 25, 26, 27, 28] (i := 4) (oi := ⟨_, _, _, _, _, _⟩) (v := ?_) (by simp) (by kernel_rfl) rfl (by kernel_rfl) (by kernel_rfl) (by kernel_rfl) (fun _ _ _ h => h) (Or.inl ⟨by rfl, ?_⟩) (by assumption) ?_
            rotate_left
            · (intro w hSw; (try dsimp only at hSw); go_simp; try with_reducible rfl)
            try simp only [Act.put, List.setIfInBounds_toArray, List.set_cons_zero, List.set_cons_succ]
            refine wpAnyS_take [8, 9, 10, 11, 12, 13, 14, 15, 16, 17, 18, 19, 20, 21, 22, 23, 24, 25, 26, 27, 28] (i := 5) (oi := ⟨_, _, _, _, _, _⟩) (v := .agg (u8a h)) (by simp) (by kernel_rfl) rfl (by kernel_rfl) (by kernel_rfl) (by kernel_rfl) (fun _ _ _ h => h) (yieldsIf_load_mid (by rfl) 71 (.tmp 5) rfl (BA + 2) 0 rfl (u8l h) _ (fun Z hZ => hash_range hZ.2.2) Tryz.underlying71 rfl (by rw [u8l_len, HH.out]; exact hash_size)) (by assumption) ?_
            try simp only [Act.put, List.setIfInBounds_toArray, List.set_cons_zero, List.set_cons_succ]
            refine wpAnyS_take [7, 8, 9, 10, 11, 12, 13, 14, 15, 16, 17, 18, 19, 20, 21, 22, 23, 24, 25, 26, 27, 28] (i := 6) (oi := ⟨_, _, _, _, _, _⟩) (v := ?_) (by simp) (by kernel_rfl) rfl (by kernel_rfl) (by kernel_rfl) (by kernel_rfl) (fun _ _ _ h => h) (Or.inl ⟨by rfl, ?_⟩) (by assumption) ?_
            rotate_left
            · (intro w hSw; (try dsimp only at hSw); go_simp; try with_reducible rfl)
            try simp only [Act.put, List.setIfInBounds_toArray, List.set_cons_zero, List.set_cons_succ]
            refine wpAnyS_take [8, 9, 10, 11, 12, 13, 14, 15, 16, 17, 18, 19, 20, 21, 22, 23, 24, 25, 26, 27, 28] (i := 7) (oi := ⟨_, _, _, _, _, _⟩) (v := ?_) (by simp) (by kernel_rfl) rfl (by kernel_rfl) (by kernel_rfl) (by kernel_rfl) (fun _ _ _ h => h) (Or.inl ⟨by rfl, ?_⟩) (by assumption) ?_
            rotate_left
            · (intro w hSw; (try dsimp only at hSw); go_simp; try with_reducible rfl)
            try simp only [Act.put, List.setIfInBounds_toArray, List.set_cons_zero, List.set_cons_succ]
            refine wpAnyS_one (i := 8) (oi := ⟨_, _, _, _, _, _⟩) rfl (by kernel_rfl) (fun K hK => ?_)
            go_simp
            go_at_call 65
            (with_reducible refine (inR.out _ (hx2.below hbd)).mono ?_)
            rintro e wa ⟨rfl, hba⟩
            (try go_wp2_with fail)
            refine hK.out _ _ ?_ (fun hHeld8 => ?_)
            · exact ⟨cell_b hba hHeld.1, cell_b hba hHeld.2.1, hHeld.2.2.below hba hHeld.2.2.lt⟩
            clear hK K
            try simp only [Act.put, List.setIfInBounds_toArray, List.set_cons_zero, List.set_cons_succ]
            refine wpAnyS_take [10, 11, 12, 13, 14, 15, 16, 17, 18, 19, 20, 21, 22, 23, 24, 25, 26, 27, 28] (i := 9) (oi := ⟨_, _, _, _, _, _⟩) (v := ?_) (by simp) (by kernel_rfl) rfl (by kernel_rfl) (by kernel_rfl) (by kernel_rfl) (fun _ _ _ h => h) (Or.inl ⟨by rfl, ?_⟩) (by assumption) ?_
            rotate_left
            · (intro w hSw; (try dsimp only at hSw); go_simp; try with_reducible rfl)
            try simp only [Act.put, List.setIfInBounds_toArray, List.set_cons_zero, List.set_cons_succ]
            refine wpAnyS_take [11, 12, 13, 14, 15, 16, 17, 18, 19, 20, 21, 22, 23, 24, 25, 26, 27, 28] (i := 10) (oi := ⟨_, _, _, _, _, _⟩) (v := ?_) (by simp) (by kernel_rfl) rfl (by kernel_rfl) (by kernel_rfl) (by kernel_rfl) (fun _ _ _ h => h) (Or.inl ⟨by rfl, ?_⟩) (by assumption) ?_
            rotate_left
            · (intro w hSw; (try dsimp only at hSw); go_simp; try with_reducible rfl)
            try simp only [Act.put, List.setIfInBounds_toArray, List.set_cons_zero, List.set_cons_succ]
            refine wpAnyS_take [12, 13, 14, 15, 16, 17, 18, 19, 20, 21, 22, 23, 24, 25, 26, 27, 28] (i := 11) (oi := ⟨_, _, _, _, _, _⟩) (v := ?_) (by simp) (by kernel_rfl) rfl (by kernel_rfl) (by kernel_rfl) (by kernel_rfl) (fun _ _ _ h => h) (Or.inl ⟨by rfl, ?_⟩) (by assumption) ?_
            rotate_left
            · (intro w hSw; (try dsimp only at hSw); go_simp; try with_reducible rfl)
            try simp only [Act.put, List.setIfInBounds_toArray, List.set_cons_zero, List.set_cons_succ]
            refine wpAnyS_take [14, 16, 17, 18, 19, 20, 21, 22, 23, 24, 25, 26, 27, 28] (i := 12) (oi := ⟨_, _, _, _, _, _⟩) (v := ?_) (by simp) (by kernel_rfl) rfl (by kernel_rfl) (by kernel_rfl) (by kernel_rfl) (fun _ _ _ h => h) (Or.inl ⟨by rfl, ?_⟩) (by assumption) ?_
            rotate_left
            · (intro w hSw; (try dsimp only at hSw); go_simp; try with_reducible rfl)
            try simp only [Act.put, List.setIfInBounds_toArray, List.set_cons_zero, List.set_cons_succ]
            refine wpAnyS_take [14, 16, 17, 18, 19, 20, 21, 22, 23, 24, 25, 26, 27, 28] (i := 13) (oi := ⟨_, _, _, _, _, _⟩) (v := ?_) (by simp) (by kernel_rfl) rfl (by kernel_rfl) (by kernel_rfl) (by kernel_rfl) (fun _ _ _ h => h) (Or.inl ⟨by rfl, ?_⟩) (by assumption) ?_
            rotate_left
            · (intro w hSw; (try dsimp only at hSw); go_simp; try with_reducible rfl)
            try simp only [Act.put, List.setIfInBounds_toArray, List.set_cons_zero, List.set_cons_succ]
            refine wpAnyS_take [16, 17, 18, 19, 20, 21, 22, 23, 24, 25, 26, 27, 28] (i := 14) (oi := ⟨_, _, _, _, _, _⟩) (v := ?_) (by simp) (by kernel_rfl) rfl (by kernel_rfl) (by kernel_rfl) (by kernel_rfl) (fun _ _ _ h => h) (Or.inl ⟨by rfl, ?_⟩) (by assumption) ?_
            rotate_left
            · (intro w hSw; (try dsimp only at hSw); go_simp; try with_reducible rfl)
            try simp only [Act.put, List.setIfInBounds_toArray, List.set_cons_zero, List.set_cons_succ]
            refine wpAnyS_take [16, 17, 18, 19, 20, 21, 22, 23, 24, 25, 26, 27, 28] (i := 15) (oi := ⟨_, _, _, _, _, _⟩) (v := ?_) (by simp) (by kernel_rfl) rfl (by kernel_rfl) (by kernel_rfl) (by kernel_rfl) (fun _ _ _ h => h) (Or.inl ⟨by rfl, ?_⟩) (by assumption) ?_
            rotate_left
            · (intro w hSw; (try dsimp only at hSw); go_simp; try with_reducible rfl)
            try simp only [Act.put, List.setIfInBounds_toArray, List.set_cons_zero, List.set_cons_succ]
            refine wpAnyS_take [17, 18, 19, 20, 21, 22, 23, 24, 25, 26, 27, 28] (i := 16) (oi := ⟨_, _, _, _, _, _⟩) (v := ?_) (by simp) (by kernel_rfl) rfl (by kernel_rfl) (by kernel_rfl) (by kernel_rfl) (fun _ _ _ h => h) (Or.inl ⟨by rfl, ?_⟩) (by assumption) ?_
            rotate_left
            · (intro w hSw; (try dsimp only at hSw); go_simp; try with_reducible rfl)
            try simp only [Act.put, List.setIfInBounds_toArray, List.set_cons_zero, List.set_cons_succ]
            refine wpAnyS_take [18, 19, 20, 21, 22, 23, 24, 25, 26, 27, 28] (i := 17) (oi := ⟨_, _, _, _, _, _⟩) (v := ?_) (by simp) (by kernel_rfl) rfl (by kernel_rfl) (by kernel_rfl) (by kernel_rfl) (fun _ _ _ h => h) (Or.inl ⟨by rfl, ?_⟩) (by assumption) ?_
            rotate_left
            · (intro w hSw; (try dsimp only at hSw); go_simp; try with_reducible rfl)
            try simp only [Act.put, List.setIfInBounds_toArray, List.set_cons_zero, List.set_cons_succ]
            refine wpAnyS_take [19, 20, 21, 22, 23, 24, 25, 26, 27, 28] (i := 18) (oi := ⟨_, _, _, _, _, _⟩) (v := ?_) (by simp) (by kernel_rfl) rfl (by kernel_rfl) (by kernel_rfl) (by kernel_rfl) (fun _ _ _ h => h) (Or.inl ⟨by rfl, ?_⟩) (by assumption) ?_
            rotate_left
            · (intro w hSw; (try dsimp only at hSw); go_simp; try with_reducible rfl)
            try simp only [Act.put, List.setIfInBounds_toArray, List.set_cons_zero, List.set_cons_succ]
            refine wpAnyS_take [21, 26, 27, 28] (i := 19) (oi := ⟨_, _, _, _, _, _⟩) (v := ?_) (by simp) (by kernel_rfl) rfl (by kernel_rfl) (by kernel_rfl) (by kernel_rfl) (fun _ _ _ h => h) (Or.inl ⟨by rfl, ?_⟩) (by assumption) ?_
            rotate_left
            · (intro w hSw; (try dsimp only at hSw); go_simp; try with_reducible rfl)
            try simp only [Act.put, List.setIfInBounds_toArray, List.set_cons_zero, List.set_cons_succ]
            refine wpAnyS_take [21, 26, 27, 28] (i := 20) (oi := ⟨_, _, _, _, _, _⟩) (v := ?_) (by simp) (by kernel_rfl) rfl (by kernel_rfl) (by kernel_rfl) (by kernel_rfl) (fun _ _ _ h => h) (Or.inl ⟨by rfl, ?_⟩) (by assumption) ?_
            rotate_left
            · (intro w hSw; (try dsimp only at hSw); go_simp; try with_reducible rfl)
            try simp only [Act.put, List.setIfInBounds_toArray, List.set_cons_zero, List.set_cons_succ]
            refine wpAnyS_take [26, 27, 28] (i := 21) (oi := ⟨_, _, _, _, _, _⟩) (v := ?_) (by simp) (by kernel_rfl) rfl (by kernel_rfl) (by kernel_rfl) (by kernel_rfl) (fun _ _ _ h => h) (Or.inl ⟨by rfl, ?_⟩) (by assumption) ?_
            rotate_left
            · (intro w hSw; (try dsimp only at hSw); go_simp; try with_reducible rfl)
            try simp only [Act.put, List.setIfInBounds_toArray, List.set_cons_zero, List.set_cons_succ]
            refine wpAnyS_take [23, 25, 26, 27, 28] (i := 22) (oi := ⟨_, _, _, _, _, _⟩) (v := ?_) (by simp) (by kernel_rfl) rfl (by kernel_rfl) (by kernel_rfl) (by kernel_rfl) (fun _ _ _ h => h) (Or.inl ⟨by rfl, ?_⟩) (by assumption) ?_
            rotate_left
            · (intro w hSw; (try dsimp only at hSw); go_simp; try with_reducible rfl)
            try simp only [Act.put, List.setIfInBounds_toArray, List.set_cons_zero, List.set_cons_succ]
            refine wpAnyS_take [25, 26, 27, 28] (i := 24) (oi := ⟨_, _, _, _, _, _⟩) (v := .agg (u8a h)) (by simp) (by kernel_rfl) rfl (by kernel_rfl) (by kernel_rfl) (by kernel_rfl) (fun _ _ _ h => h) (yieldsIf_load_mid (by rfl) 71 (.tmp 5) rfl (BA + 2) 0 rfl (u8l h) _ (fun Z hZ => hash_range hZ.2.2) Tryz.underlying71 rfl (by rw [u8l_len, HH.out]; exact hash_size)) (by assumption) ?_
            try simp only [Act.put, List.setIfInBounds_toArray, List.set_cons_zero, List.set_cons_succ]
            refine wpAnyS_one (i := 23) (oi := ⟨_, _, _, _, _, _⟩) rfl (by kernel_rfl) (fun K hK => ?_)
            go_simp
            go_at_call 64
            (with_reducible refine (mS.out _).mono ?_)
            rintro e wb ⟨rfl, hbb⟩
            (try go_wp2_with fail)
            refine hK.out _ _ ?_ (fun hHeld23 => ?_)
            · exact ⟨cell_b hbb hHeld8.1, cell_b hbb hHeld8.2.1, hHeld8.2.2.below hbb hHeld8.2.2.lt⟩
            clear hK K
            try simp only [Act.put, List.setIfInBounds_toArray, List.set_cons_zero, List.set_cons_succ]
            refine wpAnyS_take [26, 27, 28] (i := 25) (oi := ⟨_, _, _, _, _, _⟩) (v := ?_) (by simp) (by kernel_rfl) rfl (by kernel_rfl) (by kernel_rfl) (by kernel_rfl) (fun _ _ _ h => h) (Or.inl ⟨by rfl, ?_⟩) (by assumption) ?_
            rotate_left
            · (intro w hSw; (try dsimp only at hSw); go_simp; try with_reducible rfl)
            try simp only [Act.put, List.setIfInBounds_toArray, List.set_cons_zero, List.set_cons_succ]
            refine wpAnyS_take [27, 28] (i := 26) (oi := ⟨_, _, _, _, _, _⟩) (v := ?_) (by simp) (by kernel_rfl) rfl (by kernel_rfl) (by kernel_rfl) (by kernel_rfl) (fun _ _ _ h => h) (Or.inl ⟨by rfl, ?_⟩) (by assumption) ?_
            rotate_left
            · (intro w hSw; (try dsimp only at hSw); go_simp; try with_reducible rfl)
            try simp only [Act.put, List.setIfInBounds_toArray, List.set_cons_zero, List.set_cons_succ]
            refine wpAnyS_take [28] (i := 27) (oi := ⟨_, _, _, _, _, _⟩) (v := ?_) (by simp) (by kernel_rfl) rfl (by kernel_rfl) (by kernel_rfl) (by kernel_rfl) (fun _ _ _ h => h) (Or.inl ⟨by rfl, ?_⟩) (by assumption) ?_
            rotate_left
            · (intro w hSw; (try dsimp only at hSw); go_simp; try with_reducible rfl)
            try simp only [Act.put, List.setIfInBounds_toArray, List.set_cons_zero, List.set_cons_succ]
            refine wpAnyS_call (k := 28) (ok := ⟨_, _, _, _, _, _⟩) rfl (by kernel_rfl) (by kernel_rfl) (fun K hK => ?_)
            go_simp
            refine hK.out _ _ ?_
            clear hK K
            try simp only [Act.put, List.setIfInBounds_toArray, List.set_cons_zero, List.set_cons_succ]
            refine wpAny_done (by kernel_rfl) ?_ _
            have hBz := below_then (below_then (below_then LY2.b hbd) hba) hbb
            go_wp2_with fail
            go_ret
            exact ⟨by simp, hBz⟩
end Go.Proofs.YtebgmlbbilcbbaaGreatDoor
