/- split, join, pad: their contracts. -/
import Derived.Test.YthiogjpjkdnbjaaGreatDoorNatB
import Derived.Laws.CopyOwn
namespace Go.Proofs.YthiogjpjkdnbjaaGreatDoor
open Go.RowKit

theorem size_u32 : (Tryz.prog.info? 52).map (·.size) = some 1 := by kernel_rfl

/-- What a function that makes n digits returns. -/
def GivesN (w : World) (n v : Nat) (e : Ending) : Prop := ∃ A c zs, e = .returned (.slice A n c) ∧ Dig w A n c zs ∧ val zs = v

set_option maxHeartbeats 400000 in
theorem split_any (v : Nat) (w : World) (hv : v < 18446744073709551616) :
    Calls Tryz.prog 63 #[.int .u64 (v : Int)] w fun e w' => Gives w' v e ∧ Below w.heap.size w w' := by
  go_enter Tryz.func63, Tryz.ntmps63
  go_wp2_with fail
  have hl : Lt32 [v % 4294967296, v / 4294967296] := (Lt32.one (by omega)).snoc (xs := [v % 4294967296]) (by omega)
  have hbk : Blk (w.alloc (Obj.cells #[Value.int IntKind.u32 ((v : Int) % 4294967296), Value.int IntKind.u32 ((v : Int) / 4294967296)] 52)) w.heap.size 52 (u32s [v % 4294967296, v / 4294967296]) := Blk.new _ _ _
  refine (trim_gives _ _ _ _ _ (hbk.dig hl (n := 2) (c := 2) rfl (Nat.le_refl _)) (by omega)).mono ?_
  rintro e w' ⟨⟨A1, m1, c1, zs, rfl, hd1, ht1, hv1⟩, rfl⟩
  have HV1 := Lib.hid hv1
  clear hv1
  go_wp2_with fail
  go_ret
  refine ⟨⟨_, _, _, _, rfl, hd1, ht1, ?_⟩, (Below.refl _ _).alloc (Nat.le_refl _) _⟩
  rw [HV1.out]
  simp only [val]
  omega

set_option maxHeartbeats 400000 in
theorem join_any (A : Option Addr) (n c : Nat) (xs : List Nat) (w : World) (h : Dig w A n c xs) (hn : n ≤ 2) :
    Calls Tryz.prog 64 #[.slice A n c] w fun e w' => e = .returned (.int .u64 (val xs : Int)) ∧ w = w' := by
  go_enter Tryz.func64, Tryz.ntmps64
  go_wp2_with fail
  go_loop [3, 8] (fun s3 s8 => ∃ i : Nat, i ≤ n ∧ s8 = .int .i64 (i : Int) ∧ ∃ v : Nat, s3 = .int .u64 (v : Int) ∧ Hid (v = val (xs.take i))) (fun _ s8 => n - (intOf s8).toNat)
  case atStart => exact ⟨0, by omega, rfl, 0, rfl, rfl⟩
  case round =>
    obtain ⟨i, hi, rfl, v, rfl, HV⟩ := hrel
    by_cases hin : i < n
    · obtain ⟨b, o, x, rfl, hx, hxl, hxc⟩ := h.get hin
      have HX := Lib.hid hx
      clear hx
      rcases (show i = 0 ∨ i = 1 by omega) with rfl | rfl
      · obtain rfl : v = 0 := HV.out
        rw [Nat.add_zero] at hxc
        have hor : bits .or .u64 0 (x : Int) = (x : Int) := by have := u64_or_nat 0 x (by omega) (by omega); simpa using this
        go_wp2_with fail
        go_round
        case rel => exact ⟨1, by omega, rfl, x, rfl, by show _ = _; rw [val_take_succ HX.out]; simp [val, P32]⟩
        case measure => simp [intOf]; omega
      · have hv : v < 4294967296 := by
          have h1 := val_lt (h.lt.take 1)
          have h2 := h.len
          rw [HV.out]
          rw [List.length_take, Nat.min_eq_left (by omega)] at h1
          exact h1
        have hor := u64_or_lo x v hxl hv
        go_wp2_with fail
        go_round
        case rel => exact ⟨2, by omega, rfl, v + x * 4294967296, by go_num, by show _ = _; rw [val_take_succ HX.out, ← HV.out]; simp [P32]; omega⟩
        case measure => simp [intOf]; omega
    · go_wp2_with fail
      go_ret
      have hv := HV.out
      rw [val_take_all (by have := h.len; omega)] at hv
      exact ⟨by rw [hv]; rfl, rfl⟩

/-- copy into a block that is known whole. -/
theorem run_copy_u32 (w : World) (g m cap : Nat) (l : List Nat) (hg : Blk w g 52 (u32s l)) (hl : l.length = m) (A : Option Addr) (n c : Nat) (xs : List Nat) (h : Dig w A n c xs) (hn : n ≤ m) :
    ∃ w', (Builtin.copy_ #[60, 60] 3 #[.slice (some ⟨g, 0, none⟩) m cap, .slice A n c]).run Tryz.prog w = .ok (.int .i64 (n : Int)) w' ∧ Blk w' g 52 (u32s (xs ++ l.drop n)) ∧ ∀ B, B ≤ g → Below B w w' := by
  have hlx := h.len
  rcases Nat.eq_zero_or_pos n with h0 | h0
  · subst h0
    obtain rfl : xs = [] := List.eq_nil_of_length_eq_zero hlx
    exact ⟨w, run_copy_none (P := Tryz.prog) w 60 60 3 52 (some ⟨g, 0, none⟩) A m cap 0 c Tryz.underlying60 size_u32 (by simp), by simpa using hg, fun B _ => Below.refl _ _⟩
  · obtain ⟨b, o, rfl, hc⟩ := h.at_ h0
    have hr := run_copy_row (P := Tryz.prog) w 60 60 3 52 g 0 m cap ⟨b, o, none⟩ n c (u32s l) 52 (xs.map fun d : Nat => Value.int .u32 (d : Int)) Tryz.underlying60 size_u32 hg
      (by rw [List.length_map, hlx]; exact (Nat.min_eq_left hn).symm) (fun j v hv => by
        rw [List.getElem?_map] at hv
        obtain ⟨d, hd, rfl⟩ := Option.map_eq_some_iff.1 hv
        rw [add_addr]
        exact hc j d hd) (by rw [u32s_size]; simp; omega) (fun v hv => by
        simp only [List.mem_map] at hv
        obtain ⟨d, _, rfl⟩ := hv
        rfl)
    have e : ((u32s l).toList.take 0 ++ (xs.map fun d : Nat => Value.int .u32 (d : Int)) ++ (u32s l).toList.drop (0 + (xs.map fun d : Nat => Value.int .u32 (d : Int)).length)).toArray = u32s (xs ++ l.drop n) := by
      simp [u32s, hlx]
    rw [e] at hr
    refine ⟨_, hr.trans (by simp [hlx, goInt]), setRow_heap w g _ _ _ _ hg, fun B hB => below_setRow (Below.refl _ _) hB _⟩

set_option maxHeartbeats 400000 in
theorem pad_any (A : Option Addr) (n c m : Nat) (xs : List Nat) (w : World) (h : Dig w A n c xs) (hn : n ≤ m) (hm : m ≤ 1000000) :
    Calls Tryz.prog 78 #[.slice A n c, .int .i64 (m : Int)] w fun e w' => GivesN w' m (val xs) e ∧ Below w.heap.size w w' := by
  have hmk := make_u32 m (by omega)
  have hl := h.len
  obtain ⟨w1, hcp, hbk, hb⟩ := run_copy_u32 (w.alloc (.cells (u32s (List.replicate m 0)) 52)) w.heap.size m m _ (Blk.new _ _ _) (by simp) A n c xs (h.below ((Below.refl _ _).alloc (Nat.le_refl _) _)) hn
  have HL := Lib.hid hl
  have HB := Lib.hid hb
  clear hl hb
  go_enter Tryz.func78, Tryz.ntmps78
  go_wp2_with fail
  go_ret
  refine ⟨⟨_, _, _, rfl, hbk.dig (h.lt.append ?_) ?_ (Nat.le_refl _), ?_⟩, ((Below.refl _ _).alloc (Nat.le_refl _) _).trans (HB.out _ (Nat.le_refl _))⟩
  · rw [List.drop_replicate]; exact Lt32.zeros _
  · have := HL.out; simp; omega
  · rw [val_append, List.drop_replicate, val_zeros]; simp

end Go.Proofs.YthiogjpjkdnbjaaGreatDoor
