/- Joined by a program: Words, NatA, NatB, NatC, NatD, NatE. -/
import Derived.Test.YtebgmlbbilcbbaaGreatDoorChecked
import Derived.Test.YtebgmlbbilcbbaaGreatDoorPlainAll
import Derived.WalkKit
import Derived.WalkSpells
import Derived.WalkLawsBesides
import Derived.Lib.Hide
import Derived.Deep.Draws
import Derived.Deep.OwnRows
import Derived.Deep.DeepCutAuto
import Derived.Deep.LoopGhost
import Derived.Deep.QuietTactic
import Derived.BigQuiet
import Derived.Laws.CopyOwn
namespace Go.Proofs.YtebgmlbbilcbbaaGreatDoor
open Go.RowKit

theorem u64_neg (n : Int) (h : -18446744073709551616 ≤ n) (h2 : n < 0) : IntKind.u64.wrap n = n + 18446744073709551616 := by
  simp [IntKind.wrap, IntKind.bits, IntKind.signed]; omega
theorem u64_sub (a b : Int) : IntKind.u64.wrap (IntKind.u64.wrap a - b) = IntKind.u64.wrap (a - b) := by
  simp [IntKind.wrap, IntKind.bits, IntKind.signed]
theorem u64_add (a b : Int) : IntKind.u64.wrap (IntKind.u64.wrap a + b) = IntKind.u64.wrap (a + b) := by
  simp [IntKind.wrap, IntKind.bits, IntKind.signed]

theorem or_hi (a b k : Nat) (hb : b < 2 ^ k) : a * 2 ^ k ||| b = a * 2 ^ k + b := by
  rw [← Nat.shiftLeft_eq]; exact (Nat.shiftLeft_add_eq_or_of_lt hb a).symm
theorem or_lo (a b k : Nat) (hb : b < 2 ^ k) : b ||| a * 2 ^ k = b + a * 2 ^ k := by rw [Nat.or_comm, or_hi a b k hb, Nat.add_comm]
theorem u64_or_hi (a b : Nat) (ha : a < 4294967296) (hb : b < 4294967296) : bits .or .u64 ((a : Int) * 4294967296) (b : Int) = (a : Int) * 4294967296 + b := by
  have e := u64_or_nat (a * 4294967296) b (by omega) (by omega)
  rw [or_hi a b 32 hb] at e
  simpa using e
theorem u64_or_lo (a b : Nat) (ha : a < 4294967296) (hb : b < 4294967296) : bits .or .u64 (b : Int) ((a : Int) * 4294967296) = (b : Int) + (a : Int) * 4294967296 := by
  have e := u64_or_nat b (a * 4294967296) (by omega) (by omega)
  rw [or_lo a b 32 hb] at e
  simpa using e

theorem add_addr (b o j : Nat) : (⟨b, o, none⟩ : Addr).add j = ⟨b, o + j, none⟩ := by unfold Addr.add; split <;> simp_all

theorem u64_low (s : Nat) (hs : s < 18446744073709551616) : bits .and .u64 (s : Int) 4294967295 = ((s % 4294967296 : Nat) : Int) := by
  have e := u64_and_nat s 4294967295 (by omega) (by omega)
  rw [show (4294967295 : Nat) = 2 ^ 32 - 1 by rfl, Nat.and_two_pow_sub_one_eq_mod] at e
  exact e
theorem u64_borrow (u lo bw : Nat) (hu : u < 4294967296) (hlo : lo < 4294967296) (hbw : bw ≤ 1) :
    ∃ D dg b : Nat, IntKind.u64.wrap (IntKind.u64.wrap ((u : Int) - lo) - bw) = (D : Int) ∧ dg = D % 4294967296 ∧ b = D / 9223372036854775808 ∧ b ≤ 1 ∧ dg < 4294967296 ∧ dg + lo + bw = u + 4294967296 * b ∧ D < 18446744073709551616 := by
  rw [u64_sub]
  by_cases h : lo + bw ≤ u
  · refine ⟨u - lo - bw, _, _, ?_, rfl, rfl, by omega, by omega, by omega, by omega⟩
    rw [IntWalk.u64_in _ (by omega)]
    omega
  · refine ⟨u + 18446744073709551616 - lo - bw, _, _, ?_, rfl, rfl, by omega, by omega, by omega, by omega⟩
    rw [u64_neg _ (by omega) (by omega)]
    omega

theorem below_drewN {B : Nat} {a w : World} (h : Below B a w) (n : Nat) : Below B a (w.drewN n) := ⟨h.os, h.tape, h.output, h.size, h.block⟩

/-- One call behind another: what was there when the first began is as it was. -/
theorem below_then {a b c : World} (h : Below a.heap.size a b) (k : Below b.heap.size b c) : Below a.heap.size a c := h.trans (k.mono h.size)

/-- The number of elements of a slice: for a loop's measure. -/
def lenOf : Value → Nat
  | .slice _ n _ => n
  | _ => 0

/-- A slice of uint32 whose cells read as the digits xs. -/
structure Dig (w : World) (A : Option Addr) (n c : Nat) (xs : List Nat) : Prop where
  len : xs.length = n
  cap : n ≤ c
  lt : Lt32 xs
  at_ : 0 < n → ∃ b o, A = some ⟨b, o, none⟩ ∧ ∀ j d : Nat, xs[j]? = some d → w.cell? ⟨b, o + j, none⟩ = some (.int .u32 (d : Int))

theorem Dig.get {w : World} {A : Option Addr} {n c k : Nat} {xs : List Nat} (h : Dig w A n c xs) (hk : k < n) :
    ∃ b o d, A = some ⟨b, o, none⟩ ∧ xs[k]? = some d ∧ d < 4294967296 ∧ w.cell? ⟨b, o + k, none⟩ = some (.int .u32 (d : Int)) := by
  obtain ⟨b, o, e, hc⟩ := h.at_ (by omega)
  have hl : k < xs.length := by have := h.len; omega
  exact ⟨b, o, xs[k], e, List.getElem?_eq_getElem hl, h.lt _ _ (List.getElem?_eq_getElem hl), hc k _ (List.getElem?_eq_getElem hl)⟩

theorem Dig.below {w w' : World} {A : Option Addr} {n c : Nat} {xs : List Nat} (h : Dig w A n c xs) (hb : Below w.heap.size w w') : Dig w' A n c xs := by
  refine ⟨h.len, h.cap, h.lt, fun hn => ?_⟩
  obtain ⟨b, o, e, hc⟩ := h.at_ hn
  refine ⟨b, o, e, fun j d hd => ?_⟩
  have h1 := hc j d hd
  exact (hb.cell (p := ⟨b, o + j, none⟩) (block_lt_of_cell h1)).trans h1

theorem Dig.nil_ (w : World) (A : Option Addr) (c : Nat) : Dig w A 0 c [] := ⟨rfl, Nat.zero_le _, Lt32.nil, fun h => absurd h (by omega)⟩

theorem Dig.take {w : World} {A : Option Addr} {n c m : Nat} {xs : List Nat} (h : Dig w A n c xs) (hm : m ≤ n) : Dig w A m c (xs.take m) := by
  have hl := h.len
  refine ⟨by rw [List.length_take]; omega, by have := h.cap; omega, h.lt.take m, fun hn => ?_⟩
  obtain ⟨b, o, e, hc⟩ := h.at_ (by omega)
  refine ⟨b, o, e, fun j d hd => hc j d ?_⟩
  rw [List.getElem?_take] at hd
  split at hd
  · exact hd
  · cases hd

/-- Block g is just the cells cs of element type t; none is frozen. -/
def Blk (w : World) (g : Nat) (t : TypeId) (cs : Array Value) : Prop := w.heap[g]? = some (.cells cs t (0, 0))

theorem Blk.lt {w : World} {g : Nat} {t : TypeId} {cs : Array Value} (h : Blk w g t cs) : g < w.heap.size := by
  rcases Nat.lt_or_ge g w.heap.size with hl | hl
  · exact hl
  · unfold Blk at h; rw [Array.getElem?_eq_none hl] at h; cases h
theorem Blk.cell {w : World} {g : Nat} {t : TypeId} {cs : Array Value} (h : Blk w g t cs) (i : Nat) : w.cell? ⟨g, i, none⟩ = cs[i]? := cell_of_row w g i cs t (0, 0) h
theorem Blk.frozen {w : World} {g : Nat} {t : TypeId} {cs : Array Value} (h : Blk w g t cs) (i : Nat) : w.frozen? ⟨g, i, none⟩ = false := frozen_of_row w g i cs t h
theorem Blk.new (w : World) (t : TypeId) (cs : Array Value) : Blk (w.alloc (.cells cs t)) w.heap.size t cs := heap_alloc_new w _
theorem Blk.below {w w' : World} {g : Nat} {t : TypeId} {cs : Array Value} (h : Blk w g t cs) {B : Nat} (hb : Below B w w') (hg : g < B) : Blk w' g t cs := (hb.block g hg).trans h
theorem Blk.set_ {w : World} {g : Nat} {t : TypeId} {cs : Array Value} (h : Blk w g t cs) (i : Nat) (u : Value) : Blk (w.setCell ⟨g, i, none⟩ u) g t (cs.setIfInBounds i u) := heap_setCell_same w g i cs t u h
theorem Blk.far {w : World} {g : Nat} {t : TypeId} {cs : Array Value} (h : Blk w g t cs) {p : Addr} (hp : g ≠ p.block) (u : Value) : Blk (w.setCell p u) g t cs := (heap_setCell_other w p g u hp).trans h
theorem Blk.alloc {w : World} {g : Nat} {t : TypeId} {cs : Array Value} (h : Blk w g t cs) (o : Obj) : Blk (w.alloc o) g t cs := (Below.heap_alloc w o g h.lt).trans h

theorem Blk.grown {w w' : World} {row : Option Nat} {g : Nat} {t : TypeId} {cs : Array Value} (h : Blk w g t cs) (hg : w.grownBy w' row) (hne : some g ≠ row) : Blk w' g t cs := (hg.block g h.lt hne).trans h
theorem grown_set {a w : World} {g : Nat} (h : a.grownBy w (some g)) (i : Nat) (u : Value) : a.grownBy (w.setCell ⟨g, i, none⟩ u) (some g) :=
  ⟨h.os, h.tape, h.output, by simpa [World.setCell] using h.size, fun k hk hne => (Below.heap_setCell w _ u k (by rintro rfl; exact hne rfl)).trans (h.block k hk hne)⟩
theorem grown_refl (w : World) (row : Option Nat) : w.grownBy w row := ⟨rfl, rfl, rfl, Nat.le_refl _, fun _ _ _ => rfl⟩
theorem grown_trans {a b c : World} {row : Option Nat} (h : a.grownBy b row) (k : b.grownBy c row) : a.grownBy c row :=
  ⟨k.os.trans h.os, k.tape.trans h.tape, k.output.trans h.output, Nat.le_trans h.size k.size, fun i hi hne => (k.block i (Nat.lt_of_lt_of_le hi h.size) hne).trans (h.block i hi hne)⟩
theorem grown_of_below {a b : World} (h : Below a.heap.size a b) (row : Option Nat) : a.grownBy b row := ⟨h.os, h.tape, h.output, h.size, fun i hi _ => h.block i hi⟩

theorem below_al {a w : World} (h : Below a.heap.size a w) (o : Obj) : Below a.heap.size a (w.alloc o) := h.alloc h.size o
theorem below_set {a w : World} {p : Addr} (h : Below a.heap.size a w) (hp : a.heap.size ≤ p.block) (u : Value) : Below a.heap.size a (w.setCell p u) := h.setCell hp u
theorem dig_al {w : World} {A : Option Addr} {n c : Nat} {xs : List Nat} (h : Dig w A n c xs) (o : Obj) : Dig (w.alloc o) A n c xs := h.below ((Below.refl _ _).alloc (Nat.le_refl _) _)
theorem Blk.kept2 {w w' : World} {g : Nat} {t : TypeId} {u v : Value} (h : Blk w g t #[u, v]) (hb : Below w.heap.size w w') : w'.cell? ⟨g, 0, none⟩ = some u ∧ w'.cell? ⟨g, 1, none⟩ = some v :=
  ⟨(h.below hb h.lt).cell 0, (h.below hb h.lt).cell 1⟩
theorem Blk.kept1 {w w' : World} {g : Nat} {t : TypeId} {u : Value} (h : Blk w g t #[u]) (hb : Below w.heap.size w w') : w'.cell? ⟨g, 0, none⟩ = some u := (h.below hb h.lt).cell 0

/-- Cells that hold digits. -/
def u32s (l : List Nat) : Array Value := (l.map fun d : Nat => Value.int .u32 (d : Int)).toArray
theorem u32s_get {l : List Nat} {i d : Nat} (h : l[i]? = some d) : (u32s l)[i]? = some (.int .u32 (d : Int)) := by simp [u32s, h]
theorem u32s_set (l : List Nat) (i d : Nat) : (u32s l).setIfInBounds i (.int .u32 (d : Int)) = u32s (l.set i d) := by simp [u32s, List.map_set]
theorem u32s_size (l : List Nat) : (u32s l).size = l.length := by simp [u32s]
theorem u32s_made (n : Nat) : madeCells #[.int .u32 0] n = u32s (List.replicate n 0) := by
  apply Array.toList_inj.1
  rw [toList_madeCells_one]
  simp [u32s]

theorem Blk.u32 {w : World} {g : Nat} {t : TypeId} {l : List Nat} (h : Blk w g t (u32s l)) {i d : Nat} (hd : l[i]? = some d) : w.cell? ⟨g, i, none⟩ = some (.int .u32 (d : Int)) := (h.cell i).trans (u32s_get hd)
theorem Blk.put32 {w : World} {g : Nat} {t : TypeId} {l : List Nat} (h : Blk w g t (u32s l)) (i d : Nat) : Blk (w.setCell ⟨g, i, none⟩ (.int .u32 (d : Int))) g t (u32s (l.set i d)) := by
  have := h.set_ i (.int .u32 (d : Int))
  rwa [u32s_set] at this
theorem Blk.dig {w : World} {g : Nat} {t : TypeId} {l : List Nat} (h : Blk w g t (u32s l)) (hl : Lt32 l) {n c : Nat} (hn : l.length = n) (hc : n ≤ c) : Dig w (some ⟨g, 0, none⟩) n c l :=
  ⟨hn, hc, hl, fun _ => ⟨g, 0, rfl, fun j d hd => by rw [Nat.zero_add]; exact h.u32 hd⟩⟩

end Go.Proofs.YtebgmlbbilcbbaaGreatDoor
namespace Go.Proofs.YtebgmlbbilcbbaaGreatDoor
open Go.RowKit

/-- What trim returns. -/
def Trimmed (A : Option Addr) (n c : Nat) (xs : List Nat) (e : Ending) : Prop :=
  ∃ m, m ≤ n ∧ e = .returned (.slice A m c) ∧ (∀ j d : Nat, m ≤ j → xs[j]? = some d → d = 0) ∧ (0 < m → ∃ d, xs[m - 1]? = some d ∧ d ≠ 0)

set_option maxHeartbeats 400000 in
theorem trim_any (A : Option Addr) (n c : Nat) (xs : List Nat) (w : World) (h : Dig w A n c xs) (hn : n ≤ 100000000) :
    Calls Tryz.prog 163 #[.slice A n c] w fun e w' => Trimmed A n c xs e ∧ w = w' := by
  have hcap := h.cap
  go_enter Tryz.func163, Tryz.ntmps163
  go_wp2
  go_loop [0] (fun t => ∃ m : Nat, m ≤ n ∧ t = .slice A m c ∧ ∀ j d : Nat, m ≤ j → xs[j]? = some d → d = 0) (fun t => lenOf t)
  case atStart => exact ⟨n, Nat.le_refl _, rfl, fun j d hj hd => by have := h.len; have := (List.getElem?_eq_some_iff.1 hd).1; omega⟩
  case round =>
    obtain ⟨m, hm, rfl, hz⟩ := hrel
    have HZ := Lib.hid hz
    clear hz
    by_cases h0 : 0 < m
    · obtain ⟨b, o, d, rfl, hd, hlt, hc⟩ := h.get (k := m - 1) (by omega)
      have HD := Lib.hid hd
      clear hd
      by_cases hd0 : d = 0
      · subst hd0
        go_wp2
        go_round
        case rel =>
          refine ⟨m - 1, by omega, rfl, fun j d hj hd => ?_⟩
          by_cases e : j = m - 1
          · subst e; have := HD.out; rw [this] at hd; simpa using hd.symm
          · exact HZ.out j d (by omega) hd
        case measure => simp [lenOf]; omega
      · have hb : ((d : Int) == 0) = false := by simpa using hd0
        go_wp2
        go_ret
        exact ⟨⟨m, hm, rfl, HZ.out, fun _ => ⟨d, HD.out, hd0⟩⟩, rfl⟩
    · obtain rfl : m = 0 := by omega
      go_wp2
      go_ret
      exact ⟨⟨0, hm, rfl, HZ.out, fun h => absurd h (by omega)⟩, rfl⟩

/-- What a function that makes trimmed digits returns. -/
def Gives (w : World) (v : Nat) (e : Ending) : Prop := ∃ A m c zs, e = .returned (.slice A m c) ∧ Dig w A m c zs ∧ Trim zs ∧ val zs = v

theorem trim_gives (A : Option Addr) (n c : Nat) (xs : List Nat) (w : World) (h : Dig w A n c xs) (hn : n ≤ 100000000) :
    Calls Tryz.prog 163 #[.slice A n c] w fun e w' => Gives w (val xs) e ∧ w = w' := by
  refine (trim_any A n c xs w h hn).mono ?_
  rintro e w' ⟨⟨m, hm, rfl, hz, hd⟩, rfl⟩
  refine ⟨⟨A, m, c, xs.take m, rfl, h.take hm, fun h0 => ?_, val_trim hz⟩, rfl⟩
  have hl := h.len
  rw [List.length_take, Nat.min_eq_left (by omega)] at h0 ⊢
  obtain ⟨d, hd, hne⟩ := hd h0
  exact ⟨d, by rw [List.getElem?_take, if_pos (by omega)]; exact hd, hne⟩

end Go.Proofs.YtebgmlbbilcbbaaGreatDoor
namespace Go.Proofs.YtebgmlbbilcbbaaGreatDoor
open Go.RowKit

theorem info_u32 : (Tryz.prog.info? 140).map (fun i => (i.zero, i.size, i.bytes)) = some (some (.int .u32 0), 1, 4) := by kernel_rfl

theorem make_u32 (n : Nat) (hn : n ≤ 10000000) (w : World) :
    (Instr.makeSlice 153 (.int .i64 (n : Int)) (.int .i64 (n : Int))).run Tryz.prog w = .ok (.slice (some ⟨w.heap.size, 0, none⟩) n n) (w.alloc (.cells (u32s (List.replicate n 0)) 140)) := by
  rw [← u32s_made]
  exact run_make_row' 153 140 (.int .u32 0) 4 Tryz.underlying153 info_u32 rfl .i64 .i64 n (by omega) (by omega) w

set_option maxHeartbeats 400000 in
theorem add_any (A : Option Addr) (n c : Nat) (xs : List Nat) (B : Option Addr) (m d : Nat) (ys : List Nat) (w : World) (h : Dig w A n c xs) (k : Dig w B m d ys) (hn : n ≤ 1000000) (hm : m ≤ 1000000) :
    Calls Tryz.prog 150 #[.slice A n c, .slice B m d] w fun e w' => Gives w' (val xs + val ys) e ∧ Below w.heap.size w w' := by
  go_enter Tryz.func150, Tryz.ntmps150
  go_upto_if 12 with fail
  go_cut [0, 1] (fun s t wx => ∃ A' n' c' xs' B' m' d' ys', s = .slice A' n' c' ∧ t = .slice B' m' d' ∧ Dig w A' n' c' xs' ∧ Dig w B' m' d' ys' ∧ n' ≤ 1000000 ∧ m' ≤ n' ∧ val xs' + val ys' = val xs + val ys ∧ w = wx)
  case first =>
    by_cases hlt : n < m
    · go_wp2_with fail
      go_meet
      exact ⟨B, m, d, ys, A, n, c, xs, rfl, rfl, k, h, hm, by omega, by omega, rfl⟩
    · go_wp2_with fail
      go_meet
      exact ⟨A, n, c, xs, B, m, d, ys, rfl, rfl, h, k, hn, by omega, by omega, rfl⟩
  case rest =>
    obtain ⟨A', n', c', xs', B', m', d', ys', rfl, rfl, h', k', hn', hm', hv, rfl⟩ := hcut
    have HV := Lib.hid hv
    clear hv
    have hmk := make_u32 (n' + 1) (by omega)
    rw [show ((n' + 1 : Nat) : Int) = (n' : Int) + 1 by omega] at hmk
    go_wp2_with fail
    go_loopw [6, 21] (fun s6 s21 wr => ∃ (i cy : Nat) (f : List Nat), i ≤ n' ∧ s21 = .int .i64 (i : Int) ∧ s6 = .int .u64 (cy : Int) ∧ cy ≤ 1 ∧ f.length = i ∧ Lt32 f ∧ Hid (val f + P32 i * cy = val (xs'.take i) + val (ys'.take i)) ∧ Blk wr w.heap.size 140 (u32s (f ++ List.replicate (n' + 1 - i) 0)) ∧ Below w.heap.size w wr) (fun _ s21 _ => n' - (intOf s21).toNat)
    case atStart => exact ⟨0, 0, [], by omega, rfl, rfl, by omega, rfl, Lt32.nil, by simp [Hid, val], Blk.new _ _ _, (Below.refl _ _).alloc (Nat.le_refl _) _⟩
    case round =>
      obtain ⟨i, cy, f, hi, rfl, rfl, hcy, hf, hlt, HI, hbk, hb⟩ := hrel
      by_cases hin : i < n'
      · obtain ⟨b, o, x, rfl, hx, hxl, hxc⟩ := (h'.below hb).get hin
        have HX := Lib.hid hx
        have HF := Lib.hid hf
        clear hx hf
        have hz : wr.cell? ⟨w.heap.size, i, none⟩ = some (.int .u32 ((0 : Nat) : Int)) := hbk.u32 (get_front HF.out (by omega))
        have hfz := hbk.frozen i
        by_cases him : i < m'
        · obtain ⟨b2, o2, y, rfl, hy, hyl, hyc⟩ := (k'.below hb).get him
          have HY := Lib.hid hy
          clear hy
          go_wp2_with fail
          go_roundw
          case rel =>
            refine ⟨i + 1, (cy + x + y) / 4294967296, f ++ [(cy + x + y) % 4294967296], by omega, by go_num, by go_num, by omega, by simp [HF.out], hlt.snoc (by omega), ?_, ?_, hb.setCell (Nat.le_refl _) _⟩
            · have e := carry_step HF.out (cy + x + y)
              have e1 := HI.out
              rw [Nat.mul_add, Nat.mul_add] at e
              show _ = _
              rw [val_take_succ HX.out, val_take_succ HY.out]
              omega
            · have e := hbk.put32 i ((cy + x + y) % 4294967296)
              rw [set_zero HF.out (show n' + 1 - i = (n' + 1 - (i + 1)) + 1 by omega)] at e
              simpa using e
          case measure => simp [intOf]; omega
        · go_wp2_with fail
          go_roundw
          case rel =>
            refine ⟨i + 1, (cy + x) / 4294967296, f ++ [(cy + x) % 4294967296], by omega, by go_num, by go_num, by omega, by simp [HF.out], hlt.snoc (by omega), ?_, ?_, hb.setCell (Nat.le_refl _) _⟩
            · have e := carry_step HF.out (cy + x)
              have e1 := HI.out
              have e2 := k'.len
              rw [Nat.mul_add] at e
              show _ = _
              rw [val_take_succ HX.out, val_take_all (xs := ys') (by omega)]
              rw [val_take_all (xs := ys') (by omega)] at e1
              omega
            · have e := hbk.put32 i ((cy + x) % 4294967296)
              rw [set_zero HF.out (show n' + 1 - i = (n' + 1 - (i + 1)) + 1 by omega)] at e
              simpa using e
          case measure => simp [intOf]; omega
      · obtain rfl : n' = i := by omega
        have hz : wr.cell? ⟨w.heap.size, n', none⟩ = some (.int .u32 ((0 : Nat) : Int)) := hbk.u32 (get_front hf (by omega))
        have hfz := hbk.frozen n'
        have HF := Lib.hid hf
        clear hf
        go_wp2_with fail
        have hbk2 : Blk (wr.setCell ⟨w.heap.size, n', none⟩ (.int .u32 (cy : Int))) w.heap.size 140 (u32s (f ++ [cy])) := by
          have e := hbk.put32 n' cy
          rw [set_zero HF.out (show n' + 1 - n' = 0 + 1 by omega)] at e
          simpa using e
        have hb2 := hb.setCell (p := ⟨w.heap.size, n', none⟩) (Nat.le_refl _) (.int .u32 (cy : Int))
        have hdg := hbk2.dig (hlt.snoc (by omega)) (n := n' + 1) (c := n' + 1) (by simp [HF.out]) (Nat.le_refl _)
        refine (trim_gives _ _ _ _ _ hdg (by omega)).mono ?_
        rintro e w' ⟨⟨A1, m1, c1, zs, rfl, hd1, ht1, hv1⟩, rfl⟩
        have HV1 := Lib.hid hv1
        clear hv1
        go_wp2_with fail
        go_ret
        refine ⟨⟨_, _, _, _, rfl, hd1, ht1, ?_⟩, hb2⟩
        rw [HV1.out, val_snoc, HF.out]
        have e1 := HI.out
        have e2 := h'.len
        have e3 := k'.len
        rw [val_take_all (by omega), val_take_all (by omega)] at e1
        have := HV.out
        omega

end Go.Proofs.YtebgmlbbilcbbaaGreatDoor
namespace Go.Proofs.YtebgmlbbilcbbaaGreatDoor
open Go.RowKit

set_option maxHeartbeats 400000 in
theorem subtract_any (A : Option Addr) (n c : Nat) (xs : List Nat) (B : Option Addr) (m d : Nat) (ys : List Nat) (w : World) (h : Dig w A n c xs) (k : Dig w B m d ys) (hn : n ≤ 1000000) (hm : m ≤ n) (hle : val ys ≤ val xs) :
    Calls Tryz.prog 224 #[.slice A n c, .slice B m d] w fun e w' => Gives w' (val xs - val ys) e ∧ Below w.heap.size w w' := by
  have HLE := Lib.hid hle
  clear hle
  have hmk := make_u32 n (by omega)
  go_enter Tryz.func224, Tryz.ntmps224
  go_wp2_with fail
  go_loopw [6, 14] (fun s6 s14 wr => ∃ (i cy : Nat) (f : List Nat), i ≤ n ∧ s14 = .int .i64 (i : Int) ∧ s6 = .int .u64 (cy : Int) ∧ cy ≤ 1 ∧ f.length = i ∧ Lt32 f ∧ Hid (val f + val (ys.take i) = val (xs.take i) + P32 i * cy) ∧ Blk wr w.heap.size 140 (u32s (f ++ List.replicate (n - i) 0)) ∧ Below w.heap.size w wr) (fun _ s14 _ => n - (intOf s14).toNat)
  case atStart => exact ⟨0, 0, [], by omega, rfl, rfl, by omega, rfl, Lt32.nil, by simp [Hid, val], Blk.new _ _ _, (Below.refl _ _).alloc (Nat.le_refl _) _⟩
  case round =>
    obtain ⟨i, cy, f, hi, rfl, rfl, hcy, hf, hlt, HI, hbk, hb⟩ := hrel
    by_cases hin : i < n
    · obtain ⟨b, o, x, rfl, hx, hxl, hxc⟩ := (h.below hb).get hin
      have HX := Lib.hid hx
      have HF := Lib.hid hf
      clear hx hf
      have hz : wr.cell? ⟨w.heap.size, i, none⟩ = some (.int .u32 ((0 : Nat) : Int)) := hbk.u32 (get_front HF.out (by omega))
      have hfz := hbk.frozen i
      by_cases him : i < m
      · obtain ⟨b2, o2, y, rfl, hy, hyl, hyc⟩ := (k.below hb).get him
        have HY := Lib.hid hy
        clear hy
        by_cases hge : cy + y ≤ x
        · go_wp2_with fail
          go_roundw
          case rel =>
            refine ⟨i + 1, 0, f ++ [x - cy - y], by omega, by go_num, ?_, by omega, by simp [HF.out], hlt.snoc (by omega), ?_, ?_, hb.setCell (Nat.le_refl _) _⟩
            · exact congrArg (Value.int .u64) (show ((x : Int) - cy - y) / 9223372036854775808 = _ by omega)
            · have e1 := HI.out
              have e := borrow_step (y := y) (x := x) (v := x - cy - y) (cy' := 0) HF.out e1 (by omega)
              show _ = _
              rw [val_take_succ HX.out, val_take_succ HY.out]
              omega
            · have e := hbk.put32 i (x - cy - y)
              rw [set_zero HF.out (show n - i = (n - (i + 1)) + 1 by omega)] at e
              rw [show ((x - cy - y : Nat) : Int) = (x : Int) - cy - y by omega] at e
              exact e
          case measure => simp [intOf]; omega
        · go_wp2_with fail
          go_roundw
          case rel =>
            refine ⟨i + 1, 1, f ++ [x + 4294967296 - cy - y], by omega, by go_num, ?_, by omega, by simp [HF.out], hlt.snoc (by omega), ?_, ?_, hb.setCell (Nat.le_refl _) _⟩
            · exact congrArg (Value.int .u64) (show IntKind.u64.wrap (IntKind.u64.wrap ((x : Int) - cy) - y) / 9223372036854775808 = _ by rw [u64_sub, u64_neg _ (by omega) (by omega)]; omega)
            · have e1 := HI.out
              have e := borrow_step (y := y) (x := x) (v := x + 4294967296 - cy - y) (cy' := 1) HF.out e1 (by omega)
              show _ = _
              rw [val_take_succ HX.out, val_take_succ HY.out]
              omega
            · have e := hbk.put32 i (x + 4294967296 - cy - y)
              rw [set_zero HF.out (show n - i = (n - (i + 1)) + 1 by omega)] at e
              rw [show ((x + 4294967296 - cy - y : Nat) : Int) = IntKind.u64.wrap (IntKind.u64.wrap ((x : Int) - cy) - y) % 4294967296 by rw [u64_sub, u64_neg _ (by omega) (by omega)]; omega] at e
              exact e
          case measure => simp [intOf]; omega
      · by_cases hge : cy ≤ x
        · go_wp2_with fail
          go_roundw
          case rel =>
            refine ⟨i + 1, 0, f ++ [x - cy], by omega, by go_num, ?_, by omega, by simp [HF.out], hlt.snoc (by omega), ?_, ?_, hb.setCell (Nat.le_refl _) _⟩
            · exact congrArg (Value.int .u64) (show ((x : Int) - cy) / 9223372036854775808 = _ by omega)
            · have e1 := HI.out
              have e2 := k.len
              rw [val_take_all (xs := ys) (by omega)] at e1
              have e := borrow_step (y := 0) (x := x) (v := x - cy) (cy' := 0) HF.out e1 (by omega)
              show _ = _
              rw [val_take_succ HX.out, val_take_all (xs := ys) (by omega)]
              omega
            · have e := hbk.put32 i (x - cy)
              rw [set_zero HF.out (show n - i = (n - (i + 1)) + 1 by omega)] at e
              rw [show ((x - cy : Nat) : Int) = (x : Int) - cy by omega] at e
              exact e
          case measure => simp [intOf]; omega
        · go_wp2_with fail
          go_roundw
          case rel =>
            refine ⟨i + 1, 1, f ++ [x + 4294967296 - cy], by omega, by go_num, ?_, by omega, by simp [HF.out], hlt.snoc (by omega), ?_, ?_, hb.setCell (Nat.le_refl _) _⟩
            · exact congrArg (Value.int .u64) (show IntKind.u64.wrap ((x : Int) - cy) / 9223372036854775808 = _ by rw [u64_neg _ (by omega) (by omega)]; omega)
            · have e1 := HI.out
              have e2 := k.len
              rw [val_take_all (xs := ys) (by omega)] at e1
              have e := borrow_step (y := 0) (x := x) (v := x + 4294967296 - cy) (cy' := 1) HF.out e1 (by omega)
              show _ = _
              rw [val_take_succ HX.out, val_take_all (xs := ys) (by omega)]
              omega
            · have e := hbk.put32 i (x + 4294967296 - cy)
              rw [set_zero HF.out (show n - i = (n - (i + 1)) + 1 by omega)] at e
              rw [show ((x + 4294967296 - cy : Nat) : Int) = IntKind.u64.wrap ((x : Int) - cy) % 4294967296 by rw [u64_neg _ (by omega) (by omega)]; omega] at e
              exact e
          case measure => simp [intOf]; omega
    · obtain rfl : n = i := by omega
      rw [Nat.sub_self, List.replicate_zero, List.append_nil] at hbk
      have hdg := hbk.dig hlt (n := n) (c := n) hf (Nat.le_refl _)
      have HF := Lib.hid hf
      clear hf
      go_wp2_with fail
      refine (trim_gives _ _ _ _ _ hdg (by omega)).mono ?_
      rintro e w' ⟨⟨A1, m1, c1, zs, rfl, hd1, ht1, hv1⟩, rfl⟩
      have HV1 := Lib.hid hv1
      clear hv1
      go_wp2_with fail
      go_ret
      refine ⟨⟨_, _, _, _, rfl, hd1, ht1, ?_⟩, hb⟩
      rw [HV1.out]
      have e1 := HI.out
      have e2 := h.len
      have e3 := k.len
      rw [val_take_all (by omega), val_take_all (by omega)] at e1
      have := HLE.out
      have h2 := val_lt hlt
      rw [HF.out] at h2
      have h3 := val_lt h.lt
      rw [e2] at h3
      have : cy = 0 := by
        rcases Nat.lt_or_ge 0 cy with h0 | h0
        · obtain rfl : cy = 1 := by omega
          omega
        · omega
      subst this
      omega

set_option maxHeartbeats 400000 in
theorem compare_any (A : Option Addr) (n c : Nat) (xs : List Nat) (B : Option Addr) (m d : Nat) (ys : List Nat) (w : World) (h : Dig w A n c xs) (k : Dig w B m d ys) (hn : n ≤ 1000000) (hm : m ≤ 1000000) (tx : Trim xs) (ty : Trim ys) :
    Calls Tryz.prog 132 #[.slice A n c, .slice B m d] w fun e w' => e = .returned (.int .i64 (cmpI (val xs) (val ys))) ∧ Below w.heap.size w w' := by
  have lx := h.len
  have ly := k.len
  have LX := Lib.hid lx
  have LY := Lib.hid ly
  rcases Nat.lt_trichotomy n m with hlt | heq | hgt
  · have hv := ty.lt_of_len h.lt (by omega : xs.length < ys.length)
    clear lx ly
    have hb : ((n : Int) != (m : Int)) = true := by simp; omega
    go_enter Tryz.func132, Tryz.ntmps132
    go_wp2_with fail
    go_ret
    exact ⟨by rw [cmpI_lt hv]; rfl, Below.refl _ _⟩
  · subst heq
    clear lx ly
    go_enter Tryz.func132, Tryz.ntmps132
    go_wp2_with fail
    go_loopw [5] (fun s5 wr => ∃ i : Nat, i ≤ n ∧ s5 = .int .i64 ((i : Int) - 1) ∧ Hid (xs.drop i = ys.drop i) ∧ Below w.heap.size w wr) (fun s5 _ => (intOf s5 + 1).toNat)
    case atStart => exact ⟨n, Nat.le_refl _, rfl, by show _ = _; rw [List.drop_of_length_le (by rw [LX.out]; omega), List.drop_of_length_le (by rw [LY.out]; omega)], Below.refl _ _⟩
    case round =>
      obtain ⟨i, hi, rfl, HD, hb⟩ := hrel
      by_cases h0 : 0 < i
      · obtain ⟨b, o, x, rfl, hx, hxl, hxc⟩ := (h.below hb).get (k := i - 1) (by omega)
        obtain ⟨b2, o2, y, rfl, hy, hyl, hyc⟩ := (k.below hb).get (k := i - 1) (by omega)
        have HX := Lib.hid hx
        have HY := Lib.hid hy
        clear hx hy
        rcases Nat.lt_trichotomy x y with c1 | c1 | c1
        · have hne : ((x : Int) != (y : Int)) = true := by simp; omega
          go_wp2_with fail
          go_quiet (fail)
          go_wp2_with fail
          go_quiet (fail)
          go_wp2_with fail
          go_ret
          have hv := val_lt_at HX.out HY.out (by rw [show i - 1 + 1 = i by omega]; exact HD.out) h.lt c1
          exact ⟨by rw [cmpI_lt hv]; rfl, below_drewN (below_drewN hb _) _⟩
        · subst c1
          go_wp2_with fail
          go_quiet (fail)
          go_wp2_with fail
          go_roundw
          case rel =>
            refine ⟨i - 1, by omega, by go_num, ?_, below_drewN hb _⟩
            show _ = _
            rw [drop_cons HX.out, drop_cons HY.out, show i - 1 + 1 = i by omega, HD.out]
          case measure => simp [intOf]; omega
        · have hne : ((x : Int) != (y : Int)) = true := by simp; omega
          go_wp2_with fail
          go_quiet (fail)
          go_wp2_with fail
          go_quiet (fail)
          go_wp2_with fail
          go_ret
          have hv := val_lt_at HY.out HX.out (by rw [show i - 1 + 1 = i by omega]; exact HD.out.symm) k.lt c1
          exact ⟨by rw [cmpI_gt hv]; rfl, below_drewN (below_drewN hb _) _⟩
      · obtain rfl : i = 0 := by omega
        go_wp2_with fail
        go_ret
        have hv : xs = ys := HD.out
        exact ⟨by rw [cmpI_eq (by rw [hv])]; rfl, hb⟩
  · have hv := tx.lt_of_len k.lt (by omega : ys.length < xs.length)
    clear lx ly
    have hb : ((n : Int) != (m : Int)) = true := by simp; omega
    go_enter Tryz.func132, Tryz.ntmps132
    go_wp2_with fail
    go_ret
    exact ⟨by rw [cmpI_gt hv]; rfl, Below.refl _ _⟩

end Go.Proofs.YtebgmlbbilcbbaaGreatDoor
namespace Go.Proofs.YtebgmlbbilcbbaaGreatDoor
open Go.RowKit

theorem size_u32 : (Tryz.prog.info? 140).map (·.size) = some 1 := by kernel_rfl

/-- What a function that makes n digits returns. -/
def GivesN (w : World) (n v : Nat) (e : Ending) : Prop := ∃ A c zs, e = .returned (.slice A n c) ∧ Dig w A n c zs ∧ val zs = v

set_option maxHeartbeats 400000 in
theorem split_any (v : Nat) (w : World) (hv : v < 18446744073709551616) :
    Calls Tryz.prog 190 #[.int .u64 (v : Int)] w fun e w' => Gives w' v e ∧ Below w.heap.size w w' := by
  go_enter Tryz.func190, Tryz.ntmps190
  go_wp2_with fail
  have hl : Lt32 [v % 4294967296, v / 4294967296] := (Lt32.one (by omega)).snoc (xs := [v % 4294967296]) (by omega)
  have hbk : Blk (w.alloc (Obj.cells #[Value.int IntKind.u32 ((v : Int) % 4294967296), Value.int IntKind.u32 ((v : Int) / 4294967296)] 140)) w.heap.size 140 (u32s [v % 4294967296, v / 4294967296]) := Blk.new _ _ _
  refine (trim_gives _ _ _ _ _ (hbk.dig hl (n := 2) (c := 2) rfl (Nat.le_refl _)) (by omega)).mono ?_
  rintro e w' ⟨⟨A1, m1, c1, zs, rfl, hd1, ht1, hv1⟩, rfl⟩
  have HV1 := Lib.hid hv1
  clear hv1
  go_wp2_with fail
  go_ret
  refine ⟨⟨_, _, _, _, rfl, hd1, ht1, ?_⟩, (Below.refl _ _).alloc (Nat.le_refl _) _⟩
  rw [HV1.out]
  simp only [val]
  omega

set_option maxHeartbeats 400000 in
theorem join_any (A : Option Addr) (n c : Nat) (xs : List Nat) (w : World) (h : Dig w A n c xs) (hn : n ≤ 2) :
    Calls Tryz.prog 189 #[.slice A n c] w fun e w' => e = .returned (.int .u64 (val xs : Int)) ∧ w = w' := by
  go_enter Tryz.func189, Tryz.ntmps189
  go_wp2_with fail
  go_loop [3, 8] (fun s3 s8 => ∃ i : Nat, i ≤ n ∧ s8 = .int .i64 (i : Int) ∧ ∃ v : Nat, s3 = .int .u64 (v : Int) ∧ Hid (v = val (xs.take i))) (fun _ s8 => n - (intOf s8).toNat)
  case atStart => exact ⟨0, by omega, rfl, 0, rfl, rfl⟩
  case round =>
    obtain ⟨i, hi, rfl, v, rfl, HV⟩ := hrel
    by_cases hin : i < n
    · obtain ⟨b, o, x, rfl, hx, hxl, hxc⟩ := h.get hin
      have HX := Lib.hid hx
      clear hx
      rcases (show i = 0 ∨ i = 1 by omega) with rfl | rfl
      · obtain rfl : v = 0 := HV.out
        rw [Nat.add_zero] at hxc
        have hor : bits .or .u64 0 (x : Int) = (x : Int) := by have := u64_or_nat 0 x (by omega) (by omega); simpa using this
        go_wp2_with fail
        go_round
        case rel => exact ⟨1, by omega, rfl, x, rfl, by show _ = _; rw [val_take_succ HX.out]; simp [val, P32]⟩
        case measure => simp [intOf]; omega
      · have hv : v < 4294967296 := by
          have h1 := val_lt (h.lt.take 1)
          have h2 := h.len
          rw [HV.out]
          rw [List.length_take, Nat.min_eq_left (by omega)] at h1
          exact h1
        have hor := u64_or_lo x v hxl hv
        go_wp2_with fail
        go_round
        case rel => exact ⟨2, by omega, rfl, v + x * 4294967296, by go_num, by show _ = _; rw [val_take_succ HX.out, ← HV.out]; simp [P32]; omega⟩
        case measure => simp [intOf]; omega
    · go_wp2_with fail
      go_ret
      have hv := HV.out
      rw [val_take_all (by have := h.len; omega)] at hv
      exact ⟨by rw [hv]; rfl, rfl⟩

/-- copy into a block that is known whole. -/
theorem run_copy_u32 (w : World) (g m cap : Nat) (l : List Nat) (hg : Blk w g 140 (u32s l)) (hl : l.length = m) (A : Option Addr) (n c : Nat) (xs : List Nat) (h : Dig w A n c xs) (hn : n ≤ m) :
    ∃ w', (Builtin.copy_ #[153, 153] 3 #[.slice (some ⟨g, 0, none⟩) m cap, .slice A n c]).run Tryz.prog w = .ok (.int .i64 (n : Int)) w' ∧ Blk w' g 140 (u32s (xs ++ l.drop n)) ∧ ∀ B, B ≤ g → Below B w w' := by
  have hlx := h.len
  rcases Nat.eq_zero_or_pos n with h0 | h0
  · subst h0
    obtain rfl : xs = [] := List.eq_nil_of_length_eq_zero hlx
    exact ⟨w, run_copy_none (P := Tryz.prog) w 153 153 3 140 (some ⟨g, 0, none⟩) A m cap 0 c Tryz.underlying153 size_u32 (by simp), by simpa using hg, fun B _ => Below.refl _ _⟩
  · obtain ⟨b, o, rfl, hc⟩ := h.at_ h0
    have hr := run_copy_row (P := Tryz.prog) w 153 153 3 140 g 0 m cap ⟨b, o, none⟩ n c (u32s l) 140 (xs.map fun d : Nat => Value.int .u32 (d : Int)) Tryz.underlying153 size_u32 hg
      (by rw [List.length_map, hlx]; exact (Nat.min_eq_left hn).symm) (fun j v hv => by
        rw [List.getElem?_map] at hv
        obtain ⟨d, hd, rfl⟩ := Option.map_eq_some_iff.1 hv
        rw [add_addr]
        exact hc j d hd) (by rw [u32s_size]; simp; omega) (fun v hv => by
        simp only [List.mem_map] at hv
        obtain ⟨d, _, rfl⟩ := hv
        rfl)
    have e : ((u32s l).toList.take 0 ++ (xs.map fun d : Nat => Value.int .u32 (d : Int)) ++ (u32s l).toList.drop (0 + (xs.map fun d : Nat => Value.int .u32 (d : Int)).length)).toArray = u32s (xs ++ l.drop n) := by
      simp [u32s, hlx]
    rw [e] at hr
    refine ⟨_, hr.trans (by simp [hlx, goInt]), setRow_heap w g _ _ _ _ hg, fun B hB => below_setRow (Below.refl _ _) hB _⟩

set_option maxHeartbeats 400000 in
theorem pad_any (A : Option Addr) (n c m : Nat) (xs : List Nat) (w : World) (h : Dig w A n c xs) (hn : n ≤ m) (hm : m ≤ 1000000) :
    Calls Tryz.prog 199 #[.slice A n c, .int .i64 (m : Int)] w fun e w' => GivesN w' m (val xs) e ∧ Below w.heap.size w w' := by
  have hmk := make_u32 m (by omega)
  have hl := h.len
  obtain ⟨w1, hcp, hbk, hb⟩ := run_copy_u32 (w.alloc (.cells (u32s (List.replicate m 0)) 140)) w.heap.size m m _ (Blk.new _ _ _) (by simp) A n c xs (h.below ((Below.refl _ _).alloc (Nat.le_refl _) _)) hn
  have HL := Lib.hid hl
  have HB := Lib.hid hb
  clear hl hb
  go_enter Tryz.func199, Tryz.ntmps199
  go_wp2_with fail
  go_ret
  refine ⟨⟨_, _, _, rfl, hbk.dig (h.lt.append ?_) ?_ (Nat.le_refl _), ?_⟩, ((Below.refl _ _).alloc (Nat.le_refl _) _).trans (HB.out _ (Nat.le_refl _))⟩
  · rw [List.drop_replicate]; exact Lt32.zeros _
  · have := HL.out; simp; omega
  · rw [val_append, List.drop_replicate, val_zeros]; simp

end Go.Proofs.YtebgmlbbilcbbaaGreatDoor
namespace Go.Proofs.YtebgmlbbilcbbaaGreatDoor
open Go.RowKit

set_option maxHeartbeats 400000 in
theorem divideDigit_any (A : Option Addr) (n c : Nat) (xs : List Nat) (y : Nat) (w : World) (h : Dig w A n c xs) (hn : n ≤ 1000000) (hy : 0 < y) (hy2 : y < 4294967296) :
    Calls Tryz.prog 140 #[.slice A n c, .int .u32 (y : Int)] w fun e w' => ∃ A' m c' zs, e = .returned (.tuple #[.slice A' m c', .int .u32 ((val xs % y : Nat) : Int)]) ∧ Dig w' A' m c' zs ∧ Trim zs ∧ val zs = val xs / y ∧ Below w.heap.size w w' := by
  have hmk := make_u32 n (by omega)
  go_enter Tryz.func140, Tryz.ntmps140
  go_wp2_with fail
  go_loopw [7, 8] (fun s7 s8 wr => ∃ (i r : Nat) (qs : List Nat), i ≤ n ∧ s8 = .int .i64 ((i : Int) - 1) ∧ s7 = .int .u64 (r : Int) ∧ r < y ∧ qs.length = n ∧ Lt32 qs ∧ (∀ j d : Nat, j < i → qs[j]? = some d → d = 0) ∧ Hid (val (xs.drop i) = val (qs.drop i) * y + r) ∧ Blk wr w.heap.size 140 (u32s qs) ∧ Below w.heap.size w wr) (fun _ s8 _ => (intOf s8 + 1).toNat)
  case atStart => exact ⟨n, 0, List.replicate n 0, Nat.le_refl _, rfl, rfl, hy, by simp, Lt32.zeros _, (fun j d _ hd => by rw [List.getElem?_replicate] at hd; split at hd <;> simp_all), by show _ = _; rw [List.drop_of_length_le (by rw [h.len]; omega), List.drop_of_length_le (by simp)]; simp [val], Blk.new _ _ _, (Below.refl _ _).alloc (Nat.le_refl _) _⟩
  case round =>
    obtain ⟨i, r, qs, hi, rfl, rfl, hr, hq, hlt, hz, HI, hbk, hb⟩ := hrel
    have HQ := Lib.hid hq
    have HZ := Lib.hid hz
    clear hz hq
    by_cases h0 : 0 < i
    · obtain ⟨b, o, x, rfl, hx, hxl, hxc⟩ := (h.below hb).get (k := i - 1) (by omega)
      have HX := Lib.hid hx
      clear hx
      have hzc : ∃ z : Nat, wr.cell? ⟨w.heap.size, i - 1, none⟩ = some (.int .u32 (z : Int)) := by
        have hl : i - 1 < qs.length := by rw [HQ.out]; omega
        exact ⟨_, hbk.u32 (List.getElem?_eq_getElem hl)⟩
      obtain ⟨z, hzc⟩ := hzc
      have hfz := hbk.frozen (i - 1)
      have hor := u64_or_hi r x (by omega) hxl
      have hql : (r * 4294967296 + x) / y < 4294967296 := by
        apply Nat.div_lt_of_lt_mul
        have : (r + 1) * 4294967296 ≤ y * 4294967296 := Nat.mul_le_mul_right _ hr
        omega
      have hrl : (r * 4294967296 + x) % y < y := Nat.mod_lt _ hy
      obtain ⟨q, hq⟩ : ∃ q, q = (r * 4294967296 + x) / y := ⟨_, rfl⟩
      obtain ⟨t, ht⟩ : ∃ t, t = (r * 4294967296 + x) % y := ⟨_, rfl⟩
      rw [← hq] at hql
      rw [← ht] at hrl
      have hq2 : ((r : Int) * 4294967296 + x) / y = (q : Int) := by rw [hq]; simp
      have ht2 : ((r : Int) * 4294967296 + x) % y = (t : Int) := by rw [ht]; simp
      have HQ2 := Lib.hid hq
      have HT2 := Lib.hid ht
      clear hq ht
      go_wp2_with fail
      go_roundw
      case rel =>
        have hl : i - 1 < qs.length := by rw [HQ.out]; omega
        refine ⟨i - 1, t, qs.set (i - 1) q, by omega, by go_num, by rw [ht2], hrl, by simp [HQ.out], hlt.set hql, (fun j d hj hd => ?_), ?_, hbk.put32 (i - 1) q, hb.setCell (Nat.le_refl _) _⟩
        · rw [List.getElem?_set_ne (by omega)] at hd
          exact HZ.out j d (by omega) hd
        · show _ = _
          rw [set_drop hl, drop_cons HX.out, val, val, show i - 1 + 1 = i by omega, HQ2.out, HT2.out]
          exact digit_step HI.out
      case measure => simp [intOf]; omega
    · obtain rfl : i = 0 := by omega
      have hdg := hbk.dig hlt (n := n) (c := n) HQ.out (Nat.le_refl _)
      go_wp2_with fail
      refine (trim_gives _ _ _ _ _ hdg (by omega)).mono ?_
      rintro e w' ⟨⟨A1, m1, c1, zs, rfl, hd1, ht1, hv1⟩, rfl⟩
      have HV1 := Lib.hid hv1
      clear hv1
      go_wp2_with fail
      go_ret2
      have e := HI.out
      rw [List.drop_zero, List.drop_zero] at e
      have e1 : val xs / y = val qs := by rw [e, Nat.mul_comm, Nat.mul_add_div hy, Nat.div_eq_of_lt hr]; omega
      have e2 : val xs % y = r := by rw [e, Nat.mul_comm, Nat.mul_add_mod, Nat.mod_eq_of_lt hr]
      refine ⟨_, _, _, _, ?_, hd1, ht1, by rw [HV1.out, e1], hb⟩
      rw [e2]
      rfl

set_option maxHeartbeats 400000 in
theorem shiftLeft_any (A : Option Addr) (n c : Nat) (xs : List Nat) (k : Nat) (w : World) (h : Dig w A n c xs) (hn : n ≤ 1000000) (hk : k ≤ 31) :
    Calls Tryz.prog 192 #[.slice A n c, .int .i64 (k : Int)] w fun e w' => ∃ zs, e = .returned (.slice (some ⟨w.heap.size, 0, none⟩) (n + 1) (n + 1)) ∧ Blk w' w.heap.size 140 (u32s zs) ∧ zs.length = n + 1 ∧ Lt32 zs ∧ val zs = val xs * 2 ^ k ∧ Below w.heap.size w w' := by
  have hmk := make_u32 (n + 1) (by omega)
  rw [show ((n + 1 : Nat) : Int) = (n : Int) + 1 by omega] at hmk
  go_enter Tryz.func192, Tryz.ntmps192
  go_wp2_with fail
  go_loopw [15] (fun s15 wr => ∃ (i cy : Nat) (f : List Nat), i ≤ n ∧ s15 = .int .i64 (i : Int) ∧ cy < 2 ^ k ∧ f.length = i ∧ Lt32 f ∧ Hid (val f + P32 i * cy = val (xs.take i) * 2 ^ k) ∧ Blk wr w.heap.size 140 (u32s (f ++ cy :: List.replicate (n - i) 0)) ∧ Below w.heap.size w wr) (fun s15 _ => n - (intOf s15).toNat)
  case atStart => exact ⟨0, 0, [], by omega, rfl, Nat.pow_pos (by omega), rfl, Lt32.nil, by simp [Hid, val], Blk.new _ _ _, (Below.refl _ _).alloc (Nat.le_refl _) _⟩
  case round =>
    obtain ⟨i, cy, f, hi, rfl, hcy, hf, hlt, HI, hbk, hb⟩ := hrel
    by_cases hin : i < n
    · obtain ⟨b, o, x, rfl, hx, hxl, hxc⟩ := (h.below hb).get hin
      have HX := Lib.hid hx
      have HF := Lib.hid hf
      have HC := Lib.hid hcy
      clear hx hf hcy
      have hz : wr.cell? ⟨w.heap.size, i, none⟩ = some (.int .u32 (cy : Int)) := hbk.u32 (by rw [List.getElem?_append_right (by rw [HF.out]; omega), HF.out]; simp)
      have hz2 : wr.cell? ⟨w.heap.size, i + 1, none⟩ = some (.int .u32 ((0 : Nat) : Int)) := hbk.u32 (by rw [List.getElem?_append_right (by rw [HF.out]; omega), HF.out, show i + 1 - i = 0 + 1 by omega, List.getElem?_cons_succ, List.getElem?_replicate, if_pos (by omega)])
      have hfz := hbk.frozen i
      have hfz2 := hbk.frozen (i + 1)
      have hp := pow_le k hk
      obtain ⟨t, ht⟩ : ∃ t, t = x * 2 ^ k := ⟨_, rfl⟩
      have htl : t < 18446744073709551616 := by
        have : x * 2 ^ k ≤ x * 2147483648 := Nat.mul_le_mul_left _ hp
        omega
      have hw : IntKind.u64.wrap ((x : Int) * 2 ^ k) = (t : Int) := by
        have e : ((x : Int) * 2 ^ k) = (t : Int) := by rw [ht]; simp
        rw [e, IntWalk.u64_in _ (by omega)]
      have hth : t / 4294967296 < 2 ^ k := by rw [ht]; exact shl_high hxl
      have hcl : cy + t % 4294967296 < 4294967296 := by
        rw [ht, shl_parts x k (by omega)]
        have h1 : x % 2 ^ (32 - k) + 1 ≤ 2 ^ (32 - k) := Nat.mod_lt _ (Nat.pow_pos (by omega))
        have h2 : (x % 2 ^ (32 - k) + 1) * 2 ^ k ≤ 2 ^ (32 - k) * 2 ^ k := Nat.mul_le_mul_right _ h1
        rw [← Nat.pow_add, show 32 - k + k = 32 by omega, Nat.add_mul, Nat.one_mul] at h2
        have := HC.out
        omega
      have hor : bits .or .u32 (cy : Int) ((t : Int) % 4294967296) = ((cy + t % 4294967296 : Nat) : Int) := by
        have e := u32_or_nat cy (t % 4294967296) (by omega) (by omega)
        rw [ht, shl_parts x k (by omega), or_lo _ _ _ HC.out, ← shl_parts x k (by omega), ← ht] at e
        rw [← e]
        rfl
      have HT := Lib.hid ht
      have HTH := Lib.hid hth
      clear ht hth
      obtain ⟨s, hs⟩ : ∃ s, s = cy + t % 4294967296 := ⟨_, rfl⟩
      rw [← hs] at hor hcl
      have HS := Lib.hid hs
      clear hs hp
      go_wp2_with fail
      go_roundw
      case rel =>
        refine ⟨i + 1, t / 4294967296, f ++ [s], by omega, by go_num, HTH.out, by simp [HF.out], hlt.snoc hcl, ?_, ?_, (hb.setCell (Nat.le_refl _) _).setCell (Nat.le_refl _) _⟩
        · have e := HI.out
          have e1 : P32 i * s + P32 (i + 1) * (t / 4294967296) = P32 i * cy + P32 i * x * 2 ^ k := by
            rw [HS.out, P32_succ, Nat.mul_comm 4294967296 (P32 i), Nat.mul_assoc, Nat.mul_assoc, ← HT.out, ← Nat.mul_add, ← Nat.mul_add]
            congr 1
            omega
          show _ = _
          rw [val_take_succ HX.out, val_snoc, HF.out, Nat.add_mul]
          omega
        · have e := (hbk.put32 i s).put32 (i + 1) (t / 4294967296)
          have e2 : ((f ++ cy :: List.replicate (n - i) 0).set i s).set (i + 1) (t / 4294967296) = (f ++ [s]) ++ (t / 4294967296) :: List.replicate (n - (i + 1)) 0 := by
            rw [← HF.out, set_front, HF.out, show n - i = (n - (i + 1)) + 1 by omega, List.replicate_succ]
            have := set_front (f ++ [s]) (List.replicate (n - (i + 1)) 0) 0 (t / 4294967296)
            rw [List.length_append, List.length_singleton, HF.out] at this
            rw [this, List.append_assoc]
            rfl
          rw [e2] at e
          rw [show ((t / 4294967296 : Nat) : Int) = (t : Int) / 4294967296 by omega] at e
          exact e
      case measure => simp [intOf]; omega
    · obtain rfl : n = i := by omega
      go_wp2_with fail
      go_ret
      have e := HI.out
      rw [val_take_all (by rw [h.len]; omega)] at e
      rw [Nat.sub_self, List.replicate_zero] at hbk
      refine ⟨f ++ [cy], rfl, hbk, by simp [hf], hlt.snoc ?_, by rw [val_snoc, hf]; exact e, hb⟩
      have := pow_le k hk
      omega

set_option maxHeartbeats 400000 in
theorem shiftRight_any (A : Option Addr) (n c : Nat) (xs : List Nat) (k : Nat) (w : World) (h : Dig w A n c xs) (hn : n ≤ 1000000) (hk : k ≤ 31) :
    Calls Tryz.prog 196 #[.slice A n c, .int .i64 (k : Int)] w fun e w' => ∃ A' c' zs, e = .returned (.slice A' n c') ∧ Dig w' A' n c' zs ∧ val zs = val xs / 2 ^ k ∧ Below w.heap.size w w' := by
  have hmk := make_u32 n (by omega)
  go_enter Tryz.func196, Tryz.ntmps196
  go_wp2_with fail
  go_loopw [13] (fun s13 wr => ∃ (i : Nat) (f : List Nat), i ≤ n ∧ s13 = .int .i64 (i : Int) ∧ f.length = i ∧ Lt32 f ∧ Hid (val f * 2 ^ k + (xs.getD 0 0) % 2 ^ k = val (xs.take i) + P32 i * (xs.getD i 0 % 2 ^ k)) ∧ Blk wr w.heap.size 140 (u32s (f ++ List.replicate (n - i) 0)) ∧ Below w.heap.size w wr) (fun s13 _ => n - (intOf s13).toNat)
  case atStart => exact ⟨0, [], by omega, rfl, rfl, Lt32.nil, by simp [Hid, val, P32], Blk.new _ _ _, (Below.refl _ _).alloc (Nat.le_refl _) _⟩
  case round =>
    obtain ⟨i, f, hi, rfl, hf, hlt, HI, hbk, hb⟩ := hrel
    by_cases hin : i < n
    · obtain ⟨b, o, x, rfl, hx, hxl, hxc⟩ := (h.below hb).get hin
      have HX := Lib.hid hx
      have HF := Lib.hid hf
      clear hx hf
      have hz : wr.cell? ⟨w.heap.size, i, none⟩ = some (.int .u32 ((0 : Nat) : Int)) := hbk.u32 (get_front HF.out (by omega))
      have hfz := hbk.frozen i
      by_cases hi2 : i + 1 < n
      · obtain ⟨b2, o2, y, hab, hy, hyl, hyc⟩ := (h.below hb).get hi2
        cases hab
        have HY := Lib.hid hy
        clear hy
        have hor := u64_or_lo y x hyl hxl
        go_wp2_with fail
        go_roundw
        case rel =>
          refine ⟨i + 1, f ++ [(x + y * 4294967296) / 2 ^ k % 4294967296], by omega, by go_num, by simp [HF.out], hlt.snoc (by omega), ?_, ?_, hb.setCell (Nat.le_refl _) _⟩
          · show _ = _
            exact shr_step HF.out HI.out HX.out (by rw [List.getD_eq_getElem?_getD, HY.out]; rfl) hk hxl
          · have e := hbk.put32 i ((x + y * 4294967296) / 2 ^ k % 4294967296)
            rw [set_zero HF.out (show n - i = (n - (i + 1)) + 1 by omega)] at e
            simpa using e
        case measure => simp [intOf]; omega
      · go_wp2_with fail
        go_roundw
        case rel =>
          refine ⟨i + 1, f ++ [(x + 0 * 4294967296) / 2 ^ k % 4294967296], by omega, by go_num, by simp [HF.out], hlt.snoc (by omega), ?_, ?_, hb.setCell (Nat.le_refl _) _⟩
          · show _ = _
            exact shr_step HF.out HI.out HX.out (by rw [List.getD_eq_getElem?_getD, List.getElem?_eq_none (by rw [h.len]; omega)]; rfl) hk hxl
          · have e := hbk.put32 i ((x + 0 * 4294967296) / 2 ^ k % 4294967296)
            rw [set_zero HF.out (show n - i = (n - (i + 1)) + 1 by omega)] at e
            simpa using e
        case measure => simp [intOf]; omega
    · obtain rfl : n = i := by omega
      rw [Nat.sub_self, List.replicate_zero, List.append_nil] at hbk
      go_wp2_with fail
      go_ret
      refine ⟨_, _, _, rfl, hbk.dig hlt hf (Nat.le_refl _), ?_, hb⟩
      have e := HI.out
      rw [val_take_all (by rw [h.len]; omega), List.getD_eq_getElem?_getD (i := n), List.getElem?_eq_none (by rw [h.len]; omega)] at e
      have hp : 0 < 2 ^ k := Nat.pow_pos (by omega)
      have hm := Nat.mod_lt (xs.getD 0 0) hp
      have e2 : val xs = 2 ^ k * val f + xs.getD 0 0 % 2 ^ k := by
        rw [Nat.mul_comm]
        simp at e ⊢
        omega
      rw [e2, Nat.mul_add_div hp, Nat.div_eq_of_lt hm]
      omega

end Go.Proofs.YtebgmlbbilcbbaaGreatDoor
