/- The law LockTexts: texts of commitments read back. -/
import Derived.Test.YtebgmlbbilcbbaaGreatDoorLockI
import Derived.Test.YtebgmlbbilcbbaaGreatDoorPlainRead
import Derived.Test.YtebgmlbbilcbbaaGreatDoorShelfSp
import Derived.BigQuiet
import Derived.Test.YtebgmlbbilcbbaaGreatDoorLockL
import Derived.Test.YtebgmlbbilcbbaaGreatDoorDelU
import Derived.Test.YtebgmlbbilcbbaaGreatDoorDelP
import Derived.Test.YtebgmlbbilcbbaaGreatDoorLockP
import Derived.Test.YtebgmlbbilcbbaaGreatDoorModQ
import Derived.Deep.CutBlock
import Derived.Test.YtebgmlbbilcbbaaGreatDoorDelCards
import Derived.ChangeArms

/- Texts of commitments read back: hexadecimal forms. -/
namespace Go.Proofs.YtebgmlbbilcbbaaGreatDoor
open Go.RowKit

/-- The place of a byte among the digits, or -1. -/
def hexIx (b : UInt8) : Int := Lib.indexByte [48, 49, 50, 51, 52, 53, 54, 55, 56, 57, 97, 98, 99, 100, 101, 102] b
theorem hexIx_cases (b : UInt8) : (hexIx b = -1 ∧ ∀ n, n < 16 → hexD n ≠ b) ∨ ∃ n : Nat, n < 16 ∧ hexIx b = (n : Int) ∧ hexD n = b := by
  have h : ∀ b : Fin 256, (hexIx (UInt8.ofNat b.val) = -1 ∧ ∀ n : Fin 16, hexD n.val ≠ UInt8.ofNat b.val) ∨ ∃ n : Fin 16, hexIx (UInt8.ofNat b.val) = (n.val : Int) ∧ hexD n.val = UInt8.ofNat b.val := by decide +kernel
  have hb := h ⟨b.toNat, UInt8.toNat_lt b⟩
  rw [show UInt8.ofNat b.toNat = b from by simp] at hb
  rcases hb with ⟨h1, h2⟩ | ⟨n, h1, h2⟩
  · exact .inl ⟨h1, fun n hn => h2 ⟨n, hn⟩⟩
  · exact .inr ⟨n.val, n.isLt, h1, h2⟩
theorem index_hex (b : UInt8) (W : World) : Calls Tryz.prog 162 #[.string ⟨#[48, 49, 50, 51, 52, 53, 54, 55, 56, 57, 97, 98, 99, 100, 101, 102]⟩, .int .u8 (b.toNat : Int)] W fun e w' => e = .returned (.int .i64 (hexIx b)) ∧ w' = W := by
  refine (Tryz.strings_IndexByte ⟨#[48, 49, 50, 51, 52, 53, 54, 55, 56, 57, 97, 98, 99, 100, 101, 102]⟩ (b.toNat : Int) W).mono ?_
  rintro e w' ⟨rfl, rfl⟩
  rw [Int.toNat_natCast, show b.toNat.toUInt8 = b from by simp]
  exact ⟨rfl, rfl⟩
theorem or_nib {x y : Nat} (hx : x < 16) (hy : y < 16) : bits .or .i64 ((x : Int) * 16) (y : Int) = (x : Int) * 16 + (y : Int) := by
  have h : ∀ x y : Fin 16, bits .or .i64 ((x.val : Int) * 16) (y.val : Int) = (x.val : Int) * 16 + (y.val : Int) := by decide +kernel
  exact h ⟨x, hx⟩ ⟨y, hy⟩
theorem or_nib8 {x y : Nat} (hx : x < 16) (hy : y < 16) : bits .or .u8 ((x : Int) * 16) (y : Int) = (x : Int) * 16 + (y : Int) := by
  have h : ∀ x y : Fin 16, bits .or .u8 ((x.val : Int) * 16) (y.val : Int) = (x.val : Int) * 16 + (y.val : Int) := by decide +kernel
  exact h ⟨x, hx⟩ ⟨y, hy⟩
/-- The byte of two digits. -/
theorem nib_byte {x y : Nat} (hx : x < 16) (hy : y < 16) : ((UInt8.ofNat (16 * x + y)).toNat : Int) = 16 * (x : Int) + (y : Int) := by
  rw [UInt8.toNat_ofNat']; omega

/-- How a hexadecimal form is read: what unhex and Unhex return. -/
def Unhexed (s : ByteArray) (w : World) (e : Ending) (w' : World) : Prop :=
  ((∃ y : List UInt8, s.data.toList = hexL y ∧ e = .returned (.tuple #[.string (strB y), .bool true])) ∨ ((∀ y, s.data.toList ≠ hexL y) ∧ ∃ x : ByteArray, e = .returned (.tuple #[.string x, .bool false]))) ∧ Below w.heap.size w w'

/-- The place of a byte among the first digits, as the reference looks for it. -/
def hexPart (b : UInt8) : Nat → Int
  | 0 => -1
  | k + 1 => if hexD k = b then (k : Int) else hexPart b k
theorem hexPart_all (b : UInt8) : hexPart b 16 = hexIx b := by
  have h : ∀ b : Fin 256, hexPart (UInt8.ofNat b.val) 16 = hexIx (UInt8.ofNat b.val) := by decide +kernel
  have hb := h ⟨b.toNat, UInt8.toNat_lt b⟩
  rwa [show UInt8.ofNat b.toNat = b from by simp] at hb

/-- The bytes of a hash while it is read: those that are whole, the half one, and zeros. -/
def hst (done : List UInt8) (x : UInt8) : List UInt8 := (done ++ x :: List.replicate 31 0).take 32
theorem hst_len (done : List UInt8) (x : UInt8) : (hst done x).length = 32 := by
  unfold hst
  rw [List.length_take, List.length_append, List.length_cons, List.length_replicate]; omega
theorem hst_get {done : List UInt8} {m : Nat} (hd : done.length = m) (hm : m < 32) (x : UInt8) : (hst done x)[m]? = some x := by
  unfold hst
  rw [List.getElem?_take_of_lt hm, List.getElem?_append_right (by omega), hd, Nat.sub_self]; rfl
theorem hst_set {done : List UInt8} {m : Nat} (hd : done.length = m) (_hm : m < 32) (x y : UInt8) : (hst done x).set m y = hst done y := by
  unfold hst
  rw [← List.take_set, List.set_append_right _ _ (by omega), hd, Nat.sub_self, List.set_cons_zero]
theorem hst_next {done : List UInt8} (_hm : done.length < 32) (y : UInt8) : hst (done ++ [y]) 0 = hst done y := by
  unfold hst
  rw [List.append_assoc, List.singleton_append, show (0 : UInt8) :: List.replicate 31 0 = List.replicate 31 0 ++ [0] from by decide, ← List.cons_append, ← List.append_assoc, List.take_append_of_le_length (by simp)]
theorem hst_zero : hst [] 0 = List.replicate 32 0 := by decide
theorem hst_full {done : List UInt8} (hd : done.length = 32) (x : UInt8) : hst done x = done := by
  unfold hst
  rw [List.take_append_of_le_length (by omega), List.take_of_length_le (by omega)]

/-- How the hexadecimal form of a hash is read: what Read of digest and of the reference return. -/
def HashRead (s : ByteArray) (w : World) (e : Ending) (w' : World) : Prop :=
  ((∃ y : List UInt8, y.length = 32 ∧ s.data.toList = hexL y ∧ e = .returned (.tuple #[.agg (u8a y), .bool true])) ∨ ((∀ y : List UInt8, y.length = 32 → s.data.toList ≠ hexL y) ∧ e = .returned (.tuple #[.agg (u8a zero32), .bool false]))) ∧ Below w.heap.size w w'

theorem byte_cell {z : Int} {b : UInt8} (h : z = (b.toNat : Int)) : #[Value.int .u8 z] = (u8l [b]).toArray := by rw [h]; rfl

set_option maxRecDepth 100000 in
set_option maxHeartbeats 2000000 in
theorem unhex_any (s : ByteArray) (hs : s.size ≤ 1000) (w : World) : Calls Tryz.prog 122 #[.string s] w fun e w' => Unhexed s w e w' := by
  unfold Unhexed
  obtain ⟨L, hL⟩ : ∃ L, L = s.data.toList := ⟨_, rfl⟩
  have hLl : L.length = s.size := by rw [hL, size_len]
  rw [← hL]
  have HL := Lib.hid hL
  clear hL
  by_cases hpar : s.size % 2 = 0
  · obtain ⟨n, hn⟩ : ∃ n, s.size = 2 * n := ⟨s.size / 2, by omega⟩
    have hp : (s.size : Int).tmod 2 = 0 := by rw [Int.tmod_eq_emod_of_nonneg (by omega)]; omega
    have hq : (s.size : Int).tdiv 2 = (n : Int) := by rw [Int.tdiv_eq_ediv_of_nonneg (by omega)]; omega
    have hq2 : (s.size : Int) / 2 = (n : Int) := by omega
    have hp2 : (s.size : Int) % 2 = 0 := by omega
    have hmk := make_u8c n (by omega)
    have hn5 : n ≤ 500 := by omega
    have HS0 := Lib.hid hn
    clear hn
    go_enter Tryz.func122, Tryz.ntmps122
    go_upto_region 4 with fail
    refine name1p ?_
    intro w0 k0 hB
    clear hmk hp hq hp2 hq2 hpar
    have ho := OwnB.fresh (B := w.heap.size) k0 (Nat.le_refl _) (by omega)
    clear k0
    go_wp2_with fail
    go_loopw [4, 5, 6, 7] (fun v s5 _ _ wr => ∃ (m : Nat) (done : List UInt8), m ≤ n ∧ s5 = .int .i64 (2 * (m : Int)) ∧ done.length ≤ m ∧ OwnB w.heap.size wr v done ∧ Hid (hexL done = L.take (2 * m)) ∧ Below w.heap.size w wr) (fun _ s5 _ _ _ => 2 * n - (intOf s5).toNat)
    case atStart => exact ⟨0, [], by omega, rfl, Nat.le_refl _, ho, Lib.hid rfl, hB⟩
    case round =>
      obtain ⟨m, done, hm, rfl, hdl, hown, HD, hB⟩ := hrel
      by_cases hlt : m < n
      · obtain ⟨k, hk⟩ : ∃ k, k = 2 * m := ⟨_, rfl⟩
        rw [show 2 * (m : Int) = (k : Int) by omega]
        have hk1 : k < s.size := by have := HS0.out; omega
        obtain ⟨j, hj⟩ : ∃ j, j = k + 1 := ⟨_, rfl⟩
        have hjw : IntKind.i64.wrap ((k : Int) + 1) = (j : Int) := (IntWalk.i64_in _ (by omega)).trans (by omega)
        have hk2 : j < s.size := by have := HS0.out; omega
        have hk3 : (k : Int) < (s.size : Int) := by have := HS0.out; omega
        have hk4 : (j : Int) < (s.size : Int) := by omega
        have hg1 : L[k]? = some s[k] := by rw [HL.out]; exact byte_getL hk1
        have hg2 : L[j]? = some s[j] := by rw [HL.out]; exact byte_getL hk2
        have q1 := Lib.hid (fun W => index_hex s[k] W)
        have q2 := Lib.hid (fun W => index_hex s[j] W)
        have hdl2 : done.length ≤ 10000000 := by omega
        have HK := Lib.hid hk
        rcases hexIx_cases s[k] with ⟨h1, hno⟩ | ⟨x, hx, h1, he⟩
        · have HN := Lib.hid (not_hex hg1 hno)
          rw [h1] at q1
          clear h1 hno hg1 hg2 hk hj
          go_upto_region 7 with fail
          go_quiet ((first
            | (go_at_call 162; with_reducible exact Calls.quiet_of_same (q1.out _))
            | (go_at_call 162; with_reducible exact Calls.quiet_of_same (q2.out _))))
          go_wp2_with fail
          go_ret2
          exact ⟨.inr ⟨HN.out, ⟨#[]⟩, rfl⟩, below_drewN hB _⟩
        · rw [h1] at q1
          rcases hexIx_cases s[j] with ⟨h2, hno⟩ | ⟨y, hy, h2, he2⟩
          · have HN := Lib.hid (not_hex hg2 hno)
            rw [h2] at q2
            clear h1 h2 hno hg1 hg2 he hk hj
            go_upto_region 7 with fail
            go_quiet ((first
              | (go_at_call 162; with_reducible exact Calls.quiet_of_same (q1.out _))
              | (go_at_call 162; with_reducible exact Calls.quiet_of_same (q2.out _))))
            go_wp2_with fail
            go_ret2
            exact ⟨.inr ⟨HN.out, ⟨#[]⟩, rfl⟩, below_drewN hB _⟩
          · rw [h2] at q2
            have HS : Hid (hexL (done ++ [UInt8.ofNat (16 * x + y)]) = L.take (2 * (m + 1))) := Lib.hid (by
              rw [← he] at hg1
              rw [← he2] at hg2
              rw [hj, hk] at hg2
              rw [hk] at hg1
              exact hex_step HD.out hg1 hg2 hx hy)
            have hor := or_nib hx hy
            have hnb := Lib.hid (nib_byte hx hy)
            clear h1 h2 hg1 hg2 he he2 hk hj
            generalize UInt8.ofNat (16 * x + y) = z at HS hnb
            go_upto_region 7 with fail
            go_quiet ((first
              | (go_at_call 162; with_reducible exact Calls.quiet_of_same (q1.out _))
              | (go_at_call 162; with_reducible exact Calls.quiet_of_same (q2.out _))))
            have hown2 : OwnB w.heap.size (wr.drewN nq) _ done := hown
            have hB2 := below_drewN hB nq
            go_wp2_with (at_builtin; refine wp_appendB rfl _ _ rfl [z] 1 rfl (byte_cell (by rw [hnb.out]; omega)) rfl hown2 rfl hdl2 (by decide) hB2 ?_; intro v1 w1 hown1 hb1)
            go_roundw
            case rel => exact ⟨m + 1, done ++ [z], by omega, by have := HK.out; go_num, by rw [List.length_append]; exact Nat.add_le_add_right hdl 1, hown1, HS, hb1⟩
            case measure => have := HK.out; simp [intOf]; omega
      · obtain rfl : m = n := by omega
        have HE := Lib.hid (hex_full HD.out (by have := HS0.out; omega))
        have hge : ¬ (2 * (m : Int) < (s.size : Int)) := by have := HS0.out; omega
        obtain ⟨A, c, rfl, hd⟩ := (own_same hown).bdg
        have hcv := run_bdg_str hd
        go_wp2_with fail
        go_ret2
        exact ⟨.inl ⟨done, HE.out, rfl⟩, hB⟩
  · have hp : (s.size : Int).tmod 2 = 1 := by rw [Int.tmod_eq_emod_of_nonneg (by omega)]; omega
    have hp2 : (s.size : Int) % 2 = 1 := by omega
    have HN := Lib.hid (hex_odd (l := L) (by omega))
    go_enter Tryz.func122, Tryz.ntmps122
    go_wp2_with fail
    go_ret2
    exact ⟨.inr ⟨HN.out, ⟨#[]⟩, rfl⟩, Below.refl _ _⟩

end Go.Proofs.YtebgmlbbilcbbaaGreatDoor

/- Texts of commitments read back: what the reference reads. -/
namespace Go.Proofs.YtebgmlbbilcbbaaGreatDoor
open Go.RowKit

theorem run_hex64 {q : Nat} (hq : q < 16) (W : World) : (Instr.index 9 (.string ⟨#[48, 49, 50, 51, 52, 53, 54, 55, 56, 57, 97, 98, 99, 100, 101, 102]⟩) (.int .i64 (q : Int))).run Tryz.prog W = .ok (.int .u8 ((hexD q).toNat : Int)) W := by
  have hg := hex_at q hq
  simp only [Instr.index, run_underlying Tryz.underlying9, asIntOf, Sem.run_bind, Sem.run_pure, Result.andThen_ok]
  rw [if_pos (by omega), Int.toNat_natCast, hg]
  rfl
theorem byte_same {a b : UInt8} (h : a = b) : ((a.toNat : Int) == (b.toNat : Int)) = true := by rw [h]; simp
theorem byte_diff {a b : UInt8} (h : a ≠ b) : ((a.toNat : Int) == (b.toNat : Int)) = false := by
  rw [beq_eq_false_iff_ne]
  intro e
  exact h (UInt8.toNat_inj.1 (by omega))

theorem run_own_str {B : Nat} {w : World} {v : Value} {l : List UInt8} (h : OwnB B w v l) :
    (convert 22 9 v).run Tryz.prog w = .ok (.string (strB l)) w := by
  obtain ⟨A, c, rfl, hd⟩ := (own_same h).bdg
  exact run_bdg_str hd

/-- What is read of two digits. -/
def Two (L : List UInt8) (m k v : Nat) : Prop :=
  (k = 0 ∧ v = 0) ∨ (k = 1 ∧ v < 16 ∧ L[2 * m]? = some (hexD v)) ∨ (k = 2 ∧ ∃ x y, x < 16 ∧ y < 16 ∧ v = 16 * x + y ∧ L[2 * m]? = some (hexD x) ∧ L[2 * m + 1]? = some (hexD y))
theorem Two.step {L : List UInt8} {m k v x : Nat} (h : Two L m k v) (hk : k < 2) (hx : x < 16) (hl : L[2 * m + k]? = some (hexD x)) : Two L m (k + 1) (16 * v + x) := by
  rcases h with ⟨rfl, rfl⟩ | ⟨rfl, h1, h2⟩ | ⟨rfl, -⟩
  · exact .inr (.inl ⟨rfl, by omega, by rw [show 16 * 0 + x = x by omega]; exact hl⟩)
  · exact .inr (.inr ⟨rfl, v, x, h1, hx, rfl, h2, hl⟩)
  · omega
theorem Two.bd {L : List UInt8} {m k v : Nat} (h : Two L m k v) : v ≤ 255 ∧ (k < 2 → v < 16) := by
  rcases h with ⟨rfl, rfl⟩ | ⟨rfl, h1, h2⟩ | ⟨rfl, x, y, hx, hy, rfl, -⟩ <;> omega

set_option maxRecDepth 100000 in
set_option maxHeartbeats 4000000 in
theorem rUnhex_any (s : ByteArray) (hs : s.size ≤ 1000) (w : World) : Calls Tryz.prog 126 #[.string s] w fun e w' => Unhexed s w e w' := by
  unfold Unhexed
  obtain ⟨L, hL⟩ : ∃ L, L = s.data.toList := ⟨_, rfl⟩
  have hLl : L.length = s.size := by rw [hL, size_len]
  have HLL := Lib.hid hLl
  rw [← hL]
  have HL := Lib.hid hL
  clear hL hLl
  go_enter Tryz.func126, Tryz.ntmps126
  go_wp2_with fail
  go_loopw [5, 6, 7, 8, 9, 10] (fun v s6 _ _ _ _ wr => ∃ (q m : Nat) (done : List UInt8), q ≤ s.size ∧ s6 = .int .i64 (q : Int) ∧ done.length ≤ m ∧ OwnB w.heap.size wr v done ∧ Hid (q = 2 * m ∧ hexL done = L.take (2 * m)) ∧ Below w.heap.size w wr) (fun _ s6 _ _ _ _ _ => s.size - (intOf s6).toNat)
  case atStart => exact ⟨0, 0, [], by omega, rfl, Nat.le_refl _, OwnB.nil_ _ _, Lib.hid ⟨rfl, rfl⟩, Below.refl _ _⟩
  case round =>
    obtain ⟨q, m, done, hq, rfl, hdl, hown, HD, hB⟩ := hrel
    by_cases hlt : q + 1 < s.size
    · have hlt' : (q : Int) + 1 < (s.size : Int) := by omega
      have hdl2 : done.length ≤ 10000000 := by have := HD.out.1; omega
      go_upto_region 8 with fail
      go_loopw [7, 8, 9, 10] (fun s7 s8 _ _ wx => ∃ (k n : Nat), k ≤ 2 ∧ n ≤ 255 ∧ s8 = .int .i64 (k : Int) ∧ s7 = .int .i64 (n : Int) ∧ Hid (Two L m k n) ∧ OwnB w.heap.size wx u5 done ∧ Below w.heap.size w wx) (fun _ s8 _ _ _ => 2 - (intOf s8).toNat)
      case atStart => exact ⟨0, 0, by omega, by omega, rfl, rfl, Lib.hid (.inl ⟨rfl, rfl⟩), hown, hB⟩
      case round =>
        obtain ⟨k, n, hk, hn, rfl, rfl, HT, hown, hB⟩ := hrel
        by_cases hk2 : k < 2
        · have hk2' : (k : Int) < 2 := by omega
          obtain ⟨p, hp⟩ : ∃ p, p = q + k := ⟨_, rfl⟩
          have hpw : IntKind.i64.wrap ((q : Int) + (k : Int)) = (p : Int) := (IntWalk.i64_in _ (by omega)).trans (by omega)
          have hps : p < s.size := by omega
          have hps' : (p : Int) < (s.size : Int) := by omega
          have HG : Hid (L[2 * m + k]? = some s[p]) := Lib.hid (by rw [HL.out, ← HD.out.1, ← hp]; exact byte_getL hps)
          clear hp
          go_upto_region 12 with fail
          go_loopw [9, 10] (fun s9 s10 wy => ∃ j : Nat, j ≤ 16 ∧ s10 = .int .i64 (j : Int) ∧ s9 = .int .i64 (hexPart s[p] j) ∧ OwnB w.heap.size wy u5 done ∧ Below w.heap.size w wy) (fun _ s10 _ => 16 - (intOf s10).toNat)
          case atStart => exact ⟨0, by omega, rfl, rfl, hown, hB⟩
          case round =>
            obtain ⟨j, hj, rfl, rfl, hown, hB⟩ := hrel
            by_cases hj2 : j < 16
            · have hj2' : (j : Int) < 16 := by omega
              have hx1 := run_hex64 hj2
              by_cases he : hexD j = s[p]
              · have hc := byte_same he
                have HP : Hid (hexPart s[p] (j + 1) = (j : Int)) := Lib.hid (by rw [hexPart, if_pos he])
                clear he
                go_upto_region 14 with fail
                go_quiet (fail)
                go_wp2_with fail
                go_roundw
                case rel => exact ⟨j + 1, by omega, by go_num, by rw [HP.out], hown, below_drewN hB _⟩
                case measure => simp [intOf]; omega
              · have hc := byte_diff he
                have HP : Hid (hexPart s[p] (j + 1) = hexPart s[p] j) := Lib.hid (by rw [hexPart, if_neg he])
                clear he
                go_upto_region 14 with fail
                go_quiet (fail)
                go_wp2_with fail
                go_roundw
                case rel => exact ⟨j + 1, by omega, by go_num, by rw [HP.out], hown, below_drewN hB _⟩
                case measure => simp [intOf]; omega
            · obtain rfl : j = 16 := by omega
              rw [hexPart_all]
              rcases hexIx_cases s[p] with ⟨h1, hno⟩ | ⟨x, hx, h1, he⟩
              · have HN := Lib.hid (not_hex HG.out hno)
                rw [h1]
                clear h1 hno
                go_wp2_with fail
                go_ret2
                exact ⟨.inr ⟨HN.out, ⟨#[]⟩, rfl⟩, hB⟩
              · rw [h1]
                have HT2 := Lib.hid (HT.out.step hk2 hx (HG.out.trans (congrArg some he.symm)))
                have hbd := HT.out.bd
                have hn16 := hbd.2 hk2
                have hx0 : ¬ (x : Int) < 0 := by omega
                clear h1 he hbd
                go_wp2_with fail
                go_roundw
                case rel => exact ⟨k + 1, 16 * n + x, by omega, by omega, by go_num, by go_num, HT2, hown, hB⟩
                case measure => simp [intOf]; omega
        · obtain rfl : k = 2 := by omega
          have HE : Hid (∃ x y, x < 16 ∧ y < 16 ∧ n = 16 * x + y ∧ L[2 * m]? = some (hexD x) ∧ L[2 * m + 1]? = some (hexD y)) := Lib.hid (by
            rcases HT.out with ⟨h, _⟩ | ⟨h, _⟩ | ⟨_, h⟩
            · omega
            · omega
            · exact h)
          have HS : Hid (hexL (done ++ [UInt8.ofNat n]) = L.take (2 * (m + 1))) := Lib.hid (by
            obtain ⟨x, y, hx, hy, rfl, h1, h2⟩ := HE.out
            exact hex_step HD.out.2 h1 h2 hx hy)
          have hnb : Hid ((n : Int) = ((UInt8.ofNat n).toNat : Int)) := Lib.hid (by rw [UInt8.toNat_ofNat']; omega)
          generalize UInt8.ofNat n = z at HS hnb
          go_wp2_with (at_builtin; refine wp_appendB rfl _ _ rfl [z] 1 rfl (byte_cell hnb.out) rfl hown rfl hdl2 (by decide) hB ?_; intro v2 w2 hown1 hb1)
          go_roundw
          case rel => exact ⟨q + 2, m + 1, done ++ [z], by omega, by go_num, by rw [List.length_append]; exact Nat.add_le_add_right hdl 1, hown1, Lib.hid ⟨by have := HD.out.1; omega, HS.out⟩, hb1⟩
          case measure => simp [intOf]; omega
    · have hlt' : ¬ (q : Int) + 1 < (s.size : Int) := by omega
      have hcv := run_own_str hown
      by_cases hev : s.size % 2 = 0
      · have hp : (s.size : Int).tmod 2 = 0 := by rw [Int.tmod_eq_emod_of_nonneg (by omega)]; omega
        have hp2 : (s.size : Int) % 2 = 0 := by omega
        have HE := Lib.hid (hex_full HD.out.2 (by have := HD.out.1; have := HLL.out; omega))
        clear hev
        go_wp2_with fail
        go_ret2
        exact ⟨.inl ⟨done, HE.out, rfl⟩, hB⟩
      · have hp : (s.size : Int).tmod 2 = 1 := by rw [Int.tmod_eq_emod_of_nonneg (by omega)]; omega
        have hp2 : (s.size : Int) % 2 = 1 := by omega
        have HN := Lib.hid (hex_odd (l := L) (by have := HLL.out; omega))
        clear hev
        go_wp2_with fail
        go_ret2
        exact ⟨.inr ⟨HN.out, _, rfl⟩, hB⟩

end Go.Proofs.YtebgmlbbilcbbaaGreatDoor

/- Texts of commitments read back: hashes. -/
namespace Go.Proofs.YtebgmlbbilcbbaaGreatDoor
open Go.RowKit

/-- Where the reading of a hash stands. -/
def Stands (L : List UInt8) (i m : Nat) (done : List UInt8) (x : Nat) : Prop :=
  done.length = m ∧ hexL done = L.take (2 * m) ∧ ((i = 2 * m ∧ x = 0) ∨ (i = 2 * m + 1 ∧ x < 16 ∧ L[2 * m]? = some (hexD x)))
theorem Stands.step {L : List UInt8} {i m x y : Nat} {done : List UInt8} (h : Stands L i m done x) (hm : m < 32) (hy : y < 16) (hl : L[i]? = some (hexD y)) :
    ∃ (m' : Nat) (done' : List UInt8) (x' : Nat), Stands L (i + 1) m' done' x' ∧ hst done (UInt8.ofNat (16 * x + y)) = hst done' (UInt8.ofNat x') := by
  obtain ⟨h1, h2, h3⟩ := h
  rcases h3 with ⟨rfl, rfl⟩ | ⟨rfl, hx, hlx⟩
  · exact ⟨m, done, y, ⟨h1, h2, .inr ⟨rfl, hy, hl⟩⟩, by rw [show 16 * 0 + y = y by omega]⟩
  · exact ⟨m + 1, done ++ [UInt8.ofNat (16 * x + y)], 0, ⟨by rw [List.length_append, h1]; rfl, hex_step h2 hlx hl hx hy, .inl ⟨by omega, rfl⟩⟩, (hst_next (by omega) _).symm⟩
theorem Stands.bd {L : List UInt8} {i m x : Nat} {done : List UInt8} (h : Stands L i m done x) : x < 16 ∧ i / 2 = m := by
  obtain ⟨-, -, h3⟩ := h
  rcases h3 with ⟨rfl, rfl⟩ | ⟨rfl, hx, -⟩ <;> omega
theorem Stands.full {L : List UInt8} {m x : Nat} {done : List UInt8} (h : Stands L 64 m done x) (hl : L.length = 64) : done.length = 32 ∧ L = hexL done ∧ hst done (UInt8.ofNat x) = done := by
  obtain ⟨h1, h2, h3⟩ := h
  have hm : m = 32 := by rcases h3 with ⟨h, -⟩ | ⟨h, -⟩ <;> omega
  subst hm
  exact ⟨h1, hex_full h2 hl, hst_full h1 _⟩

set_option maxRecDepth 100000 in
set_option maxHeartbeats 4000000 in
theorem dRead_any (s : ByteArray) (_hs : s.size ≤ 100000) (w : World) : Calls Tryz.prog 121 #[.string s] w fun e w' => HashRead s w e w' := by
  unfold HashRead
  obtain ⟨L, hL⟩ : ∃ L, L = s.data.toList := ⟨_, rfl⟩
  have hLl : L.length = s.size := by rw [hL, size_len]
  have HLL := Lib.hid hLl
  rw [← hL]
  have HL := Lib.hid hL
  clear hL hLl
  have hsz0 : (u8a zero32).size = 32 := u8a_len zero32_len
  by_cases h64 : s.size = 64
  · have hz : (s.size : Int) = 64 := by omega
    have H64 := Lib.hid h64
    clear h64
    go_enter Tryz.func121, Tryz.ntmps121
    go_upto_region 1 with fail
    refine nameOne (u8a zero32) rfl ?_
    intro w0 k0 hB
    obtain ⟨H, hH⟩ : ∃ H, H = w.heap.size := ⟨_, rfl⟩
    rw [← hH] at k0 ⊢
    have hgH : w.heap.size ≤ H := by omega
    clear hH
    go_upto_region 4 with fail
    refine nameOne (u8a zero32) rfl ?_
    intro w1 k1 hb
    have hHO := k0.lt
    have hgO : w.heap.size ≤ w0.heap.size := hB.size
    obtain ⟨O, hO⟩ : ∃ O, O = w0.heap.size := ⟨_, rfl⟩
    replace k0 := k0.below hb k0.lt
    replace hB := below_then hB hb
    rw [← hO] at k1 hHO hgO ⊢
    have hne : some H ≠ some O := fun e => by injection e with e; omega
    have hne2 : some O ≠ some H := fun e => by injection e with e; omega
    clear hO hb
    go_wp2_with fail
    go_loopw [5, 6, 13] (fun _ _ s13 wr => ∃ (i m : Nat) (done : List UInt8) (x : Nat), i ≤ 64 ∧ s13 = .int .i64 (i : Int) ∧ Hid (Stands L i m done x) ∧ Blk wr O 71 (u8a (hst done (UInt8.ofNat x))) ∧ Blk wr H 71 (u8a zero32) ∧ Below w.heap.size w wr) (fun _ _ s13 _ => 64 - (intOf s13).toNat)
    case atStart => exact ⟨0, 0, [], 0, by omega, rfl, Lib.hid ⟨rfl, rfl, .inl ⟨rfl, rfl⟩⟩, k1, k0, hB⟩
    case round =>
      obtain ⟨i, m, done, x, hi, rfl, HS, k1, k0, hB⟩ := hrel
      by_cases hlt : i < 64
      · have hlt' : (i : Int) < 64 := by omega
        have hlts : i < s.size := by have := H64.out; omega
        obtain ⟨hx, hm⟩ := HS.out.bd
        have hm32 : m < 32 := by omega
        have hq : (i : Int).tdiv 2 = (m : Int) := by rw [Int.tdiv_eq_ediv_of_nonneg (by omega)]; omega
        have hq2 : (i : Int) / 2 = (m : Int) := by omega
        have hm32' : (m : Int) < 32 := by omega
        have hm0 : (0 : Int) ≤ (m : Int) := by omega
        have HG : Hid (L[i]? = some s[i]) := Lib.hid (by rw [HL.out]; exact byte_getL hlts)
        have q1 := Lib.hid (fun W => index_hex s[i] W)
        clear hm
        rcases hexIx_cases s[i] with ⟨h1, hno⟩ | ⟨y, hy, h1, he⟩
        · have HN := Lib.hid (not_hex HG.out hno)
          rw [h1] at q1
          clear h1 hno
          go_wp2_with (first
            | (go_at_call 162; (with_reducible refine (q1.out _).mono ?_); rintro e wz ⟨rfl, rfl⟩)
            | (refine wpList_store_rowTo rfl 71 _ _ rfl rfl _ (u8a zero32) rfl rfl _ _ k0 (by rw [hsz0]; exact hash_size) rfl (u8a_one _) ?_))
          refine bodyPost_ret (results_hash rfl (k0.rowA _) rfl zero32_len) rfl ?_
          exact ⟨.inr ⟨fun y _ => HN.out y, rfl⟩, below_setRow hB hgH _⟩
        · rw [h1] at q1
          obtain ⟨m', done', x', hs2, hh2⟩ := HS.out.step hm32 hy (HG.out.trans (congrArg some he.symm))
          have HS2 := Lib.hid (And.intro hs2 hh2)
          obtain ⟨z, hz1⟩ : ∃ z, z = UInt8.ofNat (16 * x + y) := ⟨_, rfl⟩
          have hzn : (z.toNat : Int) = 16 * (x : Int) + (y : Int) := by rw [hz1]; exact nib_byte hx hy
          have hor : bits .or .u8 ((x : Int) * 16) (y : Int) = (z.toNat : Int) := by rw [or_nib8 hx hy]; omega
          have hw1 : (x : Int) * 16 % 256 = (x : Int) * 16 := by omega
          have hw2 : (y : Int) % 256 = (y : Int) := by omega
          have hxn : (UInt8.ofNat x).toNat = x := by rw [UInt8.toNat_ofNat']; omega
          have hy0 : ¬ (y : Int) < 0 := by omega
          have c0 : wr.cell? ⟨O, m, none⟩ = some (.int .u8 (x : Int)) := by
            have := k1.u8A (hst_get HS.out.1 hm32 (UInt8.ofNat x))
            rwa [hxn] at this
          have f0 := k1.frozen m
          have HZ := Lib.hid hz1
          clear h1 he hs2 hh2 hz1 hzn hxn
          go_wp2_with (go_at_call 162; (with_reducible refine (q1.out _).mono ?_); rintro e wz ⟨rfl, rfl⟩)
          go_roundw
          case rel =>
            refine ⟨i + 1, m', done', x', by omega, by go_num, Lib.hid HS2.out.1, ?_, k0.grown (grown_set (grown_refl _ _) m _) hne, below_set hB (p := ⟨O, m, none⟩) hgO _⟩
            have k2 := k1.put8A m z
            rw [hst_set HS.out.1 hm32, HZ.out, HS2.out.2] at k2
            rw [HZ.out]
            exact k2
          case measure => simp [intOf]; omega
      · obtain rfl : i = 64 := by omega
        obtain ⟨hd, hE, hf⟩ := HS.out.full (by have := H64.out; have := HLL.out; omega)
        rw [hf] at k1
        have hsz : (u8a done).size = 32 := u8a_len hd
        have HE := Lib.hid hE
        have HD := Lib.hid hd
        clear hE hd hf
        go_wp2_with (first
          | (refine wpList_load_row rfl 71 _ rfl O rfl _ (u8a done) (0, 0) _ k1 Tryz.underlying71 rfl (by rw [hsz]; exact hash_size) ?_)
          | (refine wpList_store_rowTo rfl 71 _ _ rfl rfl _ (u8a done) rfl rfl _ _ k0 (by rw [hsz]; exact hash_size) (by rw [hsz]; rfl) (u8a_one _) ?_))
        refine bodyPost_ret (results_hash rfl (k0.rowA _) rfl HD.out) rfl ?_
        exact ⟨.inl ⟨done, HD.out, HE.out, rfl⟩, below_setRow hB hgH _⟩
  · have hz : ((s.size : Int) != 64) = true := by simp; omega
    have HN : Hid (∀ y : List UInt8, y.length = 32 → L ≠ hexL y) := Lib.hid (fun y hy e => h64 (by rw [← HLL.out, e, hexL_len, hy]))
    clear h64
    go_enter Tryz.func121, Tryz.ntmps121
    go_upto_region 1 with fail
    refine nameOne (u8a zero32) rfl ?_
    intro w0 k0 hB
    go_wp2_with (refine wpList_store_rowTo rfl 71 _ _ rfl rfl _ (u8a zero32) rfl rfl _ _ k0 (by rw [hsz0]; exact hash_size) rfl (u8a_one _) ?_)
    refine bodyPost_ret (results_hash rfl (k0.rowA _) rfl zero32_len) rfl ?_
    exact ⟨.inr ⟨HN.out, rfl⟩, below_setRow hB (Nat.le_refl _) _⟩

set_option maxRecDepth 100000 in
set_option maxHeartbeats 4000000 in
theorem rRead_any (s : ByteArray) (_hs : s.size ≤ 100000) (w : World) : Calls Tryz.prog 125 #[.string s] w fun e w' => HashRead s w e w' := by
  unfold HashRead
  obtain ⟨L, hL⟩ : ∃ L, L = s.data.toList := ⟨_, rfl⟩
  have hLl : L.length = s.size := by rw [hL, size_len]
  have HLL := Lib.hid hLl
  rw [← hL]
  have HL := Lib.hid hL
  clear hL hLl
  have hsz0 : (u8a zero32).size = 32 := u8a_len zero32_len
  by_cases h64 : s.size = 64
  · have hz : (s.size : Int) = 64 := by omega
    have H64 := Lib.hid h64
    clear h64
    go_enter Tryz.func125, Tryz.ntmps125
    go_upto_region 1 with fail
    refine nameOne (u8a zero32) rfl ?_
    intro w0 k0 hB
    obtain ⟨H, hH⟩ : ∃ H, H = w.heap.size := ⟨_, rfl⟩
    rw [← hH] at k0 ⊢
    have hgH : w.heap.size ≤ H := by omega
    clear hH
    go_upto_region 2 with fail
    refine nameOne (u8a zero32) rfl ?_
    intro w1 k1 hb
    have hHO := k0.lt
    have hgO : w.heap.size ≤ w0.heap.size := hB.size
    obtain ⟨O, hO⟩ : ∃ O, O = w0.heap.size := ⟨_, rfl⟩
    replace k0 := k0.below hb k0.lt
    replace hB := below_then hB hb
    rw [← hO] at k1 hHO hgO ⊢
    have hne : some H ≠ some O := fun e => by injection e with e; omega
    have hne2 : some O ≠ some H := fun e => by injection e with e; omega
    clear hO hb
    go_wp2_with fail
    go_loopw [5, 6, 7] (fun s13 _ _ wr => ∃ (i m : Nat) (done : List UInt8) (x : Nat), i ≤ 64 ∧ s13 = .int .i64 (i : Int) ∧ Hid (Stands L i m done x) ∧ Blk wr O 71 (u8a (hst done (UInt8.ofNat x))) ∧ Blk wr H 71 (u8a zero32) ∧ Below w.heap.size w wr) (fun s13 _ _ _ => 64 - (intOf s13).toNat)
    case atStart => exact ⟨0, 0, [], 0, by omega, rfl, Lib.hid ⟨rfl, rfl, .inl ⟨rfl, rfl⟩⟩, k1, k0, hB⟩
    case round =>
      obtain ⟨i, m, done, x, hi, rfl, HS, k1, k0, hB⟩ := hrel
      by_cases hlt : i < 64
      · have hlt' : (i : Int) < 64 := by omega
        have hlts : i < s.size := by have := H64.out; omega
        obtain ⟨hx, hm⟩ := HS.out.bd
        have hm32 : m < 32 := by omega
        have hq : (i : Int).tdiv 2 = (m : Int) := by rw [Int.tdiv_eq_ediv_of_nonneg (by omega)]; omega
        have hq2 : (i : Int) / 2 = (m : Int) := by omega
        have hm32' : (m : Int) < 32 := by omega
        have hm0 : (0 : Int) ≤ (m : Int) := by omega
        have HG : Hid (L[i]? = some s[i]) := Lib.hid (by rw [HL.out]; exact byte_getL hlts)
        clear hm
        go_upto_region 9 with fail
        go_loopw [6, 7] (fun s6 s7 wy => ∃ j : Nat, j ≤ 16 ∧ s7 = .int .i64 (j : Int) ∧ s6 = .int .i64 (hexPart s[i] j) ∧ Blk wy O 71 (u8a (hst done (UInt8.ofNat x))) ∧ Blk wy H 71 (u8a zero32) ∧ Below w.heap.size w wy) (fun _ s7 _ => 16 - (intOf s7).toNat)
        case atStart => exact ⟨0, by omega, rfl, rfl, k1, k0, hB⟩
        case round =>
          obtain ⟨j, hj, rfl, rfl, k1, k0, hB⟩ := hrel
          by_cases hj2 : j < 16
          · have hj2' : (j : Int) < 16 := by omega
            have hx1 := run_hex64 hj2
            by_cases he : hexD j = s[i]
            · have hc := byte_same he
              have HP : Hid (hexPart s[i] (j + 1) = (j : Int)) := Lib.hid (by rw [hexPart, if_pos he])
              clear he
              go_upto_region 11 with fail
              go_quiet (fail)
              have hBd := below_drewN hB nq
              have k1d : Blk (wr.drewN nq) O 71 (u8a (hst done (UInt8.ofNat x))) := k1
              have k0d : Blk (wr.drewN nq) H 71 (u8a zero32) := k0
              go_wp2_with fail
              go_roundw
              case rel => exact ⟨j + 1, by omega, by go_num, by rw [HP.out], k1d, k0d, hBd⟩
              case measure => simp [intOf]; omega
            · have hc := byte_diff he
              have HP : Hid (hexPart s[i] (j + 1) = hexPart s[i] j) := Lib.hid (by rw [hexPart, if_neg he])
              clear he
              go_upto_region 11 with fail
              go_quiet (fail)
              have hBd := below_drewN hB nq
              have k1d : Blk (wr.drewN nq) O 71 (u8a (hst done (UInt8.ofNat x))) := k1
              have k0d : Blk (wr.drewN nq) H 71 (u8a zero32) := k0
              go_wp2_with fail
              go_roundw
              case rel => exact ⟨j + 1, by omega, by go_num, by rw [HP.out], k1d, k0d, hBd⟩
              case measure => simp [intOf]; omega
          · obtain rfl : j = 16 := by omega
            rw [hexPart_all]
            rcases hexIx_cases s[i] with ⟨h1, hno⟩ | ⟨y, hy, h1, he⟩
            · have HN := Lib.hid (not_hex HG.out hno)
              rw [h1]
              clear h1 hno
              go_wp2_with (refine wpList_store_rowTo rfl 71 _ _ rfl rfl _ (u8a zero32) rfl rfl _ _ k0 (by rw [hsz0]; exact hash_size) rfl (u8a_one _) ?_)
              refine bodyPost_ret (results_hash rfl (k0.rowA _) rfl zero32_len) rfl ?_
              exact ⟨.inr ⟨fun y _ => HN.out y, rfl⟩, below_setRow hB hgH _⟩
            · rw [h1]
              obtain ⟨m', done', x', hs2, hh2⟩ := HS.out.step hm32 hy (HG.out.trans (congrArg some he.symm))
              have HS2 := Lib.hid (And.intro hs2 hh2)
              obtain ⟨z, hz1⟩ : ∃ z, z = UInt8.ofNat (16 * x + y) := ⟨_, rfl⟩
              have hzn : (z.toNat : Int) = 16 * (x : Int) + (y : Int) := by rw [hz1]; exact nib_byte hx hy
              have hw1 : (x : Int) * 16 % 256 = (x : Int) * 16 := by omega
              have hw2 : (y : Int) % 256 = (y : Int) := by omega
              have hw3 : ((x : Int) * 16 + (y : Int)) % 256 = (z.toNat : Int) := by omega
              have hxn : (UInt8.ofNat x).toNat = x := by rw [UInt8.toNat_ofNat']; omega
              have hy0 : ¬ (y : Int) < 0 := by omega
              have c0 : wr.cell? ⟨O, m, none⟩ = some (.int .u8 (x : Int)) := by
                have := k1.u8A (hst_get HS.out.1 hm32 (UInt8.ofNat x))
                rwa [hxn] at this
              have f0 := k1.frozen m
              have HZ := Lib.hid hz1
              have HZN : Hid ((x : Int) * 16 + (y : Int) = (z.toNat : Int)) := Lib.hid (by omega)
              clear h1 he hs2 hh2 hz1 hzn hxn
              go_wp2_with fail
              go_roundw
              case rel =>
                refine ⟨i + 1, m', done', x', by omega, by go_num, Lib.hid HS2.out.1, ?_, k0.grown (grown_set (grown_refl _ _) m _) hne, below_set hB (p := ⟨O, m, none⟩) hgO _⟩
                have k2 := k1.put8A m z
                have e := HS2.out.2
                rw [← HZ.out] at e
                rw [hst_set HS.out.1 hm32, e] at k2
                rw [HZN.out]
                exact k2
              case measure => simp [intOf]; omega
      · obtain rfl : i = 64 := by omega
        obtain ⟨hd, hE, hf⟩ := HS.out.full (by have := H64.out; have := HLL.out; omega)
        rw [hf] at k1
        have hsz : (u8a done).size = 32 := u8a_len hd
        have HE := Lib.hid hE
        have HD := Lib.hid hd
        clear hE hd hf
        go_wp2_with (first
          | (refine wpList_load_row rfl 71 _ rfl O rfl _ (u8a done) (0, 0) _ k1 Tryz.underlying71 rfl (by rw [hsz]; exact hash_size) ?_)
          | (refine wpList_store_rowTo rfl 71 _ _ rfl rfl _ (u8a done) rfl rfl _ _ k0 (by rw [hsz]; exact hash_size) (by rw [hsz]; rfl) (u8a_one _) ?_))
        refine bodyPost_ret (results_hash rfl (k0.rowA _) rfl HD.out) rfl ?_
        exact ⟨.inl ⟨done, HD.out, HE.out, rfl⟩, below_setRow hB hgH _⟩
  · have hz : ((s.size : Int) != 64) = true := by simp; omega
    have HN : Hid (∀ y : List UInt8, y.length = 32 → L ≠ hexL y) := Lib.hid (fun y hy e => h64 (by rw [← HLL.out, e, hexL_len, hy]))
    clear h64
    go_enter Tryz.func125, Tryz.ntmps125
    go_upto_region 1 with fail
    refine nameOne (u8a zero32) rfl ?_
    intro w0 k0 hB
    go_upto_region 2 with fail
    refine nameOne (u8a zero32) rfl ?_
    intro w1 k1 hb
    replace k0 := k0.below hb k0.lt
    have hgH : w.heap.size ≤ w.heap.size := Nat.le_refl _
    replace hB := below_then hB hb
    clear hb
    generalize w0.heap.size = O at k1 ⊢
    go_wp2_with (first
      | (refine wpList_load_row rfl 71 _ rfl O rfl _ (u8a zero32) (0, 0) _ k1 Tryz.underlying71 rfl (by rw [hsz0]; exact hash_size) ?_)
      | (refine wpList_store_rowTo rfl 71 _ _ rfl rfl _ (u8a zero32) rfl rfl _ _ k0 (by rw [hsz0]; exact hash_size) rfl (u8a_one _) ?_))
    refine bodyPost_ret (results_hash rfl (k0.rowA _) rfl zero32_len) rfl ?_
    exact ⟨.inr ⟨HN.out, rfl⟩, below_setRow hB hgH _⟩

end Go.Proofs.YtebgmlbbilcbbaaGreatDoor

/- Texts of commitments read back: words and numbers of the reference. -/
namespace Go.Proofs.YtebgmlbbilcbbaaGreatDoor
open Go.RowKit

set_option maxRecDepth 100000 in
set_option maxHeartbeats 2000000 in
theorem rWords_any (s : ByteArray) (hs : s.size ≤ 1000) (w : World) :
    Calls Tryz.prog 123 #[.string s] w fun e w' => ∃ (A : Option Addr) (c : Nat), e = .returned (.slice A (wordsS s).length c) ∧ NDg w' A (wordsS s).length c (wordsS s) ∧ Below w.heap.size w w' := by
  obtain ⟨L, hL⟩ : ∃ L, L = s.data.toList := ⟨_, rfl⟩
  have hlen : L.length = s.size := by rw [hL, size_len]
  have HL := Lib.hid (And.intro hL hlen)
  clear hL hlen
  go_enter Tryz.func123, Tryz.ntmps123
  go_wp2_with fail
  go_loopw [3, 4, 5] (fun s3 s4 s5 wr => ∃ (i f : Nat) (done : List ByteArray), i ≤ s.size + 1 ∧ f ≤ i ∧ s5 = .int .i64 (i : Int) ∧ s4 = .int .i64 (f : Int) ∧ OwnW w.heap.size wr s3 done ∧ done.length ≤ i ∧ Hid (i ≤ s.size → wordsS s = done ++ (wordsL (L.drop f)).map strB ∧ ∀ j, f ≤ j → j < i → L[j]? ≠ some 32) ∧ Hid (i = s.size + 1 → wordsS s = done) ∧ Below w.heap.size w wr) (fun _ _ s5 _ => s.size + 1 - (intOf s5).toNat)
  case atStart => exact ⟨0, 0, [], Nat.zero_le _, Nat.le_refl _, rfl, rfl, OwnL.nil_ _ _ _ _ _, Nat.le_refl _, Lib.hid (fun _ => ⟨by unfold wordsS; rw [← HL.out.1]; simp, fun j h1 h2 => by omega⟩), Lib.hid (fun h => by omega), Below.refl _ _⟩
  case round =>
    obtain ⟨i, f, done, hi, hf, rfl, rfl, ho, hdl, HI, HJ, hB⟩ := hrel
    have ho0 := own_high ho
    by_cases hle : i ≤ s.size
    · have hle' : (i : Int) ≤ (s.size : Int) := by omega
      by_cases hlt : i < s.size
      · have hlt' : (i : Int) < (s.size : Int) := by omega
        have hnz : ((i : Int) == (s.size : Int)) = false := by rw [beq_eq_false_iff_ne]; omega
        have hLi : L[i]? = some s[i] := by rw [HL.out.1]; exact byte_get hlt
        by_cases hb : s[i].toNat = 32
        · have hbz : ((s[i].toNat : Int) == 32) = true := by simp [hb]
          have HN := Lib.hid (words_hit hf (by rw [hLi, show s[i] = 32 from UInt8.toNat_inj.1 hb]) (HI.out hle).2)
          clear hb hLi
          go_wp2_with (refine wp_append_row (enc := encT) Tryz.underlying60 str_info rfl (by decide) (by decide) rfl _ _ rfl (s.extract f i) rfl rfl (encT_one _) rfl ho rfl (by omega) hB.size ?_; intro v w2 ho2 hg2)
          go_roundw
          case rel =>
            refine ⟨i + 1, i + 1, done ++ [s.extract f i], by omega, Nat.le_refl _, by go_num, by go_num, ho2, by simp; omega, Lib.hid (fun _ => ⟨?_, fun j h1 h2 => by omega⟩), Lib.hid (fun h => by omega), hB.grown hg2 hB.size ho0⟩
            rw [(HI.out hle).1, HN.out, List.map_cons, List.append_assoc]
            congr 2
            exact (strB_self _).symm.trans (congrArg strB (by rw [ext_list, HL.out.1])) |>.symm
          case measure => simp [intOf]; omega
        · have hbz : ((s[i].toNat : Int) == 32) = false := by rw [beq_eq_false_iff_ne]; omega
          have HN : Hid (L[i]? ≠ some 32) := Lib.hid (by rw [hLi]; intro e; exact hb (by rw [Option.some.inj e]; rfl))
          clear hb hLi
          go_wp2_with fail
          go_roundw
          case rel =>
            refine ⟨i + 1, f, done, by omega, by omega, by go_num, rfl, ho, by omega, Lib.hid (fun _ => ⟨(HI.out hle).1, fun j h1 h2 => ?_⟩), Lib.hid (fun h => by omega), hB⟩
            by_cases e : j = i
            · subst e; exact HN.out
            · exact (HI.out hle).2 j h1 (by omega)
          case measure => simp [intOf]; omega
      · obtain rfl : i = s.size := by omega
        have HN := Lib.hid (words_end (l := L) (f := f) (fun j h1 h2 => (HI.out hle).2 j h1 (by have := HL.out.2; omega)))
        have hz : ((s.size : Int) == (s.size : Int)) = true := by simp
        go_wp2_with (refine wp_append_row (enc := encT) Tryz.underlying60 str_info rfl (by decide) (by decide) rfl _ _ rfl (s.extract f s.size) rfl rfl (encT_one _) rfl ho rfl (by omega) hB.size ?_; intro v w2 ho2 hg2)
        go_roundw
        case rel =>
          refine ⟨s.size + 1, s.size + 1, done ++ [s.extract f s.size], by omega, Nat.le_refl _, by go_num, by go_num, ho2, by simp; omega, Lib.hid (fun h => by omega), Lib.hid (fun _ => ?_), hB.grown hg2 hB.size ho0⟩
          rw [(HI.out hle).1, HN.out, List.map_cons, List.map_nil]
          congr 2
          refine (strB_self _).symm.trans (congrArg strB ?_) |>.symm
          rw [ext_list, HL.out.1, List.take_of_length_le (by rw [List.length_drop, size_len]; exact Nat.le_refl _)]
        case measure => simp [intOf]
    · have hle' : ¬ (i : Int) ≤ (s.size : Int) := by omega
      have HW := Lib.hid (HJ.out (by omega))
      go_wp2_with fail
      go_ret
      obtain ⟨A, c, rfl, hd⟩ := OwnW.ndg ho
      rw [HW.out]
      exact ⟨A, c, rfl, hd, hB⟩

/-- How a number with a sign is read: what Int of the reference returns. -/
def IntRead (s : ByteArray) (w : World) (e : Ending) (w' : World) : Prop :=
  ((∃ z : Int, I64 z ∧ s.data.toList = decI z ∧ e = .returned (.tuple #[.int .i64 z, .bool true])) ∨ ((∀ z, I64 z → s.data.toList ≠ decI z) ∧ ∃ k : Int, e = .returned (.tuple #[.int .i64 k, .bool false]))) ∧ Below w.heap.size w w'

theorem intS_big {l : List UInt8} (hg : goodD l = true) (h : 9223372036854775807 < dval l) (z : Int) (hz : I64 z) : l ≠ decI z := fun e => by
  have e1 := decI_inj ((int_nat hg).symm.trans e)
  unfold I64 at hz
  omega
theorem intS_big_neg {l : List UInt8} (hg : goodD l = true) (h : 9223372036854775808 < dval l) (z : Int) (hz : I64 z) : 45 :: l ≠ decI z := fun e => by
  have e1 := decI_inj ((int_neg hg (by omega)).symm.trans e)
  unfold I64 at hz
  omega

set_option maxRecDepth 100000 in
set_option maxHeartbeats 2000000 in
theorem rIntS_any (s : ByteArray) (hs : s.size ≤ 1000) (w : World) : Calls Tryz.prog 124 #[.string s] w fun e w' => IntRead s w e w' := by
  unfold IntRead
  obtain ⟨L, hL⟩ : ∃ L, L = s.data.toList := ⟨_, rfl⟩
  have hlen : L.length = s.size := by rw [hL, size_len]
  have HL := Lib.hid (And.intro hL hlen)
  rw [← hL]
  by_cases h45 : L.head? = some 45
  · -- with a sign
    obtain ⟨r, hr⟩ : ∃ r, L = 45 :: r := by
      cases L with
      | nil => cases h45
      | cons b r => exact ⟨r, by rw [Option.some.inj h45]⟩
    have h0 : 0 < s.size := by rw [← hlen, hr]; simp
    have hb0 : s[0].toNat = 45 := by
      have := byte_get h0
      rw [← hL, hr] at this
      have e : (45 : UInt8) = s[0] := Option.some.inj this
      rw [← e]; rfl
    have hbz : ((s[0].toNat : Int) == 45) = true := by simp [hb0]
    have h0' : (0 : Int) < (s.size : Int) := by omega
    have h1' : (1 : Int) ≤ (s.size : Int) := by omega
    have h1 : 1 ≤ s.size := by omega
    obtain ⟨t, ht⟩ : ∃ t, t = s.extract 1 s.size := ⟨_, rfl⟩
    have htl : t.data.toList = r := by rw [ht, ext_list, ← hL, hr, List.drop_one, List.tail_cons, List.take_of_length_le (by rw [← hlen, hr]; simp)]
    have hts : t.size + 1 = s.size := by rw [← size_len, htl, ← hlen, hr]; rfl
    have hne : (t.toList == s.toList) = false := str_diff (fun e => by rw [e] at hts; omega)
    obtain ⟨x1, e1, x2, x3⟩ := parse_pair t
    have q1 : Hid (∀ W, Calls Tryz.prog 100 #[.string t] W fun e w' => e = .returned (.tuple #[.string x1, .bool (goodD t.data.toList)]) ∧ Below W.heap.size W w') := Lib.hid (fun W => e1 ▸ rParse t W (by omega))
    have hcut := ht.symm
    rw [htl] at q1 x2
    have HR := Lib.hid hr
    have HB : Hid (x1.size ≤ 1000) := Lib.hid (by omega)
    rw [hr]
    clear e1 ht htl hb0 hL hlen hr h45 x3 hts
    go_enter Tryz.func124, Tryz.ntmps124
    go_wp2_with fail
    refine (q1.out _).mono ?_
    rintro e w1 ⟨rfl, hB⟩
    cases hg : goodD r with
    | false =>
      have HN := Lib.hid (int_bad_neg hg)
      clear hg
      go_wp2_with fail
      go_ret2
      exact ⟨.inr ⟨fun z _ => HN.out z, 0, rfl⟩, hB⟩
    | true =>
      obtain rfl := x2 hg
      have q2 : Hid (Ret 73 #[.int .i64 1] (.string (natS 1))) := Lib.hid (fun W => rOf 1 W (by omega))
      have z1 := natS_i64 (n := 1) (by omega)
      cases hv : dval r with
      | zero =>
        have HN := Lib.hid (int_zero_neg hv)
        rw [hv] at HB
        have q3 : Hid (Ret 90 #[.string (natS 0), .string (natS 1)] (.tuple #[.string ⟨#[]⟩, .bool false])) := Lib.hid (fun W => by
          have := rSub (natS 0) (natS 1) W (by have := HB.out; omega) (by omega)
          rw [sval_natS, sval_natS] at this
          exact this)
        have q4 : Hid (Ret 95 #[.string ⟨#[]⟩] (.tuple #[.int .i64 0, .bool true])) := Lib.hid (Ret.quiet fun W => by
          have := rInt ⟨#[]⟩ W (by decide)
          rw [show sval ⟨#[]⟩ = 0 from by decide] at this
          exact this)
        clear hg hv z1 x2
        generalize natS 0 = n0 at q3
        generalize natS 1 = n1 at q2 q3
        go_wp2_with (first
          | (go_at_call 73; (with_reducible refine (q2.out _).mono ?_); rintro e wz ⟨rfl, hb⟩; replace hB := below_then hB hb; clear hb)
          | (go_at_call 90; (with_reducible refine (q3.out _).mono ?_); rintro e wz ⟨rfl, hb⟩; replace hB := below_then hB hb; clear hb)
          | (go_at_call 95; (with_reducible refine (q4.out _).mono ?_); rintro e wz ⟨rfl, hb⟩; replace hB := below_then hB hb; clear hb))
        go_ret2
        exact ⟨.inr ⟨fun z _ => HN.out z, 0, rfl⟩, hB⟩
      | succ k =>
        rw [hv] at HB
        have q3 : Hid (Ret 90 #[.string (natS (k + 1)), .string (natS 1)] (.tuple #[.string (natS k), .bool true])) := Lib.hid (fun W => by
          have := rSub (natS (k + 1)) (natS 1) W (by have := HB.out; omega) (by omega)
          rw [sval_natS, sval_natS, show subRes (k + 1) 1 = .tuple #[.string (natS k), .bool true] from by unfold subRes; rw [if_pos (by omega), Nat.add_sub_cancel]] at this
          exact this)
        have zk : (natS k).size ≤ 1000 := natS_size (Nat.lt_of_lt_of_le (Nat.lt_succ_self k) (by
          have := sval_lt (natS (k + 1))
          rw [sval_natS] at this
          exact Nat.le_trans (Nat.le_of_lt this) (P8_mono HB.out)))
        by_cases hk : k ≤ 9223372036854775807
        · have q4 : Hid (Ret 95 #[.string (natS k)] (.tuple #[.int .i64 (k : Int), .bool true])) := Lib.hid (Ret.quiet fun W => by
            have := rInt (natS k) W (by omega)
            rwa [sval_natS, int_ok hk] at this)
          have HE : Hid (I64 (-((k + 1 : Nat) : Int)) ∧ 45 :: r = decI (-((k + 1 : Nat) : Int))) := Lib.hid ⟨by unfold I64; omega, by have := int_neg hg (by omega); rwa [hv] at this⟩
          have hw1 : IntKind.i64.wrap (-(k : Int)) = -(k : Int) := IntWalk.i64_in _ (by omega)
          have hw2 : IntKind.i64.wrap (-(k : Int) - 1) = -(k : Int) - 1 := IntWalk.i64_in _ (by omega)
          have HZ : Hid (-(k : Int) - 1 = -((k + 1 : Nat) : Int)) := Lib.hid (by omega)
          clear hg hv z1 x2 zk
          generalize natS (k + 1) = n0 at q3
          generalize natS 1 = n1 at q2 q3
          go_wp2_with (first
            | (go_at_call 73; (with_reducible refine (q2.out _).mono ?_); rintro e wz ⟨rfl, hb⟩; replace hB := below_then hB hb; clear hb)
            | (go_at_call 90; (with_reducible refine (q3.out _).mono ?_); rintro e wz ⟨rfl, hb⟩; replace hB := below_then hB hb; clear hb)
            | (go_at_call 95; (with_reducible refine (q4.out _).mono ?_); rintro e wz ⟨rfl, hb⟩; replace hB := below_then hB hb; clear hb))
          go_ret2
          exact ⟨.inl ⟨_, HE.out.1, HE.out.2, by rw [HZ.out]; rfl⟩, hB⟩
        · have q4 : Hid (Ret 95 #[.string (natS k)] (.tuple #[.int .i64 0, .bool false])) := Lib.hid (Ret.quiet fun W => by
            have := rInt (natS k) W (by omega)
            rw [sval_natS, show intRes k = .tuple #[.int .i64 0, .bool false] from by unfold intRes; rw [if_neg hk]] at this
            exact this)
          have HN := Lib.hid (intS_big_neg hg (by rw [hv]; omega))
          clear hg hv z1 x2 zk
          generalize natS (k + 1) = n0 at q3
          generalize natS 1 = n1 at q2 q3
          go_wp2_with (first
            | (go_at_call 73; (with_reducible refine (q2.out _).mono ?_); rintro e wz ⟨rfl, hb⟩; replace hB := below_then hB hb; clear hb)
            | (go_at_call 90; (with_reducible refine (q3.out _).mono ?_); rintro e wz ⟨rfl, hb⟩; replace hB := below_then hB hb; clear hb)
            | (go_at_call 95; (with_reducible refine (q4.out _).mono ?_); rintro e wz ⟨rfl, hb⟩; replace hB := below_then hB hb; clear hb))
          go_ret2
          exact ⟨.inr ⟨fun z hz => HN.out z hz, 0, rfl⟩, hB⟩
  · -- without a sign
    obtain ⟨x1, e1, x2, x3⟩ := parse_pair s
    have q1 : Hid (∀ W, Calls Tryz.prog 100 #[.string s] W fun e w' => e = .returned (.tuple #[.string x1, .bool (goodD L)]) ∧ Below W.heap.size W w') := Lib.hid (fun W => by rw [hL]; exact e1 ▸ rParse s W (by omega))
    rw [← hL] at x2
    have hss := str_same s
    have hL0 : L = [] → goodD L = false := fun e => by rw [e]; rfl
    have HB : Hid (x1.size ≤ 1000) := Lib.hid (by omega)
    by_cases h0 : 0 < s.size
    · have h0' : (0 : Int) < (s.size : Int) := by omega
      have hbz : ((s[0].toNat : Int) == 45) = false := by
        rw [beq_eq_false_iff_ne]
        intro e
        have h1 := byte_get h0
        rw [← hL] at h1
        refine h45 ?_
        rw [List.head?_eq_getElem?, h1, show s[0] = 45 from UInt8.toNat_inj.1 (by have : (45 : UInt8).toNat = 45 := rfl; omega)]
      have HH := Lib.hid h45
      clear e1 hL hlen h45 hL0 x3
      go_enter Tryz.func124, Tryz.ntmps124
      go_wp2_with fail
      refine (q1.out _).mono ?_
      rintro e w1 ⟨rfl, hB⟩
      cases hg : goodD L with
      | false =>
        have HN := Lib.hid (int_bad HH.out hg)
        clear hg
        go_wp2_with fail
        go_ret2
        exact ⟨.inr ⟨fun z _ => HN.out z, 0, rfl⟩, hB⟩
      | true =>
        obtain rfl := x2 hg
        by_cases hk : dval L ≤ 9223372036854775807
        · have q4 : Hid (Ret 95 #[.string (natS (dval L))] (.tuple #[.int .i64 (dval L : Int), .bool true])) := Lib.hid (Ret.quiet fun W => by
            have := rInt (natS (dval L)) W (by have := HB.out; omega)
            rwa [sval_natS, int_ok hk] at this)
          have HE : Hid (I64 (dval L : Int) ∧ L = decI (dval L : Int)) := Lib.hid ⟨by unfold I64; omega, int_nat hg⟩
          clear hg x2 hk
          generalize natS (dval L) = n0 at q4
          go_wp2_with (go_at_call 95; (with_reducible refine (q4.out _).mono ?_); rintro e wz ⟨rfl, hb⟩; replace hB := below_then hB hb; clear hb)
          go_ret2
          exact ⟨.inl ⟨_, HE.out.1, HE.out.2, rfl⟩, hB⟩
        · have q4 : Hid (Ret 95 #[.string (natS (dval L))] (.tuple #[.int .i64 0, .bool false])) := Lib.hid (Ret.quiet fun W => by
            have := rInt (natS (dval L)) W (by have := HB.out; omega)
            rw [sval_natS, show intRes (dval L) = .tuple #[.int .i64 0, .bool false] from by unfold intRes; rw [if_neg hk]] at this
            exact this)
          have HN := Lib.hid (intS_big hg (by omega))
          clear hg x2 hk
          generalize natS (dval L) = n0 at q4
          go_wp2_with (go_at_call 95; (with_reducible refine (q4.out _).mono ?_); rintro e wz ⟨rfl, hb⟩; replace hB := below_then hB hb; clear hb)
          go_ret2
          exact ⟨.inr ⟨fun z hz => HN.out z hz, 0, rfl⟩, hB⟩
    · have h0' : ¬ (0 : Int) < (s.size : Int) := by omega
      have hg := hL0 (List.eq_nil_of_length_eq_zero (by omega))
      rw [hg] at q1
      have HN := Lib.hid (int_bad h45 hg)
      clear e1 hL hlen h45 hL0 x3 hg
      go_enter Tryz.func124, Tryz.ntmps124
      go_wp2_with fail
      refine (q1.out _).mono ?_
      rintro e w1 ⟨rfl, hB⟩
      go_wp2_with fail
      go_ret2
      exact ⟨.inr ⟨fun z _ => HN.out z, 0, rfl⟩, hB⟩

end Go.Proofs.YtebgmlbbilcbbaaGreatDoor

/- Texts of commitments read back: Read of both. -/
namespace Go.Proofs.YtebgmlbbilcbbaaGreatDoor
open Go.RowKit
attribute [local go_sem] Oper.semAt_some

/-- How a commitment's text is read: what Read of lock and of the reference return. -/
def ComRead (s : ByteArray) (w : World) (e : Ending) (w' : World) : Prop :=
  ((∃ c : Com, c.hash.length = 32 ∧ I64 c.who ∧ s.data.toList = comT c ∧ e = .returned (.tuple #[.agg (comA c), .bool true])) ∨ ((∀ c : Com, c.hash.length = 32 → I64 c.who → s.data.toList ≠ comT c) ∧ e = .returned (.tuple #[.agg (comA comZero), .bool false]))) ∧ Below w.heap.size w w'

theorem wordsL_of {s a b c d : ByteArray} (h : wordsS s = [a, b, c, d]) : wordsL s.data.toList = [a.data.toList, b.data.toList, c.data.toList, d.data.toList] := by
  unfold wordsS at h
  obtain ⟨a', t1, e1, ha, h1⟩ := List.map_eq_cons_iff.1 h
  obtain ⟨b', t2, e2, hb, h2⟩ := List.map_eq_cons_iff.1 h1
  obtain ⟨c', t3, e3, hc, h3⟩ := List.map_eq_cons_iff.1 h2
  obtain ⟨d', t4, e4, hd, h4⟩ := List.map_eq_cons_iff.1 h3
  obtain rfl := List.map_eq_nil_iff.1 h4
  subst e4 e3 e2
  rw [e1, ← ha, ← hb, ← hc, ← hd, strB_list, strB_list, strB_list, strB_list]
theorem com_words {s a b c d : ByteArray} (hw : wordsS s = [a, b, c, d]) (x : Com) (h : s.data.toList = comT x) :
    a.data.toList = [99, 111, 109, 109, 105, 116] ∧ b.data.toList = decI x.who ∧ c.data.toList = hexL x.hash ∧ d.data.toList = hexL x.box := by
  have h1 := wordsL_of hw
  rw [h, show comT x = commitL x.who x.hash x.box from rfl, commit_words] at h1
  injection h1 with e1 h1
  injection h1 with e2 h1
  injection h1 with e3 h1
  injection h1 with e4 h1
  exact ⟨e1.symm, e2.symm, e3.symm, e4.symm⟩
theorem com_of {s a b c d : ByteArray} (hw : wordsS s = [a, b, c, d]) (who : Int) (h bx : List UInt8) (ha : a.data.toList = [99, 111, 109, 109, 105, 116]) (hb : b.data.toList = decI who) (hc : c.data.toList = hexL h) (hd : d.data.toList = hexL bx) :
    s.data.toList = comT ⟨who, h, bx⟩ := commit_of_words (by rw [wordsL_of hw, ha, hb, hc, hd])
theorem com_four {s : ByteArray} (h : (wordsS s).length ≠ 4) (x : Com) : s.data.toList ≠ comT x := fun e => h (by
  unfold wordsS
  rw [e, show comT x = commitL x.who x.hash x.box from rfl, commit_words]; rfl)

set_option maxRecDepth 100000 in
set_option maxHeartbeats 4000000 in
theorem Read_any (s : ByteArray) (hs : s.size ≤ 1000) (w : World) (hT : Tabs w) (hE : ErrV w) (hM : MaxL w) : Calls Tryz.prog 68 #[.string s] w fun e w' => ComRead s w e w' := by
  unfold ComRead
  have hsz0 : (u8a zero32).size = 32 := u8a_len zero32_len
  have m1 := Lib.hid (fun W h => splitW_any s hs W h)
  have HT := Lib.hid hT
  have HE := Lib.hid hE
  have HM := Lib.hid hM
  clear hT hE hM
  by_cases h4 : (wordsS s).length = 4
  · skip
    obtain ⟨a, b, c, d, hw⟩ := list_four h4
    have hz := words_size s
    have HW := Lib.hid (fun x h => com_words hw x h)
    have HO := Lib.hid (fun who h bx ha hb hc hd => com_of hw who h bx ha hb hc hd)
    rw [hw] at m1 hz
    have zb := hz b (by simp)
    have zc := hz c (by simp)
    have zd := hz d (by simp)
    clear hz h4 hw
    have q2 := Lib.hid (fun W h => atoi_any b (by omega) W h)
    have q3 := Lib.hid (fun W => dRead_any c (by omega) W)
    have q4 := Lib.hid (fun W => unhex_any d (by omega) W)
    unfold HashRead at q3
    unfold Unhexed at q4
    go_enter Tryz.func68, Tryz.ntmps68
    go_upto_region 1 with fail
    refine nameOne (comA comZero) rfl ?_
    intro w0 k0 hB
    obtain ⟨H, hH⟩ : ∃ H, H = w.heap.size := ⟨_, rfl⟩
    rw [← hH] at k0 ⊢
    have hgH : w.heap.size ≤ H := by omega
    clear hH
    go_wp2_with fail
    refine (m1.out _ (HM.out.below hB)).mono ?_
    rintro e w1 ⟨A, cc, rfl, hd, hb⟩
    obtain ⟨b0, o0, hA, hcell⟩ := hd.at_ (by simp)
    cases hA
    have c0 : w1.cell? ⟨b0, o0, none⟩ = some (.string a) := hcell 0 a rfl
    have c1 : w1.cell? ⟨b0, o0 + 1, none⟩ = some (.string b) := hcell 1 b rfl
    have c2 : w1.cell? ⟨b0, o0 + 2, none⟩ = some (.string c) := hcell 2 c rfl
    have c3 : w1.cell? ⟨b0, o0 + 3, none⟩ = some (.string d) := hcell 3 d rfl
    clear hd hcell m1
    replace k0 := k0.below hb k0.lt
    replace hB := below_then hB hb
    clear hb
    by_cases ha : a = ⟨#[99, 111, 109, 109, 105, 116]⟩
    · subst ha
      go_wp2_with fail
      refine (q2.out _ (HE.out.below hB)).mono ?_
      rintro e w2 ⟨⟨v, ev, rfl, hv1, hv2, hev⟩, hb⟩
      replace c1 := cell_b hb c1
      replace c2 := cell_b hb c2
      replace c3 := cell_b hb c3
      replace k0 := k0.below hb k0.lt
      replace hB := below_then hB hb
      clear hb c0 q2
      rcases hev with ⟨rfl, hat⟩ | ⟨⟨t, p, rfl⟩, hno⟩
      · have m5 := Lib.hid (itoa_int v ⟨hv1, hv2⟩)
        have hds := decIS_size (z := v) ⟨hv1, hv2⟩
        by_cases hvb : decIS v = b
        · have HBV : Hid (I64 v ∧ b.data.toList = decI v) := Lib.hid ⟨⟨hv1, hv2⟩, by rw [← hvb, decIS_list]⟩
          have hq : ((decIS v).toList == b.toList) = true := by rw [hvb]; simp
          clear hat hvb
          go_upto_region 5 with fail
          have g1 : w2.drew.cell? ⟨b0, o0 + 1, none⟩ = some (.string b) := c1
          have hBd := hB.drew
          go_region_held3 (fun Z : World => Z.cell? ⟨b0, o0 + 1, none⟩ = some (.string b)) (first | exact g1 | exact cell_b hba g1) (first | (go_at_call 85; (with_reducible refine (m5.out _ ?_).mono ?_); (exact HT.out.below hBd); rintro e wa ⟨rfl, hba⟩))
          have hbz := below_then (Below.refl w2.heap.size w2).drew hba
          replace c2 := cell_b hbz c2
          replace c3 := cell_b hbz c3
          replace k0 := k0.below hbz k0.lt
          replace hB := below_then hB hbz
          clear g1 c1 hBd hba hbz m5
          go_wp2_with fail
          refine (q3.out _).mono ?_
          rintro e w3 ⟨hcase, hb⟩
          replace c3 := cell_b hb c3
          replace k0 := k0.below hb k0.lt
          replace hB := below_then hB hb
          clear hb c2
          rcases hcase with ⟨y, hy, hcl, rfl⟩ | ⟨hno, rfl⟩
          · have hsy : (u8a y).size = 32 := u8a_len hy
            have HY := Lib.hid (And.intro hy hcl)
            clear hcl hy
            go_upto_region 8 with (refine wpList_store_rowTo rfl 71 _ _ rfl rfl _ (u8a y) rfl rfl _ _ (Blk.new _ _ _) (by rw [hsy]; exact hash_size) (by rw [hsy]; rfl) (u8a_one _) ?_)
            refine nameStored (u8a y) ?_
            intro w4 k7 hb
            replace c3 := cell_b hb c3
            replace k0 := k0.below hb k0.lt
            replace hB := below_then hB hb
            clear hb
            generalize w3.heap.size = G at k7 ⊢
            go_wp2_with fail
            refine (q4.out _).mono ?_
            rintro e w5 ⟨hcase, hb⟩
            replace k7 := k7.below hb k7.lt
            replace k0 := k0.below hb k0.lt
            replace hB := below_then hB hb
            clear hb c3
            rcases hcase with ⟨bx, hdl, rfl⟩ | ⟨hno, x, rfl⟩
            · have HX : Hid (s.data.toList = comT ⟨v, y, bx⟩) := Lib.hid (HO.out v y bx (by first | exact trivial | rfl) HBV.out.2 HY.out.2 hdl)
              have hcs : (comA ⟨v, y, bx⟩).size = 34 := comA_size (c := ⟨v, y, bx⟩) HY.out.1
              clear hdl
              go_wp2_with (first
                | (refine wpList_load_row rfl 71 _ rfl G rfl _ (u8a y) (0, 0) _ k7 Tryz.underlying71 rfl (by rw [hsy]; exact hash_size) ?_)
                | (refine wpList_buildTo rfl 73 _ rfl _ rfl (comA ⟨v, y, bx⟩) (by simp [Act.eval]; exact com_built3 v y HY.out.1 bx) ?_)
                | (refine wpList_store_rowTo rfl 73 _ _ rfl rfl H (comA ⟨v, y, bx⟩) rfl rfl _ _ k0 (by rw [hcs]; exact com_size) ((comA_size (c := comZero) rfl).trans hcs.symm) (comA_one _) ?_))
              refine bodyPost_ret (results_com (c := ⟨v, y, bx⟩) rfl (k0.rowA _) rfl HY.out.1) rfl ?_
              exact ⟨.inl ⟨⟨v, y, bx⟩, HY.out.1, HBV.out.1, HX.out, rfl⟩, below_setRow hB hgH _⟩
            · have HN : Hid (∀ x : Com, x.hash.length = 32 → I64 x.who → s.data.toList ≠ comT x) := Lib.hid (fun x _ _ e => hno _ (HW.out x e).2.2.2)
              clear hno
              go_wp2_with (refine wpList_store_rowTo rfl 73 _ _ rfl rfl H (comA comZero) rfl rfl _ _ k0 (by rw [comA_size (c := comZero) rfl]; exact com_size) ((comA_size (c := comZero) rfl).trans (comA_size (c := comZero) rfl).symm) (comA_one _) ?_)
              refine bodyPost_ret (results_com (c := comZero) rfl (k0.rowA _) rfl rfl) rfl ?_
              exact ⟨.inr ⟨fun x h1 h2 => HN.out x h1 h2, rfl⟩, below_setRow hB hgH _⟩
          · have HN : Hid (∀ x : Com, x.hash.length = 32 → I64 x.who → s.data.toList ≠ comT x) := Lib.hid (fun x h1 _ e => hno _ h1 (HW.out x e).2.2.1)
            clear hno
            go_upto_region 8 with (refine wpList_store_rowTo rfl 71 _ _ rfl rfl _ (u8a zero32) rfl rfl _ _ (Blk.new _ _ _) (by rw [hsz0]; exact hash_size) rfl (u8a_one _) ?_)
            refine nameStored (u8a zero32) ?_
            intro w4 _ hb
            replace k0 := k0.below hb k0.lt
            replace hB := below_then hB hb
            clear hb
            go_wp2_with (refine wpList_store_rowTo rfl 73 _ _ rfl rfl H (comA comZero) rfl rfl _ _ k0 (by rw [comA_size (c := comZero) rfl]; exact com_size) ((comA_size (c := comZero) rfl).trans (comA_size (c := comZero) rfl).symm) (comA_one _) ?_)
            refine bodyPost_ret (results_com (c := comZero) rfl (k0.rowA _) rfl rfl) rfl ?_
            exact ⟨.inr ⟨fun x h1 h2 => HN.out x h1 h2, rfl⟩, below_setRow hB hgH _⟩
        · have HN : Hid (∀ x : Com, x.hash.length = 32 → I64 x.who → s.data.toList ≠ comT x) := Lib.hid (fun x _ h2 e => hvb (bytes_eq (by
            have h3 := (HW.out x e).2.1
            have h4 := atoi_decI (z := x.who) h2.1 h2.2
            rw [← h3, hat] at h4
            injection h4 with h4
            rw [decIS_list, h3, h4])))
          have hq : ((decIS v).toList == b.toList) = false := str_diff hvb
          clear hat hvb
          go_upto_region 5 with fail
          have g1 : w2.drew.cell? ⟨b0, o0 + 1, none⟩ = some (.string b) := c1
          have hBd := hB.drew
          go_region_held3 (fun Z : World => Z.cell? ⟨b0, o0 + 1, none⟩ = some (.string b)) (first | exact g1 | exact cell_b hba g1) (first | (go_at_call 85; (with_reducible refine (m5.out _ ?_).mono ?_); (exact HT.out.below hBd); rintro e wa ⟨rfl, hba⟩))
          have hbz := below_then (Below.refl w2.heap.size w2).drew hba
          replace c2 := cell_b hbz c2
          replace c3 := cell_b hbz c3
          replace k0 := k0.below hbz k0.lt
          replace hB := below_then hB hbz
          clear g1 c1 hBd hba hbz m5
          go_wp2_with (refine wpList_store_rowTo rfl 73 _ _ rfl rfl H (comA comZero) rfl rfl _ _ k0 (by rw [comA_size (c := comZero) rfl]; exact com_size) ((comA_size (c := comZero) rfl).trans (comA_size (c := comZero) rfl).symm) (comA_one _) ?_)
          refine bodyPost_ret (results_com (c := comZero) rfl (k0.rowA _) rfl rfl) rfl ?_
          exact ⟨.inr ⟨fun x h1 h2 => HN.out x h1 h2, rfl⟩, below_setRow hB hgH _⟩
      · have HN : Hid (∀ x : Com, x.hash.length = 32 → I64 x.who → s.data.toList ≠ comT x) := Lib.hid (fun x _ h2 e => by
          have h3 := (HW.out x e).2.1
          have h4 := atoi_decI (z := x.who) h2.1 h2.2
          rw [← h3] at h4
          exact hno _ h4)
        clear hno
        go_upto_region 5 with fail
        go_quiet (fail)
        replace k0 : Blk (w2.drewN nq) H 73 (comA comZero) := k0
        replace hB := below_drewN hB nq
        go_wp2_with (refine wpList_store_rowTo rfl 73 _ _ rfl rfl H (comA comZero) rfl rfl _ _ k0 (by rw [comA_size (c := comZero) rfl]; exact com_size) ((comA_size (c := comZero) rfl).trans (comA_size (c := comZero) rfl).symm) (comA_one _) ?_)
        refine bodyPost_ret (results_com (c := comZero) rfl (k0.rowA _) rfl rfl) rfl ?_
        exact ⟨.inr ⟨fun x h1 h2 => HN.out x h1 h2, rfl⟩, below_setRow hB hgH _⟩
    · have hq : (a.toList == [99, 111, 109, 109, 105, 116]) = false := by have h0 := str_diff ha; rwa [show (⟨#[99, 111, 109, 109, 105, 116]⟩ : ByteArray).toList = [99, 111, 109, 109, 105, 116] from by decide +kernel] at h0
      have HN : Hid (∀ x : Com, x.hash.length = 32 → I64 x.who → s.data.toList ≠ comT x) := Lib.hid (fun x _ _ e => ha (bytes_eq (HW.out x e).1))
      go_wp2_with (refine wpList_store_rowTo rfl 73 _ _ rfl rfl H (comA comZero) rfl rfl _ _ k0 (by rw [comA_size (c := comZero) rfl]; exact com_size) ((comA_size (c := comZero) rfl).trans (comA_size (c := comZero) rfl).symm) (comA_one _) ?_)
      refine bodyPost_ret (results_com (c := comZero) rfl (k0.rowA _) rfl rfl) rfl ?_
      exact ⟨.inr ⟨fun x h1 h2 => HN.out x h1 h2, rfl⟩, below_setRow hB hgH _⟩
  · have HN : Hid (∀ x : Com, x.hash.length = 32 → I64 x.who → s.data.toList ≠ comT x) := Lib.hid (fun x _ _ => com_four h4 x)
    have hl : (((wordsS s).length : Int) != 4) = true := by simp; omega
    generalize wordsS s = l at *
    go_enter Tryz.func68, Tryz.ntmps68
    go_upto_region 1 with fail
    refine nameOne (comA comZero) rfl ?_
    intro w0 k0 hB
    obtain ⟨H, hH⟩ : ∃ H, H = w.heap.size := ⟨_, rfl⟩
    rw [← hH] at k0 ⊢
    have hgH : w.heap.size ≤ H := by omega
    clear hH
    go_wp2_with fail
    refine (m1.out _ (HM.out.below hB)).mono ?_
    rintro e w1 ⟨A, cc, rfl, hd, hb⟩
    replace k0 := k0.below hb k0.lt
    replace hB := below_then hB hb
    clear h4 hb hd
    go_wp2_with (refine wpList_store_rowTo rfl 73 _ _ rfl rfl H (comA comZero) rfl rfl _ _ k0 (by rw [comA_size (c := comZero) rfl]; exact com_size) ((comA_size (c := comZero) rfl).trans (comA_size (c := comZero) rfl).symm) (comA_one _) ?_)
    refine bodyPost_ret (results_com (c := comZero) rfl (k0.rowA _) rfl rfl) rfl ?_
    exact ⟨.inr ⟨fun x h1 h2 => HN.out x h1 h2, rfl⟩, below_setRow hB hgH _⟩

/-- The three parts, each with whether it was read. -/
theorem IntRead.one {s : ByteArray} {w w' : World} {e : Ending} (h : IntRead s w e w') : ∃ (z : Int) (ok : Bool), e = .returned (.tuple #[.int .i64 z, .bool ok]) ∧ (ok = true → I64 z ∧ s.data.toList = decI z) ∧ (ok = false → ∀ z, I64 z → s.data.toList ≠ decI z) ∧ Below w.heap.size w w' := by
  obtain ⟨h, hb⟩ := h
  rcases h with ⟨z, hz, hl, rfl⟩ | ⟨hno, k, rfl⟩
  · exact ⟨z, true, rfl, fun _ => ⟨hz, hl⟩, fun h => Bool.noConfusion h, hb⟩
  · exact ⟨k, false, rfl, fun h => Bool.noConfusion h, fun _ => hno, hb⟩
theorem HashRead.one {s : ByteArray} {w w' : World} {e : Ending} (h : HashRead s w e w') : ∃ (y : List UInt8) (ok : Bool), e = .returned (.tuple #[.agg (u8a y), .bool ok]) ∧ y.length = 32 ∧ (ok = true → s.data.toList = hexL y) ∧ (ok = false → ∀ y : List UInt8, y.length = 32 → s.data.toList ≠ hexL y) ∧ Below w.heap.size w w' := by
  obtain ⟨h, hb⟩ := h
  rcases h with ⟨y, hy, hl, rfl⟩ | ⟨hno, rfl⟩
  · exact ⟨y, true, rfl, hy, fun _ => hl, fun h => Bool.noConfusion h, hb⟩
  · exact ⟨zero32, false, rfl, zero32_len, fun h => Bool.noConfusion h, fun _ => hno, hb⟩
theorem Unhexed.one {s : ByteArray} {w w' : World} {e : Ending} (h : Unhexed s w e w') : ∃ (y : List UInt8) (ok : Bool), e = .returned (.tuple #[.string (strB y), .bool ok]) ∧ (ok = true → s.data.toList = hexL y) ∧ (ok = false → ∀ y : List UInt8, s.data.toList ≠ hexL y) ∧ Below w.heap.size w w' := by
  obtain ⟨h, hb⟩ := h
  rcases h with ⟨y, hl, rfl⟩ | ⟨hno, x, rfl⟩
  · exact ⟨y, true, rfl, fun _ => hl, fun h => Bool.noConfusion h, hb⟩
  · exact ⟨x.data.toList, false, by rw [strB_self], fun h => Bool.noConfusion h, fun _ => hno, hb⟩

set_option maxRecDepth 100000 in
set_option maxHeartbeats 4000000 in
theorem rRead2_any (s : ByteArray) (hs : s.size ≤ 1000) (w : World) : Calls Tryz.prog 69 #[.string s] w fun e w' => ComRead s w e w' := by
  unfold ComRead
  have hsz0 : (u8a zero32).size = 32 := u8a_len zero32_len
  have m1 := Lib.hid (fun W => rWords_any s hs W)
  by_cases h4 : (wordsS s).length = 4
  · skip
    obtain ⟨a, b, c, d, hw⟩ := list_four h4
    have hz := words_size s
    have HW := Lib.hid (fun x h => com_words hw x h)
    have HO := Lib.hid (fun who h bx ha hb hc hd => com_of hw who h bx ha hb hc hd)
    rw [hw] at m1 hz
    have zb := hz b (by simp)
    have zc := hz c (by simp)
    have zd := hz d (by simp)
    clear hz h4 hw
    have q2 := Lib.hid (fun W => rIntS_any b (by omega) W)
    have q3 := Lib.hid (fun W => rRead_any c (by omega) W)
    have q4 := Lib.hid (fun W => rUnhex_any d (by omega) W)
    have zd2 : d.data.toList.length ≤ 1000 := by rw [size_len]; omega
    have HZD := Lib.hid zd2
    clear zd2
    go_enter Tryz.func69, Tryz.ntmps69
    go_upto_region 1 with fail
    refine nameOne (comA comZero) rfl ?_
    intro w0 k0 hB
    obtain ⟨H, hH⟩ : ∃ H, H = w.heap.size := ⟨_, rfl⟩
    rw [← hH] at k0 ⊢
    have hgH : w.heap.size ≤ H := by omega
    clear hH
    go_wp2_with fail
    refine (m1.out _).mono ?_
    rintro e w1 ⟨A, cc, rfl, hd, hb⟩
    obtain ⟨b0, o0, hA, hcell⟩ := hd.at_ (by simp)
    cases hA
    have c0 : w1.cell? ⟨b0, o0, none⟩ = some (.string a) := hcell 0 a rfl
    have c1 : w1.cell? ⟨b0, o0 + 1, none⟩ = some (.string b) := hcell 1 b rfl
    have c2 : w1.cell? ⟨b0, o0 + 2, none⟩ = some (.string c) := hcell 2 c rfl
    have c3 : w1.cell? ⟨b0, o0 + 3, none⟩ = some (.string d) := hcell 3 d rfl
    clear hd hcell m1
    replace k0 := k0.below hb k0.lt
    replace hB := below_then hB hb
    clear hb
    go_wp2_with fail
    refine (q2.out _).mono ?_
    rintro e w2 hres
    obtain ⟨z, ok1, rfl, hz1, hz2, hb⟩ := hres.one
    have HZ := Lib.hid (And.intro hz1 hz2)
    clear hres hz1 hz2
    replace c2 := cell_b hb c2
    replace c3 := cell_b hb c3
    replace k0 := k0.below hb k0.lt
    replace hB := below_then hB hb
    clear hb c0 c1 q2
    go_wp2_with fail
    refine (q3.out _).mono ?_
    rintro e w3 hres
    obtain ⟨y, ok2, rfl, hy, hy1, hy2, hb⟩ := hres.one
    have HYY := Lib.hid (And.intro hy1 hy2)
    have HY := Lib.hid hy
    have hsy : (u8a y).size = 32 := u8a_len hy
    clear hres hy1 hy2 hy
    replace c3 := cell_b hb c3
    replace k0 := k0.below hb k0.lt
    replace hB := below_then hB hb
    clear hb c2 q3
    go_upto_region 6 with (refine wpList_store_rowTo rfl 71 _ _ rfl rfl _ (u8a y) rfl rfl _ _ (Blk.new _ _ _) (by rw [hsy]; exact hash_size) (by rw [hsy]; rfl) (u8a_one _) ?_)
    refine nameStored (u8a y) ?_
    intro w4 k7 hb
    replace c3 := cell_b hb c3
    replace k0 := k0.below hb k0.lt
    replace hB := below_then hB hb
    clear hb
    generalize w3.heap.size = G at k7 ⊢
    go_wp2_with fail
    refine (q4.out _).mono ?_
    rintro e w5 hres
    obtain ⟨bx, ok3, rfl, hx1, hx2, hb⟩ := hres.one
    have HX := Lib.hid (And.intro hx1 hx2)
    replace k7 := k7.below hb k7.lt
    replace k0 := k0.below hb k0.lt
    replace hB := below_then hB hb
    clear hb c3 hres hx1 hx2 q4
    have hcs : (comA ⟨z, y, bx⟩).size = 34 := comA_size (c := ⟨z, y, bx⟩) HY.out
    go_upto_region 8 with (first
      | (refine wpList_load_row rfl 71 _ rfl G rfl _ (u8a y) (0, 0) _ k7 Tryz.underlying71 rfl (by rw [hsy]; exact hash_size) ?_)
      | (refine wpList_buildTo rfl 73 _ rfl _ rfl (comA ⟨z, y, bx⟩) (by simp [Act.eval]; exact com_built3 z y HY.out bx) ?_)
      | (refine wpList_store_rowTo rfl 73 _ _ rfl rfl _ (comA ⟨z, y, bx⟩) rfl rfl _ _ (Blk.new _ _ _) (by rw [hcs]; exact com_size) (by rw [hcs]; rfl) (comA_one _) ?_))
    refine nameStored (comA ⟨z, y, bx⟩) ?_
    intro w6 k11 hb
    replace k0 := k0.below hb k0.lt
    replace hB := below_then hB hb
    clear hb k7
    generalize w5.heap.size = E at k11 ⊢
    cases ok1 with
    | false =>
      have HN : Hid (∀ x : Com, x.hash.length = 32 → I64 x.who → s.data.toList ≠ comT x) := Lib.hid (fun x _ h2 e => HZ.out.2 rfl _ h2 (HW.out x e).2.1)
      go_wp2_with (refine wpList_store_rowTo rfl 73 _ _ rfl rfl H (comA comZero) rfl rfl _ _ k0 (by rw [comA_size (c := comZero) rfl]; exact com_size) ((comA_size (c := comZero) rfl).trans (comA_size (c := comZero) rfl).symm) (comA_one _) ?_)
      refine bodyPost_ret (results_com (c := comZero) rfl (k0.rowA _) rfl rfl) rfl ?_
      exact ⟨.inr ⟨fun x h1 h2 => HN.out x h1 h2, rfl⟩, below_setRow hB hgH _⟩
    | true =>
      cases ok2 with
      | false =>
        have HN : Hid (∀ x : Com, x.hash.length = 32 → I64 x.who → s.data.toList ≠ comT x) := Lib.hid (fun x h1 _ e => HYY.out.2 rfl _ h1 (HW.out x e).2.2.1)
        go_wp2_with (refine wpList_store_rowTo rfl 73 _ _ rfl rfl H (comA comZero) rfl rfl _ _ k0 (by rw [comA_size (c := comZero) rfl]; exact com_size) ((comA_size (c := comZero) rfl).trans (comA_size (c := comZero) rfl).symm) (comA_one _) ?_)
        refine bodyPost_ret (results_com (c := comZero) rfl (k0.rowA _) rfl rfl) rfl ?_
        exact ⟨.inr ⟨fun x h1 h2 => HN.out x h1 h2, rfl⟩, below_setRow hB hgH _⟩
      | true =>
        cases ok3 with
        | false =>
          have HN : Hid (∀ x : Com, x.hash.length = 32 → I64 x.who → s.data.toList ≠ comT x) := Lib.hid (fun x _ _ e => HX.out.2 rfl _ (HW.out x e).2.2.2)
          go_wp2_with (refine wpList_store_rowTo rfl 73 _ _ rfl rfl H (comA comZero) rfl rfl _ _ k0 (by rw [comA_size (c := comZero) rfl]; exact com_size) ((comA_size (c := comZero) rfl).trans (comA_size (c := comZero) rfl).symm) (comA_one _) ?_)
          refine bodyPost_ret (results_com (c := comZero) rfl (k0.rowA _) rfl rfl) rfl ?_
          exact ⟨.inr ⟨fun x h1 h2 => HN.out x h1 h2, rfl⟩, below_setRow hB hgH _⟩
        | true =>
          have HC : Hid (I64 z ∧ b.data.toList = decI z ∧ c.data.toList = hexL y ∧ d.data.toList = hexL bx) := Lib.hid ⟨(HZ.out.1 rfl).1, (HZ.out.1 rfl).2, HYY.out.1 rfl, HX.out.1 rfl⟩
          have hbx : bx.length ≤ 1000 := by
            have := HZD.out
            rw [HC.out.2.2.2, hexL_len] at this
            omega
          have m5 := Lib.hid (rcomText_q ⟨z, y, bx⟩ HY.out HC.out.1 hbx)
          clear hbx
          by_cases heq : strB (comT ⟨z, y, bx⟩) = s
          · have hq : ((strB (comT ⟨z, y, bx⟩)).toList == s.toList) = true := by rw [heq]; simp
            have HE : Hid (s.data.toList = comT ⟨z, y, bx⟩) := Lib.hid (by rw [← heq, strB_list])
            clear heq
            go_upto_region 10 with (first
              | (refine wpList_load_rowG (by rfl) 73 _ rfl _ rfl E rfl _ (comA ⟨z, y, bx⟩) (0, 0) _ k11 Tryz.underlying73 rfl (by rw [hcs]; exact com_size) ?_)
              | (go_at_call 67; (with_reducible refine (m5.out _).mono ?_); rintro e wz ⟨rfl, hb⟩; replace k0 := k0.below hb k0.lt; replace k11 := k11.below hb k11.lt; replace hB := below_then hB hb; clear hb))
            go_wp2_with (first
              | (refine wpList_load_row rfl 73 _ rfl E rfl _ (comA ⟨z, y, bx⟩) (0, 0) _ k11 Tryz.underlying73 rfl (by rw [hcs]; exact com_size) ?_)
              | (refine wpList_store_rowTo rfl 73 _ _ rfl rfl H (comA ⟨z, y, bx⟩) rfl rfl _ _ k0 (by rw [hcs]; exact com_size) ((comA_size (c := comZero) rfl).trans hcs.symm) (comA_one _) ?_))
            refine bodyPost_ret (results_com (c := ⟨z, y, bx⟩) rfl (k0.rowA _) rfl HY.out) rfl ?_
            exact ⟨.inl ⟨⟨z, y, bx⟩, HY.out, HC.out.1, HE.out, rfl⟩, below_setRow hB hgH _⟩
          · have hq : ((strB (comT ⟨z, y, bx⟩)).toList == s.toList) = false := str_diff heq
            have HN : Hid (∀ x : Com, x.hash.length = 32 → I64 x.who → s.data.toList ≠ comT x) := Lib.hid (fun x _ _ e => by
              have h1 := HW.out x e
              have h2 := HO.out z y bx h1.1 HC.out.2.1 HC.out.2.2.1 HC.out.2.2.2
              exact heq (by rw [← h2, strB_self]))
            clear heq
            go_wp2_with (first
              | (refine wpList_load_rowG (by rfl) 73 _ rfl _ rfl E rfl _ (comA ⟨z, y, bx⟩) (0, 0) _ k11 Tryz.underlying73 rfl (by rw [hcs]; exact com_size) ?_)
              | (go_at_call 67; (with_reducible refine (m5.out _).mono ?_); rintro e wz ⟨rfl, hb⟩; replace k0 := k0.below hb k0.lt; replace k11 := k11.below hb k11.lt; replace hB := below_then hB hb; clear hb)
              | (refine wpList_store_rowTo rfl 73 _ _ rfl rfl H (comA comZero) rfl rfl _ _ k0 (by rw [comA_size (c := comZero) rfl]; exact com_size) ((comA_size (c := comZero) rfl).trans (comA_size (c := comZero) rfl).symm) (comA_one _) ?_))
            refine bodyPost_ret (results_com (c := comZero) rfl (k0.rowA _) rfl rfl) rfl ?_
            exact ⟨.inr ⟨fun x h1 h2 => HN.out x h1 h2, rfl⟩, below_setRow hB hgH _⟩
  · have HN : Hid (∀ x : Com, x.hash.length = 32 → I64 x.who → s.data.toList ≠ comT x) := Lib.hid (fun x _ _ => com_four h4 x)
    have hl : (((wordsS s).length : Int) != 4) = true := by simp; omega
    generalize wordsS s = l at *
    go_enter Tryz.func69, Tryz.ntmps69
    go_upto_region 1 with fail
    refine nameOne (comA comZero) rfl ?_
    intro w0 k0 hB
    obtain ⟨H, hH⟩ : ∃ H, H = w.heap.size := ⟨_, rfl⟩
    rw [← hH] at k0 ⊢
    have hgH : w.heap.size ≤ H := by omega
    clear hH
    go_wp2_with fail
    refine (m1.out _).mono ?_
    rintro e w1 ⟨A, cc, rfl, hd, hb⟩
    replace k0 := k0.below hb k0.lt
    replace hB := below_then hB hb
    clear h4 hb hd
    go_wp2_with (refine wpList_store_rowTo rfl 73 _ _ rfl rfl H (comA comZero) rfl rfl _ _ k0 (by rw [comA_size (c := comZero) rfl]; exact com_size) ((comA_size (c := comZero) rfl).trans (comA_size (c := comZero) rfl).symm) (comA_one _) ?_)
    refine bodyPost_ret (results_com (c := comZero) rfl (k0.rowA _) rfl rfl) rfl ?_
    exact ⟨.inr ⟨fun x h1 h2 => HN.out x h1 h2, rfl⟩, below_setRow hB hgH _⟩

end Go.Proofs.YtebgmlbbilcbbaaGreatDoor

/- The law LockTexts. -/
namespace Go.Proofs.YtebgmlbbilcbbaaGreatDoor
open Go.RowKit
attribute [local go_sem] Oper.semAt_some

section
variable {P : Program} {ops : Array Oper} {Q : Exit → Act → World → Prop} {md : Region.Mode} {S : World → Prop}
/-- Three operations come up, ahead of number k. -/
theorem wpAnyS_three {i j l k : Nat} {oi oj ol : Oper} {fuel : Nat} {listed : Array Bool} {a : Act} {w : World} (hi : ops[i]? = some oi) (hj : ops[j]? = some oj) (hl : ops[l]? = some ol) (hr : Region.ready md ops listed = [i, j, l])
    (h1 : ∀ K : Act → World → Prop, Shut (∀ a' w', S w' → (S w' → wpAnyS P md ops Q S k fuel (listed.setIfInBounds i true) a' w') → K a' w') → if Region.wanted oi (yielded ops a.tmps) = true then Oper.wp P oi a w K Q else K (a.put oi.dst undef) w)
    (h2 : ∀ K : Act → World → Prop, Shut (∀ a' w', S w' → (S w' → wpAnyS P md ops Q S k fuel (listed.setIfInBounds j true) a' w') → K a' w') → if Region.wanted oj (yielded ops a.tmps) = true then Oper.wp P oj a w K Q else K (a.put oj.dst undef) w)
    (h3 : ∀ K : Act → World → Prop, Shut (∀ a' w', S w' → (S w' → wpAnyS P md ops Q S k fuel (listed.setIfInBounds l true) a' w') → K a' w') → if Region.wanted ol (yielded ops a.tmps) = true then Oper.wp P ol a w K Q else K (a.put ol.dst undef) w) :
    wpAnyS P md ops Q S k (fuel + 1) listed a w := by
  refine ⟨fun h0 => absurd (hr ▸ h0) (by simp), fun m hm => ?_⟩
  rw [hr] at hm
  rcases List.mem_cons.1 hm with rfl | hm
  · exact wpOp_step hi (fun K' hK => h1 K' (show ∀ a' w', S w' → (S w' → wpAnyS P md ops Q S k fuel (listed.setIfInBounds m true) a' w') → K' a' w' from fun a' w' hs hw => hK a' w' ⟨fun _ => hs, hw hs⟩))
  rcases List.mem_cons.1 hm with rfl | hm
  · exact wpOp_step hj (fun K' hK => h2 K' (show ∀ a' w', S w' → (S w' → wpAnyS P md ops Q S k fuel (listed.setIfInBounds m true) a' w') → K' a' w' from fun a' w' hs hw => hK a' w' ⟨fun _ => hs, hw hs⟩))
  · obtain rfl : m = l := by simpa using hm
    exact wpOp_step hl (fun K' hK => h3 K' (show ∀ a' w', S w' → (S w' → wpAnyS P md ops Q S k fuel (listed.setIfInBounds m true) a' w') → K' a' w' from fun a' w' hs hw => hK a' w' ⟨fun _ => hs, hw hs⟩))
end
theorem nameK {K : Act → World → Prop} {a : Act} {W : World} {t : TypeId} {cs : Array Value} (h : ∀ W0 : World, Blk W0 W.heap.size t cs → Below W.heap.size W W0 → K a W0) : K a (W.alloc (.cells cs t)) := h _ (Blk.new _ _ _) (below_al (Below.refl _ _) _)
theorem nameKd {K : Act → World → Prop} {a : Act} {W : World} {t : TypeId} {cs : Array Value} (h : ∀ W0 : World, Blk W0 W.heap.size t cs → Below W.drew.heap.size W.drew W0 → K a W0) : K a ((W.alloc (.cells cs t)).drew) :=
  h _ (Blk.new W.drew t cs) (below_al (Below.refl W.drew.heap.size W.drew) (.cells cs t))
theorem byteT_of (q : Int) : ∃ y : UInt8, IntKind.u8.wrap q = (y.toNat : Int) := ⟨UInt8.ofNat (q % 256).toNat, by rw [u8_wrap, UInt8.toNat_ofNat']; omega⟩
theorem oneT_bdg {w : World} {g : Nat} {y : UInt8} (h : Blk w g 5 #[.int .u8 (y.toNat : Int)]) : BDg w (some ⟨g, 0, none⟩) 1 1 [y] := h.bdg (l := [y]) rfl (Nat.le_refl _)
theorem four_size : (Tryz.prog.info? 98).map (·.size) = some 4 := by kernel_rfl
theorem four_one (a b c d : ByteArray) : (#[Value.string a, .string b, .string c, .string d] : Array Value).all (·.oneCell') = true := all_oneCell_toArray (cs := [Value.string a, .string b, .string c, .string d]) (fun v hv => by
  simp only [List.mem_cons, List.not_mem_nil, or_false] at hv
  rcases hv with rfl | rfl | rfl | rfl <;> rfl)
theorem comT_inj {a b : Com} (h : comT a = comT b) : a = b := by
  obtain ⟨h1, h2, h3⟩ := commitL_inj (show commitL a.who a.hash a.box = commitL b.who b.hash b.box from h)
  cases a
  cases b
  simp_all
/-- Two readings of one text are one. -/
theorem ComRead.one {s : ByteArray} {w w' : World} {e : Ending} (h : ComRead s w e w') : ∃ (c : Com) (ok : Bool), e = .returned (.tuple #[.agg (comA c), .bool ok]) ∧ c.hash.length = 32 ∧ Below w.heap.size w w' ∧
    ∀ (v : World) (f : Ending) (v' : World), ComRead s v f v' → f = .returned (.tuple #[.agg (comA c), .bool ok]) ∧ Below v.heap.size v v' := by
  obtain ⟨h, hb⟩ := h
  rcases h with ⟨c, hc, hi, hl, rfl⟩ | ⟨hno, rfl⟩
  · refine ⟨c, true, rfl, hc, hb, fun v f v' ⟨k, hk⟩ => ⟨?_, hk⟩⟩
    rcases k with ⟨d, hd, hi2, hl2, rfl⟩ | ⟨hno, rfl⟩
    · rw [comT_inj (hl.symm.trans hl2)]
    · exact absurd hl (hno c hc hi)
  · refine ⟨comZero, false, rfl, rfl, hb, fun v f v' ⟨k, hk⟩ => ⟨?_, hk⟩⟩
    rcases k with ⟨d, hd, hi2, hl2, rfl⟩ | ⟨_, rfl⟩
    · exact absurd hl2 (hno d hd hi2)
    · rfl
theorem cut_take (b : List UInt8) (n : Nat) : cutS (strB b) n = strB (b.take n) := bytes_eq (by
  unfold cutS
  rw [strB_size, ext_list, strB_list, strB_list, List.drop_zero, Nat.sub_zero, Nat.min_comm]
  exact (List.take_eq_take_min ..).symm)
theorem comT_size (c : Com) (hc : c.hash.length = 32) (hw : I64 c.who) (hb : c.box.length ≤ 110) : 0 < (comT c).length ∧ (comT c).length ≤ 320 := by
  have h := commit_len c.who c.hash c.box
  have := decI_len hw
  rw [show comT c = commitL c.who c.hash c.box from rfl, h, hc]
  omega

set_option maxRecDepth 100000 in
set_option maxHeartbeats 8000000 in
theorem LockTexts_any (c : Com) (s : ByteArray) (q0 q1 : Int) (w : World) (hT : Tabs w) (hE : ErrV w) (hM : MaxL w) (hc : c.hash.length = 32) (hw : I64 c.who) (hbx : c.box.length ≤ 9223372036854775807) (hs : s.size ≤ 9223372036854775807) (_h0 : I64 q0) (_h1 : I64 q1) :
    Calls Tryz.prog 16 #[.agg (comA c), .string s, .agg #[.int .i64 q0, .int .i64 q1]] w fun e w' => e = .returned (.bool true) ∧ Below w.heap.size w w' := by
  have HT := Lib.hid hT
  have HE := Lib.hid hE
  have HM := Lib.hid hM
  clear hT hE hM
  have ms := Lib.hid sanity11
  have mc1 : Hid (Ret 49 #[.string (strB c.box), .int .i64 110] (.string (cutS (strB c.box) 110))) := Lib.hid (cut_q (strB c.box) 110 (by rw [strB_size]; exact hbx) (by omega))
  rw [cut_take] at mc1
  have mc2 : Hid (Ret 49 #[.string s, .int .i64 200] (.string (cutS s 200))) := Lib.hid (cut_q s 200 hs (by omega))
  obtain ⟨C, hC⟩ : ∃ C : Com, C = ⟨c.who, c.hash, c.box.take 110⟩ := ⟨_, rfl⟩
  have hCc : C.hash.length = 32 := by rw [hC]; exact hc
  have hCw : I64 C.who := by rw [hC]; exact hw
  have hCb : C.box.length ≤ 110 := by rw [hC]; exact List.length_take_le _ _
  have hcs : (comA c).size = 34 := comA_size hc
  have hCs : (comA C).size = 34 := comA_size hCc
  have mt := Lib.hid (comText_q C hCc hCw (by omega))
  have mu := Lib.hid (rcomText_q C hCc hCw (by omega))
  obtain ⟨T, hTT⟩ : ∃ T, T = strB (comT C) := ⟨_, rfl⟩
  have hTl : T.data.toList = comT C := by rw [hTT, strB_list]
  have hT0 : 0 < T.size ∧ T.size ≤ 320 := by rw [hTT, strB_size]; exact comT_size C hCc hCw hCb
  rw [← hTT] at mt mu
  have HR : Hid (∀ (v : World) (f : Ending) (v' : World), ComRead T v f v' → f = .returned (.tuple #[.agg (comA C), .bool true]) ∧ Below v.heap.size v v') := Lib.hid (fun v f v' ⟨k, hk⟩ => by
    refine ⟨?_, hk⟩
    rcases k with ⟨d, hd, hi2, hl2, rfl⟩ | ⟨hno, rfl⟩
    · rw [comT_inj (hTl.symm.trans hl2)]
    · exact absurd hTl (hno C hCc hCw))
  have HCc := Lib.hid hCc
  have hEqC := fun w => run_eq_com hCc hCc 9997 w
  have HC := Lib.hid hC
  obtain ⟨hT1, hT2⟩ := hT0
  have hTT2 := str_same T
  clear hTT hTl hC hCc hCw hCb
  have hset := com_set hc (c.box.take 110)
  rw [← HC.out] at hset
  have HSET := Lib.hid hset
  have HCB := Lib.hid (com_box hc)
  clear hset hc hw hbx
  go_enter Tryz.func16, Tryz.ntmps16
  go_upto_region 1 with fail
  refine name2e (comA c) #[.int .i64 q0, .int .i64 q1] rfl rfl ?_
  intro w0 kA kQ hB _
  obtain ⟨BA, hBA⟩ : ∃ B, B = w.heap.size := ⟨_, rfl⟩
  rw [← hBA] at kA kQ ⊢
  have hgA : w.heap.size ≤ BA := by omega
  clear hBA
  go_upto_region 2 with (go_at_call 48; (with_reducible refine (ms.out _ ?_).mono ?_); exact HT.out.below hB; rintro e wz ⟨rfl, hb⟩; replace kA := kA.below hb kA.lt; replace kQ := kQ.below hb kQ.lt; replace hB := below_then hB hb; clear hb)
  have c33 : wz.cell? ⟨BA, 33, none⟩ = some (.string (strB c.box)) := (kA.cell 33).trans HCB.out
  have f33 := kA.frozen 33
  go_wp2_with fail
  refine (mc1.out _).mono ?_
  rintro e wy ⟨rfl, hb⟩
  replace f33 := frozen_c hb c33 f33
  replace c33 := cell_b hb c33
  replace kA := kA.below hb kA.lt
  replace kQ := kQ.below hb kQ.lt
  replace hB := below_then hB hb
  clear hb mc1 ms
  go_upto_region 3 with fail
  have hk := kA.set_ 33 (.string (strB (c.box.take 110)))
  rw [HSET.out] at hk
  replace hB := below_set hB (p := ⟨BA, 33, none⟩) hgA (.string (strB (c.box.take 110)))
  replace kQ := kQ.grown (grown_set (grown_refl wy (some BA)) 33 (.string (strB (c.box.take 110)))) (by intro e; injection e with e; omega)
  clear c33 f33 kA hgA HSET HCB hcs HC
  generalize World.setCell wy ⟨BA, 33, none⟩ (.string (strB (c.box.take 110))) = w2 at hk hB kQ ⊢
  have kA := hk
  clear hk
  go_upto_region 6 with (first
    | (refine wpList_load_row rfl 73 _ rfl BA rfl _ (comA C) (0, 0) _ kA Tryz.underlying73 rfl (by rw [hCs]; exact com_size) ?_)
    | (refine wpList_load_rowG (by rfl) 73 _ rfl _ rfl BA rfl _ (comA C) (0, 0) _ kA Tryz.underlying73 rfl (by rw [hCs]; exact com_size) ?_)
    | (go_at_call 66; (with_reducible refine (mt.out _ ?_).mono ?_); exact HT.out.below hB; rintro e wz ⟨rfl, hb⟩; replace kA := kA.below hb kA.lt; replace kQ := kQ.below hb kQ.lt; replace hB := below_then hB hb; clear hb)
    | (go_at_call 67; (with_reducible refine (mu.out _).mono ?_); rintro e wz ⟨rfl, hb⟩; replace kA := kA.below hb kA.lt; replace kQ := kQ.below hb kQ.lt; replace hB := below_then hB hb; clear hb))
  clear mt mu
  go_wp2_with fail
  refine (Read_any T (by omega) _ (HT.out.below hB) (HE.out.below hB) (HM.out.below hB)).mono ?_
  rintro e w3 hres
  obtain ⟨rfl, hb⟩ := HR.out _ _ _ hres
  replace kA := kA.below hb kA.lt
  replace kQ := kQ.below hb kQ.lt
  replace hB := below_then hB hb
  clear hb hres HR
  go_upto_region 7 with (refine wpList_store_rowTo rfl 73 _ _ rfl rfl _ (comA C) rfl rfl _ _ (Blk.new _ _ _) (by rw [hCs]; exact com_size) (by rw [hCs]; rfl) (comA_one _) ?_)
  refine nameStored (comA C) ?_
  intro w4 kB hb
  replace kA := kA.below hb kA.lt
  replace kQ := kQ.below hb kQ.lt
  replace hB := below_then hB hb
  clear hb
  generalize w3.heap.size = BB at kB ⊢
  obtain ⟨k, hk, hk2⟩ : ∃ k : Nat, q0 % (T.size : Int) = (k : Int) ∧ k < T.size := by
    have h1 := Int.emod_nonneg q0 (b := (T.size : Int)) (by omega)
    have h2 := Int.emod_lt_of_pos q0 (b := (T.size : Int)) (by omega)
    exact ⟨(q0 % (T.size : Int)).toNat, by omega, by omega⟩
  have mk : Hid (Ret 54 #[.int .i64 q0, .int .i64 (T.size : Int)] (.int .i64 (k : Int))) := Lib.hid (hk ▸ Mod_q q0 (T.size : Int) (by omega) (by omega))
  obtain ⟨y, hy⟩ := byteT_of q1
  clear hk
  have e0 : w4.cell? ⟨BA + 1, 0, none⟩ = some (.int .i64 q0) := kQ.cell 0
  go_upto_region 8 with (go_at_call 54; (with_reducible refine (mk.out _).mono ?_); rintro e w5 ⟨rfl, hb⟩; replace kA := kA.below hb kA.lt; replace kB := kB.below hb kB.lt; replace kQ := kQ.below hb kQ.lt; replace hB := below_then hB hb; clear hb)
  clear e0 mk
  have e1 : w5.drew.cell? ⟨BA + 1, 1, none⟩ = some (.int .i64 q1) := kQ.cell 1
  obtain ⟨p, hpk⟩ : ∃ p, p = k + 1 := ⟨_, rfl⟩
  have hps : p ≤ T.size := by omega
  have hpw : IntKind.i64.wrap ((k : Int) + 1) = (p : Int) := (IntWalk.i64_in _ (by omega)).trans (by omega)
  have hq : (T.extract p T.size).size ≤ 320 := by rw [ByteArray.size_extract]; omega
  have hkx : (T.extract 0 k).size ≤ 320 := by rw [ByteArray.size_extract]; omega
  have hcut := cutS_le s 200
  have hts : ∀ x ∈ [cutS s 200, (T.extract 0 k ++ ⟨#[y]⟩) ++ T.extract p T.size, T ++ ⟨#[32]⟩, T.extract 0 k], x.size ≤ 1000 := by
    intro x hx
    have h1 : (⟨#[y]⟩ : ByteArray).size = 1 := rfl
    have h2 : (⟨#[32]⟩ : ByteArray).size = 1 := rfl
    simp only [List.mem_cons, List.not_mem_nil, or_false] at hx
    rcases hx with rfl | rfl | rfl | rfl
    · omega
    · rw [ByteArray.size_append, ByteArray.size_append, h1]; omega
    · rw [ByteArray.size_append, h2]; omega
    · omega
  have HTS := Lib.hid hts
  clear hpk hts hq hkx hcut
  go_cut [12] (fun s12 wx => ∃ KB : Nat, s12 = .pointer (some ⟨KB, 0, none⟩) ∧ Blk wx KB 98 (([cutS s 200, (T.extract 0 k ++ ⟨#[y]⟩) ++ T.extract p T.size, T ++ ⟨#[32]⟩, T.extract 0 k].map Value.string).toArray) ∧ Below w5.drew.heap.size w5.drew wx)
  case first =>
    have hk3 : k ≤ T.size := by omega
    have hk4 : (k : Int) ≤ (T.size : Int) := by omega
    have hp0 : (0 : Int) ≤ (p : Int) := by omega
    have hp4 : (p : Int) ≤ (T.size : Int) := by omega
    have zk : ¬ 9223372036854775807 < k + 1 := by omega
    have zk2 : ¬ 9223372036854775807 < k + 1 + (T.size - p) := by omega
    have zk3 : ¬ 9223372036854775807 < T.size + 1 := by omega
    have hBq : Below w5.drew.heap.size w5.drew w5.drew := Below.refl _ _
    refine region_here (fun Z => Z.cell? ⟨BA + 1, 1, none⟩ = some (.int .i64 q1) ∧ Below w5.drew.heap.size w5.drew Z) 23 (by kernel_rfl) ⟨e1, hBq⟩ (fun hHeld => ?_)
    refine wpAnyS_take [1, 21, 23] (i := 0) (oi := ⟨_, _, _, _, _, _⟩) (v := ?_) (by simp) (by kernel_rfl) rfl (by kernel_rfl) (by kernel_rfl) (by kernel_rfl) (fun _ _ _ h => h) (Or.inl ⟨by rfl, ?_⟩) (by assumption) ?_
    rotate_left
    · (intro w hSw; (try dsimp only at hSw); go_simp; try with_reducible rfl)
    try simp only [Act.put, List.setIfInBounds_toArray, List.set_cons_zero, List.set_cons_succ]
    refine wpAnyS_take [4, 10, 15, 21, 23] (i := 2) (oi := ⟨_, _, _, _, _, _⟩) (v := ?_) (by simp) (by kernel_rfl) rfl (by kernel_rfl) (by kernel_rfl) (by kernel_rfl) (fun _ _ _ h => h) (Or.inl ⟨by rfl, ?_⟩) (by assumption) ?_
    rotate_left
    · (intro w hSw; (try dsimp only at hSw); go_simp; try with_reducible rfl)
    try simp only [Act.put, List.setIfInBounds_toArray, List.set_cons_zero, List.set_cons_succ]
    refine wpAnyS_take [4, 10, 15, 21, 23] (i := 3) (oi := ⟨_, _, _, _, _, _⟩) (v := ?_) (by simp) (by kernel_rfl) rfl (by kernel_rfl) (by kernel_rfl) (by kernel_rfl) (fun _ _ _ h => h) (Or.inl ⟨by rfl, ?_⟩) (by assumption) ?_
    rotate_left
    · (intro w hSw; (try dsimp only at hSw); go_simp; try with_reducible rfl)
    try simp only [Act.put, List.setIfInBounds_toArray, List.set_cons_zero, List.set_cons_succ]
    refine wpAnyS_take [10, 15, 21, 23] (i := 4) (oi := ⟨_, _, _, _, _, _⟩) (v := ?_) (by simp) (by kernel_rfl) rfl (by kernel_rfl) (by kernel_rfl) (by kernel_rfl) (fun _ _ _ h => h) (Or.inl ⟨by rfl, ?_⟩) (by assumption) ?_
    rotate_left
    · (intro w hSw; (try dsimp only at hSw); go_simp; try with_reducible rfl)
    try simp only [Act.put, List.setIfInBounds_toArray, List.set_cons_zero, List.set_cons_succ]
    refine wpAnyS_take [6, 7, 8, 9, 10, 15, 21, 23] (i := 5) (oi := ⟨_, _, _, _, _, _⟩) (v := ?_) (by simp) (by kernel_rfl) rfl (by kernel_rfl) (by kernel_rfl) (by kernel_rfl) (fun _ _ _ h => h) (Or.inl ⟨by rfl, ?_⟩) (by assumption) ?_
    rotate_left
    · (intro w hSw; (try dsimp only at hSw); go_simp; try with_reducible rfl)
    try simp only [Act.put, List.setIfInBounds_toArray, List.set_cons_zero, List.set_cons_succ]
    refine wpAnyS_take [7, 8, 9, 10, 15, 21, 23] (i := 6) (oi := ⟨_, _, _, _, _, _⟩) (v := ?_) (by simp) (by kernel_rfl) rfl (by kernel_rfl) (by kernel_rfl) (by kernel_rfl) (fun _ _ _ h => h) (Or.inl ⟨by rfl, ?_⟩) (by assumption) ?_
    rotate_left
    · (intro w hSw; (try dsimp only at hSw); go_simp; try with_reducible rfl)
    try simp only [Act.put, List.setIfInBounds_toArray, List.set_cons_zero, List.set_cons_succ]
    refine wpAnyS_take [8, 9, 10, 15, 21, 23] (i := 7) (oi := ⟨_, _, _, _, _, _⟩) (v := ?_) (by simp) (by kernel_rfl) rfl (by kernel_rfl) (by kernel_rfl) (by kernel_rfl) (fun _ _ _ h => h) (Or.inl ⟨by rfl, ?_⟩) (by assumption) ?_
    rotate_left
    · (intro w hSw; (try dsimp only at hSw); go_simp; try with_reducible rfl)
    try simp only [Act.put, List.setIfInBounds_toArray, List.set_cons_zero, List.set_cons_succ]
    refine wpAnyS_take [14, 15, 21, 23] (i := 11) (oi := ⟨_, _, _, _, _, _⟩) (v := ?_) (by simp) (by kernel_rfl) rfl (by kernel_rfl) (by kernel_rfl) (by kernel_rfl) (fun _ _ _ h => h) (Or.inl ⟨by rfl, ?_⟩) (by assumption) ?_
    rotate_left
    · (intro w hSw; (try dsimp only at hSw); go_simp; try with_reducible rfl)
    try simp only [Act.put, List.setIfInBounds_toArray, List.set_cons_zero, List.set_cons_succ]
    refine wpAnyS_take [13, 14, 15, 21, 23] (i := 12) (oi := ⟨_, _, _, _, _, _⟩) (v := ?_) (by simp) (by kernel_rfl) rfl (by kernel_rfl) (by kernel_rfl) (by kernel_rfl) (fun _ _ _ h => h) (Or.inl ⟨by rfl, ?_⟩) (by assumption) ?_
    rotate_left
    · (intro w hSw; (try dsimp only at hSw); go_simp; try with_reducible rfl)
    try simp only [Act.put, List.setIfInBounds_toArray, List.set_cons_zero, List.set_cons_succ]
    refine wpAnyS_take [14, 15, 21, 23] (i := 13) (oi := ⟨_, _, _, _, _, _⟩) (v := ?_) (by simp) (by kernel_rfl) rfl (by kernel_rfl) (by kernel_rfl) (by kernel_rfl) (fun _ _ _ h => h) (Or.inl ⟨by rfl, ?_⟩) (by assumption) ?_
    rotate_left
    · (intro w hSw; (try dsimp only at hSw); go_simp; try with_reducible rfl)
    try simp only [Act.put, List.setIfInBounds_toArray, List.set_cons_zero, List.set_cons_succ]
    refine wpAnyS_take [15, 21, 23] (i := 14) (oi := ⟨_, _, _, _, _, _⟩) (v := ?_) (by simp) (by kernel_rfl) rfl (by kernel_rfl) (by kernel_rfl) (by kernel_rfl) (fun _ _ _ h => h) (Or.inl ⟨by rfl, ?_⟩) (by assumption) ?_
    rotate_left
    · (intro w hSw; (try dsimp only at hSw); go_simp; try with_reducible rfl)
    try simp only [Act.put, List.setIfInBounds_toArray, List.set_cons_zero, List.set_cons_succ]
    refine wpAnyS_take [17, 21, 23] (i := 16) (oi := ⟨_, _, _, _, _, _⟩) (v := ?_) (by simp) (by kernel_rfl) rfl (by kernel_rfl) (by kernel_rfl) (by kernel_rfl) (fun _ _ _ h => h) (Or.inl ⟨by rfl, ?_⟩) (by assumption) ?_
    rotate_left
    · (intro w hSw; (try dsimp only at hSw); go_simp; try with_reducible rfl)
    try simp only [Act.put, List.setIfInBounds_toArray, List.set_cons_zero, List.set_cons_succ]
    refine wpAnyS_take [21, 23] (i := 17) (oi := ⟨_, _, _, _, _, _⟩) (v := ?_) (by simp) (by kernel_rfl) rfl (by kernel_rfl) (by kernel_rfl) (by kernel_rfl) (fun _ _ _ h => h) (Or.inl ⟨by rfl, ?_⟩) (by assumption) ?_
    rotate_left
    · (intro w hSw; (try dsimp only at hSw); go_simp; try with_reducible rfl)
    try simp only [Act.put, List.setIfInBounds_toArray, List.set_cons_zero, List.set_cons_succ]
    refine wpAnyS_take [20, 21, 23] (i := 18) (oi := ⟨_, _, _, _, _, _⟩) (v := ?_) (by simp) (by kernel_rfl) rfl (by kernel_rfl) (by kernel_rfl) (by kernel_rfl) (fun _ _ _ h => h) (Or.inl ⟨by rfl, ?_⟩) (by assumption) ?_
    rotate_left
    · (intro w hSw; (try dsimp only at hSw); go_simp; try with_reducible rfl)
    try simp only [Act.put, List.setIfInBounds_toArray, List.set_cons_zero, List.set_cons_succ]
    refine wpAnyS_take [20, 21, 23] (i := 19) (oi := ⟨_, _, _, _, _, _⟩) (v := ?_) (by simp) (by kernel_rfl) rfl (by kernel_rfl) (by kernel_rfl) (by kernel_rfl) (fun _ _ _ h => h) (Or.inl ⟨by rfl, ?_⟩) (by assumption) ?_
    rotate_left
    · (intro w hSw; (try dsimp only at hSw); go_simp; try with_reducible rfl)
    try simp only [Act.put, List.setIfInBounds_toArray, List.set_cons_zero, List.set_cons_succ]
    refine wpAnyS_take [21, 23] (i := 20) (oi := ⟨_, _, _, _, _, _⟩) (v := ?_) (by simp) (by kernel_rfl) rfl (by kernel_rfl) (by kernel_rfl) (by kernel_rfl) (fun _ _ _ h => h) (Or.inl ⟨by rfl, ?_⟩) (by assumption) ?_
    rotate_left
    · (intro w hSw; (try dsimp only at hSw); go_simp; try with_reducible rfl)
    try simp only [Act.put, List.setIfInBounds_toArray, List.set_cons_zero, List.set_cons_succ]
    refine wpAnyS_three (i := 1) (j := 8) (l := 22) (oi := ⟨_, _, _, _, _, _⟩) (oj := ⟨_, _, _, _, _, _⟩) (ol := ⟨_, _, _, _, _, _⟩) rfl rfl rfl (by kernel_rfl) (fun K hK => ?_) (fun K hK => ?_) (fun K hK => ?_)
    · skip
      go_simp
      go_at_call 49
      (with_reducible refine (mc2.out _).mono ?_)
      rintro e wm ⟨rfl, hbs⟩
      (try go_wp2_with fail)
      try replace kb := kb.below hbs kb.lt
      try replace kz := kz.below hbs kz.lt
      replace hBq := below_then hBq hbs
      refine hK.out _ _ ?_ (fun hHeld1 => ?_)
      · exact ⟨cell_b hbs hHeld.1, hBq⟩
      clear hK K
      try simp only [Act.put, List.setIfInBounds_toArray, List.set_cons_zero, List.set_cons_succ]
      refine wpAnyS_two (i := 8) (j := 22) (oi := ⟨_, _, _, _, _, _⟩) (oj := ⟨_, _, _, _, _, _⟩) rfl rfl (by kernel_rfl) (fun K hK => ?_) (fun K hK => ?_)
      · skip
        go_simp
        first
          | refine nameK (K := K) ?_
          | refine nameKd (K := K) ?_
        intro wu kb hbs
        try replace kz := kz.below hbs kz.lt
        replace hBq := below_then hBq hbs
        refine hK.out _ _ ?_ (fun hHeld8 => ?_)
        · exact ⟨cell_b hbs hHeld1.1, hBq⟩
        clear hK K
        try simp only [Act.put, List.setIfInBounds_toArray, List.set_cons_zero, List.set_cons_succ]
        refine wpAnyS_two (i := 9) (j := 22) (oi := ⟨_, _, _, _, _, _⟩) (oj := ⟨_, _, _, _, _, _⟩) rfl rfl (by kernel_rfl) (fun K hK => ?_) (fun K hK => ?_)
        · skip
          have hcv := run_bdg_str (oneT_bdg kb)
          go_simp
          refine hK.out _ _ ?_ (fun hHeld9 => ?_)
          · assumption
          clear hK K
          try simp only [Act.put, List.setIfInBounds_toArray, List.set_cons_zero, List.set_cons_succ]
          refine wpAnyS_take [15, 21, 23] (i := 10) (oi := ⟨_, _, _, _, _, _⟩) (v := ?_) (by simp) (by kernel_rfl) rfl (by kernel_rfl) (by kernel_rfl) (by kernel_rfl) (fun _ _ _ h => h) (Or.inl ⟨by rfl, ?_⟩) (by assumption) ?_
          rotate_left
          · (intro w hSw; (try dsimp only at hSw); go_simp; try with_reducible rfl)
          try simp only [Act.put, List.setIfInBounds_toArray, List.set_cons_zero, List.set_cons_succ]
          refine wpAnyS_take [21, 23] (i := 15) (oi := ⟨_, _, _, _, _, _⟩) (v := ?_) (by simp) (by kernel_rfl) rfl (by kernel_rfl) (by kernel_rfl) (by kernel_rfl) (fun _ _ _ h => h) (Or.inl ⟨by rfl, ?_⟩) (by assumption) ?_
          rotate_left
          · (intro w hSw; (try dsimp only at hSw); go_simp; try with_reducible rfl)
          try simp only [Act.put, List.setIfInBounds_toArray, List.set_cons_zero, List.set_cons_succ]
          refine wpAnyS_take [23] (i := 21) (oi := ⟨_, _, _, _, _, _⟩) (v := ?_) (by simp) (by kernel_rfl) rfl (by kernel_rfl) (by kernel_rfl) (by kernel_rfl) (fun _ _ _ h => h) (Or.inl ⟨by rfl, ?_⟩) (by assumption) ?_
          rotate_left
          · (intro w hSw; (try dsimp only at hSw); go_simp; try with_reducible rfl)
          try simp only [Act.put, List.setIfInBounds_toArray, List.set_cons_zero, List.set_cons_succ]
          refine wpAnyS_one (i := 22) (oi := ⟨_, _, _, _, _, _⟩) rfl (by kernel_rfl) (fun K hK => ?_)
          go_simp
          have hzq := hBq.size
          first
            | refine nameK (K := K) ?_
            | refine nameKd (K := K) ?_
          intro wz kz hbs
          try replace kb := kb.below hbs kb.lt
          replace hBq := below_then hBq hbs
          refine hK.out _ _ ?_ (fun hHeld22 => ?_)
          · exact ⟨cell_b hbs hHeld9.1, hBq⟩
          clear hK K
          try simp only [Act.put, List.setIfInBounds_toArray, List.set_cons_zero, List.set_cons_succ]
          refine wpAnyS_call (k := 23) (ok := ⟨_, _, _, _, _, _⟩) rfl (by kernel_rfl) (by kernel_rfl) (fun K hK => ?_)
          rw [if_pos (by rfl)]
          refine wp_store_row 98 _ _ rfl _ #[.string (cutS s 200), .string ((T.extract 0 k ++ ⟨#[y]⟩) ++ T.extract p T.size), .string (T ++ ⟨#[32]⟩), .string (T.extract 0 k)] rfl rfl _ _ kz four_size rfl (four_one _ _ _ _) ?_
          refine hK.out _ _ ?_
          clear hK K
          try simp only [Act.put]
          refine wpAny_done (by kernel_rfl) ?_ _
          go_wp2_with fail
          go_meet
          exact ⟨_, rfl, kz.rowA _, below_setRow hBq hzq _⟩
        · skip
          go_simp
          have hzq := hBq.size
          first
            | refine nameK (K := K) ?_
            | refine nameKd (K := K) ?_
          intro wz kz hbs
          try replace kb := kb.below hbs kb.lt
          replace hBq := below_then hBq hbs
          refine hK.out _ _ ?_ (fun hHeld22 => ?_)
          · exact ⟨cell_b hbs hHeld8.1, hBq⟩
          clear hK K
          try simp only [Act.put, List.setIfInBounds_toArray, List.set_cons_zero, List.set_cons_succ]
          refine wpAnyS_one (i := 9) (oi := ⟨_, _, _, _, _, _⟩) rfl (by kernel_rfl) (fun K hK => ?_)
          have hcv := run_bdg_str (oneT_bdg kb)
          go_simp
          refine hK.out _ _ ?_ (fun hHeld9 => ?_)
          · assumption
          clear hK K
          try simp only [Act.put, List.setIfInBounds_toArray, List.set_cons_zero, List.set_cons_succ]
          refine wpAnyS_take [15, 21, 23] (i := 10) (oi := ⟨_, _, _, _, _, _⟩) (v := ?_) (by simp) (by kernel_rfl) rfl (by kernel_rfl) (by kernel_rfl) (by kernel_rfl) (fun _ _ _ h => h) (Or.inl ⟨by rfl, ?_⟩) (by assumption) ?_
          rotate_left
          · (intro w hSw; (try dsimp only at hSw); go_simp; try with_reducible rfl)
          try simp only [Act.put, List.setIfInBounds_toArray, List.set_cons_zero, List.set_cons_succ]
          refine wpAnyS_take [21, 23] (i := 15) (oi := ⟨_, _, _, _, _, _⟩) (v := ?_) (by simp) (by kernel_rfl) rfl (by kernel_rfl) (by kernel_rfl) (by kernel_rfl) (fun _ _ _ h => h) (Or.inl ⟨by rfl, ?_⟩) (by assumption) ?_
          rotate_left
          · (intro w hSw; (try dsimp only at hSw); go_simp; try with_reducible rfl)
          try simp only [Act.put, List.setIfInBounds_toArray, List.set_cons_zero, List.set_cons_succ]
          refine wpAnyS_take [23] (i := 21) (oi := ⟨_, _, _, _, _, _⟩) (v := ?_) (by simp) (by kernel_rfl) rfl (by kernel_rfl) (by kernel_rfl) (by kernel_rfl) (fun _ _ _ h => h) (Or.inl ⟨by rfl, ?_⟩) (by assumption) ?_
          rotate_left
          · (intro w hSw; (try dsimp only at hSw); go_simp; try with_reducible rfl)
          try simp only [Act.put, List.setIfInBounds_toArray, List.set_cons_zero, List.set_cons_succ]
          refine wpAnyS_call (k := 23) (ok := ⟨_, _, _, _, _, _⟩) rfl (by kernel_rfl) (by kernel_rfl) (fun K hK => ?_)
          rw [if_pos (by rfl)]
          refine wp_store_row 98 _ _ rfl _ #[.string (cutS s 200), .string ((T.extract 0 k ++ ⟨#[y]⟩) ++ T.extract p T.size), .string (T ++ ⟨#[32]⟩), .string (T.extract 0 k)] rfl rfl _ _ kz four_size rfl (four_one _ _ _ _) ?_
          refine hK.out _ _ ?_
          clear hK K
          try simp only [Act.put]
          refine wpAny_done (by kernel_rfl) ?_ _
          go_wp2_with fail
          go_meet
          exact ⟨_, rfl, kz.rowA _, below_setRow hBq hzq _⟩
      · skip
        go_simp
        have hzq := hBq.size
        first
          | refine nameK (K := K) ?_
          | refine nameKd (K := K) ?_
        intro wz kz hbs
        try replace kb := kb.below hbs kb.lt
        replace hBq := below_then hBq hbs
        refine hK.out _ _ ?_ (fun hHeld22 => ?_)
        · exact ⟨cell_b hbs hHeld1.1, hBq⟩
        clear hK K
        try simp only [Act.put, List.setIfInBounds_toArray, List.set_cons_zero, List.set_cons_succ]
        refine wpAnyS_one (i := 8) (oi := ⟨_, _, _, _, _, _⟩) rfl (by kernel_rfl) (fun K hK => ?_)
        go_simp
        first
          | refine nameK (K := K) ?_
          | refine nameKd (K := K) ?_
        intro wu kb hbs
        try replace kz := kz.below hbs kz.lt
        replace hBq := below_then hBq hbs
        refine hK.out _ _ ?_ (fun hHeld8 => ?_)
        · exact ⟨cell_b hbs hHeld22.1, hBq⟩
        clear hK K
        try simp only [Act.put, List.setIfInBounds_toArray, List.set_cons_zero, List.set_cons_succ]
        refine wpAnyS_one (i := 9) (oi := ⟨_, _, _, _, _, _⟩) rfl (by kernel_rfl) (fun K hK => ?_)
        have hcv := run_bdg_str (oneT_bdg kb)
        go_simp
        refine hK.out _ _ ?_ (fun hHeld9 => ?_)
        · assumption
        clear hK K
        try simp only [Act.put, List.setIfInBounds_toArray, List.set_cons_zero, List.set_cons_succ]
        refine wpAnyS_take [15, 21, 23] (i := 10) (oi := ⟨_, _, _, _, _, _⟩) (v := ?_) (by simp) (by kernel_rfl) rfl (by kernel_rfl) (by kernel_rfl) (by kernel_rfl) (fun _ _ _ h => h) (Or.inl ⟨by rfl, ?_⟩) (by assumption) ?_
        rotate_left
        · (intro w hSw; (try dsimp only at hSw); go_simp; try with_reducible rfl)
        try simp only [Act.put, List.setIfInBounds_toArray, List.set_cons_zero, List.set_cons_succ]
        refine wpAnyS_take [21, 23] (i := 15) (oi := ⟨_, _, _, _, _, _⟩) (v := ?_) (by simp) (by kernel_rfl) rfl (by kernel_rfl) (by kernel_rfl) (by kernel_rfl) (fun _ _ _ h => h) (Or.inl ⟨by rfl, ?_⟩) (by assumption) ?_
        rotate_left
        · (intro w hSw; (try dsimp only at hSw); go_simp; try with_reducible rfl)
        try simp only [Act.put, List.setIfInBounds_toArray, List.set_cons_zero, List.set_cons_succ]
        refine wpAnyS_take [23] (i := 21) (oi := ⟨_, _, _, _, _, _⟩) (v := ?_) (by simp) (by kernel_rfl) rfl (by kernel_rfl) (by kernel_rfl) (by kernel_rfl) (fun _ _ _ h => h) (Or.inl ⟨by rfl, ?_⟩) (by assumption) ?_
        rotate_left
        · (intro w hSw; (try dsimp only at hSw); go_simp; try with_reducible rfl)
        try simp only [Act.put, List.setIfInBounds_toArray, List.set_cons_zero, List.set_cons_succ]
        refine wpAnyS_call (k := 23) (ok := ⟨_, _, _, _, _, _⟩) rfl (by kernel_rfl) (by kernel_rfl) (fun K hK => ?_)
        rw [if_pos (by rfl)]
        refine wp_store_row 98 _ _ rfl _ #[.string (cutS s 200), .string ((T.extract 0 k ++ ⟨#[y]⟩) ++ T.extract p T.size), .string (T ++ ⟨#[32]⟩), .string (T.extract 0 k)] rfl rfl _ _ kz four_size rfl (four_one _ _ _ _) ?_
        refine hK.out _ _ ?_
        clear hK K
        try simp only [Act.put]
        refine wpAny_done (by kernel_rfl) ?_ _
        go_wp2_with fail
        go_meet
        exact ⟨_, rfl, kz.rowA _, below_setRow hBq hzq _⟩
    · skip
      go_simp
      first
        | refine nameK (K := K) ?_
        | refine nameKd (K := K) ?_
      intro wu kb hbs
      try replace kz := kz.below hbs kz.lt
      replace hBq := below_then hBq hbs
      refine hK.out _ _ ?_ (fun hHeld8 => ?_)
      · exact ⟨cell_b hbs hHeld.1, hBq⟩
      clear hK K
      try simp only [Act.put, List.setIfInBounds_toArray, List.set_cons_zero, List.set_cons_succ]
      refine wpAnyS_three (i := 1) (j := 9) (l := 22) (oi := ⟨_, _, _, _, _, _⟩) (oj := ⟨_, _, _, _, _, _⟩) (ol := ⟨_, _, _, _, _, _⟩) rfl rfl rfl (by kernel_rfl) (fun K hK => ?_) (fun K hK => ?_) (fun K hK => ?_)
      · skip
        go_simp
        go_at_call 49
        (with_reducible refine (mc2.out _).mono ?_)
        rintro e wm ⟨rfl, hbs⟩
        (try go_wp2_with fail)
        try replace kb := kb.below hbs kb.lt
        try replace kz := kz.below hbs kz.lt
        replace hBq := below_then hBq hbs
        refine hK.out _ _ ?_ (fun hHeld1 => ?_)
        · exact ⟨cell_b hbs hHeld8.1, hBq⟩
        clear hK K
        try simp only [Act.put, List.setIfInBounds_toArray, List.set_cons_zero, List.set_cons_succ]
        refine wpAnyS_two (i := 9) (j := 22) (oi := ⟨_, _, _, _, _, _⟩) (oj := ⟨_, _, _, _, _, _⟩) rfl rfl (by kernel_rfl) (fun K hK => ?_) (fun K hK => ?_)
        · skip
          have hcv := run_bdg_str (oneT_bdg kb)
          go_simp
          refine hK.out _ _ ?_ (fun hHeld9 => ?_)
          · assumption
          clear hK K
          try simp only [Act.put, List.setIfInBounds_toArray, List.set_cons_zero, List.set_cons_succ]
          refine wpAnyS_take [15, 21, 23] (i := 10) (oi := ⟨_, _, _, _, _, _⟩) (v := ?_) (by simp) (by kernel_rfl) rfl (by kernel_rfl) (by kernel_rfl) (by kernel_rfl) (fun _ _ _ h => h) (Or.inl ⟨by rfl, ?_⟩) (by assumption) ?_
          rotate_left
          · (intro w hSw; (try dsimp only at hSw); go_simp; try with_reducible rfl)
          try simp only [Act.put, List.setIfInBounds_toArray, List.set_cons_zero, List.set_cons_succ]
          refine wpAnyS_take [21, 23] (i := 15) (oi := ⟨_, _, _, _, _, _⟩) (v := ?_) (by simp) (by kernel_rfl) rfl (by kernel_rfl) (by kernel_rfl) (by kernel_rfl) (fun _ _ _ h => h) (Or.inl ⟨by rfl, ?_⟩) (by assumption) ?_
          rotate_left
          · (intro w hSw; (try dsimp only at hSw); go_simp; try with_reducible rfl)
          try simp only [Act.put, List.setIfInBounds_toArray, List.set_cons_zero, List.set_cons_succ]
          refine wpAnyS_take [23] (i := 21) (oi := ⟨_, _, _, _, _, _⟩) (v := ?_) (by simp) (by kernel_rfl) rfl (by kernel_rfl) (by kernel_rfl) (by kernel_rfl) (fun _ _ _ h => h) (Or.inl ⟨by rfl, ?_⟩) (by assumption) ?_
          rotate_left
          · (intro w hSw; (try dsimp only at hSw); go_simp; try with_reducible rfl)
          try simp only [Act.put, List.setIfInBounds_toArray, List.set_cons_zero, List.set_cons_succ]
          refine wpAnyS_one (i := 22) (oi := ⟨_, _, _, _, _, _⟩) rfl (by kernel_rfl) (fun K hK => ?_)
          go_simp
          have hzq := hBq.size
          first
            | refine nameK (K := K) ?_
            | refine nameKd (K := K) ?_
          intro wz kz hbs
          try replace kb := kb.below hbs kb.lt
          replace hBq := below_then hBq hbs
          refine hK.out _ _ ?_ (fun hHeld22 => ?_)
          · exact ⟨cell_b hbs hHeld9.1, hBq⟩
          clear hK K
          try simp only [Act.put, List.setIfInBounds_toArray, List.set_cons_zero, List.set_cons_succ]
          refine wpAnyS_call (k := 23) (ok := ⟨_, _, _, _, _, _⟩) rfl (by kernel_rfl) (by kernel_rfl) (fun K hK => ?_)
          rw [if_pos (by rfl)]
          refine wp_store_row 98 _ _ rfl _ #[.string (cutS s 200), .string ((T.extract 0 k ++ ⟨#[y]⟩) ++ T.extract p T.size), .string (T ++ ⟨#[32]⟩), .string (T.extract 0 k)] rfl rfl _ _ kz four_size rfl (four_one _ _ _ _) ?_
          refine hK.out _ _ ?_
          clear hK K
          try simp only [Act.put]
          refine wpAny_done (by kernel_rfl) ?_ _
          go_wp2_with fail
          go_meet
          exact ⟨_, rfl, kz.rowA _, below_setRow hBq hzq _⟩
        · skip
          go_simp
          have hzq := hBq.size
          first
            | refine nameK (K := K) ?_
            | refine nameKd (K := K) ?_
          intro wz kz hbs
          try replace kb := kb.below hbs kb.lt
          replace hBq := below_then hBq hbs
          refine hK.out _ _ ?_ (fun hHeld22 => ?_)
          · exact ⟨cell_b hbs hHeld1.1, hBq⟩
          clear hK K
          try simp only [Act.put, List.setIfInBounds_toArray, List.set_cons_zero, List.set_cons_succ]
          refine wpAnyS_one (i := 9) (oi := ⟨_, _, _, _, _, _⟩) rfl (by kernel_rfl) (fun K hK => ?_)
          have hcv := run_bdg_str (oneT_bdg kb)
          go_simp
          refine hK.out _ _ ?_ (fun hHeld9 => ?_)
          · assumption
          clear hK K
          try simp only [Act.put, List.setIfInBounds_toArray, List.set_cons_zero, List.set_cons_succ]
          refine wpAnyS_take [15, 21, 23] (i := 10) (oi := ⟨_, _, _, _, _, _⟩) (v := ?_) (by simp) (by kernel_rfl) rfl (by kernel_rfl) (by kernel_rfl) (by kernel_rfl) (fun _ _ _ h => h) (Or.inl ⟨by rfl, ?_⟩) (by assumption) ?_
          rotate_left
          · (intro w hSw; (try dsimp only at hSw); go_simp; try with_reducible rfl)
          try simp only [Act.put, List.setIfInBounds_toArray, List.set_cons_zero, List.set_cons_succ]
          refine wpAnyS_take [21, 23] (i := 15) (oi := ⟨_, _, _, _, _, _⟩) (v := ?_) (by simp) (by kernel_rfl) rfl (by kernel_rfl) (by kernel_rfl) (by kernel_rfl) (fun _ _ _ h => h) (Or.inl ⟨by rfl, ?_⟩) (by assumption) ?_
          rotate_left
          · (intro w hSw; (try dsimp only at hSw); go_simp; try with_reducible rfl)
          try simp only [Act.put, List.setIfInBounds_toArray, List.set_cons_zero, List.set_cons_succ]
          refine wpAnyS_take [23] (i := 21) (oi := ⟨_, _, _, _, _, _⟩) (v := ?_) (by simp) (by kernel_rfl) rfl (by kernel_rfl) (by kernel_rfl) (by kernel_rfl) (fun _ _ _ h => h) (Or.inl ⟨by rfl, ?_⟩) (by assumption) ?_
          rotate_left
          · (intro w hSw; (try dsimp only at hSw); go_simp; try with_reducible rfl)
          try simp only [Act.put, List.setIfInBounds_toArray, List.set_cons_zero, List.set_cons_succ]
          refine wpAnyS_call (k := 23) (ok := ⟨_, _, _, _, _, _⟩) rfl (by kernel_rfl) (by kernel_rfl) (fun K hK => ?_)
          rw [if_pos (by rfl)]
          refine wp_store_row 98 _ _ rfl _ #[.string (cutS s 200), .string ((T.extract 0 k ++ ⟨#[y]⟩) ++ T.extract p T.size), .string (T ++ ⟨#[32]⟩), .string (T.extract 0 k)] rfl rfl _ _ kz four_size rfl (four_one _ _ _ _) ?_
          refine hK.out _ _ ?_
          clear hK K
          try simp only [Act.put]
          refine wpAny_done (by kernel_rfl) ?_ _
          go_wp2_with fail
          go_meet
          exact ⟨_, rfl, kz.rowA _, below_setRow hBq hzq _⟩
      · skip
        have hcv := run_bdg_str (oneT_bdg kb)
        go_simp
        refine hK.out _ _ ?_ (fun hHeld9 => ?_)
        · assumption
        clear hK K
        try simp only [Act.put, List.setIfInBounds_toArray, List.set_cons_zero, List.set_cons_succ]
        refine wpAnyS_take [15, 21, 23] (i := 10) (oi := ⟨_, _, _, _, _, _⟩) (v := ?_) (by simp) (by kernel_rfl) rfl (by kernel_rfl) (by kernel_rfl) (by kernel_rfl) (fun _ _ _ h => h) (Or.inl ⟨by rfl, ?_⟩) (by assumption) ?_
        rotate_left
        · (intro w hSw; (try dsimp only at hSw); go_simp; try with_reducible rfl)
        try simp only [Act.put, List.setIfInBounds_toArray, List.set_cons_zero, List.set_cons_succ]
        refine wpAnyS_take [21, 23] (i := 15) (oi := ⟨_, _, _, _, _, _⟩) (v := ?_) (by simp) (by kernel_rfl) rfl (by kernel_rfl) (by kernel_rfl) (by kernel_rfl) (fun _ _ _ h => h) (Or.inl ⟨by rfl, ?_⟩) (by assumption) ?_
        rotate_left
        · (intro w hSw; (try dsimp only at hSw); go_simp; try with_reducible rfl)
        try simp only [Act.put, List.setIfInBounds_toArray, List.set_cons_zero, List.set_cons_succ]
        refine wpAnyS_two (i := 1) (j := 22) (oi := ⟨_, _, _, _, _, _⟩) (oj := ⟨_, _, _, _, _, _⟩) rfl rfl (by kernel_rfl) (fun K hK => ?_) (fun K hK => ?_)
        · skip
          go_simp
          go_at_call 49
          (with_reducible refine (mc2.out _).mono ?_)
          rintro e wm ⟨rfl, hbs⟩
          (try go_wp2_with fail)
          try replace kb := kb.below hbs kb.lt
          try replace kz := kz.below hbs kz.lt
          replace hBq := below_then hBq hbs
          refine hK.out _ _ ?_ (fun hHeld1 => ?_)
          · exact ⟨cell_b hbs hHeld9.1, hBq⟩
          clear hK K
          try simp only [Act.put, List.setIfInBounds_toArray, List.set_cons_zero, List.set_cons_succ]
          refine wpAnyS_take [23] (i := 21) (oi := ⟨_, _, _, _, _, _⟩) (v := ?_) (by simp) (by kernel_rfl) rfl (by kernel_rfl) (by kernel_rfl) (by kernel_rfl) (fun _ _ _ h => h) (Or.inl ⟨by rfl, ?_⟩) (by assumption) ?_
          rotate_left
          · (intro w hSw; (try dsimp only at hSw); go_simp; try with_reducible rfl)
          try simp only [Act.put, List.setIfInBounds_toArray, List.set_cons_zero, List.set_cons_succ]
          refine wpAnyS_one (i := 22) (oi := ⟨_, _, _, _, _, _⟩) rfl (by kernel_rfl) (fun K hK => ?_)
          go_simp
          have hzq := hBq.size
          first
            | refine nameK (K := K) ?_
            | refine nameKd (K := K) ?_
          intro wz kz hbs
          try replace kb := kb.below hbs kb.lt
          replace hBq := below_then hBq hbs
          refine hK.out _ _ ?_ (fun hHeld22 => ?_)
          · exact ⟨cell_b hbs hHeld1.1, hBq⟩
          clear hK K
          try simp only [Act.put, List.setIfInBounds_toArray, List.set_cons_zero, List.set_cons_succ]
          refine wpAnyS_call (k := 23) (ok := ⟨_, _, _, _, _, _⟩) rfl (by kernel_rfl) (by kernel_rfl) (fun K hK => ?_)
          rw [if_pos (by rfl)]
          refine wp_store_row 98 _ _ rfl _ #[.string (cutS s 200), .string ((T.extract 0 k ++ ⟨#[y]⟩) ++ T.extract p T.size), .string (T ++ ⟨#[32]⟩), .string (T.extract 0 k)] rfl rfl _ _ kz four_size rfl (four_one _ _ _ _) ?_
          refine hK.out _ _ ?_
          clear hK K
          try simp only [Act.put]
          refine wpAny_done (by kernel_rfl) ?_ _
          go_wp2_with fail
          go_meet
          exact ⟨_, rfl, kz.rowA _, below_setRow hBq hzq _⟩
        · skip
          go_simp
          have hzq := hBq.size
          first
            | refine nameK (K := K) ?_
            | refine nameKd (K := K) ?_
          intro wz kz hbs
          try replace kb := kb.below hbs kb.lt
          replace hBq := below_then hBq hbs
          refine hK.out _ _ ?_ (fun hHeld22 => ?_)
          · exact ⟨cell_b hbs hHeld9.1, hBq⟩
          clear hK K
          try simp only [Act.put, List.setIfInBounds_toArray, List.set_cons_zero, List.set_cons_succ]
          refine wpAnyS_one (i := 1) (oi := ⟨_, _, _, _, _, _⟩) rfl (by kernel_rfl) (fun K hK => ?_)
          go_simp
          go_at_call 49
          (with_reducible refine (mc2.out _).mono ?_)
          rintro e wm ⟨rfl, hbs⟩
          (try go_wp2_with fail)
          try replace kb := kb.below hbs kb.lt
          try replace kz := kz.below hbs kz.lt
          replace hBq := below_then hBq hbs
          refine hK.out _ _ ?_ (fun hHeld1 => ?_)
          · exact ⟨cell_b hbs hHeld22.1, hBq⟩
          clear hK K
          try simp only [Act.put, List.setIfInBounds_toArray, List.set_cons_zero, List.set_cons_succ]
          refine wpAnyS_take [23] (i := 21) (oi := ⟨_, _, _, _, _, _⟩) (v := ?_) (by simp) (by kernel_rfl) rfl (by kernel_rfl) (by kernel_rfl) (by kernel_rfl) (fun _ _ _ h => h) (Or.inl ⟨by rfl, ?_⟩) (by assumption) ?_
          rotate_left
          · (intro w hSw; (try dsimp only at hSw); go_simp; try with_reducible rfl)
          try simp only [Act.put, List.setIfInBounds_toArray, List.set_cons_zero, List.set_cons_succ]
          refine wpAnyS_call (k := 23) (ok := ⟨_, _, _, _, _, _⟩) rfl (by kernel_rfl) (by kernel_rfl) (fun K hK => ?_)
          rw [if_pos (by rfl)]
          refine wp_store_row 98 _ _ rfl _ #[.string (cutS s 200), .string ((T.extract 0 k ++ ⟨#[y]⟩) ++ T.extract p T.size), .string (T ++ ⟨#[32]⟩), .string (T.extract 0 k)] rfl rfl _ _ kz four_size rfl (four_one _ _ _ _) ?_
          refine hK.out _ _ ?_
          clear hK K
          try simp only [Act.put]
          refine wpAny_done (by kernel_rfl) ?_ _
          go_wp2_with fail
          go_meet
          exact ⟨_, rfl, kz.rowA _, below_setRow hBq hzq _⟩
      · skip
        go_simp
        have hzq := hBq.size
        first
          | refine nameK (K := K) ?_
          | refine nameKd (K := K) ?_
        intro wz kz hbs
        try replace kb := kb.below hbs kb.lt
        replace hBq := below_then hBq hbs
        refine hK.out _ _ ?_ (fun hHeld22 => ?_)
        · exact ⟨cell_b hbs hHeld8.1, hBq⟩
        clear hK K
        try simp only [Act.put, List.setIfInBounds_toArray, List.set_cons_zero, List.set_cons_succ]
        refine wpAnyS_two (i := 1) (j := 9) (oi := ⟨_, _, _, _, _, _⟩) (oj := ⟨_, _, _, _, _, _⟩) rfl rfl (by kernel_rfl) (fun K hK => ?_) (fun K hK => ?_)
        · skip
          go_simp
          go_at_call 49
          (with_reducible refine (mc2.out _).mono ?_)
          rintro e wm ⟨rfl, hbs⟩
          (try go_wp2_with fail)
          try replace kb := kb.below hbs kb.lt
          try replace kz := kz.below hbs kz.lt
          replace hBq := below_then hBq hbs
          refine hK.out _ _ ?_ (fun hHeld1 => ?_)
          · exact ⟨cell_b hbs hHeld22.1, hBq⟩
          clear hK K
          try simp only [Act.put, List.setIfInBounds_toArray, List.set_cons_zero, List.set_cons_succ]
          refine wpAnyS_one (i := 9) (oi := ⟨_, _, _, _, _, _⟩) rfl (by kernel_rfl) (fun K hK => ?_)
          have hcv := run_bdg_str (oneT_bdg kb)
          go_simp
          refine hK.out _ _ ?_ (fun hHeld9 => ?_)
          · assumption
          clear hK K
          try simp only [Act.put, List.setIfInBounds_toArray, List.set_cons_zero, List.set_cons_succ]
          refine wpAnyS_take [15, 21, 23] (i := 10) (oi := ⟨_, _, _, _, _, _⟩) (v := ?_) (by simp) (by kernel_rfl) rfl (by kernel_rfl) (by kernel_rfl) (by kernel_rfl) (fun _ _ _ h => h) (Or.inl ⟨by rfl, ?_⟩) (by assumption) ?_
          rotate_left
          · (intro w hSw; (try dsimp only at hSw); go_simp; try with_reducible rfl)
          try simp only [Act.put, List.setIfInBounds_toArray, List.set_cons_zero, List.set_cons_succ]
          refine wpAnyS_take [21, 23] (i := 15) (oi := ⟨_, _, _, _, _, _⟩) (v := ?_) (by simp) (by kernel_rfl) rfl (by kernel_rfl) (by kernel_rfl) (by kernel_rfl) (fun _ _ _ h => h) (Or.inl ⟨by rfl, ?_⟩) (by assumption) ?_
          rotate_left
          · (intro w hSw; (try dsimp only at hSw); go_simp; try with_reducible rfl)
          try simp only [Act.put, List.setIfInBounds_toArray, List.set_cons_zero, List.set_cons_succ]
          refine wpAnyS_take [23] (i := 21) (oi := ⟨_, _, _, _, _, _⟩) (v := ?_) (by simp) (by kernel_rfl) rfl (by kernel_rfl) (by kernel_rfl) (by kernel_rfl) (fun _ _ _ h => h) (Or.inl ⟨by rfl, ?_⟩) (by assumption) ?_
          rotate_left
          · (intro w hSw; (try dsimp only at hSw); go_simp; try with_reducible rfl)
          try simp only [Act.put, List.setIfInBounds_toArray, List.set_cons_zero, List.set_cons_succ]
          refine wpAnyS_call (k := 23) (ok := ⟨_, _, _, _, _, _⟩) rfl (by kernel_rfl) (by kernel_rfl) (fun K hK => ?_)
          rw [if_pos (by rfl)]
          refine wp_store_row 98 _ _ rfl _ #[.string (cutS s 200), .string ((T.extract 0 k ++ ⟨#[y]⟩) ++ T.extract p T.size), .string (T ++ ⟨#[32]⟩), .string (T.extract 0 k)] rfl rfl _ _ kz four_size rfl (four_one _ _ _ _) ?_
          refine hK.out _ _ ?_
          clear hK K
          try simp only [Act.put]
          refine wpAny_done (by kernel_rfl) ?_ _
          go_wp2_with fail
          go_meet
          exact ⟨_, rfl, kz.rowA _, below_setRow hBq hzq _⟩
        · skip
          have hcv := run_bdg_str (oneT_bdg kb)
          go_simp
          refine hK.out _ _ ?_ (fun hHeld9 => ?_)
          · assumption
          clear hK K
          try simp only [Act.put, List.setIfInBounds_toArray, List.set_cons_zero, List.set_cons_succ]
          refine wpAnyS_take [15, 21, 23] (i := 10) (oi := ⟨_, _, _, _, _, _⟩) (v := ?_) (by simp) (by kernel_rfl) rfl (by kernel_rfl) (by kernel_rfl) (by kernel_rfl) (fun _ _ _ h => h) (Or.inl ⟨by rfl, ?_⟩) (by assumption) ?_
          rotate_left
          · (intro w hSw; (try dsimp only at hSw); go_simp; try with_reducible rfl)
          try simp only [Act.put, List.setIfInBounds_toArray, List.set_cons_zero, List.set_cons_succ]
          refine wpAnyS_take [21, 23] (i := 15) (oi := ⟨_, _, _, _, _, _⟩) (v := ?_) (by simp) (by kernel_rfl) rfl (by kernel_rfl) (by kernel_rfl) (by kernel_rfl) (fun _ _ _ h => h) (Or.inl ⟨by rfl, ?_⟩) (by assumption) ?_
          rotate_left
          · (intro w hSw; (try dsimp only at hSw); go_simp; try with_reducible rfl)
          try simp only [Act.put, List.setIfInBounds_toArray, List.set_cons_zero, List.set_cons_succ]
          refine wpAnyS_one (i := 1) (oi := ⟨_, _, _, _, _, _⟩) rfl (by kernel_rfl) (fun K hK => ?_)
          go_simp
          go_at_call 49
          (with_reducible refine (mc2.out _).mono ?_)
          rintro e wm ⟨rfl, hbs⟩
          (try go_wp2_with fail)
          try replace kb := kb.below hbs kb.lt
          try replace kz := kz.below hbs kz.lt
          replace hBq := below_then hBq hbs
          refine hK.out _ _ ?_ (fun hHeld1 => ?_)
          · exact ⟨cell_b hbs hHeld9.1, hBq⟩
          clear hK K
          try simp only [Act.put, List.setIfInBounds_toArray, List.set_cons_zero, List.set_cons_succ]
          refine wpAnyS_take [23] (i := 21) (oi := ⟨_, _, _, _, _, _⟩) (v := ?_) (by simp) (by kernel_rfl) rfl (by kernel_rfl) (by kernel_rfl) (by kernel_rfl) (fun _ _ _ h => h) (Or.inl ⟨by rfl, ?_⟩) (by assumption) ?_
          rotate_left
          · (intro w hSw; (try dsimp only at hSw); go_simp; try with_reducible rfl)
          try simp only [Act.put, List.setIfInBounds_toArray, List.set_cons_zero, List.set_cons_succ]
          refine wpAnyS_call (k := 23) (ok := ⟨_, _, _, _, _, _⟩) rfl (by kernel_rfl) (by kernel_rfl) (fun K hK => ?_)
          rw [if_pos (by rfl)]
          refine wp_store_row 98 _ _ rfl _ #[.string (cutS s 200), .string ((T.extract 0 k ++ ⟨#[y]⟩) ++ T.extract p T.size), .string (T ++ ⟨#[32]⟩), .string (T.extract 0 k)] rfl rfl _ _ kz four_size rfl (four_one _ _ _ _) ?_
          refine hK.out _ _ ?_
          clear hK K
          try simp only [Act.put]
          refine wpAny_done (by kernel_rfl) ?_ _
          go_wp2_with fail
          go_meet
          exact ⟨_, rfl, kz.rowA _, below_setRow hBq hzq _⟩
    · skip
      go_simp
      have hzq := hBq.size
      first
        | refine nameK (K := K) ?_
        | refine nameKd (K := K) ?_
      intro wz kz hbs
      try replace kb := kb.below hbs kb.lt
      replace hBq := below_then hBq hbs
      refine hK.out _ _ ?_ (fun hHeld22 => ?_)
      · exact ⟨cell_b hbs hHeld.1, hBq⟩
      clear hK K
      try simp only [Act.put, List.setIfInBounds_toArray, List.set_cons_zero, List.set_cons_succ]
      refine wpAnyS_two (i := 1) (j := 8) (oi := ⟨_, _, _, _, _, _⟩) (oj := ⟨_, _, _, _, _, _⟩) rfl rfl (by kernel_rfl) (fun K hK => ?_) (fun K hK => ?_)
      · skip
        go_simp
        go_at_call 49
        (with_reducible refine (mc2.out _).mono ?_)
        rintro e wm ⟨rfl, hbs⟩
        (try go_wp2_with fail)
        try replace kb := kb.below hbs kb.lt
        try replace kz := kz.below hbs kz.lt
        replace hBq := below_then hBq hbs
        refine hK.out _ _ ?_ (fun hHeld1 => ?_)
        · exact ⟨cell_b hbs hHeld22.1, hBq⟩
        clear hK K
        try simp only [Act.put, List.setIfInBounds_toArray, List.set_cons_zero, List.set_cons_succ]
        refine wpAnyS_one (i := 8) (oi := ⟨_, _, _, _, _, _⟩) rfl (by kernel_rfl) (fun K hK => ?_)
        go_simp
        first
          | refine nameK (K := K) ?_
          | refine nameKd (K := K) ?_
        intro wu kb hbs
        try replace kz := kz.below hbs kz.lt
        replace hBq := below_then hBq hbs
        refine hK.out _ _ ?_ (fun hHeld8 => ?_)
        · exact ⟨cell_b hbs hHeld1.1, hBq⟩
        clear hK K
        try simp only [Act.put, List.setIfInBounds_toArray, List.set_cons_zero, List.set_cons_succ]
        refine wpAnyS_one (i := 9) (oi := ⟨_, _, _, _, _, _⟩) rfl (by kernel_rfl) (fun K hK => ?_)
        have hcv := run_bdg_str (oneT_bdg kb)
        go_simp
        refine hK.out _ _ ?_ (fun hHeld9 => ?_)
        · assumption
        clear hK K
        try simp only [Act.put, List.setIfInBounds_toArray, List.set_cons_zero, List.set_cons_succ]
        refine wpAnyS_take [15, 21, 23] (i := 10) (oi := ⟨_, _, _, _, _, _⟩) (v := ?_) (by simp) (by kernel_rfl) rfl (by kernel_rfl) (by kernel_rfl) (by kernel_rfl) (fun _ _ _ h => h) (Or.inl ⟨by rfl, ?_⟩) (by assumption) ?_
        rotate_left
        · (intro w hSw; (try dsimp only at hSw); go_simp; try with_reducible rfl)
        try simp only [Act.put, List.setIfInBounds_toArray, List.set_cons_zero, List.set_cons_succ]
        refine wpAnyS_take [21, 23] (i := 15) (oi := ⟨_, _, _, _, _, _⟩) (v := ?_) (by simp) (by kernel_rfl) rfl (by kernel_rfl) (by kernel_rfl) (by kernel_rfl) (fun _ _ _ h => h) (Or.inl ⟨by rfl, ?_⟩) (by assumption) ?_
        rotate_left
        · (intro w hSw; (try dsimp only at hSw); go_simp; try with_reducible rfl)
        try simp only [Act.put, List.setIfInBounds_toArray, List.set_cons_zero, List.set_cons_succ]
        refine wpAnyS_take [23] (i := 21) (oi := ⟨_, _, _, _, _, _⟩) (v := ?_) (by simp) (by kernel_rfl) rfl (by kernel_rfl) (by kernel_rfl) (by kernel_rfl) (fun _ _ _ h => h) (Or.inl ⟨by rfl, ?_⟩) (by assumption) ?_
        rotate_left
        · (intro w hSw; (try dsimp only at hSw); go_simp; try with_reducible rfl)
        try simp only [Act.put, List.setIfInBounds_toArray, List.set_cons_zero, List.set_cons_succ]
        refine wpAnyS_call (k := 23) (ok := ⟨_, _, _, _, _, _⟩) rfl (by kernel_rfl) (by kernel_rfl) (fun K hK => ?_)
        rw [if_pos (by rfl)]
        refine wp_store_row 98 _ _ rfl _ #[.string (cutS s 200), .string ((T.extract 0 k ++ ⟨#[y]⟩) ++ T.extract p T.size), .string (T ++ ⟨#[32]⟩), .string (T.extract 0 k)] rfl rfl _ _ kz four_size rfl (four_one _ _ _ _) ?_
        refine hK.out _ _ ?_
        clear hK K
        try simp only [Act.put]
        refine wpAny_done (by kernel_rfl) ?_ _
        go_wp2_with fail
        go_meet
        exact ⟨_, rfl, kz.rowA _, below_setRow hBq hzq _⟩
      · skip
        go_simp
        first
          | refine nameK (K := K) ?_
          | refine nameKd (K := K) ?_
        intro wu kb hbs
        try replace kz := kz.below hbs kz.lt
        replace hBq := below_then hBq hbs
        refine hK.out _ _ ?_ (fun hHeld8 => ?_)
        · exact ⟨cell_b hbs hHeld22.1, hBq⟩
        clear hK K
        try simp only [Act.put, List.setIfInBounds_toArray, List.set_cons_zero, List.set_cons_succ]
        refine wpAnyS_two (i := 1) (j := 9) (oi := ⟨_, _, _, _, _, _⟩) (oj := ⟨_, _, _, _, _, _⟩) rfl rfl (by kernel_rfl) (fun K hK => ?_) (fun K hK => ?_)
        · skip
          go_simp
          go_at_call 49
          (with_reducible refine (mc2.out _).mono ?_)
          rintro e wm ⟨rfl, hbs⟩
          (try go_wp2_with fail)
          try replace kb := kb.below hbs kb.lt
          try replace kz := kz.below hbs kz.lt
          replace hBq := below_then hBq hbs
          refine hK.out _ _ ?_ (fun hHeld1 => ?_)
          · exact ⟨cell_b hbs hHeld8.1, hBq⟩
          clear hK K
          try simp only [Act.put, List.setIfInBounds_toArray, List.set_cons_zero, List.set_cons_succ]
          refine wpAnyS_one (i := 9) (oi := ⟨_, _, _, _, _, _⟩) rfl (by kernel_rfl) (fun K hK => ?_)
          have hcv := run_bdg_str (oneT_bdg kb)
          go_simp
          refine hK.out _ _ ?_ (fun hHeld9 => ?_)
          · assumption
          clear hK K
          try simp only [Act.put, List.setIfInBounds_toArray, List.set_cons_zero, List.set_cons_succ]
          refine wpAnyS_take [15, 21, 23] (i := 10) (oi := ⟨_, _, _, _, _, _⟩) (v := ?_) (by simp) (by kernel_rfl) rfl (by kernel_rfl) (by kernel_rfl) (by kernel_rfl) (fun _ _ _ h => h) (Or.inl ⟨by rfl, ?_⟩) (by assumption) ?_
          rotate_left
          · (intro w hSw; (try dsimp only at hSw); go_simp; try with_reducible rfl)
          try simp only [Act.put, List.setIfInBounds_toArray, List.set_cons_zero, List.set_cons_succ]
          refine wpAnyS_take [21, 23] (i := 15) (oi := ⟨_, _, _, _, _, _⟩) (v := ?_) (by simp) (by kernel_rfl) rfl (by kernel_rfl) (by kernel_rfl) (by kernel_rfl) (fun _ _ _ h => h) (Or.inl ⟨by rfl, ?_⟩) (by assumption) ?_
          rotate_left
          · (intro w hSw; (try dsimp only at hSw); go_simp; try with_reducible rfl)
          try simp only [Act.put, List.setIfInBounds_toArray, List.set_cons_zero, List.set_cons_succ]
          refine wpAnyS_take [23] (i := 21) (oi := ⟨_, _, _, _, _, _⟩) (v := ?_) (by simp) (by kernel_rfl) rfl (by kernel_rfl) (by kernel_rfl) (by kernel_rfl) (fun _ _ _ h => h) (Or.inl ⟨by rfl, ?_⟩) (by assumption) ?_
          rotate_left
          · (intro w hSw; (try dsimp only at hSw); go_simp; try with_reducible rfl)
          try simp only [Act.put, List.setIfInBounds_toArray, List.set_cons_zero, List.set_cons_succ]
          refine wpAnyS_call (k := 23) (ok := ⟨_, _, _, _, _, _⟩) rfl (by kernel_rfl) (by kernel_rfl) (fun K hK => ?_)
          rw [if_pos (by rfl)]
          refine wp_store_row 98 _ _ rfl _ #[.string (cutS s 200), .string ((T.extract 0 k ++ ⟨#[y]⟩) ++ T.extract p T.size), .string (T ++ ⟨#[32]⟩), .string (T.extract 0 k)] rfl rfl _ _ kz four_size rfl (four_one _ _ _ _) ?_
          refine hK.out _ _ ?_
          clear hK K
          try simp only [Act.put]
          refine wpAny_done (by kernel_rfl) ?_ _
          go_wp2_with fail
          go_meet
          exact ⟨_, rfl, kz.rowA _, below_setRow hBq hzq _⟩
        · skip
          have hcv := run_bdg_str (oneT_bdg kb)
          go_simp
          refine hK.out _ _ ?_ (fun hHeld9 => ?_)
          · assumption
          clear hK K
          try simp only [Act.put, List.setIfInBounds_toArray, List.set_cons_zero, List.set_cons_succ]
          refine wpAnyS_take [15, 21, 23] (i := 10) (oi := ⟨_, _, _, _, _, _⟩) (v := ?_) (by simp) (by kernel_rfl) rfl (by kernel_rfl) (by kernel_rfl) (by kernel_rfl) (fun _ _ _ h => h) (Or.inl ⟨by rfl, ?_⟩) (by assumption) ?_
          rotate_left
          · (intro w hSw; (try dsimp only at hSw); go_simp; try with_reducible rfl)
          try simp only [Act.put, List.setIfInBounds_toArray, List.set_cons_zero, List.set_cons_succ]
          refine wpAnyS_take [21, 23] (i := 15) (oi := ⟨_, _, _, _, _, _⟩) (v := ?_) (by simp) (by kernel_rfl) rfl (by kernel_rfl) (by kernel_rfl) (by kernel_rfl) (fun _ _ _ h => h) (Or.inl ⟨by rfl, ?_⟩) (by assumption) ?_
          rotate_left
          · (intro w hSw; (try dsimp only at hSw); go_simp; try with_reducible rfl)
          try simp only [Act.put, List.setIfInBounds_toArray, List.set_cons_zero, List.set_cons_succ]
          refine wpAnyS_one (i := 1) (oi := ⟨_, _, _, _, _, _⟩) rfl (by kernel_rfl) (fun K hK => ?_)
          go_simp
          go_at_call 49
          (with_reducible refine (mc2.out _).mono ?_)
          rintro e wm ⟨rfl, hbs⟩
          (try go_wp2_with fail)
          try replace kb := kb.below hbs kb.lt
          try replace kz := kz.below hbs kz.lt
          replace hBq := below_then hBq hbs
          refine hK.out _ _ ?_ (fun hHeld1 => ?_)
          · exact ⟨cell_b hbs hHeld9.1, hBq⟩
          clear hK K
          try simp only [Act.put, List.setIfInBounds_toArray, List.set_cons_zero, List.set_cons_succ]
          refine wpAnyS_take [23] (i := 21) (oi := ⟨_, _, _, _, _, _⟩) (v := ?_) (by simp) (by kernel_rfl) rfl (by kernel_rfl) (by kernel_rfl) (by kernel_rfl) (fun _ _ _ h => h) (Or.inl ⟨by rfl, ?_⟩) (by assumption) ?_
          rotate_left
          · (intro w hSw; (try dsimp only at hSw); go_simp; try with_reducible rfl)
          try simp only [Act.put, List.setIfInBounds_toArray, List.set_cons_zero, List.set_cons_succ]
          refine wpAnyS_call (k := 23) (ok := ⟨_, _, _, _, _, _⟩) rfl (by kernel_rfl) (by kernel_rfl) (fun K hK => ?_)
          rw [if_pos (by rfl)]
          refine wp_store_row 98 _ _ rfl _ #[.string (cutS s 200), .string ((T.extract 0 k ++ ⟨#[y]⟩) ++ T.extract p T.size), .string (T ++ ⟨#[32]⟩), .string (T.extract 0 k)] rfl rfl _ _ kz four_size rfl (four_one _ _ _ _) ?_
          refine hK.out _ _ ?_
          clear hK K
          try simp only [Act.put]
          refine wpAny_done (by kernel_rfl) ?_ _
          go_wp2_with fail
          go_meet
          exact ⟨_, rfl, kz.rowA _, below_setRow hBq hzq _⟩
  obtain ⟨KB, rfl, kT, hb⟩ := hcut
  rename World => w6
  replace kA := kA.below (below_then (Below.refl w5.heap.size w5).drew hb) kA.lt
  replace kB := kB.below (below_then (Below.refl w5.heap.size w5).drew hb) kB.lt
  replace hB := below_then hB.drew hb
  clear hb kQ e1 hpw hy hk2 hps mc2
  have hln : [cutS s 200, (T.extract 0 k ++ ⟨#[y]⟩) ++ T.extract p T.size, T ++ ⟨#[32]⟩, T.extract 0 k].length = 4 := rfl
  generalize [cutS s 200, (T.extract 0 k ++ ⟨#[y]⟩) ++ T.extract p T.size, T ++ ⟨#[32]⟩, T.extract 0 k] = ts at kT HTS hln
  have HLN := Lib.hid hln
  clear hln hT1 hT2 hTT2
  have hnb : ∀ b : Bool, (b != b) = false := fun b => by simp
  go_wp2_with fail
  go_loopw [13, 14, 15, 16, 17] (fun s13 _ _ _ _ wr => ∃ i : Nat, i ≤ 4 ∧ s13 = .int .i64 (i : Int) ∧ Blk wr KB 98 ((ts.map Value.string).toArray) ∧ Blk wr BA 73 (comA C) ∧ Blk wr BB 73 (comA C) ∧ Below w.heap.size w wr) (fun s13 _ _ _ _ _ => 4 - (intOf s13).toNat)
  case atStart => exact ⟨0, by omega, rfl, kT, kA, kB, hB⟩
  case round =>
    obtain ⟨i, hi, rfl, kT, kA, kB, hB⟩ := hrel
    by_cases hlt : i < 4
    · have hlt' : (i : Int) < 4 := by omega
      have hi0 : (0 : Int) ≤ (i : Int) := by omega
      obtain ⟨x, hx⟩ : ∃ x, ts[i]? = some x := ⟨_, List.getElem?_eq_getElem (by rw [HLN.out]; exact hlt)⟩
      have hxs := HTS.out x (List.mem_of_getElem? hx)
      have HX := Lib.hid hx
      have ci : wr.cell? ⟨KB, i, none⟩ = some (.string x) := (kT.cell i).trans (by simp [hx])
      clear hx
      go_wp2_with fail
      refine (Read_any x hxs _ (HT.out.below hB) (HE.out.below hB) (HM.out.below hB)).mono ?_
      rintro e w7 hres
      obtain ⟨d, ok, rfl, hd, hb, hall⟩ := hres.one
      have HALL := Lib.hid hall
      have hds : (comA d).size = 34 := comA_size hd
      have hEqd := fun w => run_eq_com hd hd 9997 w
      replace kT := kT.below hb kT.lt
      replace kA := kA.below hb kA.lt
      replace kB := kB.below hb kB.lt
      replace hB := below_then hB hb
      clear hb hres hall ci hd
      go_upto_region 13 with (refine wpList_store_rowTo rfl 73 _ _ rfl rfl _ (comA d) rfl rfl _ _ (Blk.new _ _ _) (by rw [hds]; exact com_size) (by rw [hds]; rfl) (comA_one _) ?_)
      refine nameStored (comA d) ?_
      intro w8 k14 hb
      replace kT := kT.below hb kT.lt
      replace kA := kA.below hb kA.lt
      replace kB := kB.below hb kB.lt
      replace hB := below_then hB hb
      clear hb
      generalize w7.heap.size = G1 at k14 ⊢
      have ci : w8.cell? ⟨KB, i, none⟩ = some (.string x) := (kT.cell i).trans (by have := HX.out; simp [this])
      go_wp2_with fail
      refine (rRead2_any x hxs _).mono ?_
      rintro e w9 hres
      obtain ⟨rfl, hb⟩ := HALL.out _ _ _ hres
      replace k14 := k14.below hb k14.lt
      replace kT := kT.below hb kT.lt
      replace kA := kA.below hb kA.lt
      replace kB := kB.below hb kB.lt
      replace hB := below_then hB hb
      clear hb hres ci
      go_upto_region 14 with (refine wpList_store_rowTo rfl 73 _ _ rfl rfl _ (comA d) rfl rfl _ _ (Blk.new _ _ _) (by rw [hds]; exact com_size) (by rw [hds]; rfl) (comA_one _) ?_)
      refine nameStored (comA d) ?_
      intro w10 k16 hb
      replace k14 := k14.below hb k14.lt
      replace kT := kT.below hb kT.lt
      replace kA := kA.below hb kA.lt
      replace kB := kB.below hb kB.lt
      replace hB := below_then hB hb
      clear hb
      generalize w9.heap.size = G2 at k16 ⊢
      go_wp2_with (first
        | (refine wpList_load_row rfl 73 _ rfl G1 rfl _ (comA d) (0, 0) _ k14 Tryz.underlying73 rfl (by rw [hds]; exact com_size) ?_)
        | (refine wpList_load_row rfl 73 _ rfl G2 rfl _ (comA d) (0, 0) _ k16 Tryz.underlying73 rfl (by rw [hds]; exact com_size) ?_))
      go_roundw
      case rel => exact ⟨i + 1, by omega, by go_num, kT, kA, kB, hB⟩
      case measure => simp [intOf]; omega
    · obtain rfl : i = 4 := by omega
      go_wp2_with (first
        | (refine wpList_load_rowG (by rfl) 73 _ rfl _ rfl BB rfl _ (comA C) (0, 0) _ kB Tryz.underlying73 rfl (by rw [hCs]; exact com_size) ?_)
        | (refine wpList_load_rowG (by rfl) 73 _ rfl _ rfl BA rfl _ (comA C) (0, 0) _ kA Tryz.underlying73 rfl (by rw [hCs]; exact com_size) ?_))
      go_ret
      exact ⟨by simp, hB⟩

end Go.Proofs.YtebgmlbbilcbbaaGreatDoor

/- A commitment among the arguments, opened. -/
namespace Go.Proofs.YtebgmlbbilcbbaaGreatDoor
open Go.ChangeShapes Go.WideShapes Go.ChangeAt Go.RowKit

set_option maxRecDepth 100000 in
theorem cell_int {W : World} {base : Nat} {t : TypeId} {k : IntKind} {v : Value} (ht : Tryz.prog.underlying t = some (.int k)) (h : Cell.okWide Tryz.prog W .any base t v) : ∃ n, v = .int k n ∧ k.min ≤ n ∧ n ≤ k.max := by
  unfold Cell.okWide Cell.ok at h
  rw [ht] at h
  cases v <;> simp at h
  case int k' n => exact ⟨n, by rw [h.1], h.2⟩
set_option maxRecDepth 100000 in
theorem cell_str {W : World} {base : Nat} {t : TypeId} {v : Value} (ht : Tryz.prog.underlying t = some .string) (h : Cell.okWide Tryz.prog W .any base t v) : ∃ s : ByteArray, v = .string s ∧ (s.size : Int) ≤ IntKind.i64.max := by
  unfold Cell.okWide Cell.ok at h
  rw [ht] at h
  cases v <;> simp at h
  case string s => exact ⟨s, rfl, h⟩
/-- The byte of a cell. -/
def byteIn : Value → UInt8
  | .int _ z => UInt8.ofNat z.toNat
  | _ => 0
theorem cellsCom : Tryz.prog.cellsOf 73 = 34 := by kernel_rfl
theorem typesCom : Tryz.prog.cellTypes Tryz.prog.depth 73 = some (3 :: (List.replicate 32 5 ++ [9])) := by kernel_rfl
set_option maxRecDepth 100000 in
/-- A commitment, opened. -/
theorem com_arg {W : World} {base : Nat} {v : Value} (hval : Value.okWide Tryz.prog W .any base 73 v) :
    ∃ c : Com, v = .agg (comA c) ∧ c.hash.length = 32 ∧ I64 c.who ∧ c.box.length ≤ 9223372036854775807 := by
  obtain ⟨cs, rfl, hsz, ts, hts, _, hall⟩ : ∃ cs, v = .agg cs ∧ cs.size = Tryz.prog.cellsOf 73 ∧ Row.okWide Tryz.prog W .any base 73 cs := by
    simpa [Value.okWide, Tryz.underlying73] using hval
  rw [cellsCom] at hsz
  rw [typesCom] at hts
  obtain rfl := Option.some.inj hts
  have each : ∀ i, i < 34 → ∃ v u, cs[i]? = some v ∧ ((3 :: (List.replicate 32 5 ++ [9]) : List TypeId))[i]? = some u ∧ Cell.okWide Tryz.prog W .any base u v := fun i hi => by
    obtain ⟨u, hu, ho⟩ := hall i cs[i] (Array.getElem?_eq_getElem (by omega))
    refine ⟨cs[i], u, Array.getElem?_eq_getElem (by omega), ?_, ho⟩
    rwa [show ((3 :: (List.replicate 32 5 ++ [9]) : List TypeId)).length = 34 from rfl, Nat.mod_eq_of_lt hi] at hu
  obtain ⟨v0, u0, e0, f0, o0⟩ := each 0 (by omega)
  obtain rfl := Option.some.inj f0
  obtain ⟨z, rfl, hz⟩ := cell_int Tryz.underlying3 o0
  obtain ⟨v3, u3, e3, f3, o3⟩ := each 33 (by omega)
  obtain rfl := Option.some.inj f3
  obtain ⟨s, rfl, hs⟩ := cell_str Tryz.underlying9 o3
  have bytes : ∀ j, j < 32 → cs[1 + j]? = some (.int .u8 ((byteIn (cs.getD (1 + j) undef)).toNat : Int)) := fun j hj => by
    obtain ⟨v, u, e, f, o⟩ := each (1 + j) (by omega)
    rw [Nat.add_comm, List.getElem?_cons_succ, List.getElem?_append_left (by simpa using hj), List.getElem?_replicate, if_pos hj] at f
    obtain rfl := Option.some.inj f
    obtain ⟨n, rfl, h1, h2⟩ := cell_int Tryz.underlying5 o
    have e' : cs.getD (1 + j) undef = .int .u8 n := by simp [e]
    rw [e, e']
    have h1' : (0 : Int) ≤ n := h1
    have h2' : n ≤ 255 := h2
    show some (Value.int .u8 n) = some (.int .u8 ((UInt8.ofNat n.toNat).toNat : Int))
    rw [UInt8.toNat_ofNat']
    congr 2
    omega
  have hlen : ((List.range 32).map fun j => byteIn (cs.getD (1 + j) undef)).length = 32 := by simp
  refine ⟨⟨z, (List.range 32).map fun j => byteIn (cs.getD (1 + j) undef), s.data.toList⟩, ?_, hlen, ⟨hz.1, hz.2⟩, by rw [size_len]; have : IntKind.i64.max = 9223372036854775807 := rfl; omega⟩
  congr 1
  refine Array.ext_getElem? fun i => ?_
  rcases Nat.lt_or_ge i 34 with hi | hi
  · rcases Nat.eq_zero_or_pos i with rfl | h0
    · rw [e0, com_who]
    · by_cases h33 : i = 33
      · subst h33
        rw [e3, com_box hlen, strB_self]
      · obtain ⟨j, rfl⟩ : ∃ j, i = 1 + j := ⟨i - 1, by omega⟩
        rw [bytes j (by omega)]
        refine (com_byte ?_).symm
        rw [List.getElem?_map, List.getElem?_range (by omega)]
        rfl
  · rw [Array.getElem?_eq_none (by omega), Array.getElem?_eq_none (by rw [comA_size hlen]; omega)]
set_option maxRecDepth 100000 in
theorem com_in {H : Type} {enc : TypeId × Value → H} {W : World} {base : Nat} {v : Value} {d : DataW H} {p : List MemPlace} (hval : Value.okWide Tryz.prog W .any base 73 v) (_h : DataW.Trod enc Tryz.prog W 0 (fun _ => true) true 73 v d p) :
    ∃ c : Com, v = .agg (comA c) ∧ c.hash.length = 32 ∧ I64 c.who ∧ c.box.length ≤ 9223372036854775807 := com_arg hval

end Go.Proofs.YtebgmlbbilcbbaaGreatDoor
