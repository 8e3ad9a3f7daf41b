/- Locks: the hash of a lock. -/
import Derived.Test.YtebgmlbbilcbbaaGreatDoorLockK
import Derived.Test.YtebgmlbbilcbbaaGreatDoorPlainRead
import Derived.Deep.QuietTactic
import Derived.BigQuiet
namespace Go.Proofs.YtebgmlbbilcbbaaGreatDoor
open Go.RowKit

/-- What Locked returns. -/
def lockedR (round : Int) (cs : List Com) : List UInt8 × Int :=
  if 13 < cs.length then (zero32, 2) else if (cs.map Com.who).Nodup then (if cs.all (fun c => decide (c.box.length ≤ 100)) = true then (shaS (lockL round (sortL cs)), 0) else (zero32, 15)) else (zero32, 33)
theorem locked_many {round : Int} {cs : List Com} (h : 13 < cs.length) : lockedR round cs = (zero32, 2) := if_pos h
theorem locked_twice {round : Int} {cs : List Com} (h : ¬ 13 < cs.length) (hs : ¬ Single cs) : lockedR round cs = (zero32, 33) := by unfold lockedR; rw [if_neg h]; exact if_neg hs
theorem locked_long {round : Int} {cs : List Com} (h : ¬ 13 < cs.length) (hs : Single cs) {c : Com} (hc : c ∈ cs) (hb : 100 < c.box.length) : lockedR round cs = (zero32, 15) := by
  unfold lockedR
  rw [if_neg h]
  refine (if_pos hs).trans (if_neg fun e => ?_)
  have := of_decide_eq_true (List.all_eq_true.1 e c hc)
  omega
theorem locked_ok {round : Int} {cs : List Com} (h : ¬ 13 < cs.length) (hs : Single cs) (hb : ∀ c ∈ cs, c.box.length ≤ 100) : lockedR round cs = (shaS (lockL round (sortL cs)), 0) := by
  unfold lockedR
  rw [if_neg h]
  exact (if_pos hs).trans (if_pos (List.all_eq_true.2 fun c hc => decide_eq_true (hb c hc)))
theorem lockL_snoc (round : Int) (l : List Com) (c : Com) : lockL round (l ++ [c]) = lockL round l ++ (comT c ++ [10]) := by
  unfold lockL
  rw [List.flatMap_append, List.flatMap_cons, List.flatMap_nil, List.append_nil]
  simp [comL]
theorem comT_len {c : Com} (h : I64 c.who) (hh : c.hash.length = 32) : (comT c).length ≤ 93 + 2 * c.box.length := by
  unfold comT
  rw [commit_len, hh]
  have := decI_len h
  omega

theorem results_hash {fn : Func} {p q : Tmp} {h : List UInt8} {tmps : Array Value} {w : World} {g : Nat} {b : Value} (hr : fn.results = #[.cell p 71, .tmp q]) (hg : Blk w g 71 (u8a h)) (hp : (tmps.getD p undef, tmps.getD q undef) = (.pointer (some ⟨g, 0, none⟩), b)) (hh : h.length = 32) :
    (results fn tmps).run Tryz.prog w = .ok (.tuple #[.agg (u8a h), b]) w := by
  obtain ⟨hp1, hp2⟩ := Prod.mk.inj hp
  have hp' : tmps[p]?.getD undef = .pointer (some ⟨g, 0, none⟩) := by simpa using hp1
  have hq' : tmps[q]?.getD undef = b := by simpa using hp2
  simp [results, hr, hp', hq', asAddr, run_loadVar_row w g 71 71 (u8a h) (0, 0) _ hg Tryz.underlying71 rfl (by rw [u8a_len hh]; exact hash_size)]
/-- An element of a list, as a range of cells. -/
theorem crow_range {w : World} {b o n c : Nat} {cs : List C32} (h : CRow w (some ⟨b, o, none⟩) n c cs) {i : Nat} {x : C32} (hx : cs[i]? = some x) : w.rangeAt b (o + i * 34) (comCells x.1) := fun j v hv => by
  have hi := (List.getElem?_eq_some_iff.1 hx).1
  obtain ⟨b', o', e, hc⟩ := h.at_ (by rw [← h.len]; omega)
  cases e
  exact hc i j x v hx hv
theorem crow_who {w : World} {b o n c : Nat} {cs : List C32} (h : CRow w (some ⟨b, o, none⟩) n c cs) {i : Nat} {x : C32} (hx : cs[i]? = some x) : w.cell? ⟨b, o + i * 34, none⟩ = some (.int .i64 x.1.who) := by
  have := crow_range h hx 0 _ rfl
  rwa [Nat.add_zero] at this
theorem row0 {w : World} {b n c : Nat} {cs : List C32} (h : CRow w (some ⟨b, 0, none⟩) n c cs) {i : Nat} {x : C32} (hx : cs[i]? = some x) : w.rangeAt b (i * 34) (comCells x.1) ∧ w.cell? ⟨b, i * 34, none⟩ = some (.int .i64 x.1.who) := by
  have h1 := crow_range h hx
  have h2 := crow_who h hx
  rw [Nat.zero_add] at h1 h2
  exact ⟨h1, h2⟩
/-- The beginning of a lock's text. -/
def headB (d : ByteArray) : ByteArray := (⟨#[108, 111, 99, 107, 47]⟩ ++ d) ++ ⟨#[47]⟩
theorem headB_eq (round : Int) : headB (decIS round) = strB (lockL round []) := bytes_eq (by
  unfold headB
  rw [strB_list]
  simp only [ByteArray.data_append, Array.toList_append, decIS_list]
  unfold lockL
  simp)

set_option maxRecDepth 100000 in
set_option maxHeartbeats 4000000 in
theorem Locked_q (round : Int) (h1 : I64 round) (A : Option Addr) (n c : Nat) (cs : List C32) (hw : ∀ x ∈ cs, I64 x.1.who) (hn : n ≤ 19) (w : World) (hT : Tabs w) (h : CRow w A n c cs) :
    Calls Tryz.prog 59 #[.int .i64 round, .slice A n c] w fun e w' => e = .returned (.tuple #[.agg (u8a (lockedR round (cs.map (·.1))).1), .int .i64 (lockedR round (cs.map (·.1))).2]) ∧ Below w.heap.size w w' := by
  have hlen := h.len
  have hml : (cs.map (·.1)).length = n := by rw [List.length_map, hlen]
  have HML := Lib.hid hml
  have HT := Lib.hid hT
  have HR := Lib.hid h
  have HW := Lib.hid hw
  clear hT h hw hlen hml
  obtain ⟨V, hV⟩ : ∃ V, V = lockedR round (cs.map (·.1)) := ⟨_, rfl⟩
  rw [← hV]
  have HV := Lib.hid hV
  clear hV
  have hsz0 : (u8a zero32).size = 32 := u8a_len zero32_len
  by_cases h13 : 13 < n
  · have h13' : (13 : Int) < (n : Int) := by omega
    have hv : V = (zero32, 2) := HV.out.trans (locked_many (by rw [HML.out]; exact h13))
    subst hv
    go_enter Tryz.func59, Tryz.ntmps59
    go_upto_region 1 with fail
    refine nameOne (u8a zero32) rfl ?_
    intro w0 k0 hB
    go_wp2_with (refine wpList_store_rowTo rfl 71 _ _ rfl rfl _ (u8a zero32) rfl rfl _ _ k0 (by rw [hsz0]; exact hash_size) rfl (u8a_one _) ?_)
    refine bodyPost_ret (results_hash rfl (k0.rowA _) rfl zero32_len) rfl ?_
    exact ⟨rfl, below_setRow hB (Nat.le_refl _) _⟩
  · have h13' : ¬ (13 : Int) < (n : Int) := by omega
    have m1 := Lib.hid (fun W hW => sorted_any A n c cs W hW (by omega))
    have m2 := Lib.hid (itoa_int round h1)
    have s2 := decIS_size h1
    go_enter Tryz.func59, Tryz.ntmps59
    go_upto_region 1 with fail
    refine nameOne (u8a zero32) rfl ?_
    intro w0 k0 hB
    obtain ⟨H, hH⟩ : ∃ H, H = w.heap.size := ⟨_, rfl⟩
    rw [← hH] at k0 ⊢
    have hgH : w.heap.size ≤ H := by omega
    clear hH
    go_wp2_with fail
    refine (m1.out _ (HR.out.below hB)).mono ?_
    rintro e w1 ⟨g, ds, rfl, hr, hp, ho, hb⟩
    replace k0 := k0.below hb k0.lt
    replace hB := below_then hB hb
    have hdl : ds.length = n := hr.len
    have HDL := Lib.hid hdl
    have HP := Lib.hid (And.intro hp ho)
    clear hb hp ho hdl m1
    go_wp2_with fail
    go_loopw [7] (fun s7 wr => ∃ i : Nat, i ≤ n ∧ s7 = .int .i64 ((i : Int) + 1) ∧ CRow wr (some ⟨g, 0, none⟩) n n ds ∧ Blk wr H 71 (u8a zero32) ∧ Hid (∀ (k : Nat) (a b : C32), k < i → ds[k]? = some a → ds[k + 1]? = some b → a.1.who ≠ b.1.who) ∧ Below w.heap.size w wr) (fun s7 _ => n + 1 - (intOf s7).toNat)
    case atStart => exact ⟨0, Nat.zero_le _, by go_num, hr, k0, Lib.hid (fun k a b hk => absurd hk (Nat.not_lt_zero _)), hB⟩
    case round =>
      obtain ⟨i, hi, rfl, hr, k0, HN, hB⟩ := hrel
      by_cases hlt : i + 1 < n
      · have hlt' : (i : Int) + 1 < (n : Int) := by omega
        obtain ⟨x, hx⟩ : ∃ x, ds[i]? = some x := ⟨ds[i]'(by rw [HDL.out]; omega), List.getElem?_eq_getElem _⟩
        obtain ⟨y, hy⟩ : ∃ y, ds[i + 1]? = some y := ⟨ds[i + 1]'(by rw [HDL.out]; omega), List.getElem?_eq_getElem _⟩
        have cx := (row0 hr hx).2
        have cy := (row0 hr hy).2
        have i1 : (i : Int) < (n : Int) := by omega
        have i2 : IntKind.i64.wrap (i : Int) = (i : Int) := IntWalk.i64_in _ (by omega)
        have i3 : ((i : Int) + 1).toNat = i + 1 := by omega
        have i4 : (0 : Int) ≤ (i : Int) + 1 := by omega
        have HXY := Lib.hid (And.intro hx hy)
        clear hx hy
        by_cases he : y.1.who = x.1.who
        · have heb : (y.1.who == x.1.who) = true := by rw [he]; simp
          have HE := Lib.hid he
          clear he
          go_upto_region 7 with fail
          go_quiet (fail)
          have hv : V = (zero32, 33) := HV.out.trans (locked_twice (by rw [HML.out]; exact h13) (fun hs => near_eq (l := ds.map (·.1)) (i := i) (a := x.1) (b := y.1) (by rw [List.getElem?_map, HXY.out.1]; rfl) (by rw [List.getElem?_map, HXY.out.2]; rfl) HE.out.symm ((single_perm (HP.out.1.map _)).2 hs)))
          subst hv
          have k0d : Blk (wr.drewN nq) H 71 (u8a zero32) := k0
          have hBd := below_drewN hB nq
          go_wp2_with (refine wpList_store_rowTo rfl 71 _ _ rfl rfl _ (u8a zero32) rfl rfl _ _ k0d (by rw [hsz0]; exact hash_size) rfl (u8a_one _) ?_)
          refine bodyPost_ret (results_hash rfl (k0d.rowA _) rfl zero32_len) rfl ?_
          exact ⟨rfl, below_setRow hBd hgH _⟩
        · have heb : (y.1.who == x.1.who) = false := by rw [beq_eq_false_iff_ne]; exact he
          have HE := Lib.hid he
          clear he
          go_upto_region 7 with fail
          go_quiet (fail)
          go_wp2_with fail
          go_roundw
          case rel =>
            refine ⟨i + 1, by omega, by go_num, hr.below (below_drewN (Below.refl _ _) _), k0, Lib.hid ?_, below_drewN hB _⟩
            intro k a b hk ha hb
            rcases Nat.lt_or_eq_of_le (Nat.le_of_lt_succ hk) with hk | rfl
            · exact HN.out k a b hk ha hb
            · rw [HXY.out.1] at ha
              rw [HXY.out.2] at hb
              obtain rfl := Option.some.inj ha
              obtain rfl := Option.some.inj hb
              exact fun e => HE.out e.symm
          case measure => simp [intOf]; omega
      · have hge : ¬ (i : Int) + 1 < (n : Int) := by omega
        have HS : Hid (Single (cs.map (·.1)) ∧ ds.map (·.1) = sortL (cs.map (·.1))) := Lib.hid (by
          have hpm := HP.out.1.map (fun x : C32 => x.1)
          have hom : (ds.map (·.1)).Pairwise (fun a b : Com => a.who ≤ b.who) := List.pairwise_map.2 HP.out.2
          have hlt := near_lt hom (fun k a b ha hb => by
            rw [List.getElem?_map, Option.map_eq_some_iff] at ha hb
            obtain ⟨a', ha', rfl⟩ := ha
            obtain ⟨b', hb', rfl⟩ := hb
            have hk := (List.getElem?_eq_some_iff.1 hb').1
            exact HN.out k a' b' (by rw [HDL.out] at hk; omega) ha' hb')
          have hs := (single_perm hpm).1 (single_lt hlt)
          exact ⟨hs, sortL_one hs hpm hom⟩)
        have HWD : Hid (∀ x ∈ ds, I64 x.1.who) := Lib.hid (fun x hx => HW.out x (HP.out.1.mem_iff.1 hx))
        clear HN
        go_wp2_with fail
        refine (m2.out _ (HT.out.below hB)).mono ?_
        rintro e w2 ⟨rfl, hb⟩
        replace hr := hr.below hb
        replace k0 := k0.below hb k0.lt
        replace hB := below_then hB hb
        clear hb
        obtain ⟨u0, hu0⟩ : ∃ u0, u0 = headB (decIS round) := ⟨_, rfl⟩
        have HU0 : Hid (u0 = strB (lockL round [])) := Lib.hid (by rw [hu0, headB_eq])
        have hu0s : u0.size ≤ 30 := by
          rw [hu0]; unfold headB
          rw [ByteArray.size_append, ByteArray.size_append]
          show 5 + (decIS round).size + 1 ≤ 30
          omega
        have hcat : (⟨#[108, 111, 99, 107, 47]⟩ ++ decIS round) ++ ⟨#[47]⟩ = u0 := by rw [hu0]; rfl
        clear hu0
        generalize decIS round = d2 at *
        have z1 : ¬ 9223372036854775807 < 5 + d2.size := by omega
        have z2 : ¬ 9223372036854775807 < 5 + d2.size + 1 := by omega
        go_wp2_with fail
        clear hcat z1 z2
        go_loopw [8, 42] (fun s8 s42 wr => ∃ (k : Nat) (u : ByteArray), k ≤ n ∧ s42 = .int .i64 (k : Int) ∧ s8 = .string u ∧ u.size ≤ 30 + 400 * k ∧ CRow wr (some ⟨g, 0, none⟩) n n ds ∧ Blk wr H 71 (u8a zero32) ∧ Hid (u = strB (lockL round ((ds.take k).map (·.1))) ∧ ∀ x ∈ ds.take k, x.1.box.length ≤ 100) ∧ Below w.heap.size w wr) (fun _ s42 _ => n - (intOf s42).toNat)
        case atStart => exact ⟨0, u0, Nat.zero_le _, rfl, rfl, hu0s, hr, k0, Lib.hid ⟨by rw [List.take_zero]; exact HU0.out, fun x hx => by rw [List.take_zero] at hx; cases hx⟩, hB⟩
        case round =>
          obtain ⟨k, u, hk, rfl, rfl, hus, hr, k0, HI, hB⟩ := hrel
          by_cases hlk : k < n
          · have hlk' : (k : Int) < (n : Int) := by omega
            obtain ⟨x, hx⟩ : ∃ x, ds[k]? = some x := ⟨ds[k]'(by rw [HDL.out]; omega), List.getElem?_eq_getElem _⟩
            have hrg := (row0 hr hx).1
            have hxm := List.mem_of_getElem? hx
            have HX := Lib.hid hx
            have hgC : w.heap.size ≤ wr.heap.size := hB.size
            have hne := k0.lt
            clear hx
            go_upto_region 13 with (first | (refine wpList_load_mid rfl 73 _ rfl g (k * 34) rfl (comCells x.1) _ hrg Tryz.underlying73 rfl (by rw [comCells_len x.2]; exact com_size) ?_) | (refine wpList_store_rowTo rfl 73 _ _ rfl rfl _ (comA x.1) rfl rfl _ _ (Blk.new _ _ _) (by rw [comA_size x.2]; exact com_size) (by rw [comA_size x.2]; rfl) (comA_one _) ?_))
            refine nameStored (comA x.1) ?_
            intro w3 k10 hb
            clear hrg
            replace hr := hr.below hb
            replace k0 := k0.below hb k0.lt
            replace hB := below_then hB hb
            clear hb
            generalize wr.heap.size = C at k10 hne hgC ⊢
            have c33 : w3.cell? ⟨C, 33, none⟩ = some (.string (strB x.1.box)) := (k10.cell 33).trans (com_box x.2)
            have hbs : (strB x.1.box).size = x.1.box.length := strB_size _
            by_cases hbx : 100 < (strB x.1.box).size
            · have hbx' : (100 : Int) < ((strB x.1.box).size : Int) := by omega
              have hv : V = (zero32, 15) := HV.out.trans (locked_long (c := x.1) (by rw [HML.out]; exact h13) HS.out.1 ((HP.out.1.map (·.1)).mem_iff.1 (List.mem_map_of_mem hxm)) (by omega))
              subst hv
              go_wp2_with (refine wpList_store_rowTo rfl 71 _ _ rfl rfl _ (u8a zero32) rfl rfl _ _ k0 (by rw [hsz0]; exact hash_size) rfl (u8a_one _) ?_)
              refine bodyPost_ret (results_hash rfl (k0.rowA _) rfl zero32_len) rfl ?_
              exact ⟨rfl, below_setRow hB hgH _⟩
            · have hbx' : ¬ (100 : Int) < ((strB x.1.box).size : Int) := by omega
              have m3 := Lib.hid (comText_q x.1 x.2 (HWD.out x hxm) (by omega))
              have htl : (strB (comT x.1)).size ≤ 300 := by rw [strB_size]; have := comT_len (HWD.out x hxm) x.2; omega
              have HSt : Hid (u ++ (strB (comT x.1) ++ ⟨#[10]⟩) = strB (lockL round ((ds.take (k + 1)).map (·.1))) ∧ ∀ y ∈ ds.take (k + 1), y.1.box.length ≤ 100) := Lib.hid (by
                have e : ds.take (k + 1) = ds.take k ++ [x] := by rw [List.take_add_one, HX.out]; rfl
                rw [e]
                refine ⟨?_, fun y hy => ?_⟩
                · rw [HI.out.1, List.map_append, List.map_cons, List.map_nil, lockL_snoc]
                  exact bytes_eq (by simp only [ByteArray.data_append, Array.toList_append, strB_list])
                · rcases List.mem_append.1 hy with hy | hy
                  · exact HI.out.2 y hy
                  · obtain rfl := List.mem_singleton.1 hy
                    omega)
              clear hbs hbx
              generalize strB (comT x.1) = tx at m3 htl HSt
              have z1 : ¬ 9223372036854775807 < tx.size + 1 := by omega
              have z2 : ¬ 9223372036854775807 < u.size + (tx.size + 1) := by omega
              go_wp2_with (refine wpList_load_row rfl 73 _ rfl C rfl _ (comA x.1) (0, 0) _ k10 Tryz.underlying73 rfl (by rw [comA_size x.2]; exact com_size) ?_)
              refine (m3.out _ (HT.out.below hB)).mono ?_
              rintro e w4 ⟨rfl, hb⟩
              replace hr := hr.below hb
              replace k0 := k0.below hb k0.lt
              replace hB := below_then hB hb
              clear hb
              go_wp2_with fail
              go_roundw
              case rel => exact ⟨k + 1, u ++ (tx ++ ⟨#[10]⟩), by omega, by go_num, rfl, by rw [ByteArray.size_append, ByteArray.size_append]; show u.size + (tx.size + 1) ≤ _; omega, hr, k0, HSt, hB⟩
              case measure => simp [intOf]; omega
          · obtain rfl : k = n := by omega
            have HZ : Hid (u.data.toList = lockL round (sortL (cs.map (·.1))) ∧ ∀ x ∈ cs.map (·.1), x.box.length ≤ 100) := Lib.hid (by
              have e : ds.take k = ds := List.take_of_length_le (by rw [HDL.out]; exact Nat.le_refl _)
              have h2 := HI.out
              rw [e] at h2
              refine ⟨by rw [h2.1, strB_list, HS.out.2], fun x hx => ?_⟩
              have hx' := (HP.out.1.map (fun y : C32 => y.1)).mem_iff.2 hx
              obtain ⟨y, hy, rfl⟩ := List.mem_map.1 hx'
              exact h2.2 y hy)
            obtain ⟨sh, hsh⟩ : ∃ sh, sh = shaS u.data.toList := ⟨_, rfl⟩
            have hv : V = (sh, 0) := HV.out.trans ((locked_ok (by rw [HML.out]; exact h13) HS.out.1 HZ.out.2).trans (by rw [hsh, HZ.out.1]))
            have m4 := Lib.hid (fun W hk hf => Sum_any u W (by omega) hk hf)
            have hsl : sh.length = 32 := by rw [hsh]; exact sha_len _
            rw [← hsh] at m4
            subst hv
            clear hsh
            have hsz : (u8a sh).size = 32 := u8a_len hsl
            have HSL := Lib.hid hsl
            clear hsl
            go_wp2_with fail
            refine (m4.out _ (HT.out.below hB).k (HT.out.below hB).f).mono ?_
            rintro e w4 ⟨rfl, hb⟩
            replace k0 := k0.below hb k0.lt
            replace hB := below_then hB hb
            clear hb
            go_wp2_with (refine wpList_store_rowTo rfl 71 _ _ rfl rfl _ (u8a sh) rfl rfl _ _ k0 (by rw [hsz]; exact hash_size) (by rw [hsz]; rfl) (u8a_one _) ?_)
            refine bodyPost_ret (results_hash rfl (k0.rowA _) rfl HSL.out) rfl ?_
            exact ⟨rfl, below_setRow hB hgH _⟩

end Go.Proofs.YtebgmlbbilcbbaaGreatDoor
