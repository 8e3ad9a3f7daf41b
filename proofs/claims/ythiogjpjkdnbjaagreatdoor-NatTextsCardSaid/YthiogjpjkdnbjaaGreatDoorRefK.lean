/- The reference's Quo: what it returns. -/
import Derived.Test.YthiogjpjkdnbjaaGreatDoorRefJ
import Derived.Deep.RegionHeld3
import Derived.Deep.RegionWith
namespace Go.Proofs.YthiogjpjkdnbjaaGreatDoor
open Go.RowKit

theorem Blk.belowK {w w' : World} {g : Nat} {t : TypeId} {cs : Array Value} (h : Blk w g t cs) (hb : Below w.heap.size w w') : Blk w' g t cs := h.below hb h.lt
theorem natS_zero_size {v : Nat} : (natS v).size = 0 ↔ v = 0 := by
  constructor
  · intro h
    have := natS_lt (v := v) (k := 0) (by omega)
    rw [P8_zero] at this
    omega
  · rintro rfl; rfl

set_option maxHeartbeats 400000 in
theorem rQuo_zero (a b : ByteArray) (w : World) (hb : b.size ≤ 100000) (h0 : sval b = 0) :
    Calls Tryz.prog 20 #[.string a, .string b] w fun e w' => e = .returned (quoRes (sval a) (sval b)) ∧ Below w.heap.size w w' := by
  have HC : Hid (∀ W, Calls Tryz.prog 28 #[.string b] W fun e w' => e = .returned (.string ⟨#[]⟩) ∧ W = w') := Lib.hid (fun W => by
    have := rCanon b W (by omega); rw [h0] at this; exact this)
  have hR : quoRes (sval a) (sval b) = .tuple #[.string ⟨#[]⟩, .string ⟨#[]⟩, .bool false] := by unfold quoRes; rw [if_pos h0]
  rw [hR]
  clear hR h0
  go_enter Tryz.func20, Tryz.ntmps20
  go_wp2_with fail
  refine (HC.out _).mono ?_
  rintro e w' ⟨rfl, rfl⟩
  go_wp2_with fail
  go_ret3
  exact ⟨rfl, Below.refl _ _⟩

set_option maxRecDepth 100000 in
set_option maxHeartbeats 1000000 in
theorem rQuo_small (a b : ByteArray) (w : World) (ha : a.size ≤ 100000) (hb : b.size ≤ 100000) (h0 : sval b ≠ 0) (h1 : sval a < P8 7) (h2 : sval b < P8 7) :
    Calls Tryz.prog 20 #[.string a, .string b] w fun e w' => e = .returned (quoRes (sval a) (sval b)) ∧ Below w.heap.size w w' := by
  obtain ⟨t, ht⟩ : ∃ t, t = natS (sval b) := ⟨_, rfl⟩
  have htl : t.size ≤ 100000 := by rw [ht]; exact Nat.le_trans (canon_le b) hb
  have hts : sval t = sval b := by rw [ht, sval_natS]
  have ht0 : ((t.size : Int) == 0) = false := by
    rw [beq_eq_false_iff_ne]; intro e
    exact h0 (natS_zero_size.1 (by rw [← ht]; omega))
  have HC : Hid (∀ W, Calls Tryz.prog 28 #[.string b] W fun e w' => e = .returned (.string t) ∧ W = w') := Lib.hid (fun W => by rw [ht]; exact rCanon b W (by omega))
  have HA := Lib.hid (small_yes a 7 (by omega) ha h1)
  have hB := small_yes t 7 (by omega) htl (by rw [hts]; exact h2)
  rw [hts] at hB
  have HB := Lib.hid hB
  have HR : Hid (quoRes (sval a) (sval b) = .tuple #[.string (natS (sval a / sval b)), .string (natS (sval a % sval b)), .bool true]) := Lib.hid (by unfold quoRes; rw [if_neg h0])
  clear ht hts hB
  rw [P8_7] at h1 h2
  obtain ⟨x, hx⟩ : ∃ x, x = sval a := ⟨_, rfl⟩
  obtain ⟨y, hy⟩ : ∃ y, y = sval b := ⟨_, rfl⟩
  rw [← hx] at h1 HA HR ⊢
  rw [← hy] at h0 h2 HB HR ⊢
  clear hx hy
  obtain ⟨q, hq⟩ : ∃ q, q = x / y := ⟨_, rfl⟩
  obtain ⟨r, hr⟩ : ∃ r, r = x % y := ⟨_, rfl⟩
  have hql : q ≤ x := by rw [hq]; exact Nat.div_le_self _ _
  have hrl : r ≤ x := by rw [hr]; exact Nat.mod_le _ _
  have hdiv : (x : Int).tdiv (y : Int) = (q : Int) := by rw [hq]; simp [Int.tdiv_eq_ediv_of_nonneg]
  have hmod : (x : Int).tmod (y : Int) = (r : Int) := by rw [hr]; simp [Int.tmod_eq_emod_of_nonneg]
  have hdiv2 : (x : Int) / (y : Int) = (q : Int) := by rw [hq]; simp
  have hmod2 : (x : Int) % (y : Int) = (r : Int) := by rw [hr]; simp
  have hwq : IntKind.i64.wrap (q : Int) = (q : Int) := IntWalk.i64_in _ (by omega)
  have hwr : IntKind.i64.wrap (r : Int) = (r : Int) := IntWalk.i64_in _ (by omega)
  have hy0 : ((y : Int) == 0) = false := by rw [beq_eq_false_iff_ne]; omega
  have hy0' : (y : Int) ≠ 0 := by omega
  have HOQ : Hid (∀ W, Calls Tryz.prog 17 #[.int .i64 (q : Int)] W fun e w' => e = .returned (.string (natS q)) ∧ Below W.heap.size W w') := Lib.hid (fun W => by have := rOf (q : Int) W (by omega); rwa [Int.toNat_natCast] at this)
  have HOR : Hid (∀ W, Calls Tryz.prog 17 #[.int .i64 (r : Int)] W fun e w' => e = .returned (.string (natS r)) ∧ Below W.heap.size W w') := Lib.hid (fun W => by have := rOf (r : Int) W (by omega); rwa [Int.toNat_natCast] at this)
  rw [← hq, ← hr] at HR
  clear hq hr
  go_enter Tryz.func20, Tryz.ntmps20
  go_wp2_with fail
  refine (HC.out _).mono ?_
  rintro e w' ⟨rfl, rfl⟩
  go_wp2_with fail
  refine (HA.out _).mono ?_
  rintro e w' ⟨rfl, rfl⟩
  go_wp2_with fail
  refine (HB.out _).mono ?_
  rintro e w' ⟨rfl, rfl⟩
  go_upto_region 7 with fail
  go_region_with (first
    | (go_at_call 17; (with_reducible refine (HOQ.out _).mono ?_); rintro e wa ⟨rfl, hba⟩)
    | (go_at_call 17; (with_reducible refine (HOR.out _).mono ?_); rintro e wb ⟨rfl, hbb⟩))
  all_goals go_wp2_with fail
  all_goals go_ret3
  all_goals
    refine ⟨by rw [HR.out]; rfl, ?_⟩
    (repeat (first | exact Below.refl _ _ | apply Below.drew | refine below_then ?_ hba | refine below_then ?_ hbb))

theorem rdiv_step (X V x : Nat) (hV : 0 < V) : (x + 16777216 * X) / V = (x + 16777216 * (X % V)) / V + 16777216 * (X / V) ∧ (x + 16777216 * X) % V = (x + 16777216 * (X % V)) % V := by
  have e : x + 16777216 * X = (x + 16777216 * (X % V)) + V * (16777216 * (X / V)) := by
    have h := Nat.div_add_mod X V
    have h2 : 16777216 * X = 16777216 * (V * (X / V)) + 16777216 * (X % V) := by rw [← Nat.mul_add, h]
    rw [h2, Nat.mul_left_comm V]
    omega
  rw [e, Nat.add_mul_div_left _ _ hV, Nat.add_mul_mod_self_left]
  exact ⟨rfl, rfl⟩

set_option maxRecDepth 100000 in
set_option maxHeartbeats 6000000 in
theorem rQuo_big (a b : ByteArray) (w : World) (ha : a.size ≤ 100000) (hb : b.size ≤ 100000) (h0 : sval b ≠ 0) (hbig : ¬ (sval a < P8 7 ∧ sval b < P8 7)) :
    Calls Tryz.prog 20 #[.string a, .string b] w fun e w' => e = .returned (quoRes (sval a) (sval b)) ∧ Below w.heap.size w w' := by
  obtain ⟨t, ht⟩ : ∃ t, t = natS (sval b) := ⟨_, rfl⟩
  have htl : t.size ≤ 100000 := by rw [ht]; exact Nat.le_trans (canon_le b) hb
  have hts : sval t = sval b := by rw [ht, sval_natS]
  have ht0 : ((t.size : Int) == 0) = false := by
    rw [beq_eq_false_iff_ne]; intro e
    exact h0 (natS_zero_size.1 (by rw [← ht]; omega))
  have HC : Hid (∀ W, Calls Tryz.prog 28 #[.string b] W fun e w' => e = .returned (.string t) ∧ W = w') := Lib.hid (fun W => by rw [ht]; exact rCanon b W (by omega))
  have hcase := small_ways a t 7 7 (by omega) (by omega) ha htl (by rw [hts]; exact hbig)
  have HR : Hid (quoRes (sval a) (sval b) = .tuple #[.string (natS (sval a / sval b)), .string (natS (sval a % sval b)), .bool true]) := Lib.hid (by unfold quoRes; rw [if_neg h0])
  have HTS := Lib.hid hts
  have hVp : 0 < sval b := by omega
  clear hbig ht hts h0
  rcases hcase with ⟨x0, y0, q, hA, hB⟩ | ⟨x0, y0, hA, hB⟩
  all_goals
    have HA := Lib.hid hA
    have HB := Lib.hid hB
    clear hA hB
    go_enter Tryz.func20, Tryz.ntmps20
    go_wp2_with fail
    refine (HC.out _).mono ?_
    rintro e w' ⟨rfl, rfl⟩
    go_wp2_with fail
    refine (HA.out _).mono ?_
    rintro e w' ⟨rfl, rfl⟩
    go_wp2_with fail
    refine (HB.out _).mono ?_
    rintro e w' ⟨rfl, rfl⟩
    go_wp2_with fail
    refine (rOf_ a _ ha).mono ?_
    rintro e w1 ⟨⟨A, n, c, us, rfl, hu, htu, hvu⟩, hb1⟩
    have hn : n ≤ a.size := ifew hu htu (by rw [hvu]; exact sval_lt a)
    have HVU := Lib.hid hvu
    clear hvu
    go_wp2_with fail
    refine (rOf_ t _ htl).mono ?_
    rintro e w2 ⟨⟨B, m, d, vs, rfl, k, htv, hvv⟩, hb2⟩
    have hm : m ≤ t.size := ifew k htv (by rw [hvv]; exact sval_lt t)
    rw [HTS.out] at hvv
    have HVV := Lib.hid hvv
    clear hvv
    have hb12 := below_then hb1 hb2
    have h := hu.below hb2
    clear hb1 hb2 hu
    have hmk := make_int n (by omega)
    obtain ⟨V, hV⟩ : ∃ V, V = sval b := ⟨_, rfl⟩
    rw [← hV] at hVp HVV
    have HV := Lib.hid hV
    clear hV
    go_wp2_with fail
    go_loopw [14, 15] (fun s14 s15 wr => ∃ (i : Nat) (hs : List Nat) (Ar : Option Addr) (nr cr : Nat) (rs : List Nat), i ≤ n ∧ s15 = .int .i64 ((i : Int) - 1) ∧ s14 = .slice Ar nr cr ∧ IDg wr Ar nr cr rs ∧ R.Trim rs ∧ R.Lt24 hs ∧ Hid (hs.length = n - i ∧ R.val rs = R.val (us.drop i) % V ∧ R.val hs = R.val (us.drop i) / V) ∧ Blk wr w2.heap.size 3 (i64a (List.replicate i 0 ++ hs)) ∧ Below w2.heap.size w2 wr) (fun _ s15 _ => (intOf s15 + 1).toNat)
    case atStart =>
      refine ⟨n, [], none, 0, 0, [], by omega, rfl, rfl, IDg.nil_ _ _ _, (fun h => by simp at h), R.Lt24.nil, Lib.hid ⟨by simp, ?_, ?_⟩, ?_, (Below.refl _ _).alloc (Nat.le_refl _) _⟩
      · rw [List.drop_of_length_le (by rw [h.len]; omega)]; simp [R.val]
      · rw [List.drop_of_length_le (by rw [h.len]; omega)]; simp [R.val]
      · rw [List.append_nil]; exact Blk.new _ _ _
    case round =>
      obtain ⟨i, hs, Ar, nr, cr, rs, hi, rfl, rfl, hr, htr, hlt, HF, hbk, hbw⟩ := hrel
      have hnr : nr ≤ m := by
        rw [← hr.len, ← k.len]
        refine htr.len_le ?_
        rw [HF.out.2.1]
        refine Nat.lt_trans (Nat.mod_lt _ hVp) ?_
        rw [← HVV.out]
        exact R.val_lt k.lt
      by_cases hi0 : 0 < i
      · obtain ⟨j, rfl⟩ : ∃ j, i = j + 1 := ⟨i - 1, by omega⟩
        rw [show ((j + 1 : Nat) : Int) - 1 = (j : Int) by omega]
        obtain ⟨bx, ox, x, rfl, hx, hxl, hxc⟩ := (h.below hbw).get (k := j) (by omega)
        have HX := Lib.hid hx
        clear hx
        have hbal : Below wr.heap.size wr (wr.alloc (.cells #[.int .i64 (x : Int)] 3)) := below_al (Below.refl _ _) _
        have hown := own_one wr wr (Nat.le_refl _) x
        have hsrc := idg_al hr (.cells #[.int .i64 (x : Int)] 3)
        have h1l : [x].length ≤ 1000000 := by simp
        have hnr2 : nr ≤ 1000000 := by omega
        go_wp2_with (at_builtin; refine wp_append24s rfl _ _ rfl rfl hown rfl hsrc h1l hnr2 hbal ?_; intro v1 w3 hown1 hb3)
        have hlrs : R.Lt24 ([x] ++ rs) := (R.Lt24.one hxl).append hr.lt
        obtain ⟨g, c3, rfl, hgl, hd3⟩ := hown1.at_ hlrs (by simp)
        refine (rTrim _ _ _ _ _ hd3 (by have := hr.len; simp; omega)).mono ?_
        rintro e w4 ⟨⟨m4, hm4, rfl, hz4, hn4⟩, rfl⟩
        obtain ⟨ts, hts⟩ : ∃ ts, ts = ([x] ++ rs).take m4 := ⟨_, rfl⟩
        have hdt := hd3.take hm4
        have htt : R.Trim ts := by
          rw [hts]
          intro h0
          rw [List.length_take, Nat.min_eq_left (by omega)] at h0 ⊢
          obtain ⟨dd, hdd, hne⟩ := hn4 h0
          exact ⟨dd, by rw [List.getElem?_take, if_pos (by omega)]; exact hdd, hne⟩
        have hvt : R.val ts = x + 16777216 * (R.val (us.drop (j + 1)) % V) := by
          rw [hts, R.val_trim hz4, ← HF.out.2.1]; rfl
        rw [← hts] at hdt
        have hm4l : m4 ≤ 200000 := by have := hr.len; simp at hm4; omega
        have hUl : R.val ts < V * 16777216 := by
          rw [hvt]
          have := Nat.mod_lt (R.val (us.drop (j + 1))) hVp
          omega
        have hst := rdiv_step (R.val (us.drop (j + 1))) V x hVp
        have hdj : R.val (us.drop j) = x + 16777216 * R.val (us.drop (j + 1)) := by rw [drop_cons HX.out]; rfl
        rw [← hdj, ← hvt, ← HF.out.2.2] at hst
        have HST := Lib.hid hst
        have HUL := Lib.hid hUl
        clear hts hvt hst hdj hUl hz4 hn4 hm4 hd3 hown1 hown hsrc hlrs
        have hbw3 := below_then hbw hb3
        have hgne : g ≠ w2.heap.size := by
          have h1 := hbk.lt
          omega
        have hbk3 := hbk.belowK hb3
        go_wp2_with fail
        refine (rcmp _ _ _ ts _ _ _ vs _ hdt (k.below hbw3) (by omega) (by omega) htt htv).mono ?_
        rintro e w5 ⟨⟨r, rfl, hr1, hr2, hr3⟩, hb5⟩
        rw [HVV.out] at hr1 hr2 hr3
        have HS := Lib.hid (And.intro hr1 (And.intro hr2 hr3))
        clear hr1 hr2 hr3
        have hbw5 := below_then hbw3 hb5
        have hbk5 := hbk3.belowK hb5
        have hdt5 := hdt.below hb5
        by_cases hr0 : 0 ≤ r
        · have HGE : Hid (V ≤ R.val ts) := Lib.hid (by
            rcases Nat.lt_or_ge (R.val ts) V with hh | hh
            · have := HS.out.1 hh; omega
            · exact hh)
          go_wp2_with fail
          refine (rdigit _ _ _ ts _ _ _ vs _ hdt5 (k.below hbw5) htt (by omega) (by omega) (by rw [HVV.out]; exact HUL.out)).mono ?_
          rintro e w6 ⟨rfl, hb6⟩
          rw [HVV.out]
          obtain ⟨dd, hdd⟩ : ∃ dd, dd = R.val ts / V := ⟨_, rfl⟩
          rw [← hdd]
          have hddl : dd < 16777216 := by rw [hdd]; exact Nat.div_lt_of_lt_mul HUL.out
          have hmle : V * dd ≤ R.val ts := by rw [hdd]; exact Nat.mul_div_le _ _
          have hmrest : R.val ts - V * dd = R.val ts % V := by
            have := Nat.div_add_mod (R.val ts) V
            rw [← hdd] at this
            omega
          have HDD := Lib.hid hdd
          have HML := Lib.hid hmle
          have HMR := Lib.hid hmrest
          clear hdd hmle hmrest
          have hbw6 := below_then hbw5 hb6
          have hbk6 := hbk5.belowK hb6
          have hdt6 := hdt5.below hb6
          have hc6 := hbk6.i64 (i := j) (d := 0) (by rw [List.getElem?_append_left (by simp), List.getElem?_replicate, if_pos (by omega)])
          have hf6 := hbk6.frozen j
          have hjn : (j : Int) < (n : Int) := by omega
          have hput := hbk6.put64 j dd
          have hset : (List.replicate (j + 1) 0 ++ hs).set j dd = List.replicate j 0 ++ dd :: hs := by
            rw [List.replicate_succ', List.append_assoc, List.set_append_right _ _ (by simp)]
            simp
          rw [hset] at hput
          clear hset
          have hbw7 := below_set (p := ⟨w2.heap.size, j, none⟩) hbw6 (Nat.le_refl _) (.int .i64 (dd : Int))
          have hdt7 := idg_far hdt6 (p := ⟨w2.heap.size, j, none⟩) (fun b o e => by cases e; exact hgne) (.int .i64 (dd : Int))
          have hc7 := hput.i64 (i := j) (d := dd) (by rw [List.getElem?_append_right (by simp)]; simp)
          go_wp2_with fail
          refine (rtimes _ _ _ vs dd _ (k.below hbw7) (by omega) hddl).mono ?_
          rintro e w8 ⟨⟨A8, n8, c8, t8, rfl, hd8, ht8, hv8⟩, hb8⟩
          rw [HVV.out] at hv8
          have hn8 : n8 ≤ m4 := by
            rw [← hd8.len]
            refine ht8.len_le ?_
            rw [hv8]
            refine Nat.lt_of_le_of_lt HML.out ?_
            have := R.val_lt hdt.lt
            rwa [hdt.len] at this
          have hle8 : R.val t8 ≤ R.val ts := by rw [hv8]; exact HML.out
          have HV8 := Lib.hid hv8
          clear hv8
          go_wp2_with fail
          refine (rminus _ _ _ ts _ _ _ t8 _ (hdt7.below hb8) hd8 (by omega) hn8 hle8).mono ?_
          rintro e w9 ⟨⟨A9, n9, c9, r9, rfl, hd9, ht9, hv9⟩, hb9⟩
          rw [HV8.out, HMR.out] at hv9
          have HV9 := Lib.hid hv9
          clear hv9 hle8
          go_wp2_with fail
          go_roundw
          case rel =>
            refine ⟨j, dd :: hs, A9, n9, c9, r9, by omega, rfl, rfl, hd9, ht9, (R.Lt24.one hddl).append hlt, Lib.hid ⟨?_, ?_, ?_⟩, (hput.belowK hb8).belowK hb9, below_then (below_then hbw7 hb8) hb9⟩
            · have := HF.out.1; simp; omega
            · rw [HV9.out, HST.out.2]
            · rw [HST.out.1, ← HDD.out]; rfl
          case measure => simp [intOf]
        · have HGE : Hid (R.val ts < V) := Lib.hid (by
            rcases Nat.lt_trichotomy (R.val ts) V with hh | hh | hh
            · exact hh
            · have := HS.out.2.1 hh; omega
            · have := HS.out.2.2 hh; omega)
          go_wp2_with fail
          go_roundw
          case rel =>
            refine ⟨j, 0 :: hs, _, m4, c3, ts, by omega, rfl, rfl, hdt5, htt, (R.Lt24.one (by omega)).append hlt, Lib.hid ⟨?_, ?_, ?_⟩, ?_, hbw5⟩
            · have := HF.out.1; simp; omega
            · rw [HST.out.2, Nat.mod_eq_of_lt HGE.out]
            · rw [HST.out.1, Nat.div_eq_of_lt HGE.out]; rfl
            · have e : List.replicate (j + 1) 0 ++ hs = List.replicate j 0 ++ 0 :: hs := by rw [List.replicate_succ', List.append_assoc]; rfl
              rw [← e]; exact hbk5
          case measure => simp [intOf]
      · obtain rfl : i = 0 := by omega
        rw [List.replicate_zero, List.nil_append] at hbk
        have hdg := hbk.idg hlt (n := n) (c := n) (by rw [HF.out.1]; omega) (Nat.le_refl _)
        go_wp2_with fail
        refine (rnumber _ _ _ _ _ hdg (by omega)).mono ?_
        rintro e w4 ⟨rfl, hb4⟩
        go_wp2_with fail
        refine (rnumber _ _ _ _ _ (hr.below hb4) (by omega)).mono ?_
        rintro e w5 ⟨rfl, hb5⟩
        have h3 := HF.out.2
        rw [List.drop_zero, HVU.out, HV.out] at h3
        rw [h3.1, h3.2]
        go_wp2_with fail
        go_ret3
        exact ⟨by rw [HR.out]; rfl, below_then (below_then (below_then hb12 hbw) hb4) hb5⟩

theorem rQuo (a b : ByteArray) (w : World) (ha : a.size ≤ 100000) (hb : b.size ≤ 100000) :
    Calls Tryz.prog 20 #[.string a, .string b] w fun e w' => e = .returned (quoRes (sval a) (sval b)) ∧ Below w.heap.size w w' := by
  by_cases h0 : sval b = 0
  · exact rQuo_zero a b w hb h0
  · by_cases h : sval a < P8 7 ∧ sval b < P8 7
    · exact rQuo_small a b w ha hb h0 h.1 h.2
    · exact rQuo_big a b w ha hb h0 h

end Go.Proofs.YthiogjpjkdnbjaaGreatDoor
