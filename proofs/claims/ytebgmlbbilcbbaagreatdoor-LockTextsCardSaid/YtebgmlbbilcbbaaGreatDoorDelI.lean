/- Delays: Save; disputes; lists that are the same. -/
import Derived.Test.YtebgmlbbilcbbaaGreatDoorDelH
namespace Go.Proofs.YtebgmlbbilcbbaaGreatDoor
open Go.RowKit

/-- The text of a work. -/
def saveS (d t v : Nat) : ByteArray := ((((⟨#[119, 111, 114, 107, 32]⟩ ++ decS d) ++ ⟨#[32]⟩) ++ decS t) ++ ⟨#[32]⟩) ++ decS v

theorem Save_nil : Ret 31 #[.pointer none] (.string ⟨#[]⟩) := by
  intro w
  go_enter Tryz.func31, Tryz.ntmps31
  go_wp2_with fail
  go_ret
  exact ⟨rfl, Below.refl _ _⟩

set_option maxHeartbeats 2000000 in
theorem Save_yes (g : Nat) (x : ByteArray) (d t : Nat) (hx : x.size ≤ 400) (hd : d ≤ 1048576) (ht : t ≤ 1048576) (w : World) (hT : Tabs w) (hk : Blk w g 46 (workA x d t)) :
    Calls Tryz.prog 31 #[.pointer (some ⟨g, 0, none⟩)] w fun e w' => e = .returned (.string (saveS d t (sval x))) ∧ Below w.heap.size w w' := by
  have s1 := decS_int (t := d) (by omega)
  have s2 := decS_int (t := t) (by omega)
  have s3 := decS_len hx
  have m1 : Hid (∀ W, Tabs W → Calls Tryz.prog 85 #[.int .i64 (d : Int)] W fun e w' => e = .returned (.string (decS d)) ∧ Below W.heap.size W w') := Lib.hid (fun W hW => itoa_nat d W (by omega) hW.p)
  have m2 : Hid (∀ W, Tabs W → Calls Tryz.prog 85 #[.int .i64 (t : Int)] W fun e w' => e = .returned (.string (decS t)) ∧ Below W.heap.size W w') := Lib.hid (fun W hW => itoa_nat t W (by omega) hW.p)
  have m3 : Hid (∀ W, Tabs W → Calls Tryz.prog 86 #[.string x] W fun e w' => e = .returned (.string (decS (sval x))) ∧ Below W.heap.size W w') := Lib.hid (fun W hW => Text_any x W (by omega) hW.p)
  unfold saveS
  have HT : Hid (Tabs w.drew) := Lib.hid (hT.below (Below.refl _ _).drew)
  have kd : Blk w.drew g 46 (workA x d t) := hk
  have hBd : Below w.heap.size w w.drew := (Below.refl _ _).drew
  have c0 : w.cell? ⟨g, 0, none⟩ = some (.string x) := hk.cell 0
  have c1 : w.cell? ⟨g, 1, none⟩ = some (.int .i64 (d : Int)) := hk.cell 1
  have c2 : w.cell? ⟨g, 2, none⟩ = some (.int .i64 (t : Int)) := hk.cell 2
  clear hT hk
  generalize decS d = d1 at m1 s1 ⊢
  generalize decS t = d2 at m2 s2 ⊢
  generalize decS (sval x) = d3 at m3 s3 ⊢
  have z1 : ¬ 9223372036854775807 < 5 + d1.size := by omega
  have z2 : ¬ 9223372036854775807 < 5 + d1.size + 1 := by omega
  have z3 : ¬ 9223372036854775807 < 5 + d1.size + 1 + d2.size := by omega
  have z4 : ¬ 9223372036854775807 < 5 + d1.size + 1 + d2.size + 1 := by omega
  have z5 : ¬ 9223372036854775807 < 5 + d1.size + 1 + d2.size + 1 + d3.size := by omega
  go_enter Tryz.func31, Tryz.ntmps31
  go_upto_region 3 with fail
  go_region_held3 (fun Z : World => Z.cell? ⟨g, 0, none⟩ = some (.string x) ∧ Z.cell? ⟨g, 1, none⟩ = some (.int .i64 (d : Int)) ∧ Z.cell? ⟨g, 2, none⟩ = some (.int .i64 (t : Int)))
    (first
      | exact ⟨c0, c1, c2⟩
      | exact ⟨(((kd.below hba kd.lt).below hbb (kd.below hba kd.lt).lt).below hbc ((kd.below hba kd.lt).below hbb (kd.below hba kd.lt).lt).lt).cell 0, (((kd.below hba kd.lt).below hbb (kd.below hba kd.lt).lt).below hbc ((kd.below hba kd.lt).below hbb (kd.below hba kd.lt).lt).lt).cell 1, (((kd.below hba kd.lt).below hbb (kd.below hba kd.lt).lt).below hbc ((kd.below hba kd.lt).below hbb (kd.below hba kd.lt).lt).lt).cell 2⟩
      | exact ⟨((kd.below hba kd.lt).below hbb (kd.below hba kd.lt).lt).cell 0, ((kd.below hba kd.lt).below hbb (kd.below hba kd.lt).lt).cell 1, ((kd.below hba kd.lt).below hbb (kd.below hba kd.lt).lt).cell 2⟩
      | exact ⟨(kd.below hba kd.lt).cell 0, (kd.below hba kd.lt).cell 1, (kd.below hba kd.lt).cell 2⟩)
    (first
      | (go_at_call 85; (with_reducible refine (m1.out _ ?_).mono ?_); (exact HT.out); rintro e wa ⟨rfl, hba⟩)
      | (go_at_call 85; (with_reducible refine (m2.out _ ?_).mono ?_); (exact HT.out.below hba); rintro e wb ⟨rfl, hbb⟩)
      | (go_at_call 86; (with_reducible refine (m3.out _ ?_).mono ?_); (exact (HT.out.below hba).below hbb); rintro e wc ⟨rfl, hbc⟩))
  have hB := below_then (below_then (below_then hBd hba) hbb) hbc
  go_wp2_with fail
  go_ret
  exact ⟨rfl, hB⟩

theorem name1p {P : Program} {code : Code} {Q : Exit → Act → World → Prop} {act : Act} {W : World} {t1 : TypeId} {c1 : Array Value}
    (h : ∀ W0 : World, Blk W0 W.heap.size t1 c1 → Below W.heap.size W W0 → code.wp P Q act W0) : code.wp P Q act (W.alloc (.cells c1 t1)) :=
  h _ (Blk.new _ _ _) (below_al (Below.refl _ _) _)
theorem name2p {P : Program} {code : Code} {Q : Exit → Act → World → Prop} {act : Act} {W : World} {t1 t2 : TypeId} {c1 c2 : Array Value}
    (h : ∀ W0 : World, Blk W0 W.heap.size t1 c1 → Blk W0 (W.heap.size + 1) t2 c2 → Below W.heap.size W W0 → code.wp P Q act W0) : code.wp P Q act ((W.alloc (.cells c1 t1)).alloc (.cells c2 t2)) := by
  refine h _ ((Blk.new _ _ _).alloc _) ?_ (below_al (below_al (Below.refl _ _) _) _)
  have := Blk.new (W.alloc (.cells c1 t1)) t2 c2
  rwa [World.size_alloc] at this

theorem results_disp {fn : Func} {tmps : Array Value} {w : World} {s k : Nat} {t : TypeId} {u v x y z : Value} (hr : fn.results = #[.cell s 32]) (hs : tmps[s]?.getD undef = .pointer (some ⟨k, 0, none⟩)) (hb : Blk w k t #[u, v, x, y, z]) :
    (results fn tmps).run Tryz.prog w = .ok (.agg #[u, v, x, y, z]) w := by
  have h0 : w.cell? ⟨k, 0, none⟩ = some u := hb.cell 0
  have h1 : w.cell? ⟨k, 1, none⟩ = some v := hb.cell 1
  have h2 : w.cell? ⟨k, 2, none⟩ = some x := hb.cell 2
  have h3 : w.cell? ⟨k, 3, none⟩ = some y := hb.cell 3
  have h4 : w.cell? ⟨k, 4, none⟩ = some z := hb.cell 4
  simp [results, hr, hs, go_sem, h0, h1, h2, h3, h4]

/-- A dispute. -/
def dispV (l h : Int) (f a b : ByteArray) : Value := .agg #[.int .i64 l, .int .i64 h, .string f, .string a, .string b]

set_option maxHeartbeats 2000000 in
theorem Next_in (l h : Int) (f a b s u : ByteArray) (hl : 0 ≤ l) (hlh : l ≤ h - 2) (hh : h ≤ 1048576) (hs : s.size ≤ 1000) (hu : u.size ≤ 1000) :
    Ret 24 #[dispV l h f a b, .string s, .string u] (if sval s = sval u then dispV (l + (h - l) / 2) h s a b else dispV l (l + (h - l) / 2) f s u) := by
  intro w
  have m1 := Lib.hid (ret_cmp (a := s) (b := u) hs hu (r := cmpI (sval s) (sval u)) rfl)
  have h1 : ¬ l < 0 := by omega
  have h2 : ¬ h < 2 := by omega
  have h3 : ¬ 1048576 < h := by omega
  have h4 : ¬ h - 2 < l := by omega
  have w1 : IntKind.i64.wrap (h - 2) = h - 2 := IntWalk.i64_in _ (by omega)
  have w2 : IntKind.i64.wrap (h - l) = h - l := IntWalk.i64_in _ (by omega)
  have q : Int.tdiv (h - l) 2 = (h - l) / 2 := by rw [Int.tdiv_eq_ediv_of_nonneg (by omega)]
  have w3 : IntKind.i64.wrap ((h - l) / 2) = (h - l) / 2 := IntWalk.i64_in _ (by omega)
  have w4 : IntKind.i64.wrap (l + (h - l) / 2) = l + (h - l) / 2 := IntWalk.i64_in _ (by omega)
  have hc := cmpI_beq (sval s) (sval u)
  generalize cmpI (sval s) (sval u) = r at m1 hc
  obtain ⟨V, hV⟩ : ∃ V, V = if sval s = sval u then dispV (l + (h - l) / 2) h s a b else dispV l (l + (h - l) / 2) f s u := ⟨_, rfl⟩
  rw [← hV]
  have HV := Lib.hid hV
  clear hV
  unfold dispV
  go_enter Tryz.func24, Tryz.ntmps24
  go_upto_region 1 with fail
  refine name2p ?_
  intro W0 k1 k2 hB
  obtain ⟨q1, hq1⟩ : ∃ q, q = w.heap.size := ⟨_, rfl⟩
  obtain ⟨q2, hq2⟩ : ∃ q, q = w.heap.size + 1 := ⟨_, rfl⟩
  have hq : q1 ≠ q2 := by omega
  have hqle1 : w.heap.size ≤ q1 := by omega
  have hqle2 : w.heap.size ≤ q2 := by omega
  rw [← hq2] at k2 ⊢
  rw [← hq1] at k1 ⊢
  clear hq1 hq2
  have c0 : W0.cell? ⟨q1, 0, none⟩ = some (.int .i64 l) := k1.cell 0
  have c1 : W0.cell? ⟨q1, 1, none⟩ = some (.int .i64 h) := k1.cell 1
  go_wp2_with fail
  refine (m1.out _).mono ?_
  rintro e w1 ⟨rfl, hb⟩
  replace k1 := k1.below hb k1.lt
  replace k2 := k2.below hb k2.lt
  replace hB := below_then hB hb
  clear hb c0 c1
  by_cases heq : sval s = sval u
  · have hr : (r == 0) = true := by rw [hc]; simp [heq]
    have hVf : V = dispV (l + (h - l) / 2) h s a b := HV.out.trans (if_pos heq)
    subst hVf
    have c0 : w1.cell? ⟨q1, 0, none⟩ = some (.int .i64 l) := k1.cell 0
    have c2 : w1.cell? ⟨q1, 2, none⟩ = some (.string f) := k1.cell 2
    have f0 := k1.frozen 0
    have f2 := k1.frozen 2
    go_upto_region 7 with fail
    have j1 : Blk ((w1.setCell ⟨q1, 0, none⟩ (.int .i64 (l + (h - l) / 2))).setCell ⟨q1, 2, none⟩ (.string s)) q1 32 #[(.int .i64 (l + (h - l) / 2)), (.int .i64 h), (.string s), (.string a), (.string b)] := ((k1.set_ 0 (.int .i64 (l + (h - l) / 2))).set_ 2 (.string s))
    have j2 := (kept_set (kept_set k2 (k := q1) (fun e => hq e.symm) 0 (.int .i64 (l + (h - l) / 2))) (k := q1) (fun e => hq e.symm) 2 (.string s))
    have hB2 := (below_set (below_set hB (p := ⟨q1, 0, none⟩) hqle1 (.int .i64 (l + (h - l) / 2))) (p := ⟨q1, 2, none⟩) hqle1 (.string s))
    generalize ((w1.setCell ⟨q1, 0, none⟩ (.int .i64 (l + (h - l) / 2))).setCell ⟨q1, 2, none⟩ (.string s)) = W at j1 j2 hB2 ⊢
    clear k1 k2 hB c0 f0 c2 f2
    have c0 : W.cell? ⟨q1, 0, none⟩ = some (.int .i64 (l + (h - l) / 2)) := j1.cell 0
    have c1 : W.cell? ⟨q1, 1, none⟩ = some (.int .i64 h) := j1.cell 1
    have c2 : W.cell? ⟨q1, 2, none⟩ = some (.string s) := j1.cell 2
    have c3 : W.cell? ⟨q1, 3, none⟩ = some (.string a) := j1.cell 3
    have c4 : W.cell? ⟨q1, 4, none⟩ = some (.string b) := j1.cell 4
    have d0 : W.cell? ⟨q2, 0, none⟩ = some (.int .i64 0) := j2.cell 0
    have g0 := j2.frozen 0
    have d1 : W.cell? ⟨q2, 1, none⟩ = some (.int .i64 0) := j2.cell 1
    have g1 := j2.frozen 1
    have d2 : W.cell? ⟨q2, 2, none⟩ = some (.string ⟨#[]⟩) := j2.cell 2
    have g2 := j2.frozen 2
    have d3 : W.cell? ⟨q2, 3, none⟩ = some (.string ⟨#[]⟩) := j2.cell 3
    have g3 := j2.frozen 3
    have d4 : W.cell? ⟨q2, 4, none⟩ = some (.string ⟨#[]⟩) := j2.cell 4
    have g4 := j2.frozen 4
    go_wp2_with fail
    have kk : Blk (((((W.setCell ⟨q2, 0, none⟩ (.int .i64 (l + (h - l) / 2))).setCell ⟨q2, 1, none⟩ (.int .i64 h)).setCell ⟨q2, 2, none⟩ (.string s)).setCell ⟨q2, 3, none⟩ (.string a)).setCell ⟨q2, 4, none⟩ (.string b)) q2 32 #[(.int .i64 (l + (h - l) / 2)), (.int .i64 h), (.string s), (.string a), (.string b)] := (((((j2.set_ 0 (.int .i64 (l + (h - l) / 2))).set_ 1 (.int .i64 h)).set_ 2 (.string s)).set_ 3 (.string a)).set_ 4 (.string b))
    have hB3 := (below_set (below_set (below_set (below_set (below_set hB2 (p := ⟨q2, 0, none⟩) hqle2 (.int .i64 (l + (h - l) / 2))) (p := ⟨q2, 1, none⟩) hqle2 (.int .i64 h)) (p := ⟨q2, 2, none⟩) hqle2 (.string s)) (p := ⟨q2, 3, none⟩) hqle2 (.string a)) (p := ⟨q2, 4, none⟩) hqle2 (.string b))
    generalize (((((W.setCell ⟨q2, 0, none⟩ (.int .i64 (l + (h - l) / 2))).setCell ⟨q2, 1, none⟩ (.int .i64 h)).setCell ⟨q2, 2, none⟩ (.string s)).setCell ⟨q2, 3, none⟩ (.string a)).setCell ⟨q2, 4, none⟩ (.string b)) = WW at kk hB3 ⊢
    clear j1 j2 hB2 c0 c1 c2 c3 c4 d0 d1 d2 d3 d4 g0 g1 g2 g3 g4
    refine bodyPost_ret (results_disp rfl rfl kk) rfl ?_
    exact ⟨rfl, hB3⟩
  · have hr : (r == 0) = false := by rw [hc]; simp [heq]
    have hVf : V = dispV l (l + (h - l) / 2) f s u := HV.out.trans (if_neg heq)
    subst hVf
    have c1 : w1.cell? ⟨q1, 1, none⟩ = some (.int .i64 h) := k1.cell 1
    have c3 : w1.cell? ⟨q1, 3, none⟩ = some (.string a) := k1.cell 3
    have c4 : w1.cell? ⟨q1, 4, none⟩ = some (.string b) := k1.cell 4
    have f1 := k1.frozen 1
    have f3 := k1.frozen 3
    have f4 := k1.frozen 4
    go_upto_region 7 with fail
    have j1 : Blk (((w1.setCell ⟨q1, 1, none⟩ (.int .i64 (l + (h - l) / 2))).setCell ⟨q1, 3, none⟩ (.string s)).setCell ⟨q1, 4, none⟩ (.string u)) q1 32 #[(.int .i64 l), (.int .i64 (l + (h - l) / 2)), (.string f), (.string s), (.string u)] := (((k1.set_ 1 (.int .i64 (l + (h - l) / 2))).set_ 3 (.string s)).set_ 4 (.string u))
    have j2 := (kept_set (kept_set (kept_set k2 (k := q1) (fun e => hq e.symm) 1 (.int .i64 (l + (h - l) / 2))) (k := q1) (fun e => hq e.symm) 3 (.string s)) (k := q1) (fun e => hq e.symm) 4 (.string u))
    have hB2 := (below_set (below_set (below_set hB (p := ⟨q1, 1, none⟩) hqle1 (.int .i64 (l + (h - l) / 2))) (p := ⟨q1, 3, none⟩) hqle1 (.string s)) (p := ⟨q1, 4, none⟩) hqle1 (.string u))
    generalize (((w1.setCell ⟨q1, 1, none⟩ (.int .i64 (l + (h - l) / 2))).setCell ⟨q1, 3, none⟩ (.string s)).setCell ⟨q1, 4, none⟩ (.string u)) = W at j1 j2 hB2 ⊢
    clear k1 k2 hB c1 f1 c3 f3 c4 f4
    have c0 : W.cell? ⟨q1, 0, none⟩ = some (.int .i64 l) := j1.cell 0
    have c1 : W.cell? ⟨q1, 1, none⟩ = some (.int .i64 (l + (h - l) / 2)) := j1.cell 1
    have c2 : W.cell? ⟨q1, 2, none⟩ = some (.string f) := j1.cell 2
    have c3 : W.cell? ⟨q1, 3, none⟩ = some (.string s) := j1.cell 3
    have c4 : W.cell? ⟨q1, 4, none⟩ = some (.string u) := j1.cell 4
    have d0 : W.cell? ⟨q2, 0, none⟩ = some (.int .i64 0) := j2.cell 0
    have g0 := j2.frozen 0
    have d1 : W.cell? ⟨q2, 1, none⟩ = some (.int .i64 0) := j2.cell 1
    have g1 := j2.frozen 1
    have d2 : W.cell? ⟨q2, 2, none⟩ = some (.string ⟨#[]⟩) := j2.cell 2
    have g2 := j2.frozen 2
    have d3 : W.cell? ⟨q2, 3, none⟩ = some (.string ⟨#[]⟩) := j2.cell 3
    have g3 := j2.frozen 3
    have d4 : W.cell? ⟨q2, 4, none⟩ = some (.string ⟨#[]⟩) := j2.cell 4
    have g4 := j2.frozen 4
    go_wp2_with fail
    have kk : Blk (((((W.setCell ⟨q2, 0, none⟩ (.int .i64 l)).setCell ⟨q2, 1, none⟩ (.int .i64 (l + (h - l) / 2))).setCell ⟨q2, 2, none⟩ (.string f)).setCell ⟨q2, 3, none⟩ (.string s)).setCell ⟨q2, 4, none⟩ (.string u)) q2 32 #[(.int .i64 l), (.int .i64 (l + (h - l) / 2)), (.string f), (.string s), (.string u)] := (((((j2.set_ 0 (.int .i64 l)).set_ 1 (.int .i64 (l + (h - l) / 2))).set_ 2 (.string f)).set_ 3 (.string s)).set_ 4 (.string u))
    have hB3 := (below_set (below_set (below_set (below_set (below_set hB2 (p := ⟨q2, 0, none⟩) hqle2 (.int .i64 l)) (p := ⟨q2, 1, none⟩) hqle2 (.int .i64 (l + (h - l) / 2))) (p := ⟨q2, 2, none⟩) hqle2 (.string f)) (p := ⟨q2, 3, none⟩) hqle2 (.string s)) (p := ⟨q2, 4, none⟩) hqle2 (.string u))
    generalize (((((W.setCell ⟨q2, 0, none⟩ (.int .i64 l)).setCell ⟨q2, 1, none⟩ (.int .i64 (l + (h - l) / 2))).setCell ⟨q2, 2, none⟩ (.string f)).setCell ⟨q2, 3, none⟩ (.string s)).setCell ⟨q2, 4, none⟩ (.string u)) = WW at kk hB3 ⊢
    clear j1 j2 hB2 c0 c1 c2 c3 c4 d0 d1 d2 d3 d4 g0 g1 g2 g3 g4
    refine bodyPost_ret (results_disp rfl rfl kk) rfl ?_
    exact ⟨rfl, hB3⟩

/-- Which side is wrong. -/
def decideN (f a b : ByteArray) : Int := if sval a = sval b then 0 else if sval b = sval f * sval f % modN then 1 else if sval a = sval f * sval f % modN then 2 else 3

set_option maxHeartbeats 2000000 in
theorem Decide_in (l h : Int) (f a b : ByteArray) (hl : 0 ≤ l) (hlh : h - 1 = l) (hh : h ≤ 1048576) (hf : f.size ≤ 400) (ha : a.size ≤ 400) (hb : b.size ≤ 400) :
    Ret 25 #[dispV l h f a b] (.int .i64 (decideN f a b)) := by
  intro w
  have m1 := Lib.hid (ret_cmp (a := a) (b := b) (by omega) (by omega) (r := cmpI (sval a) (sval b)) rfl)
  have m2 := Lib.hid (Square_q f hf)
  have hq := natS_mod (sval f * sval f)
  have m3 := Lib.hid (ret_cmp (a := b) (b := natS (sval f * sval f % modN)) (by omega) (by omega) (r := cmpI (sval b) (sval f * sval f % modN)) (by rw [sval_natS]))
  have m4 := Lib.hid (ret_cmp (a := a) (b := natS (sval f * sval f % modN)) (by omega) (by omega) (r := cmpI (sval a) (sval f * sval f % modN)) (by rw [sval_natS]))
  have r1 := cmpI_beq (sval a) (sval b)
  have r2 := cmpI_beq (sval b) (sval f * sval f % modN)
  have r3 := cmpI_beq (sval a) (sval f * sval f % modN)
  obtain ⟨V, hV⟩ : ∃ V, V = decideN f a b := ⟨_, rfl⟩
  rw [← hV]
  unfold decideN at hV
  have HV := Lib.hid hV
  clear hV
  have w1 : IntKind.i64.wrap (h - 1) = l := by rw [hlh]; exact IntWalk.i64_in _ (by omega)
  have w2 : IntKind.i64.wrap l = l := IntWalk.i64_in _ (by omega)
  have hll : (l != l) = false := by simp
  generalize natS (sval f * sval f % modN) = q at m2 m3 m4
  generalize cmpI (sval a) (sval b) = x1 at m1 r1
  generalize cmpI (sval b) (sval f * sval f % modN) = x2 at m3 r2
  generalize cmpI (sval a) (sval f * sval f % modN) = x3 at m4 r3
  unfold dispV
  go_enter Tryz.func25, Tryz.ntmps25
  go_upto_region 1 with fail
  refine name1p ?_
  intro W0 k1 hB
  obtain ⟨q1, hq1⟩ : ∃ q, q = w.heap.size := ⟨_, rfl⟩
  rw [← hq1] at k1 ⊢
  clear hq1
  have c0 : W0.cell? ⟨q1, 0, none⟩ = some (.int .i64 l) := k1.cell 0
  have c1 : W0.cell? ⟨q1, 1, none⟩ = some (.int .i64 h) := k1.cell 1
  have c3 : W0.cell? ⟨q1, 3, none⟩ = some (.string a) := k1.cell 3
  have c4 : W0.cell? ⟨q1, 4, none⟩ = some (.string b) := k1.cell 4
  go_wp2_with fail
  refine (m1.out _).mono ?_
  rintro e wa ⟨rfl, hb⟩
  replace k1 := k1.below hb k1.lt
  replace hB := below_then hB hb
  clear hb c0 c1 c3 c4
  by_cases e1 : sval a = sval b
  · have b1 : (x1 == 0) = true := by rw [r1]; simp [e1]
    have hVf : V = 0 := by rw [HV.out, if_pos e1]
    subst hVf
    go_wp2_with fail
    go_ret
    exact ⟨rfl, hB⟩
  · have b1 : (x1 == 0) = false := by rw [r1]; simp [e1]
    have c2 : wa.cell? ⟨q1, 2, none⟩ = some (.string f) := k1.cell 2
    go_wp2_with fail
    refine (m2.out _).mono ?_
    rintro e wb ⟨rfl, hb⟩
    replace k1 := k1.below hb k1.lt
    replace hB := below_then hB hb
    clear hb c2
    have c4 : wb.cell? ⟨q1, 4, none⟩ = some (.string b) := k1.cell 4
    go_wp2_with fail
    refine (m3.out _).mono ?_
    rintro e wc ⟨rfl, hb⟩
    replace k1 := k1.below hb k1.lt
    replace hB := below_then hB hb
    clear hb c4
    by_cases e2 : sval b = sval f * sval f % modN
    · have b2 : (x2 == 0) = true := by rw [r2]; simp [e2]
      have hVf : V = 1 := by rw [HV.out, if_neg e1, if_pos e2]
      subst hVf
      go_wp2_with fail
      go_ret
      exact ⟨rfl, hB⟩
    · have b2 : (x2 == 0) = false := by rw [r2]; simp [e2]
      have c3 : wc.cell? ⟨q1, 3, none⟩ = some (.string a) := k1.cell 3
      go_wp2_with fail
      refine (m4.out _).mono ?_
      rintro e wd ⟨rfl, hb⟩
      replace hB := below_then hB hb
      clear hb c3 k1
      by_cases e3 : sval a = sval f * sval f % modN
      · have b3 : (x3 == 0) = true := by rw [r3]; simp [e3]
        have hVf : V = 2 := by rw [HV.out, if_neg e1, if_neg e2, if_pos e3]
        subst hVf
        go_wp2_with fail
        go_ret
        exact ⟨rfl, hB⟩
      · have b3 : (x3 == 0) = false := by rw [r3]; simp [e3]
        have hVf : V = 3 := by rw [HV.out, if_neg e1, if_neg e2, if_neg e3]
        subst hVf
        go_wp2_with fail
        go_ret
        exact ⟨rfl, hB⟩

theorem str_same (s : ByteArray) : (s.toList == s.toList) = true := by simp
theorem str_diff {s t : ByteArray} (h : s ≠ t) : (s.toList == t.toList) = false := by
  rw [beq_eq_false_iff_ne]
  intro e
  rw [Lib.toList_data, Lib.toList_data] at e
  exact h (ByteArray.ext (Array.toList_inj.1 e))

/-- Two lists of as many numbers. -/
theorem Same_any (A B : Option Addr) (n c d : Nat) (hn : n ≤ 100000) (xs ys : List ByteArray) (w : World) (hA : NDg w A n c xs) (hB : NDg w B n d ys) :
    Calls Tryz.prog 70 #[.slice A n c, .slice B n d] w fun e w' => e = .returned (.bool (decide (xs = ys))) ∧ Below w.heap.size w w' := by
  obtain ⟨V, hV⟩ : ∃ V, V = decide (xs = ys) := ⟨_, rfl⟩
  rw [← hV]
  have HV := Lib.hid hV
  clear hV
  have hnn : ((n : Int) != (n : Int)) = false := by simp
  go_enter Tryz.func70, Tryz.ntmps70
  go_wp2_with fail
  go_loopw [5] (fun s5 wr => ∃ k : Nat, k ≤ n ∧ s5 = .int .i64 (k : Int) ∧ Hid (xs.take k = ys.take k) ∧ NDg wr A n c xs ∧ NDg wr B n d ys ∧ Below w.heap.size w wr) (fun s5 _ => n - (intOf s5).toNat)
  case atStart => exact ⟨0, Nat.zero_le _, rfl, Lib.hid rfl, hA, hB, Below.refl _ _⟩
  case round =>
    obtain ⟨k, hk, rfl, HT, hA, hB, hbw⟩ := hrel
    by_cases hlt : k < n
    · obtain ⟨b1, o1, x, rfl, hx, hcx⟩ := hA.get hlt
      obtain ⟨b2, o2, y, rfl, hy, hcy⟩ := hB.get hlt
      have hlt' : (k : Int) < (n : Int) := by omega
      have hk0 : (0 : Int) ≤ (k : Int) := by omega
      have HX := Lib.hid (And.intro hx hy)
      clear hx hy
      by_cases hxy : x = y
      · have hxe := str_same y
        subst hxy
        go_upto_region 6 with fail
        go_quiet (fail)
        have hA' : NDg (wr.drewN nq) (some ⟨b1, o1, none⟩) n c xs := hA.below (below_drewN (Below.refl _ _) _)
        have hB' : NDg (wr.drewN nq) (some ⟨b2, o2, none⟩) n d ys := hB.below (below_drewN (Below.refl _ _) _)
        have hbw' := below_then hbw (below_drewN (Below.refl wr.heap.size wr) nq)
        generalize wr.drewN nq = wq at hA' hB' hbw' ⊢
        go_wp2_with fail
        go_roundw
        case rel =>
          refine ⟨k + 1, by omega, by go_num, Lib.hid ?_, hA', hB', hbw'⟩
          rw [List.take_add_one, List.take_add_one, HT.out, HX.out.1, HX.out.2]
        case measure => simp [intOf]; omega
      · have hne := str_diff hxy
        have hVf : V = false := by
          rw [HV.out]
          refine decide_eq_false fun e => ?_
          subst e
          have h1 := HX.out.1.symm.trans HX.out.2
          have h2 : x = y := Option.some.inj h1
          exact hxy h2
        subst hVf
        go_upto_region 6 with fail
        go_quiet (fail)
        have hbw' := below_then hbw (below_drewN (Below.refl wr.heap.size wr) nq)
        generalize wr.drewN nq = wq at hbw' ⊢
        go_wp2_with fail
        go_ret
        exact ⟨rfl, hbw'⟩
    · obtain rfl : k = n := by omega
      have hlt' : ¬ (k : Int) < (k : Int) := by omega
      have hVf : V = true := by
        rw [HV.out]
        refine decide_eq_true ?_
        have := HT.out
        rwa [List.take_of_length_le (by rw [hA.len]; exact Nat.le_refl _), List.take_of_length_le (by rw [hB.len]; exact Nat.le_refl _)] at this
      subst hVf
      go_wp2_with fail
      go_ret
      exact ⟨rfl, hbw⟩

end Go.Proofs.YtebgmlbbilcbbaaGreatDoor
