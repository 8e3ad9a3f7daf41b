/- Joined by a program: LiBase, LiA, LiB, LiC, LiD. -/
import Derived.Test.YtkpinmejfdnhbaaGreatDoorHelps
import Derived.Test.YtkpinmejfdnhbaaGreatDoorLockB
import Derived.Test.YtkpinmejfdnhbaaGreatDoorHelds
import Derived.Test.YtkpinmejfdnhbaaGreatDoorPlainLi
import Derived.IntWalk
import Derived.Deep.QuietTactic
import Derived.BigQuiet
import Derived.Deep.MidRow
import Derived.Great.BuildSlice
import Derived.Great.Walk
import Derived.ChangeKeysEq
import Derived.RangeFuncLeaves
import Derived.RangeFuncNested
import Derived.Stop.RegionWithIn
import Derived.Test.YtkpinmejfdnhbaaGreatDoorShelfLi
set_option maxRecDepth 100000
set_option maxHeartbeats 1000000
namespace Go.Proofs.YtkpinmejfdnhbaaGreatDoor
open Go.RowKit Go.Shelf
attribute [local go_sem] Oper.semAt_some
theorem name1p {P : Program} {code : Code} {Q : Exit → Act → World → Prop} {act : Act} {W : World} {t1 : TypeId} {c1 : Array Value}
 (h : ∀ W0 : World, Blk W0 W.heap.size t1 c1 → Below W.heap.size W W0 → code.wp P Q act W0) : code.wp P Q act (W.alloc (.cells c1 t1)) :=
 h _ (Blk.new _ _ _) (below_al (Below.refl _ _) _)
theorem name2p {P : Program} {code : Code} {Q : Exit → Act → World → Prop} {act : Act} {W : World} {t1 t2 : TypeId} {c1 c2 : Array Value}
 (h : ∀ W0 : World, Blk W0 W.heap.size t1 c1 → Blk W0 (W.heap.size + 1) t2 c2 → Below W.heap.size W W0 → code.wp P Q act W0) : code.wp P Q act ((W.alloc (.cells c1 t1)).alloc (.cells c2 t2)) := by
 refine h _ ((Blk.new _ _ _).alloc _) ?_ (below_al (below_al (Below.refl _ _) _) _);have := Blk.new (W.alloc (.cells c1 t1)) t2 c2;rwa [World.size_alloc] at this
theorem str_same (s : ByteArray) : (s.toList == s.toList) = true := by simp
theorem str_diff {s t : ByteArray} (h : s ≠ t) : (s.toList == t.toList) = false := by
 rw [beq_eq_false_iff_ne];intro e;rw [Lib.toList_data, Lib.toList_data] at e;exact h (ByteArray.ext (Array.toList_inj.1 e))
def encT (s : ByteArray) : List Value := [.string s]
theorem encT_len (s : ByteArray) : (encT s).length = 1 := rfl
theorem encT_one (s : ByteArray) : ∀ u ∈ encT s, u.oneCell' = true := fun u hu => by
 simp only [encT, List.mem_singleton] at hu;subst hu; rfl
theorem own_low {α : Type} {enc : α → List Value} {e : TypeId} {s B : Nat} {w : World} {v : Value} {l : List α} (h : OwnL enc e s B w v l) {k : Nat} (hk : k < B) : some k ≠ v.ownBlock := by
 rcases h.2 with ⟨rfl, _⟩ | ⟨g, cap, cur, rfl, hB, _⟩
 ·intro e; cases e
 ·intro e;have : k = g := Option.some.inj e
  omega
theorem own_high {α : Type} {enc : α → List Value} {e : TypeId} {s B : Nat} {w : World} {v : Value} {l : List α} (h : OwnL enc e s B w v l) : ∀ k, v.ownBlock = some k → B ≤ k := by
 intro k hk
 rcases h.2 with ⟨rfl, _⟩ | ⟨g, cap, cur, rfl, hB, _⟩
 ·cases hk
 ·obtain rfl : g = k := Option.some.inj hk;exact hB
theorem own_cells {α : Type} {enc : α → List Value} {e : TypeId} {s B : Nat} {w : World} {v : Value} {l : List α} (h : OwnL enc e s B w v l) : ∀ (j : Nat) (o : Obj), v.ownBlock = some j → w.heap[j]? = some o → o.isCells = true := by
 intro k o hk ho
 rcases h.2 with ⟨rfl, _⟩ | ⟨g, cap, cur, rfl, hB, hh, _⟩
 ·cases hk
 ·obtain rfl : g = k := Option.some.inj hk;rw [hh] at ho;obtain rfl := Option.some.inj ho
  rfl
theorem keeps_below {W W' : World} (hb : Below W.heap.size W W') : KeepsOthers W W' := KeepsOthers.of_grownBy (grown_of_below hb none) (fun _ _ e => by cases e)
theorem cell_b {w w' : World} {p : Addr} {v : Value} (hb : Below w.heap.size w w') (h : w.cell? p = some v) : w'.cell? p = some v := (hb.cell (block_lt_of_cell h)).trans h
theorem blk_ty {w : World} {k j : Nat} {t u : TypeId} {cs ds : Array Value} (h : Blk w k t cs) (g : Blk w j u ds) (hne : t ≠ u) : k ≠ j := fun e => by
 subst e;have := Option.some.inj ((show w.heap[k]? = _ from h).symm.trans g);simp only [Obj.cells.injEq, and_true] at this;exact hne this.2
theorem alloc_name {K : Act → World → Prop} {a : Act} {W : World} {cs : Array Value} {t : TypeId} (h : ∀ W' : World, Blk W' W.heap.size t cs → Below W.heap.size W W' → K a W') : K a (W.alloc (.cells cs t)) :=
 h _ (Blk.new _ _ _) (below_al (Below.refl _ _) _)
theorem own_ty {α : Type} {enc : α → List Value} {e t : TypeId} {s B k : Nat} {w : World} {v : Value} {l : List α} {cs : Array Value} (h : OwnL enc e s B w v l) (hb : Blk w k t cs) (hne : t ≠ e) : some k ≠ v.ownBlock := by
 rcases h.2 with ⟨rfl, _⟩ | ⟨g, cap, cur, rfl, _, hh, _⟩
 ·simp [Value.ownBlock]
 ·intro he;simp only [Value.ownBlock, Option.some.injEq] at he;subst he;have := Option.some.inj ((show w.heap[k]? = _ from hb).symm.trans hh);simp only [Obj.cells.injEq, and_true] at this;exact hne this.2
def enc8 (b : UInt8) : List Value := [.int .u8 (b.toNat : Int)]
theorem enc8_len (b : UInt8) : (enc8 b).length = 1 := rfl
theorem enc8_one (b : UInt8) : ∀ u ∈ enc8 b, u.oneCell' = true := fun u hu => by
 obtain rfl := List.mem_singleton.1 hu; rfl
abbrev Own8 (B : Nat) (w : World) (v : Value) (l : List UInt8) : Prop := OwnL enc8 5 1 B w v l
theorem flat8 (l : List UInt8) : l.flatMap enc8 = u8l l := by
 induction l with
 | nil => rfl
 | cons b l ih => rw [List.flatMap_cons, ih]; rfl
theorem Own8.bdg {B : Nat} {w : World} {v : Value} {l : List UInt8} (h : Own8 B w v l) : ∃ A c, v = .slice A l.length c ∧ BDg w A l.length c l := by
 obtain ⟨A, c, rfl, hr⟩ := OwnL.row h enc8_len;refine ⟨A, c, rfl, hr.len, hr.cap, fun h0 => ?_⟩;obtain ⟨b, o, e, hc⟩ := hr.at_ h0;refine ⟨b, o, e, fun j x hx => ?_⟩;have := hc j 0 x (.int .u8 (x.toNat : Int)) hx rfl;rwa [Nat.mul_one, Nat.add_zero] at this
theorem own_keptL {α : Type} {enc : α → List Value} {e : TypeId} {s B : Nat} {W W' : World} {v : Value} {l : List α} {row : Option Nat} (h : OwnL enc e s B W v l) (hg : W.grownBy W' row) (hrow : ∀ r, row = some r → ∃ o : Obj, W.heap[r]? = some o ∧ o.isCells = false) : OwnL enc e s B W' v l := by
 refine OwnL.kept h hg ?_
 rcases h.2 with ⟨rfl, _⟩ | ⟨g, cap, cur, rfl, _, hh, _⟩
 ·exact .inl rfl
 ·refine .inr (fun e => ?_);have e2 : row = some g := by rw [← e]; rfl
  obtain ⟨o, h1, h2⟩ := hrow g e2;rw [hh] at h1;obtain rfl := Option.some.inj h1
  simp [Obj.isCells] at h2
theorem rf_two {α : Type} {enc1 enc2 : α → Value} {F : Fence} {n : Nat} {P : Program} {g : Operand} {p0 p1 : Tmp} {assign body : Code} {Q : Exit → Act → World → Prop} {a : Act} {w : World}
 (hro : F.round = none) (h1 : 1 ≤ n) {gf : Nat} {lb : Array Value} (hg : a.eval g = .func (.func gf) #[] lb) (hFg : F.fn gf) (eg : ∀ args w, (callFunc gf args).run P w = .ok (.enter gf args) w)
 {Kp : World → World → Prop} {S Sp : List α → Prop} {N : Nat} {w0 : World} (hseq : SeqStopsK F (n - 1) P gf lb (fun x => #[enc1 x, enc2 x]) Kp S Sp N w0)
 (hKt : ∀ {A B C : World}, Kp A B → Kp B C → Kp A C) (hKb : ∀ (W : World) (l : Nat) (o o' : Obj), w.heap.size ≤ l → W.heap[l]? = some o → o.isCells = false → o.isWalk = false → Kp W (W.putObj l o')) (hb0 : Below w0.heap.size w0 w)
 (I : List α → World → Prop) (hI : OwnFrom w.heap.size I) (h0 : I [] w) (a₁ : α → Act)
 (hassign : ∀ (l : Nat) (x : α) (W : World) (K : Act → World → Prop), K (a₁ x) W →
  assign.wpIn (F.inRound l) (n - 1 - 1) P (Exit.then K (fun _ _ _ => False)) { tmps := (a.tmps.setIfInBounds p0 (enc1 x)).setIfInBounds p1 (enc2 x), defers := [] } W)
 (hbody : ∀ (l : Nat) (pre : List α) (x : α) (W : World), I pre W → pre.length < N → body.wpIn (F.inRound l) (n - 1 - 1) P (ownPostK Kp I (fun _ _ _ => False) (pre ++ [x]) W) (a₁ x) W)
 (hdone : ∀ (D : Nat) (xs : List α) (W : World), w.heap.size ≤ D → S xs → I xs W → W.heap[D]? = some (.deferred (some [])) → Q .normal { a with defers := { target := .collected D, args := #[] } :: a.defers } W) :
 (Code.rangeFunc g #[p0, p1] assign body).wpIn F n P Q a w :=
 wpIn_rangeFunc_ownF hro h1 hg hFg eg hseq hKt hKb hb0 (fun _ => rfl) I (fun _ _ _ => False) hI (fun _ _ _ _ _ hs _ _ => hs) h0
  a₁ (fun l x W K hK => by have := hassign l x W K hK; simpa using this) hbody hdone (fun _ _ _ _ _ _ h _ => h.elim)
theorem u8_xor (a b : UInt8) : bits .xor .u8 (a.toNat : Int) (b.toNat : Int) = ((a ^^^ b).toNat : Int) := by
 have ha := UInt8.toNat_lt a;have hb := UInt8.toNat_lt b;have hx : a.toNat ^^^ b.toNat < 2 ^ 8 := Nat.xor_lt_two_pow ha hb;show IntKind.u8.wrap ((BitVec.ofInt 8 (a.toNat : Int) ^^^ BitVec.ofInt 8 (b.toNat : Int)).toNat : Int) = _;rw [BitVec.toNat_xor, BitVec.ofInt_natCast, BitVec.ofInt_natCast, BitVec.toNat_ofNat, BitVec.toNat_ofNat, Nat.mod_eq_of_lt ha, Nat.mod_eq_of_lt hb, u8_wrap, UInt8.toNat_xor]
 omega
theorem yield_bool {e : Ending} {A C : Prop} (h : (e = .returned (.bool true) ∧ A) ∨ (e = .returned (.bool false) ∧ C)) : ∃ b : Bool, e = .returned (.bool b) ∧ Hid ((b = true ∧ A) ∨ (b = false ∧ C)) := by
 rcases h with ⟨rfl, h⟩ | ⟨rfl, h⟩
 ·exact ⟨true, rfl, Lib.hid (.inl ⟨rfl, h⟩)⟩
 ·exact ⟨false, rfl, Lib.hid (.inr ⟨rfl, h⟩)⟩
def zero32 : List UInt8 := List.replicate 32 0
theorem zero32_len : zero32.length = 32 := rfl
theorem fold_put (off : Nat) : ∀ (vs : List Value) (k : Nat) (cs : Array Value), off + k + vs.length ≤ cs.size →
 ((vs.zipIdx k).foldl (fun (cs : Array Value) (x : Value × Nat) => cs.setIfInBounds (off + x.2) x.1) cs) = (cs.toList.take (off + k) ++ (vs ++ cs.toList.drop (off + k + vs.length))).toArray
 | [], k, cs, _ => by simp
 | v :: vs, k, cs, h => by
   rw [List.zipIdx_cons, List.foldl_cons, fold_put off vs (k + 1) _ (by rw [Array.size_setIfInBounds]; rw [List.length_cons] at h; omega)];have hlt : off + k < cs.toList.length := by rw [Array.length_toList]; rw [List.length_cons] at h; omega
   rw [Array.toList_setIfInBounds, List.set_eq_take_append_cons_drop, if_pos hlt];have h1 : (cs.toList.take (off + k)).length = off + k := by rw [List.length_take]; omega
   congr 1
   have e1 : off + (k + 1) = (cs.toList.take (off + k)).length + 1 := by omega
   have e2 : off + (k + 1) + vs.length = (cs.toList.take (off + k)).length + (vs.length + 1) := by omega
   rw [e2, List.drop_length_add_append, e1, List.take_length_add_append];have e3 : List.drop vs.length (List.drop (off + k + 1) cs.toList) = List.drop (off + k + (v :: vs).length) cs.toList := by
    rw [List.drop_drop]; congr 1; rw [List.length_cons]; omega
   rw [List.drop_succ_cons, e3]
   simp
theorem fill_step {place : Nat → Option (Nat × Nat)} {cells : Array Value} {i : Nat} {v : Value} {rest : List (Nat × Value)} {off size : Nat} (hp : place i = some (off, size)) (hs : v.cells.size = size) (hb : off + size ≤ cells.size) :
 Instr.fill place cells ((i, v) :: rest) = Instr.fill place (cells.toList.take off ++ (v.cells.toList ++ cells.toList.drop (off + size))).toArray rest := by
 rw [Instr.fill, hp];have hc : ¬ (v.cells.size ≠ size || off + v.cells.size > cells.size) = true := by simp [hs]; omega
 simp only;rw [if_neg hc]
 congr 1
 have := fold_put off v.cells.toList 0 cells (by rw [Array.length_toList, hs]; exact hb);rw [Array.length_toList, hs, Nat.add_zero] at this;rw [← this];rw [← Array.foldl_toList, Array.toList_zipIdx]
theorem hash_built0 : Tryz.prog.built 38 [] = some (u8a zero32) := by kernel_rfl
theorem hash_size : (Tryz.prog.info? 38).map (·.size) = some 32 := by kernel_rfl
theorem run_part8 {l : List UInt8} {i : Nat} {b : UInt8} (h : l[i]? = some b) (w : World) : (part 5 (u8a l) (i * 1)).run Tryz.prog w = .ok (.int .u8 (b.toNat : Int)) w := by
 have hg := u8a_get h
 simp [part, isAgg, run_underlying Tryz.underlying5, hg]
theorem run_items8 (a b : List UInt8) (d : Nat) (w : World) : ∀ is : List Nat, (∀ i ∈ is, i < a.length ∧ i < b.length) → (Op.eqItems (d + 1) 5 1 (u8a a) (u8a b) is).run Tryz.prog w = .ok (is.all fun i => a[i]? == b[i]?) w
 | [], _ => by simp [Op.eqItems]
 | i :: is, h => by
   have h1 := h i (by simp);have ih := run_items8 a b d w is (fun j hj => h j (by simp [hj]));have ea : a[i]? = some a[i] := List.getElem?_eq_getElem h1.1;have eb : b[i]? = some b[i] := List.getElem?_eq_getElem h1.2;rw [List.all_cons, ea, eb];generalize a[i] = x at ea ⊢;generalize b[i] = y at eb ⊢;simp only [Op.eqItems, Sem.run_bind, run_part8 ea, run_part8 eb, Result.andThen_ok, run_equalIn_int w d 5 .u8 .u8 _ _ Tryz.underlying5];have e : ((x.toNat : Int) == (y.toNat : Int)) = (some x == some y) := by
    rw [Bool.eq_iff_iff];simp only [beq_iff_eq, Option.some.injEq]
    constructor
    ·intro e; exact UInt8.toNat_inj.1 (by omega)
    ·intro e; rw [e]
   rw [e]
   cases he : (some x == some y)
   ·simp
   ·simp [ih]
theorem cells_u8 : Tryz.prog.cellsOf 5 = 1 := by kernel_rfl
theorem run_eq_hash {a b : List UInt8} (ha : a.length = 32) (hb : b.length = 32) (d : Nat) (w : World) : (Op.equalIn (d + 2) 38 (.agg (u8a a)) (.agg (u8a b))).run Tryz.prog w = .ok (decide (a = b)) w := by
 obtain ⟨i, hi, _⟩ := Option.map_eq_some_iff.1 info_u8;rw [run_equalIn_array w (d + 1) (u8a a) (u8a b) Tryz.underlying38 hi, cells_u8, run_items8 a b d w _ (fun i hi => by rw [ha, hb]; exact ⟨List.mem_range.1 hi, List.mem_range.1 hi⟩)]
 congr 1
 rw [Bool.eq_iff_iff, List.all_eq_true, decide_eq_true_iff]
 constructor
 ·intro h;refine List.ext_getElem? (fun i => ?_)
  by_cases hi : i < 32
  ·exact beq_iff_eq.1 (h i (List.mem_range.2 hi))
  ·rw [List.getElem?_eq_none (by omega), List.getElem?_eq_none (by omega)]
 ·intro h i _; rw [h]; simp
theorem name2e {P : Program} {code : Code} {Q : Exit → Act → World → Prop} {act : Act} {W : World} {t1 t2 : TypeId} {c1 c2 : Array Value} (d1 d2 : Array Value) (e1 : c1 = d1) (e2 : c2 = d2)
 (h : ∀ W0 : World, Blk W0 W.heap.size t1 d1 → Blk W0 (W.heap.size + 1) t2 d2 → Below W.heap.size W W0 → Hid (W0 = (W.alloc (.cells d1 t1)).alloc (.cells d2 t2)) → code.wp P Q act W0) : code.wp P Q act ((W.alloc (.cells c1 t1)).alloc (.cells c2 t2)) := by
 subst e1 e2;refine h _ ((Blk.new _ _ _).alloc _) ?_ (below_al (below_al (Below.refl _ _) _) _) (Lib.hid rfl);have := Blk.new (W.alloc (.cells c1 t1)) t2 c2;rwa [World.size_alloc] at this
theorem wpList_on {P : Program} {ops : Array Oper} {rest : List Oper} {o : Oper} {a : Act} {w : World} {Q : Exit → Act → World → Prop} (hw : Region.wanted o (yielded ops a.tmps) = true)
 (h : ∀ K : Act → World → Prop, (∀ a w, wpList P ops Q rest a w → K a w) → o.wp P a w K Q) : wpList P ops Q (o :: rest) a w :=
 wpList_step fun K hK => by rw [if_pos hw]; exact h K hK
theorem wpList_load_rowG {P : Program} {ops : Array Oper} {rest : List Oper} {o : Oper} {a : Act} {w : World} {Q : Exit → Act → World → Prop} (hw : Region.wanted o (yielded ops a.tmps) = true) (ty : TypeId) (x : Operand) (ho : o.op = .load ty x)
 (d : Option Tmp) (hd : o.dst = d) (g : Nat) (hx : a.eval x = .pointer (some ⟨g, 0, none⟩)) (t : TypeId) (cs : Array Value) (fr : Nat × Nat) (ds : TypeDesc) (hg : w.heap[g]? = some (.cells cs t fr))
 (hu : P.underlying ty = some ds) (hds : (match ds with | .struct _ | .array _ _ => true | _ => false) = true) (hi : (P.info? ty).map (·.size) = some cs.size)
 (h : wpList P ops Q rest (a.put d (.agg cs)) w) : wpList P ops Q (o :: rest) a w := by
 subst hd;exact wpList_on hw fun _ hK => wp_load_row ty x ho g hx t cs fr ds hg hu hds hi (hK _ _ h)
theorem wpList_buildToG {P : Program} {ops : Array Oper} {rest : List Oper} {o : Oper} {a : Act} {w : World} {Q : Exit → Act → World → Prop} (hw : Region.wanted o (yielded ops a.tmps) = true) (t : TypeId) (parts : Array (Nat × Operand)) (ho : o.op = .build t parts)
 (d : Option Tmp) (hd : o.dst = d) (cells : Array Value) (hf : P.built t (parts.map fun (i, x) => (i, a.eval x)).toList = some cells)
 (h : wpList P ops Q rest (a.put d (.agg cells)) w) : wpList P ops Q (o :: rest) a w := by
 subst hd;refine wpList_on hw fun _ hK => wp_build t parts ho (by rw [hf]; rfl) (hK _ _ ?_);rw [hf];exact h
theorem wp_buildSliceTo {P : Program} {o : Oper} {a : Act} {w : World} {K : Act → World → Prop} {Q : Exit → Act → World → Prop} (t e : TypeId) (len : Nat) (parts : Array (Nat × Operand)) (ho : o.op = .buildSlice t len parts)
 (hu : P.underlying t = some (.slice e)) (cells : Array Value) (hf : P.builtSlice e len (parts.map fun (i, x) => (i, a.eval x)).toList = some cells)
 (h : K (a.put o.dst (.slice (some ⟨w.heap.size, 0, none⟩) len len)) (w.alloc (.cells cells e))) : o.wp P a w K Q := by
 unfold Program.builtSlice at hf
 cases hie : P.info? e with
 | none => simp [hie] at hf
 | some ie =>
   simp only [hie] at hf
   cases hz : ie.zero with
   | none => simp [hz] at hf
   | some z =>
     simp only [hz] at hf
     by_cases hc : len * ie.size > 2 ^ 24 ∨ len * ie.size = 0
     ·simp [hc] at hf
     ·rw [if_neg hc] at hf;exact wp_buildSlice t e len parts ho cells ie z hu hie hz (fun h' => hc (Or.inl h')) (fun h' => hc (Or.inr h')) hf h
theorem hash_range {w : World} {k : Nat} {t : TypeId} {h : List UInt8} (hk : Blk w k t (u8a h)) : w.rangeAt k 0 (u8l h) := fun j v hv => by
 unfold u8l at hv;rw [List.getElem?_map, Option.map_eq_some_iff] at hv;obtain ⟨b, hb, rfl⟩ := hv;rw [Nat.zero_add];exact hk.u8A hb
end Go.Proofs.YtkpinmejfdnhbaaGreatDoor
namespace Go.Proofs.YtkpinmejfdnhbaaGreatDoor
open Go.RowKit
attribute [local go_sem] Oper.semAt_some
abbrev RetS (f : FuncId) (args : Array Value) (v : Value) : Prop := ∀ W : World, Calls Tryz.prog f args W fun e w' => e = .returned v ∧ w' = W
theorem RetS.of {f : FuncId} {args : Array Value} {v u : Value} (h : RetS f args v) (e : v = u) : RetS f args u := e ▸ h
theorem rResidue_q (n m : Int) (h3 : 0 < m) (h4 : m ≤ 4611686018427387904) : RetS 136 #[.int .i64 n, .int .i64 m] (.int .i64 (n % m)) := by
 intro w;have hm0 : ¬ m = 0 := by omega
 have hr := Int.emod_nonneg n hm0;have hl := Int.emod_lt_of_pos n h3;have ht : n.tmod m = n % m ∨ (n.tmod m = n % m - m ∧ n.tmod m < 0) := by
  rw [Int.tmod_eq_emod]
  split
  ·left; omega
  ·right
   rename_i hh
   have hz : n % m ≠ 0 := fun e => hh (.inr (Int.dvd_of_emod_eq_zero e));rw [Int.natAbs_of_nonneg (by omega)]
   omega
 generalize n % m = r at *;generalize htm : n.tmod m = t at *;have hb0 : (m == 0) = false := by rw [beq_eq_false_iff_ne]; omega
 have hw : IntKind.i64.wrap t = t := IntWalk.i64_in _ (by omega)
 rcases ht with rfl | ⟨ht, hneg⟩
 ·go_enter Tryz.func136, Tryz.ntmps136;go_wp2_with fail;go_ret;exact ⟨rfl, rfl⟩
 ·have hs : IntKind.i64.wrap (t + m) = t + m := IntWalk.i64_in _ (by omega);obtain rfl : r = t + m := by omega
  clear ht;go_enter Tryz.func136, Tryz.ntmps136;go_wp2_with fail;go_ret;exact ⟨rfl, rfl⟩
theorem rResidue_n (n m : Nat) (h3 : 0 < m) (h4 : m ≤ 4611686018427387904) : RetS 136 #[.int .i64 (n : Int), .int .i64 (m : Int)] (.int .i64 ((n % m : Nat) : Int)) :=
 (rResidue_q (n : Int) (m : Int) (by omega) (by omega)).of (by rw [Int.natCast_emod])
theorem rplus_q (a b m : Nat) (ha : a < m) (hb : b < m) (h4 : m ≤ 4611686018427387904) : RetS 157 #[.int .i64 (a : Int), .int .i64 (b : Int), .int .i64 (m : Int)] (.int .i64 (((a + b) % m : Nat) : Int)) := by
 intro w;obtain ⟨d, hd, hd1⟩ : ∃ d : Nat, (m : Int) - (b : Int) = (d : Int) ∧ d + b = m := ⟨m - b, by omega, by omega⟩
 by_cases h : d ≤ a
 ·obtain ⟨r, hr, hr1⟩ : ∃ r : Nat, (a : Int) - (d : Int) = (r : Int) ∧ (a + b) % m = r := ⟨a - d, by omega, by rw [Nat.mod_eq_sub_mod (by omega), Nat.mod_eq_of_lt (by omega)]; omega⟩;rw [hr1];have h' : (d : Int) ≤ (a : Int) := by omega
  clear hr1;go_enter Tryz.func157, Tryz.ntmps157;go_wp2_with fail;go_ret;exact ⟨rfl, rfl⟩
 ·rw [Nat.mod_eq_of_lt (by omega)];have h' : ¬ (d : Int) ≤ (a : Int) := by omega
  obtain ⟨r, hr, hr1⟩ : ∃ r : Nat, (a : Int) + (b : Int) = (r : Int) ∧ a + b = r := ⟨a + b, by omega, rfl⟩;rw [hr1];go_enter Tryz.func157, Tryz.ntmps157;go_wp2_with fail;go_ret;exact ⟨rfl, rfl⟩
theorem rAdd4_q (a b m : Nat) (h3 : 0 < m) (h4 : m ≤ 4611686018427387904) : RetS 95 #[.int .i64 (a : Int), .int .i64 (b : Int), .int .i64 (m : Int)] (.int .i64 (((a + b) % m : Nat) : Int)) := by
 intro w;have m1 := Lib.hid (rResidue_n a m h3 h4);have m2 := Lib.hid (rResidue_n b m h3 h4);have m3 := Lib.hid ((rplus_q (a % m) (b % m) m (Nat.mod_lt _ h3) (Nat.mod_lt _ h3) h4).of (by rw [← Nat.add_mod]));generalize a % m = x at *;generalize b % m = y at *;generalize (a + b) % m = r at *;go_enter Tryz.func95, Tryz.ntmps95
 go_wp2_with (first
  | (go_at_call 136; (with_reducible refine (m1.out _).mono ?_); rintro e w' ⟨rfl, hww⟩; obtain rfl := hww.symm; clear m1)
  | (go_at_call 136; (with_reducible refine (m2.out _).mono ?_); rintro e w' ⟨rfl, hww⟩; obtain rfl := hww.symm)
  | (go_at_call 157; (with_reducible refine (m3.out _).mono ?_); rintro e w' ⟨rfl, hww⟩; obtain rfl := hww.symm))
 go_ret;exact ⟨rfl, rfl⟩
theorem rSub4_q (a b m : Nat) (h3 : 0 < m) (h4 : m ≤ 4611686018427387904) : RetS 161 #[.int .i64 (a : Int), .int .i64 (b : Int), .int .i64 (m : Int)] (.int .i64 (((a % m + (m - b % m)) % m : Nat) : Int)) := by
 intro w;have m1 := Lib.hid (rResidue_n a m h3 h4);have m2 := Lib.hid (rResidue_n b m h3 h4);have hx := Nat.mod_lt a h3;have hy := Nat.mod_lt b h3;generalize a % m = x at *;generalize b % m = y at *;obtain ⟨d, hd, hd1⟩ : ∃ d : Nat, (m : Int) - (y : Int) = (d : Int) ∧ d + y = m := ⟨m - y, by omega, by omega⟩;rw [show m - y = d by omega]
 by_cases h : x < y
 ·obtain ⟨r, hr, hr1⟩ : ∃ r : Nat, (x : Int) + (d : Int) = (r : Int) ∧ (x + d) % m = r := ⟨x + d, by omega, Nat.mod_eq_of_lt (by omega)⟩;rw [hr1];have h' : (x : Int) < (y : Int) := by omega
  clear hr1;go_enter Tryz.func161, Tryz.ntmps161
  go_wp2_with (first
   | (go_at_call 136; (with_reducible refine (m1.out _).mono ?_); rintro e w' ⟨rfl, hww⟩; obtain rfl := hww.symm; clear m1)
   | (go_at_call 136; (with_reducible refine (m2.out _).mono ?_); rintro e w' ⟨rfl, hww⟩; obtain rfl := hww.symm))
  go_ret;exact ⟨rfl, rfl⟩
 ·obtain ⟨r, hr, hr1⟩ : ∃ r : Nat, (x : Int) - (y : Int) = (r : Int) ∧ (x + d) % m = r := ⟨x - y, by omega, by rw [Nat.mod_eq_sub_mod (by omega), Nat.mod_eq_of_lt (by omega)]; omega⟩;rw [hr1];have h' : ¬ (x : Int) < (y : Int) := by omega
  clear hr1;go_enter Tryz.func161, Tryz.ntmps161
  go_wp2_with (first
   | (go_at_call 136; (with_reducible refine (m1.out _).mono ?_); rintro e w' ⟨rfl, hww⟩; obtain rfl := hww.symm; clear m1)
   | (go_at_call 136; (with_reducible refine (m2.out _).mono ?_); rintro e w' ⟨rfl, hww⟩; obtain rfl := hww.symm))
  go_ret;exact ⟨rfl, rfl⟩
theorem mul_round {m o x y : Nat} (_h3 : 0 < m) (hy : y % 2 = 1) : ((o + x) % m + (x + x) % m * (y / 2)) % m = (o + x * y) % m := by
 rw [Nat.add_mod, Nat.mod_mod, Nat.mod_mul_mod, ← Nat.add_mod]
 congr 1
 have e : y = 2 * (y / 2) + 1 := by omega
 generalize y / 2 = k at e ⊢;subst e;rw [Nat.mul_add, Nat.mul_one, ← Nat.mul_assoc, Nat.mul_two]
 omega
theorem mul_round0 {m o x y : Nat} (hy : y % 2 = 0) : (o + (x + x) % m * (y / 2)) % m = (o + x * y) % m := by
 rw [Nat.add_mod, Nat.mod_mul_mod, ← Nat.add_mod]
 congr 1
 have e : y = 2 * (y / 2) := by omega
 generalize y / 2 = k at e ⊢;subst e;rw [← Nat.mul_assoc, Nat.mul_two]
theorem rMul4_q (a b m : Nat) (h3 : 0 < m) (h4 : m ≤ 4611686018427387904) : RetS 102 #[.int .i64 (a : Int), .int .i64 (b : Int), .int .i64 (m : Int)] (.int .i64 ((a * b % m : Nat) : Int)) := by
 intro w;have m1 := Lib.hid (rResidue_n a m h3 h4);have m2 := Lib.hid (rResidue_n b m h3 h4);have hx := Nat.mod_lt a h3;have hy := Nat.mod_lt b h3;have HV := Lib.hid (Nat.mul_mod a b m);generalize a * b % m = r at *;generalize a % m = x at *;generalize b % m = y at *;have h31 : ¬ (m : Int) < 1 := by omega
 have hr : r < m := by rw [HV.out]; exact Nat.mod_lt _ h3
 by_cases hsm : x < 2147483648 ∧ y < 2147483648
 ·obtain ⟨hs1, hs2⟩ := hsm;have hs1' : (x : Int) < 2147483648 := by omega
  have hs2' : (y : Int) < 2147483648 := by omega
  have hp : x * y ≤ 2147483648 * 2147483648 := Nat.mul_le_mul (by omega) (by omega);obtain ⟨p, hp1, hp2, hp3⟩ : ∃ p : Nat, (x : Int) * (y : Int) = (p : Int) ∧ p ≤ 4611686018427387904 ∧ p = x * y := ⟨x * y, by rw [Int.natCast_mul], by omega, rfl⟩;have ht : (p : Int).tmod (m : Int) = (r : Int) := by rw [Int.tmod_eq_emod_of_nonneg (by omega), ← Int.natCast_emod, hp3, ← HV.out]
  have hm0 : ((m : Int) == 0) = false := by rw [beq_eq_false_iff_ne]; omega
  clear hp hp3 HV hs1 hs2;go_enter Tryz.func102, Tryz.ntmps102
  go_wp2_with (first
   | (go_at_call 136; (with_reducible refine (m1.out _).mono ?_); rintro e w' ⟨rfl, hww⟩; obtain rfl := hww.symm; clear m1)
   | (go_at_call 136; (with_reducible refine (m2.out _).mono ?_); rintro e w' ⟨rfl, hww⟩; obtain rfl := hww.symm))
  go_ret;exact ⟨rfl, rfl⟩
 ·have hcase : ((x : Int) < 2147483648) = False ∨ (((x : Int) < 2147483648) = True ∧ ((y : Int) < 2147483648) = False) := by
   simp only [eq_iff_iff, iff_false, iff_true]; omega
  clear hsm;have q1 := Lib.hid (fun (o x : Nat) (h1 : o < m) (h2 : x < m) => rplus_q o x m h1 h2 h4);go_enter Tryz.func102, Tryz.ntmps102
  rcases hcase with hc | ⟨hc1, hc2⟩
  all_goals
   go_wp2_with (first
    | (go_at_call 136; (with_reducible refine (m1.out _).mono ?_); rintro e w' ⟨rfl, hww⟩; obtain rfl := hww.symm; clear m1)
    | (go_at_call 136; (with_reducible refine (m2.out _).mono ?_); rintro e w' ⟨rfl, hww⟩; obtain rfl := hww.symm))
   go_loop [7, 8, 9] (fun s7 s8 s9 => ∃ x y o : Nat, s7 = .int .i64 (x : Int) ∧ s8 = .int .i64 (y : Int) ∧ s9 = .int .i64 (o : Int) ∧ x < m ∧ y < m ∧ o < m ∧ Hid ((o + x * y) % m = r)) (fun _ s8 _ => (intOf s8).toNat)
   case atStart => exact ⟨x, y, 0, rfl, rfl, rfl, hx, hy, h3, Lib.hid (by rw [Nat.zero_add, ← HV.out])⟩
   case round =>
    obtain ⟨x, y, o, rfl, rfl, rfl, hx, hy, ho, HR⟩ := hrel;clear m2 HV
    by_cases h0 : 0 < y
    ·have h0' : 0 < (y : Int) := by omega
     obtain ⟨k, hk1⟩ : ∃ k : Nat, k = y / 2 := ⟨_, rfl⟩;have p1 := Lib.hid (q1.out o x ho hx);have p2 := Lib.hid (q1.out x x hx hx);have hx2 := Nat.mod_lt (x + x) h3;have ho2 := Nat.mod_lt (o + x) h3;have hky : k < y := by omega
     have HK := Lib.hid hk1
     by_cases hod : y % 2 = 1
     ·have ht : (y : Int).tmod 2 = 1 := by rw [Int.tmod_eq_emod_of_nonneg (by omega)]; omega
      have HN : Hid (((o + x) % m + (x + x) % m * k) % m = r) := Lib.hid (by rw [hk1, mul_round h3 hod]; exact HR.out);clear hk1;generalize (x + x) % m = x2 at *;generalize (o + x) % m = o2 at *
      go_wp2_with (first
       | (go_at_call 157; (with_reducible refine (p1.out _).mono ?_); rintro e w' ⟨rfl, hww⟩; obtain rfl := hww.symm; clear p1)
       | (go_at_call 157; (with_reducible refine (p2.out _).mono ?_); rintro e w' ⟨rfl, hww⟩; obtain rfl := hww.symm))
      go_round
      case rel => exact ⟨x2, k, o2, rfl, by rw [HK.out]; go_num, rfl, hx2, by omega, ho2, HN⟩
      case measure => have := HK.out; simp [intOf]; omega
     ·have ht : (y : Int).tmod 2 = 0 := by rw [Int.tmod_eq_emod_of_nonneg (by omega)]; omega
      have HN : Hid ((o + (x + x) % m * k) % m = r) := Lib.hid (by rw [hk1, mul_round0 (by omega)]; exact HR.out);clear hk1;generalize (x + x) % m = x2 at *;clear p1
      go_wp2_with (first
       | (go_at_call 157; (with_reducible refine (p2.out _).mono ?_); rintro e w' ⟨rfl, hww⟩; obtain rfl := hww.symm))
      go_round
      case rel => exact ⟨x2, k, o, rfl, by rw [HK.out]; go_num, rfl, hx2, by omega, ho, HN⟩
      case measure => have := HK.out; simp [intOf]; omega
    ·obtain rfl : y = 0 := by omega
     obtain rfl : o = r := by have := HR.out; rwa [Nat.mul_zero, Nat.add_zero, Nat.mod_eq_of_lt ho] at this
     go_wp2_with fail;go_ret;exact ⟨rfl, rfl⟩
theorem pow_round {m o x n : Nat} (hn : n % 2 = 1) : (o * x % m) * (x * x % m) ^ (n / 2) % m = o * x ^ n % m := by
 rw [Nat.mod_mul_mod, Nat.mul_mod, ← Nat.pow_mod, ← Nat.mul_mod]
 congr 1
 have e : n = 2 * (n / 2) + 1 := by omega
 generalize n / 2 = k at e ⊢;subst e;rw [Nat.pow_succ, Nat.pow_mul, Nat.pow_two, Nat.mul_assoc, Nat.mul_comm x]
theorem pow_round0 {m o x n : Nat} (hn : n % 2 = 0) : o * (x * x % m) ^ (n / 2) % m = o * x ^ n % m := by
 rw [Nat.mul_mod, ← Nat.pow_mod, ← Nat.mul_mod]
 congr 1
 have e : n = 2 * (n / 2) := by omega
 generalize n / 2 = k at e ⊢;subst e;rw [Nat.pow_mul, Nat.pow_two]
theorem rPow4_q (a n m : Nat) (h3 : 0 < m) (h4 : m ≤ 4611686018427387904) (hn : n ≤ 9223372036854775807) : RetS 75 #[.int .i64 (a : Int), .int .i64 (n : Int), .int .i64 (m : Int)] (.int .i64 ((pm m 64 a n : Nat) : Int)) := by
 intro w;have m1 : Hid (RetS 136 #[.int .i64 1, .int .i64 (m : Int)] (.int .i64 ((1 % m : Nat) : Int))) := Lib.hid (rResidue_n 1 m h3 h4);have m2 := Lib.hid (rResidue_n a m h3 h4);have q1 := Lib.hid (fun (o x : Nat) => rMul4_q o x m h3 h4);have hx := Nat.mod_lt a h3;have ho := Nat.mod_lt 1 h3;have HV : Hid ((1 % m) * (a % m) ^ n % m = pm m 64 a n) := Lib.hid (by rw [Nat.mod_mul_mod, Nat.one_mul, ← Nat.pow_mod, pm_eq _ _ _ _ (by omega)]);generalize pm m 64 a n = r at *;generalize 1 % m = one at *;generalize a % m = x at *;have h31 : ¬ (m : Int) < 1 := by omega
 have hn0 : ¬ (n : Int) < 0 := by omega
 go_enter Tryz.func75, Tryz.ntmps75
 go_wp2_with (first
  | (go_at_call 136; (with_reducible refine (m1.out _).mono ?_); rintro e w' ⟨rfl, hww⟩; obtain rfl := hww.symm; clear m1)
  | (go_at_call 136; (with_reducible refine (m2.out _).mono ?_); rintro e w' ⟨rfl, hww⟩; obtain rfl := hww.symm))
 go_loop [1, 7, 8] (fun s1 s7 s8 => ∃ n o x : Nat, s1 = .int .i64 (n : Int) ∧ s7 = .int .i64 (o : Int) ∧ s8 = .int .i64 (x : Int) ∧ n ≤ 9223372036854775807 ∧ o < m ∧ x < m ∧ Hid (o * x ^ n % m = r)) (fun s1 _ _ => (intOf s1).toNat)
 case atStart => exact ⟨n, one, x, rfl, rfl, rfl, hn, ho, hx, HV⟩
 case round =>
  obtain ⟨n, o, x, rfl, rfl, rfl, hn, ho, hx, HR⟩ := hrel;clear m2 HV
  by_cases h0 : 0 < n
  ·have h0' : 0 < (n : Int) := by omega
   obtain ⟨k, hk1⟩ : ∃ k : Nat, k = n / 2 := ⟨_, rfl⟩;have p1 := Lib.hid (q1.out o x);have p2 := Lib.hid (q1.out x x);have hx2 := Nat.mod_lt (x * x) h3;have ho2 := Nat.mod_lt (o * x) h3;have hky : k < n := by omega
   have HK := Lib.hid hk1
   by_cases hod : n % 2 = 1
   ·have ht : (n : Int).tmod 2 = 1 := by rw [Int.tmod_eq_emod_of_nonneg (by omega)]; omega
    have HN : Hid (o * x % m * (x * x % m) ^ k % m = r) := Lib.hid (by rw [hk1, pow_round hod]; exact HR.out);clear hk1;generalize x * x % m = x2 at *;generalize o * x % m = o2 at *
    go_wp2_with (first
     | (go_at_call 102; (with_reducible refine (p1.out _).mono ?_); rintro e w' ⟨rfl, hww⟩; obtain rfl := hww.symm; clear p1)
     | (go_at_call 102; (with_reducible refine (p2.out _).mono ?_); rintro e w' ⟨rfl, hww⟩; obtain rfl := hww.symm))
    go_round
    case rel => exact ⟨k, o2, x2, by rw [HK.out]; go_num, rfl, rfl, by omega, ho2, hx2, HN⟩
    case measure => have := HK.out; simp [intOf]; omega
   ·have ht : (n : Int).tmod 2 = 0 := by rw [Int.tmod_eq_emod_of_nonneg (by omega)]; omega
    have HN : Hid (o * (x * x % m) ^ k % m = r) := Lib.hid (by rw [hk1, pow_round0 (by omega)]; exact HR.out);clear hk1;generalize x * x % m = x2 at *;clear p1
    go_wp2_with (first
     | (go_at_call 102; (with_reducible refine (p2.out _).mono ?_); rintro e w' ⟨rfl, hww⟩; obtain rfl := hww.symm))
    go_round
    case rel => exact ⟨k, o, x2, by rw [HK.out]; go_num, rfl, rfl, by omega, ho, hx2, HN⟩
    case measure => have := HK.out; simp [intOf]; omega
  ·obtain rfl : n = 0 := by omega
   obtain rfl : o = r := by have := HR.out; rwa [Nat.pow_zero, Nat.mul_one, Nat.mod_eq_of_lt ho] at this
   go_wp2_with fail;go_ret;exact ⟨rfl, rfl⟩
theorem rG_q (n : Nat) (hn : n ≤ 9223372036854775807) : RetS 75 #[.int .i64 4, .int .i64 (n : Int), .int .i64 2305843009213691579] (.int .i64 ((gP n : Nat) : Int)) := rPow4_q 4 n pG (by decide) (by decide) hn
theorem rPowP_q (a n : Nat) (hn : n ≤ 9223372036854775807) : RetS 75 #[.int .i64 (a : Int), .int .i64 (n : Int), .int .i64 2305843009213691579] (.int .i64 ((pm pG 64 a n : Nat) : Int)) := rPow4_q a n pG (by decide) (by decide) hn
theorem rMulP_q (a b : Nat) : RetS 102 #[.int .i64 (a : Int), .int .i64 (b : Int), .int .i64 2305843009213691579] (.int .i64 ((a * b % pG : Nat) : Int)) := rMul4_q a b pG (by decide) (by decide)
theorem rMulQ_q (a b : Nat) : RetS 102 #[.int .i64 (a : Int), .int .i64 (b : Int), .int .i64 1152921504606845789] (.int .i64 ((a * b % qG : Nat) : Int)) := rMul4_q a b qG (by decide) (by decide)
theorem rAddQ_q (a b : Nat) : RetS 95 #[.int .i64 (a : Int), .int .i64 (b : Int), .int .i64 1152921504606845789] (.int .i64 (((a + b) % qG : Nat) : Int)) := rAdd4_q a b qG (by decide) (by decide)
theorem rSubQ_q (a b : Nat) (ha : a < qG) (hb : b < qG) : RetS 161 #[.int .i64 (a : Int), .int .i64 (b : Int), .int .i64 1152921504606845789] (.int .i64 (((a + (qG - b)) % qG : Nat) : Int)) :=
 (rSub4_q a b qG (by decide) (by decide)).of (by rw [Nat.mod_eq_of_lt ha, Nat.mod_eq_of_lt hb])
theorem gcd_prime {n a : Nat} (hp : Pr n) (ha : a < n) (h0 : a ≠ 0) : Nat.gcd n a = 1 := by
 rcases hp.2 _ (Nat.gcd_dvd_left n a) with h | h
 ·exact h
 ·have h1 := Nat.le_of_dvd (by omega) (Nat.gcd_dvd_right n a)
  omega
theorem pr_qG : Pr qG := pr_1152921504606845789
theorem inv_round {r s x y a q : Nat} (_hs : 0 < s) (h1 : fq r = fq x * fq a) (h2 : fq s = fq y * fq a) (hq : q = r / s) (hy : q * y % qG < qG) :
 fq (r % s) = fq ((x + (qG - q * y % qG)) % qG) * fq a := by
 have e : fq (r % s) = fq r - fq q * fq s := by
  have : fq r = fq (s * (r / s)) + fq (r % s) := by rw [← fq_add, Nat.div_add_mod]
  rw [this, fq_mul, ← hq]
  grind
 rw [e, fq_mod, fq_sub hy, fq_mod, fq_mul, h1, h2]
 grind
theorem rInv_q (a : Nat) (ha : a % qG ≠ 0) : RetS 160 #[.int .i64 (a : Int), .int .i64 1152921504606845789] (.tuple #[.int .i64 ((invN a : Nat) : Int), .bool true]) := by
 intro w;have m1 : Hid (RetS 136 #[.int .i64 (a : Int), .int .i64 1152921504606845789] (.int .i64 ((a % qG : Nat) : Int))) := Lib.hid (rResidue_n a qG (by decide) (by decide));have q1 := Lib.hid rMulQ_q;have q2 := Lib.hid rSubQ_q;have hx := Nat.mod_lt a qG_pos;have HA : Hid (fq (a % qG) = fq 1 * fq a) := Lib.hid (by rw [fq_mod, fq_one]; grind)
 have HI := Lib.hid (fun (b : Nat) (hb : b < qG) (h : fq b * fq a = fq 1) => (inv_only (a := a) hb (by
  rw [← Nat.mod_eq_of_lt qG_gt, Nat.mul_comm]; rw [← fq_mul] at h; exact fq_eq.1 h)))
 obtain ⟨Q, hQ, HG, HQ, hQ1⟩ : ∃ Q : Nat, (Q : Int) = 1152921504606845789 ∧ Hid (Nat.gcd Q (a % qG) = 1) ∧ Hid (fq Q = fq 0 * fq a) ∧ Q = qG := ⟨qG, rfl, Lib.hid (gcd_prime pr_qG hx ha), Lib.hid (by rw [fq_self, fq_zero]; grind), rfl⟩;generalize a % qG = s0 at *;generalize invN a = r at *;replace hx : s0 < Q := by omega
 have hQl : Q ≤ 1152921504606845789 := by omega
 go_enter Tryz.func160, Tryz.ntmps160
 go_wp2_with (first
  | (go_at_call 136; (with_reducible refine (m1.out _).mono ?_); rintro e w' ⟨rfl, hww⟩; obtain rfl := hww.symm; clear m1))
 go_loop [6, 7, 8, 9] (fun s6 s7 s8 s9 => ∃ r s x y : Nat, s6 = .int .i64 (r : Int) ∧ s7 = .int .i64 (s : Int) ∧ s8 = .int .i64 (x : Int) ∧ s9 = .int .i64 (y : Int) ∧ r ≤ 1152921504606845789 ∧ s < r ∧ Hid (x < qG ∧ y < qG ∧ fq r = fq x * fq a ∧ fq s = fq y * fq a ∧ Nat.gcd r s = 1)) (fun _ s7 _ _ => (intOf s7).toNat)
 case atStart => exact ⟨Q, s0, 0, 1, by rw [hQ], rfl, rfl, rfl, hQl, hx, Lib.hid ⟨qG_pos, qG_gt, HQ.out, HA.out, HG.out⟩⟩
 case round =>
  obtain ⟨r, s, x, y, rfl, rfl, rfl, rfl, hr, hs, HR⟩ := hrel;clear HG HA HQ hx hQ1 hQl hQ
  by_cases h0 : 0 < s
  ·have h0' : 0 < (s : Int) := by omega
   have hb0 : ((s : Int) == 0) = false := by rw [beq_eq_false_iff_ne]; omega
   obtain ⟨q, hq, hq1⟩ : ∃ q : Nat, (r : Int).tdiv (s : Int) = (q : Int) ∧ q = r / s := ⟨r / s, by rw [Int.tdiv_eq_ediv_of_nonneg (by omega), Int.natCast_ediv], rfl⟩;have hqr : q ≤ r := by rw [hq1]; exact Nat.div_le_self _ _
   have hdm := Nat.div_add_mod r s;rw [← hq1] at hdm;have hml := Nat.mod_lt r h0;obtain ⟨p, hp, hp1⟩ : ∃ p : Nat, (q : Int) * (s : Int) = (p : Int) ∧ p = s * q := ⟨s * q, by rw [Int.natCast_mul, Int.mul_comm], rfl⟩;rw [← hp1] at hdm;obtain ⟨t, ht, ht1⟩ : ∃ t : Nat, (r : Int) - (p : Int) = (t : Int) ∧ t = r % s := ⟨r % s, by omega, rfl⟩;have hz := Nat.mod_lt (q * y) qG_pos;have p1 := Lib.hid (q1.out q y);have p2 := Lib.hid (q2.out x (q * y % qG) HR.out.1 hz)
   have HN : Hid (y < qG ∧ (x + (qG - q * y % qG)) % qG < qG ∧ fq s = fq y * fq a ∧ fq t = fq ((x + (qG - q * y % qG)) % qG) * fq a ∧ Nat.gcd s t = 1) := Lib.hid ⟨HR.out.2.1, Nat.mod_lt _ qG_pos, HR.out.2.2.2.1, by
    rw [ht1]; exact inv_round h0 HR.out.2.2.1 HR.out.2.2.2.1 hq1 hz, by
    rw [ht1, Nat.gcd_comm, ← Nat.gcd_rec, Nat.gcd_comm]; exact HR.out.2.2.2.2⟩
   rw [← ht1] at hml;clear hq1 hp1 ht1 hz HR;generalize (x + (qG - q * y % qG)) % qG = z at *;generalize q * y % qG = qy at *
   go_wp2_with (first
    | (go_at_call 102; (with_reducible refine (p1.out _).mono ?_); rintro e w' ⟨rfl, hww⟩; obtain rfl := hww.symm)
    | (go_at_call 161; (with_reducible refine (p2.out _).mono ?_); rintro e w' ⟨rfl, hww⟩; obtain rfl := hww.symm))
   go_round
   case rel => exact ⟨s, t, y, z, rfl, rfl, rfl, rfl, by omega, hml, HN⟩
   case measure => simp [intOf]; omega
  ·obtain rfl : s = 0 := by omega
   obtain rfl : r = 1 := by have := HR.out.2.2.2.2; rwa [Nat.gcd_zero_right] at this
   obtain rfl : x = _ := HI.out x HR.out.1 HR.out.2.2.1.symm;clear HR HI;go_wp2_with fail;go_ret2;exact ⟨rfl, rfl⟩
theorem rMember_q (a : Int) (h1 : -9223372036854775808 ≤ a) (h2 : a ≤ 9223372036854775807) : RetS 119 #[.int .i64 a] (.bool (memB a)) := by
 intro w
 by_cases hlo : 1 ≤ a
 ·by_cases hhi : a < 2305843009213691579
  ·obtain ⟨n, rfl⟩ := Int.eq_ofNat_of_zero_le (show 0 ≤ a by omega);have m1 : Hid (RetS 75 #[.int .i64 (n : Int), .int .i64 1152921504606845789, .int .i64 2305843009213691579] (.int .i64 ((pm pG 64 n qG : Nat) : Int))) := Lib.hid (rPowP_q n qG (by decide));have hv : memB (n : Int) = ((pm pG 64 n qG : Int) == 1) := by
    unfold memB;rw [decide_eq_true hlo, decide_eq_true (show (n : Int) ≤ 2305843009213691578 by omega), Int.toNat_natCast];simp only [Bool.true_and];rw [Bool.eq_iff_iff, beq_iff_eq, beq_iff_eq]
    omega
   rw [hv];generalize pm pG 64 n qG = r at *;clear hv;obtain ⟨b, hb⟩ : ∃ b : Bool, ((r : Int) == 1) = b := ⟨_, rfl⟩;rw [hb];go_enter Tryz.func119, Tryz.ntmps119
   go_wp2_with (first
    | (go_at_call 75; (with_reducible refine (m1.out _).mono ?_); rintro e w' ⟨rfl, hww⟩; obtain rfl := hww.symm))
   go_ret;exact ⟨rfl, rfl⟩
  ·have hv : memB a = false := by unfold memB; rw [decide_eq_false (show ¬ a ≤ 2305843009213691578 by omega)]; simp
   rw [hv];go_enter Tryz.func119, Tryz.ntmps119;go_wp2_with fail;go_ret;exact ⟨rfl, rfl⟩
 ·have hv : memB a = false := by unfold memB; rw [decide_eq_false hlo]; simp
  rw [hv];have hlo' : ¬ (1 : Int) ≤ a := hlo;go_enter Tryz.func119, Tryz.ntmps119;go_wp2_with fail;go_ret;exact ⟨rfl, rfl⟩
theorem num_step {V M b : Nat} (hM : 0 < M) (hb : b < 256) : V % M * 256 + b = (V * 256 + b) % (M * 256) := by
 have h1 := Nat.mod_lt V hM;have e : V * 256 + b = (M * 256) * (V / M) + (V % M * 256 + b) := by
  have h2 : V * 256 = (M * (V / M) + V % M) * 256 := by rw [Nat.div_add_mod]
  rw [h2, Nat.add_mul, Nat.mul_right_comm, Nat.add_assoc]
 have h3 : V % M * 256 + b < M * 256 := by omega
 rw [e, Nat.mul_add_mod, Nat.mod_eq_of_lt h3]
def numK (h : List UInt8) (k : Nat) : Nat := bv (h.take k) % 2 ^ (8 * k - 1)
theorem numK_succ {h : List UInt8} {k : Nat} {b : UInt8} (hk : 1 ≤ k) (hb : h[k]? = some b) : numK h (k + 1) = numK h k * 256 + b.toNat := by
 unfold numK;have e1 : h.take (k + 1) = h.take k ++ [b] := by rw [List.take_add_one, hb]; rfl
 have e2 : 2 ^ (8 * (k + 1) - 1) = 2 ^ (8 * k - 1) * 256 := by
  rw [show 8 * (k + 1) - 1 = (8 * k - 1) + 8 by omega, Nat.pow_add]
 rw [e1, bv_snoc, e2, num_step (Nat.two_pow_pos _) (UInt8.toNat_lt b)]
theorem numK_one {h : List UInt8} {b : UInt8} (hb : h[0]? = some b) : numK h 1 = b.toNat % 128 := by
 cases h with
 | nil => cases hb
 | cons x t =>
   obtain rfl := Option.some.inj hb;show bv [x] % 2 ^ 7 = _;rw [bv_cons]
   simp [bv_nil, P8_zero]
theorem numK_lt (h : List UInt8) {k : Nat} : numK h k < 2 ^ (8 * k - 1) := Nat.mod_lt _ (Nat.two_pow_pos _)
theorem rnumber4_q (h : List UInt8) (hl : h.length = 32) : Ret 182 #[.agg (u8a h)] (.int .i64 ((numH h : Nat) : Int)) := by
 intro w;have HV : Hid (numK h 8 = numH h) := Lib.hid rfl;have q1 := Lib.hid (fun (k : Nat) (hk : 1 ≤ k) (b : UInt8) (hb : h[k]? = some b) => numK_succ hk hb);obtain ⟨b0, hb0⟩ : ∃ b, h[0]? = some b := ⟨_, List.getElem?_eq_getElem (by omega)⟩;have h1 := numK_one hb0;have q2 := Lib.hid (fun (k : Nat) (hk : k ≤ 8) => Nat.lt_of_lt_of_le (numK_lt h (k := k)) (Nat.pow_le_pow_right (n := 2) (by omega) (show 8 * k - 1 ≤ 63 by omega)));generalize numH h = r at *;have hbl := UInt8.toNat_lt b0;obtain ⟨x, hx, hx1⟩ : ∃ x : Nat, (b0.toNat : Int).tmod 128 = (x : Int) ∧ x = b0.toNat % 128 := ⟨b0.toNat % 128, by rw [Int.tmod_eq_emod_of_nonneg (by omega)]; omega, rfl⟩;rw [← hx1] at h1;have hxl : x < 128 := by omega
 have HX := Lib.hid h1;clear h1 hx1;go_enter Tryz.func182, Tryz.ntmps182;go_upto_region 1 with fail;refine name1p ?_;intro w1 k1 hB;have c0 : w1.cell? ⟨w.heap.size, 0, none⟩ = some (.int .u8 (b0.toNat : Int)) := (k1.cell 0).trans (u8a_get hb0);go_wp2_with fail;clear c0
 go_loop [3, 4] (fun s3 s4 => ∃ k n : Nat, 1 ≤ k ∧ k ≤ 8 ∧ s4 = .int .i64 (k : Int) ∧ s3 = .int .i64 (n : Int) ∧ Hid (numK h k = n)) (fun _ s4 => 8 - (intOf s4).toNat)
 case atStart => exact ⟨1, x, by omega, by omega, rfl, by first | rfl | go_num, HX⟩
 case round =>
  obtain ⟨k, n, hk1, hk8, rfl, rfl, HN⟩ := hrel;have hn := q2.out k hk8;rw [HN.out] at hn
  by_cases hlt : k < 8
  ·have hlt' : (k : Int) < 8 := by omega
   obtain ⟨b, hb⟩ : ∃ b, h[k]? = some b := ⟨_, List.getElem?_eq_getElem (by omega)⟩;have hbl := UInt8.toNat_lt b;have HS := Lib.hid (q1.out k hk1 b hb);have hs := q2.out (k + 1) (by omega);rw [HS.out, HN.out] at hs;have ck : w1.cell? ⟨w.heap.size, k, none⟩ = some (.int .u8 (b.toNat : Int)) := (k1.cell k).trans (u8a_get hb);rw [show (2 : Nat) ^ 63 = 9223372036854775808 by rfl] at hs hn;clear hb;go_wp2_with fail;go_round
   case rel => exact ⟨k + 1, n * 256 + b.toNat, by omega, by omega, by go_num, by go_num, Lib.hid (by rw [HS.out, HN.out])⟩
   case measure => simp [intOf]; omega
  ·obtain rfl : k = 8 := by omega
   obtain rfl : n = r := by rw [← HN.out, HV.out]
   go_wp2_with fail;go_ret;exact ⟨rfl, hB⟩
theorem rScalar_q (s : ByteArray) (hs : s.size ≤ 900000) : Ret 121 #[.string s] (.int .i64 ((scalN s.data.toList : Nat) : Int)) := by
 intro w;obtain ⟨t, ht⟩ : ∃ t : ByteArray, (⟨#[115, 47]⟩ : ByteArray) ++ s = t := ⟨_, rfl⟩;have htl : t.data.toList = [115, 47] ++ s.data.toList := by rw [← ht, ByteArray.data_append, Array.toList_append]
 have hts : t.size = 2 + s.size := by rw [← ht, ByteArray.size_append]; rfl
 have m1 := Lib.hid (fun W => rSum_any t W (by omega));have m2 := Lib.hid (rnumber4_q (shaS t.data.toList) (sha_len _));have HV : Hid (numH (shaS t.data.toList) % qG = scalN s.data.toList) := Lib.hid (by rw [htl]; rfl);have hsz : ¬ (9223372036854775807 : Int) < ((⟨#[115, 47]⟩ : ByteArray) ++ s).size := by rw [ht]; omega
 have hnl : numH (shaS t.data.toList) < 2 ^ 63 := Nat.mod_lt _ (by decide);rw [show (2 : Nat) ^ 63 = 9223372036854775808 by rfl] at hnl;generalize shaS t.data.toList = h at *;generalize numH h = n at *;generalize scalN s.data.toList = r at *;have hmod : (n : Int).tmod 1152921504606845789 = (r : Int) := by
  rw [Int.tmod_eq_emod_of_nonneg (by omega), ← HV.out, Int.natCast_emod]; rfl
 clear htl;go_enter Tryz.func121, Tryz.ntmps121
 go_wp2_with (first
  | (go_at_call 65; (try rw [ht]); (with_reducible refine (m1.out _).mono ?_); rintro e w' ⟨rfl, hB⟩)
  | (go_at_call 182; (with_reducible refine (m2.out _).mono ?_); rintro e w' ⟨rfl, hB2⟩))
 go_ret;exact ⟨rfl, below_then hB hB2⟩
theorem residue_n (n m : Nat) (h3 : 0 < m) (h4 : m ≤ 4611686018427387904) : RetS 226 #[.int .i64 (n : Int), .int .i64 (m : Int)] (.int .i64 ((n % m : Nat) : Int)) := by
 intro w;obtain ⟨r, hr, hr1⟩ : ∃ r : Nat, (n : Int).tmod (m : Int) = (r : Int) ∧ r = n % m := ⟨n % m, by rw [Int.tmod_eq_emod_of_nonneg (by omega), Int.natCast_emod], rfl⟩;have hl := Nat.mod_lt n h3;rw [← hr1] at hl ⊢;have hb0 : ((m : Int) == 0) = false := by rw [beq_eq_false_iff_ne]; omega
 have hn0 : ¬ (r : Int) < 0 := by omega
 clear hr1;go_enter Tryz.func226, Tryz.ntmps226;go_wp2_with fail;go_ret;exact ⟨rfl, rfl⟩
theorem plus_q (a b m : Nat) (ha : a < m) (hb : b < m) (h4 : m ≤ 4611686018427387904) : RetS 228 #[.int .u64 (a : Int), .int .u64 (b : Int), .int .u64 (m : Int)] (.int .u64 (((a + b) % m : Nat) : Int)) := by
 intro w;obtain ⟨s, hs, hs1⟩ : ∃ s : Nat, (a : Int) + (b : Int) = (s : Int) ∧ s = a + b := ⟨a + b, by omega, rfl⟩;rw [← hs1];have hw : IntKind.u64.wrap (s : Int) = (s : Int) := IntWalk.u64_in _ (by omega)
 by_cases h : m ≤ s
 ·obtain ⟨r, hr, hr1⟩ : ∃ r : Nat, (s : Int) - (m : Int) = (r : Int) ∧ s % m = r := ⟨s - m, by omega, by rw [Nat.mod_eq_sub_mod (by omega), Nat.mod_eq_of_lt (by omega)]⟩;rw [hr1];have hw2 : IntKind.u64.wrap (r : Int) = (r : Int) := IntWalk.u64_in _ (by omega);have h' : (m : Int) ≤ (s : Int) := by omega
  clear hr1 hs1;go_enter Tryz.func228, Tryz.ntmps228;go_wp2_with fail;go_ret;exact ⟨rfl, rfl⟩
 ·rw [Nat.mod_eq_of_lt (by omega)];have h' : ¬ (m : Int) ≤ (s : Int) := by omega
  clear hs1;go_enter Tryz.func228, Tryz.ntmps228;go_wp2_with fail;go_ret;exact ⟨rfl, rfl⟩
theorem bitLen_bits (n : Nat) (hn : n < 2 ^ 64) : Lib.bitLen n = bitsN n := by
 by_cases h : n = 0
 ·subst h; rfl
 ·obtain ⟨k, e, h1, h2⟩ := bitsN_bounds h;have h3 : n / 2 ^ k = 1 := by
   rw [Nat.pow_succ] at h2;exact Nat.div_eq_of_lt_le (by omega) (by omega)
  rw [Lib.bitLen_shift k n h1 hn, h3, e]; rfl
theorem top_step {x y c i m : Nat} (_hi : i < c) : (x * (y / 2 ^ (c - i)) % m + x * (y / 2 ^ (c - i)) % m) % m = x * (2 * (y / 2 ^ (c - i))) % m := by
 rw [← Nat.add_mod, show x * (2 * (y / 2 ^ (c - i))) = x * (y / 2 ^ (c - i)) + x * (y / 2 ^ (c - i)) by rw [Nat.mul_left_comm]; omega]
theorem top_half {y c i : Nat} (hi : i < c) : y / 2 ^ (c - (i + 1)) = 2 * (y / 2 ^ (c - i)) + y / 2 ^ (c - 1 - i) % 2 := by
 have e : 2 ^ (c - i) = 2 ^ (c - (i + 1)) * 2 := by rw [← Nat.pow_succ]; congr 1; omega
 rw [e, ← Nat.div_div_eq_div_mul, show c - 1 - i = c - (i + 1) by omega]
 omega
theorem Mul_q (a b m : Nat) (h3 : 0 < m) (h4 : m ≤ 4611686018427387904) : RetS 187 #[.int .i64 (a : Int), .int .i64 (b : Int), .int .i64 (m : Int)] (.int .i64 ((a * b % m : Nat) : Int)) := by
 intro w;have m1 := Lib.hid (residue_n a m h3 h4);have m2 := Lib.hid (residue_n b m h3 h4);have q1 := Lib.hid (fun (o x : Nat) (h1 : o < m) (h2 : x < m) => plus_q o x m h1 h2 h4);have hx := Nat.mod_lt a h3;have hy := Nat.mod_lt b h3;have HV := Lib.hid (Nat.mul_mod a b m);generalize a * b % m = r at *;generalize a % m = x at *;generalize b % m = y at *;have h31 : ((m : Int) < 1) = False := by simp only [eq_iff_iff, iff_false]; omega
 have wx : IntKind.u64.wrap (x : Int) = (x : Int) := IntWalk.u64_in _ (by omega);have wy : IntKind.u64.wrap (y : Int) = (y : Int) := IntWalk.u64_in _ (by omega);have wm : IntKind.u64.wrap (m : Int) = (m : Int) := IntWalk.u64_in _ (by omega);obtain ⟨c, hc⟩ := exq (bitsN y)
 have m3 : Hid (RetS 227 #[.int .u64 (y : Int)] (.int .i64 (c : Int))) := Lib.hid (fun W => (Tryz.bits_Len64 (y : Int) W (by omega) (by omega)).mono fun e w' h => by
  rw [Int.toNat_natCast, bitLen_bits y (by omega), ← hc] at h; exact h)
 have hcl : c ≤ 64 := by rw [hc]; exact bitsN_le (by omega)
 have hyc : y / 2 ^ c = 0 := by rw [hc]; exact Nat.div_eq_of_lt (lt_bitsN y)
 have HH := Lib.hid hyc;clear hc hyc;go_enter Tryz.func187, Tryz.ntmps187
 go_wp2_with (first
  | (go_at_call 226; (with_reducible refine (m1.out _).mono ?_); rintro e w' ⟨rfl, hww⟩; obtain rfl := hww.symm; clear m1)
  | (go_at_call 226; (with_reducible refine (m2.out _).mono ?_); rintro e w' ⟨rfl, hww⟩; obtain rfl := hww.symm)
  | (go_at_call 227; (with_reducible refine (m3.out _).mono ?_); rintro e w' ⟨rfl, hww⟩; obtain rfl := hww.symm))
 clear m2 m3
 go_loop [10, 12, 28] (fun s10 _ s28 => ∃ i o : Nat, i ≤ c ∧ s28 = .int .i64 (i : Int) ∧ s10 = .int .u64 (o : Int) ∧ o < m ∧ Hid (o = x * (y / 2 ^ (c - i)) % m)) (fun _ _ s28 => c - (intOf s28).toNat)
 case atStart => exact ⟨0, 0, by omega, rfl, rfl, h3, Lib.hid (by rw [Nat.sub_zero, HH.out, Nat.mul_zero, Nat.zero_mod])⟩
 case round =>
  obtain ⟨i, o, hi, rfl, rfl, ho, HO⟩ := hrel
  by_cases hlt : i < c
  ·have hlt' : (i : Int) < (c : Int) := by omega
   have p1 := Lib.hid (q1.out o o ho ho);have ho2 := Nat.mod_lt (o + o) h3;have H2 : Hid ((o + o) % m = x * (2 * (y / 2 ^ (c - i))) % m) := Lib.hid (by rw [HO.out]; exact top_step hlt);have p2 := Lib.hid (q1.out ((o + o) % m) x ho2 hx);have ho3 := Nat.mod_lt ((o + o) % m + x) h3;obtain ⟨s, hs, hs1⟩ : ∃ s : Nat, (c : Int) - 1 - (i : Int) = (s : Int) ∧ s = c - 1 - i := ⟨c - 1 - i, by omega, rfl⟩;have hs2 : (c : Int) - 1 - (i : Int) = (s : Int) := hs;obtain ⟨d, hd, hd1⟩ : ∃ d : Nat, (c : Int) - 1 = (d : Int) ∧ d = c - 1 := ⟨c - 1, by omega, rfl⟩;rw [hd] at hs;clear hd1;have hs64 : s < 64 := by omega
   obtain ⟨v, hv, hv1⟩ : ∃ v : Nat, (y : Int) / 2 ^ s = (v : Int) ∧ v = y / 2 ^ s := ⟨y / 2 ^ s, by rw [Int.natCast_ediv]; simp, rfl⟩;have hvl : v < 18446744073709551616 := by rw [hv1]; exact Nat.lt_of_le_of_lt (Nat.div_le_self _ _) (by omega)
   have HT : Hid (y / 2 ^ (c - (i + 1)) = 2 * (y / 2 ^ (c - i)) + v % 2) := Lib.hid (by rw [hv1, hs1]; exact top_half hlt);have hand : bits .and .u64 (v : Int) 1 = ((v % 2 : Nat) : Int) := by
    have e := u64_and_nat v 1 hvl (by omega);rw [show (1 : Nat) = 2 ^ 1 - 1 by rfl, Nat.and_two_pow_sub_one_eq_mod] at e;exact e
   by_cases hod : v % 2 = 1
   ·rw [hod] at hand HT
    have HN : Hid (((o + o) % m + x) % m = x * (y / 2 ^ (c - (i + 1))) % m) := Lib.hid (by
     rw [HT.out, H2.out, Nat.mul_add, Nat.mul_one, Nat.add_mod, Nat.mod_mod, ← Nat.add_mod])
    clear hv1 hs1 HT HO H2;generalize ((o + o) % m + x) % m = o3 at *;generalize (o + o) % m = o2 at *
    go_wp2_with (first
     | (go_at_call 228; (with_reducible refine (p1.out _).mono ?_); rintro e w' ⟨rfl, hww⟩; obtain rfl := hww.symm; clear p1)
     | (go_at_call 228; (with_reducible refine (p2.out _).mono ?_); rintro e w' ⟨rfl, hww⟩; obtain rfl := hww.symm))
    go_round
    case rel => exact ⟨i + 1, o3, by omega, by go_num, rfl, ho3, HN⟩
    case measure => simp [intOf]; omega
   ·have hod0 : v % 2 = 0 := by omega
    rw [hod0] at hand HT;have HN : Hid ((o + o) % m = x * (y / 2 ^ (c - (i + 1))) % m) := Lib.hid (by rw [HT.out, H2.out, Nat.add_zero]);clear hv1 hs1 HT HO H2 p2 ho3 hod hod0;generalize (o + o) % m = o2 at *
    go_wp2_with (first
     | (go_at_call 228; (with_reducible refine (p1.out _).mono ?_); rintro e w' ⟨rfl, hww⟩; obtain rfl := hww.symm; clear p1))
    go_round
    case rel => exact ⟨i + 1, o2, by omega, by go_num, rfl, ho2, HN⟩
    case measure => simp [intOf]; omega
  ·obtain rfl : i = c := by omega
   obtain rfl : o = r := by rw [HO.out, HV.out, Nat.sub_self, Nat.pow_zero, Nat.div_one]
   have wo : IntKind.i64.wrap (o : Int) = (o : Int) := IntWalk.i64_in _ (by omega);go_wp2_with fail;go_ret;exact ⟨rfl, rfl⟩
theorem times_q (p x y m : Nat) (h3 : 0 < m) (h4 : m ≤ 4611686018427387904) (w : World) (hc : w.cell? ⟨p, 0, none⟩ = some (.int .i64 (m : Int))) :
 Calls Tryz.prog 229 #[.int .i64 (x : Int), .int .i64 (y : Int), .pointer (some ⟨p, 0, none⟩)] w fun e w' => e = .returned (.int .i64 ((x * y % m : Nat) : Int)) ∧ w' = w := by
 have m1 := Lib.hid (Mul_q x y m h3 h4);generalize x * y % m = r at *;go_enter Tryz.func229, Tryz.ntmps229
 go_wp2_with (first
  | (go_at_call 187; (with_reducible refine (m1.out _).mono ?_); rintro e w' ⟨rfl, hww⟩; obtain rfl := hww.symm))
 go_ret;exact ⟨rfl, rfl⟩
theorem i64_low (n : Nat) (h : n ≤ 9223372036854775807) : bits .and .i64 (n : Int) 1 = ((n % 2 : Nat) : Int) := by
 have e := i64_and_nat n 1 (by omega) (by omega);rw [show (1 : Nat) = 2 ^ 1 - 1 by rfl, Nat.and_two_pow_sub_one_eq_mod] at e;exact e
theorem Pow_g (a n m : Nat) (h3 : 0 < m) (h4 : m ≤ 4611686018427387904) (hn : n ≤ 9223372036854775807) : Ret 188 #[.int .i64 (a : Int), .int .i64 (n : Int), .int .i64 (m : Int)] (.int .i64 ((pm m 64 a n : Nat) : Int)) := by
 intro w;have m1 : Hid (RetS 226 #[.int .i64 1, .int .i64 (m : Int)] (.int .i64 ((1 % m : Nat) : Int))) := Lib.hid (residue_n 1 m h3 h4);have q1 := Lib.hid (fun (p x y : Nat) => times_q p x y m h3 h4);have ho := Nat.mod_lt 1 h3;have HV : Hid ((1 % m) * a ^ n % m = pm m 64 a n) := Lib.hid (by rw [Nat.mod_mul_mod, Nat.one_mul, pm_eq _ _ _ _ (by omega)]);generalize pm m 64 a n = r at *;generalize 1 % m = one at *;have h31 : ((m : Int) < 1) = False := by simp only [eq_iff_iff, iff_false]; omega
 have hn0 : ¬ (n : Int) < 0 := by omega
 go_enter Tryz.func188, Tryz.ntmps188;go_upto_region 1 with fail;refine name1p ?_;intro w1 k1 hB;obtain ⟨p, hp⟩ := exq w.heap.size;rw [← hp] at k1 ⊢;have c1 : w1.cell? ⟨p, 0, none⟩ = some (.int .i64 (m : Int)) := k1.cell 0;clear hp
 go_wp2_with (first
  | (go_at_call 226; (with_reducible refine (m1.out _).mono ?_); rintro e w' ⟨rfl, hww⟩; obtain rfl := hww.symm))
 clear m1
 go_loop [0, 1, 8] (fun s0 s1 s8 => ∃ a n o : Nat, s0 = .int .i64 (a : Int) ∧ s1 = .int .i64 (n : Int) ∧ s8 = .int .i64 (o : Int) ∧ n ≤ 9223372036854775807 ∧ o < m ∧ Hid (o * a ^ n % m = r)) (fun _ s1 _ => (intOf s1).toNat)
 case atStart => exact ⟨a, n, one, rfl, rfl, rfl, hn, ho, HV⟩
 case round =>
  obtain ⟨a, n, o, rfl, rfl, rfl, hn, ho, HR⟩ := hrel;clear HV
  by_cases h0 : 0 < n
  ·have h0' : 0 < (n : Int) := by omega
   obtain ⟨k, hk1⟩ : ∃ k : Nat, k = n / 2 := ⟨_, rfl⟩;have p1 := Lib.hid (q1.out p o a w1 c1);have p2 := Lib.hid (q1.out p a a w1 c1);have ho2 := Nat.mod_lt (o * a) h3;have hand := i64_low n hn;have HK := Lib.hid hk1;have hky : k < n := by omega
   by_cases hod : n % 2 = 1
   ·rw [hod] at hand;have HN : Hid (o * a % m * (a * a % m) ^ k % m = r) := Lib.hid (by rw [hk1, pow_round hod]; exact HR.out);clear hk1 hod;generalize a * a % m = x2 at *;generalize o * a % m = o2 at *
    go_wp2_with (first
     | (go_at_call 229; (with_reducible refine (p1.out).mono ?_); rintro e w' ⟨rfl, hww⟩; obtain rfl := hww.symm; clear p1)
     | (go_at_call 229; (with_reducible refine (p2.out).mono ?_); rintro e w' ⟨rfl, hww⟩; obtain rfl := hww.symm))
    go_round
    case rel => exact ⟨x2, k, o2, rfl, by rw [HK.out]; go_num, rfl, by omega, ho2, HN⟩
    case measure => have := HK.out; simp [intOf]; omega
   ·have hod0 : n % 2 = 0 := by omega
    rw [hod0] at hand;have HN : Hid (o * (a * a % m) ^ k % m = r) := Lib.hid (by rw [hk1, pow_round0 hod0]; exact HR.out);clear hk1 hod hod0;generalize a * a % m = x2 at *;clear p1
    go_wp2_with (first
     | (go_at_call 229; (with_reducible refine (p2.out).mono ?_); rintro e w' ⟨rfl, hww⟩; obtain rfl := hww.symm))
    go_round
    case rel => exact ⟨x2, k, o, rfl, by rw [HK.out]; go_num, rfl, by omega, ho, HN⟩
    case measure => have := HK.out; simp [intOf]; omega
  ·obtain rfl : n = 0 := by omega
   obtain rfl : o = r := by have := HR.out; rwa [Nat.pow_zero, Nat.mul_one, Nat.mod_eq_of_lt ho] at this
   go_wp2_with fail;go_ret;exact ⟨rfl, hB⟩
theorem G_q (n : Nat) (hn : n ≤ 9223372036854775807) : Ret 188 #[.int .i64 4, .int .i64 (n : Int), .int .i64 2305843009213691579] (.int .i64 ((gP n : Nat) : Int)) := Pow_g 4 n pG (by decide) (by decide) hn
theorem PowP_q (a n : Nat) (hn : n ≤ 9223372036854775807) : Ret 188 #[.int .i64 (a : Int), .int .i64 (n : Int), .int .i64 2305843009213691579] (.int .i64 ((pm pG 64 a n : Nat) : Int)) := Pow_g a n pG (by decide) (by decide) hn
theorem MulP_q (a b : Nat) : RetS 187 #[.int .i64 (a : Int), .int .i64 (b : Int), .int .i64 2305843009213691579] (.int .i64 ((a * b % pG : Nat) : Int)) := Mul_q a b pG (by decide) (by decide)
theorem Member_q (a : Int) (h1 : -9223372036854775808 ≤ a) (h2 : a ≤ 9223372036854775807) : Ret 177 #[.int .i64 a] (.bool (memB a)) := by
 intro w
 by_cases hlo : 1 ≤ a
 ·by_cases hhi : a ≤ 2305843009213691578
  ·obtain ⟨n, rfl⟩ := Int.eq_ofNat_of_zero_le (show 0 ≤ a by omega);have m1 : Hid (Ret 188 #[.int .i64 (n : Int), .int .i64 1152921504606845789, .int .i64 2305843009213691579] (.int .i64 ((pm pG 64 n qG : Nat) : Int))) := Lib.hid (PowP_q n qG (by decide));have hv : memB (n : Int) = ((pm pG 64 n qG : Int) == 1) := by
    unfold memB;rw [decide_eq_true hlo, decide_eq_true hhi, Int.toNat_natCast];simp only [Bool.true_and];rw [Bool.eq_iff_iff, beq_iff_eq, beq_iff_eq]
    omega
   rw [hv];generalize pm pG 64 n qG = r at *;clear hv;obtain ⟨b, hb⟩ : ∃ b : Bool, ((r : Int) == 1) = b := ⟨_, rfl⟩;rw [hb];go_enter Tryz.func177, Tryz.ntmps177
   go_wp2_with (first
    | (go_at_call 188; (with_reducible refine (m1.out _).mono ?_); rintro e w' ⟨rfl, hB⟩))
   go_ret;exact ⟨rfl, hB⟩
  ·have hv : memB a = false := by unfold memB; rw [decide_eq_false hhi]; simp
   rw [hv];go_enter Tryz.func177, Tryz.ntmps177;go_wp2_with fail;go_ret;exact ⟨rfl, Below.refl _ _⟩
 ·have hv : memB a = false := by unfold memB; rw [decide_eq_false hlo]; simp
  rw [hv];go_enter Tryz.func177, Tryz.ntmps177;go_wp2_with fail;go_ret;exact ⟨rfl, Below.refl _ _⟩
theorem bv_take_succ {h : List UInt8} {k : Nat} {b : UInt8} (hb : h[k]? = some b) : bv (h.take (k + 1)) = bv (h.take k) * 256 + b.toNat := by
 rw [List.take_add_one, hb];exact bv_snoc _ _
theorem bv_take_lt (h : List UInt8) {k : Nat} (hk : k ≤ 7) : bv (h.take k) < 72057594037927936 := by
 have e := bv_lt (h.take k);have hl : (h.take k).length ≤ 7 := by rw [List.length_take]; omega
 have h1 : P8 (h.take k).length ≤ P8 7 := Nat.pow_le_pow_right (by omega) hl;have h2 : P8 7 = 72057594037927936 := by decide
 omega
theorem number_q (s : ByteArray) (hs : s.size ≤ 1000000) (w : World) (hT : Tabs w) : Calls Tryz.prog 257 #[.string s] w fun e w' => e = .returned (.int .i64 ((numH (shaS s.data.toList) : Nat) : Int)) ∧ Below w.heap.size w w' := by
 have m1 := Lib.hid (fun W h1 h2 => Sum_any s W hs h1 h2);have hl := sha_len s.data.toList;generalize shaS s.data.toList = h at *;obtain ⟨R, hR⟩ := exq (numH h);rw [← hR];have HR := Lib.hid hR;have HT := Lib.hid hT;clear hT hR;go_enter Tryz.func257, Tryz.ntmps257;have hsz : (u8a h).size = 32 := by simp [u8a, u8l, hl]
 go_upto_region 2 with (first
  | (go_at_call 107; (with_reducible refine (m1.out _ HT.out.k HT.out.f).mono ?_); rintro e w1 ⟨rfl, hB⟩)
  | (refine wpList_store_rowTo rfl 38 _ _ rfl rfl _ (u8a h) rfl rfl _ _ (Blk.new _ _ _) (by rw [hsz]; kernel_rfl) (by rw [hsz]; rfl) (u8a_one _) ?_))
 refine nameStored (u8a h) ?_;intro W0 hk hb2;replace hB := below_then hB hb2;obtain ⟨g, hg⟩ := exq w1.heap.size;rw [← hg] at hk ⊢;clear hg hb2 m1 HT;go_wp2_with fail
 go_loop [4, 5, 8] (fun s4 _ s8 => ∃ k n : Nat, k ≤ 8 ∧ s8 = .int .i64 (k : Int) ∧ s4 = .int .u64 (n : Int) ∧ Hid (n = bv (h.take k))) (fun _ _ s8 => 8 - (intOf s8).toNat)
 case atStart => exact ⟨0, 0, by omega, rfl, rfl, Lib.hid rfl⟩
 case round =>
  obtain ⟨k, n, hk8, rfl, rfl, HN⟩ := hrel
  by_cases hlt : k < 8
  ·have hlt' : (k : Int) < 8 := by omega
   obtain ⟨b, hb⟩ : ∃ b, h[k]? = some b := ⟨_, List.getElem?_eq_getElem (by omega)⟩;have hbl := UInt8.toNat_lt b;have hn : n < 72057594037927936 := by rw [HN.out]; exact bv_take_lt h (by omega)
   have HS : Hid (n * 256 + b.toNat = bv (h.take (k + 1))) := Lib.hid (by rw [HN.out, bv_take_succ hb]);have ck : W0.cell? ⟨g, k, none⟩ = some (.int .u8 (b.toNat : Int)) := (hk.cell k).trans (u8a_get hb);clear hb;generalize b.toNat = v at *;have hor : bits .or .u64 ((n : Int) * 256) (v : Int) = ((n * 256 + v : Nat) : Int) := by
    have e := u64_or_nat (n * 256) v (by omega) (by omega);rw [show (256 : Nat) = 2 ^ 8 by rfl, or_hi n v 8 (by omega)] at e
    simpa using e
   go_wp2_with fail;go_round
   case rel => exact ⟨k + 1, n * 256 + v, by omega, by go_num, by go_num, HS⟩
   case measure => simp [intOf]; omega
  ·obtain rfl : k = 8 := by omega
   have hn : n < 18446744073709551616 := by rw [HN.out]; exact Nat.lt_of_lt_of_le (bv_lt _) (by rw [List.length_take, hl]; decide)
   have hx : R = n % 9223372036854775808 := by rw [HR.out, HN.out]; rfl
   have hand : bits .andNot .u64 (n : Int) 9223372036854775808 = ((n % 9223372036854775808 : Nat) : Int) := by
    have e := u64_andNot_nat n 9223372036854775808 hn (by omega);rw [show 18446744073709551615 - 9223372036854775808 = 2 ^ 63 - 1 by rfl, Nat.and_two_pow_sub_one_eq_mod] at e;exact e
   have hr := Nat.mod_lt n (show 0 < 9223372036854775808 by omega);rw [← hx] at hand hr;have hw : wrap64 (R : Int) = (R : Int) := IntWalk.wrap64_in _ (by omega);clear hx HN;go_wp2_with fail;go_ret;exact ⟨rfl, hB⟩
theorem Scalar_q (s : ByteArray) (hs : s.size ≤ 900000) : RetT 254 #[.string s] (.int .i64 ((scalN s.data.toList : Nat) : Int)) := by
 intro w hT;obtain ⟨t, ht⟩ : ∃ t : ByteArray, (⟨#[115, 47]⟩ : ByteArray) ++ s = t := ⟨_, rfl⟩;have htl : t.data.toList = [115, 47] ++ s.data.toList := by rw [← ht, ByteArray.data_append, Array.toList_append]
 have hts : t.size = 2 + s.size := by rw [← ht, ByteArray.size_append]; rfl
 have m1 := Lib.hid (fun W h => number_q t (by omega) W h);have HV : Hid (numH (shaS t.data.toList) % qG = scalN s.data.toList) := Lib.hid (by rw [htl]; rfl);have hnl : numH (shaS t.data.toList) < 2 ^ 63 := Nat.mod_lt _ (by decide);rw [show (2 : Nat) ^ 63 = 9223372036854775808 by rfl] at hnl;generalize numH (shaS t.data.toList) = n at *;have m2 : Hid (RetS 226 #[.int .i64 (n : Int), .int .i64 1152921504606845789] (.int .i64 ((n % qG : Nat) : Int))) := Lib.hid (residue_n n qG (by decide) (by decide));rw [HV.out] at m2;generalize scalN s.data.toList = r at *;have HT := Lib.hid hT;clear htl hT HV;go_enter Tryz.func254, Tryz.ntmps254
 go_wp2_with (first
  | (go_at_call 257; (try rw [ht]); (with_reducible refine (m1.out _ HT.out).mono ?_); rintro e w' ⟨rfl, hB⟩)
  | (go_at_call 226; (with_reducible refine (m2.out _).mono ?_); rintro e w' ⟨rfl, hww⟩; obtain rfl := hww.symm))
 go_ret;exact ⟨rfl, hB⟩
end Go.Proofs.YtkpinmejfdnhbaaGreatDoor
