/- Joined by a program: Bdg, Ret, Own, RefM. -/
import Derived.Test.YtkpinmejfdnhbaaGreatDoorRefThree
import Derived.Test.YtkpinmejfdnhbaaGreatDoorNatThree
namespace Go.Proofs.YtkpinmejfdnhbaaGreatDoor
open Go.RowKit
structure BDg (w : World) (A : Option Addr) (n c : Nat) (l : List UInt8) : Prop where
 len : l.length = n
 cap : n ≤ c
 at_ : 0 < n → ∃ b o, A = some ⟨b, o, none⟩ ∧ ∀ (j : Nat) (d : UInt8), l[j]? = some d → w.cell? ⟨b, o + j, none⟩ = some (.int .u8 (d.toNat : Int))
abbrev Ret (f : FuncId) (args : Array Value) (v : Value) : Prop := ∀ W : World, Calls Tryz.prog f args W fun e w' => e = .returned v ∧ Below W.heap.size W w'
theorem Ret.quiet {f : FuncId} {args : Array Value} {v : Value} (h : ∀ W : World, Calls Tryz.prog f args W fun e w' => e = .returned v ∧ W = w') : Ret f args v :=
 fun W => (h W).mono fun _ _ ⟨h1, h2⟩ => ⟨h1, h2 ▸ Below.refl _ _⟩
section
variable {a b : ByteArray} (ha : a.size ≤ 1000) (hb : b.size ≤ 1000)
include ha hb
end
end Go.Proofs.YtkpinmejfdnhbaaGreatDoor
namespace Go.Proofs.YtkpinmejfdnhbaaGreatDoor
open Go.RowKit
def OwnL {α : Type} (enc : α → List Value) (e : TypeId) (s : Nat) (B : Nat) (w : World) (v : Value) (l : List α) : Prop := w.ownsRow B e s v l.length (l.flatMap enc)
theorem OwnL.nil_ {α : Type} (enc : α → List Value) (e : TypeId) (s B : Nat) (w : World) : OwnL enc e s B w (.slice none 0 0) [] := ⟨by simp, .inl ⟨rfl, rfl⟩⟩
theorem OwnL.kept {α : Type} {enc : α → List Value} {e : TypeId} {s B : Nat} {w w' : World} {v : Value} {l : List α} (h : OwnL enc e s B w v l) {row : Option Nat} (hg : w.grownBy w' row) (hr : v.ownBlock = none ∨ v.ownBlock ≠ row) : OwnL enc e s B w' v l :=
 World.ownsRow.kept h hg hr
theorem OwnL.below {α : Type} {enc : α → List Value} {e : TypeId} {s B : Nat} {w w' : World} {v : Value} {l : List α} (h : OwnL enc e s B w v l) (hb : Below w.heap.size w w') : OwnL enc e s B w' v l :=
 World.ownsRow.kept h (grown_of_below hb none) (by
  rcases h.2 with ⟨rfl, _⟩ | ⟨g, cap, cur, rfl, _⟩
  ·exact .inl rfl
  ·exact .inr (by simp [Value.ownBlock]))
theorem wp_append_row {α : Type} {enc : α → List Value} {e t : TypeId} {s bytes : Nat} {z : Value} (hund : Tryz.prog.underlying t = some (.slice e)) (hinf : (Tryz.prog.info? e).map (fun i => (i.zero, i.size, i.bytes)) = some (some z, s, bytes)) (hzs : z.cells.size = s) (hs0 : 0 < s) (hby : bytes ≤ 100000)
 {ops : Array Oper} {rest : List Oper} {o : Oper} {a : Act} {Q : Exit → Act → World → Prop} (hgd : o.guard = none) (p x : Operand)
 (ho : o.op = .call { callee := .builtin .append, args := #[p, x], argTypes := #[t, t] }) {B : Nat} {wo : World} {v : Value} {l : List α} (d : α) {cells : Array Value} (hc : cells = (enc d).toArray) (hd : (enc d).length = s) (h1 : ∀ u ∈ enc d, u.oneCell' = true) (hs : a.eval p = v) (hown : OwnL enc e s B wo v l)
 (hx : a.eval x = .slice (some ⟨wo.heap.size, 0, none⟩) 1 1) (hl : l.length ≤ 1000000) (hB : B ≤ wo.heap.size)
 (h : ∀ v' w', OwnL enc e s B w' v' (l ++ [d]) → wo.grownBy w' v.ownBlock → wpList Tryz.prog ops Q rest (a.put o.dst v') w') :
 wpList Tryz.prog ops Q (o :: rest) a (wo.alloc (.cells cells e)) := by
 subst hc;obtain ⟨i0, hi0, hz0, hz1, hz2⟩ := info_parts hinf;refine wpList_append_own _ hgd p x t ho B e i0 z s bytes hund hi0 hz0 hz1 hz2 hzs hs0 v l.length (l.flatMap enc) hs (World.ownsRow.alloc hown _) ⟨wo.heap.size, 0, none⟩ 1 1 (enc d) hx (by omega) ?_ h1 ?_ ?_ ?_ ?_
 ·intro j u hu;rw [add_addr, Nat.zero_add];exact ((Blk.new wo e (enc d).toArray).cell j).trans (by simpa using hu)
 ·unfold maxLen; omega
 ·exact Nat.le_trans (Nat.mul_le_mul_left _ hby) (by omega)
 ·rw [World.size_alloc]; omega
 ·intro v' w' ho' hg' _;refine h v' w' ?_ (grown_trans (grown_of_below ((Below.refl _ _).alloc (Nat.le_refl _) _) _) hg');unfold OwnL;rw [List.length_append, List.flatMap_append]
  simpa using ho'
theorem flat_get {α : Type} {enc : α → List Value} {s : Nat} (hs : ∀ x, (enc x).length = s) : ∀ (l : List α) (j k : Nat) (x : α), l[j]? = some x → k < s → (l.flatMap enc)[j * s + k]? = (enc x)[k]?
 | [], j, k, x, h, _ => by simp at h
 | y :: l, 0, k, x, h, hk => by
   obtain rfl := Option.some.inj h;rw [List.flatMap_cons, Nat.zero_mul, Nat.zero_add, List.getElem?_append_left (by rw [hs]; exact hk)]
 | y :: l, j + 1, k, x, h, hk => by
   rw [List.flatMap_cons, List.getElem?_append_right (by rw [hs, Nat.succ_mul]; omega), hs, show (j + 1) * s + k - s = j * s + k by rw [Nat.succ_mul]; omega];exact flat_get hs l j k x h hk
theorem flat_len {α : Type} {enc : α → List Value} {s : Nat} (hs : ∀ x, (enc x).length = s) (l : List α) : (l.flatMap enc).length = l.length * s := by
 induction l with
 | nil => simp
 | cons y l ih => rw [List.flatMap_cons, List.length_append, ih, hs, List.length_cons, Nat.succ_mul, Nat.add_comm]
theorem OwnL.at_ {α : Type} {enc : α → List Value} {e : TypeId} {s B : Nat} {w : World} {v : Value} {l : List α} (h : OwnL enc e s B w v l) (hs : ∀ x, (enc x).length = s) :
 (v = .slice none 0 0 ∧ l = []) ∨ ∃ g cc, v = .slice (some ⟨g, 0, none⟩) l.length cc ∧ l.length ≤ cc ∧ B ≤ g ∧ g < w.heap.size ∧ ∀ (j k : Nat) (x : α) (u : Value), l[j]? = some x → (enc x)[k]? = some u → w.cell? ⟨g, j * s + k, none⟩ = some u ∧ w.frozen? ⟨g, j * s + k, none⟩ = false := by
 rcases h.2 with ⟨hv, hn⟩ | ⟨g, cap, cur, rfl, hB, hh, hc, _⟩
 ·exact .inl ⟨hv, List.eq_nil_of_length_eq_zero hn⟩
 ·refine .inr ⟨g, cap, rfl, hc, hB, (Array.getElem?_eq_some_iff.1 hh).1, fun j k x u hx hu => ?_⟩;have hk : k < s := by have := (List.getElem?_eq_some_iff.1 hu).1; rw [hs] at this; exact this
  have hj := (List.getElem?_eq_some_iff.1 hx).1;have hlt : j * s + k < l.length * s := by
   have : (j + 1) * s ≤ l.length * s := Nat.mul_le_mul_right _ hj;rw [Nat.succ_mul] at this; omega
  exact ⟨(World.ownsRow.cellAt h _ hlt).trans ((flat_get hs l j k x hx hk).trans hu), World.ownsRow.frozenAt h _⟩
structure Row {α : Type} (enc : α → List Value) (s : Nat) (w : World) (A : Option Addr) (n c : Nat) (xs : List α) : Prop where
 len : xs.length = n
 cap : n ≤ c
 at_ : 0 < n → ∃ b o, A = some ⟨b, o, none⟩ ∧ ∀ (j k : Nat) (x : α) (u : Value), xs[j]? = some x → (enc x)[k]? = some u → w.cell? ⟨b, o + j * s + k, none⟩ = some u
theorem Row.below {α : Type} {enc : α → List Value} {s : Nat} {w w' : World} {A : Option Addr} {n c : Nat} {xs : List α} (h : Row enc s w A n c xs) (hb : Below w.heap.size w w') : Row enc s w' A n c xs := by
 refine ⟨h.len, h.cap, fun hn => ?_⟩;obtain ⟨b, o, e, hc⟩ := h.at_ hn;exact ⟨b, o, e, fun j k x u hx hu => (hb.cell (p := ⟨b, o + j * s + k, none⟩) (block_lt_of_cell (hc j k x u hx hu))).trans (hc j k x u hx hu)⟩
theorem OwnL.row {α : Type} {enc : α → List Value} {e : TypeId} {s B : Nat} {w : World} {v : Value} {l : List α} (h : OwnL enc e s B w v l) (hs : ∀ x, (enc x).length = s) : ∃ A c, v = .slice A l.length c ∧ Row enc s w A l.length c l := by
 rcases OwnL.at_ h hs with ⟨rfl, rfl⟩ | ⟨g, cc, rfl, hc, -, -, hd⟩
 ·exact ⟨none, 0, rfl, rfl, Nat.le_refl _, fun h => absurd h (by simp)⟩
 ·exact ⟨_, _, rfl, rfl, hc, fun _ => ⟨g, 0, rfl, fun j k x u hx hu => by rw [Nat.zero_add]; exact (hd j k x u hx hu).1⟩⟩
theorem flat_at {α : Type} {enc : α → List Value} {s : Nat} (hs : ∀ x, (enc x).length = s) (hs0 : 0 < s) {l : List α} {i : Nat} {u : Value} (h : (l.flatMap enc)[i]? = some u) : ∃ x, l[i / s]? = some x ∧ (enc x)[i % s]? = some u := by
 have hlt := (List.getElem?_eq_some_iff.1 h).1;rw [flat_len hs] at hlt;have hq : i / s < l.length := Nat.div_lt_of_lt_mul (by rw [Nat.mul_comm]; exact hlt);refine ⟨l[i / s], List.getElem?_eq_getElem hq, ?_⟩;rw [← flat_get hs l (i / s) (i % s) _ (List.getElem?_eq_getElem hq) (Nat.mod_lt _ hs0), Nat.div_add_mod'];exact h
theorem append_rows_any {α : Type} {enc : α → List Value} {e t : TypeId} {s bytes : Nat} {z : Value} (hund : Tryz.prog.underlying t = some (.slice e)) (hinf : (Tryz.prog.info? e).map (fun i => (i.zero, i.size, i.bytes)) = some (some z, s, bytes)) (hzs : z.cells.size = s) (hs0 : 0 < s) (hby : bytes ≤ 100000)
 {o : Oper} {a : Act} {K : Act → World → Prop} {Q : Exit → Act → World → Prop} (p x : Operand)
 (ho : o.op = .call { callee := .builtin .append, args := #[p, x], argTypes := #[t, t] }) {B : Nat} {wo : World} {v : Value} {l ds : List α} {A : Option Addr} {n c : Nat} (hlen : ∀ x, (enc x).length = s) (h1 : ∀ x, ∀ u ∈ enc x, u.oneCell' = true) (hs : a.eval p = v) (hown : OwnL enc e s B wo v l)
 (hx : a.eval x = .slice A n c) (hsrc : Row enc s wo A n c ds) (hl : l.length ≤ 1000000) (hn : n ≤ 1000000) (hB : B ≤ wo.heap.size)
 (h : ∀ v' w', OwnL enc e s B w' v' (l ++ ds) → wo.grownBy w' v.ownBlock → K (a.put o.dst v') w') :
 Oper.wp Tryz.prog o a wo K Q := by
 obtain ⟨i0, hi0, hz0, hz1, hz2⟩ := info_parts hinf
 cases A with
 | none =>
   have hn0 : n = 0 := by
    rcases Nat.eq_zero_or_pos n with h0 | h0
    ·exact h0
    ·obtain ⟨b, o, e, _⟩ := hsrc.at_ h0; cases e
   have hx0 : ds = [] := List.eq_nil_of_length_eq_zero (by rw [hsrc.len, hn0]);subst hn0 hx0;have hrun := run_append_nilc wo B t o.type e i0 s hund hi0 v l.length (l.flatMap enc) hown c;unfold Oper.wp;simp only [execOp, ho, resolve, invoke, builtin, Sem.run_bind, Sem.run_pure, Result.andThen_ok, List.map_toArray, List.map_cons, List.map_nil, hs, hx, hrun];exact h v wo (by rw [List.append_nil]; exact hown) (grown_refl _ _)
 | some ad =>
   refine wp_append_own _ p x t ho B e i0 z s bytes hund hi0 hz0 hz1 hz2 hzs hs0 v l.length (l.flatMap enc) hs hown ad n c (ds.flatMap enc) hx (by rw [flat_len hlen, hsrc.len]) ?_ ?_ ?_ ?_ hB ?_
   ·intro j u hu;obtain ⟨y, hy, hyu⟩ := flat_at hlen hs0 hu;have hj := (List.getElem?_eq_some_iff.1 hy).1;obtain ⟨b, o, e, hc⟩ := hsrc.at_ (by rw [← hsrc.len]; exact Nat.zero_lt_of_lt hj)
    cases e
    rw [add_addr];have := hc _ _ _ _ hy hyu;rw [Nat.add_assoc, Nat.div_add_mod'] at this;exact this
   ·intro u hu;obtain ⟨y, _, hy⟩ := List.mem_flatMap.1 hu;exact h1 y u hy
   ·unfold maxLen; omega
   ·exact Nat.le_trans (Nat.mul_le_mul_left _ hby) (by omega)
   ·intro v' w' ho' hg' _;refine h v' w' ?_ hg';unfold OwnL;rw [List.length_append, List.flatMap_append, hsrc.len];exact ho'
theorem wp_append_rows {α : Type} {enc : α → List Value} {e t : TypeId} {s bytes : Nat} {z : Value} (hund : Tryz.prog.underlying t = some (.slice e)) (hinf : (Tryz.prog.info? e).map (fun i => (i.zero, i.size, i.bytes)) = some (some z, s, bytes)) (hzs : z.cells.size = s) (hs0 : 0 < s) (hby : bytes ≤ 100000)
 {ops : Array Oper} {rest : List Oper} {o : Oper} {a : Act} {Q : Exit → Act → World → Prop} (hgd : o.guard = none) (p x : Operand)
 (ho : o.op = .call { callee := .builtin .append, args := #[p, x], argTypes := #[t, t] }) {B : Nat} {wo : World} {v : Value} {l ds : List α} {A : Option Addr} {n c : Nat} (hlen : ∀ x, (enc x).length = s) (h1 : ∀ x, ∀ u ∈ enc x, u.oneCell' = true) (hs : a.eval p = v) (hown : OwnL enc e s B wo v l)
 (hx : a.eval x = .slice A n c) (hsrc : Row enc s wo A n c ds) (hl : l.length ≤ 1000000) (hn : n ≤ 1000000) (hB : B ≤ wo.heap.size)
 (h : ∀ v' w', OwnL enc e s B w' v' (l ++ ds) → wo.grownBy w' v.ownBlock → wpList Tryz.prog ops Q rest (a.put o.dst v') w') :
 wpList Tryz.prog ops Q (o :: rest) a wo :=
 wpList_plain hgd fun _ hK => append_rows_any hund hinf hzs hs0 hby p x ho hlen h1 hs hown hx hsrc hl hn hB fun v' w' h2 h3 => hK _ _ (h v' w' h2 h3)
theorem step_append_rows {α : Type} {enc : α → List Value} {e t : TypeId} {s bytes : Nat} {z : Value} (hund : Tryz.prog.underlying t = some (.slice e)) (hinf : (Tryz.prog.info? e).map (fun i => (i.zero, i.size, i.bytes)) = some (some z, s, bytes)) (hzs : z.cells.size = s) (hs0 : 0 < s) (hby : bytes ≤ 100000)
 {ops : Array Oper} {o : Oper} {a : Act} {K : Act → World → Prop} {Q : Exit → Act → World → Prop} {E : Prop} (hgd : o.guard = none) (p x : Operand)
 (ho : o.op = .call { callee := .builtin .append, args := #[p, x], argTypes := #[t, t] }) {B : Nat} {wo : World} {v : Value} {l ds : List α} {A : Option Addr} {n c : Nat} (hlen : ∀ x, (enc x).length = s) (h1 : ∀ x, ∀ u ∈ enc x, u.oneCell' = true) (hs : a.eval p = v) (hown : OwnL enc e s B wo v l)
 (hx : a.eval x = .slice A n c) (hsrc : Row enc s wo A n c ds) (hl : l.length ≤ 1000000) (hn : n ≤ 1000000) (hB : B ≤ wo.heap.size)
 (h : ∀ v' w', OwnL enc e s B w' v' (l ++ ds) → wo.grownBy w' v.ownBlock → K (a.put o.dst v') w') :
 if Region.wanted o (yielded ops a.tmps) = true then Oper.wp Tryz.prog o a wo K Q else E := by
 have hw : Region.wanted o (yielded ops a.tmps) = true := by simp [Region.wanted, hgd]
 rw [if_pos hw];exact append_rows_any hund hinf hzs hs0 hby p x ho hlen h1 hs hown hx hsrc hl hn hB h
theorem row_new {α : Type} {enc : α → List Value} {s : Nat} {w : World} {k : Nat} {t : TypeId} {d : α} (h : Blk w k t (enc d).toArray) : Row enc s w (some ⟨k, 0, none⟩) 1 1 [d] := by
 refine ⟨rfl, Nat.le_refl _, fun _ => ⟨k, 0, rfl, fun j i x u hx hu => ?_⟩⟩
 cases j with
 | zero =>
   obtain rfl := Option.some.inj hx;rw [Nat.zero_mul, Nat.add_zero, Nat.zero_add];exact (h.cell i).trans (by simpa using hu)
 | succ j => simp at hx
end Go.Proofs.YtkpinmejfdnhbaaGreatDoor
