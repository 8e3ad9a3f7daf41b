/- Joined by a program: Bdg, Ret, Own, RefM. -/
import Derived.Test.YtebgmlbbilcbbaaGreatDoorRefThree
import Derived.Test.YtebgmlbbilcbbaaGreatDoorNatThree
namespace Go.Proofs.YtebgmlbbilcbbaaGreatDoor
open Go.RowKit

/-- A slice of bytes that reads as a list. -/
structure BDg (w : World) (A : Option Addr) (n c : Nat) (l : List UInt8) : Prop where
  len : l.length = n
  cap : n ≤ c
  at_ : 0 < n → ∃ b o, A = some ⟨b, o, none⟩ ∧ ∀ (j : Nat) (d : UInt8), l[j]? = some d → w.cell? ⟨b, o + j, none⟩ = some (.int .u8 (d.toNat : Int))

theorem BDg.below {w w' : World} {A : Option Addr} {n c : Nat} {l : List UInt8} (h : BDg w A n c l) (hb : Below w.heap.size w w') : BDg w' A n c l := by
  refine ⟨h.len, h.cap, fun hn => ?_⟩
  obtain ⟨b, o, e, hc⟩ := h.at_ hn
  refine ⟨b, o, e, fun j d hd => ?_⟩
  have h1 := hc j d hd
  exact (hb.cell (p := ⟨b, o + j, none⟩) (block_lt_of_cell h1)).trans h1
theorem BDg.take {w : World} {A : Option Addr} {n c m : Nat} {l : List UInt8} (h : BDg w A n c l) (hm : m ≤ n) : BDg w A m c (l.take m) := by
  have hl := h.len
  refine ⟨by rw [List.length_take]; omega, by have := h.cap; omega, fun hn => ?_⟩
  obtain ⟨b, o, e, hc⟩ := h.at_ (by omega)
  refine ⟨b, o, e, fun j d hd => hc j d ?_⟩
  rw [List.getElem?_take] at hd
  split at hd
  · exact hd
  · cases hd

/-- A slice of bytes turned into a number. -/
theorem run_bdg_nat {w : World} {A : Option Addr} {n c : Nat} {l : List UInt8} (h : BDg w A n c l) :
    (convert 22 25 (.slice A n c)).run Tryz.prog w = .ok (.string ⟨l.toArray⟩) w := by
  rw [run_convert_bytes_string w 22 25 5 _ _ _ Tryz.underlying22 Tryz.underlying5 Tryz.underlying25]
  rcases Nat.eq_zero_or_pos n with h0 | h0
  · subst h0
    have : l = [] := List.eq_nil_of_length_eq_zero h.len
    subst this
    cases A <;> rfl
  · obtain ⟨b, o, rfl, hc⟩ := h.at_ h0
    have hld := run_loadCells_list (P := Tryz.prog) w ⟨b, o, none⟩ ((l.map fun b : UInt8 => (b.toNat : Int)).map (Value.int .u8)) (fun j v hv => by
      rw [List.map_map, List.getElem?_map] at hv
      obtain ⟨d, hd, rfl⟩ := Option.map_eq_some_iff.1 hv
      rw [add_addr]
      exact hc j d hd)
    rw [List.length_map, List.length_map, h.len] at hld
    rw [run_bytesToString w _ n c _ hld, push_all]
    simp


end Go.Proofs.YtebgmlbbilcbbaaGreatDoor
namespace Go.Proofs.YtebgmlbbilcbbaaGreatDoor
open Go.RowKit

/-- A call that returns a value, whatever the world, and leaves what was there. -/
abbrev Ret (f : FuncId) (args : Array Value) (v : Value) : Prop := ∀ W : World, Calls Tryz.prog f args W fun e w' => e = .returned v ∧ Below W.heap.size W w'

theorem Ret.of {f : FuncId} {args : Array Value} {v u : Value} (h : Ret f args v) (e : v = u) : Ret f args u := e ▸ h
theorem Ret.quiet {f : FuncId} {args : Array Value} {v : Value} (h : ∀ W : World, Calls Tryz.prog f args W fun e w' => e = .returned v ∧ W = w') : Ret f args v :=
  fun W => (h W).mono fun _ _ ⟨h1, h2⟩ => ⟨h1, h2 ▸ Below.refl _ _⟩

section
variable {a b : ByteArray} (ha : a.size ≤ 1000) (hb : b.size ≤ 1000)
include ha hb
theorem ret_mul {n : Nat} (h : sval a * sval b = n) : Ret 93 #[.string a, .string b] (.string (natS n)) := fun W => h ▸ Mul_any a b W (by omega) (by omega)
theorem ret_quo {m n : Nat} (h1 : sval a = m) (h2 : sval b = n) (h : n ≠ 0) : Ret 134 #[.string a, .string b] (.tuple #[.string (natS (m / n)), .string (natS (m % n)), .bool true]) := fun W => by
  have := Quo_any a b W (by omega) (by omega)
  unfold quoRes at this
  rw [h1, h2, if_neg h] at this
  exact this
theorem ret_quo0 (h : sval b = 0) : Ret 134 #[.string a, .string b] (.tuple #[.string ⟨#[]⟩, .string ⟨#[]⟩, .bool false]) := fun W => by
  have := Quo_any a b W (by omega) (by omega)
  unfold quoRes at this
  rw [if_pos h] at this
  exact this
theorem ret_cmp {r : Int} (h : cmpI (sval a) (sval b) = r) : Ret 76 #[.string a, .string b] (.int .i64 r) := fun W => h ▸ Cmp_any a b W (by omega) (by omega)
end
theorem ret_bits {a : ByteArray} (ha : a.size ≤ 1000) {n : Nat} (h : bitsN (sval a) = n) : Ret 201 #[.string a] (.int .i64 (n : Int)) := Ret.quiet fun W => h ▸ Bits_any a W (by omega)
theorem ret_right {a : ByteArray} (ha : a.size ≤ 1000) {b : Bool} (h : rightB a = b) : Ret 138 #[.string a] (.bool b) := Ret.quiet fun W => h ▸ Right_any a W (by omega)
theorem ret_canon {a : ByteArray} (ha : a.size ≤ 1000) {n : Nat} (h : sval a = n) : Ret 94 #[.string a] (.string (natS n)) := Ret.quiet fun W => h ▸ rCanon a W (by omega)

theorem right_natS (n : Nat) : rightB (natS n) = true := by
  have h := natS_canon n
  unfold rightB
  cases e : (natS n).data.toList with
  | nil => rfl
  | cons x l =>
    have := h (by rw [e]; simp)
    simp only [e, List.head_cons] at this
    simpa using this
theorem sval_le {a : ByteArray} {k : Nat} (h : a.size ≤ k) : sval a < P8 k := Nat.lt_of_lt_of_le (sval_lt a) (P8_mono h)
theorem natS_sz {n k : Nat} (h : n < P8 k) (hk : k ≤ 1000) : (natS n).size ≤ 1000 := Nat.le_trans (natS_size h) hk
theorem P8_sum {x y k : Nat} (hx : x < P8 k) (hy : y < P8 k) : x + y < P8 (k + 1) := by rw [P8_succ]; omega
theorem P8_prod {x y j k : Nat} (hx : x < P8 j) (hy : y < P8 k) : x * y < P8 (j + k) := by rw [P8_add]; exact Nat.mul_lt_mul'' hx hy


end Go.Proofs.YtebgmlbbilcbbaaGreatDoor
namespace Go.Proofs.YtebgmlbbilcbbaaGreatDoor
open Go.RowKit

/-- A row of elements, made by append: enc gives an element's cells. -/
def OwnL {α : Type} (enc : α → List Value) (e : TypeId) (s : Nat) (B : Nat) (w : World) (v : Value) (l : List α) : Prop := w.ownsRow B e s v l.length (l.flatMap enc)
theorem OwnL.nil_ {α : Type} (enc : α → List Value) (e : TypeId) (s B : Nat) (w : World) : OwnL enc e s B w (.slice none 0 0) [] := ⟨by simp, .inl ⟨rfl, rfl⟩⟩
theorem OwnL.kept {α : Type} {enc : α → List Value} {e : TypeId} {s B : Nat} {w w' : World} {v : Value} {l : List α} (h : OwnL enc e s B w v l) {row : Option Nat} (hg : w.grownBy w' row) (hr : v.ownBlock = none ∨ v.ownBlock ≠ row) : OwnL enc e s B w' v l :=
  World.ownsRow.kept h hg hr
theorem OwnL.below {α : Type} {enc : α → List Value} {e : TypeId} {s B : Nat} {w w' : World} {v : Value} {l : List α} (h : OwnL enc e s B w v l) (hb : Below w.heap.size w w') : OwnL enc e s B w' v l :=
  World.ownsRow.kept h (grown_of_below hb none) (by
    rcases h.2 with ⟨rfl, _⟩ | ⟨g, cap, cur, rfl, _⟩
    · exact .inl rfl
    · exact .inr (by simp [Value.ownBlock]))

theorem wp_append_row {α : Type} {enc : α → List Value} {e t : TypeId} {s bytes : Nat} {z : Value} (hund : Tryz.prog.underlying t = some (.slice e)) (hinf : (Tryz.prog.info? e).map (fun i => (i.zero, i.size, i.bytes)) = some (some z, s, bytes)) (hzs : z.cells.size = s) (hs0 : 0 < s) (hby : bytes ≤ 100000)
    {ops : Array Oper} {rest : List Oper} {o : Oper} {a : Act} {Q : Exit → Act → World → Prop} (hgd : o.guard = none) (p x : Operand)
    (ho : o.op = .call { callee := .builtin .append, args := #[p, x], argTypes := #[t, t] }) {B : Nat} {wo : World} {v : Value} {l : List α} (d : α) {cells : Array Value} (hc : cells = (enc d).toArray) (hd : (enc d).length = s) (h1 : ∀ u ∈ enc d, u.oneCell' = true) (hs : a.eval p = v) (hown : OwnL enc e s B wo v l)
    (hx : a.eval x = .slice (some ⟨wo.heap.size, 0, none⟩) 1 1) (hl : l.length ≤ 1000000) (hB : B ≤ wo.heap.size)
    (h : ∀ v' w', OwnL enc e s B w' v' (l ++ [d]) → wo.grownBy w' v.ownBlock → wpList Tryz.prog ops Q rest (a.put o.dst v') w') :
    wpList Tryz.prog ops Q (o :: rest) a (wo.alloc (.cells cells e)) := by
  subst hc
  obtain ⟨i0, hi0, hz0, hz1, hz2⟩ := info_parts hinf
  refine wpList_append_own _ hgd p x t ho B e i0 z s bytes hund hi0 hz0 hz1 hz2 hzs hs0 v l.length (l.flatMap enc) hs (World.ownsRow.alloc hown _) ⟨wo.heap.size, 0, none⟩ 1 1 (enc d) hx (by omega) ?_ h1 ?_ ?_ ?_ ?_
  · intro j u hu
    rw [add_addr, Nat.zero_add]
    exact ((Blk.new wo e (enc d).toArray).cell j).trans (by simpa using hu)
  · unfold maxLen; omega
  · exact Nat.le_trans (Nat.mul_le_mul_left _ hby) (by omega)
  · rw [World.size_alloc]; omega
  · intro v' w' ho' hg' _
    refine h v' w' ?_ (grown_trans (grown_of_below ((Below.refl _ _).alloc (Nat.le_refl _) _) _) hg')
    unfold OwnL
    rw [List.length_append, List.flatMap_append]
    simpa using ho'

/-- A cell of an element. -/
theorem flat_get {α : Type} {enc : α → List Value} {s : Nat} (hs : ∀ x, (enc x).length = s) : ∀ (l : List α) (j k : Nat) (x : α), l[j]? = some x → k < s → (l.flatMap enc)[j * s + k]? = (enc x)[k]?
  | [], j, k, x, h, _ => by simp at h
  | y :: l, 0, k, x, h, hk => by
    obtain rfl := Option.some.inj h
    rw [List.flatMap_cons, Nat.zero_mul, Nat.zero_add, List.getElem?_append_left (by rw [hs]; exact hk)]
  | y :: l, j + 1, k, x, h, hk => by
    rw [List.flatMap_cons, List.getElem?_append_right (by rw [hs, Nat.succ_mul]; omega), hs, show (j + 1) * s + k - s = j * s + k by rw [Nat.succ_mul]; omega]
    exact flat_get hs l j k x h hk
theorem flat_len {α : Type} {enc : α → List Value} {s : Nat} (hs : ∀ x, (enc x).length = s) (l : List α) : (l.flatMap enc).length = l.length * s := by
  induction l with
  | nil => simp
  | cons y l ih => rw [List.flatMap_cons, List.length_append, ih, hs, List.length_cons, Nat.succ_mul, Nat.add_comm]

/-- Where a row lies, and what its cells are. -/
theorem OwnL.at_ {α : Type} {enc : α → List Value} {e : TypeId} {s B : Nat} {w : World} {v : Value} {l : List α} (h : OwnL enc e s B w v l) (hs : ∀ x, (enc x).length = s) :
    (v = .slice none 0 0 ∧ l = []) ∨ ∃ g cc, v = .slice (some ⟨g, 0, none⟩) l.length cc ∧ l.length ≤ cc ∧ B ≤ g ∧ g < w.heap.size ∧ ∀ (j k : Nat) (x : α) (u : Value), l[j]? = some x → (enc x)[k]? = some u → w.cell? ⟨g, j * s + k, none⟩ = some u ∧ w.frozen? ⟨g, j * s + k, none⟩ = false := by
  rcases h.2 with ⟨hv, hn⟩ | ⟨g, cap, cur, rfl, hB, hh, hc, _⟩
  · exact .inl ⟨hv, List.eq_nil_of_length_eq_zero hn⟩
  · refine .inr ⟨g, cap, rfl, hc, hB, (Array.getElem?_eq_some_iff.1 hh).1, fun j k x u hx hu => ?_⟩
    have hk : k < s := by have := (List.getElem?_eq_some_iff.1 hu).1; rw [hs] at this; exact this
    have hj := (List.getElem?_eq_some_iff.1 hx).1
    have hlt : j * s + k < l.length * s := by
      have : (j + 1) * s ≤ l.length * s := Nat.mul_le_mul_right _ hj
      rw [Nat.succ_mul] at this; omega
    exact ⟨(World.ownsRow.cellAt h _ hlt).trans ((flat_get hs l j k x hx hk).trans hu), World.ownsRow.frozenAt h _⟩

/-- A slice that reads as a row of elements. -/
structure Row {α : Type} (enc : α → List Value) (s : Nat) (w : World) (A : Option Addr) (n c : Nat) (xs : List α) : Prop where
  len : xs.length = n
  cap : n ≤ c
  at_ : 0 < n → ∃ b o, A = some ⟨b, o, none⟩ ∧ ∀ (j k : Nat) (x : α) (u : Value), xs[j]? = some x → (enc x)[k]? = some u → w.cell? ⟨b, o + j * s + k, none⟩ = some u
theorem Row.below {α : Type} {enc : α → List Value} {s : Nat} {w w' : World} {A : Option Addr} {n c : Nat} {xs : List α} (h : Row enc s w A n c xs) (hb : Below w.heap.size w w') : Row enc s w' A n c xs := by
  refine ⟨h.len, h.cap, fun hn => ?_⟩
  obtain ⟨b, o, e, hc⟩ := h.at_ hn
  exact ⟨b, o, e, fun j k x u hx hu => (hb.cell (p := ⟨b, o + j * s + k, none⟩) (block_lt_of_cell (hc j k x u hx hu))).trans (hc j k x u hx hu)⟩
theorem OwnL.row {α : Type} {enc : α → List Value} {e : TypeId} {s B : Nat} {w : World} {v : Value} {l : List α} (h : OwnL enc e s B w v l) (hs : ∀ x, (enc x).length = s) : ∃ A c, v = .slice A l.length c ∧ Row enc s w A l.length c l := by
  rcases OwnL.at_ h hs with ⟨rfl, rfl⟩ | ⟨g, cc, rfl, hc, -, -, hd⟩
  · exact ⟨none, 0, rfl, rfl, Nat.le_refl _, fun h => absurd h (by simp)⟩
  · exact ⟨_, _, rfl, rfl, hc, fun _ => ⟨g, 0, rfl, fun j k x u hx hu => by rw [Nat.zero_add]; exact (hd j k x u hx hu).1⟩⟩
/-- A cell of a row's cells, by its element. -/
theorem flat_at {α : Type} {enc : α → List Value} {s : Nat} (hs : ∀ x, (enc x).length = s) (hs0 : 0 < s) {l : List α} {i : Nat} {u : Value} (h : (l.flatMap enc)[i]? = some u) : ∃ x, l[i / s]? = some x ∧ (enc x)[i % s]? = some u := by
  have hlt := (List.getElem?_eq_some_iff.1 h).1
  rw [flat_len hs] at hlt
  have hq : i / s < l.length := Nat.div_lt_of_lt_mul (by rw [Nat.mul_comm]; exact hlt)
  refine ⟨l[i / s], List.getElem?_eq_getElem hq, ?_⟩
  rw [← flat_get hs l (i / s) (i % s) _ (List.getElem?_eq_getElem hq) (Nat.mod_lt _ hs0), Nat.div_add_mod']
  exact h

/-- append of a row of elements onto a row of the call's own, as a run. -/
theorem append_rows_any {α : Type} {enc : α → List Value} {e t : TypeId} {s bytes : Nat} {z : Value} (hund : Tryz.prog.underlying t = some (.slice e)) (hinf : (Tryz.prog.info? e).map (fun i => (i.zero, i.size, i.bytes)) = some (some z, s, bytes)) (hzs : z.cells.size = s) (hs0 : 0 < s) (hby : bytes ≤ 100000)
    {o : Oper} {a : Act} {K : Act → World → Prop} {Q : Exit → Act → World → Prop} (p x : Operand)
    (ho : o.op = .call { callee := .builtin .append, args := #[p, x], argTypes := #[t, t] }) {B : Nat} {wo : World} {v : Value} {l ds : List α} {A : Option Addr} {n c : Nat} (hlen : ∀ x, (enc x).length = s) (h1 : ∀ x, ∀ u ∈ enc x, u.oneCell' = true) (hs : a.eval p = v) (hown : OwnL enc e s B wo v l)
    (hx : a.eval x = .slice A n c) (hsrc : Row enc s wo A n c ds) (hl : l.length ≤ 1000000) (hn : n ≤ 1000000) (hB : B ≤ wo.heap.size)
    (h : ∀ v' w', OwnL enc e s B w' v' (l ++ ds) → wo.grownBy w' v.ownBlock → K (a.put o.dst v') w') :
    Oper.wp Tryz.prog o a wo K Q := by
  obtain ⟨i0, hi0, hz0, hz1, hz2⟩ := info_parts hinf
  cases A with
  | none =>
    have hn0 : n = 0 := by
      rcases Nat.eq_zero_or_pos n with h0 | h0
      · exact h0
      · obtain ⟨b, o, e, _⟩ := hsrc.at_ h0; cases e
    have hx0 : ds = [] := List.eq_nil_of_length_eq_zero (by rw [hsrc.len, hn0])
    subst hn0 hx0
    have hrun := run_append_nilc wo B t o.type e i0 s hund hi0 v l.length (l.flatMap enc) hown c
    unfold Oper.wp
    simp only [execOp, ho, resolve, invoke, builtin, Sem.run_bind, Sem.run_pure, Result.andThen_ok, List.map_toArray, List.map_cons, List.map_nil, hs, hx, hrun]
    exact h v wo (by rw [List.append_nil]; exact hown) (grown_refl _ _)
  | some ad =>
    refine wp_append_own _ p x t ho B e i0 z s bytes hund hi0 hz0 hz1 hz2 hzs hs0 v l.length (l.flatMap enc) hs hown ad n c (ds.flatMap enc) hx (by rw [flat_len hlen, hsrc.len]) ?_ ?_ ?_ ?_ hB ?_
    · intro j u hu
      obtain ⟨y, hy, hyu⟩ := flat_at hlen hs0 hu
      have hj := (List.getElem?_eq_some_iff.1 hy).1
      obtain ⟨b, o, e, hc⟩ := hsrc.at_ (by rw [← hsrc.len]; exact Nat.zero_lt_of_lt hj)
      cases e
      rw [add_addr]
      have := hc _ _ _ _ hy hyu
      rw [Nat.add_assoc, Nat.div_add_mod'] at this
      exact this
    · intro u hu
      obtain ⟨y, _, hy⟩ := List.mem_flatMap.1 hu
      exact h1 y u hy
    · unfold maxLen; omega
    · exact Nat.le_trans (Nat.mul_le_mul_left _ hby) (by omega)
    · intro v' w' ho' hg' _
      refine h v' w' ?_ hg'
      unfold OwnL
      rw [List.length_append, List.flatMap_append, hsrc.len]
      exact ho'
theorem wp_append_rows {α : Type} {enc : α → List Value} {e t : TypeId} {s bytes : Nat} {z : Value} (hund : Tryz.prog.underlying t = some (.slice e)) (hinf : (Tryz.prog.info? e).map (fun i => (i.zero, i.size, i.bytes)) = some (some z, s, bytes)) (hzs : z.cells.size = s) (hs0 : 0 < s) (hby : bytes ≤ 100000)
    {ops : Array Oper} {rest : List Oper} {o : Oper} {a : Act} {Q : Exit → Act → World → Prop} (hgd : o.guard = none) (p x : Operand)
    (ho : o.op = .call { callee := .builtin .append, args := #[p, x], argTypes := #[t, t] }) {B : Nat} {wo : World} {v : Value} {l ds : List α} {A : Option Addr} {n c : Nat} (hlen : ∀ x, (enc x).length = s) (h1 : ∀ x, ∀ u ∈ enc x, u.oneCell' = true) (hs : a.eval p = v) (hown : OwnL enc e s B wo v l)
    (hx : a.eval x = .slice A n c) (hsrc : Row enc s wo A n c ds) (hl : l.length ≤ 1000000) (hn : n ≤ 1000000) (hB : B ≤ wo.heap.size)
    (h : ∀ v' w', OwnL enc e s B w' v' (l ++ ds) → wo.grownBy w' v.ownBlock → wpList Tryz.prog ops Q rest (a.put o.dst v') w') :
    wpList Tryz.prog ops Q (o :: rest) a wo :=
  wpList_plain hgd fun _ hK => append_rows_any hund hinf hzs hs0 hby p x ho hlen h1 hs hown hx hsrc hl hn hB fun v' w' h2 h3 => hK _ _ (h v' w' h2 h3)
theorem step_append_rows {α : Type} {enc : α → List Value} {e t : TypeId} {s bytes : Nat} {z : Value} (hund : Tryz.prog.underlying t = some (.slice e)) (hinf : (Tryz.prog.info? e).map (fun i => (i.zero, i.size, i.bytes)) = some (some z, s, bytes)) (hzs : z.cells.size = s) (hs0 : 0 < s) (hby : bytes ≤ 100000)
    {ops : Array Oper} {o : Oper} {a : Act} {K : Act → World → Prop} {Q : Exit → Act → World → Prop} {E : Prop} (hgd : o.guard = none) (p x : Operand)
    (ho : o.op = .call { callee := .builtin .append, args := #[p, x], argTypes := #[t, t] }) {B : Nat} {wo : World} {v : Value} {l ds : List α} {A : Option Addr} {n c : Nat} (hlen : ∀ x, (enc x).length = s) (h1 : ∀ x, ∀ u ∈ enc x, u.oneCell' = true) (hs : a.eval p = v) (hown : OwnL enc e s B wo v l)
    (hx : a.eval x = .slice A n c) (hsrc : Row enc s wo A n c ds) (hl : l.length ≤ 1000000) (hn : n ≤ 1000000) (hB : B ≤ wo.heap.size)
    (h : ∀ v' w', OwnL enc e s B w' v' (l ++ ds) → wo.grownBy w' v.ownBlock → K (a.put o.dst v') w') :
    if Region.wanted o (yielded ops a.tmps) = true then Oper.wp Tryz.prog o a wo K Q else E := by
  have hw : Region.wanted o (yielded ops a.tmps) = true := by simp [Region.wanted, hgd]
  rw [if_pos hw]
  exact append_rows_any hund hinf hzs hs0 hby p x ho hlen h1 hs hown hx hsrc hl hn hB h
/-- A new block that holds one element is a row. -/
theorem row_new {α : Type} {enc : α → List Value} {s : Nat} {w : World} {k : Nat} {t : TypeId} {d : α} (h : Blk w k t (enc d).toArray) : Row enc s w (some ⟨k, 0, none⟩) 1 1 [d] := by
  refine ⟨rfl, Nat.le_refl _, fun _ => ⟨k, 0, rfl, fun j i x u hx hu => ?_⟩⟩
  cases j with
  | zero =>
    obtain rfl := Option.some.inj hx
    rw [Nat.zero_mul, Nat.add_zero, Nat.zero_add]
    exact (h.cell i).trans (by simpa using hu)
  | succ j => simp at hx
/-- An empty slice with a block of its own. -/
theorem OwnL.empty {α : Type} (enc : α → List Value) (e : TypeId) (s : Nat) {w : World} {k B : Nat} (h : Blk w k e #[]) (hB : B ≤ k) : OwnL enc e s B w (.slice (some ⟨k, 0, none⟩) 0 0) [] :=
  ⟨by simp, .inr ⟨k, 0, #[], rfl, hB, h, Nat.le_refl _, Nat.zero_le _, by simp, by simp⟩⟩

end Go.Proofs.YtebgmlbbilcbbaaGreatDoor
namespace Go.Proofs.YtebgmlbbilcbbaaGreatDoor
open Go.RowKit

/-- What the reference's Pow returns. -/
def rpowRes (a e m : Nat) : Value := if m = 0 then .tuple #[.string ⟨#[]⟩, .bool false] else .tuple #[.string (natS (a ^ e % m)), .bool true]

theorem half_step (y κ : Nat) : y / 2 ^ κ = 2 * (y / 2 ^ (κ + 1)) + y / 2 ^ κ % 2 := by
  rw [Nat.pow_succ, ← Nat.div_div_eq_div_mul]; omega
theorem exp_step (E y s : Nat) (hs : s < 8) : E * 2 ^ (8 - s) + y / 2 ^ s = 2 * (E * 2 ^ (8 - (s + 1)) + y / 2 ^ (s + 1)) + y / 2 ^ s % 2 := by
  have h := half_step y s
  have e : 2 ^ (8 - s) = 2 ^ (8 - (s + 1)) * 2 := by rw [← Nat.pow_succ]; congr 1; omega
  rw [e, ← Nat.mul_assoc]
  omega

set_option maxRecDepth 100000 in
set_option maxHeartbeats 2000000 in
theorem rPow (a s m : ByteArray) (w : World) (ha : a.size ≤ 10000) (hs : s.size ≤ 100000) (hm : m.size ≤ 10000) (h0 : sval m ≠ 0) :
    Calls Tryz.prog 82 #[.string a, .string s, .string m] w fun e w' => e = .returned (.tuple #[.string (natS (sval a ^ sval s % sval m)), .bool true]) ∧ Below w.heap.size w w' := by
  obtain ⟨M, hM⟩ : ∃ M, M = sval m := ⟨_, rfl⟩
  obtain ⟨A, hA⟩ : ∃ A, A = sval a := ⟨_, rfl⟩
  have hMp : 0 < M := by omega
  have hMl : M < P8 10000 := by rw [hM]; exact Nat.lt_of_lt_of_le (sval_lt m) (P8_mono hm)
  have HRS : Hid (∀ x, (natS (x % M)).size ≤ 10000) := Lib.hid (fun x => natS_size (Nat.lt_trans (Nat.mod_lt x hMp) hMl))
  have HQ : Hid (∀ (t : ByteArray) (W : World), t.size ≤ 100000 → Calls Tryz.prog 71 #[.string t, .string m] W fun e w' => e = .returned (.tuple #[.string (natS (sval t / M)), .string (natS (sval t % M)), .bool true]) ∧ Below W.heap.size W w') := Lib.hid (fun t W ht => by
    have := rQuo t m W ht (by omega)
    unfold quoRes at this
    rw [if_neg h0, ← hM] at this
    exact this)
  rw [← hM, ← hA]
  have HA := Lib.hid hA
  clear hM hA h0
  go_enter Tryz.func82, Tryz.ntmps82
  go_wp2_with fail
  refine (HQ.out a _ (by omega)).mono ?_
  rintro e w1 ⟨rfl, hB⟩
  rw [← HA.out]
  go_wp2_with fail
  refine (rOf 1 _ (by omega)).mono ?_
  rintro e w2 ⟨rfl, hb2⟩
  replace hB := below_then hB hb2
  clear hb2
  go_wp2_with fail
  refine (HQ.out _ _ (by decide)).mono ?_
  rintro e w3 ⟨rfl, hb3⟩
  replace hB := below_then hB hb3
  clear hb3
  go_wp2_with fail
  go_loopw [12, 14, 15] (fun s12 s14 _ wr => ∃ k : Nat, k ≤ s.size ∧ s14 = .int .i64 (k : Int) ∧ s12 = .string (natS (A ^ bv (s.data.toList.take k) % M)) ∧ Below w.heap.size w wr) (fun _ s14 _ _ => s.size - (intOf s14).toNat)
  case atStart =>
    refine ⟨0, by omega, rfl, ?_, hB⟩
    rw [sval_natS]; rfl
  case round =>
    obtain ⟨k, hk, rfl, rfl, hbw⟩ := hrel
    by_cases hlt : k < s.size
    · obtain ⟨E, hE⟩ : ∃ E, E = bv (s.data.toList.take k) := ⟨_, rfl⟩
      obtain ⟨y, hy⟩ : ∃ y, y = s[k].toNat := ⟨_, rfl⟩
      have hyl : y < 256 := by rw [hy]; exact s[k].toNat_lt
      have HN : Hid (bv (s.data.toList.take (k + 1)) = E * 256 + y) := Lib.hid (by rw [hE, hy]; exact bv_take_byte s hlt)
      rw [← hE]
      have HY := Lib.hid hy
      clear hE hy
      obtain ⟨wo, hwo⟩ : ∃ wo : World, wo = wr := ⟨_, rfl⟩
      subst hwo
      go_wp2_with fail
      go_loopw [12, 15] (fun s12 s15 wi => ∃ r : Nat, r ≤ 8 ∧ s15 = .int .i64 ((r : Int) - 1) ∧ s12 = .string (natS (A ^ (E * 2 ^ (8 - r) + y / 2 ^ r) % M)) ∧ Below w.heap.size w wi) (fun _ s15 _ => (intOf s15 + 1).toNat)
      case atStart =>
        refine ⟨8, by omega, rfl, ?_, hbw⟩
        rw [show y / 2 ^ 8 = 0 from Nat.div_eq_of_lt hyl, Nat.sub_self, Nat.pow_zero, Nat.mul_one, Nat.add_zero]
      case round =>
        obtain ⟨r, hr, rfl, rfl, hbi⟩ := hrel
        by_cases hr0 : 0 < r
        · obtain ⟨κ, rfl⟩ : ∃ κ, r = κ + 1 := ⟨r - 1, by omega⟩
          rw [show ((κ + 1 : Nat) : Int) - 1 = (κ : Int) by omega]
          have hst := exp_step E y κ (by omega)
          obtain ⟨e0, he0⟩ : ∃ e0, e0 = E * 2 ^ (8 - (κ + 1)) + y / 2 ^ (κ + 1) := ⟨_, rfl⟩
          rw [← he0] at hst ⊢
          have hpw := pow_step_sq A e0 M
          have hpm := pow_step_mul A (2 * e0) M
          obtain ⟨c0, hc0⟩ : ∃ c0, c0 = A ^ e0 % M := ⟨_, rfl⟩
          rw [← hc0] at hpw ⊢
          have hc0s : (natS c0).size ≤ 10000 := by rw [hc0]; exact HRS.out _
          have hx0s : (natS (A % M)).size ≤ 10000 := HRS.out _
          obtain ⟨c1, hc1⟩ : ∃ c1, c1 = A ^ (2 * e0) % M := ⟨_, rfl⟩
          rw [← hc1] at hpw hpm
          have hc1s : (natS c1).size ≤ 10000 := by rw [hc1]; exact HRS.out _
          have hp1 : (natS (c0 * c0)).size ≤ 100000 := Nat.le_trans (natS_size (by rw [P8_add]; exact Nat.mul_lt_mul'' (natS_lt hc0s) (natS_lt hc0s))) (by omega)
          have hp2 : (natS (c1 * (A % M))).size ≤ 100000 := Nat.le_trans (natS_size (by rw [P8_add]; exact Nat.mul_lt_mul'' (natS_lt hc1s) (natS_lt hx0s))) (by omega)
          have H1 : Hid (∀ W, Calls Tryz.prog 42 #[.string (natS c0), .string (natS c0)] W fun e w' => e = .returned (.string (natS (c0 * c0))) ∧ Below W.heap.size W w') := Lib.hid (fun W => by have := rMul (natS c0) (natS c0) W (by omega) (by omega); rwa [sval_natS] at this)
          have H2 : Hid (∀ W, Calls Tryz.prog 71 #[.string (natS (c0 * c0)), .string m] W fun e w' => e = .returned (.tuple #[.string (natS (c0 * c0 / M)), .string (natS c1), .bool true]) ∧ Below W.heap.size W w') := Lib.hid (fun W => by have := HQ.out (natS (c0 * c0)) W hp1; rwa [sval_natS, hpw] at this)
          have H3 : Hid (∀ W, Calls Tryz.prog 42 #[.string (natS c1), .string (natS (A % M))] W fun e w' => e = .returned (.string (natS (c1 * (A % M)))) ∧ Below W.heap.size W w') := Lib.hid (fun W => by have := rMul (natS c1) (natS (A % M)) W (by omega) (by omega); rwa [sval_natS, sval_natS] at this)
          have H4 : Hid (∀ W, Calls Tryz.prog 71 #[.string (natS (c1 * (A % M))), .string m] W fun e w' => e = .returned (.tuple #[.string (natS (c1 * (A % M) / M)), .string (natS (A ^ (2 * e0 + 1) % M)), .bool true]) ∧ Below W.heap.size W w') := Lib.hid (fun W => by have := HQ.out (natS (c1 * (A % M))) W hp2; rwa [sval_natS, hpm] at this)
          have HC1 := Lib.hid hc1
          have HST := Lib.hid hst
          have hbe : (bits BinOp.and IntKind.u8 ((s[k].toNat : Int) / 2 ^ κ) 1 == 1) = (y / 2 ^ κ % 2 == 1) := by
            have hb1 : s[k].toNat = y := HY.out.symm
            rw [hb1]
            have e := u8_and_nat (y / 2 ^ κ) 1 (Nat.lt_of_le_of_lt (Nat.div_le_self _ _) (by omega)) (by omega)
            rw [show (1 : Nat) = 2 ^ 1 - 1 by rfl, Nat.and_two_pow_sub_one_eq_mod] at e
            have e2 : ((y / 2 ^ κ : Nat) : Int) = (y : Int) / 2 ^ κ := by simp
            rw [e2] at e
            have e3 : bits BinOp.and IntKind.u8 ((y : Int) / 2 ^ κ) 1 = ((y / 2 ^ κ % 2 : Nat) : Int) := e
            rw [e3, Bool.eq_iff_iff]
            simp only [beq_iff_eq]
            omega
          obtain ⟨tb, htb⟩ : ∃ tb, tb = y / 2 ^ κ % 2 := ⟨_, rfl⟩
          rw [← htb] at hbe
          have HTB := Lib.hid htb
          clear hst hpw hpm hc0 hc1 htb he0
          by_cases h1 : tb = 1
          · have hbt : (bits BinOp.and IntKind.u8 ((s[k].toNat : Int) / 2 ^ κ) 1 == 1) = true := by rw [hbe, h1]; rfl
            clear hbe
            have H1' := Lib.hid h1
            clear h1
            go_wp2_with (first
              | (go_at_call 42; (with_reducible refine (H1.out _).mono ?_); rintro e w' ⟨rfl, hb''⟩; replace hbi := below_then hbi hb''; clear hb'')
              | (go_at_call 71; (with_reducible refine (H2.out _).mono ?_); rintro e w' ⟨rfl, hb''⟩; replace hbi := below_then hbi hb''; clear hb'')
              | (go_at_call 42; (with_reducible refine (H3.out _).mono ?_); rintro e w' ⟨rfl, hb''⟩; replace hbi := below_then hbi hb''; clear hb'')
              | (go_at_call 71; (with_reducible refine (H4.out _).mono ?_); rintro e w' ⟨rfl, hb''⟩; replace hbi := below_then hbi hb''; clear hb''))
            go_roundw
            case rel => exact ⟨κ, by omega, rfl, by rw [HST.out, ← HTB.out, H1'.out], hbi⟩
            case measure => simp [intOf]
          · have hbt : (bits BinOp.and IntKind.u8 ((s[k].toNat : Int) / 2 ^ κ) 1 == 1) = false := by rw [hbe]; simpa using h1
            clear hbe
            have H1' : Hid (tb = 0) := Lib.hid (by have := HTB.out; omega)
            clear h1
            go_wp2_with (first
              | (go_at_call 42; (with_reducible refine (H1.out _).mono ?_); rintro e w' ⟨rfl, hb''⟩; replace hbi := below_then hbi hb''; clear hb'')
              | (go_at_call 71; (with_reducible refine (H2.out _).mono ?_); rintro e w' ⟨rfl, hb''⟩; replace hbi := below_then hbi hb''; clear hb''))
            go_roundw
            case rel => exact ⟨κ, by omega, rfl, by rw [HST.out, ← HTB.out, H1'.out, HC1.out]; rfl, hbi⟩
            case measure => simp [intOf]
        · obtain rfl : r = 0 := by omega
          go_wp2_with fail
          go_roundw
          case rel => exact ⟨k + 1, by omega, by go_num, by rw [HN.out]; simp, hbi⟩
          case measure => simp [intOf]; omega
    · obtain rfl : k = s.size := by omega
      have HE : Hid (bv (s.data.toList.take s.size) = sval s) := Lib.hid (by rw [List.take_of_length_le (by rw [size_len]; exact Nat.le_refl _)]; rfl)
      go_wp2_with fail
      go_ret2
      exact ⟨by rw [HE.out]; rfl, hbw⟩

end Go.Proofs.YtebgmlbbilcbbaaGreatDoor
