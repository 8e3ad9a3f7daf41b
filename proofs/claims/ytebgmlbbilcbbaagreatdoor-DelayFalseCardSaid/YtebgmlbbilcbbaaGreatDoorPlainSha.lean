/- SHA-256 in plain words. -/
import Derived.Laws.BitsAllLaws
namespace Go.Proofs.YtebgmlbbilcbbaaGreatDoor

/-- A word turned to the right. -/
def rotr (n x : Nat) : Nat := x / 2 ^ n ||| x * 2 ^ (32 - n) % 4294967296
def bS0 (x : Nat) : Nat := (rotr 2 x ^^^ rotr 13 x) ^^^ rotr 22 x
def bS1 (x : Nat) : Nat := (rotr 6 x ^^^ rotr 11 x) ^^^ rotr 25 x
def sS0 (x : Nat) : Nat := (rotr 7 x ^^^ rotr 18 x) ^^^ x / 8
def sS1 (x : Nat) : Nat := (rotr 17 x ^^^ rotr 19 x) ^^^ x / 1024
def chS (e f g : Nat) : Nat := (e &&& f) ^^^ ((4294967295 - e) &&& g)
def majS (a b c : Nat) : Nat := ((a &&& b) ^^^ (a &&& c)) ^^^ (b &&& c)
/-- The words k(0) to k(63). -/
def kS : List Nat := [
  0x428a2f98, 0x71374491, 0xb5c0fbcf, 0xe9b5dba5, 0x3956c25b, 0x59f111f1, 0x923f82a4, 0xab1c5ed5,
  0xd807aa98, 0x12835b01, 0x243185be, 0x550c7dc3, 0x72be5d74, 0x80deb1fe, 0x9bdc06a7, 0xc19bf174,
  0xe49b69c1, 0xefbe4786, 0x0fc19dc6, 0x240ca1cc, 0x2de92c6f, 0x4a7484aa, 0x5cb0a9dc, 0x76f988da,
  0x983e5152, 0xa831c66d, 0xb00327c8, 0xbf597fc7, 0xc6e00bf3, 0xd5a79147, 0x06ca6351, 0x14292967,
  0x27b70a85, 0x2e1b2138, 0x4d2c6dfc, 0x53380d13, 0x650a7354, 0x766a0abb, 0x81c2c92e, 0x92722c85,
  0xa2bfe8a1, 0xa81a664b, 0xc24b8b70, 0xc76c51a3, 0xd192e819, 0xd6990624, 0xf40e3585, 0x106aa070,
  0x19a4c116, 0x1e376c08, 0x2748774c, 0x34b0bcb5, 0x391c0cb3, 0x4ed8aa4a, 0x5b9cca4f, 0x682e6ff3,
  0x748f82ee, 0x78a5636f, 0x84c87814, 0x8cc70208, 0x90befffa, 0xa4506ceb, 0xbef9a3f7, 0xc67178f2]
/-- The words that the state begins with. -/
def ivS : List Nat := [0x6a09e667, 0xbb67ae85, 0x3c6ef372, 0xa54ff53a, 0x510e527f, 0x9b05688c, 0x1f83d9ab, 0x5be0cd19]
/-- A byte of a list. -/
def byteS (b : List UInt8) (i : Nat) : Nat := (b.getD i 0).toNat
/-- A word of a block. -/
def wordS (b : List UInt8) (i : Nat) : Nat := byteS b (4 * i) * 16777216 + byteS b (4 * i + 1) * 65536 + byteS b (4 * i + 2) * 256 + byteS b (4 * i + 3)
/-- The word behind words. -/
def nextS (l : List Nat) (i : Nat) : Nat := (l.getD (i - 16) 0 + sS0 (l.getD (i - 15) 0) + l.getD (i - 7) 0 + sS1 (l.getD (i - 2) 0)) % 4294967296
/-- The first words of the schedule of a block. -/
def schedS (b : List UInt8) : Nat → List Nat
  | 0 => []
  | i + 1 => schedS b i ++ [if i < 16 then wordS b i else nextS (schedS b i) i]
/-- The eight words of a step. -/
structure St where
  a : Nat
  b : Nat
  c : Nat
  d : Nat
  e : Nat
  f : Nat
  g : Nat
  h : Nat
def St.t (s : St) (k w : Nat) : Nat := (s.h + bS1 s.e + chS s.e s.f s.g + k + w) % 4294967296
def St.u (s : St) : Nat := (bS0 s.a + majS s.a s.b s.c) % 4294967296
/-- A step. -/
def St.step (s : St) (k w : Nat) : St := ⟨(s.t k w + s.u) % 4294967296, s.a, s.b, s.c, (s.d + s.t k w) % 4294967296, s.e, s.f, s.g⟩
/-- The first steps. -/
def stepsS (ws : List Nat) (s : St) : Nat → St
  | 0 => s
  | i + 1 => (stepsS ws s i).step (kS.getD i 0) (ws.getD i 0)
def St.list (s : St) : List Nat := [s.a, s.b, s.c, s.d, s.e, s.f, s.g, s.h]
def St.of (l : List Nat) : St := ⟨l.getD 0 0, l.getD 1 0, l.getD 2 0, l.getD 3 0, l.getD 4 0, l.getD 5 0, l.getD 6 0, l.getD 7 0⟩
/-- A state after a block. -/
def mixS (l : List Nat) (b : List UInt8) : List Nat := List.zipWith (fun x y => (x + y) % 4294967296) l (stepsS (schedS b 64) (St.of l) 64).list
/-- The state after blocks of a message. -/
def stateS (t : List UInt8) : Nat → List Nat
  | 0 => ivS
  | k + 1 => mixS (stateS t k) ((t.drop (64 * k)).take 64)
/-- The eight bytes of a number. -/
def lenS (n : Nat) : List UInt8 := (List.range 8).map fun i => UInt8.ofNat (n / 2 ^ (56 - 8 * i) % 256)
/-- How many bytes 0 stand behind the first byte behind a string. -/
def zerosS (n : Nat) : Nat := (119 - n % 64) % 64
/-- The message of a string. -/
def padS (l : List UInt8) : List UInt8 := l ++ ([128] ++ List.replicate (zerosS l.length) 0 ++ lenS (l.length * 8))
/-- The bytes of a state. -/
def bytesS (l : List Nat) : List UInt8 := (List.range 32).map fun i => UInt8.ofNat (l.getD (i / 4) 0 / 2 ^ (24 - i % 4 * 8) % 256)
/-- The hash of a string. -/
def shaS (l : List UInt8) : List UInt8 := bytesS (stateS (padS l) ((l.length + 72) / 64))


theorem xor32 {a b : Nat} (ha : a < 4294967296) (hb : b < 4294967296) : a ^^^ b < 4294967296 := Nat.xor_lt_two_pow (n := 32) ha hb
theorem and32 {a b : Nat} (ha : a < 4294967296) : a &&& b < 4294967296 := Nat.lt_of_le_of_lt Nat.and_le_left ha
theorem or32 {a b : Nat} (ha : a < 4294967296) (hb : b < 4294967296) : a ||| b < 4294967296 := Nat.or_lt_two_pow (n := 32) ha hb
theorem div32 {a : Nat} (n : Nat) (ha : a < 4294967296) : a / n < 4294967296 := Nat.lt_of_le_of_lt (Nat.div_le_self _ _) ha
theorem mod32 (a : Nat) : a % 4294967296 < 4294967296 := Nat.mod_lt _ (by decide)
theorem rotr_lt {x : Nat} (n : Nat) (hx : x < 4294967296) : rotr n x < 4294967296 := or32 (div32 _ hx) (mod32 _)
theorem bS0_lt {x : Nat} (h : x < 4294967296) : bS0 x < 4294967296 := xor32 (xor32 (rotr_lt _ h) (rotr_lt _ h)) (rotr_lt _ h)
theorem bS1_lt {x : Nat} (h : x < 4294967296) : bS1 x < 4294967296 := xor32 (xor32 (rotr_lt _ h) (rotr_lt _ h)) (rotr_lt _ h)
theorem sS0_lt {x : Nat} (h : x < 4294967296) : sS0 x < 4294967296 := xor32 (xor32 (rotr_lt _ h) (rotr_lt _ h)) (div32 _ h)
theorem sS1_lt {x : Nat} (h : x < 4294967296) : sS1 x < 4294967296 := xor32 (xor32 (rotr_lt _ h) (rotr_lt _ h)) (div32 _ h)
theorem chS_lt {e f : Nat} (g : Nat) (he : e < 4294967296) : chS e f g < 4294967296 := xor32 (and32 he) (and32 (by omega))
theorem majS_lt {a b : Nat} (c : Nat) (ha : a < 4294967296) (hb : b < 4294967296) : majS a b c < 4294967296 := xor32 (xor32 (and32 ha) (and32 ha)) (and32 hb)
theorem byteS_lt (b : List UInt8) (i : Nat) : byteS b i < 256 := UInt8.toNat_lt _

/-- The first bytes of a word. -/
def pwS (b : List UInt8) (j : Nat) : Nat → Nat
  | 0 => 0
  | m + 1 => pwS b j m * 256 + byteS b (4 * j + m)
theorem pwS_lt (b : List UInt8) (j : Nat) : ∀ m, pwS b j m < 256 ^ m
  | 0 => Nat.one_pos
  | m + 1 => by
    have h1 := pwS_lt b j m
    have h2 := byteS_lt b (4 * j + m)
    have h3 : (pwS b j m + 1) * 256 ≤ 256 ^ m * 256 := Nat.mul_le_mul_right _ h1
    rw [Nat.pow_succ]
    show pwS b j m * 256 + byteS b (4 * j + m) < _
    omega
theorem pwS_four (b : List UInt8) (j : Nat) : pwS b j 4 = wordS b j := by
  unfold wordS
  simp only [pwS, Nat.add_zero]
  omega
theorem wordS_lt (b : List UInt8) (j : Nat) : wordS b j < 4294967296 := by rw [← pwS_four]; exact pwS_lt b j 4
/-- The words as they fill. -/
def fillS (b : List UInt8) (k : Nat) : List Nat := (List.range 64).map fun j => pwS b j (min 4 (k - 4 * j))
theorem fillS_len (b : List UInt8) (k : Nat) : (fillS b k).length = 64 := by simp [fillS]
theorem fillS_get (b : List UInt8) (k : Nat) {j : Nat} (hj : j < 64) : (fillS b k)[j]? = some (pwS b j (min 4 (k - 4 * j))) := by
  simp [fillS, hj]
theorem fillS_cur (b : List UInt8) {k : Nat} (hk : k < 64) : (fillS b k)[k / 4]? = some (pwS b (k / 4) (k % 4)) := by
  rw [fillS_get b k (by omega), show min 4 (k - 4 * (k / 4)) = k % 4 by omega]
theorem fillS_set (b : List UInt8) (k : Nat) : (fillS b k).set (k / 4) (pwS b (k / 4) (k % 4) * 256 + byteS b k) = fillS b (k + 1) := by
  apply List.ext_getElem?
  intro j
  rcases Nat.lt_or_ge j 64 with hj | hj
  · rw [List.getElem?_set, fillS_get b (k + 1) hj]
    by_cases e : k / 4 = j
    · subst e
      rw [if_pos rfl, if_pos (by rw [fillS_len]; exact hj), show min 4 (k + 1 - 4 * (k / 4)) = k % 4 + 1 by omega]
      show _ = some (pwS b (k / 4) (k % 4) * 256 + byteS b (4 * (k / 4) + k % 4))
      rw [Nat.div_add_mod]
    · rw [if_neg e, fillS_get b k hj, show min 4 (k + 1 - 4 * j) = min 4 (k - 4 * j) by omega]
  · rw [List.getElem?_eq_none (by rw [List.length_set, fillS_len]; exact hj), List.getElem?_eq_none (by rw [fillS_len]; exact hj)]
theorem fillS_zero (b : List UInt8) : fillS b 0 = List.replicate 64 0 := by
  apply List.ext_getElem?
  intro j
  rcases Nat.lt_or_ge j 64 with hj | hj
  · rw [fillS_get b 0 hj, List.getElem?_replicate, if_pos hj, Nat.zero_sub]; rfl
  · rw [List.getElem?_eq_none (by rw [fillS_len]; exact hj), List.getElem?_eq_none (by simpa using hj)]
theorem schedS_len (b : List UInt8) : ∀ i, (schedS b i).length = i
  | 0 => rfl
  | i + 1 => by simp [schedS, schedS_len b i]
theorem schedS_lt (b : List UInt8) : ∀ i, ∀ x ∈ schedS b i, x < 4294967296
  | 0, x, h => by cases h
  | i + 1, x, h => by
    rcases List.mem_append.1 h with h | h
    · exact schedS_lt b i x h
    · obtain rfl := List.mem_singleton.1 h
      split
      · exact wordS_lt _ _
      · exact mod32 _
theorem schedS_get (b : List UInt8) : ∀ (n i : Nat), i ≤ n → ∀ j, j < i → (schedS b n)[j]? = (schedS b i)[j]?
  | 0, i, h, j, hj => by omega
  | n + 1, i, h, j, hj => by
    rcases Nat.lt_or_ge n i with h1 | h1
    · obtain rfl : i = n + 1 := by omega
      rfl
    · rw [← schedS_get b n i h1 j hj]
      exact List.getElem?_append_left (by rw [schedS_len]; omega)
theorem getD_lt {l : List Nat} (h : ∀ x ∈ l, x < 4294967296) (j : Nat) : l.getD j 0 < 4294967296 := by
  rw [List.getD_eq_getElem?_getD]
  cases e : l[j]? with
  | none => decide
  | some x => exact h x (List.mem_of_getElem? e)
theorem fillS_end (b : List UInt8) : fillS b 64 = schedS b 16 ++ List.replicate 48 0 := by
  apply List.ext_getElem?
  intro j
  rcases Nat.lt_or_ge j 16 with hj | hj
  · rw [fillS_get b 64 (by omega), List.getElem?_append_left (by rw [schedS_len]; exact hj), schedS_get b 16 (j + 1) (by omega) j (by omega), show min 4 (64 - 4 * j) = 4 by omega, pwS_four]
    show _ = (schedS b j ++ [if j < 16 then wordS b j else nextS (schedS b j) j])[j]?
    rw [List.getElem?_append_right (by rw [schedS_len]; exact Nat.le_refl _), schedS_len, Nat.sub_self, if_pos hj]; rfl
  · rcases Nat.lt_or_ge j 64 with h64 | h64
    · rw [fillS_get b 64 h64, List.getElem?_append_right (by rw [schedS_len]; exact hj), schedS_len, List.getElem?_replicate, if_pos (by omega), show min 4 (64 - 4 * j) = 0 by omega]; rfl
    · rw [List.getElem?_eq_none (by rw [fillS_len]; exact h64), List.getElem?_eq_none (by rw [List.length_append, schedS_len]; simp; omega)]
theorem sched_set (b : List UInt8) {i : Nat} (h0 : 16 ≤ i) (hi : i < 64) : (schedS b i ++ List.replicate (64 - i) 0).set i (nextS (schedS b i) i) = schedS b (i + 1) ++ List.replicate (64 - (i + 1)) 0 := by
  rw [List.set_append_right _ _ (by rw [schedS_len]; exact Nat.le_refl _), schedS_len, Nat.sub_self, show 64 - i = (64 - (i + 1)) + 1 by omega, List.replicate_succ, List.set_cons_zero]
  show _ = (schedS b i ++ [if i < 16 then wordS b i else nextS (schedS b i) i]) ++ _
  rw [if_neg (by omega), List.append_assoc]; rfl
theorem sched_word (b : List UInt8) {i : Nat} (hi : i < 16) : (schedS b i ++ List.replicate (64 - i) 0).set i (wordS b i) = schedS b (i + 1) ++ List.replicate (64 - (i + 1)) 0 := by
  rw [List.set_append_right _ _ (by rw [schedS_len]; exact Nat.le_refl _), schedS_len, Nat.sub_self, show 64 - i = (64 - (i + 1)) + 1 by omega, List.replicate_succ, List.set_cons_zero]
  show _ = (schedS b i ++ [if i < 16 then wordS b i else nextS (schedS b i) i]) ++ _
  rw [if_pos hi, List.append_assoc]; rfl
theorem sched_at (b : List UInt8) {i j n : Nat} (hj : j < i) : (schedS b i ++ List.replicate n 0)[j]? = some ((schedS b i).getD j 0) := by
  rw [List.getElem?_append_left (by rw [schedS_len]; exact hj), List.getD_eq_getElem?_getD, List.getElem?_eq_getElem (by rw [schedS_len]; exact hj)]; rfl

/-- Words of a state. -/
structure St.Ok (s : St) : Prop where
  a : s.a < 4294967296
  b : s.b < 4294967296
  c : s.c < 4294967296
  d : s.d < 4294967296
  e : s.e < 4294967296
  f : s.f < 4294967296
  g : s.g < 4294967296
  h : s.h < 4294967296
theorem St.Ok.step {s : St} (h : s.Ok) (k w : Nat) : (s.step k w).Ok := ⟨mod32 _, h.a, h.b, h.c, mod32 _, h.e, h.f, h.g⟩
theorem steps_ok {s : St} (h : s.Ok) (ws : List Nat) : ∀ i, (stepsS ws s i).Ok
  | 0 => h
  | i + 1 => (steps_ok h ws i).step _ _
/-- A state as a list of eight words. -/
structure Eight (l : List Nat) : Prop where
  len : l.length = 8
  lt : ∀ x ∈ l, x < 4294967296
theorem Eight.of {l : List Nat} (h : Eight l) : (St.of l).Ok := ⟨getD_lt h.lt _, getD_lt h.lt _, getD_lt h.lt _, getD_lt h.lt _, getD_lt h.lt _, getD_lt h.lt _, getD_lt h.lt _, getD_lt h.lt _⟩
theorem mixS_eight {l : List Nat} (h : Eight l) (b : List UInt8) : Eight (mixS l b) := by
  refine ⟨by unfold mixS; rw [List.length_zipWith, h.len]; rfl, fun x hx => ?_⟩
  unfold mixS at hx
  obtain ⟨i, hi⟩ := List.mem_iff_getElem?.1 hx
  rw [List.getElem?_zipWith] at hi
  split at hi
  · obtain rfl := Option.some.inj hi
    exact mod32 _
  · cases hi
theorem ivS_eight : Eight ivS := ⟨rfl, fun x hx => by
  simp only [ivS, List.mem_cons, List.not_mem_nil, or_false] at hx
  omega⟩
theorem stateS_eight (t : List UInt8) : ∀ k, Eight (stateS t k)
  | 0 => ivS_eight
  | k + 1 => mixS_eight (stateS_eight t k) _
theorem eight_of {l : List Nat} (h : Eight l) : ∃ a b c d e f g k : Nat, l = [a, b, c, d, e, f, g, k] ∧ a < 4294967296 ∧ b < 4294967296 ∧ c < 4294967296 ∧ d < 4294967296 ∧ e < 4294967296 ∧ f < 4294967296 ∧ g < 4294967296 ∧ k < 4294967296 := by
  obtain ⟨hl, hlt⟩ := h
  match l, hl with
  | [a, b, c, d, e, f, g, k], _ => exact ⟨a, b, c, d, e, f, g, k, rfl, hlt a (by simp), hlt b (by simp), hlt c (by simp), hlt d (by simp), hlt e (by simp), hlt f (by simp), hlt g (by simp), hlt k (by simp)⟩

/-- The rest behind the whole blocks of a string. -/
def restS (l : List UInt8) : List UInt8 := l.drop (l.length / 64 * 64) ++ ([128] ++ List.replicate (zerosS l.length) 0 ++ lenS (l.length * 8))
theorem lenS_len (n : Nat) : (lenS n).length = 8 := by simp [lenS]
theorem padS_rest (l : List UInt8) : padS l = l.take (l.length / 64 * 64) ++ restS l := by
  unfold padS restS
  rw [← List.append_assoc (List.take _ l) (List.drop _ l), List.take_append_drop]
theorem restS_len (l : List UInt8) : (restS l).length = 64 * ((l.length + 72) / 64) - l.length / 64 * 64 := by
  unfold restS zerosS
  simp only [List.length_append, List.length_drop, List.length_cons, List.length_nil, List.length_replicate, lenS_len]
  omega
theorem padS_len (l : List UInt8) : (padS l).length = 64 * ((l.length + 72) / 64) := by
  rw [padS_rest, List.length_append, restS_len, List.length_take]
  omega
/-- A whole block of a string is a block of its message. -/
theorem pad_block {l : List UInt8} {k : Nat} (h : 64 * (k + 1) ≤ l.length) : ((padS l).drop (64 * k)).take 64 = (l.drop (64 * k)).take 64 := by
  unfold padS
  rw [List.drop_append_of_le_length (by omega), List.take_append_of_le_length (by rw [List.length_drop]; omega)]
/-- A block of the rest is a block of the message. -/
theorem pad_rest (l : List UInt8) (j : Nat) : ((padS l).drop (64 * (l.length / 64 + j))).take 64 = ((restS l).drop (64 * j)).take 64 := by
  rw [padS_rest, List.drop_append, List.drop_of_length_le (by rw [List.length_take]; omega), List.nil_append, List.length_take, show 64 * (l.length / 64 + j) - min (l.length / 64 * 64) l.length = 64 * j by omega]

theorem sha_len (l : List UInt8) : (shaS l).length = 32 := by simp [shaS, bytesS]
/-- The bytes of a state as they fill. -/
def outS (l : List Nat) (k : Nat) : List UInt8 := (bytesS l).take k ++ List.replicate (32 - k) 0
theorem bytesS_len (l : List Nat) : (bytesS l).length = 32 := by simp [bytesS]
theorem bytesS_get (l : List Nat) {k : Nat} (hk : k < 32) : (bytesS l)[k]? = some (UInt8.ofNat (l.getD (k / 4) 0 / 2 ^ (24 - k % 4 * 8) % 256)) := by
  simp [bytesS, hk]
theorem outS_zero (l : List Nat) : outS l 0 = List.replicate 32 0 := by simp [outS]
theorem outS_end (l : List Nat) : outS l 32 = bytesS l := by unfold outS; rw [List.take_of_length_le (by rw [bytesS_len]; exact Nat.le_refl _)]; simp
theorem outS_set (l : List Nat) {k : Nat} (hk : k < 32) : (outS l k).set k (UInt8.ofNat (l.getD (k / 4) 0 / 2 ^ (24 - k % 4 * 8) % 256)) = outS l (k + 1) := by
  have h1 : ((bytesS l).take k).length = k := by rw [List.length_take, bytesS_len]; omega
  unfold outS
  rw [List.set_append_right _ _ (by omega), h1, Nat.sub_self, show 32 - k = (32 - (k + 1)) + 1 by omega, List.replicate_succ, List.set_cons_zero, List.take_add_one, bytesS_get l hk]
  simp

end Go.Proofs.YtebgmlbbilcbbaaGreatDoor
