/- Joined by a program: LmA, LmB, LmC, LmD. -/
import Derived.Test.YtkpinmejfdnhbaaGreatDoorLwJ
import Derived.Test.YtkpinmejfdnhbaaGreatDoorPlainLi
set_option maxRecDepth 100000
set_option maxHeartbeats 2000000
namespace Go.Proofs.YtkpinmejfdnhbaaGreatDoor
open Go.RowKit Go.Shelf
attribute [local go_sem] Oper.semAt_some
theorem half_q (n : Nat) (h1 : 1 < n) (h2 : n ≤ 9223372036854775807) : RetS 132 #[.int .i64 (n : Int)] (.int .i64 ((halfT n : Nat) : Int)) := by
 intro w;have HF : Hid (halfGo (62 - 0) 1 n = halfT n) := Lib.hid (half_62 (by omega));generalize halfT n = r at *;go_enter Tryz.func132, Tryz.ntmps132;go_wp2_with fail
 go_loop [3, 4] (fun s3 s4 => ∃ i k : Nat, i ≤ 62 ∧ 1 ≤ k ∧ k ≤ n ∧ s4 = .int .i64 (i : Int) ∧ s3 = .int .i64 (k : Int) ∧ Hid (halfGo (62 - i) k n = r)) (fun _ s4 => 62 - (intOf s4).toNat)
 case atStart => exact ⟨0, 1, by omega, by omega, by omega, rfl, rfl, HF⟩
 case round =>
  clear HF;obtain ⟨i, k, hi, hk, hkn, rfl, rfl, HX⟩ := hrel
  by_cases hlt : i < 62
  ·have hlt' : (i : Int) < 62 := by omega
   by_cases hc : k < n - k
   ·have hc' : (k : Int) < (n : Int) - (k : Int) := by omega
    have HY : Hid (halfGo (62 - (i + 1)) (2 * k) n = r) := Lib.hid (by
     rw [← HX.out, show 62 - i = (62 - (i + 1)) + 1 by omega]
     exact (if_pos hc).symm)
    go_wp2_with fail;go_round
    case rel => exact ⟨i + 1, 2 * k, by omega, by omega, by omega, by go_num, by go_num, HY⟩
    case measure => simp [intOf]; omega
   ·have hc' : ¬ (k : Int) < (n : Int) - (k : Int) := by omega
    have HY : Hid (halfGo (62 - (i + 1)) k n = r) := Lib.hid (by rw [← HX.out, halfGo_stop hc, halfGo_stop hc]);go_wp2_with fail;go_round
    case rel => exact ⟨i + 1, k, by omega, by omega, by omega, by go_num, rfl, HY⟩
    case measure => simp [intOf]; omega
  ·obtain rfl : i = 62 := by omega
   have hr : k = r := HX.out;subst hr;go_wp2_with fail;go_ret;exact ⟨rfl, rfl⟩
theorem rHalf_q (n : Nat) (h1 : 1 < n) (h2 : n ≤ 9223372036854775807) : RetS 68 #[.int .i64 (n : Int)] (.int .i64 ((halfT n : Nat) : Int)) := by
 intro w;have HF : Hid (halfGo 64 1 n = halfT n ∧ n ≤ 2 ^ 64 * 1) := Lib.hid ⟨rfl, by omega⟩;generalize halfT n = r at *;go_enter Tryz.func68, Tryz.ntmps68;go_wp2_with fail
 go_loop [3] (fun s3 => ∃ f k : Nat, 1 ≤ k ∧ k ≤ n ∧ s3 = .int .i64 (k : Int) ∧ Hid (halfGo f k n = r ∧ n ≤ 2 ^ f * k)) (fun s3 => n - (intOf s3).toNat)
 case atStart => exact ⟨64, 1, by omega, by omega, rfl, HF⟩
 case round =>
  clear HF;obtain ⟨f, k, hk, hkn, rfl, HX⟩ := hrel
  by_cases hc : k < n - k
  ·have hc' : (k : Int) < (n : Int) - (k : Int) := by omega
   have HY : Hid (∃ g, halfGo g (2 * k) n = r ∧ n ≤ 2 ^ g * (2 * k)) := Lib.hid (by
    cases f with
    | zero => have := HX.out.2; rw [Nat.pow_zero, Nat.one_mul] at this; omega
    | succ f => exact ⟨f, by rw [← HX.out.1]; exact (if_pos hc).symm, by have := HX.out.2; rw [Nat.pow_succ] at this; rw [← Nat.mul_assoc]; exact this⟩)
   go_wp2_with fail;go_round
   case rel => exact HY.out.elim fun g hg => ⟨g, 2 * k, by omega, by omega, by go_num, Lib.hid hg⟩
   case measure => simp [intOf]; omega
  ·have hc' : ¬ (k : Int) < (n : Int) - (k : Int) := by omega
   have hr : k = r := by rw [← HX.out.1, halfGo_stop hc]
   subst hr;go_wp2_with fail;go_ret;exact ⟨rfl, rfl⟩
theorem leafT_len (s : List UInt8) : (leafT s).length = 32 := sha_len _
theorem nodeT_len (a b : List UInt8) : (nodeT a b).length = 32 := sha_len _
theorem rLeaf_q (s : ByteArray) (hs : s.size ≤ 900000) : Ret 69 #[.string s] (.agg (u8a (leafT s.data.toList))) := by
 intro w;have ht : ((⟨#[0]⟩ : ByteArray) ++ s).size = 1 + s.size := by rw [ByteArray.size_append]; rfl
 have m1 := Lib.hid (fun W => rSum_any ((⟨#[0]⟩ : ByteArray) ++ s) W (by omega));rw [show ((⟨#[0]⟩ : ByteArray) ++ s).data.toList = 0 :: s.data.toList by rw [ByteArray.data_append, Array.toList_append]; rfl] at m1;unfold leafT;have hsz : (u8a (shaS (0 :: s.data.toList))).size = 32 := u8a_len (sha_len _);generalize shaS (0 :: s.data.toList) = g at *;have n1 : (9223372036854775807 < 1 + s.size) = False := by simp only [eq_iff_iff, iff_false]; omega
 go_enter Tryz.func69, Tryz.ntmps69;go_upto_region 1 with fail;refine name1 (u8a zero32) rfl ?_;intro W0 k2 hB;obtain ⟨p, hp⟩ := exq w.heap.size;have hpB : w.heap.size ≤ p := Nat.le_of_eq hp.symm;rw [← hp] at k2 ⊢;clear hp
 go_wp2_with (first
  | (go_at_call 65; (with_reducible refine (m1.out _).mono ?_); rintro e w2 ⟨rfl, hb⟩; replace k2 := k2.below hb k2.lt; replace hB := below_then hB hb; clear hb)
  | (refine wpList_store_rowTo rfl 38 _ _ rfl rfl _ (u8a g) rfl rfl _ _ k2 (by rw [hsz]; kernel_rfl) (by rw [hsz]; rfl) (u8a_one _) ?_))
 refine bodyPost_ret (results_cell_row (p := 2) (ty := 38) rfl _ _ p _ (u8a g) (0, 0) _ rfl (k2.rowA _) Tryz.underlying38 rfl (by rw [hsz]; kernel_rfl)) rfl ?_;exact ⟨rfl, below_setRow hB (by omega) _⟩
theorem Leaf_q (s : ByteArray) (hs : s.size ≤ 900000) : RetT 131 #[.string s] (.agg (u8a (leafT s.data.toList))) := by
 intro w hT;have ht : ((⟨#[0]⟩ : ByteArray) ++ s).size = 1 + s.size := by rw [ByteArray.size_append]; rfl
 have m1 := Lib.hid (fun W (hT : Tabs W) => Sum_any ((⟨#[0]⟩ : ByteArray) ++ s) W (by omega) hT.k hT.f);rw [show ((⟨#[0]⟩ : ByteArray) ++ s).data.toList = 0 :: s.data.toList by rw [ByteArray.data_append, Array.toList_append]; rfl] at m1;unfold leafT;have hsz : (u8a (shaS (0 :: s.data.toList))).size = 32 := u8a_len (sha_len _);generalize shaS (0 :: s.data.toList) = g at *;have n1 : (9223372036854775807 < 1 + s.size) = False := by simp only [eq_iff_iff, iff_false]; omega
 have HT := Lib.hid hT;clear hT;go_enter Tryz.func131, Tryz.ntmps131;go_upto_region 1 with fail;refine name1 (u8a zero32) rfl ?_;intro W0 k2 hB;obtain ⟨p, hp⟩ := exq w.heap.size;have hpB : w.heap.size ≤ p := Nat.le_of_eq hp.symm;rw [← hp] at k2 ⊢;clear hp
 go_wp2_with (first
  | (go_at_call 107; (with_reducible refine (m1.out _ (HT.out.below hB)).mono ?_); rintro e w2 ⟨rfl, hb⟩; replace k2 := k2.below hb k2.lt; replace hB := below_then hB hb; clear hb)
  | (refine wpList_store_rowTo rfl 38 _ _ rfl rfl _ (u8a g) rfl rfl _ _ k2 (by rw [hsz]; kernel_rfl) (by rw [hsz]; rfl) (u8a_one _) ?_))
 refine bodyPost_ret (results_cell_row (p := 2) (ty := 38) rfl _ _ p _ (u8a g) (0, 0) _ rfl (k2.rowA _) Tryz.underlying38 rfl (by rw [hsz]; kernel_rfl)) rfl ?_;exact ⟨rfl, below_setRow hB (by omega) _⟩
theorem name3e {P : Program} {code : Code} {Q : Exit → Act → World → Prop} {act : Act} {W : World} {t1 t2 t3 : TypeId} {c1 c2 c3 : Array Value} (d1 d2 d3 : Array Value) (e1 : c1 = d1) (e2 : c2 = d2) (e3 : c3 = d3)
 (h : ∀ W0 : World, Blk W0 W.heap.size t1 d1 → Blk W0 (W.heap.size + 1) t2 d2 → Blk W0 (W.heap.size + 1 + 1) t3 d3 → Below W.heap.size W W0 → code.wp P Q act W0) : code.wp P Q act (((W.alloc (.cells c1 t1)).alloc (.cells c2 t2)).alloc (.cells c3 t3)) := by
 subst e1 e2 e3;refine h _ (((Blk.new _ _ _).alloc _).alloc _) ?_ ?_ (below_al (below_al (below_al (Below.refl _ _) _) _) _)
 ·have := (Blk.new (W.alloc (.cells c1 t1)) t2 c2).alloc (.cells c3 t3);rwa [World.size_alloc] at this
 ·have := Blk.new ((W.alloc (.cells c1 t1)).alloc (.cells c2 t2)) t3 c3;rwa [World.size_alloc, World.size_alloc] at this
def CvStr (Z : World) (p : Nat) (s : ByteArray) : Prop := (convert 116 9 (.slice (some ⟨p, 0, none⟩) 32 32)).run Tryz.prog Z = .ok (.string s) Z
theorem cv_of {Z : World} {p : Nat} {t : TypeId} {a : List UInt8} (k : Blk Z p t (u8a a)) (ha : a.length = 32) : CvStr Z p (strB a) :=
 run_bdg_str ⟨ha, Nat.le_refl _, fun _ => ⟨p, 0, rfl, fun j d hd => by rw [Nat.zero_add]; exact k.u8A hd⟩⟩
theorem node_parts (a b : List UInt8) (ha : a.length = 32) (hb : b.length = 32) : ∃ sa sb : ByteArray, (∀ (Z : World) (p : Nat), Blk Z p 38 (u8a a) → Blk Z (p + 1) 38 (u8a b) → CvStr Z p sa ∧ CvStr Z (p + 1) sb) ∧ sa.size = 32 ∧ sb.size = 32 ∧ (((⟨#[1]⟩ : ByteArray) ++ sa) ++ sb).data.toList = 1 :: (a ++ b) :=
 ⟨strB a, strB b, fun Z p k1 k2 => ⟨cv_of k1 ha, cv_of k2 hb⟩, by rw [strB_size, ha], by rw [strB_size, hb], by rw [ByteArray.data_append, ByteArray.data_append, Array.toList_append, Array.toList_append, strB_list, strB_list]; simp⟩
theorem range_below {w w' : World} {b o : Nat} {cs : List Value} (h : w.rangeAt b o cs) (hb : Below w.heap.size w w') : w'.rangeAt b o cs := fun j v hv => cell_b hb (h j v hv)
theorem rNode_q (a b : List UInt8) (ha : a.length = 32) (hb : b.length = 32) : Ret 70 #[.agg (u8a a), .agg (u8a b)] (.agg (u8a (nodeT a b))) := by
 intro w;obtain ⟨sa, sb, hA, ha2, hb2, hd⟩ := node_parts a b ha hb;have m1 := Lib.hid (fun W => rSum_any ((⟨#[1]⟩ ++ sa) ++ sb) W (by rw [ByteArray.size_append, ByteArray.size_append]; show 1 + sa.size + sb.size ≤ _; omega));rw [hd] at m1;rw [show (nodeT a b) = shaS (1 :: (a ++ b)) from rfl];have hsz : (u8a (shaS (1 :: (a ++ b)))).size = 32 := u8a_len (sha_len _);generalize shaS (1 :: (a ++ b)) = g at *;clear hd ha hb;generalize u8a a = ca at *;generalize u8a b = cb at *;have n1 : (9223372036854775807 < 1 + sa.size) = False := by simp only [eq_iff_iff, iff_false]; omega
 have n2 : (9223372036854775807 < 1 + sa.size + sb.size) = False := by simp only [eq_iff_iff, iff_false]; omega
 have n3 : (9223372036854775807 < 1 + (sa.size + sb.size)) = False := by simp only [eq_iff_iff, iff_false]; omega
 go_enter Tryz.func70, Tryz.ntmps70;go_upto_region 1 with fail;refine name3e ca cb (u8a zero32) rfl rfl rfl ?_;intro W0 k1 k2 k3 hB;obtain ⟨p, hp⟩ := exq w.heap.size;have hpB : w.heap.size ≤ p := Nat.le_of_eq hp.symm;rw [← hp] at k1 k2 k3 ⊢;clear hp;have hS := hA W0.drew p k1 k2;have kd : Blk W0.drew (p + 1 + 1) 38 (u8a zero32) := k3;replace hB := hB.drew;clear k1 k2 k3 hA;refine region_here (fun Z : World => CvStr Z p sa ∧ CvStr Z (p + 1) sb) 5 (by kernel_rfl) hS (fun hHeld => ?_);generalize W0.drew = V at *;have k3 := kd;clear hS kd;refine tkT 0 rfl ?_;refine tkV 1 (.string sa) rfl (Or.inl ⟨by rfl, by intro Z hZ; have h1 := hZ.1; clear hZ; unfold CvStr at h1; go_simp; try with_reducible rfl⟩) ?_;refine tkT 2 rfl ?_;refine tkT 3 rfl ?_;refine tkV 4 (.string sb) rfl (Or.inl ⟨by rfl, by intro Z hZ; have h1 := hZ.2; clear hZ; unfold CvStr at h1; go_simp; try with_reducible rfl⟩) ?_;refine tkK 5 rfl fun K hK => ?_;go_simp;refine hK.out _ _ ?_;clear hK K
 try simp only [Act.put, pq1, pq2, pq3]
 refine tkR 6 rfl fun K hK => ?_;go_simp;go_at_call 65
 (with_reducible refine (m1.out _).mono ?_)
 rintro e wa ⟨rfl, hb⟩;replace k3 := k3.below hb k3.lt;replace hB := below_then hB hb;clear hb;refine hK _ _ ?_;clear hK K
 try simp only [Act.put, pq1, pq2, pq3]
 refine tkR 7 rfl fun K hK => ?_;rw [if_pos (by rfl)];refine wp_store_row 38 _ _ rfl _ (u8a g) rfl rfl _ _ k3 (by rw [hsz]; exact hash_size) (by rw [hsz]; rfl) (u8a_one _) ?_;refine hK _ _ ?_;clear hK K
 try simp only [Act.put]
 refine tkD ?_;go_wp2_with fail;refine bodyPost_ret (results_cell_row (p := 4) (ty := 38) rfl _ _ (p + 1 + 1) _ (u8a g) (0, 0) _ rfl (k3.rowA _) Tryz.underlying38 rfl (by rw [hsz]; exact hash_size)) rfl ?_;exact ⟨rfl, below_setRow hB (by omega) _⟩
theorem Node_q (a b : List UInt8) (ha : a.length = 32) (hb : b.length = 32) : RetT 133 #[.agg (u8a a), .agg (u8a b)] (.agg (u8a (nodeT a b))) := by
 intro w hT;obtain ⟨sa, sb, hA, ha2, hb2, hd⟩ := node_parts a b ha hb;have m1 := Lib.hid (fun W (hT : Tabs W) => Sum_any ((⟨#[1]⟩ ++ sa) ++ sb) W (by rw [ByteArray.size_append, ByteArray.size_append]; show 1 + sa.size + sb.size ≤ _; omega) hT.k hT.f);rw [hd] at m1;rw [show (nodeT a b) = shaS (1 :: (a ++ b)) from rfl];have hsz : (u8a (shaS (1 :: (a ++ b)))).size = 32 := u8a_len (sha_len _);generalize shaS (1 :: (a ++ b)) = g at *;clear hd ha hb;generalize u8a a = ca at *;generalize u8a b = cb at *;have n1 : (9223372036854775807 < 1 + sa.size) = False := by simp only [eq_iff_iff, iff_false]; omega
 have n2 : (9223372036854775807 < 1 + sa.size + sb.size) = False := by simp only [eq_iff_iff, iff_false]; omega
 have n3 : (9223372036854775807 < 1 + (sa.size + sb.size)) = False := by simp only [eq_iff_iff, iff_false]; omega
 have HT := Lib.hid hT;clear hT;go_enter Tryz.func133, Tryz.ntmps133;go_upto_region 1 with fail;refine name3e ca cb (u8a zero32) rfl rfl rfl ?_;intro W0 k1 k2 k3 hB;obtain ⟨p, hp⟩ := exq w.heap.size;have hpB : w.heap.size ≤ p := Nat.le_of_eq hp.symm;rw [← hp] at k1 k2 k3 ⊢;clear hp;have hS := hA W0.drew p k1 k2;have kd : Blk W0.drew (p + 1 + 1) 38 (u8a zero32) := k3;replace hB := hB.drew;clear k1 k2 k3 hA;refine region_here (fun Z : World => CvStr Z p sa ∧ CvStr Z (p + 1) sb) 5 (by kernel_rfl) hS (fun hHeld => ?_);generalize W0.drew = V at *;have k3 := kd;clear hS kd;refine tkT 0 rfl ?_;refine tkV 1 (.string sa) rfl (Or.inl ⟨by rfl, by intro Z hZ; have h1 := hZ.1; clear hZ; unfold CvStr at h1; go_simp; try with_reducible rfl⟩) ?_;refine tkT 2 rfl ?_;refine tkT 3 rfl ?_;refine tkV 4 (.string sb) rfl (Or.inl ⟨by rfl, by intro Z hZ; have h1 := hZ.2; clear hZ; unfold CvStr at h1; go_simp; try with_reducible rfl⟩) ?_;refine tkK 5 rfl fun K hK => ?_;go_simp;refine hK.out _ _ ?_;clear hK K
 try simp only [Act.put, pq1, pq2, pq3]
 refine tkR 6 rfl fun K hK => ?_;go_simp;go_at_call 107
 (with_reducible refine (m1.out _ (HT.out.below hB)).mono ?_)
 rintro e wa ⟨rfl, hb⟩;replace k3 := k3.below hb k3.lt;replace hB := below_then hB hb;clear hb;refine hK _ _ ?_;clear hK K
 try simp only [Act.put, pq1, pq2, pq3]
 refine tkR 7 rfl fun K hK => ?_;rw [if_pos (by rfl)];refine wp_store_row 38 _ _ rfl _ (u8a g) rfl rfl _ _ k3 (by rw [hsz]; exact hash_size) (by rw [hsz]; rfl) (u8a_one _) ?_;refine hK _ _ ?_;clear hK K
 try simp only [Act.put]
 refine tkD ?_;go_wp2_with fail;refine bodyPost_ret (results_cell_row (p := 4) (ty := 38) rfl _ _ (p + 1 + 1) _ (u8a g) (0, 0) _ rfl (k3.rowA _) Tryz.underlying38 rfl (by rw [hsz]; exact hash_size)) rfl ?_;exact ⟨rfl, below_setRow hB (by omega) _⟩
theorem Row.take_ {α : Type} {enc : α → List Value} {s b o n c : Nat} {w : World} {xs : List α} (h : Row enc s w (some ⟨b, o, none⟩) n c xs) {k : Nat} (hk : k ≤ n) : Row enc s w (some ⟨b, o, none⟩) k c (xs.take k) := by
 have hl := h.len;refine ⟨by rw [List.length_take]; omega, Nat.le_trans hk h.cap, fun h0 => ?_⟩;obtain ⟨b', o', e, hc⟩ := h.at_ (by omega);refine ⟨b', o', e, fun j i x u hx hu => ?_⟩;refine hc j i x u ?_ hu;rw [List.getElem?_take] at hx
 split at hx
 ·exact hx
 ·cases hx
theorem Row.drop_ {α : Type} {enc : α → List Value} {s b o n c : Nat} {w : World} {xs : List α} (h : Row enc s w (some ⟨b, o, none⟩) n c xs) {k : Nat} (hk : k ≤ n) : Row enc s w (some ⟨b, o + k * s, none⟩) (n - k) (c - k) (xs.drop k) := by
 have hl := h.len;have hc0 := h.cap;refine ⟨by rw [List.length_drop]; omega, by omega, fun h0 => ?_⟩;obtain ⟨b', o', e, hc⟩ := h.at_ (by omega)
 cases e
 refine ⟨b, o + k * s, rfl, fun j i x u hx hu => ?_⟩;rw [List.getElem?_drop] at hx;have := hc (k + j) i x u hx hu;rwa [Nat.add_mul, ← Nat.add_assoc] at this
theorem rdepth_q : ∀ (f i n : Nat), i < n → n ≤ 2 ^ f → f ≤ 63 → n ≤ 9223372036854775807 → RetS 189 #[.int .i64 (i : Int), .int .i64 (n : Int)] (.int .i64 ((depthT (f + 1) i n : Nat) : Int))
 | f, i, n, hi, hn, hf, hm => by
   intro w
   by_cases h1 : n ≤ 1
   ·have h1' : (n : Int) ≤ 1 := by omega
    have e : depthT (f + 1) i n = 0 := if_pos h1;rw [e];go_enter Tryz.func189, Tryz.ntmps189;go_wp2_with fail;go_ret;exact ⟨rfl, rfl⟩
   ·obtain ⟨f, rfl⟩ : ∃ g, f = g + 1 := ⟨f - 1, by cases f with | zero => rw [Nat.pow_zero] at hn; omega | succ f => rfl⟩;obtain ⟨q1, q2, q3, q4⟩ := half_parts (by omega) hn (by omega);have h1' : ¬ (n : Int) ≤ 1 := by omega
    have m1 := Lib.hid (rHalf_q n (by omega) hm);have e : depthT (f + 1 + 1) i n = if i < halfT n then 1 + depthT (f + 1) i (halfT n) else 1 + depthT (f + 1) (i - halfT n) (n - halfT n) := if_neg h1
    rw [e];clear e;have hd1 := depth_le (f + 1) i (halfT n);have hd2 := depth_le (f + 1) (i - halfT n) (n - halfT n);have m2 := Lib.hid (fun h => rdepth_q f i (halfT n) h q1 (by omega) (by omega));have m3 := Lib.hid (fun h => rdepth_q f (i - halfT n) (n - halfT n) h q2 (by omega) (by omega));generalize halfT n = k at *
    by_cases hk : i < k
    ·have hk' : (i : Int) < (k : Int) := by omega
     rw [if_pos hk];have m4 := Lib.hid (m2.out hk);generalize depthT (f + 1) i k = d at *;clear m2 m3 hd2;go_enter Tryz.func189, Tryz.ntmps189
     go_wp2_with (first
      | (go_at_call 68; (with_reducible refine (m1.out _).mono ?_); rintro e w2 ⟨rfl, hww⟩; obtain rfl := hww.symm)
      | (go_at_call 189; (with_reducible refine (m4.out _).mono ?_); rintro e w2 ⟨rfl, hww⟩; obtain rfl := hww.symm))
     go_ret;exact ⟨by go_num, rfl⟩
    ·have hk' : ¬ (i : Int) < (k : Int) := by omega
     rw [if_neg hk];obtain ⟨i2, hi2⟩ : ∃ a : Nat, a = i - k := ⟨_, rfl⟩;obtain ⟨n2, hn2⟩ : ∃ a : Nat, a = n - k := ⟨_, rfl⟩;have m4 := Lib.hid (m3.out (by omega));rw [← hi2, ← hn2] at m4 hd2 ⊢;have e1 : (i : Int) - (k : Int) = (i2 : Int) := by omega
     have e2 : (n : Int) - (k : Int) = (n2 : Int) := by omega
     generalize depthT (f + 1) i2 n2 = d at *;clear m2 m3 hd1 hi2 hn2;go_enter Tryz.func189, Tryz.ntmps189
     go_wp2_with (first
      | (go_at_call 68; (with_reducible refine (m1.out _).mono ?_); rintro e w2 ⟨rfl, hww⟩; obtain rfl := hww.symm)
      | (go_at_call 189; (with_reducible refine (m4.out _).mono ?_); rintro e w2 ⟨rfl, hww⟩; obtain rfl := hww.symm))
     go_ret;exact ⟨by go_num, rfl⟩
termination_by f => f
theorem upT_len {f : Nat} {x : List UInt8} {i n : Nat} {p : List (List UInt8)} (hx : x.length = 32) : (upT f x i n p).length = 32 := by
 cases f with
 | zero => exact hx
 | succ f =>
   unfold upT
   split
   ·exact hx
   ·split <;> exact nodeT_len _ _
theorem rup_q : ∀ (f i n : Nat) (x : List UInt8) (A : Option Addr) (m c : Nat) (ps : List (List UInt8)), x.length = 32 → i < n → n ≤ 2 ^ f → f ≤ 63 → n ≤ 9223372036854775807 → m ≤ 1000 → m = depthT (f + 1) i n → (∀ y ∈ ps, y.length = 32) → ∀ w : World, RowH w A m c ps →
 Calls Tryz.prog 190 #[.agg (u8a x), .int .i64 (i : Int), .int .i64 (n : Int), .slice A m c] w fun e w' => e = .returned (.agg (u8a (upT (f + 1) x i n ps))) ∧ Below w.heap.size w w'
 | f, i, n, x, A, m, c, ps, hx, hi, hn, hf, hm, hmk, hd, hps, w, hrow => by
   have HX := Lib.hid hx;have hsx : (u8a x).size = 32 := u8a_len hx
   by_cases h1 : n ≤ 1
   ·have h1' : (n : Int) ≤ 1 := by omega
    have e : upT (f + 1) x i n ps = x := if_pos h1;rw [e];clear e hd hps hrow;go_enter Tryz.func190, Tryz.ntmps190;go_upto_region 1 with fail;refine name2e (u8a x) (u8a zero32) rfl rfl ?_;intro W0 k1 k2 hB _;obtain ⟨p, hp⟩ := exq w.heap.size;have hpB : w.heap.size ≤ p := Nat.le_of_eq hp.symm;rw [← hp] at k1 k2 ⊢;clear hp
    go_wp2_with (first
     | (refine wpList_load_mid rfl 38 _ rfl p 0 rfl (u8l x) _ (hash_range k1) Tryz.underlying38 rfl (by rw [u8l_len, HX.out]; exact hash_size) ?_)
     | (refine wpList_store_rowTo rfl 38 _ _ rfl rfl _ (u8a x) rfl rfl _ _ k2 (by rw [hsx]; exact hash_size) (by rw [hsx]; rfl) (u8a_one _) ?_))
    refine bodyPost_ret (results_cell_row (p := 8) (ty := 38) rfl _ _ (p + 1) _ (u8a x) (0, 0) _ rfl (k2.rowA _) Tryz.underlying38 rfl (by rw [hsx]; exact hash_size)) rfl ?_;exact ⟨rfl, below_setRow hB (by omega) _⟩
   ·obtain ⟨f, rfl⟩ : ∃ g, f = g + 1 := ⟨f - 1, by cases f with | zero => rw [Nat.pow_zero] at hn; omega | succ f => rfl⟩;obtain ⟨q1, q2, q3, q4⟩ := half_parts (by omega) hn (by omega);have h1' : ¬ (n : Int) ≤ 1 := by omega
    have m1 := Lib.hid (rHalf_q n (by omega) hm);have e : upT (f + 1 + 1) x i n ps = if i < halfT n then nodeT (upT (f + 1) x i (halfT n) ps.dropLast) (ps.getLastD []) else nodeT (ps.getLastD []) (upT (f + 1) x (i - halfT n) (n - halfT n) ps.dropLast) := if_neg h1
    have ed : depthT (f + 1 + 1) i n = if i < halfT n then 1 + depthT (f + 1) i (halfT n) else 1 + depthT (f + 1) (i - halfT n) (n - halfT n) := if_neg h1
    rw [e];rw [ed] at hd;clear e ed;have hpl := hrow.len;have hm1 : 0 < m := by rw [hd]; split <;> omega
    obtain ⟨m', rfl⟩ : ∃ k, m = k + 1 := ⟨m - 1, by omega⟩;have elast : ps.getLastD [] = ps.getD m' [] := by rw [List.getLastD_eq_getLast?, List.getLast?_eq_getElem?, hpl, List.getD_eq_getElem?_getD]; rfl
    have erest : ps.dropLast = ps.take m' := by rw [List.dropLast_eq_take, hpl]; rfl
    obtain ⟨b, o, y, rfl, hy, hr5⟩ := rowH_range hrow (show m' < m' + 1 by omega);have hy32 := hps y (List.mem_of_getElem? hy);rw [elast, erest, List.getD_eq_getElem?_getD, hy, Option.getD_some];clear elast erest;have HY := Lib.hid hy32;have HRG := Lib.hid (hr5 hy32);have HR2 := Lib.hid (fun W (h : Below w.heap.size w W) => (Row.take_ hrow (show m' ≤ m' + 1 by omega)).below h);have hps2 : ∀ z ∈ ps.take m', z.length = 32 := fun z hz => hps z (List.mem_of_mem_take hz);have m2a := Lib.hid (fun h h2 W hW => rup_q f i (halfT n) x (some ⟨b, o, none⟩) m' c (ps.take m') hx h q1 (by omega) (by omega) (by omega) h2 hps2 W hW);have m2b := Lib.hid (fun h h2 W hW => rup_q f (i - halfT n) (n - halfT n) x (some ⟨b, o, none⟩) m' c (ps.take m') hx h q2 (by omega) (by omega) (by omega) h2 hps2 W hW);have hmc : m' ≤ c := by have := hrow.cap; omega
    have e3 : ((m' + 1 : Nat) : Int) - 1 = (m' : Int) := by omega
    have hsy : (u8a y).size = 32 := u8a_len hy32;generalize halfT n = k at *;have hCap := hrow.cap;have HD := Lib.hid hd;obtain ⟨R, hR⟩ := exq ((if i < k then nodeT (upT (f + 1) x i k (ps.take m')) y else nodeT y (upT (f + 1) x (i - k) (n - k) (ps.take m'))));rw [← hR];have HRR := Lib.hid hR;clear hR;clear hrow hy hps hr5 hps2 hpl hd hx;go_enter Tryz.func190, Tryz.ntmps190;go_upto_region 1 with fail;refine name2e (u8a x) (u8a zero32) rfl rfl ?_;intro W0 k1 k3 hB _;obtain ⟨p, hp⟩ := exq w.heap.size;have hpB : w.heap.size ≤ p := Nat.le_of_eq hp.symm;rw [← hp] at k1 k3 ⊢;clear hp;have hrg : W0.rangeAt b (o + m' * 32) (u8l y) := range_below HRG.out hB
    go_upto_region 5 with (first
     | (go_at_call 68; (with_reducible refine (m1.out _).mono ?_); rintro e w2 ⟨rfl, hww⟩; obtain rfl := hww.symm)
     | (refine wpList_load_mid rfl 38 _ rfl b (o + m' * 32) rfl (u8l y) _ hrg Tryz.underlying38 rfl (by rw [u8l_len, HY.out]; exact hash_size) ?_)
     | (refine wpList_store_rowTo rfl 38 _ _ rfl rfl _ (u8a y) rfl rfl _ _ (Blk.new _ _ _) (by rw [hsy]; exact hash_size) (by rw [hsy]; rfl) (u8a_one _) ?_))
    refine name1r ?_;intro W1 kg hB1;replace k1 := k1.below hB1 k1.lt;replace k3 := k3.below hB1 k3.lt;replace hB := below_then hB hB1;obtain ⟨g, hg⟩ := exq W0.heap.size;rw [← hg] at kg ⊢;clear hg hB1 hrg
    by_cases hk : i < k
    ·have hk' : (i : Int) < (k : Int) := by omega
     have hd := HD.out;have hR := HRR.out;rw [if_pos hk] at hd hR;clear HRR;have m2 := Lib.hid (m2a.out hk (by omega));have m3 := Lib.hid (fun W => rNode_q (upT (f + 1) x i k (ps.take m')) y (upT_len HX.out) HY.out W);rw [← hR] at m3;have hsz : (u8a R).size = 32 := by rw [hR]; exact u8a_len (nodeT_len _ _)
     clear hR;generalize upT (f + 1) x i k (ps.take m') = z at *;clear m2a m2b hd;go_upto_region 7 with fail;have k1d := k1.below (Below.refl _ _).drew k1.lt;have kgd := kg.below (Below.refl _ _).drew kg.lt;have k3d := k3.below (Below.refl _ _).drew k3.lt;replace hB := hB.drew;clear k1 kg k3;refine region_here (fun Z : World => Blk Z p 38 (u8a x) ∧ Blk Z g 38 (u8a y) ∧ Below w.heap.size w Z) 6 (by kernel_rfl) ⟨k1d, kgd, hB⟩ (fun hHeld => ?_);generalize W1.drew = V at *;have k3 := k3d;clear k1d kgd k3d hB;refine tkV 0 (.agg (u8a x)) rfl (yieldsIf_load_mid (by rfl) 38 (.tmp 4) rfl (p) 0 rfl (u8l x) _ (fun Z hZ => hash_range hZ.1) Tryz.underlying38 rfl (by rw [u8l_len, HX.out]; exact hash_size)) ?_;refine tkT 1 rfl ?_;refine tkT 2 rfl ?_;refine tkT 3 rfl ?_;refine tkV 5 (.agg (u8a y)) rfl (yieldsIf_load_mid (by rfl) 38 (.tmp 10) rfl (g) 0 rfl (u8l y) _ (fun Z hZ => hash_range hZ.2.1) Tryz.underlying38 rfl (by rw [u8l_len, HY.out]; exact hash_size)) ?_;refine tkO 4 rfl fun K hK => ?_;go_simp;go_at_call 190
     (with_reducible refine (m2.out _ (HR2.out _ hHeld.2.2)).mono ?_)
     rintro e wa ⟨rfl, hba⟩
     (try go_wp2_with fail)
     replace k3 := k3.below hba k3.lt;refine hK.out _ _ ?_ (fun hHeld4 => ?_)
     ·exact ⟨hHeld.1.below hba hHeld.1.lt, hHeld.2.1.below hba hHeld.2.1.lt, below_then hHeld.2.2 hba⟩
     clear hK K
     try simp only [Act.put, pq1, pq2, pq3]
     refine tkK 6 rfl fun K hK => ?_;go_simp;go_at_call 70
     (with_reducible refine (m3.out _).mono ?_)
     rintro e wc ⟨rfl, hbc⟩
     (try go_wp2_with fail)
     replace k3 := k3.below hbc k3.lt;have hB9 := below_then hHeld4.2.2 hbc;refine hK.out _ _ ?_;clear hK K
     try simp only [Act.put, pq1, pq2, pq3]
     refine tkR 7 rfl fun K hK => ?_;rw [if_pos (by rfl)];refine wp_store_row 38 _ _ rfl _ (u8a R) rfl rfl _ _ k3 (by rw [hsz]; exact hash_size) (by rw [hsz]; rfl) (u8a_one _) ?_;refine hK _ _ ?_;clear hK K
     try simp only [Act.put]
     refine tkD ?_;go_wp2_with fail;refine bodyPost_ret (results_cell_row (p := 8) (ty := 38) rfl _ _ (p + 1) _ (u8a R) (0, 0) _ rfl (k3.rowA _) Tryz.underlying38 rfl (by rw [hsz]; exact hash_size)) rfl ?_;exact ⟨rfl, below_setRow hB9 (by omega) _⟩
    ·have hk' : ¬ (i : Int) < (k : Int) := by omega
     have hd := HD.out;have hR := HRR.out;rw [if_neg hk] at hd hR;clear HRR;obtain ⟨i2, hi2⟩ : ∃ a : Nat, a = i - k := ⟨_, rfl⟩;obtain ⟨n2, hn2⟩ : ∃ a : Nat, a = n - k := ⟨_, rfl⟩;have m2 := Lib.hid (m2b.out (by omega) (by omega));rw [← hi2, ← hn2] at m2 hR;have e1 : (i : Int) - (k : Int) = (i2 : Int) := by omega
     have e2 : (n : Int) - (k : Int) = (n2 : Int) := by omega
     have w1 : IntKind.i64.wrap (i2 : Int) = (i2 : Int) := IntWalk.i64_in _ (by omega);have w2 : IntKind.i64.wrap (n2 : Int) = (n2 : Int) := IntWalk.i64_in _ (by omega);have m3 := Lib.hid (fun W => rNode_q y (upT (f + 1) x i2 n2 (ps.take m')) HY.out (upT_len HX.out) W);rw [← hR] at m3;have hsz : (u8a R).size = 32 := by rw [hR]; exact u8a_len (nodeT_len _ _)
     clear hR;generalize upT (f + 1) x i2 n2 (ps.take m') = z at *;clear m2a m2b hd hi2 hn2;go_upto_region 8 with fail;have k1d := k1.below (Below.refl _ _).drew k1.lt;have kgd := kg.below (Below.refl _ _).drew kg.lt;have k3d := k3.below (Below.refl _ _).drew k3.lt;replace hB := hB.drew;clear k1 kg k3;refine region_here (fun Z : World => Blk Z p 38 (u8a x) ∧ Blk Z g 38 (u8a y) ∧ Below w.heap.size w Z) 10 (by kernel_rfl) ⟨k1d, kgd, hB⟩ (fun hHeld => ?_);generalize W1.drew = V at *;have k3 := k3d;clear k1d kgd k3d hB;refine tkV 0 (.agg (u8a y)) rfl (yieldsIf_load_mid (by rfl) 38 (.tmp 10) rfl (g) 0 rfl (u8l y) _ (fun Z hZ => hash_range hZ.2.1) Tryz.underlying38 rfl (by rw [u8l_len, HY.out]; exact hash_size)) ?_;refine tkV 1 (.agg (u8a x)) rfl (yieldsIf_load_mid (by rfl) 38 (.tmp 4) rfl (p) 0 rfl (u8l x) _ (fun Z hZ => hash_range hZ.1) Tryz.underlying38 rfl (by rw [u8l_len, HX.out]; exact hash_size)) ?_;refine tkT 2 rfl ?_;refine tkT 3 rfl ?_;refine tkT 4 rfl ?_;refine tkT 5 rfl ?_;refine tkT 6 rfl ?_;refine tkT 7 rfl ?_;refine tkT 8 rfl ?_;refine tkO 9 rfl fun K hK => ?_;go_simp;go_at_call 190
     (with_reducible refine (m2.out _ (HR2.out _ hHeld.2.2)).mono ?_)
     rintro e wa ⟨rfl, hba⟩
     (try go_wp2_with fail)
     replace k3 := k3.below hba k3.lt;refine hK.out _ _ ?_ (fun hHeld9 => ?_)
     ·exact ⟨hHeld.1.below hba hHeld.1.lt, hHeld.2.1.below hba hHeld.2.1.lt, below_then hHeld.2.2 hba⟩
     clear hK K
     try simp only [Act.put, pq1, pq2, pq3]
     refine tkK 10 rfl fun K hK => ?_;go_simp;go_at_call 70
     (with_reducible refine (m3.out _).mono ?_)
     rintro e wc ⟨rfl, hbc⟩
     (try go_wp2_with fail)
     replace k3 := k3.below hbc k3.lt;have hB9 := below_then hHeld9.2.2 hbc;refine hK.out _ _ ?_;clear hK K
     try simp only [Act.put, pq1, pq2, pq3]
     refine tkR 11 rfl fun K hK => ?_;rw [if_pos (by rfl)];refine wp_store_row 38 _ _ rfl _ (u8a R) rfl rfl _ _ k3 (by rw [hsz]; exact hash_size) (by rw [hsz]; rfl) (u8a_one _) ?_;refine hK _ _ ?_;clear hK K
     try simp only [Act.put]
     refine tkD ?_;go_wp2_with fail;refine bodyPost_ret (results_cell_row (p := 8) (ty := 38) rfl _ _ (p + 1) _ (u8a R) (0, 0) _ rfl (k3.rowA _) Tryz.underlying38 rfl (by rw [hsz]; exact hash_size)) rfl ?_;exact ⟨rfl, below_setRow hB9 (by omega) _⟩
termination_by f => f
abbrev RowT (w : World) (A : Option Addr) (n c : Nat) (ss : List ByteArray) : Prop := Row encT 1 w A n c ss
def txs (ss : List ByteArray) : List (List UInt8) := ss.map fun s => s.data.toList
theorem txs_len (ss : List ByteArray) : (txs ss).length = ss.length := List.length_map ..
theorem txs_take (ss : List ByteArray) (k : Nat) : (txs ss).take k = txs (ss.take k) := List.map_take.symm
theorem txs_drop (ss : List ByteArray) (k : Nat) : (txs ss).drop k = txs (ss.drop k) := List.map_drop.symm
theorem rootT_len {f : Nat} {l : List (List UInt8)} : (rootT (f + 1) l).length = 32 := by
 unfold rootT
 split
 ·exact sha_len _
 ·split
  ·exact leafT_len _
  ·exact nodeT_len _ _
theorem rootT_step {f : Nat} {l : List (List UInt8)} (h : 1 < l.length) : rootT (f + 1) l = nodeT (rootT f (l.take (halfT l.length))) (rootT f (l.drop (halfT l.length))) :=
 (if_neg (by omega)).trans (if_neg (by omega))
theorem rRoot_q : ∀ (f n : Nat) (A : Option Addr) (c : Nat) (ss : List ByteArray), 0 < n → n ≤ 2 ^ f → f ≤ 63 → n ≤ 9223372036854775807 → (∀ s ∈ ss, s.size ≤ 900000) → ∀ w : World, RowT w A n c ss →
 Calls Tryz.prog 31 #[.slice A n c] w fun e w' => e = .returned (.agg (u8a (rootT (f + 1) (txs ss)))) ∧ Below w.heap.size w w'
 | f, n, A, c, ss, h0, hn, hf, hm, hs, w, hrow => by
   have hl := hrow.len;obtain ⟨b, o, rfl, hc⟩ := hrow.at_ h0;have hc0 := hrow.cap;have g0 : ((n : Int) == 0) = false := by rw [beq_eq_false_iff_ne]; omega
   have g0' : ¬ (n : Int) = 0 := by omega
   by_cases h1 : n = 1
   ·subst h1;obtain ⟨s, hs0⟩ : ∃ s, ss = [s] := List.length_eq_one_iff.1 hl;subst hs0;have hsz0 := hs s (List.mem_singleton.2 rfl);have c0 : w.cell? ⟨b, o, none⟩ = some (.string s) := by have := hc 0 0 s (.string s) rfl rfl; rwa [Nat.zero_mul] at this
    have m1 := Lib.hid (fun W => rLeaf_q s hsz0 W);rw [show rootT (f + 1) (txs [s]) = leafT s.data.toList from rfl];have hsz : (u8a (leafT s.data.toList)).size = 32 := u8a_len (leafT_len _);generalize leafT s.data.toList = r at *;clear hrow hc hs hl hn;go_enter Tryz.func31, Tryz.ntmps31;go_upto_region 1 with fail;refine name1 (u8a zero32) rfl ?_;intro W0 k2 hB;obtain ⟨p, hp⟩ := exq w.heap.size;have hpB : w.heap.size ≤ p := Nat.le_of_eq hp.symm;rw [← hp] at k2 ⊢;clear hp;replace c0 := cell_b hB c0
    go_wp2_with (first
     | (go_at_call 69; (with_reducible refine (m1.out _).mono ?_); rintro e w2 ⟨rfl, hb⟩; replace k2 := k2.below hb k2.lt; replace hB := below_then hB hb; clear hb)
     | (refine wpList_store_rowTo rfl 38 _ _ rfl rfl _ (u8a r) rfl rfl _ _ k2 (by rw [hsz]; exact hash_size) (by rw [hsz]; rfl) (u8a_one _) ?_))
    refine bodyPost_ret (results_cell_row (p := 2) (ty := 38) rfl _ _ p _ (u8a r) (0, 0) _ rfl (k2.rowA _) Tryz.underlying38 rfl (by rw [hsz]; exact hash_size)) rfl ?_;exact ⟨rfl, below_setRow hB (by omega) _⟩
   ·obtain ⟨f, rfl⟩ : ∃ g, f = g + 1 := ⟨f - 1, by cases f with | zero => rw [Nat.pow_zero] at hn; omega | succ f => rfl⟩;obtain ⟨q1, q2, q3, q4⟩ := half_parts (by omega) hn (by omega);have g1' : ¬ (n : Int) = 1 := by omega
    have m1 := Lib.hid (rHalf_q n (by omega) hm);have e : rootT (f + 1 + 1) (txs ss) = nodeT (rootT (f + 1) (txs (ss.take (halfT n)))) (rootT (f + 1) (txs (ss.drop (halfT n)))) := by
     rw [← txs_take, ← txs_drop, ← hl, ← txs_len ss];exact rootT_step (by rw [txs_len]; omega)
    rw [e];clear e;have m2 := Lib.hid (fun W hW => rRoot_q f (halfT n) (some ⟨b, o, none⟩) c (ss.take (halfT n)) (by omega) q1 (by omega) (by omega) (fun s h => hs s (List.mem_of_mem_take h)) W hW);have m3 := Lib.hid (fun W hW => rRoot_q f (n - halfT n) (some ⟨b, o + halfT n, none⟩) (c - halfT n) (ss.drop (halfT n)) (by omega) q2 (by omega) (by omega) (fun s h => hs s (List.mem_of_mem_drop h)) W hW);have HR2 := Lib.hid (fun W (h : Below w.heap.size w W) => And.intro ((Row.take_ hrow (show halfT n ≤ n by omega)).below h) ((Row.drop_ hrow (show halfT n ≤ n by omega)).below h));have mN := Lib.hid (fun W => rNode_q (rootT (f + 1) (txs (ss.take (halfT n)))) (rootT (f + 1) (txs (ss.drop (halfT n)))) rootT_len rootT_len W);have hsz : (u8a (nodeT (rootT (f + 1) (txs (ss.take (halfT n)))) (rootT (f + 1) (txs (ss.drop (halfT n)))))).size = 32 := u8a_len (nodeT_len _ _);generalize halfT n = k at *;generalize nodeT (rootT (f + 1) (txs (ss.take k))) (rootT (f + 1) (txs (ss.drop k))) = r at *;generalize rootT (f + 1) (txs (ss.take k)) = ra at *;generalize rootT (f + 1) (txs (ss.drop k)) = rb at *;rw [Nat.mul_one] at HR2;have hck : ¬ c = k := by omega
    have hkc : k ≤ c := by omega
    have hkn : k ≤ n := by omega
    clear hrow hc hs hl hn;go_enter Tryz.func31, Tryz.ntmps31;go_upto_region 1 with fail;refine name1 (u8a zero32) rfl ?_;intro W0 k3 hB;obtain ⟨p, hp⟩ := exq w.heap.size;have hpB : w.heap.size ≤ p := Nat.le_of_eq hp.symm;rw [← hp] at k3 ⊢;clear hp;go_upto_region 6 with (go_at_call 68; (with_reducible refine (m1.out _).mono ?_); rintro e w2 ⟨rfl, hww⟩; obtain rfl := hww.symm);have k3d := k3.below (Below.refl _ _).drew k3.lt;replace hB := hB.drew;clear k3;refine region_here (fun Z : World => Below w.heap.size w Z) 8 (by kernel_rfl) hB (fun hHeld => ?_);generalize W0.drew = V at *;have k3 := k3d;clear k3d hB;refine tkT 0 rfl ?_;refine tkT 1 rfl ?_;refine tkT 2 rfl ?_;refine tkT 4 rfl ?_;refine tkT 5 rfl ?_;refine tkT 6 rfl ?_;refine tkO 3 rfl fun K hK => ?_;go_simp;go_at_call 31
    (with_reducible refine (m2.out _ (HR2.out _ hHeld).1).mono ?_)
    rintro e wa ⟨rfl, hbwa⟩
    (try go_wp2_with fail)
    replace k3 := k3.below hbwa k3.lt;refine hK.out _ _ ?_ (fun hHeld3 => ?_)
    ·exact below_then hHeld hbwa
    clear hK K
    try simp only [Act.put, pq1, pq2, pq3]
    refine tkO 7 rfl fun K hK => ?_;go_simp;go_at_call 31
    (with_reducible refine (m3.out _ (HR2.out _ hHeld3).2).mono ?_)
    rintro e wb ⟨rfl, hbwb⟩
    (try go_wp2_with fail)
    replace k3 := k3.below hbwb k3.lt;refine hK.out _ _ ?_ (fun hHeld7 => ?_)
    ·exact below_then hHeld3 hbwb
    clear hK K
    try simp only [Act.put, pq1, pq2, pq3]
    refine tkK 8 rfl fun K hK => ?_;go_simp;go_at_call 70
    (with_reducible refine (mN.out _).mono ?_)
    rintro e wc ⟨rfl, hbwc⟩
    (try go_wp2_with fail)
    replace k3 := k3.below hbwc k3.lt;have hB9 := below_then hHeld7 hbwc;refine hK.out _ _ ?_;clear hK K
    try simp only [Act.put, pq1, pq2, pq3]
    refine tkR 9 rfl fun K hK => ?_;rw [if_pos (by rfl)];refine wp_store_row 38 _ _ rfl _ (u8a r) rfl rfl _ _ k3 (by rw [hsz]; exact hash_size) (by rw [hsz]; rfl) (u8a_one _) ?_;refine hK _ _ ?_;clear hK K
    try simp only [Act.put]
    refine tkD ?_;go_wp2_with fail;refine bodyPost_ret (results_cell_row (p := 2) (ty := 38) rfl _ _ p _ (u8a r) (0, 0) _ rfl (k3.rowA _) Tryz.underlying38 rfl (by rw [hsz]; exact hash_size)) rfl ?_;exact ⟨rfl, below_setRow hB9 (by omega) _⟩
termination_by f => f
def PathPost (l : List (List UInt8)) (w : World) (e : Ending) (w' : World) : Prop := ∃ v, e = .returned (.tuple #[v, .bool true]) ∧ OwnH w.heap.size w' v l ∧ Below w.heap.size w w'
theorem pathT_32 : ∀ (f : Nat) (l : List (List UInt8)) (i : Nat), l.length ≤ 2 ^ f → f ≤ 63 → ∀ x ∈ pathT (f + 1) l i, x.length = 32
 | f, l, i, hl, hf => by
   intro x hx;unfold pathT at hx
   split at hx
   ·cases hx
   ·obtain ⟨f, rfl⟩ : ∃ g, f = g + 1 := ⟨f - 1, by cases f with | zero => rw [Nat.pow_zero] at hl; omega | succ f => rfl⟩;obtain ⟨q1, q2, -, -⟩ := half_parts (by omega) hl (by omega)
    split at hx
    ·rcases List.mem_append.1 hx with h | h
     ·exact pathT_32 f _ _ (by rw [List.length_take]; omega) (by omega) x h
     ·rw [List.mem_singleton.1 h]; exact rootT_len
    ·rcases List.mem_append.1 hx with h | h
     ·exact pathT_32 f _ _ (by rw [List.length_drop]; omega) (by omega) x h
     ·rw [List.mem_singleton.1 h]; exact rootT_len
termination_by f => f
theorem rPath_q : ∀ (f n i : Nat) (A : Option Addr) (c : Nat) (ss : List ByteArray), i < n → n ≤ 2 ^ f → f ≤ 63 → n ≤ 9223372036854775807 → (∀ s ∈ ss, s.size ≤ 900000) → ∀ w : World, RowT w A n c ss →
 Calls Tryz.prog 30 #[.slice A n c, .int .i64 (i : Int)] w (PathPost (pathT (f + 1) (txs ss) i) w)
 | f, n, i, A, c, ss, hi, hn, hf, hm, hs, w, hrow => by
   have hl := hrow.len;obtain ⟨b, o, rfl, hc⟩ := hrow.at_ (by omega);have hc0 := hrow.cap;have g0 : ¬ (i : Int) < 0 := by omega
   have g1 : ¬ (n : Int) ≤ (i : Int) := by omega
   by_cases h1 : n = 1
   ·subst h1;have e : pathT (f + 1) (txs ss) i = [] := if_pos (by rw [txs_len, hl]; exact Nat.le_refl _);rw [e];have hB := Below.refl w.heap.size w;go_enter Tryz.func30, Tryz.ntmps30;go_wp2_with fail;go_ret2;exact ⟨_, rfl, OwnL.nil_ _ _ _ _ _, hB⟩
   ·obtain ⟨f, rfl⟩ : ∃ g, f = g + 1 := ⟨f - 1, by cases f with | zero => rw [Nat.pow_zero] at hn; omega | succ f => rfl⟩;obtain ⟨q1, q2, q3, q4⟩ := half_parts (by omega) hn (by omega);have g1' : ¬ (n : Int) = 1 := by omega
    have m1 := Lib.hid (rHalf_q n (by omega) hm);have e : pathT (f + 1 + 1) (txs ss) i = if i < halfT n then pathT (f + 1) (txs (ss.take (halfT n))) i ++ [rootT (f + 1) (txs (ss.drop (halfT n)))] else pathT (f + 1) (txs (ss.drop (halfT n))) (i - halfT n) ++ [rootT (f + 1) (txs (ss.take (halfT n)))] := by
     rw [← txs_take, ← txs_drop, ← hl, ← txs_len ss];exact if_neg (by rw [txs_len]; omega)
    rw [e];clear e;have hA : RowT w (some ⟨b, o, none⟩) (halfT n) c (ss.take (halfT n)) := Row.take_ hrow (show halfT n ≤ n by omega);have hD : RowT w (some ⟨b, o + halfT n, none⟩) (n - halfT n) (c - halfT n) (ss.drop (halfT n)) := by have := Row.drop_ hrow (show halfT n ≤ n by omega); rwa [Nat.mul_one] at this
    have hsA : ∀ s ∈ ss.take (halfT n), s.size ≤ 900000 := fun s h => hs s (List.mem_of_mem_take h);have hsD : ∀ s ∈ ss.drop (halfT n), s.size ≤ 900000 := fun s h => hs s (List.mem_of_mem_drop h);have hpA := fun h : i < halfT n => path_len f (txs (ss.take (halfT n))) i (by rw [txs_len, List.length_take]; omega) (by rw [txs_len, List.length_take]; omega) (by omega);have hpD := fun h : ¬ i < halfT n => path_len f (txs (ss.drop (halfT n))) (i - halfT n) (by rw [txs_len, List.length_drop]; omega) (by rw [txs_len, List.length_drop]; omega) (by omega);have hck : ¬ c = halfT n := by omega
    by_cases hk : i < halfT n
    ·have hk' : (i : Int) < (halfT n : Int) := by omega
     rw [if_pos hk];have m2 := Lib.hid (rPath_q f (halfT n) i (some ⟨b, o, none⟩) c (ss.take (halfT n)) hk q1 (by omega) (by omega) hsA w hA);have m3 := Lib.hid (fun W (h : Below w.heap.size w W) => rRoot_q f (n - halfT n) (some ⟨b, o + halfT n, none⟩) (c - halfT n) (ss.drop (halfT n)) (by omega) q2 (by omega) (by omega) hsD W (hD.below h));have hpl : (pathT (f + 1) (txs (ss.take (halfT n))) i).length ≤ 64 := by rw [hpA hk]; have := depth_le (f + 1) i (txs (ss.take (halfT n))).length; omega
     have HR := Lib.hid (rootT_len (f := f) (l := txs (ss.drop (halfT n))));generalize pathT (f + 1) (txs (ss.take (halfT n))) i = P at *;generalize rootT (f + 1) (txs (ss.drop (halfT n))) = r at *;generalize halfT n = k at *;have hkc : k ≤ c := by omega
     have hkn : k ≤ n := by omega
     clear hrow hc hs hl hn hpA hpD hA hD hsA hsD;have hB := Below.refl w.heap.size w;go_enter Tryz.func30, Tryz.ntmps30
     go_upto_region 8 with (first
      | (go_at_call 68; (with_reducible refine (m1.out _).mono ?_); rintro e w2 ⟨rfl, hww⟩; obtain rfl := hww.symm)
      | (go_at_call 30; (with_reducible refine m2.out.mono ?_); rintro e w2 ⟨v, rfl, ho, hb⟩; replace hB := below_then hB hb; clear hb m2))
     go_wp2_with (first
      | (go_at_call 31; (with_reducible refine (m3.out _ hB).mono ?_); rintro e w3 ⟨rfl, hb⟩; replace ho := ho.below hb; replace hB := below_then hB hb; clear hb)
      | (refine wpList_plain rfl fun K hK => wp_buildSliceTo 35 38 1 _ rfl Tryz.underlying35 (u8a r) (by simp [Act.eval]; exact hash_slice1 r HR.out) (hK _ _ ?_))
      | (refine wp_append_row (enc := encH) Tryz.underlying35 hash_info rfl (by decide) (by decide) rfl _ _ rfl r (by rw [encH_eq HR.out]; rfl) (encH_len _) (encH_one _) rfl ho rfl (by omega) hB.size ?_; intro v6 w6 ho6 hg6))
     go_ret2;exact ⟨_, rfl, ho6, hB.grown hg6 hB.size (own_high ho)⟩
    ·have hk' : ¬ (i : Int) < (halfT n : Int) := by omega
     rw [if_neg hk];have m2 := Lib.hid (rPath_q f (n - halfT n) (i - halfT n) (some ⟨b, o + halfT n, none⟩) (c - halfT n) (ss.drop (halfT n)) (by omega) q2 (by omega) (by omega) hsD w hD);have m3 := Lib.hid (fun W (h : Below w.heap.size w W) => rRoot_q f (halfT n) (some ⟨b, o, none⟩) c (ss.take (halfT n)) (by omega) q1 (by omega) (by omega) hsA W (hA.below h));have hpl : (pathT (f + 1) (txs (ss.drop (halfT n))) (i - halfT n)).length ≤ 64 := by rw [hpD hk]; have := depth_le (f + 1) (i - halfT n) (txs (ss.drop (halfT n))).length; omega
     have HR := Lib.hid (rootT_len (f := f) (l := txs (ss.take (halfT n))));generalize pathT (f + 1) (txs (ss.drop (halfT n))) (i - halfT n) = P at *;generalize rootT (f + 1) (txs (ss.take (halfT n))) = r at *;generalize halfT n = k at *;have hkc : k ≤ c := by omega
     have hkn : k ≤ n := by omega
     obtain ⟨i2, hi2⟩ : ∃ a : Nat, a = i - k := ⟨_, rfl⟩;rw [← hi2] at m2;have e3 : (i : Int) - (k : Int) = (i2 : Int) := by omega
     clear hrow hc hs hl hn hi2 hpA hpD hA hD hsA hsD;have hB := Below.refl w.heap.size w;go_enter Tryz.func30, Tryz.ntmps30
     go_upto_region 10 with (first
      | (go_at_call 68; (with_reducible refine (m1.out _).mono ?_); rintro e w2 ⟨rfl, hww⟩; obtain rfl := hww.symm)
      | (go_at_call 30; (with_reducible refine m2.out.mono ?_); rintro e w2 ⟨v, rfl, ho, hb⟩; replace hB := below_then hB hb; clear hb m2))
     go_wp2_with (first
      | (go_at_call 31; (with_reducible refine (m3.out _ hB).mono ?_); rintro e w3 ⟨rfl, hb⟩; replace ho := ho.below hb; replace hB := below_then hB hb; clear hb)
      | (refine wpList_plain rfl fun K hK => wp_buildSliceTo 35 38 1 _ rfl Tryz.underlying35 (u8a r) (by simp [Act.eval]; exact hash_slice1 r HR.out) (hK _ _ ?_))
      | (refine wp_append_row (enc := encH) Tryz.underlying35 hash_info rfl (by decide) (by decide) rfl _ _ rfl r (by rw [encH_eq HR.out]; rfl) (encH_len _) (encH_one _) rfl ho rfl (by omega) hB.size ?_; intro v6 w6 ho6 hg6))
     go_ret2;exact ⟨_, rfl, ho6, hB.grown hg6 hB.size (own_high ho)⟩
termination_by f => f
end Go.Proofs.YtkpinmejfdnhbaaGreatDoor
