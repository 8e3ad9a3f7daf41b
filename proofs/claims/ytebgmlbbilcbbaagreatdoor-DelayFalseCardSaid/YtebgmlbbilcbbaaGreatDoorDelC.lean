/- Delays: starts. -/
import Derived.Test.YtebgmlbbilcbbaaGreatDoorDelB
namespace Go.Proofs.YtebgmlbbilcbbaaGreatDoor
open Go.RowKit

theorem sval_of (l : List UInt8) : sval ⟨l.toArray⟩ = bv l := by unfold sval; simp
theorem run_nat_bytes {w : World} {A : Option Addr} {n c : Nat} {l : List UInt8} (h : BDg w A n c l) :
    (convert 22 25 (.slice A n c)).run Tryz.prog w = .ok (.string ⟨l.toArray⟩) w := by
  rw [run_convert_bytes_string w 22 25 5 _ _ _ Tryz.underlying22 Tryz.underlying5 Tryz.underlying25]
  rcases Nat.eq_zero_or_pos n with h0 | h0
  · subst h0
    have : l = [] := List.eq_nil_of_length_eq_zero h.len
    subst this
    cases A <;> rfl
  · obtain ⟨b, o, rfl, hc⟩ := h.at_ h0
    have hld := run_loadCells_list (P := Tryz.prog) w ⟨b, o, none⟩ ((l.map fun b : UInt8 => (b.toNat : Int)).map (Value.int .u8)) (fun j v hv => by
      rw [List.map_map, List.getElem?_map] at hv
      obtain ⟨d, hd, rfl⟩ := Option.map_eq_some_iff.1 hv
      rw [add_addr]
      exact hc j d hd)
    rw [List.length_map, List.length_map, h.len] at hld
    rw [run_bytesToString w _ n c _ hld, push_all]
    simp
theorem nameStored {P : Program} {code : Code} {Q : Exit → Act → World → Prop} {act : Act} {W : World} {t1 : TypeId} {c1 : Array Value} (cs : Array Value)
    (h : ∀ W0 : World, Blk W0 W.heap.size t1 cs → Below W.heap.size W W0 → code.wp P Q act W0) : code.wp P Q act ((W.alloc (.cells c1 t1)).setRow W.heap.size cs) :=
  h _ ((Blk.new W t1 c1).rowA cs) (below_setRow (below_al (Below.refl _ _) _) (Nat.le_refl _) _)
/-- What a text begins with. -/
def startL (l : List UInt8) : List UInt8 := [115, 116, 97, 114, 116, 47] ++ l
def startN (l : List UInt8) : Nat := bv (shaS (startL l)) % modN
set_option maxRecDepth 100000 in
set_option maxHeartbeats 1000000 in
theorem Start_q (s : ByteArray) (hs : s.size ≤ 900000) : RetT 38 #[.string s] (.string (natS (startN s.data.toList))) := by
  intro w hT
  obtain ⟨u, hu⟩ : ∃ u, u = (⟨#[115, 116, 97, 114, 116, 47]⟩ : ByteArray) ++ s := ⟨_, rfl⟩
  have hul : u.data.toList = startL s.data.toList := by rw [hu, ByteArray.data_append, Array.toList_append]; rfl
  have hus : u.size ≤ 1000000 := by rw [hu, ByteArray.size_append]; show 6 + s.size ≤ _; omega
  have hcat := hu.symm
  obtain ⟨h, hh⟩ : ∃ h, h = shaS (startL s.data.toList) := ⟨_, rfl⟩
  have hl : h.length = 32 := by rw [hh]; exact sha_len _
  have m1 : Hid (∀ W, Tabs W → Calls Tryz.prog 92 #[.string u] W fun e w' => e = .returned (.agg (u8a h)) ∧ Below W.heap.size W w') := Lib.hid (fun W hW => by rw [hh, ← hul]; exact Sum_any u W hus hW.k hW.f)
  have m2 : Hid (Ret 78 #[.string ⟨h.toArray⟩] (.string (natS (startN s.data.toList)))) := Lib.hid ((rest_q ⟨h.toArray⟩ (by show h.toArray.size ≤ _; simp [hl])).of (by rw [sval_of, hh]; rfl))
  generalize natS (startN s.data.toList) = r at m2 ⊢
  clear hu hul hh
  have HT := Lib.hid hT
  clear hT
  go_enter Tryz.func38, Tryz.ntmps38
  go_wp2_with fail
  refine (m1.out _ HT.out).mono ?_
  rintro e w1 ⟨rfl, hb1⟩
  have hsz : (u8a h).size = 32 := by simp [u8a, u8l, hl]
  go_upto_region 2 with (refine wpList_store_rowTo rfl 71 _ _ rfl rfl _ (u8a h) rfl rfl _ _ (Blk.new _ _ _) (by rw [hsz]; kernel_rfl) (by rw [hsz]; rfl) (u8a_one _) ?_)
  refine nameStored (u8a h) ?_
  intro W0 hk hb2
  have hcv := run_nat_bytes (hk.bdg (n := 32) (c := 32) hl (Nat.le_refl _))
  go_wp2_with fail
  refine (m2.out _).mono ?_
  rintro e w3 ⟨rfl, hb3⟩
  go_wp2_with fail
  go_ret
  exact ⟨rfl, below_then (below_then hb1 hb2) hb3⟩
set_option maxRecDepth 100000 in
set_option maxHeartbeats 1000000 in
theorem rStart_q (s : ByteArray) (hs : s.size ≤ 900000) : Ret 39 #[.string s] (.string (natS (startN s.data.toList))) := by
  intro w
  obtain ⟨u, hu⟩ : ∃ u, u = (⟨#[115, 116, 97, 114, 116, 47]⟩ : ByteArray) ++ s := ⟨_, rfl⟩
  have hul : u.data.toList = startL s.data.toList := by rw [hu, ByteArray.data_append, Array.toList_append]; rfl
  have hus : u.size ≤ 1000000 := by rw [hu, ByteArray.size_append]; show 6 + s.size ≤ _; omega
  have hcat := hu.symm
  obtain ⟨h, hh⟩ : ∃ h, h = shaS (startL s.data.toList) := ⟨_, rfl⟩
  have hl : h.length = 32 := by rw [hh]; exact sha_len _
  have m1 : Hid (∀ W : World, Calls Tryz.prog 64 #[.string u] W fun e w' => e = .returned (.agg (u8a h)) ∧ Below W.heap.size W w') := Lib.hid (fun W => by rw [hh, ← hul]; exact rSum_any u W hus)
  have m2 : Hid (Ret 18 #[.string ⟨h.toArray⟩] (.string (natS (startN s.data.toList)))) := Lib.hid ((rRest_q ⟨h.toArray⟩ (by show h.toArray.size ≤ _; simp [hl])).of (by rw [sval_of, hh]; rfl))
  generalize natS (startN s.data.toList) = r at m2 ⊢
  clear hu hul hh
  go_enter Tryz.func39, Tryz.ntmps39
  go_wp2_with fail
  refine (m1.out _).mono ?_
  rintro e w1 ⟨rfl, hb1⟩
  have hsz : (u8a h).size = 32 := by simp [u8a, u8l, hl]
  go_upto_region 2 with (refine wpList_store_rowTo rfl 71 _ _ rfl rfl _ (u8a h) rfl rfl _ _ (Blk.new _ _ _) (by rw [hsz]; kernel_rfl) (by rw [hsz]; rfl) (u8a_one _) ?_)
  refine nameStored (u8a h) ?_
  intro W0 hk hb2
  have hcv := run_nat_bytes (hk.bdg (n := 32) (c := 32) hl (Nat.le_refl _))
  go_wp2_with fail
  refine (m2.out _).mono ?_
  rintro e w3 ⟨rfl, hb3⟩
  go_wp2_with fail
  go_ret
  exact ⟨rfl, below_then (below_then hb1 hb2) hb3⟩

end Go.Proofs.YtebgmlbbilcbbaaGreatDoor
