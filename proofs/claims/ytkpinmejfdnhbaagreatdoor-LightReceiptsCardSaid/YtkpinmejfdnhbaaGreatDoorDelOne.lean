/- Joined by a program: DelA, Made, DelB, DelC. -/
import Derived.Test.YtkpinmejfdnhbaaGreatDoorShaTwo
import Derived.Test.YtkpinmejfdnhbaaGreatDoorPlainMore
import Derived.Test.YtkpinmejfdnhbaaGreatDoorHelps
import Derived.Test.YtkpinmejfdnhbaaGreatDoorRefFour
import Derived.Test.YtkpinmejfdnhbaaGreatDoorNatQ
import Derived.BigQuiet
namespace Go.Proofs.YtkpinmejfdnhbaaGreatDoor
open Go.RowKit
structure Tabs (w : World) : Prop where
 k : KTab w
 f : FTab w
 p : Pow10 w
theorem Tabs.below {w w' : World} (h : Tabs w) (hb : Below w.heap.size w w') : Tabs w' := ⟨h.k.below hb, h.f.below hb, h.p.below hb⟩
abbrev RetT (f : FuncId) (args : Array Value) (v : Value) : Prop := ∀ W : World, Tabs W → Calls Tryz.prog f args W fun e w' => e = .returned v ∧ Below W.heap.size W w'
theorem nameStored {P : Program} {code : Code} {Q : Exit → Act → World → Prop} {act : Act} {W : World} {t1 : TypeId} {c1 : Array Value} (cs : Array Value)
 (h : ∀ W0 : World, Blk W0 W.heap.size t1 cs → Below W.heap.size W W0 → code.wp P Q act W0) : code.wp P Q act ((W.alloc (.cells c1 t1)).setRow W.heap.size cs) :=
 h _ ((Blk.new W t1 c1).rowA cs) (below_setRow (below_al (Below.refl _ _) _) (Nat.le_refl _) _)
end Go.Proofs.YtkpinmejfdnhbaaGreatDoor
