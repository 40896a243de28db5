/- Maps in a walk: a map all of whose entries are right. -/
import Derived.Test.YtmaaloijdjnblaaGreatDoorDeep
import Derived.WideKeyMaps
import Derived.MapFrom
namespace Go.Proofs.YtmaaloijdjnblaaGreatDoor
open Go Go.RowKit
theorem Chg.setObj (w : World) (m : Nat) (o : Obj) : Chg [m] w { w with heap := w.heap.setIfInBounds m o } :=
  ⟨rfl, rfl, rfl, by simp, fun k hk hn => by
    have hne : m ≠ k := fun e => hn (by simp [e])
    simp [Array.getElem?_setIfInBounds, hne]⟩
section
variable {P : Program} {k e t : TypeId} {φ : Value → Value → Prop} {w w' : World} {m : Nat} {key v : Value} {kl : Lit}
variable {ops : Array Oper} {Q : Exit → Act → World → Prop} {a : Act} {rest : List Oper} {N d : Nat} {σ : Slots} {ty : TypeId} {pos : String} {af : Array Edge}
theorem g_lookup2 {x y : Operand} {mv r : Value} (hx : ev σ x = some mv) (hy : ev σ y = some key) (h : ∀ w', Ext w w' → (Instr.lookup t mv key true).run P w' = .ok r w') :
    Gives P (Ext w) σ (.lookup t x y true) r :=
  fun N a w' ha he d ty pos af g => by
    simp [execOp, ha.eq hx, ha.eq hy, h w' he]
end
end Go.Proofs.YtmaaloijdjnblaaGreatDoor
