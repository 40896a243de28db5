/- Arrays in a box: a place that is told while the program runs. -/
import Derived.Test.YtnebbhginakaiaaDoorDeep
namespace Go.Proofs.YtnebbhginakaiaaDoor
open Go Go.RowKit
theorem Bx.eq {w : World} {b : Nat} {cs cs' : List Value} {e : TypeId} (h : cs = cs') (hB : Bx w b cs e) : Bx w b cs' e := h ▸ hB
section
variable {P : Program} {C : World → Prop} {σ : Slots}
theorem g_idxBx {T E n b o : Nat} {x y : Operand} {k : IntKind} {i : Int} (hT : P.underlying T = some (.array n E)) (hs : ∀ w, (sizeOf E).run P w = .ok 1 w) (hx : ev σ x = some (.pointer (some ⟨b, o, none⟩))) (hy : ev σ y = some (.int k i)) (h0 : 0 ≤ i) (hn : i < n) :
    Gives P C σ (.indexAddr T x y) (.pointer (some ⟨b, o + i.toNat, none⟩)) :=
  fun N a w ha _ d ty pos af g' => by
    simp [execOp, ha.eq hx, ha.eq hy, Instr.indexAt, asIntOf, run_underlying hT, Instr.sureAddr, h0, hn, hs, Addr.add_lit']
end
end Go.Proofs.YtnebbhginakaiaaDoor
