/- Maps in a walk: a map all of whose entries are right. -/
import Derived.Test.YtnebbhginakaiaaDoorDeep
import Derived.WideKeyMaps
import Derived.MapFrom
namespace Go.Proofs.YtnebbhginakaiaaDoor
open Go Go.RowKit
def Mq (P : Program) (k : TypeId) (φ : Value → Value → Prop) (w : World) (m : Nat) : Prop :=
  ∃ es clock, w.heap[m]? = some (.map es clock) ∧ ∀ x ∈ es.toList, (∃ l, keyOf P k x.key = some l) ∧ φ x.key x.val
theorem Chg.setObj (w : World) (m : Nat) (o : Obj) : Chg [m] w { w with heap := w.heap.setIfInBounds m o } :=
  ⟨rfl, rfl, rfl, by simp, fun k hk hn => by
    have hne : m ≠ k := fun e => hn (by simp [e])
    simp [Array.getElem?_setIfInBounds, hne]⟩
section
variable {P : Program} {k e t : TypeId} {φ : Value → Value → Prop} {w w' : World} {m : Nat} {key v : Value} {kl : Lit}
theorem Mq.lt (h : Mq P k φ w m) : m < w.heap.size := by
  obtain ⟨es, clock, h1, _⟩ := h
  exact (Array.getElem?_eq_some_iff.1 h1).1
theorem Mq.chg {D : List Nat} (h : Mq P k φ w m) (hc : Chg D w w') (hm : m ∉ D) : Mq P k φ w' m := by
  have hl := h.lt
  obtain ⟨es, clock, h1, h2⟩ := h
  exact ⟨es, clock, (hc.block m hl hm).trans h1, h2⟩
theorem Mq.ext (h : Mq P k φ w m) (hc : Ext w w') : Mq P k φ w' m := h.chg hc (by simp)
theorem Mq.nq {c : Int} (h : Mq P k φ w m) (hc : Chg (Go.Proofs.YtnebbhginakaiaaDoor.bl c) w w') (hn : Nq [m] c) : Mq P k φ w' m :=
  h.chg hc fun hm => hn m (by simp) (mem_bl.1 hm)
theorem Mq.fpb (h : Mq P k φ w m) : ∀ i ∈ [m], i < w.heap.size := fun i hi => by
  rw [List.mem_singleton] at hi; subst hi; exact h.lt
theorem Mq.bi (h : Mq P k φ w m) : (m : Int) < w.heap.size := by have := h.lt; omega
variable {ops : Array Oper} {Q : Exit → Act → World → Prop} {a : Act} {rest : List Oper} {N d : Nat} {σ : Slots} {ty : TypeId} {pos : String} {af : Array Edge}
theorem g_lookup2 {x y : Operand} {mv r : Value} (hx : ev σ x = some mv) (hy : ev σ y = some key) (h : ∀ w', Ext w w' → (Instr.lookup t mv key true).run P w' = .ok r w') :
    Gives P (Ext w) σ (.lookup t x y true) r :=
  fun N a w' ha he d ty pos af g => by
    simp [execOp, ha.eq hx, ha.eq hy, h w' he]
end
end Go.Proofs.YtnebbhginakaiaaDoor
