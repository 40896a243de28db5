/- Maps in a walk: a map all of whose entries are right. -/
import Derived.Test.YtnebbhginakaiaaDoorDeep
import Derived.WideKeyMaps
import Derived.MapFrom
namespace Go.Proofs.YtnebbhginakaiaaDoor
open Go Go.RowKit
def Mq (P : Program) (k : TypeId) (φ : Value → Value → Prop) (w : World) (m : Nat) : Prop :=
  ∃ es clock, w.heap[m]? = some (.map es clock) ∧ ∀ x ∈ es.toList, (∃ l, keyOf P k x.key = some l) ∧ φ x.key x.val
theorem Chg.setObj (w : World) (m : Nat) (o : Obj) : Chg [m] w { w with heap := w.heap.setIfInBounds m o } :=
  ⟨rfl, rfl, rfl, by simp, fun k hk hn => by
    have hne : m ≠ k := fun e => hn (by simp [e])
    simp [Array.getElem?_setIfInBounds, hne]⟩
section
variable {P : Program} {k e t : TypeId} {φ : Value → Value → Prop} {w w' : World} {m : Nat} {key v : Value} {kl : Lit}
theorem Mq.lt (h : Mq P k φ w m) : m < w.heap.size := by
  obtain ⟨es, clock, h1, _⟩ := h
  exact (Array.getElem?_eq_some_iff.1 h1).1
theorem Mq.chg {D : List Nat} (h : Mq P k φ w m) (hc : Chg D w w') (hm : m ∉ D) : Mq P k φ w' m := by
  have hl := h.lt
  obtain ⟨es, clock, h1, h2⟩ := h
  exact ⟨es, clock, (hc.block m hl hm).trans h1, h2⟩
theorem Mq.ext (h : Mq P k φ w m) (hc : Ext w w') : Mq P k φ w' m := h.chg hc (by simp)
theorem Mq.nq {c : Int} (h : Mq P k φ w m) (hc : Chg (Go.Proofs.YtnebbhginakaiaaDoor.bl c) w w') (hn : Nq [m] c) : Mq P k φ w' m :=
  h.chg hc fun hm => hn m (by simp) (mem_bl.1 hm)
theorem Mq.fpb (h : Mq P k φ w m) : ∀ i ∈ [m], i < w.heap.size := fun i hi => by
  rw [List.mem_singleton] at hi; subst hi; exact h.lt
theorem Mq.bi (h : Mq P k φ w m) : (m : Int) < w.heap.size := by have := h.lt; omega
theorem Mq.look (K : WideMaps.KeyLaw P k) (ht : P.underlying t = some (.map k e)) (h : Mq P k φ w m) (hφ : ∀ key v v', φ key v → φ key v' → v = v') (hkey : keyOf P k key = some kl) {z : Value} (hz : ∀ w, (zeroValue e).run P w = .ok z w) :
    (∀ w', Ext w w' → (Instr.lookup t (.map (some m)) key true).run P w' = .ok (.tuple #[z, .bool false]) w') ∨
    ∃ v, φ key v ∧ ∀ w', Ext w w' → (Instr.lookup t (.map (some m)) key true).run P w' = .ok (.tuple #[v, .bool true]) w' := by
  have hl := h.lt
  obtain ⟨es, clock, hb, hes⟩ := h
  have hkeys : ∀ x ∈ es.toList, ∃ l, keyOf P k x.key = some l := fun x hx => (hes x hx).1
  have hb' : ∀ w', Ext w w' → w'.heap[m]? = some (.map es clock) := fun w' hx => (hx.block m hl (by simp)).trans hb
  have run0 : ∀ w', Ext w w' → (Instr.findKey k key es.toList).run P w' = .ok none w' → (Instr.lookup t (.map (some m)) key true).run P w' = .ok (.tuple #[z, .bool false]) w' := fun w' hx h1 => by
    simp [Instr.lookup, run_underlying ht, MapKept.run_getObj_map (hb' w' hx), K.check w' _ hkey, h1, hz, Result.andThen]
  have run1 : ∀ w' j v, Ext w w' → (Instr.findKey k key es.toList).run P w' = .ok (some (j, v)) w' → (Instr.lookup t (.map (some m)) key true).run P w' = .ok (.tuple #[v, .bool true]) w' := fun w' j v hx h1 => by
    simp [Instr.lookup, run_underlying ht, MapKept.run_getObj_map (hb' w' hx), K.check w' _ hkey, h1, Result.andThen]
  rcases K.find w hkey es.toList hkeys with ⟨h1, h2⟩ | ⟨j, e0, h1, h2, h3⟩
  · refine .inl fun w' hx => ?_
    rcases K.find w' hkey es.toList hkeys with ⟨g1, g2⟩ | ⟨j, e0, g1, g2, g3⟩
    · exact run0 w' hx g1
    · exact absurd g3 (h2 e0 (List.mem_of_getElem? g2))
  · have hp := (hes e0 (List.mem_of_getElem? h2)).2
    rw [h3] at hp
    refine .inr ⟨e0.val, hp, fun w' hx => ?_⟩
    rcases K.find w' hkey es.toList hkeys with ⟨g1, g2⟩ | ⟨i, e1, g1, g2, g3⟩
    · exact absurd h3 (g2 e0 (List.mem_of_getElem? h2))
    · have hp1 := (hes e1 (List.mem_of_getElem? g2)).2
      rw [g3] at hp1
      rw [hφ _ _ _ hp hp1]
      exact run1 w' i e1.val hx g1
variable {ops : Array Oper} {Q : Exit → Act → World → Prop} {a : Act} {rest : List Oper} {N d : Nat} {σ : Slots} {ty : TypeId} {pos : String} {af : Array Edge}
theorem g_lookup2 {x y : Operand} {mv r : Value} (hx : ev σ x = some mv) (hy : ev σ y = some key) (h : ∀ w', Ext w w' → (Instr.lookup t mv key true).run P w' = .ok r w') :
    Gives P (Ext w) σ (.lookup t x y true) r :=
  fun N a w' ha he d ty pos af g => by
    simp [execOp, ha.eq hx, ha.eq hy, h w' he]
end
end Go.Proofs.YtnebbhginakaiaaDoor
