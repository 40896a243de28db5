/- Maps in a walk: a map all of whose entries are right. -/
import Derived.Test.YtjcnkijmbjhcnaaDeep
import Derived.WideKeyMaps
import Derived.MapFrom
namespace Go.Proofs.Ytjcnkijmbjhcnaa
open Go Go.RowKit
def Mq (P : Program) (k : TypeId) (φ : Value → Value → Prop) (w : World) (m : Nat) : Prop :=
  ∃ es clock, w.heap[m]? = some (.map es clock) ∧ ∀ x ∈ es.toList, (∃ l, keyOf P k x.key = some l) ∧ φ x.key x.val
theorem Chg.setObj (w : World) (m : Nat) (o : Obj) : Chg [m] w { w with heap := w.heap.setIfInBounds m o } :=
  ⟨rfl, rfl, rfl, by simp, fun k hk hn => by
    have hne : m ≠ k := fun e => hn (by simp [e])
    simp [Array.getElem?_setIfInBounds, hne]⟩
section
variable {P : Program} {k e t : TypeId} {φ : Value → Value → Prop} {w w' : World} {m : Nat} {key v : Value} {kl : Lit}
theorem Mq.lt (h : Mq P k φ w m) : m < w.heap.size := by
  obtain ⟨es, clock, h1, _⟩ := h
  exact (Array.getElem?_eq_some_iff.1 h1).1
theorem Mq.chg {D : List Nat} (h : Mq P k φ w m) (hc : Chg D w w') (hm : m ∉ D) : Mq P k φ w' m := by
  have hl := h.lt
  obtain ⟨es, clock, h1, h2⟩ := h
  exact ⟨es, clock, (hc.block m hl hm).trans h1, h2⟩
theorem Mq.ext (h : Mq P k φ w m) (hc : Ext w w') : Mq P k φ w' m := h.chg hc (by simp)
theorem Mq.nq {c : Int} (h : Mq P k φ w m) (hc : Chg (Go.Proofs.Ytjcnkijmbjhcnaa.bl c) w w') (hn : Nq [m] c) : Mq P k φ w' m :=
  h.chg hc fun hm => hn m (by simp) (mem_bl.1 hm)
theorem Mq.fpb (h : Mq P k φ w m) : ∀ i ∈ [m], i < w.heap.size := fun i hi => by
  rw [List.mem_singleton] at hi; subst hi; exact h.lt
theorem Mq.bi (h : Mq P k φ w m) : (m : Int) < w.heap.size := by have := h.lt; omega
theorem Mq.look (K : WideMaps.KeyLaw P k) (ht : P.underlying t = some (.map k e)) (h : Mq P k φ w m) (hφ : ∀ key v v', φ key v → φ key v' → v = v') (hkey : keyOf P k key = some kl) {z : Value} (hz : ∀ w, (zeroValue e).run P w = .ok z w) :
    (∀ w', Ext w w' → (Instr.lookup t (.map (some m)) key true).run P w' = .ok (.tuple #[z, .bool false]) w') ∨
    ∃ v, φ key v ∧ ∀ w', Ext w w' → (Instr.lookup t (.map (some m)) key true).run P w' = .ok (.tuple #[v, .bool true]) w' := by
  have hl := h.lt
  obtain ⟨es, clock, hb, hes⟩ := h
  have hkeys : ∀ x ∈ es.toList, ∃ l, keyOf P k x.key = some l := fun x hx => (hes x hx).1
  have hb' : ∀ w', Ext w w' → w'.heap[m]? = some (.map es clock) := fun w' hx => (hx.block m hl (by simp)).trans hb
  have run0 : ∀ w', Ext w w' → (Instr.findKey k key es.toList).run P w' = .ok none w' → (Instr.lookup t (.map (some m)) key true).run P w' = .ok (.tuple #[z, .bool false]) w' := fun w' hx h1 => by
    simp [Instr.lookup, run_underlying ht, MapKept.run_getObj_map (hb' w' hx), K.check w' _ hkey, h1, hz, Result.andThen]
  have run1 : ∀ w' j v, Ext w w' → (Instr.findKey k key es.toList).run P w' = .ok (some (j, v)) w' → (Instr.lookup t (.map (some m)) key true).run P w' = .ok (.tuple #[v, .bool true]) w' := fun w' j v hx h1 => by
    simp [Instr.lookup, run_underlying ht, MapKept.run_getObj_map (hb' w' hx), K.check w' _ hkey, h1, Result.andThen]
  rcases K.find w hkey es.toList hkeys with ⟨h1, h2⟩ | ⟨j, e0, h1, h2, h3⟩
  · refine .inl fun w' hx => ?_
    rcases K.find w' hkey es.toList hkeys with ⟨g1, g2⟩ | ⟨j, e0, g1, g2, g3⟩
    · exact run0 w' hx g1
    · exact absurd g3 (h2 e0 (List.mem_of_getElem? g2))
  · have hp := (hes e0 (List.mem_of_getElem? h2)).2
    rw [h3] at hp
    refine .inr ⟨e0.val, hp, fun w' hx => ?_⟩
    rcases K.find w' hkey es.toList hkeys with ⟨g1, g2⟩ | ⟨i, e1, g1, g2, g3⟩
    · exact absurd h3 (g2 e0 (List.mem_of_getElem? h2))
    · have hp1 := (hes e1 (List.mem_of_getElem? g2)).2
      rw [g3] at hp1
      rw [hφ _ _ _ hp hp1]
      exact run1 w' i e1.val hx g1
theorem Mq.update (K : WideMaps.KeyLaw P k) (ht : P.underlying t = some (.map k e)) (h : Mq P k φ w m) (hkey : keyOf P k key = some kl) (hv : φ key v) :
    ∃ w', (Instr.mapUpdate t (.map (some m)) key v).run P w = .ok () w' ∧ Mq P k φ w' m ∧ Chg [m] w w' := by
  have hl := h.lt
  obtain ⟨es, clock, hb, hes⟩ := h
  have hkeys : ∀ x ∈ es.toList, ∃ l, keyOf P k x.key = some l := fun x hx => (hes x hx).1
  have hget : ∀ o : Obj, (w.heap.setIfInBounds m o)[m]? = some o := fun o => by simp [hl]
  rcases K.find w hkey es.toList hkeys with ⟨h1, h2⟩ | ⟨j, e0, h1, h2, h3⟩
  · refine ⟨{ w with heap := w.heap.setIfInBounds m (.map (es.push ⟨key, v, clock⟩) (clock + 1)) }, ?_, ⟨_, _, hget _, fun x hx => ?_⟩, Chg.setObj w m _⟩
    · simp [Instr.mapUpdate, run_underlying ht, MapKept.run_getObj_map hb, K.check w false hkey, h1, MapKept.run_setObj_map _ hb, Result.andThen]
    · simp only [Array.toList_push, List.mem_append, List.mem_singleton] at hx
      rcases hx with hx | rfl
      · exact hes x hx
      · exact ⟨⟨kl, hkey⟩, hv⟩
  · have hj : es[j]? = some e0 := by simpa using h2
    refine ⟨{ w with heap := w.heap.setIfInBounds m (.map (es.modify j (fun e' => { e' with key := key, val := v })) clock) }, ?_, ⟨_, _, hget _, fun x hx => ?_⟩, Chg.setObj w m _⟩
    · simp [Instr.mapUpdate, run_underlying ht, MapKept.run_getObj_map hb, K.check w false hkey, h1, hj, h3, K.stays w hkey, MapKept.run_setObj_map _ hb, Result.andThen]
    · rcases MapFrom.mem_modify hx with hx | ⟨e', _, rfl⟩
      · exact hes x hx
      · exact ⟨⟨kl, hkey⟩, hv⟩
variable {ops : Array Oper} {Q : Exit → Act → World → Prop} {a : Act} {rest : List Oper} {N d : Nat} {σ : Slots} {ty : TypeId} {pos : String} {af : Array Edge}
theorem g_lookup2 {x y : Operand} {mv r : Value} (hx : ev σ x = some mv) (hy : ev σ y = some key) (h : ∀ w', Ext w w' → (Instr.lookup t mv key true).run P w' = .ok r w') :
    Gives P (Ext w) σ (.lookup t x y true) r :=
  fun N a w' ha he d ty pos af g => by
    simp [execOp, ha.eq hx, ha.eq hy, h w' he]
theorem run_eqp {w : World} {p : Option Addr} {s E : TypeId} (hT : P.underlying s = some (.pointer E)) : (Op.equal s (.pointer p) (.pointer none)).run P w = .ok p.isNone w := by
  unfold Op.equal
  rw [show Op.maxDepth = 9999 + 1 from rfl]
  unfold Op.equalIn
  cases p <;> simp [run_underlying hT]
theorem g_peql {x y : Operand} {p : Option Addr} {s E : TypeId} {C : World → Prop} (hT : P.underlying s = some (.pointer E)) (hx : ev σ x = some (.pointer p)) (hy : ev σ y = some (.pointer none)) : Gives P C σ (.binOp .eql s x y s) (.bool p.isNone) :=
  fun N a w ha _ d ty pos af g => by simp [execOp, ha.eq hx, ha.eq hy, eqGuard, binOp, run_eqp hT]
theorem o_mapUpdate {x y z : Operand} (ha : Fr N σ a) (K : WideMaps.KeyLaw P k) (ht : P.underlying t = some (.map k e)) (h : Mq P k φ w m) (hkey : keyOf P k key = some kl) (hv : φ key v)
    (hx : ev σ x = some (.map (some m))) (hy : ev σ y = some key) (hz : ev σ z = some v)
    (C : ∀ w', Mq P k φ w' m → Chg [m] w w' → wpList P ops Q rest a w') : wpList P ops Q (⟨none, .mapUpdate t x y z, ty, pos, af, none⟩ :: rest) a w := by
  obtain ⟨w', h1, h2, h3⟩ := Mq.update K ht h hkey hv
  refine wl_skip (w' := w') rfl ?_ (C w' h2 h3)
  simp [execOp, ha.eq hx, ha.eq hy, ha.eq hz, h1]
theorem o_makeMap (ha : Fr N σ a) (hd : Nat.ble (d + 1) N = true) (k : TypeId) (φ : Value → Value → Prop)
    (C : ∀ m w', Mq P k φ w' m → Ext w w' → w.heap.size ≤ m → ∀ a, Fr N ((d, .map (some m)) :: σ) a → wpList P ops Q rest a w') :
    wpList P ops Q (⟨some d, .makeMap t none, ty, pos, af, none⟩ :: rest) a w := by
  refine o_runw (v := .map (some w.heap.size)) (w' := w.alloc (.map #[] 0)) ha hd (fun g => ?_) (C _ _ ⟨#[], 0, heap_alloc_new w _, fun x hx => by simp at hx⟩ (Ext.alloc _ _) (Nat.le_refl _))
  simp [execOp, Instr.makeMap]
end
end Go.Proofs.Ytjcnkijmbjhcnaa
