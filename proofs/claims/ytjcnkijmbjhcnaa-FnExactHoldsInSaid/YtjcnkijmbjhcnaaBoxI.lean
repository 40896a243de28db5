/- Arrays in a box: a place that is told while the program runs. -/
import Derived.Test.YtjcnkijmbjhcnaaDeep
namespace Go.Proofs.Ytjcnkijmbjhcnaa
open Go Go.RowKit
theorem bxi_get {α : Type} {pre post : List Value} {xs : List α} {j : Nat} {x : α} (enc : α → Value) (h : xs[j]? = some x) : (pre ++ xs.map enc ++ post)[pre.length + j]? = some (enc x) := by
  have hj := (List.getElem?_eq_some_iff.1 h).1
  rw [List.append_assoc, List.getElem?_append_right (by omega), show pre.length + j - pre.length = j by omega, List.getElem?_append_left (by simpa using hj), List.getElem?_map, h]; rfl
theorem bxi_lt {α : Type} {pre post : List Value} {xs : List α} {j : Nat} {x : α} (enc : α → Value) (h : xs[j]? = some x) : pre.length + j < (pre ++ xs.map enc ++ post).length := by
  have hj := (List.getElem?_eq_some_iff.1 h).1
  simp only [List.length_append, List.length_map]; omega
theorem bxi_put {α : Type} {pre post : List Value} {xs ys : List α} {j : Nat} {x v : α} (enc : α → Value) (h : xs[j]? = some x) (hy : xs.set j v = ys) : (pre ++ xs.map enc ++ post).set (pre.length + j) (enc v) = pre ++ ys.map enc ++ post := by
  have hj := (List.getElem?_eq_some_iff.1 h).1
  subst hy
  rw [List.append_assoc, List.set_append_right _ _ (by omega), show pre.length + j - pre.length = j by omega, List.set_append_left _ _ (by simpa using hj), List.map_set, List.append_assoc]
theorem bxi_set3 {α : Type} {pre post : List Value} {a b c x v : α} {i : Int} (enc : α → Value) (h0 : 0 ≤ i) (h : [a, b, c][i.toNat]? = some x) :
    (pre ++ [a, b, c].map enc ++ post).set (pre.length + i.toNat) (enc v) = pre ++ [if i = 0 then v else a, if i = 1 then v else b, if i = 2 then v else c].map enc ++ post := by
  refine bxi_put enc h ?_
  have hj := (List.getElem?_eq_some_iff.1 h).1
  simp only [List.length_cons, List.length_nil] at hj
  rcases (by omega : i = 0 ∨ i = 1 ∨ i = 2) with rfl | rfl | rfl <;> rfl
theorem bxi_set2 {α : Type} {pre post : List Value} {a b x v : α} {i : Int} (enc : α → Value) (h0 : 0 ≤ i) (h : [a, b][i.toNat]? = some x) :
    (pre ++ [a, b].map enc ++ post).set (pre.length + i.toNat) (enc v) = pre ++ [if i = 0 then v else a, if i = 1 then v else b].map enc ++ post := by
  refine bxi_put enc h ?_
  have hj := (List.getElem?_eq_some_iff.1 h).1
  simp only [List.length_cons, List.length_nil] at hj
  rcases (by omega : i = 0 ∨ i = 1) with rfl | rfl <;> rfl
theorem Bx.eq {w : World} {b : Nat} {cs cs' : List Value} {e : TypeId} (h : cs = cs') (hB : Bx w b cs e) : Bx w b cs' e := h ▸ hB
theorem InI.get3 {a b c x : Int} {j : Nat} (ha : InI a) (hb : InI b) (hc : InI c) (h : [a, b, c][j]? = some x) : InI x := by
  have := List.mem_of_getElem? h
  simp only [List.mem_cons, List.not_mem_nil, or_false] at this
  rcases this with rfl | rfl | rfl <;> assumption
theorem InI.get2 {a b x : Int} {j : Nat} (ha : InI a) (hb : InI b) (h : [a, b][j]? = some x) : InI x := by
  have := List.mem_of_getElem? h
  simp only [List.mem_cons, List.not_mem_nil, or_false] at this
  rcases this with rfl | rfl <;> assumption
theorem InI.ite {q : Prop} [Decidable q] {a b : Int} (ha : InI a) (hb : InI b) : InI (if q then a else b) := by split <;> assumption
section
variable {P : Program} {C : World → Prop} {σ : Slots}
theorem g_idxBx {T E n b o : Nat} {x y : Operand} {k : IntKind} {i : Int} (hT : P.underlying T = some (.array n E)) (hs : ∀ w, (sizeOf E).run P w = .ok 1 w) (hx : ev σ x = some (.pointer (some ⟨b, o, none⟩))) (hy : ev σ y = some (.int k i)) (h0 : 0 ≤ i) (hn : i < n) :
    Gives P C σ (.indexAddr T x y) (.pointer (some ⟨b, o + i.toNat, none⟩)) :=
  fun N a w ha _ d ty pos af g' => by
    simp [execOp, ha.eq hx, ha.eq hy, Instr.indexAt, asIntOf, run_underlying hT, Instr.sureAddr, h0, hn, hs, Addr.add_lit']
end
end Go.Proofs.Ytjcnkijmbjhcnaa
