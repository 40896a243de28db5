/- Keys that are structs of two numbers, or arrays of small numbers, can be told. -/
import Derived.Test.YtnebbhginakaiaaDoorTbl
import Derived.DeepKeys4
namespace Go.Proofs.YtnebbhginakaiaaDoor
open Go Go.RowKit
theorem keyLits_one {P : Program} {t : TypeId} {q : IntKind} {n : Int} (d : Nat) (hu : P.underlying t = some (.int q)) (hw : (Lit.int q n).wf = true) : P.keyLits (d + 1) t [.int q n] = some [.int q n] := by
  simp [Program.keyLits, hu, hw]
theorem wf_i8 {n : Int} (h : -128 ≤ n ∧ n ≤ 127) : (Lit.int .i8 n).wf = true := by
  have e1 : IntKind.i8.min = -128 := by decide
  have e2 : IntKind.i8.max = 127 := by decide
  simp [Lit.wf, e1, e2]
  omega
theorem mapM_some {α β : Type} {f : α → Option β} {g : α → β} : ∀ {l : List α}, (∀ x ∈ l, f x = some (g x)) → l.mapM f = some (l.map g)
  | [], _ => rfl
  | x :: l, h => by
    rw [List.mapM_cons, h x (by simp), mapM_some (l := l) fun y hy => h y (by simp [hy])]; rfl
theorem asked_arr {P : Program} {k te : TypeId} {n : Nat} (hk : P.keyType k = true) (h1 : P.underlying k = some (.array n te)) (h2 : P.underlying te = some (.int .i8)) (c1 : P.cellsOf k = n) (c2 : P.cellsOf te = 1) (hs : 4 ≤ P.types.size)
    {xs : List Int} (hl : xs.length = n) (hx : ∀ x ∈ xs, -128 ≤ x ∧ x ≤ 127) : ∃ kl, keyOf P k (.agg (xs.map fun x => Value.int .i8 x).toArray) = some kl := by
  obtain ⟨d, hd⟩ : ∃ d, P.types.size + 1 = d + 2 := ⟨P.types.size - 1, by omega⟩
  have hcells : (Value.agg (xs.map fun x => Value.int .i8 x).toArray).cells.toList = xs.map fun x => Value.int .i8 x := rfl
  have hform : (Value.agg (xs.map fun x => Value.int .i8 x).toArray).formed P k = true := by
    simp only [Value.formed, h1, c1]
    simp [hl]
  unfold keyOf
  simp only [h1, hk, hform, Bool.and_self, if_true]
  rw [hd]
  have m6 : ∃ L, P.keyLits (d + 2) k (Value.agg (xs.map fun x => Value.int .i8 x).toArray).cells.toList = some L := by
    rw [hcells]
    show ∃ L, P.keyLits (d + 1 + 1) k (xs.map fun x => Value.int .i8 x) = some L
    unfold Program.keyLits
    simp only [h1, c1, c2, List.length_map, hl, if_true]
    rw [mapM_some (g := fun i => [Lit.int .i8 (xs.getD i 0)]) (fun i hi => by
      rw [List.mem_range] at hi
      have hi' : i < xs.length := by omega
      have e : ((xs.map fun x => Value.int .i8 x).drop (i * 1)).take 1 = [.int .i8 (xs.getD i 0)] := by
        rw [Nat.mul_one, List.drop_eq_getElem_cons (by simpa using hi'), List.take_succ_cons, List.take_zero, List.getElem_map, List.getD_eq_getElem?_getD, List.getElem?_eq_getElem hi']; rfl
      rw [e]
      refine keyLits_one d h2 (wf_i8 ?_)
      rw [List.getD_eq_getElem?_getD, List.getElem?_eq_getElem hi']
      exact hx _ (List.getElem_mem hi'))]
    exact ⟨_, rfl⟩
  obtain ⟨L, hL⟩ := m6
  rw [hL]
  exact ⟨_, rfl⟩
end Go.Proofs.YtnebbhginakaiaaDoor
