/- Keys that are structs of two numbers, or arrays of small numbers, can be told. -/
import Derived.Test.YtnebbhginakaiaaTbl
import Derived.DeepKeys4
namespace Go.Proofs.Ytnebbhginakaiaa
open Go Go.RowKit
theorem keyLits_one {P : Program} {t : TypeId} {q : IntKind} {n : Int} (d : Nat) (hu : P.underlying t = some (.int q)) (hw : (Lit.int q n).wf = true) : P.keyLits (d + 1) t [.int q n] = some [.int q n] := by
  simp [Program.keyLits, hu, hw]
theorem wf_u32 (s : BitVec 32) : (Lit.int .u32 (s.toNat : Int)).wf = true := by
  have := s.isLt
  have e1 : IntKind.u32.min = 0 := by decide
  have e2 : IntKind.u32.max = 4294967295 := by decide
  simp [Lit.wf, e1, e2]
  omega
theorem asked_two {P : Program} {k tu : TypeId} {fs : Array Field} (hk : P.keyType k = true) (h1 : P.underlying k = some (.struct fs)) (h2 : P.underlying tu = some (.int .u32))
    (f1 : fs.toList.map (fun f => (f.type, f.offset)) = [(tu, 0), (tu, 1)]) (b1 : fs.all (·.name != "_") = true) (c1 : P.cellsOf k = 2) (c2 : P.cellsOf tu = 1) (hs : 4 ≤ P.types.size) (s t : BitVec 32) :
    ∃ kl, keyOf P k (.agg #[.int .u32 (BitVec.toNat s : Int), .int .u32 (BitVec.toNat t : Int)]) = some kl := by
  obtain ⟨d, hd⟩ : ∃ d, P.types.size + 1 = d + 2 := ⟨P.types.size - 1, by omega⟩
  have two : ∀ {fs : List Field} {x y : TypeId × Nat} (g : Field → Option (List Lit)) (g' : TypeId × Nat → Option (List Lit)), (∀ f, g f = g' (f.type, f.offset)) → fs.map (fun f => (f.type, f.offset)) = [x, y] → fs.mapM g = (do let u ← g' x; let v ← g' y; pure [u, v]) := by
    intro fs x y g g' hg hf
    match fs, hf with
    | [p, q], hf =>
      simp only [List.map_cons, List.map_nil, List.cons.injEq, and_true] at hf
      obtain ⟨rfl, rfl⟩ := hf
      simp only [List.mapM_cons, List.mapM_nil, hg]
      cases g' (p.type, p.offset) <;> cases g' (q.type, q.offset) <;> rfl
  unfold keyOf
  simp only [h1, hk, Value.formed, c1, Bool.true_and]
  rw [if_pos (by rfl), hd]
  have m6 : ∃ L, P.keyLits (d + 2) k (Value.agg #[.int .u32 (BitVec.toNat s : Int), .int .u32 (BitVec.toNat t : Int)]).cells.toList = some L := by
    show ∃ L, P.keyLits (d + 1 + 1) k [.int .u32 (BitVec.toNat s : Int), .int .u32 (BitVec.toNat t : Int)] = some L
    unfold Program.keyLits
    simp only [h1, c1, b1, List.length_cons, List.length_nil, and_self, if_true]
    rw [two _ (fun z => P.keyLits (d + 1) z.1 ((([.int .u32 (BitVec.toNat s : Int), .int .u32 (BitVec.toNat t : Int)] : List Value).drop z.2).take (P.cellsOf z.1))) (fun f => rfl) f1]
    refine ⟨[.int .u32 (BitVec.toNat s : Int), .int .u32 (BitVec.toNat t : Int)], ?_⟩
    simp [c2, keyLits_one d h2 (wf_u32 s), keyLits_one d h2 (wf_u32 t)]
  obtain ⟨L, hL⟩ := m6
  rw [hL]
  exact ⟨_, rfl⟩
end Go.Proofs.Ytnebbhginakaiaa
