/- The key of the judge's memo can be told. -/
import Derived.Test.YtjcnkijmbjhcnaaMp
import Derived.DeepKeys4
namespace Go.Proofs.Ytjcnkijmbjhcnaa
open Go Go.RowKit
theorem keyLits_i {P : Program} {t : TypeId} {q : IntKind} {n : Int} (d : Nat) (hu : P.underlying t = some (.int q)) (hw : (Lit.int q n).wf = true) : P.keyLits (d + 1) t [.int q n] = some [.int q n] := by
  simp [Program.keyLits, hu, hw]
theorem wf_i {n : Int} (h : InI n) : (Lit.int .i64 n).wf = true := by
  unfold InI at h
  have e1 : IntKind.i64.min = -9223372036854775808 := by decide
  have e2 : IntKind.i64.max = 9223372036854775807 := by decide
  simp [Lit.wf, e1, e2]
  omega
theorem wf_u (s : BitVec 32) : (Lit.int .u32 (s.toNat : Int)).wf = true := by
  have := s.isLt
  have e1 : IntKind.u32.min = 0 := by decide
  have e2 : IntKind.u32.max = 4294967295 := by decide
  simp [Lit.wf, e1, e2]
  omega
theorem asked_key {P : Program} {k tn ti ta ts tu : TypeId} {fs1 fs2 : Array Field} (hk : P.keyType k = true) (h1 : P.underlying k = some (.struct fs1)) (h2 : P.underlying tn = some (.struct fs2)) (h3 : P.underlying ti = some (.int .i64)) (h4 : P.underlying ta = some (.array 3 ti)) (h5 : P.underlying ts = some (.array 2 tu)) (h6 : P.underlying tu = some (.int .u32))
    (f1 : fs1.toList.map (fun f => (f.type, f.offset)) = [(ti, 0), (tn, 1)]) (f2 : fs2.toList.map (fun f => (f.type, f.offset)) = [(ta, 0), (ts, 3)]) (b1 : fs1.all (·.name != "_") = true) (b2 : fs2.all (·.name != "_") = true)
    (c1 : P.cellsOf k = 6) (c2 : P.cellsOf tn = 5) (c3 : P.cellsOf ti = 1) (c4 : P.cellsOf ta = 3) (c5 : P.cellsOf ts = 2) (c6 : P.cellsOf tu = 1) (hs : 4 ≤ P.types.size)
    {n a b c : Int} (hn : InI n) (ha : InI a) (hb : InI b) (hc : InI c) (s t : BitVec 32) :
    ∃ kl, keyOf P k (.agg #[.int .i64 n, .int .i64 a, .int .i64 b, .int .i64 c, .int .u32 (BitVec.toNat s : Int), .int .u32 (BitVec.toNat t : Int)]) = some kl := by
  obtain ⟨d, hd⟩ : ∃ d, P.types.size + 1 = d + 4 := ⟨P.types.size - 3, by omega⟩
  have e0 : ∀ x : Nat, x = 0 + x := fun x => by omega
  have m3 : P.keyLits (d + 1 + 1) ta [.int .i64 a, .int .i64 b, .int .i64 c] = some [.int .i64 a, .int .i64 b, .int .i64 c] := by
    unfold Program.keyLits
    simp only [h4, c4, c3, List.length_cons, List.length_nil, if_true]
    simp [List.range, List.range.loop, List.mapM_cons, keyLits_i d h3 (wf_i ha), keyLits_i d h3 (wf_i hb), keyLits_i d h3 (wf_i hc)]
  have m2 : P.keyLits (d + 1 + 1) ts [.int .u32 (BitVec.toNat s : Int), .int .u32 (BitVec.toNat t : Int)] = some [.int .u32 (BitVec.toNat s : Int), .int .u32 (BitVec.toNat t : Int)] := by
    unfold Program.keyLits
    simp only [h5, c5, c6, List.length_cons, List.length_nil, if_true]
    simp [List.range, List.range.loop, List.mapM_cons, keyLits_i d h6 (wf_u s), keyLits_i d h6 (wf_u t)]
  have two : ∀ {fs : List Field} {x y : TypeId × Nat} (g : Field → Option (List Lit)) (g' : TypeId × Nat → Option (List Lit)), (∀ f, g f = g' (f.type, f.offset)) → fs.map (fun f => (f.type, f.offset)) = [x, y] → fs.mapM g = (do let u ← g' x; let v ← g' y; pure [u, v]) := by
    intro fs x y g g' hg hf
    match fs, hf with
    | [p, q], hf =>
      simp only [List.map_cons, List.map_nil, List.cons.injEq, and_true] at hf
      obtain ⟨rfl, rfl⟩ := hf
      simp only [List.mapM_cons, List.mapM_nil, hg]
      cases g' (p.type, p.offset) <;> cases g' (q.type, q.offset) <;> rfl
  have m5 : P.keyLits (d + 1 + 1 + 1) tn [.int .i64 a, .int .i64 b, .int .i64 c, .int .u32 (BitVec.toNat s : Int), .int .u32 (BitVec.toNat t : Int)] = some [.int .i64 a, .int .i64 b, .int .i64 c, .int .u32 (BitVec.toNat s : Int), .int .u32 (BitVec.toNat t : Int)] := by
    unfold Program.keyLits
    simp only [h2, c2, b2, List.length_cons, List.length_nil, and_self, if_true]
    rw [two _ (fun z => P.keyLits (d + 1 + 1) z.1 ((([.int .i64 a, .int .i64 b, .int .i64 c, .int .u32 (BitVec.toNat s : Int), .int .u32 (BitVec.toNat t : Int)] : List Value).drop z.2).take (P.cellsOf z.1))) (fun f => rfl) f2]
    simp [c4, c5, m3, m2]
  unfold keyOf
  simp only [h1, hk, Value.formed, c1, Bool.true_and]
  rw [if_pos (by rfl), hd]
  have m6 : ∃ L, P.keyLits (d + 4) k (Value.agg #[.int .i64 n, .int .i64 a, .int .i64 b, .int .i64 c, .int .u32 (BitVec.toNat s : Int), .int .u32 (BitVec.toNat t : Int)]).cells.toList = some L := by
    show ∃ L, P.keyLits (d + 3 + 1) k [.int .i64 n, .int .i64 a, .int .i64 b, .int .i64 c, .int .u32 (BitVec.toNat s : Int), .int .u32 (BitVec.toNat t : Int)] = some L
    unfold Program.keyLits
    simp only [h1, c1, b1, List.length_cons, List.length_nil, and_self, if_true]
    rw [two _ (fun z => P.keyLits (d + 3) z.1 ((([.int .i64 n, .int .i64 a, .int .i64 b, .int .i64 c, .int .u32 (BitVec.toNat s : Int), .int .u32 (BitVec.toNat t : Int)] : List Value).drop z.2).take (P.cellsOf z.1))) (fun f => rfl) f1]
    refine ⟨[.int .i64 n, .int .i64 a, .int .i64 b, .int .i64 c, .int .u32 (BitVec.toNat s : Int), .int .u32 (BitVec.toNat t : Int)], ?_⟩
    simp [c2, c3, keyLits_i (d + 2) h3 (wf_i hn), m5]
  obtain ⟨L, hL⟩ := m6
  rw [hL]
  exact ⟨_, rfl⟩
end Go.Proofs.Ytjcnkijmbjhcnaa
