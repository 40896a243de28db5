/- Tables whose keys are pairs of numbers. Program-free. -/
import Derived.Test.YtmaaloijdjnblaaGreatDoorKeyTwo
namespace Go.Proofs.YtmaaloijdjnblaaGreatDoor
open Go Go.RowKit
abbrev K2 := {p : Int × Int // InI p.1 ∧ InI p.2}
theorem wf_i64 {n : Int} (h : InI n) : (Lit.int .i64 n).wf = true := by
  have e1 : IntKind.i64.min = -9223372036854775808 := by decide
  have e2 : IntKind.i64.max = 9223372036854775807 := by decide
  unfold InI at h
  simp [Lit.wf, e1, e2]
  omega
theorem asked_ii {P : Program} {k tu : TypeId} {fs : Array Field} (hk : P.keyType k = true) (h1 : P.underlying k = some (.struct fs)) (h2 : P.underlying tu = some (.int .i64))
    (f1 : fs.toList.map (fun f => (f.type, f.offset)) = [(tu, 0), (tu, 1)]) (b1 : fs.all (·.name != "_") = true) (c1 : P.cellsOf k = 2) (c2 : P.cellsOf tu = 1) (hs : 4 ≤ P.types.size) {x y : Int} (hx : InI x) (hy : InI y) :
    ∃ kl, keyOf P k (.agg #[.int .i64 x, .int .i64 y]) = some kl := by
  obtain ⟨d, hd⟩ : ∃ d, P.types.size + 1 = d + 2 := ⟨P.types.size - 1, by omega⟩
  have two : ∀ {fs : List Field} {x y : TypeId × Nat} (g : Field → Option (List Lit)) (g' : TypeId × Nat → Option (List Lit)), (∀ f, g f = g' (f.type, f.offset)) → fs.map (fun f => (f.type, f.offset)) = [x, y] → fs.mapM g = (do let u ← g' x; let v ← g' y; pure [u, v]) := by
    intro fs x y g g' hg hf
    match fs, hf with
    | [p, q], hf =>
      simp only [List.map_cons, List.map_nil, List.cons.injEq, and_true] at hf
      obtain ⟨rfl, rfl⟩ := hf
      simp only [List.mapM_cons, List.mapM_nil, hg]
      cases g' (p.type, p.offset) <;> cases g' (q.type, q.offset) <;> rfl
  unfold keyOf
  simp only [h1, hk, Value.formed, c1, Bool.true_and]
  rw [if_pos (by rfl), hd]
  have m6 : ∃ L, P.keyLits (d + 2) k (Value.agg #[.int .i64 x, .int .i64 y]).cells.toList = some L := by
    show ∃ L, P.keyLits (d + 1 + 1) k [.int .i64 x, .int .i64 y] = some L
    unfold Program.keyLits
    simp only [h1, c1, b1, List.length_cons, List.length_nil, and_self, if_true]
    rw [two _ (fun z => P.keyLits (d + 1) z.1 ((([.int .i64 x, .int .i64 y] : List Value).drop z.2).take (P.cellsOf z.1))) (fun f => rfl) f1]
    refine ⟨[.int .i64 x, .int .i64 y], ?_⟩
    simp [c2, keyLits_one d h2 (wf_i64 hx), keyLits_one d h2 (wf_i64 hy)]
  obtain ⟨L, hL⟩ := m6
  rw [hL]
  exact ⟨_, rfl⟩
theorem k2_inj (a b : K2) (h : Value.agg #[.int .i64 a.1.1, .int .i64 a.1.2] = Value.agg #[.int .i64 b.1.1, .int .i64 b.1.2]) : a = b := by
  obtain ⟨⟨a1, a2⟩, ha⟩ := a
  obtain ⟨⟨b1, b2⟩, hb⟩ := b
  simp only [Value.agg.injEq, Array.mk.injEq, List.cons.injEq, Value.int.injEq, true_and, and_true] at h
  obtain ⟨rfl, rfl⟩ := h; rfl
structure MtP {P : Program} {k : TypeId} (K : Ky P k K2) (w : World) (m : Nat) (T : Tf (Int × Int)) : Prop where
  kv : ∀ a : K2, K.kv a = .agg #[.int .i64 a.1.1, .int .i64 a.1.2]
  mt : Mt K w m (fun a => T a.1)
  out : ∀ p, ¬ (InI p.1 ∧ InI p.2) → T p = none
section
variable {P : Program} {k t e : TypeId} {K : Ky P k K2} {w w' : World} {m : Nat} {T : Tf (Int × Int)}
theorem MtP.ext (h : MtP K w m T) (hc : Ext w w') : MtP K w' m T := ⟨h.kv, h.mt.ext hc, h.out⟩
theorem MtP.chg {D : List Nat} (h : MtP K w m T) (hc : Chg D w w') (hm : m ∉ D) : MtP K w' m T := ⟨h.kv, h.mt.chg hc hm, h.out⟩
theorem MtP.nq {c : Int} (h : MtP K w m T) (hc : Chg (Go.Proofs.YtmaaloijdjnblaaGreatDoor.bl c) w w') (hn : Nq [m] c) : MtP K w' m T := h.chg hc fun hm => hn m (by simp) (mem_bl.1 hm)
theorem MtP.lt (h : MtP K w m T) : m < w.heap.size := h.mt.lt
theorem MtP.fpb (h : MtP K w m T) : ∀ i ∈ [m], i < w.heap.size := fun i hi => by
  rw [List.mem_singleton] at hi; subst hi; exact h.lt
theorem MtP.bi (h : MtP K w m T) : (m : Int) < w.heap.size := by have := h.lt; omega
theorem MtP.look1 (ht : P.underlying t = some (.map k e)) (hz : ∀ w, (zeroValue e).run P w = .ok (.int .i64 0) w) (h : MtP K w m T) {x y : Int} (hx : InI x) (hy : InI y) :
    ∀ w', Ext w w' → (Instr.lookup t (.map (some m)) (.agg #[.int .i64 x, .int .i64 y]) false).run P w' = .ok (.int .i64 ((T (x, y)).getD 0)) w' := by
  have := h.mt.look1 ht hz ⟨(x, y), hx, hy⟩
  rwa [h.kv] at this
theorem MtP.look2 (ht : P.underlying t = some (.map k e)) (hz : ∀ w, (zeroValue e).run P w = .ok (.int .i64 0) w) (h : MtP K w m T) {x y : Int} (hx : InI x) (hy : InI y) :
    ∀ w', Ext w w' → (Instr.lookup t (.map (some m)) (.agg #[.int .i64 x, .int .i64 y]) true).run P w' = .ok (.tuple #[.int .i64 ((T (x, y)).getD 0), .bool (T (x, y)).isSome]) w' := by
  have := h.mt.look2 ht hz ⟨(x, y), hx, hy⟩
  rw [h.kv] at this
  rcases this with ⟨h1, h2⟩ | ⟨n, h1, _, h2⟩
  · have h1 : T (x, y) = none := h1
    rw [h1]; exact h2
  · have h1 : T (x, y) = some n := h1
    rw [h1]; exact h2
variable {ops : Array Oper} {Q : Exit → Act → World → Prop} {a : Act} {pre : List Oper} {N d : Nat} {σ : Slots} {ty : TypeId} {pos : String} {af : Array Edge}
theorem o_newP (K : Ky P k K2) (hK : ∀ a : K2, K.kv a = .agg #[.int .i64 a.1.1, .int .i64 a.1.2]) (ha : Fr N σ a) (hd : Nat.ble (d + 1) N = true)
    (C : ∀ m w', MtP K w' m noT → Ext w w' → w.heap.size ≤ m → ∀ a, Fr N ((d, .map (some m)) :: σ) a → wpList P ops Q pre a w') :
    wpList P ops Q (⟨some d, .makeMap t none, ty, pos, af, none⟩ :: pre) a w :=
  o_newT K ha hd fun m w' h1 h2 h3 => C m w' ⟨hK, h1, fun _ _ => rfl⟩ h2 h3
theorem o_putP {x y z : Operand} {i j n : Int} (ha : Fr N σ a) (ht : P.underlying t = some (.map k e)) (h : MtP K w m T) (hi : InI i) (hj : InI j) (hn : InI n)
    (hx : ev σ x = some (.map (some m))) (hy : ev σ y = some (.agg #[.int .i64 i, .int .i64 j])) (hz : ev σ z = some (.int .i64 n))
    (C : ∀ w', MtP K w' m (putT T (i, j) n) → Chg [m] w w' → wpList P ops Q pre a w') : wpList P ops Q (⟨none, .mapUpdate t x y z, ty, pos, af, none⟩ :: pre) a w := by
  refine o_mapT (s := (⟨(i, j), hi, hj⟩ : K2)) ha ht h.mt hn hx (by rw [h.kv]; exact hy) hz fun w' h1 h2 => C w' ⟨h.kv, ?_, fun p hp => ?_⟩ h2
  · have e : putT (fun a : K2 => T a.1) ⟨(i, j), hi, hj⟩ n = fun a : K2 => putT T (i, j) n a.1 := by
      funext b
      unfold putT
      by_cases g : b = ⟨(i, j), hi, hj⟩
      · rw [if_pos g, if_pos (by rw [g])]
      · rw [if_neg g, if_neg (fun h => g (Subtype.ext h))]
    rw [← e]; exact h1
  · unfold putT
    rw [if_neg (fun g => hp (by rw [g]; exact ⟨hi, hj⟩))]; exact h.out p hp
end
end Go.Proofs.YtmaaloijdjnblaaGreatDoor
