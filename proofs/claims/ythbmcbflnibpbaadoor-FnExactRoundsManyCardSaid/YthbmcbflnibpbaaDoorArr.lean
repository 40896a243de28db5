/- Slices whose elements are arrays of numbers. -/
import Derived.Test.YthbmcbflnibpbaaDoorDeep
namespace Go.Proofs.YthbmcbflnibpbaaDoor
open Go Go.RowKit
def Rp.arr (n : Nat) : Rp (List Int) where
  sz := n + 1
  pos := by omega
  rep := fun _ _ fp cs x => x.length = n + 1 ∧ cs = x.map (Value.int .i64) ∧ (∀ y ∈ x, InI y) ∧ fp = []
  len := fun h => by rw [h.2.1, List.length_map]; exact h.1
  one := fun h c hc => by
    rw [h.2.1] at hc
    obtain ⟨y, _, rfl⟩ := List.mem_map.1 hc
    rfl
  keep := fun h _ => h
  bnd := fun h k hk => by rw [h.2.2.2] at hk; cases hk
  weak := fun h => h
theorem At.arr {w : World} {p : Addr} {xs : List Int} {j : Nat} {y : Int} (h : At w p (xs.map (Value.int .i64))) (hy : xs[j]? = some y) : At w (p.add j) [.int .i64 y] := fun i v hi => by
  cases i with
  | zero =>
    obtain rfl : (Value.int .i64 y) = v := by simpa using hi
    rw [Addr.add_zero']
    exact h j _ (by simp [hy])
  | succ i => simp at hi
theorem arr_in {xs : List Int} {j : Nat} {y : Int} (h : ∀ y ∈ xs, InI y) (hy : xs[j]? = some y) : InI y := h y (List.mem_of_getElem? hy)
theorem arr_lt {xs : List Int} {j : Int} {y : Int} {n : Nat} (h : xs.length = n) (h0 : 0 ≤ j) (hy : xs[j.toNat]? = some y) : j < (n : Int) := by
  have := (List.getElem?_eq_some_iff.1 hy).1; omega
theorem arr_zero (n : Nat) (w : World) : (Rp.arr n).rep true w [] ((List.replicate (n + 1) (0 : Int)).map (Value.int .i64)) (List.replicate (n + 1) 0) :=
  ⟨by simp, rfl, fun y hy => by rw [(List.mem_replicate.1 hy).2]; decide, rfl⟩
section
variable {P : Program} {C : World → Prop} {σ : Slots}
theorem g_idxA {T E n : Nat} {x y : Operand} {p : Addr} {k : IntKind} {i : Int} (hT : P.underlying T = some (.array n E)) (hs : ∀ w, (sizeOf E).run P w = .ok 1 w) (hx : ev σ x = some (.pointer (some p))) (hy : ev σ y = some (.int k i)) (h0 : 0 ≤ i) (hn : i < n) :
    Gives P C σ (.indexAddr T x y) (.pointer (some (p.add i.toNat))) :=
  fun N a w ha _ d ty pos af g' => by
    simp [execOp, ha.eq hx, ha.eq hy, Instr.indexAt, asIntOf, run_underlying hT, Instr.sureAddr, h0, hn, hs]
end
section walk
variable {e : TypeId} {P : Program} {ops : Array Oper} {Q : Exit → Act → World → Prop} {a : Act} {w : World} {rest : List Oper} {N : Nat} {σ : Slots}
variable {d : Nat} {ty : TypeId} {pos : String} {af : Array Edge}
theorem IdxAt.same {sz : Nat} {v : Value} {i : Int} {p p' : Addr} (h : IdxAt sz v i p) (h' : IdxAt sz v i p') : p = p' := by
  obtain ⟨b, len, cap, hv, _, _, hp⟩ := h
  obtain ⟨b', len', cap', hv', _, _, hp'⟩ := h'
  rw [hv] at hv'
  injection hv' with e1 e2 e3
  injection e1 with e1
  rw [hp, hp', e1]
/-- a number of an array written anew -/
theorem o_storeG {T : TypeId} {x y : Operand} {n : Nat} {o : Bool} {fs : List Nat} {b i j : Int} {v : Value} {xs : List (List Int)} {q : List Int} {u : Int} {p : Addr} (ha : Fr N σ a) (hsz : ∀ w, (sizeOf T).run P w = .ok 1 w)
    (hx : ev σ x = some (.pointer (some (p.add j.toNat)))) (hy : ev σ y = some (.int .i64 u)) (h : Ow (Rp.arr n) e o w fs b v xs) (hi : IdxAt (Rp.arr n).sz v i p) (h0 : 0 ≤ i) (hgx : xs[i.toNat]? = some q) (hu : InI u) (hj : j.toNat < q.length)
    (K : ∀ w' fs', Ow (Rp.arr n) e o w' fs' b v (xs.set i.toNat (q.set j.toNat u)) → Chg (bl b) w w' → Subst fs [] fs' → wpList P ops Q rest a w') :
    wpList P ops Q (⟨none, .store T x y, ty, pos, af, none⟩ :: rest) a w := by
  obtain ⟨p', cs, f, hf, hpb, hat, hr, hi'⟩ := h.at h0 hgx
  obtain ⟨hq, rfl, hin, rfl⟩ := hr
  obtain rfl := hi.same hi'
  exact o_storeF (r := Rp.arr n) (off := j.toNat) (cs := q.map (Value.int .i64)) (c := (q.set j.toNat u).map (Value.int .i64)) (f := []) (q := q.set j.toNat u) ha hsz hx hy rfl h hi hat
    ⟨by rw [List.length_set]; exact hq, rfl, fun y hy => by
      rcases List.mem_or_eq_of_mem_set hy with h | h
      · exact hin y h
      · rw [h]; exact hu, rfl⟩ (by simp) (by rw [List.map_set]) (Nat.ble_eq_true_of_le (by rw [List.length_map]; exact hj)) rfl (Nq.nil _) K
end walk
end Go.Proofs.YthbmcbflnibpbaaDoor
