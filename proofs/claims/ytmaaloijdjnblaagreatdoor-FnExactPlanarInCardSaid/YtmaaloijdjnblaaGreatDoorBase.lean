/- Program-free laws for walks: frames as association lists, worlds by what has changed, one law for each kind of operation. -/
import Derived.Test.YtmaaloijdjnblaaGreatDoorPure
import Derived.WalkKit
import Derived.Below
import Derived.Laws.AppendOwn
import Derived.Laws.MakeOwn
import Derived.Still
namespace Go.Proofs.YtmaaloijdjnblaaGreatDoor
open Go Go.RowKit

/-! ## frames -/
abbrev Slots := List (Nat × Value)
def lk : Slots → Nat → Option Value
  | [], _ => none
  | (k, v) :: r, t => bif Nat.beq t k then some v else lk r t
structure Fr (N : Nat) (σ : Slots) (a : Act) : Prop where
  size : a.tmps.size = N
  defers : a.defers = []
  get : ∀ t v, lk σ t = some v → a.tmps[t]? = some v
def ev (σ : Slots) : Operand → Option Value
  | .tmp t => lk σ t
  | .const v => some v
  | .global g => some (.pointer (some ⟨g, 0, none⟩))
  | .func f => some (.func (.func f) #[] #[])
theorem Fr.eq {N : Nat} {σ : Slots} {a : Act} (h : Fr N σ a) {x : Operand} {v : Value} (hx : ev σ x = some v) : a.eval x = v := by
  cases x with
  | tmp t => simp only [ev] at hx; simp [Act.eval, Array.getD_eq_getD_getElem?, h.get t v hx]
  | const v' => simpa [ev, Act.eval] using hx
  | global g => simpa [ev, Act.eval] using hx
  | func f => simpa [ev, Act.eval] using hx
theorem lk_cons {σ : Slots} {k t : Nat} {u v : Value} (h : lk ((k, u) :: σ) t = some v) : (t = k ∧ u = v) ∨ (t ≠ k ∧ lk σ t = some v) := by
  simp only [lk] at h
  by_cases e : t = k
  · subst e; left; simpa using h
  · right; have : Nat.beq t k = false := by
      cases hb : Nat.beq t k with
      | false => rfl
      | true => exact absurd (Nat.eq_of_beq_eq_true hb) e
    rw [this] at h; exact ⟨e, by simpa using h⟩
theorem Fr.put {N : Nat} {σ : Slots} {a : Act} (h : Fr N σ a) {d : Nat} (hd : d < N) (v : Value) : Fr N ((d, v) :: σ) (a.put (some d) v) := by
  refine ⟨by simp [Act.put, h.size], h.defers, fun t u ht => ?_⟩
  simp only [Act.put]
  rcases lk_cons ht with ⟨rfl, rfl⟩ | ⟨e, ht⟩
  · simp [h.size, hd]
  · rw [Array.getElem?_setIfInBounds_ne (fun h => e h.symm)]
    exact h.get t u ht
def Sub : Slots → Slots → Prop
  | [], _ => True
  | p :: r, σ => lk σ p.1 = some p.2 ∧ Sub r σ
theorem Sub.get {σ' σ : Slots} (h : Sub σ' σ) : ∀ t v, lk σ' t = some v → lk σ t = some v := by
  induction σ' with
  | nil => intro t v ht; cases ht
  | cons p r ih =>
    obtain ⟨k, u⟩ := p
    intro t v ht
    rcases lk_cons ht with ⟨rfl, rfl⟩ | ⟨e, ht⟩
    · exact h.1
    · exact ih h.2 t v ht
theorem Fr.sub {N : Nat} {σ σ' : Slots} {a : Act} (h : Fr N σ a) (hs : Sub σ' σ) : Fr N σ' a :=
  ⟨h.size, h.defers, fun t v ht => h.get t v (hs.get t v ht)⟩

/-! ## what has changed -/
structure Chg (D : List Nat) (w w' : World) : Prop where
  os : w'.os = w.os
  tape : w'.tape = w.tape
  output : w'.output = w.output
  size : w.heap.size ≤ w'.heap.size
  block : ∀ k, k < w.heap.size → k ∉ D → w'.heap[k]? = w.heap[k]?
abbrev Ext := Chg []
theorem Chg.refl (D : List Nat) (w : World) : Chg D w w := ⟨rfl, rfl, rfl, Nat.le_refl _, fun _ _ _ => rfl⟩
theorem Chg.trans {D D' : List Nat} {a b c : World} (h : Chg D a b) (k : Chg D' b c) (hD : ∀ i ∈ D', i ∈ D ∨ a.heap.size ≤ i) : Chg D a c :=
  ⟨k.os.trans h.os, k.tape.trans h.tape, k.output.trans h.output, Nat.le_trans h.size k.size, fun i hi hn =>
    (k.block i (Nat.lt_of_lt_of_le hi h.size) (fun hm => by rcases hD i hm with g | g; exact hn g; omega)).trans (h.block i hi hn)⟩
theorem Ext.trans {a b c : World} (h : Ext a b) (k : Ext b c) : Ext a c := Chg.trans h k (fun _ h => by cases h)
theorem Ext.chg {D : List Nat} {a b : World} (h : Ext a b) : Chg D a b := ⟨h.os, h.tape, h.output, h.size, fun i hi _ => h.block i hi (by simp)⟩
theorem Ext.then {D : List Nat} {a b c : World} (h : Ext a b) (k : Chg D b c) (hD : ∀ i ∈ D, a.heap.size ≤ i) : Ext a c :=
  Chg.trans h k (fun i hi => .inr (hD i hi))
theorem Ext.drew (w : World) : Ext w w.drew := ⟨rfl, rfl, rfl, Nat.le_refl _, fun _ _ _ => rfl⟩
theorem Ext.alloc (w : World) (o : Obj) : Ext w (w.alloc o) :=
  ⟨rfl, rfl, rfl, by simp, fun k hk _ => Below.heap_alloc _ _ _ hk⟩
theorem Chg.setCell (w : World) (a : Addr) (v : Value) : Chg [a.block] w (w.setCell a v) :=
  ⟨rfl, rfl, rfl, by simp, fun k _ hn => Below.heap_setCell _ _ _ _ (fun e => hn (by simp [e]))⟩
theorem Chg.of_grown {w w' : World} {row : Option Nat} (h : w.grownBy w' row) : Chg row.toList w w' :=
  ⟨h.os, h.tape, h.output, h.size, fun k hk hn => h.block k hk (fun e => hn (by rw [← e]; simp))⟩
theorem Chg.setRow (w : World) (g : Nat) (c : Array Value) : Chg [g] w (w.setRow g c) := by
  refine ⟨rfl, rfl, rfl, by simp [World.setRow], fun k hk hn => ?_⟩
  simp only [World.setRow, Array.getElem?_modify]
  rw [if_neg (fun e => hn (by simp [e]))]
theorem Ext.below {w w' : World} (h : Ext w w') : Below w.heap.size w w' := ⟨h.os, h.tape, h.output, h.size, fun k hk => h.block k hk (by simp)⟩

/-! ## calls -/
def Ret (R : Value → World → Prop) : Ending → World → Prop := fun e w => ∃ v, e = .returned v ∧ R v w

section walk
variable {P : Program} {ops : Array Oper} {Q : Exit → Act → World → Prop} {a : Act} {w : World} {rest : List Oper} {N : Nat} {σ : Slots}
variable {d : Nat} {ty : TypeId} {pos : String} {af : Array Edge}

theorem wl_val {o : Oper} {v : Value} {w' : World} (hg : o.guard = none) (hr : (execOp a.eval o).run P w = .ok (.value v) w')
    (h : wpList P ops Q rest (a.put o.dst v) w') : wpList P ops Q (o :: rest) a w := by
  refine wpList_plain hg fun K hK => ?_
  unfold Oper.wp
  rw [hr]
  exact hK _ _ h
theorem wl_skip {o : Oper} {w' : World} (hg : o.guard = none) (hr : (execOp a.eval o).run P w = .ok .skip w')
    (h : wpList P ops Q rest (a.put o.dst undef) w') : wpList P ops Q (o :: rest) a w := by
  refine wpList_plain hg fun K hK => ?_
  unfold Oper.wp
  rw [hr]
  exact hK _ _ h
theorem wl_enter {o : Oper} {f : FuncId} {args : Array Value} {R : Value → World → Prop} (hg : o.guard = none)
    (hr : (execOp a.eval o).run P w = .ok (.enter f args) w) (hc : Calls P f args w (Ret R))
    (h : ∀ v w', R v w' → wpList P ops Q rest (a.put o.dst v) w') : wpList P ops Q (o :: rest) a w := by
  refine wpList_plain hg fun K hK => ?_
  unfold Oper.wp
  rw [hr]
  exact hc.mono fun e w' ⟨v, he, hR⟩ => by subst he; exact hK _ _ (h v w' hR)

theorem o_run {op : Op} {v : Value} (ha : Fr N σ a) (hd : Nat.ble (d + 1) N = true)
    (hr : ∀ g, (execOp a.eval ⟨some d, op, ty, pos, af, g⟩).run P w = .ok (.value v) w)
    (K : ∀ a, Fr N ((d, v) :: σ) a → wpList P ops Q rest a w) : wpList P ops Q (⟨some d, op, ty, pos, af, none⟩ :: rest) a w :=
  wl_val (v := v) (w' := w) rfl (hr _) (K _ (ha.put (Nat.le_of_ble_eq_true hd) v))
theorem o_runw {op : Op} {v : Value} {w' : World} (ha : Fr N σ a) (hd : Nat.ble (d + 1) N = true)
    (hr : ∀ g, (execOp a.eval ⟨some d, op, ty, pos, af, g⟩).run P w = .ok (.value v) w')
    (K : ∀ a, Fr N ((d, v) :: σ) a → wpList P ops Q rest a w') : wpList P ops Q (⟨some d, op, ty, pos, af, none⟩ :: rest) a w :=
  wl_val (v := v) (w' := w') rfl (hr _) (K _ (ha.put (Nat.le_of_ble_eq_true hd) v))
end walk

/-! ## what an operation computes, world apart -/
def Gives (P : Program) (C : World → Prop) (σ : Slots) (op : Op) (v : Value) : Prop :=
  ∀ (N : Nat) (a : Act) (w : World), Fr N σ a → C w → ∀ d ty pos af g, (execOp a.eval ⟨d, op, ty, pos, af, g⟩).run P w = .ok (.value v) w
section gives
variable {P : Program} {C : World → Prop} {σ : Slots}
theorem g_move {x : Operand} {v : Value} (hx : ev σ x = some v) : Gives P C σ (.move x) v :=
  fun N a w ha _ d ty pos af g => by simp [execOp, ha.eq hx]
theorem g_assign {x : Operand} {v : Value} (hx : ev σ x = some v) : Gives P C σ (.assign x) v :=
  fun N a w ha _ d ty pos af g => by simp [execOp, ha.eq hx]
theorem g_pick {c x y : Operand} {t : Bool} {v : Value} (hc : ev σ c = some (.bool t)) (hx : ev σ (if t = true then x else y) = some v) : Gives P C σ (.pick c x y) v :=
  fun N a w ha _ d ty pos af g => by cases t <;> simp at hx <;> simp [execOp, ha.eq hc, ha.eq hx, asBool]
theorem g_len {x : Operand} {b : Option Addr} {n c : Nat} {T E : TypeId} (hu : P.underlying T = some (.slice E)) (hx : ev σ x = some (.slice b n c)) :
    Gives P C σ (.call { callee := .builtin .len, args := #[x], argTypes := #[T] }) (.int .i64 n) :=
  fun N a w ha _ d ty pos af g => by
    simp [execOp, resolve, invoke, builtin, Builtin.len_, ha.eq hx, run_underlying hu, goInt]
theorem g_lss {x y : Operand} {k : IntKind} {m n : Int} {T U : TypeId} (hx : ev σ x = some (.int k m)) (hy : ev σ y = some (.int k n)) : Gives P C σ (.binOp .lss T x y U) (.bool (decide (m < n))) :=
  fun N a w ha _ d ty pos af g => by simp [execOp, ha.eq hx, ha.eq hy, eqGuard, binOp, Op.intCmp]
theorem g_leq {x y : Operand} {k : IntKind} {m n : Int} {T U : TypeId} (hx : ev σ x = some (.int k m)) (hy : ev σ y = some (.int k n)) : Gives P C σ (.binOp .leq T x y U) (.bool (decide (m ≤ n))) :=
  fun N a w ha _ d ty pos af g => by simp [execOp, ha.eq hx, ha.eq hy, eqGuard, binOp, Op.intCmp]
theorem g_gtr {x y : Operand} {k : IntKind} {m n : Int} {T U : TypeId} (hx : ev σ x = some (.int k m)) (hy : ev σ y = some (.int k n)) : Gives P C σ (.binOp .gtr T x y U) (.bool (decide (n < m))) :=
  fun N a w ha _ d ty pos af g => by simp [execOp, ha.eq hx, ha.eq hy, eqGuard, binOp, Op.intCmp]
theorem g_geq {x y : Operand} {k : IntKind} {m n : Int} {T U : TypeId} (hx : ev σ x = some (.int k m)) (hy : ev σ y = some (.int k n)) : Gives P C σ (.binOp .geq T x y U) (.bool (decide (n ≤ m))) :=
  fun N a w ha _ d ty pos af g => by simp [execOp, ha.eq hx, ha.eq hy, eqGuard, binOp, Op.intCmp]
theorem g_eql {x y : Operand} {k : IntKind} {m n : Int} {T U : TypeId} (hx : ev σ x = some (.int k m)) (hy : ev σ y = some (.int k n)) : Gives P C σ (.binOp .eql T x y U) (.bool (decide (m = n))) :=
  fun N a w ha _ d ty pos af g => by simp [execOp, ha.eq hx, ha.eq hy, eqGuard, binOp, Op.intCmp]; rfl
theorem g_neq {x y : Operand} {k : IntKind} {m n : Int} {T U : TypeId} (hx : ev σ x = some (.int k m)) (hy : ev σ y = some (.int k n)) : Gives P C σ (.binOp .neq T x y U) (.bool (decide (m ≠ n))) :=
  fun N a w ha _ d ty pos af g => by
    simp [execOp, ha.eq hx, ha.eq hy, eqGuard, binOp, Op.intCmp]; rfl
theorem g_not {x : Operand} {t : Bool} {T : TypeId} (hx : ev σ x = some (.bool t)) : Gives P C σ (.unOp .not T x) (.bool (!t)) :=
  fun N a w ha _ d ty pos af g => by simp [execOp, ha.eq hx, Op.unary]
theorem i64_wrap {n : Int} (h : InI n) : IntKind.i64.wrap n = n := IntWalk.i64_in n h
theorem g_add {x y : Operand} {m n : Int} {T U : TypeId} (hx : ev σ x = some (.int .i64 m)) (hy : ev σ y = some (.int .i64 n)) (h : InI (m + n)) : Gives P C σ (.binOp .add T x y U) (.int .i64 (m + n)) :=
  fun N a w ha _ d ty pos af g => by simp [execOp, ha.eq hx, ha.eq hy, eqGuard, binOp, Op.intArith, i64_wrap h]
theorem g_sub {x y : Operand} {m n : Int} {T U : TypeId} (hx : ev σ x = some (.int .i64 m)) (hy : ev σ y = some (.int .i64 n)) (h : InI (m - n)) : Gives P C σ (.binOp .sub T x y U) (.int .i64 (m - n)) :=
  fun N a w ha _ d ty pos af g => by simp [execOp, ha.eq hx, ha.eq hy, eqGuard, binOp, Op.intArith, i64_wrap h]
theorem g_mul {x y : Operand} {m n : Int} {T U : TypeId} (hx : ev σ x = some (.int .i64 m)) (hy : ev σ y = some (.int .i64 n)) (h : InI (m * n)) : Gives P C σ (.binOp .mul T x y U) (.int .i64 (m * n)) :=
  fun N a w ha _ d ty pos af g => by simp [execOp, ha.eq hx, ha.eq hy, eqGuard, binOp, Op.intArith, i64_wrap h]
end gives
end Go.Proofs.YtmaaloijdjnblaaGreatDoor
