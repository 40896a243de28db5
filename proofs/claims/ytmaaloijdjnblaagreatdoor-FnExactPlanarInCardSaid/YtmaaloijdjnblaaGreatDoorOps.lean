/- One law for each kind of operation on memory; calls; branches; loops; a function's head and end. Of whatever program. -/
import Derived.Test.YtmaaloijdjnblaaGreatDoorMem
namespace Go.Proofs.YtmaaloijdjnblaaGreatDoor
open Go Go.RowKit

structure SlT (P : Program) (T E : TypeId) (sz bytes : Nat) (z : Value) : Prop where
  und : P.underlying T = some (.slice E)
  inf : (P.info? E).map (fun i => (i.zero, i.size, i.bytes)) = some (some z, sz, bytes)
  zc : z.cells.size = sz
theorem SlT.info {P : Program} {T E : TypeId} {sz bytes : Nat} {z : Value} (h : SlT P T E sz bytes z) : ∃ i, P.info? E = some i ∧ i.zero = some z ∧ i.size = sz ∧ i.bytes = bytes := by
  have := h.inf
  cases hi : P.info? E with
  | none => rw [hi] at this; cases this
  | some i =>
    rw [hi] at this
    simp only [Option.map_some, Option.some.injEq, Prod.mk.injEq] at this
    exact ⟨i, rfl, this.1, this.2.1, this.2.2⟩
theorem SlT.size {P : Program} {T E : TypeId} {sz bytes : Nat} {z : Value} (h : SlT P T E sz bytes z) (w : World) : (sizeOf E).run P w = .ok sz w := by
  obtain ⟨i, hi, _, hs, _⟩ := h.info
  simp [sizeOf, typeInfo, hi, hs]
def stF (P : Program) (S f : Nat) : Option Nat :=
  match P.underlying S with
  | some (.struct fs) => (match fs[f]? with
    | some fd => (match P.info? fd.type with
      | some i => if i.size = 0 then none else some fd.offset
      | none => none)
    | none => none)
  | _ => none
theorem run_fieldAt {P : Program} {S f off : Nat} (h : stF P S f = some off) (p : Addr) (w : World) :
    (Instr.fieldAt S (.pointer (some p)) f).run P w = .ok (.pointer (some (p.add off))) w := by
  unfold stF at h
  split at h
  · rename_i fs hu
    split at h
    · rename_i fd hfd
      split at h
      · rename_i i hi
        split at h
        · cases h
        · rename_i hz
          have e := Option.some.inj h; subst e
          have hsz : (sizeOf fd.type).run P w = .ok i.size w := by simp [sizeOf, typeInfo, hi]
          simp [Instr.fieldAt, run_underlying hu, hfd, Instr.sureAddr, fieldPlace, hsz, hz]
      · cases h
    · cases h
  · cases h

section gives
variable {P : Program} {C : World → Prop} {σ : Slots} {w : World}
theorem Gives.mono {C' : World → Prop} {op : Op} {v : Value} (h : Gives P C σ op v) (hC : ∀ w, C' w → C w) : Gives P C' σ op v :=
  fun N a w ha hc => h N a w ha (hC w hc)
theorem g_field {S f off : Nat} {x : Operand} {p : Addr} (hS : stF P S f = some off) (hx : ev σ x = some (.pointer (some p))) : Gives P C σ (.fieldAddr S x f) (.pointer (some (p.add off))) :=
  fun N a w ha _ d ty pos af g => by simp [execOp, ha.eq hx, run_fieldAt hS]
theorem g_field0 {S f b o off : Nat} {x : Operand} (hS : stF P S f = some off) (hx : ev σ x = some (.pointer (some ⟨b, o, none⟩))) : Gives P C σ (.fieldAddr S x f) (.pointer (some ⟨b, o + off, none⟩)) :=
  fun N a w ha _ d ty pos af g => by simp [execOp, ha.eq hx, run_fieldAt hS, Addr.add_lit']
theorem g_load {T : TypeId} {x : Operand} {p : Addr} {v : Value} (hag : ∀ w, (isAgg T).run P w = .ok false w) (hx : ev σ x = some (.pointer (some p))) (hc : w.cell? p = some v) :
    Gives P (Ext w) σ (.load T x) v :=
  fun N a w' ha he d ty pos af g => by
    have hb := World.block_lt_of_cell? w p hc
    have hc' : w'.cell? p = some v := (World.cell?_of_block (he.block p.block hb (by simp))).trans hc
    simp [execOp, ha.eq hx, Instr.loadAt, Instr.sureAddr, loadVar, hag, load, Sem.run, hc']
theorem g_load0 {w0 : World} {T : TypeId} {x : Operand} {p : Addr} {v : Value} (hE : Ext w0 w) (hag : ∀ w, (isAgg T).run P w = .ok false w) (hx : ev σ x = some (.pointer (some p))) (hc : w0.cell? p = some v) :
    Gives P (Ext w) σ (.load T x) v :=
  g_load hag hx ((World.cell?_of_block (hE.block p.block (World.block_lt_of_cell? w0 p hc) (by simp))).trans hc)
theorem g_loadA {T : TypeId} {x : Operand} {p : Addr} {cs : List Value} (hag : ∀ w, (isAgg T).run P w = .ok true w) (hsz : ∀ w, (sizeOf T).run P w = .ok cs.length w)
    (hx : ev σ x = some (.pointer (some p))) (hne : cs ≠ []) (hc : At w p cs) : Gives P (Ext w) σ (.load T x) (.agg cs.toArray) :=
  fun N a w' ha he d ty pos af g => by
    have hb : p.block < w.heap.size := by
      cases cs with
      | nil => exact absurd rfl hne
      | cons c cs => have := World.block_lt_of_cell? w _ (hc 0 c rfl); rwa [Addr.add_block] at this
    have hc' : At w' p cs := hc.keep (he.block p.block hb (by simp))
    have hl := run_loadCells_list (P := P) w' p cs hc'
    simp [execOp, ha.eq hx, Instr.loadAt, Instr.sureAddr, loadVar, hag, hsz, hl]
theorem g_extract {x : Operand} {vs : Array Value} {i : Nat} {v : Value} (hx : ev σ x = some (.tuple vs)) (hv : vs[i]? = some v) : Gives P C σ (.extract x i) v :=
  fun N a w ha _ d ty pos af g => by simp [execOp, ha.eq hx, Instr.extract, hv]
theorem g_func {fn : Fn} {first cap : List Operand} {vf vc : List Value} (hf : first.mapM (ev σ) = some vf) (hc : cap.mapM (ev σ) = some vc) :
    Gives P C σ (.makeFunc fn first.toArray cap.toArray) (.func fn vf.toArray vc.toArray) :=
  fun N a w ha _ d ty pos af g => by
    have key : ∀ (l : List Operand) (vs : List Value), l.mapM (ev σ) = some vs → l.map a.eval = vs := by
      intro l
      induction l with
      | nil => intro vs h; simpa using h
      | cons x l ih =>
        intro vs h
        simp only [List.mapM_cons, Option.bind_eq_bind, Option.bind_eq_some_iff, Option.pure_def, Option.some.injEq] at h
        obtain ⟨v, hv, vs', hvs, rfl⟩ := h
        simp [ha.eq hv, ih _ hvs]
    simp [execOp, Instr.makeFunc, key _ _ hf, key _ _ hc]
theorem g_lenR {α : Type} {r : Rp α} {fp : List Nat} {v : Value} {xs : List α} {x : Operand} {T E : TypeId} (hu : P.underlying T = some (.slice E)) (h : Ro r w fp v xs) (hx : ev σ x = some v) :
    Gives P C σ (.call { callee := .builtin .len, args := #[x], argTypes := #[T] }) (.int .i64 xs.length) := by
  obtain ⟨a, cap, hv, _⟩ := h
  subst hv; exact g_len hu hx
theorem g_lenO {α : Type} {r : Rp α} {e : TypeId} {o : Bool} {fs : List Nat} {b : Int} {v : Value} {xs : List α} {x : Operand} {T E : TypeId} (hu : P.underlying T = some (.slice E)) (h : Ow r e o w fs b v xs) (hx : ev σ x = some v) :
    Gives P C σ (.call { callee := .builtin .len, args := #[x], argTypes := #[T] }) (.int .i64 xs.length) := by
  obtain ⟨a, cap, hv, _⟩ := h.val
  subst hv; exact g_len hu hx
theorem Bx.all {b : Nat} {cs : List Value} {e : TypeId} (h : Bx w b cs e) : At w ⟨b, 0, none⟩ cs := fun j v hj => by rw [Addr.add_lit', Nat.zero_add]; exact h.cell hj
end gives

def IdxAt (sz : Nat) (v : Value) (i : Int) (p : Addr) : Prop := ∃ b len cap, v = .slice (some b) len cap ∧ 0 ≤ i ∧ i < (len : Int) ∧ p = b.add (i.toNat * sz)
theorem IdxAt.gives {P : Program} {C : World → Prop} {σ : Slots} {sz bytes : Nat} {z v : Value} {i : Int} {p : Addr} {T E : TypeId} {xo io : Operand} {k : IntKind} (h : IdxAt sz v i p) (hT : SlT P T E sz bytes z)
    (hx : ev σ xo = some v) (hi : ev σ io = some (.int k i)) : Gives P C σ (.indexAddr T xo io) (.pointer (some p)) := by
  obtain ⟨b, len, cap, hv, h0, hl, hp⟩ := h
  intro N a w ha _ d ty pos af g
  have hs := hT.size w
  subst hv hp
  simp [execOp, ha.eq hx, ha.eq hi, Instr.indexAt, asIntOf, run_underlying hT.und, h0, hl, hs]
theorem getElem?_lt {α : Type} {xs : List α} {i : Int} {x : α} (h0 : 0 ≤ i) (h : xs[i.toNat]? = some x) : i < xs.length := by
  have := (List.getElem?_eq_some_iff.1 h).1; omega
theorem list_seg (cs : List Value) (k n : Nat) (w : World) (b off : Nat) (h : At w ⟨b, off, none⟩ cs) : At w ((⟨b, off, none⟩ : Addr).add k) ((cs.drop k).take n) := by
  intro j v hj
  rw [List.getElem?_take] at hj
  split at hj
  · rw [List.getElem?_drop] at hj
    rw [Addr.add_add']; exact h _ _ hj
  · cases hj
theorem Ro.at {α : Type} {r : Rp α} {w : World} {fp : List Nat} {v : Value} {xs : List α} {i : Int} {x : α} (h : Ro r w fp v xs) (h0 : 0 ≤ i) (hx : xs[i.toNat]? = some x) :
    ∃ p cs f, (∀ k ∈ f, k ∈ fp) ∧ p.block ∈ fp ∧ At w p cs ∧ r.rep false w f cs x ∧ IdxAt r.sz v i p := by
  obtain ⟨a, cap, hv, hl, ⟨hxs, _⟩ | ⟨b, off, cs, fs, ha, hf, hb, hat, hr⟩⟩ := h
  · simp [hxs] at hx
  · obtain ⟨f, hff, hfr⟩ := hr.get hx
    refine ⟨(⟨b, off, none⟩ : Addr).add (i.toNat * r.sz), _, f, fun k hk => by rw [hf]; simp [hff k hk], by rw [Addr.add_block, hf]; simp, list_seg cs _ _ w b off hat, hfr, _, _, _, by rw [hv, ha], h0, getElem?_lt h0 hx, rfl⟩
theorem Ow.at {α : Type} {r : Rp α} {e : TypeId} {o : Bool} {w : World} {fs : List Nat} {b : Int} {v : Value} {xs : List α} {i : Int} {x : α} (h : Ow r e o w fs b v xs) (h0 : 0 ≤ i) (hx : xs[i.toNat]? = some x) :
    ∃ p cs f, (∀ k ∈ f, k ∈ fs) ∧ (p.block : Int) = b ∧ At w p cs ∧ r.rep o w f cs x ∧ IdxAt r.sz v i p := by
  rcases h with ⟨_, _, hxs, _⟩ | ⟨g, cap, cur, cs, hg, hv, hh, h1, h2, h3, h4, h5, h6⟩
  · simp [hxs] at hx
  · obtain ⟨f, hff, hfr⟩ := h5.get hx
    have hat : At w ⟨g, 0, none⟩ cs := by rw [← h4]; simpa using at_row hh 0 (xs.length * r.sz)
    exact ⟨(⟨g, 0, none⟩ : Addr).add (i.toNat * r.sz), _, f, hff, by rw [Addr.add_block]; exact hg.symm, list_seg cs _ _ w g 0 hat, hfr, _, _, _, hv, h0, getElem?_lt h0 hx, rfl⟩

section walk
variable {P : Program} {ops : Array Oper} {Q : Exit → Act → World → Prop} {a : Act} {w : World} {rest : List Oper} {N : Nat} {σ : Slots}
variable {d : Nat} {ty : TypeId} {pos : String} {af : Array Edge}
theorem op_g {op : Op} {v : Value} (ha : Fr N σ a) (hd : Nat.ble (d + 1) N = true) (hg : Gives P (Ext w) σ op v)
    (K : ∀ a, Fr N ((d, v) :: σ) a → wpList P ops Q rest a w) : wpList P ops Q (⟨some d, op, ty, pos, af, none⟩ :: rest) a w :=
  o_run ha hd (fun g => hg N a w ha (Chg.refl _ _) _ _ _ _ _) K
theorem op_want {dst : Option Tmp} {op : Op} {g : Nat} {b : Bool} (hy : yielded ops a.tmps g = some b) (h : wpList P ops Q (⟨dst, op, ty, pos, af, none⟩ :: rest) a w) :
    wpList P ops Q (⟨dst, op, ty, pos, af, some (g, b)⟩ :: rest) a w := by
  have h1 : Region.wanted ⟨dst, op, ty, pos, af, some (g, b)⟩ (yielded ops a.tmps) = true := by simp [Region.wanted, hy]
  have h2 : Region.wanted ⟨dst, op, ty, pos, af, none⟩ (yielded ops a.tmps) = true := rfl
  unfold wpList at h ⊢
  rw [if_pos h2] at h
  rw [if_pos h1]
  exact h
theorem op_unwant {d : Nat} {op : Op} {g : Nat} {b b' : Bool} (ha : Fr N σ a) (hd : Nat.ble (d + 1) N = true) (hy : yielded ops a.tmps g = some b') (hne : (b' == b) = false)
    (K : ∀ a, Fr N ((d, undef) :: σ) a → wpList P ops Q rest a w) :
    wpList P ops Q (⟨some d, op, ty, pos, af, some (g, b)⟩ :: rest) a w := by
  have h1 : Region.wanted ⟨some d, op, ty, pos, af, some (g, b)⟩ (yielded ops a.tmps) = false := by
    simp only [Region.wanted, hy]; simpa using hne
  unfold wpList
  rw [h1]
  exact K _ (ha.put (Nat.le_of_ble_eq_true hd) _)
theorem op_unwant0 {d : Nat} {op : Op} {g : Nat} {b : Bool} (ha : Fr N σ a) (hd : Nat.ble (d + 1) N = true) (hy : yielded ops a.tmps g = none)
    (K : ∀ a, Fr N ((d, undef) :: σ) a → wpList P ops Q rest a w) :
    wpList P ops Q (⟨some d, op, ty, pos, af, some (g, b)⟩ :: rest) a w := by
  have h1 : Region.wanted ⟨some d, op, ty, pos, af, some (g, b)⟩ (yielded ops a.tmps) = false := by
    simp [Region.wanted, hy]
  unfold wpList
  rw [h1]
  exact K _ (ha.put (Nat.le_of_ble_eq_true hd) _)
theorem yields0 {l : List Oper} {g t : Nat} (ha : Fr N σ a) (hg : ((l[g]?).bind (·.dst)) = some t) (ht : lk σ t = some undef) : yielded l.toArray a.tmps g = none := by
  unfold yielded
  simp only [List.getElem?_toArray, hg, Option.bind_some, ha.get t _ ht]
  rfl
theorem yields {l : List Oper} {g t : Nat} {b : Bool} (ha : Fr N σ a) (hg : ((l[g]?).bind (·.dst)) = some t) (ht : lk σ t = some (.bool b)) : yielded l.toArray a.tmps g = some b := by
  unfold yielded
  simp only [List.getElem?_toArray, hg, Option.bind_some, ha.get t _ ht]
theorem o_box {e : TypeId} {x : Operand} {v : Value} {cs : List Value} (ha : Fr N σ a) (hd : Nat.ble (d + 1) N = true) (hx : ev σ x = some v) (hv : v.cells = cs.toArray)
    (K : ∀ b w', Bx w' b cs e → Ext w w' → w.heap.size ≤ b → ∀ a, Fr N ((d, .pointer (some ⟨b, 0, none⟩)) :: σ) a → wpList P ops Q rest a w') :
    wpList P ops Q (⟨some d, .box e x, ty, pos, af, none⟩ :: rest) a w := by
  refine o_runw (v := .pointer (some ⟨w.heap.size, 0, none⟩)) (w' := w.alloc (.cells cs.toArray e)) ha hd (fun g => ?_) (K _ _ ?_ (Ext.alloc _ _) (Nat.le_refl _))
  · simp [execOp, ha.eq hx, Instr.box, newVar, newRow, hv]
  · unfold Bx; exact heap_alloc_new w _
theorem o_alloc {e : TypeId} {z : Value} {cs : List Value} (ha : Fr N σ a) (hd : Nat.ble (d + 1) N = true) (hz : ∀ w, (zeroValue e).run P w = .ok z w) (hv : z.cells = cs.toArray)
    (K : ∀ b w', Bx w' b cs e → Ext w w' → w.heap.size ≤ b → ∀ a, Fr N ((d, .pointer (some ⟨b, 0, none⟩)) :: σ) a → wpList P ops Q rest a w') :
    wpList P ops Q (⟨some d, .alloc e, ty, pos, af, none⟩ :: rest) a w := by
  refine o_runw (v := .pointer (some ⟨w.heap.size, 0, none⟩)) (w' := w.alloc (.cells cs.toArray e)) ha hd (fun g => ?_) (K _ _ ?_ (Ext.alloc _ _) (Nat.le_refl _))
  · simp [execOp, Instr.alloc, hz, newVar, newRow, hv]
  · unfold Bx; exact heap_alloc_new w _
theorem o_storeB {T : TypeId} {x y : Operand} {b j : Nat} {cs : List Value} {e : TypeId} {v : Value} (ha : Fr N σ a) (hB : Bx w b cs e) (hsz : ∀ w, (sizeOf T).run P w = .ok 1 w)
    (hx : ev σ x = some (.pointer (some ⟨b, j, none⟩))) (hy : ev σ y = some v) (hv : v.cells = #[v]) (h1 : v.oneCell' = true) (hj : j < cs.length)
    (K : ∀ w', Bx w' b (cs.set j v) e → Chg [b] w w' → wpList P ops Q rest a w') :
    wpList P ops Q (⟨none, .store T x y, ty, pos, af, none⟩ :: rest) a w := by
  have hcell : w.cell? ⟨b, j, none⟩ = some cs[j] := hB.cell (by simp [hj])
  have hfz : w.frozen? ⟨b, j, none⟩ = false := by unfold Bx at hB; simp [World.frozen?, hB]
  have hst := run_store P w ⟨b, j, none⟩ v .plain h1
  rw [hcell] at hst; simp [hfz] at hst
  refine wl_skip (w' := w.setCell ⟨b, j, none⟩ v) rfl ?_ (K _ ?_ (Chg.setCell w ⟨b, j, none⟩ v))
  · simp [execOp, ha.eq hx, ha.eq hy, Instr.storeAt, Instr.sureAddr, storeVar, hsz, hv, storeCells, Addr.add_zero', hst]
  · unfold Bx at hB ⊢
    simp [World.setCell, Array.getElem?_modify, hB]
theorem o_storeA {T : TypeId} {x y : Operand} {b : Nat} {cs vs : List Value} {e : TypeId} (ha : Fr N σ a) (hB : Bx w b cs e) (hsz : ∀ w, (sizeOf T).run P w = .ok vs.length w)
    (hx : ev σ x = some (.pointer (some ⟨b, 0, none⟩))) (hy : ev σ y = some (.agg vs.toArray)) (h1 : ∀ v ∈ vs, v.oneCell' = true) (hl : vs.length = cs.length)
    (K : ∀ w', Bx w' b vs e → Chg [b] w w' → wpList P ops Q rest a w') :
    wpList P ops Q (⟨none, .store T x y, ty, pos, af, none⟩ :: rest) a w := by
  have hst := run_storeCells_at P b 0 e vs 0 cs.toArray w hB (by simp; omega) h1
  have hd : cs.drop vs.length = [] := List.drop_of_length_le (by omega)
  simp only [Nat.add_zero, Nat.zero_add, List.take_zero, hd, List.nil_append, List.append_nil] at hst
  refine wl_skip (w' := w.setRow b vs.toArray) rfl ?_ (K _ ?_ (Chg.setRow w b vs.toArray))
  · simp [execOp, ha.eq hx, ha.eq hy, Instr.storeAt, Instr.sureAddr, storeVar, hsz, Value.cells, hst]
  · unfold Bx at hB ⊢
    rw [setRow_heap w b cs.toArray _ e (0, 0) hB]
def evs (σ : Slots) : List Operand → Option (List Value)
  | [] => some []
  | x :: r => match ev σ x, evs σ r with | some v, some vs => some (v :: vs) | _, _ => none
theorem evs_map {l : List Operand} {vs : List Value} (ha : Fr N σ a) (h : evs σ l = some vs) : l.map a.eval = vs := by
  induction l generalizing vs with
  | nil => simp [evs] at h; simp [h]
  | cons x l ih =>
    simp only [evs] at h
    split at h
    · rename_i v vs' h1 h2
      have e := Option.some.inj h; subst e
      simp [ha.eq h1, ih h2]
    · cases h
theorem o_call {f : FuncId} {args : List Operand} {ats : Array TypeId} {vals : List Value} {R : Value → World → Prop} (ha : Fr N σ a) (hd : Nat.ble (d + 1) N = true) (hv : evs σ args = some vals)
    (hcf : ∀ args w, (callFunc f args).run P w = .ok (.enter f args) w) (hc : Calls P f vals.toArray w (Ret R))
    (K : ∀ v w', R v w' → ∀ a, Fr N ((d, v) :: σ) a → wpList P ops Q rest a w') :
    wpList P ops Q (⟨some d, .call { callee := .value (.func f), args := args.toArray, argTypes := ats }, ty, pos, af, none⟩ :: rest) a w := by
  refine wl_enter rfl ?_ hc (fun v w' hR => K v w' hR _ (ha.put (Nat.le_of_ble_eq_true hd) v))
  have e : a.eval (.func f) = .func (.func f) #[] #[] := rfl
  simp [execOp, resolve, e, Deferred.ofValue, invoke, evs_map ha hv, hcf]
theorem o_callv {f : FuncId} {g : Operand} {args : List Operand} {ats : Array TypeId} {vals cap : List Value} {R : Value → World → Prop} (ha : Fr N σ a) (hd : Nat.ble (d + 1) N = true) (hv : evs σ args = some vals)
    (hg : ev σ g = some (.func (.func f) #[] cap.toArray)) (hcf : ∀ args w, (callFunc f args).run P w = .ok (.enter f args) w) (hc : Calls P f (vals ++ cap).toArray w (Ret R))
    (K : ∀ v w', R v w' → ∀ a, Fr N ((d, v) :: σ) a → wpList P ops Q rest a w') :
    wpList P ops Q (⟨some d, .call { callee := .value g, args := args.toArray, argTypes := ats }, ty, pos, af, none⟩ :: rest) a w := by
  refine wl_enter rfl ?_ hc (fun v w' hR => K v w' hR _ (ha.put (Nat.le_of_ble_eq_true hd) v))
  simp [execOp, resolve, ha.eq hg, Deferred.ofValue, invoke, evs_map ha hv, hcf]
end walk
end Go.Proofs.YtmaaloijdjnblaaGreatDoor
