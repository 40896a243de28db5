/- Regions that draw their order. All operations only read: one walk in the text's order ('q_'). Else: step by step, the operations that only read first ('u_'). Of whatever program. -/
import Derived.Test.YtmaaloijdjnblaaGreatDoorCtl
import Derived.Deep.Quiet
import Derived.StillTail
namespace Go.Proofs.YtmaaloijdjnblaaGreatDoor
open Go Go.RowKit

section quiet
variable {P : Program} {ops : Array Oper} {Q : Exit → Act → World → Prop} {a : Act} {w : World} {rest : List Oper} {N : Nat} {σ : Slots} {K : Act → Prop}
variable {d : Nat} {ty : TypeId} {pos : String} {af : Array Edge}
theorem d_quiet {id : Nat} {l : List Oper} (hm : P.follows .mixedOrders = true) (hB : Region.lexB .any l.toArray = true)
    (h : wpQuiet P l.toArray (Ext w) (fun a' => ∀ w', Ext w w' → Q .normal a' w') l a) : (Code.region id l.toArray true).wp P Q a w :=
  wp_region_quiet (C := Ext w) hm hB (Ext.drew w) (by simpa using h)
theorem quietAt_of_gives {o : Op} {v : Value} {dst : Option Tmp} {g : Option (Nat × Bool)} (ha : Fr N σ a) (hG : Gives P (Ext w) σ o v) (C : World → Prop) (w' : World) (hw : Ext w w') :
    (⟨dst, o, ty, pos, af, g⟩ : Oper).quietAt P a C w' v := by
  unfold Oper.quietAt
  rw [hG N a w' ha hw]
  exact ⟨rfl, rfl⟩
theorem q_g {op : Op} {v : Value} (ha : Fr N σ a) (hd : Nat.ble (d + 1) N = true) (hG : Gives P (Ext w) σ op v)
    (h : ∀ a, Fr N ((d, v) :: σ) a → wpQuiet P ops (Ext w) K rest a) : wpQuiet P ops (Ext w) K (⟨some d, op, ty, pos, af, none⟩ :: rest) a := by
  refine wpQuiet_step fun K' hK => ?_
  simp only [Region.wanted, if_true]
  exact ⟨v, fun w' hw' => quietAt_of_gives ha hG _ w' hw', hK _ (h _ (ha.put (Nat.le_of_ble_eq_true hd) v))⟩
theorem q_want {dst : Option Tmp} {op : Op} {g : Nat} {b : Bool} (hy : yielded ops a.tmps g = some b) (h : wpQuiet P ops (Ext w) K (⟨dst, op, ty, pos, af, none⟩ :: rest) a) :
    wpQuiet P ops (Ext w) K (⟨dst, op, ty, pos, af, some (g, b)⟩ :: rest) a := by
  have h1 : Region.wanted ⟨dst, op, ty, pos, af, some (g, b)⟩ (yielded ops a.tmps) = true := by simp [Region.wanted, hy]
  have h2 : Region.wanted ⟨dst, op, ty, pos, af, none⟩ (yielded ops a.tmps) = true := rfl
  unfold wpQuiet at h ⊢
  rw [if_pos h2] at h
  rw [if_pos h1]
  exact h
theorem q_unwant {op : Op} {g : Nat} {b b' : Bool} (ha : Fr N σ a) (hd : Nat.ble (d + 1) N = true) (hy : yielded ops a.tmps g = some b') (hne : (b' == b) = false)
    (h : ∀ a, Fr N ((d, undef) :: σ) a → wpQuiet P ops (Ext w) K rest a) : wpQuiet P ops (Ext w) K (⟨some d, op, ty, pos, af, some (g, b)⟩ :: rest) a := by
  have h1 : Region.wanted ⟨some d, op, ty, pos, af, some (g, b)⟩ (yielded ops a.tmps) = false := by
    simp only [Region.wanted, hy]; simpa using hne
  unfold wpQuiet
  rw [h1]
  exact h _ (ha.put (Nat.le_of_ble_eq_true hd) _)
theorem q_unwant0 {op : Op} {g : Nat} {b : Bool} (ha : Fr N σ a) (hd : Nat.ble (d + 1) N = true) (hy : yielded ops a.tmps g = none)
    (h : ∀ a, Fr N ((d, undef) :: σ) a → wpQuiet P ops (Ext w) K rest a) : wpQuiet P ops (Ext w) K (⟨some d, op, ty, pos, af, some (g, b)⟩ :: rest) a := by
  have h1 : Region.wanted ⟨some d, op, ty, pos, af, some (g, b)⟩ (yielded ops a.tmps) = false := by
    simp [Region.wanted, hy]
  unfold wpQuiet
  rw [h1]
  exact h _ (ha.put (Nat.le_of_ble_eq_true hd) _)
theorem quietAt_of_call {f : FuncId} {args : List Operand} {ats : Array TypeId} {vals : List Value} {v : Value} {dst : Option Tmp} {g : Option (Nat × Bool)} (ha : Fr N σ a) (hv : evs σ args = some vals)
    (hcf : ∀ args w, (callFunc f args).run P w = .ok (.enter f args) w) (C : World → Prop) (w' : World) (hc : Calls P f vals.toArray w' (fun e w'' => e = .returned v ∧ C w'')) :
    (⟨dst, .call { callee := .value (.func f), args := args.toArray, argTypes := ats }, ty, pos, af, g⟩ : Oper).quietAt P a C w' v := by
  have e : a.eval (.func f) = .func (.func f) #[] #[] := rfl
  have hr : (execOp a.eval ⟨dst, .call { callee := .value (.func f), args := args.toArray, argTypes := ats }, ty, pos, af, g⟩).run P w' = .ok (.enter f vals.toArray) w' := by
    simp [execOp, resolve, e, Deferred.ofValue, invoke, evs_map ha hv, hcf]
  unfold Oper.quietAt
  rw [hr]
  exact ⟨rfl, hc⟩
theorem calls_quiet {f : FuncId} {args : Array Value} {w' : World} {R : Value → World → Prop} {v : Value} (hw : Ext w w') (h : Calls P f args w' (Ret R)) (hR : ∀ u w'', R u w'' → u = v ∧ Ext w' w'') :
    Calls P f args w' (fun e w'' => e = .returned v ∧ Ext w w'') :=
  h.mono fun e w'' ⟨u, he, hr⟩ => by obtain ⟨h1, h2⟩ := hR u w'' hr; subst h1; exact ⟨he, hw.trans h2⟩
theorem q_call {f : FuncId} {args : List Operand} {ats : Array TypeId} {vals : List Value} {R : World → Value → World → Prop} (v : Value) (ha : Fr N σ a) (hd : Nat.ble (d + 1) N = true) (hv : evs σ args = some vals)
    (hcf : ∀ args w, (callFunc f args).run P w = .ok (.enter f args) w) (hc : ∀ w', Ext w w' → Calls P f vals.toArray w' (Ret (R w'))) (hR : ∀ w' u w'', R w' u w'' → u = v ∧ Ext w' w'')
    (h : ∀ a, Fr N ((d, v) :: σ) a → wpQuiet P ops (Ext w) K rest a) :
    wpQuiet P ops (Ext w) K (⟨some d, .call { callee := .value (.func f), args := args.toArray, argTypes := ats }, ty, pos, af, none⟩ :: rest) a := by
  refine wpQuiet_step fun K' hK => ?_
  simp only [Region.wanted, if_true]
  exact ⟨v, fun w' hw' => quietAt_of_call ha hv hcf _ w' (calls_quiet hw' (hc w' hw') (hR w')), hK _ (h _ (ha.put (Nat.le_of_ble_eq_true hd) v))⟩
theorem q_nil (h : ∀ w', Ext w w' → Q .normal a w') : wpQuiet P ops (Ext w) (fun a' => ∀ w', Ext w w' → Q .normal a' w') [] a := h
end quiet

/-! ## other regions: 'n': operations that only add to memory -/
def headDone (n : List Nat) (listed : Array Bool) : Bool := n.all fun i => listed.getD i true
theorem getD_both' {listed : Array Bool} {i : Nat} (h : listed.getD i false = true) : listed.getD i true = true := by
  rcases Nat.lt_or_ge i listed.size with h' | h'
  · simp [h'] at h ⊢; exact h
  · simp [Array.getElem?_eq_none h'] at h
def predsOf (ops : Array Oper) (t : Nat) : List Nat := match ops[t]? with | none => [] | some o => (o.after.toList.filter (Region.binds .any ·)).map (·.on)
def mark1 (ops : Array Oper) (S : List Nat) (m : Nat) : List Nat := if S.contains m then predsOf ops m ++ S else S
def down (ops : Array Oper) (t : Nat) : List Nat := (List.range ops.size).reverse.foldl (mark1 ops) (predsOf ops t)
def sinkAll (ops : Array Oper) (n : List Nat) (listed : Array Bool) : Bool :=
  (List.range ops.size).all fun t => listed.getD t true || n.contains t || n.all fun i => (down ops t).contains i
def Closed (ops : Array Oper) (listed : Array Bool) : Prop := ∀ t, t < ops.size → listed.getD t true = true → ∀ m ∈ predsOf ops t, listed.getD m true = true
def closedB (ops : Array Oper) (listed : Array Bool) : Bool := (List.range ops.size).all fun t => !(listed.getD t true) || (predsOf ops t).all fun m => listed.getD m true
theorem closed_of {ops : Array Oper} {listed : Array Bool} (h : closedB ops listed = true) : Closed ops listed := fun t ht hl m hm => by
  have h1 := List.all_eq_true.1 h t (List.mem_range.2 ht)
  rw [hl] at h1
  simp only [Bool.not_true, Bool.false_or] at h1
  exact List.all_eq_true.1 h1 m hm
theorem down_listed {ops : Array Oper} {listed : Array Bool} (hc : Closed ops listed) (t : Nat) (ht : ∀ m ∈ predsOf ops t, listed.getD m true = true) : ∀ m ∈ down ops t, listed.getD m true = true := by
  have key : ∀ (l : List Nat) (S : List Nat), (∀ m ∈ l, m < ops.size) → (∀ m ∈ S, listed.getD m true = true) → ∀ m ∈ l.foldl (mark1 ops) S, listed.getD m true = true := by
    intro l
    induction l with
    | nil => intro S _ hS; exact hS
    | cons x l ih =>
      intro S hl hS
      refine ih _ (fun m hm => hl m (by simp [hm])) (fun m hm => ?_)
      unfold mark1 at hm
      split at hm
      · rename_i hx
        have hx' : x ∈ S := by simpa using hx
        rcases List.mem_append.1 hm with g | g
        · exact hc x (hl x (by simp)) (hS x hx') m g
        · exact hS m g
      · exact hS m hm
  exact key _ _ (fun m hm => by simpa using hm) ht
theorem mem_preds {ops : Array Oper} {t : Nat} {o : Oper} (h : ops[t]? = some o) {m : Nat} (hm : m ∈ predsOf ops t) : ∃ e ∈ o.after, Region.binds .any e = true ∧ e.on = m := by
  unfold predsOf at hm
  rw [h] at hm
  simp only [List.mem_map, List.mem_filter] at hm
  obtain ⟨e, ⟨he, hb⟩, hon⟩ := hm
  exact ⟨e, by simpa using he, hb, hon⟩
def Qf : Exit → Act → World → Prop := fun _ _ _ => False
theorem wpOp_exf {P : Program} {ops : Array Oper} {Q : Exit → Act → World → Prop} {i : Nat} {K : Act → World → Prop} {a : Act} {w : World} (h : wpOp P ops Qf i K a w) : wpOp P ops Q i K a w := by
  unfold wpOp at *
  split
  · simpa [*] using h
  · rename_i o ho
    simp only [ho] at h
    split
    · rename_i hw
      simp only [hw, if_true] at h
      rcases h with h | ⟨_, a', w', hf⟩
      · refine .inl ?_
        unfold Oper.wp at *
        generalize (execOp a.eval o).run P w = r at *
        cases r with
        | ok n w' =>
          cases n <;> simp only [Oper.upon] at h ⊢
          case value u => exact h
          case skip => exact h
          case defer d => exact h
          case enter f args =>
            refine Calls.mono h fun e w'' he => ?_
            cases e with
            | returned u => exact he
            | panicked c => exact he.elim
            | outgrown => obtain ⟨_, _, hf⟩ := he; exact hf.elim
          case row row args => exact h
        | halt x w' =>
          cases x <;> simp only [Oper.upon] at h ⊢
          case panic u => exact h.elim
      · exact hf.elim
    · rename_i hw; simp only [hw] at h; exact h
theorem wpOp_putY {P : Program} {ops : Array Oper} {j : Nat} {oi oj : Oper} {v : Value} (hj : ops[j]? = some oj) (hap : oi.apart ops oj = true)
    (hsj : ∀ cs b, oj.op ≠ .select cs b) {Y : Act → Prop} {K : Act → World → Prop} {a : Act} {w : World}
    (hY : ∀ u, Y (a.put oj.dst u)) (hYd : ∀ d u, Y (({ a with defers := d :: a.defers } : Act).put oj.dst u)) (h : wpOp P ops Qf j K (a.put oi.dst v) w) :
    wpOp P ops Qf j (fun a' w' => Y a' ∧ K (a'.put oi.dst v) w') a w := by
  obtain ⟨h1, h2, h3⟩ := Oper.apart_spec hap
  unfold wpOp at *
  simp only [hj] at *
  rw [wanted_put oj a oi.dst v h1] at h
  split
  · rename_i hw
    simp only [hw, if_true] at h
    rcases h with h | ⟨_, _, _, hf⟩
    case inr => exact hf.elim
    refine .inl ?_
    unfold Oper.wp at *
    rw [execOp_put oj hsj a oi.dst v h1] at h
    generalize (execOp a.eval oj).run P w = r at *
    cases r with
    | ok n w' =>
      cases n <;> simp only [Oper.upon] at h ⊢
      case value u => exact ⟨hY u, by rw [← Act.put_comm a v u h2]; exact h⟩
      case skip => exact ⟨hY _, by rw [← Act.put_comm a v undef h2]; exact h⟩
      case defer d =>
        refine ⟨hYd d _, ?_⟩
        rw [← Act.put_comm _ v undef h2, ← Act.put_defers]
        exact h
      case enter f args =>
        refine Calls.mono h fun e w'' he => ?_
        cases e with
        | returned u => exact ⟨hY u, by rw [← Act.put_comm a v u h2]; exact he⟩
        | panicked c => exact he.elim
        | outgrown => exact he
      case row row args => exact Rows.mono h fun u w'' he => ⟨hY u, by rw [← Act.put_comm a v u h2]; exact he⟩
    | halt x w' =>
      cases x <;> simp only [Oper.upon] at h ⊢
      case panic u => exact h.elim
  · rename_i hw
    simp only [hw] at h
    exact ⟨hY _, by rw [← Act.put_comm a v undef h2]; exact h⟩
def QY (P : Program) (ops : Array Oper) (o : Oper) (v : Value) (a : Act) (w : World) : Prop :=
  (Region.wanted o (yielded ops a.tmps) = true ∧ ∀ w', Ext w w' → o.quietAt P a (Ext w') w' v) ∨ (Region.wanted o (yielded ops a.tmps) = false ∧ v = undef)
def gU (P : Program) (ops : Array Oper) (Q : Exit → Act → World → Prop) (n : List Nat) : Nat → Array Bool → Act → World → Prop
  | 0, listed, a, w => ∀ w', Ext w w' → Region.ready .any ops listed = [] ∧ Q .normal a w'
  | f + 1, listed, a, w => ∀ w', Ext w w' → (Region.ready .any ops listed = [] → Q .normal a w') ∧
      ∀ i ∈ Region.ready .any ops listed, wpOp P ops Qf i (fun a' w'' => (headDone n listed = false → Ext w' w'') ∧ gU P ops Q n f (listed.setIfInBounds i true) a' w'') a w'
section
variable {P : Program} {ops : Array Oper} {Q : Exit → Act → World → Prop} {a : Act} {w : World} {n : List Nat}
theorem QY.up {o : Oper} {v : Value} {w' : World} (h : QY P ops o v a w) (hx : Ext w w') : QY P ops o v a w' :=
  h.imp (fun ⟨h1, h2⟩ => ⟨h1, fun w2 h3 => h2 w2 (hx.trans h3)⟩) id
theorem QY.same {o : Oper} {v : Value} {a' : Act} (h : QY P ops o v a w) (he : execOp a'.eval o = execOp a.eval o)
    (hw : Region.wanted o (yielded ops a'.tmps) = Region.wanted o (yielded ops a.tmps)) : QY P ops o v a' w := by
  unfold QY Oper.quietAt at *
  rw [he, hw]; exact h
theorem QY.wp {i : Nat} {o : Oper} {v : Value} {w' : World} {K : Act → World → Prop} (hi : ops[i]? = some o) (h : QY P ops o v a w) (hx : Ext w w') (hk : ∀ w'', Ext w' w'' → K (a.put o.dst v) w'') :
    wpOp P ops Qf i K a w' := by
  unfold wpOp
  simp only [hi]
  rcases h with ⟨hw, hq⟩ | ⟨hw, rfl⟩
  · simp only [hw, if_true]
    refine .inl ?_
    have h3 := hq w' hx
    unfold Oper.quietAt at h3
    unfold Oper.wp
    generalize (execOp a.eval o).run P w' = r at *
    cases r with
    | ok m w2 =>
      cases m <;> simp only [Oper.quietUpon] at h3 <;> simp only [Oper.upon]
      case value u => obtain ⟨e1, e2⟩ := h3; rw [e1, e2]; exact hk _ (Chg.refl _ _)
      case skip => obtain ⟨e1, e2⟩ := h3; rw [e1, ← e2]; exact hk _ (Chg.refl _ _)
      case enter f args =>
        obtain ⟨e1, hc⟩ := h3
        rw [e1]
        exact hc.mono fun e w'' ⟨he, hw''⟩ => by subst he; exact hk _ hw''
    | halt x w2 => simp only [Oper.quietUpon] at h3
  · simp only [hw, Bool.false_eq_true, if_false]; exact hk _ (Chg.refl _ _)
theorem gU_up : ∀ {f : Nat} {listed : Array Bool} {a : Act} {w w' : World}, gU P ops Q n f listed a w → Ext w w' → gU P ops Q n f listed a w'
  | 0, _, _, _, _, h, hx => fun w2 h2 => h w2 (hx.trans h2)
  | f + 1, _, _, _, _, h, hx => fun w2 h2 => h w2 (hx.trans h2)
theorem gU_any : ∀ {f : Nat} {listed : Array Bool} {a : Act} {w : World}, gU P ops Q n f listed a w → wpAny P .any ops Q f listed a w
  | 0, _, _, w, h => h w (Chg.refl _ _)
  | f + 1, _, _, w, h => by
    obtain ⟨h1, h2⟩ := h w (Chg.refl _ _)
    exact ⟨h1, fun i hi => wpOp_exf (wpOp_mono (fun a' w' h' => gU_any h'.2) (h2 i hi))⟩
theorem headDone_not {i : Nat} {listed : Array Bool} (hi : i ∈ n) (h : listed.getD i true = false) : headDone n listed = false := by
  unfold headDone
  cases hd : n.all fun i => listed.getD i true with
  | false => rfl
  | true =>
    have := List.all_eq_true.1 hd i hi
    rw [h] at this; cases this
theorem sinkAll_mono {listed : Array Bool} {j : Nat} (h : sinkAll ops n listed = true) : sinkAll ops n (listed.setIfInBounds j true) = true := by
  unfold sinkAll at *
  refine List.all_eq_true.2 fun t ht => ?_
  have g := List.all_eq_true.1 h t ht
  rw [Bool.or_eq_true, Bool.or_eq_true] at g ⊢
  rcases g with (g | g) | g
  · refine .inl (.inl ?_)
    by_cases e : j = t
    · subst e
      rcases Nat.lt_or_ge j listed.size with e | e
      · simp [Array.getD_eq_getD_getElem?, e]
      · simp [Array.getD_eq_getD_getElem?, e]
    · rw [getD_set_ne true e]; exact g
  · exact .inl (.inr g)
  · exact .inr g
theorem gU_first {i : Nat} {oi : Oper} {v : Value} (hi : ops[i]? = some oi) (hin : i ∈ n) (hsel : ∀ (j : Nat) (o : Oper) cs b, ops[j]? = some o → o.op ≠ .select cs b) :
    ∀ (f : Nat) (listed : Array Bool) (a : Act) (w : World), Closed ops listed → sinkAll ops n listed = true →
      (∀ j oj, ops[j]? = some oj → j ≠ i → listed.getD j true = false → (∀ e ∈ oj.after, Region.binds .any e = true → e.on ≠ i) → oi.apart ops oj = true) →
      i ∈ Region.ready .any ops listed → QY P ops oi v a w →
      gU P ops Q n f (listed.setIfInBounds i true) (a.put oi.dst v) w → gU P ops Q n (f + 1) listed a w := by
  intro f
  induction f with
  | zero =>
    intro listed a w _ _ _ hr hy H w' hx
    refine ⟨fun h => (by rw [h] at hr; cases hr), fun j hj => ?_⟩
    by_cases hji : j = i
    · subst hji
      exact hy.wp hi hx (fun w'' hw'' => ⟨fun _ => hw'', gU_up H (hx.trans hw'')⟩)
    · have := ready_mono hj hji
      rw [(H w' hx).1] at this
      cases this
  | succ f ih =>
    intro listed a w hclo hsink hfree hr hy H w' hx
    have hun := (mem_ready.1 hr).1
    refine ⟨fun h => (by rw [h] at hr; cases hr), fun j hj => ?_⟩
    by_cases hji : j = i
    · subst hji
      exact hy.wp hi hx (fun w'' hw'' => ⟨fun _ => hw'', gU_up H (hx.trans hw'')⟩)
    · have h1 := (H w' hx).2 j (ready_mono hj hji)
      obtain ⟨hjun, oj, hoj, hall⟩ := mem_ready.1 hj
      have hnot : ∀ e ∈ oj.after, Region.binds .any e = true → e.on ≠ i := fun e he hb heq => by
        have g := hall e he hb
        rw [heq, getD_both hun] at g
        cases g
      have hjn : j ∈ n := by
        have hjs : j < ops.size := (Array.getElem?_eq_some_iff.1 hoj).1
        have g1 := List.all_eq_true.1 hsink j (List.mem_range.2 hjs)
        rw [Bool.or_eq_true, Bool.or_eq_true] at g1
        rcases g1 with (g1 | g1) | g1
        · rw [hjun] at g1; cases g1
        · simpa using g1
        · exfalso
          have g2 := List.all_eq_true.1 g1 i hin
          have g3 := down_listed hclo j (fun m hm => by
            obtain ⟨e, he, hb, hon⟩ := mem_preds hoj hm
            rw [← hon]; exact getD_both' (hall e he hb)) i (by simpa using g2)
          rw [hun] at g3; cases g3
      have hclo' : Closed ops (listed.setIfInBounds j true) := fun t ht hl m hm => by
        by_cases hmj : j = m
        · subst hmj
          have hjs : j < listed.size := by
            rcases Nat.lt_or_ge j listed.size with e | e
            · exact e
            · rw [Array.getD_eq_getD_getElem?, Array.getElem?_eq_none e] at hjun; cases hjun
          simp [Array.getD_eq_getD_getElem?, hjs]
        · rw [getD_set_ne true hmj]
          by_cases htj : j = t
          · subst htj
            obtain ⟨e, he, hb, hon⟩ := mem_preds hoj hm
            rw [← hon]; exact getD_both' (hall e he hb)
          · rw [getD_set_ne true htj] at hl
            exact hclo t ht hl m hm
      have hap := hfree j oj hoj hji hjun hnot
      obtain ⟨_, _, h3⟩ := Oper.apart_spec hap
      have hsi := fun cs b => hsel i oi cs b hi
      have h2 := wpOp_putY (Y := fun a' => QY P ops oi v a' w) hoj hap (fun cs b => hsel j oj cs b hoj)
        (fun u => hy.same (execOp_put oi hsi a oj.dst u h3) (wanted_put oi a oj.dst u h3))
        (fun d u => (hy.same (a' := { a with defers := d :: a.defers }) rfl rfl).same (execOp_put oi hsi _ oj.dst u h3) (wanted_put oi _ oj.dst u h3)) h1
      have hnd : headDone n listed = false := headDone_not hin hun
      have hfree' : ∀ k ok, ops[k]? = some ok → k ≠ i → (listed.setIfInBounds j true).getD k true = false →
          (∀ e ∈ ok.after, Region.binds .any e = true → e.on ≠ i) → oi.apart ops ok = true := fun k ok hk hki hun' hno => by
        refine hfree k ok hk hki ?_ hno
        by_cases hjk : j = k
        · subst hjk; exact hjun
        · rw [getD_set_ne true hjk] at hun'; exact hun'
      by_cases hd : headDone n (listed.setIfInBounds i true) = true
      · -- the head is done but for i, so j (below n, not i) is listed already
        exfalso
        have g := List.all_eq_true.1 hd j hjn
        rw [getD_set_ne true (fun e => hji e.symm), hjun] at g
        cases g
      · have hd' : headDone n (listed.setIfInBounds i true) = false := by simpa using hd
        refine wpOp_mono (fun a' w'' h4 => ?_) h2
        obtain ⟨hya, h5, h6⟩ := h4
        have hx2 := h5 hd'
        refine ⟨fun _ => hx2, ih _ a' w'' hclo' (sinkAll_mono hsink) hfree' (ready_mono hr (Ne.symm hji)) (hya.up (hx.trans hx2)) ?_⟩
        rw [Array.setIfInBounds_comm _ _ hji]
        exact h6
theorem gU_pure {i : Nat} {oi : Oper} {v : Value} (hi : ops[i]? = some oi) (hin : i ∉ n) (hsel : ∀ (j : Nat) (o : Oper) cs b, ops[j]? = some o → o.op ≠ .select cs b) :
    ∀ (f : Nat) (listed : Array Bool) (a : Act) (w : World),
      (∀ j oj, ops[j]? = some oj → j ≠ i → listed.getD j true = false → (∀ e ∈ oj.after, Region.binds .any e = true → e.on ≠ i) → oi.apart ops oj = true) →
      i ∈ Region.ready .any ops listed → (∀ w, QY P ops oi v a w) →
      gU P ops Q n f (listed.setIfInBounds i true) (a.put oi.dst v) w → gU P ops Q n (f + 1) listed a w := by
  intro f
  induction f with
  | zero =>
    intro listed a w _ hr hy H w' hx
    refine ⟨fun h => (by rw [h] at hr; cases hr), fun j hj => ?_⟩
    by_cases hji : j = i
    · subst hji
      exact (hy w).wp hi hx (fun w'' hw'' => ⟨fun _ => hw'', gU_up H (hx.trans hw'')⟩)
    · have := ready_mono hj hji
      rw [(H w' hx).1] at this
      cases this
  | succ f ih =>
    intro listed a w hfree hr hy H w' hx
    have hun := (mem_ready.1 hr).1
    refine ⟨fun h => (by rw [h] at hr; cases hr), fun j hj => ?_⟩
    by_cases hji : j = i
    · subst hji
      exact (hy w).wp hi hx (fun w'' hw'' => ⟨fun _ => hw'', gU_up H (hx.trans hw'')⟩)
    · have h1 := (H w' hx).2 j (ready_mono hj hji)
      obtain ⟨hjun, oj, hoj, hall⟩ := mem_ready.1 hj
      have hnot : ∀ e ∈ oj.after, Region.binds .any e = true → e.on ≠ i := fun e he hb heq => by
        have g := hall e he hb
        rw [heq, getD_both hun] at g
        cases g
      have hap := hfree j oj hoj hji hjun hnot
      obtain ⟨_, _, h3⟩ := Oper.apart_spec hap
      have hsi := fun cs b => hsel i oi cs b hi
      have h2 := wpOp_putY (Y := fun a' => ∀ w, QY P ops oi v a' w) hoj hap (fun cs b => hsel j oj cs b hoj)
        (fun u w2 => (hy w2).same (execOp_put oi hsi a oj.dst u h3) (wanted_put oi a oj.dst u h3))
        (fun d u w2 => ((hy w2).same (a' := { a with defers := d :: a.defers }) rfl rfl).same (execOp_put oi hsi _ oj.dst u h3) (wanted_put oi _ oj.dst u h3)) h1
      have hfree' : ∀ k ok, ops[k]? = some ok → k ≠ i → (listed.setIfInBounds j true).getD k true = false →
          (∀ e ∈ ok.after, Region.binds .any e = true → e.on ≠ i) → oi.apart ops ok = true := fun k ok hk hki hun' hno => by
        refine hfree k ok hk hki ?_ hno
        by_cases hjk : j = k
        · subst hjk; exact hjun
        · rw [getD_set_ne true hjk] at hun'; exact hun'
      have hhd : headDone n (listed.setIfInBounds i true) = headDone n listed := by
        unfold headDone
        rw [Bool.eq_iff_iff, List.all_eq_true, List.all_eq_true]
        have e : ∀ x ∈ n, (listed.setIfInBounds i true).getD x true = listed.getD x true := fun x hx => getD_set_ne true (fun e => hin (by rw [e]; exact hx))
        exact ⟨fun h x hx => by rw [← e x hx]; exact h x hx, fun h x hx => by rw [e x hx]; exact h x hx⟩
      refine wpOp_mono (fun a' w'' h4 => ?_) h2
      obtain ⟨hya, h5, h6⟩ := h4
      refine ⟨fun hd => h5 (by rw [hhd]; exact hd), ih _ a' w'' hfree' (ready_mono hr (Ne.symm hji)) hya ?_⟩
      rw [Array.setIfInBounds_comm _ _ hji]
      exact h6
end
section
variable {P : Program} {Q : Exit → Act → World → Prop} {a : Act} {w : World} {n : List Nat} {N f i d : Nat} {σ : Slots} {l : List Oper} {listed : Array Bool}
variable {ty : TypeId} {pos : String} {af : Array Edge}
theorem d_region {id : Nat} (n : List Nat) (hm : P.follows .mixedOrders = true) (h : gU P l.toArray Q n l.length (Array.replicate l.length false) a w) : (Code.region id l.toArray true).wp P Q a w := by
  refine wp_region_any hm ?_
  have := gU_any (gU_up h (Ext.drew w))
  simpa using this
def may (l : List Oper) (n : List Nat) (listed : Array Bool) (i : Nat) : Bool :=
  (Region.ready .any l.toArray listed).contains i && Region.free .any l.toArray listed i && Region.noSelect l.toArray && sinkAll l.toArray n listed && n.contains i && closedB l.toArray listed
theorem u_first {o : Oper} {v : Value} (i : Nat) (hi : l[i]? = some o) (hb : may l n listed i = true) (hy : QY P l.toArray o v a w)
    (h : gU P l.toArray Q n f (listed.setIfInBounds i true) (a.put o.dst v) w) : gU P l.toArray Q n (f + 1) listed a w := by
  unfold may at hb
  simp only [Bool.and_eq_true] at hb
  obtain ⟨⟨⟨⟨⟨hr, hf⟩, hs⟩, hk⟩, hn⟩, hc⟩ := hb
  have hi' : l.toArray[i]? = some o := by simpa using hi
  exact gU_first hi' (by simpa using hn) (Region.noSelect_spec hs) f listed a w (closed_of hc) hk (Region.free_spec hi' hf) (by simpa using hr) hy h
def mayP (l : List Oper) (n : List Nat) (listed : Array Bool) (i : Nat) : Bool :=
  (Region.ready .any l.toArray listed).contains i && Region.free .any l.toArray listed i && Region.noSelect l.toArray && !(n.contains i)
theorem want0 {dst : Option Tmp} {op : Op} (y : Nat → Option Bool) : Region.wanted ⟨dst, op, ty, pos, af, none⟩ y = true := rfl
theorem u_g {op : Op} {v : Value} {gd : Option (Nat × Bool)} (i : Nat) (hi : l[i]? = some ⟨some d, op, ty, pos, af, gd⟩) (hb : may l n listed i = true)
    (hw : Region.wanted ⟨some d, op, ty, pos, af, gd⟩ (yielded l.toArray a.tmps) = true) (ha : Fr N σ a) (hd : Nat.ble (d + 1) N = true) (hG : Gives P (Ext w) σ op v)
    (h : ∀ a, Fr N ((d, v) :: σ) a → gU P l.toArray Q n f (listed.setIfInBounds i true) a w) : gU P l.toArray Q n (f + 1) listed a w :=
  u_first i hi hb (.inl ⟨hw, fun w' hw' => quietAt_of_gives ha hG _ w' hw'⟩) (h _ (ha.put (Nat.le_of_ble_eq_true hd) v))
theorem u_p {op : Op} {v : Value} {gd : Option (Nat × Bool)} (i : Nat) (hi : l[i]? = some ⟨some d, op, ty, pos, af, gd⟩) (hb : mayP l n listed i = true)
    (hw : Region.wanted ⟨some d, op, ty, pos, af, gd⟩ (yielded l.toArray a.tmps) = true) (ha : Fr N σ a) (hd : Nat.ble (d + 1) N = true) (hG : ∀ w, Gives P (Ext w) σ op v)
    (h : ∀ a, Fr N ((d, v) :: σ) a → gU P l.toArray Q n f (listed.setIfInBounds i true) a w) : gU P l.toArray Q n (f + 1) listed a w := by
  unfold mayP at hb
  simp only [Bool.and_eq_true] at hb
  obtain ⟨⟨⟨hr, hf⟩, hs⟩, hn⟩ := hb
  have hi' : l.toArray[i]? = some ⟨some d, op, ty, pos, af, gd⟩ := by simpa using hi
  exact gU_pure hi' (by simpa using hn) (Region.noSelect_spec hs) f listed a w (Region.free_spec hi' hf) (by simpa using hr) (fun w => .inl ⟨hw, fun w' hw' => quietAt_of_gives ha (hG w) _ w' hw'⟩) (h _ (ha.put (Nat.le_of_ble_eq_true hd) v))
theorem u_call {g : FuncId} {args : List Operand} {ats : Array TypeId} {vals : List Value} {R : World → Value → World → Prop} {gd : Option (Nat × Bool)} (v : Value) (i : Nat)
    (hi : l[i]? = some ⟨some d, .call { callee := .value (.func g), args := args.toArray, argTypes := ats }, ty, pos, af, gd⟩) (hb : may l n listed i = true)
    (hw : Region.wanted ⟨some d, .call { callee := .value (.func g), args := args.toArray, argTypes := ats }, ty, pos, af, gd⟩ (yielded l.toArray a.tmps) = true)
    (ha : Fr N σ a) (hd : Nat.ble (d + 1) N = true) (hv : evs σ args = some vals)
    (hcf : ∀ args w, (callFunc g args).run P w = .ok (.enter g args) w) (hc : ∀ w', Ext w w' → Calls P g vals.toArray w' (Ret (R w'))) (hR : ∀ w' u w'', R w' u w'' → u = v ∧ Ext w' w'')
    (h : ∀ a, Fr N ((d, v) :: σ) a → gU P l.toArray Q n f (listed.setIfInBounds i true) a w) : gU P l.toArray Q n (f + 1) listed a w :=
  u_first i hi hb (.inl ⟨hw, fun w' hw' => quietAt_of_call ha hv hcf _ w' (calls_quiet (Chg.refl _ _) (hc w' hw') (hR w'))⟩) (h _ (ha.put (Nat.le_of_ble_eq_true hd) v))
theorem u_only {o : Oper} (i : Nat) (hi : l[i]? = some o) (hr : Region.ready .any l.toArray listed = [i])
    (h : ∀ w', Ext w w' → wpList P l.toArray (SQ (fun a' w'' => (headDone n listed = false → Ext w' w'') ∧ gU P l.toArray Q n f (listed.setIfInBounds i true) a' w'') Qf) [o] a w') :
    gU P l.toArray Q n (f + 1) listed a w := by
  have hi' : l.toArray[i]? = some o := by simpa using hi
  intro w' hx
  refine ⟨fun h0 => (by rw [hr] at h0; cases h0), fun j hj => ?_⟩
  rw [hr] at hj
  have hji : j = i := by simpa using hj
  subst hji
  have h1 := h w' hx
  unfold wpOp
  simp only [hi']
  simp only [wpList] at h1
  split at h1
  · rename_i hw
    rw [if_pos hw]
    rcases h1 with h1 | ⟨_, a', w', hf⟩
    · refine .inl ?_
      have h2 : o.wp P a w' (fun a' w'' => (headDone n listed = false → Ext w' w'') ∧ gU P l.toArray Q n f (listed.setIfInBounds j true) a' w'') (SQ (fun a' w'' => (headDone n listed = false → Ext w' w'') ∧ gU P l.toArray Q n f (listed.setIfInBounds j true) a' w'') Qf) := h1
      unfold Oper.wp at *
      generalize (execOp a.eval o).run P w' = r at *
      cases r with
      | ok m w2 =>
        cases m <;> simp only [Oper.upon] at h2 ⊢
        case value u => exact h2
        case skip => exact h2
        case defer d => exact h2
        case enter f args =>
          refine Calls.mono h2 fun e w'' he => ?_
          cases e with
          | returned u => exact he
          | panicked c => exact he.elim
          | outgrown => obtain ⟨_, _, hf⟩ := he; exact hf.elim
        case row row args => exact h2
      | halt x w2 =>
        cases x <;> simp only [Oper.upon] at h2 ⊢
        case panic u => exact h2.elim
    · exact hf.elim
  · rename_i hw
    rw [if_neg hw]
    exact h1
def Each : List Nat → (Nat → Prop) → Prop
  | [], _ => True
  | i :: r, p => p i ∧ Each r p
theorem Each.all {p : Nat → Prop} : ∀ {is : List Nat}, Each is p → ∀ i ∈ is, p i
  | [], _, _, h => nomatch h
  | j :: r, ⟨h1, h2⟩, i, h => by
    rcases List.mem_cons.1 h with e | e
    · subst e; exact h1
    · exact Each.all h2 i e
theorem u_many (is : List Nat) (hr : Region.ready .any l.toArray listed = is) (hne : is.isEmpty = false)
    (h : ∀ w', Ext w w' → Each is fun i => ∃ o, l[i]? = some o ∧ wpList P l.toArray (SQ (fun a' w'' => (headDone n listed = false → Ext w' w'') ∧ gU P l.toArray Q n f (listed.setIfInBounds i true) a' w'') Qf) [o] a w') :
    gU P l.toArray Q n (f + 1) listed a w := by
  intro w' hx
  refine ⟨fun h0 => (by rw [hr] at h0; subst h0; cases hne), fun j hj => ?_⟩
  rw [hr] at hj
  obtain ⟨o, hi, h1⟩ := (h w' hx).all j hj
  have hi' : l.toArray[j]? = some o := by simpa using hi
  unfold wpOp
  simp only [hi']
  simp only [wpList] at h1
  split at h1
  · rename_i hw
    rw [if_pos hw]
    rcases h1 with h1 | ⟨_, a', w', hf⟩
    · refine .inl ?_
      have h2 : o.wp P a w' (fun a' w'' => (headDone n listed = false → Ext w' w'') ∧ gU P l.toArray Q n f (listed.setIfInBounds j true) a' w'') (SQ (fun a' w'' => (headDone n listed = false → Ext w' w'') ∧ gU P l.toArray Q n f (listed.setIfInBounds j true) a' w'') Qf) := h1
      unfold Oper.wp at *
      generalize (execOp a.eval o).run P w' = r at *
      cases r with
      | ok m w2 =>
        cases m <;> simp only [Oper.upon] at h2 ⊢
        case value u => exact h2
        case skip => exact h2
        case defer d => exact h2
        case enter f args =>
          refine Calls.mono h2 fun e w'' he => ?_
          cases e with
          | returned u => exact he
          | panicked c => exact he.elim
          | outgrown => obtain ⟨_, _, hf⟩ := he; exact hf.elim
        case row row args => exact h2
      | halt x w2 =>
        cases x <;> simp only [Oper.upon] at h2 ⊢
        case panic u => exact h2.elim
    · exact hf.elim
  · rename_i hw
    rw [if_neg hw]
    exact h1
theorem u_done (hr : Region.ready .any l.toArray listed = []) (h : ∀ w', Ext w w' → Q .normal a w') : gU P l.toArray Q n f listed a w := by
  cases f with
  | zero => exact fun w' hx => ⟨hr, h w' hx⟩
  | succ f => exact fun w' hx => ⟨fun _ => h w' hx, fun i hi => by rw [hr] at hi; cases hi⟩
end
end Go.Proofs.YtmaaloijdjnblaaGreatDoor
