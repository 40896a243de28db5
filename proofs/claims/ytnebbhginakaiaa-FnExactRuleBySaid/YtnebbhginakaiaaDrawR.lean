/- Regions whose order is drawn, where an operation may also write into some blocks that the others do not look at, or into what the region has made. -/
import Derived.Test.YtnebbhginakaiaaDrawE
namespace Go.Proofs.Ytnebbhginakaiaa
open Go Go.RowKit
structure BelD (D : List Nat) (B : Nat) (w w' : World) : Prop where
  os : w'.os = w.os
  tape : w'.tape = w.tape
  output : w'.output = w.output
  size : w.heap.size ≤ w'.heap.size
  block : ∀ k, k < B → k ∉ D → w'.heap[k]? = w.heap[k]?
theorem BelD.refl (D : List Nat) (B : Nat) (w : World) : BelD D B w w := ⟨rfl, rfl, rfl, Nat.le_refl _, fun _ _ _ => rfl⟩
theorem BelD.trans {D : List Nat} {B : Nat} {a b c : World} (h : BelD D B a b) (k : BelD D B b c) : BelD D B a c := ⟨k.os.trans h.os, k.tape.trans h.tape, k.output.trans h.output, Nat.le_trans h.size k.size, fun i h1 h2 => (k.block i h1 h2).trans (h.block i h1 h2)⟩
theorem chg_beld {D D' : List Nat} {B : Nat} {w w' : World} (h : Chg D' w w') (hB : B ≤ w.heap.size) (hD : ∀ i ∈ D', i ∈ D ∨ B ≤ i) : BelD D B w w' := ⟨h.os, h.tape, h.output, h.size, fun k h1 h2 => h.block k (Nat.lt_of_lt_of_le h1 hB) fun hm => (hD k hm).elim h2 fun h3 => by omega⟩
theorem ext_beld {D : List Nat} {B : Nat} {w w' : World} (hB : B ≤ w.heap.size) (h : Ext w w') : BelD D B w w' := chg_beld h hB (fun i hi => by cases hi)
theorem beld_chg {D : List Nat} {w w' : World} (h : BelD D w.heap.size w w') : Chg D w w' := ⟨h.os, h.tape, h.output, h.size, h.block⟩
theorem beld_step {D : List Nat} {wS w w' : World} (h : BelD D wS.heap.size wS w) (hx : Ext w w') : BelD D wS.heap.size wS w' := h.trans (ext_beld h.size hx)
theorem quietAt_of_givesR {P : Program} {a : Act} {N : Nat} {σ : Slots} {ty : TypeId} {pos : String} {af : Array Edge} {D : List Nat} {wS : World} {o : Op} {v : Value} {dst : Option Tmp} {g : Option (Nat × Bool)} (ha : Fr N σ a) (hG : Gives P (Chg D wS) σ o v) (C : World → Prop) (w' : World) (hw : Chg D wS w') :
    (⟨dst, o, ty, pos, af, g⟩ : Oper).quietAt P a C w' v := by
  unfold Oper.quietAt
  rw [hG N a w' ha hw]
  exact ⟨rfl, rfl⟩
def QR (D : List Nat) (B : Nat) (P : Program) (ops : Array Oper) (o : Oper) (v : Value) (a : Act) (w : World) : Prop :=
  B ≤ w.heap.size ∧ ((Region.wanted o (yielded ops a.tmps) = true ∧ ∀ w', BelD D B w w' → o.quietAt P a (Ext w') w' v) ∨ (Region.wanted o (yielded ops a.tmps) = false ∧ v = undef))
def gR (D : List Nat) (B : Nat) (P : Program) (ops : Array Oper) (Q : Exit → Act → World → Prop) (n : List Nat) : Nat → Array Bool → Act → World → Prop
  | 0, listed, a, w => ∀ w', Ext w w' → Region.ready .any ops listed = [] ∧ Q .normal a w'
  | f + 1, listed, a, w => ∀ w', Ext w w' → (Region.ready .any ops listed = [] → Q .normal a w') ∧
      ∀ i ∈ Region.ready .any ops listed, wpOp P ops Qf i (fun a' w'' => (headDone n listed = false → BelD D B w' w'') ∧ gR D B P ops Q n f (listed.setIfInBounds i true) a' w'') a w'
section
variable {D : List Nat} {B : Nat} {P : Program} {ops : Array Oper} {Q : Exit → Act → World → Prop} {a : Act} {w : World} {n : List Nat}
theorem QR.up {o : Oper} {v : Value} {w' : World} (h : QR D B P ops o v a w) (hx : BelD D B w w') : QR D B P ops o v a w' :=
  ⟨Nat.le_trans h.1 hx.size, h.2.imp (fun ⟨h1, h2⟩ => ⟨h1, fun w2 h3 => h2 w2 (hx.trans h3)⟩) id⟩
theorem QR.same {o : Oper} {v : Value} {a' : Act} (h : QR D B P ops o v a w) (he : execOp a'.eval o = execOp a.eval o)
    (hw : Region.wanted o (yielded ops a'.tmps) = Region.wanted o (yielded ops a.tmps)) : QR D B P ops o v a' w := by
  unfold QR Oper.quietAt at *
  rw [he, hw]; exact h
theorem QR.wp {i : Nat} {o : Oper} {v : Value} {w' : World} {K : Act → World → Prop} (hi : ops[i]? = some o) (h : QR D B P ops o v a w) (hx : Ext w w') (hk : ∀ w'', Ext w' w'' → K (a.put o.dst v) w'') :
    wpOp P ops Qf i K a w' := by
  unfold wpOp
  simp only [hi]
  obtain ⟨hB, h⟩ := h
  rcases h with ⟨hw, hq⟩ | ⟨hw, rfl⟩
  · simp only [hw, if_true]
    refine .inl ?_
    have h3 := hq w' (ext_beld hB hx)
    unfold Oper.quietAt at h3
    unfold Oper.wp
    generalize (execOp a.eval o).run P w' = r at *
    cases r with
    | ok m w2 =>
      cases m <;> simp only [Oper.quietUpon] at h3 <;> simp only [Oper.upon]
      case value u => obtain ⟨e1, e2⟩ := h3; rw [e1, e2]; exact hk _ (Chg.refl _ _)
      case skip => obtain ⟨e1, e2⟩ := h3; rw [e1, ← e2]; exact hk _ (Chg.refl _ _)
      case enter f args =>
        obtain ⟨e1, hc⟩ := h3
        rw [e1]
        exact hc.mono fun e w'' ⟨he, hw''⟩ => by subst he; exact hk _ hw''
    | halt x w2 => simp only [Oper.quietUpon] at h3
  · simp only [hw, Bool.false_eq_true, if_false]; exact hk _ (Chg.refl _ _)
theorem gR_up : ∀ {f : Nat} {listed : Array Bool} {a : Act} {w w' : World}, gR D B P ops Q n f listed a w → Ext w w' → gR D B P ops Q n f listed a w'
  | 0, _, _, _, _, h, hx => fun w2 h2 => h w2 (hx.trans h2)
  | f + 1, _, _, _, _, h, hx => fun w2 h2 => h w2 (hx.trans h2)
theorem gR_any : ∀ {f : Nat} {listed : Array Bool} {a : Act} {w : World}, gR D B P ops Q n f listed a w → wpAny P .any ops Q f listed a w
  | 0, _, _, w, h => h w (Chg.refl _ _)
  | f + 1, _, _, w, h => by
    obtain ⟨h1, h2⟩ := h w (Chg.refl _ _)
    exact ⟨h1, fun i hi => wpOp_exf (wpOp_mono (fun a' w' h' => gR_any h'.2) (h2 i hi))⟩
theorem gR_first {i : Nat} {oi : Oper} {v : Value} (hi : ops[i]? = some oi) (hin : i ∈ n) (hsel : ∀ (j : Nat) (o : Oper) cs b, ops[j]? = some o → o.op ≠ .select cs b) :
    ∀ (f : Nat) (listed : Array Bool) (a : Act) (w : World), Closed ops listed → sinkAll ops n listed = true →
      (∀ j oj, ops[j]? = some oj → j ≠ i → listed.getD j true = false → (∀ e ∈ oj.after, Region.binds .any e = true → e.on ≠ i) → oi.apart ops oj = true) →
      i ∈ Region.ready .any ops listed → QR D B P ops oi v a w →
      gR D B P ops Q n f (listed.setIfInBounds i true) (a.put oi.dst v) w → gR D B P ops Q n (f + 1) listed a w := by
  intro f
  induction f with
  | zero =>
    intro listed a w _ _ _ hr hy H w' hx
    refine ⟨fun h => (by rw [h] at hr; cases hr), fun j hj => ?_⟩
    by_cases hji : j = i
    · subst hji
      exact hy.wp hi hx (fun w'' hw'' => ⟨fun _ => ext_beld (Nat.le_trans hy.1 hx.size) hw'', gR_up H (hx.trans hw'')⟩)
    · have := ready_mono hj hji
      rw [(H w' hx).1] at this
      cases this
  | succ f ih =>
    intro listed a w hclo hsink hfree hr hy H w' hx
    have hun := (mem_ready.1 hr).1
    refine ⟨fun h => (by rw [h] at hr; cases hr), fun j hj => ?_⟩
    by_cases hji : j = i
    · subst hji
      exact hy.wp hi hx (fun w'' hw'' => ⟨fun _ => ext_beld (Nat.le_trans hy.1 hx.size) hw'', gR_up H (hx.trans hw'')⟩)
    · have h1 := (H w' hx).2 j (ready_mono hj hji)
      obtain ⟨hjun, oj, hoj, hall⟩ := mem_ready.1 hj
      have hnot : ∀ e ∈ oj.after, Region.binds .any e = true → e.on ≠ i := fun e he hb heq => by
        have g := hall e he hb
        rw [heq, getD_both hun] at g
        cases g
      have hjn : j ∈ n := by
        have hjs : j < ops.size := (Array.getElem?_eq_some_iff.1 hoj).1
        have g1 := List.all_eq_true.1 hsink j (List.mem_range.2 hjs)
        rw [Bool.or_eq_true, Bool.or_eq_true] at g1
        rcases g1 with (g1 | g1) | g1
        · rw [hjun] at g1; cases g1
        · simpa using g1
        · exfalso
          have g2 := List.all_eq_true.1 g1 i hin
          have g3 := down_listed hclo j (fun m hm => by
            obtain ⟨e, he, hb, hon⟩ := mem_preds hoj hm
            rw [← hon]; exact getD_both' (hall e he hb)) i (by simpa using g2)
          rw [hun] at g3; cases g3
      have hclo' : Closed ops (listed.setIfInBounds j true) := fun t ht hl m hm => by
        by_cases hmj : j = m
        · subst hmj
          have hjs : j < listed.size := by
            rcases Nat.lt_or_ge j listed.size with e | e
            · exact e
            · rw [Array.getD_eq_getD_getElem?, Array.getElem?_eq_none e] at hjun; cases hjun
          simp [Array.getD_eq_getD_getElem?, hjs]
        · rw [getD_set_ne true hmj]
          by_cases htj : j = t
          · subst htj
            obtain ⟨e, he, hb, hon⟩ := mem_preds hoj hm
            rw [← hon]; exact getD_both' (hall e he hb)
          · rw [getD_set_ne true htj] at hl
            exact hclo t ht hl m hm
      have hap := hfree j oj hoj hji hjun hnot
      obtain ⟨_, _, h3⟩ := Oper.apart_spec hap
      have hsi := fun cs b => hsel i oi cs b hi
      have h2 := wpOp_putY (Y := fun a' => QR D B P ops oi v a' w) hoj hap (fun cs b => hsel j oj cs b hoj)
        (fun u => hy.same (execOp_put oi hsi a oj.dst u h3) (wanted_put oi a oj.dst u h3))
        (fun d u => (hy.same (a' := { a with defers := d :: a.defers }) rfl rfl).same (execOp_put oi hsi _ oj.dst u h3) (wanted_put oi _ oj.dst u h3)) h1
      have hnd : headDone n listed = false := headDone_not hin hun
      have hfree' : ∀ k ok, ops[k]? = some ok → k ≠ i → (listed.setIfInBounds j true).getD k true = false →
          (∀ e ∈ ok.after, Region.binds .any e = true → e.on ≠ i) → oi.apart ops ok = true := fun k ok hk hki hun' hno => by
        refine hfree k ok hk hki ?_ hno
        by_cases hjk : j = k
        · subst hjk; exact hjun
        · rw [getD_set_ne true hjk] at hun'; exact hun'
      by_cases hd : headDone n (listed.setIfInBounds i true) = true
      · -- the head is done but for i, so j (below n, not i) is listed already
        exfalso
        have g := List.all_eq_true.1 hd j hjn
        rw [getD_set_ne true (fun e => hji e.symm), hjun] at g
        cases g
      · have hd' : headDone n (listed.setIfInBounds i true) = false := by simpa using hd
        refine wpOp_mono (fun a' w'' h4 => ?_) h2
        obtain ⟨hya, h5, h6⟩ := h4
        have hx2 := h5 hd'
        refine ⟨fun _ => hx2, ih _ a' w'' hclo' (sinkAll_mono hsink) hfree' (ready_mono hr (Ne.symm hji)) (hya.up ((ext_beld hya.1 hx).trans hx2)) ?_⟩
        rw [Array.setIfInBounds_comm _ _ hji]
        exact h6
end
section
variable {D : List Nat} {B : Nat} {P : Program} {Q : Exit → Act → World → Prop} {a : Act} {w : World} {n : List Nat} {N f i d : Nat} {σ : Slots} {l : List Oper} {listed : Array Bool}
variable {ty : TypeId} {pos : String} {af : Array Edge}
theorem r_region {id : Nat} (n : List Nat) (hm : P.follows .mixedOrders = true) (h : gR D w.heap.size P l.toArray Q n l.length (Array.replicate l.length false) a w) : (Code.region id l.toArray true).wp P Q a w := by
  refine wp_region_any hm ?_
  have := gR_any (gR_up h (Ext.drew w))
  simpa using this
theorem r_first {o : Oper} {v : Value} (i : Nat) (hi : l[i]? = some o) (hb : may l n listed i = true) (hy : QR D B P l.toArray o v a w)
    (h : gR D B P l.toArray Q n f (listed.setIfInBounds i true) (a.put o.dst v) w) : gR D B P l.toArray Q n (f + 1) listed a w := by
  unfold may at hb
  simp only [Bool.and_eq_true] at hb
  obtain ⟨⟨⟨⟨⟨hr, hf⟩, hs⟩, hk⟩, hn⟩, hc⟩ := hb
  have hi' : l.toArray[i]? = some o := by simpa using hi
  exact gR_first hi' (by simpa using hn) (Region.noSelect_spec hs) f listed a w (closed_of hc) hk (Region.free_spec hi' hf) (by simpa using hr) hy h
theorem r_g {op : Op} {v : Value} {gd : Option (Nat × Bool)} (i : Nat) (hi : l[i]? = some ⟨some d, op, ty, pos, af, gd⟩) (hb : may l n listed i = true)
    (hw : Region.wanted ⟨some d, op, ty, pos, af, gd⟩ (yielded l.toArray a.tmps) = true) (ha : Fr N σ a) (hd : Nat.ble (d + 1) N = true) {wS : World} (hS : BelD D wS.heap.size wS w) (hG : Gives P (Chg D wS) σ op v)
    (h : ∀ a, Fr N ((d, v) :: σ) a → gR D wS.heap.size P l.toArray Q n f (listed.setIfInBounds i true) a w) : gR D wS.heap.size P l.toArray Q n (f + 1) listed a w :=
  r_first i hi hb ⟨hS.size, .inl ⟨hw, fun w' hw' => quietAt_of_givesR ha hG _ w' (beld_chg (hS.trans hw'))⟩⟩ (h _ (ha.put (Nat.le_of_ble_eq_true hd) v))
theorem r_only {o : Oper} (i : Nat) (hi : l[i]? = some o) (hr : Region.ready .any l.toArray listed = [i])
    (h : ∀ w', Ext w w' → wpList P l.toArray (SQ (fun a' w'' => (headDone n listed = false → BelD D B w' w'') ∧ gR D B P l.toArray Q n f (listed.setIfInBounds i true) a' w'') Qf) [o] a w') :
    gR D B P l.toArray Q n (f + 1) listed a w := by
  have hi' : l.toArray[i]? = some o := by simpa using hi
  intro w' hx
  refine ⟨fun h0 => (by rw [hr] at h0; cases h0), fun j hj => ?_⟩
  rw [hr] at hj
  have hji : j = i := by simpa using hj
  subst hji
  have h1 := h w' hx
  unfold wpOp
  simp only [hi']
  simp only [wpList] at h1
  split at h1
  · rename_i hw
    rw [if_pos hw]
    rcases h1 with h1 | ⟨_, a', w', hf⟩
    · refine .inl ?_
      have h2 : o.wp P a w' (fun a' w'' => (headDone n listed = false → BelD D B w' w'') ∧ gR D B P l.toArray Q n f (listed.setIfInBounds j true) a' w'') (SQ (fun a' w'' => (headDone n listed = false → BelD D B w' w'') ∧ gR D B P l.toArray Q n f (listed.setIfInBounds j true) a' w'') Qf) := h1
      unfold Oper.wp at *
      generalize (execOp a.eval o).run P w' = r at *
      cases r with
      | ok m w2 =>
        cases m <;> simp only [Oper.upon] at h2 ⊢
        case value u => exact h2
        case skip => exact h2
        case defer d => exact h2
        case enter f args =>
          refine Calls.mono h2 fun e w'' he => ?_
          cases e with
          | returned u => exact he
          | panicked c => exact he.elim
          | outgrown => obtain ⟨_, _, hf⟩ := he; exact hf.elim
        case row row args => exact h2
      | halt x w2 =>
        cases x <;> simp only [Oper.upon] at h2 ⊢
        case panic u => exact h2.elim
    · exact hf.elim
  · rename_i hw
    rw [if_neg hw]
    exact h1
theorem r_done (hr : Region.ready .any l.toArray listed = []) (h : ∀ w', Ext w w' → Q .normal a w') : gR D B P l.toArray Q n f listed a w := by
  cases f with
  | zero => exact fun w' hx => ⟨hr, h w' hx⟩
  | succ f => exact fun w' hx => ⟨fun _ => h w' hx, fun i hi => by rw [hr] at hi; cases hi⟩
end
section
variable {P : Program} {σ : Slots} {w : World} {D : List Nat}
theorem g_loadR {T : TypeId} {x : Operand} {p : Addr} {v : Value} (hag : ∀ w, (isAgg T).run P w = .ok false w) (hx : ev σ x = some (.pointer (some p))) (hc : w.cell? p = some v) (hD : p.block ∉ D) :
    Gives P (Chg D w) σ (.load T x) v :=
  fun N a w' ha he d ty pos af g => by
    have hb := World.block_lt_of_cell? w p hc
    have hc' : w'.cell? p = some v := (World.cell?_of_block (he.block p.block hb hD)).trans hc
    simp [execOp, ha.eq hx, Instr.loadAt, Instr.sureAddr, loadVar, hag, load, Sem.run, hc']
theorem Nq.box {b : Nat} {c : Int} (h : Nq [b] c) : Nq (bl (b : Int)) c := fun k hk => h k (by rw [mem_bl] at hk; simp; omega)
end
end Go.Proofs.Ytnebbhginakaiaa
