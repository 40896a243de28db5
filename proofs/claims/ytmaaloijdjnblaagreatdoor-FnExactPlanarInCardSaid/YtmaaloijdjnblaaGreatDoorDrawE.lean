/- Regions whose order is drawn, where an operation may also write into what the region itself has made: the reads are told at the region's beginning. -/
import Derived.Test.YtmaaloijdjnblaaGreatDoorDeep
namespace Go.Proofs.YtmaaloijdjnblaaGreatDoor
open Go Go.RowKit
theorem ext_bel {B : Nat} {w w' : World} (hB : B ≤ w.heap.size) (h : Ext w w') : RowKit.Below B w w' := h.below.mono hB
theorem bel_ext {w w' : World} (h : RowKit.Below w.heap.size w w') : Ext w w' := ⟨h.os, h.tape, h.output, h.size, fun k hk _ => h.block k hk⟩
theorem bel_step {wS w w' : World} (h : RowKit.Below wS.heap.size wS w) (hx : Ext w w') : RowKit.Below wS.heap.size wS w' := h.trans (ext_bel h.size hx)
theorem chg_bel {D : List Nat} {B : Nat} {w w' : World} (h : Chg D w w') (hB : B ≤ w.heap.size) (hD : ∀ i ∈ D, B ≤ i) : RowKit.Below B w w' := ⟨h.os, h.tape, h.output, h.size, fun k hk => h.block k (Nat.lt_of_lt_of_le hk hB) fun hm => by have := hD k hm; omega⟩
theorem Zn.upB {wS w : World} {b : Int} (h : Zn w b) (hS : RowKit.Below wS.heap.size wS w) : Zn wS b := h.imp id fun h => by have := hS.size; omega
theorem Zn.appB {wS w : World} {b b' : Int} (h : Zn wS b) (hb : b' = b ∨ (w.heap.size : Int) = b') (hS : RowKit.Below wS.heap.size wS w) : Zn wS b' := by
  rcases hb with e | e
  · rw [e]; exact h
  · exact .inr (by have := hS.size; omega)
def QZ (B : Nat) (P : Program) (ops : Array Oper) (o : Oper) (v : Value) (a : Act) (w : World) : Prop :=
  B ≤ w.heap.size ∧ ((Region.wanted o (yielded ops a.tmps) = true ∧ ∀ w', RowKit.Below B w w' → o.quietAt P a (Ext w') w' v) ∨ (Region.wanted o (yielded ops a.tmps) = false ∧ v = undef))
def gE (B : Nat) (P : Program) (ops : Array Oper) (Q : Exit → Act → World → Prop) (n : List Nat) : Nat → Array Bool → Act → World → Prop
  | 0, listed, a, w => ∀ w', Ext w w' → Region.ready .any ops listed = [] ∧ Q .normal a w'
  | f + 1, listed, a, w => ∀ w', Ext w w' → (Region.ready .any ops listed = [] → Q .normal a w') ∧
      ∀ i ∈ Region.ready .any ops listed, wpOp P ops Qf i (fun a' w'' => (headDone n listed = false → RowKit.Below B w' w'') ∧ gE B P ops Q n f (listed.setIfInBounds i true) a' w'') a w'
section
variable {B : Nat} {P : Program} {ops : Array Oper} {Q : Exit → Act → World → Prop} {a : Act} {w : World} {n : List Nat}
theorem QZ.up {o : Oper} {v : Value} {w' : World} (h : QZ B P ops o v a w) (hx : RowKit.Below B w w') : QZ B P ops o v a w' :=
  ⟨Nat.le_trans h.1 hx.size, h.2.imp (fun ⟨h1, h2⟩ => ⟨h1, fun w2 h3 => h2 w2 (hx.trans h3)⟩) id⟩
theorem QZ.same {o : Oper} {v : Value} {a' : Act} (h : QZ B P ops o v a w) (he : execOp a'.eval o = execOp a.eval o)
    (hw : Region.wanted o (yielded ops a'.tmps) = Region.wanted o (yielded ops a.tmps)) : QZ B P ops o v a' w := by
  unfold QZ Oper.quietAt at *
  rw [he, hw]; exact h
theorem QZ.wp {i : Nat} {o : Oper} {v : Value} {w' : World} {K : Act → World → Prop} (hi : ops[i]? = some o) (h : QZ B P ops o v a w) (hx : Ext w w') (hk : ∀ w'', Ext w' w'' → K (a.put o.dst v) w'') :
    wpOp P ops Qf i K a w' := by
  unfold wpOp
  simp only [hi]
  obtain ⟨hB, h⟩ := h
  rcases h with ⟨hw, hq⟩ | ⟨hw, rfl⟩
  · simp only [hw, if_true]
    refine .inl ?_
    have h3 := hq w' (ext_bel hB hx)
    unfold Oper.quietAt at h3
    unfold Oper.wp
    generalize (execOp a.eval o).run P w' = r at *
    cases r with
    | ok m w2 =>
      cases m <;> simp only [Oper.quietUpon] at h3 <;> simp only [Oper.upon]
      case value u => obtain ⟨e1, e2⟩ := h3; rw [e1, e2]; exact hk _ (Chg.refl _ _)
      case skip => obtain ⟨e1, e2⟩ := h3; rw [e1, ← e2]; exact hk _ (Chg.refl _ _)
      case enter f args =>
        obtain ⟨e1, hc⟩ := h3
        rw [e1]
        exact hc.mono fun e w'' ⟨he, hw''⟩ => by subst he; exact hk _ hw''
    | halt x w2 => simp only [Oper.quietUpon] at h3
  · simp only [hw, Bool.false_eq_true, if_false]; exact hk _ (Chg.refl _ _)
theorem gE_up : ∀ {f : Nat} {listed : Array Bool} {a : Act} {w w' : World}, gE B P ops Q n f listed a w → Ext w w' → gE B P ops Q n f listed a w'
  | 0, _, _, _, _, h, hx => fun w2 h2 => h w2 (hx.trans h2)
  | f + 1, _, _, _, _, h, hx => fun w2 h2 => h w2 (hx.trans h2)
theorem gE_any : ∀ {f : Nat} {listed : Array Bool} {a : Act} {w : World}, gE B P ops Q n f listed a w → wpAny P .any ops Q f listed a w
  | 0, _, _, w, h => h w (Chg.refl _ _)
  | f + 1, _, _, w, h => by
    obtain ⟨h1, h2⟩ := h w (Chg.refl _ _)
    exact ⟨h1, fun i hi => wpOp_exf (wpOp_mono (fun a' w' h' => gE_any h'.2) (h2 i hi))⟩
theorem gE_first {i : Nat} {oi : Oper} {v : Value} (hi : ops[i]? = some oi) (hin : i ∈ n) (hsel : ∀ (j : Nat) (o : Oper) cs b, ops[j]? = some o → o.op ≠ .select cs b) :
    ∀ (f : Nat) (listed : Array Bool) (a : Act) (w : World), Closed ops listed → sinkAll ops n listed = true →
      (∀ j oj, ops[j]? = some oj → j ≠ i → listed.getD j true = false → (∀ e ∈ oj.after, Region.binds .any e = true → e.on ≠ i) → oi.apart ops oj = true) →
      i ∈ Region.ready .any ops listed → QZ B P ops oi v a w →
      gE B P ops Q n f (listed.setIfInBounds i true) (a.put oi.dst v) w → gE B P ops Q n (f + 1) listed a w := by
  intro f
  induction f with
  | zero =>
    intro listed a w _ _ _ hr hy H w' hx
    refine ⟨fun h => (by rw [h] at hr; cases hr), fun j hj => ?_⟩
    by_cases hji : j = i
    · subst hji
      exact hy.wp hi hx (fun w'' hw'' => ⟨fun _ => ext_bel (Nat.le_trans hy.1 hx.size) hw'', gE_up H (hx.trans hw'')⟩)
    · have := ready_mono hj hji
      rw [(H w' hx).1] at this
      cases this
  | succ f ih =>
    intro listed a w hclo hsink hfree hr hy H w' hx
    have hun := (mem_ready.1 hr).1
    refine ⟨fun h => (by rw [h] at hr; cases hr), fun j hj => ?_⟩
    by_cases hji : j = i
    · subst hji
      exact hy.wp hi hx (fun w'' hw'' => ⟨fun _ => ext_bel (Nat.le_trans hy.1 hx.size) hw'', gE_up H (hx.trans hw'')⟩)
    · have h1 := (H w' hx).2 j (ready_mono hj hji)
      obtain ⟨hjun, oj, hoj, hall⟩ := mem_ready.1 hj
      have hnot : ∀ e ∈ oj.after, Region.binds .any e = true → e.on ≠ i := fun e he hb heq => by
        have g := hall e he hb
        rw [heq, getD_both hun] at g
        cases g
      have hjn : j ∈ n := by
        have hjs : j < ops.size := (Array.getElem?_eq_some_iff.1 hoj).1
        have g1 := List.all_eq_true.1 hsink j (List.mem_range.2 hjs)
        rw [Bool.or_eq_true, Bool.or_eq_true] at g1
        rcases g1 with (g1 | g1) | g1
        · rw [hjun] at g1; cases g1
        · simpa using g1
        · exfalso
          have g2 := List.all_eq_true.1 g1 i hin
          have g3 := down_listed hclo j (fun m hm => by
            obtain ⟨e, he, hb, hon⟩ := mem_preds hoj hm
            rw [← hon]; exact getD_both' (hall e he hb)) i (by simpa using g2)
          rw [hun] at g3; cases g3
      have hclo' : Closed ops (listed.setIfInBounds j true) := fun t ht hl m hm => by
        by_cases hmj : j = m
        · subst hmj
          have hjs : j < listed.size := by
            rcases Nat.lt_or_ge j listed.size with e | e
            · exact e
            · rw [Array.getD_eq_getD_getElem?, Array.getElem?_eq_none e] at hjun; cases hjun
          simp [Array.getD_eq_getD_getElem?, hjs]
        · rw [getD_set_ne true hmj]
          by_cases htj : j = t
          · subst htj
            obtain ⟨e, he, hb, hon⟩ := mem_preds hoj hm
            rw [← hon]; exact getD_both' (hall e he hb)
          · rw [getD_set_ne true htj] at hl
            exact hclo t ht hl m hm
      have hap := hfree j oj hoj hji hjun hnot
      obtain ⟨_, _, h3⟩ := Oper.apart_spec hap
      have hsi := fun cs b => hsel i oi cs b hi
      have h2 := wpOp_putY (Y := fun a' => QZ B P ops oi v a' w) hoj hap (fun cs b => hsel j oj cs b hoj)
        (fun u => hy.same (execOp_put oi hsi a oj.dst u h3) (wanted_put oi a oj.dst u h3))
        (fun d u => (hy.same (a' := { a with defers := d :: a.defers }) rfl rfl).same (execOp_put oi hsi _ oj.dst u h3) (wanted_put oi _ oj.dst u h3)) h1
      have hnd : headDone n listed = false := headDone_not hin hun
      have hfree' : ∀ k ok, ops[k]? = some ok → k ≠ i → (listed.setIfInBounds j true).getD k true = false →
          (∀ e ∈ ok.after, Region.binds .any e = true → e.on ≠ i) → oi.apart ops ok = true := fun k ok hk hki hun' hno => by
        refine hfree k ok hk hki ?_ hno
        by_cases hjk : j = k
        · subst hjk; exact hjun
        · rw [getD_set_ne true hjk] at hun'; exact hun'
      by_cases hd : headDone n (listed.setIfInBounds i true) = true
      · -- the head is done but for i, so j (below n, not i) is listed already
        exfalso
        have g := List.all_eq_true.1 hd j hjn
        rw [getD_set_ne true (fun e => hji e.symm), hjun] at g
        cases g
      · have hd' : headDone n (listed.setIfInBounds i true) = false := by simpa using hd
        refine wpOp_mono (fun a' w'' h4 => ?_) h2
        obtain ⟨hya, h5, h6⟩ := h4
        have hx2 := h5 hd'
        refine ⟨fun _ => hx2, ih _ a' w'' hclo' (sinkAll_mono hsink) hfree' (ready_mono hr (Ne.symm hji)) (hya.up ((ext_bel hya.1 hx).trans hx2)) ?_⟩
        rw [Array.setIfInBounds_comm _ _ hji]
        exact h6
end
section
variable {B : Nat} {P : Program} {Q : Exit → Act → World → Prop} {a : Act} {w : World} {n : List Nat} {N f i d : Nat} {σ : Slots} {l : List Oper} {listed : Array Bool}
variable {ty : TypeId} {pos : String} {af : Array Edge}
theorem x_region {id : Nat} (n : List Nat) (hm : P.follows .mixedOrders = true) (h : gE w.heap.size P l.toArray Q n l.length (Array.replicate l.length false) a w) : (Code.region id l.toArray true).wp P Q a w := by
  refine wp_region_any hm ?_
  have := gE_any (gE_up h (Ext.drew w))
  simpa using this
theorem x_regionB {id : Nat} (n : List Nat) (hm : P.follows .mixedOrders = true) (h : gE B P l.toArray Q n l.length (Array.replicate l.length false) a w) : (Code.region id l.toArray true).wp P Q a w := by
  refine wp_region_any hm ?_
  have := gE_any (gE_up h (Ext.drew w))
  simpa using this
theorem x_first {o : Oper} {v : Value} (i : Nat) (hi : l[i]? = some o) (hb : may l n listed i = true) (hy : QZ B P l.toArray o v a w)
    (h : gE B P l.toArray Q n f (listed.setIfInBounds i true) (a.put o.dst v) w) : gE B P l.toArray Q n (f + 1) listed a w := by
  unfold may at hb
  simp only [Bool.and_eq_true] at hb
  obtain ⟨⟨⟨⟨⟨hr, hf⟩, hs⟩, hk⟩, hn⟩, hc⟩ := hb
  have hi' : l.toArray[i]? = some o := by simpa using hi
  exact gE_first hi' (by simpa using hn) (Region.noSelect_spec hs) f listed a w (closed_of hc) hk (Region.free_spec hi' hf) (by simpa using hr) hy h
theorem x_g {op : Op} {v : Value} {gd : Option (Nat × Bool)} (i : Nat) (hi : l[i]? = some ⟨some d, op, ty, pos, af, gd⟩) (hb : may l n listed i = true)
    (hw : Region.wanted ⟨some d, op, ty, pos, af, gd⟩ (yielded l.toArray a.tmps) = true) (ha : Fr N σ a) (hd : Nat.ble (d + 1) N = true) {wS : World} (hS : RowKit.Below wS.heap.size wS w) (hG : Gives P (Ext wS) σ op v)
    (h : ∀ a, Fr N ((d, v) :: σ) a → gE wS.heap.size P l.toArray Q n f (listed.setIfInBounds i true) a w) : gE wS.heap.size P l.toArray Q n (f + 1) listed a w :=
  x_first i hi hb ⟨hS.size, .inl ⟨hw, fun w' hw' => quietAt_of_gives ha hG _ w' (bel_ext (hS.trans hw'))⟩⟩ (h _ (ha.put (Nat.le_of_ble_eq_true hd) v))
theorem x_only {o : Oper} (i : Nat) (hi : l[i]? = some o) (hr : Region.ready .any l.toArray listed = [i])
    (h : ∀ w', Ext w w' → wpList P l.toArray (SQ (fun a' w'' => (headDone n listed = false → RowKit.Below B w' w'') ∧ gE B P l.toArray Q n f (listed.setIfInBounds i true) a' w'') Qf) [o] a w') :
    gE B P l.toArray Q n (f + 1) listed a w := by
  have hi' : l.toArray[i]? = some o := by simpa using hi
  intro w' hx
  refine ⟨fun h0 => (by rw [hr] at h0; cases h0), fun j hj => ?_⟩
  rw [hr] at hj
  have hji : j = i := by simpa using hj
  subst hji
  have h1 := h w' hx
  unfold wpOp
  simp only [hi']
  simp only [wpList] at h1
  split at h1
  · rename_i hw
    rw [if_pos hw]
    rcases h1 with h1 | ⟨_, a', w', hf⟩
    · refine .inl ?_
      have h2 : o.wp P a w' (fun a' w'' => (headDone n listed = false → RowKit.Below B w' w'') ∧ gE B P l.toArray Q n f (listed.setIfInBounds j true) a' w'') (SQ (fun a' w'' => (headDone n listed = false → RowKit.Below B w' w'') ∧ gE B P l.toArray Q n f (listed.setIfInBounds j true) a' w'') Qf) := h1
      unfold Oper.wp at *
      generalize (execOp a.eval o).run P w' = r at *
      cases r with
      | ok m w2 =>
        cases m <;> simp only [Oper.upon] at h2 ⊢
        case value u => exact h2
        case skip => exact h2
        case defer d => exact h2
        case enter f args =>
          refine Calls.mono h2 fun e w'' he => ?_
          cases e with
          | returned u => exact he
          | panicked c => exact he.elim
          | outgrown => obtain ⟨_, _, hf⟩ := he; exact hf.elim
        case row row args => exact h2
      | halt x w2 =>
        cases x <;> simp only [Oper.upon] at h2 ⊢
        case panic u => exact h2.elim
    · exact hf.elim
  · rename_i hw
    rw [if_neg hw]
    exact h1
theorem x_many (is : List Nat) (hr : Region.ready .any l.toArray listed = is) (hne : is.isEmpty = false)
    (h : ∀ w', Ext w w' → Each is fun i => ∃ o, l[i]? = some o ∧ wpList P l.toArray (SQ (fun a' w'' => (headDone n listed = false → RowKit.Below B w' w'') ∧ gE B P l.toArray Q n f (listed.setIfInBounds i true) a' w'') Qf) [o] a w') :
    gE B P l.toArray Q n (f + 1) listed a w := by
  intro w' hx
  refine ⟨fun h0 => (by rw [hr] at h0; subst h0; cases hne), fun j hj => ?_⟩
  rw [hr] at hj
  obtain ⟨o, hi, h1⟩ := (h w' hx).all j hj
  have hi' : l.toArray[j]? = some o := by simpa using hi
  unfold wpOp
  simp only [hi']
  simp only [wpList] at h1
  split at h1
  · rename_i hw
    rw [if_pos hw]
    rcases h1 with h1 | ⟨_, a', w', hf⟩
    · refine .inl ?_
      have h2 : o.wp P a w' (fun a' w'' => (headDone n listed = false → RowKit.Below B w' w'') ∧ gE B P l.toArray Q n f (listed.setIfInBounds j true) a' w'') (SQ (fun a' w'' => (headDone n listed = false → RowKit.Below B w' w'') ∧ gE B P l.toArray Q n f (listed.setIfInBounds j true) a' w'') Qf) := h1
      unfold Oper.wp at *
      generalize (execOp a.eval o).run P w' = r at *
      cases r with
      | ok m w2 =>
        cases m <;> simp only [Oper.upon] at h2 ⊢
        case value u => exact h2
        case skip => exact h2
        case defer d => exact h2
        case enter f args =>
          refine Calls.mono h2 fun e w'' he => ?_
          cases e with
          | returned u => exact he
          | panicked c => exact he.elim
          | outgrown => obtain ⟨_, _, hf⟩ := he; exact hf.elim
        case row row args => exact h2
      | halt x w2 =>
        cases x <;> simp only [Oper.upon] at h2 ⊢
        case panic u => exact h2.elim
    · exact hf.elim
  · rename_i hw
    rw [if_neg hw]
    exact h1
theorem x_done (hr : Region.ready .any l.toArray listed = []) (h : ∀ w', Ext w w' → Q .normal a w') : gE B P l.toArray Q n f listed a w := by
  cases f with
  | zero => exact fun w' hx => ⟨hr, h w' hx⟩
  | succ f => exact fun w' hx => ⟨fun _ => h w' hx, fun i hi => by rw [hr] at hi; cases hi⟩
end
end Go.Proofs.YtmaaloijdjnblaaGreatDoor
