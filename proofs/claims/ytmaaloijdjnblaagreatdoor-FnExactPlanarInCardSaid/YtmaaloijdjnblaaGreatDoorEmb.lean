/- Turns in memory, whose rows are put in and taken back; what a search over them keeps. Program-free. -/
import Derived.Test.YtmaaloijdjnblaaGreatDoorTblP
namespace Go.Proofs.YtmaaloijdjnblaaGreatDoor
open Go Go.RowKit
theorem g_nilP {P : Program} {C : World → Prop} {σ : Slots} {x : Operand} {p : Addr} (hx : ev σ x = some (.pointer (some p))) : Gives P C σ (.nilCheck x) (.pointer (some p)) :=
  fun N a w ha _ d ty pos af g => by simp [execOp, ha.eq hx]
structure Tn (e : TypeId) (G : Nat → Prop) (w : World) (b : Nat) (cs : List Value) (t : List (List Int)) : Prop where
  bx : Bx w b cs e
  le : t.length ≤ cs.length
  lm : cs.length ≤ maxLen
  rw : ∀ (j : Nat) (row : List Int), t[j]? = some row → ∃ v f, cs[j]? = some v ∧ Ro Rp.int w f v row ∧ ∀ k ∈ f, G k
abbrev tv (b : Nat) (cs : List Value) (n : Nat) : Value := .slice (some ⟨b, 0, none⟩) n cs.length
theorem rows_rep {E : TypeId} {G : Nat → Prop} {w : World} : ∀ {t : List (List Int)} {cs : List Value}, t.length ≤ cs.length → (∀ (j : Nat) (row : List Int), t[j]? = some row → ∃ v f, cs[j]? = some v ∧ Ro Rp.int w f v row ∧ ∀ k ∈ f, G k) →
    ∃ fs, RepL (Rp.sl E Rp.int) false w fs (cs.take t.length) t ∧ ∀ k ∈ fs, G k
  | [], cs, _, _ => ⟨[], by simp [RepL], by simp⟩
  | r :: t, [], h, _ => by simp at h
  | r :: t, c :: cs, h, hr => by
    obtain ⟨v, f, h1, h2, h3⟩ := hr 0 r rfl
    simp only [List.getElem?_cons_zero, Option.some.injEq] at h1
    subst h1
    obtain ⟨fs, g1, g2⟩ := rows_rep (E := E) (t := t) (cs := cs) (by simpa using h) fun j row hj => by
      have := hr (j + 1) row (by simpa using hj)
      simpa using this
    refine ⟨f ++ fs, ⟨f, fs, [c], cs.take t.length, rfl, by simp, Rp.mkR h2, g1⟩, fun k hk => ?_⟩
    rcases List.mem_append.1 hk with q | q
    · exact h3 k q
    · exact g2 k q
section
variable {e : TypeId} {G : Nat → Prop} {w w' : World} {b : Nat} {cs : List Value} {t : List (List Int)}
theorem Tn.ro (E : TypeId) (h : Tn e G w b cs t) : ∃ fs, Ro (Rp.sl E Rp.int) w (b :: fs) (tv b cs t.length) t ∧ ∀ k ∈ fs, G k := by
  obtain ⟨fs, h1, h2⟩ := rows_rep (E := E) h.le h.rw
  exact ⟨fs, ⟨some ⟨b, 0, none⟩, cs.length, rfl, ⟨h.le, h.lm⟩, .inr ⟨b, 0, _, fs, rfl, rfl, h.bx.blt, h.bx.all.take _, h1⟩⟩, h2⟩
theorem Tn.chg {D : List Nat} (h : Tn e G w b cs t) (hc : Chg D w w') (hb : b ∉ D) (hG : ∀ k, G k → k ∉ D) : Tn e G w' b cs t :=
  ⟨h.bx.chg hc hb, h.le, h.lm, fun j row hj => by
    obtain ⟨v, f, h1, h2, h3⟩ := h.rw j row hj
    exact ⟨v, f, h1, h2.chg hc fun k hk => hG k (h3 k hk), h3⟩⟩
theorem Tn.ext (h : Tn e G w b cs t) (hc : Ext w w') : Tn e G w' b cs t := h.chg hc (by simp) (by simp)
theorem Tn.put (h : Tn e G w b cs t) {j : Nat} {v : Value} (hB : Bx w' b (cs.set j v) e) (hc : Chg [b] w w') {f : List Nat} {row : List Int} (hr : Ro Rp.int w f v row) (hf : ∀ k ∈ f, G k) (hG : ∀ k, G k → k ≠ b) : Tn e G w' b (cs.set j v) (t.set j row) := by
  have hn : ∀ k, G k → k ∉ [b] := fun k hk hm => hG k hk (by simpa using hm)
  refine ⟨hB, by rw [List.length_set, List.length_set]; exact h.le, by rw [List.length_set]; exact h.lm, fun i r hi => ?_⟩
  by_cases g : i = j
  · subst g
    have hl : i < t.length := by have := (List.getElem?_eq_some_iff.1 hi).1; simpa using this
    rw [List.getElem?_set_self hl] at hi
    obtain rfl := Option.some.inj hi
    have hl2 : i < cs.length := Nat.lt_of_lt_of_le hl h.le
    exact ⟨v, f, by rw [List.getElem?_set_self hl2], hr.chg hc fun k hk => hn k (hf k hk), hf⟩
  · rw [List.getElem?_set_ne (fun e => g e.symm)] at hi
    obtain ⟨v', f', h1, h2, h3⟩ := h.rw i r hi
    exact ⟨v', f', by rw [List.getElem?_set_ne (fun e => g e.symm)]; exact h1, h2.chg hc fun k hk => hn k (h3 k hk), h3⟩
theorem tv_idx {n : Nat} {i : Int} {p : Addr} (h : IdxAt 1 (tv b cs n) i p) : p = ⟨b, i.toNat, none⟩ ∧ 0 ≤ i ∧ i.toNat < n := by
  obtain ⟨b0, len, cap, hv, h0, hl, hp⟩ := h
  injection hv with h1 h2 h3
  injection h1 with h1
  subst h1 h2
  exact ⟨by rw [hp, Addr.add_lit']; simp, h0, by omega⟩
end
theorem Tn.ofOw {E e : TypeId} {G : Nat → Prop} {w : World} {g : Nat} {v : Value} {t : List (List Int)} (h : Ow (Rp.sl E Rp.int) e true w [] (g : Int) v t) : ∃ cs, v = tv g cs t.length ∧ Tn e G w g cs t := by
  rcases h with ⟨hb, _⟩ | ⟨g', cap, cur, cs, hg, hv, hh, h1, h2, h3, h4, h5, h6⟩
  · omega
  · have e : g' = g := by omega
    subst e
    have h3 : cur.size = cap := by simpa [Rp.sl] using h3
    have h4 : cur.toList.take t.length = cs := by simpa [Rp.sl] using h4
    have hcl : cur.toList.length = cap := by simpa using h3
    refine ⟨cur.toList, by rw [hv]; unfold tv; rw [hcl], ⟨by unfold Bx; simpa using hh, by rw [hcl]; exact h1, by rw [hcl]; exact h2, fun j row hj => ?_⟩⟩
    have hl := (List.getElem?_eq_some_iff.1 hj).1
    obtain ⟨f, hf, v', hc, hr⟩ := h5.get hj
    simp only [if_true] at hr
    obtain ⟨fs, b, hO, hfs⟩ := hr
    obtain ⟨fp, hro, hs⟩ := hO.roF
    refine ⟨v', fp, ?_, hro, fun k hk => ?_⟩
    · have e1 : (cs.drop (j * 1)).take 1 = [v'] := hc
      rw [Nat.mul_one] at e1
      have e2 : cs[j]? = some v' := by
        have := congrArg (fun l => l[0]?) e1
        simpa using this
      rw [← h4, List.getElem?_take, if_pos hl] at e2
      exact e2
    · have := hf k (by rw [hfs]; exact hs k hk)
      cases this
structure EmI (eF eB E : TypeId) (G : Nat → Prop) (bF bB : Nat) (w : World) (s : Bool × List (List Int)) : Prop where
  bf : Bx w bF [.bool s.1] eF
  bb : ∃ vb fb, Bx w bB [vb] eB ∧ Ro (Rp.sl E Rp.int) w fb vb s.2 ∧ ∀ k ∈ fb, G k
section
variable {eF eB E : TypeId} {G : Nat → Prop} {bF bB : Nat} {w w' : World} {s : Bool × List (List Int)}
theorem EmI.chg {D : List Nat} (h : EmI eF eB E G bF bB w s) (hc : Chg D w w') (hF : bF ∉ D) (hB : bB ∉ D) (hG : ∀ k, G k → k ∉ D) : EmI eF eB E G bF bB w' s := by
  obtain ⟨vb, fb, h1, h2, h3⟩ := h.bb
  exact ⟨h.bf.chg hc hF, vb, fb, h1.chg hc hB, h2.chg hc fun k hk => hG k (h3 k hk), h3⟩
theorem EmI.ext (h : EmI eF eB E G bF bB w s) (hc : Ext w w') : EmI eF eB E G bF bB w' s := h.chg hc (by simp) (by simp) (by simp)
end
structure EmS (G : Nat → Prop) (bX bT bF bB : Nat) : Prop where
  g : ∀ k, G k ↔ k ≠ bT ∧ k ≠ bF ∧ k ≠ bB
  xt : bX ≠ bT
  xf : bX ≠ bF
  xb : bX ≠ bB
  tf : bT ≠ bF
  tb : bT ≠ bB
  fb : bF ≠ bB
theorem Chg.back {b : Nat} {D : List Nat} {w w' : World} (h : Chg (b :: D) w w') (hb : w'.heap[b]? = w.heap[b]?) : Chg D w w' :=
  ⟨h.os, h.tape, h.output, h.size, fun k hk hn => by
    by_cases e : k = b
    · subst e; exact hb
    · exact h.block k hk (by simp [e, hn])⟩
theorem Bx.sameAs {w w' : World} {b : Nat} {cs : List Value} {e : TypeId} (h : Bx w b cs e) (h' : Bx w' b cs e) : w'.heap[b]? = w.heap[b]? := by
  unfold Bx at h h'; rw [h, h']
theorem set_back (cs : List Value) {i j : Nat} {x y a c : Value} (hi : cs[i]? = some a) (hj : cs[j]? = some c) : ((((cs.set i x).set j y).set i a).set j c) = cs := by
  obtain ⟨h1, rfl⟩ := List.getElem?_eq_some_iff.1 hi
  obtain ⟨h2, rfl⟩ := List.getElem?_eq_some_iff.1 hj
  apply List.ext_getElem?
  intro k
  simp only [List.getElem?_set, List.length_set]
  by_cases e1 : j = k
  · subst e1; simp [h2]
  · by_cases e2 : i = k
    · subst e2; simp [e1, h1]
    · simp [e1, e2]
end Go.Proofs.YtmaaloijdjnblaaGreatDoor
