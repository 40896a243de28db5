/- Rows of a slice that are written into in their place; fields of elements with rows. Of whatever program. -/
import Derived.Test.YtmaaloijdjnblaaGreatDoorBits
namespace Go.Proofs.YtmaaloijdjnblaaGreatDoor
open Go Go.RowKit
section
variable {α β : Type} {r : Rp α} {r1 : Rp β}
theorem RepL.upd : ∀ {xs : List α} {w : World} {fp : List Nat} {cs : List Value}, RepL r true w fp cs xs → ∀ {i : Nat} {x : α}, xs[i]? = some x →
    ∃ pre f post, fp = pre ++ f ++ post ∧ r.rep true w f ((cs.drop (i * r.sz)).take r.sz) x ∧
      ∀ w' c' x', r.rep true w' f c' x' → (∀ k ∈ pre ++ post, w'.heap[k]? = w.heap[k]?) → RepL r true w' fp (cs.take (i * r.sz) ++ c' ++ cs.drop (i * r.sz + r.sz)) (xs.set i x')
  | [], _, _, _, _, i, x, h => by simp at h
  | x0 :: xs, w, _, _, ⟨f0, fs, c0, cs', hf, hc, hx, hr⟩, 0, x, h => by
    simp at h; subst h
    have e := r.len hx
    refine ⟨[], f0, fs, by rw [hf]; rfl, by rw [hc]; simpa [← e] using hx, fun w' c' x' h' hk => ⟨f0, fs, c', cs', hf, by rw [hc]; simp [← e], h', hr.keep (fun k hk' => hk k (by simpa using hk'))⟩⟩
  | x0 :: xs, w, _, _, ⟨f0, fs, c0, cs', hf, hc, hx, hr⟩, i + 1, x, h => by
    simp only [List.getElem?_cons_succ] at h
    obtain ⟨pre, f, post, h1, h2, h3⟩ := hr.upd h
    have e := r.len hx
    have e1 : (i + 1) * r.sz = c0.length + i * r.sz := by rw [Nat.add_mul, e]; omega
    have e2 : (c0 ++ cs').drop ((i + 1) * r.sz) = cs'.drop (i * r.sz) := by rw [e1, List.drop_append]; simp [List.drop_of_length_le]
    refine ⟨f0 ++ pre, f, post, by rw [hf, h1]; simp, by rw [hc, e2]; exact h2, fun w' c' x' h' hk => ?_⟩
    refine ⟨f0, fs, c0, cs'.take (i * r.sz) ++ c' ++ cs'.drop (i * r.sz + r.sz), hf, ?_, r.keep hx (fun k hk' => hk k (by simp [hk'])), h3 w' c' x' h' (fun k hk' => hk k ?_)⟩
    · rw [hc, e1, List.take_append, Nat.add_assoc, List.drop_append]
      simp [List.take_of_length_le, List.drop_of_length_le]
    · rcases List.mem_append.1 hk' with g | g <;> simp [g]
structure Lens (r : Rp α) (r1 : Rp β) (E1 : TypeId) (k : Nat) (get : α → List β) (put : α → List β → α) : Prop where
  out : ∀ {w f cs x}, r.rep true w f cs x → ∃ fs1 b1 u, cs[k]? = some u ∧ f = bl b1 ++ fs1 ∧ Ow r1 E1 true w fs1 b1 u (get x)
  back : ∀ {w w' f cs x fs1 b1 u x'}, r.rep true w f cs x → cs[k]? = some u → f = bl b1 ++ fs1 → Ow r1 E1 true w' fs1 b1 u x' → r.rep true w' f cs (put x x')
theorem RepL.noFs (hr : Scal r) {w : World} {xs : List α} {fp cs} (h : RepL r true w fp cs xs) : fp = [] := (RepL.up hr h.weak).2
theorem Ow.noFs (hr : Scal r) {w : World} {e : TypeId} {fs b v} {xs : List α} (h : Ow r e true w fs b v xs) : fs = [] := by
  rcases h with ⟨_, _, _, hf⟩ | ⟨g, cap, cur, cs, hg, hv, hh, h1, h2, h3, h4, h5, h6⟩
  · exact hf
  · exact h5.noFs hr
theorem nd_parts {pre f post : List Nat} (h : (pre ++ f ++ post).Nodup) : (∀ k ∈ f, k ∉ pre ++ post) := by
  intro k hk hm
  rw [List.append_assoc, List.nodup_append] at h
  obtain ⟨h1, h2, h3⟩ := h
  rw [List.nodup_append] at h2
  rcases List.mem_append.1 hm with g | g
  · exact h3 k g k (by simp [hk]) rfl
  · exact h2.2.2 k hk k g rfl
theorem At.uniq {w : World} {p : Addr} {cs cs' : List Value} (h : At w p cs) (h' : At w p cs') (hl : cs.length = cs'.length) : cs = cs' := by
  apply List.ext_getElem hl
  intro j h1 h2
  have a := h j _ (List.getElem?_eq_getElem h1)
  have b := h' j _ (List.getElem?_eq_getElem h2)
  rw [a] at b; exact Option.some.inj b
theorem Ow.row {w : World} {e E1 : TypeId} {fs : List Nat} {b i : Int} {v u : Value} {xs : List α} {x : α} {p : Addr} {cs : List Value} {k : Nat} {get : α → List β} {put : α → List β → α} (L : Lens r r1 E1 k get put) (hs : Scal r1)
    (h : Ow r e true w fs b v xs) (nd : (bl b ++ fs).Nodup) (hx : xs[i.toNat]? = some x) (hi : IdxAt r.sz v i p) (hat : At w p cs) (hcs : cs.length = r.sz) (hk : cs[k]? = some u) :
    ∃ b1, Ow r1 E1 true w [] b1 u (get x) ∧ (∀ j ∈ bl b1, j ∈ bl b ++ fs) ∧ ∀ w' x', Chg (bl b1) w w' → Ow r1 E1 true w' [] b1 u x' → Ow r e true w' fs b v (xs.set i.toNat (put x x')) := by
  rcases h with ⟨_, _, hxs, _⟩ | ⟨g, cap, cur, cs0, hg, hv, hh, h1, h2, h3, h4, h5, h6⟩
  · simp [hxs] at hx
  · obtain ⟨pre, f, post, hf, hr, hback⟩ := h5.upd hx
    obtain ⟨fs1, b1, u', e1, e2, e3⟩ := L.out hr
    obtain rfl := Ow.noFs hs e3
    simp only [List.append_nil] at e2
    obtain ⟨b0, len, cap0, hv', h0, hlt, hp⟩ := hi
    rw [hv] at hv'; injection hv' with a1 a2 a3; injection a1 with a1; subst a1
    have hl := (List.getElem?_eq_some_iff.1 hx).1
    have hm : (i.toNat + 1) * r.sz ≤ xs.length * r.sz := Nat.mul_le_mul_right _ (by omega)
    rw [Nat.add_mul, Nat.one_mul] at hm
    have hm2 : xs.length * r.sz ≤ cap * r.sz := Nat.mul_le_mul_right _ h1
    have hat0 : At w ⟨g, 0, none⟩ cs0 := by rw [← h4]; simpa using at_row hh 0 (xs.length * r.sz)
    have hseg : cs = (cs0.drop (i.toNat * r.sz)).take r.sz := by
      rw [hp] at hat
      exact hat.uniq (list_seg cs0 _ _ w g 0 hat0) (by rw [hcs, List.length_take, List.length_drop, h5.len]; omega)
    have huu : u' = u := by
      rw [hseg, e1] at hk; exact Option.some.inj hk
    subst huu
    refine ⟨b1, e3, fun j hj => ?_, fun w' x' hc h' => ?_⟩
    · rw [hf, e2]; simp [hj]
    · have hnd : (pre ++ f ++ post).Nodup := by rw [← hf]; exact nd_right nd
      have hpp := nd_parts hnd
      have hb1 : ∀ j ∈ f, (j : Int) ≠ b := fun j hj => h6 j (by rw [hf]; simp [hj])
      have hrow := L.back (w' := w') (x' := x') hr e1 (by rw [e2]; simp) h'
      have hbnd := h5.bnd
      have hnew := hback w' _ _ hrow (fun j hj => hc.block j (hbnd j (by rw [hf]; rcases List.mem_append.1 hj with q | q <;> simp [q])) (fun hm => hpp j (by rw [e2]; exact hm) hj))
      have hcs0 : cs0.take (i.toNat * r.sz) ++ (cs0.drop (i.toNat * r.sz)).take r.sz ++ cs0.drop (i.toNat * r.sz + r.sz) = cs0 := by
        rw [← List.drop_drop, List.append_assoc, List.take_append_drop, List.take_append_drop]
      rw [hcs0] at hnew
      refine .inr ⟨g, cap, cur, cs0, hg, by rw [hv]; simp, ?_, by simpa using h1, h2, h3, by rw [List.length_set]; exact h4, hnew, h6⟩
      rw [hc.block g (lt_size hh) (fun hm => hb1 g (by rw [e2]; exact hm) hg.symm)]; exact hh
def S2 (D' D : List Nat) (a : World) : Prop := ∀ i ∈ D', i ∈ D ∨ a.heap.size ≤ i
theorem S2.par {D' D : List Nat} {a : World} (h : ∀ i ∈ D', i ∈ D) : S2 D' D a := fun i hi => .inl (h i hi)
theorem S2.own {D' D : List Nat} {a : World} (h : ∀ i ∈ D', a.heap.size ≤ i) : S2 D' D a := fun i hi => .inr (h i hi)
theorem S2.app {D1 D2 D : List Nat} {a : World} (h : S2 D1 D a) (h' : S2 D2 D a) : S2 (D1 ++ D2) D a := fun i hi => by
  rcases List.mem_append.1 hi with g | g
  · exact h i g
  · exact h' i g
theorem S2.sub {D1 D2 D : List Nat} {a : World} (hs : ∀ i ∈ D1, i ∈ D2) (h : S2 D2 D a) : S2 D1 D a := fun i hi => h i (hs i hi)
theorem Nf.new {fp fs : List Nat} {w : World} (h : ∀ k ∈ fp, k < w.heap.size) (h' : ∀ k ∈ fs, w.heap.size ≤ k) : ∀ k ∈ fp, k ∉ fs := fun k hk hm => by have := h k hk; have := h' k hm; omega
theorem Nf.old {fs' fs : List Nat} {b : Int} {w : World} (hz : Zn w b) (hf : ∀ k ∈ fs', w.heap.size ≤ k) (h : ∀ k ∈ fs, k < w.heap.size) : ∀ k ∈ bl b ++ fs', k ∉ fs := fun k hk hm => by
  have := h k hm
  rcases List.mem_append.1 hk with g | g
  · have := hz.bl k g; omega
  · have := hf k g; omega
theorem Nf.old1 {fs : List Nat} {b : Nat} {w : World} (hz : Zn w (b : Int)) (h : ∀ k ∈ fs, k < w.heap.size) : ∀ k ∈ [b], k ∉ fs := fun k hk hm => by
  have := h k hm; simp at hk; subst hk; rcases hz with g | g <;> omega
theorem Ow.off {D : List Nat} {o : Bool} {w w' : World} {e : TypeId} {fs b v} {xs : List α} (h : Ow r e o w fs b v xs) (c : Chg D w w') (hD : ∀ k ∈ bl b ++ fs, k ∉ D) : Ow r e o w' fs b v xs :=
  h.chg c (fun k hk hb => hD k (List.mem_append_left _ (mem_bl.2 hb)) hk) (fun k hk => hD k (List.mem_append_right _ hk))
theorem Ro.off {D : List Nat} {w w' : World} {fp v} {xs : List α} (h : Ro r w fp v xs) (c : Chg D w w') (hD : ∀ k ∈ fp, k ∉ D) : Ro r w' fp v xs := h.chg c hD
theorem Bx.off {D : List Nat} {w w' : World} {b cs e} (h : Bx w b cs e) (c : Chg D w w') (hD : ∀ k ∈ [b], k ∉ D) : Bx w' b cs e := h.chg c (hD b (by simp))
end
def Pv (F : List Nat) (n : Nat) (fp : List Nat) : Prop := ∀ k ∈ fp, k ∈ F ∨ n ≤ k
theorem Pv.nil {F : List Nat} {n : Nat} : Pv F n [] := fun k h => nomatch h
theorem Pv.par {F fp : List Nat} {n : Nat} (h : ∀ k, k ∈ fp → k ∈ F) : Pv F n fp := fun k hk => .inl (h k hk)
theorem Pv.own {F fs : List Nat} {w : World} {b : Int} (hz : Zn w b) (hf : ∀ k ∈ fs, w.heap.size ≤ k) : Pv F w.heap.size (bl b ++ fs) := fun k hk => by
  rcases List.mem_append.1 hk with g | g
  · exact .inr (hz.bl k g)
  · exact .inr (hf k g)
theorem Pv.ow {F fs : List Nat} {w : World} {b : Int} (hz : Zn w b) (h : Pv F w.heap.size fs) : Pv F w.heap.size (bl b ++ fs) := fun k hk => by
  rcases List.mem_append.1 hk with g | g
  · exact .inr (hz.bl k g)
  · exact h k g
theorem Pv.mono {F fp fp' : List Nat} {n : Nat} (h : Pv F n fp) (hs : ∀ k ∈ fp', k ∈ fp) : Pv F n fp' := fun k hk => h k (hs k hk)
theorem Pv.app {F f g : List Nat} {n : Nat} (h : Pv F n f) (h' : Pv F n g) : Pv F n (f ++ g) := fun k hk => by
  rcases List.mem_append.1 hk with q | q
  · exact h k q
  · exact h' k q
theorem Pv.set {F fs f fs' : List Nat} {n : Nat} (hs : Subst fs f fs') (h : Pv F n fs) (h' : Pv F n f) : Pv F n fs' := fun k hk => by
  rcases hs.mem k hk with g | g
  · exact h k g
  · exact h' k g
theorem Pv.call {F F' fp : List Nat} {n m : Nat} (h : Pv F' m fp) (h' : Pv F n F') (hm : n ≤ m) : Pv F n fp := fun k hk => by
  rcases h k hk with q | q
  · exact h' k q
  · exact .inr (by omega)
theorem Nq.rd {F fp : List Nat} {w : World} {b : Int} (h : Pv F w.heap.size fp) (h' : Nq F b) (hb : b < w.heap.size) : Nq fp b := fun k hk => by
  rcases h k hk with q | q
  · exact h' k q
  · omega
section walk
variable {α : Type} {r : Rp α} {P : Program} {ops : Array Oper} {Q : Exit → Act → World → Prop} {a : Act} {w : World} {rest : List Oper} {N : Nat} {σ : Slots}
variable {ty : TypeId} {pos : String} {af : Array Edge} {e : TypeId}
end walk
end Go.Proofs.YtmaaloijdjnblaaGreatDoor
