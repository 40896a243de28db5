/- Parts of slices; nil tests; literals of several elements. Of whatever program. -/
import Derived.Test.YtmaaloijdjnblaaGreatDoorAid
namespace Go.Proofs.YtmaaloijdjnblaaGreatDoor
open Go Go.RowKit
section
variable {α : Type} {r : Rp α} {o : Bool} {w : World}
theorem RepL.drop : ∀ {xs : List α} {fp cs}, RepL r o w fp cs xs → ∀ i, ∃ pre fp', fp = pre ++ fp' ∧ RepL r o w fp' (cs.drop (i * r.sz)) (xs.drop i)
  | xs, fp, cs, h, 0 => ⟨[], fp, rfl, by simpa using h⟩
  | [], fp, cs, h, i + 1 => ⟨[], fp, rfl, by obtain ⟨h1, h2⟩ := h; subst h1 h2; simp [RepL]⟩
  | x :: xs, _, _, ⟨f, fs, c, cs', hf, hc, hx, hr⟩, i + 1 => by
    obtain ⟨pre, fp', h1, h2⟩ := hr.drop i
    refine ⟨f ++ pre, fp', by rw [hf, h1]; simp, ?_⟩
    have e := r.len hx
    have e1 : (c ++ cs').drop ((i + 1) * r.sz) = cs'.drop (i * r.sz) := by
      rw [Nat.add_mul, Nat.one_mul, Nat.add_comm, ← e, List.drop_append, List.drop_of_length_le (by omega)]
      simp
    rw [hc, e1]; simpa using h2
theorem RepL.take : ∀ {xs : List α} {fp cs}, RepL r o w fp cs xs → ∀ i, ∃ fp' post, fp = fp' ++ post ∧ RepL r o w fp' (cs.take (i * r.sz)) (xs.take i)
  | xs, fp, cs, h, 0 => ⟨[], fp, rfl, by simp [RepL]⟩
  | [], fp, cs, h, i + 1 => ⟨fp, [], by simp, by obtain ⟨h1, h2⟩ := h; subst h1 h2; simp [RepL]⟩
  | x :: xs, _, _, ⟨f, fs, c, cs', hf, hc, hx, hr⟩, i + 1 => by
    obtain ⟨fp', post, h1, h2⟩ := hr.take i
    have e := r.len hx
    have e1 : (c ++ cs').take ((i + 1) * r.sz) = c ++ cs'.take (i * r.sz) := by
      rw [Nat.add_mul, Nat.one_mul, Nat.add_comm, ← e, List.take_append, List.take_of_length_le (by omega)]
      simp
    refine ⟨f ++ fp', post, by rw [hf, h1]; simp, ?_⟩
    rw [hc, e1]
    exact ⟨f, fp', c, _, rfl, rfl, hx, h2⟩
theorem At.drop {b off : Nat} {cs : List Value} (h : At w ⟨b, off, none⟩ cs) (n : Nat) : At w ⟨b, off + n, none⟩ (cs.drop n) := by
  intro j v hj
  rw [List.getElem?_drop] at hj
  have := h _ v hj
  rw [Addr.add_lit'] at this ⊢
  rwa [Nat.add_assoc]
theorem At.take {p : Addr} {cs : List Value} (h : At w p cs) (n : Nat) : At w p (cs.take n) := by
  intro j v hj
  rw [List.getElem?_take] at hj
  split at hj
  · exact h j v hj
  · cases hj
end
def Bnd (x : Option Value) (i : Int) (d : Int) : Prop := (x = none ∧ i = d) ∨ ∃ k, x = some (.int k i)
section
variable {α : Type} {r : Rp α} {w : World} {P : Program} {C : World → Prop} {σ : Slots}
theorem run_sliceBounds {lo hi : Option Value} {i j : Int} {len cap : Nat} (hlo : Bnd lo i 0) (hhi : Bnd hi j len) (h0 : 0 ≤ i) (hij : i ≤ j) (hj : j ≤ len) (hc : len ≤ cap) (w : World) :
    (Instr.sliceBounds true len cap lo hi none).run P w = .ok (i.toNat, j.toNat, cap) w := by
  rcases hlo with ⟨rfl, rfl⟩ | ⟨k, rfl⟩ <;> rcases hhi with ⟨rfl, rfl⟩ | ⟨k', rfl⟩
  · simp [Instr.sliceBounds]
  · have h1 : j ≤ (cap : Int) := by omega
    simp [Instr.sliceBounds, Instr.sliceBound, asIntOf, hij, h1]
  · simp [Instr.sliceBounds, Instr.sliceBound, asIntOf, h0, hij]
  · have h1 : j ≤ (cap : Int) := by omega
    have h2 : 0 ≤ j := by omega
    have h3 : (j.toNat : Int) = j := by omega
    simp [Instr.sliceBounds, Instr.sliceBound, asIntOf, h0, hij, h1, h2, h3]
theorem Ro.slice {T bytes : Nat} {e : TypeId} {z : Value} {fp : List Nat} {v : Value} {xs : List α} {lo hi : Option Value} {i j : Int} (h : Ro r w fp v xs) (hT : SlT P T e r.sz bytes z) (hlo : Bnd lo i 0) (hhi : Bnd hi j xs.length)
    (hb : 0 ≤ i ∧ i ≤ j ∧ j ≤ xs.length) :
    ∃ v' fp', (∀ w', (Instr.slice T v lo hi none).run P w' = .ok v' w') ∧ Ro r w fp' v' ((xs.drop i.toNat).take (j.toNat - i.toNat)) ∧ (∀ k ∈ fp', k ∈ fp) := by
  obtain ⟨a, cap, hv, hl, hcase⟩ := h
  have hlc := hl.1
  have hlen : ((xs.drop i.toNat).take (j.toNat - i.toNat)).length = j.toNat - i.toNat := by simp; omega
  have hrun : ∀ w', (Instr.slice T v lo hi none).run P w' = .ok (.slice (if cap = i.toNat then a else a.map (·.add (i.toNat * r.sz))) (j.toNat - i.toNat) (cap - i.toNat)) w' := fun w' => by
    simp only [Instr.slice, hv, Sem.run_bind, run_underlying hT.und, Result.andThen_ok, run_sliceBounds hlo hhi hb.1 hb.2.1 hb.2.2 hlc, hT.size, Sem.run_pure]
  by_cases hz : j.toNat - i.toNat = 0
  · refine ⟨_, [], hrun, ⟨_, _, by rw [hlen], by omega, .inl ⟨List.eq_nil_of_length_eq_zero (by omega), rfl⟩⟩, by simp⟩
  · rcases hcase with ⟨hx, _⟩ | ⟨b, off, cs, fs, ha, hf, hbb, hat, hr⟩
    · subst hx; simp at hb; omega
    · obtain ⟨pre, f1, e1, h1⟩ := hr.drop i.toNat
      obtain ⟨f2, post, e2, h2⟩ := h1.take (j.toNat - i.toNat)
      refine ⟨_, b :: f2, hrun, ⟨_, _, by rw [hlen], by omega, .inr ⟨b, off + i.toNat * r.sz, _, f2, ?_, rfl, hbb, (hat.drop _).take _, h2⟩⟩, fun k hk => ?_⟩
      · rw [if_neg (by omega), ha]; simp [Addr.add_lit']
      · rw [hf]
        rcases List.mem_cons.1 hk with g | g
        · simp [g]
        · rw [e1, e2]; simp [g]
theorem Ow.roF {e : TypeId} {o : Bool} {fs : List Nat} {b : Int} {v : Value} {xs : List α} (h : Ow r e o w fs b v xs) : ∃ fp, Ro r w fp v xs ∧ ∀ k ∈ fp, k ∈ bl b ++ fs := by
  cases o with
  | true =>
    obtain ⟨fp, h1, h2⟩ := h.weak.ro
    exact ⟨fp, h1, fun k hk => by rcases h2 k hk with g | g; exact List.mem_append_right _ g; exact List.mem_append_left _ (mem_bl.2 g)⟩
  | false =>
    obtain ⟨fp, h1, h2⟩ := h.ro
    exact ⟨fp, h1, fun k hk => by rcases h2 k hk with g | g; exact List.mem_append_right _ g; exact List.mem_append_left _ (mem_bl.2 g)⟩
def evo (σ : Slots) : Option Operand → Option (Option Value)
  | none => some none
  | some x => (ev σ x).map some
theorem evo_map {N : Nat} {a : Act} (ha : Fr N σ a) {x : Option Operand} {v : Option Value} (h : evo σ x = some v) : x.map a.eval = v := by
  cases x with
  | none => simp [evo] at h; subst h; rfl
  | some x =>
    simp only [evo, Option.map_eq_some_iff] at h
    obtain ⟨u, hu, rfl⟩ := h
    simp [ha.eq hu]
theorem g_slice {T E : TypeId} {x : Operand} {lo hi : Option Operand} {v v' : Value} {l h : Option Value} (hT : P.underlying T = some (.slice E)) (hx : ev σ x = some v) (hl : evo σ lo = some l) (hh : evo σ hi = some h)
    (hr : ∀ w, (Instr.slice T v l h none).run P w = .ok v' w) : Gives P C σ (.slice T x lo hi none) v' :=
  fun N a w ha _ d ty pos af g => by
    have e : (Instr.sliceAt T v l h none).run P w = .ok v' w := by
      simp only [Instr.sliceAt, Sem.run_bind, run_underlying hT, Result.andThen_ok]
      exact hr w
    simp only [execOp, ha.eq hx, evo_map ha hl, evo_map ha hh, Option.map_none]
    simp [e]
def nilB : Value → Bool
  | .slice none _ _ => true
  | _ => false
theorem g_nil {T E : TypeId} {x : Operand} {v : Value} {xs : List α} {U : TypeId} (hT : P.underlying T = some (.slice E)) (hx : ev σ x = some v) (hv : ∃ a c, v = .slice a xs.length c) :
    Gives P C σ (.binOp .eql T x (.const (.slice none 0 0)) U) (.bool (nilB v)) :=
  fun N a w ha _ d ty pos af g => by
    obtain ⟨ad, c, rfl⟩ := hv
    have hn : a.eval (.const (.slice none 0 0)) = .slice none 0 0 := rfl
    have key : (Op.equal T (.slice ad xs.length c) (.slice none 0 0)).run P w = .ok (nilB (.slice ad xs.length c)) w := by
      unfold Op.equal
      obtain ⟨k, hk⟩ : ∃ k, Op.maxDepth = k + 1 := ⟨9999, rfl⟩
      rw [hk]
      cases ad <;> simp [Op.equalIn, run_underlying hT, nilB]
    simp [execOp, ha.eq hx, hn, eqGuard, binOp, key]
theorem Ro.nilE {fp : List Nat} {v : Value} {xs : List α} (h : Ro r w fp v xs) (hn : nilB v = true) : xs = [] := by
  obtain ⟨a, cap, hv, hl, ⟨hx, _⟩ | ⟨b, off, cs, fs, ha, _⟩⟩ := h
  · exact hx
  · rw [hv, ha] at hn; cases hn
theorem clone_nil {β : Type} {xs : List β} {r' : List β} (h : app ([] : List β) xs (fun _ => some ([] ++ xs)) = some r') (hx : xs = []) : some ([] : List β) = some r' := by
  subst hx
  unfold app at h
  split at h
  · simpa using h
  · cases h
end
theorem fold_set (cs : List Value) : ∀ (off : Nat) (pre junk : List Value), off = pre.length → cs.length ≤ junk.length →
    (cs.toArray.zipIdx).foldl (fun acc (x : Value × Nat) => acc.setIfInBounds (off + x.2) x.1) (pre ++ junk).toArray = (pre ++ cs ++ junk.drop cs.length).toArray := by
  have key : ∀ (cs : List Value) (k : Nat) (pre junk : List Value) (off : Nat), off + k = pre.length → cs.length ≤ junk.length →
      (cs.zipIdx k).foldl (fun acc (x : Value × Nat) => acc.setIfInBounds (off + x.2) x.1) (pre ++ junk).toArray = (pre ++ cs ++ junk.drop cs.length).toArray := by
    intro cs
    induction cs with
    | nil => intro k pre junk off _ _; simp
    | cons c cs ih =>
      intro k pre junk off h1 h2
      cases junk with
      | nil => simp at h2
      | cons j junk =>
        simp only [List.zipIdx_cons, List.foldl_cons]
        have e1 : (pre ++ j :: junk).toArray.setIfInBounds (off + k) c = ((pre ++ [c]) ++ junk).toArray := by rw [h1]; simp
        rw [e1, ih (k + 1) (pre ++ [c]) junk off (by simp; omega) (by simpa using h2)]
        simp
  intro off pre junk h1 h2
  have := key cs 0 pre junk off (by omega) h2
  simpa using this
theorem fill_all {sz : Nat} (ps : List (Value × List Value)) : ∀ (k : Nat) (pre junk : List Value), pre.length = k * sz → junk.length = ps.length * sz → (∀ p ∈ ps, p.1.cells = p.2.toArray ∧ p.2.length = sz) →
    Instr.fill (fun i => some (i * sz, sz)) (pre ++ junk).toArray ((ps.zipIdx k).map fun x => (x.2, x.1.1)) = some (pre ++ (ps.map (·.2)).flatten).toArray := by
  induction ps with
  | nil => intro k pre junk _ h _; have : junk = [] := List.eq_nil_of_length_eq_zero (by simpa using h); subst this; simp [Instr.fill]
  | cons p ps ih =>
    intro k pre junk h1 h2 h3
    obtain ⟨e1, e2⟩ := h3 p (by simp)
    have h2' : junk.length = ps.length * sz + sz := by simpa [Nat.add_mul] using h2
    simp only [List.zipIdx_cons, List.map_cons, Instr.fill, e1, List.size_toArray, e2, List.length_append, h1, List.map_cons, List.flatten_cons]
    rw [if_neg (by simp; omega)]
    rw [fold_set p.2 (k * sz) pre junk h1.symm (by omega), ih (k + 1) (pre ++ p.2) (junk.drop p.2.length) (by simp [h1, e2, Nat.add_mul]) (by simp; omega) (fun q hq => h3 q (by simp [hq]))]
    simp
section
variable {α : Type} {r : Rp α} {e : TypeId} {P : Program} {ops : Array Oper} {Q : Exit → Act → World → Prop} {a : Act} {w : World} {rest : List Oper} {N : Nat} {σ : Slots}
variable {d : Nat} {ty : TypeId} {pos : String} {af : Array Edge}
theorem o_litM {T bytes : Nat} {z : Value} {o : Bool} {f : List Nat} {ps : List (Value × List Value)} {ys : List α} {xs : List (Nat × Operand)} {n : Nat} (r : Rp α) (ha : Fr N σ a) (hd : Nat.ble (d + 1) N = true) (hT : SlT P T e r.sz bytes z)
    (hn0 : n = ps.length) (hn : Nat.ble (ps.length * r.sz) 4096 = true) (hp0 : Nat.ble 1 ps.length = true) (hx : evp σ xs = some (ps.zipIdx.map fun x => (x.2, x.1.1))) (hv : ∀ p ∈ ps, p.1.cells = p.2.toArray ∧ p.2.length = r.sz)
    (hy : RepL r o w f (ps.map (·.2)).flatten ys)
    (K : ∀ v w', Ow r e o w' f w.heap.size v ys → Ext w w' → ∀ a, Fr N ((d, v) :: σ) a → wpList P ops Q rest a w') :
    wpList P ops Q (⟨some d, .buildSlice T n xs.toArray, ty, pos, af, none⟩ :: rest) a w := by
  subst hn0
  have hs := hT.size w
  obtain ⟨i, hi, hzz, hsi, hby⟩ := hT.info
  have hlen := hy.len
  have hpos := r.pos
  have hn' := Nat.le_of_ble_eq_true hn
  have hp0' := Nat.le_of_ble_eq_true hp0
  have hz : (zeroValue e).run P w = .ok z w := by simp [zeroValue, typeInfo, hi, hzz]
  have hcl : (ps.map (·.2)).flatten.length = ps.length * r.sz := by
    have : ∀ l : List (Value × List Value), (∀ p ∈ l, p.2.length = r.sz) → (l.map (·.2)).flatten.length = l.length * r.sz := by
      intro l
      induction l with
      | nil => intro _; simp
      | cons q l ih => intro h; simp only [List.map_cons, List.flatten_cons, List.length_append, List.length_cons, h q (by simp), ih (fun p hp => h p (by simp [hp])), Nat.add_mul]; omega
    exact this ps (fun p hp => (hv p hp).2)
  have hyl : ys.length = ps.length := by
    rw [hcl] at hlen
    exact (Nat.mul_right_cancel hpos hlen).symm
  have hpp : (xs.toArray.map fun (x : Nat × Operand) => (x.1, a.eval x.2)).toList = ps.zipIdx.map (fun x => (x.2, x.1.1)) := by rw [← evp_map ha hx]; simp
  refine o_runw (v := .slice (some ⟨w.heap.size, 0, none⟩) ps.length ps.length) (w' := w.alloc (.cells (ps.map (·.2)).flatten.toArray e)) ha hd (fun g => ?_) (K _ _ ?_ (Ext.alloc _ _))
  · have hf := fill_all (sz := r.sz) ps 0 [] ((Array.range (ps.length * r.sz)).map (z.cells[· % z.cells.size]!)).toList (by simp) (by simp) hv
    simp only [List.nil_append, Array.toArray_toList] at hf
    have h3 : ¬ (16777216 < ps.length * r.sz) := by omega
    have h4 : ps.length * r.sz ≠ 0 := by
      have := Nat.mul_pos (show 0 < ps.length by omega) hpos; omega
    have hms := Array.map_congr_left (xs := xs.toArray) (f := fun (x : Nat × Operand) => (x.1, a.eval x.2)) (g := fun (x : Nat × Operand) => match x with | (i, x) => (i, a.eval x)) (fun x _ => rfl)
    rw [hms] at hpp
    simp only [execOp, Instr.buildSlice, Sem.run_bind, run_underlying hT.und, Result.andThen_ok, hs, h4, if_false, hz, hpp, hf]
    simp [h3, hz, hf, newRow]
  · refine .inr ⟨w.heap.size, ps.length, (ps.map (·.2)).flatten.toArray, (ps.map (·.2)).flatten, rfl, by rw [hyl], heap_alloc_new w _, by omega, ?_, by simpa using hcl, ?_, ?_, fun k hk => ?_⟩
    · have : ps.length ≤ ps.length * r.sz := Nat.le_mul_of_pos_right _ hpos
      simp only [maxLen]; omega
    · rw [hyl, ← hcl]; exact List.take_of_length_le (Nat.le_refl _)
    · exact hy.keep (fun k hk => (Ext.alloc w _).block k (hy.bnd k hk) (by simp))
    · have := hy.bnd k hk; omega
end
end Go.Proofs.YtmaaloijdjnblaaGreatDoor
