/- Dice, and graphs made edge by edge: what they give, in plain Lean. -/
import Derived.Test.YtadagcgehcpelaaDoorF
import Derived.Test.YtadagcgehcpelaaDoorParts
import Derived.Test.YtadagcgehcpelaaDoorGraph
namespace Go.Proofs.YtadagcgehcpelaaDoor
/-- dice that stand within their bytes -/
structure DOk (d : List (BitVec 8) × Int × Int) : Prop where
  len : d.1.length ≤ 4096
  lo : 0 ≤ d.2.1
  hi : d.2.1 ≤ d.1.length
theorem l1Copy_eqD {l : List Int} (h : l.length ≤ 1048576) : F_spec_l1Copy l = some l := by
  unfold F_spec_l1Copy
  rw [app_s (by simp; omega)]; rfl
/-- put into a list that rises: it rises still -/
theorem into_any {l : List Int} (x : Int) (hl : l.length ≤ 1000000) (hs : l.Pairwise (· < ·)) : ∃ r, F_spec_l1Into l x = some r ∧ (∀ y, y ∈ r ↔ y ∈ l ∨ y = x) ∧ r.Pairwise (· < ·) := by
  obtain ⟨o, h1, i, rfl, hi, hlt, hge⟩ : ∃ o, lp (fun s => F_spec_l1Into_l1 l x s) 0 = some o ∧ ∃ i : Nat, o = .inl (i : Int) ∧ i ≤ l.length ∧ (∀ j (hj : j < l.length), j < i → l[j] < x) ∧ (∀ h : i < l.length, ¬ l[i] < x) := by
    refine lp_rule (step := fun s => F_spec_l1Into_l1 l x s) (fun s => ∃ k : Nat, s = (k : Int) ∧ k ≤ l.length ∧ ∀ j (hj : j < l.length), j < k → l[j] < x) (fun s => l.length - s.toNat) (fun o => ∃ i : Nat, o = .inl (i : Int) ∧ i ≤ l.length ∧ (∀ j (hj : j < l.length), j < i → l[j] < x) ∧ (∀ h : i < l.length, ¬ l[i] < x)) ?_ 0 ⟨0, rfl, Nat.zero_le _, fun j _ h => by omega⟩
    rintro s ⟨k, rfl, hk, hb⟩
    simp only [F_spec_l1Into_l1]
    by_cases h : k < l.length
    · rw [if_pos (by omega), idx_nat h]
      by_cases h2 : l[k] < x
      · rw [if_pos h2, ck_of (inI (by omega) (by omega))]
        refine .inl ⟨_, rfl, ⟨k + 1, by omega, by omega, fun j hj hjk => ?_⟩, by omega⟩
        by_cases e : j = k
        · subst e; exact h2
        · exact hb j hj (by omega)
      · rw [if_neg h2]; exact .inr ⟨_, rfl, k, rfl, hk, hb, fun _ => h2⟩
    · rw [if_neg (by omega)]; exact .inr ⟨_, rfl, k, rfl, hk, hb, fun h' => absurd h' h⟩
  unfold F_spec_l1Into
  rw [bnd_l h1]
  unfold F_spec_l1Into_k2
  have hput : ∀ {β : Type} (q : List Int → Option β), slc l 0 (i : Int) (fun _ => cal (F_spec_l1Copy ((l.drop (0 : Int).toNat).take ((i : Int).toNat - (0 : Int).toNat))) (fun x95 => app x95 ([x]) (fun _ => slc l (i : Int) (l.length : Int) (fun _ =>
      app (x95 ++ ([x])) ((l.drop (i : Int).toNat).take (((l.length : Int) : Int).toNat - (i : Int).toNat)) (fun _ => q ((x95 ++ ([x])) ++ ((l.drop (i : Int).toNat).take (((l.length : Int) : Int).toNat - (i : Int).toNat)))))))) = q ((l.take i ++ [x]) ++ l.drop i) := by
    intro β q
    have e : (l.drop i).take (l.length - i) = l.drop i := List.take_of_length_le (by simp)
    rw [slc_of ⟨by decide, by omega, by omega⟩, show (0 : Int).toNat = 0 from rfl, List.drop_zero, Int.toNat_natCast, Nat.sub_zero, cal_of (l1Copy_eqD (by rw [List.length_take]; omega)), app1_s (by rw [List.length_take]; omega), slc_of ⟨by omega, by omega, by omega⟩, Int.toNat_natCast, e, app_s (by simp; omega)]
  have hmem : ∀ y, y ∈ (l.take i ++ [x]) ++ l.drop i ↔ y ∈ l ∨ y = x := by
    intro y
    have e : y ∈ l ↔ y ∈ l.take i ∨ y ∈ l.drop i := by rw [← List.mem_append, List.take_append_drop]
    rw [e]
    simp only [List.mem_append, List.mem_singleton]
    constructor
    · rintro ((h | h) | h)
      · exact .inl (.inl h)
      · exact .inr h
      · exact .inl (.inr h)
    · rintro ((h | h) | h)
      · exact .inl (.inl h)
      · exact .inr h
      · exact .inl (.inr h)
  have htake : ∀ y ∈ l.take i, y < x := fun y hy => by
    rw [List.mem_take_iff_getElem] at hy
    obtain ⟨j, hj, rfl⟩ := hy
    exact hlt j (by omega) (by omega)
  have hsort : (∀ h : i < l.length, l[i] ≠ x) → ((l.take i ++ [x]) ++ l.drop i).Pairwise (· < ·) := by
    intro hne
    have hdrop : ∀ y ∈ l.drop i, x < y := fun y hy => by
      rw [List.mem_drop_iff_getElem] at hy
      obtain ⟨j, hj, rfl⟩ := hy
      have h3 := hge (by omega)
      have h4 := hne (by omega)
      rcases Nat.eq_zero_or_pos j with e | e
      · subst e; simp only [Nat.add_zero]; omega
      · have := List.pairwise_iff_getElem.1 hs i (i + j) (by omega) (by omega) (by omega); omega
    rw [List.pairwise_append, List.pairwise_append]
    refine ⟨⟨hs.sublist (List.take_sublist ..), by simp, fun a ha b hb => by rw [List.mem_singleton.1 hb]; exact htake a ha⟩, hs.sublist (List.drop_sublist ..), fun a ha b hb => ?_⟩
    have hb2 := hdrop b hb
    rcases List.mem_append.1 ha with h | h
    · have := htake a h; omega
    · rw [List.mem_singleton.1 h]; exact hb2
  by_cases h : i < l.length
  · rw [if_pos (by omega), idx_nat h]
    by_cases h2 : l[i] = x
    · rw [if_pos h2]
      exact ⟨l, rfl, fun y => ⟨.inl, fun h => h.elim id fun e => by rw [e, ← h2]; exact List.getElem_mem _⟩, hs⟩
    · rw [if_neg h2, hput]; exact ⟨_, rfl, hmem, hsort fun _ => h2⟩
  · rw [if_neg (by omega), hput]; exact ⟨_, rfl, hmem, hsort fun h' => absurd h' h⟩
/-- a graph of n vertices whose edges are E -/
structure Has (g : List (List Int)) (n : Nat) (E : Nat → Nat → Prop) : Prop where
  len : g.length = n
  srt : ∀ v (h : v < g.length), g[v].Pairwise (· < ·)
  mem : ∀ v (h : v < g.length) (y : Int), y ∈ g[v] ↔ ∃ u : Nat, y = u ∧ E v u
  rng : ∀ u v, E u v → u < n ∧ v < n ∧ u ≠ v ∧ E v u
theorem rises_of {s : List Int} {n : Nat} (hs : s.Pairwise (· < ·)) (hm : ∀ y ∈ s, 0 ≤ y ∧ y < n) : Rises s n := fun k hk => by
  have := hm _ (List.getElem_mem hk)
  refine ⟨this.1, by omega, fun h => ?_⟩
  exact List.pairwise_iff_getElem.1 hs (k - 1) k (by omega) hk (by omega)
theorem Has.row {g : List (List Int)} {n : Nat} {E : Nat → Nat → Prop} (h : Has g n E) {v : Nat} (hv : v < g.length) : Rises g[v] n :=
  rises_of (h.srt v hv) fun y hy => by
    obtain ⟨u, rfl, hu⟩ := (h.mem v hv y).1 hy
    have := h.rng _ _ hu
    omega
theorem Has.gok {g : List (List Int)} {n : Nat} {E : Nat → Nat → Prop} (h : Has g n E) (h1 : 1 ≤ n) (h16 : n ≤ 16) : GOk g := by
  have hl := h.len
  refine ⟨by omega, by omega, fun v hv => ⟨?_, fun hm => ?_⟩, fun v hv w hw hwl => ?_⟩
  · have := h.row hv; rwa [← hl] at this
  · obtain ⟨u, e, hu⟩ := (h.mem v hv _).1 hm
    have := h.rng _ _ hu; omega
  · obtain ⟨u, rfl, hu⟩ := (h.mem v hv w).1 hw
    simp only [Int.toNat_natCast] at hwl ⊢
    exact (h.mem u hwl _).2 ⟨v, rfl, (h.rng _ _ hu).2.2.2⟩
theorem link_ex {g : List (List Int)} {n : Nat} {E : Nat → Nat → Prop} (h : Has g n E) (h16 : n ≤ 16) {u v : Nat} (hu : u < n) (hv : v < n) (huv : u ≠ v) :
    ∃ g', F_spec_l1Link g (u : Int) (v : Int) = some g' ∧ Has g' n (fun a b => E a b ∨ (a = u ∧ b = v) ∨ (a = v ∧ b = u)) := by
  have hl := h.len
  have hru := (h.row (v := u) (by omega)).len (by omega)
  have hrv := (h.row (v := v) (by omega)).len (by omega)
  obtain ⟨r1, e1, m1, s1⟩ := into_any (l := g[u]) (v : Int) (by omega) (h.srt u (by omega))
  obtain ⟨r2, e2, m2, s2⟩ := into_any (l := g[v]) (u : Int) (by omega) (h.srt v (by omega))
  have hg1 : (g.set u r1).length = n := by simp [hl]
  have hv1 : (g.set u r1)[v]'(by omega) = g[v] := by rw [List.getElem_set_ne (by omega)]
  refine ⟨(g.set u r1).set v r2, ?_, by simp [hl], fun w hw => ?_, fun w hw y => ?_, fun a b hab => ?_⟩
  · unfold F_spec_l1Link
    rw [idx_nat (by omega), cal_of e1, idx_nat (by omega), Int.toNat_natCast, idx_nat (by omega), hv1, cal_of e2, idx_nat (by omega), Int.toNat_natCast]
  · simp only [List.length_set] at hw
    rw [List.getElem_set]
    split
    · exact s2
    · rw [List.getElem_set]
      split
      · exact s1
      · exact h.srt w hw
  · simp only [List.length_set] at hw
    rw [List.getElem_set]
    split
    · rename_i e
      subst e
      rw [m2, h.mem v hw]
      constructor
      · rintro (⟨x, rfl, hx⟩ | e)
        · exact ⟨x, rfl, .inl hx⟩
        · exact ⟨u, e, .inr (.inr ⟨rfl, rfl⟩)⟩
      · rintro ⟨x, rfl, hx | ⟨e, rfl⟩ | ⟨_, rfl⟩⟩
        · exact .inl ⟨x, rfl, hx⟩
        · omega
        · exact .inr rfl
    · rename_i e1
      rw [List.getElem_set]
      split
      · rename_i e
        subst e
        rw [m1, h.mem u hw]
        constructor
        · rintro (⟨x, rfl, hx⟩ | e)
          · exact ⟨x, rfl, .inl hx⟩
          · exact ⟨v, e, .inr (.inl ⟨rfl, rfl⟩)⟩
        · rintro ⟨x, rfl, hx | ⟨_, rfl⟩ | ⟨e, rfl⟩⟩
          · exact .inl ⟨x, rfl, hx⟩
          · exact .inr rfl
          · omega
      · rename_i e2
        rw [h.mem w hw]
        constructor
        · rintro ⟨x, rfl, hx⟩; exact ⟨x, rfl, .inl hx⟩
        · rintro ⟨x, rfl, hx | ⟨e, rfl⟩ | ⟨e, rfl⟩⟩
          · exact ⟨x, rfl, hx⟩
          · omega
          · omega
  · rcases hab with h1 | ⟨rfl, rfl⟩ | ⟨rfl, rfl⟩
    · have := h.rng _ _ h1; exact ⟨this.1, this.2.1, this.2.2.1, .inl this.2.2.2⟩
    · exact ⟨hu, hv, huv, .inr (.inr ⟨rfl, rfl⟩)⟩
    · exact ⟨hv, hu, fun e => huv e.symm, .inr (.inl ⟨rfl, rfl⟩)⟩
theorem has_empty (n : Nat) : Has (List.replicate n []) n (fun _ _ => False) :=
  ⟨by simp, fun v h => by simp, fun v h y => by simp, fun u v h => h.elim⟩
theorem Has.congr {g : List (List Int)} {n : Nat} {E E' : Nat → Nat → Prop} (h : Has g n E) (he : ∀ a b, E a b ↔ E' a b) : Has g n E' :=
  ⟨h.len, h.srt, fun v hv y => by rw [h.mem v hv y]; exact ⟨fun ⟨u, e, q⟩ => ⟨u, e, (he _ _).1 q⟩, fun ⟨u, e, q⟩ => ⟨u, e, (he _ _).2 q⟩⟩, fun u v huv => by
    have := h.rng u v ((he _ _).2 huv); exact ⟨this.1, this.2.1, this.2.2.1, (he _ _).1 this.2.2.2⟩⟩
/-- two graphs with the same edges are one -/
theorem Has.eq {g g' : List (List Int)} {n : Nat} {E : Nat → Nat → Prop} (h : Has g n E) (h' : Has g' n E) : g = g' := by
  refine List.ext_getElem (by rw [h.len, h'.len]) fun v h1 h2 => ?_
  refine List.Perm.eq_of_pairwise (le := (· < ·)) (fun a b _ _ _ _ => by omega) (h.srt v h1) (h'.srt v h2) ?_
  refine (List.perm_ext_iff_of_nodup ((h.srt v h1).imp fun h => by omega) ((h'.srt v h2).imp fun h => by omega)).2 fun y => ?_
  rw [h.mem v h1, h'.mem v h2]
end Go.Proofs.YtadagcgehcpelaaDoor
