/- The greatest matchings within sets of vertices: their table, both sides'. -/
import Derived.Test.YthbmcbflnibpbabDoorHam
import Derived.Test.YthbmcbflnibpbabDoorRing
namespace Go.Proofs.YthbmcbflnibpbabDoor
def ofM (w : Int) (l : List Int) : Int := l.foldl (fun m x => max m (x + 1)) w
theorem ofM_map (w : Int) (us : List Nat) (T : Nat → Int) : ofM w (us.map T) = us.foldl (fun m u => max m (T u + 1)) w := List.foldl_map
theorem ofM_ge : ∀ (l : List Int) (w : Int), w ≤ ofM w l
  | [], w => Int.le_refl _
  | x :: l, w => by have := ofM_ge l (max w (x + 1)); show w ≤ ofM (max w (x + 1)) l; omega
theorem ofM_mem : ∀ (l : List Int) (w x : Int), x ∈ l → x + 1 ≤ ofM w l
  | y :: l, w, x, h => by
    show x + 1 ≤ ofM (max w (y + 1)) l
    rcases List.mem_cons.1 h with e | e
    · have := ofM_ge l (max w (y + 1)); omega
    · exact ofM_mem l _ x e
theorem ofM_cases : ∀ (l : List Int) (w : Int), ofM w l = w ∨ ∃ x ∈ l, ofM w l = x + 1
  | [], w => .inl rfl
  | y :: l, w => by
    show ofM (max w (y + 1)) l = w ∨ ∃ x ∈ y :: l, ofM (max w (y + 1)) l = x + 1
    rcases ofM_cases l (max w (y + 1)) with e | ⟨x, hx, e⟩
    · rw [e]
      by_cases h : w ≤ y + 1
      · exact .inr ⟨y, List.mem_cons_self .., by omega⟩
      · exact .inl (by omega)
    · exact .inr ⟨x, List.mem_cons_of_mem _ hx, e⟩
/-- the most edges that a matching within s has -/
def mst (a : List Nat) (s : Nat) : Int := tabv a 0 ofM s
section
variable {a : List Nat}
theorem mst_zero : mst a 0 = 0 := rfl
theorem mst_step {s : Nat} (h : s ≠ 0) : mst a s = ofM (mst a (sdiff s (2 ^ low s))) ((mates a s).map fun u => mst a (sdiff (sdiff s (2 ^ low s)) (2 ^ u))) := tabv_step a 0 ofM h
theorem mst_rest {s : Nat} (h : s ≠ 0) : mst a (sdiff s (2 ^ low s)) ≤ mst a s := by rw [mst_step h]; exact ofM_ge _ _
theorem mst_mate {s u : Nat} (h : s ≠ 0) (hu : u ∈ mates a s) : mst a (sdiff (sdiff s (2 ^ low s)) (2 ^ u)) + 1 ≤ mst a s := by
  rw [mst_step h]; exact ofM_mem _ _ _ (List.mem_map.2 ⟨u, hu, rfl⟩)
theorem mst_cases {s : Nat} (h : s ≠ 0) : mst a s = mst a (sdiff s (2 ^ low s)) ∨ ∃ u ∈ mates a s, mst a s = mst a (sdiff (sdiff s (2 ^ low s)) (2 ^ u)) + 1 := by
  rw [mst_step h]
  rcases ofM_cases ((mates a s).map fun u => mst a (sdiff (sdiff s (2 ^ low s)) (2 ^ u))) (mst a (sdiff s (2 ^ low s))) with e | ⟨x, hx, e⟩
  · exact .inl e
  · obtain ⟨u, hu, rfl⟩ := List.mem_map.1 hx
    exact .inr ⟨u, hu, e⟩
theorem mst_bound : ∀ s, 0 ≤ mst a s ∧ mst a s ≤ s := by
  intro s
  induction s using Nat.strongRecOn with
  | _ s ih =>
    by_cases h : s = 0
    · subst h; rw [mst_zero]; omega
    · have hl := less_rest h
      have h1 := ih _ hl
      have h2 := mst_rest (a := a) h
      refine ⟨by omega, ?_⟩
      rcases mst_cases (a := a) h with e | ⟨u, hu, e⟩
      · omega
      · have h3 := sdiff_le (sdiff s (2 ^ low s)) (2 ^ u)
        have := ih (sdiff (sdiff s (2 ^ low s)) (2 ^ u)) (by omega)
        omega
theorem mostEdges_eq (ha : a.length ≤ 16) (hb : ∀ v (h : v < a.length), a[v] < 2 ^ 16) : F_impl_mostEdges (bvs a) = some ((List.range (2 ^ a.length)).map (mst a)) := by
  have hp : 2 ^ a.length ≤ 2 ^ 16 := pow16 ha
  unfold F_impl_mostEdges
  rw [cal_of (onSets_eq ha hb 0 _ ofM (fun s hs h0 => ?_))]
  · rfl
  have e : tabv a 0 ofM s = _ := tabv_step a 0 ofM h0
  rw [e]
  have hr := less_rest h0
  have hb0 := mst_bound (a := a) (sdiff s (2 ^ low s))
  have hml := mates_len (a := a) h0 (show s < 2 ^ 16 by omega)
  have hcl := els_len_le s
  unfold card at hml
  have hbx : ∀ x ∈ (mates a s).map (fun u => tabv a 0 ofM (sdiff (sdiff s (2 ^ low s)) (2 ^ u))), 0 ≤ x ∧ x ≤ 65536 := fun x hx => by
    obtain ⟨u, hu, rfl⟩ := List.mem_map.1 hx
    have h3 := sdiff_le (sdiff s (2 ^ low s)) (2 ^ u)
    have := mst_bound (a := a) (sdiff (sdiff s (2 ^ low s)) (2 ^ u))
    unfold mst at this
    omega
  have hlen : ((mates a s).map (fun u => tabv a 0 ofM (sdiff (sdiff s (2 ^ low s)) (2 ^ u)))).length ≤ 16 := by rw [List.length_map]; omega
  have hw : 0 ≤ tabv a 0 ofM (sdiff s (2 ^ low s)) ∧ tabv a 0 ofM (sdiff s (2 ^ low s)) ≤ 65536 := by unfold mst at hb0; omega
  generalize (mates a s).map (fun u => tabv a 0 ofM (sdiff (sdiff s (2 ^ low s)) (2 ^ u))) = l at hbx hlen
  generalize tabv a 0 ofM (sdiff s (2 ^ low s)) = w at hw
  unfold F_impl_mostEdges_1
  rw [bnd_l (lp_fold l (fun m x => max m (x + 1)) w (fun m => 0 ≤ m ∧ m ≤ 70000) (by omega) (fun k hk m hm => ?_) (fun m hm => ?_))]
  · rfl
  · have := hbx _ (List.getElem_mem hk)
    simp only [F_impl_mostEdges_1_l1]
    rw [if_pos (by omega), idx_nat hk, ck_of (inI (by omega) (by omega)), ck_of (inI (by omega) (by omega))]
    exact ⟨rfl, by omega, by omega⟩
  · simp only [F_impl_mostEdges_1_l1]
    rw [if_neg (by omega), hm]; rfl
end
end Go.Proofs.YthbmcbflnibpbabDoor
