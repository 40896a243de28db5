/- The greatest matchings within sets of vertices: their table, both sides'. -/
import Derived.Test.YtadjcnllmkdgiaaDoorHam
import Derived.Test.YtadjcnllmkdgiaaDoorRing
namespace Go.Proofs.YtadjcnllmkdgiaaDoor
def ofM (w : Int) (l : List Int) : Int := l.foldl (fun m x => max m (x + 1)) w
theorem ofM_map (w : Int) (us : List Nat) (T : Nat → Int) : ofM w (us.map T) = us.foldl (fun m u => max m (T u + 1)) w := List.foldl_map
theorem ofM_ge : ∀ (l : List Int) (w : Int), w ≤ ofM w l
  | [], w => Int.le_refl _
  | x :: l, w => by have := ofM_ge l (max w (x + 1)); show w ≤ ofM (max w (x + 1)) l; omega
theorem ofM_mem : ∀ (l : List Int) (w x : Int), x ∈ l → x + 1 ≤ ofM w l
  | y :: l, w, x, h => by
    show x + 1 ≤ ofM (max w (y + 1)) l
    rcases List.mem_cons.1 h with e | e
    · have := ofM_ge l (max w (y + 1)); omega
    · exact ofM_mem l _ x e
theorem ofM_cases : ∀ (l : List Int) (w : Int), ofM w l = w ∨ ∃ x ∈ l, ofM w l = x + 1
  | [], w => .inl rfl
  | y :: l, w => by
    show ofM (max w (y + 1)) l = w ∨ ∃ x ∈ y :: l, ofM (max w (y + 1)) l = x + 1
    rcases ofM_cases l (max w (y + 1)) with e | ⟨x, hx, e⟩
    · rw [e]
      by_cases h : w ≤ y + 1
      · exact .inr ⟨y, List.mem_cons_self .., by omega⟩
      · exact .inl (by omega)
    · exact .inr ⟨x, List.mem_cons_of_mem _ hx, e⟩
/-- the most edges that a matching within s has -/
def mst (a : List Nat) (s : Nat) : Int := tabv a 0 ofM s
section
variable {a : List Nat}
theorem mst_zero : mst a 0 = 0 := rfl
theorem mst_step {s : Nat} (h : s ≠ 0) : mst a s = ofM (mst a (sdiff s (2 ^ low s))) ((mates a s).map fun u => mst a (sdiff (sdiff s (2 ^ low s)) (2 ^ u))) := tabv_step a 0 ofM h
theorem mst_rest {s : Nat} (h : s ≠ 0) : mst a (sdiff s (2 ^ low s)) ≤ mst a s := by rw [mst_step h]; exact ofM_ge _ _
theorem mst_mate {s u : Nat} (h : s ≠ 0) (hu : u ∈ mates a s) : mst a (sdiff (sdiff s (2 ^ low s)) (2 ^ u)) + 1 ≤ mst a s := by
  rw [mst_step h]; exact ofM_mem _ _ _ (List.mem_map.2 ⟨u, hu, rfl⟩)
theorem mst_cases {s : Nat} (h : s ≠ 0) : mst a s = mst a (sdiff s (2 ^ low s)) ∨ ∃ u ∈ mates a s, mst a s = mst a (sdiff (sdiff s (2 ^ low s)) (2 ^ u)) + 1 := by
  rw [mst_step h]
  rcases ofM_cases ((mates a s).map fun u => mst a (sdiff (sdiff s (2 ^ low s)) (2 ^ u))) (mst a (sdiff s (2 ^ low s))) with e | ⟨x, hx, e⟩
  · exact .inl e
  · obtain ⟨u, hu, rfl⟩ := List.mem_map.1 hx
    exact .inr ⟨u, hu, e⟩
theorem mst_bound : ∀ s, 0 ≤ mst a s ∧ mst a s ≤ s := by
  intro s
  induction s using Nat.strongRecOn with
  | _ s ih =>
    by_cases h : s = 0
    · subst h; rw [mst_zero]; omega
    · have hl := less_rest h
      have h1 := ih _ hl
      have h2 := mst_rest (a := a) h
      refine ⟨by omega, ?_⟩
      rcases mst_cases (a := a) h with e | ⟨u, hu, e⟩
      · omega
      · have h3 := sdiff_le (sdiff s (2 ^ low s)) (2 ^ u)
        have := ih (sdiff (sdiff s (2 ^ low s)) (2 ^ u)) (by omega)
        omega
theorem l1Max_eq (x y : Int) : F_spec_l1Max x y = some (max x y) := by
  unfold F_spec_l1Max
  split <;> (congr 1; omega)
theorem l27Table_eq (ha : a.length ≤ 16) (hb : ∀ v (h : v < a.length), a[v] < 2 ^ 16) : F_spec_l27Table (ints a) = some ((List.range (2 ^ a.length)).map (mst a)) := by
  have hp : 2 ^ a.length ≤ 2 ^ 16 := pow16 ha
  have hp0 : 0 < 2 ^ a.length := Nat.two_pow_pos _
  unfold F_spec_l27Table
  rw [ints_len, grd_of (Int.natCast_nonneg _), Int.toNat_natCast, two_pow_nat, ck_of (inI_nat (by omega)), mkS_of (Int.natCast_nonneg _) (Int.ofNat_le.2 (by unfold lim; omega)), Int.toNat_natCast]
  have hinit : List.replicate (2 ^ a.length) (0 : Int) = tbl (mst a) 1 (2 ^ a.length) := by
    obtain ⟨N, hN⟩ : ∃ N, 2 ^ a.length = N + 1 := ⟨2 ^ a.length - 1, by omega⟩
    rw [hN]; simp [tbl, List.replicate_succ, mst_zero]
  rw [hinit]
  have key : lp (fun s => F_spec_l27Table_l1 (ints a) s.1 s.2) (tbl (mst a) 1 (2 ^ a.length), 1) = some (.inl (tbl (mst a) (2 ^ a.length) (2 ^ a.length))) := by
    refine lp_upto (fun k => (tbl (mst a) (k + 1) (2 ^ a.length), ((k + 1 : Nat) : Int))) (2 ^ a.length - 1) rfl (fun k hk => ?_) ?_
    · have hs : k + 1 < 2 ^ a.length := by omega
      have hs0 : k + 1 ≠ 0 := by omega
      generalize k + 1 = s at *
      have hlen := tbl_len (T := mst a) (Nat.le_of_lt hs)
      have hv : low s < a.length := low_lt hs0 hs
      have hr := less_rest hs0
      have hbv := hb _ hv
      have hg := getD_get hv
      have hlt : a[low s] &&& sdiff s (2 ^ low s) < 2 ^ 16 := and_lt hbv
      have hbr := mst_bound (a := a) (sdiff s (2 ^ low s))
      have htab := mst_step (a := a) hs0
      simp only [F_spec_l27Table_l1]
      rw [if_pos (by omega), l27Low_eq hs0 (by omega), cal_some_eq, ck_of (inI (by omega) (by omega)), i64_rest hs0 (by omega), idx_tbl hr, idx_ints hv, i64and_nat (by omega) (by omega)]
      have inner := lp_near (step := fun q : Int × Int => F_spec_l27Table_l2 (tbl (mst a) s (2 ^ a.length)) (s : Int) q.1 q.2) (fun (m : Int) x => (m, (x : Int))) (fun m u => max m (mst a (sdiff (sdiff s (2 ^ low s)) (2 ^ u)) + 1))
        (fun m x => 0 ≤ m ∧ m ≤ 70000) (fun m => .inl m) (fun m x hx0 hx hm => ?_) (fun m hm => ?_) _ hlt (mst a (sdiff s (2 ^ low s))) (by omega)
      · rw [bnd_l inner]
        unfold F_spec_l27Table_k3
        rw [idx_of (Int.natCast_nonneg _) (by rw [Int.toNat_natCast]; exact tbl_zero (Nat.le_refl _) hs), ck_of (inI (by omega) (by omega)), Int.toNat_natCast]
        refine inl_eq (pair_eq ?_ rfl)
        refine tbl_set hs ?_
        rw [htab]
        unfold mates
        rw [hg, ofM_map]
      · have h3 := sdiff_le (sdiff s (2 ^ low s)) (2 ^ low x)
        have h4 := mst_bound (a := a) (sdiff (sdiff s (2 ^ low s)) (2 ^ low x))
        have h5 := low_pow_le hx0
        simp only [F_spec_l27Table_l2]
        rw [if_pos (by omega), ck_of (inI (by omega) (by omega)), i64_rest hs0 (by omega), i64_lowbit hx0 (by omega), i64andn_nat (by omega) (by omega), idx_tbl (by omega), ck_of (inI (by omega) (by omega)), cal_of (l1Max_eq _ _), ck_of (inI (by omega) (by omega)), i64_rest hx0 (by omega), rest_eq hx0,
          Int.add_comm 1]
        exact ⟨rfl, by omega, by omega⟩
      · simp only [F_spec_l27Table_l2]
        rw [if_neg (by decide)]
    · simp only [F_spec_l27Table_l1]
      rw [Nat.sub_add_cancel (show 1 ≤ 2 ^ a.length from hp0), tbl_len (Nat.le_refl _), if_neg (by omega)]
  rw [bnd_l key, ← tbl_full]; rfl
end
end Go.Proofs.YtadjcnllmkdgiaaDoor
