/- The mates that a matching gives, and paths that lengthen it. -/
import Derived.Test.YthbmcbflnibpbabDoorPath
import Derived.Test.YthbmcbflnibpbabDoorMatch
namespace Go.Proofs.YthbmcbflnibpbabDoor
def pair (M : List Int) (e : List Int) : List Int := (M.set (e.getD 0 0).toNat (e.getD 1 0)).set (e.getD 1 0).toNat (e.getD 0 0)
def matesTo (n : Nat) (es : List (List Int)) (k : Nat) : List Int := (es.take k).foldl pair (List.replicate n (-1))
def matesOf (n : Nat) (es : List (List Int)) : List Int := es.foldl pair (List.replicate n (-1))
/-- mates of one another, none but those of some -/
structure Mt (n : Nat) (M : List Int) (F : List Int) : Prop where
  len : M.length = n
  mate : ∀ u, u < n → M.getD u 0 = -1 ∨ ∃ w : Nat, w < n ∧ M.getD u 0 = w ∧ M.getD w 0 = u
  free : ∀ u : Nat, u < n → (u : Int) ∉ F → M.getD u 0 = -1
theorem pair_get {M : List Int} {n x y u : Nat} (hM : M.length = n) (hx : x < n) (hy : y < n) (hu : u < n) : (pair M [(x : Int), (y : Int)]).getD u 0 = if u = y then (x : Int) else if u = x then (y : Int) else M.getD u 0 := by
  unfold pair
  simp only [List.getD_cons_zero, List.getD_cons_succ, Int.toNat_natCast, List.getD_eq_getElem?_getD, List.getElem?_set, List.length_set]
  by_cases h1 : y = u
  · subst h1; simp [hM, hu]
  · by_cases h2 : x = u
    · subst h2; simp [h1, Ne.symm h1, hM, hu]
    · simp [h1, h2, Ne.symm h1, Ne.symm h2]
theorem mt_pair {n : Nat} {M F : List Int} (h : Mt n M F) {x y : Nat} (hx : x < n) (hy : y < n) (hxy : x < y) (fx : (x : Int) ∉ F) (fy : (y : Int) ∉ F) : Mt n (pair M [(x : Int), (y : Int)]) (F ++ [(x : Int), (y : Int)]) := by
  have mx := h.free x hx fx
  have my := h.free y hy fy
  refine ⟨by simp [pair, h.len], fun u hu => ?_, fun u hu hf => ?_⟩
  · rw [pair_get h.len hx hy hu]
    by_cases e1 : u = y
    · rw [if_pos e1]
      exact .inr ⟨x, hx, rfl, by rw [pair_get h.len hx hy hx, if_neg (by omega), if_pos rfl, e1]⟩
    · by_cases e2 : u = x
      · rw [if_neg e1, if_pos e2]
        exact .inr ⟨y, hy, rfl, by rw [pair_get h.len hx hy hy, if_pos rfl, e2]⟩
      · rw [if_neg e1, if_neg e2]
        rcases h.mate u hu with h1 | ⟨w, hw, h1, h2⟩
        · exact .inl h1
        · refine .inr ⟨w, hw, h1, ?_⟩
          have n1 : w ≠ y := fun e => by rw [e, my] at h2; omega
          have n2 : w ≠ x := fun e => by rw [e, mx] at h2; omega
          rw [pair_get h.len hx hy hw, if_neg n1, if_neg n2, h2]
  · simp only [List.mem_append, List.mem_cons, List.not_mem_nil, or_false, not_or] at hf
    rw [pair_get h.len hx hy hu, if_neg (by omega), if_neg (by omega)]
    exact h.free u hu hf.1
theorem mates_inv {g : List (List Int)} (hg : GOk g) {es : List (List Int)} (hm : IsMatch g es) : ∀ k, k ≤ es.length → Mt g.length (matesTo g.length es k) (es.take k).flatten
  | 0, _ => ⟨by simp [matesTo], fun u hu => .inl (by simp [matesTo, hu]), fun u hu _ => by simp [matesTo, hu]⟩
  | k + 1, hk => by
    have hk1 : k < es.length := by omega
    have ih := mates_inv hg hm k (by omega)
    obtain ⟨h1, h2, h3, _⟩ := hm k hk1
    rw [show es.getD k [] = es[k] by simp [hk1]] at h1 h2 h3
    obtain ⟨x, y, e, hxy, hx, hy⟩ := h1.two
    have hyn := edge_lt hg hy
    rw [e] at h2 h3
    simp only [List.getD_cons_zero, List.getD_cons_succ] at h2 h3
    have e2 : matesTo g.length es (k + 1) = pair (matesTo g.length es k) [(x : Int), (y : Int)] := by unfold matesTo; rw [take_succ_of hk1, List.foldl_append, e]; rfl
    rw [e2, take_succ_of hk1, List.flatten_append, e]
    have : [[(x : Int), (y : Int)]].flatten = [(x : Int), (y : Int)] := by simp
    rw [this]
    exact mt_pair ih hx hyn hxy h2 h3
theorem matesOf_eq (n : Nat) (es : List (List Int)) : matesTo n es es.length = matesOf n es := by unfold matesTo matesOf; rw [List.take_length]
theorem edge_at {g : List (List Int)} (hg : GOk g) {es : List (List Int)} (hm : IsMatch g es) {k : Nat} (hk : k < es.length) : ∃ x y : Nat, es[k] = [(x : Int), (y : Int)] ∧ x < g.length ∧ y < g.length ∧ x < y := by
  have h1 := (hm k hk).1
  rw [show es.getD k [] = es[k] by simp [hk]] at h1
  obtain ⟨x, y, e, hxy, hx, hy⟩ := h1.two
  exact ⟨x, y, e, hx, edge_lt hg hy, hxy⟩
theorem pair_two (M : List Int) (x y : Nat) : (M.set x (y : Int)).set y (x : Int) = pair M [(x : Int), (y : Int)] := by unfold pair; simp
theorem matesTo_succ {n : Nat} {es : List (List Int)} {k : Nat} (hk : k < es.length) : matesTo n es (k + 1) = pair (matesTo n es k) es[k] := by unfold matesTo; rw [take_succ_of hk, List.foldl_append]; rfl
theorem l26None_eq2 {n : Nat} (h : n ≤ 1048576) : F_spec_l26None (n : Int) = some (List.replicate n (-1)) := by
  unfold F_spec_l26None
  have key : lp (fun s => F_spec_l26None_l1 (n : Int) s.1 s.2) (([] : List Int), 0) = some (.inl (List.replicate n (-1))) := by
    refine lp_nums n (fun k => List.replicate k (-1)) (fun k hk => ?_) ?_
    · simp only [F_spec_l26None_l1]
      rw [if_pos (by omega), app1_s (by rw [List.length_replicate]; omega), ck_of (inI (by omega) (by omega)), List.replicate_succ']; rfl
    · simp only [F_spec_l26None_l1]
      rw [if_neg (by omega)]
  rw [bnd_l key]; rfl
theorem l27Mates_eq {g : List (List Int)} (hg : GOk g) {es : List (List Int)} (hm : IsMatch g es) : F_spec_l27Mates g es = some (matesOf g.length es) := by
  have h16 := hg.n16
  have hml := match_le hm
  unfold F_spec_l27Mates
  rw [cal_of (l26None_eq2 (by omega))]
  have key : lp (fun s => F_spec_l27Mates_l1 es s.1 s.2) (matesTo g.length es 0, 0) = some (.inl (matesTo g.length es es.length)) := by
    refine lp_nums es.length (fun k => matesTo g.length es k) (fun k hk => ?_) ?_
    · simp only [F_spec_l27Mates_l1]
      obtain ⟨x, y, e, hx, hy, _⟩ := edge_at hg hm hk
      have hlen := (mates_inv hg hm k (by omega)).len
      have i0 : ∀ {β : Type} (q : Int → Option β), idx [(x : Int), (y : Int)] 0 q = q x := fun q => rfl
      have i1 : ∀ {β : Type} (q : Int → Option β), idx [(x : Int), (y : Int)] 1 q = q y := fun q => rfl
      rw [if_pos (by omega)]
      simp only [idx_nat hk, e, i0, i1]
      rw [idx_nat (by omega), Int.toNat_natCast, Int.toNat_natCast, idx_nat (by rw [List.length_set]; omega), ck_of (inI (by omega) (by omega)), pair_two, matesTo_succ hk, e]; rfl
    · simp only [F_spec_l27Mates_l1]
      rw [if_neg (by omega)]
  rw [show List.replicate g.length (-1 : Int) = matesTo g.length es 0 from rfl, bnd_l key, matesOf_eq]; rfl
theorem implMates_eq {g : List (List Int)} (hg : GOk g) {es : List (List Int)} (hm : IsMatch g es) : F_impl_mates (g.length : Int) es = some (matesOf g.length es) := by
  have h16 := hg.n16
  have hml := match_le hm
  unfold F_impl_mates
  rw [mkS_of (Int.natCast_nonneg _) (Int.ofNat_le.2 (by unfold lim; omega)), Int.toNat_natCast]
  have hst : ∀ k, k < g.length → (List.replicate k (-1 : Int) ++ List.replicate (g.length - k) 0).set k (-1) = List.replicate (k + 1) (-1) ++ List.replicate (g.length - (k + 1)) 0 := by
    intro k hk
    rw [List.set_append, if_neg (by simp), List.length_replicate, Nat.sub_self, show g.length - k = (g.length - (k + 1)) + 1 by omega, List.replicate_succ, List.set_cons_zero, List.replicate_succ']
    simp
  have key0 : lp (fun s => F_impl_mates_l1 (g.length : Int) s.1 s.2) (List.replicate 0 (-1) ++ List.replicate (g.length - 0) 0, 0) = some (.inl (List.replicate g.length (-1) ++ List.replicate (g.length - g.length) 0)) := by
    refine lp_nums g.length (fun k => List.replicate k (-1) ++ List.replicate (g.length - k) 0) (fun k hk => ?_) ?_
    · simp only [F_impl_mates_l1]
      rw [List.length_replicate, Int.toNat_natCast, if_pos (by omega), idx_nat (by simp; omega), ck_of (inI (by omega) (by omega)), Int.toNat_natCast, hst k hk]; rfl
    · simp only [F_impl_mates_l1]
      rw [List.length_replicate, Int.toNat_natCast, if_neg (by omega)]
  rw [show List.replicate g.length (0 : Int) = List.replicate 0 (-1) ++ List.replicate (g.length - 0) 0 by simp, bnd_l key0, Nat.sub_self, List.replicate_zero, List.append_nil]
  unfold F_impl_mates_k2
  have key : lp (fun s => F_impl_mates_l3 es s.1 s.2) (matesTo g.length es 0, 0) = some (.inl (matesTo g.length es es.length)) := by
    refine lp_nums es.length (fun k => matesTo g.length es k) (fun k hk => ?_) ?_
    · simp only [F_impl_mates_l3]
      obtain ⟨x, y, e, hx, hy, _⟩ := edge_at hg hm hk
      have hlen := (mates_inv hg hm k (by omega)).len
      have i0 : ∀ {β : Type} (q : Int → Option β), idx [(x : Int), (y : Int)] 0 q = q x := fun q => rfl
      have i1 : ∀ {β : Type} (q : Int → Option β), idx [(x : Int), (y : Int)] 1 q = q y := fun q => rfl
      rw [if_pos (by omega)]
      simp only [idx_nat hk, e, i0, i1]
      rw [idx_nat (by omega), Int.toNat_natCast, Int.toNat_natCast, idx_nat (by rw [List.length_set]; omega), ck_of (inI (by omega) (by omega)), pair_two, matesTo_succ hk, e]; rfl
    · simp only [F_impl_mates_l3]
      rw [if_neg (by omega)]
  rw [show List.replicate g.length (-1 : Int) = matesTo g.length es 0 from rfl, bnd_l key, matesOf_eq]; rfl
/-- a path that lengthens a matching, told by its mates -/
def Aug (g : List (List Int)) (M p : List Int) : Prop := 2 ≤ p.length ∧ p.length % 2 = 0 ∧ IsPath g p ∧ M.getD (p.getD 0 0).toNat 0 = -1 ∧ M.getD (p.getD (p.length - 1) 0).toNat 0 = -1 ∧ ∀ j, 2 * j + 2 < p.length → M.getD (p.getD (2 * j + 1) 0).toNat 0 = p.getD (2 * j + 2) 0
/-- what the reference asks at a place -/
def AugAt (M p : List Int) (i : Nat) : Prop := if i = 0 then M.getD (p.getD i 0).toNat 0 = -1 else if i = p.length - 1 then M.getD (p.getD i 0).toNat 0 = -1 else if i % 2 = 1 then M.getD (p.getD i 0).toNat 0 = p.getD (i + 1) 0 else M.getD (p.getD i 0).toNat 0 = p.getD (i - 1) 0
theorem aug_iff {g : List (List Int)} {M p F : List Int} (hM : Mt g.length M F) (h2 : 2 ≤ p.length) (hev : p.length % 2 = 0) (hp : IsPath g p) : Aug g M p ↔ ∀ i, i < p.length → AugAt M p i := by
  constructor
  · rintro ⟨_, _, _, h1, h3, h4⟩ i hi
    unfold AugAt
    split
    · rename_i e; subst e; exact h1
    · split
      · rename_i e; rw [e]; exact h3
      · split
        · rename_i g1 g2 g3
          have := h4 (i / 2) (by omega)
          rw [show 2 * (i / 2) + 1 = i by omega, show 2 * (i / 2) + 2 = i + 1 by omega] at this
          exact this
        · rename_i g1 g2 g3
          have := h4 (i / 2 - 1) (by omega)
          rw [show 2 * (i / 2 - 1) + 1 = i - 1 by omega, show 2 * (i / 2 - 1) + 2 = i by omega] at this
          have b1 := (hp (i - 1) (by omega)).1
          have b2 := (hp i hi).1
          rcases hM.mate (p.getD (i - 1) 0).toNat (by omega) with h | ⟨w, hw, h5, h6⟩
          · rw [this] at h; omega
          · rw [this] at h5
            rw [h5, Int.toNat_natCast, h6]; omega
  · intro h
    refine ⟨h2, hev, hp, ?_, ?_, fun j hj => ?_⟩
    · have := h 0 (by omega); unfold AugAt at this; rwa [if_pos rfl] at this
    · have := h (p.length - 1) (by omega); unfold AugAt at this; rwa [if_neg (by omega), if_pos rfl] at this
    · have := h (2 * j + 1) (by omega); unfold AugAt at this; rwa [if_neg (by omega), if_neg (by omega), if_pos (by omega)] at this
theorem getD_ix {β : Type} {M : List Int} {x : Int} {n : Nat} (hM : M.length = n) (h : 0 ≤ x ∧ x < n) (q : Int → Option β) : idx M x q = q (M.getD x.toNat 0) := by
  have : x.toNat < M.length := by omega
  exact idx_of h.1 (by rw [List.getElem?_eq_getElem this]; simp [this])
end Go.Proofs.YthbmcbflnibpbabDoor
