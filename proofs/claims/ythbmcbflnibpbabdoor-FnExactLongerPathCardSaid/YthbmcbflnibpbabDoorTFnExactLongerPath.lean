/- FnExactLongerPath: the plain law. -/
import Derived.Test.YthbmcbflnibpbabDoorAugment
import Derived.Test.YthbmcbflnibpbabDoorHamI
import Derived.Test.YthbmcbflnibpbabDoorColour
import Derived.Test.YthbmcbflnibpbabDoorLawGraph
import Derived.Test.YthbmcbflnibpbabDoorLawMarks
namespace Go.Proofs.YthbmcbflnibpbabDoor
section
variable {β S O : Type}
theorem findSome_cong {α : Type} {f h : α → Option β} : ∀ {l : List α}, (∀ x ∈ l, f x = h x) → l.findSome? f = l.findSome? h
  | [], _ => rfl
  | x :: l, hh => by rw [List.findSome?_cons, List.findSome?_cons, hh x (List.mem_cons_self ..), findSome_cong fun y hy => hh y (List.mem_cons_of_mem _ hy)]
theorem findSome_row (f : Int → Option β) (l : List Int) : (List.range l.length).findSome? (fun k => f (l.getD k 0)) = l.findSome? f := by
  have : l = (List.range l.length).map fun k => l.getD k 0 := by
    apply List.ext_getElem
    · simp
    · intro i h1 h2; simp [h1]
  conv => rhs; rw [this]
  rw [List.findSome?_map]; rfl
theorem findSome_filter {α : Type} (q : α → Bool) (f : α → Option β) : ∀ l : List α, (l.filter q).findSome? f = l.findSome? fun x => if q x = true then f x else none
  | [] => rfl
  | x :: l => by
    rw [List.filter_cons, List.findSome?_cons]
    by_cases h : q x = true
    · rw [if_pos h, if_pos h, List.findSome?_cons, findSome_filter q f l]
    · rw [if_neg h, if_neg h, findSome_filter q f l]
theorem findSome_short (f : Nat → Option β) {A B : Nat} (hAB : A ≤ B) (h : ∀ k, A ≤ k → f k = none) : (List.range B).findSome? f = (List.range A).findSome? f := by
  rw [show B = A + (B - A) by omega, List.range_add, List.findSome?_append]
  have : ((List.range (B - A)).map (A + ·)).findSome? f = none := by
    rw [List.findSome?_eq_none_iff]
    intro x hx
    obtain ⟨y, _, rfl⟩ := List.mem_map.1 hx
    exact h _ (by omega)
  rw [this, Option.or_none]
/-- a loop over a list that looks for the first that a function gives -/
theorem lp_row {step : Int → Option (Int ⊕ (Unit ⊕ O))} (l : List Int) (f : Int → Option β) (out : β → O) (h : ∀ k (hk : k < l.length), f l[k] = none → step (k : Int) = some (.inl ((k : Int) + 1)))
    (h' : ∀ k (hk : k < l.length) b, f l[k] = some b → step (k : Int) = some (.inr (.inr (out b)))) (hN : step (l.length : Int) = some (.inr (.inl ()))) : lp step 0 = some ((l.findSome? f).elim (.inl ()) fun b => .inr (out b)) := by
  rw [← findSome_row f l]
  refine lp_first (fun k => (k : Int)) l.length (fun k => f (l.getD k 0)) (fun b => .inr (out b)) rfl (fun k hk hn => ?_) (fun k hk b hb => ?_) hN
  · rw [getD_at hk] at hn; exact h k hk hn
  · rw [getD_at hk] at hb; exact h' k hk b hb
end
theorem bne_pp {p q : Prop} [Decidable p] [Decidable q] : ((decide p != decide q) = true) ↔ ¬ (p ↔ q) := by
  by_cases hp : p <;> by_cases hq : q <;> simp [hp, hq]
def lastP (p : List Int) : Nat := (p.getD (p.length - 1) 0).toNat
/-- the least way on, an edge outside the matching being next, and so many of these being left -/
def way (g : List (List Int)) (M : List Int) : Nat → List Int → Option (List Int)
  | 0, _ => none
  | d + 1, p => (g.getD (lastP p) []).findSome? fun u => if u ∈ p then none else if d = 0 then (if M.getD u.toNat 0 < 0 then some (p ++ [u]) else none) else if M.getD u.toNat 0 < 0 then none else if M.getD u.toNat 0 ∈ p then none else way g M d (p ++ [u, M.getD u.toNat 0])
section
variable {g : List (List Int)} {M F : List Int}
/-- a path's vertices -/
def InP (g : List (List Int)) (d : Nat) (p : List Int) : Prop := (∀ x ∈ p, 0 ≤ x ∧ x < g.length) ∧ 1 ≤ p.length ∧ p.length + 2 * d ≤ 100
theorem InP.last {d : Nat} {p : List Int} (h : InP g d p) : lastP p < g.length ∧ p.getD (p.length - 1) 0 = (lastP p : Int) := by
  have h1 : p.length - 1 < p.length := by have := h.2.1; omega
  have := h.1 _ (List.getElem_mem h1)
  unfold lastP
  rw [getD_at h1]; omega
theorem InP.more {d : Nat} {p : List Int} (h : InP g (d + 1) p) {u w : Int} (hu : 0 ≤ u ∧ u < g.length) (hw : 0 ≤ w ∧ w < g.length) : InP g d (p ++ [u, w]) := by
  refine ⟨fun x hx => ?_, by simp, by have := h.2.2; simp; omega⟩
  rcases List.mem_append.1 hx with hx | hx
  · exact h.1 x hx
  · simp only [List.mem_cons, List.not_mem_nil, or_false] at hx
    rcases hx with rfl | rfl
    · exact hu
    · exact hw
theorem Mt.val (hM : Mt g.length M F) {u : Nat} (hu : u < g.length) (h : ¬ M.getD u 0 < 0) : ∃ w : Nat, w < g.length ∧ M.getD u 0 = w ∧ M.getD w 0 = u := by
  rcases hM.mate u hu with h1 | h1
  · omega
  · exact h1
theorem l1Copy_eqL {l : List Int} (h : l.length ≤ 1048576) : F_spec_l1Copy l = some l := by
  unfold F_spec_l1Copy
  rw [app_s (by simp; omega)]; rfl
theorem l27Way_eq (hg : GOk g) (hM : Mt g.length M F) (d : Nat) (p : List Int) (hd : 1 ≤ d) (hp : InP g d p) : F_spec_l27Way g M p (d : Int) = some (match way g M d p with | some q => (q, true) | none => (p, false)) := by
  refine fixO_ind (J := Nat × List Int) (fun j => (g, M, j.2, (j.1 : Int))) (fun j => j.1) (fun j => match way g M j.1 j.2 with | some q => (q, true) | none => (j.2, false)) (fun j => 1 ≤ j.1 ∧ InP g j.1 j.2) ?_ (d, p) ⟨hd, hp⟩
  rintro R ⟨d, p⟩ ⟨hd, hp⟩ ih
  simp only at hd hp ⊢
  have h16 := hg.n16
  have hl := hp.2.1
  have hlen := hp.2.2
  obtain ⟨hln, hle⟩ := hp.last
  obtain ⟨d, rfl⟩ : ∃ k, d = k + 1 := ⟨d - 1, by omega⟩
  have hrow := hg.row_len hln
  unfold F_spec_l27Way_body
  rw [ck_of (inI (by omega) (by omega)), show (p.length : Int) - 1 = ((p.length - 1 : Nat) : Int) by omega, idx_nat (by omega), ← getD_at (show p.length - 1 < p.length by omega), hle]
  have key := lp_row (step := fun s => F_spec_l27Way_l1 g M p ((d + 1 : Nat) : Int) (fun z0 z1 z2 z3 => R (z0, z1, z2, z3)) (lastP p : Int) s) g[lastP p]
    (fun u => if u ∈ p then none else if d = 0 then (if M.getD u.toNat 0 < 0 then some (p ++ [u]) else none) else if M.getD u.toNat 0 < 0 then none else if M.getD u.toNat 0 ∈ p then none else way g M d (p ++ [u, M.getD u.toNat 0])) (fun q => (q, true)) ?_ ?_ ?_
  · rw [key, way, show g.getD (lastP p) [] = g[lastP p] by simp [hln]]
    cases List.findSome? _ g[lastP p] <;> rfl
  · intro k hk hn
    have hu := hg.row_mem hln (List.getElem_mem hk)
    obtain ⟨u, hu'⟩ := Int.eq_ofNat_of_zero_le hu.1
    have hun : u < g.length := by omega
    simp only [F_spec_l27Way_l1]
    rw [idx_nat hln, if_pos (by omega), idx_nat hln, idx_nat hk, cal_of (l1Has_eq _ _ (by omega))]
    rw [hu'] at hn ⊢
    rw [Int.toNat_natCast] at hn
    by_cases c1 : (u : Int) ∈ p
    · rw [if_pos (by simpa using c1), ck_of (inI (by omega) (by omega))]
    rw [if_neg c1] at hn
    rw [if_neg (by simpa using c1), getD_ix hM.len (by omega), Int.toNat_natCast]
    by_cases hd0 : d = 0
    · subst hd0
      rw [if_pos rfl] at hn
      by_cases c2 : M.getD u 0 < 0
      · rw [if_pos c2] at hn; cases hn
      · rw [if_pos (bne_pp.2 (by omega)), ck_of (inI (by omega) (by omega))]
    rw [if_neg hd0] at hn
    have hd1 : ¬ ((d + 1 : Nat) : Int) = 1 := by omega
    by_cases c2 : M.getD u 0 < 0
    · rw [if_pos (bne_pp.2 (by omega)), ck_of (inI (by omega) (by omega))]
    rw [if_neg c2] at hn
    obtain ⟨w, hw, e1, e2⟩ := hM.val hun c2
    rw [if_neg (fun h => bne_pp.1 h (by omega)), if_neg hd1, getD_ix hM.len (by omega), Int.toNat_natCast, cal_of (l1Has_eq _ _ (by omega))]
    by_cases c3 : M.getD u 0 ∈ p
    · rw [if_pos (by simpa using c3), ck_of (inI (by omega) (by omega))]
    rw [if_neg c3] at hn
    have hR := ih (d, p ++ [(u : Int), M.getD u 0]) ⟨by omega, hp.more (by omega) (by omega)⟩ (by simp only; omega)
    simp only [hn] at hR
    rw [if_neg (by simpa using c3), getD_ix hM.len (by omega), Int.toNat_natCast, ck_of (inI (by omega) (by omega)), cal_of (l1Copy_eqL (by omega)), app_s (by simp; omega), show ((d + 1 : Nat) : Int) - 1 = (d : Int) by omega, cal_of hR, if_neg (by simp), ck_of (inI (by omega) (by omega))]
  · intro k hk b hn
    have hu := hg.row_mem hln (List.getElem_mem hk)
    obtain ⟨u, hu'⟩ := Int.eq_ofNat_of_zero_le hu.1
    have hun : u < g.length := by omega
    simp only [F_spec_l27Way_l1]
    rw [idx_nat hln, if_pos (by omega), idx_nat hln, idx_nat hk, cal_of (l1Has_eq _ _ (by omega))]
    rw [hu'] at hn ⊢
    rw [Int.toNat_natCast] at hn
    by_cases c1 : (u : Int) ∈ p
    · rw [if_pos c1] at hn; cases hn
    rw [if_neg c1] at hn
    rw [if_neg (by simpa using c1), getD_ix hM.len (by omega), Int.toNat_natCast]
    by_cases hd0 : d = 0
    · subst hd0
      rw [if_pos rfl] at hn
      by_cases c2 : M.getD u 0 < 0
      · rw [if_pos c2] at hn
        obtain rfl := Option.some.inj hn
        rw [if_neg (fun h => bne_pp.1 h (by omega)), if_pos (by decide), cal_of (l1Copy_eqL (by omega)), app1_s (by omega)]
      · rw [if_neg c2] at hn; cases hn
    rw [if_neg hd0] at hn
    have hd1 : ¬ ((d + 1 : Nat) : Int) = 1 := by omega
    by_cases c2 : M.getD u 0 < 0
    · rw [if_pos c2] at hn; cases hn
    rw [if_neg c2] at hn
    obtain ⟨w, hw, e1, e2⟩ := hM.val hun c2
    rw [if_neg (fun h => bne_pp.1 h (by omega)), if_neg hd1, getD_ix hM.len (by omega), Int.toNat_natCast, cal_of (l1Has_eq _ _ (by omega))]
    by_cases c3 : M.getD u 0 ∈ p
    · rw [if_pos c3] at hn; cases hn
    rw [if_neg c3] at hn
    have hR := ih (d, p ++ [(u : Int), M.getD u 0]) ⟨by omega, hp.more (by omega) (by omega)⟩ (by simp only; omega)
    simp only [hn] at hR
    rw [if_neg (by simpa using c3), getD_ix hM.len (by omega), Int.toNat_natCast, ck_of (inI (by omega) (by omega)), cal_of (l1Copy_eqL (by omega)), app_s (by simp; omega), show ((d + 1 : Nat) : Int) - 1 = (d : Int) by omega, cal_of hR, if_pos rfl]
  · simp only [F_spec_l27Way_l1]
    rw [idx_nat hln, if_neg (by omega)]
theorem way_ne : ∀ (d : Nat) (p q : List Int), way g M d p = some q → q ≠ []
  | 0, p, q, h => by cases h
  | d + 1, p, q, h => by
    rw [way] at h
    obtain ⟨u, _, hu⟩ := List.exists_of_findSome?_eq_some h
    by_cases c1 : u ∈ p
    · rw [if_pos c1] at hu; cases hu
    rw [if_neg c1] at hu
    by_cases hd0 : d = 0
    · rw [if_pos hd0] at hu
      by_cases c2 : M.getD u.toNat 0 < 0
      · rw [if_pos c2] at hu; obtain rfl := Option.some.inj hu; simp
      · rw [if_neg c2] at hu; cases hu
    rw [if_neg hd0] at hu
    by_cases c2 : M.getD u.toNat 0 < 0
    · rw [if_pos c2] at hu; cases hu
    rw [if_neg c2] at hu
    by_cases c3 : M.getD u.toNat 0 ∈ p
    · rw [if_pos c3] at hu; cases hu
    rw [if_neg c3] at hu
    exact way_ne d _ q hu
theorem clone_int_eq (l : List Int) (hl : l.length ≤ 1048576) : F_slices_Clone_int l = some l := by
  unfold F_slices_Clone_int
  rw [app_s (by simp; omega)]; rfl
theorem row_off (hg : GOk g) {v : Nat} (hv : v < g.length) {p : List Int} (hp : ∀ x ∈ p, 0 ≤ x) : ints (els (sdiff (mk g[v]) (mk p))) = g[v].filter fun u => decide (u ∉ p) := by
  conv => rhs; rw [row_els hg hv]
  unfold ints
  rw [List.filter_map]
  congr 1
  unfold els
  rw [List.filter_filter]
  refine List.filter_congr fun u _ => ?_
  rw [sdiff_bit, mk_mem hp]
  simp only [Function.comp]
  rw [Bool.and_comm]
  congr 1
  simp
theorem longer_eq (hg : GOk g) (hM : Mt g.length M F) (d : Nat) (p : List Int) (hd : 1 ≤ d) (hp : InP g d p) (hl : M.getD (lastP p) 0 < 0 ∨ M.getD (lastP p) 0 ∈ p) : F_impl_longer (bvs (nb g)) M p (BitVec.ofNat 32 (mk p)) ((p.length + 2 * d - 1 : Nat) : Int) = some ((way g M d p).getD []) := by
  refine fixO_ind (J := Nat × List Int) (fun j => (bvs (nb g), M, j.2, BitVec.ofNat 32 (mk j.2), ((j.2.length + 2 * j.1 - 1 : Nat) : Int))) (fun j => j.1) (fun j => (way g M j.1 j.2).getD []) (fun j => 1 ≤ j.1 ∧ InP g j.1 j.2 ∧ (M.getD (lastP j.2) 0 < 0 ∨ M.getD (lastP j.2) 0 ∈ j.2)) ?_ (d, p) ⟨hd, hp, hl⟩
  rintro R ⟨d, p⟩ ⟨hd, hp, hl⟩ ih
  simp only at hd hp hl ⊢
  have h16 := hg.n16
  have hl1 := hp.2.1
  have hlen := hp.2.2
  obtain ⟨hln, hle⟩ := hp.last
  obtain ⟨d, rfl⟩ : ∃ k, d = k + 1 := ⟨d - 1, by omega⟩
  have hnb := nb_lt16 hg (v := lastP p) (by rw [nb_len]; exact hln)
  have hrl := hg.row_len hln
  have hmk16 : mk p < 2 ^ 16 := Nat.lt_of_lt_of_le (mk_lt hp.1) (pow16 h16)
  unfold F_impl_longer_body
  rw [ck_of (inI (by omega) (by omega)), show (p.length : Int) - 1 = ((p.length - 1 : Nat) : Int) by omega, idx_nat (by omega), ← getD_at (show p.length - 1 < p.length by omega), hle, idx_bvs (by rw [nb_len]; exact hln), nb_get hln]
  rw [nb_get hln] at hnb
  rw [bv_andn (by omega), list_eq (sdiff_lt hnb), cal_some_eq, row_off hg hln (fun x hx => (hp.1 x hx).1)]
  have hfl := List.length_filter_le (fun u => decide (u ∉ p)) g[lastP p]
  have hmem : ∀ k (hk : k < (g[lastP p].filter fun u => decide (u ∉ p)).length), ∃ u : Nat, (g[lastP p].filter fun u => decide (u ∉ p))[k] = (u : Int) ∧ u < g.length ∧ (u : Int) ∉ p := fun k hk => by
    have h := List.getElem_mem hk
    rw [List.mem_filter] at h
    have h1 := hg.row_mem hln h.1
    obtain ⟨u, hu⟩ := Int.eq_ofNat_of_zero_le h1.1
    exact ⟨u, hu, by omega, by have := h.2; rw [hu] at this; simpa using this⟩
  have key := lp_row (step := fun s => F_impl_longer_l1 (bvs (nb g)) M p (BitVec.ofNat 32 (mk p)) ((p.length + 2 * (d + 1) - 1 : Nat) : Int) (fun z0 z1 z2 z3 z4 => R (z0, z1, z2, z3, z4)) (lastP p : Int) (g[lastP p].filter fun u => decide (u ∉ p)) s) (g[lastP p].filter fun u => decide (u ∉ p))
    (fun u => if u ∈ p then none else if d = 0 then (if M.getD u.toNat 0 < 0 then some (p ++ [u]) else none) else if M.getD u.toNat 0 < 0 then none else if M.getD u.toNat 0 ∈ p then none else way g M d (p ++ [u, M.getD u.toNat 0])) (fun q => q) ?_ ?_ ?_
  · rw [key, findSome_filter, way, show g.getD (lastP p) [] = g[lastP p] by simp [hln]]
    rw [findSome_cong (h := fun u => if u ∈ p then none else if d = 0 then (if M.getD u.toNat 0 < 0 then some (p ++ [u]) else none) else if M.getD u.toNat 0 < 0 then none else if M.getD u.toNat 0 ∈ p then none else way g M d (p ++ [u, M.getD u.toNat 0])) (fun u _ => by
      by_cases c : u ∈ p
      · rw [if_neg (by simpa using c), if_pos c]
      · rw [if_pos (by simpa using c)])]
    cases List.findSome? _ g[lastP p] <;> rfl
  · intro k hk hn
    obtain ⟨u, hu, hun, hup⟩ := hmem k hk
    simp only [F_impl_longer_l1]
    rw [if_pos (by omega), idx_nat hk]
    rw [hu] at hn ⊢
    rw [Int.toNat_natCast, if_neg hup] at hn
    rw [cal_of (clone_int_eq _ (by omega)), app1_s (by omega), getD_ix hM.len (by omega), Int.toNat_natCast]
    have hl2 : ((p ++ [(u : Int)]).length : Int) = (p.length : Int) + 1 := by simp
    by_cases hd0 : d = 0
    · subst hd0
      rw [if_pos rfl] at hn
      by_cases c2 : M.getD u 0 < 0
      · rw [if_pos c2] at hn; cases hn
      · rw [if_neg c2, ck_of (inI (by omega) (by omega)), if_pos (by omega), ck_of (inI (by omega) (by omega))]
    rw [if_neg hd0] at hn
    by_cases c2 : M.getD u 0 < 0
    · rw [if_pos c2, if_neg (by omega), ck_of (inI (by omega) (by omega))]
    rw [if_neg c2] at hn
    obtain ⟨w, hw, e1, e2⟩ := hM.val hun c2
    have hlu : ¬ M.getD (lastP p) 0 = (u : Int) := fun e => by
      rcases hl with h | h
      · omega
      · rw [e] at h; exact hup h
    rw [if_neg c2, ck_of (inI (by omega) (by omega)), if_neg (by omega), getD_ix hM.len (by omega), Int.toNat_natCast, if_neg hlu, getD_ix hM.len (by omega), Int.toNat_natCast]
    rw [e1] at hn ⊢
    rw [cal_of (has_eq (by omega) (by omega)), mk_mem (fun x hx => (hp.1 x hx).1)]
    by_cases c3 : (w : Int) ∈ p
    · rw [if_pos (by simpa using c3), ck_of (inI (by omega) (by omega))]
    rw [if_neg c3] at hn
    have hmk : BitVec.ofNat 32 (mk p) ||| BitVec.ofNat 32 (2 ^ u) ||| BitVec.ofNat 32 (2 ^ w) = BitVec.ofNat 32 (mk (p ++ [(u : Int), (w : Int)])) := by
      rw [bv_or, bv_or, show p ++ [(u : Int), (w : Int)] = (p ++ [(u : Int)]) ++ [(w : Int)] by simp, mk_snoc, mk_snoc, Int.toNat_natCast, Int.toNat_natCast]
    have hlp : lastP (p ++ [(u : Int), (w : Int)]) = w := by unfold lastP; simp
    have hR := ih (d, p ++ [(u : Int), (w : Int)]) ⟨by omega, hp.more (by omega) (by omega), by simp only; rw [hlp, e2]; exact .inr (by simp)⟩ (by simp only; omega)
    simp only [hn] at hR
    have hlong : (p ++ [(u : Int), (w : Int)]).length + 2 * d - 1 = p.length + 2 * (d + 1) - 1 := by simp; omega
    rw [hlong] at hR
    rw [if_neg (by simpa using c3), getD_ix hM.len (by omega), Int.toNat_natCast, e1, app1_s (by simp; omega), cal_of (one_eq (by omega)), getD_ix hM.len (by omega), Int.toNat_natCast, e1, cal_of (one_eq (by omega)), hmk, show (p ++ [(u : Int)]) ++ [(w : Int)] = p ++ [(u : Int), (w : Int)] by simp, cal_of hR, if_neg (by simp), ck_of (inI (by omega) (by omega))]
  · intro k hk b hn
    obtain ⟨u, hu, hun, hup⟩ := hmem k hk
    simp only [F_impl_longer_l1]
    rw [if_pos (by omega), idx_nat hk]
    rw [hu] at hn ⊢
    rw [Int.toNat_natCast, if_neg hup] at hn
    rw [cal_of (clone_int_eq _ (by omega)), app1_s (by omega), getD_ix hM.len (by omega), Int.toNat_natCast]
    have hl2 : ((p ++ [(u : Int)]).length : Int) = (p.length : Int) + 1 := by simp
    by_cases hd0 : d = 0
    · subst hd0
      rw [if_pos rfl] at hn
      by_cases c2 : M.getD u 0 < 0
      · rw [if_pos c2] at hn
        obtain rfl := Option.some.inj hn
        rw [if_pos c2, if_pos (by omega), grd_of (by simp)]
      · rw [if_neg c2] at hn; cases hn
    rw [if_neg hd0] at hn
    by_cases c2 : M.getD u 0 < 0
    · rw [if_pos c2] at hn; cases hn
    rw [if_neg c2] at hn
    obtain ⟨w, hw, e1, e2⟩ := hM.val hun c2
    have hlu : ¬ M.getD (lastP p) 0 = (u : Int) := fun e => by
      rcases hl with h | h
      · omega
      · rw [e] at h; exact hup h
    rw [if_neg c2, ck_of (inI (by omega) (by omega)), if_neg (by omega), getD_ix hM.len (by omega), Int.toNat_natCast, if_neg hlu, getD_ix hM.len (by omega), Int.toNat_natCast]
    rw [e1] at hn ⊢
    rw [cal_of (has_eq (by omega) (by omega)), mk_mem (fun x hx => (hp.1 x hx).1)]
    by_cases c3 : (w : Int) ∈ p
    · rw [if_pos c3] at hn; cases hn
    rw [if_neg c3] at hn
    have hmk : BitVec.ofNat 32 (mk p) ||| BitVec.ofNat 32 (2 ^ u) ||| BitVec.ofNat 32 (2 ^ w) = BitVec.ofNat 32 (mk (p ++ [(u : Int), (w : Int)])) := by
      rw [bv_or, bv_or, show p ++ [(u : Int), (w : Int)] = (p ++ [(u : Int)]) ++ [(w : Int)] by simp, mk_snoc, mk_snoc, Int.toNat_natCast, Int.toNat_natCast]
    have hlp : lastP (p ++ [(u : Int), (w : Int)]) = w := by unfold lastP; simp
    have hR := ih (d, p ++ [(u : Int), (w : Int)]) ⟨by omega, hp.more (by omega) (by omega), by simp only; rw [hlp, e2]; exact .inr (by simp)⟩ (by simp only; omega)
    have hb := way_ne _ _ _ hn
    simp only [hn] at hR
    have hlong : (p ++ [(u : Int), (w : Int)]).length + 2 * d - 1 = p.length + 2 * (d + 1) - 1 := by simp; omega
    rw [hlong] at hR
    rw [if_neg (by simpa using c3), getD_ix hM.len (by omega), Int.toNat_natCast, e1, app1_s (by simp; omega), cal_of (one_eq (by omega)), getD_ix hM.len (by omega), Int.toNat_natCast, e1, cal_of (one_eq (by omega)), hmk, show (p ++ [(u : Int)]) ++ [(w : Int)] = p ++ [(u : Int), (w : Int)] by simp, cal_of hR, Option.getD_some, if_pos hb, grd_of hb]
  · simp only [F_impl_longer_l1]
    rw [if_neg (by omega)]
theorem path_snoc {p : List Int} (hp : IsPath g p) {u : Int} (hu : 0 ≤ u ∧ u < g.length) (hn : u ∉ p) (ha : ∀ h : 0 < p.length, p.getD (p.length - 1) 0 ∈ g.getD u.toNat []) : IsPath g (p ++ [u]) := by
  intro k hk
  simp only [List.length_append, List.length_singleton] at hk
  by_cases h : k < p.length
  · obtain ⟨h1, h2, h3⟩ := hp k h
    have e : ∀ j, j < p.length → (p ++ [u]).getD j 0 = p.getD j 0 := fun j hj => by simp [List.getD_eq_getElem?_getD, List.getElem?_append_left hj]
    unfold PathAt
    rw [e k h, List.take_append_of_le_length (by omega), e (k - 1) (by omega)]
    exact ⟨h1, h2, h3⟩
  · obtain rfl : k = p.length := by omega
    have e : (p ++ [u]).getD p.length 0 = u := by simp
    unfold PathAt
    rw [e, List.take_left]
    refine ⟨hu, hn, fun h0 => ?_⟩
    have e2 : (p ++ [u]).getD (p.length - 1) 0 = p.getD (p.length - 1) 0 := by simp [List.getD_eq_getElem?_getD, List.getElem?_append_left (show p.length - 1 < p.length by omega)]
    rw [e2]; exact ha h0
/-- a path that begins free and goes on by turns -/
structure AP (g : List (List Int)) (M p : List Int) : Prop where
  odd : p.length % 2 = 1
  path : IsPath g p
  free : M.getD (p.getD 0 0).toNat 0 = -1
  turn : ∀ j, 2 * j + 2 < p.length → M.getD (p.getD (2 * j + 1) 0).toNat 0 = p.getD (2 * j + 2) 0
theorem way_aug (hg : GOk g) (hM : Mt g.length M F) (hM2 : Mt2 g M F) : ∀ (d : Nat) (p q : List Int), AP g M p → way g M d p = some q → Aug g M q ∧ q.length + 1 = p.length + 2 * d
  | 0, p, q, _, h => by cases h
  | d + 1, p, q, hp, h => by
    rw [way] at h
    obtain ⟨u, hmem, hu⟩ := List.exists_of_findSome?_eq_some h
    have hpos : 0 < p.length := by have := hp.odd; omega
    have hpl : p.length - 1 < p.length := by omega
    have hlast := hp.path.mem hpl
    have hln : lastP p < g.length := by unfold lastP; rw [getD_at hpl]; omega
    have hlv : p.getD (p.length - 1) 0 = (lastP p : Int) := by unfold lastP; rw [getD_at hpl]; omega
    rw [show g.getD (lastP p) [] = g[lastP p] by simp [hln]] at hmem
    have hur := hg.row_mem hln hmem
    obtain ⟨v, rfl⟩ := Int.eq_ofNat_of_zero_le hur.1
    have hvn : v < g.length := by omega
    rw [Int.toNat_natCast] at hu
    by_cases c1 : (v : Int) ∈ p
    · rw [if_pos c1] at hu; cases hu
    rw [if_neg c1] at hu
    have hsn := path_snoc hp.path hur c1 (fun _ => by
      rw [hlv, Int.toNat_natCast, show g.getD v [] = g[v] by simp [hvn]]
      exact (edge_sym hg hln hvn).1 hmem)
    have e : ∀ j, j < p.length → (p ++ [(v : Int)]).getD j 0 = p.getD j 0 := fun j hj => by simp [List.getD_eq_getElem?_getD, List.getElem?_append_left hj]
    have ev : (p ++ [(v : Int)]).getD p.length 0 = (v : Int) := by simp
    by_cases hd0 : d = 0
    · rw [if_pos hd0] at hu
      by_cases c2 : M.getD v 0 < 0
      · rw [if_pos c2] at hu
        obtain rfl := Option.some.inj hu
        have hodd := hp.odd
        refine ⟨⟨by simp; omega, by simp; omega, hsn, by rw [e 0 hpos]; exact hp.free, ?_, fun j hj => ?_⟩, by simp; omega⟩
        · simp only [List.length_append, List.length_singleton, Nat.add_sub_cancel]
          rw [ev, Int.toNat_natCast]
          rcases hM.mate v hvn with h | ⟨w, _, h, _⟩
          · exact h
          · omega
        · simp only [List.length_append, List.length_singleton] at hj
          rw [e (2 * j + 1) (by omega), e (2 * j + 2) (by omega)]
          exact hp.turn j (by omega)
      · rw [if_neg c2] at hu; cases hu
    rw [if_neg hd0] at hu
    by_cases c2 : M.getD v 0 < 0
    · rw [if_pos c2] at hu; cases hu
    rw [if_neg c2] at hu
    by_cases c3 : M.getD v 0 ∈ p
    · rw [if_pos c3] at hu; cases hu
    rw [if_neg c3] at hu
    obtain ⟨w, hw, e1, e2⟩ := hM.val hvn c2
    rw [e1] at hu c3
    have hadj := hM2.adj v hvn w e1
    rw [show g.getD v [] = g[v] by simp [hvn]] at hadj
    have hwv : w ≠ v := fun h => by subst h; exact (hg.rows w hw).2 hadj
    have hp2 : IsPath g (p ++ [(v : Int), (w : Int)]) := by
      have := path_snoc hsn (u := (w : Int)) (by omega) (by
        intro hm
        rcases List.mem_append.1 hm with h | h
        · exact c3 h
        · rw [List.mem_singleton] at h; omega) (fun _ => by
        simp only [List.length_append, List.length_singleton, Nat.add_sub_cancel]
        rw [ev, Int.toNat_natCast, show g.getD w [] = g[w] by simp [hw]]
        exact (edge_sym hg hvn hw).1 hadj)
      simpa using this
    have e3 : ∀ j, j < p.length → (p ++ [(v : Int), (w : Int)]).getD j 0 = p.getD j 0 := fun j hj => by simp [List.getD_eq_getElem?_getD, List.getElem?_append_left hj]
    have hodd := hp.odd
    have hAP : AP g M (p ++ [(v : Int), (w : Int)]) := by
      refine ⟨by simp; omega, hp2, by rw [e3 0 hpos]; exact hp.free, fun j hj => ?_⟩
      simp only [List.length_append, List.length_cons, List.length_nil] at hj
      by_cases hj2 : 2 * j + 2 < p.length
      · rw [e3 _ (by omega), e3 _ hj2]; exact hp.turn j hj2
      · have h1 : 2 * j + 1 = p.length := by omega
        have f1 : (p ++ [(v : Int), (w : Int)]).getD (2 * j + 1) 0 = (v : Int) := by rw [h1]; simp
        have f2 : (p ++ [(v : Int), (w : Int)]).getD (2 * j + 2) 0 = (w : Int) := by
          rw [show 2 * j + 2 = p.length + 1 by omega, List.getD_eq_getElem?_getD, List.getElem?_append_right (by omega)]; simp
        rw [f1, f2, Int.toNat_natCast, e1]
    obtain ⟨r1, r2⟩ := way_aug hg hM hM2 d _ q hAP hu
    refine ⟨r1, ?_⟩
    simp at r2; omega
/-- the first path of a length -/
def topv (g : List (List Int)) (M : List Int) (k : Nat) : Option (List Int) := (List.range g.length).findSome? fun v => if 0 ≤ M.getD v 0 then none else way g M (k + 1) [(v : Int)]
theorem topv_aug (hg : GOk g) (hM : Mt g.length M F) (hM2 : Mt2 g M F) {k : Nat} {q : List Int} (h : topv g M k = some q) : Aug g M q ∧ q.length = 2 * (k + 1) := by
  unfold topv at h
  obtain ⟨v, hv, hq⟩ := List.exists_of_findSome?_eq_some h
  rw [List.mem_range] at hv
  by_cases c : 0 ≤ M.getD v 0
  · rw [if_pos c] at hq; cases hq
  rw [if_neg c] at hq
  have hf : M.getD v 0 = -1 := by
    rcases hM.mate v hv with h | ⟨w, _, h, _⟩
    · exact h
    · omega
  have hAP : AP g M [(v : Int)] := ⟨rfl, by
    have := path_snoc (g := g) (p := []) (fun k hk => by cases hk) (u := (v : Int)) (by omega) (by simp) (fun h => by cases h)
    simpa using this, by simp only [List.getD_cons_zero, Int.toNat_natCast]; exact hf, fun j hj => by simp at hj⟩
  obtain ⟨r1, r2⟩ := way_aug hg hM hM2 (k + 1) _ q hAP hq
  refine ⟨r1, ?_⟩
  simp at r2; omega
theorem sub_lenL : ∀ {l m : List Int}, l.Nodup → (∀ x ∈ l, x ∈ m) → l.length ≤ m.length
  | [], _, _, _ => Nat.zero_le _
  | x :: l, m, h, hs => by
    have hx := hs x (List.mem_cons_self ..)
    rw [List.nodup_cons] at h
    have h1 := sub_lenL (l := l) (m := m.erase x) h.2 (fun y hy => (List.mem_erase_of_ne (fun e : y = x => h.1 (e ▸ hy))).2 (hs y (List.mem_cons_of_mem _ hy)))
    rw [List.length_erase_of_mem hx] at h1
    have : 0 < m.length := List.length_pos_of_mem hx
    rw [List.length_cons]; omega
/-- its inner vertices are matched -/
theorem aug_inner (hM : Mt g.length M F) {q : List Int} (ha : Aug g M q) : q.length ≤ F.length + 2 ∧ q.length ≤ g.length := by
  have ha0 := ha
  obtain ⟨h2, hev, hp, -⟩ := ha0
  have hat := (aug_iff hM h2 hev hp).1 ha
  have hnd := hp.nodup
  constructor
  · have hl : ((q.take (q.length - 1)).drop 1).length = q.length - 2 := by simp; omega
    have := sub_lenL (l := (q.take (q.length - 1)).drop 1) (m := F) ((hnd.sublist (List.take_sublist _ _)).sublist (List.drop_sublist _ _)) (fun x hx => by
      obtain ⟨i, hi, e⟩ := List.getElem_of_mem hx
      rw [hl] at hi
      rw [List.getElem_drop, List.getElem_take] at e
      have hi1 : 1 + i < q.length := by omega
      have hr := hp.mem hi1
      obtain ⟨v, hv⟩ := Int.eq_ofNat_of_zero_le hr.1
      have hvn : v < g.length := by omega
      have h := hat (1 + i) hi1
      unfold AugAt at h
      rw [if_neg (by omega), if_neg (by omega), getD_at hi1, hv, Int.toNat_natCast] at h
      have hne : M.getD v 0 ≠ -1 := by
        split at h
        · have := hp.mem (k := 1 + i + 1) (by omega)
          rw [getD_at (show 1 + i + 1 < q.length by omega)] at h
          omega
        · have := hp.mem (k := 1 + i - 1) (by omega)
          rw [getD_at (show 1 + i - 1 < q.length by omega)] at h
          omega
      rw [← e, hv]
      exact Classical.byContradiction fun hf => hne (hM.free v hvn hf))
    omega
  · exact nodup_len hnd (fun x hx => by
      obtain ⟨i, hi, rfl⟩ := List.getElem_of_mem hx
      exact hp.mem hi)
end
theorem fin_row (z : Option (List Int)) {k : Unit → Option (List Int)} (hk : k () = some []) : bnd (some (z.elim (Sum.inl ()) fun q => Sum.inr q)) k = some (z.getD []) := by
  cases z with
  | none => exact hk
  | some q => rfl
open Classical in
noncomputable def resLongerPath (g es : List (List Int)) : List Int := if GOk g ∧ IsMatch g es then ((List.range (es.length + 1)).findSome? (topv g (matesOf g.length es))).getD [] else []
theorem resLongerPath_small (g es : List (List Int)) (hgl : g.length ≤ 1048576) (hl : ∀ x ∈ g, x.length ≤ 1048576) (he : es.length ≤ 1048576) (hr : ∀ x ∈ es, x.length ≤ 1048576) : (resLongerPath g es).length ≤ 1048576 := by
  unfold resLongerPath
  split
  · rename_i h
    cases e : (List.range (es.length + 1)).findSome? (topv g (matesOf g.length es)) with
    | none => simp
    | some q =>
      obtain ⟨k, _, hk⟩ := List.exists_of_findSome?_eq_some e
      obtain ⟨ha, _⟩ := topv_aug h.1 (mt_all h.1 h.2) (mt2_all h.1 h.2) hk
      have := (aug_inner (mt_all h.1 h.2) ha).2
      simp only [Option.getD_some]; omega
  · simp
theorem specLongerPath_eq (g es : List (List Int)) (hgl : g.length ≤ 1048576) (hl : ∀ x ∈ g, x.length ≤ 1048576) (he : es.length ≤ 1048576) (hr : ∀ x ∈ es, x.length ≤ 1048576) : F_spec_LongerPath g es = some (resLongerPath g es) := by
  unfold F_spec_LongerPath resLongerPath
  rw [cal_of (specMatchOk_eq g es hgl hl he hr)]
  by_cases h : GOk g ∧ IsMatch g es
  case neg => rw [if_pos (by simpa using h), if_neg h]
  obtain ⟨hg, hm⟩ := h
  have hM := mt_all hg hm
  have h16 := hg.n16
  have hml := match_le hm
  rw [if_neg (by simp [hg, hm]), if_pos ⟨hg, hm⟩, cal_of (l27Mates_eq hg hm)]
  generalize matesOf g.length es = M at hM
  have inner : ∀ k, k < es.length + 1 → lp (fun s => F_spec_LongerPath_l2 g M ((k + 1 : Nat) : Int) s) 0 = some ((topv g M k).elim (.inl ()) fun q => .inr (.inr (.inr q))) := by
    intro k hk
    unfold topv
    refine lp_first (step := fun s => F_spec_LongerPath_l2 g M ((k + 1 : Nat) : Int) s) (β := List Int) (O := Unit ⊕ (Int ⊕ (Unit ⊕ List Int))) (fun v => (v : Int)) g.length (fun v => if 0 ≤ M.getD v 0 then none else way g M (k + 1) [(v : Int)]) (fun q => .inr (.inr (.inr q))) (o0 := .inl ()) (s := 0) rfl (fun v hv hn => ?_) (fun v hv q hq => ?_) ?_
    · have hw := l27Way_eq hg hM (k + 1) [(v : Int)] (by omega) ⟨fun x hx => by rw [List.mem_singleton] at hx; omega, by simp, by simp; omega⟩
      simp only [F_spec_LongerPath_l2]
      unfold F_spec_l1Size
      rw [cal_some_eq, if_pos (by omega), getD_ix hM.len (by omega), Int.toNat_natCast]
      by_cases c : 0 ≤ M.getD v 0
      · rw [if_pos c, ck_of (inI (by omega) (by omega))]; rfl
      · rw [if_neg c] at hn ⊢
        simp only [hn] at hw
        rw [cal_of hw, if_neg (by simp), ck_of (inI (by omega) (by omega))]; rfl
    · have hw := l27Way_eq hg hM (k + 1) [(v : Int)] (by omega) ⟨fun x hx => by rw [List.mem_singleton] at hx; omega, by simp, by simp; omega⟩
      simp only [F_spec_LongerPath_l2]
      unfold F_spec_l1Size
      rw [cal_some_eq, if_pos (by omega), getD_ix hM.len (by omega), Int.toNat_natCast]
      by_cases c : 0 ≤ M.getD v 0
      · rw [if_pos c] at hq; cases hq
      · rw [if_neg c] at hq ⊢
        simp only [hq] at hw
        rw [cal_of hw, if_pos rfl]
    · simp only [F_spec_LongerPath_l2]
      unfold F_spec_l1Size
      rw [cal_some_eq, if_neg (by omega)]
  have key := lp_first (step := fun s => F_spec_LongerPath_l1 g es M s) (fun k => ((k + 1 : Nat) : Int)) (es.length + 1) (topv g M) (fun q => .inr q) (o0 := .inl ()) (s := 1) rfl (fun k hk hn => ?_) (fun k hk q hq => ?_) ?_
  · rw [key]
    exact fin_row _ rfl
  · simp only [F_spec_LongerPath_l1]
    rw [ck_of (inI (by omega) (by omega)), if_pos (by omega), inner k hk, hn, Option.elim_none, bnd_inl_eq]
    unfold F_spec_LongerPath_k3
    rw [ck_of (inI (by omega) (by omega))]; rfl
  · simp only [F_spec_LongerPath_l1]
    rw [ck_of (inI (by omega) (by omega)), if_pos (by omega), inner k hk, hq, Option.elim_some, bnd_inr_eq]
  · simp only [F_spec_LongerPath_l1]
    rw [ck_of (inI (by omega) (by omega)), if_neg (by omega)]
theorem idx_rngL {β : Type} {T : Nat → Int} {N k : Nat} {f : Int → Option β} (h : k < N) : idx ((List.range N).map T) (k : Int) f = f (T k) := by
  rw [← tbl_full]; exact idx_tbl h
theorem implLongerPath_eq (g es : List (List Int)) (hgl : g.length ≤ 1048576) (hl : ∀ x ∈ g, x.length ≤ 1048576) (he : es.length ≤ 1048576) (hr : ∀ x ∈ es, x.length ≤ 1048576) : F_impl_LongerPath g es = some (resLongerPath g es) := by
  unfold F_impl_LongerPath resLongerPath
  rw [cal_of (implMatchOk_eq g es hgl hl he hr)]
  by_cases h : GOk g ∧ IsMatch g es
  case neg => rw [if_pos (by simpa using h), if_neg h]
  obtain ⟨hg, hm⟩ := h
  have hM := mt_all hg hm
  have hM2 := mt2_all hg hm
  have h16 := hg.n16
  have hml := match_le hm
  have hnl := nb_len g
  have hp : 2 ^ g.length ≤ 2 ^ 16 := pow16 h16
  have hp0 : 0 < 2 ^ g.length := Nat.two_pow_pos _
  have hmore := fun p => aug_more hg hm (p := p)
  have hF := flat_all hm
  rw [if_neg (by simp [hg, hm]), if_pos ⟨hg, hm⟩, cal_of (netsOf_eq hg), cal_of (mostEdges_eq (by omega) (fun v h => nb_lt16 hg h)), cal_of (all_eq (by omega)), hnl, bv_toNat (by omega), idx_rngL (by omega), bvs_len, hnl, cal_of (implMates_eq hg hm)]
  generalize matesOf g.length es = M at hM hM2 hmore
  by_cases c0 : (es.length : Int) = mst (nb g) (2 ^ g.length - 1)
  · rw [if_pos c0]
    have hnone : (List.range (es.length + 1)).findSome? (topv g M) = none := by
      rw [List.findSome?_eq_none_iff]
      intro k _
      cases e : topv g M k with
      | none => rfl
      | some q =>
        have := hmore q (topv_aug hg hM hM2 e).1
        omega
    rw [hnone]; rfl
  rw [if_neg c0]
  have inner : ∀ k, k < g.length / 2 → lp (fun s => F_impl_LongerPath_l2 (bvs (nb g)) M ((2 * (k + 1) : Nat) : Int) s) 0 = some ((topv g M k).elim (.inl ()) fun q => .inr (.inr (.inr q))) := by
    intro k hk
    unfold topv
    have hlo : ∀ v, v < g.length → ¬ 0 ≤ M.getD v 0 → F_impl_longer (bvs (nb g)) M [(v : Int)] (BitVec.ofNat 32 (2 ^ v)) ((2 * (k + 1) : Nat) : Int) = some ((way g M (k + 1) [(v : Int)]).getD []) := fun v hv c => by
      have hlp : lastP [(v : Int)] = v := by unfold lastP; simp
      have := longer_eq hg hM (k + 1) [(v : Int)] (by omega) ⟨fun x hx => by rw [List.mem_singleton] at hx; omega, by simp, by simp; omega⟩ (.inl (by rw [hlp]; omega))
      have e1 : mk [(v : Int)] = 2 ^ v := by simp [mk]
      rw [e1, show [(v : Int)].length + 2 * (k + 1) - 1 = 2 * (k + 1) by simp] at this
      exact this
    refine lp_first (step := fun s => F_impl_LongerPath_l2 (bvs (nb g)) M ((2 * (k + 1) : Nat) : Int) s) (β := List Int) (O := Unit ⊕ (Int ⊕ (Unit ⊕ List Int))) (fun v => (v : Int)) g.length (fun v => if 0 ≤ M.getD v 0 then none else way g M (k + 1) [(v : Int)]) (fun q => .inr (.inr (.inr q))) (o0 := .inl ()) (s := 0) rfl (fun v hv hn => ?_) (fun v hv q hq => ?_) ?_
    · simp only [F_impl_LongerPath_l2]
      rw [if_pos (by rw [bvs_len, hnl]; omega), getD_ix hM.len (by omega), Int.toNat_natCast]
      by_cases c : 0 ≤ M.getD v 0
      · rw [if_pos c, ck_of (inI (by omega) (by omega))]; rfl
      · rw [if_neg c] at hn ⊢
        have hw := hlo v hv c
        rw [hn] at hw
        rw [cal_of (one_eq (by omega)), cal_of hw, if_neg (by simp), ck_of (inI (by omega) (by omega))]; rfl
    · simp only [F_impl_LongerPath_l2]
      rw [if_pos (by rw [bvs_len, hnl]; omega), getD_ix hM.len (by omega), Int.toNat_natCast]
      by_cases c : 0 ≤ M.getD v 0
      · rw [if_pos c] at hq; cases hq
      · rw [if_neg c] at hq ⊢
        have hw := hlo v hv c
        have hq0 := way_ne _ _ _ hq
        have hqa := topv_aug (q := q) hg hM hM2 (k := k)
        have hlen : q.length ≤ 1048576 := by
          have hAP : AP g M [(v : Int)] := ⟨rfl, by
            have := path_snoc (g := g) (p := []) (fun k hk => by cases hk) (u := (v : Int)) (by omega) (by simp) (fun h => by cases h)
            simpa using this, by
            simp only [List.getD_cons_zero, Int.toNat_natCast]
            rcases hM.mate v hv with h | ⟨w, _, h, _⟩
            · exact h
            · omega, fun j hj => by simp at hj⟩
          have := (aug_inner hM (way_aug hg hM hM2 _ _ q hAP hq).1).2
          omega
        rw [hq] at hw
        rw [cal_of (one_eq (by omega)), cal_of hw, Option.getD_some, if_pos hq0, cal_of (wide_id _ hlen)]
    · simp only [F_impl_LongerPath_l2]
      rw [if_neg (by rw [bvs_len, hnl]; omega)]
  have key := lp_first (step := fun s => F_impl_LongerPath_l1 (bvs (nb g)) M s) (fun k => ((2 * (k + 1) : Nat) : Int)) (g.length / 2) (topv g M) (fun q => .inr q) (o0 := .inl ()) (s := 2) rfl (fun k hk hn => ?_) (fun k hk q hq => ?_) ?_
  · rw [key]
    have hsame : (List.range (g.length / 2)).findSome? (topv g M) = (List.range (es.length + 1)).findSome? (topv g M) := by
      have hno : ∀ k, (g.length / 2 ≤ k ∨ es.length + 1 ≤ k) → topv g M k = none := fun k hk => by
        cases e : topv g M k with
        | none => rfl
        | some q =>
          obtain ⟨ha, hlq⟩ := topv_aug hg hM hM2 e
          have := aug_inner hM ha
          omega
      rcases Nat.le_total (g.length / 2) (es.length + 1) with h | h
      · exact (findSome_short _ h fun k hk => hno k (.inl hk)).symm
      · exact findSome_short _ h fun k hk => hno k (.inr hk)
    rw [hsame]
    exact fin_row _ rfl
  · simp only [F_impl_LongerPath_l1]
    rw [if_pos (by rw [bvs_len, hnl]; omega), inner k hk, hn, Option.elim_none, bnd_inl_eq]
    unfold F_impl_LongerPath_k3
    rw [ck_of (inI (by omega) (by omega))]; rfl
  · simp only [F_impl_LongerPath_l1]
    rw [if_pos (by rw [bvs_len, hnl]; omega), inner k hk, hq, Option.elim_some, bnd_inr_eq]
  · simp only [F_impl_LongerPath_l1]
    rw [if_neg (by rw [bvs_len, hnl]; omega)]
theorem T_FnExactLongerPath (x0 : List (List Int)) (hx0 : Sz.ok x0) (x1 : List (List Int)) (hx1 : Sz.ok x1) : F_laws_FnExactLongerPath x0 x1 = some true := by
  unfold F_laws_FnExactLongerPath
  obtain ⟨m0, hm0, h0⟩ := szGraph_eq x0 1048576 (by omega) (by omega) hx0
  rw [cal_of hm0]
  rcases h0 with h0 | ⟨b0, e0, l0, r0⟩
  · rw [if_pos h0]
  rw [if_neg (by omega)]
  obtain ⟨m1, hm1, h1⟩ := szInt64SS_eq x1 m0 (by omega) (by omega) hx1
  rw [cal_of hm1]
  rcases h1 with h1 | ⟨b1, e1, l1, r1⟩
  · rw [if_pos h1]
  rw [if_neg (by omega)]
  have hS := specLongerPath_eq x0 x1 l0 r0 l1 r1
  have hI := implLongerPath_eq x0 x1 l0 r0 l1 r1
  have hB := resLongerPath_small x0 x1 l0 r0 l1 r1
  generalize resLongerPath x0 x1 = R at hS hI hB
  have he0 : F_laws_eqInt64S R R = some true := by rw [eqInt64S_eq R R (by have := hB; omega)]; simp
  obtain ⟨k0, q0, hk0⟩ : ∃ k : Int, ∃ q, F_laws_markGraph x0 1 = some (k, q) ∧ 0 ≤ k ∧ k ≤ 1 + 1099511627776 := by
    have hsum := sumLen_le (n := 1048576) r0
    have : sumLen x0 ≤ 1048576 * 1048576 := Nat.le_trans hsum (Nat.mul_le_mul_right _ l0)
    exact ⟨_, _, markGraph_eq x0 1 l0 r0 (by omega) (by omega), by omega, by omega⟩
  obtain ⟨k1, q1, hk1⟩ : ∃ k : Int, ∃ q, F_laws_markInt64SS x1 k0 = some (k, q) ∧ 0 ≤ k ∧ k ≤ k0 + 1099511627776 := by
    have hsum := sumLen_le (n := 1048576) r1
    have : sumLen x1 ≤ 1048576 * 1048576 := Nat.le_trans hsum (Nat.mul_le_mul_right _ l1)
    exact ⟨_, _, markInt64SS_eq x1 k0 l1 r1 (by omega) (by omega), by omega, by omega⟩
  obtain ⟨m_r0, z_r0, hz_r0, hh_r0, hn_r0⟩ : ∃ k : Int, ∃ q, F_laws_markInt64S R 1 = some (k, q) ∧ F_laws_heldInt64S q 1 = some k ∧ 0 ≤ k ∧ k ≤ 1 + 4398046511104 := by
    have := hB
    exact ⟨_, _, markInt64S_eq R 1 (by have := hB; omega) (by omega) (by omega), heldInt64S_marks 1 R.length (by have := hB; omega) (by omega) (by omega), by omega, by omega⟩
  rw [cal_of (toGraph_eq x0 l0 r0), cal_of (toInt64SS_eq x1 (by omega) (fun x hx => by have := r1 x hx; omega)), cal_of hS, cal_of (toGraph_eq x0 l0 r0), cal_of (toInt64SS_eq x1 (by omega) (fun x hx => by have := r1 x hx; omega)), cal_of hI, cal_of he0, if_neg (by simp), cal_of (toGraph_eq x0 l0 r0), cal_of (eqGraph_eq x0 l0 r0), if_neg (by simp), cal_of (toInt64SS_eq x1 (by omega) (fun x hx => by have := r1 x hx; omega)), cal_of (eqInt64SS_eq x1 x1 (by omega) (fun x hx => by have := r1 x hx; omega)), if_neg (by simp), cal_of hk0.1, cal_of hk1.1, if_neg (by simp only; omega), cal_of he0, if_neg (by simp), cal_of hz_r0]
  simp only
  rw [cal_of hh_r0, if_neg (by omega), if_neg (by simp), cal_of (toGraph_eq x0 l0 r0), cal_of (toInt64SS_eq x1 (by omega) (fun x hx => by have := r1 x hx; omega)), cal_of hI, cal_of he0, if_neg (by simp), cal_of hh_r0, if_neg (by omega), if_neg (by simp)]
end Go.Proofs.YthbmcbflnibpbabDoor
