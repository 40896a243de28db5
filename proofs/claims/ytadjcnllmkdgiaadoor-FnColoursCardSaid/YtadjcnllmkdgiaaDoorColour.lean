/- The search for a colouring with few colours: the reference's, vertex by vertex, and the code's, class by class. -/
import Derived.Test.YtadjcnllmkdgiaaDoorEdges
import Derived.Test.YtadjcnllmkdgiaaDoorCount
namespace Go.Proofs.YtadjcnllmkdgiaaDoor
section
variable {S O β : Type}
/-- a loop that looks for the first that a function gives -/
theorem lp_first {step : S → Option (S ⊕ O)} (st : Nat → S) (N : Nat) (f : Nat → Option β) (out : β → O) {o0 : O} {s : S} (hs : s = st 0) (h : ∀ k, k < N → f k = none → step (st k) = some (.inl (st (k + 1))))
    (h' : ∀ k, k < N → ∀ b, f k = some b → step (st k) = some (.inr (out b))) (hN : step (st N) = some (.inr o0)) : lp step s = some (((List.range N).findSome? f).elim o0 out) := by
  subst hs
  cases e : (List.range N).findSome? f with
  | none =>
    rw [List.findSome?_eq_none_iff] at e
    exact lp_upto st N rfl (fun k hk => h k hk (e k (List.mem_range.2 hk))) hN
  | some b =>
    have hex : ∃ k, k < N ∧ (f k).isSome = true := by
      obtain ⟨a, ha, e1⟩ := List.exists_of_findSome?_eq_some e
      exact ⟨a, List.mem_range.1 ha, by rw [e1]; rfl⟩
    obtain ⟨m, ⟨hm, hs⟩, hl⟩ := least_of hex
    obtain ⟨c, hc⟩ := Option.isSome_iff_exists.1 hs
    have hb : ∀ j, j < m → f j = none := fun j hj => by
      cases e2 : f j with
      | none => rfl
      | some x => have := hl j ⟨by omega, by rw [e2]; rfl⟩; omega
    have : c = b := by
      have e3 : (List.range N).findSome? f = some c := by
        rw [show N = m + ((N - m - 1) + 1) by omega, List.range_add, List.findSome?_append, List.findSome?_eq_none_iff.2 (fun x hx => hb x (List.mem_range.1 hx)), List.range_succ_eq_map]
        simp [hc]
      rw [e3] at e; exact Option.some.inj e
    subst this
    exact lp_upto st m rfl (fun k hk => h k (by omega) (hb k hk)) (h' m hm _ hc)
end
/-- the vertices with a colour -/
def cls (p : List Nat) (c : Nat) : Nat := mk (ints ((List.range p.length).filter fun u => decide (p[u]? = some c)))
theorem cls_bit (p : List Nat) (c j : Nat) : (cls p c).testBit j = decide (p[j]? = some c) := by
  unfold cls
  rw [mk_bit, Bool.eq_iff_iff, decide_eq_true_iff, decide_eq_true_iff]
  constructor
  · rintro ⟨v, hv, rfl⟩
    unfold ints at hv
    obtain ⟨u, hu, rfl⟩ := List.mem_map.1 hv
    rw [List.mem_filter, decide_eq_true_iff] at hu
    simpa using hu.2
  · intro h
    have hj : j < p.length := (List.getElem?_eq_some_iff.1 h).1
    exact ⟨(j : Int), List.mem_map.2 ⟨j, List.mem_filter.2 ⟨List.mem_range.2 hj, by simpa using h⟩, rfl⟩, by simp⟩
theorem cls_lt (p : List Nat) (c : Nat) : cls p c < 2 ^ p.length := by
  unfold cls
  refine mk_lt fun v hv => ?_
  unfold ints at hv
  obtain ⟨u, hu, rfl⟩ := List.mem_map.1 hv
  have := List.mem_range.1 (List.mem_filter.1 hu).1
  omega
theorem cls_nil (c : Nat) : cls [] c = 0 := rfl
theorem cls_snoc (p : List Nat) (c d : Nat) : cls (p ++ [d]) c = if c = d then cls p c ||| 2 ^ p.length else cls p c := by
  apply bits_ext
  intro j
  rw [cls_bit]
  have key : (p ++ [d])[j]? = some c ↔ p[j]? = some c ∨ (j = p.length ∧ c = d) := by
    rw [List.getElem?_append]
    split
    · rename_i h
      exact ⟨.inl, fun h' => h'.elim id fun x => by omega⟩
    · rename_i h
      rw [List.getElem?_singleton]
      have e : p[j]? = none := List.getElem?_eq_none (by omega)
      rw [e]
      by_cases e2 : j = p.length
      · subst e2; simp [eq_comm]
      · rw [if_neg (by omega)]; simp [e2]
  split
  · rename_i h
    subst h
    rw [Nat.testBit_or, cls_bit, Nat.testBit_two_pow, Bool.eq_iff_iff, Bool.or_eq_true, decide_eq_true_iff, decide_eq_true_iff, decide_eq_true_iff, key]
    simp [eq_comm]
  · rename_i h
    rw [cls_bit, Bool.eq_iff_iff, decide_eq_true_iff, decide_eq_true_iff, key]
    simp [h]
/-- whether the next vertex may have a colour -/
def fits (a : List Nat) (p : List Nat) (c : Nat) : Bool := cls p c &&& a.getD p.length 0 == 0
/-- the least right colouring with colours below k that goes on from p -/
def search (a : List Nat) (k : Nat) : Nat → List Nat → Nat → Option (List Nat)
  | 0, p, _ => some p
  | m + 1, p, u => (List.range (min (u + 1) k)).findSome? fun c => if fits a p c = true then search a k m (p ++ [c]) (max u (c + 1)) else none
theorem search_len {a : List Nat} {k : Nat} : ∀ {m : Nat} {p : List Nat} {u : Nat} {l : List Nat}, (∀ c ∈ p, c < k) → search a k m p u = some l → l.length = p.length + m ∧ ∀ c ∈ l, c < k
  | 0, p, u, l, hp, h => by cases h; exact ⟨rfl, hp⟩
  | m + 1, p, u, l, hp, h => by
    rw [search] at h
    obtain ⟨c, hc, e⟩ := List.exists_of_findSome?_eq_some h
    rw [List.mem_range] at hc
    split at e
    · have := search_len (p := p ++ [c]) (fun d hd => by
        rcases List.mem_append.1 hd with h | h
        · exact hp d h
        · rw [List.mem_singleton.1 h]; omega) e
      exact ⟨by rw [this.1, List.length_append, List.length_singleton]; omega, this.2⟩
    · cases e
theorem search_some {a : List Nat} {k : Nat} : ∀ {m : Nat} {p : List Nat} {u : Nat}, (∀ c ∈ p, c < u) → u ≤ p.length → p.length + m ≤ k → (search a k m p u).isSome = true
  | 0, p, u, _, _, _ => rfl
  | m + 1, p, u, hp, hu, hk => by
    rw [search, List.findSome?_isSome_iff]
    refine ⟨u, List.mem_range.2 (by omega), ?_⟩
    have hf : fits a p u = true := by
      unfold fits
      have : cls p u = 0 := bits_ext fun j => by
        rw [cls_bit, Nat.zero_testBit, decide_eq_false_iff_not]
        intro h
        have := hp u (List.mem_of_getElem? h)
        omega
      rw [this, Nat.zero_and]; rfl
    rw [if_pos hf]
    exact search_some (p := p ++ [u]) (fun c hc => by
      rcases List.mem_append.1 hc with h | h
      · have := hp c h; omega
      · rw [List.mem_singleton.1 h]; omega) (by rw [List.length_append, List.length_singleton]; omega) (by rw [List.length_append, List.length_singleton]; omega)
/-- the fewest colours -/
def chrom (a : List Nat) : Nat := (List.range (a.length + 1)).findIdx fun k => (search a k a.length [] 0).isSome
theorem chrom_lt (a : List Nat) : (List.range (a.length + 1)).findIdx (fun k => (search a k a.length [] 0).isSome) < (List.range (a.length + 1)).length := by
  refine List.findIdx_lt_length_of_exists ⟨a.length, List.mem_range.2 (by omega), search_some (fun c h => nomatch h) (Nat.le_refl _) ?_⟩
  simp
theorem chrom_le (a : List Nat) : chrom a ≤ a.length := by have := chrom_lt a; rw [List.length_range] at this; unfold chrom; omega
theorem chrom_some (a : List Nat) : ∃ l, search a (chrom a) a.length [] 0 = some l := by
  have h := List.findIdx_getElem (w := chrom_lt a)
  rw [List.getElem_range] at h
  exact Option.isSome_iff_exists.1 h
theorem chrom_none (a : List Nat) {k : Nat} (h : k < chrom a) : search a k a.length [] 0 = none := by
  have h1 := List.not_of_lt_findIdx h
  rw [List.getElem_range] at h1
  simpa using h1
theorem search_zero (a : List Nat) (k m : Nat) (p : List Nat) (u : Nat) : search a 0 (m + 1) p u = none := by rw [search]; simp
theorem chrom_pos {a : List Nat} (h : 0 < a.length) : 0 < chrom a := by
  rcases Nat.eq_zero_or_pos (chrom a) with e | e
  · obtain ⟨l, hl⟩ := chrom_some a
    obtain ⟨m, hm⟩ : ∃ m, a.length = m + 1 := ⟨a.length - 1, by omega⟩
    rw [e, hm, search_zero _ 0] at hl; cases hl
  · exact e
def best (a : List Nat) : List Nat := (search a (chrom a) a.length [] 0).getD []
theorem best_eq (a : List Nat) : search a (chrom a) a.length [] 0 = some (best a) := by obtain ⟨l, hl⟩ := chrom_some a; unfold best; rw [hl]; rfl
theorem best_len (a : List Nat) : (best a).length = a.length ∧ ∀ c ∈ best a, c < chrom a := by
  have := search_len (p := []) (fun c h => by cases h) (best_eq a)
  simpa using this
/-- rows that name vertices -/
structure RowsIn (g : List (List Int)) : Prop where
  n16 : g.length ≤ 16
  row_mem : ∀ {v : Nat} (h : v < g.length) {x : Int}, x ∈ g[v] → 0 ≤ x ∧ x < g.length
  row_len : ∀ {v : Nat} (h : v < g.length), g[v].length ≤ 16
theorem GOk.rowsIn {g : List (List Int)} (hg : GOk g) : RowsIn g := ⟨hg.n16, fun {v} h {x} hx => hg.row_mem h hx, fun {v} h => hg.row_len h⟩
/-- the reference's colours: those behind p have none -/
def csOf (n : Nat) (p : List Nat) : List Int := ints p ++ List.replicate (n - p.length) (-1)
theorem csOf_len {n : Nat} {p : List Nat} (h : p.length ≤ n) : (csOf n p).length = n := by simp [csOf, ints]; omega
theorem csOf_at {n : Nat} {p : List Nat} {u : Nat} (h : p.length ≤ n) (hu : u < n) : (csOf n p)[u]? = some (match p[u]? with | some c => (c : Int) | none => -1) := by
  unfold csOf
  rw [List.getElem?_append, ints_len]
  split
  · rename_i h1; unfold ints; rw [List.getElem?_map, List.getElem?_eq_getElem h1]; rfl
  · rename_i h1; rw [List.getElem?_replicate, if_pos (by omega), List.getElem?_eq_none (by omega)]
theorem csOf_set {n : Nat} {p : List Nat} {c : Nat} (h : p.length < n) : (csOf n p).set p.length (c : Int) = csOf n (p ++ [c]) := by
  unfold csOf
  rw [List.set_append, ints_len, if_neg (by omega), Nat.sub_self, show n - p.length = (n - (p ++ [c]).length) + 1 by simp; omega, List.replicate_succ, List.set_cons_zero]
  simp [ints]
theorem csOf_full {p : List Nat} : csOf p.length p = ints p := by simp [csOf]
theorem bvs_put (l : List Nat) (k x : Nat) : (bvs l).set k (BitVec.ofNat 32 x) = bvs (l.set k x) := by unfold bvs; rw [List.map_set]
theorem ints_put (l : List Nat) (k x : Nat) : (ints l).set k (x : Int) = ints (l.set k x) := by unfold ints; rw [List.map_set]
/-- the code's classes -/
def clss (p : List Nat) (k : Nat) : List Nat := (List.range k).map (cls p)
theorem clss_len (p : List Nat) (k : Nat) : (clss p k).length = k := by simp [clss]
theorem clss_get {p : List Nat} {k c : Nat} (h : c < (clss p k).length) : (clss p k)[c] = cls p c := by simp [clss]
theorem clss_set {p : List Nat} {k c : Nat} (h : c < k) : (clss p k).set c (cls p c ||| 2 ^ p.length) = clss (p ++ [c]) k := by
  refine List.ext_getElem (by simp [clss]) fun i h1 h2 => ?_
  rw [List.getElem_set, clss_get, clss_get, cls_snoc]
  by_cases e : c = i
  · subst e; simp
  · rw [if_neg e, if_neg (Ne.symm e)]
theorem cls_out (p : List Nat) (c : Nat) : (cls p c).testBit p.length = false := by rw [cls_bit]; simp
theorem clss_back {p : List Nat} {k c : Nat} (h : c < k) : (clss (p ++ [c]) k).set c (sdiff (cls (p ++ [c]) c) (2 ^ p.length)) = clss p k := by
  refine List.ext_getElem (by simp [clss]) fun i h1 h2 => ?_
  rw [List.getElem_set, clss_get, clss_get, cls_snoc, if_pos rfl]
  by_cases e : c = i
  · subst e; rw [if_pos rfl]
    apply bits_ext; intro j
    rw [delbit_bit, Nat.testBit_or, Nat.testBit_two_pow]
    by_cases e : p.length = j
    · subst e; rw [cls_out]; simp
    · simp [e]
  · rw [if_neg e, cls_snoc, if_neg (Ne.symm e)]
theorem colourOn_eq {a : List Nat} (ha : a.length ≤ 16) (hb : ∀ v (h : v < a.length), a[v] < 2 ^ 16) {k : Nat} (hk : k ≤ 1048576) (p : List Nat) (u : Nat) (hp : p.length ≤ a.length) (hu : u ≤ 1048576) :
    F_impl_colourOn (bvs a) (p.length : Int) (bvs (clss p k)) (u : Int) = some (match search a k (a.length - p.length) p u with | some l => (true, bvs (clss l k)) | none => (false, bvs (clss p k))) := by
  refine fixO_ind (J := List Nat × Nat) (fun j => (bvs a, (j.1.length : Int), bvs (clss j.1 k), (j.2 : Int))) (fun j => a.length - j.1.length)
    (fun j => match search a k (a.length - j.1.length) j.1 j.2 with | some l => (true, bvs (clss l k)) | none => (false, bvs (clss j.1 k))) (fun j => j.1.length ≤ a.length ∧ j.2 ≤ 1048576) ?_ (p, u) ⟨hp, hu⟩
  rintro R ⟨p, u⟩ ⟨hp, hu⟩ ih
  simp only at hp hu ⊢
  unfold F_impl_colourOn_body
  rw [bvs_len]
  by_cases e : p.length = a.length
  · rw [if_pos (by omega), e, Nat.sub_self]
    simp only [search]
  · rw [if_neg (by omega), ck_of (inI (by omega) (by omega))]
    have hlt : p.length < a.length := by omega
    obtain ⟨m, hm⟩ : ∃ m, a.length - p.length = m + 1 := ⟨a.length - p.length - 1, by omega⟩
    have hav := hb _ hlt
    have hcl : ∀ c, cls p c < 2 ^ 16 := fun c => Nat.lt_of_lt_of_le (cls_lt p c) (pow16 (by omega))
    have hcl2 : ∀ c, cls (p ++ [c]) c < 2 ^ 16 := fun c => Nat.lt_of_lt_of_le (cls_lt _ c) (pow16 (by rw [List.length_append, List.length_singleton]; omega))
    have hfits : ∀ c, (BitVec.ofNat 32 (cls p c) &&& BitVec.ofNat 32 a[p.length] ≠ 0#32) ↔ ¬ fits a p c = true := by
      intro c
      have := and_lt (b := a[p.length]) (hcl c)
      rw [bv_and, Ne, bv_inj (by omega) (by decide)]
      unfold fits
      rw [getD_get hlt, beq_iff_eq]
    have key : lp (fun s => F_impl_colourOn_l1 (bvs a) (p.length : Int) (bvs (clss p k)) (u : Int) (fun z0 z1 z2 z3 => R (z0, z1, z2, z3)) s.1 s.2) (bvs (clss p k), 0) =
        some (match search a k (a.length - p.length) p u with | some l => .inr (true, bvs (clss l k)) | none => .inl (bvs (clss p k))) := by
      rw [hm, search]
      have hstep : ∀ c, c < k → c < u + 1 → F_impl_colourOn_l1 (bvs a) (p.length : Int) (bvs (clss p k)) (u : Int) (fun z0 z1 z2 z3 => R (z0, z1, z2, z3)) (bvs (clss p k)) (c : Int) =
          match (if fits a p c = true then search a k m (p ++ [c]) (max u (c + 1)) else none) with | some l => some (.inr (.inr (true, bvs (clss l k)))) | none => some (.inl (bvs (clss p k), ((c + 1 : Nat) : Int))) := by
        intro c h1 h2
        simp only [F_impl_colourOn_l1]
        rw [bvs_len, clss_len, if_pos (by omega), idx_bvs (by rw [clss_len]; exact h1), clss_get, idx_bvs hlt]
        by_cases hf : fits a p c = true
        · have hr := ih (p ++ [c], max u (c + 1)) ⟨by rw [List.length_append, List.length_singleton]; omega, by simp only; omega⟩ (by simp only [List.length_append, List.length_singleton]; omega)
          simp only [List.length_append, List.length_singleton] at hr
          rw [show a.length - (p.length + 1) = m by omega] at hr
          rw [if_neg (by rw [hfits]; simp [hf]), idx_bvs (by rw [clss_len]; exact h1), clss_get, cal_of (one_eq (by omega)), idx_bvs (by rw [clss_len]; exact h1), ck_of (inI (by omega) (by omega)), ck_of (inI (by omega) (by omega)), if_pos hf,
            bv_or, Int.toNat_natCast, show (bvs (clss p k)).set c (BitVec.ofNat 32 (cls p c ||| 2 ^ p.length)) = bvs (clss (p ++ [c]) k) by rw [bvs_put, clss_set h1],
            show (p.length : Int) + 1 = ((p.length + 1 : Nat) : Int) by omega, show max (u : Int) ((c : Int) + 1) = ((max u (c + 1) : Nat) : Int) by omega, cal_of hr]
          cases search a k m (p ++ [c]) (max u (c + 1)) with
          | none =>
            simp only
            rw [if_neg (by simp), idx_bvs (by rw [clss_len]; exact h1), clss_get, cal_of (one_eq (by omega)), idx_bvs (by rw [clss_len]; exact h1), ck_of (inI (by omega) (by omega)), bv_andn (by have := hcl2 c; omega),
              show (bvs (clss (p ++ [c]) k)).set c (BitVec.ofNat 32 (sdiff (cls (p ++ [c]) c) (2 ^ p.length))) = bvs (clss p k) by rw [bvs_put, clss_back h1]]; rfl
          | some l => simp
        · rw [if_pos ((hfits c).2 hf), ck_of (inI (by omega) (by omega)), if_neg hf]; rfl
      refine Eq.trans (lp_first (fun c => (bvs (clss p k), (c : Int))) (min (u + 1) k) (fun c => if fits a p c = true then search a k m (p ++ [c]) (max u (c + 1)) else none) (fun l => Sum.inr (true, bvs (clss l k))) (o0 := Sum.inl (bvs (clss p k))) (by rfl) (fun c hc hn => ?_) (fun c hc l hl => ?_) ?_) (by cases List.findSome? _ _ <;> rfl)
      · simp only
        rw [hstep c (by omega) (by omega), hn]
      · simp only
        rw [hstep c (by omega) (by omega), hl]
      · simp only [F_impl_colourOn_l1]
        rw [bvs_len, clss_len, if_neg (by omega)]
    rw [key]
    cases search a k (a.length - p.length) p u with
    | none => rfl
    | some l => rfl
theorem clss_nil (k : Nat) : bvs (clss [] k) = List.replicate k (0 : BitVec 32) := by
  refine List.ext_getElem (by simp [clss, bvs]) fun i h1 h2 => ?_
  rw [List.getElem_replicate, bvs_get, clss_get, cls_nil]; rfl
theorem bestClasses_eq {a : List Nat} (ha : a.length ≤ 16) (hb : ∀ v (h : v < a.length), a[v] < 2 ^ 16) (h0 : 0 < a.length) : F_impl_bestClasses (bvs a) = some (bvs (clss (best a) (chrom a))) := by
  have hch := chrom_le a
  have hcp := chrom_pos h0
  have hst : ∀ k : Nat, k ≤ 1048576 → F_impl_bestClasses_l1 (bvs a) (k : Int) = match search a k a.length [] 0 with | some l => some (.inr (.inr (bvs (clss l k)))) | none => some (.inl ((k : Int) + 1)) := by
    intro k hk
    unfold F_impl_bestClasses_l1
    have := colourOn_eq ha hb hk [] 0 (by simp) (by omega)
    rw [clss_nil] at this
    simp only [List.length_nil, Nat.sub_zero] at this
    rw [mkS_of (Int.natCast_nonneg _) (Int.ofNat_le.2 (by unfold lim; omega)), Int.toNat_natCast, show (0 : Int) = ((0 : Nat) : Int) from rfl, cal_of this]
    cases search a k a.length [] 0 with
    | none => rw [if_neg (by simp), ck_of (inI (by omega) (by omega))]
    | some l => rw [if_pos rfl]
  unfold F_impl_bestClasses
  have key : lp (fun s => F_impl_bestClasses_l1 (bvs a) s) 1 = some (.inr (bvs (clss (best a) (chrom a)))) := by
    refine lp_upto (fun k => ((k + 1 : Nat) : Int)) (chrom a - 1) rfl (fun k hk => ?_) ?_
    · have := chrom_none a (show k + 1 < chrom a by omega)
      rw [hst (k + 1) (by omega), this]; rfl
    · have := best_eq a
      rw [Nat.sub_add_cancel hcp, hst _ (by omega), this]
  rw [key]; rfl
open Classical in
theorem implChromaticOf_eq (g : List (List Int)) (hgl : g.length ≤ 1048576) (hl : ∀ x ∈ g, x.length ≤ 1048576) : F_impl_ChromaticOf g = some (if GOk g then (chrom (nb g) : Int) else -1) := by
  unfold F_impl_ChromaticOf
  rw [cal_of (implGraphOk_eq g hgl hl)]
  by_cases hg : GOk g
  case neg => rw [if_pos (by simp [hg]), if_neg hg]
  have h16 := hg.n16
  have h1 := hg.n1
  have hnl := nb_len g
  rw [if_neg (by simp [hg]), if_pos hg, cal_of (netsOf_eq hg), cal_of (bestClasses_eq (by omega) (fun v h => nb_lt16 hg h) (by omega)), bvs_len, clss_len]
end Go.Proofs.YtadjcnllmkdgiaaDoor
