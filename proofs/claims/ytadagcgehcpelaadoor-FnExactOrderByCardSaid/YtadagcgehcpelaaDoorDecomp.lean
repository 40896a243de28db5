/- Decompositions: how links join bags, what is reached by them, which bags have a vertex. -/
import Derived.Test.YtadagcgehcpelaaDoorParts
import Derived.Test.YtadagcgehcpelaaDoorEdges
import Derived.Test.YtadagcgehcpelaaDoorSlices
namespace Go.Proofs.YtadagcgehcpelaaDoor
/-- links between n bags -/
def LinksOk (links : List (List Int)) (n : Nat) : Prop := ∀ l ∈ links, l.length = 2 ∧ Rises l n
theorem LinksOk.two {links : List (List Int)} {n : Nat} (h : LinksOk links n) {l : List Int} (hl : l ∈ links) : ∃ x y : Nat, l = [(x : Int), (y : Int)] ∧ x < y ∧ y < n := by
  obtain ⟨h1, h2⟩ := h l hl
  match l, h1 with
  | [a, b], _ =>
    have a1 := h2 0 (by simp)
    have a2 := h2 1 (by simp)
    simp at a1 a2
    obtain ⟨x, rfl⟩ := Int.eq_ofNat_of_zero_le a1.1
    obtain ⟨y, rfl⟩ := Int.eq_ofNat_of_zero_le a2.1
    exact ⟨x, y, rfl, by omega, by omega⟩
def joinN (a : List Nat) (x y : Nat) : List Nat := (a.set x (a.getD x 0 ||| 2 ^ y)).set y ((a.set x (a.getD x 0 ||| 2 ^ y)).getD y 0 ||| 2 ^ x)
def lnetsTo (n : Nat) (links : List (List Int)) (k : Nat) : List Nat := (links.take k).foldl (fun a l => joinN a (l.getD 0 0).toNat (l.getD 1 0).toNat) (List.replicate n 0)
/-- by links: who is joined to whom -/
def lnets (n : Nat) (links : List (List Int)) : List Nat := lnetsTo n links links.length
theorem joinN_len (a : List Nat) (x y : Nat) : (joinN a x y).length = a.length := by simp [joinN]
theorem joinN_get {a : List Nat} {x y u : Nat} (hxy : x < y) (hy : y < a.length) (hu : u < a.length) : (joinN a x y).getD u 0 = if u = y then a.getD y 0 ||| 2 ^ x else if u = x then a.getD x 0 ||| 2 ^ y else a.getD u 0 := by
  unfold joinN
  simp only [List.getD_eq_getElem?_getD, List.getElem?_set, List.length_set]
  by_cases h1 : y = u
  · subst h1
    simp [hy, show ¬ x = y by omega]
  · by_cases h2 : x = u
    · subst h2; simp [h1, Ne.symm h1, hu]
    · simp [h1, h2, Ne.symm h1, Ne.symm h2]
/-- some link joins them -/
def Linked (links : List (List Int)) (u w : Nat) : Prop := [(u : Int), (w : Int)] ∈ links ∨ [(w : Int), (u : Int)] ∈ links
theorem lnets_bit {links : List (List Int)} {n : Nat} (h : LinksOk links n) : ∀ k, k ≤ links.length → (lnetsTo n links k).length = n ∧ ∀ u, u < n → ∀ w, ((lnetsTo n links k).getD u 0).testBit w = true ↔ Linked (links.take k) u w
  | 0, _ => ⟨by simp [lnetsTo], fun u hu w => by simp [lnetsTo, Linked, hu]⟩
  | k + 1, hk => by
    have hk1 : k < links.length := by omega
    obtain ⟨ih1, ih2⟩ := lnets_bit h k (by omega)
    obtain ⟨x, y, e, hxy, hy⟩ := h.two (List.getElem_mem hk1)
    have hs : lnetsTo n links (k + 1) = joinN (lnetsTo n links k) x y := by unfold lnetsTo; rw [take_succ_of hk1, List.foldl_append, e]; rfl
    rw [hs, take_succ_of hk1, e]
    refine ⟨by rw [joinN_len, ih1], fun u hu w => ?_⟩
    rw [joinN_get hxy (by omega) (by omega)]
    have key : Linked (links.take k ++ [[(x : Int), (y : Int)]]) u w ↔ Linked (links.take k) u w ∨ (u = x ∧ w = y) ∨ (u = y ∧ w = x) := by
      unfold Linked
      simp only [List.mem_append, List.mem_singleton, List.cons.injEq, and_true]
      constructor
      · rintro ((h | h) | (h | h))
        · exact .inl (.inl h)
        · exact .inr (.inl ⟨by omega, by omega⟩)
        · exact .inl (.inr h)
        · exact .inr (.inr ⟨by omega, by omega⟩)
      · rintro ((h | h) | h | h)
        · exact .inl (.inl h)
        · exact .inr (.inl h)
        · exact .inl (.inr ⟨by omega, by omega⟩)
        · exact .inr (.inr ⟨by omega, by omega⟩)
    rw [key, ← ih2 u hu w]
    by_cases h1 : u = y
    · rw [if_pos h1, Nat.testBit_or, Nat.testBit_two_pow, Bool.or_eq_true, decide_eq_true_iff, h1]
      constructor
      · rintro (h | h)
        · exact .inl h
        · exact .inr (.inr ⟨rfl, h.symm⟩)
      · rintro (h | h | h)
        · exact .inl h
        · omega
        · exact .inr h.2.symm
    · by_cases h2 : u = x
      · rw [if_neg h1, if_pos h2, Nat.testBit_or, Nat.testBit_two_pow, Bool.or_eq_true, decide_eq_true_iff, h2]
        constructor
        · rintro (h | h)
          · exact .inl h
          · exact .inr (.inl ⟨rfl, h.symm⟩)
        · rintro (h | h | h)
          · exact .inl h
          · exact .inr h.2.symm
          · omega
      · rw [if_neg h1, if_neg h2]
        constructor
        · exact .inl
        · rintro (h | h | h)
          · exact h
          · exact absurd h.1 h2
          · exact absurd h.1 h1
theorem lnets_len {links : List (List Int)} {n : Nat} (h : LinksOk links n) : (lnets n links).length = n := (lnets_bit h _ (Nat.le_refl _)).1
theorem lnets_iff {links : List (List Int)} {n : Nat} (h : LinksOk links n) {u : Nat} (hu : u < n) (w : Nat) : ((lnets n links).getD u 0).testBit w = true ↔ Linked links u w := by
  have := (lnets_bit h _ (Nat.le_refl _)).2 u hu w
  rwa [List.take_length] at this
theorem Linked.lt {links : List (List Int)} {n : Nat} (h : LinksOk links n) {u w : Nat} (hl : Linked links u w) : u < n ∧ w < n := by
  rcases hl with g | g
  · obtain ⟨x, y, e, h1, h2⟩ := h.two g
    simp only [List.cons.injEq, and_true] at e
    omega
  · obtain ⟨x, y, e, h1, h2⟩ := h.two g
    simp only [List.cons.injEq, and_true] at e
    omega
theorem lnetsTo_lt {links : List (List Int)} {n : Nat} (h : LinksOk links n) {k : Nat} (hk : k ≤ links.length) {u : Nat} (hu : u < n) : (lnetsTo n links k).getD u 0 < 2 ^ n := by
  refine Nat.lt_pow_two_of_testBit _ fun w hw => ?_
  have h1 := (lnets_bit h k hk).2 u hu w
  cases e : ((lnetsTo n links k).getD u 0).testBit w with
  | false => rfl
  | true =>
    have h2 := h1.1 e
    have h3 : LinksOk (links.take k) n := fun l hl => h l (List.mem_of_mem_take hl)
    have := (Linked.lt h3 h2).2
    omega
theorem linkNets_eq {bags links : List (List Int)} (hn : bags.length ≤ 16) (hll : links.length ≤ 16) (h : LinksOk links bags.length) : F_impl_linkNets bags links = some (bvs (lnets bags.length links)) := by
  unfold F_impl_linkNets
  rw [mkS_of (Int.natCast_nonneg _) (Int.ofNat_le.2 (by unfold lim; omega)), Int.toNat_natCast]
  have key : lp (fun s => F_impl_linkNets_l1 links s.1 s.2) (bvs (lnetsTo bags.length links 0), 0) = some (.inl (bvs (lnetsTo bags.length links links.length))) := by
    refine lp_nums links.length (fun k => bvs (lnetsTo bags.length links k)) (fun k hk => ?_) ?_
    · simp only [F_impl_linkNets_l1]
      obtain ⟨x, y, e, hxy, hy⟩ := h.two (List.getElem_mem hk)
      obtain ⟨hl, _⟩ := lnets_bit h k (by omega)
      have hs : lnetsTo bags.length links (k + 1) = joinN (lnetsTo bags.length links k) x y := by unfold lnetsTo; rw [take_succ_of hk, List.foldl_append, e]; rfl
      have i0 : ∀ {β : Type} (q : Int → Option β), idx [(x : Int), (y : Int)] 0 q = q x := fun q => rfl
      have i1 : ∀ {β : Type} (q : Int → Option β), idx [(x : Int), (y : Int)] 1 q = q y := fun q => rfl
      have hp : 2 ^ bags.length ≤ 2 ^ 16 := pow16 hn
      have b1 := lnetsTo_lt h (k := k) (by omega) (u := x) (by omega)
      have b2 := lnetsTo_lt h (k := k) (by omega) (u := y) (by omega)
      have hjoin : F_impl_nets_join (bvs (lnetsTo bags.length links k)) (x : Int) (y : Int) = some (bvs (joinN (lnetsTo bags.length links k) x y)) := by
        generalize lnetsTo bags.length links k = a at *
        have hx' : x < a.length := by omega
        have hy' : y < a.length := by omega
        unfold F_impl_nets_join
        rw [idx_bvs hx', cal_of (one_eq (by omega)), idx_bvs hx', bv_or, Int.toNat_natCast]
        have hset : (bvs a).set x (BitVec.ofNat 32 (a[x] ||| 2 ^ y)) = bvs (a.set x (a[x] ||| 2 ^ y)) := by unfold bvs; rw [List.map_set]
        rw [hset, idx_bvs (by rw [List.length_set]; exact hy'), cal_of (one_eq (by omega)), idx_bvs (by rw [List.length_set]; exact hy'), bv_or, Int.toNat_natCast]
        unfold joinN
        rw [getD_get hx', getD_get (show y < (a.set x (a[x] ||| 2 ^ y)).length by rw [List.length_set]; exact hy')]
        simp only [bvs, List.map_set]
      rw [if_pos (by omega), idx_nat hk, e, i0, i1, cal_of hjoin, ck_of (inI (by omega) (by omega)), hs]; rfl
    · simp only [F_impl_linkNets_l1]
      rw [if_neg (by omega)]
  rw [show List.replicate bags.length (0 : BitVec 32) = bvs (lnetsTo bags.length links 0) by simp [bvs, lnetsTo], bnd_l key]; rfl
theorem connected_eq {a : List Nat} {s : Nat} (ha : a.length ≤ 16) (hb : ∀ v (h : v < a.length), a[v] < 2 ^ 16) (hs : s < 2 ^ a.length) : F_impl_connected (bvs a) (BitVec.ofNat 32 s) = some (decide (s ≠ 0 ∧ reach a s (low s) = s)) := by
  have hp := pow16 ha
  unfold F_impl_connected
  by_cases h : s = 0
  · subst h; rw [if_neg (by simp)]; exact congrArg some (decide_eq_false (fun h => h.1 rfl)).symm
  · have hR := reach_lt a s (low s)
    rw [if_pos (by rw [Ne, bv_inj (by omega) (by decide)]; exact h), cal_of (least_eq h (by omega)), cal_of (reach_eq ha hb hs (low_bit h))]
    refine congrArg some ?_
    rw [Bool.eq_iff_iff, decide_eq_true_iff, decide_eq_true_iff, bv_inj (by omega) (by omega)]
    exact ⟨fun e => ⟨h, e⟩, fun e => e.2⟩
/-- the bags that have a vertex -/
def wset (bags : List (List Int)) (v : Nat) (k : Nat) : Nat := mk (ints ((List.range k).filter fun b => decide ((v : Int) ∈ bags.getD b [])))
theorem wset_bit {bags : List (List Int)} {v k b : Nat} : (wset bags v k).testBit b = true ↔ b < k ∧ (v : Int) ∈ bags.getD b [] := by
  unfold wset
  rw [mk_bit, decide_eq_true_iff]
  constructor
  · rintro ⟨x, hx, rfl⟩
    unfold ints at hx
    obtain ⟨u, hu, rfl⟩ := List.mem_map.1 hx
    rw [List.mem_filter, List.mem_range, decide_eq_true_iff] at hu
    simpa using hu
  · rintro ⟨h1, h2⟩
    exact ⟨(b : Int), List.mem_map.2 ⟨b, List.mem_filter.2 ⟨List.mem_range.2 h1, by simpa using h2⟩, rfl⟩, by simp⟩
theorem wset_lt (bags : List (List Int)) (v k : Nat) : wset bags v k < 2 ^ k := by
  unfold wset
  refine mk_lt fun x hx => ?_
  unfold ints at hx
  obtain ⟨u, hu, rfl⟩ := List.mem_map.1 hx
  have := List.mem_range.1 (List.mem_filter.1 hu).1
  omega
theorem wset_els {bags : List (List Int)} {v k : Nat} (hk : k ≤ 16) : els (wset bags v k) = (List.range k).filter fun b => decide ((v : Int) ∈ bags.getD b []) := by
  rw [els_range hk (wset_lt bags v k)]
  refine List.filter_congr fun b hb => ?_
  rw [Bool.eq_iff_iff, wset_bit, decide_eq_true_iff]
  exact ⟨fun h => h.2, fun h => ⟨List.mem_range.1 hb, h⟩⟩
theorem l9With_eq {bags links : List (List Int)} (hn : bags.length ≤ 16) (hr : ∀ x ∈ bags, x.length ≤ 1048576) (v : Nat) : F_spec_l9With bags links (v : Int) = some (ints (els (wset bags v bags.length))) := by
  unfold F_spec_l9With
  rw [wset_els hn]
  have key : lp (fun s => F_spec_l9With_l1 bags (v : Int) s.1 s.2) (([] : List Int), 0) = some (.inl (ints ((List.range bags.length).filter fun b => decide ((v : Int) ∈ bags.getD b [])))) := by
    refine lp_nums bags.length (fun k => ints ((List.range k).filter fun b => decide ((v : Int) ∈ bags.getD b []))) (fun k hk => ?_) ?_
    · simp only [F_spec_l9With_l1]
      have hbl := hr _ (List.getElem_mem hk)
      have hg : bags.getD k [] = bags[k] := by simp [hk]
      have hfl : ((List.range k).filter fun b => decide ((v : Int) ∈ bags.getD b [])).length ≤ k := Nat.le_trans (List.length_filter_le ..) (by simp)
      rw [if_pos (by omega), idx_nat hk, cal_of (l1Has_eq _ _ (by omega)), List.range_succ, List.filter_append]
      by_cases h : (v : Int) ∈ bags[k]
      · rw [if_pos (by simpa using h), app1_s (by rw [ints_len]; omega), ck_of (inI (by omega) (by omega)), show List.filter (fun b => decide ((v : Int) ∈ bags.getD b [])) [k] = [k] by rw [List.filter_cons, if_pos (by rw [hg]; simpa using h)]; rfl, ints_snoc]; rfl
      · rw [if_neg (by simpa using h), ck_of (inI (by omega) (by omega)), show List.filter (fun b => decide ((v : Int) ∈ bags.getD b [])) [k] = [] by rw [List.filter_cons, if_neg (by rw [hg]; simpa using h)]; rfl, List.append_nil]; rfl
    · simp only [F_spec_l9With_l1]
      rw [if_neg (by omega)]
  rw [bnd_l key]; rfl
theorem l1Copy_eq3 {l : List Int} (h : l.length ≤ 1048576) : F_spec_l1Copy l = some l := by
  unfold F_spec_l1Copy
  rw [app_s (by simp; omega)]; rfl
/-- put into a list: what is in it then -/
theorem l1Into_ex (l : List Int) (x : Int) (hl : l.length ≤ 1000000) : ∃ r, F_spec_l1Into l x = some r ∧ (∀ y, y ∈ r ↔ y ∈ l ∨ y = x) ∧ r.length ≤ l.length + 1 := by
  -- the first that is not less
  obtain ⟨o, h1, i, rfl, hi⟩ : ∃ o, lp (fun s => F_spec_l1Into_l1 l x s) 0 = some o ∧ ∃ i : Nat, o = .inl (i : Int) ∧ i ≤ l.length := by
    refine lp_rule (step := fun s => F_spec_l1Into_l1 l x s) (fun s => ∃ k : Nat, s = (k : Int) ∧ k ≤ l.length) (fun s => l.length - s.toNat) (fun o => ∃ i : Nat, o = .inl (i : Int) ∧ i ≤ l.length) ?_ 0 ⟨0, rfl, Nat.zero_le _⟩
    rintro s ⟨k, rfl, hk⟩
    simp only [F_spec_l1Into_l1]
    by_cases h : k < l.length
    · rw [if_pos (by omega), idx_nat h]
      by_cases h2 : l[k] < x
      · rw [if_pos h2, ck_of (inI (by omega) (by omega))]
        exact .inl ⟨_, rfl, ⟨k + 1, by omega, by omega⟩, by omega⟩
      · rw [if_neg h2]; exact .inr ⟨_, rfl, k, rfl, hk⟩
    · rw [if_neg (by omega)]; exact .inr ⟨_, rfl, k, rfl, hk⟩
  unfold F_spec_l1Into
  rw [bnd_l h1]
  unfold F_spec_l1Into_k2
  have hput : ∀ {β : Type} (q : List Int → Option β), slc l 0 (i : Int) (fun _ => cal (F_spec_l1Copy ((l.drop (0 : Int).toNat).take ((i : Int).toNat - (0 : Int).toNat))) (fun x95 => app x95 ([x]) (fun _ => slc l (i : Int) (l.length : Int) (fun _ =>
      app (x95 ++ ([x])) ((l.drop (i : Int).toNat).take (((l.length : Int) : Int).toNat - (i : Int).toNat)) (fun _ => q ((x95 ++ ([x])) ++ ((l.drop (i : Int).toNat).take (((l.length : Int) : Int).toNat - (i : Int).toNat)))))))) = q ((l.take i ++ [x]) ++ l.drop i) := by
    intro β q
    have e : (l.drop i).take (l.length - i) = l.drop i := List.take_of_length_le (by simp)
    rw [slc_of ⟨by decide, by omega, by omega⟩, show (0 : Int).toNat = 0 from rfl, List.drop_zero, Int.toNat_natCast, Nat.sub_zero, cal_of (l1Copy_eq3 (by rw [List.length_take]; omega)), app1_s (by rw [List.length_take]; omega), slc_of ⟨by omega, by omega, by omega⟩, Int.toNat_natCast, e, app_s (by simp; omega)]
  have hres : (∀ y, y ∈ (l.take i ++ [x]) ++ l.drop i ↔ y ∈ l ∨ y = x) ∧ ((l.take i ++ [x]) ++ l.drop i).length ≤ l.length + 1 := by
    refine ⟨fun y => ?_, by simp; omega⟩
    have e : y ∈ l ↔ y ∈ l.take i ∨ y ∈ l.drop i := by rw [← List.mem_append, List.take_append_drop]
    rw [e]
    simp only [List.mem_append, List.mem_singleton]
    constructor
    · rintro ((h | h) | h)
      · exact .inl (.inl h)
      · exact .inr h
      · exact .inl (.inr h)
    · rintro ((h | h) | h)
      · exact .inl (.inl h)
      · exact .inr h
      · exact .inl (.inr h)
  by_cases h : i < l.length
  · rw [if_pos (by omega), idx_nat h]
    by_cases h2 : l[i] = x
    · rw [if_pos h2]
      exact ⟨l, rfl, fun y => ⟨.inl, fun h => h.elim id fun e => by rw [e, ← h2]; exact List.getElem_mem _⟩, by omega⟩
    · rw [if_neg h2, hput]; exact ⟨_, rfl, hres⟩
  · rw [if_neg (by omega), hput]; exact ⟨_, rfl, hres⟩
theorem l9Near_ex {bags links : List (List Int)} {n : Nat} (hll : links.length ≤ 16) (h : LinksOk links n) (b : Nat) : ∃ r : List Int, F_spec_l9Near bags links (b : Int) = some r ∧ (∀ y, y ∈ r ↔ ∃ w : Nat, y = w ∧ Linked links b w) ∧ r.length ≤ 64 := by
  have := lp_ex (step := fun s => F_spec_l9Near_l1 links (b : Int) s.1 s.2) (fun (k : Nat) (r : List Int) => (r, (k : Int))) links.length
    (fun k r => (∀ y, y ∈ r ↔ ∃ w : Nat, y = w ∧ Linked (links.take k) b w) ∧ r.length ≤ 2 * k) (fun o => ∃ r : List Int, o = .inl r ∧ (∀ y, y ∈ r ↔ ∃ w : Nat, y = w ∧ Linked links b w) ∧ r.length ≤ 2 * links.length) ?_ ?_ links.length 0 [] (by omega) ⟨fun y => by simp [Linked], by simp⟩
  · obtain ⟨o, h1, r, rfl, h2, h3⟩ := this
    unfold F_spec_l9Near
    rw [show ((0 : Nat) : Int) = 0 from rfl] at h1
    rw [bnd_l h1]
    exact ⟨r, rfl, h2, by omega⟩
  · rintro k r hk ⟨h1, h2⟩
    simp only [F_spec_l9Near_l1]
    obtain ⟨x, y, e, hxy, hy⟩ := h.two (List.getElem_mem hk)
    have i0 : ∀ {β : Type} (q : Int → Option β), idx [(x : Int), (y : Int)] 0 q = q x := fun q => rfl
    have i1 : ∀ {β : Type} (q : Int → Option β), idx [(x : Int), (y : Int)] 1 q = q y := fun q => rfl
    have key : ∀ w, Linked (links.take (k + 1)) b w ↔ Linked (links.take k) b w ∨ (b = x ∧ w = y) ∨ (b = y ∧ w = x) := by
      intro w
      rw [take_succ_of hk, e]
      unfold Linked
      simp only [List.mem_append, List.mem_singleton, List.cons.injEq, and_true]
      constructor
      · rintro ((h | h) | (h | h))
        · exact .inl (.inl h)
        · exact .inr (.inl ⟨by omega, by omega⟩)
        · exact .inl (.inr h)
        · exact .inr (.inr ⟨by omega, by omega⟩)
      · rintro ((h | h) | h | h)
        · exact .inl (.inl h)
        · exact .inr (.inl h)
        · exact .inl (.inr ⟨by omega, by omega⟩)
        · exact .inr (.inr ⟨by omega, by omega⟩)
    obtain ⟨r1, e1, m1, l1⟩ := l1Into_ex r (y : Int) (by omega)
    obtain ⟨r2, e2, m2, l2⟩ := l1Into_ex r (x : Int) (by omega)
    rw [if_pos (by omega), idx_nat hk, e, i0]
    by_cases hx : x = b
    · have hyb : ¬ (y : Int) = (b : Int) := by omega
      rw [if_pos (by omega), idx_nat hk, e, i1, cal_of e1, bnd_inl_eq]
      unfold F_spec_l9Near_k2
      rw [idx_nat hk, e, i1, if_neg hyb, ck_of (inI (by omega) (by omega))]
      refine ⟨r1, rfl, fun z => ?_, by omega⟩
      rw [m1, h1]
      constructor
      · rintro (⟨w, hw, hl⟩ | hz)
        · exact ⟨w, hw, (key w).2 (.inl hl)⟩
        · exact ⟨y, hz, (key y).2 (.inr (.inl ⟨hx.symm, rfl⟩))⟩
      · rintro ⟨w, hw, hl⟩
        rcases (key w).1 hl with g | g | g
        · exact .inl ⟨w, hw, g⟩
        · exact .inr (by rw [hw, g.2])
        · omega
    · rw [if_neg (by omega), bnd_inl_eq]
      unfold F_spec_l9Near_k2
      rw [idx_nat hk, e, i1]
      by_cases hy2 : y = b
      · rw [if_pos (by omega), idx_nat hk, e, i0, cal_of e2, ck_of (inI (by omega) (by omega))]
        refine ⟨r2, rfl, fun z => ?_, by omega⟩
        rw [m2, h1]
        constructor
        · rintro (⟨w, hw, hl⟩ | hz)
          · exact ⟨w, hw, (key w).2 (.inl hl)⟩
          · exact ⟨x, hz, (key x).2 (.inr (.inr ⟨hy2.symm, rfl⟩))⟩
        · rintro ⟨w, hw, hl⟩
          rcases (key w).1 hl with g | g | g
          · exact .inl ⟨w, hw, g⟩
          · omega
          · exact .inr (by rw [hw, g.2])
      · rw [if_neg (by omega), ck_of (inI (by omega) (by omega))]
        refine ⟨r, rfl, fun z => ?_, by omega⟩
        rw [h1]
        constructor
        · rintro ⟨w, hw, hl⟩; exact ⟨w, hw, (key w).2 (.inl hl)⟩
        · rintro ⟨w, hw, hl⟩
          rcases (key w).1 hl with g | g | g
          · exact ⟨w, hw, g⟩
          · omega
          · omega
  · rintro r ⟨h1, h2⟩
    simp only [F_spec_l9Near_l1]
    rw [if_neg (by omega)]
    rw [List.take_length] at h1
    exact ⟨_, rfl, r, rfl, h1, h2⟩
theorem nodup_sub : ∀ {l m : List Int}, l.Nodup → (∀ x ∈ l, x ∈ m) → l.length ≤ m.length
  | [], m, _, _ => by simp
  | x :: l, m, hn, h => by
    have hx := h x (List.mem_cons_self ..)
    obtain ⟨h1, h2⟩ := List.nodup_cons.1 hn
    have h3 := nodup_sub (m := m.erase x) h2 (fun y hy => (List.mem_erase_of_ne (fun e => h1 (by rw [← e]; exact hy))).2 (h y (List.mem_cons_of_mem _ hy)))
    rw [List.length_erase_of_mem hx] at h3
    have := List.length_pos_of_mem hx
    rw [List.length_cons]; omega
theorem ints_nodup {l : List Nat} (h : l.Nodup) : (ints l).Nodup := by
  unfold ints
  exact List.pairwise_map.2 (h.imp fun hne e => hne (Int.ofNat.inj e))
theorem mem_ints {l : List Nat} {w : Nat} : (w : Int) ∈ ints l ↔ w ∈ l := by
  unfold ints
  rw [List.mem_map]
  exact ⟨fun ⟨u, hu, e⟩ => by rw [← Int.ofNat.inj e]; exact hu, fun h => ⟨w, h, rfl⟩⟩
theorem len_card {met : List Int} {R : Nat} (hR : R < 2 ^ 16) (hn : met.Nodup) (h : ∀ y, y ∈ met ↔ ∃ v : Nat, y = v ∧ R.testBit v = true) : met.length = card R := by
  have h1 := nodup_sub (m := ints (els R)) hn (fun y hy => by obtain ⟨v, rfl, hv⟩ := (h y).1 hy; exact mem_ints.2 ((mem_els hR).2 hv))
  have h2 := nodup_sub (l := ints (els R)) (m := met) (ints_nodup (els_nodup R)) (fun y hy => by
    unfold ints at hy
    obtain ⟨v, hv, rfl⟩ := List.mem_map.1 hy
    exact (h _).2 ⟨v, rfl, (mem_els hR).1 hv⟩)
  rw [ints_len] at h1 h2
  unfold card; omega
theorem l9Reached_eq {bags links : List (List Int)} {n : Nat} (hn : n ≤ 16) (hll : links.length ≤ 16) (h : LinksOk links n) {s : Nat} (hs : s < 2 ^ n) (h0 : s ≠ 0) : F_spec_l9Reached bags links (ints (els s)) = some (card (reach (lnets n links) s (low s)) : Int) := by
  have hp := pow16 hn
  have hs16 : s < 2 ^ 16 := by omega
  have hA := lnets_len h
  have hR16 := reach_lt (lnets n links) s (low s)
  have hRs := reach_in (a := lnets n links) hs16 (low_bit h0)
  have hRc := reach_closed (a := lnets n links) (v := low s) hs16
  have hRl := reach_low (a := lnets n links) h0 hs16
  have hiff := fun {u : Nat} (hu : u < n) (w : Nat) => lnets_iff h hu w
  have hleast : ∀ t, t < 2 ^ 16 → t.testBit (low s) = true → Shut (lnets n links) s t → SubB (reach (lnets n links) s (low s)) t := fun t a b c => reach_least a b c
  generalize lnets n links = A at *
  generalize hRd : reach A s (low s) = R at *
  have hRn : ∀ u, R.testBit u = true → u < n := fun u hu => bit_lt (Nat.lt_of_le_of_lt hRs.le hs) hu
  have hlen : ∀ met : List Int, met.Nodup → (∀ y ∈ met, ∃ v : Nat, y = v ∧ R.testBit v = true) → met.length ≤ 16 := fun met hnd hm => by
    have := nodup_sub (m := ints (els R)) hnd (fun y hy => by obtain ⟨v, rfl, hv⟩ := hm y hy; exact mem_ints.2 ((mem_els hR16).2 hv))
    rw [ints_len] at this
    have := els_len_le R; omega
  have hel := els_len_le s
  unfold F_spec_l9Reached
  have hcons := els_cons h0 hs16
  have hl0 : 0 < (els s).length := by rw [hcons]; simp
  have e0 : (els s)[0] = low s := by simp [hcons]
  rw [if_neg (by rw [ints_len]; omega), show (0 : Int) = ((0 : Nat) : Int) from rfl, idx_ints hl0, e0]
  obtain ⟨o, ho, met, rfl, hmet⟩ : ∃ o, lp (fun s' => F_spec_l9Reached_l1 bags links (ints (els s)) s'.1 s'.2) ([(low s : Int)], 0) = some o ∧ ∃ met : List Int, o = .inl met ∧ met.length = card R := by
    refine lp_rule (step := fun s' => F_spec_l9Reached_l1 bags links (ints (els s)) s'.1 s'.2)
      (fun s' => ∃ (met : List Int) (k : Nat), s' = (met, (k : Int)) ∧ k ≤ met.length ∧ met.Nodup ∧ (low s : Int) ∈ met ∧ (∀ y ∈ met, ∃ v : Nat, y = v ∧ R.testBit v = true) ∧ ∀ j (hj : j < met.length), j < k → ∀ w : Nat, Linked links met[j].toNat w → s.testBit w = true → (w : Int) ∈ met)
      (fun s' => 17 - s'.2.toNat) (fun o => ∃ met : List Int, o = .inl met ∧ met.length = card R) ?_ ([(low s : Int)], 0) ⟨[(low s : Int)], 0, rfl, Nat.zero_le _, by simp, by simp, fun y hy => ⟨low s, by simpa using hy, hRl⟩, fun j _ hj => by omega⟩
    rintro s' ⟨met, k, rfl, hk, hnd, hlow, hin, hdone⟩
    simp only [F_spec_l9Reached_l1]
    have hml := hlen met hnd hin
    by_cases hkl : k < met.length
    · obtain ⟨u, hu, hRu⟩ := hin _ (List.getElem_mem hkl)
      obtain ⟨near, hne, hnm, hnl⟩ := l9Near_ex (bags := bags) hll h u
      rw [if_pos (by omega), idx_nat hkl, hu, cal_of hne]
      have := lp_ex (step := fun s' => F_spec_l9Reached_l2 (ints (els s)) near s'.1 s'.2) (fun (q : Nat) (m : List Int) => (m, (q : Int))) near.length
        (fun q m => (∃ ext, m = met ++ ext) ∧ m.Nodup ∧ (∀ y ∈ m, ∃ v : Nat, y = v ∧ R.testBit v = true) ∧ ∀ p (hp : p < near.length), p < q → near[p] ∈ ints (els s) → near[p] ∈ m)
        (fun o => ∃ m : List Int, o = .inl m ∧ (∃ ext, m = met ++ ext) ∧ m.Nodup ∧ (∀ y ∈ m, ∃ v : Nat, y = v ∧ R.testBit v = true) ∧ ∀ y ∈ near, y ∈ ints (els s) → y ∈ m) ?_ ?_ near.length 0 met (by omega) ⟨⟨[], by simp⟩, hnd, hin, fun p _ hp => by omega⟩
      · obtain ⟨o, h1, m, rfl, ⟨ext, hext⟩, m2, m3, m4⟩ := this
        rw [show ((0 : Nat) : Int) = 0 from rfl] at h1
        rw [bnd_l h1]
        unfold F_spec_l9Reached_k3
        rw [ck_of (inI (by omega) (by omega))]
        refine .inl ⟨_, rfl, ⟨m, k + 1, by simp, by rw [hext, List.length_append]; omega, m2, by rw [hext]; exact List.mem_append_left _ hlow, m3, fun j hj hjk w hw hsw => ?_⟩, ?_⟩
        · by_cases hjk2 : j < k
          · have e1 : m[j] = met[j]'(by omega) := by simp only [hext]; exact List.getElem_append_left (by omega)
            rw [e1] at hw
            rw [hext]; exact List.mem_append_left _ (hdone j (by omega) hjk2 w hw hsw)
          · have e2 : j = k := by omega
            subst e2
            have e1 : m[j] = met[j] := by simp only [hext]; exact List.getElem_append_left hkl
            rw [e1, hu, Int.toNat_natCast] at hw
            exact m4 _ ((hnm _).2 ⟨w, rfl, hw⟩) (mem_ints.2 ((mem_els hs16).2 hsw))
        · show 17 - ((k : Int) + 1).toNat < 17 - ((k : Int)).toNat
          omega
      · rintro q m hq ⟨⟨ext, hext⟩, m2, m3, m4⟩
        simp only [F_spec_l9Reached_l2]
        have hml2 := hlen m m2 m3
        rw [if_pos (by omega), idx_nat hq, cal_of (l1Has_eq _ _ (by rw [ints_len]; omega))]
        by_cases g1 : near[q] ∈ ints (els s)
        · rw [if_pos (by simpa using g1), idx_nat hq, cal_of (l1Has_eq _ _ (by omega))]
          by_cases g2 : near[q] ∈ m
          · rw [if_neg (by simpa using g2), ck_of (inI (by omega) (by omega))]
            refine ⟨m, rfl, ⟨ext, hext⟩, m2, m3, fun p hp hpq hy => ?_⟩
            by_cases e : p = q
            · subst e; exact g2
            · exact m4 p hp (by omega) hy
          · rw [if_pos (by simpa using g2), idx_nat hq, app1_s (by omega), ck_of (inI (by omega) (by omega))]
            refine ⟨m ++ [near[q]], rfl, ⟨ext ++ [near[q]], by rw [hext, List.append_assoc]⟩, ?_, fun y hy => ?_, fun p hp hpq hy => ?_⟩
            · rw [List.nodup_append]
              exact ⟨m2, by simp, fun a ha b hb e => g2 (by rw [List.mem_singleton] at hb; rw [← hb, ← e]; exact ha)⟩
            · rcases List.mem_append.1 hy with g | g
              · exact m3 y g
              · rw [List.mem_singleton] at g
                obtain ⟨w, hw, hl⟩ := (hnm _).1 (List.getElem_mem hq)
                refine ⟨w, by rw [g, hw], hRc u hRu w ?_⟩
                rw [Nat.testBit_and, (hiff (hRn u hRu) w).2 hl, Bool.true_and]
                rw [hw] at g1
                exact (mem_els hs16).1 (mem_ints.1 g1)
            · by_cases e : p = q
              · subst e; simp
              · exact List.mem_append_left _ (m4 p hp (by omega) hy)
        · rw [if_neg (by simpa using g1), ck_of (inI (by omega) (by omega))]
          refine ⟨m, rfl, ⟨ext, hext⟩, m2, m3, fun p hp hpq hy => ?_⟩
          by_cases e : p = q
          · subst e; exact absurd hy g1
          · exact m4 p hp (by omega) hy
      · rintro m ⟨m1, m2, m3, m4⟩
        simp only [F_spec_l9Reached_l2]
        rw [if_neg (by omega)]
        exact ⟨_, rfl, m, rfl, m1, m2, m3, fun y hy hys => by obtain ⟨p, hp, rfl⟩ := List.getElem_of_mem hy; exact m4 p hp hp hys⟩
    · rw [if_neg (by omega)]
      refine .inr ⟨_, rfl, met, rfl, len_card hR16 hnd fun y => ⟨hin y, ?_⟩⟩
      rintro ⟨v, rfl, hv⟩
      have hmn : ∀ x ∈ met, 0 ≤ x := fun x hx => by obtain ⟨v, rfl, _⟩ := hin x hx; omega
      have hT : mk met < 2 ^ 16 := mk_lt fun x hx => by
        obtain ⟨v, rfl, hv⟩ := hin x hx
        have := bit_lt hR16 hv; omega
      have := hleast (mk met) hT (by rw [mk_mem hmn]; simpa using hlow) (fun u hu w hw => by
        rw [mk_mem hmn, decide_eq_true_iff] at hu ⊢
        rw [Nat.testBit_and, Bool.and_eq_true] at hw
        obtain ⟨j, hj, e⟩ := List.getElem_of_mem hu
        obtain ⟨v, hv1, hv2⟩ := hin _ hu
        have hun : u < n := hRn u (by rw [Int.ofNat.inj hv1]; exact hv2)
        exact hdone j hj (by omega) w (by rw [e, Int.toNat_natCast]; exact (hiff hun w).1 hw.1) hw.2) v hv
      rwa [mk_mem hmn, decide_eq_true_iff] at this
  rw [show ((0 : Nat) : Int) = 0 from rfl, bnd_l ho]
  unfold F_spec_l9Reached_k4
  rw [hmet]
theorem l9Reached_nil {bags links : List (List Int)} : F_spec_l9Reached bags links [] = some 0 := by
  unfold F_spec_l9Reached; rw [if_pos (by simp)]
/-- as many of a set as it has: the set -/
theorem card_eq_iff {s t : Nat} (ht : t < 2 ^ 16) (h : SubB s t) : card s = card t ↔ s = t := by
  refine ⟨fun e => SubB.antisymm h fun j hj => ?_, fun e => by rw [e]⟩
  cases e2 : s.testBit j with
  | true => rfl
  | false =>
    have h1 := card_del hj ht
    have h2 : card s ≤ card (sdiff t (2 ^ j)) := card_mono fun i hi => by
      rw [delbit_bit, h i hi, Bool.true_and, Bool.not_eq_true', decide_eq_false_iff_not]
      intro e3; rw [← e3, e2] at hi; cases hi
    omega
end Go.Proofs.YtadagcgehcpelaaDoor
