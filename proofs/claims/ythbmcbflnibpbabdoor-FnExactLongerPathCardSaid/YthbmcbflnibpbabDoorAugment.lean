/- Who is matched by whom; no matching within a set is greater than its table says; a path that lengthens one says that a greater one is. -/
import Derived.Test.YthbmcbflnibpbabDoorSwitch
import Derived.Test.YthbmcbflnibpbabDoorMost
namespace Go.Proofs.YthbmcbflnibpbabDoor
theorem bit_nn {a b : Nat} (h : ∀ j, a.testBit j = b.testBit j) : a = b := bits_ext h
/-- f tells of each of S nobody, or a neighbour in S of which it tells the same -/
def Inv (a : List Nat) (f : Nat → Int) (S : Nat) : Prop := ∀ u, S.testBit u = true → f u = -1 ∨ ∃ w : Nat, f u = w ∧ S.testBit w = true ∧ w ≠ u ∧ (a.getD u 0).testBit w = true ∧ f w = u
theorem inv_bound {a : List Nat} {f : Nat → Int} {T n : Nat} (hn : n ≤ 16) (hT : ∀ u, u < n → (T.testBit u = true ↔ f u ≠ -1)) : ∀ S, S < 2 ^ n → Inv a f S → (card (S &&& T) : Int) ≤ 2 * mst a S := by
  intro S
  induction S using Nat.strongRecOn with
  | _ S ih =>
    intro hSn hi
    have hS : S < 2 ^ 16 := Nat.lt_of_lt_of_le hSn (pow16 hn)
    by_cases h0 : S = 0
    · subst h0; rw [Nat.zero_and, card_zero, mst_zero]; decide
    have hr := less_rest h0
    have hlb := low_bit h0
    have hl16 : low S < n := low_lt h0 hSn
    rcases hi (low S) hlb with hv | ⟨w, hw, hwS, hwv, hadj, hwb⟩
    · have e : S &&& T = sdiff S (2 ^ low S) &&& T := by
        apply bits_ext; intro j
        rw [Nat.testBit_and, Nat.testBit_and, sdiff_bit, Nat.testBit_two_pow]
        by_cases hj : low S = j
        · have : T.testBit (low S) = false := by
            cases e : T.testBit (low S) with
            | false => rfl
            | true => exact absurd hv ((hT _ hl16).1 e)
          subst hj; rw [this]; simp
        · simp [hj]
      have h1 := ih _ hr (by omega) (fun u hu => by
        rw [sdiff_bit, Nat.testBit_two_pow, Bool.and_eq_true] at hu
        rcases hi u hu.1 with h | ⟨w, hw, hwS, hwu, hadj, hwb⟩
        · exact .inl h
        · refine .inr ⟨w, hw, ?_, hwu, hadj, hwb⟩
          have : low S ≠ w := fun e => by rw [← e, hv] at hwb; omega
          rw [sdiff_bit, Nat.testBit_two_pow, hwS]; simp [this])
      rw [e]
      have := mst_rest (a := a) h0
      omega
    · have hwr : (sdiff S (2 ^ low S)).testBit w = true := by rw [sdiff_bit, Nat.testBit_two_pow, hwS]; simp [Ne.symm hwv]
      have hw16 : w < n := bit_lt hSn hwS
      have hmem : w ∈ mates a S := by
        unfold mates
        rw [mem_els (Nat.lt_of_le_of_lt Nat.and_le_right (by omega)), Nat.testBit_and, hadj, hwr]; rfl
      have hS2 := sdiff_le (sdiff S (2 ^ low S)) (2 ^ w)
      have h1 := ih (sdiff (sdiff S (2 ^ low S)) (2 ^ w)) (by omega) (by omega) (fun u hu => by
        rw [sdiff_bit, sdiff_bit, Nat.testBit_two_pow, Nat.testBit_two_pow, Bool.and_eq_true, Bool.and_eq_true] at hu
        have n1 : low S ≠ u := by simpa using hu.1.2
        have n2 : w ≠ u := by simpa using hu.2
        rcases hi u hu.1.1 with h | ⟨x, hx, hxS, hxu, hadj, hxb⟩
        · exact .inl h
        · refine .inr ⟨x, hx, ?_, hxu, hadj, hxb⟩
          have m1 : low S ≠ x := fun e => by rw [← e, hw] at hxb; omega
          have m2 : w ≠ x := fun e => by rw [← e, hwb] at hxb; omega
          rw [sdiff_bit, sdiff_bit, Nat.testBit_two_pow, Nat.testBit_two_pow, hxS]; simp [m1, m2])
      have e : sdiff (sdiff (S &&& T) (2 ^ low S)) (2 ^ w) = sdiff (sdiff S (2 ^ low S)) (2 ^ w) &&& T := by
        apply bits_ext; intro j
        simp only [sdiff_bit, Nat.testBit_and]
        cases S.testBit j <;> cases T.testBit j <;> cases (2 ^ low S).testBit j <;> cases (2 ^ w).testBit j <;> rfl
      have hvT : T.testBit (low S) = true := (hT _ hl16).2 (by rw [hw]; omega)
      have hwT : T.testBit w = true := (hT _ hw16).2 (by rw [hwb]; omega)
      have c1 := card_del (s := S &&& T) (u := low S) (by rw [Nat.testBit_and, hlb, hvT]; rfl) (and_lt hS)
      have c2 := card_del (s := sdiff (S &&& T) (2 ^ low S)) (u := w) (by rw [sdiff_bit, Nat.testBit_and, hwS, hwT, Nat.testBit_two_pow]; simp [Ne.symm hwv]) (Nat.lt_of_le_of_lt (sdiff_le _ _) (and_lt hS))
      rw [e] at c2
      have := mst_mate (a := a) h0 hmem
      omega
theorem card_mk (l : List Int) (h : ∀ x ∈ l, 0 ≤ x ∧ x < 16) (hn : l.Nodup) : card (mk l) = l.length := by
  have key : ∀ k, k ≤ l.length → card (mk (l.take k)) = k := by
    intro k
    induction k with
    | zero => intro _; rw [List.take_zero]; exact card_zero
    | succ k ih =>
      intro hk
      have hk1 : k < l.length := by omega
      have hx := h _ (List.getElem_mem hk1)
      have hl : ∀ y ∈ l.take k, 0 ≤ y ∧ y < 16 := fun y hy => h y (List.mem_of_mem_take hy)
      have hnx : l[k] ∉ l.take k := nodup_take.1 hn k hk1
      have hl1 : ∀ y ∈ l.take (k + 1), 0 ≤ y ∧ y < 16 := fun y hy => h y (List.mem_of_mem_take hy)
      have hlt : mk (l.take (k + 1)) < 2 ^ 16 := mk_lt hl1
      obtain ⟨v, hv⟩ := Int.eq_ofNat_of_zero_le hx.1
      have e1 : l.take (k + 1) = l.take k ++ [(v : Int)] := by rw [take_succ_of hk1, hv]
      have c := card_del (s := mk (l.take (k + 1))) (u := v) (by rw [mk_mem (fun y hy => (hl1 y hy).1), e1]; simp) hlt
      have e : sdiff (mk (l.take (k + 1))) (2 ^ v) = mk (l.take k) := by
        apply bits_ext; intro j
        rw [sdiff_bit, Nat.testBit_two_pow, mk_mem (fun y hy => (hl1 y hy).1), mk_mem (fun y hy => (hl y hy).1), e1]
        by_cases e : v = j
        · subst e; rw [hv] at hnx; simp [hnx]
        · have : ¬ (j : Int) = (v : Int) := by omega
          simp [e, this]
      rw [e, ih (by omega)] at c
      exact c
  have := key l.length (Nat.le_refl _)
  rwa [List.take_length] at this
/-- more of the mates: they are neighbours, and all of F have one -/
structure Mt2 (g : List (List Int)) (M : List Int) (F : List Int) : Prop where
  adj : ∀ u : Nat, u < g.length → ∀ w : Nat, M.getD u 0 = w → (w : Int) ∈ g.getD u []
  full : ∀ u : Nat, u < g.length → (u : Int) ∈ F → M.getD u 0 ≠ -1
  nd : F.Nodup
theorem mates_inv2 {g : List (List Int)} (hg : GOk g) {es : List (List Int)} (hm : IsMatch g es) : ∀ k, k ≤ es.length → Mt2 g (matesTo g.length es k) (es.take k).flatten
  | 0, _ => ⟨fun u hu w h => by simp [matesTo, hu] at h, fun u hu h => by simp at h, by simp⟩
  | k + 1, hk => by
    have hk1 : k < es.length := by omega
    have ih := mates_inv2 hg hm k (by omega)
    have ih1 := mates_inv hg hm k (by omega)
    obtain ⟨h1, h2, h3, _⟩ := hm k hk1
    rw [show es.getD k [] = es[k] by simp [hk1]] at h1 h2 h3
    obtain ⟨x, y, e, hxy, hx, hy⟩ := h1.two
    have hyn := edge_lt hg hy
    have hyx := (edge_sym hg hx hyn).1 hy
    rw [e] at h2 h3
    simp only [List.getD_cons_zero, List.getD_cons_succ] at h2 h3
    have e2 : matesTo g.length es (k + 1) = pair (matesTo g.length es k) [(x : Int), (y : Int)] := by unfold matesTo; rw [take_succ_of hk1, List.foldl_append, e]; rfl
    rw [e2, take_succ_of hk1, List.flatten_append, e]
    have : [[(x : Int), (y : Int)]].flatten = [(x : Int), (y : Int)] := by simp
    rw [this]
    refine ⟨fun u hu w h => ?_, fun u hu h => ?_, ?_⟩
    · rw [pair_get ih1.len hx hyn hu] at h
      by_cases e1 : u = y
      · rw [if_pos e1] at h
        subst e1
        obtain rfl : x = w := by omega
        rw [show g.getD u [] = g[u] by simp [hu]]; exact hyx
      · rw [if_neg e1] at h
        by_cases e3 : u = x
        · rw [if_pos e3] at h
          subst e3
          obtain rfl : y = w := by omega
          rw [show g.getD u [] = g[u] by simp [hu]]; exact hy
        · rw [if_neg e3] at h
          exact ih.adj u hu w h
    · rw [pair_get ih1.len hx hyn hu]
      by_cases e1 : u = y
      · rw [if_pos e1]; omega
      · rw [if_neg e1]
        by_cases e3 : u = x
        · rw [if_pos e3]; omega
        · rw [if_neg e3]
          refine ih.full u hu ?_
          rcases List.mem_append.1 h with h | h
          · exact h
          · simp at h; omega
    · rw [List.nodup_append]
      refine ⟨ih.nd, by simp; omega, fun a ha b hb eq => ?_⟩
      subst eq
      simp at hb
      rcases hb with rfl | rfl
      · exact h2 ha
      · exact h3 ha
section
variable {g : List (List Int)} {es : List (List Int)}
theorem flat_all (hm : IsMatch g es) : es.flatten.length = 2 * es.length := by
  have := flat_len es.length (Nat.le_refl _) (fun j hj => hm j hj)
  rwa [List.take_length] at this
theorem flat_in (hg : GOk g) (hm : IsMatch g es) : ∀ v ∈ es.flatten, 0 ≤ v ∧ v < g.length := by
  have := flat_mem hg (Nat.le_refl _) (fun j hj => hm j hj) (es := es)
  rwa [List.take_length] at this
theorem mt_all (hg : GOk g) (hm : IsMatch g es) : Mt g.length (matesOf g.length es) es.flatten := by
  have := mates_inv hg hm es.length (Nat.le_refl _)
  rwa [matesOf_eq, List.take_length] at this
theorem mt2_all (hg : GOk g) (hm : IsMatch g es) : Mt2 g (matesOf g.length es) es.flatten := by
  have := mates_inv2 hg hm es.length (Nat.le_refl _)
  rwa [matesOf_eq, List.take_length] at this
theorem nb_adj (hg : GOk g) {u w : Nat} (hu : u < g.length) : ((nb g).getD u 0).testBit w = decide ((w : Int) ∈ g.getD u []) := by
  rw [nb_getD hu, mk_mem (fun x hx => (hg.row_mem hu hx).1), show g.getD u [] = g[u] by simp [hu]]
/-- the mates along a path taken anew -/
def swF (M p : List Int) (u : Nat) : Int := if (u : Int) ∈ p then (if p.idxOf (u : Int) % 2 = 0 then p.getD (p.idxOf (u : Int) + 1) 0 else p.getD (p.idxOf (u : Int) - 1) 0) else M.getD u 0
theorem idxOf_get {p : List Int} (hn : p.Nodup) {i : Nat} (hi : i < p.length) : p.idxOf p[i] = i := by
  have h1 : p.idxOf p[i] < p.length := List.idxOf_lt_length_of_mem (List.getElem_mem hi)
  have h2 : p[p.idxOf p[i]] = p[i] := List.getElem_idxOf h1
  rcases Nat.lt_trichotomy (p.idxOf p[i]) i with h | h | h
  · exact absurd h2 (List.pairwise_iff_getElem.1 hn _ _ h1 hi h)
  · exact h
  · exact absurd h2.symm (List.pairwise_iff_getElem.1 hn _ _ hi h1 h)
theorem aug_more (hg : GOk g) (hm : IsMatch g es) {p : List Int} (ha : Aug g (matesOf g.length es) p) : (es.length : Int) + 1 ≤ mst (nb g) (2 ^ g.length - 1) := by
  have hM := mt_all hg hm
  have hM2 := mt2_all hg hm
  have h16 := hg.n16
  have hp16 : 2 ^ g.length ≤ 2 ^ 16 := pow16 h16
  have hp0 : 0 < 2 ^ g.length := Nat.two_pow_pos _
  have ha0 := ha
  obtain ⟨h2, hev, hp, -⟩ := ha0
  have hat := (aug_iff hM h2 hev hp).1 ha
  have hnd := hp.nodup
  generalize matesOf g.length es = M at hM hM2 hat
  have hin : ∀ i (hi : i < p.length), ∃ v : Nat, p[i] = (v : Int) ∧ v < g.length ∧ p.getD i 0 = (v : Int) := fun i hi => by
    have := hp.mem hi
    obtain ⟨v, hv⟩ := Int.eq_ofNat_of_zero_le this.1
    exact ⟨v, hv, by omega, by rw [getD_at hi, hv]⟩
  -- what stands beside what
  have hadj : ∀ i, i + 1 < p.length → p.getD i 0 ∈ g.getD (p.getD (i + 1) 0).toNat [] := fun i hi => by
    have := (hp (i + 1) hi).2.2 (by omega)
    simpa using this
  have hends : ∀ i (hi : i < p.length), (M.getD (p.getD i 0).toNat 0 = -1 ↔ i = 0 ∨ i = p.length - 1) := fun i hi => by
    have h := hat i hi
    unfold AugAt at h
    split at h
    · rename_i e; exact ⟨fun _ => .inl e, fun _ => h⟩
    · split at h
      · rename_i e; exact ⟨fun _ => .inr e, fun _ => h⟩
      · rename_i e1 e2
        refine ⟨fun hh => ?_, fun hh => by omega⟩
        split at h
        · obtain ⟨v, _, _, hv⟩ := hin (i + 1) (by omega)
          rw [hh, hv] at h; omega
        · obtain ⟨v, _, _, hv⟩ := hin (i - 1) (by omega)
          rw [hh, hv] at h; omega
  have hmem : ∀ u : Nat, (u : Int) ∈ p → ∃ i, ∃ hi : i < p.length, p[i] = (u : Int) ∧ p.idxOf (u : Int) = i := fun u hu => by
    obtain ⟨i, hi, e⟩ := List.getElem_of_mem hu
    exact ⟨i, hi, e, by rw [← e]; exact idxOf_get hnd hi⟩
  have hsw : ∀ i (hi : i < p.length) (u : Nat), p[i] = (u : Int) → swF M p u = if i % 2 = 0 then p.getD (i + 1) 0 else p.getD (i - 1) 0 := fun i hi u e => by
    unfold swF
    rw [if_pos (by rw [← e]; exact List.getElem_mem hi), show p.idxOf (u : Int) = i by rw [← e]; exact idxOf_get hnd hi]
  have hT : ∀ u, u < g.length → ((mk (es.flatten ++ [p.getD 0 0, p.getD (p.length - 1) 0])).testBit u = true ↔ swF M p u ≠ -1) := fun u hu => by
    obtain ⟨a0, e0, l0, d0⟩ := hin 0 (by omega)
    obtain ⟨a1, e1, l1, d1⟩ := hin (p.length - 1) (by omega)
    rw [mk_mem (fun x hx => by
      rcases List.mem_append.1 hx with h | h
      · exact (flat_in hg hm x h).1
      · rw [d0, d1] at h; simp only [List.mem_cons, List.not_mem_nil, or_false] at h; omega), decide_eq_true_eq, d0, d1]
    by_cases hup : (u : Int) ∈ p
    · obtain ⟨i, hi, e, _⟩ := hmem u hup
      have hne : swF M p u ≠ -1 := by
        rw [hsw i hi u e]
        split
        · obtain ⟨v, _, _, hv⟩ := hin (i + 1) (by omega)
          rw [hv]; omega
        · obtain ⟨v, _, _, hv⟩ := hin (i - 1) (by omega)
          rw [hv]; omega
      refine ⟨fun _ => hne, fun _ => ?_⟩
      by_cases hI : i = 0 ∨ i = p.length - 1
      · rcases hI with rfl | rfl
        · exact List.mem_append_right _ (by rw [← e0, e]; simp)
        · exact List.mem_append_right _ (by rw [← e1, e]; simp)
      · refine List.mem_append_left _ (Classical.byContradiction fun hf => hI ?_)
        have hun : u < g.length := by have := hp.mem hi; rw [e] at this; omega
        have := hM.free u hun hf
        refine (hends i hi).1 ?_
        rw [getD_at hi, e, Int.toNat_natCast]; exact this
    · unfold swF
      rw [if_neg hup]
      constructor
      · intro h
        rcases List.mem_append.1 h with h | h
        · have := flat_in hg hm _ h
          exact hM2.full u (by omega) h
        · simp only [List.mem_cons, List.not_mem_nil, or_false] at h
          rcases h with h | h
          · exact absurd (by rw [h, ← e0]; exact List.getElem_mem _) hup
          · exact absurd (by rw [h, ← e1]; exact List.getElem_mem _) hup
      · intro h
        refine List.mem_append_left _ (Classical.byContradiction fun hf => h ?_)
        exact hM.free u hu hf
  have hI : Inv (nb g) (swF M p) (2 ^ g.length - 1) := fun u hu => by
    rw [Nat.testBit_two_pow_sub_one, decide_eq_true_eq] at hu
    by_cases hup : (u : Int) ∈ p
    · obtain ⟨i, hi, e, _⟩ := hmem u hup
      have hd : p.getD i 0 = (u : Int) := by rw [getD_at hi, e]
      have step : ∀ k (hk : k < p.length) (w : Nat), p[k] = (w : Int) → swF M p u = (w : Int) → (i % 2 = 0 ∧ k = i + 1 ∨ i % 2 = 1 ∧ i = k + 1) → swF M p u = -1 ∨ ∃ w : Nat, swF M p u = w ∧ (2 ^ g.length - 1).testBit w = true ∧ w ≠ u ∧ ((nb g).getD u 0).testBit w = true ∧ swF M p w = u := by
        intro k hk w ew hs hik
        have hwn : w < g.length := by have := hp.mem hk; rw [ew] at this; omega
        have hne : w ≠ u := fun h => by
          have := hp.ne hk hi (by omega)
          rw [ew, e, h] at this; exact this rfl
        have hdk : p.getD k 0 = (w : Int) := by rw [getD_at hk, ew]
        refine .inr ⟨w, hs, by rw [Nat.testBit_two_pow_sub_one, decide_eq_true hwn], hne, ?_, ?_⟩
        · rw [nb_adj hg hu, decide_eq_true_eq, show g.getD u [] = g[u] by simp [hu]]
          rcases hik with ⟨_, rfl⟩ | ⟨_, rfl⟩
          · have := hadj i hk
            rw [hd, hdk, Int.toNat_natCast, show g.getD w [] = g[w] by simp [hwn]] at this
            exact (edge_sym hg hwn hu).1 this
          · have := hadj k hi
            rw [hd, hdk, Int.toNat_natCast, show g.getD u [] = g[u] by simp [hu]] at this
            exact this
        · rw [hsw k hk w ew]
          rcases hik with ⟨h0, rfl⟩ | ⟨h1, rfl⟩
          · rw [if_neg (by omega), show i + 1 - 1 = i by omega, hd]
          · rw [if_pos (by omega), hd]
      by_cases h0 : i % 2 = 0
      · obtain ⟨w, ew, _, dw⟩ := hin (i + 1) (by omega)
        exact step (i + 1) (by omega) w ew (by rw [hsw i hi u e, if_pos h0, dw]) (.inl ⟨h0, rfl⟩)
      · obtain ⟨w, ew, _, dw⟩ := hin (i - 1) (by omega)
        exact step (i - 1) (by omega) w ew (by rw [hsw i hi u e, if_neg h0, dw]) (.inr ⟨by omega, by omega⟩)
    · have hu1 : swF M p u = M.getD u 0 := by unfold swF; rw [if_neg hup]
      rw [hu1]
      rcases hM.mate u hu with h | ⟨w, hw, h1, h3⟩
      · exact .inl h
      · have ha := hM2.adj u hu w h1
        have hne : w ≠ u := fun e => by
          subst e
          rw [show g.getD w [] = g[w] by simp [hw]] at ha
          exact (hg.rows w hw).2 ha
        have hwp : (w : Int) ∉ p := fun hwp => by
          obtain ⟨i, hi, e, _⟩ := hmem w hwp
          have hd : p.getD i 0 = (w : Int) := by rw [getD_at hi, e]
          have h := hat i hi
          unfold AugAt at h
          rw [hd, Int.toNat_natCast, h3] at h
          split at h
          · omega
          · split at h
            · omega
            · split at h
              · rw [getD_at (show i + 1 < p.length by omega)] at h
                exact hup (by rw [h]; exact List.getElem_mem _)
              · rw [getD_at (show i - 1 < p.length by omega)] at h
                exact hup (by rw [h]; exact List.getElem_mem _)
        exact .inr ⟨w, h1, by rw [Nat.testBit_two_pow_sub_one, decide_eq_true hw], hne, by rw [nb_adj hg hu, decide_eq_true ha], by unfold swF; rw [if_neg hwp]; exact h3⟩
  have hb := inv_bound (a := nb g) h16 hT (2 ^ g.length - 1) (by omega) hI
  obtain ⟨a0, e0, l0, d0⟩ := hin 0 (by omega)
  obtain ⟨a1, e1, l1, d1⟩ := hin (p.length - 1) (by omega)
  have hne01 : a0 ≠ a1 := fun h => by
    have := hp.ne (j := 0) (k := p.length - 1) (by omega) (by omega) (by omega)
    rw [e0, e1, h] at this; exact this rfl
  have hall : ∀ x ∈ es.flatten ++ [(a0 : Int), (a1 : Int)], 0 ≤ x ∧ x < g.length := fun x hx => by
    rcases List.mem_append.1 hx with h | h
    · exact flat_in hg hm x h
    · simp at h; omega
  have hf0 : (a0 : Int) ∉ es.flatten := fun h => hM2.full a0 l0 h (by
    have := (hends 0 (by omega)).2 (.inl rfl)
    rwa [d0, Int.toNat_natCast] at this)
  have hf1 : (a1 : Int) ∉ es.flatten := fun h => hM2.full a1 l1 h (by
    have := (hends (p.length - 1) (by omega)).2 (.inr rfl)
    rwa [d1, Int.toNat_natCast] at this)
  have hndall : (es.flatten ++ [(a0 : Int), (a1 : Int)]).Nodup := by
    rw [List.nodup_append]
    refine ⟨hM2.nd, by simp; omega, fun x hx y hy e => ?_⟩
    subst e
    simp at hy
    rcases hy with rfl | rfl
    · exact hf0 hx
    · exact hf1 hx
  rw [d0, d1] at hb
  have e : (2 ^ g.length - 1) &&& mk (es.flatten ++ [(a0 : Int), (a1 : Int)]) = mk (es.flatten ++ [(a0 : Int), (a1 : Int)]) := by
    apply bits_ext; intro j
    rw [Nat.testBit_and, Nat.testBit_two_pow_sub_one]
    by_cases hj : j < g.length
    · simp [hj]
    · have : (mk (es.flatten ++ [(a0 : Int), (a1 : Int)])).testBit j = false := by
        rw [mk_mem (fun x hx => (hall x hx).1), decide_eq_false_iff_not]
        intro h; have := hall _ h; omega
      rw [this]; simp
  rw [e, card_mk _ (fun x hx => by have := hall x hx; omega) hndall, List.length_append, flat_all hm] at hb
  simp at hb
  omega
end
end Go.Proofs.YthbmcbflnibpbabDoor
