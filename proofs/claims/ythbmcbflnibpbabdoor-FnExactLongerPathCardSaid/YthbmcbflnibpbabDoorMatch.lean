/- Matchings: which lists of edges are one. -/
import Derived.Test.YthbmcbflnibpbabDoorBitF
import Derived.Test.YthbmcbflnibpbabDoorSetF
namespace Go.Proofs.YthbmcbflnibpbabDoor
/-- of a good graph: an edge, its lesser end first -/
def EdgeOk (g : List (List Int)) (e : List Int) : Prop := e.length = 2 ∧ e.getD 0 0 < e.getD 1 0 ∧ 0 ≤ e.getD 0 0 ∧ e.getD 0 0 < g.length ∧ e.getD 1 0 ∈ g.getD (e.getD 0 0).toNat []
theorem EdgeOk.two {g : List (List Int)} {e : List Int} (h : EdgeOk g e) : ∃ x y : Nat, e = [(x : Int), (y : Int)] ∧ x < y ∧ ∃ hx : x < g.length, (y : Int) ∈ g[x] := by
  obtain ⟨h1, h2, h3, h4, h5⟩ := h
  match e, h1 with
  | [a, b], _ =>
    simp only [List.getD_cons_zero, List.getD_cons_succ] at h2 h3 h4 h5
    obtain ⟨x, rfl⟩ := Int.eq_ofNat_of_zero_le h3
    obtain ⟨y, rfl⟩ := Int.eq_ofNat_of_zero_le (by omega : 0 ≤ b)
    have hx : x < g.length := by omega
    refine ⟨x, y, rfl, by omega, hx, ?_⟩
    simpa [hx] using h5
theorem edge_lt {g : List (List Int)} (hg : GOk g) {x y : Nat} {hx : x < g.length} (h : (y : Int) ∈ g[x]) : y < g.length := by have := hg.row_mem hx h; omega
/-- what is asked of edge i -/
def MatchAt (g : List (List Int)) (es : List (List Int)) (i : Nat) : Prop :=
  EdgeOk g (es.getD i []) ∧ (es.getD i []).getD 0 0 ∉ (es.take i).flatten ∧ (es.getD i []).getD 1 0 ∉ (es.take i).flatten ∧ (0 < i → (es.getD (i - 1) []).getD 0 0 < (es.getD i []).getD 0 0)
def IsMatch (g : List (List Int)) (es : List (List Int)) : Prop := ∀ i, i < es.length → MatchAt g es i
theorem flat_len {g : List (List Int)} {es : List (List Int)} : ∀ k, k ≤ es.length → (∀ j, j < k → MatchAt g es j) → (es.take k).flatten.length = 2 * k
  | 0, _, _ => by simp
  | k + 1, hk, h => by
    have h1 := (h k (by omega)).1.1
    have e : es.getD k [] = es[k] := by simp [show k < es.length by omega]
    rw [e] at h1
    rw [take_succ_of (by omega), List.flatten_append, List.length_append, flat_len k (by omega) (fun j hj => h j (by omega))]
    simp [h1]; omega
theorem flat_mem {g : List (List Int)} (hg : GOk g) {es : List (List Int)} {k : Nat} (hk : k ≤ es.length) (h : ∀ j, j < k → MatchAt g es j) : ∀ v ∈ (es.take k).flatten, 0 ≤ v ∧ v < g.length := by
  intro v hv
  rw [List.mem_flatten] at hv
  obtain ⟨e, he, hv⟩ := hv
  rw [List.mem_take_iff_getElem] at he
  obtain ⟨j, hj, rfl⟩ := he
  have h1 := (h j (by omega)).1
  rw [show es.getD j [] = es[j] by simp [show j < es.length by omega]] at h1
  obtain ⟨x, y, e, hxy, hx, hy⟩ := h1.two
  have := edge_lt hg hy
  rw [e] at hv
  simp at hv
  rcases hv with rfl | rfl <;> omega
/-- the first ends rise: there are no more edges than vertices -/
theorem match_le {g : List (List Int)} {es : List (List Int)} (h : IsMatch g es) : es.length ≤ g.length := by
  have key : ∀ i, i < es.length → (i : Int) ≤ (es.getD i []).getD 0 0 := by
    intro i
    induction i with
    | zero => intro hi; exact (h 0 hi).1.2.2.1
    | succ i ih =>
      intro hi
      have h1 := ih (by omega)
      have h2 := (h (i + 1) hi).2.2.2 (by omega)
      rw [Nat.add_sub_cancel] at h2; omega
  rcases Nat.eq_zero_or_pos es.length with e | e
  · omega
  · have h1 := key (es.length - 1) (by omega)
    have h2 := (h (es.length - 1) (by omega)).1.2.2.2.1
    omega
open Classical in
theorem specEdgeIn_eq {g : List (List Int)} (hg : GOk g) (hl : ∀ x ∈ g, x.length ≤ 1048576) (u v : Int) : F_spec_EdgeIn g u v = some (decide (0 ≤ u ∧ u < g.length ∧ v ∈ g.getD u.toNat [])) := by
  have h16 := hg.n16
  unfold F_spec_EdgeIn F_spec_l1There F_spec_l1Size F_spec_l1Edge
  simp only [cal_some_eq]
  rw [cal_of (specGraphOk_eq g hl), if_pos (by simp [hg]), ck_of (inI (by omega) (by omega)), l1In_eq, cal_some_eq, cal_some_eq]
  by_cases hu : 0 ≤ u ∧ u ≤ (g.length : Int) - 1
  case neg =>
    rw [if_neg (by simpa using hu), decide_eq_false]
    intro h; exact hu ⟨h.1, by omega⟩
  rw [if_pos (by simpa using hu)]
  obtain ⟨m, rfl⟩ := Int.eq_ofNat_of_zero_le hu.1
  have hm : m < g.length := by omega
  have e : g.getD (m : Int).toNat [] = g[m] := by simp [hm]
  rw [e, ck_of (inI (by omega) (by omega)), l1In_eq, cal_some_eq, cal_some_eq]
  by_cases hv : 0 ≤ v ∧ v ≤ (g.length : Int) - 1
  case neg =>
    rw [if_neg (by simpa using hv), decide_eq_false]
    intro h; have := hg.row_mem hm h.2.2; exact hv ⟨this.1, by omega⟩
  have := hl _ (List.getElem_mem hm)
  rw [if_pos (by simpa using hv), idx_nat hm, cal_of (l1Has_eq _ _ (by omega))]
  simp [hm]
open Classical in
theorem isEdge_eq {g : List (List Int)} (hg : GOk g) (hgl : g.length ≤ 1048576) (hl : ∀ x ∈ g, x.length ≤ 1048576) (e : List Int) : F_impl_isEdge g e = some (decide (EdgeOk g e)) := by
  have h16 := hg.n16
  unfold F_impl_isEdge F_impl_EdgeIn F_impl_isVertex EdgeOk
  by_cases h2 : e.length = 2
  case neg => rw [if_neg (by omega)]; simp [h2]
  rw [if_pos (by omega)]
  match e, h2 with
  | [a, b], _ =>
    have i0 : ∀ {β : Type} (k : Int → Option β), idx [a, b] 0 k = k a := fun k => idx_of (by decide) rfl
    have i1 : ∀ {β : Type} (k : Int → Option β), idx [a, b] 1 k = k b := fun k => idx_of (by decide) rfl
    rw [i0, i1]
    by_cases hab : a < b
    case neg => rw [if_neg hab]; simp [hab]
    rw [if_pos hab, i0, i1, cal_of (implGraphOk_eq g hgl hl), if_pos (by simp [hg]), ck_of (inI (by omega) (by omega)), cal_of (inRange_eq _ _ _), cal_some_eq]
    by_cases hu : 0 ≤ a ∧ a ≤ (g.length : Int) - 1
    case neg =>
      rw [if_neg (by simpa using hu), cal_some_eq]
      refine congrArg some ?_
      rw [eq_comm, decide_eq_false_iff_not]
      intro h; simp at h; exact hu ⟨h.2.1, by omega⟩
    rw [if_pos (by simpa using hu)]
    obtain ⟨m, rfl⟩ := Int.eq_ofNat_of_zero_le hu.1
    have hm : m < g.length := by omega
    have := hl _ (List.getElem_mem hm)
    rw [idx_nat hm, cal_of (contains_eq _ _ (by omega)), cal_some_eq]
    simp [hm, hab]
theorem mk_and_zero {s t : List Int} (hs : ∀ v ∈ s, 0 ≤ v) (ht : ∀ v ∈ t, 0 ≤ v) : mk s &&& mk t = 0 ↔ ∀ v ∈ s, v ∉ t := by
  constructor
  · intro h v hv hm
    have h1 := hs v hv
    have h2 : (mk s &&& mk t).testBit v.toNat = true := by
      rw [Nat.testBit_and, mk_mem hs, mk_mem ht, show ((v.toNat : Nat) : Int) = v by omega]; simp [hv, hm]
    rw [h] at h2; simp at h2
  · intro h
    apply bits_ext
    intro j
    rw [Nat.testBit_and, mk_mem hs, mk_mem ht, Nat.zero_testBit, Bool.and_eq_false_iff]
    by_cases hj : (j : Int) ∈ s
    · right; simpa using h _ hj
    · left; simpa using hj
theorem mk_append (s t : List Int) : mk (s ++ t) = mk s ||| mk t := by
  apply bits_ext
  intro j
  rw [Nat.testBit_or, mk_bit, mk_bit, mk_bit]
  by_cases h1 : ∃ v ∈ s, v.toNat = j <;> by_cases h2 : ∃ v ∈ t, v.toNat = j
  all_goals simp only [h1, h2, decide_true, decide_false, Bool.or_true, Bool.or_false, Bool.true_or, decide_eq_true_eq, decide_eq_false_iff_not, List.mem_append]
  · obtain ⟨v, hv, e⟩ := h1; exact ⟨v, .inl hv, e⟩
  · obtain ⟨v, hv, e⟩ := h1; exact ⟨v, .inl hv, e⟩
  · obtain ⟨v, hv, e⟩ := h2; exact ⟨v, .inr hv, e⟩
  · rintro ⟨v, hv | hv, e⟩
    · exact h1 ⟨v, hv, e⟩
    · exact h2 ⟨v, hv, e⟩
open Classical in
theorem specMatchOk_eq (g : List (List Int)) (es : List (List Int)) (hgl : g.length ≤ 1048576) (hl : ∀ x ∈ g, x.length ≤ 1048576) (he : es.length ≤ 1048576) (hr : ∀ x ∈ es, x.length ≤ 1048576) : F_spec_MatchOk g es = some (decide (GOk g ∧ IsMatch g es)) := by
  unfold F_spec_MatchOk
  rw [cal_of (specGraphOk_eq g hl)]
  by_cases hg : GOk g
  case neg => rw [if_pos (by simp [hg])]; simp [hg]
  rw [if_neg (by simp [hg])]
  have h16 := hg.n16
  by_cases hm : 16 < es.length
  · rw [if_pos (by omega)]
    exact congrArg some (decide_eq_false (fun h => by have := match_le h.2; omega)).symm
  rw [if_neg (by omega)]
  have key := lp_allC (step := fun s => F_spec_MatchOk_l1 g es s.1 s.2) (fun k => ((es.take k).flatten, (k : Int))) es.length (MatchAt g es) (IsMatch g es) (oT := .inl ()) (oF := .inr false) Iff.rfl ?_ ?_ ?_
  · simp only [List.take_zero, List.flatten_nil] at key
    rw [show ((0 : Nat) : Int) = 0 from rfl] at key
    rw [key, bnd_if]
    unfold F_spec_MatchOk_k2
    by_cases h : IsMatch g es <;> simp [h, hg]
  · intro k hk hb hp
    have hfl := flat_len k (by omega) hb
    obtain ⟨⟨x, y, e, hxy, hx, hy⟩, h2, h3, h4⟩ := (⟨hp.1.two, hp.2⟩ : _ ∧ _)
    have hed : es.getD k [] = es[k] := by simp [hk]
    rw [hed] at e h2 h3 h4
    have i0 : ∀ {β : Type} (f : Int → Option β), idx es[k] 0 f = f x := fun f => by rw [e]; exact idx_of (by decide) rfl
    have i1 : ∀ {β : Type} (f : Int → Option β), idx es[k] 1 f = f y := fun f => by rw [e]; exact idx_of (by decide) rfl
    have hl2 : (es[k].length : Int) = 2 := by rw [e]; rfl
    rw [e] at h2 h3
    simp only [List.getD_cons_zero, List.getD_cons_succ] at h2 h3
    simp only [F_spec_MatchOk_l1]
    have hE : F_spec_EdgeIn g x y = some true := by rw [specEdgeIn_eq hg hl]; simp [hx, hy]
    rw [if_pos (by omega), idx_nat hk, if_neg (by omega), i0, i1, if_neg (by omega), i0, i1, cal_of hE, if_neg (by simp), i0, cal_of (l1Has_eq _ _ (by omega)), if_neg (by simpa using h2), i1, cal_of (l1Has_eq _ _ (by omega)), if_neg (by simpa using h3)]
    have hfin : (es.take k).flatten ++ [(x : Int), (y : Int)] = (es.take (k + 1)).flatten := by rw [take_succ_of hk, List.flatten_append, e]; simp
    by_cases h0 : 0 < k
    · have hlt := h4 h0
      have hed1 : es.getD (k - 1) [] = es[k - 1] := by simp [show k - 1 < es.length by omega]
      obtain ⟨x', y', e', _, _, _⟩ := (hb (k - 1) (by omega)).1.two
      rw [hed1] at e' hlt
      rw [e, e'] at hlt
      simp only [List.getD_cons_zero] at hlt
      have j0 : ∀ {β : Type} (f : Int → Option β), idx es[k - 1] 0 f = f x' := fun f => by rw [e']; exact idx_of (by decide) rfl
      rw [if_pos (by omega), i0, ck_of (inI (by omega) (by omega)), show (k : Int) - 1 = ((k - 1 : Nat) : Int) by omega, idx_nat (by omega), j0, if_neg (by omega), i0, i1, app_of (by show _ + 2 ≤ 1099511627776; rw [hfl]; omega), ck_of (inI (by omega) (by omega)), hfin]; rfl
    · rw [if_neg (by omega), i0, i1, app_of (by show _ + 2 ≤ 1099511627776; rw [hfl]; omega), ck_of (inI (by omega) (by omega)), hfin]; rfl
  · intro k hk hb hp
    have hfl := flat_len k (by omega) hb
    have hed : es.getD k [] = es[k] := by simp [hk]
    simp only [F_spec_MatchOk_l1]
    rw [if_pos (by omega), idx_nat hk]
    by_cases hl2 : (es[k].length : Int) ≠ 2
    · rw [if_pos hl2]
    rw [if_neg hl2]
    obtain ⟨a, b, e⟩ : ∃ a b, es[k] = [a, b] := by
      match h : es[k], hl2 with
      | [a, b], _ => exact ⟨a, b, rfl⟩
      | [], hl2 => simp at hl2
      | [_], hl2 => simp at hl2
      | _ :: _ :: _ :: _, hl2 => simp at hl2; omega
    have i0 : ∀ {β : Type} (f : Int → Option β), idx es[k] 0 f = f a := fun f => by rw [e]; exact idx_of (by decide) rfl
    have i1 : ∀ {β : Type} (f : Int → Option β), idx es[k] 1 f = f b := fun f => by rw [e]; exact idx_of (by decide) rfl
    rw [i0, i1]
    by_cases hab : b ≤ a
    · rw [if_pos hab]
    rw [if_neg hab, i0, i1, cal_of (specEdgeIn_eq hg hl a b)]
    by_cases hE : 0 ≤ a ∧ a < g.length ∧ b ∈ g.getD a.toNat []
    case neg => rw [if_pos (by simpa using hE)]
    rw [if_neg (by simpa using hE), i0, cal_of (l1Has_eq _ _ (by omega))]
    by_cases ha : a ∈ (es.take k).flatten
    · rw [if_pos (by simpa using ha)]
    rw [if_neg (by simpa using ha), i1, cal_of (l1Has_eq _ _ (by omega))]
    by_cases hb' : b ∈ (es.take k).flatten
    · rw [if_pos (by simpa using hb')]
    rw [if_neg (by simpa using hb')]
    have hok : EdgeOk g (es.getD k []) := by
      rw [hed, e]; exact ⟨rfl, by simp; omega, by simpa using hE.1, by simpa using hE.2.1, by simpa using hE.2.2⟩
    by_cases h0 : 0 < k
    · have hed1 : es.getD (k - 1) [] = es[k - 1] := by simp [show k - 1 < es.length by omega]
      obtain ⟨x', y', e', _, _, _⟩ := (hb (k - 1) (by omega)).1.two
      rw [hed1] at e'
      have j0 : ∀ {β : Type} (f : Int → Option β), idx es[k - 1] 0 f = f x' := fun f => by rw [e']; exact idx_of (by decide) rfl
      rw [if_pos (by omega), i0, ck_of (inI (by omega) (by omega)), show (k : Int) - 1 = ((k - 1 : Nat) : Int) by omega, idx_nat (by omega), j0]
      by_cases hlt : a ≤ x'
      · rw [if_pos hlt]
      · refine absurd ⟨hok, ?_, ?_, fun _ => ?_⟩ hp
        · rw [hed, e]; simpa using ha
        · rw [hed, e]; simpa using hb'
        · rw [hed, hed1, e, e']; simp; omega
    · refine absurd ⟨hok, ?_, ?_, fun h => absurd h h0⟩ hp
      · rw [hed, e]; simpa using ha
      · rw [hed, e]; simpa using hb'
  · intro _
    simp only [F_spec_MatchOk_l1]; rw [if_neg (by omega)]
open Classical in
theorem implMatchOk_eq (g : List (List Int)) (es : List (List Int)) (hgl : g.length ≤ 1048576) (hl : ∀ x ∈ g, x.length ≤ 1048576) (he : es.length ≤ 1048576) (hr : ∀ x ∈ es, x.length ≤ 1048576) : F_impl_MatchOk g es = some (decide (GOk g ∧ IsMatch g es)) := by
  unfold F_impl_MatchOk
  rw [cal_of (implGraphOk_eq g hgl hl)]
  by_cases hg : GOk g
  case neg => rw [if_pos (by simp [hg])]; simp [hg]
  rw [if_neg (by simp [hg])]
  have h16 := hg.n16
  have key := lp_allC (step := fun s => F_impl_MatchOk_l1 g es s.1 s.2) (fun k => (BitVec.ofNat 32 (mk (es.take k).flatten), (k : Int))) es.length (MatchAt g es) (IsMatch g es) (oT := .inl ()) (oF := .inr false) Iff.rfl ?_ ?_ ?_
  · simp only [List.take_zero, List.flatten_nil] at key
    rw [show ((0 : Nat) : Int) = 0 from rfl, show BitVec.ofNat 32 (mk []) = 0#32 from rfl] at key
    rw [key, bnd_if]
    unfold F_impl_MatchOk_k2
    by_cases h : IsMatch g es <;> simp [h, hg]
  · intro k hk hb hp
    have hfm := flat_mem hg (k := k) (by omega) hb
    have hF : mk (es.take k).flatten < 2 ^ g.length := mk_lt fun v hv => hfm v hv
    have hF' : mk (es.take k).flatten < 2 ^ 16 := Nat.lt_of_lt_of_le hF (pow16 h16)
    obtain ⟨x, y, e, hxy, hx, hy⟩ := hp.1.two
    have hyl := edge_lt hg hy
    have hed : es.getD k [] = es[k] := by simp [hk]
    have hpp := hp
    obtain ⟨_, h2, h3, h4⟩ := hp
    rw [hed] at e h2 h3 h4
    rw [e] at h2 h3
    simp only [List.getD_cons_zero, List.getD_cons_succ] at h2 h3
    have hmk := maskOf_eq (s := es[k]) (fun v hv => by rw [e] at hv; simp at hv; omega) (by rw [e]; simp)
    have hmlt : mk es[k] < 2 ^ 16 := Nat.lt_of_lt_of_le (mk_lt (k := g.length) fun v hv => by rw [e] at hv; simp at hv; omega) (pow16 h16)
    have hz : mk es[k] &&& mk (es.take k).flatten = 0 := (mk_and_zero (fun v hv => by rw [e] at hv; simp at hv; omega) (fun v hv => (hfm v hv).1)).2 (fun v hv => by
      rw [e] at hv; simp at hv
      rcases hv with rfl | rfl
      · exact h2
      · exact h3)
    have hI : F_impl_isEdge g es[k] = some true := by
      have h := hpp.1
      rw [hed] at h
      rw [isEdge_eq hg hgl hl]; simp [h]
    have hfin : BitVec.ofNat 32 (mk (es.take k).flatten) ||| BitVec.ofNat 32 (mk es[k]) = BitVec.ofNat 32 (mk (es.take (k + 1)).flatten) := by
      rw [bv_or, take_succ_of hk, List.flatten_append, mk_append]; simp
    simp only [F_impl_MatchOk_l1]
    rw [if_pos (by omega), idx_nat hk, cal_of hI, if_neg (by simp), cal_of hmk, bv_and, hz, if_neg (by simp)]
    by_cases h0 : 0 < k
    · have hlt := h4 h0
      have hed1 : es.getD (k - 1) [] = es[k - 1] := by simp [show k - 1 < es.length by omega]
      obtain ⟨x', y', e', _, _, _⟩ := (hb (k - 1) (by omega)).1.two
      rw [hed1] at e' hlt
      rw [e, e'] at hlt
      simp only [List.getD_cons_zero] at hlt
      have i0 : ∀ {β : Type} (f : Int → Option β), idx es[k] 0 f = f x := fun f => by rw [e]; exact idx_of (by decide) rfl
      have j0 : ∀ {β : Type} (f : Int → Option β), idx es[k - 1] 0 f = f x' := fun f => by rw [e']; exact idx_of (by decide) rfl
      rw [if_pos (by omega), ck_of (inI (by omega) (by omega)), show (k : Int) - 1 = ((k - 1 : Nat) : Int) by omega, idx_nat (by omega), j0, i0, if_neg (by omega), cal_of hmk, ck_of (inI (by omega) (by omega)), hfin]; rfl
    · rw [if_neg (by omega), cal_of hmk, ck_of (inI (by omega) (by omega)), hfin]; rfl
  · intro k hk hb hp
    have hfm := flat_mem hg (k := k) (by omega) hb
    have hF : mk (es.take k).flatten < 2 ^ g.length := mk_lt fun v hv => hfm v hv
    have hF' : mk (es.take k).flatten < 2 ^ 16 := Nat.lt_of_lt_of_le hF (pow16 h16)
    have hed : es.getD k [] = es[k] := by simp [hk]
    simp only [F_impl_MatchOk_l1]
    rw [if_pos (by omega), idx_nat hk, cal_of (isEdge_eq hg hgl hl es[k])]
    by_cases hok : EdgeOk g es[k]
    case neg => rw [if_pos (by simp [hok])]
    rw [if_neg (by simp [hok])]
    obtain ⟨x, y, e, hxy, hx, hy⟩ := hok.two
    have hyl := edge_lt hg hy
    have hmk := maskOf_eq (s := es[k]) (fun v hv => by rw [e] at hv; simp at hv; omega) (by rw [e]; simp)
    have hmlt : mk es[k] < 2 ^ 16 := Nat.lt_of_lt_of_le (mk_lt (k := g.length) fun v hv => by rw [e] at hv; simp at hv; omega) (pow16 h16)
    rw [cal_of hmk, bv_and]
    have hzz := mk_and_zero (s := es[k]) (t := (es.take k).flatten) (fun v hv => by rw [e] at hv; simp at hv; omega) (fun v hv => (hfm v hv).1)
    have hlt32 : mk es[k] &&& mk (es.take k).flatten < 2 ^ 32 := and_lt (by omega)
    by_cases hz : mk es[k] &&& mk (es.take k).flatten = 0
    case neg => rw [if_pos (fun h => hz ((bv_inj hlt32 (by decide)).1 h))]
    have hno := hzz.1 hz
    rw [hz, if_neg (by simp)]
    have ha : (x : Int) ∉ (es.take k).flatten := hno _ (by rw [e]; simp)
    have hb' : (y : Int) ∉ (es.take k).flatten := hno _ (by rw [e]; simp)
    have hok' : EdgeOk g (es.getD k []) := by rw [hed]; exact hok
    by_cases h0 : 0 < k
    · have hed1 : es.getD (k - 1) [] = es[k - 1] := by simp [show k - 1 < es.length by omega]
      obtain ⟨x', y', e', _, _, _⟩ := (hb (k - 1) (by omega)).1.two
      rw [hed1] at e'
      have i0 : ∀ {β : Type} (f : Int → Option β), idx es[k] 0 f = f x := fun f => by rw [e]; exact idx_of (by decide) rfl
      have j0 : ∀ {β : Type} (f : Int → Option β), idx es[k - 1] 0 f = f x' := fun f => by rw [e']; exact idx_of (by decide) rfl
      rw [if_pos (by omega), ck_of (inI (by omega) (by omega)), show (k : Int) - 1 = ((k - 1 : Nat) : Int) by omega, idx_nat (by omega), j0, i0]
      by_cases hlt : (x : Int) ≤ x'
      · rw [if_pos hlt]
      · refine absurd ⟨hok', ?_, ?_, fun _ => ?_⟩ hp
        · rw [hed, e]; simpa using ha
        · rw [hed, e]; simpa using hb'
        · rw [hed, hed1, e, e']; simp; omega
    · refine absurd ⟨hok', ?_, ?_, fun h => absurd h h0⟩ hp
      · rw [hed, e]; simpa using ha
      · rw [hed, e]; simpa using hb'
  · intro _
    simp only [F_impl_MatchOk_l1]; rw [if_neg (by omega)]
end Go.Proofs.YthbmcbflnibpbabDoor
