/- FnExactBestMatch: the plain law. -/
import Derived.Test.YtadjcnllmkdgiaaDoorMost
import Derived.Test.YtadjcnllmkdgiaaDoorEdges
import Derived.Test.YtadjcnllmkdgiaaDoorLawGraph
import Derived.Test.YtadjcnllmkdgiaaDoorLawMarks
namespace Go.Proofs.YtadjcnllmkdgiaaDoor
/-- an edge is taken where it is free and the rest behind it has one less -/
def stepB (a : List Nat) (t : List (List Int) × Nat) (e : List Int) : List (List Int) × Nat :=
  if sdiff (mk e) t.2 = 0 ∧ 0 < mst a t.2 ∧ mst a (sdiff (sdiff t.2 (2 ^ ((e.getD 0 0).toNat + 1) - 1)) (mk e)) + 1 = mst a t.2 then (t.1 ++ [e], sdiff (sdiff t.2 (2 ^ ((e.getD 0 0).toNat + 1) - 1)) (mk e)) else t
/-- the edges of v to greater ones -/
def grpB (a : List Nat) (v : Nat) : List (List Int) := ((els (a.getD v 0)).filter fun u => decide (v < u)).map fun (u : Nat) => [(v : Int), (u : Int)]
theorem row_elsB {s : List Int} {n : Nat} (h : Rises s n) (hn : n ≤ 16) : s = ints (els (mk s)) := by
  have hr := rises_iff.1 h
  have hlt : mk s < 2 ^ 16 := Nat.lt_of_lt_of_le h.lt (pow16 hn)
  have e : s.map Int.toNat = els (mk s) := by
    refine sorted_ext ?_ (els_sorted _) fun x => ?_
    · rw [List.pairwise_map]
      exact hr.2.imp_of_mem fun {x y} hx hy hxy => by have := (hr.1 x hx).1; have := (hr.1 y hy).1; omega
    · rw [mem_els hlt, mk_mem (fun x hx => (hr.1 x hx).1), decide_eq_true_eq, List.mem_map]
      exact ⟨fun ⟨y, hy, e⟩ => by have := (hr.1 y hy).1; rw [show (x : Int) = y by omega]; exact hy, fun hx => ⟨_, hx, by omega⟩⟩
  rw [← e]
  unfold ints
  rw [List.map_map]
  conv => lhs; rw [← List.map_id s]
  refine List.map_congr_left fun x hx => ?_
  have := (hr.1 x hx).1
  simp only [id, Function.comp]; omega
theorem edges_grp {g : List (List Int)} (hg : GOk g) : edges g = (List.range g.length).flatMap (grpB (nb g)) := by
  unfold edges
  rw [List.flatMap_def, List.flatMap_def]
  congr 1
  refine List.map_congr_left fun v hv => ?_
  rw [List.mem_range] at hv
  unfold grpB
  have h1 := row_elsB (hg.rows v hv).1 hg.n16
  rw [nb_getD hv, show g.getD v [] = g[v] by simp [hv]]
  conv => lhs; rw [h1]
  unfold ints
  rw [List.filter_map, List.map_map]
  congr 1
  refine List.filter_congr fun u _ => ?_
  simp only [Function.comp]
  rw [decide_eq_decide]; omega
section
variable {a : List Nat}
theorem mk2_bit (v u j : Nat) : (mk [(v : Int), (u : Int)]).testBit j = decide (j = v ∨ j = u) := by
  rw [mk_mem (fun x hx => by simp at hx; omega)]
  rw [decide_eq_decide]; simp; omega
theorem sdiff_zeroB {x y : Nat} : sdiff x y = 0 ↔ ∀ j, x.testBit j = true → y.testBit j = true := by
  constructor
  · intro h j hj
    have := sdiff_bit x y j
    rw [h, Nat.zero_testBit, hj] at this
    simpa using this.symm
  · intro h
    apply bits_ext
    intro j
    rw [sdiff_bit, Nat.zero_testBit]
    cases e : x.testBit j with
    | false => rfl
    | true => rw [h j e]; rfl
theorem stepB_not {t : List (List Int) × Nat} {v u : Nat} (h : t.2.testBit v = false) : stepB a t [(v : Int), (u : Int)] = t := by
  unfold stepB
  refine if_neg fun hc => ?_
  have := sdiff_zeroB.1 hc.1 v (by rw [mk2_bit]; simp)
  rw [h] at this; cases this
theorem stepB_done {t : List (List Int) × Nat} {e : List Int} (h : ¬ 0 < mst a t.2) : stepB a t e = t := if_neg fun hc => h hc.2.1
theorem foldB_same {es : List (List Int)} {t : List (List Int) × Nat} (h : ∀ e ∈ es, stepB a t e = t) : es.foldl (stepB a) t = t := by
  induction es with
  | nil => rfl
  | cons e es ih => rw [List.foldl_cons, h e (List.mem_cons_self ..)]; exact ih fun x hx => h x (List.mem_cons_of_mem _ hx)
theorem grpB_not {t : List (List Int) × Nat} {v : Nat} (h : t.2.testBit v = false) : (grpB a v).foldl (stepB a) t = t := foldB_same fun e he => by
  unfold grpB at he
  obtain ⟨u, _, rfl⟩ := List.mem_map.1 he
  exact stepB_not h
/-- what is left behind v and u -/
theorem rest_vu {S u : Nat} (h0 : S ≠ 0) : sdiff (sdiff S (2 ^ (low S + 1) - 1)) (mk [((low S : Nat) : Int), (u : Int)]) = sdiff (sdiff S (2 ^ low S)) (2 ^ u) := by
  apply bits_ext
  intro j
  rw [sdiff_bit, sdiff_bit, sdiff_bit, sdiff_bit, mk2_bit, Nat.testBit_two_pow_sub_one, Nat.testBit_two_pow, Nat.testBit_two_pow]
  by_cases hj : j < low S
  · rw [low_least h0 hj]; rfl
  · by_cases e : j = low S
    · subst e; simp
    · rw [show decide (j < low S + 1) = false from decide_eq_false (by omega), show decide (low S = j) = false from decide_eq_false (fun h => e h.symm)]
      by_cases e2 : j = u
      · simp [e2]
      · simp [e, e2, show ¬ u = j from fun h => e2 h.symm]
/-- u is free, and goes with the least one -/
def goodB (a : List Nat) (S u : Nat) : Bool := S.testBit u && decide (mst a (sdiff (sdiff S (2 ^ low S)) (2 ^ u)) + 1 = mst a S)
theorem stepB_low {l : List (List Int)} {S u : Nat} (h0 : S ≠ 0) (hm : 0 < mst a S) : stepB a (l, S) [((low S : Nat) : Int), (u : Int)] = if goodB a S u = true then (l ++ [[((low S : Nat) : Int), (u : Int)]], sdiff (sdiff S (2 ^ low S)) (2 ^ u)) else (l, S) := by
  unfold stepB goodB
  have e : ([((low S : Nat) : Int), (u : Int)].getD 0 0).toNat = low S := by simp
  simp only [e]
  rw [rest_vu h0]
  have h1 : sdiff (mk [((low S : Nat) : Int), (u : Int)]) S = 0 ↔ S.testBit u = true := by
    rw [sdiff_zeroB]
    constructor
    · intro h; exact h u (by rw [mk2_bit]; simp)
    · intro h j hj
      rw [mk2_bit, decide_eq_true_eq] at hj
      rcases hj with rfl | rfl
      · exact low_bit h0
      · exact h
  by_cases c : S.testBit u = true ∧ mst a (sdiff (sdiff S (2 ^ low S)) (2 ^ u)) + 1 = mst a S
  · rw [if_pos ⟨h1.2 c.1, hm, c.2⟩, if_pos (by rw [c.1, decide_eq_true c.2]; rfl)]
  · rw [if_neg (fun h => c ⟨h1.1 h.1, h.2.2⟩), if_neg (fun h => c (by rw [Bool.and_eq_true, decide_eq_true_eq] at h; exact h))]
theorem pairs_fold {l : List (List Int)} {S : Nat} (h0 : S ≠ 0) (hm : 0 < mst a S) : ∀ us : List Nat, (us.map fun (u : Nat) => [((low S : Nat) : Int), (u : Int)]).foldl (stepB a) (l, S) = match us.find? (goodB a S) with
      | some u => (l ++ [[((low S : Nat) : Int), (u : Int)]], sdiff (sdiff S (2 ^ low S)) (2 ^ u))
      | none => (l, S)
  | [] => rfl
  | u :: us => by
    rw [List.map_cons, List.foldl_cons, stepB_low h0 hm, List.find?_cons]
    by_cases c : goodB a S u = true
    · rw [if_pos c, c]
      refine foldB_same fun e he => ?_
      obtain ⟨w, _, rfl⟩ := List.mem_map.1 he
      refine stepB_not ?_
      simp only
      rw [sdiff_bit, sdiff_bit, Nat.testBit_two_pow]; simp
    · rw [if_neg c, show goodB a S u = false by simpa using c]
      exact pairs_fold h0 hm us
theorem find_mates {S : Nat} (h0 : S ≠ 0) (hS : S < 2 ^ 16) : ((els (a.getD (low S) 0)).filter fun u => decide (low S < u)).find? (goodB a S) = (mates a S).find? fun u => decide (mst a (sdiff (sdiff S (2 ^ low S)) (2 ^ u)) + 1 = mst a S) := by
  unfold mates els
  rw [List.find?_filter, List.find?_filter, List.find?_filter]
  congr 1
  funext u
  rw [Nat.testBit_and, sdiff_bit, Nat.testBit_two_pow]
  unfold goodB
  by_cases e : S.testBit u = true
  · rw [e]
    rcases Nat.lt_trichotomy (low S) u with h | h | h
    · simp [h, show ¬ low S = u by omega]
    · simp [h]
    · have := low_least h0 h; rw [this] at e; cases e
  · rw [show S.testBit u = false by simpa using e]; simp
/-- a state without v, and one with it whose rest is as good -/
theorem skip_fold {v : Nat} : ∀ (es : List (List Int)), (∀ e ∈ es, ∃ w u : Nat, e = [(w : Int), (u : Int)] ∧ v < w ∧ w < u) → ∀ (l : List (List Int)) (S : Nat), mst a S = mst a (sdiff S (2 ^ v)) → (es.foldl (stepB a) (l, S)).1 = (es.foldl (stepB a) (l, sdiff S (2 ^ v))).1
  | [], _, l, S, _ => rfl
  | e :: es, h, l, S, hm => by
    obtain ⟨w, u, rfl, hvw, hwu⟩ := h e (List.mem_cons_self ..)
    have h' : ∀ e ∈ es, ∃ w u : Nat, e = [(w : Int), (u : Int)] ∧ v < w ∧ w < u := fun x hx => h x (List.mem_cons_of_mem _ hx)
    rw [List.foldl_cons, List.foldl_cons]
    have e1 : ([(w : Int), (u : Int)].getD 0 0).toNat = w := by simp
    have hr : sdiff (sdiff (sdiff S (2 ^ v)) (2 ^ (w + 1) - 1)) (mk [(w : Int), (u : Int)]) = sdiff (sdiff S (2 ^ (w + 1) - 1)) (mk [(w : Int), (u : Int)]) := by
      apply bits_ext
      intro j
      rw [sdiff_bit, sdiff_bit, sdiff_bit, sdiff_bit, sdiff_bit, Nat.testBit_two_pow_sub_one, Nat.testBit_two_pow]
      by_cases hj : v = j
      · subst hj; rw [show decide (v < w + 1) = true from decide_eq_true (by omega)]; simp
      · rw [show decide (v = j) = false from decide_eq_false hj]; simp
    have hs : sdiff (mk [(w : Int), (u : Int)]) (sdiff S (2 ^ v)) = 0 ↔ sdiff (mk [(w : Int), (u : Int)]) S = 0 := by
      rw [sdiff_zeroB, sdiff_zeroB]
      refine forall_congr' fun j => ?_
      rw [mk2_bit, decide_eq_true_eq, sdiff_bit, Nat.testBit_two_pow, Bool.and_eq_true]
      constructor
      · intro h hj; exact (h hj).1
      · intro h hj
        refine ⟨h hj, ?_⟩
        rw [show decide (v = j) = false from decide_eq_false (by omega)]; rfl
    by_cases c : sdiff (mk [(w : Int), (u : Int)]) S = 0 ∧ 0 < mst a S ∧ mst a (sdiff (sdiff S (2 ^ (w + 1) - 1)) (mk [(w : Int), (u : Int)])) + 1 = mst a S
    · have h1 : stepB a (l, S) [(w : Int), (u : Int)] = (l ++ [[(w : Int), (u : Int)]], sdiff (sdiff S (2 ^ (w + 1) - 1)) (mk [(w : Int), (u : Int)])) := by
        unfold stepB; simp only [e1]; rw [if_pos c]
      have h2 : stepB a (l, sdiff S (2 ^ v)) [(w : Int), (u : Int)] = (l ++ [[(w : Int), (u : Int)]], sdiff (sdiff S (2 ^ (w + 1) - 1)) (mk [(w : Int), (u : Int)])) := by
        unfold stepB; simp only [e1]; rw [hr, if_pos ⟨hs.2 c.1, by rw [← hm]; exact c.2.1, by rw [← hm]; exact c.2.2⟩]
      rw [h1, h2]
    · have h1 : stepB a (l, S) [(w : Int), (u : Int)] = (l, S) := by
        unfold stepB; simp only [e1]; rw [if_neg c]
      have h2 : stepB a (l, sdiff S (2 ^ v)) [(w : Int), (u : Int)] = (l, sdiff S (2 ^ v)) := by
        unfold stepB; simp only [e1]; rw [hr, if_neg (fun hc => c ⟨hs.1 hc.1, by rw [hm]; exact hc.2.1, by rw [hm]; exact hc.2.2⟩)]
      rw [h1, h2]
      exact skip_fold es h' l S hm
/-- all edges that begin at one of the first n -/
def allB (a : List Nat) (n : Nat) : List (List Int) := (List.range n).flatMap (grpB a)
theorem allB_split {n v : Nat} (h : v < n) : allB a n = (List.range v).flatMap (grpB a) ++ (grpB a v ++ (List.range' (v + 1) (n - v - 1)).flatMap (grpB a)) := by
  unfold allB
  have : List.range n = List.range v ++ v :: List.range' (v + 1) (n - v - 1) := by
    rw [List.range_eq_range', List.range_eq_range', show v :: List.range' (v + 1) (n - v - 1) = List.range' (0 + 1 * v) (n - v - 1 + 1) by rw [List.range'_succ]; simp, List.range'_append]
    congr 1; omega
  rw [this, List.flatMap_append, List.flatMap_cons]
theorem pre_fold {l : List (List Int)} {S v : Nat} (h : ∀ j, j < v → S.testBit j = false) : ((List.range v).flatMap (grpB a)).foldl (stepB a) (l, S) = (l, S) := foldB_same fun e he => by
  obtain ⟨w, hw, he⟩ := List.mem_flatMap.1 he
  unfold grpB at he
  obtain ⟨u, _, rfl⟩ := List.mem_map.1 he
  exact stepB_not (t := (l, S)) (h w (List.mem_range.1 hw))
theorem post_mem {n v : Nat} : ∀ e ∈ (List.range' (v + 1) (n - v - 1)).flatMap (grpB a), ∃ w u : Nat, e = [(w : Int), (u : Int)] ∧ v < w ∧ w < u := fun e he => by
  obtain ⟨w, hw, he⟩ := List.mem_flatMap.1 he
  unfold grpB at he
  obtain ⟨u, hu, rfl⟩ := List.mem_map.1 he
  rw [List.mem_range'_1] at hw
  have := (List.mem_filter.1 hu).2
  exact ⟨w, u, rfl, by omega, by simpa using this⟩
/-- one turn of the reference's loop -/
theorem turnB {n : Nat} (hn : n ≤ 16) {l : List (List Int)} {S : Nat} (h0 : S ≠ 0) (hS : S < 2 ^ n) (hm : 0 < mst a S) :
    ((allB a n).foldl (stepB a) (l, S)).1 = match (mates a S).find? fun u => decide (mst a (sdiff (sdiff S (2 ^ low S)) (2 ^ u)) + 1 = mst a S) with
      | some u => ((allB a n).foldl (stepB a) (l ++ [[((low S : Nat) : Int), (u : Int)]], sdiff (sdiff S (2 ^ low S)) (2 ^ u))).1
      | none => ((allB a n).foldl (stepB a) (l, sdiff S (2 ^ low S))).1 := by
  have hv : low S < n := low_lt h0 hS
  have hS16 : S < 2 ^ 16 := Nat.lt_of_lt_of_le hS (pow16 hn)
  have hlow : ∀ j, j < low S → S.testBit j = false := fun j hj => low_least h0 hj
  have hlow2 : ∀ j, j < low S → (sdiff S (2 ^ low S)).testBit j = false := fun j hj => by rw [sdiff_bit, hlow j hj]; rfl
  have hv2 : (sdiff S (2 ^ low S)).testBit (low S) = false := by rw [sdiff_bit, Nat.testBit_two_pow]; simp
  have hgrp : (grpB a (low S)).foldl (stepB a) (l, S) = match (mates a S).find? fun u => decide (mst a (sdiff (sdiff S (2 ^ low S)) (2 ^ u)) + 1 = mst a S) with
      | some u => (l ++ [[((low S : Nat) : Int), (u : Int)]], sdiff (sdiff S (2 ^ low S)) (2 ^ u))
      | none => (l, S) := by
    rw [← find_mates h0 hS16]
    exact pairs_fold h0 hm _
  rw [allB_split hv, List.foldl_append, List.foldl_append, pre_fold hlow, hgrp]
  cases e : (mates a S).find? fun u => decide (mst a (sdiff (sdiff S (2 ^ low S)) (2 ^ u)) + 1 = mst a S) with
  | some u =>
    simp only []
    rw [List.foldl_append, List.foldl_append, pre_fold (fun j hj => by rw [sdiff_bit, hlow2 j hj]; rfl), grpB_not (by simp only []; rw [sdiff_bit, hv2]; rfl)]
  | none =>
    simp only []
    rw [List.foldl_append, List.foldl_append, pre_fold hlow2, grpB_not (by simpa using hv2)]
    refine skip_fold _ post_mem l S ?_
    rcases mst_cases (a := a) h0 with h | ⟨u, hu, h⟩
    · exact h
    · rw [List.find?_eq_none] at e
      have := e u hu
      simp at this; omega
theorem stopB {n : Nat} {l : List (List Int)} {S : Nat} (hm : ¬ 0 < mst a S) : ((allB a n).foldl (stepB a) (l, S)).1 = l := by
  rw [foldB_same fun e _ => stepB_done hm]
theorem stepB_lt {t : List (List Int) × Nat} {e : List Int} {k : Nat} (h : t.2 < k) : (stepB a t e).2 < k := by
  unfold stepB
  split
  · exact Nat.lt_of_le_of_lt (Nat.le_trans (sdiff_le _ _) (sdiff_le _ _)) h
  · exact h
theorem foldB_lt {k : Nat} : ∀ (es : List (List Int)) (t : List (List Int) × Nat), t.2 < k → (es.foldl (stepB a) t).2 < k
  | [], _, h => h
  | e :: es, t, h => by rw [List.foldl_cons]; exact foldB_lt es _ (stepB_lt h)
theorem foldB_len : ∀ (es : List (List Int)) (t : List (List Int) × Nat), (es.foldl (stepB a) t).1.length ≤ t.1.length + es.length
  | [], _ => Nat.le_refl _
  | e :: es, t => by
    rw [List.foldl_cons, List.length_cons]
    have := foldB_len es (stepB a t e)
    have h1 : (stepB a t e).1.length ≤ t.1.length + 1 := by unfold stepB; split <;> simp
    omega
theorem foldB_mem {x : List Int} : ∀ (es : List (List Int)) (t : List (List Int) × Nat), x ∈ (es.foldl (stepB a) t).1 → x ∈ t.1 ∨ x ∈ es
  | [], _, h => .inl h
  | e :: es, t, h => by
    rw [List.foldl_cons] at h
    rcases foldB_mem es _ h with h | h
    · unfold stepB at h
      split at h
      · rcases List.mem_append.1 h with h | h
        · exact .inl h
        · rw [List.mem_singleton] at h; exact .inr (by rw [h]; exact List.mem_cons_self ..)
      · exact .inl h
    · exact .inr (List.mem_cons_of_mem _ h)
end
open Classical in
noncomputable def resBestMatch (g : List (List Int)) : List (List Int) := if GOk g then ((edges g).foldl (stepB (nb g)) ([], 2 ^ g.length - 1)).1 else []
theorem resBestMatch_small (g : List (List Int)) (hgl : g.length ≤ 1048576) (hl : ∀ x ∈ g, x.length ≤ 1048576) : (resBestMatch g).length ≤ 1048576 ∧ ∀ x ∈ resBestMatch g, x.length ≤ 1048576 := by
  unfold resBestMatch
  split
  · rename_i hg
    refine ⟨?_, fun x hx => ?_⟩
    · have := foldB_len (a := nb g) (edges g) ([], 2 ^ g.length - 1)
      have := edges_len256 hg
      simp at *; omega
    · rcases foldB_mem _ _ hx with h | h
      · cases h
      · obtain ⟨v, w, e, _⟩ := edges_pair hg h
        rw [e]; simp
  · exact ⟨by simp, fun x hx => by cases hx⟩
theorem find_congr {α : Type} {p q : α → Bool} : ∀ {l : List α}, (∀ x ∈ l, p x = q x) → l.find? p = l.find? q
  | [], _ => rfl
  | x :: l, h => by rw [List.find?_cons, List.find?_cons, h x (List.mem_cons_self ..), find_congr fun y hy => h y (List.mem_cons_of_mem _ hy)]
theorem lp_seekG {S O : Type} {step : S → Option (S ⊕ O)} (st : Nat → S) (out : Nat → O) (c : Nat → Bool) (h1 : ∀ x, x ≠ 0 → x < 2 ^ 16 → c (low x) = false → step (st x) = some (.inl (st (x &&& (x - 1)))))
    (h2 : ∀ x, x ≠ 0 → x < 2 ^ 16 → c (low x) = true → step (st x) = some (.inr (out x))) (h0 : step (st 0) = some (.inr (out 0))) : ∀ x, x < 2 ^ 16 →
    ∃ y : Nat, lp step (st x) = some (out y) ∧ y < 2 ^ 16 ∧ (((els x).find? c = none ∧ y = 0) ∨ ((els x).find? c = some (low y) ∧ y ≠ 0)) := by
  intro x
  induction x using Nat.strongRecOn with
  | _ x ih =>
    intro hx
    by_cases e : x = 0
    · subst e; exact ⟨0, lp_inr h0, by decide, .inl ⟨by rw [els_zero]; rfl, rfl⟩⟩
    · cases hc : c (low x) with
      | true => exact ⟨x, lp_inr (h2 x e hx hc), hx, .inr ⟨by rw [els_cons e hx, List.find?_cons, hc], e⟩⟩
      | false =>
        have s1 := h1 x e hx hc
        have hlt := rest_lt e
        obtain ⟨y, h3, h4, h5⟩ := ih _ hlt (by omega)
        refine ⟨y, by rw [lp_inl s1, h3], h4, ?_⟩
        rw [els_cons e hx, List.find?_cons, hc]; exact h5
theorem idx_rng {β : Type} {T : Nat → Int} {N k : Nat} {f : Int → Option β} (h : k < N) : idx ((List.range N).map T) (k : Int) f = f (T k) := by
  rw [← tbl_full]; exact idx_tbl h
theorem firstOf_eqM {n : Nat} (hn : n ≤ 16) : F_impl_firstOf (n : Int) = some (BitVec.ofNat 32 (2 ^ n - 1)) := by
  have h1 : 2 ^ n ≤ 2 ^ 16 := pow16 hn
  have h2 : 0 < 2 ^ n := Nat.two_pow_pos _
  unfold F_impl_firstOf
  rw [grd_of (Int.natCast_nonneg _), Int.toNat_natCast, bv_shl (by omega), bv_sub_one h2 (by omega)]
theorem specBestMatch_eq (g : List (List Int)) (hgl : g.length ≤ 1048576) (hl : ∀ x ∈ g, x.length ≤ 1048576) : F_spec_BestMatch g = some (resBestMatch g) := by
  unfold F_spec_BestMatch resBestMatch
  rw [cal_of (specGraphOk_eq g hl)]
  by_cases hg : GOk g
  case neg => rw [if_pos (by simp [hg]), if_neg hg]
  have h16 := hg.n16
  have hnl := nb_len g
  have hp : 2 ^ g.length ≤ 2 ^ 16 := pow16 h16
  have hp0 : 0 < 2 ^ g.length := Nat.two_pow_pos _
  rw [if_neg (by simp [hg]), if_pos hg, cal_of (l25Bits_eq hg), cal_of (l27Table_eq (by omega) (fun v h => nb_lt16 hg h)), hnl, cal_of (l25All_eq h16), edges_grp hg]
  have key : ∃ o, lp (fun s => F_spec_BestMatch_l1 (ints (nb g)) ((List.range (2 ^ g.length)).map (mst (nb g))) s.1 s.2) (([] : List (List Int)), ((2 ^ g.length - 1 : Nat) : Int)) = some o ∧ o = .inl ((allB (nb g) g.length).foldl (stepB (nb g)) ([], 2 ^ g.length - 1)).1 := by
    refine lp_rule (step := fun s => F_spec_BestMatch_l1 (ints (nb g)) ((List.range (2 ^ g.length)).map (mst (nb g))) s.1 s.2)
      (fun s => ∃ S : Nat, s.2 = (S : Int) ∧ S < 2 ^ g.length ∧ s.1.length + card S ≤ 16 ∧ ((allB (nb g) g.length).foldl (stepB (nb g)) (s.1, S)).1 = ((allB (nb g) g.length).foldl (stepB (nb g)) ([], 2 ^ g.length - 1)).1)
      (fun s => s.2.toNat) _ ?_ (([] : List (List Int)), ((2 ^ g.length - 1 : Nat) : Int)) ⟨2 ^ g.length - 1, rfl, by omega, by have := els_len_le (2 ^ g.length - 1); unfold card; simp; exact this, rfl⟩
    rintro ⟨l, i⟩ ⟨S, rfl, hS, hlen, hf⟩
    simp only at hlen hf ⊢
    have hm := mst_bound (a := nb g) S
    by_cases c2 : 0 < mst (nb g) S
    case neg =>
      refine .inr ⟨.inl l, ?_, ?_⟩
      · simp only [F_spec_BestMatch_l1]
        rw [idx_rng (by omega), if_neg c2]
      · rw [← hf, stopB c2]
    have h0 : S ≠ 0 := fun e => by subst e; rw [mst_zero] at c2; omega
    have hv : low S < (nb g).length := low_lt h0 (by rw [hnl]; exact hS)
    have hr := less_rest h0
    have hbv := nb_lt16 hg hv
    have hgd := getD_get hv
    have hlt : (nb g)[low S] &&& sdiff S (2 ^ low S) < 2 ^ 16 := and_lt hbv
    rw [turnB h16 h0 hS c2] at hf
    have hcard := card_rest h0 (show S < 2 ^ 16 by omega)
    have hseek := lp_seekG (step := fun q : List (List Int) × Int => F_spec_BestMatch_l2 ((List.range (2 ^ g.length)).map (mst (nb g))) (S : Int) q.1 q.2) (fun x => (l, (x : Int))) (fun y => .inl (l, (y : Int)))
      (fun u => decide (¬ (1 + mst (nb g) (sdiff (sdiff S (2 ^ low S)) (2 ^ u)) < mst (nb g) S))) (fun x hx0 hx hc => ?_) (fun x hx0 hx hc => ?_) ?_ _ hlt
    · obtain ⟨y, hy, hy16, hcase⟩ := hseek
      have hfind : (els ((nb g)[low S] &&& sdiff S (2 ^ low S))).find? (fun u => decide (¬ (1 + mst (nb g) (sdiff (sdiff S (2 ^ low S)) (2 ^ u)) < mst (nb g) S))) = (mates (nb g) S).find? fun u => decide (mst (nb g) (sdiff (sdiff S (2 ^ low S)) (2 ^ u)) + 1 = mst (nb g) S) := by
        unfold mates
        rw [hgd]
        refine find_congr fun u hu => ?_
        have := mst_mate (a := nb g) h0 (u := u) (by unfold mates; rw [hgd]; exact hu)
        rw [decide_eq_decide]; omega
      rw [hfind] at hcase
      simp only [F_spec_BestMatch_l1]
      rw [idx_rng (by omega), if_pos c2, cal_of (l27Low_eq h0 (by omega)), ck_of (inI (by omega) (by omega)), idx_ints hv, i64_rest h0 (by omega), i64and_nat (by omega) (by omega), hy]
      rcases hcase with ⟨hn, rfl⟩ | ⟨hs, hy0⟩
      · rw [hn] at hf
        refine .inl ⟨(l, ((sdiff S (2 ^ low S) : Nat) : Int)), ?_, ⟨sdiff S (2 ^ low S), rfl, by omega, by simp only []; omega, hf⟩, by simp only []; omega⟩
        show F_spec_BestMatch_k3 (S : Int) (low S : Int) l 0 = _
        unfold F_spec_BestMatch_k3
        rw [if_neg (by decide), i64_rest h0 (by omega)]
      · rw [hs] at hf
        have hu := mates_sub (List.mem_of_find?_eq_some hs)
        have hS16 : sdiff S (2 ^ low S) < 2 ^ 16 := by omega
        have hcd := card_del hu hS16
        have hd := sdiff_le (sdiff S (2 ^ low S)) (2 ^ low y)
        have hly : low y < 16 := bit_lt hS16 hu
        have h2y : 2 ^ low y < 2 ^ 62 := Nat.pow_lt_pow_right (by decide) (by omega)
        refine .inl ⟨(l ++ [[(low S : Int), (low y : Int)]], ((sdiff (sdiff S (2 ^ low S)) (2 ^ low y) : Nat) : Int)), ?_, ⟨sdiff (sdiff S (2 ^ low S)) (2 ^ low y), rfl, by omega, by simp only [List.length_append, List.length_singleton]; omega, hf⟩, by simp only []; omega⟩
        show F_spec_BestMatch_k3 (S : Int) (low S : Int) l (y : Int) = _
        unfold F_spec_BestMatch_k3
        rw [if_pos (by omega), cal_of (l27Low_eq hy0 (by omega)), app1_s (by omega), grd_of (Int.natCast_nonneg _), Int.toNat_natCast, two_pow_nat, ck_of (inI_nat (by omega)), i64_rest h0 (by omega), i64andn_nat (by omega) (by omega)]
    · have h3 := sdiff_le (sdiff S (2 ^ low S)) (2 ^ low x)
      have h4 := mst_bound (a := nb g) (sdiff (sdiff S (2 ^ low S)) (2 ^ low x))
      have h5 := low_pow_le hx0
      simp only [decide_not, Bool.not_eq_false', decide_eq_true_eq] at hc
      simp only [F_spec_BestMatch_l2]
      rw [if_pos (by omega), ck_of (inI (by omega) (by omega)), i64_rest h0 (by omega), i64_lowbit hx0 (by omega), i64andn_nat (by omega) (by omega), idx_rng (by omega), ck_of (inI (by omega) (by omega)), idx_rng (by omega), if_pos hc, ck_of (inI (by omega) (by omega)), i64_rest hx0 (by omega), rest_eq hx0]
    · have h3 := sdiff_le (sdiff S (2 ^ low S)) (2 ^ low x)
      have h4 := mst_bound (a := nb g) (sdiff (sdiff S (2 ^ low S)) (2 ^ low x))
      have h5 := low_pow_le hx0
      simp only [decide_not, Bool.not_eq_true', decide_eq_false_iff_not] at hc
      simp only [F_spec_BestMatch_l2]
      rw [if_pos (by omega), ck_of (inI (by omega) (by omega)), i64_rest h0 (by omega), i64_lowbit hx0 (by omega), i64andn_nat (by omega) (by omega), idx_rng (by omega), ck_of (inI (by omega) (by omega)), idx_rng (by omega), if_neg hc]
    · simp only [F_spec_BestMatch_l2]
      rw [if_neg (by decide)]
  obtain ⟨o, h1, rfl⟩ := key
  rw [h1]; rfl
end Go.Proofs.YtadjcnllmkdgiaaDoor
