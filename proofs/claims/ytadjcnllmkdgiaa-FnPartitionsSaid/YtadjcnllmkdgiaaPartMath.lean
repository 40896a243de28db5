/- Ways to part the vertices: into how many sets; names of colours. -/
import Derived.Test.YtadjcnllmkdgiaaColMany
import Derived.Test.YtadjcnllmkdgiaaTFnExactColoursMany
import Derived.Test.YtadjcnllmkdgiaaLeastNames
namespace Go.Proofs.Ytadjcnllmkdgiaa
/-- in how many ways the vertices that are left make k sets of all -/
def wk (a : List Nat) (k : Nat) : Nat → List Nat → Nat
  | 0, L => if L.length = k then 1 else 0
  | m + 1, L => ((List.range L.length).map fun i => if L.getD i 0 &&& a.getD (a.length - (m + 1)) 0 = 0 then wk a k m (L.set i (L.getD i 0 ||| 2 ^ (a.length - (m + 1)))) else 0).sum + wk a k m (L ++ [2 ^ (a.length - (m + 1))])
theorem waysF_wk {a : List Nat} {k : Nat} : ∀ {m : Nat} {L : List Nat} {o : List Int}, L.length + m < o.length → (waysF a m L o).getD k 0 = o.getD k 0 + (wk a k m L : Int)
  | 0, L, o, h => by
    rw [waysF, wk]
    by_cases e : L.length = k
    · subst e; rw [if_pos rfl]; simp [show L.length < o.length by omega]
    · rw [if_neg e]; simp [List.getElem?_set, e]
  | m + 1, L, o, h => by
    have key : ∀ (l : List Nat) (o : List Int), L.length + (m + 1) < o.length → (l.foldl (fun o i => if L.getD i 0 &&& a.getD (a.length - (m + 1)) 0 = 0 then waysF a m (L.set i (L.getD i 0 ||| 2 ^ (a.length - (m + 1)))) o else o) o).length = o.length ∧
        (l.foldl (fun o i => if L.getD i 0 &&& a.getD (a.length - (m + 1)) 0 = 0 then waysF a m (L.set i (L.getD i 0 ||| 2 ^ (a.length - (m + 1)))) o else o) o).getD k 0 = o.getD k 0 + ((l.map fun i => if L.getD i 0 &&& a.getD (a.length - (m + 1)) 0 = 0 then wk a k m (L.set i (L.getD i 0 ||| 2 ^ (a.length - (m + 1)))) else 0).sum : Nat) := by
      intro l
      induction l with
      | nil => intro o ho; exact ⟨rfl, by simp⟩
      | cons x l ih =>
        intro o ho
        rw [List.foldl_cons, List.map_cons, List.sum_cons]
        by_cases hx : L.getD x 0 &&& a.getD (a.length - (m + 1)) 0 = 0
        · rw [if_pos hx, if_pos hx]
          obtain ⟨h1, h2⟩ := ih (waysF a m (L.set x (L.getD x 0 ||| 2 ^ (a.length - (m + 1)))) o) (by rw [waysF_len]; exact ho)
          refine ⟨by rw [h1, waysF_len], ?_⟩
          rw [h2, waysF_wk (by rw [List.length_set]; omega)]; omega
        · rw [if_neg hx, if_neg hx]
          obtain ⟨h1, h2⟩ := ih o ho
          refine ⟨h1, ?_⟩
          rw [h2]; omega
    obtain ⟨h1, h2⟩ := key (List.range L.length) o h
    rw [waysF, waysF_wk (by rw [h1]; simp; omega), h2, wk]; omega
theorem wk_none {a : List Nat} {k : Nat} : ∀ {m : Nat} {L : List Nat}, L.length + m < k → wk a k m L = 0
  | 0, L, h => by rw [wk, if_neg (by omega)]
  | m + 1, L, h => by
    rw [wk, wk_none (by simp; omega), Nat.add_zero]
    refine sum_zeroC fun x hx => ?_
    obtain ⟨i, _, rfl⟩ := List.mem_map.1 hx
    split
    · exact wk_none (by simp; omega)
    · rfl
theorem wk_one {a : List Nat} {k : Nat} : ∀ {m : Nat} {L : List Nat}, L.length + m = k → wk a k m L = 1
  | 0, L, h => by rw [wk, if_pos (by omega)]
  | m + 1, L, h => by
    rw [wk, wk_one (m := m) (L := L ++ [_]) (by simp; omega)]
    rw [sum_zeroC fun x hx => by
      obtain ⟨i, _, rfl⟩ := List.mem_map.1 hx
      split
      · exact wk_none (by simp; omega)
      · rfl]
theorem sum_posN {l : List Nat} : 0 < l.sum ↔ ∃ x ∈ l, 0 < x := by
  induction l with
  | nil => simp
  | cons x l ih =>
    rw [List.sum_cons]
    constructor
    · intro h
      by_cases hx : 0 < x
      · exact ⟨x, List.mem_cons_self .., hx⟩
      · obtain ⟨y, hy, h2⟩ := ih.1 (by omega)
        exact ⟨y, List.mem_cons_of_mem _ hy, h2⟩
    · rintro ⟨y, hy, h2⟩
      rcases List.mem_cons.1 hy with rfl | hy
      · omega
      · have := ih.2 ⟨y, hy, h2⟩; omega
theorem fallN_pos {k : Nat} : ∀ {s : Nat}, s ≤ k → 0 < fallN k s
  | 0, _ => Nat.one_pos
  | s + 1, h => by rw [fallN]; exact Nat.mul_pos (fallN_pos (by omega)) (by omega)
theorem wk_cnt {a : List Nat} {k : Nat} : ∀ {m : Nat} {L : List Nat}, 0 < wk a k m L → 0 < cnt a k m L
  | 0, L, h => by
    rw [wk] at h
    rw [cnt]
    exact fallN_pos (by split at h <;> omega)
  | m + 1, L, h => by
    rw [wk] at h
    rw [cnt]
    rcases Nat.eq_zero_or_pos (wk a k m (L ++ [2 ^ (a.length - (m + 1))])) with e | e
    · rw [e, Nat.add_zero] at h
      obtain ⟨x, hx, hp⟩ := sum_posN.1 h
      obtain ⟨i, hi, rfl⟩ := List.mem_map.1 hx
      refine Nat.add_pos_left (sum_posN.2 ⟨_, List.mem_map.2 ⟨i, hi, rfl⟩, ?_⟩) _
      split at hp
      · rename_i c; rw [if_pos c]; exact wk_cnt hp
      · omega
    · exact Nat.add_pos_right _ (wk_cnt e)
theorem cnt_wk {a : List Nat} {k : Nat} : ∀ {m : Nat} {L : List Nat}, 0 < cnt a k m L → ∃ j, j ≤ k ∧ 0 < wk a j m L
  | 0, L, h => by
    rw [cnt] at h
    refine ⟨L.length, ?_, by rw [wk, if_pos rfl]; exact Nat.one_pos⟩
    rcases Nat.lt_or_ge k L.length with g | g
    · rw [fallN_zero g] at h; omega
    · exact g
  | m + 1, L, h => by
    rw [cnt] at h
    rcases Nat.eq_zero_or_pos (cnt a k m (L ++ [2 ^ (a.length - (m + 1))])) with e | e
    · rw [e, Nat.add_zero] at h
      obtain ⟨x, hx, hp⟩ := sum_posN.1 h
      obtain ⟨i, hi, rfl⟩ := List.mem_map.1 hx
      split at hp
      · rename_i c
        obtain ⟨j, hj, h2⟩ := cnt_wk hp
        refine ⟨j, hj, ?_⟩
        rw [wk]
        refine Nat.add_pos_left (sum_posN.2 ⟨_, List.mem_map.2 ⟨i, hi, rfl⟩, ?_⟩) _
        rw [if_pos c]; exact h2
      · omega
    · obtain ⟨j, hj, h2⟩ := cnt_wk e
      exact ⟨j, hj, by rw [wk]; exact Nat.add_pos_right _ h2⟩
theorem wk_more {a : List Nat} {j k : Nat} (hjk : j ≤ k) : ∀ {m : Nat} {L : List Nat}, 0 < wk a j m L → k ≤ L.length + m → 0 < wk a k m L
  | 0, L, h, hk => by
    rw [wk] at h ⊢
    split at h
    · rw [if_pos (by omega)]; omega
    · omega
  | m + 1, L, h, hk => by
    by_cases e : L.length + (m + 1) = k
    · rw [wk_one e]; omega
    rw [wk] at h ⊢
    rcases Nat.eq_zero_or_pos (wk a j m (L ++ [2 ^ (a.length - (m + 1))])) with e2 | e2
    · rw [e2, Nat.add_zero] at h
      obtain ⟨x, hx, hp⟩ := sum_posN.1 h
      obtain ⟨i, hi, rfl⟩ := List.mem_map.1 hx
      split at hp
      · rename_i c
        refine Nat.add_pos_left (sum_posN.2 ⟨_, List.mem_map.2 ⟨i, hi, rfl⟩, ?_⟩) _
        rw [if_pos c]
        exact wk_more hjk hp (by rw [List.length_set]; omega)
      · omega
    · exact Nat.add_pos_right _ (wk_more hjk e2 (by simp; omega))
/-- some way to part them into k sets, just where k are colours enough -/
theorem wk_iff {a : List Nat} {k : Nat} (hk : k ≤ a.length) : 0 < wk a k a.length [] ↔ 0 < col a k a.length [] := by
  have hc := cnt_col (a := a) (k := k) (m := a.length) (p := []) (q := []) (by simp) List.nodup_nil (by simp) (by simp)
  rw [List.map_nil, List.length_nil, fallN, Nat.one_mul] at hc
  rw [← hc]
  constructor
  · exact wk_cnt
  · intro h
    obtain ⟨j, hj, h2⟩ := cnt_wk h
    exact wk_more hj h2 (by simp; omega)
/-- the names: what they are -/
theorem names_ok (l : List Int) : (∀ i (h : i < l.length), (namesOf l).2[i]? = some ((namesOf l).1.idxOf l[i] : Int)) ∧ (∀ c, c ∈ (namesOf l).1 ↔ c ∈ l) ∧ (namesOf l).1.Nodup ∧ (namesOf l).1.head? = l.head? := by
  induction l using snoc_ind with
  | h0 => simp [namesOf]
  | h l c ih =>
    obtain ⟨h1, h2, h3, h4⟩ := ih
    have hlen := (namesOf_len l).2
    rw [namesOf_snoc]; unfold nameStep
    by_cases hc : c ∈ (namesOf l).1
    · rw [if_pos hc]
      refine ⟨fun i hi => ?_, fun d => ?_, h3, ?_⟩
      · simp only [List.length_append, List.length_singleton] at hi
        by_cases e : i < l.length
        · rw [List.getElem?_append_left (by omega), h1 i e, List.getElem_append_left e]
        · obtain rfl : i = l.length := by omega
          rw [List.getElem?_append_right (by omega)]; simp [hlen]
      · simp only [List.mem_append, List.mem_singleton]
        rw [h2]
        exact ⟨.inl, fun h => h.elim id fun e => by rw [e]; exact (h2 c).1 hc⟩
      · cases l with
        | nil => simp [namesOf] at hc
        | cons x l => simpa using h4
    · rw [if_neg hc]
      refine ⟨fun i hi => ?_, fun d => ?_, ?_, ?_⟩
      · simp only [List.length_append, List.length_singleton] at hi
        by_cases e : i < l.length
        · have hm : l[i] ∈ (namesOf l).1 := (h2 _).2 (List.getElem_mem e)
          rw [List.getElem?_append_left (by omega), h1 i e, List.getElem_append_left e, List.idxOf_append, if_pos hm]
        · obtain rfl : i = l.length := by omega
          rw [List.getElem?_append_right (by omega)]
          simp [hlen, List.idxOf_append, hc]
      · simp only [List.mem_append, List.mem_singleton]
        rw [h2]
      · rw [List.nodup_append]
        exact ⟨h3, by simp, fun x hx y hy e => hc (by rw [List.mem_singleton.1 hy] at e; exact e ▸ hx)⟩
      · cases l with
        | nil => simp [namesOf]
        | cons x l =>
          simp only [List.head?_cons] at h4 ⊢
          rw [List.head?_append, h4]; simp
theorem names_many {l : List Int} (h : l.length ≤ 16) : manyOf (namesOf l).2 = manyOf l := by
  obtain ⟨h1, h2, h3, h4⟩ := names_ok l
  have hlen := (namesOf_len l).2
  unfold manyOf
  rw [if_neg (by omega), if_neg (by omega)]
  congr 1
  have hinj : ∀ x ∈ cpt (srt l), ∀ y ∈ cpt (srt l), (((namesOf l).1.idxOf x : Nat) : Int) = (((namesOf l).1.idxOf y : Nat) : Int) → x = y := fun x hx y hy e => by
    have hx' := (h2 x).2 (mem_srt.1 (mem_cpt.1 hx))
    have hy' := (h2 y).2 (mem_srt.1 (mem_cpt.1 hy))
    have e' : (namesOf l).1.idxOf x = (namesOf l).1.idxOf y := by omega
    have ex := List.getElem_idxOf (List.idxOf_lt_length_iff.2 hx')
    have ey := List.getElem_idxOf (List.idxOf_lt_length_iff.2 hy')
    rw [← ex, ← ey]; congr 1
  have hmap : ((cpt (srt l)).map fun x => (((namesOf l).1.idxOf x : Nat) : Int)).Nodup := by
    rw [List.nodup_iff_pairwise_ne, List.pairwise_map]
    exact (cpt_nodup (srt_sorted l)).imp_of_mem fun {x y} hx hy hne e => hne (hinj x hx y hy e)
  rw [len_same (cpt_nodup (srt_sorted _)) hmap fun x => ?_, List.length_map]
  rw [mem_cpt, mem_srt, List.mem_map]
  constructor
  · intro hx
    obtain ⟨i, hi, e⟩ := List.getElem_of_mem hx
    have hi' : i < l.length := by omega
    have := h1 i hi'
    rw [List.getElem?_eq_getElem hi, e] at this
    exact ⟨l[i], mem_cpt.2 (mem_srt.2 (List.getElem_mem hi')), (Option.some.inj this).symm⟩
  · rintro ⟨c, hc, rfl⟩
    obtain ⟨i, hi, e⟩ := List.getElem_of_mem (mem_srt.1 (mem_cpt.1 hc))
    have := h1 i hi
    rw [e] at this
    exact List.mem_of_getElem? this
end Go.Proofs.Ytadjcnllmkdgiaa
