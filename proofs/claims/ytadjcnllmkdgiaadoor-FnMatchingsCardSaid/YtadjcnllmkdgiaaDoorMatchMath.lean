/- Matchings counted: by lists, with an edge less, and those that leave no vertex free. -/
import Derived.Test.YtadjcnllmkdgiaaDoorMatchCount
import Derived.Test.YtadjcnllmkdgiaaDoorTFnExactBestMatch
namespace Go.Proofs.YtadjcnllmkdgiaaDoor
def mtF (E : Nat → Nat → Bool) (p : Bool) : Nat → List Nat → Nat
  | 0, _ => 1
  | _ + 1, [] => 1
  | n + 1, x :: l => (if p = true then 0 else mtF E p n l) + (l.map fun w => if E x w = true then mtF E p n (l.erase w) else 0).sum
/-- how many matchings there are among the vertices of a list (p: that leave none free) -/
def mt (E : Nat → Nat → Bool) (p : Bool) (l : List Nat) : Nat := mtF E p l.length l
theorem mtF_ge {E : Nat → Nat → Bool} {p : Bool} : ∀ {n m : Nat} {l : List Nat}, l.length ≤ n → l.length ≤ m → mtF E p n l = mtF E p m l
  | 0, m, l, h, _ => by
    obtain rfl : l = [] := List.eq_nil_of_length_eq_zero (by omega)
    cases m <;> simp [mtF]
  | n + 1, 0, l, _, h => by
    obtain rfl : l = [] := List.eq_nil_of_length_eq_zero (by omega)
    simp [mtF]
  | n + 1, m + 1, [], _, _ => by simp [mtF]
  | n + 1, m + 1, x :: l, h1, h2 => by
    simp only [List.length_cons] at h1 h2
    rw [mtF, mtF, mtF_ge (n := n) (m := m) (l := l) (by omega) (by omega)]
    congr 2
    refine List.map_congr_left fun w hw => ?_
    have := List.length_erase_le (a := w) (l := l)
    rw [mtF_ge (n := n) (m := m) (l := l.erase w) (by omega) (by omega)]
theorem mt_nil (E : Nat → Nat → Bool) (p : Bool) : mt E p [] = 1 := rfl
theorem mt_cons (E : Nat → Nat → Bool) (p : Bool) (x : Nat) (l : List Nat) : mt E p (x :: l) = (if p = true then 0 else mt E p l) + (l.map fun w => if E x w = true then mt E p (l.erase w) else 0).sum := by
  unfold mt
  rw [List.length_cons, mtF]
  congr 2
  refine List.map_congr_left fun w hw => ?_
  rw [mtF_ge (n := l.length) (m := (l.erase w).length) (List.length_erase_le ..) (Nat.le_refl _)]
theorem sum_mapadd (f g : Nat → Nat) : ∀ l : List Nat, (l.map fun x => f x + g x).sum = (l.map f).sum + (l.map g).sum
  | [] => rfl
  | x :: l => by simp only [List.map_cons, List.sum_cons, sum_mapadd f g l]; omega
/-- one place of a sum taken out -/
theorem sum_erase {f : Nat → Nat} {v : Nat} : ∀ {l : List Nat}, v ∈ l → (l.map f).sum = f v + ((l.erase v).map f).sum := fun {l} h => by
  rw [((List.perm_cons_erase h).map f).sum_nat, List.map_cons, List.sum_cons]
theorem sum_mapzero {f : Nat → Nat} {l : List Nat} (h : ∀ x ∈ l, f x = 0) : (l.map f).sum = 0 := by
  induction l with
  | nil => rfl
  | cons x l ih => rw [List.map_cons, List.sum_cons, h x (List.mem_cons_self ..), ih fun y hy => h y (List.mem_cons_of_mem _ hy)]
theorem mt_congr {E E' : Nat → Nat → Bool} {p : Bool} : ∀ {n : Nat} {l : List Nat}, l.length = n → (∀ x ∈ l, ∀ y ∈ l, E x y = E' x y) → mt E p l = mt E' p l := by
  intro n
  induction n using Nat.strongRecOn with
  | _ n ih =>
    intro l hl h
    cases l with
    | nil => rfl
    | cons x l =>
      simp only [List.length_cons] at hl
      rw [mt_cons, mt_cons, ih l.length (by omega) rfl fun a ha b hb => h a (List.mem_cons_of_mem _ ha) b (List.mem_cons_of_mem _ hb)]
      congr 2
      refine List.map_congr_left fun w hw => ?_
      rw [h x (List.mem_cons_self ..) w (List.mem_cons_of_mem _ hw)]
      have := List.length_erase_le (a := w) (l := l)
      rw [ih (l.erase w).length (by omega) rfl fun a ha b hb => h a (List.mem_cons_of_mem _ (List.mem_of_mem_erase ha)) b (List.mem_cons_of_mem _ (List.mem_of_mem_erase hb))]
theorem map_eraseOn {f : Nat → Nat} {w : Nat} : ∀ {l : List Nat}, (∀ x ∈ l, ∀ y ∈ l, f x = f y → x = y) → w ∈ l → (l.map f).erase (f w) = (l.erase w).map f
  | [], _, h => by cases h
  | x :: l, hf, h => by
    rw [List.map_cons, List.erase_cons, List.erase_cons]
    by_cases e : x = w
    · subst e; simp
    · have hne : f x ≠ f w := fun e' => e (hf x (List.mem_cons_self ..) w h e')
      have hw : w ∈ l := by
        rcases List.mem_cons.1 h with h | h
        · exact absurd h.symm e
        · exact h
      rw [if_neg (by simpa using hne), if_neg (by simpa using e), List.map_cons, map_eraseOn (fun a ha b hb => hf a (List.mem_cons_of_mem _ ha) b (List.mem_cons_of_mem _ hb)) hw]
theorem mt_map {E : Nat → Nat → Bool} {p : Bool} (f : Nat → Nat) : ∀ {n : Nat} {l : List Nat}, l.length = n → (∀ x ∈ l, ∀ y ∈ l, f x = f y → x = y) → mt E p (l.map f) = mt (fun i j => E (f i) (f j)) p l := by
  intro n
  induction n using Nat.strongRecOn with
  | _ n ih =>
    intro l hl hf
    cases l with
    | nil => rfl
    | cons x l =>
      simp only [List.length_cons] at hl
      have hf' : ∀ a ∈ l, ∀ b ∈ l, f a = f b → a = b := fun a ha b hb => hf a (List.mem_cons_of_mem _ ha) b (List.mem_cons_of_mem _ hb)
      rw [List.map_cons, mt_cons, mt_cons, ih l.length (by omega) rfl hf', List.map_map]
      congr 2
      refine List.map_congr_left fun w hw => ?_
      simp only [Function.comp_apply]
      rw [map_eraseOn hf' hw]
      have := List.length_erase_le (a := w) (l := l)
      rw [ih (l.erase w).length (by omega) rfl fun a ha b hb => hf' a (List.mem_of_mem_erase ha) b (List.mem_of_mem_erase hb)]
/-- an edge less: those that have not got it, and those that have -/
theorem mt_cut {E E' : Nat → Nat → Bool} {p : Bool} {u v : Nat} (huv : u ≠ v) (hs : ∀ x y, E x y = E y x) (he : E u v = true) (h' : ∀ x y, E' x y = (E x y && !(decide (x = u ∧ y = v) || decide (x = v ∧ y = u)))) :
    ∀ {n : Nat} {l : List Nat}, l.length = n → l.Nodup → mt E p l = mt E' p l + if u ∈ l ∧ v ∈ l then mt E p ((l.erase u).erase v) else 0 := by
  have same : ∀ {l : List Nat}, ¬ (u ∈ l ∧ v ∈ l) → mt E p l = mt E' p l := fun {l} h => mt_congr rfl fun x hx y hy => by
    rw [h', decide_eq_false (fun e : x = u ∧ y = v => h ⟨e.1 ▸ hx, e.2 ▸ hy⟩), decide_eq_false (fun e : x = v ∧ y = u => h ⟨e.2 ▸ hy, e.1 ▸ hx⟩)]; simp
  -- the least is an end of the edge
  have atEnd : ∀ {u v : Nat} {l : List Nat}, u ≠ v → E u v = true → (∀ x y, E' x y = (E x y && !(decide (x = u ∧ y = v) || decide (x = v ∧ y = u)))) → (∀ {l : List Nat}, ¬ (u ∈ l ∧ v ∈ l) → mt E p l = mt E' p l) → l.Nodup → u ∉ l → v ∈ l → mt E p (u :: l) = mt E' p (u :: l) + mt E p (l.erase v) := by
    intro u v l huv he h' same hnd hu hv
    have hd : v ∉ l.erase v := hnd.not_mem_erase
    have e1 : ∀ w ∈ l.erase v, (if E u w = true then mt E p (l.erase w) else 0) = if E' u w = true then mt E' p (l.erase w) else 0 := fun w hw => by
      have hwv : w ≠ v := fun e => hd (e ▸ hw)
      rw [h', decide_eq_false (fun e => hwv e.2), decide_eq_false (fun e => huv e.1), same fun e => hu (List.mem_of_mem_erase e.1)]; simp
    rw [mt_cons, mt_cons, same fun e => hu e.1, sum_erase hv, sum_erase (l := l) (f := fun w => if E' u w = true then mt E' p (l.erase w) else 0) hv, if_pos he, h' u v, List.map_congr_left e1]
    simp; omega
  intro n
  induction n using Nat.strongRecOn with
  | _ n ih =>
    intro l hl hnd
    by_cases hin : u ∈ l ∧ v ∈ l
    case neg => rw [if_neg hin, same hin, Nat.add_zero]
    rw [if_pos hin]
    cases l with
    | nil => cases hin.1
    | cons x l =>
      simp only [List.length_cons] at hl
      obtain ⟨hx, hnd'⟩ := List.nodup_cons.1 hnd
      by_cases ex : x = u
      · subst ex
        have hv : v ∈ l := by
          rcases List.mem_cons.1 hin.2 with h | h
          · exact absurd h.symm huv
          · exact h
        rw [List.erase_cons_head]
        exact atEnd huv he h' same hnd' hx hv
      · have hu : u ∈ l := by
          rcases List.mem_cons.1 hin.1 with h | h
          · exact absurd h.symm ex
          · exact h
        by_cases ev : x = v
        · subst ev
          rw [List.erase_cons_tail (by simpa using ex), List.erase_cons_head]
          exact atEnd (Ne.symm huv) (by rw [hs]; exact he) (fun a b => by rw [h', Bool.or_comm]) (fun {l} (h : ¬ (x ∈ l ∧ u ∈ l)) => same fun (e : u ∈ l ∧ x ∈ l) => h ⟨e.2, e.1⟩) hnd' hx hu
        · have hv : v ∈ l := by
            rcases List.mem_cons.1 hin.2 with h | h
            · exact absurd h.symm ev
            · exact h
          have hu1 : u ∉ l.erase u := hnd'.not_mem_erase
          have hv1 : v ∈ l.erase u := (List.mem_erase_of_ne (Ne.symm huv)).2 hv
          have hv2 : v ∉ (l.erase u).erase v := (hnd'.erase u).not_mem_erase
          have hu2 : u ∉ (l.erase u).erase v := fun h => hu1 (List.mem_of_mem_erase h)
          rw [List.erase_cons_tail (by simpa using ex), List.erase_cons_tail (by simpa using ev), mt_cons, mt_cons, mt_cons, ih l.length (by omega) rfl hnd', if_pos (⟨hu, hv⟩ : u ∈ l ∧ v ∈ l)]
          have hterm : ∀ w ∈ l, (if E x w = true then mt E p (l.erase w) else 0) = (if E' x w = true then mt E' p (l.erase w) else 0) + (if E x w = true then (if u ∈ l.erase w ∧ v ∈ l.erase w then mt E p (((l.erase w).erase u).erase v) else 0) else 0) := fun w hw => by
            have hE : E' x w = E x w := by rw [h', decide_eq_false (fun e => ex e.1), decide_eq_false (fun e => ev e.1)]; simp
            rw [hE]
            by_cases hb : E x w = true
            · have := List.length_erase_le (a := w) (l := l)
              rw [if_pos hb, if_pos hb, if_pos hb]
              exact ih (l.erase w).length (by omega) rfl (hnd'.erase w)
            · rw [if_neg hb, if_neg hb, if_neg hb]
          rw [List.map_congr_left hterm, sum_mapadd]
          have hsum : (l.map fun w => if E x w = true then (if u ∈ l.erase w ∧ v ∈ l.erase w then mt E p (((l.erase w).erase u).erase v) else 0) else 0).sum = (((l.erase u).erase v).map fun w => if E x w = true then mt E p (((l.erase u).erase v).erase w) else 0).sum := by
            rw [sum_erase hu, sum_erase hv1, if_neg (fun e => hu1 e.1 : ¬ (u ∈ l.erase u ∧ v ∈ l.erase u)), if_neg (fun e => hnd'.not_mem_erase e.2 : ¬ (u ∈ l.erase v ∧ v ∈ l.erase v))]
            simp only [ite_self, Nat.zero_add]
            congr 1
            refine List.map_congr_left fun w hw => ?_
            have hwu : w ≠ u := fun e => hu2 (e ▸ hw)
            have hwv : w ≠ v := fun e => hv2 (e ▸ hw)
            rw [if_pos (⟨(List.mem_erase_of_ne (Ne.symm hwu)).2 hu, (List.mem_erase_of_ne (Ne.symm hwv)).2 hv⟩ : u ∈ l.erase w ∧ v ∈ l.erase w), List.erase_comm w u, List.erase_comm w v]
          rw [hsum]
          by_cases hp : p = true
          · simp only [if_pos hp]; omega
          · simp only [if_neg hp]; omega
theorem els_erase {s u : Nat} (hs : s < 2 ^ 16) : els (sdiff s (2 ^ u)) = (els s).erase u := by
  refine sorted_ext (els_sorted _) ((els_sorted _).sublist List.erase_sublist) fun x => ?_
  have h1 : sdiff s (2 ^ u) < 2 ^ 16 := sdiff_lt hs
  rw [mem_els h1, (els_nodup s).mem_erase_iff, mem_els hs, delbit_bit]
  simp
  constructor
  · rintro ⟨h1, h2⟩; exact ⟨fun e => h2 e.symm, h1⟩
  · rintro ⟨h1, h2⟩; exact ⟨h2, fun e => h1 e.symm⟩
/-- the tables tell the matchings -/
theorem tabv_mt {a : List Nat} {p : Bool} : ∀ {s : Nat}, s < 2 ^ 16 → tabv a 1 (ofC p) s = (mt (fun x w => (a.getD x 0).testBit w) p (els s) : Int) := by
  intro s
  induction s using Nat.strongRecOn with
  | _ s ih =>
    intro hs
    by_cases h : s = 0
    · subst h; rw [els_zero]; rfl
    · have hl := less_rest h
      have hs1 : sdiff s (2 ^ low s) < 2 ^ 16 := by omega
      rw [tabv_step a 1 (ofC p) h, els_cons h hs, rest_eq h, mt_cons, ih _ hl hs1, ofC]
      have hm : mates a s = (els (sdiff s (2 ^ low s))).filter fun w => (a.getD (low s) 0).testBit w := by
        refine sorted_ext (els_sorted _) ((els_sorted _).filter _) fun x => ?_
        have h3 : a.getD (low s) 0 &&& sdiff s (2 ^ low s) < 2 ^ 16 := Nat.lt_of_le_of_lt Nat.and_le_right hs1
        unfold mates
        rw [mem_els h3, List.mem_filter, mem_els hs1, Nat.testBit_and, Bool.and_eq_true]
        exact And.comm
      have hsum : ((mates a s).map fun u => tabv a 1 (ofC p) (sdiff (sdiff s (2 ^ low s)) (2 ^ u))).sum = (((els (sdiff s (2 ^ low s))).map fun w => if (a.getD (low s) 0).testBit w = true then mt (fun x w => (a.getD x 0).testBit w) p ((els (sdiff s (2 ^ low s))).erase w) else 0).sum : Nat) := by
        rw [hm]
        have key : ∀ l : List Nat, ((l.filter fun w => (a.getD (low s) 0).testBit w).map fun u => tabv a 1 (ofC p) (sdiff (sdiff s (2 ^ low s)) (2 ^ u))).sum = ((l.map fun w => if (a.getD (low s) 0).testBit w = true then mt (fun x w => (a.getD x 0).testBit w) p ((els (sdiff s (2 ^ low s))).erase w) else 0).sum : Nat) := by
          intro l
          induction l with
          | nil => rfl
          | cons x l ihl =>
            rw [List.map_cons, List.sum_cons, List.filter_cons, Int.natCast_add, ← ihl]
            by_cases hx : (a.getD (low s) 0).testBit x = true
            · have h5 := sdiff_le (sdiff s (2 ^ low s)) (2 ^ x)
              rw [if_pos hx, if_pos hx, List.map_cons, List.sum_cons, ih _ (by omega) (by omega), els_erase hs1]
            · rw [if_neg hx, if_neg hx]; simp
        exact key _
      rw [hsum]
      cases p <;> simp
theorem mt_none {E : Nat → Nat → Bool} (h : ∀ x y, E x y = false) : ∀ l : List Nat, mt E false l = 1
  | [] => rfl
  | x :: l => by
    rw [mt_cons, mt_none h l, sum_mapzero fun w _ => by rw [h]; rfl]; rfl
theorem mt_none_p {E : Nat → Nat → Bool} (h : ∀ x y, E x y = false) {l : List Nat} (hl : l ≠ []) : mt E true l = 0 := by
  cases l with
  | nil => exact absurd rfl hl
  | cons x l => rw [mt_cons, sum_mapzero fun w _ => by rw [h]; rfl]; rfl
theorem sum_mono {f g : Nat → Nat} : ∀ {l : List Nat}, (∀ x ∈ l, f x ≤ g x) → (l.map f).sum ≤ (l.map g).sum
  | [], _ => Nat.le_refl _
  | x :: l, h => by
    rw [List.map_cons, List.map_cons, List.sum_cons, List.sum_cons]
    have := h x (List.mem_cons_self ..)
    have := sum_mono (l := l) fun y hy => h y (List.mem_cons_of_mem _ hy)
    omega
theorem mt_le (E : Nat → Nat → Bool) : ∀ {n : Nat} {l : List Nat}, l.length = n → mt E true l ≤ mt E false l := by
  intro n
  induction n using Nat.strongRecOn with
  | _ n ih =>
    intro l hl
    cases l with
    | nil => exact Nat.le_refl _
    | cons x l =>
      simp only [List.length_cons] at hl
      rw [mt_cons, mt_cons]
      refine Nat.add_le_add (by simp) (sum_mono fun w _ => ?_)
      split
      · have := List.length_erase_le (a := w) (l := l)
        exact ih _ (by omega) rfl
      · exact Nat.le_refl _
/-- how many edges the greatest matching has -/
theorem best_lenB {a : List Nat} {n : Nat} (hn : n ≤ 16) : ∀ (S : Nat) (l : List (List Int)), S < 2 ^ n → ((((allB a n).foldl (stepB a) (l, S)).1.length : Nat) : Int) = l.length + mst a S := by
  intro S
  induction S using Nat.strongRecOn with
  | _ S ih =>
    intro l hS
    have hb := (mst_bound (a := a) S).1
    by_cases hm : 0 < mst a S
    · have h0 : S ≠ 0 := fun e => by subst e; rw [mst_zero] at hm; omega
      have hl := less_rest h0
      rw [turnB hn h0 hS hm]
      cases e : (mates a S).find? fun u => decide (mst a (sdiff (sdiff S (2 ^ low S)) (2 ^ u)) + 1 = mst a S) with
      | some u =>
        simp only []
        have h1 := List.find?_some e
        simp only [decide_eq_true_eq] at h1
        have h2 := sdiff_le (sdiff S (2 ^ low S)) (2 ^ u)
        rw [ih _ (by omega) _ (by omega), List.length_append, List.length_singleton]; omega
      | none =>
        simp only []
        rw [ih _ hl _ (by omega)]
        rcases mst_cases (a := a) h0 with h | ⟨u, hu, h⟩
        · omega
        · rw [List.find?_eq_none] at e
          have := e u hu
          simp at this; omega
    · rw [stopB hm]; omega
theorem card_two {s u : Nat} (h : s ≠ 0) (hs : s < 2 ^ 16) {a : List Nat} (hu : u ∈ mates a s) : card s = card (sdiff (sdiff s (2 ^ low s)) (2 ^ u)) + 2 := by
  rw [card_rest h hs, card_del (mates_sub hu) (sdiff_lt hs)]
theorem mst_card {a : List Nat} : ∀ {s : Nat}, s < 2 ^ 16 → 2 * mst a s ≤ (card s : Int) := by
  intro s
  induction s using Nat.strongRecOn with
  | _ s ih =>
    intro hs
    by_cases h : s = 0
    · subst h; rw [mst_zero, card_zero]; decide
    · have hl := less_rest h
      rcases mst_cases (a := a) h with e | ⟨u, hu, e⟩
      · have := ih _ hl (by omega)
        have := card_rest h hs
        omega
      · have h2 := sdiff_le (sdiff s (2 ^ low s)) (2 ^ u)
        have := ih (sdiff (sdiff s (2 ^ low s)) (2 ^ u)) (by omega) (by omega)
        have := card_two h hs hu
        omega
theorem sum_posI {l : List Int} (h : ∀ x ∈ l, 0 ≤ x) : 0 < l.sum ↔ ∃ x ∈ l, 0 < x := by
  induction l with
  | nil => simp
  | cons x l ih =>
    have h1 := h x (List.mem_cons_self ..)
    have h2 := sum_nonneg fun y hy => h y (List.mem_cons_of_mem _ hy)
    have h3 := ih fun y hy => h y (List.mem_cons_of_mem _ hy)
    rw [List.sum_cons]
    constructor
    · intro hp
      by_cases hx : 0 < x
      · exact ⟨x, List.mem_cons_self .., hx⟩
      · obtain ⟨y, hy, hy2⟩ := h3.1 (by omega)
        exact ⟨y, List.mem_cons_of_mem _ hy, hy2⟩
    · rintro ⟨y, hy, hy2⟩
      rcases List.mem_cons.1 hy with rfl | hy
      · omega
      · have := h3.2 ⟨y, hy, hy2⟩; omega
/-- some matching leaves none free just where the greatest has half as many edges as there are vertices -/
theorem perfect_iff {a : List Nat} : ∀ {s : Nat}, s < 2 ^ 16 → (0 < tabv a 1 (ofC true) s ↔ 2 * mst a s = (card s : Int)) := by
  intro s
  induction s using Nat.strongRecOn with
  | _ s ih =>
    intro hs
    by_cases h : s = 0
    · subst h; rw [mst_zero, card_zero, tabv_zero]; decide
    · have hl := less_rest h
      rw [tabv_step a 1 (ofC true) h, ofC, if_pos rfl, Int.zero_add, sum_posI (mates_vals h hs)]
      constructor
      · rintro ⟨x, hx, hp⟩
        obtain ⟨u, hu, rfl⟩ := List.mem_map.1 hx
        have h2 := sdiff_le (sdiff s (2 ^ low s)) (2 ^ u)
        have h3 := (ih _ (by omega) (by omega)).1 hp
        have h4 := card_two h hs hu
        have h5 := mst_mate (a := a) h hu
        have h6 := mst_card (a := a) hs
        omega
      · intro he
        rcases mst_cases (a := a) h with e | ⟨u, hu, e⟩
        · have := mst_card (a := a) (s := sdiff s (2 ^ low s)) (by omega)
          have := card_rest h hs
          omega
        · have h2 := sdiff_le (sdiff s (2 ^ low s)) (2 ^ u)
          have h4 := card_two h hs hu
          exact ⟨_, List.mem_map.2 ⟨u, hu, rfl⟩, (ih _ (by omega) (by omega)).2 (by omega)⟩
end Go.Proofs.YtadjcnllmkdgiaaDoor
