/- What is gathered, summed up: tables and lists of entries. -/
import Derived.Test.YtnebbhginakaiaaRul
import Derived.Test.YtnebbhginakaiaaLib
namespace Go.Proofs.Ytnebbhginakaiaa
def eqv (x y : Int) : Prop := wr x = wr y
theorem eqv.refl (x : Int) : eqv x x := rfl
theorem eqv.symm {x y : Int} (h : eqv x y) : eqv y x := Eq.symm h
theorem eqv.trans {x y z : Int} (h : eqv x y) (k : eqv y z) : eqv x z := Eq.trans h k
theorem eqv.wr (x : Int) : eqv (wr x) x := Int.bmod_bmod
theorem eqv.add {x y x' y' : Int} (h : eqv x y) (k : eqv x' y') : eqv (x + x') (y + y') := by
  unfold eqv at *
  rw [← wr_add, h, wr_add, ← wr_add', k, wr_add']
theorem eqv.mul {x y x' y' : Int} (h : eqv x y) (k : eqv x' y') : eqv (x * x') (y * y') := by
  unfold eqv at *
  rw [← wr_mul, h, wr_mul, Int.mul_comm y x', ← wr_mul, k, wr_mul, Int.mul_comm]
theorem eqv.eq {x y : Int} (h : eqv x y) (hx : InI x) (hy : InI y) : x = y := by rw [← wr_of hx, ← wr_of hy]; exact h
theorem eqv.sum {α : Type} {f g : α → Int} : ∀ {l : List α}, (∀ x ∈ l, eqv (f x) (g x)) → eqv (l.map f).sum (l.map g).sum
  | [], _ => eqv.refl _
  | x :: l, h => by
    rw [List.map_cons, List.map_cons, List.sum_cons, List.sum_cons]
    exact (h x (by simp)).add (eqv.sum fun y hy => h y (by simp [hy]))
theorem sumI_zero {α : Type} {f : α → Int} : ∀ {l : List α}, (∀ x ∈ l, f x = 0) → (l.map f).sum = 0
  | [], _ => rfl
  | x :: l, h => by rw [List.map_cons, List.sum_cons, h x (by simp), sumI_zero (l := l) fun y hy => h y (by simp [hy])]; rfl
theorem sumI_add {α : Type} (f g : α → Int) : ∀ (l : List α), (l.map fun x => f x + g x).sum = (l.map f).sum + (l.map g).sum
  | [] => rfl
  | x :: l => by simp only [List.map_cons, List.sum_cons]; rw [sumI_add f g l]; omega
theorem flatMap_same {α β : Type} {f g : α → List β} : ∀ {l : List α}, (∀ x ∈ l, f x = g x) → l.flatMap f = l.flatMap g
  | [], _ => rfl
  | x :: l, h => by rw [List.flatMap_cons, List.flatMap_cons, h x (by simp), flatMap_same fun y hy => h y (by simp [hy])]
def finT {κ : Type} (T : Tf κ) : Prop := ∃ l, IsL l T
theorem fin_no {κ : Type} : finT (noT : Tf κ) := ⟨[], IsL.empty⟩
section
variable {κ : Type} [DecidableEq κ]
def sumAt (l : List (κ × Int)) (a : κ) : Int := (l.map fun p => if p.1 = a then p.2 else 0).sum
theorem sumAt_flatMap {α : Type} (g : α → List (κ × Int)) (a : κ) : ∀ (l : List α), sumAt (l.flatMap g) a = (l.map fun p => sumAt (g p) a).sum
  | [] => rfl
  | x :: l => by
    rw [List.flatMap_cons, List.map_cons, List.sum_cons, ← sumAt_flatMap g a l]
    unfold sumAt
    rw [List.map_append, List.sum_append]
abbrev pSum : Int → Int → Int := fun x y => wr (x + y)
theorem gat_sum (a : κ) : ∀ (l : List (κ × Int)) (T : Tf κ), eqv ((gatL pSum T l a).getD 0) ((T a).getD 0 + sumAt l a)
  | [], T => by show eqv _ ((T a).getD 0 + 0); rw [Int.add_zero]; exact eqv.refl _
  | p :: l, T => by
    have h := gat_sum a l (gatT pSum T p)
    refine h.trans ?_
    have e : sumAt (p :: l) a = (if p.1 = a then p.2 else 0) + sumAt l a := rfl
    rw [e, ← Int.add_assoc]
    refine eqv.add ?_ (eqv.refl _)
    unfold gatT
    by_cases c : a = p.1
    · subst c
      rw [if_pos rfl, if_pos rfl]
      cases T p.1 with
      | none => simp only [Option.getD_none, Option.getD_some, Int.zero_add]; exact eqv.refl _
      | some o => exact eqv.wr _
    · rw [if_neg c, if_neg (fun h => c h.symm), Int.add_zero]; exact eqv.refl _
theorem gat_supp {pick : Int → Int → Int} {a : κ} : ∀ {l : List (κ × Int)} {T : Tf κ}, gatL pick T l a ≠ none → T a ≠ none ∨ ∃ n, (a, n) ∈ l
  | [], T, h => .inl h
  | p :: l, T, h => by
    rcases gat_supp (l := l) (T := gatT pick T p) h with h | ⟨n, h⟩
    · unfold gatT at h
      by_cases c : a = p.1
      · exact .inr ⟨p.2, by rw [c]; simp⟩
      · rw [if_neg c] at h; exact .inl h
    · exact .inr ⟨n, by simp [h]⟩
def okT (T : Tf κ) : Prop := ∀ a n, T a = some n → InI n
theorem gat_ok {pick : Int → Int → Int} (hp : ∀ x y, InI x → InI y → InI (pick x y)) : ∀ {l : List (κ × Int)} {T : Tf κ}, okT T → (∀ p ∈ l, InI p.2) → okT (gatL pick T l)
  | [], T, h, _ => h
  | p :: l, T, h, hl => by
    refine gat_ok hp (l := l) (T := gatT pick T p) (fun a n hn => ?_) (fun q hq => hl q (by simp [hq]))
    have hp2 := hl p (by simp)
    unfold gatT at hn
    by_cases c : a = p.1
    · rw [if_pos c] at hn
      have := Option.some.inj hn
      cases hT : T p.1 with
      | none => rw [hT] at this; rw [← this]; exact hp2
      | some o => rw [hT] at this; rw [← this]; exact hp _ _ (h _ _ hT) hp2
    · rw [if_neg c] at hn; exact h a n hn
theorem put_fin {T : Tf κ} (h : finT T) (a : κ) (n : Int) : finT (putT T a n) := by
  obtain ⟨l, hl⟩ := h
  cases hT : T a with
  | none => exact ⟨_, hl.push hT⟩
  | some o =>
    obtain ⟨j, hj⟩ := List.getElem?_of_mem ((hl.mem a o).1 hT)
    exact ⟨_, hl.set hj⟩
theorem gat_fin {pick : Int → Int → Int} : ∀ {l : List (κ × Int)} {T : Tf κ}, finT T → finT (gatL pick T l)
  | [], T, h => h
  | p :: l, T, h => gat_fin (l := l) (T := gatT pick T p) (put_fin h p.1 _)
theorem lsum1 {l : List (κ × Int)} {T : Tf κ} (h : IsL l T) (φ : κ × Int → Int) (c : κ) : (l.map fun p => if p.1 = c then φ p else 0).sum = match T c with | some n => φ (c, n) | none => 0 := by
  cases hT : T c with
  | none =>
    refine sumI_zero fun p hp => if_neg fun e => ?_
    have := (h.mem p.1 p.2).2 hp
    rw [e, hT] at this; cases this
  | some n =>
    have hm := (h.mem c n).1 hT
    obtain ⟨A, B, rfl⟩ := List.append_of_mem hm
    have hn := h.nd
    rw [List.map_append, List.map_cons, List.nodup_append] at hn
    obtain ⟨_, n2, n3⟩ := hn
    rw [List.nodup_cons] at n2
    rw [List.map_append, List.map_cons, List.sum_append, List.sum_cons, sumI_zero (l := A), sumI_zero (l := B), if_pos rfl]
    · simp
    · exact fun p hp => if_neg fun e => n2.1 (List.mem_map.2 ⟨p, hp, e⟩)
    · exact fun p hp => if_neg fun e => n3 _ (List.mem_map.2 ⟨p, hp, rfl⟩) c (by simp) e
theorem lsum {l : List (κ × Int)} {T : Tf κ} (h : IsL l T) : ∀ (cands : List κ) (φ : κ × Int → Int), cands.Nodup → (∀ p ∈ l, p.1 ∉ cands → φ p = 0) → (l.map φ).sum = (cands.map fun s => match T s with | some n => φ (s, n) | none => 0).sum
  | [], φ, _, h0 => sumI_zero fun p hp => h0 p hp (by simp)
  | c :: cs, φ, hn, h0 => by
    rw [List.nodup_cons] at hn
    have e : φ = fun p => (if p.1 = c then φ p else 0) + (if p.1 = c then 0 else φ p) := by
      funext p; split <;> simp
    have h1 := lsum h cs (fun p => if p.1 = c then 0 else φ p) hn.2 (fun p hp hc => by
      by_cases e : p.1 = c
      · exact if_pos e
      · rw [if_neg e]; exact h0 p hp (by simp [e, hc]))
    rw [List.map_cons, List.sum_cons, ← lsum1 h φ c]
    calc (l.map φ).sum = (l.map fun p => (if p.1 = c then φ p else 0) + (if p.1 = c then 0 else φ p)).sum := by rw [← e]
      _ = (l.map fun p => if p.1 = c then φ p else 0).sum + (l.map fun p => if p.1 = c then 0 else φ p).sum := sumI_add _ _ _
      _ = _ := by
        rw [h1]
        congr 1
        refine congrArg List.sum (List.map_congr_left fun s hs => ?_)
        have : s ≠ c := fun e => hn.1 (e ▸ hs)
        cases T s with
        | none => rfl
        | some n => exact if_neg this
theorem gatF_sum {R : Ru κ} (hR : R.pick = pSum) {T : Tf κ} (hT : finT T) {f : κ × Int → Option (List (κ × Int))} (g : κ × Int → List (κ × Int)) (hf : ∀ a n, T a = some n → f (a, n) = some (g (a, n))) :
    ∃ T', gatF R T f = some T' ∧ finT T' ∧ (∀ a, T' a ≠ none → ∃ s n m, T s = some n ∧ (a, m) ∈ g (s, n)) ∧ ((∀ s n, T s = some n → ∀ p ∈ g (s, n), InI p.2) → okT T') ∧
      ∀ a (cands : List κ), cands.Nodup → (∀ s n, T s = some n → s ∉ cands → sumAt (g (s, n)) a = 0) → eqv ((T' a).getD 0) (cands.map fun s => match T s with | some n => sumAt (g (s, n)) a | none => 0).sum := by
  obtain ⟨l0, hl0⟩ := hT
  have hl := lst_is hl0
  have e : (lst T).flatMap (fun p => (f p).getD []) = (lst T).flatMap g := flatMap_same fun p hp => by rw [hf p.1 p.2 ((hl.mem p.1 p.2).2 hp)]; rfl
  refine ⟨_, by unfold gatF; rw [if_pos (fun a n h => by rw [hf a n h]; rfl)], gat_fin fin_no, fun a ha => ?_, fun hi => ?_, fun a cands hn h0 => ?_⟩
  · rw [e] at ha
    rcases gat_supp ha with h | ⟨m, h⟩
    · exact absurd rfl h
    · obtain ⟨p, hp, hm⟩ := List.mem_flatMap.1 h
      exact ⟨p.1, p.2, m, (hl.mem p.1 p.2).2 hp, hm⟩
  · rw [e, hR]
    refine gat_ok (fun x y _ _ => wr_in _) (fun a n h => by cases h) fun p hp => ?_
    obtain ⟨q, hq, hm⟩ := List.mem_flatMap.1 hp
    exact hi q.1 q.2 ((hl.mem q.1 q.2).2 hq) p hm
  · rw [e, hR]
    refine (gat_sum a _ _).trans ?_
    show eqv (0 + _) _
    rw [Int.zero_add, sumAt_flatMap, lsum hl cands (fun p => sumAt (g p) a) hn (fun p hp hc => h0 p.1 p.2 ((hl.mem p.1 p.2).2 hp) hc)]
    exact eqv.refl _
end
end Go.Proofs.Ytnebbhginakaiaa
