/- Tables of states by which a nice tree is run: what the rules' run computes, in an order of its own. Program-free. -/
import Derived.Test.YtmaaloijdjnblaaGreatDoorPure
namespace Go.Proofs.YtmaaloijdjnblaaGreatDoor
abbrev Tf (κ : Type) := κ → Option Int
section
variable {κ α : Type}
def noT : Tf κ := fun _ => none
structure IsL (l : List (κ × Int)) (T : Tf κ) : Prop where
  nd : (l.map (·.1)).Nodup
  mem : ∀ a n, T a = some n ↔ (a, n) ∈ l
theorem nodup_of_fst : ∀ {l : List (κ × Int)}, (l.map (·.1)).Nodup → l.Nodup
  | [], _ => List.nodup_nil
  | x :: l, h => by
    rw [List.map_cons, List.nodup_cons] at h
    exact List.nodup_cons.2 ⟨fun hx => h.1 (List.mem_map.2 ⟨x, hx, rfl⟩), nodup_of_fst h.2⟩
theorem IsL.perm {l l' : List (κ × Int)} {T : Tf κ} (h : IsL l T) (h' : IsL l' T) : l.Perm l' := by
  have h1 := nodup_of_fst h.nd
  have h2 := nodup_of_fst h'.nd
  exact (List.perm_ext_iff_of_nodup h1 h2).2 fun x => (h.mem x.1 x.2).symm.trans (h'.mem x.1 x.2)
theorem IsL.empty : IsL [] (noT : Tf κ) := ⟨List.nodup_nil, fun a n => by simp [noT]⟩
variable [DecidableEq κ]
end
def wr (x : Int) : Int := x.bmod 18446744073709551616
def putT {κ : Type} [DecidableEq κ] (T : Tf κ) (a : κ) (n : Int) : Tf κ := fun b => if b = a then some n else T b
section
variable {κ : Type} {T : Tf κ}
theorem IsL.set [DecidableEq κ] {l : List (κ × Int)} (h : IsL l T) {j : Nat} {a : κ} {o n : Int} (hj : l[j]? = some (a, o)) : IsL (l.set j (a, n)) (putT T a n) := by
  have hlt := (List.getElem?_eq_some_iff.1 hj).1
  have e1 : (l.set j (a, n)).map (·.1) = l.map (·.1) := by
    rw [List.map_set]
    refine List.ext_getElem? fun i => ?_
    rw [List.getElem?_set]
    split
    · rename_i e; subst e; rw [List.length_map, if_pos hlt, List.getElem?_map, hj]; rfl
    · rfl
  refine ⟨by rw [e1]; exact h.nd, fun b y => ?_⟩
  unfold putT
  constructor
  · intro hb
    by_cases e : b = a
    · rw [if_pos e] at hb
      obtain rfl := Option.some.inj hb
      subst e
      exact List.mem_of_getElem? (i := j) (by rw [List.getElem?_set, if_pos rfl, if_pos hlt])
    · rw [if_neg e] at hb
      obtain ⟨i, hi⟩ := List.getElem?_of_mem ((h.mem b y).1 hb)
      refine List.mem_of_getElem? (i := i) ?_
      rw [List.getElem?_set, if_neg, hi]
      intro ej; subst ej; rw [hj] at hi; exact e (congrArg Prod.fst (Option.some.inj hi)).symm
  · intro hb
    obtain ⟨i, hi⟩ := List.getElem?_of_mem hb
    rw [List.getElem?_set] at hi
    by_cases ej : j = i
    · subst ej
      rw [if_pos rfl, if_pos hlt] at hi
      have := Option.some.inj hi
      cases this
      rw [if_pos rfl]
    · rw [if_neg ej] at hi
      rw [if_neg, (h.mem b y).2 (List.mem_of_getElem? hi)]
      intro e; subst e
      have l1 : (l.map (·.1))[j]? = some b := by rw [List.getElem?_map, hj]; rfl
      have l2 : (l.map (·.1))[i]? = some b := by rw [List.getElem?_map, hi]; rfl
      exact ej ((List.getElem?_inj (List.getElem?_eq_some_iff.1 l1).1 h.nd).1 (l1.trans l2.symm))
theorem IsL.push [DecidableEq κ] {l : List (κ × Int)} (h : IsL l T) {a : κ} {n : Int} (ha : T a = none) : IsL (l ++ [(a, n)]) (putT T a n) := by
  refine ⟨?_, fun b y => ?_⟩
  · rw [List.map_append, List.nodup_append]
    refine ⟨h.nd, by simp, fun x hx y hy e => ?_⟩
    simp only [List.map_cons, List.map_nil, List.mem_singleton] at hy
    subst hy; subst e
    obtain ⟨p, hp, rfl⟩ := List.mem_map.1 hx
    have := (h.mem p.1 p.2).2 hp
    rw [ha] at this; cases this
  · unfold putT
    by_cases e : b = a
    · subst e
      rw [if_pos rfl]
      constructor
      · intro hy; obtain rfl := Option.some.inj hy; simp
      · intro hy
        rcases List.mem_append.1 hy with hy | hy
        · have := (h.mem b y).2 hy; rw [ha] at this; cases this
        · simp only [List.mem_singleton, Prod.mk.injEq] at hy; rw [hy.2]
    · rw [if_neg e, h.mem b y]
      simp [e]
end
end Go.Proofs.YtmaaloijdjnblaaGreatDoor
