/- Tables of states by which a nice tree is run: what the rules' run computes, in an order of its own. Program-free. -/
import Derived.Test.YtnebbhginakaiaaPure
namespace Go.Proofs.Ytnebbhginakaiaa
abbrev Tf (κ : Type) := κ → Option Int
section
variable {κ α : Type}
def noT : Tf κ := fun _ => none
structure IsL (l : List (κ × Int)) (T : Tf κ) : Prop where
  nd : (l.map (·.1)).Nodup
  mem : ∀ a n, T a = some n ↔ (a, n) ∈ l
open Classical in
noncomputable def lst (T : Tf κ) : List (κ × Int) := if h : ∃ l, IsL l T then h.choose else []
theorem lst_is {l : List (κ × Int)} {T : Tf κ} (h : IsL l T) : IsL (lst T) T := by
  unfold lst
  have e : ∃ l, IsL l T := ⟨l, h⟩
  rw [dif_pos e]; exact e.choose_spec
theorem nodup_of_fst : ∀ {l : List (κ × Int)}, (l.map (·.1)).Nodup → l.Nodup
  | [], _ => List.nodup_nil
  | x :: l, h => by
    rw [List.map_cons, List.nodup_cons] at h
    exact List.nodup_cons.2 ⟨fun hx => h.1 (List.mem_map.2 ⟨x, hx, rfl⟩), nodup_of_fst h.2⟩
theorem IsL.perm {l l' : List (κ × Int)} {T : Tf κ} (h : IsL l T) (h' : IsL l' T) : l.Perm l' := by
  have h1 := nodup_of_fst h.nd
  have h2 := nodup_of_fst h'.nd
  exact (List.perm_ext_iff_of_nodup h1 h2).2 fun x => (h.mem x.1 x.2).symm.trans (h'.mem x.1 x.2)
theorem IsL.empty : IsL [] (noT : Tf κ) := ⟨List.nodup_nil, fun a n => by simp [noT]⟩
variable [DecidableEq κ]
def gatT (pick : Int → Int → Int) (T : Tf κ) (p : κ × Int) : Tf κ := fun b => if b = p.1 then some (match T p.1 with | some o => pick o p.2 | none => p.2) else T b
def gatL (pick : Int → Int → Int) (T : Tf κ) (l : List (κ × Int)) : Tf κ := l.foldl (gatT pick) T
structure Picks (pick : Int → Int → Int) : Prop where
  swap : ∀ o x y, pick (pick o x) y = pick (pick o y) x
  comm : ∀ x y, pick x y = pick y x
theorem gatT_swap {pick : Int → Int → Int} (hp : Picks pick) (T : Tf κ) (p q : κ × Int) : gatT pick (gatT pick T p) q = gatT pick (gatT pick T q) p := by
  funext b
  unfold gatT
  by_cases e : p.1 = q.1
  · rw [e]
    by_cases hb : b = q.1
    · simp only [hb, if_true]
      cases T q.1 with
      | none => rw [hp.comm]
      | some o => simp only; rw [hp.swap]
    · simp only [hb, if_false]
  · have e' : ¬ q.1 = p.1 := fun h => e h.symm
    by_cases hb : b = q.1
    · subst hb; simp only [if_true, e', if_false]
    · by_cases hb2 : b = p.1
      · subst hb2; simp only [if_true, e, if_false]
      · simp only [hb, hb2, if_false]
theorem gatL_perm {pick : Int → Int → Int} (hp : Picks pick) {l l' : List (κ × Int)} (h : l.Perm l') (T : Tf κ) : gatL pick T l = gatL pick T l' := by
  induction h generalizing T with
  | nil => rfl
  | cons x _ ih => exact ih _
  | swap x y l => show gatL pick (gatT pick (gatT pick T y) x) l = gatL pick (gatT pick (gatT pick T x) y) l; rw [gatT_swap hp]
  | trans _ _ ih1 ih2 => exact (ih1 T).trans (ih2 T)
theorem gatL_append (pick : Int → Int → Int) (T : Tf κ) (l l' : List (κ × Int)) : gatL pick T (l ++ l') = gatL pick (gatL pick T l) l' := List.foldl_append
theorem gat_step (pick : Int → Int → Int) (T : Tf κ) (done : List α) (p : α) (g : α → List (κ × Int)) : gatL pick T ((done ++ [p]).flatMap g) = gatL pick (gatL pick T (done.flatMap g)) (g p) := by
  rw [List.flatMap_append, gatL_append]; simp
theorem perm_step {d r r' l : List α} {p : α} (h : (d ++ r).Perm l) (h' : r.Perm (p :: r')) : ((d ++ [p]) ++ r').Perm l := by
  rw [List.append_assoc]; exact (List.Perm.append_left d h').symm.trans h
theorem len_step {r r' : List α} {p : α} (h' : r.Perm (p :: r')) : r'.length < r.length := by
  have := h'.length_eq
  rw [List.length_cons] at this; omega
theorem mem_step {d r r' l : List α} {p : α} (h : (d ++ r).Perm l) (h' : r.Perm (p :: r')) : p ∈ l := h.mem_iff.1 (List.mem_append_right _ (h'.mem_iff.2 (by simp)))
structure Ru (κ : Type) where
  add : κ → Int → BitVec 32 → Option (List κ)
  drop : κ → Int → BitVec 32 → Int → Option (Tf κ)
  meet : κ → κ → κ × Bool
  both : Int → Int → Int
  pick : Int → Int → Int
noncomputable def cAdd (R : Ru κ) (v : Int) (m : BitVec 32) (p : κ × Int) : Option (List (κ × Int)) := (R.add p.1 v m).map fun l => l.map fun s => (s, p.2)
noncomputable def cDrop (R : Ru κ) (v : Int) (m : BitVec 32) (p : κ × Int) : Option (List (κ × Int)) := (R.drop p.1 v m p.2).map lst
noncomputable def cMeet1 (R : Ru κ) (p q : κ × Int) : List (κ × Int) := if (R.meet p.1 q.1).2 = true then [((R.meet p.1 q.1).1, R.both p.2 q.2)] else []
noncomputable def cMeet (R : Ru κ) (U : Tf κ) (p : κ × Int) : Option (List (κ × Int)) := some ((lst U).flatMap (cMeet1 R p))
open Classical in
noncomputable def gatF (R : Ru κ) (T : Tf κ) (f : κ × Int → Option (List (κ × Int))) : Option (Tf κ) :=
  if ∀ a n, T a = some n → (f (a, n)).isSome then some (gatL R.pick noT ((lst T).flatMap fun p => (f p).getD [])) else none
theorem gatF_some {R : Ru κ} {T T' : Tf κ} {f : κ × Int → Option (List (κ × Int))} (h : gatF R T f = some T') : (∀ a n, T a = some n → (f (a, n)).isSome) ∧ T' = gatL R.pick noT ((lst T).flatMap fun p => (f p).getD []) := by
  unfold gatF at h
  split at h
  · rename_i c; exact ⟨c, (Option.some.inj h).symm⟩
  · cases h
theorem gatF_perm {R : Ru κ} (hp : Picks R.pick) {T T' : Tf κ} {f : κ × Int → Option (List (κ × Int))} (h : gatF R T f = some T') {l l' : List (κ × Int)} (hl : IsL l T) (hl' : l'.Perm l) : gatL R.pick noT (l'.flatMap fun p => (f p).getD []) = T' := by
  rw [(gatF_some h).2]
  exact gatL_perm hp ((hl'.trans (hl.perm (lst_is hl))).flatMap_right _) _
noncomputable def nodeT (mask : List Int → Option (BitVec 32)) (R : Ru κ) (start : Tf κ) (bags : List (List Int)) (ts : List (Tf κ)) (i : Int) (kind v : Int) (kids : List Int) : Option (Tf κ) :=
  if kind = 1 then some start
  else if kind = 2 then idx kids 0 fun k => idx ts k fun T => idx bags k fun b => cal (mask b) fun m => gatF R T (cAdd R v m)
  else if kind = 3 then idx kids 0 fun k => idx ts k fun T => idx bags i fun b => cal (mask b) fun m => gatF R T (cDrop R v m)
  else if kind = 4 then idx kids 0 fun k => idx ts k fun T => idx kids 1 fun k' => idx ts k' fun U => gatF R T (cMeet R U)
  else some noT
noncomputable def runL (mask : List Int → Option (BitVec 32)) (R : Ru κ) (start : Tf κ) (kinds verts : List Int) (bags kids : List (List Int)) (ts : List (Tf κ)) (i : Int) : Option ((List (Tf κ) × Int) ⊕ List (Tf κ)) :=
  if i < (kinds.length : Int) then
    idx kinds i fun kind => idx verts i fun v => idx kids i fun ks => cal (nodeT mask R start bags ts i kind v ks) fun T => app ts [T] fun ts' => ck (i + 1) fun _ => some (.inl (ts', i + 1))
  else some (.inr ts)
noncomputable def runF (mask : List Int → Option (BitVec 32)) (R : Ru κ) (start : Tf κ) (kinds verts : List Int) (bags kids : List (List Int)) : Option (Tf κ) :=
  cal (lp (fun s => runL mask R start kinds verts bags kids s.1 s.2) (([] : List (Tf κ)), (0 : Int))) fun j => ck ((j.length : Int) - 1) fun _ => idx j ((j.length : Int) - 1) fun T => some T
end
def wr (x : Int) : Int := x.bmod 18446744073709551616
theorem wr_in (x : Int) : InI (wr x) := by
  unfold wr InI
  have h1 := Int.le_bmod (x := x) (m := 18446744073709551616) (by decide)
  have h2 := Int.bmod_lt (x := x) (m := 18446744073709551616) (by decide)
  omega
theorem wr_of {x : Int} (h : InI x) : wr x = x := by
  unfold InI at h
  unfold wr
  refine Int.bmod_eq_of_le ?_ ?_ <;> omega
theorem picks_min : Picks min := ⟨fun o x y => by omega, fun x y => by omega⟩
def putT {κ : Type} [DecidableEq κ] (T : Tf κ) (a : κ) (n : Int) : Tf κ := fun b => if b = a then some n else T b
section
variable {κ : Type} {T : Tf κ}
theorem IsL.set [DecidableEq κ] {l : List (κ × Int)} (h : IsL l T) {j : Nat} {a : κ} {o n : Int} (hj : l[j]? = some (a, o)) : IsL (l.set j (a, n)) (putT T a n) := by
  have hlt := (List.getElem?_eq_some_iff.1 hj).1
  have e1 : (l.set j (a, n)).map (·.1) = l.map (·.1) := by
    rw [List.map_set]
    refine List.ext_getElem? fun i => ?_
    rw [List.getElem?_set]
    split
    · rename_i e; subst e; rw [List.length_map, if_pos hlt, List.getElem?_map, hj]; rfl
    · rfl
  refine ⟨by rw [e1]; exact h.nd, fun b y => ?_⟩
  unfold putT
  constructor
  · intro hb
    by_cases e : b = a
    · rw [if_pos e] at hb
      obtain rfl := Option.some.inj hb
      subst e
      exact List.mem_of_getElem? (i := j) (by rw [List.getElem?_set, if_pos rfl, if_pos hlt])
    · rw [if_neg e] at hb
      obtain ⟨i, hi⟩ := List.getElem?_of_mem ((h.mem b y).1 hb)
      refine List.mem_of_getElem? (i := i) ?_
      rw [List.getElem?_set, if_neg, hi]
      intro ej; subst ej; rw [hj] at hi; exact e (congrArg Prod.fst (Option.some.inj hi)).symm
  · intro hb
    obtain ⟨i, hi⟩ := List.getElem?_of_mem hb
    rw [List.getElem?_set] at hi
    by_cases ej : j = i
    · subst ej
      rw [if_pos rfl, if_pos hlt] at hi
      have := Option.some.inj hi
      cases this
      rw [if_pos rfl]
    · rw [if_neg ej] at hi
      rw [if_neg, (h.mem b y).2 (List.mem_of_getElem? hi)]
      intro e; subst e
      have l1 : (l.map (·.1))[j]? = some b := by rw [List.getElem?_map, hj]; rfl
      have l2 : (l.map (·.1))[i]? = some b := by rw [List.getElem?_map, hi]; rfl
      exact ej ((List.getElem?_inj (List.getElem?_eq_some_iff.1 l1).1 h.nd).1 (l1.trans l2.symm))
theorem IsL.push [DecidableEq κ] {l : List (κ × Int)} (h : IsL l T) {a : κ} {n : Int} (ha : T a = none) : IsL (l ++ [(a, n)]) (putT T a n) := by
  refine ⟨?_, fun b y => ?_⟩
  · rw [List.map_append, List.nodup_append]
    refine ⟨h.nd, by simp, fun x hx y hy e => ?_⟩
    simp only [List.map_cons, List.map_nil, List.mem_singleton] at hy
    subst hy; subst e
    obtain ⟨p, hp, rfl⟩ := List.mem_map.1 hx
    have := (h.mem p.1 p.2).2 hp
    rw [ha] at this; cases this
  · unfold putT
    by_cases e : b = a
    · subst e
      rw [if_pos rfl]
      constructor
      · intro hy; obtain rfl := Option.some.inj hy; simp
      · intro hy
        rcases List.mem_append.1 hy with hy | hy
        · have := (h.mem b y).2 hy; rw [ha] at this; cases this
        · simp only [List.mem_singleton, Prod.mk.injEq] at hy; rw [hy.2]
    · rw [if_neg e, h.mem b y]
      simp [e]
end
end Go.Proofs.Ytnebbhginakaiaa
