/- Plain texts: Rot, RotD, RotC, RotS, RotN, RotP, RotQ, RotE, RotW, Lib, Fold, Loops, LawSz, LawCopy, LawIn, Graph, RotR, Bitset. -/
import Derived.Test.YtmaaloijdjnblaaGreatDoorF
import Derived.Test.YtmaaloijdjnblaaGreatDoorPure
/- Cycles of a function, classes of a relation: their number. Program-free. -/
namespace Go.Proofs.YtmaaloijdjnblaaGreatDoor
section
variable {α : Type}
def Pth (φ : α → α) (b : α) : List α → Prop
  | [] => True
  | [x] => φ x = b
  | x :: z :: l => φ x = z ∧ Pth φ b (z :: l)
theorem pth_app {φ : α → α} {b : α} : ∀ {l m : List α}, Pth φ b (l ++ m) ↔ Pth φ (m.headD b) l ∧ Pth φ b m
  | [], m => by simp [Pth]
  | [x], [] => by simp [Pth]
  | [x], z :: m => by simp [Pth]
  | x :: z :: l, m => by
    have := pth_app (φ := φ) (b := b) (l := z :: l) (m := m)
    simp only [List.cons_append, Pth] at this ⊢
    rw [this, and_assoc]
theorem pth_congr {φ φ' : α → α} {b : α} : ∀ {l : List α}, (∀ x ∈ l, φ' x = φ x) → Pth φ b l → Pth φ' b l
  | [], _, _ => trivial
  | [x], h, g => (h x (by simp)).trans g
  | x :: z :: l, h, g => ⟨(h x (by simp)).trans g.1, pth_congr (fun y hy => h y (by simp [hy])) g.2⟩
def Cyc (φ : α → α) (c : List α) : Prop := ∃ x l, c = x :: l ∧ Pth φ x c
theorem Cyc.rot {φ : α → α} {l m : List α} (h : Cyc φ (l ++ m)) : Cyc φ (m ++ l) := by
  obtain ⟨x, k, e, hp⟩ := h
  cases l with
  | nil => simp only [List.nil_append, List.append_nil] at e hp ⊢; exact ⟨x, k, e, hp⟩
  | cons y l =>
    cases m with
    | nil => simp only [List.nil_append, List.append_nil] at e hp ⊢; exact ⟨x, k, e, hp⟩
    | cons z m =>
      simp only [List.cons_append, List.cons.injEq] at e
      obtain ⟨rfl, _⟩ := e
      rw [pth_app] at hp
      refine ⟨z, m ++ y :: l, rfl, pth_app.2 ⟨?_, ?_⟩⟩
      · exact hp.2
      · exact hp.1
theorem Cyc.ne {φ : α → α} {c : List α} (h : Cyc φ c) : c ≠ [] := by
  obtain ⟨x, l, rfl, _⟩ := h; simp
theorem pth_all {φ : α → α} {b : α} {S : α → Prop} (hS : ∀ x, S x → S (φ x)) : ∀ {l : List α} {x : α}, Pth φ b (x :: l) → S x → (∀ y ∈ x :: l, S y) ∧ S b
  | [], x, h, hx => ⟨fun y hy => by rw [List.mem_singleton.1 hy]; exact hx, by have h : φ x = b := h; rw [← h]; exact hS x hx⟩
  | z :: l, x, h, hx => by
    have hz : S z := by rw [← h.1]; exact hS x hx
    obtain ⟨h1, h2⟩ := pth_all hS h.2 hz
    refine ⟨fun y hy => ?_, h2⟩
    rcases List.mem_cons.1 hy with e | e
    · rw [e]; exact hx
    · exact h1 y e
theorem Cyc.from {φ : α → α} {c : List α} (h : Cyc φ c) {x : α} (hx : x ∈ c) : ∃ l m, c = l ++ x :: m ∧ Cyc φ (x :: (m ++ l)) := by
  obtain ⟨l, m, rfl⟩ := List.append_of_mem hx
  exact ⟨l, m, rfl, by have := h.rot; simpa using this⟩
theorem Cyc.next {φ : α → α} {c : List α} (h : Cyc φ c) {x : α} (hx : x ∈ c) : φ x ∈ c := by
  obtain ⟨l, m, rfl, y, k, e, hp⟩ := h.from hx
  injection e with e1 e2; subst e1
  cases hml : m ++ l with
  | nil =>
    rw [hml] at hp; have hp : φ x = x := hp
    rw [hp]; simp
  | cons z r =>
    rw [hml] at hp
    have : z ∈ m ++ l := by rw [hml]; simp
    rw [hp.1]; simp only [List.mem_append, List.mem_cons] at this ⊢; rcases this with h | h
    · exact .inr (.inr h)
    · exact .inl h
def Rc (R : α → α → Prop) (x y : α) : Prop := ∀ S : α → Prop, (∀ a b, S a → R a b → S b) → S x → S y
theorem Rc.refl {R : α → α → Prop} (x : α) : Rc R x x := fun _ _ h => h
theorem Rc.trans {R : α → α → Prop} {x y z : α} (h : Rc R x y) (g : Rc R y z) : Rc R x z := fun S hS hx => g S hS (h S hS hx)
theorem Rc.one {R : α → α → Prop} {x y : α} (h : R x y) : Rc R x y := fun S hS hx => hS x y hx h
theorem Rc.mono {R R' : α → α → Prop} (hR : ∀ a b, R a b → R' a b) {x y : α} (h : Rc R x y) : Rc R' x y := fun S hS hx => h S (fun a b ha hab => hS a b ha (hR a b hab)) hx
theorem Rc.symm {R : α → α → Prop} (hR : ∀ a b, R a b → R b a) {x y : α} (h : Rc R x y) : Rc R y x :=
  h (fun z => Rc R z x) (fun a b ha hab => (Rc.one (hR a b hab)).trans ha) (Rc.refl x)
structure Part (R : α → α → Prop) (D : α → Prop) (ps : List (List α)) : Prop where
  ne : ∀ p ∈ ps, p ≠ []
  con : ∀ p ∈ ps, ∀ x ∈ p, ∀ y ∈ p, Rc R x y
  clo : ∀ p ∈ ps, ∀ x ∈ p, ∀ y, R x y → y ∈ p
  nd : ps.flatten.Nodup
  mem : ∀ x, x ∈ ps.flatten ↔ D x
theorem Part.perm {R : α → α → Prop} {D : α → Prop} {ps qs : List (List α)} (h : Part R D ps) (hp : ps.Perm qs) : Part R D qs :=
  ⟨fun p hq => h.ne p (hp.mem_iff.2 hq), fun p hq => h.con p (hp.mem_iff.2 hq), fun p hq => h.clo p (hp.mem_iff.2 hq), (hp.flatten.nodup_iff).1 h.nd, fun x => by rw [← h.mem x]; exact (hp.flatten.mem_iff).symm⟩
theorem Part.pick {R : α → α → Prop} {D : α → Prop} {ps : List (List α)} (h : Part R D ps) {p : List α} (hp : p ∈ ps) : ∃ rs, ps.Perm (p :: rs) ∧ Part R D (p :: rs) := by
  obtain ⟨s, t, rfl⟩ := List.append_of_mem hp
  exact ⟨s ++ t, List.perm_middle, h.perm List.perm_middle⟩
theorem Part.at {R : α → α → Prop} {D : α → Prop} {ps : List (List α)} (h : Part R D ps) {x : α} (hx : D x) : ∃ p rs, x ∈ p ∧ ps.Perm (p :: rs) ∧ Part R D (p :: rs) := by
  obtain ⟨p, hp, hxp⟩ := List.mem_flatten.1 ((h.mem x).2 hx)
  obtain ⟨rs, h1, h2⟩ := h.pick hp
  exact ⟨p, rs, hxp, h1, h2⟩
theorem Part.tail {R : α → α → Prop} {D : α → Prop} {p : List α} {ps : List (List α)} (h : Part R D (p :: ps)) : Part R (fun x => D x ∧ x ∉ p) ps := by
  have hn := h.nd
  rw [List.flatten_cons, List.nodup_append] at hn
  refine ⟨fun q hq => h.ne q (by simp [hq]), fun q hq => h.con q (by simp [hq]), fun q hq => h.clo q (by simp [hq]), hn.2.1, fun x => ?_⟩
  constructor
  · intro hx
    exact ⟨(h.mem x).1 (by rw [List.flatten_cons]; exact List.mem_append_right _ hx), fun hp => hn.2.2 x hp x hx rfl⟩
  · rintro ⟨h1, h2⟩
    have := (h.mem x).2 h1
    rw [List.flatten_cons] at this
    exact (List.mem_append.1 this).resolve_left h2
theorem Part.sub {R : α → α → Prop} {D D' : α → Prop} {ps qs : List (List α)} (h : Part R D ps) (g : Part R D' qs) {p q : List α} (hp : p ∈ ps) (hq : q ∈ qs) {x : α} (hxp : x ∈ p) (hxq : x ∈ q) : ∀ y ∈ p, y ∈ q :=
  fun y hy => h.con p hp x hxp y hy (· ∈ q) (fun a b ha hab => g.clo q hq a ha b hab) hxq
theorem Part.uniq {R : α → α → Prop} : ∀ {ps qs : List (List α)} {D : α → Prop}, Part R D ps → Part R D qs → ps.length = qs.length
  | [], [], _, _, _ => rfl
  | [], q :: qs, D, h, g => by
    obtain ⟨x, hx⟩ := List.exists_mem_of_ne_nil q (g.ne q (by simp))
    have := (h.mem x).2 ((g.mem x).1 (by rw [List.flatten_cons]; exact List.mem_append_left _ hx))
    simp at this
  | p :: ps, qs, D, h, g => by
    obtain ⟨x, hx⟩ := List.exists_mem_of_ne_nil p (h.ne p (by simp))
    obtain ⟨q, rs, hxq, hperm, g'⟩ := g.at ((h.mem x).1 (by rw [List.flatten_cons]; exact List.mem_append_left _ hx))
    have h1 := h.sub g' (p := p) (q := q) (by simp) (by simp) hx hxq
    have h2 := g'.sub h (p := q) (q := p) (by simp) (by simp) hxq hx
    have g2 := g'.tail
    have : Part R (fun x => D x ∧ x ∉ p) rs := by
      have e : (fun x => D x ∧ x ∉ q) = (fun x => D x ∧ x ∉ p) := funext fun y => propext ⟨fun ⟨a, b⟩ => ⟨a, fun c => b (h1 y c)⟩, fun ⟨a, b⟩ => ⟨a, fun c => b (h2 y c)⟩⟩
      rwa [e] at g2
    rw [hperm.length_eq, List.length_cons, List.length_cons, Part.uniq h.tail this]
theorem Part.flen {R R' : α → α → Prop} {D : α → Prop} {ps qs : List (List α)} (h : Part R D ps) (g : Part R' D qs) : ps.flatten.length = qs.flatten.length :=
  ((List.perm_ext_iff_of_nodup h.nd g.nd).2 fun x => (h.mem x).trans (g.mem x).symm).length_eq
theorem Part.nil (R : α → α → Prop) {D : α → Prop} (h : ∀ x, ¬ D x) : Part R D [] :=
  ⟨by simp, by simp, by simp, by simp, fun x => by simp [h x]⟩
end
end Go.Proofs.YtmaaloijdjnblaaGreatDoor

/- Cycles of a function when two more are put in. Program-free. -/
namespace Go.Proofs.YtmaaloijdjnblaaGreatDoor
section
variable {α : Type}
structure Dec (φ : α → α) (D : α → Prop) (fs : List (List α)) : Prop where
  cyc : ∀ c ∈ fs, Cyc φ c
  nd : fs.flatten.Nodup
  mem : ∀ x, x ∈ fs.flatten ↔ D x
variable {φ φ' : α → α} {D D' : α → Prop} {fs gs : List (List α)}
theorem Dec.part (h : Dec φ D fs) : Part (fun x y => φ x = y) D fs where
  ne c hc := (h.cyc c hc).ne
  con c hc x hx y hy S hS hSx := by
    obtain ⟨l, m, rfl, z, k, e, hp⟩ := (h.cyc c hc).from hx
    injection e with e1 e2; subst e1
    refine (pth_all (fun a ha => hS a _ ha rfl) hp hSx).1 y ?_
    simp only [List.mem_append, List.mem_cons] at hy ⊢
    rcases hy with h | h | h
    · exact .inr (.inr h)
    · exact .inl h
    · exact .inr (.inl h)
  clo c hc x hx y hy := by rw [← hy]; exact (h.cyc c hc).next hx
  nd := h.nd
  mem := h.mem
theorem Dec.perm (h : Dec φ D fs) (hp : fs.Perm gs) : Dec φ D gs :=
  ⟨fun p hq => h.cyc p (hp.mem_iff.2 hq), (hp.flatten.nodup_iff).1 h.nd, fun x => by rw [← h.mem x]; exact (hp.flatten.mem_iff).symm⟩
theorem Dec.congr (h : Dec φ D fs) (hφ : ∀ x, D x → φ' x = φ x) (hD : ∀ x, D x ↔ D' x) : Dec φ' D' fs :=
  ⟨fun c hc => by
    obtain ⟨x, l, e, hp⟩ := h.cyc c hc
    exact ⟨x, l, e, pth_congr (fun y hy => hφ y ((h.mem y).1 (List.mem_flatten.2 ⟨c, hc, hy⟩))) hp⟩, h.nd, fun x => (h.mem x).trans (hD x)⟩
theorem Dec.last (h : Dec φ D fs) {x : α} (hx : D x) : ∃ l rs, fs.length = rs.length + 1 ∧ Dec φ D ((l ++ [x]) :: rs) := by
  obtain ⟨c, hc, hxc⟩ := List.mem_flatten.1 ((h.mem x).2 hx)
  obtain ⟨s, t, rfl⟩ := List.append_of_mem hc
  obtain ⟨l, m, rfl, hcy⟩ := (h.cyc c hc).from hxc
  have h1 : Dec φ D ((l ++ x :: m) :: (s ++ t)) := h.perm List.perm_middle
  have hp : ((l ++ x :: m)).Perm ((m ++ l) ++ [x]) := by
    have : (l ++ x :: m).Perm ((x :: m) ++ l) := List.perm_append_comm
    refine this.trans ?_
    rw [List.cons_append]
    exact (List.perm_append_comm (l₁ := [x]) (l₂ := m ++ l))
  have hcy2 : Cyc φ ((m ++ l) ++ [x]) := by
    have := Cyc.rot (φ := φ) (l := [x]) (m := m ++ l) hcy
    exact this
  have hfl : ((l ++ x :: m) :: (s ++ t)).flatten.Perm (((m ++ l) ++ [x]) :: (s ++ t)).flatten := by
    rw [List.flatten_cons, List.flatten_cons]; exact List.Perm.append hp (List.Perm.refl _)
  refine ⟨m ++ l, s ++ t, ?_, ⟨fun c hc => ?_, (hfl.nodup_iff).1 h1.nd, fun y => by rw [← h1.mem y]; exact hfl.mem_iff.symm⟩⟩
  · simp; omega
  · rcases List.mem_cons.1 hc with e | e
    · rw [e]; exact hcy2
    · exact h1.cyc c (by simp [e])
theorem pth_last {b x : α} {l : List α} : Pth φ b (l ++ [x]) ↔ Pth φ x l ∧ φ x = b := by rw [pth_app]; exact Iff.rfl
theorem headD_app (l : List α) (x y : α) : (l ++ [x]).headD y = l.headD x := by cases l <;> rfl
theorem cyc_last {x : α} {l : List α} : Cyc φ (l ++ [x]) ↔ Pth φ x l ∧ φ x = l.headD x := by
  constructor
  · rintro ⟨y, k, e, hp⟩
    rw [pth_last] at hp
    refine ⟨hp.1, hp.2.trans ?_⟩
    rw [← headD_app l x y, e]; rfl
  · rintro ⟨h1, h2⟩
    cases l with
    | nil => exact ⟨x, [], rfl, h2⟩
    | cons y l => exact ⟨y, l ++ [x], rfl, pth_last.2 ⟨h1, h2⟩⟩
theorem Dec.tailc {c : List α} (h : Dec φ D (c :: fs)) (hφ : ∀ x, D x → x ∉ c → φ' x = φ x) : ∀ k ∈ fs, Cyc φ' k := fun k hk => by
  obtain ⟨x, l, e, hp⟩ := h.cyc k (by simp [hk])
  have hn := h.nd
  rw [List.flatten_cons, List.nodup_append] at hn
  refine ⟨x, l, e, pth_congr (fun y hy => hφ y ?_ ?_) hp⟩
  · exact (h.mem y).1 (List.mem_flatten.2 ⟨k, by simp [hk], hy⟩)
  · exact fun hyc => hn.2.2 y hyc y (List.mem_flatten.2 ⟨k, hk, hy⟩) rfl
theorem Dec.zero (h : Dec φ D fs) {e e' : α} (he : ¬ D e) (he' : ¬ D e') (hne : e ≠ e') (h1 : φ' e = e') (h2 : φ' e' = e) (hφ : ∀ x, D x → φ' x = φ x) (hD : ∀ x, D' x ↔ x = e ∨ x = e' ∨ D x) :
    ∃ gs, Dec φ' D' gs ∧ gs.length = fs.length + 1 := by
  refine ⟨[e, e'] :: fs, ⟨fun c hc => ?_, ?_, fun x => ?_⟩, rfl⟩
  · rcases List.mem_cons.1 hc with rfl | hc
    · exact ⟨e, [e'], rfl, h1, h2⟩
    · exact (h.congr (φ' := φ') (D' := D) hφ fun x => Iff.rfl).cyc c hc
  · rw [List.flatten_cons, List.nodup_append]
    refine ⟨by simp [hne], h.nd, fun a ha b hb => ?_⟩
    rintro rfl
    have := (h.mem a).1 hb
    simp only [List.mem_cons, List.not_mem_nil, or_false] at ha
    rcases ha with rfl | rfl
    · exact he this
    · exact he' this
  · rw [List.flatten_cons, List.mem_append, hD, h.mem]; simp [or_assoc]
theorem Dec.one (h : Dec φ D fs) {d e e' : α} (hd : D d) (he : ¬ D e) (he' : ¬ D e') (hne : e ≠ e') (h0 : φ' d = e) (h1 : φ' e = e') (h2 : φ' e' = φ d) (hφ : ∀ x, D x → x ≠ d → φ' x = φ x) (hD : ∀ x, D' x ↔ x = e ∨ x = e' ∨ D x) :
    ∃ gs, Dec φ' D' gs ∧ gs.length = fs.length := by
  obtain ⟨l, rs, hlen, h'⟩ := h.last hd
  have hn := h'.nd
  rw [List.flatten_cons, List.nodup_append, List.nodup_append] at hn
  have hc := cyc_last.1 (h'.cyc _ (List.mem_cons_self ..))
  have hDl : ∀ x ∈ l, D x := fun x hx => (h'.mem x).1 (by simp [hx])
  have hdl : d ∉ l := fun hx => hn.1.2.2 d hx d (by simp) rfl
  refine ⟨((l ++ [d, e]) ++ [e']) :: rs, ⟨fun c hc' => ?_, ?_, fun x => ?_⟩, by simp [hlen]⟩
  · rcases List.mem_cons.1 hc' with rfl | hc'
    · refine cyc_last.2 ⟨?_, ?_⟩
      · rw [pth_app]
        exact ⟨pth_congr (fun x hx => hφ x (hDl x hx) fun e => hdl (e ▸ hx)) hc.1, h0, h1⟩
      · rw [h2, hc.2]; cases l <;> rfl
    · exact h'.tailc (φ' := φ') (fun x hx hxc => hφ x hx fun e => hxc (by simp [e])) c hc'
  · have hp : (((l ++ [d, e]) ++ [e']) :: rs).flatten.Perm (e :: e' :: ((l ++ [d]) :: rs).flatten) := by
      simp only [List.flatten_cons, List.append_assoc, List.cons_append, List.nil_append]
      have p1 : (l ++ d :: e :: e' :: rs.flatten).Perm (e :: e' :: (l ++ d :: rs.flatten)) := by
        have : (d :: e :: e' :: rs.flatten).Perm (e :: e' :: d :: rs.flatten) := (List.Perm.swap _ _ _).trans (List.Perm.cons _ (List.Perm.swap _ _ _))
        exact (List.Perm.append_left l this).trans (List.perm_middle.trans (List.Perm.cons _ List.perm_middle))
      exact p1
    rw [hp.nodup_iff, List.nodup_cons, List.nodup_cons]
    exact ⟨fun hm => by
      rcases List.mem_cons.1 hm with q | q
      · exact hne q
      · exact he ((h'.mem e).1 q), fun hm => he' ((h'.mem e').1 hm), h'.nd⟩
  · rw [hD, ← h'.mem]; simp only [List.flatten_cons, List.mem_append, List.mem_cons, List.not_mem_nil, or_false]
    constructor
    · rintro (((h | h | h) | h) | h) <;> simp [h]
    · rintro (h | h | (h | h) | h) <;> simp [h]
theorem Dec.same (h : Dec φ D fs) {d d' e e' : α} (hd : D d) (hd' : D d') (hdd : d ≠ d') (he : ¬ D e) (he' : ¬ D e') (hne : e ≠ e') (hs : Rc (fun x y => φ x = y) d d')
    (h0 : φ' d = e) (h1 : φ' e = φ d') (h2 : φ' d' = e') (h3 : φ' e' = φ d) (hφ : ∀ x, D x → x ≠ d → x ≠ d' → φ' x = φ x) (hD : ∀ x, D' x ↔ x = e ∨ x = e' ∨ D x) :
    ∃ gs, Dec φ' D' gs ∧ gs.length = fs.length + 1 := by
  obtain ⟨l, rs, hlen, h'⟩ := h.last hd
  have hn := h'.nd
  have hc0 := h'.cyc _ (List.mem_cons_self ..)
  have hm : d' ∈ l := by
    have := hs (· ∈ l ++ [d]) (fun a b ha hab => by rw [← hab]; exact hc0.next ha) (by simp)
    rcases List.mem_append.1 this with h | h
    · exact h
    · exact absurd (List.mem_singleton.1 h).symm hdd
  obtain ⟨p, q, rfl⟩ := List.append_of_mem hm
  rw [List.flatten_cons, List.nodup_append, List.nodup_append, List.nodup_append] at hn
  obtain ⟨⟨⟨np, nq, npq⟩, _, nld⟩, nrs, nlr⟩ := hn
  have hc := cyc_last.1 hc0
  rw [show p ++ d' :: q = p ++ ([d'] ++ q) by simp, pth_app, pth_app] at hc
  obtain ⟨⟨c1, c2, c3⟩, c4⟩ := hc
  have c2 : φ d' = q.headD d := c2
  have c1 : Pth φ d' p := c1
  have hDp : ∀ x ∈ p, D x := fun x hx => (h'.mem x).1 (by simp [hx])
  have hDq : ∀ x ∈ q, D x := fun x hx => (h'.mem x).1 (by simp [hx])
  have hp' : ∀ x ∈ p, φ' x = φ x := fun x hx => hφ x (hDp x hx) (fun e => nld x (by simp [hx]) d (by simp) e) (fun e => npq x hx d' (by simp) e)
  have hq' : ∀ x ∈ q, φ' x = φ x := fun x hx => hφ x (hDq x hx) (fun e => nld x (by simp [hx]) d (by simp) e) (fun e => by rw [List.nodup_cons] at nq; exact nq.1 (e ▸ hx))
  refine ⟨((e :: q) ++ [d]) :: ((e' :: p) ++ [d']) :: rs, ⟨fun c hc' => ?_, ?_, fun x => ?_⟩, by simp [hlen]⟩
  · rcases List.mem_cons.1 hc' with rfl | hc'
    · refine cyc_last.2 ⟨?_, h0⟩
      show Pth φ' d ([e] ++ q)
      exact pth_app.2 ⟨h1.trans c2, pth_congr hq' c3⟩
    · rcases List.mem_cons.1 hc' with rfl | hc'
      · refine cyc_last.2 ⟨?_, h2⟩
        show Pth φ' d' ([e'] ++ p)
        refine pth_app.2 ⟨h3.trans (c4.trans ?_), pth_congr hp' c1⟩
        cases p <;> rfl
      · exact h'.tailc (φ' := φ') (fun x hx hxc => hφ x hx (fun e => hxc (by simp [e])) (fun e => hxc (by simp [e]))) c hc'
  · have hp : (((e :: q) ++ [d]) :: ((e' :: p) ++ [d']) :: rs).flatten.Perm (e :: e' :: (((p ++ d' :: q) ++ [d]) :: rs).flatten) := by
      simp only [List.flatten_cons, List.append_assoc, List.cons_append, List.nil_append]
      refine List.Perm.cons _ ?_
      have p1 : (q ++ d :: e' :: (p ++ d' :: rs.flatten)).Perm (e' :: (q ++ d :: (p ++ d' :: rs.flatten))) := by
        have := (List.perm_middle (a := e') (l₁ := q ++ [d]) (l₂ := p ++ d' :: rs.flatten))
        simpa using this
      refine p1.trans (List.Perm.cons _ ?_)
      have p2 : ((q ++ [d]) ++ ((p ++ [d']) ++ rs.flatten)).Perm ((p ++ [d']) ++ ((q ++ [d]) ++ rs.flatten)) := by
        rw [← List.append_assoc, ← List.append_assoc (p ++ [d'])]
        exact List.Perm.append_right _ List.perm_append_comm
      simpa using p2
    rw [hp.nodup_iff, List.nodup_cons, List.nodup_cons]
    exact ⟨fun hm => by
      rcases List.mem_cons.1 hm with q | q
      · exact hne q
      · exact he ((h'.mem e).1 q), fun hm => he' ((h'.mem e').1 hm), h'.nd⟩
  · rw [hD, ← h'.mem]; simp only [List.flatten_cons, List.mem_append, List.mem_cons, List.not_mem_nil, or_false]
    constructor
    · rintro (((h | h) | h) | ((h | h) | h) | h) <;> simp [h]
    · rintro (h | h | ((h | h | h) | h) | h) <;> simp [h]
theorem Dec.diff (h : Dec φ D fs) {d d' e e' : α} (hd : D d) (hd' : D d') (he : ¬ D e) (he' : ¬ D e') (hne : e ≠ e') (hs : ¬ Rc (fun x y => φ x = y) d d')
    (h0 : φ' d = e) (h1 : φ' e = φ d') (h2 : φ' d' = e') (h3 : φ' e' = φ d) (hφ : ∀ x, D x → x ≠ d → x ≠ d' → φ' x = φ x) (hD : ∀ x, D' x ↔ x = e ∨ x = e' ∨ D x) :
    ∃ gs, Dec φ' D' gs ∧ gs.length + 1 = fs.length := by
  obtain ⟨p, r1, hlen, h'⟩ := h.last hd
  have hn := h'.nd
  have hc0 := h'.cyc _ (List.mem_cons_self ..)
  have hdp : d' ∉ p ++ [d] := fun hm => hs (h'.part.con _ (List.mem_cons_self ..) d (by simp) d' hm)
  have h1' : Dec φ (fun x => D x ∧ x ∉ p ++ [d]) r1 := by
    have := h'.part.tail
    exact ⟨fun c hc => h'.cyc c (by simp [hc]), this.nd, this.mem⟩
  obtain ⟨q, rs, hlen1, h2'⟩ := h1'.last (x := d') ⟨hd', hdp⟩
  have hc1 := h2'.cyc _ (List.mem_cons_self ..)
  rw [List.flatten_cons, List.nodup_append, List.nodup_append] at hn
  have hn2 := h2'.nd
  rw [List.flatten_cons, List.nodup_append, List.nodup_append] at hn2
  have c0 := cyc_last.1 hc0; have c1 := cyc_last.1 hc1
  have hDp : ∀ x ∈ p, D x := fun x hx => (h'.mem x).1 (by simp [hx])
  have hDq : ∀ x ∈ q, D x ∧ x ∉ p ++ [d] := fun x hx => (h2'.mem x).1 (by simp [hx])
  have hp' : ∀ x ∈ p, φ' x = φ x := fun x hx => hφ x (hDp x hx) (fun e => hn.1.2.2 x hx d (by simp) e) (fun e => hdp (by rw [← e]; simp [hx]))
  have hq' : ∀ x ∈ q, φ' x = φ x := fun x hx => hφ x (hDq x hx).1 (fun e => (hDq x hx).2 (by rw [e]; simp)) (fun e => hn2.1.2.2 x hx d' (by simp) e)
  refine ⟨((p ++ [d] ++ ([e] ++ (q ++ [d']))) ++ [e']) :: rs, ⟨fun c hc' => ?_, ?_, fun x => ?_⟩, by simp; omega⟩
  · rcases List.mem_cons.1 hc' with rfl | hc'
    · refine cyc_last.2 ⟨?_, ?_⟩
      · rw [pth_app, pth_app, pth_app, pth_app]
        refine ⟨⟨pth_congr hp' c0.1, h0⟩, ?_, pth_congr hq' c1.1, h2⟩
        show φ' e = (q ++ [d']).headD e'
        rw [h1, c1.2, headD_app]
      · rw [h3, c0.2]; cases p <;> rfl
    · obtain ⟨x, l, e, hp⟩ := h2'.cyc c (by simp [hc'])
      refine ⟨x, l, e, pth_congr (fun y hy => ?_) hp⟩
      have hy' : y ∈ rs.flatten := List.mem_flatten.2 ⟨c, hc', hy⟩
      have hDy := (h2'.mem y).1 (by rw [List.flatten_cons]; exact List.mem_append_right _ hy')
      refine hφ y hDy.1 (fun e => hDy.2 (by rw [e]; simp)) fun e => ?_
      exact hn2.2.2 y (by rw [e]; simp) y hy' rfl
  · have hp : (((p ++ [d] ++ ([e] ++ (q ++ [d']))) ++ [e']) :: rs).flatten.Perm (e :: e' :: (p ++ [d] ++ ((q ++ [d']) :: rs).flatten)) := by
      simp only [List.flatten_cons, List.append_assoc, List.cons_append, List.nil_append]
      have p1 : ((p ++ [d]) ++ e :: ((q ++ [d']) ++ e' :: rs.flatten)).Perm (e :: ((p ++ [d]) ++ ((q ++ [d']) ++ e' :: rs.flatten))) := List.perm_middle
      have p2 : (((p ++ [d]) ++ (q ++ [d'])) ++ e' :: rs.flatten).Perm (e' :: (((p ++ [d]) ++ (q ++ [d'])) ++ rs.flatten)) := List.perm_middle
      refine List.Perm.trans (by simpa using p1) (List.Perm.cons _ ?_)
      simpa using p2
    have nn : (p ++ [d] ++ ((q ++ [d']) :: rs).flatten).Nodup := by
      rw [List.nodup_append, List.nodup_append]
      exact ⟨hn.1, h2'.nd, fun a ha b hb e => ((h2'.mem b).1 hb).2 (e ▸ ha)⟩
    have mm : ∀ x, x ∈ p ++ [d] ++ ((q ++ [d']) :: rs).flatten → D x := fun x hx => by
      rcases List.mem_append.1 hx with h | h
      · exact (h'.mem x).1 (by rw [List.flatten_cons]; exact List.mem_append_left _ h)
      · exact ((h2'.mem x).1 h).1
    rw [hp.nodup_iff, List.nodup_cons, List.nodup_cons]
    exact ⟨fun hm => by
      rcases List.mem_cons.1 hm with q | q
      · exact hne q
      · exact he (mm _ q), fun hm => he' (mm _ hm), nn⟩
  · have a1 : D x ↔ x ∈ p ++ [d] ∨ (x ∈ q ++ [d'] ∨ x ∈ rs.flatten) := by
      have := h2'.mem x
      rw [List.flatten_cons, List.mem_append] at this
      rw [this]
      constructor
      · intro h; by_cases g : x ∈ p ++ [d]
        · exact .inl g
        · exact .inr ⟨h, g⟩
      · rintro (g | g)
        · exact (h'.mem x).1 (by rw [List.flatten_cons]; exact List.mem_append_left _ g)
        · exact g.1
    rw [hD, a1]; simp only [List.flatten_cons, List.mem_append, List.mem_cons, List.not_mem_nil, or_false]
    constructor
    · rintro ((((h | h) | h | h | h) | h) | h) <;> simp [h]
    · rintro (h | h | (h | h) | (h | h) | h) <;> simp [h]
end
end Go.Proofs.YtmaaloijdjnblaaGreatDoor

/- Classes of a relation when an edge is put in. Program-free. -/
namespace Go.Proofs.YtmaaloijdjnblaaGreatDoor
section
variable {α : Type} {E E' : α → α → Prop} {D D' : α → Prop} {ps : List (List α)} {u v : α}
def AddE (E : α → α → Prop) (u v : α) (a b : α) : Prop := E a b ∨ (a = u ∧ b = v) ∨ (a = v ∧ b = u)
theorem AddE.left (E : α → α → Prop) (u v : α) : ∀ a b, E a b → AddE E u v a b := fun _ _ h => .inl h
theorem Part.edge0 (h : Part E D ps) (hE : ∀ a b, E a b → D a ∧ D b) (hu : ¬ D u) (hv : ¬ D v) (hne : u ≠ v) (hD : ∀ x, D' x ↔ x = u ∨ x = v ∨ D x) : Part (AddE E u v) D' ([u, v] :: ps) where
  ne p hp := by
    rcases List.mem_cons.1 hp with rfl | hp
    · simp
    · exact h.ne p hp
  con p hp x hx y hy := by
    rcases List.mem_cons.1 hp with rfl | hp
    · have h1 : Rc (AddE E u v) u v := Rc.one (.inr (.inl ⟨rfl, rfl⟩))
      have h2 : Rc (AddE E u v) v u := Rc.one (.inr (.inr ⟨rfl, rfl⟩))
      simp only [List.mem_cons, List.not_mem_nil, or_false] at hx hy
      rcases hx with rfl | rfl <;> rcases hy with rfl | rfl
      · exact Rc.refl _
      · exact h1
      · exact h2
      · exact Rc.refl _
    · exact (h.con p hp x hx y hy).mono (AddE.left E u v)
  clo p hp x hx y hxy := by
    rcases List.mem_cons.1 hp with rfl | hp
    · rcases hxy with g | ⟨_, rfl⟩ | ⟨_, rfl⟩
      · simp only [List.mem_cons, List.not_mem_nil, or_false] at hx
        rcases hx with rfl | rfl
        · exact absurd (hE _ _ g).1 hu
        · exact absurd (hE _ _ g).1 hv
      · simp
      · simp
    · have hx' := (h.mem x).1 (List.mem_flatten.2 ⟨p, hp, hx⟩)
      rcases hxy with g | ⟨rfl, _⟩ | ⟨rfl, _⟩
      · exact h.clo p hp x hx y g
      · exact absurd hx' hu
      · exact absurd hx' hv
  nd := by
    rw [List.flatten_cons, List.nodup_append]
    refine ⟨by simp [hne], h.nd, fun a ha b hb => ?_⟩
    rintro rfl
    have := (h.mem a).1 hb
    simp only [List.mem_cons, List.not_mem_nil, or_false] at ha
    rcases ha with rfl | rfl
    · exact hu this
    · exact hv this
  mem x := by rw [List.flatten_cons, List.mem_append, hD, h.mem]; simp [or_assoc]
theorem Part.edge1 (h : Part E D ps) (hE : ∀ a b, E a b → D a ∧ D b) (hu : D u) (hv : ¬ D v) (hD : ∀ x, D' x ↔ x = v ∨ D x) : ∃ qs, Part (AddE E u v) D' qs ∧ qs.length = ps.length := by
  obtain ⟨p, rs, hup, hperm, h'⟩ := h.at hu
  have huv : u ≠ v := fun e => hv (e ▸ hu)
  have hin : ∀ q ∈ p :: rs, ∀ x ∈ q, D x := fun q hq x hx => (h'.mem x).1 (List.mem_flatten.2 ⟨q, hq, hx⟩)
  have h1 : Rc (AddE E u v) u v := Rc.one (.inr (.inl ⟨rfl, rfl⟩))
  have h2 : Rc (AddE E u v) v u := Rc.one (.inr (.inr ⟨rfl, rfl⟩))
  have hn := h'.nd
  rw [List.flatten_cons, List.nodup_append] at hn
  refine ⟨(v :: p) :: rs, ⟨?_, ?_, ?_, ?_, ?_⟩, by rw [hperm.length_eq]; simp⟩
  · intro q hq
    rcases List.mem_cons.1 hq with rfl | hq
    · simp
    · exact h'.ne q (by simp [hq])
  · intro q hq x hx y hy
    rcases List.mem_cons.1 hq with rfl | hq
    · have hto : ∀ z ∈ v :: p, Rc (AddE E u v) u z := fun z hz => by
        rcases List.mem_cons.1 hz with rfl | hz
        · exact h1
        · exact (h'.con p (by simp) u hup z hz).mono (AddE.left E u v)
      have hfrom : ∀ z ∈ v :: p, Rc (AddE E u v) z u := fun z hz => by
        rcases List.mem_cons.1 hz with rfl | hz
        · exact h2
        · exact (h'.con p (by simp) z hz u hup).mono (AddE.left E u v)
      exact (hfrom x hx).trans (hto y hy)
    · exact (h'.con q (by simp [hq]) x hx y hy).mono (AddE.left E u v)
  · intro q hq x hx y hxy
    rcases List.mem_cons.1 hq with rfl | hq
    · rcases hxy with g | ⟨_, rfl⟩ | ⟨_, rfl⟩
      · rcases List.mem_cons.1 hx with rfl | hx
        · exact absurd (hE _ _ g).1 hv
        · exact List.mem_cons_of_mem _ (h'.clo p (by simp) x hx y g)
      · simp
      · exact List.mem_cons_of_mem _ hup
    · have hDx := hin q (by simp [hq]) x hx
      rcases hxy with g | ⟨rfl, _⟩ | ⟨rfl, _⟩
      · exact h'.clo q (by simp [hq]) x hx y g
      · exact absurd rfl (hn.2.2 x hup x (List.mem_flatten.2 ⟨q, hq, hx⟩))
      · exact absurd hDx hv
  · rw [List.flatten_cons, List.cons_append, List.nodup_cons]
    refine ⟨fun hm => hv ((h'.mem v).1 (by rw [List.flatten_cons]; exact hm)), ?_⟩
    have := h'.nd; rwa [List.flatten_cons] at this
  · intro x
    rw [hD, ← h'.mem, List.flatten_cons, List.flatten_cons, List.cons_append, List.mem_cons]
theorem Part.edgeS (h : Part E D ps) (hu : D u) (hv : D v) (hE : ∀ a b, E a b → E b a) (hs : Rc E u v) : Part (AddE E u v) D ps where
  ne := h.ne
  con p hp x hx y hy := (h.con p hp x hx y hy).mono (AddE.left E u v)
  clo p hp x hx y hxy := by
    have hcl : ∀ a b, a ∈ p → E a b → b ∈ p := fun a b ha hab => h.clo p hp a ha b hab
    rcases hxy with g | ⟨rfl, rfl⟩ | ⟨rfl, rfl⟩
    · exact h.clo p hp x hx y g
    · exact hs (· ∈ p) hcl hx
    · exact hs.symm hE (· ∈ p) hcl hx
  nd := h.nd
  mem := h.mem
theorem Part.edgeJ (h : Part E D ps) (hu : D u) (hv : D v) (hE : ∀ a b, E a b → E b a) (hs : ¬ Rc E u v) : ∃ qs, Part (AddE E u v) D qs ∧ qs.length + 1 = ps.length := by
  obtain ⟨p, r1, hup, hperm, h'⟩ := h.at hu
  have hvp : v ∉ p := fun hm => hs (h'.con p (by simp) u hup v hm)
  have ht := h'.tail
  obtain ⟨q, rs, hvq, hperm2, h2⟩ := ht.at (x := v) ⟨hv, hvp⟩
  have h1 : Rc (AddE E u v) u v := Rc.one (.inr (.inl ⟨rfl, rfl⟩))
  have h1' : Rc (AddE E u v) v u := Rc.one (.inr (.inr ⟨rfl, rfl⟩))
  have hn := h'.nd; rw [List.flatten_cons, List.nodup_append] at hn
  have hn2 := h2.nd; rw [List.flatten_cons, List.nodup_append] at hn2
  have hpq : ∀ x ∈ p, ∀ y ∈ (q :: rs).flatten, x ≠ y := fun x hx y hy e => ((h2.mem y).1 hy).2 (e ▸ hx)
  refine ⟨(p ++ q) :: rs, ⟨?_, ?_, ?_, ?_, ?_⟩, by have a1 := hperm.length_eq; have a2 := hperm2.length_eq; simp only [List.length_cons] at a1 a2 ⊢; omega⟩
  · intro k hk
    rcases List.mem_cons.1 hk with rfl | hk
    · intro e; rw [List.append_eq_nil_iff] at e; exact h'.ne p (by simp) e.1
    · exact h2.ne k (by simp [hk])
  · intro k hk x hx y hy
    rcases List.mem_cons.1 hk with rfl | hk
    · have hto : ∀ z ∈ p ++ q, Rc (AddE E u v) u z := fun z hz => by
        rcases List.mem_append.1 hz with hz | hz
        · exact (h'.con p (by simp) u hup z hz).mono (AddE.left E u v)
        · exact h1.trans ((h2.con q (by simp) v hvq z hz).mono (AddE.left E u v))
      have hfrom : ∀ z ∈ p ++ q, Rc (AddE E u v) z u := fun z hz => by
        rcases List.mem_append.1 hz with hz | hz
        · exact (h'.con p (by simp) z hz u hup).mono (AddE.left E u v)
        · exact ((h2.con q (by simp) z hz v hvq).mono (AddE.left E u v)).trans h1'
      exact (hfrom x hx).trans (hto y hy)
    · exact (h2.con k (by simp [hk]) x hx y hy).mono (AddE.left E u v)
  · intro k hk x hx y hxy
    rcases List.mem_cons.1 hk with rfl | hk
    · rcases hxy with g | ⟨_, rfl⟩ | ⟨_, rfl⟩
      · rcases List.mem_append.1 hx with hx | hx
        · exact List.mem_append_left _ (h'.clo p (by simp) x hx y g)
        · exact List.mem_append_right _ (h2.clo q (by simp) x hx y g)
      · exact List.mem_append_right _ hvq
      · exact List.mem_append_left _ hup
    · have hxr : x ∈ rs.flatten := List.mem_flatten.2 ⟨k, hk, hx⟩
      rcases hxy with g | ⟨rfl, _⟩ | ⟨rfl, _⟩
      · exact h2.clo k (by simp [hk]) x hx y g
      · exact absurd rfl (hpq x hup x (by rw [List.flatten_cons]; exact List.mem_append_right _ hxr))
      · exact absurd rfl (hn2.2.2 x hvq x hxr)
  · rw [List.flatten_cons, List.append_assoc, ← List.flatten_cons, List.nodup_append]
    exact ⟨hn.1, h2.nd, hpq⟩
  · intro x
    have a := h2.mem x; have b := h'.mem x
    rw [List.flatten_cons, List.append_assoc, List.mem_append, ← List.flatten_cons, a]
    constructor
    · rintro (g | g)
      · exact b.1 (by rw [List.flatten_cons]; exact List.mem_append_left _ g)
      · exact g.1
    · intro g; by_cases k : x ∈ p
      · exact .inl k
      · exact .inr ⟨g, k⟩
theorem nd_len1 {l m : List α} {e : α} (hl : l.Nodup) (hm : m.Nodup) (h : ∀ x, x ∈ m ↔ x = e ∨ x ∈ l) (he : e ∉ l) : m.length = l.length + 1 :=
  ((List.perm_ext_iff_of_nodup hm (List.nodup_cons.2 ⟨he, hl⟩)).2 fun x => by rw [h, List.mem_cons]).length_eq
theorem nd_len2 {l m : List α} {e e' : α} (hl : l.Nodup) (hm : m.Nodup) (h : ∀ x, x ∈ m ↔ x = e ∨ x = e' ∨ x ∈ l) (he : e ∉ l) (he' : e' ∉ l) (hne : e ≠ e') : m.length = l.length + 2 :=
  ((List.perm_ext_iff_of_nodup hm ((List.nodup_cons (a := e) (l := e' :: l)).2 ⟨by simp [hne, he], List.nodup_cons.2 ⟨he', hl⟩⟩)).2 fun x => by rw [h, List.mem_cons, List.mem_cons]).length_eq
end
end Go.Proofs.YtmaaloijdjnblaaGreatDoor

/- Rotation systems: what putting in an edge does to twice the genus. Program-free. -/
namespace Go.Proofs.YtmaaloijdjnblaaGreatDoor
def nxt (l : List Int) (u : Int) : Int := l.getD ((l.idxOf u + 1) % l.length) u
theorem nxt_app {a b : List Int} {u : Int} (h : u ∉ a) : nxt (a ++ u :: b) u = (b ++ a).headD u := by
  have hi : (a ++ u :: b).idxOf u = a.length := by
    rw [List.idxOf_append, if_neg h, List.idxOf_cons_self]; simp
  unfold nxt
  rw [hi]
  cases b with
  | nil =>
    have : (a.length + 1) % (a ++ [u]).length = 0 := by simp
    rw [this]; cases a <;> simp
  | cons y b =>
    have : (a.length + 1) % (a ++ u :: y :: b).length = a.length + 1 := Nat.mod_eq_of_lt (by simp)
    rw [this]; simp [List.getD_eq_getElem?_getD]
theorem nxt_mem {l : List Int} {u : Int} (h : u ∈ l) : nxt l u ∈ l := by
  unfold nxt
  have : (l.idxOf u + 1) % l.length < l.length := Nat.mod_lt _ (List.length_pos_of_mem h)
  rw [List.getD_eq_getElem?_getD, List.getElem?_eq_getElem this]
  exact List.getElem_mem _
structure In1 (l l' : List Int) (x v : Int) : Prop where
  hx : x ∈ l
  hv : v ∉ l
  nd : l'.Nodup
  mem : ∀ y, y ∈ l' ↔ y = v ∨ y ∈ l
  atx : nxt l' x = v
  atv : nxt l' v = nxt l x
  oth : ∀ y ∈ l, y ≠ x → nxt l' y = nxt l y
def Row1 (l l' : List Int) (v : Int) : Option Int → Prop
  | none => l = [] ∧ l' = [v]
  | some x => In1 l l' x v
structure RS (ρ : Int → List Int) : Prop where
  nd : ∀ x, (ρ x).Nodup
  sym : ∀ x y, y ∈ ρ x → x ∈ ρ y
  irr : ∀ x, x ∉ ρ x
def Ed (ρ : Int → List Int) (x y : Int) : Prop := y ∈ ρ x
def Ni (ρ : Int → List Int) (x : Int) : Prop := ρ x ≠ []
def Dt (ρ : Int → List Int) (d : Int × Int) : Prop := d.2 ∈ ρ d.1
def fst (ρ : Int → List Int) (d : Int × Int) : Int × Int := (d.2, nxt (ρ d.2) d.1)
structure Ins (ρ ρ' : Int → List Int) (u v : Int) (p q : Option Int) : Prop where
  ne : u ≠ v
  nu : v ∉ ρ u
  nv : u ∉ ρ v
  ru : Row1 (ρ u) (ρ' u) v p
  rv : Row1 (ρ v) (ρ' v) u q
  oth : ∀ x, x ≠ u → x ≠ v → ρ' x = ρ x
theorem Row1.mem {l l' : List Int} {v : Int} {p : Option Int} (h : Row1 l l' v p) : ∀ y, y ∈ l' ↔ y = v ∨ y ∈ l := by
  cases p with
  | none => obtain ⟨rfl, rfl⟩ := h; intro y; simp
  | some x => exact In1.mem h
theorem Row1.nd {l l' : List Int} {v : Int} {p : Option Int} (h : Row1 l l' v p) : l'.Nodup := by
  cases p with
  | none => obtain ⟨rfl, rfl⟩ := h; simp
  | some x => exact In1.nd h
section
variable {ρ ρ' : Int → List Int} {u v : Int} {p q : Option Int}
theorem Ins.row (h : Ins ρ ρ' u v p q) (a b : Int) : b ∈ ρ' a ↔ b ∈ ρ a ∨ (a = u ∧ b = v) ∨ (a = v ∧ b = u) := by
  have hne := h.ne
  by_cases e : a = u
  · subst e; rw [h.ru.mem]
    constructor
    · rintro (rfl | g)
      · exact .inr (.inl ⟨rfl, rfl⟩)
      · exact .inl g
    · rintro (g | ⟨_, g⟩ | ⟨g, _⟩)
      · exact .inr g
      · exact .inl g
      · exact absurd g hne
  · by_cases e2 : a = v
    · subst e2; rw [h.rv.mem]
      constructor
      · rintro (rfl | g)
        · exact .inr (.inr ⟨rfl, rfl⟩)
        · exact .inl g
      · rintro (g | ⟨g, _⟩ | ⟨_, g⟩)
        · exact .inr g
        · exact absurd g e
        · exact .inl g
    · rw [h.oth a e e2]
      constructor
      · exact .inl
      · rintro (g | ⟨g, _⟩ | ⟨g, _⟩)
        · exact g
        · exact absurd g e
        · exact absurd g e2
theorem Ins.ed (h : Ins ρ ρ' u v p q) : Ed ρ' = AddE (Ed ρ) u v := funext fun a => funext fun b => propext (h.row a b)
theorem Ins.dt (h : Ins ρ ρ' u v p q) (d : Int × Int) : Dt ρ' d ↔ d = (u, v) ∨ d = (v, u) ∨ Dt ρ d := by
  obtain ⟨a, b⟩ := d
  unfold Dt
  simp only [Prod.mk.injEq]
  rw [h.row]
  constructor
  · rintro (g | g | g)
    · exact .inr (.inr g)
    · exact .inl g
    · exact .inr (.inl g)
  · rintro (g | g | g)
    · exact .inr (.inl g)
    · exact .inr (.inr g)
    · exact .inl g
theorem Ins.rs (h : Ins ρ ρ' u v p q) (hρ : RS ρ) : RS ρ' where
  nd x := by
    by_cases e : x = u
    · rw [e]; exact h.ru.nd
    · by_cases e2 : x = v
      · rw [e2]; exact h.rv.nd
      · rw [h.oth x e e2]; exact hρ.nd x
  sym x y := by
    rw [h.row, h.row]
    rintro (g | ⟨rfl, rfl⟩ | ⟨rfl, rfl⟩)
    · exact .inl (hρ.sym _ _ g)
    · exact .inr (.inr ⟨rfl, rfl⟩)
    · exact .inr (.inl ⟨rfl, rfl⟩)
  irr x := by
    rw [h.row]
    rintro (g | ⟨rfl, g⟩ | ⟨rfl, g⟩)
    · exact hρ.irr x g
    · exact h.ne g
    · exact h.ne g.symm
theorem ni_iff {x : Int} : Ni ρ x ↔ ∃ y, y ∈ ρ x := by
  unfold Ni
  constructor
  · exact fun h => List.exists_mem_of_ne_nil _ h
  · rintro ⟨y, hy⟩ e; rw [e] at hy; simp at hy
theorem Ins.ni (h : Ins ρ ρ' u v p q) (x : Int) : Ni ρ' x ↔ x = u ∨ x = v ∨ Ni ρ x := by
  rw [ni_iff, ni_iff]
  constructor
  · rintro ⟨y, hy⟩
    rcases (h.row x y).1 hy with g | ⟨g, _⟩ | ⟨g, _⟩
    · exact .inr (.inr ⟨y, g⟩)
    · exact .inl g
    · exact .inr (.inl g)
  · rintro (rfl | rfl | ⟨y, g⟩)
    · exact ⟨v, (h.row _ _).2 (.inr (.inl ⟨rfl, rfl⟩))⟩
    · exact ⟨u, (h.row _ _).2 (.inr (.inr ⟨rfl, rfl⟩))⟩
    · exact ⟨y, (h.row _ _).2 (.inl g)⟩
theorem RS.ends (hρ : RS ρ) : ∀ a b, Ed ρ a b → Ni ρ a ∧ Ni ρ b := fun a b h => ⟨ni_iff.2 ⟨b, h⟩, ni_iff.2 ⟨a, hρ.sym _ _ h⟩⟩
theorem RS.face (hρ : RS ρ) {d d' : Int × Int} (hd : Dt ρ d) (h : Rc (fun x y => fst ρ x = y) d d') : Rc (Ed ρ) d.2 d'.2 := by
  refine (h (fun e => Dt ρ e ∧ Rc (Ed ρ) d.2 e.2) ?_ ⟨hd, Rc.refl _⟩).2
  rintro ⟨a, b⟩ c ⟨g1, g2⟩ rfl
  have hm : nxt (ρ b) a ∈ ρ b := nxt_mem (hρ.sym _ _ g1)
  exact ⟨hm, g2.trans (Rc.one hm)⟩
def Tw (ρ : Int → List Int) (T : Int) : Prop :=
  ∃ fs ps, Dec (fst ρ) (Dt ρ) fs ∧ Part (Ed ρ) (Ni ρ) ps ∧ 2 * T = 4 * (ps.length : Int) + fs.flatten.length - 2 * ps.flatten.length - 2 * fs.length
theorem Tw.uniq {T T' : Int} (h : Tw ρ T) (h' : Tw ρ T') : T = T' := by
  obtain ⟨fs, ps, h1, h2, h3⟩ := h
  obtain ⟨gs, qs, g1, g2, g3⟩ := h'
  have := h1.part.uniq g1.part; have := h2.uniq g2; have := h1.part.flen g1.part; have := h2.flen g2
  omega
theorem tw_empty (h : ∀ x, ρ x = []) : Tw ρ 0 :=
  ⟨[], [], ⟨by simp, by simp, fun d => by simp [Dt, h]⟩, Part.nil _ (fun x => by simp [Ni, h]), by simp⟩
def Good (ρ : Int → List Int) (u v : Int) : Option Int → Option Int → Prop
  | some x, some y => Rc (fun a b => fst ρ a = b) (x, u) (y, v) ∨ ¬ Rc (Ed ρ) u v
  | _, _ => True
theorem Ins.swap (h : Ins ρ ρ' u v p q) : Ins ρ ρ' v u q p := ⟨h.ne.symm, h.nv, h.nu, h.rv, h.ru, fun x a b => h.oth x b a⟩
theorem fst_oth (h : Ins ρ ρ' u v p q) {d : Int × Int} (hu : d.2 ≠ u) (hv : d.2 ≠ v) : fst ρ' d = fst ρ d := by unfold fst; rw [h.oth _ hu hv]
theorem Ins.flen (h : Ins ρ ρ' u v p q) {fs gs : List (List (Int × Int))} (h1 : Dec (fst ρ) (Dt ρ) fs) (g : Dec (fst ρ') (Dt ρ') gs) : gs.flatten.length = fs.flatten.length + 2 :=
  nd_len2 (e := (u, v)) (e' := (v, u)) h1.nd g.nd (fun x => by rw [g.mem, h.dt, h1.mem]) (fun m => h.nu ((h1.mem _).1 m)) (fun m => h.nv ((h1.mem _).1 m)) (fun e => h.ne (congrArg Prod.fst e))
theorem Ins.tw0 (hρ : RS ρ) (h : Ins ρ ρ' u v none none) {T : Int} (hT : Tw ρ T) : Tw ρ' T := by
  obtain ⟨fs, ps, h1, h2, h3⟩ := hT
  have hne := h.ne
  obtain ⟨hu0, hu1⟩ := h.ru
  obtain ⟨hv0, hv1⟩ := h.rv
  have niu : ¬ Ni ρ u := fun g => g hu0
  have niv : ¬ Ni ρ v := fun g => g hv0
  obtain ⟨gs, g1, g2⟩ := h1.zero (φ' := fst ρ') (D' := Dt ρ') (e := (u, v)) (e' := (v, u)) h.nu h.nv (fun e => hne (congrArg Prod.fst e)) (by unfold fst; simp only; rw [hv1]; simp [nxt]) (by unfold fst; simp only; rw [hu1]; simp [nxt])
    (fun d hd => fst_oth h (fun e => niu (by rw [← e]; exact (hρ.ends _ _ hd).2)) (fun e => niv (by rw [← e]; exact (hρ.ends _ _ hd).2))) h.dt
  have k := h2.edge0 (D' := Ni ρ') hρ.ends niu niv hne h.ni
  rw [← h.ed] at k
  refine ⟨gs, _, g1, k, ?_⟩
  have := h.flen h1 g1
  simp only [List.length_cons, List.flatten_cons, List.length_append, List.length_nil] at *; omega
theorem Ins.tw1 (hρ : RS ρ) {y : Int} (h : Ins ρ ρ' u v none (some y)) {T : Int} (hT : Tw ρ T) : Tw ρ' T := by
  obtain ⟨fs, ps, h1, h2, h3⟩ := hT
  have hne := h.ne
  obtain ⟨hu0, hu1⟩ := h.ru
  have niu : ¬ Ni ρ u := fun g => g hu0
  have i1 : In1 (ρ v) (ρ' v) y u := h.rv
  have niv : Ni ρ v := ni_iff.2 ⟨y, i1.hx⟩
  have hni : ∀ x, Ni ρ' x ↔ x = u ∨ Ni ρ x := fun x => by
    rw [h.ni]
    constructor
    · rintro (g | rfl | g)
      · exact .inl g
      · exact .inr niv
      · exact .inr g
    · rintro (g | g)
      · exact .inl g
      · exact .inr (.inr g)
  have hd : Dt ρ (y, v) := hρ.sym _ _ i1.hx
  obtain ⟨gs, g1, g2⟩ := h1.one (φ' := fst ρ') (D' := Dt ρ') (d := (y, v)) (e := (v, u)) (e' := (u, v)) hd h.nv h.nu (fun e => hne (congrArg Prod.snd e)) (by unfold fst; simp only; rw [i1.atx]) (by unfold fst; simp only; rw [hu1]; simp [nxt]) (by unfold fst; simp only; rw [i1.atv])
    (fun d hd hdy => by
      by_cases e : d.2 = v
      · have : d.1 ≠ y := fun e2 => hdy (Prod.ext e2 e)
        unfold fst; rw [e, i1.oth _ (by have := hρ.sym _ _ hd; rwa [e] at this) this]
      · exact fst_oth h (fun e => niu (by rw [← e]; exact (hρ.ends _ _ hd).2)) e) h.swap.dt
  obtain ⟨qs, k, k2⟩ := h2.edge1 (u := v) (v := u) (D' := Ni ρ') hρ.ends niv niu hni
  rw [← h.swap.ed] at k
  refine ⟨gs, qs, g1, k, ?_⟩
  have := h.flen h1 g1
  have : qs.flatten.length = ps.flatten.length + 1 := nd_len1 (e := u) h2.nd k.nd (fun x => by rw [k.mem, h2.mem, hni]) (fun m => niu ((h2.mem _).1 m))
  omega
theorem Ins.tw2 (hρ : RS ρ) {x y : Int} (h : Ins ρ ρ' u v (some x) (some y)) {T : Int} (hT : Tw ρ T) :
    (Good ρ u v (some x) (some y) → Tw ρ' T) ∧ (¬ Good ρ u v (some x) (some y) → Tw ρ' (T + 2)) := by
  obtain ⟨fs, ps, h1, h2, h3⟩ := hT
  have hne := h.ne
  have i0 : In1 (ρ u) (ρ' u) x v := h.ru
  have i1 : In1 (ρ v) (ρ' v) y u := h.rv
  have niu : Ni ρ u := ni_iff.2 ⟨x, i0.hx⟩
  have niv : Ni ρ v := ni_iff.2 ⟨y, i1.hx⟩
  have hni : ∀ z, Ni ρ' z ↔ Ni ρ z := fun z => by
    rw [h.ni]
    constructor
    · rintro (rfl | rfl | g)
      · exact niu
      · exact niv
      · exact g
    · exact fun g => .inr (.inr g)
  have hni' : Ni ρ' = Ni ρ := funext fun z => propext (hni z)
  have hd : Dt ρ (x, u) := hρ.sym _ _ i0.hx
  have hd' : Dt ρ (y, v) := hρ.sym _ _ i1.hx
  have hdd : ((x, u) : Int × Int) ≠ (y, v) := fun e => hne (congrArg Prod.snd e)
  have hee : ((u, v) : Int × Int) ≠ (v, u) := fun e => hne (congrArg Prod.fst e)
  have e0 : fst ρ' (x, u) = (u, v) := by unfold fst; simp only; rw [i0.atx]
  have e1 : fst ρ' (u, v) = fst ρ (y, v) := by unfold fst; simp only; rw [i1.atv]
  have e2 : fst ρ' (y, v) = (v, u) := by unfold fst; simp only; rw [i1.atx]
  have e3 : fst ρ' (v, u) = fst ρ (x, u) := by unfold fst; simp only; rw [i0.atv]
  have ho : ∀ d, Dt ρ d → d ≠ (x, u) → d ≠ (y, v) → fst ρ' d = fst ρ d := fun d hd ha hb => by
    have hm := hρ.sym _ _ hd
    by_cases e : d.2 = u
    · have : d.1 ≠ x := fun g => ha (Prod.ext g e)
      unfold fst; rw [e, i0.oth _ (by rwa [e] at hm) this]
    · by_cases g : d.2 = v
      · have : d.1 ≠ y := fun k => hb (Prod.ext k g)
        unfold fst; rw [g, i1.oth _ (by rwa [g] at hm) this]
      · exact fst_oth h e g
  have hsame : Rc (Ed ρ) u v → Part (Ed ρ') (Ni ρ') ps := fun g => by
    rw [h.ed, hni']; exact h2.edgeS niu niv hρ.sym g
  by_cases hf : Rc (fun a b => fst ρ a = b) (x, u) (y, v)
  · obtain ⟨gs, g1, g2⟩ := h1.same (φ' := fst ρ') (D' := Dt ρ') (e := (u, v)) (e' := (v, u)) hd hd' hdd h.nu h.nv hee hf e0 e1 e2 e3 ho h.dt
    have k := hsame (hρ.face hd hf)
    have := h.flen h1 g1; have := h2.flen (hni' ▸ k : Part (Ed ρ') (Ni ρ) ps)
    exact ⟨fun _ => ⟨gs, ps, g1, k, by omega⟩, fun g => absurd (.inl hf) g⟩
  · obtain ⟨gs, g1, g2⟩ := h1.diff (φ' := fst ρ') (D' := Dt ρ') (e := (u, v)) (e' := (v, u)) hd hd' h.nu h.nv hee hf e0 e1 e2 e3 ho h.dt
    have := h.flen h1 g1
    by_cases hc : Rc (Ed ρ) u v
    · have k := hsame hc
      exact ⟨fun g => by rcases g with g | g; exact absurd g hf; exact absurd hc g, fun _ => ⟨gs, ps, g1, k, by omega⟩⟩
    · obtain ⟨qs, k, k2⟩ := h2.edgeJ niu niv hρ.sym hc
      have := h2.flen k
      rw [← h.ed, ← hni'] at k
      exact ⟨fun _ => ⟨gs, qs, g1, k, by omega⟩, fun g => absurd (.inr hc) g⟩
theorem Ins.tw (hρ : RS ρ) (h : Ins ρ ρ' u v p q) {T : Int} (hT : Tw ρ T) : (Good ρ u v p q → Tw ρ' T) ∧ (¬ Good ρ u v p q → Tw ρ' (T + 2)) := by
  cases p with
  | none =>
    cases q with
    | none => exact ⟨fun _ => h.tw0 hρ hT, fun g => absurd trivial g⟩
    | some y => exact ⟨fun _ => h.tw1 hρ hT, fun g => absurd trivial g⟩
  | some x =>
    cases q with
    | none => exact ⟨fun _ => h.swap.tw1 hρ hT, fun g => absurd trivial g⟩
    | some y => exact h.tw2 hρ hT
end
end Go.Proofs.YtmaaloijdjnblaaGreatDoor

/- Turns: put in, left out, turned round. Program-free. -/
namespace Go.Proofs.YtmaaloijdjnblaaGreatDoor
theorem headD_pre {l m m' : List Int} {x a b : Int} : (l ++ x :: m).headD a = (l ++ x :: m').headD b := by cases l <;> rfl
theorem nxt_rot {l m : List Int} (hn : (l ++ m).Nodup) {u : Int} (hu : u ∈ l ++ m) : nxt (m ++ l) u = nxt (l ++ m) u := by
  have key : ∀ {l m : List Int}, (l ++ m).Nodup → u ∈ l → nxt (m ++ l) u = nxt (l ++ m) u := by
    intro l m hn hl
    obtain ⟨c, d, rfl⟩ := List.append_of_mem hl
    rw [List.nodup_append, List.nodup_append] at hn
    obtain ⟨⟨_, _, h1⟩, _, h2⟩ := hn
    have hc : u ∉ c := fun h => h1 u h u (by simp) rfl
    have hm : u ∉ m := fun h => h2 u (by simp) u h rfl
    rw [show m ++ (c ++ u :: d) = (m ++ c) ++ u :: d by simp, nxt_app (by simp [hm, hc]), show (c ++ u :: d) ++ m = c ++ u :: (d ++ m) by simp, nxt_app hc, List.append_assoc]
  rcases List.mem_append.1 hu with h | h
  · exact key hn h
  · have hn' : (m ++ l).Nodup := (List.perm_append_comm.nodup_iff).1 hn
    exact (key hn' h).symm
theorem In1.congr {l l' k k' : List Int} {x v : Int} (h : In1 l l' x v) (hk : ∀ y, y ∈ k ↔ y ∈ l) (hk' : ∀ y, y ∈ k' ↔ y ∈ l') (hnd : k'.Nodup) (n : ∀ y ∈ l, nxt k y = nxt l y) (n' : ∀ y ∈ l', nxt k' y = nxt l' y) : In1 k k' x v where
  hx := (hk x).2 h.hx
  hv m := h.hv ((hk v).1 m)
  nd := hnd
  mem y := by rw [hk', h.mem, hk]
  atx := by rw [n' x ((h.mem x).2 (.inr h.hx)), h.atx]
  atv := by rw [n' v ((h.mem v).2 (.inl rfl)), h.atv, n x h.hx]
  oth y hy hne := by
    have hy := (hk y).1 hy
    rw [n' y ((h.mem y).2 (.inr hy)), h.oth y hy hne, n y hy]
theorem in1_put {a b : List Int} {x v : Int} (hn : (a ++ x :: b).Nodup) (hv : v ∉ a ++ x :: b) : In1 (a ++ x :: b) (a ++ x :: v :: b) x v := by
  have hn' := hn
  rw [List.nodup_append, List.nodup_cons] at hn'
  obtain ⟨na, ⟨nxb, nb⟩, nab⟩ := hn'
  have hxa : x ∉ a := fun h => nab x h x (by simp) rfl
  have hva : v ∉ a := fun h => hv (by simp [h])
  have hvx : v ≠ x := fun h => hv (by simp [h])
  have hvb : v ∉ b := fun h => hv (by simp [h])
  refine ⟨by simp, hv, ?_, fun y => ?_, ?_, ?_, fun y hy hne => ?_⟩
  · rw [List.nodup_append, List.nodup_cons, List.nodup_cons]
    refine ⟨na, ⟨by simp [hvx.symm, nxb], hvb, nb⟩, fun y hy z hz e => ?_⟩
    subst e
    rcases List.mem_cons.1 hz with h | h
    · exact hxa (h ▸ hy)
    · rcases List.mem_cons.1 h with h | h
      · exact hva (h ▸ hy)
      · exact nab y hy y (by simp [h]) rfl
  · simp only [List.mem_append, List.mem_cons]
    constructor
    · rintro (h | h | h | h) <;> simp [h]
    · rintro (h | h | h | h) <;> simp [h]
  · rw [nxt_app hxa]; rfl
  · rw [show a ++ x :: v :: b = (a ++ [x]) ++ v :: b by simp, nxt_app (by simp [hva, hvx]), nxt_app hxa]
    cases b with
    | nil => cases a <;> rfl
    | cons c b => rfl
  · have hy' : y ∈ a ∨ y ∈ b := by
      rcases List.mem_append.1 hy with h | h
      · exact .inl h
      · exact .inr ((List.mem_cons.1 h).resolve_left hne)
    rcases hy' with h | h
    · obtain ⟨c, d, rfl⟩ := List.append_of_mem h
      have hc : y ∉ c := fun g => by rw [List.nodup_append] at na; exact na.2.2 y g y (by simp) rfl
      rw [show c ++ y :: d ++ x :: v :: b = c ++ y :: (d ++ x :: v :: b) by simp, show c ++ y :: d ++ x :: b = c ++ y :: (d ++ x :: b) by simp, nxt_app hc, nxt_app hc]
      rw [show d ++ x :: v :: b ++ c = d ++ x :: (v :: b ++ c) by simp, show d ++ x :: b ++ c = d ++ x :: (b ++ c) by simp]
      exact headD_pre
    · obtain ⟨c, d, rfl⟩ := List.append_of_mem h
      have hc : y ∉ c := fun g => by rw [List.nodup_append] at nb; exact nb.2.2 y g y (by simp) rfl
      have hya : y ∉ a := fun g => nab y g y (by simp) rfl
      have hyv : y ≠ v := fun e => hvb (by rw [← e]; simp)
      rw [show a ++ x :: v :: (c ++ y :: d) = (a ++ x :: v :: c) ++ y :: d by simp, show a ++ x :: (c ++ y :: d) = (a ++ x :: c) ++ y :: d by simp, nxt_app (by simp [hya, hne, hyv, hc]), nxt_app (by simp [hya, hne, hc])]
      rw [show d ++ (a ++ x :: v :: c) = (d ++ a) ++ x :: (v :: c) by simp, show d ++ (a ++ x :: c) = (d ++ a) ++ x :: c by simp]
      exact headD_pre
theorem row1_mid {a b : List Int} {v : Int} (hn : (a ++ v :: b).Nodup) : ∃ p, Row1 (a ++ b) (a ++ v :: b) v p := by
  have hn' := hn
  rw [List.nodup_append, List.nodup_cons] at hn'
  obtain ⟨na, ⟨nvb, nb⟩, nab⟩ := hn'
  have hva : v ∉ a := fun h => nab v h v (by simp) rfl
  have hab : (a ++ b).Nodup := by rw [List.nodup_append]; exact ⟨na, nb, fun y hy z hz => nab y hy z (by simp [hz])⟩
  rcases List.eq_nil_or_concat a with rfl | ⟨a0, x, rfl⟩
  · rcases List.eq_nil_or_concat b with rfl | ⟨b0, x, rfl⟩
    · exact ⟨none, rfl, rfl⟩
    · refine ⟨some x, ?_⟩
      simp only [List.concat_eq_append, List.nil_append] at *
      have := in1_put (a := b0) (b := []) (x := x) (v := v) (by simpa using nb) (by simpa using nvb)
      refine In1.congr (l := b0 ++ [x]) (l' := b0 ++ [x] ++ [v]) (by simpa using this) (fun y => Iff.rfl) (fun y => by simp [or_comm, or_assoc]) hn (fun y _ => rfl) fun y hy => ?_
      exact (nxt_rot (l := b0 ++ [x]) (m := [v]) ((List.perm_append_comm.nodup_iff).1 (by simpa using hn)) hy)
  · simp only [List.concat_eq_append] at *
    refine ⟨some x, ?_⟩
    have := in1_put (a := a0) (b := b) (x := x) (v := v) (by simpa using hab) (by simp at hva ⊢; exact ⟨hva.1, hva.2, nvb⟩)
    simpa [Row1] using this
end Go.Proofs.YtmaaloijdjnblaaGreatDoor

/- Searching a rotation system, edge by edge. Program-free. -/
namespace Go.Proofs.YtmaaloijdjnblaaGreatDoor
def El (es : List (Int × Int)) (a b : Int) : Prop := (a, b) ∈ es ∨ (b, a) ∈ es
instance {es : List (Int × Int)} {a b : Int} : Decidable (El es a b) := by unfold El; infer_instance
def sub (R : Int → List Int) (es : List (Int × Int)) (x : Int) : List Int := (R x).filter fun y => decide (El es x y)
theorem mem_sub {R : Int → List Int} {es : List (Int × Int)} {x y : Int} : y ∈ sub R es x ↔ y ∈ R x ∧ El es x y := by unfold sub; rw [List.mem_filter, decide_eq_true_iff]
theorem El.symm {es : List (Int × Int)} {a b : Int} (h : El es a b) : El es b a := Or.symm h
theorem sub_rs {R : Int → List Int} (hR : RS R) (es : List (Int × Int)) : RS (sub R es) where
  nd x := (hR.nd x).filter _
  sym x y h := by rw [mem_sub] at h ⊢; exact ⟨hR.sym _ _ h.1, h.2.symm⟩
  irr x h := hR.irr x (mem_sub.1 h).1
structure UE (es : List (Int × Int)) : Prop where
  ne : ∀ e ∈ es, e.1 ≠ e.2
  once : es.Pairwise fun e f => e ≠ f ∧ (e.2, e.1) ≠ f
theorem UE.new {done rest : List (Int × Int)} {u v : Int} (h : UE (done ++ (u, v) :: rest)) : u ≠ v ∧ ¬ El done u v := by
  refine ⟨h.ne (u, v) (by simp), ?_⟩
  have := (List.pairwise_append.1 h.once).2.2
  rintro (g | g)
  · exact (this _ g (u, v) (by simp)).1 rfl
  · exact (this _ g (u, v) (by simp)).2 rfl
theorem el_snoc {done : List (Int × Int)} {u v a b : Int} : El (done ++ [(u, v)]) a b ↔ El done a b ∨ (a = u ∧ b = v) ∨ (a = v ∧ b = u) := by
  unfold El
  simp only [List.mem_append, List.mem_singleton, Prod.mk.injEq]
  constructor
  · rintro ((h | h) | (h | ⟨h, g⟩))
    · exact .inl (.inl h)
    · exact .inr (.inl h)
    · exact .inl (.inr h)
    · exact .inr (.inr ⟨g, h⟩)
  · rintro ((h | h) | h | ⟨h, g⟩)
    · exact .inl (.inl h)
    · exact .inr (.inl h)
    · exact .inl (.inr h)
    · exact .inr (.inr ⟨g, h⟩)
theorem sub_row {R : Int → List Int} (hR : RS R) {done : List (Int × Int)} {u v : Int} (hv : v ∈ R u) (hn : ¬ El done u v) (hne : u ≠ v) : ∃ p, Row1 (sub R done u) (sub R (done ++ [(u, v)]) u) v p := by
  obtain ⟨a, b, e⟩ := List.append_of_mem hv
  have hnd := hR.nd u
  rw [e] at hnd
  have hnd' := hnd
  rw [List.nodup_append, List.nodup_cons] at hnd'
  have hva : v ∉ a := fun h => hnd'.2.2 v h v (by simp) rfl
  have hvb : v ∉ b := hnd'.2.1.1
  have e1 : sub R done u = sub (fun _ => a) done u ++ sub (fun _ => b) done u := by
    unfold sub; rw [e, List.filter_append, List.filter_cons_of_neg (by simpa using hn)]
  have hs : ∀ c : List Int, v ∉ c → sub (fun _ => c) (done ++ [(u, v)]) u = sub (fun _ => c) done u := fun c hc => by
    unfold sub
    refine List.filter_congr fun y hy => decide_eq_decide.2 ?_
    rw [el_snoc]
    exact ⟨fun h => by rcases h with h | ⟨_, rfl⟩ | ⟨g, _⟩; exact h; exact absurd hy hc; exact absurd g hne, .inl⟩
  have e2 : sub R (done ++ [(u, v)]) u = sub (fun _ => a) done u ++ v :: sub (fun _ => b) done u := by
    have : sub R (done ++ [(u, v)]) u = sub (fun _ => a) (done ++ [(u, v)]) u ++ v :: sub (fun _ => b) (done ++ [(u, v)]) u := by
      unfold sub; rw [e, List.filter_append, List.filter_cons_of_pos (by simp [el_snoc])]
    rw [this, hs a hva, hs b hvb]
  rw [e1, e2]
  refine row1_mid ?_
  rw [← e2]; exact (sub_rs hR _).nd u
theorem sub_ins {R : Int → List Int} (hR : RS R) {done : List (Int × Int)} {u v : Int} (hv : v ∈ R u) (hn : ¬ El done u v) (hne : u ≠ v) : ∃ p q, Ins (sub R done) (sub R (done ++ [(u, v)])) u v p q := by
  obtain ⟨p, hp⟩ := sub_row hR hv hn hne
  obtain ⟨q, hq⟩ := sub_row (u := v) (v := u) hR (hR.sym _ _ hv) (fun h => hn h.symm) hne.symm
  have sw : sub R (done ++ [(v, u)]) = sub R (done ++ [(u, v)]) := by
    funext x; unfold sub
    refine List.filter_congr fun y hy => decide_eq_decide.2 ?_
    rw [el_snoc, el_snoc]
    exact ⟨fun h => h.imp id Or.symm, fun h => h.imp id Or.symm⟩
  refine ⟨p, q, hne, fun h => hn (mem_sub.1 h).2, fun h => hn (mem_sub.1 h).2.symm, hp, by rw [← sw]; exact hq, fun x hx hx' => ?_⟩
  unfold sub
  refine List.filter_congr fun y hy => decide_eq_decide.2 ?_
  rw [el_snoc]
  exact ⟨fun h => by rcases h with h | ⟨g, _⟩ | ⟨g, _⟩; exact h; exact absurd g hx; exact absurd g hx', .inl⟩
theorem Ins.up {ρ ρ' : Int → List Int} {u v : Int} {p q : Option Int} (h : Ins ρ ρ' u v p q) (hρ : RS ρ) {T : Int} (hT : Tw ρ T) : ∃ T', Tw ρ' T' ∧ T ≤ T' := by
  by_cases g : Good ρ u v p q
  · exact ⟨T, (h.tw hρ hT).1 g, Int.le_refl _⟩
  · exact ⟨T + 2, (h.tw hρ hT).2 g, by omega⟩
theorem tw_chain {R : Int → List Int} (hR : RS R) : ∀ {rest done : List (Int × Int)}, UE (done ++ rest) → (∀ e ∈ rest, e.2 ∈ R e.1) → ∀ {T : Int}, Tw (sub R done) T → ∃ T', Tw (sub R (done ++ rest)) T' ∧ T ≤ T'
  | [], done, _, _, T, h => ⟨T, by rw [List.append_nil]; exact h, Int.le_refl _⟩
  | (u, v) :: rest, done, hU, hin, T, h => by
    obtain ⟨hne, hnew⟩ := hU.new
    obtain ⟨p, q, hi⟩ := sub_ins hR (hin (u, v) (by simp)) hnew hne
    obtain ⟨T1, h1, le1⟩ := hi.up (sub_rs hR done) h
    have e : done ++ (u, v) :: rest = (done ++ [(u, v)]) ++ rest := by simp
    obtain ⟨T2, h2, le2⟩ := tw_chain hR (rest := rest) (done := done ++ [(u, v)]) (e ▸ hU) (fun x hx => hin x (by simp [hx])) h1
    exact ⟨T2, e ▸ h2, by omega⟩
def Sys (es : List (Int × Int)) (R : Int → List Int) : Prop := RS R ∧ ∀ a b, b ∈ R a ↔ El es a b
theorem Sys.sub {es : List (Int × Int)} {R : Int → List Int} (h : Sys es R) : sub R es = R := by
  funext x; unfold Go.Proofs.YtmaaloijdjnblaaGreatDoor.sub
  exact List.filter_eq_self.2 fun y hy => decide_eq_true (p := El es x y) ((h.2 x y).1 hy)
theorem Sys.edge {es : List (Int × Int)} {R : Int → List Int} (h : Sys es R) : ∀ e ∈ es, e.2 ∈ R e.1 := fun e he => (h.2 _ _).2 (.inl he)
theorem Sys.zero {es : List (Int × Int)} {R : Int → List Int} (h : Sys es R) (hU : UE es) (hT : Tw R 0) {done rest : List (Int × Int)} (e : es = done ++ rest) : Tw (Go.Proofs.YtmaaloijdjnblaaGreatDoor.sub R done) 0 := by
  subst e
  have h0 : Tw (Go.Proofs.YtmaaloijdjnblaaGreatDoor.sub R []) 0 := tw_empty fun x => List.filter_eq_nil_iff.2 fun y _ => by simp [El]
  have hUd : UE ([] ++ done) := ⟨fun e he => hU.ne e (by simp at he; simp [he]), by have := (List.pairwise_append.1 hU.once).1; simpa using this⟩
  obtain ⟨T1, h1, le1⟩ := tw_chain h.1 hUd (fun e he => h.edge e (by simp [he])) h0
  rw [List.nil_append] at h1
  obtain ⟨T2, h2, le2⟩ := tw_chain h.1 hU (fun e he => h.edge e (by simp [he])) h1
  rw [h.sub] at h2
  have := h2.uniq hT
  have : T1 = 0 := by omega
  rw [← this]; exact h1
end Go.Proofs.YtmaaloijdjnblaaGreatDoor

/- The two searches: both find just where a system of genus 0 is. Program-free. -/
namespace Go.Proofs.YtmaaloijdjnblaaGreatDoor
def updR (ρ : Int → List Int) (x : Int) (l : List Int) : Int → List Int := fun y => if y = x then l else ρ y
def putl (l : List Int) (i : Nat) (v : Int) : List Int := if l = [] then [v] else l.take (i + 1) ++ v :: l.drop (i + 1)
def putE (ρ : Int → List Int) (u v : Int) (i k : Nat) : Int → List Int := updR (updR ρ u (putl (ρ u) i v)) v (putl (ρ v) k u)
theorem putl_row {l : List Int} (hn : l.Nodup) {v : Int} (hv : v ∉ l) {i : Nat} (hi : i < max l.length 1) : Row1 l (putl l i v) v l[i]? := by
  unfold putl
  by_cases h : l = []
  · subst h; rw [if_pos rfl]; exact ⟨rfl, rfl⟩
  · rw [if_neg h]
    have hl : 0 < l.length := List.length_pos_iff.2 h
    have hil : i < l.length := by omega
    rw [List.getElem?_eq_getElem hil]
    have e : l = l.take i ++ l[i] :: l.drop (i + 1) := by rw [← List.drop_eq_getElem_cons hil, List.take_append_drop]
    have e2 : l.take (i + 1) = l.take i ++ [l[i]] := by rw [List.take_add_one, List.getElem?_eq_getElem hil]; rfl
    have := in1_put (a := l.take i) (b := l.drop (i + 1)) (x := l[i]) (v := v) (by rw [← e]; exact hn) (by rw [← e]; exact hv)
    rw [← e] at this
    rw [e2, List.append_assoc]; exact this
theorem putE_at_v {ρ : Int → List Int} {u v : Int} {i k : Nat} : putE ρ u v i k v = putl (ρ v) k u := by unfold putE updR; rw [if_pos rfl]
theorem putE_at_u {ρ : Int → List Int} {u v : Int} (hne : u ≠ v) {i k : Nat} : putE ρ u v i k u = putl (ρ u) i v := by unfold putE updR; rw [if_neg hne, if_pos rfl]
theorem putE_oth {ρ : Int → List Int} {u v x : Int} (h : x ≠ u) (h' : x ≠ v) {i k : Nat} : putE ρ u v i k x = ρ x := by unfold putE updR; rw [if_neg h', if_neg h]
theorem putE_ins {ρ : Int → List Int} (hρ : RS ρ) {u v : Int} (hne : u ≠ v) (hv : v ∉ ρ u) {i k : Nat} (hi : i < max (ρ u).length 1) (hk : k < max (ρ v).length 1) : Ins ρ (putE ρ u v i k) u v (ρ u)[i]? (ρ v)[k]? where
  ne := hne
  nu := hv
  nv h := hv (hρ.sym _ _ h)
  ru := by rw [putE_at_u hne]; exact putl_row (hρ.nd u) hv hi
  rv := by rw [putE_at_v]; exact putl_row (hρ.nd v) (fun h => hv (hρ.sym _ _ h)) hk
  oth x h h' := putE_oth h h'
structure SimL (l s : List Int) : Prop where
  mem : ∀ y, y ∈ s ↔ y ∈ l
  nx : ∀ y ∈ l, nxt s y = nxt l y
def Sim (ρ σ : Int → List Int) : Prop := ∀ x, SimL (ρ x) (σ x)
theorem Sim.tw {ρ σ : Int → List Int} (hρ : RS ρ) (h : Sim ρ σ) {T : Int} (hT : Tw ρ T) : Tw σ T := by
  obtain ⟨fs, ps, h1, h2, h3⟩ := hT
  have e1 : Ed σ = Ed ρ := funext fun a => funext fun b => propext ((h a).mem b)
  have e2 : Ni σ = Ni ρ := funext fun a => propext (by rw [ni_iff, ni_iff]; exact ⟨fun ⟨y, hy⟩ => ⟨y, ((h a).mem y).1 hy⟩, fun ⟨y, hy⟩ => ⟨y, ((h a).mem y).2 hy⟩⟩)
  refine ⟨fs, ps, h1.congr (fun d hd => ?_) (fun d => ?_), by rw [e1, e2]; exact h2, h3⟩
  · unfold fst; rw [(h d.2).nx d.1 (hρ.sym _ _ hd)]
  · exact ((h d.1).mem d.2).symm
theorem SimL.step {l l' s : List Int} {v : Int} {p : Option Int} (h : SimL l s) (hs : s.Nodup) (hr : Row1 l l' v p) (hv : v ∉ l) : ∃ i, i < max s.length 1 ∧ SimL l' (putl s i v) := by
  cases p with
  | none =>
    obtain ⟨rfl, rfl⟩ := hr
    have : s = [] := List.eq_nil_iff_forall_not_mem.2 fun y hy => by have := (h.mem y).1 hy; simp at this
    subst this
    exact ⟨0, by simp, fun y => Iff.rfl, fun y _ => rfl⟩
  | some x =>
    have hr : In1 l l' x v := hr
    obtain ⟨i, hi, hx⟩ := List.getElem_of_mem ((h.mem x).2 hr.hx)
    have hvs : v ∉ s := fun m => hv ((h.mem v).1 m)
    have hp := putl_row hs hvs (i := i) (by omega)
    rw [List.getElem?_eq_getElem hi, hx] at hp
    have hp : In1 s (putl s i v) x v := hp
    refine ⟨i, by omega, fun y => by rw [hp.mem, hr.mem, h.mem], fun y hy => ?_⟩
    rcases (hr.mem y).1 hy with rfl | hy
    · rw [hp.atv, hr.atv, h.nx x hr.hx]
    · by_cases e : y = x
      · subst e; rw [hp.atx, hr.atx]
      · rw [hp.oth y ((h.mem y).2 hy) e, hr.oth y hy e, h.nx y hy]
theorem Sim.rs {ρ σ : Int → List Int} (hρ : RS ρ) (h : Sim ρ σ) (hn : ∀ x, (σ x).Nodup) : RS σ :=
  ⟨hn, fun x y hy => ((h y).mem x).2 (hρ.sym _ _ (((h x).mem y).1 hy)), fun x hx => hρ.irr x (((h x).mem x).1 hx)⟩
theorem Sim.step {ρ ρ' σ : Int → List Int} {u v : Int} {p q : Option Int} (h : Sim ρ σ) (hσ : RS σ) (hi : Ins ρ ρ' u v p q) :
    ∃ i k, i < max (σ u).length 1 ∧ k < max (σ v).length 1 ∧ Sim ρ' (putE σ u v i k) := by
  obtain ⟨i, h1, h2⟩ := (h u).step (hσ.nd u) hi.ru hi.nu
  obtain ⟨k, g1, g2⟩ := (h v).step (hσ.nd v) hi.rv hi.nv
  refine ⟨i, k, h1, g1, fun x => ?_⟩
  by_cases e : x = u
  · rw [e, putE_at_u hi.ne]; exact h2
  · by_cases e2 : x = v
    · rw [e2, putE_at_v]; exact g2
    · rw [putE_oth e e2, hi.oth x e e2]; exact h x
def Fnd (A : (Int → List Int) → Prop) (C : (Int → List Int) → Int → Int → Option Int → Option Int → Prop) : List (Int × Int) → (Int → List Int) → Prop
  | [], ρ => A ρ
  | (u, v) :: es, ρ => A ρ ∧ ∃ i k, i < max (ρ u).length 1 ∧ k < max (ρ v).length 1 ∧ C ρ u v (ρ u)[i]? (ρ v)[k]? ∧ Fnd A C es (putE ρ u v i k)
theorem fnd_from {A : (Int → List Int) → Prop} {C : (Int → List Int) → Int → Int → Option Int → Option Int → Prop} {es : List (Int × Int)} {R : Int → List Int} (hR : Sys es R) (hU : UE es) (hT : Tw R 0)
    (hA : ∀ ρ, RS ρ → Tw ρ 0 → A ρ)
    (hC : ∀ done u v rest ρ p q, es = done ++ (u, v) :: rest → RS ρ → (∀ a b, b ∈ ρ a ↔ El done a b) → Good ρ u v p q → (∀ x ∈ p, x ∈ ρ u) → (∀ x ∈ q, x ∈ ρ v) → C ρ u v p q) :
    ∀ {rest done : List (Int × Int)} {σ : Int → List Int}, es = done ++ rest → RS σ → Sim (sub R done) σ → Fnd A C rest σ
  | [], done, σ, e, hσ, hs => hA σ hσ (hs.tw (sub_rs hR.1 _) (hR.zero hU hT e))
  | (u, v) :: rest, done, σ, e, hσ, hs => by
    have hUe := hU; rw [e] at hUe
    obtain ⟨hne, hnew⟩ := hUe.new
    have hin := hR.edge (u, v) (by rw [e]; simp)
    obtain ⟨p, q, hi⟩ := sub_ins hR.1 hin hnew hne
    obtain ⟨i, k, h1, h2, h3⟩ := hs.step hσ hi
    have e' : es = (done ++ [(u, v)]) ++ rest := by rw [e]; simp
    have z0 := hs.tw (sub_rs hR.1 _) (hR.zero hU hT e)
    have z1 := h3.tw (sub_rs hR.1 _) (hR.zero hU hT e')
    have hmem : ∀ a b, b ∈ σ a ↔ El done a b := fun a b => by
      rw [(hs a).mem, mem_sub]
      exact ⟨fun h => h.2, fun h => ⟨by
        rcases h with h | h
        · exact hR.edge (a, b) (by rw [e]; simp [h])
        · exact hR.1.sym _ _ (hR.edge (b, a) (by rw [e]; simp [h])), h⟩⟩
    have hins := putE_ins hσ hne (fun h => hnew ((hmem u v).1 h)) h1 h2
    have hgood : Good σ u v (σ u)[i]? (σ v)[k]? := Classical.byContradiction fun g => by
      have := ((hins.tw hσ z0).2 g).uniq z1; omega
    refine ⟨hA σ hσ z0, i, k, h1, h2, hC done u v rest σ _ _ e hσ hmem hgood (fun x hx => List.mem_of_getElem? hx) (fun x hx => List.mem_of_getElem? hx), ?_⟩
    exact fnd_from hR hU hT hA hC e' (hins.rs hσ) h3
theorem fnd_to {A : (Int → List Int) → Prop} {C : (Int → List Int) → Int → Int → Option Int → Option Int → Prop} {es : List (Int × Int)} (hU : UE es)
    (hG : ∀ ρ u v p q, RS ρ → C ρ u v p q → A ρ → Tw ρ 0 → Good ρ u v p q ∨ ∀ ρ', A ρ' → Tw ρ' 0) :
    ∀ {rest done : List (Int × Int)} {σ : Int → List Int}, es = done ++ rest → RS σ → (∀ a b, b ∈ σ a ↔ El done a b) → Tw σ 0 → Fnd A C rest σ → ∃ R, Sys es R ∧ Tw R 0
  | [], done, σ, e, hσ, hm, hz, _ => ⟨σ, ⟨hσ, fun a b => by rw [hm, e, List.append_nil]⟩, hz⟩
  | (u, v) :: rest, done, σ, e, hσ, hm, hz, hf => by
    obtain ⟨ha, i, k, h1, h2, hc, hf⟩ := hf
    have hUe := hU; rw [e] at hUe
    obtain ⟨hne, hnew⟩ := hUe.new
    have hins := putE_ins hσ hne (fun h => hnew ((hm u v).1 h)) h1 h2
    have e' : es = (done ++ [(u, v)]) ++ rest := by rw [e]; simp
    refine fnd_to hU hG e' (hins.rs hσ) (fun a b => by rw [hins.row, hm, el_snoc]) ?_ hf
    rcases hG σ u v _ _ hσ hc ha hz with g | g
    · exact (hins.tw hσ hz).1 g
    · have : A (putE σ u v i k) := by cases rest with
        | nil => exact hf
        | cons x r => exact hf.1
      exact g _ this
theorem rs_nil : RS fun _ => [] := ⟨by simp, by simp, by simp⟩
theorem fndR_iff {es : List (Int × Int)} (hU : UE es) : Fnd (fun ρ => Tw ρ 0) (fun _ _ _ _ _ => True) es (fun _ => []) ↔ ∃ R, Sys es R ∧ Tw R 0 := by
  constructor
  · intro h
    exact fnd_to hU (fun _ _ _ _ _ _ _ _ _ => .inr fun _ h => h) (rest := es) (done := []) rfl rs_nil (fun a b => by simp [El]) (tw_empty fun _ => rfl) h
  · rintro ⟨R, hR, hT⟩
    exact fnd_from hR hU hT (fun _ _ h => h) (fun _ _ _ _ _ _ _ _ _ _ _ _ _ => trivial) (rest := es) (done := []) rfl rs_nil fun x => ⟨fun y => by simp [mem_sub, El], fun y hy => by simp [mem_sub, El] at hy⟩
def Fce (ρ : Int → List Int) (u v : Int) : Option Int → Option Int → Prop
  | some x, some y => Rc (fun a b => fst ρ a = b) (x, u) (y, v)
  | _, _ => True
def Grown (es : List (Int × Int)) : Prop := ∀ done u v rest, es = done ++ (u, v) :: rest → (∃ y, El done u y) → (∃ y, El done v y) → Rc (El done) u v
theorem fndP_iff {es : List (Int × Int)} (hU : UE es) (hg : Grown es) : Fnd (fun _ => True) Fce es (fun _ => []) ↔ ∃ R, Sys es R ∧ Tw R 0 := by
  constructor
  · intro h
    refine fnd_to hU (fun ρ u v p q hρ hc _ _ => .inl ?_) (rest := es) (done := []) rfl rs_nil (fun a b => by simp [El]) (tw_empty fun _ => rfl) h
    cases p with
    | none => trivial
    | some x => cases q with
      | none => trivial
      | some y => exact .inl hc
  · rintro ⟨R, hR, hT⟩
    refine fnd_from hR hU hT (fun _ _ _ => trivial) (fun done u v rest ρ p q e hρ hm hgood hp hq => ?_) (rest := es) (done := []) rfl rs_nil fun x => ⟨fun y => by simp [mem_sub, El], fun y hy => by simp [mem_sub, El] at hy⟩
    cases p with
    | none => trivial
    | some x => cases q with
      | none => trivial
      | some y =>
        rcases hgood with h | h
        · exact h
        · refine absurd ?_ h
          have := hg done u v rest e ⟨x, (hm u x).1 (hp x rfl)⟩ ⟨y, (hm v y).1 (hq y rfl)⟩
          exact this.mono fun a b h => (hm a b).2 h
end Go.Proofs.YtmaaloijdjnblaaGreatDoor

/- Few edges where the genus is 0. Program-free. -/
namespace Go.Proofs.YtmaaloijdjnblaaGreatDoor
theorem flat_ge {α : Type} (k : Nat) : ∀ {fs : List (List α)}, (∀ f ∈ fs, k ≤ f.length) → k * fs.length ≤ fs.flatten.length
  | [], _ => by simp
  | f :: fs, h => by
    have h1 := h f (by simp); have h2 := flat_ge k (fs := fs) (fun g hg => h g (by simp [hg]))
    rw [List.length_cons, List.flatten_cons, List.length_append, Nat.mul_succ]; omega
theorem flat_split {α : Type} (P : List α → Bool) : ∀ fs : List (List α), fs.flatten.length = (fs.filter P).flatten.length + (fs.filter fun f => !P f).flatten.length ∧ fs.length = (fs.filter P).length + (fs.filter fun f => !P f).length
  | [] => by simp
  | f :: fs => by
    obtain ⟨h1, h2⟩ := flat_split P fs
    by_cases h : P f = true
    · rw [List.filter_cons_of_pos h, List.filter_cons_of_neg (by simp [h])]
      simp only [List.flatten_cons, List.length_append, List.length_cons]; omega
    · rw [List.filter_cons_of_neg h, List.filter_cons_of_pos (by simpa using h)]
      simp only [List.flatten_cons, List.length_append, List.length_cons]; omega
theorem sub_len {α : Type} [DecidableEq α] : ∀ {l m : List α}, l.Nodup → (∀ x ∈ l, x ∈ m) → l.length ≤ m.length
  | [], m, _, _ => by simp
  | x :: l, m, h, hs => by
    rw [List.nodup_cons] at h
    have hx := hs x (by simp)
    have := sub_len (l := l) (m := m.erase x) h.2 (fun y hy => (List.mem_erase_of_ne (fun (e : y = x) => h.1 (e ▸ hy))).2 (hs y (by simp [hy])))
    rw [List.length_erase_of_mem hx] at this
    have := List.length_pos_of_mem hx
    rw [List.length_cons]; omega
theorem flat_two {α : Type} : ∀ {fs : List (List α)}, (∀ f ∈ fs, f.length = 2) → fs.flatten.length = 2 * fs.length
  | [], _ => by simp
  | f :: fs, h => by
    have h1 := h f (by simp); have h2 := flat_two (fs := fs) (fun g hg => h g (by simp [hg]))
    rw [List.length_cons, List.flatten_cons, List.length_append]; omega
theorem flat_mem_filter {α : Type} {P : List α → Bool} {fs : List (List α)} {x : α} : x ∈ (fs.filter P).flatten ↔ ∃ f ∈ fs, P f = true ∧ x ∈ f := by
  rw [List.mem_flatten]
  exact ⟨fun ⟨f, h, hx⟩ => ⟨f, (List.mem_filter.1 h).1, (List.mem_filter.1 h).2, hx⟩, fun ⟨f, h, hp, hx⟩ => ⟨f, List.mem_filter.2 ⟨h, hp⟩, hx⟩⟩
theorem nxt_self {l : List Int} (hn : l.Nodup) {u : Int} (hu : u ∈ l) (h : nxt l u = u) : l = [u] := by
  obtain ⟨a, b, rfl⟩ := List.append_of_mem hu
  rw [List.nodup_append, List.nodup_cons] at hn
  have ha : u ∉ a := fun g => hn.2.2 u g u (by simp) rfl
  rw [nxt_app ha] at h
  cases b with
  | nil => cases a with
    | nil => rfl
    | cons y a => exact absurd (show y = u from h) (fun e => ha (by simp [e]))
  | cons y b => exact absurd (show y = u from h) (fun e => hn.2.1.1 (by simp [e]))
theorem flat_filter_nd {α : Type} {P : List α → Bool} : ∀ {fs : List (List α)}, fs.flatten.Nodup → (fs.filter P).flatten.Nodup
  | [], _ => by simp
  | f :: fs, h => by
    rw [List.flatten_cons, List.nodup_append] at h
    have ih := flat_filter_nd (P := P) h.2.1
    by_cases hp : P f = true
    · rw [List.filter_cons_of_pos hp, List.flatten_cons, List.nodup_append]
      refine ⟨h.1, ih, fun a ha b hb => h.2.2 a ha b ?_⟩
      obtain ⟨g, hg, _, hb⟩ := flat_mem_filter.1 hb
      exact List.mem_flatten.2 ⟨g, hg, hb⟩
    · rw [List.filter_cons_of_neg hp]; exact ih
theorem face_two {ρ : Int → List Int} (hρ : RS ρ) {f : List (Int × Int)} (hc : Cyc (fst ρ) f) (hD : ∀ d ∈ f, Dt ρ d) : 2 ≤ f.length ∧ (f.length = 2 → ∀ d ∈ f, ρ d.1 = [d.2] ∧ ρ d.2 = [d.1]) := by
  obtain ⟨x, l, rfl, hp⟩ := hc
  cases l with
  | nil =>
    have hp : fst ρ x = x := hp
    have hx := hD x (by simp)
    have : x.2 = x.1 := congrArg Prod.fst hp
    unfold Dt at hx; rw [this] at hx
    exact absurd hx (hρ.irr _)
  | cons y l =>
    refine ⟨by simp, fun h => ?_⟩
    have hl : l = [] := by simp at h; exact h
    subst hl
    have k1 : fst ρ x = y := hp.1
    have k2 : fst ρ y = x := hp.2
    clear hp
    obtain ⟨a, b⟩ := x
    obtain ⟨c, e⟩ := y
    unfold fst at k1 k2
    simp only [Prod.mk.injEq] at k1 k2
    obtain ⟨rfl, h1⟩ := k1
    obtain ⟨rfl, h2⟩ := k2
    have d1 : Dt ρ (e, b) := hD _ (by simp)
    have d2 : Dt ρ (b, e) := hD _ (by simp)
    have r1 : ρ e = [b] := nxt_self (hρ.nd _) d1 h2
    have r2 : ρ b = [e] := nxt_self (hρ.nd _) d2 h1
    intro d hd
    simp only [List.mem_cons, List.not_mem_nil, or_false] at hd
    rcases hd with rfl | rfl
    · exact ⟨r1, r2⟩
    · exact ⟨r2, r1⟩
theorem euler {ρ : Int → List Int} (hρ : RS ρ) {n m : Nat} (hr : ∀ x, Ni ρ x → 0 ≤ x ∧ x < n) (hT : Tw ρ 0) {ds : List (Int × Int)} (hd : ds.Nodup) (hds : ∀ d, d ∈ ds ↔ Dt ρ d) (hm : ds.length = 2 * m) (hn : 3 ≤ n) : m + 6 ≤ 3 * n := by
  obtain ⟨fs, ps, h1, h2, h3⟩ := hT
  have hs : fs.flatten.length = 2 * m := by
    rw [← hm]; exact ((List.perm_ext_iff_of_nodup h1.nd hd).2 fun d => by rw [h1.mem, hds]).length_eq
  have hin : ∀ f ∈ fs, ∀ d ∈ f, Dt ρ d := fun f hf d hd => (h1.mem d).1 (List.mem_flatten.2 ⟨f, hf, hd⟩)
  have hft := fun f hf => face_two hρ (h1.cyc f hf) (hin f hf)
  obtain ⟨s1, s2⟩ := flat_split (fun f : List (Int × Int) => f.length == 2) fs
  obtain ⟨t1, t2⟩ := flat_split (fun f : List Int => f.length == 2) ps
  have a1 : ((fs.filter fun f => f.length == 2).flatten).length = 2 * (fs.filter fun f => f.length == 2).length := flat_two fun f hf => by
    have := (List.mem_filter.1 hf).2; simpa using this
  have a2 : ((ps.filter fun f => f.length == 2).flatten).length = 2 * (ps.filter fun f => f.length == 2).length := flat_two fun f hf => by
    have := (List.mem_filter.1 hf).2; simpa using this
  have a3 : 3 * (fs.filter fun f => !(f.length == 2)).length ≤ (fs.filter fun f => !(f.length == 2)).flatten.length := flat_ge 3 fun f hf => by
    have h := List.mem_filter.1 hf
    have := (hft f h.1).1
    have : f.length ≠ 2 := by simpa using h.2
    omega
  have a4 : ((fs.filter fun f => f.length == 2).flatten).length ≤ ((ps.filter fun f => f.length == 2).flatten).length := by
    have hk : ∀ d ∈ (fs.filter fun f => f.length == 2).flatten, ρ d.1 = [d.2] ∧ ρ d.2 = [d.1] := fun d hd => by
      obtain ⟨f, hf, hl, hd⟩ := flat_mem_filter.1 hd
      exact (hft f hf).2 (by simpa using hl) d hd
    have nd2 : (fs.filter fun f => f.length == 2).flatten.Nodup := by
      exact flat_filter_nd h1.nd
    have nd3 : ((fs.filter fun f => f.length == 2).flatten.map Prod.fst).Nodup := by
      refine List.pairwise_map.2 (nd2.imp_of_mem fun {a b} ha hb hne e => hne ?_)
      have e1 := (hk a ha).1; have e2 := (hk b hb).1
      rw [e, e2] at e1
      injection e1 with e1
      exact Prod.ext e e1.symm
    rw [← List.length_map (f := Prod.fst)]
    refine sub_len nd3 fun x hx => ?_
    obtain ⟨d, hd, rfl⟩ := List.mem_map.1 hx
    obtain ⟨r1, r2⟩ := hk d hd
    have hni : Ni ρ d.1 := by unfold Ni; rw [r1]; simp
    obtain ⟨p, hp, hdp⟩ := List.mem_flatten.1 ((h2.mem d.1).2 hni)
    refine flat_mem_filter.2 ⟨p, hp, ?_, hdp⟩
    have hne : d.1 ≠ d.2 := fun e => hρ.irr d.1 (by rw [r1, ← e]; simp)
    have hp2 : d.2 ∈ p := h2.clo p hp d.1 hdp d.2 (by show d.2 ∈ ρ d.1; rw [r1]; simp)
    have hsub : ∀ x ∈ p, x ∈ [d.1, d.2] := fun x hx => h2.con p hp d.1 hdp x hx (· ∈ [d.1, d.2]) (fun a b ha hab => by
      have hab : b ∈ ρ a := hab
      simp only [List.mem_cons, List.not_mem_nil, or_false] at ha ⊢
      rcases ha with rfl | rfl
      · rw [r1] at hab; simp at hab; exact .inr hab
      · rw [r2] at hab; simp at hab; exact .inl hab) (by simp)
    have ndp : p.Nodup := by
      obtain ⟨rs, g1, g2⟩ := h2.pick hp
      have := g2.nd; rw [List.flatten_cons, List.nodup_append] at this; exact this.1
    have l1 := sub_len ndp hsub
    have l2 := sub_len (l := [d.1, d.2]) (m := p) (by simp [hne]) (fun x hx => by simp at hx; rcases hx with rfl | rfl; exact hdp; exact hp2)
    simp at l1 l2; simp; omega
  have hV : ps.flatten.length ≤ n := by
    have hin2 : ∀ x ∈ ps.flatten, x ∈ (List.range n).map fun k : Nat => (k : Int) := fun x hx => by
      have := hr x ((h2.mem x).1 hx)
      exact List.mem_map.2 ⟨x.toNat, List.mem_range.2 (by omega), by omega⟩
    have := sub_len h2.nd hin2; simpa using this
  have a5 : (ps.filter fun f => !(f.length == 2)) = [] → (ps.filter fun f => !(f.length == 2)).flatten.length = 0 := fun h => by rw [h]; rfl
  have a6 : (ps.filter fun f => !(f.length == 2)).length = 0 → (ps.filter fun f => !(f.length == 2)).flatten.length = 0 := fun h => a5 (List.length_eq_zero_iff.1 h)
  generalize (ps.filter fun f => !(f.length == 2)).flatten.length = Vr at *
  generalize (ps.filter fun f => !(f.length == 2)).length = r at *
  generalize (ps.filter fun f => f.length == 2).flatten.length = V2 at *
  generalize (ps.filter fun f => f.length == 2).length = k2 at *
  generalize (fs.filter fun f => !(f.length == 2)).flatten.length = S3 at *
  generalize (fs.filter fun f => !(f.length == 2)).length = F3 at *
  generalize (fs.filter fun f => f.length == 2).flatten.length = S2 at *
  generalize (fs.filter fun f => f.length == 2).length = F2 at *
  clear a5 hft hin h1 h2 hds
  rw [hs] at h3 s1
  rcases Nat.eq_zero_or_pos r with e | e
  · have := a6 e; omega
  · omega
end Go.Proofs.YtmaaloijdjnblaaGreatDoor

/- Walking a face until one is seen again. Program-free. -/
namespace Go.Proofs.YtmaaloijdjnblaaGreatDoor
theorem nxt_inj {l : List Int} (hn : l.Nodup) {a b : Int} (ha : a ∈ l) (hb : b ∈ l) (h : nxt l a = nxt l b) : a = b := by
  obtain ⟨c, d, rfl⟩ := List.append_of_mem ha
  have hn' := hn
  rw [List.nodup_append, List.nodup_cons] at hn'
  obtain ⟨nc, ⟨nad, nd⟩, ncd⟩ := hn'
  have hac : a ∉ c := fun g => ncd a g a (by simp) rfl
  have key : ∀ {k : List Int}, (k ++ [a]).Nodup → b ∈ k ++ [a] → nxt (k ++ [a]) a = nxt (k ++ [a]) b → a = b := by
    intro k hk hb h
    rcases List.mem_append.1 hb with hb | hb
    · obtain ⟨p, q, rfl⟩ := List.append_of_mem hb
      have hk' := hk
      rw [List.nodup_append, List.nodup_append, List.nodup_cons] at hk'
      obtain ⟨⟨np, ⟨nbq, nq⟩, npq⟩, _, nka⟩ := hk'
      have hbp : b ∉ p := fun g => npq b g b (by simp) rfl
      rw [nxt_app (a := p ++ b :: q) (b := []) (fun g => nka a g a (by simp) rfl), show (p ++ b :: q) ++ [a] = p ++ b :: (q ++ [a]) by simp, nxt_app hbp] at h
      exfalso
      have hab : a ≠ b := fun e => nka b (by simp) a (by simp) e.symm
      cases p with
      | nil => cases q with
        | nil => exact hab (show b = a from h).symm
        | cons z q => exact nbq (by rw [show b = z from h]; simp)
      | cons y p => cases q with
        | nil => exact nka y (by simp) a (by simp) (show y = a from h)
        | cons z q => exact npq y (by simp) z (by simp) (show y = z from h)
    · simp at hb; exact hb.symm
  have e : nxt ((d ++ c) ++ [a]) = fun u => nxt ((d ++ c) ++ [a]) u := rfl
  have hp : ((c ++ [a]) ++ d).Nodup := by simpa using hn
  have r : ∀ u, u ∈ c ++ a :: d → nxt (d ++ (c ++ [a])) u = nxt (c ++ a :: d) u := fun u hu => by
    have := nxt_rot hp (u := u) (by simpa using hu); simpa using this
  have hk : ((d ++ c) ++ [a]).Nodup := by
    have := (List.perm_append_comm.nodup_iff).1 hp; simpa using this
  refine key hk ?_ ?_
  · simp only [List.mem_append, List.mem_cons, List.not_mem_nil, or_false] at hb ⊢
    rcases hb with h | h | h <;> simp [h]
  · rw [List.append_assoc, r a (by simp), r b hb, h]
theorem fst_inj {ρ : Int → List Int} (hρ : RS ρ) {d d' : Int × Int} (hd : Dt ρ d) (hd' : Dt ρ d') (h : fst ρ d = fst ρ d') : d = d' := by
  obtain ⟨a, b⟩ := d
  obtain ⟨c, e⟩ := d'
  unfold fst at h
  simp only [Prod.mk.injEq] at h
  obtain ⟨rfl, h⟩ := h
  have := nxt_inj (hρ.nd b) (hρ.sym a b hd) (hρ.sym c b hd') h
  rw [this]
theorem fst_dt {ρ : Int → List Int} (hρ : RS ρ) {d : Int × Int} (hd : Dt ρ d) : Dt ρ (fst ρ d) := nxt_mem (hρ.sym _ _ hd)
theorem Cyc.prev {α : Type} {φ : α → α} {c : List α} (h : Cyc φ c) {x : α} (hx : x ∈ c) : ∃ z ∈ c, φ z = x := by
  obtain ⟨l, m, rfl, hc⟩ := h.from hx
  obtain ⟨y, k, e, hp⟩ := hc
  injection e with e1 e2; subst e1
  rcases List.eq_nil_or_concat (x :: (m ++ l)) with h | ⟨q, z, h⟩
  · cases h
  · rw [List.concat_eq_append] at h
    rw [h, pth_last] at hp
    refine ⟨z, ?_, hp.2⟩
    have : z ∈ x :: (m ++ l) := by rw [h]; simp
    simp only [List.mem_append, List.mem_cons] at this ⊢
    rcases this with g | g | g <;> simp [g]
structure FW (ρ : Int → List Int) (fs : List (List (Int × Int))) (d0 : Int × Int) (pa : List (Int × Int)) (x : Int × Int) : Prop where
  cyc : ∀ c ∈ fs, Cyc (fst ρ) c
  nd : (fs.flatten ++ pa).Nodup
  dt : ∀ d ∈ fs.flatten ++ pa, Dt ρ d
  dx : Dt ρ x
  pth : Pth (fst ρ) x pa
  hd : pa.headD x = d0
  d0 : d0 ∉ fs.flatten
theorem FW.step {ρ : Int → List Int} (hρ : RS ρ) {fs d0 pa x} (h : FW ρ fs d0 pa x) (hx : x ∉ fs.flatten ++ pa) : FW ρ fs d0 (pa ++ [x]) (fst ρ x) where
  cyc := h.cyc
  nd := by
    rw [← List.append_assoc]
    rw [List.nodup_append]
    exact ⟨h.nd, by simp, fun a ha b hb e => hx (by rw [← List.mem_singleton.1 hb, ← e]; exact ha)⟩
  dt d hd := by
    rw [← List.append_assoc] at hd
    rcases List.mem_append.1 hd with g | g
    · exact h.dt d g
    · rw [List.mem_singleton.1 g]; exact h.dx
  dx := fst_dt hρ h.dx
  pth := pth_last.2 ⟨h.pth, rfl⟩
  hd := by rw [headD_app]; exact h.hd
  d0 := h.d0
theorem FW.stop {ρ : Int → List Int} (hρ : RS ρ) {fs d0 pa x} (h : FW ρ fs d0 pa x) (hx : x ∈ fs.flatten ++ pa) : Cyc (fst ρ) pa := by
  have hn := h.nd
  rw [List.nodup_append] at hn
  rcases List.eq_nil_or_concat pa with rfl | ⟨q, z, rfl⟩
  · simp only [List.append_nil] at hx
    have : x = d0 := h.hd
    exact absurd (this ▸ hx) h.d0
  · rw [List.concat_eq_append] at *
    have hp := pth_last.1 h.pth
    have hz : Dt ρ z := h.dt z (by simp)
    rcases List.mem_append.1 hx with g | g
    · obtain ⟨c, hc, hxc⟩ := List.mem_flatten.1 g
      obtain ⟨z', hz', e⟩ := (h.cyc c hc).prev hxc
      have hzf : z' ∈ fs.flatten := List.mem_flatten.2 ⟨c, hc, hz'⟩
      have : z' = z := fst_inj hρ (h.dt z' (by simp only [List.mem_append]; exact .inl hzf)) hz (e.trans hp.2.symm)
      exact absurd rfl (hn.2.2 z' hzf z' (by rw [this]; simp))
    · obtain ⟨l, m, e⟩ := List.append_of_mem g
      rcases List.eq_nil_or_concat l with rfl | ⟨l0, z', rfl⟩
      · exact ⟨x, m, e, h.pth⟩
      · rw [List.concat_eq_append] at e
        have hp2 := h.pth
        rw [e, List.append_assoc, pth_app] at hp2
        have hp3 := hp2.2
        have e3 : fst ρ z' = x := hp3.1
        have hz' : Dt ρ z' := h.dt z' (by rw [e]; simp)
        have ezz : z' = z := fst_inj hρ hz' hz (e3.trans hp.2.symm)
        exfalso
        have nd2 := hn.2.1
        rw [e, List.append_assoc, List.nodup_append] at nd2
        have nd3 := nd2.2.1
        rw [List.singleton_append, List.nodup_cons] at nd3
        have hlast : z ∈ x :: m := by
          have e5 : (q ++ [z]).getLast? = (l0 ++ [z'] ++ x :: m).getLast? := by rw [e]
          rw [List.getLast?_concat, List.getLast?_append] at e5
          cases hm : (x :: m).getLast? with
          | none => simp at hm
          | some y =>
            rw [hm] at e5
            have : z = y := by simpa using e5
            rw [this]; exact List.mem_of_getLast? hm
        exact nd3.1 (ezz ▸ hlast)
end Go.Proofs.YtmaaloijdjnblaaGreatDoor

/- Plain lemmas on the combinators, for the laws in plain Lean. -/
namespace Go.Proofs.YtmaaloijdjnblaaGreatDoor
section
variable {α β A S O : Type}
theorem inI {x : Int} (h1 : -9223372036854775808 ≤ x) (h2 : x ≤ 9223372036854775807) : InI x := ⟨h1, h2⟩
theorem ck_of {x : Int} {k : Int → Option β} (h : InI x) : ck x k = k x := by unfold ck; rw [if_pos h]
theorem idx_of {xs : List α} {i : Int} {k : α → Option β} {x : α} (h0 : 0 ≤ i) (h : xs[i.toNat]? = some x) : idx xs i k = k x := by
  unfold idx; rw [if_pos h0, h]
theorem idx_nat {xs : List α} {i : Nat} {k : α → Option β} (h : i < xs.length) : idx xs (i : Int) k = k xs[i] :=
  idx_of (Int.natCast_nonneg _) (by simp [h])
theorem app_of {xs ys : List α} {k : List α → Option β} (h : xs.length + ys.length ≤ lim) : app xs ys k = k (xs ++ ys) := by unfold app; rw [if_pos h]
theorem mkS_of {n : Int} {z : α} {k : List α → Option β} (h0 : 0 ≤ n) (h : n ≤ lim) : mkS n z k = k (List.replicate n.toNat z) := by unfold mkS; rw [if_pos ⟨h0, h⟩]
theorem slc_of {xs : List α} {i j : Int} {k : List α → Option β} (h : 0 ≤ i ∧ i ≤ j ∧ j ≤ xs.length) : slc xs i j k = k ((xs.drop i.toNat).take (j.toNat - i.toNat)) := by unfold slc; rw [if_pos h]
theorem grd_of {p : Prop} [Decidable p] {k : Option β} (h : p) : grd p k = k := by unfold grd; rw [if_pos h]
theorem cal_of {e : Option α} {k : α → Option β} {x : α} (h : e = some x) : cal e k = k x := by rw [h]; rfl
theorem bnd_l {e : Option (α ⊕ A)} {k : α → Option A} {j : α} (h : e = some (.inl j)) : bnd e k = k j := by rw [h]; rfl
theorem bnd_r {e : Option (α ⊕ A)} {k : α → Option A} {a : A} (h : e = some (.inr a)) : bnd e k = some a := by rw [h]; rfl
@[simp] theorem cal_some_eq (x : α) (k : α → Option β) : cal (some x) k = k x := rfl
@[simp] theorem bnd_inl_eq (j : α) (k : α → Option A) : bnd (some (.inl j)) k = k j := rfl
@[simp] theorem bnd_inr_eq (a : A) (k : α → Option A) : bnd (some (.inr a)) k = some a := rfl
theorem lp_up {step : S → Option (S ⊕ O)} (f : Nat → S) (m : Nat) {o : O} (h : ∀ k, k < m → step (f k) = some (.inl (f (k + 1)))) (he : step (f m) = some (.inr o)) : lp step (f 0) = some o := by
  have key : ∀ j k, k + j = m → lp step (f k) = some o := by
    intro j
    induction j with
    | zero => intro k hk; rw [lp_unfold, show k = m by omega, he]
    | succ j ih => intro k hk; rw [lp_unfold, h k (by omega)]; exact ih (k + 1) (by omega)
  exact key m 0 (by omega)
theorem lp_upto {step : S → Option (S ⊕ O)} (f : Nat → S) (m : Nat) {s : S} {o : O} (hs : s = f 0) (h : ∀ k, k < m → step (f k) = some (.inl (f (k + 1)))) (he : step (f m) = some (.inr o)) : lp step s = some o := by
  rw [hs]; exact lp_up f m h he
theorem inl_eq {s s' : S} (h : s = s') : (some (.inl s) : Option (S ⊕ O)) = some (.inl s') := by rw [h]
theorem pair_eq {a a' : α} {b b' : β} (h : a = a') (h' : b = b') : (a, b) = (a', b') := by rw [h, h']
theorem lp_all {step : S → Option (S ⊕ O)} (f : Nat → S) (n : Nat) (p : Nat → Prop) {oT oF : O} (h1 : ∀ k, k < n → p k → step (f k) = some (.inl (f (k + 1)))) (h2 : ∀ k, k < n → ¬ p k → step (f k) = some (.inr oF))
    (h3 : step (f n) = some (.inr oT)) : ((∀ k, k < n → p k) → lp step (f 0) = some oT) ∧ ((∃ k, k < n ∧ ¬ p k) → lp step (f 0) = some oF) := by
  refine ⟨fun h => lp_up f n (fun k hk => h1 k hk (h k hk)) h3, fun h => ?_⟩
  obtain ⟨m, ⟨hm, hp⟩, hl⟩ := least_of h
  refine lp_up f m (fun k hk => h1 k (by omega) ?_) (h2 m hm hp)
  exact Classical.byContradiction fun hn => by have := hl k ⟨by omega, hn⟩; omega
theorem lp_allB {step : S → Option (S ⊕ O)} (f : Nat → S) (n : Nat) (p : Nat → Prop) (b : Bool) {g : Bool → O} (hb : b = true ↔ ∀ k, k < n → p k) (h1 : ∀ k, k < n → p k → step (f k) = some (.inl (f (k + 1))))
    (h2 : ∀ k, k < n → ¬ p k → step (f k) = some (.inr (g false))) (h3 : step (f n) = some (.inr (g true))) : lp step (f 0) = some (g b) := by
  obtain ⟨ht, hf⟩ := lp_all f n p h1 h2 h3
  cases b with
  | true => exact ht (hb.1 rfl)
  | false =>
    refine hf (Classical.byContradiction fun hn => ?_)
    have : false = true := hb.2 fun k hk => Classical.byContradiction fun hp => hn ⟨k, hk, hp⟩
    cases this
theorem take_succ_of {xs : List α} {k : Nat} (h : k < xs.length) : xs.take (k + 1) = xs.take k ++ [xs[k]] := by
  rw [List.take_add_one, List.getElem?_eq_getElem h]; rfl
theorem ne_of_lt_idxOf {s : List Int} {c : Int} {k : Nat} (hk : k < s.idxOf c) (h : k < s.length) : s[k] ≠ c := by
  have := List.not_of_lt_findIdx (p := (· == c)) (xs := s) (i := k) hk
  simpa using this
theorem set_app {xs : List α} {pre post : List α} {k : Nat} {x y : α} (hx : xs = pre ++ y :: post) (hk : pre.length = k) : xs.set k x = pre ++ x :: post := by
  subst hx; subst hk; simp
end
end Go.Proofs.YtmaaloijdjnblaaGreatDoor

/- Loops that gather: over a list, over numbers; what simp takes to run straight code. -/
namespace Go.Proofs.YtmaaloijdjnblaaGreatDoor
section
variable {α β A S O : Type}
theorem app_s {xs ys : List α} {k : List α → Option β} (h : xs.length + ys.length ≤ 1099511627776) : app xs ys k = k (xs ++ ys) := app_of h
theorem app1_s {xs : List α} {y : α} {k : List α → Option β} (h : xs.length + 1 ≤ 1099511627776) : app xs [y] k = k (xs ++ [y]) := app_of (show xs.length + [y].length ≤ 1099511627776 from h)
theorem fixO_ind {J : Type} {F : (A → Option β) → A → Option β} (e : J → A) (μ : J → Nat) (val : J → β) (I : J → Prop) (h : ∀ R j, I j → (∀ j', I j' → μ j' < μ j → R (e j') = some (val j')) → F R (e j) = some (val j)) (j : J) (hj : I j) :
    fixO F (e j) = some (val j) := by
  have key : ∀ n j, μ j = n → I j → ∀ m, n + 1 ≤ m → itN F m (e j) = some (val j) := by
    intro n
    induction n using Nat.strongRecOn with
    | _ n ih =>
      intro j hn hI m hm
      obtain ⟨m, rfl⟩ : ∃ k, m = k + 1 := ⟨m - 1, by omega⟩
      rw [itN_succ]
      exact h _ j hI (fun j' hI' hlt => ih (μ j') (by omega) j' rfl hI' m (by omega))
  exact fixO_of (μ j + 1) (fun m hm => key _ j rfl hj m hm)
theorem lp_fold {step : A × Int → Option ((A × Int) ⊕ O)} (xs : List α) (f : A → α → A) (a0 : A) (p : A → Prop) {o : O} (h0 : p a0)
    (h : ∀ (k : Nat) (hk : k < xs.length) (a : A), p a → step (a, (k : Int)) = some (.inl (f a xs[k], ((k + 1 : Nat) : Int))) ∧ p (f a xs[k]))
    (he : ∀ a, a = xs.foldl f a0 → step (a, (xs.length : Int)) = some (.inr o)) : lp step (a0, 0) = some o := by
  have hp : ∀ k, k ≤ xs.length → p ((xs.take k).foldl f a0) := by
    intro k
    induction k with
    | zero => intro _; simpa using h0
    | succ k ih => intro hk; rw [take_succ_of (by omega), List.foldl_append]; exact (h k (by omega) _ (ih (by omega))).2
  refine lp_upto (fun k => ((xs.take k).foldl f a0, (k : Int))) xs.length (by simp) (fun k hk => ?_) ?_
  · have := (h k hk _ (hp k (by omega))).1
    rw [this]; rw [take_succ_of hk, List.foldl_append]; rfl
  · exact he _ (by rw [List.take_length])
theorem lp_nums {step : A × Int → Option ((A × Int) ⊕ O)} (n : Nat) (f : Nat → A) {o : O}
    (h : ∀ (k : Nat), k < n → step (f k, (k : Int)) = some (.inl (f (k + 1), ((k + 1 : Nat) : Int)))) (he : step (f n, (n : Int)) = some (.inr o)) : lp step (f 0, 0) = some o :=
  lp_upto (fun k => (f k, (k : Int))) n rfl h he
theorem lp_map {step : List β × Int → Option ((List β × Int) ⊕ O)} (xs : List α) (f : α → β) {o : O}
    (h : ∀ (k : Nat) (hk : k < xs.length) (l : List β), l.length = k → step (l, (k : Int)) = some (.inl (l ++ [f xs[k]], ((k + 1 : Nat) : Int))))
    (he : step (xs.map f, (xs.length : Int)) = some (.inr o)) : lp step ([], 0) = some o := by
  refine lp_upto (fun k => ((xs.take k).map f, (k : Int))) xs.length (by simp) (fun k hk => ?_) ?_
  · rw [h k hk _ (by simp; omega), take_succ_of hk, List.map_append]; rfl
  · rw [List.take_length]; exact he
theorem lp_find {step : Int → Option (Int ⊕ (Unit ⊕ O))} (l : List α) (p : α → Bool) (f : Int → O) (h1 : ∀ (k : Nat) (hk : k < l.length), p l[k] = false → step (k : Int) = some (.inl ((k : Int) + 1)))
    (h2 : ∀ (k : Nat) (hk : k < l.length), p l[k] = true → step (k : Int) = some (.inr (.inr (f k)))) (h3 : step (l.length : Int) = some (.inr (.inl ()))) :
    lp step 0 = some (match l.findIdx? p with | some k => .inr (f (k : Int)) | none => .inl ()) := by
  cases e : l.findIdx? p with
  | none =>
    rw [List.findIdx?_eq_none_iff] at e
    refine lp_upto (fun k => (k : Int)) l.length (by simp) (fun k hk => ?_) h3
    rw [h1 k hk (e _ (List.getElem_mem hk))]; rfl
  | some k =>
    rw [List.findIdx?_eq_some_iff_getElem] at e
    obtain ⟨hk, hp, hb⟩ := e
    refine lp_upto (fun k => (k : Int)) k (by simp) (fun j hj => ?_) (h2 k hk hp)
    rw [h1 j (by omega) (by simpa using hb j hj)]; rfl
end
end Go.Proofs.YtmaaloijdjnblaaGreatDoor

/- Loops of common kinds: over all elements, over two lists, copies. -/
namespace Go.Proofs.YtmaaloijdjnblaaGreatDoor
section
variable {α β : Type}
def eqStep (eq : α → α → Option Bool) (a b : List α) (i : Int) : Option (Int ⊕ (Unit ⊕ Bool)) :=
  if i < (a.length : Int) then idx a i (fun x => idx b i (fun y => cal (eq x y) (fun t => if ¬ (t = true) then some (.inr (.inr false)) else ck (i + 1) (fun _ => some (.inl (i + 1))))))
  else some (.inr (.inl ()))
theorem eq_loop [DecidableEq α] {step : Int → Option (Int ⊕ (Unit ⊕ Bool))} (a b : List α) (eq : α → α → Option Bool) (hs : ∀ i, step i = eqStep eq a b i) (hl : a.length ≤ 1099511627776)
    (hq : ∀ x ∈ a, ∀ y ∈ b, eq x y = some (decide (x = y))) : (if (a.length : Int) ≠ (b.length : Int) then some false else bnd (lp step 0) (fun _ => some true)) = some (decide (a = b)) := by
  by_cases hlen : a.length = b.length
  · rw [if_neg (by omega)]
    have key := lp_allB (step := step) (fun k => (k : Int)) a.length (fun k => a[k]? = b[k]?) (decide (a = b)) (g := fun t => if t then .inl () else .inr false) ?_ ?_ ?_ ?_
    · simp only [Int.natCast_zero] at key
      by_cases e : a = b
      · rw [decide_eq_true e] at key ⊢; rw [bnd_l key]
      · rw [decide_eq_false e] at key ⊢; rw [bnd_r key]
    · simp only [decide_eq_true_eq]
      refine ⟨fun h k _ => by rw [h], fun h => List.ext_getElem? fun k => ?_⟩
      by_cases hk : k < a.length
      · exact h k hk
      · rw [List.getElem?_eq_none (by omega), List.getElem?_eq_none (by omega)]
    · intro k hk hp
      have hk' : k < b.length := by omega
      have hp : a[k] = b[k] := by simpa [hk, hk'] using hp
      rw [hs]; unfold eqStep
      rw [if_pos (by omega), idx_nat hk, idx_nat hk', cal_of (hq _ (List.getElem_mem _) _ (List.getElem_mem _)), if_neg (by simp [hp]), ck_of (inI (by omega) (by omega))]; rfl
    · intro k hk hp
      have hk' : k < b.length := by omega
      have hp : ¬ a[k] = b[k] := by simpa [hk, hk'] using hp
      rw [hs]; unfold eqStep
      rw [if_pos (by omega), idx_nat hk, idx_nat hk', cal_of (hq _ (List.getElem_mem _) _ (List.getElem_mem _)), if_pos (by simp [hp])]; rfl
    · rw [hs]; unfold eqStep; rw [if_neg (by omega)]; rfl
  · rw [if_pos (by omega)]
    have : a ≠ b := fun e => hlen (by rw [e])
    simp [this]
def eqIStep [DecidableEq α] (a b : List α) (i : Int) : Option (Int ⊕ (Unit ⊕ Bool)) :=
  if i < (a.length : Int) then idx a i (fun x => idx b i (fun y => if x ≠ y then some (.inr (.inr false)) else ck (i + 1) (fun _ => some (.inl (i + 1)))))
  else some (.inr (.inl ()))
theorem eqI_loop [DecidableEq α] {step : Int → Option (Int ⊕ (Unit ⊕ Bool))} (a b : List α) (hs : ∀ i, step i = eqIStep a b i) (hl : a.length ≤ 1099511627776) :
    (if (a.length : Int) ≠ (b.length : Int) then some false else bnd (lp step 0) (fun _ => some true)) = some (decide (a = b)) := by
  refine eq_loop a b (fun x y => some (decide (x = y))) (fun i => ?_) hl (fun _ _ _ _ => rfl)
  rw [hs]; unfold eqIStep eqStep
  simp
def copyStep (q : α → Option β) (a : List α) (s : List β × Int) : Option ((List β × Int) ⊕ (List β ⊕ List β)) :=
  if s.2 < (a.length : Int) then idx a s.2 (fun x => cal (q x) (fun y => idx s.1 s.2 (fun _ => ck (s.2 + 1) (fun _ => some (.inl (s.1.set s.2.toNat y, s.2 + 1))))))
  else some (.inr (.inl s.1))
theorem copy_loop {step : List β × Int → Option ((List β × Int) ⊕ (List β ⊕ List β))} (a : List α) (z : β) (q : α → Option β) (f : α → β) (hs : ∀ s, step s = copyStep q a s) (hl : a.length ≤ 1099511627776)
    (hq : ∀ x ∈ a, q x = some (f x)) : mkS (a.length : Int) z (fun _ => bnd (lp step (List.replicate (a.length : Int).toNat z, 0)) (fun j => some j)) = some (a.map f) := by
  rw [mkS_of (by omega) (by unfold lim; omega)]
  have hloop : lp step (List.replicate (a.length : Int).toNat z, 0) = some (.inl (a.map f)) := by
    refine lp_upto (fun k => ((a.take k).map f ++ List.replicate (a.length - k) z, (k : Int))) a.length (by simp) (fun k hk => ?_) ?_
    · rw [hs]; unfold copyStep
      simp only
      rw [if_pos (by omega), idx_nat hk, cal_of (hq _ (List.getElem_mem _)), idx_nat (by simp; omega), ck_of (inI (by omega) (by omega))]
      refine inl_eq (pair_eq ?_ (by omega))
      rw [take_succ_of hk, List.map_append]
      obtain ⟨m, hm⟩ : ∃ m, a.length - k = m + 1 := ⟨a.length - k - 1, by omega⟩
      rw [hm, List.replicate_succ, show a.length - (k + 1) = m by omega, Int.toNat_natCast, set_app rfl (by simp; omega), List.append_assoc]
      rfl
    · rw [hs]; unfold copyStep; simp only
      rw [if_neg (by omega)]; simp
  rw [bnd_l hloop]
end
end Go.Proofs.YtmaaloijdjnblaaGreatDoor

/- The laws' helpers on sizes: what is left of a budget. -/
namespace Go.Proofs.YtmaaloijdjnblaaGreatDoor
def less (n m : Int) : Int := if n - m < 0 then -1 else n - m
theorem less_neg {n m : Int} : less n m < 0 ↔ n < m := by unfold less; split <;> omega
theorem less_of {n m : Int} (h : m ≤ n) : less n m = n - m := by unfold less; rw [if_neg (by omega)]
theorem inI_less {n : Int} {m : Nat} (h0 : 0 ≤ n) (h1 : n ≤ 1048576) (hm : m ≤ 9223372036854775807) : InI (n - m) := by unfold InI; omega
theorem szInt64S_eq (a : List Int) (n : Int) (h0 : 0 ≤ n) (h1 : n ≤ 1048576) (ha : Sz.ok a) : F_laws_szInt64S a n = some (less n a.length) := by
  unfold F_laws_szInt64S
  rw [ck_of (inI_less h0 h1 ha.1)]
  unfold less; split <;> rfl
theorem szInt64SS_eq (a : List (List Int)) (n : Int) (h0 : 0 ≤ n) (h1 : n ≤ 1048576) (ha : Sz.ok a) :
    ∃ m, F_laws_szInt64SS a n = some m ∧ (m < 0 ∨ (0 ≤ m ∧ m ≤ n ∧ a.length ≤ 1048576 ∧ ∀ x ∈ a, x.length ≤ 1048576)) := by
  unfold F_laws_szInt64SS
  rw [ck_of (inI_less h0 h1 ha.1)]
  by_cases hn : n - (a.length : Int) < 0
  · exact ⟨-1, by rw [if_pos hn], .inl (by decide)⟩
  rw [if_neg hn]
  have key : ∀ (j k : Nat) (m : Int), k + j = a.length → 0 ≤ m → m ≤ n → (∀ (i : Nat) (h : i < a.length), i < k → a[i].length ≤ 1048576) →
      (∃ m', lp (fun s => F_laws_szInt64SS_l1 a s.1 s.2) (m, (k : Int)) = some (.inr m') ∧ m' < 0) ∨
      (∃ m', lp (fun s => F_laws_szInt64SS_l1 a s.1 s.2) (m, (k : Int)) = some (.inl m') ∧ 0 ≤ m' ∧ m' ≤ n ∧ ∀ (i : Nat) (h : i < a.length), a[i].length ≤ 1048576) := by
    intro j
    induction j with
    | zero =>
      intro k m hk hm hmn hall
      refine .inr ⟨m, ?_, hm, hmn, fun i h => hall i h (by omega)⟩
      rw [lp_unfold]
      simp only [F_laws_szInt64SS_l1]
      rw [if_neg (by omega)]
    | succ j ih =>
      intro k m hk hm hmn hall
      have hka : k < a.length := by omega
      have hs := szInt64S_eq a[k] m hm (by omega) (ha.2 _ (List.getElem_mem _))
      by_cases hl : less m (a[k].length : Int) < 0
      · refine .inl ⟨-1, ?_, by decide⟩
        rw [lp_unfold]
        simp only [F_laws_szInt64SS_l1]
        rw [if_pos (by omega), idx_nat hka, cal_of hs, if_pos hl]
      · have hle : (a[k].length : Int) ≤ m := by have := less_neg (n := m) (m := (a[k].length : Int)); omega
        have he := less_of hle
        have hstep : F_laws_szInt64SS_l1 a m (k : Int) = some (.inl (m - (a[k].length : Int), ((k + 1 : Nat) : Int))) := by
          simp only [F_laws_szInt64SS_l1]
          rw [if_pos (by omega), idx_nat hka, cal_of hs, if_neg hl, ck_of (inI (by omega) (by omega)), he]; rfl
        have := ih (k + 1) (m - (a[k].length : Int)) (by omega) (by omega) (by omega) (fun i h hi => by
          by_cases e : i = k
          · subst e; omega
          · exact hall i h (by omega))
        rw [lp_unfold]
        simp only [hstep]
        exact this
  rcases key a.length 0 (n - a.length) (by omega) (by omega) (by omega) (fun i h hi => by omega) with ⟨m', h1, h2⟩ | ⟨m', h1, h2, h3, h4⟩
  · rw [Int.natCast_zero] at h1
    exact ⟨m', by rw [bnd_r h1], .inl h2⟩
  · rw [Int.natCast_zero] at h1
    refine ⟨m', ?_, .inr ⟨h2, h3, by omega, fun x hx => ?_⟩⟩
    · rw [bnd_l h1]; rfl
    · obtain ⟨i, hi, rfl⟩ := List.getElem_of_mem hx
      exact h4 i hi
end Go.Proofs.YtmaaloijdjnblaaGreatDoor

/- The laws' helpers: copies and comparisons. -/
namespace Go.Proofs.YtmaaloijdjnblaaGreatDoor
theorem toInt64S_eq (a : List Int) (h : a.length ≤ 1099511627776) : F_laws_toInt64S a = some a := by
  unfold F_laws_toInt64S
  have := copy_loop (step := fun s => F_laws_toInt64S_l1 a s.1 s.2) a (0 : Int) some id (fun _ => rfl) h (fun _ _ => rfl)
  rw [List.map_id] at this; exact this
theorem toInt64SS_eq (a : List (List Int)) (h : a.length ≤ 1099511627776) (h' : ∀ x ∈ a, x.length ≤ 1099511627776) : F_laws_toInt64SS a = some a := by
  unfold F_laws_toInt64SS
  have := copy_loop (step := fun s => F_laws_toInt64SS_l1 a s.1 s.2) a ([] : List Int) F_laws_toInt64S id (fun _ => rfl) h (fun x hx => toInt64S_eq x (h' x hx))
  rw [List.map_id] at this; exact this
theorem eqInt64S_eq (a b : List Int) (h : a.length ≤ 1099511627776) : F_laws_eqInt64S a b = some (decide (a = b)) := by
  unfold F_laws_eqInt64S
  exact eqI_loop (step := fun s => F_laws_eqInt64S_l1 a b s) a b (fun _ => rfl) h
theorem eqInt64SS_eq (a b : List (List Int)) (h : a.length ≤ 1099511627776) (h' : ∀ x ∈ a, x.length ≤ 1099511627776) : F_laws_eqInt64SS a b = some (decide (a = b)) := by
  unfold F_laws_eqInt64SS
  exact eq_loop (step := fun s => F_laws_eqInt64SS_l1 a b s) a b F_laws_eqInt64S (fun _ => rfl) h (fun x hx y _ => eqInt64S_eq x y (h' x hx))
theorem l1Same_eq (a b : List Int) (h : a.length ≤ 1099511627776) : F_spec_l1Same a b = some (decide (a = b)) := by
  unfold F_spec_l1Same
  exact eqI_loop (step := fun s => F_spec_l1Same_l1 a b s) a b (fun _ => rfl) h
end Go.Proofs.YtmaaloijdjnblaaGreatDoor

/- Is a number within bounds. -/
namespace Go.Proofs.YtmaaloijdjnblaaGreatDoor
theorem in_eq (x a b : Int) : (if a ≤ x then some (decide (x ≤ b)) else some false) = some (decide (a ≤ x ∧ x ≤ b)) := by
  by_cases h : a ≤ x
  · rw [if_pos h]; simp [h]
  · rw [if_neg h]; simp [h]
theorem l1In_eq (x a b : Int) : F_spec_l1In x a b = some (decide (a ≤ x ∧ x ≤ b)) := in_eq x a b
theorem inRange_eq (x a b : Int) : F_impl_inRange x a b = some (decide (a ≤ x ∧ x ≤ b)) := in_eq x a b
end Go.Proofs.YtmaaloijdjnblaaGreatDoor

/- Graphs by their rows of neighbours: what the checks of spec and impl say. -/
namespace Go.Proofs.YtmaaloijdjnblaaGreatDoor
theorem lp_for {O : Type} {step : Int → Option (Int ⊕ O)} (n : Nat) (p : Nat → Prop) (q : Prop) [Decidable q] {oT oF : O} (hq : q ↔ ∀ k, k < n → p k)
    (h1 : ∀ k, k < n → p k → step (k : Int) = some (.inl ((k : Int) + 1))) (h2 : ∀ k, k < n → ¬ p k → step (k : Int) = some (.inr oF)) (he : step (n : Int) = some (.inr oT)) :
    lp step 0 = some (if q then oT else oF) := by
  have := lp_allB (step := step) (fun k => (k : Int)) n p (decide q) (g := fun t => if t then oT else oF) (by simpa using hq) (fun k hk hp => by rw [h1 k hk hp]; rfl) h2 he
  simpa using this
def Rises (s : List Int) (n : Int) : Prop := ∀ (k : Nat) (h : k < s.length), 0 ≤ s[k] ∧ s[k] ≤ n - 1 ∧ (0 < k → s[k - 1] < s[k])
theorem Rises.ge {s : List Int} {n : Int} (h : Rises s n) : ∀ (k : Nat) (hk : k < s.length), (k : Int) ≤ s[k]
  | 0, hk => (h 0 hk).1
  | k + 1, hk => by
    have h1 := Rises.ge h k (by omega)
    have h2 := (h (k + 1) hk).2.2 (by omega)
    simp only [Nat.add_sub_cancel] at h2
    omega
theorem Rises.len {s : List Int} {n : Int} (h : Rises s n) (h0 : 0 ≤ n) : (s.length : Int) ≤ n := by
  rcases Nat.eq_zero_or_pos s.length with e | e
  · omega
  · have h1 := h.ge (s.length - 1) (by omega)
    have h2 := (h (s.length - 1) (by omega)).2.1
    omega
theorem Rises.mem {s : List Int} {n x : Int} (h : Rises s n) (hx : x ∈ s) : 0 ≤ x ∧ x < n := by
  obtain ⟨k, hk, rfl⟩ := List.getElem_of_mem hx
  have := h k hk
  omega
open Classical in
theorem increasing_eq (s : List Int) (n : Int) (hs : s.length ≤ 1099511627776) (h0 : 0 ≤ n) (h1 : n ≤ 1099511627776) : F_impl_increasing s n = some (decide (Rises s n)) := by
  unfold F_impl_increasing
  have key := lp_for (step := fun i => F_impl_increasing_l1 s n i) s.length (fun k => ∀ h : k < s.length, 0 ≤ s[k] ∧ s[k] ≤ n - 1 ∧ (0 < k → s[k - 1] < s[k])) (Rises s n) (oT := .inl ()) (oF := .inr false)
    ⟨fun h k _ => h k, fun h k hk => h k hk hk⟩ (fun k hk hp => ?_) (fun k hk hp => ?_) ?_
  · rw [key]; by_cases h : Rises s n <;> simp [h, F_impl_increasing_k2, bnd]
  · have hp := hp hk
    simp only [F_impl_increasing_l1]
    rw [if_pos (by omega), idx_nat hk, ck_of (inI (by omega) (by omega)), cal_of (inRange_eq _ _ _), if_neg (by simp; omega)]
    by_cases h : 0 < k
    · rw [if_pos (by omega), ck_of (inI (by omega) (by omega)), show (k : Int) - 1 = ((k - 1 : Nat) : Int) by omega, idx_nat (by omega), if_neg (by have := hp.2.2 h; omega), ck_of (inI (by omega) (by omega))]
    · rw [if_neg (by omega), ck_of (inI (by omega) (by omega))]
  · have hp : ¬ (0 ≤ s[k] ∧ s[k] ≤ n - 1 ∧ (0 < k → s[k - 1] < s[k])) := fun h => hp fun _ => h
    simp only [F_impl_increasing_l1]
    rw [if_pos (by omega), idx_nat hk, ck_of (inI (by omega) (by omega)), cal_of (inRange_eq _ _ _)]
    by_cases h : 0 ≤ s[k] ∧ s[k] ≤ n - 1
    · have h2 : 0 < k ∧ s[k] ≤ s[k - 1] := by
        by_cases h3 : 0 < k
        · refine ⟨h3, ?_⟩
          by_cases h4 : s[k - 1] < s[k]
          · exact absurd ⟨h.1, h.2, fun _ => h4⟩ hp
          · omega
        · exact absurd ⟨h.1, h.2, fun h4 => absurd h4 h3⟩ hp
      rw [if_neg (by simp; omega), if_pos (by omega), ck_of (inI (by omega) (by omega)), show (k : Int) - 1 = ((k - 1 : Nat) : Int) by omega, idx_nat (by omega), if_pos h2.2]
    · rw [if_pos (by simpa using h)]
  · simp only [F_impl_increasing_l1]; rw [if_neg (by omega)]
open Classical in
theorem l1Set_eq (s : List Int) (n : Int) (hs : s.length ≤ 1099511627776) (h0 : 0 ≤ n) (h1 : n ≤ 1099511627776) : F_spec_l1Set s n = some (decide (Rises s n)) := by
  unfold F_spec_l1Set
  by_cases hl : n < (s.length : Int)
  · rw [if_pos hl, decide_eq_false]
    intro h; have := h.len h0; omega
  rw [if_neg hl]
  have key := lp_for (step := fun i => F_spec_l1Set_l1 s n i) s.length (fun k => ∀ h : k < s.length, 0 ≤ s[k] ∧ s[k] ≤ n - 1 ∧ (0 < k → s[k - 1] < s[k])) (Rises s n) (oT := .inl ()) (oF := .inr false)
    ⟨fun h k _ => h k, fun h k hk => h k hk hk⟩ (fun k hk hp => ?_) (fun k hk hp => ?_) ?_
  · rw [key]; by_cases h : Rises s n <;> simp [h, F_spec_l1Set_k2, bnd]
  · have hp := hp hk
    simp only [F_spec_l1Set_l1]
    rw [if_pos (by omega), idx_nat hk, ck_of (inI (by omega) (by omega)), cal_of (l1In_eq _ _ _), if_neg (by simp; omega)]
    by_cases h : 0 < k
    · rw [if_pos (by omega), idx_nat hk, ck_of (inI (by omega) (by omega)), show (k : Int) - 1 = ((k - 1 : Nat) : Int) by omega, idx_nat (by omega), if_neg (by have := hp.2.2 h; omega), ck_of (inI (by omega) (by omega))]
    · rw [if_neg (by omega), ck_of (inI (by omega) (by omega))]
  · have hp : ¬ (0 ≤ s[k] ∧ s[k] ≤ n - 1 ∧ (0 < k → s[k - 1] < s[k])) := fun h => hp fun _ => h
    simp only [F_spec_l1Set_l1]
    rw [if_pos (by omega), idx_nat hk, ck_of (inI (by omega) (by omega)), cal_of (l1In_eq _ _ _)]
    by_cases h : 0 ≤ s[k] ∧ s[k] ≤ n - 1
    · have h2 : 0 < k ∧ s[k] ≤ s[k - 1] := by
        by_cases h3 : 0 < k
        · refine ⟨h3, ?_⟩
          by_cases h4 : s[k - 1] < s[k]
          · exact absurd ⟨h.1, h.2, fun _ => h4⟩ hp
          · omega
        · exact absurd ⟨h.1, h.2, fun h4 => absurd h4 h3⟩ hp
      rw [if_neg (by simp; omega), if_pos (by omega), idx_nat hk, ck_of (inI (by omega) (by omega)), show (k : Int) - 1 = ((k - 1 : Nat) : Int) by omega, idx_nat (by omega), if_pos h2.2]
    · rw [if_pos (by simpa using h)]
  · simp only [F_spec_l1Set_l1]; rw [if_neg (by omega)]
theorem l1Has_eq (s : List Int) (x : Int) (hs : s.length ≤ 1099511627776) : F_spec_l1Has s x = some (decide (x ∈ s)) := by
  unfold F_spec_l1Has
  have key := lp_for (step := fun i => F_spec_l1Has_l1 s x i) s.length (fun k => ∀ h : k < s.length, s[k] ≠ x) (¬ x ∈ s) (oT := .inl ()) (oF := .inr true)
    ⟨fun h k _ hk e => h (by rw [← e]; exact List.getElem_mem hk), fun h hm => by obtain ⟨k, hk, e⟩ := List.getElem_of_mem hm; exact h k hk hk e⟩ (fun k hk hp => ?_) (fun k hk hp => ?_) ?_
  · rw [key]; by_cases h : x ∈ s <;> simp [h, F_spec_l1Has_k2, bnd]
  · simp only [F_spec_l1Has_l1]
    rw [if_pos (by omega), idx_nat hk, if_neg (hp hk), ck_of (inI (by omega) (by omega))]
  · have hp : s[k] = x := by
      by_cases e : s[k] = x
      · exact e
      · exact absurd (fun _ => e) hp
    simp only [F_spec_l1Has_l1]
    rw [if_pos (Int.ofNat_lt.2 hk), idx_nat hk, if_pos hp]
  · simp only [F_spec_l1Has_l1]; rw [if_neg (by omega)]
theorem contains_eq (s : List Int) (x : Int) (hs : s.length ≤ 1099511627776) : F_slices_Contains_int64 s x = some (decide (x ∈ s)) := by
  unfold F_slices_Contains_int64 F_slices_Index_int64
  by_cases hx : x ∈ s
  · have hi : s.idxOf x < s.length := List.idxOf_lt_length_iff.2 hx
    have key : lp (fun i => F_slices_Index_int64_l1 s x i) 0 = some (.inr (s.idxOf x : Int)) := by
      refine lp_upto (fun k => (k : Int)) (s.idxOf x) (by simp) (fun k hk => ?_) ?_
      · simp only [F_slices_Index_int64_l1]
        have hk' : k < s.length := by omega
        have := ne_of_lt_idxOf hk hk'
        rw [if_pos (by omega), idx_nat hk', if_neg (Ne.symm this), ck_of (inI (by omega) (by omega))]; rfl
      · simp only [F_slices_Index_int64_l1]
        rw [if_pos (by omega), idx_nat hi, if_pos (by simp)]
    rw [bnd_r key, cal_some_eq]; simp [hx]
  · have key : lp (fun i => F_slices_Index_int64_l1 s x i) 0 = some (.inl ()) := by
      refine lp_upto (fun k => (k : Int)) s.length (by simp) (fun k hk => ?_) ?_
      · simp only [F_slices_Index_int64_l1]
        rw [if_pos (by omega), idx_nat hk, if_neg (fun e => hx (by rw [e]; exact List.getElem_mem hk)), ck_of (inI (by omega) (by omega))]; rfl
      · simp only [F_slices_Index_int64_l1]; rw [if_neg (by omega)]
    rw [bnd_l key]; simp [F_slices_Index_int64_k2, hx]
structure GOk (g : List (List Int)) : Prop where
  n1 : 1 ≤ g.length
  n16 : g.length ≤ 16
  rows : ∀ (v : Nat) (h : v < g.length), Rises g[v] g.length ∧ (v : Int) ∉ g[v]
  sym : ∀ (v : Nat) (h : v < g.length), ∀ w ∈ g[v], ∀ (hw : w.toNat < g.length), (v : Int) ∈ g[w.toNat]
open Classical in
theorem bnd_if {A : Type} {q : Prop} [Decidable q] {x : Unit} {y : A} {k : Unit → Option A} : bnd (some (if q then .inl x else .inr y)) k = if q then k x else some y := by split <;> rfl
open Classical in
theorem specGraph_inner (g : List (List Int)) (hl : ∀ x ∈ g, x.length ≤ 1048576) (hr : ∀ (v : Nat) (h : v < g.length), Rises g[v] g.length ∧ (v : Int) ∉ g[v]) (k : Nat) (hk : k < g.length) :
    lp (fun s => F_spec_GraphOk_l4 g (k : Int) s) 0 = some (if ∀ w ∈ g[k], ∀ (hw : w.toNat < g.length), (k : Int) ∈ g[w.toNat] then .inl () else .inr (.inr (.inr false))) := by
  have hlk := hl _ (List.getElem_mem hk)
  refine lp_for g[k].length (fun j => ∀ (hj : j < g[k].length) (hw : (g[k][j]).toNat < g.length), (k : Int) ∈ g[(g[k][j]).toNat]) _ ⟨fun h j _ hj hw => h _ (List.getElem_mem hj) hw, fun h w hw => ?_⟩ (fun j hj hp => ?_) (fun j hj hp => ?_) ?_
  · obtain ⟨j, hj, rfl⟩ := List.getElem_of_mem hw
    exact h j hj hj
  · have hm := (hr k hk).1.mem (List.getElem_mem hj)
    obtain ⟨m, hm2⟩ := Int.eq_ofNat_of_zero_le hm.1
    have hmg : m < g.length := by omega
    have hp := hp hj (by omega)
    have hl2 := hl _ (List.getElem_mem hmg)
    simp only [F_spec_GraphOk_l4]
    rw [idx_nat hk, if_pos (by omega), idx_nat hk, idx_nat hj, hm2, idx_nat hmg, cal_of (l1Has_eq _ _ (by omega))]
    simp only [hm2, Int.toNat_natCast] at hp
    rw [if_neg (by simp [hp]), ck_of (inI (by omega) (by omega))]
  · have hm := (hr k hk).1.mem (List.getElem_mem hj)
    obtain ⟨m, hm2⟩ := Int.eq_ofNat_of_zero_le hm.1
    have hmg : m < g.length := by omega
    have hl2 := hl _ (List.getElem_mem hmg)
    have hp : ¬ (k : Int) ∈ g[m] := fun h => hp fun _ hw => by simp only [hm2, Int.toNat_natCast]; exact h
    simp only [F_spec_GraphOk_l4]
    rw [idx_nat hk, if_pos (by omega), idx_nat hk, idx_nat hj, hm2, idx_nat hmg, cal_of (l1Has_eq _ _ (by omega)), if_pos (by simp [hp])]
  · simp only [F_spec_GraphOk_l4]; rw [idx_nat hk, if_neg (by omega)]
open Classical in
theorem specGraphOk_eq (g : List (List Int)) (hl : ∀ x ∈ g, x.length ≤ 1048576) : F_spec_GraphOk g = some (decide (GOk g)) := by
  unfold F_spec_GraphOk F_spec_l1Size
  rw [cal_some_eq, cal_of (l1In_eq _ _ _)]
  by_cases hn : 1 ≤ g.length ∧ g.length ≤ 16
  case neg =>
    rw [if_pos (by simp; omega), decide_eq_false]
    exact fun h => hn ⟨h.n1, h.n16⟩
  rw [if_neg (by simp; omega)]
  have key := lp_for (step := fun i => F_spec_GraphOk_l1 g (g.length : Int) i) g.length (fun v => ∀ h : v < g.length, Rises g[v] g.length ∧ (v : Int) ∉ g[v]) (∀ (v : Nat) (h : v < g.length), Rises g[v] g.length ∧ (v : Int) ∉ g[v])
    (oT := .inl ()) (oF := .inr false) ⟨fun h k _ => h k, fun h k hk => h k hk hk⟩ (fun k hk hp => ?_) (fun k hk hp => ?_) ?_
  · rw [key, bnd_if]
    by_cases hr : ∀ (v : Nat) (h : v < g.length), Rises g[v] g.length ∧ (v : Int) ∉ g[v]
    case neg =>
      rw [if_neg hr, decide_eq_false]
      exact fun h => hr h.rows
    rw [if_pos hr]
    unfold F_spec_GraphOk_k2
    have key2 := lp_for (step := fun i => F_spec_GraphOk_l3 g (g.length : Int) i) g.length (fun v => ∀ h : v < g.length, ∀ w ∈ g[v], ∀ (hw : w.toNat < g.length), (v : Int) ∈ g[w.toNat])
      (∀ (v : Nat) (h : v < g.length), ∀ w ∈ g[v], ∀ (hw : w.toNat < g.length), (v : Int) ∈ g[w.toNat])
      (oT := .inl ()) (oF := .inr false) ⟨fun h k _ => h k, fun h k hk => h k hk hk⟩ ?_ ?_ ?_
    · rw [key2, bnd_if]
      by_cases hs : ∀ (v : Nat) (h : v < g.length), ∀ w ∈ g[v], ∀ (hw : w.toNat < g.length), (v : Int) ∈ g[w.toNat]
      · rw [if_pos hs, decide_eq_true ⟨hn.1, hn.2, hr, hs⟩]; rfl
      · rw [if_neg hs, decide_eq_false]
        exact fun h => hs h.sym
    · intro k hk hp
      have hp := hp hk
      simp only [F_spec_GraphOk_l3]
      rw [if_pos (by omega), specGraph_inner g hl hr k hk, if_pos hp, bnd_inl_eq]
      unfold F_spec_GraphOk_k5
      rw [ck_of (inI (by omega) (by omega))]
    · intro k hk hp
      have hp : ¬ ∀ w ∈ g[k], ∀ (hw : w.toNat < g.length), (k : Int) ∈ g[w.toNat] := fun h => hp fun _ => h
      simp only [F_spec_GraphOk_l3]
      rw [if_pos (by omega), specGraph_inner g hl hr k hk, if_neg hp, bnd_inr_eq]
    · simp only [F_spec_GraphOk_l3]; rw [if_neg (by omega)]
  · have hp := hp hk
    have hlk := hl _ (List.getElem_mem hk)
    simp only [F_spec_GraphOk_l1]
    rw [if_pos (by omega), idx_nat hk, cal_of (l1Set_eq _ _ (by omega) (by omega) (by omega)), if_neg (by simp [hp.1]), idx_nat hk, cal_of (l1Has_eq _ _ (by omega)), if_neg (by simp [hp.2]), ck_of (inI (by omega) (by omega))]
  · have hp : ¬ (Rises g[k] g.length ∧ (k : Int) ∉ g[k]) := fun h => hp fun _ => h
    have hlk := hl _ (List.getElem_mem hk)
    simp only [F_spec_GraphOk_l1]
    rw [if_pos (by omega), idx_nat hk, cal_of (l1Set_eq _ _ (by omega) (by omega) (by omega))]
    by_cases h : Rises g[k] g.length
    · have h2 : (k : Int) ∈ g[k] := Classical.byContradiction fun h2 => hp ⟨h, h2⟩
      rw [if_neg (by simp [h]), idx_nat hk, cal_of (l1Has_eq _ _ (by omega)), if_pos (by simp [h2])]
    · rw [if_pos (by simp [h])]
  · simp only [F_spec_GraphOk_l1]; rw [if_neg (by omega)]

open Classical in
theorem implGraph_inner (g : List (List Int)) (hl : ∀ x ∈ g, x.length ≤ 1048576) (hr : ∀ (v : Nat) (h : v < g.length), Rises g[v] g.length ∧ (v : Int) ∉ g[v]) (k : Nat) (hk : k < g.length) :
    lp (fun s => F_impl_GraphOk_l4 g (k : Int) g[k] s) 0 = some (if ∀ w ∈ g[k], ∀ (hw : w.toNat < g.length), (k : Int) ∈ g[w.toNat] then .inl () else .inr (.inr (.inr false))) := by
  have hlk := hl _ (List.getElem_mem hk)
  refine lp_for g[k].length (fun j => ∀ (hj : j < g[k].length) (hw : (g[k][j]).toNat < g.length), (k : Int) ∈ g[(g[k][j]).toNat]) _ ⟨fun h j _ hj hw => h _ (List.getElem_mem hj) hw, fun h w hw => ?_⟩ (fun j hj hp => ?_) (fun j hj hp => ?_) ?_
  · obtain ⟨j, hj, rfl⟩ := List.getElem_of_mem hw
    exact h j hj hj
  · have hm := (hr k hk).1.mem (List.getElem_mem hj)
    obtain ⟨m, hm2⟩ := Int.eq_ofNat_of_zero_le hm.1
    have hmg : m < g.length := by omega
    have hp := hp hj (by omega)
    have hl2 := hl _ (List.getElem_mem hmg)
    simp only [F_impl_GraphOk_l4]
    rw [if_pos (by omega), idx_nat hj, hm2, idx_nat hmg, cal_of (contains_eq _ _ (by omega))]
    simp only [hm2, Int.toNat_natCast] at hp
    rw [if_neg (by simp [hp]), ck_of (inI (by omega) (by omega))]
  · have hm := (hr k hk).1.mem (List.getElem_mem hj)
    obtain ⟨m, hm2⟩ := Int.eq_ofNat_of_zero_le hm.1
    have hmg : m < g.length := by omega
    have hl2 := hl _ (List.getElem_mem hmg)
    have hp : ¬ (k : Int) ∈ g[m] := fun h => hp fun _ hw => by simp only [hm2, Int.toNat_natCast]; exact h
    simp only [F_impl_GraphOk_l4]
    rw [if_pos (by omega), idx_nat hj, hm2, idx_nat hmg, cal_of (contains_eq _ _ (by omega)), if_pos (by simp [hp])]
  · simp only [F_impl_GraphOk_l4]; rw [if_neg (by omega)]
open Classical in
theorem implGraphOk_eq (g : List (List Int)) (hg : g.length ≤ 1048576) (hl : ∀ x ∈ g, x.length ≤ 1048576) : F_impl_GraphOk g = some (decide (GOk g)) := by
  unfold F_impl_GraphOk
  by_cases hn : 1 ≤ g.length ∧ g.length ≤ 16
  case neg =>
    rw [decide_eq_false (fun h : GOk g => hn ⟨h.n1, h.n16⟩)]
    by_cases h1 : (g.length : Int) < 1
    · rw [if_pos h1]
    · rw [if_neg h1, if_pos (by omega)]
  rw [if_neg (by omega), if_neg (by omega)]
  have key := lp_for (step := fun i => F_impl_GraphOk_l1 g i) g.length (fun v => ∀ h : v < g.length, Rises g[v] g.length ∧ (v : Int) ∉ g[v]) (∀ (v : Nat) (h : v < g.length), Rises g[v] g.length ∧ (v : Int) ∉ g[v])
    (oT := .inl ()) (oF := .inr false) ⟨fun h k _ => h k, fun h k hk => h k hk hk⟩ (fun k hk hp => ?_) (fun k hk hp => ?_) ?_
  · rw [key, bnd_if]
    by_cases hr : ∀ (v : Nat) (h : v < g.length), Rises g[v] g.length ∧ (v : Int) ∉ g[v]
    case neg =>
      rw [if_neg hr, decide_eq_false]
      exact fun h => hr h.rows
    rw [if_pos hr]
    unfold F_impl_GraphOk_k2
    have key2 := lp_for (step := fun i => F_impl_GraphOk_l3 g i) g.length (fun v => ∀ h : v < g.length, ∀ w ∈ g[v], ∀ (hw : w.toNat < g.length), (v : Int) ∈ g[w.toNat])
      (∀ (v : Nat) (h : v < g.length), ∀ w ∈ g[v], ∀ (hw : w.toNat < g.length), (v : Int) ∈ g[w.toNat])
      (oT := .inl ()) (oF := .inr false) ⟨fun h k _ => h k, fun h k hk => h k hk hk⟩ ?_ ?_ ?_
    · rw [key2, bnd_if]
      by_cases hs : ∀ (v : Nat) (h : v < g.length), ∀ w ∈ g[v], ∀ (hw : w.toNat < g.length), (v : Int) ∈ g[w.toNat]
      · rw [if_pos hs, decide_eq_true ⟨hn.1, hn.2, hr, hs⟩]; rfl
      · rw [if_neg hs, decide_eq_false]
        exact fun h => hs h.sym
    · intro k hk hp
      have hp := hp hk
      simp only [F_impl_GraphOk_l3]
      rw [if_pos (by omega), idx_nat hk, implGraph_inner g hl hr k hk, if_pos hp, bnd_inl_eq]
      unfold F_impl_GraphOk_k5
      rw [ck_of (inI (by omega) (by omega))]
    · intro k hk hp
      have hp : ¬ ∀ w ∈ g[k], ∀ (hw : w.toNat < g.length), (k : Int) ∈ g[w.toNat] := fun h => hp fun _ => h
      simp only [F_impl_GraphOk_l3]
      rw [if_pos (by omega), idx_nat hk, implGraph_inner g hl hr k hk, if_neg hp, bnd_inr_eq]
    · simp only [F_impl_GraphOk_l3]; rw [if_neg (by omega)]
  · have hp := hp hk
    have hlk := hl _ (List.getElem_mem hk)
    simp only [F_impl_GraphOk_l1]
    rw [if_pos (by omega), idx_nat hk, cal_of (increasing_eq _ _ (by omega) (by omega) (by omega)), if_neg (by simp [hp.1]), cal_of (contains_eq _ _ (by omega)), if_neg (by simp [hp.2]), ck_of (inI (by omega) (by omega))]
  · have hp : ¬ (Rises g[k] g.length ∧ (k : Int) ∉ g[k]) := fun h => hp fun _ => h
    have hlk := hl _ (List.getElem_mem hk)
    simp only [F_impl_GraphOk_l1]
    rw [if_pos (by omega), idx_nat hk, cal_of (increasing_eq _ _ (by omega) (by omega) (by omega))]
    by_cases h : Rises g[k] g.length
    · have h2 : (k : Int) ∈ g[k] := Classical.byContradiction fun h2 => hp ⟨h, h2⟩
      rw [if_neg (by simp [h]), cal_of (contains_eq _ _ (by omega)), if_pos (by simp [h2])]
    · rw [if_pos (by simp [h])]
  · simp only [F_impl_GraphOk_l1]; rw [if_neg (by omega)]
end Go.Proofs.YtmaaloijdjnblaaGreatDoor

/- The reference's faces. -/
namespace Go.Proofs.YtmaaloijdjnblaaGreatDoor
def rho (t : List (List Int)) (x : Int) : List Int := if 0 ≤ x then t.getD x.toNat [] else []
structure Tok (t : List (List Int)) : Prop where
  n8 : t.length ≤ 8
  rs : RS (rho t)
  rng : ∀ x y, y ∈ rho t x → 0 ≤ y ∧ y < t.length
theorem Tok.rng' {t : List (List Int)} (h : Tok t) {x y : Int} (hy : y ∈ rho t x) : 0 ≤ x ∧ x < t.length := h.rng y x (h.rs.sym _ _ hy)
theorem rho_nat {t : List (List Int)} {k : Nat} (h : k < t.length) : rho t (k : Int) = t[k] := by
  unfold rho; rw [if_pos (by omega)]; simp [List.getD_eq_getElem?_getD, h]
theorem Tok.len {t : List (List Int)} (h : Tok t) (x : Int) : (rho t x).length ≤ t.length := by
  have := sub_len (l := rho t x) (m := (List.range t.length).map fun k : Nat => (k : Int)) (h.rs.nd x) fun y hy => by
    have := h.rng x y hy
    exact List.mem_map.2 ⟨y.toNat, List.mem_range.2 (by omega), by omega⟩
  simpa using this
theorem behind_eq {l : List Int} (hl : l.length ≤ 1000) {u : Int} (hu : u ∈ l) : F_spec_l22Behind l u = some (nxt l u) := by
  unfold F_spec_l22Behind
  have hpos : 0 < l.length := List.length_pos_of_mem hu
  have := lp_find (step := fun s => F_spec_l22Behind_l1 l u s) l (fun x => x == u) (fun k => l.getD ((k.toNat + 1) % l.length) u)
    (fun k hk hp => by
      simp only [F_spec_l22Behind_l1]
      rw [if_pos (by omega), idx_nat hk, if_neg (by simpa using hp), ck_of (inI (by omega) (by omega))])
    (fun k hk hp => by
      simp only [F_spec_l22Behind_l1]
      rw [if_pos (by omega), idx_nat hk, if_pos (by simpa using hp), ck_of (inI (by omega) (by omega)), grd_of ⟨by omega, by omega⟩]
      have hm : (k + 1) % l.length < l.length := Nat.mod_lt _ hpos
      rw [show ((k : Int) + 1) % (l.length : Int) = (((k + 1) % l.length : Nat) : Int) by rw [Int.natCast_emod]; rfl, idx_nat hm]
      simp [List.getD_eq_getElem?_getD, hm])
    (by simp only [F_spec_l22Behind_l1]; rw [if_neg (by omega)])
  have hf : l.findIdx? (fun x => x == u) = some (l.idxOf u) := by
    rw [List.findIdx?_eq_some_iff_findIdx_eq]
    exact ⟨List.idxOf_lt_length_iff.2 hu, rfl⟩
  rw [hf] at this
  rw [bnd_r this]; simp [nxt]
end Go.Proofs.YtmaaloijdjnblaaGreatDoor

/- Sets of small numbers as bits: natural numbers, what is in them, their least, how many. No program in sight. -/
namespace Go.Proofs.YtmaaloijdjnblaaGreatDoor
/-! ## natural numbers by their bits -/
theorem odd_part : ∀ n : Nat, 0 < n → ∃ k m, n = 2 ^ k * (2 * m + 1) := by
  intro n
  induction n using Nat.strongRecOn with
  | _ n ih =>
    intro h
    by_cases e : n % 2 = 1
    · exact ⟨0, n / 2, by omega⟩
    · obtain ⟨k, m, hk⟩ := ih (n / 2) (by omega) (by omega)
      refine ⟨k + 1, m, ?_⟩
      rw [Nat.pow_succ, Nat.mul_comm (2 ^ k) 2, Nat.mul_assoc, ← hk]; omega
theorem testBit_odd (k m j : Nat) : (2 ^ k * (2 * m + 1)).testBit j = (decide (j = k) || (decide (k < j) && m.testBit (j - k - 1))) := by
  rw [Nat.testBit_two_pow_mul]
  by_cases h : k ≤ j
  · rw [decide_eq_true h, Bool.true_and]
    obtain ⟨i, rfl⟩ := Nat.exists_eq_add_of_le h
    rw [Nat.add_sub_cancel_left]
    cases i with
    | zero => simp
    | succ i =>
      rw [Nat.testBit_succ, show (2 * m + 1) / 2 = m by omega]
      simp
  · rw [decide_eq_false h, decide_eq_false (by omega : ¬ j = k), decide_eq_false (by omega : ¬ k < j)]; rfl
theorem odd_pred (k m : Nat) : 2 ^ k * (2 * m + 1) - 1 = 2 ^ (k + 1) * m + (2 ^ k - 1) := by
  have hp : 0 < 2 ^ k := Nat.two_pow_pos k
  rw [Nat.mul_add, Nat.mul_one, Nat.pow_succ, Nat.mul_assoc]; omega
theorem testBit_pred (k m j : Nat) : (2 ^ k * (2 * m + 1) - 1).testBit j = (decide (j < k) || (decide (k < j) && m.testBit (j - k - 1))) := by
  have hp : 0 < 2 ^ k := Nat.two_pow_pos k
  rw [odd_pred, Nat.testBit_two_pow_mul_add _ (by rw [Nat.pow_succ]; omega)]
  by_cases h : j < k + 1
  · rw [if_pos h, Nat.testBit_two_pow_sub_one, decide_eq_false (by omega : ¬ k < j), Bool.false_and, Bool.or_false]
  · rw [if_neg h, decide_eq_false (by omega : ¬ j < k), decide_eq_true (by omega : k < j), Bool.false_or, Bool.true_and, show j - (k + 1) = j - k - 1 by omega]
theorem and_pred (k m : Nat) : 2 ^ k * (2 * m + 1) &&& (2 ^ k * (2 * m + 1) - 1) = 2 ^ (k + 1) * m := by
  apply Nat.eq_of_testBit_eq
  intro j
  rw [Nat.testBit_and, testBit_odd, testBit_pred, Nat.testBit_two_pow_mul]
  rcases Nat.lt_trichotomy j k with h | h | h
  · simp [h, show ¬ j = k by omega, show ¬ k < j by omega, show ¬ k + 1 ≤ j by omega]
  · subst h; simp [show ¬ j + 1 ≤ j by omega]
  · simp [h, show ¬ j = k by omega, show ¬ j < k by omega, show k + 1 ≤ j by omega, show j - (k + 1) = j - k - 1 by omega]
def low (n : Nat) : Nat := if h : n = 0 then 0 else if n % 2 = 1 then 0 else low (n / 2) + 1
theorem low_odd : ∀ k m : Nat, low (2 ^ k * (2 * m + 1)) = k
  | 0, m => by unfold low; rw [Nat.pow_zero, Nat.one_mul, dif_neg (by omega), if_pos (by omega)]
  | k + 1, m => by
    have e : 2 ^ (k + 1) * (2 * m + 1) = 2 * (2 ^ k * (2 * m + 1)) := by rw [Nat.pow_succ, Nat.mul_comm (2 ^ k) 2, Nat.mul_assoc]
    have hp : 0 < 2 ^ k * (2 * m + 1) := Nat.mul_pos (Nat.two_pow_pos k) (by omega)
    unfold low
    rw [dif_neg (by omega), if_neg (by omega), show 2 ^ (k + 1) * (2 * m + 1) / 2 = 2 ^ k * (2 * m + 1) by omega, low_odd k m]
theorem low_spec {n : Nat} (h : n ≠ 0) : ∃ m, n = 2 ^ low n * (2 * m + 1) := by
  obtain ⟨k, m, e⟩ := odd_part n (by omega)
  exact ⟨m, by conv => lhs; rw [e]
               rw [e, low_odd]⟩
theorem low_bit {n : Nat} (h : n ≠ 0) : n.testBit (low n) = true := by
  obtain ⟨m, e⟩ := low_spec h
  have e2 : n.testBit (low n) = (2 ^ low n * (2 * m + 1)).testBit (low n) := by rw [← e]
  rw [e2, testBit_odd]; simp
theorem low_least {n j : Nat} (h : n ≠ 0) (hj : j < low n) : n.testBit j = false := by
  obtain ⟨m, e⟩ := low_spec h
  have e2 : n.testBit j = (2 ^ low n * (2 * m + 1)).testBit j := by rw [← e]
  rw [e2, testBit_odd, decide_eq_false (by omega), decide_eq_false (by omega)]; rfl
theorem low_lt {n k : Nat} (h : n ≠ 0) (hn : n < 2 ^ k) : low n < k := by
  have := low_bit h
  rcases Nat.lt_or_ge (low n) k with g | g
  · exact g
  · have e : n < 2 ^ low n := Nat.lt_of_lt_of_le hn (Nat.pow_le_pow_right (by decide) g)
    rw [Nat.testBit_lt_two_pow e] at this; cases this
theorem rest_bit {n : Nat} (h : n ≠ 0) (j : Nat) : (n &&& (n - 1)).testBit j = (n.testBit j && decide (j ≠ low n)) := by
  obtain ⟨m, e⟩ := low_spec h
  have e1 := and_pred (low n) m
  rw [← e] at e1
  have e2 : n.testBit j = (2 ^ low n * (2 * m + 1)).testBit j := by rw [← e]
  rw [e1, e2, testBit_odd, Nat.testBit_two_pow_mul]
  rcases Nat.lt_trichotomy j (low n) with h | h | h
  · simp [show ¬ j = low n by omega, show ¬ low n < j by omega, show ¬ low n + 1 ≤ j by omega]
  · simp [h, show ¬ low n + 1 ≤ low n by omega]
  · simp [h, show ¬ j = low n by omega, show low n + 1 ≤ j by omega, show j - (low n + 1) = j - low n - 1 by omega]
theorem rest_lt {n : Nat} (h : n ≠ 0) : n &&& (n - 1) < n := Nat.lt_of_le_of_lt Nat.and_le_right (by omega)
theorem bit_lt {n k j : Nat} (hn : n < 2 ^ k) (h : n.testBit j = true) : j < k := by
  rcases Nat.lt_or_ge j k with g | g
  · exact g
  · rw [Nat.testBit_lt_two_pow (Nat.lt_of_lt_of_le hn (Nat.pow_le_pow_right (by decide) g))] at h; cases h
theorem bits_ext {a b : Nat} (h : ∀ j, a.testBit j = b.testBit j) : a = b := Nat.eq_of_testBit_eq h
/-! ## the numbers in a set, rising -/
def els (n : Nat) : List Nat := (List.range 16).filter (fun v => n.testBit v)
theorem mem_els {n v : Nat} (hn : n < 2 ^ 16) : v ∈ els n ↔ n.testBit v = true := by
  unfold els; rw [List.mem_filter, List.mem_range]
  exact ⟨fun h => h.2, fun h => ⟨bit_lt hn h, h⟩⟩
theorem sorted_ext : ∀ {l l' : List Nat}, l.Pairwise (· < ·) → l'.Pairwise (· < ·) → (∀ x, x ∈ l ↔ x ∈ l') → l = l'
  | [], [], _, _, _ => rfl
  | [], y :: l', _, _, h => nomatch (h y).2 (List.mem_cons_self ..)
  | x :: l, [], _, _, h => nomatch (h x).1 (List.mem_cons_self ..)
  | x :: l, y :: l', h1, h2, h => by
    rw [List.pairwise_cons] at h1 h2
    have hxy : x = y := by
      rcases List.mem_cons.1 ((h x).1 (List.mem_cons_self ..)) with e | e
      · exact e
      · rcases List.mem_cons.1 ((h y).2 (List.mem_cons_self ..)) with e' | e'
        · exact e'.symm
        · have := h1.1 _ e'; have := h2.1 _ e; omega
    subst hxy
    congr 1
    refine sorted_ext h1.2 h2.2 fun z => ⟨fun hz => ?_, fun hz => ?_⟩
    · rcases List.mem_cons.1 ((h z).1 (List.mem_cons_of_mem _ hz)) with e | e
      · have := h1.1 _ hz; omega
      · exact e
    · rcases List.mem_cons.1 ((h z).2 (List.mem_cons_of_mem _ hz)) with e | e
      · have := h2.1 _ hz; omega
      · exact e
theorem els_sorted (n : Nat) : (els n).Pairwise (· < ·) := List.Pairwise.sublist List.filter_sublist List.pairwise_lt_range
theorem els_nodup (n : Nat) : (els n).Nodup := (els_sorted n).imp fun h => by omega
theorem els_zero : els 0 = [] := by unfold els; simp
theorem els_cons {n : Nat} (h : n ≠ 0) (hn : n < 2 ^ 16) : els n = low n :: els (n &&& (n - 1)) := by
  have hr : n &&& (n - 1) < 2 ^ 16 := Nat.lt_trans (rest_lt h) hn
  refine sorted_ext (els_sorted n) ?_ fun x => ?_
  · rw [List.pairwise_cons]
    refine ⟨fun y hy => ?_, els_sorted _⟩
    rw [mem_els hr, rest_bit h, Bool.and_eq_true, decide_eq_true_eq] at hy
    rcases Nat.lt_or_ge (low n) y with g | g
    · exact g
    · have := low_least h (show y < low n by omega); rw [this] at hy; cases hy.1
  · rw [List.mem_cons, mem_els hn, mem_els hr, rest_bit h, Bool.and_eq_true, decide_eq_true_eq]
    by_cases e : x = low n
    · subst e; simp [low_bit h]
    · simp [e]
theorem els_len_le (n : Nat) : (els n).length ≤ 16 := by
  have : (els n).length ≤ (List.range 16).length := List.length_filter_le ..
  simpa using this
def card (n : Nat) : Nat := (els n).length
theorem card_cons {n : Nat} (h : n ≠ 0) (hn : n < 2 ^ 16) : card n = card (n &&& (n - 1)) + 1 := by unfold card; rw [els_cons h hn]; rfl
theorem card_zero : card 0 = 0 := by unfold card; rw [els_zero]; rfl
def mk (s : List Int) : Nat := s.foldl (fun (b : Nat) (v : Int) => b ||| 2 ^ v.toNat) 0
theorem mk_fold (s : List Int) : ∀ b j, (s.foldl (fun (b : Nat) (v : Int) => b ||| 2 ^ v.toNat) b).testBit j = (b.testBit j || decide (∃ v ∈ s, v.toNat = j)) := by
  induction s with
  | nil => intro b j; simp
  | cons v s ih =>
    intro b j
    rw [List.foldl_cons, ih, Nat.testBit_or, Nat.testBit_two_pow, Bool.or_assoc]
    congr 1
    by_cases e : v.toNat = j <;> simp [e]
theorem mk_bit (s : List Int) (j : Nat) : (mk s).testBit j = decide (∃ v ∈ s, v.toNat = j) := by unfold mk; rw [mk_fold]; simp
theorem mk_lt {s : List Int} {k : Nat} (h : ∀ v ∈ s, 0 ≤ v ∧ v < k) : mk s < 2 ^ k := by
  apply Nat.lt_pow_two_of_testBit
  intro j hj
  rw [mk_bit, decide_eq_false]
  rintro ⟨v, hv, e⟩
  have := h v hv; omega
theorem mk_mem {s : List Int} (h : ∀ v ∈ s, 0 ≤ v) (j : Nat) : (mk s).testBit j = decide ((j : Int) ∈ s) := by
  rw [mk_bit]
  have : (∃ v ∈ s, v.toNat = j) ↔ (j : Int) ∈ s := ⟨fun ⟨v, hv, e⟩ => by have := h v hv; rw [show (j : Int) = v by omega]; exact hv, fun hm => ⟨j, hm, by omega⟩⟩
  simp [this]
theorem or_lt {a b k : Nat} (ha : a < 2 ^ k) (hb : b < 2 ^ k) : a ||| b < 2 ^ k := Nat.or_lt_two_pow ha hb
theorem and_lt {a b k : Nat} (ha : a < 2 ^ k) : a &&& b < 2 ^ k := Nat.lt_of_le_of_lt Nat.and_le_left ha
def sdiff (a b : Nat) : Nat := a ^^^ (a &&& b)
theorem sdiff_bit (a b j : Nat) : (sdiff a b).testBit j = (a.testBit j && !b.testBit j) := by
  unfold sdiff; rw [Nat.testBit_xor, Nat.testBit_and]; cases a.testBit j <;> cases b.testBit j <;> rfl
theorem sdiff_le (a b : Nat) : sdiff a b ≤ a := by
  apply Nat.le_of_testBit
  intro i hi
  rw [sdiff_bit] at hi; simp at hi; exact hi.1
theorem sdiff_lt {a b k : Nat} (ha : a < 2 ^ k) : sdiff a b < 2 ^ k := Nat.lt_of_le_of_lt (sdiff_le a b) ha
/-! ## the same in 64 bits with a sign, and in 32 bits -/
theorem i64and_nat {a b : Nat} (ha : a < 2 ^ 63) (hb : b < 2 ^ 63) : i64and a b = ((a &&& b : Nat) : Int) := by
  have h1 : a &&& b < 2 ^ 63 := and_lt ha
  unfold i64and
  rw [BitVec.toInt_eq_toNat_of_lt]
  · rw [BitVec.toNat_and, BitVec.ofInt_natCast, BitVec.ofInt_natCast, BitVec.toNat_ofNat, BitVec.toNat_ofNat, Nat.mod_eq_of_lt (by omega), Nat.mod_eq_of_lt (by omega)]
  · rw [BitVec.toNat_and, BitVec.ofInt_natCast, BitVec.ofInt_natCast, BitVec.toNat_ofNat, BitVec.toNat_ofNat, Nat.mod_eq_of_lt (by omega), Nat.mod_eq_of_lt (by omega)]; omega
theorem i64or_nat {a b : Nat} (ha : a < 2 ^ 63) (hb : b < 2 ^ 63) : i64or a b = ((a ||| b : Nat) : Int) := by
  have h1 : a ||| b < 2 ^ 63 := or_lt ha hb
  unfold i64or
  rw [BitVec.toInt_eq_toNat_of_lt]
  · rw [BitVec.toNat_or, BitVec.ofInt_natCast, BitVec.ofInt_natCast, BitVec.toNat_ofNat, BitVec.toNat_ofNat, Nat.mod_eq_of_lt (by omega), Nat.mod_eq_of_lt (by omega)]
  · rw [BitVec.toNat_or, BitVec.ofInt_natCast, BitVec.ofInt_natCast, BitVec.toNat_ofNat, BitVec.toNat_ofNat, Nat.mod_eq_of_lt (by omega), Nat.mod_eq_of_lt (by omega)]; omega
theorem testBit_not32 (w : Nat) (b : BitVec w) (j : Nat) : (~~~b).toNat.testBit j = (decide (j < w) && !b.toNat.testBit j) := by
  rw [← BitVec.getLsbD, BitVec.getLsbD_not]; rfl
theorem i64andn_nat {a b : Nat} (ha : a < 2 ^ 63) (hb : b < 2 ^ 63) : i64andn a b = ((sdiff a b : Nat) : Int) := by
  have h1 : sdiff a b < 2 ^ 63 := sdiff_lt ha
  have key : (BitVec.ofInt 64 (a : Int) &&& ~~~ BitVec.ofInt 64 (b : Int)).toNat = sdiff a b := by
    apply bits_ext
    intro j
    rw [BitVec.toNat_and, Nat.testBit_and, testBit_not32, BitVec.ofInt_natCast, BitVec.ofInt_natCast, BitVec.toNat_ofNat, BitVec.toNat_ofNat, Nat.mod_eq_of_lt (by omega), Nat.mod_eq_of_lt (by omega), sdiff_bit]
    by_cases hj : j < 64
    · simp [hj]
    · rw [Nat.testBit_lt_two_pow (Nat.lt_of_lt_of_le ha (Nat.pow_le_pow_right (by decide) (by omega)))]; rfl
  unfold i64andn
  rw [BitVec.toInt_eq_toNat_of_lt (by rw [key]; omega), key]
theorem shr_nat (a k : Nat) : (a : Int) / 2 ^ k = ((a >>> k : Nat) : Int) := by
  rw [Nat.shiftRight_eq_div_pow, Int.natCast_ediv, Int.natCast_pow]; rfl
theorem bit_asked {a k : Nat} (ha : a < 2 ^ 63) : i64and ((a : Int) / 2 ^ k) 1 = if a.testBit k then 1 else 0 := by
  have h1 : a >>> k < 2 ^ 63 := by rw [Nat.shiftRight_eq_div_pow]; exact Nat.lt_of_le_of_lt (Nat.div_le_self ..) ha
  rw [shr_nat, show (1 : Int) = ((1 : Nat) : Int) from rfl, i64and_nat h1 (by decide), Nat.and_one_is_mod, Nat.shiftRight_eq_div_pow]
  have := Nat.testBit_eq_decide_div_mod_eq (x := a) (i := k)
  rw [this]
  have h2 : a / 2 ^ k % 2 < 2 := Nat.mod_lt _ (by decide)
  by_cases h : a / 2 ^ k % 2 = 1
  · simp [h]
  · rw [show a / 2 ^ k % 2 = 0 by omega]; rfl
theorem inI_nat {a : Nat} (h : a < 2 ^ 62) : InI (a : Int) := by unfold InI; omega
theorem two_pow_nat (k : Nat) : (1 : Int) * 2 ^ k = ((2 ^ k : Nat) : Int) := by rw [Int.one_mul, Int.natCast_pow]; rfl
/-! 32 bits -/
theorem bv_and (a b : Nat) : BitVec.ofNat 32 a &&& BitVec.ofNat 32 b = BitVec.ofNat 32 (a &&& b) := by
  apply BitVec.eq_of_toNat_eq; simp [BitVec.toNat_and, Nat.and_mod_two_pow]
theorem bv_or (a b : Nat) : BitVec.ofNat 32 a ||| BitVec.ofNat 32 b = BitVec.ofNat 32 (a ||| b) := by
  apply BitVec.eq_of_toNat_eq; simp [BitVec.toNat_or, Nat.or_mod_two_pow]
theorem bv_shl {k : Nat} (h : k < 32) : 1#32 <<< k = BitVec.ofNat 32 (2 ^ k) := by
  apply BitVec.eq_of_toNat_eq; simp [BitVec.toNat_shiftLeft, Nat.shiftLeft_eq]
theorem bv_inj {a b : Nat} (ha : a < 2 ^ 32) (hb : b < 2 ^ 32) : BitVec.ofNat 32 a = BitVec.ofNat 32 b ↔ a = b := by
  refine ⟨fun h => ?_, fun h => by rw [h]⟩
  have := congrArg BitVec.toNat h
  rwa [BitVec.toNat_ofNat, BitVec.toNat_ofNat, Nat.mod_eq_of_lt ha, Nat.mod_eq_of_lt hb] at this
theorem bv_toNat {a : Nat} (ha : a < 2 ^ 32) : (BitVec.ofNat 32 a).toNat = a := by rw [BitVec.toNat_ofNat, Nat.mod_eq_of_lt ha]
theorem bv_andn {a b : Nat} (ha : a < 2 ^ 32) : BitVec.ofNat 32 a &&& ~~~ BitVec.ofNat 32 b = BitVec.ofNat 32 (sdiff a b) := by
  have h1 : sdiff a b < 2 ^ 32 := sdiff_lt ha
  apply BitVec.eq_of_toNat_eq
  apply bits_ext
  intro j
  rw [BitVec.toNat_and, Nat.testBit_and, testBit_not32, bv_toNat ha, bv_toNat h1, sdiff_bit, BitVec.toNat_ofNat, Nat.testBit_mod_two_pow]
  by_cases hj : j < 32
  · simp [hj]
  · rw [Nat.testBit_lt_two_pow (Nat.lt_of_lt_of_le ha (Nat.pow_le_pow_right (by decide) (by omega)))]; rfl
theorem bv_sub_one {a : Nat} (h : 0 < a) (ha : a < 2 ^ 32) : BitVec.ofNat 32 a - 1#32 = BitVec.ofNat 32 (a - 1) := by
  apply BitVec.eq_of_toNat_eq
  rw [BitVec.toNat_sub, bv_toNat ha]
  show (2 ^ 32 - 1 + a) % 2 ^ 32 = _
  have e : 2 ^ 32 - 1 + a = (a - 1) + 2 ^ 32 := by omega
  rw [e, Nat.add_mod_right, Nat.mod_eq_of_lt (by omega), bv_toNat (by omega)]
theorem bv_rest {a : Nat} (h : a ≠ 0) (ha : a < 2 ^ 32) : BitVec.ofNat 32 a &&& (BitVec.ofNat 32 a - 1#32) = BitVec.ofNat 32 (a &&& (a - 1)) := by
  rw [bv_sub_one (by omega) ha, bv_and]
theorem bv_lowbit {a : Nat} (h : a ≠ 0) (ha : a < 2 ^ 32) : BitVec.ofNat 32 a &&& -BitVec.ofNat 32 a = BitVec.ofNat 32 (2 ^ low a) := by
  have hl := low_lt h ha
  have hp : 2 ^ low a < 2 ^ 32 := Nat.pow_lt_pow_right (by decide) hl
  obtain ⟨m, e⟩ := low_spec h
  apply BitVec.eq_of_toNat_eq
  apply bits_ext
  intro j
  rw [BitVec.toNat_and, BitVec.toNat_neg, bv_toNat ha, bv_toNat hp, Nat.testBit_and, Nat.testBit_two_pow, Nat.mod_eq_of_lt (by omega)]
  have e1 : 2 ^ 32 - a = 2 ^ 32 - ((a - 1) + 1) := by omega
  rw [e1, Nat.testBit_two_pow_sub_succ (by omega)]
  have e2 : a.testBit j = (2 ^ low a * (2 * m + 1)).testBit j := by rw [← e]
  have e3 : (a - 1).testBit j = (2 ^ low a * (2 * m + 1) - 1).testBit j := by rw [← e]
  rw [e2, e3, testBit_odd, testBit_pred]
  rcases Nat.lt_trichotomy j (low a) with h | h | h
  · simp [h, show ¬ j = low a by omega, show ¬ low a = j by omega, show ¬ low a < j by omega]
  · simp [h, show low a < 32 by omega]
  · simp [show ¬ j = low a by omega, show ¬ low a = j by omega, show ¬ j < low a by omega, h]
    exact fun h _ => h
theorem deBruijn_at : ∀ k, k < 32 → deBruijn32[(((BitVec.ofNat 32 (2 ^ k)) * 125613361#32) >>> (27 : Nat)).toNat]? = some (BitVec.ofNat 8 k) := by decide
end Go.Proofs.YtmaaloijdjnblaaGreatDoor
