/- Plain combinators in Option for the functional forms of the Go functions: bounds and overflow give none; loops by 'lp'. No program in sight. -/
namespace Go.Proofs.YtmaaloijdjnblaaGreatDoor

def InI (x : Int) : Prop := -9223372036854775808 ≤ x ∧ x ≤ 9223372036854775807
instance (x : Int) : Decidable (InI x) := by unfold InI; infer_instance
def InU (x : Int) : Prop := 0 ≤ x ∧ x ≤ 18446744073709551615
instance (x : Int) : Decidable (InU x) := by unfold InU; infer_instance
def i64and (x y : Int) : Int := (BitVec.ofInt 64 x &&& BitVec.ofInt 64 y).toInt
def i64or (x y : Int) : Int := (BitVec.ofInt 64 x ||| BitVec.ofInt 64 y).toInt
def i64andn (x y : Int) : Int := (BitVec.ofInt 64 x &&& ~~~ BitVec.ofInt 64 y).toInt
def deBruijn32 : List (BitVec 8) := [0, 1, 28, 2, 29, 14, 24, 3, 30, 22, 20, 15, 25, 17, 4, 8, 31, 27, 13, 23, 21, 19, 16, 7, 26, 12, 18, 6, 11, 5, 10, 9]
def popTab : List (BitVec 8) := [0, 1, 1, 2, 1, 2, 2, 3, 1, 2, 2, 3, 2, 3, 3, 4, 1, 2, 2, 3, 2, 3, 3, 4, 2, 3, 3, 4, 3, 4, 4, 5, 1, 2, 2, 3, 2, 3, 3, 4, 2, 3, 3, 4, 3, 4, 4, 5, 2, 3, 3, 4, 3, 4, 4, 5, 3, 4, 4, 5, 4, 5, 5, 6, 1, 2, 2, 3, 2, 3, 3, 4, 2, 3, 3, 4, 3, 4, 4, 5, 2, 3, 3, 4, 3, 4, 4, 5, 3, 4, 4, 5, 4, 5, 5, 6, 2, 3, 3, 4, 3, 4, 4, 5, 3, 4, 4, 5, 4, 5, 5, 6, 3, 4, 4, 5, 4, 5, 5, 6, 4, 5, 5, 6, 5, 6, 6, 7, 1, 2, 2, 3, 2, 3, 3, 4, 2, 3, 3, 4, 3, 4, 4, 5, 2, 3, 3, 4, 3, 4, 4, 5, 3, 4, 4, 5, 4, 5, 5, 6, 2, 3, 3, 4, 3, 4, 4, 5, 3, 4, 4, 5, 4, 5, 5, 6, 3, 4, 4, 5, 4, 5, 5, 6, 4, 5, 5, 6, 5, 6, 6, 7, 2, 3, 3, 4, 3, 4, 4, 5, 3, 4, 4, 5, 4, 5, 5, 6, 3, 4, 4, 5, 4, 5, 5, 6, 4, 5, 5, 6, 5, 6, 6, 7, 3, 4, 4, 5, 4, 5, 5, 6, 4, 5, 5, 6, 5, 6, 6, 7, 4, 5, 5, 6, 5, 6, 6, 7, 5, 6, 6, 7, 6, 7, 7, 8]
def lim : Nat := 1099511627776

class Sz (α : Type) where
  ok : α → Prop
instance : Sz Int := ⟨InI⟩
instance : Sz Bool := ⟨fun _ => True⟩
instance : Sz (BitVec 32) := ⟨fun _ => True⟩
instance : Sz (BitVec 8) := ⟨fun _ => True⟩
instance {α : Type} [Sz α] : Sz (List α) := ⟨fun xs => xs.length ≤ 9223372036854775807 ∧ ∀ x ∈ xs, Sz.ok x⟩
instance {α β : Type} [Sz α] [Sz β] : Sz (α × β) := ⟨fun x => Sz.ok x.1 ∧ Sz.ok x.2⟩

def ck {β : Type} (x : Int) (k : Int → Option β) : Option β := if InI x then k x else none
def idx {α β : Type} (xs : List α) (i : Int) (k : α → Option β) : Option β :=
  if 0 ≤ i then (match xs[i.toNat]? with | some x => k x | none => none) else none
def upd {α β : Type} (xs : List α) (i : Int) (x : α) (k : List α → Option β) : Option β :=
  if 0 ≤ i ∧ i < xs.length then k (xs.set i.toNat x) else none
def mkS {α β : Type} (n : Int) (z : α) (k : List α → Option β) : Option β :=
  if 0 ≤ n ∧ n ≤ lim then k (List.replicate n.toNat z) else none
def app {α β : Type} (xs ys : List α) (k : List α → Option β) : Option β :=
  if xs.length + ys.length ≤ lim then k (xs ++ ys) else none
def slc {α β : Type} (xs : List α) (i j : Int) (k : List α → Option β) : Option β :=
  if 0 ≤ i ∧ i ≤ j ∧ j ≤ xs.length then k ((xs.drop i.toNat).take (j.toNat - i.toNat)) else none
def grd {β : Type} (p : Prop) [Decidable p] (k : Option β) : Option β := if p then k else none
def cal {α β : Type} (e : Option α) (k : α → Option β) : Option β := match e with | some x => k x | none => none
def bnd {α A : Type} (e : Option (α ⊕ A)) (k : α → Option A) : Option A :=
  match e with | some (.inl j) => k j | some (.inr a) => some a | none => none
def lpN {S O : Type} (step : S → Option (S ⊕ O)) : Nat → S → Option O
  | 0, _ => none
  | n + 1, s => match step s with | some (.inl s') => lpN step n s' | some (.inr o) => some o | none => none
open Classical in
noncomputable def lp {S O : Type} (step : S → Option (S ⊕ O)) (s : S) : Option O :=
  if h : ∃ o, ∃ n, lpN step n s = some o then some (choose h) else none

def itN {A B : Type} (F : (A → Option B) → A → Option B) : Nat → A → Option B
  | 0, _ => none
  | n + 1, a => F (itN F n) a
open Classical in
noncomputable def fixO {A B : Type} (F : (A → Option B) → A → Option B) (a : A) : Option B :=
  if h : ∃ r, ∃ n, ∀ m, n ≤ m → itN F m a = some r then some (choose h) else none
theorem fixO_some {A B : Type} {F : (A → Option B) → A → Option B} {a : A} {r : B} (h : fixO F a = some r) : ∃ n, itN F n a = some r := by
  unfold fixO at h; split at h
  · rename_i g; have e := Option.some.inj h; subst e
    obtain ⟨n, hn⟩ := Classical.choose_spec g
    exact ⟨n, hn n (Nat.le_refl _)⟩
  · cases h
theorem fixO_of {A B : Type} {F : (A → Option B) → A → Option B} {a : A} {r : B} (n : Nat) (h : ∀ m, n ≤ m → itN F m a = some r) : fixO F a = some r := by
  have g : ∃ r, ∃ n, ∀ m, n ≤ m → itN F m a = some r := ⟨r, n, h⟩
  unfold fixO; rw [dif_pos g]
  obtain ⟨k, hk⟩ := Classical.choose_spec g
  have h1 := hk (max n k) (Nat.le_max_right _ _)
  have h2 := h (max n k) (Nat.le_max_left _ _)
  rw [h1] at h2; exact h2
theorem itN_succ {A B : Type} (F : (A → Option B) → A → Option B) (n : Nat) (a : A) : itN F (n + 1) a = F (itN F n) a := rfl

def BK {α A : Type} : (α ⊕ A) → (α → Option A) → A → Prop
  | .inl j, k, r => k j = some r
  | .inr a, _, r => a = r

theorem least_of {p : Nat → Prop} (h : ∃ m, p m) : ∃ m, p m ∧ ∀ k, p k → m ≤ k := by
  obtain ⟨m, hm⟩ := h
  induction m using Nat.strongRecOn with
  | _ m ih =>
    by_cases g : ∃ k, k < m ∧ p k
    · obtain ⟨k, hk, hp⟩ := g; exact ih k hk hp
    · refine ⟨m, hm, fun k hp => ?_⟩
      rcases Nat.lt_or_ge k m with e | e
      · exact absurd ⟨k, e, hp⟩ g
      · exact e
noncomputable def sInf' (p : Nat → Prop) : Nat := open Classical in if h : ∃ m, p m then choose (least_of h) else 0
theorem sInf'_mem (p : Nat → Prop) (h : ∃ m, p m) : p (sInf' p) := by
  unfold sInf'; rw [dif_pos h]; exact (Classical.choose_spec (least_of h)).1
theorem sInf'_le (p : Nat → Prop) {k : Nat} (hk : p k) : sInf' p ≤ k := by
  have h : ∃ m, p m := ⟨k, hk⟩
  unfold sInf'; rw [dif_pos h]; exact (Classical.choose_spec (least_of h)).2 k hk
def LK {S O : Type} (step : S → Option (S ⊕ O)) (n : Nat) (o : O) : S ⊕ O → Prop
  | .inl s => lpN step n s = some o
  | .inr o' => o' = o
section
variable {α β A S O : Type}
theorem ck_some {x : Int} {k : Int → Option β} {r : β} (h : ck x k = some r) : InI x ∧ k x = some r := by
  unfold ck at h; split at h
  · exact ⟨‹_›, h⟩
  · cases h
theorem idx_some {xs : List α} {i : Int} {k : α → Option β} {r : β} (h : idx xs i k = some r) : ∃ x, 0 ≤ i ∧ xs[i.toNat]? = some x ∧ k x = some r := by
  unfold idx at h; split at h
  · split at h
    · exact ⟨_, ‹_›, ‹_›, h⟩
    · cases h
  · cases h
theorem if_t {p : Prop} [Decidable p] {x y : Option β} {r : β} (hp : p) (h : (if p then x else y) = some r) : x = some r := by rwa [if_pos hp] at h
theorem if_f {p : Prop} [Decidable p] {x y : Option β} {r : β} (hp : ¬ p) (h : (if p then x else y) = some r) : y = some r := by rwa [if_neg hp] at h
theorem mkS_some {n : Int} {z : α} {k : List α → Option β} {r : β} (h : mkS n z k = some r) :
    0 ≤ n ∧ n ≤ lim ∧ k (List.replicate n.toNat z) = some r := by
  unfold mkS at h; split at h
  · rename_i g; exact ⟨g.1, g.2, h⟩
  · cases h
theorem app_some {xs ys : List α} {k : List α → Option β} {r : β} (h : app xs ys k = some r) :
    xs.length + ys.length ≤ lim ∧ k (xs ++ ys) = some r := by
  unfold app at h; split at h
  · exact ⟨‹_›, h⟩
  · cases h
theorem slc_some {xs : List α} {i j : Int} {k : List α → Option β} {r : β} (h : slc xs i j k = some r) :
    0 ≤ i ∧ i ≤ j ∧ j ≤ xs.length ∧ k ((xs.drop i.toNat).take (j.toNat - i.toNat)) = some r := by
  unfold slc at h; split at h
  · rename_i g; exact ⟨g.1, g.2.1, g.2.2, h⟩
  · cases h
theorem grd_some {p : Prop} [Decidable p] {k : Option β} {r : β} (h : grd p k = some r) : p ∧ k = some r := by
  unfold grd at h; split at h
  · exact ⟨‹_›, h⟩
  · cases h
theorem cal_some {e : Option α} {k : α → Option β} {r : β} (h : cal e k = some r) : ∃ x, e = some x ∧ k x = some r := by
  unfold cal at h; split at h
  · exact ⟨_, rfl, h⟩
  · cases h
theorem bnd_some {e : Option (α ⊕ A)} {k : α → Option A} {r : A} (h : bnd e k = some r) : ∃ o, e = some o ∧ BK o k r := by
  unfold bnd at h; split at h
  · exact ⟨_, rfl, h⟩
  · exact ⟨_, rfl, Option.some.inj h⟩
  · cases h
theorem lpN_mono {step : S → Option (S ⊕ O)} : ∀ (n m : Nat) (s : S) (o : O), lpN step n s = some o → n ≤ m → lpN step m s = some o
  | 0, _, _, _, h, _ => by cases h
  | n + 1, 0, _, _, _, hm => by omega
  | n + 1, m + 1, s, o, h, hm => by
    simp only [lpN] at h ⊢
    split at h
    · rename_i s' hs; exact lpN_mono n m s' o h (by omega)
    · exact h
    · cases h
theorem lpN_det {step : S → Option (S ⊕ O)} {n m : Nat} {s : S} {o o' : O} (h : lpN step n s = some o) (h' : lpN step m s = some o') : o = o' := by
  rcases Nat.le_total n m with g | g
  · have := lpN_mono n m s o h g; rw [h'] at this; exact (Option.some.inj this).symm
  · have := lpN_mono m n s o' h' g; rw [h] at this; exact Option.some.inj this
theorem lp_some {step : S → Option (S ⊕ O)} {s : S} {o : O} (h : lp step s = some o) : ∃ n, lpN step n s = some o := by
  unfold lp at h; split at h
  · rename_i g; have e := Option.some.inj h; subst e; exact Classical.choose_spec g
  · cases h
theorem lp_of {step : S → Option (S ⊕ O)} {n : Nat} {s : S} {o : O} (h : lpN step n s = some o) : lp step s = some o := by
  have g : ∃ o, ∃ n, lpN step n s = some o := ⟨o, n, h⟩
  unfold lp; rw [dif_pos g]
  obtain ⟨m, hm⟩ := Classical.choose_spec g
  rw [lpN_det hm h]
theorem lpN_zero {step : S → Option (S ⊕ O)} {s : S} {o : O} (h : lpN step 0 s = some o) : False := by cases h
theorem lpN_succ {step : S → Option (S ⊕ O)} {n : Nat} {s : S} {o : O} (h : lpN step (n + 1) s = some o) : ∃ x, step s = some x ∧ LK step n o x := by
  simp only [lpN] at h
  split at h
  · rename_i s' hs; exact ⟨.inl s', hs, h⟩
  · rename_i o' hs; exact ⟨.inr o', hs, Option.some.inj h⟩
  · cases h
theorem LK_inr {step : S → Option (S ⊕ O)} {n : Nat} {o o' : O} (h : LK step n o (.inr o')) : o' = o := h
theorem BK_inr {a : A} {k : α → Option A} {r : A} (h : BK (.inr a) k r) : a = r := h
theorem lp_rule {step : S → Option (S ⊕ O)} (I : S → Prop) (μ : S → Nat) (post : O → Prop)
    (round : ∀ s, I s → (∃ s', step s = some (.inl s') ∧ I s' ∧ μ s' < μ s) ∨ (∃ o, step s = some (.inr o) ∧ post o)) (s : S) (h : I s) :
    ∃ o, lp step s = some o ∧ post o := by
  have key : ∀ n s, μ s = n → I s → ∃ o m, lpN step m s = some o ∧ post o := by
    intro n
    induction n using Nat.strongRecOn with
    | _ n ih =>
      intro s hn hI
      rcases round s hI with ⟨s', hs, hI', hlt⟩ | ⟨o, hs, hp⟩
      · obtain ⟨o, m, hm, hp⟩ := ih _ (hn ▸ hlt) s' rfl hI'
        exact ⟨o, m + 1, by simp [lpN, hs, hm], hp⟩
      · exact ⟨o, 1, by simp [lpN, hs], hp⟩
  obtain ⟨o, m, hm, hp⟩ := key _ s rfl h
  exact ⟨o, lp_of hm, hp⟩
theorem lp_unfold (step : S → Option (S ⊕ O)) (s : S) :
    lp step s = match step s with | some (.inl s') => lp step s' | some (.inr o) => some o | none => none := by
  cases hs : step s with
  | none =>
    cases h : lp step s with
    | none => rfl
    | some o =>
      obtain ⟨n, hn⟩ := lp_some h
      cases n with
      | zero => cases hn
      | succ n => simp [lpN, hs] at hn
  | some x =>
    cases x with
    | inr o => exact lp_of (n := 1) (by simp [lpN, hs])
    | inl s' =>
      simp only
      cases h : lp step s' with
      | some o => obtain ⟨n, hn⟩ := lp_some h; exact lp_of (n := n + 1) (by simp [lpN, hs, hn])
      | none =>
        cases h' : lp step s with
        | none => rfl
        | some o =>
          obtain ⟨n, hn⟩ := lp_some h'
          cases n with
          | zero => cases hn
          | succ n =>
            simp only [lpN, hs] at hn
            rw [lp_of hn] at h
            cases h
end
end Go.Proofs.YtmaaloijdjnblaaGreatDoor
