/- Formulas: what a node says of names, and that both the reference and the judge find it. -/
import Derived.Test.YtjcnkijmbjhcnaaBitF
import Derived.Test.YtjcnkijmbjhcnaaFormula
import Derived.Test.YtjcnkijmbjhcnaaParts
namespace Go.Proofs.Ytjcnkijmbjhcnaa
open Classical in
theorem l26Small_eqJ (g : List (List Int)) (hl : ∀ x ∈ g, x.length ≤ 1048576) : F_spec_l26Small g = some (decide (GOk g ∧ g.length ≤ 8)) := by
  unfold F_spec_l26Small
  rw [cal_of (specGraphOk_eq g hl)]
  by_cases hg : GOk g
  · rw [if_pos (by simp [hg])]; congr 1; rw [Bool.eq_iff_iff]; simp [hg]; omega
  · rw [if_neg (by simp [hg])]; simp [hg]
open Classical in
theorem isSmall_eqJ (g : List (List Int)) (hgl : g.length ≤ 1048576) (hl : ∀ x ∈ g, x.length ≤ 1048576) : F_impl_isSmall g = some (decide (GOk g ∧ g.length ≤ 8)) := by
  unfold F_impl_isSmall
  rw [cal_of (implGraphOk_eq g hgl hl)]
  by_cases hg : GOk g
  · rw [if_pos (by simp [hg])]; congr 1; rw [Bool.eq_iff_iff]; simp [hg]; omega
  · rw [if_neg (by simp [hg])]; simp [hg]
theorem formulaOk_iff {a : List (Int × Int × Int)} : formulaOk a = true ↔ (1 ≤ a.length ∧ a.length ≤ 40) ∧ ∀ (k : Nat) (h : k < a.length), factOk k a[k] = true := by
  unfold formulaOk; rw [Bool.and_eq_true, decide_eq_true_eq, decide_eq_true_eq]
inductive FK (k : Int) (x : Int × Int × Int) : Prop
  | edge (h : x.1 = 1) (a0 : 0 ≤ x.2.1) (a1 : x.2.1 ≤ 2) (b0 : 0 ≤ x.2.2) (b1 : x.2.2 ≤ 2) : FK k x
  | same (h : x.1 = 2) (a0 : 0 ≤ x.2.1) (a1 : x.2.1 ≤ 2) (b0 : 0 ≤ x.2.2) (b1 : x.2.2 ≤ 2) : FK k x
  | isin (h : x.1 = 3) (a0 : 0 ≤ x.2.1) (a1 : x.2.1 ≤ 2) (b0 : 0 ≤ x.2.2) (b1 : x.2.2 ≤ 1) : FK k x
  | nott (h : x.1 = 4) (a0 : 0 ≤ x.2.1) (a1 : x.2.1 ≤ k - 1) : FK k x
  | andd (h : x.1 = 5) (a0 : 0 ≤ x.2.1) (a1 : x.2.1 ≤ k - 1) (b0 : 0 ≤ x.2.2) (b1 : x.2.2 ≤ k - 1) : FK k x
  | orr (h : x.1 = 6) (a0 : 0 ≤ x.2.1) (a1 : x.2.1 ≤ k - 1) (b0 : 0 ≤ x.2.2) (b1 : x.2.2 ≤ k - 1) : FK k x
  | ex (h : x.1 = 7) (a0 : 0 ≤ x.2.1) (a1 : x.2.1 ≤ 2) (b0 : 0 ≤ x.2.2) (b1 : x.2.2 ≤ k - 1) : FK k x
  | exs (h : x.1 = 8) (a0 : 0 ≤ x.2.1) (a1 : x.2.1 ≤ 1) (b0 : 0 ≤ x.2.2) (b1 : x.2.2 ≤ k - 1) : FK k x
theorem factOk_fk {k : Int} {x : Int × Int × Int} (h : factOk k x = true) : FK k x := by
  unfold factOk at h
  split at h
  · rename_i c
    simp only [Bool.and_eq_true, decide_eq_true_eq] at h
    rcases c with c | c
    · exact .edge c h.1.1 h.1.2 h.2.1 h.2.2
    · exact .same c h.1.1 h.1.2 h.2.1 h.2.2
  split at h
  · rename_i c
    simp only [Bool.and_eq_true, decide_eq_true_eq] at h
    exact .isin c h.1.1 h.1.2 h.2.1 h.2.2
  split at h
  · rename_i c
    simp only [Bool.and_eq_true, decide_eq_true_eq] at h
    exact .nott c h.1.1 h.1.2
  split at h
  · rename_i c
    simp only [Bool.and_eq_true, decide_eq_true_eq] at h
    rcases c with c | c
    · exact .andd c h.1.1 h.1.2 h.2.1 h.2.2
    · exact .orr c h.1.1 h.1.2 h.2.1 h.2.2
  split at h
  · rename_i c
    simp only [Bool.and_eq_true, decide_eq_true_eq] at h
    exact .ex c h.1.1 h.1.2 h.2.1 h.2.2
  split at h
  · rename_i c
    simp only [Bool.and_eq_true, decide_eq_true_eq] at h
    exact .exs c h.1.1 h.1.2 h.2.1 h.2.2
  · cases h
def updN (v : Nat → Nat) (k x : Nat) : Nat → Nat := fun j => if j = k then x else v j
def sat (a : List Nat) (f : List (Int × Int × Int)) (k : Nat) (v s : Nat → Nat) : Bool :=
  match f[k]? with
  | none => false
  | some x =>
    if x.1 = 1 then (a.getD (v x.2.1.toNat) 0).testBit (v x.2.2.toNat)
    else if x.1 = 2 then decide (v x.2.1.toNat = v x.2.2.toNat)
    else if x.1 = 3 then (s x.2.2.toNat).testBit (v x.2.1.toNat)
    else if x.1 = 4 then !(if h : x.2.1.toNat < k then sat a f x.2.1.toNat v s else false)
    else if x.1 = 5 then (if h : x.2.1.toNat < k then sat a f x.2.1.toNat v s else false) && (if h : x.2.2.toNat < k then sat a f x.2.2.toNat v s else false)
    else if x.1 = 6 then (if h : x.2.1.toNat < k then sat a f x.2.1.toNat v s else false) || (if h : x.2.2.toNat < k then sat a f x.2.2.toNat v s else false)
    else if x.1 = 7 then (List.range a.length).any fun i => if h : x.2.2.toNat < k then sat a f x.2.2.toNat (updN v x.2.1.toNat i) s else false
    else (List.range (2 ^ a.length)).any fun i => if h : x.2.2.toNat < k then sat a f x.2.2.toNat v (updN s x.2.1.toNat i) else false
termination_by k
section
variable {a : List Nat} {f : List (Int × Int × Int)} {k : Nat} {x : Int × Int × Int} {v s : Nat → Nat}
theorem sat1 (hx : f[k]? = some x) (h : x.1 = 1) : sat a f k v s = (a.getD (v x.2.1.toNat) 0).testBit (v x.2.2.toNat) := by
  rw [sat, hx]; simp only; rw [if_pos h]
theorem sat2 (hx : f[k]? = some x) (h : x.1 = 2) : sat a f k v s = decide (v x.2.1.toNat = v x.2.2.toNat) := by
  rw [sat, hx]; simp only; rw [if_neg (by omega), if_pos h]
theorem sat3 (hx : f[k]? = some x) (h : x.1 = 3) : sat a f k v s = (s x.2.2.toNat).testBit (v x.2.1.toNat) := by
  rw [sat, hx]; simp only; rw [if_neg (by omega), if_neg (by omega), if_pos h]
theorem sat4 (hx : f[k]? = some x) (h : x.1 = 4) (ha : x.2.1.toNat < k) : sat a f k v s = !(sat a f x.2.1.toNat v s) := by
  rw [sat, hx]; simp only; rw [if_neg (by omega), if_neg (by omega), if_neg (by omega), if_pos h, dif_pos ha]
theorem sat5 (hx : f[k]? = some x) (h : x.1 = 5) (ha : x.2.1.toNat < k) (hb : x.2.2.toNat < k) : sat a f k v s = (sat a f x.2.1.toNat v s && sat a f x.2.2.toNat v s) := by
  rw [sat, hx]; simp only; rw [if_neg (by omega), if_neg (by omega), if_neg (by omega), if_neg (by omega), if_pos h, dif_pos ha, dif_pos hb]
theorem sat6 (hx : f[k]? = some x) (h : x.1 = 6) (ha : x.2.1.toNat < k) (hb : x.2.2.toNat < k) : sat a f k v s = (sat a f x.2.1.toNat v s || sat a f x.2.2.toNat v s) := by
  rw [sat, hx]; simp only; rw [if_neg (by omega), if_neg (by omega), if_neg (by omega), if_neg (by omega), if_neg (by omega), if_pos h, dif_pos ha, dif_pos hb]
theorem sat7 (hx : f[k]? = some x) (h : x.1 = 7) (hb : x.2.2.toNat < k) : sat a f k v s = (List.range a.length).any fun i => sat a f x.2.2.toNat (updN v x.2.1.toNat i) s := by
  rw [sat, hx]; simp only; rw [if_neg (by omega), if_neg (by omega), if_neg (by omega), if_neg (by omega), if_neg (by omega), if_neg (by omega), if_pos h]
  congr 1; funext i; rw [dif_pos hb]
theorem sat8 (hx : f[k]? = some x) (h : x.1 = 8) (hb : x.2.2.toNat < k) : sat a f k v s = (List.range (2 ^ a.length)).any fun i => sat a f x.2.2.toNat v (updN s x.2.1.toNat i) := by
  rw [sat, hx]; simp only; rw [if_neg (by omega), if_neg (by omega), if_neg (by omega), if_neg (by omega), if_neg (by omega), if_neg (by omega), if_neg (by omega)]
  congr 1; funext i; rw [dif_pos hb]
end
def InR (n : Nat) (v s : Nat → Nat) : Prop := (∀ i, v i < n) ∧ ∀ i, s i < 2 ^ n
theorem InR.v {n : Nat} {v s : Nat → Nat} (h : InR n v s) {k i : Nat} (hi : i < n) : InR n (updN v k i) s := ⟨fun j => by unfold updN; split; exact hi; exact h.1 j, h.2⟩
theorem InR.s {n : Nat} {v s : Nat → Nat} (h : InR n v s) {k i : Nat} (hi : i < 2 ^ n) : InR n v (updN s k i) := ⟨h.1, fun j => by unfold updN; split; exact hi; exact h.2 j⟩
theorem updN_idem {v w : Nat → Nat} {k i : Nat} (h : ∀ j, j ≠ k → w j = v j) : updN w k i = updN v k i := by
  funext j; unfold updN; split
  · rfl
  · rename_i c; exact h j c
theorem updN_ne {v : Nat → Nat} {k i j : Nat} (h : j ≠ k) : updN v k i j = v j := by unfold updN; rw [if_neg h]
theorem getD_getJ {a : List Nat} {v : Nat} (h : v < a.length) : a.getD v 0 = a[v] := by simp [h]
theorem idx3 {β : Type} {g : Int → Option β} {A : Int} (v : Nat → Nat) (h0 : 0 ≤ A) (h2 : A ≤ 2) : idx [((v 0 : Nat) : Int), ((v 1 : Nat) : Int), ((v 2 : Nat) : Int)] A g = g ((v A.toNat : Nat) : Int) := by
  have : A = 0 ∨ A = 1 ∨ A = 2 := by omega
  rcases this with rfl | rfl | rfl <;> rfl
theorem idx2 {β : Type} {g : Int → Option β} {A : Int} (v : Nat → Nat) (h0 : 0 ≤ A) (h2 : A ≤ 1) : idx [((v 0 : Nat) : Int), ((v 1 : Nat) : Int)] A g = g ((v A.toNat : Nat) : Int) := by
  have : A = 0 ∨ A = 1 := by omega
  rcases this with rfl | rfl <;> rfl
theorem idx2b {β : Type} {g : BitVec 32 → Option β} {A : Int} (v : Nat → Nat) (h0 : 0 ≤ A) (h2 : A ≤ 1) : idx [BitVec.ofNat 32 (v 0), BitVec.ofNat 32 (v 1)] A g = g (BitVec.ofNat 32 (v A.toNat)) := by
  have : A = 0 ∨ A = 1 := by omega
  rcases this with rfl | rfl <;> rfl
theorem set3 {A : Int} (v : Nat → Nat) (i : Nat) (h0 : 0 ≤ A) (h2 : A ≤ 2) : [((v 0 : Nat) : Int), ((v 1 : Nat) : Int), ((v 2 : Nat) : Int)].set A.toNat (i : Int) = [((updN v A.toNat i 0 : Nat) : Int), ((updN v A.toNat i 1 : Nat) : Int), ((updN v A.toNat i 2 : Nat) : Int)] := by
  have : A = 0 ∨ A = 1 ∨ A = 2 := by omega
  rcases this with rfl | rfl | rfl <;> rfl
theorem set2 {A : Int} (v : Nat → Nat) (i : Nat) (h0 : 0 ≤ A) (h2 : A ≤ 1) : [((v 0 : Nat) : Int), ((v 1 : Nat) : Int)].set A.toNat (i : Int) = [((updN v A.toNat i 0 : Nat) : Int), ((updN v A.toNat i 1 : Nat) : Int)] := by
  have : A = 0 ∨ A = 1 := by omega
  rcases this with rfl | rfl <;> rfl
theorem if3 {A : Int} (v : Nat → Nat) (i c : Nat) (h0 : 0 ≤ A) : (if A = (c : Int) then (i : Int) else ((v c : Nat) : Int)) = ((updN v A.toNat i c : Nat) : Int) := by
  unfold updN
  by_cases h : A = (c : Int)
  · rw [if_pos h, if_pos (by omega)]
  · rw [if_neg h, if_neg (by omega)]
theorem if2b {A : Int} (v : Nat → Nat) (i c : Nat) (h0 : 0 ≤ A) : (if A = (c : Int) then BitVec.ofNat 32 i else BitVec.ofNat 32 (v c)) = BitVec.ofNat 32 (updN v A.toNat i c) := by
  unfold updN
  by_cases h : A = (c : Int)
  · rw [if_pos h, if_pos (by omega)]
  · rw [if_neg h, if_neg (by omega)]
end Go.Proofs.Ytjcnkijmbjhcnaa
