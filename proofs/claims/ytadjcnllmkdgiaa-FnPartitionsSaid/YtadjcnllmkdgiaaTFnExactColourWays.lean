/- FnExactColourWays: the plain law. -/
import Derived.Test.YtadjcnllmkdgiaaWays
import Derived.Test.YtadjcnllmkdgiaaLawGraph
namespace Go.Proofs.Ytadjcnllmkdgiaa
/-- k colours to different sets -/
def fall (k : Int) : Nat → Int
  | 0 => 1
  | s + 1 => fall k s * max 0 (k - s)
theorem fall_ok {k : Int} (hk : k ≤ 16) : ∀ s, 0 ≤ fall k s ∧ fall k s ≤ ((16 ^ s : Nat) : Int)
  | 0 => ⟨by simp [fall], by simp [fall]⟩
  | s + 1 => by
    obtain ⟨h1, h2⟩ := fall_ok hk s
    rw [fall]
    have h3 : 0 ≤ max 0 (k - (s : Int)) := by omega
    have h4 : max 0 (k - (s : Int)) ≤ 16 := by omega
    refine ⟨Int.mul_nonneg h1 h3, ?_⟩
    have h5 : fall k s * max 0 (k - (s : Int)) ≤ fall k s * 16 := Int.mul_le_mul_of_nonneg_left h4 h1
    rw [Nat.pow_succ]
    omega
theorem fall_small {k : Int} (hk : k ≤ 16) {s : Nat} (hs : s ≤ 8) : 0 ≤ fall k s ∧ fall k s ≤ 4294967296 := by
  have h := fall_ok hk s
  have h2 : 16 ^ s ≤ 16 ^ 8 := Nat.pow_le_pow_right (by decide) hs
  have h3 : (16 : Nat) ^ 8 = 4294967296 := by decide
  omega
theorem fall_nine {k : Int} (hk : k ≤ 16) {s : Nat} (hs : s ≤ 9) : 0 ≤ fall k s ∧ fall k s ≤ 68719476736 := by
  have h := fall_ok hk s
  have h2 : 16 ^ s ≤ 16 ^ 9 := Nat.pow_le_pow_right (by decide) hs
  have h3 : (16 : Nat) ^ 9 = 68719476736 := by decide
  omega
/-- so many colourings into less than j sets -/
def cwTo (W : List Int) (k : Int) : Nat → Int
  | 0 => 0
  | j + 1 => cwTo W k j + W.getD j 0 * fall k j
theorem getD_bnd {W : List Int} (hW : AllLe W 43046721) (j : Nat) : 0 ≤ W.getD j 0 ∧ W.getD j 0 ≤ 43046721 := by
  by_cases h : j < W.length
  · have := hW _ (List.getElem_mem h); rwa [show W.getD j 0 = W[j] by simp [h]]
  · rw [show W.getD j 0 = 0 by rw [List.getD_eq_getElem?_getD, List.getElem?_eq_none (by omega)]; rfl]; omega
theorem prod_ok {x y : Int} (hx : 0 ≤ x ∧ x ≤ 43046721) (hy : 0 ≤ y ∧ y ≤ 4294967296) : 0 ≤ x * y ∧ x * y ≤ 184884258895036416 := by
  refine ⟨Int.mul_nonneg hx.1 hy.1, ?_⟩
  have h1 : x * y ≤ 43046721 * y := Int.mul_le_mul_of_nonneg_right hx.2 hy.1
  omega
theorem cwTo_ok {W : List Int} (hW : AllLe W 43046721) {k : Int} (hk : k ≤ 16) : ∀ {j : Nat}, j ≤ 9 → 0 ≤ cwTo W k j ∧ cwTo W k j ≤ j * 184884258895036416
  | 0, _ => by simp [cwTo]
  | j + 1, h => by
    have h1 := cwTo_ok hW hk (j := j) (by omega)
    have h2 := prod_ok (getD_bnd hW j) (fall_small hk (s := j) (by omega))
    rw [cwTo]; omega
theorem fall_part {W : List Int} (hW : AllLe W 43046721) {k : Int} (hk : k ≤ 16) (j : Nat) {i : Nat} (hi : i ≤ 8) : 0 ≤ W.getD j 0 * fall k i ∧ W.getD j 0 * fall k i ≤ 184884258895036416 := prod_ok (getD_bnd hW j) (fall_small hk hi)
open Classical in
noncomputable def resColourWays (g : List (List Int)) (k : Int) : Int := if (GOk g ∧ g.length ≤ 8) ∧ 0 ≤ k ∧ k ≤ 16 then cwTo (resPartitionsBy g) k (g.length + 1) else -1
end Go.Proofs.Ytadjcnllmkdgiaa
