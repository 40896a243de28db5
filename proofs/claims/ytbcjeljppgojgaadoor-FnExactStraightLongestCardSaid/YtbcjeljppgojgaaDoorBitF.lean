/- Sets of vertices in the program (32 bits) and in the reference (64 bits with a sign): both are the same natural number. -/
import Derived.Test.YtbcjeljppgojgaaDoorF
import Derived.Test.YtbcjeljppgojgaaDoorBitset
import Derived.Test.YtbcjeljppgojgaaDoorFold
import Derived.Test.YtbcjeljppgojgaaDoorGraph
namespace Go.Proofs.YtbcjeljppgojgaaDoor
/-- numbers as int64 -/
def ints (l : List Nat) : List Int := l.map fun (v : Nat) => (v : Int)
/-- sets as 32 bits -/
def bvs (l : List Nat) : List (BitVec 32) := l.map (BitVec.ofNat 32)
/-- the neighbours of all vertices, as sets -/
def nb (g : List (List Int)) : List Nat := g.map mk
theorem ints_len (l : List Nat) : (ints l).length = l.length := by simp [ints]
theorem bvs_len (l : List Nat) : (bvs l).length = l.length := by simp [bvs]
theorem nb_len (g : List (List Int)) : (nb g).length = g.length := by simp [nb]
theorem ints_get {l : List Nat} {k : Nat} (h : k < (ints l).length) : (ints l)[k] = ((l[k]'(by simpa [ints] using h) : Nat) : Int) := by simp [ints]
theorem bvs_get {l : List Nat} {k : Nat} (h : k < (bvs l).length) : (bvs l)[k] = BitVec.ofNat 32 (l[k]'(by simpa [bvs] using h)) := by simp [bvs]
theorem ints_snoc (l : List Nat) (v : Nat) : ints l ++ [(v : Int)] = ints (l ++ [v]) := by simp [ints]
theorem idx_ints {β : Type} {l : List Nat} {k : Nat} {f : Int → Option β} (h : k < l.length) : idx (ints l) (k : Int) f = f ((l[k] : Nat) : Int) := by
  rw [idx_nat (by rw [ints_len]; exact h), ints_get]
theorem idx_bvs {β : Type} {l : List Nat} {k : Nat} {f : BitVec 32 → Option β} (h : k < l.length) : idx (bvs l) (k : Int) f = f (BitVec.ofNat 32 l[k]) := by
  rw [idx_nat (by rw [bvs_len]; exact h), bvs_get]
/-! ## good graphs -/
theorem GOk.row_mem {g : List (List Int)} (hg : GOk g) {v : Nat} (h : v < g.length) {x : Int} (hx : x ∈ g[v]) : 0 ≤ x ∧ x < g.length := (hg.rows v h).1.mem hx
theorem nb_lt {g : List (List Int)} (hg : GOk g) {v : Nat} (h : v < (nb g).length) : (nb g)[v] < 2 ^ g.length := by
  have h' : v < g.length := by rwa [nb_len] at h
  have : (nb g)[v] = mk g[v] := by simp [nb]
  rw [this]
  exact mk_lt fun x hx => hg.row_mem h' hx
theorem pow16 {n : Nat} (h : n ≤ 16) : 2 ^ n ≤ 2 ^ 16 := Nat.pow_le_pow_right (by decide) h
theorem nb_lt16 {g : List (List Int)} (hg : GOk g) {v : Nat} (h : v < (nb g).length) : (nb g)[v] < 2 ^ 16 := Nat.lt_of_lt_of_le (nb_lt hg h) (pow16 hg.n16)
theorem Rises.lt {s : List Int} {n : Nat} (h : Rises s n) : mk s < 2 ^ n := mk_lt fun v hv => by have := h.mem hv; omega
theorem GOk.row_len {g : List (List Int)} (hg : GOk g) {v : Nat} (h : v < g.length) : g[v].length ≤ 16 := by
  have h1 := (hg.rows v h).1.len (by omega)
  have h2 := hg.n16
  omega
theorem Rises.len16 {s : List Int} {n : Nat} (h : Rises s n) (hn : n ≤ 16) : s.length ≤ 16 := by have := h.len (by omega); omega
theorem tz_eq {n : Nat} (h : n ≠ 0) (hn : n < 2 ^ 32) : F_math_bits_TrailingZeros32 (BitVec.ofNat 32 n) = some (low n : Int) := by
  have hl := low_lt h hn
  unfold F_math_bits_TrailingZeros32
  have h0 : ¬ BitVec.ofNat 32 n = 0#32 := fun e => h ((bv_inj hn (by decide)).1 e)
  rw [if_neg h0, bv_lowbit h hn]
  have hd := deBruijn_at (low n) hl
  rw [idx_of (Int.natCast_nonneg _) (by rw [Int.toNat_natCast]; exact hd), BitVec.toNat_ofNat, Nat.mod_eq_of_lt (by omega)]
theorem least_eq {n : Nat} (h : n ≠ 0) (hn : n < 2 ^ 32) : F_impl_vset_least (BitVec.ofNat 32 n) = some (low n : Int) := by unfold F_impl_vset_least; rw [tz_eq h hn]; rfl
theorem list_eq {n : Nat} (hn : n < 2 ^ 16) : F_impl_vset_list (BitVec.ofNat 32 n) = some (ints (els n)) := by
  unfold F_impl_vset_list
  have key : ∀ n : Nat, n < 2 ^ 16 → ∀ l : List Nat, l.length + (els n).length ≤ 16 → lp (fun s => F_impl_vset_list_l1 s.1 s.2) (BitVec.ofNat 32 n, ints l) = some (.inl (ints (l ++ els n))) := by
    intro n
    induction n using Nat.strongRecOn with
    | _ n ih =>
      intro hn l hl
      rw [lp_unfold]
      by_cases h : n = 0
      · subst h; simp [els_zero, F_impl_vset_list_l1]
      · have h0 : BitVec.ofNat 32 n ≠ 0#32 := fun e => h ((bv_inj (by omega) (by decide)).1 e)
        have e := els_cons h hn
        rw [e, List.length_cons] at hl
        have hs : F_impl_vset_list_l1 (BitVec.ofNat 32 n) (ints l) = some (.inl (BitVec.ofNat 32 (n &&& (n - 1)), ints (l ++ [low n]))) := by
          unfold F_impl_vset_list_l1
          rw [if_pos h0, least_eq h (by omega), cal_some_eq, app1_s (by rw [ints_len]; omega), bv_rest h (by omega), ints_snoc]
        simp only [hs]
        rw [ih _ (rest_lt h) (Nat.lt_trans (rest_lt h) hn) _ (by simp; omega), e, List.append_assoc]; rfl
  have := key n hn [] (by have := els_len_le n; simp; omega)
  rw [show ints [] = [] from rfl] at this
  rw [bnd_l this]; rfl
theorem one_eq {v : Nat} (h : v < 32) : F_impl_one (v : Int) = some (BitVec.ofNat 32 (2 ^ v)) := by
  unfold F_impl_one; rw [grd_of (Int.natCast_nonneg _), Int.toNat_natCast, bv_shl h]
end Go.Proofs.YtbcjeljppgojgaaDoor
