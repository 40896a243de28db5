/- Paths: distinct vertices, each a neighbour of the next one. -/
import Derived.Test.YtadjcnllmkdgiaaDoorBitF
import Derived.Test.YtadjcnllmkdgiaaDoorSetF
namespace Go.Proofs.YtadjcnllmkdgiaaDoor
theorem edge_sym {g : List (List Int)} (hg : GOk g) {u v : Nat} (hu : u < g.length) (hv : v < g.length) : (v : Int) ∈ g[u] ↔ (u : Int) ∈ g[v] := by
  constructor
  · intro h
    have := hg.sym u hu _ h (by rw [Int.toNat_natCast]; exact hv)
    simpa using this
  · intro h
    have := hg.sym v hv _ h (by rw [Int.toNat_natCast]; exact hu)
    simpa using this
/-- what is asked of a path's place k -/
def PathAt (g : List (List Int)) (l : List Int) (k : Nat) : Prop := (0 ≤ l.getD k 0 ∧ l.getD k 0 < g.length) ∧ l.getD k 0 ∉ l.take k ∧ (0 < k → l.getD (k - 1) 0 ∈ g.getD (l.getD k 0).toNat [])
def IsPath (g : List (List Int)) (l : List Int) : Prop := ∀ k, k < l.length → PathAt g l k
theorem getD_at {l : List Int} {k : Nat} (h : k < l.length) : l.getD k 0 = l[k] := by simp [h]
theorem IsPath.mem {g : List (List Int)} {l : List Int} (h : IsPath g l) {k : Nat} (hk : k < l.length) : 0 ≤ l[k] ∧ l[k] < g.length := by have := (h k hk).1; rwa [getD_at hk] at this
theorem IsPath.ne {g : List (List Int)} {l : List Int} (h : IsPath g l) {j k : Nat} (hj : j < l.length) (hk : k < l.length) (hne : j ≠ k) : l[j] ≠ l[k] := by
  have key : ∀ {j k : Nat} (hj : j < l.length) (hk : k < l.length), j < k → l[j] ≠ l[k] := by
    intro j k hj hk hjk e
    have h1 := (h k hk).2.1
    rw [getD_at hk, ← e] at h1
    exact h1 (List.mem_take_iff_getElem.2 ⟨j, by omega, rfl⟩)
  rcases Nat.lt_or_ge j k with g | g
  · exact key hj hk g
  · exact (key hk hj (by omega)).symm
theorem IsPath.nodup {g : List (List Int)} {l : List Int} (h : IsPath g l) : l.Nodup := List.pairwise_iff_getElem.2 fun i j hi hj hij => h.ne hi hj (by omega)
theorem nodup_len : ∀ {n : Nat} {l : List Int}, l.Nodup → (∀ x ∈ l, 0 ≤ x ∧ x < n) → l.length ≤ n
  | 0, l, hn, h => by
    cases l with
    | nil => simp
    | cons x l => have := h x (List.mem_cons_self ..); omega
  | n + 1, l, hn, h => by
    by_cases hm : (n : Int) ∈ l
    · have h1 := nodup_len (n := n) (hn.erase (n : Int)) (fun x hx => by
        rw [hn.mem_erase_iff] at hx
        have := h x hx.2
        have := hx.1
        omega)
      rw [List.length_erase_of_mem hm] at h1
      omega
    · have := nodup_len (n := n) hn (fun x hx => by
        have h1 := h x hx
        have h2 : x ≠ (n : Int) := fun e => hm (by rw [← e]; exact hx)
        omega)
      omega
theorem IsPath.len {g : List (List Int)} {l : List Int} (h : IsPath g l) : l.length ≤ g.length := nodup_len h.nodup fun x hx => by
  obtain ⟨k, hk, rfl⟩ := List.getElem_of_mem hx
  exact h.mem hk
end Go.Proofs.YtadjcnllmkdgiaaDoor
