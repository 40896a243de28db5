/- Paths: distinct vertices, each a neighbour of the next one. -/
import Derived.Test.YthbmcbflnibpbacBitF
import Derived.Test.YthbmcbflnibpbacSetF
namespace Go.Proofs.Ythbmcbflnibpbac
theorem edge_sym {g : List (List Int)} (hg : GOk g) {u v : Nat} (hu : u < g.length) (hv : v < g.length) : (v : Int) ∈ g[u] ↔ (u : Int) ∈ g[v] := by
  constructor
  · intro h
    have := hg.sym u hu _ h (by rw [Int.toNat_natCast]; exact hv)
    simpa using this
  · intro h
    have := hg.sym v hv _ h (by rw [Int.toNat_natCast]; exact hu)
    simpa using this
/-- what is asked of a path's place k -/
def PathAt (g : List (List Int)) (l : List Int) (k : Nat) : Prop := (0 ≤ l.getD k 0 ∧ l.getD k 0 < g.length) ∧ l.getD k 0 ∉ l.take k ∧ (0 < k → l.getD (k - 1) 0 ∈ g.getD (l.getD k 0).toNat [])
def IsPath (g : List (List Int)) (l : List Int) : Prop := ∀ k, k < l.length → PathAt g l k
theorem getD_at {l : List Int} {k : Nat} (h : k < l.length) : l.getD k 0 = l[k] := by simp [h]
theorem IsPath.mem {g : List (List Int)} {l : List Int} (h : IsPath g l) {k : Nat} (hk : k < l.length) : 0 ≤ l[k] ∧ l[k] < g.length := by have := (h k hk).1; rwa [getD_at hk] at this
theorem IsPath.ne {g : List (List Int)} {l : List Int} (h : IsPath g l) {j k : Nat} (hj : j < l.length) (hk : k < l.length) (hne : j ≠ k) : l[j] ≠ l[k] := by
  have key : ∀ {j k : Nat} (hj : j < l.length) (hk : k < l.length), j < k → l[j] ≠ l[k] := by
    intro j k hj hk hjk e
    have h1 := (h k hk).2.1
    rw [getD_at hk, ← e] at h1
    exact h1 (List.mem_take_iff_getElem.2 ⟨j, by omega, rfl⟩)
  rcases Nat.lt_or_ge j k with g | g
  · exact key hj hk g
  · exact (key hk hj (by omega)).symm
theorem IsPath.nodup {g : List (List Int)} {l : List Int} (h : IsPath g l) : l.Nodup := List.pairwise_iff_getElem.2 fun i j hi hj hij => h.ne hi hj (by omega)
theorem nodup_len : ∀ {n : Nat} {l : List Int}, l.Nodup → (∀ x ∈ l, 0 ≤ x ∧ x < n) → l.length ≤ n
  | 0, l, hn, h => by
    cases l with
    | nil => simp
    | cons x l => have := h x (List.mem_cons_self ..); omega
  | n + 1, l, hn, h => by
    by_cases hm : (n : Int) ∈ l
    · have h1 := nodup_len (n := n) (hn.erase (n : Int)) (fun x hx => by
        rw [hn.mem_erase_iff] at hx
        have := h x hx.2
        have := hx.1
        omega)
      rw [List.length_erase_of_mem hm] at h1
      omega
    · have := nodup_len (n := n) hn (fun x hx => by
        have h1 := h x hx
        have h2 : x ≠ (n : Int) := fun e => hm (by rw [← e]; exact hx)
        omega)
      omega
theorem IsPath.len {g : List (List Int)} {l : List Int} (h : IsPath g l) : l.length ≤ g.length := nodup_len h.nodup fun x hx => by
  obtain ⟨k, hk, rfl⟩ := List.getElem_of_mem hx
  exact h.mem hk
open Classical in
theorem l3Path_eq {g : List (List Int)} (hg : GOk g) (l : List Int) (hl : l.length ≤ 1048576) : F_spec_l3Path g l = some (decide (IsPath g l)) := by
  have h16 := hg.n16
  have key := lp_allC (step := fun s => F_spec_l3Path_l1 g l s) (fun k => (k : Int)) l.length (PathAt g l) (IsPath g l) (oT := .inl ()) (oF := .inr false) Iff.rfl ?_ ?_ ?_
  · unfold F_spec_l3Path
    rw [show (0 : Int) = ((0 : Nat) : Int) from rfl, key, bnd_if]
    unfold F_spec_l3Path_k2
    by_cases h : IsPath g l
    · rw [if_pos h, decide_eq_true h]
    · rw [if_neg h, decide_eq_false h]
  · intro k hk hb hp
    obtain ⟨⟨p0, p1⟩, p2, p3⟩ := hp
    rw [getD_at hk] at p0 p1 p2 p3
    simp only [F_spec_l3Path_l1, F_spec_l1There, F_spec_l1Size, F_spec_l1Edge, cal_some_eq]
    have hlt : l.length ≤ 1099511627776 := by omega
    rw [if_pos (by omega), idx_nat hk, ck_of (inI (by omega) (by omega)), l1In_eq, cal_some_eq, cal_some_eq, if_neg (by simp; omega), slc_of ⟨by decide, by omega, by omega⟩, idx_nat hk, show (0 : Int).toNat = 0 from rfl, List.drop_zero, Int.toNat_natCast, Nat.sub_zero, cal_of (l1Has_eq _ _ (by rw [List.length_take]; omega)), if_neg (by simpa using p2)]
    by_cases h0 : 0 < k
    · have hk1 : k - 1 < l.length := by omega
      have q1 := (hb (k - 1) (by omega)).1
      have q2 := p3 h0
      rw [getD_at hk1] at q1 q2
      obtain ⟨u, hu⟩ := Int.eq_ofNat_of_zero_le q1.1
      obtain ⟨v, hv⟩ := Int.eq_ofNat_of_zero_le p0
      rw [hu] at q1 q2; rw [hv] at p1 q2
      have hun : u < g.length := by omega
      have hvn : v < g.length := by omega
      rw [Int.toNat_natCast, show g.getD v [] = g[v] by simp [hvn]] at q2
      have q3 := (edge_sym hg hvn hun).1 q2
      have hrl := hg.row_len hun
      rw [if_pos (by omega), ck_of (inI (by omega) (by omega)), show (k : Int) - 1 = ((k - 1 : Nat) : Int) by omega, idx_nat hk1, idx_nat hk, hu, hv, idx_nat hun, cal_of (l1Has_eq _ _ (by omega)), cal_some_eq, if_neg (by simpa using q3), ck_of (inI (by omega) (by omega))]; rfl
    · rw [if_neg (by omega), ck_of (inI (by omega) (by omega))]; rfl
  · intro k hk hb hp
    simp only [F_spec_l3Path_l1, F_spec_l1There, F_spec_l1Size, F_spec_l1Edge, cal_some_eq]
    rw [if_pos (by omega), idx_nat hk, ck_of (inI (by omega) (by omega)), l1In_eq, cal_some_eq, cal_some_eq]
    by_cases h1 : 0 ≤ l[k] ∧ l[k] ≤ (g.length : Int) - 1
    case neg => rw [if_pos (by simpa using h1)]
    rw [if_neg (by simpa using h1), slc_of ⟨by decide, by omega, by omega⟩, idx_nat hk, show (0 : Int).toNat = 0 from rfl, List.drop_zero, Int.toNat_natCast, Nat.sub_zero, cal_of (l1Has_eq _ _ (by rw [List.length_take]; omega))]
    by_cases h2 : l[k] ∈ l.take k
    case pos => rw [if_pos (by simpa using h2)]
    rw [if_neg (by simpa using h2)]
    by_cases h0 : 0 < k
    · have hk1 : k - 1 < l.length := by omega
      have q1 := (hb (k - 1) (by omega)).1
      rw [getD_at hk1] at q1
      obtain ⟨u, hu⟩ := Int.eq_ofNat_of_zero_le q1.1
      obtain ⟨v, hv⟩ := Int.eq_ofNat_of_zero_le h1.1
      rw [hu] at q1
      have hun : u < g.length := by omega
      have hvn : v < g.length := by omega
      have hrl := hg.row_len hun
      rw [if_pos (by omega), ck_of (inI (by omega) (by omega)), show (k : Int) - 1 = ((k - 1 : Nat) : Int) by omega, idx_nat hk1, idx_nat hk, hu, hv, idx_nat hun, cal_of (l1Has_eq _ _ (by omega)), cal_some_eq, if_pos ?_]
      rw [decide_eq_true_iff]
      intro h3
      refine hp ⟨by rw [getD_at hk]; omega, by rw [getD_at hk]; exact h2, fun _ => ?_⟩
      rw [getD_at hk1, getD_at hk, hu, hv, Int.toNat_natCast, show g.getD v [] = g[v] by simp [hvn]]
      exact (edge_sym hg hun hvn).1 h3
    · exact absurd ⟨by rw [getD_at hk]; omega, by rw [getD_at hk]; exact h2, fun h => absurd h h0⟩ hp
  · intro _
    simp only [F_spec_l3Path_l1]
    rw [if_neg (by omega)]
open Classical in
theorem isTrail_eq {g : List (List Int)} (hg : GOk g) (l : List Int) (hl : l.length ≤ 1048576) : F_impl_isTrail g l = some (decide (IsPath g l)) := by
  have h16 := hg.n16
  have hmk : ∀ k, k ≤ l.length → (∀ j, j < k → PathAt g l j) → (∀ v ∈ l.take k, 0 ≤ v ∧ v < 16) := by
    intro k hk hb v hv
    rw [List.mem_take_iff_getElem] at hv
    obtain ⟨j, hj, rfl⟩ := hv
    have := (hb j (by omega)).1
    rw [getD_at (by omega)] at this
    omega
  have key := lp_allC (step := fun s => F_impl_isTrail_l1 g l s.1 s.2) (fun k => (BitVec.ofNat 32 (mk (l.take k)), (k : Int))) l.length (PathAt g l) (IsPath g l) (oT := .inl ()) (oF := .inr false) Iff.rfl ?_ ?_ ?_
  · unfold F_impl_isTrail
    simp only [List.take_zero] at key
    rw [show (0 : Int) = ((0 : Nat) : Int) from rfl, show (0#32, ((0 : Nat) : Int)) = (BitVec.ofNat 32 (mk []), ((0 : Nat) : Int)) from rfl, key, bnd_if]
    unfold F_impl_isTrail_k2
    by_cases h : IsPath g l
    · rw [if_pos h, decide_eq_true h]
    · rw [if_neg h, decide_eq_false h]
  · intro k hk hb hp
    have hm := hmk k (by omega) hb
    have hlt : mk (l.take k) < 2 ^ 16 := mk_lt (k := 16) hm
    obtain ⟨⟨p0, p1⟩, p2, p3⟩ := hp
    rw [getD_at hk] at p0 p1 p2 p3
    obtain ⟨v, hv⟩ := Int.eq_ofNat_of_zero_le p0
    have hvn : v < g.length := by omega
    have hbit : (mk (l.take k)).testBit v = false := by rw [mk_mem (fun x hx => (hm x hx).1), decide_eq_false_iff_not, ← hv]; exact p2
    have hnext : BitVec.ofNat 32 (mk (l.take k)) ||| BitVec.ofNat 32 (2 ^ v) = BitVec.ofNat 32 (mk (l.take (k + 1))) := by rw [bv_or, take_succ_of hk, mk_snoc, hv, Int.toNat_natCast]
    simp only [F_impl_isTrail_l1]
    rw [if_pos (by omega), idx_nat hk, ck_of (inI (by omega) (by omega)), inRange_eq, cal_some_eq, if_neg (by simp; omega), hv, cal_of (has_eq (by omega) (by omega)), hbit, if_neg (by simp)]
    by_cases h0 : 0 < k
    · have hk1 : k - 1 < l.length := by omega
      have q2 := p3 h0
      rw [getD_at hk1, hv, Int.toNat_natCast, show g.getD v [] = g[v] by simp [hvn]] at q2
      have hrl := hg.row_len hvn
      rw [if_pos (by omega), idx_nat hvn, ck_of (inI (by omega) (by omega)), show (k : Int) - 1 = ((k - 1 : Nat) : Int) by omega, idx_nat hk1, cal_of (contains_eq _ _ (by omega)), if_neg (by simpa using q2), cal_of (one_eq (by omega)), ck_of (inI (by omega) (by omega)), hnext]; rfl
    · rw [if_neg (by omega), cal_of (one_eq (by omega)), ck_of (inI (by omega) (by omega)), hnext]; rfl
  · intro k hk hb hp
    have hm := hmk k (by omega) hb
    have hlt : mk (l.take k) < 2 ^ 16 := mk_lt (k := 16) hm
    simp only [F_impl_isTrail_l1]
    rw [if_pos (by omega), idx_nat hk, ck_of (inI (by omega) (by omega)), inRange_eq, cal_some_eq]
    by_cases h1 : 0 ≤ l[k] ∧ l[k] ≤ (g.length : Int) - 1
    case neg => rw [if_pos (by simpa using h1)]
    obtain ⟨v, hv⟩ := Int.eq_ofNat_of_zero_le h1.1
    have hvn : v < g.length := by omega
    rw [if_neg (by simpa using h1), hv, cal_of (has_eq (by omega) (by omega)), mk_mem (fun x hx => (hm x hx).1), ← hv]
    by_cases h2 : l[k] ∈ l.take k
    case pos => rw [if_pos (by simpa using h2)]
    rw [if_neg (by simpa using h2)]
    by_cases h0 : 0 < k
    · have hk1 : k - 1 < l.length := by omega
      have hrl := hg.row_len hvn
      rw [if_pos (by omega), hv, idx_nat hvn, ck_of (inI (by omega) (by omega)), show (k : Int) - 1 = ((k - 1 : Nat) : Int) by omega, idx_nat hk1, cal_of (contains_eq _ _ (by omega)), if_pos ?_]
      rw [decide_eq_true_iff]
      intro h3
      refine hp ⟨by rw [getD_at hk]; omega, by rw [getD_at hk]; exact h2, fun _ => ?_⟩
      rw [getD_at hk1, getD_at hk, hv, Int.toNat_natCast, show g.getD v [] = g[v] by simp [hvn]]
      exact h3
    · exact absurd ⟨by rw [getD_at hk]; omega, by rw [getD_at hk]; exact h2, fun h => absurd h h0⟩ hp
  · intro _
    simp only [F_impl_isTrail_l1]
    rw [if_neg (by omega)]
end Go.Proofs.Ythbmcbflnibpbac
