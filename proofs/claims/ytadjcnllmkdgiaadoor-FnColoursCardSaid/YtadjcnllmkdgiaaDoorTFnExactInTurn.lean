/- FnExactInTurn: the plain law. -/
import Derived.Test.YtadjcnllmkdgiaaDoorOrder
import Derived.Test.YtadjcnllmkdgiaaDoorSlices
import Derived.Test.YtadjcnllmkdgiaaDoorParts
import Derived.Test.YtadjcnllmkdgiaaDoorEdges
import Derived.Test.YtadjcnllmkdgiaaDoorLawGraph
import Derived.Test.YtadjcnllmkdgiaaDoorLawMarks
namespace Go.Proofs.YtadjcnllmkdgiaaDoor
theorem all_in_len : ∀ (m : Nat) (l : List Int), (∀ j : Nat, j < m → (j : Int) ∈ l) → m ≤ l.length
  | 0, _, _ => Nat.zero_le _
  | m + 1, l, h => by
    have hm := h m (by omega)
    have h1 := all_in_len m (l.erase (m : Int)) (fun j hj => (List.mem_erase_of_ne (by omega)).2 (h j (by omega)))
    rw [List.length_erase_of_mem hm] at h1
    have : 0 < l.length := List.length_pos_of_mem hm
    omega
theorem mex_ex (l : List Int) : ∃ c : Nat, (c : Int) ∉ l := Classical.byContradiction fun h => by
  have := all_in_len (l.length + 1) l (fun j _ => Classical.byContradiction fun hn => h ⟨j, hn⟩)
  omega
/-- the least number that is not in a list -/
noncomputable def mex (l : List Int) : Nat := (least_of (mex_ex l)).choose
theorem mex_not (l : List Int) : (mex l : Int) ∉ l := (least_of (mex_ex l)).choose_spec.1
theorem mex_least {l : List Int} {j : Nat} (h : j < mex l) : (j : Int) ∈ l := Classical.byContradiction fun hn => by
  have := (least_of (mex_ex l)).choose_spec.2 j hn
  have e : (least_of (mex_ex l)).choose = mex l := rfl
  omega
theorem mex_le (l : List Int) : mex l ≤ l.length := all_in_len _ _ fun j hj => mex_least hj
theorem mex_eq {l : List Int} {c : Nat} (h1 : (c : Int) ∉ l) (h2 : ∀ j : Nat, j < c → (j : Int) ∈ l) : mex l = c := by
  rcases Nat.lt_trichotomy (mex l) c with h | h | h
  · exact absurd (h2 _ h) (mex_not l)
  · exact h
  · exact absurd (mex_least h) h1
/-- the neighbours' colours -/
def nc (g : List (List Int)) (cs : List Int) (v : Nat) : List Int := (g.getD v []).map fun u => cs.getD u.toNat 0
noncomputable def colS (g : List (List Int)) (o : List Int) : Nat → List Int
  | 0 => List.replicate g.length (-1)
  | k + 1 => (colS g o k).set (o.getD k 0).toNat (mex (nc g (colS g o k) (o.getD k 0).toNat))
theorem colS_len (g : List (List Int)) (o : List Int) : ∀ k, (colS g o k).length = g.length
  | 0 => by simp [colS]
  | k + 1 => by rw [colS, List.length_set, colS_len g o k]
section
variable {g : List (List Int)} {o : List Int}
theorem nc_len (hg : GOk g) {cs : List Int} {v : Nat} (hv : v < g.length) : (nc g cs v).length < g.length := by
  unfold nc
  rw [List.length_map, show g.getD v [] = g[v] by simp [hv]]
  have h1 := (hg.rows v hv)
  have h2 : ((v : Int) :: g[v]).Nodup := List.nodup_cons.2 ⟨h1.2, (rises_iff.1 h1.1).2.imp fun h => by omega⟩
  have h3 := nodup_len (n := g.length) h2 (fun x hx => by
    rcases List.mem_cons.1 hx with e | e
    · omega
    · exact hg.row_mem hv e)
  rw [List.length_cons] at h3
  omega
/-- who has a colour after k rounds -/
theorem colS_at (hg : GOk g) (ho : IsOrder g.length o) : ∀ k, k ≤ o.length → ∀ u, u < g.length → ((u : Int) ∈ o.take k → 0 ≤ (colS g o k).getD u 0 ∧ (colS g o k).getD u 0 < g.length) ∧ ((u : Int) ∉ o.take k → (colS g o k).getD u 0 = -1)
  | 0, _, u, hu => ⟨fun h => by simp at h, fun _ => by simp [colS, hu]⟩
  | k + 1, hk, u, hu => by
    have hk' : k < o.length := by omega
    have ih := colS_at hg ho k (by omega) u hu
    have hb := ho.2.1 _ (List.getElem_mem hk')
    obtain ⟨w, hw⟩ := Int.eq_ofNat_of_zero_le hb.1
    have eo : o.getD k 0 = (w : Int) := by rw [getD_at hk', hw]
    have hwn : w < g.length := by omega
    have hm := mex_le (nc g (colS g o k) w)
    have hn := nc_len hg (cs := colS g o k) hwn
    have hl := colS_len g o k
    have hset : (colS g o (k + 1)).getD u 0 = if w = u then (mex (nc g (colS g o k) w) : Int) else (colS g o k).getD u 0 := by
      rw [colS, eo, Int.toNat_natCast, List.getD_eq_getElem?_getD, List.getElem?_set]
      by_cases e : w = u
      · rw [if_pos e, if_pos (by omega), if_pos e]; rfl
      · rw [if_neg e, if_neg e, List.getD_eq_getElem?_getD]
    rw [hset, take_succ_of hk', List.mem_append, List.mem_singleton, hw]
    by_cases e : w = u
    · rw [if_pos e]
      exact ⟨fun _ => ⟨by omega, by omega⟩, fun h => absurd (.inr (by omega)) h⟩
    · rw [if_neg e]
      refine ⟨fun h => ih.1 (h.elim id fun h => absurd (by omega) e), fun h => ih.2 fun h' => h (.inl h')⟩
/-- the vertices of a colour -/
def clsOf (cs : List Int) (n c : Nat) : Nat := mk (((List.range n).filter fun u => decide (cs.getD u 0 = (c : Int))).map fun (u : Nat) => (u : Int))
theorem clsOf_bit {cs : List Int} {n c u : Nat} : (clsOf cs n c).testBit u = decide (u < n ∧ cs.getD u 0 = (c : Int)) := by
  unfold clsOf
  rw [mk_bit, decide_eq_decide]
  constructor
  · rintro ⟨v, hv, rfl⟩
    rw [List.mem_map] at hv
    obtain ⟨x, hx, rfl⟩ := hv
    rw [List.mem_filter, List.mem_range, decide_eq_true_iff] at hx
    rw [Int.toNat_natCast]; exact hx
  · rintro ⟨h1, h2⟩
    exact ⟨(u : Int), List.mem_map.2 ⟨u, by rw [List.mem_filter, List.mem_range, decide_eq_true_iff]; exact ⟨h1, h2⟩, rfl⟩, by simp⟩
theorem clsOf_lt (cs : List Int) (n c : Nat) : clsOf cs n c < 2 ^ n := by
  unfold clsOf
  refine mk_lt fun v hv => ?_
  rw [List.mem_map] at hv
  obtain ⟨x, hx, rfl⟩ := hv
  rw [List.mem_filter, List.mem_range] at hx
  omega
def clsT (cs : List Int) (n : Nat) : List Nat := (List.range n).map (clsOf cs n)
theorem clsT_set {cs : List Int} {n v c : Nat} (hl : cs.length = n) (hv : v < n) (hc : c < n) (h0 : cs.getD v 0 = -1) : (clsT cs n).set c (clsOf cs n c ||| 2 ^ v) = clsT (cs.set v (c : Int)) n := by
  unfold clsT
  apply List.ext_getElem
  · simp
  · intro j h1 h2
    simp only [List.length_map, List.length_range] at h2
    rw [List.getElem_set]
    simp only [List.getElem_map, List.getElem_range]
    have hget : ∀ u, (cs.set v (c : Int)).getD u 0 = if v = u then (c : Int) else cs.getD u 0 := fun u => by
      rw [List.getD_eq_getElem?_getD, List.getElem?_set]
      by_cases e : v = u
      · rw [if_pos e, if_pos (by omega), if_pos e]; rfl
      · rw [if_neg e, if_neg e, List.getD_eq_getElem?_getD]
    by_cases e : c = j
    · subst e
      rw [if_pos rfl]
      refine bits_ext fun u => ?_
      rw [Nat.testBit_or, clsOf_bit, clsOf_bit, Nat.testBit_two_pow, hget, Bool.eq_iff_iff, Bool.or_eq_true, decide_eq_true_iff, decide_eq_true_iff, decide_eq_true_iff]
      by_cases e : v = u
      · subst e; rw [if_pos rfl]; exact ⟨fun _ => ⟨hv, rfl⟩, fun _ => .inr rfl⟩
      · rw [if_neg e]; exact ⟨fun h => h.elim id fun h => absurd h e, .inl⟩
    · rw [if_neg e]
      refine bits_ext fun u => ?_
      rw [clsOf_bit, clsOf_bit, hget, decide_eq_decide]
      by_cases e2 : v = u
      · subst e2; rw [if_pos rfl, h0]; exact ⟨fun h => absurd h.2 (by omega), fun h => absurd h.2 (by omega)⟩
      · rw [if_neg e2]
theorem cls_free (hg : GOk g) {cs : List Int} {v c : Nat} (hv : v < g.length) : clsOf cs g.length c &&& mk g[v] = 0 ↔ (c : Int) ∉ nc g cs v := by
  have hb : ∀ u, (mk g[v]).testBit u = true ↔ (u : Int) ∈ g[v] := fun u => by rw [mk_mem (fun x hx => (hg.row_mem hv hx).1), decide_eq_true_iff]
  unfold nc
  rw [show g.getD v [] = g[v] by simp [hv]]
  constructor
  · intro h hm
    rw [List.mem_map] at hm
    obtain ⟨x, hx, e⟩ := hm
    have := hg.row_mem hv hx
    obtain ⟨u, rfl⟩ := Int.eq_ofNat_of_zero_le this.1
    have h1 : (clsOf cs g.length c &&& mk g[v]).testBit u = false := by rw [h, Nat.zero_testBit]
    rw [Nat.testBit_and, clsOf_bit, (hb u).2 hx, Bool.and_true, decide_eq_false_iff_not] at h1
    rw [Int.toNat_natCast] at e
    exact h1 ⟨by omega, e⟩
  · intro h
    refine bits_ext fun u => ?_
    rw [Nat.zero_testBit, Nat.testBit_and, clsOf_bit]
    cases e : (mk g[v]).testBit u with
    | false => rw [Bool.and_false]
    | true =>
      rw [Bool.and_true, decide_eq_false_iff_not]
      rintro ⟨_, h2⟩
      exact h (List.mem_map.2 ⟨(u : Int), (hb u).1 e, by rw [Int.toNat_natCast]; exact h2⟩)
def outOf (cs : List Int) : List Int := cs.map fun x => if x = -1 then 0 else x
end
open Classical in
noncomputable def resInTurn (g : List (List Int)) (o : List Int) : List Int := if GOk g ∧ IsOrder g.length o then colS g o g.length else []
theorem resInTurn_small (g : List (List Int)) (o : List Int) (hgl : g.length ≤ 1048576) (hl : ∀ x ∈ g, x.length ≤ 1048576) (ho : o.length ≤ 1048576) : (resInTurn g o).length ≤ 1048576 := by
  unfold resInTurn
  split
  · rw [colS_len]; exact hgl
  · simp
theorem implInTurn_eq (g : List (List Int)) (o : List Int) (hgl : g.length ≤ 1048576) (hl : ∀ x ∈ g, x.length ≤ 1048576) (ho : o.length ≤ 1048576) : F_impl_InTurn g o = some (resInTurn g o) := by
  unfold F_impl_InTurn resInTurn
  rw [cal_of (implOrderOk_eq g o hgl hl ho)]
  by_cases h : GOk g ∧ IsOrder g.length o
  case neg => rw [if_pos (by simpa using h), if_neg h]
  have hg := h.1
  have h16 := hg.n16
  have hp := pow16 h16
  have hol := h.2.1
  rw [if_neg (by simpa using h), if_pos h, cal_of (netsOf_eq hg), mkS_of (by omega) (by unfold lim; omega), mkS_of (by omega) (by unfold lim; omega), Int.toNat_natCast, bnd_l rfl]
  unfold F_impl_InTurn_k1
  dsimp only
  have key : lp (fun s => F_impl_InTurn_l2 o (bvs (nb g)) s.1 s.2.1 s.2.2) (List.replicate o.length (0 : BitVec 32), List.replicate o.length (0 : Int), 0) = some (.inl (outOf (colS g o o.length))) := by
    refine lp_upto (fun k => (bvs (clsT (colS g o k) g.length), outOf (colS g o k), (k : Int))) o.length ?_ (fun k hk => ?_) ?_
    · refine pair_eq ?_ (pair_eq ?_ rfl)
      · rw [hol]
        unfold bvs clsT
        apply List.ext_getElem
        · simp
        · intro j h1 h2
          simp only [List.length_replicate] at h1
          simp only [List.getElem_replicate, List.getElem_map, List.getElem_range]
          have : clsOf (colS g o 0) g.length j = 0 := bits_ext fun u => by
            rw [clsOf_bit, Nat.zero_testBit, decide_eq_false_iff_not]
            rintro ⟨h3, h4⟩
            simp [colS, h3] at h4
          rw [this]; rfl
      · rw [hol]; simp [outOf, colS]
    · simp only [F_impl_InTurn_l2]
      have hb := h.2.2.1 _ (List.getElem_mem hk)
      obtain ⟨w, hw⟩ := Int.eq_ofNat_of_zero_le hb.1
      have eo : o.getD k 0 = (w : Int) := by rw [getD_at hk, hw]
      have hwn : w < g.length := by omega
      have hcl := colS_len g o k
      have hm1 := mex_le (nc g (colS g o k) w)
      have hm2 := nc_len hg (cs := colS g o k) hwn
      have hmn : mex (nc g (colS g o k) w) < g.length := by omega
      have hnb : w < (nb g).length := by rw [nb_len]; exact hwn
      have enb : (nb g)[w] = mk g[w] := nb_get hwn
      have hwlt := (hg.rows w hwn).1.lt
      have hcll : (clsT (colS g o k) g.length).length = g.length := by unfold clsT; simp
      have hnot : (w : Int) ∉ o.take k := by
        have := nodup_take.1 h.2.2.2 k hk
        rwa [hw] at this
      have h0 := (colS_at hg h.2 k (by omega) w hwn).2 hnot
      have hfind : (bvs (clsT (colS g o k) g.length)).findIdx? (fun s => decide ((s &&& BitVec.ofNat 32 (mk g[w])) = 0#32)) = some (mex (nc g (colS g o k) w)) := by
        have hat : ∀ j (hj : j < g.length) (hj' : j < (bvs (clsT (colS g o k) g.length)).length), decide (((bvs (clsT (colS g o k) g.length))[j] &&& BitVec.ofNat 32 (mk g[w])) = 0#32) = decide ((j : Int) ∉ nc g (colS g o k) w) := by
          intro j hj hj'
          have hlt := clsOf_lt (colS g o k) g.length j
          have e1 : (bvs (clsT (colS g o k) g.length))[j] = BitVec.ofNat 32 (clsOf (colS g o k) g.length j) := by simp [bvs, clsT]
          have := and_lt (b := mk g[w]) hlt
          rw [e1, bv_and, decide_eq_decide, bv_inj (by omega) (by decide), cls_free hg hwn]
        rw [List.findIdx?_eq_some_iff_getElem]
        refine ⟨by rw [bvs_len, hcll]; exact hmn, ?_, fun j hj => ?_⟩
        · rw [hat _ hmn, decide_eq_true_iff]; exact mex_not _
        · rw [hat j (by omega), decide_eq_true_iff, Classical.not_not]; exact mex_least hj
      have hI : F_slices_IndexFunc_implvset (bvs (clsT (colS g o k) g.length)) (fun z => F_impl_InTurn_1 z (bvs (nb g)) (w : Int)) = some (mex (nc g (colS g o k) w) : Int) := by
        rw [idxF_impl_vset _ _ (fun s => decide ((s &&& BitVec.ofNat 32 (mk g[w])) = 0#32)) (by rw [bvs_len, hcll]; omega) (fun s _ => by unfold F_impl_InTurn_1; rw [idx_bvs hnb, enb]), hfind]
      have hlt := clsOf_lt (colS g o k) g.length (mex (nc g (colS g o k) w))
      have e1 : (clsT (colS g o k) g.length)[mex (nc g (colS g o k) w)]'(by rw [hcll]; exact hmn) = clsOf (colS g o k) g.length (mex (nc g (colS g o k) w)) := by simp [clsT]
      have hout : (outOf (colS g o k)).length = g.length := by unfold outOf; rw [List.length_map, hcl]
      rw [if_pos (by omega), idx_nat hk, hw, cal_of hI, idx_bvs (by rw [hcll]; exact hmn), e1, cal_of (one_eq (by omega)), idx_bvs (by rw [hcll]; exact hmn), idx_nat (by omega), ck_of (inI (by omega) (by omega)), Int.toNat_natCast, Int.toNat_natCast, bv_or]
      refine inl_eq (pair_eq ?_ (pair_eq ?_ rfl))
      · rw [colS, eo, Int.toNat_natCast, ← clsT_set hcl hwn hmn h0]
        unfold bvs
        rw [List.map_set]
      · rw [colS, eo, Int.toNat_natCast]
        unfold outOf
        rw [List.map_set, if_neg (by omega)]
    · simp only [F_impl_InTurn_l2]
      rw [if_neg (by omega)]
  rw [key, bnd_l rfl]
  unfold F_impl_InTurn_k3
  congr 1
  rw [hol]
  have hcl := colS_len g o g.length
  unfold outOf
  apply List.ext_getElem
  · simp
  · intro u h1 h2
    rw [List.getElem_map]
    have hu : u < g.length := by omega
    have hm : (u : Int) ∈ o.take g.length := by
      rw [List.take_of_length_le (by omega)]
      refine Classical.byContradiction fun hn => ?_
      have h3 : ((u : Int) :: o).Nodup := List.nodup_cons.2 ⟨hn, h.2.2.2⟩
      have h4 := nodup_len (n := g.length) h3 (fun x hx => by
        rcases List.mem_cons.1 hx with e | e
        · omega
        · exact h.2.2.1 x e)
      rw [List.length_cons] at h4
      omega
    have h3 := ((colS_at hg h.2 g.length (by omega) u hu).1 hm).1
    rw [List.getD_eq_getElem?_getD, List.getElem?_eq_getElem h2, Option.getD_some] at h3
    rw [if_neg (by omega)]
end Go.Proofs.YtadjcnllmkdgiaaDoor
