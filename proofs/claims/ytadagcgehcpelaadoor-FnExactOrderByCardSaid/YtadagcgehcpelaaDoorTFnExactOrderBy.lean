/- FnExactOrderBy: the plain law. -/
import Derived.Test.YtadagcgehcpelaaDoorTreeMath
import Derived.Test.YtadagcgehcpelaaDoorGDel
import Derived.Test.YtadagcgehcpelaaDoorSlices
import Derived.Test.YtadagcgehcpelaaDoorLawMarks
namespace Go.Proofs.YtadagcgehcpelaaDoor
open Classical in
theorem l9In_gen {bags links : List (List Int)} (hb : bags.length ≤ 1048576) (hr : ∀ x ∈ bags, x.length ≤ 1048576) {s : List Int} (hs : s.length ≤ 1048576) : F_spec_l9In bags links s = some (decide (∃ b ∈ bags, ∀ x ∈ s, x ∈ b)) := by
  unfold F_spec_l9In
  have hpart : ∀ b ∈ bags, F_spec_l9Part s b = some (decide (∀ x ∈ s, x ∈ b)) := by
    intro b hbm
    unfold F_spec_l9Part
    rw [cal_of (l8Meet_eq hs (hr b hbm))]
    refine congrArg some ?_
    rw [Bool.eq_iff_iff, decide_eq_true_iff, decide_eq_true_iff, Int.ofNat_inj, filter_len_iff]
    simp
  have key := lp_allC (step := fun q => F_spec_l9In_l1 bags s q) (fun k => (k : Int)) bags.length (fun k => ∀ h : k < bags.length, ¬ (∀ x ∈ s, x ∈ bags[k])) (¬ ∃ b ∈ bags, ∀ x ∈ s, x ∈ b) (oT := .inl ()) (oF := .inr true) ?_ ?_ ?_ ?_
  · rw [show (0 : Int) = ((0 : Nat) : Int) from rfl, key, bnd_if]
    unfold F_spec_l9In_k2
    by_cases h : ∃ b ∈ bags, ∀ x ∈ s, x ∈ b
    · rw [if_neg (by simpa using h), decide_eq_true h]
    · rw [if_pos h, decide_eq_false h]
  · constructor
    · exact fun h k _ hk hh => h ⟨_, List.getElem_mem hk, hh⟩
    · rintro h ⟨b, hbm, hh⟩
      obtain ⟨k, hk, rfl⟩ := List.getElem_of_mem hbm
      exact h k hk hk hh
  · intro k hk _ hp
    simp only [F_spec_l9In_l1]
    rw [if_pos (by omega), idx_nat hk, cal_of (hpart _ (List.getElem_mem hk)), if_neg (by rw [decide_eq_true_iff]; exact hp hk), ck_of (inI (by omega) (by omega))]; rfl
  · intro k hk _ hp
    simp only [F_spec_l9In_l1]
    have : ∀ x ∈ s, x ∈ bags[k] := Classical.byContradiction fun h => hp fun _ => h
    rw [if_pos (by omega), idx_nat hk, cal_of (hpart _ (List.getElem_mem hk)), if_pos (decide_eq_true this)]
  · intro _
    simp only [F_spec_l9In_l1]
    rw [if_neg (by omega)]
theorem wide_idO (l : List Int) (h : l.length ≤ 1048576) : F_impl_wide l = some l := by
  unfold F_impl_wide
  rw [grd_of ⟨by omega, by unfold lim; omega⟩]
  have key : lp (fun s => F_impl_wide_l1 l s.1 s.2) (([] : List Int), 0) = some (.inl l) := by
    refine lp_map l (fun x => x) (fun k hk r hr => ?_) ?_
    · simp only [F_impl_wide_l1]
      rw [if_pos (by omega), idx_nat hk, app1_s (by omega), ck_of (inI (by omega) (by omega))]; rfl
    · simp only [F_impl_wide_l1]
      rw [if_neg (by omega), List.map_id']
  rw [bnd_l key]; rfl
/-- who is gone, told vertex by vertex -/
def goneL (n : Nat) (L : List Nat) : List Bool := (List.range n).map fun v => decide (v ∈ L)
theorem goneL_at {n : Nat} {L : List Nat} {v : Nat} (hv : v < n) {β : Type} (q : Bool → Option β) : idx (goneL n L) (v : Int) q = q (decide (v ∈ L)) := by
  rw [idx_nat (by simp [goneL]; exact hv)]; simp [goneL]
theorem goneL_set {n : Nat} {L : List Nat} {v : Nat} : (goneL n L).set v true = goneL n (L ++ [v]) := by
  unfold goneL
  refine List.ext_getElem (by simp) fun i h1 h2 => ?_
  rw [List.getElem_set, List.getElem_map, List.getElem_map, List.getElem_range]
  by_cases e : v = i
  · subst e; rw [if_pos rfl]; simp
  · rw [if_neg e]
    refine decide_eq_decide.2 ?_
    rw [List.mem_append, List.mem_singleton]
    exact ⟨.inl, fun h => h.elim id fun h => absurd h.symm e⟩
/-- the neighbours that are left -/
theorem l7Left_eq {g : List (List Int)} {n : Nat} {E : Nat → Nat → Prop} (h : Has g n E) (h16 : n ≤ 16) {v : Nat} (hv : v < n) (L : List Nat) : F_spec_l7Left g (v : Int) (goneL n L) = some ((g[v]'(by rw [h.len]; exact hv)).filter fun w => decide (w.toNat ∉ L)) := by
  have hl := h.len
  have hvl : v < g.length := by omega
  have hs := (h.small h16).2 _ (List.getElem_mem hvl)
  unfold F_spec_l7Left
  have key : lp (fun s => F_spec_l7Left_l1 g (v : Int) (goneL n L) s.1 s.2) (([] : List Int), 0) = some (.inl (g[v].filter fun w => decide (w.toNat ∉ L))) := by
    refine lp_upto (fun k => ((g[v].take k).filter fun w => decide (w.toNat ∉ L), (k : Int))) g[v].length (by simp) (fun k hk => ?_) ?_
    · simp only [F_spec_l7Left_l1]
      obtain ⟨w, ew, hw⟩ := (h.mem v hvl _).1 (List.getElem_mem hk)
      have hwn := (h.rng _ _ hw).2.1
      have hlen : ((g[v].take k).filter fun w => decide (w.toNat ∉ L)).length ≤ k := Nat.le_trans (List.length_filter_le ..) (by rw [List.length_take]; omega)
      rw [idx_nat hvl, if_pos (by omega), idx_nat hvl, idx_nat hk, ew, goneL_at hwn, filter_take_snoc hk, ew, Int.toNat_natCast]
      by_cases hwL : w ∈ L
      · rw [if_neg (by simp [hwL]), ck_of (inI (by omega) (by omega)), if_neg (by simp [hwL])]; simp
      · rw [if_pos (by simp [hwL]), idx_nat hvl, idx_nat hk, ew, app1_s (by omega), ck_of (inI (by omega) (by omega)), if_pos (by simp [hwL])]; rfl
    · simp only [F_spec_l7Left_l1]
      rw [idx_nat hvl, if_neg (by omega), List.take_length]
  rw [bnd_l key]; rfl
/-- all of a list made neighbours -/
theorem l7Clique_ex {g : List (List Int)} {n : Nat} {E : Nat → Nat → Prop} (h : Has g n E) (h16 : n ≤ 16) {S : List Nat} (hS : ∀ x ∈ S, x < n) (hn : S.Nodup) (hl16 : S.length ≤ 16) :
    ∃ g', F_spec_l7Clique g (ints S) = some g' ∧ Has g' n (fun a b => E a b ∨ (a ∈ S ∧ b ∈ S ∧ a ≠ b)) := by
  have hin : ∀ {β : Type} (i : Nat) (hi : i < S.length) (q : Int → Option β), idx (ints S) (i : Int) q = q (S[i] : Nat) := fun i hi q => by
    rw [idx_nat (by rw [ints_len]; exact hi), ints_get]
  have main := lp_ex (step := fun s => F_spec_l7Clique_l1 (ints S) s.1 s.2) (fun (k : Nat) (g' : List (List Int)) => (g', (k : Int))) S.length
    (fun k g' => Has g' n (fun a b => E a b ∨ (a ∈ S.take k ∧ b ∈ S.take k ∧ a ≠ b))) (fun o => ∃ g', o = .inl g' ∧ Has g' n (fun a b => E a b ∨ (a ∈ S ∧ b ∈ S ∧ a ≠ b))) ?_ ?_ S.length 0 g (by omega) (h.congr fun a b => by simp)
  · obtain ⟨o, e, g', rfl, hg'⟩ := main
    refine ⟨g', ?_, hg'⟩
    unfold F_spec_l7Clique
    rw [show ((0 : Nat) : Int) = 0 from rfl] at e
    rw [bnd_l e]; rfl
  · intro k g' hk hg'
    have hkS := hS _ (List.getElem_mem hk)
    have hkn : S[k] ∉ S.take k := fun hm => by
      obtain ⟨i, hi, e⟩ := List.mem_take_iff_getElem.1 hm
      have := (List.getElem_inj (h₀ := by omega) (h₁ := hk) hn).1 e
      omega
    have inner := lp_ex (step := fun s => F_spec_l7Clique_l2 (ints S) (k : Int) s.1 s.2) (fun (j : Nat) (g' : List (List Int)) => (g', (j : Int))) k
      (fun j g' => Has g' n (fun a b => (E a b ∨ (a ∈ S.take k ∧ b ∈ S.take k ∧ a ≠ b)) ∨ (a ∈ S.take j ∧ b = S[k]) ∨ (b ∈ S.take j ∧ a = S[k]))) (fun o => ∃ g', o = .inl g' ∧ Has g' n (fun a b => E a b ∨ (a ∈ S.take (k + 1) ∧ b ∈ S.take (k + 1) ∧ a ≠ b))) ?_ ?_ k 0 g' (by omega) (hg'.congr fun a b => by simp)
    · obtain ⟨o, e, g2, rfl, hg2⟩ := inner
      refine ⟨g2, ?_, hg2⟩
      simp only [F_spec_l7Clique_l1]
      rw [if_pos (by rw [ints_len]; omega)]
      rw [show ((0 : Nat) : Int) = 0 from rfl] at e
      rw [bnd_l e]
      unfold F_spec_l7Clique_k3
      rw [ck_of (inI (by omega) (by omega))]; rfl
    · intro j g2 hj hg2
      have hjl : j < S.length := by omega
      have hjS := hS _ (List.getElem_mem hjl)
      have hne : S[j] ≠ S[k] := fun e => by
        have := (List.getElem_inj (h₀ := hjl) (h₁ := hk) hn).1 e
        omega
      obtain ⟨g3, e3, hg3⟩ := link_ex hg2 h16 (u := S[j]) (v := S[k]) hjS hkS hne
      refine ⟨g3, ?_, hg3.congr fun a b => ?_⟩
      · simp only [F_spec_l7Clique_l2]
        rw [if_pos (by omega), hin j hjl, hin k hk, cal_of e3, ck_of (inI (by omega) (by omega))]; rfl
      · rw [take_succ_of hjl]
        simp only [List.mem_append, List.mem_singleton]
        constructor
        · rintro ((h1 | ⟨h1, h2⟩ | ⟨h1, h2⟩) | ⟨h1, h2⟩ | ⟨h1, h2⟩)
          · exact .inl h1
          · exact .inr (.inl ⟨.inl h1, h2⟩)
          · exact .inr (.inr ⟨.inl h1, h2⟩)
          · exact .inr (.inl ⟨.inr h1, h2⟩)
          · exact .inr (.inr ⟨.inr h2, h1⟩)
        · rintro (h1 | ⟨h1 | h1, h2⟩ | ⟨h1 | h1, h2⟩)
          · exact .inl (.inl h1)
          · exact .inl (.inr (.inl ⟨h1, h2⟩))
          · exact .inr (.inl ⟨h1, h2⟩)
          · exact .inl (.inr (.inr ⟨h1, h2⟩))
          · exact .inr (.inr ⟨h2, h1⟩)
    · intro g2 hg2
      simp only [F_spec_l7Clique_l2]
      rw [if_neg (by omega)]
      refine ⟨_, rfl, g2, rfl, hg2.congr fun a b => ?_⟩
      rw [take_succ_of hk]
      simp only [List.mem_append, List.mem_singleton]
      constructor
      · rintro ((h1 | ⟨h1, h2, h3⟩) | ⟨h1, h2⟩ | ⟨h1, h2⟩)
        · exact .inl h1
        · exact .inr ⟨.inl h1, .inl h2, h3⟩
        · exact .inr ⟨.inl h1, .inr h2, fun e => hkn (by rw [← h2, ← e]; exact h1)⟩
        · exact .inr ⟨.inr h2, .inl h1, fun e => hkn (by rw [← h2, e]; exact h1)⟩
      · rintro (h1 | ⟨h1 | h1, h2 | h2, h3⟩)
        · exact .inl (.inl h1)
        · exact .inl (.inr ⟨h1, h2, h3⟩)
        · exact .inr (.inl ⟨h1, h2⟩)
        · exact .inr (.inr ⟨h2, h1⟩)
        · exact absurd (h1.trans h2.symm) h3
  · intro g' hg'
    simp only [F_spec_l7Clique_l1]
    rw [if_neg (by rw [ints_len]; omega)]
    rw [List.take_length] at hg'
    exact ⟨_, rfl, g', rfl, hg'⟩
/-- what elimination makes of the neighbours' sets -/
def elimN (a : List Nat) (S : Nat) : List Nat := (List.range a.length).map fun u => if S.testBit u = true then a.getD u 0 ||| sdiff S (2 ^ u) else a.getD u 0
theorem elimN_get {a : List Nat} {S u : Nat} (h : u < (elimN a S).length) : (elimN a S)[u] = if S.testBit u = true then a.getD u 0 ||| sdiff S (2 ^ u) else a.getD u 0 := by simp [elimN]
theorem eliminate_eq {a : List Nat} (ha : a.length ≤ 16) (hb : ∀ v (h : v < a.length), a[v] < 2 ^ a.length) {m v : Nat} (hm : m < 2 ^ a.length) (hv : v < a.length) :
    F_impl_eliminate (bvs a) (BitVec.ofNat 32 m) (v : Int) = some (bvs (elimN a (sdiff (a.getD v 0 &&& m) (2 ^ v)))) := by
  have hp16 : 2 ^ a.length ≤ 2 ^ 16 := Nat.pow_le_pow_right (by decide) ha
  have hav := hb v hv
  have eav : a.getD v 0 = a[v] := by simp [hv]
  obtain ⟨S, hSe⟩ : ∃ S, S = sdiff (a.getD v 0 &&& m) (2 ^ v) := ⟨_, rfl⟩
  have hS : S < 2 ^ a.length := by rw [hSe]; exact sdiff_lt (and_lt (by rw [eav]; exact hav))
  have hS16 : S < 2 ^ 16 := Nat.lt_of_lt_of_le hS hp16
  have h2v : 2 ^ v < 2 ^ 16 := Nat.pow_lt_pow_right (by decide) (by omega)
  unfold F_impl_eliminate
  rw [idx_nat (by rw [bvs_len]; exact hv), bvs_get, cal_of (one_eq (by omega)), bv_and, bv_andn (Nat.lt_of_lt_of_le (and_lt hav) (by omega)), ← eav, ← hSe, cal_of (list_eq hS16)]
  let st : Nat → List Nat := fun k => (List.range a.length).map fun u => if u ∈ (els S).take k then a.getD u 0 ||| sdiff S (2 ^ u) else a.getD u 0
  have stl : ∀ k, (st k).length = a.length := fun k => by simp [st]
  have stg : ∀ k u (h : u < (st k).length), (st k)[u] = if u ∈ (els S).take k then a.getD u 0 ||| sdiff S (2 ^ u) else a.getD u 0 := fun k u h => by simp [st]
  have st0 : st 0 = a := by
    refine List.ext_getElem (by simp [st]) fun u h1 h2 => ?_
    rw [stg]; simp [h2]
  have key : lp (fun s => F_impl_eliminate_l1 (BitVec.ofNat 32 m) (BitVec.ofNat 32 (a.getD v 0)) (BitVec.ofNat 32 (2 ^ v)) (ints (els S)) s.1 s.2) (bvs a, 0) = some (.inl (bvs (st (els S).length))) := by
    refine lp_upto (fun k => (bvs (st k), (k : Int))) (els S).length (by rw [st0]; rfl) (fun k hk => ?_) ?_
    · simp only [F_impl_eliminate_l1]
      have hel16 := els_len_le S
      have hb2 := els_bit (List.getElem_mem hk)
      have hun := bit_lt hS hb2
      have hnot : (els S)[k] ∉ (els S).take k := fun hm => by
        obtain ⟨i, hi, e⟩ := List.mem_take_iff_getElem.1 hm
        have := (List.getElem_inj (h₀ := by omega) (h₁ := hk) (els_nodup S)).1 e
        omega
      have hul : (els S)[k] < (bvs (st k)).length := by rw [bvs_len, stl]; exact hun
      rw [if_pos (by rw [ints_len]; omega), idx_nat (by rw [ints_len]; exact hk), ints_get, idx_nat hul, cal_of (one_eq (by omega)), idx_nat hul, ck_of (inI (by omega) (by omega)), bvs_get, stg, if_neg hnot, bv_and, bv_andn (by rw [eav]; exact Nat.lt_of_lt_of_le (and_lt hav) (by omega)), ← hSe, bv_andn (by omega), bv_or, Int.toNat_natCast, bvs_put]
      refine inl_eq (pair_eq (congrArg bvs ?_) rfl)
      refine List.ext_getElem (by simp [stl]) fun u h1 h2 => ?_
      rw [List.getElem_set, stg, stg, take_succ_of hk]
      by_cases e : (els S)[k] = u
      · rw [if_pos e, if_pos (by simp [e]), e]
      · rw [if_neg e]
        simp only [List.mem_append, List.mem_singleton]
        by_cases h3 : u ∈ (els S).take k
        · rw [if_pos h3, if_pos (.inl h3)]
        · rw [if_neg h3, if_neg (fun h => h.elim h3 fun h => e h.symm)]
    · simp only [F_impl_eliminate_l1]
      rw [if_neg (by rw [ints_len]; omega)]
  rw [bnd_l key]
  unfold F_impl_eliminate_k2 elimN
  refine congrArg (fun x => some (bvs x)) ?_
  refine List.map_congr_left fun u _ => ?_
  rw [List.take_length]
  by_cases h : S.testBit u = true
  · rw [if_pos ((mem_els hS16).2 h), if_pos h]
  · rw [if_neg fun h2 => h ((mem_els hS16).1 h2), if_neg h]
/-- the set of those that are left -/
def leftm (n : Nat) (L : List Nat) : Nat := mk (ints ((List.range n).filter fun v => decide (v ∉ L)))
theorem leftm_bit {n : Nat} {L : List Nat} {v : Nat} : (leftm n L).testBit v = true ↔ v < n ∧ v ∉ L := by
  unfold leftm
  rw [mk_bit, decide_eq_true_iff]
  unfold ints
  constructor
  · rintro ⟨x, hx, rfl⟩
    obtain ⟨u, hu, rfl⟩ := List.mem_map.1 hx
    obtain ⟨h1, h2⟩ := List.mem_filter.1 hu
    simp only [Int.toNat_natCast]
    exact ⟨List.mem_range.1 h1, of_decide_eq_true h2⟩
  · rintro ⟨h1, h2⟩
    exact ⟨(v : Int), List.mem_map.2 ⟨v, List.mem_filter.2 ⟨List.mem_range.2 h1, decide_eq_true h2⟩, rfl⟩, by simp⟩
theorem leftm_lt (n : Nat) (L : List Nat) : leftm n L < 2 ^ n := by
  refine Nat.lt_pow_two_of_testBit _ fun j hj => ?_
  rcases h : (leftm n L).testBit j with _ | _
  · rfl
  · have := (leftm_bit.1 h).1; omega
theorem leftm_snoc {n : Nat} {L : List Nat} {v : Nat} : sdiff (leftm n L) (2 ^ v) = leftm n (L ++ [v]) := by
  refine bits_ext fun j => ?_
  rw [Bool.eq_iff_iff, sdiff_bit, Bool.and_eq_true, leftm_bit, leftm_bit, Nat.testBit_two_pow]
  simp only [List.mem_append, List.mem_singleton]
  constructor
  · rintro ⟨⟨h1, h2⟩, h3⟩
    exact ⟨h1, fun h => h.elim h2 fun h => by subst h; simp at h3⟩
  · rintro ⟨h1, h2⟩
    refine ⟨⟨h1, fun h => h2 (.inl h)⟩, ?_⟩
    have : ¬ v = j := fun e => h2 (.inr e.symm)
    simp [this]
/-- may v go? some bag has it and all its neighbours that are left -/
def MayGo (bags : List (List Int)) (n : Nat) (E : Nat → Nat → Prop) (L : List Nat) (v : Nat) : Prop := v < n ∧ v ∉ L ∧ ∃ b ∈ bags, (v : Int) ∈ b ∧ ∀ u, u ∉ L → E v u → (u : Int) ∈ b
theorem may_ex {g bags links : List (List Int)} (hd : DecOk g bags links) {E : Nat → Nat → Prop} (hr : ∀ u v, E u v → u < g.length ∧ v < g.length ∧ u ≠ v ∧ E v u) {L : List Nat} (hL : L.length < g.length) (hT : ∀ u w, u ∉ L → w ∉ L → E u w → Together bags u w) : ∃ v, MayGo bags g.length E L v := by
  have hne : ((List.range g.length).filter fun v => decide (v ∉ L)) ≠ [] := fun e => by
    have := nodup_subG (l := List.range g.length) (m := L) List.nodup_range fun z hz => Classical.byContradiction fun h2 => by
      have : z ∈ ((List.range g.length).filter fun v => decide (v ∉ L)) := List.mem_filter.2 ⟨hz, decide_eq_true h2⟩
      rw [e] at this; cases this
    rw [List.length_range] at this; omega
  obtain ⟨v, hv, b, hb, hvb, hall⟩ := leaf_ex hd.n1 hd.n16 hd.lk hd.many hd.tree hne fun v hv => hd.whole v (List.mem_range.1 (List.mem_filter.1 hv).1)
  have hv' := List.mem_filter.1 hv
  have hvL : v ∉ L := of_decide_eq_true hv'.2
  refine ⟨v, List.mem_range.1 hv'.1, hvL, b, hb, hvb, fun u hu hE => hall u (List.mem_filter.2 ⟨List.mem_range.2 (hr _ _ hE).2.1, decide_eq_true hu⟩) (hT u v hu hvL (hr _ _ hE).2.2.2)⟩
theorem getD_bv {l : List (BitVec 32)} {i : Nat} {h : i < l.length} : l.getD i 0#32 = l[i] := by simp [h]
open Classical in
/-- both loops, from the same state on -/
theorem orderBy_rounds {g bags links : List (List Int)} (hd : DecOk g bags links) : ∀ (m : Nat) (L : List Nat) (now : List (List Int)) (E : Nat → Nat → Prop), L.length + m = g.length → L.Nodup → (∀ x ∈ L, x < g.length) → Has now g.length E → (∀ u w, u ∉ L → w ∉ L → E u w → Together bags u w) →
    ∃ Lf : List Nat, Lf.length = g.length ∧ lp (fun s => F_spec_OrderBy_l1 g bags links s.1 s.2.1 s.2.2) (ints L, now, goneL g.length L) = some (.inl (ints Lf)) ∧
      lp (fun s => F_impl_OrderBy_l1 (bvs (bags.map mk)) s.1 s.2.1 s.2.2) (bvs (nb now), ints L, BitVec.ofNat 32 (leftm g.length L)) = some (.inl (ints Lf))
  | 0, L, now, E, hl, hn, hlt, hH, hT => by
    have h16 := hd.graph.n16
    refine ⟨L, by omega, lp_inr ?_, lp_inr ?_⟩
    · simp only [F_spec_OrderBy_l1]
      unfold F_spec_l1Size
      rw [cal_some_eq, if_neg (by rw [ints_len]; omega)]
    · simp only [F_impl_OrderBy_l1]
      have hz : leftm g.length L = 0 := bits_ext fun j => by
        rw [Nat.zero_testBit, Bool.eq_false_iff]
        intro h
        obtain ⟨h1, h2⟩ := leftm_bit.1 h
        have := nodup_subG (l := j :: L) (m := List.range g.length) (List.nodup_cons.2 ⟨h2, hn⟩) fun z hz => by
          rcases List.mem_cons.1 hz with rfl | hz
          · exact List.mem_range.2 h1
          · exact List.mem_range.2 (hlt z hz)
        rw [List.length_cons, List.length_range] at this; omega
      rw [hz, if_neg (by simp)]
  | m + 1, L, now, E, hl, hn, hlt, hH, hT => by
    have hg := hd.graph
    have h16 := hg.n16
    have hp0 := Nat.two_pow_pos g.length
    have hp16 : 2 ^ g.length ≤ 2 ^ 16 := Nat.pow_le_pow_right (by decide) h16
    have hnow := hH.len
    have hGn := hH.gok (by have := hg.n1; omega) h16
    have hsm := (hH.small h16).2
    have hbl := hd.n16
    have hbr : ∀ x ∈ bags, x.length ≤ 1048576 := fun x hx => by have := (hd.rows x hx).len16 h16; omega
    have hnl := nb_len now
    have hlm := leftm_lt g.length L
    obtain ⟨v, hv, hvleast⟩ := least_of (may_ex hd hH.rng (show L.length < g.length by omega) hT)
    obtain ⟨hvn, hvL, b0, hb0, hvb0, hb0all⟩ := hv
    have hvnow : v < now.length := by omega
    -- the neighbours that are left
    let S : List Nat := (els ((nb now).getD v 0)).filter fun u => decide (u ∉ L)
    have hrow : ∀ i (h : i < now.length), (now[i].filter fun w => decide (w.toNat ∉ L)) = ints ((els ((nb now).getD i 0)).filter fun u => decide (u ∉ L)) := fun i h => by
      rw [nb_getD h]
      conv => lhs; rw [row_els hGn h]
      unfold ints
      rw [List.filter_map]
      rfl
    have hmemS : ∀ i, i < g.length → ∀ u, u ∈ ((els ((nb now).getD i 0)).filter fun u => decide (u ∉ L)) ↔ E i u ∧ u ∉ L := fun i hi u => by
      have hlt16 : (nb now).getD i 0 < 2 ^ 16 := by
        rw [nb_getD (by omega)]; exact Nat.lt_of_lt_of_le (by have := (hH.row (v := i) (by omega)).lt; exact this) hp16
      rw [List.mem_filter, mem_els hlt16, hH.bit hi, decide_eq_true_iff]
    have hcov : ∀ i, i < g.length → i ∉ L → ((∃ b ∈ bags, ∀ x : Int, (x ∈ ints ((els ((nb now).getD i 0)).filter fun u => decide (u ∉ L)) ∨ x = i) → x ∈ b) ↔ MayGo bags g.length E L i) := fun i hi hiL => by
      constructor
      · rintro ⟨b, hb, h⟩
        exact ⟨hi, hiL, b, hb, h i (.inr rfl), fun u hu hE => h u (.inl (mem_ints.2 ((hmemS i hi u).2 ⟨hE, hu⟩)))⟩
      · rintro ⟨_, _, b, hb, h1, h2⟩
        refine ⟨b, hb, fun x hx => ?_⟩
        rcases hx with hx | rfl
        · unfold ints at hx
          obtain ⟨u, hu, rfl⟩ := List.mem_map.1 hx
          obtain ⟨h3, h4⟩ := (hmemS i hi u).1 hu
          exact h2 u h4 h3
        · exact h1
    -- the reference's search
    have hask : ∀ i, i < g.length → i ∉ L → ∃ r, F_spec_l7Left now (i : Int) (goneL g.length L) = some (ints ((els ((nb now).getD i 0)).filter fun u => decide (u ∉ L))) ∧ F_spec_l1Into (ints ((els ((nb now).getD i 0)).filter fun u => decide (u ∉ L))) (i : Int) = some r ∧ F_spec_l9In bags links r = some (decide (MayGo bags g.length E L i)) := fun i hi hiL => by
      have hel := els_len_le ((nb now).getD i 0)
      have hfl : ((els ((nb now).getD i 0)).filter fun u => decide (u ∉ L)).length ≤ 16 := Nat.le_trans (List.length_filter_le ..) hel
      obtain ⟨r, e1, e2, e3⟩ := into_any (l := ints ((els ((nb now).getD i 0)).filter fun u => decide (u ∉ L))) (i : Int) (by rw [ints_len]; omega) (by unfold ints; exact List.Pairwise.map _ (fun a b h => by omega) ((els_sorted _).filter _))
      refine ⟨r, by rw [l7Left_eq hH h16 hi, hrow i (by omega)], e1, ?_⟩
      have hrl : r.length ≤ 1048576 := by
        have := nodup_subG (l := r) (m := (i : Int) :: ints ((els ((nb now).getD i 0)).filter fun u => decide (u ∉ L))) (e3.imp fun h => by omega) fun z hz => by
          rcases (e2 z).1 hz with h | h
          · exact List.mem_cons_of_mem _ h
          · rw [h]; exact List.mem_cons_self ..
        rw [List.length_cons, ints_len] at this; omega
      rw [l9In_gen (by omega) hbr hrl]
      refine congrArg some (decide_eq_decide.2 ?_)
      rw [← hcov i hi hiL]
      exact ⟨fun ⟨b, hb, h⟩ => ⟨b, hb, fun x hx => h x ((e2 x).2 hx)⟩, fun ⟨b, hb, h⟩ => ⟨b, hb, fun x hx => h x ((e2 x).1 hx)⟩⟩
    have hsearch : lp (fun s => F_spec_OrderBy_l2 bags links (goneL g.length L) s.1 s.2) (now, 0) = some (.inl (now, (v : Int))) := by
      refine lp_upto (fun i => (now, (i : Int))) v rfl (fun i hi => ?_) ?_
      · simp only [F_spec_OrderBy_l2]
        rw [goneL_at (by omega)]
        by_cases hiL : i ∈ L
        · rw [if_pos (by simp [hiL]), ck_of (inI (by omega) (by omega))]; rfl
        · obtain ⟨r, e1, e2, e3⟩ := hask i (by omega) hiL
          have hno : ¬ MayGo bags g.length E L i := fun h => by have := hvleast i h; omega
          rw [if_neg (by simp [hiL]), cal_of e1, cal_of e2, cal_of e3, if_pos (by simp [hno]), ck_of (inI (by omega) (by omega))]; rfl
      · simp only [F_spec_OrderBy_l2]
        obtain ⟨r, e1, e2, e3⟩ := hask v hvn hvL
        have hyes : MayGo bags g.length E L v := ⟨hvn, hvL, b0, hb0, hvb0, hb0all⟩
        rw [goneL_at hvn, if_neg (by simp [hvL]), cal_of e1, cal_of e2, cal_of e3, if_neg (by simp [hyes])]
    have hSn : S.Nodup := (els_nodup _).filter _
    have hSl : S.length ≤ 16 := Nat.le_trans (List.length_filter_le ..) (els_len_le _)
    have hSm : ∀ u, u ∈ S ↔ E v u ∧ u ∉ L := hmemS v hvn
    have hSlt : ∀ x ∈ S, x < g.length := fun x hx => (hH.rng _ _ ((hSm x).1 hx).1).2.1
    obtain ⟨now', e4, hH'⟩ := l7Clique_ex hH h16 hSlt hSn hSl
    have hleft2 : F_spec_l7Left now (v : Int) (goneL g.length (L ++ [v])) = some (ints S) := by
      rw [l7Left_eq hH h16 hvn]
      refine congrArg some ?_
      rw [← hrow v hvnow]
      refine List.filter_congr fun w hw => ?_
      obtain ⟨u, rfl, hE⟩ := (hH.mem v hvnow w).1 hw
      have hne := (hH.rng _ _ hE).2.2.1
      simp only [Int.toNat_natCast]
      refine decide_eq_decide.2 ?_
      rw [List.mem_append, List.mem_singleton]
      exact ⟨fun h h2 => h (.inl h2), fun h h2 => h2.elim h fun h3 => hne h3.symm⟩
    -- the program's search
    have hbk : ∀ b ∈ bags, mk b < 2 ^ 16 := fun b hb => Nat.lt_of_lt_of_le (hd.rows b hb).lt hp16
    have hnbl : ∀ i (h : i < (nb now).length), (nb now)[i] < 2 ^ (nb now).length := fun i h => by
      have := nb_lt hGn h; rw [hnl]; exact this
    have htest : ∀ i, i < g.length → i ∉ L → F_slices_ContainsFunc_implvset (bvs (bags.map mk)) (fun (z1318 : BitVec 32) => F_impl_OrderBy_1 z1318 (((bvs (nb now)).getD i 0#32 &&& BitVec.ofNat 32 (leftm g.length L)) ||| BitVec.ofNat 32 (2 ^ i))) = some (decide (MayGo bags g.length E L i)) := fun i hi hiL => by
      have hi2 : i < (nb now).length := by omega
      have hni := hnbl i hi2
      rw [hnl, hnow] at hni
      have h2i : 2 ^ i < 2 ^ g.length := Nat.pow_lt_pow_right (by decide) hi
      have hwl : ((nb now)[i] &&& leftm g.length L) ||| 2 ^ i < 2 ^ g.length := or_lt (and_lt hni) h2i
      rw [show (bvs (nb now)).getD i 0#32 = BitVec.ofNat 32 (nb now)[i] by simp [bvs, hi2], bv_and, bv_or]
      rw [hasF_impl_vset _ (fun z => F_impl_OrderBy_1 z (BitVec.ofNat 32 (((nb now)[i] &&& leftm g.length L) ||| 2 ^ i))) (fun z => decide ((BitVec.ofNat 32 (((nb now)[i] &&& leftm g.length L) ||| 2 ^ i) &&& ~~~z) = (0#32))) (by rw [bvs_len, List.length_map]; omega) (fun x hx => rfl)]
      refine congrArg some ?_
      rw [Bool.eq_iff_iff, List.any_eq_true, decide_eq_true_iff, ← hcov i hi hiL]
      have hbits : ∀ b ∈ bags, (BitVec.ofNat 32 (((nb now)[i] &&& leftm g.length L) ||| 2 ^ i) &&& ~~~ BitVec.ofNat 32 (mk b) = (0#32) ↔ ∀ x : Int, (x ∈ ints ((els ((nb now).getD i 0)).filter fun u => decide (u ∉ L)) ∨ x = i) → x ∈ b) := fun b hb => by
        have hm := hd.rows b hb
        rw [bv_andn (by omega), show (0#32) = BitVec.ofNat 32 0 from rfl, bv_inj (Nat.lt_of_le_of_lt (sdiff_le _ _) (by omega)) (by decide)]
        have hmb : ∀ u : Nat, (mk b).testBit u = true ↔ (u : Int) ∈ b := fun u => by
          rw [mk_mem (fun z hz => (hm.mem hz).1), decide_eq_true_iff]
        have hwb : ∀ u : Nat, (((nb now)[i] &&& leftm g.length L) ||| 2 ^ i).testBit u = true ↔ (E i u ∧ u ∉ L) ∨ u = i := fun u => by
          rw [setbit_bit, Bool.or_eq_true, Nat.testBit_and, Bool.and_eq_true, decide_eq_true_iff, leftm_bit, show (nb now)[i] = (nb now).getD i 0 by simp [hi2], hH.bit hi]
          constructor
          · rintro (⟨h1, h2, h3⟩ | h)
            · exact .inl ⟨h1, h3⟩
            · exact .inr h.symm
          · rintro (⟨h1, h3⟩ | h)
            · exact .inl ⟨h1, (hH.rng _ _ h1).2.1, h3⟩
            · exact .inr h.symm
        constructor
        · intro h x hx
          obtain ⟨u, rfl, hu⟩ : ∃ u : Nat, x = u ∧ ((E i u ∧ u ∉ L) ∨ u = i) := by
            rcases hx with hx | rfl
            · unfold ints at hx
              obtain ⟨u, hu, rfl⟩ := List.mem_map.1 hx
              exact ⟨u, rfl, .inl ((hmemS i hi u).1 hu)⟩
            · exact ⟨i, rfl, .inr rfl⟩
          have h5 := congrArg (fun q => q.testBit u) h
          simp only [sdiff_bit, Nat.zero_testBit, (hwb u).2 hu, Bool.true_and] at h5
          rw [← hmb]; simpa using h5
        · intro h
          refine bits_ext fun u => ?_
          rw [sdiff_bit, Nat.zero_testBit]
          rcases h6 : (((nb now)[i] &&& leftm g.length L) ||| 2 ^ i).testBit u with _ | _
          · rfl
          · have h7 := (hwb u).1 h6
            have : (u : Int) ∈ b := by
              refine h u ?_
              rcases h7 with ⟨h8, h9⟩ | h8
              · exact .inl (mem_ints.2 ((hmemS i hi u).2 ⟨h8, h9⟩))
              · exact .inr (by rw [h8])
            rw [(hmb u).2 this]; rfl
      constructor
      · rintro ⟨z, hz, hp⟩
        unfold bvs at hz
        obtain ⟨y, hy, rfl⟩ := List.mem_map.1 hz
        obtain ⟨b, hb, rfl⟩ := List.mem_map.1 hy
        exact ⟨b, hb, (hbits b hb).1 (of_decide_eq_true hp)⟩
      · rintro ⟨b, hb, h⟩
        exact ⟨BitVec.ofNat 32 (mk b), by unfold bvs; exact List.mem_map.2 ⟨mk b, List.mem_map.2 ⟨b, hb, rfl⟩, rfl⟩, decide_eq_true ((hbits b hb).2 h)⟩
    have hlm16 : leftm g.length L < 2 ^ 16 := by omega
    have hvin : v ∈ els (leftm g.length L) := (mem_els hlm16).2 (leftm_bit.2 ⟨hvn, hvL⟩)
    obtain ⟨p, hp, hpv⟩ := List.getElem_of_mem hvin
    have hfind : lp (fun s => F_impl_OrderBy_l2 (bvs (bags.map mk)) (bvs (nb now)) (BitVec.ofNat 32 (leftm g.length L)) (ints (els (leftm g.length L))) s) 0 = some (.inl (v : Int)) := by
      refine lp_upto (fun k => (k : Int)) p rfl (fun k hk => ?_) ?_
      · simp only [F_impl_OrderBy_l2]
        have hkl : k < (els (leftm g.length L)).length := by omega
        have hel16 := els_len_le (leftm g.length L)
        have hb2 := leftm_bit.1 (els_bit (List.getElem_mem hkl))
        have hlt2 : (els (leftm g.length L))[k] < v := by rw [← hpv]; exact List.pairwise_iff_getElem.1 (els_sorted _) k p hkl hp hk
        have hno : ¬ MayGo bags g.length E L (els (leftm g.length L))[k] := fun h => by have := hvleast _ h; omega
        rw [if_pos (by rw [ints_len]; omega), idx_nat (by rw [ints_len]; exact hkl), ints_get, idx_nat (by rw [bvs_len]; have := hb2.1; omega), ← getD_bv, cal_of (one_eq (by have := hb2.1; omega)), cal_of (htest _ hb2.1 hb2.2), if_neg (by simp [hno]), ck_of (inI (by omega) (by omega))]; rfl
      · simp only [F_impl_OrderBy_l2]
        have hyes : MayGo bags g.length E L v := ⟨hvn, hvL, b0, hb0, hvb0, hb0all⟩
        have ht := htest v hvn hvL
        rw [if_pos (by rw [ints_len]; omega), idx_nat (by rw [ints_len]; exact hp), ints_get, hpv, idx_nat (by rw [bvs_len]; omega), ← getD_bv, cal_of (one_eq (by omega)), cal_of ht, if_pos (by simp [hyes])]
    -- both graphs are one again
    have hel : nb now' = elimN (nb now) (sdiff ((nb now).getD v 0 &&& leftm g.length L) (2 ^ v)) := by
      have hl' := hH'.len
      have hSb : ∀ u, (sdiff ((nb now).getD v 0 &&& leftm g.length L) (2 ^ v)).testBit u = true ↔ u ∈ S := fun u => by
        rw [delbit_bit, Bool.and_eq_true, Nat.testBit_and, Bool.and_eq_true, hH.bit hvn, leftm_bit, hSm]
        constructor
        · rintro ⟨⟨h1, _, h2⟩, _⟩; exact ⟨h1, h2⟩
        · rintro ⟨h1, h2⟩
          have h3 := hH.rng _ _ h1
          exact ⟨⟨h1, h3.2.1, h2⟩, by simp; exact h3.2.2.1⟩
      refine List.ext_getElem (by rw [nb_len, elimN, List.length_map, List.length_range, hnl]; omega) fun u h1 h2 => ?_
      have hun : u < g.length := by rw [nb_len] at h1; omega
      refine bits_ext fun j => ?_
      rw [Bool.eq_iff_iff, show (nb now')[u] = (nb now').getD u 0 by simp [h1], hH'.bit hun]
      rw [elimN_get]
      by_cases huS : u ∈ S
      · rw [if_pos ((hSb u).2 huS), Nat.testBit_or, Bool.or_eq_true, hH.bit hun, delbit_bit, Bool.and_eq_true, hSb]
        constructor
        · rintro (h | ⟨_, h3, h4⟩)
          · exact .inl h
          · exact .inr ⟨h3, by simp [h4]⟩
        · rintro (h | ⟨h3, h4⟩)
          · exact .inl h
          · exact .inr ⟨huS, h3, by simpa using h4⟩
      · rw [if_neg fun h => huS ((hSb u).1 h), hH.bit hun]
        exact ⟨fun h => h.elim id fun h => absurd h.1 huS, .inl⟩
    obtain ⟨Lf, hLf, hs', hi'⟩ := orderBy_rounds hd m (L ++ [v]) now' _ (by simp; omega) (by
      rw [List.nodup_append]; exact ⟨hn, by simp, fun a ha b hb e => hvL (by rw [List.mem_singleton.1 hb] at e; exact e ▸ ha)⟩) (fun x hx => by
      rcases List.mem_append.1 hx with h | h
      · exact hlt x h
      · rw [List.mem_singleton.1 h]; exact hvn) hH' (fun u w hu hw hE => by
      rw [List.mem_append, List.mem_singleton] at hu hw
      rcases hE with h | ⟨h3, h4, _⟩
      · exact hT u w (fun h => hu (.inl h)) (fun h => hw (.inl h)) h
      · obtain ⟨h5, h6⟩ := (hSm u).1 h3
        obtain ⟨h7, h8⟩ := (hSm w).1 h4
        exact ⟨b0, hb0, hb0all u h6 h5, hb0all w h8 h7⟩)
    refine ⟨Lf, hLf, ?_, ?_⟩
    · rw [← hs']
      refine lp_inl ?_
      simp only [F_spec_OrderBy_l1]
      unfold F_spec_l1Size
      rw [cal_some_eq, if_pos (by rw [ints_len]; omega), bnd_l hsearch]
      unfold F_spec_OrderBy_k3
      rw [goneL_at hvn, Int.toNat_natCast, goneL_set, cal_of hleft2, cal_of e4, app1_s (by rw [ints_len]; omega), ints_snoc]
    · rw [← hi']
      refine lp_inl ?_
      simp only [F_impl_OrderBy_l1]
      have hne0 : leftm g.length L ≠ 0 := fun e => by
        have := leftm_bit.2 ⟨hvn, hvL⟩
        rw [e, Nat.zero_testBit] at this; cases this
      have hEl := eliminate_eq (a := nb now) (by omega) hnbl (m := leftm g.length L) (v := v) (by rw [hnl, hnow]; exact hlm) (by omega)
      rw [if_pos (by
        rw [show (0#32) = BitVec.ofNat 32 0 from rfl, Ne, bv_inj (by omega) (by decide)]; exact hne0), cal_of (list_eq hlm16), bnd_l hfind]
      unfold F_impl_OrderBy_k3
      rw [if_neg (by omega), cal_of hEl, cal_of (one_eq (by omega)), app1_s (by rw [ints_len]; omega), ints_snoc, bv_andn (by omega), leftm_snoc, hel]
open Classical in
noncomputable def resOrderBy (g bags links : List (List Int)) : List Int := if h : DecOk g bags links then ints (orderBy_rounds h g.length [] g (Ed g) (by simp) List.nodup_nil (by simp) h.graph.has (fun u w _ _ hE => h.edges u hE.1 w hE.2)).choose else []
theorem resOrderBy_small (g bags links : List (List Int)) (hgl : g.length ≤ 1048576) : (resOrderBy g bags links).length ≤ 1048576 := by
  unfold resOrderBy
  split
  · rename_i h
    rw [ints_len]
    have := (orderBy_rounds h g.length [] g (Ed g) (by simp) List.nodup_nil (by simp) h.graph.has (fun u w _ _ hE => h.edges u hE.1 w hE.2)).choose_spec.1
    omega
  · simp
theorem specOrderBy_eq (g bags links : List (List Int)) (hgl : g.length ≤ 1048576) (hl : ∀ x ∈ g, x.length ≤ 1048576) (hb : bags.length ≤ 1048576) (hbr : ∀ x ∈ bags, x.length ≤ 1048576) (hll : links.length ≤ 1048576) (hlr : ∀ x ∈ links, x.length ≤ 1048576) : F_spec_OrderBy g bags links = some (resOrderBy g bags links) := by
  unfold F_spec_OrderBy resOrderBy
  rw [cal_of (specDecompOk_eq g bags links hgl hl hb hbr hll hlr)]
  by_cases hd : DecOk g bags links
  case neg => rw [if_pos (by simp [hd]), dif_neg hd]
  have h16 := hd.graph.n16
  obtain ⟨_, hs, _⟩ := (orderBy_rounds hd g.length [] g (Ed g) (by simp) List.nodup_nil (by simp) hd.graph.has (fun u w _ _ hE => hd.edges u hE.1 w hE.2)).choose_spec
  rw [if_neg (by simp [hd]), dif_pos hd, cal_of (l1CopyGraph_eqG hgl hl)]
  unfold F_spec_l1Size
  rw [cal_some_eq, mkS_of (by omega) (by unfold lim; omega), Int.toNat_natCast]
  have e0 : List.replicate g.length false = goneL g.length [] := by
    unfold goneL
    refine List.ext_getElem (by simp) fun i h1 h2 => by simp
  rw [e0]
  have hs' : lp (fun s => F_spec_OrderBy_l1 g bags links s.1 s.2.1 s.2.2) (([] : List Int), g, goneL g.length []) = _ := hs
  rw [bnd_l hs']; rfl
theorem implOrderBy_eq (g bags links : List (List Int)) (hgl : g.length ≤ 1048576) (hl : ∀ x ∈ g, x.length ≤ 1048576) (hb : bags.length ≤ 1048576) (hbr : ∀ x ∈ bags, x.length ≤ 1048576) (hll : links.length ≤ 1048576) (hlr : ∀ x ∈ links, x.length ≤ 1048576) : F_impl_OrderBy g bags links = some (resOrderBy g bags links) := by
  unfold F_impl_OrderBy resOrderBy
  rw [cal_of (implDecompOk_eq g bags links hgl hl hb hbr hll hlr)]
  by_cases hd : DecOk g bags links
  case neg => rw [if_pos (by simp [hd]), dif_neg hd]
  have h16 := hd.graph.n16
  have hnl := nb_len g
  have hsp := (orderBy_rounds hd g.length [] g (Ed g) (by simp) List.nodup_nil (by simp) hd.graph.has (fun u w _ _ hE => hd.edges u hE.1 w hE.2)).choose_spec
  rw [if_neg (by simp [hd]), dif_pos hd, cal_of (netsOf_eq hd.graph), cal_of (bagMasks_eq hb (fun b hbm v hv => by have := (hd.rows b hbm).mem hv; omega) hbr), cal_of (all_eq (by omega))]
  have e0 : 2 ^ (nb g).length - 1 = leftm g.length [] := bits_ext fun j => by
    rw [hnl, Bool.eq_iff_iff, Nat.testBit_two_pow_sub_one, leftm_bit]; simp
  rw [e0]
  obtain ⟨hsl, _, hi⟩ := hsp
  have hi' : lp (fun s => F_impl_OrderBy_l1 (bvs (bags.map mk)) s.1 s.2.1 s.2.2) (bvs (nb g), ([] : List Int), BitVec.ofNat 32 (leftm g.length [])) = _ := hi
  rw [bnd_l hi']
  unfold F_impl_OrderBy_k4
  rw [cal_of (wide_idO _ (by rw [ints_len]; omega))]
theorem T_FnExactOrderBy (g : List (List Int)) (hg : Sz.ok g) (d : List (List Int) × List (List Int)) (hd : Sz.ok d) : F_laws_FnExactOrderBy g d.1 d.2 = some true := by
  unfold F_laws_FnExactOrderBy
  obtain ⟨m0, hm0, h0⟩ := szGraph_eq g 1048576 (by omega) (by omega) hg
  rw [cal_of hm0]
  rcases h0 with h0 | ⟨b0, e0, l0, r0⟩
  · rw [if_pos h0]
  rw [if_neg (by omega)]
  unfold F_laws_szDecomp
  obtain ⟨m1, hm1, h1⟩ := szInt64SS_eq d.1 m0 (by omega) (by omega) hd.1
  rw [cal_of hm1]
  rcases h1 with h1 | ⟨b1, e1, l1, r1⟩
  · rw [if_pos h1, cal_some_eq, if_pos (by decide)]
  rw [if_neg (by omega)]
  obtain ⟨m2, hm2, h2⟩ := szInt64SS_eq d.2 m1 (by omega) (by omega) hd.2
  rw [cal_of hm2]
  rcases h2 with h2 | ⟨b2, e2, l2, r2⟩
  · rw [if_pos h2, cal_some_eq, if_pos (by decide)]
  rw [if_neg (by omega), cal_some_eq, if_neg (by omega)]
  have hto : F_laws_toDecomp d.1 d.2 = some (d.1, d.2) := by
    unfold F_laws_toDecomp
    rw [cal_of (toInt64SS_eq d.1 (by omega) (fun x hx => by have := r1 x hx; omega)), cal_of (toInt64SS_eq d.2 (by omega) (fun x hx => by have := r2 x hx; omega))]
  have heq : F_laws_eqDecomp d.1 d.2 d.1 d.2 = some true := by
    unfold F_laws_eqDecomp
    rw [cal_of (eqInt64SS_eq d.1 d.1 (by omega) (fun x hx => by have := r1 x hx; omega)), if_neg (by simp), cal_of (eqInt64SS_eq d.2 d.2 (by omega) (fun x hx => by have := r2 x hx; omega)), if_neg (by simp)]
  have hS := specOrderBy_eq g d.1 d.2 l0 r0 l1 r1 l2 r2
  have hI := implOrderBy_eq g d.1 d.2 l0 r0 l1 r1 l2 r2
  have hB := resOrderBy_small g d.1 d.2 l0
  generalize resOrderBy g d.1 d.2 = R at hS hI hB
  have heR : F_laws_eqInt64S R R = some true := by rw [eqInt64S_eq R R (by omega)]; simp
  obtain ⟨k0, q0, hk0⟩ : ∃ k : Int, ∃ q, F_laws_markGraph g 1 = some (k, q) ∧ 0 ≤ k ∧ k ≤ 1 + 1099511627776 := by
    have hsum := sumLen_le (n := 1048576) r0
    have : sumLen g ≤ 1048576 * 1048576 := Nat.le_trans hsum (Nat.mul_le_mul_right _ l0)
    exact ⟨_, _, markGraph_eq g 1 l0 r0 (by omega) (by omega), by omega, by omega⟩
  obtain ⟨k1, q1, hk1⟩ : ∃ k : Int, ∃ q, F_laws_markDecomp d.1 d.2 k0 = some (k, q) ∧ 0 ≤ k := by
    have hsum := sumLen_le (n := 1048576) r1
    have hs1 : sumLen d.1 ≤ 1048576 * 1048576 := Nat.le_trans hsum (Nat.mul_le_mul_right _ l1)
    unfold F_laws_markDecomp
    rw [cal_of (markInt64SS_eq d.1 k0 l1 r1 (by omega) (by omega))]
    dsimp only
    rw [cal_of (markInt64SS_eq d.2 _ l2 r2 (by omega) (by omega))]
    exact ⟨_, _, rfl, by omega⟩
  obtain ⟨m_r0, z_r0, hz_r0, hh_r0, hn_r0⟩ : ∃ k : Int, ∃ q, F_laws_markInt64S R 1 = some (k, q) ∧ F_laws_heldInt64S q 1 = some k ∧ 0 ≤ k ∧ k ≤ 1 + 4398046511104 := by
    have := hB
    exact ⟨_, _, markInt64S_eq R 1 (by have := hB; omega) (by omega) (by omega), heldInt64S_marks 1 R.length (by have := hB; omega) (by omega) (by omega), by omega, by omega⟩
  rw [cal_of (toGraph_eq g l0 r0), cal_of hto]
  dsimp only
  rw [cal_of hS, cal_of (toGraph_eq g l0 r0), cal_of hto]
  dsimp only
  rw [cal_of hI, cal_of heR, if_neg (by simp), cal_of (toGraph_eq g l0 r0), cal_of (eqGraph_eq g l0 r0), if_neg (by simp), cal_of hto]
  dsimp only
  rw [cal_of heq, if_neg (by simp), cal_of hk0.1]
  dsimp only
  rw [cal_of hk1.1, if_neg (by simp only; omega), cal_of heR, if_neg (by simp), cal_of hz_r0]
  dsimp only
  rw [cal_of hh_r0, if_neg (by omega), if_neg (by simp), cal_of (toGraph_eq g l0 r0), cal_of hto]
  dsimp only
  rw [cal_of hI, cal_of heR, if_neg (by simp), cal_of hh_r0, if_neg (by omega), if_neg (by simp)]
end Go.Proofs.YtadagcgehcpelaaDoor
