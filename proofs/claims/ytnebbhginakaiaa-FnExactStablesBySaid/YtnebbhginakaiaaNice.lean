/- Nodes of nice tree decompositions; things counted. -/
import Derived.Test.YtnebbhginakaiaaCover
import Derived.Test.YtnebbhginakaiaaSlices
import Derived.Test.YtnebbhginakaiaaParts
import Derived.Test.YtnebbhginakaiaaLawCopy
namespace Go.Proofs.Ytnebbhginakaiaa
theorem sorted_extI : ∀ {l l' : List Int}, l.Pairwise (· < ·) → l'.Pairwise (· < ·) → (∀ x, x ∈ l ↔ x ∈ l') → l = l'
  | [], [], _, _, _ => rfl
  | [], y :: l', _, _, h => nomatch (h y).2 (List.mem_cons_self ..)
  | x :: l, [], _, _, h => nomatch (h x).1 (List.mem_cons_self ..)
  | x :: l, y :: l', h1, h2, h => by
    rw [List.pairwise_cons] at h1 h2
    have hxy : x = y := by
      rcases List.mem_cons.1 ((h x).1 (List.mem_cons_self ..)) with e | e
      · exact e
      · rcases List.mem_cons.1 ((h y).2 (List.mem_cons_self ..)) with e' | e'
        · exact e'.symm
        · have := h1.1 _ e'; have := h2.1 _ e; omega
    subst hxy
    congr 1
    refine sorted_extI h1.2 h2.2 fun z => ⟨fun hz => ?_, fun hz => ?_⟩
    · rcases List.mem_cons.1 ((h z).1 (List.mem_cons_of_mem _ hz)) with e | e
      · have := h1.1 _ hz; omega
      · exact e
    · rcases List.mem_cons.1 ((h z).2 (List.mem_cons_of_mem _ hz)) with e | e
      · have := h2.1 _ hz; omega
      · exact e
theorem Rises.sorted {s : List Int} {n : Nat} (h : Rises s n) (hn : n ≤ 16) : s.Pairwise (· < ·) := by
  rw [rises_els h hn]
  unfold ints
  exact List.pairwise_map.2 ((els_sorted _).imp fun h => by omega)
theorem Rises.mem_mk {s : List Int} {n : Nat} (h : Rises s n) (v : Nat) : (mk s).testBit v = true ↔ (v : Int) ∈ s := by
  rw [mk_mem (fun x hx => (h.mem hx).1), decide_eq_true_iff]
theorem rises_ext {a b : List Int} {n : Nat} (ha : Rises a n) (hb : Rises b n) (hn : n ≤ 16) : mk a = mk b ↔ a = b :=
  ⟨fun e => by rw [rises_els ha hn, rises_els hb hn, e], fun e => by rw [e]⟩
def More (a b : Nat) (v : Int) : Prop := (0 ≤ v ∧ v < 16) ∧ a.testBit v.toNat = false ∧ b = a ||| 2 ^ v.toNat
theorem l1Copy_eq4 {l : List Int} (h : l.length ≤ 1048576) : F_spec_l1Copy l = some l := by
  unfold F_spec_l1Copy
  rw [app_s (by simp; omega)]; rfl
theorem l1Into_srt {l : List Int} (x : Int) (hl : l.length ≤ 1000000) (hs : l.Pairwise (· < ·)) (hx : x ∉ l) : ∃ r, F_spec_l1Into l x = some r ∧ (∀ y, y ∈ r ↔ y ∈ l ∨ y = x) ∧ r.length ≤ l.length + 1 ∧ r.Pairwise (· < ·) := by
  obtain ⟨o, h1, i, rfl, hi, hlt, hge⟩ : ∃ o, lp (fun s => F_spec_l1Into_l1 l x s) 0 = some o ∧ ∃ i : Nat, o = .inl (i : Int) ∧ i ≤ l.length ∧ (∀ j (hj : j < l.length), j < i → l[j] < x) ∧ (∀ h : i < l.length, ¬ l[i] < x) := by
    refine lp_rule (step := fun s => F_spec_l1Into_l1 l x s) (fun s => ∃ k : Nat, s = (k : Int) ∧ k ≤ l.length ∧ ∀ j (hj : j < l.length), j < k → l[j] < x) (fun s => l.length - s.toNat) (fun o => ∃ i : Nat, o = .inl (i : Int) ∧ i ≤ l.length ∧ (∀ j (hj : j < l.length), j < i → l[j] < x) ∧ (∀ h : i < l.length, ¬ l[i] < x)) ?_ 0 ⟨0, rfl, Nat.zero_le _, fun j _ h => by omega⟩
    rintro s ⟨k, rfl, hk, hb⟩
    simp only [F_spec_l1Into_l1]
    by_cases h : k < l.length
    · rw [if_pos (by omega), idx_nat h]
      by_cases h2 : l[k] < x
      · rw [if_pos h2, ck_of (inI (by omega) (by omega))]
        refine .inl ⟨_, rfl, ⟨k + 1, by omega, by omega, fun j hj hjk => ?_⟩, by omega⟩
        by_cases e : j = k
        · subst e; exact h2
        · exact hb j hj (by omega)
      · rw [if_neg h2]; exact .inr ⟨_, rfl, k, rfl, hk, hb, fun _ => h2⟩
    · rw [if_neg (by omega)]; exact .inr ⟨_, rfl, k, rfl, hk, hb, fun h' => absurd h' h⟩
  unfold F_spec_l1Into
  rw [bnd_l h1]
  unfold F_spec_l1Into_k2
  have hput : ∀ {β : Type} (q : List Int → Option β), slc l 0 (i : Int) (fun _ => cal (F_spec_l1Copy ((l.drop (0 : Int).toNat).take ((i : Int).toNat - (0 : Int).toNat))) (fun x95 => app x95 ([x]) (fun _ => slc l (i : Int) (l.length : Int) (fun _ =>
      app (x95 ++ ([x])) ((l.drop (i : Int).toNat).take (((l.length : Int) : Int).toNat - (i : Int).toNat)) (fun _ => q ((x95 ++ ([x])) ++ ((l.drop (i : Int).toNat).take (((l.length : Int) : Int).toNat - (i : Int).toNat)))))))) = q ((l.take i ++ [x]) ++ l.drop i) := by
    intro β q
    have e : (l.drop i).take (l.length - i) = l.drop i := List.take_of_length_le (by simp)
    rw [slc_of ⟨by decide, by omega, by omega⟩, show (0 : Int).toNat = 0 from rfl, List.drop_zero, Int.toNat_natCast, Nat.sub_zero, cal_of (l1Copy_eq4 (by rw [List.length_take]; omega)), app1_s (by rw [List.length_take]; omega), slc_of ⟨by omega, by omega, by omega⟩, Int.toNat_natCast, e, app_s (by simp; omega)]
  have hmem : ∀ y, y ∈ (l.take i ++ [x]) ++ l.drop i ↔ y ∈ l ∨ y = x := by
    intro y
    have e : y ∈ l ↔ y ∈ l.take i ∨ y ∈ l.drop i := by rw [← List.mem_append, List.take_append_drop]
    rw [e]
    simp only [List.mem_append, List.mem_singleton]
    constructor
    · rintro ((h | h) | h)
      · exact .inl (.inl h)
      · exact .inr h
      · exact .inl (.inr h)
    · rintro ((h | h) | h)
      · exact .inl (.inl h)
      · exact .inr h
      · exact .inl (.inr h)
  have htake : ∀ y ∈ l.take i, y < x := fun y hy => by
    rw [List.mem_take_iff_getElem] at hy
    obtain ⟨j, hj, rfl⟩ := hy
    exact hlt j (by omega) (by omega)
  have hdrop : ∀ y ∈ l.drop i, x < y := fun y hy => by
    rw [List.mem_drop_iff_getElem] at hy
    obtain ⟨j, hj, rfl⟩ := hy
    have h3 := hge (by omega)
    have h4 : l[i]'(by omega) ≠ x := fun e => hx (by rw [← e]; exact List.getElem_mem _)
    rcases Nat.eq_zero_or_pos j with e | e
    · subst e; simp only [Nat.add_zero]; omega
    · have := List.pairwise_iff_getElem.1 hs i (i + j) (by omega) (by omega) (by omega); omega
  have hsort : ((l.take i ++ [x]) ++ l.drop i).Pairwise (· < ·) := by
    rw [List.pairwise_append, List.pairwise_append]
    refine ⟨⟨hs.sublist (List.take_sublist ..), by simp, fun a ha b hb => by rw [List.mem_singleton.1 hb]; exact htake a ha⟩, hs.sublist (List.drop_sublist ..), fun a ha b hb => ?_⟩
    have hb2 := hdrop b hb
    rcases List.mem_append.1 ha with h | h
    · have := htake a h; omega
    · rw [List.mem_singleton.1 h]; exact hb2
  have hres : ((l.take i ++ [x]) ++ l.drop i).length ≤ l.length + 1 := by simp; omega
  by_cases h : i < l.length
  · have h2 : l[i] ≠ x := fun e => hx (by rw [← e]; exact List.getElem_mem _)
    rw [if_pos (by omega), idx_nat h, if_neg h2, hput]; exact ⟨_, rfl, hmem, hres, hsort⟩
  · rw [if_neg (by omega), hput]; exact ⟨_, rfl, hmem, hres, hsort⟩
open Classical in
theorem l29More_eq {a b : List Int} {n : Nat} (hn : n ≤ 16) (ha : Rises a n) (hb : Rises b n) (v : Int) : F_spec_l29More a b v = some (decide (More (mk a) (mk b) v)) := by
  have hal := ha.len16 hn
  have hbl := hb.len16 hn
  unfold F_spec_l29More
  rw [cal_of (l1Has_eq _ _ (by omega))]
  by_cases hv : v ∈ a
  · rw [if_neg (by simpa using hv)]
    refine congrArg some (decide_eq_false ?_).symm
    rintro ⟨⟨h1, h2⟩, h3, _⟩
    obtain ⟨w, rfl⟩ := Int.eq_ofNat_of_zero_le h1
    rw [Int.toNat_natCast, (ha.mem_mk w).2 hv] at h3
    cases h3
  · rw [if_pos (by simpa using hv)]
    obtain ⟨r, h1, h2, h3, h4⟩ := l1Into_srt v (by omega) (ha.sorted hn) hv
    rw [cal_of h1, cal_of (l1Same_eq r b (by omega))]
    refine congrArg some ?_
    rw [Bool.eq_iff_iff, decide_eq_true_iff, decide_eq_true_iff]
    constructor
    · intro e
      subst e
      have hvr := hb.mem ((h2 v).2 (.inr rfl))
      obtain ⟨w, rfl⟩ := Int.eq_ofNat_of_zero_le hvr.1
      refine ⟨⟨by omega, by omega⟩, ?_, bits_ext fun j => ?_⟩
      · rw [Int.toNat_natCast]
        cases e : (mk a).testBit w with
        | false => rfl
        | true => exact absurd ((ha.mem_mk w).1 e) hv
      · rw [Int.toNat_natCast, Nat.testBit_or, Nat.testBit_two_pow, Bool.eq_iff_iff, Bool.or_eq_true, hb.mem_mk, ha.mem_mk, h2, decide_eq_true_iff]
        constructor
        · rintro (h | h)
          · exact .inl h
          · exact .inr (by omega)
        · rintro (h | h)
          · exact .inl h
          · exact .inr (by omega)
    · rintro ⟨⟨g1, g2⟩, g3, g4⟩
      obtain ⟨w, rfl⟩ := Int.eq_ofNat_of_zero_le g1
      rw [Int.toNat_natCast] at g3 g4
      refine sorted_extI h4 (hb.sorted hn) fun y => ?_
      rw [h2]
      constructor
      · rintro (h | h)
        · obtain ⟨u, rfl⟩ := Int.eq_ofNat_of_zero_le (ha.mem h).1
          rw [← hb.mem_mk, g4, Nat.testBit_or, (ha.mem_mk u).2 h]; rfl
        · subst h
          rw [← hb.mem_mk, g4, Nat.testBit_or, Nat.testBit_two_pow]; simp
      · intro h
        obtain ⟨u, rfl⟩ := Int.eq_ofNat_of_zero_le (hb.mem h).1
        rw [← hb.mem_mk, g4, Nat.testBit_or, Nat.testBit_two_pow, Bool.or_eq_true, ha.mem_mk, decide_eq_true_iff] at h
        rcases h with h | h
        · exact .inl h
        · exact .inr (by omega)
def KidsIn (c : List Int) (i : Nat) : Prop := ∀ k ∈ c, 0 ≤ k ∧ k < i
def BagAt (n : Nat) (b : List Int) : Prop := b.length ≤ 8 ∧ Rises b n
def NodeAt (K V : List Int) (B : List (List Int)) (C : List (List Int)) (i : Nat) : Prop :=
  KidsIn (C.getD i []) i ∧
  ((K.getD i 0 = 1 ∧ V.getD i 0 = -1 ∧ mk (B.getD i []) = 0 ∧ C.getD i [] = []) ∨
   (K.getD i 0 = 4 ∧ V.getD i 0 = -1 ∧ ∃ k1 k2 : Nat, C.getD i [] = [(k1 : Int), (k2 : Int)] ∧ mk (B.getD k1 []) = mk (B.getD i []) ∧ mk (B.getD k2 []) = mk (B.getD i [])) ∨
   (K.getD i 0 = 2 ∧ ∃ k : Nat, C.getD i [] = [(k : Int)] ∧ More (mk (B.getD k [])) (mk (B.getD i [])) (V.getD i 0)) ∨
   (K.getD i 0 = 3 ∧ ∃ k : Nat, C.getD i [] = [(k : Int)] ∧ More (mk (B.getD i [])) (mk (B.getD k [])) (V.getD i 0)))
theorem mk_nil_iff {b : List Int} {n : Nat} (h : Rises b n) : mk b = 0 ↔ b = [] := by
  constructor
  · intro e
    cases b with
    | nil => rfl
    | cons x l =>
      obtain ⟨w, rfl⟩ := Int.eq_ofNat_of_zero_le (h.mem (List.mem_cons_self ..)).1
      have := (h.mem_mk w).2 (List.mem_cons_self ..)
      rw [e, Nat.zero_testBit] at this; cases this
  · rintro rfl; rfl
theorem one_kid {c : List Int} {i : Nat} (h : KidsIn c i) (hl : c.length = 1) : ∃ k : Nat, c = [(k : Int)] ∧ k < i := by
  match c, hl with
  | [x], _ =>
    have := h x (by simp)
    obtain ⟨k, rfl⟩ := Int.eq_ofNat_of_zero_le this.1
    exact ⟨k, rfl, by omega⟩
theorem two_kids {c : List Int} {i : Nat} (h : KidsIn c i) (hl : c.length = 2) : ∃ k l : Nat, c = [(k : Int), (l : Int)] ∧ k < i ∧ l < i := by
  match c, hl with
  | [x, y], _ =>
    have h1 := h x (by simp)
    have h2 := h y (by simp)
    obtain ⟨k, rfl⟩ := Int.eq_ofNat_of_zero_le h1.1
    obtain ⟨l, rfl⟩ := Int.eq_ofNat_of_zero_le h2.1
    exact ⟨k, l, rfl, by omega, by omega⟩
open Classical in
theorem l29Node_eq {g : List (List Int)} {K V : List Int} {B C : List (List Int)} {m i : Nat} (h16 : g.length ≤ 16) (hm : m ≤ 200) (hi : i < m) (hK : K.length = m) (hV : V.length = m) (hB : B.length = m) (hC : C.length = m)
    (hcl : ∀ x ∈ C, x.length ≤ 1048576) (hbl : ∀ x ∈ B, x.length ≤ 1048576) (hb : ∀ j, j < i → BagAt g.length (B.getD j [])) : F_spec_l29Node g K V B C (i : Int) = some (decide (BagAt g.length (B.getD i []) ∧ NodeAt K V B C i)) := by
  have hiB : i < B.length := by omega
  have hiC : i < C.length := by omega
  have hiK : i < K.length := by omega
  have hiV : i < V.length := by omega
  have eB : B.getD i [] = B[i] := by simp [hiB]
  have eC : C.getD i [] = C[i] := by simp [hiC]
  have eK : K.getD i 0 = K[i] := by simp [hiK]
  have eV : V.getD i 0 = V[i] := by simp [hiV]
  have hci := hcl _ (List.getElem_mem hiC)
  have hbi := hbl _ (List.getElem_mem hiB)
  unfold F_spec_l29Node F_spec_l1Size
  rw [idx_nat hiB, idx_nat hiC]
  by_cases h8 : B[i].length ≤ 8
  case neg => rw [if_pos (by omega)]; exact congrArg some (decide_eq_false (fun h => h8 (by rw [← eB]; exact h.1.1))).symm
  rw [if_neg (by omega), cal_some_eq, cal_of (l1Set_eq _ _ (by omega) (by omega) (by omega))]
  by_cases hr : Rises B[i] g.length
  case neg => rw [if_pos (by simpa using hr)]; exact congrArg some (decide_eq_false (fun h => hr (by rw [← eB]; exact h.1.2))).symm
  rw [if_neg (by simpa using hr)]
  have hbag : BagAt g.length (B.getD i []) := by rw [eB]; exact ⟨h8, hr⟩
  have key := lp_allC (step := fun s => F_spec_l29Node_l1 (i : Int) C[i] s) (fun k => (k : Int)) C[i].length (fun k => ∀ h : k < C[i].length, 0 ≤ C[i][k] ∧ C[i][k] < i) (KidsIn C[i] i) (oT := .inl ()) (oF := .inr false) ?_ ?_ ?_ ?_
  · rw [show ((0 : Nat) : Int) = 0 from rfl] at key
    rw [key, bnd_if]
    by_cases hk : KidsIn C[i] i
    case neg => rw [if_neg hk]; exact congrArg some (decide_eq_false (fun h => hk (by rw [← eC]; exact h.2.1))).symm
    rw [if_pos hk]
    unfold F_spec_l29Node_k2
    rw [idx_nat hiK]
    have hN : (BagAt g.length (B.getD i []) ∧ NodeAt K V B C i) ↔
      ((K[i] = 1 ∧ V[i] = -1 ∧ mk B[i] = 0 ∧ C[i] = []) ∨ (K[i] = 4 ∧ V[i] = -1 ∧ ∃ k1 k2 : Nat, C[i] = [(k1 : Int), (k2 : Int)] ∧ mk (B.getD k1 []) = mk B[i] ∧ mk (B.getD k2 []) = mk B[i]) ∨
       (K[i] = 2 ∧ ∃ k : Nat, C[i] = [(k : Int)] ∧ More (mk (B.getD k [])) (mk B[i]) V[i]) ∨ (K[i] = 3 ∧ ∃ k : Nat, C[i] = [(k : Int)] ∧ More (mk B[i]) (mk (B.getD k [])) V[i])) := by
      unfold NodeAt
      rw [eB, eC, eK, eV]
      exact ⟨fun h => h.2.2, fun h => ⟨by rw [← eB]; exact hbag, hk, h⟩⟩
    have dec : ∀ {q : Prop} {b : Bool}, ((BagAt g.length (B.getD i []) ∧ NodeAt K V B C i) ↔ b = true) → some b = some (decide (BagAt g.length (B.getD i []) ∧ NodeAt K V B C i)) := fun h => congrArg some (by rw [Bool.eq_iff_iff, decide_eq_true_iff]; exact h.symm)
    have kid : ∀ k : Nat, k < i → ∃ hk : k < B.length, B.getD k [] = B[k] ∧ Rises B[k] g.length := fun k hk => by
      have hkB : k < B.length := by omega
      have e : B.getD k [] = B[k] := by simp [hkB]
      exact ⟨hkB, e, by rw [← e]; exact (hb k hk).2⟩
    by_cases k1 : K[i] = 1
    · rw [if_pos k1, idx_nat hiV]
      by_cases v1 : V[i] = -1
      · rw [if_pos v1]
        by_cases b0 : B[i] = []
        · rw [if_pos (by rw [b0]; rfl)]
          refine dec (q := True) (hN.trans ?_)
          rw [decide_eq_true_iff]
          constructor
          · rintro (h | h | h | h)
            · rw [h.2.2.2]; rfl
            · omega
            · omega
            · omega
          · intro h
            exact .inl ⟨k1, v1, by rw [b0]; rfl, List.length_eq_zero_iff.1 (by omega)⟩
        · have : B[i].length ≠ 0 := fun h => b0 (List.length_eq_zero_iff.1 h)
          rw [if_neg (by omega)]
          refine dec (q := True) (hN.trans ⟨?_, fun h => by cases h⟩)
          rintro (h | h | h | h)
          · exact absurd ((mk_nil_iff hr).1 h.2.2.1) b0
          · omega
          · omega
          · omega
      · rw [if_neg v1]
        refine dec (q := True) (hN.trans ⟨?_, fun h => by cases h⟩)
        rintro (h | h | h | h)
        · exact absurd h.2.1 v1
        · omega
        · omega
        · omega
    · rw [if_neg k1]
      by_cases k2 : K[i] = 2
      · rw [if_pos k2]
        by_cases c1 : C[i].length = 1
        · obtain ⟨k, hc, hki⟩ := one_kid hk c1
          obtain ⟨hkB, ek, hkr⟩ := kid k hki
          rw [if_pos (by omega)]
          have i0 : ∀ {β : Type} (q : Int → Option β), idx C[i] 0 q = q k := fun q => by rw [hc]; rfl
          rw [i0, idx_nat hkB, idx_nat hiV, cal_of (l29More_eq h16 hkr hr _)]
          refine dec (q := True) (hN.trans ?_)
          rw [decide_eq_true_iff]
          constructor
          · rintro (h | h | ⟨_, k', h1, h2⟩ | h)
            · omega
            · omega
            · rw [hc] at h1
              simp only [List.cons.injEq, and_true] at h1
              have e : k' = k := by omega
              rw [e, ek] at h2; exact h2
            · omega
          · intro h; exact .inr (.inr (.inl ⟨k2, k, hc, by rw [ek]; exact h⟩))
        · rw [if_neg (by omega)]
          refine dec (q := True) (hN.trans ⟨?_, fun h => by cases h⟩)
          rintro (h | h | ⟨_, k', h1, h2⟩ | h)
          · omega
          · omega
          · rw [h1] at c1; exact absurd rfl c1
          · omega
      · rw [if_neg k2]
        by_cases k3 : K[i] = 3
        · rw [if_pos k3]
          by_cases c1 : C[i].length = 1
          · obtain ⟨k, hc, hki⟩ := one_kid hk c1
            obtain ⟨hkB, ek, hkr⟩ := kid k hki
            rw [if_pos (by omega)]
            have i0 : ∀ {β : Type} (q : Int → Option β), idx C[i] 0 q = q k := fun q => by rw [hc]; rfl
            rw [i0, idx_nat hkB, idx_nat hiV, cal_of (l29More_eq h16 hr hkr _)]
            refine dec (q := True) (hN.trans ?_)
            rw [decide_eq_true_iff]
            constructor
            · rintro (h | h | h | ⟨_, k', h1, h2⟩)
              · omega
              · omega
              · omega
              · rw [hc] at h1
                simp only [List.cons.injEq, and_true] at h1
                have e : k' = k := by omega
                rw [e, ek] at h2; exact h2
            · intro h; exact .inr (.inr (.inr ⟨k3, k, hc, by rw [ek]; exact h⟩))
          · rw [if_neg (by omega)]
            refine dec (q := True) (hN.trans ⟨?_, fun h => by cases h⟩)
            rintro (h | h | h | ⟨_, k', h1, h2⟩)
            · omega
            · omega
            · omega
            · rw [h1] at c1; exact absurd rfl c1
        · rw [if_neg k3]
          by_cases k4 : K[i] = 4
          · rw [if_pos k4, idx_nat hiV]
            by_cases v1 : V[i] = -1
            · rw [if_pos v1]
              by_cases c2 : C[i].length = 2
              · obtain ⟨k, l, hc, hki, hli⟩ := two_kids hk c2
                obtain ⟨hkB, ek, hkr⟩ := kid k hki
                obtain ⟨hlB, el, hlr⟩ := kid l hli
                have i0 : ∀ {β : Type} (q : Int → Option β), idx C[i] 0 q = q k := fun q => by rw [hc]; rfl
                have i1 : ∀ {β : Type} (q : Int → Option β), idx C[i] 1 q = q l := fun q => by rw [hc]; rfl
                have hkl := hkr.len16 h16
                have hll := hlr.len16 h16
                rw [if_pos (by omega), i0, idx_nat hkB, cal_of (l1Same_eq _ _ (by omega))]
                have hN4 : (BagAt g.length (B.getD i []) ∧ NodeAt K V B C i) ↔ B[k] = B[i] ∧ B[l] = B[i] := by
                  rw [hN, ← rises_ext hkr hr h16, ← rises_ext hlr hr h16]
                  constructor
                  · rintro (h | ⟨_, _, k', l', h1, h2, h3⟩ | h | h)
                    · omega
                    · rw [hc] at h1
                      simp only [List.cons.injEq, and_true] at h1
                      have e1 : k' = k := by omega
                      have e2 : l' = l := by omega
                      rw [e1, ek] at h2; rw [e2, el] at h3
                      exact ⟨h2, h3⟩
                    · omega
                    · omega
                  · rintro ⟨h2, h3⟩; exact .inr (.inl ⟨k4, v1, k, l, hc, by rw [ek]; exact h2, by rw [el]; exact h3⟩)
                by_cases q1 : B[k] = B[i]
                · rw [if_pos (by simpa using q1), i1, idx_nat hlB, cal_of (l1Same_eq _ _ (by omega))]
                  refine dec (q := True) (hN4.trans ?_)
                  rw [decide_eq_true_iff]
                  exact ⟨fun h => h.2, fun h => ⟨q1, h⟩⟩
                · rw [if_neg (by simpa using q1)]
                  exact dec (q := True) (hN4.trans ⟨fun h => absurd h.1 q1, fun h => by cases h⟩)
              · rw [if_neg (by omega)]
                refine dec (q := True) (hN.trans ⟨?_, fun h => by cases h⟩)
                rintro (h | ⟨_, _, k', l', h1, _⟩ | h | h)
                · omega
                · rw [h1] at c2; exact absurd rfl c2
                · omega
                · omega
            · rw [if_neg v1]
              refine dec (q := True) (hN.trans ⟨?_, fun h => by cases h⟩)
              rintro (h | h | h | h)
              · omega
              · exact absurd h.2.1 v1
              · omega
              · omega
          · rw [if_neg k4]
            refine dec (q := True) (hN.trans ⟨?_, fun h => by cases h⟩)
            rintro (h | h | h | h) <;> omega
  · constructor
    · exact fun h k hk hk' => h _ (List.getElem_mem hk')
    · intro h x hx
      obtain ⟨k, hk, rfl⟩ := List.getElem_of_mem hx
      exact h k hk hk
  · intro k hk _ hp
    have := hp hk
    simp only [F_spec_l29Node_l1]
    rw [if_pos (by omega), idx_nat hk, ck_of (inI (by omega) (by omega)), l1In_eq, cal_some_eq, if_neg (by simp; omega), ck_of (inI (by omega) (by omega))]; rfl
  · intro k hk _ hp
    simp only [F_spec_l29Node_l1]
    have hp2 : ¬ (0 ≤ C[i][k] ∧ C[i][k] ≤ (i : Int) - 1) := fun h => hp fun _ => ⟨h.1, by omega⟩
    rw [if_pos (by omega), idx_nat hk, ck_of (inI (by omega) (by omega)), l1In_eq, cal_some_eq, if_pos (by simpa using hp2)]
  · intro _
    simp only [F_spec_l29Node_l1]
    rw [if_neg (by omega)]
theorem less_iff {a b : Nat} {n : Nat} (hn : n ≤ 16) (ha : a < 2 ^ n) (hb : b < 2 ^ n) {v : Int} : More a b v ↔ (0 ≤ v ∧ v < n) ∧ b.testBit v.toNat = true ∧ a = sdiff b (2 ^ v.toNat) := by
  constructor
  · rintro ⟨⟨h1, h2⟩, h3, h4⟩
    have hbv : b.testBit v.toNat = true := by rw [h4, Nat.testBit_or, Nat.testBit_two_pow]; simp
    have := bit_lt hb hbv
    refine ⟨⟨h1, by omega⟩, hbv, bits_ext fun j => ?_⟩
    rw [delbit_bit, h4, Nat.testBit_or, Nat.testBit_two_pow]
    by_cases e : v.toNat = j
    · subst e; rw [h3]; simp
    · simp [e]
  · rintro ⟨⟨h1, h2⟩, h3, h4⟩
    refine ⟨⟨h1, by omega⟩, by rw [h4, delbit_bit]; simp, bits_ext fun j => ?_⟩
    rw [h4, Nat.testBit_or, delbit_bit, Nat.testBit_two_pow]
    by_cases e : v.toNat = j
    · subst e; simp [h3]
    · simp [e]
theorem more_iff {a b : Nat} {n : Nat} (hn : n ≤ 16) (ha : a < 2 ^ n) (hb : b < 2 ^ n) {v : Int} : More a b v ↔ (0 ≤ v ∧ v < n) ∧ a.testBit v.toNat = false ∧ b = a ||| 2 ^ v.toNat := by
  constructor
  · rintro ⟨⟨h1, h2⟩, h3, h4⟩
    have hbv : b.testBit v.toNat = true := by rw [h4, Nat.testBit_or, Nat.testBit_two_pow]; simp
    have := bit_lt hb hbv
    exact ⟨⟨h1, by omega⟩, h3, h4⟩
  · rintro ⟨⟨h1, h2⟩, h3, h4⟩
    exact ⟨⟨h1, by omega⟩, h3, h4⟩
open Classical in
theorem goodNode_eq {n : Nat} {K V : List Int} {B C : List (List Int)} {m i : Nat} (h16 : n ≤ 16) (h1n : 1 ≤ n) (hm : m ≤ 200) (hi : i < m) (hK : K.length = m) (hV : V.length = m) (hB : B.length = m) (hC : C.length = m)
    (hcl : ∀ x ∈ C, x.length ≤ 1048576) (hb : ∀ b ∈ B, Rises b n) : F_impl_goodNode K V B C (i : Int) (bvs (B.map mk)) (n : Int) = some (decide (NodeAt K V B C i)) := by
  have hiB : i < B.length := by omega
  have hiC : i < C.length := by omega
  have hiK : i < K.length := by omega
  have hiV : i < V.length := by omega
  have eB : B.getD i [] = B[i] := by simp [hiB]
  have eC : C.getD i [] = C[i] := by simp [hiC]
  have eK : K.getD i 0 = K[i] := by simp [hiK]
  have eV : V.getD i 0 = V[i] := by simp [hiV]
  have hci := hcl _ (List.getElem_mem hiC)
  have hp := pow16 h16
  have hML : ∀ k, k < m → k < (B.map mk).length := fun k hk => by rw [List.length_map]; omega
  have hM : ∀ k (hk : k < m), (B.map mk)[k]'(hML k hk) = mk (B.getD k []) := fun k hk => by
    rw [List.getElem_map, show B.getD k [] = B[k]'(by omega) by simp [show k < B.length by omega]]
  have hMn : ∀ k, k < m → mk (B.getD k []) < 2 ^ n := fun k hk => by
    rw [show B.getD k [] = B[k]'(by omega) by simp [show k < B.length by omega]]
    exact (hb _ (List.getElem_mem _)).lt
  have hgi : ∀ {β : Type} (k : Nat) (hk : k < m) (q : BitVec 32 → Option β), idx (bvs (B.map mk)) (k : Int) q = q (BitVec.ofNat 32 (mk (B.getD k []))) := fun k hk q => by rw [idx_bvs (hML k hk), hM k hk]
  have dec : ∀ {b : Bool}, (NodeAt K V B C i ↔ b = true) → some b = some (decide (NodeAt K V B C i)) := fun h => congrArg some (by rw [Bool.eq_iff_iff, decide_eq_true_iff]; exact h.symm)
  unfold F_impl_goodNode
  rw [idx_nat hiV, idx_nat hiC, hasF_int64 C[i] _ (fun k => !decide (0 ≤ k ∧ k ≤ (i : Int) - 1)) hci (fun k hk => by
    unfold F_impl_goodNode_1; rw [ck_of (inI (by omega) (by omega)), inRange_eq, cal_some_eq]), cal_some_eq]
  by_cases hk : KidsIn C[i] i
  case neg =>
    rw [if_pos ?_]
    · exact dec ⟨fun h => absurd (by rw [← eC]; exact h.1) hk, fun h => by cases h⟩
    · rw [List.any_eq_true]
      refine Classical.byContradiction fun h => hk fun k hk => ?_
      refine Classical.byContradiction fun h2 => h ⟨k, hk, ?_⟩
      rw [Bool.not_eq_true', decide_eq_false_iff_not]; omega
  rw [if_neg (by rw [List.any_eq_true]; rintro ⟨k, h1, h2⟩; have := hk k h1; rw [Bool.not_eq_true', decide_eq_false_iff_not] at h2; omega), idx_nat hiK]
  have hN : NodeAt K V B C i ↔
      ((K[i] = 1 ∧ V[i] = -1 ∧ mk (B.getD i []) = 0 ∧ C[i] = []) ∨ (K[i] = 4 ∧ V[i] = -1 ∧ ∃ k1 k2 : Nat, C[i] = [(k1 : Int), (k2 : Int)] ∧ mk (B.getD k1 []) = mk (B.getD i []) ∧ mk (B.getD k2 []) = mk (B.getD i [])) ∨
       (K[i] = 2 ∧ ∃ k : Nat, C[i] = [(k : Int)] ∧ More (mk (B.getD k [])) (mk (B.getD i [])) V[i]) ∨ (K[i] = 3 ∧ ∃ k : Nat, C[i] = [(k : Int)] ∧ More (mk (B.getD i [])) (mk (B.getD k [])) V[i])) := by
    unfold NodeAt
    rw [eC, eK, eV]
    exact ⟨fun h => h.2, fun h => ⟨hk, h⟩⟩
  have hMi := hMn i hi
  by_cases k1 : K[i] = 1
  · rw [if_pos k1]
    by_cases v1 : V[i] = -1
    · rw [if_pos v1, hgi i hi]
      by_cases b0 : mk (B.getD i []) = 0
      · rw [if_pos (by rw [b0])]
        refine dec (hN.trans ?_)
        rw [decide_eq_true_iff]
        constructor
        · rintro (h | h | h | h)
          · rw [h.2.2.2]; rfl
          · omega
          · omega
          · omega
        · intro h
          exact .inl ⟨k1, v1, b0, List.length_eq_zero_iff.1 (by omega)⟩
      · rw [if_neg (by rw [bv_inj (by omega) (by decide)]; exact b0)]
        refine dec (hN.trans ⟨?_, fun h => by cases h⟩)
        rintro (h | h | h | h)
        · exact absurd h.2.2.1 b0
        · omega
        · omega
        · omega
    · rw [if_neg v1]
      refine dec (hN.trans ⟨?_, fun h => by cases h⟩)
      rintro (h | h | h | h)
      · exact absurd h.2.1 v1
      · omega
      · omega
      · omega
  · rw [if_neg k1]
    by_cases k4 : K[i] = 4
    · rw [if_pos k4]
      by_cases v1 : V[i] = -1
      · rw [if_pos v1]
        by_cases c2 : C[i].length = 2
        · obtain ⟨k, l, hc, hki, hli⟩ := two_kids hk c2
          have i0 : ∀ {β : Type} (q : Int → Option β), idx C[i] 0 q = q k := fun q => by rw [hc]; rfl
          have i1 : ∀ {β : Type} (q : Int → Option β), idx C[i] 1 q = q l := fun q => by rw [hc]; rfl
          have hMk := hMn k (by omega)
          have hMl := hMn l (by omega)
          have hN4 : NodeAt K V B C i ↔ mk (B.getD k []) = mk (B.getD i []) ∧ mk (B.getD l []) = mk (B.getD i []) := by
            rw [hN]
            constructor
            · rintro (h | ⟨_, _, k', l', h1, h2, h3⟩ | h | h)
              · omega
              · rw [hc] at h1
                simp only [List.cons.injEq, and_true] at h1
                have e1 : k' = k := by omega
                have e2 : l' = l := by omega
                rw [e1] at h2; rw [e2] at h3
                exact ⟨h2, h3⟩
              · omega
              · omega
            · rintro ⟨h2, h3⟩; exact .inr (.inl ⟨k4, v1, k, l, hc, h2, h3⟩)
          rw [if_pos (by omega), i0, hgi k (by omega), hgi i hi]
          by_cases q1 : mk (B.getD k []) = mk (B.getD i [])
          · rw [if_pos (by rw [q1]), i1, hgi l (by omega), hgi i hi]
            refine dec (hN4.trans ?_)
            rw [decide_eq_true_iff, bv_inj (by omega) (by omega)]
            exact ⟨fun h => h.2, fun h => ⟨q1, h⟩⟩
          · rw [if_neg (by rw [bv_inj (by omega) (by omega)]; exact q1)]
            exact dec (hN4.trans ⟨fun h => absurd h.1 q1, fun h => by cases h⟩)
        · rw [if_neg (by omega)]
          refine dec (hN.trans ⟨?_, fun h => by cases h⟩)
          rintro (h | ⟨_, _, k', l', h1, _⟩ | h | h)
          · omega
          · rw [h1] at c2; exact absurd rfl c2
          · omega
          · omega
      · rw [if_neg v1]
        refine dec (hN.trans ⟨?_, fun h => by cases h⟩)
        rintro (h | h | h | h)
        · omega
        · exact absurd h.2.1 v1
        · omega
        · omega
    · rw [if_neg k4]
      by_cases k2 : K[i] = 2
      · rw [if_pos k2, ck_of (inI (by omega) (by omega)), inRange_eq, cal_some_eq]
        have out : (¬ (0 ≤ V[i] ∧ V[i] ≤ (n : Int) - 1) ∨ C[i].length ≠ 1) → ¬ NodeAt K V B C i := by
          intro ho h
          rcases hN.1 h with h | h | ⟨_, k, h1, h2⟩ | h
          · omega
          · omega
          · have hki : k < i := by have := hk k (by rw [h1]; simp); omega
            have := ((more_iff h16 (hMn k (by omega)) hMi).1 h2).1
            rcases ho with ho | ho
            · omega
            · rw [h1] at ho; exact ho rfl
          · omega
        by_cases hv : 0 ≤ V[i] ∧ V[i] ≤ (n : Int) - 1
        · rw [if_pos (by simpa using hv)]
          by_cases c1 : C[i].length = 1
          · obtain ⟨k, hc, hki⟩ := one_kid hk c1
            have i0 : ∀ {β : Type} (q : Int → Option β), idx C[i] 0 q = q k := fun q => by rw [hc]; rfl
            have hMk := hMn k (by omega)
            obtain ⟨w, hw⟩ := Int.eq_ofNat_of_zero_le hv.1
            have hN2 : NodeAt K V B C i ↔ (mk (B.getD k [])).testBit w = false ∧ mk (B.getD i []) = mk (B.getD k []) ||| 2 ^ w := by
              rw [hN]
              have hmi := more_iff h16 hMk hMi (v := V[i])
              rw [hw, Int.toNat_natCast] at hmi
              constructor
              · rintro (h | h | ⟨_, k', h1, h2⟩ | h)
                · omega
                · omega
                · rw [hc] at h1
                  simp only [List.cons.injEq, and_true] at h1
                  have e : k' = k := by omega
                  rw [e, hw] at h2; exact (hmi.1 h2).2
                · omega
              · intro h; exact .inr (.inr (.inl ⟨k2, k, hc, by rw [hw]; exact hmi.2 ⟨by omega, h⟩⟩))
            rw [if_pos (by omega), i0, hgi k (by omega), hw, cal_of (has_eq (by omega) (by omega))]
            by_cases hb2 : (mk (B.getD k [])).testBit w = true
            · rw [if_neg (by simpa using hb2)]
              exact dec (hN2.trans ⟨fun h => absurd (hb2.symm.trans h.1) (by decide), fun h => by cases h⟩)
            · rw [if_pos hb2, hgi i hi, i0, hgi k (by omega), cal_of (one_eq (by omega)), bv_or]
              have hor : mk (B.getD k []) ||| 2 ^ w < 2 ^ 32 := or_lt (by omega) (Nat.pow_lt_pow_right (by decide) (by omega))
              refine dec (hN2.trans ?_)
              rw [decide_eq_true_iff, bv_inj (by omega) hor]
              exact ⟨fun h => h.2, fun h => ⟨by simpa using hb2, h⟩⟩
          · rw [if_neg (by omega)]
            exact dec ⟨fun h => absurd h (out (.inr c1)), fun h => by cases h⟩
        · rw [if_neg (by simpa using hv)]
          exact dec ⟨fun h => absurd h (out (.inl hv)), fun h => by cases h⟩
      · rw [if_neg k2]
        by_cases k3 : K[i] = 3
        · rw [if_pos k3, ck_of (inI (by omega) (by omega)), inRange_eq, cal_some_eq]
          have out : (¬ (0 ≤ V[i] ∧ V[i] ≤ (n : Int) - 1) ∨ C[i].length ≠ 1) → ¬ NodeAt K V B C i := by
            intro ho h
            rcases hN.1 h with h | h | h | ⟨_, k, h1, h2⟩
            · omega
            · omega
            · omega
            · have hki : k < i := by have := hk k (by rw [h1]; simp); omega
              have := ((less_iff h16 hMi (hMn k (by omega))).1 h2).1
              rcases ho with ho | ho
              · omega
              · rw [h1] at ho; exact ho rfl
          by_cases hv : 0 ≤ V[i] ∧ V[i] ≤ (n : Int) - 1
          · rw [if_pos (by simpa using hv)]
            by_cases c1 : C[i].length = 1
            · obtain ⟨k, hc, hki⟩ := one_kid hk c1
              have i0 : ∀ {β : Type} (q : Int → Option β), idx C[i] 0 q = q k := fun q => by rw [hc]; rfl
              have hMk := hMn k (by omega)
              obtain ⟨w, hw⟩ := Int.eq_ofNat_of_zero_le hv.1
              have hN2 : NodeAt K V B C i ↔ (mk (B.getD k [])).testBit w = true ∧ mk (B.getD i []) = sdiff (mk (B.getD k [])) (2 ^ w) := by
                rw [hN]
                have hmi := less_iff h16 hMi hMk (v := V[i])
                rw [hw, Int.toNat_natCast] at hmi
                constructor
                · rintro (h | h | h | ⟨_, k', h1, h2⟩)
                  · omega
                  · omega
                  · omega
                  · rw [hc] at h1
                    simp only [List.cons.injEq, and_true] at h1
                    have e : k' = k := by omega
                    rw [e, hw] at h2; exact (hmi.1 h2).2
                · intro h; exact .inr (.inr (.inr ⟨k3, k, hc, by rw [hw]; exact hmi.2 ⟨by omega, h⟩⟩))
              rw [if_pos (by omega), i0, hgi k (by omega), hw, cal_of (has_eq (by omega) (by omega))]
              by_cases hb2 : (mk (B.getD k [])).testBit w = true
              · have hsd := sdiff_le (mk (B.getD k [])) (2 ^ w)
                rw [if_pos hb2, hgi i hi, i0, hgi k (by omega), cal_of (one_eq (by omega)), bv_andn (by omega)]
                refine dec (hN2.trans ?_)
                rw [decide_eq_true_iff, bv_inj (by omega) (by omega)]
                exact ⟨fun h => h.2, fun h => ⟨hb2, h⟩⟩
              · rw [if_neg hb2]
                exact dec (hN2.trans ⟨fun h => absurd h.1 hb2, fun h => by cases h⟩)
            · rw [if_neg (by omega)]
              exact dec ⟨fun h => absurd h (out (.inr c1)), fun h => by cases h⟩
          · rw [if_neg (by simpa using hv)]
            exact dec ⟨fun h => absurd h (out (.inl hv)), fun h => by cases h⟩
        · rw [if_neg k3]
          refine dec (hN.trans ⟨?_, fun h => by cases h⟩)
          rintro (h | h | h | h) <;> omega
def inc1 (o : List Int) (x : Int) : List Int := o.set x.toNat (o.getD x.toNat 0 + 1)
def incAll (l : List Int) (o : List Int) : List Int := l.foldl inc1 o
theorem inc1_len (o : List Int) (x : Int) : (inc1 o x).length = o.length := by simp [inc1]
theorem incAll_len (l : List Int) : ∀ o : List Int, (incAll l o).length = o.length := by
  induction l with
  | nil => intro o; rfl
  | cons x l ih => intro o; show (incAll l (inc1 o x)).length = _; rw [ih, inc1_len]
theorem incAll_get (l : List Int) : ∀ (o : List Int), (∀ x ∈ l, 0 ≤ x ∧ x < o.length) → ∀ v, v < o.length → (incAll l o).getD v 0 = o.getD v 0 + l.count (v : Int) := by
  induction l with
  | nil => intro o _ v _; simp [incAll]
  | cons x l ih =>
    intro o h v hv
    have hx := h x (List.mem_cons_self ..)
    obtain ⟨w, rfl⟩ := Int.eq_ofNat_of_zero_le hx.1
    show (incAll l (inc1 o (w : Int))).getD v 0 = _
    rw [ih _ (fun y hy => by rw [inc1_len]; exact h y (List.mem_cons_of_mem _ hy)) v (by rw [inc1_len]; exact hv), List.count_cons]
    unfold inc1
    rw [Int.toNat_natCast, List.getD_eq_getElem?_getD, List.getElem?_set, List.getD_eq_getElem?_getD]
    by_cases e : w = v
    · subst e
      rw [if_pos rfl, if_pos hv, if_pos (by simp)]
      simp only [Option.getD_some, List.getD_eq_getElem?_getD]; omega
    · rw [if_neg e, if_neg (by rw [beq_iff_eq]; omega)]
      simp [List.getD_eq_getElem?_getD]
theorem incAll_snoc (l : List Int) (x : Int) (o : List Int) : incAll (l ++ [x]) o = inc1 (incAll l o) x := by unfold incAll; rw [List.foldl_append]; rfl
theorem inc_val {l : List Int} {m : Nat} (h : ∀ x ∈ l, 0 ≤ x ∧ x < m) {v : Nat} (hv : v < m) : (incAll l (List.replicate m 0)).getD v 0 = l.count (v : Int) := by
  rw [incAll_get l _ (fun x hx => by rw [List.length_replicate]; exact h x hx) v (by rw [List.length_replicate]; exact hv)]
  simp [hv]
theorem inc_idx {β : Type} {l : List Int} {m : Nat} (h : ∀ x ∈ l, 0 ≤ x ∧ x < m) {x : Int} (hx : 0 ≤ x ∧ x < m) (q : Int → Option β) : idx (incAll l (List.replicate m 0)) x q = q (l.count x : Int) := by
  obtain ⟨w, rfl⟩ := Int.eq_ofNat_of_zero_le hx.1
  have hw : w < (incAll l (List.replicate m 0)).length := by rw [incAll_len, List.length_replicate]; omega
  have := inc_val h (v := w) (by omega)
  rw [idx_nat hw, ← this]; congr 1; simp [hw]
theorem inc_set {l : List Int} {m : Nat} (h : ∀ x ∈ l, 0 ≤ x ∧ x < m) {x : Int} (hx : 0 ≤ x ∧ x < m) : (incAll l (List.replicate m 0)).set x.toNat ((l.count x : Int) + 1) = incAll (l ++ [x]) (List.replicate m 0) := by
  obtain ⟨w, rfl⟩ := Int.eq_ofNat_of_zero_le hx.1
  have := inc_val h (v := w) (by omega)
  rw [incAll_snoc]; unfold inc1
  rw [Int.toNat_natCast, this]
theorem NodeAt.kids {K V : List Int} {B C : List (List Int)} {i : Nat} (h : NodeAt K V B C i) : (C.getD i []).length ≤ 2 := by
  rcases h.2 with h | ⟨_, _, _, _, h, _⟩ | ⟨_, _, h, _⟩ | ⟨_, _, h, _⟩
  · rw [h.2.2.2]; simp
  · rw [h]; simp
  · rw [h]; simp
  · rw [h]; simp
def dropsTo (K V : List Int) (i : Nat) : List Int := ((List.range i).filter fun j => decide (K.getD j 0 = 3)).map fun j => V.getD j 0
theorem dropsTo_succ (K V : List Int) (i : Nat) : dropsTo K V (i + 1) = if K.getD i 0 = 3 then dropsTo K V i ++ [V.getD i 0] else dropsTo K V i := by
  unfold dropsTo
  rw [List.range_succ, List.filter_append, List.map_append]
  split
  · rename_i h; rw [show List.filter (fun j => decide (K.getD j 0 = 3)) [i] = [i] by rw [List.filter_cons, if_pos (by simpa using h)]; rfl]; rfl
  · rename_i h; rw [show List.filter (fun j => decide (K.getD j 0 = 3)) [i] = [] by rw [List.filter_cons, if_neg (by simpa using h)]; rfl, List.map_nil, List.append_nil]
theorem dropsTo_len (K V : List Int) (i : Nat) : (dropsTo K V i).length ≤ i := by unfold dropsTo; rw [List.length_map]; exact Nat.le_trans (List.length_filter_le ..) (by simp)
end Go.Proofs.Ytnebbhginakaiaa
