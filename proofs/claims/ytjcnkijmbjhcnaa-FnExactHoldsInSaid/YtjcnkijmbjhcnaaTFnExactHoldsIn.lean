/- FnExactHoldsIn: the plain law. -/
import Derived.Test.YtjcnkijmbjhcnaaJudgeT
namespace Go.Proofs.Ytjcnkijmbjhcnaa
section
variable {S O : Type} {step : S → Option (S ⊕ O)}
theorem lp_three {s0 s1 s2 s3 : S} {p0 p1 p2 : Prop} [Decidable p0] [Decidable p1] [Decidable p2] {oF o : O} (h0 : step s0 = some (if p0 then .inl s1 else .inr oF)) (h1 : step s1 = some (if p1 then .inl s2 else .inr oF))
    (h2 : step s2 = some (if p2 then .inl s3 else .inr oF)) (h3 : step s3 = some (.inr o)) : lp step s0 = some (if p0 ∧ p1 ∧ p2 then o else oF) := by
  by_cases c0 : p0
  case neg => rw [if_neg c0] at h0; rw [lp_inr h0, if_neg (fun h => c0 h.1)]
  rw [if_pos c0] at h0
  by_cases c1 : p1
  case neg => rw [if_neg c1] at h1; rw [lp_inl h0, lp_inr h1, if_neg (fun h => c1 h.2.1)]
  rw [if_pos c1] at h1
  by_cases c2 : p2
  case neg => rw [if_neg c2] at h2; rw [lp_inl h0, lp_inl h1, lp_inr h2, if_neg (fun h => c2 h.2.2)]
  rw [if_pos c2] at h2
  rw [lp_inl h0, lp_inl h1, lp_inl h2, lp_inr h3, if_pos ⟨c0, c1, c2⟩]
theorem lp_two {s0 s1 s2 : S} {p0 p1 : Prop} [Decidable p0] [Decidable p1] {oF o : O} (h0 : step s0 = some (if p0 then .inl s1 else .inr oF)) (h1 : step s1 = some (if p1 then .inl s2 else .inr oF))
    (h2 : step s2 = some (.inr o)) : lp step s0 = some (if p0 ∧ p1 then o else oF) := by
  by_cases c0 : p0
  case neg => rw [if_neg c0] at h0; rw [lp_inr h0, if_neg (fun h => c0 h.1)]
  rw [if_pos c0] at h0
  by_cases c1 : p1
  case neg => rw [if_neg c1] at h1; rw [lp_inl h0, lp_inr h1, if_neg (fun h => c1 h.2)]
  rw [if_pos c1] at h1
  rw [lp_inl h0, lp_inl h1, lp_inr h2, if_pos ⟨c0, c1⟩]
end
theorem len3 {α : Type} {l : List α} (h : l.length = 3) : ∃ a b c, l = [a, b, c] := by
  match l, h with
  | [a, b, c], _ => exact ⟨a, b, c, rfl⟩
theorem len2 {α : Type} {l : List α} (h : l.length = 2) : ∃ a b, l = [a, b] := by
  match l, h with
  | [a, b], _ => exact ⟨a, b, rfl⟩
def vts (x0 x1 x2 : Int) (i : Nat) : Nat := if i = 0 then x0.toNat else if i = 1 then x1.toNat else x2.toNat
def sts (s0 s1 : List Int) (i : Nat) : Nat := if i = 0 then mk s0 else mk s1
def vIn (g : List (List Int)) (x : Int) : Prop := 0 ≤ x ∧ x ≤ (g.length : Int) - 1
open Classical in
noncomputable def holds2 (g : List (List Int)) (f : List (Int × Int × Int)) : List Int → List (List Int) → Bool
  | [x0, x1, x2], [s0, s1] => if vIn g x0 ∧ vIn g x1 ∧ vIn g x2 then if Rises s0 g.length ∧ Rises s1 g.length then sat (nb g) f (f.length - 1) (vts x0 x1 x2) (sts s0 s1) else false else false
  | _, _ => false
open Classical in
noncomputable def resHolds (g : List (List Int)) (f : List (Int × Int × Int)) (vs : List Int) (ss : List (List Int)) : Bool := if (GOk g ∧ g.length ≤ 8) ∧ formulaOk f = true then holds2 g f vs ss else false
theorem holds2_n {g : List (List Int)} {f : List (Int × Int × Int)} {vs : List Int} {ss : List (List Int)} (h : ¬ (vs.length = 3 ∧ ss.length = 2)) : holds2 g f vs ss = false := by
  unfold holds2
  split
  · exact absurd ⟨rfl, rfl⟩ h
  · rfl
open Classical in
theorem holds2_y (g : List (List Int)) (f : List (Int × Int × Int)) (x0 x1 x2 : Int) (s0 s1 : List Int) : holds2 g f [x0, x1, x2] [s0, s1] = if vIn g x0 ∧ vIn g x1 ∧ vIn g x2 then if Rises s0 g.length ∧ Rises s1 g.length then sat (nb g) f (f.length - 1) (vts x0 x1 x2) (sts s0 s1) else false else false := rfl
theorem vts_in {g : List (List Int)} {x0 x1 x2 : Int} {s0 s1 : List Int} (h : vIn g x0 ∧ vIn g x1 ∧ vIn g x2) (hs : Rises s0 g.length ∧ Rises s1 g.length) : InR g.length (vts x0 x1 x2) (sts s0 s1) := by
  unfold vIn at h
  refine ⟨fun i => ?_, fun i => ?_⟩
  · unfold vts; split
    · omega
    split <;> omega
  · unfold sts; split
    · exact hs.1.lt
    · exact hs.2.lt
theorem v3_vts {g : List (List Int)} {x0 x1 x2 : Int} (h : vIn g x0 ∧ vIn g x1 ∧ vIn g x2) : [x0, x1, x2] = v3 (vts x0 x1 x2) := by
  unfold vIn at h
  unfold v3 vts
  simp only [if_true, if_false, Nat.reduceEqDiff]
  rw [Int.toNat_of_nonneg h.1.1, Int.toNat_of_nonneg h.2.1.1, Int.toNat_of_nonneg h.2.2.1]
open Classical in
theorem there_eq {g : List (List Int)} (hl : g.length ≤ 8) (x : Int) : F_spec_l1There g x = some (decide (vIn g x)) := by
  unfold F_spec_l1There F_spec_l1Size vIn
  rw [cal_some_eq, ck_of (inI (by omega) (by omega)), l1In_eq, cal_some_eq]
  congr 1; rw [decide_eq_decide]
open Classical in
theorem isV_eq {g : List (List Int)} (hg : GOk g) (hgl : g.length ≤ 1048576) (hl : ∀ x ∈ g, x.length ≤ 1048576) (x : Int) : F_impl_isVertex g x = some (decide (vIn g x)) := by
  unfold F_impl_isVertex vIn
  rw [cal_of (implGraphOk_eq g hgl hl), if_pos (by simp [hg]), ck_of (inI (by omega) (by omega)), inRange_eq, cal_some_eq]
  congr 1; rw [decide_eq_decide]
open Classical in
theorem specHoldsIn_eq (g : List (List Int)) (f : List (Int × Int × Int)) (vs : List Int) (ss : List (List Int)) (hgl : g.length ≤ 1048576) (hl : ∀ x ∈ g, x.length ≤ 1048576) (hfl : f.length ≤ 1048576) (ht : True) (hv : vs.length ≤ 1048576)
    (hsl : ss.length ≤ 1048576) (hs : ∀ x ∈ ss, x.length ≤ 1048576) : F_spec_HoldsIn g f vs ss = some (resHolds g f vs ss) := by
  unfold F_spec_HoldsIn resHolds
  rw [cal_of (right_eq g f hl hfl)]
  by_cases h : (GOk g ∧ g.length ≤ 8) ∧ formulaOk f = true
  case neg => rw [if_pos (by rw [decide_eq_false h]; simp), if_neg h]
  rw [if_neg (by rw [decide_eq_true h]; simp), if_pos h]
  by_cases h3 : vs.length = 3
  case neg => rw [if_pos (by omega), holds2_n (by omega)]
  rw [if_neg (by omega)]
  by_cases h2 : ss.length = 2
  case neg => rw [if_pos (by omega), holds2_n (by omega)]
  rw [if_neg (by omega)]
  obtain ⟨x0, x1, x2, rfl⟩ := len3 h3
  obtain ⟨s0, s1, rfl⟩ := len2 h2
  obtain ⟨⟨hg, h8⟩, hf⟩ := h
  have st : ∀ (i : Nat) (x : Int), [x0, x1, x2][i]? = some x → F_spec_HoldsIn_l1 g [x0, x1, x2] (i : Int) = some (if vIn g x then .inl ((i : Int) + 1) else .inr (.inr false)) := fun i x hx => by
    have hi : i < 3 := (List.getElem?_eq_some_iff.1 hx).1
    unfold F_spec_HoldsIn_l1
    rw [if_pos (show (i : Int) < (([x0, x1, x2] : List Int).length : Int) by simp; omega), idx_of (Int.natCast_nonneg _) (by rw [Int.toNat_natCast]; exact hx), cal_of (there_eq h8 x)]
    by_cases c : vIn g x
    · rw [if_neg (by simp [c]), if_pos c, ck_of (inI (by omega) (by omega))]
    · rw [if_pos (by simp [c]), if_neg c]
  have key := lp_three (step := fun s => F_spec_HoldsIn_l1 g [x0, x1, x2] s) (s0 := (0 : Int)) (s1 := 1) (s2 := 2) (s3 := 3) (st 0 x0 rfl) (st 1 x1 rfl) (st 2 x2 rfl) (o := .inl ()) (by simp only [F_spec_HoldsIn_l1]; rw [if_neg (by simp)])
  have su : ∀ (i : Nat) (x l : List Int), [s0, s1][i]? = some x → l.length ≤ 2 → F_spec_HoldsIn_l3 g [s0, s1] l (i : Int) = some (if Rises x g.length then .inl (l ++ [(mk x : Int)], (i : Int) + 1) else .inr (.inr false)) := fun i x l hx hll => by
    have hi : i < 2 := (List.getElem?_eq_some_iff.1 hx).1
    have hxl : x.length ≤ 1048576 := hs x (List.mem_of_getElem? hx)
    have hn16 := hg.n16
    unfold F_spec_HoldsIn_l3
    have ix : ∀ {k : List Int → Option (((List Int) × Int) ⊕ ((List Int) ⊕ Bool))}, idx [s0, s1] (i : Int) k = k x := fun {k} => idx_of (Int.natCast_nonneg _) (by rw [Int.toNat_natCast]; exact hx)
    rw [if_pos (show (i : Int) < (([s0, s1] : List (List Int)).length : Int) by simp; omega), ix, cal_of (specSetOk_eq g x hl hxl)]
    by_cases c : Rises x g.length
    · rw [if_neg (by simp [c, hg]), if_pos c, ix, cal_of (l25Mask_eq (fun v hv => by have := c.mem hv; omega) hxl), app1_s (by omega), ck_of (inI (by omega) (by omega))]
    · rw [if_pos (by simp [c]), if_neg c]
  have key2 := lp_two (step := fun s => F_spec_HoldsIn_l3 g [s0, s1] s.1 s.2) (s0 := (([] : List Int), (0 : Int))) (s1 := ([(mk s0 : Int)], 1)) (s2 := ([(mk s0 : Int), (mk s1 : Int)], 2)) (su 0 s0 _ rfl (by simp)) (su 1 s1 _ rfl (by simp)) (o := .inl [(mk s0 : Int), (mk s1 : Int)]) (by simp only [F_spec_HoldsIn_l3]; rw [if_neg (by simp)])
  rw [key, holds2_y]
  by_cases c : vIn g x0 ∧ vIn g x1 ∧ vIn g x2
  case neg => rw [if_neg c, if_neg c]; rfl
  rw [if_pos c, if_pos c, bnd_inl_eq]
  unfold F_spec_HoldsIn_k2
  rw [key2]
  by_cases c2 : Rises s0 g.length ∧ Rises s1 g.length
  case neg => rw [if_neg c2, if_neg c2]; rfl
  rw [if_pos c2, if_pos c2, bnd_inl_eq]
  unfold F_spec_HoldsIn_k4
  rw [v3_vts c, show [(mk s0 : Int), (mk s1 : Int)] = v2 (sts s0 s1) from rfl, cal_of (rootS_eq ⟨hg, h8⟩ hf _ _ (vts_in c c2))]
open Classical in
theorem implHoldsIn_eq (g : List (List Int)) (f : List (Int × Int × Int)) (vs : List Int) (ss : List (List Int)) (hgl : g.length ≤ 1048576) (hl : ∀ x ∈ g, x.length ≤ 1048576) (hfl : f.length ≤ 1048576) (ht : True) (hv : vs.length ≤ 1048576)
    (hsl : ss.length ≤ 1048576) (hs : ∀ x ∈ ss, x.length ≤ 1048576) : F_impl_HoldsIn g f vs ss = some (resHolds g f vs ss) := by
  unfold F_impl_HoldsIn resHolds
  by_cases h : (GOk g ∧ g.length ≤ 8) ∧ formulaOk f = true
  case neg => rw [cal_of (newJudge_n g f hgl hl hfl h), if_pos rfl, if_neg h]
  obtain ⟨d, ed, hd⟩ := newJudge_y g f hgl hl hfl h.1 h.2
  rw [cal_of ed, if_neg (by simp), if_pos h]
  by_cases h3 : vs.length = 3
  case neg => rw [if_pos (by omega), holds2_n (by omega)]
  rw [if_neg (by omega)]
  by_cases h2 : ss.length = 2
  case neg => rw [if_pos (by omega), holds2_n (by omega)]
  rw [if_neg (by omega)]
  obtain ⟨x0, x1, x2, rfl⟩ := len3 h3
  obtain ⟨s0, s1, rfl⟩ := len2 h2
  obtain ⟨⟨hg, h8⟩, hf⟩ := h
  have st : ∀ (i : Nat) (x a b c : Int), [x0, x1, x2][i]? = some x → F_impl_HoldsIn_l1 g [x0, x1, x2] a b c (i : Int) = some (if vIn g x then .inl (if (i : Int) = 0 then x else a, if (i : Int) = 1 then x else b, if (i : Int) = 2 then x else c, (i : Int) + 1) else .inr (.inr false)) := fun i x a b c hx => by
    have hi : i < 3 := (List.getElem?_eq_some_iff.1 hx).1
    unfold F_impl_HoldsIn_l1
    rw [if_pos (show (i : Int) < (([x0, x1, x2] : List Int).length : Int) by simp; omega), idx_of (Int.natCast_nonneg _) (by rw [Int.toNat_natCast]; exact hx), cal_of (isV_eq hg hgl hl x)]
    by_cases c : vIn g x
    · rw [if_neg (by simp [c]), if_pos c, idx_nat (by simp; omega), ck_of (inI (by omega) (by omega))]
    · rw [if_pos (by simp [c]), if_neg c]
  have key := lp_three (step := fun s => F_impl_HoldsIn_l1 g [x0, x1, x2] s.1 s.2.1 s.2.2.1 s.2.2.2) (s0 := ((0 : Int), (0 : Int), (0 : Int), (0 : Int))) (s1 := (x0, 0, 0, 1)) (s2 := (x0, x1, 0, 2)) (s3 := (x0, x1, x2, 3))
    (st 0 x0 _ _ _ rfl) (st 1 x1 _ _ _ rfl) (st 2 x2 _ _ _ rfl) (o := .inl (x0, x1, x2)) (by simp only [F_impl_HoldsIn_l1]; rw [if_neg (by simp)])
  have su : ∀ (i : Nat) (x : List Int) (a b : BitVec 32), [s0, s1][i]? = some x → F_impl_HoldsIn_l3 g [s0, s1] a b (i : Int) = some (if Rises x g.length then .inl (if (i : Int) = 0 then bw (mk x) else a, if (i : Int) = 1 then bw (mk x) else b, (i : Int) + 1) else .inr (.inr false)) := fun i x a b hx => by
    have hi : i < 2 := (List.getElem?_eq_some_iff.1 hx).1
    have hxl : x.length ≤ 1048576 := hs x (List.mem_of_getElem? hx)
    have hn16 := hg.n16
    unfold F_impl_HoldsIn_l3
    rw [if_pos (show (i : Int) < (([s0, s1] : List (List Int)).length : Int) by simp; omega), idx_of (Int.natCast_nonneg _) (by rw [Int.toNat_natCast]; exact hx), cal_of (implSetOk_eq g x hgl hl hxl)]
    by_cases c : Rises x g.length
    · rw [if_neg (by simp [c, hg]), if_pos c, cal_of (maskOf_eq (fun v hv => by have := c.mem hv; omega) hxl), idx_nat (by simp; omega), ck_of (inI (by omega) (by omega))]
    · rw [if_pos (by simp [c]), if_neg c]
  have key2 := lp_two (step := fun s => F_impl_HoldsIn_l3 g [s0, s1] s.1 s.2.1 s.2.2) (s0 := (0#32, 0#32, (0 : Int))) (s1 := (bw (mk s0), 0#32, 1)) (s2 := (bw (mk s0), bw (mk s1), 2)) (su 0 s0 _ _ rfl) (su 1 s1 _ _ rfl) (o := .inl (bw (mk s0), bw (mk s1)))
    (by simp only [F_impl_HoldsIn_l3]; rw [if_neg (by simp)])
  rw [key, holds2_y]
  by_cases c : vIn g x0 ∧ vIn g x1 ∧ vIn g x2
  case neg => rw [if_neg c, if_neg c]; rfl
  rw [if_pos c, if_pos c, bnd_inl_eq]
  unfold F_impl_HoldsIn_k2
  rw [key2]
  by_cases c2 : Rises s0 g.length ∧ Rises s1 g.length
  case neg => rw [if_neg c2, if_neg c2]; rfl
  rw [if_pos c2, if_pos c2, bnd_inl_eq]
  unfold F_impl_HoldsIn_k4
  have hroot := rootI_eq ⟨hg, h8⟩ hf hd _ _ (vts_in c c2)
  have hv3 := v3_vts c
  injection hv3 with e0 hv3; injection hv3 with e1 hv3; injection hv3 with e2 _
  rw [← e0, ← e1, ← e2] at hroot
  rw [show F_impl_judge_root (false, d).2 x0 x1 x2 (bw (mk s0)) (bw (mk s1)) = _ from hroot]; rfl
theorem T_FnExactHoldsIn (x0 : List (List Int)) (hx0 : Sz.ok x0) (x1 : List (Int × Int × Int)) (hx1 : Sz.ok x1) (x2 : List Int) (hx2 : Sz.ok x2) (x3 : List (List Int)) (hx3 : Sz.ok x3) : F_laws_FnExactHoldsIn x0 x1 x2 x3 = some true := by
  unfold F_laws_FnExactHoldsIn
  by_cases c2 : 1048576 < (x2.length : Int)
  · rw [if_pos c2]
  rw [if_neg c2]
  have l2 : x2.length ≤ 1048576 := by omega
  obtain ⟨m0, hm0, h0⟩ := szGraph_eq x0 1048576 (by omega) (by omega) hx0
  rw [cal_of hm0]
  rcases h0 with h0 | ⟨b0, e0, l0, r0⟩
  · rw [if_pos h0]
  rw [if_neg (by omega)]
  obtain ⟨m1, hm1, h1⟩ := szFormula_ex x1 m0 (by omega) (by omega) hx1
  rw [cal_of hm1]
  rcases h1 with h1 | ⟨b1, e1, l1, r1⟩
  · rw [if_pos h1]
  rw [if_neg (by omega)]
  obtain ⟨m3, hm3, h3⟩ := szInt64SS_eq x3 m1 (by omega) (by omega) hx3
  rw [cal_of hm3]
  rcases h3 with h3 | ⟨b3, e3, l3, r3⟩
  · rw [if_pos h3]
  rw [if_neg (by omega)]
  rw [cal_of (toGraph_eq x0 l0 r0), cal_of (toFormula_eq x1 l1), cal_of (toInt64S_eq x2 (by omega)), cal_of (toInt64SS_eq x3 (by omega) (fun x hx => by have := r3 x hx; omega)), cal_of (specHoldsIn_eq x0 x1 x2 x3 l0 r0 l1 r1 l2 l3 r3), cal_of (toGraph_eq x0 l0 r0), cal_of (toFormula_eq x1 l1), cal_of (toInt64S_eq x2 (by omega)), cal_of (toInt64SS_eq x3 (by omega) (fun x hx => by have := r3 x hx; omega)), cal_of (implHoldsIn_eq x0 x1 x2 x3 l0 r0 l1 r1 l2 l3 r3), if_neg (by simp), cal_of (toGraph_eq x0 l0 r0), cal_of (eqGraph_eq x0 l0 r0), if_neg (by simp), cal_of (toFormula_eq x1 l1), cal_of (eqFormula_self x1 l1), if_neg (by simp), cal_of (toInt64S_eq x2 (by omega)), cal_of (eqInt64S_eq x2 x2 (by omega)), if_neg (by simp), cal_of (toInt64SS_eq x3 (by omega) (fun x hx => by have := r3 x hx; omega)), cal_of (eqInt64SS_eq x3 x3 (by omega) (fun x hx => by have := r3 x hx; omega)), if_neg (by simp)]
end Go.Proofs.Ytjcnkijmbjhcnaa
