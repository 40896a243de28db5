/- Formulas: right graphs and formulas, the judge that is made, both roots; the laws' helpers over formulas. -/
import Derived.Test.YtjcnkijmbjhcnaaJudgeI
import Derived.Test.YtjcnkijmbjhcnaaLawFact
import Derived.Test.YtjcnkijmbjhcnaaLawGraph
namespace Go.Proofs.Ytjcnkijmbjhcnaa
theorem szFormula_ex (f : List (Int × Int × Int)) (n : Int) (h0 : 0 ≤ n) (h1 : n ≤ 1048576) (hf : Sz.ok f) :
    ∃ m, F_laws_szFormula f n = some m ∧ (m < 0 ∨ (0 ≤ m ∧ m ≤ n ∧ f.length ≤ 1048576 ∧ True)) := by
  unfold F_laws_szFormula
  rw [szFactS_eq f n h0 h1 hf]
  have hl := less_neg (n := n) (m := (f.length : Int))
  by_cases h : less n (f.length : Int) < 0
  · exact ⟨-1, by rw [cal_some_eq, if_pos h], .inl (by decide)⟩
  · refine ⟨less n (f.length : Int), by rw [cal_some_eq, if_neg h], .inr ⟨by omega, ?_, by omega, trivial⟩⟩
    rw [less_of (by omega)]; omega
theorem toFormula_eq (f : List (Int × Int × Int)) (h : f.length ≤ 1048576) : F_laws_toFormula f = some f := by
  unfold F_laws_toFormula; rw [toFactS_eq f (by omega)]; rfl
theorem eqFormula_self (f : List (Int × Int × Int)) (h : f.length ≤ 1048576) : F_laws_eqFormula f f = some true := by rw [eqFormula_eq _ _ (by omega)]; simp
open Classical in
theorem right_eq (g : List (List Int)) (f : List (Int × Int × Int)) (hl : ∀ x ∈ g, x.length ≤ 1048576) (hf : f.length ≤ 1048576) : F_spec_l30Right g f = some (decide ((GOk g ∧ g.length ≤ 8) ∧ formulaOk f = true)) := by
  unfold F_spec_l30Right
  rw [cal_of (l26Small_eqJ g hl)]
  by_cases h : GOk g ∧ g.length ≤ 8
  · rw [if_pos (by simp [h]), cal_of (specFormulaOk_eq f hf)]; simp [h]
  · rw [if_neg (by simp [h]), decide_eq_false (fun c => h c.1)]
theorem newJudge_n (g : List (List Int)) (f : List (Int × Int × Int)) (hgl : g.length ≤ 1048576) (hl : ∀ x ∈ g, x.length ≤ 1048576) (hf : f.length ≤ 1048576) (h : ¬ ((GOk g ∧ g.length ≤ 8) ∧ formulaOk f = true)) : F_impl_newJudge g f = some (true, ([], [], [], [])) := by
  unfold F_impl_newJudge
  rw [cal_of (isSmall_eqJ g hgl hl)]
  by_cases hg : GOk g ∧ g.length ≤ 8
  · rw [if_neg (by simp [hg]), cal_of (implFormulaOk_eq f hf), if_pos (fun c => h ⟨hg, c⟩)]
  · rw [if_pos (by simp [hg])]
theorem newJudge_y (g : List (List Int)) (f : List (Int × Int × Int)) (hgl : g.length ≤ 1048576) (hl : ∀ x ∈ g, x.length ≤ 1048576) (hfl : f.length ≤ 1048576) (hg : GOk g ∧ g.length ≤ 8) (hf : formulaOk f = true) :
    ∃ d : JD, F_impl_newJudge g f = some (false, d) ∧ d.1 = bvs (nb g) ∧ d.2.1 = f ∧ FrI f f.length d.2.2.1 ∧ d.2.2.2.length = f.length := by
  obtain ⟨fr, e1, e2⟩ := freeIn_eq hf
  obtain ⟨lg, e3, e4⟩ := largeIn_len hf
  refine ⟨(bvs (nb g), f, fr, lg), ?_, rfl, rfl, e2, e4⟩
  unfold F_impl_newJudge
  rw [cal_of (isSmall_eqJ g hgl hl), if_neg (by simp [hg]), cal_of (implFormulaOk_eq f hfl), if_neg (by simp [hf]), cal_of (netsOf_eq hg.1), cal_of e1, cal_of e3]
theorem rootS_eq {g : List (List Int)} {f : List (Int × Int × Int)} (hg : GOk g ∧ g.length ≤ 8) (hf : formulaOk f = true) (v s : Nat → Nat) (hr : InR g.length v s) : F_spec_l30Root g f (v3 v) (v2 s) = some (sat (nb g) f (f.length - 1) v s) := by
  have h1 := (formulaOk_iff.1 hf).1
  unfold F_spec_l30Root
  rw [ck_of (inI (by omega) (by omega)), cal_of (l25Bits_eq hg.1), show (f.length : Int) - 1 = ((f.length - 1 : Nat) : Int) by omega,
    cal_of (says_eq hf (by rw [nb_len]; exact hg.2) (fun v h => nb_lt16 hg.1 h) (f.length - 1) v s (by omega) (by rw [nb_len]; exact hr))]
theorem rootI_eq {g : List (List Int)} {f : List (Int × Int × Int)} {d : JD} (hg : GOk g ∧ g.length ≤ 8) (hf : formulaOk f = true) (hd : d.1 = bvs (nb g) ∧ d.2.1 = f ∧ FrI f f.length d.2.2.1 ∧ d.2.2.2.length = f.length) (v s : Nat → Nat) (hr : InR g.length v s) :
    F_impl_judge_root d (v 0 : Nat) (v 1 : Nat) (v 2 : Nat) (bw (s 0)) (bw (s 1)) = some (sat (nb g) f (f.length - 1) v s, d) := by
  have h1 := (formulaOk_iff.1 hf).1
  unfold F_impl_judge_root
  rw [hd.2.1, ck_of (inI (by omega) (by omega)), show (f.length : Int) - 1 = ((f.length - 1 : Nat) : Int) by omega,
    cal_of (judge_eq hd.1 hd.2.1 hd.2.2.1 hd.2.2.2 hf (by rw [nb_len]; exact hg.2) (fun v h => nb_lt16 hg.1 h) (f.length - 1) v s (by omega) (by rw [nb_len]; exact hr))]
end Go.Proofs.Ytjcnkijmbjhcnaa
