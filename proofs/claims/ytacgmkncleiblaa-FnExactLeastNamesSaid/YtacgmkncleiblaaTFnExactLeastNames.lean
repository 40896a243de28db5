/- FnExactLeastNames: the plain law. -/
import Derived.Test.YtacgmkncleiblaaLeastNames
namespace Go.Proofs.Ytacgmkncleiblaa
theorem T_FnExactLeastNames (a : List Int) : F_laws_FnExactLeastNames a = some true := by
  unfold F_laws_FnExactLeastNames
  by_cases h : a.length ≤ 1048576
  · rw [if_neg (by omega)]
    have hto := toInt64S_eq a (by omega)
    have hn := (namesOf_len a).2
    rw [cal_of hto, cal_of (spec_LeastNames_eq a), cal_of hto, cal_of (impl_LeastNames_eq a)]
    generalize hb : (if 16 < a.length then [] else (namesOf a).2) = b
    have hbl : b.length ≤ 1048576 := by
      rw [← hb]; split
      · simp
      · omega
    have heb : F_laws_eqInt64S b b = some true := by rw [eqInt64S_eq b b (by omega)]; simp
    have hea : F_laws_eqInt64S a a = some true := by rw [eqInt64S_eq a a (by omega)]; simp
    have hma := markInt64S_eq a 1 (by omega) (by omega) (by omega)
    have hmb := markInt64S_eq b 1 (by omega) (by omega) (by omega)
    have hh := heldInt64S_marks 1 b.length (by omega) (by omega) (by omega)
    rw [cal_of heb, if_neg (by simp), cal_of hto, cal_of hea, if_neg (by simp), cal_of hma, if_neg (by simp only; omega), cal_of heb, if_neg (by simp), cal_of hmb]
    simp only
    rw [cal_of hh, if_neg (by omega), if_neg (by simp), cal_of hto, cal_of (impl_LeastNames_eq a), hb, cal_of heb, if_neg (by simp), cal_of hh, if_neg (by omega), if_neg (by simp)]
  · rw [if_pos (by omega)]
end Go.Proofs.Ytacgmkncleiblaa
