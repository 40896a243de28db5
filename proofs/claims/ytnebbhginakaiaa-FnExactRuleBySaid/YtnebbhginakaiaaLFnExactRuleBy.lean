/- FnExactRuleBy: its statement. For every input that can be read, the call returns true and the arguments read as before; no condition. -/
import Derived.Test.YtnebbhginakaiaaRows
import Derived.Test.YtnebbhginakaiaaRow
import Derived.Test.YtnebbhginakaiaaTFnExactRuleBy
import Derived.Test.YtnebbhginakaiaaW
namespace Go.Proofs.Ytnebbhginakaiaa
open Go.ChangeShapes Go.WideShapes Go.ChangeAt Go.RowKit

theorem Try.FnExactRuleBy.own : ownKnob Try.prog.godebug = none := by kernel_rfl
theorem Try.FnExactRuleBy.laidOut : laidOutB Try.prog = true := by kernel_rfl
set_option maxRecDepth 100000 in
theorem FnExactRuleBy_true (os : Os) (started : os.Started) (H : Type) (enc : TypeId × Value → H) :
    ReturnsInHanded {} Try.checked os 6 .any (Rows.fnExactRuleBySpec.pre6 enc Try.prog Try.f6 Rows.fnExactRuleByRow.domain false) (Rows.fnExactRuleBySpec.post enc Try.prog Try.f6 false true false false) := by
  refine returnsInHanded_of_change (C := Try.checked) Try.FnExactRuleBy.own started (by kernel_rfl) Try.func6
    (ChangeSpec.witness6 (enc := enc) (C := Try.checked) false ⟨#[], #[.agg #[.slice none 0 0], .agg #[.slice none 0 0, .slice none 0 0, .slice none 0 0, .slice none 0 0]], []⟩ 8 (by kernel_rfl) (by kernel_rfl) (by kernel_rfl) (by kernel_rfl)) ?_
  intro W base args ds gs before hval0 hW _ _
  have hval : ∀ (j : Nat) t v, Try.f6.params[j]? = some t → args[j]? = some v → Value.okWide Try.prog W .any base t v := hval0
  have hW' := hW
  obtain ⟨p, q, hA0, hV, rfl, _, _⟩ := hW
  have hA : DataW.TrodAll enc Try.prog W 0 (fun _ => true) true Try.f6.params.toList args.toList ds p := hA0
  rw [Try.params6] at hA hval
  obtain ⟨v0, v1, d0, d1, p0, p1, rfl, rfl, rfl, t0, t1⟩ := trodAll_two hA
  obtain ⟨rfl, rfl⟩ := trodVars_none hV
  simp only [List.append_nil] at hW'
  have hlt0 : ∀ x ∈ p0, x.block < W.heap.size := fun x hx => hW'.lt x (by simp [hx])
  have hlt1 : ∀ x ∈ p1, x.block < W.heap.size := fun x hx => hW'.lt x (by simp [hx])
  have back0 : ∀ W', Ext W W' → DataW.Trod enc Try.prog W' 0 (fun b => decide (b < W.heap.size)) true 24 v0 d0 p0 :=
    fun W' hx => Below.trod Try.FnExactRuleBy.laidOut (by kernel_rfl) (of_decide_eq_true (by kernel_rfl)) t0 hx.below hlt0
  have back1 : ∀ W', Ext W W' → DataW.Trod enc Try.prog W' 0 (fun b => decide (b < W.heap.size)) true 27 v1 d1 p1 :=
    fun W' hx => Below.trod Try.FnExactRuleBy.laidOut (by kernel_rfl) (of_decide_eq_true (by kernel_rfl)) t1 hx.below hlt1
  obtain ⟨fuel0, e0⟩ := id t0
  obtain ⟨fp0, x0, r0⟩ := (opn_struct Try.underlying24 rfl (by kernel_rfl) (opnF_one (r := (Rp.sl 25 (Rp.sl 2 Rp.int))) rfl (by kernel_rfl) (opn_sl Try.underlying22 (by kernel_rfl) (opn_sl Try.underlying25 (by kernel_rfl) (opn_int Try.underlying2))))) H enc W 0 (fun _ => true) true fuel0 _ _ e0
  have sz0 := Fits.fits r0
  obtain ⟨cs0, rfl, hcl0⟩ : ∃ cs : List Value, v0 = .agg cs.toArray ∧ v0.cells.toList = cs := by
    obtain ⟨c, h⟩ := okWide_agg Try.underlying24 (hval 0 24 v0 rfl rfl)
    exact ⟨c.toList, by simp [h], by simp [h, Value.cells]⟩
  simp only [Value.cells] at r0
  have hc0 := hcl0; clear hcl0
  obtain ⟨va0_0, rfl, ha0_0⟩ := r0
  have ha0_0 : Ro (Rp.sl 2 Rp.int) W _ va0_0 x0 := ha0_0
  obtain ⟨fuel1, e1⟩ := id t1
  obtain ⟨fp1, x1, r1⟩ := (opn_struct Try.underlying27 rfl (by kernel_rfl) (opnF_cons (r := (Rp.sl 2 Rp.int)) rfl (by kernel_rfl) (opn_sl Try.underlying25 (by kernel_rfl) (opn_int Try.underlying2)) (opnF_cons (r := (Rp.sl 2 Rp.int)) rfl (by kernel_rfl) (opn_sl Try.underlying25 (by kernel_rfl) (opn_int Try.underlying2)) (opnF_cons (r := (Rp.sl 25 (Rp.sl 2 Rp.int))) rfl (by kernel_rfl) (opn_sl Try.underlying22 (by kernel_rfl) (opn_sl Try.underlying25 (by kernel_rfl) (opn_int Try.underlying2))) (opnF_one (r := (Rp.sl 25 (Rp.sl 2 Rp.int))) rfl (by kernel_rfl) (opn_sl Try.underlying22 (by kernel_rfl) (opn_sl Try.underlying25 (by kernel_rfl) (opn_int Try.underlying2)))))))) H enc W 0 (fun _ => true) true fuel1 _ _ e1
  have sz1 := Fits.fits r1
  obtain ⟨cs1, rfl, hcl1⟩ : ∃ cs : List Value, v1 = .agg cs.toArray ∧ v1.cells.toList = cs := by
    obtain ⟨c, h⟩ := okWide_agg Try.underlying27 (hval 1 27 v1 rfl rfl)
    exact ⟨c.toList, by simp [h], by simp [h, Value.cells]⟩
  simp only [Value.cells] at r1
  have hc1 := hcl1; clear hcl1
  obtain ⟨_, _, _, _, rfl, rfl, ha1_0, ha1_0r⟩ := r1
  obtain ⟨va1_0, rfl, ha1_0⟩ := ha1_0
  have ha1_0 : Ro Rp.int W _ va1_0 x1.1 := ha1_0
  obtain ⟨_, _, _, _, rfl, rfl, ha1_1, ha1_1r⟩ := ha1_0r
  obtain ⟨va1_1, rfl, ha1_1⟩ := ha1_1
  have ha1_1 : Ro Rp.int W _ va1_1 x1.2.1 := ha1_1
  obtain ⟨_, _, _, _, rfl, rfl, ha1_2, ha1_2r⟩ := ha1_1r
  obtain ⟨va1_2, rfl, ha1_2⟩ := ha1_2
  have ha1_2 : Ro (Rp.sl 2 Rp.int) W _ va1_2 x1.2.2.1 := ha1_2
  obtain ⟨va1_3, rfl, ha1_3⟩ := ha1_2r
  have ha1_3 : Ro (Rp.sl 2 Rp.int) W _ va1_3 x1.2.2.2 := ha1_3
  refine (W_laws_FnExactRuleBy ha0_0 ha1_0 ha1_1 ha1_2 ha1_3 (T_FnExactRuleBy x0 sz0 x1 sz1)).mono fun e W' hR => ?_
  obtain ⟨u, rfl, rfl, hx⟩ := hR
  exact ⟨_, rfl, _, _, _, _, _, [], hW', trodAll_mk1 (shut_bool Try.underlying4 true), trodAll_mk2 (back0 _ hx) (back1 _ hx), rfl, hx.below.frame _, fun h => by cases h⟩

theorem FnExactRuleBy_holds : Rows.FnExactRuleBySaid :=
  OpenClaim.holds_of_wide 6 Try.f6 rfl rfl rfl rfl rfl rfl rfl ⟨rfl, rfl, rfl, rfl, rfl⟩ rfl rfl rfl rfl rfl (by kernel_rfl) Try.func6 (by kernel_rfl)
    (of_decide_eq_true (by kernel_rfl)) (by unfold Func.isWrapper; rw [if_neg (of_decide_eq_false (by kernel_rfl))]; exact ⟨rfl, rfl⟩)
    (fun os started H enc _ => FnExactRuleBy_true os started H enc)
#print axioms FnExactRuleBy_holds
end Go.Proofs.Ytnebbhginakaiaa
