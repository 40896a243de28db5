/- FnExactColoursBy: its statement. For every input that can be read, the call returns true and the arguments read as before; no condition. -/
import Derived.Test.YtnebbhginakaiaaDoorRows
import Derived.Test.YtnebbhginakaiaaDoorRow
import Derived.Test.YtnebbhginakaiaaDoorCards
import Derived.Test.YtnebbhginakaiaaDoorTie
import Derived.Test.YtnebbhginakaiaaDoorLaid
import Derived.SevenTiedAt
import Derived.Stop.Joined
import Derived.ProofKit
import Derived.Test.YtnebbhginakaiaaDoorTFnExactColoursBy
import Derived.Test.YtnebbhginakaiaaDoorW
namespace Go.Proofs.YtnebbhginakaiaaDoor
open Go.ChangeShapes Go.WideShapes Go.ChangeAt Go.RowKit

theorem Tryd.FnExactColoursBy.own : ownKnob Tryd.prog.godebug = none := by kernel_rfl
theorem Tryd.FnExactColoursBy.laidOut : laidOutB Tryd.prog = true := by kernel_rfl
theorem FnExactColoursBy_met (os : Os) (args : Array Value) : laidMetH Tryd.prog [("math/bits.deBruijn32tab", Rows.laid_math_bits_deBruijn32tab)] ((World.doorLaid Tryd.prog 400 os).forCall (fun _ _ => 0) ⟨#[], args, []⟩).memory :=
  laidMetH_of_parts3 (fuel := 8) (laidMet_of_run' 8 (by kernel_rfl) (by kernel_rfl)) (by kernel_rfl) (by kernel_rfl)
theorem FnExactColoursBy_tab {W : World} (h : laidMetH Tryd.prog [("math/bits.deBruijn32tab", Rows.laid_math_bits_deBruijn32tab)] W) : GT 0 W :=
  tab_of_laid (T := 112) (E := 5) (k := 32) (by kernel_rfl) (by kernel_rfl) (by kernel_rfl) (by kernel_rfl) (by kernel_rfl) (by rfl) (by decide) h
set_option maxRecDepth 100000 in
theorem FnExactColoursBy_true (os : Os) (started : os.Started) (H : Type) (enc : TypeId × Value → H) :
    ReturnsInHanded {} Tryd.checked os 4 .any (fun w args => (Rows.fnExactColoursBySpec.pre enc Tryd.prog Tryd.f4 [] false w args ∧ laidMetH Tryd.prog [("math/bits.deBruijn32tab", Rows.laid_math_bits_deBruijn32tab)] w) ∧ sizedMet enc Tryd.prog Tryd.f4 (OpenSpec.ofChange Rows.fnExactColoursBySpec) false w args) (Rows.fnExactColoursBySpec.post enc Tryd.prog Tryd.f4 false true false false) := by
  refine returnsInHanded_of_change_and (C := Tryd.checked) (X := fun w _ => laidMetH Tryd.prog [("math/bits.deBruijn32tab", Rows.laid_math_bits_deBruijn32tab)] w) (fun _ _ _ hh h => h.of_heap hh) Tryd.FnExactColoursBy.own started (by kernel_rfl) Tryd.func4
    (ChangeSpec.witness_shaped (enc := enc) (C := Tryd.checked) (os := os) (X := fun w _ => laidMetH Tryd.prog [("math/bits.deBruijn32tab", Rows.laid_math_bits_deBruijn32tab)] w) false (World.doorLaid Tryd.prog 400 os) #[.agg #[.slice none 0 0], .agg #[.slice none 0 0, .slice none 0 0, .slice none 0 0, .slice none 0 0], .int .i64 0] 8 rfl (World.shaped_of_RefB (by kernel_rfl) (by kernel_rfl)) (by kernel_rfl) (by kernel_rfl) (by kernel_rfl) (FnExactColoursBy_met os _)) ?_
  intro W base args ds gs before hval0 hW _ _ hL _
  have hG : GT 0 W := FnExactColoursBy_tab hL
  have hval : ∀ (j : Nat) t v, Tryd.f4.params[j]? = some t → args[j]? = some v → Value.okWide Tryd.prog W .any base t v := hval0
  have hW' := hW
  obtain ⟨p, q, hA0, hV, rfl, _, _⟩ := hW
  have hA : DataW.TrodAll enc Tryd.prog W 0 (fun _ => true) true Tryd.f4.params.toList args.toList ds p := hA0
  rw [Tryd.params4] at hA hval
  obtain ⟨v0, v1, v2, d0, d1, d2, p0, p1, p2, rfl, rfl, rfl, t0, t1, t2⟩ := trodAll_three hA
  obtain ⟨rfl, rfl⟩ := trodVars_none hV
  simp only [List.append_nil] at hW'
  have hlt0 : ∀ x ∈ p0, x.block < W.heap.size := fun x hx => hW'.lt x (by simp [hx])
  have hlt1 : ∀ x ∈ p1, x.block < W.heap.size := fun x hx => hW'.lt x (by simp [hx])
  have hlt2 : ∀ x ∈ p2, x.block < W.heap.size := fun x hx => hW'.lt x (by simp [hx])
  have back0 : ∀ W', Ext W W' → DataW.Trod enc Tryd.prog W' 0 (fun b => decide (b < W.heap.size)) true 24 v0 d0 p0 :=
    fun W' hx => Below.trod Tryd.FnExactColoursBy.laidOut (by kernel_rfl) (of_decide_eq_true (by kernel_rfl)) t0 hx.below hlt0
  have back1 : ∀ W', Ext W W' → DataW.Trod enc Tryd.prog W' 0 (fun b => decide (b < W.heap.size)) true 27 v1 d1 p1 :=
    fun W' hx => Below.trod Tryd.FnExactColoursBy.laidOut (by kernel_rfl) (of_decide_eq_true (by kernel_rfl)) t1 hx.below hlt1
  have back2 : ∀ W', Ext W W' → DataW.Trod enc Tryd.prog W' 0 (fun b => decide (b < W.heap.size)) true 2 v2 d2 p2 :=
    fun W' hx => Below.trod Tryd.FnExactColoursBy.laidOut (by kernel_rfl) (of_decide_eq_true (by kernel_rfl)) t2 hx.below hlt2
  obtain ⟨fuel0, e0⟩ := id t0
  obtain ⟨fp0, x0, r0⟩ := (opn_struct Tryd.underlying24 rfl (by kernel_rfl) (opnF_one (r := (Rp.sl 25 (Rp.sl 2 Rp.int))) rfl (by kernel_rfl) (opn_sl Tryd.underlying22 (by kernel_rfl) (opn_sl Tryd.underlying25 (by kernel_rfl) (opn_int Tryd.underlying2))))) H enc W 0 (fun _ => true) true fuel0 _ _ e0
  have sz0 := Fits.fits r0
  obtain ⟨cs0, rfl, hcl0⟩ : ∃ cs : List Value, v0 = .agg cs.toArray ∧ v0.cells.toList = cs := by
    obtain ⟨c, h⟩ := okWide_agg Tryd.underlying24 (hval 0 24 v0 rfl rfl)
    exact ⟨c.toList, by simp [h], by simp [h, Value.cells]⟩
  simp only [Value.cells] at r0
  have hc0 := hcl0; clear hcl0
  obtain ⟨va0_0, rfl, ha0_0⟩ := r0
  have ha0_0 : Ro (Rp.sl 2 Rp.int) W _ va0_0 x0 := ha0_0
  obtain ⟨fuel1, e1⟩ := id t1
  obtain ⟨fp1, x1, r1⟩ := (opn_struct Tryd.underlying27 rfl (by kernel_rfl) (opnF_cons (r := (Rp.sl 2 Rp.int)) rfl (by kernel_rfl) (opn_sl Tryd.underlying25 (by kernel_rfl) (opn_int Tryd.underlying2)) (opnF_cons (r := (Rp.sl 2 Rp.int)) rfl (by kernel_rfl) (opn_sl Tryd.underlying25 (by kernel_rfl) (opn_int Tryd.underlying2)) (opnF_cons (r := (Rp.sl 25 (Rp.sl 2 Rp.int))) rfl (by kernel_rfl) (opn_sl Tryd.underlying22 (by kernel_rfl) (opn_sl Tryd.underlying25 (by kernel_rfl) (opn_int Tryd.underlying2))) (opnF_one (r := (Rp.sl 25 (Rp.sl 2 Rp.int))) rfl (by kernel_rfl) (opn_sl Tryd.underlying22 (by kernel_rfl) (opn_sl Tryd.underlying25 (by kernel_rfl) (opn_int Tryd.underlying2)))))))) H enc W 0 (fun _ => true) true fuel1 _ _ e1
  have sz1 := Fits.fits r1
  obtain ⟨cs1, rfl, hcl1⟩ : ∃ cs : List Value, v1 = .agg cs.toArray ∧ v1.cells.toList = cs := by
    obtain ⟨c, h⟩ := okWide_agg Tryd.underlying27 (hval 1 27 v1 rfl rfl)
    exact ⟨c.toList, by simp [h], by simp [h, Value.cells]⟩
  simp only [Value.cells] at r1
  have hc1 := hcl1; clear hcl1
  obtain ⟨_, _, _, _, rfl, rfl, ha1_0, ha1_0r⟩ := r1
  obtain ⟨va1_0, rfl, ha1_0⟩ := ha1_0
  have ha1_0 : Ro Rp.int W _ va1_0 x1.1 := ha1_0
  obtain ⟨_, _, _, _, rfl, rfl, ha1_1, ha1_1r⟩ := ha1_0r
  obtain ⟨va1_1, rfl, ha1_1⟩ := ha1_1
  have ha1_1 : Ro Rp.int W _ va1_1 x1.2.1 := ha1_1
  obtain ⟨_, _, _, _, rfl, rfl, ha1_2, ha1_2r⟩ := ha1_1r
  obtain ⟨va1_2, rfl, ha1_2⟩ := ha1_2
  have ha1_2 : Ro (Rp.sl 2 Rp.int) W _ va1_2 x1.2.2.1 := ha1_2
  obtain ⟨va1_3, rfl, ha1_3⟩ := ha1_2r
  have ha1_3 : Ro (Rp.sl 2 Rp.int) W _ va1_3 x1.2.2.2 := ha1_3
  obtain ⟨fuel2, e2⟩ := id t2
  obtain ⟨fp2, x2, r2⟩ := (opn_int Tryd.underlying2) H enc W 0 (fun _ => true) true fuel2 _ _ e2
  have sz2 := Fits.fits r2
  obtain ⟨n2, rfl, _, _, _⟩ := open_int Tryd.underlying2 (hval 2 2 v2 rfl rfl) t2
  obtain ⟨hw2, h2, _⟩ := r2
  simp [Value.cells] at hw2; subst hw2
  refine (W_laws_FnExactColoursBy ha0_0 ha1_0 ha1_1 ha1_2 ha1_3 h2 hG (T_FnExactColoursBy x0 sz0 x1 sz1 n2 sz2)).mono fun e W' hR => ?_
  obtain ⟨u, rfl, rfl, hx⟩ := hR
  exact ⟨_, rfl, _, _, _, _, _, [], hW', trodAll_mk1 (shut_bool Tryd.underlying4 true), trodAll_mk3 (back0 _ hx) (back1 _ hx) (back2 _ hx), rfl, hx.below.frame _, fun h => by cases h⟩

theorem FnExactColoursBy_holds : Rows.FnExactColoursBySaid :=
  OpenClaim.holds_of_wide 4 Tryd.f4 rfl rfl rfl rfl rfl rfl rfl ⟨rfl, rfl, rfl, rfl, rfl⟩ rfl rfl rfl rfl rfl (by kernel_rfl) Tryd.func4 (by kernel_rfl)
    (of_decide_eq_true (by kernel_rfl)) (by unfold Func.isWrapper; rw [if_neg (of_decide_eq_false (by kernel_rfl))]; exact ⟨rfl, rfl⟩)
    (fun os started H enc _ => FnExactColoursBy_true os started H enc)
theorem FnExactColoursBy_card : Rows.FnExactColoursByCardSaid :=
  Claim7.holds_tied_plain_at .later [] [.data] true (true, "7d65dacf67cf2dfa41dd963b3ae096f70ea2540cf7dea1e220a72f9e57ad8625") false
    FnExactColoursBy_holds (fun _ h => by cases h) (by kernel_rfl) (fun _ h => by cases h) fnExactColoursBy_row_tie rfl ⟨rfl, rfl⟩ (by kernel_rfl) rfl
    (fun f fn hf hfn => by
      obtain rfl : f = 4 := Option.some.inj ((show Tryd.prog.funcNamed "loop.example/g00871/laws.FnExactColoursBy" = some 4 by kernel_rfl).symm.trans hf) |>.symm
      obtain rfl : fn = Tryd.f4 := (Option.some.inj (Tryd.func4.symm.trans hfn)).symm
      exact ⟨by kernel_rfl, fun j t ht => by
        rw [Tryd.params4] at ht
        have hm : t ∈ [24, 27, 2] := by simpa using Array.mem_of_getElem? ht
        have hall : ([24, 27, 2].all fun u => !Tryd.prog.wantsStandIn u) = true := by kernel_rfl
        exact (show Tryd.prog.wantsStandIn t = false by simpa using List.all_eq_true.1 hall t hm)⟩)
    (by kernel_rfl)
#print axioms FnExactColoursBy_card
end Go.Proofs.YtnebbhginakaiaaDoor
