/- FnExactPlanarIn: its statement. For every input that can be read, the call returns true and the arguments read as before; no condition. -/
import Derived.Test.YtmaaloijdjnblaaGreatDoorRows
import Derived.Test.YtmaaloijdjnblaaGreatDoorRow
import Derived.Test.YtmaaloijdjnblaaGreatDoorCards
import Derived.Test.YtmaaloijdjnblaaGreatDoorTie
import Derived.Test.YtmaaloijdjnblaaGreatDoorLaid
import Derived.SevenTiedAt
import Derived.Stop.Joined
import Derived.ProofKit
import Derived.Test.YtmaaloijdjnblaaGreatDoorTFnExactPlanarIn
import Derived.Test.YtmaaloijdjnblaaGreatDoorW
namespace Go.Proofs.YtmaaloijdjnblaaGreatDoor
open Go.ChangeShapes Go.WideShapes Go.ChangeAt Go.RowKit

theorem Tryz.FnExactPlanarIn.own : ownKnob Tryz.prog.godebug = none := by kernel_rfl
theorem Tryz.FnExactPlanarIn.laidOut : laidOutB Tryz.prog = true := by kernel_rfl
theorem FnExactPlanarIn_met (os : Os) (args : Array Value) : laidMetH Tryz.prog [("math/bits.deBruijn32tab", Rows.laid_math_bits_deBruijn32tab)] ((World.doorLaid Tryz.prog 400 os).forCall (fun _ _ => 0) ⟨#[], args, []⟩).memory :=
  laidMetH_of_parts3 (fuel := 8) (laidMet_of_run' 8 (by kernel_rfl) (by kernel_rfl)) (by kernel_rfl) (by kernel_rfl)
theorem FnExactPlanarIn_tab {W : World} (h : laidMetH Tryz.prog [("math/bits.deBruijn32tab", Rows.laid_math_bits_deBruijn32tab)] W) : GT 0 W :=
  tab_of_laid (T := 109) (E := 5) (k := 32) (by kernel_rfl) (by kernel_rfl) (by kernel_rfl) (by kernel_rfl) (by kernel_rfl) (by rfl) (by decide) h
set_option maxRecDepth 100000 in
theorem FnExactPlanarIn_true (os : Os) (started : os.Started) (H : Type) (enc : TypeId × Value → H) :
    ReturnsInHanded {} Tryz.checked os 3 .any (fun w args => (Rows.fnExactPlanarInSpec.pre enc Tryz.prog Tryz.f3 [] false w args ∧ laidMetH Tryz.prog [("math/bits.deBruijn32tab", Rows.laid_math_bits_deBruijn32tab)] w) ∧ sizedMet enc Tryz.prog Tryz.f3 (OpenSpec.ofChange Rows.fnExactPlanarInSpec) false w args) (Rows.fnExactPlanarInSpec.post enc Tryz.prog Tryz.f3 false true false false) := by
  refine returnsInHanded_of_change_and (C := Tryz.checked) (X := fun w _ => laidMetH Tryz.prog [("math/bits.deBruijn32tab", Rows.laid_math_bits_deBruijn32tab)] w) (fun _ _ _ hh h => h.of_heap hh) Tryz.FnExactPlanarIn.own started (by kernel_rfl) Tryz.func3
    (ChangeSpec.witness_shaped (enc := enc) (C := Tryz.checked) (os := os) (X := fun w _ => laidMetH Tryz.prog [("math/bits.deBruijn32tab", Rows.laid_math_bits_deBruijn32tab)] w) false (World.doorLaid Tryz.prog 400 os) #[.agg #[.slice none 0 0]] 8 rfl (World.shaped_of_RefB (by kernel_rfl) (by kernel_rfl)) (by kernel_rfl) (by kernel_rfl) (by kernel_rfl) (FnExactPlanarIn_met os _)) ?_
  intro W base args ds gs before hval0 hW _ _ hL _
  have hG : GT 0 W := FnExactPlanarIn_tab hL
  have hval : ∀ (j : Nat) t v, Tryz.f3.params[j]? = some t → args[j]? = some v → Value.okWide Tryz.prog W .any base t v := hval0
  have hW' := hW
  obtain ⟨p, q, hA0, hV, rfl, _, _⟩ := hW
  have hA : DataW.TrodAll enc Tryz.prog W 0 (fun _ => true) true Tryz.f3.params.toList args.toList ds p := hA0
  rw [Tryz.params3] at hA hval
  obtain ⟨v0, d0, rfl, rfl, t0⟩ := trodAll_one hA
  obtain ⟨rfl, rfl⟩ := trodVars_none hV
  simp only [List.append_nil] at hW'
  have hlt0 : ∀ x ∈ p, x.block < W.heap.size := fun x hx => hW'.lt x (by simp [hx])
  have back0 : ∀ W', Ext W W' → DataW.Trod enc Tryz.prog W' 0 (fun b => decide (b < W.heap.size)) true 24 v0 d0 p :=
    fun W' hx => Below.trod Tryz.FnExactPlanarIn.laidOut (by kernel_rfl) (of_decide_eq_true (by kernel_rfl)) t0 hx.below hlt0
  obtain ⟨fuel0, e0⟩ := id t0
  obtain ⟨fp0, x0, r0⟩ := (opn_struct Tryz.underlying24 rfl (by kernel_rfl) (opnF_one (r := (Rp.sl 39 (Rp.sl 2 Rp.int))) rfl (by kernel_rfl) (opn_sl Tryz.underlying22 (by kernel_rfl) (opn_sl Tryz.underlying39 (by kernel_rfl) (opn_int Tryz.underlying2))))) H enc W 0 (fun _ => true) true fuel0 _ _ e0
  have sz0 := Fits.fits r0
  obtain ⟨cs0, rfl, hcl0⟩ : ∃ cs : List Value, v0 = .agg cs.toArray ∧ v0.cells.toList = cs := by
    obtain ⟨c, h⟩ := okWide_agg Tryz.underlying24 (hval 0 24 v0 rfl rfl)
    exact ⟨c.toList, by simp [h], by simp [h, Value.cells]⟩
  simp only [Value.cells] at r0
  have hc0 := hcl0; clear hcl0
  obtain ⟨va0_0, rfl, ha0_0⟩ := r0
  have ha0_0 : Ro (Rp.sl 2 Rp.int) W _ va0_0 x0 := ha0_0
  refine (W_laws_FnExactPlanarIn ha0_0 hG (T_FnExactPlanarIn x0 sz0)).mono fun e W' hR => ?_
  obtain ⟨u, rfl, rfl, hx⟩ := hR
  exact ⟨_, rfl, _, _, _, _, _, [], hW', trodAll_mk1 (shut_bool Tryz.underlying4 true), trodAll_mk1 (back0 _ hx), rfl, hx.below.frame _, fun h => by cases h⟩

theorem FnExactPlanarIn_holds : Rows.FnExactPlanarInSaid :=
  OpenClaim.holds_of_wide 3 Tryz.f3 rfl rfl rfl rfl rfl rfl rfl ⟨rfl, rfl, rfl, rfl, rfl⟩ rfl rfl rfl rfl rfl (by kernel_rfl) Tryz.func3 (by kernel_rfl)
    (of_decide_eq_true (by kernel_rfl)) (by unfold Func.isWrapper; rw [if_neg (of_decide_eq_false (by kernel_rfl))]; exact ⟨rfl, rfl⟩)
    (fun os started H enc _ => FnExactPlanarIn_true os started H enc)
theorem FnExactPlanarIn_card : Rows.FnExactPlanarInCardSaid :=
  Claim7.holds_tied_plain_at .later [] [.data] true (true, "7a0005b9af923533363d07ee0ee32ef3f366470c0c2369a5171eddff2715be45") false
    FnExactPlanarIn_holds (fun _ h => by cases h) (by kernel_rfl) (fun _ h => by cases h) fnExactPlanarIn_row_tie rfl ⟨rfl, rfl⟩ (by kernel_rfl) rfl
    (fun f fn hf hfn => by
      obtain rfl : f = 3 := Option.some.inj ((show Tryz.prog.funcNamed "loop.example/g00871/laws.FnExactPlanarIn" = some 3 by kernel_rfl).symm.trans hf) |>.symm
      obtain rfl : fn = Tryz.f3 := (Option.some.inj (Tryz.func3.symm.trans hfn)).symm
      exact ⟨by kernel_rfl, fun j t ht => by
        rw [Tryz.params3] at ht
        have hm : t ∈ [24] := by simpa using Array.mem_of_getElem? ht
        have hall : ([24].all fun u => !Tryz.prog.wantsStandIn u) = true := by kernel_rfl
        exact (show Tryz.prog.wantsStandIn t = false by simpa using List.all_eq_true.1 hall t hm)⟩)
    (by kernel_rfl)
#print axioms FnExactPlanarIn_card
end Go.Proofs.YtmaaloijdjnblaaGreatDoor
