/- FnColours: its statement. For every input that can be read, the call returns true and the arguments read as before; no condition. -/
import Derived.Test.YtadjcnllmkdgiaaDoorRows
import Derived.Test.YtadjcnllmkdgiaaDoorRow
import Derived.Test.YtadjcnllmkdgiaaDoorCards
import Derived.Test.YtadjcnllmkdgiaaDoorTie
import Derived.Test.YtadjcnllmkdgiaaDoorLaid
import Derived.SevenTiedAt
import Derived.Stop.Joined
import Derived.ProofKit
import Derived.Test.YtadjcnllmkdgiaaDoorTFnColours
import Derived.Test.YtadjcnllmkdgiaaDoorW
namespace Go.Proofs.YtadjcnllmkdgiaaDoor
open Go.ChangeShapes Go.WideShapes Go.ChangeAt Go.RowKit

theorem Tryd.FnColours.own : ownKnob Tryd.prog.godebug = none := by kernel_rfl
theorem Tryd.FnColours.laidOut : laidOutB Tryd.prog = true := by kernel_rfl
theorem FnColours_met (os : Os) (args : Array Value) : laidMetH Tryd.prog [("math/bits.deBruijn32tab", Rows.laid_math_bits_deBruijn32tab)] ((World.doorLaid Tryd.prog 400 os).forCall (fun _ _ => 0) ⟨#[], args, []⟩).memory :=
  laidMetH_of_parts3 (fuel := 8) (laidMet_of_run' 8 (by kernel_rfl) (by kernel_rfl)) (by kernel_rfl) (by kernel_rfl)
theorem FnColours_tab {W : World} (h : laidMetH Tryd.prog [("math/bits.deBruijn32tab", Rows.laid_math_bits_deBruijn32tab)] W) : GT 0 W :=
  tab_of_laid (T := 100) (E := 5) (k := 32) (by kernel_rfl) (by kernel_rfl) (by kernel_rfl) (by kernel_rfl) (by kernel_rfl) (by rfl) (by decide) h
set_option maxRecDepth 100000 in
theorem FnColours_true (os : Os) (started : os.Started) (H : Type) (enc : TypeId × Value → H) :
    ReturnsInHanded {} Tryd.checked os 3 .any (fun w args => (Rows.fnColoursSpec.pre enc Tryd.prog Tryd.f3 [] false w args ∧ laidMetH Tryd.prog [("math/bits.deBruijn32tab", Rows.laid_math_bits_deBruijn32tab)] w) ∧ sizedMet enc Tryd.prog Tryd.f3 (OpenSpec.ofChange Rows.fnColoursSpec) false w args) (Rows.fnColoursSpec.post enc Tryd.prog Tryd.f3 false true false false) := by
  refine returnsInHanded_of_change_and (C := Tryd.checked) (X := fun w _ => laidMetH Tryd.prog [("math/bits.deBruijn32tab", Rows.laid_math_bits_deBruijn32tab)] w) (fun _ _ _ hh h => h.of_heap hh) Tryd.FnColours.own started (by kernel_rfl) Tryd.func3
    (ChangeSpec.witness_shaped (enc := enc) (C := Tryd.checked) (os := os) (X := fun w _ => laidMetH Tryd.prog [("math/bits.deBruijn32tab", Rows.laid_math_bits_deBruijn32tab)] w) false (World.doorLaid Tryd.prog 400 os) #[.slice none 0 0] 8 rfl (World.shaped_of_RefB (by kernel_rfl) (by kernel_rfl)) (by kernel_rfl) (by kernel_rfl) (by kernel_rfl) (FnColours_met os _)) ?_
  intro W base args ds gs before hval0 hW _ _ hL _
  have hG : GT 0 W := FnColours_tab hL
  have hval : ∀ (j : Nat) t v, Tryd.f3.params[j]? = some t → args[j]? = some v → Value.okWide Tryd.prog W .any base t v := hval0
  have hW' := hW
  obtain ⟨p, q, hA0, hV, rfl, _, _⟩ := hW
  have hA : DataW.TrodAll enc Tryd.prog W 0 (fun _ => true) true Tryd.f3.params.toList args.toList ds p := hA0
  rw [Tryd.params3] at hA hval
  obtain ⟨v0, d0, rfl, rfl, t0⟩ := trodAll_one hA
  obtain ⟨rfl, rfl⟩ := trodVars_none hV
  simp only [List.append_nil] at hW'
  have hlt0 : ∀ x ∈ p, x.block < W.heap.size := fun x hx => hW'.lt x (by simp [hx])
  have back0 : ∀ W', Ext W W' → DataW.Trod enc Tryd.prog W' 0 (fun b => decide (b < W.heap.size)) true 22 v0 d0 p :=
    fun W' hx => Below.trod Tryd.FnColours.laidOut (by kernel_rfl) (of_decide_eq_true (by kernel_rfl)) t0 hx.below hlt0
  obtain ⟨fuel0, e0⟩ := id t0
  obtain ⟨fp0, x0, r0⟩ := (opn_sl Tryd.underlying22 (by kernel_rfl) (opn_u8 Tryd.underlying5)) H enc W 0 (fun _ => true) true fuel0 _ _ e0
  have sz0 := Fits.fits r0
  obtain ⟨a0_, len0, cap0, rfl⟩ := okWide_slice Tryd.underlying22 (hval 0 22 v0 rfl rfl)
  obtain ⟨w0, hw0, h0⟩ := r0
  simp [Value.cells] at hw0; subst hw0
  have h0 : Ro Rp.u8 W fp0 _ x0 := h0
  refine (W_laws_FnColours h0 hG (T_FnColours x0 sz0)).mono fun e W' hR => ?_
  obtain ⟨u, rfl, rfl, hx⟩ := hR
  exact ⟨_, rfl, _, _, _, _, _, [], hW', trodAll_mk1 (shut_bool Tryd.underlying4 true), trodAll_mk1 (back0 _ hx), rfl, hx.below.frame _, fun h => by cases h⟩

theorem FnColours_holds : Rows.FnColoursSaid :=
  OpenClaim.holds_of_wide 3 Tryd.f3 rfl rfl rfl rfl rfl rfl rfl ⟨rfl, rfl, rfl, rfl, rfl⟩ rfl rfl rfl rfl rfl (by kernel_rfl) Tryd.func3 (by kernel_rfl)
    (of_decide_eq_true (by kernel_rfl)) (by unfold Func.isWrapper; rw [if_neg (of_decide_eq_false (by kernel_rfl))]; exact ⟨rfl, rfl⟩)
    (fun os started H enc _ => FnColours_true os started H enc)
theorem FnColours_card : Rows.FnColoursCardSaid :=
  Claim7.holds_tied_plain_at .later [] [.data] true (true, "d19e7a2494fc16f479a90f17fc6c6f03f3b534b554d753f05069f8c4d6c3b6ca") false
    FnColours_holds (fun _ h => by cases h) (by kernel_rfl) (fun _ h => by cases h) fnColours_row_tie rfl ⟨rfl, rfl⟩ (by kernel_rfl) rfl
    (fun f fn hf hfn => by
      obtain rfl : f = 3 := Option.some.inj ((show Tryd.prog.funcNamed "loop.example/g00871/laws.FnColours" = some 3 by kernel_rfl).symm.trans hf) |>.symm
      obtain rfl : fn = Tryd.f3 := (Option.some.inj (Tryd.func3.symm.trans hfn)).symm
      exact ⟨by kernel_rfl, fun j t ht => by
        rw [Tryd.params3] at ht
        have hm : t ∈ [22] := by simpa using Array.mem_of_getElem? ht
        have hall : ([22].all fun u => !Tryd.prog.wantsStandIn u) = true := by kernel_rfl
        exact (show Tryd.prog.wantsStandIn t = false by simpa using List.all_eq_true.1 hall t hm)⟩)
    (by kernel_rfl)
#print axioms FnColours_card
end Go.Proofs.YtadjcnllmkdgiaaDoor
