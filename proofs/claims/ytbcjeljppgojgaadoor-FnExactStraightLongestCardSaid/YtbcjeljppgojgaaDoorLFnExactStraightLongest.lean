/- FnExactStraightLongest: its statement. For every input that can be read, the call returns true and the arguments read as before; no condition. -/
import Derived.Test.YtbcjeljppgojgaaDoorRows
import Derived.Test.YtbcjeljppgojgaaDoorRow
import Derived.Test.YtbcjeljppgojgaaDoorCards
import Derived.Test.YtbcjeljppgojgaaDoorTie
import Derived.Test.YtbcjeljppgojgaaDoorLaid
import Derived.SevenTiedAt
import Derived.Stop.Joined
import Derived.ProofKit
import Derived.Test.YtbcjeljppgojgaaDoorTFnExactStraightLongest
import Derived.Test.YtbcjeljppgojgaaDoorW
namespace Go.Proofs.YtbcjeljppgojgaaDoor
open Go.ChangeShapes Go.WideShapes Go.ChangeAt Go.RowKit

theorem Tryd.FnExactStraightLongest.own : ownKnob Tryd.prog.godebug = none := by kernel_rfl
theorem Tryd.FnExactStraightLongest.laidOut : laidOutB Tryd.prog = true := by kernel_rfl
theorem FnExactStraightLongest_met (os : Os) (args : Array Value) : laidMetH Tryd.prog [("math/bits.deBruijn32tab", Rows.laid_math_bits_deBruijn32tab)] ((World.doorLaid Tryd.prog 400 os).forCall (fun _ _ => 0) ⟨#[], args, []⟩).memory :=
  laidMetH_of_parts3 (fuel := 8) (laidMet_of_run' 8 (by kernel_rfl) (by kernel_rfl)) (by kernel_rfl) (by kernel_rfl)
theorem FnExactStraightLongest_tab {W : World} (h : laidMetH Tryd.prog [("math/bits.deBruijn32tab", Rows.laid_math_bits_deBruijn32tab)] W) : GT 0 W :=
  tab_of_laid (T := 68) (E := 5) (k := 32) (by kernel_rfl) (by kernel_rfl) (by kernel_rfl) (by kernel_rfl) (by kernel_rfl) (by rfl) (by decide) h
set_option maxRecDepth 100000 in
theorem FnExactStraightLongest_true (os : Os) (started : os.Started) (H : Type) (enc : TypeId × Value → H) :
    ReturnsInHanded {} Tryd.checked os 4 .any (fun w args => (Rows.fnExactStraightLongestSpec.pre enc Tryd.prog Tryd.f4 [] false w args ∧ laidMetH Tryd.prog [("math/bits.deBruijn32tab", Rows.laid_math_bits_deBruijn32tab)] w) ∧ sizedMet enc Tryd.prog Tryd.f4 (OpenSpec.ofChange Rows.fnExactStraightLongestSpec) false w args) (Rows.fnExactStraightLongestSpec.post enc Tryd.prog Tryd.f4 false true false false) := by
  refine returnsInHanded_of_change_and (C := Tryd.checked) (X := fun w _ => laidMetH Tryd.prog [("math/bits.deBruijn32tab", Rows.laid_math_bits_deBruijn32tab)] w) (fun _ _ _ hh h => h.of_heap hh) Tryd.FnExactStraightLongest.own started (by kernel_rfl) Tryd.func4
    (ChangeSpec.witness_shaped (enc := enc) (C := Tryd.checked) (os := os) (X := fun w _ => laidMetH Tryd.prog [("math/bits.deBruijn32tab", Rows.laid_math_bits_deBruijn32tab)] w) false (World.doorLaid Tryd.prog 400 os) #[.slice none 0 0, .slice none 0 0] 8 rfl (World.shaped_of_RefB (by kernel_rfl) (by kernel_rfl)) (by kernel_rfl) (by kernel_rfl) (by kernel_rfl) (FnExactStraightLongest_met os _)) ?_
  intro W base args ds gs before hval0 hW _ _ hL _
  have hG : GT 0 W := FnExactStraightLongest_tab hL
  have hval : ∀ (j : Nat) t v, Tryd.f4.params[j]? = some t → args[j]? = some v → Value.okWide Tryd.prog W .any base t v := hval0
  have hW' := hW
  obtain ⟨p, q, hA0, hV, rfl, _, _⟩ := hW
  have hA : DataW.TrodAll enc Tryd.prog W 0 (fun _ => true) true Tryd.f4.params.toList args.toList ds p := hA0
  rw [Tryd.params4] at hA hval
  obtain ⟨v0, v1, d0, d1, p0, p1, rfl, rfl, rfl, t0, t1⟩ := trodAll_two hA
  obtain ⟨rfl, rfl⟩ := trodVars_none hV
  simp only [List.append_nil] at hW'
  have hlt0 : ∀ x ∈ p0, x.block < W.heap.size := fun x hx => hW'.lt x (by simp [hx])
  have hlt1 : ∀ x ∈ p1, x.block < W.heap.size := fun x hx => hW'.lt x (by simp [hx])
  have back0 : ∀ W', Ext W W' → DataW.Trod enc Tryd.prog W' 0 (fun b => decide (b < W.heap.size)) true 22 v0 d0 p0 :=
    fun W' hx => Below.trod Tryd.FnExactStraightLongest.laidOut (by kernel_rfl) (of_decide_eq_true (by kernel_rfl)) t0 hx.below hlt0
  have back1 : ∀ W', Ext W W' → DataW.Trod enc Tryd.prog W' 0 (fun b => decide (b < W.heap.size)) true 22 v1 d1 p1 :=
    fun W' hx => Below.trod Tryd.FnExactStraightLongest.laidOut (by kernel_rfl) (of_decide_eq_true (by kernel_rfl)) t1 hx.below hlt1
  obtain ⟨fuel0, e0⟩ := id t0
  obtain ⟨fp0, x0, r0⟩ := (opn_sl Tryd.underlying22 (by kernel_rfl) (opn_int Tryd.underlying2)) H enc W 0 (fun _ => true) true fuel0 _ _ e0
  have sz0 := Fits.fits r0
  obtain ⟨a0_, len0, cap0, rfl⟩ := okWide_slice Tryd.underlying22 (hval 0 22 v0 rfl rfl)
  obtain ⟨w0, hw0, h0⟩ := r0
  simp [Value.cells] at hw0; subst hw0
  have h0 : Ro Rp.int W fp0 _ x0 := h0
  obtain ⟨fuel1, e1⟩ := id t1
  obtain ⟨fp1, x1, r1⟩ := (opn_sl Tryd.underlying22 (by kernel_rfl) (opn_int Tryd.underlying2)) H enc W 0 (fun _ => true) true fuel1 _ _ e1
  have sz1 := Fits.fits r1
  obtain ⟨a1_, len1, cap1, rfl⟩ := okWide_slice Tryd.underlying22 (hval 1 22 v1 rfl rfl)
  obtain ⟨w1, hw1, h1⟩ := r1
  simp [Value.cells] at hw1; subst hw1
  have h1 : Ro Rp.int W fp1 _ x1 := h1
  refine (W_laws_FnExactStraightLongest h0 h1 hG (T_FnExactStraightLongest x0 sz0 x1 sz1)).mono fun e W' hR => ?_
  obtain ⟨u, rfl, rfl, hx⟩ := hR
  exact ⟨_, rfl, _, _, _, _, _, [], hW', trodAll_mk1 (shut_bool Tryd.underlying4 true), trodAll_mk2 (back0 _ hx) (back1 _ hx), rfl, hx.below.frame _, fun h => by cases h⟩

theorem FnExactStraightLongest_holds : Rows.FnExactStraightLongestSaid :=
  OpenClaim.holds_of_wide 4 Tryd.f4 rfl rfl rfl rfl rfl rfl rfl ⟨rfl, rfl, rfl, rfl, rfl⟩ rfl rfl rfl rfl rfl (by kernel_rfl) Tryd.func4 (by kernel_rfl)
    (of_decide_eq_true (by kernel_rfl)) (by unfold Func.isWrapper; rw [if_neg (of_decide_eq_false (by kernel_rfl))]; exact ⟨rfl, rfl⟩)
    (fun os started H enc _ => FnExactStraightLongest_true os started H enc)
theorem FnExactStraightLongest_card : Rows.FnExactStraightLongestCardSaid :=
  Claim7.holds_tied_plain_at .later [] [.data] true (true, "41155d60d35363719df3522a4d875bca279aba3134ef5ca26ff0ad62922636ae") false
    FnExactStraightLongest_holds (fun _ h => by cases h) (by kernel_rfl) (fun _ h => by cases h) fnExactStraightLongest_row_tie rfl ⟨rfl, rfl⟩ (by kernel_rfl) rfl
    (fun f fn hf hfn => by
      obtain rfl : f = 4 := Option.some.inj ((show Tryd.prog.funcNamed "loop.example/g00871/laws.FnExactStraightLongest" = some 4 by kernel_rfl).symm.trans hf) |>.symm
      obtain rfl : fn = Tryd.f4 := (Option.some.inj (Tryd.func4.symm.trans hfn)).symm
      exact ⟨by kernel_rfl, fun j t ht => by
        rw [Tryd.params4] at ht
        have hm : t ∈ [22, 22] := by simpa using Array.mem_of_getElem? ht
        have hall : ([22, 22].all fun u => !Tryd.prog.wantsStandIn u) = true := by kernel_rfl
        exact (show Tryd.prog.wantsStandIn t = false by simpa using List.all_eq_true.1 hall t hm)⟩)
    (by kernel_rfl)
#print axioms FnExactStraightLongest_card
end Go.Proofs.YtbcjeljppgojgaaDoor
