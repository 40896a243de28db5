/- FnPartitions: its statement. For every input that can be read, the call returns true and the arguments read as before; no condition. -/
import Derived.Test.YtadjcnllmkdgiaaRows
import Derived.Test.YtadjcnllmkdgiaaRow
import Derived.Test.YtadjcnllmkdgiaaTFnPartitions
import Derived.Test.YtadjcnllmkdgiaaW
namespace Go.Proofs.Ytadjcnllmkdgiaa
open Go.ChangeShapes Go.WideShapes Go.ChangeAt Go.RowKit

theorem Try.FnPartitions.own : ownKnob Try.prog.godebug = none := by kernel_rfl
theorem Try.FnPartitions.laidOut : laidOutB Try.prog = true := by kernel_rfl
set_option maxRecDepth 100000 in
theorem FnPartitions_true (os : Os) (started : os.Started) (H : Type) (enc : TypeId × Value → H) :
    ReturnsInHanded {} Try.checked os 4 .any (Rows.fnPartitionsSpec.pre6 enc Try.prog Try.f4 Rows.fnPartitionsRow.domain false) (Rows.fnPartitionsSpec.post enc Try.prog Try.f4 false true false false) := by
  refine returnsInHanded_of_change (C := Try.checked) Try.FnPartitions.own started (by kernel_rfl) Try.func4
    (ChangeSpec.witness6 (enc := enc) (C := Try.checked) false ⟨#[], #[.slice none 0 0], []⟩ 8 (by kernel_rfl) (by kernel_rfl) (by kernel_rfl) (by kernel_rfl)) ?_
  intro W base args ds gs before hval0 hW _ _
  have hval : ∀ (j : Nat) t v, Try.f4.params[j]? = some t → args[j]? = some v → Value.okWide Try.prog W .any base t v := hval0
  have hW' := hW
  obtain ⟨p, q, hA0, hV, rfl, _, _⟩ := hW
  have hA : DataW.TrodAll enc Try.prog W 0 (fun _ => true) true Try.f4.params.toList args.toList ds p := hA0
  rw [Try.params4] at hA hval
  obtain ⟨v0, d0, rfl, rfl, t0⟩ := trodAll_one hA
  obtain ⟨rfl, rfl⟩ := trodVars_none hV
  simp only [List.append_nil] at hW'
  have hlt0 : ∀ x ∈ p, x.block < W.heap.size := fun x hx => hW'.lt x (by simp [hx])
  have back0 : ∀ W', Ext W W' → DataW.Trod enc Try.prog W' 0 (fun b => decide (b < W.heap.size)) true 22 v0 d0 p :=
    fun W' hx => Below.trod Try.FnPartitions.laidOut (by kernel_rfl) (of_decide_eq_true (by kernel_rfl)) t0 hx.below hlt0
  obtain ⟨fuel0, e0⟩ := id t0
  obtain ⟨fp0, x0, r0⟩ := (opn_sl Try.underlying22 (by kernel_rfl) (opn_u8 Try.underlying5)) H enc W 0 (fun _ => true) true fuel0 _ _ e0
  have sz0 := Fits.fits r0
  obtain ⟨a0_, len0, cap0, rfl⟩ := okWide_slice Try.underlying22 (hval 0 22 v0 rfl rfl)
  obtain ⟨w0, hw0, h0⟩ := r0
  simp [Value.cells] at hw0; subst hw0
  have h0 : Ro Rp.u8 W fp0 _ x0 := h0
  refine (W_laws_FnPartitions h0 (T_FnPartitions x0 sz0)).mono fun e W' hR => ?_
  obtain ⟨u, rfl, rfl, hx⟩ := hR
  exact ⟨_, rfl, _, _, _, _, _, [], hW', trodAll_mk1 (shut_bool Try.underlying4 true), trodAll_mk1 (back0 _ hx), rfl, hx.below.frame _, fun h => by cases h⟩

theorem FnPartitions_holds : Rows.FnPartitionsSaid :=
  OpenClaim.holds_of_wide 4 Try.f4 rfl rfl rfl rfl rfl rfl rfl ⟨rfl, rfl, rfl, rfl, rfl⟩ rfl rfl rfl rfl rfl (by kernel_rfl) Try.func4 (by kernel_rfl)
    (of_decide_eq_true (by kernel_rfl)) (by unfold Func.isWrapper; rw [if_neg (of_decide_eq_false (by kernel_rfl))]; exact ⟨rfl, rfl⟩)
    (fun os started H enc _ => FnPartitions_true os started H enc)
#print axioms FnPartitions_holds
end Go.Proofs.Ytadjcnllmkdgiaa
