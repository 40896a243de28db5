/- Walks, printed by gen.py. -/
import Derived.Test.YthbmcbflnibpbaaF
import Derived.Test.YthbmcbflnibpbaaW2
import Derived.Test.YthbmcbflnibpbaaProg
import Derived.KernelRfl
set_option maxRecDepth 100000
namespace Go.Proofs.Ythbmcbflnibpbaa
open Go Go.RowKit

set_option maxHeartbeats 2000000 in
theorem W_impl_NiceOk {W : World} {va0_0 : Value} {fa0_0 : List Nat} {a0_0 : (List (List Int))} (ha0_0 : Ro (Rp.sl 2 Rp.int) W fa0_0 va0_0 a0_0) {va1_0 : Value} {fa1_0 : List Nat} {a1_0 : (List Int)} (ha1_0 : Ro Rp.int W fa1_0 va1_0 a1_0) {va1_1 : Value} {fa1_1 : List Nat} {a1_1 : (List Int)} (ha1_1 : Ro Rp.int W fa1_1 va1_1 a1_1) {va1_2 : Value} {fa1_2 : List Nat} {a1_2 : (List (List Int))} (ha1_2 : Ro (Rp.sl 2 Rp.int) W fa1_2 va1_2 a1_2) {va1_3 : Value} {fa1_3 : List Nat} {a1_3 : (List (List Int))} (ha1_3 : Ro (Rp.sl 2 Rp.int) W fa1_3 va1_3 a1_3) {r : Bool} (hF : F_impl_NiceOk a0_0 a1_0 a1_1 a1_2 a1_3 = some r) :
    Calls Try.prog 9 [.agg #[va0_0], .agg #[va1_0, va1_1, va1_2, va1_3]].toArray W (Ret fun u w' => u = .bool r ∧ Ext W w') := by
  refine f_enter Try.func9 rfl Try.ntmps9 rfl ?_
  intro a ha
  replace ha : Fr 159 [(0, (.agg #[va0_0])), (1, (.agg #[va1_0, va1_1, va1_2, va1_3]))] a := ha
  have hE : Chg [] W W := Chg.refl _ _
  unfold F_impl_NiceOk at hF
  refine wp_seq ?_; refine wp_region_lit ?_
  refine o_box ha rfl rfl rfl ?_; clear ha a; intro b1 w2 hB3 hx4 hlo5 a ha
  have q6 := Zn.one hlo5
  have q7 := Zn.upD q6 hE
  have hE8 := Ext.trans hE hx4
  refine o_box ha rfl rfl rfl ?_; clear ha a; intro b9 w10 hB11 hx12 hlo13 a ha
  have q14 := Zn.one hlo13
  have q15 := Nq.new hB3.fpb q14
  have q16 := Nq.made1 hlo13 hB3.bi
  have q17 := Zn.upD q14 hE8
  replace hB3 := hB3.ext hx12
  have hE18 := Ext.trans hE8 hx12
  refine op_g ha rfl (g_assign rfl) ?_; clear ha a; intro a ha; refine wpList_nil ?_; replace ha := ha.sub (σ' := [(2, (.pointer (some ⟨b1, 0, none⟩))), (3, (.pointer (some ⟨b9, 0, none⟩)))]) ⟨rfl, rfl, trivial⟩; refine e_then ?_; refine wp_seq ?_; refine wp_region_lit ?_; refine op_g ha rfl (g_field0 st33_0 rfl) ?_; clear ha a; intro a ha; refine op_g ha rfl (g_load Try.isAgg25 rfl (hB11.cell rfl)) ?_; clear ha a; intro a ha; refine op_g ha rfl (g_lenR sl25.und ha1_0 rfl) ?_; clear ha a; intro a ha; refine op_g ha rfl (g_assign rfl) ?_; clear ha a; intro a ha; refine wpList_nil ?_; replace ha := ha.sub (σ' := [(2, (.pointer (some ⟨b1, 0, none⟩))), (3, (.pointer (some ⟨b9, 0, none⟩))), (5, (.int .i64 (a1_0.length : Int)))]) ⟨rfl, rfl, rfl, trivial⟩
  refine e_then ?_; refine wp_seq ?_; refine wp_seq ?_; refine wp_region_lit ?_; refine op_g ha rfl (g_loadA (cs := [va0_0]) Try.isAgg31 Try.sizeOf31 rfl (by simp) hB3.all) ?_; clear ha a; intro a ha; obtain ⟨x31, hc32, hF⟩ := cal_some hF
  refine o_call ha rfl rfl Try.call20 (W_impl_GraphOk (ha0_0.ext hE18) hc32) ?_; clear ha a; rintro v33 w34 ⟨rfl, hx35⟩ a ha
  replace hB3 := hB3.ext hx35
  replace hB11 := hB11.ext hx35
  have hE36 := Ext.trans hE18 hx35
  refine op_g ha rfl (g_not rfl) ?_; clear ha a; intro a ha; refine op_g ha rfl (g_move rfl) ?_; clear ha a; intro a ha
  by_cases hp37 : ¬ (x31 = true)
  · replace hF := if_t hp37 hF
    rw [show (!x31) = true from (n_iff (Iff.rfl)).2 hp37] at ha
    (iterate 2 refine op_unwant ha rfl (yields ha rfl rfl) rfl ?_; clear ha a; intro a ha); refine op_g ha rfl (g_pick rfl rfl) ?_; clear ha a; intro a ha; refine op_g ha rfl (g_move rfl) ?_; clear ha a; intro a ha; (iterate 2 refine op_unwant ha rfl (yields ha rfl rfl) rfl ?_; clear ha a; intro a ha); refine op_g ha rfl (g_pick rfl rfl) ?_; clear ha a; intro a ha; refine op_g ha rfl (g_move rfl) ?_; clear ha a; intro a ha; (iterate 5 refine op_unwant ha rfl (yields ha rfl rfl) rfl ?_; clear ha a; intro a ha); refine op_g ha rfl (g_pick rfl rfl) ?_; clear ha a; intro a ha; refine op_g ha rfl (g_move rfl) ?_; clear ha a; intro a ha
    (iterate 5 refine op_unwant ha rfl (yields ha rfl rfl) rfl ?_; clear ha a; intro a ha); refine op_g ha rfl (g_pick rfl rfl) ?_; clear ha a; intro a ha; refine op_g ha rfl (g_move rfl) ?_; clear ha a; intro a ha; (iterate 5 refine op_unwant ha rfl (yields ha rfl rfl) rfl ?_; clear ha a; intro a ha); refine op_g ha rfl (g_pick rfl rfl) ?_; clear ha a; intro a ha; refine wpList_nil ?_; replace ha := ha.sub (σ' := [(2, (.pointer (some ⟨b1, 0, none⟩))), (3, (.pointer (some ⟨b9, 0, none⟩))), (5, (.int .i64 (a1_0.length : Int))), (51, (.bool true))]) ⟨rfl, rfl, rfl, rfl, trivial⟩; refine e_then ?_
    refine c_true ha rfl ?_; refine wp_seq ?_; refine wp_region_lit ?_; refine op_g ha rfl (g_assign rfl) ?_; clear ha a; intro a ha; refine wpList_nil ?_; replace ha := ha.sub (σ' := [(4, (.bool false))]) ⟨rfl, trivial⟩; refine e_then ?_; refine wp_ret ?_; refine e_then_ret ?_; obtain rfl := Option.some.inj hF
    exact f_ret1 ha rfl rfl ⟨rfl, hE36⟩
  replace hF := if_f hp37 hF
  rw [show (!x31) = false from b_false (n_iff (Iff.rfl)) hp37] at ha
  refine op_want (yields ha rfl rfl) ?_; refine op_g ha rfl (g_move rfl) ?_; clear ha a; intro a ha; refine op_want (yields ha rfl rfl) ?_; refine op_g ha rfl (g_lss rfl rfl) ?_; clear ha a; intro a ha; refine op_g ha rfl (g_pick rfl rfl) ?_; clear ha a; intro a ha; refine op_g ha rfl (g_move rfl) ?_; clear ha a; intro a ha
  by_cases hp38 : (a1_0.length : Int) < 1
  · replace hF := if_t hp38 hF
    rw [show (decide ((a1_0.length : Int) < 1)) = true from (decide_eq_true_iff).2 hp38] at ha
    (iterate 2 refine op_unwant ha rfl (yields ha rfl rfl) rfl ?_; clear ha a; intro a ha); refine op_g ha rfl (g_pick rfl rfl) ?_; clear ha a; intro a ha; refine op_g ha rfl (g_move rfl) ?_; clear ha a; intro a ha; (iterate 5 refine op_unwant ha rfl (yields ha rfl rfl) rfl ?_; clear ha a; intro a ha); refine op_g ha rfl (g_pick rfl rfl) ?_; clear ha a; intro a ha; refine op_g ha rfl (g_move rfl) ?_; clear ha a; intro a ha; (iterate 5 refine op_unwant ha rfl (yields ha rfl rfl) rfl ?_; clear ha a; intro a ha); refine op_g ha rfl (g_pick rfl rfl) ?_; clear ha a; intro a ha; refine op_g ha rfl (g_move rfl) ?_; clear ha a; intro a ha
    (iterate 5 refine op_unwant ha rfl (yields ha rfl rfl) rfl ?_; clear ha a; intro a ha); refine op_g ha rfl (g_pick rfl rfl) ?_; clear ha a; intro a ha; refine wpList_nil ?_; replace ha := ha.sub (σ' := [(2, (.pointer (some ⟨b1, 0, none⟩))), (3, (.pointer (some ⟨b9, 0, none⟩))), (5, (.int .i64 (a1_0.length : Int))), (51, (.bool true))]) ⟨rfl, rfl, rfl, rfl, trivial⟩; refine e_then ?_; refine c_true ha rfl ?_; refine wp_seq ?_; refine wp_region_lit ?_; refine op_g ha rfl (g_assign rfl) ?_; clear ha a; intro a ha; refine wpList_nil ?_; replace ha := ha.sub (σ' := [(4, (.bool false))]) ⟨rfl, trivial⟩
    refine e_then ?_; refine wp_ret ?_; refine e_then_ret ?_; obtain rfl := Option.some.inj hF
    exact f_ret1 ha rfl rfl ⟨rfl, hE36⟩
  replace hF := if_f hp38 hF
  rw [show (decide ((a1_0.length : Int) < 1)) = false from b_false (decide_eq_true_iff) hp38] at ha
  refine op_want (yields ha rfl rfl) ?_; refine op_g ha rfl (g_move rfl) ?_; clear ha a; intro a ha; refine op_want (yields ha rfl rfl) ?_; refine op_g ha rfl (g_gtr rfl rfl) ?_; clear ha a; intro a ha; refine op_g ha rfl (g_pick rfl rfl) ?_; clear ha a; intro a ha; refine op_g ha rfl (g_move rfl) ?_; clear ha a; intro a ha
  by_cases hp39 : 200 < (a1_0.length : Int)
  · replace hF := if_t hp39 hF
    rw [show (decide (200 < (a1_0.length : Int))) = true from (decide_eq_true_iff).2 hp39] at ha
    (iterate 5 refine op_unwant ha rfl (yields ha rfl rfl) rfl ?_; clear ha a; intro a ha); refine op_g ha rfl (g_pick rfl rfl) ?_; clear ha a; intro a ha; refine op_g ha rfl (g_move rfl) ?_; clear ha a; intro a ha; (iterate 5 refine op_unwant ha rfl (yields ha rfl rfl) rfl ?_; clear ha a; intro a ha); refine op_g ha rfl (g_pick rfl rfl) ?_; clear ha a; intro a ha; refine op_g ha rfl (g_move rfl) ?_; clear ha a; intro a ha; (iterate 5 refine op_unwant ha rfl (yields ha rfl rfl) rfl ?_; clear ha a; intro a ha); refine op_g ha rfl (g_pick rfl rfl) ?_; clear ha a; intro a ha; refine wpList_nil ?_
    replace ha := ha.sub (σ' := [(2, (.pointer (some ⟨b1, 0, none⟩))), (3, (.pointer (some ⟨b9, 0, none⟩))), (5, (.int .i64 (a1_0.length : Int))), (51, (.bool true))]) ⟨rfl, rfl, rfl, rfl, trivial⟩; refine e_then ?_; refine c_true ha rfl ?_; refine wp_seq ?_; refine wp_region_lit ?_; refine op_g ha rfl (g_assign rfl) ?_; clear ha a; intro a ha; refine wpList_nil ?_; replace ha := ha.sub (σ' := [(4, (.bool false))]) ⟨rfl, trivial⟩; refine e_then ?_; refine wp_ret ?_; refine e_then_ret ?_; obtain rfl := Option.some.inj hF
    exact f_ret1 ha rfl rfl ⟨rfl, hE36⟩
  replace hF := if_f hp39 hF
  rw [show (decide (200 < (a1_0.length : Int))) = false from b_false (decide_eq_true_iff) hp39] at ha
  refine op_want (yields ha rfl rfl) ?_; refine op_g ha rfl (g_field0 st33_1 rfl) ?_; clear ha a; intro a ha; refine op_want (yields ha rfl rfl) ?_; refine op_g ha rfl (g_load Try.isAgg25 rfl (hB11.cell rfl)) ?_; clear ha a; intro a ha; refine op_want (yields ha rfl rfl) ?_; refine op_g ha rfl (g_lenR sl25.und ha1_1 rfl) ?_; clear ha a; intro a ha; refine op_want (yields ha rfl rfl) ?_; refine op_g ha rfl (g_move rfl) ?_; clear ha a; intro a ha; refine op_want (yields ha rfl rfl) ?_; refine op_g ha rfl (g_neq rfl rfl) ?_; clear ha a; intro a ha; refine op_g ha rfl (g_pick rfl rfl) ?_; clear ha a; intro a ha
  refine op_g ha rfl (g_move rfl) ?_; clear ha a; intro a ha
  by_cases hp40 : (a1_1.length : Int) ≠ (a1_0.length : Int)
  · replace hF := if_t hp40 hF
    rw [show (decide ((a1_1.length : Int) ≠ (a1_0.length : Int))) = true from (decide_eq_true_iff).2 hp40] at ha
    (iterate 5 refine op_unwant ha rfl (yields ha rfl rfl) rfl ?_; clear ha a; intro a ha); refine op_g ha rfl (g_pick rfl rfl) ?_; clear ha a; intro a ha; refine op_g ha rfl (g_move rfl) ?_; clear ha a; intro a ha; (iterate 5 refine op_unwant ha rfl (yields ha rfl rfl) rfl ?_; clear ha a; intro a ha); refine op_g ha rfl (g_pick rfl rfl) ?_; clear ha a; intro a ha; refine wpList_nil ?_; replace ha := ha.sub (σ' := [(2, (.pointer (some ⟨b1, 0, none⟩))), (3, (.pointer (some ⟨b9, 0, none⟩))), (5, (.int .i64 (a1_0.length : Int))), (51, (.bool true))]) ⟨rfl, rfl, rfl, rfl, trivial⟩; refine e_then ?_
    refine c_true ha rfl ?_; refine wp_seq ?_; refine wp_region_lit ?_; refine op_g ha rfl (g_assign rfl) ?_; clear ha a; intro a ha; refine wpList_nil ?_; replace ha := ha.sub (σ' := [(4, (.bool false))]) ⟨rfl, trivial⟩; refine e_then ?_; refine wp_ret ?_; refine e_then_ret ?_; obtain rfl := Option.some.inj hF
    exact f_ret1 ha rfl rfl ⟨rfl, hE36⟩
  replace hF := if_f hp40 hF
  rw [show (decide ((a1_1.length : Int) ≠ (a1_0.length : Int))) = false from b_false (decide_eq_true_iff) hp40] at ha
  refine op_want (yields ha rfl rfl) ?_; refine op_g ha rfl (g_field0 st33_2 rfl) ?_; clear ha a; intro a ha; refine op_want (yields ha rfl rfl) ?_; refine op_g ha rfl (g_load Try.isAgg22 rfl (hB11.cell rfl)) ?_; clear ha a; intro a ha; refine op_want (yields ha rfl rfl) ?_; refine op_g ha rfl (g_lenR sl22.und ha1_2 rfl) ?_; clear ha a; intro a ha; refine op_want (yields ha rfl rfl) ?_; refine op_g ha rfl (g_move rfl) ?_; clear ha a; intro a ha; refine op_want (yields ha rfl rfl) ?_; refine op_g ha rfl (g_neq rfl rfl) ?_; clear ha a; intro a ha; refine op_g ha rfl (g_pick rfl rfl) ?_; clear ha a; intro a ha
  refine op_g ha rfl (g_move rfl) ?_; clear ha a; intro a ha
  by_cases hp41 : (a1_2.length : Int) ≠ (a1_0.length : Int)
  · replace hF := if_t hp41 hF
    rw [show (decide ((a1_2.length : Int) ≠ (a1_0.length : Int))) = true from (decide_eq_true_iff).2 hp41] at ha
    (iterate 5 refine op_unwant ha rfl (yields ha rfl rfl) rfl ?_; clear ha a; intro a ha); refine op_g ha rfl (g_pick rfl rfl) ?_; clear ha a; intro a ha; refine wpList_nil ?_; replace ha := ha.sub (σ' := [(2, (.pointer (some ⟨b1, 0, none⟩))), (3, (.pointer (some ⟨b9, 0, none⟩))), (5, (.int .i64 (a1_0.length : Int))), (51, (.bool true))]) ⟨rfl, rfl, rfl, rfl, trivial⟩; refine e_then ?_; refine c_true ha rfl ?_; refine wp_seq ?_; refine wp_region_lit ?_; refine op_g ha rfl (g_assign rfl) ?_; clear ha a; intro a ha; refine wpList_nil ?_; replace ha := ha.sub (σ' := [(4, (.bool false))]) ⟨rfl, trivial⟩
    refine e_then ?_; refine wp_ret ?_; refine e_then_ret ?_; obtain rfl := Option.some.inj hF
    exact f_ret1 ha rfl rfl ⟨rfl, hE36⟩
  replace hF := if_f hp41 hF
  rw [show (decide ((a1_2.length : Int) ≠ (a1_0.length : Int))) = false from b_false (decide_eq_true_iff) hp41] at ha
  refine op_want (yields ha rfl rfl) ?_; refine op_g ha rfl (g_field0 st33_3 rfl) ?_; clear ha a; intro a ha; refine op_want (yields ha rfl rfl) ?_; refine op_g ha rfl (g_load Try.isAgg22 rfl (hB11.cell rfl)) ?_; clear ha a; intro a ha; refine op_want (yields ha rfl rfl) ?_; refine op_g ha rfl (g_lenR sl22.und ha1_3 rfl) ?_; clear ha a; intro a ha; refine op_want (yields ha rfl rfl) ?_; refine op_g ha rfl (g_move rfl) ?_; clear ha a; intro a ha; refine op_want (yields ha rfl rfl) ?_; refine op_g ha rfl (g_neq rfl rfl) ?_; clear ha a; intro a ha; refine op_g ha rfl (g_pick rfl rfl) ?_; clear ha a; intro a ha
  refine wpList_nil ?_; replace ha := ha.sub (σ' := [(2, (.pointer (some ⟨b1, 0, none⟩))), (3, (.pointer (some ⟨b9, 0, none⟩))), (5, (.int .i64 (a1_0.length : Int))), (51, (.bool (decide ((a1_3.length : Int) ≠ (a1_0.length : Int)))))]) ⟨rfl, rfl, rfl, rfl, trivial⟩; refine e_then ?_; refine c_cond ((a1_3.length : Int) ≠ (a1_0.length : Int)) ha rfl (decide_eq_true_iff) (fun hp42 => ?_) (fun hp42 => ?_)
  · replace hF := if_t hp42 hF
    refine wp_seq ?_; refine wp_region_lit ?_; refine op_g ha rfl (g_assign rfl) ?_; clear ha a; intro a ha; refine wpList_nil ?_; replace ha := ha.sub (σ' := [(4, (.bool false))]) ⟨rfl, trivial⟩; refine e_then ?_; refine wp_ret ?_; refine e_then_ret ?_; obtain rfl := Option.some.inj hF
    exact f_ret1 ha rfl rfl ⟨rfl, hE36⟩
  replace hF := if_f hp42 hF; refine wp_skip ?_; refine e_then ?_; refine wp_seq ?_; refine wp_region_lit ?_; refine op_g ha rfl (g_field0 st31_0 rfl) ?_; clear ha a; intro a ha; refine op_g ha rfl (g_load Try.isAgg22 rfl (hB3.cell rfl)) ?_; clear ha a; intro a ha; refine op_g ha rfl (g_lenR sl22.und ha0_0 rfl) ?_; clear ha a; intro a ha; refine op_g ha rfl (g_assign rfl) ?_; clear ha a; intro a ha; refine wpList_nil ?_; replace ha := ha.sub (σ' := [(2, (.pointer (some ⟨b1, 0, none⟩))), (3, (.pointer (some ⟨b9, 0, none⟩))), (5, (.int .i64 (a1_0.length : Int))), (6, (.int .i64 (a0_0.length : Int)))]) ⟨rfl, rfl, rfl, rfl, trivial⟩
  refine e_then ?_; refine wp_seq ?_; refine wp_seq ?_; refine wp_region_lit ?_; refine op_g ha rfl (g_field0 st33_2 rfl) ?_; clear ha a; intro a ha; refine op_g ha rfl (g_load Try.isAgg22 rfl (hB11.cell rfl)) ?_; clear ha a; intro a ha; refine op_g ha rfl (g_lenR sl22.und ha1_2 rfl) ?_; clear ha a; intro a ha; refine op_g ha rfl (g_move rfl) ?_; clear ha a; intro a ha; refine wpList_nil ?_; replace ha := ha.sub (σ' := [(2, (.pointer (some ⟨b1, 0, none⟩))), (3, (.pointer (some ⟨b9, 0, none⟩))), (5, (.int .i64 (a1_0.length : Int))), (6, (.int .i64 (a0_0.length : Int))), (56, va1_2), (57, (.int .i64 (a1_2.length : Int))), (58, (.int .i64 0))]) ⟨rfl, rfl, rfl, rfl, rfl, rfl, rfl, trivial⟩
  refine e_then ?_; obtain ⟨o136, ho137, hK138⟩ := bnd_some hF
  obtain ⟨n139, hn140⟩ := lp_some ho137; clear ho137
  refine c_loop (fun a w => Fr 159 [(2, (.pointer (some ⟨b1, 0, none⟩))), (3, (.pointer (some ⟨b9, 0, none⟩))), (5, (.int .i64 (a1_0.length : Int))), (6, (.int .i64 (a0_0.length : Int)))] a ∧ Chg [] W w ∧ Bx w b1 [va0_0] 31 ∧ Zn W (b1 : Int) ∧ Bx w b9 [va1_0, va1_1, va1_2, va1_3] 33 ∧ Zn W (b9 : Int) ∧ Nq ([b1]) (b9 : Int) ∧ Nq ([b9]) (b1 : Int) ∧ o136 = .inl ()) (fun n a w => ∃ (i90 : Int), Fr 159 [(2, (.pointer (some ⟨b1, 0, none⟩))), (3, (.pointer (some ⟨b9, 0, none⟩))), (5, (.int .i64 (a1_0.length : Int))), (6, (.int .i64 (a0_0.length : Int))), (56, va1_2), (57, (.int .i64 (a1_2.length : Int))), (58, (.int .i64 i90))] a ∧ Chg [] W w ∧ InI i90 ∧ Bx w b1 [va0_0] 31 ∧ Zn W (b1 : Int) ∧ Bx w b9 [va1_0, va1_1, va1_2, va1_3] 33 ∧ Zn W (b9 : Int) ∧ Nq ([b1]) (b9 : Int) ∧ Nq ([b9]) (b1 : Int) ∧ lpN (fun s => F_impl_NiceOk_l1 a0_0 a1_2 s) n i90 = some o136) n139 ⟨0, ha.sub ⟨rfl, rfl, rfl, rfl, rfl, rfl, rfl, trivial⟩, hE36, (show InI 0 from by decide), hB3, q7, hB11, q17, q15, q16, hn140⟩ ?_ ?_
  · rintro m144 a w85 ⟨i90, ha, hE94, hI91, hB86, z87, hB88, z89, q92, q93, hF⟩
    cases m144 with
    | zero => exact (lpN_zero hF).elim
    | succ m144 =>
      obtain ⟨z143, hF, hN142⟩ := lpN_succ hF
      have hF : F_impl_NiceOk_l1 a0_0 a1_2 i90 = some z143 := hF; unfold F_impl_NiceOk_l1 at hF
      refine wp_seq ?_; refine wp_region_lit ?_; refine op_g ha rfl (g_lss rfl rfl) ?_; clear ha a; intro a ha; refine wpList_nil ?_; replace ha := ha.sub (σ' := [(2, (.pointer (some ⟨b1, 0, none⟩))), (3, (.pointer (some ⟨b9, 0, none⟩))), (5, (.int .i64 (a1_0.length : Int))), (6, (.int .i64 (a0_0.length : Int))), (56, va1_2), (57, (.int .i64 (a1_2.length : Int))), (58, (.int .i64 i90)), (59, (.bool (decide (i90 < (a1_2.length : Int)))))]) ⟨rfl, rfl, rfl, rfl, rfl, rfl, rfl, rfl, trivial⟩; refine e_then ?_; refine wp_seq ?_; refine c_cond (i90 < (a1_2.length : Int)) ha rfl (decide_eq_true_iff) (fun hp145 => ?_) (fun hp145 => ?_)
      · replace hF := if_t hp145 hF
        refine wp_skip ?_; refine e_then ?_; refine wp_seq ?_; refine wp_block ?_; refine wp_seq ?_; refine wp_region_lit ?_; obtain ⟨x146, g147, gx148, hF⟩ := idx_some hF
        obtain ⟨p149, cs150, f151, hf152, hpb153, hat154, hr155, hi156⟩ := ha1_2.at g147 gx148
        obtain ⟨v157, rfl, h158⟩ := hr155
        have h158 : Ro Rp.int W f151 v157 x146 := h158
        refine op_g ha rfl (hi156.gives sl22 rfl rfl) ?_; clear ha a; intro a ha; refine op_g ha rfl (g_load0 hE94 Try.isAgg25 rfl hat154.one) ?_; clear ha a; intro a ha; refine op_g ha rfl (g_assign rfl) ?_; clear ha a; intro a ha; refine wpList_nil ?_; replace ha := ha.sub (σ' := [(2, (.pointer (some ⟨b1, 0, none⟩))), (3, (.pointer (some ⟨b9, 0, none⟩))), (5, (.int .i64 (a1_0.length : Int))), (6, (.int .i64 (a0_0.length : Int))), (8, v157), (56, va1_2), (57, (.int .i64 (a1_2.length : Int))), (58, (.int .i64 i90))]) ⟨rfl, rfl, rfl, rfl, rfl, rfl, rfl, rfl, trivial⟩; refine e_then ?_; refine wp_seq ?_
        refine wp_region_lit ?_; refine op_g ha rfl (g_move rfl) ?_; clear ha a; intro a ha; refine op_g ha rfl (g_lenR sl25.und h158 rfl) ?_; clear ha a; intro a ha; refine op_g ha rfl (g_gtr rfl rfl) ?_; clear ha a; intro a ha; refine op_g ha rfl (g_move rfl) ?_; clear ha a; intro a ha
        by_cases hp160 : 8 < (x146.length : Int)
        · replace hF := if_t hp160 hF
          rw [show (decide (8 < (x146.length : Int))) = true from (decide_eq_true_iff).2 hp160] at ha
          (iterate 4 refine op_unwant ha rfl (yields ha rfl rfl) rfl ?_; clear ha a; intro a ha); refine op_g ha rfl (g_pick rfl rfl) ?_; clear ha a; intro a ha; refine wpList_nil ?_; replace ha := ha.sub (σ' := [(2, (.pointer (some ⟨b1, 0, none⟩))), (3, (.pointer (some ⟨b9, 0, none⟩))), (5, (.int .i64 (a1_0.length : Int))), (6, (.int .i64 (a0_0.length : Int))), (56, va1_2), (57, (.int .i64 (a1_2.length : Int))), (58, (.int .i64 i90)), (70, (.bool true))]) ⟨rfl, rfl, rfl, rfl, rfl, rfl, rfl, rfl, trivial⟩; refine e_then ?_; refine c_true ha rfl ?_; refine wp_seq ?_; refine wp_region_lit ?_; refine op_g ha rfl (g_assign rfl) ?_; clear ha a; intro a ha
          refine wpList_nil ?_; replace ha := ha.sub (σ' := [(4, (.bool false))]) ⟨rfl, trivial⟩; refine e_then ?_; refine wp_ret ?_; refine e_blk_ret ?_; refine e_then_ret ?_; refine e_lq_ret ?_; refine e_then_ret ?_; obtain rfl := Option.some.inj hF
          have e161 := LK_inr hN142; subst e161
          have e162 := BK_inr hK138; subst e162
          exact f_ret1 ha rfl rfl ⟨rfl, hE94⟩
        replace hF := if_f hp160 hF
        rw [show (decide (8 < (x146.length : Int))) = false from b_false (decide_eq_true_iff) hp160] at ha
        refine op_want (yields ha rfl rfl) ?_; refine op_g ha rfl (g_move rfl) ?_; clear ha a; intro a ha; refine op_want (yields ha rfl rfl) ?_; refine op_g ha rfl (g_move rfl) ?_; clear ha a; intro a ha; refine op_want (yields ha rfl rfl) ?_; obtain ⟨x163, hc164, hF⟩ := cal_some hF
        refine o_call ha rfl rfl Try.call21 (W_impl_increasing (h158.ext hE94) ha0_0.len hc164) ?_; clear ha a; rintro v165 w166 ⟨rfl, hx167⟩ a ha
        replace hB86 := hB86.ext hx167
        replace hB88 := hB88.ext hx167
        have hE168 := Ext.trans hE94 hx167
        refine op_want (yields ha rfl rfl) ?_; refine op_g ha rfl (g_not rfl) ?_; clear ha a; intro a ha; refine op_g ha rfl (g_pick rfl rfl) ?_; clear ha a; intro a ha; refine wpList_nil ?_; replace ha := ha.sub (σ' := [(2, (.pointer (some ⟨b1, 0, none⟩))), (3, (.pointer (some ⟨b9, 0, none⟩))), (5, (.int .i64 (a1_0.length : Int))), (6, (.int .i64 (a0_0.length : Int))), (56, va1_2), (57, (.int .i64 (a1_2.length : Int))), (58, (.int .i64 i90)), (66, v157), (67, (.int .i64 (a0_0.length : Int))), (68, (.bool x163)), (69, (.bool (!x163))), (70, (.bool (!x163)))]) ⟨rfl, rfl, rfl, rfl, rfl, rfl, rfl, rfl, rfl, rfl, rfl, rfl, trivial⟩
        refine e_then ?_; refine c_cond (¬ (x163 = true)) ha rfl (n_iff (Iff.rfl)) (fun hp169 => ?_) (fun hp169 => ?_)
        · replace hF := if_t hp169 hF
          refine wp_seq ?_; refine wp_region_lit ?_; refine op_g ha rfl (g_assign rfl) ?_; clear ha a; intro a ha; refine wpList_nil ?_; replace ha := ha.sub (σ' := [(4, (.bool false))]) ⟨rfl, trivial⟩; refine e_then ?_; refine wp_ret ?_; refine e_blk_ret ?_; refine e_then_ret ?_; refine e_lq_ret ?_; refine e_then_ret ?_; obtain rfl := Option.some.inj hF
          have e170 := LK_inr hN142; subst e170
          have e171 := BK_inr hK138; subst e171
          exact f_ret1 ha rfl rfl ⟨rfl, hE168⟩
        replace hF := if_f hp169 hF; refine wp_skip ?_; refine e_blk ?_; refine e_then ?_; refine wp_region_lit ?_; obtain ⟨hI172, hF⟩ := ck_some hF; refine op_g ha rfl (g_add rfl rfl hI172) ?_; clear ha a; intro a ha; refine op_g ha rfl (g_move rfl) ?_; clear ha a; intro a ha; refine wpList_nil ?_; replace ha := ha.sub (σ' := [(2, (.pointer (some ⟨b1, 0, none⟩))), (3, (.pointer (some ⟨b9, 0, none⟩))), (5, (.int .i64 (a1_0.length : Int))), (6, (.int .i64 (a0_0.length : Int))), (56, va1_2), (57, (.int .i64 (a1_2.length : Int))), (58, (.int .i64 (i90 + 1))), (66, v157), (67, (.int .i64 (a0_0.length : Int))), (68, (.bool x163)), (69, (.bool (!x163)))]) ⟨rfl, rfl, rfl, rfl, rfl, rfl, rfl, rfl, rfl, rfl, rfl, trivial⟩
        refine e_lq ?_; obtain rfl := Option.some.inj hF
        exact ⟨_, Nat.lt_succ_self _, i90 + 1, ha.sub ⟨rfl, rfl, rfl, rfl, rfl, rfl, rfl, trivial⟩, hE168, hI172, hB86, z87, hB88, z89, q92, q93, hN142⟩
      replace hF := if_f hp145 hF; refine wp_exit ?_; refine e_then_exit ?_; refine e_lq_eq ?_; obtain rfl := Option.some.inj hF
      exact ⟨ha.sub ⟨rfl, rfl, rfl, rfl, trivial⟩, hE94, hB86, z87, hB88, z89, q92, q93, (LK_inr hN142).symm⟩
  rintro a w129 ⟨ha, hE141, hB130, z131, hB132, z133, q134, q135, rfl⟩
  have hF : F_impl_NiceOk_k2 a0_0 a1_0 a1_1 a1_2 a1_3 = some _ := hK138; clear hK138; unfold F_impl_NiceOk_k2 at hF
  refine e_then ?_; refine wp_seq ?_; refine d_region [0, 1, 2, 3, 4, 5, 6, 7, 8, 9] hmix ?_; refine u_g 0 rfl (by kernel_rfl) (want0 _) ha rfl (g_field0 st33_2 rfl) ?_; clear ha a; intro a ha; refine u_g 1 rfl (by kernel_rfl) (want0 _) ha rfl (g_load Try.isAgg22 rfl (hB132.cell rfl)) ?_; clear ha a; intro a ha; refine u_g 3 rfl (by kernel_rfl) (want0 _) ha rfl (g_move rfl) ?_; clear ha a; intro a ha; refine u_g 5 rfl (by kernel_rfl) (want0 _) ha rfl (g_move rfl) ?_; clear ha a; intro a ha; obtain ⟨xqr1o2_1, hcqr1o2_1, hF⟩ := cal_some hF; obtain ⟨gqr1o4_1, gqr1o4_1b, hF⟩ := mkS_some hF; obtain ⟨gqr1o6_1, gqr1o6_1b, hF⟩ := mkS_some hF
  refine u_many [2, 4, 6] (by kernel_rfl) rfl fun wqr1_1 hxqr1_1 => ⟨⟨_, rfl, ?_⟩, ⟨_, rfl, ?_⟩, ⟨_, rfl, ?_⟩, trivial⟩
  · skip
    replace hB130 := hB130.ext hxqr1_1
    replace hB132 := hB132.ext hxqr1_1
    have hEqr1o2_1 := Ext.trans hE141 hxqr1_1
    refine o_call ha rfl rfl Try.call22 (W_impl_bagMasks (ha1_2.ext hEqr1o2_1) hcqr1o2_1) ?_; clear ha a; rintro vqr1o2_1 wqr1o2_1 ⟨bqr1o2_1, hqr1o2_1, zqr1o2_1, hxqr1o2_1⟩ a ha
    have qqr1o2_1 := Nq.new hB130.fpb zqr1o2_1
    have qqr1o2_2 := Nq.madeO zqr1o2_1 hB130.bi
    have qqr1o2_3 := Nq.new hB132.fpb zqr1o2_1
    have qqr1o2_4 := Nq.madeO zqr1o2_1 hB132.bi
    replace hB130 := hB130.ext hxqr1o2_1
    replace hB132 := hB132.ext hxqr1o2_1
    have hEqr1o2_2 := Ext.trans hEqr1o2_1 hxqr1o2_1
    have qqr1o2_5 := Zn.upD zqr1o2_1 hEqr1o2_1
    refine wpList_nil (e_sq ?_)
    refine ⟨fun _ => hxqr1o2_1, ?_⟩
    refine u_g 7 rfl (by kernel_rfl) (want0 _) ha rfl (g_assign rfl) ?_; clear ha a; intro a ha; refine u_many [4, 6] (by kernel_rfl) rfl fun wqr1o7_1 hxqr1o7_1 => ⟨⟨_, rfl, ?_⟩, ⟨_, rfl, ?_⟩, trivial⟩
    · skip
      replace hB130 := hB130.ext hxqr1o7_1
      replace hB132 := hB132.ext hxqr1o7_1
      replace hqr1o2_1 := hqr1o2_1.ext hxqr1o7_1
      have hEqr1o4_1 := Ext.trans hEqr1o2_2 hxqr1o7_1
      refine o_make (z0 := (0 : Int)) Rp.int ha rfl sl48 rfl (fun w => ⟨rfl, by decide, rfl⟩) rfl gqr1o4_1 gqr1o4_1b ?_; clear ha a; intro vqr1o4_1 wqr1o4_1 hqr1o4_1 hxqr1o4_1 a ha
      obtain ⟨bqr1o4_1, hbqr1o4_1⟩ : ∃ b : Int, b = wqr1o7_1.heap.size := ⟨_, rfl⟩; rw [← hbqr1o4_1] at hqr1o4_1
      have qqr1o4_1 := zn_of hbqr1o4_1
      have qqr1o4_2 := Nq.new hB130.fpb qqr1o4_1
      have qqr1o4_3 := Nq.madeO qqr1o4_1 hB130.bi
      have qqr1o4_4 := Nq.new hB132.fpb qqr1o4_1
      have qqr1o4_5 := Nq.madeO qqr1o4_1 hB132.bi
      have qqr1o4_6 := Nq.new hqr1o2_1.fpb qqr1o4_1
      have qqr1o4_7 := Nq.madeO qqr1o4_1 hqr1o2_1.blt
      have qqr1o4_8 := Zn.upD qqr1o4_1 hEqr1o4_1
      replace hB130 := hB130.ext hxqr1o4_1
      replace hB132 := hB132.ext hxqr1o4_1
      replace hqr1o2_1 := hqr1o2_1.ext hxqr1o4_1
      have hEqr1o4_2 := Ext.trans hEqr1o4_1 hxqr1o4_1
      refine wpList_nil (e_sq ?_)
      refine ⟨fun _ => hxqr1o4_1, ?_⟩
      refine u_g 8 rfl (by kernel_rfl) (want0 _) ha rfl (g_assign rfl) ?_; clear ha a; intro a ha
      refine u_only 6 rfl (by kernel_rfl) ?_; intro wqr1o6_1 hxqr1o6_1
      replace hB130 := hB130.ext hxqr1o6_1
      replace hB132 := hB132.ext hxqr1o6_1
      replace hqr1o2_1 := hqr1o2_1.ext hxqr1o6_1
      replace hqr1o4_1 := hqr1o4_1.ext hxqr1o6_1
      have hEqr1o6_1 := Ext.trans hEqr1o4_2 hxqr1o6_1
      refine o_make (z0 := (0 : Int)) Rp.int ha rfl sl48 rfl (fun w => ⟨rfl, by decide, rfl⟩) rfl gqr1o6_1 gqr1o6_1b ?_; clear ha a; intro vqr1o6_1 wqr1o6_2 hqr1o6_1 hxqr1o6_2 a ha
      obtain ⟨bqr1o6_1, hbqr1o6_1⟩ : ∃ b : Int, b = wqr1o6_1.heap.size := ⟨_, rfl⟩; rw [← hbqr1o6_1] at hqr1o6_1
      have qqr1o6_1 := zn_of hbqr1o6_1
      have qqr1o6_2 := Nq.new hB130.fpb qqr1o6_1
      have qqr1o6_3 := Nq.madeO qqr1o6_1 hB130.bi
      have qqr1o6_4 := Nq.new hB132.fpb qqr1o6_1
      have qqr1o6_5 := Nq.madeO qqr1o6_1 hB132.bi
      have qqr1o6_6 := Nq.new hqr1o2_1.fpb qqr1o6_1
      have qqr1o6_7 := Nq.madeO qqr1o6_1 hqr1o2_1.blt
      have qqr1o6_8 := Nq.new hqr1o4_1.fpb qqr1o6_1
      have qqr1o6_9 := Nq.madeO qqr1o6_1 hqr1o4_1.blt
      have qqr1o6_10 := Zn.upD qqr1o6_1 hEqr1o6_1
      replace hB130 := hB130.ext hxqr1o6_2
      replace hB132 := hB132.ext hxqr1o6_2
      replace hqr1o2_1 := hqr1o2_1.ext hxqr1o6_2
      replace hqr1o4_1 := hqr1o4_1.ext hxqr1o6_2
      have hEqr1o6_2 := Ext.trans hEqr1o6_1 hxqr1o6_2
      refine wpList_nil (e_sq ?_)
      refine ⟨fun _ => hxqr1o6_2, ?_⟩
      refine u_g 9 rfl (by kernel_rfl) (want0 _) ha rfl (g_assign rfl) ?_; clear ha a; intro a ha
      refine u_done (by kernel_rfl) ?_; intro w174 hx175
      replace hB130 := hB130.ext hx175
      replace hB132 := hB132.ext hx175
      replace hqr1o2_1 := hqr1o2_1.ext hx175
      replace hqr1o4_1 := hqr1o4_1.ext hx175
      replace hqr1o6_1 := hqr1o6_1.ext hx175
      have hE176 := Ext.trans hEqr1o6_2 hx175
      replace ha := ha.sub (σ' := [(2, (.pointer (some ⟨b1, 0, none⟩))), (3, (.pointer (some ⟨b9, 0, none⟩))), (5, (.int .i64 (a1_0.length : Int))), (6, (.int .i64 (a0_0.length : Int))), (9, vqr1o2_1), (10, vqr1o4_1), (11, vqr1o6_1)]) ⟨rfl, rfl, rfl, rfl, rfl, rfl, rfl, trivial⟩; refine e_then ?_; refine wp_seq ?_; refine wp_seq ?_; refine wp_region_lit ?_; (iterate 2 refine op_g ha rfl (g_move rfl) ?_; clear ha a; intro a ha); refine wpList_nil ?_; replace ha := ha.sub (σ' := [(2, (.pointer (some ⟨b1, 0, none⟩))), (3, (.pointer (some ⟨b9, 0, none⟩))), (5, (.int .i64 (a1_0.length : Int))), (6, (.int .i64 (a0_0.length : Int))), (9, vqr1o2_1), (10, vqr1o4_1), (11, vqr1o6_1), (79, (.int .i64 (a1_0.length : Int))), (80, (.int .i64 0))]) ⟨rfl, rfl, rfl, rfl, rfl, rfl, rfl, rfl, rfl, trivial⟩
      refine e_then ?_; obtain ⟨o1221, ho1222, hK1223⟩ := bnd_some hF
      obtain ⟨n1224, hn1225⟩ := lp_some ho1222; clear ho1222
      refine c_loop (fun a w => ∃ (l1200 : (List Int)) (l1206 : (List Int)) (v1201 : Value) (b1202 : Int) (v1207 : Value) (b1208 : Int), Fr 159 [(2, (.pointer (some ⟨b1, 0, none⟩))), (5, (.int .i64 (a1_0.length : Int))), (9, vqr1o2_1), (10, v1201), (11, v1207)] a ∧ Chg [] W w ∧ Bx w b1 [va0_0] 31 ∧ Zn W (b1 : Int) ∧ Ow Rp.u32 51 true w [] bqr1o2_1 vqr1o2_1 xqr1o2_1 ∧ Zn W bqr1o2_1 ∧ Ow Rp.int 3 true w [] b1202 v1201 l1200 ∧ Zn W b1202 ∧ Ow Rp.int 3 true w [] b1208 v1207 l1206 ∧ Zn W b1208 ∧ Nq ([b1]) bqr1o2_1 ∧ Nq ([b1]) b1202 ∧ Nq ([b1]) b1208 ∧ Nq (bl bqr1o2_1 ++ []) (b1 : Int) ∧ Nq (bl bqr1o2_1 ++ []) b1202 ∧ Nq (bl bqr1o2_1 ++ []) b1208 ∧ Nq (bl b1202 ++ []) (b1 : Int) ∧ Nq (bl b1202 ++ []) bqr1o2_1 ∧ Nq (bl b1202 ++ []) b1208 ∧ Nq (bl b1208 ++ []) (b1 : Int) ∧ Nq (bl b1208 ++ []) bqr1o2_1 ∧ Nq (bl b1208 ++ []) b1202 ∧ o1221 = .inl (l1200, l1206)) (fun n a w => ∃ (l691 : (List Int)) (l697 : (List Int)) (i700 : Int) (v692 : Value) (b693 : Int) (v698 : Value) (b699 : Int), Fr 159 [(2, (.pointer (some ⟨b1, 0, none⟩))), (3, (.pointer (some ⟨b9, 0, none⟩))), (5, (.int .i64 (a1_0.length : Int))), (6, (.int .i64 (a0_0.length : Int))), (9, vqr1o2_1), (10, v692), (11, v698), (79, (.int .i64 (a1_0.length : Int))), (80, (.int .i64 i700))] a ∧ Chg [] W w ∧ InI i700 ∧ Bx w b1 [va0_0] 31 ∧ Zn W (b1 : Int) ∧ Bx w b9 [va1_0, va1_1, va1_2, va1_3] 33 ∧ Zn W (b9 : Int) ∧ Ow Rp.u32 51 true w [] bqr1o2_1 vqr1o2_1 xqr1o2_1 ∧ Zn W bqr1o2_1 ∧ Ow Rp.int 3 true w [] b693 v692 l691 ∧ Zn W b693 ∧ Ow Rp.int 3 true w [] b699 v698 l697 ∧ Zn W b699 ∧ Nq ([b1]) (b9 : Int) ∧ Nq ([b1]) bqr1o2_1 ∧ Nq ([b1]) b693 ∧ Nq ([b1]) b699 ∧ Nq ([b9]) (b1 : Int) ∧ Nq ([b9]) bqr1o2_1 ∧ Nq ([b9]) b693 ∧ Nq ([b9]) b699 ∧ Nq (bl bqr1o2_1 ++ []) (b1 : Int) ∧ Nq (bl bqr1o2_1 ++ []) (b9 : Int) ∧ Nq (bl bqr1o2_1 ++ []) b693 ∧ Nq (bl bqr1o2_1 ++ []) b699 ∧ Nq (bl b693 ++ []) (b1 : Int) ∧ Nq (bl b693 ++ []) (b9 : Int) ∧ Nq (bl b693 ++ []) bqr1o2_1 ∧ Nq (bl b693 ++ []) b699 ∧ Nq (bl b699 ++ []) (b1 : Int) ∧ Nq (bl b699 ++ []) (b9 : Int) ∧ Nq (bl b699 ++ []) bqr1o2_1 ∧ Nq (bl b699 ++ []) b693 ∧ lpN (fun s => F_impl_NiceOk_l3 a0_0 a1_0 a1_1 a1_2 a1_3 xqr1o2_1 s.1 s.2.1 s.2.2) n (l691, l697, i700) = some o1221) n1224 ⟨(List.replicate ((a1_0.length : Int) : Int).toNat (0 : Int)), (List.replicate ((a0_0.length : Int) : Int).toNat (0 : Int)), 0, vqr1o4_1, bqr1o4_1, vqr1o6_1, bqr1o6_1, ha.sub ⟨rfl, rfl, rfl, rfl, rfl, rfl, rfl, rfl, rfl, trivial⟩, hE176, (show InI 0 from by decide), hB130, z131, hB132, z133, hqr1o2_1, qqr1o2_5, hqr1o4_1, qqr1o4_8, hqr1o6_1, qqr1o6_10, q134, qqr1o2_1, qqr1o4_2, qqr1o6_2, q135, qqr1o2_3, qqr1o4_4, qqr1o6_4, qqr1o2_2, qqr1o2_4, qqr1o4_6, qqr1o6_6, qqr1o4_3, qqr1o4_5, qqr1o4_7, qqr1o6_8, qqr1o6_3, qqr1o6_5, qqr1o6_7, qqr1o6_9, hn1225⟩ ?_ ?_
      · rintro m1229 a w680 ⟨l691, l697, i700, v692, b693, v698, b699, ha, hE722, hI701, hB681, z682, hB683, z684, h686, z687, h689, z690, h695, z696, q702, q703, q704, q705, q706, q707, q708, q709, q710, q711, q712, q713, q714, q715, q716, q717, q718, q719, q720, q721, hF⟩
        cases m1229 with
        | zero => exact (lpN_zero hF).elim
        | succ m1229 =>
          obtain ⟨z1228, hF, hN1227⟩ := lpN_succ hF
          have hF : F_impl_NiceOk_l3 a0_0 a1_0 a1_1 a1_2 a1_3 xqr1o2_1 l691 l697 i700 = some z1228 := hF; unfold F_impl_NiceOk_l3 at hF
          refine wp_seq ?_; refine wp_region_lit ?_; refine op_g ha rfl (g_lss rfl rfl) ?_; clear ha a; intro a ha; refine wpList_nil ?_; replace ha := ha.sub (σ' := [(2, (.pointer (some ⟨b1, 0, none⟩))), (3, (.pointer (some ⟨b9, 0, none⟩))), (5, (.int .i64 (a1_0.length : Int))), (6, (.int .i64 (a0_0.length : Int))), (9, vqr1o2_1), (10, v692), (11, v698), (79, (.int .i64 (a1_0.length : Int))), (80, (.int .i64 i700)), (81, (.bool (decide (i700 < (a1_0.length : Int)))))]) ⟨rfl, rfl, rfl, rfl, rfl, rfl, rfl, rfl, rfl, rfl, trivial⟩; refine e_then ?_; refine wp_seq ?_; refine c_cond (i700 < (a1_0.length : Int)) ha rfl (decide_eq_true_iff) (fun hp1230 => ?_) (fun hp1230 => ?_)
          · replace hF := if_t hp1230 hF
            refine wp_skip ?_; refine e_then ?_; refine wp_seq ?_; refine wp_block ?_; refine wp_seq ?_; refine wp_region_lit ?_; refine op_g ha rfl (g_move rfl) ?_; clear ha a; intro a ha; refine op_g ha rfl (g_assign rfl) ?_; clear ha a; intro a ha; refine wpList_nil ?_; replace ha := ha.sub (σ' := [(2, (.pointer (some ⟨b1, 0, none⟩))), (3, (.pointer (some ⟨b9, 0, none⟩))), (5, (.int .i64 (a1_0.length : Int))), (6, (.int .i64 (a0_0.length : Int))), (9, vqr1o2_1), (10, v692), (11, v698), (12, (.int .i64 i700)), (79, (.int .i64 (a1_0.length : Int))), (80, (.int .i64 i700))]) ⟨rfl, rfl, rfl, rfl, rfl, rfl, rfl, rfl, rfl, rfl, trivial⟩
            refine e_then ?_; refine wp_seq ?_; refine wp_seq ?_; refine wp_region_lit ?_; refine op_g ha rfl (g_loadA (cs := [va1_0, va1_1, va1_2, va1_3]) Try.isAgg33 Try.sizeOf33 rfl (by simp) hB683.all) ?_; clear ha a; intro a ha; (iterate 3 refine op_g ha rfl (g_move rfl) ?_; clear ha a; intro a ha)
            obtain ⟨fp1231, hro1232, hs1233⟩ := h686.roF
            obtain ⟨x1234, hc1235, hF⟩ := cal_some hF
            refine o_call ha rfl rfl Try.call23 (W_impl_goodNode (ha1_0.ext hE722) (ha1_1.ext hE722) (ha1_2.ext hE722) (ha1_3.ext hE722) hI701 hro1232 ha0_0.len hc1235) ?_; clear ha a; rintro v1236 w1237 ⟨rfl, hx1238⟩ a ha
            replace hB681 := hB681.ext hx1238
            replace hB683 := hB683.ext hx1238
            replace h686 := h686.ext hx1238
            replace h689 := h689.ext hx1238
            replace h695 := h695.ext hx1238
            have hE1239 := Ext.trans hE722 hx1238
            refine op_g ha rfl (g_not rfl) ?_; clear ha a; intro a ha; refine wpList_nil ?_; replace ha := ha.sub (σ' := [(2, (.pointer (some ⟨b1, 0, none⟩))), (3, (.pointer (some ⟨b9, 0, none⟩))), (5, (.int .i64 (a1_0.length : Int))), (6, (.int .i64 (a0_0.length : Int))), (9, vqr1o2_1), (10, v692), (11, v698), (12, (.int .i64 i700)), (79, (.int .i64 (a1_0.length : Int))), (80, (.int .i64 i700)), (88, (.bool (!x1234)))]) ⟨rfl, rfl, rfl, rfl, rfl, rfl, rfl, rfl, rfl, rfl, rfl, trivial⟩; refine e_then ?_; refine c_cond (¬ (x1234 = true)) ha rfl (n_iff (Iff.rfl)) (fun hp1240 => ?_) (fun hp1240 => ?_)
            · replace hF := if_t hp1240 hF
              refine wp_seq ?_; refine wp_region_lit ?_; refine op_g ha rfl (g_assign rfl) ?_; clear ha a; intro a ha; refine wpList_nil ?_; replace ha := ha.sub (σ' := [(4, (.bool false))]) ⟨rfl, trivial⟩; refine e_then ?_; refine wp_ret ?_; refine e_then_ret ?_; refine e_blk_ret ?_; refine e_then_ret ?_; refine e_lq_ret ?_; refine e_then_ret ?_; obtain rfl := Option.some.inj hF
              have e1241 := LK_inr hN1227; subst e1241
              have e1242 := BK_inr hK1223; subst e1242
              exact f_ret1 ha rfl rfl ⟨rfl, hE1239⟩
            replace hF := if_f hp1240 hF; refine wp_skip ?_; refine e_then ?_; refine wp_seq ?_; refine wp_seq ?_; refine wp_region_lit ?_; refine op_g ha rfl (g_field0 st33_3 rfl) ?_; clear ha a; intro a ha; refine op_g ha rfl (g_load Try.isAgg22 rfl (hB683.cell rfl)) ?_; clear ha a; intro a ha; refine op_g ha rfl (g_move rfl) ?_; clear ha a; intro a ha; obtain ⟨x1243, g1244, gx1245, hF⟩ := idx_some hF
            obtain ⟨p1246, cs1247, f1248, hf1249, hpb1250, hat1251, hr1252, hi1253⟩ := ha1_3.at g1244 gx1245
            obtain ⟨v1254, rfl, h1255⟩ := hr1252
            have h1255 : Ro Rp.int W f1248 v1254 x1243 := h1255
            refine op_g ha rfl (hi1253.gives sl22 rfl rfl) ?_; clear ha a; intro a ha; refine op_g ha rfl (g_load0 hE1239 Try.isAgg25 rfl hat1251.one) ?_; clear ha a; intro a ha; refine op_g ha rfl (g_lenR sl25.und h1255 rfl) ?_; clear ha a; intro a ha; refine op_g ha rfl (g_move rfl) ?_; clear ha a; intro a ha; refine wpList_nil ?_; replace ha := ha.sub (σ' := [(2, (.pointer (some ⟨b1, 0, none⟩))), (3, (.pointer (some ⟨b9, 0, none⟩))), (5, (.int .i64 (a1_0.length : Int))), (6, (.int .i64 (a0_0.length : Int))), (9, vqr1o2_1), (10, v692), (11, v698), (12, (.int .i64 i700)), (79, (.int .i64 (a1_0.length : Int))), (80, (.int .i64 i700)), (93, v1254), (94, (.int .i64 (x1243.length : Int))), (95, (.int .i64 0))]) ⟨rfl, rfl, rfl, rfl, rfl, rfl, rfl, rfl, rfl, rfl, rfl, rfl, rfl, trivial⟩
            refine e_then ?_; obtain ⟨o1541, ho1542, hK1543⟩ := bnd_some hF
            obtain ⟨n1544, hn1545⟩ := lp_some ho1542; clear ho1542
            refine c_loop (fun a w => ∃ (l1515 : (List Int)) (v1516 : Value) (b1517 : Int), Fr 159 [(2, (.pointer (some ⟨b1, 0, none⟩))), (3, (.pointer (some ⟨b9, 0, none⟩))), (5, (.int .i64 (a1_0.length : Int))), (6, (.int .i64 (a0_0.length : Int))), (9, vqr1o2_1), (10, v1516), (11, v698), (12, (.int .i64 i700)), (79, (.int .i64 (a1_0.length : Int))), (80, (.int .i64 i700))] a ∧ Chg [] W w ∧ Bx w b1 [va0_0] 31 ∧ Zn W (b1 : Int) ∧ Bx w b9 [va1_0, va1_1, va1_2, va1_3] 33 ∧ Zn W (b9 : Int) ∧ Ow Rp.u32 51 true w [] bqr1o2_1 vqr1o2_1 xqr1o2_1 ∧ Zn W bqr1o2_1 ∧ Ow Rp.int 3 true w [] b1517 v1516 l1515 ∧ Zn W b1517 ∧ Ow Rp.int 3 true w [] b699 v698 l697 ∧ Zn W b699 ∧ Nq ([b1]) (b9 : Int) ∧ Nq ([b1]) bqr1o2_1 ∧ Nq ([b1]) b1517 ∧ Nq ([b1]) b699 ∧ Nq ([b9]) (b1 : Int) ∧ Nq ([b9]) bqr1o2_1 ∧ Nq ([b9]) b1517 ∧ Nq ([b9]) b699 ∧ Nq (bl bqr1o2_1 ++ []) (b1 : Int) ∧ Nq (bl bqr1o2_1 ++ []) (b9 : Int) ∧ Nq (bl bqr1o2_1 ++ []) b1517 ∧ Nq (bl bqr1o2_1 ++ []) b699 ∧ Nq (bl b1517 ++ []) (b1 : Int) ∧ Nq (bl b1517 ++ []) (b9 : Int) ∧ Nq (bl b1517 ++ []) bqr1o2_1 ∧ Nq (bl b1517 ++ []) b699 ∧ Nq (bl b699 ++ []) (b1 : Int) ∧ Nq (bl b699 ++ []) (b9 : Int) ∧ Nq (bl b699 ++ []) bqr1o2_1 ∧ Nq (bl b699 ++ []) b1517 ∧ o1541 = .inl l1515) (fun n a w => ∃ (l1389 : (List Int)) (i1395 : Int) (v1390 : Value) (b1391 : Int), Fr 159 [(2, (.pointer (some ⟨b1, 0, none⟩))), (3, (.pointer (some ⟨b9, 0, none⟩))), (5, (.int .i64 (a1_0.length : Int))), (6, (.int .i64 (a0_0.length : Int))), (9, vqr1o2_1), (10, v1390), (11, v698), (12, (.int .i64 i700)), (79, (.int .i64 (a1_0.length : Int))), (80, (.int .i64 i700)), (93, v1254), (94, (.int .i64 (x1243.length : Int))), (95, (.int .i64 i1395))] a ∧ Chg [] W w ∧ InI i1395 ∧ Bx w b1 [va0_0] 31 ∧ Zn W (b1 : Int) ∧ Bx w b9 [va1_0, va1_1, va1_2, va1_3] 33 ∧ Zn W (b9 : Int) ∧ Ow Rp.u32 51 true w [] bqr1o2_1 vqr1o2_1 xqr1o2_1 ∧ Zn W bqr1o2_1 ∧ Ow Rp.int 3 true w [] b1391 v1390 l1389 ∧ Zn W b1391 ∧ Ow Rp.int 3 true w [] b699 v698 l697 ∧ Zn W b699 ∧ Nq ([b1]) (b9 : Int) ∧ Nq ([b1]) bqr1o2_1 ∧ Nq ([b1]) b1391 ∧ Nq ([b1]) b699 ∧ Nq ([b9]) (b1 : Int) ∧ Nq ([b9]) bqr1o2_1 ∧ Nq ([b9]) b1391 ∧ Nq ([b9]) b699 ∧ Nq (bl bqr1o2_1 ++ []) (b1 : Int) ∧ Nq (bl bqr1o2_1 ++ []) (b9 : Int) ∧ Nq (bl bqr1o2_1 ++ []) b1391 ∧ Nq (bl bqr1o2_1 ++ []) b699 ∧ Nq (bl b1391 ++ []) (b1 : Int) ∧ Nq (bl b1391 ++ []) (b9 : Int) ∧ Nq (bl b1391 ++ []) bqr1o2_1 ∧ Nq (bl b1391 ++ []) b699 ∧ Nq (bl b699 ++ []) (b1 : Int) ∧ Nq (bl b699 ++ []) (b9 : Int) ∧ Nq (bl b699 ++ []) bqr1o2_1 ∧ Nq (bl b699 ++ []) b1391 ∧ lpN (fun s => F_impl_NiceOk_l4 x1243 s.1 s.2) n (l1389, i1395) = some o1541) n1544 ⟨l691, 0, v692, b693, ha.sub ⟨rfl, rfl, rfl, rfl, rfl, rfl, rfl, rfl, rfl, rfl, rfl, rfl, rfl, trivial⟩, hE1239, (show InI 0 from by decide), hB681, z682, hB683, z684, h686, z687, h689, z690, h695, z696, q702, q703, q704, q705, q706, q707, q708, q709, q710, q711, q712, q713, q714, q715, q716, q717, q718, q719, q720, q721, hn1545⟩ ?_ ?_
            · rintro m1549 a w1378 ⟨l1389, i1395, v1390, b1391, ha, hE1417, hI1396, hB1379, z1380, hB1381, z1382, h1384, z1385, h1387, z1388, h1393, z1394, q1397, q1398, q1399, q1400, q1401, q1402, q1403, q1404, q1405, q1406, q1407, q1408, q1409, q1410, q1411, q1412, q1413, q1414, q1415, q1416, hF⟩
              cases m1549 with
              | zero => exact (lpN_zero hF).elim
              | succ m1549 =>
                obtain ⟨z1548, hF, hN1547⟩ := lpN_succ hF
                have hF : F_impl_NiceOk_l4 x1243 l1389 i1395 = some z1548 := hF; unfold F_impl_NiceOk_l4 at hF
                refine wp_seq ?_; refine wp_region_lit ?_; refine op_g ha rfl (g_lss rfl rfl) ?_; clear ha a; intro a ha; refine wpList_nil ?_; replace ha := ha.sub (σ' := [(2, (.pointer (some ⟨b1, 0, none⟩))), (3, (.pointer (some ⟨b9, 0, none⟩))), (5, (.int .i64 (a1_0.length : Int))), (6, (.int .i64 (a0_0.length : Int))), (9, vqr1o2_1), (10, v1390), (11, v698), (12, (.int .i64 i700)), (79, (.int .i64 (a1_0.length : Int))), (80, (.int .i64 i700)), (93, v1254), (94, (.int .i64 (x1243.length : Int))), (95, (.int .i64 i1395)), (96, (.bool (decide (i1395 < (x1243.length : Int)))))]) ⟨rfl, rfl, rfl, rfl, rfl, rfl, rfl, rfl, rfl, rfl, rfl, rfl, rfl, rfl, trivial⟩
                refine e_then ?_; refine wp_seq ?_; refine c_cond (i1395 < (x1243.length : Int)) ha rfl (decide_eq_true_iff) (fun hp1550 => ?_) (fun hp1550 => ?_)
                · replace hF := if_t hp1550 hF
                  refine wp_skip ?_; refine e_then ?_; refine wp_seq ?_; refine wp_block ?_; refine wp_seq ?_; refine wp_region_lit ?_; obtain ⟨x1551, g1552, gx1553, hF⟩ := idx_some hF
                  obtain ⟨p1554, cs1555, f1556, hf1557, hpb1558, hat1559, hr1560, hi1561⟩ := h1255.at g1552 gx1553
                  obtain ⟨rfl, hI1562, rfl⟩ := hr1560
                  refine op_g ha rfl (hi1561.gives sl25 rfl rfl) ?_; clear ha a; intro a ha; refine op_g ha rfl (g_load0 hE1417 Try.isAgg2 rfl hat1559.one) ?_; clear ha a; intro a ha; refine op_g ha rfl (g_assign rfl) ?_; clear ha a; intro a ha; refine wpList_nil ?_; replace ha := ha.sub (σ' := [(2, (.pointer (some ⟨b1, 0, none⟩))), (3, (.pointer (some ⟨b9, 0, none⟩))), (5, (.int .i64 (a1_0.length : Int))), (6, (.int .i64 (a0_0.length : Int))), (9, vqr1o2_1), (10, v1390), (11, v698), (12, (.int .i64 i700)), (14, (.int .i64 x1551)), (79, (.int .i64 (a1_0.length : Int))), (80, (.int .i64 i700)), (93, v1254), (94, (.int .i64 (x1243.length : Int))), (95, (.int .i64 i1395))]) ⟨rfl, rfl, rfl, rfl, rfl, rfl, rfl, rfl, rfl, rfl, rfl, rfl, rfl, rfl, trivial⟩
                  refine e_then ?_; refine wp_region_lit ?_; (iterate 2 refine op_g ha rfl (g_move rfl) ?_; clear ha a; intro a ha); obtain ⟨x1563, g1564, gx1565, hF⟩ := idx_some hF
                  obtain ⟨p1566, cs1567, f1568, hf1569, hpb1570, hat1571, hr1572, hi1573⟩ := h1387.at g1564 gx1565
                  obtain ⟨rfl, hI1574, rfl⟩ := hr1572
                  refine op_g ha rfl (hi1573.gives sl48 rfl rfl) ?_; clear ha a; intro a ha; refine op_g ha rfl (g_load Try.isAgg3 rfl hat1571.one) ?_; clear ha a; intro a ha; obtain ⟨hI1575, hF⟩ := ck_some hF; refine op_g ha rfl (g_add rfl rfl hI1575) ?_; clear ha a; intro a ha; obtain ⟨x1577, g1578, gx1579, hF⟩ := idx_some hF
                  obtain ⟨p1580, cs1581, f1582, hf1583, hpb1584, hat1585, hr1586, hi1587⟩ := h1387.at g1578 gx1579
                  obtain ⟨rfl, hI1588, rfl⟩ := hr1586
                  refine op_g ha rfl (hi1587.gives sl48 rfl rfl) ?_; clear ha a; intro a ha
                  refine o_storeE (f := []) (q := x1563 + 1) ha Try.sizeOf3 rfl rfl rfl h1387 hi1587 ⟨rfl, hI1575, rfl⟩ (Nq.nil _) ?_; intro w1589 fs1590 h1591 hc1592 hs1593
                  obtain rfl := Subst.nil hs1593
                  replace hB1379 := hB1379.nq hc1592 q1399
                  replace hB1381 := hB1381.nq hc1592 q1403
                  replace h1384 := h1384.nq hc1592 q1407
                  replace h1393 := h1393.nq hc1592 q1416
                  have hE1594 := Ext.then hE1417 hc1592 (Zn.bl z1388)
                  refine wpList_nil ?_; replace ha := ha.sub (σ' := [(2, (.pointer (some ⟨b1, 0, none⟩))), (3, (.pointer (some ⟨b9, 0, none⟩))), (5, (.int .i64 (a1_0.length : Int))), (6, (.int .i64 (a0_0.length : Int))), (9, vqr1o2_1), (10, v1390), (11, v698), (12, (.int .i64 i700)), (79, (.int .i64 (a1_0.length : Int))), (80, (.int .i64 i700)), (93, v1254), (94, (.int .i64 (x1243.length : Int))), (95, (.int .i64 i1395))]) ⟨rfl, rfl, rfl, rfl, rfl, rfl, rfl, rfl, rfl, rfl, rfl, rfl, rfl, trivial⟩; refine e_blk ?_; refine e_then ?_; refine wp_region_lit ?_; obtain ⟨hI1595, hF⟩ := ck_some hF; refine op_g ha rfl (g_add rfl rfl hI1595) ?_; clear ha a; intro a ha
                  refine op_g ha rfl (g_move rfl) ?_; clear ha a; intro a ha; refine wpList_nil ?_; replace ha := ha.sub (σ' := [(2, (.pointer (some ⟨b1, 0, none⟩))), (3, (.pointer (some ⟨b9, 0, none⟩))), (5, (.int .i64 (a1_0.length : Int))), (6, (.int .i64 (a0_0.length : Int))), (9, vqr1o2_1), (10, v1390), (11, v698), (12, (.int .i64 i700)), (79, (.int .i64 (a1_0.length : Int))), (80, (.int .i64 i700)), (93, v1254), (94, (.int .i64 (x1243.length : Int))), (95, (.int .i64 (i1395 + 1)))]) ⟨rfl, rfl, rfl, rfl, rfl, rfl, rfl, rfl, rfl, rfl, rfl, rfl, rfl, trivial⟩; refine e_lq ?_; obtain rfl := Option.some.inj hF
                  exact ⟨_, Nat.lt_succ_self _, (l1389.set ((x1551 : Int).toNat) (x1563 + 1)), i1395 + 1, v1390, b1391, ha.sub ⟨rfl, rfl, rfl, rfl, rfl, rfl, rfl, rfl, rfl, rfl, rfl, rfl, rfl, trivial⟩, hE1594, hI1595, hB1379, z1380, hB1381, z1382, h1384, z1385, h1591, z1388, h1393, z1394, q1397, q1398, q1399, q1400, q1401, q1402, q1403, q1404, q1405, q1406, q1407, q1408, q1409, q1410, q1411, q1412, q1413, q1414, q1415, q1416, hN1547⟩
                replace hF := if_f hp1550 hF; refine wp_exit ?_; refine e_then_exit ?_; refine e_lq_eq ?_; obtain rfl := Option.some.inj hF
                exact ⟨l1389, v1390, b1391, ha.sub ⟨rfl, rfl, rfl, rfl, rfl, rfl, rfl, rfl, rfl, rfl, trivial⟩, hE1417, hB1379, z1380, hB1381, z1382, h1384, z1385, h1387, z1388, h1393, z1394, q1397, q1398, q1399, q1400, q1401, q1402, q1403, q1404, q1405, q1406, q1407, q1408, q1409, q1410, q1411, q1412, q1413, q1414, q1415, q1416, (LK_inr hN1547).symm⟩
            rintro a w1504 ⟨l1515, v1516, b1517, ha, hE1546, hB1505, z1506, hB1507, z1508, h1510, z1511, h1513, z1514, h1519, z1520, q1521, q1522, q1523, q1524, q1525, q1526, q1527, q1528, q1529, q1530, q1531, q1532, q1533, q1534, q1535, q1536, q1537, q1538, q1539, q1540, rfl⟩
            have hF : F_impl_NiceOk_k5 a1_0 a1_1 l697 i700 l1515 = some _ := hK1543; clear hK1543; unfold F_impl_NiceOk_k5 at hF
            refine e_then ?_; refine wp_seq ?_; refine wp_region_lit ?_; refine op_g ha rfl (g_field0 st33_0 rfl) ?_; clear ha a; intro a ha; refine op_g ha rfl (g_load Try.isAgg25 rfl (hB1507.cell rfl)) ?_; clear ha a; intro a ha; refine op_g ha rfl (g_move rfl) ?_; clear ha a; intro a ha; obtain ⟨x1597, g1598, gx1599, hF⟩ := idx_some hF
            obtain ⟨p1600, cs1601, f1602, hf1603, hpb1604, hat1605, hr1606, hi1607⟩ := ha1_0.at g1598 gx1599
            obtain ⟨rfl, hI1608, rfl⟩ := hr1606
            refine op_g ha rfl (hi1607.gives sl25 rfl rfl) ?_; clear ha a; intro a ha; refine op_g ha rfl (g_load0 hE1546 Try.isAgg2 rfl hat1605.one) ?_; clear ha a; intro a ha; refine op_g ha rfl (g_eql rfl rfl) ?_; clear ha a; intro a ha; refine wpList_nil ?_; replace ha := ha.sub (σ' := [(2, (.pointer (some ⟨b1, 0, none⟩))), (3, (.pointer (some ⟨b9, 0, none⟩))), (5, (.int .i64 (a1_0.length : Int))), (6, (.int .i64 (a0_0.length : Int))), (9, vqr1o2_1), (10, v1516), (11, v698), (12, (.int .i64 i700)), (79, (.int .i64 (a1_0.length : Int))), (80, (.int .i64 i700)), (111, (.bool (decide (x1597 = 3))))]) ⟨rfl, rfl, rfl, rfl, rfl, rfl, rfl, rfl, rfl, rfl, rfl, trivial⟩
            refine e_then ?_; refine c_cond (x1597 = 3) ha rfl (decide_eq_true_iff) (fun hp1609 => ?_) (fun hp1609 => ?_)
            · replace hF := if_t hp1609 hF
              refine wp_region_lit ?_; refine op_g ha rfl (g_move rfl) ?_; clear ha a; intro a ha; refine op_g ha rfl (g_field0 st33_1 rfl) ?_; clear ha a; intro a ha; refine op_g ha rfl (g_load Try.isAgg25 rfl (hB1507.cell rfl)) ?_; clear ha a; intro a ha; refine op_g ha rfl (g_move rfl) ?_; clear ha a; intro a ha; obtain ⟨x1610, g1611, gx1612, hF⟩ := idx_some hF
              obtain ⟨p1613, cs1614, f1615, hf1616, hpb1617, hat1618, hr1619, hi1620⟩ := ha1_1.at g1611 gx1612
              obtain ⟨rfl, hI1621, rfl⟩ := hr1619
              refine op_g ha rfl (hi1620.gives sl25 rfl rfl) ?_; clear ha a; intro a ha; refine op_g ha rfl (g_load0 hE1546 Try.isAgg2 rfl hat1618.one) ?_; clear ha a; intro a ha; obtain ⟨x1622, g1623, gx1624, hF⟩ := idx_some hF
              obtain ⟨p1625, cs1626, f1627, hf1628, hpb1629, hat1630, hr1631, hi1632⟩ := h1519.at g1623 gx1624
              obtain ⟨rfl, hI1633, rfl⟩ := hr1631
              refine op_g ha rfl (hi1632.gives sl48 rfl rfl) ?_; clear ha a; intro a ha; refine op_g ha rfl (g_load Try.isAgg3 rfl hat1630.one) ?_; clear ha a; intro a ha; obtain ⟨hI1634, hF⟩ := ck_some hF; refine op_g ha rfl (g_add rfl rfl hI1634) ?_; clear ha a; intro a ha; obtain ⟨x1636, g1637, gx1638, hF⟩ := idx_some hF
              obtain ⟨p1639, cs1640, f1641, hf1642, hpb1643, hat1644, hr1645, hi1646⟩ := h1519.at g1637 gx1638
              obtain ⟨rfl, hI1647, rfl⟩ := hr1645
              refine op_g ha rfl (hi1646.gives sl48 rfl rfl) ?_; clear ha a; intro a ha
              refine o_storeE (f := []) (q := x1622 + 1) ha Try.sizeOf3 rfl rfl rfl h1519 hi1646 ⟨rfl, hI1634, rfl⟩ (Nq.nil _) ?_; intro w1648 fs1649 h1650 hc1651 hs1652
              obtain rfl := Subst.nil hs1652
              replace hB1505 := hB1505.nq hc1651 q1524
              replace hB1507 := hB1507.nq hc1651 q1528
              replace h1510 := h1510.nq hc1651 q1532
              replace h1513 := h1513.nq hc1651 q1536
              have hE1653 := Ext.then hE1546 hc1651 (Zn.bl z1520)
              refine wpList_nil ?_; replace ha := ha.sub (σ' := [(2, (.pointer (some ⟨b1, 0, none⟩))), (3, (.pointer (some ⟨b9, 0, none⟩))), (5, (.int .i64 (a1_0.length : Int))), (6, (.int .i64 (a0_0.length : Int))), (9, vqr1o2_1), (10, v1516), (11, v698), (79, (.int .i64 (a1_0.length : Int))), (80, (.int .i64 i700))]) ⟨rfl, rfl, rfl, rfl, rfl, rfl, rfl, rfl, rfl, trivial⟩; refine e_blk ?_; refine e_then ?_; refine wp_region_lit ?_; obtain ⟨hI1654, hF⟩ := ck_some hF; refine op_g ha rfl (g_add rfl rfl hI1654) ?_; clear ha a; intro a ha; refine op_g ha rfl (g_move rfl) ?_; clear ha a; intro a ha
              refine wpList_nil ?_; replace ha := ha.sub (σ' := [(2, (.pointer (some ⟨b1, 0, none⟩))), (3, (.pointer (some ⟨b9, 0, none⟩))), (5, (.int .i64 (a1_0.length : Int))), (6, (.int .i64 (a0_0.length : Int))), (9, vqr1o2_1), (10, v1516), (11, v698), (79, (.int .i64 (a1_0.length : Int))), (80, (.int .i64 (i700 + 1)))]) ⟨rfl, rfl, rfl, rfl, rfl, rfl, rfl, rfl, rfl, trivial⟩; refine e_lq ?_; obtain rfl := Option.some.inj hF
              exact ⟨_, Nat.lt_succ_self _, l1515, (l697.set ((x1610 : Int).toNat) (x1622 + 1)), i700 + 1, v1516, b1517, v698, b699, ha.sub ⟨rfl, rfl, rfl, rfl, rfl, rfl, rfl, rfl, rfl, trivial⟩, hE1653, hI1654, hB1505, z1506, hB1507, z1508, h1510, z1511, h1513, z1514, h1650, z1520, q1521, q1522, q1523, q1524, q1525, q1526, q1527, q1528, q1529, q1530, q1531, q1532, q1533, q1534, q1535, q1536, q1537, q1538, q1539, q1540, hN1227⟩
            replace hF := if_f hp1609 hF; refine wp_skip ?_; refine e_blk ?_; refine e_then ?_; refine wp_region_lit ?_; obtain ⟨hI1656, hF⟩ := ck_some hF; refine op_g ha rfl (g_add rfl rfl hI1656) ?_; clear ha a; intro a ha; refine op_g ha rfl (g_move rfl) ?_; clear ha a; intro a ha; refine wpList_nil ?_; replace ha := ha.sub (σ' := [(2, (.pointer (some ⟨b1, 0, none⟩))), (3, (.pointer (some ⟨b9, 0, none⟩))), (5, (.int .i64 (a1_0.length : Int))), (6, (.int .i64 (a0_0.length : Int))), (9, vqr1o2_1), (10, v1516), (11, v698), (79, (.int .i64 (a1_0.length : Int))), (80, (.int .i64 (i700 + 1)))]) ⟨rfl, rfl, rfl, rfl, rfl, rfl, rfl, rfl, rfl, trivial⟩
            refine e_lq ?_; obtain rfl := Option.some.inj hF
            exact ⟨_, Nat.lt_succ_self _, l1515, l697, i700 + 1, v1516, b1517, v698, b699, ha.sub ⟨rfl, rfl, rfl, rfl, rfl, rfl, rfl, rfl, rfl, trivial⟩, hE1546, hI1656, hB1505, z1506, hB1507, z1508, h1510, z1511, h1513, z1514, h1519, z1520, q1521, q1522, q1523, q1524, q1525, q1526, q1527, q1528, q1529, q1530, q1531, q1532, q1533, q1534, q1535, q1536, q1537, q1538, q1539, q1540, hN1227⟩
          replace hF := if_f hp1230 hF; refine wp_exit ?_; refine e_then_exit ?_; refine e_lq_eq ?_; obtain rfl := Option.some.inj hF
          exact ⟨l691, l697, v692, b693, v698, b699, ha.sub ⟨rfl, rfl, rfl, rfl, rfl, trivial⟩, hE722, hB681, z682, h686, z687, h689, z690, h695, z696, q703, q704, q705, q710, q712, q713, q714, q716, q717, q718, q720, q721, (LK_inr hN1227).symm⟩
      rintro a w1191 ⟨l1200, l1206, v1201, b1202, v1207, b1208, ha, hE1226, hB1192, z1193, h1195, z1196, h1198, z1199, h1204, z1205, q1209, q1210, q1211, q1212, q1213, q1214, q1215, q1216, q1217, q1218, q1219, q1220, rfl⟩
      have hF : F_impl_NiceOk_k6 a0_0 a1_0 xqr1o2_1 l1200 l1206 = some _ := hK1223; clear hK1223; unfold F_impl_NiceOk_k6 at hF
      refine e_then ?_; refine wp_seq ?_; refine wp_seq ?_; refine wp_region_lit ?_; refine op_g ha rfl (g_move rfl) ?_; clear ha a; intro a ha; refine op_g ha rfl (g_lenO sl48.und h1198 rfl) ?_; clear ha a; intro a ha; refine op_g ha rfl (g_move rfl) ?_; clear ha a; intro a ha; refine wpList_nil ?_; replace ha := ha.sub (σ' := [(2, (.pointer (some ⟨b1, 0, none⟩))), (5, (.int .i64 (a1_0.length : Int))), (9, vqr1o2_1), (11, v1207), (123, v1201), (124, (.int .i64 (l1200.length : Int))), (125, (.int .i64 0))]) ⟨rfl, rfl, rfl, rfl, rfl, rfl, rfl, trivial⟩; refine e_then ?_; obtain ⟨o1815, ho1816, hK1817⟩ := bnd_some hF
      obtain ⟨n1818, hn1819⟩ := lp_some ho1816; clear ho1816
      refine c_loop (fun a w => Fr 159 [(2, (.pointer (some ⟨b1, 0, none⟩))), (5, (.int .i64 (a1_0.length : Int))), (9, vqr1o2_1), (11, v1207)] a ∧ Chg [] W w ∧ Bx w b1 [va0_0] 31 ∧ Zn W (b1 : Int) ∧ Ow Rp.u32 51 true w [] bqr1o2_1 vqr1o2_1 xqr1o2_1 ∧ Zn W bqr1o2_1 ∧ Ow Rp.int 3 true w [] b1208 v1207 l1206 ∧ Zn W b1208 ∧ Nq ([b1]) bqr1o2_1 ∧ Nq ([b1]) b1208 ∧ Nq (bl bqr1o2_1 ++ []) (b1 : Int) ∧ Nq (bl bqr1o2_1 ++ []) b1208 ∧ Nq (bl b1208 ++ []) (b1 : Int) ∧ Nq (bl b1208 ++ []) bqr1o2_1 ∧ o1815 = .inl ()) (fun n a w => ∃ (i1740 : Int), Fr 159 [(2, (.pointer (some ⟨b1, 0, none⟩))), (5, (.int .i64 (a1_0.length : Int))), (9, vqr1o2_1), (11, v1207), (123, v1201), (124, (.int .i64 (l1200.length : Int))), (125, (.int .i64 i1740))] a ∧ Chg [] W w ∧ InI i1740 ∧ Bx w b1 [va0_0] 31 ∧ Zn W (b1 : Int) ∧ Ow Rp.u32 51 true w [] bqr1o2_1 vqr1o2_1 xqr1o2_1 ∧ Zn W bqr1o2_1 ∧ Ow Rp.int 3 true w [] b1208 v1207 l1206 ∧ Zn W b1208 ∧ Ow Rp.int 3 true w [] b1202 v1201 l1200 ∧ Zn W b1202 ∧ Nq ([b1]) bqr1o2_1 ∧ Nq ([b1]) b1208 ∧ Nq ([b1]) b1202 ∧ Nq (bl bqr1o2_1 ++ []) (b1 : Int) ∧ Nq (bl bqr1o2_1 ++ []) b1208 ∧ Nq (bl bqr1o2_1 ++ []) b1202 ∧ Nq (bl b1208 ++ []) (b1 : Int) ∧ Nq (bl b1208 ++ []) bqr1o2_1 ∧ Nq (bl b1208 ++ []) b1202 ∧ Nq (bl b1202 ++ []) (b1 : Int) ∧ Nq (bl b1202 ++ []) bqr1o2_1 ∧ Nq (bl b1202 ++ []) b1208 ∧ lpN (fun s => F_impl_NiceOk_l7 a1_0 l1200 s) n i1740 = some o1815) n1818 ⟨0, ha.sub ⟨rfl, rfl, rfl, rfl, rfl, rfl, rfl, trivial⟩, hE1226, (show InI 0 from by decide), hB1192, z1193, h1195, z1196, h1204, z1205, h1198, z1199, q1209, q1211, q1210, q1212, q1214, q1213, q1218, q1219, q1220, q1215, q1216, q1217, hn1819⟩ ?_ ?_
      · rintro m1823 a w1728 ⟨i1740, ha, hE1754, hI1741, hB1729, z1730, h1732, z1733, h1735, z1736, h1738, z1739, q1742, q1743, q1744, q1745, q1746, q1747, q1748, q1749, q1750, q1751, q1752, q1753, hF⟩
        cases m1823 with
        | zero => exact (lpN_zero hF).elim
        | succ m1823 =>
          obtain ⟨z1822, hF, hN1821⟩ := lpN_succ hF
          have hF : F_impl_NiceOk_l7 a1_0 l1200 i1740 = some z1822 := hF; unfold F_impl_NiceOk_l7 at hF
          refine wp_seq ?_; refine wp_region_lit ?_; refine op_g ha rfl (g_lss rfl rfl) ?_; clear ha a; intro a ha; refine wpList_nil ?_; replace ha := ha.sub (σ' := [(2, (.pointer (some ⟨b1, 0, none⟩))), (5, (.int .i64 (a1_0.length : Int))), (9, vqr1o2_1), (11, v1207), (123, v1201), (124, (.int .i64 (l1200.length : Int))), (125, (.int .i64 i1740)), (126, (.bool (decide (i1740 < (l1200.length : Int)))))]) ⟨rfl, rfl, rfl, rfl, rfl, rfl, rfl, rfl, trivial⟩; refine e_then ?_; refine wp_seq ?_; refine c_cond (i1740 < (l1200.length : Int)) ha rfl (decide_eq_true_iff) (fun hp1824 => ?_) (fun hp1824 => ?_)
          · replace hF := if_t hp1824 hF
            refine wp_skip ?_; refine e_then ?_; refine wp_seq ?_; refine wp_block ?_; refine wp_seq ?_; refine wp_region_lit ?_; refine op_g ha rfl (g_move rfl) ?_; clear ha a; intro a ha; obtain ⟨x1825, g1826, gx1827, hF⟩ := idx_some hF
            obtain ⟨p1828, cs1829, f1830, hf1831, hpb1832, hat1833, hr1834, hi1835⟩ := h1738.at g1826 gx1827
            obtain ⟨rfl, hI1836, rfl⟩ := hr1834
            refine op_g ha rfl (hi1835.gives sl48 rfl rfl) ?_; clear ha a; intro a ha; refine op_g ha rfl (g_load Try.isAgg3 rfl hat1833.one) ?_; clear ha a; intro a ha; (iterate 2 refine op_g ha rfl (g_assign rfl) ?_; clear ha a; intro a ha); refine wpList_nil ?_; replace ha := ha.sub (σ' := [(2, (.pointer (some ⟨b1, 0, none⟩))), (5, (.int .i64 (a1_0.length : Int))), (9, vqr1o2_1), (11, v1207), (15, (.int .i64 i1740)), (16, (.int .i64 x1825)), (123, v1201), (124, (.int .i64 (l1200.length : Int))), (125, (.int .i64 i1740))]) ⟨rfl, rfl, rfl, rfl, rfl, rfl, rfl, rfl, rfl, trivial⟩; refine e_then ?_
            refine wp_seq ?_; refine wp_region_lit ?_; refine op_g ha rfl (g_move rfl) ?_; clear ha a; intro a ha; refine op_g ha rfl (g_eql rfl rfl) ?_; clear ha a; intro a ha; (iterate 2 refine op_g ha rfl (g_move rfl) ?_; clear ha a; intro a ha); obtain ⟨hI1837, hF⟩ := ck_some hF; refine op_g ha rfl (g_sub rfl rfl hI1837) ?_; clear ha a; intro a ha; refine op_g ha rfl (g_lss rfl rfl) ?_; clear ha a; intro a ha; refine op_g ha rfl (gB_neq un4 rfl rfl) ?_; clear ha a; intro a ha; refine op_g ha rfl (g_move rfl) ?_; clear ha a; intro a ha
            by_cases hp1839 : ((decide (x1825 = 1)) != (decide (i1740 < ((a1_0.length : Int) - 1)))) = true
            · replace hF := if_t hp1839 hF
              rw [show ((decide (x1825 = 1)) != (decide (i1740 < ((a1_0.length : Int) - 1)))) = true from (Iff.rfl).2 hp1839] at ha
              (iterate 2 refine op_unwant ha rfl (yields ha rfl rfl) rfl ?_; clear ha a; intro a ha); refine op_g ha rfl (g_pick rfl rfl) ?_; clear ha a; intro a ha; refine wpList_nil ?_; replace ha := ha.sub (σ' := [(2, (.pointer (some ⟨b1, 0, none⟩))), (5, (.int .i64 (a1_0.length : Int))), (9, vqr1o2_1), (11, v1207), (123, v1201), (124, (.int .i64 (l1200.length : Int))), (125, (.int .i64 i1740)), (140, (.bool true))]) ⟨rfl, rfl, rfl, rfl, rfl, rfl, rfl, rfl, trivial⟩; refine e_then ?_; refine c_true ha rfl ?_; refine wp_seq ?_; refine wp_region_lit ?_; refine op_g ha rfl (g_assign rfl) ?_; clear ha a; intro a ha
              refine wpList_nil ?_; replace ha := ha.sub (σ' := [(4, (.bool false))]) ⟨rfl, trivial⟩; refine e_then ?_; refine wp_ret ?_; refine e_blk_ret ?_; refine e_then_ret ?_; refine e_lq_ret ?_; refine e_then_ret ?_; obtain rfl := Option.some.inj hF
              have e1840 := LK_inr hN1821; subst e1840
              have e1841 := BK_inr hK1817; subst e1841
              exact f_ret1 ha rfl rfl ⟨rfl, hE1754⟩
            replace hF := if_f hp1839 hF
            rw [show ((decide (x1825 = 1)) != (decide (i1740 < ((a1_0.length : Int) - 1)))) = false from b_false (Iff.rfl) hp1839] at ha
            refine op_want (yields ha rfl rfl) ?_; refine op_g ha rfl (g_move rfl) ?_; clear ha a; intro a ha; refine op_want (yields ha rfl rfl) ?_; refine op_g ha rfl (g_gtr rfl rfl) ?_; clear ha a; intro a ha; refine op_g ha rfl (g_pick rfl rfl) ?_; clear ha a; intro a ha; refine wpList_nil ?_; replace ha := ha.sub (σ' := [(2, (.pointer (some ⟨b1, 0, none⟩))), (5, (.int .i64 (a1_0.length : Int))), (9, vqr1o2_1), (11, v1207), (123, v1201), (124, (.int .i64 (l1200.length : Int))), (125, (.int .i64 i1740)), (138, (.int .i64 x1825)), (139, (.bool (decide (1 < x1825)))), (140, (.bool (decide (1 < x1825))))]) ⟨rfl, rfl, rfl, rfl, rfl, rfl, rfl, rfl, rfl, rfl, trivial⟩
            refine e_then ?_; refine c_cond (1 < x1825) ha rfl (decide_eq_true_iff) (fun hp1842 => ?_) (fun hp1842 => ?_)
            · replace hF := if_t hp1842 hF
              refine wp_seq ?_; refine wp_region_lit ?_; refine op_g ha rfl (g_assign rfl) ?_; clear ha a; intro a ha; refine wpList_nil ?_; replace ha := ha.sub (σ' := [(4, (.bool false))]) ⟨rfl, trivial⟩; refine e_then ?_; refine wp_ret ?_; refine e_blk_ret ?_; refine e_then_ret ?_; refine e_lq_ret ?_; refine e_then_ret ?_; obtain rfl := Option.some.inj hF
              have e1843 := LK_inr hN1821; subst e1843
              have e1844 := BK_inr hK1817; subst e1844
              exact f_ret1 ha rfl rfl ⟨rfl, hE1754⟩
            replace hF := if_f hp1842 hF; refine wp_skip ?_; refine e_blk ?_; refine e_then ?_; refine wp_region_lit ?_; obtain ⟨hI1845, hF⟩ := ck_some hF; refine op_g ha rfl (g_add rfl rfl hI1845) ?_; clear ha a; intro a ha; refine op_g ha rfl (g_move rfl) ?_; clear ha a; intro a ha; refine wpList_nil ?_; replace ha := ha.sub (σ' := [(2, (.pointer (some ⟨b1, 0, none⟩))), (5, (.int .i64 (a1_0.length : Int))), (9, vqr1o2_1), (11, v1207), (123, v1201), (124, (.int .i64 (l1200.length : Int))), (125, (.int .i64 (i1740 + 1))), (138, (.int .i64 x1825)), (139, (.bool (decide (1 < x1825))))]) ⟨rfl, rfl, rfl, rfl, rfl, rfl, rfl, rfl, rfl, trivial⟩
            refine e_lq ?_; obtain rfl := Option.some.inj hF
            exact ⟨_, Nat.lt_succ_self _, i1740 + 1, ha.sub ⟨rfl, rfl, rfl, rfl, rfl, rfl, rfl, trivial⟩, hE1754, hI1845, hB1729, z1730, h1732, z1733, h1735, z1736, h1738, z1739, q1742, q1743, q1744, q1745, q1746, q1747, q1748, q1749, q1750, q1751, q1752, q1753, hN1821⟩
          replace hF := if_f hp1824 hF; refine wp_exit ?_; refine e_then_exit ?_; refine e_lq_eq ?_; obtain rfl := Option.some.inj hF
          exact ⟨ha.sub ⟨rfl, rfl, rfl, rfl, trivial⟩, hE1754, hB1729, z1730, h1732, z1733, h1735, z1736, q1742, q1743, q1745, q1746, q1748, q1749, (LK_inr hN1821).symm⟩
      rintro a w1800 ⟨ha, hE1820, hB1801, z1802, h1804, z1805, h1807, z1808, q1809, q1810, q1811, q1812, q1813, q1814, rfl⟩
      have hF : F_impl_NiceOk_k8 a0_0 a1_0 xqr1o2_1 l1206 = some _ := hK1817; clear hK1817; unfold F_impl_NiceOk_k8 at hF
      refine e_then ?_; refine wp_seq ?_; refine wp_region_lit ?_; (iterate 2 refine op_g ha rfl (g_move rfl) ?_; clear ha a; intro a ha); obtain ⟨hI1847, hF⟩ := ck_some hF; refine op_g ha rfl (g_sub rfl rfl hI1847) ?_; clear ha a; intro a ha; obtain ⟨x1849, g1850, gx1851, hF⟩ := idx_some hF
      obtain ⟨p1852, cs1853, f1854, hf1855, hpb1856, hat1857, hr1858, hi1859⟩ := h1804.at g1850 gx1851
      obtain ⟨rfl, rfl⟩ := hr1858
      refine op_g ha rfl (hi1859.gives sl46 rfl rfl) ?_; clear ha a; intro a ha; refine op_g ha rfl (g_load Try.isAgg51 rfl hat1857.one) ?_; clear ha a; intro a ha; refine op_g ha rfl (g32_eql (m := x1849) (n := (0#32)) rfl rfl) ?_; clear ha a; intro a ha; refine op_g ha rfl (g_move rfl) ?_; clear ha a; intro a ha
      by_cases hp1860 : x1849 = (0#32)
      · replace hF := if_t hp1860 hF
        rw [show (decide (x1849 = (0#32))) = true from (decide_eq_true_iff).2 hp1860] at ha
        refine op_want (yields ha rfl rfl) ?_; refine op_g ha rfl (g_move rfl) ?_; clear ha a; intro a ha; refine op_want (yields ha rfl rfl) ?_
        obtain ⟨fp1861, hro1862, hs1863⟩ := h1807.roF
        obtain ⟨x1866, hc1867, hF⟩ := cal_some hF
        refine o_call ha rfl rfl Try.call24 (W_slices_ContainsFunc_int hro1862 (by intro _ hy1865 z1864 hz1864 r hr; exact W_impl_NiceOk_1 hz1864 hr) Try.call25 hc1867) ?_; clear ha a; rintro v1868 w1869 ⟨rfl, hx1870⟩ a ha
        replace hB1801 := hB1801.ext hx1870
        replace h1804 := h1804.ext hx1870
        replace h1807 := h1807.ext hx1870
        have hE1871 := Ext.trans hE1820 hx1870
        refine op_want (yields ha rfl rfl) ?_; refine op_g ha rfl (g_not rfl) ?_; clear ha a; intro a ha; refine op_g ha rfl (g_pick rfl rfl) ?_; clear ha a; intro a ha; refine op_g ha rfl (g_move rfl) ?_; clear ha a; intro a ha
        by_cases hp1872 : ¬ (x1866 = true)
        · replace hF := if_t hp1872 hF
          rw [show (!x1866) = true from (n_iff (Iff.rfl)).2 hp1872] at ha
          refine op_want (yields ha rfl rfl) ?_; refine op_g ha rfl (g_loadA (cs := [va0_0]) Try.isAgg31 Try.sizeOf31 rfl (by simp) hB1801.all) ?_; clear ha a; intro a ha; refine op_want (yields ha rfl rfl) ?_; obtain ⟨x1873, hc1874, hF⟩ := cal_some hF
          refine o_call ha rfl rfl Try.call27 (W_impl_netsOf (ha0_0.ext hE1871) hc1874) ?_; clear ha a; rintro v1875 w1876 ⟨b1878, h1879, z1880, hx1877⟩ a ha
          have q1882 := Nq.new hB1801.fpb z1880
          have q1883 := Nq.madeO z1880 hB1801.bi
          have q1884 := Nq.new h1804.fpb z1880
          have q1885 := Nq.madeO z1880 h1804.blt
          have q1886 := Nq.new h1807.fpb z1880
          have q1887 := Nq.madeO z1880 h1807.blt
          replace hB1801 := hB1801.ext hx1877
          replace h1804 := h1804.ext hx1877
          replace h1807 := h1807.ext hx1877
          have hE1888 := Ext.trans hE1871 hx1877
          have q1889 := Zn.upD z1880 hE1871
          refine op_want (yields ha rfl rfl) ?_; refine op_g ha rfl (g_move rfl) ?_; clear ha a; intro a ha; refine op_want (yields ha rfl rfl) ?_
          obtain ⟨fp1890, hro1891, hs1892⟩ := h1879.roF
          obtain ⟨fp1893, hro1894, hs1895⟩ := h1804.roF
          obtain ⟨x1896, hc1897, hF⟩ := cal_some hF
          refine o_call ha rfl rfl Try.call26 (W_impl_coversEdges hro1891 hro1894 hc1897) ?_; clear ha a; rintro v1898 w1899 ⟨rfl, hx1900⟩ a ha
          replace hB1801 := hB1801.ext hx1900
          replace h1804 := h1804.ext hx1900
          replace h1807 := h1807.ext hx1900
          replace h1879 := h1879.ext hx1900
          have hE1901 := Ext.trans hE1888 hx1900
          refine op_g ha rfl (g_pick rfl rfl) ?_; clear ha a; intro a ha; refine op_g ha rfl (g_assign rfl) ?_; clear ha a; intro a ha; refine wpList_nil ?_; replace ha := ha.sub (σ' := [(4, (.bool x1896))]) ⟨rfl, trivial⟩; refine e_then ?_; refine wp_ret ?_; obtain rfl := Option.some.inj hF
          exact f_ret1 ha rfl rfl ⟨rfl, hE1901⟩
        replace hF := if_f hp1872 hF
        rw [show (!x1866) = false from b_false (n_iff (Iff.rfl)) hp1872] at ha
        (iterate 4 refine op_unwant ha rfl (yields ha rfl rfl) rfl ?_; clear ha a; intro a ha); refine op_g ha rfl (g_pick rfl rfl) ?_; clear ha a; intro a ha; refine op_g ha rfl (g_assign rfl) ?_; clear ha a; intro a ha; refine wpList_nil ?_; replace ha := ha.sub (σ' := [(4, (.bool false))]) ⟨rfl, trivial⟩; refine e_then ?_; refine wp_ret ?_; obtain rfl := Option.some.inj hF
        exact f_ret1 ha rfl rfl ⟨rfl, hE1871⟩
      replace hF := if_f hp1860 hF
      rw [show (decide (x1849 = (0#32))) = false from b_false (decide_eq_true_iff) hp1860] at ha
      (iterate 3 refine op_unwant ha rfl (yields ha rfl rfl) rfl ?_; clear ha a; intro a ha); refine op_g ha rfl (g_pick rfl rfl) ?_; clear ha a; intro a ha; refine op_g ha rfl (g_move rfl) ?_; clear ha a; intro a ha; (iterate 4 refine op_unwant ha rfl (yields ha rfl rfl) rfl ?_; clear ha a; intro a ha); refine op_g ha rfl (g_pick rfl rfl) ?_; clear ha a; intro a ha; refine op_g ha rfl (g_assign rfl) ?_; clear ha a; intro a ha; refine wpList_nil ?_; replace ha := ha.sub (σ' := [(4, (.bool false))]) ⟨rfl, trivial⟩; refine e_then ?_; refine wp_ret ?_; obtain rfl := Option.some.inj hF
      exact f_ret1 ha rfl rfl ⟨rfl, hE1820⟩
    skip
    replace hB130 := hB130.ext hxqr1o7_1
    replace hB132 := hB132.ext hxqr1o7_1
    replace hqr1o2_1 := hqr1o2_1.ext hxqr1o7_1
    have hEqr1o6_1 := Ext.trans hEqr1o2_2 hxqr1o7_1
    refine o_make (z0 := (0 : Int)) Rp.int ha rfl sl48 rfl (fun w => ⟨rfl, by decide, rfl⟩) rfl gqr1o6_1 gqr1o6_1b ?_; clear ha a; intro vqr1o6_1 wqr1o6_1 hqr1o6_1 hxqr1o6_1 a ha
    obtain ⟨bqr1o6_1, hbqr1o6_1⟩ : ∃ b : Int, b = wqr1o7_1.heap.size := ⟨_, rfl⟩; rw [← hbqr1o6_1] at hqr1o6_1
    have qqr1o6_1 := zn_of hbqr1o6_1
    have qqr1o6_2 := Nq.new hB130.fpb qqr1o6_1
    have qqr1o6_3 := Nq.madeO qqr1o6_1 hB130.bi
    have qqr1o6_4 := Nq.new hB132.fpb qqr1o6_1
    have qqr1o6_5 := Nq.madeO qqr1o6_1 hB132.bi
    have qqr1o6_6 := Nq.new hqr1o2_1.fpb qqr1o6_1
    have qqr1o6_7 := Nq.madeO qqr1o6_1 hqr1o2_1.blt
    have qqr1o6_8 := Zn.upD qqr1o6_1 hEqr1o6_1
    replace hB130 := hB130.ext hxqr1o6_1
    replace hB132 := hB132.ext hxqr1o6_1
    replace hqr1o2_1 := hqr1o2_1.ext hxqr1o6_1
    have hEqr1o6_2 := Ext.trans hEqr1o6_1 hxqr1o6_1
    refine wpList_nil (e_sq ?_)
    refine ⟨fun _ => hxqr1o6_1, ?_⟩
    refine u_only 4 rfl (by kernel_rfl) ?_; intro wqr1o4_1 hxqr1o4_1
    replace hB130 := hB130.ext hxqr1o4_1
    replace hB132 := hB132.ext hxqr1o4_1
    replace hqr1o2_1 := hqr1o2_1.ext hxqr1o4_1
    replace hqr1o6_1 := hqr1o6_1.ext hxqr1o4_1
    have hEqr1o4_1 := Ext.trans hEqr1o6_2 hxqr1o4_1
    refine o_make (z0 := (0 : Int)) Rp.int ha rfl sl48 rfl (fun w => ⟨rfl, by decide, rfl⟩) rfl gqr1o4_1 gqr1o4_1b ?_; clear ha a; intro vqr1o4_1 wqr1o4_2 hqr1o4_1 hxqr1o4_2 a ha
    obtain ⟨bqr1o4_1, hbqr1o4_1⟩ : ∃ b : Int, b = wqr1o4_1.heap.size := ⟨_, rfl⟩; rw [← hbqr1o4_1] at hqr1o4_1
    have qqr1o4_1 := zn_of hbqr1o4_1
    have qqr1o4_2 := Nq.new hB130.fpb qqr1o4_1
    have qqr1o4_3 := Nq.madeO qqr1o4_1 hB130.bi
    have qqr1o4_4 := Nq.new hB132.fpb qqr1o4_1
    have qqr1o4_5 := Nq.madeO qqr1o4_1 hB132.bi
    have qqr1o4_6 := Nq.new hqr1o2_1.fpb qqr1o4_1
    have qqr1o4_7 := Nq.madeO qqr1o4_1 hqr1o2_1.blt
    have qqr1o4_8 := Nq.new hqr1o6_1.fpb qqr1o4_1
    have qqr1o4_9 := Nq.madeO qqr1o4_1 hqr1o6_1.blt
    have qqr1o4_10 := Zn.upD qqr1o4_1 hEqr1o4_1
    replace hB130 := hB130.ext hxqr1o4_2
    replace hB132 := hB132.ext hxqr1o4_2
    replace hqr1o2_1 := hqr1o2_1.ext hxqr1o4_2
    replace hqr1o6_1 := hqr1o6_1.ext hxqr1o4_2
    have hEqr1o4_2 := Ext.trans hEqr1o4_1 hxqr1o4_2
    refine wpList_nil (e_sq ?_)
    refine ⟨fun _ => hxqr1o4_2, ?_⟩
    refine u_g 8 rfl (by kernel_rfl) (want0 _) ha rfl (g_assign rfl) ?_; clear ha a; intro a ha; refine u_g 9 rfl (by kernel_rfl) (want0 _) ha rfl (g_assign rfl) ?_; clear ha a; intro a ha
    refine u_done (by kernel_rfl) ?_; intro w174 hx175
    replace hB130 := hB130.ext hx175
    replace hB132 := hB132.ext hx175
    replace hqr1o2_1 := hqr1o2_1.ext hx175
    replace hqr1o6_1 := hqr1o6_1.ext hx175
    replace hqr1o4_1 := hqr1o4_1.ext hx175
    have hE176 := Ext.trans hEqr1o4_2 hx175
    replace ha := ha.sub (σ' := [(2, (.pointer (some ⟨b1, 0, none⟩))), (3, (.pointer (some ⟨b9, 0, none⟩))), (5, (.int .i64 (a1_0.length : Int))), (6, (.int .i64 (a0_0.length : Int))), (9, vqr1o2_1), (10, vqr1o4_1), (11, vqr1o6_1)]) ⟨rfl, rfl, rfl, rfl, rfl, rfl, rfl, trivial⟩; refine e_then ?_; refine wp_seq ?_; refine wp_seq ?_; refine wp_region_lit ?_; (iterate 2 refine op_g ha rfl (g_move rfl) ?_; clear ha a; intro a ha); refine wpList_nil ?_; replace ha := ha.sub (σ' := [(2, (.pointer (some ⟨b1, 0, none⟩))), (3, (.pointer (some ⟨b9, 0, none⟩))), (5, (.int .i64 (a1_0.length : Int))), (6, (.int .i64 (a0_0.length : Int))), (9, vqr1o2_1), (10, vqr1o4_1), (11, vqr1o6_1), (79, (.int .i64 (a1_0.length : Int))), (80, (.int .i64 0))]) ⟨rfl, rfl, rfl, rfl, rfl, rfl, rfl, rfl, rfl, trivial⟩
    refine e_then ?_; obtain ⟨o1221, ho1222, hK1223⟩ := bnd_some hF
    obtain ⟨n1224, hn1225⟩ := lp_some ho1222; clear ho1222
    refine c_loop (fun a w => ∃ (l1200 : (List Int)) (l1206 : (List Int)) (v1201 : Value) (b1202 : Int) (v1207 : Value) (b1208 : Int), Fr 159 [(2, (.pointer (some ⟨b1, 0, none⟩))), (5, (.int .i64 (a1_0.length : Int))), (9, vqr1o2_1), (10, v1201), (11, v1207)] a ∧ Chg [] W w ∧ Bx w b1 [va0_0] 31 ∧ Zn W (b1 : Int) ∧ Ow Rp.u32 51 true w [] bqr1o2_1 vqr1o2_1 xqr1o2_1 ∧ Zn W bqr1o2_1 ∧ Ow Rp.int 3 true w [] b1202 v1201 l1200 ∧ Zn W b1202 ∧ Ow Rp.int 3 true w [] b1208 v1207 l1206 ∧ Zn W b1208 ∧ Nq ([b1]) bqr1o2_1 ∧ Nq ([b1]) b1202 ∧ Nq ([b1]) b1208 ∧ Nq (bl bqr1o2_1 ++ []) (b1 : Int) ∧ Nq (bl bqr1o2_1 ++ []) b1202 ∧ Nq (bl bqr1o2_1 ++ []) b1208 ∧ Nq (bl b1202 ++ []) (b1 : Int) ∧ Nq (bl b1202 ++ []) bqr1o2_1 ∧ Nq (bl b1202 ++ []) b1208 ∧ Nq (bl b1208 ++ []) (b1 : Int) ∧ Nq (bl b1208 ++ []) bqr1o2_1 ∧ Nq (bl b1208 ++ []) b1202 ∧ o1221 = .inl (l1200, l1206)) (fun n a w => ∃ (l691 : (List Int)) (l697 : (List Int)) (i700 : Int) (v692 : Value) (b693 : Int) (v698 : Value) (b699 : Int), Fr 159 [(2, (.pointer (some ⟨b1, 0, none⟩))), (3, (.pointer (some ⟨b9, 0, none⟩))), (5, (.int .i64 (a1_0.length : Int))), (6, (.int .i64 (a0_0.length : Int))), (9, vqr1o2_1), (10, v692), (11, v698), (79, (.int .i64 (a1_0.length : Int))), (80, (.int .i64 i700))] a ∧ Chg [] W w ∧ InI i700 ∧ Bx w b1 [va0_0] 31 ∧ Zn W (b1 : Int) ∧ Bx w b9 [va1_0, va1_1, va1_2, va1_3] 33 ∧ Zn W (b9 : Int) ∧ Ow Rp.u32 51 true w [] bqr1o2_1 vqr1o2_1 xqr1o2_1 ∧ Zn W bqr1o2_1 ∧ Ow Rp.int 3 true w [] b693 v692 l691 ∧ Zn W b693 ∧ Ow Rp.int 3 true w [] b699 v698 l697 ∧ Zn W b699 ∧ Nq ([b1]) (b9 : Int) ∧ Nq ([b1]) bqr1o2_1 ∧ Nq ([b1]) b693 ∧ Nq ([b1]) b699 ∧ Nq ([b9]) (b1 : Int) ∧ Nq ([b9]) bqr1o2_1 ∧ Nq ([b9]) b693 ∧ Nq ([b9]) b699 ∧ Nq (bl bqr1o2_1 ++ []) (b1 : Int) ∧ Nq (bl bqr1o2_1 ++ []) (b9 : Int) ∧ Nq (bl bqr1o2_1 ++ []) b693 ∧ Nq (bl bqr1o2_1 ++ []) b699 ∧ Nq (bl b693 ++ []) (b1 : Int) ∧ Nq (bl b693 ++ []) (b9 : Int) ∧ Nq (bl b693 ++ []) bqr1o2_1 ∧ Nq (bl b693 ++ []) b699 ∧ Nq (bl b699 ++ []) (b1 : Int) ∧ Nq (bl b699 ++ []) (b9 : Int) ∧ Nq (bl b699 ++ []) bqr1o2_1 ∧ Nq (bl b699 ++ []) b693 ∧ lpN (fun s => F_impl_NiceOk_l3 a0_0 a1_0 a1_1 a1_2 a1_3 xqr1o2_1 s.1 s.2.1 s.2.2) n (l691, l697, i700) = some o1221) n1224 ⟨(List.replicate ((a1_0.length : Int) : Int).toNat (0 : Int)), (List.replicate ((a0_0.length : Int) : Int).toNat (0 : Int)), 0, vqr1o4_1, bqr1o4_1, vqr1o6_1, bqr1o6_1, ha.sub ⟨rfl, rfl, rfl, rfl, rfl, rfl, rfl, rfl, rfl, trivial⟩, hE176, (show InI 0 from by decide), hB130, z131, hB132, z133, hqr1o2_1, qqr1o2_5, hqr1o4_1, qqr1o4_10, hqr1o6_1, qqr1o6_8, q134, qqr1o2_1, qqr1o4_2, qqr1o6_2, q135, qqr1o2_3, qqr1o4_4, qqr1o6_4, qqr1o2_2, qqr1o2_4, qqr1o4_6, qqr1o6_6, qqr1o4_3, qqr1o4_5, qqr1o4_7, qqr1o4_9, qqr1o6_3, qqr1o6_5, qqr1o6_7, qqr1o4_8, hn1225⟩ ?_ ?_
    · rintro m1229 a w680 ⟨l691, l697, i700, v692, b693, v698, b699, ha, hE722, hI701, hB681, z682, hB683, z684, h686, z687, h689, z690, h695, z696, q702, q703, q704, q705, q706, q707, q708, q709, q710, q711, q712, q713, q714, q715, q716, q717, q718, q719, q720, q721, hF⟩
      cases m1229 with
      | zero => exact (lpN_zero hF).elim
      | succ m1229 =>
        obtain ⟨z1228, hF, hN1227⟩ := lpN_succ hF
        have hF : F_impl_NiceOk_l3 a0_0 a1_0 a1_1 a1_2 a1_3 xqr1o2_1 l691 l697 i700 = some z1228 := hF; unfold F_impl_NiceOk_l3 at hF
        refine wp_seq ?_; refine wp_region_lit ?_; refine op_g ha rfl (g_lss rfl rfl) ?_; clear ha a; intro a ha; refine wpList_nil ?_; replace ha := ha.sub (σ' := [(2, (.pointer (some ⟨b1, 0, none⟩))), (3, (.pointer (some ⟨b9, 0, none⟩))), (5, (.int .i64 (a1_0.length : Int))), (6, (.int .i64 (a0_0.length : Int))), (9, vqr1o2_1), (10, v692), (11, v698), (79, (.int .i64 (a1_0.length : Int))), (80, (.int .i64 i700)), (81, (.bool (decide (i700 < (a1_0.length : Int)))))]) ⟨rfl, rfl, rfl, rfl, rfl, rfl, rfl, rfl, rfl, rfl, trivial⟩; refine e_then ?_; refine wp_seq ?_; refine c_cond (i700 < (a1_0.length : Int)) ha rfl (decide_eq_true_iff) (fun hp1230 => ?_) (fun hp1230 => ?_)
        · replace hF := if_t hp1230 hF
          refine wp_skip ?_; refine e_then ?_; refine wp_seq ?_; refine wp_block ?_; refine wp_seq ?_; refine wp_region_lit ?_; refine op_g ha rfl (g_move rfl) ?_; clear ha a; intro a ha; refine op_g ha rfl (g_assign rfl) ?_; clear ha a; intro a ha; refine wpList_nil ?_; replace ha := ha.sub (σ' := [(2, (.pointer (some ⟨b1, 0, none⟩))), (3, (.pointer (some ⟨b9, 0, none⟩))), (5, (.int .i64 (a1_0.length : Int))), (6, (.int .i64 (a0_0.length : Int))), (9, vqr1o2_1), (10, v692), (11, v698), (12, (.int .i64 i700)), (79, (.int .i64 (a1_0.length : Int))), (80, (.int .i64 i700))]) ⟨rfl, rfl, rfl, rfl, rfl, rfl, rfl, rfl, rfl, rfl, trivial⟩
          refine e_then ?_; refine wp_seq ?_; refine wp_seq ?_; refine wp_region_lit ?_; refine op_g ha rfl (g_loadA (cs := [va1_0, va1_1, va1_2, va1_3]) Try.isAgg33 Try.sizeOf33 rfl (by simp) hB683.all) ?_; clear ha a; intro a ha; (iterate 3 refine op_g ha rfl (g_move rfl) ?_; clear ha a; intro a ha)
          obtain ⟨fp1231, hro1232, hs1233⟩ := h686.roF
          obtain ⟨x1234, hc1235, hF⟩ := cal_some hF
          refine o_call ha rfl rfl Try.call23 (W_impl_goodNode (ha1_0.ext hE722) (ha1_1.ext hE722) (ha1_2.ext hE722) (ha1_3.ext hE722) hI701 hro1232 ha0_0.len hc1235) ?_; clear ha a; rintro v1236 w1237 ⟨rfl, hx1238⟩ a ha
          replace hB681 := hB681.ext hx1238
          replace hB683 := hB683.ext hx1238
          replace h686 := h686.ext hx1238
          replace h689 := h689.ext hx1238
          replace h695 := h695.ext hx1238
          have hE1239 := Ext.trans hE722 hx1238
          refine op_g ha rfl (g_not rfl) ?_; clear ha a; intro a ha; refine wpList_nil ?_; replace ha := ha.sub (σ' := [(2, (.pointer (some ⟨b1, 0, none⟩))), (3, (.pointer (some ⟨b9, 0, none⟩))), (5, (.int .i64 (a1_0.length : Int))), (6, (.int .i64 (a0_0.length : Int))), (9, vqr1o2_1), (10, v692), (11, v698), (12, (.int .i64 i700)), (79, (.int .i64 (a1_0.length : Int))), (80, (.int .i64 i700)), (88, (.bool (!x1234)))]) ⟨rfl, rfl, rfl, rfl, rfl, rfl, rfl, rfl, rfl, rfl, rfl, trivial⟩; refine e_then ?_; refine c_cond (¬ (x1234 = true)) ha rfl (n_iff (Iff.rfl)) (fun hp1240 => ?_) (fun hp1240 => ?_)
          · replace hF := if_t hp1240 hF
            refine wp_seq ?_; refine wp_region_lit ?_; refine op_g ha rfl (g_assign rfl) ?_; clear ha a; intro a ha; refine wpList_nil ?_; replace ha := ha.sub (σ' := [(4, (.bool false))]) ⟨rfl, trivial⟩; refine e_then ?_; refine wp_ret ?_; refine e_then_ret ?_; refine e_blk_ret ?_; refine e_then_ret ?_; refine e_lq_ret ?_; refine e_then_ret ?_; obtain rfl := Option.some.inj hF
            have e1241 := LK_inr hN1227; subst e1241
            have e1242 := BK_inr hK1223; subst e1242
            exact f_ret1 ha rfl rfl ⟨rfl, hE1239⟩
          replace hF := if_f hp1240 hF; refine wp_skip ?_; refine e_then ?_; refine wp_seq ?_; refine wp_seq ?_; refine wp_region_lit ?_; refine op_g ha rfl (g_field0 st33_3 rfl) ?_; clear ha a; intro a ha; refine op_g ha rfl (g_load Try.isAgg22 rfl (hB683.cell rfl)) ?_; clear ha a; intro a ha; refine op_g ha rfl (g_move rfl) ?_; clear ha a; intro a ha; obtain ⟨x1243, g1244, gx1245, hF⟩ := idx_some hF
          obtain ⟨p1246, cs1247, f1248, hf1249, hpb1250, hat1251, hr1252, hi1253⟩ := ha1_3.at g1244 gx1245
          obtain ⟨v1254, rfl, h1255⟩ := hr1252
          have h1255 : Ro Rp.int W f1248 v1254 x1243 := h1255
          refine op_g ha rfl (hi1253.gives sl22 rfl rfl) ?_; clear ha a; intro a ha; refine op_g ha rfl (g_load0 hE1239 Try.isAgg25 rfl hat1251.one) ?_; clear ha a; intro a ha; refine op_g ha rfl (g_lenR sl25.und h1255 rfl) ?_; clear ha a; intro a ha; refine op_g ha rfl (g_move rfl) ?_; clear ha a; intro a ha; refine wpList_nil ?_; replace ha := ha.sub (σ' := [(2, (.pointer (some ⟨b1, 0, none⟩))), (3, (.pointer (some ⟨b9, 0, none⟩))), (5, (.int .i64 (a1_0.length : Int))), (6, (.int .i64 (a0_0.length : Int))), (9, vqr1o2_1), (10, v692), (11, v698), (12, (.int .i64 i700)), (79, (.int .i64 (a1_0.length : Int))), (80, (.int .i64 i700)), (93, v1254), (94, (.int .i64 (x1243.length : Int))), (95, (.int .i64 0))]) ⟨rfl, rfl, rfl, rfl, rfl, rfl, rfl, rfl, rfl, rfl, rfl, rfl, rfl, trivial⟩
          refine e_then ?_; obtain ⟨o1541, ho1542, hK1543⟩ := bnd_some hF
          obtain ⟨n1544, hn1545⟩ := lp_some ho1542; clear ho1542
          refine c_loop (fun a w => ∃ (l1515 : (List Int)) (v1516 : Value) (b1517 : Int), Fr 159 [(2, (.pointer (some ⟨b1, 0, none⟩))), (3, (.pointer (some ⟨b9, 0, none⟩))), (5, (.int .i64 (a1_0.length : Int))), (6, (.int .i64 (a0_0.length : Int))), (9, vqr1o2_1), (10, v1516), (11, v698), (12, (.int .i64 i700)), (79, (.int .i64 (a1_0.length : Int))), (80, (.int .i64 i700))] a ∧ Chg [] W w ∧ Bx w b1 [va0_0] 31 ∧ Zn W (b1 : Int) ∧ Bx w b9 [va1_0, va1_1, va1_2, va1_3] 33 ∧ Zn W (b9 : Int) ∧ Ow Rp.u32 51 true w [] bqr1o2_1 vqr1o2_1 xqr1o2_1 ∧ Zn W bqr1o2_1 ∧ Ow Rp.int 3 true w [] b1517 v1516 l1515 ∧ Zn W b1517 ∧ Ow Rp.int 3 true w [] b699 v698 l697 ∧ Zn W b699 ∧ Nq ([b1]) (b9 : Int) ∧ Nq ([b1]) bqr1o2_1 ∧ Nq ([b1]) b1517 ∧ Nq ([b1]) b699 ∧ Nq ([b9]) (b1 : Int) ∧ Nq ([b9]) bqr1o2_1 ∧ Nq ([b9]) b1517 ∧ Nq ([b9]) b699 ∧ Nq (bl bqr1o2_1 ++ []) (b1 : Int) ∧ Nq (bl bqr1o2_1 ++ []) (b9 : Int) ∧ Nq (bl bqr1o2_1 ++ []) b1517 ∧ Nq (bl bqr1o2_1 ++ []) b699 ∧ Nq (bl b1517 ++ []) (b1 : Int) ∧ Nq (bl b1517 ++ []) (b9 : Int) ∧ Nq (bl b1517 ++ []) bqr1o2_1 ∧ Nq (bl b1517 ++ []) b699 ∧ Nq (bl b699 ++ []) (b1 : Int) ∧ Nq (bl b699 ++ []) (b9 : Int) ∧ Nq (bl b699 ++ []) bqr1o2_1 ∧ Nq (bl b699 ++ []) b1517 ∧ o1541 = .inl l1515) (fun n a w => ∃ (l1389 : (List Int)) (i1395 : Int) (v1390 : Value) (b1391 : Int), Fr 159 [(2, (.pointer (some ⟨b1, 0, none⟩))), (3, (.pointer (some ⟨b9, 0, none⟩))), (5, (.int .i64 (a1_0.length : Int))), (6, (.int .i64 (a0_0.length : Int))), (9, vqr1o2_1), (10, v1390), (11, v698), (12, (.int .i64 i700)), (79, (.int .i64 (a1_0.length : Int))), (80, (.int .i64 i700)), (93, v1254), (94, (.int .i64 (x1243.length : Int))), (95, (.int .i64 i1395))] a ∧ Chg [] W w ∧ InI i1395 ∧ Bx w b1 [va0_0] 31 ∧ Zn W (b1 : Int) ∧ Bx w b9 [va1_0, va1_1, va1_2, va1_3] 33 ∧ Zn W (b9 : Int) ∧ Ow Rp.u32 51 true w [] bqr1o2_1 vqr1o2_1 xqr1o2_1 ∧ Zn W bqr1o2_1 ∧ Ow Rp.int 3 true w [] b1391 v1390 l1389 ∧ Zn W b1391 ∧ Ow Rp.int 3 true w [] b699 v698 l697 ∧ Zn W b699 ∧ Nq ([b1]) (b9 : Int) ∧ Nq ([b1]) bqr1o2_1 ∧ Nq ([b1]) b1391 ∧ Nq ([b1]) b699 ∧ Nq ([b9]) (b1 : Int) ∧ Nq ([b9]) bqr1o2_1 ∧ Nq ([b9]) b1391 ∧ Nq ([b9]) b699 ∧ Nq (bl bqr1o2_1 ++ []) (b1 : Int) ∧ Nq (bl bqr1o2_1 ++ []) (b9 : Int) ∧ Nq (bl bqr1o2_1 ++ []) b1391 ∧ Nq (bl bqr1o2_1 ++ []) b699 ∧ Nq (bl b1391 ++ []) (b1 : Int) ∧ Nq (bl b1391 ++ []) (b9 : Int) ∧ Nq (bl b1391 ++ []) bqr1o2_1 ∧ Nq (bl b1391 ++ []) b699 ∧ Nq (bl b699 ++ []) (b1 : Int) ∧ Nq (bl b699 ++ []) (b9 : Int) ∧ Nq (bl b699 ++ []) bqr1o2_1 ∧ Nq (bl b699 ++ []) b1391 ∧ lpN (fun s => F_impl_NiceOk_l4 x1243 s.1 s.2) n (l1389, i1395) = some o1541) n1544 ⟨l691, 0, v692, b693, ha.sub ⟨rfl, rfl, rfl, rfl, rfl, rfl, rfl, rfl, rfl, rfl, rfl, rfl, rfl, trivial⟩, hE1239, (show InI 0 from by decide), hB681, z682, hB683, z684, h686, z687, h689, z690, h695, z696, q702, q703, q704, q705, q706, q707, q708, q709, q710, q711, q712, q713, q714, q715, q716, q717, q718, q719, q720, q721, hn1545⟩ ?_ ?_
          · rintro m1549 a w1378 ⟨l1389, i1395, v1390, b1391, ha, hE1417, hI1396, hB1379, z1380, hB1381, z1382, h1384, z1385, h1387, z1388, h1393, z1394, q1397, q1398, q1399, q1400, q1401, q1402, q1403, q1404, q1405, q1406, q1407, q1408, q1409, q1410, q1411, q1412, q1413, q1414, q1415, q1416, hF⟩
            cases m1549 with
            | zero => exact (lpN_zero hF).elim
            | succ m1549 =>
              obtain ⟨z1548, hF, hN1547⟩ := lpN_succ hF
              have hF : F_impl_NiceOk_l4 x1243 l1389 i1395 = some z1548 := hF; unfold F_impl_NiceOk_l4 at hF
              refine wp_seq ?_; refine wp_region_lit ?_; refine op_g ha rfl (g_lss rfl rfl) ?_; clear ha a; intro a ha; refine wpList_nil ?_; replace ha := ha.sub (σ' := [(2, (.pointer (some ⟨b1, 0, none⟩))), (3, (.pointer (some ⟨b9, 0, none⟩))), (5, (.int .i64 (a1_0.length : Int))), (6, (.int .i64 (a0_0.length : Int))), (9, vqr1o2_1), (10, v1390), (11, v698), (12, (.int .i64 i700)), (79, (.int .i64 (a1_0.length : Int))), (80, (.int .i64 i700)), (93, v1254), (94, (.int .i64 (x1243.length : Int))), (95, (.int .i64 i1395)), (96, (.bool (decide (i1395 < (x1243.length : Int)))))]) ⟨rfl, rfl, rfl, rfl, rfl, rfl, rfl, rfl, rfl, rfl, rfl, rfl, rfl, rfl, trivial⟩
              refine e_then ?_; refine wp_seq ?_; refine c_cond (i1395 < (x1243.length : Int)) ha rfl (decide_eq_true_iff) (fun hp1550 => ?_) (fun hp1550 => ?_)
              · replace hF := if_t hp1550 hF
                refine wp_skip ?_; refine e_then ?_; refine wp_seq ?_; refine wp_block ?_; refine wp_seq ?_; refine wp_region_lit ?_; obtain ⟨x1551, g1552, gx1553, hF⟩ := idx_some hF
                obtain ⟨p1554, cs1555, f1556, hf1557, hpb1558, hat1559, hr1560, hi1561⟩ := h1255.at g1552 gx1553
                obtain ⟨rfl, hI1562, rfl⟩ := hr1560
                refine op_g ha rfl (hi1561.gives sl25 rfl rfl) ?_; clear ha a; intro a ha; refine op_g ha rfl (g_load0 hE1417 Try.isAgg2 rfl hat1559.one) ?_; clear ha a; intro a ha; refine op_g ha rfl (g_assign rfl) ?_; clear ha a; intro a ha; refine wpList_nil ?_; replace ha := ha.sub (σ' := [(2, (.pointer (some ⟨b1, 0, none⟩))), (3, (.pointer (some ⟨b9, 0, none⟩))), (5, (.int .i64 (a1_0.length : Int))), (6, (.int .i64 (a0_0.length : Int))), (9, vqr1o2_1), (10, v1390), (11, v698), (12, (.int .i64 i700)), (14, (.int .i64 x1551)), (79, (.int .i64 (a1_0.length : Int))), (80, (.int .i64 i700)), (93, v1254), (94, (.int .i64 (x1243.length : Int))), (95, (.int .i64 i1395))]) ⟨rfl, rfl, rfl, rfl, rfl, rfl, rfl, rfl, rfl, rfl, rfl, rfl, rfl, rfl, trivial⟩
                refine e_then ?_; refine wp_region_lit ?_; (iterate 2 refine op_g ha rfl (g_move rfl) ?_; clear ha a; intro a ha); obtain ⟨x1563, g1564, gx1565, hF⟩ := idx_some hF
                obtain ⟨p1566, cs1567, f1568, hf1569, hpb1570, hat1571, hr1572, hi1573⟩ := h1387.at g1564 gx1565
                obtain ⟨rfl, hI1574, rfl⟩ := hr1572
                refine op_g ha rfl (hi1573.gives sl48 rfl rfl) ?_; clear ha a; intro a ha; refine op_g ha rfl (g_load Try.isAgg3 rfl hat1571.one) ?_; clear ha a; intro a ha; obtain ⟨hI1575, hF⟩ := ck_some hF; refine op_g ha rfl (g_add rfl rfl hI1575) ?_; clear ha a; intro a ha; obtain ⟨x1577, g1578, gx1579, hF⟩ := idx_some hF
                obtain ⟨p1580, cs1581, f1582, hf1583, hpb1584, hat1585, hr1586, hi1587⟩ := h1387.at g1578 gx1579
                obtain ⟨rfl, hI1588, rfl⟩ := hr1586
                refine op_g ha rfl (hi1587.gives sl48 rfl rfl) ?_; clear ha a; intro a ha
                refine o_storeE (f := []) (q := x1563 + 1) ha Try.sizeOf3 rfl rfl rfl h1387 hi1587 ⟨rfl, hI1575, rfl⟩ (Nq.nil _) ?_; intro w1589 fs1590 h1591 hc1592 hs1593
                obtain rfl := Subst.nil hs1593
                replace hB1379 := hB1379.nq hc1592 q1399
                replace hB1381 := hB1381.nq hc1592 q1403
                replace h1384 := h1384.nq hc1592 q1407
                replace h1393 := h1393.nq hc1592 q1416
                have hE1594 := Ext.then hE1417 hc1592 (Zn.bl z1388)
                refine wpList_nil ?_; replace ha := ha.sub (σ' := [(2, (.pointer (some ⟨b1, 0, none⟩))), (3, (.pointer (some ⟨b9, 0, none⟩))), (5, (.int .i64 (a1_0.length : Int))), (6, (.int .i64 (a0_0.length : Int))), (9, vqr1o2_1), (10, v1390), (11, v698), (12, (.int .i64 i700)), (79, (.int .i64 (a1_0.length : Int))), (80, (.int .i64 i700)), (93, v1254), (94, (.int .i64 (x1243.length : Int))), (95, (.int .i64 i1395))]) ⟨rfl, rfl, rfl, rfl, rfl, rfl, rfl, rfl, rfl, rfl, rfl, rfl, rfl, trivial⟩; refine e_blk ?_; refine e_then ?_; refine wp_region_lit ?_; obtain ⟨hI1595, hF⟩ := ck_some hF; refine op_g ha rfl (g_add rfl rfl hI1595) ?_; clear ha a; intro a ha
                refine op_g ha rfl (g_move rfl) ?_; clear ha a; intro a ha; refine wpList_nil ?_; replace ha := ha.sub (σ' := [(2, (.pointer (some ⟨b1, 0, none⟩))), (3, (.pointer (some ⟨b9, 0, none⟩))), (5, (.int .i64 (a1_0.length : Int))), (6, (.int .i64 (a0_0.length : Int))), (9, vqr1o2_1), (10, v1390), (11, v698), (12, (.int .i64 i700)), (79, (.int .i64 (a1_0.length : Int))), (80, (.int .i64 i700)), (93, v1254), (94, (.int .i64 (x1243.length : Int))), (95, (.int .i64 (i1395 + 1)))]) ⟨rfl, rfl, rfl, rfl, rfl, rfl, rfl, rfl, rfl, rfl, rfl, rfl, rfl, trivial⟩; refine e_lq ?_; obtain rfl := Option.some.inj hF
                exact ⟨_, Nat.lt_succ_self _, (l1389.set ((x1551 : Int).toNat) (x1563 + 1)), i1395 + 1, v1390, b1391, ha.sub ⟨rfl, rfl, rfl, rfl, rfl, rfl, rfl, rfl, rfl, rfl, rfl, rfl, rfl, trivial⟩, hE1594, hI1595, hB1379, z1380, hB1381, z1382, h1384, z1385, h1591, z1388, h1393, z1394, q1397, q1398, q1399, q1400, q1401, q1402, q1403, q1404, q1405, q1406, q1407, q1408, q1409, q1410, q1411, q1412, q1413, q1414, q1415, q1416, hN1547⟩
              replace hF := if_f hp1550 hF; refine wp_exit ?_; refine e_then_exit ?_; refine e_lq_eq ?_; obtain rfl := Option.some.inj hF
              exact ⟨l1389, v1390, b1391, ha.sub ⟨rfl, rfl, rfl, rfl, rfl, rfl, rfl, rfl, rfl, rfl, trivial⟩, hE1417, hB1379, z1380, hB1381, z1382, h1384, z1385, h1387, z1388, h1393, z1394, q1397, q1398, q1399, q1400, q1401, q1402, q1403, q1404, q1405, q1406, q1407, q1408, q1409, q1410, q1411, q1412, q1413, q1414, q1415, q1416, (LK_inr hN1547).symm⟩
          rintro a w1504 ⟨l1515, v1516, b1517, ha, hE1546, hB1505, z1506, hB1507, z1508, h1510, z1511, h1513, z1514, h1519, z1520, q1521, q1522, q1523, q1524, q1525, q1526, q1527, q1528, q1529, q1530, q1531, q1532, q1533, q1534, q1535, q1536, q1537, q1538, q1539, q1540, rfl⟩
          have hF : F_impl_NiceOk_k5 a1_0 a1_1 l697 i700 l1515 = some _ := hK1543; clear hK1543; unfold F_impl_NiceOk_k5 at hF
          refine e_then ?_; refine wp_seq ?_; refine wp_region_lit ?_; refine op_g ha rfl (g_field0 st33_0 rfl) ?_; clear ha a; intro a ha; refine op_g ha rfl (g_load Try.isAgg25 rfl (hB1507.cell rfl)) ?_; clear ha a; intro a ha; refine op_g ha rfl (g_move rfl) ?_; clear ha a; intro a ha; obtain ⟨x1597, g1598, gx1599, hF⟩ := idx_some hF
          obtain ⟨p1600, cs1601, f1602, hf1603, hpb1604, hat1605, hr1606, hi1607⟩ := ha1_0.at g1598 gx1599
          obtain ⟨rfl, hI1608, rfl⟩ := hr1606
          refine op_g ha rfl (hi1607.gives sl25 rfl rfl) ?_; clear ha a; intro a ha; refine op_g ha rfl (g_load0 hE1546 Try.isAgg2 rfl hat1605.one) ?_; clear ha a; intro a ha; refine op_g ha rfl (g_eql rfl rfl) ?_; clear ha a; intro a ha; refine wpList_nil ?_; replace ha := ha.sub (σ' := [(2, (.pointer (some ⟨b1, 0, none⟩))), (3, (.pointer (some ⟨b9, 0, none⟩))), (5, (.int .i64 (a1_0.length : Int))), (6, (.int .i64 (a0_0.length : Int))), (9, vqr1o2_1), (10, v1516), (11, v698), (12, (.int .i64 i700)), (79, (.int .i64 (a1_0.length : Int))), (80, (.int .i64 i700)), (111, (.bool (decide (x1597 = 3))))]) ⟨rfl, rfl, rfl, rfl, rfl, rfl, rfl, rfl, rfl, rfl, rfl, trivial⟩
          refine e_then ?_; refine c_cond (x1597 = 3) ha rfl (decide_eq_true_iff) (fun hp1609 => ?_) (fun hp1609 => ?_)
          · replace hF := if_t hp1609 hF
            refine wp_region_lit ?_; refine op_g ha rfl (g_move rfl) ?_; clear ha a; intro a ha; refine op_g ha rfl (g_field0 st33_1 rfl) ?_; clear ha a; intro a ha; refine op_g ha rfl (g_load Try.isAgg25 rfl (hB1507.cell rfl)) ?_; clear ha a; intro a ha; refine op_g ha rfl (g_move rfl) ?_; clear ha a; intro a ha; obtain ⟨x1610, g1611, gx1612, hF⟩ := idx_some hF
            obtain ⟨p1613, cs1614, f1615, hf1616, hpb1617, hat1618, hr1619, hi1620⟩ := ha1_1.at g1611 gx1612
            obtain ⟨rfl, hI1621, rfl⟩ := hr1619
            refine op_g ha rfl (hi1620.gives sl25 rfl rfl) ?_; clear ha a; intro a ha; refine op_g ha rfl (g_load0 hE1546 Try.isAgg2 rfl hat1618.one) ?_; clear ha a; intro a ha; obtain ⟨x1622, g1623, gx1624, hF⟩ := idx_some hF
            obtain ⟨p1625, cs1626, f1627, hf1628, hpb1629, hat1630, hr1631, hi1632⟩ := h1519.at g1623 gx1624
            obtain ⟨rfl, hI1633, rfl⟩ := hr1631
            refine op_g ha rfl (hi1632.gives sl48 rfl rfl) ?_; clear ha a; intro a ha; refine op_g ha rfl (g_load Try.isAgg3 rfl hat1630.one) ?_; clear ha a; intro a ha; obtain ⟨hI1634, hF⟩ := ck_some hF; refine op_g ha rfl (g_add rfl rfl hI1634) ?_; clear ha a; intro a ha; obtain ⟨x1636, g1637, gx1638, hF⟩ := idx_some hF
            obtain ⟨p1639, cs1640, f1641, hf1642, hpb1643, hat1644, hr1645, hi1646⟩ := h1519.at g1637 gx1638
            obtain ⟨rfl, hI1647, rfl⟩ := hr1645
            refine op_g ha rfl (hi1646.gives sl48 rfl rfl) ?_; clear ha a; intro a ha
            refine o_storeE (f := []) (q := x1622 + 1) ha Try.sizeOf3 rfl rfl rfl h1519 hi1646 ⟨rfl, hI1634, rfl⟩ (Nq.nil _) ?_; intro w1648 fs1649 h1650 hc1651 hs1652
            obtain rfl := Subst.nil hs1652
            replace hB1505 := hB1505.nq hc1651 q1524
            replace hB1507 := hB1507.nq hc1651 q1528
            replace h1510 := h1510.nq hc1651 q1532
            replace h1513 := h1513.nq hc1651 q1536
            have hE1653 := Ext.then hE1546 hc1651 (Zn.bl z1520)
            refine wpList_nil ?_; replace ha := ha.sub (σ' := [(2, (.pointer (some ⟨b1, 0, none⟩))), (3, (.pointer (some ⟨b9, 0, none⟩))), (5, (.int .i64 (a1_0.length : Int))), (6, (.int .i64 (a0_0.length : Int))), (9, vqr1o2_1), (10, v1516), (11, v698), (79, (.int .i64 (a1_0.length : Int))), (80, (.int .i64 i700))]) ⟨rfl, rfl, rfl, rfl, rfl, rfl, rfl, rfl, rfl, trivial⟩; refine e_blk ?_; refine e_then ?_; refine wp_region_lit ?_; obtain ⟨hI1654, hF⟩ := ck_some hF; refine op_g ha rfl (g_add rfl rfl hI1654) ?_; clear ha a; intro a ha; refine op_g ha rfl (g_move rfl) ?_; clear ha a; intro a ha; refine wpList_nil ?_
            replace ha := ha.sub (σ' := [(2, (.pointer (some ⟨b1, 0, none⟩))), (3, (.pointer (some ⟨b9, 0, none⟩))), (5, (.int .i64 (a1_0.length : Int))), (6, (.int .i64 (a0_0.length : Int))), (9, vqr1o2_1), (10, v1516), (11, v698), (79, (.int .i64 (a1_0.length : Int))), (80, (.int .i64 (i700 + 1)))]) ⟨rfl, rfl, rfl, rfl, rfl, rfl, rfl, rfl, rfl, trivial⟩; refine e_lq ?_; obtain rfl := Option.some.inj hF
            exact ⟨_, Nat.lt_succ_self _, l1515, (l697.set ((x1610 : Int).toNat) (x1622 + 1)), i700 + 1, v1516, b1517, v698, b699, ha.sub ⟨rfl, rfl, rfl, rfl, rfl, rfl, rfl, rfl, rfl, trivial⟩, hE1653, hI1654, hB1505, z1506, hB1507, z1508, h1510, z1511, h1513, z1514, h1650, z1520, q1521, q1522, q1523, q1524, q1525, q1526, q1527, q1528, q1529, q1530, q1531, q1532, q1533, q1534, q1535, q1536, q1537, q1538, q1539, q1540, hN1227⟩
          replace hF := if_f hp1609 hF; refine wp_skip ?_; refine e_blk ?_; refine e_then ?_; refine wp_region_lit ?_; obtain ⟨hI1656, hF⟩ := ck_some hF; refine op_g ha rfl (g_add rfl rfl hI1656) ?_; clear ha a; intro a ha; refine op_g ha rfl (g_move rfl) ?_; clear ha a; intro a ha; refine wpList_nil ?_; replace ha := ha.sub (σ' := [(2, (.pointer (some ⟨b1, 0, none⟩))), (3, (.pointer (some ⟨b9, 0, none⟩))), (5, (.int .i64 (a1_0.length : Int))), (6, (.int .i64 (a0_0.length : Int))), (9, vqr1o2_1), (10, v1516), (11, v698), (79, (.int .i64 (a1_0.length : Int))), (80, (.int .i64 (i700 + 1)))]) ⟨rfl, rfl, rfl, rfl, rfl, rfl, rfl, rfl, rfl, trivial⟩
          refine e_lq ?_; obtain rfl := Option.some.inj hF
          exact ⟨_, Nat.lt_succ_self _, l1515, l697, i700 + 1, v1516, b1517, v698, b699, ha.sub ⟨rfl, rfl, rfl, rfl, rfl, rfl, rfl, rfl, rfl, trivial⟩, hE1546, hI1656, hB1505, z1506, hB1507, z1508, h1510, z1511, h1513, z1514, h1519, z1520, q1521, q1522, q1523, q1524, q1525, q1526, q1527, q1528, q1529, q1530, q1531, q1532, q1533, q1534, q1535, q1536, q1537, q1538, q1539, q1540, hN1227⟩
        replace hF := if_f hp1230 hF; refine wp_exit ?_; refine e_then_exit ?_; refine e_lq_eq ?_; obtain rfl := Option.some.inj hF
        exact ⟨l691, l697, v692, b693, v698, b699, ha.sub ⟨rfl, rfl, rfl, rfl, rfl, trivial⟩, hE722, hB681, z682, h686, z687, h689, z690, h695, z696, q703, q704, q705, q710, q712, q713, q714, q716, q717, q718, q720, q721, (LK_inr hN1227).symm⟩
    rintro a w1191 ⟨l1200, l1206, v1201, b1202, v1207, b1208, ha, hE1226, hB1192, z1193, h1195, z1196, h1198, z1199, h1204, z1205, q1209, q1210, q1211, q1212, q1213, q1214, q1215, q1216, q1217, q1218, q1219, q1220, rfl⟩
    have hF : F_impl_NiceOk_k6 a0_0 a1_0 xqr1o2_1 l1200 l1206 = some _ := hK1223; clear hK1223; unfold F_impl_NiceOk_k6 at hF
    refine e_then ?_; refine wp_seq ?_; refine wp_seq ?_; refine wp_region_lit ?_; refine op_g ha rfl (g_move rfl) ?_; clear ha a; intro a ha; refine op_g ha rfl (g_lenO sl48.und h1198 rfl) ?_; clear ha a; intro a ha; refine op_g ha rfl (g_move rfl) ?_; clear ha a; intro a ha; refine wpList_nil ?_; replace ha := ha.sub (σ' := [(2, (.pointer (some ⟨b1, 0, none⟩))), (5, (.int .i64 (a1_0.length : Int))), (9, vqr1o2_1), (11, v1207), (123, v1201), (124, (.int .i64 (l1200.length : Int))), (125, (.int .i64 0))]) ⟨rfl, rfl, rfl, rfl, rfl, rfl, rfl, trivial⟩; refine e_then ?_; obtain ⟨o1815, ho1816, hK1817⟩ := bnd_some hF
    obtain ⟨n1818, hn1819⟩ := lp_some ho1816; clear ho1816
    refine c_loop (fun a w => Fr 159 [(2, (.pointer (some ⟨b1, 0, none⟩))), (5, (.int .i64 (a1_0.length : Int))), (9, vqr1o2_1), (11, v1207)] a ∧ Chg [] W w ∧ Bx w b1 [va0_0] 31 ∧ Zn W (b1 : Int) ∧ Ow Rp.u32 51 true w [] bqr1o2_1 vqr1o2_1 xqr1o2_1 ∧ Zn W bqr1o2_1 ∧ Ow Rp.int 3 true w [] b1208 v1207 l1206 ∧ Zn W b1208 ∧ Nq ([b1]) bqr1o2_1 ∧ Nq ([b1]) b1208 ∧ Nq (bl bqr1o2_1 ++ []) (b1 : Int) ∧ Nq (bl bqr1o2_1 ++ []) b1208 ∧ Nq (bl b1208 ++ []) (b1 : Int) ∧ Nq (bl b1208 ++ []) bqr1o2_1 ∧ o1815 = .inl ()) (fun n a w => ∃ (i1740 : Int), Fr 159 [(2, (.pointer (some ⟨b1, 0, none⟩))), (5, (.int .i64 (a1_0.length : Int))), (9, vqr1o2_1), (11, v1207), (123, v1201), (124, (.int .i64 (l1200.length : Int))), (125, (.int .i64 i1740))] a ∧ Chg [] W w ∧ InI i1740 ∧ Bx w b1 [va0_0] 31 ∧ Zn W (b1 : Int) ∧ Ow Rp.u32 51 true w [] bqr1o2_1 vqr1o2_1 xqr1o2_1 ∧ Zn W bqr1o2_1 ∧ Ow Rp.int 3 true w [] b1208 v1207 l1206 ∧ Zn W b1208 ∧ Ow Rp.int 3 true w [] b1202 v1201 l1200 ∧ Zn W b1202 ∧ Nq ([b1]) bqr1o2_1 ∧ Nq ([b1]) b1208 ∧ Nq ([b1]) b1202 ∧ Nq (bl bqr1o2_1 ++ []) (b1 : Int) ∧ Nq (bl bqr1o2_1 ++ []) b1208 ∧ Nq (bl bqr1o2_1 ++ []) b1202 ∧ Nq (bl b1208 ++ []) (b1 : Int) ∧ Nq (bl b1208 ++ []) bqr1o2_1 ∧ Nq (bl b1208 ++ []) b1202 ∧ Nq (bl b1202 ++ []) (b1 : Int) ∧ Nq (bl b1202 ++ []) bqr1o2_1 ∧ Nq (bl b1202 ++ []) b1208 ∧ lpN (fun s => F_impl_NiceOk_l7 a1_0 l1200 s) n i1740 = some o1815) n1818 ⟨0, ha.sub ⟨rfl, rfl, rfl, rfl, rfl, rfl, rfl, trivial⟩, hE1226, (show InI 0 from by decide), hB1192, z1193, h1195, z1196, h1204, z1205, h1198, z1199, q1209, q1211, q1210, q1212, q1214, q1213, q1218, q1219, q1220, q1215, q1216, q1217, hn1819⟩ ?_ ?_
    · rintro m1823 a w1728 ⟨i1740, ha, hE1754, hI1741, hB1729, z1730, h1732, z1733, h1735, z1736, h1738, z1739, q1742, q1743, q1744, q1745, q1746, q1747, q1748, q1749, q1750, q1751, q1752, q1753, hF⟩
      cases m1823 with
      | zero => exact (lpN_zero hF).elim
      | succ m1823 =>
        obtain ⟨z1822, hF, hN1821⟩ := lpN_succ hF
        have hF : F_impl_NiceOk_l7 a1_0 l1200 i1740 = some z1822 := hF; unfold F_impl_NiceOk_l7 at hF
        refine wp_seq ?_; refine wp_region_lit ?_; refine op_g ha rfl (g_lss rfl rfl) ?_; clear ha a; intro a ha; refine wpList_nil ?_; replace ha := ha.sub (σ' := [(2, (.pointer (some ⟨b1, 0, none⟩))), (5, (.int .i64 (a1_0.length : Int))), (9, vqr1o2_1), (11, v1207), (123, v1201), (124, (.int .i64 (l1200.length : Int))), (125, (.int .i64 i1740)), (126, (.bool (decide (i1740 < (l1200.length : Int)))))]) ⟨rfl, rfl, rfl, rfl, rfl, rfl, rfl, rfl, trivial⟩; refine e_then ?_; refine wp_seq ?_; refine c_cond (i1740 < (l1200.length : Int)) ha rfl (decide_eq_true_iff) (fun hp1824 => ?_) (fun hp1824 => ?_)
        · replace hF := if_t hp1824 hF
          refine wp_skip ?_; refine e_then ?_; refine wp_seq ?_; refine wp_block ?_; refine wp_seq ?_; refine wp_region_lit ?_; refine op_g ha rfl (g_move rfl) ?_; clear ha a; intro a ha; obtain ⟨x1825, g1826, gx1827, hF⟩ := idx_some hF
          obtain ⟨p1828, cs1829, f1830, hf1831, hpb1832, hat1833, hr1834, hi1835⟩ := h1738.at g1826 gx1827
          obtain ⟨rfl, hI1836, rfl⟩ := hr1834
          refine op_g ha rfl (hi1835.gives sl48 rfl rfl) ?_; clear ha a; intro a ha; refine op_g ha rfl (g_load Try.isAgg3 rfl hat1833.one) ?_; clear ha a; intro a ha; (iterate 2 refine op_g ha rfl (g_assign rfl) ?_; clear ha a; intro a ha); refine wpList_nil ?_; replace ha := ha.sub (σ' := [(2, (.pointer (some ⟨b1, 0, none⟩))), (5, (.int .i64 (a1_0.length : Int))), (9, vqr1o2_1), (11, v1207), (15, (.int .i64 i1740)), (16, (.int .i64 x1825)), (123, v1201), (124, (.int .i64 (l1200.length : Int))), (125, (.int .i64 i1740))]) ⟨rfl, rfl, rfl, rfl, rfl, rfl, rfl, rfl, rfl, trivial⟩; refine e_then ?_
          refine wp_seq ?_; refine wp_region_lit ?_; refine op_g ha rfl (g_move rfl) ?_; clear ha a; intro a ha; refine op_g ha rfl (g_eql rfl rfl) ?_; clear ha a; intro a ha; (iterate 2 refine op_g ha rfl (g_move rfl) ?_; clear ha a; intro a ha); obtain ⟨hI1837, hF⟩ := ck_some hF; refine op_g ha rfl (g_sub rfl rfl hI1837) ?_; clear ha a; intro a ha; refine op_g ha rfl (g_lss rfl rfl) ?_; clear ha a; intro a ha; refine op_g ha rfl (gB_neq un4 rfl rfl) ?_; clear ha a; intro a ha; refine op_g ha rfl (g_move rfl) ?_; clear ha a; intro a ha
          by_cases hp1839 : ((decide (x1825 = 1)) != (decide (i1740 < ((a1_0.length : Int) - 1)))) = true
          · replace hF := if_t hp1839 hF
            rw [show ((decide (x1825 = 1)) != (decide (i1740 < ((a1_0.length : Int) - 1)))) = true from (Iff.rfl).2 hp1839] at ha
            (iterate 2 refine op_unwant ha rfl (yields ha rfl rfl) rfl ?_; clear ha a; intro a ha); refine op_g ha rfl (g_pick rfl rfl) ?_; clear ha a; intro a ha; refine wpList_nil ?_; replace ha := ha.sub (σ' := [(2, (.pointer (some ⟨b1, 0, none⟩))), (5, (.int .i64 (a1_0.length : Int))), (9, vqr1o2_1), (11, v1207), (123, v1201), (124, (.int .i64 (l1200.length : Int))), (125, (.int .i64 i1740)), (140, (.bool true))]) ⟨rfl, rfl, rfl, rfl, rfl, rfl, rfl, rfl, trivial⟩; refine e_then ?_; refine c_true ha rfl ?_; refine wp_seq ?_; refine wp_region_lit ?_; refine op_g ha rfl (g_assign rfl) ?_; clear ha a; intro a ha
            refine wpList_nil ?_; replace ha := ha.sub (σ' := [(4, (.bool false))]) ⟨rfl, trivial⟩; refine e_then ?_; refine wp_ret ?_; refine e_blk_ret ?_; refine e_then_ret ?_; refine e_lq_ret ?_; refine e_then_ret ?_; obtain rfl := Option.some.inj hF
            have e1840 := LK_inr hN1821; subst e1840
            have e1841 := BK_inr hK1817; subst e1841
            exact f_ret1 ha rfl rfl ⟨rfl, hE1754⟩
          replace hF := if_f hp1839 hF
          rw [show ((decide (x1825 = 1)) != (decide (i1740 < ((a1_0.length : Int) - 1)))) = false from b_false (Iff.rfl) hp1839] at ha
          refine op_want (yields ha rfl rfl) ?_; refine op_g ha rfl (g_move rfl) ?_; clear ha a; intro a ha; refine op_want (yields ha rfl rfl) ?_; refine op_g ha rfl (g_gtr rfl rfl) ?_; clear ha a; intro a ha; refine op_g ha rfl (g_pick rfl rfl) ?_; clear ha a; intro a ha; refine wpList_nil ?_; replace ha := ha.sub (σ' := [(2, (.pointer (some ⟨b1, 0, none⟩))), (5, (.int .i64 (a1_0.length : Int))), (9, vqr1o2_1), (11, v1207), (123, v1201), (124, (.int .i64 (l1200.length : Int))), (125, (.int .i64 i1740)), (138, (.int .i64 x1825)), (139, (.bool (decide (1 < x1825)))), (140, (.bool (decide (1 < x1825))))]) ⟨rfl, rfl, rfl, rfl, rfl, rfl, rfl, rfl, rfl, rfl, trivial⟩
          refine e_then ?_; refine c_cond (1 < x1825) ha rfl (decide_eq_true_iff) (fun hp1842 => ?_) (fun hp1842 => ?_)
          · replace hF := if_t hp1842 hF
            refine wp_seq ?_; refine wp_region_lit ?_; refine op_g ha rfl (g_assign rfl) ?_; clear ha a; intro a ha; refine wpList_nil ?_; replace ha := ha.sub (σ' := [(4, (.bool false))]) ⟨rfl, trivial⟩; refine e_then ?_; refine wp_ret ?_; refine e_blk_ret ?_; refine e_then_ret ?_; refine e_lq_ret ?_; refine e_then_ret ?_; obtain rfl := Option.some.inj hF
            have e1843 := LK_inr hN1821; subst e1843
            have e1844 := BK_inr hK1817; subst e1844
            exact f_ret1 ha rfl rfl ⟨rfl, hE1754⟩
          replace hF := if_f hp1842 hF; refine wp_skip ?_; refine e_blk ?_; refine e_then ?_; refine wp_region_lit ?_; obtain ⟨hI1845, hF⟩ := ck_some hF; refine op_g ha rfl (g_add rfl rfl hI1845) ?_; clear ha a; intro a ha; refine op_g ha rfl (g_move rfl) ?_; clear ha a; intro a ha; refine wpList_nil ?_; replace ha := ha.sub (σ' := [(2, (.pointer (some ⟨b1, 0, none⟩))), (5, (.int .i64 (a1_0.length : Int))), (9, vqr1o2_1), (11, v1207), (123, v1201), (124, (.int .i64 (l1200.length : Int))), (125, (.int .i64 (i1740 + 1))), (138, (.int .i64 x1825)), (139, (.bool (decide (1 < x1825))))]) ⟨rfl, rfl, rfl, rfl, rfl, rfl, rfl, rfl, rfl, trivial⟩
          refine e_lq ?_; obtain rfl := Option.some.inj hF
          exact ⟨_, Nat.lt_succ_self _, i1740 + 1, ha.sub ⟨rfl, rfl, rfl, rfl, rfl, rfl, rfl, trivial⟩, hE1754, hI1845, hB1729, z1730, h1732, z1733, h1735, z1736, h1738, z1739, q1742, q1743, q1744, q1745, q1746, q1747, q1748, q1749, q1750, q1751, q1752, q1753, hN1821⟩
        replace hF := if_f hp1824 hF; refine wp_exit ?_; refine e_then_exit ?_; refine e_lq_eq ?_; obtain rfl := Option.some.inj hF
        exact ⟨ha.sub ⟨rfl, rfl, rfl, rfl, trivial⟩, hE1754, hB1729, z1730, h1732, z1733, h1735, z1736, q1742, q1743, q1745, q1746, q1748, q1749, (LK_inr hN1821).symm⟩
    rintro a w1800 ⟨ha, hE1820, hB1801, z1802, h1804, z1805, h1807, z1808, q1809, q1810, q1811, q1812, q1813, q1814, rfl⟩
    have hF : F_impl_NiceOk_k8 a0_0 a1_0 xqr1o2_1 l1206 = some _ := hK1817; clear hK1817; unfold F_impl_NiceOk_k8 at hF
    refine e_then ?_; refine wp_seq ?_; refine wp_region_lit ?_; (iterate 2 refine op_g ha rfl (g_move rfl) ?_; clear ha a; intro a ha); obtain ⟨hI1847, hF⟩ := ck_some hF; refine op_g ha rfl (g_sub rfl rfl hI1847) ?_; clear ha a; intro a ha; obtain ⟨x1849, g1850, gx1851, hF⟩ := idx_some hF
    obtain ⟨p1852, cs1853, f1854, hf1855, hpb1856, hat1857, hr1858, hi1859⟩ := h1804.at g1850 gx1851
    obtain ⟨rfl, rfl⟩ := hr1858
    refine op_g ha rfl (hi1859.gives sl46 rfl rfl) ?_; clear ha a; intro a ha; refine op_g ha rfl (g_load Try.isAgg51 rfl hat1857.one) ?_; clear ha a; intro a ha; refine op_g ha rfl (g32_eql (m := x1849) (n := (0#32)) rfl rfl) ?_; clear ha a; intro a ha; refine op_g ha rfl (g_move rfl) ?_; clear ha a; intro a ha
    by_cases hp1860 : x1849 = (0#32)
    · replace hF := if_t hp1860 hF
      rw [show (decide (x1849 = (0#32))) = true from (decide_eq_true_iff).2 hp1860] at ha
      refine op_want (yields ha rfl rfl) ?_; refine op_g ha rfl (g_move rfl) ?_; clear ha a; intro a ha; refine op_want (yields ha rfl rfl) ?_
      obtain ⟨fp1861, hro1862, hs1863⟩ := h1807.roF
      obtain ⟨x1866, hc1867, hF⟩ := cal_some hF
      refine o_call ha rfl rfl Try.call24 (W_slices_ContainsFunc_int hro1862 (by intro _ hy1865 z1864 hz1864 r hr; exact W_impl_NiceOk_1 hz1864 hr) Try.call25 hc1867) ?_; clear ha a; rintro v1868 w1869 ⟨rfl, hx1870⟩ a ha
      replace hB1801 := hB1801.ext hx1870
      replace h1804 := h1804.ext hx1870
      replace h1807 := h1807.ext hx1870
      have hE1871 := Ext.trans hE1820 hx1870
      refine op_want (yields ha rfl rfl) ?_; refine op_g ha rfl (g_not rfl) ?_; clear ha a; intro a ha; refine op_g ha rfl (g_pick rfl rfl) ?_; clear ha a; intro a ha; refine op_g ha rfl (g_move rfl) ?_; clear ha a; intro a ha
      by_cases hp1872 : ¬ (x1866 = true)
      · replace hF := if_t hp1872 hF
        rw [show (!x1866) = true from (n_iff (Iff.rfl)).2 hp1872] at ha
        refine op_want (yields ha rfl rfl) ?_; refine op_g ha rfl (g_loadA (cs := [va0_0]) Try.isAgg31 Try.sizeOf31 rfl (by simp) hB1801.all) ?_; clear ha a; intro a ha; refine op_want (yields ha rfl rfl) ?_; obtain ⟨x1873, hc1874, hF⟩ := cal_some hF
        refine o_call ha rfl rfl Try.call27 (W_impl_netsOf (ha0_0.ext hE1871) hc1874) ?_; clear ha a; rintro v1875 w1876 ⟨b1878, h1879, z1880, hx1877⟩ a ha
        have q1882 := Nq.new hB1801.fpb z1880
        have q1883 := Nq.madeO z1880 hB1801.bi
        have q1884 := Nq.new h1804.fpb z1880
        have q1885 := Nq.madeO z1880 h1804.blt
        have q1886 := Nq.new h1807.fpb z1880
        have q1887 := Nq.madeO z1880 h1807.blt
        replace hB1801 := hB1801.ext hx1877
        replace h1804 := h1804.ext hx1877
        replace h1807 := h1807.ext hx1877
        have hE1888 := Ext.trans hE1871 hx1877
        have q1889 := Zn.upD z1880 hE1871
        refine op_want (yields ha rfl rfl) ?_; refine op_g ha rfl (g_move rfl) ?_; clear ha a; intro a ha; refine op_want (yields ha rfl rfl) ?_
        obtain ⟨fp1890, hro1891, hs1892⟩ := h1879.roF
        obtain ⟨fp1893, hro1894, hs1895⟩ := h1804.roF
        obtain ⟨x1896, hc1897, hF⟩ := cal_some hF
        refine o_call ha rfl rfl Try.call26 (W_impl_coversEdges hro1891 hro1894 hc1897) ?_; clear ha a; rintro v1898 w1899 ⟨rfl, hx1900⟩ a ha
        replace hB1801 := hB1801.ext hx1900
        replace h1804 := h1804.ext hx1900
        replace h1807 := h1807.ext hx1900
        replace h1879 := h1879.ext hx1900
        have hE1901 := Ext.trans hE1888 hx1900
        refine op_g ha rfl (g_pick rfl rfl) ?_; clear ha a; intro a ha; refine op_g ha rfl (g_assign rfl) ?_; clear ha a; intro a ha; refine wpList_nil ?_; replace ha := ha.sub (σ' := [(4, (.bool x1896))]) ⟨rfl, trivial⟩; refine e_then ?_; refine wp_ret ?_; obtain rfl := Option.some.inj hF
        exact f_ret1 ha rfl rfl ⟨rfl, hE1901⟩
      replace hF := if_f hp1872 hF
      rw [show (!x1866) = false from b_false (n_iff (Iff.rfl)) hp1872] at ha
      (iterate 4 refine op_unwant ha rfl (yields ha rfl rfl) rfl ?_; clear ha a; intro a ha); refine op_g ha rfl (g_pick rfl rfl) ?_; clear ha a; intro a ha; refine op_g ha rfl (g_assign rfl) ?_; clear ha a; intro a ha; refine wpList_nil ?_; replace ha := ha.sub (σ' := [(4, (.bool false))]) ⟨rfl, trivial⟩; refine e_then ?_; refine wp_ret ?_; obtain rfl := Option.some.inj hF
      exact f_ret1 ha rfl rfl ⟨rfl, hE1871⟩
    replace hF := if_f hp1860 hF
    rw [show (decide (x1849 = (0#32))) = false from b_false (decide_eq_true_iff) hp1860] at ha
    (iterate 3 refine op_unwant ha rfl (yields ha rfl rfl) rfl ?_; clear ha a; intro a ha); refine op_g ha rfl (g_pick rfl rfl) ?_; clear ha a; intro a ha; refine op_g ha rfl (g_move rfl) ?_; clear ha a; intro a ha; (iterate 4 refine op_unwant ha rfl (yields ha rfl rfl) rfl ?_; clear ha a; intro a ha); refine op_g ha rfl (g_pick rfl rfl) ?_; clear ha a; intro a ha; refine op_g ha rfl (g_assign rfl) ?_; clear ha a; intro a ha; refine wpList_nil ?_; replace ha := ha.sub (σ' := [(4, (.bool false))]) ⟨rfl, trivial⟩; refine e_then ?_; refine wp_ret ?_; obtain rfl := Option.some.inj hF
    exact f_ret1 ha rfl rfl ⟨rfl, hE1820⟩
  · skip
    replace hB130 := hB130.ext hxqr1_1
    replace hB132 := hB132.ext hxqr1_1
    have hEqr1o4_1 := Ext.trans hE141 hxqr1_1
    refine o_make (z0 := (0 : Int)) Rp.int ha rfl sl48 rfl (fun w => ⟨rfl, by decide, rfl⟩) rfl gqr1o4_1 gqr1o4_1b ?_; clear ha a; intro vqr1o4_1 wqr1o4_1 hqr1o4_1 hxqr1o4_1 a ha
    obtain ⟨bqr1o4_1, hbqr1o4_1⟩ : ∃ b : Int, b = wqr1_1.heap.size := ⟨_, rfl⟩; rw [← hbqr1o4_1] at hqr1o4_1
    have qqr1o4_1 := zn_of hbqr1o4_1
    have qqr1o4_2 := Nq.new hB130.fpb qqr1o4_1
    have qqr1o4_3 := Nq.madeO qqr1o4_1 hB130.bi
    have qqr1o4_4 := Nq.new hB132.fpb qqr1o4_1
    have qqr1o4_5 := Nq.madeO qqr1o4_1 hB132.bi
    have qqr1o4_6 := Zn.upD qqr1o4_1 hEqr1o4_1
    replace hB130 := hB130.ext hxqr1o4_1
    replace hB132 := hB132.ext hxqr1o4_1
    have hEqr1o4_2 := Ext.trans hEqr1o4_1 hxqr1o4_1
    refine wpList_nil (e_sq ?_)
    refine ⟨fun _ => hxqr1o4_1, ?_⟩
    refine u_many [2, 6] (by kernel_rfl) rfl fun wqr1o4_2 hxqr1o4_2 => ⟨⟨_, rfl, ?_⟩, ⟨_, rfl, ?_⟩, trivial⟩
    · skip
      replace hB130 := hB130.ext hxqr1o4_2
      replace hB132 := hB132.ext hxqr1o4_2
      replace hqr1o4_1 := hqr1o4_1.ext hxqr1o4_2
      have hEqr1o2_1 := Ext.trans hEqr1o4_2 hxqr1o4_2
      refine o_call ha rfl rfl Try.call22 (W_impl_bagMasks (ha1_2.ext hEqr1o2_1) hcqr1o2_1) ?_; clear ha a; rintro vqr1o2_1 wqr1o2_1 ⟨bqr1o2_1, hqr1o2_1, zqr1o2_1, hxqr1o2_1⟩ a ha
      have qqr1o2_1 := Nq.new hB130.fpb zqr1o2_1
      have qqr1o2_2 := Nq.madeO zqr1o2_1 hB130.bi
      have qqr1o2_3 := Nq.new hB132.fpb zqr1o2_1
      have qqr1o2_4 := Nq.madeO zqr1o2_1 hB132.bi
      have qqr1o2_5 := Nq.new hqr1o4_1.fpb zqr1o2_1
      have qqr1o2_6 := Nq.madeO zqr1o2_1 hqr1o4_1.blt
      replace hB130 := hB130.ext hxqr1o2_1
      replace hB132 := hB132.ext hxqr1o2_1
      replace hqr1o4_1 := hqr1o4_1.ext hxqr1o2_1
      have hEqr1o2_2 := Ext.trans hEqr1o2_1 hxqr1o2_1
      have qqr1o2_7 := Zn.upD zqr1o2_1 hEqr1o2_1
      refine wpList_nil (e_sq ?_)
      refine ⟨fun _ => hxqr1o2_1, ?_⟩
      refine u_g 7 rfl (by kernel_rfl) (want0 _) ha rfl (g_assign rfl) ?_; clear ha a; intro a ha; refine u_g 8 rfl (by kernel_rfl) (want0 _) ha rfl (g_assign rfl) ?_; clear ha a; intro a ha
      refine u_only 6 rfl (by kernel_rfl) ?_; intro wqr1o6_1 hxqr1o6_1
      replace hB130 := hB130.ext hxqr1o6_1
      replace hB132 := hB132.ext hxqr1o6_1
      replace hqr1o4_1 := hqr1o4_1.ext hxqr1o6_1
      replace hqr1o2_1 := hqr1o2_1.ext hxqr1o6_1
      have hEqr1o6_1 := Ext.trans hEqr1o2_2 hxqr1o6_1
      refine o_make (z0 := (0 : Int)) Rp.int ha rfl sl48 rfl (fun w => ⟨rfl, by decide, rfl⟩) rfl gqr1o6_1 gqr1o6_1b ?_; clear ha a; intro vqr1o6_1 wqr1o6_2 hqr1o6_1 hxqr1o6_2 a ha
      obtain ⟨bqr1o6_1, hbqr1o6_1⟩ : ∃ b : Int, b = wqr1o6_1.heap.size := ⟨_, rfl⟩; rw [← hbqr1o6_1] at hqr1o6_1
      have qqr1o6_1 := zn_of hbqr1o6_1
      have qqr1o6_2 := Nq.new hB130.fpb qqr1o6_1
      have qqr1o6_3 := Nq.madeO qqr1o6_1 hB130.bi
      have qqr1o6_4 := Nq.new hB132.fpb qqr1o6_1
      have qqr1o6_5 := Nq.madeO qqr1o6_1 hB132.bi
      have qqr1o6_6 := Nq.new hqr1o4_1.fpb qqr1o6_1
      have qqr1o6_7 := Nq.madeO qqr1o6_1 hqr1o4_1.blt
      have qqr1o6_8 := Nq.new hqr1o2_1.fpb qqr1o6_1
      have qqr1o6_9 := Nq.madeO qqr1o6_1 hqr1o2_1.blt
      have qqr1o6_10 := Zn.upD qqr1o6_1 hEqr1o6_1
      replace hB130 := hB130.ext hxqr1o6_2
      replace hB132 := hB132.ext hxqr1o6_2
      replace hqr1o4_1 := hqr1o4_1.ext hxqr1o6_2
      replace hqr1o2_1 := hqr1o2_1.ext hxqr1o6_2
      have hEqr1o6_2 := Ext.trans hEqr1o6_1 hxqr1o6_2
      refine wpList_nil (e_sq ?_)
      refine ⟨fun _ => hxqr1o6_2, ?_⟩
      refine u_g 9 rfl (by kernel_rfl) (want0 _) ha rfl (g_assign rfl) ?_; clear ha a; intro a ha
      refine u_done (by kernel_rfl) ?_; intro w174 hx175
      replace hB130 := hB130.ext hx175
      replace hB132 := hB132.ext hx175
      replace hqr1o4_1 := hqr1o4_1.ext hx175
      replace hqr1o2_1 := hqr1o2_1.ext hx175
      replace hqr1o6_1 := hqr1o6_1.ext hx175
      have hE176 := Ext.trans hEqr1o6_2 hx175
      replace ha := ha.sub (σ' := [(2, (.pointer (some ⟨b1, 0, none⟩))), (3, (.pointer (some ⟨b9, 0, none⟩))), (5, (.int .i64 (a1_0.length : Int))), (6, (.int .i64 (a0_0.length : Int))), (9, vqr1o2_1), (10, vqr1o4_1), (11, vqr1o6_1)]) ⟨rfl, rfl, rfl, rfl, rfl, rfl, rfl, trivial⟩; refine e_then ?_; refine wp_seq ?_; refine wp_seq ?_; refine wp_region_lit ?_; (iterate 2 refine op_g ha rfl (g_move rfl) ?_; clear ha a; intro a ha); refine wpList_nil ?_; replace ha := ha.sub (σ' := [(2, (.pointer (some ⟨b1, 0, none⟩))), (3, (.pointer (some ⟨b9, 0, none⟩))), (5, (.int .i64 (a1_0.length : Int))), (6, (.int .i64 (a0_0.length : Int))), (9, vqr1o2_1), (10, vqr1o4_1), (11, vqr1o6_1), (79, (.int .i64 (a1_0.length : Int))), (80, (.int .i64 0))]) ⟨rfl, rfl, rfl, rfl, rfl, rfl, rfl, rfl, rfl, trivial⟩
      refine e_then ?_; obtain ⟨o1221, ho1222, hK1223⟩ := bnd_some hF
      obtain ⟨n1224, hn1225⟩ := lp_some ho1222; clear ho1222
      refine c_loop (fun a w => ∃ (l1200 : (List Int)) (l1206 : (List Int)) (v1201 : Value) (b1202 : Int) (v1207 : Value) (b1208 : Int), Fr 159 [(2, (.pointer (some ⟨b1, 0, none⟩))), (5, (.int .i64 (a1_0.length : Int))), (9, vqr1o2_1), (10, v1201), (11, v1207)] a ∧ Chg [] W w ∧ Bx w b1 [va0_0] 31 ∧ Zn W (b1 : Int) ∧ Ow Rp.u32 51 true w [] bqr1o2_1 vqr1o2_1 xqr1o2_1 ∧ Zn W bqr1o2_1 ∧ Ow Rp.int 3 true w [] b1202 v1201 l1200 ∧ Zn W b1202 ∧ Ow Rp.int 3 true w [] b1208 v1207 l1206 ∧ Zn W b1208 ∧ Nq ([b1]) bqr1o2_1 ∧ Nq ([b1]) b1202 ∧ Nq ([b1]) b1208 ∧ Nq (bl bqr1o2_1 ++ []) (b1 : Int) ∧ Nq (bl bqr1o2_1 ++ []) b1202 ∧ Nq (bl bqr1o2_1 ++ []) b1208 ∧ Nq (bl b1202 ++ []) (b1 : Int) ∧ Nq (bl b1202 ++ []) bqr1o2_1 ∧ Nq (bl b1202 ++ []) b1208 ∧ Nq (bl b1208 ++ []) (b1 : Int) ∧ Nq (bl b1208 ++ []) bqr1o2_1 ∧ Nq (bl b1208 ++ []) b1202 ∧ o1221 = .inl (l1200, l1206)) (fun n a w => ∃ (l691 : (List Int)) (l697 : (List Int)) (i700 : Int) (v692 : Value) (b693 : Int) (v698 : Value) (b699 : Int), Fr 159 [(2, (.pointer (some ⟨b1, 0, none⟩))), (3, (.pointer (some ⟨b9, 0, none⟩))), (5, (.int .i64 (a1_0.length : Int))), (6, (.int .i64 (a0_0.length : Int))), (9, vqr1o2_1), (10, v692), (11, v698), (79, (.int .i64 (a1_0.length : Int))), (80, (.int .i64 i700))] a ∧ Chg [] W w ∧ InI i700 ∧ Bx w b1 [va0_0] 31 ∧ Zn W (b1 : Int) ∧ Bx w b9 [va1_0, va1_1, va1_2, va1_3] 33 ∧ Zn W (b9 : Int) ∧ Ow Rp.u32 51 true w [] bqr1o2_1 vqr1o2_1 xqr1o2_1 ∧ Zn W bqr1o2_1 ∧ Ow Rp.int 3 true w [] b693 v692 l691 ∧ Zn W b693 ∧ Ow Rp.int 3 true w [] b699 v698 l697 ∧ Zn W b699 ∧ Nq ([b1]) (b9 : Int) ∧ Nq ([b1]) bqr1o2_1 ∧ Nq ([b1]) b693 ∧ Nq ([b1]) b699 ∧ Nq ([b9]) (b1 : Int) ∧ Nq ([b9]) bqr1o2_1 ∧ Nq ([b9]) b693 ∧ Nq ([b9]) b699 ∧ Nq (bl bqr1o2_1 ++ []) (b1 : Int) ∧ Nq (bl bqr1o2_1 ++ []) (b9 : Int) ∧ Nq (bl bqr1o2_1 ++ []) b693 ∧ Nq (bl bqr1o2_1 ++ []) b699 ∧ Nq (bl b693 ++ []) (b1 : Int) ∧ Nq (bl b693 ++ []) (b9 : Int) ∧ Nq (bl b693 ++ []) bqr1o2_1 ∧ Nq (bl b693 ++ []) b699 ∧ Nq (bl b699 ++ []) (b1 : Int) ∧ Nq (bl b699 ++ []) (b9 : Int) ∧ Nq (bl b699 ++ []) bqr1o2_1 ∧ Nq (bl b699 ++ []) b693 ∧ lpN (fun s => F_impl_NiceOk_l3 a0_0 a1_0 a1_1 a1_2 a1_3 xqr1o2_1 s.1 s.2.1 s.2.2) n (l691, l697, i700) = some o1221) n1224 ⟨(List.replicate ((a1_0.length : Int) : Int).toNat (0 : Int)), (List.replicate ((a0_0.length : Int) : Int).toNat (0 : Int)), 0, vqr1o4_1, bqr1o4_1, vqr1o6_1, bqr1o6_1, ha.sub ⟨rfl, rfl, rfl, rfl, rfl, rfl, rfl, rfl, rfl, trivial⟩, hE176, (show InI 0 from by decide), hB130, z131, hB132, z133, hqr1o2_1, qqr1o2_7, hqr1o4_1, qqr1o4_6, hqr1o6_1, qqr1o6_10, q134, qqr1o2_1, qqr1o4_2, qqr1o6_2, q135, qqr1o2_3, qqr1o4_4, qqr1o6_4, qqr1o2_2, qqr1o2_4, qqr1o2_6, qqr1o6_8, qqr1o4_3, qqr1o4_5, qqr1o2_5, qqr1o6_6, qqr1o6_3, qqr1o6_5, qqr1o6_9, qqr1o6_7, hn1225⟩ ?_ ?_
      · rintro m1229 a w680 ⟨l691, l697, i700, v692, b693, v698, b699, ha, hE722, hI701, hB681, z682, hB683, z684, h686, z687, h689, z690, h695, z696, q702, q703, q704, q705, q706, q707, q708, q709, q710, q711, q712, q713, q714, q715, q716, q717, q718, q719, q720, q721, hF⟩
        cases m1229 with
        | zero => exact (lpN_zero hF).elim
        | succ m1229 =>
          obtain ⟨z1228, hF, hN1227⟩ := lpN_succ hF
          have hF : F_impl_NiceOk_l3 a0_0 a1_0 a1_1 a1_2 a1_3 xqr1o2_1 l691 l697 i700 = some z1228 := hF; unfold F_impl_NiceOk_l3 at hF
          refine wp_seq ?_; refine wp_region_lit ?_; refine op_g ha rfl (g_lss rfl rfl) ?_; clear ha a; intro a ha; refine wpList_nil ?_; replace ha := ha.sub (σ' := [(2, (.pointer (some ⟨b1, 0, none⟩))), (3, (.pointer (some ⟨b9, 0, none⟩))), (5, (.int .i64 (a1_0.length : Int))), (6, (.int .i64 (a0_0.length : Int))), (9, vqr1o2_1), (10, v692), (11, v698), (79, (.int .i64 (a1_0.length : Int))), (80, (.int .i64 i700)), (81, (.bool (decide (i700 < (a1_0.length : Int)))))]) ⟨rfl, rfl, rfl, rfl, rfl, rfl, rfl, rfl, rfl, rfl, trivial⟩; refine e_then ?_; refine wp_seq ?_; refine c_cond (i700 < (a1_0.length : Int)) ha rfl (decide_eq_true_iff) (fun hp1230 => ?_) (fun hp1230 => ?_)
          · replace hF := if_t hp1230 hF
            refine wp_skip ?_; refine e_then ?_; refine wp_seq ?_; refine wp_block ?_; refine wp_seq ?_; refine wp_region_lit ?_; refine op_g ha rfl (g_move rfl) ?_; clear ha a; intro a ha; refine op_g ha rfl (g_assign rfl) ?_; clear ha a; intro a ha; refine wpList_nil ?_; replace ha := ha.sub (σ' := [(2, (.pointer (some ⟨b1, 0, none⟩))), (3, (.pointer (some ⟨b9, 0, none⟩))), (5, (.int .i64 (a1_0.length : Int))), (6, (.int .i64 (a0_0.length : Int))), (9, vqr1o2_1), (10, v692), (11, v698), (12, (.int .i64 i700)), (79, (.int .i64 (a1_0.length : Int))), (80, (.int .i64 i700))]) ⟨rfl, rfl, rfl, rfl, rfl, rfl, rfl, rfl, rfl, rfl, trivial⟩
            refine e_then ?_; refine wp_seq ?_; refine wp_seq ?_; refine wp_region_lit ?_; refine op_g ha rfl (g_loadA (cs := [va1_0, va1_1, va1_2, va1_3]) Try.isAgg33 Try.sizeOf33 rfl (by simp) hB683.all) ?_; clear ha a; intro a ha; (iterate 3 refine op_g ha rfl (g_move rfl) ?_; clear ha a; intro a ha)
            obtain ⟨fp1231, hro1232, hs1233⟩ := h686.roF
            obtain ⟨x1234, hc1235, hF⟩ := cal_some hF
            refine o_call ha rfl rfl Try.call23 (W_impl_goodNode (ha1_0.ext hE722) (ha1_1.ext hE722) (ha1_2.ext hE722) (ha1_3.ext hE722) hI701 hro1232 ha0_0.len hc1235) ?_; clear ha a; rintro v1236 w1237 ⟨rfl, hx1238⟩ a ha
            replace hB681 := hB681.ext hx1238
            replace hB683 := hB683.ext hx1238
            replace h686 := h686.ext hx1238
            replace h689 := h689.ext hx1238
            replace h695 := h695.ext hx1238
            have hE1239 := Ext.trans hE722 hx1238
            refine op_g ha rfl (g_not rfl) ?_; clear ha a; intro a ha; refine wpList_nil ?_; replace ha := ha.sub (σ' := [(2, (.pointer (some ⟨b1, 0, none⟩))), (3, (.pointer (some ⟨b9, 0, none⟩))), (5, (.int .i64 (a1_0.length : Int))), (6, (.int .i64 (a0_0.length : Int))), (9, vqr1o2_1), (10, v692), (11, v698), (12, (.int .i64 i700)), (79, (.int .i64 (a1_0.length : Int))), (80, (.int .i64 i700)), (88, (.bool (!x1234)))]) ⟨rfl, rfl, rfl, rfl, rfl, rfl, rfl, rfl, rfl, rfl, rfl, trivial⟩; refine e_then ?_; refine c_cond (¬ (x1234 = true)) ha rfl (n_iff (Iff.rfl)) (fun hp1240 => ?_) (fun hp1240 => ?_)
            · replace hF := if_t hp1240 hF
              refine wp_seq ?_; refine wp_region_lit ?_; refine op_g ha rfl (g_assign rfl) ?_; clear ha a; intro a ha; refine wpList_nil ?_; replace ha := ha.sub (σ' := [(4, (.bool false))]) ⟨rfl, trivial⟩; refine e_then ?_; refine wp_ret ?_; refine e_then_ret ?_; refine e_blk_ret ?_; refine e_then_ret ?_; refine e_lq_ret ?_; refine e_then_ret ?_; obtain rfl := Option.some.inj hF
              have e1241 := LK_inr hN1227; subst e1241
              have e1242 := BK_inr hK1223; subst e1242
              exact f_ret1 ha rfl rfl ⟨rfl, hE1239⟩
            replace hF := if_f hp1240 hF; refine wp_skip ?_; refine e_then ?_; refine wp_seq ?_; refine wp_seq ?_; refine wp_region_lit ?_; refine op_g ha rfl (g_field0 st33_3 rfl) ?_; clear ha a; intro a ha; refine op_g ha rfl (g_load Try.isAgg22 rfl (hB683.cell rfl)) ?_; clear ha a; intro a ha; refine op_g ha rfl (g_move rfl) ?_; clear ha a; intro a ha; obtain ⟨x1243, g1244, gx1245, hF⟩ := idx_some hF
            obtain ⟨p1246, cs1247, f1248, hf1249, hpb1250, hat1251, hr1252, hi1253⟩ := ha1_3.at g1244 gx1245
            obtain ⟨v1254, rfl, h1255⟩ := hr1252
            have h1255 : Ro Rp.int W f1248 v1254 x1243 := h1255
            refine op_g ha rfl (hi1253.gives sl22 rfl rfl) ?_; clear ha a; intro a ha; refine op_g ha rfl (g_load0 hE1239 Try.isAgg25 rfl hat1251.one) ?_; clear ha a; intro a ha; refine op_g ha rfl (g_lenR sl25.und h1255 rfl) ?_; clear ha a; intro a ha; refine op_g ha rfl (g_move rfl) ?_; clear ha a; intro a ha; refine wpList_nil ?_; replace ha := ha.sub (σ' := [(2, (.pointer (some ⟨b1, 0, none⟩))), (3, (.pointer (some ⟨b9, 0, none⟩))), (5, (.int .i64 (a1_0.length : Int))), (6, (.int .i64 (a0_0.length : Int))), (9, vqr1o2_1), (10, v692), (11, v698), (12, (.int .i64 i700)), (79, (.int .i64 (a1_0.length : Int))), (80, (.int .i64 i700)), (93, v1254), (94, (.int .i64 (x1243.length : Int))), (95, (.int .i64 0))]) ⟨rfl, rfl, rfl, rfl, rfl, rfl, rfl, rfl, rfl, rfl, rfl, rfl, rfl, trivial⟩
            refine e_then ?_; obtain ⟨o1541, ho1542, hK1543⟩ := bnd_some hF
            obtain ⟨n1544, hn1545⟩ := lp_some ho1542; clear ho1542
            refine c_loop (fun a w => ∃ (l1515 : (List Int)) (v1516 : Value) (b1517 : Int), Fr 159 [(2, (.pointer (some ⟨b1, 0, none⟩))), (3, (.pointer (some ⟨b9, 0, none⟩))), (5, (.int .i64 (a1_0.length : Int))), (6, (.int .i64 (a0_0.length : Int))), (9, vqr1o2_1), (10, v1516), (11, v698), (12, (.int .i64 i700)), (79, (.int .i64 (a1_0.length : Int))), (80, (.int .i64 i700))] a ∧ Chg [] W w ∧ Bx w b1 [va0_0] 31 ∧ Zn W (b1 : Int) ∧ Bx w b9 [va1_0, va1_1, va1_2, va1_3] 33 ∧ Zn W (b9 : Int) ∧ Ow Rp.u32 51 true w [] bqr1o2_1 vqr1o2_1 xqr1o2_1 ∧ Zn W bqr1o2_1 ∧ Ow Rp.int 3 true w [] b1517 v1516 l1515 ∧ Zn W b1517 ∧ Ow Rp.int 3 true w [] b699 v698 l697 ∧ Zn W b699 ∧ Nq ([b1]) (b9 : Int) ∧ Nq ([b1]) bqr1o2_1 ∧ Nq ([b1]) b1517 ∧ Nq ([b1]) b699 ∧ Nq ([b9]) (b1 : Int) ∧ Nq ([b9]) bqr1o2_1 ∧ Nq ([b9]) b1517 ∧ Nq ([b9]) b699 ∧ Nq (bl bqr1o2_1 ++ []) (b1 : Int) ∧ Nq (bl bqr1o2_1 ++ []) (b9 : Int) ∧ Nq (bl bqr1o2_1 ++ []) b1517 ∧ Nq (bl bqr1o2_1 ++ []) b699 ∧ Nq (bl b1517 ++ []) (b1 : Int) ∧ Nq (bl b1517 ++ []) (b9 : Int) ∧ Nq (bl b1517 ++ []) bqr1o2_1 ∧ Nq (bl b1517 ++ []) b699 ∧ Nq (bl b699 ++ []) (b1 : Int) ∧ Nq (bl b699 ++ []) (b9 : Int) ∧ Nq (bl b699 ++ []) bqr1o2_1 ∧ Nq (bl b699 ++ []) b1517 ∧ o1541 = .inl l1515) (fun n a w => ∃ (l1389 : (List Int)) (i1395 : Int) (v1390 : Value) (b1391 : Int), Fr 159 [(2, (.pointer (some ⟨b1, 0, none⟩))), (3, (.pointer (some ⟨b9, 0, none⟩))), (5, (.int .i64 (a1_0.length : Int))), (6, (.int .i64 (a0_0.length : Int))), (9, vqr1o2_1), (10, v1390), (11, v698), (12, (.int .i64 i700)), (79, (.int .i64 (a1_0.length : Int))), (80, (.int .i64 i700)), (93, v1254), (94, (.int .i64 (x1243.length : Int))), (95, (.int .i64 i1395))] a ∧ Chg [] W w ∧ InI i1395 ∧ Bx w b1 [va0_0] 31 ∧ Zn W (b1 : Int) ∧ Bx w b9 [va1_0, va1_1, va1_2, va1_3] 33 ∧ Zn W (b9 : Int) ∧ Ow Rp.u32 51 true w [] bqr1o2_1 vqr1o2_1 xqr1o2_1 ∧ Zn W bqr1o2_1 ∧ Ow Rp.int 3 true w [] b1391 v1390 l1389 ∧ Zn W b1391 ∧ Ow Rp.int 3 true w [] b699 v698 l697 ∧ Zn W b699 ∧ Nq ([b1]) (b9 : Int) ∧ Nq ([b1]) bqr1o2_1 ∧ Nq ([b1]) b1391 ∧ Nq ([b1]) b699 ∧ Nq ([b9]) (b1 : Int) ∧ Nq ([b9]) bqr1o2_1 ∧ Nq ([b9]) b1391 ∧ Nq ([b9]) b699 ∧ Nq (bl bqr1o2_1 ++ []) (b1 : Int) ∧ Nq (bl bqr1o2_1 ++ []) (b9 : Int) ∧ Nq (bl bqr1o2_1 ++ []) b1391 ∧ Nq (bl bqr1o2_1 ++ []) b699 ∧ Nq (bl b1391 ++ []) (b1 : Int) ∧ Nq (bl b1391 ++ []) (b9 : Int) ∧ Nq (bl b1391 ++ []) bqr1o2_1 ∧ Nq (bl b1391 ++ []) b699 ∧ Nq (bl b699 ++ []) (b1 : Int) ∧ Nq (bl b699 ++ []) (b9 : Int) ∧ Nq (bl b699 ++ []) bqr1o2_1 ∧ Nq (bl b699 ++ []) b1391 ∧ lpN (fun s => F_impl_NiceOk_l4 x1243 s.1 s.2) n (l1389, i1395) = some o1541) n1544 ⟨l691, 0, v692, b693, ha.sub ⟨rfl, rfl, rfl, rfl, rfl, rfl, rfl, rfl, rfl, rfl, rfl, rfl, rfl, trivial⟩, hE1239, (show InI 0 from by decide), hB681, z682, hB683, z684, h686, z687, h689, z690, h695, z696, q702, q703, q704, q705, q706, q707, q708, q709, q710, q711, q712, q713, q714, q715, q716, q717, q718, q719, q720, q721, hn1545⟩ ?_ ?_
            · rintro m1549 a w1378 ⟨l1389, i1395, v1390, b1391, ha, hE1417, hI1396, hB1379, z1380, hB1381, z1382, h1384, z1385, h1387, z1388, h1393, z1394, q1397, q1398, q1399, q1400, q1401, q1402, q1403, q1404, q1405, q1406, q1407, q1408, q1409, q1410, q1411, q1412, q1413, q1414, q1415, q1416, hF⟩
              cases m1549 with
              | zero => exact (lpN_zero hF).elim
              | succ m1549 =>
                obtain ⟨z1548, hF, hN1547⟩ := lpN_succ hF
                have hF : F_impl_NiceOk_l4 x1243 l1389 i1395 = some z1548 := hF; unfold F_impl_NiceOk_l4 at hF
                refine wp_seq ?_; refine wp_region_lit ?_; refine op_g ha rfl (g_lss rfl rfl) ?_; clear ha a; intro a ha; refine wpList_nil ?_; replace ha := ha.sub (σ' := [(2, (.pointer (some ⟨b1, 0, none⟩))), (3, (.pointer (some ⟨b9, 0, none⟩))), (5, (.int .i64 (a1_0.length : Int))), (6, (.int .i64 (a0_0.length : Int))), (9, vqr1o2_1), (10, v1390), (11, v698), (12, (.int .i64 i700)), (79, (.int .i64 (a1_0.length : Int))), (80, (.int .i64 i700)), (93, v1254), (94, (.int .i64 (x1243.length : Int))), (95, (.int .i64 i1395)), (96, (.bool (decide (i1395 < (x1243.length : Int)))))]) ⟨rfl, rfl, rfl, rfl, rfl, rfl, rfl, rfl, rfl, rfl, rfl, rfl, rfl, rfl, trivial⟩
                refine e_then ?_; refine wp_seq ?_; refine c_cond (i1395 < (x1243.length : Int)) ha rfl (decide_eq_true_iff) (fun hp1550 => ?_) (fun hp1550 => ?_)
                · replace hF := if_t hp1550 hF
                  refine wp_skip ?_; refine e_then ?_; refine wp_seq ?_; refine wp_block ?_; refine wp_seq ?_; refine wp_region_lit ?_; obtain ⟨x1551, g1552, gx1553, hF⟩ := idx_some hF
                  obtain ⟨p1554, cs1555, f1556, hf1557, hpb1558, hat1559, hr1560, hi1561⟩ := h1255.at g1552 gx1553
                  obtain ⟨rfl, hI1562, rfl⟩ := hr1560
                  refine op_g ha rfl (hi1561.gives sl25 rfl rfl) ?_; clear ha a; intro a ha; refine op_g ha rfl (g_load0 hE1417 Try.isAgg2 rfl hat1559.one) ?_; clear ha a; intro a ha; refine op_g ha rfl (g_assign rfl) ?_; clear ha a; intro a ha; refine wpList_nil ?_; replace ha := ha.sub (σ' := [(2, (.pointer (some ⟨b1, 0, none⟩))), (3, (.pointer (some ⟨b9, 0, none⟩))), (5, (.int .i64 (a1_0.length : Int))), (6, (.int .i64 (a0_0.length : Int))), (9, vqr1o2_1), (10, v1390), (11, v698), (12, (.int .i64 i700)), (14, (.int .i64 x1551)), (79, (.int .i64 (a1_0.length : Int))), (80, (.int .i64 i700)), (93, v1254), (94, (.int .i64 (x1243.length : Int))), (95, (.int .i64 i1395))]) ⟨rfl, rfl, rfl, rfl, rfl, rfl, rfl, rfl, rfl, rfl, rfl, rfl, rfl, rfl, trivial⟩
                  refine e_then ?_; refine wp_region_lit ?_; (iterate 2 refine op_g ha rfl (g_move rfl) ?_; clear ha a; intro a ha); obtain ⟨x1563, g1564, gx1565, hF⟩ := idx_some hF
                  obtain ⟨p1566, cs1567, f1568, hf1569, hpb1570, hat1571, hr1572, hi1573⟩ := h1387.at g1564 gx1565
                  obtain ⟨rfl, hI1574, rfl⟩ := hr1572
                  refine op_g ha rfl (hi1573.gives sl48 rfl rfl) ?_; clear ha a; intro a ha; refine op_g ha rfl (g_load Try.isAgg3 rfl hat1571.one) ?_; clear ha a; intro a ha; obtain ⟨hI1575, hF⟩ := ck_some hF; refine op_g ha rfl (g_add rfl rfl hI1575) ?_; clear ha a; intro a ha; obtain ⟨x1577, g1578, gx1579, hF⟩ := idx_some hF
                  obtain ⟨p1580, cs1581, f1582, hf1583, hpb1584, hat1585, hr1586, hi1587⟩ := h1387.at g1578 gx1579
                  obtain ⟨rfl, hI1588, rfl⟩ := hr1586
                  refine op_g ha rfl (hi1587.gives sl48 rfl rfl) ?_; clear ha a; intro a ha
                  refine o_storeE (f := []) (q := x1563 + 1) ha Try.sizeOf3 rfl rfl rfl h1387 hi1587 ⟨rfl, hI1575, rfl⟩ (Nq.nil _) ?_; intro w1589 fs1590 h1591 hc1592 hs1593
                  obtain rfl := Subst.nil hs1593
                  replace hB1379 := hB1379.nq hc1592 q1399
                  replace hB1381 := hB1381.nq hc1592 q1403
                  replace h1384 := h1384.nq hc1592 q1407
                  replace h1393 := h1393.nq hc1592 q1416
                  have hE1594 := Ext.then hE1417 hc1592 (Zn.bl z1388)
                  refine wpList_nil ?_; replace ha := ha.sub (σ' := [(2, (.pointer (some ⟨b1, 0, none⟩))), (3, (.pointer (some ⟨b9, 0, none⟩))), (5, (.int .i64 (a1_0.length : Int))), (6, (.int .i64 (a0_0.length : Int))), (9, vqr1o2_1), (10, v1390), (11, v698), (12, (.int .i64 i700)), (79, (.int .i64 (a1_0.length : Int))), (80, (.int .i64 i700)), (93, v1254), (94, (.int .i64 (x1243.length : Int))), (95, (.int .i64 i1395))]) ⟨rfl, rfl, rfl, rfl, rfl, rfl, rfl, rfl, rfl, rfl, rfl, rfl, rfl, trivial⟩; refine e_blk ?_; refine e_then ?_; refine wp_region_lit ?_; obtain ⟨hI1595, hF⟩ := ck_some hF; refine op_g ha rfl (g_add rfl rfl hI1595) ?_; clear ha a; intro a ha
                  refine op_g ha rfl (g_move rfl) ?_; clear ha a; intro a ha; refine wpList_nil ?_; replace ha := ha.sub (σ' := [(2, (.pointer (some ⟨b1, 0, none⟩))), (3, (.pointer (some ⟨b9, 0, none⟩))), (5, (.int .i64 (a1_0.length : Int))), (6, (.int .i64 (a0_0.length : Int))), (9, vqr1o2_1), (10, v1390), (11, v698), (12, (.int .i64 i700)), (79, (.int .i64 (a1_0.length : Int))), (80, (.int .i64 i700)), (93, v1254), (94, (.int .i64 (x1243.length : Int))), (95, (.int .i64 (i1395 + 1)))]) ⟨rfl, rfl, rfl, rfl, rfl, rfl, rfl, rfl, rfl, rfl, rfl, rfl, rfl, trivial⟩; refine e_lq ?_; obtain rfl := Option.some.inj hF
                  exact ⟨_, Nat.lt_succ_self _, (l1389.set ((x1551 : Int).toNat) (x1563 + 1)), i1395 + 1, v1390, b1391, ha.sub ⟨rfl, rfl, rfl, rfl, rfl, rfl, rfl, rfl, rfl, rfl, rfl, rfl, rfl, trivial⟩, hE1594, hI1595, hB1379, z1380, hB1381, z1382, h1384, z1385, h1591, z1388, h1393, z1394, q1397, q1398, q1399, q1400, q1401, q1402, q1403, q1404, q1405, q1406, q1407, q1408, q1409, q1410, q1411, q1412, q1413, q1414, q1415, q1416, hN1547⟩
                replace hF := if_f hp1550 hF; refine wp_exit ?_; refine e_then_exit ?_; refine e_lq_eq ?_; obtain rfl := Option.some.inj hF
                exact ⟨l1389, v1390, b1391, ha.sub ⟨rfl, rfl, rfl, rfl, rfl, rfl, rfl, rfl, rfl, rfl, trivial⟩, hE1417, hB1379, z1380, hB1381, z1382, h1384, z1385, h1387, z1388, h1393, z1394, q1397, q1398, q1399, q1400, q1401, q1402, q1403, q1404, q1405, q1406, q1407, q1408, q1409, q1410, q1411, q1412, q1413, q1414, q1415, q1416, (LK_inr hN1547).symm⟩
            rintro a w1504 ⟨l1515, v1516, b1517, ha, hE1546, hB1505, z1506, hB1507, z1508, h1510, z1511, h1513, z1514, h1519, z1520, q1521, q1522, q1523, q1524, q1525, q1526, q1527, q1528, q1529, q1530, q1531, q1532, q1533, q1534, q1535, q1536, q1537, q1538, q1539, q1540, rfl⟩
            have hF : F_impl_NiceOk_k5 a1_0 a1_1 l697 i700 l1515 = some _ := hK1543; clear hK1543; unfold F_impl_NiceOk_k5 at hF
            refine e_then ?_; refine wp_seq ?_; refine wp_region_lit ?_; refine op_g ha rfl (g_field0 st33_0 rfl) ?_; clear ha a; intro a ha; refine op_g ha rfl (g_load Try.isAgg25 rfl (hB1507.cell rfl)) ?_; clear ha a; intro a ha; refine op_g ha rfl (g_move rfl) ?_; clear ha a; intro a ha; obtain ⟨x1597, g1598, gx1599, hF⟩ := idx_some hF
            obtain ⟨p1600, cs1601, f1602, hf1603, hpb1604, hat1605, hr1606, hi1607⟩ := ha1_0.at g1598 gx1599
            obtain ⟨rfl, hI1608, rfl⟩ := hr1606
            refine op_g ha rfl (hi1607.gives sl25 rfl rfl) ?_; clear ha a; intro a ha; refine op_g ha rfl (g_load0 hE1546 Try.isAgg2 rfl hat1605.one) ?_; clear ha a; intro a ha; refine op_g ha rfl (g_eql rfl rfl) ?_; clear ha a; intro a ha; refine wpList_nil ?_; replace ha := ha.sub (σ' := [(2, (.pointer (some ⟨b1, 0, none⟩))), (3, (.pointer (some ⟨b9, 0, none⟩))), (5, (.int .i64 (a1_0.length : Int))), (6, (.int .i64 (a0_0.length : Int))), (9, vqr1o2_1), (10, v1516), (11, v698), (12, (.int .i64 i700)), (79, (.int .i64 (a1_0.length : Int))), (80, (.int .i64 i700)), (111, (.bool (decide (x1597 = 3))))]) ⟨rfl, rfl, rfl, rfl, rfl, rfl, rfl, rfl, rfl, rfl, rfl, trivial⟩
            refine e_then ?_; refine c_cond (x1597 = 3) ha rfl (decide_eq_true_iff) (fun hp1609 => ?_) (fun hp1609 => ?_)
            · replace hF := if_t hp1609 hF
              refine wp_region_lit ?_; refine op_g ha rfl (g_move rfl) ?_; clear ha a; intro a ha; refine op_g ha rfl (g_field0 st33_1 rfl) ?_; clear ha a; intro a ha; refine op_g ha rfl (g_load Try.isAgg25 rfl (hB1507.cell rfl)) ?_; clear ha a; intro a ha; refine op_g ha rfl (g_move rfl) ?_; clear ha a; intro a ha; obtain ⟨x1610, g1611, gx1612, hF⟩ := idx_some hF
              obtain ⟨p1613, cs1614, f1615, hf1616, hpb1617, hat1618, hr1619, hi1620⟩ := ha1_1.at g1611 gx1612
              obtain ⟨rfl, hI1621, rfl⟩ := hr1619
              refine op_g ha rfl (hi1620.gives sl25 rfl rfl) ?_; clear ha a; intro a ha; refine op_g ha rfl (g_load0 hE1546 Try.isAgg2 rfl hat1618.one) ?_; clear ha a; intro a ha; obtain ⟨x1622, g1623, gx1624, hF⟩ := idx_some hF
              obtain ⟨p1625, cs1626, f1627, hf1628, hpb1629, hat1630, hr1631, hi1632⟩ := h1519.at g1623 gx1624
              obtain ⟨rfl, hI1633, rfl⟩ := hr1631
              refine op_g ha rfl (hi1632.gives sl48 rfl rfl) ?_; clear ha a; intro a ha; refine op_g ha rfl (g_load Try.isAgg3 rfl hat1630.one) ?_; clear ha a; intro a ha; obtain ⟨hI1634, hF⟩ := ck_some hF; refine op_g ha rfl (g_add rfl rfl hI1634) ?_; clear ha a; intro a ha; obtain ⟨x1636, g1637, gx1638, hF⟩ := idx_some hF
              obtain ⟨p1639, cs1640, f1641, hf1642, hpb1643, hat1644, hr1645, hi1646⟩ := h1519.at g1637 gx1638
              obtain ⟨rfl, hI1647, rfl⟩ := hr1645
              refine op_g ha rfl (hi1646.gives sl48 rfl rfl) ?_; clear ha a; intro a ha
              refine o_storeE (f := []) (q := x1622 + 1) ha Try.sizeOf3 rfl rfl rfl h1519 hi1646 ⟨rfl, hI1634, rfl⟩ (Nq.nil _) ?_; intro w1648 fs1649 h1650 hc1651 hs1652
              obtain rfl := Subst.nil hs1652
              replace hB1505 := hB1505.nq hc1651 q1524
              replace hB1507 := hB1507.nq hc1651 q1528
              replace h1510 := h1510.nq hc1651 q1532
              replace h1513 := h1513.nq hc1651 q1536
              have hE1653 := Ext.then hE1546 hc1651 (Zn.bl z1520)
              refine wpList_nil ?_; replace ha := ha.sub (σ' := [(2, (.pointer (some ⟨b1, 0, none⟩))), (3, (.pointer (some ⟨b9, 0, none⟩))), (5, (.int .i64 (a1_0.length : Int))), (6, (.int .i64 (a0_0.length : Int))), (9, vqr1o2_1), (10, v1516), (11, v698), (79, (.int .i64 (a1_0.length : Int))), (80, (.int .i64 i700))]) ⟨rfl, rfl, rfl, rfl, rfl, rfl, rfl, rfl, rfl, trivial⟩; refine e_blk ?_; refine e_then ?_; refine wp_region_lit ?_; obtain ⟨hI1654, hF⟩ := ck_some hF; refine op_g ha rfl (g_add rfl rfl hI1654) ?_; clear ha a; intro a ha; refine op_g ha rfl (g_move rfl) ?_; clear ha a; intro a ha
              refine wpList_nil ?_; replace ha := ha.sub (σ' := [(2, (.pointer (some ⟨b1, 0, none⟩))), (3, (.pointer (some ⟨b9, 0, none⟩))), (5, (.int .i64 (a1_0.length : Int))), (6, (.int .i64 (a0_0.length : Int))), (9, vqr1o2_1), (10, v1516), (11, v698), (79, (.int .i64 (a1_0.length : Int))), (80, (.int .i64 (i700 + 1)))]) ⟨rfl, rfl, rfl, rfl, rfl, rfl, rfl, rfl, rfl, trivial⟩; refine e_lq ?_; obtain rfl := Option.some.inj hF
              exact ⟨_, Nat.lt_succ_self _, l1515, (l697.set ((x1610 : Int).toNat) (x1622 + 1)), i700 + 1, v1516, b1517, v698, b699, ha.sub ⟨rfl, rfl, rfl, rfl, rfl, rfl, rfl, rfl, rfl, trivial⟩, hE1653, hI1654, hB1505, z1506, hB1507, z1508, h1510, z1511, h1513, z1514, h1650, z1520, q1521, q1522, q1523, q1524, q1525, q1526, q1527, q1528, q1529, q1530, q1531, q1532, q1533, q1534, q1535, q1536, q1537, q1538, q1539, q1540, hN1227⟩
            replace hF := if_f hp1609 hF; refine wp_skip ?_; refine e_blk ?_; refine e_then ?_; refine wp_region_lit ?_; obtain ⟨hI1656, hF⟩ := ck_some hF; refine op_g ha rfl (g_add rfl rfl hI1656) ?_; clear ha a; intro a ha; refine op_g ha rfl (g_move rfl) ?_; clear ha a; intro a ha; refine wpList_nil ?_; replace ha := ha.sub (σ' := [(2, (.pointer (some ⟨b1, 0, none⟩))), (3, (.pointer (some ⟨b9, 0, none⟩))), (5, (.int .i64 (a1_0.length : Int))), (6, (.int .i64 (a0_0.length : Int))), (9, vqr1o2_1), (10, v1516), (11, v698), (79, (.int .i64 (a1_0.length : Int))), (80, (.int .i64 (i700 + 1)))]) ⟨rfl, rfl, rfl, rfl, rfl, rfl, rfl, rfl, rfl, trivial⟩
            refine e_lq ?_; obtain rfl := Option.some.inj hF
            exact ⟨_, Nat.lt_succ_self _, l1515, l697, i700 + 1, v1516, b1517, v698, b699, ha.sub ⟨rfl, rfl, rfl, rfl, rfl, rfl, rfl, rfl, rfl, trivial⟩, hE1546, hI1656, hB1505, z1506, hB1507, z1508, h1510, z1511, h1513, z1514, h1519, z1520, q1521, q1522, q1523, q1524, q1525, q1526, q1527, q1528, q1529, q1530, q1531, q1532, q1533, q1534, q1535, q1536, q1537, q1538, q1539, q1540, hN1227⟩
          replace hF := if_f hp1230 hF; refine wp_exit ?_; refine e_then_exit ?_; refine e_lq_eq ?_; obtain rfl := Option.some.inj hF
          exact ⟨l691, l697, v692, b693, v698, b699, ha.sub ⟨rfl, rfl, rfl, rfl, rfl, trivial⟩, hE722, hB681, z682, h686, z687, h689, z690, h695, z696, q703, q704, q705, q710, q712, q713, q714, q716, q717, q718, q720, q721, (LK_inr hN1227).symm⟩
      rintro a w1191 ⟨l1200, l1206, v1201, b1202, v1207, b1208, ha, hE1226, hB1192, z1193, h1195, z1196, h1198, z1199, h1204, z1205, q1209, q1210, q1211, q1212, q1213, q1214, q1215, q1216, q1217, q1218, q1219, q1220, rfl⟩
      have hF : F_impl_NiceOk_k6 a0_0 a1_0 xqr1o2_1 l1200 l1206 = some _ := hK1223; clear hK1223; unfold F_impl_NiceOk_k6 at hF
      refine e_then ?_; refine wp_seq ?_; refine wp_seq ?_; refine wp_region_lit ?_; refine op_g ha rfl (g_move rfl) ?_; clear ha a; intro a ha; refine op_g ha rfl (g_lenO sl48.und h1198 rfl) ?_; clear ha a; intro a ha; refine op_g ha rfl (g_move rfl) ?_; clear ha a; intro a ha; refine wpList_nil ?_; replace ha := ha.sub (σ' := [(2, (.pointer (some ⟨b1, 0, none⟩))), (5, (.int .i64 (a1_0.length : Int))), (9, vqr1o2_1), (11, v1207), (123, v1201), (124, (.int .i64 (l1200.length : Int))), (125, (.int .i64 0))]) ⟨rfl, rfl, rfl, rfl, rfl, rfl, rfl, trivial⟩; refine e_then ?_; obtain ⟨o1815, ho1816, hK1817⟩ := bnd_some hF
      obtain ⟨n1818, hn1819⟩ := lp_some ho1816; clear ho1816
      refine c_loop (fun a w => Fr 159 [(2, (.pointer (some ⟨b1, 0, none⟩))), (5, (.int .i64 (a1_0.length : Int))), (9, vqr1o2_1), (11, v1207)] a ∧ Chg [] W w ∧ Bx w b1 [va0_0] 31 ∧ Zn W (b1 : Int) ∧ Ow Rp.u32 51 true w [] bqr1o2_1 vqr1o2_1 xqr1o2_1 ∧ Zn W bqr1o2_1 ∧ Ow Rp.int 3 true w [] b1208 v1207 l1206 ∧ Zn W b1208 ∧ Nq ([b1]) bqr1o2_1 ∧ Nq ([b1]) b1208 ∧ Nq (bl bqr1o2_1 ++ []) (b1 : Int) ∧ Nq (bl bqr1o2_1 ++ []) b1208 ∧ Nq (bl b1208 ++ []) (b1 : Int) ∧ Nq (bl b1208 ++ []) bqr1o2_1 ∧ o1815 = .inl ()) (fun n a w => ∃ (i1740 : Int), Fr 159 [(2, (.pointer (some ⟨b1, 0, none⟩))), (5, (.int .i64 (a1_0.length : Int))), (9, vqr1o2_1), (11, v1207), (123, v1201), (124, (.int .i64 (l1200.length : Int))), (125, (.int .i64 i1740))] a ∧ Chg [] W w ∧ InI i1740 ∧ Bx w b1 [va0_0] 31 ∧ Zn W (b1 : Int) ∧ Ow Rp.u32 51 true w [] bqr1o2_1 vqr1o2_1 xqr1o2_1 ∧ Zn W bqr1o2_1 ∧ Ow Rp.int 3 true w [] b1208 v1207 l1206 ∧ Zn W b1208 ∧ Ow Rp.int 3 true w [] b1202 v1201 l1200 ∧ Zn W b1202 ∧ Nq ([b1]) bqr1o2_1 ∧ Nq ([b1]) b1208 ∧ Nq ([b1]) b1202 ∧ Nq (bl bqr1o2_1 ++ []) (b1 : Int) ∧ Nq (bl bqr1o2_1 ++ []) b1208 ∧ Nq (bl bqr1o2_1 ++ []) b1202 ∧ Nq (bl b1208 ++ []) (b1 : Int) ∧ Nq (bl b1208 ++ []) bqr1o2_1 ∧ Nq (bl b1208 ++ []) b1202 ∧ Nq (bl b1202 ++ []) (b1 : Int) ∧ Nq (bl b1202 ++ []) bqr1o2_1 ∧ Nq (bl b1202 ++ []) b1208 ∧ lpN (fun s => F_impl_NiceOk_l7 a1_0 l1200 s) n i1740 = some o1815) n1818 ⟨0, ha.sub ⟨rfl, rfl, rfl, rfl, rfl, rfl, rfl, trivial⟩, hE1226, (show InI 0 from by decide), hB1192, z1193, h1195, z1196, h1204, z1205, h1198, z1199, q1209, q1211, q1210, q1212, q1214, q1213, q1218, q1219, q1220, q1215, q1216, q1217, hn1819⟩ ?_ ?_
      · rintro m1823 a w1728 ⟨i1740, ha, hE1754, hI1741, hB1729, z1730, h1732, z1733, h1735, z1736, h1738, z1739, q1742, q1743, q1744, q1745, q1746, q1747, q1748, q1749, q1750, q1751, q1752, q1753, hF⟩
        cases m1823 with
        | zero => exact (lpN_zero hF).elim
        | succ m1823 =>
          obtain ⟨z1822, hF, hN1821⟩ := lpN_succ hF
          have hF : F_impl_NiceOk_l7 a1_0 l1200 i1740 = some z1822 := hF; unfold F_impl_NiceOk_l7 at hF
          refine wp_seq ?_; refine wp_region_lit ?_; refine op_g ha rfl (g_lss rfl rfl) ?_; clear ha a; intro a ha; refine wpList_nil ?_; replace ha := ha.sub (σ' := [(2, (.pointer (some ⟨b1, 0, none⟩))), (5, (.int .i64 (a1_0.length : Int))), (9, vqr1o2_1), (11, v1207), (123, v1201), (124, (.int .i64 (l1200.length : Int))), (125, (.int .i64 i1740)), (126, (.bool (decide (i1740 < (l1200.length : Int)))))]) ⟨rfl, rfl, rfl, rfl, rfl, rfl, rfl, rfl, trivial⟩; refine e_then ?_; refine wp_seq ?_; refine c_cond (i1740 < (l1200.length : Int)) ha rfl (decide_eq_true_iff) (fun hp1824 => ?_) (fun hp1824 => ?_)
          · replace hF := if_t hp1824 hF
            refine wp_skip ?_; refine e_then ?_; refine wp_seq ?_; refine wp_block ?_; refine wp_seq ?_; refine wp_region_lit ?_; refine op_g ha rfl (g_move rfl) ?_; clear ha a; intro a ha; obtain ⟨x1825, g1826, gx1827, hF⟩ := idx_some hF
            obtain ⟨p1828, cs1829, f1830, hf1831, hpb1832, hat1833, hr1834, hi1835⟩ := h1738.at g1826 gx1827
            obtain ⟨rfl, hI1836, rfl⟩ := hr1834
            refine op_g ha rfl (hi1835.gives sl48 rfl rfl) ?_; clear ha a; intro a ha; refine op_g ha rfl (g_load Try.isAgg3 rfl hat1833.one) ?_; clear ha a; intro a ha; (iterate 2 refine op_g ha rfl (g_assign rfl) ?_; clear ha a; intro a ha); refine wpList_nil ?_; replace ha := ha.sub (σ' := [(2, (.pointer (some ⟨b1, 0, none⟩))), (5, (.int .i64 (a1_0.length : Int))), (9, vqr1o2_1), (11, v1207), (15, (.int .i64 i1740)), (16, (.int .i64 x1825)), (123, v1201), (124, (.int .i64 (l1200.length : Int))), (125, (.int .i64 i1740))]) ⟨rfl, rfl, rfl, rfl, rfl, rfl, rfl, rfl, rfl, trivial⟩; refine e_then ?_
            refine wp_seq ?_; refine wp_region_lit ?_; refine op_g ha rfl (g_move rfl) ?_; clear ha a; intro a ha; refine op_g ha rfl (g_eql rfl rfl) ?_; clear ha a; intro a ha; (iterate 2 refine op_g ha rfl (g_move rfl) ?_; clear ha a; intro a ha); obtain ⟨hI1837, hF⟩ := ck_some hF; refine op_g ha rfl (g_sub rfl rfl hI1837) ?_; clear ha a; intro a ha; refine op_g ha rfl (g_lss rfl rfl) ?_; clear ha a; intro a ha; refine op_g ha rfl (gB_neq un4 rfl rfl) ?_; clear ha a; intro a ha; refine op_g ha rfl (g_move rfl) ?_; clear ha a; intro a ha
            by_cases hp1839 : ((decide (x1825 = 1)) != (decide (i1740 < ((a1_0.length : Int) - 1)))) = true
            · replace hF := if_t hp1839 hF
              rw [show ((decide (x1825 = 1)) != (decide (i1740 < ((a1_0.length : Int) - 1)))) = true from (Iff.rfl).2 hp1839] at ha
              (iterate 2 refine op_unwant ha rfl (yields ha rfl rfl) rfl ?_; clear ha a; intro a ha); refine op_g ha rfl (g_pick rfl rfl) ?_; clear ha a; intro a ha; refine wpList_nil ?_; replace ha := ha.sub (σ' := [(2, (.pointer (some ⟨b1, 0, none⟩))), (5, (.int .i64 (a1_0.length : Int))), (9, vqr1o2_1), (11, v1207), (123, v1201), (124, (.int .i64 (l1200.length : Int))), (125, (.int .i64 i1740)), (140, (.bool true))]) ⟨rfl, rfl, rfl, rfl, rfl, rfl, rfl, rfl, trivial⟩; refine e_then ?_; refine c_true ha rfl ?_; refine wp_seq ?_; refine wp_region_lit ?_; refine op_g ha rfl (g_assign rfl) ?_; clear ha a; intro a ha
              refine wpList_nil ?_; replace ha := ha.sub (σ' := [(4, (.bool false))]) ⟨rfl, trivial⟩; refine e_then ?_; refine wp_ret ?_; refine e_blk_ret ?_; refine e_then_ret ?_; refine e_lq_ret ?_; refine e_then_ret ?_; obtain rfl := Option.some.inj hF
              have e1840 := LK_inr hN1821; subst e1840
              have e1841 := BK_inr hK1817; subst e1841
              exact f_ret1 ha rfl rfl ⟨rfl, hE1754⟩
            replace hF := if_f hp1839 hF
            rw [show ((decide (x1825 = 1)) != (decide (i1740 < ((a1_0.length : Int) - 1)))) = false from b_false (Iff.rfl) hp1839] at ha
            refine op_want (yields ha rfl rfl) ?_; refine op_g ha rfl (g_move rfl) ?_; clear ha a; intro a ha; refine op_want (yields ha rfl rfl) ?_; refine op_g ha rfl (g_gtr rfl rfl) ?_; clear ha a; intro a ha; refine op_g ha rfl (g_pick rfl rfl) ?_; clear ha a; intro a ha; refine wpList_nil ?_; replace ha := ha.sub (σ' := [(2, (.pointer (some ⟨b1, 0, none⟩))), (5, (.int .i64 (a1_0.length : Int))), (9, vqr1o2_1), (11, v1207), (123, v1201), (124, (.int .i64 (l1200.length : Int))), (125, (.int .i64 i1740)), (138, (.int .i64 x1825)), (139, (.bool (decide (1 < x1825)))), (140, (.bool (decide (1 < x1825))))]) ⟨rfl, rfl, rfl, rfl, rfl, rfl, rfl, rfl, rfl, rfl, trivial⟩
            refine e_then ?_; refine c_cond (1 < x1825) ha rfl (decide_eq_true_iff) (fun hp1842 => ?_) (fun hp1842 => ?_)
            · replace hF := if_t hp1842 hF
              refine wp_seq ?_; refine wp_region_lit ?_; refine op_g ha rfl (g_assign rfl) ?_; clear ha a; intro a ha; refine wpList_nil ?_; replace ha := ha.sub (σ' := [(4, (.bool false))]) ⟨rfl, trivial⟩; refine e_then ?_; refine wp_ret ?_; refine e_blk_ret ?_; refine e_then_ret ?_; refine e_lq_ret ?_; refine e_then_ret ?_; obtain rfl := Option.some.inj hF
              have e1843 := LK_inr hN1821; subst e1843
              have e1844 := BK_inr hK1817; subst e1844
              exact f_ret1 ha rfl rfl ⟨rfl, hE1754⟩
            replace hF := if_f hp1842 hF; refine wp_skip ?_; refine e_blk ?_; refine e_then ?_; refine wp_region_lit ?_; obtain ⟨hI1845, hF⟩ := ck_some hF; refine op_g ha rfl (g_add rfl rfl hI1845) ?_; clear ha a; intro a ha; refine op_g ha rfl (g_move rfl) ?_; clear ha a; intro a ha; refine wpList_nil ?_; replace ha := ha.sub (σ' := [(2, (.pointer (some ⟨b1, 0, none⟩))), (5, (.int .i64 (a1_0.length : Int))), (9, vqr1o2_1), (11, v1207), (123, v1201), (124, (.int .i64 (l1200.length : Int))), (125, (.int .i64 (i1740 + 1))), (138, (.int .i64 x1825)), (139, (.bool (decide (1 < x1825))))]) ⟨rfl, rfl, rfl, rfl, rfl, rfl, rfl, rfl, rfl, trivial⟩
            refine e_lq ?_; obtain rfl := Option.some.inj hF
            exact ⟨_, Nat.lt_succ_self _, i1740 + 1, ha.sub ⟨rfl, rfl, rfl, rfl, rfl, rfl, rfl, trivial⟩, hE1754, hI1845, hB1729, z1730, h1732, z1733, h1735, z1736, h1738, z1739, q1742, q1743, q1744, q1745, q1746, q1747, q1748, q1749, q1750, q1751, q1752, q1753, hN1821⟩
          replace hF := if_f hp1824 hF; refine wp_exit ?_; refine e_then_exit ?_; refine e_lq_eq ?_; obtain rfl := Option.some.inj hF
          exact ⟨ha.sub ⟨rfl, rfl, rfl, rfl, trivial⟩, hE1754, hB1729, z1730, h1732, z1733, h1735, z1736, q1742, q1743, q1745, q1746, q1748, q1749, (LK_inr hN1821).symm⟩
      rintro a w1800 ⟨ha, hE1820, hB1801, z1802, h1804, z1805, h1807, z1808, q1809, q1810, q1811, q1812, q1813, q1814, rfl⟩
      have hF : F_impl_NiceOk_k8 a0_0 a1_0 xqr1o2_1 l1206 = some _ := hK1817; clear hK1817; unfold F_impl_NiceOk_k8 at hF
      refine e_then ?_; refine wp_seq ?_; refine wp_region_lit ?_; (iterate 2 refine op_g ha rfl (g_move rfl) ?_; clear ha a; intro a ha); obtain ⟨hI1847, hF⟩ := ck_some hF; refine op_g ha rfl (g_sub rfl rfl hI1847) ?_; clear ha a; intro a ha; obtain ⟨x1849, g1850, gx1851, hF⟩ := idx_some hF
      obtain ⟨p1852, cs1853, f1854, hf1855, hpb1856, hat1857, hr1858, hi1859⟩ := h1804.at g1850 gx1851
      obtain ⟨rfl, rfl⟩ := hr1858
      refine op_g ha rfl (hi1859.gives sl46 rfl rfl) ?_; clear ha a; intro a ha; refine op_g ha rfl (g_load Try.isAgg51 rfl hat1857.one) ?_; clear ha a; intro a ha; refine op_g ha rfl (g32_eql (m := x1849) (n := (0#32)) rfl rfl) ?_; clear ha a; intro a ha; refine op_g ha rfl (g_move rfl) ?_; clear ha a; intro a ha
      by_cases hp1860 : x1849 = (0#32)
      · replace hF := if_t hp1860 hF
        rw [show (decide (x1849 = (0#32))) = true from (decide_eq_true_iff).2 hp1860] at ha
        refine op_want (yields ha rfl rfl) ?_; refine op_g ha rfl (g_move rfl) ?_; clear ha a; intro a ha; refine op_want (yields ha rfl rfl) ?_
        obtain ⟨fp1861, hro1862, hs1863⟩ := h1807.roF
        obtain ⟨x1866, hc1867, hF⟩ := cal_some hF
        refine o_call ha rfl rfl Try.call24 (W_slices_ContainsFunc_int hro1862 (by intro _ hy1865 z1864 hz1864 r hr; exact W_impl_NiceOk_1 hz1864 hr) Try.call25 hc1867) ?_; clear ha a; rintro v1868 w1869 ⟨rfl, hx1870⟩ a ha
        replace hB1801 := hB1801.ext hx1870
        replace h1804 := h1804.ext hx1870
        replace h1807 := h1807.ext hx1870
        have hE1871 := Ext.trans hE1820 hx1870
        refine op_want (yields ha rfl rfl) ?_; refine op_g ha rfl (g_not rfl) ?_; clear ha a; intro a ha; refine op_g ha rfl (g_pick rfl rfl) ?_; clear ha a; intro a ha; refine op_g ha rfl (g_move rfl) ?_; clear ha a; intro a ha
        by_cases hp1872 : ¬ (x1866 = true)
        · replace hF := if_t hp1872 hF
          rw [show (!x1866) = true from (n_iff (Iff.rfl)).2 hp1872] at ha
          refine op_want (yields ha rfl rfl) ?_; refine op_g ha rfl (g_loadA (cs := [va0_0]) Try.isAgg31 Try.sizeOf31 rfl (by simp) hB1801.all) ?_; clear ha a; intro a ha; refine op_want (yields ha rfl rfl) ?_; obtain ⟨x1873, hc1874, hF⟩ := cal_some hF
          refine o_call ha rfl rfl Try.call27 (W_impl_netsOf (ha0_0.ext hE1871) hc1874) ?_; clear ha a; rintro v1875 w1876 ⟨b1878, h1879, z1880, hx1877⟩ a ha
          have q1882 := Nq.new hB1801.fpb z1880
          have q1883 := Nq.madeO z1880 hB1801.bi
          have q1884 := Nq.new h1804.fpb z1880
          have q1885 := Nq.madeO z1880 h1804.blt
          have q1886 := Nq.new h1807.fpb z1880
          have q1887 := Nq.madeO z1880 h1807.blt
          replace hB1801 := hB1801.ext hx1877
          replace h1804 := h1804.ext hx1877
          replace h1807 := h1807.ext hx1877
          have hE1888 := Ext.trans hE1871 hx1877
          have q1889 := Zn.upD z1880 hE1871
          refine op_want (yields ha rfl rfl) ?_; refine op_g ha rfl (g_move rfl) ?_; clear ha a; intro a ha; refine op_want (yields ha rfl rfl) ?_
          obtain ⟨fp1890, hro1891, hs1892⟩ := h1879.roF
          obtain ⟨fp1893, hro1894, hs1895⟩ := h1804.roF
          obtain ⟨x1896, hc1897, hF⟩ := cal_some hF
          refine o_call ha rfl rfl Try.call26 (W_impl_coversEdges hro1891 hro1894 hc1897) ?_; clear ha a; rintro v1898 w1899 ⟨rfl, hx1900⟩ a ha
          replace hB1801 := hB1801.ext hx1900
          replace h1804 := h1804.ext hx1900
          replace h1807 := h1807.ext hx1900
          replace h1879 := h1879.ext hx1900
          have hE1901 := Ext.trans hE1888 hx1900
          refine op_g ha rfl (g_pick rfl rfl) ?_; clear ha a; intro a ha; refine op_g ha rfl (g_assign rfl) ?_; clear ha a; intro a ha; refine wpList_nil ?_; replace ha := ha.sub (σ' := [(4, (.bool x1896))]) ⟨rfl, trivial⟩; refine e_then ?_; refine wp_ret ?_; obtain rfl := Option.some.inj hF
          exact f_ret1 ha rfl rfl ⟨rfl, hE1901⟩
        replace hF := if_f hp1872 hF
        rw [show (!x1866) = false from b_false (n_iff (Iff.rfl)) hp1872] at ha
        (iterate 4 refine op_unwant ha rfl (yields ha rfl rfl) rfl ?_; clear ha a; intro a ha); refine op_g ha rfl (g_pick rfl rfl) ?_; clear ha a; intro a ha; refine op_g ha rfl (g_assign rfl) ?_; clear ha a; intro a ha; refine wpList_nil ?_; replace ha := ha.sub (σ' := [(4, (.bool false))]) ⟨rfl, trivial⟩; refine e_then ?_; refine wp_ret ?_; obtain rfl := Option.some.inj hF
        exact f_ret1 ha rfl rfl ⟨rfl, hE1871⟩
      replace hF := if_f hp1860 hF
      rw [show (decide (x1849 = (0#32))) = false from b_false (decide_eq_true_iff) hp1860] at ha
      (iterate 3 refine op_unwant ha rfl (yields ha rfl rfl) rfl ?_; clear ha a; intro a ha); refine op_g ha rfl (g_pick rfl rfl) ?_; clear ha a; intro a ha; refine op_g ha rfl (g_move rfl) ?_; clear ha a; intro a ha; (iterate 4 refine op_unwant ha rfl (yields ha rfl rfl) rfl ?_; clear ha a; intro a ha); refine op_g ha rfl (g_pick rfl rfl) ?_; clear ha a; intro a ha; refine op_g ha rfl (g_assign rfl) ?_; clear ha a; intro a ha; refine wpList_nil ?_; replace ha := ha.sub (σ' := [(4, (.bool false))]) ⟨rfl, trivial⟩; refine e_then ?_; refine wp_ret ?_; obtain rfl := Option.some.inj hF
      exact f_ret1 ha rfl rfl ⟨rfl, hE1820⟩
    skip
    replace hB130 := hB130.ext hxqr1o4_2
    replace hB132 := hB132.ext hxqr1o4_2
    replace hqr1o4_1 := hqr1o4_1.ext hxqr1o4_2
    have hEqr1o6_1 := Ext.trans hEqr1o4_2 hxqr1o4_2
    refine o_make (z0 := (0 : Int)) Rp.int ha rfl sl48 rfl (fun w => ⟨rfl, by decide, rfl⟩) rfl gqr1o6_1 gqr1o6_1b ?_; clear ha a; intro vqr1o6_1 wqr1o6_1 hqr1o6_1 hxqr1o6_1 a ha
    obtain ⟨bqr1o6_1, hbqr1o6_1⟩ : ∃ b : Int, b = wqr1o4_2.heap.size := ⟨_, rfl⟩; rw [← hbqr1o6_1] at hqr1o6_1
    have qqr1o6_1 := zn_of hbqr1o6_1
    have qqr1o6_2 := Nq.new hB130.fpb qqr1o6_1
    have qqr1o6_3 := Nq.madeO qqr1o6_1 hB130.bi
    have qqr1o6_4 := Nq.new hB132.fpb qqr1o6_1
    have qqr1o6_5 := Nq.madeO qqr1o6_1 hB132.bi
    have qqr1o6_6 := Nq.new hqr1o4_1.fpb qqr1o6_1
    have qqr1o6_7 := Nq.madeO qqr1o6_1 hqr1o4_1.blt
    have qqr1o6_8 := Zn.upD qqr1o6_1 hEqr1o6_1
    replace hB130 := hB130.ext hxqr1o6_1
    replace hB132 := hB132.ext hxqr1o6_1
    replace hqr1o4_1 := hqr1o4_1.ext hxqr1o6_1
    have hEqr1o6_2 := Ext.trans hEqr1o6_1 hxqr1o6_1
    refine wpList_nil (e_sq ?_)
    refine ⟨fun _ => hxqr1o6_1, ?_⟩
    refine u_only 2 rfl (by kernel_rfl) ?_; intro wqr1o2_1 hxqr1o2_1
    replace hB130 := hB130.ext hxqr1o2_1
    replace hB132 := hB132.ext hxqr1o2_1
    replace hqr1o4_1 := hqr1o4_1.ext hxqr1o2_1
    replace hqr1o6_1 := hqr1o6_1.ext hxqr1o2_1
    have hEqr1o2_1 := Ext.trans hEqr1o6_2 hxqr1o2_1
    refine o_call ha rfl rfl Try.call22 (W_impl_bagMasks (ha1_2.ext hEqr1o2_1) hcqr1o2_1) ?_; clear ha a; rintro vqr1o2_1 wqr1o2_2 ⟨bqr1o2_1, hqr1o2_1, zqr1o2_1, hxqr1o2_2⟩ a ha
    have qqr1o2_1 := Nq.new hB130.fpb zqr1o2_1
    have qqr1o2_2 := Nq.madeO zqr1o2_1 hB130.bi
    have qqr1o2_3 := Nq.new hB132.fpb zqr1o2_1
    have qqr1o2_4 := Nq.madeO zqr1o2_1 hB132.bi
    have qqr1o2_5 := Nq.new hqr1o4_1.fpb zqr1o2_1
    have qqr1o2_6 := Nq.madeO zqr1o2_1 hqr1o4_1.blt
    have qqr1o2_7 := Nq.new hqr1o6_1.fpb zqr1o2_1
    have qqr1o2_8 := Nq.madeO zqr1o2_1 hqr1o6_1.blt
    replace hB130 := hB130.ext hxqr1o2_2
    replace hB132 := hB132.ext hxqr1o2_2
    replace hqr1o4_1 := hqr1o4_1.ext hxqr1o2_2
    replace hqr1o6_1 := hqr1o6_1.ext hxqr1o2_2
    have hEqr1o2_2 := Ext.trans hEqr1o2_1 hxqr1o2_2
    have qqr1o2_9 := Zn.upD zqr1o2_1 hEqr1o2_1
    refine wpList_nil (e_sq ?_)
    refine ⟨fun _ => hxqr1o2_2, ?_⟩
    refine u_g 7 rfl (by kernel_rfl) (want0 _) ha rfl (g_assign rfl) ?_; clear ha a; intro a ha; refine u_g 8 rfl (by kernel_rfl) (want0 _) ha rfl (g_assign rfl) ?_; clear ha a; intro a ha; refine u_g 9 rfl (by kernel_rfl) (want0 _) ha rfl (g_assign rfl) ?_; clear ha a; intro a ha
    refine u_done (by kernel_rfl) ?_; intro w174 hx175
    replace hB130 := hB130.ext hx175
    replace hB132 := hB132.ext hx175
    replace hqr1o4_1 := hqr1o4_1.ext hx175
    replace hqr1o6_1 := hqr1o6_1.ext hx175
    replace hqr1o2_1 := hqr1o2_1.ext hx175
    have hE176 := Ext.trans hEqr1o2_2 hx175
    replace ha := ha.sub (σ' := [(2, (.pointer (some ⟨b1, 0, none⟩))), (3, (.pointer (some ⟨b9, 0, none⟩))), (5, (.int .i64 (a1_0.length : Int))), (6, (.int .i64 (a0_0.length : Int))), (9, vqr1o2_1), (10, vqr1o4_1), (11, vqr1o6_1)]) ⟨rfl, rfl, rfl, rfl, rfl, rfl, rfl, trivial⟩; refine e_then ?_; refine wp_seq ?_; refine wp_seq ?_; refine wp_region_lit ?_; (iterate 2 refine op_g ha rfl (g_move rfl) ?_; clear ha a; intro a ha); refine wpList_nil ?_; replace ha := ha.sub (σ' := [(2, (.pointer (some ⟨b1, 0, none⟩))), (3, (.pointer (some ⟨b9, 0, none⟩))), (5, (.int .i64 (a1_0.length : Int))), (6, (.int .i64 (a0_0.length : Int))), (9, vqr1o2_1), (10, vqr1o4_1), (11, vqr1o6_1), (79, (.int .i64 (a1_0.length : Int))), (80, (.int .i64 0))]) ⟨rfl, rfl, rfl, rfl, rfl, rfl, rfl, rfl, rfl, trivial⟩
    refine e_then ?_; obtain ⟨o1221, ho1222, hK1223⟩ := bnd_some hF
    obtain ⟨n1224, hn1225⟩ := lp_some ho1222; clear ho1222
    refine c_loop (fun a w => ∃ (l1200 : (List Int)) (l1206 : (List Int)) (v1201 : Value) (b1202 : Int) (v1207 : Value) (b1208 : Int), Fr 159 [(2, (.pointer (some ⟨b1, 0, none⟩))), (5, (.int .i64 (a1_0.length : Int))), (9, vqr1o2_1), (10, v1201), (11, v1207)] a ∧ Chg [] W w ∧ Bx w b1 [va0_0] 31 ∧ Zn W (b1 : Int) ∧ Ow Rp.u32 51 true w [] bqr1o2_1 vqr1o2_1 xqr1o2_1 ∧ Zn W bqr1o2_1 ∧ Ow Rp.int 3 true w [] b1202 v1201 l1200 ∧ Zn W b1202 ∧ Ow Rp.int 3 true w [] b1208 v1207 l1206 ∧ Zn W b1208 ∧ Nq ([b1]) bqr1o2_1 ∧ Nq ([b1]) b1202 ∧ Nq ([b1]) b1208 ∧ Nq (bl bqr1o2_1 ++ []) (b1 : Int) ∧ Nq (bl bqr1o2_1 ++ []) b1202 ∧ Nq (bl bqr1o2_1 ++ []) b1208 ∧ Nq (bl b1202 ++ []) (b1 : Int) ∧ Nq (bl b1202 ++ []) bqr1o2_1 ∧ Nq (bl b1202 ++ []) b1208 ∧ Nq (bl b1208 ++ []) (b1 : Int) ∧ Nq (bl b1208 ++ []) bqr1o2_1 ∧ Nq (bl b1208 ++ []) b1202 ∧ o1221 = .inl (l1200, l1206)) (fun n a w => ∃ (l691 : (List Int)) (l697 : (List Int)) (i700 : Int) (v692 : Value) (b693 : Int) (v698 : Value) (b699 : Int), Fr 159 [(2, (.pointer (some ⟨b1, 0, none⟩))), (3, (.pointer (some ⟨b9, 0, none⟩))), (5, (.int .i64 (a1_0.length : Int))), (6, (.int .i64 (a0_0.length : Int))), (9, vqr1o2_1), (10, v692), (11, v698), (79, (.int .i64 (a1_0.length : Int))), (80, (.int .i64 i700))] a ∧ Chg [] W w ∧ InI i700 ∧ Bx w b1 [va0_0] 31 ∧ Zn W (b1 : Int) ∧ Bx w b9 [va1_0, va1_1, va1_2, va1_3] 33 ∧ Zn W (b9 : Int) ∧ Ow Rp.u32 51 true w [] bqr1o2_1 vqr1o2_1 xqr1o2_1 ∧ Zn W bqr1o2_1 ∧ Ow Rp.int 3 true w [] b693 v692 l691 ∧ Zn W b693 ∧ Ow Rp.int 3 true w [] b699 v698 l697 ∧ Zn W b699 ∧ Nq ([b1]) (b9 : Int) ∧ Nq ([b1]) bqr1o2_1 ∧ Nq ([b1]) b693 ∧ Nq ([b1]) b699 ∧ Nq ([b9]) (b1 : Int) ∧ Nq ([b9]) bqr1o2_1 ∧ Nq ([b9]) b693 ∧ Nq ([b9]) b699 ∧ Nq (bl bqr1o2_1 ++ []) (b1 : Int) ∧ Nq (bl bqr1o2_1 ++ []) (b9 : Int) ∧ Nq (bl bqr1o2_1 ++ []) b693 ∧ Nq (bl bqr1o2_1 ++ []) b699 ∧ Nq (bl b693 ++ []) (b1 : Int) ∧ Nq (bl b693 ++ []) (b9 : Int) ∧ Nq (bl b693 ++ []) bqr1o2_1 ∧ Nq (bl b693 ++ []) b699 ∧ Nq (bl b699 ++ []) (b1 : Int) ∧ Nq (bl b699 ++ []) (b9 : Int) ∧ Nq (bl b699 ++ []) bqr1o2_1 ∧ Nq (bl b699 ++ []) b693 ∧ lpN (fun s => F_impl_NiceOk_l3 a0_0 a1_0 a1_1 a1_2 a1_3 xqr1o2_1 s.1 s.2.1 s.2.2) n (l691, l697, i700) = some o1221) n1224 ⟨(List.replicate ((a1_0.length : Int) : Int).toNat (0 : Int)), (List.replicate ((a0_0.length : Int) : Int).toNat (0 : Int)), 0, vqr1o4_1, bqr1o4_1, vqr1o6_1, bqr1o6_1, ha.sub ⟨rfl, rfl, rfl, rfl, rfl, rfl, rfl, rfl, rfl, trivial⟩, hE176, (show InI 0 from by decide), hB130, z131, hB132, z133, hqr1o2_1, qqr1o2_9, hqr1o4_1, qqr1o4_6, hqr1o6_1, qqr1o6_8, q134, qqr1o2_1, qqr1o4_2, qqr1o6_2, q135, qqr1o2_3, qqr1o4_4, qqr1o6_4, qqr1o2_2, qqr1o2_4, qqr1o2_6, qqr1o2_8, qqr1o4_3, qqr1o4_5, qqr1o2_5, qqr1o6_6, qqr1o6_3, qqr1o6_5, qqr1o2_7, qqr1o6_7, hn1225⟩ ?_ ?_
    · rintro m1229 a w680 ⟨l691, l697, i700, v692, b693, v698, b699, ha, hE722, hI701, hB681, z682, hB683, z684, h686, z687, h689, z690, h695, z696, q702, q703, q704, q705, q706, q707, q708, q709, q710, q711, q712, q713, q714, q715, q716, q717, q718, q719, q720, q721, hF⟩
      cases m1229 with
      | zero => exact (lpN_zero hF).elim
      | succ m1229 =>
        obtain ⟨z1228, hF, hN1227⟩ := lpN_succ hF
        have hF : F_impl_NiceOk_l3 a0_0 a1_0 a1_1 a1_2 a1_3 xqr1o2_1 l691 l697 i700 = some z1228 := hF; unfold F_impl_NiceOk_l3 at hF
        refine wp_seq ?_; refine wp_region_lit ?_; refine op_g ha rfl (g_lss rfl rfl) ?_; clear ha a; intro a ha; refine wpList_nil ?_; replace ha := ha.sub (σ' := [(2, (.pointer (some ⟨b1, 0, none⟩))), (3, (.pointer (some ⟨b9, 0, none⟩))), (5, (.int .i64 (a1_0.length : Int))), (6, (.int .i64 (a0_0.length : Int))), (9, vqr1o2_1), (10, v692), (11, v698), (79, (.int .i64 (a1_0.length : Int))), (80, (.int .i64 i700)), (81, (.bool (decide (i700 < (a1_0.length : Int)))))]) ⟨rfl, rfl, rfl, rfl, rfl, rfl, rfl, rfl, rfl, rfl, trivial⟩; refine e_then ?_; refine wp_seq ?_; refine c_cond (i700 < (a1_0.length : Int)) ha rfl (decide_eq_true_iff) (fun hp1230 => ?_) (fun hp1230 => ?_)
        · replace hF := if_t hp1230 hF
          refine wp_skip ?_; refine e_then ?_; refine wp_seq ?_; refine wp_block ?_; refine wp_seq ?_; refine wp_region_lit ?_; refine op_g ha rfl (g_move rfl) ?_; clear ha a; intro a ha; refine op_g ha rfl (g_assign rfl) ?_; clear ha a; intro a ha; refine wpList_nil ?_; replace ha := ha.sub (σ' := [(2, (.pointer (some ⟨b1, 0, none⟩))), (3, (.pointer (some ⟨b9, 0, none⟩))), (5, (.int .i64 (a1_0.length : Int))), (6, (.int .i64 (a0_0.length : Int))), (9, vqr1o2_1), (10, v692), (11, v698), (12, (.int .i64 i700)), (79, (.int .i64 (a1_0.length : Int))), (80, (.int .i64 i700))]) ⟨rfl, rfl, rfl, rfl, rfl, rfl, rfl, rfl, rfl, rfl, trivial⟩
          refine e_then ?_; refine wp_seq ?_; refine wp_seq ?_; refine wp_region_lit ?_; refine op_g ha rfl (g_loadA (cs := [va1_0, va1_1, va1_2, va1_3]) Try.isAgg33 Try.sizeOf33 rfl (by simp) hB683.all) ?_; clear ha a; intro a ha; (iterate 3 refine op_g ha rfl (g_move rfl) ?_; clear ha a; intro a ha)
          obtain ⟨fp1231, hro1232, hs1233⟩ := h686.roF
          obtain ⟨x1234, hc1235, hF⟩ := cal_some hF
          refine o_call ha rfl rfl Try.call23 (W_impl_goodNode (ha1_0.ext hE722) (ha1_1.ext hE722) (ha1_2.ext hE722) (ha1_3.ext hE722) hI701 hro1232 ha0_0.len hc1235) ?_; clear ha a; rintro v1236 w1237 ⟨rfl, hx1238⟩ a ha
          replace hB681 := hB681.ext hx1238
          replace hB683 := hB683.ext hx1238
          replace h686 := h686.ext hx1238
          replace h689 := h689.ext hx1238
          replace h695 := h695.ext hx1238
          have hE1239 := Ext.trans hE722 hx1238
          refine op_g ha rfl (g_not rfl) ?_; clear ha a; intro a ha; refine wpList_nil ?_; replace ha := ha.sub (σ' := [(2, (.pointer (some ⟨b1, 0, none⟩))), (3, (.pointer (some ⟨b9, 0, none⟩))), (5, (.int .i64 (a1_0.length : Int))), (6, (.int .i64 (a0_0.length : Int))), (9, vqr1o2_1), (10, v692), (11, v698), (12, (.int .i64 i700)), (79, (.int .i64 (a1_0.length : Int))), (80, (.int .i64 i700)), (88, (.bool (!x1234)))]) ⟨rfl, rfl, rfl, rfl, rfl, rfl, rfl, rfl, rfl, rfl, rfl, trivial⟩; refine e_then ?_; refine c_cond (¬ (x1234 = true)) ha rfl (n_iff (Iff.rfl)) (fun hp1240 => ?_) (fun hp1240 => ?_)
          · replace hF := if_t hp1240 hF
            refine wp_seq ?_; refine wp_region_lit ?_; refine op_g ha rfl (g_assign rfl) ?_; clear ha a; intro a ha; refine wpList_nil ?_; replace ha := ha.sub (σ' := [(4, (.bool false))]) ⟨rfl, trivial⟩; refine e_then ?_; refine wp_ret ?_; refine e_then_ret ?_; refine e_blk_ret ?_; refine e_then_ret ?_; refine e_lq_ret ?_; refine e_then_ret ?_; obtain rfl := Option.some.inj hF
            have e1241 := LK_inr hN1227; subst e1241
            have e1242 := BK_inr hK1223; subst e1242
            exact f_ret1 ha rfl rfl ⟨rfl, hE1239⟩
          replace hF := if_f hp1240 hF; refine wp_skip ?_; refine e_then ?_; refine wp_seq ?_; refine wp_seq ?_; refine wp_region_lit ?_; refine op_g ha rfl (g_field0 st33_3 rfl) ?_; clear ha a; intro a ha; refine op_g ha rfl (g_load Try.isAgg22 rfl (hB683.cell rfl)) ?_; clear ha a; intro a ha; refine op_g ha rfl (g_move rfl) ?_; clear ha a; intro a ha; obtain ⟨x1243, g1244, gx1245, hF⟩ := idx_some hF
          obtain ⟨p1246, cs1247, f1248, hf1249, hpb1250, hat1251, hr1252, hi1253⟩ := ha1_3.at g1244 gx1245
          obtain ⟨v1254, rfl, h1255⟩ := hr1252
          have h1255 : Ro Rp.int W f1248 v1254 x1243 := h1255
          refine op_g ha rfl (hi1253.gives sl22 rfl rfl) ?_; clear ha a; intro a ha; refine op_g ha rfl (g_load0 hE1239 Try.isAgg25 rfl hat1251.one) ?_; clear ha a; intro a ha; refine op_g ha rfl (g_lenR sl25.und h1255 rfl) ?_; clear ha a; intro a ha; refine op_g ha rfl (g_move rfl) ?_; clear ha a; intro a ha; refine wpList_nil ?_; replace ha := ha.sub (σ' := [(2, (.pointer (some ⟨b1, 0, none⟩))), (3, (.pointer (some ⟨b9, 0, none⟩))), (5, (.int .i64 (a1_0.length : Int))), (6, (.int .i64 (a0_0.length : Int))), (9, vqr1o2_1), (10, v692), (11, v698), (12, (.int .i64 i700)), (79, (.int .i64 (a1_0.length : Int))), (80, (.int .i64 i700)), (93, v1254), (94, (.int .i64 (x1243.length : Int))), (95, (.int .i64 0))]) ⟨rfl, rfl, rfl, rfl, rfl, rfl, rfl, rfl, rfl, rfl, rfl, rfl, rfl, trivial⟩
          refine e_then ?_; obtain ⟨o1541, ho1542, hK1543⟩ := bnd_some hF
          obtain ⟨n1544, hn1545⟩ := lp_some ho1542; clear ho1542
          refine c_loop (fun a w => ∃ (l1515 : (List Int)) (v1516 : Value) (b1517 : Int), Fr 159 [(2, (.pointer (some ⟨b1, 0, none⟩))), (3, (.pointer (some ⟨b9, 0, none⟩))), (5, (.int .i64 (a1_0.length : Int))), (6, (.int .i64 (a0_0.length : Int))), (9, vqr1o2_1), (10, v1516), (11, v698), (12, (.int .i64 i700)), (79, (.int .i64 (a1_0.length : Int))), (80, (.int .i64 i700))] a ∧ Chg [] W w ∧ Bx w b1 [va0_0] 31 ∧ Zn W (b1 : Int) ∧ Bx w b9 [va1_0, va1_1, va1_2, va1_3] 33 ∧ Zn W (b9 : Int) ∧ Ow Rp.u32 51 true w [] bqr1o2_1 vqr1o2_1 xqr1o2_1 ∧ Zn W bqr1o2_1 ∧ Ow Rp.int 3 true w [] b1517 v1516 l1515 ∧ Zn W b1517 ∧ Ow Rp.int 3 true w [] b699 v698 l697 ∧ Zn W b699 ∧ Nq ([b1]) (b9 : Int) ∧ Nq ([b1]) bqr1o2_1 ∧ Nq ([b1]) b1517 ∧ Nq ([b1]) b699 ∧ Nq ([b9]) (b1 : Int) ∧ Nq ([b9]) bqr1o2_1 ∧ Nq ([b9]) b1517 ∧ Nq ([b9]) b699 ∧ Nq (bl bqr1o2_1 ++ []) (b1 : Int) ∧ Nq (bl bqr1o2_1 ++ []) (b9 : Int) ∧ Nq (bl bqr1o2_1 ++ []) b1517 ∧ Nq (bl bqr1o2_1 ++ []) b699 ∧ Nq (bl b1517 ++ []) (b1 : Int) ∧ Nq (bl b1517 ++ []) (b9 : Int) ∧ Nq (bl b1517 ++ []) bqr1o2_1 ∧ Nq (bl b1517 ++ []) b699 ∧ Nq (bl b699 ++ []) (b1 : Int) ∧ Nq (bl b699 ++ []) (b9 : Int) ∧ Nq (bl b699 ++ []) bqr1o2_1 ∧ Nq (bl b699 ++ []) b1517 ∧ o1541 = .inl l1515) (fun n a w => ∃ (l1389 : (List Int)) (i1395 : Int) (v1390 : Value) (b1391 : Int), Fr 159 [(2, (.pointer (some ⟨b1, 0, none⟩))), (3, (.pointer (some ⟨b9, 0, none⟩))), (5, (.int .i64 (a1_0.length : Int))), (6, (.int .i64 (a0_0.length : Int))), (9, vqr1o2_1), (10, v1390), (11, v698), (12, (.int .i64 i700)), (79, (.int .i64 (a1_0.length : Int))), (80, (.int .i64 i700)), (93, v1254), (94, (.int .i64 (x1243.length : Int))), (95, (.int .i64 i1395))] a ∧ Chg [] W w ∧ InI i1395 ∧ Bx w b1 [va0_0] 31 ∧ Zn W (b1 : Int) ∧ Bx w b9 [va1_0, va1_1, va1_2, va1_3] 33 ∧ Zn W (b9 : Int) ∧ Ow Rp.u32 51 true w [] bqr1o2_1 vqr1o2_1 xqr1o2_1 ∧ Zn W bqr1o2_1 ∧ Ow Rp.int 3 true w [] b1391 v1390 l1389 ∧ Zn W b1391 ∧ Ow Rp.int 3 true w [] b699 v698 l697 ∧ Zn W b699 ∧ Nq ([b1]) (b9 : Int) ∧ Nq ([b1]) bqr1o2_1 ∧ Nq ([b1]) b1391 ∧ Nq ([b1]) b699 ∧ Nq ([b9]) (b1 : Int) ∧ Nq ([b9]) bqr1o2_1 ∧ Nq ([b9]) b1391 ∧ Nq ([b9]) b699 ∧ Nq (bl bqr1o2_1 ++ []) (b1 : Int) ∧ Nq (bl bqr1o2_1 ++ []) (b9 : Int) ∧ Nq (bl bqr1o2_1 ++ []) b1391 ∧ Nq (bl bqr1o2_1 ++ []) b699 ∧ Nq (bl b1391 ++ []) (b1 : Int) ∧ Nq (bl b1391 ++ []) (b9 : Int) ∧ Nq (bl b1391 ++ []) bqr1o2_1 ∧ Nq (bl b1391 ++ []) b699 ∧ Nq (bl b699 ++ []) (b1 : Int) ∧ Nq (bl b699 ++ []) (b9 : Int) ∧ Nq (bl b699 ++ []) bqr1o2_1 ∧ Nq (bl b699 ++ []) b1391 ∧ lpN (fun s => F_impl_NiceOk_l4 x1243 s.1 s.2) n (l1389, i1395) = some o1541) n1544 ⟨l691, 0, v692, b693, ha.sub ⟨rfl, rfl, rfl, rfl, rfl, rfl, rfl, rfl, rfl, rfl, rfl, rfl, rfl, trivial⟩, hE1239, (show InI 0 from by decide), hB681, z682, hB683, z684, h686, z687, h689, z690, h695, z696, q702, q703, q704, q705, q706, q707, q708, q709, q710, q711, q712, q713, q714, q715, q716, q717, q718, q719, q720, q721, hn1545⟩ ?_ ?_
          · rintro m1549 a w1378 ⟨l1389, i1395, v1390, b1391, ha, hE1417, hI1396, hB1379, z1380, hB1381, z1382, h1384, z1385, h1387, z1388, h1393, z1394, q1397, q1398, q1399, q1400, q1401, q1402, q1403, q1404, q1405, q1406, q1407, q1408, q1409, q1410, q1411, q1412, q1413, q1414, q1415, q1416, hF⟩
            cases m1549 with
            | zero => exact (lpN_zero hF).elim
            | succ m1549 =>
              obtain ⟨z1548, hF, hN1547⟩ := lpN_succ hF
              have hF : F_impl_NiceOk_l4 x1243 l1389 i1395 = some z1548 := hF; unfold F_impl_NiceOk_l4 at hF
              refine wp_seq ?_; refine wp_region_lit ?_; refine op_g ha rfl (g_lss rfl rfl) ?_; clear ha a; intro a ha; refine wpList_nil ?_; replace ha := ha.sub (σ' := [(2, (.pointer (some ⟨b1, 0, none⟩))), (3, (.pointer (some ⟨b9, 0, none⟩))), (5, (.int .i64 (a1_0.length : Int))), (6, (.int .i64 (a0_0.length : Int))), (9, vqr1o2_1), (10, v1390), (11, v698), (12, (.int .i64 i700)), (79, (.int .i64 (a1_0.length : Int))), (80, (.int .i64 i700)), (93, v1254), (94, (.int .i64 (x1243.length : Int))), (95, (.int .i64 i1395)), (96, (.bool (decide (i1395 < (x1243.length : Int)))))]) ⟨rfl, rfl, rfl, rfl, rfl, rfl, rfl, rfl, rfl, rfl, rfl, rfl, rfl, rfl, trivial⟩
              refine e_then ?_; refine wp_seq ?_; refine c_cond (i1395 < (x1243.length : Int)) ha rfl (decide_eq_true_iff) (fun hp1550 => ?_) (fun hp1550 => ?_)
              · replace hF := if_t hp1550 hF
                refine wp_skip ?_; refine e_then ?_; refine wp_seq ?_; refine wp_block ?_; refine wp_seq ?_; refine wp_region_lit ?_; obtain ⟨x1551, g1552, gx1553, hF⟩ := idx_some hF
                obtain ⟨p1554, cs1555, f1556, hf1557, hpb1558, hat1559, hr1560, hi1561⟩ := h1255.at g1552 gx1553
                obtain ⟨rfl, hI1562, rfl⟩ := hr1560
                refine op_g ha rfl (hi1561.gives sl25 rfl rfl) ?_; clear ha a; intro a ha; refine op_g ha rfl (g_load0 hE1417 Try.isAgg2 rfl hat1559.one) ?_; clear ha a; intro a ha; refine op_g ha rfl (g_assign rfl) ?_; clear ha a; intro a ha; refine wpList_nil ?_; replace ha := ha.sub (σ' := [(2, (.pointer (some ⟨b1, 0, none⟩))), (3, (.pointer (some ⟨b9, 0, none⟩))), (5, (.int .i64 (a1_0.length : Int))), (6, (.int .i64 (a0_0.length : Int))), (9, vqr1o2_1), (10, v1390), (11, v698), (12, (.int .i64 i700)), (14, (.int .i64 x1551)), (79, (.int .i64 (a1_0.length : Int))), (80, (.int .i64 i700)), (93, v1254), (94, (.int .i64 (x1243.length : Int))), (95, (.int .i64 i1395))]) ⟨rfl, rfl, rfl, rfl, rfl, rfl, rfl, rfl, rfl, rfl, rfl, rfl, rfl, rfl, trivial⟩
                refine e_then ?_; refine wp_region_lit ?_; (iterate 2 refine op_g ha rfl (g_move rfl) ?_; clear ha a; intro a ha); obtain ⟨x1563, g1564, gx1565, hF⟩ := idx_some hF
                obtain ⟨p1566, cs1567, f1568, hf1569, hpb1570, hat1571, hr1572, hi1573⟩ := h1387.at g1564 gx1565
                obtain ⟨rfl, hI1574, rfl⟩ := hr1572
                refine op_g ha rfl (hi1573.gives sl48 rfl rfl) ?_; clear ha a; intro a ha; refine op_g ha rfl (g_load Try.isAgg3 rfl hat1571.one) ?_; clear ha a; intro a ha; obtain ⟨hI1575, hF⟩ := ck_some hF; refine op_g ha rfl (g_add rfl rfl hI1575) ?_; clear ha a; intro a ha; obtain ⟨x1577, g1578, gx1579, hF⟩ := idx_some hF
                obtain ⟨p1580, cs1581, f1582, hf1583, hpb1584, hat1585, hr1586, hi1587⟩ := h1387.at g1578 gx1579
                obtain ⟨rfl, hI1588, rfl⟩ := hr1586
                refine op_g ha rfl (hi1587.gives sl48 rfl rfl) ?_; clear ha a; intro a ha
                refine o_storeE (f := []) (q := x1563 + 1) ha Try.sizeOf3 rfl rfl rfl h1387 hi1587 ⟨rfl, hI1575, rfl⟩ (Nq.nil _) ?_; intro w1589 fs1590 h1591 hc1592 hs1593
                obtain rfl := Subst.nil hs1593
                replace hB1379 := hB1379.nq hc1592 q1399
                replace hB1381 := hB1381.nq hc1592 q1403
                replace h1384 := h1384.nq hc1592 q1407
                replace h1393 := h1393.nq hc1592 q1416
                have hE1594 := Ext.then hE1417 hc1592 (Zn.bl z1388)
                refine wpList_nil ?_; replace ha := ha.sub (σ' := [(2, (.pointer (some ⟨b1, 0, none⟩))), (3, (.pointer (some ⟨b9, 0, none⟩))), (5, (.int .i64 (a1_0.length : Int))), (6, (.int .i64 (a0_0.length : Int))), (9, vqr1o2_1), (10, v1390), (11, v698), (12, (.int .i64 i700)), (79, (.int .i64 (a1_0.length : Int))), (80, (.int .i64 i700)), (93, v1254), (94, (.int .i64 (x1243.length : Int))), (95, (.int .i64 i1395))]) ⟨rfl, rfl, rfl, rfl, rfl, rfl, rfl, rfl, rfl, rfl, rfl, rfl, rfl, trivial⟩; refine e_blk ?_; refine e_then ?_; refine wp_region_lit ?_; obtain ⟨hI1595, hF⟩ := ck_some hF; refine op_g ha rfl (g_add rfl rfl hI1595) ?_; clear ha a; intro a ha
                refine op_g ha rfl (g_move rfl) ?_; clear ha a; intro a ha; refine wpList_nil ?_; replace ha := ha.sub (σ' := [(2, (.pointer (some ⟨b1, 0, none⟩))), (3, (.pointer (some ⟨b9, 0, none⟩))), (5, (.int .i64 (a1_0.length : Int))), (6, (.int .i64 (a0_0.length : Int))), (9, vqr1o2_1), (10, v1390), (11, v698), (12, (.int .i64 i700)), (79, (.int .i64 (a1_0.length : Int))), (80, (.int .i64 i700)), (93, v1254), (94, (.int .i64 (x1243.length : Int))), (95, (.int .i64 (i1395 + 1)))]) ⟨rfl, rfl, rfl, rfl, rfl, rfl, rfl, rfl, rfl, rfl, rfl, rfl, rfl, trivial⟩; refine e_lq ?_; obtain rfl := Option.some.inj hF
                exact ⟨_, Nat.lt_succ_self _, (l1389.set ((x1551 : Int).toNat) (x1563 + 1)), i1395 + 1, v1390, b1391, ha.sub ⟨rfl, rfl, rfl, rfl, rfl, rfl, rfl, rfl, rfl, rfl, rfl, rfl, rfl, trivial⟩, hE1594, hI1595, hB1379, z1380, hB1381, z1382, h1384, z1385, h1591, z1388, h1393, z1394, q1397, q1398, q1399, q1400, q1401, q1402, q1403, q1404, q1405, q1406, q1407, q1408, q1409, q1410, q1411, q1412, q1413, q1414, q1415, q1416, hN1547⟩
              replace hF := if_f hp1550 hF; refine wp_exit ?_; refine e_then_exit ?_; refine e_lq_eq ?_; obtain rfl := Option.some.inj hF
              exact ⟨l1389, v1390, b1391, ha.sub ⟨rfl, rfl, rfl, rfl, rfl, rfl, rfl, rfl, rfl, rfl, trivial⟩, hE1417, hB1379, z1380, hB1381, z1382, h1384, z1385, h1387, z1388, h1393, z1394, q1397, q1398, q1399, q1400, q1401, q1402, q1403, q1404, q1405, q1406, q1407, q1408, q1409, q1410, q1411, q1412, q1413, q1414, q1415, q1416, (LK_inr hN1547).symm⟩
          rintro a w1504 ⟨l1515, v1516, b1517, ha, hE1546, hB1505, z1506, hB1507, z1508, h1510, z1511, h1513, z1514, h1519, z1520, q1521, q1522, q1523, q1524, q1525, q1526, q1527, q1528, q1529, q1530, q1531, q1532, q1533, q1534, q1535, q1536, q1537, q1538, q1539, q1540, rfl⟩
          have hF : F_impl_NiceOk_k5 a1_0 a1_1 l697 i700 l1515 = some _ := hK1543; clear hK1543; unfold F_impl_NiceOk_k5 at hF
          refine e_then ?_; refine wp_seq ?_; refine wp_region_lit ?_; refine op_g ha rfl (g_field0 st33_0 rfl) ?_; clear ha a; intro a ha; refine op_g ha rfl (g_load Try.isAgg25 rfl (hB1507.cell rfl)) ?_; clear ha a; intro a ha; refine op_g ha rfl (g_move rfl) ?_; clear ha a; intro a ha; obtain ⟨x1597, g1598, gx1599, hF⟩ := idx_some hF
          obtain ⟨p1600, cs1601, f1602, hf1603, hpb1604, hat1605, hr1606, hi1607⟩ := ha1_0.at g1598 gx1599
          obtain ⟨rfl, hI1608, rfl⟩ := hr1606
          refine op_g ha rfl (hi1607.gives sl25 rfl rfl) ?_; clear ha a; intro a ha; refine op_g ha rfl (g_load0 hE1546 Try.isAgg2 rfl hat1605.one) ?_; clear ha a; intro a ha; refine op_g ha rfl (g_eql rfl rfl) ?_; clear ha a; intro a ha; refine wpList_nil ?_; replace ha := ha.sub (σ' := [(2, (.pointer (some ⟨b1, 0, none⟩))), (3, (.pointer (some ⟨b9, 0, none⟩))), (5, (.int .i64 (a1_0.length : Int))), (6, (.int .i64 (a0_0.length : Int))), (9, vqr1o2_1), (10, v1516), (11, v698), (12, (.int .i64 i700)), (79, (.int .i64 (a1_0.length : Int))), (80, (.int .i64 i700)), (111, (.bool (decide (x1597 = 3))))]) ⟨rfl, rfl, rfl, rfl, rfl, rfl, rfl, rfl, rfl, rfl, rfl, trivial⟩
          refine e_then ?_; refine c_cond (x1597 = 3) ha rfl (decide_eq_true_iff) (fun hp1609 => ?_) (fun hp1609 => ?_)
          · replace hF := if_t hp1609 hF
            refine wp_region_lit ?_; refine op_g ha rfl (g_move rfl) ?_; clear ha a; intro a ha; refine op_g ha rfl (g_field0 st33_1 rfl) ?_; clear ha a; intro a ha; refine op_g ha rfl (g_load Try.isAgg25 rfl (hB1507.cell rfl)) ?_; clear ha a; intro a ha; refine op_g ha rfl (g_move rfl) ?_; clear ha a; intro a ha; obtain ⟨x1610, g1611, gx1612, hF⟩ := idx_some hF
            obtain ⟨p1613, cs1614, f1615, hf1616, hpb1617, hat1618, hr1619, hi1620⟩ := ha1_1.at g1611 gx1612
            obtain ⟨rfl, hI1621, rfl⟩ := hr1619
            refine op_g ha rfl (hi1620.gives sl25 rfl rfl) ?_; clear ha a; intro a ha; refine op_g ha rfl (g_load0 hE1546 Try.isAgg2 rfl hat1618.one) ?_; clear ha a; intro a ha; obtain ⟨x1622, g1623, gx1624, hF⟩ := idx_some hF
            obtain ⟨p1625, cs1626, f1627, hf1628, hpb1629, hat1630, hr1631, hi1632⟩ := h1519.at g1623 gx1624
            obtain ⟨rfl, hI1633, rfl⟩ := hr1631
            refine op_g ha rfl (hi1632.gives sl48 rfl rfl) ?_; clear ha a; intro a ha; refine op_g ha rfl (g_load Try.isAgg3 rfl hat1630.one) ?_; clear ha a; intro a ha; obtain ⟨hI1634, hF⟩ := ck_some hF; refine op_g ha rfl (g_add rfl rfl hI1634) ?_; clear ha a; intro a ha; obtain ⟨x1636, g1637, gx1638, hF⟩ := idx_some hF
            obtain ⟨p1639, cs1640, f1641, hf1642, hpb1643, hat1644, hr1645, hi1646⟩ := h1519.at g1637 gx1638
            obtain ⟨rfl, hI1647, rfl⟩ := hr1645
            refine op_g ha rfl (hi1646.gives sl48 rfl rfl) ?_; clear ha a; intro a ha
            refine o_storeE (f := []) (q := x1622 + 1) ha Try.sizeOf3 rfl rfl rfl h1519 hi1646 ⟨rfl, hI1634, rfl⟩ (Nq.nil _) ?_; intro w1648 fs1649 h1650 hc1651 hs1652
            obtain rfl := Subst.nil hs1652
            replace hB1505 := hB1505.nq hc1651 q1524
            replace hB1507 := hB1507.nq hc1651 q1528
            replace h1510 := h1510.nq hc1651 q1532
            replace h1513 := h1513.nq hc1651 q1536
            have hE1653 := Ext.then hE1546 hc1651 (Zn.bl z1520)
            refine wpList_nil ?_; replace ha := ha.sub (σ' := [(2, (.pointer (some ⟨b1, 0, none⟩))), (3, (.pointer (some ⟨b9, 0, none⟩))), (5, (.int .i64 (a1_0.length : Int))), (6, (.int .i64 (a0_0.length : Int))), (9, vqr1o2_1), (10, v1516), (11, v698), (79, (.int .i64 (a1_0.length : Int))), (80, (.int .i64 i700))]) ⟨rfl, rfl, rfl, rfl, rfl, rfl, rfl, rfl, rfl, trivial⟩; refine e_blk ?_; refine e_then ?_; refine wp_region_lit ?_; obtain ⟨hI1654, hF⟩ := ck_some hF; refine op_g ha rfl (g_add rfl rfl hI1654) ?_; clear ha a; intro a ha; refine op_g ha rfl (g_move rfl) ?_; clear ha a; intro a ha; refine wpList_nil ?_
            replace ha := ha.sub (σ' := [(2, (.pointer (some ⟨b1, 0, none⟩))), (3, (.pointer (some ⟨b9, 0, none⟩))), (5, (.int .i64 (a1_0.length : Int))), (6, (.int .i64 (a0_0.length : Int))), (9, vqr1o2_1), (10, v1516), (11, v698), (79, (.int .i64 (a1_0.length : Int))), (80, (.int .i64 (i700 + 1)))]) ⟨rfl, rfl, rfl, rfl, rfl, rfl, rfl, rfl, rfl, trivial⟩; refine e_lq ?_; obtain rfl := Option.some.inj hF
            exact ⟨_, Nat.lt_succ_self _, l1515, (l697.set ((x1610 : Int).toNat) (x1622 + 1)), i700 + 1, v1516, b1517, v698, b699, ha.sub ⟨rfl, rfl, rfl, rfl, rfl, rfl, rfl, rfl, rfl, trivial⟩, hE1653, hI1654, hB1505, z1506, hB1507, z1508, h1510, z1511, h1513, z1514, h1650, z1520, q1521, q1522, q1523, q1524, q1525, q1526, q1527, q1528, q1529, q1530, q1531, q1532, q1533, q1534, q1535, q1536, q1537, q1538, q1539, q1540, hN1227⟩
          replace hF := if_f hp1609 hF; refine wp_skip ?_; refine e_blk ?_; refine e_then ?_; refine wp_region_lit ?_; obtain ⟨hI1656, hF⟩ := ck_some hF; refine op_g ha rfl (g_add rfl rfl hI1656) ?_; clear ha a; intro a ha; refine op_g ha rfl (g_move rfl) ?_; clear ha a; intro a ha; refine wpList_nil ?_; replace ha := ha.sub (σ' := [(2, (.pointer (some ⟨b1, 0, none⟩))), (3, (.pointer (some ⟨b9, 0, none⟩))), (5, (.int .i64 (a1_0.length : Int))), (6, (.int .i64 (a0_0.length : Int))), (9, vqr1o2_1), (10, v1516), (11, v698), (79, (.int .i64 (a1_0.length : Int))), (80, (.int .i64 (i700 + 1)))]) ⟨rfl, rfl, rfl, rfl, rfl, rfl, rfl, rfl, rfl, trivial⟩
          refine e_lq ?_; obtain rfl := Option.some.inj hF
          exact ⟨_, Nat.lt_succ_self _, l1515, l697, i700 + 1, v1516, b1517, v698, b699, ha.sub ⟨rfl, rfl, rfl, rfl, rfl, rfl, rfl, rfl, rfl, trivial⟩, hE1546, hI1656, hB1505, z1506, hB1507, z1508, h1510, z1511, h1513, z1514, h1519, z1520, q1521, q1522, q1523, q1524, q1525, q1526, q1527, q1528, q1529, q1530, q1531, q1532, q1533, q1534, q1535, q1536, q1537, q1538, q1539, q1540, hN1227⟩
        replace hF := if_f hp1230 hF; refine wp_exit ?_; refine e_then_exit ?_; refine e_lq_eq ?_; obtain rfl := Option.some.inj hF
        exact ⟨l691, l697, v692, b693, v698, b699, ha.sub ⟨rfl, rfl, rfl, rfl, rfl, trivial⟩, hE722, hB681, z682, h686, z687, h689, z690, h695, z696, q703, q704, q705, q710, q712, q713, q714, q716, q717, q718, q720, q721, (LK_inr hN1227).symm⟩
    rintro a w1191 ⟨l1200, l1206, v1201, b1202, v1207, b1208, ha, hE1226, hB1192, z1193, h1195, z1196, h1198, z1199, h1204, z1205, q1209, q1210, q1211, q1212, q1213, q1214, q1215, q1216, q1217, q1218, q1219, q1220, rfl⟩
    have hF : F_impl_NiceOk_k6 a0_0 a1_0 xqr1o2_1 l1200 l1206 = some _ := hK1223; clear hK1223; unfold F_impl_NiceOk_k6 at hF
    refine e_then ?_; refine wp_seq ?_; refine wp_seq ?_; refine wp_region_lit ?_; refine op_g ha rfl (g_move rfl) ?_; clear ha a; intro a ha; refine op_g ha rfl (g_lenO sl48.und h1198 rfl) ?_; clear ha a; intro a ha; refine op_g ha rfl (g_move rfl) ?_; clear ha a; intro a ha; refine wpList_nil ?_; replace ha := ha.sub (σ' := [(2, (.pointer (some ⟨b1, 0, none⟩))), (5, (.int .i64 (a1_0.length : Int))), (9, vqr1o2_1), (11, v1207), (123, v1201), (124, (.int .i64 (l1200.length : Int))), (125, (.int .i64 0))]) ⟨rfl, rfl, rfl, rfl, rfl, rfl, rfl, trivial⟩; refine e_then ?_; obtain ⟨o1815, ho1816, hK1817⟩ := bnd_some hF
    obtain ⟨n1818, hn1819⟩ := lp_some ho1816; clear ho1816
    refine c_loop (fun a w => Fr 159 [(2, (.pointer (some ⟨b1, 0, none⟩))), (5, (.int .i64 (a1_0.length : Int))), (9, vqr1o2_1), (11, v1207)] a ∧ Chg [] W w ∧ Bx w b1 [va0_0] 31 ∧ Zn W (b1 : Int) ∧ Ow Rp.u32 51 true w [] bqr1o2_1 vqr1o2_1 xqr1o2_1 ∧ Zn W bqr1o2_1 ∧ Ow Rp.int 3 true w [] b1208 v1207 l1206 ∧ Zn W b1208 ∧ Nq ([b1]) bqr1o2_1 ∧ Nq ([b1]) b1208 ∧ Nq (bl bqr1o2_1 ++ []) (b1 : Int) ∧ Nq (bl bqr1o2_1 ++ []) b1208 ∧ Nq (bl b1208 ++ []) (b1 : Int) ∧ Nq (bl b1208 ++ []) bqr1o2_1 ∧ o1815 = .inl ()) (fun n a w => ∃ (i1740 : Int), Fr 159 [(2, (.pointer (some ⟨b1, 0, none⟩))), (5, (.int .i64 (a1_0.length : Int))), (9, vqr1o2_1), (11, v1207), (123, v1201), (124, (.int .i64 (l1200.length : Int))), (125, (.int .i64 i1740))] a ∧ Chg [] W w ∧ InI i1740 ∧ Bx w b1 [va0_0] 31 ∧ Zn W (b1 : Int) ∧ Ow Rp.u32 51 true w [] bqr1o2_1 vqr1o2_1 xqr1o2_1 ∧ Zn W bqr1o2_1 ∧ Ow Rp.int 3 true w [] b1208 v1207 l1206 ∧ Zn W b1208 ∧ Ow Rp.int 3 true w [] b1202 v1201 l1200 ∧ Zn W b1202 ∧ Nq ([b1]) bqr1o2_1 ∧ Nq ([b1]) b1208 ∧ Nq ([b1]) b1202 ∧ Nq (bl bqr1o2_1 ++ []) (b1 : Int) ∧ Nq (bl bqr1o2_1 ++ []) b1208 ∧ Nq (bl bqr1o2_1 ++ []) b1202 ∧ Nq (bl b1208 ++ []) (b1 : Int) ∧ Nq (bl b1208 ++ []) bqr1o2_1 ∧ Nq (bl b1208 ++ []) b1202 ∧ Nq (bl b1202 ++ []) (b1 : Int) ∧ Nq (bl b1202 ++ []) bqr1o2_1 ∧ Nq (bl b1202 ++ []) b1208 ∧ lpN (fun s => F_impl_NiceOk_l7 a1_0 l1200 s) n i1740 = some o1815) n1818 ⟨0, ha.sub ⟨rfl, rfl, rfl, rfl, rfl, rfl, rfl, trivial⟩, hE1226, (show InI 0 from by decide), hB1192, z1193, h1195, z1196, h1204, z1205, h1198, z1199, q1209, q1211, q1210, q1212, q1214, q1213, q1218, q1219, q1220, q1215, q1216, q1217, hn1819⟩ ?_ ?_
    · rintro m1823 a w1728 ⟨i1740, ha, hE1754, hI1741, hB1729, z1730, h1732, z1733, h1735, z1736, h1738, z1739, q1742, q1743, q1744, q1745, q1746, q1747, q1748, q1749, q1750, q1751, q1752, q1753, hF⟩
      cases m1823 with
      | zero => exact (lpN_zero hF).elim
      | succ m1823 =>
        obtain ⟨z1822, hF, hN1821⟩ := lpN_succ hF
        have hF : F_impl_NiceOk_l7 a1_0 l1200 i1740 = some z1822 := hF; unfold F_impl_NiceOk_l7 at hF
        refine wp_seq ?_; refine wp_region_lit ?_; refine op_g ha rfl (g_lss rfl rfl) ?_; clear ha a; intro a ha; refine wpList_nil ?_; replace ha := ha.sub (σ' := [(2, (.pointer (some ⟨b1, 0, none⟩))), (5, (.int .i64 (a1_0.length : Int))), (9, vqr1o2_1), (11, v1207), (123, v1201), (124, (.int .i64 (l1200.length : Int))), (125, (.int .i64 i1740)), (126, (.bool (decide (i1740 < (l1200.length : Int)))))]) ⟨rfl, rfl, rfl, rfl, rfl, rfl, rfl, rfl, trivial⟩; refine e_then ?_; refine wp_seq ?_; refine c_cond (i1740 < (l1200.length : Int)) ha rfl (decide_eq_true_iff) (fun hp1824 => ?_) (fun hp1824 => ?_)
        · replace hF := if_t hp1824 hF
          refine wp_skip ?_; refine e_then ?_; refine wp_seq ?_; refine wp_block ?_; refine wp_seq ?_; refine wp_region_lit ?_; refine op_g ha rfl (g_move rfl) ?_; clear ha a; intro a ha; obtain ⟨x1825, g1826, gx1827, hF⟩ := idx_some hF
          obtain ⟨p1828, cs1829, f1830, hf1831, hpb1832, hat1833, hr1834, hi1835⟩ := h1738.at g1826 gx1827
          obtain ⟨rfl, hI1836, rfl⟩ := hr1834
          refine op_g ha rfl (hi1835.gives sl48 rfl rfl) ?_; clear ha a; intro a ha; refine op_g ha rfl (g_load Try.isAgg3 rfl hat1833.one) ?_; clear ha a; intro a ha; (iterate 2 refine op_g ha rfl (g_assign rfl) ?_; clear ha a; intro a ha); refine wpList_nil ?_; replace ha := ha.sub (σ' := [(2, (.pointer (some ⟨b1, 0, none⟩))), (5, (.int .i64 (a1_0.length : Int))), (9, vqr1o2_1), (11, v1207), (15, (.int .i64 i1740)), (16, (.int .i64 x1825)), (123, v1201), (124, (.int .i64 (l1200.length : Int))), (125, (.int .i64 i1740))]) ⟨rfl, rfl, rfl, rfl, rfl, rfl, rfl, rfl, rfl, trivial⟩; refine e_then ?_
          refine wp_seq ?_; refine wp_region_lit ?_; refine op_g ha rfl (g_move rfl) ?_; clear ha a; intro a ha; refine op_g ha rfl (g_eql rfl rfl) ?_; clear ha a; intro a ha; (iterate 2 refine op_g ha rfl (g_move rfl) ?_; clear ha a; intro a ha); obtain ⟨hI1837, hF⟩ := ck_some hF; refine op_g ha rfl (g_sub rfl rfl hI1837) ?_; clear ha a; intro a ha; refine op_g ha rfl (g_lss rfl rfl) ?_; clear ha a; intro a ha; refine op_g ha rfl (gB_neq un4 rfl rfl) ?_; clear ha a; intro a ha; refine op_g ha rfl (g_move rfl) ?_; clear ha a; intro a ha
          by_cases hp1839 : ((decide (x1825 = 1)) != (decide (i1740 < ((a1_0.length : Int) - 1)))) = true
          · replace hF := if_t hp1839 hF
            rw [show ((decide (x1825 = 1)) != (decide (i1740 < ((a1_0.length : Int) - 1)))) = true from (Iff.rfl).2 hp1839] at ha
            (iterate 2 refine op_unwant ha rfl (yields ha rfl rfl) rfl ?_; clear ha a; intro a ha); refine op_g ha rfl (g_pick rfl rfl) ?_; clear ha a; intro a ha; refine wpList_nil ?_; replace ha := ha.sub (σ' := [(2, (.pointer (some ⟨b1, 0, none⟩))), (5, (.int .i64 (a1_0.length : Int))), (9, vqr1o2_1), (11, v1207), (123, v1201), (124, (.int .i64 (l1200.length : Int))), (125, (.int .i64 i1740)), (140, (.bool true))]) ⟨rfl, rfl, rfl, rfl, rfl, rfl, rfl, rfl, trivial⟩; refine e_then ?_; refine c_true ha rfl ?_; refine wp_seq ?_; refine wp_region_lit ?_; refine op_g ha rfl (g_assign rfl) ?_; clear ha a; intro a ha
            refine wpList_nil ?_; replace ha := ha.sub (σ' := [(4, (.bool false))]) ⟨rfl, trivial⟩; refine e_then ?_; refine wp_ret ?_; refine e_blk_ret ?_; refine e_then_ret ?_; refine e_lq_ret ?_; refine e_then_ret ?_; obtain rfl := Option.some.inj hF
            have e1840 := LK_inr hN1821; subst e1840
            have e1841 := BK_inr hK1817; subst e1841
            exact f_ret1 ha rfl rfl ⟨rfl, hE1754⟩
          replace hF := if_f hp1839 hF
          rw [show ((decide (x1825 = 1)) != (decide (i1740 < ((a1_0.length : Int) - 1)))) = false from b_false (Iff.rfl) hp1839] at ha
          refine op_want (yields ha rfl rfl) ?_; refine op_g ha rfl (g_move rfl) ?_; clear ha a; intro a ha; refine op_want (yields ha rfl rfl) ?_; refine op_g ha rfl (g_gtr rfl rfl) ?_; clear ha a; intro a ha; refine op_g ha rfl (g_pick rfl rfl) ?_; clear ha a; intro a ha; refine wpList_nil ?_; replace ha := ha.sub (σ' := [(2, (.pointer (some ⟨b1, 0, none⟩))), (5, (.int .i64 (a1_0.length : Int))), (9, vqr1o2_1), (11, v1207), (123, v1201), (124, (.int .i64 (l1200.length : Int))), (125, (.int .i64 i1740)), (138, (.int .i64 x1825)), (139, (.bool (decide (1 < x1825)))), (140, (.bool (decide (1 < x1825))))]) ⟨rfl, rfl, rfl, rfl, rfl, rfl, rfl, rfl, rfl, rfl, trivial⟩
          refine e_then ?_; refine c_cond (1 < x1825) ha rfl (decide_eq_true_iff) (fun hp1842 => ?_) (fun hp1842 => ?_)
          · replace hF := if_t hp1842 hF
            refine wp_seq ?_; refine wp_region_lit ?_; refine op_g ha rfl (g_assign rfl) ?_; clear ha a; intro a ha; refine wpList_nil ?_; replace ha := ha.sub (σ' := [(4, (.bool false))]) ⟨rfl, trivial⟩; refine e_then ?_; refine wp_ret ?_; refine e_blk_ret ?_; refine e_then_ret ?_; refine e_lq_ret ?_; refine e_then_ret ?_; obtain rfl := Option.some.inj hF
            have e1843 := LK_inr hN1821; subst e1843
            have e1844 := BK_inr hK1817; subst e1844
            exact f_ret1 ha rfl rfl ⟨rfl, hE1754⟩
          replace hF := if_f hp1842 hF; refine wp_skip ?_; refine e_blk ?_; refine e_then ?_; refine wp_region_lit ?_; obtain ⟨hI1845, hF⟩ := ck_some hF; refine op_g ha rfl (g_add rfl rfl hI1845) ?_; clear ha a; intro a ha; refine op_g ha rfl (g_move rfl) ?_; clear ha a; intro a ha; refine wpList_nil ?_; replace ha := ha.sub (σ' := [(2, (.pointer (some ⟨b1, 0, none⟩))), (5, (.int .i64 (a1_0.length : Int))), (9, vqr1o2_1), (11, v1207), (123, v1201), (124, (.int .i64 (l1200.length : Int))), (125, (.int .i64 (i1740 + 1))), (138, (.int .i64 x1825)), (139, (.bool (decide (1 < x1825))))]) ⟨rfl, rfl, rfl, rfl, rfl, rfl, rfl, rfl, rfl, trivial⟩
          refine e_lq ?_; obtain rfl := Option.some.inj hF
          exact ⟨_, Nat.lt_succ_self _, i1740 + 1, ha.sub ⟨rfl, rfl, rfl, rfl, rfl, rfl, rfl, trivial⟩, hE1754, hI1845, hB1729, z1730, h1732, z1733, h1735, z1736, h1738, z1739, q1742, q1743, q1744, q1745, q1746, q1747, q1748, q1749, q1750, q1751, q1752, q1753, hN1821⟩
        replace hF := if_f hp1824 hF; refine wp_exit ?_; refine e_then_exit ?_; refine e_lq_eq ?_; obtain rfl := Option.some.inj hF
        exact ⟨ha.sub ⟨rfl, rfl, rfl, rfl, trivial⟩, hE1754, hB1729, z1730, h1732, z1733, h1735, z1736, q1742, q1743, q1745, q1746, q1748, q1749, (LK_inr hN1821).symm⟩
    rintro a w1800 ⟨ha, hE1820, hB1801, z1802, h1804, z1805, h1807, z1808, q1809, q1810, q1811, q1812, q1813, q1814, rfl⟩
    have hF : F_impl_NiceOk_k8 a0_0 a1_0 xqr1o2_1 l1206 = some _ := hK1817; clear hK1817; unfold F_impl_NiceOk_k8 at hF
    refine e_then ?_; refine wp_seq ?_; refine wp_region_lit ?_; (iterate 2 refine op_g ha rfl (g_move rfl) ?_; clear ha a; intro a ha); obtain ⟨hI1847, hF⟩ := ck_some hF; refine op_g ha rfl (g_sub rfl rfl hI1847) ?_; clear ha a; intro a ha; obtain ⟨x1849, g1850, gx1851, hF⟩ := idx_some hF
    obtain ⟨p1852, cs1853, f1854, hf1855, hpb1856, hat1857, hr1858, hi1859⟩ := h1804.at g1850 gx1851
    obtain ⟨rfl, rfl⟩ := hr1858
    refine op_g ha rfl (hi1859.gives sl46 rfl rfl) ?_; clear ha a; intro a ha; refine op_g ha rfl (g_load Try.isAgg51 rfl hat1857.one) ?_; clear ha a; intro a ha; refine op_g ha rfl (g32_eql (m := x1849) (n := (0#32)) rfl rfl) ?_; clear ha a; intro a ha; refine op_g ha rfl (g_move rfl) ?_; clear ha a; intro a ha
    by_cases hp1860 : x1849 = (0#32)
    · replace hF := if_t hp1860 hF
      rw [show (decide (x1849 = (0#32))) = true from (decide_eq_true_iff).2 hp1860] at ha
      refine op_want (yields ha rfl rfl) ?_; refine op_g ha rfl (g_move rfl) ?_; clear ha a; intro a ha; refine op_want (yields ha rfl rfl) ?_
      obtain ⟨fp1861, hro1862, hs1863⟩ := h1807.roF
      obtain ⟨x1866, hc1867, hF⟩ := cal_some hF
      refine o_call ha rfl rfl Try.call24 (W_slices_ContainsFunc_int hro1862 (by intro _ hy1865 z1864 hz1864 r hr; exact W_impl_NiceOk_1 hz1864 hr) Try.call25 hc1867) ?_; clear ha a; rintro v1868 w1869 ⟨rfl, hx1870⟩ a ha
      replace hB1801 := hB1801.ext hx1870
      replace h1804 := h1804.ext hx1870
      replace h1807 := h1807.ext hx1870
      have hE1871 := Ext.trans hE1820 hx1870
      refine op_want (yields ha rfl rfl) ?_; refine op_g ha rfl (g_not rfl) ?_; clear ha a; intro a ha; refine op_g ha rfl (g_pick rfl rfl) ?_; clear ha a; intro a ha; refine op_g ha rfl (g_move rfl) ?_; clear ha a; intro a ha
      by_cases hp1872 : ¬ (x1866 = true)
      · replace hF := if_t hp1872 hF
        rw [show (!x1866) = true from (n_iff (Iff.rfl)).2 hp1872] at ha
        refine op_want (yields ha rfl rfl) ?_; refine op_g ha rfl (g_loadA (cs := [va0_0]) Try.isAgg31 Try.sizeOf31 rfl (by simp) hB1801.all) ?_; clear ha a; intro a ha; refine op_want (yields ha rfl rfl) ?_; obtain ⟨x1873, hc1874, hF⟩ := cal_some hF
        refine o_call ha rfl rfl Try.call27 (W_impl_netsOf (ha0_0.ext hE1871) hc1874) ?_; clear ha a; rintro v1875 w1876 ⟨b1878, h1879, z1880, hx1877⟩ a ha
        have q1882 := Nq.new hB1801.fpb z1880
        have q1883 := Nq.madeO z1880 hB1801.bi
        have q1884 := Nq.new h1804.fpb z1880
        have q1885 := Nq.madeO z1880 h1804.blt
        have q1886 := Nq.new h1807.fpb z1880
        have q1887 := Nq.madeO z1880 h1807.blt
        replace hB1801 := hB1801.ext hx1877
        replace h1804 := h1804.ext hx1877
        replace h1807 := h1807.ext hx1877
        have hE1888 := Ext.trans hE1871 hx1877
        have q1889 := Zn.upD z1880 hE1871
        refine op_want (yields ha rfl rfl) ?_; refine op_g ha rfl (g_move rfl) ?_; clear ha a; intro a ha; refine op_want (yields ha rfl rfl) ?_
        obtain ⟨fp1890, hro1891, hs1892⟩ := h1879.roF
        obtain ⟨fp1893, hro1894, hs1895⟩ := h1804.roF
        obtain ⟨x1896, hc1897, hF⟩ := cal_some hF
        refine o_call ha rfl rfl Try.call26 (W_impl_coversEdges hro1891 hro1894 hc1897) ?_; clear ha a; rintro v1898 w1899 ⟨rfl, hx1900⟩ a ha
        replace hB1801 := hB1801.ext hx1900
        replace h1804 := h1804.ext hx1900
        replace h1807 := h1807.ext hx1900
        replace h1879 := h1879.ext hx1900
        have hE1901 := Ext.trans hE1888 hx1900
        refine op_g ha rfl (g_pick rfl rfl) ?_; clear ha a; intro a ha; refine op_g ha rfl (g_assign rfl) ?_; clear ha a; intro a ha; refine wpList_nil ?_; replace ha := ha.sub (σ' := [(4, (.bool x1896))]) ⟨rfl, trivial⟩; refine e_then ?_; refine wp_ret ?_; obtain rfl := Option.some.inj hF
        exact f_ret1 ha rfl rfl ⟨rfl, hE1901⟩
      replace hF := if_f hp1872 hF
      rw [show (!x1866) = false from b_false (n_iff (Iff.rfl)) hp1872] at ha
      (iterate 4 refine op_unwant ha rfl (yields ha rfl rfl) rfl ?_; clear ha a; intro a ha); refine op_g ha rfl (g_pick rfl rfl) ?_; clear ha a; intro a ha; refine op_g ha rfl (g_assign rfl) ?_; clear ha a; intro a ha; refine wpList_nil ?_; replace ha := ha.sub (σ' := [(4, (.bool false))]) ⟨rfl, trivial⟩; refine e_then ?_; refine wp_ret ?_; obtain rfl := Option.some.inj hF
      exact f_ret1 ha rfl rfl ⟨rfl, hE1871⟩
    replace hF := if_f hp1860 hF
    rw [show (decide (x1849 = (0#32))) = false from b_false (decide_eq_true_iff) hp1860] at ha
    (iterate 3 refine op_unwant ha rfl (yields ha rfl rfl) rfl ?_; clear ha a; intro a ha); refine op_g ha rfl (g_pick rfl rfl) ?_; clear ha a; intro a ha; refine op_g ha rfl (g_move rfl) ?_; clear ha a; intro a ha; (iterate 4 refine op_unwant ha rfl (yields ha rfl rfl) rfl ?_; clear ha a; intro a ha); refine op_g ha rfl (g_pick rfl rfl) ?_; clear ha a; intro a ha; refine op_g ha rfl (g_assign rfl) ?_; clear ha a; intro a ha; refine wpList_nil ?_; replace ha := ha.sub (σ' := [(4, (.bool false))]) ⟨rfl, trivial⟩; refine e_then ?_; refine wp_ret ?_; obtain rfl := Option.some.inj hF
    exact f_ret1 ha rfl rfl ⟨rfl, hE1820⟩
  skip
  replace hB130 := hB130.ext hxqr1_1
  replace hB132 := hB132.ext hxqr1_1
  have hEqr1o6_1 := Ext.trans hE141 hxqr1_1
  refine o_make (z0 := (0 : Int)) Rp.int ha rfl sl48 rfl (fun w => ⟨rfl, by decide, rfl⟩) rfl gqr1o6_1 gqr1o6_1b ?_; clear ha a; intro vqr1o6_1 wqr1o6_1 hqr1o6_1 hxqr1o6_1 a ha
  obtain ⟨bqr1o6_1, hbqr1o6_1⟩ : ∃ b : Int, b = wqr1_1.heap.size := ⟨_, rfl⟩; rw [← hbqr1o6_1] at hqr1o6_1
  have qqr1o6_1 := zn_of hbqr1o6_1
  have qqr1o6_2 := Nq.new hB130.fpb qqr1o6_1
  have qqr1o6_3 := Nq.madeO qqr1o6_1 hB130.bi
  have qqr1o6_4 := Nq.new hB132.fpb qqr1o6_1
  have qqr1o6_5 := Nq.madeO qqr1o6_1 hB132.bi
  have qqr1o6_6 := Zn.upD qqr1o6_1 hEqr1o6_1
  replace hB130 := hB130.ext hxqr1o6_1
  replace hB132 := hB132.ext hxqr1o6_1
  have hEqr1o6_2 := Ext.trans hEqr1o6_1 hxqr1o6_1
  refine wpList_nil (e_sq ?_)
  refine ⟨fun _ => hxqr1o6_1, ?_⟩
  refine u_many [2, 4] (by kernel_rfl) rfl fun wqr1o6_2 hxqr1o6_2 => ⟨⟨_, rfl, ?_⟩, ⟨_, rfl, ?_⟩, trivial⟩
  · skip
    replace hB130 := hB130.ext hxqr1o6_2
    replace hB132 := hB132.ext hxqr1o6_2
    replace hqr1o6_1 := hqr1o6_1.ext hxqr1o6_2
    have hEqr1o2_1 := Ext.trans hEqr1o6_2 hxqr1o6_2
    refine o_call ha rfl rfl Try.call22 (W_impl_bagMasks (ha1_2.ext hEqr1o2_1) hcqr1o2_1) ?_; clear ha a; rintro vqr1o2_1 wqr1o2_1 ⟨bqr1o2_1, hqr1o2_1, zqr1o2_1, hxqr1o2_1⟩ a ha
    have qqr1o2_1 := Nq.new hB130.fpb zqr1o2_1
    have qqr1o2_2 := Nq.madeO zqr1o2_1 hB130.bi
    have qqr1o2_3 := Nq.new hB132.fpb zqr1o2_1
    have qqr1o2_4 := Nq.madeO zqr1o2_1 hB132.bi
    have qqr1o2_5 := Nq.new hqr1o6_1.fpb zqr1o2_1
    have qqr1o2_6 := Nq.madeO zqr1o2_1 hqr1o6_1.blt
    replace hB130 := hB130.ext hxqr1o2_1
    replace hB132 := hB132.ext hxqr1o2_1
    replace hqr1o6_1 := hqr1o6_1.ext hxqr1o2_1
    have hEqr1o2_2 := Ext.trans hEqr1o2_1 hxqr1o2_1
    have qqr1o2_7 := Zn.upD zqr1o2_1 hEqr1o2_1
    refine wpList_nil (e_sq ?_)
    refine ⟨fun _ => hxqr1o2_1, ?_⟩
    refine u_g 7 rfl (by kernel_rfl) (want0 _) ha rfl (g_assign rfl) ?_; clear ha a; intro a ha
    refine u_only 4 rfl (by kernel_rfl) ?_; intro wqr1o4_1 hxqr1o4_1
    replace hB130 := hB130.ext hxqr1o4_1
    replace hB132 := hB132.ext hxqr1o4_1
    replace hqr1o6_1 := hqr1o6_1.ext hxqr1o4_1
    replace hqr1o2_1 := hqr1o2_1.ext hxqr1o4_1
    have hEqr1o4_1 := Ext.trans hEqr1o2_2 hxqr1o4_1
    refine o_make (z0 := (0 : Int)) Rp.int ha rfl sl48 rfl (fun w => ⟨rfl, by decide, rfl⟩) rfl gqr1o4_1 gqr1o4_1b ?_; clear ha a; intro vqr1o4_1 wqr1o4_2 hqr1o4_1 hxqr1o4_2 a ha
    obtain ⟨bqr1o4_1, hbqr1o4_1⟩ : ∃ b : Int, b = wqr1o4_1.heap.size := ⟨_, rfl⟩; rw [← hbqr1o4_1] at hqr1o4_1
    have qqr1o4_1 := zn_of hbqr1o4_1
    have qqr1o4_2 := Nq.new hB130.fpb qqr1o4_1
    have qqr1o4_3 := Nq.madeO qqr1o4_1 hB130.bi
    have qqr1o4_4 := Nq.new hB132.fpb qqr1o4_1
    have qqr1o4_5 := Nq.madeO qqr1o4_1 hB132.bi
    have qqr1o4_6 := Nq.new hqr1o6_1.fpb qqr1o4_1
    have qqr1o4_7 := Nq.madeO qqr1o4_1 hqr1o6_1.blt
    have qqr1o4_8 := Nq.new hqr1o2_1.fpb qqr1o4_1
    have qqr1o4_9 := Nq.madeO qqr1o4_1 hqr1o2_1.blt
    have qqr1o4_10 := Zn.upD qqr1o4_1 hEqr1o4_1
    replace hB130 := hB130.ext hxqr1o4_2
    replace hB132 := hB132.ext hxqr1o4_2
    replace hqr1o6_1 := hqr1o6_1.ext hxqr1o4_2
    replace hqr1o2_1 := hqr1o2_1.ext hxqr1o4_2
    have hEqr1o4_2 := Ext.trans hEqr1o4_1 hxqr1o4_2
    refine wpList_nil (e_sq ?_)
    refine ⟨fun _ => hxqr1o4_2, ?_⟩
    refine u_g 8 rfl (by kernel_rfl) (want0 _) ha rfl (g_assign rfl) ?_; clear ha a; intro a ha; refine u_g 9 rfl (by kernel_rfl) (want0 _) ha rfl (g_assign rfl) ?_; clear ha a; intro a ha
    refine u_done (by kernel_rfl) ?_; intro w174 hx175
    replace hB130 := hB130.ext hx175
    replace hB132 := hB132.ext hx175
    replace hqr1o6_1 := hqr1o6_1.ext hx175
    replace hqr1o2_1 := hqr1o2_1.ext hx175
    replace hqr1o4_1 := hqr1o4_1.ext hx175
    have hE176 := Ext.trans hEqr1o4_2 hx175
    replace ha := ha.sub (σ' := [(2, (.pointer (some ⟨b1, 0, none⟩))), (3, (.pointer (some ⟨b9, 0, none⟩))), (5, (.int .i64 (a1_0.length : Int))), (6, (.int .i64 (a0_0.length : Int))), (9, vqr1o2_1), (10, vqr1o4_1), (11, vqr1o6_1)]) ⟨rfl, rfl, rfl, rfl, rfl, rfl, rfl, trivial⟩; refine e_then ?_; refine wp_seq ?_; refine wp_seq ?_; refine wp_region_lit ?_; (iterate 2 refine op_g ha rfl (g_move rfl) ?_; clear ha a; intro a ha); refine wpList_nil ?_; replace ha := ha.sub (σ' := [(2, (.pointer (some ⟨b1, 0, none⟩))), (3, (.pointer (some ⟨b9, 0, none⟩))), (5, (.int .i64 (a1_0.length : Int))), (6, (.int .i64 (a0_0.length : Int))), (9, vqr1o2_1), (10, vqr1o4_1), (11, vqr1o6_1), (79, (.int .i64 (a1_0.length : Int))), (80, (.int .i64 0))]) ⟨rfl, rfl, rfl, rfl, rfl, rfl, rfl, rfl, rfl, trivial⟩
    refine e_then ?_; obtain ⟨o1221, ho1222, hK1223⟩ := bnd_some hF
    obtain ⟨n1224, hn1225⟩ := lp_some ho1222; clear ho1222
    refine c_loop (fun a w => ∃ (l1200 : (List Int)) (l1206 : (List Int)) (v1201 : Value) (b1202 : Int) (v1207 : Value) (b1208 : Int), Fr 159 [(2, (.pointer (some ⟨b1, 0, none⟩))), (5, (.int .i64 (a1_0.length : Int))), (9, vqr1o2_1), (10, v1201), (11, v1207)] a ∧ Chg [] W w ∧ Bx w b1 [va0_0] 31 ∧ Zn W (b1 : Int) ∧ Ow Rp.u32 51 true w [] bqr1o2_1 vqr1o2_1 xqr1o2_1 ∧ Zn W bqr1o2_1 ∧ Ow Rp.int 3 true w [] b1202 v1201 l1200 ∧ Zn W b1202 ∧ Ow Rp.int 3 true w [] b1208 v1207 l1206 ∧ Zn W b1208 ∧ Nq ([b1]) bqr1o2_1 ∧ Nq ([b1]) b1202 ∧ Nq ([b1]) b1208 ∧ Nq (bl bqr1o2_1 ++ []) (b1 : Int) ∧ Nq (bl bqr1o2_1 ++ []) b1202 ∧ Nq (bl bqr1o2_1 ++ []) b1208 ∧ Nq (bl b1202 ++ []) (b1 : Int) ∧ Nq (bl b1202 ++ []) bqr1o2_1 ∧ Nq (bl b1202 ++ []) b1208 ∧ Nq (bl b1208 ++ []) (b1 : Int) ∧ Nq (bl b1208 ++ []) bqr1o2_1 ∧ Nq (bl b1208 ++ []) b1202 ∧ o1221 = .inl (l1200, l1206)) (fun n a w => ∃ (l691 : (List Int)) (l697 : (List Int)) (i700 : Int) (v692 : Value) (b693 : Int) (v698 : Value) (b699 : Int), Fr 159 [(2, (.pointer (some ⟨b1, 0, none⟩))), (3, (.pointer (some ⟨b9, 0, none⟩))), (5, (.int .i64 (a1_0.length : Int))), (6, (.int .i64 (a0_0.length : Int))), (9, vqr1o2_1), (10, v692), (11, v698), (79, (.int .i64 (a1_0.length : Int))), (80, (.int .i64 i700))] a ∧ Chg [] W w ∧ InI i700 ∧ Bx w b1 [va0_0] 31 ∧ Zn W (b1 : Int) ∧ Bx w b9 [va1_0, va1_1, va1_2, va1_3] 33 ∧ Zn W (b9 : Int) ∧ Ow Rp.u32 51 true w [] bqr1o2_1 vqr1o2_1 xqr1o2_1 ∧ Zn W bqr1o2_1 ∧ Ow Rp.int 3 true w [] b693 v692 l691 ∧ Zn W b693 ∧ Ow Rp.int 3 true w [] b699 v698 l697 ∧ Zn W b699 ∧ Nq ([b1]) (b9 : Int) ∧ Nq ([b1]) bqr1o2_1 ∧ Nq ([b1]) b693 ∧ Nq ([b1]) b699 ∧ Nq ([b9]) (b1 : Int) ∧ Nq ([b9]) bqr1o2_1 ∧ Nq ([b9]) b693 ∧ Nq ([b9]) b699 ∧ Nq (bl bqr1o2_1 ++ []) (b1 : Int) ∧ Nq (bl bqr1o2_1 ++ []) (b9 : Int) ∧ Nq (bl bqr1o2_1 ++ []) b693 ∧ Nq (bl bqr1o2_1 ++ []) b699 ∧ Nq (bl b693 ++ []) (b1 : Int) ∧ Nq (bl b693 ++ []) (b9 : Int) ∧ Nq (bl b693 ++ []) bqr1o2_1 ∧ Nq (bl b693 ++ []) b699 ∧ Nq (bl b699 ++ []) (b1 : Int) ∧ Nq (bl b699 ++ []) (b9 : Int) ∧ Nq (bl b699 ++ []) bqr1o2_1 ∧ Nq (bl b699 ++ []) b693 ∧ lpN (fun s => F_impl_NiceOk_l3 a0_0 a1_0 a1_1 a1_2 a1_3 xqr1o2_1 s.1 s.2.1 s.2.2) n (l691, l697, i700) = some o1221) n1224 ⟨(List.replicate ((a1_0.length : Int) : Int).toNat (0 : Int)), (List.replicate ((a0_0.length : Int) : Int).toNat (0 : Int)), 0, vqr1o4_1, bqr1o4_1, vqr1o6_1, bqr1o6_1, ha.sub ⟨rfl, rfl, rfl, rfl, rfl, rfl, rfl, rfl, rfl, trivial⟩, hE176, (show InI 0 from by decide), hB130, z131, hB132, z133, hqr1o2_1, qqr1o2_7, hqr1o4_1, qqr1o4_10, hqr1o6_1, qqr1o6_6, q134, qqr1o2_1, qqr1o4_2, qqr1o6_2, q135, qqr1o2_3, qqr1o4_4, qqr1o6_4, qqr1o2_2, qqr1o2_4, qqr1o4_8, qqr1o2_6, qqr1o4_3, qqr1o4_5, qqr1o4_9, qqr1o4_7, qqr1o6_3, qqr1o6_5, qqr1o2_5, qqr1o4_6, hn1225⟩ ?_ ?_
    · rintro m1229 a w680 ⟨l691, l697, i700, v692, b693, v698, b699, ha, hE722, hI701, hB681, z682, hB683, z684, h686, z687, h689, z690, h695, z696, q702, q703, q704, q705, q706, q707, q708, q709, q710, q711, q712, q713, q714, q715, q716, q717, q718, q719, q720, q721, hF⟩
      cases m1229 with
      | zero => exact (lpN_zero hF).elim
      | succ m1229 =>
        obtain ⟨z1228, hF, hN1227⟩ := lpN_succ hF
        have hF : F_impl_NiceOk_l3 a0_0 a1_0 a1_1 a1_2 a1_3 xqr1o2_1 l691 l697 i700 = some z1228 := hF; unfold F_impl_NiceOk_l3 at hF
        refine wp_seq ?_; refine wp_region_lit ?_; refine op_g ha rfl (g_lss rfl rfl) ?_; clear ha a; intro a ha; refine wpList_nil ?_; replace ha := ha.sub (σ' := [(2, (.pointer (some ⟨b1, 0, none⟩))), (3, (.pointer (some ⟨b9, 0, none⟩))), (5, (.int .i64 (a1_0.length : Int))), (6, (.int .i64 (a0_0.length : Int))), (9, vqr1o2_1), (10, v692), (11, v698), (79, (.int .i64 (a1_0.length : Int))), (80, (.int .i64 i700)), (81, (.bool (decide (i700 < (a1_0.length : Int)))))]) ⟨rfl, rfl, rfl, rfl, rfl, rfl, rfl, rfl, rfl, rfl, trivial⟩; refine e_then ?_; refine wp_seq ?_; refine c_cond (i700 < (a1_0.length : Int)) ha rfl (decide_eq_true_iff) (fun hp1230 => ?_) (fun hp1230 => ?_)
        · replace hF := if_t hp1230 hF
          refine wp_skip ?_; refine e_then ?_; refine wp_seq ?_; refine wp_block ?_; refine wp_seq ?_; refine wp_region_lit ?_; refine op_g ha rfl (g_move rfl) ?_; clear ha a; intro a ha; refine op_g ha rfl (g_assign rfl) ?_; clear ha a; intro a ha; refine wpList_nil ?_; replace ha := ha.sub (σ' := [(2, (.pointer (some ⟨b1, 0, none⟩))), (3, (.pointer (some ⟨b9, 0, none⟩))), (5, (.int .i64 (a1_0.length : Int))), (6, (.int .i64 (a0_0.length : Int))), (9, vqr1o2_1), (10, v692), (11, v698), (12, (.int .i64 i700)), (79, (.int .i64 (a1_0.length : Int))), (80, (.int .i64 i700))]) ⟨rfl, rfl, rfl, rfl, rfl, rfl, rfl, rfl, rfl, rfl, trivial⟩
          refine e_then ?_; refine wp_seq ?_; refine wp_seq ?_; refine wp_region_lit ?_; refine op_g ha rfl (g_loadA (cs := [va1_0, va1_1, va1_2, va1_3]) Try.isAgg33 Try.sizeOf33 rfl (by simp) hB683.all) ?_; clear ha a; intro a ha; (iterate 3 refine op_g ha rfl (g_move rfl) ?_; clear ha a; intro a ha)
          obtain ⟨fp1231, hro1232, hs1233⟩ := h686.roF
          obtain ⟨x1234, hc1235, hF⟩ := cal_some hF
          refine o_call ha rfl rfl Try.call23 (W_impl_goodNode (ha1_0.ext hE722) (ha1_1.ext hE722) (ha1_2.ext hE722) (ha1_3.ext hE722) hI701 hro1232 ha0_0.len hc1235) ?_; clear ha a; rintro v1236 w1237 ⟨rfl, hx1238⟩ a ha
          replace hB681 := hB681.ext hx1238
          replace hB683 := hB683.ext hx1238
          replace h686 := h686.ext hx1238
          replace h689 := h689.ext hx1238
          replace h695 := h695.ext hx1238
          have hE1239 := Ext.trans hE722 hx1238
          refine op_g ha rfl (g_not rfl) ?_; clear ha a; intro a ha; refine wpList_nil ?_; replace ha := ha.sub (σ' := [(2, (.pointer (some ⟨b1, 0, none⟩))), (3, (.pointer (some ⟨b9, 0, none⟩))), (5, (.int .i64 (a1_0.length : Int))), (6, (.int .i64 (a0_0.length : Int))), (9, vqr1o2_1), (10, v692), (11, v698), (12, (.int .i64 i700)), (79, (.int .i64 (a1_0.length : Int))), (80, (.int .i64 i700)), (88, (.bool (!x1234)))]) ⟨rfl, rfl, rfl, rfl, rfl, rfl, rfl, rfl, rfl, rfl, rfl, trivial⟩; refine e_then ?_; refine c_cond (¬ (x1234 = true)) ha rfl (n_iff (Iff.rfl)) (fun hp1240 => ?_) (fun hp1240 => ?_)
          · replace hF := if_t hp1240 hF
            refine wp_seq ?_; refine wp_region_lit ?_; refine op_g ha rfl (g_assign rfl) ?_; clear ha a; intro a ha; refine wpList_nil ?_; replace ha := ha.sub (σ' := [(4, (.bool false))]) ⟨rfl, trivial⟩; refine e_then ?_; refine wp_ret ?_; refine e_then_ret ?_; refine e_blk_ret ?_; refine e_then_ret ?_; refine e_lq_ret ?_; refine e_then_ret ?_; obtain rfl := Option.some.inj hF
            have e1241 := LK_inr hN1227; subst e1241
            have e1242 := BK_inr hK1223; subst e1242
            exact f_ret1 ha rfl rfl ⟨rfl, hE1239⟩
          replace hF := if_f hp1240 hF; refine wp_skip ?_; refine e_then ?_; refine wp_seq ?_; refine wp_seq ?_; refine wp_region_lit ?_; refine op_g ha rfl (g_field0 st33_3 rfl) ?_; clear ha a; intro a ha; refine op_g ha rfl (g_load Try.isAgg22 rfl (hB683.cell rfl)) ?_; clear ha a; intro a ha; refine op_g ha rfl (g_move rfl) ?_; clear ha a; intro a ha; obtain ⟨x1243, g1244, gx1245, hF⟩ := idx_some hF
          obtain ⟨p1246, cs1247, f1248, hf1249, hpb1250, hat1251, hr1252, hi1253⟩ := ha1_3.at g1244 gx1245
          obtain ⟨v1254, rfl, h1255⟩ := hr1252
          have h1255 : Ro Rp.int W f1248 v1254 x1243 := h1255
          refine op_g ha rfl (hi1253.gives sl22 rfl rfl) ?_; clear ha a; intro a ha; refine op_g ha rfl (g_load0 hE1239 Try.isAgg25 rfl hat1251.one) ?_; clear ha a; intro a ha; refine op_g ha rfl (g_lenR sl25.und h1255 rfl) ?_; clear ha a; intro a ha; refine op_g ha rfl (g_move rfl) ?_; clear ha a; intro a ha; refine wpList_nil ?_; replace ha := ha.sub (σ' := [(2, (.pointer (some ⟨b1, 0, none⟩))), (3, (.pointer (some ⟨b9, 0, none⟩))), (5, (.int .i64 (a1_0.length : Int))), (6, (.int .i64 (a0_0.length : Int))), (9, vqr1o2_1), (10, v692), (11, v698), (12, (.int .i64 i700)), (79, (.int .i64 (a1_0.length : Int))), (80, (.int .i64 i700)), (93, v1254), (94, (.int .i64 (x1243.length : Int))), (95, (.int .i64 0))]) ⟨rfl, rfl, rfl, rfl, rfl, rfl, rfl, rfl, rfl, rfl, rfl, rfl, rfl, trivial⟩
          refine e_then ?_; obtain ⟨o1541, ho1542, hK1543⟩ := bnd_some hF
          obtain ⟨n1544, hn1545⟩ := lp_some ho1542; clear ho1542
          refine c_loop (fun a w => ∃ (l1515 : (List Int)) (v1516 : Value) (b1517 : Int), Fr 159 [(2, (.pointer (some ⟨b1, 0, none⟩))), (3, (.pointer (some ⟨b9, 0, none⟩))), (5, (.int .i64 (a1_0.length : Int))), (6, (.int .i64 (a0_0.length : Int))), (9, vqr1o2_1), (10, v1516), (11, v698), (12, (.int .i64 i700)), (79, (.int .i64 (a1_0.length : Int))), (80, (.int .i64 i700))] a ∧ Chg [] W w ∧ Bx w b1 [va0_0] 31 ∧ Zn W (b1 : Int) ∧ Bx w b9 [va1_0, va1_1, va1_2, va1_3] 33 ∧ Zn W (b9 : Int) ∧ Ow Rp.u32 51 true w [] bqr1o2_1 vqr1o2_1 xqr1o2_1 ∧ Zn W bqr1o2_1 ∧ Ow Rp.int 3 true w [] b1517 v1516 l1515 ∧ Zn W b1517 ∧ Ow Rp.int 3 true w [] b699 v698 l697 ∧ Zn W b699 ∧ Nq ([b1]) (b9 : Int) ∧ Nq ([b1]) bqr1o2_1 ∧ Nq ([b1]) b1517 ∧ Nq ([b1]) b699 ∧ Nq ([b9]) (b1 : Int) ∧ Nq ([b9]) bqr1o2_1 ∧ Nq ([b9]) b1517 ∧ Nq ([b9]) b699 ∧ Nq (bl bqr1o2_1 ++ []) (b1 : Int) ∧ Nq (bl bqr1o2_1 ++ []) (b9 : Int) ∧ Nq (bl bqr1o2_1 ++ []) b1517 ∧ Nq (bl bqr1o2_1 ++ []) b699 ∧ Nq (bl b1517 ++ []) (b1 : Int) ∧ Nq (bl b1517 ++ []) (b9 : Int) ∧ Nq (bl b1517 ++ []) bqr1o2_1 ∧ Nq (bl b1517 ++ []) b699 ∧ Nq (bl b699 ++ []) (b1 : Int) ∧ Nq (bl b699 ++ []) (b9 : Int) ∧ Nq (bl b699 ++ []) bqr1o2_1 ∧ Nq (bl b699 ++ []) b1517 ∧ o1541 = .inl l1515) (fun n a w => ∃ (l1389 : (List Int)) (i1395 : Int) (v1390 : Value) (b1391 : Int), Fr 159 [(2, (.pointer (some ⟨b1, 0, none⟩))), (3, (.pointer (some ⟨b9, 0, none⟩))), (5, (.int .i64 (a1_0.length : Int))), (6, (.int .i64 (a0_0.length : Int))), (9, vqr1o2_1), (10, v1390), (11, v698), (12, (.int .i64 i700)), (79, (.int .i64 (a1_0.length : Int))), (80, (.int .i64 i700)), (93, v1254), (94, (.int .i64 (x1243.length : Int))), (95, (.int .i64 i1395))] a ∧ Chg [] W w ∧ InI i1395 ∧ Bx w b1 [va0_0] 31 ∧ Zn W (b1 : Int) ∧ Bx w b9 [va1_0, va1_1, va1_2, va1_3] 33 ∧ Zn W (b9 : Int) ∧ Ow Rp.u32 51 true w [] bqr1o2_1 vqr1o2_1 xqr1o2_1 ∧ Zn W bqr1o2_1 ∧ Ow Rp.int 3 true w [] b1391 v1390 l1389 ∧ Zn W b1391 ∧ Ow Rp.int 3 true w [] b699 v698 l697 ∧ Zn W b699 ∧ Nq ([b1]) (b9 : Int) ∧ Nq ([b1]) bqr1o2_1 ∧ Nq ([b1]) b1391 ∧ Nq ([b1]) b699 ∧ Nq ([b9]) (b1 : Int) ∧ Nq ([b9]) bqr1o2_1 ∧ Nq ([b9]) b1391 ∧ Nq ([b9]) b699 ∧ Nq (bl bqr1o2_1 ++ []) (b1 : Int) ∧ Nq (bl bqr1o2_1 ++ []) (b9 : Int) ∧ Nq (bl bqr1o2_1 ++ []) b1391 ∧ Nq (bl bqr1o2_1 ++ []) b699 ∧ Nq (bl b1391 ++ []) (b1 : Int) ∧ Nq (bl b1391 ++ []) (b9 : Int) ∧ Nq (bl b1391 ++ []) bqr1o2_1 ∧ Nq (bl b1391 ++ []) b699 ∧ Nq (bl b699 ++ []) (b1 : Int) ∧ Nq (bl b699 ++ []) (b9 : Int) ∧ Nq (bl b699 ++ []) bqr1o2_1 ∧ Nq (bl b699 ++ []) b1391 ∧ lpN (fun s => F_impl_NiceOk_l4 x1243 s.1 s.2) n (l1389, i1395) = some o1541) n1544 ⟨l691, 0, v692, b693, ha.sub ⟨rfl, rfl, rfl, rfl, rfl, rfl, rfl, rfl, rfl, rfl, rfl, rfl, rfl, trivial⟩, hE1239, (show InI 0 from by decide), hB681, z682, hB683, z684, h686, z687, h689, z690, h695, z696, q702, q703, q704, q705, q706, q707, q708, q709, q710, q711, q712, q713, q714, q715, q716, q717, q718, q719, q720, q721, hn1545⟩ ?_ ?_
          · rintro m1549 a w1378 ⟨l1389, i1395, v1390, b1391, ha, hE1417, hI1396, hB1379, z1380, hB1381, z1382, h1384, z1385, h1387, z1388, h1393, z1394, q1397, q1398, q1399, q1400, q1401, q1402, q1403, q1404, q1405, q1406, q1407, q1408, q1409, q1410, q1411, q1412, q1413, q1414, q1415, q1416, hF⟩
            cases m1549 with
            | zero => exact (lpN_zero hF).elim
            | succ m1549 =>
              obtain ⟨z1548, hF, hN1547⟩ := lpN_succ hF
              have hF : F_impl_NiceOk_l4 x1243 l1389 i1395 = some z1548 := hF; unfold F_impl_NiceOk_l4 at hF
              refine wp_seq ?_; refine wp_region_lit ?_; refine op_g ha rfl (g_lss rfl rfl) ?_; clear ha a; intro a ha; refine wpList_nil ?_; replace ha := ha.sub (σ' := [(2, (.pointer (some ⟨b1, 0, none⟩))), (3, (.pointer (some ⟨b9, 0, none⟩))), (5, (.int .i64 (a1_0.length : Int))), (6, (.int .i64 (a0_0.length : Int))), (9, vqr1o2_1), (10, v1390), (11, v698), (12, (.int .i64 i700)), (79, (.int .i64 (a1_0.length : Int))), (80, (.int .i64 i700)), (93, v1254), (94, (.int .i64 (x1243.length : Int))), (95, (.int .i64 i1395)), (96, (.bool (decide (i1395 < (x1243.length : Int)))))]) ⟨rfl, rfl, rfl, rfl, rfl, rfl, rfl, rfl, rfl, rfl, rfl, rfl, rfl, rfl, trivial⟩
              refine e_then ?_; refine wp_seq ?_; refine c_cond (i1395 < (x1243.length : Int)) ha rfl (decide_eq_true_iff) (fun hp1550 => ?_) (fun hp1550 => ?_)
              · replace hF := if_t hp1550 hF
                refine wp_skip ?_; refine e_then ?_; refine wp_seq ?_; refine wp_block ?_; refine wp_seq ?_; refine wp_region_lit ?_; obtain ⟨x1551, g1552, gx1553, hF⟩ := idx_some hF
                obtain ⟨p1554, cs1555, f1556, hf1557, hpb1558, hat1559, hr1560, hi1561⟩ := h1255.at g1552 gx1553
                obtain ⟨rfl, hI1562, rfl⟩ := hr1560
                refine op_g ha rfl (hi1561.gives sl25 rfl rfl) ?_; clear ha a; intro a ha; refine op_g ha rfl (g_load0 hE1417 Try.isAgg2 rfl hat1559.one) ?_; clear ha a; intro a ha; refine op_g ha rfl (g_assign rfl) ?_; clear ha a; intro a ha; refine wpList_nil ?_; replace ha := ha.sub (σ' := [(2, (.pointer (some ⟨b1, 0, none⟩))), (3, (.pointer (some ⟨b9, 0, none⟩))), (5, (.int .i64 (a1_0.length : Int))), (6, (.int .i64 (a0_0.length : Int))), (9, vqr1o2_1), (10, v1390), (11, v698), (12, (.int .i64 i700)), (14, (.int .i64 x1551)), (79, (.int .i64 (a1_0.length : Int))), (80, (.int .i64 i700)), (93, v1254), (94, (.int .i64 (x1243.length : Int))), (95, (.int .i64 i1395))]) ⟨rfl, rfl, rfl, rfl, rfl, rfl, rfl, rfl, rfl, rfl, rfl, rfl, rfl, rfl, trivial⟩
                refine e_then ?_; refine wp_region_lit ?_; (iterate 2 refine op_g ha rfl (g_move rfl) ?_; clear ha a; intro a ha); obtain ⟨x1563, g1564, gx1565, hF⟩ := idx_some hF
                obtain ⟨p1566, cs1567, f1568, hf1569, hpb1570, hat1571, hr1572, hi1573⟩ := h1387.at g1564 gx1565
                obtain ⟨rfl, hI1574, rfl⟩ := hr1572
                refine op_g ha rfl (hi1573.gives sl48 rfl rfl) ?_; clear ha a; intro a ha; refine op_g ha rfl (g_load Try.isAgg3 rfl hat1571.one) ?_; clear ha a; intro a ha; obtain ⟨hI1575, hF⟩ := ck_some hF; refine op_g ha rfl (g_add rfl rfl hI1575) ?_; clear ha a; intro a ha; obtain ⟨x1577, g1578, gx1579, hF⟩ := idx_some hF
                obtain ⟨p1580, cs1581, f1582, hf1583, hpb1584, hat1585, hr1586, hi1587⟩ := h1387.at g1578 gx1579
                obtain ⟨rfl, hI1588, rfl⟩ := hr1586
                refine op_g ha rfl (hi1587.gives sl48 rfl rfl) ?_; clear ha a; intro a ha
                refine o_storeE (f := []) (q := x1563 + 1) ha Try.sizeOf3 rfl rfl rfl h1387 hi1587 ⟨rfl, hI1575, rfl⟩ (Nq.nil _) ?_; intro w1589 fs1590 h1591 hc1592 hs1593
                obtain rfl := Subst.nil hs1593
                replace hB1379 := hB1379.nq hc1592 q1399
                replace hB1381 := hB1381.nq hc1592 q1403
                replace h1384 := h1384.nq hc1592 q1407
                replace h1393 := h1393.nq hc1592 q1416
                have hE1594 := Ext.then hE1417 hc1592 (Zn.bl z1388)
                refine wpList_nil ?_; replace ha := ha.sub (σ' := [(2, (.pointer (some ⟨b1, 0, none⟩))), (3, (.pointer (some ⟨b9, 0, none⟩))), (5, (.int .i64 (a1_0.length : Int))), (6, (.int .i64 (a0_0.length : Int))), (9, vqr1o2_1), (10, v1390), (11, v698), (12, (.int .i64 i700)), (79, (.int .i64 (a1_0.length : Int))), (80, (.int .i64 i700)), (93, v1254), (94, (.int .i64 (x1243.length : Int))), (95, (.int .i64 i1395))]) ⟨rfl, rfl, rfl, rfl, rfl, rfl, rfl, rfl, rfl, rfl, rfl, rfl, rfl, trivial⟩; refine e_blk ?_; refine e_then ?_; refine wp_region_lit ?_; obtain ⟨hI1595, hF⟩ := ck_some hF; refine op_g ha rfl (g_add rfl rfl hI1595) ?_; clear ha a; intro a ha
                refine op_g ha rfl (g_move rfl) ?_; clear ha a; intro a ha; refine wpList_nil ?_; replace ha := ha.sub (σ' := [(2, (.pointer (some ⟨b1, 0, none⟩))), (3, (.pointer (some ⟨b9, 0, none⟩))), (5, (.int .i64 (a1_0.length : Int))), (6, (.int .i64 (a0_0.length : Int))), (9, vqr1o2_1), (10, v1390), (11, v698), (12, (.int .i64 i700)), (79, (.int .i64 (a1_0.length : Int))), (80, (.int .i64 i700)), (93, v1254), (94, (.int .i64 (x1243.length : Int))), (95, (.int .i64 (i1395 + 1)))]) ⟨rfl, rfl, rfl, rfl, rfl, rfl, rfl, rfl, rfl, rfl, rfl, rfl, rfl, trivial⟩; refine e_lq ?_; obtain rfl := Option.some.inj hF
                exact ⟨_, Nat.lt_succ_self _, (l1389.set ((x1551 : Int).toNat) (x1563 + 1)), i1395 + 1, v1390, b1391, ha.sub ⟨rfl, rfl, rfl, rfl, rfl, rfl, rfl, rfl, rfl, rfl, rfl, rfl, rfl, trivial⟩, hE1594, hI1595, hB1379, z1380, hB1381, z1382, h1384, z1385, h1591, z1388, h1393, z1394, q1397, q1398, q1399, q1400, q1401, q1402, q1403, q1404, q1405, q1406, q1407, q1408, q1409, q1410, q1411, q1412, q1413, q1414, q1415, q1416, hN1547⟩
              replace hF := if_f hp1550 hF; refine wp_exit ?_; refine e_then_exit ?_; refine e_lq_eq ?_; obtain rfl := Option.some.inj hF
              exact ⟨l1389, v1390, b1391, ha.sub ⟨rfl, rfl, rfl, rfl, rfl, rfl, rfl, rfl, rfl, rfl, trivial⟩, hE1417, hB1379, z1380, hB1381, z1382, h1384, z1385, h1387, z1388, h1393, z1394, q1397, q1398, q1399, q1400, q1401, q1402, q1403, q1404, q1405, q1406, q1407, q1408, q1409, q1410, q1411, q1412, q1413, q1414, q1415, q1416, (LK_inr hN1547).symm⟩
          rintro a w1504 ⟨l1515, v1516, b1517, ha, hE1546, hB1505, z1506, hB1507, z1508, h1510, z1511, h1513, z1514, h1519, z1520, q1521, q1522, q1523, q1524, q1525, q1526, q1527, q1528, q1529, q1530, q1531, q1532, q1533, q1534, q1535, q1536, q1537, q1538, q1539, q1540, rfl⟩
          have hF : F_impl_NiceOk_k5 a1_0 a1_1 l697 i700 l1515 = some _ := hK1543; clear hK1543; unfold F_impl_NiceOk_k5 at hF
          refine e_then ?_; refine wp_seq ?_; refine wp_region_lit ?_; refine op_g ha rfl (g_field0 st33_0 rfl) ?_; clear ha a; intro a ha; refine op_g ha rfl (g_load Try.isAgg25 rfl (hB1507.cell rfl)) ?_; clear ha a; intro a ha; refine op_g ha rfl (g_move rfl) ?_; clear ha a; intro a ha; obtain ⟨x1597, g1598, gx1599, hF⟩ := idx_some hF
          obtain ⟨p1600, cs1601, f1602, hf1603, hpb1604, hat1605, hr1606, hi1607⟩ := ha1_0.at g1598 gx1599
          obtain ⟨rfl, hI1608, rfl⟩ := hr1606
          refine op_g ha rfl (hi1607.gives sl25 rfl rfl) ?_; clear ha a; intro a ha; refine op_g ha rfl (g_load0 hE1546 Try.isAgg2 rfl hat1605.one) ?_; clear ha a; intro a ha; refine op_g ha rfl (g_eql rfl rfl) ?_; clear ha a; intro a ha; refine wpList_nil ?_; replace ha := ha.sub (σ' := [(2, (.pointer (some ⟨b1, 0, none⟩))), (3, (.pointer (some ⟨b9, 0, none⟩))), (5, (.int .i64 (a1_0.length : Int))), (6, (.int .i64 (a0_0.length : Int))), (9, vqr1o2_1), (10, v1516), (11, v698), (12, (.int .i64 i700)), (79, (.int .i64 (a1_0.length : Int))), (80, (.int .i64 i700)), (111, (.bool (decide (x1597 = 3))))]) ⟨rfl, rfl, rfl, rfl, rfl, rfl, rfl, rfl, rfl, rfl, rfl, trivial⟩
          refine e_then ?_; refine c_cond (x1597 = 3) ha rfl (decide_eq_true_iff) (fun hp1609 => ?_) (fun hp1609 => ?_)
          · replace hF := if_t hp1609 hF
            refine wp_region_lit ?_; refine op_g ha rfl (g_move rfl) ?_; clear ha a; intro a ha; refine op_g ha rfl (g_field0 st33_1 rfl) ?_; clear ha a; intro a ha; refine op_g ha rfl (g_load Try.isAgg25 rfl (hB1507.cell rfl)) ?_; clear ha a; intro a ha; refine op_g ha rfl (g_move rfl) ?_; clear ha a; intro a ha; obtain ⟨x1610, g1611, gx1612, hF⟩ := idx_some hF
            obtain ⟨p1613, cs1614, f1615, hf1616, hpb1617, hat1618, hr1619, hi1620⟩ := ha1_1.at g1611 gx1612
            obtain ⟨rfl, hI1621, rfl⟩ := hr1619
            refine op_g ha rfl (hi1620.gives sl25 rfl rfl) ?_; clear ha a; intro a ha; refine op_g ha rfl (g_load0 hE1546 Try.isAgg2 rfl hat1618.one) ?_; clear ha a; intro a ha; obtain ⟨x1622, g1623, gx1624, hF⟩ := idx_some hF
            obtain ⟨p1625, cs1626, f1627, hf1628, hpb1629, hat1630, hr1631, hi1632⟩ := h1519.at g1623 gx1624
            obtain ⟨rfl, hI1633, rfl⟩ := hr1631
            refine op_g ha rfl (hi1632.gives sl48 rfl rfl) ?_; clear ha a; intro a ha; refine op_g ha rfl (g_load Try.isAgg3 rfl hat1630.one) ?_; clear ha a; intro a ha; obtain ⟨hI1634, hF⟩ := ck_some hF; refine op_g ha rfl (g_add rfl rfl hI1634) ?_; clear ha a; intro a ha; obtain ⟨x1636, g1637, gx1638, hF⟩ := idx_some hF
            obtain ⟨p1639, cs1640, f1641, hf1642, hpb1643, hat1644, hr1645, hi1646⟩ := h1519.at g1637 gx1638
            obtain ⟨rfl, hI1647, rfl⟩ := hr1645
            refine op_g ha rfl (hi1646.gives sl48 rfl rfl) ?_; clear ha a; intro a ha
            refine o_storeE (f := []) (q := x1622 + 1) ha Try.sizeOf3 rfl rfl rfl h1519 hi1646 ⟨rfl, hI1634, rfl⟩ (Nq.nil _) ?_; intro w1648 fs1649 h1650 hc1651 hs1652
            obtain rfl := Subst.nil hs1652
            replace hB1505 := hB1505.nq hc1651 q1524
            replace hB1507 := hB1507.nq hc1651 q1528
            replace h1510 := h1510.nq hc1651 q1532
            replace h1513 := h1513.nq hc1651 q1536
            have hE1653 := Ext.then hE1546 hc1651 (Zn.bl z1520)
            refine wpList_nil ?_; replace ha := ha.sub (σ' := [(2, (.pointer (some ⟨b1, 0, none⟩))), (3, (.pointer (some ⟨b9, 0, none⟩))), (5, (.int .i64 (a1_0.length : Int))), (6, (.int .i64 (a0_0.length : Int))), (9, vqr1o2_1), (10, v1516), (11, v698), (79, (.int .i64 (a1_0.length : Int))), (80, (.int .i64 i700))]) ⟨rfl, rfl, rfl, rfl, rfl, rfl, rfl, rfl, rfl, trivial⟩; refine e_blk ?_; refine e_then ?_; refine wp_region_lit ?_; obtain ⟨hI1654, hF⟩ := ck_some hF; refine op_g ha rfl (g_add rfl rfl hI1654) ?_; clear ha a; intro a ha; refine op_g ha rfl (g_move rfl) ?_; clear ha a; intro a ha; refine wpList_nil ?_
            replace ha := ha.sub (σ' := [(2, (.pointer (some ⟨b1, 0, none⟩))), (3, (.pointer (some ⟨b9, 0, none⟩))), (5, (.int .i64 (a1_0.length : Int))), (6, (.int .i64 (a0_0.length : Int))), (9, vqr1o2_1), (10, v1516), (11, v698), (79, (.int .i64 (a1_0.length : Int))), (80, (.int .i64 (i700 + 1)))]) ⟨rfl, rfl, rfl, rfl, rfl, rfl, rfl, rfl, rfl, trivial⟩; refine e_lq ?_; obtain rfl := Option.some.inj hF
            exact ⟨_, Nat.lt_succ_self _, l1515, (l697.set ((x1610 : Int).toNat) (x1622 + 1)), i700 + 1, v1516, b1517, v698, b699, ha.sub ⟨rfl, rfl, rfl, rfl, rfl, rfl, rfl, rfl, rfl, trivial⟩, hE1653, hI1654, hB1505, z1506, hB1507, z1508, h1510, z1511, h1513, z1514, h1650, z1520, q1521, q1522, q1523, q1524, q1525, q1526, q1527, q1528, q1529, q1530, q1531, q1532, q1533, q1534, q1535, q1536, q1537, q1538, q1539, q1540, hN1227⟩
          replace hF := if_f hp1609 hF; refine wp_skip ?_; refine e_blk ?_; refine e_then ?_; refine wp_region_lit ?_; obtain ⟨hI1656, hF⟩ := ck_some hF; refine op_g ha rfl (g_add rfl rfl hI1656) ?_; clear ha a; intro a ha; refine op_g ha rfl (g_move rfl) ?_; clear ha a; intro a ha; refine wpList_nil ?_; replace ha := ha.sub (σ' := [(2, (.pointer (some ⟨b1, 0, none⟩))), (3, (.pointer (some ⟨b9, 0, none⟩))), (5, (.int .i64 (a1_0.length : Int))), (6, (.int .i64 (a0_0.length : Int))), (9, vqr1o2_1), (10, v1516), (11, v698), (79, (.int .i64 (a1_0.length : Int))), (80, (.int .i64 (i700 + 1)))]) ⟨rfl, rfl, rfl, rfl, rfl, rfl, rfl, rfl, rfl, trivial⟩
          refine e_lq ?_; obtain rfl := Option.some.inj hF
          exact ⟨_, Nat.lt_succ_self _, l1515, l697, i700 + 1, v1516, b1517, v698, b699, ha.sub ⟨rfl, rfl, rfl, rfl, rfl, rfl, rfl, rfl, rfl, trivial⟩, hE1546, hI1656, hB1505, z1506, hB1507, z1508, h1510, z1511, h1513, z1514, h1519, z1520, q1521, q1522, q1523, q1524, q1525, q1526, q1527, q1528, q1529, q1530, q1531, q1532, q1533, q1534, q1535, q1536, q1537, q1538, q1539, q1540, hN1227⟩
        replace hF := if_f hp1230 hF; refine wp_exit ?_; refine e_then_exit ?_; refine e_lq_eq ?_; obtain rfl := Option.some.inj hF
        exact ⟨l691, l697, v692, b693, v698, b699, ha.sub ⟨rfl, rfl, rfl, rfl, rfl, trivial⟩, hE722, hB681, z682, h686, z687, h689, z690, h695, z696, q703, q704, q705, q710, q712, q713, q714, q716, q717, q718, q720, q721, (LK_inr hN1227).symm⟩
    rintro a w1191 ⟨l1200, l1206, v1201, b1202, v1207, b1208, ha, hE1226, hB1192, z1193, h1195, z1196, h1198, z1199, h1204, z1205, q1209, q1210, q1211, q1212, q1213, q1214, q1215, q1216, q1217, q1218, q1219, q1220, rfl⟩
    have hF : F_impl_NiceOk_k6 a0_0 a1_0 xqr1o2_1 l1200 l1206 = some _ := hK1223; clear hK1223; unfold F_impl_NiceOk_k6 at hF
    refine e_then ?_; refine wp_seq ?_; refine wp_seq ?_; refine wp_region_lit ?_; refine op_g ha rfl (g_move rfl) ?_; clear ha a; intro a ha; refine op_g ha rfl (g_lenO sl48.und h1198 rfl) ?_; clear ha a; intro a ha; refine op_g ha rfl (g_move rfl) ?_; clear ha a; intro a ha; refine wpList_nil ?_; replace ha := ha.sub (σ' := [(2, (.pointer (some ⟨b1, 0, none⟩))), (5, (.int .i64 (a1_0.length : Int))), (9, vqr1o2_1), (11, v1207), (123, v1201), (124, (.int .i64 (l1200.length : Int))), (125, (.int .i64 0))]) ⟨rfl, rfl, rfl, rfl, rfl, rfl, rfl, trivial⟩; refine e_then ?_; obtain ⟨o1815, ho1816, hK1817⟩ := bnd_some hF
    obtain ⟨n1818, hn1819⟩ := lp_some ho1816; clear ho1816
    refine c_loop (fun a w => Fr 159 [(2, (.pointer (some ⟨b1, 0, none⟩))), (5, (.int .i64 (a1_0.length : Int))), (9, vqr1o2_1), (11, v1207)] a ∧ Chg [] W w ∧ Bx w b1 [va0_0] 31 ∧ Zn W (b1 : Int) ∧ Ow Rp.u32 51 true w [] bqr1o2_1 vqr1o2_1 xqr1o2_1 ∧ Zn W bqr1o2_1 ∧ Ow Rp.int 3 true w [] b1208 v1207 l1206 ∧ Zn W b1208 ∧ Nq ([b1]) bqr1o2_1 ∧ Nq ([b1]) b1208 ∧ Nq (bl bqr1o2_1 ++ []) (b1 : Int) ∧ Nq (bl bqr1o2_1 ++ []) b1208 ∧ Nq (bl b1208 ++ []) (b1 : Int) ∧ Nq (bl b1208 ++ []) bqr1o2_1 ∧ o1815 = .inl ()) (fun n a w => ∃ (i1740 : Int), Fr 159 [(2, (.pointer (some ⟨b1, 0, none⟩))), (5, (.int .i64 (a1_0.length : Int))), (9, vqr1o2_1), (11, v1207), (123, v1201), (124, (.int .i64 (l1200.length : Int))), (125, (.int .i64 i1740))] a ∧ Chg [] W w ∧ InI i1740 ∧ Bx w b1 [va0_0] 31 ∧ Zn W (b1 : Int) ∧ Ow Rp.u32 51 true w [] bqr1o2_1 vqr1o2_1 xqr1o2_1 ∧ Zn W bqr1o2_1 ∧ Ow Rp.int 3 true w [] b1208 v1207 l1206 ∧ Zn W b1208 ∧ Ow Rp.int 3 true w [] b1202 v1201 l1200 ∧ Zn W b1202 ∧ Nq ([b1]) bqr1o2_1 ∧ Nq ([b1]) b1208 ∧ Nq ([b1]) b1202 ∧ Nq (bl bqr1o2_1 ++ []) (b1 : Int) ∧ Nq (bl bqr1o2_1 ++ []) b1208 ∧ Nq (bl bqr1o2_1 ++ []) b1202 ∧ Nq (bl b1208 ++ []) (b1 : Int) ∧ Nq (bl b1208 ++ []) bqr1o2_1 ∧ Nq (bl b1208 ++ []) b1202 ∧ Nq (bl b1202 ++ []) (b1 : Int) ∧ Nq (bl b1202 ++ []) bqr1o2_1 ∧ Nq (bl b1202 ++ []) b1208 ∧ lpN (fun s => F_impl_NiceOk_l7 a1_0 l1200 s) n i1740 = some o1815) n1818 ⟨0, ha.sub ⟨rfl, rfl, rfl, rfl, rfl, rfl, rfl, trivial⟩, hE1226, (show InI 0 from by decide), hB1192, z1193, h1195, z1196, h1204, z1205, h1198, z1199, q1209, q1211, q1210, q1212, q1214, q1213, q1218, q1219, q1220, q1215, q1216, q1217, hn1819⟩ ?_ ?_
    · rintro m1823 a w1728 ⟨i1740, ha, hE1754, hI1741, hB1729, z1730, h1732, z1733, h1735, z1736, h1738, z1739, q1742, q1743, q1744, q1745, q1746, q1747, q1748, q1749, q1750, q1751, q1752, q1753, hF⟩
      cases m1823 with
      | zero => exact (lpN_zero hF).elim
      | succ m1823 =>
        obtain ⟨z1822, hF, hN1821⟩ := lpN_succ hF
        have hF : F_impl_NiceOk_l7 a1_0 l1200 i1740 = some z1822 := hF; unfold F_impl_NiceOk_l7 at hF
        refine wp_seq ?_; refine wp_region_lit ?_; refine op_g ha rfl (g_lss rfl rfl) ?_; clear ha a; intro a ha; refine wpList_nil ?_; replace ha := ha.sub (σ' := [(2, (.pointer (some ⟨b1, 0, none⟩))), (5, (.int .i64 (a1_0.length : Int))), (9, vqr1o2_1), (11, v1207), (123, v1201), (124, (.int .i64 (l1200.length : Int))), (125, (.int .i64 i1740)), (126, (.bool (decide (i1740 < (l1200.length : Int)))))]) ⟨rfl, rfl, rfl, rfl, rfl, rfl, rfl, rfl, trivial⟩; refine e_then ?_; refine wp_seq ?_; refine c_cond (i1740 < (l1200.length : Int)) ha rfl (decide_eq_true_iff) (fun hp1824 => ?_) (fun hp1824 => ?_)
        · replace hF := if_t hp1824 hF
          refine wp_skip ?_; refine e_then ?_; refine wp_seq ?_; refine wp_block ?_; refine wp_seq ?_; refine wp_region_lit ?_; refine op_g ha rfl (g_move rfl) ?_; clear ha a; intro a ha; obtain ⟨x1825, g1826, gx1827, hF⟩ := idx_some hF
          obtain ⟨p1828, cs1829, f1830, hf1831, hpb1832, hat1833, hr1834, hi1835⟩ := h1738.at g1826 gx1827
          obtain ⟨rfl, hI1836, rfl⟩ := hr1834
          refine op_g ha rfl (hi1835.gives sl48 rfl rfl) ?_; clear ha a; intro a ha; refine op_g ha rfl (g_load Try.isAgg3 rfl hat1833.one) ?_; clear ha a; intro a ha; (iterate 2 refine op_g ha rfl (g_assign rfl) ?_; clear ha a; intro a ha); refine wpList_nil ?_; replace ha := ha.sub (σ' := [(2, (.pointer (some ⟨b1, 0, none⟩))), (5, (.int .i64 (a1_0.length : Int))), (9, vqr1o2_1), (11, v1207), (15, (.int .i64 i1740)), (16, (.int .i64 x1825)), (123, v1201), (124, (.int .i64 (l1200.length : Int))), (125, (.int .i64 i1740))]) ⟨rfl, rfl, rfl, rfl, rfl, rfl, rfl, rfl, rfl, trivial⟩; refine e_then ?_
          refine wp_seq ?_; refine wp_region_lit ?_; refine op_g ha rfl (g_move rfl) ?_; clear ha a; intro a ha; refine op_g ha rfl (g_eql rfl rfl) ?_; clear ha a; intro a ha; (iterate 2 refine op_g ha rfl (g_move rfl) ?_; clear ha a; intro a ha); obtain ⟨hI1837, hF⟩ := ck_some hF; refine op_g ha rfl (g_sub rfl rfl hI1837) ?_; clear ha a; intro a ha; refine op_g ha rfl (g_lss rfl rfl) ?_; clear ha a; intro a ha; refine op_g ha rfl (gB_neq un4 rfl rfl) ?_; clear ha a; intro a ha; refine op_g ha rfl (g_move rfl) ?_; clear ha a; intro a ha
          by_cases hp1839 : ((decide (x1825 = 1)) != (decide (i1740 < ((a1_0.length : Int) - 1)))) = true
          · replace hF := if_t hp1839 hF
            rw [show ((decide (x1825 = 1)) != (decide (i1740 < ((a1_0.length : Int) - 1)))) = true from (Iff.rfl).2 hp1839] at ha
            (iterate 2 refine op_unwant ha rfl (yields ha rfl rfl) rfl ?_; clear ha a; intro a ha); refine op_g ha rfl (g_pick rfl rfl) ?_; clear ha a; intro a ha; refine wpList_nil ?_; replace ha := ha.sub (σ' := [(2, (.pointer (some ⟨b1, 0, none⟩))), (5, (.int .i64 (a1_0.length : Int))), (9, vqr1o2_1), (11, v1207), (123, v1201), (124, (.int .i64 (l1200.length : Int))), (125, (.int .i64 i1740)), (140, (.bool true))]) ⟨rfl, rfl, rfl, rfl, rfl, rfl, rfl, rfl, trivial⟩; refine e_then ?_; refine c_true ha rfl ?_; refine wp_seq ?_; refine wp_region_lit ?_; refine op_g ha rfl (g_assign rfl) ?_; clear ha a; intro a ha
            refine wpList_nil ?_; replace ha := ha.sub (σ' := [(4, (.bool false))]) ⟨rfl, trivial⟩; refine e_then ?_; refine wp_ret ?_; refine e_blk_ret ?_; refine e_then_ret ?_; refine e_lq_ret ?_; refine e_then_ret ?_; obtain rfl := Option.some.inj hF
            have e1840 := LK_inr hN1821; subst e1840
            have e1841 := BK_inr hK1817; subst e1841
            exact f_ret1 ha rfl rfl ⟨rfl, hE1754⟩
          replace hF := if_f hp1839 hF
          rw [show ((decide (x1825 = 1)) != (decide (i1740 < ((a1_0.length : Int) - 1)))) = false from b_false (Iff.rfl) hp1839] at ha
          refine op_want (yields ha rfl rfl) ?_; refine op_g ha rfl (g_move rfl) ?_; clear ha a; intro a ha; refine op_want (yields ha rfl rfl) ?_; refine op_g ha rfl (g_gtr rfl rfl) ?_; clear ha a; intro a ha; refine op_g ha rfl (g_pick rfl rfl) ?_; clear ha a; intro a ha; refine wpList_nil ?_; replace ha := ha.sub (σ' := [(2, (.pointer (some ⟨b1, 0, none⟩))), (5, (.int .i64 (a1_0.length : Int))), (9, vqr1o2_1), (11, v1207), (123, v1201), (124, (.int .i64 (l1200.length : Int))), (125, (.int .i64 i1740)), (138, (.int .i64 x1825)), (139, (.bool (decide (1 < x1825)))), (140, (.bool (decide (1 < x1825))))]) ⟨rfl, rfl, rfl, rfl, rfl, rfl, rfl, rfl, rfl, rfl, trivial⟩
          refine e_then ?_; refine c_cond (1 < x1825) ha rfl (decide_eq_true_iff) (fun hp1842 => ?_) (fun hp1842 => ?_)
          · replace hF := if_t hp1842 hF
            refine wp_seq ?_; refine wp_region_lit ?_; refine op_g ha rfl (g_assign rfl) ?_; clear ha a; intro a ha; refine wpList_nil ?_; replace ha := ha.sub (σ' := [(4, (.bool false))]) ⟨rfl, trivial⟩; refine e_then ?_; refine wp_ret ?_; refine e_blk_ret ?_; refine e_then_ret ?_; refine e_lq_ret ?_; refine e_then_ret ?_; obtain rfl := Option.some.inj hF
            have e1843 := LK_inr hN1821; subst e1843
            have e1844 := BK_inr hK1817; subst e1844
            exact f_ret1 ha rfl rfl ⟨rfl, hE1754⟩
          replace hF := if_f hp1842 hF; refine wp_skip ?_; refine e_blk ?_; refine e_then ?_; refine wp_region_lit ?_; obtain ⟨hI1845, hF⟩ := ck_some hF; refine op_g ha rfl (g_add rfl rfl hI1845) ?_; clear ha a; intro a ha; refine op_g ha rfl (g_move rfl) ?_; clear ha a; intro a ha; refine wpList_nil ?_; replace ha := ha.sub (σ' := [(2, (.pointer (some ⟨b1, 0, none⟩))), (5, (.int .i64 (a1_0.length : Int))), (9, vqr1o2_1), (11, v1207), (123, v1201), (124, (.int .i64 (l1200.length : Int))), (125, (.int .i64 (i1740 + 1))), (138, (.int .i64 x1825)), (139, (.bool (decide (1 < x1825))))]) ⟨rfl, rfl, rfl, rfl, rfl, rfl, rfl, rfl, rfl, trivial⟩
          refine e_lq ?_; obtain rfl := Option.some.inj hF
          exact ⟨_, Nat.lt_succ_self _, i1740 + 1, ha.sub ⟨rfl, rfl, rfl, rfl, rfl, rfl, rfl, trivial⟩, hE1754, hI1845, hB1729, z1730, h1732, z1733, h1735, z1736, h1738, z1739, q1742, q1743, q1744, q1745, q1746, q1747, q1748, q1749, q1750, q1751, q1752, q1753, hN1821⟩
        replace hF := if_f hp1824 hF; refine wp_exit ?_; refine e_then_exit ?_; refine e_lq_eq ?_; obtain rfl := Option.some.inj hF
        exact ⟨ha.sub ⟨rfl, rfl, rfl, rfl, trivial⟩, hE1754, hB1729, z1730, h1732, z1733, h1735, z1736, q1742, q1743, q1745, q1746, q1748, q1749, (LK_inr hN1821).symm⟩
    rintro a w1800 ⟨ha, hE1820, hB1801, z1802, h1804, z1805, h1807, z1808, q1809, q1810, q1811, q1812, q1813, q1814, rfl⟩
    have hF : F_impl_NiceOk_k8 a0_0 a1_0 xqr1o2_1 l1206 = some _ := hK1817; clear hK1817; unfold F_impl_NiceOk_k8 at hF
    refine e_then ?_; refine wp_seq ?_; refine wp_region_lit ?_; (iterate 2 refine op_g ha rfl (g_move rfl) ?_; clear ha a; intro a ha); obtain ⟨hI1847, hF⟩ := ck_some hF; refine op_g ha rfl (g_sub rfl rfl hI1847) ?_; clear ha a; intro a ha; obtain ⟨x1849, g1850, gx1851, hF⟩ := idx_some hF
    obtain ⟨p1852, cs1853, f1854, hf1855, hpb1856, hat1857, hr1858, hi1859⟩ := h1804.at g1850 gx1851
    obtain ⟨rfl, rfl⟩ := hr1858
    refine op_g ha rfl (hi1859.gives sl46 rfl rfl) ?_; clear ha a; intro a ha; refine op_g ha rfl (g_load Try.isAgg51 rfl hat1857.one) ?_; clear ha a; intro a ha; refine op_g ha rfl (g32_eql (m := x1849) (n := (0#32)) rfl rfl) ?_; clear ha a; intro a ha; refine op_g ha rfl (g_move rfl) ?_; clear ha a; intro a ha
    by_cases hp1860 : x1849 = (0#32)
    · replace hF := if_t hp1860 hF
      rw [show (decide (x1849 = (0#32))) = true from (decide_eq_true_iff).2 hp1860] at ha
      refine op_want (yields ha rfl rfl) ?_; refine op_g ha rfl (g_move rfl) ?_; clear ha a; intro a ha; refine op_want (yields ha rfl rfl) ?_
      obtain ⟨fp1861, hro1862, hs1863⟩ := h1807.roF
      obtain ⟨x1866, hc1867, hF⟩ := cal_some hF
      refine o_call ha rfl rfl Try.call24 (W_slices_ContainsFunc_int hro1862 (by intro _ hy1865 z1864 hz1864 r hr; exact W_impl_NiceOk_1 hz1864 hr) Try.call25 hc1867) ?_; clear ha a; rintro v1868 w1869 ⟨rfl, hx1870⟩ a ha
      replace hB1801 := hB1801.ext hx1870
      replace h1804 := h1804.ext hx1870
      replace h1807 := h1807.ext hx1870
      have hE1871 := Ext.trans hE1820 hx1870
      refine op_want (yields ha rfl rfl) ?_; refine op_g ha rfl (g_not rfl) ?_; clear ha a; intro a ha; refine op_g ha rfl (g_pick rfl rfl) ?_; clear ha a; intro a ha; refine op_g ha rfl (g_move rfl) ?_; clear ha a; intro a ha
      by_cases hp1872 : ¬ (x1866 = true)
      · replace hF := if_t hp1872 hF
        rw [show (!x1866) = true from (n_iff (Iff.rfl)).2 hp1872] at ha
        refine op_want (yields ha rfl rfl) ?_; refine op_g ha rfl (g_loadA (cs := [va0_0]) Try.isAgg31 Try.sizeOf31 rfl (by simp) hB1801.all) ?_; clear ha a; intro a ha; refine op_want (yields ha rfl rfl) ?_; obtain ⟨x1873, hc1874, hF⟩ := cal_some hF
        refine o_call ha rfl rfl Try.call27 (W_impl_netsOf (ha0_0.ext hE1871) hc1874) ?_; clear ha a; rintro v1875 w1876 ⟨b1878, h1879, z1880, hx1877⟩ a ha
        have q1882 := Nq.new hB1801.fpb z1880
        have q1883 := Nq.madeO z1880 hB1801.bi
        have q1884 := Nq.new h1804.fpb z1880
        have q1885 := Nq.madeO z1880 h1804.blt
        have q1886 := Nq.new h1807.fpb z1880
        have q1887 := Nq.madeO z1880 h1807.blt
        replace hB1801 := hB1801.ext hx1877
        replace h1804 := h1804.ext hx1877
        replace h1807 := h1807.ext hx1877
        have hE1888 := Ext.trans hE1871 hx1877
        have q1889 := Zn.upD z1880 hE1871
        refine op_want (yields ha rfl rfl) ?_; refine op_g ha rfl (g_move rfl) ?_; clear ha a; intro a ha; refine op_want (yields ha rfl rfl) ?_
        obtain ⟨fp1890, hro1891, hs1892⟩ := h1879.roF
        obtain ⟨fp1893, hro1894, hs1895⟩ := h1804.roF
        obtain ⟨x1896, hc1897, hF⟩ := cal_some hF
        refine o_call ha rfl rfl Try.call26 (W_impl_coversEdges hro1891 hro1894 hc1897) ?_; clear ha a; rintro v1898 w1899 ⟨rfl, hx1900⟩ a ha
        replace hB1801 := hB1801.ext hx1900
        replace h1804 := h1804.ext hx1900
        replace h1807 := h1807.ext hx1900
        replace h1879 := h1879.ext hx1900
        have hE1901 := Ext.trans hE1888 hx1900
        refine op_g ha rfl (g_pick rfl rfl) ?_; clear ha a; intro a ha; refine op_g ha rfl (g_assign rfl) ?_; clear ha a; intro a ha; refine wpList_nil ?_; replace ha := ha.sub (σ' := [(4, (.bool x1896))]) ⟨rfl, trivial⟩; refine e_then ?_; refine wp_ret ?_; obtain rfl := Option.some.inj hF
        exact f_ret1 ha rfl rfl ⟨rfl, hE1901⟩
      replace hF := if_f hp1872 hF
      rw [show (!x1866) = false from b_false (n_iff (Iff.rfl)) hp1872] at ha
      (iterate 4 refine op_unwant ha rfl (yields ha rfl rfl) rfl ?_; clear ha a; intro a ha); refine op_g ha rfl (g_pick rfl rfl) ?_; clear ha a; intro a ha; refine op_g ha rfl (g_assign rfl) ?_; clear ha a; intro a ha; refine wpList_nil ?_; replace ha := ha.sub (σ' := [(4, (.bool false))]) ⟨rfl, trivial⟩; refine e_then ?_; refine wp_ret ?_; obtain rfl := Option.some.inj hF
      exact f_ret1 ha rfl rfl ⟨rfl, hE1871⟩
    replace hF := if_f hp1860 hF
    rw [show (decide (x1849 = (0#32))) = false from b_false (decide_eq_true_iff) hp1860] at ha
    (iterate 3 refine op_unwant ha rfl (yields ha rfl rfl) rfl ?_; clear ha a; intro a ha); refine op_g ha rfl (g_pick rfl rfl) ?_; clear ha a; intro a ha; refine op_g ha rfl (g_move rfl) ?_; clear ha a; intro a ha; (iterate 4 refine op_unwant ha rfl (yields ha rfl rfl) rfl ?_; clear ha a; intro a ha); refine op_g ha rfl (g_pick rfl rfl) ?_; clear ha a; intro a ha; refine op_g ha rfl (g_assign rfl) ?_; clear ha a; intro a ha; refine wpList_nil ?_; replace ha := ha.sub (σ' := [(4, (.bool false))]) ⟨rfl, trivial⟩; refine e_then ?_; refine wp_ret ?_; obtain rfl := Option.some.inj hF
    exact f_ret1 ha rfl rfl ⟨rfl, hE1820⟩
  skip
  replace hB130 := hB130.ext hxqr1o6_2
  replace hB132 := hB132.ext hxqr1o6_2
  replace hqr1o6_1 := hqr1o6_1.ext hxqr1o6_2
  have hEqr1o4_1 := Ext.trans hEqr1o6_2 hxqr1o6_2
  refine o_make (z0 := (0 : Int)) Rp.int ha rfl sl48 rfl (fun w => ⟨rfl, by decide, rfl⟩) rfl gqr1o4_1 gqr1o4_1b ?_; clear ha a; intro vqr1o4_1 wqr1o4_1 hqr1o4_1 hxqr1o4_1 a ha
  obtain ⟨bqr1o4_1, hbqr1o4_1⟩ : ∃ b : Int, b = wqr1o6_2.heap.size := ⟨_, rfl⟩; rw [← hbqr1o4_1] at hqr1o4_1
  have qqr1o4_1 := zn_of hbqr1o4_1
  have qqr1o4_2 := Nq.new hB130.fpb qqr1o4_1
  have qqr1o4_3 := Nq.madeO qqr1o4_1 hB130.bi
  have qqr1o4_4 := Nq.new hB132.fpb qqr1o4_1
  have qqr1o4_5 := Nq.madeO qqr1o4_1 hB132.bi
  have qqr1o4_6 := Nq.new hqr1o6_1.fpb qqr1o4_1
  have qqr1o4_7 := Nq.madeO qqr1o4_1 hqr1o6_1.blt
  have qqr1o4_8 := Zn.upD qqr1o4_1 hEqr1o4_1
  replace hB130 := hB130.ext hxqr1o4_1
  replace hB132 := hB132.ext hxqr1o4_1
  replace hqr1o6_1 := hqr1o6_1.ext hxqr1o4_1
  have hEqr1o4_2 := Ext.trans hEqr1o4_1 hxqr1o4_1
  refine wpList_nil (e_sq ?_)
  refine ⟨fun _ => hxqr1o4_1, ?_⟩
  refine u_only 2 rfl (by kernel_rfl) ?_; intro wqr1o2_1 hxqr1o2_1
  replace hB130 := hB130.ext hxqr1o2_1
  replace hB132 := hB132.ext hxqr1o2_1
  replace hqr1o6_1 := hqr1o6_1.ext hxqr1o2_1
  replace hqr1o4_1 := hqr1o4_1.ext hxqr1o2_1
  have hEqr1o2_1 := Ext.trans hEqr1o4_2 hxqr1o2_1
  refine o_call ha rfl rfl Try.call22 (W_impl_bagMasks (ha1_2.ext hEqr1o2_1) hcqr1o2_1) ?_; clear ha a; rintro vqr1o2_1 wqr1o2_2 ⟨bqr1o2_1, hqr1o2_1, zqr1o2_1, hxqr1o2_2⟩ a ha
  have qqr1o2_1 := Nq.new hB130.fpb zqr1o2_1
  have qqr1o2_2 := Nq.madeO zqr1o2_1 hB130.bi
  have qqr1o2_3 := Nq.new hB132.fpb zqr1o2_1
  have qqr1o2_4 := Nq.madeO zqr1o2_1 hB132.bi
  have qqr1o2_5 := Nq.new hqr1o6_1.fpb zqr1o2_1
  have qqr1o2_6 := Nq.madeO zqr1o2_1 hqr1o6_1.blt
  have qqr1o2_7 := Nq.new hqr1o4_1.fpb zqr1o2_1
  have qqr1o2_8 := Nq.madeO zqr1o2_1 hqr1o4_1.blt
  replace hB130 := hB130.ext hxqr1o2_2
  replace hB132 := hB132.ext hxqr1o2_2
  replace hqr1o6_1 := hqr1o6_1.ext hxqr1o2_2
  replace hqr1o4_1 := hqr1o4_1.ext hxqr1o2_2
  have hEqr1o2_2 := Ext.trans hEqr1o2_1 hxqr1o2_2
  have qqr1o2_9 := Zn.upD zqr1o2_1 hEqr1o2_1
  refine wpList_nil (e_sq ?_)
  refine ⟨fun _ => hxqr1o2_2, ?_⟩
  refine u_g 7 rfl (by kernel_rfl) (want0 _) ha rfl (g_assign rfl) ?_; clear ha a; intro a ha; refine u_g 8 rfl (by kernel_rfl) (want0 _) ha rfl (g_assign rfl) ?_; clear ha a; intro a ha; refine u_g 9 rfl (by kernel_rfl) (want0 _) ha rfl (g_assign rfl) ?_; clear ha a; intro a ha
  refine u_done (by kernel_rfl) ?_; intro w174 hx175
  replace hB130 := hB130.ext hx175
  replace hB132 := hB132.ext hx175
  replace hqr1o6_1 := hqr1o6_1.ext hx175
  replace hqr1o4_1 := hqr1o4_1.ext hx175
  replace hqr1o2_1 := hqr1o2_1.ext hx175
  have hE176 := Ext.trans hEqr1o2_2 hx175
  replace ha := ha.sub (σ' := [(2, (.pointer (some ⟨b1, 0, none⟩))), (3, (.pointer (some ⟨b9, 0, none⟩))), (5, (.int .i64 (a1_0.length : Int))), (6, (.int .i64 (a0_0.length : Int))), (9, vqr1o2_1), (10, vqr1o4_1), (11, vqr1o6_1)]) ⟨rfl, rfl, rfl, rfl, rfl, rfl, rfl, trivial⟩; refine e_then ?_; refine wp_seq ?_; refine wp_seq ?_; refine wp_region_lit ?_; (iterate 2 refine op_g ha rfl (g_move rfl) ?_; clear ha a; intro a ha); refine wpList_nil ?_; replace ha := ha.sub (σ' := [(2, (.pointer (some ⟨b1, 0, none⟩))), (3, (.pointer (some ⟨b9, 0, none⟩))), (5, (.int .i64 (a1_0.length : Int))), (6, (.int .i64 (a0_0.length : Int))), (9, vqr1o2_1), (10, vqr1o4_1), (11, vqr1o6_1), (79, (.int .i64 (a1_0.length : Int))), (80, (.int .i64 0))]) ⟨rfl, rfl, rfl, rfl, rfl, rfl, rfl, rfl, rfl, trivial⟩
  refine e_then ?_; obtain ⟨o1221, ho1222, hK1223⟩ := bnd_some hF
  obtain ⟨n1224, hn1225⟩ := lp_some ho1222; clear ho1222
  refine c_loop (fun a w => ∃ (l1200 : (List Int)) (l1206 : (List Int)) (v1201 : Value) (b1202 : Int) (v1207 : Value) (b1208 : Int), Fr 159 [(2, (.pointer (some ⟨b1, 0, none⟩))), (5, (.int .i64 (a1_0.length : Int))), (9, vqr1o2_1), (10, v1201), (11, v1207)] a ∧ Chg [] W w ∧ Bx w b1 [va0_0] 31 ∧ Zn W (b1 : Int) ∧ Ow Rp.u32 51 true w [] bqr1o2_1 vqr1o2_1 xqr1o2_1 ∧ Zn W bqr1o2_1 ∧ Ow Rp.int 3 true w [] b1202 v1201 l1200 ∧ Zn W b1202 ∧ Ow Rp.int 3 true w [] b1208 v1207 l1206 ∧ Zn W b1208 ∧ Nq ([b1]) bqr1o2_1 ∧ Nq ([b1]) b1202 ∧ Nq ([b1]) b1208 ∧ Nq (bl bqr1o2_1 ++ []) (b1 : Int) ∧ Nq (bl bqr1o2_1 ++ []) b1202 ∧ Nq (bl bqr1o2_1 ++ []) b1208 ∧ Nq (bl b1202 ++ []) (b1 : Int) ∧ Nq (bl b1202 ++ []) bqr1o2_1 ∧ Nq (bl b1202 ++ []) b1208 ∧ Nq (bl b1208 ++ []) (b1 : Int) ∧ Nq (bl b1208 ++ []) bqr1o2_1 ∧ Nq (bl b1208 ++ []) b1202 ∧ o1221 = .inl (l1200, l1206)) (fun n a w => ∃ (l691 : (List Int)) (l697 : (List Int)) (i700 : Int) (v692 : Value) (b693 : Int) (v698 : Value) (b699 : Int), Fr 159 [(2, (.pointer (some ⟨b1, 0, none⟩))), (3, (.pointer (some ⟨b9, 0, none⟩))), (5, (.int .i64 (a1_0.length : Int))), (6, (.int .i64 (a0_0.length : Int))), (9, vqr1o2_1), (10, v692), (11, v698), (79, (.int .i64 (a1_0.length : Int))), (80, (.int .i64 i700))] a ∧ Chg [] W w ∧ InI i700 ∧ Bx w b1 [va0_0] 31 ∧ Zn W (b1 : Int) ∧ Bx w b9 [va1_0, va1_1, va1_2, va1_3] 33 ∧ Zn W (b9 : Int) ∧ Ow Rp.u32 51 true w [] bqr1o2_1 vqr1o2_1 xqr1o2_1 ∧ Zn W bqr1o2_1 ∧ Ow Rp.int 3 true w [] b693 v692 l691 ∧ Zn W b693 ∧ Ow Rp.int 3 true w [] b699 v698 l697 ∧ Zn W b699 ∧ Nq ([b1]) (b9 : Int) ∧ Nq ([b1]) bqr1o2_1 ∧ Nq ([b1]) b693 ∧ Nq ([b1]) b699 ∧ Nq ([b9]) (b1 : Int) ∧ Nq ([b9]) bqr1o2_1 ∧ Nq ([b9]) b693 ∧ Nq ([b9]) b699 ∧ Nq (bl bqr1o2_1 ++ []) (b1 : Int) ∧ Nq (bl bqr1o2_1 ++ []) (b9 : Int) ∧ Nq (bl bqr1o2_1 ++ []) b693 ∧ Nq (bl bqr1o2_1 ++ []) b699 ∧ Nq (bl b693 ++ []) (b1 : Int) ∧ Nq (bl b693 ++ []) (b9 : Int) ∧ Nq (bl b693 ++ []) bqr1o2_1 ∧ Nq (bl b693 ++ []) b699 ∧ Nq (bl b699 ++ []) (b1 : Int) ∧ Nq (bl b699 ++ []) (b9 : Int) ∧ Nq (bl b699 ++ []) bqr1o2_1 ∧ Nq (bl b699 ++ []) b693 ∧ lpN (fun s => F_impl_NiceOk_l3 a0_0 a1_0 a1_1 a1_2 a1_3 xqr1o2_1 s.1 s.2.1 s.2.2) n (l691, l697, i700) = some o1221) n1224 ⟨(List.replicate ((a1_0.length : Int) : Int).toNat (0 : Int)), (List.replicate ((a0_0.length : Int) : Int).toNat (0 : Int)), 0, vqr1o4_1, bqr1o4_1, vqr1o6_1, bqr1o6_1, ha.sub ⟨rfl, rfl, rfl, rfl, rfl, rfl, rfl, rfl, rfl, trivial⟩, hE176, (show InI 0 from by decide), hB130, z131, hB132, z133, hqr1o2_1, qqr1o2_9, hqr1o4_1, qqr1o4_8, hqr1o6_1, qqr1o6_6, q134, qqr1o2_1, qqr1o4_2, qqr1o6_2, q135, qqr1o2_3, qqr1o4_4, qqr1o6_4, qqr1o2_2, qqr1o2_4, qqr1o2_8, qqr1o2_6, qqr1o4_3, qqr1o4_5, qqr1o2_7, qqr1o4_7, qqr1o6_3, qqr1o6_5, qqr1o2_5, qqr1o4_6, hn1225⟩ ?_ ?_
  · rintro m1229 a w680 ⟨l691, l697, i700, v692, b693, v698, b699, ha, hE722, hI701, hB681, z682, hB683, z684, h686, z687, h689, z690, h695, z696, q702, q703, q704, q705, q706, q707, q708, q709, q710, q711, q712, q713, q714, q715, q716, q717, q718, q719, q720, q721, hF⟩
    cases m1229 with
    | zero => exact (lpN_zero hF).elim
    | succ m1229 =>
      obtain ⟨z1228, hF, hN1227⟩ := lpN_succ hF
      have hF : F_impl_NiceOk_l3 a0_0 a1_0 a1_1 a1_2 a1_3 xqr1o2_1 l691 l697 i700 = some z1228 := hF; unfold F_impl_NiceOk_l3 at hF
      refine wp_seq ?_; refine wp_region_lit ?_; refine op_g ha rfl (g_lss rfl rfl) ?_; clear ha a; intro a ha; refine wpList_nil ?_; replace ha := ha.sub (σ' := [(2, (.pointer (some ⟨b1, 0, none⟩))), (3, (.pointer (some ⟨b9, 0, none⟩))), (5, (.int .i64 (a1_0.length : Int))), (6, (.int .i64 (a0_0.length : Int))), (9, vqr1o2_1), (10, v692), (11, v698), (79, (.int .i64 (a1_0.length : Int))), (80, (.int .i64 i700)), (81, (.bool (decide (i700 < (a1_0.length : Int)))))]) ⟨rfl, rfl, rfl, rfl, rfl, rfl, rfl, rfl, rfl, rfl, trivial⟩; refine e_then ?_; refine wp_seq ?_; refine c_cond (i700 < (a1_0.length : Int)) ha rfl (decide_eq_true_iff) (fun hp1230 => ?_) (fun hp1230 => ?_)
      · replace hF := if_t hp1230 hF
        refine wp_skip ?_; refine e_then ?_; refine wp_seq ?_; refine wp_block ?_; refine wp_seq ?_; refine wp_region_lit ?_; refine op_g ha rfl (g_move rfl) ?_; clear ha a; intro a ha; refine op_g ha rfl (g_assign rfl) ?_; clear ha a; intro a ha; refine wpList_nil ?_; replace ha := ha.sub (σ' := [(2, (.pointer (some ⟨b1, 0, none⟩))), (3, (.pointer (some ⟨b9, 0, none⟩))), (5, (.int .i64 (a1_0.length : Int))), (6, (.int .i64 (a0_0.length : Int))), (9, vqr1o2_1), (10, v692), (11, v698), (12, (.int .i64 i700)), (79, (.int .i64 (a1_0.length : Int))), (80, (.int .i64 i700))]) ⟨rfl, rfl, rfl, rfl, rfl, rfl, rfl, rfl, rfl, rfl, trivial⟩
        refine e_then ?_; refine wp_seq ?_; refine wp_seq ?_; refine wp_region_lit ?_; refine op_g ha rfl (g_loadA (cs := [va1_0, va1_1, va1_2, va1_3]) Try.isAgg33 Try.sizeOf33 rfl (by simp) hB683.all) ?_; clear ha a; intro a ha; (iterate 3 refine op_g ha rfl (g_move rfl) ?_; clear ha a; intro a ha)
        obtain ⟨fp1231, hro1232, hs1233⟩ := h686.roF
        obtain ⟨x1234, hc1235, hF⟩ := cal_some hF
        refine o_call ha rfl rfl Try.call23 (W_impl_goodNode (ha1_0.ext hE722) (ha1_1.ext hE722) (ha1_2.ext hE722) (ha1_3.ext hE722) hI701 hro1232 ha0_0.len hc1235) ?_; clear ha a; rintro v1236 w1237 ⟨rfl, hx1238⟩ a ha
        replace hB681 := hB681.ext hx1238
        replace hB683 := hB683.ext hx1238
        replace h686 := h686.ext hx1238
        replace h689 := h689.ext hx1238
        replace h695 := h695.ext hx1238
        have hE1239 := Ext.trans hE722 hx1238
        refine op_g ha rfl (g_not rfl) ?_; clear ha a; intro a ha; refine wpList_nil ?_; replace ha := ha.sub (σ' := [(2, (.pointer (some ⟨b1, 0, none⟩))), (3, (.pointer (some ⟨b9, 0, none⟩))), (5, (.int .i64 (a1_0.length : Int))), (6, (.int .i64 (a0_0.length : Int))), (9, vqr1o2_1), (10, v692), (11, v698), (12, (.int .i64 i700)), (79, (.int .i64 (a1_0.length : Int))), (80, (.int .i64 i700)), (88, (.bool (!x1234)))]) ⟨rfl, rfl, rfl, rfl, rfl, rfl, rfl, rfl, rfl, rfl, rfl, trivial⟩; refine e_then ?_; refine c_cond (¬ (x1234 = true)) ha rfl (n_iff (Iff.rfl)) (fun hp1240 => ?_) (fun hp1240 => ?_)
        · replace hF := if_t hp1240 hF
          refine wp_seq ?_; refine wp_region_lit ?_; refine op_g ha rfl (g_assign rfl) ?_; clear ha a; intro a ha; refine wpList_nil ?_; replace ha := ha.sub (σ' := [(4, (.bool false))]) ⟨rfl, trivial⟩; refine e_then ?_; refine wp_ret ?_; refine e_then_ret ?_; refine e_blk_ret ?_; refine e_then_ret ?_; refine e_lq_ret ?_; refine e_then_ret ?_; obtain rfl := Option.some.inj hF
          have e1241 := LK_inr hN1227; subst e1241
          have e1242 := BK_inr hK1223; subst e1242
          exact f_ret1 ha rfl rfl ⟨rfl, hE1239⟩
        replace hF := if_f hp1240 hF; refine wp_skip ?_; refine e_then ?_; refine wp_seq ?_; refine wp_seq ?_; refine wp_region_lit ?_; refine op_g ha rfl (g_field0 st33_3 rfl) ?_; clear ha a; intro a ha; refine op_g ha rfl (g_load Try.isAgg22 rfl (hB683.cell rfl)) ?_; clear ha a; intro a ha; refine op_g ha rfl (g_move rfl) ?_; clear ha a; intro a ha; obtain ⟨x1243, g1244, gx1245, hF⟩ := idx_some hF
        obtain ⟨p1246, cs1247, f1248, hf1249, hpb1250, hat1251, hr1252, hi1253⟩ := ha1_3.at g1244 gx1245
        obtain ⟨v1254, rfl, h1255⟩ := hr1252
        have h1255 : Ro Rp.int W f1248 v1254 x1243 := h1255
        refine op_g ha rfl (hi1253.gives sl22 rfl rfl) ?_; clear ha a; intro a ha; refine op_g ha rfl (g_load0 hE1239 Try.isAgg25 rfl hat1251.one) ?_; clear ha a; intro a ha; refine op_g ha rfl (g_lenR sl25.und h1255 rfl) ?_; clear ha a; intro a ha; refine op_g ha rfl (g_move rfl) ?_; clear ha a; intro a ha; refine wpList_nil ?_; replace ha := ha.sub (σ' := [(2, (.pointer (some ⟨b1, 0, none⟩))), (3, (.pointer (some ⟨b9, 0, none⟩))), (5, (.int .i64 (a1_0.length : Int))), (6, (.int .i64 (a0_0.length : Int))), (9, vqr1o2_1), (10, v692), (11, v698), (12, (.int .i64 i700)), (79, (.int .i64 (a1_0.length : Int))), (80, (.int .i64 i700)), (93, v1254), (94, (.int .i64 (x1243.length : Int))), (95, (.int .i64 0))]) ⟨rfl, rfl, rfl, rfl, rfl, rfl, rfl, rfl, rfl, rfl, rfl, rfl, rfl, trivial⟩
        refine e_then ?_; obtain ⟨o1541, ho1542, hK1543⟩ := bnd_some hF
        obtain ⟨n1544, hn1545⟩ := lp_some ho1542; clear ho1542
        refine c_loop (fun a w => ∃ (l1515 : (List Int)) (v1516 : Value) (b1517 : Int), Fr 159 [(2, (.pointer (some ⟨b1, 0, none⟩))), (3, (.pointer (some ⟨b9, 0, none⟩))), (5, (.int .i64 (a1_0.length : Int))), (6, (.int .i64 (a0_0.length : Int))), (9, vqr1o2_1), (10, v1516), (11, v698), (12, (.int .i64 i700)), (79, (.int .i64 (a1_0.length : Int))), (80, (.int .i64 i700))] a ∧ Chg [] W w ∧ Bx w b1 [va0_0] 31 ∧ Zn W (b1 : Int) ∧ Bx w b9 [va1_0, va1_1, va1_2, va1_3] 33 ∧ Zn W (b9 : Int) ∧ Ow Rp.u32 51 true w [] bqr1o2_1 vqr1o2_1 xqr1o2_1 ∧ Zn W bqr1o2_1 ∧ Ow Rp.int 3 true w [] b1517 v1516 l1515 ∧ Zn W b1517 ∧ Ow Rp.int 3 true w [] b699 v698 l697 ∧ Zn W b699 ∧ Nq ([b1]) (b9 : Int) ∧ Nq ([b1]) bqr1o2_1 ∧ Nq ([b1]) b1517 ∧ Nq ([b1]) b699 ∧ Nq ([b9]) (b1 : Int) ∧ Nq ([b9]) bqr1o2_1 ∧ Nq ([b9]) b1517 ∧ Nq ([b9]) b699 ∧ Nq (bl bqr1o2_1 ++ []) (b1 : Int) ∧ Nq (bl bqr1o2_1 ++ []) (b9 : Int) ∧ Nq (bl bqr1o2_1 ++ []) b1517 ∧ Nq (bl bqr1o2_1 ++ []) b699 ∧ Nq (bl b1517 ++ []) (b1 : Int) ∧ Nq (bl b1517 ++ []) (b9 : Int) ∧ Nq (bl b1517 ++ []) bqr1o2_1 ∧ Nq (bl b1517 ++ []) b699 ∧ Nq (bl b699 ++ []) (b1 : Int) ∧ Nq (bl b699 ++ []) (b9 : Int) ∧ Nq (bl b699 ++ []) bqr1o2_1 ∧ Nq (bl b699 ++ []) b1517 ∧ o1541 = .inl l1515) (fun n a w => ∃ (l1389 : (List Int)) (i1395 : Int) (v1390 : Value) (b1391 : Int), Fr 159 [(2, (.pointer (some ⟨b1, 0, none⟩))), (3, (.pointer (some ⟨b9, 0, none⟩))), (5, (.int .i64 (a1_0.length : Int))), (6, (.int .i64 (a0_0.length : Int))), (9, vqr1o2_1), (10, v1390), (11, v698), (12, (.int .i64 i700)), (79, (.int .i64 (a1_0.length : Int))), (80, (.int .i64 i700)), (93, v1254), (94, (.int .i64 (x1243.length : Int))), (95, (.int .i64 i1395))] a ∧ Chg [] W w ∧ InI i1395 ∧ Bx w b1 [va0_0] 31 ∧ Zn W (b1 : Int) ∧ Bx w b9 [va1_0, va1_1, va1_2, va1_3] 33 ∧ Zn W (b9 : Int) ∧ Ow Rp.u32 51 true w [] bqr1o2_1 vqr1o2_1 xqr1o2_1 ∧ Zn W bqr1o2_1 ∧ Ow Rp.int 3 true w [] b1391 v1390 l1389 ∧ Zn W b1391 ∧ Ow Rp.int 3 true w [] b699 v698 l697 ∧ Zn W b699 ∧ Nq ([b1]) (b9 : Int) ∧ Nq ([b1]) bqr1o2_1 ∧ Nq ([b1]) b1391 ∧ Nq ([b1]) b699 ∧ Nq ([b9]) (b1 : Int) ∧ Nq ([b9]) bqr1o2_1 ∧ Nq ([b9]) b1391 ∧ Nq ([b9]) b699 ∧ Nq (bl bqr1o2_1 ++ []) (b1 : Int) ∧ Nq (bl bqr1o2_1 ++ []) (b9 : Int) ∧ Nq (bl bqr1o2_1 ++ []) b1391 ∧ Nq (bl bqr1o2_1 ++ []) b699 ∧ Nq (bl b1391 ++ []) (b1 : Int) ∧ Nq (bl b1391 ++ []) (b9 : Int) ∧ Nq (bl b1391 ++ []) bqr1o2_1 ∧ Nq (bl b1391 ++ []) b699 ∧ Nq (bl b699 ++ []) (b1 : Int) ∧ Nq (bl b699 ++ []) (b9 : Int) ∧ Nq (bl b699 ++ []) bqr1o2_1 ∧ Nq (bl b699 ++ []) b1391 ∧ lpN (fun s => F_impl_NiceOk_l4 x1243 s.1 s.2) n (l1389, i1395) = some o1541) n1544 ⟨l691, 0, v692, b693, ha.sub ⟨rfl, rfl, rfl, rfl, rfl, rfl, rfl, rfl, rfl, rfl, rfl, rfl, rfl, trivial⟩, hE1239, (show InI 0 from by decide), hB681, z682, hB683, z684, h686, z687, h689, z690, h695, z696, q702, q703, q704, q705, q706, q707, q708, q709, q710, q711, q712, q713, q714, q715, q716, q717, q718, q719, q720, q721, hn1545⟩ ?_ ?_
        · rintro m1549 a w1378 ⟨l1389, i1395, v1390, b1391, ha, hE1417, hI1396, hB1379, z1380, hB1381, z1382, h1384, z1385, h1387, z1388, h1393, z1394, q1397, q1398, q1399, q1400, q1401, q1402, q1403, q1404, q1405, q1406, q1407, q1408, q1409, q1410, q1411, q1412, q1413, q1414, q1415, q1416, hF⟩
          cases m1549 with
          | zero => exact (lpN_zero hF).elim
          | succ m1549 =>
            obtain ⟨z1548, hF, hN1547⟩ := lpN_succ hF
            have hF : F_impl_NiceOk_l4 x1243 l1389 i1395 = some z1548 := hF; unfold F_impl_NiceOk_l4 at hF
            refine wp_seq ?_; refine wp_region_lit ?_; refine op_g ha rfl (g_lss rfl rfl) ?_; clear ha a; intro a ha; refine wpList_nil ?_; replace ha := ha.sub (σ' := [(2, (.pointer (some ⟨b1, 0, none⟩))), (3, (.pointer (some ⟨b9, 0, none⟩))), (5, (.int .i64 (a1_0.length : Int))), (6, (.int .i64 (a0_0.length : Int))), (9, vqr1o2_1), (10, v1390), (11, v698), (12, (.int .i64 i700)), (79, (.int .i64 (a1_0.length : Int))), (80, (.int .i64 i700)), (93, v1254), (94, (.int .i64 (x1243.length : Int))), (95, (.int .i64 i1395)), (96, (.bool (decide (i1395 < (x1243.length : Int)))))]) ⟨rfl, rfl, rfl, rfl, rfl, rfl, rfl, rfl, rfl, rfl, rfl, rfl, rfl, rfl, trivial⟩
            refine e_then ?_; refine wp_seq ?_; refine c_cond (i1395 < (x1243.length : Int)) ha rfl (decide_eq_true_iff) (fun hp1550 => ?_) (fun hp1550 => ?_)
            · replace hF := if_t hp1550 hF
              refine wp_skip ?_; refine e_then ?_; refine wp_seq ?_; refine wp_block ?_; refine wp_seq ?_; refine wp_region_lit ?_; obtain ⟨x1551, g1552, gx1553, hF⟩ := idx_some hF
              obtain ⟨p1554, cs1555, f1556, hf1557, hpb1558, hat1559, hr1560, hi1561⟩ := h1255.at g1552 gx1553
              obtain ⟨rfl, hI1562, rfl⟩ := hr1560
              refine op_g ha rfl (hi1561.gives sl25 rfl rfl) ?_; clear ha a; intro a ha; refine op_g ha rfl (g_load0 hE1417 Try.isAgg2 rfl hat1559.one) ?_; clear ha a; intro a ha; refine op_g ha rfl (g_assign rfl) ?_; clear ha a; intro a ha; refine wpList_nil ?_; replace ha := ha.sub (σ' := [(2, (.pointer (some ⟨b1, 0, none⟩))), (3, (.pointer (some ⟨b9, 0, none⟩))), (5, (.int .i64 (a1_0.length : Int))), (6, (.int .i64 (a0_0.length : Int))), (9, vqr1o2_1), (10, v1390), (11, v698), (12, (.int .i64 i700)), (14, (.int .i64 x1551)), (79, (.int .i64 (a1_0.length : Int))), (80, (.int .i64 i700)), (93, v1254), (94, (.int .i64 (x1243.length : Int))), (95, (.int .i64 i1395))]) ⟨rfl, rfl, rfl, rfl, rfl, rfl, rfl, rfl, rfl, rfl, rfl, rfl, rfl, rfl, trivial⟩
              refine e_then ?_; refine wp_region_lit ?_; (iterate 2 refine op_g ha rfl (g_move rfl) ?_; clear ha a; intro a ha); obtain ⟨x1563, g1564, gx1565, hF⟩ := idx_some hF
              obtain ⟨p1566, cs1567, f1568, hf1569, hpb1570, hat1571, hr1572, hi1573⟩ := h1387.at g1564 gx1565
              obtain ⟨rfl, hI1574, rfl⟩ := hr1572
              refine op_g ha rfl (hi1573.gives sl48 rfl rfl) ?_; clear ha a; intro a ha; refine op_g ha rfl (g_load Try.isAgg3 rfl hat1571.one) ?_; clear ha a; intro a ha; obtain ⟨hI1575, hF⟩ := ck_some hF; refine op_g ha rfl (g_add rfl rfl hI1575) ?_; clear ha a; intro a ha; obtain ⟨x1577, g1578, gx1579, hF⟩ := idx_some hF
              obtain ⟨p1580, cs1581, f1582, hf1583, hpb1584, hat1585, hr1586, hi1587⟩ := h1387.at g1578 gx1579
              obtain ⟨rfl, hI1588, rfl⟩ := hr1586
              refine op_g ha rfl (hi1587.gives sl48 rfl rfl) ?_; clear ha a; intro a ha
              refine o_storeE (f := []) (q := x1563 + 1) ha Try.sizeOf3 rfl rfl rfl h1387 hi1587 ⟨rfl, hI1575, rfl⟩ (Nq.nil _) ?_; intro w1589 fs1590 h1591 hc1592 hs1593
              obtain rfl := Subst.nil hs1593
              replace hB1379 := hB1379.nq hc1592 q1399
              replace hB1381 := hB1381.nq hc1592 q1403
              replace h1384 := h1384.nq hc1592 q1407
              replace h1393 := h1393.nq hc1592 q1416
              have hE1594 := Ext.then hE1417 hc1592 (Zn.bl z1388)
              refine wpList_nil ?_; replace ha := ha.sub (σ' := [(2, (.pointer (some ⟨b1, 0, none⟩))), (3, (.pointer (some ⟨b9, 0, none⟩))), (5, (.int .i64 (a1_0.length : Int))), (6, (.int .i64 (a0_0.length : Int))), (9, vqr1o2_1), (10, v1390), (11, v698), (12, (.int .i64 i700)), (79, (.int .i64 (a1_0.length : Int))), (80, (.int .i64 i700)), (93, v1254), (94, (.int .i64 (x1243.length : Int))), (95, (.int .i64 i1395))]) ⟨rfl, rfl, rfl, rfl, rfl, rfl, rfl, rfl, rfl, rfl, rfl, rfl, rfl, trivial⟩; refine e_blk ?_; refine e_then ?_; refine wp_region_lit ?_; obtain ⟨hI1595, hF⟩ := ck_some hF; refine op_g ha rfl (g_add rfl rfl hI1595) ?_; clear ha a; intro a ha
              refine op_g ha rfl (g_move rfl) ?_; clear ha a; intro a ha; refine wpList_nil ?_; replace ha := ha.sub (σ' := [(2, (.pointer (some ⟨b1, 0, none⟩))), (3, (.pointer (some ⟨b9, 0, none⟩))), (5, (.int .i64 (a1_0.length : Int))), (6, (.int .i64 (a0_0.length : Int))), (9, vqr1o2_1), (10, v1390), (11, v698), (12, (.int .i64 i700)), (79, (.int .i64 (a1_0.length : Int))), (80, (.int .i64 i700)), (93, v1254), (94, (.int .i64 (x1243.length : Int))), (95, (.int .i64 (i1395 + 1)))]) ⟨rfl, rfl, rfl, rfl, rfl, rfl, rfl, rfl, rfl, rfl, rfl, rfl, rfl, trivial⟩; refine e_lq ?_; obtain rfl := Option.some.inj hF
              exact ⟨_, Nat.lt_succ_self _, (l1389.set ((x1551 : Int).toNat) (x1563 + 1)), i1395 + 1, v1390, b1391, ha.sub ⟨rfl, rfl, rfl, rfl, rfl, rfl, rfl, rfl, rfl, rfl, rfl, rfl, rfl, trivial⟩, hE1594, hI1595, hB1379, z1380, hB1381, z1382, h1384, z1385, h1591, z1388, h1393, z1394, q1397, q1398, q1399, q1400, q1401, q1402, q1403, q1404, q1405, q1406, q1407, q1408, q1409, q1410, q1411, q1412, q1413, q1414, q1415, q1416, hN1547⟩
            replace hF := if_f hp1550 hF; refine wp_exit ?_; refine e_then_exit ?_; refine e_lq_eq ?_; obtain rfl := Option.some.inj hF
            exact ⟨l1389, v1390, b1391, ha.sub ⟨rfl, rfl, rfl, rfl, rfl, rfl, rfl, rfl, rfl, rfl, trivial⟩, hE1417, hB1379, z1380, hB1381, z1382, h1384, z1385, h1387, z1388, h1393, z1394, q1397, q1398, q1399, q1400, q1401, q1402, q1403, q1404, q1405, q1406, q1407, q1408, q1409, q1410, q1411, q1412, q1413, q1414, q1415, q1416, (LK_inr hN1547).symm⟩
        rintro a w1504 ⟨l1515, v1516, b1517, ha, hE1546, hB1505, z1506, hB1507, z1508, h1510, z1511, h1513, z1514, h1519, z1520, q1521, q1522, q1523, q1524, q1525, q1526, q1527, q1528, q1529, q1530, q1531, q1532, q1533, q1534, q1535, q1536, q1537, q1538, q1539, q1540, rfl⟩
        have hF : F_impl_NiceOk_k5 a1_0 a1_1 l697 i700 l1515 = some _ := hK1543; clear hK1543; unfold F_impl_NiceOk_k5 at hF
        refine e_then ?_; refine wp_seq ?_; refine wp_region_lit ?_; refine op_g ha rfl (g_field0 st33_0 rfl) ?_; clear ha a; intro a ha; refine op_g ha rfl (g_load Try.isAgg25 rfl (hB1507.cell rfl)) ?_; clear ha a; intro a ha; refine op_g ha rfl (g_move rfl) ?_; clear ha a; intro a ha; obtain ⟨x1597, g1598, gx1599, hF⟩ := idx_some hF
        obtain ⟨p1600, cs1601, f1602, hf1603, hpb1604, hat1605, hr1606, hi1607⟩ := ha1_0.at g1598 gx1599
        obtain ⟨rfl, hI1608, rfl⟩ := hr1606
        refine op_g ha rfl (hi1607.gives sl25 rfl rfl) ?_; clear ha a; intro a ha; refine op_g ha rfl (g_load0 hE1546 Try.isAgg2 rfl hat1605.one) ?_; clear ha a; intro a ha; refine op_g ha rfl (g_eql rfl rfl) ?_; clear ha a; intro a ha; refine wpList_nil ?_; replace ha := ha.sub (σ' := [(2, (.pointer (some ⟨b1, 0, none⟩))), (3, (.pointer (some ⟨b9, 0, none⟩))), (5, (.int .i64 (a1_0.length : Int))), (6, (.int .i64 (a0_0.length : Int))), (9, vqr1o2_1), (10, v1516), (11, v698), (12, (.int .i64 i700)), (79, (.int .i64 (a1_0.length : Int))), (80, (.int .i64 i700)), (111, (.bool (decide (x1597 = 3))))]) ⟨rfl, rfl, rfl, rfl, rfl, rfl, rfl, rfl, rfl, rfl, rfl, trivial⟩
        refine e_then ?_; refine c_cond (x1597 = 3) ha rfl (decide_eq_true_iff) (fun hp1609 => ?_) (fun hp1609 => ?_)
        · replace hF := if_t hp1609 hF
          refine wp_region_lit ?_; refine op_g ha rfl (g_move rfl) ?_; clear ha a; intro a ha; refine op_g ha rfl (g_field0 st33_1 rfl) ?_; clear ha a; intro a ha; refine op_g ha rfl (g_load Try.isAgg25 rfl (hB1507.cell rfl)) ?_; clear ha a; intro a ha; refine op_g ha rfl (g_move rfl) ?_; clear ha a; intro a ha; obtain ⟨x1610, g1611, gx1612, hF⟩ := idx_some hF
          obtain ⟨p1613, cs1614, f1615, hf1616, hpb1617, hat1618, hr1619, hi1620⟩ := ha1_1.at g1611 gx1612
          obtain ⟨rfl, hI1621, rfl⟩ := hr1619
          refine op_g ha rfl (hi1620.gives sl25 rfl rfl) ?_; clear ha a; intro a ha; refine op_g ha rfl (g_load0 hE1546 Try.isAgg2 rfl hat1618.one) ?_; clear ha a; intro a ha; obtain ⟨x1622, g1623, gx1624, hF⟩ := idx_some hF
          obtain ⟨p1625, cs1626, f1627, hf1628, hpb1629, hat1630, hr1631, hi1632⟩ := h1519.at g1623 gx1624
          obtain ⟨rfl, hI1633, rfl⟩ := hr1631
          refine op_g ha rfl (hi1632.gives sl48 rfl rfl) ?_; clear ha a; intro a ha; refine op_g ha rfl (g_load Try.isAgg3 rfl hat1630.one) ?_; clear ha a; intro a ha; obtain ⟨hI1634, hF⟩ := ck_some hF; refine op_g ha rfl (g_add rfl rfl hI1634) ?_; clear ha a; intro a ha; obtain ⟨x1636, g1637, gx1638, hF⟩ := idx_some hF
          obtain ⟨p1639, cs1640, f1641, hf1642, hpb1643, hat1644, hr1645, hi1646⟩ := h1519.at g1637 gx1638
          obtain ⟨rfl, hI1647, rfl⟩ := hr1645
          refine op_g ha rfl (hi1646.gives sl48 rfl rfl) ?_; clear ha a; intro a ha
          refine o_storeE (f := []) (q := x1622 + 1) ha Try.sizeOf3 rfl rfl rfl h1519 hi1646 ⟨rfl, hI1634, rfl⟩ (Nq.nil _) ?_; intro w1648 fs1649 h1650 hc1651 hs1652
          obtain rfl := Subst.nil hs1652
          replace hB1505 := hB1505.nq hc1651 q1524
          replace hB1507 := hB1507.nq hc1651 q1528
          replace h1510 := h1510.nq hc1651 q1532
          replace h1513 := h1513.nq hc1651 q1536
          have hE1653 := Ext.then hE1546 hc1651 (Zn.bl z1520)
          refine wpList_nil ?_; replace ha := ha.sub (σ' := [(2, (.pointer (some ⟨b1, 0, none⟩))), (3, (.pointer (some ⟨b9, 0, none⟩))), (5, (.int .i64 (a1_0.length : Int))), (6, (.int .i64 (a0_0.length : Int))), (9, vqr1o2_1), (10, v1516), (11, v698), (79, (.int .i64 (a1_0.length : Int))), (80, (.int .i64 i700))]) ⟨rfl, rfl, rfl, rfl, rfl, rfl, rfl, rfl, rfl, trivial⟩; refine e_blk ?_; refine e_then ?_; refine wp_region_lit ?_; obtain ⟨hI1654, hF⟩ := ck_some hF; refine op_g ha rfl (g_add rfl rfl hI1654) ?_; clear ha a; intro a ha; refine op_g ha rfl (g_move rfl) ?_; clear ha a; intro a ha; refine wpList_nil ?_
          replace ha := ha.sub (σ' := [(2, (.pointer (some ⟨b1, 0, none⟩))), (3, (.pointer (some ⟨b9, 0, none⟩))), (5, (.int .i64 (a1_0.length : Int))), (6, (.int .i64 (a0_0.length : Int))), (9, vqr1o2_1), (10, v1516), (11, v698), (79, (.int .i64 (a1_0.length : Int))), (80, (.int .i64 (i700 + 1)))]) ⟨rfl, rfl, rfl, rfl, rfl, rfl, rfl, rfl, rfl, trivial⟩; refine e_lq ?_; obtain rfl := Option.some.inj hF
          exact ⟨_, Nat.lt_succ_self _, l1515, (l697.set ((x1610 : Int).toNat) (x1622 + 1)), i700 + 1, v1516, b1517, v698, b699, ha.sub ⟨rfl, rfl, rfl, rfl, rfl, rfl, rfl, rfl, rfl, trivial⟩, hE1653, hI1654, hB1505, z1506, hB1507, z1508, h1510, z1511, h1513, z1514, h1650, z1520, q1521, q1522, q1523, q1524, q1525, q1526, q1527, q1528, q1529, q1530, q1531, q1532, q1533, q1534, q1535, q1536, q1537, q1538, q1539, q1540, hN1227⟩
        replace hF := if_f hp1609 hF; refine wp_skip ?_; refine e_blk ?_; refine e_then ?_; refine wp_region_lit ?_; obtain ⟨hI1656, hF⟩ := ck_some hF; refine op_g ha rfl (g_add rfl rfl hI1656) ?_; clear ha a; intro a ha; refine op_g ha rfl (g_move rfl) ?_; clear ha a; intro a ha; refine wpList_nil ?_; replace ha := ha.sub (σ' := [(2, (.pointer (some ⟨b1, 0, none⟩))), (3, (.pointer (some ⟨b9, 0, none⟩))), (5, (.int .i64 (a1_0.length : Int))), (6, (.int .i64 (a0_0.length : Int))), (9, vqr1o2_1), (10, v1516), (11, v698), (79, (.int .i64 (a1_0.length : Int))), (80, (.int .i64 (i700 + 1)))]) ⟨rfl, rfl, rfl, rfl, rfl, rfl, rfl, rfl, rfl, trivial⟩
        refine e_lq ?_; obtain rfl := Option.some.inj hF
        exact ⟨_, Nat.lt_succ_self _, l1515, l697, i700 + 1, v1516, b1517, v698, b699, ha.sub ⟨rfl, rfl, rfl, rfl, rfl, rfl, rfl, rfl, rfl, trivial⟩, hE1546, hI1656, hB1505, z1506, hB1507, z1508, h1510, z1511, h1513, z1514, h1519, z1520, q1521, q1522, q1523, q1524, q1525, q1526, q1527, q1528, q1529, q1530, q1531, q1532, q1533, q1534, q1535, q1536, q1537, q1538, q1539, q1540, hN1227⟩
      replace hF := if_f hp1230 hF; refine wp_exit ?_; refine e_then_exit ?_; refine e_lq_eq ?_; obtain rfl := Option.some.inj hF
      exact ⟨l691, l697, v692, b693, v698, b699, ha.sub ⟨rfl, rfl, rfl, rfl, rfl, trivial⟩, hE722, hB681, z682, h686, z687, h689, z690, h695, z696, q703, q704, q705, q710, q712, q713, q714, q716, q717, q718, q720, q721, (LK_inr hN1227).symm⟩
  rintro a w1191 ⟨l1200, l1206, v1201, b1202, v1207, b1208, ha, hE1226, hB1192, z1193, h1195, z1196, h1198, z1199, h1204, z1205, q1209, q1210, q1211, q1212, q1213, q1214, q1215, q1216, q1217, q1218, q1219, q1220, rfl⟩
  have hF : F_impl_NiceOk_k6 a0_0 a1_0 xqr1o2_1 l1200 l1206 = some _ := hK1223; clear hK1223; unfold F_impl_NiceOk_k6 at hF
  refine e_then ?_; refine wp_seq ?_; refine wp_seq ?_; refine wp_region_lit ?_; refine op_g ha rfl (g_move rfl) ?_; clear ha a; intro a ha; refine op_g ha rfl (g_lenO sl48.und h1198 rfl) ?_; clear ha a; intro a ha; refine op_g ha rfl (g_move rfl) ?_; clear ha a; intro a ha; refine wpList_nil ?_; replace ha := ha.sub (σ' := [(2, (.pointer (some ⟨b1, 0, none⟩))), (5, (.int .i64 (a1_0.length : Int))), (9, vqr1o2_1), (11, v1207), (123, v1201), (124, (.int .i64 (l1200.length : Int))), (125, (.int .i64 0))]) ⟨rfl, rfl, rfl, rfl, rfl, rfl, rfl, trivial⟩; refine e_then ?_; obtain ⟨o1815, ho1816, hK1817⟩ := bnd_some hF
  obtain ⟨n1818, hn1819⟩ := lp_some ho1816; clear ho1816
  refine c_loop (fun a w => Fr 159 [(2, (.pointer (some ⟨b1, 0, none⟩))), (5, (.int .i64 (a1_0.length : Int))), (9, vqr1o2_1), (11, v1207)] a ∧ Chg [] W w ∧ Bx w b1 [va0_0] 31 ∧ Zn W (b1 : Int) ∧ Ow Rp.u32 51 true w [] bqr1o2_1 vqr1o2_1 xqr1o2_1 ∧ Zn W bqr1o2_1 ∧ Ow Rp.int 3 true w [] b1208 v1207 l1206 ∧ Zn W b1208 ∧ Nq ([b1]) bqr1o2_1 ∧ Nq ([b1]) b1208 ∧ Nq (bl bqr1o2_1 ++ []) (b1 : Int) ∧ Nq (bl bqr1o2_1 ++ []) b1208 ∧ Nq (bl b1208 ++ []) (b1 : Int) ∧ Nq (bl b1208 ++ []) bqr1o2_1 ∧ o1815 = .inl ()) (fun n a w => ∃ (i1740 : Int), Fr 159 [(2, (.pointer (some ⟨b1, 0, none⟩))), (5, (.int .i64 (a1_0.length : Int))), (9, vqr1o2_1), (11, v1207), (123, v1201), (124, (.int .i64 (l1200.length : Int))), (125, (.int .i64 i1740))] a ∧ Chg [] W w ∧ InI i1740 ∧ Bx w b1 [va0_0] 31 ∧ Zn W (b1 : Int) ∧ Ow Rp.u32 51 true w [] bqr1o2_1 vqr1o2_1 xqr1o2_1 ∧ Zn W bqr1o2_1 ∧ Ow Rp.int 3 true w [] b1208 v1207 l1206 ∧ Zn W b1208 ∧ Ow Rp.int 3 true w [] b1202 v1201 l1200 ∧ Zn W b1202 ∧ Nq ([b1]) bqr1o2_1 ∧ Nq ([b1]) b1208 ∧ Nq ([b1]) b1202 ∧ Nq (bl bqr1o2_1 ++ []) (b1 : Int) ∧ Nq (bl bqr1o2_1 ++ []) b1208 ∧ Nq (bl bqr1o2_1 ++ []) b1202 ∧ Nq (bl b1208 ++ []) (b1 : Int) ∧ Nq (bl b1208 ++ []) bqr1o2_1 ∧ Nq (bl b1208 ++ []) b1202 ∧ Nq (bl b1202 ++ []) (b1 : Int) ∧ Nq (bl b1202 ++ []) bqr1o2_1 ∧ Nq (bl b1202 ++ []) b1208 ∧ lpN (fun s => F_impl_NiceOk_l7 a1_0 l1200 s) n i1740 = some o1815) n1818 ⟨0, ha.sub ⟨rfl, rfl, rfl, rfl, rfl, rfl, rfl, trivial⟩, hE1226, (show InI 0 from by decide), hB1192, z1193, h1195, z1196, h1204, z1205, h1198, z1199, q1209, q1211, q1210, q1212, q1214, q1213, q1218, q1219, q1220, q1215, q1216, q1217, hn1819⟩ ?_ ?_
  · rintro m1823 a w1728 ⟨i1740, ha, hE1754, hI1741, hB1729, z1730, h1732, z1733, h1735, z1736, h1738, z1739, q1742, q1743, q1744, q1745, q1746, q1747, q1748, q1749, q1750, q1751, q1752, q1753, hF⟩
    cases m1823 with
    | zero => exact (lpN_zero hF).elim
    | succ m1823 =>
      obtain ⟨z1822, hF, hN1821⟩ := lpN_succ hF
      have hF : F_impl_NiceOk_l7 a1_0 l1200 i1740 = some z1822 := hF; unfold F_impl_NiceOk_l7 at hF
      refine wp_seq ?_; refine wp_region_lit ?_; refine op_g ha rfl (g_lss rfl rfl) ?_; clear ha a; intro a ha; refine wpList_nil ?_; replace ha := ha.sub (σ' := [(2, (.pointer (some ⟨b1, 0, none⟩))), (5, (.int .i64 (a1_0.length : Int))), (9, vqr1o2_1), (11, v1207), (123, v1201), (124, (.int .i64 (l1200.length : Int))), (125, (.int .i64 i1740)), (126, (.bool (decide (i1740 < (l1200.length : Int)))))]) ⟨rfl, rfl, rfl, rfl, rfl, rfl, rfl, rfl, trivial⟩; refine e_then ?_; refine wp_seq ?_; refine c_cond (i1740 < (l1200.length : Int)) ha rfl (decide_eq_true_iff) (fun hp1824 => ?_) (fun hp1824 => ?_)
      · replace hF := if_t hp1824 hF
        refine wp_skip ?_; refine e_then ?_; refine wp_seq ?_; refine wp_block ?_; refine wp_seq ?_; refine wp_region_lit ?_; refine op_g ha rfl (g_move rfl) ?_; clear ha a; intro a ha; obtain ⟨x1825, g1826, gx1827, hF⟩ := idx_some hF
        obtain ⟨p1828, cs1829, f1830, hf1831, hpb1832, hat1833, hr1834, hi1835⟩ := h1738.at g1826 gx1827
        obtain ⟨rfl, hI1836, rfl⟩ := hr1834
        refine op_g ha rfl (hi1835.gives sl48 rfl rfl) ?_; clear ha a; intro a ha; refine op_g ha rfl (g_load Try.isAgg3 rfl hat1833.one) ?_; clear ha a; intro a ha; (iterate 2 refine op_g ha rfl (g_assign rfl) ?_; clear ha a; intro a ha); refine wpList_nil ?_; replace ha := ha.sub (σ' := [(2, (.pointer (some ⟨b1, 0, none⟩))), (5, (.int .i64 (a1_0.length : Int))), (9, vqr1o2_1), (11, v1207), (15, (.int .i64 i1740)), (16, (.int .i64 x1825)), (123, v1201), (124, (.int .i64 (l1200.length : Int))), (125, (.int .i64 i1740))]) ⟨rfl, rfl, rfl, rfl, rfl, rfl, rfl, rfl, rfl, trivial⟩; refine e_then ?_; refine wp_seq ?_
        refine wp_region_lit ?_; refine op_g ha rfl (g_move rfl) ?_; clear ha a; intro a ha; refine op_g ha rfl (g_eql rfl rfl) ?_; clear ha a; intro a ha; (iterate 2 refine op_g ha rfl (g_move rfl) ?_; clear ha a; intro a ha); obtain ⟨hI1837, hF⟩ := ck_some hF; refine op_g ha rfl (g_sub rfl rfl hI1837) ?_; clear ha a; intro a ha; refine op_g ha rfl (g_lss rfl rfl) ?_; clear ha a; intro a ha; refine op_g ha rfl (gB_neq un4 rfl rfl) ?_; clear ha a; intro a ha; refine op_g ha rfl (g_move rfl) ?_; clear ha a; intro a ha
        by_cases hp1839 : ((decide (x1825 = 1)) != (decide (i1740 < ((a1_0.length : Int) - 1)))) = true
        · replace hF := if_t hp1839 hF
          rw [show ((decide (x1825 = 1)) != (decide (i1740 < ((a1_0.length : Int) - 1)))) = true from (Iff.rfl).2 hp1839] at ha
          (iterate 2 refine op_unwant ha rfl (yields ha rfl rfl) rfl ?_; clear ha a; intro a ha); refine op_g ha rfl (g_pick rfl rfl) ?_; clear ha a; intro a ha; refine wpList_nil ?_; replace ha := ha.sub (σ' := [(2, (.pointer (some ⟨b1, 0, none⟩))), (5, (.int .i64 (a1_0.length : Int))), (9, vqr1o2_1), (11, v1207), (123, v1201), (124, (.int .i64 (l1200.length : Int))), (125, (.int .i64 i1740)), (140, (.bool true))]) ⟨rfl, rfl, rfl, rfl, rfl, rfl, rfl, rfl, trivial⟩; refine e_then ?_; refine c_true ha rfl ?_; refine wp_seq ?_; refine wp_region_lit ?_; refine op_g ha rfl (g_assign rfl) ?_; clear ha a; intro a ha
          refine wpList_nil ?_; replace ha := ha.sub (σ' := [(4, (.bool false))]) ⟨rfl, trivial⟩; refine e_then ?_; refine wp_ret ?_; refine e_blk_ret ?_; refine e_then_ret ?_; refine e_lq_ret ?_; refine e_then_ret ?_; obtain rfl := Option.some.inj hF
          have e1840 := LK_inr hN1821; subst e1840
          have e1841 := BK_inr hK1817; subst e1841
          exact f_ret1 ha rfl rfl ⟨rfl, hE1754⟩
        replace hF := if_f hp1839 hF
        rw [show ((decide (x1825 = 1)) != (decide (i1740 < ((a1_0.length : Int) - 1)))) = false from b_false (Iff.rfl) hp1839] at ha
        refine op_want (yields ha rfl rfl) ?_; refine op_g ha rfl (g_move rfl) ?_; clear ha a; intro a ha; refine op_want (yields ha rfl rfl) ?_; refine op_g ha rfl (g_gtr rfl rfl) ?_; clear ha a; intro a ha; refine op_g ha rfl (g_pick rfl rfl) ?_; clear ha a; intro a ha; refine wpList_nil ?_; replace ha := ha.sub (σ' := [(2, (.pointer (some ⟨b1, 0, none⟩))), (5, (.int .i64 (a1_0.length : Int))), (9, vqr1o2_1), (11, v1207), (123, v1201), (124, (.int .i64 (l1200.length : Int))), (125, (.int .i64 i1740)), (138, (.int .i64 x1825)), (139, (.bool (decide (1 < x1825)))), (140, (.bool (decide (1 < x1825))))]) ⟨rfl, rfl, rfl, rfl, rfl, rfl, rfl, rfl, rfl, rfl, trivial⟩
        refine e_then ?_; refine c_cond (1 < x1825) ha rfl (decide_eq_true_iff) (fun hp1842 => ?_) (fun hp1842 => ?_)
        · replace hF := if_t hp1842 hF
          refine wp_seq ?_; refine wp_region_lit ?_; refine op_g ha rfl (g_assign rfl) ?_; clear ha a; intro a ha; refine wpList_nil ?_; replace ha := ha.sub (σ' := [(4, (.bool false))]) ⟨rfl, trivial⟩; refine e_then ?_; refine wp_ret ?_; refine e_blk_ret ?_; refine e_then_ret ?_; refine e_lq_ret ?_; refine e_then_ret ?_; obtain rfl := Option.some.inj hF
          have e1843 := LK_inr hN1821; subst e1843
          have e1844 := BK_inr hK1817; subst e1844
          exact f_ret1 ha rfl rfl ⟨rfl, hE1754⟩
        replace hF := if_f hp1842 hF; refine wp_skip ?_; refine e_blk ?_; refine e_then ?_; refine wp_region_lit ?_; obtain ⟨hI1845, hF⟩ := ck_some hF; refine op_g ha rfl (g_add rfl rfl hI1845) ?_; clear ha a; intro a ha; refine op_g ha rfl (g_move rfl) ?_; clear ha a; intro a ha; refine wpList_nil ?_; replace ha := ha.sub (σ' := [(2, (.pointer (some ⟨b1, 0, none⟩))), (5, (.int .i64 (a1_0.length : Int))), (9, vqr1o2_1), (11, v1207), (123, v1201), (124, (.int .i64 (l1200.length : Int))), (125, (.int .i64 (i1740 + 1))), (138, (.int .i64 x1825)), (139, (.bool (decide (1 < x1825))))]) ⟨rfl, rfl, rfl, rfl, rfl, rfl, rfl, rfl, rfl, trivial⟩
        refine e_lq ?_; obtain rfl := Option.some.inj hF
        exact ⟨_, Nat.lt_succ_self _, i1740 + 1, ha.sub ⟨rfl, rfl, rfl, rfl, rfl, rfl, rfl, trivial⟩, hE1754, hI1845, hB1729, z1730, h1732, z1733, h1735, z1736, h1738, z1739, q1742, q1743, q1744, q1745, q1746, q1747, q1748, q1749, q1750, q1751, q1752, q1753, hN1821⟩
      replace hF := if_f hp1824 hF; refine wp_exit ?_; refine e_then_exit ?_; refine e_lq_eq ?_; obtain rfl := Option.some.inj hF
      exact ⟨ha.sub ⟨rfl, rfl, rfl, rfl, trivial⟩, hE1754, hB1729, z1730, h1732, z1733, h1735, z1736, q1742, q1743, q1745, q1746, q1748, q1749, (LK_inr hN1821).symm⟩
  rintro a w1800 ⟨ha, hE1820, hB1801, z1802, h1804, z1805, h1807, z1808, q1809, q1810, q1811, q1812, q1813, q1814, rfl⟩
  have hF : F_impl_NiceOk_k8 a0_0 a1_0 xqr1o2_1 l1206 = some _ := hK1817; clear hK1817; unfold F_impl_NiceOk_k8 at hF
  refine e_then ?_; refine wp_seq ?_; refine wp_region_lit ?_; (iterate 2 refine op_g ha rfl (g_move rfl) ?_; clear ha a; intro a ha); obtain ⟨hI1847, hF⟩ := ck_some hF; refine op_g ha rfl (g_sub rfl rfl hI1847) ?_; clear ha a; intro a ha; obtain ⟨x1849, g1850, gx1851, hF⟩ := idx_some hF
  obtain ⟨p1852, cs1853, f1854, hf1855, hpb1856, hat1857, hr1858, hi1859⟩ := h1804.at g1850 gx1851
  obtain ⟨rfl, rfl⟩ := hr1858
  refine op_g ha rfl (hi1859.gives sl46 rfl rfl) ?_; clear ha a; intro a ha; refine op_g ha rfl (g_load Try.isAgg51 rfl hat1857.one) ?_; clear ha a; intro a ha; refine op_g ha rfl (g32_eql (m := x1849) (n := (0#32)) rfl rfl) ?_; clear ha a; intro a ha; refine op_g ha rfl (g_move rfl) ?_; clear ha a; intro a ha
  by_cases hp1860 : x1849 = (0#32)
  · replace hF := if_t hp1860 hF
    rw [show (decide (x1849 = (0#32))) = true from (decide_eq_true_iff).2 hp1860] at ha
    refine op_want (yields ha rfl rfl) ?_; refine op_g ha rfl (g_move rfl) ?_; clear ha a; intro a ha; refine op_want (yields ha rfl rfl) ?_
    obtain ⟨fp1861, hro1862, hs1863⟩ := h1807.roF
    obtain ⟨x1866, hc1867, hF⟩ := cal_some hF
    refine o_call ha rfl rfl Try.call24 (W_slices_ContainsFunc_int hro1862 (by intro _ hy1865 z1864 hz1864 r hr; exact W_impl_NiceOk_1 hz1864 hr) Try.call25 hc1867) ?_; clear ha a; rintro v1868 w1869 ⟨rfl, hx1870⟩ a ha
    replace hB1801 := hB1801.ext hx1870
    replace h1804 := h1804.ext hx1870
    replace h1807 := h1807.ext hx1870
    have hE1871 := Ext.trans hE1820 hx1870
    refine op_want (yields ha rfl rfl) ?_; refine op_g ha rfl (g_not rfl) ?_; clear ha a; intro a ha; refine op_g ha rfl (g_pick rfl rfl) ?_; clear ha a; intro a ha; refine op_g ha rfl (g_move rfl) ?_; clear ha a; intro a ha
    by_cases hp1872 : ¬ (x1866 = true)
    · replace hF := if_t hp1872 hF
      rw [show (!x1866) = true from (n_iff (Iff.rfl)).2 hp1872] at ha
      refine op_want (yields ha rfl rfl) ?_; refine op_g ha rfl (g_loadA (cs := [va0_0]) Try.isAgg31 Try.sizeOf31 rfl (by simp) hB1801.all) ?_; clear ha a; intro a ha; refine op_want (yields ha rfl rfl) ?_; obtain ⟨x1873, hc1874, hF⟩ := cal_some hF
      refine o_call ha rfl rfl Try.call27 (W_impl_netsOf (ha0_0.ext hE1871) hc1874) ?_; clear ha a; rintro v1875 w1876 ⟨b1878, h1879, z1880, hx1877⟩ a ha
      have q1882 := Nq.new hB1801.fpb z1880
      have q1883 := Nq.madeO z1880 hB1801.bi
      have q1884 := Nq.new h1804.fpb z1880
      have q1885 := Nq.madeO z1880 h1804.blt
      have q1886 := Nq.new h1807.fpb z1880
      have q1887 := Nq.madeO z1880 h1807.blt
      replace hB1801 := hB1801.ext hx1877
      replace h1804 := h1804.ext hx1877
      replace h1807 := h1807.ext hx1877
      have hE1888 := Ext.trans hE1871 hx1877
      have q1889 := Zn.upD z1880 hE1871
      refine op_want (yields ha rfl rfl) ?_; refine op_g ha rfl (g_move rfl) ?_; clear ha a; intro a ha; refine op_want (yields ha rfl rfl) ?_
      obtain ⟨fp1890, hro1891, hs1892⟩ := h1879.roF
      obtain ⟨fp1893, hro1894, hs1895⟩ := h1804.roF
      obtain ⟨x1896, hc1897, hF⟩ := cal_some hF
      refine o_call ha rfl rfl Try.call26 (W_impl_coversEdges hro1891 hro1894 hc1897) ?_; clear ha a; rintro v1898 w1899 ⟨rfl, hx1900⟩ a ha
      replace hB1801 := hB1801.ext hx1900
      replace h1804 := h1804.ext hx1900
      replace h1807 := h1807.ext hx1900
      replace h1879 := h1879.ext hx1900
      have hE1901 := Ext.trans hE1888 hx1900
      refine op_g ha rfl (g_pick rfl rfl) ?_; clear ha a; intro a ha; refine op_g ha rfl (g_assign rfl) ?_; clear ha a; intro a ha; refine wpList_nil ?_; replace ha := ha.sub (σ' := [(4, (.bool x1896))]) ⟨rfl, trivial⟩; refine e_then ?_; refine wp_ret ?_; obtain rfl := Option.some.inj hF
      exact f_ret1 ha rfl rfl ⟨rfl, hE1901⟩
    replace hF := if_f hp1872 hF
    rw [show (!x1866) = false from b_false (n_iff (Iff.rfl)) hp1872] at ha
    (iterate 4 refine op_unwant ha rfl (yields ha rfl rfl) rfl ?_; clear ha a; intro a ha); refine op_g ha rfl (g_pick rfl rfl) ?_; clear ha a; intro a ha; refine op_g ha rfl (g_assign rfl) ?_; clear ha a; intro a ha; refine wpList_nil ?_; replace ha := ha.sub (σ' := [(4, (.bool false))]) ⟨rfl, trivial⟩; refine e_then ?_; refine wp_ret ?_; obtain rfl := Option.some.inj hF
    exact f_ret1 ha rfl rfl ⟨rfl, hE1871⟩
  replace hF := if_f hp1860 hF
  rw [show (decide (x1849 = (0#32))) = false from b_false (decide_eq_true_iff) hp1860] at ha
  (iterate 3 refine op_unwant ha rfl (yields ha rfl rfl) rfl ?_; clear ha a; intro a ha); refine op_g ha rfl (g_pick rfl rfl) ?_; clear ha a; intro a ha; refine op_g ha rfl (g_move rfl) ?_; clear ha a; intro a ha; (iterate 4 refine op_unwant ha rfl (yields ha rfl rfl) rfl ?_; clear ha a; intro a ha); refine op_g ha rfl (g_pick rfl rfl) ?_; clear ha a; intro a ha; refine op_g ha rfl (g_assign rfl) ?_; clear ha a; intro a ha; refine wpList_nil ?_; replace ha := ha.sub (σ' := [(4, (.bool false))]) ⟨rfl, trivial⟩; refine e_then ?_; refine wp_ret ?_; obtain rfl := Option.some.inj hF
  exact f_ret1 ha rfl rfl ⟨rfl, hE1820⟩
end Go.Proofs.Ythbmcbflnibpbaa
