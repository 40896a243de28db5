/- Walks, printed by gen.py. -/
import Derived.Test.YtadjcnllmkdgiaaDoorF
import Derived.Test.YtadjcnllmkdgiaaDoorW1
import Derived.Test.YtadjcnllmkdgiaaDoorProg
import Derived.KernelRfl
set_option maxRecDepth 100000
namespace Go.Proofs.YtadjcnllmkdgiaaDoor
open Go Go.RowKit

set_option maxHeartbeats 2000000 in
theorem W_impl_PerfectMany {W : World} {va0_0 : Value} {fa0_0 : List Nat} {a0_0 : (List (List Int))} (ha0_0 : Ro (Rp.sl 2 Rp.int) W fa0_0 va0_0 a0_0) (hG : GT 0 W) {r : Int} (hF : F_impl_PerfectMany a0_0 = some r) :
    Calls Tryd.prog 18 [.agg #[va0_0]].toArray W (Ret fun u w' => (u = .int .i64 r ∧ InI r) ∧ Ext W w') := by
  refine f_enter Tryd.func18 rfl Tryd.ntmps18 rfl ?_
  intro a ha
  replace ha : Fr 15 [(0, (.agg #[va0_0]))] a := ha
  have hE : Chg [] W W := Chg.refl _ _
  unfold F_impl_PerfectMany at hF
  refine wp_seq ?_; refine wp_region_lit ?_
  refine o_box ha rfl rfl rfl ?_; clear ha a; intro b1 w2 hB3 hx4 hlo5 a ha
  have q6 := Zn.one hlo5
  have q7 := Zn.upD q6 hE
  have hE8 := Ext.trans hE hx4
  refine op_g ha rfl (g_assign rfl) ?_; clear ha a; intro a ha; refine wpList_nil ?_; replace ha := ha.sub (σ' := [(1, (.pointer (some ⟨b1, 0, none⟩)))]) ⟨rfl, trivial⟩; refine e_then ?_; refine wp_seq ?_; refine wp_seq ?_; refine wp_region_lit ?_; refine op_g ha rfl (g_loadA (cs := [va0_0]) Tryd.isAgg29 Tryd.sizeOf29 rfl (by simp) hB3.all) ?_; clear ha a; intro a ha; obtain ⟨x9, hc10, hF⟩ := cal_some hF
  refine o_call ha rfl rfl Tryd.call29 (W_impl_GraphOk (ha0_0.ext hE8) hc10) ?_; clear ha a; rintro v11 w12 ⟨rfl, hx13⟩ a ha
  replace hB3 := hB3.ext hx13
  have hE14 := Ext.trans hE8 hx13
  refine op_g ha rfl (g_not rfl) ?_; clear ha a; intro a ha; refine wpList_nil ?_; replace ha := ha.sub (σ' := [(1, (.pointer (some ⟨b1, 0, none⟩))), (6, (.bool (!x9)))]) ⟨rfl, rfl, trivial⟩; refine e_then ?_; refine c_cond (¬ (x9 = true)) ha rfl (n_iff (Iff.rfl)) (fun hp15 => ?_) (fun hp15 => ?_)
  · replace hF := if_t hp15 hF
    refine wp_seq ?_; refine wp_region_lit ?_; refine op_g ha rfl (g_assign rfl) ?_; clear ha a; intro a ha; refine wpList_nil ?_; replace ha := ha.sub (σ' := [(2, (.int .i64 (-1)))]) ⟨rfl, trivial⟩; refine e_then ?_; refine wp_ret ?_; refine e_then_ret ?_; obtain rfl := Option.some.inj hF
    exact f_ret1 ha rfl rfl ⟨⟨rfl, (show InI (-1) from by decide)⟩, hE14⟩
  replace hF := if_f hp15 hF; refine wp_skip ?_; refine e_then ?_; refine wp_seq ?_; refine wp_region_lit ?_; refine op_g ha rfl (g_loadA (cs := [va0_0]) Tryd.isAgg29 Tryd.sizeOf29 rfl (by simp) hB3.all) ?_; clear ha a; intro a ha; obtain ⟨x16, hc17, hF⟩ := cal_some hF
  refine o_call ha rfl rfl Tryd.call31 (W_impl_netsOf (ha0_0.ext hE14) hc17) ?_; clear ha a; rintro v18 w19 ⟨b21, h22, z23, hx20⟩ a ha
  have q25 := Nq.new hB3.fpb z23
  have q26 := Nq.madeO z23 hB3.bi
  replace hB3 := hB3.ext hx20
  have hE27 := Ext.trans hE14 hx20
  have q28 := Zn.upD z23 hE14
  refine op_g ha rfl (g_assign rfl) ?_; clear ha a; intro a ha; refine wpList_nil ?_; replace ha := ha.sub (σ' := [(3, v18)]) ⟨rfl, trivial⟩; refine e_then ?_; refine wp_seq ?_; refine wp_region_lit ?_; refine op_g ha rfl (g_move rfl) ?_; clear ha a; intro a ha
  obtain ⟨fp29, hro30, hs31⟩ := h22.roF
  obtain ⟨x35, hc36, hF⟩ := cal_some hF
  refine o_call ha rfl rfl Tryd.call48 (W_impl_onSets hro30 (show InI 1 from by decide) (by intro _ hy34 z32 hz32 vz33 fz33 z33 hz33 r hr; exact W_impl_PerfectMany_1 hz32 hz33 hr) Tryd.call51 (hG.ext hE27) hc36) ?_; clear ha a; rintro v37 w38 ⟨b40, h41, z42, hx39⟩ a ha
  have q44 := Nq.new h22.fpb z42
  have q45 := Nq.madeO z42 h22.blt
  replace h22 := h22.ext hx39
  have hE46 := Ext.trans hE27 hx39
  have q47 := Zn.upD z42 hE27
  refine op_g ha rfl (g_move rfl) ?_; clear ha a; intro a ha
  obtain ⟨fp48, hro49, hs50⟩ := h22.roF
  obtain ⟨x51, hc52, hF⟩ := cal_some hF
  refine o_call ha rfl rfl Tryd.call50 (W_impl_nets_all hro49 hc52) ?_; clear ha a; rintro v53 w54 ⟨rfl, hx55⟩ a ha
  replace h22 := h22.ext hx55
  replace h41 := h41.ext hx55
  have hE56 := Ext.trans hE46 hx55
  obtain ⟨x57, g58, gx59, hF⟩ := idx_some hF
  obtain ⟨p60, cs61, f62, hf63, hpb64, hat65, hr66, hi67⟩ := h41.at g58 gx59
  obtain ⟨rfl, hI68, rfl⟩ := hr66
  refine op_g ha rfl (hi67.gives sl31 rfl rfl) ?_; clear ha a; intro a ha; refine op_g ha rfl (g_load Tryd.isAgg2 rfl hat65.one) ?_; clear ha a; intro a ha; refine op_g ha rfl (g_assign rfl) ?_; clear ha a; intro a ha; refine wpList_nil ?_; replace ha := ha.sub (σ' := [(2, (.int .i64 x57))]) ⟨rfl, trivial⟩; refine e_then ?_; refine wp_ret ?_; obtain rfl := Option.some.inj hF
  exact f_ret1 ha rfl rfl ⟨⟨rfl, hI68⟩, hE56⟩
set_option maxHeartbeats 2000000 in
theorem W_spec_l1Size {W : World} {va0_0 : Value} {fa0_0 : List Nat} {a0_0 : (List (List Int))} (ha0_0 : Ro (Rp.sl 2 Rp.int) W fa0_0 va0_0 a0_0) {r : Int} (hF : F_spec_l1Size a0_0 = some r) :
    Calls Tryd.prog 76 [.agg #[va0_0]].toArray W (Ret fun u w' => (u = .int .i64 r ∧ InI r) ∧ Ext W w') := by
  refine f_enter Tryd.func76 rfl Tryd.ntmps76 rfl ?_
  intro a ha
  replace ha : Fr 6 [(0, (.agg #[va0_0]))] a := ha
  have hE : Chg [] W W := Chg.refl _ _
  unfold F_spec_l1Size at hF
  refine wp_seq ?_; refine wp_region_lit ?_
  refine o_box ha rfl rfl rfl ?_; clear ha a; intro b1 w2 hB3 hx4 hlo5 a ha
  have q6 := Zn.one hlo5
  have q7 := Zn.upD q6 hE
  have hE8 := Ext.trans hE hx4
  refine op_g ha rfl (g_assign rfl) ?_; clear ha a; intro a ha; refine wpList_nil ?_; replace ha := ha.sub (σ' := [(1, (.pointer (some ⟨b1, 0, none⟩)))]) ⟨rfl, trivial⟩; refine e_then ?_; refine wp_seq ?_; refine wp_region_lit ?_; refine op_g ha rfl (g_field0 st29_0 rfl) ?_; clear ha a; intro a ha; refine op_g ha rfl (g_load Tryd.isAgg27 rfl (hB3.cell rfl)) ?_; clear ha a; intro a ha; refine op_g ha rfl (g_lenR sl27.und ha0_0 rfl) ?_; clear ha a; intro a ha; refine op_g ha rfl (g_assign rfl) ?_; clear ha a; intro a ha; refine wpList_nil ?_; replace ha := ha.sub (σ' := [(2, (.int .i64 (a0_0.length : Int)))]) ⟨rfl, trivial⟩
  refine e_then ?_; refine wp_ret ?_; obtain rfl := Option.some.inj hF
  exact f_ret1 ha rfl rfl ⟨⟨rfl, ha0_0.len⟩, hE8⟩
set_option maxHeartbeats 2000000 in
theorem W_spec_l1Has {W : World} {va0 : Value} {fa0 : List Nat} {a0 : (List Int)} (ha0 : Ro Rp.int W fa0 va0 a0) {a1 : Int} (ha1 : InI a1) {r : Bool} (hF : F_spec_l1Has a0 a1 = some r) :
    Calls Tryd.prog 47 [va0, .int .i64 a1].toArray W (Ret fun u w' => u = .bool r ∧ Ext W w') := by
  refine f_enter Tryd.func47 rfl Tryd.ntmps47 rfl ?_
  intro a ha
  replace ha : Fr 18 [(0, va0), (1, (.int .i64 a1))] a := ha
  have hE : Chg [] W W := Chg.refl _ _
  unfold F_spec_l1Has at hF
  refine wp_seq ?_; refine wp_region_lit ?_; refine op_g ha rfl (g_assign rfl) ?_; clear ha a; intro a ha; refine wpList_nil ?_; replace ha := ha.sub (σ' := [(0, va0), (1, (.int .i64 a1))]) ⟨rfl, rfl, trivial⟩; refine e_then ?_; refine wp_seq ?_; refine wp_seq ?_; refine wp_region_lit ?_; refine op_g ha rfl (g_assign rfl) ?_; clear ha a; intro a ha; refine wpList_nil ?_; refine e_then ?_; obtain ⟨o46, ho47, hK48⟩ := bnd_some hF
  obtain ⟨n49, hn50⟩ := lp_some ho47; clear ho47
  refine c_loop (fun a w => Fr 18 [] a ∧ Chg [] W w ∧ o46 = .inl ()) (fun n a w => ∃ (i23 : Int), Fr 18 [(0, va0), (1, (.int .i64 a1)), (5, (.int .i64 i23))] a ∧ Chg [] W w ∧ InI i23 ∧ lpN (fun s => F_spec_l1Has_l1 a0 a1 s) n i23 = some o46) n49 ⟨0, ha.sub ⟨rfl, rfl, rfl, trivial⟩, hE, (show InI 0 from by decide), hn50⟩ ?_ ?_
  · rintro m54 a w22 ⟨i23, ha, hE25, hI24, hF⟩
    cases m54 with
    | zero => exact (lpN_zero hF).elim
    | succ m54 =>
      obtain ⟨z53, hF, hN52⟩ := lpN_succ hF
      have hF : F_spec_l1Has_l1 a0 a1 i23 = some z53 := hF; unfold F_spec_l1Has_l1 at hF
      refine wp_seq ?_; refine wp_seq ?_; refine wp_region_lit ?_; (iterate 2 refine op_g ha rfl (g_move rfl) ?_; clear ha a; intro a ha); refine op_g ha rfl (g_lenR sl31.und ha0 rfl) ?_; clear ha a; intro a ha; refine op_g ha rfl (g_lss rfl rfl) ?_; clear ha a; intro a ha; refine wpList_nil ?_; replace ha := ha.sub (σ' := [(0, va0), (1, (.int .i64 a1)), (5, (.int .i64 i23)), (9, (.bool (decide (i23 < (a0.length : Int)))))]) ⟨rfl, rfl, rfl, rfl, trivial⟩; refine e_then ?_; refine c_cond (i23 < (a0.length : Int)) ha rfl (decide_eq_true_iff) (fun hp55 => ?_) (fun hp55 => ?_)
      · replace hF := if_t hp55 hF
        refine wp_skip ?_; refine e_then ?_; refine wp_seq ?_; refine wp_block ?_; refine wp_seq ?_; refine wp_region_lit ?_; (iterate 2 refine op_g ha rfl (g_move rfl) ?_; clear ha a; intro a ha); obtain ⟨x56, g57, gx58, hF⟩ := idx_some hF
        obtain ⟨p59, cs60, f61, hf62, hpb63, hat64, hr65, hi66⟩ := ha0.at g57 gx58
        obtain ⟨rfl, hI67, rfl⟩ := hr65
        refine op_g ha rfl (hi66.gives sl31 rfl rfl) ?_; clear ha a; intro a ha; refine op_g ha rfl (g_load0 hE25 Tryd.isAgg2 rfl hat64.one) ?_; clear ha a; intro a ha; refine op_g ha rfl (g_move rfl) ?_; clear ha a; intro a ha; refine op_g ha rfl (g_eql rfl rfl) ?_; clear ha a; intro a ha; refine wpList_nil ?_; replace ha := ha.sub (σ' := [(0, va0), (1, (.int .i64 a1)), (5, (.int .i64 i23)), (17, (.bool (decide (x56 = a1))))]) ⟨rfl, rfl, rfl, rfl, trivial⟩; refine e_then ?_; refine c_cond (x56 = a1) ha rfl (decide_eq_true_iff) (fun hp68 => ?_) (fun hp68 => ?_)
        · replace hF := if_t hp68 hF
          refine wp_seq ?_; refine wp_region_lit ?_; refine op_g ha rfl (g_assign rfl) ?_; clear ha a; intro a ha; refine wpList_nil ?_; replace ha := ha.sub (σ' := [(4, (.bool true))]) ⟨rfl, trivial⟩; refine e_then ?_; refine wp_ret ?_; refine e_blk_ret ?_; refine e_then_ret ?_; refine e_lq_ret ?_; refine e_then_ret ?_; obtain rfl := Option.some.inj hF
          have e69 := LK_inr hN52; subst e69
          have e70 := BK_inr hK48; subst e70
          exact f_ret1 ha rfl rfl ⟨rfl, hE25⟩
        replace hF := if_f hp68 hF; refine wp_skip ?_; refine e_blk ?_; refine e_then ?_; refine wp_region_lit ?_; refine op_g ha rfl (g_move rfl) ?_; clear ha a; intro a ha; obtain ⟨hI71, hF⟩ := ck_some hF; refine op_g ha rfl (g_add rfl rfl hI71) ?_; clear ha a; intro a ha; refine op_g ha rfl (g_assign rfl) ?_; clear ha a; intro a ha; refine wpList_nil ?_; replace ha := ha.sub (σ' := [(0, va0), (1, (.int .i64 a1)), (5, (.int .i64 (i23 + 1)))]) ⟨rfl, rfl, rfl, trivial⟩; refine e_lq ?_; obtain rfl := Option.some.inj hF
        exact ⟨_, Nat.lt_succ_self _, i23 + 1, ha.sub ⟨rfl, rfl, rfl, trivial⟩, hE25, hI71, hN52⟩
      replace hF := if_f hp55 hF; refine wp_exit ?_; refine e_then_exit ?_; refine e_lq_eq ?_; obtain rfl := Option.some.inj hF
      exact ⟨ha.sub trivial, hE25, (LK_inr hN52).symm⟩
  rintro a w45 ⟨ha, hE51, rfl⟩
  have hF : F_spec_l1Has_k2 = some _ := hK48; clear hK48; unfold F_spec_l1Has_k2 at hF
  refine e_then ?_; refine wp_seq ?_; refine wp_region_lit ?_; refine op_g ha rfl (g_assign rfl) ?_; clear ha a; intro a ha; refine wpList_nil ?_; refine e_then ?_; refine wp_ret ?_; obtain rfl := Option.some.inj hF
  exact f_ret1 ha rfl rfl ⟨rfl, hE51⟩
set_option maxHeartbeats 2000000 in
theorem W_spec_GraphOk {W : World} {va0_0 : Value} {fa0_0 : List Nat} {a0_0 : (List (List Int))} (ha0_0 : Ro (Rp.sl 2 Rp.int) W fa0_0 va0_0 a0_0) {r : Bool} (hF : F_spec_GraphOk a0_0 = some r) :
    Calls Tryd.prog 33 [.agg #[va0_0]].toArray W (Ret fun u w' => u = .bool r ∧ Ext W w') := by
  refine f_enter Tryd.func33 rfl Tryd.ntmps33 rfl ?_
  intro a ha
  replace ha : Fr 64 [(0, (.agg #[va0_0]))] a := ha
  have hE : Chg [] W W := Chg.refl _ _
  unfold F_spec_GraphOk at hF
  refine wp_seq ?_; refine wp_region_lit ?_
  refine o_box ha rfl rfl rfl ?_; clear ha a; intro b1 w2 hB3 hx4 hlo5 a ha
  have q6 := Zn.one hlo5
  have q7 := Zn.upD q6 hE
  have hE8 := Ext.trans hE hx4
  refine op_g ha rfl (g_assign rfl) ?_; clear ha a; intro a ha; refine wpList_nil ?_; replace ha := ha.sub (σ' := [(1, (.pointer (some ⟨b1, 0, none⟩)))]) ⟨rfl, trivial⟩; refine e_then ?_; refine wp_seq ?_; refine wp_region_lit ?_; refine op_g ha rfl (g_loadA (cs := [va0_0]) Tryd.isAgg29 Tryd.sizeOf29 rfl (by simp) hB3.all) ?_; clear ha a; intro a ha; obtain ⟨x9, hc10, hF⟩ := cal_some hF
  refine o_call ha rfl rfl Tryd.call76 (W_spec_l1Size (ha0_0.ext hE8) hc10) ?_; clear ha a; rintro v11 w12 ⟨⟨rfl, hI14⟩, hx13⟩ a ha
  replace hB3 := hB3.ext hx13
  have hE15 := Ext.trans hE8 hx13
  refine op_g ha rfl (g_assign rfl) ?_; clear ha a; intro a ha; refine wpList_nil ?_; replace ha := ha.sub (σ' := [(1, (.pointer (some ⟨b1, 0, none⟩))), (3, (.int .i64 x9))]) ⟨rfl, rfl, trivial⟩; refine e_then ?_; refine wp_seq ?_; refine wp_seq ?_; refine wp_region_lit ?_; refine op_g ha rfl (g_move rfl) ?_; clear ha a; intro a ha; obtain ⟨x16, hc17, hF⟩ := cal_some hF
  refine o_call ha rfl rfl Tryd.call34 (W_spec_l1In hI14 (show InI 1 from by decide) (show InI 16 from by decide) hc17) ?_; clear ha a; rintro v18 w19 ⟨rfl, hx20⟩ a ha
  replace hB3 := hB3.ext hx20
  have hE21 := Ext.trans hE15 hx20
  refine op_g ha rfl (g_not rfl) ?_; clear ha a; intro a ha; refine wpList_nil ?_; replace ha := ha.sub (σ' := [(1, (.pointer (some ⟨b1, 0, none⟩))), (3, (.int .i64 x9)), (11, (.bool (!x16)))]) ⟨rfl, rfl, rfl, trivial⟩; refine e_then ?_; refine c_cond (¬ (x16 = true)) ha rfl (n_iff (Iff.rfl)) (fun hp22 => ?_) (fun hp22 => ?_)
  · replace hF := if_t hp22 hF
    refine wp_seq ?_; refine wp_region_lit ?_; refine op_g ha rfl (g_assign rfl) ?_; clear ha a; intro a ha; refine wpList_nil ?_; replace ha := ha.sub (σ' := [(2, (.bool false))]) ⟨rfl, trivial⟩; refine e_then ?_; refine wp_ret ?_; refine e_then_ret ?_; obtain rfl := Option.some.inj hF
    exact f_ret1 ha rfl rfl ⟨rfl, hE21⟩
  replace hF := if_f hp22 hF; refine wp_skip ?_; refine e_then ?_; refine wp_seq ?_; refine wp_seq ?_; refine wp_region_lit ?_; refine op_g ha rfl (g_assign rfl) ?_; clear ha a; intro a ha; refine wpList_nil ?_; replace ha := ha.sub (σ' := [(1, (.pointer (some ⟨b1, 0, none⟩))), (3, (.int .i64 x9)), (4, (.int .i64 0))]) ⟨rfl, rfl, rfl, trivial⟩; refine e_then ?_; obtain ⟨o136, ho137, hK138⟩ := bnd_some hF
  obtain ⟨n139, hn140⟩ := lp_some ho137; clear ho137
  refine c_loop (fun a w => Fr 64 [(1, (.pointer (some ⟨b1, 0, none⟩))), (3, (.int .i64 x9))] a ∧ Chg [] W w ∧ Bx w b1 [va0_0] 29 ∧ Zn W (b1 : Int) ∧ o136 = .inl ()) (fun n a w => ∃ (i80 : Int), Fr 64 [(1, (.pointer (some ⟨b1, 0, none⟩))), (3, (.int .i64 x9)), (4, (.int .i64 i80))] a ∧ Chg [] W w ∧ InI i80 ∧ Bx w b1 [va0_0] 29 ∧ Zn W (b1 : Int) ∧ lpN (fun s => F_spec_GraphOk_l1 a0_0 x9 s) n i80 = some o136) n139 ⟨0, ha.sub ⟨rfl, rfl, rfl, trivial⟩, hE21, (show InI 0 from by decide), hB3, q7, hn140⟩ ?_ ?_
  · rintro m144 a w77 ⟨i80, ha, hE82, hI81, hB78, z79, hF⟩
    cases m144 with
    | zero => exact (lpN_zero hF).elim
    | succ m144 =>
      obtain ⟨z143, hF, hN142⟩ := lpN_succ hF
      have hF : F_spec_GraphOk_l1 a0_0 x9 i80 = some z143 := hF; unfold F_spec_GraphOk_l1 at hF
      refine wp_seq ?_; refine wp_seq ?_; refine wp_region_lit ?_; (iterate 2 refine op_g ha rfl (g_move rfl) ?_; clear ha a; intro a ha); refine op_g ha rfl (g_lss rfl rfl) ?_; clear ha a; intro a ha; refine wpList_nil ?_; replace ha := ha.sub (σ' := [(1, (.pointer (some ⟨b1, 0, none⟩))), (3, (.int .i64 x9)), (4, (.int .i64 i80)), (14, (.bool (decide (i80 < x9))))]) ⟨rfl, rfl, rfl, rfl, trivial⟩; refine e_then ?_; refine c_cond (i80 < x9) ha rfl (decide_eq_true_iff) (fun hp145 => ?_) (fun hp145 => ?_)
      · replace hF := if_t hp145 hF
        refine wp_skip ?_; refine e_then ?_; refine wp_seq ?_; refine wp_block ?_; refine wp_seq ?_; refine wp_region_lit ?_; refine op_g ha rfl (g_field0 st29_0 rfl) ?_; clear ha a; intro a ha; refine op_g ha rfl (g_load Tryd.isAgg27 rfl (hB78.cell rfl)) ?_; clear ha a; intro a ha; refine op_g ha rfl (g_move rfl) ?_; clear ha a; intro a ha; obtain ⟨x146, g147, gx148, hF⟩ := idx_some hF
        obtain ⟨p149, cs150, f151, hf152, hpb153, hat154, hr155, hi156⟩ := ha0_0.at g147 gx148
        obtain ⟨v157, rfl, h158⟩ := hr155
        have h158 : Ro Rp.int W f151 v157 x146 := h158
        refine op_g ha rfl (hi156.gives sl27 rfl rfl) ?_; clear ha a; intro a ha; refine op_g ha rfl (g_load0 hE82 Tryd.isAgg31 rfl hat154.one) ?_; clear ha a; intro a ha; refine op_g ha rfl (g_move rfl) ?_; clear ha a; intro a ha; obtain ⟨x160, hc161, hF⟩ := cal_some hF
        refine o_call ha rfl rfl Tryd.call70 (W_spec_l1Set (h158.ext hE82) hI14 hc161) ?_; clear ha a; rintro v162 w163 ⟨rfl, hx164⟩ a ha
        replace hB78 := hB78.ext hx164
        have hE165 := Ext.trans hE82 hx164
        refine op_g ha rfl (g_not rfl) ?_; clear ha a; intro a ha; refine op_g ha rfl (g_move rfl) ?_; clear ha a; intro a ha
        by_cases hp166 : ¬ (x160 = true)
        · replace hF := if_t hp166 hF
          rw [show (!x160) = true from (n_iff (Iff.rfl)).2 hp166] at ha
          (iterate 7 refine op_unwant ha rfl (yields ha rfl rfl) rfl ?_; clear ha a; intro a ha); refine op_g ha rfl (g_pick rfl rfl) ?_; clear ha a; intro a ha; refine wpList_nil ?_; replace ha := ha.sub (σ' := [(1, (.pointer (some ⟨b1, 0, none⟩))), (3, (.int .i64 x9)), (4, (.int .i64 i80)), (33, (.bool true))]) ⟨rfl, rfl, rfl, rfl, trivial⟩; refine e_then ?_; refine c_true ha rfl ?_; refine wp_seq ?_; refine wp_region_lit ?_; refine op_g ha rfl (g_assign rfl) ?_; clear ha a; intro a ha; refine wpList_nil ?_; replace ha := ha.sub (σ' := [(2, (.bool false))]) ⟨rfl, trivial⟩; refine e_then ?_; refine wp_ret ?_
          refine e_blk_ret ?_; refine e_then_ret ?_; refine e_lq_ret ?_; refine e_then_ret ?_; obtain rfl := Option.some.inj hF
          have e167 := LK_inr hN142; subst e167
          have e168 := BK_inr hK138; subst e168
          exact f_ret1 ha rfl rfl ⟨rfl, hE165⟩
        replace hF := if_f hp166 hF
        rw [show (!x160) = false from b_false (n_iff (Iff.rfl)) hp166] at ha
        refine op_want (yields ha rfl rfl) ?_; refine op_g ha rfl (g_field0 st29_0 rfl) ?_; clear ha a; intro a ha; refine op_want (yields ha rfl rfl) ?_; refine op_g ha rfl (g_load Tryd.isAgg27 rfl (hB78.cell rfl)) ?_; clear ha a; intro a ha; refine op_want (yields ha rfl rfl) ?_; refine op_g ha rfl (g_move rfl) ?_; clear ha a; intro a ha; refine op_want (yields ha rfl rfl) ?_; obtain ⟨x169, g170, gx171, hF⟩ := idx_some hF
        obtain ⟨p172, cs173, f174, hf175, hpb176, hat177, hr178, hi179⟩ := ha0_0.at g170 gx171
        obtain ⟨v180, rfl, h181⟩ := hr178
        have h181 : Ro Rp.int W f174 v180 x169 := h181
        refine op_g ha rfl (hi179.gives sl27 rfl rfl) ?_; clear ha a; intro a ha; refine op_want (yields ha rfl rfl) ?_; refine op_g ha rfl (g_load0 hE165 Tryd.isAgg31 rfl hat177.one) ?_; clear ha a; intro a ha; refine op_want (yields ha rfl rfl) ?_; refine op_g ha rfl (g_move rfl) ?_; clear ha a; intro a ha; refine op_want (yields ha rfl rfl) ?_; obtain ⟨x183, hc184, hF⟩ := cal_some hF
        refine o_call ha rfl rfl Tryd.call47 (W_spec_l1Has (h181.ext hE165) hI81 hc184) ?_; clear ha a; rintro v185 w186 ⟨rfl, hx187⟩ a ha
        replace hB78 := hB78.ext hx187
        have hE188 := Ext.trans hE165 hx187
        refine op_g ha rfl (g_pick rfl rfl) ?_; clear ha a; intro a ha; refine wpList_nil ?_; replace ha := ha.sub (σ' := [(1, (.pointer (some ⟨b1, 0, none⟩))), (3, (.int .i64 x9)), (4, (.int .i64 i80)), (26, (.pointer (some ⟨b1, 0, none⟩))), (27, va0_0), (28, (.int .i64 i80)), (29, (.pointer (some p172))), (30, v180), (31, (.int .i64 i80)), (32, (.bool x183)), (33, (.bool x183))]) ⟨rfl, rfl, rfl, rfl, rfl, rfl, rfl, rfl, rfl, rfl, rfl, trivial⟩; refine e_then ?_; refine c_cond (x183 = true) ha rfl (Iff.rfl) (fun hp189 => ?_) (fun hp189 => ?_)
        · replace hF := if_t hp189 hF
          refine wp_seq ?_; refine wp_region_lit ?_; refine op_g ha rfl (g_assign rfl) ?_; clear ha a; intro a ha; refine wpList_nil ?_; replace ha := ha.sub (σ' := [(2, (.bool false))]) ⟨rfl, trivial⟩; refine e_then ?_; refine wp_ret ?_; refine e_blk_ret ?_; refine e_then_ret ?_; refine e_lq_ret ?_; refine e_then_ret ?_; obtain rfl := Option.some.inj hF
          have e190 := LK_inr hN142; subst e190
          have e191 := BK_inr hK138; subst e191
          exact f_ret1 ha rfl rfl ⟨rfl, hE188⟩
        replace hF := if_f hp189 hF; refine wp_skip ?_; refine e_blk ?_; refine e_then ?_; refine wp_region_lit ?_; refine op_g ha rfl (g_move rfl) ?_; clear ha a; intro a ha; obtain ⟨hI192, hF⟩ := ck_some hF; refine op_g ha rfl (g_add rfl rfl hI192) ?_; clear ha a; intro a ha; refine op_g ha rfl (g_assign rfl) ?_; clear ha a; intro a ha; refine wpList_nil ?_; replace ha := ha.sub (σ' := [(1, (.pointer (some ⟨b1, 0, none⟩))), (3, (.int .i64 x9)), (4, (.int .i64 (i80 + 1))), (26, (.pointer (some ⟨b1, 0, none⟩))), (27, va0_0), (28, (.int .i64 i80)), (29, (.pointer (some p172))), (30, v180), (31, (.int .i64 i80)), (32, (.bool x183))]) ⟨rfl, rfl, rfl, rfl, rfl, rfl, rfl, rfl, rfl, rfl, trivial⟩
        refine e_lq ?_; obtain rfl := Option.some.inj hF
        exact ⟨_, Nat.lt_succ_self _, i80 + 1, ha.sub ⟨rfl, rfl, rfl, trivial⟩, hE188, hI192, hB78, z79, hN142⟩
      replace hF := if_f hp145 hF; refine wp_exit ?_; refine e_then_exit ?_; refine e_lq_eq ?_; obtain rfl := Option.some.inj hF
      exact ⟨ha.sub ⟨rfl, rfl, trivial⟩, hE82, hB78, z79, (LK_inr hN142).symm⟩
  rintro a w133 ⟨ha, hE141, hB134, z135, rfl⟩
  have hF : F_spec_GraphOk_k2 a0_0 x9 = some _ := hK138; clear hK138; unfold F_spec_GraphOk_k2 at hF
  refine e_then ?_; refine wp_seq ?_; refine wp_seq ?_; refine wp_region_lit ?_; refine op_g ha rfl (g_assign rfl) ?_; clear ha a; intro a ha; refine wpList_nil ?_; refine e_then ?_; obtain ⟨o675, ho676, hK677⟩ := bnd_some hF
  obtain ⟨n678, hn679⟩ := lp_some ho676; clear ho676
  refine c_loop (fun a w => Fr 64 [] a ∧ Chg [] W w ∧ o675 = .inl ()) (fun n a w => ∃ (i436 : Int), Fr 64 [(1, (.pointer (some ⟨b1, 0, none⟩))), (3, (.int .i64 x9)), (5, (.int .i64 i436))] a ∧ Chg [] W w ∧ InI i436 ∧ Bx w b1 [va0_0] 29 ∧ Zn W (b1 : Int) ∧ lpN (fun s => F_spec_GraphOk_l3 a0_0 x9 s) n i436 = some o675) n678 ⟨0, ha.sub ⟨rfl, rfl, rfl, trivial⟩, hE141, (show InI 0 from by decide), hB134, z135, hn679⟩ ?_ ?_
  · rintro m683 a w433 ⟨i436, ha, hE438, hI437, hB434, z435, hF⟩
    cases m683 with
    | zero => exact (lpN_zero hF).elim
    | succ m683 =>
      obtain ⟨z682, hF, hN681⟩ := lpN_succ hF
      have hF : F_spec_GraphOk_l3 a0_0 x9 i436 = some z682 := hF; unfold F_spec_GraphOk_l3 at hF
      refine wp_seq ?_; refine wp_seq ?_; refine wp_region_lit ?_; (iterate 2 refine op_g ha rfl (g_move rfl) ?_; clear ha a; intro a ha); refine op_g ha rfl (g_lss rfl rfl) ?_; clear ha a; intro a ha; refine wpList_nil ?_; replace ha := ha.sub (σ' := [(1, (.pointer (some ⟨b1, 0, none⟩))), (3, (.int .i64 x9)), (5, (.int .i64 i436)), (36, (.bool (decide (i436 < x9))))]) ⟨rfl, rfl, rfl, rfl, trivial⟩; refine e_then ?_; refine c_cond (i436 < x9) ha rfl (decide_eq_true_iff) (fun hp684 => ?_) (fun hp684 => ?_)
      · replace hF := if_t hp684 hF
        refine wp_skip ?_; refine e_then ?_; refine wp_seq ?_; refine wp_block ?_; refine wp_seq ?_; refine wp_region_lit ?_; refine op_g ha rfl (g_assign rfl) ?_; clear ha a; intro a ha; refine wpList_nil ?_; replace ha := ha.sub (σ' := [(1, (.pointer (some ⟨b1, 0, none⟩))), (3, (.int .i64 x9)), (5, (.int .i64 i436)), (6, (.int .i64 0))]) ⟨rfl, rfl, rfl, rfl, trivial⟩; refine e_then ?_; obtain ⟨o838, ho839, hK840⟩ := bnd_some hF
        obtain ⟨n841, hn842⟩ := lp_some ho839; clear ho839
        refine c_loop (fun a w => Fr 64 [(1, (.pointer (some ⟨b1, 0, none⟩))), (3, (.int .i64 x9)), (5, (.int .i64 i436))] a ∧ Chg [] W w ∧ Bx w b1 [va0_0] 29 ∧ Zn W (b1 : Int) ∧ o838 = .inl ()) (fun n a w => ∃ (i762 : Int), Fr 64 [(1, (.pointer (some ⟨b1, 0, none⟩))), (3, (.int .i64 x9)), (5, (.int .i64 i436)), (6, (.int .i64 i762))] a ∧ Chg [] W w ∧ InI i762 ∧ Bx w b1 [va0_0] 29 ∧ Zn W (b1 : Int) ∧ lpN (fun s => F_spec_GraphOk_l4 a0_0 i436 s) n i762 = some o838) n841 ⟨0, ha.sub ⟨rfl, rfl, rfl, rfl, trivial⟩, hE438, (show InI 0 from by decide), hB434, z435, hn842⟩ ?_ ?_
        · rintro m846 a w759 ⟨i762, ha, hE764, hI763, hB760, z761, hF⟩
          cases m846 with
          | zero => exact (lpN_zero hF).elim
          | succ m846 =>
            obtain ⟨z845, hF, hN844⟩ := lpN_succ hF
            have hF : F_spec_GraphOk_l4 a0_0 i436 i762 = some z845 := hF; unfold F_spec_GraphOk_l4 at hF
            refine wp_seq ?_; refine wp_seq ?_; refine wp_region_lit ?_; refine op_g ha rfl (g_move rfl) ?_; clear ha a; intro a ha; refine op_g ha rfl (g_field0 st29_0 rfl) ?_; clear ha a; intro a ha; refine op_g ha rfl (g_load Tryd.isAgg27 rfl (hB760.cell rfl)) ?_; clear ha a; intro a ha; refine op_g ha rfl (g_move rfl) ?_; clear ha a; intro a ha; obtain ⟨x847, g848, gx849, hF⟩ := idx_some hF
            obtain ⟨p850, cs851, f852, hf853, hpb854, hat855, hr856, hi857⟩ := ha0_0.at g848 gx849
            obtain ⟨v858, rfl, h859⟩ := hr856
            have h859 : Ro Rp.int W f852 v858 x847 := h859
            refine op_g ha rfl (hi857.gives sl27 rfl rfl) ?_; clear ha a; intro a ha; refine op_g ha rfl (g_load0 hE764 Tryd.isAgg31 rfl hat855.one) ?_; clear ha a; intro a ha; refine op_g ha rfl (g_lenR sl31.und h859 rfl) ?_; clear ha a; intro a ha; refine op_g ha rfl (g_lss rfl rfl) ?_; clear ha a; intro a ha; refine wpList_nil ?_; replace ha := ha.sub (σ' := [(1, (.pointer (some ⟨b1, 0, none⟩))), (3, (.int .i64 x9)), (5, (.int .i64 i436)), (6, (.int .i64 i762)), (46, (.bool (decide (i762 < (x847.length : Int)))))]) ⟨rfl, rfl, rfl, rfl, rfl, trivial⟩; refine e_then ?_; refine c_cond (i762 < (x847.length : Int)) ha rfl (decide_eq_true_iff) (fun hp861 => ?_) (fun hp861 => ?_)
            · replace hF := if_t hp861 hF
              refine wp_skip ?_; refine e_then ?_; refine wp_seq ?_; refine wp_block ?_; refine wp_seq ?_; refine d_quiet hmix (by kernel_rfl) ?_; refine q_g ha rfl (g_field0 st29_0 rfl) ?_; clear ha a; intro a ha; refine q_g ha rfl (g_load Tryd.isAgg27 rfl (hB760.cell rfl)) ?_; clear ha a; intro a ha; refine q_g ha rfl (g_field0 st29_0 rfl) ?_; clear ha a; intro a ha; refine q_g ha rfl (g_load Tryd.isAgg27 rfl (hB760.cell rfl)) ?_; clear ha a; intro a ha; refine q_g ha rfl (g_move rfl) ?_; clear ha a; intro a ha; obtain ⟨x862, g863, gx864, hF⟩ := idx_some hF
              obtain ⟨p865, cs866, f867, hf868, hpb869, hat870, hr871, hi872⟩ := ha0_0.at g863 gx864
              obtain ⟨v873, rfl, h874⟩ := hr871
              have h874 : Ro Rp.int W f867 v873 x862 := h874
              refine q_g ha rfl (hi872.gives sl27 rfl rfl) ?_; clear ha a; intro a ha; refine q_g ha rfl (g_load0 hE764 Tryd.isAgg31 rfl hat870.one) ?_; clear ha a; intro a ha; refine q_g ha rfl (g_move rfl) ?_; clear ha a; intro a ha; obtain ⟨x876, g877, gx878, hF⟩ := idx_some hF
              obtain ⟨p879, cs880, f881, hf882, hpb883, hat884, hr885, hi886⟩ := h874.at g877 gx878
              obtain ⟨rfl, hI887, rfl⟩ := hr885
              refine q_g ha rfl (hi886.gives sl31 rfl rfl) ?_; clear ha a; intro a ha; refine q_g ha rfl (g_load0 hE764 Tryd.isAgg2 rfl hat884.one) ?_; clear ha a; intro a ha; obtain ⟨x888, g889, gx890, hF⟩ := idx_some hF
              obtain ⟨p891, cs892, f893, hf894, hpb895, hat896, hr897, hi898⟩ := ha0_0.at g889 gx890
              obtain ⟨v899, rfl, h900⟩ := hr897
              have h900 : Ro Rp.int W f893 v899 x888 := h900
              refine q_g ha rfl (hi898.gives sl27 rfl rfl) ?_; clear ha a; intro a ha; refine q_g ha rfl (g_load0 hE764 Tryd.isAgg31 rfl hat896.one) ?_; clear ha a; intro a ha; refine q_g ha rfl (g_move rfl) ?_; clear ha a; intro a ha; obtain ⟨x904, hc905, hF⟩ := cal_some hF; refine q_call (.bool x904) ha rfl rfl Tryd.call47 (fun w903 hx902 => W_spec_l1Has (h900.ext (Ext.trans hE764 hx902)) hI437 hc905) (fun _ _ _ h => ⟨h.1, h.2⟩) ?_; clear ha a; intro a ha; refine q_g ha rfl (g_not rfl) ?_; clear ha a; intro a ha
              refine q_nil ?_; intro w906 hx907
              replace hB760 := hB760.ext hx907
              have hE908 := Ext.trans hE764 hx907
              replace ha := ha.sub (σ' := [(1, (.pointer (some ⟨b1, 0, none⟩))), (3, (.int .i64 x9)), (5, (.int .i64 i436)), (6, (.int .i64 i762)), (63, (.bool (!x904)))]) ⟨rfl, rfl, rfl, rfl, rfl, trivial⟩; refine e_then ?_; refine c_cond (¬ (x904 = true)) ha rfl (n_iff (Iff.rfl)) (fun hp909 => ?_) (fun hp909 => ?_)
              · replace hF := if_t hp909 hF
                refine wp_seq ?_; refine wp_region_lit ?_; refine op_g ha rfl (g_assign rfl) ?_; clear ha a; intro a ha; refine wpList_nil ?_; replace ha := ha.sub (σ' := [(2, (.bool false))]) ⟨rfl, trivial⟩; refine e_then ?_; refine wp_ret ?_; refine e_blk_ret ?_; refine e_then_ret ?_; refine e_lq_ret ?_; refine e_blk_ret ?_; refine e_then_ret ?_; refine e_lq_ret ?_; refine e_then_ret ?_; obtain rfl := Option.some.inj hF
                have e910 := LK_inr hN844; subst e910
                have e911 := BK_inr hK840; subst e911
                have e912 := LK_inr hN681; subst e912
                have e913 := BK_inr hK677; subst e913
                exact f_ret1 ha rfl rfl ⟨rfl, hE908⟩
              replace hF := if_f hp909 hF; refine wp_skip ?_; refine e_blk ?_; refine e_then ?_; refine wp_region_lit ?_; refine op_g ha rfl (g_move rfl) ?_; clear ha a; intro a ha; obtain ⟨hI914, hF⟩ := ck_some hF; refine op_g ha rfl (g_add rfl rfl hI914) ?_; clear ha a; intro a ha; refine op_g ha rfl (g_assign rfl) ?_; clear ha a; intro a ha; refine wpList_nil ?_; replace ha := ha.sub (σ' := [(1, (.pointer (some ⟨b1, 0, none⟩))), (3, (.int .i64 x9)), (5, (.int .i64 i436)), (6, (.int .i64 (i762 + 1)))]) ⟨rfl, rfl, rfl, rfl, trivial⟩; refine e_lq ?_; obtain rfl := Option.some.inj hF
              exact ⟨_, Nat.lt_succ_self _, i762 + 1, ha.sub ⟨rfl, rfl, rfl, rfl, trivial⟩, hE908, hI914, hB760, z761, hN844⟩
            replace hF := if_f hp861 hF; refine wp_exit ?_; refine e_then_exit ?_; refine e_lq_eq ?_; obtain rfl := Option.some.inj hF
            exact ⟨ha.sub ⟨rfl, rfl, rfl, trivial⟩, hE764, hB760, z761, (LK_inr hN844).symm⟩
        rintro a w835 ⟨ha, hE843, hB836, z837, rfl⟩
        have hF : F_spec_GraphOk_k5 i436 = some _ := hK840; clear hK840; unfold F_spec_GraphOk_k5 at hF
        refine e_blk ?_; refine e_then ?_; refine wp_region_lit ?_; refine op_g ha rfl (g_move rfl) ?_; clear ha a; intro a ha; obtain ⟨hI916, hF⟩ := ck_some hF; refine op_g ha rfl (g_add rfl rfl hI916) ?_; clear ha a; intro a ha; refine op_g ha rfl (g_assign rfl) ?_; clear ha a; intro a ha; refine wpList_nil ?_; replace ha := ha.sub (σ' := [(1, (.pointer (some ⟨b1, 0, none⟩))), (3, (.int .i64 x9)), (5, (.int .i64 (i436 + 1)))]) ⟨rfl, rfl, rfl, trivial⟩; refine e_lq ?_; obtain rfl := Option.some.inj hF
        exact ⟨_, Nat.lt_succ_self _, i436 + 1, ha.sub ⟨rfl, rfl, rfl, trivial⟩, hE843, hI916, hB836, z837, hN681⟩
      replace hF := if_f hp684 hF; refine wp_exit ?_; refine e_then_exit ?_; refine e_lq_eq ?_; obtain rfl := Option.some.inj hF
      exact ⟨ha.sub trivial, hE438, (LK_inr hN681).symm⟩
  rintro a w674 ⟨ha, hE680, rfl⟩
  have hF : F_spec_GraphOk_k6 = some _ := hK677; clear hK677; unfold F_spec_GraphOk_k6 at hF
  refine e_then ?_; refine wp_seq ?_; refine wp_region_lit ?_; refine op_g ha rfl (g_assign rfl) ?_; clear ha a; intro a ha; refine wpList_nil ?_; refine e_then ?_; refine wp_ret ?_; obtain rfl := Option.some.inj hF
  exact f_ret1 ha rfl rfl ⟨rfl, hE680⟩
set_option maxHeartbeats 2000000 in
theorem W_spec_l25Bits {W : World} {va0_0 : Value} {fa0_0 : List Nat} {a0_0 : (List (List Int))} (ha0_0 : Ro (Rp.sl 2 Rp.int) W fa0_0 va0_0 a0_0) {r : (List Int)} (hF : F_spec_l25Bits a0_0 = some r) :
    Calls Tryd.prog 52 [.agg #[va0_0]].toArray W (Ret fun u w' => ∃ (b_u : Int), Ow Rp.int 2 true w' [] b_u u r ∧ Zn W b_u ∧ Ext W w') := by
  refine f_enter Tryd.func52 rfl Tryd.ntmps52 rfl ?_
  intro a ha
  replace ha : Fr 42 [(0, (.agg #[va0_0]))] a := ha
  have hE : Chg [] W W := Chg.refl _ _
  unfold F_spec_l25Bits at hF
  refine wp_seq ?_; refine wp_region_lit ?_
  refine o_box ha rfl rfl rfl ?_; clear ha a; intro b1 w2 hB3 hx4 hlo5 a ha
  have q6 := Zn.one hlo5
  have q7 := Zn.upD q6 hE
  have hE8 := Ext.trans hE hx4
  refine op_g ha rfl (g_assign rfl) ?_; clear ha a; intro a ha; refine wpList_nil ?_; replace ha := ha.sub (σ' := [(1, (.pointer (some ⟨b1, 0, none⟩)))]) ⟨rfl, trivial⟩; refine e_then ?_; refine wp_seq ?_; refine wp_region_lit ?_
  refine o_lit0 Rp.int ha rfl sl31 ?_; clear ha a; intro v9 w10 h11 hx12 a ha
  obtain ⟨b14, hb14⟩ : ∃ b : Int, b = w2.heap.size := ⟨_, rfl⟩; rw [← hb14] at h11
  have q15 := zn_of hb14
  have q16 := Nq.new hB3.fpb q15
  have q17 := Nq.madeO q15 hB3.bi
  have q18 := Zn.upD q15 hE8
  replace hB3 := hB3.ext hx12
  have hE19 := Ext.trans hE8 hx12
  refine op_g ha rfl (g_assign rfl) ?_; clear ha a; intro a ha; refine wpList_nil ?_; replace ha := ha.sub (σ' := [(1, (.pointer (some ⟨b1, 0, none⟩))), (3, v9)]) ⟨rfl, rfl, trivial⟩; refine e_then ?_; refine wp_seq ?_; refine wp_seq ?_; refine wp_region_lit ?_; refine op_g ha rfl (g_assign rfl) ?_; clear ha a; intro a ha; refine wpList_nil ?_; refine e_then ?_; obtain ⟨o542, ho543, hK544⟩ := bnd_some hF
  obtain ⟨n545, hn546⟩ := lp_some ho543; clear ho543
  refine c_loop (fun a w => ∃ (l539 : (List Int)) (v540 : Value) (b541 : Int), Fr 42 [(3, v540)] a ∧ Chg [] W w ∧ Ow Rp.int 2 true w [] b541 v540 l539 ∧ Zn W b541 ∧ o542 = .inl l539) (fun n a w => ∃ (l281 : (List Int)) (i284 : Int) (v282 : Value) (b283 : Int), Fr 42 [(1, (.pointer (some ⟨b1, 0, none⟩))), (3, v282), (4, (.int .i64 i284))] a ∧ Chg [] W w ∧ InI i284 ∧ Bx w b1 [va0_0] 29 ∧ Zn W (b1 : Int) ∧ Ow Rp.int 2 true w [] b283 v282 l281 ∧ Zn W b283 ∧ Nq ([b1]) b283 ∧ Nq (bl b283 ++ []) (b1 : Int) ∧ lpN (fun s => F_spec_l25Bits_l1 a0_0 s.1 s.2) n (l281, i284) = some o542) n545 ⟨([] : (List Int)), 0, v9, b14, ha.sub ⟨rfl, rfl, rfl, trivial⟩, hE19, (show InI 0 from by decide), hB3, q7, h11, q18, q16, q17, hn546⟩ ?_ ?_
  · rintro m550 a w275 ⟨l281, i284, v282, b283, ha, hE288, hI285, hB276, z277, h279, z280, q286, q287, hF⟩
    cases m550 with
    | zero => exact (lpN_zero hF).elim
    | succ m550 =>
      obtain ⟨z549, hF, hN548⟩ := lpN_succ hF
      have hF : F_spec_l25Bits_l1 a0_0 l281 i284 = some z549 := hF; unfold F_spec_l25Bits_l1 at hF
      refine wp_seq ?_; refine wp_seq ?_; refine wp_region_lit ?_; refine op_g ha rfl (g_move rfl) ?_; clear ha a; intro a ha; refine op_g ha rfl (g_field0 st29_0 rfl) ?_; clear ha a; intro a ha; refine op_g ha rfl (g_load Tryd.isAgg27 rfl (hB276.cell rfl)) ?_; clear ha a; intro a ha; refine op_g ha rfl (g_lenR sl27.und ha0_0 rfl) ?_; clear ha a; intro a ha; refine op_g ha rfl (g_lss rfl rfl) ?_; clear ha a; intro a ha; refine wpList_nil ?_; replace ha := ha.sub (σ' := [(1, (.pointer (some ⟨b1, 0, none⟩))), (3, v282), (4, (.int .i64 i284)), (12, (.bool (decide (i284 < (a0_0.length : Int)))))]) ⟨rfl, rfl, rfl, rfl, trivial⟩
      refine e_then ?_; refine c_cond (i284 < (a0_0.length : Int)) ha rfl (decide_eq_true_iff) (fun hp551 => ?_) (fun hp551 => ?_)
      · replace hF := if_t hp551 hF
        refine wp_skip ?_; refine e_then ?_; refine wp_seq ?_; refine wp_block ?_; refine wp_seq ?_; refine wp_region_lit ?_; refine op_g ha rfl (g_assign rfl) ?_; clear ha a; intro a ha; refine wpList_nil ?_; replace ha := ha.sub (σ' := [(1, (.pointer (some ⟨b1, 0, none⟩))), (3, v282), (4, (.int .i64 i284)), (5, (.int .i64 0))]) ⟨rfl, rfl, rfl, rfl, trivial⟩; refine e_then ?_; refine wp_seq ?_; refine wp_seq ?_; refine wp_region_lit ?_; refine op_g ha rfl (g_assign rfl) ?_; clear ha a; intro a ha; refine wpList_nil ?_; replace ha := ha.sub (σ' := [(1, (.pointer (some ⟨b1, 0, none⟩))), (3, v282), (4, (.int .i64 i284)), (5, (.int .i64 0)), (6, (.int .i64 0))]) ⟨rfl, rfl, rfl, rfl, rfl, trivial⟩
        refine e_then ?_; obtain ⟨o700, ho701, hK702⟩ := bnd_some hF
        obtain ⟨n703, hn704⟩ := lp_some ho701; clear ho701
        refine c_loop (fun a w => ∃ (i696 : Int), Fr 42 [(1, (.pointer (some ⟨b1, 0, none⟩))), (3, v282), (4, (.int .i64 i284)), (5, (.int .i64 i696))] a ∧ Chg [] W w ∧ InI i696 ∧ Bx w b1 [va0_0] 29 ∧ Zn W (b1 : Int) ∧ Ow Rp.int 2 true w [] b283 v282 l281 ∧ Zn W b283 ∧ Nq ([b1]) b283 ∧ Nq (bl b283 ++ []) (b1 : Int) ∧ o700 = .inl i696) (fun n a w => ∃ (i625 : Int) (i627 : Int), Fr 42 [(1, (.pointer (some ⟨b1, 0, none⟩))), (3, v282), (4, (.int .i64 i284)), (5, (.int .i64 i625)), (6, (.int .i64 i627))] a ∧ Chg [] W w ∧ InI i625 ∧ InI i627 ∧ Bx w b1 [va0_0] 29 ∧ Zn W (b1 : Int) ∧ Ow Rp.int 2 true w [] b283 v282 l281 ∧ Zn W b283 ∧ Nq ([b1]) b283 ∧ Nq (bl b283 ++ []) (b1 : Int) ∧ lpN (fun s => F_spec_l25Bits_l2 a0_0 i284 s.1 s.2) n (i625, i627) = some o700) n703 ⟨0, 0, ha.sub ⟨rfl, rfl, rfl, rfl, rfl, trivial⟩, hE288, (show InI 0 from by decide), (show InI 0 from by decide), hB276, z277, h279, z280, q286, q287, hn704⟩ ?_ ?_
        · rintro m708 a w619 ⟨i625, i627, ha, hE631, hI626, hI628, hB620, z621, h623, z624, q629, q630, hF⟩
          cases m708 with
          | zero => exact (lpN_zero hF).elim
          | succ m708 =>
            obtain ⟨z707, hF, hN706⟩ := lpN_succ hF
            have hF : F_spec_l25Bits_l2 a0_0 i284 i625 i627 = some z707 := hF; unfold F_spec_l25Bits_l2 at hF
            refine wp_seq ?_; refine wp_seq ?_; refine wp_region_lit ?_; refine op_g ha rfl (g_move rfl) ?_; clear ha a; intro a ha; refine op_g ha rfl (g_field0 st29_0 rfl) ?_; clear ha a; intro a ha; refine op_g ha rfl (g_load Tryd.isAgg27 rfl (hB620.cell rfl)) ?_; clear ha a; intro a ha; refine op_g ha rfl (g_move rfl) ?_; clear ha a; intro a ha; obtain ⟨x709, g710, gx711, hF⟩ := idx_some hF
            obtain ⟨p712, cs713, f714, hf715, hpb716, hat717, hr718, hi719⟩ := ha0_0.at g710 gx711
            obtain ⟨v720, rfl, h721⟩ := hr718
            have h721 : Ro Rp.int W f714 v720 x709 := h721
            refine op_g ha rfl (hi719.gives sl27 rfl rfl) ?_; clear ha a; intro a ha; refine op_g ha rfl (g_load0 hE631 Tryd.isAgg31 rfl hat717.one) ?_; clear ha a; intro a ha; refine op_g ha rfl (g_lenR sl31.und h721 rfl) ?_; clear ha a; intro a ha; refine op_g ha rfl (g_lss rfl rfl) ?_; clear ha a; intro a ha; refine wpList_nil ?_; replace ha := ha.sub (σ' := [(1, (.pointer (some ⟨b1, 0, none⟩))), (3, v282), (4, (.int .i64 i284)), (5, (.int .i64 i625)), (6, (.int .i64 i627)), (22, (.bool (decide (i627 < (x709.length : Int)))))]) ⟨rfl, rfl, rfl, rfl, rfl, rfl, trivial⟩; refine e_then ?_; refine c_cond (i627 < (x709.length : Int)) ha rfl (decide_eq_true_iff) (fun hp723 => ?_) (fun hp723 => ?_)
            · replace hF := if_t hp723 hF
              refine wp_skip ?_; refine e_then ?_; refine wp_seq ?_; refine wp_block ?_; refine wp_region_lit ?_; refine op_g ha rfl (g_move rfl) ?_; clear ha a; intro a ha; refine op_g ha rfl (g_field0 st29_0 rfl) ?_; clear ha a; intro a ha; refine op_g ha rfl (g_load Tryd.isAgg27 rfl (hB620.cell rfl)) ?_; clear ha a; intro a ha; refine op_g ha rfl (g_move rfl) ?_; clear ha a; intro a ha; obtain ⟨x724, g725, gx726, hF⟩ := idx_some hF
              obtain ⟨p727, cs728, f729, hf730, hpb731, hat732, hr733, hi734⟩ := ha0_0.at g725 gx726
              obtain ⟨v735, rfl, h736⟩ := hr733
              have h736 : Ro Rp.int W f729 v735 x724 := h736
              refine op_g ha rfl (hi734.gives sl27 rfl rfl) ?_; clear ha a; intro a ha; refine op_g ha rfl (g_load0 hE631 Tryd.isAgg31 rfl hat732.one) ?_; clear ha a; intro a ha; refine op_g ha rfl (g_move rfl) ?_; clear ha a; intro a ha; obtain ⟨x738, g739, gx740, hF⟩ := idx_some hF
              obtain ⟨p741, cs742, f743, hf744, hpb745, hat746, hr747, hi748⟩ := h736.at g739 gx740
              obtain ⟨rfl, hI749, rfl⟩ := hr747
              refine op_g ha rfl (hi748.gives sl31 rfl rfl) ?_; clear ha a; intro a ha; refine op_g ha rfl (g_load0 hE631 Tryd.isAgg2 rfl hat746.one) ?_; clear ha a; intro a ha; obtain ⟨h0750, hF⟩ := grd_some hF; refine op_g ha rfl (g_conv6u un2 un73 rfl hI749 h0750) ?_; clear ha a; intro a ha; obtain ⟨hI751, hF⟩ := ck_some hF; refine op_g ha rfl (g64_shl rfl rfl (inU_of hI749 h0750).1 hI751) ?_; clear ha a; intro a ha; refine op_g ha rfl (g64_or rfl rfl) ?_; clear ha a; intro a ha; refine op_g ha rfl (g_assign rfl) ?_; clear ha a; intro a ha; refine wpList_nil ?_; replace ha := ha.sub (σ' := [(1, (.pointer (some ⟨b1, 0, none⟩))), (3, v282), (4, (.int .i64 i284)), (5, (.int .i64 (i64or i625 (1 * 2 ^ (x738 : Int).toNat)))), (6, (.int .i64 i627))]) ⟨rfl, rfl, rfl, rfl, rfl, trivial⟩
              refine e_blk ?_; refine e_then ?_; refine wp_region_lit ?_; refine op_g ha rfl (g_move rfl) ?_; clear ha a; intro a ha; obtain ⟨hI753, hF⟩ := ck_some hF; refine op_g ha rfl (g_add rfl rfl hI753) ?_; clear ha a; intro a ha; refine op_g ha rfl (g_assign rfl) ?_; clear ha a; intro a ha; refine wpList_nil ?_; replace ha := ha.sub (σ' := [(1, (.pointer (some ⟨b1, 0, none⟩))), (3, v282), (4, (.int .i64 i284)), (5, (.int .i64 (i64or i625 (1 * 2 ^ (x738 : Int).toNat)))), (6, (.int .i64 (i627 + 1)))]) ⟨rfl, rfl, rfl, rfl, rfl, trivial⟩; refine e_lq ?_; obtain rfl := Option.some.inj hF
              exact ⟨_, Nat.lt_succ_self _, i64or i625 (1 * 2 ^ (x738 : Int).toNat), i627 + 1, ha.sub ⟨rfl, rfl, rfl, rfl, rfl, trivial⟩, hE631, (in_i64or _ _), hI753, hB620, z621, h623, z624, q629, q630, hN706⟩
            replace hF := if_f hp723 hF; refine wp_exit ?_; refine e_then_exit ?_; refine e_lq_eq ?_; obtain rfl := Option.some.inj hF
            exact ⟨i625, ha.sub ⟨rfl, rfl, rfl, rfl, trivial⟩, hE631, hI626, hB620, z621, h623, z624, q629, q630, (LK_inr hN706).symm⟩
        rintro a w690 ⟨i696, ha, hE705, hI697, hB691, z692, h694, z695, q698, q699, rfl⟩
        have hF : F_spec_l25Bits_k3 l281 i284 i696 = some _ := hK702; clear hK702; unfold F_spec_l25Bits_k3 at hF
        refine e_then ?_; refine wp_region_lit ?_; (iterate 2 refine op_g ha rfl (g_move rfl) ?_; clear ha a; intro a ha)
        refine o_lit1 (o := true) (y := i696) Rp.int ha rfl sl31 rfl rfl rfl ⟨rfl, hI697, rfl⟩ ?_; clear ha a; intro v755 w756 h757 hx758 a ha
        obtain ⟨b760, hb760⟩ : ∃ b : Int, b = w690.heap.size := ⟨_, rfl⟩; rw [← hb760] at h757
        have q761 := zn_of hb760
        have q762 := Nq.new hB691.fpb q761
        have q763 := Nq.madeO q761 hB691.bi
        have q764 := Nq.new h694.fpb q761
        have q765 := Nq.madeO q761 h694.blt
        have q766 := Zn.upD q761 hE705
        replace hB691 := hB691.ext hx758
        replace h694 := h694.ext hx758
        have hE767 := Ext.trans hE705 hx758
        obtain ⟨hl768, hF⟩ := app_some hF
        refine o_append ha rfl sl31 rfl rfl rfl h694 h757.src (Nq.nil _) hl768 ?_; clear ha a; intro v769 w770 b771 h772 hc773 hb774 a ha
        replace h772 : Ow Rp.int 2 true w770 [] b771 v769 _ := h772
        have q776 := Nq.appY q698 hB691.fpb hb774
        have q777 := Nq.appX q699 (Nq.nil _) hb774 hB691.bi
        have q778 := Nq.appY q765 h757.fpb hb774
        have q779 := Nq.appX q764 (Nq.nil _) hb774 h757.blt
        have q780 := Zn.appD z695 hb774 hE767
        replace hB691 := hB691.nq hc773 q698
        replace h757 := h757.nq hc773 q765
        have hE781 := Ext.then hE767 hc773 (Zn.bl z695)
        refine op_g ha rfl (g_assign rfl) ?_; clear ha a; intro a ha; refine wpList_nil ?_; replace ha := ha.sub (σ' := [(1, (.pointer (some ⟨b1, 0, none⟩))), (3, v769), (4, (.int .i64 i284))]) ⟨rfl, rfl, rfl, trivial⟩; refine e_blk ?_; refine e_then ?_; refine wp_region_lit ?_; refine op_g ha rfl (g_move rfl) ?_; clear ha a; intro a ha; obtain ⟨hI782, hF⟩ := ck_some hF; refine op_g ha rfl (g_add rfl rfl hI782) ?_; clear ha a; intro a ha; refine op_g ha rfl (g_assign rfl) ?_; clear ha a; intro a ha; refine wpList_nil ?_; replace ha := ha.sub (σ' := [(1, (.pointer (some ⟨b1, 0, none⟩))), (3, v769), (4, (.int .i64 (i284 + 1)))]) ⟨rfl, rfl, rfl, trivial⟩
        refine e_lq ?_; obtain rfl := Option.some.inj hF
        exact ⟨_, Nat.lt_succ_self _, (l281 ++ ([i696])), i284 + 1, v769, b771, ha.sub ⟨rfl, rfl, rfl, trivial⟩, hE781, hI782, hB691, z692, h772, q780, q776, q777, hN548⟩
      replace hF := if_f hp551 hF; refine wp_exit ?_; refine e_then_exit ?_; refine e_lq_eq ?_; obtain rfl := Option.some.inj hF
      exact ⟨l281, v282, b283, ha.sub ⟨rfl, trivial⟩, hE288, h279, z280, (LK_inr hN548).symm⟩
  rintro a w535 ⟨l539, v540, b541, ha, hE547, h537, z538, rfl⟩
  have hF : F_spec_l25Bits_k4 l539 = some _ := hK544; clear hK544; unfold F_spec_l25Bits_k4 at hF
  refine e_then ?_; refine wp_seq ?_; refine wp_region_lit ?_; refine op_g ha rfl (g_move rfl) ?_; clear ha a; intro a ha; refine op_g ha rfl (g_assign rfl) ?_; clear ha a; intro a ha; refine wpList_nil ?_; replace ha := ha.sub (σ' := [(2, v540)]) ⟨rfl, trivial⟩; refine e_then ?_; refine wp_ret ?_; obtain rfl := Option.some.inj hF
  exact f_ret1 ha rfl rfl ⟨_, h537, z538, hE547⟩
set_option maxHeartbeats 2000000 in
theorem W_spec_l27Low {W : World} {a0 : Int} (ha0 : InI a0) {r : Int} (hF : F_spec_l27Low a0 = some r) :
    Calls Tryd.prog 55 [.int .i64 a0].toArray W (Ret fun u w' => (u = .int .i64 r ∧ InI r) ∧ Ext W w') := by
  refine f_enter Tryd.func55 rfl Tryd.ntmps55 rfl ?_
  intro a ha
  replace ha : Fr 13 [(0, (.int .i64 a0))] a := ha
  have hE : Chg [] W W := Chg.refl _ _
  unfold F_spec_l27Low at hF
  refine wp_seq ?_; refine wp_region_lit ?_; refine op_g ha rfl (g_assign rfl) ?_; clear ha a; intro a ha; refine wpList_nil ?_; replace ha := ha.sub (σ' := [(0, (.int .i64 a0))]) ⟨rfl, trivial⟩; refine e_then ?_; refine wp_seq ?_; refine wp_region_lit ?_; refine op_g ha rfl (g_assign rfl) ?_; clear ha a; intro a ha; refine wpList_nil ?_; refine e_then ?_; refine wp_seq ?_; obtain ⟨o24, ho25, hK26⟩ := bnd_some hF
  obtain ⟨n27, hn28⟩ := lp_some ho25; clear ho25
  refine c_loop (fun a w => ∃ (i22 : Int), Fr 13 [(3, (.int .i64 i22))] a ∧ Chg [] W w ∧ InI i22 ∧ o24 = .inl i22) (fun n a w => ∃ (i11 : Int), Fr 13 [(0, (.int .i64 a0)), (3, (.int .i64 i11))] a ∧ Chg [] W w ∧ InI i11 ∧ lpN (fun s => F_spec_l27Low_l1 a0 s) n i11 = some o24) n27 ⟨0, ha.sub ⟨rfl, rfl, trivial⟩, hE, (show InI 0 from by decide), hn28⟩ ?_ ?_
  · rintro m32 a w10 ⟨i11, ha, hE13, hI12, hF⟩
    cases m32 with
    | zero => exact (lpN_zero hF).elim
    | succ m32 =>
      obtain ⟨z31, hF, hN30⟩ := lpN_succ hF
      have hF : F_spec_l27Low_l1 a0 i11 = some z31 := hF; unfold F_spec_l27Low_l1 at hF
      refine wp_seq ?_; refine wp_seq ?_; refine wp_region_lit ?_; (iterate 2 refine op_g ha rfl (g_move rfl) ?_; clear ha a; intro a ha); obtain ⟨h033, hF⟩ := grd_some hF; refine op_g ha rfl (g_conv6u un2 un73 rfl hI12 h033) ?_; clear ha a; intro a ha; refine op_g ha rfl (g64_shr rfl rfl ha0 (inU_of hI12 h033).1) ?_; clear ha a; intro a ha; refine op_g ha rfl (g64_and rfl rfl) ?_; clear ha a; intro a ha; refine op_g ha rfl (g_eql rfl rfl) ?_; clear ha a; intro a ha; refine wpList_nil ?_; replace ha := ha.sub (σ' := [(0, (.int .i64 a0)), (3, (.int .i64 i11)), (9, (.bool (decide ((i64and (a0 / 2 ^ (i11 : Int).toNat) 1) = 0))))]) ⟨rfl, rfl, rfl, trivial⟩
      refine e_then ?_; refine c_cond ((i64and (a0 / 2 ^ (i11 : Int).toNat) 1) = 0) ha rfl (decide_eq_true_iff) (fun hp34 => ?_) (fun hp34 => ?_)
      · replace hF := if_t hp34 hF
        refine wp_skip ?_; refine e_then ?_; refine wp_block ?_; refine wp_region_lit ?_; refine op_g ha rfl (g_move rfl) ?_; clear ha a; intro a ha; obtain ⟨hI35, hF⟩ := ck_some hF; refine op_g ha rfl (g_add rfl rfl hI35) ?_; clear ha a; intro a ha; refine op_g ha rfl (g_assign rfl) ?_; clear ha a; intro a ha; refine wpList_nil ?_; replace ha := ha.sub (σ' := [(0, (.int .i64 a0)), (3, (.int .i64 (i11 + 1)))]) ⟨rfl, rfl, trivial⟩; refine e_blk ?_; refine e_lq ?_; obtain rfl := Option.some.inj hF
        exact ⟨_, Nat.lt_succ_self _, i11 + 1, ha.sub ⟨rfl, rfl, trivial⟩, hE13, hI35, hN30⟩
      replace hF := if_f hp34 hF; refine wp_exit ?_; refine e_then_exit ?_; refine e_lq_eq ?_; obtain rfl := Option.some.inj hF
      exact ⟨i11, ha.sub ⟨rfl, trivial⟩, hE13, hI12, (LK_inr hN30).symm⟩
  rintro a w21 ⟨i22, ha, hE29, hI23, rfl⟩
  have hF : F_spec_l27Low_k2 i22 = some _ := hK26; clear hK26; unfold F_spec_l27Low_k2 at hF
  refine e_then ?_; refine wp_seq ?_; refine wp_region_lit ?_; refine op_g ha rfl (g_move rfl) ?_; clear ha a; intro a ha; refine op_g ha rfl (g_assign rfl) ?_; clear ha a; intro a ha; refine wpList_nil ?_; replace ha := ha.sub (σ' := [(2, (.int .i64 i22))]) ⟨rfl, trivial⟩; refine e_then ?_; refine wp_ret ?_; obtain rfl := Option.some.inj hF
  exact f_ret1 ha rfl rfl ⟨⟨rfl, hI23⟩, hE29⟩
set_option maxHeartbeats 2000000 in
theorem W_spec_l1Max {W : World} {a0 : Int} (ha0 : InI a0) {a1 : Int} (ha1 : InI a1) {r : Int} (hF : F_spec_l1Max a0 a1 = some r) :
    Calls Tryd.prog 86 [.int .i64 a0, .int .i64 a1].toArray W (Ret fun u w' => (u = .int .i64 r ∧ InI r) ∧ Ext W w') := by
  refine f_enter Tryd.func86 rfl Tryd.ntmps86 rfl ?_
  intro a ha
  replace ha : Fr 10 [(0, (.int .i64 a0)), (1, (.int .i64 a1))] a := ha
  have hE : Chg [] W W := Chg.refl _ _
  unfold F_spec_l1Max at hF
  refine wp_seq ?_; refine wp_region_lit ?_; refine op_g ha rfl (g_assign rfl) ?_; clear ha a; intro a ha; refine wpList_nil ?_; replace ha := ha.sub (σ' := [(0, (.int .i64 a0)), (1, (.int .i64 a1))]) ⟨rfl, rfl, trivial⟩; refine e_then ?_; refine wp_seq ?_; refine wp_seq ?_; refine wp_region_lit ?_; (iterate 2 refine op_g ha rfl (g_move rfl) ?_; clear ha a; intro a ha); refine op_g ha rfl (g_gtr rfl rfl) ?_; clear ha a; intro a ha; refine wpList_nil ?_; replace ha := ha.sub (σ' := [(0, (.int .i64 a0)), (1, (.int .i64 a1)), (7, (.bool (decide (a1 < a0))))]) ⟨rfl, rfl, rfl, trivial⟩; refine e_then ?_
  refine c_cond (a1 < a0) ha rfl (decide_eq_true_iff) (fun hp1 => ?_) (fun hp1 => ?_)
  · replace hF := if_t hp1 hF
    refine wp_seq ?_; refine wp_region_lit ?_; refine op_g ha rfl (g_move rfl) ?_; clear ha a; intro a ha; refine op_g ha rfl (g_assign rfl) ?_; clear ha a; intro a ha; refine wpList_nil ?_; replace ha := ha.sub (σ' := [(4, (.int .i64 a0))]) ⟨rfl, trivial⟩; refine e_then ?_; refine wp_ret ?_; refine e_then_ret ?_; obtain rfl := Option.some.inj hF
    exact f_ret1 ha rfl rfl ⟨⟨rfl, ha0⟩, hE⟩
  replace hF := if_f hp1 hF; refine wp_skip ?_; refine e_then ?_; refine wp_seq ?_; refine wp_region_lit ?_; refine op_g ha rfl (g_move rfl) ?_; clear ha a; intro a ha; refine op_g ha rfl (g_assign rfl) ?_; clear ha a; intro a ha; refine wpList_nil ?_; replace ha := ha.sub (σ' := [(4, (.int .i64 a1))]) ⟨rfl, trivial⟩; refine e_then ?_; refine wp_ret ?_; obtain rfl := Option.some.inj hF
  exact f_ret1 ha rfl rfl ⟨⟨rfl, ha1⟩, hE⟩
set_option maxHeartbeats 2000000 in
theorem W_spec_l27Table {W : World} {va0 : Value} {fa0 : List Nat} {a0 : (List Int)} (ha0 : Ro Rp.int W fa0 va0 a0) {r : (List Int)} (hF : F_spec_l27Table a0 = some r) :
    Calls Tryd.prog 53 [va0].toArray W (Ret fun u w' => ∃ (b_u : Int), Ow Rp.int 2 true w' [] b_u u r ∧ Zn W b_u ∧ Ext W w') := by
  refine f_enter Tryd.func53 rfl Tryd.ntmps53 rfl ?_
  intro a ha
  replace ha : Fr 59 [(0, va0)] a := ha
  have hE : Chg [] W W := Chg.refl _ _
  unfold F_spec_l27Table at hF
  refine wp_seq ?_; refine wp_region_lit ?_; refine op_g ha rfl (g_assign rfl) ?_; clear ha a; intro a ha; refine wpList_nil ?_; replace ha := ha.sub (σ' := [(0, va0)]) ⟨rfl, trivial⟩; refine e_then ?_; refine wp_seq ?_; refine wp_region_lit ?_; refine op_g ha rfl (g_move rfl) ?_; clear ha a; intro a ha; refine op_g ha rfl (g_lenR sl31.und ha0 rfl) ?_; clear ha a; intro a ha; obtain ⟨h01, hF⟩ := grd_some hF; refine op_g ha rfl (g_conv6u un3 un73 rfl ha0.len h01) ?_; clear ha a; intro a ha; obtain ⟨hI2, hF⟩ := ck_some hF; refine op_g ha rfl (g64_shl rfl rfl (inU_of ha0.len h01).1 hI2) ?_; clear ha a; intro a ha
  obtain ⟨g8, g8b, hF⟩ := mkS_some hF
  refine o_make (z0 := (0 : Int)) Rp.int ha rfl sl31 rfl (fun w => ⟨rfl, by decide, rfl⟩) rfl g8 g8b ?_; clear ha a; intro v4 w5 h6 hx7 a ha
  obtain ⟨b11, hb11⟩ : ∃ b : Int, b = W.heap.size := ⟨_, rfl⟩; rw [← hb11] at h6
  have q12 := zn_of hb11
  have q13 := Zn.upD q12 hE
  have hE14 := Ext.trans hE hx7
  refine op_g ha rfl (g_assign rfl) ?_; clear ha a; intro a ha; refine wpList_nil ?_; replace ha := ha.sub (σ' := [(0, va0), (3, v4)]) ⟨rfl, rfl, trivial⟩; refine e_then ?_; refine wp_seq ?_; refine wp_seq ?_; refine wp_region_lit ?_; refine op_g ha rfl (g_assign rfl) ?_; clear ha a; intro a ha; refine wpList_nil ?_; refine e_then ?_; obtain ⟨o409, ho410, hK411⟩ := bnd_some hF
  obtain ⟨n412, hn413⟩ := lp_some ho410; clear ho410
  refine c_loop (fun a w => ∃ (l406 : (List Int)) (v407 : Value) (b408 : Int), Fr 59 [(3, v407)] a ∧ Chg [] W w ∧ Ow Rp.int 2 true w [] b408 v407 l406 ∧ Zn W b408 ∧ o409 = .inl l406) (fun n a w => ∃ (l210 : (List Int)) (i213 : Int) (v211 : Value) (b212 : Int), Fr 59 [(0, va0), (3, v211), (4, (.int .i64 i213))] a ∧ Chg [] W w ∧ InI i213 ∧ Ow Rp.int 2 true w [] b212 v211 l210 ∧ Zn W b212 ∧ lpN (fun s => F_spec_l27Table_l1 a0 s.1 s.2) n (l210, i213) = some o409) n412 ⟨(List.replicate (1 * 2 ^ ((a0.length : Int) : Int).toNat : Int).toNat (0 : Int)), 1, v4, b11, ha.sub ⟨rfl, rfl, rfl, trivial⟩, hE14, (show InI 1 from by decide), h6, q13, hn413⟩ ?_ ?_
  · rintro m417 a w206 ⟨l210, i213, v211, b212, ha, hE215, hI214, h208, z209, hF⟩
    cases m417 with
    | zero => exact (lpN_zero hF).elim
    | succ m417 =>
      obtain ⟨z416, hF, hN415⟩ := lpN_succ hF
      have hF : F_spec_l27Table_l1 a0 l210 i213 = some z416 := hF; unfold F_spec_l27Table_l1 at hF
      refine wp_seq ?_; refine wp_seq ?_; refine wp_region_lit ?_; (iterate 2 refine op_g ha rfl (g_move rfl) ?_; clear ha a; intro a ha); refine op_g ha rfl (g_lenO sl31.und h208 rfl) ?_; clear ha a; intro a ha; refine op_g ha rfl (g_lss rfl rfl) ?_; clear ha a; intro a ha; refine wpList_nil ?_; replace ha := ha.sub (σ' := [(0, va0), (3, v211), (4, (.int .i64 i213)), (17, (.bool (decide (i213 < (l210.length : Int)))))]) ⟨rfl, rfl, rfl, rfl, trivial⟩; refine e_then ?_; refine c_cond (i213 < (l210.length : Int)) ha rfl (decide_eq_true_iff) (fun hp418 => ?_) (fun hp418 => ?_)
      · replace hF := if_t hp418 hF
        refine wp_skip ?_; refine e_then ?_; refine wp_seq ?_; refine wp_block ?_; refine wp_seq ?_; refine wp_region_lit ?_; refine op_g ha rfl (g_move rfl) ?_; clear ha a; intro a ha; obtain ⟨x419, hc420, hF⟩ := cal_some hF
        refine o_call ha rfl rfl Tryd.call55 (W_spec_l27Low hI214 hc420) ?_; clear ha a; rintro v421 w422 ⟨⟨rfl, hI424⟩, hx423⟩ a ha
        replace h208 := h208.ext hx423
        have hE425 := Ext.trans hE215 hx423
        refine op_g ha rfl (g_assign rfl) ?_; clear ha a; intro a ha; refine wpList_nil ?_; replace ha := ha.sub (σ' := [(0, va0), (3, v211), (4, (.int .i64 i213)), (5, (.int .i64 x419))]) ⟨rfl, rfl, rfl, rfl, trivial⟩; refine e_then ?_; refine wp_seq ?_; refine wp_region_lit ?_; (iterate 2 refine op_g ha rfl (g_move rfl) ?_; clear ha a; intro a ha); obtain ⟨hI426, hF⟩ := ck_some hF; refine op_g ha rfl (g_sub rfl rfl hI426) ?_; clear ha a; intro a ha; refine op_g ha rfl (g64_and rfl rfl) ?_; clear ha a; intro a ha; refine op_g ha rfl (g_assign rfl) ?_; clear ha a; intro a ha; refine wpList_nil ?_
        replace ha := ha.sub (σ' := [(0, va0), (3, v211), (4, (.int .i64 i213)), (5, (.int .i64 x419)), (6, (.int .i64 (i64and i213 (i213 - 1))))]) ⟨rfl, rfl, rfl, rfl, rfl, trivial⟩; refine e_then ?_; refine wp_seq ?_; refine wp_region_lit ?_; (iterate 2 refine op_g ha rfl (g_move rfl) ?_; clear ha a; intro a ha); obtain ⟨x428, g429, gx430, hF⟩ := idx_some hF
        obtain ⟨p431, cs432, f433, hf434, hpb435, hat436, hr437, hi438⟩ := h208.at g429 gx430
        obtain ⟨rfl, hI439, rfl⟩ := hr437
        refine op_g ha rfl (hi438.gives sl31 rfl rfl) ?_; clear ha a; intro a ha; refine op_g ha rfl (g_load Tryd.isAgg2 rfl hat436.one) ?_; clear ha a; intro a ha; refine op_g ha rfl (g_assign rfl) ?_; clear ha a; intro a ha; refine wpList_nil ?_; replace ha := ha.sub (σ' := [(0, va0), (3, v211), (4, (.int .i64 i213)), (5, (.int .i64 x419)), (6, (.int .i64 (i64and i213 (i213 - 1)))), (7, (.int .i64 x428))]) ⟨rfl, rfl, rfl, rfl, rfl, rfl, trivial⟩; refine e_then ?_; refine wp_seq ?_; refine wp_seq ?_; refine wp_region_lit ?_; (iterate 2 refine op_g ha rfl (g_move rfl) ?_; clear ha a; intro a ha)
        obtain ⟨x440, g441, gx442, hF⟩ := idx_some hF
        obtain ⟨p443, cs444, f445, hf446, hpb447, hat448, hr449, hi450⟩ := ha0.at g441 gx442
        obtain ⟨rfl, hI451, rfl⟩ := hr449
        refine op_g ha rfl (hi450.gives sl31 rfl rfl) ?_; clear ha a; intro a ha; refine op_g ha rfl (g_load0 hE425 Tryd.isAgg2 rfl hat448.one) ?_; clear ha a; intro a ha; refine op_g ha rfl (g_move rfl) ?_; clear ha a; intro a ha; refine op_g ha rfl (g64_and rfl rfl) ?_; clear ha a; intro a ha; refine op_g ha rfl (g_assign rfl) ?_; clear ha a; intro a ha; refine wpList_nil ?_; replace ha := ha.sub (σ' := [(0, va0), (3, v211), (4, (.int .i64 i213)), (6, (.int .i64 (i64and i213 (i213 - 1)))), (7, (.int .i64 x428)), (8, (.int .i64 (i64and x440 (i64and i213 (i213 - 1)))))]) ⟨rfl, rfl, rfl, rfl, rfl, rfl, trivial⟩
        refine e_then ?_; obtain ⟨o540, ho541, hK542⟩ := bnd_some hF
        obtain ⟨n543, hn544⟩ := lp_some ho541; clear ho541
        refine c_loop (fun a w => ∃ (i538 : Int), Fr 59 [(0, va0), (3, v211), (4, (.int .i64 i213)), (7, (.int .i64 i538))] a ∧ Chg [] W w ∧ InI i538 ∧ Ow Rp.int 2 true w [] b212 v211 l210 ∧ Zn W b212 ∧ o540 = .inl i538) (fun n a w => ∃ (i495 : Int) (i497 : Int), Fr 59 [(0, va0), (3, v211), (4, (.int .i64 i213)), (6, (.int .i64 (i64and i213 (i213 - 1)))), (7, (.int .i64 i495)), (8, (.int .i64 i497))] a ∧ Chg [] W w ∧ InI i495 ∧ InI i497 ∧ Ow Rp.int 2 true w [] b212 v211 l210 ∧ Zn W b212 ∧ lpN (fun s => F_spec_l27Table_l2 l210 i213 s.1 s.2) n (i495, i497) = some o540) n543 ⟨x428, i64and x440 (i64and i213 (i213 - 1)), ha.sub ⟨rfl, rfl, rfl, rfl, rfl, rfl, trivial⟩, hE425, hI439, (in_i64and _ _), h208, z209, hn544⟩ ?_ ?_
        · rintro m548 a w491 ⟨i495, i497, ha, hE499, hI496, hI498, h493, z494, hF⟩
          cases m548 with
          | zero => exact (lpN_zero hF).elim
          | succ m548 =>
            obtain ⟨z547, hF, hN546⟩ := lpN_succ hF
            have hF : F_spec_l27Table_l2 l210 i213 i495 i497 = some z547 := hF; unfold F_spec_l27Table_l2 at hF
            refine wp_seq ?_; refine wp_seq ?_; refine wp_region_lit ?_; refine op_g ha rfl (g_move rfl) ?_; clear ha a; intro a ha; refine op_g ha rfl (g_gtr rfl rfl) ?_; clear ha a; intro a ha; refine wpList_nil ?_; replace ha := ha.sub (σ' := [(0, va0), (3, v211), (4, (.int .i64 i213)), (6, (.int .i64 (i64and i213 (i213 - 1)))), (7, (.int .i64 i495)), (8, (.int .i64 i497)), (37, (.bool (decide (0 < i497))))]) ⟨rfl, rfl, rfl, rfl, rfl, rfl, rfl, trivial⟩; refine e_then ?_; refine c_cond (0 < i497) ha rfl (decide_eq_true_iff) (fun hp549 => ?_) (fun hp549 => ?_)
            · replace hF := if_t hp549 hF
              refine wp_skip ?_; refine e_then ?_; refine wp_seq ?_; refine wp_block ?_; refine wp_region_lit ?_; (iterate 5 refine op_g ha rfl (g_move rfl) ?_; clear ha a; intro a ha); obtain ⟨hI550, hF⟩ := ck_some hF; refine op_g ha rfl (g_neg rfl hI550) ?_; clear ha a; intro a ha; refine op_g ha rfl (g64_and rfl rfl) ?_; clear ha a; intro a ha; refine op_g ha rfl (g64_andNot rfl rfl) ?_; clear ha a; intro a ha; obtain ⟨x552, g553, gx554, hF⟩ := idx_some hF
              obtain ⟨p555, cs556, f557, hf558, hpb559, hat560, hr561, hi562⟩ := h493.at g553 gx554
              obtain ⟨rfl, hI563, rfl⟩ := hr561
              refine op_g ha rfl (hi562.gives sl31 rfl rfl) ?_; clear ha a; intro a ha; refine op_g ha rfl (g_load Tryd.isAgg2 rfl hat560.one) ?_; clear ha a; intro a ha; obtain ⟨hI564, hF⟩ := ck_some hF; refine op_g ha rfl (g_add rfl rfl hI564) ?_; clear ha a; intro a ha; obtain ⟨x566, hc567, hF⟩ := cal_some hF
              refine o_call ha rfl rfl Tryd.call86 (W_spec_l1Max hI496 hI564 hc567) ?_; clear ha a; rintro v568 w569 ⟨⟨rfl, hI571⟩, hx570⟩ a ha
              replace h493 := h493.ext hx570
              have hE572 := Ext.trans hE499 hx570
              refine op_g ha rfl (g_assign rfl) ?_; clear ha a; intro a ha; refine wpList_nil ?_; replace ha := ha.sub (σ' := [(0, va0), (3, v211), (4, (.int .i64 i213)), (6, (.int .i64 (i64and i213 (i213 - 1)))), (7, (.int .i64 x566)), (8, (.int .i64 i497))]) ⟨rfl, rfl, rfl, rfl, rfl, rfl, trivial⟩; refine e_blk ?_; refine e_then ?_; refine wp_region_lit ?_; (iterate 2 refine op_g ha rfl (g_move rfl) ?_; clear ha a; intro a ha); obtain ⟨hI573, hF⟩ := ck_some hF; refine op_g ha rfl (g_sub rfl rfl hI573) ?_; clear ha a; intro a ha; refine op_g ha rfl (g64_and rfl rfl) ?_; clear ha a; intro a ha
              refine op_g ha rfl (g_assign rfl) ?_; clear ha a; intro a ha; refine wpList_nil ?_; replace ha := ha.sub (σ' := [(0, va0), (3, v211), (4, (.int .i64 i213)), (6, (.int .i64 (i64and i213 (i213 - 1)))), (7, (.int .i64 x566)), (8, (.int .i64 (i64and i497 (i497 - 1))))]) ⟨rfl, rfl, rfl, rfl, rfl, rfl, trivial⟩; refine e_lq ?_; obtain rfl := Option.some.inj hF
              exact ⟨_, Nat.lt_succ_self _, x566, i64and i497 (i497 - 1), ha.sub ⟨rfl, rfl, rfl, rfl, rfl, rfl, trivial⟩, hE572, hI571, (in_i64and _ _), h493, z494, hN546⟩
            replace hF := if_f hp549 hF; refine wp_exit ?_; refine e_then_exit ?_; refine e_lq_eq ?_; obtain rfl := Option.some.inj hF
            exact ⟨i495, ha.sub ⟨rfl, rfl, rfl, rfl, trivial⟩, hE499, hI496, h493, z494, (LK_inr hN546).symm⟩
        rintro a w534 ⟨i538, ha, hE545, hI539, h536, z537, rfl⟩
        have hF : F_spec_l27Table_k3 l210 i213 i538 = some _ := hK542; clear hK542; unfold F_spec_l27Table_k3 at hF
        refine e_then ?_; refine wp_region_lit ?_; (iterate 3 refine op_g ha rfl (g_move rfl) ?_; clear ha a; intro a ha); obtain ⟨x575, g576, gx577, hF⟩ := idx_some hF
        obtain ⟨p578, cs579, f580, hf581, hpb582, hat583, hr584, hi585⟩ := h536.at g576 gx577
        obtain ⟨rfl, hI586, rfl⟩ := hr584
        refine op_g ha rfl (hi585.gives sl31 rfl rfl) ?_; clear ha a; intro a ha
        refine o_storeE (f := []) (q := i538) ha Tryd.sizeOf2 rfl rfl rfl h536 hi585 ⟨rfl, hI539, rfl⟩ (Nq.nil _) ?_; intro w587 fs588 h589 hc590 hs591
        obtain rfl := Subst.nil hs591
        have hE592 := Ext.then hE545 hc590 (Zn.bl z537)
        refine wpList_nil ?_; replace ha := ha.sub (σ' := [(0, va0), (3, v211), (4, (.int .i64 i213))]) ⟨rfl, rfl, rfl, trivial⟩; refine e_blk ?_; refine e_then ?_; refine wp_region_lit ?_; refine op_g ha rfl (g_move rfl) ?_; clear ha a; intro a ha; obtain ⟨hI593, hF⟩ := ck_some hF; refine op_g ha rfl (g_add rfl rfl hI593) ?_; clear ha a; intro a ha; refine op_g ha rfl (g_assign rfl) ?_; clear ha a; intro a ha; refine wpList_nil ?_; replace ha := ha.sub (σ' := [(0, va0), (3, v211), (4, (.int .i64 (i213 + 1)))]) ⟨rfl, rfl, rfl, trivial⟩; refine e_lq ?_; obtain rfl := Option.some.inj hF
        exact ⟨_, Nat.lt_succ_self _, (l210.set ((i213 : Int).toNat) i538), i213 + 1, v211, b212, ha.sub ⟨rfl, rfl, rfl, trivial⟩, hE592, hI593, h589, z537, hN415⟩
      replace hF := if_f hp418 hF; refine wp_exit ?_; refine e_then_exit ?_; refine e_lq_eq ?_; obtain rfl := Option.some.inj hF
      exact ⟨l210, v211, b212, ha.sub ⟨rfl, trivial⟩, hE215, h208, z209, (LK_inr hN415).symm⟩
  rintro a w402 ⟨l406, v407, b408, ha, hE414, h404, z405, rfl⟩
  have hF : F_spec_l27Table_k4 l406 = some _ := hK411; clear hK411; unfold F_spec_l27Table_k4 at hF
  refine e_then ?_; refine wp_seq ?_; refine wp_region_lit ?_; refine op_g ha rfl (g_move rfl) ?_; clear ha a; intro a ha; refine op_g ha rfl (g_assign rfl) ?_; clear ha a; intro a ha; refine wpList_nil ?_; replace ha := ha.sub (σ' := [(2, v407)]) ⟨rfl, trivial⟩; refine e_then ?_; refine wp_ret ?_; obtain rfl := Option.some.inj hF
  exact f_ret1 ha rfl rfl ⟨_, h404, z405, hE414⟩
set_option maxHeartbeats 2000000 in
theorem W_spec_l25All {W : World} {va0_0 : Value} {fa0_0 : List Nat} {a0_0 : (List (List Int))} (ha0_0 : Ro (Rp.sl 2 Rp.int) W fa0_0 va0_0 a0_0) {r : Int} (hF : F_spec_l25All a0_0 = some r) :
    Calls Tryd.prog 54 [.agg #[va0_0]].toArray W (Ret fun u w' => (u = .int .i64 r ∧ InI r) ∧ Ext W w') := by
  refine f_enter Tryd.func54 rfl Tryd.ntmps54 rfl ?_
  intro a ha
  replace ha : Fr 9 [(0, (.agg #[va0_0]))] a := ha
  have hE : Chg [] W W := Chg.refl _ _
  unfold F_spec_l25All at hF
  refine wp_seq ?_; refine wp_region_lit ?_
  refine o_box ha rfl rfl rfl ?_; clear ha a; intro b1 w2 hB3 hx4 hlo5 a ha
  have q6 := Zn.one hlo5
  have q7 := Zn.upD q6 hE
  have hE8 := Ext.trans hE hx4
  refine op_g ha rfl (g_assign rfl) ?_; clear ha a; intro a ha; refine wpList_nil ?_; replace ha := ha.sub (σ' := [(1, (.pointer (some ⟨b1, 0, none⟩)))]) ⟨rfl, trivial⟩; refine e_then ?_; refine wp_seq ?_; refine wp_region_lit ?_; refine op_g ha rfl (g_field0 st29_0 rfl) ?_; clear ha a; intro a ha; refine op_g ha rfl (g_load Tryd.isAgg27 rfl (hB3.cell rfl)) ?_; clear ha a; intro a ha; refine op_g ha rfl (g_lenR sl27.und ha0_0 rfl) ?_; clear ha a; intro a ha; obtain ⟨h09, hF⟩ := grd_some hF; refine op_g ha rfl (g_conv6u un3 un73 rfl ha0_0.len h09) ?_; clear ha a; intro a ha; obtain ⟨hI10, hF⟩ := ck_some hF
  refine op_g ha rfl (g64_shl rfl rfl (inU_of ha0_0.len h09).1 hI10) ?_; clear ha a; intro a ha; obtain ⟨hI12, hF⟩ := ck_some hF; refine op_g ha rfl (g_sub rfl rfl hI12) ?_; clear ha a; intro a ha; refine op_g ha rfl (g_assign rfl) ?_; clear ha a; intro a ha; refine wpList_nil ?_; replace ha := ha.sub (σ' := [(2, (.int .i64 ((1 * 2 ^ ((a0_0.length : Int) : Int).toNat) - 1)))]) ⟨rfl, trivial⟩; refine e_then ?_; refine wp_ret ?_; obtain rfl := Option.some.inj hF
  exact f_ret1 ha rfl rfl ⟨⟨rfl, hI12⟩, hE8⟩
set_option maxHeartbeats 2000000 in
theorem W_spec_BestMatch {W : World} {va0_0 : Value} {fa0_0 : List Nat} {a0_0 : (List (List Int))} (ha0_0 : Ro (Rp.sl 2 Rp.int) W fa0_0 va0_0 a0_0) {r : (List (List Int))} (hF : F_spec_BestMatch a0_0 = some r) :
    Calls Tryd.prog 19 [.agg #[va0_0]].toArray W (Ret fun u w' => ∃ (b_u : Int) (fs_u : List Nat), Ow (Rp.sl 2 Rp.int) 31 true w' fs_u b_u u r ∧ Zn W b_u ∧ (∀ k ∈ fs_u, W.heap.size ≤ k) ∧ (bl b_u ++ fs_u).Nodup ∧ Ext W w') := by
  refine f_enter Tryd.func19 rfl Tryd.ntmps19 rfl ?_
  intro a ha
  replace ha : Fr 79 [(0, (.agg #[va0_0]))] a := ha
  have hE : Chg [] W W := Chg.refl _ _
  unfold F_spec_BestMatch at hF
  refine wp_seq ?_; refine wp_region_lit ?_
  refine o_box ha rfl rfl rfl ?_; clear ha a; intro b1 w2 hB3 hx4 hlo5 a ha
  have q6 := Zn.one hlo5
  have q7 := Zn.upD q6 hE
  have hE8 := Ext.trans hE hx4
  refine op_g ha rfl (g_assign rfl) ?_; clear ha a; intro a ha; refine wpList_nil ?_; replace ha := ha.sub (σ' := [(1, (.pointer (some ⟨b1, 0, none⟩)))]) ⟨rfl, trivial⟩; refine e_then ?_; refine wp_seq ?_; refine wp_region_lit ?_
  refine o_lit0 (Rp.sl 2 Rp.int) ha rfl sl27 ?_; clear ha a; intro v9 w10 h11 hx12 a ha
  obtain ⟨b14, hb14⟩ : ∃ b : Int, b = w2.heap.size := ⟨_, rfl⟩; rw [← hb14] at h11
  have q15 := zn_of hb14
  have q16 := Nq.new hB3.fpb q15
  have q17 := Nq.madeO q15 hB3.bi
  have q18 := Zn.upD q15 hE8
  replace hB3 := hB3.ext hx12
  have hE19 := Ext.trans hE8 hx12
  refine op_g ha rfl (g_assign rfl) ?_; clear ha a; intro a ha; refine wpList_nil ?_; replace ha := ha.sub (σ' := [(1, (.pointer (some ⟨b1, 0, none⟩))), (3, v9)]) ⟨rfl, rfl, trivial⟩; refine e_then ?_; refine wp_seq ?_; refine wp_seq ?_; refine wp_region_lit ?_; refine op_g ha rfl (g_loadA (cs := [va0_0]) Tryd.isAgg29 Tryd.sizeOf29 rfl (by simp) hB3.all) ?_; clear ha a; intro a ha; obtain ⟨x20, hc21, hF⟩ := cal_some hF
  refine o_call ha rfl rfl Tryd.call33 (W_spec_GraphOk (ha0_0.ext hE19) hc21) ?_; clear ha a; rintro v22 w23 ⟨rfl, hx24⟩ a ha
  replace hB3 := hB3.ext hx24
  replace h11 := h11.ext hx24
  have hE25 := Ext.trans hE19 hx24
  refine op_g ha rfl (g_not rfl) ?_; clear ha a; intro a ha; refine wpList_nil ?_; replace ha := ha.sub (σ' := [(1, (.pointer (some ⟨b1, 0, none⟩))), (3, v9), (14, (.bool (!x20)))]) ⟨rfl, rfl, rfl, trivial⟩; refine e_then ?_; refine c_cond (¬ (x20 = true)) ha rfl (n_iff (Iff.rfl)) (fun hp26 => ?_) (fun hp26 => ?_)
  · replace hF := if_t hp26 hF
    refine wp_seq ?_; refine wp_region_lit ?_; refine op_g ha rfl (g_move rfl) ?_; clear ha a; intro a ha; refine op_g ha rfl (g_assign rfl) ?_; clear ha a; intro a ha; refine wpList_nil ?_; replace ha := ha.sub (σ' := [(2, v9)]) ⟨rfl, trivial⟩; refine e_then ?_; refine wp_ret ?_; refine e_then_ret ?_; obtain rfl := Option.some.inj hF
    exact f_ret1 ha rfl rfl ⟨_, _, h11, q18, (zf_nil _), (bl_nodup b14), hE25⟩
  replace hF := if_f hp26 hF; refine wp_skip ?_; refine e_then ?_; refine wp_seq ?_; refine wp_region_lit ?_; refine op_g ha rfl (g_loadA (cs := [va0_0]) Tryd.isAgg29 Tryd.sizeOf29 rfl (by simp) hB3.all) ?_; clear ha a; intro a ha; obtain ⟨x27, hc28, hF⟩ := cal_some hF
  refine o_call ha rfl rfl Tryd.call52 (W_spec_l25Bits (ha0_0.ext hE25) hc28) ?_; clear ha a; rintro v29 w30 ⟨b32, h33, z34, hx31⟩ a ha
  have q36 := Nq.new hB3.fpb z34
  have q37 := Nq.madeO z34 hB3.bi
  have q38 := Nq.new h11.fpb z34
  have q39 := Nq.madeO z34 h11.blt
  replace hB3 := hB3.ext hx31
  replace h11 := h11.ext hx31
  have hE40 := Ext.trans hE25 hx31
  have q41 := Zn.upD z34 hE25
  refine op_g ha rfl (g_assign rfl) ?_; clear ha a; intro a ha; refine wpList_nil ?_; replace ha := ha.sub (σ' := [(1, (.pointer (some ⟨b1, 0, none⟩))), (3, v9), (4, v29)]) ⟨rfl, rfl, rfl, trivial⟩; refine e_then ?_; refine wp_seq ?_; refine wp_region_lit ?_; refine op_g ha rfl (g_move rfl) ?_; clear ha a; intro a ha
  obtain ⟨fp42, hro43, hs44⟩ := h33.roF
  obtain ⟨x45, hc46, hF⟩ := cal_some hF
  refine o_call ha rfl rfl Tryd.call53 (W_spec_l27Table hro43 hc46) ?_; clear ha a; rintro v47 w48 ⟨b50, h51, z52, hx49⟩ a ha
  have q54 := Nq.new hB3.fpb z52
  have q55 := Nq.madeO z52 hB3.bi
  have q56 := Nq.new h11.fpb z52
  have q57 := Nq.madeO z52 h11.blt
  have q58 := Nq.new h33.fpb z52
  have q59 := Nq.madeO z52 h33.blt
  replace hB3 := hB3.ext hx49
  replace h11 := h11.ext hx49
  replace h33 := h33.ext hx49
  have hE60 := Ext.trans hE40 hx49
  have q61 := Zn.upD z52 hE40
  refine op_g ha rfl (g_assign rfl) ?_; clear ha a; intro a ha; refine wpList_nil ?_; replace ha := ha.sub (σ' := [(1, (.pointer (some ⟨b1, 0, none⟩))), (3, v9), (4, v29), (5, v47)]) ⟨rfl, rfl, rfl, rfl, trivial⟩; refine e_then ?_; refine wp_seq ?_; refine wp_region_lit ?_; refine op_g ha rfl (g_loadA (cs := [va0_0]) Tryd.isAgg29 Tryd.sizeOf29 rfl (by simp) hB3.all) ?_; clear ha a; intro a ha; obtain ⟨x62, hc63, hF⟩ := cal_some hF
  refine o_call ha rfl rfl Tryd.call54 (W_spec_l25All (ha0_0.ext hE60) hc63) ?_; clear ha a; rintro v64 w65 ⟨⟨rfl, hI67⟩, hx66⟩ a ha
  replace hB3 := hB3.ext hx66
  replace h11 := h11.ext hx66
  replace h33 := h33.ext hx66
  replace h51 := h51.ext hx66
  have hE68 := Ext.trans hE60 hx66
  refine op_g ha rfl (g_assign rfl) ?_; clear ha a; intro a ha; refine wpList_nil ?_; replace ha := ha.sub (σ' := [(3, v9), (4, v29), (5, v47), (6, (.int .i64 x62))]) ⟨rfl, rfl, rfl, rfl, trivial⟩; refine e_then ?_; refine wp_seq ?_; obtain ⟨o848, ho849, hK850⟩ := bnd_some hF
  obtain ⟨n851, hn852⟩ := lp_some ho849; clear ho849
  refine c_loop (fun a w => ∃ (l845 : (List (List Int))) (fs842 : List Nat) (v846 : Value) (b847 : Int), Fr 79 [(3, v846)] a ∧ Chg [] W w ∧ Ow (Rp.sl 2 Rp.int) 31 true w fs842 b847 v846 l845 ∧ Zn W b847 ∧ (∀ k ∈ fs842, W.heap.size ≤ k) ∧ (bl b847 ++ fs842).Nodup ∧ o848 = .inl l845) (fun n a w => ∃ (l458 : (List (List Int))) (i467 : Int) (fs455 : List Nat) (v459 : Value) (b460 : Int), Fr 79 [(3, v459), (4, v29), (5, v47), (6, (.int .i64 i467))] a ∧ Chg [] W w ∧ InI i467 ∧ Ow (Rp.sl 2 Rp.int) 31 true w fs455 b460 v459 l458 ∧ Zn W b460 ∧ (∀ k ∈ fs455, W.heap.size ≤ k) ∧ (bl b460 ++ fs455).Nodup ∧ Ow Rp.int 2 true w [] b32 v29 x27 ∧ Zn W b32 ∧ Ow Rp.int 2 true w [] b50 v47 x45 ∧ Zn W b50 ∧ Nq (bl b460 ++ fs455) b32 ∧ Nq (bl b460 ++ fs455) b50 ∧ Nq (bl b32 ++ []) b460 ∧ Nq (bl b32 ++ []) b50 ∧ Nq (bl b50 ++ []) b460 ∧ Nq (bl b50 ++ []) b32 ∧ lpN (fun s => F_spec_BestMatch_l1 x27 x45 s.1 s.2) n (l458, i467) = some o848) n851 ⟨([] : (List (List Int))), x62, [], v9, b14, ha.sub ⟨rfl, rfl, rfl, rfl, trivial⟩, hE68, hI67, h11, q18, (zf_nil _), (bl_nodup b14), h33, q41, h51, q61, q38, q56, q39, q58, q57, q59, hn852⟩ ?_ ?_
  · rintro m856 a w451 ⟨l458, i467, fs455, v459, b460, ha, hE475, hI468, h453, z454, zf456, nd457, h462, z463, h465, z466, q469, q470, q471, q472, q473, q474, hF⟩
    cases m856 with
    | zero => exact (lpN_zero hF).elim
    | succ m856 =>
      obtain ⟨z855, hF, hN854⟩ := lpN_succ hF
      have hF : F_spec_BestMatch_l1 x27 x45 l458 i467 = some z855 := hF; unfold F_spec_BestMatch_l1 at hF
      refine wp_seq ?_; refine wp_seq ?_; refine wp_region_lit ?_; (iterate 2 refine op_g ha rfl (g_move rfl) ?_; clear ha a; intro a ha); obtain ⟨x857, g858, gx859, hF⟩ := idx_some hF
      obtain ⟨p860, cs861, f862, hf863, hpb864, hat865, hr866, hi867⟩ := h465.at g858 gx859
      obtain ⟨rfl, hI868, rfl⟩ := hr866
      refine op_g ha rfl (hi867.gives sl31 rfl rfl) ?_; clear ha a; intro a ha; refine op_g ha rfl (g_load Tryd.isAgg2 rfl hat865.one) ?_; clear ha a; intro a ha; refine op_g ha rfl (g_gtr rfl rfl) ?_; clear ha a; intro a ha; refine wpList_nil ?_; replace ha := ha.sub (σ' := [(3, v459), (4, v29), (5, v47), (6, (.int .i64 i467)), (26, (.bool (decide (0 < x857))))]) ⟨rfl, rfl, rfl, rfl, rfl, trivial⟩; refine e_then ?_; refine c_cond (0 < x857) ha rfl (decide_eq_true_iff) (fun hp869 => ?_) (fun hp869 => ?_)
      · replace hF := if_t hp869 hF
        refine wp_skip ?_; refine e_then ?_; refine wp_block ?_; refine wp_seq ?_; refine wp_region_lit ?_; refine op_g ha rfl (g_move rfl) ?_; clear ha a; intro a ha; obtain ⟨x870, hc871, hF⟩ := cal_some hF
        refine o_call ha rfl rfl Tryd.call55 (W_spec_l27Low hI468 hc871) ?_; clear ha a; rintro v872 w873 ⟨⟨rfl, hI875⟩, hx874⟩ a ha
        replace h453 := h453.ext hx874
        replace h462 := h462.ext hx874
        replace h465 := h465.ext hx874
        have hE876 := Ext.trans hE475 hx874
        refine op_g ha rfl (g_assign rfl) ?_; clear ha a; intro a ha; refine wpList_nil ?_; replace ha := ha.sub (σ' := [(3, v459), (4, v29), (5, v47), (6, (.int .i64 i467)), (7, (.int .i64 x870))]) ⟨rfl, rfl, rfl, rfl, rfl, trivial⟩; refine e_then ?_; refine wp_seq ?_; refine wp_region_lit ?_; (iterate 2 refine op_g ha rfl (g_move rfl) ?_; clear ha a; intro a ha); obtain ⟨hI877, hF⟩ := ck_some hF; refine op_g ha rfl (g_sub rfl rfl hI877) ?_; clear ha a; intro a ha; refine op_g ha rfl (g64_and rfl rfl) ?_; clear ha a; intro a ha; refine op_g ha rfl (g_assign rfl) ?_; clear ha a; intro a ha; refine wpList_nil ?_
        replace ha := ha.sub (σ' := [(3, v459), (4, v29), (5, v47), (6, (.int .i64 i467)), (7, (.int .i64 x870)), (8, (.int .i64 (i64and i467 (i467 - 1))))]) ⟨rfl, rfl, rfl, rfl, rfl, rfl, trivial⟩; refine e_then ?_; refine wp_seq ?_; refine wp_region_lit ?_; (iterate 2 refine op_g ha rfl (g_move rfl) ?_; clear ha a; intro a ha); obtain ⟨x879, g880, gx881, hF⟩ := idx_some hF
        obtain ⟨p882, cs883, f884, hf885, hpb886, hat887, hr888, hi889⟩ := h462.at g880 gx881
        obtain ⟨rfl, hI890, rfl⟩ := hr888
        refine op_g ha rfl (hi889.gives sl31 rfl rfl) ?_; clear ha a; intro a ha; refine op_g ha rfl (g_load Tryd.isAgg2 rfl hat887.one) ?_; clear ha a; intro a ha; refine op_g ha rfl (g_move rfl) ?_; clear ha a; intro a ha; refine op_g ha rfl (g64_and rfl rfl) ?_; clear ha a; intro a ha; refine op_g ha rfl (g_assign rfl) ?_; clear ha a; intro a ha; refine wpList_nil ?_; replace ha := ha.sub (σ' := [(3, v459), (4, v29), (5, v47), (6, (.int .i64 i467)), (7, (.int .i64 x870)), (8, (.int .i64 (i64and i467 (i467 - 1)))), (9, (.int .i64 (i64and x879 (i64and i467 (i467 - 1)))))]) ⟨rfl, rfl, rfl, rfl, rfl, rfl, rfl, trivial⟩
        refine e_then ?_; refine wp_seq ?_; obtain ⟨o1084, ho1085, hK1086⟩ := bnd_some hF
        obtain ⟨n1087, hn1088⟩ := lp_some ho1085; clear ho1085
        refine c_loop (fun a w => ∃ (l1067 : (List (List Int))) (i1076 : Int) (fs1064 : List Nat) (v1068 : Value) (b1069 : Int), Fr 79 [(3, v1068), (4, v29), (5, v47), (7, (.int .i64 x870)), (8, (.int .i64 (i64and i467 (i467 - 1)))), (9, (.int .i64 i1076))] a ∧ Chg [] W w ∧ InI i1076 ∧ Ow (Rp.sl 2 Rp.int) 31 true w fs1064 b1069 v1068 l1067 ∧ Zn W b1069 ∧ (∀ k ∈ fs1064, W.heap.size ≤ k) ∧ (bl b1069 ++ fs1064).Nodup ∧ Ow Rp.int 2 true w [] b32 v29 x27 ∧ Zn W b32 ∧ Ow Rp.int 2 true w [] b50 v47 x45 ∧ Zn W b50 ∧ Nq (bl b1069 ++ fs1064) b32 ∧ Nq (bl b1069 ++ fs1064) b50 ∧ Nq (bl b32 ++ []) b1069 ∧ Nq (bl b32 ++ []) b50 ∧ Nq (bl b50 ++ []) b1069 ∧ Nq (bl b50 ++ []) b32 ∧ o1084 = .inl (l1067, i1076)) (fun n a w => ∃ (l980 : (List (List Int))) (i989 : Int) (fs977 : List Nat) (v981 : Value) (b982 : Int), Fr 79 [(3, v981), (4, v29), (5, v47), (6, (.int .i64 i467)), (7, (.int .i64 x870)), (8, (.int .i64 (i64and i467 (i467 - 1)))), (9, (.int .i64 i989))] a ∧ Chg [] W w ∧ InI i989 ∧ Ow (Rp.sl 2 Rp.int) 31 true w fs977 b982 v981 l980 ∧ Zn W b982 ∧ (∀ k ∈ fs977, W.heap.size ≤ k) ∧ (bl b982 ++ fs977).Nodup ∧ Ow Rp.int 2 true w [] b32 v29 x27 ∧ Zn W b32 ∧ Ow Rp.int 2 true w [] b50 v47 x45 ∧ Zn W b50 ∧ Nq (bl b982 ++ fs977) b32 ∧ Nq (bl b982 ++ fs977) b50 ∧ Nq (bl b32 ++ []) b982 ∧ Nq (bl b32 ++ []) b50 ∧ Nq (bl b50 ++ []) b982 ∧ Nq (bl b50 ++ []) b32 ∧ lpN (fun s => F_spec_BestMatch_l2 x45 i467 s.1 s.2) n (l980, i989) = some o1084) n1087 ⟨l458, i64and x879 (i64and i467 (i467 - 1)), fs455, v459, b460, ha.sub ⟨rfl, rfl, rfl, rfl, rfl, rfl, rfl, trivial⟩, hE876, (in_i64and _ _), h453, z454, zf456, nd457, h462, z463, h465, z466, q469, q470, q471, q472, q473, q474, hn1088⟩ ?_ ?_
        · rintro m1092 a w973 ⟨l980, i989, fs977, v981, b982, ha, hE997, hI990, h975, z976, zf978, nd979, h984, z985, h987, z988, q991, q992, q993, q994, q995, q996, hF⟩
          cases m1092 with
          | zero => exact (lpN_zero hF).elim
          | succ m1092 =>
            obtain ⟨z1091, hF, hN1090⟩ := lpN_succ hF
            have hF : F_spec_BestMatch_l2 x45 i467 l980 i989 = some z1091 := hF; unfold F_spec_BestMatch_l2 at hF
            refine wp_seq ?_; refine wp_seq ?_; refine d_quiet hmix (by kernel_rfl) ?_; refine q_g ha rfl (g_move rfl) ?_; clear ha a; intro a ha; refine q_g ha rfl (g_gtr rfl rfl) ?_; clear ha a; intro a ha; refine q_g ha rfl (g_move rfl) ?_; clear ha a; intro a ha
            by_cases hp1093 : 0 < i989
            · replace hF := if_t hp1093 hF
              rw [show (decide (0 < i989)) = true from (decide_eq_true_iff).2 hp1093] at ha
              refine q_want (yields ha rfl rfl) ?_; refine q_g ha rfl (g_move rfl) ?_; clear ha a; intro a ha; refine q_want (yields ha rfl rfl) ?_; refine q_g ha rfl (g_move rfl) ?_; clear ha a; intro a ha; refine q_want (yields ha rfl rfl) ?_; refine q_g ha rfl (g_move rfl) ?_; clear ha a; intro a ha; refine q_want (yields ha rfl rfl) ?_; refine q_g ha rfl (g_move rfl) ?_; clear ha a; intro a ha; refine q_want (yields ha rfl rfl) ?_; obtain ⟨hI1094, hF⟩ := ck_some hF; refine q_g ha rfl (g_neg rfl hI1094) ?_; clear ha a; intro a ha; refine q_want (yields ha rfl rfl) ?_; refine q_g ha rfl (g64_and rfl rfl) ?_; clear ha a; intro a ha
              refine q_want (yields ha rfl rfl) ?_; refine q_g ha rfl (g64_andNot rfl rfl) ?_; clear ha a; intro a ha; refine q_want (yields ha rfl rfl) ?_; obtain ⟨x1096, g1097, gx1098, hF⟩ := idx_some hF
              obtain ⟨p1099, cs1100, f1101, hf1102, hpb1103, hat1104, hr1105, hi1106⟩ := h987.at g1097 gx1098
              obtain ⟨rfl, hI1107, rfl⟩ := hr1105
              refine q_g ha rfl (hi1106.gives sl31 rfl rfl) ?_; clear ha a; intro a ha; refine q_want (yields ha rfl rfl) ?_; refine q_g ha rfl (g_load Tryd.isAgg2 rfl hat1104.one) ?_; clear ha a; intro a ha; refine q_want (yields ha rfl rfl) ?_; obtain ⟨hI1108, hF⟩ := ck_some hF; refine q_g ha rfl (g_add rfl rfl hI1108) ?_; clear ha a; intro a ha; refine q_want (yields ha rfl rfl) ?_; refine q_g ha rfl (g_move rfl) ?_; clear ha a; intro a ha; refine q_want (yields ha rfl rfl) ?_; refine q_g ha rfl (g_move rfl) ?_; clear ha a; intro a ha; refine q_want (yields ha rfl rfl) ?_; obtain ⟨x1110, g1111, gx1112, hF⟩ := idx_some hF
              obtain ⟨p1113, cs1114, f1115, hf1116, hpb1117, hat1118, hr1119, hi1120⟩ := h987.at g1111 gx1112
              obtain ⟨rfl, hI1121, rfl⟩ := hr1119
              refine q_g ha rfl (hi1120.gives sl31 rfl rfl) ?_; clear ha a; intro a ha; refine q_want (yields ha rfl rfl) ?_; refine q_g ha rfl (g_load Tryd.isAgg2 rfl hat1118.one) ?_; clear ha a; intro a ha; refine q_want (yields ha rfl rfl) ?_; refine q_g ha rfl (g_lss rfl rfl) ?_; clear ha a; intro a ha; refine q_g ha rfl (g_pick rfl rfl) ?_; clear ha a; intro a ha
              refine q_nil ?_; intro w1122 hx1123
              replace h975 := h975.ext hx1123
              replace h984 := h984.ext hx1123
              replace h987 := h987.ext hx1123
              have hE1124 := Ext.trans hE997 hx1123
              replace ha := ha.sub (σ' := [(3, v981), (4, v29), (5, v47), (6, (.int .i64 i467)), (7, (.int .i64 x870)), (8, (.int .i64 (i64and i467 (i467 - 1)))), (9, (.int .i64 i989)), (42, v47), (43, (.int .i64 (i64and i467 (i467 - 1)))), (44, (.int .i64 i989)), (45, (.int .i64 i989)), (46, (.int .i64 (0 - i989))), (47, (.int .i64 (i64and i989 (0 - i989)))), (48, (.int .i64 (i64andn (i64and i467 (i467 - 1)) (i64and i989 (0 - i989))))), (49, (.pointer (some p1099))), (50, (.int .i64 x1096)), (51, (.int .i64 (1 + x1096))), (52, v47), (53, (.int .i64 i467)), (54, (.pointer (some p1113))), (55, (.int .i64 x1110)), (56, (.bool (decide ((1 + x1096) < x1110)))), (57, (.bool (decide ((1 + x1096) < x1110))))]) ⟨rfl, rfl, rfl, rfl, rfl, rfl, rfl, rfl, rfl, rfl, rfl, rfl, rfl, rfl, rfl, rfl, rfl, rfl, rfl, rfl, rfl, rfl, rfl, trivial⟩
              refine e_then ?_; refine c_cond ((1 + x1096) < x1110) ha rfl (decide_eq_true_iff) (fun hp1125 => ?_) (fun hp1125 => ?_)
              · replace hF := if_t hp1125 hF
                refine wp_skip ?_; refine e_then ?_; refine wp_block ?_; refine wp_region_lit ?_; (iterate 2 refine op_g ha rfl (g_move rfl) ?_; clear ha a; intro a ha); obtain ⟨hI1126, hF⟩ := ck_some hF; refine op_g ha rfl (g_sub rfl rfl hI1126) ?_; clear ha a; intro a ha; refine op_g ha rfl (g64_and rfl rfl) ?_; clear ha a; intro a ha; refine op_g ha rfl (g_assign rfl) ?_; clear ha a; intro a ha; refine wpList_nil ?_; replace ha := ha.sub (σ' := [(3, v981), (4, v29), (5, v47), (6, (.int .i64 i467)), (7, (.int .i64 x870)), (8, (.int .i64 (i64and i467 (i467 - 1)))), (9, (.int .i64 (i64and i989 (i989 - 1)))), (42, v47), (43, (.int .i64 (i64and i467 (i467 - 1)))), (44, (.int .i64 i989)), (45, (.int .i64 i989)), (46, (.int .i64 (0 - i989))), (47, (.int .i64 (i64and i989 (0 - i989)))), (48, (.int .i64 (i64andn (i64and i467 (i467 - 1)) (i64and i989 (0 - i989))))), (49, (.pointer (some p1099))), (50, (.int .i64 x1096)), (51, (.int .i64 (1 + x1096))), (52, v47), (53, (.int .i64 i467)), (54, (.pointer (some p1113))), (55, (.int .i64 x1110)), (56, (.bool (decide ((1 + x1096) < x1110))))]) ⟨rfl, rfl, rfl, rfl, rfl, rfl, rfl, rfl, rfl, rfl, rfl, rfl, rfl, rfl, rfl, rfl, rfl, rfl, rfl, rfl, rfl, rfl, trivial⟩
                refine e_blk ?_; refine e_lq ?_; obtain rfl := Option.some.inj hF
                exact ⟨_, Nat.lt_succ_self _, l980, i64and i989 (i989 - 1), fs977, v981, b982, ha.sub ⟨rfl, rfl, rfl, rfl, rfl, rfl, rfl, trivial⟩, hE1124, (in_i64and _ _), h975, z976, zf978, nd979, h984, z985, h987, z988, q991, q992, q993, q994, q995, q996, hN1090⟩
              replace hF := if_f hp1125 hF; refine wp_exit ?_; refine e_then_exit ?_; refine e_lq_eq ?_; obtain rfl := Option.some.inj hF
              exact ⟨l980, i989, fs977, v981, b982, ha.sub ⟨rfl, rfl, rfl, rfl, rfl, rfl, trivial⟩, hE1124, hI990, h975, z976, zf978, nd979, h984, z985, h987, z988, q991, q992, q993, q994, q995, q996, (LK_inr hN1090).symm⟩
            replace hF := if_f hp1093 hF
            rw [show (decide (0 < i989)) = false from b_false (decide_eq_true_iff) hp1093] at ha
            (iterate 15 refine q_unwant ha rfl (yields ha rfl rfl) rfl ?_; clear ha a; intro a ha); refine q_g ha rfl (g_pick rfl rfl) ?_; clear ha a; intro a ha
            refine q_nil ?_; intro w1128 hx1129
            replace h975 := h975.ext hx1129
            replace h984 := h984.ext hx1129
            replace h987 := h987.ext hx1129
            have hE1130 := Ext.trans hE997 hx1129
            replace ha := ha.sub (σ' := [(3, v981), (4, v29), (5, v47), (6, (.int .i64 i467)), (7, (.int .i64 x870)), (8, (.int .i64 (i64and i467 (i467 - 1)))), (9, (.int .i64 i989)), (57, (.bool false))]) ⟨rfl, rfl, rfl, rfl, rfl, rfl, rfl, rfl, trivial⟩; refine e_then ?_; refine c_false ha rfl ?_; refine wp_exit ?_; refine e_then_exit ?_; refine e_lq_eq ?_; obtain rfl := Option.some.inj hF
            exact ⟨l980, i989, fs977, v981, b982, ha.sub ⟨rfl, rfl, rfl, rfl, rfl, rfl, trivial⟩, hE1130, hI990, h975, z976, zf978, nd979, h984, z985, h987, z988, q991, q992, q993, q994, q995, q996, (LK_inr hN1090).symm⟩
        rintro a w1060 ⟨l1067, i1076, fs1064, v1068, b1069, ha, hE1089, hI1077, h1062, z1063, zf1065, nd1066, h1071, z1072, h1074, z1075, q1078, q1079, q1080, q1081, q1082, q1083, rfl⟩
        have hF : F_spec_BestMatch_k3 i467 x870 l1067 i1076 = some _ := hK1086; clear hK1086; unfold F_spec_BestMatch_k3 at hF
        refine e_then ?_; refine wp_seq ?_; refine wp_seq ?_; refine wp_region_lit ?_; refine op_g ha rfl (g_move rfl) ?_; clear ha a; intro a ha; refine op_g ha rfl (g_gtr rfl rfl) ?_; clear ha a; intro a ha; refine wpList_nil ?_; replace ha := ha.sub (σ' := [(3, v1068), (4, v29), (5, v47), (7, (.int .i64 x870)), (8, (.int .i64 (i64and i467 (i467 - 1)))), (9, (.int .i64 i1076)), (63, (.bool (decide (0 < i1076))))]) ⟨rfl, rfl, rfl, rfl, rfl, rfl, rfl, trivial⟩; refine e_then ?_; refine c_cond (0 < i1076) ha rfl (decide_eq_true_iff) (fun hp1131 => ?_) (fun hp1131 => ?_)
        · replace hF := if_t hp1131 hF
          refine wp_seq ?_; refine wp_region_lit ?_; refine op_g ha rfl (g_move rfl) ?_; clear ha a; intro a ha; obtain ⟨x1132, hc1133, hF⟩ := cal_some hF
          refine o_call ha rfl rfl Tryd.call55 (W_spec_l27Low hI1077 hc1133) ?_; clear ha a; rintro v1134 w1135 ⟨⟨rfl, hI1137⟩, hx1136⟩ a ha
          replace h1062 := h1062.ext hx1136
          replace h1071 := h1071.ext hx1136
          replace h1074 := h1074.ext hx1136
          have hE1138 := Ext.trans hE1089 hx1136
          refine op_g ha rfl (g_assign rfl) ?_; clear ha a; intro a ha; refine wpList_nil ?_; replace ha := ha.sub (σ' := [(3, v1068), (4, v29), (5, v47), (7, (.int .i64 x870)), (8, (.int .i64 (i64and i467 (i467 - 1)))), (10, (.int .i64 x1132))]) ⟨rfl, rfl, rfl, rfl, rfl, rfl, trivial⟩; refine e_then ?_; refine wp_seq ?_; refine wp_region_lit ?_; (iterate 3 refine op_g ha rfl (g_move rfl) ?_; clear ha a; intro a ha)
          have hvob1143 : ∀ p ∈ ([((.int .i64 x870), [(.int .i64 x870)]), ((.int .i64 x1132), [(.int .i64 x1132)])] : List (Value × List Value)), p.1.cells = p.2.toArray ∧ p.2.length = 1 := by
            intro p hp; simp only [List.mem_cons, List.not_mem_nil, or_false] at hp; rcases hp with hp | hp <;> subst hp <;> first | exact ⟨rfl, rfl⟩
          refine o_litM (o := true) (f := []) (ps := [((.int .i64 x870), [(.int .i64 x870)]), ((.int .i64 x1132), [(.int .i64 x1132)])]) (ys := [x870, x1132]) Rp.int ha rfl sl31 rfl rfl rfl rfl hvob1143 ⟨[], [], [(.int .i64 x870)], _, rfl, rfl, ⟨rfl, hI875, rfl⟩, ⟨[], [], [(.int .i64 x1132)], _, rfl, rfl, ⟨rfl, hI1137, rfl⟩, ⟨rfl, rfl⟩⟩⟩ ?_; clear ha a; intro v1139 w1140 h1141 hx1142 a ha
          obtain ⟨b1144, hb1144⟩ : ∃ b : Int, b = w1135.heap.size := ⟨_, rfl⟩; rw [← hb1144] at h1141
          have q1145 := zn_of hb1144
          have q1146 := Nq.new h1062.fpb q1145
          have q1147 := Nq.madeO q1145 h1062.blt
          have q1148 := Nq.new h1071.fpb q1145
          have q1149 := Nq.madeO q1145 h1071.blt
          have q1150 := Nq.new h1074.fpb q1145
          have q1151 := Nq.madeO q1145 h1074.blt
          have q1152 := Nf.old q1145 (zf_nil _) h1062.bnd
          have q1153 := Zn.upD q1145 hE1138
          replace h1062 := h1062.ext hx1142
          replace h1071 := h1071.ext hx1142
          replace h1074 := h1074.ext hx1142
          have hE1154 := Ext.trans hE1138 hx1142
          refine o_lit1 (o := true) (y := [x870, x1132]) (Rp.sl 2 Rp.int) ha rfl sl27 rfl rfl h1141.cells (Rp.mkO h1141) ?_; clear ha a; intro v1155 w1156 h1157 hx1158 a ha
          obtain ⟨b1160, hb1160⟩ : ∃ b : Int, b = w1140.heap.size := ⟨_, rfl⟩; rw [← hb1160] at h1157
          have q1161 := zn_of hb1160
          have q1162 := zf_mv q1153 (zf_nil _)
          have q1163 := dj_of q1146
          have q1164 := dj_of q1148
          have q1165 := dj_of q1150
          have q1166 := Nq.new h1062.fpb q1161
          have q1167 := Nq.append (Nq.madeL q1161 h1062.blt) q1147
          have q1168 := Nq.new h1071.fpb q1161
          have q1169 := Nq.append (Nq.madeL q1161 h1071.blt) q1149
          have q1170 := Nq.new h1074.fpb q1161
          have q1171 := Nq.append (Nq.madeL q1161 h1074.blt) q1151
          have q1172 := Zn.upD q1161 hE1154
          have q1173 := nd_lit (bl_nodup b1144) h1141.fpb hb1160
          replace h1062 := h1062.ext hx1158
          replace h1071 := h1071.ext hx1158
          replace h1074 := h1074.ext hx1158
          have hE1174 := Ext.trans hE1154 hx1158
          obtain ⟨hl1175, hF⟩ := app_some hF
          have q1176 := Nq.right q1167
          refine o_append ha rfl sl27 rfl rfl rfl h1062 h1157.src q1176 hl1175 ?_; clear ha a; intro v1177 w1178 b1179 h1180 hc1181 hb1182 a ha
          replace h1180 : Ow (Rp.sl 2 Rp.int) 31 true w1178 (fs1064 ++ (bl b1144 ++ [])) b1179 v1177 _ := h1180
          have q1184 := zf_app zf1065 q1162
          have q1185 := nd_app nd1066 (bl_nodup b1144) q1163 hb1182 h1062.fpb h1157.bnd
          have q1186 := Nq.appY q1080 h1071.fpb hb1182
          have q1187 := Nq.appX q1078 (Nq.right q1169) hb1182 h1071.blt
          have q1188 := Nq.appY q1082 h1074.fpb hb1182
          have q1189 := Nq.appX q1079 (Nq.right q1171) hb1182 h1074.blt
          have q1190 := Zn.appD z1063 hb1182 hE1174
          replace h1071 := h1071.nq hc1181 q1080
          replace h1074 := h1074.nq hc1181 q1082
          have hE1191 := Ext.then hE1174 hc1181 (Zn.bl z1063)
          refine op_g ha rfl (g_assign rfl) ?_; clear ha a; intro a ha; refine wpList_nil ?_; replace ha := ha.sub (σ' := [(3, v1177), (4, v29), (5, v47), (8, (.int .i64 (i64and i467 (i467 - 1)))), (10, (.int .i64 x1132))]) ⟨rfl, rfl, rfl, rfl, rfl, trivial⟩; refine e_then ?_; refine wp_region_lit ?_; (iterate 2 refine op_g ha rfl (g_move rfl) ?_; clear ha a; intro a ha); obtain ⟨h01192, hF⟩ := grd_some hF; refine op_g ha rfl (g_conv6u un2 un73 rfl hI1137 h01192) ?_; clear ha a; intro a ha; obtain ⟨hI1193, hF⟩ := ck_some hF; refine op_g ha rfl (g64_shl rfl rfl (inU_of hI1137 h01192).1 hI1193) ?_; clear ha a; intro a ha
          refine op_g ha rfl (g64_andNot rfl rfl) ?_; clear ha a; intro a ha; refine op_g ha rfl (g_assign rfl) ?_; clear ha a; intro a ha; refine wpList_nil ?_; replace ha := ha.sub (σ' := [(3, v1177), (4, v29), (5, v47), (8, (.int .i64 (i64andn (i64and i467 (i467 - 1)) (1 * 2 ^ (x1132 : Int).toNat))))]) ⟨rfl, rfl, rfl, rfl, trivial⟩; refine e_then ?_; refine wp_region_lit ?_; refine op_g ha rfl (g_move rfl) ?_; clear ha a; intro a ha; refine op_g ha rfl (g_assign rfl) ?_; clear ha a; intro a ha; refine wpList_nil ?_; replace ha := ha.sub (σ' := [(3, v1177), (4, v29), (5, v47), (6, (.int .i64 (i64andn (i64and i467 (i467 - 1)) (1 * 2 ^ (x1132 : Int).toNat))))]) ⟨rfl, rfl, rfl, rfl, trivial⟩
          refine e_blk ?_; refine e_lq ?_; obtain rfl := Option.some.inj hF
          exact ⟨_, Nat.lt_succ_self _, (l1067 ++ ([[x870, x1132]])), i64andn (i64and i467 (i467 - 1)) (1 * 2 ^ (x1132 : Int).toNat), (fs1064 ++ (bl b1144 ++ [])), v1177, b1179, ha.sub ⟨rfl, rfl, rfl, rfl, trivial⟩, hE1191, (in_i64andn _ _), h1180, q1190, q1184, q1185, h1071, z1072, h1074, z1075, q1187, q1189, q1186, q1081, q1188, q1083, hN854⟩
        replace hF := if_f hp1131 hF; refine wp_skip ?_; refine e_then ?_; refine wp_region_lit ?_; refine op_g ha rfl (g_move rfl) ?_; clear ha a; intro a ha; refine op_g ha rfl (g_assign rfl) ?_; clear ha a; intro a ha; refine wpList_nil ?_; replace ha := ha.sub (σ' := [(3, v1068), (4, v29), (5, v47), (6, (.int .i64 (i64and i467 (i467 - 1))))]) ⟨rfl, rfl, rfl, rfl, trivial⟩; refine e_blk ?_; refine e_lq ?_; obtain rfl := Option.some.inj hF
        exact ⟨_, Nat.lt_succ_self _, l1067, i64and i467 (i467 - 1), fs1064, v1068, b1069, ha.sub ⟨rfl, rfl, rfl, rfl, trivial⟩, hE1089, (in_i64and _ _), h1062, z1063, zf1065, nd1066, h1071, z1072, h1074, z1075, q1078, q1079, q1080, q1081, q1082, q1083, hN854⟩
      replace hF := if_f hp869 hF; refine wp_exit ?_; refine e_then_exit ?_; refine e_lq_eq ?_; obtain rfl := Option.some.inj hF
      exact ⟨l458, fs455, v459, b460, ha.sub ⟨rfl, trivial⟩, hE475, h453, z454, zf456, nd457, (LK_inr hN854).symm⟩
  rintro a w838 ⟨l845, fs842, v846, b847, ha, hE853, h840, z841, zf843, nd844, rfl⟩
  have hF : F_spec_BestMatch_k4 l845 = some _ := hK850; clear hK850; unfold F_spec_BestMatch_k4 at hF
  refine e_then ?_; refine wp_seq ?_; refine wp_region_lit ?_; refine op_g ha rfl (g_move rfl) ?_; clear ha a; intro a ha; refine op_g ha rfl (g_assign rfl) ?_; clear ha a; intro a ha; refine wpList_nil ?_; replace ha := ha.sub (σ' := [(2, v846)]) ⟨rfl, trivial⟩; refine e_then ?_; refine wp_ret ?_; obtain rfl := Option.some.inj hF
  exact f_ret1 ha rfl rfl ⟨_, _, h840, z841, zf843, nd844, hE853⟩
set_option maxHeartbeats 2000000 in
theorem W_spec_l1Edges {W : World} {va0_0 : Value} {fa0_0 : List Nat} {a0_0 : (List (List Int))} (ha0_0 : Ro (Rp.sl 2 Rp.int) W fa0_0 va0_0 a0_0) {r : (List (List Int))} (hF : F_spec_l1Edges a0_0 = some r) :
    Calls Tryd.prog 56 [.agg #[va0_0]].toArray W (Ret fun u w' => ∃ (b_u : Int) (fs_u : List Nat), Ow (Rp.sl 2 Rp.int) 31 true w' fs_u b_u u r ∧ Zn W b_u ∧ (∀ k ∈ fs_u, W.heap.size ≤ k) ∧ (bl b_u ++ fs_u).Nodup ∧ Ext W w') := by
  refine f_enter Tryd.func56 rfl Tryd.ntmps56 rfl ?_
  intro a ha
  replace ha : Fr 47 [(0, (.agg #[va0_0]))] a := ha
  have hE : Chg [] W W := Chg.refl _ _
  unfold F_spec_l1Edges at hF
  refine wp_seq ?_; refine wp_region_lit ?_
  refine o_box ha rfl rfl rfl ?_; clear ha a; intro b1 w2 hB3 hx4 hlo5 a ha
  have q6 := Zn.one hlo5
  have q7 := Zn.upD q6 hE
  have hE8 := Ext.trans hE hx4
  refine op_g ha rfl (g_assign rfl) ?_; clear ha a; intro a ha; refine wpList_nil ?_; replace ha := ha.sub (σ' := [(1, (.pointer (some ⟨b1, 0, none⟩)))]) ⟨rfl, trivial⟩; refine e_then ?_; refine wp_seq ?_; refine wp_region_lit ?_
  refine o_lit0 (Rp.sl 2 Rp.int) ha rfl sl27 ?_; clear ha a; intro v9 w10 h11 hx12 a ha
  obtain ⟨b14, hb14⟩ : ∃ b : Int, b = w2.heap.size := ⟨_, rfl⟩; rw [← hb14] at h11
  have q15 := zn_of hb14
  have q16 := Nq.new hB3.fpb q15
  have q17 := Nq.madeO q15 hB3.bi
  have q18 := Zn.upD q15 hE8
  replace hB3 := hB3.ext hx12
  have hE19 := Ext.trans hE8 hx12
  refine op_g ha rfl (g_assign rfl) ?_; clear ha a; intro a ha; refine wpList_nil ?_; replace ha := ha.sub (σ' := [(1, (.pointer (some ⟨b1, 0, none⟩))), (3, v9)]) ⟨rfl, rfl, trivial⟩; refine e_then ?_; refine wp_seq ?_; refine wp_seq ?_; refine wp_region_lit ?_; refine op_g ha rfl (g_assign rfl) ?_; clear ha a; intro a ha; refine wpList_nil ?_; refine e_then ?_; obtain ⟨o981, ho982, hK983⟩ := bnd_some hF
  obtain ⟨n984, hn985⟩ := lp_some ho982; clear ho982
  refine c_loop (fun a w => ∃ (l978 : (List (List Int))) (fs975 : List Nat) (v979 : Value) (b980 : Int), Fr 47 [(3, v979)] a ∧ Chg [] W w ∧ Ow (Rp.sl 2 Rp.int) 31 true w fs975 b980 v979 l978 ∧ Zn W b980 ∧ (∀ k ∈ fs975, W.heap.size ≤ k) ∧ (bl b980 ++ fs975).Nodup ∧ o981 = .inl l978) (fun n a w => ∃ (l502 : (List (List Int))) (i505 : Int) (fs499 : List Nat) (v503 : Value) (b504 : Int), Fr 47 [(1, (.pointer (some ⟨b1, 0, none⟩))), (3, v503), (4, (.int .i64 i505))] a ∧ Chg [] W w ∧ InI i505 ∧ Bx w b1 [va0_0] 29 ∧ Zn W (b1 : Int) ∧ Ow (Rp.sl 2 Rp.int) 31 true w fs499 b504 v503 l502 ∧ Zn W b504 ∧ (∀ k ∈ fs499, W.heap.size ≤ k) ∧ (bl b504 ++ fs499).Nodup ∧ Nq ([b1]) b504 ∧ Nq (bl b504 ++ fs499) (b1 : Int) ∧ lpN (fun s => F_spec_l1Edges_l1 a0_0 s.1 s.2) n (l502, i505) = some o981) n984 ⟨([] : (List (List Int))), 0, [], v9, b14, ha.sub ⟨rfl, rfl, rfl, trivial⟩, hE19, (show InI 0 from by decide), hB3, q7, h11, q18, (zf_nil _), (bl_nodup b14), q16, q17, hn985⟩ ?_ ?_
  · rintro m989 a w493 ⟨l502, i505, fs499, v503, b504, ha, hE509, hI506, hB494, z495, h497, z498, zf500, nd501, q507, q508, hF⟩
    cases m989 with
    | zero => exact (lpN_zero hF).elim
    | succ m989 =>
      obtain ⟨z988, hF, hN987⟩ := lpN_succ hF
      have hF : F_spec_l1Edges_l1 a0_0 l502 i505 = some z988 := hF; unfold F_spec_l1Edges_l1 at hF
      refine wp_seq ?_; refine wp_seq ?_; refine wp_region_lit ?_; refine op_g ha rfl (g_move rfl) ?_; clear ha a; intro a ha; refine op_g ha rfl (g_loadA (cs := [va0_0]) Tryd.isAgg29 Tryd.sizeOf29 rfl (by simp) hB494.all) ?_; clear ha a; intro a ha; obtain ⟨x990, hc991, hF⟩ := cal_some hF
      refine o_call ha rfl rfl Tryd.call76 (W_spec_l1Size (ha0_0.ext hE509) hc991) ?_; clear ha a; rintro v992 w993 ⟨⟨rfl, hI995⟩, hx994⟩ a ha
      replace hB494 := hB494.ext hx994
      replace h497 := h497.ext hx994
      have hE996 := Ext.trans hE509 hx994
      refine op_g ha rfl (g_lss rfl rfl) ?_; clear ha a; intro a ha; refine wpList_nil ?_; replace ha := ha.sub (σ' := [(1, (.pointer (some ⟨b1, 0, none⟩))), (3, v503), (4, (.int .i64 i505)), (10, (.bool (decide (i505 < x990))))]) ⟨rfl, rfl, rfl, rfl, trivial⟩; refine e_then ?_; refine c_cond (i505 < x990) ha rfl (decide_eq_true_iff) (fun hp997 => ?_) (fun hp997 => ?_)
      · replace hF := if_t hp997 hF
        refine wp_skip ?_; refine e_then ?_; refine wp_seq ?_; refine wp_block ?_; refine wp_seq ?_; refine wp_region_lit ?_; refine op_g ha rfl (g_assign rfl) ?_; clear ha a; intro a ha; refine wpList_nil ?_; replace ha := ha.sub (σ' := [(1, (.pointer (some ⟨b1, 0, none⟩))), (3, v503), (4, (.int .i64 i505)), (5, (.int .i64 0))]) ⟨rfl, rfl, rfl, rfl, trivial⟩; refine e_then ?_; obtain ⟨o1307, ho1308, hK1309⟩ := bnd_some hF
        obtain ⟨n1310, hn1311⟩ := lp_some ho1308; clear ho1308
        refine c_loop (fun a w => ∃ (l1302 : (List (List Int))) (fs1299 : List Nat) (v1303 : Value) (b1304 : Int), Fr 47 [(1, (.pointer (some ⟨b1, 0, none⟩))), (3, v1303), (4, (.int .i64 i505))] a ∧ Chg [] W w ∧ Bx w b1 [va0_0] 29 ∧ Zn W (b1 : Int) ∧ Ow (Rp.sl 2 Rp.int) 31 true w fs1299 b1304 v1303 l1302 ∧ Zn W b1304 ∧ (∀ k ∈ fs1299, W.heap.size ≤ k) ∧ (bl b1304 ++ fs1299).Nodup ∧ Nq ([b1]) b1304 ∧ Nq (bl b1304 ++ fs1299) (b1 : Int) ∧ o1307 = .inl l1302) (fun n a w => ∃ (l1152 : (List (List Int))) (i1155 : Int) (fs1149 : List Nat) (v1153 : Value) (b1154 : Int), Fr 47 [(1, (.pointer (some ⟨b1, 0, none⟩))), (3, v1153), (4, (.int .i64 i505)), (5, (.int .i64 i1155))] a ∧ Chg [] W w ∧ InI i1155 ∧ Bx w b1 [va0_0] 29 ∧ Zn W (b1 : Int) ∧ Ow (Rp.sl 2 Rp.int) 31 true w fs1149 b1154 v1153 l1152 ∧ Zn W b1154 ∧ (∀ k ∈ fs1149, W.heap.size ≤ k) ∧ (bl b1154 ++ fs1149).Nodup ∧ Nq ([b1]) b1154 ∧ Nq (bl b1154 ++ fs1149) (b1 : Int) ∧ lpN (fun s => F_spec_l1Edges_l2 a0_0 i505 s.1 s.2) n (l1152, i1155) = some o1307) n1310 ⟨l502, 0, fs499, v503, b504, ha.sub ⟨rfl, rfl, rfl, rfl, trivial⟩, hE996, (show InI 0 from by decide), hB494, z495, h497, z498, zf500, nd501, q507, q508, hn1311⟩ ?_ ?_
        · rintro m1315 a w1143 ⟨l1152, i1155, fs1149, v1153, b1154, ha, hE1159, hI1156, hB1144, z1145, h1147, z1148, zf1150, nd1151, q1157, q1158, hF⟩
          cases m1315 with
          | zero => exact (lpN_zero hF).elim
          | succ m1315 =>
            obtain ⟨z1314, hF, hN1313⟩ := lpN_succ hF
            have hF : F_spec_l1Edges_l2 a0_0 i505 l1152 i1155 = some z1314 := hF; unfold F_spec_l1Edges_l2 at hF
            refine wp_seq ?_; refine wp_seq ?_; refine wp_region_lit ?_; refine op_g ha rfl (g_move rfl) ?_; clear ha a; intro a ha; refine op_g ha rfl (g_field0 st29_0 rfl) ?_; clear ha a; intro a ha; refine op_g ha rfl (g_load Tryd.isAgg27 rfl (hB1144.cell rfl)) ?_; clear ha a; intro a ha; refine op_g ha rfl (g_move rfl) ?_; clear ha a; intro a ha; obtain ⟨x1316, g1317, gx1318, hF⟩ := idx_some hF
            obtain ⟨p1319, cs1320, f1321, hf1322, hpb1323, hat1324, hr1325, hi1326⟩ := ha0_0.at g1317 gx1318
            obtain ⟨v1327, rfl, h1328⟩ := hr1325
            have h1328 : Ro Rp.int W f1321 v1327 x1316 := h1328
            refine op_g ha rfl (hi1326.gives sl27 rfl rfl) ?_; clear ha a; intro a ha; refine op_g ha rfl (g_load0 hE1159 Tryd.isAgg31 rfl hat1324.one) ?_; clear ha a; intro a ha; refine op_g ha rfl (g_lenR sl31.und h1328 rfl) ?_; clear ha a; intro a ha; refine op_g ha rfl (g_lss rfl rfl) ?_; clear ha a; intro a ha; refine wpList_nil ?_; replace ha := ha.sub (σ' := [(1, (.pointer (some ⟨b1, 0, none⟩))), (3, v1153), (4, (.int .i64 i505)), (5, (.int .i64 i1155)), (20, (.bool (decide (i1155 < (x1316.length : Int)))))]) ⟨rfl, rfl, rfl, rfl, rfl, trivial⟩; refine e_then ?_; refine c_cond (i1155 < (x1316.length : Int)) ha rfl (decide_eq_true_iff) (fun hp1330 => ?_) (fun hp1330 => ?_)
            · replace hF := if_t hp1330 hF
              refine wp_skip ?_; refine e_then ?_; refine wp_seq ?_; refine wp_block ?_; refine wp_seq ?_; refine wp_region_lit ?_; refine op_g ha rfl (g_field0 st29_0 rfl) ?_; clear ha a; intro a ha; refine op_g ha rfl (g_load Tryd.isAgg27 rfl (hB1144.cell rfl)) ?_; clear ha a; intro a ha; refine op_g ha rfl (g_move rfl) ?_; clear ha a; intro a ha; obtain ⟨x1331, g1332, gx1333, hF⟩ := idx_some hF
              obtain ⟨p1334, cs1335, f1336, hf1337, hpb1338, hat1339, hr1340, hi1341⟩ := ha0_0.at g1332 gx1333
              obtain ⟨v1342, rfl, h1343⟩ := hr1340
              have h1343 : Ro Rp.int W f1336 v1342 x1331 := h1343
              refine op_g ha rfl (hi1341.gives sl27 rfl rfl) ?_; clear ha a; intro a ha; refine op_g ha rfl (g_load0 hE1159 Tryd.isAgg31 rfl hat1339.one) ?_; clear ha a; intro a ha; refine op_g ha rfl (g_move rfl) ?_; clear ha a; intro a ha; obtain ⟨x1345, g1346, gx1347, hF⟩ := idx_some hF
              obtain ⟨p1348, cs1349, f1350, hf1351, hpb1352, hat1353, hr1354, hi1355⟩ := h1343.at g1346 gx1347
              obtain ⟨rfl, hI1356, rfl⟩ := hr1354
              refine op_g ha rfl (hi1355.gives sl31 rfl rfl) ?_; clear ha a; intro a ha; refine op_g ha rfl (g_load0 hE1159 Tryd.isAgg2 rfl hat1353.one) ?_; clear ha a; intro a ha; refine op_g ha rfl (g_move rfl) ?_; clear ha a; intro a ha; refine op_g ha rfl (g_gtr rfl rfl) ?_; clear ha a; intro a ha; refine wpList_nil ?_; replace ha := ha.sub (σ' := [(1, (.pointer (some ⟨b1, 0, none⟩))), (3, v1153), (4, (.int .i64 i505)), (5, (.int .i64 i1155)), (32, (.bool (decide (i505 < x1345))))]) ⟨rfl, rfl, rfl, rfl, rfl, trivial⟩; refine e_then ?_; refine c_cond (i505 < x1345) ha rfl (decide_eq_true_iff) (fun hp1357 => ?_) (fun hp1357 => ?_)
              · replace hF := if_t hp1357 hF
                refine wp_region_lit ?_; (iterate 2 refine op_g ha rfl (g_move rfl) ?_; clear ha a; intro a ha); refine op_g ha rfl (g_field0 st29_0 rfl) ?_; clear ha a; intro a ha; refine op_g ha rfl (g_load Tryd.isAgg27 rfl (hB1144.cell rfl)) ?_; clear ha a; intro a ha; refine op_g ha rfl (g_move rfl) ?_; clear ha a; intro a ha; obtain ⟨x1358, g1359, gx1360, hF⟩ := idx_some hF
                obtain ⟨p1361, cs1362, f1363, hf1364, hpb1365, hat1366, hr1367, hi1368⟩ := ha0_0.at g1359 gx1360
                obtain ⟨v1369, rfl, h1370⟩ := hr1367
                have h1370 : Ro Rp.int W f1363 v1369 x1358 := h1370
                refine op_g ha rfl (hi1368.gives sl27 rfl rfl) ?_; clear ha a; intro a ha; refine op_g ha rfl (g_load0 hE1159 Tryd.isAgg31 rfl hat1366.one) ?_; clear ha a; intro a ha; refine op_g ha rfl (g_move rfl) ?_; clear ha a; intro a ha; obtain ⟨x1372, g1373, gx1374, hF⟩ := idx_some hF
                obtain ⟨p1375, cs1376, f1377, hf1378, hpb1379, hat1380, hr1381, hi1382⟩ := h1370.at g1373 gx1374
                obtain ⟨rfl, hI1383, rfl⟩ := hr1381
                refine op_g ha rfl (hi1382.gives sl31 rfl rfl) ?_; clear ha a; intro a ha; refine op_g ha rfl (g_load0 hE1159 Tryd.isAgg2 rfl hat1380.one) ?_; clear ha a; intro a ha
                have hvob1388 : ∀ p ∈ ([((.int .i64 i505), [(.int .i64 i505)]), ((.int .i64 x1372), [(.int .i64 x1372)])] : List (Value × List Value)), p.1.cells = p.2.toArray ∧ p.2.length = 1 := by
                  intro p hp; simp only [List.mem_cons, List.not_mem_nil, or_false] at hp; rcases hp with hp | hp <;> subst hp <;> first | exact ⟨rfl, rfl⟩
                refine o_litM (o := true) (f := []) (ps := [((.int .i64 i505), [(.int .i64 i505)]), ((.int .i64 x1372), [(.int .i64 x1372)])]) (ys := [i505, x1372]) Rp.int ha rfl sl31 rfl rfl rfl rfl hvob1388 ⟨[], [], [(.int .i64 i505)], _, rfl, rfl, ⟨rfl, hI506, rfl⟩, ⟨[], [], [(.int .i64 x1372)], _, rfl, rfl, ⟨rfl, hI1383, rfl⟩, ⟨rfl, rfl⟩⟩⟩ ?_; clear ha a; intro v1384 w1385 h1386 hx1387 a ha
                obtain ⟨b1389, hb1389⟩ : ∃ b : Int, b = w1143.heap.size := ⟨_, rfl⟩; rw [← hb1389] at h1386
                have q1390 := zn_of hb1389
                have q1391 := Nq.new hB1144.fpb q1390
                have q1392 := Nq.madeO q1390 hB1144.bi
                have q1393 := Nq.new h1147.fpb q1390
                have q1394 := Nq.madeO q1390 h1147.blt
                have q1395 := Nf.old q1390 (zf_nil _) h1147.bnd
                have q1396 := Zn.upD q1390 hE1159
                replace hB1144 := hB1144.ext hx1387
                replace h1147 := h1147.ext hx1387
                have hE1397 := Ext.trans hE1159 hx1387
                refine o_lit1 (o := true) (y := [i505, x1372]) (Rp.sl 2 Rp.int) ha rfl sl27 rfl rfl h1386.cells (Rp.mkO h1386) ?_; clear ha a; intro v1398 w1399 h1400 hx1401 a ha
                obtain ⟨b1403, hb1403⟩ : ∃ b : Int, b = w1385.heap.size := ⟨_, rfl⟩; rw [← hb1403] at h1400
                have q1404 := zn_of hb1403
                have q1405 := zf_mv q1396 (zf_nil _)
                have q1406 := dj_of q1393
                have q1407 := Nq.new hB1144.fpb q1404
                have q1408 := Nq.append (Nq.madeL q1404 hB1144.bi) q1392
                have q1409 := Nq.new h1147.fpb q1404
                have q1410 := Nq.append (Nq.madeL q1404 h1147.blt) q1394
                have q1411 := Zn.upD q1404 hE1397
                have q1412 := nd_lit (bl_nodup b1389) h1386.fpb hb1403
                replace hB1144 := hB1144.ext hx1401
                replace h1147 := h1147.ext hx1401
                have hE1413 := Ext.trans hE1397 hx1401
                obtain ⟨hl1414, hF⟩ := app_some hF
                have q1415 := Nq.right q1410
                refine o_append ha rfl sl27 rfl rfl rfl h1147 h1400.src q1415 hl1414 ?_; clear ha a; intro v1416 w1417 b1418 h1419 hc1420 hb1421 a ha
                replace h1419 : Ow (Rp.sl 2 Rp.int) 31 true w1417 (fs1149 ++ (bl b1389 ++ [])) b1418 v1416 _ := h1419
                have q1423 := zf_app zf1150 q1405
                have q1424 := nd_app nd1151 (bl_nodup b1389) q1406 hb1421 h1147.fpb h1400.bnd
                have q1425 := Nq.appY q1157 hB1144.fpb hb1421
                have q1426 := Nq.appX q1158 (Nq.right q1408) hb1421 hB1144.bi
                have q1427 := Zn.appD z1148 hb1421 hE1413
                replace hB1144 := hB1144.nq hc1420 q1157
                have hE1428 := Ext.then hE1413 hc1420 (Zn.bl z1148)
                refine op_g ha rfl (g_assign rfl) ?_; clear ha a; intro a ha; refine wpList_nil ?_; replace ha := ha.sub (σ' := [(1, (.pointer (some ⟨b1, 0, none⟩))), (3, v1416), (4, (.int .i64 i505)), (5, (.int .i64 i1155))]) ⟨rfl, rfl, rfl, rfl, trivial⟩; refine e_blk ?_; refine e_then ?_; refine wp_region_lit ?_; refine op_g ha rfl (g_move rfl) ?_; clear ha a; intro a ha; obtain ⟨hI1429, hF⟩ := ck_some hF; refine op_g ha rfl (g_add rfl rfl hI1429) ?_; clear ha a; intro a ha; refine op_g ha rfl (g_assign rfl) ?_; clear ha a; intro a ha; refine wpList_nil ?_; replace ha := ha.sub (σ' := [(1, (.pointer (some ⟨b1, 0, none⟩))), (3, v1416), (4, (.int .i64 i505)), (5, (.int .i64 (i1155 + 1)))]) ⟨rfl, rfl, rfl, rfl, trivial⟩
                refine e_lq ?_; obtain rfl := Option.some.inj hF
                exact ⟨_, Nat.lt_succ_self _, (l1152 ++ ([[i505, x1372]])), i1155 + 1, (fs1149 ++ (bl b1389 ++ [])), v1416, b1418, ha.sub ⟨rfl, rfl, rfl, rfl, trivial⟩, hE1428, hI1429, hB1144, z1145, h1419, q1427, q1423, q1424, q1425, q1426, hN1313⟩
              replace hF := if_f hp1357 hF; refine wp_skip ?_; refine e_blk ?_; refine e_then ?_; refine wp_region_lit ?_; refine op_g ha rfl (g_move rfl) ?_; clear ha a; intro a ha; obtain ⟨hI1431, hF⟩ := ck_some hF; refine op_g ha rfl (g_add rfl rfl hI1431) ?_; clear ha a; intro a ha; refine op_g ha rfl (g_assign rfl) ?_; clear ha a; intro a ha; refine wpList_nil ?_; replace ha := ha.sub (σ' := [(1, (.pointer (some ⟨b1, 0, none⟩))), (3, v1153), (4, (.int .i64 i505)), (5, (.int .i64 (i1155 + 1)))]) ⟨rfl, rfl, rfl, rfl, trivial⟩; refine e_lq ?_; obtain rfl := Option.some.inj hF
              exact ⟨_, Nat.lt_succ_self _, l1152, i1155 + 1, fs1149, v1153, b1154, ha.sub ⟨rfl, rfl, rfl, rfl, trivial⟩, hE1159, hI1431, hB1144, z1145, h1147, z1148, zf1150, nd1151, q1157, q1158, hN1313⟩
            replace hF := if_f hp1330 hF; refine wp_exit ?_; refine e_then_exit ?_; refine e_lq_eq ?_; obtain rfl := Option.some.inj hF
            exact ⟨l1152, fs1149, v1153, b1154, ha.sub ⟨rfl, rfl, rfl, trivial⟩, hE1159, hB1144, z1145, h1147, z1148, zf1150, nd1151, q1157, q1158, (LK_inr hN1313).symm⟩
        rintro a w1293 ⟨l1302, fs1299, v1303, b1304, ha, hE1312, hB1294, z1295, h1297, z1298, zf1300, nd1301, q1305, q1306, rfl⟩
        have hF : F_spec_l1Edges_k3 i505 l1302 = some _ := hK1309; clear hK1309; unfold F_spec_l1Edges_k3 at hF
        refine e_blk ?_; refine e_then ?_; refine wp_region_lit ?_; refine op_g ha rfl (g_move rfl) ?_; clear ha a; intro a ha; obtain ⟨hI1433, hF⟩ := ck_some hF; refine op_g ha rfl (g_add rfl rfl hI1433) ?_; clear ha a; intro a ha; refine op_g ha rfl (g_assign rfl) ?_; clear ha a; intro a ha; refine wpList_nil ?_; replace ha := ha.sub (σ' := [(1, (.pointer (some ⟨b1, 0, none⟩))), (3, v1303), (4, (.int .i64 (i505 + 1)))]) ⟨rfl, rfl, rfl, trivial⟩; refine e_lq ?_; obtain rfl := Option.some.inj hF
        exact ⟨_, Nat.lt_succ_self _, l1302, i505 + 1, fs1299, v1303, b1304, ha.sub ⟨rfl, rfl, rfl, trivial⟩, hE1312, hI1433, hB1294, z1295, h1297, z1298, zf1300, nd1301, q1305, q1306, hN987⟩
      replace hF := if_f hp997 hF; refine wp_exit ?_; refine e_then_exit ?_; refine e_lq_eq ?_; obtain rfl := Option.some.inj hF
      exact ⟨l502, fs499, v503, b504, ha.sub ⟨rfl, trivial⟩, hE996, h497, z498, zf500, nd501, (LK_inr hN987).symm⟩
  rintro a w971 ⟨l978, fs975, v979, b980, ha, hE986, h973, z974, zf976, nd977, rfl⟩
  have hF : F_spec_l1Edges_k4 l978 = some _ := hK983; clear hK983; unfold F_spec_l1Edges_k4 at hF
  refine e_then ?_; refine wp_seq ?_; refine wp_region_lit ?_; refine op_g ha rfl (g_move rfl) ?_; clear ha a; intro a ha; refine op_g ha rfl (g_assign rfl) ?_; clear ha a; intro a ha; refine wpList_nil ?_; replace ha := ha.sub (σ' := [(2, v979)]) ⟨rfl, trivial⟩; refine e_then ?_; refine wp_ret ?_; obtain rfl := Option.some.inj hF
  exact f_ret1 ha rfl rfl ⟨_, _, h973, z974, zf976, nd977, hE986⟩
set_option maxHeartbeats 2000000 in
theorem W_spec_EdgesOf {W : World} {va0_0 : Value} {fa0_0 : List Nat} {a0_0 : (List (List Int))} (ha0_0 : Ro (Rp.sl 2 Rp.int) W fa0_0 va0_0 a0_0) {r : (List (List Int))} (hF : F_spec_EdgesOf a0_0 = some r) :
    Calls Tryd.prog 20 [.agg #[va0_0]].toArray W (Ret fun u w' => ∃ (b_u : Int) (fs_u : List Nat), Ow (Rp.sl 2 Rp.int) 31 true w' fs_u b_u u r ∧ Zn W b_u ∧ (∀ k ∈ fs_u, W.heap.size ≤ k) ∧ (bl b_u ++ fs_u).Nodup ∧ Ext W w') := by
  refine f_enter Tryd.func20 rfl Tryd.ntmps20 rfl ?_
  intro a ha
  replace ha : Fr 9 [(0, (.agg #[va0_0]))] a := ha
  have hE : Chg [] W W := Chg.refl _ _
  unfold F_spec_EdgesOf at hF
  refine wp_seq ?_; refine wp_region_lit ?_
  refine o_box ha rfl rfl rfl ?_; clear ha a; intro b1 w2 hB3 hx4 hlo5 a ha
  have q6 := Zn.one hlo5
  have q7 := Zn.upD q6 hE
  have hE8 := Ext.trans hE hx4
  refine op_g ha rfl (g_assign rfl) ?_; clear ha a; intro a ha; refine wpList_nil ?_; replace ha := ha.sub (σ' := [(1, (.pointer (some ⟨b1, 0, none⟩)))]) ⟨rfl, trivial⟩; refine e_then ?_; refine wp_seq ?_; refine wp_seq ?_; refine wp_region_lit ?_; refine op_g ha rfl (g_loadA (cs := [va0_0]) Tryd.isAgg29 Tryd.sizeOf29 rfl (by simp) hB3.all) ?_; clear ha a; intro a ha; obtain ⟨x9, hc10, hF⟩ := cal_some hF
  refine o_call ha rfl rfl Tryd.call33 (W_spec_GraphOk (ha0_0.ext hE8) hc10) ?_; clear ha a; rintro v11 w12 ⟨rfl, hx13⟩ a ha
  replace hB3 := hB3.ext hx13
  have hE14 := Ext.trans hE8 hx13
  refine op_g ha rfl (g_not rfl) ?_; clear ha a; intro a ha; refine wpList_nil ?_; replace ha := ha.sub (σ' := [(1, (.pointer (some ⟨b1, 0, none⟩))), (5, (.bool (!x9)))]) ⟨rfl, rfl, trivial⟩; refine e_then ?_; refine c_cond (¬ (x9 = true)) ha rfl (n_iff (Iff.rfl)) (fun hp15 => ?_) (fun hp15 => ?_)
  · replace hF := if_t hp15 hF
    refine wp_seq ?_; refine wp_region_lit ?_
    refine o_lit0 (Rp.sl 2 Rp.int) ha rfl sl27 ?_; clear ha a; intro v16 w17 h18 hx19 a ha
    obtain ⟨b21, hb21⟩ : ∃ b : Int, b = w12.heap.size := ⟨_, rfl⟩; rw [← hb21] at h18
    have q22 := zn_of hb21
    have q23 := Nq.new hB3.fpb q22
    have q24 := Nq.madeO q22 hB3.bi
    have q25 := Zn.upD q22 hE14
    replace hB3 := hB3.ext hx19
    have hE26 := Ext.trans hE14 hx19
    refine op_g ha rfl (g_assign rfl) ?_; clear ha a; intro a ha; refine wpList_nil ?_; replace ha := ha.sub (σ' := [(2, v16)]) ⟨rfl, trivial⟩; refine e_then ?_; refine wp_ret ?_; refine e_then_ret ?_; obtain rfl := Option.some.inj hF
    exact f_ret1 ha rfl rfl ⟨_, _, h18, q25, (zf_nil _), (bl_nodup b21), hE26⟩
  replace hF := if_f hp15 hF; refine wp_skip ?_; refine e_then ?_; refine wp_seq ?_; refine wp_region_lit ?_; refine op_g ha rfl (g_loadA (cs := [va0_0]) Tryd.isAgg29 Tryd.sizeOf29 rfl (by simp) hB3.all) ?_; clear ha a; intro a ha; obtain ⟨x27, hc28, hF⟩ := cal_some hF
  refine o_call ha rfl rfl Tryd.call56 (W_spec_l1Edges (ha0_0.ext hE14) hc28) ?_; clear ha a; rintro v29 w30 ⟨b32, fs36, h33, z34, zf37, nd38, hx31⟩ a ha
  have q39 := Nq.new hB3.fpb z34
  have q40 := Nq.madeF z34 zf37 hB3.bi
  have q41 := Nf.new hB3.fpb zf37
  replace hB3 := hB3.ext hx31
  have hE42 := Ext.trans hE14 hx31
  have q43 := Zn.upD z34 hE14
  have q44 := zf_up zf37 hE14
  refine op_g ha rfl (g_assign rfl) ?_; clear ha a; intro a ha; refine wpList_nil ?_; replace ha := ha.sub (σ' := [(2, v29)]) ⟨rfl, trivial⟩; refine e_then ?_; refine wp_ret ?_; obtain rfl := Option.some.inj hF
  exact f_ret1 ha rfl rfl ⟨_, _, h33, q43, q44, nd38, hE42⟩
set_option maxHeartbeats 2000000 in
theorem W_spec_l1There {W : World} {va0_0 : Value} {fa0_0 : List Nat} {a0_0 : (List (List Int))} (ha0_0 : Ro (Rp.sl 2 Rp.int) W fa0_0 va0_0 a0_0) {a1 : Int} (ha1 : InI a1) {r : Bool} (hF : F_spec_l1There a0_0 a1 = some r) :
    Calls Tryd.prog 87 [.agg #[va0_0], .int .i64 a1].toArray W (Ret fun u w' => u = .bool r ∧ Ext W w') := by
  refine f_enter Tryd.func87 rfl Tryd.ntmps87 rfl ?_
  intro a ha
  replace ha : Fr 10 [(0, (.agg #[va0_0])), (1, (.int .i64 a1))] a := ha
  have hE : Chg [] W W := Chg.refl _ _
  unfold F_spec_l1There at hF
  refine wp_seq ?_; refine wp_region_lit ?_
  refine o_box ha rfl rfl rfl ?_; clear ha a; intro b1 w2 hB3 hx4 hlo5 a ha
  have q6 := Zn.one hlo5
  have q7 := Zn.upD q6 hE
  have hE8 := Ext.trans hE hx4
  refine op_g ha rfl (g_assign rfl) ?_; clear ha a; intro a ha; refine wpList_nil ?_; replace ha := ha.sub (σ' := [(1, (.int .i64 a1)), (2, (.pointer (some ⟨b1, 0, none⟩)))]) ⟨rfl, rfl, trivial⟩; refine e_then ?_; refine wp_seq ?_; refine wp_region_lit ?_; refine op_g ha rfl (g_move rfl) ?_; clear ha a; intro a ha; refine op_g ha rfl (g_loadA (cs := [va0_0]) Tryd.isAgg29 Tryd.sizeOf29 rfl (by simp) hB3.all) ?_; clear ha a; intro a ha; obtain ⟨x9, hc10, hF⟩ := cal_some hF
  refine o_call ha rfl rfl Tryd.call76 (W_spec_l1Size (ha0_0.ext hE8) hc10) ?_; clear ha a; rintro v11 w12 ⟨⟨rfl, hI14⟩, hx13⟩ a ha
  replace hB3 := hB3.ext hx13
  have hE15 := Ext.trans hE8 hx13
  obtain ⟨hI16, hF⟩ := ck_some hF; refine op_g ha rfl (g_sub rfl rfl hI16) ?_; clear ha a; intro a ha; obtain ⟨x18, hc19, hF⟩ := cal_some hF
  refine o_call ha rfl rfl Tryd.call34 (W_spec_l1In ha1 (show InI 0 from by decide) hI16 hc19) ?_; clear ha a; rintro v20 w21 ⟨rfl, hx22⟩ a ha
  replace hB3 := hB3.ext hx22
  have hE23 := Ext.trans hE15 hx22
  refine op_g ha rfl (g_assign rfl) ?_; clear ha a; intro a ha; refine wpList_nil ?_; replace ha := ha.sub (σ' := [(4, (.bool x18))]) ⟨rfl, trivial⟩; refine e_then ?_; refine wp_ret ?_; obtain rfl := Option.some.inj hF
  exact f_ret1 ha rfl rfl ⟨rfl, hE23⟩
set_option maxHeartbeats 2000000 in
theorem W_spec_l2Pair {W : World} {va0_0 : Value} {fa0_0 : List Nat} {a0_0 : (List (List Int))} (ha0_0 : Ro (Rp.sl 2 Rp.int) W fa0_0 va0_0 a0_0) {a1 : Int} (ha1 : InI a1) {a2 : Int} (ha2 : InI a2) {r : Bool} (hF : F_spec_l2Pair a0_0 a1 a2 = some r) :
    Calls Tryd.prog 57 [.agg #[va0_0], .int .i64 a1, .int .i64 a2].toArray W (Ret fun u w' => u = .bool r ∧ Ext W w') := by
  refine f_enter Tryd.func57 rfl Tryd.ntmps57 rfl ?_
  intro a ha
  replace ha : Fr 24 [(0, (.agg #[va0_0])), (1, (.int .i64 a1)), (2, (.int .i64 a2))] a := ha
  have hE : Chg [] W W := Chg.refl _ _
  unfold F_spec_l2Pair at hF
  refine wp_seq ?_; refine wp_region_lit ?_
  refine o_box ha rfl rfl rfl ?_; clear ha a; intro b1 w2 hB3 hx4 hlo5 a ha
  have q6 := Zn.one hlo5
  have q7 := Zn.upD q6 hE
  have hE8 := Ext.trans hE hx4
  refine op_g ha rfl (g_assign rfl) ?_; clear ha a; intro a ha; refine wpList_nil ?_; replace ha := ha.sub (σ' := [(1, (.int .i64 a1)), (2, (.int .i64 a2)), (3, (.pointer (some ⟨b1, 0, none⟩)))]) ⟨rfl, rfl, rfl, trivial⟩; refine e_then ?_; refine wp_seq ?_; refine wp_region_lit ?_; refine op_g ha rfl (g_loadA (cs := [va0_0]) Tryd.isAgg29 Tryd.sizeOf29 rfl (by simp) hB3.all) ?_; clear ha a; intro a ha; obtain ⟨x9, hc10, hF⟩ := cal_some hF
  refine o_call ha rfl rfl Tryd.call33 (W_spec_GraphOk (ha0_0.ext hE8) hc10) ?_; clear ha a; rintro v11 w12 ⟨rfl, hx13⟩ a ha
  replace hB3 := hB3.ext hx13
  have hE14 := Ext.trans hE8 hx13
  refine op_g ha rfl (g_move rfl) ?_; clear ha a; intro a ha
  by_cases hp15 : x9 = true
  · replace hF := if_t hp15 hF
    rw [show (x9) = true from (Iff.rfl).2 hp15] at ha
    refine op_want (yields ha rfl rfl) ?_; refine op_g ha rfl (g_loadA (cs := [va0_0]) Tryd.isAgg29 Tryd.sizeOf29 rfl (by simp) hB3.all) ?_; clear ha a; intro a ha; refine op_want (yields ha rfl rfl) ?_; refine op_g ha rfl (g_move rfl) ?_; clear ha a; intro a ha; refine op_want (yields ha rfl rfl) ?_; obtain ⟨x16, hc17, hF⟩ := cal_some hF
    refine o_call ha rfl rfl Tryd.call87 (W_spec_l1There (ha0_0.ext hE14) ha1 hc17) ?_; clear ha a; rintro v18 w19 ⟨rfl, hx20⟩ a ha
    replace hB3 := hB3.ext hx20
    have hE21 := Ext.trans hE14 hx20
    refine op_g ha rfl (g_pick rfl rfl) ?_; clear ha a; intro a ha; refine op_g ha rfl (g_move rfl) ?_; clear ha a; intro a ha
    by_cases hp22 : x16 = true
    · replace hF := if_t hp22 hF
      rw [show (x16) = true from (Iff.rfl).2 hp22] at ha
      refine op_want (yields ha rfl rfl) ?_; refine op_g ha rfl (g_loadA (cs := [va0_0]) Tryd.isAgg29 Tryd.sizeOf29 rfl (by simp) hB3.all) ?_; clear ha a; intro a ha; refine op_want (yields ha rfl rfl) ?_; refine op_g ha rfl (g_move rfl) ?_; clear ha a; intro a ha; refine op_want (yields ha rfl rfl) ?_; obtain ⟨x23, hc24, hF⟩ := cal_some hF
      refine o_call ha rfl rfl Tryd.call87 (W_spec_l1There (ha0_0.ext hE21) ha2 hc24) ?_; clear ha a; rintro v25 w26 ⟨rfl, hx27⟩ a ha
      replace hB3 := hB3.ext hx27
      have hE28 := Ext.trans hE21 hx27
      refine op_g ha rfl (g_pick rfl rfl) ?_; clear ha a; intro a ha; refine op_g ha rfl (g_move rfl) ?_; clear ha a; intro a ha
      by_cases hp29 : x23 = true
      · replace hF := if_t hp29 hF
        rw [show (x23) = true from (Iff.rfl).2 hp29] at ha
        refine op_want (yields ha rfl rfl) ?_; refine op_g ha rfl (g_move rfl) ?_; clear ha a; intro a ha; refine op_want (yields ha rfl rfl) ?_; refine op_g ha rfl (g_move rfl) ?_; clear ha a; intro a ha; refine op_want (yields ha rfl rfl) ?_; refine op_g ha rfl (g_neq rfl rfl) ?_; clear ha a; intro a ha; refine op_g ha rfl (g_pick rfl rfl) ?_; clear ha a; intro a ha; refine op_g ha rfl (g_assign rfl) ?_; clear ha a; intro a ha; refine wpList_nil ?_; replace ha := ha.sub (σ' := [(6, (.bool (decide (a1 ≠ a2))))]) ⟨rfl, trivial⟩; refine e_then ?_; refine wp_ret ?_; obtain rfl := Option.some.inj hF
        exact f_ret1 ha rfl rfl ⟨rfl, hE28⟩
      replace hF := if_f hp29 hF
      rw [show (x23) = false from b_false (Iff.rfl) hp29] at ha
      (iterate 3 refine op_unwant ha rfl (yields ha rfl rfl) rfl ?_; clear ha a; intro a ha); refine op_g ha rfl (g_pick rfl rfl) ?_; clear ha a; intro a ha; refine op_g ha rfl (g_assign rfl) ?_; clear ha a; intro a ha; refine wpList_nil ?_; replace ha := ha.sub (σ' := [(6, (.bool false))]) ⟨rfl, trivial⟩; refine e_then ?_; refine wp_ret ?_; obtain rfl := Option.some.inj hF
      exact f_ret1 ha rfl rfl ⟨rfl, hE28⟩
    replace hF := if_f hp22 hF
    rw [show (x16) = false from b_false (Iff.rfl) hp22] at ha
    (iterate 3 refine op_unwant ha rfl (yields ha rfl rfl) rfl ?_; clear ha a; intro a ha); refine op_g ha rfl (g_pick rfl rfl) ?_; clear ha a; intro a ha; refine op_g ha rfl (g_move rfl) ?_; clear ha a; intro a ha; (iterate 3 refine op_unwant ha rfl (yields ha rfl rfl) rfl ?_; clear ha a; intro a ha); refine op_g ha rfl (g_pick rfl rfl) ?_; clear ha a; intro a ha; refine op_g ha rfl (g_assign rfl) ?_; clear ha a; intro a ha; refine wpList_nil ?_; replace ha := ha.sub (σ' := [(6, (.bool false))]) ⟨rfl, trivial⟩; refine e_then ?_; refine wp_ret ?_; obtain rfl := Option.some.inj hF
    exact f_ret1 ha rfl rfl ⟨rfl, hE21⟩
  replace hF := if_f hp15 hF
  rw [show (x9) = false from b_false (Iff.rfl) hp15] at ha
  (iterate 3 refine op_unwant ha rfl (yields ha rfl rfl) rfl ?_; clear ha a; intro a ha); refine op_g ha rfl (g_pick rfl rfl) ?_; clear ha a; intro a ha; refine op_g ha rfl (g_move rfl) ?_; clear ha a; intro a ha; (iterate 3 refine op_unwant ha rfl (yields ha rfl rfl) rfl ?_; clear ha a; intro a ha); refine op_g ha rfl (g_pick rfl rfl) ?_; clear ha a; intro a ha; refine op_g ha rfl (g_move rfl) ?_; clear ha a; intro a ha; (iterate 3 refine op_unwant ha rfl (yields ha rfl rfl) rfl ?_; clear ha a; intro a ha); refine op_g ha rfl (g_pick rfl rfl) ?_; clear ha a; intro a ha; refine op_g ha rfl (g_assign rfl) ?_; clear ha a; intro a ha
  refine wpList_nil ?_; replace ha := ha.sub (σ' := [(6, (.bool false))]) ⟨rfl, trivial⟩; refine e_then ?_; refine wp_ret ?_; obtain rfl := Option.some.inj hF
  exact f_ret1 ha rfl rfl ⟨rfl, hE14⟩
set_option maxHeartbeats 2000000 in
theorem W_spec_l1Edge {W : World} {va0_0 : Value} {fa0_0 : List Nat} {a0_0 : (List (List Int))} (ha0_0 : Ro (Rp.sl 2 Rp.int) W fa0_0 va0_0 a0_0) {a1 : Int} (ha1 : InI a1) {a2 : Int} (ha2 : InI a2) {r : Bool} (hF : F_spec_l1Edge a0_0 a1 a2 = some r) :
    Calls Tryd.prog 58 [.agg #[va0_0], .int .i64 a1, .int .i64 a2].toArray W (Ret fun u w' => u = .bool r ∧ Ext W w') := by
  refine f_enter Tryd.func58 rfl Tryd.ntmps58 rfl ?_
  intro a ha
  replace ha : Fr 14 [(0, (.agg #[va0_0])), (1, (.int .i64 a1)), (2, (.int .i64 a2))] a := ha
  have hE : Chg [] W W := Chg.refl _ _
  unfold F_spec_l1Edge at hF
  refine wp_seq ?_; refine wp_region_lit ?_
  refine o_box ha rfl rfl rfl ?_; clear ha a; intro b1 w2 hB3 hx4 hlo5 a ha
  have q6 := Zn.one hlo5
  have q7 := Zn.upD q6 hE
  have hE8 := Ext.trans hE hx4
  refine op_g ha rfl (g_assign rfl) ?_; clear ha a; intro a ha; refine wpList_nil ?_; replace ha := ha.sub (σ' := [(1, (.int .i64 a1)), (2, (.int .i64 a2)), (3, (.pointer (some ⟨b1, 0, none⟩)))]) ⟨rfl, rfl, rfl, trivial⟩; refine e_then ?_; refine wp_seq ?_; refine wp_region_lit ?_; refine op_g ha rfl (g_field0 st29_0 rfl) ?_; clear ha a; intro a ha; refine op_g ha rfl (g_load Tryd.isAgg27 rfl (hB3.cell rfl)) ?_; clear ha a; intro a ha; refine op_g ha rfl (g_move rfl) ?_; clear ha a; intro a ha; obtain ⟨x9, g10, gx11, hF⟩ := idx_some hF
  obtain ⟨p12, cs13, f14, hf15, hpb16, hat17, hr18, hi19⟩ := ha0_0.at g10 gx11
  obtain ⟨v20, rfl, h21⟩ := hr18
  have h21 : Ro Rp.int W f14 v20 x9 := h21
  refine op_g ha rfl (hi19.gives sl27 rfl rfl) ?_; clear ha a; intro a ha; refine op_g ha rfl (g_load0 hE8 Tryd.isAgg31 rfl hat17.one) ?_; clear ha a; intro a ha; refine op_g ha rfl (g_move rfl) ?_; clear ha a; intro a ha; obtain ⟨x23, hc24, hF⟩ := cal_some hF
  refine o_call ha rfl rfl Tryd.call47 (W_spec_l1Has (h21.ext hE8) ha2 hc24) ?_; clear ha a; rintro v25 w26 ⟨rfl, hx27⟩ a ha
  replace hB3 := hB3.ext hx27
  have hE28 := Ext.trans hE8 hx27
  refine op_g ha rfl (g_assign rfl) ?_; clear ha a; intro a ha; refine wpList_nil ?_; replace ha := ha.sub (σ' := [(6, (.bool x23))]) ⟨rfl, trivial⟩; refine e_then ?_; refine wp_ret ?_; obtain rfl := Option.some.inj hF
  exact f_ret1 ha rfl rfl ⟨rfl, hE28⟩
set_option maxHeartbeats 2000000 in
theorem W_spec_l1CopyGraph {W : World} {va0_0 : Value} {fa0_0 : List Nat} {a0_0 : (List (List Int))} (ha0_0 : Ro (Rp.sl 2 Rp.int) W fa0_0 va0_0 a0_0) {r : (List (List Int))} (hF : F_spec_l1CopyGraph a0_0 = some r) :
    Calls Tryd.prog 59 [.agg #[va0_0]].toArray W (Ret fun u w' => ∃ (u_0 : Value) (b_u_0 : Int) (fs_u_0 : List Nat), u = .agg #[u_0] ∧ Ow (Rp.sl 2 Rp.int) 31 true w' fs_u_0 b_u_0 u_0 r ∧ Zn W b_u_0 ∧ (∀ k ∈ fs_u_0, W.heap.size ≤ k) ∧ (bl b_u_0 ++ fs_u_0).Nodup ∧ Ext W w') := by
  refine f_enter Tryd.func59 rfl Tryd.ntmps59 rfl ?_
  intro a ha
  replace ha : Fr 25 [(0, (.agg #[va0_0]))] a := ha
  have hE : Chg [] W W := Chg.refl _ _
  unfold F_spec_l1CopyGraph at hF
  refine wp_seq ?_; refine wp_region_lit ?_
  refine o_box ha rfl rfl rfl ?_; clear ha a; intro b1 w2 hB3 hx4 hlo5 a ha
  have q6 := Zn.one hlo5
  have q7 := Zn.upD q6 hE
  have hE8 := Ext.trans hE hx4
  refine o_alloc (cs := [(.slice none 0 0)]) ha rfl Tryd.zeroValue29 rfl ?_; clear ha a; intro b9 w10 hB11 hx12 hlo13 a ha
  have q14 := Zn.one hlo13
  have q15 := Nq.new hB3.fpb q14
  have q16 := Nq.made1 hlo13 hB3.bi
  have q17 := Zn.upD q14 hE8
  replace hB3 := hB3.ext hx12
  have hE18 := Ext.trans hE8 hx12
  refine wpList_nil ?_; replace ha := ha.sub (σ' := [(1, (.pointer (some ⟨b1, 0, none⟩))), (2, (.pointer (some ⟨b9, 0, none⟩)))]) ⟨rfl, rfl, trivial⟩; refine e_then ?_; refine wp_seq ?_; refine wp_region_lit ?_; refine op_g ha rfl (g_build (vs := []) (cells := #[(.slice none 0 0)]) rfl (by rfl)) ?_; clear ha a; intro a ha
  refine o_alloc (cs := [(.slice none 0 0)]) ha rfl Tryd.zeroValue29 rfl ?_; clear ha a; intro b19 w20 hB21 hx22 hlo23 a ha
  have q24 := Zn.one hlo23
  have q25 := Nq.new hB3.fpb q24
  have q26 := Nq.made1 hlo23 hB3.bi
  have q27 := Nq.new hB11.fpb q24
  have q28 := Nq.made1 hlo23 hB11.bi
  have q29 := Zn.upD q24 hE18
  replace hB3 := hB3.ext hx22
  replace hB11 := hB11.ext hx22
  have hE30 := Ext.trans hE18 hx22
  refine o_storeA (vs := [(.slice none 0 0)]) ha hB21 Tryd.sizeOf29 rfl rfl (by intro c hc; simp only [List.mem_cons, List.not_mem_nil, or_false] at hc; rcases hc with hc <;> subst hc <;> first | rfl | exact rfl) rfl ?_; intro w31 hB32 hc33
  replace hc33 := hc33.bl
  replace hB32 : Bx w31 b19 [(.slice none 0 0)] 29 := hB32
  replace hB3 := hB3.nq hc33 q25
  replace hB11 := hB11.nq hc33 q27
  have hE34 := Ext.then hE30 hc33 (Zn.bl q29)
  refine wpList_nil ?_; replace ha := ha.sub (σ' := [(1, (.pointer (some ⟨b1, 0, none⟩))), (2, (.pointer (some ⟨b9, 0, none⟩))), (3, (.pointer (some ⟨b19, 0, none⟩)))]) ⟨rfl, rfl, rfl, trivial⟩; refine e_then ?_; refine wp_seq ?_; refine wp_seq ?_; refine wp_region_lit ?_; refine op_g ha rfl (g_assign rfl) ?_; clear ha a; intro a ha; refine wpList_nil ?_; replace ha := ha.sub (σ' := [(1, (.pointer (some ⟨b1, 0, none⟩))), (2, (.pointer (some ⟨b9, 0, none⟩))), (3, (.pointer (some ⟨b19, 0, none⟩))), (4, (.int .i64 0))]) ⟨rfl, rfl, rfl, rfl, trivial⟩; refine e_then ?_; obtain ⟨o364, ho365, hK366⟩ := bnd_some hF
  obtain ⟨n367, hn368⟩ := lp_some ho365; clear ho365
  obtain ⟨b371, hb371⟩ : ∃ b : Int, b = -1 := ⟨_, rfl⟩
  have h370 : Ow (Rp.sl 2 Rp.int) 31 true w31 [] b371 (.slice none 0 0) [] := Ow.nil (by omega)
  have q372 := (.inl (by omega) : Zn w31 b371)
  have q373 := Nq.new hB3.fpb q372
  have q374 := Nq.madeO q372 hB3.bi
  have q375 := Nq.new hB11.fpb q372
  have q376 := Nq.madeO q372 hB11.bi
  have q377 := Nq.new hB32.fpb q372
  have q378 := Nq.madeO q372 hB32.bi
  have q379 := Zn.upD q372 hE34
  refine c_loop (fun a w => ∃ (l355 : (List (List Int))) (fs352 : List Nat) (v356 : Value) (b357 : Int), Fr 25 [(2, (.pointer (some ⟨b9, 0, none⟩))), (3, (.pointer (some ⟨b19, 0, none⟩)))] a ∧ Chg [] W w ∧ Bx w b9 [(.slice none 0 0)] 29 ∧ Zn W (b9 : Int) ∧ Bx w b19 [v356] 29 ∧ Zn W (b19 : Int) ∧ Ow (Rp.sl 2 Rp.int) 31 true w fs352 b357 v356 l355 ∧ Zn W b357 ∧ (∀ k ∈ fs352, W.heap.size ≤ k) ∧ (bl b357 ++ fs352).Nodup ∧ Nq ([b9]) (b19 : Int) ∧ Nq ([b9]) b357 ∧ Nq ([b19]) (b9 : Int) ∧ Nq ([b19]) b357 ∧ Nq (bl b357 ++ fs352) (b9 : Int) ∧ Nq (bl b357 ++ fs352) (b19 : Int) ∧ o364 = .inl l355) (fun n a w => ∃ (l198 : (List (List Int))) (i201 : Int) (fs195 : List Nat) (v199 : Value) (b200 : Int), Fr 25 [(1, (.pointer (some ⟨b1, 0, none⟩))), (2, (.pointer (some ⟨b9, 0, none⟩))), (3, (.pointer (some ⟨b19, 0, none⟩))), (4, (.int .i64 i201))] a ∧ Chg [] W w ∧ InI i201 ∧ Bx w b1 [va0_0] 29 ∧ Zn W (b1 : Int) ∧ Bx w b9 [(.slice none 0 0)] 29 ∧ Zn W (b9 : Int) ∧ Bx w b19 [v199] 29 ∧ Zn W (b19 : Int) ∧ Ow (Rp.sl 2 Rp.int) 31 true w fs195 b200 v199 l198 ∧ Zn W b200 ∧ (∀ k ∈ fs195, W.heap.size ≤ k) ∧ (bl b200 ++ fs195).Nodup ∧ Nq ([b1]) (b9 : Int) ∧ Nq ([b1]) (b19 : Int) ∧ Nq ([b1]) b200 ∧ Nq ([b9]) (b1 : Int) ∧ Nq ([b9]) (b19 : Int) ∧ Nq ([b9]) b200 ∧ Nq ([b19]) (b1 : Int) ∧ Nq ([b19]) (b9 : Int) ∧ Nq ([b19]) b200 ∧ Nq (bl b200 ++ fs195) (b1 : Int) ∧ Nq (bl b200 ++ fs195) (b9 : Int) ∧ Nq (bl b200 ++ fs195) (b19 : Int) ∧ lpN (fun s => F_spec_l1CopyGraph_l1 a0_0 s.1 s.2) n (l198, i201) = some o364) n367 ⟨([] : (List (List Int))), 0, [], (.slice none 0 0), b371, ha.sub ⟨rfl, rfl, rfl, rfl, trivial⟩, hE34, (show InI 0 from by decide), hB3, q7, hB11, q17, hB32, q29, h370, q379, (zf_nil _), (bl_nodup b371), q15, q25, q373, q16, q27, q375, q26, q28, q377, q374, q376, q378, hn368⟩ ?_ ?_
  · rintro m383 a w185 ⟨l198, i201, fs195, v199, b200, ha, hE215, hI202, hB186, z187, hB188, z189, hB190, z191, h193, z194, zf196, nd197, q203, q204, q205, q206, q207, q208, q209, q210, q211, q212, q213, q214, hF⟩
    cases m383 with
    | zero => exact (lpN_zero hF).elim
    | succ m383 =>
      obtain ⟨z382, hF, hN381⟩ := lpN_succ hF
      have hF : F_spec_l1CopyGraph_l1 a0_0 l198 i201 = some z382 := hF; unfold F_spec_l1CopyGraph_l1 at hF
      refine wp_seq ?_; refine wp_seq ?_; refine wp_region_lit ?_; refine op_g ha rfl (g_move rfl) ?_; clear ha a; intro a ha; refine op_g ha rfl (g_field0 st29_0 rfl) ?_; clear ha a; intro a ha; refine op_g ha rfl (g_load Tryd.isAgg27 rfl (hB186.cell rfl)) ?_; clear ha a; intro a ha; refine op_g ha rfl (g_lenR sl27.und ha0_0 rfl) ?_; clear ha a; intro a ha; refine op_g ha rfl (g_lss rfl rfl) ?_; clear ha a; intro a ha; refine wpList_nil ?_; replace ha := ha.sub (σ' := [(1, (.pointer (some ⟨b1, 0, none⟩))), (2, (.pointer (some ⟨b9, 0, none⟩))), (3, (.pointer (some ⟨b19, 0, none⟩))), (4, (.int .i64 i201)), (10, (.bool (decide (i201 < (a0_0.length : Int)))))]) ⟨rfl, rfl, rfl, rfl, rfl, trivial⟩
      refine e_then ?_; refine c_cond (i201 < (a0_0.length : Int)) ha rfl (decide_eq_true_iff) (fun hp384 => ?_) (fun hp384 => ?_)
      · replace hF := if_t hp384 hF
        refine wp_skip ?_; refine e_then ?_; refine wp_seq ?_; refine wp_block ?_; refine d_region [0, 1, 2, 3, 4, 5, 6, 7, 8] hmix ?_; refine u_g 0 rfl (by kernel_rfl) (want0 _) ha rfl (g_field0 st29_0 rfl) ?_; clear ha a; intro a ha; refine u_g 1 rfl (by kernel_rfl) (want0 _) ha rfl (g_load Tryd.isAgg27 rfl (hB190.cell rfl)) ?_; clear ha a; intro a ha; refine u_g 2 rfl (by kernel_rfl) (want0 _) ha rfl (g_field0 st29_0 rfl) ?_; clear ha a; intro a ha; refine u_g 3 rfl (by kernel_rfl) (want0 _) ha rfl (g_load Tryd.isAgg27 rfl (hB186.cell rfl)) ?_; clear ha a; intro a ha; refine u_g 4 rfl (by kernel_rfl) (want0 _) ha rfl (g_move rfl) ?_; clear ha a; intro a ha
        obtain ⟨x385, g386, gx387, hF⟩ := idx_some hF
        obtain ⟨p388, cs389, f390, hf391, hpb392, hat393, hr394, hi395⟩ := ha0_0.at g386 gx387
        obtain ⟨v396, rfl, h397⟩ := hr394
        have h397 : Ro Rp.int W f390 v396 x385 := h397
        refine u_g 5 rfl (by kernel_rfl) (want0 _) ha rfl (hi395.gives sl27 rfl rfl) ?_; clear ha a; intro a ha; refine u_g 6 rfl (by kernel_rfl) (want0 _) ha rfl (g_load0 hE215 Tryd.isAgg31 rfl hat393.one) ?_; clear ha a; intro a ha
        refine u_only 7 rfl (by kernel_rfl) ?_; intro w399 hx400
        replace hB186 := hB186.ext hx400
        replace hB188 := hB188.ext hx400
        replace hB190 := hB190.ext hx400
        replace h193 := h193.ext hx400
        have hE401 := Ext.trans hE215 hx400
        obtain ⟨x402, hc403, hF⟩ := cal_some hF
        refine o_call ha rfl rfl Tryd.call88 (W_spec_l1Copy (h397.ext hE401) hc403) ?_; clear ha a; rintro v404 w405 ⟨b407, h408, z409, hx406⟩ a ha
        have q411 := Nq.new hB186.fpb z409
        have q412 := Nq.madeO z409 hB186.bi
        have q413 := Nq.new hB188.fpb z409
        have q414 := Nq.madeO z409 hB188.bi
        have q415 := Nq.new hB190.fpb z409
        have q416 := Nq.madeO z409 hB190.bi
        have q417 := Nq.new h193.fpb z409
        have q418 := Nq.madeO z409 h193.blt
        have q419 := Nf.old z409 (zf_nil _) h193.bnd
        replace hB186 := hB186.ext hx406
        replace hB188 := hB188.ext hx406
        replace hB190 := hB190.ext hx406
        replace h193 := h193.ext hx406
        have hE420 := Ext.trans hE401 hx406
        have q421 := Zn.upD z409 hE401
        refine wpList_nil (e_sq ?_)
        refine ⟨fun _ => hx406, ?_⟩
        refine u_only 8 rfl (by kernel_rfl) ?_; intro w422 hx423
        replace hB186 := hB186.ext hx423
        replace hB188 := hB188.ext hx423
        replace hB190 := hB190.ext hx423
        replace h193 := h193.ext hx423
        replace h408 := h408.ext hx423
        have hE424 := Ext.trans hE420 hx423
        refine o_lit1 (o := true) (y := x402) (Rp.sl 2 Rp.int) ha rfl sl27 rfl rfl h408.cells (Rp.mkO h408) ?_; clear ha a; intro v425 w426 h427 hx428 a ha
        obtain ⟨b430, hb430⟩ : ∃ b : Int, b = w422.heap.size := ⟨_, rfl⟩; rw [← hb430] at h427
        have q431 := zn_of hb430
        have q432 := zf_mv q421 (zf_nil _)
        have q433 := dj_of q417
        have q434 := Nq.new hB186.fpb q431
        have q435 := Nq.append (Nq.madeL q431 hB186.bi) q412
        have q436 := Nq.new hB188.fpb q431
        have q437 := Nq.append (Nq.madeL q431 hB188.bi) q414
        have q438 := Nq.new hB190.fpb q431
        have q439 := Nq.append (Nq.madeL q431 hB190.bi) q416
        have q440 := Nq.new h193.fpb q431
        have q441 := Nq.append (Nq.madeL q431 h193.blt) q418
        have q442 := Zn.upD q431 hE424
        have q443 := nd_lit (bl_nodup b407) h408.fpb hb430
        replace hB186 := hB186.ext hx428
        replace hB188 := hB188.ext hx428
        replace hB190 := hB190.ext hx428
        replace h193 := h193.ext hx428
        have hE444 := Ext.trans hE424 hx428
        refine wpList_nil (e_sq ?_)
        refine ⟨fun _ => hx428, ?_⟩
        refine u_only 9 rfl (by kernel_rfl) ?_; intro w445 hx446
        replace hB186 := hB186.ext hx446
        replace hB188 := hB188.ext hx446
        replace hB190 := hB190.ext hx446
        replace h193 := h193.ext hx446
        replace h427 := h427.ext hx446
        have hE447 := Ext.trans hE444 hx446
        obtain ⟨hl448, hF⟩ := app_some hF
        have q449 := Nq.right q441
        refine o_append ha rfl sl27 rfl rfl rfl h193 h427.src q449 hl448 ?_; clear ha a; intro v450 w451 b452 h453 hc454 hb455 a ha
        replace h453 : Ow (Rp.sl 2 Rp.int) 31 true w451 (fs195 ++ (bl b407 ++ [])) b452 v450 _ := h453
        have q457 := zf_app zf196 q432
        have q458 := nd_app nd197 (bl_nodup b407) q433 hb455 h193.fpb h427.bnd
        have q459 := Nq.appY q205 hB186.fpb hb455
        have q460 := Nq.appX q212 (Nq.right q435) hb455 hB186.bi
        have q461 := Nq.appY q208 hB188.fpb hb455
        have q462 := Nq.appX q213 (Nq.right q437) hb455 hB188.bi
        have q463 := Nq.appY q211 hB190.fpb hb455
        have q464 := Nq.appX q214 (Nq.right q439) hb455 hB190.bi
        have q465 := Zn.appD z194 hb455 hE447
        replace hB186 := hB186.nq hc454 q205
        replace hB188 := hB188.nq hc454 q208
        replace hB190 := hB190.nq hc454 q211
        have hE466 := Ext.then hE447 hc454 (Zn.bl z194)
        refine wpList_nil (e_sq ?_)
        refine ⟨fun h => absurd h (by decide), ?_⟩
        refine u_only 10 rfl (by kernel_rfl) ?_; intro w467 hx468
        replace hB186 := hB186.ext hx468
        replace hB188 := hB188.ext hx468
        replace hB190 := hB190.ext hx468
        replace h453 := h453.ext hx468
        have hE469 := Ext.trans hE466 hx468
        refine op_g ha rfl (g_field0 st29_0 rfl) ?_; clear ha a; intro a ha; refine wpList_nil (e_sq ?_)
        refine ⟨fun h => absurd h (by decide), ?_⟩
        refine u_only 11 rfl (by kernel_rfl) ?_; intro w470 hx471
        replace hB186 := hB186.ext hx471
        replace hB188 := hB188.ext hx471
        replace hB190 := hB190.ext hx471
        replace h453 := h453.ext hx471
        have hE472 := Ext.trans hE469 hx471
        refine o_storeB ha hB190 Tryd.sizeOf27 rfl rfl h453.cells h453.oneC (Nat.le_of_ble_eq_true rfl) ?_; intro w473 hB474 hc475
        replace hc475 := hc475.bl
        replace hB474 : Bx w473 b19 [v450] 29 := hB474
        replace hB186 := hB186.nq hc475 q204
        replace hB188 := hB188.nq hc475 q207
        replace h453 := h453.nq hc475 q464
        have hE476 := Ext.then hE472 hc475 (Zn.bl z191)
        refine wpList_nil (e_sq ?_)
        refine ⟨fun h => absurd h (by decide), ?_⟩
        refine u_done (by kernel_rfl) ?_; intro w477 hx478
        replace hB186 := hB186.ext hx478
        replace hB188 := hB188.ext hx478
        replace hB474 := hB474.ext hx478
        replace h453 := h453.ext hx478
        have hE479 := Ext.trans hE476 hx478
        replace ha := ha.sub (σ' := [(1, (.pointer (some ⟨b1, 0, none⟩))), (2, (.pointer (some ⟨b9, 0, none⟩))), (3, (.pointer (some ⟨b19, 0, none⟩))), (4, (.int .i64 i201))]) ⟨rfl, rfl, rfl, rfl, trivial⟩; refine e_blk ?_; refine e_then ?_; refine wp_region_lit ?_; refine op_g ha rfl (g_move rfl) ?_; clear ha a; intro a ha; obtain ⟨hI480, hF⟩ := ck_some hF; refine op_g ha rfl (g_add rfl rfl hI480) ?_; clear ha a; intro a ha; refine op_g ha rfl (g_assign rfl) ?_; clear ha a; intro a ha; refine wpList_nil ?_; replace ha := ha.sub (σ' := [(1, (.pointer (some ⟨b1, 0, none⟩))), (2, (.pointer (some ⟨b9, 0, none⟩))), (3, (.pointer (some ⟨b19, 0, none⟩))), (4, (.int .i64 (i201 + 1)))]) ⟨rfl, rfl, rfl, rfl, trivial⟩
        refine e_lq ?_; obtain rfl := Option.some.inj hF
        exact ⟨_, Nat.lt_succ_self _, (l198 ++ ([x402])), i201 + 1, (fs195 ++ (bl b407 ++ [])), v450, b452, ha.sub ⟨rfl, rfl, rfl, rfl, trivial⟩, hE479, hI480, hB186, z187, hB188, z189, hB474, z191, h453, q465, q457, q458, q203, q204, q459, q206, q207, q461, q209, q210, q463, q460, q462, q464, hN381⟩
      replace hF := if_f hp384 hF; refine wp_exit ?_; refine e_then_exit ?_; refine e_lq_eq ?_; obtain rfl := Option.some.inj hF
      exact ⟨l198, fs195, v199, b200, ha.sub ⟨rfl, rfl, trivial⟩, hE215, hB188, z189, hB190, z191, h193, z194, zf196, nd197, q207, q208, q210, q211, q213, q214, (LK_inr hN381).symm⟩
  rintro a w344 ⟨l355, fs352, v356, b357, ha, hE380, hB345, z346, hB347, z348, h350, z351, zf353, nd354, q358, q359, q360, q361, q362, q363, rfl⟩
  have hF : F_spec_l1CopyGraph_k2 l355 = some _ := hK366; clear hK366; unfold F_spec_l1CopyGraph_k2 at hF
  refine e_then ?_; refine wp_seq ?_; refine wp_region_lit ?_; refine op_g ha rfl (g_loadA (cs := [v356]) Tryd.isAgg29 Tryd.sizeOf29 rfl (by simp) hB347.all) ?_; clear ha a; intro a ha
  refine o_storeA (vs := [v356]) ha hB345 Tryd.sizeOf29 rfl rfl (by intro c hc; simp only [List.mem_cons, List.not_mem_nil, or_false] at hc; rcases hc with hc <;> subst hc <;> first | rfl | exact h350.oneC) rfl ?_; intro w482 hB483 hc484
  replace hc484 := hc484.bl
  replace hB483 : Bx w482 b9 [v356] 29 := hB483
  replace hB347 := hB347.nq hc484 q360
  replace h350 := h350.nq hc484 q362
  have hE485 := Ext.then hE380 hc484 (Zn.bl z346)
  refine wpList_nil ?_; replace ha := ha.sub (σ' := [(2, (.pointer (some ⟨b9, 0, none⟩)))]) ⟨rfl, trivial⟩; refine e_then ?_; refine wp_ret ?_; obtain rfl := Option.some.inj hF
  exact f_retC (cs := [v356]) ha rfl rfl Tryd.isAgg29 Tryd.sizeOf29 hB483 ⟨_, _, _, rfl, h350, z351, zf353, nd354, hE485⟩
set_option maxHeartbeats 2000000 in
theorem W_spec_l2Without {W : World} {va0 : Value} {fa0 : List Nat} {a0 : (List Int)} (ha0 : Ro Rp.int W fa0 va0 a0) {a1 : Int} (ha1 : InI a1) {r : (List Int)} (hF : F_spec_l2Without a0 a1 = some r) :
    Calls Tryd.prog 60 [va0, .int .i64 a1].toArray W (Ret fun u w' => ∃ (b_u : Int), Ow Rp.int 2 true w' [] b_u u r ∧ Zn W b_u ∧ Ext W w') := by
  refine f_enter Tryd.func60 rfl Tryd.ntmps60 rfl ?_
  intro a ha
  replace ha : Fr 28 [(0, va0), (1, (.int .i64 a1))] a := ha
  have hE : Chg [] W W := Chg.refl _ _
  unfold F_spec_l2Without at hF
  refine wp_seq ?_; refine wp_region_lit ?_; refine op_g ha rfl (g_assign rfl) ?_; clear ha a; intro a ha; refine wpList_nil ?_; replace ha := ha.sub (σ' := [(0, va0), (1, (.int .i64 a1))]) ⟨rfl, rfl, trivial⟩; refine e_then ?_; refine wp_seq ?_; refine wp_region_lit ?_
  refine o_lit0 Rp.int ha rfl sl31 ?_; clear ha a; intro v1 w2 h3 hx4 a ha
  obtain ⟨b6, hb6⟩ : ∃ b : Int, b = W.heap.size := ⟨_, rfl⟩; rw [← hb6] at h3
  have q7 := zn_of hb6
  have q8 := Zn.upD q7 hE
  have hE9 := Ext.trans hE hx4
  refine op_g ha rfl (g_assign rfl) ?_; clear ha a; intro a ha; refine wpList_nil ?_; replace ha := ha.sub (σ' := [(0, va0), (1, (.int .i64 a1)), (5, v1)]) ⟨rfl, rfl, rfl, trivial⟩; refine e_then ?_; refine wp_seq ?_; refine wp_seq ?_; refine wp_region_lit ?_; refine op_g ha rfl (g_assign rfl) ?_; clear ha a; intro a ha; refine wpList_nil ?_; replace ha := ha.sub (σ' := [(0, va0), (1, (.int .i64 a1)), (5, v1), (6, (.int .i64 0))]) ⟨rfl, rfl, rfl, rfl, trivial⟩; refine e_then ?_; obtain ⟨o156, ho157, hK158⟩ := bnd_some hF
  obtain ⟨n159, hn160⟩ := lp_some ho157; clear ho157
  refine c_loop (fun a w => ∃ (l153 : (List Int)) (v154 : Value) (b155 : Int), Fr 28 [(5, v154)] a ∧ Chg [] W w ∧ Ow Rp.int 2 true w [] b155 v154 l153 ∧ Zn W b155 ∧ o156 = .inl l153) (fun n a w => ∃ (l81 : (List Int)) (i84 : Int) (v82 : Value) (b83 : Int), Fr 28 [(0, va0), (1, (.int .i64 a1)), (5, v82), (6, (.int .i64 i84))] a ∧ Chg [] W w ∧ InI i84 ∧ Ow Rp.int 2 true w [] b83 v82 l81 ∧ Zn W b83 ∧ lpN (fun s => F_spec_l2Without_l1 a0 a1 s.1 s.2) n (l81, i84) = some o156) n159 ⟨([] : (List Int)), 0, v1, b6, ha.sub ⟨rfl, rfl, rfl, rfl, trivial⟩, hE9, (show InI 0 from by decide), h3, q8, hn160⟩ ?_ ?_
  · rintro m164 a w77 ⟨l81, i84, v82, b83, ha, hE86, hI85, h79, z80, hF⟩
    cases m164 with
    | zero => exact (lpN_zero hF).elim
    | succ m164 =>
      obtain ⟨z163, hF, hN162⟩ := lpN_succ hF
      have hF : F_spec_l2Without_l1 a0 a1 l81 i84 = some z163 := hF; unfold F_spec_l2Without_l1 at hF
      refine wp_seq ?_; refine wp_seq ?_; refine wp_region_lit ?_; (iterate 2 refine op_g ha rfl (g_move rfl) ?_; clear ha a; intro a ha); refine op_g ha rfl (g_lenR sl31.und ha0 rfl) ?_; clear ha a; intro a ha; refine op_g ha rfl (g_lss rfl rfl) ?_; clear ha a; intro a ha; refine wpList_nil ?_; replace ha := ha.sub (σ' := [(0, va0), (1, (.int .i64 a1)), (5, v82), (6, (.int .i64 i84)), (11, (.bool (decide (i84 < (a0.length : Int)))))]) ⟨rfl, rfl, rfl, rfl, rfl, trivial⟩; refine e_then ?_; refine c_cond (i84 < (a0.length : Int)) ha rfl (decide_eq_true_iff) (fun hp165 => ?_) (fun hp165 => ?_)
      · replace hF := if_t hp165 hF
        refine wp_skip ?_; refine e_then ?_; refine wp_seq ?_; refine wp_block ?_; refine wp_seq ?_; refine wp_region_lit ?_; (iterate 2 refine op_g ha rfl (g_move rfl) ?_; clear ha a; intro a ha); obtain ⟨x166, g167, gx168, hF⟩ := idx_some hF
        obtain ⟨p169, cs170, f171, hf172, hpb173, hat174, hr175, hi176⟩ := ha0.at g167 gx168
        obtain ⟨rfl, hI177, rfl⟩ := hr175
        refine op_g ha rfl (hi176.gives sl31 rfl rfl) ?_; clear ha a; intro a ha; refine op_g ha rfl (g_load0 hE86 Tryd.isAgg2 rfl hat174.one) ?_; clear ha a; intro a ha; refine op_g ha rfl (g_move rfl) ?_; clear ha a; intro a ha; refine op_g ha rfl (g_neq rfl rfl) ?_; clear ha a; intro a ha; refine wpList_nil ?_; replace ha := ha.sub (σ' := [(0, va0), (1, (.int .i64 a1)), (5, v82), (6, (.int .i64 i84)), (19, (.bool (decide (x166 ≠ a1))))]) ⟨rfl, rfl, rfl, rfl, rfl, trivial⟩; refine e_then ?_; refine c_cond (x166 ≠ a1) ha rfl (decide_eq_true_iff) (fun hp178 => ?_) (fun hp178 => ?_)
        · replace hF := if_t hp178 hF
          refine wp_region_lit ?_; (iterate 3 refine op_g ha rfl (g_move rfl) ?_; clear ha a; intro a ha); obtain ⟨x179, g180, gx181, hF⟩ := idx_some hF
          obtain ⟨p182, cs183, f184, hf185, hpb186, hat187, hr188, hi189⟩ := ha0.at g180 gx181
          obtain ⟨rfl, hI190, rfl⟩ := hr188
          refine op_g ha rfl (hi189.gives sl31 rfl rfl) ?_; clear ha a; intro a ha; refine op_g ha rfl (g_load0 hE86 Tryd.isAgg2 rfl hat187.one) ?_; clear ha a; intro a ha
          refine o_lit1 (o := true) (y := x179) Rp.int ha rfl sl31 rfl rfl rfl ⟨rfl, hI190, rfl⟩ ?_; clear ha a; intro v191 w192 h193 hx194 a ha
          obtain ⟨b196, hb196⟩ : ∃ b : Int, b = w77.heap.size := ⟨_, rfl⟩; rw [← hb196] at h193
          have q197 := zn_of hb196
          have q198 := Nq.new h79.fpb q197
          have q199 := Nq.madeO q197 h79.blt
          have q200 := Zn.upD q197 hE86
          replace h79 := h79.ext hx194
          have hE201 := Ext.trans hE86 hx194
          obtain ⟨hl202, hF⟩ := app_some hF
          refine o_append ha rfl sl31 rfl rfl rfl h79 h193.src (Nq.nil _) hl202 ?_; clear ha a; intro v203 w204 b205 h206 hc207 hb208 a ha
          replace h206 : Ow Rp.int 2 true w204 [] b205 v203 _ := h206
          have q210 := Nq.appY q199 h193.fpb hb208
          have q211 := Nq.appX q198 (Nq.nil _) hb208 h193.blt
          have q212 := Zn.appD z80 hb208 hE201
          replace h193 := h193.nq hc207 q199
          have hE213 := Ext.then hE201 hc207 (Zn.bl z80)
          refine op_g ha rfl (g_assign rfl) ?_; clear ha a; intro a ha; refine wpList_nil ?_; replace ha := ha.sub (σ' := [(0, va0), (1, (.int .i64 a1)), (5, v203), (6, (.int .i64 i84))]) ⟨rfl, rfl, rfl, rfl, trivial⟩; refine e_blk ?_; refine e_then ?_; refine wp_region_lit ?_; refine op_g ha rfl (g_move rfl) ?_; clear ha a; intro a ha; obtain ⟨hI214, hF⟩ := ck_some hF; refine op_g ha rfl (g_add rfl rfl hI214) ?_; clear ha a; intro a ha; refine op_g ha rfl (g_assign rfl) ?_; clear ha a; intro a ha; refine wpList_nil ?_; replace ha := ha.sub (σ' := [(0, va0), (1, (.int .i64 a1)), (5, v203), (6, (.int .i64 (i84 + 1)))]) ⟨rfl, rfl, rfl, rfl, trivial⟩
          refine e_lq ?_; obtain rfl := Option.some.inj hF
          exact ⟨_, Nat.lt_succ_self _, (l81 ++ ([x179])), i84 + 1, v203, b205, ha.sub ⟨rfl, rfl, rfl, rfl, trivial⟩, hE213, hI214, h206, q212, hN162⟩
        replace hF := if_f hp178 hF; refine wp_skip ?_; refine e_blk ?_; refine e_then ?_; refine wp_region_lit ?_; refine op_g ha rfl (g_move rfl) ?_; clear ha a; intro a ha; obtain ⟨hI216, hF⟩ := ck_some hF; refine op_g ha rfl (g_add rfl rfl hI216) ?_; clear ha a; intro a ha; refine op_g ha rfl (g_assign rfl) ?_; clear ha a; intro a ha; refine wpList_nil ?_; replace ha := ha.sub (σ' := [(0, va0), (1, (.int .i64 a1)), (5, v82), (6, (.int .i64 (i84 + 1)))]) ⟨rfl, rfl, rfl, rfl, trivial⟩; refine e_lq ?_; obtain rfl := Option.some.inj hF
        exact ⟨_, Nat.lt_succ_self _, l81, i84 + 1, v82, b83, ha.sub ⟨rfl, rfl, rfl, rfl, trivial⟩, hE86, hI216, h79, z80, hN162⟩
      replace hF := if_f hp165 hF; refine wp_exit ?_; refine e_then_exit ?_; refine e_lq_eq ?_; obtain rfl := Option.some.inj hF
      exact ⟨l81, v82, b83, ha.sub ⟨rfl, trivial⟩, hE86, h79, z80, (LK_inr hN162).symm⟩
  rintro a w149 ⟨l153, v154, b155, ha, hE161, h151, z152, rfl⟩
  have hF : F_spec_l2Without_k2 l153 = some _ := hK158; clear hK158; unfold F_spec_l2Without_k2 at hF
  refine e_then ?_; refine wp_seq ?_; refine wp_region_lit ?_; refine op_g ha rfl (g_move rfl) ?_; clear ha a; intro a ha; refine op_g ha rfl (g_assign rfl) ?_; clear ha a; intro a ha; refine wpList_nil ?_; replace ha := ha.sub (σ' := [(4, v154)]) ⟨rfl, trivial⟩; refine e_then ?_; refine wp_ret ?_; obtain rfl := Option.some.inj hF
  exact f_ret1 ha rfl rfl ⟨_, h151, z152, hE161⟩
set_option maxHeartbeats 2000000 in
theorem W_spec_CutEdge {W : World} {va0_0 : Value} {fa0_0 : List Nat} {a0_0 : (List (List Int))} (ha0_0 : Ro (Rp.sl 2 Rp.int) W fa0_0 va0_0 a0_0) {a1 : Int} (ha1 : InI a1) {a2 : Int} (ha2 : InI a2) {r : ((List (List Int)) × Bool)} (hF : F_spec_CutEdge a0_0 a1 a2 = some r) :
    Calls Tryd.prog 22 [.agg #[va0_0], .int .i64 a1, .int .i64 a2].toArray W (Ret fun u w' => ∃ (u0 : Value) (u1 : Value) (u0_0 : Value) (b_u0_0 : Int) (fs_u0_0 : List Nat), u = .tuple #[u0, u1] ∧ u0 = .agg #[u0_0] ∧ Ow (Rp.sl 2 Rp.int) 31 true w' fs_u0_0 b_u0_0 u0_0 r.1 ∧ Zn W b_u0_0 ∧ (∀ k ∈ fs_u0_0, W.heap.size ≤ k) ∧ (bl b_u0_0 ++ fs_u0_0).Nodup ∧ u1 = .bool r.2 ∧ Ext W w') := by
  refine f_enter Tryd.func22 rfl Tryd.ntmps22 rfl ?_
  intro a ha
  replace ha : Fr 47 [(0, (.agg #[va0_0])), (1, (.int .i64 a1)), (2, (.int .i64 a2))] a := ha
  have hE : Chg [] W W := Chg.refl _ _
  unfold F_spec_CutEdge at hF
  refine wp_seq ?_; refine wp_region_lit ?_
  refine o_box ha rfl rfl rfl ?_; clear ha a; intro b1 w2 hB3 hx4 hlo5 a ha
  have q6 := Zn.one hlo5
  have q7 := Zn.upD q6 hE
  have hE8 := Ext.trans hE hx4
  refine o_alloc (cs := [(.slice none 0 0)]) ha rfl Tryd.zeroValue29 rfl ?_; clear ha a; intro b9 w10 hB11 hx12 hlo13 a ha
  have q14 := Zn.one hlo13
  have q15 := Nq.new hB3.fpb q14
  have q16 := Nq.made1 hlo13 hB3.bi
  have q17 := Zn.upD q14 hE8
  replace hB3 := hB3.ext hx12
  have hE18 := Ext.trans hE8 hx12
  refine op_g ha rfl (g_assign rfl) ?_; clear ha a; intro a ha; refine wpList_nil ?_; replace ha := ha.sub (σ' := [(1, (.int .i64 a1)), (2, (.int .i64 a2)), (3, (.pointer (some ⟨b1, 0, none⟩))), (6, (.pointer (some ⟨b9, 0, none⟩)))]) ⟨rfl, rfl, rfl, rfl, trivial⟩; refine e_then ?_; refine wp_seq ?_; refine wp_seq ?_; refine wp_region_lit ?_; refine op_g ha rfl (g_loadA (cs := [va0_0]) Tryd.isAgg29 Tryd.sizeOf29 rfl (by simp) hB3.all) ?_; clear ha a; intro a ha; (iterate 2 refine op_g ha rfl (g_move rfl) ?_; clear ha a; intro a ha); obtain ⟨x41, hc42, hF⟩ := cal_some hF
  refine o_call ha rfl rfl Tryd.call57 (W_spec_l2Pair (ha0_0.ext hE18) ha1 ha2 hc42) ?_; clear ha a; rintro v43 w44 ⟨rfl, hx45⟩ a ha
  replace hB3 := hB3.ext hx45
  replace hB11 := hB11.ext hx45
  have hE46 := Ext.trans hE18 hx45
  refine op_g ha rfl (g_not rfl) ?_; clear ha a; intro a ha; refine op_g ha rfl (g_move rfl) ?_; clear ha a; intro a ha
  by_cases hp47 : ¬ (x41 = true)
  · replace hF := if_t hp47 hF
    rw [show (!x41) = true from (n_iff (Iff.rfl)).2 hp47] at ha
    (iterate 5 refine op_unwant ha rfl (yields ha rfl rfl) rfl ?_; clear ha a; intro a ha); refine op_g ha rfl (g_pick rfl rfl) ?_; clear ha a; intro a ha; refine wpList_nil ?_; replace ha := ha.sub (σ' := [(1, (.int .i64 a1)), (2, (.int .i64 a2)), (3, (.pointer (some ⟨b1, 0, none⟩))), (6, (.pointer (some ⟨b9, 0, none⟩))), (20, (.bool true))]) ⟨rfl, rfl, rfl, rfl, rfl, trivial⟩; refine e_then ?_; refine c_true ha rfl ?_; refine wp_seq ?_; refine wp_region_lit ?_; refine op_g ha rfl (g_build (vs := []) (cells := #[(.slice none 0 0)]) rfl (by rfl)) ?_; clear ha a; intro a ha
    refine o_storeA (vs := [(.slice none 0 0)]) ha hB11 Tryd.sizeOf29 rfl rfl (by intro c hc; simp only [List.mem_cons, List.not_mem_nil, or_false] at hc; rcases hc with hc <;> subst hc <;> first | rfl | exact rfl) rfl ?_; intro w48 hB49 hc50
    replace hc50 := hc50.bl
    replace hB49 : Bx w48 b9 [(.slice none 0 0)] 29 := hB49
    replace hB3 := hB3.nq hc50 q15
    have hE51 := Ext.then hE46 hc50 (Zn.bl q17)
    refine op_g ha rfl (g_assign rfl) ?_; clear ha a; intro a ha; refine wpList_nil ?_; replace ha := ha.sub (σ' := [(6, (.pointer (some ⟨b9, 0, none⟩))), (7, (.bool false))]) ⟨rfl, rfl, trivial⟩; refine e_then ?_; refine wp_ret ?_; refine e_then_ret ?_; obtain rfl := Option.some.inj hF
    exact f_retC2 (cs := [(.slice none 0 0)]) ha rfl rfl Tryd.isAgg29 Tryd.sizeOf29 hB49 rfl ⟨_, _, _, -1, [], rfl, rfl, (Ow.nil (by decide)), (.inl (by decide)), (zf_nil _), (bl_nodup _), rfl, hE51⟩
  replace hF := if_f hp47 hF
  rw [show (!x41) = false from b_false (n_iff (Iff.rfl)) hp47] at ha
  refine op_want (yields ha rfl rfl) ?_; refine op_g ha rfl (g_loadA (cs := [va0_0]) Tryd.isAgg29 Tryd.sizeOf29 rfl (by simp) hB3.all) ?_; clear ha a; intro a ha; refine op_want (yields ha rfl rfl) ?_; refine op_g ha rfl (g_move rfl) ?_; clear ha a; intro a ha; refine op_want (yields ha rfl rfl) ?_; refine op_g ha rfl (g_move rfl) ?_; clear ha a; intro a ha; refine op_want (yields ha rfl rfl) ?_; obtain ⟨x52, hc53, hF⟩ := cal_some hF
  refine o_call ha rfl rfl Tryd.call58 (W_spec_l1Edge (ha0_0.ext hE46) ha1 ha2 hc53) ?_; clear ha a; rintro v54 w55 ⟨rfl, hx56⟩ a ha
  replace hB3 := hB3.ext hx56
  replace hB11 := hB11.ext hx56
  have hE57 := Ext.trans hE46 hx56
  refine op_want (yields ha rfl rfl) ?_; refine op_g ha rfl (g_not rfl) ?_; clear ha a; intro a ha; refine op_g ha rfl (g_pick rfl rfl) ?_; clear ha a; intro a ha; refine wpList_nil ?_; replace ha := ha.sub (σ' := [(1, (.int .i64 a1)), (2, (.int .i64 a2)), (3, (.pointer (some ⟨b1, 0, none⟩))), (6, (.pointer (some ⟨b9, 0, none⟩))), (20, (.bool (!x52)))]) ⟨rfl, rfl, rfl, rfl, rfl, trivial⟩; refine e_then ?_; refine c_cond (¬ (x52 = true)) ha rfl (n_iff (Iff.rfl)) (fun hp58 => ?_) (fun hp58 => ?_)
  · replace hF := if_t hp58 hF
    refine wp_seq ?_; refine wp_region_lit ?_; refine op_g ha rfl (g_build (vs := []) (cells := #[(.slice none 0 0)]) rfl (by rfl)) ?_; clear ha a; intro a ha
    refine o_storeA (vs := [(.slice none 0 0)]) ha hB11 Tryd.sizeOf29 rfl rfl (by intro c hc; simp only [List.mem_cons, List.not_mem_nil, or_false] at hc; rcases hc with hc <;> subst hc <;> first | rfl | exact rfl) rfl ?_; intro w59 hB60 hc61
    replace hc61 := hc61.bl
    replace hB60 : Bx w59 b9 [(.slice none 0 0)] 29 := hB60
    replace hB3 := hB3.nq hc61 q15
    have hE62 := Ext.then hE57 hc61 (Zn.bl q17)
    refine op_g ha rfl (g_assign rfl) ?_; clear ha a; intro a ha; refine wpList_nil ?_; replace ha := ha.sub (σ' := [(6, (.pointer (some ⟨b9, 0, none⟩))), (7, (.bool false))]) ⟨rfl, rfl, trivial⟩; refine e_then ?_; refine wp_ret ?_; refine e_then_ret ?_; obtain rfl := Option.some.inj hF
    exact f_retC2 (cs := [(.slice none 0 0)]) ha rfl rfl Tryd.isAgg29 Tryd.sizeOf29 hB60 rfl ⟨_, _, _, -1, [], rfl, rfl, (Ow.nil (by decide)), (.inl (by decide)), (zf_nil _), (bl_nodup _), rfl, hE62⟩
  replace hF := if_f hp58 hF; refine wp_skip ?_; refine e_then ?_; refine wp_seq ?_; refine wp_region_lit ?_; refine op_g ha rfl (g_loadA (cs := [va0_0]) Tryd.isAgg29 Tryd.sizeOf29 rfl (by simp) hB3.all) ?_; clear ha a; intro a ha; obtain ⟨x63, hc64, hF⟩ := cal_some hF
  refine o_call ha rfl rfl Tryd.call59 (W_spec_l1CopyGraph (ha0_0.ext hE57) hc64) ?_; clear ha a; rintro v65 w66 ⟨u68, b69, fs73, rfl, h70, z71, zf74, nd75, hx67⟩ a ha
  have q76 := Nq.new hB3.fpb z71
  have q77 := Nq.madeF z71 zf74 hB3.bi
  have q78 := Nq.new hB11.fpb z71
  have q79 := Nq.madeF z71 zf74 hB11.bi
  have q80 := Nf.new hB3.fpb zf74
  have q81 := Nf.new hB11.fpb zf74
  replace hB3 := hB3.ext hx67
  replace hB11 := hB11.ext hx67
  have hE82 := Ext.trans hE57 hx67
  have q83 := Zn.upD z71 hE57
  have q84 := zf_up zf74 hE57
  refine o_alloc (cs := [(.slice none 0 0)]) ha rfl Tryd.zeroValue29 rfl ?_; clear ha a; intro b85 w86 hB87 hx88 hlo89 a ha
  have q90 := Zn.one hlo89
  have q91 := Nq.new hB3.fpb q90
  have q92 := Nq.made1 hlo89 hB3.bi
  have q93 := Nq.new hB11.fpb q90
  have q94 := Nq.made1 hlo89 hB11.bi
  have q95 := Nq.new h70.fpb q90
  have q96 := Nq.made1 hlo89 h70.blt
  have q97 := Zn.upD q90 hE82
  replace hB3 := hB3.ext hx88
  replace hB11 := hB11.ext hx88
  replace h70 := h70.ext hx88
  have hE98 := Ext.trans hE82 hx88
  refine o_storeA (vs := [u68]) ha hB87 Tryd.sizeOf29 rfl rfl (by intro c hc; simp only [List.mem_cons, List.not_mem_nil, or_false] at hc; rcases hc with hc <;> subst hc <;> first | rfl | exact h70.oneC) rfl ?_; intro w99 hB100 hc101
  replace hc101 := hc101.bl
  replace hB100 : Bx w99 b85 [u68] 29 := hB100
  replace hB3 := hB3.nq hc101 q91
  replace hB11 := hB11.nq hc101 q93
  replace h70 := h70.nq hc101 q95
  have hE102 := Ext.then hE98 hc101 (Zn.bl q97)
  refine wpList_nil ?_; replace ha := ha.sub (σ' := [(1, (.int .i64 a1)), (2, (.int .i64 a2)), (6, (.pointer (some ⟨b9, 0, none⟩))), (8, (.pointer (some ⟨b85, 0, none⟩)))]) ⟨rfl, rfl, rfl, rfl, trivial⟩; refine e_then ?_; refine wp_seq ?_; refine d_region [0, 1, 2, 3, 4, 5, 6, 7, 8, 9, 10] hmix ?_; refine u_g 0 rfl (by kernel_rfl) (want0 _) ha rfl (g_field0 st29_0 rfl) ?_; clear ha a; intro a ha; refine u_g 1 rfl (by kernel_rfl) (want0 _) ha rfl (g_load Tryd.isAgg27 rfl (hB100.cell rfl)) ?_; clear ha a; intro a ha; refine u_g 2 rfl (by kernel_rfl) (want0 _) ha rfl (g_move rfl) ?_; clear ha a; intro a ha
  refine u_g 3 rfl (by kernel_rfl) (want0 _) ha rfl (g_field0 st29_0 rfl) ?_; clear ha a; intro a ha; refine u_g 4 rfl (by kernel_rfl) (want0 _) ha rfl (g_load Tryd.isAgg27 rfl (hB100.cell rfl)) ?_; clear ha a; intro a ha; refine u_g 5 rfl (by kernel_rfl) (want0 _) ha rfl (g_move rfl) ?_; clear ha a; intro a ha; obtain ⟨x103, g104, gx105, hF⟩ := idx_some hF
  obtain ⟨p106, cs107, f108, hf109, hpb110, hat111, hr112, hi113⟩ := h70.at g104 gx105
  replace hr112 := (Rp.sl 2 Rp.int).weak hr112
  obtain ⟨v114, rfl, h115⟩ := hr112
  have h115 : Ro Rp.int w99 f108 v114 x103 := h115
  have q117 := Nq.mono q79 (fun k hk => List.mem_append_right (bl b69) (hf109 k hk))
  have q118 := Nq.mono q95 (fun k hk => List.mem_append_right (bl b69) (hf109 k hk))
  have q119 := Nq.mono (Ow.ne h70) hf109
  refine u_g 6 rfl (by kernel_rfl) (want0 _) ha rfl (hi113.gives sl27 rfl rfl) ?_; clear ha a; intro a ha; refine u_g 7 rfl (by kernel_rfl) (want0 _) ha rfl (g_load Tryd.isAgg31 rfl hat111.one) ?_; clear ha a; intro a ha; refine u_g 8 rfl (by kernel_rfl) (want0 _) ha rfl (g_move rfl) ?_; clear ha a; intro a ha
  refine u_only 9 rfl (by kernel_rfl) ?_; intro w120 hx121
  replace hB11 := hB11.ext hx121
  replace h70 := h70.ext hx121
  replace hB100 := hB100.ext hx121
  replace h115 := h115.ext hx121
  have hE122 := Ext.trans hE102 hx121
  obtain ⟨x123, hc124, hF⟩ := cal_some hF
  refine o_call ha rfl rfl Tryd.call60 (W_spec_l2Without h115 ha2 hc124) ?_; clear ha a; rintro v125 w126 ⟨b128, h129, z130, hx127⟩ a ha
  have q132 := Nq.new hB11.fpb z130
  have q133 := Nq.madeO z130 hB11.bi
  have q134 := Nq.new h70.fpb z130
  have q135 := Nq.madeO z130 h70.blt
  have q136 := Nq.new hB100.fpb z130
  have q137 := Nq.madeO z130 hB100.bi
  have q138 := Nq.new h115.bnd z130
  have q139 := Nf.old z130 (zf_nil _) h70.bnd
  replace hB11 := hB11.ext hx127
  replace h70 := h70.ext hx127
  replace hB100 := hB100.ext hx127
  replace h115 := h115.ext hx127
  have hE140 := Ext.trans hE122 hx127
  have q141 := Zn.upD z130 hE122
  refine wpList_nil (e_sq ?_)
  refine ⟨fun _ => hx127, ?_⟩
  obtain ⟨x142, g143, gx144, hF⟩ := idx_some hF
  obtain ⟨p145, cs146, f147, hf148, hpb149, hat150, hr151, hi152⟩ := h70.at g143 gx144
  replace hr151 := (Rp.sl 2 Rp.int).weak hr151
  obtain ⟨v153, rfl, h154⟩ := hr151
  have h154 : Ro Rp.int w126 f147 v153 x142 := h154
  have q156 := Nq.mono q79 (fun k hk => List.mem_append_right (bl b69) (hf148 k hk))
  have q157 := Nq.mono q95 (fun k hk => List.mem_append_right (bl b69) (hf148 k hk))
  have q158 := Nq.mono q134 (fun k hk => List.mem_append_right (bl b69) (hf148 k hk))
  have q159 := Nq.mono (Ow.ne h70) hf148
  refine u_g 10 rfl (by kernel_rfl) (want0 _) ha rfl (hi152.gives sl27 rfl rfl) ?_; clear ha a; intro a ha
  refine u_only 11 rfl (by kernel_rfl) ?_; intro w160 hx161
  replace hB11 := hB11.ext hx161
  replace h70 := h70.ext hx161
  replace hB100 := hB100.ext hx161
  replace h115 := h115.ext hx161
  replace h129 := h129.ext hx161
  replace h154 := h154.ext hx161
  have hE162 := Ext.trans hE140 hx161
  refine o_storeE (f := (bl b128 ++ [])) (q := x123) ha Tryd.sizeOf31 rfl rfl h129.cells h70 hi152 (Rp.mkO h129) q135 ?_; intro w163 fs164 h165 hc166 hs167
  have q168 := zf_mv q141 (zf_nil _)
  have q169 := dj_of q134
  have q170 := zf_set hs167 q84 q168
  have q171 := Subst.nd hs167 nd75 (bl_nodup b128) q169
  have q172 := Nq.setX q79 q133 hs167.mem
  have q173 := Nq.setX q95 q137 hs167.mem
  replace hB11 := hB11.nq hc166 q78
  replace hB100 := hB100.nq hc166 q96
  replace h115 := h115.nq hc166 q119
  replace h154 := h154.nq hc166 q159
  have hE174 := Ext.then hE162 hc166 (Zn.bl q83)
  refine wpList_nil (e_sq ?_)
  refine ⟨fun h => absurd h (by decide), ?_⟩
  refine u_done (by kernel_rfl) ?_; intro w175 hx176
  replace hB11 := hB11.ext hx176
  replace h165 := h165.ext hx176
  replace hB100 := hB100.ext hx176
  replace h115 := h115.ext hx176
  replace h154 := h154.ext hx176
  have hE177 := Ext.trans hE174 hx176
  replace ha := ha.sub (σ' := [(1, (.int .i64 a1)), (2, (.int .i64 a2)), (6, (.pointer (some ⟨b9, 0, none⟩))), (8, (.pointer (some ⟨b85, 0, none⟩)))]) ⟨rfl, rfl, rfl, rfl, trivial⟩; refine e_then ?_; refine wp_seq ?_; refine d_region [0, 1, 2, 3, 4, 5, 6, 7, 8, 9, 10] hmix ?_; refine u_g 0 rfl (by kernel_rfl) (want0 _) ha rfl (g_field0 st29_0 rfl) ?_; clear ha a; intro a ha; refine u_g 1 rfl (by kernel_rfl) (want0 _) ha rfl (g_load Tryd.isAgg27 rfl (hB100.cell rfl)) ?_; clear ha a; intro a ha; refine u_g 2 rfl (by kernel_rfl) (want0 _) ha rfl (g_move rfl) ?_; clear ha a; intro a ha; refine u_g 3 rfl (by kernel_rfl) (want0 _) ha rfl (g_field0 st29_0 rfl) ?_; clear ha a; intro a ha
  refine u_g 4 rfl (by kernel_rfl) (want0 _) ha rfl (g_load Tryd.isAgg27 rfl (hB100.cell rfl)) ?_; clear ha a; intro a ha; refine u_g 5 rfl (by kernel_rfl) (want0 _) ha rfl (g_move rfl) ?_; clear ha a; intro a ha; obtain ⟨x178, g179, gx180, hF⟩ := idx_some hF
  obtain ⟨p181, cs182, f183, hf184, hpb185, hat186, hr187, hi188⟩ := h165.at g179 gx180
  replace hr187 := (Rp.sl 2 Rp.int).weak hr187
  obtain ⟨v189, rfl, h190⟩ := hr187
  have h190 : Ro Rp.int w175 f183 v189 x178 := h190
  have q192 := Nq.mono q172 (fun k hk => List.mem_append_right (bl b69) (hf184 k hk))
  have q193 := Nq.mono q173 (fun k hk => List.mem_append_right (bl b69) (hf184 k hk))
  have q194 := Nq.mono (Ow.ne h165) hf184
  refine u_g 6 rfl (by kernel_rfl) (want0 _) ha rfl (hi188.gives sl27 rfl rfl) ?_; clear ha a; intro a ha; refine u_g 7 rfl (by kernel_rfl) (want0 _) ha rfl (g_load Tryd.isAgg31 rfl hat186.one) ?_; clear ha a; intro a ha; refine u_g 8 rfl (by kernel_rfl) (want0 _) ha rfl (g_move rfl) ?_; clear ha a; intro a ha
  refine u_only 9 rfl (by kernel_rfl) ?_; intro w195 hx196
  replace hB11 := hB11.ext hx196
  replace h165 := h165.ext hx196
  replace hB100 := hB100.ext hx196
  replace h190 := h190.ext hx196
  have hE197 := Ext.trans hE177 hx196
  obtain ⟨x198, hc199, hF⟩ := cal_some hF
  refine o_call ha rfl rfl Tryd.call60 (W_spec_l2Without h190 ha1 hc199) ?_; clear ha a; rintro v200 w201 ⟨b203, h204, z205, hx202⟩ a ha
  have q207 := Nq.new hB11.fpb z205
  have q208 := Nq.madeO z205 hB11.bi
  have q209 := Nq.new h165.fpb z205
  have q210 := Nq.madeO z205 h165.blt
  have q211 := Nq.new hB100.fpb z205
  have q212 := Nq.madeO z205 hB100.bi
  have q213 := Nq.new h190.bnd z205
  have q214 := Nf.old z205 (zf_nil _) h165.bnd
  replace hB11 := hB11.ext hx202
  replace h165 := h165.ext hx202
  replace hB100 := hB100.ext hx202
  replace h190 := h190.ext hx202
  have hE215 := Ext.trans hE197 hx202
  have q216 := Zn.upD z205 hE197
  refine wpList_nil (e_sq ?_)
  refine ⟨fun _ => hx202, ?_⟩
  obtain ⟨x217, g218, gx219, hF⟩ := idx_some hF
  obtain ⟨p220, cs221, f222, hf223, hpb224, hat225, hr226, hi227⟩ := h165.at g218 gx219
  replace hr226 := (Rp.sl 2 Rp.int).weak hr226
  obtain ⟨v228, rfl, h229⟩ := hr226
  have h229 : Ro Rp.int w201 f222 v228 x217 := h229
  have q231 := Nq.mono q172 (fun k hk => List.mem_append_right (bl b69) (hf223 k hk))
  have q232 := Nq.mono q173 (fun k hk => List.mem_append_right (bl b69) (hf223 k hk))
  have q233 := Nq.mono q209 (fun k hk => List.mem_append_right (bl b69) (hf223 k hk))
  have q234 := Nq.mono (Ow.ne h165) hf223
  refine u_g 10 rfl (by kernel_rfl) (want0 _) ha rfl (hi227.gives sl27 rfl rfl) ?_; clear ha a; intro a ha
  refine u_only 11 rfl (by kernel_rfl) ?_; intro w235 hx236
  replace hB11 := hB11.ext hx236
  replace h165 := h165.ext hx236
  replace hB100 := hB100.ext hx236
  replace h190 := h190.ext hx236
  replace h204 := h204.ext hx236
  replace h229 := h229.ext hx236
  have hE237 := Ext.trans hE215 hx236
  refine o_storeE (f := (bl b203 ++ [])) (q := x198) ha Tryd.sizeOf31 rfl rfl h204.cells h165 hi227 (Rp.mkO h204) q210 ?_; intro w238 fs239 h240 hc241 hs242
  have q243 := zf_mv q216 (zf_nil _)
  have q244 := dj_of q209
  have q245 := zf_set hs242 q170 q243
  have q246 := Subst.nd hs242 q171 (bl_nodup b203) q244
  have q247 := Nq.setX q172 q208 hs242.mem
  have q248 := Nq.setX q173 q212 hs242.mem
  replace hB11 := hB11.nq hc241 q78
  replace hB100 := hB100.nq hc241 q96
  replace h190 := h190.nq hc241 q194
  replace h229 := h229.nq hc241 q234
  have hE249 := Ext.then hE237 hc241 (Zn.bl q83)
  refine wpList_nil (e_sq ?_)
  refine ⟨fun h => absurd h (by decide), ?_⟩
  refine u_done (by kernel_rfl) ?_; intro w250 hx251
  replace hB11 := hB11.ext hx251
  replace h240 := h240.ext hx251
  replace hB100 := hB100.ext hx251
  replace h190 := h190.ext hx251
  replace h229 := h229.ext hx251
  have hE252 := Ext.trans hE249 hx251
  replace ha := ha.sub (σ' := [(6, (.pointer (some ⟨b9, 0, none⟩))), (8, (.pointer (some ⟨b85, 0, none⟩)))]) ⟨rfl, rfl, trivial⟩; refine e_then ?_; refine wp_seq ?_; refine wp_region_lit ?_; refine op_g ha rfl (g_loadA (cs := [u68]) Tryd.isAgg29 Tryd.sizeOf29 rfl (by simp) hB100.all) ?_; clear ha a; intro a ha
  refine o_storeA (vs := [u68]) ha hB11 Tryd.sizeOf29 rfl rfl (by intro c hc; simp only [List.mem_cons, List.not_mem_nil, or_false] at hc; rcases hc with hc <;> subst hc <;> first | rfl | exact h240.oneC) rfl ?_; intro w253 hB254 hc255
  replace hc255 := hc255.bl
  replace hB254 : Bx w253 b9 [u68] 29 := hB254
  replace h240 := h240.nq hc255 q247
  replace hB100 := hB100.nq hc255 q94
  have hE256 := Ext.then hE252 hc255 (Zn.bl q17)
  refine op_g ha rfl (g_assign rfl) ?_; clear ha a; intro a ha; refine wpList_nil ?_; replace ha := ha.sub (σ' := [(6, (.pointer (some ⟨b9, 0, none⟩))), (7, (.bool true))]) ⟨rfl, rfl, trivial⟩; refine e_then ?_; refine wp_ret ?_; obtain rfl := Option.some.inj hF
  exact f_retC2 (cs := [u68]) ha rfl rfl Tryd.isAgg29 Tryd.sizeOf29 hB254 rfl ⟨_, _, _, _, _, rfl, rfl, h240, q83, q245, q246, rfl, hE256⟩
set_option maxHeartbeats 2000000 in
theorem W_laws_w6Has {W : World} {va0 : Value} {fa0 : List Nat} {a0 : (List Int)} (ha0 : Ro Rp.int W fa0 va0 a0) {a1 : Int} (ha1 : InI a1) {r : Bool} (hF : F_laws_w6Has a0 a1 = some r) :
    Calls Tryd.prog 61 [va0, .int .i64 a1].toArray W (Ret fun u w' => u = .bool r ∧ Ext W w') := by
  refine f_enter Tryd.func61 rfl Tryd.ntmps61 rfl ?_
  intro a ha
  replace ha : Fr 18 [(0, va0), (1, (.int .i64 a1))] a := ha
  have hE : Chg [] W W := Chg.refl _ _
  unfold F_laws_w6Has at hF
  refine wp_seq ?_; refine wp_region_lit ?_; refine op_g ha rfl (g_assign rfl) ?_; clear ha a; intro a ha; refine wpList_nil ?_; replace ha := ha.sub (σ' := [(0, va0), (1, (.int .i64 a1))]) ⟨rfl, rfl, trivial⟩; refine e_then ?_; refine wp_seq ?_; refine wp_seq ?_; refine wp_region_lit ?_; refine op_g ha rfl (g_assign rfl) ?_; clear ha a; intro a ha; refine wpList_nil ?_; refine e_then ?_; obtain ⟨o46, ho47, hK48⟩ := bnd_some hF
  obtain ⟨n49, hn50⟩ := lp_some ho47; clear ho47
  refine c_loop (fun a w => Fr 18 [] a ∧ Chg [] W w ∧ o46 = .inl ()) (fun n a w => ∃ (i23 : Int), Fr 18 [(0, va0), (1, (.int .i64 a1)), (5, (.int .i64 i23))] a ∧ Chg [] W w ∧ InI i23 ∧ lpN (fun s => F_laws_w6Has_l1 a0 a1 s) n i23 = some o46) n49 ⟨0, ha.sub ⟨rfl, rfl, rfl, trivial⟩, hE, (show InI 0 from by decide), hn50⟩ ?_ ?_
  · rintro m54 a w22 ⟨i23, ha, hE25, hI24, hF⟩
    cases m54 with
    | zero => exact (lpN_zero hF).elim
    | succ m54 =>
      obtain ⟨z53, hF, hN52⟩ := lpN_succ hF
      have hF : F_laws_w6Has_l1 a0 a1 i23 = some z53 := hF; unfold F_laws_w6Has_l1 at hF
      refine wp_seq ?_; refine wp_seq ?_; refine wp_region_lit ?_; (iterate 2 refine op_g ha rfl (g_move rfl) ?_; clear ha a; intro a ha); refine op_g ha rfl (g_lenR sl31.und ha0 rfl) ?_; clear ha a; intro a ha; refine op_g ha rfl (g_lss rfl rfl) ?_; clear ha a; intro a ha; refine wpList_nil ?_; replace ha := ha.sub (σ' := [(0, va0), (1, (.int .i64 a1)), (5, (.int .i64 i23)), (9, (.bool (decide (i23 < (a0.length : Int)))))]) ⟨rfl, rfl, rfl, rfl, trivial⟩; refine e_then ?_; refine c_cond (i23 < (a0.length : Int)) ha rfl (decide_eq_true_iff) (fun hp55 => ?_) (fun hp55 => ?_)
      · replace hF := if_t hp55 hF
        refine wp_skip ?_; refine e_then ?_; refine wp_seq ?_; refine wp_block ?_; refine wp_seq ?_; refine wp_region_lit ?_; (iterate 2 refine op_g ha rfl (g_move rfl) ?_; clear ha a; intro a ha); obtain ⟨x56, g57, gx58, hF⟩ := idx_some hF
        obtain ⟨p59, cs60, f61, hf62, hpb63, hat64, hr65, hi66⟩ := ha0.at g57 gx58
        obtain ⟨rfl, hI67, rfl⟩ := hr65
        refine op_g ha rfl (hi66.gives sl31 rfl rfl) ?_; clear ha a; intro a ha; refine op_g ha rfl (g_load0 hE25 Tryd.isAgg2 rfl hat64.one) ?_; clear ha a; intro a ha; refine op_g ha rfl (g_move rfl) ?_; clear ha a; intro a ha; refine op_g ha rfl (g_eql rfl rfl) ?_; clear ha a; intro a ha; refine wpList_nil ?_; replace ha := ha.sub (σ' := [(0, va0), (1, (.int .i64 a1)), (5, (.int .i64 i23)), (17, (.bool (decide (x56 = a1))))]) ⟨rfl, rfl, rfl, rfl, trivial⟩; refine e_then ?_; refine c_cond (x56 = a1) ha rfl (decide_eq_true_iff) (fun hp68 => ?_) (fun hp68 => ?_)
        · replace hF := if_t hp68 hF
          refine wp_seq ?_; refine wp_region_lit ?_; refine op_g ha rfl (g_assign rfl) ?_; clear ha a; intro a ha; refine wpList_nil ?_; replace ha := ha.sub (σ' := [(4, (.bool true))]) ⟨rfl, trivial⟩; refine e_then ?_; refine wp_ret ?_; refine e_blk_ret ?_; refine e_then_ret ?_; refine e_lq_ret ?_; refine e_then_ret ?_; obtain rfl := Option.some.inj hF
          have e69 := LK_inr hN52; subst e69
          have e70 := BK_inr hK48; subst e70
          exact f_ret1 ha rfl rfl ⟨rfl, hE25⟩
        replace hF := if_f hp68 hF; refine wp_skip ?_; refine e_blk ?_; refine e_then ?_; refine wp_region_lit ?_; refine op_g ha rfl (g_move rfl) ?_; clear ha a; intro a ha; obtain ⟨hI71, hF⟩ := ck_some hF; refine op_g ha rfl (g_add rfl rfl hI71) ?_; clear ha a; intro a ha; refine op_g ha rfl (g_assign rfl) ?_; clear ha a; intro a ha; refine wpList_nil ?_; replace ha := ha.sub (σ' := [(0, va0), (1, (.int .i64 a1)), (5, (.int .i64 (i23 + 1)))]) ⟨rfl, rfl, rfl, trivial⟩; refine e_lq ?_; obtain rfl := Option.some.inj hF
        exact ⟨_, Nat.lt_succ_self _, i23 + 1, ha.sub ⟨rfl, rfl, rfl, trivial⟩, hE25, hI71, hN52⟩
      replace hF := if_f hp55 hF; refine wp_exit ?_; refine e_then_exit ?_; refine e_lq_eq ?_; obtain rfl := Option.some.inj hF
      exact ⟨ha.sub trivial, hE25, (LK_inr hN52).symm⟩
  rintro a w45 ⟨ha, hE51, rfl⟩
  have hF : F_laws_w6Has_k2 = some _ := hK48; clear hK48; unfold F_laws_w6Has_k2 at hF
  refine e_then ?_; refine wp_seq ?_; refine wp_region_lit ?_; refine op_g ha rfl (g_assign rfl) ?_; clear ha a; intro a ha; refine wpList_nil ?_; refine e_then ?_; refine wp_ret ?_; obtain rfl := Option.some.inj hF
  exact f_ret1 ha rfl rfl ⟨rfl, hE51⟩
set_option maxHeartbeats 2000000 in
theorem W_laws_w6Rest {W : World} {va0_0 : Value} {fa0_0 : List Nat} {a0_0 : (List (List Int))} (ha0_0 : Ro (Rp.sl 2 Rp.int) W fa0_0 va0_0 a0_0) {va1 : Value} {fa1 : List Nat} {a1 : (List Int)} (ha1 : Ro Rp.int W fa1 va1 a1) {r : (List Int)} (hF : F_laws_w6Rest a0_0 a1 = some r) :
    Calls Tryd.prog 23 [.agg #[va0_0], va1].toArray W (Ret fun u w' => ∃ (b_u : Int), Ow Rp.int 2 true w' [] b_u u r ∧ Zn W b_u ∧ Ext W w') := by
  refine f_enter Tryd.func23 rfl Tryd.ntmps23 rfl ?_
  intro a ha
  replace ha : Fr 24 [(0, (.agg #[va0_0])), (1, va1)] a := ha
  have hE : Chg [] W W := Chg.refl _ _
  unfold F_laws_w6Rest at hF
  refine wp_seq ?_; refine wp_region_lit ?_
  refine o_box ha rfl rfl rfl ?_; clear ha a; intro b1 w2 hB3 hx4 hlo5 a ha
  have q6 := Zn.one hlo5
  have q7 := Zn.upD q6 hE
  have hE8 := Ext.trans hE hx4
  refine op_g ha rfl (g_assign rfl) ?_; clear ha a; intro a ha; refine wpList_nil ?_; replace ha := ha.sub (σ' := [(1, va1), (2, (.pointer (some ⟨b1, 0, none⟩)))]) ⟨rfl, rfl, trivial⟩; refine e_then ?_; refine wp_seq ?_; refine wp_region_lit ?_
  refine o_lit0 Rp.int ha rfl sl31 ?_; clear ha a; intro v9 w10 h11 hx12 a ha
  obtain ⟨b14, hb14⟩ : ∃ b : Int, b = w2.heap.size := ⟨_, rfl⟩; rw [← hb14] at h11
  have q15 := zn_of hb14
  have q16 := Nq.new hB3.fpb q15
  have q17 := Nq.madeO q15 hB3.bi
  have q18 := Zn.upD q15 hE8
  replace hB3 := hB3.ext hx12
  have hE19 := Ext.trans hE8 hx12
  refine op_g ha rfl (g_assign rfl) ?_; clear ha a; intro a ha; refine wpList_nil ?_; replace ha := ha.sub (σ' := [(1, va1), (2, (.pointer (some ⟨b1, 0, none⟩))), (5, v9)]) ⟨rfl, rfl, rfl, trivial⟩; refine e_then ?_; refine wp_seq ?_; refine wp_seq ?_; refine wp_region_lit ?_; refine op_g ha rfl (g_assign rfl) ?_; clear ha a; intro a ha; refine wpList_nil ?_; replace ha := ha.sub (σ' := [(1, va1), (2, (.pointer (some ⟨b1, 0, none⟩))), (5, v9), (6, (.int .i64 0))]) ⟨rfl, rfl, rfl, rfl, trivial⟩; refine e_then ?_; obtain ⟨o154, ho155, hK156⟩ := bnd_some hF
  obtain ⟨n157, hn158⟩ := lp_some ho155; clear ho155
  refine c_loop (fun a w => ∃ (l151 : (List Int)) (v152 : Value) (b153 : Int), Fr 24 [(5, v152)] a ∧ Chg [] W w ∧ Ow Rp.int 2 true w [] b153 v152 l151 ∧ Zn W b153 ∧ o154 = .inl l151) (fun n a w => ∃ (l87 : (List Int)) (i90 : Int) (v88 : Value) (b89 : Int), Fr 24 [(1, va1), (2, (.pointer (some ⟨b1, 0, none⟩))), (5, v88), (6, (.int .i64 i90))] a ∧ Chg [] W w ∧ InI i90 ∧ Bx w b1 [va0_0] 29 ∧ Zn W (b1 : Int) ∧ Ow Rp.int 2 true w [] b89 v88 l87 ∧ Zn W b89 ∧ Nq ([b1]) b89 ∧ Nq (bl b89 ++ []) (b1 : Int) ∧ lpN (fun s => F_laws_w6Rest_l1 a0_0 a1 s.1 s.2) n (l87, i90) = some o154) n157 ⟨([] : (List Int)), 0, v9, b14, ha.sub ⟨rfl, rfl, rfl, rfl, trivial⟩, hE19, (show InI 0 from by decide), hB3, q7, h11, q18, q16, q17, hn158⟩ ?_ ?_
  · rintro m162 a w81 ⟨l87, i90, v88, b89, ha, hE94, hI91, hB82, z83, h85, z86, q92, q93, hF⟩
    cases m162 with
    | zero => exact (lpN_zero hF).elim
    | succ m162 =>
      obtain ⟨z161, hF, hN160⟩ := lpN_succ hF
      have hF : F_laws_w6Rest_l1 a0_0 a1 l87 i90 = some z161 := hF; unfold F_laws_w6Rest_l1 at hF
      refine wp_seq ?_; refine wp_seq ?_; refine wp_region_lit ?_; refine op_g ha rfl (g_move rfl) ?_; clear ha a; intro a ha; refine op_g ha rfl (g_field0 st29_0 rfl) ?_; clear ha a; intro a ha; refine op_g ha rfl (g_load Tryd.isAgg27 rfl (hB82.cell rfl)) ?_; clear ha a; intro a ha; refine op_g ha rfl (g_lenR sl27.und ha0_0 rfl) ?_; clear ha a; intro a ha; refine op_g ha rfl (g_lss rfl rfl) ?_; clear ha a; intro a ha; refine wpList_nil ?_; replace ha := ha.sub (σ' := [(1, va1), (2, (.pointer (some ⟨b1, 0, none⟩))), (5, v88), (6, (.int .i64 i90)), (12, (.bool (decide (i90 < (a0_0.length : Int)))))]) ⟨rfl, rfl, rfl, rfl, rfl, trivial⟩
      refine e_then ?_; refine c_cond (i90 < (a0_0.length : Int)) ha rfl (decide_eq_true_iff) (fun hp163 => ?_) (fun hp163 => ?_)
      · replace hF := if_t hp163 hF
        refine wp_skip ?_; refine e_then ?_; refine wp_seq ?_; refine wp_block ?_; refine wp_seq ?_; refine wp_region_lit ?_; (iterate 2 refine op_g ha rfl (g_move rfl) ?_; clear ha a; intro a ha); obtain ⟨x164, hc165, hF⟩ := cal_some hF
        refine o_call ha rfl rfl Tryd.call61 (W_laws_w6Has (ha1.ext hE94) hI91 hc165) ?_; clear ha a; rintro v166 w167 ⟨rfl, hx168⟩ a ha
        replace hB82 := hB82.ext hx168
        replace h85 := h85.ext hx168
        have hE169 := Ext.trans hE94 hx168
        refine op_g ha rfl (g_not rfl) ?_; clear ha a; intro a ha; refine wpList_nil ?_; replace ha := ha.sub (σ' := [(1, va1), (2, (.pointer (some ⟨b1, 0, none⟩))), (5, v88), (6, (.int .i64 i90)), (18, (.bool (!x164)))]) ⟨rfl, rfl, rfl, rfl, rfl, trivial⟩; refine e_then ?_; refine c_cond (¬ (x164 = true)) ha rfl (n_iff (Iff.rfl)) (fun hp170 => ?_) (fun hp170 => ?_)
        · replace hF := if_t hp170 hF
          refine wp_region_lit ?_; (iterate 2 refine op_g ha rfl (g_move rfl) ?_; clear ha a; intro a ha)
          refine o_lit1 (o := true) (y := i90) Rp.int ha rfl sl31 rfl rfl rfl ⟨rfl, hI91, rfl⟩ ?_; clear ha a; intro v171 w172 h173 hx174 a ha
          obtain ⟨b176, hb176⟩ : ∃ b : Int, b = w167.heap.size := ⟨_, rfl⟩; rw [← hb176] at h173
          have q177 := zn_of hb176
          have q178 := Nq.new hB82.fpb q177
          have q179 := Nq.madeO q177 hB82.bi
          have q180 := Nq.new h85.fpb q177
          have q181 := Nq.madeO q177 h85.blt
          have q182 := Zn.upD q177 hE169
          replace hB82 := hB82.ext hx174
          replace h85 := h85.ext hx174
          have hE183 := Ext.trans hE169 hx174
          obtain ⟨hl184, hF⟩ := app_some hF
          refine o_append ha rfl sl31 rfl rfl rfl h85 h173.src (Nq.nil _) hl184 ?_; clear ha a; intro v185 w186 b187 h188 hc189 hb190 a ha
          replace h188 : Ow Rp.int 2 true w186 [] b187 v185 _ := h188
          have q192 := Nq.appY q92 hB82.fpb hb190
          have q193 := Nq.appX q93 (Nq.nil _) hb190 hB82.bi
          have q194 := Nq.appY q181 h173.fpb hb190
          have q195 := Nq.appX q180 (Nq.nil _) hb190 h173.blt
          have q196 := Zn.appD z86 hb190 hE183
          replace hB82 := hB82.nq hc189 q92
          replace h173 := h173.nq hc189 q181
          have hE197 := Ext.then hE183 hc189 (Zn.bl z86)
          refine op_g ha rfl (g_assign rfl) ?_; clear ha a; intro a ha; refine wpList_nil ?_; replace ha := ha.sub (σ' := [(1, va1), (2, (.pointer (some ⟨b1, 0, none⟩))), (5, v185), (6, (.int .i64 i90))]) ⟨rfl, rfl, rfl, rfl, trivial⟩; refine e_blk ?_; refine e_then ?_; refine wp_region_lit ?_; refine op_g ha rfl (g_move rfl) ?_; clear ha a; intro a ha; obtain ⟨hI198, hF⟩ := ck_some hF; refine op_g ha rfl (g_add rfl rfl hI198) ?_; clear ha a; intro a ha; refine op_g ha rfl (g_assign rfl) ?_; clear ha a; intro a ha; refine wpList_nil ?_; replace ha := ha.sub (σ' := [(1, va1), (2, (.pointer (some ⟨b1, 0, none⟩))), (5, v185), (6, (.int .i64 (i90 + 1)))]) ⟨rfl, rfl, rfl, rfl, trivial⟩
          refine e_lq ?_; obtain rfl := Option.some.inj hF
          exact ⟨_, Nat.lt_succ_self _, (l87 ++ ([i90])), i90 + 1, v185, b187, ha.sub ⟨rfl, rfl, rfl, rfl, trivial⟩, hE197, hI198, hB82, z83, h188, q196, q192, q193, hN160⟩
        replace hF := if_f hp170 hF; refine wp_skip ?_; refine e_blk ?_; refine e_then ?_; refine wp_region_lit ?_; refine op_g ha rfl (g_move rfl) ?_; clear ha a; intro a ha; obtain ⟨hI200, hF⟩ := ck_some hF; refine op_g ha rfl (g_add rfl rfl hI200) ?_; clear ha a; intro a ha; refine op_g ha rfl (g_assign rfl) ?_; clear ha a; intro a ha; refine wpList_nil ?_; replace ha := ha.sub (σ' := [(1, va1), (2, (.pointer (some ⟨b1, 0, none⟩))), (5, v88), (6, (.int .i64 (i90 + 1)))]) ⟨rfl, rfl, rfl, rfl, trivial⟩; refine e_lq ?_; obtain rfl := Option.some.inj hF
        exact ⟨_, Nat.lt_succ_self _, l87, i90 + 1, v88, b89, ha.sub ⟨rfl, rfl, rfl, rfl, trivial⟩, hE169, hI200, hB82, z83, h85, z86, q92, q93, hN160⟩
      replace hF := if_f hp163 hF; refine wp_exit ?_; refine e_then_exit ?_; refine e_lq_eq ?_; obtain rfl := Option.some.inj hF
      exact ⟨l87, v88, b89, ha.sub ⟨rfl, trivial⟩, hE94, h85, z86, (LK_inr hN160).symm⟩
  rintro a w147 ⟨l151, v152, b153, ha, hE159, h149, z150, rfl⟩
  have hF : F_laws_w6Rest_k2 l151 = some _ := hK156; clear hK156; unfold F_laws_w6Rest_k2 at hF
  refine e_then ?_; refine wp_seq ?_; refine wp_region_lit ?_; refine op_g ha rfl (g_move rfl) ?_; clear ha a; intro a ha; refine op_g ha rfl (g_assign rfl) ?_; clear ha a; intro a ha; refine wpList_nil ?_; replace ha := ha.sub (σ' := [(4, v152)]) ⟨rfl, trivial⟩; refine e_then ?_; refine wp_ret ?_; obtain rfl := Option.some.inj hF
  exact f_ret1 ha rfl rfl ⟨_, h149, z150, hE159⟩
set_option maxHeartbeats 2000000 in
theorem W_spec_SetOk {W : World} {va0_0 : Value} {fa0_0 : List Nat} {a0_0 : (List (List Int))} (ha0_0 : Ro (Rp.sl 2 Rp.int) W fa0_0 va0_0 a0_0) {va1 : Value} {fa1 : List Nat} {a1 : (List Int)} (ha1 : Ro Rp.int W fa1 va1 a1) {r : Bool} (hF : F_spec_SetOk a0_0 a1 = some r) :
    Calls Tryd.prog 62 [.agg #[va0_0], va1].toArray W (Ret fun u w' => u = .bool r ∧ Ext W w') := by
  refine f_enter Tryd.func62 rfl Tryd.ntmps62 rfl ?_
  intro a ha
  replace ha : Fr 13 [(0, (.agg #[va0_0])), (1, va1)] a := ha
  have hE : Chg [] W W := Chg.refl _ _
  unfold F_spec_SetOk at hF
  refine wp_seq ?_; refine wp_region_lit ?_
  refine o_box ha rfl rfl rfl ?_; clear ha a; intro b1 w2 hB3 hx4 hlo5 a ha
  have q6 := Zn.one hlo5
  have q7 := Zn.upD q6 hE
  have hE8 := Ext.trans hE hx4
  refine op_g ha rfl (g_assign rfl) ?_; clear ha a; intro a ha; refine wpList_nil ?_; replace ha := ha.sub (σ' := [(1, va1), (2, (.pointer (some ⟨b1, 0, none⟩)))]) ⟨rfl, rfl, trivial⟩; refine e_then ?_; refine wp_seq ?_; refine wp_region_lit ?_; refine op_g ha rfl (g_loadA (cs := [va0_0]) Tryd.isAgg29 Tryd.sizeOf29 rfl (by simp) hB3.all) ?_; clear ha a; intro a ha; obtain ⟨x9, hc10, hF⟩ := cal_some hF
  refine o_call ha rfl rfl Tryd.call33 (W_spec_GraphOk (ha0_0.ext hE8) hc10) ?_; clear ha a; rintro v11 w12 ⟨rfl, hx13⟩ a ha
  replace hB3 := hB3.ext hx13
  have hE14 := Ext.trans hE8 hx13
  refine op_g ha rfl (g_move rfl) ?_; clear ha a; intro a ha
  by_cases hp15 : x9 = true
  · replace hF := if_t hp15 hF
    rw [show (x9) = true from (Iff.rfl).2 hp15] at ha
    refine op_want (yields ha rfl rfl) ?_; refine op_g ha rfl (g_move rfl) ?_; clear ha a; intro a ha; refine op_want (yields ha rfl rfl) ?_; refine op_g ha rfl (g_loadA (cs := [va0_0]) Tryd.isAgg29 Tryd.sizeOf29 rfl (by simp) hB3.all) ?_; clear ha a; intro a ha; refine op_want (yields ha rfl rfl) ?_; obtain ⟨x16, hc17, hF⟩ := cal_some hF
    refine o_call ha rfl rfl Tryd.call76 (W_spec_l1Size (ha0_0.ext hE14) hc17) ?_; clear ha a; rintro v18 w19 ⟨⟨rfl, hI21⟩, hx20⟩ a ha
    replace hB3 := hB3.ext hx20
    have hE22 := Ext.trans hE14 hx20
    refine op_want (yields ha rfl rfl) ?_; obtain ⟨x23, hc24, hF⟩ := cal_some hF
    refine o_call ha rfl rfl Tryd.call70 (W_spec_l1Set (ha1.ext hE22) hI21 hc24) ?_; clear ha a; rintro v25 w26 ⟨rfl, hx27⟩ a ha
    replace hB3 := hB3.ext hx27
    have hE28 := Ext.trans hE22 hx27
    refine op_g ha rfl (g_pick rfl rfl) ?_; clear ha a; intro a ha; refine op_g ha rfl (g_assign rfl) ?_; clear ha a; intro a ha; refine wpList_nil ?_; replace ha := ha.sub (σ' := [(4, (.bool x23))]) ⟨rfl, trivial⟩; refine e_then ?_; refine wp_ret ?_; obtain rfl := Option.some.inj hF
    exact f_ret1 ha rfl rfl ⟨rfl, hE28⟩
  replace hF := if_f hp15 hF
  rw [show (x9) = false from b_false (Iff.rfl) hp15] at ha
  (iterate 4 refine op_unwant ha rfl (yields ha rfl rfl) rfl ?_; clear ha a; intro a ha); refine op_g ha rfl (g_pick rfl rfl) ?_; clear ha a; intro a ha; refine op_g ha rfl (g_assign rfl) ?_; clear ha a; intro a ha; refine wpList_nil ?_; replace ha := ha.sub (σ' := [(4, (.bool false))]) ⟨rfl, trivial⟩; refine e_then ?_; refine wp_ret ?_; obtain rfl := Option.some.inj hF
  exact f_ret1 ha rfl rfl ⟨rfl, hE14⟩
set_option maxHeartbeats 2000000 in
theorem W_spec_l2Of {W : World} {va0_0 : Value} {fa0_0 : List Nat} {a0_0 : (List (List Int))} (ha0_0 : Ro (Rp.sl 2 Rp.int) W fa0_0 va0_0 a0_0) {va1 : Value} {fa1 : List Nat} {a1 : (List Int)} (ha1 : Ro Rp.int W fa1 va1 a1) {r : (List (List Int))} (hF : F_spec_l2Of a0_0 a1 = some r) :
    Calls Tryd.prog 63 [.agg #[va0_0], va1].toArray W (Ret fun u w' => ∃ (u_0 : Value) (fp_u_0 : List Nat), u = .agg #[u_0] ∧ Ro (Rp.sl 2 Rp.int) w' fp_u_0 u_0 r ∧ Pv (fa0_0 ++ fa1) W.heap.size fp_u_0 ∧ Ext W w') := by
  refine f_enter Tryd.func63 rfl Tryd.ntmps63 rfl ?_
  intro a ha
  replace ha : Fr 37 [(0, (.agg #[va0_0])), (1, va1)] a := ha
  have hE : Chg [] W W := Chg.refl _ _
  unfold F_spec_l2Of at hF
  refine wp_seq ?_; refine wp_region_lit ?_
  refine o_box ha rfl rfl rfl ?_; clear ha a; intro b1 w2 hB3 hx4 hlo5 a ha
  have q6 := Zn.one hlo5
  have q7 := Zn.upD q6 hE
  have hE8 := Ext.trans hE hx4
  refine o_alloc (cs := [(.slice none 0 0)]) ha rfl Tryd.zeroValue29 rfl ?_; clear ha a; intro b9 w10 hB11 hx12 hlo13 a ha
  have q14 := Zn.one hlo13
  have q15 := Nq.new hB3.fpb q14
  have q16 := Nq.made1 hlo13 hB3.bi
  have q17 := Zn.upD q14 hE8
  replace hB3 := hB3.ext hx12
  have hE18 := Ext.trans hE8 hx12
  refine wpList_nil ?_; replace ha := ha.sub (σ' := [(1, va1), (2, (.pointer (some ⟨b1, 0, none⟩))), (4, (.pointer (some ⟨b9, 0, none⟩)))]) ⟨rfl, rfl, rfl, trivial⟩; refine e_then ?_; refine wp_seq ?_; refine wp_region_lit ?_; refine op_g ha rfl (g_move rfl) ?_; clear ha a; intro a ha; refine op_g ha rfl (g_lenR sl31.und ha1 rfl) ?_; clear ha a; intro a ha; obtain ⟨x19, hc20, hF⟩ := cal_some hF
  refine o_call ha rfl rfl Tryd.call69 (W_spec_l1Empty ha1.len hc20) ?_; clear ha a; rintro v21 w22 ⟨u24, b25, fs29, rfl, h26, z27, zf30, nd31, hx23⟩ a ha
  have q32 := Nq.new hB3.fpb z27
  have q33 := Nq.madeF z27 zf30 hB3.bi
  have q34 := Nq.new hB11.fpb z27
  have q35 := Nq.madeF z27 zf30 hB11.bi
  have q36 := Nf.new hB3.fpb zf30
  have q37 := Nf.new hB11.fpb zf30
  replace hB3 := hB3.ext hx23
  replace hB11 := hB11.ext hx23
  have hE38 := Ext.trans hE18 hx23
  have q39 := Zn.upD z27 hE18
  have q40 := zf_up zf30 hE18
  refine o_alloc (cs := [(.slice none 0 0)]) ha rfl Tryd.zeroValue29 rfl ?_; clear ha a; intro b41 w42 hB43 hx44 hlo45 a ha
  have q46 := Zn.one hlo45
  have q47 := Nq.new hB3.fpb q46
  have q48 := Nq.made1 hlo45 hB3.bi
  have q49 := Nq.new hB11.fpb q46
  have q50 := Nq.made1 hlo45 hB11.bi
  have q51 := Nq.new h26.fpb q46
  have q52 := Nq.made1 hlo45 h26.blt
  have q53 := Zn.upD q46 hE38
  replace hB3 := hB3.ext hx44
  replace hB11 := hB11.ext hx44
  replace h26 := h26.ext hx44
  have hE54 := Ext.trans hE38 hx44
  refine o_storeA (vs := [u24]) ha hB43 Tryd.sizeOf29 rfl rfl (by intro c hc; simp only [List.mem_cons, List.not_mem_nil, or_false] at hc; rcases hc with hc <;> subst hc <;> first | rfl | exact h26.oneC) rfl ?_; intro w55 hB56 hc57
  replace hc57 := hc57.bl
  replace hB56 : Bx w55 b41 [u24] 29 := hB56
  replace hB3 := hB3.nq hc57 q47
  replace hB11 := hB11.nq hc57 q49
  replace h26 := h26.nq hc57 q51
  have hE58 := Ext.then hE54 hc57 (Zn.bl q53)
  refine wpList_nil ?_; replace ha := ha.sub (σ' := [(1, va1), (2, (.pointer (some ⟨b1, 0, none⟩))), (4, (.pointer (some ⟨b9, 0, none⟩))), (5, (.pointer (some ⟨b41, 0, none⟩)))]) ⟨rfl, rfl, rfl, rfl, trivial⟩; refine e_then ?_; refine wp_seq ?_; refine wp_seq ?_; refine wp_region_lit ?_; refine op_g ha rfl (g_assign rfl) ?_; clear ha a; intro a ha; refine wpList_nil ?_; replace ha := ha.sub (σ' := [(1, va1), (2, (.pointer (some ⟨b1, 0, none⟩))), (4, (.pointer (some ⟨b9, 0, none⟩))), (5, (.pointer (some ⟨b41, 0, none⟩))), (6, (.int .i64 0))]) ⟨rfl, rfl, rfl, rfl, rfl, trivial⟩; refine e_then ?_
  obtain ⟨o840, ho841, hK842⟩ := bnd_some hF
  obtain ⟨n843, hn844⟩ := lp_some ho841; clear ho841
  refine c_loop (fun a w => ∃ (l831 : (List (List Int))) (fs828 : List Nat) (v832 : Value) (b833 : Int), Fr 37 [(4, (.pointer (some ⟨b9, 0, none⟩))), (5, (.pointer (some ⟨b41, 0, none⟩)))] a ∧ Chg [] W w ∧ Bx w b9 [(.slice none 0 0)] 29 ∧ Zn W (b9 : Int) ∧ Bx w b41 [v832] 29 ∧ Zn W (b41 : Int) ∧ Ow (Rp.sl 2 Rp.int) 31 false w fs828 b833 v832 l831 ∧ Zn W b833 ∧ (∀ k ∈ fs828, W.heap.size ≤ k) ∧ Nq ([b9]) (b41 : Int) ∧ Nq ([b9]) b833 ∧ Nq ([b41]) (b9 : Int) ∧ Nq ([b41]) b833 ∧ Nq (bl b833 ++ fs828) (b9 : Int) ∧ Nq (bl b833 ++ fs828) (b41 : Int) ∧ o840 = .inl l831) (fun n a w => ∃ (l450 : (List (List Int))) (i453 : Int) (fs447 : List Nat) (v451 : Value) (b452 : Int), Fr 37 [(1, va1), (2, (.pointer (some ⟨b1, 0, none⟩))), (4, (.pointer (some ⟨b9, 0, none⟩))), (5, (.pointer (some ⟨b41, 0, none⟩))), (6, (.int .i64 i453))] a ∧ Chg [] W w ∧ InI i453 ∧ Bx w b1 [va0_0] 29 ∧ Zn W (b1 : Int) ∧ Bx w b9 [(.slice none 0 0)] 29 ∧ Zn W (b9 : Int) ∧ Bx w b41 [v451] 29 ∧ Zn W (b41 : Int) ∧ Ow (Rp.sl 2 Rp.int) 31 false w fs447 b452 v451 l450 ∧ Zn W b452 ∧ (∀ k ∈ fs447, W.heap.size ≤ k) ∧ Nq ([b1]) (b9 : Int) ∧ Nq ([b1]) (b41 : Int) ∧ Nq ([b1]) b452 ∧ Nq ([b9]) (b1 : Int) ∧ Nq ([b9]) (b41 : Int) ∧ Nq ([b9]) b452 ∧ Nq ([b41]) (b1 : Int) ∧ Nq ([b41]) (b9 : Int) ∧ Nq ([b41]) b452 ∧ Nq (bl b452 ++ fs447) (b1 : Int) ∧ Nq (bl b452 ++ fs447) (b9 : Int) ∧ Nq (bl b452 ++ fs447) (b41 : Int) ∧ lpN (fun s => F_spec_l2Of_l1 a0_0 a1 s.1 s.2) n (l450, i453) = some o840) n843 ⟨x19, 0, fs29, u24, b25, ha.sub ⟨rfl, rfl, rfl, rfl, rfl, trivial⟩, hE58, (show InI 0 from by decide), hB3, q7, hB11, q17, hB56, q53, (Ow.weak h26), q39, q40, q15, q47, q32, q16, q49, q34, q48, q50, q52, q33, q35, q51, hn844⟩ ?_ ?_
  · rintro m848 a w437 ⟨l450, i453, fs447, v451, b452, ha, hE467, hI454, hB438, z439, hB440, z441, hB442, z443, h445, z446, zf448, q455, q456, q457, q458, q459, q460, q461, q462, q463, q464, q465, q466, hF⟩
    cases m848 with
    | zero => exact (lpN_zero hF).elim
    | succ m848 =>
      obtain ⟨z847, hF, hN846⟩ := lpN_succ hF
      have hF : F_spec_l2Of_l1 a0_0 a1 l450 i453 = some z847 := hF; unfold F_spec_l2Of_l1 at hF
      refine wp_seq ?_; refine wp_seq ?_; refine wp_region_lit ?_; (iterate 2 refine op_g ha rfl (g_move rfl) ?_; clear ha a; intro a ha); refine op_g ha rfl (g_lenR sl31.und ha1 rfl) ?_; clear ha a; intro a ha; refine op_g ha rfl (g_lss rfl rfl) ?_; clear ha a; intro a ha; refine wpList_nil ?_; replace ha := ha.sub (σ' := [(1, va1), (2, (.pointer (some ⟨b1, 0, none⟩))), (4, (.pointer (some ⟨b9, 0, none⟩))), (5, (.pointer (some ⟨b41, 0, none⟩))), (6, (.int .i64 i453)), (14, (.bool (decide (i453 < (a1.length : Int)))))]) ⟨rfl, rfl, rfl, rfl, rfl, rfl, trivial⟩; refine e_then ?_; refine c_cond (i453 < (a1.length : Int)) ha rfl (decide_eq_true_iff) (fun hp849 => ?_) (fun hp849 => ?_)
      · replace hF := if_t hp849 hF
        refine wp_skip ?_; refine e_then ?_; refine wp_seq ?_; refine wp_block ?_; refine wp_seq ?_; refine wp_region_lit ?_; refine op_g ha rfl (g_assign rfl) ?_; clear ha a; intro a ha; refine wpList_nil ?_; replace ha := ha.sub (σ' := [(1, va1), (2, (.pointer (some ⟨b1, 0, none⟩))), (4, (.pointer (some ⟨b9, 0, none⟩))), (5, (.pointer (some ⟨b41, 0, none⟩))), (6, (.int .i64 i453)), (7, (.int .i64 0))]) ⟨rfl, rfl, rfl, rfl, rfl, rfl, trivial⟩; refine e_then ?_; obtain ⟨o1105, ho1106, hK1107⟩ := bnd_some hF
        obtain ⟨n1108, hn1109⟩ := lp_some ho1106; clear ho1106
        refine c_loop (fun a w => ∃ (l1090 : (List (List Int))) (fs1087 : List Nat) (v1091 : Value) (b1092 : Int), Fr 37 [(1, va1), (2, (.pointer (some ⟨b1, 0, none⟩))), (4, (.pointer (some ⟨b9, 0, none⟩))), (5, (.pointer (some ⟨b41, 0, none⟩))), (6, (.int .i64 i453))] a ∧ Chg [] W w ∧ Bx w b1 [va0_0] 29 ∧ Zn W (b1 : Int) ∧ Bx w b9 [(.slice none 0 0)] 29 ∧ Zn W (b9 : Int) ∧ Bx w b41 [v1091] 29 ∧ Zn W (b41 : Int) ∧ Ow (Rp.sl 2 Rp.int) 31 false w fs1087 b1092 v1091 l1090 ∧ Zn W b1092 ∧ (∀ k ∈ fs1087, W.heap.size ≤ k) ∧ Nq ([b1]) (b9 : Int) ∧ Nq ([b1]) (b41 : Int) ∧ Nq ([b1]) b1092 ∧ Nq ([b9]) (b1 : Int) ∧ Nq ([b9]) (b41 : Int) ∧ Nq ([b9]) b1092 ∧ Nq ([b41]) (b1 : Int) ∧ Nq ([b41]) (b9 : Int) ∧ Nq ([b41]) b1092 ∧ Nq (bl b1092 ++ fs1087) (b1 : Int) ∧ Nq (bl b1092 ++ fs1087) (b9 : Int) ∧ Nq (bl b1092 ++ fs1087) (b41 : Int) ∧ o1105 = .inl l1090) (fun n a w => ∃ (l974 : (List (List Int))) (i977 : Int) (fs971 : List Nat) (v975 : Value) (b976 : Int), Fr 37 [(1, va1), (2, (.pointer (some ⟨b1, 0, none⟩))), (4, (.pointer (some ⟨b9, 0, none⟩))), (5, (.pointer (some ⟨b41, 0, none⟩))), (6, (.int .i64 i453)), (7, (.int .i64 i977))] a ∧ Chg [] W w ∧ InI i977 ∧ Bx w b1 [va0_0] 29 ∧ Zn W (b1 : Int) ∧ Bx w b9 [(.slice none 0 0)] 29 ∧ Zn W (b9 : Int) ∧ Bx w b41 [v975] 29 ∧ Zn W (b41 : Int) ∧ Ow (Rp.sl 2 Rp.int) 31 false w fs971 b976 v975 l974 ∧ Zn W b976 ∧ (∀ k ∈ fs971, W.heap.size ≤ k) ∧ Nq ([b1]) (b9 : Int) ∧ Nq ([b1]) (b41 : Int) ∧ Nq ([b1]) b976 ∧ Nq ([b9]) (b1 : Int) ∧ Nq ([b9]) (b41 : Int) ∧ Nq ([b9]) b976 ∧ Nq ([b41]) (b1 : Int) ∧ Nq ([b41]) (b9 : Int) ∧ Nq ([b41]) b976 ∧ Nq (bl b976 ++ fs971) (b1 : Int) ∧ Nq (bl b976 ++ fs971) (b9 : Int) ∧ Nq (bl b976 ++ fs971) (b41 : Int) ∧ lpN (fun s => F_spec_l2Of_l2 a0_0 a1 i453 s.1 s.2) n (l974, i977) = some o1105) n1108 ⟨l450, 0, fs447, v451, b452, ha.sub ⟨rfl, rfl, rfl, rfl, rfl, rfl, trivial⟩, hE467, (show InI 0 from by decide), hB438, z439, hB440, z441, hB442, z443, h445, z446, zf448, q455, q456, q457, q458, q459, q460, q461, q462, q463, q464, q465, q466, hn1109⟩ ?_ ?_
        · rintro m1113 a w961 ⟨l974, i977, fs971, v975, b976, ha, hE991, hI978, hB962, z963, hB964, z965, hB966, z967, h969, z970, zf972, q979, q980, q981, q982, q983, q984, q985, q986, q987, q988, q989, q990, hF⟩
          cases m1113 with
          | zero => exact (lpN_zero hF).elim
          | succ m1113 =>
            obtain ⟨z1112, hF, hN1111⟩ := lpN_succ hF
            have hF : F_spec_l2Of_l2 a0_0 a1 i453 l974 i977 = some z1112 := hF; unfold F_spec_l2Of_l2 at hF
            refine wp_seq ?_; refine wp_seq ?_; refine wp_region_lit ?_; (iterate 2 refine op_g ha rfl (g_move rfl) ?_; clear ha a; intro a ha); refine op_g ha rfl (g_lss rfl rfl) ?_; clear ha a; intro a ha; refine wpList_nil ?_; replace ha := ha.sub (σ' := [(1, va1), (2, (.pointer (some ⟨b1, 0, none⟩))), (4, (.pointer (some ⟨b9, 0, none⟩))), (5, (.pointer (some ⟨b41, 0, none⟩))), (6, (.int .i64 i453)), (7, (.int .i64 i977)), (19, (.bool (decide (i977 < i453))))]) ⟨rfl, rfl, rfl, rfl, rfl, rfl, rfl, trivial⟩; refine e_then ?_; refine c_cond (i977 < i453) ha rfl (decide_eq_true_iff) (fun hp1114 => ?_) (fun hp1114 => ?_)
            · replace hF := if_t hp1114 hF
              refine wp_skip ?_; refine e_then ?_; refine wp_seq ?_; refine wp_block ?_; refine wp_seq ?_; refine d_quiet hmix (by kernel_rfl) ?_; refine q_g ha rfl (g_loadA (cs := [va0_0]) Tryd.isAgg29 Tryd.sizeOf29 rfl (by simp) hB962.all) ?_; clear ha a; intro a ha; (iterate 2 refine q_g ha rfl (g_move rfl) ?_; clear ha a; intro a ha); obtain ⟨x1115, g1116, gx1117, hF⟩ := idx_some hF
              obtain ⟨p1118, cs1119, f1120, hf1121, hpb1122, hat1123, hr1124, hi1125⟩ := ha1.at g1116 gx1117
              obtain ⟨rfl, hI1126, rfl⟩ := hr1124
              refine q_g ha rfl (hi1125.gives sl31 rfl rfl) ?_; clear ha a; intro a ha; refine q_g ha rfl (g_load0 hE991 Tryd.isAgg2 rfl hat1123.one) ?_; clear ha a; intro a ha; (iterate 2 refine q_g ha rfl (g_move rfl) ?_; clear ha a; intro a ha); obtain ⟨x1127, g1128, gx1129, hF⟩ := idx_some hF
              obtain ⟨p1130, cs1131, f1132, hf1133, hpb1134, hat1135, hr1136, hi1137⟩ := ha1.at g1128 gx1129
              obtain ⟨rfl, hI1138, rfl⟩ := hr1136
              refine q_g ha rfl (hi1137.gives sl31 rfl rfl) ?_; clear ha a; intro a ha; refine q_g ha rfl (g_load0 hE991 Tryd.isAgg2 rfl hat1135.one) ?_; clear ha a; intro a ha; obtain ⟨x1141, hc1142, hF⟩ := cal_some hF; refine q_call (.bool x1141) ha rfl rfl Tryd.call58 (fun w1140 hx1139 => W_spec_l1Edge (ha0_0.ext (Ext.trans hE991 hx1139)) hI1126 hI1138 hc1142) (fun _ _ _ h => ⟨h.1, h.2⟩) ?_; clear ha a; intro a ha
              refine q_nil ?_; intro w1143 hx1144
              replace hB962 := hB962.ext hx1144
              replace hB964 := hB964.ext hx1144
              replace hB966 := hB966.ext hx1144
              replace h969 := h969.ext hx1144
              have hE1145 := Ext.trans hE991 hx1144
              replace ha := ha.sub (σ' := [(1, va1), (2, (.pointer (some ⟨b1, 0, none⟩))), (4, (.pointer (some ⟨b9, 0, none⟩))), (5, (.pointer (some ⟨b41, 0, none⟩))), (6, (.int .i64 i453)), (7, (.int .i64 i977)), (31, (.bool x1141))]) ⟨rfl, rfl, rfl, rfl, rfl, rfl, rfl, trivial⟩; refine e_then ?_; refine c_cond (x1141 = true) ha rfl (Iff.rfl) (fun hp1146 => ?_) (fun hp1146 => ?_)
              · replace hF := if_t hp1146 hF
                refine wp_region_lit ?_; refine op_g ha rfl (g_loadA (cs := [v975]) Tryd.isAgg29 Tryd.sizeOf29 rfl (by simp) hB966.all) ?_; clear ha a; intro a ha; (iterate 2 refine op_g ha rfl (g_move rfl) ?_; clear ha a; intro a ha); obtain ⟨x1147, hc1148, hF⟩ := cal_some hF
                refine o_call ha rfl rfl Tryd.call71 (W_spec_l1Link h969 hI978 hI454 hc1148) ?_; clear ha a; rintro v1149 w1150 ⟨fs1153, rfl, h1152, pv1154, hx1151⟩ a ha
                have q1155 := Nq.grow pv1154 q988 hB962.bi
                have q1156 := Nq.grow pv1154 q989 hB964.bi
                have q1157 := Nq.grow pv1154 q990 hB966.bi
                have q1158 := Chg.size hE1145
                replace hB962 := hB962.nq hx1151 q981
                replace hB964 := hB964.nq hx1151 q984
                replace hB966 := hB966.nq hx1151 q987
                have hE1159 := Ext.then hE1145 hx1151 (Zn.bl z970)
                have q1160 := zf_pv pv1154 zf972 q1158
                refine o_storeA (vs := [v975]) ha hB966 Tryd.sizeOf29 rfl rfl (by intro c hc; simp only [List.mem_cons, List.not_mem_nil, or_false] at hc; rcases hc with hc <;> subst hc <;> first | rfl | exact h1152.oneC) rfl ?_; intro w1161 hB1162 hc1163
                replace hc1163 := hc1163.bl
                replace hB1162 : Bx w1161 b41 [v975] 29 := hB1162
                replace hB962 := hB962.nq hc1163 q980
                replace hB964 := hB964.nq hc1163 q983
                replace h1152 := h1152.nq hc1163 q1157
                have hE1164 := Ext.then hE1159 hc1163 (Zn.bl z967)
                refine wpList_nil ?_; replace ha := ha.sub (σ' := [(1, va1), (2, (.pointer (some ⟨b1, 0, none⟩))), (4, (.pointer (some ⟨b9, 0, none⟩))), (5, (.pointer (some ⟨b41, 0, none⟩))), (6, (.int .i64 i453)), (7, (.int .i64 i977))]) ⟨rfl, rfl, rfl, rfl, rfl, rfl, trivial⟩; refine e_blk ?_; refine e_then ?_; refine wp_region_lit ?_; refine op_g ha rfl (g_move rfl) ?_; clear ha a; intro a ha; obtain ⟨hI1165, hF⟩ := ck_some hF; refine op_g ha rfl (g_add rfl rfl hI1165) ?_; clear ha a; intro a ha; refine op_g ha rfl (g_assign rfl) ?_; clear ha a; intro a ha; refine wpList_nil ?_; replace ha := ha.sub (σ' := [(1, va1), (2, (.pointer (some ⟨b1, 0, none⟩))), (4, (.pointer (some ⟨b9, 0, none⟩))), (5, (.pointer (some ⟨b41, 0, none⟩))), (6, (.int .i64 i453)), (7, (.int .i64 (i977 + 1)))]) ⟨rfl, rfl, rfl, rfl, rfl, rfl, trivial⟩
                refine e_lq ?_; obtain rfl := Option.some.inj hF
                exact ⟨_, Nat.lt_succ_self _, x1147, i977 + 1, fs1153, v975, b976, ha.sub ⟨rfl, rfl, rfl, rfl, rfl, rfl, trivial⟩, hE1164, hI1165, hB962, z963, hB964, z965, hB1162, z967, h1152, z970, q1160, q979, q980, q981, q982, q983, q984, q985, q986, q987, q1155, q1156, q1157, hN1111⟩
              replace hF := if_f hp1146 hF; refine wp_skip ?_; refine e_blk ?_; refine e_then ?_; refine wp_region_lit ?_; refine op_g ha rfl (g_move rfl) ?_; clear ha a; intro a ha; obtain ⟨hI1167, hF⟩ := ck_some hF; refine op_g ha rfl (g_add rfl rfl hI1167) ?_; clear ha a; intro a ha; refine op_g ha rfl (g_assign rfl) ?_; clear ha a; intro a ha; refine wpList_nil ?_; replace ha := ha.sub (σ' := [(1, va1), (2, (.pointer (some ⟨b1, 0, none⟩))), (4, (.pointer (some ⟨b9, 0, none⟩))), (5, (.pointer (some ⟨b41, 0, none⟩))), (6, (.int .i64 i453)), (7, (.int .i64 (i977 + 1)))]) ⟨rfl, rfl, rfl, rfl, rfl, rfl, trivial⟩
              refine e_lq ?_; obtain rfl := Option.some.inj hF
              exact ⟨_, Nat.lt_succ_self _, l974, i977 + 1, fs971, v975, b976, ha.sub ⟨rfl, rfl, rfl, rfl, rfl, rfl, trivial⟩, hE1145, hI1167, hB962, z963, hB964, z965, hB966, z967, h969, z970, zf972, q979, q980, q981, q982, q983, q984, q985, q986, q987, q988, q989, q990, hN1111⟩
            replace hF := if_f hp1114 hF; refine wp_exit ?_; refine e_then_exit ?_; refine e_lq_eq ?_; obtain rfl := Option.some.inj hF
            exact ⟨l974, fs971, v975, b976, ha.sub ⟨rfl, rfl, rfl, rfl, rfl, trivial⟩, hE991, hB962, z963, hB964, z965, hB966, z967, h969, z970, zf972, q979, q980, q981, q982, q983, q984, q985, q986, q987, q988, q989, q990, (LK_inr hN1111).symm⟩
        rintro a w1077 ⟨l1090, fs1087, v1091, b1092, ha, hE1110, hB1078, z1079, hB1080, z1081, hB1082, z1083, h1085, z1086, zf1088, q1093, q1094, q1095, q1096, q1097, q1098, q1099, q1100, q1101, q1102, q1103, q1104, rfl⟩
        have hF : F_spec_l2Of_k3 i453 l1090 = some _ := hK1107; clear hK1107; unfold F_spec_l2Of_k3 at hF
        refine e_blk ?_; refine e_then ?_; refine wp_region_lit ?_; refine op_g ha rfl (g_move rfl) ?_; clear ha a; intro a ha; obtain ⟨hI1169, hF⟩ := ck_some hF; refine op_g ha rfl (g_add rfl rfl hI1169) ?_; clear ha a; intro a ha; refine op_g ha rfl (g_assign rfl) ?_; clear ha a; intro a ha; refine wpList_nil ?_; replace ha := ha.sub (σ' := [(1, va1), (2, (.pointer (some ⟨b1, 0, none⟩))), (4, (.pointer (some ⟨b9, 0, none⟩))), (5, (.pointer (some ⟨b41, 0, none⟩))), (6, (.int .i64 (i453 + 1)))]) ⟨rfl, rfl, rfl, rfl, rfl, trivial⟩; refine e_lq ?_; obtain rfl := Option.some.inj hF
        exact ⟨_, Nat.lt_succ_self _, l1090, i453 + 1, fs1087, v1091, b1092, ha.sub ⟨rfl, rfl, rfl, rfl, rfl, trivial⟩, hE1110, hI1169, hB1078, z1079, hB1080, z1081, hB1082, z1083, h1085, z1086, zf1088, q1093, q1094, q1095, q1096, q1097, q1098, q1099, q1100, q1101, q1102, q1103, q1104, hN846⟩
      replace hF := if_f hp849 hF; refine wp_exit ?_; refine e_then_exit ?_; refine e_lq_eq ?_; obtain rfl := Option.some.inj hF
      exact ⟨l450, fs447, v451, b452, ha.sub ⟨rfl, rfl, trivial⟩, hE467, hB440, z441, hB442, z443, h445, z446, zf448, q459, q460, q462, q463, q465, q466, (LK_inr hN846).symm⟩
  rintro a w820 ⟨l831, fs828, v832, b833, ha, hE845, hB821, z822, hB823, z824, h826, z827, zf829, q834, q835, q836, q837, q838, q839, rfl⟩
  have hF : F_spec_l2Of_k4 l831 = some _ := hK842; clear hK842; unfold F_spec_l2Of_k4 at hF
  refine e_then ?_; refine wp_seq ?_; refine wp_region_lit ?_; refine op_g ha rfl (g_loadA (cs := [v832]) Tryd.isAgg29 Tryd.sizeOf29 rfl (by simp) hB823.all) ?_; clear ha a; intro a ha
  refine o_storeA (vs := [v832]) ha hB821 Tryd.sizeOf29 rfl rfl (by intro c hc; simp only [List.mem_cons, List.not_mem_nil, or_false] at hc; rcases hc with hc <;> subst hc <;> first | rfl | exact h826.oneC) rfl ?_; intro w1171 hB1172 hc1173
  replace hc1173 := hc1173.bl
  replace hB1172 : Bx w1171 b9 [v832] 29 := hB1172
  replace hB823 := hB823.nq hc1173 q836
  replace h826 := h826.nq hc1173 q838
  have hE1174 := Ext.then hE845 hc1173 (Zn.bl z822)
  refine wpList_nil ?_; replace ha := ha.sub (σ' := [(4, (.pointer (some ⟨b9, 0, none⟩)))]) ⟨rfl, trivial⟩; refine e_then ?_; refine wp_ret ?_
  obtain ⟨fp1175, h1176, hs1177⟩ := h826.roF
  obtain rfl := Option.some.inj hF
  exact f_retC (cs := [v832]) ha rfl rfl Tryd.isAgg29 Tryd.sizeOf29 hB1172 ⟨_, _, rfl, h1176, (Pv.mono (Pv.own z827 zf829) hs1177), hE1174⟩
set_option maxHeartbeats 2000000 in
theorem W_spec_Induced {W : World} {va0_0 : Value} {fa0_0 : List Nat} {a0_0 : (List (List Int))} (ha0_0 : Ro (Rp.sl 2 Rp.int) W fa0_0 va0_0 a0_0) {va1 : Value} {fa1 : List Nat} {a1 : (List Int)} (ha1 : Ro Rp.int W fa1 va1 a1) {r : ((List (List Int)) × Bool)} (hF : F_spec_Induced a0_0 a1 = some r) :
    Calls Tryd.prog 24 [.agg #[va0_0], va1].toArray W (Ret fun u w' => ∃ (u0 : Value) (u1 : Value) (u0_0 : Value) (fp_u0_0 : List Nat), u = .tuple #[u0, u1] ∧ u0 = .agg #[u0_0] ∧ Ro (Rp.sl 2 Rp.int) w' fp_u0_0 u0_0 r.1 ∧ Pv (fa0_0 ++ fa1) W.heap.size fp_u0_0 ∧ u1 = .bool r.2 ∧ Ext W w') := by
  refine f_enter Tryd.func24 rfl Tryd.ntmps24 rfl ?_
  intro a ha
  replace ha : Fr 19 [(0, (.agg #[va0_0])), (1, va1)] a := ha
  have hE : Chg [] W W := Chg.refl _ _
  unfold F_spec_Induced at hF
  refine wp_seq ?_; refine wp_region_lit ?_
  refine o_box ha rfl rfl rfl ?_; clear ha a; intro b1 w2 hB3 hx4 hlo5 a ha
  have q6 := Zn.one hlo5
  have q7 := Zn.upD q6 hE
  have hE8 := Ext.trans hE hx4
  refine o_alloc (cs := [(.slice none 0 0)]) ha rfl Tryd.zeroValue29 rfl ?_; clear ha a; intro b9 w10 hB11 hx12 hlo13 a ha
  have q14 := Zn.one hlo13
  have q15 := Nq.new hB3.fpb q14
  have q16 := Nq.made1 hlo13 hB3.bi
  have q17 := Zn.upD q14 hE8
  replace hB3 := hB3.ext hx12
  have hE18 := Ext.trans hE8 hx12
  refine op_g ha rfl (g_assign rfl) ?_; clear ha a; intro a ha; refine wpList_nil ?_; replace ha := ha.sub (σ' := [(1, va1), (2, (.pointer (some ⟨b1, 0, none⟩))), (4, (.pointer (some ⟨b9, 0, none⟩)))]) ⟨rfl, rfl, rfl, trivial⟩; refine e_then ?_; refine wp_seq ?_; refine wp_seq ?_; refine wp_region_lit ?_; refine op_g ha rfl (g_loadA (cs := [va0_0]) Tryd.isAgg29 Tryd.sizeOf29 rfl (by simp) hB3.all) ?_; clear ha a; intro a ha; refine op_g ha rfl (g_move rfl) ?_; clear ha a; intro a ha; obtain ⟨x19, hc20, hF⟩ := cal_some hF
  refine o_call ha rfl rfl Tryd.call62 (W_spec_SetOk (ha0_0.ext hE18) (ha1.ext hE18) hc20) ?_; clear ha a; rintro v21 w22 ⟨rfl, hx23⟩ a ha
  replace hB3 := hB3.ext hx23
  replace hB11 := hB11.ext hx23
  have hE24 := Ext.trans hE18 hx23
  refine op_g ha rfl (g_not rfl) ?_; clear ha a; intro a ha; refine op_g ha rfl (g_move rfl) ?_; clear ha a; intro a ha
  by_cases hp25 : ¬ (x19 = true)
  · replace hF := if_t hp25 hF
    rw [show (!x19) = true from (n_iff (Iff.rfl)).2 hp25] at ha
    (iterate 3 refine op_unwant ha rfl (yields ha rfl rfl) rfl ?_; clear ha a; intro a ha); refine op_g ha rfl (g_pick rfl rfl) ?_; clear ha a; intro a ha; refine wpList_nil ?_; replace ha := ha.sub (σ' := [(1, va1), (2, (.pointer (some ⟨b1, 0, none⟩))), (4, (.pointer (some ⟨b9, 0, none⟩))), (14, (.bool true))]) ⟨rfl, rfl, rfl, rfl, trivial⟩; refine e_then ?_; refine c_true ha rfl ?_; refine wp_seq ?_; refine wp_region_lit ?_; refine op_g ha rfl (g_build (vs := []) (cells := #[(.slice none 0 0)]) rfl (by rfl)) ?_; clear ha a; intro a ha
    refine o_storeA (vs := [(.slice none 0 0)]) ha hB11 Tryd.sizeOf29 rfl rfl (by intro c hc; simp only [List.mem_cons, List.not_mem_nil, or_false] at hc; rcases hc with hc <;> subst hc <;> first | rfl | exact rfl) rfl ?_; intro w26 hB27 hc28
    replace hc28 := hc28.bl
    replace hB27 : Bx w26 b9 [(.slice none 0 0)] 29 := hB27
    replace hB3 := hB3.nq hc28 q15
    have hE29 := Ext.then hE24 hc28 (Zn.bl q17)
    refine op_g ha rfl (g_assign rfl) ?_; clear ha a; intro a ha; refine wpList_nil ?_; replace ha := ha.sub (σ' := [(4, (.pointer (some ⟨b9, 0, none⟩))), (5, (.bool false))]) ⟨rfl, rfl, trivial⟩; refine e_then ?_; refine wp_ret ?_; refine e_then_ret ?_; obtain rfl := Option.some.inj hF
    exact f_retC2 (cs := [(.slice none 0 0)]) ha rfl rfl Tryd.isAgg29 Tryd.sizeOf29 hB27 rfl ⟨_, _, _, [], rfl, rfl, (Ro.nil _), (Pv.nil), rfl, hE29⟩
  replace hF := if_f hp25 hF
  rw [show (!x19) = false from b_false (n_iff (Iff.rfl)) hp25] at ha
  refine op_want (yields ha rfl rfl) ?_; refine op_g ha rfl (g_move rfl) ?_; clear ha a; intro a ha; refine op_want (yields ha rfl rfl) ?_; refine op_g ha rfl (g_lenR sl31.und ha1 rfl) ?_; clear ha a; intro a ha; refine op_want (yields ha rfl rfl) ?_; refine op_g ha rfl (g_eql rfl rfl) ?_; clear ha a; intro a ha; refine op_g ha rfl (g_pick rfl rfl) ?_; clear ha a; intro a ha; refine wpList_nil ?_; replace ha := ha.sub (σ' := [(1, va1), (2, (.pointer (some ⟨b1, 0, none⟩))), (4, (.pointer (some ⟨b9, 0, none⟩))), (14, (.bool (decide ((a1.length : Int) = 0))))]) ⟨rfl, rfl, rfl, rfl, trivial⟩; refine e_then ?_
  refine c_cond ((a1.length : Int) = 0) ha rfl (decide_eq_true_iff) (fun hp30 => ?_) (fun hp30 => ?_)
  · replace hF := if_t hp30 hF
    refine wp_seq ?_; refine wp_region_lit ?_; refine op_g ha rfl (g_build (vs := []) (cells := #[(.slice none 0 0)]) rfl (by rfl)) ?_; clear ha a; intro a ha
    refine o_storeA (vs := [(.slice none 0 0)]) ha hB11 Tryd.sizeOf29 rfl rfl (by intro c hc; simp only [List.mem_cons, List.not_mem_nil, or_false] at hc; rcases hc with hc <;> subst hc <;> first | rfl | exact rfl) rfl ?_; intro w31 hB32 hc33
    replace hc33 := hc33.bl
    replace hB32 : Bx w31 b9 [(.slice none 0 0)] 29 := hB32
    replace hB3 := hB3.nq hc33 q15
    have hE34 := Ext.then hE24 hc33 (Zn.bl q17)
    refine op_g ha rfl (g_assign rfl) ?_; clear ha a; intro a ha; refine wpList_nil ?_; replace ha := ha.sub (σ' := [(4, (.pointer (some ⟨b9, 0, none⟩))), (5, (.bool false))]) ⟨rfl, rfl, trivial⟩; refine e_then ?_; refine wp_ret ?_; refine e_then_ret ?_; obtain rfl := Option.some.inj hF
    exact f_retC2 (cs := [(.slice none 0 0)]) ha rfl rfl Tryd.isAgg29 Tryd.sizeOf29 hB32 rfl ⟨_, _, _, [], rfl, rfl, (Ro.nil _), (Pv.nil), rfl, hE34⟩
  replace hF := if_f hp30 hF; refine wp_skip ?_; refine e_then ?_; refine wp_seq ?_; refine wp_region_lit ?_; refine op_g ha rfl (g_loadA (cs := [va0_0]) Tryd.isAgg29 Tryd.sizeOf29 rfl (by simp) hB3.all) ?_; clear ha a; intro a ha; refine op_g ha rfl (g_move rfl) ?_; clear ha a; intro a ha; obtain ⟨x35, hc36, hF⟩ := cal_some hF
  refine o_call ha rfl rfl Tryd.call63 (W_spec_l2Of (ha0_0.ext hE24) (ha1.ext hE24) hc36) ?_; clear ha a; rintro v37 w38 ⟨u40, fp41, rfl, h42, pv43, hx39⟩ a ha
  have q45 := Nq.rd pv43 (Nq.append (Nq.new ha0_0.bnd q7) (Nq.new ha1.bnd q7)) hB3.bi
  have q46 := Nq.rd pv43 (Nq.append (Nq.new ha0_0.bnd q17) (Nq.new ha1.bnd q17)) hB11.bi
  have q47 := (Pv.call pv43 (Pv.app (Pv.par (fun _ h => List.mem_append_left _ h)) (Pv.par (fun _ h => List.mem_append_right _ h))) hE24.size : Pv (fa0_0 ++ fa1) W.heap.size fp41)
  replace hB3 := hB3.ext hx39
  replace hB11 := hB11.ext hx39
  have hE48 := Ext.trans hE24 hx39
  refine o_storeA (vs := [u40]) ha hB11 Tryd.sizeOf29 rfl rfl (by intro c hc; simp only [List.mem_cons, List.not_mem_nil, or_false] at hc; rcases hc with hc <;> subst hc <;> first | rfl | exact h42.oneC) rfl ?_; intro w49 hB50 hc51
  replace hc51 := hc51.bl
  replace hB50 : Bx w49 b9 [u40] 29 := hB50
  replace hB3 := hB3.nq hc51 q15
  replace h42 := h42.nq hc51 q46
  have hE52 := Ext.then hE48 hc51 (Zn.bl q17)
  refine op_g ha rfl (g_assign rfl) ?_; clear ha a; intro a ha; refine wpList_nil ?_; replace ha := ha.sub (σ' := [(4, (.pointer (some ⟨b9, 0, none⟩))), (5, (.bool true))]) ⟨rfl, rfl, trivial⟩; refine e_then ?_; refine wp_ret ?_; obtain rfl := Option.some.inj hF
  exact f_retC2 (cs := [u40]) ha rfl rfl Tryd.isAgg29 Tryd.sizeOf29 hB50 rfl ⟨_, _, _, _, rfl, rfl, h42, (q47), rfl, hE52⟩
set_option maxHeartbeats 2000000 in
theorem W_laws_w6Set {W : World} {va0 : Value} {ba0 : Int} {fa0 : List Nat} {a0 : ((List (BitVec 8)) × Int × Int)} (ha0 : Dc 45 W fa0 ba0 va0 a0) {va1_0 : Value} {fa1_0 : List Nat} {a1_0 : (List (List Int))} (ha1_0 : Ro (Rp.sl 2 Rp.int) W fa1_0 va1_0 a1_0) (qa1_0 : Nq fa1_0 ba0) {r : ((List Int) × ((List (BitVec 8)) × Int × Int))} (hF : F_laws_w6Set a0 a1_0 = some r) :
    Calls Tryd.prog 25 [va0, .agg #[va1_0]].toArray W (Ret fun u w' => ∃ (b_u : Int), Ow Rp.int 2 true w' [] b_u u r.1 ∧ Zn W b_u ∧ Dc 45 w' fa0 ba0 va0 r.2 ∧ Chg (bl ba0) W w') := by
  refine f_enter Tryd.func25 rfl Tryd.ntmps25 rfl ?_
  intro a ha
  replace ha : Fr 23 [(0, va0), (1, (.agg #[va1_0]))] a := ha
  have hE : Chg (bl ba0) W W := Chg.refl _ _
  unfold F_laws_w6Set at hF
  refine wp_seq ?_; refine wp_region_lit ?_
  refine o_box ha rfl rfl rfl ?_; clear ha a; intro b1 w2 hB3 hx4 hlo5 a ha
  have q6 := Zn.one hlo5
  have q7 := Nq.new ha0.fpb q6
  have q8 := Nq.made1 hlo5 ha0.blt
  have q9 := Nq.new ha1_0.bnd q6
  have q10 := Zn.upD q6 hE
  replace ha0 := ha0.ext hx4
  replace ha1_0 := ha1_0.ext hx4
  have hE11 := Chg.more hE hx4
  refine op_g ha rfl (g_assign rfl) ?_; clear ha a; intro a ha; refine wpList_nil ?_; replace ha := ha.sub (σ' := [(0, va0), (3, (.pointer (some ⟨b1, 0, none⟩)))]) ⟨rfl, rfl, trivial⟩; refine e_then ?_; refine wp_seq ?_; refine wp_region_lit ?_
  refine o_lit0 Rp.int ha rfl sl31 ?_; clear ha a; intro v12 w13 h14 hx15 a ha
  obtain ⟨b17, hb17⟩ : ∃ b : Int, b = w2.heap.size := ⟨_, rfl⟩; rw [← hb17] at h14
  have q18 := zn_of hb17
  have q19 := Nq.new ha0.fpb q18
  have q20 := Nq.madeO q18 ha0.blt
  have q21 := Nq.new ha1_0.bnd q18
  have q22 := Nq.new hB3.fpb q18
  have q23 := Nq.madeO q18 hB3.bi
  have q24 := Zn.upD q18 hE11
  replace ha0 := ha0.ext hx15
  replace ha1_0 := ha1_0.ext hx15
  replace hB3 := hB3.ext hx15
  have hE25 := Chg.more hE11 hx15
  refine op_g ha rfl (g_assign rfl) ?_; clear ha a; intro a ha; refine wpList_nil ?_; replace ha := ha.sub (σ' := [(0, va0), (3, (.pointer (some ⟨b1, 0, none⟩))), (5, v12)]) ⟨rfl, rfl, rfl, trivial⟩; refine e_then ?_; refine wp_seq ?_; refine wp_seq ?_; refine wp_region_lit ?_; refine op_g ha rfl (g_assign rfl) ?_; clear ha a; intro a ha; refine wpList_nil ?_; replace ha := ha.sub (σ' := [(0, va0), (3, (.pointer (some ⟨b1, 0, none⟩))), (5, v12), (6, (.int .i64 0))]) ⟨rfl, rfl, rfl, rfl, trivial⟩; refine e_then ?_; obtain ⟨o231, ho232, hK233⟩ := bnd_some hF
  obtain ⟨n234, hn235⟩ := lp_some ho232; clear ho232
  refine c_loop (fun a w => ∃ (l222 : (List Int)) (l226 : ((List (BitVec 8)) × Int × Int)) (v223 : Value) (b224 : Int), Fr 23 [(5, v223)] a ∧ Chg (bl ba0) W w ∧ Ow Rp.int 2 true w [] b224 v223 l222 ∧ Zn W b224 ∧ Dc 45 w fa0 ba0 va0 l226 ∧ Nq (bl b224 ++ []) ba0 ∧ Nq (bl ba0 ++ fa0) b224 ∧ o231 = .inl (l222, l226)) (fun n a w => ∃ (l120 : ((List (BitVec 8)) × Int × Int)) (l130 : (List Int)) (i133 : Int) (v131 : Value) (b132 : Int), Fr 23 [(0, va0), (3, (.pointer (some ⟨b1, 0, none⟩))), (5, v131), (6, (.int .i64 i133))] a ∧ Chg (bl ba0) W w ∧ InI i133 ∧ Dc 45 w fa0 ba0 va0 l120 ∧ Bx w b1 [va1_0] 29 ∧ Zn W (b1 : Int) ∧ Ro (Rp.sl 2 Rp.int) w fa1_0 va1_0 a1_0 ∧ Ow Rp.int 2 true w [] b132 v131 l130 ∧ Zn W b132 ∧ Nq (bl ba0 ++ fa0) (b1 : Int) ∧ Nq (bl ba0 ++ fa0) b132 ∧ Nq ([b1]) ba0 ∧ Nq ([b1]) b132 ∧ Nq (fa1_0) ba0 ∧ Nq (fa1_0) (b1 : Int) ∧ Nq (fa1_0) b132 ∧ Nq (bl b132 ++ []) ba0 ∧ Nq (bl b132 ++ []) (b1 : Int) ∧ lpN (fun s => F_laws_w6Set_l1 a1_0 s.1 s.2.1 s.2.2) n (l120, l130, i133) = some o231) n234 ⟨a0, ([] : (List Int)), 0, v12, b17, ha.sub ⟨rfl, rfl, rfl, rfl, trivial⟩, hE25, (show InI 0 from by decide), ha0, hB3, q10, ha1_0, h14, q24, q7, q19, q8, q22, qa1_0, q9, q21, q20, q23, hn235⟩ ?_ ?_
  · rintro m239 a w118 ⟨l120, l130, i133, v131, b132, ha, hE144, hI134, h119, hB123, z124, h126, h128, z129, q135, q136, q137, q138, q139, q140, q141, q142, q143, hF⟩
    cases m239 with
    | zero => exact (lpN_zero hF).elim
    | succ m239 =>
      obtain ⟨z238, hF, hN237⟩ := lpN_succ hF
      have hF : F_laws_w6Set_l1 a1_0 l120 l130 i133 = some z238 := hF; unfold F_laws_w6Set_l1 at hF
      refine wp_seq ?_; refine wp_seq ?_; refine wp_region_lit ?_; refine op_g ha rfl (g_move rfl) ?_; clear ha a; intro a ha; refine op_g ha rfl (g_field0 st29_0 rfl) ?_; clear ha a; intro a ha; refine op_g ha rfl (g_load Tryd.isAgg27 rfl (hB123.cell rfl)) ?_; clear ha a; intro a ha; refine op_g ha rfl (g_lenR sl27.und h126 rfl) ?_; clear ha a; intro a ha; refine op_g ha rfl (g_lss rfl rfl) ?_; clear ha a; intro a ha; refine wpList_nil ?_; replace ha := ha.sub (σ' := [(0, va0), (3, (.pointer (some ⟨b1, 0, none⟩))), (5, v131), (6, (.int .i64 i133)), (12, (.bool (decide (i133 < (a1_0.length : Int)))))]) ⟨rfl, rfl, rfl, rfl, rfl, trivial⟩
      refine e_then ?_; refine c_cond (i133 < (a1_0.length : Int)) ha rfl (decide_eq_true_iff) (fun hp240 => ?_) (fun hp240 => ?_)
      · replace hF := if_t hp240 hF
        refine wp_skip ?_; refine e_then ?_; refine wp_seq ?_; refine wp_block ?_; refine wp_seq ?_; refine wp_region_lit ?_; refine op_g ha rfl (g_move rfl) ?_; clear ha a; intro a ha; obtain ⟨x241, hc242, hF⟩ := cal_some hF
        refine o_call ha rfl rfl Tryd.call21 (W_laws_dice_below h119 (show InI 2 from by decide) hc242) ?_; clear ha a; rintro v243 w244 ⟨⟨rfl, hI246⟩, h247, hx245⟩ a ha
        replace hB123 := hB123.nq hx245 q137
        replace h126 := h126.nq hx245 q139
        replace h128 := h128.nq hx245 q142
        have hE248 := Chg.same hE144 hx245
        refine op_g ha rfl (g_eql rfl rfl) ?_; clear ha a; intro a ha; refine wpList_nil ?_; replace ha := ha.sub (σ' := [(0, va0), (3, (.pointer (some ⟨b1, 0, none⟩))), (5, v131), (6, (.int .i64 i133)), (17, (.bool (decide (x241.1 = 0))))]) ⟨rfl, rfl, rfl, rfl, rfl, trivial⟩; refine e_then ?_; refine c_cond (x241.1 = 0) ha rfl (decide_eq_true_iff) (fun hp249 => ?_) (fun hp249 => ?_)
        · replace hF := if_t hp249 hF
          refine wp_region_lit ?_; (iterate 2 refine op_g ha rfl (g_move rfl) ?_; clear ha a; intro a ha)
          refine o_lit1 (o := true) (y := i133) Rp.int ha rfl sl31 rfl rfl rfl ⟨rfl, hI134, rfl⟩ ?_; clear ha a; intro v250 w251 h252 hx253 a ha
          obtain ⟨b255, hb255⟩ : ∃ b : Int, b = w244.heap.size := ⟨_, rfl⟩; rw [← hb255] at h252
          have q256 := zn_of hb255
          have q257 := Nq.new h247.fpb q256
          have q258 := Nq.madeO q256 h247.blt
          have q259 := Nq.new hB123.fpb q256
          have q260 := Nq.madeO q256 hB123.bi
          have q261 := Nq.new h126.bnd q256
          have q262 := Nq.new h128.fpb q256
          have q263 := Nq.madeO q256 h128.blt
          have q264 := Zn.upD q256 hE248
          replace h247 := h247.ext hx253
          replace hB123 := hB123.ext hx253
          replace h126 := h126.ext hx253
          replace h128 := h128.ext hx253
          have hE265 := Chg.more hE248 hx253
          obtain ⟨hl266, hF⟩ := app_some hF
          refine o_append ha rfl sl31 rfl rfl rfl h128 h252.src (Nq.nil _) hl266 ?_; clear ha a; intro v267 w268 b269 h270 hc271 hb272 a ha
          replace h270 : Ow Rp.int 2 true w268 [] b269 v267 _ := h270
          have q274 := Nq.appY q136 h247.fpb hb272
          have q275 := Nq.appX q142 (Nq.nil _) hb272 h247.blt
          have q276 := Nq.appY q138 hB123.fpb hb272
          have q277 := Nq.appX q143 (Nq.nil _) hb272 hB123.bi
          have q278 := Nq.appY q141 h126.bnd hb272
          have q279 := Nq.appY q263 h252.fpb hb272
          have q280 := Nq.appX q262 (Nq.nil _) hb272 h252.blt
          have q281 := Zn.appD z129 hb272 hE265
          replace h247 := h247.nq hc271 q136
          replace hB123 := hB123.nq hc271 q138
          replace h126 := h126.nq hc271 q141
          replace h252 := h252.nq hc271 q263
          have hE282 := Chg.own hE265 hc271 (Zn.bl z129)
          refine op_g ha rfl (g_assign rfl) ?_; clear ha a; intro a ha; refine wpList_nil ?_; replace ha := ha.sub (σ' := [(0, va0), (3, (.pointer (some ⟨b1, 0, none⟩))), (5, v267), (6, (.int .i64 i133))]) ⟨rfl, rfl, rfl, rfl, trivial⟩; refine e_blk ?_; refine e_then ?_; refine wp_region_lit ?_; refine op_g ha rfl (g_move rfl) ?_; clear ha a; intro a ha; obtain ⟨hI283, hF⟩ := ck_some hF; refine op_g ha rfl (g_add rfl rfl hI283) ?_; clear ha a; intro a ha; refine op_g ha rfl (g_assign rfl) ?_; clear ha a; intro a ha; refine wpList_nil ?_; replace ha := ha.sub (σ' := [(0, va0), (3, (.pointer (some ⟨b1, 0, none⟩))), (5, v267), (6, (.int .i64 (i133 + 1)))]) ⟨rfl, rfl, rfl, rfl, trivial⟩
          refine e_lq ?_; obtain rfl := Option.some.inj hF
          exact ⟨_, Nat.lt_succ_self _, x241.2, (l130 ++ ([i133])), i133 + 1, v267, b269, ha.sub ⟨rfl, rfl, rfl, rfl, trivial⟩, hE282, hI283, h247, hB123, z124, h126, h270, q281, q135, q274, q137, q276, q139, q140, q278, q275, q277, hN237⟩
        replace hF := if_f hp249 hF; refine wp_skip ?_; refine e_blk ?_; refine e_then ?_; refine wp_region_lit ?_; refine op_g ha rfl (g_move rfl) ?_; clear ha a; intro a ha; obtain ⟨hI285, hF⟩ := ck_some hF; refine op_g ha rfl (g_add rfl rfl hI285) ?_; clear ha a; intro a ha; refine op_g ha rfl (g_assign rfl) ?_; clear ha a; intro a ha; refine wpList_nil ?_; replace ha := ha.sub (σ' := [(0, va0), (3, (.pointer (some ⟨b1, 0, none⟩))), (5, v131), (6, (.int .i64 (i133 + 1)))]) ⟨rfl, rfl, rfl, rfl, trivial⟩; refine e_lq ?_; obtain rfl := Option.some.inj hF
        exact ⟨_, Nat.lt_succ_self _, x241.2, l130, i133 + 1, v131, b132, ha.sub ⟨rfl, rfl, rfl, rfl, trivial⟩, hE248, hI285, h247, hB123, z124, h126, h128, z129, q135, q136, q137, q138, q139, q140, q141, q142, q143, hN237⟩
      replace hF := if_f hp240 hF; refine wp_exit ?_; refine e_then_exit ?_; refine e_lq_eq ?_; obtain rfl := Option.some.inj hF
      exact ⟨l130, l120, v131, b132, ha.sub ⟨rfl, trivial⟩, hE144, h128, z129, h119, q142, q136, (LK_inr hN237).symm⟩
  rintro a w218 ⟨l222, l226, v223, b224, ha, hE236, h220, z221, h225, q229, q230, rfl⟩
  have hF : F_laws_w6Set_k2 l222 l226 = some _ := hK233; clear hK233; unfold F_laws_w6Set_k2 at hF
  refine e_then ?_; refine wp_seq ?_; refine wp_region_lit ?_; refine op_g ha rfl (g_move rfl) ?_; clear ha a; intro a ha; refine op_g ha rfl (g_assign rfl) ?_; clear ha a; intro a ha; refine wpList_nil ?_; replace ha := ha.sub (σ' := [(4, v223)]) ⟨rfl, trivial⟩; refine e_then ?_; refine wp_ret ?_; obtain rfl := Option.some.inj hF
  exact f_ret1 ha rfl rfl ⟨_, h220, z221, h225, hE236⟩
set_option maxHeartbeats 2000000 in
theorem W_impl_SetOk {W : World} {va0_0 : Value} {fa0_0 : List Nat} {a0_0 : (List (List Int))} (ha0_0 : Ro (Rp.sl 2 Rp.int) W fa0_0 va0_0 a0_0) {va1 : Value} {fa1 : List Nat} {a1 : (List Int)} (ha1 : Ro Rp.int W fa1 va1 a1) {r : Bool} (hF : F_impl_SetOk a0_0 a1 = some r) :
    Calls Tryd.prog 64 [.agg #[va0_0], va1].toArray W (Ret fun u w' => u = .bool r ∧ Ext W w') := by
  refine f_enter Tryd.func64 rfl Tryd.ntmps64 rfl ?_
  intro a ha
  replace ha : Fr 14 [(0, (.agg #[va0_0])), (1, va1)] a := ha
  have hE : Chg [] W W := Chg.refl _ _
  unfold F_impl_SetOk at hF
  refine wp_seq ?_; refine wp_region_lit ?_
  refine o_box ha rfl rfl rfl ?_; clear ha a; intro b1 w2 hB3 hx4 hlo5 a ha
  have q6 := Zn.one hlo5
  have q7 := Zn.upD q6 hE
  have hE8 := Ext.trans hE hx4
  refine op_g ha rfl (g_assign rfl) ?_; clear ha a; intro a ha; refine wpList_nil ?_; replace ha := ha.sub (σ' := [(1, va1), (2, (.pointer (some ⟨b1, 0, none⟩)))]) ⟨rfl, rfl, trivial⟩; refine e_then ?_; refine wp_seq ?_; refine wp_region_lit ?_; refine op_g ha rfl (g_loadA (cs := [va0_0]) Tryd.isAgg29 Tryd.sizeOf29 rfl (by simp) hB3.all) ?_; clear ha a; intro a ha; obtain ⟨x9, hc10, hF⟩ := cal_some hF
  refine o_call ha rfl rfl Tryd.call29 (W_impl_GraphOk (ha0_0.ext hE8) hc10) ?_; clear ha a; rintro v11 w12 ⟨rfl, hx13⟩ a ha
  replace hB3 := hB3.ext hx13
  have hE14 := Ext.trans hE8 hx13
  refine op_g ha rfl (g_move rfl) ?_; clear ha a; intro a ha
  by_cases hp15 : x9 = true
  · replace hF := if_t hp15 hF
    rw [show (x9) = true from (Iff.rfl).2 hp15] at ha
    refine op_want (yields ha rfl rfl) ?_; refine op_g ha rfl (g_move rfl) ?_; clear ha a; intro a ha; refine op_want (yields ha rfl rfl) ?_; refine op_g ha rfl (g_field0 st29_0 rfl) ?_; clear ha a; intro a ha; refine op_want (yields ha rfl rfl) ?_; refine op_g ha rfl (g_load Tryd.isAgg27 rfl (hB3.cell rfl)) ?_; clear ha a; intro a ha; refine op_want (yields ha rfl rfl) ?_; refine op_g ha rfl (g_lenR sl27.und ha0_0 rfl) ?_; clear ha a; intro a ha; refine op_want (yields ha rfl rfl) ?_; obtain ⟨x16, hc17, hF⟩ := cal_some hF
    refine o_call ha rfl rfl Tryd.call72 (W_impl_increasing (ha1.ext hE14) ha0_0.len hc17) ?_; clear ha a; rintro v18 w19 ⟨rfl, hx20⟩ a ha
    replace hB3 := hB3.ext hx20
    have hE21 := Ext.trans hE14 hx20
    refine op_g ha rfl (g_pick rfl rfl) ?_; clear ha a; intro a ha; refine op_g ha rfl (g_assign rfl) ?_; clear ha a; intro a ha; refine wpList_nil ?_; replace ha := ha.sub (σ' := [(4, (.bool x16))]) ⟨rfl, trivial⟩; refine e_then ?_; refine wp_ret ?_; obtain rfl := Option.some.inj hF
    exact f_ret1 ha rfl rfl ⟨rfl, hE21⟩
  replace hF := if_f hp15 hF
  rw [show (x9) = false from b_false (Iff.rfl) hp15] at ha
  (iterate 5 refine op_unwant ha rfl (yields ha rfl rfl) rfl ?_; clear ha a; intro a ha); refine op_g ha rfl (g_pick rfl rfl) ?_; clear ha a; intro a ha; refine op_g ha rfl (g_assign rfl) ?_; clear ha a; intro a ha; refine wpList_nil ?_; replace ha := ha.sub (σ' := [(4, (.bool false))]) ⟨rfl, trivial⟩; refine e_then ?_; refine wp_ret ?_; obtain rfl := Option.some.inj hF
  exact f_ret1 ha rfl rfl ⟨rfl, hE14⟩
end Go.Proofs.YtadjcnllmkdgiaaDoor
