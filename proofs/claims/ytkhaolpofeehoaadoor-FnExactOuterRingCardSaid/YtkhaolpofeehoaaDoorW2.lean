/- Walks, printed by gen.py. -/
import Derived.Test.YtkhaolpofeehoaaDoorF
import Derived.Test.YtkhaolpofeehoaaDoorW1
import Derived.Test.YtkhaolpofeehoaaDoorProg
import Derived.KernelRfl
set_option maxRecDepth 100000
namespace Go.Proofs.YtkhaolpofeehoaaDoor
open Go Go.RowKit

set_option maxHeartbeats 2000000 in
theorem W_impl_GraphOk {W : World} {va0_0 : Value} {fa0_0 : List Nat} {a0_0 : (List (List Int))} (ha0_0 : Ro (Rp.sl 2 Rp.int) W fa0_0 va0_0 a0_0) {r : Bool} (hF : F_impl_GraphOk a0_0 = some r) :
    Calls Tryd.prog 33 [.agg #[va0_0]].toArray W (Ret fun u w' => u = .bool r ∧ Ext W w') := by
  refine f_enter Tryd.func33 rfl Tryd.ntmps33 rfl ?_
  intro a ha
  replace ha : Fr 61 [(0, (.agg #[va0_0]))] a := ha
  have hE : Chg [] W W := Chg.refl _ _
  unfold F_impl_GraphOk at hF
  refine wp_seq ?_; refine wp_region_lit ?_
  refine o_box ha rfl rfl rfl ?_; clear ha a; intro b1 w2 hB3 hx4 hlo5 a ha
  have q6 := Zn.one hlo5
  have q7 := Zn.upD q6 hE
  have hE8 := Ext.trans hE hx4
  refine op_g ha rfl (g_assign rfl) ?_; clear ha a; intro a ha; refine wpList_nil ?_; replace ha := ha.sub (σ' := [(1, (.pointer (some ⟨b1, 0, none⟩)))]) ⟨rfl, trivial⟩; refine e_then ?_; refine wp_seq ?_; refine wp_region_lit ?_; refine op_g ha rfl (g_field0 st27_0 rfl) ?_; clear ha a; intro a ha; refine op_g ha rfl (g_load Tryd.isAgg22 rfl (hB3.cell rfl)) ?_; clear ha a; intro a ha; refine op_g ha rfl (g_lenR sl22.und ha0_0 rfl) ?_; clear ha a; intro a ha; refine op_g ha rfl (g_assign rfl) ?_; clear ha a; intro a ha; refine wpList_nil ?_; replace ha := ha.sub (σ' := [(1, (.pointer (some ⟨b1, 0, none⟩))), (3, (.int .i64 (a0_0.length : Int)))]) ⟨rfl, rfl, trivial⟩
  refine e_then ?_; refine wp_seq ?_; refine wp_seq ?_; refine wp_region_lit ?_; refine op_g ha rfl (g_move rfl) ?_; clear ha a; intro a ha; refine op_g ha rfl (g_lss rfl rfl) ?_; clear ha a; intro a ha; refine op_g ha rfl (g_move rfl) ?_; clear ha a; intro a ha
  by_cases hp11 : (a0_0.length : Int) < 1
  · replace hF := if_t hp11 hF
    rw [show (decide ((a0_0.length : Int) < 1)) = true from (decide_eq_true_iff).2 hp11] at ha
    (iterate 2 refine op_unwant ha rfl (yields ha rfl rfl) rfl ?_; clear ha a; intro a ha); refine op_g ha rfl (g_pick rfl rfl) ?_; clear ha a; intro a ha; refine wpList_nil ?_; replace ha := ha.sub (σ' := [(1, (.pointer (some ⟨b1, 0, none⟩))), (3, (.int .i64 (a0_0.length : Int))), (18, (.bool true))]) ⟨rfl, rfl, rfl, trivial⟩; refine e_then ?_; refine c_true ha rfl ?_; refine wp_seq ?_; refine wp_region_lit ?_; refine op_g ha rfl (g_assign rfl) ?_; clear ha a; intro a ha; refine wpList_nil ?_; replace ha := ha.sub (σ' := [(2, (.bool false))]) ⟨rfl, trivial⟩; refine e_then ?_; refine wp_ret ?_
    refine e_then_ret ?_; obtain rfl := Option.some.inj hF
    exact f_ret1 ha rfl rfl ⟨rfl, hE8⟩
  replace hF := if_f hp11 hF
  rw [show (decide ((a0_0.length : Int) < 1)) = false from b_false (decide_eq_true_iff) hp11] at ha
  refine op_want (yields ha rfl rfl) ?_; refine op_g ha rfl (g_move rfl) ?_; clear ha a; intro a ha; refine op_want (yields ha rfl rfl) ?_; refine op_g ha rfl (g_gtr rfl rfl) ?_; clear ha a; intro a ha; refine op_g ha rfl (g_pick rfl rfl) ?_; clear ha a; intro a ha; refine wpList_nil ?_; replace ha := ha.sub (σ' := [(1, (.pointer (some ⟨b1, 0, none⟩))), (3, (.int .i64 (a0_0.length : Int))), (18, (.bool (decide (16 < (a0_0.length : Int)))))]) ⟨rfl, rfl, rfl, trivial⟩; refine e_then ?_; refine c_cond (16 < (a0_0.length : Int)) ha rfl (decide_eq_true_iff) (fun hp12 => ?_) (fun hp12 => ?_)
  · replace hF := if_t hp12 hF
    refine wp_seq ?_; refine wp_region_lit ?_; refine op_g ha rfl (g_assign rfl) ?_; clear ha a; intro a ha; refine wpList_nil ?_; replace ha := ha.sub (σ' := [(2, (.bool false))]) ⟨rfl, trivial⟩; refine e_then ?_; refine wp_ret ?_; refine e_then_ret ?_; obtain rfl := Option.some.inj hF
    exact f_ret1 ha rfl rfl ⟨rfl, hE8⟩
  replace hF := if_f hp12 hF; refine wp_skip ?_; refine e_then ?_; refine wp_seq ?_; refine wp_seq ?_; refine wp_region_lit ?_; refine op_g ha rfl (g_field0 st27_0 rfl) ?_; clear ha a; intro a ha; refine op_g ha rfl (g_load Tryd.isAgg22 rfl (hB3.cell rfl)) ?_; clear ha a; intro a ha; refine op_g ha rfl (g_lenR sl22.und ha0_0 rfl) ?_; clear ha a; intro a ha; refine op_g ha rfl (g_move rfl) ?_; clear ha a; intro a ha; refine wpList_nil ?_; replace ha := ha.sub (σ' := [(1, (.pointer (some ⟨b1, 0, none⟩))), (3, (.int .i64 (a0_0.length : Int))), (20, va0_0), (21, (.int .i64 (a0_0.length : Int))), (22, (.int .i64 0))]) ⟨rfl, rfl, rfl, rfl, rfl, trivial⟩
  refine e_then ?_; obtain ⟨o98, ho99, hK100⟩ := bnd_some hF
  obtain ⟨n101, hn102⟩ := lp_some ho99; clear ho99
  refine c_loop (fun a w => Fr 61 [(1, (.pointer (some ⟨b1, 0, none⟩)))] a ∧ Chg [] W w ∧ Bx w b1 [va0_0] 27 ∧ Zn W (b1 : Int) ∧ o98 = .inl ()) (fun n a w => ∃ (i56 : Int), Fr 61 [(1, (.pointer (some ⟨b1, 0, none⟩))), (3, (.int .i64 (a0_0.length : Int))), (20, va0_0), (21, (.int .i64 (a0_0.length : Int))), (22, (.int .i64 i56))] a ∧ Chg [] W w ∧ InI i56 ∧ Bx w b1 [va0_0] 27 ∧ Zn W (b1 : Int) ∧ lpN (fun s => F_impl_GraphOk_l1 a0_0 s) n i56 = some o98) n101 ⟨0, ha.sub ⟨rfl, rfl, rfl, rfl, rfl, trivial⟩, hE8, (show InI 0 from by decide), hB3, q7, hn102⟩ ?_ ?_
  · rintro m106 a w53 ⟨i56, ha, hE58, hI57, hB54, z55, hF⟩
    cases m106 with
    | zero => exact (lpN_zero hF).elim
    | succ m106 =>
      obtain ⟨z105, hF, hN104⟩ := lpN_succ hF
      have hF : F_impl_GraphOk_l1 a0_0 i56 = some z105 := hF; unfold F_impl_GraphOk_l1 at hF
      refine wp_seq ?_; refine wp_region_lit ?_; refine op_g ha rfl (g_lss rfl rfl) ?_; clear ha a; intro a ha; refine wpList_nil ?_; replace ha := ha.sub (σ' := [(1, (.pointer (some ⟨b1, 0, none⟩))), (3, (.int .i64 (a0_0.length : Int))), (20, va0_0), (21, (.int .i64 (a0_0.length : Int))), (22, (.int .i64 i56)), (23, (.bool (decide (i56 < (a0_0.length : Int)))))]) ⟨rfl, rfl, rfl, rfl, rfl, rfl, trivial⟩; refine e_then ?_; refine wp_seq ?_; refine c_cond (i56 < (a0_0.length : Int)) ha rfl (decide_eq_true_iff) (fun hp107 => ?_) (fun hp107 => ?_)
      · replace hF := if_t hp107 hF
        refine wp_skip ?_; refine e_then ?_; refine wp_seq ?_; refine wp_block ?_; refine wp_seq ?_; refine wp_region_lit ?_; refine op_g ha rfl (g_move rfl) ?_; clear ha a; intro a ha; obtain ⟨x108, g109, gx110, hF⟩ := idx_some hF
        obtain ⟨p111, cs112, f113, hf114, hpb115, hat116, hr117, hi118⟩ := ha0_0.at g109 gx110
        obtain ⟨v119, rfl, h120⟩ := hr117
        have h120 : Ro Rp.int W f113 v119 x108 := h120
        refine op_g ha rfl (hi118.gives sl22 rfl rfl) ?_; clear ha a; intro a ha; refine op_g ha rfl (g_load0 hE58 Tryd.isAgg31 rfl hat116.one) ?_; clear ha a; intro a ha; (iterate 2 refine op_g ha rfl (g_assign rfl) ?_; clear ha a; intro a ha); refine wpList_nil ?_; replace ha := ha.sub (σ' := [(1, (.pointer (some ⟨b1, 0, none⟩))), (3, (.int .i64 (a0_0.length : Int))), (4, (.int .i64 i56)), (5, v119), (20, va0_0), (21, (.int .i64 (a0_0.length : Int))), (22, (.int .i64 i56))]) ⟨rfl, rfl, rfl, rfl, rfl, rfl, rfl, trivial⟩; refine e_then ?_; refine wp_seq ?_; refine wp_region_lit ?_; (iterate 2 refine op_g ha rfl (g_move rfl) ?_; clear ha a; intro a ha)
        obtain ⟨x122, hc123, hF⟩ := cal_some hF
        refine o_call ha rfl rfl Tryd.call44 (W_impl_increasing (h120.ext hE58) ha0_0.len hc123) ?_; clear ha a; rintro v124 w125 ⟨rfl, hx126⟩ a ha
        replace hB54 := hB54.ext hx126
        have hE127 := Ext.trans hE58 hx126
        refine op_g ha rfl (g_not rfl) ?_; clear ha a; intro a ha; refine op_g ha rfl (g_move rfl) ?_; clear ha a; intro a ha
        by_cases hp128 : ¬ (x122 = true)
        · replace hF := if_t hp128 hF
          rw [show (!x122) = true from (n_iff (Iff.rfl)).2 hp128] at ha
          (iterate 3 refine op_unwant ha rfl (yields ha rfl rfl) rfl ?_; clear ha a; intro a ha); refine op_g ha rfl (g_pick rfl rfl) ?_; clear ha a; intro a ha; refine wpList_nil ?_; replace ha := ha.sub (σ' := [(1, (.pointer (some ⟨b1, 0, none⟩))), (3, (.int .i64 (a0_0.length : Int))), (20, va0_0), (21, (.int .i64 (a0_0.length : Int))), (22, (.int .i64 i56)), (35, (.bool true))]) ⟨rfl, rfl, rfl, rfl, rfl, rfl, trivial⟩; refine e_then ?_; refine c_true ha rfl ?_; refine wp_seq ?_; refine wp_region_lit ?_; refine op_g ha rfl (g_assign rfl) ?_; clear ha a; intro a ha; refine wpList_nil ?_; replace ha := ha.sub (σ' := [(2, (.bool false))]) ⟨rfl, trivial⟩
          refine e_then ?_; refine wp_ret ?_; refine e_blk_ret ?_; refine e_then_ret ?_; refine e_lq_ret ?_; refine e_then_ret ?_; obtain rfl := Option.some.inj hF
          have e129 := LK_inr hN104; subst e129
          have e130 := BK_inr hK100; subst e130
          exact f_ret1 ha rfl rfl ⟨rfl, hE127⟩
        replace hF := if_f hp128 hF
        rw [show (!x122) = false from b_false (n_iff (Iff.rfl)) hp128] at ha
        refine op_want (yields ha rfl rfl) ?_; refine op_g ha rfl (g_move rfl) ?_; clear ha a; intro a ha; refine op_want (yields ha rfl rfl) ?_; refine op_g ha rfl (g_move rfl) ?_; clear ha a; intro a ha; refine op_want (yields ha rfl rfl) ?_; obtain ⟨x131, hc132, hF⟩ := cal_some hF
        refine o_call ha rfl rfl Tryd.call45 (W_slices_Contains_int64 (h120.ext hE127) hI57 hc132) ?_; clear ha a; rintro v133 w134 ⟨rfl, hx135⟩ a ha
        replace hB54 := hB54.ext hx135
        have hE136 := Ext.trans hE127 hx135
        refine op_g ha rfl (g_pick rfl rfl) ?_; clear ha a; intro a ha; refine wpList_nil ?_; replace ha := ha.sub (σ' := [(1, (.pointer (some ⟨b1, 0, none⟩))), (3, (.int .i64 (a0_0.length : Int))), (20, va0_0), (21, (.int .i64 (a0_0.length : Int))), (22, (.int .i64 i56)), (32, v119), (33, (.int .i64 i56)), (34, (.bool x131)), (35, (.bool x131))]) ⟨rfl, rfl, rfl, rfl, rfl, rfl, rfl, rfl, rfl, trivial⟩; refine e_then ?_; refine c_cond (x131 = true) ha rfl (Iff.rfl) (fun hp137 => ?_) (fun hp137 => ?_)
        · replace hF := if_t hp137 hF
          refine wp_seq ?_; refine wp_region_lit ?_; refine op_g ha rfl (g_assign rfl) ?_; clear ha a; intro a ha; refine wpList_nil ?_; replace ha := ha.sub (σ' := [(2, (.bool false))]) ⟨rfl, trivial⟩; refine e_then ?_; refine wp_ret ?_; refine e_blk_ret ?_; refine e_then_ret ?_; refine e_lq_ret ?_; refine e_then_ret ?_; obtain rfl := Option.some.inj hF
          have e138 := LK_inr hN104; subst e138
          have e139 := BK_inr hK100; subst e139
          exact f_ret1 ha rfl rfl ⟨rfl, hE136⟩
        replace hF := if_f hp137 hF; refine wp_skip ?_; refine e_blk ?_; refine e_then ?_; refine wp_region_lit ?_; obtain ⟨hI140, hF⟩ := ck_some hF; refine op_g ha rfl (g_add rfl rfl hI140) ?_; clear ha a; intro a ha; refine op_g ha rfl (g_move rfl) ?_; clear ha a; intro a ha; refine wpList_nil ?_; replace ha := ha.sub (σ' := [(1, (.pointer (some ⟨b1, 0, none⟩))), (3, (.int .i64 (a0_0.length : Int))), (20, va0_0), (21, (.int .i64 (a0_0.length : Int))), (22, (.int .i64 (i56 + 1))), (32, v119), (33, (.int .i64 i56)), (34, (.bool x131))]) ⟨rfl, rfl, rfl, rfl, rfl, rfl, rfl, rfl, trivial⟩; refine e_lq ?_
        obtain rfl := Option.some.inj hF
        exact ⟨_, Nat.lt_succ_self _, i56 + 1, ha.sub ⟨rfl, rfl, rfl, rfl, rfl, trivial⟩, hE136, hI140, hB54, z55, hN104⟩
      replace hF := if_f hp107 hF; refine wp_exit ?_; refine e_then_exit ?_; refine e_lq_eq ?_; obtain rfl := Option.some.inj hF
      exact ⟨ha.sub ⟨rfl, trivial⟩, hE58, hB54, z55, (LK_inr hN104).symm⟩
  rintro a w95 ⟨ha, hE103, hB96, z97, rfl⟩
  have hF : F_impl_GraphOk_k2 a0_0 = some _ := hK100; clear hK100; unfold F_impl_GraphOk_k2 at hF
  refine e_then ?_; refine wp_seq ?_; refine wp_seq ?_; refine wp_region_lit ?_; refine op_g ha rfl (g_field0 st27_0 rfl) ?_; clear ha a; intro a ha; refine op_g ha rfl (g_load Tryd.isAgg22 rfl (hB96.cell rfl)) ?_; clear ha a; intro a ha; refine op_g ha rfl (g_lenR sl22.und ha0_0 rfl) ?_; clear ha a; intro a ha; refine op_g ha rfl (g_move rfl) ?_; clear ha a; intro a ha; refine wpList_nil ?_; replace ha := ha.sub (σ' := [(1, (.pointer (some ⟨b1, 0, none⟩))), (38, va0_0), (39, (.int .i64 (a0_0.length : Int))), (40, (.int .i64 0))]) ⟨rfl, rfl, rfl, rfl, trivial⟩; refine e_then ?_; obtain ⟨o477, ho478, hK479⟩ := bnd_some hF
  obtain ⟨n480, hn481⟩ := lp_some ho478; clear ho478
  refine c_loop (fun a w => Fr 61 [] a ∧ Chg [] W w ∧ o477 = .inl ()) (fun n a w => ∃ (i311 : Int), Fr 61 [(1, (.pointer (some ⟨b1, 0, none⟩))), (38, va0_0), (39, (.int .i64 (a0_0.length : Int))), (40, (.int .i64 i311))] a ∧ Chg [] W w ∧ InI i311 ∧ Bx w b1 [va0_0] 27 ∧ Zn W (b1 : Int) ∧ lpN (fun s => F_impl_GraphOk_l3 a0_0 s) n i311 = some o477) n480 ⟨0, ha.sub ⟨rfl, rfl, rfl, rfl, trivial⟩, hE103, (show InI 0 from by decide), hB96, z97, hn481⟩ ?_ ?_
  · rintro m485 a w308 ⟨i311, ha, hE313, hI312, hB309, z310, hF⟩
    cases m485 with
    | zero => exact (lpN_zero hF).elim
    | succ m485 =>
      obtain ⟨z484, hF, hN483⟩ := lpN_succ hF
      have hF : F_impl_GraphOk_l3 a0_0 i311 = some z484 := hF; unfold F_impl_GraphOk_l3 at hF
      refine wp_seq ?_; refine wp_region_lit ?_; refine op_g ha rfl (g_lss rfl rfl) ?_; clear ha a; intro a ha; refine wpList_nil ?_; replace ha := ha.sub (σ' := [(1, (.pointer (some ⟨b1, 0, none⟩))), (38, va0_0), (39, (.int .i64 (a0_0.length : Int))), (40, (.int .i64 i311)), (41, (.bool (decide (i311 < (a0_0.length : Int)))))]) ⟨rfl, rfl, rfl, rfl, rfl, trivial⟩; refine e_then ?_; refine wp_seq ?_; refine c_cond (i311 < (a0_0.length : Int)) ha rfl (decide_eq_true_iff) (fun hp486 => ?_) (fun hp486 => ?_)
      · replace hF := if_t hp486 hF
        refine wp_skip ?_; refine e_then ?_; refine wp_seq ?_; refine wp_block ?_; refine wp_seq ?_; refine wp_region_lit ?_; refine op_g ha rfl (g_move rfl) ?_; clear ha a; intro a ha; obtain ⟨x487, g488, gx489, hF⟩ := idx_some hF
        obtain ⟨p490, cs491, f492, hf493, hpb494, hat495, hr496, hi497⟩ := ha0_0.at g488 gx489
        obtain ⟨v498, rfl, h499⟩ := hr496
        have h499 : Ro Rp.int W f492 v498 x487 := h499
        refine op_g ha rfl (hi497.gives sl22 rfl rfl) ?_; clear ha a; intro a ha; refine op_g ha rfl (g_load0 hE313 Tryd.isAgg31 rfl hat495.one) ?_; clear ha a; intro a ha; (iterate 2 refine op_g ha rfl (g_assign rfl) ?_; clear ha a; intro a ha); refine wpList_nil ?_; replace ha := ha.sub (σ' := [(1, (.pointer (some ⟨b1, 0, none⟩))), (6, (.int .i64 i311)), (7, v498), (38, va0_0), (39, (.int .i64 (a0_0.length : Int))), (40, (.int .i64 i311))]) ⟨rfl, rfl, rfl, rfl, rfl, rfl, trivial⟩; refine e_then ?_; refine wp_seq ?_; refine wp_region_lit ?_; refine op_g ha rfl (g_move rfl) ?_; clear ha a; intro a ha
        refine op_g ha rfl (g_lenR sl31.und h499 rfl) ?_; clear ha a; intro a ha; refine op_g ha rfl (g_move rfl) ?_; clear ha a; intro a ha; refine wpList_nil ?_; replace ha := ha.sub (σ' := [(1, (.pointer (some ⟨b1, 0, none⟩))), (6, (.int .i64 i311)), (38, va0_0), (39, (.int .i64 (a0_0.length : Int))), (40, (.int .i64 i311)), (45, v498), (46, (.int .i64 (x487.length : Int))), (47, (.int .i64 0))]) ⟨rfl, rfl, rfl, rfl, rfl, rfl, rfl, rfl, trivial⟩; refine e_then ?_; obtain ⟨o596, ho597, hK598⟩ := bnd_some hF
        obtain ⟨n599, hn600⟩ := lp_some ho597; clear ho597
        refine c_loop (fun a w => Fr 61 [(1, (.pointer (some ⟨b1, 0, none⟩))), (38, va0_0), (39, (.int .i64 (a0_0.length : Int))), (40, (.int .i64 i311))] a ∧ Chg [] W w ∧ Bx w b1 [va0_0] 27 ∧ Zn W (b1 : Int) ∧ o596 = .inl ()) (fun n a w => ∃ (i549 : Int), Fr 61 [(1, (.pointer (some ⟨b1, 0, none⟩))), (6, (.int .i64 i311)), (38, va0_0), (39, (.int .i64 (a0_0.length : Int))), (40, (.int .i64 i311)), (45, v498), (46, (.int .i64 (x487.length : Int))), (47, (.int .i64 i549))] a ∧ Chg [] W w ∧ InI i549 ∧ Bx w b1 [va0_0] 27 ∧ Zn W (b1 : Int) ∧ lpN (fun s => F_impl_GraphOk_l4 a0_0 i311 x487 s) n i549 = some o596) n599 ⟨0, ha.sub ⟨rfl, rfl, rfl, rfl, rfl, rfl, rfl, rfl, trivial⟩, hE313, (show InI 0 from by decide), hB309, z310, hn600⟩ ?_ ?_
        · rintro m604 a w546 ⟨i549, ha, hE551, hI550, hB547, z548, hF⟩
          cases m604 with
          | zero => exact (lpN_zero hF).elim
          | succ m604 =>
            obtain ⟨z603, hF, hN602⟩ := lpN_succ hF
            have hF : F_impl_GraphOk_l4 a0_0 i311 x487 i549 = some z603 := hF; unfold F_impl_GraphOk_l4 at hF
            refine wp_seq ?_; refine wp_region_lit ?_; refine op_g ha rfl (g_lss rfl rfl) ?_; clear ha a; intro a ha; refine wpList_nil ?_; replace ha := ha.sub (σ' := [(1, (.pointer (some ⟨b1, 0, none⟩))), (6, (.int .i64 i311)), (38, va0_0), (39, (.int .i64 (a0_0.length : Int))), (40, (.int .i64 i311)), (45, v498), (46, (.int .i64 (x487.length : Int))), (47, (.int .i64 i549)), (48, (.bool (decide (i549 < (x487.length : Int)))))]) ⟨rfl, rfl, rfl, rfl, rfl, rfl, rfl, rfl, rfl, trivial⟩; refine e_then ?_; refine wp_seq ?_; refine c_cond (i549 < (x487.length : Int)) ha rfl (decide_eq_true_iff) (fun hp605 => ?_) (fun hp605 => ?_)
            · replace hF := if_t hp605 hF
              refine wp_skip ?_; refine e_then ?_; refine wp_seq ?_; refine wp_block ?_; refine wp_seq ?_; refine wp_region_lit ?_; obtain ⟨x606, g607, gx608, hF⟩ := idx_some hF
              obtain ⟨p609, cs610, f611, hf612, hpb613, hat614, hr615, hi616⟩ := h499.at g607 gx608
              obtain ⟨rfl, hI617, rfl⟩ := hr615
              refine op_g ha rfl (hi616.gives sl31 rfl rfl) ?_; clear ha a; intro a ha; refine op_g ha rfl (g_load0 hE551 Tryd.isAgg2 rfl hat614.one) ?_; clear ha a; intro a ha; refine op_g ha rfl (g_assign rfl) ?_; clear ha a; intro a ha; refine wpList_nil ?_; replace ha := ha.sub (σ' := [(1, (.pointer (some ⟨b1, 0, none⟩))), (6, (.int .i64 i311)), (9, (.int .i64 x606)), (38, va0_0), (39, (.int .i64 (a0_0.length : Int))), (40, (.int .i64 i311)), (45, v498), (46, (.int .i64 (x487.length : Int))), (47, (.int .i64 i549))]) ⟨rfl, rfl, rfl, rfl, rfl, rfl, rfl, rfl, rfl, trivial⟩; refine e_then ?_; refine wp_seq ?_
              refine wp_region_lit ?_; refine op_g ha rfl (g_field0 st27_0 rfl) ?_; clear ha a; intro a ha; refine op_g ha rfl (g_load Tryd.isAgg22 rfl (hB547.cell rfl)) ?_; clear ha a; intro a ha; refine op_g ha rfl (g_move rfl) ?_; clear ha a; intro a ha; obtain ⟨x618, g619, gx620, hF⟩ := idx_some hF
              obtain ⟨p621, cs622, f623, hf624, hpb625, hat626, hr627, hi628⟩ := ha0_0.at g619 gx620
              obtain ⟨v629, rfl, h630⟩ := hr627
              have h630 : Ro Rp.int W f623 v629 x618 := h630
              refine op_g ha rfl (hi628.gives sl22 rfl rfl) ?_; clear ha a; intro a ha; refine op_g ha rfl (g_load0 hE551 Tryd.isAgg31 rfl hat626.one) ?_; clear ha a; intro a ha; refine op_g ha rfl (g_move rfl) ?_; clear ha a; intro a ha; obtain ⟨x632, hc633, hF⟩ := cal_some hF
              refine o_call ha rfl rfl Tryd.call45 (W_slices_Contains_int64 (h630.ext hE551) hI312 hc633) ?_; clear ha a; rintro v634 w635 ⟨rfl, hx636⟩ a ha
              replace hB547 := hB547.ext hx636
              have hE637 := Ext.trans hE551 hx636
              refine op_g ha rfl (g_not rfl) ?_; clear ha a; intro a ha; refine wpList_nil ?_; replace ha := ha.sub (σ' := [(1, (.pointer (some ⟨b1, 0, none⟩))), (6, (.int .i64 i311)), (38, va0_0), (39, (.int .i64 (a0_0.length : Int))), (40, (.int .i64 i311)), (45, v498), (46, (.int .i64 (x487.length : Int))), (47, (.int .i64 i549)), (58, (.bool (!x632)))]) ⟨rfl, rfl, rfl, rfl, rfl, rfl, rfl, rfl, rfl, trivial⟩; refine e_then ?_; refine c_cond (¬ (x632 = true)) ha rfl (n_iff (Iff.rfl)) (fun hp638 => ?_) (fun hp638 => ?_)
              · replace hF := if_t hp638 hF
                refine wp_seq ?_; refine wp_region_lit ?_; refine op_g ha rfl (g_assign rfl) ?_; clear ha a; intro a ha; refine wpList_nil ?_; replace ha := ha.sub (σ' := [(2, (.bool false))]) ⟨rfl, trivial⟩; refine e_then ?_; refine wp_ret ?_; refine e_blk_ret ?_; refine e_then_ret ?_; refine e_lq_ret ?_; refine e_blk_ret ?_; refine e_then_ret ?_; refine e_lq_ret ?_; refine e_then_ret ?_; obtain rfl := Option.some.inj hF
                have e639 := LK_inr hN602; subst e639
                have e640 := BK_inr hK598; subst e640
                have e641 := LK_inr hN483; subst e641
                have e642 := BK_inr hK479; subst e642
                exact f_ret1 ha rfl rfl ⟨rfl, hE637⟩
              replace hF := if_f hp638 hF; refine wp_skip ?_; refine e_blk ?_; refine e_then ?_; refine wp_region_lit ?_; obtain ⟨hI643, hF⟩ := ck_some hF; refine op_g ha rfl (g_add rfl rfl hI643) ?_; clear ha a; intro a ha; refine op_g ha rfl (g_move rfl) ?_; clear ha a; intro a ha; refine wpList_nil ?_; replace ha := ha.sub (σ' := [(1, (.pointer (some ⟨b1, 0, none⟩))), (6, (.int .i64 i311)), (38, va0_0), (39, (.int .i64 (a0_0.length : Int))), (40, (.int .i64 i311)), (45, v498), (46, (.int .i64 (x487.length : Int))), (47, (.int .i64 (i549 + 1)))]) ⟨rfl, rfl, rfl, rfl, rfl, rfl, rfl, rfl, trivial⟩
              refine e_lq ?_; obtain rfl := Option.some.inj hF
              exact ⟨_, Nat.lt_succ_self _, i549 + 1, ha.sub ⟨rfl, rfl, rfl, rfl, rfl, rfl, rfl, rfl, trivial⟩, hE637, hI643, hB547, z548, hN602⟩
            replace hF := if_f hp605 hF; refine wp_exit ?_; refine e_then_exit ?_; refine e_lq_eq ?_; obtain rfl := Option.some.inj hF
            exact ⟨ha.sub ⟨rfl, rfl, rfl, rfl, trivial⟩, hE551, hB547, z548, (LK_inr hN602).symm⟩
        rintro a w593 ⟨ha, hE601, hB594, z595, rfl⟩
        have hF : F_impl_GraphOk_k5 i311 = some _ := hK598; clear hK598; unfold F_impl_GraphOk_k5 at hF
        refine e_blk ?_; refine e_then ?_; refine wp_region_lit ?_; obtain ⟨hI645, hF⟩ := ck_some hF; refine op_g ha rfl (g_add rfl rfl hI645) ?_; clear ha a; intro a ha; refine op_g ha rfl (g_move rfl) ?_; clear ha a; intro a ha; refine wpList_nil ?_; replace ha := ha.sub (σ' := [(1, (.pointer (some ⟨b1, 0, none⟩))), (38, va0_0), (39, (.int .i64 (a0_0.length : Int))), (40, (.int .i64 (i311 + 1)))]) ⟨rfl, rfl, rfl, rfl, trivial⟩; refine e_lq ?_; obtain rfl := Option.some.inj hF
        exact ⟨_, Nat.lt_succ_self _, i311 + 1, ha.sub ⟨rfl, rfl, rfl, rfl, trivial⟩, hE601, hI645, hB594, z595, hN483⟩
      replace hF := if_f hp486 hF; refine wp_exit ?_; refine e_then_exit ?_; refine e_lq_eq ?_; obtain rfl := Option.some.inj hF
      exact ⟨ha.sub trivial, hE313, (LK_inr hN483).symm⟩
  rintro a w476 ⟨ha, hE482, rfl⟩
  have hF : F_impl_GraphOk_k6 = some _ := hK479; clear hK479; unfold F_impl_GraphOk_k6 at hF
  refine e_then ?_; refine wp_seq ?_; refine wp_region_lit ?_; refine op_g ha rfl (g_assign rfl) ?_; clear ha a; intro a ha; refine wpList_nil ?_; refine e_then ?_; refine wp_ret ?_; obtain rfl := Option.some.inj hF
  exact f_ret1 ha rfl rfl ⟨rfl, hE482⟩
set_option maxHeartbeats 2000000 in
theorem W_impl_isSmall {W : World} {va0_0 : Value} {fa0_0 : List Nat} {a0_0 : (List (List Int))} (ha0_0 : Ro (Rp.sl 2 Rp.int) W fa0_0 va0_0 a0_0) {r : Bool} (hF : F_impl_isSmall a0_0 = some r) :
    Calls Tryd.prog 24 [.agg #[va0_0]].toArray W (Ret fun u w' => u = .bool r ∧ Ext W w') := by
  refine f_enter Tryd.func24 rfl Tryd.ntmps24 rfl ?_
  intro a ha
  replace ha : Fr 11 [(0, (.agg #[va0_0]))] a := ha
  have hE : Chg [] W W := Chg.refl _ _
  unfold F_impl_isSmall at hF
  refine wp_seq ?_; refine wp_region_lit ?_
  refine o_box ha rfl rfl rfl ?_; clear ha a; intro b1 w2 hB3 hx4 hlo5 a ha
  have q6 := Zn.one hlo5
  have q7 := Zn.upD q6 hE
  have hE8 := Ext.trans hE hx4
  refine op_g ha rfl (g_assign rfl) ?_; clear ha a; intro a ha; refine wpList_nil ?_; replace ha := ha.sub (σ' := [(1, (.pointer (some ⟨b1, 0, none⟩)))]) ⟨rfl, trivial⟩; refine e_then ?_; refine wp_seq ?_; refine wp_region_lit ?_; refine op_g ha rfl (g_loadA (cs := [va0_0]) Tryd.isAgg27 Tryd.sizeOf27 rfl (by simp) hB3.all) ?_; clear ha a; intro a ha; obtain ⟨x9, hc10, hF⟩ := cal_some hF
  refine o_call ha rfl rfl Tryd.call33 (W_impl_GraphOk (ha0_0.ext hE8) hc10) ?_; clear ha a; rintro v11 w12 ⟨rfl, hx13⟩ a ha
  replace hB3 := hB3.ext hx13
  have hE14 := Ext.trans hE8 hx13
  refine op_g ha rfl (g_move rfl) ?_; clear ha a; intro a ha
  by_cases hp15 : x9 = true
  · replace hF := if_t hp15 hF
    rw [show (x9) = true from (Iff.rfl).2 hp15] at ha
    refine op_want (yields ha rfl rfl) ?_; refine op_g ha rfl (g_field0 st27_0 rfl) ?_; clear ha a; intro a ha; refine op_want (yields ha rfl rfl) ?_; refine op_g ha rfl (g_load Tryd.isAgg22 rfl (hB3.cell rfl)) ?_; clear ha a; intro a ha; refine op_want (yields ha rfl rfl) ?_; refine op_g ha rfl (g_lenR sl22.und ha0_0 rfl) ?_; clear ha a; intro a ha; refine op_want (yields ha rfl rfl) ?_; refine op_g ha rfl (g_leq rfl rfl) ?_; clear ha a; intro a ha; refine op_g ha rfl (g_pick rfl rfl) ?_; clear ha a; intro a ha; refine op_g ha rfl (g_assign rfl) ?_; clear ha a; intro a ha; refine wpList_nil ?_
    replace ha := ha.sub (σ' := [(2, (.bool (decide ((a0_0.length : Int) ≤ 8))))]) ⟨rfl, trivial⟩; refine e_then ?_; refine wp_ret ?_; obtain rfl := Option.some.inj hF
    exact f_ret1 ha rfl rfl ⟨rfl, hE14⟩
  replace hF := if_f hp15 hF
  rw [show (x9) = false from b_false (Iff.rfl) hp15] at ha
  (iterate 4 refine op_unwant ha rfl (yields ha rfl rfl) rfl ?_; clear ha a; intro a ha); refine op_g ha rfl (g_pick rfl rfl) ?_; clear ha a; intro a ha; refine op_g ha rfl (g_assign rfl) ?_; clear ha a; intro a ha; refine wpList_nil ?_; replace ha := ha.sub (σ' := [(2, (.bool false))]) ⟨rfl, trivial⟩; refine e_then ?_; refine wp_ret ?_; obtain rfl := Option.some.inj hF
  exact f_ret1 ha rfl rfl ⟨rfl, hE14⟩
set_option maxHeartbeats 2000000 in
theorem W_impl_edgesOf {W : World} {va0_0 : Value} {fa0_0 : List Nat} {a0_0 : (List (List Int))} (ha0_0 : Ro (Rp.sl 2 Rp.int) W fa0_0 va0_0 a0_0) {r : (List (List Int))} (hF : F_impl_edgesOf a0_0 = some r) :
    Calls Tryd.prog 34 [.agg #[va0_0]].toArray W (Ret fun u w' => ∃ (b_u : Int) (fs_u : List Nat), Ow (Rp.sl 2 Rp.int) 31 true w' fs_u b_u u r ∧ Zn W b_u ∧ (∀ k ∈ fs_u, W.heap.size ≤ k) ∧ (bl b_u ++ fs_u).Nodup ∧ Ext W w') := by
  refine f_enter Tryd.func34 rfl Tryd.ntmps34 rfl ?_
  intro a ha
  replace ha : Fr 35 [(0, (.agg #[va0_0]))] a := ha
  have hE : Chg [] W W := Chg.refl _ _
  unfold F_impl_edgesOf at hF
  refine wp_seq ?_; refine wp_region_lit ?_
  refine o_box ha rfl rfl rfl ?_; clear ha a; intro b1 w2 hB3 hx4 hlo5 a ha
  have q6 := Zn.one hlo5
  have q7 := Zn.upD q6 hE
  have hE8 := Ext.trans hE hx4
  refine op_g ha rfl (g_assign rfl) ?_; clear ha a; intro a ha; refine wpList_nil ?_; replace ha := ha.sub (σ' := [(1, (.pointer (some ⟨b1, 0, none⟩)))]) ⟨rfl, trivial⟩; refine e_then ?_; refine wp_seq ?_; refine wp_region_lit ?_
  refine o_lit0 (Rp.sl 2 Rp.int) ha rfl sl22 ?_; clear ha a; intro v9 w10 h11 hx12 a ha
  obtain ⟨b14, hb14⟩ : ∃ b : Int, b = w2.heap.size := ⟨_, rfl⟩; rw [← hb14] at h11
  have q15 := zn_of hb14
  have q16 := Nq.new hB3.fpb q15
  have q17 := Nq.madeO q15 hB3.bi
  have q18 := Zn.upD q15 hE8
  replace hB3 := hB3.ext hx12
  have hE19 := Ext.trans hE8 hx12
  refine op_g ha rfl (g_assign rfl) ?_; clear ha a; intro a ha; refine wpList_nil ?_; replace ha := ha.sub (σ' := [(1, (.pointer (some ⟨b1, 0, none⟩))), (3, v9)]) ⟨rfl, rfl, trivial⟩; refine e_then ?_; refine wp_seq ?_; refine wp_seq ?_; refine wp_region_lit ?_; refine op_g ha rfl (g_field0 st27_0 rfl) ?_; clear ha a; intro a ha; refine op_g ha rfl (g_load Tryd.isAgg22 rfl (hB3.cell rfl)) ?_; clear ha a; intro a ha; refine op_g ha rfl (g_lenR sl22.und ha0_0 rfl) ?_; clear ha a; intro a ha; refine op_g ha rfl (g_move rfl) ?_; clear ha a; intro a ha; refine wpList_nil ?_; replace ha := ha.sub (σ' := [(3, v9), (10, va0_0), (11, (.int .i64 (a0_0.length : Int))), (12, (.int .i64 0))]) ⟨rfl, rfl, rfl, rfl, trivial⟩
  refine e_then ?_; obtain ⟨o579, ho580, hK581⟩ := bnd_some hF
  obtain ⟨n582, hn583⟩ := lp_some ho580; clear ho580
  refine c_loop (fun a w => ∃ (l576 : (List (List Int))) (fs573 : List Nat) (v577 : Value) (b578 : Int), Fr 35 [(3, v577)] a ∧ Chg [] W w ∧ Ow (Rp.sl 2 Rp.int) 31 true w fs573 b578 v577 l576 ∧ Zn W b578 ∧ (∀ k ∈ fs573, W.heap.size ≤ k) ∧ (bl b578 ++ fs573).Nodup ∧ o579 = .inl l576) (fun n a w => ∃ (l299 : (List (List Int))) (i302 : Int) (fs296 : List Nat) (v300 : Value) (b301 : Int), Fr 35 [(3, v300), (10, va0_0), (11, (.int .i64 (a0_0.length : Int))), (12, (.int .i64 i302))] a ∧ Chg [] W w ∧ InI i302 ∧ Ow (Rp.sl 2 Rp.int) 31 true w fs296 b301 v300 l299 ∧ Zn W b301 ∧ (∀ k ∈ fs296, W.heap.size ≤ k) ∧ (bl b301 ++ fs296).Nodup ∧ lpN (fun s => F_impl_edgesOf_l1 a0_0 s.1 s.2) n (l299, i302) = some o579) n582 ⟨([] : (List (List Int))), 0, [], v9, b14, ha.sub ⟨rfl, rfl, rfl, rfl, trivial⟩, hE19, (show InI 0 from by decide), h11, q18, (zf_nil _), (bl_nodup b14), hn583⟩ ?_ ?_
  · rintro m587 a w292 ⟨l299, i302, fs296, v300, b301, ha, hE304, hI303, h294, z295, zf297, nd298, hF⟩
    cases m587 with
    | zero => exact (lpN_zero hF).elim
    | succ m587 =>
      obtain ⟨z586, hF, hN585⟩ := lpN_succ hF
      have hF : F_impl_edgesOf_l1 a0_0 l299 i302 = some z586 := hF; unfold F_impl_edgesOf_l1 at hF
      refine wp_seq ?_; refine wp_region_lit ?_; refine op_g ha rfl (g_lss rfl rfl) ?_; clear ha a; intro a ha; refine wpList_nil ?_; replace ha := ha.sub (σ' := [(3, v300), (10, va0_0), (11, (.int .i64 (a0_0.length : Int))), (12, (.int .i64 i302)), (13, (.bool (decide (i302 < (a0_0.length : Int)))))]) ⟨rfl, rfl, rfl, rfl, rfl, trivial⟩; refine e_then ?_; refine wp_seq ?_; refine c_cond (i302 < (a0_0.length : Int)) ha rfl (decide_eq_true_iff) (fun hp588 => ?_) (fun hp588 => ?_)
      · replace hF := if_t hp588 hF
        refine wp_skip ?_; refine e_then ?_; refine wp_seq ?_; refine wp_block ?_; refine wp_seq ?_; refine wp_region_lit ?_; refine op_g ha rfl (g_move rfl) ?_; clear ha a; intro a ha; obtain ⟨x589, g590, gx591, hF⟩ := idx_some hF
        obtain ⟨p592, cs593, f594, hf595, hpb596, hat597, hr598, hi599⟩ := ha0_0.at g590 gx591
        obtain ⟨v600, rfl, h601⟩ := hr598
        have h601 : Ro Rp.int W f594 v600 x589 := h601
        refine op_g ha rfl (hi599.gives sl22 rfl rfl) ?_; clear ha a; intro a ha; refine op_g ha rfl (g_load0 hE304 Tryd.isAgg31 rfl hat597.one) ?_; clear ha a; intro a ha; (iterate 2 refine op_g ha rfl (g_assign rfl) ?_; clear ha a; intro a ha); refine wpList_nil ?_; replace ha := ha.sub (σ' := [(3, v300), (4, (.int .i64 i302)), (5, v600), (10, va0_0), (11, (.int .i64 (a0_0.length : Int))), (12, (.int .i64 i302))]) ⟨rfl, rfl, rfl, rfl, rfl, rfl, trivial⟩; refine e_then ?_; refine wp_seq ?_; refine wp_region_lit ?_; refine op_g ha rfl (g_move rfl) ?_; clear ha a; intro a ha; refine op_g ha rfl (g_lenR sl31.und h601 rfl) ?_; clear ha a; intro a ha
        refine op_g ha rfl (g_move rfl) ?_; clear ha a; intro a ha; refine wpList_nil ?_; replace ha := ha.sub (σ' := [(3, v300), (4, (.int .i64 i302)), (10, va0_0), (11, (.int .i64 (a0_0.length : Int))), (12, (.int .i64 i302)), (17, v600), (18, (.int .i64 (x589.length : Int))), (19, (.int .i64 0))]) ⟨rfl, rfl, rfl, rfl, rfl, rfl, rfl, rfl, trivial⟩; refine e_then ?_; obtain ⟨o772, ho773, hK774⟩ := bnd_some hF
        obtain ⟨n775, hn776⟩ := lp_some ho773; clear ho773
        refine c_loop (fun a w => ∃ (l769 : (List (List Int))) (fs766 : List Nat) (v770 : Value) (b771 : Int), Fr 35 [(3, v770), (10, va0_0), (11, (.int .i64 (a0_0.length : Int))), (12, (.int .i64 i302))] a ∧ Chg [] W w ∧ Ow (Rp.sl 2 Rp.int) 31 true w fs766 b771 v770 l769 ∧ Zn W b771 ∧ (∀ k ∈ fs766, W.heap.size ≤ k) ∧ (bl b771 ++ fs766).Nodup ∧ o772 = .inl l769) (fun n a w => ∃ (l687 : (List (List Int))) (i690 : Int) (fs684 : List Nat) (v688 : Value) (b689 : Int), Fr 35 [(3, v688), (4, (.int .i64 i302)), (10, va0_0), (11, (.int .i64 (a0_0.length : Int))), (12, (.int .i64 i302)), (17, v600), (18, (.int .i64 (x589.length : Int))), (19, (.int .i64 i690))] a ∧ Chg [] W w ∧ InI i690 ∧ Ow (Rp.sl 2 Rp.int) 31 true w fs684 b689 v688 l687 ∧ Zn W b689 ∧ (∀ k ∈ fs684, W.heap.size ≤ k) ∧ (bl b689 ++ fs684).Nodup ∧ lpN (fun s => F_impl_edgesOf_l2 i302 x589 s.1 s.2) n (l687, i690) = some o772) n775 ⟨l299, 0, fs296, v300, b301, ha.sub ⟨rfl, rfl, rfl, rfl, rfl, rfl, rfl, rfl, trivial⟩, hE304, (show InI 0 from by decide), h294, z295, zf297, nd298, hn776⟩ ?_ ?_
        · rintro m780 a w680 ⟨l687, i690, fs684, v688, b689, ha, hE692, hI691, h682, z683, zf685, nd686, hF⟩
          cases m780 with
          | zero => exact (lpN_zero hF).elim
          | succ m780 =>
            obtain ⟨z779, hF, hN778⟩ := lpN_succ hF
            have hF : F_impl_edgesOf_l2 i302 x589 l687 i690 = some z779 := hF; unfold F_impl_edgesOf_l2 at hF
            refine wp_seq ?_; refine wp_region_lit ?_; refine op_g ha rfl (g_lss rfl rfl) ?_; clear ha a; intro a ha; refine wpList_nil ?_; replace ha := ha.sub (σ' := [(3, v688), (4, (.int .i64 i302)), (10, va0_0), (11, (.int .i64 (a0_0.length : Int))), (12, (.int .i64 i302)), (17, v600), (18, (.int .i64 (x589.length : Int))), (19, (.int .i64 i690)), (20, (.bool (decide (i690 < (x589.length : Int)))))]) ⟨rfl, rfl, rfl, rfl, rfl, rfl, rfl, rfl, rfl, trivial⟩; refine e_then ?_; refine wp_seq ?_; refine c_cond (i690 < (x589.length : Int)) ha rfl (decide_eq_true_iff) (fun hp781 => ?_) (fun hp781 => ?_)
            · replace hF := if_t hp781 hF
              refine wp_skip ?_; refine e_then ?_; refine wp_seq ?_; refine wp_block ?_; refine wp_seq ?_; refine wp_region_lit ?_; obtain ⟨x782, g783, gx784, hF⟩ := idx_some hF
              obtain ⟨p785, cs786, f787, hf788, hpb789, hat790, hr791, hi792⟩ := h601.at g783 gx784
              obtain ⟨rfl, hI793, rfl⟩ := hr791
              refine op_g ha rfl (hi792.gives sl31 rfl rfl) ?_; clear ha a; intro a ha; refine op_g ha rfl (g_load0 hE692 Tryd.isAgg2 rfl hat790.one) ?_; clear ha a; intro a ha; refine op_g ha rfl (g_assign rfl) ?_; clear ha a; intro a ha; refine wpList_nil ?_; replace ha := ha.sub (σ' := [(3, v688), (4, (.int .i64 i302)), (7, (.int .i64 x782)), (10, va0_0), (11, (.int .i64 (a0_0.length : Int))), (12, (.int .i64 i302)), (17, v600), (18, (.int .i64 (x589.length : Int))), (19, (.int .i64 i690))]) ⟨rfl, rfl, rfl, rfl, rfl, rfl, rfl, rfl, rfl, trivial⟩; refine e_then ?_; refine wp_seq ?_; refine wp_region_lit ?_
              (iterate 2 refine op_g ha rfl (g_move rfl) ?_; clear ha a; intro a ha); refine op_g ha rfl (g_lss rfl rfl) ?_; clear ha a; intro a ha; refine wpList_nil ?_; replace ha := ha.sub (σ' := [(3, v688), (4, (.int .i64 i302)), (7, (.int .i64 x782)), (10, va0_0), (11, (.int .i64 (a0_0.length : Int))), (12, (.int .i64 i302)), (17, v600), (18, (.int .i64 (x589.length : Int))), (19, (.int .i64 i690)), (25, (.bool (decide (i302 < x782))))]) ⟨rfl, rfl, rfl, rfl, rfl, rfl, rfl, rfl, rfl, rfl, trivial⟩; refine e_then ?_; refine c_cond (i302 < x782) ha rfl (decide_eq_true_iff) (fun hp794 => ?_) (fun hp794 => ?_)
              · replace hF := if_t hp794 hF
                refine wp_region_lit ?_; (iterate 3 refine op_g ha rfl (g_move rfl) ?_; clear ha a; intro a ha)
                have hvob799 : ∀ p ∈ ([((.int .i64 i302), [(.int .i64 i302)]), ((.int .i64 x782), [(.int .i64 x782)])] : List (Value × List Value)), p.1.cells = p.2.toArray ∧ p.2.length = 1 := by
                  intro p hp; simp only [List.mem_cons, List.not_mem_nil, or_false] at hp; rcases hp with hp | hp <;> subst hp <;> first | exact ⟨rfl, rfl⟩
                refine o_litM (o := true) (f := []) (ps := [((.int .i64 i302), [(.int .i64 i302)]), ((.int .i64 x782), [(.int .i64 x782)])]) (ys := [i302, x782]) Rp.int ha rfl sl31 rfl rfl rfl rfl hvob799 ⟨[], [], [(.int .i64 i302)], _, rfl, rfl, ⟨rfl, hI303, rfl⟩, ⟨[], [], [(.int .i64 x782)], _, rfl, rfl, ⟨rfl, hI793, rfl⟩, ⟨rfl, rfl⟩⟩⟩ ?_; clear ha a; intro v795 w796 h797 hx798 a ha
                obtain ⟨b800, hb800⟩ : ∃ b : Int, b = w680.heap.size := ⟨_, rfl⟩; rw [← hb800] at h797
                have q801 := zn_of hb800
                have q802 := Nq.new h682.fpb q801
                have q803 := Nq.madeO q801 h682.blt
                have q804 := Nf.old q801 (zf_nil _) h682.bnd
                have q805 := Zn.upD q801 hE692
                replace h682 := h682.ext hx798
                have hE806 := Ext.trans hE692 hx798
                refine o_lit1 (o := true) (y := [i302, x782]) (Rp.sl 2 Rp.int) ha rfl sl22 rfl rfl h797.cells (Rp.mkO h797) ?_; clear ha a; intro v807 w808 h809 hx810 a ha
                obtain ⟨b812, hb812⟩ : ∃ b : Int, b = w796.heap.size := ⟨_, rfl⟩; rw [← hb812] at h809
                have q813 := zn_of hb812
                have q814 := zf_mv q805 (zf_nil _)
                have q815 := dj_of q802
                have q816 := Nq.new h682.fpb q813
                have q817 := Nq.append (Nq.madeL q813 h682.blt) q803
                have q818 := Zn.upD q813 hE806
                have q819 := nd_lit (bl_nodup b800) h797.fpb hb812
                replace h682 := h682.ext hx810
                have hE820 := Ext.trans hE806 hx810
                obtain ⟨hl821, hF⟩ := app_some hF
                have q822 := Nq.right q817
                refine o_append ha rfl sl22 rfl rfl rfl h682 h809.src q822 hl821 ?_; clear ha a; intro v823 w824 b825 h826 hc827 hb828 a ha
                replace h826 : Ow (Rp.sl 2 Rp.int) 31 true w824 (fs684 ++ (bl b800 ++ [])) b825 v823 _ := h826
                have q830 := zf_app zf685 q814
                have q831 := nd_app nd686 (bl_nodup b800) q815 hb828 h682.fpb h809.bnd
                have q832 := Zn.appD z683 hb828 hE820
                have hE833 := Ext.then hE820 hc827 (Zn.bl z683)
                refine op_g ha rfl (g_assign rfl) ?_; clear ha a; intro a ha; refine wpList_nil ?_; replace ha := ha.sub (σ' := [(3, v823), (4, (.int .i64 i302)), (10, va0_0), (11, (.int .i64 (a0_0.length : Int))), (12, (.int .i64 i302)), (17, v600), (18, (.int .i64 (x589.length : Int))), (19, (.int .i64 i690))]) ⟨rfl, rfl, rfl, rfl, rfl, rfl, rfl, rfl, trivial⟩; refine e_blk ?_; refine e_then ?_; refine wp_region_lit ?_; obtain ⟨hI834, hF⟩ := ck_some hF; refine op_g ha rfl (g_add rfl rfl hI834) ?_; clear ha a; intro a ha; refine op_g ha rfl (g_move rfl) ?_; clear ha a; intro a ha; refine wpList_nil ?_
                replace ha := ha.sub (σ' := [(3, v823), (4, (.int .i64 i302)), (10, va0_0), (11, (.int .i64 (a0_0.length : Int))), (12, (.int .i64 i302)), (17, v600), (18, (.int .i64 (x589.length : Int))), (19, (.int .i64 (i690 + 1)))]) ⟨rfl, rfl, rfl, rfl, rfl, rfl, rfl, rfl, trivial⟩; refine e_lq ?_; obtain rfl := Option.some.inj hF
                exact ⟨_, Nat.lt_succ_self _, (l687 ++ ([[i302, x782]])), i690 + 1, (fs684 ++ (bl b800 ++ [])), v823, b825, ha.sub ⟨rfl, rfl, rfl, rfl, rfl, rfl, rfl, rfl, trivial⟩, hE833, hI834, h826, q832, q830, q831, hN778⟩
              replace hF := if_f hp794 hF; refine wp_skip ?_; refine e_blk ?_; refine e_then ?_; refine wp_region_lit ?_; obtain ⟨hI836, hF⟩ := ck_some hF; refine op_g ha rfl (g_add rfl rfl hI836) ?_; clear ha a; intro a ha; refine op_g ha rfl (g_move rfl) ?_; clear ha a; intro a ha; refine wpList_nil ?_; replace ha := ha.sub (σ' := [(3, v688), (4, (.int .i64 i302)), (10, va0_0), (11, (.int .i64 (a0_0.length : Int))), (12, (.int .i64 i302)), (17, v600), (18, (.int .i64 (x589.length : Int))), (19, (.int .i64 (i690 + 1)))]) ⟨rfl, rfl, rfl, rfl, rfl, rfl, rfl, rfl, trivial⟩; refine e_lq ?_; obtain rfl := Option.some.inj hF
              exact ⟨_, Nat.lt_succ_self _, l687, i690 + 1, fs684, v688, b689, ha.sub ⟨rfl, rfl, rfl, rfl, rfl, rfl, rfl, rfl, trivial⟩, hE692, hI836, h682, z683, zf685, nd686, hN778⟩
            replace hF := if_f hp781 hF; refine wp_exit ?_; refine e_then_exit ?_; refine e_lq_eq ?_; obtain rfl := Option.some.inj hF
            exact ⟨l687, fs684, v688, b689, ha.sub ⟨rfl, rfl, rfl, rfl, trivial⟩, hE692, h682, z683, zf685, nd686, (LK_inr hN778).symm⟩
        rintro a w762 ⟨l769, fs766, v770, b771, ha, hE777, h764, z765, zf767, nd768, rfl⟩
        have hF : F_impl_edgesOf_k3 i302 l769 = some _ := hK774; clear hK774; unfold F_impl_edgesOf_k3 at hF
        refine e_blk ?_; refine e_then ?_; refine wp_region_lit ?_; obtain ⟨hI838, hF⟩ := ck_some hF; refine op_g ha rfl (g_add rfl rfl hI838) ?_; clear ha a; intro a ha; refine op_g ha rfl (g_move rfl) ?_; clear ha a; intro a ha; refine wpList_nil ?_; replace ha := ha.sub (σ' := [(3, v770), (10, va0_0), (11, (.int .i64 (a0_0.length : Int))), (12, (.int .i64 (i302 + 1)))]) ⟨rfl, rfl, rfl, rfl, trivial⟩; refine e_lq ?_; obtain rfl := Option.some.inj hF
        exact ⟨_, Nat.lt_succ_self _, l769, i302 + 1, fs766, v770, b771, ha.sub ⟨rfl, rfl, rfl, rfl, trivial⟩, hE777, hI838, h764, z765, zf767, nd768, hN585⟩
      replace hF := if_f hp588 hF; refine wp_exit ?_; refine e_then_exit ?_; refine e_lq_eq ?_; obtain rfl := Option.some.inj hF
      exact ⟨l299, fs296, v300, b301, ha.sub ⟨rfl, trivial⟩, hE304, h294, z295, zf297, nd298, (LK_inr hN585).symm⟩
  rintro a w569 ⟨l576, fs573, v577, b578, ha, hE584, h571, z572, zf574, nd575, rfl⟩
  have hF : F_impl_edgesOf_k4 l576 = some _ := hK581; clear hK581; unfold F_impl_edgesOf_k4 at hF
  refine e_then ?_; refine wp_seq ?_; refine wp_region_lit ?_; refine op_g ha rfl (g_move rfl) ?_; clear ha a; intro a ha; refine op_g ha rfl (g_assign rfl) ?_; clear ha a; intro a ha; refine wpList_nil ?_; replace ha := ha.sub (σ' := [(2, v577)]) ⟨rfl, trivial⟩; refine e_then ?_; refine wp_ret ?_; obtain rfl := Option.some.inj hF
  exact f_ret1 ha rfl rfl ⟨_, _, h571, z572, zf574, nd575, hE584⟩
set_option maxHeartbeats 2000000 in

set_option maxHeartbeats 2000000 in

set_option maxHeartbeats 2000000 in

set_option maxHeartbeats 2000000 in
theorem W_slices_Sorted_int64 {W : World} {va0 : Value} {a0 : (List Int)} (ha0 : Seq2 W va0 a0) {r : (List Int)} (hF : F_slices_Sorted_int64 a0 = some r) :
    Calls Tryd.prog 57 [va0].toArray W (Ret fun u w' => ∃ (b_u : Int), Ow Rp.int 2 true w' [] b_u u r ∧ Zn W b_u ∧ Ext W w') := by
  refine f_enter Tryd.func57 rfl Tryd.ntmps57 rfl ?_
  intro a ha
  replace ha : Fr 9 [(0, va0)] a := ha
  have hE : Chg [] W W := Chg.refl _ _
  unfold F_slices_Sorted_int64 at hF
  refine wp_seq ?_; refine wp_region_lit ?_; refine op_g ha rfl (g_assign rfl) ?_; clear ha a; intro a ha; refine wpList_nil ?_; replace ha := ha.sub (σ' := [(0, va0)]) ⟨rfl, trivial⟩; refine e_then ?_; refine wp_seq ?_; refine wp_region_lit ?_; refine op_g ha rfl (g_move rfl) ?_; clear ha a; intro a ha; obtain ⟨x1, hc2, hF⟩ := cal_some hF
  refine o_call ha rfl rfl Tryd.call63 (W_slices_Collect_int64 ha0 hc2) ?_; clear ha a; rintro v3 w4 ⟨b6, h7, z8, hx5⟩ a ha
  have hE10 := Ext.trans hE hx5
  have q11 := Zn.upD z8 hE
  refine op_g ha rfl (g_assign rfl) ?_; clear ha a; intro a ha; refine wpList_nil ?_; replace ha := ha.sub (σ' := [(3, v3)]) ⟨rfl, trivial⟩; refine e_then ?_; refine wp_seq ?_; refine wp_region_lit ?_; refine op_g ha rfl (g_move rfl) ?_; clear ha a; intro a ha; obtain ⟨x12, hc13, hF⟩ := cal_some hF
  refine o_call ha rfl rfl Tryd.call64 (W_slices_Sort_int64 h7 hc13) ?_; clear ha a; rintro v14 w15 ⟨rfl, h17, hx16⟩ a ha
  have hE18 := Ext.then hE10 hx16 (Zn.bl q11)
  refine wpList_nil ?_; replace ha := ha.sub (σ' := [(3, v3)]) ⟨rfl, trivial⟩; refine e_then ?_; refine wp_seq ?_; refine wp_region_lit ?_; refine op_g ha rfl (g_move rfl) ?_; clear ha a; intro a ha; refine op_g ha rfl (g_assign rfl) ?_; clear ha a; intro a ha; refine wpList_nil ?_; replace ha := ha.sub (σ' := [(2, v3)]) ⟨rfl, trivial⟩; refine e_then ?_; refine wp_ret ?_; obtain rfl := Option.some.inj hF
  exact f_ret1 ha rfl rfl ⟨_, h17, q11, hE18⟩
set_option maxHeartbeats 2000000 in
theorem W_impl_placesIn {W : World} {va0 : Value} {fa0 : List Nat} {a0 : (List Int)} (ha0 : Ro Rp.int W fa0 va0 a0) {r : ((List Int) × Bool)} (hF : F_impl_placesIn a0 = some r) :
    Calls Tryd.prog 49 [va0].toArray W (Ret fun u w' => ∃ (u0 : Value) (u1 : Value) (b_u0 : Int), u = .tuple #[u0, u1] ∧ Ow Rp.int 3 true w' [] b_u0 u0 r.1 ∧ Zn W b_u0 ∧ u1 = .bool r.2 ∧ Ext W w') := by
  refine f_enter Tryd.func49 rfl Tryd.ntmps49 rfl ?_
  intro a ha
  replace ha : Fr 39 [(0, va0)] a := ha
  have hE : Chg [] W W := Chg.refl _ _
  unfold F_impl_placesIn at hF
  refine wp_seq ?_; refine wp_region_lit ?_; (iterate 2 refine op_g ha rfl (g_assign rfl) ?_; clear ha a; intro a ha); refine wpList_nil ?_; replace ha := ha.sub (σ' := [(0, va0)]) ⟨rfl, trivial⟩; refine e_then ?_; refine wp_seq ?_; refine wp_region_lit ?_; refine op_g ha rfl (g_move rfl) ?_; clear ha a; intro a ha; refine op_g ha rfl (g_lenR sl31.und ha0 rfl) ?_; clear ha a; intro a ha; refine op_g ha rfl (g_assign rfl) ?_; clear ha a; intro a ha; refine wpList_nil ?_; replace ha := ha.sub (σ' := [(0, va0), (4, (.int .i64 (a0.length : Int)))]) ⟨rfl, rfl, trivial⟩; refine e_then ?_; refine wp_seq ?_
  refine wp_seq ?_; refine wp_region_lit ?_; refine op_g ha rfl (g_move rfl) ?_; clear ha a; intro a ha; refine op_g ha rfl (g_lss rfl rfl) ?_; clear ha a; intro a ha; refine op_g ha rfl (g_move rfl) ?_; clear ha a; intro a ha
  by_cases hp31 : (a0.length : Int) < 1
  · replace hF := if_t hp31 hF
    rw [show (decide ((a0.length : Int) < 1)) = true from (decide_eq_true_iff).2 hp31] at ha
    (iterate 2 refine op_unwant ha rfl (yields ha rfl rfl) rfl ?_; clear ha a; intro a ha); refine op_g ha rfl (g_pick rfl rfl) ?_; clear ha a; intro a ha; refine op_g ha rfl (g_move rfl) ?_; clear ha a; intro a ha; (iterate 6 refine op_unwant ha rfl (yields ha rfl rfl) rfl ?_; clear ha a; intro a ha); refine op_g ha rfl (g_pick rfl rfl) ?_; clear ha a; intro a ha; refine wpList_nil ?_; replace ha := ha.sub (σ' := [(0, va0), (4, (.int .i64 (a0.length : Int))), (23, (.bool true))]) ⟨rfl, rfl, rfl, trivial⟩; refine e_then ?_; refine c_true ha rfl ?_; refine wp_seq ?_; refine wp_region_lit ?_; (iterate 2 refine op_g ha rfl (g_assign rfl) ?_; clear ha a; intro a ha)
    refine wpList_nil ?_; replace ha := ha.sub (σ' := [(2, (.slice none 0 0)), (3, (.bool false))]) ⟨rfl, rfl, trivial⟩; refine e_then ?_; refine wp_ret ?_; refine e_then_ret ?_; obtain rfl := Option.some.inj hF
    exact f_ret2 ha rfl rfl rfl ⟨_, _, -1, rfl, (Ow.nil (by decide)), (.inl (by decide)), rfl, hE⟩
  replace hF := if_f hp31 hF
  rw [show (decide ((a0.length : Int) < 1)) = false from b_false (decide_eq_true_iff) hp31] at ha
  refine op_want (yields ha rfl rfl) ?_; refine op_g ha rfl (g_move rfl) ?_; clear ha a; intro a ha; refine op_want (yields ha rfl rfl) ?_; refine op_g ha rfl (g_gtr rfl rfl) ?_; clear ha a; intro a ha; refine op_g ha rfl (g_pick rfl rfl) ?_; clear ha a; intro a ha; refine op_g ha rfl (g_move rfl) ?_; clear ha a; intro a ha
  by_cases hp32 : 16 < (a0.length : Int)
  · replace hF := if_t hp32 hF
    rw [show (decide (16 < (a0.length : Int))) = true from (decide_eq_true_iff).2 hp32] at ha
    (iterate 6 refine op_unwant ha rfl (yields ha rfl rfl) rfl ?_; clear ha a; intro a ha); refine op_g ha rfl (g_pick rfl rfl) ?_; clear ha a; intro a ha; refine wpList_nil ?_; replace ha := ha.sub (σ' := [(0, va0), (4, (.int .i64 (a0.length : Int))), (23, (.bool true))]) ⟨rfl, rfl, rfl, trivial⟩; refine e_then ?_; refine c_true ha rfl ?_; refine wp_seq ?_; refine wp_region_lit ?_; (iterate 2 refine op_g ha rfl (g_assign rfl) ?_; clear ha a; intro a ha); refine wpList_nil ?_; replace ha := ha.sub (σ' := [(2, (.slice none 0 0)), (3, (.bool false))]) ⟨rfl, rfl, trivial⟩; refine e_then ?_; refine wp_ret ?_
    refine e_then_ret ?_; obtain rfl := Option.some.inj hF
    exact f_ret2 ha rfl rfl rfl ⟨_, _, -1, rfl, (Ow.nil (by decide)), (.inl (by decide)), rfl, hE⟩
  replace hF := if_f hp32 hF
  rw [show (decide (16 < (a0.length : Int))) = false from b_false (decide_eq_true_iff) hp32] at ha
  refine op_want (yields ha rfl rfl) ?_; refine op_g ha rfl (g_move rfl) ?_; clear ha a; intro a ha; refine op_want (yields ha rfl rfl) ?_; obtain ⟨x33, hc34, hF⟩ := cal_some hF
  refine o_call ha rfl rfl Tryd.call58 (W_slices_Values_int64 (ha0.ext hE) hc34) ?_; clear ha a; rintro v35 w36 ⟨h38, hx37⟩ a ha
  have hE39 := Ext.trans hE hx37
  refine op_want (yields ha rfl rfl) ?_; obtain ⟨x40, hc41, hF⟩ := cal_some hF
  refine o_call ha rfl rfl Tryd.call57 (W_slices_Sorted_int64 h38 hc41) ?_; clear ha a; rintro v42 w43 ⟨b45, h46, z47, hx44⟩ a ha
  have hE49 := Ext.trans hE39 hx44
  have q50 := Zn.upD z47 hE39
  refine op_want (yields ha rfl rfl) ?_; refine op_g ha rfl (g_move rfl) ?_; clear ha a; intro a ha; refine op_want (yields ha rfl rfl) ?_
  obtain ⟨fp51, hro52, hs53⟩ := h46.roF
  obtain ⟨x54, hc55, hF⟩ := cal_some hF
  refine o_call ha rfl rfl Tryd.call44 (W_impl_increasing hro52 ha0.len hc55) ?_; clear ha a; rintro v56 w57 ⟨rfl, hx58⟩ a ha
  replace h46 := h46.ext hx58
  have hE59 := Ext.trans hE49 hx58
  refine op_want (yields ha rfl rfl) ?_; refine op_g ha rfl (g_not rfl) ?_; clear ha a; intro a ha; refine op_g ha rfl (g_pick rfl rfl) ?_; clear ha a; intro a ha; refine wpList_nil ?_; replace ha := ha.sub (σ' := [(0, va0), (4, (.int .i64 (a0.length : Int))), (23, (.bool (!x54)))]) ⟨rfl, rfl, rfl, trivial⟩; refine e_then ?_; refine c_cond (¬ (x54 = true)) ha rfl (n_iff (Iff.rfl)) (fun hp60 => ?_) (fun hp60 => ?_)
  · replace hF := if_t hp60 hF
    refine wp_seq ?_; refine wp_region_lit ?_; (iterate 2 refine op_g ha rfl (g_assign rfl) ?_; clear ha a; intro a ha); refine wpList_nil ?_; replace ha := ha.sub (σ' := [(2, (.slice none 0 0)), (3, (.bool false))]) ⟨rfl, rfl, trivial⟩; refine e_then ?_; refine wp_ret ?_; refine e_then_ret ?_; obtain rfl := Option.some.inj hF
    exact f_ret2 ha rfl rfl rfl ⟨_, _, -1, rfl, (Ow.nil (by decide)), (.inl (by decide)), rfl, hE59⟩
  replace hF := if_f hp60 hF; refine wp_skip ?_; refine e_then ?_; refine wp_seq ?_; refine wp_region_lit ?_; refine op_g ha rfl (g_move rfl) ?_; clear ha a; intro a ha; obtain ⟨g65, g65b, hF⟩ := mkS_some hF
  refine o_make (z0 := (0 : Int)) Rp.int ha rfl sl57 rfl (fun w => ⟨rfl, by decide, rfl⟩) rfl g65 g65b ?_; clear ha a; intro v61 w62 h63 hx64 a ha
  obtain ⟨b68, hb68⟩ : ∃ b : Int, b = w57.heap.size := ⟨_, rfl⟩; rw [← hb68] at h63
  have q69 := zn_of hb68
  have q70 := Zn.upD q69 hE59
  have hE71 := Ext.trans hE59 hx64
  refine op_g ha rfl (g_assign rfl) ?_; clear ha a; intro a ha; refine wpList_nil ?_; replace ha := ha.sub (σ' := [(0, va0), (5, v61)]) ⟨rfl, rfl, trivial⟩; refine e_then ?_; refine wp_seq ?_; refine wp_seq ?_; refine wp_region_lit ?_; refine op_g ha rfl (g_move rfl) ?_; clear ha a; intro a ha; refine op_g ha rfl (g_lenR sl31.und ha0 rfl) ?_; clear ha a; intro a ha; refine op_g ha rfl (g_move rfl) ?_; clear ha a; intro a ha; refine wpList_nil ?_; replace ha := ha.sub (σ' := [(5, v61), (26, va0), (27, (.int .i64 (a0.length : Int))), (28, (.int .i64 0))]) ⟨rfl, rfl, rfl, rfl, trivial⟩; refine e_then ?_
  obtain ⟨o178, ho179, hK180⟩ := bnd_some hF
  obtain ⟨n181, hn182⟩ := lp_some ho179; clear ho179
  refine c_loop (fun a w => ∃ (l175 : (List Int)) (v176 : Value) (b177 : Int), Fr 39 [(5, v176)] a ∧ Chg [] W w ∧ Ow Rp.int 3 true w [] b177 v176 l175 ∧ Zn W b177 ∧ o178 = .inl l175) (fun n a w => ∃ (l123 : (List Int)) (i126 : Int) (v124 : Value) (b125 : Int), Fr 39 [(5, v124), (26, va0), (27, (.int .i64 (a0.length : Int))), (28, (.int .i64 i126))] a ∧ Chg [] W w ∧ InI i126 ∧ Ow Rp.int 3 true w [] b125 v124 l123 ∧ Zn W b125 ∧ lpN (fun s => F_impl_placesIn_l1 a0 s.1 s.2) n (l123, i126) = some o178) n181 ⟨(List.replicate ((a0.length : Int) : Int).toNat (0 : Int)), 0, v61, b68, ha.sub ⟨rfl, rfl, rfl, rfl, trivial⟩, hE71, (show InI 0 from by decide), h63, q70, hn182⟩ ?_ ?_
  · rintro m186 a w119 ⟨l123, i126, v124, b125, ha, hE128, hI127, h121, z122, hF⟩
    cases m186 with
    | zero => exact (lpN_zero hF).elim
    | succ m186 =>
      obtain ⟨z185, hF, hN184⟩ := lpN_succ hF
      have hF : F_impl_placesIn_l1 a0 l123 i126 = some z185 := hF; unfold F_impl_placesIn_l1 at hF
      refine wp_seq ?_; refine wp_region_lit ?_; refine op_g ha rfl (g_lss rfl rfl) ?_; clear ha a; intro a ha; refine wpList_nil ?_; replace ha := ha.sub (σ' := [(5, v124), (26, va0), (27, (.int .i64 (a0.length : Int))), (28, (.int .i64 i126)), (29, (.bool (decide (i126 < (a0.length : Int)))))]) ⟨rfl, rfl, rfl, rfl, rfl, trivial⟩; refine e_then ?_; refine wp_seq ?_; refine c_cond (i126 < (a0.length : Int)) ha rfl (decide_eq_true_iff) (fun hp187 => ?_) (fun hp187 => ?_)
      · replace hF := if_t hp187 hF
        refine wp_skip ?_; refine e_then ?_; refine wp_seq ?_; refine wp_block ?_; refine wp_seq ?_; refine wp_region_lit ?_; refine op_g ha rfl (g_move rfl) ?_; clear ha a; intro a ha; obtain ⟨x188, g189, gx190, hF⟩ := idx_some hF
        obtain ⟨p191, cs192, f193, hf194, hpb195, hat196, hr197, hi198⟩ := ha0.at g189 gx190
        obtain ⟨rfl, hI199, rfl⟩ := hr197
        refine op_g ha rfl (hi198.gives sl31 rfl rfl) ?_; clear ha a; intro a ha; refine op_g ha rfl (g_load0 hE128 Tryd.isAgg2 rfl hat196.one) ?_; clear ha a; intro a ha; (iterate 2 refine op_g ha rfl (g_assign rfl) ?_; clear ha a; intro a ha); refine wpList_nil ?_; replace ha := ha.sub (σ' := [(5, v124), (6, (.int .i64 i126)), (7, (.int .i64 x188)), (26, va0), (27, (.int .i64 (a0.length : Int))), (28, (.int .i64 i126))]) ⟨rfl, rfl, rfl, rfl, rfl, rfl, trivial⟩; refine e_then ?_; refine wp_region_lit ?_; (iterate 3 refine op_g ha rfl (g_move rfl) ?_; clear ha a; intro a ha); obtain ⟨x200, g201, gx202, hF⟩ := idx_some hF
        obtain ⟨p203, cs204, f205, hf206, hpb207, hat208, hr209, hi210⟩ := h121.at g201 gx202
        obtain ⟨rfl, hI211, rfl⟩ := hr209
        refine op_g ha rfl (hi210.gives sl57 rfl rfl) ?_; clear ha a; intro a ha
        refine o_storeE (f := []) (q := i126) ha Tryd.sizeOf3 rfl rfl rfl h121 hi210 ⟨rfl, hI127, rfl⟩ (Nq.nil _) ?_; intro w212 fs213 h214 hc215 hs216
        obtain rfl := Subst.nil hs216
        have hE217 := Ext.then hE128 hc215 (Zn.bl z122)
        refine wpList_nil ?_; replace ha := ha.sub (σ' := [(5, v124), (26, va0), (27, (.int .i64 (a0.length : Int))), (28, (.int .i64 i126))]) ⟨rfl, rfl, rfl, rfl, trivial⟩; refine e_blk ?_; refine e_then ?_; refine wp_region_lit ?_; obtain ⟨hI218, hF⟩ := ck_some hF; refine op_g ha rfl (g_add rfl rfl hI218) ?_; clear ha a; intro a ha; refine op_g ha rfl (g_move rfl) ?_; clear ha a; intro a ha; refine wpList_nil ?_; replace ha := ha.sub (σ' := [(5, v124), (26, va0), (27, (.int .i64 (a0.length : Int))), (28, (.int .i64 (i126 + 1)))]) ⟨rfl, rfl, rfl, rfl, trivial⟩; refine e_lq ?_; obtain rfl := Option.some.inj hF
        exact ⟨_, Nat.lt_succ_self _, (l123.set ((x188 : Int).toNat) i126), i126 + 1, v124, b125, ha.sub ⟨rfl, rfl, rfl, rfl, trivial⟩, hE217, hI218, h214, z122, hN184⟩
      replace hF := if_f hp187 hF; refine wp_exit ?_; refine e_then_exit ?_; refine e_lq_eq ?_; obtain rfl := Option.some.inj hF
      exact ⟨l123, v124, b125, ha.sub ⟨rfl, trivial⟩, hE128, h121, z122, (LK_inr hN184).symm⟩
  rintro a w171 ⟨l175, v176, b177, ha, hE183, h173, z174, rfl⟩
  have hF : F_impl_placesIn_k2 l175 = some _ := hK180; clear hK180; unfold F_impl_placesIn_k2 at hF
  refine e_then ?_; refine wp_seq ?_; refine wp_region_lit ?_; refine op_g ha rfl (g_move rfl) ?_; clear ha a; intro a ha; (iterate 2 refine op_g ha rfl (g_assign rfl) ?_; clear ha a; intro a ha); refine wpList_nil ?_; replace ha := ha.sub (σ' := [(2, v176), (3, (.bool true))]) ⟨rfl, rfl, trivial⟩; refine e_then ?_; refine wp_ret ?_; obtain rfl := Option.some.inj hF
  exact f_ret2 ha rfl rfl rfl ⟨_, _, _, rfl, h173, z174, rfl, hE183⟩
set_option maxHeartbeats 2000000 in
theorem W_impl_alternate_1 {W : World} {a0 : Int} (ha0 : InI a0) {y0 : Int} (hy0 : InI y0) {bc0 : Nat} (hbc0 : Bx W bc0 [.int .i64 y0] 3) {vy1 : Value} {fy1 : List Nat} {y1 : (List Int)} (hy1 : Ro Rp.int W fy1 vy1 y1) {bc1 : Nat} (hbc1 : Bx W bc1 [vy1] 57) {y2 : Int} (hy2 : InI y2) {bc2 : Nat} (hbc2 : Bx W bc2 [.int .i64 y2] 3) {r : Bool} (hF : F_impl_alternate_1 a0 y0 y1 y2 = some r) :
    Calls Tryd.prog 59 [.int .i64 a0, .pointer (some ⟨bc0, 0, none⟩), .pointer (some ⟨bc1, 0, none⟩), .pointer (some ⟨bc2, 0, none⟩)].toArray W (Ret fun u w' => u = .bool r ∧ Ext W w') := by
  refine f_enter Tryd.func59 rfl Tryd.ntmps59 rfl ?_
  intro a ha
  replace ha : Fr 20 [(0, (.int .i64 a0)), (1, (.pointer (some ⟨bc0, 0, none⟩))), (2, (.pointer (some ⟨bc1, 0, none⟩))), (3, (.pointer (some ⟨bc2, 0, none⟩)))] a := ha
  have hE : Chg [] W W := Chg.refl _ _
  unfold F_impl_alternate_1 at hF
  refine wp_seq ?_; refine wp_region_lit ?_; refine op_g ha rfl (g_assign rfl) ?_; clear ha a; intro a ha; refine wpList_nil ?_; replace ha := ha.sub (σ' := [(0, (.int .i64 a0)), (1, (.pointer (some ⟨bc0, 0, none⟩))), (2, (.pointer (some ⟨bc1, 0, none⟩))), (3, (.pointer (some ⟨bc2, 0, none⟩)))]) ⟨rfl, rfl, rfl, rfl, trivial⟩; refine e_then ?_; refine wp_seq ?_; refine d_quiet hmix (by kernel_rfl) ?_; refine q_g ha rfl (g_load Tryd.isAgg3 rfl ((hbc0.ext hE).cell rfl)) ?_; clear ha a; intro a ha; refine q_g ha rfl (g_load Tryd.isAgg57 rfl ((hbc1.ext hE).cell rfl)) ?_; clear ha a; intro a ha; refine q_g ha rfl (g_move rfl) ?_; clear ha a; intro a ha
  obtain ⟨x1, g2, gx3, hF⟩ := idx_some hF
  obtain ⟨p4, cs5, f6, hf7, hpb8, hat9, hr10, hi11⟩ := hy1.at g2 gx3
  obtain ⟨rfl, hI12, rfl⟩ := hr10
  refine q_g ha rfl (hi11.gives sl57 rfl rfl) ?_; clear ha a; intro a ha; refine q_g ha rfl (g_load0 hE Tryd.isAgg3 rfl hat9.one) ?_; clear ha a; intro a ha; refine q_g ha rfl (g_lss rfl rfl) ?_; clear ha a; intro a ha; refine q_g ha rfl (g_move rfl) ?_; clear ha a; intro a ha
  by_cases hp13 : y0 < x1
  · replace hF := if_t hp13 hF
    rw [show (decide (y0 < x1)) = true from (decide_eq_true_iff).2 hp13] at ha
    refine q_want (yields ha rfl rfl) ?_; refine q_g ha rfl (g_load Tryd.isAgg57 rfl ((hbc1.ext hE).cell rfl)) ?_; clear ha a; intro a ha; refine q_want (yields ha rfl rfl) ?_; refine q_g ha rfl (g_move rfl) ?_; clear ha a; intro a ha; refine q_want (yields ha rfl rfl) ?_; obtain ⟨x14, g15, gx16, hF⟩ := idx_some hF
    obtain ⟨p17, cs18, f19, hf20, hpb21, hat22, hr23, hi24⟩ := hy1.at g15 gx16
    obtain ⟨rfl, hI25, rfl⟩ := hr23
    refine q_g ha rfl (hi24.gives sl57 rfl rfl) ?_; clear ha a; intro a ha; refine q_want (yields ha rfl rfl) ?_; refine q_g ha rfl (g_load0 hE Tryd.isAgg3 rfl hat22.one) ?_; clear ha a; intro a ha; refine q_want (yields ha rfl rfl) ?_; refine q_g ha rfl (g_load Tryd.isAgg3 rfl ((hbc2.ext hE).cell rfl)) ?_; clear ha a; intro a ha; refine q_want (yields ha rfl rfl) ?_; refine q_g ha rfl (g_lss rfl rfl) ?_; clear ha a; intro a ha; refine q_g ha rfl (g_pick rfl rfl) ?_; clear ha a; intro a ha; refine q_g ha rfl (g_assign rfl) ?_; clear ha a; intro a ha
    refine q_nil ?_; intro w26 hx27
    have hE28 := Ext.trans hE hx27
    replace ha := ha.sub (σ' := [(5, (.bool (decide (x14 < y2))))]) ⟨rfl, trivial⟩; refine e_then ?_; refine wp_ret ?_; obtain rfl := Option.some.inj hF
    exact f_ret1 ha rfl rfl ⟨rfl, hE28⟩
  replace hF := if_f hp13 hF
  rw [show (decide (y0 < x1)) = false from b_false (decide_eq_true_iff) hp13] at ha
  (iterate 6 refine q_unwant ha rfl (yields ha rfl rfl) rfl ?_; clear ha a; intro a ha); refine q_g ha rfl (g_pick rfl rfl) ?_; clear ha a; intro a ha; refine q_g ha rfl (g_assign rfl) ?_; clear ha a; intro a ha
  refine q_nil ?_; intro w29 hx30
  have hE31 := Ext.trans hE hx30
  replace ha := ha.sub (σ' := [(5, (.bool false))]) ⟨rfl, trivial⟩; refine e_then ?_; refine wp_ret ?_; obtain rfl := Option.some.inj hF
  exact f_ret1 ha rfl rfl ⟨rfl, hE31⟩
set_option maxHeartbeats 2000000 in
theorem W_impl_alternate {W : World} {va0 : Value} {fa0 : List Nat} {a0 : (List Int)} (ha0 : Ro Rp.int W fa0 va0 a0) {va1 : Value} {fa1 : List Nat} {a1 : (List Int)} (ha1 : Ro Rp.int W fa1 va1 a1) {va2 : Value} {fa2 : List Nat} {a2 : (List Int)} (ha2 : Ro Rp.int W fa2 va2 a2) {r : Bool} (hF : F_impl_alternate a0 a1 a2 = some r) :
    Calls Tryd.prog 50 [va0, va1, va2].toArray W (Ret fun u w' => u = .bool r ∧ Ext W w') := by
  refine f_enter Tryd.func50 rfl Tryd.ntmps50 rfl ?_
  intro a ha
  replace ha : Fr 86 [(0, va0), (1, va1), (2, va2)] a := ha
  have hE : Chg [] W W := Chg.refl _ _
  unfold F_impl_alternate at hF
  refine wp_seq ?_; refine wp_region_lit ?_
  refine o_box ha rfl rfl ha0.cells ?_; clear ha a; intro b1 w2 hB3 hx4 hlo5 a ha
  have q6 := Zn.one hlo5
  have q7 := Zn.upD q6 hE
  have hE8 := Ext.trans hE hx4
  refine op_g ha rfl (g_assign rfl) ?_; clear ha a; intro a ha; refine wpList_nil ?_; replace ha := ha.sub (σ' := [(1, va1), (2, va2), (3, (.pointer (some ⟨b1, 0, none⟩)))]) ⟨rfl, rfl, rfl, trivial⟩; refine e_then ?_; refine wp_seq ?_; refine x_region [0, 1, 2, 3, 4, 5, 6, 7, 8, 9, 10, 11, 12, 13, 14, 15, 16, 17, 18, 19, 20, 21, 22, 23, 24, 25, 26, 27, 28, 29] hmix ?_
  have hS9 := RowKit.Below.refl w2.heap.size w2
  refine x_g 0 rfl (by kernel_rfl) (want0 _) ha rfl hS9 (g_load Tryd.isAgg57 rfl (hB3.cell rfl)) ?_; clear ha a; intro a ha; refine x_g 1 rfl (by kernel_rfl) (want0 _) ha rfl hS9 (g_move rfl) ?_; clear ha a; intro a ha; obtain ⟨x10, g11, gx12, hF⟩ := idx_some hF
  obtain ⟨p13, cs14, f15, hf16, hpb17, hat18, hr19, hi20⟩ := ha1.at g11 gx12
  obtain ⟨rfl, hI21, rfl⟩ := hr19
  refine x_g 2 rfl (by kernel_rfl) (want0 _) ha rfl hS9 (hi20.gives sl31 rfl rfl) ?_; clear ha a; intro a ha; refine x_g 3 rfl (by kernel_rfl) (want0 _) ha rfl hS9 (g_load0 hE8 Tryd.isAgg2 rfl hat18.one) ?_; clear ha a; intro a ha; obtain ⟨x22, g23, gx24, hF⟩ := idx_some hF
  obtain ⟨p25, cs26, f27, hf28, hpb29, hat30, hr31, hi32⟩ := ha0.at g23 gx24
  obtain ⟨rfl, hI33, rfl⟩ := hr31
  refine x_g 4 rfl (by kernel_rfl) (want0 _) ha rfl hS9 (hi32.gives sl57 rfl rfl) ?_; clear ha a; intro a ha; refine x_g 5 rfl (by kernel_rfl) (want0 _) ha rfl hS9 (g_load0 hE8 Tryd.isAgg3 rfl hat30.one) ?_; clear ha a; intro a ha; refine x_g 6 rfl (by kernel_rfl) (want0 _) ha rfl hS9 (g_load Tryd.isAgg57 rfl (hB3.cell rfl)) ?_; clear ha a; intro a ha; refine x_g 7 rfl (by kernel_rfl) (want0 _) ha rfl hS9 (g_move rfl) ?_; clear ha a; intro a ha; obtain ⟨x34, g35, gx36, hF⟩ := idx_some hF
  obtain ⟨p37, cs38, f39, hf40, hpb41, hat42, hr43, hi44⟩ := ha1.at g35 gx36
  obtain ⟨rfl, hI45, rfl⟩ := hr43
  refine x_g 8 rfl (by kernel_rfl) (want0 _) ha rfl hS9 (hi44.gives sl31 rfl rfl) ?_; clear ha a; intro a ha; refine x_g 9 rfl (by kernel_rfl) (want0 _) ha rfl hS9 (g_load0 hE8 Tryd.isAgg2 rfl hat42.one) ?_; clear ha a; intro a ha; obtain ⟨x46, g47, gx48, hF⟩ := idx_some hF
  obtain ⟨p49, cs50, f51, hf52, hpb53, hat54, hr55, hi56⟩ := ha0.at g47 gx48
  obtain ⟨rfl, hI57, rfl⟩ := hr55
  refine x_g 10 rfl (by kernel_rfl) (want0 _) ha rfl hS9 (hi56.gives sl57 rfl rfl) ?_; clear ha a; intro a ha; refine x_g 11 rfl (by kernel_rfl) (want0 _) ha rfl hS9 (g_load0 hE8 Tryd.isAgg3 rfl hat54.one) ?_; clear ha a; intro a ha; refine x_g 12 rfl (by kernel_rfl) (want0 _) ha rfl hS9 (g_min rfl rfl) ?_; clear ha a; intro a ha; refine x_g 13 rfl (by kernel_rfl) (want0 _) ha rfl hS9 (g_load Tryd.isAgg57 rfl (hB3.cell rfl)) ?_; clear ha a; intro a ha; refine x_g 14 rfl (by kernel_rfl) (want0 _) ha rfl hS9 (g_move rfl) ?_; clear ha a; intro a ha; obtain ⟨x58, g59, gx60, hF⟩ := idx_some hF
  obtain ⟨p61, cs62, f63, hf64, hpb65, hat66, hr67, hi68⟩ := ha1.at g59 gx60
  obtain ⟨rfl, hI69, rfl⟩ := hr67
  refine x_g 15 rfl (by kernel_rfl) (want0 _) ha rfl hS9 (hi68.gives sl31 rfl rfl) ?_; clear ha a; intro a ha; refine x_g 16 rfl (by kernel_rfl) (want0 _) ha rfl hS9 (g_load0 hE8 Tryd.isAgg2 rfl hat66.one) ?_; clear ha a; intro a ha; obtain ⟨x70, g71, gx72, hF⟩ := idx_some hF
  obtain ⟨p73, cs74, f75, hf76, hpb77, hat78, hr79, hi80⟩ := ha0.at g71 gx72
  obtain ⟨rfl, hI81, rfl⟩ := hr79
  refine x_g 17 rfl (by kernel_rfl) (want0 _) ha rfl hS9 (hi80.gives sl57 rfl rfl) ?_; clear ha a; intro a ha; refine x_g 18 rfl (by kernel_rfl) (want0 _) ha rfl hS9 (g_load0 hE8 Tryd.isAgg3 rfl hat78.one) ?_; clear ha a; intro a ha; refine x_g 19 rfl (by kernel_rfl) (want0 _) ha rfl hS9 (g_load Tryd.isAgg57 rfl (hB3.cell rfl)) ?_; clear ha a; intro a ha; refine x_g 20 rfl (by kernel_rfl) (want0 _) ha rfl hS9 (g_move rfl) ?_; clear ha a; intro a ha; obtain ⟨x82, g83, gx84, hF⟩ := idx_some hF
  obtain ⟨p85, cs86, f87, hf88, hpb89, hat90, hr91, hi92⟩ := ha1.at g83 gx84
  obtain ⟨rfl, hI93, rfl⟩ := hr91
  refine x_g 21 rfl (by kernel_rfl) (want0 _) ha rfl hS9 (hi92.gives sl31 rfl rfl) ?_; clear ha a; intro a ha; refine x_g 22 rfl (by kernel_rfl) (want0 _) ha rfl hS9 (g_load0 hE8 Tryd.isAgg2 rfl hat90.one) ?_; clear ha a; intro a ha; obtain ⟨x94, g95, gx96, hF⟩ := idx_some hF
  obtain ⟨p97, cs98, f99, hf100, hpb101, hat102, hr103, hi104⟩ := ha0.at g95 gx96
  obtain ⟨rfl, hI105, rfl⟩ := hr103
  refine x_g 23 rfl (by kernel_rfl) (want0 _) ha rfl hS9 (hi104.gives sl57 rfl rfl) ?_; clear ha a; intro a ha; refine x_g 24 rfl (by kernel_rfl) (want0 _) ha rfl hS9 (g_load0 hE8 Tryd.isAgg3 rfl hat102.one) ?_; clear ha a; intro a ha; refine x_g 25 rfl (by kernel_rfl) (want0 _) ha rfl hS9 (g_max rfl rfl) ?_; clear ha a; intro a ha; refine x_many [26, 27] (by kernel_rfl) rfl fun wqr1_1 hxqr1_1 => ⟨⟨_, rfl, ?_⟩, ⟨_, rfl, ?_⟩, trivial⟩
  · skip
    replace hB3 := hB3.ext hxqr1_1
    have hEqr1o26_1 := Ext.trans hE8 hxqr1_1
    have qqr1o26_1 := bel_step hS9 hxqr1_1
    refine o_alloc (cs := [(.int .i64 0)]) ha rfl Tryd.zeroValue3 rfl ?_; clear ha a; intro bqr1o26_1 wqr1o26_1 hBqr1o26_1 hxqr1o26_1 hloqr1o26_1 a ha
    have qqr1o26_2 := Zn.one hloqr1o26_1
    have qqr1o26_3 := Nq.new hB3.fpb qqr1o26_2
    have qqr1o26_4 := Nq.made1 hloqr1o26_1 hB3.bi
    have qqr1o26_5 := Zn.upD qqr1o26_2 hEqr1o26_1
    have qqr1o26_6 := Zn.upB qqr1o26_2 qqr1o26_1
    replace hB3 := hB3.ext hxqr1o26_1
    have hEqr1o26_2 := Ext.trans hEqr1o26_1 hxqr1o26_1
    refine wpList_nil (e_sq ?_)
    have hStqr1o26_1 : RowKit.Below w2.heap.size wqr1_1 wqr1o26_1 := ext_bel qqr1o26_1.size hxqr1o26_1
    refine ⟨fun _ => hStqr1o26_1, ?_⟩
    have qqr1o26_7 := RowKit.Below.trans qqr1o26_1 hStqr1o26_1
    refine x_only 27 rfl (by kernel_rfl) ?_; intro wqr1o27_1 hxqr1o27_1
    replace hB3 := hB3.ext hxqr1o27_1
    replace hBqr1o26_1 := hBqr1o26_1.ext hxqr1o27_1
    have hEqr1o27_1 := Ext.trans hEqr1o26_2 hxqr1o27_1
    have qqr1o27_1 := bel_step qqr1o26_7 hxqr1o27_1
    refine o_alloc (cs := [(.int .i64 0)]) ha rfl Tryd.zeroValue3 rfl ?_; clear ha a; intro bqr1o27_1 wqr1o27_2 hBqr1o27_1 hxqr1o27_2 hloqr1o27_1 a ha
    have qqr1o27_2 := Zn.one hloqr1o27_1
    have qqr1o27_3 := Nq.new hB3.fpb qqr1o27_2
    have qqr1o27_4 := Nq.made1 hloqr1o27_1 hB3.bi
    have qqr1o27_5 := Nq.new hBqr1o26_1.fpb qqr1o27_2
    have qqr1o27_6 := Nq.made1 hloqr1o27_1 hBqr1o26_1.bi
    have qqr1o27_7 := Zn.upD qqr1o27_2 hEqr1o27_1
    have qqr1o27_8 := Zn.upB qqr1o27_2 qqr1o27_1
    replace hB3 := hB3.ext hxqr1o27_2
    replace hBqr1o26_1 := hBqr1o26_1.ext hxqr1o27_2
    have hEqr1o27_2 := Ext.trans hEqr1o27_1 hxqr1o27_2
    refine wpList_nil (e_sq ?_)
    have hStqr1o27_1 : RowKit.Below w2.heap.size wqr1o27_1 wqr1o27_2 := ext_bel qqr1o27_1.size hxqr1o27_2
    refine ⟨fun _ => hStqr1o27_1, ?_⟩
    have qqr1o27_9 := RowKit.Below.trans qqr1o27_1 hStqr1o27_1
    refine x_only 28 rfl (by kernel_rfl) ?_; intro wqr1o28_1 hxqr1o28_1
    replace hB3 := hB3.ext hxqr1o28_1
    replace hBqr1o26_1 := hBqr1o26_1.ext hxqr1o28_1
    replace hBqr1o27_1 := hBqr1o27_1.ext hxqr1o28_1
    have hEqr1o28_1 := Ext.trans hEqr1o27_2 hxqr1o28_1
    have qqr1o28_1 := bel_step qqr1o27_9 hxqr1o28_1
    refine o_storeB ha hBqr1o26_1 Tryd.sizeOf3 rfl rfl rfl rfl (Nat.le_of_ble_eq_true rfl) ?_; intro wqr1o28_2 hBqr1o28_1 hcqr1o28_1
    replace hcqr1o28_1 := hcqr1o28_1.bl
    replace hBqr1o28_1 : Bx wqr1o28_2 bqr1o26_1 [(.int .i64 (min x22 x46))] 3 := hBqr1o28_1
    replace hB3 := hB3.nq hcqr1o28_1 qqr1o26_3
    replace hBqr1o27_1 := hBqr1o27_1.nq hcqr1o28_1 qqr1o27_6
    have hEqr1o28_2 := Ext.then hEqr1o28_1 hcqr1o28_1 (Zn.bl qqr1o26_5)
    refine wpList_nil (e_sq ?_)
    have hStqr1o28_1 : RowKit.Below w2.heap.size wqr1o28_1 wqr1o28_2 := chg_bel hcqr1o28_1 qqr1o28_1.size (Zn.bl qqr1o26_6)
    refine ⟨fun _ => hStqr1o28_1, ?_⟩
    have qqr1o28_2 := RowKit.Below.trans qqr1o28_1 hStqr1o28_1
    refine x_only 29 rfl (by kernel_rfl) ?_; intro wqr1o29_1 hxqr1o29_1
    replace hB3 := hB3.ext hxqr1o29_1
    replace hBqr1o28_1 := hBqr1o28_1.ext hxqr1o29_1
    replace hBqr1o27_1 := hBqr1o27_1.ext hxqr1o29_1
    have hEqr1o29_1 := Ext.trans hEqr1o28_2 hxqr1o29_1
    have qqr1o29_1 := bel_step qqr1o28_2 hxqr1o29_1
    refine o_storeB ha hBqr1o27_1 Tryd.sizeOf3 rfl rfl rfl rfl (Nat.le_of_ble_eq_true rfl) ?_; intro wqr1o29_2 hBqr1o29_1 hcqr1o29_1
    replace hcqr1o29_1 := hcqr1o29_1.bl
    replace hBqr1o29_1 : Bx wqr1o29_2 bqr1o27_1 [(.int .i64 (max x70 x94))] 3 := hBqr1o29_1
    replace hB3 := hB3.nq hcqr1o29_1 qqr1o27_3
    replace hBqr1o28_1 := hBqr1o28_1.nq hcqr1o29_1 qqr1o27_5
    have hEqr1o29_2 := Ext.then hEqr1o29_1 hcqr1o29_1 (Zn.bl qqr1o27_7)
    refine wpList_nil (e_sq ?_)
    have hStqr1o29_1 : RowKit.Below w2.heap.size wqr1o29_1 wqr1o29_2 := chg_bel hcqr1o29_1 qqr1o29_1.size (Zn.bl qqr1o27_8)
    refine ⟨fun _ => hStqr1o29_1, ?_⟩
    have qqr1o29_2 := RowKit.Below.trans qqr1o29_1 hStqr1o29_1
    refine x_done (by kernel_rfl) ?_; intro w106 hx107
    replace hB3 := hB3.ext hx107
    replace hBqr1o28_1 := hBqr1o28_1.ext hx107
    replace hBqr1o29_1 := hBqr1o29_1.ext hx107
    have hE108 := Ext.trans hEqr1o29_2 hx107
    replace ha := ha.sub (σ' := [(1, va1), (2, va2), (3, (.pointer (some ⟨b1, 0, none⟩))), (7, (.pointer (some ⟨bqr1o26_1, 0, none⟩))), (8, (.pointer (some ⟨bqr1o27_1, 0, none⟩)))]) ⟨rfl, rfl, rfl, rfl, rfl, trivial⟩; refine e_then ?_; refine wp_seq ?_; refine wp_region_lit ?_; refine op_g ha rfl (g_func rfl rfl) ?_; clear ha a; intro a ha; refine op_g ha rfl (g_assign rfl) ?_; clear ha a; intro a ha; refine wpList_nil ?_; replace ha := ha.sub (σ' := [(1, va1), (2, va2), (9, (.func (.func 59) #[] #[(.pointer (some ⟨bqr1o26_1, 0, none⟩)), (.pointer (some ⟨b1, 0, none⟩)), (.pointer (some ⟨bqr1o27_1, 0, none⟩))]))]) ⟨rfl, rfl, rfl, trivial⟩
    refine e_then ?_; refine wp_seq ?_; refine d_quiet hmix (by kernel_rfl) ?_; refine q_g ha rfl (g_move rfl) ?_; clear ha a; intro a ha; obtain ⟨x109, g110, gx111, hF⟩ := idx_some hF
    obtain ⟨p112, cs113, f114, hf115, hpb116, hat117, hr118, hi119⟩ := ha1.at g110 gx111
    obtain ⟨rfl, hI120, rfl⟩ := hr118
    refine q_g ha rfl (hi119.gives sl31 rfl rfl) ?_; clear ha a; intro a ha; refine q_g ha rfl (g_load0 hE108 Tryd.isAgg2 rfl hat117.one) ?_; clear ha a; intro a ha; refine q_g ha rfl (g_move rfl) ?_; clear ha a; intro a ha; obtain ⟨x121, g122, gx123, hF⟩ := idx_some hF
    obtain ⟨p124, cs125, f126, hf127, hpb128, hat129, hr130, hi131⟩ := ha2.at g122 gx123
    obtain ⟨rfl, hI132, rfl⟩ := hr130
    refine q_g ha rfl (hi131.gives sl31 rfl rfl) ?_; clear ha a; intro a ha; refine q_g ha rfl (g_load0 hE108 Tryd.isAgg2 rfl hat129.one) ?_; clear ha a; intro a ha; refine q_g ha rfl (g_neq rfl rfl) ?_; clear ha a; intro a ha; refine q_g ha rfl (g_move rfl) ?_; clear ha a; intro a ha
    by_cases hp133 : x109 ≠ x121
    · replace hF := if_t hp133 hF
      rw [show (decide (x109 ≠ x121)) = true from (decide_eq_true_iff).2 hp133] at ha
      refine q_want (yields ha rfl rfl) ?_; refine q_g ha rfl (g_move rfl) ?_; clear ha a; intro a ha; refine q_want (yields ha rfl rfl) ?_; obtain ⟨x134, g135, gx136, hF⟩ := idx_some hF
      obtain ⟨p137, cs138, f139, hf140, hpb141, hat142, hr143, hi144⟩ := ha1.at g135 gx136
      obtain ⟨rfl, hI145, rfl⟩ := hr143
      refine q_g ha rfl (hi144.gives sl31 rfl rfl) ?_; clear ha a; intro a ha; refine q_want (yields ha rfl rfl) ?_; refine q_g ha rfl (g_load0 hE108 Tryd.isAgg2 rfl hat142.one) ?_; clear ha a; intro a ha; refine q_want (yields ha rfl rfl) ?_; refine q_g ha rfl (g_move rfl) ?_; clear ha a; intro a ha; refine q_want (yields ha rfl rfl) ?_; obtain ⟨x146, g147, gx148, hF⟩ := idx_some hF
      obtain ⟨p149, cs150, f151, hf152, hpb153, hat154, hr155, hi156⟩ := ha2.at g147 gx148
      obtain ⟨rfl, hI157, rfl⟩ := hr155
      refine q_g ha rfl (hi156.gives sl31 rfl rfl) ?_; clear ha a; intro a ha; refine q_want (yields ha rfl rfl) ?_; refine q_g ha rfl (g_load0 hE108 Tryd.isAgg2 rfl hat154.one) ?_; clear ha a; intro a ha; refine q_want (yields ha rfl rfl) ?_; refine q_g ha rfl (g_neq rfl rfl) ?_; clear ha a; intro a ha; refine q_g ha rfl (g_pick rfl rfl) ?_; clear ha a; intro a ha; refine q_g ha rfl (g_move rfl) ?_; clear ha a; intro a ha
      by_cases hp158 : x134 ≠ x146
      · replace hF := if_t hp158 hF
        rw [show (decide (x134 ≠ x146)) = true from (decide_eq_true_iff).2 hp158] at ha
        refine q_want (yields ha rfl rfl) ?_; refine q_g ha rfl (g_move rfl) ?_; clear ha a; intro a ha; refine q_want (yields ha rfl rfl) ?_; obtain ⟨x159, g160, gx161, hF⟩ := idx_some hF
        obtain ⟨p162, cs163, f164, hf165, hpb166, hat167, hr168, hi169⟩ := ha1.at g160 gx161
        obtain ⟨rfl, hI170, rfl⟩ := hr168
        refine q_g ha rfl (hi169.gives sl31 rfl rfl) ?_; clear ha a; intro a ha; refine q_want (yields ha rfl rfl) ?_; refine q_g ha rfl (g_load0 hE108 Tryd.isAgg2 rfl hat167.one) ?_; clear ha a; intro a ha; refine q_want (yields ha rfl rfl) ?_; refine q_g ha rfl (g_move rfl) ?_; clear ha a; intro a ha; refine q_want (yields ha rfl rfl) ?_; obtain ⟨x171, g172, gx173, hF⟩ := idx_some hF
        obtain ⟨p174, cs175, f176, hf177, hpb178, hat179, hr180, hi181⟩ := ha2.at g172 gx173
        obtain ⟨rfl, hI182, rfl⟩ := hr180
        refine q_g ha rfl (hi181.gives sl31 rfl rfl) ?_; clear ha a; intro a ha; refine q_want (yields ha rfl rfl) ?_; refine q_g ha rfl (g_load0 hE108 Tryd.isAgg2 rfl hat179.one) ?_; clear ha a; intro a ha; refine q_want (yields ha rfl rfl) ?_; refine q_g ha rfl (g_neq rfl rfl) ?_; clear ha a; intro a ha; refine q_g ha rfl (g_pick rfl rfl) ?_; clear ha a; intro a ha; refine q_g ha rfl (g_move rfl) ?_; clear ha a; intro a ha
        by_cases hp183 : x159 ≠ x171
        · replace hF := if_t hp183 hF
          rw [show (decide (x159 ≠ x171)) = true from (decide_eq_true_iff).2 hp183] at ha
          refine q_want (yields ha rfl rfl) ?_; refine q_g ha rfl (g_move rfl) ?_; clear ha a; intro a ha; refine q_want (yields ha rfl rfl) ?_; obtain ⟨x184, g185, gx186, hF⟩ := idx_some hF
          obtain ⟨p187, cs188, f189, hf190, hpb191, hat192, hr193, hi194⟩ := ha1.at g185 gx186
          obtain ⟨rfl, hI195, rfl⟩ := hr193
          refine q_g ha rfl (hi194.gives sl31 rfl rfl) ?_; clear ha a; intro a ha; refine q_want (yields ha rfl rfl) ?_; refine q_g ha rfl (g_load0 hE108 Tryd.isAgg2 rfl hat192.one) ?_; clear ha a; intro a ha; refine q_want (yields ha rfl rfl) ?_; refine q_g ha rfl (g_move rfl) ?_; clear ha a; intro a ha; refine q_want (yields ha rfl rfl) ?_; obtain ⟨x196, g197, gx198, hF⟩ := idx_some hF
          obtain ⟨p199, cs200, f201, hf202, hpb203, hat204, hr205, hi206⟩ := ha2.at g197 gx198
          obtain ⟨rfl, hI207, rfl⟩ := hr205
          refine q_g ha rfl (hi206.gives sl31 rfl rfl) ?_; clear ha a; intro a ha; refine q_want (yields ha rfl rfl) ?_; refine q_g ha rfl (g_load0 hE108 Tryd.isAgg2 rfl hat204.one) ?_; clear ha a; intro a ha; refine q_want (yields ha rfl rfl) ?_; refine q_g ha rfl (g_neq rfl rfl) ?_; clear ha a; intro a ha; refine q_g ha rfl (g_pick rfl rfl) ?_; clear ha a; intro a ha; refine q_g ha rfl (g_assign rfl) ?_; clear ha a; intro a ha
          refine q_nil ?_; intro w208 hx209
          replace hB3 := hB3.ext hx209
          replace hBqr1o28_1 := hBqr1o28_1.ext hx209
          replace hBqr1o29_1 := hBqr1o29_1.ext hx209
          have hE210 := Ext.trans hE108 hx209
          replace ha := ha.sub (σ' := [(2, va2), (9, (.func (.func 59) #[] #[(.pointer (some ⟨bqr1o26_1, 0, none⟩)), (.pointer (some ⟨b1, 0, none⟩)), (.pointer (some ⟨bqr1o27_1, 0, none⟩))])), (10, (.bool (decide (x184 ≠ x196))))]) ⟨rfl, rfl, rfl, trivial⟩; refine e_then ?_; refine wp_seq ?_; refine d_quiet hmix (by kernel_rfl) ?_; (iterate 2 refine q_g ha rfl (g_move rfl) ?_; clear ha a; intro a ha)
          by_cases hp211 : x184 ≠ x196
          · replace hF := if_t hp211 hF
            rw [show (decide (x184 ≠ x196)) = true from (decide_eq_true_iff).2 hp211] at ha
            refine q_want (yields ha rfl rfl) ?_; refine q_g ha rfl (g_move rfl) ?_; clear ha a; intro a ha; refine q_want (yields ha rfl rfl) ?_; refine q_g ha rfl (g_move rfl) ?_; clear ha a; intro a ha; refine q_want (yields ha rfl rfl) ?_; obtain ⟨x212, g213, gx214, hF⟩ := idx_some hF
            obtain ⟨p215, cs216, f217, hf218, hpb219, hat220, hr221, hi222⟩ := ha2.at g213 gx214
            obtain ⟨rfl, hI223, rfl⟩ := hr221
            refine q_g ha rfl (hi222.gives sl31 rfl rfl) ?_; clear ha a; intro a ha; refine q_want (yields ha rfl rfl) ?_; refine q_g ha rfl (g_load0 hE210 Tryd.isAgg2 rfl hat220.one) ?_; clear ha a; intro a ha; refine q_want (yields ha rfl rfl) ?_; obtain ⟨x226, hc227, hF⟩ := cal_some hF; refine q_callv (.bool x226) ha rfl rfl rfl Tryd.call59 (fun w225 hx224 => W_impl_alternate_1 hI223 (in_min hI33 hI57) (hBqr1o28_1.ext hx224) (ha0.ext (Ext.trans hE210 hx224)) (hB3.ext hx224) (in_max hI81 hI105) (hBqr1o29_1.ext hx224) hc227) (fun _ _ _ h => ⟨h.1, h.2⟩) ?_; clear ha a; intro a ha; refine q_want (yields ha rfl rfl) ?_
            refine q_g ha rfl (g_move rfl) ?_; clear ha a; intro a ha; refine q_want (yields ha rfl rfl) ?_; refine q_g ha rfl (g_move rfl) ?_; clear ha a; intro a ha; refine q_want (yields ha rfl rfl) ?_; obtain ⟨x228, g229, gx230, hF⟩ := idx_some hF
            obtain ⟨p231, cs232, f233, hf234, hpb235, hat236, hr237, hi238⟩ := ha2.at g229 gx230
            obtain ⟨rfl, hI239, rfl⟩ := hr237
            refine q_g ha rfl (hi238.gives sl31 rfl rfl) ?_; clear ha a; intro a ha; refine q_want (yields ha rfl rfl) ?_; refine q_g ha rfl (g_load0 hE210 Tryd.isAgg2 rfl hat236.one) ?_; clear ha a; intro a ha; refine q_want (yields ha rfl rfl) ?_; obtain ⟨x242, hc243, hF⟩ := cal_some hF; refine q_callv (.bool x242) ha rfl rfl rfl Tryd.call59 (fun w241 hx240 => W_impl_alternate_1 hI239 (in_min hI33 hI57) (hBqr1o28_1.ext hx240) (ha0.ext (Ext.trans hE210 hx240)) (hB3.ext hx240) (in_max hI81 hI105) (hBqr1o29_1.ext hx240) hc243) (fun _ _ _ h => ⟨h.1, h.2⟩) ?_; clear ha a; intro a ha; refine q_want (yields ha rfl rfl) ?_
            refine q_g ha rfl (gB_neq un4 rfl rfl) ?_; clear ha a; intro a ha; refine q_g ha rfl (g_pick rfl rfl) ?_; clear ha a; intro a ha; refine q_g ha rfl (g_assign rfl) ?_; clear ha a; intro a ha
            refine q_nil ?_; intro w244 hx245
            replace hB3 := hB3.ext hx245
            replace hBqr1o28_1 := hBqr1o28_1.ext hx245
            replace hBqr1o29_1 := hBqr1o29_1.ext hx245
            have hE246 := Ext.trans hE210 hx245
            replace ha := ha.sub (σ' := [(6, (.bool (x226 != x242)))]) ⟨rfl, trivial⟩; refine e_then ?_; refine wp_ret ?_; obtain rfl := Option.some.inj hF
            exact f_ret1 ha rfl rfl ⟨rfl, hE246⟩
          replace hF := if_f hp211 hF
          rw [show (decide (x184 ≠ x196)) = false from b_false (decide_eq_true_iff) hp211] at ha
          (iterate 11 refine q_unwant ha rfl (yields ha rfl rfl) rfl ?_; clear ha a; intro a ha); refine q_g ha rfl (g_pick rfl rfl) ?_; clear ha a; intro a ha; refine q_g ha rfl (g_assign rfl) ?_; clear ha a; intro a ha
          refine q_nil ?_; intro w247 hx248
          replace hB3 := hB3.ext hx248
          replace hBqr1o28_1 := hBqr1o28_1.ext hx248
          replace hBqr1o29_1 := hBqr1o29_1.ext hx248
          have hE249 := Ext.trans hE210 hx248
          replace ha := ha.sub (σ' := [(6, (.bool false))]) ⟨rfl, trivial⟩; refine e_then ?_; refine wp_ret ?_; obtain rfl := Option.some.inj hF
          exact f_ret1 ha rfl rfl ⟨rfl, hE249⟩
        replace hF := if_f hp183 hF
        rw [show (decide (x159 ≠ x171)) = false from b_false (decide_eq_true_iff) hp183] at ha
        (iterate 7 refine q_unwant ha rfl (yields ha rfl rfl) rfl ?_; clear ha a; intro a ha); refine q_g ha rfl (g_pick rfl rfl) ?_; clear ha a; intro a ha; refine q_g ha rfl (g_assign rfl) ?_; clear ha a; intro a ha
        refine q_nil ?_; intro w250 hx251
        replace hB3 := hB3.ext hx251
        replace hBqr1o28_1 := hBqr1o28_1.ext hx251
        replace hBqr1o29_1 := hBqr1o29_1.ext hx251
        have hE252 := Ext.trans hE108 hx251
        replace ha := ha.sub (σ' := [(2, va2), (9, (.func (.func 59) #[] #[(.pointer (some ⟨bqr1o26_1, 0, none⟩)), (.pointer (some ⟨b1, 0, none⟩)), (.pointer (some ⟨bqr1o27_1, 0, none⟩))])), (10, (.bool false))]) ⟨rfl, rfl, rfl, trivial⟩; refine e_then ?_; refine wp_seq ?_; refine d_quiet hmix (by kernel_rfl) ?_; (iterate 2 refine q_g ha rfl (g_move rfl) ?_; clear ha a; intro a ha); (iterate 11 refine q_unwant ha rfl (yields ha rfl rfl) rfl ?_; clear ha a; intro a ha); refine q_g ha rfl (g_pick rfl rfl) ?_; clear ha a; intro a ha; refine q_g ha rfl (g_assign rfl) ?_; clear ha a; intro a ha
        refine q_nil ?_; intro w253 hx254
        replace hB3 := hB3.ext hx254
        replace hBqr1o28_1 := hBqr1o28_1.ext hx254
        replace hBqr1o29_1 := hBqr1o29_1.ext hx254
        have hE255 := Ext.trans hE252 hx254
        replace ha := ha.sub (σ' := [(6, (.bool false))]) ⟨rfl, trivial⟩; refine e_then ?_; refine wp_ret ?_; obtain rfl := Option.some.inj hF
        exact f_ret1 ha rfl rfl ⟨rfl, hE255⟩
      replace hF := if_f hp158 hF
      rw [show (decide (x134 ≠ x146)) = false from b_false (decide_eq_true_iff) hp158] at ha
      (iterate 7 refine q_unwant ha rfl (yields ha rfl rfl) rfl ?_; clear ha a; intro a ha); refine q_g ha rfl (g_pick rfl rfl) ?_; clear ha a; intro a ha; refine q_g ha rfl (g_move rfl) ?_; clear ha a; intro a ha; (iterate 7 refine q_unwant ha rfl (yields ha rfl rfl) rfl ?_; clear ha a; intro a ha); refine q_g ha rfl (g_pick rfl rfl) ?_; clear ha a; intro a ha; refine q_g ha rfl (g_assign rfl) ?_; clear ha a; intro a ha
      refine q_nil ?_; intro w256 hx257
      replace hB3 := hB3.ext hx257
      replace hBqr1o28_1 := hBqr1o28_1.ext hx257
      replace hBqr1o29_1 := hBqr1o29_1.ext hx257
      have hE258 := Ext.trans hE108 hx257
      replace ha := ha.sub (σ' := [(2, va2), (9, (.func (.func 59) #[] #[(.pointer (some ⟨bqr1o26_1, 0, none⟩)), (.pointer (some ⟨b1, 0, none⟩)), (.pointer (some ⟨bqr1o27_1, 0, none⟩))])), (10, (.bool false))]) ⟨rfl, rfl, rfl, trivial⟩; refine e_then ?_; refine wp_seq ?_; refine d_quiet hmix (by kernel_rfl) ?_; (iterate 2 refine q_g ha rfl (g_move rfl) ?_; clear ha a; intro a ha); (iterate 11 refine q_unwant ha rfl (yields ha rfl rfl) rfl ?_; clear ha a; intro a ha); refine q_g ha rfl (g_pick rfl rfl) ?_; clear ha a; intro a ha; refine q_g ha rfl (g_assign rfl) ?_; clear ha a; intro a ha
      refine q_nil ?_; intro w259 hx260
      replace hB3 := hB3.ext hx260
      replace hBqr1o28_1 := hBqr1o28_1.ext hx260
      replace hBqr1o29_1 := hBqr1o29_1.ext hx260
      have hE261 := Ext.trans hE258 hx260
      replace ha := ha.sub (σ' := [(6, (.bool false))]) ⟨rfl, trivial⟩; refine e_then ?_; refine wp_ret ?_; obtain rfl := Option.some.inj hF
      exact f_ret1 ha rfl rfl ⟨rfl, hE261⟩
    replace hF := if_f hp133 hF
    rw [show (decide (x109 ≠ x121)) = false from b_false (decide_eq_true_iff) hp133] at ha
    (iterate 7 refine q_unwant ha rfl (yields ha rfl rfl) rfl ?_; clear ha a; intro a ha); refine q_g ha rfl (g_pick rfl rfl) ?_; clear ha a; intro a ha; refine q_g ha rfl (g_move rfl) ?_; clear ha a; intro a ha; (iterate 7 refine q_unwant ha rfl (yields ha rfl rfl) rfl ?_; clear ha a; intro a ha); refine q_g ha rfl (g_pick rfl rfl) ?_; clear ha a; intro a ha; refine q_g ha rfl (g_move rfl) ?_; clear ha a; intro a ha; (iterate 7 refine q_unwant ha rfl (yields ha rfl rfl) rfl ?_; clear ha a; intro a ha); refine q_g ha rfl (g_pick rfl rfl) ?_; clear ha a; intro a ha; refine q_g ha rfl (g_assign rfl) ?_; clear ha a; intro a ha
    refine q_nil ?_; intro w262 hx263
    replace hB3 := hB3.ext hx263
    replace hBqr1o28_1 := hBqr1o28_1.ext hx263
    replace hBqr1o29_1 := hBqr1o29_1.ext hx263
    have hE264 := Ext.trans hE108 hx263
    replace ha := ha.sub (σ' := [(2, va2), (9, (.func (.func 59) #[] #[(.pointer (some ⟨bqr1o26_1, 0, none⟩)), (.pointer (some ⟨b1, 0, none⟩)), (.pointer (some ⟨bqr1o27_1, 0, none⟩))])), (10, (.bool false))]) ⟨rfl, rfl, rfl, trivial⟩; refine e_then ?_; refine wp_seq ?_; refine d_quiet hmix (by kernel_rfl) ?_; (iterate 2 refine q_g ha rfl (g_move rfl) ?_; clear ha a; intro a ha); (iterate 11 refine q_unwant ha rfl (yields ha rfl rfl) rfl ?_; clear ha a; intro a ha); refine q_g ha rfl (g_pick rfl rfl) ?_; clear ha a; intro a ha; refine q_g ha rfl (g_assign rfl) ?_; clear ha a; intro a ha
    refine q_nil ?_; intro w265 hx266
    replace hB3 := hB3.ext hx266
    replace hBqr1o28_1 := hBqr1o28_1.ext hx266
    replace hBqr1o29_1 := hBqr1o29_1.ext hx266
    have hE267 := Ext.trans hE264 hx266
    replace ha := ha.sub (σ' := [(6, (.bool false))]) ⟨rfl, trivial⟩; refine e_then ?_; refine wp_ret ?_; obtain rfl := Option.some.inj hF
    exact f_ret1 ha rfl rfl ⟨rfl, hE267⟩
  skip
  replace hB3 := hB3.ext hxqr1_1
  have hEqr1o27_1 := Ext.trans hE8 hxqr1_1
  have qqr1o27_1 := bel_step hS9 hxqr1_1
  refine o_alloc (cs := [(.int .i64 0)]) ha rfl Tryd.zeroValue3 rfl ?_; clear ha a; intro bqr1o27_1 wqr1o27_1 hBqr1o27_1 hxqr1o27_1 hloqr1o27_1 a ha
  have qqr1o27_2 := Zn.one hloqr1o27_1
  have qqr1o27_3 := Nq.new hB3.fpb qqr1o27_2
  have qqr1o27_4 := Nq.made1 hloqr1o27_1 hB3.bi
  have qqr1o27_5 := Zn.upD qqr1o27_2 hEqr1o27_1
  have qqr1o27_6 := Zn.upB qqr1o27_2 qqr1o27_1
  replace hB3 := hB3.ext hxqr1o27_1
  have hEqr1o27_2 := Ext.trans hEqr1o27_1 hxqr1o27_1
  refine wpList_nil (e_sq ?_)
  have hStqr1o27_1 : RowKit.Below w2.heap.size wqr1_1 wqr1o27_1 := ext_bel qqr1o27_1.size hxqr1o27_1
  refine ⟨fun _ => hStqr1o27_1, ?_⟩
  have qqr1o27_7 := RowKit.Below.trans qqr1o27_1 hStqr1o27_1
  refine x_only 26 rfl (by kernel_rfl) ?_; intro wqr1o26_1 hxqr1o26_1
  replace hB3 := hB3.ext hxqr1o26_1
  replace hBqr1o27_1 := hBqr1o27_1.ext hxqr1o26_1
  have hEqr1o26_1 := Ext.trans hEqr1o27_2 hxqr1o26_1
  have qqr1o26_1 := bel_step qqr1o27_7 hxqr1o26_1
  refine o_alloc (cs := [(.int .i64 0)]) ha rfl Tryd.zeroValue3 rfl ?_; clear ha a; intro bqr1o26_1 wqr1o26_2 hBqr1o26_1 hxqr1o26_2 hloqr1o26_1 a ha
  have qqr1o26_2 := Zn.one hloqr1o26_1
  have qqr1o26_3 := Nq.new hB3.fpb qqr1o26_2
  have qqr1o26_4 := Nq.made1 hloqr1o26_1 hB3.bi
  have qqr1o26_5 := Nq.new hBqr1o27_1.fpb qqr1o26_2
  have qqr1o26_6 := Nq.made1 hloqr1o26_1 hBqr1o27_1.bi
  have qqr1o26_7 := Zn.upD qqr1o26_2 hEqr1o26_1
  have qqr1o26_8 := Zn.upB qqr1o26_2 qqr1o26_1
  replace hB3 := hB3.ext hxqr1o26_2
  replace hBqr1o27_1 := hBqr1o27_1.ext hxqr1o26_2
  have hEqr1o26_2 := Ext.trans hEqr1o26_1 hxqr1o26_2
  refine wpList_nil (e_sq ?_)
  have hStqr1o26_1 : RowKit.Below w2.heap.size wqr1o26_1 wqr1o26_2 := ext_bel qqr1o26_1.size hxqr1o26_2
  refine ⟨fun _ => hStqr1o26_1, ?_⟩
  have qqr1o26_9 := RowKit.Below.trans qqr1o26_1 hStqr1o26_1
  refine x_only 28 rfl (by kernel_rfl) ?_; intro wqr1o28_1 hxqr1o28_1
  replace hB3 := hB3.ext hxqr1o28_1
  replace hBqr1o27_1 := hBqr1o27_1.ext hxqr1o28_1
  replace hBqr1o26_1 := hBqr1o26_1.ext hxqr1o28_1
  have hEqr1o28_1 := Ext.trans hEqr1o26_2 hxqr1o28_1
  have qqr1o28_1 := bel_step qqr1o26_9 hxqr1o28_1
  refine o_storeB ha hBqr1o26_1 Tryd.sizeOf3 rfl rfl rfl rfl (Nat.le_of_ble_eq_true rfl) ?_; intro wqr1o28_2 hBqr1o28_1 hcqr1o28_1
  replace hcqr1o28_1 := hcqr1o28_1.bl
  replace hBqr1o28_1 : Bx wqr1o28_2 bqr1o26_1 [(.int .i64 (min x22 x46))] 3 := hBqr1o28_1
  replace hB3 := hB3.nq hcqr1o28_1 qqr1o26_3
  replace hBqr1o27_1 := hBqr1o27_1.nq hcqr1o28_1 qqr1o26_5
  have hEqr1o28_2 := Ext.then hEqr1o28_1 hcqr1o28_1 (Zn.bl qqr1o26_7)
  refine wpList_nil (e_sq ?_)
  have hStqr1o28_1 : RowKit.Below w2.heap.size wqr1o28_1 wqr1o28_2 := chg_bel hcqr1o28_1 qqr1o28_1.size (Zn.bl qqr1o26_8)
  refine ⟨fun _ => hStqr1o28_1, ?_⟩
  have qqr1o28_2 := RowKit.Below.trans qqr1o28_1 hStqr1o28_1
  refine x_only 29 rfl (by kernel_rfl) ?_; intro wqr1o29_1 hxqr1o29_1
  replace hB3 := hB3.ext hxqr1o29_1
  replace hBqr1o27_1 := hBqr1o27_1.ext hxqr1o29_1
  replace hBqr1o28_1 := hBqr1o28_1.ext hxqr1o29_1
  have hEqr1o29_1 := Ext.trans hEqr1o28_2 hxqr1o29_1
  have qqr1o29_1 := bel_step qqr1o28_2 hxqr1o29_1
  refine o_storeB ha hBqr1o27_1 Tryd.sizeOf3 rfl rfl rfl rfl (Nat.le_of_ble_eq_true rfl) ?_; intro wqr1o29_2 hBqr1o29_1 hcqr1o29_1
  replace hcqr1o29_1 := hcqr1o29_1.bl
  replace hBqr1o29_1 : Bx wqr1o29_2 bqr1o27_1 [(.int .i64 (max x70 x94))] 3 := hBqr1o29_1
  replace hB3 := hB3.nq hcqr1o29_1 qqr1o27_3
  replace hBqr1o28_1 := hBqr1o28_1.nq hcqr1o29_1 qqr1o26_6
  have hEqr1o29_2 := Ext.then hEqr1o29_1 hcqr1o29_1 (Zn.bl qqr1o27_5)
  refine wpList_nil (e_sq ?_)
  have hStqr1o29_1 : RowKit.Below w2.heap.size wqr1o29_1 wqr1o29_2 := chg_bel hcqr1o29_1 qqr1o29_1.size (Zn.bl qqr1o27_6)
  refine ⟨fun _ => hStqr1o29_1, ?_⟩
  have qqr1o29_2 := RowKit.Below.trans qqr1o29_1 hStqr1o29_1
  refine x_done (by kernel_rfl) ?_; intro w106 hx107
  replace hB3 := hB3.ext hx107
  replace hBqr1o29_1 := hBqr1o29_1.ext hx107
  replace hBqr1o28_1 := hBqr1o28_1.ext hx107
  have hE108 := Ext.trans hEqr1o29_2 hx107
  replace ha := ha.sub (σ' := [(1, va1), (2, va2), (3, (.pointer (some ⟨b1, 0, none⟩))), (7, (.pointer (some ⟨bqr1o26_1, 0, none⟩))), (8, (.pointer (some ⟨bqr1o27_1, 0, none⟩)))]) ⟨rfl, rfl, rfl, rfl, rfl, trivial⟩; refine e_then ?_; refine wp_seq ?_; refine wp_region_lit ?_; refine op_g ha rfl (g_func rfl rfl) ?_; clear ha a; intro a ha; refine op_g ha rfl (g_assign rfl) ?_; clear ha a; intro a ha; refine wpList_nil ?_; replace ha := ha.sub (σ' := [(1, va1), (2, va2), (9, (.func (.func 59) #[] #[(.pointer (some ⟨bqr1o26_1, 0, none⟩)), (.pointer (some ⟨b1, 0, none⟩)), (.pointer (some ⟨bqr1o27_1, 0, none⟩))]))]) ⟨rfl, rfl, rfl, trivial⟩
  refine e_then ?_; refine wp_seq ?_; refine d_quiet hmix (by kernel_rfl) ?_; refine q_g ha rfl (g_move rfl) ?_; clear ha a; intro a ha; obtain ⟨x109, g110, gx111, hF⟩ := idx_some hF
  obtain ⟨p112, cs113, f114, hf115, hpb116, hat117, hr118, hi119⟩ := ha1.at g110 gx111
  obtain ⟨rfl, hI120, rfl⟩ := hr118
  refine q_g ha rfl (hi119.gives sl31 rfl rfl) ?_; clear ha a; intro a ha; refine q_g ha rfl (g_load0 hE108 Tryd.isAgg2 rfl hat117.one) ?_; clear ha a; intro a ha; refine q_g ha rfl (g_move rfl) ?_; clear ha a; intro a ha; obtain ⟨x121, g122, gx123, hF⟩ := idx_some hF
  obtain ⟨p124, cs125, f126, hf127, hpb128, hat129, hr130, hi131⟩ := ha2.at g122 gx123
  obtain ⟨rfl, hI132, rfl⟩ := hr130
  refine q_g ha rfl (hi131.gives sl31 rfl rfl) ?_; clear ha a; intro a ha; refine q_g ha rfl (g_load0 hE108 Tryd.isAgg2 rfl hat129.one) ?_; clear ha a; intro a ha; refine q_g ha rfl (g_neq rfl rfl) ?_; clear ha a; intro a ha; refine q_g ha rfl (g_move rfl) ?_; clear ha a; intro a ha
  by_cases hp133 : x109 ≠ x121
  · replace hF := if_t hp133 hF
    rw [show (decide (x109 ≠ x121)) = true from (decide_eq_true_iff).2 hp133] at ha
    refine q_want (yields ha rfl rfl) ?_; refine q_g ha rfl (g_move rfl) ?_; clear ha a; intro a ha; refine q_want (yields ha rfl rfl) ?_; obtain ⟨x134, g135, gx136, hF⟩ := idx_some hF
    obtain ⟨p137, cs138, f139, hf140, hpb141, hat142, hr143, hi144⟩ := ha1.at g135 gx136
    obtain ⟨rfl, hI145, rfl⟩ := hr143
    refine q_g ha rfl (hi144.gives sl31 rfl rfl) ?_; clear ha a; intro a ha; refine q_want (yields ha rfl rfl) ?_; refine q_g ha rfl (g_load0 hE108 Tryd.isAgg2 rfl hat142.one) ?_; clear ha a; intro a ha; refine q_want (yields ha rfl rfl) ?_; refine q_g ha rfl (g_move rfl) ?_; clear ha a; intro a ha; refine q_want (yields ha rfl rfl) ?_; obtain ⟨x146, g147, gx148, hF⟩ := idx_some hF
    obtain ⟨p149, cs150, f151, hf152, hpb153, hat154, hr155, hi156⟩ := ha2.at g147 gx148
    obtain ⟨rfl, hI157, rfl⟩ := hr155
    refine q_g ha rfl (hi156.gives sl31 rfl rfl) ?_; clear ha a; intro a ha; refine q_want (yields ha rfl rfl) ?_; refine q_g ha rfl (g_load0 hE108 Tryd.isAgg2 rfl hat154.one) ?_; clear ha a; intro a ha; refine q_want (yields ha rfl rfl) ?_; refine q_g ha rfl (g_neq rfl rfl) ?_; clear ha a; intro a ha; refine q_g ha rfl (g_pick rfl rfl) ?_; clear ha a; intro a ha; refine q_g ha rfl (g_move rfl) ?_; clear ha a; intro a ha
    by_cases hp158 : x134 ≠ x146
    · replace hF := if_t hp158 hF
      rw [show (decide (x134 ≠ x146)) = true from (decide_eq_true_iff).2 hp158] at ha
      refine q_want (yields ha rfl rfl) ?_; refine q_g ha rfl (g_move rfl) ?_; clear ha a; intro a ha; refine q_want (yields ha rfl rfl) ?_; obtain ⟨x159, g160, gx161, hF⟩ := idx_some hF
      obtain ⟨p162, cs163, f164, hf165, hpb166, hat167, hr168, hi169⟩ := ha1.at g160 gx161
      obtain ⟨rfl, hI170, rfl⟩ := hr168
      refine q_g ha rfl (hi169.gives sl31 rfl rfl) ?_; clear ha a; intro a ha; refine q_want (yields ha rfl rfl) ?_; refine q_g ha rfl (g_load0 hE108 Tryd.isAgg2 rfl hat167.one) ?_; clear ha a; intro a ha; refine q_want (yields ha rfl rfl) ?_; refine q_g ha rfl (g_move rfl) ?_; clear ha a; intro a ha; refine q_want (yields ha rfl rfl) ?_; obtain ⟨x171, g172, gx173, hF⟩ := idx_some hF
      obtain ⟨p174, cs175, f176, hf177, hpb178, hat179, hr180, hi181⟩ := ha2.at g172 gx173
      obtain ⟨rfl, hI182, rfl⟩ := hr180
      refine q_g ha rfl (hi181.gives sl31 rfl rfl) ?_; clear ha a; intro a ha; refine q_want (yields ha rfl rfl) ?_; refine q_g ha rfl (g_load0 hE108 Tryd.isAgg2 rfl hat179.one) ?_; clear ha a; intro a ha; refine q_want (yields ha rfl rfl) ?_; refine q_g ha rfl (g_neq rfl rfl) ?_; clear ha a; intro a ha; refine q_g ha rfl (g_pick rfl rfl) ?_; clear ha a; intro a ha; refine q_g ha rfl (g_move rfl) ?_; clear ha a; intro a ha
      by_cases hp183 : x159 ≠ x171
      · replace hF := if_t hp183 hF
        rw [show (decide (x159 ≠ x171)) = true from (decide_eq_true_iff).2 hp183] at ha
        refine q_want (yields ha rfl rfl) ?_; refine q_g ha rfl (g_move rfl) ?_; clear ha a; intro a ha; refine q_want (yields ha rfl rfl) ?_; obtain ⟨x184, g185, gx186, hF⟩ := idx_some hF
        obtain ⟨p187, cs188, f189, hf190, hpb191, hat192, hr193, hi194⟩ := ha1.at g185 gx186
        obtain ⟨rfl, hI195, rfl⟩ := hr193
        refine q_g ha rfl (hi194.gives sl31 rfl rfl) ?_; clear ha a; intro a ha; refine q_want (yields ha rfl rfl) ?_; refine q_g ha rfl (g_load0 hE108 Tryd.isAgg2 rfl hat192.one) ?_; clear ha a; intro a ha; refine q_want (yields ha rfl rfl) ?_; refine q_g ha rfl (g_move rfl) ?_; clear ha a; intro a ha; refine q_want (yields ha rfl rfl) ?_; obtain ⟨x196, g197, gx198, hF⟩ := idx_some hF
        obtain ⟨p199, cs200, f201, hf202, hpb203, hat204, hr205, hi206⟩ := ha2.at g197 gx198
        obtain ⟨rfl, hI207, rfl⟩ := hr205
        refine q_g ha rfl (hi206.gives sl31 rfl rfl) ?_; clear ha a; intro a ha; refine q_want (yields ha rfl rfl) ?_; refine q_g ha rfl (g_load0 hE108 Tryd.isAgg2 rfl hat204.one) ?_; clear ha a; intro a ha; refine q_want (yields ha rfl rfl) ?_; refine q_g ha rfl (g_neq rfl rfl) ?_; clear ha a; intro a ha; refine q_g ha rfl (g_pick rfl rfl) ?_; clear ha a; intro a ha; refine q_g ha rfl (g_assign rfl) ?_; clear ha a; intro a ha
        refine q_nil ?_; intro w208 hx209
        replace hB3 := hB3.ext hx209
        replace hBqr1o29_1 := hBqr1o29_1.ext hx209
        replace hBqr1o28_1 := hBqr1o28_1.ext hx209
        have hE210 := Ext.trans hE108 hx209
        replace ha := ha.sub (σ' := [(2, va2), (9, (.func (.func 59) #[] #[(.pointer (some ⟨bqr1o26_1, 0, none⟩)), (.pointer (some ⟨b1, 0, none⟩)), (.pointer (some ⟨bqr1o27_1, 0, none⟩))])), (10, (.bool (decide (x184 ≠ x196))))]) ⟨rfl, rfl, rfl, trivial⟩; refine e_then ?_; refine wp_seq ?_; refine d_quiet hmix (by kernel_rfl) ?_; (iterate 2 refine q_g ha rfl (g_move rfl) ?_; clear ha a; intro a ha)
        by_cases hp211 : x184 ≠ x196
        · replace hF := if_t hp211 hF
          rw [show (decide (x184 ≠ x196)) = true from (decide_eq_true_iff).2 hp211] at ha
          refine q_want (yields ha rfl rfl) ?_; refine q_g ha rfl (g_move rfl) ?_; clear ha a; intro a ha; refine q_want (yields ha rfl rfl) ?_; refine q_g ha rfl (g_move rfl) ?_; clear ha a; intro a ha; refine q_want (yields ha rfl rfl) ?_; obtain ⟨x212, g213, gx214, hF⟩ := idx_some hF
          obtain ⟨p215, cs216, f217, hf218, hpb219, hat220, hr221, hi222⟩ := ha2.at g213 gx214
          obtain ⟨rfl, hI223, rfl⟩ := hr221
          refine q_g ha rfl (hi222.gives sl31 rfl rfl) ?_; clear ha a; intro a ha; refine q_want (yields ha rfl rfl) ?_; refine q_g ha rfl (g_load0 hE210 Tryd.isAgg2 rfl hat220.one) ?_; clear ha a; intro a ha; refine q_want (yields ha rfl rfl) ?_; obtain ⟨x226, hc227, hF⟩ := cal_some hF; refine q_callv (.bool x226) ha rfl rfl rfl Tryd.call59 (fun w225 hx224 => W_impl_alternate_1 hI223 (in_min hI33 hI57) (hBqr1o28_1.ext hx224) (ha0.ext (Ext.trans hE210 hx224)) (hB3.ext hx224) (in_max hI81 hI105) (hBqr1o29_1.ext hx224) hc227) (fun _ _ _ h => ⟨h.1, h.2⟩) ?_; clear ha a; intro a ha; refine q_want (yields ha rfl rfl) ?_
          refine q_g ha rfl (g_move rfl) ?_; clear ha a; intro a ha; refine q_want (yields ha rfl rfl) ?_; refine q_g ha rfl (g_move rfl) ?_; clear ha a; intro a ha; refine q_want (yields ha rfl rfl) ?_; obtain ⟨x228, g229, gx230, hF⟩ := idx_some hF
          obtain ⟨p231, cs232, f233, hf234, hpb235, hat236, hr237, hi238⟩ := ha2.at g229 gx230
          obtain ⟨rfl, hI239, rfl⟩ := hr237
          refine q_g ha rfl (hi238.gives sl31 rfl rfl) ?_; clear ha a; intro a ha; refine q_want (yields ha rfl rfl) ?_; refine q_g ha rfl (g_load0 hE210 Tryd.isAgg2 rfl hat236.one) ?_; clear ha a; intro a ha; refine q_want (yields ha rfl rfl) ?_; obtain ⟨x242, hc243, hF⟩ := cal_some hF; refine q_callv (.bool x242) ha rfl rfl rfl Tryd.call59 (fun w241 hx240 => W_impl_alternate_1 hI239 (in_min hI33 hI57) (hBqr1o28_1.ext hx240) (ha0.ext (Ext.trans hE210 hx240)) (hB3.ext hx240) (in_max hI81 hI105) (hBqr1o29_1.ext hx240) hc243) (fun _ _ _ h => ⟨h.1, h.2⟩) ?_; clear ha a; intro a ha; refine q_want (yields ha rfl rfl) ?_
          refine q_g ha rfl (gB_neq un4 rfl rfl) ?_; clear ha a; intro a ha; refine q_g ha rfl (g_pick rfl rfl) ?_; clear ha a; intro a ha; refine q_g ha rfl (g_assign rfl) ?_; clear ha a; intro a ha
          refine q_nil ?_; intro w244 hx245
          replace hB3 := hB3.ext hx245
          replace hBqr1o29_1 := hBqr1o29_1.ext hx245
          replace hBqr1o28_1 := hBqr1o28_1.ext hx245
          have hE246 := Ext.trans hE210 hx245
          replace ha := ha.sub (σ' := [(6, (.bool (x226 != x242)))]) ⟨rfl, trivial⟩; refine e_then ?_; refine wp_ret ?_; obtain rfl := Option.some.inj hF
          exact f_ret1 ha rfl rfl ⟨rfl, hE246⟩
        replace hF := if_f hp211 hF
        rw [show (decide (x184 ≠ x196)) = false from b_false (decide_eq_true_iff) hp211] at ha
        (iterate 11 refine q_unwant ha rfl (yields ha rfl rfl) rfl ?_; clear ha a; intro a ha); refine q_g ha rfl (g_pick rfl rfl) ?_; clear ha a; intro a ha; refine q_g ha rfl (g_assign rfl) ?_; clear ha a; intro a ha
        refine q_nil ?_; intro w247 hx248
        replace hB3 := hB3.ext hx248
        replace hBqr1o29_1 := hBqr1o29_1.ext hx248
        replace hBqr1o28_1 := hBqr1o28_1.ext hx248
        have hE249 := Ext.trans hE210 hx248
        replace ha := ha.sub (σ' := [(6, (.bool false))]) ⟨rfl, trivial⟩; refine e_then ?_; refine wp_ret ?_; obtain rfl := Option.some.inj hF
        exact f_ret1 ha rfl rfl ⟨rfl, hE249⟩
      replace hF := if_f hp183 hF
      rw [show (decide (x159 ≠ x171)) = false from b_false (decide_eq_true_iff) hp183] at ha
      (iterate 7 refine q_unwant ha rfl (yields ha rfl rfl) rfl ?_; clear ha a; intro a ha); refine q_g ha rfl (g_pick rfl rfl) ?_; clear ha a; intro a ha; refine q_g ha rfl (g_assign rfl) ?_; clear ha a; intro a ha
      refine q_nil ?_; intro w250 hx251
      replace hB3 := hB3.ext hx251
      replace hBqr1o29_1 := hBqr1o29_1.ext hx251
      replace hBqr1o28_1 := hBqr1o28_1.ext hx251
      have hE252 := Ext.trans hE108 hx251
      replace ha := ha.sub (σ' := [(2, va2), (9, (.func (.func 59) #[] #[(.pointer (some ⟨bqr1o26_1, 0, none⟩)), (.pointer (some ⟨b1, 0, none⟩)), (.pointer (some ⟨bqr1o27_1, 0, none⟩))])), (10, (.bool false))]) ⟨rfl, rfl, rfl, trivial⟩; refine e_then ?_; refine wp_seq ?_; refine d_quiet hmix (by kernel_rfl) ?_; (iterate 2 refine q_g ha rfl (g_move rfl) ?_; clear ha a; intro a ha); (iterate 11 refine q_unwant ha rfl (yields ha rfl rfl) rfl ?_; clear ha a; intro a ha); refine q_g ha rfl (g_pick rfl rfl) ?_; clear ha a; intro a ha; refine q_g ha rfl (g_assign rfl) ?_; clear ha a; intro a ha
      refine q_nil ?_; intro w253 hx254
      replace hB3 := hB3.ext hx254
      replace hBqr1o29_1 := hBqr1o29_1.ext hx254
      replace hBqr1o28_1 := hBqr1o28_1.ext hx254
      have hE255 := Ext.trans hE252 hx254
      replace ha := ha.sub (σ' := [(6, (.bool false))]) ⟨rfl, trivial⟩; refine e_then ?_; refine wp_ret ?_; obtain rfl := Option.some.inj hF
      exact f_ret1 ha rfl rfl ⟨rfl, hE255⟩
    replace hF := if_f hp158 hF
    rw [show (decide (x134 ≠ x146)) = false from b_false (decide_eq_true_iff) hp158] at ha
    (iterate 7 refine q_unwant ha rfl (yields ha rfl rfl) rfl ?_; clear ha a; intro a ha); refine q_g ha rfl (g_pick rfl rfl) ?_; clear ha a; intro a ha; refine q_g ha rfl (g_move rfl) ?_; clear ha a; intro a ha; (iterate 7 refine q_unwant ha rfl (yields ha rfl rfl) rfl ?_; clear ha a; intro a ha); refine q_g ha rfl (g_pick rfl rfl) ?_; clear ha a; intro a ha; refine q_g ha rfl (g_assign rfl) ?_; clear ha a; intro a ha
    refine q_nil ?_; intro w256 hx257
    replace hB3 := hB3.ext hx257
    replace hBqr1o29_1 := hBqr1o29_1.ext hx257
    replace hBqr1o28_1 := hBqr1o28_1.ext hx257
    have hE258 := Ext.trans hE108 hx257
    replace ha := ha.sub (σ' := [(2, va2), (9, (.func (.func 59) #[] #[(.pointer (some ⟨bqr1o26_1, 0, none⟩)), (.pointer (some ⟨b1, 0, none⟩)), (.pointer (some ⟨bqr1o27_1, 0, none⟩))])), (10, (.bool false))]) ⟨rfl, rfl, rfl, trivial⟩; refine e_then ?_; refine wp_seq ?_; refine d_quiet hmix (by kernel_rfl) ?_; (iterate 2 refine q_g ha rfl (g_move rfl) ?_; clear ha a; intro a ha); (iterate 11 refine q_unwant ha rfl (yields ha rfl rfl) rfl ?_; clear ha a; intro a ha); refine q_g ha rfl (g_pick rfl rfl) ?_; clear ha a; intro a ha; refine q_g ha rfl (g_assign rfl) ?_; clear ha a; intro a ha
    refine q_nil ?_; intro w259 hx260
    replace hB3 := hB3.ext hx260
    replace hBqr1o29_1 := hBqr1o29_1.ext hx260
    replace hBqr1o28_1 := hBqr1o28_1.ext hx260
    have hE261 := Ext.trans hE258 hx260
    replace ha := ha.sub (σ' := [(6, (.bool false))]) ⟨rfl, trivial⟩; refine e_then ?_; refine wp_ret ?_; obtain rfl := Option.some.inj hF
    exact f_ret1 ha rfl rfl ⟨rfl, hE261⟩
  replace hF := if_f hp133 hF
  rw [show (decide (x109 ≠ x121)) = false from b_false (decide_eq_true_iff) hp133] at ha
  (iterate 7 refine q_unwant ha rfl (yields ha rfl rfl) rfl ?_; clear ha a; intro a ha); refine q_g ha rfl (g_pick rfl rfl) ?_; clear ha a; intro a ha; refine q_g ha rfl (g_move rfl) ?_; clear ha a; intro a ha; (iterate 7 refine q_unwant ha rfl (yields ha rfl rfl) rfl ?_; clear ha a; intro a ha); refine q_g ha rfl (g_pick rfl rfl) ?_; clear ha a; intro a ha; refine q_g ha rfl (g_move rfl) ?_; clear ha a; intro a ha; (iterate 7 refine q_unwant ha rfl (yields ha rfl rfl) rfl ?_; clear ha a; intro a ha); refine q_g ha rfl (g_pick rfl rfl) ?_; clear ha a; intro a ha; refine q_g ha rfl (g_assign rfl) ?_; clear ha a; intro a ha
  refine q_nil ?_; intro w262 hx263
  replace hB3 := hB3.ext hx263
  replace hBqr1o29_1 := hBqr1o29_1.ext hx263
  replace hBqr1o28_1 := hBqr1o28_1.ext hx263
  have hE264 := Ext.trans hE108 hx263
  replace ha := ha.sub (σ' := [(2, va2), (9, (.func (.func 59) #[] #[(.pointer (some ⟨bqr1o26_1, 0, none⟩)), (.pointer (some ⟨b1, 0, none⟩)), (.pointer (some ⟨bqr1o27_1, 0, none⟩))])), (10, (.bool false))]) ⟨rfl, rfl, rfl, trivial⟩; refine e_then ?_; refine wp_seq ?_; refine d_quiet hmix (by kernel_rfl) ?_; (iterate 2 refine q_g ha rfl (g_move rfl) ?_; clear ha a; intro a ha); (iterate 11 refine q_unwant ha rfl (yields ha rfl rfl) rfl ?_; clear ha a; intro a ha); refine q_g ha rfl (g_pick rfl rfl) ?_; clear ha a; intro a ha; refine q_g ha rfl (g_assign rfl) ?_; clear ha a; intro a ha
  refine q_nil ?_; intro w265 hx266
  replace hB3 := hB3.ext hx266
  replace hBqr1o29_1 := hBqr1o29_1.ext hx266
  replace hBqr1o28_1 := hBqr1o28_1.ext hx266
  have hE267 := Ext.trans hE264 hx266
  replace ha := ha.sub (σ' := [(6, (.bool false))]) ⟨rfl, trivial⟩; refine e_then ?_; refine wp_ret ?_; obtain rfl := Option.some.inj hF
  exact f_ret1 ha rfl rfl ⟨rfl, hE267⟩
set_option maxHeartbeats 2000000 in
theorem W_impl_crossingsOn {W : World} {va0 : Value} {fa0 : List Nat} {a0 : (List (List Int))} (ha0 : Ro (Rp.sl 2 Rp.int) W fa0 va0 a0) {va1 : Value} {fa1 : List Nat} {a1 : (List Int)} (ha1 : Ro Rp.int W fa1 va1 a1) {r : Int} (hF : F_impl_crossingsOn a0 a1 = some r) :
    Calls Tryd.prog 37 [va0, va1].toArray W (Ret fun u w' => (u = .int .i64 r ∧ InI r) ∧ Ext W w') := by
  refine f_enter Tryd.func37 rfl Tryd.ntmps37 rfl ?_
  intro a ha
  replace ha : Fr 41 [(0, va0), (1, va1)] a := ha
  have hE : Chg [] W W := Chg.refl _ _
  unfold F_impl_crossingsOn at hF
  refine wp_seq ?_; refine wp_region_lit ?_; refine op_g ha rfl (g_assign rfl) ?_; clear ha a; intro a ha; refine wpList_nil ?_; replace ha := ha.sub (σ' := [(0, va0), (1, va1)]) ⟨rfl, rfl, trivial⟩; refine e_then ?_; refine wp_seq ?_; refine wp_region_lit ?_; refine op_g ha rfl (g_move rfl) ?_; clear ha a; intro a ha; obtain ⟨x1, hc2, hF⟩ := cal_some hF
  refine o_call ha rfl rfl Tryd.call49 (W_impl_placesIn (ha1.ext hE) hc2) ?_; clear ha a; rintro v3 w4 ⟨u6, u7, b8, rfl, h9, z10, rfl, hx5⟩ a ha
  have hE12 := Ext.trans hE hx5
  have q13 := Zn.upD z10 hE
  refine op_g ha rfl (g_move rfl) ?_; clear ha a; intro a ha; (iterate 2 refine op_g ha rfl (g_extract rfl rfl) ?_; clear ha a; intro a ha); (iterate 2 refine op_g ha rfl (g_assign rfl) ?_; clear ha a; intro a ha); refine wpList_nil ?_; replace ha := ha.sub (σ' := [(0, va0), (5, u6)]) ⟨rfl, rfl, trivial⟩; refine e_then ?_; refine wp_seq ?_; refine wp_region_lit ?_; refine op_g ha rfl (g_assign rfl) ?_; clear ha a; intro a ha; refine wpList_nil ?_; refine e_then ?_; refine wp_seq ?_; refine wp_seq ?_; refine wp_region_lit ?_; refine op_g ha rfl (g_move rfl) ?_; clear ha a; intro a ha; refine op_g ha rfl (g_lenR sl22.und ha0 rfl) ?_; clear ha a; intro a ha
  refine op_g ha rfl (g_move rfl) ?_; clear ha a; intro a ha; refine wpList_nil ?_; replace ha := ha.sub (σ' := [(0, va0), (5, u6), (7, (.int .i64 0)), (17, va0), (18, (.int .i64 (a0.length : Int))), (19, (.int .i64 0))]) ⟨rfl, rfl, rfl, rfl, rfl, rfl, trivial⟩; refine e_then ?_; obtain ⟨o371, ho372, hK373⟩ := bnd_some hF
  obtain ⟨n374, hn375⟩ := lp_some ho372; clear ho372
  refine c_loop (fun a w => ∃ (i369 : Int), Fr 41 [(7, (.int .i64 i369))] a ∧ Chg [] W w ∧ InI i369 ∧ o371 = .inl i369) (fun n a w => ∃ (i193 : Int) (i195 : Int), Fr 41 [(0, va0), (5, u6), (7, (.int .i64 i193)), (17, va0), (18, (.int .i64 (a0.length : Int))), (19, (.int .i64 i195))] a ∧ Chg [] W w ∧ InI i193 ∧ InI i195 ∧ Ow Rp.int 3 true w [] b8 u6 x1.1 ∧ Zn W b8 ∧ lpN (fun s => F_impl_crossingsOn_l1 a0 x1 s.1 s.2) n (i193, i195) = some o371) n374 ⟨0, 0, ha.sub ⟨rfl, rfl, rfl, rfl, rfl, rfl, trivial⟩, hE12, (show InI 0 from by decide), (show InI 0 from by decide), h9, q13, hn375⟩ ?_ ?_
  · rintro m379 a w189 ⟨i193, i195, ha, hE197, hI194, hI196, h191, z192, hF⟩
    cases m379 with
    | zero => exact (lpN_zero hF).elim
    | succ m379 =>
      obtain ⟨z378, hF, hN377⟩ := lpN_succ hF
      have hF : F_impl_crossingsOn_l1 a0 x1 i193 i195 = some z378 := hF; unfold F_impl_crossingsOn_l1 at hF
      refine wp_seq ?_; refine wp_region_lit ?_; refine op_g ha rfl (g_lss rfl rfl) ?_; clear ha a; intro a ha; refine wpList_nil ?_; replace ha := ha.sub (σ' := [(0, va0), (5, u6), (7, (.int .i64 i193)), (17, va0), (18, (.int .i64 (a0.length : Int))), (19, (.int .i64 i195)), (20, (.bool (decide (i195 < (a0.length : Int)))))]) ⟨rfl, rfl, rfl, rfl, rfl, rfl, rfl, trivial⟩; refine e_then ?_; refine wp_seq ?_; refine c_cond (i195 < (a0.length : Int)) ha rfl (decide_eq_true_iff) (fun hp380 => ?_) (fun hp380 => ?_)
      · replace hF := if_t hp380 hF
        refine wp_skip ?_; refine e_then ?_; refine wp_seq ?_; refine wp_block ?_; refine wp_seq ?_; refine wp_region_lit ?_; refine op_g ha rfl (g_move rfl) ?_; clear ha a; intro a ha; obtain ⟨x381, g382, gx383, hF⟩ := idx_some hF
        obtain ⟨p384, cs385, f386, hf387, hpb388, hat389, hr390, hi391⟩ := ha0.at g382 gx383
        obtain ⟨v392, rfl, h393⟩ := hr390
        have h393 : Ro Rp.int W f386 v392 x381 := h393
        refine op_g ha rfl (hi391.gives sl22 rfl rfl) ?_; clear ha a; intro a ha; refine op_g ha rfl (g_load0 hE197 Tryd.isAgg31 rfl hat389.one) ?_; clear ha a; intro a ha; (iterate 2 refine op_g ha rfl (g_assign rfl) ?_; clear ha a; intro a ha); refine wpList_nil ?_; replace ha := ha.sub (σ' := [(0, va0), (5, u6), (7, (.int .i64 i193)), (8, (.int .i64 i195)), (9, v392), (17, va0), (18, (.int .i64 (a0.length : Int))), (19, (.int .i64 i195))]) ⟨rfl, rfl, rfl, rfl, rfl, rfl, rfl, rfl, trivial⟩; refine e_then ?_; refine wp_seq ?_; refine wp_region_lit ?_; (iterate 2 refine op_g ha rfl (g_move rfl) ?_; clear ha a; intro a ha)
        obtain ⟨hb395a, hb395b, hb395c, hF⟩ := slc_some hF
        obtain ⟨v396, fp397, hrun398, hro399, hsub400⟩ := ha0.slice (lo := none) (hi := (some (.int .i64 i195))) (i := 0) (j := i195) sl22 (.inl ⟨rfl, rfl⟩) (.inr ⟨_, rfl⟩) ⟨hb395a, hb395b, hb395c⟩
        refine op_g ha rfl (g_slice sl22.und rfl rfl rfl hrun398) ?_; clear ha a; intro a ha; refine op_g ha rfl (g_lenR sl22.und hro399 rfl) ?_; clear ha a; intro a ha; refine op_g ha rfl (g_move rfl) ?_; clear ha a; intro a ha; refine wpList_nil ?_; replace ha := ha.sub (σ' := [(0, va0), (5, u6), (7, (.int .i64 i193)), (9, v392), (17, va0), (18, (.int .i64 (a0.length : Int))), (19, (.int .i64 i195)), (26, v396), (27, (.int .i64 (((a0.drop (0 : Int).toNat).take ((i195 : Int).toNat - (0 : Int).toNat)).length : Int))), (28, (.int .i64 0))]) ⟨rfl, rfl, rfl, rfl, rfl, rfl, rfl, rfl, rfl, rfl, trivial⟩
        refine e_then ?_; obtain ⟨o500, ho501, hK502⟩ := bnd_some hF
        obtain ⟨n503, hn504⟩ := lp_some ho501; clear ho501
        refine c_loop (fun a w => ∃ (i498 : Int), Fr 41 [(0, va0), (5, u6), (7, (.int .i64 i498)), (17, va0), (18, (.int .i64 (a0.length : Int))), (19, (.int .i64 i195))] a ∧ Chg [] W w ∧ InI i498 ∧ Ow Rp.int 3 true w [] b8 u6 x1.1 ∧ Zn W b8 ∧ o500 = .inl i498) (fun n a w => ∃ (i450 : Int) (i452 : Int), Fr 41 [(0, va0), (5, u6), (7, (.int .i64 i450)), (9, v392), (17, va0), (18, (.int .i64 (a0.length : Int))), (19, (.int .i64 i195)), (26, v396), (27, (.int .i64 (((a0.drop (0 : Int).toNat).take ((i195 : Int).toNat - (0 : Int).toNat)).length : Int))), (28, (.int .i64 i452))] a ∧ Chg [] W w ∧ InI i450 ∧ InI i452 ∧ Ow Rp.int 3 true w [] b8 u6 x1.1 ∧ Zn W b8 ∧ lpN (fun s => F_impl_crossingsOn_l2 a0 x1 i195 x381 s.1 s.2) n (i450, i452) = some o500) n503 ⟨i193, 0, ha.sub ⟨rfl, rfl, rfl, rfl, rfl, rfl, rfl, rfl, rfl, rfl, trivial⟩, hE197, hI194, (show InI 0 from by decide), h191, z192, hn504⟩ ?_ ?_
        · rintro m508 a w446 ⟨i450, i452, ha, hE454, hI451, hI453, h448, z449, hF⟩
          cases m508 with
          | zero => exact (lpN_zero hF).elim
          | succ m508 =>
            obtain ⟨z507, hF, hN506⟩ := lpN_succ hF
            have hF : F_impl_crossingsOn_l2 a0 x1 i195 x381 i450 i452 = some z507 := hF; unfold F_impl_crossingsOn_l2 at hF
            refine wp_seq ?_; refine wp_region_lit ?_; refine op_g ha rfl (g_lss rfl rfl) ?_; clear ha a; intro a ha; refine wpList_nil ?_; replace ha := ha.sub (σ' := [(0, va0), (5, u6), (7, (.int .i64 i450)), (9, v392), (17, va0), (18, (.int .i64 (a0.length : Int))), (19, (.int .i64 i195)), (26, v396), (27, (.int .i64 (((a0.drop (0 : Int).toNat).take ((i195 : Int).toNat - (0 : Int).toNat)).length : Int))), (28, (.int .i64 i452)), (29, (.bool (decide (i452 < (((a0.drop (0 : Int).toNat).take ((i195 : Int).toNat - (0 : Int).toNat)).length : Int)))))]) ⟨rfl, rfl, rfl, rfl, rfl, rfl, rfl, rfl, rfl, rfl, rfl, trivial⟩
            refine e_then ?_; refine wp_seq ?_; refine c_cond (i452 < (((a0.drop (0 : Int).toNat).take ((i195 : Int).toNat - (0 : Int).toNat)).length : Int)) ha rfl (decide_eq_true_iff) (fun hp509 => ?_) (fun hp509 => ?_)
            · replace hF := if_t hp509 hF
              refine wp_skip ?_; refine e_then ?_; refine wp_seq ?_; refine wp_block ?_; refine wp_seq ?_; refine wp_region_lit ?_; obtain ⟨x510, g511, gx512, hF⟩ := idx_some hF
              obtain ⟨p513, cs514, f515, hf516, hpb517, hat518, hr519, hi520⟩ := hro399.at g511 gx512
              obtain ⟨v521, rfl, h522⟩ := hr519
              have h522 : Ro Rp.int W f515 v521 x510 := h522
              refine op_g ha rfl (hi520.gives sl22 rfl rfl) ?_; clear ha a; intro a ha; refine op_g ha rfl (g_load0 hE454 Tryd.isAgg31 rfl hat518.one) ?_; clear ha a; intro a ha; refine op_g ha rfl (g_assign rfl) ?_; clear ha a; intro a ha; refine wpList_nil ?_; replace ha := ha.sub (σ' := [(0, va0), (5, u6), (7, (.int .i64 i450)), (9, v392), (11, v521), (17, va0), (18, (.int .i64 (a0.length : Int))), (19, (.int .i64 i195)), (26, v396), (27, (.int .i64 (((a0.drop (0 : Int).toNat).take ((i195 : Int).toNat - (0 : Int).toNat)).length : Int))), (28, (.int .i64 i452))]) ⟨rfl, rfl, rfl, rfl, rfl, rfl, rfl, rfl, rfl, rfl, rfl, trivial⟩
              refine e_then ?_; refine wp_seq ?_; refine wp_region_lit ?_; (iterate 3 refine op_g ha rfl (g_move rfl) ?_; clear ha a; intro a ha)
              obtain ⟨fp524, hro525, hs526⟩ := h448.roF
              obtain ⟨x527, hc528, hF⟩ := cal_some hF
              refine o_call ha rfl rfl Tryd.call50 (W_impl_alternate hro525 (h393.ext hE454) (h522.ext hE454) hc528) ?_; clear ha a; rintro v529 w530 ⟨rfl, hx531⟩ a ha
              replace h448 := h448.ext hx531
              have hE532 := Ext.trans hE454 hx531
              refine wpList_nil ?_; replace ha := ha.sub (σ' := [(0, va0), (5, u6), (7, (.int .i64 i450)), (9, v392), (17, va0), (18, (.int .i64 (a0.length : Int))), (19, (.int .i64 i195)), (26, v396), (27, (.int .i64 (((a0.drop (0 : Int).toNat).take ((i195 : Int).toNat - (0 : Int).toNat)).length : Int))), (28, (.int .i64 i452)), (35, (.bool x527))]) ⟨rfl, rfl, rfl, rfl, rfl, rfl, rfl, rfl, rfl, rfl, rfl, trivial⟩; refine e_then ?_; refine c_cond (x527 = true) ha rfl (Iff.rfl) (fun hp533 => ?_) (fun hp533 => ?_)
              · replace hF := if_t hp533 hF
                refine wp_region_lit ?_; refine op_g ha rfl (g_move rfl) ?_; clear ha a; intro a ha; obtain ⟨hI534, hF⟩ := ck_some hF; refine op_g ha rfl (g_add rfl rfl hI534) ?_; clear ha a; intro a ha; refine op_g ha rfl (g_assign rfl) ?_; clear ha a; intro a ha; refine wpList_nil ?_; replace ha := ha.sub (σ' := [(0, va0), (5, u6), (7, (.int .i64 (i450 + 1))), (9, v392), (17, va0), (18, (.int .i64 (a0.length : Int))), (19, (.int .i64 i195)), (26, v396), (27, (.int .i64 (((a0.drop (0 : Int).toNat).take ((i195 : Int).toNat - (0 : Int).toNat)).length : Int))), (28, (.int .i64 i452))]) ⟨rfl, rfl, rfl, rfl, rfl, rfl, rfl, rfl, rfl, rfl, trivial⟩
                refine e_blk ?_; refine e_then ?_; refine wp_region_lit ?_; obtain ⟨hI536, hF⟩ := ck_some hF; refine op_g ha rfl (g_add rfl rfl hI536) ?_; clear ha a; intro a ha; refine op_g ha rfl (g_move rfl) ?_; clear ha a; intro a ha; refine wpList_nil ?_; replace ha := ha.sub (σ' := [(0, va0), (5, u6), (7, (.int .i64 (i450 + 1))), (9, v392), (17, va0), (18, (.int .i64 (a0.length : Int))), (19, (.int .i64 i195)), (26, v396), (27, (.int .i64 (((a0.drop (0 : Int).toNat).take ((i195 : Int).toNat - (0 : Int).toNat)).length : Int))), (28, (.int .i64 (i452 + 1)))]) ⟨rfl, rfl, rfl, rfl, rfl, rfl, rfl, rfl, rfl, rfl, trivial⟩
                refine e_lq ?_; obtain rfl := Option.some.inj hF
                exact ⟨_, Nat.lt_succ_self _, i450 + 1, i452 + 1, ha.sub ⟨rfl, rfl, rfl, rfl, rfl, rfl, rfl, rfl, rfl, rfl, trivial⟩, hE532, hI534, hI536, h448, z449, hN506⟩
              replace hF := if_f hp533 hF; refine wp_skip ?_; refine e_blk ?_; refine e_then ?_; refine wp_region_lit ?_; obtain ⟨hI538, hF⟩ := ck_some hF; refine op_g ha rfl (g_add rfl rfl hI538) ?_; clear ha a; intro a ha; refine op_g ha rfl (g_move rfl) ?_; clear ha a; intro a ha; refine wpList_nil ?_; replace ha := ha.sub (σ' := [(0, va0), (5, u6), (7, (.int .i64 i450)), (9, v392), (17, va0), (18, (.int .i64 (a0.length : Int))), (19, (.int .i64 i195)), (26, v396), (27, (.int .i64 (((a0.drop (0 : Int).toNat).take ((i195 : Int).toNat - (0 : Int).toNat)).length : Int))), (28, (.int .i64 (i452 + 1)))]) ⟨rfl, rfl, rfl, rfl, rfl, rfl, rfl, rfl, rfl, rfl, trivial⟩
              refine e_lq ?_; obtain rfl := Option.some.inj hF
              exact ⟨_, Nat.lt_succ_self _, i450, i452 + 1, ha.sub ⟨rfl, rfl, rfl, rfl, rfl, rfl, rfl, rfl, rfl, rfl, trivial⟩, hE532, hI451, hI538, h448, z449, hN506⟩
            replace hF := if_f hp509 hF; refine wp_exit ?_; refine e_then_exit ?_; refine e_lq_eq ?_; obtain rfl := Option.some.inj hF
            exact ⟨i450, ha.sub ⟨rfl, rfl, rfl, rfl, rfl, rfl, trivial⟩, hE454, hI451, h448, z449, (LK_inr hN506).symm⟩
        rintro a w494 ⟨i498, ha, hE505, hI499, h496, z497, rfl⟩
        have hF : F_impl_crossingsOn_k3 i195 i498 = some _ := hK502; clear hK502; unfold F_impl_crossingsOn_k3 at hF
        refine e_blk ?_; refine e_then ?_; refine wp_region_lit ?_; obtain ⟨hI540, hF⟩ := ck_some hF; refine op_g ha rfl (g_add rfl rfl hI540) ?_; clear ha a; intro a ha; refine op_g ha rfl (g_move rfl) ?_; clear ha a; intro a ha; refine wpList_nil ?_; replace ha := ha.sub (σ' := [(0, va0), (5, u6), (7, (.int .i64 i498)), (17, va0), (18, (.int .i64 (a0.length : Int))), (19, (.int .i64 (i195 + 1)))]) ⟨rfl, rfl, rfl, rfl, rfl, rfl, trivial⟩; refine e_lq ?_; obtain rfl := Option.some.inj hF
        exact ⟨_, Nat.lt_succ_self _, i498, i195 + 1, ha.sub ⟨rfl, rfl, rfl, rfl, rfl, rfl, trivial⟩, hE505, hI499, hI540, h496, z497, hN377⟩
      replace hF := if_f hp380 hF; refine wp_exit ?_; refine e_then_exit ?_; refine e_lq_eq ?_; obtain rfl := Option.some.inj hF
      exact ⟨i193, ha.sub ⟨rfl, trivial⟩, hE197, hI194, (LK_inr hN377).symm⟩
  rintro a w368 ⟨i369, ha, hE376, hI370, rfl⟩
  have hF : F_impl_crossingsOn_k4 i369 = some _ := hK373; clear hK373; unfold F_impl_crossingsOn_k4 at hF
  refine e_then ?_; refine wp_seq ?_; refine wp_region_lit ?_; refine op_g ha rfl (g_move rfl) ?_; clear ha a; intro a ha; refine op_g ha rfl (g_assign rfl) ?_; clear ha a; intro a ha; refine wpList_nil ?_; replace ha := ha.sub (σ' := [(4, (.int .i64 i369))]) ⟨rfl, trivial⟩; refine e_then ?_; refine wp_ret ?_; obtain rfl := Option.some.inj hF
  exact f_ret1 ha rfl rfl ⟨⟨rfl, hI370⟩, hE376⟩
set_option maxHeartbeats 2000000 in
theorem W_impl_firstOf {W : World} {a0 : Int} (ha0 : InI a0) {r : (BitVec 32)} (hF : F_impl_firstOf a0 = some r) :
    Calls Tryd.prog 46 [.int .i64 a0].toArray W (Ret fun u w' => u = .int .u32 (BitVec.toNat r : Int) ∧ Ext W w') := by
  refine f_enter Tryd.func46 rfl Tryd.ntmps46 rfl ?_
  intro a ha
  replace ha : Fr 6 [(0, (.int .i64 a0))] a := ha
  have hE : Chg [] W W := Chg.refl _ _
  unfold F_impl_firstOf at hF
  refine wp_seq ?_; refine wp_region_lit ?_; refine op_g ha rfl (g_assign rfl) ?_; clear ha a; intro a ha; refine wpList_nil ?_; replace ha := ha.sub (σ' := [(0, (.int .i64 a0))]) ⟨rfl, trivial⟩; refine e_then ?_; refine wp_seq ?_; refine wp_region_lit ?_; refine op_g ha rfl (g_move rfl) ?_; clear ha a; intro a ha; obtain ⟨hs1, hF⟩ := grd_some hF; refine op_g ha rfl (g32_shl (m := (1#32)) rfl rfl hs1) ?_; clear ha a; intro a ha; refine op_g ha rfl (g32_sub (m := ((1#32) <<< (a0 : Int).toNat)) (n := (1#32)) rfl rfl) ?_; clear ha a; intro a ha; refine op_g ha rfl (g_assign rfl) ?_; clear ha a; intro a ha
  refine wpList_nil ?_; replace ha := ha.sub (σ' := [(2, (.int .u32 (BitVec.toNat (((1#32) <<< (a0 : Int).toNat) - (1#32)) : Int)))]) ⟨rfl, trivial⟩; refine e_then ?_; refine wp_ret ?_; obtain rfl := Option.some.inj hF
  exact f_ret1 ha rfl rfl ⟨rfl, hE⟩
set_option maxHeartbeats 2000000 in
theorem W_math_bits_TrailingZeros32 {W : World} {a0 : BitVec 32} (hG : GT 0 W) {r : Int} (hF : F_math_bits_TrailingZeros32 a0 = some r) :
    Calls Tryd.prog 62 [.int .u32 (BitVec.toNat a0 : Int)].toArray W (Ret fun u w' => (u = .int .i64 r ∧ InI r) ∧ Ext W w') := by
  refine f_enter Tryd.func62 rfl Tryd.ntmps62 rfl ?_
  intro a ha
  replace ha : Fr 14 [(0, (.int .u32 (BitVec.toNat a0 : Int)))] a := ha
  have hE : Chg [] W W := Chg.refl _ _
  unfold F_math_bits_TrailingZeros32 at hF
  refine wp_seq ?_; refine wp_region_lit ?_; refine op_g ha rfl (g_assign rfl) ?_; clear ha a; intro a ha; refine wpList_nil ?_; replace ha := ha.sub (σ' := [(0, (.int .u32 (BitVec.toNat a0 : Int)))]) ⟨rfl, trivial⟩; refine e_then ?_; refine wp_seq ?_; refine wp_seq ?_; refine wp_region_lit ?_; refine op_g ha rfl (g_move rfl) ?_; clear ha a; intro a ha; refine op_g ha rfl (g32_eql (m := a0) (n := (0#32)) rfl rfl) ?_; clear ha a; intro a ha; refine wpList_nil ?_; replace ha := ha.sub (σ' := [(0, (.int .u32 (BitVec.toNat a0 : Int))), (4, (.bool (decide (a0 = (0#32)))))]) ⟨rfl, rfl, trivial⟩; refine e_then ?_
  refine c_cond (a0 = (0#32)) ha rfl (decide_eq_true_iff) (fun hp1 => ?_) (fun hp1 => ?_)
  · replace hF := if_t hp1 hF
    refine wp_seq ?_; refine wp_region_lit ?_; refine op_g ha rfl (g_assign rfl) ?_; clear ha a; intro a ha; refine wpList_nil ?_; replace ha := ha.sub (σ' := [(2, (.int .i64 32))]) ⟨rfl, trivial⟩; refine e_then ?_; refine wp_ret ?_; refine e_then_ret ?_; obtain rfl := Option.some.inj hF
    exact f_ret1 ha rfl rfl ⟨⟨rfl, (show InI 32 from by decide)⟩, hE⟩
  replace hF := if_f hp1 hF; refine wp_skip ?_; refine e_then ?_; refine wp_seq ?_; refine wp_region_lit ?_; (iterate 2 refine op_g ha rfl (g_move rfl) ?_; clear ha a; intro a ha); refine op_g ha rfl (g32_neg (m := a0) rfl) ?_; clear ha a; intro a ha; refine op_g ha rfl (g32_and (m := a0) (n := (-a0)) rfl rfl) ?_; clear ha a; intro a ha; refine op_g ha rfl (g32_mul (m := (a0 &&& (-a0))) (n := (125613361#32)) rfl rfl) ?_; clear ha a; intro a ha; refine op_g ha rfl (g32_shr (m := ((a0 &&& (-a0)) * (125613361#32))) rfl rfl (show InU 27 from by decide).1) ?_; clear ha a; intro a ha; obtain ⟨x2, g3, gx4, hF⟩ := idx_some hF
  refine op_g ha rfl (g_idxG un75 Tryd.sizeOf5 rfl g3 (idx_lt g3 gx4 (by decide))) ?_; clear ha a; intro a ha; refine op_g ha rfl (g_load Tryd.isAgg5 rfl (Tab.cell (hG.ext hE) gx4)) ?_; clear ha a; intro a ha; refine op_g ha rfl (g_conv8 (m := x2) un5 un3 rfl) ?_; clear ha a; intro a ha; refine op_g ha rfl (g_assign rfl) ?_; clear ha a; intro a ha; refine wpList_nil ?_; replace ha := ha.sub (σ' := [(2, (.int .i64 (BitVec.toNat x2 : Int)))]) ⟨rfl, trivial⟩; refine e_then ?_; refine wp_ret ?_; obtain rfl := Option.some.inj hF
  exact f_ret1 ha rfl rfl ⟨⟨rfl, (in_u8 _)⟩, hE⟩
set_option maxHeartbeats 2000000 in
theorem W_impl_vset_least {W : World} {a0 : BitVec 32} (hG : GT 0 W) {r : Int} (hF : F_impl_vset_least a0 = some r) :
    Calls Tryd.prog 56 [.int .u32 (BitVec.toNat a0 : Int)].toArray W (Ret fun u w' => (u = .int .i64 r ∧ InI r) ∧ Ext W w') := by
  refine f_enter Tryd.func56 rfl Tryd.ntmps56 rfl ?_
  intro a ha
  replace ha : Fr 5 [(0, (.int .u32 (BitVec.toNat a0 : Int)))] a := ha
  have hE : Chg [] W W := Chg.refl _ _
  unfold F_impl_vset_least at hF
  refine wp_seq ?_; refine wp_region_lit ?_; refine op_g ha rfl (g_assign rfl) ?_; clear ha a; intro a ha; refine wpList_nil ?_; replace ha := ha.sub (σ' := [(0, (.int .u32 (BitVec.toNat a0 : Int)))]) ⟨rfl, trivial⟩; refine e_then ?_; refine wp_seq ?_; refine wp_region_lit ?_; refine op_g ha rfl (g_move rfl) ?_; clear ha a; intro a ha; obtain ⟨x1, hc2, hF⟩ := cal_some hF
  refine o_call ha rfl rfl Tryd.call62 (W_math_bits_TrailingZeros32 (hG.ext hE) hc2) ?_; clear ha a; rintro v3 w4 ⟨⟨rfl, hI6⟩, hx5⟩ a ha
  have hE7 := Ext.trans hE hx5
  refine op_g ha rfl (g_assign rfl) ?_; clear ha a; intro a ha; refine wpList_nil ?_; replace ha := ha.sub (σ' := [(2, (.int .i64 x1))]) ⟨rfl, trivial⟩; refine e_then ?_; refine wp_ret ?_; obtain rfl := Option.some.inj hF
  exact f_ret1 ha rfl rfl ⟨⟨rfl, hI6⟩, hE7⟩
set_option maxHeartbeats 2000000 in
theorem W_impl_vset_list {W : World} {a0 : BitVec 32} (hG : GT 0 W) {r : (List Int)} (hF : F_impl_vset_list a0 = some r) :
    Calls Tryd.prog 47 [.int .u32 (BitVec.toNat a0 : Int)].toArray W (Ret fun u w' => ∃ (b_u : Int), Ow Rp.int 3 true w' [] b_u u r ∧ Zn W b_u ∧ Ext W w') := by
  refine f_enter Tryd.func47 rfl Tryd.ntmps47 rfl ?_
  intro a ha
  replace ha : Fr 17 [(0, (.int .u32 (BitVec.toNat a0 : Int)))] a := ha
  have hE : Chg [] W W := Chg.refl _ _
  unfold F_impl_vset_list at hF
  refine wp_seq ?_; refine wp_region_lit ?_; refine op_g ha rfl (g_assign rfl) ?_; clear ha a; intro a ha; refine wpList_nil ?_; replace ha := ha.sub (σ' := [(0, (.int .u32 (BitVec.toNat a0 : Int)))]) ⟨rfl, trivial⟩; refine e_then ?_; refine wp_seq ?_; refine wp_region_lit ?_
  refine o_lit0 Rp.int ha rfl sl57 ?_; clear ha a; intro v1 w2 h3 hx4 a ha
  obtain ⟨b6, hb6⟩ : ∃ b : Int, b = W.heap.size := ⟨_, rfl⟩; rw [← hb6] at h3
  have q7 := zn_of hb6
  have q8 := Zn.upD q7 hE
  have hE9 := Ext.trans hE hx4
  refine op_g ha rfl (g_assign rfl) ?_; clear ha a; intro a ha; refine wpList_nil ?_; replace ha := ha.sub (σ' := [(0, (.int .u32 (BitVec.toNat a0 : Int))), (3, v1)]) ⟨rfl, rfl, trivial⟩; refine e_then ?_; refine wp_seq ?_; obtain ⟨o109, ho110, hK111⟩ := bnd_some hF
  obtain ⟨n112, hn113⟩ := lp_some ho110; clear ho110
  refine c_loop (fun a w => ∃ (l106 : (List Int)) (v107 : Value) (b108 : Int), Fr 17 [(3, v107)] a ∧ Chg [] W w ∧ Ow Rp.int 3 true w [] b108 v107 l106 ∧ Zn W b108 ∧ o109 = .inl l106) (fun n a w => ∃ (u55 : BitVec 32) (l59 : (List Int)) (v60 : Value) (b61 : Int), Fr 17 [(0, (.int .u32 (BitVec.toNat u55 : Int))), (3, v60)] a ∧ Chg [] W w ∧ Ow Rp.int 3 true w [] b61 v60 l59 ∧ Zn W b61 ∧ lpN (fun s => F_impl_vset_list_l1 s.1 s.2) n (u55, l59) = some o109) n112 ⟨a0, ([] : (List Int)), v1, b6, ha.sub ⟨rfl, rfl, trivial⟩, hE9, h3, q8, hn113⟩ ?_ ?_
  · rintro m117 a w54 ⟨u55, l59, v60, b61, ha, hE62, h57, z58, hF⟩
    cases m117 with
    | zero => exact (lpN_zero hF).elim
    | succ m117 =>
      obtain ⟨z116, hF, hN115⟩ := lpN_succ hF
      have hF : F_impl_vset_list_l1 u55 l59 = some z116 := hF; unfold F_impl_vset_list_l1 at hF
      refine wp_seq ?_; refine wp_seq ?_; refine wp_region_lit ?_; refine op_g ha rfl (g_move rfl) ?_; clear ha a; intro a ha; refine op_g ha rfl (g32_neq (m := u55) (n := (0#32)) rfl rfl) ?_; clear ha a; intro a ha; refine wpList_nil ?_; replace ha := ha.sub (σ' := [(0, (.int .u32 (BitVec.toNat u55 : Int))), (3, v60), (6, (.bool (decide (u55 ≠ (0#32)))))]) ⟨rfl, rfl, rfl, trivial⟩; refine e_then ?_; refine c_cond (u55 ≠ (0#32)) ha rfl (decide_eq_true_iff) (fun hp118 => ?_) (fun hp118 => ?_)
      · replace hF := if_t hp118 hF
        refine wp_skip ?_; refine e_then ?_; refine wp_seq ?_; refine wp_block ?_; refine wp_region_lit ?_; (iterate 2 refine op_g ha rfl (g_move rfl) ?_; clear ha a; intro a ha); obtain ⟨x119, hc120, hF⟩ := cal_some hF
        refine o_call ha rfl rfl Tryd.call56 (W_impl_vset_least (hG.ext hE62) hc120) ?_; clear ha a; rintro v121 w122 ⟨⟨rfl, hI124⟩, hx123⟩ a ha
        replace h57 := h57.ext hx123
        have hE125 := Ext.trans hE62 hx123
        refine o_lit1 (o := true) (y := x119) Rp.int ha rfl sl57 rfl rfl rfl ⟨rfl, hI124, rfl⟩ ?_; clear ha a; intro v126 w127 h128 hx129 a ha
        obtain ⟨b131, hb131⟩ : ∃ b : Int, b = w122.heap.size := ⟨_, rfl⟩; rw [← hb131] at h128
        have q132 := zn_of hb131
        have q133 := Nq.new h57.fpb q132
        have q134 := Nq.madeO q132 h57.blt
        have q135 := Zn.upD q132 hE125
        replace h57 := h57.ext hx129
        have hE136 := Ext.trans hE125 hx129
        obtain ⟨hl137, hF⟩ := app_some hF
        refine o_append ha rfl sl57 rfl rfl rfl h57 h128.src (Nq.nil _) hl137 ?_; clear ha a; intro v138 w139 b140 h141 hc142 hb143 a ha
        replace h141 : Ow Rp.int 3 true w139 [] b140 v138 _ := h141
        have q145 := Nq.appY q134 h128.fpb hb143
        have q146 := Nq.appX q133 (Nq.nil _) hb143 h128.blt
        have q147 := Zn.appD z58 hb143 hE136
        replace h128 := h128.nq hc142 q134
        have hE148 := Ext.then hE136 hc142 (Zn.bl z58)
        refine op_g ha rfl (g_assign rfl) ?_; clear ha a; intro a ha; refine wpList_nil ?_; replace ha := ha.sub (σ' := [(0, (.int .u32 (BitVec.toNat u55 : Int))), (3, v138)]) ⟨rfl, rfl, trivial⟩; refine e_blk ?_; refine e_then ?_; refine wp_region_lit ?_; (iterate 2 refine op_g ha rfl (g_move rfl) ?_; clear ha a; intro a ha); refine op_g ha rfl (g32_sub (m := u55) (n := (1#32)) rfl rfl) ?_; clear ha a; intro a ha; refine op_g ha rfl (g32_and (m := u55) (n := (u55 - (1#32))) rfl rfl) ?_; clear ha a; intro a ha; refine op_g ha rfl (g_assign rfl) ?_; clear ha a; intro a ha; refine wpList_nil ?_; replace ha := ha.sub (σ' := [(0, (.int .u32 (BitVec.toNat (u55 &&& (u55 - (1#32))) : Int))), (3, v138)]) ⟨rfl, rfl, trivial⟩
        refine e_lq ?_; obtain rfl := Option.some.inj hF
        exact ⟨_, Nat.lt_succ_self _, u55 &&& (u55 - (1#32)), (l59 ++ ([x119])), v138, b140, ha.sub ⟨rfl, rfl, trivial⟩, hE148, h141, q147, hN115⟩
      replace hF := if_f hp118 hF; refine wp_exit ?_; refine e_then_exit ?_; refine e_lq_eq ?_; obtain rfl := Option.some.inj hF
      exact ⟨l59, v60, b61, ha.sub ⟨rfl, trivial⟩, hE62, h57, z58, (LK_inr hN115).symm⟩
  rintro a w102 ⟨l106, v107, b108, ha, hE114, h104, z105, rfl⟩
  have hF : F_impl_vset_list_k2 l106 = some _ := hK111; clear hK111; unfold F_impl_vset_list_k2 at hF
  refine e_then ?_; refine wp_seq ?_; refine wp_region_lit ?_; refine op_g ha rfl (g_move rfl) ?_; clear ha a; intro a ha; refine op_g ha rfl (g_assign rfl) ?_; clear ha a; intro a ha; refine wpList_nil ?_; replace ha := ha.sub (σ' := [(2, v107)]) ⟨rfl, trivial⟩; refine e_then ?_; refine wp_ret ?_; obtain rfl := Option.some.inj hF
  exact f_ret1 ha rfl rfl ⟨_, h104, z105, hE114⟩
set_option maxHeartbeats 2000000 in
theorem W_slices_Clone_int64 {W : World} {va0 : Value} {fa0 : List Nat} {a0 : (List Int)} (ha0 : Ro Rp.int W fa0 va0 a0) {r : (List Int)} (hF : F_slices_Clone_int64 a0 = some r) :
    Calls Tryd.prog 38 [va0].toArray W (Ret fun u w' => ∃ (b_u : Int), Ow Rp.int 2 true w' [] b_u u r ∧ Zn W b_u ∧ Ext W w') := by
  refine f_enter Tryd.func38 rfl Tryd.ntmps38 rfl ?_
  intro a ha
  replace ha : Fr 8 [(0, va0)] a := ha
  have hE : Chg [] W W := Chg.refl _ _
  unfold F_slices_Clone_int64 at hF
  refine wp_seq ?_; refine wp_region_lit ?_; refine op_g ha rfl (g_assign rfl) ?_; clear ha a; intro a ha; refine wpList_nil ?_; replace ha := ha.sub (σ' := [(0, va0)]) ⟨rfl, trivial⟩; refine e_then ?_; refine wp_seq ?_; refine wp_seq ?_; refine wp_region_lit ?_; refine op_g ha rfl (g_move rfl) ?_; clear ha a; intro a ha; refine op_g ha rfl (g_nil sl31.und rfl ha0.shape) ?_; clear ha a; intro a ha; refine wpList_nil ?_; replace ha := ha.sub (σ' := [(0, va0), (4, (.bool (nilB va0)))]) ⟨rfl, rfl, trivial⟩; refine e_then ?_; refine c_cond (nilB va0 = true) ha rfl (Iff.rfl) (fun hp1 => ?_) (fun hp1 => ?_)
  · replace hF := clone_nil hF (ha0.nilE hp1)
    refine wp_seq ?_; refine wp_region_lit ?_; refine op_g ha rfl (g_assign rfl) ?_; clear ha a; intro a ha; refine wpList_nil ?_; replace ha := ha.sub (σ' := [(2, (.slice none 0 0))]) ⟨rfl, trivial⟩; refine e_then ?_; refine wp_ret ?_; refine e_then_ret ?_; obtain rfl := Option.some.inj hF
    exact f_ret1 ha rfl rfl ⟨-1, (Ow.nil (by decide)), (.inl (by decide)), hE⟩
  skip
  refine wp_skip ?_; refine e_then ?_; refine wp_seq ?_; refine wp_region_lit ?_
  refine o_lit0 Rp.int ha rfl sl31 ?_; clear ha a; intro v2 w3 h4 hx5 a ha
  obtain ⟨b7, hb7⟩ : ∃ b : Int, b = W.heap.size := ⟨_, rfl⟩; rw [← hb7] at h4
  have q8 := zn_of hb7
  have q9 := Zn.upD q8 hE
  have hE10 := Ext.trans hE hx5
  refine op_g ha rfl (g_move rfl) ?_; clear ha a; intro a ha; obtain ⟨hl11, hF⟩ := app_some hF
  obtain ⟨_, hs12, _⟩ := (ha0.ext hE10).src
  refine o_append ha rfl sl31 rfl rfl rfl h4 (hs12.up scal_int) (Nq.nil _) hl11 ?_; clear ha a; intro v13 w14 b15 h16 hc17 hb18 a ha
  replace h16 : Ow Rp.int 2 true w14 [] b15 v13 _ := h16
  have q20 := Zn.appD q9 hb18 hE10
  have hE21 := Ext.then hE10 hc17 (Zn.bl q9)
  refine op_g ha rfl (g_assign rfl) ?_; clear ha a; intro a ha; refine wpList_nil ?_; replace ha := ha.sub (σ' := [(2, v13)]) ⟨rfl, trivial⟩; refine e_then ?_; refine wp_ret ?_; obtain rfl := Option.some.inj hF
  exact f_ret1 ha rfl rfl ⟨_, h16, q20, hE21⟩
set_option maxHeartbeats 2000000 in
theorem W_impl_one {W : World} {a0 : Int} (ha0 : InI a0) {r : (BitVec 32)} (hF : F_impl_one a0 = some r) :
    Calls Tryd.prog 48 [.int .i64 a0].toArray W (Ret fun u w' => u = .int .u32 (BitVec.toNat r : Int) ∧ Ext W w') := by
  refine f_enter Tryd.func48 rfl Tryd.ntmps48 rfl ?_
  intro a ha
  replace ha : Fr 5 [(0, (.int .i64 a0))] a := ha
  have hE : Chg [] W W := Chg.refl _ _
  unfold F_impl_one at hF
  refine wp_seq ?_; refine wp_region_lit ?_; refine op_g ha rfl (g_assign rfl) ?_; clear ha a; intro a ha; refine wpList_nil ?_; replace ha := ha.sub (σ' := [(0, (.int .i64 a0))]) ⟨rfl, trivial⟩; refine e_then ?_; refine wp_seq ?_; refine wp_region_lit ?_; refine op_g ha rfl (g_move rfl) ?_; clear ha a; intro a ha; obtain ⟨hs1, hF⟩ := grd_some hF; refine op_g ha rfl (g32_shl (m := (1#32)) rfl rfl hs1) ?_; clear ha a; intro a ha; refine op_g ha rfl (g_assign rfl) ?_; clear ha a; intro a ha; refine wpList_nil ?_; replace ha := ha.sub (σ' := [(2, (.int .u32 (BitVec.toNat ((1#32) <<< (a0 : Int).toNat) : Int)))]) ⟨rfl, trivial⟩
  refine e_then ?_; refine wp_ret ?_; obtain rfl := Option.some.inj hF
  exact f_ret1 ha rfl rfl ⟨rfl, hE⟩
set_option maxHeartbeats 2000000 in
theorem chg_e {D : List Nat} {a b c : World} (h : Chg D a b) (k : Ext b c) : Chg D a c := Chg.trans h k (fun _ h => by cases h)
theorem chg_n {D : List Nat} {a b c : World} {z : Int} (h : Chg D a b) (k : Chg (bl z) b c) (hz : Zn a z) : Chg D a c := Chg.trans h k (fun i hi => .inr (Zn.bl hz i hi))
theorem Zn.out {D : List Nat} {w : World} {b : Int} (h : Zn w b) (hD : ∀ k ∈ D, k < w.heap.size) : ∀ k ∈ D, (k : Int) ≠ b := fun k hk => by have := hD k hk; rcases h with h | h <;> omega
/-- what a ring's search keeps: the best ring, and its crossings -/
structure LrS (W0 : World) (bE bL bB : Nat) (fe : List Nat) : Prop where
  lb : bL ≠ bB
  le : bL ≠ bE
  be : bB ≠ bE
  lf : bL ∉ fe
  bf : bB ∉ fe
  l0 : W0.heap.size ≤ bL
  b0 : W0.heap.size ≤ bB
structure LrI (W0 : World) (bE bL bB : Nat) (ve : Value) (fe : List Nat) (es : List (List Int)) (w : World) (s : List Int × Int) : Prop where
  ext : Ext W0 w
  bxE : Bx w bE [ve] 22
  rdE : Ro (Rp.sl 2 Rp.int) w fe ve es
  inI : InI s.2
  bxL : Bx w bL [.int .i64 s.2] 2
  bst : ∃ (vb : Value) (b : Int), Bx w bB [vb] 31 ∧ Ow Rp.int 2 true w [] b vb s.1 ∧ Zn W0 b ∧ (bL : Int) ≠ b ∧ (bB : Int) ≠ b
section
variable {W0 : World} {bE bL bB : Nat} {ve : Value} {fe : List Nat} {es : List (List Int)}
theorem LrI.up {w w' : World} {s : List Int × Int} (h : LrI W0 bE bL bB ve fe es w s) (k : Ext w w') : LrI W0 bE bL bB ve fe es w' s := by
  obtain ⟨vb, b, h1, h2, h3⟩ := h.bst
  exact ⟨h.ext.trans k, h.bxE.ext k, h.rdE.ext k, h.inI, h.bxL.ext k, vb, b, h1.ext k, h2.ext k, h3⟩
theorem LrI.put (hS : LrS W0 bE bL bB fe) {w w1 w2 : World} {s : List Int × Int} {c : List Int} {x : Int} {v : Value} {b : Int} (h : LrI W0 bE bL bB ve fe es w s) (hO : Ow Rp.int 2 true w [] b v c) (hz : Zn W0 b) (hl : (bL : Int) ≠ b) (hb : (bB : Int) ≠ b) (hx : InI x)
    (h1 : Bx w1 bB [v] 31) (c1 : Chg [bB] w w1) (h2 : Bx w2 bL [.int .i64 x] 2) (c2 : Chg [bL] w1 w2) : LrI W0 bE bL bB ve fe es w2 (c, x) := by
  refine ⟨Ext.then (Ext.then h.ext c1 fun i hi => ?_) c2 fun i hi => ?_, (h.bxE.chg c1 ?_).chg c2 ?_, (h.rdE.chg c1 ?_).chg c2 ?_, hx, h2, v, b, h1.chg c2 ?_, (hO.chg c1 ?_ ?_).chg c2 ?_ ?_, hz, hl, hb⟩
  · rw [List.mem_singleton] at hi; subst hi; exact hS.b0
  · rw [List.mem_singleton] at hi; subst hi; exact hS.l0
  · rw [List.mem_singleton]; exact fun e => hS.be e.symm
  · rw [List.mem_singleton]; exact fun e => hS.le e.symm
  · intro k hk hm; rw [List.mem_singleton] at hm; subst hm; exact hS.bf hk
  · intro k hk hm; rw [List.mem_singleton] at hm; subst hm; exact hS.lf hk
  · rw [List.mem_singleton]; exact fun e => hS.lb e.symm
  · intro k hk; rw [List.mem_singleton] at hk; subst hk; exact hb
  · intro k hk; cases hk
  · intro k hk; rw [List.mem_singleton] at hk; subst hk; exact hl
  intro k hk; cases hk
set_option maxHeartbeats 2000000 in
theorem W_impl_leastRing_1 (hS : LrS W0 bE bL bB fe) {W : World} {s : List Int × Int} (hs : LrI W0 bE bL bB ve fe es W s) {va0 : Value} {fa0 : List Nat} {a0 : (List Int)} (ha0 : Ro Rp.int W fa0 va0 a0) {r : Bool × List Int × Int} (hF : F_impl_leastRing_1 es a0 s = some r) :
    Calls Tryd.prog 36 [va0, .pointer (some ⟨bE, 0, none⟩), .pointer (some ⟨bL, 0, none⟩), .pointer (some ⟨bB, 0, none⟩)].toArray W (Ret fun u w' => u = .bool r.1 ∧ LrI W0 bE bL bB ve fe es w' r.2 ∧ Chg [bL, bB] W w') := by
  refine f_enter Tryd.func36 rfl Tryd.ntmps36 rfl ?_
  intro a ha
  replace ha : Fr 22 [(0, va0), (1, (.pointer (some ⟨bE, 0, none⟩))), (2, (.pointer (some ⟨bL, 0, none⟩))), (3, (.pointer (some ⟨bB, 0, none⟩)))] a := ha
  have hE : Chg [] W W := Chg.refl _ _
  unfold F_impl_leastRing_1 at hF
  refine wp_seq ?_; refine wp_region_lit ?_; refine op_g ha rfl (g_assign rfl) ?_; clear ha a; intro a ha; refine wpList_nil ?_; replace ha := ha.sub (σ' := [(0, va0), (1, (.pointer (some ⟨bE, 0, none⟩))), (2, (.pointer (some ⟨bL, 0, none⟩))), (3, (.pointer (some ⟨bB, 0, none⟩)))]) ⟨rfl, rfl, rfl, rfl, trivial⟩; refine e_then ?_; refine wp_seq ?_; refine wp_seq ?_; refine wp_region_lit ?_; refine op_g ha rfl (g_load Tryd.isAgg22 rfl ((hs.bxE.ext hE).cell rfl)) ?_; clear ha a; intro a ha; refine op_g ha rfl (g_move rfl) ?_; clear ha a; intro a ha; obtain ⟨x1, hc2, hF⟩ := cal_some hF
  refine o_call ha rfl rfl Tryd.call37 (W_impl_crossingsOn (hs.rdE.ext hE) (ha0.ext hE) hc2) ?_; clear ha a; rintro v3 w4 ⟨⟨rfl, hI6⟩, hx5⟩ a ha
  have hE7 := Ext.trans hE hx5
  refine op_g ha rfl (g_assign rfl) ?_; clear ha a; intro a ha; refine wpList_nil ?_; replace ha := ha.sub (σ' := [(0, va0), (2, (.pointer (some ⟨bL, 0, none⟩))), (3, (.pointer (some ⟨bB, 0, none⟩))), (6, (.int .i64 x1))]) ⟨rfl, rfl, rfl, rfl, trivial⟩; refine e_then ?_; refine wp_seq ?_; refine wp_region_lit ?_; refine op_g ha rfl (g_load Tryd.isAgg2 rfl ((hs.bxL.ext hE7).cell rfl)) ?_; clear ha a; intro a ha; refine op_g ha rfl (g_lss rfl rfl) ?_; clear ha a; intro a ha; refine op_g ha rfl (g_move rfl) ?_; clear ha a; intro a ha
  by_cases hp8 : s.2 < 0
  · replace hF := if_t hp8 hF
    rw [show (decide (s.2 < 0)) = true from (decide_eq_true_iff).2 hp8] at ha
    (iterate 3 refine op_unwant ha rfl (yields ha rfl rfl) rfl ?_; clear ha a; intro a ha); refine op_g ha rfl (g_pick rfl rfl) ?_; clear ha a; intro a ha; refine wpList_nil ?_; replace ha := ha.sub (σ' := [(0, va0), (2, (.pointer (some ⟨bL, 0, none⟩))), (3, (.pointer (some ⟨bB, 0, none⟩))), (6, (.int .i64 x1)), (16, (.bool true))]) ⟨rfl, rfl, rfl, rfl, rfl, trivial⟩; refine e_then ?_; refine c_true ha rfl ?_; refine wp_region_lit ?_; refine op_g ha rfl (g_move rfl) ?_; clear ha a; intro a ha; obtain ⟨x9, hc10, hF⟩ := cal_some hF
    refine o_call ha rfl rfl Tryd.call38 (W_slices_Clone_int64 (ha0.ext hE7) hc10) ?_; clear ha a; rintro v11 w12 ⟨b14, h15, z16, hx13⟩ a ha
    have hE18 := Ext.trans hE7 hx13
    have q19 := Zn.upD z16 hE7
    refine op_g ha rfl (g_move rfl) ?_; clear ha a; intro a ha; obtain ⟨vb, bb, hbB, -⟩ := hs.bst
    have hn : ∀ {k : Nat}, k < w4.heap.size → (k : Int) ≠ b14 := fun {k} hk => by rcases z16 with h | h <;> omega
    have hl := hn (hs.bxL.ext hE7).blt; have hb := hn (hbB.ext hE7).blt
    refine o_storeB ha (hbB.ext hE18) Tryd.sizeOf31 rfl rfl h15.cells h15.oneC (Nat.le_of_ble_eq_true rfl) ?_; intro w50 hB51 hc52
    replace hB51 : Bx w50 bB [v11] 31 := hB51
    refine o_storeB ha ((hs.bxL.ext hE18).chg hc52 (by rw [List.mem_singleton]; exact hS.lb)) Tryd.sizeOf2 rfl rfl rfl rfl (Nat.le_of_ble_eq_true rfl) ?_; intro w60 hB61 hc62
    replace hB61 : Bx w60 bL [.int .i64 x1] 2 := hB61
    have hI60 := LrI.put hS (hs.up hE18) h15 (z16.up (hs.ext.trans hE7)) hl hb hI6 hB51 hc52 hB61 hc62
    have hC60 : Chg [bL, bB] W w60 := Chg.trans (Chg.trans (hE18).chg hc52 (fun i hi => .inl (by simp at hi ⊢; omega))) hc62 (fun i hi => .inl (by simp at hi ⊢; omega))
    refine wpList_nil ?_; replace ha := ha.sub (σ' := [(2, (.pointer (some ⟨bL, 0, none⟩)))]) ⟨rfl, trivial⟩; refine e_then ?_; refine wp_seq ?_; refine wp_region_lit ?_; refine op_g ha rfl (g_load Tryd.isAgg2 rfl (hB61.cell rfl)) ?_; clear ha a; intro a ha; refine op_g ha rfl (g_eql rfl rfl) ?_; clear ha a; intro a ha; refine op_g ha rfl (g_assign rfl) ?_; clear ha a; intro a ha; refine wpList_nil ?_; replace ha := ha.sub (σ' := [(5, (.bool (decide (x1 = 0))))]) ⟨rfl, trivial⟩; refine e_then ?_; refine wp_ret ?_; obtain rfl := Option.some.inj hF
    exact f_ret1 ha rfl rfl ⟨rfl, hI60, hC60⟩
  replace hF := if_f hp8 hF
  rw [show (decide (s.2 < 0)) = false from b_false (decide_eq_true_iff) hp8] at ha
  refine op_want (yields ha rfl rfl) ?_; refine op_g ha rfl (g_move rfl) ?_; clear ha a; intro a ha; refine op_want (yields ha rfl rfl) ?_; refine op_g ha rfl (g_load Tryd.isAgg2 rfl ((hs.bxL.ext hE7).cell rfl)) ?_; clear ha a; intro a ha; refine op_want (yields ha rfl rfl) ?_; refine op_g ha rfl (g_lss rfl rfl) ?_; clear ha a; intro a ha; refine op_g ha rfl (g_pick rfl rfl) ?_; clear ha a; intro a ha; refine wpList_nil ?_; replace ha := ha.sub (σ' := [(0, va0), (2, (.pointer (some ⟨bL, 0, none⟩))), (3, (.pointer (some ⟨bB, 0, none⟩))), (6, (.int .i64 x1)), (16, (.bool (decide (x1 < s.2))))]) ⟨rfl, rfl, rfl, rfl, rfl, trivial⟩
  refine e_then ?_; refine c_cond (x1 < s.2) ha rfl (decide_eq_true_iff) (fun hp20 => ?_) (fun hp20 => ?_)
  · replace hF := if_t hp20 hF
    refine wp_region_lit ?_; refine op_g ha rfl (g_move rfl) ?_; clear ha a; intro a ha; obtain ⟨x21, hc22, hF⟩ := cal_some hF
    refine o_call ha rfl rfl Tryd.call38 (W_slices_Clone_int64 (ha0.ext hE7) hc22) ?_; clear ha a; rintro v23 w24 ⟨b26, h27, z28, hx25⟩ a ha
    have hE30 := Ext.trans hE7 hx25
    have q31 := Zn.upD z28 hE7
    refine op_g ha rfl (g_move rfl) ?_; clear ha a; intro a ha; obtain ⟨vb, bb, hbB, -⟩ := hs.bst
    have hn : ∀ {k : Nat}, k < w4.heap.size → (k : Int) ≠ b26 := fun {k} hk => by rcases z28 with h | h <;> omega
    have hl := hn (hs.bxL.ext hE7).blt; have hb := hn (hbB.ext hE7).blt
    refine o_storeB ha (hbB.ext hE30) Tryd.sizeOf31 rfl rfl h27.cells h27.oneC (Nat.le_of_ble_eq_true rfl) ?_; intro w50 hB51 hc52
    replace hB51 : Bx w50 bB [v23] 31 := hB51
    refine o_storeB ha ((hs.bxL.ext hE30).chg hc52 (by rw [List.mem_singleton]; exact hS.lb)) Tryd.sizeOf2 rfl rfl rfl rfl (Nat.le_of_ble_eq_true rfl) ?_; intro w60 hB61 hc62
    replace hB61 : Bx w60 bL [.int .i64 x1] 2 := hB61
    have hI60 := LrI.put hS (hs.up hE30) h27 (z28.up (hs.ext.trans hE7)) hl hb hI6 hB51 hc52 hB61 hc62
    have hC60 : Chg [bL, bB] W w60 := Chg.trans (Chg.trans (hE30).chg hc52 (fun i hi => .inl (by simp at hi ⊢; omega))) hc62 (fun i hi => .inl (by simp at hi ⊢; omega))
    refine wpList_nil ?_; replace ha := ha.sub (σ' := [(2, (.pointer (some ⟨bL, 0, none⟩)))]) ⟨rfl, trivial⟩; refine e_then ?_; refine wp_seq ?_; refine wp_region_lit ?_; refine op_g ha rfl (g_load Tryd.isAgg2 rfl (hB61.cell rfl)) ?_; clear ha a; intro a ha; refine op_g ha rfl (g_eql rfl rfl) ?_; clear ha a; intro a ha; refine op_g ha rfl (g_assign rfl) ?_; clear ha a; intro a ha; refine wpList_nil ?_; replace ha := ha.sub (σ' := [(5, (.bool (decide (x1 = 0))))]) ⟨rfl, trivial⟩; refine e_then ?_; refine wp_ret ?_; obtain rfl := Option.some.inj hF
    exact f_ret1 ha rfl rfl ⟨rfl, hI60, hC60⟩
  replace hF := if_f hp20 hF; refine wp_skip ?_; refine e_then ?_; refine wp_seq ?_; refine wp_region_lit ?_; refine op_g ha rfl (g_load Tryd.isAgg2 rfl ((hs.bxL.ext hE7).cell rfl)) ?_; clear ha a; intro a ha; refine op_g ha rfl (g_eql rfl rfl) ?_; clear ha a; intro a ha; refine op_g ha rfl (g_assign rfl) ?_; clear ha a; intro a ha; refine wpList_nil ?_; replace ha := ha.sub (σ' := [(5, (.bool (decide (s.2 = 0))))]) ⟨rfl, trivial⟩; refine e_then ?_; refine wp_ret ?_; obtain rfl := Option.some.inj hF
  exact f_ret1 ha rfl rfl ⟨rfl, hs.up hE7, hE7.chg⟩
end
section
variable {S : Type} {Inv : World → S → Prop} {D : List Nat}
set_option maxHeartbeats 2000000 in
theorem W_impl_rings_step (hIe : ∀ {w w' s}, Inv w s → Ext w w' → Inv w' s) (hIG : ∀ {w s}, Inv w s → GT 0 w) {ga3 : FuncId} {ga3c : List Value} {a3 : (List Int) → S → Option (Bool × S)} (hga3 : ∀ {w' : World} {vz0 : Value} {fz0 : List Nat} {z0 : (List Int)}, Ro Rp.int w' fz0 vz0 z0 → ∀ {s : S}, Inv w' s → ∀ {r : Bool × S}, a3 z0 s = some r → Calls Tryd.prog ga3 (([vz0] : List Value) ++ ga3c).toArray w' (Ret fun u w'' => u = .bool r.1 ∧ Inv w'' r.2 ∧ Chg D w' w''))
    (hca3 : ∀ args w, (callFunc ga3 args).run Tryd.prog w = .ok (.enter ga3 args) w) {rc : Int → (List Int) → (BitVec 32) → S → Option (Bool × S)}
    (ih : ∀ {W : World} {a0 : Int} (ha0 : InI a0) {va1 : Value} {fa1 : List Nat} {a1 : (List Int)} (ha1 : Ro Rp.int W fa1 va1 a1) (hd : ∀ k ∈ fa1, k ∉ D) (hD : ∀ k ∈ D, k < W.heap.size) {a2 : BitVec 32} {s : S} (hs : Inv W s) {r : Bool × S} (hF : rc a0 a1 a2 s = some r),
    Calls Tryd.prog 35 [.int .i64 a0, va1, .int .u32 (BitVec.toNat a2 : Int), .func (.func ga3) #[] ga3c.toArray].toArray W (Ret fun u w' => u = .bool r.1 ∧ Inv w' r.2 ∧ Chg D W w')) {W : World} {a0 : Int} (ha0 : InI a0) {va1 : Value} {fa1 : List Nat} {a1 : (List Int)} (ha1 : Ro Rp.int W fa1 va1 a1) (hd : ∀ k ∈ fa1, k ∉ D) (hD : ∀ k ∈ D, k < W.heap.size) {a2 : BitVec 32} {s : S} (hs : Inv W s) {r : Bool × S} (hF : F_impl_rings_body a3 rc a0 a1 a2 s = some r) :
    Calls Tryd.prog 35 [.int .i64 a0, va1, .int .u32 (BitVec.toNat a2 : Int), .func (.func ga3) #[] ga3c.toArray].toArray W (Ret fun u w' => u = .bool r.1 ∧ Inv w' r.2 ∧ Chg D W w') := by
  refine f_enter Tryd.func35 rfl Tryd.ntmps35 rfl ?_
  intro a ha
  replace ha : Fr 41 [(0, (.int .i64 a0)), (1, va1), (2, (.int .u32 (BitVec.toNat a2 : Int))), (3, (.func (.func ga3) #[] ga3c.toArray))] a := ha
  have hE : Chg [] W W := Chg.refl _ _
  unfold F_impl_rings_body at hF
  refine wp_seq ?_; refine wp_region_lit ?_; refine op_g ha rfl (g_assign rfl) ?_; clear ha a; intro a ha; refine wpList_nil ?_; replace ha := ha.sub (σ' := [(0, (.int .i64 a0)), (1, va1), (2, (.int .u32 (BitVec.toNat a2 : Int))), (3, (.func (.func ga3) #[] ga3c.toArray))]) ⟨rfl, rfl, rfl, rfl, trivial⟩; refine e_then ?_; refine wp_seq ?_; refine wp_seq ?_; refine wp_region_lit ?_; refine op_g ha rfl (g_move rfl) ?_; clear ha a; intro a ha; refine op_g ha rfl (g_lenR sl31.und ha1 rfl) ?_; clear ha a; intro a ha; refine op_g ha rfl (g_move rfl) ?_; clear ha a; intro a ha; refine op_g ha rfl (g_eql rfl rfl) ?_; clear ha a; intro a ha
  refine wpList_nil ?_; replace ha := ha.sub (σ' := [(0, (.int .i64 a0)), (1, va1), (2, (.int .u32 (BitVec.toNat a2 : Int))), (3, (.func (.func ga3) #[] ga3c.toArray)), (14, (.bool (decide ((a1.length : Int) = a0))))]) ⟨rfl, rfl, rfl, rfl, rfl, trivial⟩; refine e_then ?_; refine c_cond ((a1.length : Int) = a0) ha rfl (decide_eq_true_iff) (fun hp1 => ?_) (fun hp1 => ?_)
  · replace hF := if_t hp1 hF
    refine wp_seq ?_; refine wp_region_lit ?_; (iterate 2 refine op_g ha rfl (g_move rfl) ?_; clear ha a; intro a ha); refine o_callv ha rfl rfl rfl hca3 (hga3 ha1 hs hF) ?_; clear ha a; rintro v4 w5 ⟨rfl, hI5, hx6⟩ a ha
    refine op_g ha rfl (g_assign rfl) ?_; clear ha a; intro a ha; refine wpList_nil ?_; replace ha := ha.sub (σ' := [(8, (.bool r.1))]) ⟨rfl, trivial⟩; refine e_then ?_; refine wp_ret ?_; refine e_then_ret ?_
    exact f_ret1 ha rfl rfl ⟨rfl, hI5, hx6⟩
  replace hF := if_f hp1 hF; refine wp_skip ?_; refine e_then ?_; refine wp_seq ?_; refine wp_seq ?_; refine wp_region_lit ?_; refine op_g ha rfl (g_move rfl) ?_; clear ha a; intro a ha; obtain ⟨x8, hc9, hF⟩ := cal_some hF
  refine o_call ha rfl rfl Tryd.call46 (W_impl_firstOf ha0 hc9) ?_; clear ha a; rintro v10 w11 ⟨rfl, hx12⟩ a ha
  have hE13 := Ext.trans hE hx12
  refine op_g ha rfl (g_move rfl) ?_; clear ha a; intro a ha; refine op_g ha rfl (g32_andNot (m := x8) (n := a2) rfl rfl) ?_; clear ha a; intro a ha; obtain ⟨x14, hc15, hF⟩ := cal_some hF
  refine o_call ha rfl rfl Tryd.call47 (W_impl_vset_list (hIG (hIe hs hE13)) hc15) ?_; clear ha a; rintro v16 w17 ⟨b19, h20, z21, hx18⟩ a ha
  have hE23 := Ext.trans hE13 hx18
  have q24 := Zn.upD z21 hE13
  refine op_g ha rfl (g_lenO sl57.und h20 rfl) ?_; clear ha a; intro a ha; refine op_g ha rfl (g_move rfl) ?_; clear ha a; intro a ha; refine wpList_nil ?_; replace ha := ha.sub (σ' := [(0, (.int .i64 a0)), (1, va1), (2, (.int .u32 (BitVec.toNat a2 : Int))), (3, (.func (.func ga3) #[] ga3c.toArray)), (22, v16), (23, (.int .i64 (x14.length : Int))), (24, (.int .i64 0))]) ⟨rfl, rfl, rfl, rfl, rfl, rfl, rfl, trivial⟩; refine e_then ?_; obtain ⟨o194, ho195, hK196⟩ := bnd_some hF
  obtain ⟨n197, hn198⟩ := lp_some ho195; clear ho195
  refine c_loop (fun a w => ∃ (t : S), Fr 41 [] a ∧ Chg D W w ∧ Inv w t ∧ o194 = .inl t) (fun n a w => ∃ (t : S) (i112 : Int), Fr 41 [(0, (.int .i64 a0)), (1, va1), (2, (.int .u32 (BitVec.toNat a2 : Int))), (3, (.func (.func ga3) #[] ga3c.toArray)), (22, v16), (23, (.int .i64 (x14.length : Int))), (24, (.int .i64 i112))] a ∧ Chg D W w ∧ InI i112 ∧ Inv w t ∧ Ow Rp.int 3 true w [] b19 v16 x14 ∧ lpN (fun q => F_impl_rings_l1 a0 a1 a2 rc x14 q.1 q.2) n (t, i112) = some o194) n197 ⟨s, 0, ha.sub ⟨rfl, rfl, rfl, rfl, rfl, rfl, rfl, trivial⟩, hE23.chg, (show InI 0 from by decide), hIe hs hE23, h20, hn198⟩ ?_ ?_
  · rintro m202 a w108 ⟨t, i112, ha, hE114, hI113, ht, h110, hF⟩
    cases m202 with
    | zero => exact (lpN_zero hF).elim
    | succ m202 =>
      obtain ⟨z201, hF, hN200⟩ := lpN_succ hF
      have hF : F_impl_rings_l1 a0 a1 a2 rc x14 t i112 = some z201 := hF; unfold F_impl_rings_l1 at hF
      refine wp_seq ?_; refine wp_region_lit ?_; refine op_g ha rfl (g_lss rfl rfl) ?_; clear ha a; intro a ha; refine wpList_nil ?_; replace ha := ha.sub (σ' := [(0, (.int .i64 a0)), (1, va1), (2, (.int .u32 (BitVec.toNat a2 : Int))), (3, (.func (.func ga3) #[] ga3c.toArray)), (22, v16), (23, (.int .i64 (x14.length : Int))), (24, (.int .i64 i112)), (25, (.bool (decide (i112 < (x14.length : Int)))))]) ⟨rfl, rfl, rfl, rfl, rfl, rfl, rfl, rfl, trivial⟩; refine e_then ?_; refine wp_seq ?_; refine c_cond (i112 < (x14.length : Int)) ha rfl (decide_eq_true_iff) (fun hp203 => ?_) (fun hp203 => ?_)
      · replace hF := if_t hp203 hF
        refine wp_skip ?_; refine e_then ?_; refine wp_seq ?_; refine wp_block ?_; refine wp_seq ?_; refine wp_region_lit ?_; obtain ⟨x204, g205, gx206, hF⟩ := idx_some hF
        obtain ⟨p207, cs208, f209, hf210, hpb211, hat212, hr213, hi214⟩ := h110.at g205 gx206
        obtain ⟨rfl, hI215, rfl⟩ := hr213
        refine op_g ha rfl (hi214.gives sl57 rfl rfl) ?_; clear ha a; intro a ha; refine op_g ha rfl (g_load Tryd.isAgg3 rfl hat212.one) ?_; clear ha a; intro a ha; refine op_g ha rfl (g_assign rfl) ?_; clear ha a; intro a ha; refine wpList_nil ?_; replace ha := ha.sub (σ' := [(0, (.int .i64 a0)), (1, va1), (2, (.int .u32 (BitVec.toNat a2 : Int))), (3, (.func (.func ga3) #[] ga3c.toArray)), (10, (.int .i64 x204)), (22, v16), (23, (.int .i64 (x14.length : Int))), (24, (.int .i64 i112))]) ⟨rfl, rfl, rfl, rfl, rfl, rfl, rfl, rfl, trivial⟩; refine e_then ?_; refine wp_seq ?_; refine wp_region_lit ?_
        (iterate 2 refine op_g ha rfl (g_move rfl) ?_; clear ha a; intro a ha); obtain ⟨x216, hc217, hF⟩ := cal_some hF
        refine o_call ha rfl rfl Tryd.call38 (W_slices_Clone_int64 (ha1.chg hE114 hd) hc217) ?_; clear ha a; rintro v218 w219 ⟨b221, h222, z223, hx220⟩ a ha
        have q225 := Nq.new h110.fpb z223
        have q226 := Nq.madeO z223 h110.blt
        replace h110 := h110.ext hx220
        have hE227 := chg_e hE114 hx220
        have q228 := Zn.upD z223 hE114
        refine op_g ha rfl (g_move rfl) ?_; clear ha a; intro a ha
        refine o_lit1 (o := true) (y := x204) Rp.int ha rfl sl31 rfl rfl rfl ⟨rfl, hI215, rfl⟩ ?_; clear ha a; intro v229 w230 h231 hx232 a ha
        obtain ⟨b234, hb234⟩ : ∃ b : Int, b = w219.heap.size := ⟨_, rfl⟩; rw [← hb234] at h231
        have q235 := zn_of hb234
        have q236 := Nq.new h110.fpb q235
        have q237 := Nq.madeO q235 h110.blt
        have q238 := Nq.new h222.fpb q235
        have q239 := Nq.madeO q235 h222.blt
        have q240 := Zn.upD q235 hE227
        replace h110 := h110.ext hx232
        replace h222 := h222.ext hx232
        have hE241 := chg_e hE227 hx232
        obtain ⟨hl242, hF⟩ := app_some hF
        refine o_append ha rfl sl31 rfl rfl rfl h222 h231.src (Nq.nil _) hl242 ?_; clear ha a; intro v243 w244 b245 h246 hc247 hb248 a ha
        replace h246 : Ow Rp.int 2 true w244 [] b245 v243 _ := h246
        have q250 := Nq.appY q225 h110.fpb hb248
        have q251 := Nq.appX q226 (Nq.nil _) hb248 h110.blt
        have q252 := Nq.appY q239 h231.fpb hb248
        have q253 := Nq.appX q238 (Nq.nil _) hb248 h231.blt
        have q254 := Zn.appD q228 hb248 hE241
        replace h110 := h110.nq hc247 q225
        have hE255 := chg_n hE241 hc247 q228
        (iterate 2 refine op_g ha rfl (g_move rfl) ?_; clear ha a; intro a ha); obtain ⟨x256, hc257, hF⟩ := cal_some hF
        refine o_call ha rfl rfl Tryd.call48 (W_impl_one hI215 hc257) ?_; clear ha a; rintro v258 w259 ⟨rfl, hx260⟩ a ha
        replace h110 := h110.ext hx260
        replace h246 := h246.ext hx260
        have hE261 := chg_e hE255 hx260
        have ht261 := hIe ht ((Ext.then (Ext.trans hx220 hx232) hc247 (Zn.bl z223)).trans hx260)
        refine op_g ha rfl (g32_or (m := a2) (n := x256) rfl rfl) ?_; clear ha a; intro a ha; refine op_g ha rfl (g_move rfl) ?_; clear ha a; intro a ha
        obtain ⟨fp262, hro263, hs264⟩ := h246.roF
        obtain ⟨x266, hc267, hF⟩ := cal_some hF
        refine o_call ha rfl rfl Tryd.call35 (ih ha0 hro263 (fun k hk hm => by have h1 := hs264 k hk; rw [List.append_nil, mem_bl] at h1; exact Zn.out q254 hD k hm h1) (fun k hk => Nat.lt_of_lt_of_le (hD k hk) hE261.size) ht261 hc267) ?_; clear ha a; rintro v268 w269 ⟨rfl, hI269, hx270⟩ a ha
        replace h110 := h110.chg hx270 (Zn.out q24 hD) (fun k hk => by cases hk)
        have hE271 : Chg D W w269 := Chg.trans hE261 hx270 (fun i hi => .inl hi)
        refine wpList_nil ?_; replace ha := ha.sub (σ' := [(0, (.int .i64 a0)), (1, va1), (2, (.int .u32 (BitVec.toNat a2 : Int))), (3, (.func (.func ga3) #[] ga3c.toArray)), (22, v16), (23, (.int .i64 (x14.length : Int))), (24, (.int .i64 i112)), (39, (.bool x266.1))]) ⟨rfl, rfl, rfl, rfl, rfl, rfl, rfl, rfl, trivial⟩; refine e_then ?_; refine c_cond (x266.1 = true) ha rfl (Iff.rfl) (fun hp272 => ?_) (fun hp272 => ?_)
        · replace hF := if_t hp272 hF
          refine wp_seq ?_; refine wp_region_lit ?_; refine op_g ha rfl (g_assign rfl) ?_; clear ha a; intro a ha; refine wpList_nil ?_; replace ha := ha.sub (σ' := [(8, (.bool true))]) ⟨rfl, trivial⟩; refine e_then ?_; refine wp_ret ?_; refine e_blk_ret ?_; refine e_then_ret ?_; refine e_lq_ret ?_; refine e_then_ret ?_; obtain rfl := Option.some.inj hF
          have e273 := LK_inr hN200; subst e273
          have e274 := BK_inr hK196; subst e274
          exact f_ret1 ha rfl rfl ⟨rfl, hI269, hE271⟩
        replace hF := if_f hp272 hF; refine wp_skip ?_; refine e_blk ?_; refine e_then ?_; refine wp_region_lit ?_; obtain ⟨hI275, hF⟩ := ck_some hF; refine op_g ha rfl (g_add rfl rfl hI275) ?_; clear ha a; intro a ha; refine op_g ha rfl (g_move rfl) ?_; clear ha a; intro a ha; refine wpList_nil ?_; replace ha := ha.sub (σ' := [(0, (.int .i64 a0)), (1, va1), (2, (.int .u32 (BitVec.toNat a2 : Int))), (3, (.func (.func ga3) #[] ga3c.toArray)), (22, v16), (23, (.int .i64 (x14.length : Int))), (24, (.int .i64 (i112 + 1)))]) ⟨rfl, rfl, rfl, rfl, rfl, rfl, rfl, trivial⟩; refine e_lq ?_; obtain rfl := Option.some.inj hF
        exact ⟨_, Nat.lt_succ_self _, x266.2, i112 + 1, ha.sub ⟨rfl, rfl, rfl, rfl, rfl, rfl, rfl, trivial⟩, hE271, hI275, hI269, h110, hN200⟩
      replace hF := if_f hp203 hF; refine wp_exit ?_; refine e_then_exit ?_; refine e_lq_eq ?_; obtain rfl := Option.some.inj hF
      exact ⟨t, ha.sub trivial, hE114, ht, (LK_inr hN200).symm⟩
  rintro a w193 ⟨t, ha, hE199, ht, rfl⟩
  have hF : F_impl_rings_k2 t = some _ := hK196; clear hK196; unfold F_impl_rings_k2 at hF
  refine e_then ?_; refine wp_seq ?_; refine wp_region_lit ?_; refine op_g ha rfl (g_assign rfl) ?_; clear ha a; intro a ha; refine wpList_nil ?_; refine e_then ?_; refine wp_ret ?_; obtain rfl := Option.some.inj hF
  exact f_ret1 ha rfl rfl ⟨rfl, ht, hE199⟩
theorem W_impl_rings (hIe : ∀ {w w' s}, Inv w s → Ext w w' → Inv w' s) (hIG : ∀ {w s}, Inv w s → GT 0 w) {ga3 : FuncId} {ga3c : List Value} {a3 : (List Int) → S → Option (Bool × S)} (hga3 : ∀ {w' : World} {vz0 : Value} {fz0 : List Nat} {z0 : (List Int)}, Ro Rp.int w' fz0 vz0 z0 → ∀ {s : S}, Inv w' s → ∀ {r : Bool × S}, a3 z0 s = some r → Calls Tryd.prog ga3 (([vz0] : List Value) ++ ga3c).toArray w' (Ret fun u w'' => u = .bool r.1 ∧ Inv w'' r.2 ∧ Chg D w' w''))
    (hca3 : ∀ args w, (callFunc ga3 args).run Tryd.prog w = .ok (.enter ga3 args) w) {W : World} {a0 : Int} (ha0 : InI a0) {va1 : Value} {fa1 : List Nat} {a1 : (List Int)} (ha1 : Ro Rp.int W fa1 va1 a1) (hd : ∀ k ∈ fa1, k ∉ D) (hD : ∀ k ∈ D, k < W.heap.size) {a2 : BitVec 32} {s : S} (hs : Inv W s) {r : Bool × S} (hF : F_impl_rings a3 a0 a1 a2 s = some r) :
    Calls Tryd.prog 35 [.int .i64 a0, va1, .int .u32 (BitVec.toNat a2 : Int), .func (.func ga3) #[] ga3c.toArray].toArray W (Ret fun u w' => u = .bool r.1 ∧ Inv w' r.2 ∧ Chg D W w') := by
  obtain ⟨n, hn⟩ := fixO_some hF
  clear hF
  have key : ∀ (n : Nat) {W : World} {a0 : Int} (ha0 : InI a0) {va1 : Value} {fa1 : List Nat} {a1 : (List Int)} (ha1 : Ro Rp.int W fa1 va1 a1) (hd : ∀ k ∈ fa1, k ∉ D) (hD : ∀ k ∈ D, k < W.heap.size) {a2 : BitVec 32} {s : S} (hs : Inv W s) {r : Bool × S} (hF : itN (F_impl_rings_B a3) n (a0, a1, a2, s) = some r),
      Calls Tryd.prog 35 [.int .i64 a0, va1, .int .u32 (BitVec.toNat a2 : Int), .func (.func ga3) #[] ga3c.toArray].toArray W (Ret fun u w' => u = .bool r.1 ∧ Inv w' r.2 ∧ Chg D W w') := by
    intro n
    induction n with
    | zero => intro W a0 ha0 va1 fa1 a1 ha1 hd hD a2 s hs r hF; cases hF
    | succ n ih => intro W a0 ha0 va1 fa1 a1 ha1 hd hD a2 s hs r hF; exact W_impl_rings_step (Inv := Inv) (D := D) hIe hIG hga3 hca3 (rc := fun z0 z1 z2 z3 => itN (F_impl_rings_B a3) n (z0, z1, z2, z3)) @ih ha0 ha1 hd hD hs hF
  exact key n ha0 ha1 hd hD hs hn
end
set_option maxHeartbeats 8000000 in
theorem W_impl_leastRing {W : World} {va0_0 : Value} {fa0_0 : List Nat} {a0_0 : (List (List Int))} (ha0_0 : Ro (Rp.sl 2 Rp.int) W fa0_0 va0_0 a0_0) (hG : GT 0 W) {r : ((List Int) × Int)} (hF : F_impl_leastRing a0_0 = some r) :
    Calls Tryd.prog 25 [.agg #[va0_0]].toArray W (Ret fun u w' => ∃ (u0 : Value) (u1 : Value) (b_u0 : Int), u = .tuple #[u0, u1] ∧ Ow Rp.int 2 true w' [] b_u0 u0 r.1 ∧ Zn W b_u0 ∧ (u1 = .int .i64 r.2 ∧ InI r.2) ∧ Ext W w') := by
  refine f_enter Tryd.func25 rfl Tryd.ntmps25 rfl ?_
  intro a ha
  replace ha : Fr 17 [(0, (.agg #[va0_0]))] a := ha
  have hE : Chg [] W W := Chg.refl _ _
  unfold F_impl_leastRing at hF
  refine wp_seq ?_; refine wp_region_lit ?_
  refine o_box ha rfl rfl rfl ?_; clear ha a; intro b1 w2 hB3 hx4 hlo5 a ha
  have q6 := Zn.one hlo5
  have q7 := Zn.upD q6 hE
  have hE8 := Ext.trans hE hx4
  (iterate 2 refine op_g ha rfl (g_assign rfl) ?_; clear ha a; intro a ha); refine wpList_nil ?_; replace ha := ha.sub (σ' := [(1, (.pointer (some ⟨b1, 0, none⟩)))]) ⟨rfl, trivial⟩; refine e_then ?_; refine wp_seq ?_; refine wp_region_lit ?_
  refine o_alloc (cs := [(.slice none 0 0)]) ha rfl Tryd.zeroValue31 rfl ?_; clear ha a; intro b9 w10 hB11 hx12 hlo13 a ha
  have q14 := Zn.one hlo13
  have q15 := Nq.new hB3.fpb q14
  have q16 := Nq.made1 hlo13 hB3.bi
  have q17 := Zn.upD q14 hE8
  replace hB3 := hB3.ext hx12
  have hE18 := Ext.trans hE8 hx12
  refine wpList_nil ?_; refine e_then ?_; refine wp_seq ?_; refine wp_region_lit ?_; refine op_g ha rfl (g_loadA (cs := [va0_0]) Tryd.isAgg27 Tryd.sizeOf27 rfl (by simp) hB3.all) ?_; clear ha a; intro a ha; obtain ⟨x19, hc20, hF⟩ := cal_some hF
  refine o_call ha rfl rfl Tryd.call34 (W_impl_edgesOf (ha0_0.ext hE18) hc20) ?_; clear ha a; rintro v21 w22 ⟨b24, fs28, h25, z26, zf29, nd30, hx23⟩ a ha
  have q31 := Nq.new hB3.fpb z26
  have q32 := Nq.madeF z26 zf29 hB3.bi
  have q33 := Nq.new hB11.fpb z26
  have q34 := Nq.madeF z26 zf29 hB11.bi
  have q35 := Nf.new hB3.fpb zf29
  have q36 := Nf.new hB11.fpb zf29
  replace hB3 := hB3.ext hx23
  replace hB11 := hB11.ext hx23
  have hE37 := Ext.trans hE18 hx23
  have q38 := Zn.upD z26 hE18
  have q39 := zf_up zf29 hE18
  refine o_alloc (cs := [(.int .i64 0)]) ha rfl Tryd.zeroValue2 rfl ?_; clear ha a; intro b40 w41 hB42 hx43 hlo44 a ha
  have q45 := Zn.one hlo44
  have q46 := Nq.new hB3.fpb q45
  have q47 := Nq.made1 hlo44 hB3.bi
  have q48 := Nq.new hB11.fpb q45
  have q49 := Nq.made1 hlo44 hB11.bi
  have q50 := Nq.new h25.fpb q45
  have q51 := Nq.made1 hlo44 h25.blt
  have q52 := Zn.upD q45 hE37
  replace hB3 := hB3.ext hx43
  replace hB11 := hB11.ext hx43
  replace h25 := h25.ext hx43
  have hE53 := Ext.trans hE37 hx43
  refine o_alloc (cs := [(.slice none 0 0)]) ha rfl Tryd.zeroValue22 rfl ?_; clear ha a; intro b54 w55 hB56 hx57 hlo58 a ha
  have q59 := Zn.one hlo58
  have q60 := Nq.new hB3.fpb q59
  have q61 := Nq.made1 hlo58 hB3.bi
  have q62 := Nq.new hB11.fpb q59
  have q63 := Nq.made1 hlo58 hB11.bi
  have q64 := Nq.new h25.fpb q59
  have q65 := Nq.made1 hlo58 h25.blt
  have q66 := Nq.new hB42.fpb q59
  have q67 := Nq.made1 hlo58 hB42.bi
  have q68 := Zn.upD q59 hE53
  replace hB3 := hB3.ext hx57
  replace hB11 := hB11.ext hx57
  replace h25 := h25.ext hx57
  replace hB42 := hB42.ext hx57
  have hE69 := Ext.trans hE53 hx57
  refine o_storeB ha hB42 Tryd.sizeOf2 rfl rfl rfl rfl (Nat.le_of_ble_eq_true rfl) ?_; intro w70 hB71 hc72
  replace hc72 := hc72.bl
  replace hB71 : Bx w70 b40 [(.int .i64 (-1))] 2 := hB71
  replace hB3 := hB3.nq hc72 q46
  replace hB11 := hB11.nq hc72 q48
  replace h25 := h25.nq hc72 q50
  replace hB56 := hB56.nq hc72 q67
  have hE73 := Ext.then hE69 hc72 (Zn.bl q52)
  refine o_storeB ha hB56 Tryd.sizeOf22 rfl rfl h25.cells h25.oneC (Nat.le_of_ble_eq_true rfl) ?_; intro w74 hB75 hc76
  replace hc76 := hc76.bl
  replace hB75 : Bx w74 b54 [v21] 22 := hB75
  replace hB3 := hB3.nq hc76 q60
  replace hB11 := hB11.nq hc76 q62
  replace h25 := h25.nq hc76 q64
  replace hB71 := hB71.nq hc76 q66
  have hE77 := Ext.then hE73 hc76 (Zn.bl q68)
  refine wpList_nil ?_; replace ha := ha.sub (σ' := [(1, (.pointer (some ⟨b1, 0, none⟩))), (4, (.pointer (some ⟨b9, 0, none⟩))), (5, (.pointer (some ⟨b40, 0, none⟩))), (6, (.pointer (some ⟨b54, 0, none⟩)))]) ⟨rfl, rfl, rfl, rfl, trivial⟩; refine e_then ?_; refine wp_seq ?_; refine wp_region_lit ?_; refine op_g ha rfl (g_field0 st27_0 rfl) ?_; clear ha a; intro a ha; refine op_g ha rfl (g_load Tryd.isAgg22 rfl (hB3.cell rfl)) ?_; clear ha a; intro a ha; refine op_g ha rfl (g_lenR sl22.und ha0_0 rfl) ?_; clear ha a; intro a ha
  refine o_lit1 (o := true) (y := 0) Rp.int ha rfl sl31 rfl rfl rfl ⟨rfl, (show InI 0 from by decide), rfl⟩ ?_; clear ha a; intro v78 w79 h80 hx81 a ha
  obtain ⟨b83, hb83⟩ : ∃ b : Int, b = w74.heap.size := ⟨_, rfl⟩; rw [← hb83] at h80
  have q84 := zn_of hb83
  have q85 := Nq.new hB3.fpb q84
  have q86 := Nq.madeO q84 hB3.bi
  have q87 := Nq.new hB11.fpb q84
  have q88 := Nq.madeO q84 hB11.bi
  have q89 := Nq.new h25.fpb q84
  have q90 := Nq.madeO q84 h25.blt
  have q91 := Nq.new hB71.fpb q84
  have q92 := Nq.madeO q84 hB71.bi
  have q93 := Nq.new hB75.fpb q84
  have q94 := Nq.madeO q84 hB75.bi
  have q95 := Nf.old q84 (zf_nil _) h25.bnd
  have q96 := Zn.upD q84 hE77
  replace hB3 := hB3.ext hx81
  replace hB11 := hB11.ext hx81
  replace h25 := h25.ext hx81
  replace hB71 := hB71.ext hx81
  replace hB75 := hB75.ext hx81
  have hE97 := Ext.trans hE77 hx81
  refine op_g ha rfl (g_func rfl rfl) ?_; clear ha a; intro a ha
  obtain ⟨fp98, hro99, hs100⟩ := h80.roF
  obtain ⟨fp103, hro104, hs105⟩ := h25.roF
  have hS : LrS W b54 b40 b9 fp103 := ⟨fun e => q49 b40 (by simp) (by omega), fun e => q67 b54 (by simp) (by omega), fun e => q63 b54 (by simp) (by omega), fun h => q50 b40 (hs105 _ h) rfl, fun h => q34 b9 (hs105 _ h) rfl, by rcases q52 with h | h <;> omega, by rcases q17 with h | h <;> omega⟩
  have hI : LrI W b54 b40 b9 v21 fp103 x19 w79 (([] : List Int), (-1 : Int)) := ⟨hE97, hB75, hro104, (show InI (-1) from by decide), hB71, _, -1, hB11, Ow.nil (by decide), .inl (by decide), by omega, by omega⟩
  obtain ⟨x106, hc107, hF⟩ := cal_some hF
  have hcall := W_impl_rings (S := List Int × Int) (Inv := LrI W b54 b40 b9 v21 fp103 x19) (D := [b40, b9]) (fun h k => LrI.up h k) (fun h => hG.ext (LrI.ext h)) (ga3 := 36) (ga3c := [.pointer (some ⟨b54, 0, none⟩), .pointer (some ⟨b40, 0, none⟩), .pointer (some ⟨b9, 0, none⟩)]) (a3 := F_impl_leastRing_1 x19) (fun {w' vz0 fz0 z0} hz {s} hs {r} hr => W_impl_leastRing_1 hS hs hz hr) Tryd.call36 ha0_0.len hro99 (fun k hk hm => by
    have h1 := hs100 k hk
    simp only [List.mem_cons, List.not_mem_nil, or_false] at hm
    rcases hm with rfl | rfl
    · exact q92 _ h1 rfl
    · exact q88 _ h1 rfl) (fun k hk => by
    simp only [List.mem_cons, List.not_mem_nil, or_false] at hk
    rcases hk with rfl | rfl
    · exact hB71.blt
    exact hB11.blt) hI hc107
  refine o_call ha rfl rfl Tryd.call35 hcall ?_
  clear ha a; rintro v108 w109 ⟨rfl, hI109, hx110⟩ a ha
  have hE111 := hI109.ext
  obtain ⟨vb, bb, hB11, hO, hzO, -⟩ := hI109.bst
  have hB71 := hI109.bxL
  refine wpList_nil ?_; replace ha := ha.sub (σ' := [(4, (.pointer (some ⟨b9, 0, none⟩))), (5, (.pointer (some ⟨b40, 0, none⟩)))]) ⟨rfl, rfl, trivial⟩; refine e_then ?_; refine wp_seq ?_; refine d_quiet hmix (by kernel_rfl) ?_; refine q_g ha rfl (g_load Tryd.isAgg31 rfl (hB11.cell rfl)) ?_; clear ha a; intro a ha; refine q_g ha rfl (g_load Tryd.isAgg2 rfl (hB71.cell rfl)) ?_; clear ha a; intro a ha; (iterate 2 refine q_g ha rfl (g_assign rfl) ?_; clear ha a; intro a ha)
  refine q_nil ?_; intro w112 hx113
  replace hB11 := hB11.ext hx113
  replace hB71 := hB71.ext hx113
  have hE114 := Ext.trans hE111 hx113
  replace ha := ha.sub (σ' := [(2, vb), (3, (.int .i64 x106.2.2))]) ⟨rfl, rfl, trivial⟩; refine e_then ?_; refine wp_ret ?_; obtain rfl := Option.some.inj hF
  exact f_ret2 ha rfl rfl rfl ⟨_, _, bb, rfl, hO.ext hx113, hzO, ⟨rfl, hI109.inI⟩, hE114⟩

set_option maxHeartbeats 2000000 in
theorem W_impl_LeastCrossings {W : World} {va0_0 : Value} {fa0_0 : List Nat} {a0_0 : (List (List Int))} (ha0_0 : Ro (Rp.sl 2 Rp.int) W fa0_0 va0_0 a0_0) (hG : GT 0 W) {r : ((List Int) × Int)} (hF : F_impl_LeastCrossings a0_0 = some r) :
    Calls Tryd.prog 12 [.agg #[va0_0]].toArray W (Ret fun u w' => ∃ (u0 : Value) (u1 : Value) (b_u0 : Int), u = .tuple #[u0, u1] ∧ Ow Rp.int 2 true w' [] b_u0 u0 r.1 ∧ Zn W b_u0 ∧ (u1 = .int .i64 r.2 ∧ InI r.2) ∧ Ext W w') := by
  refine f_enter Tryd.func12 rfl Tryd.ntmps12 rfl ?_
  intro a ha
  replace ha : Fr 11 [(0, (.agg #[va0_0]))] a := ha
  have hE : Chg [] W W := Chg.refl _ _
  unfold F_impl_LeastCrossings at hF
  refine wp_seq ?_; refine wp_region_lit ?_
  refine o_box ha rfl rfl rfl ?_; clear ha a; intro b1 w2 hB3 hx4 hlo5 a ha
  have q6 := Zn.one hlo5
  have q7 := Zn.upD q6 hE
  have hE8 := Ext.trans hE hx4
  (iterate 2 refine op_g ha rfl (g_assign rfl) ?_; clear ha a; intro a ha); refine wpList_nil ?_; replace ha := ha.sub (σ' := [(1, (.pointer (some ⟨b1, 0, none⟩)))]) ⟨rfl, trivial⟩; refine e_then ?_; refine wp_seq ?_; refine wp_seq ?_; refine wp_region_lit ?_; refine op_g ha rfl (g_loadA (cs := [va0_0]) Tryd.isAgg27 Tryd.sizeOf27 rfl (by simp) hB3.all) ?_; clear ha a; intro a ha; obtain ⟨x9, hc10, hF⟩ := cal_some hF
  refine o_call ha rfl rfl Tryd.call24 (W_impl_isSmall (ha0_0.ext hE8) hc10) ?_; clear ha a; rintro v11 w12 ⟨rfl, hx13⟩ a ha
  replace hB3 := hB3.ext hx13
  have hE14 := Ext.trans hE8 hx13
  refine op_g ha rfl (g_not rfl) ?_; clear ha a; intro a ha; refine wpList_nil ?_; replace ha := ha.sub (σ' := [(1, (.pointer (some ⟨b1, 0, none⟩))), (6, (.bool (!x9)))]) ⟨rfl, rfl, trivial⟩; refine e_then ?_; refine c_cond (¬ (x9 = true)) ha rfl (n_iff (Iff.rfl)) (fun hp15 => ?_) (fun hp15 => ?_)
  · replace hF := if_t hp15 hF
    refine wp_seq ?_; refine wp_region_lit ?_; (iterate 2 refine op_g ha rfl (g_assign rfl) ?_; clear ha a; intro a ha); refine wpList_nil ?_; replace ha := ha.sub (σ' := [(2, (.slice none 0 0)), (3, (.int .i64 (-1)))]) ⟨rfl, rfl, trivial⟩; refine e_then ?_; refine wp_ret ?_; refine e_then_ret ?_; obtain rfl := Option.some.inj hF
    exact f_ret2 ha rfl rfl rfl ⟨_, _, -1, rfl, (Ow.nil (by decide)), (.inl (by decide)), ⟨rfl, (show InI (-1) from by decide)⟩, hE14⟩
  replace hF := if_f hp15 hF; refine wp_skip ?_; refine e_then ?_; refine wp_seq ?_; refine wp_region_lit ?_; refine op_g ha rfl (g_loadA (cs := [va0_0]) Tryd.isAgg27 Tryd.sizeOf27 rfl (by simp) hB3.all) ?_; clear ha a; intro a ha; obtain ⟨x16, hc17, hF⟩ := cal_some hF
  refine o_call ha rfl rfl Tryd.call25 (W_impl_leastRing (ha0_0.ext hE14) (hG.ext hE14) hc17) ?_; clear ha a; rintro v18 w19 ⟨u21, u22, b23, rfl, h24, z25, ⟨rfl, hI27⟩, hx20⟩ a ha
  have q28 := Nq.new hB3.fpb z25
  have q29 := Nq.madeO z25 hB3.bi
  replace hB3 := hB3.ext hx20
  have hE30 := Ext.trans hE14 hx20
  have q31 := Zn.upD z25 hE14
  (iterate 2 refine op_g ha rfl (g_extract rfl rfl) ?_; clear ha a; intro a ha); (iterate 2 refine op_g ha rfl (g_assign rfl) ?_; clear ha a; intro a ha); refine wpList_nil ?_; replace ha := ha.sub (σ' := [(2, u21), (3, (.int .i64 x16.2))]) ⟨rfl, rfl, trivial⟩; refine e_then ?_; refine wp_ret ?_; obtain rfl := Option.some.inj hF
  exact f_ret2 ha rfl rfl rfl ⟨_, _, _, rfl, h24, q31, ⟨rfl, hI27⟩, hE30⟩
set_option maxHeartbeats 2000000 in
theorem W_impl_OuterRing {W : World} {va0_0 : Value} {fa0_0 : List Nat} {a0_0 : (List (List Int))} (ha0_0 : Ro (Rp.sl 2 Rp.int) W fa0_0 va0_0 a0_0) (hG : GT 0 W) {r : ((List Int) × Bool)} (hF : F_impl_OuterRing a0_0 = some r) :
    Calls Tryd.prog 18 [.agg #[va0_0]].toArray W (Ret fun u w' => ∃ (u0 : Value) (u1 : Value) (b_u0 : Int), u = .tuple #[u0, u1] ∧ Ow Rp.int 2 true w' [] b_u0 u0 r.1 ∧ Zn W b_u0 ∧ u1 = .bool r.2 ∧ Ext W w') := by
  refine f_enter Tryd.func18 rfl Tryd.ntmps18 rfl ?_
  intro a ha
  replace ha : Fr 14 [(0, (.agg #[va0_0]))] a := ha
  have hE : Chg [] W W := Chg.refl _ _
  unfold F_impl_OuterRing at hF
  refine wp_seq ?_; refine wp_region_lit ?_
  refine o_box ha rfl rfl rfl ?_; clear ha a; intro b1 w2 hB3 hx4 hlo5 a ha
  have q6 := Zn.one hlo5
  have q7 := Zn.upD q6 hE
  have hE8 := Ext.trans hE hx4
  (iterate 2 refine op_g ha rfl (g_assign rfl) ?_; clear ha a; intro a ha); refine wpList_nil ?_; replace ha := ha.sub (σ' := [(1, (.pointer (some ⟨b1, 0, none⟩)))]) ⟨rfl, trivial⟩; refine e_then ?_; refine wp_seq ?_; refine wp_region_lit ?_; refine op_g ha rfl (g_loadA (cs := [va0_0]) Tryd.isAgg27 Tryd.sizeOf27 rfl (by simp) hB3.all) ?_; clear ha a; intro a ha; obtain ⟨x9, hc10, hF⟩ := cal_some hF
  refine o_call ha rfl rfl Tryd.call12 (W_impl_LeastCrossings (ha0_0.ext hE8) (hG.ext hE8) hc10) ?_; clear ha a; rintro v11 w12 ⟨u14, u15, b16, rfl, h17, z18, ⟨rfl, hI20⟩, hx13⟩ a ha
  have q21 := Nq.new hB3.fpb z18
  have q22 := Nq.madeO z18 hB3.bi
  replace hB3 := hB3.ext hx13
  have hE23 := Ext.trans hE8 hx13
  have q24 := Zn.upD z18 hE8
  refine op_g ha rfl (g_move rfl) ?_; clear ha a; intro a ha; (iterate 2 refine op_g ha rfl (g_extract rfl rfl) ?_; clear ha a; intro a ha); (iterate 2 refine op_g ha rfl (g_assign rfl) ?_; clear ha a; intro a ha); refine wpList_nil ?_; replace ha := ha.sub (σ' := [(4, u14), (5, (.int .i64 x9.2))]) ⟨rfl, rfl, trivial⟩; refine e_then ?_; refine wp_seq ?_; refine wp_seq ?_; refine wp_region_lit ?_; refine op_g ha rfl (g_move rfl) ?_; clear ha a; intro a ha; refine op_g ha rfl (g_neq rfl rfl) ?_; clear ha a; intro a ha; refine wpList_nil ?_; replace ha := ha.sub (σ' := [(4, u14), (12, (.bool (decide (x9.2 ≠ 0))))]) ⟨rfl, rfl, trivial⟩
  refine e_then ?_; refine c_cond (x9.2 ≠ 0) ha rfl (decide_eq_true_iff) (fun hp25 => ?_) (fun hp25 => ?_)
  · replace hF := if_t hp25 hF
    refine wp_seq ?_; refine wp_region_lit ?_; (iterate 2 refine op_g ha rfl (g_assign rfl) ?_; clear ha a; intro a ha); refine wpList_nil ?_; replace ha := ha.sub (σ' := [(2, (.slice none 0 0)), (3, (.bool false))]) ⟨rfl, rfl, trivial⟩; refine e_then ?_; refine wp_ret ?_; refine e_then_ret ?_; obtain rfl := Option.some.inj hF
    exact f_ret2 ha rfl rfl rfl ⟨_, _, -1, rfl, (Ow.nil (by decide)), (.inl (by decide)), rfl, hE23⟩
  replace hF := if_f hp25 hF; refine wp_skip ?_; refine e_then ?_; refine wp_seq ?_; refine wp_region_lit ?_; refine op_g ha rfl (g_move rfl) ?_; clear ha a; intro a ha; (iterate 2 refine op_g ha rfl (g_assign rfl) ?_; clear ha a; intro a ha); refine wpList_nil ?_; replace ha := ha.sub (σ' := [(2, u14), (3, (.bool true))]) ⟨rfl, rfl, trivial⟩; refine e_then ?_; refine wp_ret ?_; obtain rfl := Option.some.inj hF
  exact f_ret2 ha rfl rfl rfl ⟨_, _, _, rfl, h17, q24, rfl, hE23⟩
set_option maxHeartbeats 2000000 in
theorem W_laws_eqInt64S {W : World} {va0 : Value} {fa0 : List Nat} {a0 : (List Int)} (ha0 : Ro Rp.int W fa0 va0 a0) {va1 : Value} {fa1 : List Nat} {a1 : (List Int)} (ha1 : Ro Rp.int W fa1 va1 a1) {r : Bool} (hF : F_laws_eqInt64S a0 a1 = some r) :
    Calls Tryd.prog 13 [va0, va1].toArray W (Ret fun u w' => u = .bool r ∧ Ext W w') := by
  refine f_enter Tryd.func13 rfl Tryd.ntmps13 rfl ?_
  intro a ha
  replace ha : Fr 26 [(0, va0), (1, va1)] a := ha
  have hE : Chg [] W W := Chg.refl _ _
  unfold F_laws_eqInt64S at hF
  refine wp_seq ?_; refine wp_region_lit ?_; refine op_g ha rfl (g_assign rfl) ?_; clear ha a; intro a ha; refine wpList_nil ?_; replace ha := ha.sub (σ' := [(0, va0), (1, va1)]) ⟨rfl, rfl, trivial⟩; refine e_then ?_; refine wp_seq ?_; refine wp_seq ?_; refine wp_region_lit ?_; refine op_g ha rfl (g_move rfl) ?_; clear ha a; intro a ha; refine op_g ha rfl (g_lenR sl31.und ha0 rfl) ?_; clear ha a; intro a ha; refine op_g ha rfl (g_move rfl) ?_; clear ha a; intro a ha; refine op_g ha rfl (g_lenR sl31.und ha1 rfl) ?_; clear ha a; intro a ha; refine op_g ha rfl (g_neq rfl rfl) ?_; clear ha a; intro a ha
  refine wpList_nil ?_; replace ha := ha.sub (σ' := [(0, va0), (1, va1), (10, (.bool (decide ((a0.length : Int) ≠ (a1.length : Int)))))]) ⟨rfl, rfl, rfl, trivial⟩; refine e_then ?_; refine c_cond ((a0.length : Int) ≠ (a1.length : Int)) ha rfl (decide_eq_true_iff) (fun hp1 => ?_) (fun hp1 => ?_)
  · replace hF := if_t hp1 hF
    refine wp_seq ?_; refine wp_region_lit ?_; refine op_g ha rfl (g_assign rfl) ?_; clear ha a; intro a ha; refine wpList_nil ?_; replace ha := ha.sub (σ' := [(4, (.bool false))]) ⟨rfl, trivial⟩; refine e_then ?_; refine wp_ret ?_; refine e_then_ret ?_; obtain rfl := Option.some.inj hF
    exact f_ret1 ha rfl rfl ⟨rfl, hE⟩
  replace hF := if_f hp1 hF; refine wp_skip ?_; refine e_then ?_; refine wp_seq ?_; refine wp_seq ?_; refine wp_region_lit ?_; refine op_g ha rfl (g_assign rfl) ?_; clear ha a; intro a ha; refine wpList_nil ?_; replace ha := ha.sub (σ' := [(0, va0), (1, va1), (5, (.int .i64 0))]) ⟨rfl, rfl, rfl, trivial⟩; refine e_then ?_; obtain ⟨o77, ho78, hK79⟩ := bnd_some hF
  obtain ⟨n80, hn81⟩ := lp_some ho78; clear ho78
  refine c_loop (fun a w => Fr 26 [] a ∧ Chg [] W w ∧ o77 = .inl ()) (fun n a w => ∃ (i39 : Int), Fr 26 [(0, va0), (1, va1), (5, (.int .i64 i39))] a ∧ Chg [] W w ∧ InI i39 ∧ lpN (fun s => F_laws_eqInt64S_l1 a0 a1 s) n i39 = some o77) n80 ⟨0, ha.sub ⟨rfl, rfl, rfl, trivial⟩, hE, (show InI 0 from by decide), hn81⟩ ?_ ?_
  · rintro m85 a w38 ⟨i39, ha, hE41, hI40, hF⟩
    cases m85 with
    | zero => exact (lpN_zero hF).elim
    | succ m85 =>
      obtain ⟨z84, hF, hN83⟩ := lpN_succ hF
      have hF : F_laws_eqInt64S_l1 a0 a1 i39 = some z84 := hF; unfold F_laws_eqInt64S_l1 at hF
      refine wp_seq ?_; refine wp_seq ?_; refine wp_region_lit ?_; (iterate 2 refine op_g ha rfl (g_move rfl) ?_; clear ha a; intro a ha); refine op_g ha rfl (g_lenR sl31.und ha0 rfl) ?_; clear ha a; intro a ha; refine op_g ha rfl (g_lss rfl rfl) ?_; clear ha a; intro a ha; refine wpList_nil ?_; replace ha := ha.sub (σ' := [(0, va0), (1, va1), (5, (.int .i64 i39)), (14, (.bool (decide (i39 < (a0.length : Int)))))]) ⟨rfl, rfl, rfl, rfl, trivial⟩; refine e_then ?_; refine c_cond (i39 < (a0.length : Int)) ha rfl (decide_eq_true_iff) (fun hp86 => ?_) (fun hp86 => ?_)
      · replace hF := if_t hp86 hF
        refine wp_skip ?_; refine e_then ?_; refine wp_seq ?_; refine wp_block ?_; refine wp_seq ?_; refine d_quiet hmix (by kernel_rfl) ?_; (iterate 2 refine q_g ha rfl (g_move rfl) ?_; clear ha a; intro a ha); obtain ⟨x87, g88, gx89, hF⟩ := idx_some hF
        obtain ⟨p90, cs91, f92, hf93, hpb94, hat95, hr96, hi97⟩ := ha0.at g88 gx89
        obtain ⟨rfl, hI98, rfl⟩ := hr96
        refine q_g ha rfl (hi97.gives sl31 rfl rfl) ?_; clear ha a; intro a ha; refine q_g ha rfl (g_load0 hE41 Tryd.isAgg2 rfl hat95.one) ?_; clear ha a; intro a ha; (iterate 2 refine q_g ha rfl (g_move rfl) ?_; clear ha a; intro a ha); obtain ⟨x99, g100, gx101, hF⟩ := idx_some hF
        obtain ⟨p102, cs103, f104, hf105, hpb106, hat107, hr108, hi109⟩ := ha1.at g100 gx101
        obtain ⟨rfl, hI110, rfl⟩ := hr108
        refine q_g ha rfl (hi109.gives sl31 rfl rfl) ?_; clear ha a; intro a ha; refine q_g ha rfl (g_load0 hE41 Tryd.isAgg2 rfl hat107.one) ?_; clear ha a; intro a ha; refine q_g ha rfl (g_neq rfl rfl) ?_; clear ha a; intro a ha
        refine q_nil ?_; intro w111 hx112
        have hE113 := Ext.trans hE41 hx112
        replace ha := ha.sub (σ' := [(0, va0), (1, va1), (5, (.int .i64 i39)), (25, (.bool (decide (x87 ≠ x99))))]) ⟨rfl, rfl, rfl, rfl, trivial⟩; refine e_then ?_; refine c_cond (x87 ≠ x99) ha rfl (decide_eq_true_iff) (fun hp114 => ?_) (fun hp114 => ?_)
        · replace hF := if_t hp114 hF
          refine wp_seq ?_; refine wp_region_lit ?_; refine op_g ha rfl (g_assign rfl) ?_; clear ha a; intro a ha; refine wpList_nil ?_; replace ha := ha.sub (σ' := [(4, (.bool false))]) ⟨rfl, trivial⟩; refine e_then ?_; refine wp_ret ?_; refine e_blk_ret ?_; refine e_then_ret ?_; refine e_lq_ret ?_; refine e_then_ret ?_; obtain rfl := Option.some.inj hF
          have e115 := LK_inr hN83; subst e115
          have e116 := BK_inr hK79; subst e116
          exact f_ret1 ha rfl rfl ⟨rfl, hE113⟩
        replace hF := if_f hp114 hF; refine wp_skip ?_; refine e_blk ?_; refine e_then ?_; refine wp_region_lit ?_; refine op_g ha rfl (g_move rfl) ?_; clear ha a; intro a ha; obtain ⟨hI117, hF⟩ := ck_some hF; refine op_g ha rfl (g_add rfl rfl hI117) ?_; clear ha a; intro a ha; refine op_g ha rfl (g_assign rfl) ?_; clear ha a; intro a ha; refine wpList_nil ?_; replace ha := ha.sub (σ' := [(0, va0), (1, va1), (5, (.int .i64 (i39 + 1)))]) ⟨rfl, rfl, rfl, trivial⟩; refine e_lq ?_; obtain rfl := Option.some.inj hF
        exact ⟨_, Nat.lt_succ_self _, i39 + 1, ha.sub ⟨rfl, rfl, rfl, trivial⟩, hE113, hI117, hN83⟩
      replace hF := if_f hp86 hF; refine wp_exit ?_; refine e_then_exit ?_; refine e_lq_eq ?_; obtain rfl := Option.some.inj hF
      exact ⟨ha.sub trivial, hE41, (LK_inr hN83).symm⟩
  rintro a w76 ⟨ha, hE82, rfl⟩
  have hF : F_laws_eqInt64S_k2 = some _ := hK79; clear hK79; unfold F_laws_eqInt64S_k2 at hF
  refine e_then ?_; refine wp_seq ?_; refine wp_region_lit ?_; refine op_g ha rfl (g_assign rfl) ?_; clear ha a; intro a ha; refine wpList_nil ?_; refine e_then ?_; refine wp_ret ?_; obtain rfl := Option.some.inj hF
  exact f_ret1 ha rfl rfl ⟨rfl, hE82⟩
set_option maxHeartbeats 2000000 in
theorem W_laws_eqInt64SS {W : World} {va0 : Value} {fa0 : List Nat} {a0 : (List (List Int))} (ha0 : Ro (Rp.sl 2 Rp.int) W fa0 va0 a0) {va1 : Value} {fa1 : List Nat} {a1 : (List (List Int))} (ha1 : Ro (Rp.sl 2 Rp.int) W fa1 va1 a1) {r : Bool} (hF : F_laws_eqInt64SS a0 a1 = some r) :
    Calls Tryd.prog 21 [va0, va1].toArray W (Ret fun u w' => u = .bool r ∧ Ext W w') := by
  refine f_enter Tryd.func21 rfl Tryd.ntmps21 rfl ?_
  intro a ha
  replace ha : Fr 27 [(0, va0), (1, va1)] a := ha
  have hE : Chg [] W W := Chg.refl _ _
  unfold F_laws_eqInt64SS at hF
  refine wp_seq ?_; refine wp_region_lit ?_; refine op_g ha rfl (g_assign rfl) ?_; clear ha a; intro a ha; refine wpList_nil ?_; replace ha := ha.sub (σ' := [(0, va0), (1, va1)]) ⟨rfl, rfl, trivial⟩; refine e_then ?_; refine wp_seq ?_; refine wp_seq ?_; refine wp_region_lit ?_; refine op_g ha rfl (g_move rfl) ?_; clear ha a; intro a ha; refine op_g ha rfl (g_lenR sl22.und ha0 rfl) ?_; clear ha a; intro a ha; refine op_g ha rfl (g_move rfl) ?_; clear ha a; intro a ha; refine op_g ha rfl (g_lenR sl22.und ha1 rfl) ?_; clear ha a; intro a ha; refine op_g ha rfl (g_neq rfl rfl) ?_; clear ha a; intro a ha
  refine wpList_nil ?_; replace ha := ha.sub (σ' := [(0, va0), (1, va1), (10, (.bool (decide ((a0.length : Int) ≠ (a1.length : Int)))))]) ⟨rfl, rfl, rfl, trivial⟩; refine e_then ?_; refine c_cond ((a0.length : Int) ≠ (a1.length : Int)) ha rfl (decide_eq_true_iff) (fun hp1 => ?_) (fun hp1 => ?_)
  · replace hF := if_t hp1 hF
    refine wp_seq ?_; refine wp_region_lit ?_; refine op_g ha rfl (g_assign rfl) ?_; clear ha a; intro a ha; refine wpList_nil ?_; replace ha := ha.sub (σ' := [(4, (.bool false))]) ⟨rfl, trivial⟩; refine e_then ?_; refine wp_ret ?_; refine e_then_ret ?_; obtain rfl := Option.some.inj hF
    exact f_ret1 ha rfl rfl ⟨rfl, hE⟩
  replace hF := if_f hp1 hF; refine wp_skip ?_; refine e_then ?_; refine wp_seq ?_; refine wp_seq ?_; refine wp_region_lit ?_; refine op_g ha rfl (g_assign rfl) ?_; clear ha a; intro a ha; refine wpList_nil ?_; replace ha := ha.sub (σ' := [(0, va0), (1, va1), (5, (.int .i64 0))]) ⟨rfl, rfl, rfl, trivial⟩; refine e_then ?_; obtain ⟨o93, ho94, hK95⟩ := bnd_some hF
  obtain ⟨n96, hn97⟩ := lp_some ho94; clear ho94
  refine c_loop (fun a w => Fr 27 [] a ∧ Chg [] W w ∧ o93 = .inl ()) (fun n a w => ∃ (i47 : Int), Fr 27 [(0, va0), (1, va1), (5, (.int .i64 i47))] a ∧ Chg [] W w ∧ InI i47 ∧ lpN (fun s => F_laws_eqInt64SS_l1 a0 a1 s) n i47 = some o93) n96 ⟨0, ha.sub ⟨rfl, rfl, rfl, trivial⟩, hE, (show InI 0 from by decide), hn97⟩ ?_ ?_
  · rintro m101 a w46 ⟨i47, ha, hE49, hI48, hF⟩
    cases m101 with
    | zero => exact (lpN_zero hF).elim
    | succ m101 =>
      obtain ⟨z100, hF, hN99⟩ := lpN_succ hF
      have hF : F_laws_eqInt64SS_l1 a0 a1 i47 = some z100 := hF; unfold F_laws_eqInt64SS_l1 at hF
      refine wp_seq ?_; refine wp_seq ?_; refine wp_region_lit ?_; (iterate 2 refine op_g ha rfl (g_move rfl) ?_; clear ha a; intro a ha); refine op_g ha rfl (g_lenR sl22.und ha0 rfl) ?_; clear ha a; intro a ha; refine op_g ha rfl (g_lss rfl rfl) ?_; clear ha a; intro a ha; refine wpList_nil ?_; replace ha := ha.sub (σ' := [(0, va0), (1, va1), (5, (.int .i64 i47)), (14, (.bool (decide (i47 < (a0.length : Int)))))]) ⟨rfl, rfl, rfl, rfl, trivial⟩; refine e_then ?_; refine c_cond (i47 < (a0.length : Int)) ha rfl (decide_eq_true_iff) (fun hp102 => ?_) (fun hp102 => ?_)
      · replace hF := if_t hp102 hF
        refine wp_skip ?_; refine e_then ?_; refine wp_seq ?_; refine wp_block ?_; refine wp_seq ?_; refine d_quiet hmix (by kernel_rfl) ?_; (iterate 2 refine q_g ha rfl (g_move rfl) ?_; clear ha a; intro a ha); obtain ⟨x103, g104, gx105, hF⟩ := idx_some hF
        obtain ⟨p106, cs107, f108, hf109, hpb110, hat111, hr112, hi113⟩ := ha0.at g104 gx105
        obtain ⟨v114, rfl, h115⟩ := hr112
        have h115 : Ro Rp.int W f108 v114 x103 := h115
        refine q_g ha rfl (hi113.gives sl22 rfl rfl) ?_; clear ha a; intro a ha; refine q_g ha rfl (g_load0 hE49 Tryd.isAgg31 rfl hat111.one) ?_; clear ha a; intro a ha; (iterate 2 refine q_g ha rfl (g_move rfl) ?_; clear ha a; intro a ha); obtain ⟨x117, g118, gx119, hF⟩ := idx_some hF
        obtain ⟨p120, cs121, f122, hf123, hpb124, hat125, hr126, hi127⟩ := ha1.at g118 gx119
        obtain ⟨v128, rfl, h129⟩ := hr126
        have h129 : Ro Rp.int W f122 v128 x117 := h129
        refine q_g ha rfl (hi127.gives sl22 rfl rfl) ?_; clear ha a; intro a ha; refine q_g ha rfl (g_load0 hE49 Tryd.isAgg31 rfl hat125.one) ?_; clear ha a; intro a ha; obtain ⟨x133, hc134, hF⟩ := cal_some hF; refine q_call (.bool x133) ha rfl rfl Tryd.call13 (fun w132 hx131 => W_laws_eqInt64S (h115.ext (Ext.trans hE49 hx131)) (h129.ext (Ext.trans hE49 hx131)) hc134) (fun _ _ _ h => ⟨h.1, h.2⟩) ?_; clear ha a; intro a ha; refine q_g ha rfl (g_not rfl) ?_; clear ha a; intro a ha
        refine q_nil ?_; intro w135 hx136
        have hE137 := Ext.trans hE49 hx136
        replace ha := ha.sub (σ' := [(0, va0), (1, va1), (5, (.int .i64 i47)), (26, (.bool (!x133)))]) ⟨rfl, rfl, rfl, rfl, trivial⟩; refine e_then ?_; refine c_cond (¬ (x133 = true)) ha rfl (n_iff (Iff.rfl)) (fun hp138 => ?_) (fun hp138 => ?_)
        · replace hF := if_t hp138 hF
          refine wp_seq ?_; refine wp_region_lit ?_; refine op_g ha rfl (g_assign rfl) ?_; clear ha a; intro a ha; refine wpList_nil ?_; replace ha := ha.sub (σ' := [(4, (.bool false))]) ⟨rfl, trivial⟩; refine e_then ?_; refine wp_ret ?_; refine e_blk_ret ?_; refine e_then_ret ?_; refine e_lq_ret ?_; refine e_then_ret ?_; obtain rfl := Option.some.inj hF
          have e139 := LK_inr hN99; subst e139
          have e140 := BK_inr hK95; subst e140
          exact f_ret1 ha rfl rfl ⟨rfl, hE137⟩
        replace hF := if_f hp138 hF; refine wp_skip ?_; refine e_blk ?_; refine e_then ?_; refine wp_region_lit ?_; refine op_g ha rfl (g_move rfl) ?_; clear ha a; intro a ha; obtain ⟨hI141, hF⟩ := ck_some hF; refine op_g ha rfl (g_add rfl rfl hI141) ?_; clear ha a; intro a ha; refine op_g ha rfl (g_assign rfl) ?_; clear ha a; intro a ha; refine wpList_nil ?_; replace ha := ha.sub (σ' := [(0, va0), (1, va1), (5, (.int .i64 (i47 + 1)))]) ⟨rfl, rfl, rfl, trivial⟩; refine e_lq ?_; obtain rfl := Option.some.inj hF
        exact ⟨_, Nat.lt_succ_self _, i47 + 1, ha.sub ⟨rfl, rfl, rfl, trivial⟩, hE137, hI141, hN99⟩
      replace hF := if_f hp102 hF; refine wp_exit ?_; refine e_then_exit ?_; refine e_lq_eq ?_; obtain rfl := Option.some.inj hF
      exact ⟨ha.sub trivial, hE49, (LK_inr hN99).symm⟩
  rintro a w92 ⟨ha, hE98, rfl⟩
  have hF : F_laws_eqInt64SS_k2 = some _ := hK95; clear hK95; unfold F_laws_eqInt64SS_k2 at hF
  refine e_then ?_; refine wp_seq ?_; refine wp_region_lit ?_; refine op_g ha rfl (g_assign rfl) ?_; clear ha a; intro a ha; refine wpList_nil ?_; refine e_then ?_; refine wp_ret ?_; obtain rfl := Option.some.inj hF
  exact f_ret1 ha rfl rfl ⟨rfl, hE98⟩
set_option maxHeartbeats 2000000 in
theorem W_laws_eqGraph {W : World} {va0_0 : Value} {fa0_0 : List Nat} {a0_0 : (List (List Int))} (ha0_0 : Ro (Rp.sl 2 Rp.int) W fa0_0 va0_0 a0_0) {va1_0 : Value} {fa1_0 : List Nat} {a1_0 : (List (List Int))} (ha1_0 : Ro (Rp.sl 2 Rp.int) W fa1_0 va1_0 a1_0) {r : Bool} (hF : F_laws_eqGraph a0_0 a1_0 = some r) :
    Calls Tryd.prog 10 [.agg #[va0_0], .agg #[va1_0]].toArray W (Ret fun u w' => u = .bool r ∧ Ext W w') := by
  refine f_enter Tryd.func10 rfl Tryd.ntmps10 rfl ?_
  intro a ha
  replace ha : Fr 11 [(0, (.agg #[va0_0])), (1, (.agg #[va1_0]))] a := ha
  have hE : Chg [] W W := Chg.refl _ _
  unfold F_laws_eqGraph at hF
  refine wp_seq ?_; refine wp_region_lit ?_
  refine o_box ha rfl rfl rfl ?_; clear ha a; intro b1 w2 hB3 hx4 hlo5 a ha
  have q6 := Zn.one hlo5
  have q7 := Zn.upD q6 hE
  have hE8 := Ext.trans hE hx4
  refine o_box ha rfl rfl rfl ?_; clear ha a; intro b9 w10 hB11 hx12 hlo13 a ha
  have q14 := Zn.one hlo13
  have q15 := Nq.new hB3.fpb q14
  have q16 := Nq.made1 hlo13 hB3.bi
  have q17 := Zn.upD q14 hE8
  replace hB3 := hB3.ext hx12
  have hE18 := Ext.trans hE8 hx12
  refine op_g ha rfl (g_assign rfl) ?_; clear ha a; intro a ha; refine wpList_nil ?_; replace ha := ha.sub (σ' := [(2, (.pointer (some ⟨b1, 0, none⟩))), (3, (.pointer (some ⟨b9, 0, none⟩)))]) ⟨rfl, rfl, trivial⟩; refine e_then ?_; refine wp_seq ?_; refine wp_seq ?_; refine wp_region_lit ?_; refine op_g ha rfl (g_field0 st27_0 rfl) ?_; clear ha a; intro a ha; refine op_g ha rfl (g_load Tryd.isAgg22 rfl (hB3.cell rfl)) ?_; clear ha a; intro a ha; refine op_g ha rfl (g_field0 st27_0 rfl) ?_; clear ha a; intro a ha; refine op_g ha rfl (g_load Tryd.isAgg22 rfl (hB11.cell rfl)) ?_; clear ha a; intro a ha
  obtain ⟨x19, hc20, hF⟩ := cal_some hF
  refine o_call ha rfl rfl Tryd.call21 (W_laws_eqInt64SS (ha0_0.ext hE18) (ha1_0.ext hE18) hc20) ?_; clear ha a; rintro v21 w22 ⟨rfl, hx23⟩ a ha
  replace hB3 := hB3.ext hx23
  replace hB11 := hB11.ext hx23
  have hE24 := Ext.trans hE18 hx23
  refine op_g ha rfl (g_not rfl) ?_; clear ha a; intro a ha; refine wpList_nil ?_; replace ha := ha.sub (σ' := [(10, (.bool (!x19)))]) ⟨rfl, trivial⟩; refine e_then ?_; refine c_cond (¬ (x19 = true)) ha rfl (n_iff (Iff.rfl)) (fun hp25 => ?_) (fun hp25 => ?_)
  · replace hF := if_t hp25 hF
    refine wp_seq ?_; refine wp_region_lit ?_; refine op_g ha rfl (g_assign rfl) ?_; clear ha a; intro a ha; refine wpList_nil ?_; replace ha := ha.sub (σ' := [(4, (.bool false))]) ⟨rfl, trivial⟩; refine e_then ?_; refine wp_ret ?_; refine e_then_ret ?_; obtain rfl := Option.some.inj hF
    exact f_ret1 ha rfl rfl ⟨rfl, hE24⟩
  replace hF := if_f hp25 hF; refine wp_skip ?_; refine e_then ?_; refine wp_seq ?_; refine wp_region_lit ?_; refine op_g ha rfl (g_assign rfl) ?_; clear ha a; intro a ha; refine wpList_nil ?_; replace ha := ha.sub (σ' := [(4, (.bool true))]) ⟨rfl, trivial⟩; refine e_then ?_; refine wp_ret ?_; obtain rfl := Option.some.inj hF
  exact f_ret1 ha rfl rfl ⟨rfl, hE24⟩
set_option maxHeartbeats 2000000 in
theorem W_laws_markInt64S {W : World} {va0 : Value} {ba0 : Int} {a0 : (List Int)} (ha0 : Ow Rp.int 2 true W [] ba0 va0 a0) {a1 : Int} (ha1 : InI a1) {r : (Int × (List Int))} (hF : F_laws_markInt64S a0 a1 = some r) :
    Calls Tryd.prog 15 [va0, .int .i64 a1].toArray W (Ret fun u w' => (u = .int .i64 r.1 ∧ InI r.1) ∧ Ow Rp.int 2 true w' [] ba0 va0 r.2 ∧ Chg (bl ba0) W w') := by
  refine f_enter Tryd.func15 rfl Tryd.ntmps15 rfl ?_
  intro a ha
  replace ha : Fr 19 [(0, va0), (1, (.int .i64 a1))] a := ha
  have hE : Chg (bl ba0) W W := Chg.refl _ _
  unfold F_laws_markInt64S at hF
  refine wp_seq ?_; refine wp_region_lit ?_; refine op_g ha rfl (g_assign rfl) ?_; clear ha a; intro a ha; refine wpList_nil ?_; replace ha := ha.sub (σ' := [(0, va0), (1, (.int .i64 a1))]) ⟨rfl, rfl, trivial⟩; refine e_then ?_; refine wp_seq ?_; refine wp_seq ?_; refine wp_region_lit ?_; refine op_g ha rfl (g_assign rfl) ?_; clear ha a; intro a ha; refine wpList_nil ?_; refine e_then ?_; obtain ⟨o85, ho86, hK87⟩ := bnd_some hF
  obtain ⟨n88, hn89⟩ := lp_some ho86; clear ho86
  refine c_loop (fun a w => ∃ (i79 : Int) (l82 : (List Int)), Fr 19 [(1, (.int .i64 i79))] a ∧ Chg (bl ba0) W w ∧ InI i79 ∧ Ow Rp.int 2 true w [] ba0 va0 l82 ∧ o85 = .inl (i79, l82)) (fun n a w => ∃ (l38 : (List Int)) (i41 : Int) (i43 : Int), Fr 19 [(0, va0), (1, (.int .i64 i41)), (5, (.int .i64 i43))] a ∧ Chg (bl ba0) W w ∧ InI i41 ∧ InI i43 ∧ Ow Rp.int 2 true w [] ba0 va0 l38 ∧ lpN (fun s => F_laws_markInt64S_l1 s.1 s.2.1 s.2.2) n (l38, i41, i43) = some o85) n88 ⟨a0, a1, 0, ha.sub ⟨rfl, rfl, rfl, trivial⟩, hE, ha1, (show InI 0 from by decide), ha0, hn89⟩ ?_ ?_
  · rintro m93 a w36 ⟨l38, i41, i43, ha, hE45, hI42, hI44, h37, hF⟩
    cases m93 with
    | zero => exact (lpN_zero hF).elim
    | succ m93 =>
      obtain ⟨z92, hF, hN91⟩ := lpN_succ hF
      have hF : F_laws_markInt64S_l1 l38 i41 i43 = some z92 := hF; unfold F_laws_markInt64S_l1 at hF
      refine wp_seq ?_; refine wp_seq ?_; refine wp_region_lit ?_; (iterate 2 refine op_g ha rfl (g_move rfl) ?_; clear ha a; intro a ha); refine op_g ha rfl (g_lenO sl31.und h37 rfl) ?_; clear ha a; intro a ha; refine op_g ha rfl (g_lss rfl rfl) ?_; clear ha a; intro a ha; refine wpList_nil ?_; replace ha := ha.sub (σ' := [(0, va0), (1, (.int .i64 i41)), (5, (.int .i64 i43)), (9, (.bool (decide (i43 < (l38.length : Int)))))]) ⟨rfl, rfl, rfl, rfl, trivial⟩; refine e_then ?_; refine c_cond (i43 < (l38.length : Int)) ha rfl (decide_eq_true_iff) (fun hp94 => ?_) (fun hp94 => ?_)
      · replace hF := if_t hp94 hF
        refine wp_skip ?_; refine e_then ?_; refine wp_seq ?_; refine wp_block ?_; refine wp_seq ?_; refine wp_region_lit ?_; (iterate 3 refine op_g ha rfl (g_move rfl) ?_; clear ha a; intro a ha); obtain ⟨x95, g96, gx97, hF⟩ := idx_some hF
        obtain ⟨p98, cs99, f100, hf101, hpb102, hat103, hr104, hi105⟩ := h37.at g96 gx97
        obtain ⟨rfl, hI106, rfl⟩ := hr104
        refine op_g ha rfl (hi105.gives sl31 rfl rfl) ?_; clear ha a; intro a ha
        refine o_storeE (f := []) (q := i41) ha Tryd.sizeOf2 rfl rfl rfl h37 hi105 ⟨rfl, hI42, rfl⟩ (Nq.nil _) ?_; intro w107 fs108 h109 hc110 hs111
        obtain rfl := Subst.nil hs111
        have hE112 := Chg.same hE45 hc110
        refine wpList_nil ?_; replace ha := ha.sub (σ' := [(0, va0), (1, (.int .i64 i41)), (5, (.int .i64 i43))]) ⟨rfl, rfl, rfl, trivial⟩; refine e_then ?_; refine wp_region_lit ?_; refine op_g ha rfl (g_move rfl) ?_; clear ha a; intro a ha; obtain ⟨hI113, hF⟩ := ck_some hF; refine op_g ha rfl (g_add rfl rfl hI113) ?_; clear ha a; intro a ha; refine op_g ha rfl (g_assign rfl) ?_; clear ha a; intro a ha; refine wpList_nil ?_; replace ha := ha.sub (σ' := [(0, va0), (1, (.int .i64 (i41 + 1))), (5, (.int .i64 i43))]) ⟨rfl, rfl, rfl, trivial⟩; refine e_blk ?_; refine e_then ?_; refine wp_region_lit ?_
        refine op_g ha rfl (g_move rfl) ?_; clear ha a; intro a ha; obtain ⟨hI115, hF⟩ := ck_some hF; refine op_g ha rfl (g_add rfl rfl hI115) ?_; clear ha a; intro a ha; refine op_g ha rfl (g_assign rfl) ?_; clear ha a; intro a ha; refine wpList_nil ?_; replace ha := ha.sub (σ' := [(0, va0), (1, (.int .i64 (i41 + 1))), (5, (.int .i64 (i43 + 1)))]) ⟨rfl, rfl, rfl, trivial⟩; refine e_lq ?_; obtain rfl := Option.some.inj hF
        exact ⟨_, Nat.lt_succ_self _, (l38.set ((i43 : Int).toNat) i41), i41 + 1, i43 + 1, ha.sub ⟨rfl, rfl, rfl, trivial⟩, hE112, hI113, hI115, h109, hN91⟩
      replace hF := if_f hp94 hF; refine wp_exit ?_; refine e_then_exit ?_; refine e_lq_eq ?_; obtain rfl := Option.some.inj hF
      exact ⟨i41, l38, ha.sub ⟨rfl, trivial⟩, hE45, hI42, h37, (LK_inr hN91).symm⟩
  rintro a w78 ⟨i79, l82, ha, hE90, hI80, h81, rfl⟩
  have hF : F_laws_markInt64S_k2 i79 l82 = some _ := hK87; clear hK87; unfold F_laws_markInt64S_k2 at hF
  refine e_then ?_; refine wp_seq ?_; refine wp_region_lit ?_; refine op_g ha rfl (g_move rfl) ?_; clear ha a; intro a ha; refine op_g ha rfl (g_assign rfl) ?_; clear ha a; intro a ha; refine wpList_nil ?_; replace ha := ha.sub (σ' := [(4, (.int .i64 i79))]) ⟨rfl, trivial⟩; refine e_then ?_; refine wp_ret ?_; obtain rfl := Option.some.inj hF
  exact f_ret1 ha rfl rfl ⟨⟨rfl, hI80⟩, h81, hE90⟩
set_option maxHeartbeats 2000000 in
theorem W_laws_markInt64SS {W : World} {va0 : Value} {ba0 : Int} {fa0 : List Nat} {a0 : (List (List Int))} (ha0 : Ow (Rp.sl 2 Rp.int) 31 true W fa0 ba0 va0 a0) (nda0 : (bl ba0 ++ fa0).Nodup) {a1 : Int} (ha1 : InI a1) {r : (Int × (List (List Int)))} (hF : F_laws_markInt64SS a0 a1 = some r) :
    Calls Tryd.prog 26 [va0, .int .i64 a1].toArray W (Ret fun u w' => (u = .int .i64 r.1 ∧ InI r.1) ∧ Ow (Rp.sl 2 Rp.int) 31 true w' fa0 ba0 va0 r.2 ∧ Chg ((bl ba0 ++ fa0)) W w') := by
  refine f_enter Tryd.func26 rfl Tryd.ntmps26 rfl ?_
  intro a ha
  replace ha : Fr 19 [(0, va0), (1, (.int .i64 a1))] a := ha
  have hE : Chg ((bl ba0 ++ fa0)) W W := Chg.refl _ _
  unfold F_laws_markInt64SS at hF
  refine wp_seq ?_; refine wp_region_lit ?_; refine op_g ha rfl (g_assign rfl) ?_; clear ha a; intro a ha; refine wpList_nil ?_; replace ha := ha.sub (σ' := [(0, va0), (1, (.int .i64 a1))]) ⟨rfl, rfl, trivial⟩; refine e_then ?_; refine wp_seq ?_; refine wp_seq ?_; refine wp_region_lit ?_; refine op_g ha rfl (g_assign rfl) ?_; clear ha a; intro a ha; refine wpList_nil ?_; refine e_then ?_; obtain ⟨o101, ho102, hK103⟩ := bnd_some hF
  obtain ⟨n104, hn105⟩ := lp_some ho102; clear ho102
  refine c_loop (fun a w => ∃ (i95 : Int) (l98 : (List (List Int))), Fr 19 [(1, (.int .i64 i95))] a ∧ Chg ((bl ba0 ++ fa0)) W w ∧ InI i95 ∧ Ow (Rp.sl 2 Rp.int) 31 true w fa0 ba0 va0 l98 ∧ o101 = .inl (i95, l98)) (fun n a w => ∃ (l46 : (List (List Int))) (i49 : Int) (i51 : Int), Fr 19 [(0, va0), (1, (.int .i64 i49)), (5, (.int .i64 i51))] a ∧ Chg ((bl ba0 ++ fa0)) W w ∧ InI i49 ∧ InI i51 ∧ Ow (Rp.sl 2 Rp.int) 31 true w fa0 ba0 va0 l46 ∧ lpN (fun s => F_laws_markInt64SS_l1 s.1 s.2.1 s.2.2) n (l46, i49, i51) = some o101) n104 ⟨a0, a1, 0, ha.sub ⟨rfl, rfl, rfl, trivial⟩, hE, ha1, (show InI 0 from by decide), ha0, hn105⟩ ?_ ?_
  · rintro m109 a w44 ⟨l46, i49, i51, ha, hE53, hI50, hI52, h45, hF⟩
    cases m109 with
    | zero => exact (lpN_zero hF).elim
    | succ m109 =>
      obtain ⟨z108, hF, hN107⟩ := lpN_succ hF
      have hF : F_laws_markInt64SS_l1 l46 i49 i51 = some z108 := hF; unfold F_laws_markInt64SS_l1 at hF
      refine wp_seq ?_; refine wp_seq ?_; refine wp_region_lit ?_; (iterate 2 refine op_g ha rfl (g_move rfl) ?_; clear ha a; intro a ha); refine op_g ha rfl (g_lenO sl22.und h45 rfl) ?_; clear ha a; intro a ha; refine op_g ha rfl (g_lss rfl rfl) ?_; clear ha a; intro a ha; refine wpList_nil ?_; replace ha := ha.sub (σ' := [(0, va0), (1, (.int .i64 i49)), (5, (.int .i64 i51)), (9, (.bool (decide (i51 < (l46.length : Int)))))]) ⟨rfl, rfl, rfl, rfl, trivial⟩; refine e_then ?_; refine c_cond (i51 < (l46.length : Int)) ha rfl (decide_eq_true_iff) (fun hp110 => ?_) (fun hp110 => ?_)
      · replace hF := if_t hp110 hF
        refine wp_skip ?_; refine e_then ?_; refine wp_seq ?_; refine wp_block ?_; refine wp_region_lit ?_; (iterate 2 refine op_g ha rfl (g_move rfl) ?_; clear ha a; intro a ha); obtain ⟨x111, g112, gx113, hF⟩ := idx_some hF
        obtain ⟨p114, cs115, f116, hf117, hpb118, hat119, hr120, hi121⟩ := h45.at g112 gx113
        replace hr120 := (Rp.sl 2 Rp.int).weak hr120
        obtain ⟨v122, rfl, h123⟩ := hr120
        have h123 : Ro Rp.int w44 f116 v122 x111 := h123
        have q125 := Nq.mono (Ow.ne h45) hf117
        refine op_g ha rfl (hi121.gives sl22 rfl rfl) ?_; clear ha a; intro a ha; refine op_g ha rfl (g_load Tryd.isAgg31 rfl hat119.one) ?_; clear ha a; intro a ha; refine op_g ha rfl (g_move rfl) ?_; clear ha a; intro a ha
        obtain ⟨b126, h127, hm128, hb129⟩ := Ow.row (k := 0) (lens_sl 2 Rp.int) scal_int h45 nda0 gx113 hi121 hat119 rfl rfl
        obtain ⟨x130, hc131, hF⟩ := cal_some hF
        refine o_call ha rfl rfl Tryd.call15 (W_laws_markInt64S h127 hI50 hc131) ?_; clear ha a; rintro v132 w133 ⟨⟨rfl, hI135⟩, h136, hx134⟩ a ha
        have h137 := hb129 w133 _ hx134 h136
        have hE138 := Chg.join hE53 hx134 (S2.par hm128)
        refine op_g ha rfl (g_assign rfl) ?_; clear ha a; intro a ha; refine wpList_nil ?_; replace ha := ha.sub (σ' := [(0, va0), (1, (.int .i64 x130.1)), (5, (.int .i64 i51))]) ⟨rfl, rfl, rfl, trivial⟩; refine e_blk ?_; refine e_then ?_; refine wp_region_lit ?_; refine op_g ha rfl (g_move rfl) ?_; clear ha a; intro a ha; obtain ⟨hI139, hF⟩ := ck_some hF; refine op_g ha rfl (g_add rfl rfl hI139) ?_; clear ha a; intro a ha; refine op_g ha rfl (g_assign rfl) ?_; clear ha a; intro a ha; refine wpList_nil ?_; replace ha := ha.sub (σ' := [(0, va0), (1, (.int .i64 x130.1)), (5, (.int .i64 (i51 + 1)))]) ⟨rfl, rfl, rfl, trivial⟩
        refine e_lq ?_; obtain rfl := Option.some.inj hF
        exact ⟨_, Nat.lt_succ_self _, (l46.set ((i51 : Int).toNat) x130.2), x130.1, i51 + 1, ha.sub ⟨rfl, rfl, rfl, trivial⟩, hE138, hI135, hI139, h137, hN107⟩
      replace hF := if_f hp110 hF; refine wp_exit ?_; refine e_then_exit ?_; refine e_lq_eq ?_; obtain rfl := Option.some.inj hF
      exact ⟨i49, l46, ha.sub ⟨rfl, trivial⟩, hE53, hI50, h45, (LK_inr hN107).symm⟩
  rintro a w94 ⟨i95, l98, ha, hE106, hI96, h97, rfl⟩
  have hF : F_laws_markInt64SS_k2 i95 l98 = some _ := hK103; clear hK103; unfold F_laws_markInt64SS_k2 at hF
  refine e_then ?_; refine wp_seq ?_; refine wp_region_lit ?_; refine op_g ha rfl (g_move rfl) ?_; clear ha a; intro a ha; refine op_g ha rfl (g_assign rfl) ?_; clear ha a; intro a ha; refine wpList_nil ?_; replace ha := ha.sub (σ' := [(4, (.int .i64 i95))]) ⟨rfl, trivial⟩; refine e_then ?_; refine wp_ret ?_; obtain rfl := Option.some.inj hF
  exact f_ret1 ha rfl rfl ⟨⟨rfl, hI96⟩, h97, hE106⟩
set_option maxHeartbeats 2000000 in
theorem W_laws_markGraph {W : World} {va0_0 : Value} {ba0_0 : Int} {fa0_0 : List Nat} {a0_0 : (List (List Int))} (ha0_0 : Ow (Rp.sl 2 Rp.int) 31 true W fa0_0 ba0_0 va0_0 a0_0) (nda0_0 : (bl ba0_0 ++ fa0_0).Nodup) {a1 : Int} (ha1 : InI a1) {r : (Int × (List (List Int)))} (hF : F_laws_markGraph a0_0 a1 = some r) :
    Calls Tryd.prog 14 [.agg #[va0_0], .int .i64 a1].toArray W (Ret fun u w' => (u = .int .i64 r.1 ∧ InI r.1) ∧ Ow (Rp.sl 2 Rp.int) 31 true w' fa0_0 ba0_0 va0_0 r.2 ∧ Chg ((bl ba0_0 ++ fa0_0)) W w') := by
  refine f_enter Tryd.func14 rfl Tryd.ntmps14 rfl ?_
  intro a ha
  replace ha : Fr 10 [(0, (.agg #[va0_0])), (1, (.int .i64 a1))] a := ha
  have hE : Chg ((bl ba0_0 ++ fa0_0)) W W := Chg.refl _ _
  unfold F_laws_markGraph at hF
  refine wp_seq ?_; refine wp_region_lit ?_
  refine o_box ha rfl rfl rfl ?_; clear ha a; intro b1 w2 hB3 hx4 hlo5 a ha
  have q6 := Zn.one hlo5
  have q7 := Nq.new ha0_0.fpb q6
  have q8 := Nq.made1 hlo5 ha0_0.blt
  have q9 := Zn.upD q6 hE
  replace ha0_0 := ha0_0.ext hx4
  have hE10 := Chg.more hE hx4
  refine op_g ha rfl (g_assign rfl) ?_; clear ha a; intro a ha; refine wpList_nil ?_; replace ha := ha.sub (σ' := [(1, (.int .i64 a1)), (2, (.pointer (some ⟨b1, 0, none⟩)))]) ⟨rfl, rfl, trivial⟩; refine e_then ?_; refine wp_seq ?_; refine wp_region_lit ?_; refine op_g ha rfl (g_field0 st27_0 rfl) ?_; clear ha a; intro a ha; refine op_g ha rfl (g_load Tryd.isAgg22 rfl (hB3.cell rfl)) ?_; clear ha a; intro a ha; refine op_g ha rfl (g_move rfl) ?_; clear ha a; intro a ha; obtain ⟨x11, hc12, hF⟩ := cal_some hF
  refine o_call ha rfl rfl Tryd.call26 (W_laws_markInt64SS ha0_0 nda0_0 ha1 hc12) ?_; clear ha a; rintro v13 w14 ⟨⟨rfl, hI16⟩, h17, hx15⟩ a ha
  have hE18 := Chg.join hE10 hx15 (S2.par (fun _ h => h))
  refine op_g ha rfl (g_assign rfl) ?_; clear ha a; intro a ha; refine wpList_nil ?_; replace ha := ha.sub (σ' := [(1, (.int .i64 x11.1))]) ⟨rfl, trivial⟩; refine e_then ?_; refine wp_seq ?_; refine wp_region_lit ?_; refine op_g ha rfl (g_move rfl) ?_; clear ha a; intro a ha; refine op_g ha rfl (g_assign rfl) ?_; clear ha a; intro a ha; refine wpList_nil ?_; replace ha := ha.sub (σ' := [(4, (.int .i64 x11.1))]) ⟨rfl, trivial⟩; refine e_then ?_; refine wp_ret ?_; obtain rfl := Option.some.inj hF
  exact f_ret1 ha rfl rfl ⟨⟨rfl, hI16⟩, h17, hE18⟩
set_option maxHeartbeats 2000000 in
theorem W_laws_heldInt64S {W : World} {va0 : Value} {fa0 : List Nat} {a0 : (List Int)} (ha0 : Ro Rp.int W fa0 va0 a0) {a1 : Int} (ha1 : InI a1) {r : Int} (hF : F_laws_heldInt64S a0 a1 = some r) :
    Calls Tryd.prog 16 [va0, .int .i64 a1].toArray W (Ret fun u w' => (u = .int .i64 r ∧ InI r) ∧ Ext W w') := by
  refine f_enter Tryd.func16 rfl Tryd.ntmps16 rfl ?_
  intro a ha
  replace ha : Fr 21 [(0, va0), (1, (.int .i64 a1))] a := ha
  have hE : Chg [] W W := Chg.refl _ _
  unfold F_laws_heldInt64S at hF
  refine wp_seq ?_; refine wp_region_lit ?_; refine op_g ha rfl (g_assign rfl) ?_; clear ha a; intro a ha; refine wpList_nil ?_; replace ha := ha.sub (σ' := [(0, va0), (1, (.int .i64 a1))]) ⟨rfl, rfl, trivial⟩; refine e_then ?_; refine wp_seq ?_; refine wp_seq ?_; refine wp_region_lit ?_; refine op_g ha rfl (g_assign rfl) ?_; clear ha a; intro a ha; refine wpList_nil ?_; refine e_then ?_; obtain ⟨o58, ho59, hK60⟩ := bnd_some hF
  obtain ⟨n61, hn62⟩ := lp_some ho59; clear ho59
  refine c_loop (fun a w => ∃ (i56 : Int), Fr 21 [(1, (.int .i64 i56))] a ∧ Chg [] W w ∧ InI i56 ∧ o58 = .inl i56) (fun n a w => ∃ (i27 : Int) (i29 : Int), Fr 21 [(0, va0), (1, (.int .i64 i27)), (5, (.int .i64 i29))] a ∧ Chg [] W w ∧ InI i27 ∧ InI i29 ∧ lpN (fun s => F_laws_heldInt64S_l1 a0 s.1 s.2) n (i27, i29) = some o58) n61 ⟨a1, 0, ha.sub ⟨rfl, rfl, rfl, trivial⟩, hE, ha1, (show InI 0 from by decide), hn62⟩ ?_ ?_
  · rintro m66 a w26 ⟨i27, i29, ha, hE31, hI28, hI30, hF⟩
    cases m66 with
    | zero => exact (lpN_zero hF).elim
    | succ m66 =>
      obtain ⟨z65, hF, hN64⟩ := lpN_succ hF
      have hF : F_laws_heldInt64S_l1 a0 i27 i29 = some z65 := hF; unfold F_laws_heldInt64S_l1 at hF
      refine wp_seq ?_; refine wp_seq ?_; refine wp_region_lit ?_; (iterate 2 refine op_g ha rfl (g_move rfl) ?_; clear ha a; intro a ha); refine op_g ha rfl (g_lenR sl31.und ha0 rfl) ?_; clear ha a; intro a ha; refine op_g ha rfl (g_lss rfl rfl) ?_; clear ha a; intro a ha; refine wpList_nil ?_; replace ha := ha.sub (σ' := [(0, va0), (1, (.int .i64 i27)), (5, (.int .i64 i29)), (9, (.bool (decide (i29 < (a0.length : Int)))))]) ⟨rfl, rfl, rfl, rfl, trivial⟩; refine e_then ?_; refine c_cond (i29 < (a0.length : Int)) ha rfl (decide_eq_true_iff) (fun hp67 => ?_) (fun hp67 => ?_)
      · replace hF := if_t hp67 hF
        refine wp_skip ?_; refine e_then ?_; refine wp_seq ?_; refine wp_block ?_; refine wp_seq ?_; refine wp_seq ?_; refine wp_region_lit ?_; (iterate 2 refine op_g ha rfl (g_move rfl) ?_; clear ha a; intro a ha); obtain ⟨x68, g69, gx70, hF⟩ := idx_some hF
        obtain ⟨p71, cs72, f73, hf74, hpb75, hat76, hr77, hi78⟩ := ha0.at g69 gx70
        obtain ⟨rfl, hI79, rfl⟩ := hr77
        refine op_g ha rfl (hi78.gives sl31 rfl rfl) ?_; clear ha a; intro a ha; refine op_g ha rfl (g_load0 hE31 Tryd.isAgg2 rfl hat76.one) ?_; clear ha a; intro a ha; refine op_g ha rfl (g_move rfl) ?_; clear ha a; intro a ha; refine op_g ha rfl (g_neq rfl rfl) ?_; clear ha a; intro a ha; refine wpList_nil ?_; replace ha := ha.sub (σ' := [(0, va0), (1, (.int .i64 i27)), (5, (.int .i64 i29)), (17, (.bool (decide (x68 ≠ i27))))]) ⟨rfl, rfl, rfl, rfl, trivial⟩; refine e_then ?_; refine c_cond (x68 ≠ i27) ha rfl (decide_eq_true_iff) (fun hp80 => ?_) (fun hp80 => ?_)
        · replace hF := if_t hp80 hF
          refine wp_seq ?_; refine wp_region_lit ?_; refine op_g ha rfl (g_assign rfl) ?_; clear ha a; intro a ha; refine wpList_nil ?_; replace ha := ha.sub (σ' := [(4, (.int .i64 (-1)))]) ⟨rfl, trivial⟩; refine e_then ?_; refine wp_ret ?_; refine e_then_ret ?_; refine e_blk_ret ?_; refine e_then_ret ?_; refine e_lq_ret ?_; refine e_then_ret ?_; obtain rfl := Option.some.inj hF
          have e81 := LK_inr hN64; subst e81
          have e82 := BK_inr hK60; subst e82
          exact f_ret1 ha rfl rfl ⟨⟨rfl, (show InI (-1) from by decide)⟩, hE31⟩
        replace hF := if_f hp80 hF; refine wp_skip ?_; refine e_then ?_; refine wp_region_lit ?_; refine op_g ha rfl (g_move rfl) ?_; clear ha a; intro a ha; obtain ⟨hI83, hF⟩ := ck_some hF; refine op_g ha rfl (g_add rfl rfl hI83) ?_; clear ha a; intro a ha; refine op_g ha rfl (g_assign rfl) ?_; clear ha a; intro a ha; refine wpList_nil ?_; replace ha := ha.sub (σ' := [(0, va0), (1, (.int .i64 (i27 + 1))), (5, (.int .i64 i29))]) ⟨rfl, rfl, rfl, trivial⟩; refine e_blk ?_; refine e_then ?_; refine wp_region_lit ?_; refine op_g ha rfl (g_move rfl) ?_; clear ha a; intro a ha; obtain ⟨hI85, hF⟩ := ck_some hF
        refine op_g ha rfl (g_add rfl rfl hI85) ?_; clear ha a; intro a ha; refine op_g ha rfl (g_assign rfl) ?_; clear ha a; intro a ha; refine wpList_nil ?_; replace ha := ha.sub (σ' := [(0, va0), (1, (.int .i64 (i27 + 1))), (5, (.int .i64 (i29 + 1)))]) ⟨rfl, rfl, rfl, trivial⟩; refine e_lq ?_; obtain rfl := Option.some.inj hF
        exact ⟨_, Nat.lt_succ_self _, i27 + 1, i29 + 1, ha.sub ⟨rfl, rfl, rfl, trivial⟩, hE31, hI83, hI85, hN64⟩
      replace hF := if_f hp67 hF; refine wp_exit ?_; refine e_then_exit ?_; refine e_lq_eq ?_; obtain rfl := Option.some.inj hF
      exact ⟨i27, ha.sub ⟨rfl, trivial⟩, hE31, hI28, (LK_inr hN64).symm⟩
  rintro a w55 ⟨i56, ha, hE63, hI57, rfl⟩
  have hF : F_laws_heldInt64S_k2 i56 = some _ := hK60; clear hK60; unfold F_laws_heldInt64S_k2 at hF
  refine e_then ?_; refine wp_seq ?_; refine wp_region_lit ?_; refine op_g ha rfl (g_move rfl) ?_; clear ha a; intro a ha; refine op_g ha rfl (g_assign rfl) ?_; clear ha a; intro a ha; refine wpList_nil ?_; replace ha := ha.sub (σ' := [(4, (.int .i64 i56))]) ⟨rfl, trivial⟩; refine e_then ?_; refine wp_ret ?_; obtain rfl := Option.some.inj hF
  exact f_ret1 ha rfl rfl ⟨⟨rfl, hI57⟩, hE63⟩
end Go.Proofs.YtkhaolpofeehoaaDoor
