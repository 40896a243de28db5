/- Walks, printed by gen.py. -/
import Derived.Test.YtadagcgehcpelaaDoorF
import Derived.Test.YtadagcgehcpelaaDoorW3
import Derived.Test.YtadagcgehcpelaaDoorProg
import Derived.KernelRfl
set_option maxRecDepth 100000
namespace Go.Proofs.YtadagcgehcpelaaDoor
open Go Go.RowKit

set_option maxHeartbeats 2000000 in
theorem W_laws_heldInt64S {W : World} {va0 : Value} {fa0 : List Nat} {a0 : (List Int)} (ha0 : Ro Rp.int W fa0 va0 a0) {a1 : Int} (ha1 : InI a1) {r : Int} (hF : F_laws_heldInt64S a0 a1 = some r) :
    Calls Tryd.prog 16 [va0, .int .i64 a1].toArray W (Ret fun u w' => (u = .int .i64 r ∧ InI r) ∧ Ext W w') := by
  refine f_enter Tryd.func16 rfl Tryd.ntmps16 rfl ?_
  intro a ha
  replace ha : Fr 21 [(0, va0), (1, (.int .i64 a1))] a := ha
  have hE : Chg [] W W := Chg.refl _ _
  unfold F_laws_heldInt64S at hF
  refine wp_seq ?_; refine wp_region_lit ?_; refine op_g ha rfl (g_assign rfl) ?_; clear ha a; intro a ha; refine wpList_nil ?_; replace ha := ha.sub (σ' := [(0, va0), (1, (.int .i64 a1))]) ⟨rfl, rfl, trivial⟩; refine e_then ?_; refine wp_seq ?_; refine wp_seq ?_; refine wp_region_lit ?_; refine op_g ha rfl (g_assign rfl) ?_; clear ha a; intro a ha; refine wpList_nil ?_; refine e_then ?_; obtain ⟨o58, ho59, hK60⟩ := bnd_some hF
  obtain ⟨n61, hn62⟩ := lp_some ho59; clear ho59
  refine c_loop (fun a w => ∃ (i56 : Int), Fr 21 [(1, (.int .i64 i56))] a ∧ Chg [] W w ∧ InI i56 ∧ o58 = .inl i56) (fun n a w => ∃ (i27 : Int) (i29 : Int), Fr 21 [(0, va0), (1, (.int .i64 i27)), (5, (.int .i64 i29))] a ∧ Chg [] W w ∧ InI i27 ∧ InI i29 ∧ lpN (fun s => F_laws_heldInt64S_l1 a0 s.1 s.2) n (i27, i29) = some o58) n61 ⟨a1, 0, ha.sub ⟨rfl, rfl, rfl, trivial⟩, hE, ha1, (show InI 0 from by decide), hn62⟩ ?_ ?_
  · rintro m66 a w26 ⟨i27, i29, ha, hE31, hI28, hI30, hF⟩
    cases m66 with
    | zero => exact (lpN_zero hF).elim
    | succ m66 =>
      obtain ⟨z65, hF, hN64⟩ := lpN_succ hF
      have hF : F_laws_heldInt64S_l1 a0 i27 i29 = some z65 := hF; unfold F_laws_heldInt64S_l1 at hF
      refine wp_seq ?_; refine wp_seq ?_; refine wp_region_lit ?_; (iterate 2 refine op_g ha rfl (g_move rfl) ?_; clear ha a; intro a ha); refine op_g ha rfl (g_lenR sl29.und ha0 rfl) ?_; clear ha a; intro a ha; refine op_g ha rfl (g_lss rfl rfl) ?_; clear ha a; intro a ha; refine wpList_nil ?_; replace ha := ha.sub (σ' := [(0, va0), (1, (.int .i64 i27)), (5, (.int .i64 i29)), (9, (.bool (decide (i29 < (a0.length : Int)))))]) ⟨rfl, rfl, rfl, rfl, trivial⟩; refine e_then ?_; refine c_cond (i29 < (a0.length : Int)) ha rfl (decide_eq_true_iff) (fun hp67 => ?_) (fun hp67 => ?_)
      · replace hF := if_t hp67 hF
        refine wp_skip ?_; refine e_then ?_; refine wp_seq ?_; refine wp_block ?_; refine wp_seq ?_; refine wp_seq ?_; refine wp_region_lit ?_; (iterate 2 refine op_g ha rfl (g_move rfl) ?_; clear ha a; intro a ha); obtain ⟨x68, g69, gx70, hF⟩ := idx_some hF
        obtain ⟨p71, cs72, f73, hf74, hpb75, hat76, hr77, hi78⟩ := ha0.at g69 gx70
        obtain ⟨rfl, hI79, rfl⟩ := hr77
        refine op_g ha rfl (hi78.gives sl29 rfl rfl) ?_; clear ha a; intro a ha; refine op_g ha rfl (g_load0 hE31 Tryd.isAgg2 rfl hat76.one) ?_; clear ha a; intro a ha; refine op_g ha rfl (g_move rfl) ?_; clear ha a; intro a ha; refine op_g ha rfl (g_neq rfl rfl) ?_; clear ha a; intro a ha; refine wpList_nil ?_; replace ha := ha.sub (σ' := [(0, va0), (1, (.int .i64 i27)), (5, (.int .i64 i29)), (17, (.bool (decide (x68 ≠ i27))))]) ⟨rfl, rfl, rfl, rfl, trivial⟩; refine e_then ?_; refine c_cond (x68 ≠ i27) ha rfl (decide_eq_true_iff) (fun hp80 => ?_) (fun hp80 => ?_)
        · replace hF := if_t hp80 hF
          refine wp_seq ?_; refine wp_region_lit ?_; refine op_g ha rfl (g_assign rfl) ?_; clear ha a; intro a ha; refine wpList_nil ?_; replace ha := ha.sub (σ' := [(4, (.int .i64 (-1)))]) ⟨rfl, trivial⟩; refine e_then ?_; refine wp_ret ?_; refine e_then_ret ?_; refine e_blk_ret ?_; refine e_then_ret ?_; refine e_lq_ret ?_; refine e_then_ret ?_; obtain rfl := Option.some.inj hF
          have e81 := LK_inr hN64; subst e81
          have e82 := BK_inr hK60; subst e82
          exact f_ret1 ha rfl rfl ⟨⟨rfl, (show InI (-1) from by decide)⟩, hE31⟩
        replace hF := if_f hp80 hF; refine wp_skip ?_; refine e_then ?_; refine wp_region_lit ?_; refine op_g ha rfl (g_move rfl) ?_; clear ha a; intro a ha; obtain ⟨hI83, hF⟩ := ck_some hF; refine op_g ha rfl (g_add rfl rfl hI83) ?_; clear ha a; intro a ha; refine op_g ha rfl (g_assign rfl) ?_; clear ha a; intro a ha; refine wpList_nil ?_; replace ha := ha.sub (σ' := [(0, va0), (1, (.int .i64 (i27 + 1))), (5, (.int .i64 i29))]) ⟨rfl, rfl, rfl, trivial⟩; refine e_blk ?_; refine e_then ?_; refine wp_region_lit ?_; refine op_g ha rfl (g_move rfl) ?_; clear ha a; intro a ha; obtain ⟨hI85, hF⟩ := ck_some hF
        refine op_g ha rfl (g_add rfl rfl hI85) ?_; clear ha a; intro a ha; refine op_g ha rfl (g_assign rfl) ?_; clear ha a; intro a ha; refine wpList_nil ?_; replace ha := ha.sub (σ' := [(0, va0), (1, (.int .i64 (i27 + 1))), (5, (.int .i64 (i29 + 1)))]) ⟨rfl, rfl, rfl, trivial⟩; refine e_lq ?_; obtain rfl := Option.some.inj hF
        exact ⟨_, Nat.lt_succ_self _, i27 + 1, i29 + 1, ha.sub ⟨rfl, rfl, rfl, trivial⟩, hE31, hI83, hI85, hN64⟩
      replace hF := if_f hp67 hF; refine wp_exit ?_; refine e_then_exit ?_; refine e_lq_eq ?_; obtain rfl := Option.some.inj hF
      exact ⟨i27, ha.sub ⟨rfl, trivial⟩, hE31, hI28, (LK_inr hN64).symm⟩
  rintro a w55 ⟨i56, ha, hE63, hI57, rfl⟩
  have hF : F_laws_heldInt64S_k2 i56 = some _ := hK60; clear hK60; unfold F_laws_heldInt64S_k2 at hF
  refine e_then ?_; refine wp_seq ?_; refine wp_region_lit ?_; refine op_g ha rfl (g_move rfl) ?_; clear ha a; intro a ha; refine op_g ha rfl (g_assign rfl) ?_; clear ha a; intro a ha; refine wpList_nil ?_; replace ha := ha.sub (σ' := [(4, (.int .i64 i56))]) ⟨rfl, trivial⟩; refine e_then ?_; refine wp_ret ?_; obtain rfl := Option.some.inj hF
  exact f_ret1 ha rfl rfl ⟨⟨rfl, hI57⟩, hE63⟩
set_option maxHeartbeats 2000000 in
theorem W_laws_FnExactOrderBy {W : World} {va0_0 : Value} {fa0_0 : List Nat} {a0_0 : (List (List Int))} (ha0_0 : Ro (Rp.sl 2 Rp.int) W fa0_0 va0_0 a0_0) {va1_0 : Value} {fa1_0 : List Nat} {a1_0 : (List (List Int))} (ha1_0 : Ro (Rp.sl 2 Rp.int) W fa1_0 va1_0 a1_0) {va1_1 : Value} {fa1_1 : List Nat} {a1_1 : (List (List Int))} (ha1_1 : Ro (Rp.sl 2 Rp.int) W fa1_1 va1_1 a1_1) (hG : GT 0 W) {r : Bool} (hF : F_laws_FnExactOrderBy a0_0 a1_0 a1_1 = some r) :
    Calls Tryd.prog 3 [.agg #[va0_0], .agg #[va1_0, va1_1]].toArray W (Ret fun u w' => u = .bool r ∧ Ext W w') := by
  refine f_enter Tryd.func3 rfl Tryd.ntmps3 rfl ?_
  intro a ha
  replace ha : Fr 92 [(0, (.agg #[va0_0])), (1, (.agg #[va1_0, va1_1]))] a := ha
  have hE : Chg [] W W := Chg.refl _ _
  unfold F_laws_FnExactOrderBy at hF
  refine wp_seq ?_; refine wp_region_lit ?_
  refine o_box ha rfl rfl rfl ?_; clear ha a; intro b1 w2 hB3 hx4 hlo5 a ha
  have q6 := Zn.one hlo5
  have q7 := Zn.upD q6 hE
  have hE8 := Ext.trans hE hx4
  refine o_box ha rfl rfl rfl ?_; clear ha a; intro b9 w10 hB11 hx12 hlo13 a ha
  have q14 := Zn.one hlo13
  have q15 := Nq.new hB3.fpb q14
  have q16 := Nq.made1 hlo13 hB3.bi
  have q17 := Zn.upD q14 hE8
  replace hB3 := hB3.ext hx12
  have hE18 := Ext.trans hE8 hx12
  refine op_g ha rfl (g_assign rfl) ?_; clear ha a; intro a ha; refine wpList_nil ?_; replace ha := ha.sub (σ' := [(2, (.pointer (some ⟨b1, 0, none⟩))), (3, (.pointer (some ⟨b9, 0, none⟩)))]) ⟨rfl, rfl, trivial⟩; refine e_then ?_; refine wp_seq ?_; refine wp_region_lit ?_; refine op_g ha rfl (g_assign rfl) ?_; clear ha a; intro a ha; refine wpList_nil ?_; refine e_then ?_; refine wp_seq ?_; refine wp_region_lit ?_; refine op_g ha rfl (g_loadA (cs := [va0_0]) Tryd.isAgg24 Tryd.sizeOf24 rfl (by simp) hB3.all) ?_; clear ha a; intro a ha; refine op_g ha rfl (g_move rfl) ?_; clear ha a; intro a ha; obtain ⟨x19, hc20, hF⟩ := cal_some hF
  refine o_call ha rfl rfl Tryd.call4 (W_laws_szGraph (ha0_0.ext hE18) (show InI 1048576 from by decide) hc20) ?_; clear ha a; rintro v21 w22 ⟨⟨rfl, hI24⟩, hx23⟩ a ha
  replace hB3 := hB3.ext hx23
  replace hB11 := hB11.ext hx23
  have hE25 := Ext.trans hE18 hx23
  refine op_g ha rfl (g_assign rfl) ?_; clear ha a; intro a ha; refine wpList_nil ?_; replace ha := ha.sub (σ' := [(2, (.pointer (some ⟨b1, 0, none⟩))), (3, (.pointer (some ⟨b9, 0, none⟩))), (5, (.int .i64 x19))]) ⟨rfl, rfl, rfl, trivial⟩; refine e_then ?_; refine wp_seq ?_; refine wp_seq ?_; refine wp_region_lit ?_; refine op_g ha rfl (g_move rfl) ?_; clear ha a; intro a ha; refine op_g ha rfl (g_lss rfl rfl) ?_; clear ha a; intro a ha; refine wpList_nil ?_; replace ha := ha.sub (σ' := [(2, (.pointer (some ⟨b1, 0, none⟩))), (3, (.pointer (some ⟨b9, 0, none⟩))), (5, (.int .i64 x19)), (18, (.bool (decide (x19 < 0))))]) ⟨rfl, rfl, rfl, rfl, trivial⟩
  refine e_then ?_; refine c_cond (x19 < 0) ha rfl (decide_eq_true_iff) (fun hp26 => ?_) (fun hp26 => ?_)
  · replace hF := if_t hp26 hF
    refine wp_seq ?_; refine wp_region_lit ?_; refine op_g ha rfl (g_assign rfl) ?_; clear ha a; intro a ha; refine wpList_nil ?_; replace ha := ha.sub (σ' := [(4, (.bool true))]) ⟨rfl, trivial⟩; refine e_then ?_; refine wp_ret ?_; refine e_then_ret ?_; obtain rfl := Option.some.inj hF
    exact f_ret1 ha rfl rfl ⟨rfl, hE25⟩
  replace hF := if_f hp26 hF; refine wp_skip ?_; refine e_then ?_; refine wp_seq ?_; refine wp_region_lit ?_; refine op_g ha rfl (g_loadA (cs := [va1_0, va1_1]) Tryd.isAgg26 Tryd.sizeOf26 rfl (by simp) hB11.all) ?_; clear ha a; intro a ha; refine op_g ha rfl (g_move rfl) ?_; clear ha a; intro a ha; obtain ⟨x27, hc28, hF⟩ := cal_some hF
  refine o_call ha rfl rfl Tryd.call5 (W_laws_szDecomp (ha1_0.ext hE25) (ha1_1.ext hE25) hI24 hc28) ?_; clear ha a; rintro v29 w30 ⟨⟨rfl, hI32⟩, hx31⟩ a ha
  replace hB3 := hB3.ext hx31
  replace hB11 := hB11.ext hx31
  have hE33 := Ext.trans hE25 hx31
  refine op_g ha rfl (g_assign rfl) ?_; clear ha a; intro a ha; refine wpList_nil ?_; replace ha := ha.sub (σ' := [(2, (.pointer (some ⟨b1, 0, none⟩))), (3, (.pointer (some ⟨b9, 0, none⟩))), (5, (.int .i64 x27))]) ⟨rfl, rfl, rfl, trivial⟩; refine e_then ?_; refine wp_seq ?_; refine wp_seq ?_; refine wp_region_lit ?_; refine op_g ha rfl (g_move rfl) ?_; clear ha a; intro a ha; refine op_g ha rfl (g_lss rfl rfl) ?_; clear ha a; intro a ha; refine wpList_nil ?_; replace ha := ha.sub (σ' := [(2, (.pointer (some ⟨b1, 0, none⟩))), (3, (.pointer (some ⟨b9, 0, none⟩))), (23, (.bool (decide (x27 < 0))))]) ⟨rfl, rfl, rfl, trivial⟩
  refine e_then ?_; refine c_cond (x27 < 0) ha rfl (decide_eq_true_iff) (fun hp34 => ?_) (fun hp34 => ?_)
  · replace hF := if_t hp34 hF
    refine wp_seq ?_; refine wp_region_lit ?_; refine op_g ha rfl (g_assign rfl) ?_; clear ha a; intro a ha; refine wpList_nil ?_; replace ha := ha.sub (σ' := [(4, (.bool true))]) ⟨rfl, trivial⟩; refine e_then ?_; refine wp_ret ?_; refine e_then_ret ?_; obtain rfl := Option.some.inj hF
    exact f_ret1 ha rfl rfl ⟨rfl, hE33⟩
  replace hF := if_f hp34 hF; refine wp_skip ?_; refine e_then ?_; refine wp_seq ?_; refine d_region [0, 1, 2, 3, 4, 5] hmix ?_; refine u_g 0 rfl (by kernel_rfl) (want0 _) ha rfl (g_loadA (cs := [va0_0]) Tryd.isAgg24 Tryd.sizeOf24 rfl (by simp) hB3.all) ?_; clear ha a; intro a ha; refine u_g 2 rfl (by kernel_rfl) (want0 _) ha rfl (g_loadA (cs := [va1_0, va1_1]) Tryd.isAgg26 Tryd.sizeOf26 rfl (by simp) hB11.all) ?_; clear ha a; intro a ha
  refine u_only 1 rfl (by kernel_rfl) ?_; intro w35 hx36
  replace hB3 := hB3.ext hx36
  replace hB11 := hB11.ext hx36
  have hE37 := Ext.trans hE33 hx36
  obtain ⟨x38, hc39, hF⟩ := cal_some hF
  refine o_call ha rfl rfl Tryd.call7 (W_laws_toGraph (ha0_0.ext hE37) hc39) ?_; clear ha a; rintro v40 w41 ⟨u43, b44, fs48, rfl, h45, z46, zf49, nd50, hx42⟩ a ha
  have q51 := Nq.new hB3.fpb z46
  have q52 := Nq.madeF z46 zf49 hB3.bi
  have q53 := Nq.new hB11.fpb z46
  have q54 := Nq.madeF z46 zf49 hB11.bi
  have q55 := Nf.new hB3.fpb zf49
  have q56 := Nf.new hB11.fpb zf49
  replace hB3 := hB3.ext hx42
  replace hB11 := hB11.ext hx42
  have hE57 := Ext.trans hE37 hx42
  have q58 := Zn.upD z46 hE37
  have q59 := zf_up zf49 hE37
  refine wpList_nil (e_sq ?_)
  refine ⟨fun _ => hx42, ?_⟩
  refine u_only 3 rfl (by kernel_rfl) ?_; intro w60 hx61
  replace hB3 := hB3.ext hx61
  replace hB11 := hB11.ext hx61
  replace h45 := h45.ext hx61
  have hE62 := Ext.trans hE57 hx61
  obtain ⟨x63, hc64, hF⟩ := cal_some hF
  refine o_call ha rfl rfl Tryd.call8 (W_laws_toDecomp (ha1_0.ext hE62) (ha1_1.ext hE62) hc64) ?_; clear ha a; rintro v65 w66 ⟨u68, u69, b70, fs74, b77, fs81, rfl, h71, z72, zf75, nd76, h78, z79, zf82, nd83, q84, q85, q86, q87, hx67⟩ a ha
  have q88 := Nq.new hB3.fpb z72
  have q89 := Nq.madeF z72 zf75 hB3.bi
  have q90 := Nq.new hB11.fpb z72
  have q91 := Nq.madeF z72 zf75 hB11.bi
  have q92 := Nq.new h45.fpb z72
  have q93 := Nq.madeF z72 zf75 h45.blt
  have q94 := Nq.new hB3.fpb z79
  have q95 := Nq.madeF z79 zf82 hB3.bi
  have q96 := Nq.new hB11.fpb z79
  have q97 := Nq.madeF z79 zf82 hB11.bi
  have q98 := Nq.new h45.fpb z79
  have q99 := Nq.madeF z79 zf82 h45.blt
  have q100 := Nf.new hB3.fpb zf75
  have q101 := Nf.new hB11.fpb zf75
  have q102 := Nf.new h45.fpb zf75
  have q103 := Nf.old z72 zf75 h45.bnd
  have q104 := Nf.new hB3.fpb zf82
  have q105 := Nf.new hB11.fpb zf82
  have q106 := Nf.new h45.fpb zf82
  have q107 := Nf.old z79 zf82 h45.bnd
  replace hB3 := hB3.ext hx67
  replace hB11 := hB11.ext hx67
  replace h45 := h45.ext hx67
  have hE108 := Ext.trans hE62 hx67
  have q109 := Zn.upD z72 hE62
  have q110 := zf_up zf75 hE62
  have q111 := Zn.upD z79 hE62
  have q112 := zf_up zf82 hE62
  refine wpList_nil (e_sq ?_)
  refine ⟨fun _ => hx67, ?_⟩
  refine u_only 4 rfl (by kernel_rfl) ?_; intro w113 hx114
  replace hB3 := hB3.ext hx114
  replace hB11 := hB11.ext hx114
  replace h45 := h45.ext hx114
  replace h71 := h71.ext hx114
  replace h78 := h78.ext hx114
  have hE115 := Ext.trans hE108 hx114
  obtain ⟨fp116, hro117, hs118⟩ := h45.roF
  obtain ⟨fp119, hro120, hs121⟩ := h71.roF
  obtain ⟨fp122, hro123, hs124⟩ := h78.roF
  obtain ⟨x125, hc126, hF⟩ := cal_some hF
  refine o_call ha rfl rfl Tryd.call6 (W_spec_OrderBy hro117 hro120 hro123 hc126) ?_; clear ha a; rintro v127 w128 ⟨b130, h131, z132, hx129⟩ a ha
  have q134 := Nq.new hB3.fpb z132
  have q135 := Nq.madeO z132 hB3.bi
  have q136 := Nq.new hB11.fpb z132
  have q137 := Nq.madeO z132 hB11.bi
  have q138 := Nq.new h45.fpb z132
  have q139 := Nq.madeO z132 h45.blt
  have q140 := Nq.new h71.fpb z132
  have q141 := Nq.madeO z132 h71.blt
  have q142 := Nq.new h78.fpb z132
  have q143 := Nq.madeO z132 h78.blt
  have q144 := Nf.old z132 (zf_nil _) h45.bnd
  have q145 := Nf.old z132 (zf_nil _) h71.bnd
  have q146 := Nf.old z132 (zf_nil _) h78.bnd
  replace hB3 := hB3.ext hx129
  replace hB11 := hB11.ext hx129
  replace h45 := h45.ext hx129
  replace h71 := h71.ext hx129
  replace h78 := h78.ext hx129
  have hE147 := Ext.trans hE115 hx129
  have q148 := Zn.upD z132 hE115
  refine wpList_nil (e_sq ?_)
  refine ⟨fun _ => hx129, ?_⟩
  refine u_g 5 rfl (by kernel_rfl) (want0 _) ha rfl (g_assign rfl) ?_; clear ha a; intro a ha
  refine u_done (by kernel_rfl) ?_; intro w149 hx150
  replace hB3 := hB3.ext hx150
  replace hB11 := hB11.ext hx150
  replace h45 := h45.ext hx150
  replace h71 := h71.ext hx150
  replace h78 := h78.ext hx150
  replace h131 := h131.ext hx150
  have hE151 := Ext.trans hE147 hx150
  replace ha := ha.sub (σ' := [(2, (.pointer (some ⟨b1, 0, none⟩))), (3, (.pointer (some ⟨b9, 0, none⟩))), (6, v127)]) ⟨rfl, rfl, rfl, trivial⟩; refine e_then ?_; refine wp_seq ?_; refine wp_region_lit ?_; refine op_g ha rfl (g_loadA (cs := [va0_0]) Tryd.isAgg24 Tryd.sizeOf24 rfl (by simp) hB3.all) ?_; clear ha a; intro a ha; obtain ⟨x152, hc153, hF⟩ := cal_some hF
  refine o_call ha rfl rfl Tryd.call7 (W_laws_toGraph (ha0_0.ext hE151) hc153) ?_; clear ha a; rintro v154 w155 ⟨u157, b158, fs162, rfl, h159, z160, zf163, nd164, hx156⟩ a ha
  have q165 := Nq.new hB3.fpb z160
  have q166 := Nq.madeF z160 zf163 hB3.bi
  have q167 := Nq.new hB11.fpb z160
  have q168 := Nq.madeF z160 zf163 hB11.bi
  have q169 := Nq.new h131.fpb z160
  have q170 := Nq.madeF z160 zf163 h131.blt
  have q171 := Nf.new hB3.fpb zf163
  have q172 := Nf.new hB11.fpb zf163
  have q173 := Nf.new h131.fpb zf163
  replace hB3 := hB3.ext hx156
  replace hB11 := hB11.ext hx156
  replace h131 := h131.ext hx156
  have hE174 := Ext.trans hE151 hx156
  have q175 := Zn.upD z160 hE151
  have q176 := zf_up zf163 hE151
  refine o_alloc (cs := [(.slice none 0 0)]) ha rfl Tryd.zeroValue31 rfl ?_; clear ha a; intro b177 w178 hB179 hx180 hlo181 a ha
  have q182 := Zn.one hlo181
  have q183 := Nq.new hB3.fpb q182
  have q184 := Nq.made1 hlo181 hB3.bi
  have q185 := Nq.new hB11.fpb q182
  have q186 := Nq.made1 hlo181 hB11.bi
  have q187 := Nq.new h131.fpb q182
  have q188 := Nq.made1 hlo181 h131.blt
  have q189 := Nq.new h159.fpb q182
  have q190 := Nq.made1 hlo181 h159.blt
  have q191 := Nf.old1 q182 h159.bnd
  have q192 := Zn.upD q182 hE174
  replace hB3 := hB3.ext hx180
  replace hB11 := hB11.ext hx180
  replace h131 := h131.ext hx180
  replace h159 := h159.ext hx180
  have hE193 := Ext.trans hE174 hx180
  refine o_storeA (vs := [u157]) ha hB179 Tryd.sizeOf31 rfl rfl (by intro c hc; simp only [List.mem_cons, List.not_mem_nil, or_false] at hc; rcases hc with hc <;> subst hc <;> first | rfl | exact h159.oneC) rfl ?_; intro w194 hB195 hc196
  replace hc196 := hc196.bl
  replace hB195 : Bx w194 b177 [u157] 31 := hB195
  replace hB3 := hB3.nq hc196 q183
  replace hB11 := hB11.nq hc196 q185
  replace h131 := h131.nq hc196 q187
  replace h159 := h159.nq hc196 q189
  have hE197 := Ext.then hE193 hc196 (Zn.bl q192)
  refine wpList_nil ?_; replace ha := ha.sub (σ' := [(2, (.pointer (some ⟨b1, 0, none⟩))), (3, (.pointer (some ⟨b9, 0, none⟩))), (6, v127), (7, (.pointer (some ⟨b177, 0, none⟩)))]) ⟨rfl, rfl, rfl, rfl, trivial⟩; refine e_then ?_; refine wp_seq ?_; refine wp_region_lit ?_; refine op_g ha rfl (g_loadA (cs := [va1_0, va1_1]) Tryd.isAgg26 Tryd.sizeOf26 rfl (by simp) hB11.all) ?_; clear ha a; intro a ha; obtain ⟨x198, hc199, hF⟩ := cal_some hF
  refine o_call ha rfl rfl Tryd.call8 (W_laws_toDecomp (ha1_0.ext hE197) (ha1_1.ext hE197) hc199) ?_; clear ha a; rintro v200 w201 ⟨u203, u204, b205, fs209, b212, fs216, rfl, h206, z207, zf210, nd211, h213, z214, zf217, nd218, q219, q220, q221, q222, hx202⟩ a ha
  have q223 := Nq.new hB3.fpb z207
  have q224 := Nq.madeF z207 zf210 hB3.bi
  have q225 := Nq.new hB11.fpb z207
  have q226 := Nq.madeF z207 zf210 hB11.bi
  have q227 := Nq.new h131.fpb z207
  have q228 := Nq.madeF z207 zf210 h131.blt
  have q229 := Nq.new h159.fpb z207
  have q230 := Nq.madeF z207 zf210 h159.blt
  have q231 := Nq.new hB195.fpb z207
  have q232 := Nq.madeF z207 zf210 hB195.bi
  have q233 := Nq.new hB3.fpb z214
  have q234 := Nq.madeF z214 zf217 hB3.bi
  have q235 := Nq.new hB11.fpb z214
  have q236 := Nq.madeF z214 zf217 hB11.bi
  have q237 := Nq.new h131.fpb z214
  have q238 := Nq.madeF z214 zf217 h131.blt
  have q239 := Nq.new h159.fpb z214
  have q240 := Nq.madeF z214 zf217 h159.blt
  have q241 := Nq.new hB195.fpb z214
  have q242 := Nq.madeF z214 zf217 hB195.bi
  have q243 := Nf.new hB3.fpb zf210
  have q244 := Nf.new hB11.fpb zf210
  have q245 := Nf.new h131.fpb zf210
  have q246 := Nf.new h159.fpb zf210
  have q247 := Nf.old z207 zf210 h159.bnd
  have q248 := Nf.new hB195.fpb zf210
  have q249 := Nf.new hB3.fpb zf217
  have q250 := Nf.new hB11.fpb zf217
  have q251 := Nf.new h131.fpb zf217
  have q252 := Nf.new h159.fpb zf217
  have q253 := Nf.old z214 zf217 h159.bnd
  have q254 := Nf.new hB195.fpb zf217
  replace hB3 := hB3.ext hx202
  replace hB11 := hB11.ext hx202
  replace h131 := h131.ext hx202
  replace h159 := h159.ext hx202
  replace hB195 := hB195.ext hx202
  have hE255 := Ext.trans hE197 hx202
  have q256 := Zn.upD z207 hE197
  have q257 := zf_up zf210 hE197
  have q258 := Zn.upD z214 hE197
  have q259 := zf_up zf217 hE197
  refine o_alloc (cs := [(.slice none 0 0), (.slice none 0 0)]) ha rfl Tryd.zeroValue33 rfl ?_; clear ha a; intro b260 w261 hB262 hx263 hlo264 a ha
  have q265 := Zn.one hlo264
  have q266 := Nq.new hB3.fpb q265
  have q267 := Nq.made1 hlo264 hB3.bi
  have q268 := Nq.new hB11.fpb q265
  have q269 := Nq.made1 hlo264 hB11.bi
  have q270 := Nq.new h131.fpb q265
  have q271 := Nq.made1 hlo264 h131.blt
  have q272 := Nq.new h159.fpb q265
  have q273 := Nq.made1 hlo264 h159.blt
  have q274 := Nf.old1 q265 h159.bnd
  have q275 := Nq.new hB195.fpb q265
  have q276 := Nq.made1 hlo264 hB195.bi
  have q277 := Nq.new h206.fpb q265
  have q278 := Nq.made1 hlo264 h206.blt
  have q279 := Nf.old1 q265 h206.bnd
  have q280 := Nq.new h213.fpb q265
  have q281 := Nq.made1 hlo264 h213.blt
  have q282 := Nf.old1 q265 h213.bnd
  have q283 := Zn.upD q265 hE255
  replace hB3 := hB3.ext hx263
  replace hB11 := hB11.ext hx263
  replace h131 := h131.ext hx263
  replace h159 := h159.ext hx263
  replace hB195 := hB195.ext hx263
  replace h206 := h206.ext hx263
  replace h213 := h213.ext hx263
  have hE284 := Ext.trans hE255 hx263
  refine o_storeA (vs := [u203, u204]) ha hB262 Tryd.sizeOf33 rfl rfl (by intro c hc; simp only [List.mem_cons, List.not_mem_nil, or_false] at hc; rcases hc with hc | hc <;> subst hc <;> first | rfl | exact h206.oneC | exact h213.oneC) rfl ?_; intro w285 hB286 hc287
  replace hc287 := hc287.bl
  replace hB286 : Bx w285 b260 [u203, u204] 33 := hB286
  replace hB3 := hB3.nq hc287 q266
  replace hB11 := hB11.nq hc287 q268
  replace h131 := h131.nq hc287 q270
  replace h159 := h159.nq hc287 q272
  replace hB195 := hB195.nq hc287 q275
  replace h206 := h206.nq hc287 q277
  replace h213 := h213.nq hc287 q280
  have hE288 := Ext.then hE284 hc287 (Zn.bl q283)
  refine wpList_nil ?_; replace ha := ha.sub (σ' := [(2, (.pointer (some ⟨b1, 0, none⟩))), (3, (.pointer (some ⟨b9, 0, none⟩))), (6, v127), (7, (.pointer (some ⟨b177, 0, none⟩))), (8, (.pointer (some ⟨b260, 0, none⟩)))]) ⟨rfl, rfl, rfl, rfl, rfl, trivial⟩; refine e_then ?_; refine wp_seq ?_; refine wp_region_lit ?_; refine op_g ha rfl (g_loadA (cs := [u157]) Tryd.isAgg31 Tryd.sizeOf31 rfl (by simp) hB195.all) ?_; clear ha a; intro a ha; refine op_g ha rfl (g_loadA (cs := [u203, u204]) Tryd.isAgg33 Tryd.sizeOf33 rfl (by simp) hB286.all) ?_; clear ha a; intro a ha
  obtain ⟨fp289, hro290, hs291⟩ := h159.roF
  obtain ⟨fp292, hro293, hs294⟩ := h206.roF
  obtain ⟨fp295, hro296, hs297⟩ := h213.roF
  obtain ⟨x298, hc299, hF⟩ := cal_some hF
  refine o_call ha rfl rfl Tryd.call9 (W_impl_OrderBy hro290 hro293 hro296 (hG.ext hE288) hc299) ?_; clear ha a; rintro v300 w301 ⟨b303, h304, z305, hx302⟩ a ha
  have q307 := Nq.new hB3.fpb z305
  have q308 := Nq.madeO z305 hB3.bi
  have q309 := Nq.new hB11.fpb z305
  have q310 := Nq.madeO z305 hB11.bi
  have q311 := Nq.new h131.fpb z305
  have q312 := Nq.madeO z305 h131.blt
  have q313 := Nq.new h159.fpb z305
  have q314 := Nq.madeO z305 h159.blt
  have q315 := Nq.new hB195.fpb z305
  have q316 := Nq.madeO z305 hB195.bi
  have q317 := Nq.new h206.fpb z305
  have q318 := Nq.madeO z305 h206.blt
  have q319 := Nq.new h213.fpb z305
  have q320 := Nq.madeO z305 h213.blt
  have q321 := Nq.new hB286.fpb z305
  have q322 := Nq.madeO z305 hB286.bi
  have q323 := Nf.old z305 (zf_nil _) h159.bnd
  have q324 := Nf.old z305 (zf_nil _) h206.bnd
  have q325 := Nf.old z305 (zf_nil _) h213.bnd
  replace hB3 := hB3.ext hx302
  replace hB11 := hB11.ext hx302
  replace h131 := h131.ext hx302
  replace h159 := h159.ext hx302
  replace hB195 := hB195.ext hx302
  replace h206 := h206.ext hx302
  replace h213 := h213.ext hx302
  replace hB286 := hB286.ext hx302
  have hE326 := Ext.trans hE288 hx302
  have q327 := Zn.upD z305 hE288
  refine op_g ha rfl (g_assign rfl) ?_; clear ha a; intro a ha; refine wpList_nil ?_; replace ha := ha.sub (σ' := [(2, (.pointer (some ⟨b1, 0, none⟩))), (3, (.pointer (some ⟨b9, 0, none⟩))), (6, v127), (7, (.pointer (some ⟨b177, 0, none⟩))), (8, (.pointer (some ⟨b260, 0, none⟩))), (9, v300)]) ⟨rfl, rfl, rfl, rfl, rfl, rfl, trivial⟩; refine e_then ?_; refine wp_seq ?_; refine wp_seq ?_; refine wp_region_lit ?_; (iterate 2 refine op_g ha rfl (g_move rfl) ?_; clear ha a; intro a ha)
  obtain ⟨fp328, hro329, hs330⟩ := h304.roF
  obtain ⟨fp331, hro332, hs333⟩ := h131.roF
  obtain ⟨x334, hc335, hF⟩ := cal_some hF
  refine o_call ha rfl rfl Tryd.call10 (W_laws_eqInt64S hro329 hro332 hc335) ?_; clear ha a; rintro v336 w337 ⟨rfl, hx338⟩ a ha
  replace hB3 := hB3.ext hx338
  replace hB11 := hB11.ext hx338
  replace h131 := h131.ext hx338
  replace h159 := h159.ext hx338
  replace hB195 := hB195.ext hx338
  replace h206 := h206.ext hx338
  replace h213 := h213.ext hx338
  replace hB286 := hB286.ext hx338
  replace h304 := h304.ext hx338
  have hE339 := Ext.trans hE326 hx338
  refine op_g ha rfl (g_not rfl) ?_; clear ha a; intro a ha; refine wpList_nil ?_; replace ha := ha.sub (σ' := [(2, (.pointer (some ⟨b1, 0, none⟩))), (3, (.pointer (some ⟨b9, 0, none⟩))), (6, v127), (7, (.pointer (some ⟨b177, 0, none⟩))), (8, (.pointer (some ⟨b260, 0, none⟩))), (9, v300), (39, (.bool (!x334)))]) ⟨rfl, rfl, rfl, rfl, rfl, rfl, rfl, trivial⟩; refine e_then ?_; refine c_cond (¬ (x334 = true)) ha rfl (n_iff (Iff.rfl)) (fun hp340 => ?_) (fun hp340 => ?_)
  · replace hF := if_t hp340 hF
    refine wp_seq ?_; refine wp_region_lit ?_; refine op_g ha rfl (g_assign rfl) ?_; clear ha a; intro a ha; refine wpList_nil ?_; replace ha := ha.sub (σ' := [(4, (.bool false))]) ⟨rfl, trivial⟩; refine e_then ?_; refine wp_ret ?_; refine e_then_ret ?_; obtain rfl := Option.some.inj hF
    exact f_ret1 ha rfl rfl ⟨rfl, hE339⟩
  replace hF := if_f hp340 hF; refine wp_skip ?_; refine e_then ?_; refine wp_seq ?_; refine wp_seq ?_; refine d_region [0, 1, 2, 3, 4] hmix ?_; refine u_g 0 rfl (by kernel_rfl) (want0 _) ha rfl (g_loadA (cs := [u157]) Tryd.isAgg31 Tryd.sizeOf31 rfl (by simp) hB195.all) ?_; clear ha a; intro a ha; refine u_g 1 rfl (by kernel_rfl) (want0 _) ha rfl (g_loadA (cs := [va0_0]) Tryd.isAgg24 Tryd.sizeOf24 rfl (by simp) hB3.all) ?_; clear ha a; intro a ha
  refine u_only 2 rfl (by kernel_rfl) ?_; intro w341 hx342
  replace hB3 := hB3.ext hx342
  replace hB11 := hB11.ext hx342
  replace h131 := h131.ext hx342
  replace h159 := h159.ext hx342
  replace hB195 := hB195.ext hx342
  replace h206 := h206.ext hx342
  replace h213 := h213.ext hx342
  replace hB286 := hB286.ext hx342
  replace h304 := h304.ext hx342
  have hE343 := Ext.trans hE339 hx342
  obtain ⟨x344, hc345, hF⟩ := cal_some hF
  refine o_call ha rfl rfl Tryd.call7 (W_laws_toGraph (ha0_0.ext hE343) hc345) ?_; clear ha a; rintro v346 w347 ⟨u349, b350, fs354, rfl, h351, z352, zf355, nd356, hx348⟩ a ha
  have q357 := Nq.new hB3.fpb z352
  have q358 := Nq.madeF z352 zf355 hB3.bi
  have q359 := Nq.new hB11.fpb z352
  have q360 := Nq.madeF z352 zf355 hB11.bi
  have q361 := Nq.new h131.fpb z352
  have q362 := Nq.madeF z352 zf355 h131.blt
  have q363 := Nq.new h159.fpb z352
  have q364 := Nq.madeF z352 zf355 h159.blt
  have q365 := Nq.new hB195.fpb z352
  have q366 := Nq.madeF z352 zf355 hB195.bi
  have q367 := Nq.new h206.fpb z352
  have q368 := Nq.madeF z352 zf355 h206.blt
  have q369 := Nq.new h213.fpb z352
  have q370 := Nq.madeF z352 zf355 h213.blt
  have q371 := Nq.new hB286.fpb z352
  have q372 := Nq.madeF z352 zf355 hB286.bi
  have q373 := Nq.new h304.fpb z352
  have q374 := Nq.madeF z352 zf355 h304.blt
  have q375 := Nf.new hB3.fpb zf355
  have q376 := Nf.new hB11.fpb zf355
  have q377 := Nf.new h131.fpb zf355
  have q378 := Nf.new h159.fpb zf355
  have q379 := Nf.old z352 zf355 h159.bnd
  have q380 := Nf.new hB195.fpb zf355
  have q381 := Nf.new h206.fpb zf355
  have q382 := Nf.old z352 zf355 h206.bnd
  have q383 := Nf.new h213.fpb zf355
  have q384 := Nf.old z352 zf355 h213.bnd
  have q385 := Nf.new hB286.fpb zf355
  have q386 := Nf.new h304.fpb zf355
  replace hB3 := hB3.ext hx348
  replace hB11 := hB11.ext hx348
  replace h131 := h131.ext hx348
  replace h159 := h159.ext hx348
  replace hB195 := hB195.ext hx348
  replace h206 := h206.ext hx348
  replace h213 := h213.ext hx348
  replace hB286 := hB286.ext hx348
  replace h304 := h304.ext hx348
  have hE387 := Ext.trans hE343 hx348
  have q388 := Zn.upD z352 hE343
  have q389 := zf_up zf355 hE343
  refine wpList_nil (e_sq ?_)
  refine ⟨fun _ => hx348, ?_⟩
  obtain ⟨fp392, hro393, hs394⟩ := h159.roF
  obtain ⟨fp395, hro396, hs397⟩ := h351.roF
  obtain ⟨x398, hc399, hF⟩ := cal_some hF; refine u_call (.bool x398) 3 rfl (by kernel_rfl) (want0 _) ha rfl rfl Tryd.call11 (fun w391 hx390 => W_laws_eqGraph (hro393.ext hx390) (hro396.ext hx390) hc399) (fun _ _ _ h => ⟨h.1, h.2⟩) ?_; clear ha a; intro a ha; refine u_g 4 rfl (by kernel_rfl) (want0 _) ha rfl (g_not rfl) ?_; clear ha a; intro a ha
  refine u_done (by kernel_rfl) ?_; intro w400 hx401
  replace hB3 := hB3.ext hx401
  replace hB11 := hB11.ext hx401
  replace h131 := h131.ext hx401
  replace h159 := h159.ext hx401
  replace hB195 := hB195.ext hx401
  replace h206 := h206.ext hx401
  replace h213 := h213.ext hx401
  replace hB286 := hB286.ext hx401
  replace h304 := h304.ext hx401
  replace h351 := h351.ext hx401
  have hE402 := Ext.trans hE387 hx401
  replace ha := ha.sub (σ' := [(2, (.pointer (some ⟨b1, 0, none⟩))), (3, (.pointer (some ⟨b9, 0, none⟩))), (6, v127), (7, (.pointer (some ⟨b177, 0, none⟩))), (8, (.pointer (some ⟨b260, 0, none⟩))), (9, v300), (44, (.bool (!x398)))]) ⟨rfl, rfl, rfl, rfl, rfl, rfl, rfl, trivial⟩; refine e_then ?_; refine c_cond (¬ (x398 = true)) ha rfl (n_iff (Iff.rfl)) (fun hp403 => ?_) (fun hp403 => ?_)
  · replace hF := if_t hp403 hF
    refine wp_seq ?_; refine wp_region_lit ?_; refine op_g ha rfl (g_assign rfl) ?_; clear ha a; intro a ha; refine wpList_nil ?_; replace ha := ha.sub (σ' := [(4, (.bool false))]) ⟨rfl, trivial⟩; refine e_then ?_; refine wp_ret ?_; refine e_then_ret ?_; obtain rfl := Option.some.inj hF
    exact f_ret1 ha rfl rfl ⟨rfl, hE402⟩
  replace hF := if_f hp403 hF; refine wp_skip ?_; refine e_then ?_; refine wp_seq ?_; refine wp_seq ?_; refine d_region [0, 1, 2, 3, 4] hmix ?_; refine u_g 0 rfl (by kernel_rfl) (want0 _) ha rfl (g_loadA (cs := [u203, u204]) Tryd.isAgg33 Tryd.sizeOf33 rfl (by simp) hB286.all) ?_; clear ha a; intro a ha; refine u_g 1 rfl (by kernel_rfl) (want0 _) ha rfl (g_loadA (cs := [va1_0, va1_1]) Tryd.isAgg26 Tryd.sizeOf26 rfl (by simp) hB11.all) ?_; clear ha a; intro a ha
  refine u_only 2 rfl (by kernel_rfl) ?_; intro w404 hx405
  replace hB3 := hB3.ext hx405
  replace hB11 := hB11.ext hx405
  replace h131 := h131.ext hx405
  replace h159 := h159.ext hx405
  replace hB195 := hB195.ext hx405
  replace h206 := h206.ext hx405
  replace h213 := h213.ext hx405
  replace hB286 := hB286.ext hx405
  replace h304 := h304.ext hx405
  have hE406 := Ext.trans hE402 hx405
  obtain ⟨x407, hc408, hF⟩ := cal_some hF
  refine o_call ha rfl rfl Tryd.call8 (W_laws_toDecomp (ha1_0.ext hE406) (ha1_1.ext hE406) hc408) ?_; clear ha a; rintro v409 w410 ⟨u412, u413, b414, fs418, b421, fs425, rfl, h415, z416, zf419, nd420, h422, z423, zf426, nd427, q428, q429, q430, q431, hx411⟩ a ha
  have q432 := Nq.new hB3.fpb z416
  have q433 := Nq.madeF z416 zf419 hB3.bi
  have q434 := Nq.new hB11.fpb z416
  have q435 := Nq.madeF z416 zf419 hB11.bi
  have q436 := Nq.new h131.fpb z416
  have q437 := Nq.madeF z416 zf419 h131.blt
  have q438 := Nq.new h159.fpb z416
  have q439 := Nq.madeF z416 zf419 h159.blt
  have q440 := Nq.new hB195.fpb z416
  have q441 := Nq.madeF z416 zf419 hB195.bi
  have q442 := Nq.new h206.fpb z416
  have q443 := Nq.madeF z416 zf419 h206.blt
  have q444 := Nq.new h213.fpb z416
  have q445 := Nq.madeF z416 zf419 h213.blt
  have q446 := Nq.new hB286.fpb z416
  have q447 := Nq.madeF z416 zf419 hB286.bi
  have q448 := Nq.new h304.fpb z416
  have q449 := Nq.madeF z416 zf419 h304.blt
  have q450 := Nq.new hB3.fpb z423
  have q451 := Nq.madeF z423 zf426 hB3.bi
  have q452 := Nq.new hB11.fpb z423
  have q453 := Nq.madeF z423 zf426 hB11.bi
  have q454 := Nq.new h131.fpb z423
  have q455 := Nq.madeF z423 zf426 h131.blt
  have q456 := Nq.new h159.fpb z423
  have q457 := Nq.madeF z423 zf426 h159.blt
  have q458 := Nq.new hB195.fpb z423
  have q459 := Nq.madeF z423 zf426 hB195.bi
  have q460 := Nq.new h206.fpb z423
  have q461 := Nq.madeF z423 zf426 h206.blt
  have q462 := Nq.new h213.fpb z423
  have q463 := Nq.madeF z423 zf426 h213.blt
  have q464 := Nq.new hB286.fpb z423
  have q465 := Nq.madeF z423 zf426 hB286.bi
  have q466 := Nq.new h304.fpb z423
  have q467 := Nq.madeF z423 zf426 h304.blt
  have q468 := Nf.new hB3.fpb zf419
  have q469 := Nf.new hB11.fpb zf419
  have q470 := Nf.new h131.fpb zf419
  have q471 := Nf.new h159.fpb zf419
  have q472 := Nf.old z416 zf419 h159.bnd
  have q473 := Nf.new hB195.fpb zf419
  have q474 := Nf.new h206.fpb zf419
  have q475 := Nf.old z416 zf419 h206.bnd
  have q476 := Nf.new h213.fpb zf419
  have q477 := Nf.old z416 zf419 h213.bnd
  have q478 := Nf.new hB286.fpb zf419
  have q479 := Nf.new h304.fpb zf419
  have q480 := Nf.new hB3.fpb zf426
  have q481 := Nf.new hB11.fpb zf426
  have q482 := Nf.new h131.fpb zf426
  have q483 := Nf.new h159.fpb zf426
  have q484 := Nf.old z423 zf426 h159.bnd
  have q485 := Nf.new hB195.fpb zf426
  have q486 := Nf.new h206.fpb zf426
  have q487 := Nf.old z423 zf426 h206.bnd
  have q488 := Nf.new h213.fpb zf426
  have q489 := Nf.old z423 zf426 h213.bnd
  have q490 := Nf.new hB286.fpb zf426
  have q491 := Nf.new h304.fpb zf426
  replace hB3 := hB3.ext hx411
  replace hB11 := hB11.ext hx411
  replace h131 := h131.ext hx411
  replace h159 := h159.ext hx411
  replace hB195 := hB195.ext hx411
  replace h206 := h206.ext hx411
  replace h213 := h213.ext hx411
  replace hB286 := hB286.ext hx411
  replace h304 := h304.ext hx411
  have hE492 := Ext.trans hE406 hx411
  have q493 := Zn.upD z416 hE406
  have q494 := zf_up zf419 hE406
  have q495 := Zn.upD z423 hE406
  have q496 := zf_up zf426 hE406
  refine wpList_nil (e_sq ?_)
  refine ⟨fun _ => hx411, ?_⟩
  obtain ⟨fp499, hro500, hs501⟩ := h206.roF
  obtain ⟨fp502, hro503, hs504⟩ := h213.roF
  obtain ⟨fp505, hro506, hs507⟩ := h415.roF
  obtain ⟨fp508, hro509, hs510⟩ := h422.roF
  obtain ⟨x511, hc512, hF⟩ := cal_some hF; refine u_call (.bool x511) 3 rfl (by kernel_rfl) (want0 _) ha rfl rfl Tryd.call12 (fun w498 hx497 => W_laws_eqDecomp (hro500.ext hx497) (hro503.ext hx497) (hro506.ext hx497) (hro509.ext hx497) hc512) (fun _ _ _ h => ⟨h.1, h.2⟩) ?_; clear ha a; intro a ha; refine u_g 4 rfl (by kernel_rfl) (want0 _) ha rfl (g_not rfl) ?_; clear ha a; intro a ha
  refine u_done (by kernel_rfl) ?_; intro w513 hx514
  replace hB3 := hB3.ext hx514
  replace hB11 := hB11.ext hx514
  replace h131 := h131.ext hx514
  replace h159 := h159.ext hx514
  replace hB195 := hB195.ext hx514
  replace h206 := h206.ext hx514
  replace h213 := h213.ext hx514
  replace hB286 := hB286.ext hx514
  replace h304 := h304.ext hx514
  replace h415 := h415.ext hx514
  replace h422 := h422.ext hx514
  have hE515 := Ext.trans hE492 hx514
  replace ha := ha.sub (σ' := [(2, (.pointer (some ⟨b1, 0, none⟩))), (3, (.pointer (some ⟨b9, 0, none⟩))), (6, v127), (7, (.pointer (some ⟨b177, 0, none⟩))), (8, (.pointer (some ⟨b260, 0, none⟩))), (9, v300), (49, (.bool (!x511)))]) ⟨rfl, rfl, rfl, rfl, rfl, rfl, rfl, trivial⟩; refine e_then ?_; refine c_cond (¬ (x511 = true)) ha rfl (n_iff (Iff.rfl)) (fun hp516 => ?_) (fun hp516 => ?_)
  · replace hF := if_t hp516 hF
    refine wp_seq ?_; refine wp_region_lit ?_; refine op_g ha rfl (g_assign rfl) ?_; clear ha a; intro a ha; refine wpList_nil ?_; replace ha := ha.sub (σ' := [(4, (.bool false))]) ⟨rfl, trivial⟩; refine e_then ?_; refine wp_ret ?_; refine e_then_ret ?_; obtain rfl := Option.some.inj hF
    exact f_ret1 ha rfl rfl ⟨rfl, hE515⟩
  replace hF := if_f hp516 hF; refine wp_skip ?_; refine e_then ?_; refine wp_seq ?_; refine wp_region_lit ?_; refine op_g ha rfl (g_assign rfl) ?_; clear ha a; intro a ha; refine wpList_nil ?_; replace ha := ha.sub (σ' := [(2, (.pointer (some ⟨b1, 0, none⟩))), (3, (.pointer (some ⟨b9, 0, none⟩))), (6, v127), (7, (.pointer (some ⟨b177, 0, none⟩))), (8, (.pointer (some ⟨b260, 0, none⟩))), (9, v300), (10, (.int .i64 1))]) ⟨rfl, rfl, rfl, rfl, rfl, rfl, rfl, trivial⟩; refine e_then ?_; refine wp_seq ?_; refine wp_region_lit ?_; refine op_g ha rfl (g_loadA (cs := [u157]) Tryd.isAgg31 Tryd.sizeOf31 rfl (by simp) hB195.all) ?_; clear ha a; intro a ha
  refine op_g ha rfl (g_move rfl) ?_; clear ha a; intro a ha; obtain ⟨x517, hc518, hF⟩ := cal_some hF
  refine o_call ha rfl rfl Tryd.call13 (W_laws_markGraph h159 nd164 (show InI 1 from by decide) hc518) ?_; clear ha a; rintro v519 w520 ⟨⟨rfl, hI522⟩, h523, hx521⟩ a ha
  replace hB3 := hB3.off hx521 (Off.nest q165 q171); replace hB11 := hB11.off hx521 (Off.nest q167 q172); replace h131 := h131.off hx521 (Off.nest q169 q173); replace hB195 := hB195.off hx521 (Off.nest q190 q191); replace h206 := h206.off hx521 (Off.nest q230 q247); replace h213 := h213.off hx521 (Off.nest q240 q253); replace hB286 := hB286.off hx521 (Off.nest q273 q274); replace h304 := h304.off hx521 (Off.nest q314 q323)
  have hE524 := Chg.join hE515 hx521 (S2.nest q175 q176)
  refine op_g ha rfl (g_assign rfl) ?_; clear ha a; intro a ha; refine wpList_nil ?_; replace ha := ha.sub (σ' := [(2, (.pointer (some ⟨b1, 0, none⟩))), (3, (.pointer (some ⟨b9, 0, none⟩))), (6, v127), (8, (.pointer (some ⟨b260, 0, none⟩))), (9, v300), (10, (.int .i64 x517.1))]) ⟨rfl, rfl, rfl, rfl, rfl, rfl, trivial⟩; refine e_then ?_; refine wp_seq ?_; refine wp_region_lit ?_; refine op_g ha rfl (g_loadA (cs := [u203, u204]) Tryd.isAgg33 Tryd.sizeOf33 rfl (by simp) hB286.all) ?_; clear ha a; intro a ha; refine op_g ha rfl (g_move rfl) ?_; clear ha a; intro a ha; obtain ⟨x525, hc526, hF⟩ := cal_some hF
  refine o_call ha rfl rfl Tryd.call14 (W_laws_markDecomp h206 nd211 h213 nd218 hI522 q219 q220 q221 q222 hc526) ?_; clear ha a; rintro v527 w528 ⟨⟨rfl, hI530⟩, h531, h532, hx529⟩ a ha
  replace hB3 := hB3.off hx529 (Off.two (Off.nest q223 q243) (Off.nest q233 q249)); replace hB11 := hB11.off hx529 (Off.two (Off.nest q225 q244) (Off.nest q235 q250)); replace h131 := h131.off hx529 (Off.two (Off.nest q227 q245) (Off.nest q237 q251)); replace hB286 := hB286.off hx529 (Off.two (Off.nest q278 q279) (Off.nest q281 q282)); replace h304 := h304.off hx529 (Off.two (Off.nest q318 q324) (Off.nest q320 q325))
  have hE533 := Chg.join hE524 hx529 (S2.app (S2.nest q256 q257) (S2.nest q258 q259))
  refine op_g ha rfl (g_assign rfl) ?_; clear ha a; intro a ha; refine wpList_nil ?_; replace ha := ha.sub (σ' := [(2, (.pointer (some ⟨b1, 0, none⟩))), (3, (.pointer (some ⟨b9, 0, none⟩))), (6, v127), (9, v300), (10, (.int .i64 x525.1))]) ⟨rfl, rfl, rfl, rfl, rfl, trivial⟩; refine e_then ?_; refine wp_seq ?_; refine wp_seq ?_; refine wp_region_lit ?_; refine op_g ha rfl (g_move rfl) ?_; clear ha a; intro a ha; refine op_g ha rfl (g_lss rfl rfl) ?_; clear ha a; intro a ha; refine op_g ha rfl (g_move rfl) ?_; clear ha a; intro a ha
  by_cases hp548 : x525.1 < 0
  · replace hF := if_t hp548 hF
    rw [show (decide (x525.1 < 0)) = true from (decide_eq_true_iff).2 hp548] at ha
    (iterate 4 refine op_unwant ha rfl (yields ha rfl rfl) rfl ?_; clear ha a; intro a ha); refine op_g ha rfl (g_pick rfl rfl) ?_; clear ha a; intro a ha; refine wpList_nil ?_; replace ha := ha.sub (σ' := [(2, (.pointer (some ⟨b1, 0, none⟩))), (3, (.pointer (some ⟨b9, 0, none⟩))), (6, v127), (9, v300), (63, (.bool true))]) ⟨rfl, rfl, rfl, rfl, rfl, trivial⟩; refine e_then ?_; refine c_true ha rfl ?_; refine wp_seq ?_; refine wp_region_lit ?_; refine op_g ha rfl (g_assign rfl) ?_; clear ha a; intro a ha; refine wpList_nil ?_; replace ha := ha.sub (σ' := [(4, (.bool false))]) ⟨rfl, trivial⟩; refine e_then ?_
    refine wp_ret ?_; refine e_then_ret ?_; obtain rfl := Option.some.inj hF
    exact f_ret1 ha rfl rfl ⟨rfl, hE533⟩
  replace hF := if_f hp548 hF
  rw [show (decide (x525.1 < 0)) = false from b_false (decide_eq_true_iff) hp548] at ha
  refine op_want (yields ha rfl rfl) ?_; refine op_g ha rfl (g_move rfl) ?_; clear ha a; intro a ha; refine op_want (yields ha rfl rfl) ?_; refine op_g ha rfl (g_move rfl) ?_; clear ha a; intro a ha; refine op_want (yields ha rfl rfl) ?_
  obtain ⟨fp549, hro550, hs551⟩ := h304.roF
  obtain ⟨fp552, hro553, hs554⟩ := h131.roF
  obtain ⟨x555, hc556, hF⟩ := cal_some hF
  refine o_call ha rfl rfl Tryd.call10 (W_laws_eqInt64S hro550 hro553 hc556) ?_; clear ha a; rintro v557 w558 ⟨rfl, hx559⟩ a ha
  replace hB3 := hB3.ext hx559
  replace hB11 := hB11.ext hx559
  replace h131 := h131.ext hx559
  replace h304 := h304.ext hx559
  have hE560 := Ext.trans hE533 hx559
  refine op_want (yields ha rfl rfl) ?_; refine op_g ha rfl (g_not rfl) ?_; clear ha a; intro a ha; refine op_g ha rfl (g_pick rfl rfl) ?_; clear ha a; intro a ha; refine wpList_nil ?_; replace ha := ha.sub (σ' := [(2, (.pointer (some ⟨b1, 0, none⟩))), (3, (.pointer (some ⟨b9, 0, none⟩))), (6, v127), (9, v300), (63, (.bool (!x555)))]) ⟨rfl, rfl, rfl, rfl, rfl, trivial⟩; refine e_then ?_; refine c_cond (¬ (x555 = true)) ha rfl (n_iff (Iff.rfl)) (fun hp561 => ?_) (fun hp561 => ?_)
  · replace hF := if_t hp561 hF
    refine wp_seq ?_; refine wp_region_lit ?_; refine op_g ha rfl (g_assign rfl) ?_; clear ha a; intro a ha; refine wpList_nil ?_; replace ha := ha.sub (σ' := [(4, (.bool false))]) ⟨rfl, trivial⟩; refine e_then ?_; refine wp_ret ?_; refine e_then_ret ?_; obtain rfl := Option.some.inj hF
    exact f_ret1 ha rfl rfl ⟨rfl, hE560⟩
  replace hF := if_f hp561 hF; refine wp_skip ?_; refine e_then ?_; refine wp_seq ?_; refine wp_region_lit ?_; refine op_g ha rfl (g_assign rfl) ?_; clear ha a; intro a ha; refine wpList_nil ?_; replace ha := ha.sub (σ' := [(2, (.pointer (some ⟨b1, 0, none⟩))), (3, (.pointer (some ⟨b9, 0, none⟩))), (6, v127), (9, v300), (11, (.int .i64 1))]) ⟨rfl, rfl, rfl, rfl, rfl, trivial⟩; refine e_then ?_; refine wp_seq ?_; refine wp_region_lit ?_; (iterate 2 refine op_g ha rfl (g_move rfl) ?_; clear ha a; intro a ha); obtain ⟨x562, hc563, hF⟩ := cal_some hF
  refine o_call ha rfl rfl Tryd.call15 (W_laws_markInt64S h304 (show InI 1 from by decide) hc563) ?_; clear ha a; rintro v564 w565 ⟨⟨rfl, hI567⟩, h568, hx566⟩ a ha
  replace hB3 := hB3.nq hx566 q307
  replace hB11 := hB11.nq hx566 q309
  replace h131 := h131.nq hx566 q311
  have hE569 := Ext.then hE560 hx566 (Zn.bl q327)
  refine op_g ha rfl (g_assign rfl) ?_; clear ha a; intro a ha; refine wpList_nil ?_; replace ha := ha.sub (σ' := [(2, (.pointer (some ⟨b1, 0, none⟩))), (3, (.pointer (some ⟨b9, 0, none⟩))), (6, v127), (9, v300), (11, (.int .i64 x562.1))]) ⟨rfl, rfl, rfl, rfl, rfl, trivial⟩; refine e_then ?_; refine wp_seq ?_; refine wp_region_lit ?_; refine op_g ha rfl (g_assign rfl) ?_; clear ha a; intro a ha; refine wpList_nil ?_; replace ha := ha.sub (σ' := [(2, (.pointer (some ⟨b1, 0, none⟩))), (3, (.pointer (some ⟨b9, 0, none⟩))), (6, v127), (9, v300), (11, (.int .i64 x562.1)), (12, (.int .i64 1))]) ⟨rfl, rfl, rfl, rfl, rfl, rfl, trivial⟩
  refine e_then ?_; refine wp_seq ?_; refine wp_region_lit ?_; (iterate 2 refine op_g ha rfl (g_move rfl) ?_; clear ha a; intro a ha)
  obtain ⟨fp570, hro571, hs572⟩ := h568.roF
  obtain ⟨x573, hc574, hF⟩ := cal_some hF
  refine o_call ha rfl rfl Tryd.call16 (W_laws_heldInt64S hro571 (show InI 1 from by decide) hc574) ?_; clear ha a; rintro v575 w576 ⟨⟨rfl, hI578⟩, hx577⟩ a ha
  replace hB3 := hB3.ext hx577
  replace hB11 := hB11.ext hx577
  replace h131 := h131.ext hx577
  replace h568 := h568.ext hx577
  have hE579 := Ext.trans hE569 hx577
  refine op_g ha rfl (g_assign rfl) ?_; clear ha a; intro a ha; refine wpList_nil ?_; replace ha := ha.sub (σ' := [(2, (.pointer (some ⟨b1, 0, none⟩))), (3, (.pointer (some ⟨b9, 0, none⟩))), (6, v127), (9, v300), (11, (.int .i64 x562.1)), (12, (.int .i64 x573))]) ⟨rfl, rfl, rfl, rfl, rfl, rfl, trivial⟩; refine e_then ?_; refine wp_seq ?_; refine wp_seq ?_; refine wp_region_lit ?_; refine op_g ha rfl (g_move rfl) ?_; clear ha a; intro a ha; refine op_g ha rfl (g_lss rfl rfl) ?_; clear ha a; intro a ha; refine wpList_nil ?_; replace ha := ha.sub (σ' := [(2, (.pointer (some ⟨b1, 0, none⟩))), (3, (.pointer (some ⟨b9, 0, none⟩))), (6, v127), (9, v300), (11, (.int .i64 x562.1)), (12, (.int .i64 x573)), (71, (.bool (decide (x573 < 0))))]) ⟨rfl, rfl, rfl, rfl, rfl, rfl, rfl, trivial⟩
  refine e_then ?_; refine c_cond (x573 < 0) ha rfl (decide_eq_true_iff) (fun hp580 => ?_) (fun hp580 => ?_)
  · replace hF := if_t hp580 hF
    refine wp_seq ?_; refine wp_region_lit ?_; refine op_g ha rfl (g_assign rfl) ?_; clear ha a; intro a ha; refine wpList_nil ?_; replace ha := ha.sub (σ' := [(4, (.bool false))]) ⟨rfl, trivial⟩; refine e_then ?_; refine wp_ret ?_; refine e_then_ret ?_; obtain rfl := Option.some.inj hF
    exact f_ret1 ha rfl rfl ⟨rfl, hE579⟩
  replace hF := if_f hp580 hF; refine wp_skip ?_; refine e_then ?_; refine wp_seq ?_; refine wp_seq ?_; refine wp_region_lit ?_; (iterate 2 refine op_g ha rfl (g_move rfl) ?_; clear ha a; intro a ha); refine op_g ha rfl (g_neq rfl rfl) ?_; clear ha a; intro a ha; refine wpList_nil ?_; replace ha := ha.sub (σ' := [(2, (.pointer (some ⟨b1, 0, none⟩))), (3, (.pointer (some ⟨b9, 0, none⟩))), (6, v127), (9, v300), (11, (.int .i64 x562.1)), (74, (.bool (decide (x573 ≠ x562.1))))]) ⟨rfl, rfl, rfl, rfl, rfl, rfl, trivial⟩; refine e_then ?_; refine c_cond (x573 ≠ x562.1) ha rfl (decide_eq_true_iff) (fun hp581 => ?_) (fun hp581 => ?_)
  · replace hF := if_t hp581 hF
    refine wp_seq ?_; refine wp_region_lit ?_; refine op_g ha rfl (g_assign rfl) ?_; clear ha a; intro a ha; refine wpList_nil ?_; replace ha := ha.sub (σ' := [(4, (.bool false))]) ⟨rfl, trivial⟩; refine e_then ?_; refine wp_ret ?_; refine e_then_ret ?_; obtain rfl := Option.some.inj hF
    exact f_ret1 ha rfl rfl ⟨rfl, hE579⟩
  replace hF := if_f hp581 hF; refine wp_skip ?_; refine e_then ?_; refine wp_seq ?_; refine d_region [0, 1, 2, 3, 4, 5] hmix ?_; refine u_g 0 rfl (by kernel_rfl) (want0 _) ha rfl (g_loadA (cs := [va0_0]) Tryd.isAgg24 Tryd.sizeOf24 rfl (by simp) hB3.all) ?_; clear ha a; intro a ha; refine u_g 2 rfl (by kernel_rfl) (want0 _) ha rfl (g_loadA (cs := [va1_0, va1_1]) Tryd.isAgg26 Tryd.sizeOf26 rfl (by simp) hB11.all) ?_; clear ha a; intro a ha
  refine u_only 1 rfl (by kernel_rfl) ?_; intro w582 hx583
  replace hB3 := hB3.ext hx583
  replace hB11 := hB11.ext hx583
  replace h131 := h131.ext hx583
  replace h568 := h568.ext hx583
  have hE584 := Ext.trans hE579 hx583
  obtain ⟨x585, hc586, hF⟩ := cal_some hF
  refine o_call ha rfl rfl Tryd.call7 (W_laws_toGraph (ha0_0.ext hE584) hc586) ?_; clear ha a; rintro v587 w588 ⟨u590, b591, fs595, rfl, h592, z593, zf596, nd597, hx589⟩ a ha
  have q598 := Nq.new hB3.fpb z593
  have q599 := Nq.madeF z593 zf596 hB3.bi
  have q600 := Nq.new hB11.fpb z593
  have q601 := Nq.madeF z593 zf596 hB11.bi
  have q602 := Nq.new h131.fpb z593
  have q603 := Nq.madeF z593 zf596 h131.blt
  have q604 := Nq.new h568.fpb z593
  have q605 := Nq.madeF z593 zf596 h568.blt
  have q606 := Nf.new hB3.fpb zf596
  have q607 := Nf.new hB11.fpb zf596
  have q608 := Nf.new h131.fpb zf596
  have q609 := Nf.new h568.fpb zf596
  replace hB3 := hB3.ext hx589
  replace hB11 := hB11.ext hx589
  replace h131 := h131.ext hx589
  replace h568 := h568.ext hx589
  have hE610 := Ext.trans hE584 hx589
  have q611 := Zn.upD z593 hE584
  have q612 := zf_up zf596 hE584
  refine wpList_nil (e_sq ?_)
  refine ⟨fun _ => hx589, ?_⟩
  refine u_only 3 rfl (by kernel_rfl) ?_; intro w613 hx614
  replace hB3 := hB3.ext hx614
  replace hB11 := hB11.ext hx614
  replace h131 := h131.ext hx614
  replace h568 := h568.ext hx614
  replace h592 := h592.ext hx614
  have hE615 := Ext.trans hE610 hx614
  obtain ⟨x616, hc617, hF⟩ := cal_some hF
  refine o_call ha rfl rfl Tryd.call8 (W_laws_toDecomp (ha1_0.ext hE615) (ha1_1.ext hE615) hc617) ?_; clear ha a; rintro v618 w619 ⟨u621, u622, b623, fs627, b630, fs634, rfl, h624, z625, zf628, nd629, h631, z632, zf635, nd636, q637, q638, q639, q640, hx620⟩ a ha
  have q641 := Nq.new hB3.fpb z625
  have q642 := Nq.madeF z625 zf628 hB3.bi
  have q643 := Nq.new hB11.fpb z625
  have q644 := Nq.madeF z625 zf628 hB11.bi
  have q645 := Nq.new h131.fpb z625
  have q646 := Nq.madeF z625 zf628 h131.blt
  have q647 := Nq.new h568.fpb z625
  have q648 := Nq.madeF z625 zf628 h568.blt
  have q649 := Nq.new h592.fpb z625
  have q650 := Nq.madeF z625 zf628 h592.blt
  have q651 := Nq.new hB3.fpb z632
  have q652 := Nq.madeF z632 zf635 hB3.bi
  have q653 := Nq.new hB11.fpb z632
  have q654 := Nq.madeF z632 zf635 hB11.bi
  have q655 := Nq.new h131.fpb z632
  have q656 := Nq.madeF z632 zf635 h131.blt
  have q657 := Nq.new h568.fpb z632
  have q658 := Nq.madeF z632 zf635 h568.blt
  have q659 := Nq.new h592.fpb z632
  have q660 := Nq.madeF z632 zf635 h592.blt
  have q661 := Nf.new hB3.fpb zf628
  have q662 := Nf.new hB11.fpb zf628
  have q663 := Nf.new h131.fpb zf628
  have q664 := Nf.new h568.fpb zf628
  have q665 := Nf.new h592.fpb zf628
  have q666 := Nf.old z625 zf628 h592.bnd
  have q667 := Nf.new hB3.fpb zf635
  have q668 := Nf.new hB11.fpb zf635
  have q669 := Nf.new h131.fpb zf635
  have q670 := Nf.new h568.fpb zf635
  have q671 := Nf.new h592.fpb zf635
  have q672 := Nf.old z632 zf635 h592.bnd
  replace hB3 := hB3.ext hx620
  replace hB11 := hB11.ext hx620
  replace h131 := h131.ext hx620
  replace h568 := h568.ext hx620
  replace h592 := h592.ext hx620
  have hE673 := Ext.trans hE615 hx620
  have q674 := Zn.upD z625 hE615
  have q675 := zf_up zf628 hE615
  have q676 := Zn.upD z632 hE615
  have q677 := zf_up zf635 hE615
  refine wpList_nil (e_sq ?_)
  refine ⟨fun _ => hx620, ?_⟩
  refine u_only 4 rfl (by kernel_rfl) ?_; intro w678 hx679
  replace hB3 := hB3.ext hx679
  replace hB11 := hB11.ext hx679
  replace h131 := h131.ext hx679
  replace h568 := h568.ext hx679
  replace h592 := h592.ext hx679
  replace h624 := h624.ext hx679
  replace h631 := h631.ext hx679
  have hE680 := Ext.trans hE673 hx679
  obtain ⟨fp681, hro682, hs683⟩ := h592.roF
  obtain ⟨fp684, hro685, hs686⟩ := h624.roF
  obtain ⟨fp687, hro688, hs689⟩ := h631.roF
  obtain ⟨x690, hc691, hF⟩ := cal_some hF
  refine o_call ha rfl rfl Tryd.call9 (W_impl_OrderBy hro682 hro685 hro688 (hG.ext hE680) hc691) ?_; clear ha a; rintro v692 w693 ⟨b695, h696, z697, hx694⟩ a ha
  have q699 := Nq.new hB3.fpb z697
  have q700 := Nq.madeO z697 hB3.bi
  have q701 := Nq.new hB11.fpb z697
  have q702 := Nq.madeO z697 hB11.bi
  have q703 := Nq.new h131.fpb z697
  have q704 := Nq.madeO z697 h131.blt
  have q705 := Nq.new h568.fpb z697
  have q706 := Nq.madeO z697 h568.blt
  have q707 := Nq.new h592.fpb z697
  have q708 := Nq.madeO z697 h592.blt
  have q709 := Nq.new h624.fpb z697
  have q710 := Nq.madeO z697 h624.blt
  have q711 := Nq.new h631.fpb z697
  have q712 := Nq.madeO z697 h631.blt
  have q713 := Nf.old z697 (zf_nil _) h592.bnd
  have q714 := Nf.old z697 (zf_nil _) h624.bnd
  have q715 := Nf.old z697 (zf_nil _) h631.bnd
  replace hB3 := hB3.ext hx694
  replace hB11 := hB11.ext hx694
  replace h131 := h131.ext hx694
  replace h568 := h568.ext hx694
  replace h592 := h592.ext hx694
  replace h624 := h624.ext hx694
  replace h631 := h631.ext hx694
  have hE716 := Ext.trans hE680 hx694
  have q717 := Zn.upD z697 hE680
  refine wpList_nil (e_sq ?_)
  refine ⟨fun _ => hx694, ?_⟩
  refine u_g 5 rfl (by kernel_rfl) (want0 _) ha rfl (g_assign rfl) ?_; clear ha a; intro a ha
  refine u_done (by kernel_rfl) ?_; intro w718 hx719
  replace hB3 := hB3.ext hx719
  replace hB11 := hB11.ext hx719
  replace h131 := h131.ext hx719
  replace h568 := h568.ext hx719
  replace h592 := h592.ext hx719
  replace h624 := h624.ext hx719
  replace h631 := h631.ext hx719
  replace h696 := h696.ext hx719
  have hE720 := Ext.trans hE716 hx719
  replace ha := ha.sub (σ' := [(6, v127), (9, v300), (11, (.int .i64 x562.1)), (13, v692)]) ⟨rfl, rfl, rfl, rfl, trivial⟩; refine e_then ?_; refine wp_seq ?_; refine wp_seq ?_; refine wp_region_lit ?_; (iterate 2 refine op_g ha rfl (g_move rfl) ?_; clear ha a; intro a ha)
  obtain ⟨fp721, hro722, hs723⟩ := h696.roF
  obtain ⟨fp724, hro725, hs726⟩ := h131.roF
  obtain ⟨x727, hc728, hF⟩ := cal_some hF
  refine o_call ha rfl rfl Tryd.call10 (W_laws_eqInt64S hro722 hro725 hc728) ?_; clear ha a; rintro v729 w730 ⟨rfl, hx731⟩ a ha
  replace h131 := h131.ext hx731
  replace h568 := h568.ext hx731
  replace h696 := h696.ext hx731
  have hE732 := Ext.trans hE720 hx731
  refine op_g ha rfl (g_not rfl) ?_; clear ha a; intro a ha; refine wpList_nil ?_; replace ha := ha.sub (σ' := [(9, v300), (11, (.int .i64 x562.1)), (83, (.bool (!x727)))]) ⟨rfl, rfl, rfl, trivial⟩; refine e_then ?_; refine c_cond (¬ (x727 = true)) ha rfl (n_iff (Iff.rfl)) (fun hp733 => ?_) (fun hp733 => ?_)
  · replace hF := if_t hp733 hF
    refine wp_seq ?_; refine wp_region_lit ?_; refine op_g ha rfl (g_assign rfl) ?_; clear ha a; intro a ha; refine wpList_nil ?_; replace ha := ha.sub (σ' := [(4, (.bool false))]) ⟨rfl, trivial⟩; refine e_then ?_; refine wp_ret ?_; refine e_then_ret ?_; obtain rfl := Option.some.inj hF
    exact f_ret1 ha rfl rfl ⟨rfl, hE732⟩
  replace hF := if_f hp733 hF; refine wp_skip ?_; refine e_then ?_; refine wp_seq ?_; refine wp_region_lit ?_; refine op_g ha rfl (g_assign rfl) ?_; clear ha a; intro a ha; refine wpList_nil ?_; replace ha := ha.sub (σ' := [(9, v300), (11, (.int .i64 x562.1)), (12, (.int .i64 1))]) ⟨rfl, rfl, rfl, trivial⟩; refine e_then ?_; refine wp_seq ?_; refine wp_region_lit ?_; (iterate 2 refine op_g ha rfl (g_move rfl) ?_; clear ha a; intro a ha)
  obtain ⟨fp734, hro735, hs736⟩ := h568.roF
  obtain ⟨x737, hc738, hF⟩ := cal_some hF
  refine o_call ha rfl rfl Tryd.call16 (W_laws_heldInt64S hro735 (show InI 1 from by decide) hc738) ?_; clear ha a; rintro v739 w740 ⟨⟨rfl, hI742⟩, hx741⟩ a ha
  replace h568 := h568.ext hx741
  have hE743 := Ext.trans hE732 hx741
  refine op_g ha rfl (g_assign rfl) ?_; clear ha a; intro a ha; refine wpList_nil ?_; replace ha := ha.sub (σ' := [(11, (.int .i64 x562.1)), (12, (.int .i64 x737))]) ⟨rfl, rfl, trivial⟩; refine e_then ?_; refine wp_seq ?_; refine wp_seq ?_; refine wp_region_lit ?_; refine op_g ha rfl (g_move rfl) ?_; clear ha a; intro a ha; refine op_g ha rfl (g_lss rfl rfl) ?_; clear ha a; intro a ha; refine wpList_nil ?_; replace ha := ha.sub (σ' := [(11, (.int .i64 x562.1)), (12, (.int .i64 x737)), (88, (.bool (decide (x737 < 0))))]) ⟨rfl, rfl, rfl, trivial⟩; refine e_then ?_; refine c_cond (x737 < 0) ha rfl (decide_eq_true_iff) (fun hp744 => ?_) (fun hp744 => ?_)
  · replace hF := if_t hp744 hF
    refine wp_seq ?_; refine wp_region_lit ?_; refine op_g ha rfl (g_assign rfl) ?_; clear ha a; intro a ha; refine wpList_nil ?_; replace ha := ha.sub (σ' := [(4, (.bool false))]) ⟨rfl, trivial⟩; refine e_then ?_; refine wp_ret ?_; refine e_then_ret ?_; obtain rfl := Option.some.inj hF
    exact f_ret1 ha rfl rfl ⟨rfl, hE743⟩
  replace hF := if_f hp744 hF; refine wp_skip ?_; refine e_then ?_; refine wp_seq ?_; refine wp_seq ?_; refine wp_region_lit ?_; (iterate 2 refine op_g ha rfl (g_move rfl) ?_; clear ha a; intro a ha); refine op_g ha rfl (g_neq rfl rfl) ?_; clear ha a; intro a ha; refine wpList_nil ?_; replace ha := ha.sub (σ' := [(91, (.bool (decide (x737 ≠ x562.1))))]) ⟨rfl, trivial⟩; refine e_then ?_; refine c_cond (x737 ≠ x562.1) ha rfl (decide_eq_true_iff) (fun hp745 => ?_) (fun hp745 => ?_)
  · replace hF := if_t hp745 hF
    refine wp_seq ?_; refine wp_region_lit ?_; refine op_g ha rfl (g_assign rfl) ?_; clear ha a; intro a ha; refine wpList_nil ?_; replace ha := ha.sub (σ' := [(4, (.bool false))]) ⟨rfl, trivial⟩; refine e_then ?_; refine wp_ret ?_; refine e_then_ret ?_; obtain rfl := Option.some.inj hF
    exact f_ret1 ha rfl rfl ⟨rfl, hE743⟩
  replace hF := if_f hp745 hF; refine wp_skip ?_; refine e_then ?_; refine wp_seq ?_; refine wp_region_lit ?_; refine op_g ha rfl (g_assign rfl) ?_; clear ha a; intro a ha; refine wpList_nil ?_; replace ha := ha.sub (σ' := [(4, (.bool true))]) ⟨rfl, trivial⟩; refine e_then ?_; refine wp_ret ?_; obtain rfl := Option.some.inj hF
  exact f_ret1 ha rfl rfl ⟨rfl, hE743⟩
end Go.Proofs.YtadagcgehcpelaaDoor
