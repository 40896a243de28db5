/- Walks, printed by gen.py. -/
import Derived.Test.YthbmcbflnibpbabDoorF
import Derived.Test.YthbmcbflnibpbabDoorW3
import Derived.Test.YthbmcbflnibpbabDoorProg
import Derived.KernelRfl
set_option maxRecDepth 100000
namespace Go.Proofs.YthbmcbflnibpbabDoor
open Go Go.RowKit

set_option maxHeartbeats 2000000 in
theorem W_impl_wide {W : World} {va0 : Value} {fa0 : List Nat} {a0 : (List Int)} (ha0 : Ro Rp.int W fa0 va0 a0) {r : (List Int)} (hF : F_impl_wide a0 = some r) :
    Calls Tryd.prog 31 [va0].toArray W (Ret fun u w' => ∃ (b_u : Int), Ow Rp.int 2 true w' [] b_u u r ∧ Zn W b_u ∧ Ext W w') := by
  refine f_enter Tryd.func31 rfl Tryd.ntmps31 rfl ?_
  intro a ha
  replace ha : Fr 21 [(0, va0)] a := ha
  have hE : Chg [] W W := Chg.refl _ _
  unfold F_impl_wide at hF
  refine wp_seq ?_; refine wp_region_lit ?_; refine op_g ha rfl (g_assign rfl) ?_; clear ha a; intro a ha; refine wpList_nil ?_; replace ha := ha.sub (σ' := [(0, va0)]) ⟨rfl, trivial⟩; refine e_then ?_; refine wp_seq ?_; refine wp_region_lit ?_; refine op_g ha rfl (g_move rfl) ?_; clear ha a; intro a ha; refine op_g ha rfl (g_lenR sl53.und ha0 rfl) ?_; clear ha a; intro a ha; obtain ⟨g5, hF⟩ := grd_some hF
  refine o_make0 Rp.int ha rfl sl26 rfl rfl rfl g5.1 g5.2 ?_; clear ha a; intro v1 w2 h3 hx4 a ha
  obtain ⟨b7, hb7⟩ : ∃ b : Int, b = W.heap.size := ⟨_, rfl⟩; rw [← hb7] at h3
  have q8 := zn_of hb7
  have q9 := Zn.upD q8 hE
  have hE10 := Ext.trans hE hx4
  refine op_g ha rfl (g_assign rfl) ?_; clear ha a; intro a ha; refine wpList_nil ?_; replace ha := ha.sub (σ' := [(0, va0), (3, v1)]) ⟨rfl, rfl, trivial⟩; refine e_then ?_; refine wp_seq ?_; refine wp_seq ?_; refine wp_region_lit ?_; refine op_g ha rfl (g_move rfl) ?_; clear ha a; intro a ha; refine op_g ha rfl (g_lenR sl53.und ha0 rfl) ?_; clear ha a; intro a ha; refine op_g ha rfl (g_move rfl) ?_; clear ha a; intro a ha; refine wpList_nil ?_; replace ha := ha.sub (σ' := [(3, v1), (9, va0), (10, (.int .i64 (a0.length : Int))), (11, (.int .i64 0))]) ⟨rfl, rfl, rfl, rfl, trivial⟩; refine e_then ?_
  obtain ⟨o127, ho128, hK129⟩ := bnd_some hF
  obtain ⟨n130, hn131⟩ := lp_some ho128; clear ho128
  refine c_loop (fun a w => ∃ (l124 : (List Int)) (v125 : Value) (b126 : Int), Fr 21 [(3, v125)] a ∧ Chg [] W w ∧ Ow Rp.int 2 true w [] b126 v125 l124 ∧ Zn W b126 ∧ o127 = .inl l124) (fun n a w => ∃ (l67 : (List Int)) (i70 : Int) (v68 : Value) (b69 : Int), Fr 21 [(3, v68), (9, va0), (10, (.int .i64 (a0.length : Int))), (11, (.int .i64 i70))] a ∧ Chg [] W w ∧ InI i70 ∧ Ow Rp.int 2 true w [] b69 v68 l67 ∧ Zn W b69 ∧ lpN (fun s => F_impl_wide_l1 a0 s.1 s.2) n (l67, i70) = some o127) n130 ⟨([] : (List Int)), 0, v1, b7, ha.sub ⟨rfl, rfl, rfl, rfl, trivial⟩, hE10, (show InI 0 from by decide), h3, q9, hn131⟩ ?_ ?_
  · rintro m135 a w63 ⟨l67, i70, v68, b69, ha, hE72, hI71, h65, z66, hF⟩
    cases m135 with
    | zero => exact (lpN_zero hF).elim
    | succ m135 =>
      obtain ⟨z134, hF, hN133⟩ := lpN_succ hF
      have hF : F_impl_wide_l1 a0 l67 i70 = some z134 := hF; unfold F_impl_wide_l1 at hF
      refine wp_seq ?_; refine wp_region_lit ?_; refine op_g ha rfl (g_lss rfl rfl) ?_; clear ha a; intro a ha; refine wpList_nil ?_; replace ha := ha.sub (σ' := [(3, v68), (9, va0), (10, (.int .i64 (a0.length : Int))), (11, (.int .i64 i70)), (12, (.bool (decide (i70 < (a0.length : Int)))))]) ⟨rfl, rfl, rfl, rfl, rfl, trivial⟩; refine e_then ?_; refine wp_seq ?_; refine c_cond (i70 < (a0.length : Int)) ha rfl (decide_eq_true_iff) (fun hp136 => ?_) (fun hp136 => ?_)
      · replace hF := if_t hp136 hF
        refine wp_skip ?_; refine e_then ?_; refine wp_seq ?_; refine wp_block ?_; refine wp_seq ?_; refine wp_region_lit ?_; obtain ⟨x137, g138, gx139, hF⟩ := idx_some hF
        obtain ⟨p140, cs141, f142, hf143, hpb144, hat145, hr146, hi147⟩ := ha0.at g138 gx139
        obtain ⟨rfl, hI148, rfl⟩ := hr146
        refine op_g ha rfl (hi147.gives sl53 rfl rfl) ?_; clear ha a; intro a ha; refine op_g ha rfl (g_load0 hE72 Tryd.isAgg3 rfl hat145.one) ?_; clear ha a; intro a ha; refine op_g ha rfl (g_assign rfl) ?_; clear ha a; intro a ha; refine wpList_nil ?_; replace ha := ha.sub (σ' := [(3, v68), (5, (.int .i64 x137)), (9, va0), (10, (.int .i64 (a0.length : Int))), (11, (.int .i64 i70))]) ⟨rfl, rfl, rfl, rfl, rfl, trivial⟩; refine e_then ?_; refine wp_region_lit ?_; (iterate 2 refine op_g ha rfl (g_move rfl) ?_; clear ha a; intro a ha)
        refine o_lit1 (o := true) (y := x137) Rp.int ha rfl sl26 rfl rfl rfl ⟨rfl, hI148, rfl⟩ ?_; clear ha a; intro v149 w150 h151 hx152 a ha
        obtain ⟨b154, hb154⟩ : ∃ b : Int, b = w63.heap.size := ⟨_, rfl⟩; rw [← hb154] at h151
        have q155 := zn_of hb154
        have q156 := Nq.new h65.fpb q155
        have q157 := Nq.madeO q155 h65.blt
        have q158 := Zn.upD q155 hE72
        replace h65 := h65.ext hx152
        have hE159 := Ext.trans hE72 hx152
        obtain ⟨hl160, hF⟩ := app_some hF
        refine o_append ha rfl sl26 rfl rfl rfl h65 h151.src (Nq.nil _) hl160 ?_; clear ha a; intro v161 w162 b163 h164 hc165 hb166 a ha
        replace h164 : Ow Rp.int 2 true w162 [] b163 v161 _ := h164
        have q168 := Nq.appY q157 h151.fpb hb166
        have q169 := Nq.appX q156 (Nq.nil _) hb166 h151.blt
        have q170 := Zn.appD z66 hb166 hE159
        replace h151 := h151.nq hc165 q157
        have hE171 := Ext.then hE159 hc165 (Zn.bl z66)
        refine op_g ha rfl (g_assign rfl) ?_; clear ha a; intro a ha; refine wpList_nil ?_; replace ha := ha.sub (σ' := [(3, v161), (9, va0), (10, (.int .i64 (a0.length : Int))), (11, (.int .i64 i70))]) ⟨rfl, rfl, rfl, rfl, trivial⟩; refine e_blk ?_; refine e_then ?_; refine wp_region_lit ?_; obtain ⟨hI172, hF⟩ := ck_some hF; refine op_g ha rfl (g_add rfl rfl hI172) ?_; clear ha a; intro a ha; refine op_g ha rfl (g_move rfl) ?_; clear ha a; intro a ha; refine wpList_nil ?_; replace ha := ha.sub (σ' := [(3, v161), (9, va0), (10, (.int .i64 (a0.length : Int))), (11, (.int .i64 (i70 + 1)))]) ⟨rfl, rfl, rfl, rfl, trivial⟩
        refine e_lq ?_; obtain rfl := Option.some.inj hF
        exact ⟨_, Nat.lt_succ_self _, (l67 ++ ([x137])), i70 + 1, v161, b163, ha.sub ⟨rfl, rfl, rfl, rfl, trivial⟩, hE171, hI172, h164, q170, hN133⟩
      replace hF := if_f hp136 hF; refine wp_exit ?_; refine e_then_exit ?_; refine e_lq_eq ?_; obtain rfl := Option.some.inj hF
      exact ⟨l67, v68, b69, ha.sub ⟨rfl, trivial⟩, hE72, h65, z66, (LK_inr hN133).symm⟩
  rintro a w120 ⟨l124, v125, b126, ha, hE132, h122, z123, rfl⟩
  have hF : F_impl_wide_k2 l124 = some _ := hK129; clear hK129; unfold F_impl_wide_k2 at hF
  refine e_then ?_; refine wp_seq ?_; refine wp_region_lit ?_; refine op_g ha rfl (g_move rfl) ?_; clear ha a; intro a ha; refine op_g ha rfl (g_assign rfl) ?_; clear ha a; intro a ha; refine wpList_nil ?_; replace ha := ha.sub (σ' := [(2, v125)]) ⟨rfl, trivial⟩; refine e_then ?_; refine wp_ret ?_; obtain rfl := Option.some.inj hF
  exact f_ret1 ha rfl rfl ⟨_, h122, z123, hE132⟩
set_option maxHeartbeats 2000000 in
theorem W_impl_LongerPath {W : World} {va0_0 : Value} {fa0_0 : List Nat} {a0_0 : (List (List Int))} (ha0_0 : Ro (Rp.sl 2 Rp.int) W fa0_0 va0_0 a0_0) {va1 : Value} {fa1 : List Nat} {a1 : (List (List Int))} (ha1 : Ro (Rp.sl 2 Rp.int) W fa1 va1 a1) (hG : GT 0 W) {r : (List Int)} (hF : F_impl_LongerPath a0_0 a1 = some r) :
    Calls Tryd.prog 17 [.agg #[va0_0], va1].toArray W (Ret fun u w' => ∃ (b_u : Int), Ow Rp.int 2 true w' [] b_u u r ∧ Zn W b_u ∧ Ext W w') := by
  refine f_enter Tryd.func17 rfl Tryd.ntmps17 rfl ?_
  intro a ha
  replace ha : Fr 58 [(0, (.agg #[va0_0])), (1, va1)] a := ha
  have hE : Chg [] W W := Chg.refl _ _
  unfold F_impl_LongerPath at hF
  refine wp_seq ?_; refine wp_region_lit ?_
  refine o_box ha rfl rfl rfl ?_; clear ha a; intro b1 w2 hB3 hx4 hlo5 a ha
  have q6 := Zn.one hlo5
  have q7 := Zn.upD q6 hE
  have hE8 := Ext.trans hE hx4
  refine op_g ha rfl (g_assign rfl) ?_; clear ha a; intro a ha; refine wpList_nil ?_; replace ha := ha.sub (σ' := [(1, va1), (2, (.pointer (some ⟨b1, 0, none⟩)))]) ⟨rfl, rfl, trivial⟩; refine e_then ?_; refine wp_seq ?_; refine wp_seq ?_; refine wp_region_lit ?_; refine op_g ha rfl (g_loadA (cs := [va0_0]) Tryd.isAgg29 Tryd.sizeOf29 rfl (by simp) hB3.all) ?_; clear ha a; intro a ha; refine op_g ha rfl (g_move rfl) ?_; clear ha a; intro a ha; obtain ⟨x9, hc10, hF⟩ := cal_some hF
  refine o_call ha rfl rfl Tryd.call37 (W_impl_MatchOk (ha0_0.ext hE8) (ha1.ext hE8) hc10) ?_; clear ha a; rintro v11 w12 ⟨rfl, hx13⟩ a ha
  replace hB3 := hB3.ext hx13
  have hE14 := Ext.trans hE8 hx13
  refine op_g ha rfl (g_not rfl) ?_; clear ha a; intro a ha; refine wpList_nil ?_; replace ha := ha.sub (σ' := [(1, va1), (2, (.pointer (some ⟨b1, 0, none⟩))), (13, (.bool (!x9)))]) ⟨rfl, rfl, rfl, trivial⟩; refine e_then ?_; refine c_cond (¬ (x9 = true)) ha rfl (n_iff (Iff.rfl)) (fun hp15 => ?_) (fun hp15 => ?_)
  · replace hF := if_t hp15 hF
    refine wp_seq ?_; refine wp_region_lit ?_; refine op_g ha rfl (g_assign rfl) ?_; clear ha a; intro a ha; refine wpList_nil ?_; replace ha := ha.sub (σ' := [(4, (.slice none 0 0))]) ⟨rfl, trivial⟩; refine e_then ?_; refine wp_ret ?_; refine e_then_ret ?_; obtain rfl := Option.some.inj hF
    exact f_ret1 ha rfl rfl ⟨-1, (Ow.nil (by decide)), (.inl (by decide)), hE14⟩
  replace hF := if_f hp15 hF; refine wp_skip ?_; refine e_then ?_; refine wp_seq ?_; refine wp_region_lit ?_; refine op_g ha rfl (g_loadA (cs := [va0_0]) Tryd.isAgg29 Tryd.sizeOf29 rfl (by simp) hB3.all) ?_; clear ha a; intro a ha; obtain ⟨x16, hc17, hF⟩ := cal_some hF
  refine o_call ha rfl rfl Tryd.call27 (W_impl_netsOf (ha0_0.ext hE14) hc17) ?_; clear ha a; rintro v18 w19 ⟨b21, h22, z23, hx20⟩ a ha
  have q25 := Nq.new hB3.fpb z23
  have q26 := Nq.madeO z23 hB3.bi
  replace hB3 := hB3.ext hx20
  have hE27 := Ext.trans hE14 hx20
  have q28 := Zn.upD z23 hE14
  refine op_g ha rfl (g_assign rfl) ?_; clear ha a; intro a ha; refine wpList_nil ?_; replace ha := ha.sub (σ' := [(1, va1), (5, v18)]) ⟨rfl, rfl, trivial⟩; refine e_then ?_; refine wp_seq ?_; refine wp_seq ?_; refine wp_region_lit ?_; refine op_g ha rfl (g_move rfl) ?_; clear ha a; intro a ha; refine op_g ha rfl (g_lenR sl22.und ha1 rfl) ?_; clear ha a; intro a ha; refine op_g ha rfl (g_move rfl) ?_; clear ha a; intro a ha
  obtain ⟨fp29, hro30, hs31⟩ := h22.roF
  obtain ⟨x32, hc33, hF⟩ := cal_some hF
  refine o_call ha rfl rfl Tryd.call38 (W_impl_mostEdges hro30 (hG.ext hE27) hc33) ?_; clear ha a; rintro v34 w35 ⟨b37, h38, z39, hx36⟩ a ha
  have q41 := Nq.new h22.fpb z39
  have q42 := Nq.madeO z39 h22.blt
  replace h22 := h22.ext hx36
  have hE43 := Ext.trans hE27 hx36
  have q44 := Zn.upD z39 hE27
  refine op_g ha rfl (g_move rfl) ?_; clear ha a; intro a ha
  obtain ⟨fp45, hro46, hs47⟩ := h22.roF
  obtain ⟨x48, hc49, hF⟩ := cal_some hF
  refine o_call ha rfl rfl Tryd.call29 (W_impl_nets_all hro46 hc49) ?_; clear ha a; rintro v50 w51 ⟨rfl, hx52⟩ a ha
  replace h22 := h22.ext hx52
  replace h38 := h38.ext hx52
  have hE53 := Ext.trans hE43 hx52
  obtain ⟨x54, g55, gx56, hF⟩ := idx_some hF
  obtain ⟨p57, cs58, f59, hf60, hpb61, hat62, hr63, hi64⟩ := h38.at g55 gx56
  obtain ⟨rfl, hI65, rfl⟩ := hr63
  refine op_g ha rfl (hi64.gives sl26 rfl rfl) ?_; clear ha a; intro a ha; refine op_g ha rfl (g_load Tryd.isAgg2 rfl hat62.one) ?_; clear ha a; intro a ha; refine op_g ha rfl (g_eql rfl rfl) ?_; clear ha a; intro a ha; refine wpList_nil ?_; replace ha := ha.sub (σ' := [(1, va1), (5, v18), (24, (.bool (decide ((a1.length : Int) = x54))))]) ⟨rfl, rfl, rfl, trivial⟩; refine e_then ?_; refine c_cond ((a1.length : Int) = x54) ha rfl (decide_eq_true_iff) (fun hp66 => ?_) (fun hp66 => ?_)
  · replace hF := if_t hp66 hF
    refine wp_seq ?_; refine wp_region_lit ?_; refine op_g ha rfl (g_assign rfl) ?_; clear ha a; intro a ha; refine wpList_nil ?_; replace ha := ha.sub (σ' := [(4, (.slice none 0 0))]) ⟨rfl, trivial⟩; refine e_then ?_; refine wp_ret ?_; refine e_then_ret ?_; obtain rfl := Option.some.inj hF
    exact f_ret1 ha rfl rfl ⟨-1, (Ow.nil (by decide)), (.inl (by decide)), hE53⟩
  replace hF := if_f hp66 hF; refine wp_skip ?_; refine e_then ?_; refine wp_seq ?_; refine wp_region_lit ?_; refine op_g ha rfl (g_move rfl) ?_; clear ha a; intro a ha; refine op_g ha rfl (g_lenO sl47.und h22 rfl) ?_; clear ha a; intro a ha; refine op_g ha rfl (g_move rfl) ?_; clear ha a; intro a ha; obtain ⟨x67, hc68, hF⟩ := cal_some hF
  refine o_call ha rfl rfl Tryd.call39 (W_impl_mates h22.len (ha1.ext hE53) hc68) ?_; clear ha a; rintro v69 w70 ⟨b72, h73, z74, hx71⟩ a ha
  have q76 := Nq.new h22.fpb z74
  have q77 := Nq.madeO z74 h22.blt
  replace h22 := h22.ext hx71
  have hE78 := Ext.trans hE53 hx71
  have q79 := Zn.upD z74 hE53
  refine op_g ha rfl (g_assign rfl) ?_; clear ha a; intro a ha; refine wpList_nil ?_; replace ha := ha.sub (σ' := [(5, v18), (6, v69)]) ⟨rfl, rfl, trivial⟩; refine e_then ?_; refine wp_seq ?_; refine wp_seq ?_; refine wp_region_lit ?_; refine op_g ha rfl (g_assign rfl) ?_; clear ha a; intro a ha; refine wpList_nil ?_; refine e_then ?_; obtain ⟨o765, ho766, hK767⟩ := bnd_some hF
  obtain ⟨n768, hn769⟩ := lp_some ho766; clear ho766
  refine c_loop (fun a w => Fr 58 [] a ∧ Chg [] W w ∧ o765 = .inl ()) (fun n a w => ∃ (i428 : Int), Fr 58 [(5, v18), (6, v69), (7, (.int .i64 i428))] a ∧ Chg [] W w ∧ InI i428 ∧ Ow Rp.u32 51 true w [] b21 v18 x16 ∧ Zn W b21 ∧ Ow Rp.int 3 true w [] b72 v69 x67 ∧ Zn W b72 ∧ Nq (bl b21 ++ []) b72 ∧ Nq (bl b72 ++ []) b21 ∧ lpN (fun s => F_impl_LongerPath_l1 x16 x67 s) n i428 = some o765) n768 ⟨2, ha.sub ⟨rfl, rfl, rfl, trivial⟩, hE78, (show InI 2 from by decide), h22, q28, h73, q79, q76, q77, hn769⟩ ?_ ?_
  · rintro m773 a w421 ⟨i428, ha, hE432, hI429, h423, z424, h426, z427, q430, q431, hF⟩
    cases m773 with
    | zero => exact (lpN_zero hF).elim
    | succ m773 =>
      obtain ⟨z772, hF, hN771⟩ := lpN_succ hF
      have hF : F_impl_LongerPath_l1 x16 x67 i428 = some z772 := hF; unfold F_impl_LongerPath_l1 at hF
      refine wp_seq ?_; refine wp_seq ?_; refine wp_region_lit ?_; (iterate 2 refine op_g ha rfl (g_move rfl) ?_; clear ha a; intro a ha); refine op_g ha rfl (g_lenO sl47.und h423 rfl) ?_; clear ha a; intro a ha; refine op_g ha rfl (g_leq rfl rfl) ?_; clear ha a; intro a ha; refine wpList_nil ?_; replace ha := ha.sub (σ' := [(5, v18), (6, v69), (7, (.int .i64 i428)), (32, (.bool (decide (i428 ≤ (x16.length : Int)))))]) ⟨rfl, rfl, rfl, rfl, trivial⟩; refine e_then ?_; refine c_cond (i428 ≤ (x16.length : Int)) ha rfl (decide_eq_true_iff) (fun hp774 => ?_) (fun hp774 => ?_)
      · replace hF := if_t hp774 hF
        refine wp_skip ?_; refine e_then ?_; refine wp_seq ?_; refine wp_block ?_; refine wp_seq ?_; refine wp_region_lit ?_; refine op_g ha rfl (g_move rfl) ?_; clear ha a; intro a ha; refine op_g ha rfl (g_lenO sl47.und h423 rfl) ?_; clear ha a; intro a ha; refine op_g ha rfl (g_move rfl) ?_; clear ha a; intro a ha; refine wpList_nil ?_; replace ha := ha.sub (σ' := [(5, v18), (6, v69), (7, (.int .i64 i428)), (36, (.int .i64 (x16.length : Int))), (37, (.int .i64 0))]) ⟨rfl, rfl, rfl, rfl, rfl, trivial⟩; refine e_then ?_; obtain ⟨o998, ho999, hK1000⟩ := bnd_some hF
        obtain ⟨n1001, hn1002⟩ := lp_some ho999; clear ho999
        refine c_loop (fun a w => Fr 58 [(5, v18), (6, v69), (7, (.int .i64 i428))] a ∧ Chg [] W w ∧ Ow Rp.u32 51 true w [] b21 v18 x16 ∧ Zn W b21 ∧ Ow Rp.int 3 true w [] b72 v69 x67 ∧ Zn W b72 ∧ Nq (bl b21 ++ []) b72 ∧ Nq (bl b72 ++ []) b21 ∧ o998 = .inl ()) (fun n a w => ∃ (i888 : Int), Fr 58 [(5, v18), (6, v69), (7, (.int .i64 i428)), (36, (.int .i64 (x16.length : Int))), (37, (.int .i64 i888))] a ∧ Chg [] W w ∧ InI i888 ∧ Ow Rp.u32 51 true w [] b21 v18 x16 ∧ Zn W b21 ∧ Ow Rp.int 3 true w [] b72 v69 x67 ∧ Zn W b72 ∧ Nq (bl b21 ++ []) b72 ∧ Nq (bl b72 ++ []) b21 ∧ lpN (fun s => F_impl_LongerPath_l2 x16 x67 i428 s) n i888 = some o998) n1001 ⟨0, ha.sub ⟨rfl, rfl, rfl, rfl, rfl, trivial⟩, hE432, (show InI 0 from by decide), h423, z424, h426, z427, q430, q431, hn1002⟩ ?_ ?_
        · rintro m1006 a w881 ⟨i888, ha, hE892, hI889, h883, z884, h886, z887, q890, q891, hF⟩
          cases m1006 with
          | zero => exact (lpN_zero hF).elim
          | succ m1006 =>
            obtain ⟨z1005, hF, hN1004⟩ := lpN_succ hF
            have hF : F_impl_LongerPath_l2 x16 x67 i428 i888 = some z1005 := hF; unfold F_impl_LongerPath_l2 at hF
            refine wp_seq ?_; refine wp_region_lit ?_; refine op_g ha rfl (g_lss rfl rfl) ?_; clear ha a; intro a ha; refine wpList_nil ?_; replace ha := ha.sub (σ' := [(5, v18), (6, v69), (7, (.int .i64 i428)), (36, (.int .i64 (x16.length : Int))), (37, (.int .i64 i888)), (38, (.bool (decide (i888 < (x16.length : Int)))))]) ⟨rfl, rfl, rfl, rfl, rfl, rfl, trivial⟩; refine e_then ?_; refine wp_seq ?_; refine c_cond (i888 < (x16.length : Int)) ha rfl (decide_eq_true_iff) (fun hp1007 => ?_) (fun hp1007 => ?_)
            · replace hF := if_t hp1007 hF
              refine wp_skip ?_; refine e_then ?_; refine wp_seq ?_; refine wp_block ?_; refine wp_seq ?_; refine wp_region_lit ?_; refine op_g ha rfl (g_move rfl) ?_; clear ha a; intro a ha; refine op_g ha rfl (g_assign rfl) ?_; clear ha a; intro a ha; refine wpList_nil ?_; replace ha := ha.sub (σ' := [(5, v18), (6, v69), (7, (.int .i64 i428)), (8, (.int .i64 i888)), (36, (.int .i64 (x16.length : Int))), (37, (.int .i64 i888))]) ⟨rfl, rfl, rfl, rfl, rfl, rfl, trivial⟩; refine e_then ?_; refine wp_seq ?_; refine wp_seq ?_; refine wp_region_lit ?_; (iterate 2 refine op_g ha rfl (g_move rfl) ?_; clear ha a; intro a ha)
              obtain ⟨x1008, g1009, gx1010, hF⟩ := idx_some hF
              obtain ⟨p1011, cs1012, f1013, hf1014, hpb1015, hat1016, hr1017, hi1018⟩ := h886.at g1009 gx1010
              obtain ⟨rfl, hI1019, rfl⟩ := hr1017
              refine op_g ha rfl (hi1018.gives sl53 rfl rfl) ?_; clear ha a; intro a ha; refine op_g ha rfl (g_load Tryd.isAgg3 rfl hat1016.one) ?_; clear ha a; intro a ha; refine op_g ha rfl (g_geq rfl rfl) ?_; clear ha a; intro a ha; refine wpList_nil ?_; replace ha := ha.sub (σ' := [(5, v18), (6, v69), (7, (.int .i64 i428)), (8, (.int .i64 i888)), (36, (.int .i64 (x16.length : Int))), (37, (.int .i64 i888)), (44, (.bool (decide (0 ≤ x1008))))]) ⟨rfl, rfl, rfl, rfl, rfl, rfl, rfl, trivial⟩; refine e_then ?_; refine c_cond (0 ≤ x1008) ha rfl (decide_eq_true_iff) (fun hp1020 => ?_) (fun hp1020 => ?_)
              · replace hF := if_t hp1020 hF
                refine wp_exit ?_; refine e_then_exit ?_; refine e_blk_eq ?_; refine e_then ?_; refine wp_region_lit ?_; obtain ⟨hI1021, hF⟩ := ck_some hF; refine op_g ha rfl (g_add rfl rfl hI1021) ?_; clear ha a; intro a ha; refine op_g ha rfl (g_move rfl) ?_; clear ha a; intro a ha; refine wpList_nil ?_; replace ha := ha.sub (σ' := [(5, v18), (6, v69), (7, (.int .i64 i428)), (36, (.int .i64 (x16.length : Int))), (37, (.int .i64 (i888 + 1)))]) ⟨rfl, rfl, rfl, rfl, rfl, trivial⟩; refine e_lq ?_; obtain rfl := Option.some.inj hF
                exact ⟨_, Nat.lt_succ_self _, i888 + 1, ha.sub ⟨rfl, rfl, rfl, rfl, rfl, trivial⟩, hE892, hI1021, h883, z884, h886, z887, q890, q891, hN1004⟩
              replace hF := if_f hp1020 hF; refine wp_skip ?_; refine e_then ?_; refine wp_seq ?_; refine wp_region_lit ?_; (iterate 3 refine op_g ha rfl (g_move rfl) ?_; clear ha a; intro a ha)
              refine o_lit1 (o := true) (y := i888) Rp.int ha rfl sl53 rfl rfl rfl ⟨rfl, hI889, rfl⟩ ?_; clear ha a; intro v1023 w1024 h1025 hx1026 a ha
              obtain ⟨b1028, hb1028⟩ : ∃ b : Int, b = w881.heap.size := ⟨_, rfl⟩; rw [← hb1028] at h1025
              have q1029 := zn_of hb1028
              have q1030 := Nq.new h883.fpb q1029
              have q1031 := Nq.madeO q1029 h883.blt
              have q1032 := Nq.new h886.fpb q1029
              have q1033 := Nq.madeO q1029 h886.blt
              have q1034 := Zn.upD q1029 hE892
              replace h883 := h883.ext hx1026
              replace h886 := h886.ext hx1026
              have hE1035 := Ext.trans hE892 hx1026
              refine op_g ha rfl (g_move rfl) ?_; clear ha a; intro a ha; obtain ⟨x1036, hc1037, hF⟩ := cal_some hF
              refine o_call ha rfl rfl Tryd.call41 (W_impl_one hI889 hc1037) ?_; clear ha a; rintro v1038 w1039 ⟨rfl, hx1040⟩ a ha
              replace h883 := h883.ext hx1040
              replace h886 := h886.ext hx1040
              replace h1025 := h1025.ext hx1040
              have hE1041 := Ext.trans hE1035 hx1040
              refine op_g ha rfl (g_move rfl) ?_; clear ha a; intro a ha
              obtain ⟨fp1042, hro1043, hs1044⟩ := h883.roF
              obtain ⟨fp1045, hro1046, hs1047⟩ := h886.roF
              obtain ⟨fp1048, hro1049, hs1050⟩ := h1025.roF
              obtain ⟨x1051, hc1052, hF⟩ := cal_some hF
              refine o_call ha rfl rfl Tryd.call40 (W_impl_longer hro1043 hro1046 hro1049 hI429 (hG.ext hE1041) hc1052) ?_; clear ha a; rintro v1053 w1054 ⟨b1056, h1057, z1058, hz1060, hx1055⟩ a ha
              have q1061 := Nq.new h883.fpb z1058
              have q1062 := Nq.madeO z1058 h883.blt
              have q1063 := Nq.new h886.fpb z1058
              have q1064 := Nq.madeO z1058 h886.blt
              have q1065 := Nq.new h1025.fpb z1058
              have q1066 := Nq.madeO z1058 h1025.blt
              replace h883 := h883.ext hx1055
              replace h886 := h886.ext hx1055
              replace h1025 := h1025.ext hx1055
              have hE1067 := Ext.trans hE1041 hx1055
              have q1068 := Zn.upD z1058 hE1041
              refine op_g ha rfl (g_assign rfl) ?_; clear ha a; intro a ha; refine wpList_nil ?_; replace ha := ha.sub (σ' := [(5, v18), (6, v69), (7, (.int .i64 i428)), (9, v1053), (36, (.int .i64 (x16.length : Int))), (37, (.int .i64 i888))]) ⟨rfl, rfl, rfl, rfl, rfl, rfl, trivial⟩; refine e_then ?_; refine wp_seq ?_; refine wp_region_lit ?_; refine op_g ha rfl (g_move rfl) ?_; clear ha a; intro a ha; refine op_g ha rfl (g_nnilz sl53.und rfl h1057 hz1060) ?_; clear ha a; intro a ha; refine wpList_nil ?_; replace ha := ha.sub (σ' := [(5, v18), (6, v69), (7, (.int .i64 i428)), (9, v1053), (36, (.int .i64 (x16.length : Int))), (37, (.int .i64 i888)), (54, (.bool (!(List.isEmpty x1051))))]) ⟨rfl, rfl, rfl, rfl, rfl, rfl, rfl, trivial⟩
              refine e_then ?_; refine c_cond (¬ (x1051 = [])) ha rfl (n_iff (List.isEmpty_iff)) (fun hp1069 => ?_) (fun hp1069 => ?_)
              · replace hF := if_t hp1069 hF
                refine wp_seq ?_; refine wp_region_lit ?_; refine op_g ha rfl (g_move rfl) ?_; clear ha a; intro a ha
                obtain ⟨fp1070, hro1071, hs1072⟩ := h1057.roF
                obtain ⟨x1073, hc1074, hF⟩ := cal_some hF
                refine o_call ha rfl rfl Tryd.call31 (W_impl_wide hro1071 hc1074) ?_; clear ha a; rintro v1075 w1076 ⟨b1078, h1079, z1080, hx1077⟩ a ha
                have q1082 := Nq.new h883.fpb z1080
                have q1083 := Nq.madeO z1080 h883.blt
                have q1084 := Nq.new h886.fpb z1080
                have q1085 := Nq.madeO z1080 h886.blt
                have q1086 := Nq.new h1057.fpb z1080
                have q1087 := Nq.madeO z1080 h1057.blt
                replace h883 := h883.ext hx1077
                replace h886 := h886.ext hx1077
                replace h1057 := h1057.ext hx1077
                have hE1088 := Ext.trans hE1067 hx1077
                have q1089 := Zn.upD z1080 hE1067
                refine op_g ha rfl (g_assign rfl) ?_; clear ha a; intro a ha; refine wpList_nil ?_; replace ha := ha.sub (σ' := [(4, v1075)]) ⟨rfl, trivial⟩; refine e_then ?_; refine wp_ret ?_; refine e_blk_ret ?_; refine e_then_ret ?_; refine e_lq_ret ?_; refine e_blk_ret ?_; refine e_then_ret ?_; refine e_lq_ret ?_; refine e_then_ret ?_; obtain rfl := Option.some.inj hF
                have e1090 := LK_inr hN1004; subst e1090
                have e1091 := BK_inr hK1000; subst e1091
                have e1092 := LK_inr hN771; subst e1092
                have e1093 := BK_inr hK767; subst e1093
                exact f_ret1 ha rfl rfl ⟨_, h1079, q1089, hE1088⟩
              replace hF := if_f hp1069 hF; refine wp_skip ?_; refine e_blk ?_; refine e_then ?_; refine wp_region_lit ?_; obtain ⟨hI1094, hF⟩ := ck_some hF; refine op_g ha rfl (g_add rfl rfl hI1094) ?_; clear ha a; intro a ha; refine op_g ha rfl (g_move rfl) ?_; clear ha a; intro a ha; refine wpList_nil ?_; replace ha := ha.sub (σ' := [(5, v18), (6, v69), (7, (.int .i64 i428)), (36, (.int .i64 (x16.length : Int))), (37, (.int .i64 (i888 + 1)))]) ⟨rfl, rfl, rfl, rfl, rfl, trivial⟩; refine e_lq ?_; obtain rfl := Option.some.inj hF
              exact ⟨_, Nat.lt_succ_self _, i888 + 1, ha.sub ⟨rfl, rfl, rfl, rfl, rfl, trivial⟩, hE1067, hI1094, h883, z884, h886, z887, q890, q891, hN1004⟩
            replace hF := if_f hp1007 hF; refine wp_exit ?_; refine e_then_exit ?_; refine e_lq_eq ?_; obtain rfl := Option.some.inj hF
            exact ⟨ha.sub ⟨rfl, rfl, rfl, trivial⟩, hE892, h883, z884, h886, z887, q890, q891, (LK_inr hN1004).symm⟩
        rintro a w989 ⟨ha, hE1003, h991, z992, h994, z995, q996, q997, rfl⟩
        have hF : F_impl_LongerPath_k3 i428 = some _ := hK1000; clear hK1000; unfold F_impl_LongerPath_k3 at hF
        refine e_blk ?_; refine e_then ?_; refine wp_region_lit ?_; refine op_g ha rfl (g_move rfl) ?_; clear ha a; intro a ha; obtain ⟨hI1096, hF⟩ := ck_some hF; refine op_g ha rfl (g_add rfl rfl hI1096) ?_; clear ha a; intro a ha; refine op_g ha rfl (g_assign rfl) ?_; clear ha a; intro a ha; refine wpList_nil ?_; replace ha := ha.sub (σ' := [(5, v18), (6, v69), (7, (.int .i64 (i428 + 2)))]) ⟨rfl, rfl, rfl, trivial⟩; refine e_lq ?_; obtain rfl := Option.some.inj hF
        exact ⟨_, Nat.lt_succ_self _, i428 + 2, ha.sub ⟨rfl, rfl, rfl, trivial⟩, hE1003, hI1096, h991, z992, h994, z995, q996, q997, hN771⟩
      replace hF := if_f hp774 hF; refine wp_exit ?_; refine e_then_exit ?_; refine e_lq_eq ?_; obtain rfl := Option.some.inj hF
      exact ⟨ha.sub trivial, hE432, (LK_inr hN771).symm⟩
  rintro a w764 ⟨ha, hE770, rfl⟩
  have hF : F_impl_LongerPath_k4 = some _ := hK767; clear hK767; unfold F_impl_LongerPath_k4 at hF
  refine e_then ?_; refine wp_seq ?_; refine wp_region_lit ?_; refine op_g ha rfl (g_assign rfl) ?_; clear ha a; intro a ha; refine wpList_nil ?_; refine e_then ?_; refine wp_ret ?_; obtain rfl := Option.some.inj hF
  exact f_ret1 ha rfl rfl ⟨-1, (Ow.nil (by decide)), (.inl (by decide)), hE770⟩
set_option maxHeartbeats 2000000 in
theorem W_laws_eqInt64S {W : World} {va0 : Value} {fa0 : List Nat} {a0 : (List Int)} (ha0 : Ro Rp.int W fa0 va0 a0) {va1 : Value} {fa1 : List Nat} {a1 : (List Int)} (ha1 : Ro Rp.int W fa1 va1 a1) {r : Bool} (hF : F_laws_eqInt64S a0 a1 = some r) :
    Calls Tryd.prog 9 [va0, va1].toArray W (Ret fun u w' => u = .bool r ∧ Ext W w') := by
  refine f_enter Tryd.func9 rfl Tryd.ntmps9 rfl ?_
  intro a ha
  replace ha : Fr 26 [(0, va0), (1, va1)] a := ha
  have hE : Chg [] W W := Chg.refl _ _
  unfold F_laws_eqInt64S at hF
  refine wp_seq ?_; refine wp_region_lit ?_; refine op_g ha rfl (g_assign rfl) ?_; clear ha a; intro a ha; refine wpList_nil ?_; replace ha := ha.sub (σ' := [(0, va0), (1, va1)]) ⟨rfl, rfl, trivial⟩; refine e_then ?_; refine wp_seq ?_; refine wp_seq ?_; refine wp_region_lit ?_; refine op_g ha rfl (g_move rfl) ?_; clear ha a; intro a ha; refine op_g ha rfl (g_lenR sl26.und ha0 rfl) ?_; clear ha a; intro a ha; refine op_g ha rfl (g_move rfl) ?_; clear ha a; intro a ha; refine op_g ha rfl (g_lenR sl26.und ha1 rfl) ?_; clear ha a; intro a ha; refine op_g ha rfl (g_neq rfl rfl) ?_; clear ha a; intro a ha
  refine wpList_nil ?_; replace ha := ha.sub (σ' := [(0, va0), (1, va1), (10, (.bool (decide ((a0.length : Int) ≠ (a1.length : Int)))))]) ⟨rfl, rfl, rfl, trivial⟩; refine e_then ?_; refine c_cond ((a0.length : Int) ≠ (a1.length : Int)) ha rfl (decide_eq_true_iff) (fun hp1 => ?_) (fun hp1 => ?_)
  · replace hF := if_t hp1 hF
    refine wp_seq ?_; refine wp_region_lit ?_; refine op_g ha rfl (g_assign rfl) ?_; clear ha a; intro a ha; refine wpList_nil ?_; replace ha := ha.sub (σ' := [(4, (.bool false))]) ⟨rfl, trivial⟩; refine e_then ?_; refine wp_ret ?_; refine e_then_ret ?_; obtain rfl := Option.some.inj hF
    exact f_ret1 ha rfl rfl ⟨rfl, hE⟩
  replace hF := if_f hp1 hF; refine wp_skip ?_; refine e_then ?_; refine wp_seq ?_; refine wp_seq ?_; refine wp_region_lit ?_; refine op_g ha rfl (g_assign rfl) ?_; clear ha a; intro a ha; refine wpList_nil ?_; replace ha := ha.sub (σ' := [(0, va0), (1, va1), (5, (.int .i64 0))]) ⟨rfl, rfl, rfl, trivial⟩; refine e_then ?_; obtain ⟨o77, ho78, hK79⟩ := bnd_some hF
  obtain ⟨n80, hn81⟩ := lp_some ho78; clear ho78
  refine c_loop (fun a w => Fr 26 [] a ∧ Chg [] W w ∧ o77 = .inl ()) (fun n a w => ∃ (i39 : Int), Fr 26 [(0, va0), (1, va1), (5, (.int .i64 i39))] a ∧ Chg [] W w ∧ InI i39 ∧ lpN (fun s => F_laws_eqInt64S_l1 a0 a1 s) n i39 = some o77) n80 ⟨0, ha.sub ⟨rfl, rfl, rfl, trivial⟩, hE, (show InI 0 from by decide), hn81⟩ ?_ ?_
  · rintro m85 a w38 ⟨i39, ha, hE41, hI40, hF⟩
    cases m85 with
    | zero => exact (lpN_zero hF).elim
    | succ m85 =>
      obtain ⟨z84, hF, hN83⟩ := lpN_succ hF
      have hF : F_laws_eqInt64S_l1 a0 a1 i39 = some z84 := hF; unfold F_laws_eqInt64S_l1 at hF
      refine wp_seq ?_; refine wp_seq ?_; refine wp_region_lit ?_; (iterate 2 refine op_g ha rfl (g_move rfl) ?_; clear ha a; intro a ha); refine op_g ha rfl (g_lenR sl26.und ha0 rfl) ?_; clear ha a; intro a ha; refine op_g ha rfl (g_lss rfl rfl) ?_; clear ha a; intro a ha; refine wpList_nil ?_; replace ha := ha.sub (σ' := [(0, va0), (1, va1), (5, (.int .i64 i39)), (14, (.bool (decide (i39 < (a0.length : Int)))))]) ⟨rfl, rfl, rfl, rfl, trivial⟩; refine e_then ?_; refine c_cond (i39 < (a0.length : Int)) ha rfl (decide_eq_true_iff) (fun hp86 => ?_) (fun hp86 => ?_)
      · replace hF := if_t hp86 hF
        refine wp_skip ?_; refine e_then ?_; refine wp_seq ?_; refine wp_block ?_; refine wp_seq ?_; refine d_quiet hmix (by kernel_rfl) ?_; (iterate 2 refine q_g ha rfl (g_move rfl) ?_; clear ha a; intro a ha); obtain ⟨x87, g88, gx89, hF⟩ := idx_some hF
        obtain ⟨p90, cs91, f92, hf93, hpb94, hat95, hr96, hi97⟩ := ha0.at g88 gx89
        obtain ⟨rfl, hI98, rfl⟩ := hr96
        refine q_g ha rfl (hi97.gives sl26 rfl rfl) ?_; clear ha a; intro a ha; refine q_g ha rfl (g_load0 hE41 Tryd.isAgg2 rfl hat95.one) ?_; clear ha a; intro a ha; (iterate 2 refine q_g ha rfl (g_move rfl) ?_; clear ha a; intro a ha); obtain ⟨x99, g100, gx101, hF⟩ := idx_some hF
        obtain ⟨p102, cs103, f104, hf105, hpb106, hat107, hr108, hi109⟩ := ha1.at g100 gx101
        obtain ⟨rfl, hI110, rfl⟩ := hr108
        refine q_g ha rfl (hi109.gives sl26 rfl rfl) ?_; clear ha a; intro a ha; refine q_g ha rfl (g_load0 hE41 Tryd.isAgg2 rfl hat107.one) ?_; clear ha a; intro a ha; refine q_g ha rfl (g_neq rfl rfl) ?_; clear ha a; intro a ha
        refine q_nil ?_; intro w111 hx112
        have hE113 := Ext.trans hE41 hx112
        replace ha := ha.sub (σ' := [(0, va0), (1, va1), (5, (.int .i64 i39)), (25, (.bool (decide (x87 ≠ x99))))]) ⟨rfl, rfl, rfl, rfl, trivial⟩; refine e_then ?_; refine c_cond (x87 ≠ x99) ha rfl (decide_eq_true_iff) (fun hp114 => ?_) (fun hp114 => ?_)
        · replace hF := if_t hp114 hF
          refine wp_seq ?_; refine wp_region_lit ?_; refine op_g ha rfl (g_assign rfl) ?_; clear ha a; intro a ha; refine wpList_nil ?_; replace ha := ha.sub (σ' := [(4, (.bool false))]) ⟨rfl, trivial⟩; refine e_then ?_; refine wp_ret ?_; refine e_blk_ret ?_; refine e_then_ret ?_; refine e_lq_ret ?_; refine e_then_ret ?_; obtain rfl := Option.some.inj hF
          have e115 := LK_inr hN83; subst e115
          have e116 := BK_inr hK79; subst e116
          exact f_ret1 ha rfl rfl ⟨rfl, hE113⟩
        replace hF := if_f hp114 hF; refine wp_skip ?_; refine e_blk ?_; refine e_then ?_; refine wp_region_lit ?_; refine op_g ha rfl (g_move rfl) ?_; clear ha a; intro a ha; obtain ⟨hI117, hF⟩ := ck_some hF; refine op_g ha rfl (g_add rfl rfl hI117) ?_; clear ha a; intro a ha; refine op_g ha rfl (g_assign rfl) ?_; clear ha a; intro a ha; refine wpList_nil ?_; replace ha := ha.sub (σ' := [(0, va0), (1, va1), (5, (.int .i64 (i39 + 1)))]) ⟨rfl, rfl, rfl, trivial⟩; refine e_lq ?_; obtain rfl := Option.some.inj hF
        exact ⟨_, Nat.lt_succ_self _, i39 + 1, ha.sub ⟨rfl, rfl, rfl, trivial⟩, hE113, hI117, hN83⟩
      replace hF := if_f hp86 hF; refine wp_exit ?_; refine e_then_exit ?_; refine e_lq_eq ?_; obtain rfl := Option.some.inj hF
      exact ⟨ha.sub trivial, hE41, (LK_inr hN83).symm⟩
  rintro a w76 ⟨ha, hE82, rfl⟩
  have hF : F_laws_eqInt64S_k2 = some _ := hK79; clear hK79; unfold F_laws_eqInt64S_k2 at hF
  refine e_then ?_; refine wp_seq ?_; refine wp_region_lit ?_; refine op_g ha rfl (g_assign rfl) ?_; clear ha a; intro a ha; refine wpList_nil ?_; refine e_then ?_; refine wp_ret ?_; obtain rfl := Option.some.inj hF
  exact f_ret1 ha rfl rfl ⟨rfl, hE82⟩
set_option maxHeartbeats 2000000 in
theorem W_laws_eqInt64SS {W : World} {va0 : Value} {fa0 : List Nat} {a0 : (List (List Int))} (ha0 : Ro (Rp.sl 2 Rp.int) W fa0 va0 a0) {va1 : Value} {fa1 : List Nat} {a1 : (List (List Int))} (ha1 : Ro (Rp.sl 2 Rp.int) W fa1 va1 a1) {r : Bool} (hF : F_laws_eqInt64SS a0 a1 = some r) :
    Calls Tryd.prog 18 [va0, va1].toArray W (Ret fun u w' => u = .bool r ∧ Ext W w') := by
  refine f_enter Tryd.func18 rfl Tryd.ntmps18 rfl ?_
  intro a ha
  replace ha : Fr 27 [(0, va0), (1, va1)] a := ha
  have hE : Chg [] W W := Chg.refl _ _
  unfold F_laws_eqInt64SS at hF
  refine wp_seq ?_; refine wp_region_lit ?_; refine op_g ha rfl (g_assign rfl) ?_; clear ha a; intro a ha; refine wpList_nil ?_; replace ha := ha.sub (σ' := [(0, va0), (1, va1)]) ⟨rfl, rfl, trivial⟩; refine e_then ?_; refine wp_seq ?_; refine wp_seq ?_; refine wp_region_lit ?_; refine op_g ha rfl (g_move rfl) ?_; clear ha a; intro a ha; refine op_g ha rfl (g_lenR sl22.und ha0 rfl) ?_; clear ha a; intro a ha; refine op_g ha rfl (g_move rfl) ?_; clear ha a; intro a ha; refine op_g ha rfl (g_lenR sl22.und ha1 rfl) ?_; clear ha a; intro a ha; refine op_g ha rfl (g_neq rfl rfl) ?_; clear ha a; intro a ha
  refine wpList_nil ?_; replace ha := ha.sub (σ' := [(0, va0), (1, va1), (10, (.bool (decide ((a0.length : Int) ≠ (a1.length : Int)))))]) ⟨rfl, rfl, rfl, trivial⟩; refine e_then ?_; refine c_cond ((a0.length : Int) ≠ (a1.length : Int)) ha rfl (decide_eq_true_iff) (fun hp1 => ?_) (fun hp1 => ?_)
  · replace hF := if_t hp1 hF
    refine wp_seq ?_; refine wp_region_lit ?_; refine op_g ha rfl (g_assign rfl) ?_; clear ha a; intro a ha; refine wpList_nil ?_; replace ha := ha.sub (σ' := [(4, (.bool false))]) ⟨rfl, trivial⟩; refine e_then ?_; refine wp_ret ?_; refine e_then_ret ?_; obtain rfl := Option.some.inj hF
    exact f_ret1 ha rfl rfl ⟨rfl, hE⟩
  replace hF := if_f hp1 hF; refine wp_skip ?_; refine e_then ?_; refine wp_seq ?_; refine wp_seq ?_; refine wp_region_lit ?_; refine op_g ha rfl (g_assign rfl) ?_; clear ha a; intro a ha; refine wpList_nil ?_; replace ha := ha.sub (σ' := [(0, va0), (1, va1), (5, (.int .i64 0))]) ⟨rfl, rfl, rfl, trivial⟩; refine e_then ?_; obtain ⟨o93, ho94, hK95⟩ := bnd_some hF
  obtain ⟨n96, hn97⟩ := lp_some ho94; clear ho94
  refine c_loop (fun a w => Fr 27 [] a ∧ Chg [] W w ∧ o93 = .inl ()) (fun n a w => ∃ (i47 : Int), Fr 27 [(0, va0), (1, va1), (5, (.int .i64 i47))] a ∧ Chg [] W w ∧ InI i47 ∧ lpN (fun s => F_laws_eqInt64SS_l1 a0 a1 s) n i47 = some o93) n96 ⟨0, ha.sub ⟨rfl, rfl, rfl, trivial⟩, hE, (show InI 0 from by decide), hn97⟩ ?_ ?_
  · rintro m101 a w46 ⟨i47, ha, hE49, hI48, hF⟩
    cases m101 with
    | zero => exact (lpN_zero hF).elim
    | succ m101 =>
      obtain ⟨z100, hF, hN99⟩ := lpN_succ hF
      have hF : F_laws_eqInt64SS_l1 a0 a1 i47 = some z100 := hF; unfold F_laws_eqInt64SS_l1 at hF
      refine wp_seq ?_; refine wp_seq ?_; refine wp_region_lit ?_; (iterate 2 refine op_g ha rfl (g_move rfl) ?_; clear ha a; intro a ha); refine op_g ha rfl (g_lenR sl22.und ha0 rfl) ?_; clear ha a; intro a ha; refine op_g ha rfl (g_lss rfl rfl) ?_; clear ha a; intro a ha; refine wpList_nil ?_; replace ha := ha.sub (σ' := [(0, va0), (1, va1), (5, (.int .i64 i47)), (14, (.bool (decide (i47 < (a0.length : Int)))))]) ⟨rfl, rfl, rfl, rfl, trivial⟩; refine e_then ?_; refine c_cond (i47 < (a0.length : Int)) ha rfl (decide_eq_true_iff) (fun hp102 => ?_) (fun hp102 => ?_)
      · replace hF := if_t hp102 hF
        refine wp_skip ?_; refine e_then ?_; refine wp_seq ?_; refine wp_block ?_; refine wp_seq ?_; refine d_quiet hmix (by kernel_rfl) ?_; (iterate 2 refine q_g ha rfl (g_move rfl) ?_; clear ha a; intro a ha); obtain ⟨x103, g104, gx105, hF⟩ := idx_some hF
        obtain ⟨p106, cs107, f108, hf109, hpb110, hat111, hr112, hi113⟩ := ha0.at g104 gx105
        obtain ⟨v114, rfl, h115⟩ := hr112
        have h115 : Ro Rp.int W f108 v114 x103 := h115
        refine q_g ha rfl (hi113.gives sl22 rfl rfl) ?_; clear ha a; intro a ha; refine q_g ha rfl (g_load0 hE49 Tryd.isAgg26 rfl hat111.one) ?_; clear ha a; intro a ha; (iterate 2 refine q_g ha rfl (g_move rfl) ?_; clear ha a; intro a ha); obtain ⟨x117, g118, gx119, hF⟩ := idx_some hF
        obtain ⟨p120, cs121, f122, hf123, hpb124, hat125, hr126, hi127⟩ := ha1.at g118 gx119
        obtain ⟨v128, rfl, h129⟩ := hr126
        have h129 : Ro Rp.int W f122 v128 x117 := h129
        refine q_g ha rfl (hi127.gives sl22 rfl rfl) ?_; clear ha a; intro a ha; refine q_g ha rfl (g_load0 hE49 Tryd.isAgg26 rfl hat125.one) ?_; clear ha a; intro a ha; obtain ⟨x133, hc134, hF⟩ := cal_some hF; refine q_call (.bool x133) ha rfl rfl Tryd.call9 (fun w132 hx131 => W_laws_eqInt64S (h115.ext (Ext.trans hE49 hx131)) (h129.ext (Ext.trans hE49 hx131)) hc134) (fun _ _ _ h => ⟨h.1, h.2⟩) ?_; clear ha a; intro a ha; refine q_g ha rfl (g_not rfl) ?_; clear ha a; intro a ha
        refine q_nil ?_; intro w135 hx136
        have hE137 := Ext.trans hE49 hx136
        replace ha := ha.sub (σ' := [(0, va0), (1, va1), (5, (.int .i64 i47)), (26, (.bool (!x133)))]) ⟨rfl, rfl, rfl, rfl, trivial⟩; refine e_then ?_; refine c_cond (¬ (x133 = true)) ha rfl (n_iff (Iff.rfl)) (fun hp138 => ?_) (fun hp138 => ?_)
        · replace hF := if_t hp138 hF
          refine wp_seq ?_; refine wp_region_lit ?_; refine op_g ha rfl (g_assign rfl) ?_; clear ha a; intro a ha; refine wpList_nil ?_; replace ha := ha.sub (σ' := [(4, (.bool false))]) ⟨rfl, trivial⟩; refine e_then ?_; refine wp_ret ?_; refine e_blk_ret ?_; refine e_then_ret ?_; refine e_lq_ret ?_; refine e_then_ret ?_; obtain rfl := Option.some.inj hF
          have e139 := LK_inr hN99; subst e139
          have e140 := BK_inr hK95; subst e140
          exact f_ret1 ha rfl rfl ⟨rfl, hE137⟩
        replace hF := if_f hp138 hF; refine wp_skip ?_; refine e_blk ?_; refine e_then ?_; refine wp_region_lit ?_; refine op_g ha rfl (g_move rfl) ?_; clear ha a; intro a ha; obtain ⟨hI141, hF⟩ := ck_some hF; refine op_g ha rfl (g_add rfl rfl hI141) ?_; clear ha a; intro a ha; refine op_g ha rfl (g_assign rfl) ?_; clear ha a; intro a ha; refine wpList_nil ?_; replace ha := ha.sub (σ' := [(0, va0), (1, va1), (5, (.int .i64 (i47 + 1)))]) ⟨rfl, rfl, rfl, trivial⟩; refine e_lq ?_; obtain rfl := Option.some.inj hF
        exact ⟨_, Nat.lt_succ_self _, i47 + 1, ha.sub ⟨rfl, rfl, rfl, trivial⟩, hE137, hI141, hN99⟩
      replace hF := if_f hp102 hF; refine wp_exit ?_; refine e_then_exit ?_; refine e_lq_eq ?_; obtain rfl := Option.some.inj hF
      exact ⟨ha.sub trivial, hE49, (LK_inr hN99).symm⟩
  rintro a w92 ⟨ha, hE98, rfl⟩
  have hF : F_laws_eqInt64SS_k2 = some _ := hK95; clear hK95; unfold F_laws_eqInt64SS_k2 at hF
  refine e_then ?_; refine wp_seq ?_; refine wp_region_lit ?_; refine op_g ha rfl (g_assign rfl) ?_; clear ha a; intro a ha; refine wpList_nil ?_; refine e_then ?_; refine wp_ret ?_; obtain rfl := Option.some.inj hF
  exact f_ret1 ha rfl rfl ⟨rfl, hE98⟩
set_option maxHeartbeats 2000000 in
theorem W_laws_eqGraph {W : World} {va0_0 : Value} {fa0_0 : List Nat} {a0_0 : (List (List Int))} (ha0_0 : Ro (Rp.sl 2 Rp.int) W fa0_0 va0_0 a0_0) {va1_0 : Value} {fa1_0 : List Nat} {a1_0 : (List (List Int))} (ha1_0 : Ro (Rp.sl 2 Rp.int) W fa1_0 va1_0 a1_0) {r : Bool} (hF : F_laws_eqGraph a0_0 a1_0 = some r) :
    Calls Tryd.prog 10 [.agg #[va0_0], .agg #[va1_0]].toArray W (Ret fun u w' => u = .bool r ∧ Ext W w') := by
  refine f_enter Tryd.func10 rfl Tryd.ntmps10 rfl ?_
  intro a ha
  replace ha : Fr 11 [(0, (.agg #[va0_0])), (1, (.agg #[va1_0]))] a := ha
  have hE : Chg [] W W := Chg.refl _ _
  unfold F_laws_eqGraph at hF
  refine wp_seq ?_; refine wp_region_lit ?_
  refine o_box ha rfl rfl rfl ?_; clear ha a; intro b1 w2 hB3 hx4 hlo5 a ha
  have q6 := Zn.one hlo5
  have q7 := Zn.upD q6 hE
  have hE8 := Ext.trans hE hx4
  refine o_box ha rfl rfl rfl ?_; clear ha a; intro b9 w10 hB11 hx12 hlo13 a ha
  have q14 := Zn.one hlo13
  have q15 := Nq.new hB3.fpb q14
  have q16 := Nq.made1 hlo13 hB3.bi
  have q17 := Zn.upD q14 hE8
  replace hB3 := hB3.ext hx12
  have hE18 := Ext.trans hE8 hx12
  refine op_g ha rfl (g_assign rfl) ?_; clear ha a; intro a ha; refine wpList_nil ?_; replace ha := ha.sub (σ' := [(2, (.pointer (some ⟨b1, 0, none⟩))), (3, (.pointer (some ⟨b9, 0, none⟩)))]) ⟨rfl, rfl, trivial⟩; refine e_then ?_; refine wp_seq ?_; refine wp_seq ?_; refine wp_region_lit ?_; refine op_g ha rfl (g_field0 st29_0 rfl) ?_; clear ha a; intro a ha; refine op_g ha rfl (g_load Tryd.isAgg22 rfl (hB3.cell rfl)) ?_; clear ha a; intro a ha; refine op_g ha rfl (g_field0 st29_0 rfl) ?_; clear ha a; intro a ha; refine op_g ha rfl (g_load Tryd.isAgg22 rfl (hB11.cell rfl)) ?_; clear ha a; intro a ha
  obtain ⟨x19, hc20, hF⟩ := cal_some hF
  refine o_call ha rfl rfl Tryd.call18 (W_laws_eqInt64SS (ha0_0.ext hE18) (ha1_0.ext hE18) hc20) ?_; clear ha a; rintro v21 w22 ⟨rfl, hx23⟩ a ha
  replace hB3 := hB3.ext hx23
  replace hB11 := hB11.ext hx23
  have hE24 := Ext.trans hE18 hx23
  refine op_g ha rfl (g_not rfl) ?_; clear ha a; intro a ha; refine wpList_nil ?_; replace ha := ha.sub (σ' := [(10, (.bool (!x19)))]) ⟨rfl, trivial⟩; refine e_then ?_; refine c_cond (¬ (x19 = true)) ha rfl (n_iff (Iff.rfl)) (fun hp25 => ?_) (fun hp25 => ?_)
  · replace hF := if_t hp25 hF
    refine wp_seq ?_; refine wp_region_lit ?_; refine op_g ha rfl (g_assign rfl) ?_; clear ha a; intro a ha; refine wpList_nil ?_; replace ha := ha.sub (σ' := [(4, (.bool false))]) ⟨rfl, trivial⟩; refine e_then ?_; refine wp_ret ?_; refine e_then_ret ?_; obtain rfl := Option.some.inj hF
    exact f_ret1 ha rfl rfl ⟨rfl, hE24⟩
  replace hF := if_f hp25 hF; refine wp_skip ?_; refine e_then ?_; refine wp_seq ?_; refine wp_region_lit ?_; refine op_g ha rfl (g_assign rfl) ?_; clear ha a; intro a ha; refine wpList_nil ?_; replace ha := ha.sub (σ' := [(4, (.bool true))]) ⟨rfl, trivial⟩; refine e_then ?_; refine wp_ret ?_; obtain rfl := Option.some.inj hF
  exact f_ret1 ha rfl rfl ⟨rfl, hE24⟩
set_option maxHeartbeats 2000000 in
theorem W_laws_markInt64S {W : World} {va0 : Value} {ba0 : Int} {a0 : (List Int)} (ha0 : Ow Rp.int 2 true W [] ba0 va0 a0) {a1 : Int} (ha1 : InI a1) {r : (Int × (List Int))} (hF : F_laws_markInt64S a0 a1 = some r) :
    Calls Tryd.prog 12 [va0, .int .i64 a1].toArray W (Ret fun u w' => (u = .int .i64 r.1 ∧ InI r.1) ∧ Ow Rp.int 2 true w' [] ba0 va0 r.2 ∧ Chg (bl ba0) W w') := by
  refine f_enter Tryd.func12 rfl Tryd.ntmps12 rfl ?_
  intro a ha
  replace ha : Fr 19 [(0, va0), (1, (.int .i64 a1))] a := ha
  have hE : Chg (bl ba0) W W := Chg.refl _ _
  unfold F_laws_markInt64S at hF
  refine wp_seq ?_; refine wp_region_lit ?_; refine op_g ha rfl (g_assign rfl) ?_; clear ha a; intro a ha; refine wpList_nil ?_; replace ha := ha.sub (σ' := [(0, va0), (1, (.int .i64 a1))]) ⟨rfl, rfl, trivial⟩; refine e_then ?_; refine wp_seq ?_; refine wp_seq ?_; refine wp_region_lit ?_; refine op_g ha rfl (g_assign rfl) ?_; clear ha a; intro a ha; refine wpList_nil ?_; refine e_then ?_; obtain ⟨o85, ho86, hK87⟩ := bnd_some hF
  obtain ⟨n88, hn89⟩ := lp_some ho86; clear ho86
  refine c_loop (fun a w => ∃ (i79 : Int) (l82 : (List Int)), Fr 19 [(1, (.int .i64 i79))] a ∧ Chg (bl ba0) W w ∧ InI i79 ∧ Ow Rp.int 2 true w [] ba0 va0 l82 ∧ o85 = .inl (i79, l82)) (fun n a w => ∃ (l38 : (List Int)) (i41 : Int) (i43 : Int), Fr 19 [(0, va0), (1, (.int .i64 i41)), (5, (.int .i64 i43))] a ∧ Chg (bl ba0) W w ∧ InI i41 ∧ InI i43 ∧ Ow Rp.int 2 true w [] ba0 va0 l38 ∧ lpN (fun s => F_laws_markInt64S_l1 s.1 s.2.1 s.2.2) n (l38, i41, i43) = some o85) n88 ⟨a0, a1, 0, ha.sub ⟨rfl, rfl, rfl, trivial⟩, hE, ha1, (show InI 0 from by decide), ha0, hn89⟩ ?_ ?_
  · rintro m93 a w36 ⟨l38, i41, i43, ha, hE45, hI42, hI44, h37, hF⟩
    cases m93 with
    | zero => exact (lpN_zero hF).elim
    | succ m93 =>
      obtain ⟨z92, hF, hN91⟩ := lpN_succ hF
      have hF : F_laws_markInt64S_l1 l38 i41 i43 = some z92 := hF; unfold F_laws_markInt64S_l1 at hF
      refine wp_seq ?_; refine wp_seq ?_; refine wp_region_lit ?_; (iterate 2 refine op_g ha rfl (g_move rfl) ?_; clear ha a; intro a ha); refine op_g ha rfl (g_lenO sl26.und h37 rfl) ?_; clear ha a; intro a ha; refine op_g ha rfl (g_lss rfl rfl) ?_; clear ha a; intro a ha; refine wpList_nil ?_; replace ha := ha.sub (σ' := [(0, va0), (1, (.int .i64 i41)), (5, (.int .i64 i43)), (9, (.bool (decide (i43 < (l38.length : Int)))))]) ⟨rfl, rfl, rfl, rfl, trivial⟩; refine e_then ?_; refine c_cond (i43 < (l38.length : Int)) ha rfl (decide_eq_true_iff) (fun hp94 => ?_) (fun hp94 => ?_)
      · replace hF := if_t hp94 hF
        refine wp_skip ?_; refine e_then ?_; refine wp_seq ?_; refine wp_block ?_; refine wp_seq ?_; refine wp_region_lit ?_; (iterate 3 refine op_g ha rfl (g_move rfl) ?_; clear ha a; intro a ha); obtain ⟨x95, g96, gx97, hF⟩ := idx_some hF
        obtain ⟨p98, cs99, f100, hf101, hpb102, hat103, hr104, hi105⟩ := h37.at g96 gx97
        obtain ⟨rfl, hI106, rfl⟩ := hr104
        refine op_g ha rfl (hi105.gives sl26 rfl rfl) ?_; clear ha a; intro a ha
        refine o_storeE (f := []) (q := i41) ha Tryd.sizeOf2 rfl rfl rfl h37 hi105 ⟨rfl, hI42, rfl⟩ (Nq.nil _) ?_; intro w107 fs108 h109 hc110 hs111
        obtain rfl := Subst.nil hs111
        have hE112 := Chg.same hE45 hc110
        refine wpList_nil ?_; replace ha := ha.sub (σ' := [(0, va0), (1, (.int .i64 i41)), (5, (.int .i64 i43))]) ⟨rfl, rfl, rfl, trivial⟩; refine e_then ?_; refine wp_region_lit ?_; refine op_g ha rfl (g_move rfl) ?_; clear ha a; intro a ha; obtain ⟨hI113, hF⟩ := ck_some hF; refine op_g ha rfl (g_add rfl rfl hI113) ?_; clear ha a; intro a ha; refine op_g ha rfl (g_assign rfl) ?_; clear ha a; intro a ha; refine wpList_nil ?_; replace ha := ha.sub (σ' := [(0, va0), (1, (.int .i64 (i41 + 1))), (5, (.int .i64 i43))]) ⟨rfl, rfl, rfl, trivial⟩; refine e_blk ?_; refine e_then ?_; refine wp_region_lit ?_
        refine op_g ha rfl (g_move rfl) ?_; clear ha a; intro a ha; obtain ⟨hI115, hF⟩ := ck_some hF; refine op_g ha rfl (g_add rfl rfl hI115) ?_; clear ha a; intro a ha; refine op_g ha rfl (g_assign rfl) ?_; clear ha a; intro a ha; refine wpList_nil ?_; replace ha := ha.sub (σ' := [(0, va0), (1, (.int .i64 (i41 + 1))), (5, (.int .i64 (i43 + 1)))]) ⟨rfl, rfl, rfl, trivial⟩; refine e_lq ?_; obtain rfl := Option.some.inj hF
        exact ⟨_, Nat.lt_succ_self _, (l38.set ((i43 : Int).toNat) i41), i41 + 1, i43 + 1, ha.sub ⟨rfl, rfl, rfl, trivial⟩, hE112, hI113, hI115, h109, hN91⟩
      replace hF := if_f hp94 hF; refine wp_exit ?_; refine e_then_exit ?_; refine e_lq_eq ?_; obtain rfl := Option.some.inj hF
      exact ⟨i41, l38, ha.sub ⟨rfl, trivial⟩, hE45, hI42, h37, (LK_inr hN91).symm⟩
  rintro a w78 ⟨i79, l82, ha, hE90, hI80, h81, rfl⟩
  have hF : F_laws_markInt64S_k2 i79 l82 = some _ := hK87; clear hK87; unfold F_laws_markInt64S_k2 at hF
  refine e_then ?_; refine wp_seq ?_; refine wp_region_lit ?_; refine op_g ha rfl (g_move rfl) ?_; clear ha a; intro a ha; refine op_g ha rfl (g_assign rfl) ?_; clear ha a; intro a ha; refine wpList_nil ?_; replace ha := ha.sub (σ' := [(4, (.int .i64 i79))]) ⟨rfl, trivial⟩; refine e_then ?_; refine wp_ret ?_; obtain rfl := Option.some.inj hF
  exact f_ret1 ha rfl rfl ⟨⟨rfl, hI80⟩, h81, hE90⟩
set_option maxHeartbeats 2000000 in
theorem W_laws_markInt64SS {W : World} {va0 : Value} {ba0 : Int} {fa0 : List Nat} {a0 : (List (List Int))} (ha0 : Ow (Rp.sl 2 Rp.int) 26 true W fa0 ba0 va0 a0) (nda0 : (bl ba0 ++ fa0).Nodup) {a1 : Int} (ha1 : InI a1) {r : (Int × (List (List Int)))} (hF : F_laws_markInt64SS a0 a1 = some r) :
    Calls Tryd.prog 19 [va0, .int .i64 a1].toArray W (Ret fun u w' => (u = .int .i64 r.1 ∧ InI r.1) ∧ Ow (Rp.sl 2 Rp.int) 26 true w' fa0 ba0 va0 r.2 ∧ Chg ((bl ba0 ++ fa0)) W w') := by
  refine f_enter Tryd.func19 rfl Tryd.ntmps19 rfl ?_
  intro a ha
  replace ha : Fr 19 [(0, va0), (1, (.int .i64 a1))] a := ha
  have hE : Chg ((bl ba0 ++ fa0)) W W := Chg.refl _ _
  unfold F_laws_markInt64SS at hF
  refine wp_seq ?_; refine wp_region_lit ?_; refine op_g ha rfl (g_assign rfl) ?_; clear ha a; intro a ha; refine wpList_nil ?_; replace ha := ha.sub (σ' := [(0, va0), (1, (.int .i64 a1))]) ⟨rfl, rfl, trivial⟩; refine e_then ?_; refine wp_seq ?_; refine wp_seq ?_; refine wp_region_lit ?_; refine op_g ha rfl (g_assign rfl) ?_; clear ha a; intro a ha; refine wpList_nil ?_; refine e_then ?_; obtain ⟨o101, ho102, hK103⟩ := bnd_some hF
  obtain ⟨n104, hn105⟩ := lp_some ho102; clear ho102
  refine c_loop (fun a w => ∃ (i95 : Int) (l98 : (List (List Int))), Fr 19 [(1, (.int .i64 i95))] a ∧ Chg ((bl ba0 ++ fa0)) W w ∧ InI i95 ∧ Ow (Rp.sl 2 Rp.int) 26 true w fa0 ba0 va0 l98 ∧ o101 = .inl (i95, l98)) (fun n a w => ∃ (l46 : (List (List Int))) (i49 : Int) (i51 : Int), Fr 19 [(0, va0), (1, (.int .i64 i49)), (5, (.int .i64 i51))] a ∧ Chg ((bl ba0 ++ fa0)) W w ∧ InI i49 ∧ InI i51 ∧ Ow (Rp.sl 2 Rp.int) 26 true w fa0 ba0 va0 l46 ∧ lpN (fun s => F_laws_markInt64SS_l1 s.1 s.2.1 s.2.2) n (l46, i49, i51) = some o101) n104 ⟨a0, a1, 0, ha.sub ⟨rfl, rfl, rfl, trivial⟩, hE, ha1, (show InI 0 from by decide), ha0, hn105⟩ ?_ ?_
  · rintro m109 a w44 ⟨l46, i49, i51, ha, hE53, hI50, hI52, h45, hF⟩
    cases m109 with
    | zero => exact (lpN_zero hF).elim
    | succ m109 =>
      obtain ⟨z108, hF, hN107⟩ := lpN_succ hF
      have hF : F_laws_markInt64SS_l1 l46 i49 i51 = some z108 := hF; unfold F_laws_markInt64SS_l1 at hF
      refine wp_seq ?_; refine wp_seq ?_; refine wp_region_lit ?_; (iterate 2 refine op_g ha rfl (g_move rfl) ?_; clear ha a; intro a ha); refine op_g ha rfl (g_lenO sl22.und h45 rfl) ?_; clear ha a; intro a ha; refine op_g ha rfl (g_lss rfl rfl) ?_; clear ha a; intro a ha; refine wpList_nil ?_; replace ha := ha.sub (σ' := [(0, va0), (1, (.int .i64 i49)), (5, (.int .i64 i51)), (9, (.bool (decide (i51 < (l46.length : Int)))))]) ⟨rfl, rfl, rfl, rfl, trivial⟩; refine e_then ?_; refine c_cond (i51 < (l46.length : Int)) ha rfl (decide_eq_true_iff) (fun hp110 => ?_) (fun hp110 => ?_)
      · replace hF := if_t hp110 hF
        refine wp_skip ?_; refine e_then ?_; refine wp_seq ?_; refine wp_block ?_; refine wp_region_lit ?_; (iterate 2 refine op_g ha rfl (g_move rfl) ?_; clear ha a; intro a ha); obtain ⟨x111, g112, gx113, hF⟩ := idx_some hF
        obtain ⟨p114, cs115, f116, hf117, hpb118, hat119, hr120, hi121⟩ := h45.at g112 gx113
        replace hr120 := (Rp.sl 2 Rp.int).weak hr120
        obtain ⟨v122, rfl, h123⟩ := hr120
        have h123 : Ro Rp.int w44 f116 v122 x111 := h123
        have q125 := Nq.mono (Ow.ne h45) hf117
        refine op_g ha rfl (hi121.gives sl22 rfl rfl) ?_; clear ha a; intro a ha; refine op_g ha rfl (g_load Tryd.isAgg26 rfl hat119.one) ?_; clear ha a; intro a ha; refine op_g ha rfl (g_move rfl) ?_; clear ha a; intro a ha
        obtain ⟨b126, h127, hm128, hb129⟩ := Ow.row (k := 0) (lens_sl 2 Rp.int) scal_int h45 nda0 gx113 hi121 hat119 rfl rfl
        obtain ⟨x130, hc131, hF⟩ := cal_some hF
        refine o_call ha rfl rfl Tryd.call12 (W_laws_markInt64S h127 hI50 hc131) ?_; clear ha a; rintro v132 w133 ⟨⟨rfl, hI135⟩, h136, hx134⟩ a ha
        have h137 := hb129 w133 _ hx134 h136
        have hE138 := Chg.join hE53 hx134 (S2.par hm128)
        refine op_g ha rfl (g_assign rfl) ?_; clear ha a; intro a ha; refine wpList_nil ?_; replace ha := ha.sub (σ' := [(0, va0), (1, (.int .i64 x130.1)), (5, (.int .i64 i51))]) ⟨rfl, rfl, rfl, trivial⟩; refine e_blk ?_; refine e_then ?_; refine wp_region_lit ?_; refine op_g ha rfl (g_move rfl) ?_; clear ha a; intro a ha; obtain ⟨hI139, hF⟩ := ck_some hF; refine op_g ha rfl (g_add rfl rfl hI139) ?_; clear ha a; intro a ha; refine op_g ha rfl (g_assign rfl) ?_; clear ha a; intro a ha; refine wpList_nil ?_; replace ha := ha.sub (σ' := [(0, va0), (1, (.int .i64 x130.1)), (5, (.int .i64 (i51 + 1)))]) ⟨rfl, rfl, rfl, trivial⟩
        refine e_lq ?_; obtain rfl := Option.some.inj hF
        exact ⟨_, Nat.lt_succ_self _, (l46.set ((i51 : Int).toNat) x130.2), x130.1, i51 + 1, ha.sub ⟨rfl, rfl, rfl, trivial⟩, hE138, hI135, hI139, h137, hN107⟩
      replace hF := if_f hp110 hF; refine wp_exit ?_; refine e_then_exit ?_; refine e_lq_eq ?_; obtain rfl := Option.some.inj hF
      exact ⟨i49, l46, ha.sub ⟨rfl, trivial⟩, hE53, hI50, h45, (LK_inr hN107).symm⟩
  rintro a w94 ⟨i95, l98, ha, hE106, hI96, h97, rfl⟩
  have hF : F_laws_markInt64SS_k2 i95 l98 = some _ := hK103; clear hK103; unfold F_laws_markInt64SS_k2 at hF
  refine e_then ?_; refine wp_seq ?_; refine wp_region_lit ?_; refine op_g ha rfl (g_move rfl) ?_; clear ha a; intro a ha; refine op_g ha rfl (g_assign rfl) ?_; clear ha a; intro a ha; refine wpList_nil ?_; replace ha := ha.sub (σ' := [(4, (.int .i64 i95))]) ⟨rfl, trivial⟩; refine e_then ?_; refine wp_ret ?_; obtain rfl := Option.some.inj hF
  exact f_ret1 ha rfl rfl ⟨⟨rfl, hI96⟩, h97, hE106⟩
set_option maxHeartbeats 2000000 in
theorem W_laws_markGraph {W : World} {va0_0 : Value} {ba0_0 : Int} {fa0_0 : List Nat} {a0_0 : (List (List Int))} (ha0_0 : Ow (Rp.sl 2 Rp.int) 26 true W fa0_0 ba0_0 va0_0 a0_0) (nda0_0 : (bl ba0_0 ++ fa0_0).Nodup) {a1 : Int} (ha1 : InI a1) {r : (Int × (List (List Int)))} (hF : F_laws_markGraph a0_0 a1 = some r) :
    Calls Tryd.prog 11 [.agg #[va0_0], .int .i64 a1].toArray W (Ret fun u w' => (u = .int .i64 r.1 ∧ InI r.1) ∧ Ow (Rp.sl 2 Rp.int) 26 true w' fa0_0 ba0_0 va0_0 r.2 ∧ Chg ((bl ba0_0 ++ fa0_0)) W w') := by
  refine f_enter Tryd.func11 rfl Tryd.ntmps11 rfl ?_
  intro a ha
  replace ha : Fr 10 [(0, (.agg #[va0_0])), (1, (.int .i64 a1))] a := ha
  have hE : Chg ((bl ba0_0 ++ fa0_0)) W W := Chg.refl _ _
  unfold F_laws_markGraph at hF
  refine wp_seq ?_; refine wp_region_lit ?_
  refine o_box ha rfl rfl rfl ?_; clear ha a; intro b1 w2 hB3 hx4 hlo5 a ha
  have q6 := Zn.one hlo5
  have q7 := Nq.new ha0_0.fpb q6
  have q8 := Nq.made1 hlo5 ha0_0.blt
  have q9 := Zn.upD q6 hE
  replace ha0_0 := ha0_0.ext hx4
  have hE10 := Chg.more hE hx4
  refine op_g ha rfl (g_assign rfl) ?_; clear ha a; intro a ha; refine wpList_nil ?_; replace ha := ha.sub (σ' := [(1, (.int .i64 a1)), (2, (.pointer (some ⟨b1, 0, none⟩)))]) ⟨rfl, rfl, trivial⟩; refine e_then ?_; refine wp_seq ?_; refine wp_region_lit ?_; refine op_g ha rfl (g_field0 st29_0 rfl) ?_; clear ha a; intro a ha; refine op_g ha rfl (g_load Tryd.isAgg22 rfl (hB3.cell rfl)) ?_; clear ha a; intro a ha; refine op_g ha rfl (g_move rfl) ?_; clear ha a; intro a ha; obtain ⟨x11, hc12, hF⟩ := cal_some hF
  refine o_call ha rfl rfl Tryd.call19 (W_laws_markInt64SS ha0_0 nda0_0 ha1 hc12) ?_; clear ha a; rintro v13 w14 ⟨⟨rfl, hI16⟩, h17, hx15⟩ a ha
  have hE18 := Chg.join hE10 hx15 (S2.par (fun _ h => h))
  refine op_g ha rfl (g_assign rfl) ?_; clear ha a; intro a ha; refine wpList_nil ?_; replace ha := ha.sub (σ' := [(1, (.int .i64 x11.1))]) ⟨rfl, trivial⟩; refine e_then ?_; refine wp_seq ?_; refine wp_region_lit ?_; refine op_g ha rfl (g_move rfl) ?_; clear ha a; intro a ha; refine op_g ha rfl (g_assign rfl) ?_; clear ha a; intro a ha; refine wpList_nil ?_; replace ha := ha.sub (σ' := [(4, (.int .i64 x11.1))]) ⟨rfl, trivial⟩; refine e_then ?_; refine wp_ret ?_; obtain rfl := Option.some.inj hF
  exact f_ret1 ha rfl rfl ⟨⟨rfl, hI16⟩, h17, hE18⟩
set_option maxHeartbeats 2000000 in
theorem W_laws_heldInt64S {W : World} {va0 : Value} {fa0 : List Nat} {a0 : (List Int)} (ha0 : Ro Rp.int W fa0 va0 a0) {a1 : Int} (ha1 : InI a1) {r : Int} (hF : F_laws_heldInt64S a0 a1 = some r) :
    Calls Tryd.prog 13 [va0, .int .i64 a1].toArray W (Ret fun u w' => (u = .int .i64 r ∧ InI r) ∧ Ext W w') := by
  refine f_enter Tryd.func13 rfl Tryd.ntmps13 rfl ?_
  intro a ha
  replace ha : Fr 21 [(0, va0), (1, (.int .i64 a1))] a := ha
  have hE : Chg [] W W := Chg.refl _ _
  unfold F_laws_heldInt64S at hF
  refine wp_seq ?_; refine wp_region_lit ?_; refine op_g ha rfl (g_assign rfl) ?_; clear ha a; intro a ha; refine wpList_nil ?_; replace ha := ha.sub (σ' := [(0, va0), (1, (.int .i64 a1))]) ⟨rfl, rfl, trivial⟩; refine e_then ?_; refine wp_seq ?_; refine wp_seq ?_; refine wp_region_lit ?_; refine op_g ha rfl (g_assign rfl) ?_; clear ha a; intro a ha; refine wpList_nil ?_; refine e_then ?_; obtain ⟨o58, ho59, hK60⟩ := bnd_some hF
  obtain ⟨n61, hn62⟩ := lp_some ho59; clear ho59
  refine c_loop (fun a w => ∃ (i56 : Int), Fr 21 [(1, (.int .i64 i56))] a ∧ Chg [] W w ∧ InI i56 ∧ o58 = .inl i56) (fun n a w => ∃ (i27 : Int) (i29 : Int), Fr 21 [(0, va0), (1, (.int .i64 i27)), (5, (.int .i64 i29))] a ∧ Chg [] W w ∧ InI i27 ∧ InI i29 ∧ lpN (fun s => F_laws_heldInt64S_l1 a0 s.1 s.2) n (i27, i29) = some o58) n61 ⟨a1, 0, ha.sub ⟨rfl, rfl, rfl, trivial⟩, hE, ha1, (show InI 0 from by decide), hn62⟩ ?_ ?_
  · rintro m66 a w26 ⟨i27, i29, ha, hE31, hI28, hI30, hF⟩
    cases m66 with
    | zero => exact (lpN_zero hF).elim
    | succ m66 =>
      obtain ⟨z65, hF, hN64⟩ := lpN_succ hF
      have hF : F_laws_heldInt64S_l1 a0 i27 i29 = some z65 := hF; unfold F_laws_heldInt64S_l1 at hF
      refine wp_seq ?_; refine wp_seq ?_; refine wp_region_lit ?_; (iterate 2 refine op_g ha rfl (g_move rfl) ?_; clear ha a; intro a ha); refine op_g ha rfl (g_lenR sl26.und ha0 rfl) ?_; clear ha a; intro a ha; refine op_g ha rfl (g_lss rfl rfl) ?_; clear ha a; intro a ha; refine wpList_nil ?_; replace ha := ha.sub (σ' := [(0, va0), (1, (.int .i64 i27)), (5, (.int .i64 i29)), (9, (.bool (decide (i29 < (a0.length : Int)))))]) ⟨rfl, rfl, rfl, rfl, trivial⟩; refine e_then ?_; refine c_cond (i29 < (a0.length : Int)) ha rfl (decide_eq_true_iff) (fun hp67 => ?_) (fun hp67 => ?_)
      · replace hF := if_t hp67 hF
        refine wp_skip ?_; refine e_then ?_; refine wp_seq ?_; refine wp_block ?_; refine wp_seq ?_; refine wp_seq ?_; refine wp_region_lit ?_; (iterate 2 refine op_g ha rfl (g_move rfl) ?_; clear ha a; intro a ha); obtain ⟨x68, g69, gx70, hF⟩ := idx_some hF
        obtain ⟨p71, cs72, f73, hf74, hpb75, hat76, hr77, hi78⟩ := ha0.at g69 gx70
        obtain ⟨rfl, hI79, rfl⟩ := hr77
        refine op_g ha rfl (hi78.gives sl26 rfl rfl) ?_; clear ha a; intro a ha; refine op_g ha rfl (g_load0 hE31 Tryd.isAgg2 rfl hat76.one) ?_; clear ha a; intro a ha; refine op_g ha rfl (g_move rfl) ?_; clear ha a; intro a ha; refine op_g ha rfl (g_neq rfl rfl) ?_; clear ha a; intro a ha; refine wpList_nil ?_; replace ha := ha.sub (σ' := [(0, va0), (1, (.int .i64 i27)), (5, (.int .i64 i29)), (17, (.bool (decide (x68 ≠ i27))))]) ⟨rfl, rfl, rfl, rfl, trivial⟩; refine e_then ?_; refine c_cond (x68 ≠ i27) ha rfl (decide_eq_true_iff) (fun hp80 => ?_) (fun hp80 => ?_)
        · replace hF := if_t hp80 hF
          refine wp_seq ?_; refine wp_region_lit ?_; refine op_g ha rfl (g_assign rfl) ?_; clear ha a; intro a ha; refine wpList_nil ?_; replace ha := ha.sub (σ' := [(4, (.int .i64 (-1)))]) ⟨rfl, trivial⟩; refine e_then ?_; refine wp_ret ?_; refine e_then_ret ?_; refine e_blk_ret ?_; refine e_then_ret ?_; refine e_lq_ret ?_; refine e_then_ret ?_; obtain rfl := Option.some.inj hF
          have e81 := LK_inr hN64; subst e81
          have e82 := BK_inr hK60; subst e82
          exact f_ret1 ha rfl rfl ⟨⟨rfl, (show InI (-1) from by decide)⟩, hE31⟩
        replace hF := if_f hp80 hF; refine wp_skip ?_; refine e_then ?_; refine wp_region_lit ?_; refine op_g ha rfl (g_move rfl) ?_; clear ha a; intro a ha; obtain ⟨hI83, hF⟩ := ck_some hF; refine op_g ha rfl (g_add rfl rfl hI83) ?_; clear ha a; intro a ha; refine op_g ha rfl (g_assign rfl) ?_; clear ha a; intro a ha; refine wpList_nil ?_; replace ha := ha.sub (σ' := [(0, va0), (1, (.int .i64 (i27 + 1))), (5, (.int .i64 i29))]) ⟨rfl, rfl, rfl, trivial⟩; refine e_blk ?_; refine e_then ?_; refine wp_region_lit ?_; refine op_g ha rfl (g_move rfl) ?_; clear ha a; intro a ha; obtain ⟨hI85, hF⟩ := ck_some hF
        refine op_g ha rfl (g_add rfl rfl hI85) ?_; clear ha a; intro a ha; refine op_g ha rfl (g_assign rfl) ?_; clear ha a; intro a ha; refine wpList_nil ?_; replace ha := ha.sub (σ' := [(0, va0), (1, (.int .i64 (i27 + 1))), (5, (.int .i64 (i29 + 1)))]) ⟨rfl, rfl, rfl, trivial⟩; refine e_lq ?_; obtain rfl := Option.some.inj hF
        exact ⟨_, Nat.lt_succ_self _, i27 + 1, i29 + 1, ha.sub ⟨rfl, rfl, rfl, trivial⟩, hE31, hI83, hI85, hN64⟩
      replace hF := if_f hp67 hF; refine wp_exit ?_; refine e_then_exit ?_; refine e_lq_eq ?_; obtain rfl := Option.some.inj hF
      exact ⟨i27, ha.sub ⟨rfl, trivial⟩, hE31, hI28, (LK_inr hN64).symm⟩
  rintro a w55 ⟨i56, ha, hE63, hI57, rfl⟩
  have hF : F_laws_heldInt64S_k2 i56 = some _ := hK60; clear hK60; unfold F_laws_heldInt64S_k2 at hF
  refine e_then ?_; refine wp_seq ?_; refine wp_region_lit ?_; refine op_g ha rfl (g_move rfl) ?_; clear ha a; intro a ha; refine op_g ha rfl (g_assign rfl) ?_; clear ha a; intro a ha; refine wpList_nil ?_; replace ha := ha.sub (σ' := [(4, (.int .i64 i56))]) ⟨rfl, trivial⟩; refine e_then ?_; refine wp_ret ?_; obtain rfl := Option.some.inj hF
  exact f_ret1 ha rfl rfl ⟨⟨rfl, hI57⟩, hE63⟩
set_option maxHeartbeats 2000000 in
theorem W_laws_FnExactLongerPath {W : World} {va0_0 : Value} {fa0_0 : List Nat} {a0_0 : (List (List Int))} (ha0_0 : Ro (Rp.sl 2 Rp.int) W fa0_0 va0_0 a0_0) {va1 : Value} {fa1 : List Nat} {a1 : (List (List Int))} (ha1 : Ro (Rp.sl 2 Rp.int) W fa1 va1 a1) (hG : GT 0 W) {r : Bool} (hF : F_laws_FnExactLongerPath a0_0 a1 = some r) :
    Calls Tryd.prog 4 [.agg #[va0_0], va1].toArray W (Ret fun u w' => u = .bool r ∧ Ext W w') := by
  refine f_enter Tryd.func4 rfl Tryd.ntmps4 rfl ?_
  intro a ha
  replace ha : Fr 92 [(0, (.agg #[va0_0])), (1, va1)] a := ha
  have hE : Chg [] W W := Chg.refl _ _
  unfold F_laws_FnExactLongerPath at hF
  refine wp_seq ?_; refine wp_region_lit ?_
  refine o_box ha rfl rfl rfl ?_; clear ha a; intro b1 w2 hB3 hx4 hlo5 a ha
  have q6 := Zn.one hlo5
  have q7 := Zn.upD q6 hE
  have hE8 := Ext.trans hE hx4
  refine op_g ha rfl (g_assign rfl) ?_; clear ha a; intro a ha; refine wpList_nil ?_; replace ha := ha.sub (σ' := [(1, va1), (2, (.pointer (some ⟨b1, 0, none⟩)))]) ⟨rfl, rfl, trivial⟩; refine e_then ?_; refine wp_seq ?_; refine wp_region_lit ?_; refine op_g ha rfl (g_assign rfl) ?_; clear ha a; intro a ha; refine wpList_nil ?_; refine e_then ?_; refine wp_seq ?_; refine wp_region_lit ?_; refine op_g ha rfl (g_loadA (cs := [va0_0]) Tryd.isAgg24 Tryd.sizeOf24 rfl (by simp) hB3.all) ?_; clear ha a; intro a ha; refine op_g ha rfl (g_move rfl) ?_; clear ha a; intro a ha; obtain ⟨x9, hc10, hF⟩ := cal_some hF
  refine o_call ha rfl rfl Tryd.call5 (W_laws_szGraph (ha0_0.ext hE8) (show InI 1048576 from by decide) hc10) ?_; clear ha a; rintro v11 w12 ⟨⟨rfl, hI14⟩, hx13⟩ a ha
  replace hB3 := hB3.ext hx13
  have hE15 := Ext.trans hE8 hx13
  refine op_g ha rfl (g_assign rfl) ?_; clear ha a; intro a ha; refine wpList_nil ?_; replace ha := ha.sub (σ' := [(1, va1), (2, (.pointer (some ⟨b1, 0, none⟩))), (5, (.int .i64 x9))]) ⟨rfl, rfl, rfl, trivial⟩; refine e_then ?_; refine wp_seq ?_; refine wp_seq ?_; refine wp_region_lit ?_; refine op_g ha rfl (g_move rfl) ?_; clear ha a; intro a ha; refine op_g ha rfl (g_lss rfl rfl) ?_; clear ha a; intro a ha; refine wpList_nil ?_; replace ha := ha.sub (σ' := [(1, va1), (2, (.pointer (some ⟨b1, 0, none⟩))), (5, (.int .i64 x9)), (18, (.bool (decide (x9 < 0))))]) ⟨rfl, rfl, rfl, rfl, trivial⟩; refine e_then ?_
  refine c_cond (x9 < 0) ha rfl (decide_eq_true_iff) (fun hp16 => ?_) (fun hp16 => ?_)
  · replace hF := if_t hp16 hF
    refine wp_seq ?_; refine wp_region_lit ?_; refine op_g ha rfl (g_assign rfl) ?_; clear ha a; intro a ha; refine wpList_nil ?_; replace ha := ha.sub (σ' := [(4, (.bool true))]) ⟨rfl, trivial⟩; refine e_then ?_; refine wp_ret ?_; refine e_then_ret ?_; obtain rfl := Option.some.inj hF
    exact f_ret1 ha rfl rfl ⟨rfl, hE15⟩
  replace hF := if_f hp16 hF; refine wp_skip ?_; refine e_then ?_; refine wp_seq ?_; refine wp_region_lit ?_; (iterate 2 refine op_g ha rfl (g_move rfl) ?_; clear ha a; intro a ha); obtain ⟨x17, hc18, hF⟩ := cal_some hF
  refine o_call ha rfl rfl Tryd.call14 (W_laws_szInt64SS (ha1.ext hE15) hI14 hc18) ?_; clear ha a; rintro v19 w20 ⟨⟨rfl, hI22⟩, hx21⟩ a ha
  replace hB3 := hB3.ext hx21
  have hE23 := Ext.trans hE15 hx21
  refine op_g ha rfl (g_assign rfl) ?_; clear ha a; intro a ha; refine wpList_nil ?_; replace ha := ha.sub (σ' := [(1, va1), (2, (.pointer (some ⟨b1, 0, none⟩))), (5, (.int .i64 x17))]) ⟨rfl, rfl, rfl, trivial⟩; refine e_then ?_; refine wp_seq ?_; refine wp_seq ?_; refine wp_region_lit ?_; refine op_g ha rfl (g_move rfl) ?_; clear ha a; intro a ha; refine op_g ha rfl (g_lss rfl rfl) ?_; clear ha a; intro a ha; refine wpList_nil ?_; replace ha := ha.sub (σ' := [(1, va1), (2, (.pointer (some ⟨b1, 0, none⟩))), (23, (.bool (decide (x17 < 0))))]) ⟨rfl, rfl, rfl, trivial⟩; refine e_then ?_; refine c_cond (x17 < 0) ha rfl (decide_eq_true_iff) (fun hp24 => ?_) (fun hp24 => ?_)
  · replace hF := if_t hp24 hF
    refine wp_seq ?_; refine wp_region_lit ?_; refine op_g ha rfl (g_assign rfl) ?_; clear ha a; intro a ha; refine wpList_nil ?_; replace ha := ha.sub (σ' := [(4, (.bool true))]) ⟨rfl, trivial⟩; refine e_then ?_; refine wp_ret ?_; refine e_then_ret ?_; obtain rfl := Option.some.inj hF
    exact f_ret1 ha rfl rfl ⟨rfl, hE23⟩
  replace hF := if_f hp24 hF; refine wp_skip ?_; refine e_then ?_; refine wp_seq ?_; refine wp_region_lit ?_; refine op_g ha rfl (g_loadA (cs := [va0_0]) Tryd.isAgg24 Tryd.sizeOf24 rfl (by simp) hB3.all) ?_; clear ha a; intro a ha; obtain ⟨x25, hc26, hF⟩ := cal_some hF
  refine o_call ha rfl rfl Tryd.call7 (W_laws_toGraph (ha0_0.ext hE23) hc26) ?_; clear ha a; rintro v27 w28 ⟨u30, b31, fs35, rfl, h32, z33, zf36, nd37, hx29⟩ a ha
  have q38 := Nq.new hB3.fpb z33
  have q39 := Nq.madeF z33 zf36 hB3.bi
  have q40 := Nf.new hB3.fpb zf36
  replace hB3 := hB3.ext hx29
  have hE41 := Ext.trans hE23 hx29
  have q42 := Zn.upD z33 hE23
  have q43 := zf_up zf36 hE23
  refine op_g ha rfl (g_move rfl) ?_; clear ha a; intro a ha; obtain ⟨x44, hc45, hF⟩ := cal_some hF
  refine o_call ha rfl rfl Tryd.call16 (W_laws_toInt64SS (ha1.ext hE41) hc45) ?_; clear ha a; rintro v46 w47 ⟨b49, fs53, h50, z51, zf54, nd55, hx48⟩ a ha
  have q56 := Nq.new hB3.fpb z51
  have q57 := Nq.madeF z51 zf54 hB3.bi
  have q58 := Nq.new h32.fpb z51
  have q59 := Nq.madeF z51 zf54 h32.blt
  have q60 := Nf.new hB3.fpb zf54
  have q61 := Nf.new h32.fpb zf54
  have q62 := Nf.old z51 zf54 h32.bnd
  replace hB3 := hB3.ext hx48
  replace h32 := h32.ext hx48
  have hE63 := Ext.trans hE41 hx48
  have q64 := Zn.upD z51 hE41
  have q65 := zf_up zf54 hE41
  obtain ⟨fp66, hro67, hs68⟩ := h32.roF
  obtain ⟨fp69, hro70, hs71⟩ := h50.roF
  obtain ⟨x72, hc73, hF⟩ := cal_some hF
  refine o_call ha rfl rfl Tryd.call15 (W_spec_LongerPath hro67 hro70 hc73) ?_; clear ha a; rintro v74 w75 ⟨fp77, h78, pv79, hx76⟩ a ha
  have q81 := Nq.rd pv79 (Nq.append (Nq.mono q39 hs68) (Nq.mono q57 hs71)) hB3.bi
  replace hB3 := hB3.ext hx76
  replace h32 := h32.ext hx76
  replace h50 := h50.ext hx76
  have hE82 := Ext.trans hE63 hx76
  refine op_g ha rfl (g_assign rfl) ?_; clear ha a; intro a ha; refine wpList_nil ?_; replace ha := ha.sub (σ' := [(1, va1), (2, (.pointer (some ⟨b1, 0, none⟩))), (6, v74)]) ⟨rfl, rfl, rfl, trivial⟩; refine e_then ?_; refine wp_seq ?_; refine wp_region_lit ?_; refine op_g ha rfl (g_loadA (cs := [va0_0]) Tryd.isAgg24 Tryd.sizeOf24 rfl (by simp) hB3.all) ?_; clear ha a; intro a ha; obtain ⟨x83, hc84, hF⟩ := cal_some hF
  refine o_call ha rfl rfl Tryd.call7 (W_laws_toGraph (ha0_0.ext hE82) hc84) ?_; clear ha a; rintro v85 w86 ⟨u88, b89, fs93, rfl, h90, z91, zf94, nd95, hx87⟩ a ha
  have q96 := Nq.new hB3.fpb z91
  have q97 := Nq.madeF z91 zf94 hB3.bi
  have q98 := Nq.new h78.bnd z91
  have q99 := Nf.new hB3.fpb zf94
  have q100 := Nf.new h78.bnd zf94
  replace hB3 := hB3.ext hx87
  replace h78 := h78.ext hx87
  have hE101 := Ext.trans hE82 hx87
  have q102 := Zn.upD z91 hE82
  have q103 := zf_up zf94 hE82
  refine o_alloc (cs := [(.slice none 0 0)]) ha rfl Tryd.zeroValue29 rfl ?_; clear ha a; intro b104 w105 hB106 hx107 hlo108 a ha
  have q109 := Zn.one hlo108
  have q110 := Nq.new hB3.fpb q109
  have q111 := Nq.made1 hlo108 hB3.bi
  have q112 := Nq.new h78.bnd q109
  have q113 := Nq.new h90.fpb q109
  have q114 := Nq.made1 hlo108 h90.blt
  have q115 := Zn.upD q109 hE101
  replace hB3 := hB3.ext hx107
  replace h78 := h78.ext hx107
  replace h90 := h90.ext hx107
  have hE116 := Ext.trans hE101 hx107
  refine o_storeA (vs := [u88]) ha hB106 Tryd.sizeOf29 rfl rfl (by intro c hc; simp only [List.mem_cons, List.not_mem_nil, or_false] at hc; rcases hc with hc <;> subst hc <;> first | rfl | exact h90.oneC) rfl ?_; intro w117 hB118 hc119
  replace hc119 := hc119.bl
  replace hB118 : Bx w117 b104 [u88] 29 := hB118
  replace hB3 := hB3.nq hc119 q110
  replace h78 := h78.nq hc119 q112
  replace h90 := h90.nq hc119 q113
  have hE120 := Ext.then hE116 hc119 (Zn.bl q115)
  refine wpList_nil ?_; replace ha := ha.sub (σ' := [(1, va1), (2, (.pointer (some ⟨b1, 0, none⟩))), (6, v74), (7, (.pointer (some ⟨b104, 0, none⟩)))]) ⟨rfl, rfl, rfl, rfl, trivial⟩; refine e_then ?_; refine wp_seq ?_; refine wp_region_lit ?_; refine op_g ha rfl (g_move rfl) ?_; clear ha a; intro a ha; obtain ⟨x121, hc122, hF⟩ := cal_some hF
  refine o_call ha rfl rfl Tryd.call16 (W_laws_toInt64SS (ha1.ext hE120) hc122) ?_; clear ha a; rintro v123 w124 ⟨b126, fs130, h127, z128, zf131, nd132, hx125⟩ a ha
  have q133 := Nq.new hB3.fpb z128
  have q134 := Nq.madeF z128 zf131 hB3.bi
  have q135 := Nq.new h78.bnd z128
  have q136 := Nq.new h90.fpb z128
  have q137 := Nq.madeF z128 zf131 h90.blt
  have q138 := Nq.new hB118.fpb z128
  have q139 := Nq.madeF z128 zf131 hB118.bi
  have q140 := Nf.new hB3.fpb zf131
  have q141 := Nf.new h78.bnd zf131
  have q142 := Nf.new h90.fpb zf131
  have q143 := Nf.old z128 zf131 h90.bnd
  have q144 := Nf.new hB118.fpb zf131
  replace hB3 := hB3.ext hx125
  replace h78 := h78.ext hx125
  replace h90 := h90.ext hx125
  replace hB118 := hB118.ext hx125
  have hE145 := Ext.trans hE120 hx125
  have q146 := Zn.upD z128 hE120
  have q147 := zf_up zf131 hE120
  refine op_g ha rfl (g_assign rfl) ?_; clear ha a; intro a ha; refine wpList_nil ?_; replace ha := ha.sub (σ' := [(1, va1), (2, (.pointer (some ⟨b1, 0, none⟩))), (6, v74), (7, (.pointer (some ⟨b104, 0, none⟩))), (8, v123)]) ⟨rfl, rfl, rfl, rfl, rfl, trivial⟩; refine e_then ?_; refine wp_seq ?_; refine wp_region_lit ?_; refine op_g ha rfl (g_loadA (cs := [u88]) Tryd.isAgg29 Tryd.sizeOf29 rfl (by simp) hB118.all) ?_; clear ha a; intro a ha; refine op_g ha rfl (g_move rfl) ?_; clear ha a; intro a ha
  obtain ⟨fp148, hro149, hs150⟩ := h90.roF
  obtain ⟨fp151, hro152, hs153⟩ := h127.roF
  obtain ⟨x154, hc155, hF⟩ := cal_some hF
  refine o_call ha rfl rfl Tryd.call17 (W_impl_LongerPath hro149 hro152 (hG.ext hE145) hc155) ?_; clear ha a; rintro v156 w157 ⟨b159, h160, z161, hx158⟩ a ha
  have q163 := Nq.new hB3.fpb z161
  have q164 := Nq.madeO z161 hB3.bi
  have q165 := Nq.new h78.bnd z161
  have q166 := Nq.new h90.fpb z161
  have q167 := Nq.madeO z161 h90.blt
  have q168 := Nq.new hB118.fpb z161
  have q169 := Nq.madeO z161 hB118.bi
  have q170 := Nq.new h127.fpb z161
  have q171 := Nq.madeO z161 h127.blt
  have q172 := Nf.old z161 (zf_nil _) h90.bnd
  have q173 := Nf.old z161 (zf_nil _) h127.bnd
  replace hB3 := hB3.ext hx158
  replace h78 := h78.ext hx158
  replace h90 := h90.ext hx158
  replace hB118 := hB118.ext hx158
  replace h127 := h127.ext hx158
  have hE174 := Ext.trans hE145 hx158
  have q175 := Zn.upD z161 hE145
  refine op_g ha rfl (g_assign rfl) ?_; clear ha a; intro a ha; refine wpList_nil ?_; replace ha := ha.sub (σ' := [(1, va1), (2, (.pointer (some ⟨b1, 0, none⟩))), (6, v74), (7, (.pointer (some ⟨b104, 0, none⟩))), (8, v123), (9, v156)]) ⟨rfl, rfl, rfl, rfl, rfl, rfl, trivial⟩; refine e_then ?_; refine wp_seq ?_; refine wp_seq ?_; refine wp_region_lit ?_; (iterate 2 refine op_g ha rfl (g_move rfl) ?_; clear ha a; intro a ha)
  obtain ⟨fp176, hro177, hs178⟩ := h160.roF
  obtain ⟨x179, hc180, hF⟩ := cal_some hF
  refine o_call ha rfl rfl Tryd.call9 (W_laws_eqInt64S hro177 h78 hc180) ?_; clear ha a; rintro v181 w182 ⟨rfl, hx183⟩ a ha
  replace hB3 := hB3.ext hx183
  replace h78 := h78.ext hx183
  replace h90 := h90.ext hx183
  replace hB118 := hB118.ext hx183
  replace h127 := h127.ext hx183
  replace h160 := h160.ext hx183
  have hE184 := Ext.trans hE174 hx183
  refine op_g ha rfl (g_not rfl) ?_; clear ha a; intro a ha; refine wpList_nil ?_; replace ha := ha.sub (σ' := [(1, va1), (2, (.pointer (some ⟨b1, 0, none⟩))), (6, v74), (7, (.pointer (some ⟨b104, 0, none⟩))), (8, v123), (9, v156), (39, (.bool (!x179)))]) ⟨rfl, rfl, rfl, rfl, rfl, rfl, rfl, trivial⟩; refine e_then ?_; refine c_cond (¬ (x179 = true)) ha rfl (n_iff (Iff.rfl)) (fun hp185 => ?_) (fun hp185 => ?_)
  · replace hF := if_t hp185 hF
    refine wp_seq ?_; refine wp_region_lit ?_; refine op_g ha rfl (g_assign rfl) ?_; clear ha a; intro a ha; refine wpList_nil ?_; replace ha := ha.sub (σ' := [(4, (.bool false))]) ⟨rfl, trivial⟩; refine e_then ?_; refine wp_ret ?_; refine e_then_ret ?_; obtain rfl := Option.some.inj hF
    exact f_ret1 ha rfl rfl ⟨rfl, hE184⟩
  replace hF := if_f hp185 hF; refine wp_skip ?_; refine e_then ?_; refine wp_seq ?_; refine wp_seq ?_; refine d_region [0, 1, 2, 3, 4] hmix ?_; refine u_g 0 rfl (by kernel_rfl) (want0 _) ha rfl (g_loadA (cs := [u88]) Tryd.isAgg29 Tryd.sizeOf29 rfl (by simp) hB118.all) ?_; clear ha a; intro a ha; refine u_g 1 rfl (by kernel_rfl) (want0 _) ha rfl (g_loadA (cs := [va0_0]) Tryd.isAgg24 Tryd.sizeOf24 rfl (by simp) hB3.all) ?_; clear ha a; intro a ha
  refine u_only 2 rfl (by kernel_rfl) ?_; intro w186 hx187
  replace hB3 := hB3.ext hx187
  replace h78 := h78.ext hx187
  replace h90 := h90.ext hx187
  replace hB118 := hB118.ext hx187
  replace h127 := h127.ext hx187
  replace h160 := h160.ext hx187
  have hE188 := Ext.trans hE184 hx187
  obtain ⟨x189, hc190, hF⟩ := cal_some hF
  refine o_call ha rfl rfl Tryd.call7 (W_laws_toGraph (ha0_0.ext hE188) hc190) ?_; clear ha a; rintro v191 w192 ⟨u194, b195, fs199, rfl, h196, z197, zf200, nd201, hx193⟩ a ha
  have q202 := Nq.new hB3.fpb z197
  have q203 := Nq.madeF z197 zf200 hB3.bi
  have q204 := Nq.new h78.bnd z197
  have q205 := Nq.new h90.fpb z197
  have q206 := Nq.madeF z197 zf200 h90.blt
  have q207 := Nq.new hB118.fpb z197
  have q208 := Nq.madeF z197 zf200 hB118.bi
  have q209 := Nq.new h127.fpb z197
  have q210 := Nq.madeF z197 zf200 h127.blt
  have q211 := Nq.new h160.fpb z197
  have q212 := Nq.madeF z197 zf200 h160.blt
  have q213 := Nf.new hB3.fpb zf200
  have q214 := Nf.new h78.bnd zf200
  have q215 := Nf.new h90.fpb zf200
  have q216 := Nf.old z197 zf200 h90.bnd
  have q217 := Nf.new hB118.fpb zf200
  have q218 := Nf.new h127.fpb zf200
  have q219 := Nf.old z197 zf200 h127.bnd
  have q220 := Nf.new h160.fpb zf200
  replace hB3 := hB3.ext hx193
  replace h78 := h78.ext hx193
  replace h90 := h90.ext hx193
  replace hB118 := hB118.ext hx193
  replace h127 := h127.ext hx193
  replace h160 := h160.ext hx193
  have hE221 := Ext.trans hE188 hx193
  have q222 := Zn.upD z197 hE188
  have q223 := zf_up zf200 hE188
  refine wpList_nil (e_sq ?_)
  refine ⟨fun _ => hx193, ?_⟩
  obtain ⟨fp226, hro227, hs228⟩ := h90.roF
  obtain ⟨fp229, hro230, hs231⟩ := h196.roF
  obtain ⟨x232, hc233, hF⟩ := cal_some hF; refine u_call (.bool x232) 3 rfl (by kernel_rfl) (want0 _) ha rfl rfl Tryd.call10 (fun w225 hx224 => W_laws_eqGraph (hro227.ext hx224) (hro230.ext hx224) hc233) (fun _ _ _ h => ⟨h.1, h.2⟩) ?_; clear ha a; intro a ha; refine u_g 4 rfl (by kernel_rfl) (want0 _) ha rfl (g_not rfl) ?_; clear ha a; intro a ha
  refine u_done (by kernel_rfl) ?_; intro w234 hx235
  replace hB3 := hB3.ext hx235
  replace h78 := h78.ext hx235
  replace h90 := h90.ext hx235
  replace hB118 := hB118.ext hx235
  replace h127 := h127.ext hx235
  replace h160 := h160.ext hx235
  replace h196 := h196.ext hx235
  have hE236 := Ext.trans hE221 hx235
  replace ha := ha.sub (σ' := [(1, va1), (2, (.pointer (some ⟨b1, 0, none⟩))), (6, v74), (7, (.pointer (some ⟨b104, 0, none⟩))), (8, v123), (9, v156), (44, (.bool (!x232)))]) ⟨rfl, rfl, rfl, rfl, rfl, rfl, rfl, trivial⟩; refine e_then ?_; refine c_cond (¬ (x232 = true)) ha rfl (n_iff (Iff.rfl)) (fun hp237 => ?_) (fun hp237 => ?_)
  · replace hF := if_t hp237 hF
    refine wp_seq ?_; refine wp_region_lit ?_; refine op_g ha rfl (g_assign rfl) ?_; clear ha a; intro a ha; refine wpList_nil ?_; replace ha := ha.sub (σ' := [(4, (.bool false))]) ⟨rfl, trivial⟩; refine e_then ?_; refine wp_ret ?_; refine e_then_ret ?_; obtain rfl := Option.some.inj hF
    exact f_ret1 ha rfl rfl ⟨rfl, hE236⟩
  replace hF := if_f hp237 hF; refine wp_skip ?_; refine e_then ?_; refine wp_seq ?_; refine wp_seq ?_; refine wp_region_lit ?_; (iterate 2 refine op_g ha rfl (g_move rfl) ?_; clear ha a; intro a ha); obtain ⟨x238, hc239, hF⟩ := cal_some hF
  refine o_call ha rfl rfl Tryd.call16 (W_laws_toInt64SS (ha1.ext hE236) hc239) ?_; clear ha a; rintro v240 w241 ⟨b243, fs247, h244, z245, zf248, nd249, hx242⟩ a ha
  have q250 := Nq.new hB3.fpb z245
  have q251 := Nq.madeF z245 zf248 hB3.bi
  have q252 := Nq.new h78.bnd z245
  have q253 := Nq.new h90.fpb z245
  have q254 := Nq.madeF z245 zf248 h90.blt
  have q255 := Nq.new hB118.fpb z245
  have q256 := Nq.madeF z245 zf248 hB118.bi
  have q257 := Nq.new h127.fpb z245
  have q258 := Nq.madeF z245 zf248 h127.blt
  have q259 := Nq.new h160.fpb z245
  have q260 := Nq.madeF z245 zf248 h160.blt
  have q261 := Nf.new hB3.fpb zf248
  have q262 := Nf.new h78.bnd zf248
  have q263 := Nf.new h90.fpb zf248
  have q264 := Nf.old z245 zf248 h90.bnd
  have q265 := Nf.new hB118.fpb zf248
  have q266 := Nf.new h127.fpb zf248
  have q267 := Nf.old z245 zf248 h127.bnd
  have q268 := Nf.new h160.fpb zf248
  replace hB3 := hB3.ext hx242
  replace h78 := h78.ext hx242
  replace h90 := h90.ext hx242
  replace hB118 := hB118.ext hx242
  replace h127 := h127.ext hx242
  replace h160 := h160.ext hx242
  have hE269 := Ext.trans hE236 hx242
  have q270 := Zn.upD z245 hE236
  have q271 := zf_up zf248 hE236
  obtain ⟨fp272, hro273, hs274⟩ := h127.roF
  obtain ⟨fp275, hro276, hs277⟩ := h244.roF
  obtain ⟨x278, hc279, hF⟩ := cal_some hF
  refine o_call ha rfl rfl Tryd.call18 (W_laws_eqInt64SS hro273 hro276 hc279) ?_; clear ha a; rintro v280 w281 ⟨rfl, hx282⟩ a ha
  replace hB3 := hB3.ext hx282
  replace h78 := h78.ext hx282
  replace h90 := h90.ext hx282
  replace hB118 := hB118.ext hx282
  replace h127 := h127.ext hx282
  replace h160 := h160.ext hx282
  replace h244 := h244.ext hx282
  have hE283 := Ext.trans hE269 hx282
  refine op_g ha rfl (g_not rfl) ?_; clear ha a; intro a ha; refine wpList_nil ?_; replace ha := ha.sub (σ' := [(1, va1), (2, (.pointer (some ⟨b1, 0, none⟩))), (6, v74), (7, (.pointer (some ⟨b104, 0, none⟩))), (8, v123), (9, v156), (49, (.bool (!x278)))]) ⟨rfl, rfl, rfl, rfl, rfl, rfl, rfl, trivial⟩; refine e_then ?_; refine c_cond (¬ (x278 = true)) ha rfl (n_iff (Iff.rfl)) (fun hp284 => ?_) (fun hp284 => ?_)
  · replace hF := if_t hp284 hF
    refine wp_seq ?_; refine wp_region_lit ?_; refine op_g ha rfl (g_assign rfl) ?_; clear ha a; intro a ha; refine wpList_nil ?_; replace ha := ha.sub (σ' := [(4, (.bool false))]) ⟨rfl, trivial⟩; refine e_then ?_; refine wp_ret ?_; refine e_then_ret ?_; obtain rfl := Option.some.inj hF
    exact f_ret1 ha rfl rfl ⟨rfl, hE283⟩
  replace hF := if_f hp284 hF; refine wp_skip ?_; refine e_then ?_; refine wp_seq ?_; refine wp_region_lit ?_; refine op_g ha rfl (g_assign rfl) ?_; clear ha a; intro a ha; refine wpList_nil ?_; replace ha := ha.sub (σ' := [(1, va1), (2, (.pointer (some ⟨b1, 0, none⟩))), (6, v74), (7, (.pointer (some ⟨b104, 0, none⟩))), (8, v123), (9, v156), (10, (.int .i64 1))]) ⟨rfl, rfl, rfl, rfl, rfl, rfl, rfl, trivial⟩; refine e_then ?_; refine wp_seq ?_; refine wp_region_lit ?_; refine op_g ha rfl (g_loadA (cs := [u88]) Tryd.isAgg29 Tryd.sizeOf29 rfl (by simp) hB118.all) ?_; clear ha a; intro a ha; refine op_g ha rfl (g_move rfl) ?_; clear ha a; intro a ha
  obtain ⟨x285, hc286, hF⟩ := cal_some hF
  refine o_call ha rfl rfl Tryd.call11 (W_laws_markGraph h90 nd95 (show InI 1 from by decide) hc286) ?_; clear ha a; rintro v287 w288 ⟨⟨rfl, hI290⟩, h291, hx289⟩ a ha
  replace hB3 := hB3.off hx289 (Off.nest q96 q99); replace h78 := h78.off hx289 (Off.nest q98 q100); replace h127 := h127.off hx289 (Off.nest q137 q143); replace h160 := h160.off hx289 (Off.nest q167 q172)
  have hE292 := Chg.join hE283 hx289 (S2.nest q102 q103)
  refine op_g ha rfl (g_assign rfl) ?_; clear ha a; intro a ha; refine wpList_nil ?_; replace ha := ha.sub (σ' := [(1, va1), (2, (.pointer (some ⟨b1, 0, none⟩))), (6, v74), (8, v123), (9, v156), (10, (.int .i64 x285.1))]) ⟨rfl, rfl, rfl, rfl, rfl, rfl, trivial⟩; refine e_then ?_; refine wp_seq ?_; refine wp_region_lit ?_; (iterate 2 refine op_g ha rfl (g_move rfl) ?_; clear ha a; intro a ha); obtain ⟨x293, hc294, hF⟩ := cal_some hF
  refine o_call ha rfl rfl Tryd.call19 (W_laws_markInt64SS h127 nd132 hI290 hc294) ?_; clear ha a; rintro v295 w296 ⟨⟨rfl, hI298⟩, h299, hx297⟩ a ha
  replace hB3 := hB3.off hx297 (Off.nest q133 q140); replace h78 := h78.off hx297 (Off.nest q135 q141); replace h160 := h160.off hx297 (Off.nest q171 q173)
  have hE300 := Chg.join hE292 hx297 (S2.nest q146 q147)
  refine op_g ha rfl (g_assign rfl) ?_; clear ha a; intro a ha; refine wpList_nil ?_; replace ha := ha.sub (σ' := [(1, va1), (2, (.pointer (some ⟨b1, 0, none⟩))), (6, v74), (9, v156), (10, (.int .i64 x293.1))]) ⟨rfl, rfl, rfl, rfl, rfl, trivial⟩; refine e_then ?_; refine wp_seq ?_; refine wp_seq ?_; refine wp_region_lit ?_; refine op_g ha rfl (g_move rfl) ?_; clear ha a; intro a ha; refine op_g ha rfl (g_lss rfl rfl) ?_; clear ha a; intro a ha; refine op_g ha rfl (g_move rfl) ?_; clear ha a; intro a ha
  by_cases hp312 : x293.1 < 0
  · replace hF := if_t hp312 hF
    rw [show (decide (x293.1 < 0)) = true from (decide_eq_true_iff).2 hp312] at ha
    (iterate 4 refine op_unwant ha rfl (yields ha rfl rfl) rfl ?_; clear ha a; intro a ha); refine op_g ha rfl (g_pick rfl rfl) ?_; clear ha a; intro a ha; refine wpList_nil ?_; replace ha := ha.sub (σ' := [(1, va1), (2, (.pointer (some ⟨b1, 0, none⟩))), (6, v74), (9, v156), (63, (.bool true))]) ⟨rfl, rfl, rfl, rfl, rfl, trivial⟩; refine e_then ?_; refine c_true ha rfl ?_; refine wp_seq ?_; refine wp_region_lit ?_; refine op_g ha rfl (g_assign rfl) ?_; clear ha a; intro a ha; refine wpList_nil ?_; replace ha := ha.sub (σ' := [(4, (.bool false))]) ⟨rfl, trivial⟩; refine e_then ?_; refine wp_ret ?_
    refine e_then_ret ?_; obtain rfl := Option.some.inj hF
    exact f_ret1 ha rfl rfl ⟨rfl, hE300⟩
  replace hF := if_f hp312 hF
  rw [show (decide (x293.1 < 0)) = false from b_false (decide_eq_true_iff) hp312] at ha
  refine op_want (yields ha rfl rfl) ?_; refine op_g ha rfl (g_move rfl) ?_; clear ha a; intro a ha; refine op_want (yields ha rfl rfl) ?_; refine op_g ha rfl (g_move rfl) ?_; clear ha a; intro a ha; refine op_want (yields ha rfl rfl) ?_
  obtain ⟨fp313, hro314, hs315⟩ := h160.roF
  obtain ⟨x316, hc317, hF⟩ := cal_some hF
  refine o_call ha rfl rfl Tryd.call9 (W_laws_eqInt64S hro314 h78 hc317) ?_; clear ha a; rintro v318 w319 ⟨rfl, hx320⟩ a ha
  replace hB3 := hB3.ext hx320
  replace h78 := h78.ext hx320
  replace h160 := h160.ext hx320
  have hE321 := Ext.trans hE300 hx320
  refine op_want (yields ha rfl rfl) ?_; refine op_g ha rfl (g_not rfl) ?_; clear ha a; intro a ha; refine op_g ha rfl (g_pick rfl rfl) ?_; clear ha a; intro a ha; refine wpList_nil ?_; replace ha := ha.sub (σ' := [(1, va1), (2, (.pointer (some ⟨b1, 0, none⟩))), (6, v74), (9, v156), (63, (.bool (!x316)))]) ⟨rfl, rfl, rfl, rfl, rfl, trivial⟩; refine e_then ?_; refine c_cond (¬ (x316 = true)) ha rfl (n_iff (Iff.rfl)) (fun hp322 => ?_) (fun hp322 => ?_)
  · replace hF := if_t hp322 hF
    refine wp_seq ?_; refine wp_region_lit ?_; refine op_g ha rfl (g_assign rfl) ?_; clear ha a; intro a ha; refine wpList_nil ?_; replace ha := ha.sub (σ' := [(4, (.bool false))]) ⟨rfl, trivial⟩; refine e_then ?_; refine wp_ret ?_; refine e_then_ret ?_; obtain rfl := Option.some.inj hF
    exact f_ret1 ha rfl rfl ⟨rfl, hE321⟩
  replace hF := if_f hp322 hF; refine wp_skip ?_; refine e_then ?_; refine wp_seq ?_; refine wp_region_lit ?_; refine op_g ha rfl (g_assign rfl) ?_; clear ha a; intro a ha; refine wpList_nil ?_; replace ha := ha.sub (σ' := [(1, va1), (2, (.pointer (some ⟨b1, 0, none⟩))), (6, v74), (9, v156), (11, (.int .i64 1))]) ⟨rfl, rfl, rfl, rfl, rfl, trivial⟩; refine e_then ?_; refine wp_seq ?_; refine wp_region_lit ?_; (iterate 2 refine op_g ha rfl (g_move rfl) ?_; clear ha a; intro a ha); obtain ⟨x323, hc324, hF⟩ := cal_some hF
  refine o_call ha rfl rfl Tryd.call12 (W_laws_markInt64S h160 (show InI 1 from by decide) hc324) ?_; clear ha a; rintro v325 w326 ⟨⟨rfl, hI328⟩, h329, hx327⟩ a ha
  replace hB3 := hB3.nq hx327 q163
  replace h78 := h78.nq hx327 q165
  have hE330 := Ext.then hE321 hx327 (Zn.bl q175)
  refine op_g ha rfl (g_assign rfl) ?_; clear ha a; intro a ha; refine wpList_nil ?_; replace ha := ha.sub (σ' := [(1, va1), (2, (.pointer (some ⟨b1, 0, none⟩))), (6, v74), (9, v156), (11, (.int .i64 x323.1))]) ⟨rfl, rfl, rfl, rfl, rfl, trivial⟩; refine e_then ?_; refine wp_seq ?_; refine wp_region_lit ?_; refine op_g ha rfl (g_assign rfl) ?_; clear ha a; intro a ha; refine wpList_nil ?_; replace ha := ha.sub (σ' := [(1, va1), (2, (.pointer (some ⟨b1, 0, none⟩))), (6, v74), (9, v156), (11, (.int .i64 x323.1)), (12, (.int .i64 1))]) ⟨rfl, rfl, rfl, rfl, rfl, rfl, trivial⟩; refine e_then ?_; refine wp_seq ?_
  refine wp_region_lit ?_; (iterate 2 refine op_g ha rfl (g_move rfl) ?_; clear ha a; intro a ha)
  obtain ⟨fp331, hro332, hs333⟩ := h329.roF
  obtain ⟨x334, hc335, hF⟩ := cal_some hF
  refine o_call ha rfl rfl Tryd.call13 (W_laws_heldInt64S hro332 (show InI 1 from by decide) hc335) ?_; clear ha a; rintro v336 w337 ⟨⟨rfl, hI339⟩, hx338⟩ a ha
  replace hB3 := hB3.ext hx338
  replace h78 := h78.ext hx338
  replace h329 := h329.ext hx338
  have hE340 := Ext.trans hE330 hx338
  refine op_g ha rfl (g_assign rfl) ?_; clear ha a; intro a ha; refine wpList_nil ?_; replace ha := ha.sub (σ' := [(1, va1), (2, (.pointer (some ⟨b1, 0, none⟩))), (6, v74), (9, v156), (11, (.int .i64 x323.1)), (12, (.int .i64 x334))]) ⟨rfl, rfl, rfl, rfl, rfl, rfl, trivial⟩; refine e_then ?_; refine wp_seq ?_; refine wp_seq ?_; refine wp_region_lit ?_; refine op_g ha rfl (g_move rfl) ?_; clear ha a; intro a ha; refine op_g ha rfl (g_lss rfl rfl) ?_; clear ha a; intro a ha; refine wpList_nil ?_; replace ha := ha.sub (σ' := [(1, va1), (2, (.pointer (some ⟨b1, 0, none⟩))), (6, v74), (9, v156), (11, (.int .i64 x323.1)), (12, (.int .i64 x334)), (71, (.bool (decide (x334 < 0))))]) ⟨rfl, rfl, rfl, rfl, rfl, rfl, rfl, trivial⟩
  refine e_then ?_; refine c_cond (x334 < 0) ha rfl (decide_eq_true_iff) (fun hp341 => ?_) (fun hp341 => ?_)
  · replace hF := if_t hp341 hF
    refine wp_seq ?_; refine wp_region_lit ?_; refine op_g ha rfl (g_assign rfl) ?_; clear ha a; intro a ha; refine wpList_nil ?_; replace ha := ha.sub (σ' := [(4, (.bool false))]) ⟨rfl, trivial⟩; refine e_then ?_; refine wp_ret ?_; refine e_then_ret ?_; obtain rfl := Option.some.inj hF
    exact f_ret1 ha rfl rfl ⟨rfl, hE340⟩
  replace hF := if_f hp341 hF; refine wp_skip ?_; refine e_then ?_; refine wp_seq ?_; refine wp_seq ?_; refine wp_region_lit ?_; (iterate 2 refine op_g ha rfl (g_move rfl) ?_; clear ha a; intro a ha); refine op_g ha rfl (g_neq rfl rfl) ?_; clear ha a; intro a ha; refine wpList_nil ?_; replace ha := ha.sub (σ' := [(1, va1), (2, (.pointer (some ⟨b1, 0, none⟩))), (6, v74), (9, v156), (11, (.int .i64 x323.1)), (74, (.bool (decide (x334 ≠ x323.1))))]) ⟨rfl, rfl, rfl, rfl, rfl, rfl, trivial⟩; refine e_then ?_; refine c_cond (x334 ≠ x323.1) ha rfl (decide_eq_true_iff) (fun hp342 => ?_) (fun hp342 => ?_)
  · replace hF := if_t hp342 hF
    refine wp_seq ?_; refine wp_region_lit ?_; refine op_g ha rfl (g_assign rfl) ?_; clear ha a; intro a ha; refine wpList_nil ?_; replace ha := ha.sub (σ' := [(4, (.bool false))]) ⟨rfl, trivial⟩; refine e_then ?_; refine wp_ret ?_; refine e_then_ret ?_; obtain rfl := Option.some.inj hF
    exact f_ret1 ha rfl rfl ⟨rfl, hE340⟩
  replace hF := if_f hp342 hF; refine wp_skip ?_; refine e_then ?_; refine wp_seq ?_; refine wp_region_lit ?_; refine op_g ha rfl (g_loadA (cs := [va0_0]) Tryd.isAgg24 Tryd.sizeOf24 rfl (by simp) hB3.all) ?_; clear ha a; intro a ha; obtain ⟨x343, hc344, hF⟩ := cal_some hF
  refine o_call ha rfl rfl Tryd.call7 (W_laws_toGraph (ha0_0.ext hE340) hc344) ?_; clear ha a; rintro v345 w346 ⟨u348, b349, fs353, rfl, h350, z351, zf354, nd355, hx347⟩ a ha
  have q356 := Nq.new hB3.fpb z351
  have q357 := Nq.madeF z351 zf354 hB3.bi
  have q358 := Nq.new h78.bnd z351
  have q359 := Nq.new h329.fpb z351
  have q360 := Nq.madeF z351 zf354 h329.blt
  have q361 := Nf.new hB3.fpb zf354
  have q362 := Nf.new h78.bnd zf354
  have q363 := Nf.new h329.fpb zf354
  replace hB3 := hB3.ext hx347
  replace h78 := h78.ext hx347
  replace h329 := h329.ext hx347
  have hE364 := Ext.trans hE340 hx347
  have q365 := Zn.upD z351 hE340
  have q366 := zf_up zf354 hE340
  refine op_g ha rfl (g_move rfl) ?_; clear ha a; intro a ha; obtain ⟨x367, hc368, hF⟩ := cal_some hF
  refine o_call ha rfl rfl Tryd.call16 (W_laws_toInt64SS (ha1.ext hE364) hc368) ?_; clear ha a; rintro v369 w370 ⟨b372, fs376, h373, z374, zf377, nd378, hx371⟩ a ha
  have q379 := Nq.new hB3.fpb z374
  have q380 := Nq.madeF z374 zf377 hB3.bi
  have q381 := Nq.new h78.bnd z374
  have q382 := Nq.new h329.fpb z374
  have q383 := Nq.madeF z374 zf377 h329.blt
  have q384 := Nq.new h350.fpb z374
  have q385 := Nq.madeF z374 zf377 h350.blt
  have q386 := Nf.new hB3.fpb zf377
  have q387 := Nf.new h78.bnd zf377
  have q388 := Nf.new h329.fpb zf377
  have q389 := Nf.new h350.fpb zf377
  have q390 := Nf.old z374 zf377 h350.bnd
  replace hB3 := hB3.ext hx371
  replace h78 := h78.ext hx371
  replace h329 := h329.ext hx371
  replace h350 := h350.ext hx371
  have hE391 := Ext.trans hE364 hx371
  have q392 := Zn.upD z374 hE364
  have q393 := zf_up zf377 hE364
  obtain ⟨fp394, hro395, hs396⟩ := h350.roF
  obtain ⟨fp397, hro398, hs399⟩ := h373.roF
  obtain ⟨x400, hc401, hF⟩ := cal_some hF
  refine o_call ha rfl rfl Tryd.call17 (W_impl_LongerPath hro395 hro398 (hG.ext hE391) hc401) ?_; clear ha a; rintro v402 w403 ⟨b405, h406, z407, hx404⟩ a ha
  have q409 := Nq.new hB3.fpb z407
  have q410 := Nq.madeO z407 hB3.bi
  have q411 := Nq.new h78.bnd z407
  have q412 := Nq.new h329.fpb z407
  have q413 := Nq.madeO z407 h329.blt
  have q414 := Nq.new h350.fpb z407
  have q415 := Nq.madeO z407 h350.blt
  have q416 := Nq.new h373.fpb z407
  have q417 := Nq.madeO z407 h373.blt
  have q418 := Nf.old z407 (zf_nil _) h350.bnd
  have q419 := Nf.old z407 (zf_nil _) h373.bnd
  replace hB3 := hB3.ext hx404
  replace h78 := h78.ext hx404
  replace h329 := h329.ext hx404
  replace h350 := h350.ext hx404
  replace h373 := h373.ext hx404
  have hE420 := Ext.trans hE391 hx404
  have q421 := Zn.upD z407 hE391
  refine op_g ha rfl (g_assign rfl) ?_; clear ha a; intro a ha; refine wpList_nil ?_; replace ha := ha.sub (σ' := [(6, v74), (9, v156), (11, (.int .i64 x323.1)), (13, v402)]) ⟨rfl, rfl, rfl, rfl, trivial⟩; refine e_then ?_; refine wp_seq ?_; refine wp_seq ?_; refine wp_region_lit ?_; (iterate 2 refine op_g ha rfl (g_move rfl) ?_; clear ha a; intro a ha)
  obtain ⟨fp422, hro423, hs424⟩ := h406.roF
  obtain ⟨x425, hc426, hF⟩ := cal_some hF
  refine o_call ha rfl rfl Tryd.call9 (W_laws_eqInt64S hro423 h78 hc426) ?_; clear ha a; rintro v427 w428 ⟨rfl, hx429⟩ a ha
  replace h78 := h78.ext hx429
  replace h329 := h329.ext hx429
  replace h406 := h406.ext hx429
  have hE430 := Ext.trans hE420 hx429
  refine op_g ha rfl (g_not rfl) ?_; clear ha a; intro a ha; refine wpList_nil ?_; replace ha := ha.sub (σ' := [(9, v156), (11, (.int .i64 x323.1)), (83, (.bool (!x425)))]) ⟨rfl, rfl, rfl, trivial⟩; refine e_then ?_; refine c_cond (¬ (x425 = true)) ha rfl (n_iff (Iff.rfl)) (fun hp431 => ?_) (fun hp431 => ?_)
  · replace hF := if_t hp431 hF
    refine wp_seq ?_; refine wp_region_lit ?_; refine op_g ha rfl (g_assign rfl) ?_; clear ha a; intro a ha; refine wpList_nil ?_; replace ha := ha.sub (σ' := [(4, (.bool false))]) ⟨rfl, trivial⟩; refine e_then ?_; refine wp_ret ?_; refine e_then_ret ?_; obtain rfl := Option.some.inj hF
    exact f_ret1 ha rfl rfl ⟨rfl, hE430⟩
  replace hF := if_f hp431 hF; refine wp_skip ?_; refine e_then ?_; refine wp_seq ?_; refine wp_region_lit ?_; refine op_g ha rfl (g_assign rfl) ?_; clear ha a; intro a ha; refine wpList_nil ?_; replace ha := ha.sub (σ' := [(9, v156), (11, (.int .i64 x323.1)), (12, (.int .i64 1))]) ⟨rfl, rfl, rfl, trivial⟩; refine e_then ?_; refine wp_seq ?_; refine wp_region_lit ?_; (iterate 2 refine op_g ha rfl (g_move rfl) ?_; clear ha a; intro a ha)
  obtain ⟨fp432, hro433, hs434⟩ := h329.roF
  obtain ⟨x435, hc436, hF⟩ := cal_some hF
  refine o_call ha rfl rfl Tryd.call13 (W_laws_heldInt64S hro433 (show InI 1 from by decide) hc436) ?_; clear ha a; rintro v437 w438 ⟨⟨rfl, hI440⟩, hx439⟩ a ha
  replace h329 := h329.ext hx439
  have hE441 := Ext.trans hE430 hx439
  refine op_g ha rfl (g_assign rfl) ?_; clear ha a; intro a ha; refine wpList_nil ?_; replace ha := ha.sub (σ' := [(11, (.int .i64 x323.1)), (12, (.int .i64 x435))]) ⟨rfl, rfl, trivial⟩; refine e_then ?_; refine wp_seq ?_; refine wp_seq ?_; refine wp_region_lit ?_; refine op_g ha rfl (g_move rfl) ?_; clear ha a; intro a ha; refine op_g ha rfl (g_lss rfl rfl) ?_; clear ha a; intro a ha; refine wpList_nil ?_; replace ha := ha.sub (σ' := [(11, (.int .i64 x323.1)), (12, (.int .i64 x435)), (88, (.bool (decide (x435 < 0))))]) ⟨rfl, rfl, rfl, trivial⟩; refine e_then ?_; refine c_cond (x435 < 0) ha rfl (decide_eq_true_iff) (fun hp442 => ?_) (fun hp442 => ?_)
  · replace hF := if_t hp442 hF
    refine wp_seq ?_; refine wp_region_lit ?_; refine op_g ha rfl (g_assign rfl) ?_; clear ha a; intro a ha; refine wpList_nil ?_; replace ha := ha.sub (σ' := [(4, (.bool false))]) ⟨rfl, trivial⟩; refine e_then ?_; refine wp_ret ?_; refine e_then_ret ?_; obtain rfl := Option.some.inj hF
    exact f_ret1 ha rfl rfl ⟨rfl, hE441⟩
  replace hF := if_f hp442 hF; refine wp_skip ?_; refine e_then ?_; refine wp_seq ?_; refine wp_seq ?_; refine wp_region_lit ?_; (iterate 2 refine op_g ha rfl (g_move rfl) ?_; clear ha a; intro a ha); refine op_g ha rfl (g_neq rfl rfl) ?_; clear ha a; intro a ha; refine wpList_nil ?_; replace ha := ha.sub (σ' := [(91, (.bool (decide (x435 ≠ x323.1))))]) ⟨rfl, trivial⟩; refine e_then ?_; refine c_cond (x435 ≠ x323.1) ha rfl (decide_eq_true_iff) (fun hp443 => ?_) (fun hp443 => ?_)
  · replace hF := if_t hp443 hF
    refine wp_seq ?_; refine wp_region_lit ?_; refine op_g ha rfl (g_assign rfl) ?_; clear ha a; intro a ha; refine wpList_nil ?_; replace ha := ha.sub (σ' := [(4, (.bool false))]) ⟨rfl, trivial⟩; refine e_then ?_; refine wp_ret ?_; refine e_then_ret ?_; obtain rfl := Option.some.inj hF
    exact f_ret1 ha rfl rfl ⟨rfl, hE441⟩
  replace hF := if_f hp443 hF; refine wp_skip ?_; refine e_then ?_; refine wp_seq ?_; refine wp_region_lit ?_; refine op_g ha rfl (g_assign rfl) ?_; clear ha a; intro a ha; refine wpList_nil ?_; replace ha := ha.sub (σ' := [(4, (.bool true))]) ⟨rfl, trivial⟩; refine e_then ?_; refine wp_ret ?_; obtain rfl := Option.some.inj hF
  exact f_ret1 ha rfl rfl ⟨rfl, hE441⟩
end Go.Proofs.YthbmcbflnibpbabDoor
