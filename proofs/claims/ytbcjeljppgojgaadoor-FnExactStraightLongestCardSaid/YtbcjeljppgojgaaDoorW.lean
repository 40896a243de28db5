/- Walks, printed by gen.py. -/
import Derived.Test.YtbcjeljppgojgaaDoorF
import Derived.Test.YtbcjeljppgojgaaDoorW1
import Derived.Test.YtbcjeljppgojgaaDoorProg
import Derived.KernelRfl
set_option maxRecDepth 100000
namespace Go.Proofs.YtbcjeljppgojgaaDoor
open Go Go.RowKit

set_option maxHeartbeats 2000000 in
theorem W_impl_longestLine {W : World} {va0 : Value} {fa0 : List Nat} {a0 : (List Int)} (ha0 : Ro Rp.int W fa0 va0 a0) {va1 : Value} {fa1 : List Nat} {a1 : (List Int)} (ha1 : Ro Rp.int W fa1 va1 a1) {a2 : Bool} (hG : GT 0 W) {r : (List Int)} (hF : F_impl_longestLine a0 a1 a2 = some r) :
    Calls Tryd.prog 14 [va0, va1, .bool a2].toArray W (Ret fun u w' => ∃ (b_u : Int), Ow Rp.int 2 true w' [] b_u u r ∧ Zn W b_u ∧ Ext W w') := by
  refine f_enter Tryd.func14 rfl Tryd.ntmps14 rfl ?_
  intro a ha
  replace ha : Fr 62 [(0, va0), (1, va1), (2, (.bool a2))] a := ha
  have hE : Chg [] W W := Chg.refl _ _
  unfold F_impl_longestLine at hF
  refine wp_seq ?_; refine wp_region_lit ?_; refine op_g ha rfl (g_assign rfl) ?_; clear ha a; intro a ha; refine wpList_nil ?_; replace ha := ha.sub (σ' := [(0, va0), (1, va1), (2, (.bool a2))]) ⟨rfl, rfl, rfl, trivial⟩; refine e_then ?_; refine wp_seq ?_; refine wp_region_lit ?_; (iterate 2 refine op_g ha rfl (g_move rfl) ?_; clear ha a; intro a ha); obtain ⟨x1, hc2, hF⟩ := cal_some hF
  refine o_call ha rfl rfl Tryd.call18 (W_impl_crossings (ha0.ext hE) (ha1.ext hE) hc2) ?_; clear ha a; rintro v3 w4 ⟨u6, u7, b8, rfl, h9, z10, rfl, hx5⟩ a ha
  have hE12 := Ext.trans hE hx5
  have q13 := Zn.upD z10 hE
  refine op_g ha rfl (g_move rfl) ?_; clear ha a; intro a ha; (iterate 2 refine op_g ha rfl (g_extract rfl rfl) ?_; clear ha a; intro a ha); (iterate 2 refine op_g ha rfl (g_assign rfl) ?_; clear ha a; intro a ha); refine wpList_nil ?_; replace ha := ha.sub (σ' := [(0, va0), (2, (.bool a2)), (7, u6), (8, (.bool x1.2))]) ⟨rfl, rfl, rfl, rfl, trivial⟩; refine e_then ?_; refine wp_seq ?_; refine wp_seq ?_; refine wp_region_lit ?_; refine op_g ha rfl (g_move rfl) ?_; clear ha a; intro a ha; refine op_g ha rfl (g_not rfl) ?_; clear ha a; intro a ha; refine wpList_nil ?_; replace ha := ha.sub (σ' := [(0, va0), (2, (.bool a2)), (7, u6), (20, (.bool (!x1.2)))]) ⟨rfl, rfl, rfl, rfl, trivial⟩
  refine e_then ?_; refine c_cond (¬ (x1.2 = true)) ha rfl (n_iff (Iff.rfl)) (fun hp14 => ?_) (fun hp14 => ?_)
  · replace hF := if_t hp14 hF
    refine wp_seq ?_; refine wp_region_lit ?_; refine op_g ha rfl (g_assign rfl) ?_; clear ha a; intro a ha; refine wpList_nil ?_; replace ha := ha.sub (σ' := [(6, (.slice none 0 0))]) ⟨rfl, trivial⟩; refine e_then ?_; refine wp_ret ?_; refine e_then_ret ?_; obtain rfl := Option.some.inj hF
    exact f_ret1 ha rfl rfl ⟨-1, (Ow.nil (by decide)), (.inl (by decide)), hE12⟩
  replace hF := if_f hp14 hF; refine wp_skip ?_; refine e_then ?_; refine wp_seq ?_; refine wp_region_lit ?_; refine op_g ha rfl (g_move rfl) ?_; clear ha a; intro a ha; refine op_g ha rfl (g_lenR sl22.und ha0 rfl) ?_; clear ha a; intro a ha; obtain ⟨g19, g19b, hF⟩ := mkS_some hF
  refine o_make (z0 := (0 : BitVec 32)) Rp.u32 ha rfl sl29 rfl (fun w => ⟨rfl, rfl⟩) rfl g19 g19b ?_; clear ha a; intro v15 w16 h17 hx18 a ha
  obtain ⟨b22, hb22⟩ : ∃ b : Int, b = w4.heap.size := ⟨_, rfl⟩; rw [← hb22] at h17
  have q23 := zn_of hb22
  have q24 := Nq.new h9.fpb q23
  have q25 := Nq.madeO q23 h9.blt
  have q26 := Zn.upD q23 hE12
  replace h9 := h9.ext hx18
  have hE27 := Ext.trans hE12 hx18
  (iterate 2 refine op_g ha rfl (g_assign rfl) ?_; clear ha a; intro a ha); refine wpList_nil ?_; replace ha := ha.sub (σ' := [(0, va0), (2, (.bool a2)), (7, u6), (9, v15), (10, (.int .u32 (BitVec.toNat (0#32) : Int)))]) ⟨rfl, rfl, rfl, rfl, rfl, trivial⟩; refine e_then ?_; refine wp_seq ?_; refine wp_seq ?_; refine wp_region_lit ?_; refine op_g ha rfl (g_move rfl) ?_; clear ha a; intro a ha; refine op_g ha rfl (g_lenR sl22.und ha0 rfl) ?_; clear ha a; intro a ha; obtain ⟨hI28, hF⟩ := ck_some hF; refine op_g ha rfl (g_sub rfl rfl hI28) ?_; clear ha a; intro a ha; refine op_g ha rfl (g_assign rfl) ?_; clear ha a; intro a ha
  refine wpList_nil ?_; replace ha := ha.sub (σ' := [(0, va0), (2, (.bool a2)), (7, u6), (9, v15), (10, (.int .u32 (BitVec.toNat (0#32) : Int))), (11, (.int .i64 ((a0.length : Int) - 1)))]) ⟨rfl, rfl, rfl, rfl, rfl, rfl, trivial⟩; refine e_then ?_; obtain ⟨o265, ho266, hK267⟩ := bnd_some hF
  obtain ⟨n268, hn269⟩ := lp_some ho266; clear ho266
  refine c_loop (fun a w => ∃ (l262 : (List (BitVec 32))) (v263 : Value) (b264 : Int), Fr 62 [(9, v263)] a ∧ Chg [] W w ∧ Ow Rp.u32 34 true w [] b264 v263 l262 ∧ Zn W b264 ∧ o265 = .inl l262) (fun n a w => ∃ (l148 : (List (BitVec 32))) (u151 : BitVec 32) (i152 : Int) (v149 : Value) (b150 : Int), Fr 62 [(0, va0), (2, (.bool a2)), (7, u6), (9, v149), (10, (.int .u32 (BitVec.toNat u151 : Int))), (11, (.int .i64 i152))] a ∧ Chg [] W w ∧ InI i152 ∧ Ow Rp.u32 34 true w [] b8 u6 x1.1 ∧ Zn W b8 ∧ Ow Rp.u32 34 true w [] b150 v149 l148 ∧ Zn W b150 ∧ Nq (bl b8 ++ []) b150 ∧ Nq (bl b150 ++ []) b8 ∧ lpN (fun s => F_impl_longestLine_l1 a0 a2 x1 s.1 s.2.1 s.2.2) n (l148, u151, i152) = some o265) n268 ⟨(List.replicate ((a0.length : Int) : Int).toNat (0 : BitVec 32)), 0#32, (a0.length : Int) - 1, v15, b22, ha.sub ⟨rfl, rfl, rfl, rfl, rfl, rfl, trivial⟩, hE27, hI28, h9, q13, h17, q26, q24, q25, hn269⟩ ?_ ?_
  · rintro m273 a w141 ⟨l148, u151, i152, v149, b150, ha, hE156, hI153, h143, z144, h146, z147, q154, q155, hF⟩
    cases m273 with
    | zero => exact (lpN_zero hF).elim
    | succ m273 =>
      obtain ⟨z272, hF, hN271⟩ := lpN_succ hF
      have hF : F_impl_longestLine_l1 a0 a2 x1 l148 u151 i152 = some z272 := hF; unfold F_impl_longestLine_l1 at hF
      refine wp_seq ?_; refine wp_seq ?_; refine wp_region_lit ?_; refine op_g ha rfl (g_move rfl) ?_; clear ha a; intro a ha; refine op_g ha rfl (g_geq rfl rfl) ?_; clear ha a; intro a ha; refine wpList_nil ?_; replace ha := ha.sub (σ' := [(0, va0), (2, (.bool a2)), (7, u6), (9, v149), (10, (.int .u32 (BitVec.toNat u151 : Int))), (11, (.int .i64 i152)), (28, (.bool (decide (0 ≤ i152))))]) ⟨rfl, rfl, rfl, rfl, rfl, rfl, rfl, trivial⟩; refine e_then ?_; refine c_cond (0 ≤ i152) ha rfl (decide_eq_true_iff) (fun hp274 => ?_) (fun hp274 => ?_)
      · replace hF := if_t hp274 hF
        refine wp_skip ?_; refine e_then ?_; refine wp_seq ?_; refine wp_block ?_; refine wp_seq ?_; refine wp_region_lit ?_; (iterate 2 refine op_g ha rfl (g_move rfl) ?_; clear ha a; intro a ha); obtain ⟨x275, g276, gx277, hF⟩ := idx_some hF
        obtain ⟨p278, cs279, f280, hf281, hpb282, hat283, hr284, hi285⟩ := ha0.at g276 gx277
        obtain ⟨rfl, hI286, rfl⟩ := hr284
        refine op_g ha rfl (hi285.gives sl22 rfl rfl) ?_; clear ha a; intro a ha; refine op_g ha rfl (g_load0 hE156 Tryd.isAgg2 rfl hat283.one) ?_; clear ha a; intro a ha; refine op_g ha rfl (g_assign rfl) ?_; clear ha a; intro a ha; refine wpList_nil ?_; replace ha := ha.sub (σ' := [(0, va0), (2, (.bool a2)), (7, u6), (9, v149), (10, (.int .u32 (BitVec.toNat u151 : Int))), (11, (.int .i64 i152)), (12, (.int .i64 x275))]) ⟨rfl, rfl, rfl, rfl, rfl, rfl, rfl, trivial⟩; refine e_then ?_; refine wp_seq ?_; refine wp_seq ?_; refine wp_region_lit ?_; refine op_g ha rfl (g_move rfl) ?_; clear ha a; intro a ha
        refine wpList_nil ?_; replace ha := ha.sub (σ' := [(0, va0), (2, (.bool a2)), (7, u6), (9, v149), (10, (.int .u32 (BitVec.toNat u151 : Int))), (11, (.int .i64 i152)), (12, (.int .i64 x275)), (35, (.bool a2))]) ⟨rfl, rfl, rfl, rfl, rfl, rfl, rfl, rfl, trivial⟩; refine e_then ?_; refine c_cond (a2 = true) ha rfl (Iff.rfl) (fun hp287 => ?_) (fun hp287 => ?_)
        · replace hF := if_t hp287 hF
          refine wp_region_lit ?_; (iterate 5 refine op_g ha rfl (g_move rfl) ?_; clear ha a; intro a ha); obtain ⟨x288, g289, gx290, hF⟩ := idx_some hF
          obtain ⟨p291, cs292, f293, hf294, hpb295, hat296, hr297, hi298⟩ := h143.at g289 gx290
          obtain ⟨rfl, rfl⟩ := hr297
          refine op_g ha rfl (hi298.gives sl30 rfl rfl) ?_; clear ha a; intro a ha; refine op_g ha rfl (g_load Tryd.isAgg34 rfl hat296.one) ?_; clear ha a; intro a ha; refine op_g ha rfl (g32_and (m := u151) (n := x288) rfl rfl) ?_; clear ha a; intro a ha; obtain ⟨x299, g300, gx301, hF⟩ := idx_some hF
          obtain ⟨p302, cs303, f304, hf305, hpb306, hat307, hr308, hi309⟩ := h146.at g300 gx301
          obtain ⟨rfl, rfl⟩ := hr308
          refine op_g ha rfl (hi309.gives sl29 rfl rfl) ?_; clear ha a; intro a ha
          refine o_storeE (f := []) (q := u151 &&& x288) ha Tryd.sizeOf34 rfl rfl rfl h146 hi309 ⟨rfl, rfl⟩ (Nq.nil _) ?_; intro w310 fs311 h312 hc313 hs314
          obtain rfl := Subst.nil hs314
          replace h143 := h143.nq hc313 q154
          have hE315 := Ext.then hE156 hc313 (Zn.bl z147)
          refine wpList_nil ?_; replace ha := ha.sub (σ' := [(0, va0), (2, (.bool a2)), (7, u6), (9, v149), (10, (.int .u32 (BitVec.toNat u151 : Int))), (11, (.int .i64 i152)), (12, (.int .i64 x275))]) ⟨rfl, rfl, rfl, rfl, rfl, rfl, rfl, trivial⟩; refine e_then ?_; refine wp_region_lit ?_; (iterate 2 refine op_g ha rfl (g_move rfl) ?_; clear ha a; intro a ha); obtain ⟨x316, hc317, hF⟩ := cal_some hF
          refine o_call ha rfl rfl Tryd.call19 (W_impl_one hI286 hc317) ?_; clear ha a; rintro v318 w319 ⟨rfl, hx320⟩ a ha
          replace h143 := h143.ext hx320
          replace h312 := h312.ext hx320
          have hE321 := Ext.trans hE315 hx320
          refine op_g ha rfl (g32_or (m := u151) (n := x316) rfl rfl) ?_; clear ha a; intro a ha; refine op_g ha rfl (g_assign rfl) ?_; clear ha a; intro a ha; refine wpList_nil ?_; replace ha := ha.sub (σ' := [(0, va0), (2, (.bool a2)), (7, u6), (9, v149), (10, (.int .u32 (BitVec.toNat (u151 ||| x316) : Int))), (11, (.int .i64 i152))]) ⟨rfl, rfl, rfl, rfl, rfl, rfl, trivial⟩; refine e_blk ?_; refine e_then ?_; refine wp_region_lit ?_; refine op_g ha rfl (g_move rfl) ?_; clear ha a; intro a ha; obtain ⟨hI322, hF⟩ := ck_some hF; refine op_g ha rfl (g_sub rfl rfl hI322) ?_; clear ha a; intro a ha
          refine op_g ha rfl (g_assign rfl) ?_; clear ha a; intro a ha; refine wpList_nil ?_; replace ha := ha.sub (σ' := [(0, va0), (2, (.bool a2)), (7, u6), (9, v149), (10, (.int .u32 (BitVec.toNat (u151 ||| x316) : Int))), (11, (.int .i64 (i152 - 1)))]) ⟨rfl, rfl, rfl, rfl, rfl, rfl, trivial⟩; refine e_lq ?_; obtain rfl := Option.some.inj hF
          exact ⟨_, Nat.lt_succ_self _, (l148.set ((x275 : Int).toNat) (u151 &&& x288)), u151 ||| x316, i152 - 1, v149, b150, ha.sub ⟨rfl, rfl, rfl, rfl, rfl, rfl, trivial⟩, hE321, hI322, h143, z144, h312, z147, q154, q155, hN271⟩
        replace hF := if_f hp287 hF; refine wp_region_lit ?_; (iterate 5 refine op_g ha rfl (g_move rfl) ?_; clear ha a; intro a ha); obtain ⟨x324, g325, gx326, hF⟩ := idx_some hF
        obtain ⟨p327, cs328, f329, hf330, hpb331, hat332, hr333, hi334⟩ := h143.at g325 gx326
        obtain ⟨rfl, rfl⟩ := hr333
        refine op_g ha rfl (hi334.gives sl30 rfl rfl) ?_; clear ha a; intro a ha; refine op_g ha rfl (g_load Tryd.isAgg34 rfl hat332.one) ?_; clear ha a; intro a ha; refine op_g ha rfl (g32_andNot (m := u151) (n := x324) rfl rfl) ?_; clear ha a; intro a ha; obtain ⟨x335, g336, gx337, hF⟩ := idx_some hF
        obtain ⟨p338, cs339, f340, hf341, hpb342, hat343, hr344, hi345⟩ := h146.at g336 gx337
        obtain ⟨rfl, rfl⟩ := hr344
        refine op_g ha rfl (hi345.gives sl29 rfl rfl) ?_; clear ha a; intro a ha
        refine o_storeE (f := []) (q := u151 &&& ~~~x324) ha Tryd.sizeOf34 rfl rfl rfl h146 hi345 ⟨rfl, rfl⟩ (Nq.nil _) ?_; intro w346 fs347 h348 hc349 hs350
        obtain rfl := Subst.nil hs350
        replace h143 := h143.nq hc349 q154
        have hE351 := Ext.then hE156 hc349 (Zn.bl z147)
        refine wpList_nil ?_; replace ha := ha.sub (σ' := [(0, va0), (2, (.bool a2)), (7, u6), (9, v149), (10, (.int .u32 (BitVec.toNat u151 : Int))), (11, (.int .i64 i152)), (12, (.int .i64 x275))]) ⟨rfl, rfl, rfl, rfl, rfl, rfl, rfl, trivial⟩; refine e_then ?_; refine wp_region_lit ?_; (iterate 2 refine op_g ha rfl (g_move rfl) ?_; clear ha a; intro a ha); obtain ⟨x352, hc353, hF⟩ := cal_some hF
        refine o_call ha rfl rfl Tryd.call19 (W_impl_one hI286 hc353) ?_; clear ha a; rintro v354 w355 ⟨rfl, hx356⟩ a ha
        replace h143 := h143.ext hx356
        replace h348 := h348.ext hx356
        have hE357 := Ext.trans hE351 hx356
        refine op_g ha rfl (g32_or (m := u151) (n := x352) rfl rfl) ?_; clear ha a; intro a ha; refine op_g ha rfl (g_assign rfl) ?_; clear ha a; intro a ha; refine wpList_nil ?_; replace ha := ha.sub (σ' := [(0, va0), (2, (.bool a2)), (7, u6), (9, v149), (10, (.int .u32 (BitVec.toNat (u151 ||| x352) : Int))), (11, (.int .i64 i152))]) ⟨rfl, rfl, rfl, rfl, rfl, rfl, trivial⟩; refine e_blk ?_; refine e_then ?_; refine wp_region_lit ?_; refine op_g ha rfl (g_move rfl) ?_; clear ha a; intro a ha; obtain ⟨hI358, hF⟩ := ck_some hF; refine op_g ha rfl (g_sub rfl rfl hI358) ?_; clear ha a; intro a ha; refine op_g ha rfl (g_assign rfl) ?_; clear ha a; intro a ha
        refine wpList_nil ?_; replace ha := ha.sub (σ' := [(0, va0), (2, (.bool a2)), (7, u6), (9, v149), (10, (.int .u32 (BitVec.toNat (u151 ||| x352) : Int))), (11, (.int .i64 (i152 - 1)))]) ⟨rfl, rfl, rfl, rfl, rfl, rfl, trivial⟩; refine e_lq ?_; obtain rfl := Option.some.inj hF
        exact ⟨_, Nat.lt_succ_self _, (l148.set ((x275 : Int).toNat) (u151 &&& ~~~x324)), u151 ||| x352, i152 - 1, v149, b150, ha.sub ⟨rfl, rfl, rfl, rfl, rfl, rfl, trivial⟩, hE357, hI358, h143, z144, h348, z147, q154, q155, hN271⟩
      replace hF := if_f hp274 hF; refine wp_exit ?_; refine e_then_exit ?_; refine e_lq_eq ?_; obtain rfl := Option.some.inj hF
      exact ⟨l148, v149, b150, ha.sub ⟨rfl, trivial⟩, hE156, h146, z147, (LK_inr hN271).symm⟩
  rintro a w258 ⟨l262, v263, b264, ha, hE270, h260, z261, rfl⟩
  have hF : F_impl_longestLine_k2 l262 = some _ := hK267; clear hK267; unfold F_impl_longestLine_k2 at hF
  refine e_then ?_; refine wp_seq ?_; refine wp_region_lit ?_; refine op_g ha rfl (g_move rfl) ?_; clear ha a; intro a ha
  obtain ⟨fp360, hro361, hs362⟩ := h260.roF
  obtain ⟨x363, hc364, hF⟩ := cal_some hF
  refine o_call ha rfl rfl Tryd.call22 (W_impl_longestLists hro361 (hG.ext hE270) hc364) ?_; clear ha a; rintro v365 w366 ⟨fp368, h369, pv370, hx367⟩ a ha
  replace h260 := h260.ext hx367
  have hE372 := Ext.trans hE270 hx367
  obtain ⟨x373, hc374, hF⟩ := cal_some hF
  refine o_call ha rfl rfl Tryd.call21 (W_impl_bestList h369 hc374) ?_; clear ha a; rintro v375 w376 ⟨fp378, h379, pv380, hx377⟩ a ha
  replace h260 := h260.ext hx377
  replace h369 := h369.ext hx377
  have hE382 := Ext.trans hE372 hx377
  obtain ⟨x383, hc384, hF⟩ := cal_some hF
  refine o_call ha rfl rfl Tryd.call20 (W_impl_wide h379 hc384) ?_; clear ha a; rintro v385 w386 ⟨b388, h389, z390, hx387⟩ a ha
  have q392 := Nq.new h260.fpb z390
  have q393 := Nq.madeO z390 h260.blt
  have q394 := Nq.new h369.bnd z390
  have q395 := Nq.new h379.bnd z390
  replace h260 := h260.ext hx387
  replace h369 := h369.ext hx387
  replace h379 := h379.ext hx387
  have hE396 := Ext.trans hE382 hx387
  have q397 := Zn.upD z390 hE382
  refine op_g ha rfl (g_assign rfl) ?_; clear ha a; intro a ha; refine wpList_nil ?_; replace ha := ha.sub (σ' := [(6, v385)]) ⟨rfl, trivial⟩; refine e_then ?_; refine wp_ret ?_; obtain rfl := Option.some.inj hF
  exact f_ret1 ha rfl rfl ⟨_, h389, q397, hE396⟩
set_option maxHeartbeats 2000000 in
theorem W_impl_StraightLongest {W : World} {va0 : Value} {fa0 : List Nat} {a0 : (List Int)} (ha0 : Ro Rp.int W fa0 va0 a0) {va1 : Value} {fa1 : List Nat} {a1 : (List Int)} (ha1 : Ro Rp.int W fa1 va1 a1) (hG : GT 0 W) {r : (List Int)} (hF : F_impl_StraightLongest a0 a1 = some r) :
    Calls Tryd.prog 12 [va0, va1].toArray W (Ret fun u w' => ∃ (b_u : Int), Ow Rp.int 2 true w' [] b_u u r ∧ Zn W b_u ∧ Ext W w') := by
  refine f_enter Tryd.func12 rfl Tryd.ntmps12 rfl ?_
  intro a ha
  replace ha : Fr 8 [(0, va0), (1, va1)] a := ha
  have hE : Chg [] W W := Chg.refl _ _
  unfold F_impl_StraightLongest at hF
  refine wp_seq ?_; refine wp_region_lit ?_; refine op_g ha rfl (g_assign rfl) ?_; clear ha a; intro a ha; refine wpList_nil ?_; replace ha := ha.sub (σ' := [(0, va0), (1, va1)]) ⟨rfl, rfl, trivial⟩; refine e_then ?_; refine wp_seq ?_; refine wp_region_lit ?_; (iterate 2 refine op_g ha rfl (g_move rfl) ?_; clear ha a; intro a ha); obtain ⟨x1, hc2, hF⟩ := cal_some hF
  refine o_call ha rfl rfl Tryd.call14 (W_impl_longestLine (ha0.ext hE) (ha1.ext hE) (hG.ext hE) hc2) ?_; clear ha a; rintro v3 w4 ⟨b6, h7, z8, hx5⟩ a ha
  have hE10 := Ext.trans hE hx5
  have q11 := Zn.upD z8 hE
  refine op_g ha rfl (g_assign rfl) ?_; clear ha a; intro a ha; refine wpList_nil ?_; replace ha := ha.sub (σ' := [(4, v3)]) ⟨rfl, trivial⟩; refine e_then ?_; refine wp_ret ?_; obtain rfl := Option.some.inj hF
  exact f_ret1 ha rfl rfl ⟨_, h7, q11, hE10⟩
set_option maxHeartbeats 2000000 in
theorem W_laws_eqInt64S {W : World} {va0 : Value} {fa0 : List Nat} {a0 : (List Int)} (ha0 : Ro Rp.int W fa0 va0 a0) {va1 : Value} {fa1 : List Nat} {a1 : (List Int)} (ha1 : Ro Rp.int W fa1 va1 a1) {r : Bool} (hF : F_laws_eqInt64S a0 a1 = some r) :
    Calls Tryd.prog 8 [va0, va1].toArray W (Ret fun u w' => u = .bool r ∧ Ext W w') := by
  refine f_enter Tryd.func8 rfl Tryd.ntmps8 rfl ?_
  intro a ha
  replace ha : Fr 26 [(0, va0), (1, va1)] a := ha
  have hE : Chg [] W W := Chg.refl _ _
  unfold F_laws_eqInt64S at hF
  refine wp_seq ?_; refine wp_region_lit ?_; refine op_g ha rfl (g_assign rfl) ?_; clear ha a; intro a ha; refine wpList_nil ?_; replace ha := ha.sub (σ' := [(0, va0), (1, va1)]) ⟨rfl, rfl, trivial⟩; refine e_then ?_; refine wp_seq ?_; refine wp_seq ?_; refine wp_region_lit ?_; refine op_g ha rfl (g_move rfl) ?_; clear ha a; intro a ha; refine op_g ha rfl (g_lenR sl22.und ha0 rfl) ?_; clear ha a; intro a ha; refine op_g ha rfl (g_move rfl) ?_; clear ha a; intro a ha; refine op_g ha rfl (g_lenR sl22.und ha1 rfl) ?_; clear ha a; intro a ha; refine op_g ha rfl (g_neq rfl rfl) ?_; clear ha a; intro a ha
  refine wpList_nil ?_; replace ha := ha.sub (σ' := [(0, va0), (1, va1), (10, (.bool (decide ((a0.length : Int) ≠ (a1.length : Int)))))]) ⟨rfl, rfl, rfl, trivial⟩; refine e_then ?_; refine c_cond ((a0.length : Int) ≠ (a1.length : Int)) ha rfl (decide_eq_true_iff) (fun hp1 => ?_) (fun hp1 => ?_)
  · replace hF := if_t hp1 hF
    refine wp_seq ?_; refine wp_region_lit ?_; refine op_g ha rfl (g_assign rfl) ?_; clear ha a; intro a ha; refine wpList_nil ?_; replace ha := ha.sub (σ' := [(4, (.bool false))]) ⟨rfl, trivial⟩; refine e_then ?_; refine wp_ret ?_; refine e_then_ret ?_; obtain rfl := Option.some.inj hF
    exact f_ret1 ha rfl rfl ⟨rfl, hE⟩
  replace hF := if_f hp1 hF; refine wp_skip ?_; refine e_then ?_; refine wp_seq ?_; refine wp_seq ?_; refine wp_region_lit ?_; refine op_g ha rfl (g_assign rfl) ?_; clear ha a; intro a ha; refine wpList_nil ?_; replace ha := ha.sub (σ' := [(0, va0), (1, va1), (5, (.int .i64 0))]) ⟨rfl, rfl, rfl, trivial⟩; refine e_then ?_; obtain ⟨o77, ho78, hK79⟩ := bnd_some hF
  obtain ⟨n80, hn81⟩ := lp_some ho78; clear ho78
  refine c_loop (fun a w => Fr 26 [] a ∧ Chg [] W w ∧ o77 = .inl ()) (fun n a w => ∃ (i39 : Int), Fr 26 [(0, va0), (1, va1), (5, (.int .i64 i39))] a ∧ Chg [] W w ∧ InI i39 ∧ lpN (fun s => F_laws_eqInt64S_l1 a0 a1 s) n i39 = some o77) n80 ⟨0, ha.sub ⟨rfl, rfl, rfl, trivial⟩, hE, (show InI 0 from by decide), hn81⟩ ?_ ?_
  · rintro m85 a w38 ⟨i39, ha, hE41, hI40, hF⟩
    cases m85 with
    | zero => exact (lpN_zero hF).elim
    | succ m85 =>
      obtain ⟨z84, hF, hN83⟩ := lpN_succ hF
      have hF : F_laws_eqInt64S_l1 a0 a1 i39 = some z84 := hF; unfold F_laws_eqInt64S_l1 at hF
      refine wp_seq ?_; refine wp_seq ?_; refine wp_region_lit ?_; (iterate 2 refine op_g ha rfl (g_move rfl) ?_; clear ha a; intro a ha); refine op_g ha rfl (g_lenR sl22.und ha0 rfl) ?_; clear ha a; intro a ha; refine op_g ha rfl (g_lss rfl rfl) ?_; clear ha a; intro a ha; refine wpList_nil ?_; replace ha := ha.sub (σ' := [(0, va0), (1, va1), (5, (.int .i64 i39)), (14, (.bool (decide (i39 < (a0.length : Int)))))]) ⟨rfl, rfl, rfl, rfl, trivial⟩; refine e_then ?_; refine c_cond (i39 < (a0.length : Int)) ha rfl (decide_eq_true_iff) (fun hp86 => ?_) (fun hp86 => ?_)
      · replace hF := if_t hp86 hF
        refine wp_skip ?_; refine e_then ?_; refine wp_seq ?_; refine wp_block ?_; refine wp_seq ?_; refine d_quiet hmix (by kernel_rfl) ?_; (iterate 2 refine q_g ha rfl (g_move rfl) ?_; clear ha a; intro a ha); obtain ⟨x87, g88, gx89, hF⟩ := idx_some hF
        obtain ⟨p90, cs91, f92, hf93, hpb94, hat95, hr96, hi97⟩ := ha0.at g88 gx89
        obtain ⟨rfl, hI98, rfl⟩ := hr96
        refine q_g ha rfl (hi97.gives sl22 rfl rfl) ?_; clear ha a; intro a ha; refine q_g ha rfl (g_load0 hE41 Tryd.isAgg2 rfl hat95.one) ?_; clear ha a; intro a ha; (iterate 2 refine q_g ha rfl (g_move rfl) ?_; clear ha a; intro a ha); obtain ⟨x99, g100, gx101, hF⟩ := idx_some hF
        obtain ⟨p102, cs103, f104, hf105, hpb106, hat107, hr108, hi109⟩ := ha1.at g100 gx101
        obtain ⟨rfl, hI110, rfl⟩ := hr108
        refine q_g ha rfl (hi109.gives sl22 rfl rfl) ?_; clear ha a; intro a ha; refine q_g ha rfl (g_load0 hE41 Tryd.isAgg2 rfl hat107.one) ?_; clear ha a; intro a ha; refine q_g ha rfl (g_neq rfl rfl) ?_; clear ha a; intro a ha
        refine q_nil ?_; intro w111 hx112
        have hE113 := Ext.trans hE41 hx112
        replace ha := ha.sub (σ' := [(0, va0), (1, va1), (5, (.int .i64 i39)), (25, (.bool (decide (x87 ≠ x99))))]) ⟨rfl, rfl, rfl, rfl, trivial⟩; refine e_then ?_; refine c_cond (x87 ≠ x99) ha rfl (decide_eq_true_iff) (fun hp114 => ?_) (fun hp114 => ?_)
        · replace hF := if_t hp114 hF
          refine wp_seq ?_; refine wp_region_lit ?_; refine op_g ha rfl (g_assign rfl) ?_; clear ha a; intro a ha; refine wpList_nil ?_; replace ha := ha.sub (σ' := [(4, (.bool false))]) ⟨rfl, trivial⟩; refine e_then ?_; refine wp_ret ?_; refine e_blk_ret ?_; refine e_then_ret ?_; refine e_lq_ret ?_; refine e_then_ret ?_; obtain rfl := Option.some.inj hF
          have e115 := LK_inr hN83; subst e115
          have e116 := BK_inr hK79; subst e116
          exact f_ret1 ha rfl rfl ⟨rfl, hE113⟩
        replace hF := if_f hp114 hF; refine wp_skip ?_; refine e_blk ?_; refine e_then ?_; refine wp_region_lit ?_; refine op_g ha rfl (g_move rfl) ?_; clear ha a; intro a ha; obtain ⟨hI117, hF⟩ := ck_some hF; refine op_g ha rfl (g_add rfl rfl hI117) ?_; clear ha a; intro a ha; refine op_g ha rfl (g_assign rfl) ?_; clear ha a; intro a ha; refine wpList_nil ?_; replace ha := ha.sub (σ' := [(0, va0), (1, va1), (5, (.int .i64 (i39 + 1)))]) ⟨rfl, rfl, rfl, trivial⟩; refine e_lq ?_; obtain rfl := Option.some.inj hF
        exact ⟨_, Nat.lt_succ_self _, i39 + 1, ha.sub ⟨rfl, rfl, rfl, trivial⟩, hE113, hI117, hN83⟩
      replace hF := if_f hp86 hF; refine wp_exit ?_; refine e_then_exit ?_; refine e_lq_eq ?_; obtain rfl := Option.some.inj hF
      exact ⟨ha.sub trivial, hE41, (LK_inr hN83).symm⟩
  rintro a w76 ⟨ha, hE82, rfl⟩
  have hF : F_laws_eqInt64S_k2 = some _ := hK79; clear hK79; unfold F_laws_eqInt64S_k2 at hF
  refine e_then ?_; refine wp_seq ?_; refine wp_region_lit ?_; refine op_g ha rfl (g_assign rfl) ?_; clear ha a; intro a ha; refine wpList_nil ?_; refine e_then ?_; refine wp_ret ?_; obtain rfl := Option.some.inj hF
  exact f_ret1 ha rfl rfl ⟨rfl, hE82⟩
set_option maxHeartbeats 2000000 in
theorem W_laws_markInt64S {W : World} {va0 : Value} {ba0 : Int} {a0 : (List Int)} (ha0 : Ow Rp.int 2 true W [] ba0 va0 a0) {a1 : Int} (ha1 : InI a1) {r : (Int × (List Int))} (hF : F_laws_markInt64S a0 a1 = some r) :
    Calls Tryd.prog 9 [va0, .int .i64 a1].toArray W (Ret fun u w' => (u = .int .i64 r.1 ∧ InI r.1) ∧ Ow Rp.int 2 true w' [] ba0 va0 r.2 ∧ Chg (bl ba0) W w') := by
  refine f_enter Tryd.func9 rfl Tryd.ntmps9 rfl ?_
  intro a ha
  replace ha : Fr 19 [(0, va0), (1, (.int .i64 a1))] a := ha
  have hE : Chg (bl ba0) W W := Chg.refl _ _
  unfold F_laws_markInt64S at hF
  refine wp_seq ?_; refine wp_region_lit ?_; refine op_g ha rfl (g_assign rfl) ?_; clear ha a; intro a ha; refine wpList_nil ?_; replace ha := ha.sub (σ' := [(0, va0), (1, (.int .i64 a1))]) ⟨rfl, rfl, trivial⟩; refine e_then ?_; refine wp_seq ?_; refine wp_seq ?_; refine wp_region_lit ?_; refine op_g ha rfl (g_assign rfl) ?_; clear ha a; intro a ha; refine wpList_nil ?_; refine e_then ?_; obtain ⟨o85, ho86, hK87⟩ := bnd_some hF
  obtain ⟨n88, hn89⟩ := lp_some ho86; clear ho86
  refine c_loop (fun a w => ∃ (i79 : Int) (l82 : (List Int)), Fr 19 [(1, (.int .i64 i79))] a ∧ Chg (bl ba0) W w ∧ InI i79 ∧ Ow Rp.int 2 true w [] ba0 va0 l82 ∧ o85 = .inl (i79, l82)) (fun n a w => ∃ (l38 : (List Int)) (i41 : Int) (i43 : Int), Fr 19 [(0, va0), (1, (.int .i64 i41)), (5, (.int .i64 i43))] a ∧ Chg (bl ba0) W w ∧ InI i41 ∧ InI i43 ∧ Ow Rp.int 2 true w [] ba0 va0 l38 ∧ lpN (fun s => F_laws_markInt64S_l1 s.1 s.2.1 s.2.2) n (l38, i41, i43) = some o85) n88 ⟨a0, a1, 0, ha.sub ⟨rfl, rfl, rfl, trivial⟩, hE, ha1, (show InI 0 from by decide), ha0, hn89⟩ ?_ ?_
  · rintro m93 a w36 ⟨l38, i41, i43, ha, hE45, hI42, hI44, h37, hF⟩
    cases m93 with
    | zero => exact (lpN_zero hF).elim
    | succ m93 =>
      obtain ⟨z92, hF, hN91⟩ := lpN_succ hF
      have hF : F_laws_markInt64S_l1 l38 i41 i43 = some z92 := hF; unfold F_laws_markInt64S_l1 at hF
      refine wp_seq ?_; refine wp_seq ?_; refine wp_region_lit ?_; (iterate 2 refine op_g ha rfl (g_move rfl) ?_; clear ha a; intro a ha); refine op_g ha rfl (g_lenO sl22.und h37 rfl) ?_; clear ha a; intro a ha; refine op_g ha rfl (g_lss rfl rfl) ?_; clear ha a; intro a ha; refine wpList_nil ?_; replace ha := ha.sub (σ' := [(0, va0), (1, (.int .i64 i41)), (5, (.int .i64 i43)), (9, (.bool (decide (i43 < (l38.length : Int)))))]) ⟨rfl, rfl, rfl, rfl, trivial⟩; refine e_then ?_; refine c_cond (i43 < (l38.length : Int)) ha rfl (decide_eq_true_iff) (fun hp94 => ?_) (fun hp94 => ?_)
      · replace hF := if_t hp94 hF
        refine wp_skip ?_; refine e_then ?_; refine wp_seq ?_; refine wp_block ?_; refine wp_seq ?_; refine wp_region_lit ?_; (iterate 3 refine op_g ha rfl (g_move rfl) ?_; clear ha a; intro a ha); obtain ⟨x95, g96, gx97, hF⟩ := idx_some hF
        obtain ⟨p98, cs99, f100, hf101, hpb102, hat103, hr104, hi105⟩ := h37.at g96 gx97
        obtain ⟨rfl, hI106, rfl⟩ := hr104
        refine op_g ha rfl (hi105.gives sl22 rfl rfl) ?_; clear ha a; intro a ha
        refine o_storeE (f := []) (q := i41) ha Tryd.sizeOf2 rfl rfl rfl h37 hi105 ⟨rfl, hI42, rfl⟩ (Nq.nil _) ?_; intro w107 fs108 h109 hc110 hs111
        obtain rfl := Subst.nil hs111
        have hE112 := Chg.same hE45 hc110
        refine wpList_nil ?_; replace ha := ha.sub (σ' := [(0, va0), (1, (.int .i64 i41)), (5, (.int .i64 i43))]) ⟨rfl, rfl, rfl, trivial⟩; refine e_then ?_; refine wp_region_lit ?_; refine op_g ha rfl (g_move rfl) ?_; clear ha a; intro a ha; obtain ⟨hI113, hF⟩ := ck_some hF; refine op_g ha rfl (g_add rfl rfl hI113) ?_; clear ha a; intro a ha; refine op_g ha rfl (g_assign rfl) ?_; clear ha a; intro a ha; refine wpList_nil ?_; replace ha := ha.sub (σ' := [(0, va0), (1, (.int .i64 (i41 + 1))), (5, (.int .i64 i43))]) ⟨rfl, rfl, rfl, trivial⟩; refine e_blk ?_; refine e_then ?_; refine wp_region_lit ?_
        refine op_g ha rfl (g_move rfl) ?_; clear ha a; intro a ha; obtain ⟨hI115, hF⟩ := ck_some hF; refine op_g ha rfl (g_add rfl rfl hI115) ?_; clear ha a; intro a ha; refine op_g ha rfl (g_assign rfl) ?_; clear ha a; intro a ha; refine wpList_nil ?_; replace ha := ha.sub (σ' := [(0, va0), (1, (.int .i64 (i41 + 1))), (5, (.int .i64 (i43 + 1)))]) ⟨rfl, rfl, rfl, trivial⟩; refine e_lq ?_; obtain rfl := Option.some.inj hF
        exact ⟨_, Nat.lt_succ_self _, (l38.set ((i43 : Int).toNat) i41), i41 + 1, i43 + 1, ha.sub ⟨rfl, rfl, rfl, trivial⟩, hE112, hI113, hI115, h109, hN91⟩
      replace hF := if_f hp94 hF; refine wp_exit ?_; refine e_then_exit ?_; refine e_lq_eq ?_; obtain rfl := Option.some.inj hF
      exact ⟨i41, l38, ha.sub ⟨rfl, trivial⟩, hE45, hI42, h37, (LK_inr hN91).symm⟩
  rintro a w78 ⟨i79, l82, ha, hE90, hI80, h81, rfl⟩
  have hF : F_laws_markInt64S_k2 i79 l82 = some _ := hK87; clear hK87; unfold F_laws_markInt64S_k2 at hF
  refine e_then ?_; refine wp_seq ?_; refine wp_region_lit ?_; refine op_g ha rfl (g_move rfl) ?_; clear ha a; intro a ha; refine op_g ha rfl (g_assign rfl) ?_; clear ha a; intro a ha; refine wpList_nil ?_; replace ha := ha.sub (σ' := [(4, (.int .i64 i79))]) ⟨rfl, trivial⟩; refine e_then ?_; refine wp_ret ?_; obtain rfl := Option.some.inj hF
  exact f_ret1 ha rfl rfl ⟨⟨rfl, hI80⟩, h81, hE90⟩
set_option maxHeartbeats 2000000 in
theorem W_laws_heldInt64S {W : World} {va0 : Value} {fa0 : List Nat} {a0 : (List Int)} (ha0 : Ro Rp.int W fa0 va0 a0) {a1 : Int} (ha1 : InI a1) {r : Int} (hF : F_laws_heldInt64S a0 a1 = some r) :
    Calls Tryd.prog 10 [va0, .int .i64 a1].toArray W (Ret fun u w' => (u = .int .i64 r ∧ InI r) ∧ Ext W w') := by
  refine f_enter Tryd.func10 rfl Tryd.ntmps10 rfl ?_
  intro a ha
  replace ha : Fr 21 [(0, va0), (1, (.int .i64 a1))] a := ha
  have hE : Chg [] W W := Chg.refl _ _
  unfold F_laws_heldInt64S at hF
  refine wp_seq ?_; refine wp_region_lit ?_; refine op_g ha rfl (g_assign rfl) ?_; clear ha a; intro a ha; refine wpList_nil ?_; replace ha := ha.sub (σ' := [(0, va0), (1, (.int .i64 a1))]) ⟨rfl, rfl, trivial⟩; refine e_then ?_; refine wp_seq ?_; refine wp_seq ?_; refine wp_region_lit ?_; refine op_g ha rfl (g_assign rfl) ?_; clear ha a; intro a ha; refine wpList_nil ?_; refine e_then ?_; obtain ⟨o58, ho59, hK60⟩ := bnd_some hF
  obtain ⟨n61, hn62⟩ := lp_some ho59; clear ho59
  refine c_loop (fun a w => ∃ (i56 : Int), Fr 21 [(1, (.int .i64 i56))] a ∧ Chg [] W w ∧ InI i56 ∧ o58 = .inl i56) (fun n a w => ∃ (i27 : Int) (i29 : Int), Fr 21 [(0, va0), (1, (.int .i64 i27)), (5, (.int .i64 i29))] a ∧ Chg [] W w ∧ InI i27 ∧ InI i29 ∧ lpN (fun s => F_laws_heldInt64S_l1 a0 s.1 s.2) n (i27, i29) = some o58) n61 ⟨a1, 0, ha.sub ⟨rfl, rfl, rfl, trivial⟩, hE, ha1, (show InI 0 from by decide), hn62⟩ ?_ ?_
  · rintro m66 a w26 ⟨i27, i29, ha, hE31, hI28, hI30, hF⟩
    cases m66 with
    | zero => exact (lpN_zero hF).elim
    | succ m66 =>
      obtain ⟨z65, hF, hN64⟩ := lpN_succ hF
      have hF : F_laws_heldInt64S_l1 a0 i27 i29 = some z65 := hF; unfold F_laws_heldInt64S_l1 at hF
      refine wp_seq ?_; refine wp_seq ?_; refine wp_region_lit ?_; (iterate 2 refine op_g ha rfl (g_move rfl) ?_; clear ha a; intro a ha); refine op_g ha rfl (g_lenR sl22.und ha0 rfl) ?_; clear ha a; intro a ha; refine op_g ha rfl (g_lss rfl rfl) ?_; clear ha a; intro a ha; refine wpList_nil ?_; replace ha := ha.sub (σ' := [(0, va0), (1, (.int .i64 i27)), (5, (.int .i64 i29)), (9, (.bool (decide (i29 < (a0.length : Int)))))]) ⟨rfl, rfl, rfl, rfl, trivial⟩; refine e_then ?_; refine c_cond (i29 < (a0.length : Int)) ha rfl (decide_eq_true_iff) (fun hp67 => ?_) (fun hp67 => ?_)
      · replace hF := if_t hp67 hF
        refine wp_skip ?_; refine e_then ?_; refine wp_seq ?_; refine wp_block ?_; refine wp_seq ?_; refine wp_seq ?_; refine wp_region_lit ?_; (iterate 2 refine op_g ha rfl (g_move rfl) ?_; clear ha a; intro a ha); obtain ⟨x68, g69, gx70, hF⟩ := idx_some hF
        obtain ⟨p71, cs72, f73, hf74, hpb75, hat76, hr77, hi78⟩ := ha0.at g69 gx70
        obtain ⟨rfl, hI79, rfl⟩ := hr77
        refine op_g ha rfl (hi78.gives sl22 rfl rfl) ?_; clear ha a; intro a ha; refine op_g ha rfl (g_load0 hE31 Tryd.isAgg2 rfl hat76.one) ?_; clear ha a; intro a ha; refine op_g ha rfl (g_move rfl) ?_; clear ha a; intro a ha; refine op_g ha rfl (g_neq rfl rfl) ?_; clear ha a; intro a ha; refine wpList_nil ?_; replace ha := ha.sub (σ' := [(0, va0), (1, (.int .i64 i27)), (5, (.int .i64 i29)), (17, (.bool (decide (x68 ≠ i27))))]) ⟨rfl, rfl, rfl, rfl, trivial⟩; refine e_then ?_; refine c_cond (x68 ≠ i27) ha rfl (decide_eq_true_iff) (fun hp80 => ?_) (fun hp80 => ?_)
        · replace hF := if_t hp80 hF
          refine wp_seq ?_; refine wp_region_lit ?_; refine op_g ha rfl (g_assign rfl) ?_; clear ha a; intro a ha; refine wpList_nil ?_; replace ha := ha.sub (σ' := [(4, (.int .i64 (-1)))]) ⟨rfl, trivial⟩; refine e_then ?_; refine wp_ret ?_; refine e_then_ret ?_; refine e_blk_ret ?_; refine e_then_ret ?_; refine e_lq_ret ?_; refine e_then_ret ?_; obtain rfl := Option.some.inj hF
          have e81 := LK_inr hN64; subst e81
          have e82 := BK_inr hK60; subst e82
          exact f_ret1 ha rfl rfl ⟨⟨rfl, (show InI (-1) from by decide)⟩, hE31⟩
        replace hF := if_f hp80 hF; refine wp_skip ?_; refine e_then ?_; refine wp_region_lit ?_; refine op_g ha rfl (g_move rfl) ?_; clear ha a; intro a ha; obtain ⟨hI83, hF⟩ := ck_some hF; refine op_g ha rfl (g_add rfl rfl hI83) ?_; clear ha a; intro a ha; refine op_g ha rfl (g_assign rfl) ?_; clear ha a; intro a ha; refine wpList_nil ?_; replace ha := ha.sub (σ' := [(0, va0), (1, (.int .i64 (i27 + 1))), (5, (.int .i64 i29))]) ⟨rfl, rfl, rfl, trivial⟩; refine e_blk ?_; refine e_then ?_; refine wp_region_lit ?_; refine op_g ha rfl (g_move rfl) ?_; clear ha a; intro a ha; obtain ⟨hI85, hF⟩ := ck_some hF
        refine op_g ha rfl (g_add rfl rfl hI85) ?_; clear ha a; intro a ha; refine op_g ha rfl (g_assign rfl) ?_; clear ha a; intro a ha; refine wpList_nil ?_; replace ha := ha.sub (σ' := [(0, va0), (1, (.int .i64 (i27 + 1))), (5, (.int .i64 (i29 + 1)))]) ⟨rfl, rfl, rfl, trivial⟩; refine e_lq ?_; obtain rfl := Option.some.inj hF
        exact ⟨_, Nat.lt_succ_self _, i27 + 1, i29 + 1, ha.sub ⟨rfl, rfl, rfl, trivial⟩, hE31, hI83, hI85, hN64⟩
      replace hF := if_f hp67 hF; refine wp_exit ?_; refine e_then_exit ?_; refine e_lq_eq ?_; obtain rfl := Option.some.inj hF
      exact ⟨i27, ha.sub ⟨rfl, trivial⟩, hE31, hI28, (LK_inr hN64).symm⟩
  rintro a w55 ⟨i56, ha, hE63, hI57, rfl⟩
  have hF : F_laws_heldInt64S_k2 i56 = some _ := hK60; clear hK60; unfold F_laws_heldInt64S_k2 at hF
  refine e_then ?_; refine wp_seq ?_; refine wp_region_lit ?_; refine op_g ha rfl (g_move rfl) ?_; clear ha a; intro a ha; refine op_g ha rfl (g_assign rfl) ?_; clear ha a; intro a ha; refine wpList_nil ?_; replace ha := ha.sub (σ' := [(4, (.int .i64 i56))]) ⟨rfl, trivial⟩; refine e_then ?_; refine wp_ret ?_; obtain rfl := Option.some.inj hF
  exact f_ret1 ha rfl rfl ⟨⟨rfl, hI57⟩, hE63⟩
set_option maxHeartbeats 2000000 in
theorem W_laws_FnExactStraightLongest {W : World} {va0 : Value} {fa0 : List Nat} {a0 : (List Int)} (ha0 : Ro Rp.int W fa0 va0 a0) {va1 : Value} {fa1 : List Nat} {a1 : (List Int)} (ha1 : Ro Rp.int W fa1 va1 a1) (hG : GT 0 W) {r : Bool} (hF : F_laws_FnExactStraightLongest a0 a1 = some r) :
    Calls Tryd.prog 4 [va0, va1].toArray W (Ret fun u w' => u = .bool r ∧ Ext W w') := by
  refine f_enter Tryd.func4 rfl Tryd.ntmps4 rfl ?_
  intro a ha
  replace ha : Fr 87 [(0, va0), (1, va1)] a := ha
  have hE : Chg [] W W := Chg.refl _ _
  unfold F_laws_FnExactStraightLongest at hF
  refine wp_seq ?_; refine wp_region_lit ?_; refine op_g ha rfl (g_assign rfl) ?_; clear ha a; intro a ha; refine wpList_nil ?_; replace ha := ha.sub (σ' := [(0, va0), (1, va1)]) ⟨rfl, rfl, trivial⟩; refine e_then ?_; refine wp_seq ?_; refine wp_seq ?_; refine wp_region_lit ?_; refine op_g ha rfl (g_move rfl) ?_; clear ha a; intro a ha; refine op_g ha rfl (g_lenR sl22.und ha0 rfl) ?_; clear ha a; intro a ha; refine op_g ha rfl (g_gtr rfl rfl) ?_; clear ha a; intro a ha; refine wpList_nil ?_; replace ha := ha.sub (σ' := [(0, va0), (1, va1), (15, (.bool (decide (1048576 < (a0.length : Int)))))]) ⟨rfl, rfl, rfl, trivial⟩
  refine e_then ?_; refine c_cond (1048576 < (a0.length : Int)) ha rfl (decide_eq_true_iff) (fun hp1 => ?_) (fun hp1 => ?_)
  · replace hF := if_t hp1 hF
    refine wp_seq ?_; refine wp_region_lit ?_; refine op_g ha rfl (g_assign rfl) ?_; clear ha a; intro a ha; refine wpList_nil ?_; replace ha := ha.sub (σ' := [(4, (.bool true))]) ⟨rfl, trivial⟩; refine e_then ?_; refine wp_ret ?_; refine e_then_ret ?_; obtain rfl := Option.some.inj hF
    exact f_ret1 ha rfl rfl ⟨rfl, hE⟩
  replace hF := if_f hp1 hF; refine wp_skip ?_; refine e_then ?_; refine wp_seq ?_; refine wp_seq ?_; refine wp_region_lit ?_; refine op_g ha rfl (g_move rfl) ?_; clear ha a; intro a ha; refine op_g ha rfl (g_lenR sl22.und ha1 rfl) ?_; clear ha a; intro a ha; refine op_g ha rfl (g_gtr rfl rfl) ?_; clear ha a; intro a ha; refine wpList_nil ?_; replace ha := ha.sub (σ' := [(0, va0), (1, va1), (18, (.bool (decide (1048576 < (a1.length : Int)))))]) ⟨rfl, rfl, rfl, trivial⟩; refine e_then ?_; refine c_cond (1048576 < (a1.length : Int)) ha rfl (decide_eq_true_iff) (fun hp2 => ?_) (fun hp2 => ?_)
  · replace hF := if_t hp2 hF
    refine wp_seq ?_; refine wp_region_lit ?_; refine op_g ha rfl (g_assign rfl) ?_; clear ha a; intro a ha; refine wpList_nil ?_; replace ha := ha.sub (σ' := [(4, (.bool true))]) ⟨rfl, trivial⟩; refine e_then ?_; refine wp_ret ?_; refine e_then_ret ?_; obtain rfl := Option.some.inj hF
    exact f_ret1 ha rfl rfl ⟨rfl, hE⟩
  replace hF := if_f hp2 hF; refine wp_skip ?_; refine e_then ?_; refine wp_seq ?_; refine wp_region_lit ?_; refine op_g ha rfl (g_move rfl) ?_; clear ha a; intro a ha; obtain ⟨x3, hc4, hF⟩ := cal_some hF
  refine o_call ha rfl rfl Tryd.call6 (W_laws_toInt64S (ha0.ext hE) hc4) ?_; clear ha a; rintro v5 w6 ⟨b8, h9, z10, hx7⟩ a ha
  have hE12 := Ext.trans hE hx7
  have q13 := Zn.upD z10 hE
  refine op_g ha rfl (g_move rfl) ?_; clear ha a; intro a ha; obtain ⟨x14, hc15, hF⟩ := cal_some hF
  refine o_call ha rfl rfl Tryd.call6 (W_laws_toInt64S (ha1.ext hE12) hc15) ?_; clear ha a; rintro v16 w17 ⟨b19, h20, z21, hx18⟩ a ha
  have q23 := Nq.new h9.fpb z21
  have q24 := Nq.madeO z21 h9.blt
  replace h9 := h9.ext hx18
  have hE25 := Ext.trans hE12 hx18
  have q26 := Zn.upD z21 hE12
  obtain ⟨fp27, hro28, hs29⟩ := h9.roF
  obtain ⟨fp30, hro31, hs32⟩ := h20.roF
  obtain ⟨x33, hc34, hF⟩ := cal_some hF
  refine o_call ha rfl rfl Tryd.call11 (W_spec_StraightLongest hro28 hro31 hc34) ?_; clear ha a; rintro v35 w36 ⟨b38, h39, z40, hx37⟩ a ha
  have q42 := Nq.new h9.fpb z40
  have q43 := Nq.madeO z40 h9.blt
  have q44 := Nq.new h20.fpb z40
  have q45 := Nq.madeO z40 h20.blt
  replace h9 := h9.ext hx37
  replace h20 := h20.ext hx37
  have hE46 := Ext.trans hE25 hx37
  have q47 := Zn.upD z40 hE25
  refine op_g ha rfl (g_assign rfl) ?_; clear ha a; intro a ha; refine wpList_nil ?_; replace ha := ha.sub (σ' := [(0, va0), (1, va1), (5, v35)]) ⟨rfl, rfl, rfl, trivial⟩; refine e_then ?_; refine wp_seq ?_; refine wp_region_lit ?_; refine op_g ha rfl (g_move rfl) ?_; clear ha a; intro a ha; obtain ⟨x48, hc49, hF⟩ := cal_some hF
  refine o_call ha rfl rfl Tryd.call6 (W_laws_toInt64S (ha0.ext hE46) hc49) ?_; clear ha a; rintro v50 w51 ⟨b53, h54, z55, hx52⟩ a ha
  have q57 := Nq.new h39.fpb z55
  have q58 := Nq.madeO z55 h39.blt
  replace h39 := h39.ext hx52
  have hE59 := Ext.trans hE46 hx52
  have q60 := Zn.upD z55 hE46
  refine op_g ha rfl (g_assign rfl) ?_; clear ha a; intro a ha; refine wpList_nil ?_; replace ha := ha.sub (σ' := [(0, va0), (1, va1), (5, v35), (6, v50)]) ⟨rfl, rfl, rfl, rfl, trivial⟩; refine e_then ?_; refine wp_seq ?_; refine wp_region_lit ?_; refine op_g ha rfl (g_move rfl) ?_; clear ha a; intro a ha; obtain ⟨x61, hc62, hF⟩ := cal_some hF
  refine o_call ha rfl rfl Tryd.call6 (W_laws_toInt64S (ha1.ext hE59) hc62) ?_; clear ha a; rintro v63 w64 ⟨b66, h67, z68, hx65⟩ a ha
  have q70 := Nq.new h39.fpb z68
  have q71 := Nq.madeO z68 h39.blt
  have q72 := Nq.new h54.fpb z68
  have q73 := Nq.madeO z68 h54.blt
  replace h39 := h39.ext hx65
  replace h54 := h54.ext hx65
  have hE74 := Ext.trans hE59 hx65
  have q75 := Zn.upD z68 hE59
  refine op_g ha rfl (g_assign rfl) ?_; clear ha a; intro a ha; refine wpList_nil ?_; replace ha := ha.sub (σ' := [(0, va0), (1, va1), (5, v35), (6, v50), (7, v63)]) ⟨rfl, rfl, rfl, rfl, rfl, trivial⟩; refine e_then ?_; refine wp_seq ?_; refine wp_region_lit ?_; (iterate 2 refine op_g ha rfl (g_move rfl) ?_; clear ha a; intro a ha)
  obtain ⟨fp76, hro77, hs78⟩ := h54.roF
  obtain ⟨fp79, hro80, hs81⟩ := h67.roF
  obtain ⟨x82, hc83, hF⟩ := cal_some hF
  refine o_call ha rfl rfl Tryd.call12 (W_impl_StraightLongest hro77 hro80 (hG.ext hE74) hc83) ?_; clear ha a; rintro v84 w85 ⟨b87, h88, z89, hx86⟩ a ha
  have q91 := Nq.new h39.fpb z89
  have q92 := Nq.madeO z89 h39.blt
  have q93 := Nq.new h54.fpb z89
  have q94 := Nq.madeO z89 h54.blt
  have q95 := Nq.new h67.fpb z89
  have q96 := Nq.madeO z89 h67.blt
  replace h39 := h39.ext hx86
  replace h54 := h54.ext hx86
  replace h67 := h67.ext hx86
  have hE97 := Ext.trans hE74 hx86
  have q98 := Zn.upD z89 hE74
  refine op_g ha rfl (g_assign rfl) ?_; clear ha a; intro a ha; refine wpList_nil ?_; replace ha := ha.sub (σ' := [(0, va0), (1, va1), (5, v35), (6, v50), (7, v63), (8, v84)]) ⟨rfl, rfl, rfl, rfl, rfl, rfl, trivial⟩; refine e_then ?_; refine wp_seq ?_; refine wp_seq ?_; refine wp_region_lit ?_; (iterate 2 refine op_g ha rfl (g_move rfl) ?_; clear ha a; intro a ha)
  obtain ⟨fp99, hro100, hs101⟩ := h88.roF
  obtain ⟨fp102, hro103, hs104⟩ := h39.roF
  obtain ⟨x105, hc106, hF⟩ := cal_some hF
  refine o_call ha rfl rfl Tryd.call8 (W_laws_eqInt64S hro100 hro103 hc106) ?_; clear ha a; rintro v107 w108 ⟨rfl, hx109⟩ a ha
  replace h39 := h39.ext hx109
  replace h54 := h54.ext hx109
  replace h67 := h67.ext hx109
  replace h88 := h88.ext hx109
  have hE110 := Ext.trans hE97 hx109
  refine op_g ha rfl (g_not rfl) ?_; clear ha a; intro a ha; refine wpList_nil ?_; replace ha := ha.sub (σ' := [(0, va0), (1, va1), (5, v35), (6, v50), (7, v63), (8, v84), (34, (.bool (!x105)))]) ⟨rfl, rfl, rfl, rfl, rfl, rfl, rfl, trivial⟩; refine e_then ?_; refine c_cond (¬ (x105 = true)) ha rfl (n_iff (Iff.rfl)) (fun hp111 => ?_) (fun hp111 => ?_)
  · replace hF := if_t hp111 hF
    refine wp_seq ?_; refine wp_region_lit ?_; refine op_g ha rfl (g_assign rfl) ?_; clear ha a; intro a ha; refine wpList_nil ?_; replace ha := ha.sub (σ' := [(4, (.bool false))]) ⟨rfl, trivial⟩; refine e_then ?_; refine wp_ret ?_; refine e_then_ret ?_; obtain rfl := Option.some.inj hF
    exact f_ret1 ha rfl rfl ⟨rfl, hE110⟩
  replace hF := if_f hp111 hF; refine wp_skip ?_; refine e_then ?_; refine wp_seq ?_; refine wp_seq ?_; refine wp_region_lit ?_; (iterate 2 refine op_g ha rfl (g_move rfl) ?_; clear ha a; intro a ha); obtain ⟨x112, hc113, hF⟩ := cal_some hF
  refine o_call ha rfl rfl Tryd.call6 (W_laws_toInt64S (ha0.ext hE110) hc113) ?_; clear ha a; rintro v114 w115 ⟨b117, h118, z119, hx116⟩ a ha
  have q121 := Nq.new h39.fpb z119
  have q122 := Nq.madeO z119 h39.blt
  have q123 := Nq.new h54.fpb z119
  have q124 := Nq.madeO z119 h54.blt
  have q125 := Nq.new h67.fpb z119
  have q126 := Nq.madeO z119 h67.blt
  have q127 := Nq.new h88.fpb z119
  have q128 := Nq.madeO z119 h88.blt
  replace h39 := h39.ext hx116
  replace h54 := h54.ext hx116
  replace h67 := h67.ext hx116
  replace h88 := h88.ext hx116
  have hE129 := Ext.trans hE110 hx116
  have q130 := Zn.upD z119 hE110
  obtain ⟨fp131, hro132, hs133⟩ := h54.roF
  obtain ⟨fp134, hro135, hs136⟩ := h118.roF
  obtain ⟨x137, hc138, hF⟩ := cal_some hF
  refine o_call ha rfl rfl Tryd.call8 (W_laws_eqInt64S hro132 hro135 hc138) ?_; clear ha a; rintro v139 w140 ⟨rfl, hx141⟩ a ha
  replace h39 := h39.ext hx141
  replace h54 := h54.ext hx141
  replace h67 := h67.ext hx141
  replace h88 := h88.ext hx141
  replace h118 := h118.ext hx141
  have hE142 := Ext.trans hE129 hx141
  refine op_g ha rfl (g_not rfl) ?_; clear ha a; intro a ha; refine wpList_nil ?_; replace ha := ha.sub (σ' := [(0, va0), (1, va1), (5, v35), (6, v50), (7, v63), (8, v84), (39, (.bool (!x137)))]) ⟨rfl, rfl, rfl, rfl, rfl, rfl, rfl, trivial⟩; refine e_then ?_; refine c_cond (¬ (x137 = true)) ha rfl (n_iff (Iff.rfl)) (fun hp143 => ?_) (fun hp143 => ?_)
  · replace hF := if_t hp143 hF
    refine wp_seq ?_; refine wp_region_lit ?_; refine op_g ha rfl (g_assign rfl) ?_; clear ha a; intro a ha; refine wpList_nil ?_; replace ha := ha.sub (σ' := [(4, (.bool false))]) ⟨rfl, trivial⟩; refine e_then ?_; refine wp_ret ?_; refine e_then_ret ?_; obtain rfl := Option.some.inj hF
    exact f_ret1 ha rfl rfl ⟨rfl, hE142⟩
  replace hF := if_f hp143 hF; refine wp_skip ?_; refine e_then ?_; refine wp_seq ?_; refine wp_seq ?_; refine wp_region_lit ?_; (iterate 2 refine op_g ha rfl (g_move rfl) ?_; clear ha a; intro a ha); obtain ⟨x144, hc145, hF⟩ := cal_some hF
  refine o_call ha rfl rfl Tryd.call6 (W_laws_toInt64S (ha1.ext hE142) hc145) ?_; clear ha a; rintro v146 w147 ⟨b149, h150, z151, hx148⟩ a ha
  have q153 := Nq.new h39.fpb z151
  have q154 := Nq.madeO z151 h39.blt
  have q155 := Nq.new h54.fpb z151
  have q156 := Nq.madeO z151 h54.blt
  have q157 := Nq.new h67.fpb z151
  have q158 := Nq.madeO z151 h67.blt
  have q159 := Nq.new h88.fpb z151
  have q160 := Nq.madeO z151 h88.blt
  replace h39 := h39.ext hx148
  replace h54 := h54.ext hx148
  replace h67 := h67.ext hx148
  replace h88 := h88.ext hx148
  have hE161 := Ext.trans hE142 hx148
  have q162 := Zn.upD z151 hE142
  obtain ⟨fp163, hro164, hs165⟩ := h67.roF
  obtain ⟨fp166, hro167, hs168⟩ := h150.roF
  obtain ⟨x169, hc170, hF⟩ := cal_some hF
  refine o_call ha rfl rfl Tryd.call8 (W_laws_eqInt64S hro164 hro167 hc170) ?_; clear ha a; rintro v171 w172 ⟨rfl, hx173⟩ a ha
  replace h39 := h39.ext hx173
  replace h54 := h54.ext hx173
  replace h67 := h67.ext hx173
  replace h88 := h88.ext hx173
  replace h150 := h150.ext hx173
  have hE174 := Ext.trans hE161 hx173
  refine op_g ha rfl (g_not rfl) ?_; clear ha a; intro a ha; refine wpList_nil ?_; replace ha := ha.sub (σ' := [(0, va0), (1, va1), (5, v35), (6, v50), (7, v63), (8, v84), (44, (.bool (!x169)))]) ⟨rfl, rfl, rfl, rfl, rfl, rfl, rfl, trivial⟩; refine e_then ?_; refine c_cond (¬ (x169 = true)) ha rfl (n_iff (Iff.rfl)) (fun hp175 => ?_) (fun hp175 => ?_)
  · replace hF := if_t hp175 hF
    refine wp_seq ?_; refine wp_region_lit ?_; refine op_g ha rfl (g_assign rfl) ?_; clear ha a; intro a ha; refine wpList_nil ?_; replace ha := ha.sub (σ' := [(4, (.bool false))]) ⟨rfl, trivial⟩; refine e_then ?_; refine wp_ret ?_; refine e_then_ret ?_; obtain rfl := Option.some.inj hF
    exact f_ret1 ha rfl rfl ⟨rfl, hE174⟩
  replace hF := if_f hp175 hF; refine wp_skip ?_; refine e_then ?_; refine wp_seq ?_; refine wp_region_lit ?_; refine op_g ha rfl (g_assign rfl) ?_; clear ha a; intro a ha; refine wpList_nil ?_; replace ha := ha.sub (σ' := [(0, va0), (1, va1), (5, v35), (6, v50), (7, v63), (8, v84), (9, (.int .i64 1))]) ⟨rfl, rfl, rfl, rfl, rfl, rfl, rfl, trivial⟩; refine e_then ?_; refine wp_seq ?_; refine wp_region_lit ?_; (iterate 2 refine op_g ha rfl (g_move rfl) ?_; clear ha a; intro a ha); obtain ⟨x176, hc177, hF⟩ := cal_some hF
  refine o_call ha rfl rfl Tryd.call9 (W_laws_markInt64S h54 (show InI 1 from by decide) hc177) ?_; clear ha a; rintro v178 w179 ⟨⟨rfl, hI181⟩, h182, hx180⟩ a ha
  replace h39 := h39.nq hx180 q57
  replace h67 := h67.nq hx180 q73
  replace h88 := h88.nq hx180 q94
  have hE183 := Ext.then hE174 hx180 (Zn.bl q60)
  refine op_g ha rfl (g_assign rfl) ?_; clear ha a; intro a ha; refine wpList_nil ?_; replace ha := ha.sub (σ' := [(0, va0), (1, va1), (5, v35), (7, v63), (8, v84), (9, (.int .i64 x176.1))]) ⟨rfl, rfl, rfl, rfl, rfl, rfl, trivial⟩; refine e_then ?_; refine wp_seq ?_; refine wp_region_lit ?_; (iterate 2 refine op_g ha rfl (g_move rfl) ?_; clear ha a; intro a ha); obtain ⟨x184, hc185, hF⟩ := cal_some hF
  refine o_call ha rfl rfl Tryd.call9 (W_laws_markInt64S h67 hI181 hc185) ?_; clear ha a; rintro v186 w187 ⟨⟨rfl, hI189⟩, h190, hx188⟩ a ha
  replace h39 := h39.nq hx188 q70
  replace h88 := h88.nq hx188 q96
  have hE191 := Ext.then hE183 hx188 (Zn.bl q75)
  refine op_g ha rfl (g_assign rfl) ?_; clear ha a; intro a ha; refine wpList_nil ?_; replace ha := ha.sub (σ' := [(0, va0), (1, va1), (5, v35), (8, v84), (9, (.int .i64 x184.1))]) ⟨rfl, rfl, rfl, rfl, rfl, trivial⟩; refine e_then ?_; refine wp_seq ?_; refine wp_seq ?_; refine wp_region_lit ?_; refine op_g ha rfl (g_move rfl) ?_; clear ha a; intro a ha; refine op_g ha rfl (g_lss rfl rfl) ?_; clear ha a; intro a ha; refine op_g ha rfl (g_move rfl) ?_; clear ha a; intro a ha
  by_cases hp206 : x184.1 < 0
  · replace hF := if_t hp206 hF
    rw [show (decide (x184.1 < 0)) = true from (decide_eq_true_iff).2 hp206] at ha
    (iterate 4 refine op_unwant ha rfl (yields ha rfl rfl) rfl ?_; clear ha a; intro a ha); refine op_g ha rfl (g_pick rfl rfl) ?_; clear ha a; intro a ha; refine wpList_nil ?_; replace ha := ha.sub (σ' := [(0, va0), (1, va1), (5, v35), (8, v84), (58, (.bool true))]) ⟨rfl, rfl, rfl, rfl, rfl, trivial⟩; refine e_then ?_; refine c_true ha rfl ?_; refine wp_seq ?_; refine wp_region_lit ?_; refine op_g ha rfl (g_assign rfl) ?_; clear ha a; intro a ha; refine wpList_nil ?_; replace ha := ha.sub (σ' := [(4, (.bool false))]) ⟨rfl, trivial⟩; refine e_then ?_; refine wp_ret ?_; refine e_then_ret ?_; obtain rfl := Option.some.inj hF
    exact f_ret1 ha rfl rfl ⟨rfl, hE191⟩
  replace hF := if_f hp206 hF
  rw [show (decide (x184.1 < 0)) = false from b_false (decide_eq_true_iff) hp206] at ha
  refine op_want (yields ha rfl rfl) ?_; refine op_g ha rfl (g_move rfl) ?_; clear ha a; intro a ha; refine op_want (yields ha rfl rfl) ?_; refine op_g ha rfl (g_move rfl) ?_; clear ha a; intro a ha; refine op_want (yields ha rfl rfl) ?_
  obtain ⟨fp207, hro208, hs209⟩ := h88.roF
  obtain ⟨fp210, hro211, hs212⟩ := h39.roF
  obtain ⟨x213, hc214, hF⟩ := cal_some hF
  refine o_call ha rfl rfl Tryd.call8 (W_laws_eqInt64S hro208 hro211 hc214) ?_; clear ha a; rintro v215 w216 ⟨rfl, hx217⟩ a ha
  replace h39 := h39.ext hx217
  replace h88 := h88.ext hx217
  have hE218 := Ext.trans hE191 hx217
  refine op_want (yields ha rfl rfl) ?_; refine op_g ha rfl (g_not rfl) ?_; clear ha a; intro a ha; refine op_g ha rfl (g_pick rfl rfl) ?_; clear ha a; intro a ha; refine wpList_nil ?_; replace ha := ha.sub (σ' := [(0, va0), (1, va1), (5, v35), (8, v84), (58, (.bool (!x213)))]) ⟨rfl, rfl, rfl, rfl, rfl, trivial⟩; refine e_then ?_; refine c_cond (¬ (x213 = true)) ha rfl (n_iff (Iff.rfl)) (fun hp219 => ?_) (fun hp219 => ?_)
  · replace hF := if_t hp219 hF
    refine wp_seq ?_; refine wp_region_lit ?_; refine op_g ha rfl (g_assign rfl) ?_; clear ha a; intro a ha; refine wpList_nil ?_; replace ha := ha.sub (σ' := [(4, (.bool false))]) ⟨rfl, trivial⟩; refine e_then ?_; refine wp_ret ?_; refine e_then_ret ?_; obtain rfl := Option.some.inj hF
    exact f_ret1 ha rfl rfl ⟨rfl, hE218⟩
  replace hF := if_f hp219 hF; refine wp_skip ?_; refine e_then ?_; refine wp_seq ?_; refine wp_region_lit ?_; refine op_g ha rfl (g_assign rfl) ?_; clear ha a; intro a ha; refine wpList_nil ?_; replace ha := ha.sub (σ' := [(0, va0), (1, va1), (5, v35), (8, v84), (10, (.int .i64 1))]) ⟨rfl, rfl, rfl, rfl, rfl, trivial⟩; refine e_then ?_; refine wp_seq ?_; refine wp_region_lit ?_; (iterate 2 refine op_g ha rfl (g_move rfl) ?_; clear ha a; intro a ha); obtain ⟨x220, hc221, hF⟩ := cal_some hF
  refine o_call ha rfl rfl Tryd.call9 (W_laws_markInt64S h88 (show InI 1 from by decide) hc221) ?_; clear ha a; rintro v222 w223 ⟨⟨rfl, hI225⟩, h226, hx224⟩ a ha
  replace h39 := h39.nq hx224 q91
  have hE227 := Ext.then hE218 hx224 (Zn.bl q98)
  refine op_g ha rfl (g_assign rfl) ?_; clear ha a; intro a ha; refine wpList_nil ?_; replace ha := ha.sub (σ' := [(0, va0), (1, va1), (5, v35), (8, v84), (10, (.int .i64 x220.1))]) ⟨rfl, rfl, rfl, rfl, rfl, trivial⟩; refine e_then ?_; refine wp_seq ?_; refine wp_region_lit ?_; refine op_g ha rfl (g_assign rfl) ?_; clear ha a; intro a ha; refine wpList_nil ?_; replace ha := ha.sub (σ' := [(0, va0), (1, va1), (5, v35), (8, v84), (10, (.int .i64 x220.1)), (11, (.int .i64 1))]) ⟨rfl, rfl, rfl, rfl, rfl, rfl, trivial⟩; refine e_then ?_; refine wp_seq ?_; refine wp_region_lit ?_; (iterate 2 refine op_g ha rfl (g_move rfl) ?_; clear ha a; intro a ha)
  obtain ⟨fp228, hro229, hs230⟩ := h226.roF
  obtain ⟨x231, hc232, hF⟩ := cal_some hF
  refine o_call ha rfl rfl Tryd.call10 (W_laws_heldInt64S hro229 (show InI 1 from by decide) hc232) ?_; clear ha a; rintro v233 w234 ⟨⟨rfl, hI236⟩, hx235⟩ a ha
  replace h39 := h39.ext hx235
  replace h226 := h226.ext hx235
  have hE237 := Ext.trans hE227 hx235
  refine op_g ha rfl (g_assign rfl) ?_; clear ha a; intro a ha; refine wpList_nil ?_; replace ha := ha.sub (σ' := [(0, va0), (1, va1), (5, v35), (8, v84), (10, (.int .i64 x220.1)), (11, (.int .i64 x231))]) ⟨rfl, rfl, rfl, rfl, rfl, rfl, trivial⟩; refine e_then ?_; refine wp_seq ?_; refine wp_seq ?_; refine wp_region_lit ?_; refine op_g ha rfl (g_move rfl) ?_; clear ha a; intro a ha; refine op_g ha rfl (g_lss rfl rfl) ?_; clear ha a; intro a ha; refine wpList_nil ?_; replace ha := ha.sub (σ' := [(0, va0), (1, va1), (5, v35), (8, v84), (10, (.int .i64 x220.1)), (11, (.int .i64 x231)), (66, (.bool (decide (x231 < 0))))]) ⟨rfl, rfl, rfl, rfl, rfl, rfl, rfl, trivial⟩
  refine e_then ?_; refine c_cond (x231 < 0) ha rfl (decide_eq_true_iff) (fun hp238 => ?_) (fun hp238 => ?_)
  · replace hF := if_t hp238 hF
    refine wp_seq ?_; refine wp_region_lit ?_; refine op_g ha rfl (g_assign rfl) ?_; clear ha a; intro a ha; refine wpList_nil ?_; replace ha := ha.sub (σ' := [(4, (.bool false))]) ⟨rfl, trivial⟩; refine e_then ?_; refine wp_ret ?_; refine e_then_ret ?_; obtain rfl := Option.some.inj hF
    exact f_ret1 ha rfl rfl ⟨rfl, hE237⟩
  replace hF := if_f hp238 hF; refine wp_skip ?_; refine e_then ?_; refine wp_seq ?_; refine wp_seq ?_; refine wp_region_lit ?_; (iterate 2 refine op_g ha rfl (g_move rfl) ?_; clear ha a; intro a ha); refine op_g ha rfl (g_neq rfl rfl) ?_; clear ha a; intro a ha; refine wpList_nil ?_; replace ha := ha.sub (σ' := [(0, va0), (1, va1), (5, v35), (8, v84), (10, (.int .i64 x220.1)), (69, (.bool (decide (x231 ≠ x220.1))))]) ⟨rfl, rfl, rfl, rfl, rfl, rfl, trivial⟩; refine e_then ?_; refine c_cond (x231 ≠ x220.1) ha rfl (decide_eq_true_iff) (fun hp239 => ?_) (fun hp239 => ?_)
  · replace hF := if_t hp239 hF
    refine wp_seq ?_; refine wp_region_lit ?_; refine op_g ha rfl (g_assign rfl) ?_; clear ha a; intro a ha; refine wpList_nil ?_; replace ha := ha.sub (σ' := [(4, (.bool false))]) ⟨rfl, trivial⟩; refine e_then ?_; refine wp_ret ?_; refine e_then_ret ?_; obtain rfl := Option.some.inj hF
    exact f_ret1 ha rfl rfl ⟨rfl, hE237⟩
  replace hF := if_f hp239 hF; refine wp_skip ?_; refine e_then ?_; refine wp_seq ?_; refine wp_region_lit ?_; refine op_g ha rfl (g_move rfl) ?_; clear ha a; intro a ha; obtain ⟨x240, hc241, hF⟩ := cal_some hF
  refine o_call ha rfl rfl Tryd.call6 (W_laws_toInt64S (ha0.ext hE237) hc241) ?_; clear ha a; rintro v242 w243 ⟨b245, h246, z247, hx244⟩ a ha
  have q249 := Nq.new h39.fpb z247
  have q250 := Nq.madeO z247 h39.blt
  have q251 := Nq.new h226.fpb z247
  have q252 := Nq.madeO z247 h226.blt
  replace h39 := h39.ext hx244
  replace h226 := h226.ext hx244
  have hE253 := Ext.trans hE237 hx244
  have q254 := Zn.upD z247 hE237
  refine op_g ha rfl (g_move rfl) ?_; clear ha a; intro a ha; obtain ⟨x255, hc256, hF⟩ := cal_some hF
  refine o_call ha rfl rfl Tryd.call6 (W_laws_toInt64S (ha1.ext hE253) hc256) ?_; clear ha a; rintro v257 w258 ⟨b260, h261, z262, hx259⟩ a ha
  have q264 := Nq.new h39.fpb z262
  have q265 := Nq.madeO z262 h39.blt
  have q266 := Nq.new h226.fpb z262
  have q267 := Nq.madeO z262 h226.blt
  have q268 := Nq.new h246.fpb z262
  have q269 := Nq.madeO z262 h246.blt
  replace h39 := h39.ext hx259
  replace h226 := h226.ext hx259
  replace h246 := h246.ext hx259
  have hE270 := Ext.trans hE253 hx259
  have q271 := Zn.upD z262 hE253
  obtain ⟨fp272, hro273, hs274⟩ := h246.roF
  obtain ⟨fp275, hro276, hs277⟩ := h261.roF
  obtain ⟨x278, hc279, hF⟩ := cal_some hF
  refine o_call ha rfl rfl Tryd.call12 (W_impl_StraightLongest hro273 hro276 (hG.ext hE270) hc279) ?_; clear ha a; rintro v280 w281 ⟨b283, h284, z285, hx282⟩ a ha
  have q287 := Nq.new h39.fpb z285
  have q288 := Nq.madeO z285 h39.blt
  have q289 := Nq.new h226.fpb z285
  have q290 := Nq.madeO z285 h226.blt
  have q291 := Nq.new h246.fpb z285
  have q292 := Nq.madeO z285 h246.blt
  have q293 := Nq.new h261.fpb z285
  have q294 := Nq.madeO z285 h261.blt
  replace h39 := h39.ext hx282
  replace h226 := h226.ext hx282
  replace h246 := h246.ext hx282
  replace h261 := h261.ext hx282
  have hE295 := Ext.trans hE270 hx282
  have q296 := Zn.upD z285 hE270
  refine op_g ha rfl (g_assign rfl) ?_; clear ha a; intro a ha; refine wpList_nil ?_; replace ha := ha.sub (σ' := [(5, v35), (8, v84), (10, (.int .i64 x220.1)), (12, v280)]) ⟨rfl, rfl, rfl, rfl, trivial⟩; refine e_then ?_; refine wp_seq ?_; refine wp_seq ?_; refine wp_region_lit ?_; (iterate 2 refine op_g ha rfl (g_move rfl) ?_; clear ha a; intro a ha)
  obtain ⟨fp297, hro298, hs299⟩ := h284.roF
  obtain ⟨fp300, hro301, hs302⟩ := h39.roF
  obtain ⟨x303, hc304, hF⟩ := cal_some hF
  refine o_call ha rfl rfl Tryd.call8 (W_laws_eqInt64S hro298 hro301 hc304) ?_; clear ha a; rintro v305 w306 ⟨rfl, hx307⟩ a ha
  replace h39 := h39.ext hx307
  replace h226 := h226.ext hx307
  replace h284 := h284.ext hx307
  have hE308 := Ext.trans hE295 hx307
  refine op_g ha rfl (g_not rfl) ?_; clear ha a; intro a ha; refine wpList_nil ?_; replace ha := ha.sub (σ' := [(8, v84), (10, (.int .i64 x220.1)), (78, (.bool (!x303)))]) ⟨rfl, rfl, rfl, trivial⟩; refine e_then ?_; refine c_cond (¬ (x303 = true)) ha rfl (n_iff (Iff.rfl)) (fun hp309 => ?_) (fun hp309 => ?_)
  · replace hF := if_t hp309 hF
    refine wp_seq ?_; refine wp_region_lit ?_; refine op_g ha rfl (g_assign rfl) ?_; clear ha a; intro a ha; refine wpList_nil ?_; replace ha := ha.sub (σ' := [(4, (.bool false))]) ⟨rfl, trivial⟩; refine e_then ?_; refine wp_ret ?_; refine e_then_ret ?_; obtain rfl := Option.some.inj hF
    exact f_ret1 ha rfl rfl ⟨rfl, hE308⟩
  replace hF := if_f hp309 hF; refine wp_skip ?_; refine e_then ?_; refine wp_seq ?_; refine wp_region_lit ?_; refine op_g ha rfl (g_assign rfl) ?_; clear ha a; intro a ha; refine wpList_nil ?_; replace ha := ha.sub (σ' := [(8, v84), (10, (.int .i64 x220.1)), (11, (.int .i64 1))]) ⟨rfl, rfl, rfl, trivial⟩; refine e_then ?_; refine wp_seq ?_; refine wp_region_lit ?_; (iterate 2 refine op_g ha rfl (g_move rfl) ?_; clear ha a; intro a ha)
  obtain ⟨fp310, hro311, hs312⟩ := h226.roF
  obtain ⟨x313, hc314, hF⟩ := cal_some hF
  refine o_call ha rfl rfl Tryd.call10 (W_laws_heldInt64S hro311 (show InI 1 from by decide) hc314) ?_; clear ha a; rintro v315 w316 ⟨⟨rfl, hI318⟩, hx317⟩ a ha
  replace h226 := h226.ext hx317
  have hE319 := Ext.trans hE308 hx317
  refine op_g ha rfl (g_assign rfl) ?_; clear ha a; intro a ha; refine wpList_nil ?_; replace ha := ha.sub (σ' := [(10, (.int .i64 x220.1)), (11, (.int .i64 x313))]) ⟨rfl, rfl, trivial⟩; refine e_then ?_; refine wp_seq ?_; refine wp_seq ?_; refine wp_region_lit ?_; refine op_g ha rfl (g_move rfl) ?_; clear ha a; intro a ha; refine op_g ha rfl (g_lss rfl rfl) ?_; clear ha a; intro a ha; refine wpList_nil ?_; replace ha := ha.sub (σ' := [(10, (.int .i64 x220.1)), (11, (.int .i64 x313)), (83, (.bool (decide (x313 < 0))))]) ⟨rfl, rfl, rfl, trivial⟩; refine e_then ?_; refine c_cond (x313 < 0) ha rfl (decide_eq_true_iff) (fun hp320 => ?_) (fun hp320 => ?_)
  · replace hF := if_t hp320 hF
    refine wp_seq ?_; refine wp_region_lit ?_; refine op_g ha rfl (g_assign rfl) ?_; clear ha a; intro a ha; refine wpList_nil ?_; replace ha := ha.sub (σ' := [(4, (.bool false))]) ⟨rfl, trivial⟩; refine e_then ?_; refine wp_ret ?_; refine e_then_ret ?_; obtain rfl := Option.some.inj hF
    exact f_ret1 ha rfl rfl ⟨rfl, hE319⟩
  replace hF := if_f hp320 hF; refine wp_skip ?_; refine e_then ?_; refine wp_seq ?_; refine wp_seq ?_; refine wp_region_lit ?_; (iterate 2 refine op_g ha rfl (g_move rfl) ?_; clear ha a; intro a ha); refine op_g ha rfl (g_neq rfl rfl) ?_; clear ha a; intro a ha; refine wpList_nil ?_; replace ha := ha.sub (σ' := [(86, (.bool (decide (x313 ≠ x220.1))))]) ⟨rfl, trivial⟩; refine e_then ?_; refine c_cond (x313 ≠ x220.1) ha rfl (decide_eq_true_iff) (fun hp321 => ?_) (fun hp321 => ?_)
  · replace hF := if_t hp321 hF
    refine wp_seq ?_; refine wp_region_lit ?_; refine op_g ha rfl (g_assign rfl) ?_; clear ha a; intro a ha; refine wpList_nil ?_; replace ha := ha.sub (σ' := [(4, (.bool false))]) ⟨rfl, trivial⟩; refine e_then ?_; refine wp_ret ?_; refine e_then_ret ?_; obtain rfl := Option.some.inj hF
    exact f_ret1 ha rfl rfl ⟨rfl, hE319⟩
  replace hF := if_f hp321 hF; refine wp_skip ?_; refine e_then ?_; refine wp_seq ?_; refine wp_region_lit ?_; refine op_g ha rfl (g_assign rfl) ?_; clear ha a; intro a ha; refine wpList_nil ?_; replace ha := ha.sub (σ' := [(4, (.bool true))]) ⟨rfl, trivial⟩; refine e_then ?_; refine wp_ret ?_; obtain rfl := Option.some.inj hF
  exact f_ret1 ha rfl rfl ⟨rfl, hE319⟩
end Go.Proofs.YtbcjeljppgojgaaDoor
