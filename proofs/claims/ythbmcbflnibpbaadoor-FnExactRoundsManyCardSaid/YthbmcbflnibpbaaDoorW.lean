/- Walks, printed by gen.py. -/
import Derived.Test.YthbmcbflnibpbaaDoorF
import Derived.Test.YthbmcbflnibpbaaDoorW1
import Derived.Test.YthbmcbflnibpbaaDoorProg
import Derived.KernelRfl
set_option maxRecDepth 100000
namespace Go.Proofs.YthbmcbflnibpbaaDoor
open Go Go.RowKit

set_option maxHeartbeats 2000000 in
theorem W_impl_RoundsMany {W : World} {va0_0 : Value} {fa0_0 : List Nat} {a0_0 : (List (List Int))} (ha0_0 : Ro (Rp.sl 2 Rp.int) W fa0_0 va0_0 a0_0) (hG : GT 0 W) {r : Int} (hF : F_impl_RoundsMany a0_0 = some r) :
    Calls Tryd.prog 9 [.agg #[va0_0]].toArray W (Ret fun u w' => (u = .int .i64 r ∧ InI r) ∧ Ext W w') := by
  refine f_enter Tryd.func9 rfl Tryd.ntmps9 rfl ?_
  intro a ha
  replace ha : Fr 101 [(0, (.agg #[va0_0]))] a := ha
  have hE : Chg [] W W := Chg.refl _ _
  unfold F_impl_RoundsMany at hF
  refine wp_seq ?_; refine wp_region_lit ?_
  refine o_box ha rfl rfl rfl ?_; clear ha a; intro b1 w2 hB3 hx4 hlo5 a ha
  have q6 := Zn.one hlo5
  have q7 := Zn.upD q6 hE
  have hE8 := Ext.trans hE hx4
  refine op_g ha rfl (g_assign rfl) ?_; clear ha a; intro a ha; refine wpList_nil ?_; replace ha := ha.sub (σ' := [(1, (.pointer (some ⟨b1, 0, none⟩)))]) ⟨rfl, trivial⟩; refine e_then ?_; refine wp_seq ?_; refine wp_seq ?_; refine wp_region_lit ?_; refine op_g ha rfl (g_loadA (cs := [va0_0]) Tryd.isAgg27 Tryd.sizeOf27 rfl (by simp) hB3.all) ?_; clear ha a; intro a ha; obtain ⟨x9, hc10, hF⟩ := cal_some hF
  refine o_call ha rfl rfl Tryd.call29 (W_impl_GraphOk (ha0_0.ext hE8) hc10) ?_; clear ha a; rintro v11 w12 ⟨rfl, hx13⟩ a ha
  replace hB3 := hB3.ext hx13
  have hE14 := Ext.trans hE8 hx13
  refine op_g ha rfl (g_not rfl) ?_; clear ha a; intro a ha; refine wpList_nil ?_; replace ha := ha.sub (σ' := [(1, (.pointer (some ⟨b1, 0, none⟩))), (15, (.bool (!x9)))]) ⟨rfl, rfl, trivial⟩; refine e_then ?_; refine c_cond (¬ (x9 = true)) ha rfl (n_iff (Iff.rfl)) (fun hp15 => ?_) (fun hp15 => ?_)
  · replace hF := if_t hp15 hF
    refine wp_seq ?_; refine wp_region_lit ?_; refine op_g ha rfl (g_assign rfl) ?_; clear ha a; intro a ha; refine wpList_nil ?_; replace ha := ha.sub (σ' := [(2, (.int .i64 (-1)))]) ⟨rfl, trivial⟩; refine e_then ?_; refine wp_ret ?_; refine e_then_ret ?_; obtain rfl := Option.some.inj hF
    exact f_ret1 ha rfl rfl ⟨⟨rfl, (show InI (-1) from by decide)⟩, hE14⟩
  replace hF := if_f hp15 hF; refine wp_skip ?_; refine e_then ?_; refine wp_seq ?_; refine wp_region_lit ?_; refine op_g ha rfl (g_loadA (cs := [va0_0]) Tryd.isAgg27 Tryd.sizeOf27 rfl (by simp) hB3.all) ?_; clear ha a; intro a ha; obtain ⟨x16, hc17, hF⟩ := cal_some hF
  refine o_call ha rfl rfl Tryd.call30 (W_impl_netsOf (ha0_0.ext hE14) hc17) ?_; clear ha a; rintro v18 w19 ⟨b21, h22, z23, hx20⟩ a ha
  have q25 := Nq.new hB3.fpb z23
  have q26 := Nq.madeO z23 hB3.bi
  replace hB3 := hB3.ext hx20
  have hE27 := Ext.trans hE14 hx20
  have q28 := Zn.upD z23 hE14
  refine op_g ha rfl (g_assign rfl) ?_; clear ha a; intro a ha; refine wpList_nil ?_; replace ha := ha.sub (σ' := [(3, v18)]) ⟨rfl, trivial⟩; refine e_then ?_; refine wp_seq ?_; refine wp_seq ?_; refine wp_region_lit ?_; refine op_g ha rfl (g_move rfl) ?_; clear ha a; intro a ha; refine op_g ha rfl (g_lenO sl45.und h22 rfl) ?_; clear ha a; intro a ha; refine op_g ha rfl (g_lss rfl rfl) ?_; clear ha a; intro a ha; refine wpList_nil ?_; replace ha := ha.sub (σ' := [(3, v18), (20, (.bool (decide ((x16.length : Int) < 3))))]) ⟨rfl, rfl, trivial⟩; refine e_then ?_; refine c_cond ((x16.length : Int) < 3) ha rfl (decide_eq_true_iff) (fun hp29 => ?_) (fun hp29 => ?_)
  · replace hF := if_t hp29 hF
    refine wp_seq ?_; refine wp_region_lit ?_; refine op_g ha rfl (g_assign rfl) ?_; clear ha a; intro a ha; refine wpList_nil ?_; replace ha := ha.sub (σ' := [(2, (.int .i64 0))]) ⟨rfl, trivial⟩; refine e_then ?_; refine wp_ret ?_; refine e_then_ret ?_; obtain rfl := Option.some.inj hF
    exact f_ret1 ha rfl rfl ⟨⟨rfl, (show InI 0 from by decide)⟩, hE27⟩
  replace hF := if_f hp29 hF; refine wp_skip ?_; refine e_then ?_; refine wp_seq ?_; refine wp_region_lit ?_; refine op_g ha rfl (g_move rfl) ?_; clear ha a; intro a ha
  obtain ⟨fp30, hro31, hs32⟩ := h22.roF
  obtain ⟨x33, hc34, hF⟩ := cal_some hF
  refine o_call ha rfl rfl Tryd.call31 (W_impl_nets_all hro31 hc34) ?_; clear ha a; rintro v35 w36 ⟨rfl, hx37⟩ a ha
  replace h22 := h22.ext hx37
  have hE38 := Ext.trans hE27 hx37
  refine op_g ha rfl (g32_add (m := x33) (n := (1#32)) rfl rfl) ?_; clear ha a; intro a ha; obtain ⟨g43, g43b, hF⟩ := mkS_some hF
  refine o_make (z0 := (List.replicate 16 (0 : Int))) (Rp.arr 15) ha rfl sl47 rfl (fun w => arr_zero 15 w) rfl g43 g43b ?_; clear ha a; intro v39 w40 h41 hx42 a ha
  obtain ⟨b46, hb46⟩ : ∃ b : Int, b = w36.heap.size := ⟨_, rfl⟩; rw [← hb46] at h41
  have q47 := zn_of hb46
  have q48 := Nq.new h22.fpb q47
  have q49 := Nq.madeO q47 h22.blt
  have q50 := Zn.upD q47 hE38
  replace h22 := h22.ext hx42
  have hE51 := Ext.trans hE38 hx42
  refine op_g ha rfl (g_assign rfl) ?_; clear ha a; intro a ha; refine wpList_nil ?_; replace ha := ha.sub (σ' := [(3, v18), (4, v39)]) ⟨rfl, rfl, trivial⟩; refine e_then ?_; refine wp_seq ?_; refine wp_region_lit ?_; refine op_g ha rfl (g_move rfl) ?_; clear ha a; intro a ha; obtain ⟨x52, g53, gx54, hF⟩ := idx_some hF
  obtain ⟨p55, cs56, f57, hf58, hpb59, hat60, hr61, hi62⟩ := h41.at g53 gx54
  obtain ⟨hl63, rfl, hin64, rfl⟩ := hr61
  refine op_g ha rfl (hi62.gives sl47 rfl rfl) ?_; clear ha a; intro a ha; obtain ⟨x65, g66, gx67, hF⟩ := idx_some hF
  have hI68 := arr_in hin64 gx67
  refine op_g ha rfl (g_idxA un51 Tryd.sizeOf2 rfl rfl g66 (arr_lt hl63 g66 gx67)) ?_; clear ha a; intro a ha
  refine o_storeG (q := x52) (u := 1) ha Tryd.sizeOf2 rfl rfl h41 hi62 g53 gx54 (show InI 1 from by decide) (List.getElem?_eq_some_iff.1 gx67).1 ?_; intro w69 fs70 h71 hc72 hs73
  obtain rfl := Subst.nil hs73
  replace h22 := h22.nq hc72 q48
  have hE74 := Ext.then hE51 hc72 (Zn.bl q50)
  refine wpList_nil ?_; replace ha := ha.sub (σ' := [(3, v18), (4, v39)]) ⟨rfl, rfl, trivial⟩; refine e_then ?_; refine wp_seq ?_; refine wp_seq ?_; refine wp_region_lit ?_; refine op_g ha rfl (g_assign rfl) ?_; clear ha a; intro a ha; refine wpList_nil ?_; refine e_then ?_; obtain ⟨o3151, ho3152, hK3153⟩ := bnd_some hF
  obtain ⟨n3154, hn3155⟩ := lp_some ho3152; clear ho3152
  refine c_loop (fun a w => ∃ (l3146 : (List (List Int))) (v3147 : Value) (b3148 : Int), Fr 101 [(3, v18), (4, v3147)] a ∧ Chg [] W w ∧ Ow Rp.u32 49 true w [] b21 v18 x16 ∧ Zn W b21 ∧ Ow (Rp.arr 15) 51 true w [] b3148 v3147 l3146 ∧ Zn W b3148 ∧ Nq (bl b21 ++ []) b3148 ∧ Nq (bl b3148 ++ []) b21 ∧ o3151 = .inl l3146) (fun n a w => ∃ (l1612 : (List (List Int))) (u1615 : BitVec 32) (v1613 : Value) (b1614 : Int), Fr 101 [(3, v18), (4, v1613), (5, (.int .u32 (BitVec.toNat u1615 : Int)))] a ∧ Chg [] W w ∧ Ow Rp.u32 49 true w [] b21 v18 x16 ∧ Zn W b21 ∧ Ow (Rp.arr 15) 51 true w [] b1614 v1613 l1612 ∧ Zn W b1614 ∧ Nq (bl b21 ++ []) b1614 ∧ Nq (bl b1614 ++ []) b21 ∧ lpN (fun s => F_impl_RoundsMany_l1 x16 s.1 s.2) n (l1612, u1615) = some o3151) n3154 ⟨((List.replicate ((BitVec.toNat (x33 + (1#32)) : Int) : Int).toNat (List.replicate 16 (0 : Int))).set ((1 : Int).toNat) (x52.set (0 : Int).toNat 1)), 1#32, v39, b46, ha.sub ⟨rfl, rfl, rfl, trivial⟩, hE74, h22, q28, h71, q50, q48, q49, hn3155⟩ ?_ ?_
  · rintro m3159 a w1605 ⟨l1612, u1615, v1613, b1614, ha, hE1618, h1607, z1608, h1610, z1611, q1616, q1617, hF⟩
    cases m3159 with
    | zero => exact (lpN_zero hF).elim
    | succ m3159 =>
      obtain ⟨z3158, hF, hN3157⟩ := lpN_succ hF
      have hF : F_impl_RoundsMany_l1 x16 l1612 u1615 = some z3158 := hF; unfold F_impl_RoundsMany_l1 at hF
      refine wp_seq ?_; refine wp_seq ?_; refine wp_region_lit ?_; (iterate 2 refine op_g ha rfl (g_move rfl) ?_; clear ha a; intro a ha)
      obtain ⟨fp3160, hro3161, hs3162⟩ := h1607.roF
      obtain ⟨x3163, hc3164, hF⟩ := cal_some hF
      refine o_call ha rfl rfl Tryd.call31 (W_impl_nets_all hro3161 hc3164) ?_; clear ha a; rintro v3165 w3166 ⟨rfl, hx3167⟩ a ha
      replace h1607 := h1607.ext hx3167
      replace h1610 := h1610.ext hx3167
      have hE3168 := Ext.trans hE1618 hx3167
      refine op_g ha rfl (g32_lss (m := u1615) (n := x3163) rfl rfl) ?_; clear ha a; intro a ha; refine wpList_nil ?_; replace ha := ha.sub (σ' := [(3, v18), (4, v1613), (5, (.int .u32 (BitVec.toNat u1615 : Int))), (31, (.bool (decide (u1615 < x3163))))]) ⟨rfl, rfl, rfl, rfl, trivial⟩; refine e_then ?_; refine c_cond (u1615 < x3163) ha rfl (decide_eq_true_iff) (fun hp3169 => ?_) (fun hp3169 => ?_)
      · replace hF := if_t hp3169 hF
        refine wp_skip ?_; refine e_then ?_; refine wp_seq ?_; refine wp_block ?_; refine wp_seq ?_; refine wp_region_lit ?_; refine op_g ha rfl (g_move rfl) ?_; clear ha a; intro a ha; obtain ⟨x3170, hc3171, hF⟩ := cal_some hF
        refine o_call ha rfl rfl Tryd.call32 (W_impl_vset_list (hG.ext hE3168) hc3171) ?_; clear ha a; rintro v3172 w3173 ⟨b3175, h3176, z3177, hx3174⟩ a ha
        have q3179 := Nq.new h1607.fpb z3177
        have q3180 := Nq.madeO z3177 h1607.blt
        have q3181 := Nq.new h1610.fpb z3177
        have q3182 := Nq.madeO z3177 h1610.blt
        replace h1607 := h1607.ext hx3174
        replace h1610 := h1610.ext hx3174
        have hE3183 := Ext.trans hE3168 hx3174
        have q3184 := Zn.upD z3177 hE3168
        refine op_g ha rfl (g_lenO sl52.und h3176 rfl) ?_; clear ha a; intro a ha; refine op_g ha rfl (g_move rfl) ?_; clear ha a; intro a ha; refine wpList_nil ?_; replace ha := ha.sub (σ' := [(3, v18), (4, v1613), (5, (.int .u32 (BitVec.toNat u1615 : Int))), (35, v3172), (36, (.int .i64 (x3170.length : Int))), (37, (.int .i64 0))]) ⟨rfl, rfl, rfl, rfl, rfl, rfl, trivial⟩; refine e_then ?_; obtain ⟨o4198, ho4199, hK4200⟩ := bnd_some hF
        obtain ⟨n4201, hn4202⟩ := lp_some ho4199; clear ho4199
        refine c_loop (fun a w => ∃ (l4193 : (List (List Int))) (v4194 : Value) (b4195 : Int), Fr 101 [(3, v18), (4, v4194), (5, (.int .u32 (BitVec.toNat u1615 : Int)))] a ∧ Chg [] W w ∧ Ow Rp.u32 49 true w [] b21 v18 x16 ∧ Zn W b21 ∧ Ow (Rp.arr 15) 51 true w [] b4195 v4194 l4193 ∧ Zn W b4195 ∧ Nq (bl b21 ++ []) b4195 ∧ Nq (bl b4195 ++ []) b21 ∧ o4198 = .inl l4193) (fun n a w => ∃ (l3690 : (List (List Int))) (i3696 : Int) (v3691 : Value) (b3692 : Int), Fr 101 [(3, v18), (4, v3691), (5, (.int .u32 (BitVec.toNat u1615 : Int))), (35, v3172), (36, (.int .i64 (x3170.length : Int))), (37, (.int .i64 i3696))] a ∧ Chg [] W w ∧ InI i3696 ∧ Ow Rp.u32 49 true w [] b21 v18 x16 ∧ Zn W b21 ∧ Ow (Rp.arr 15) 51 true w [] b3692 v3691 l3690 ∧ Zn W b3692 ∧ Ow Rp.int 3 true w [] b3175 v3172 x3170 ∧ Zn W b3175 ∧ Nq (bl b21 ++ []) b3692 ∧ Nq (bl b21 ++ []) b3175 ∧ Nq (bl b3692 ++ []) b21 ∧ Nq (bl b3692 ++ []) b3175 ∧ Nq (bl b3175 ++ []) b21 ∧ Nq (bl b3175 ++ []) b3692 ∧ lpN (fun s => F_impl_RoundsMany_l2 x16 u1615 x3170 s.1 s.2) n (l3690, i3696) = some o4198) n4201 ⟨l1612, 0, v1613, b1614, ha.sub ⟨rfl, rfl, rfl, rfl, rfl, rfl, trivial⟩, hE3183, (show InI 0 from by decide), h1607, z1608, h1610, z1611, h3176, q3184, q1616, q3179, q1617, q3181, q3180, q3182, hn4202⟩ ?_ ?_
        · rintro m4206 a w3683 ⟨l3690, i3696, v3691, b3692, ha, hE3704, hI3697, h3685, z3686, h3688, z3689, h3694, z3695, q3698, q3699, q3700, q3701, q3702, q3703, hF⟩
          cases m4206 with
          | zero => exact (lpN_zero hF).elim
          | succ m4206 =>
            obtain ⟨z4205, hF, hN4204⟩ := lpN_succ hF
            have hF : F_impl_RoundsMany_l2 x16 u1615 x3170 l3690 i3696 = some z4205 := hF; unfold F_impl_RoundsMany_l2 at hF
            refine wp_seq ?_; refine wp_region_lit ?_; refine op_g ha rfl (g_lss rfl rfl) ?_; clear ha a; intro a ha; refine wpList_nil ?_; replace ha := ha.sub (σ' := [(3, v18), (4, v3691), (5, (.int .u32 (BitVec.toNat u1615 : Int))), (35, v3172), (36, (.int .i64 (x3170.length : Int))), (37, (.int .i64 i3696)), (38, (.bool (decide (i3696 < (x3170.length : Int)))))]) ⟨rfl, rfl, rfl, rfl, rfl, rfl, rfl, trivial⟩; refine e_then ?_; refine wp_seq ?_; refine c_cond (i3696 < (x3170.length : Int)) ha rfl (decide_eq_true_iff) (fun hp4207 => ?_) (fun hp4207 => ?_)
            · replace hF := if_t hp4207 hF
              refine wp_skip ?_; refine e_then ?_; refine wp_seq ?_; refine wp_block ?_; refine wp_seq ?_; refine wp_region_lit ?_; obtain ⟨x4208, g4209, gx4210, hF⟩ := idx_some hF
              obtain ⟨p4211, cs4212, f4213, hf4214, hpb4215, hat4216, hr4217, hi4218⟩ := h3694.at g4209 gx4210
              obtain ⟨rfl, hI4219, rfl⟩ := hr4217
              refine op_g ha rfl (hi4218.gives sl52 rfl rfl) ?_; clear ha a; intro a ha; refine op_g ha rfl (g_load Tryd.isAgg3 rfl hat4216.one) ?_; clear ha a; intro a ha; refine op_g ha rfl (g_assign rfl) ?_; clear ha a; intro a ha; refine wpList_nil ?_; replace ha := ha.sub (σ' := [(3, v18), (4, v3691), (5, (.int .u32 (BitVec.toNat u1615 : Int))), (7, (.int .i64 x4208)), (35, v3172), (36, (.int .i64 (x3170.length : Int))), (37, (.int .i64 i3696))]) ⟨rfl, rfl, rfl, rfl, rfl, rfl, rfl, trivial⟩; refine e_then ?_; refine wp_seq ?_; refine wp_seq ?_; refine wp_region_lit ?_; (iterate 3 refine op_g ha rfl (g_move rfl) ?_; clear ha a; intro a ha)
              obtain ⟨x4220, g4221, gx4222, hF⟩ := idx_some hF
              obtain ⟨p4223, cs4224, f4225, hf4226, hpb4227, hat4228, hr4229, hi4230⟩ := h3688.at g4221 gx4222
              obtain ⟨hl4231, rfl, hin4232, rfl⟩ := hr4229
              refine op_g ha rfl (hi4230.gives sl47 rfl rfl) ?_; clear ha a; intro a ha; obtain ⟨x4233, g4234, gx4235, hF⟩ := idx_some hF
              have hI4236 := arr_in hin4232 gx4235
              refine op_g ha rfl (g_idxA un51 Tryd.sizeOf2 rfl rfl g4234 (arr_lt hl4231 g4234 gx4235)) ?_; clear ha a; intro a ha; refine op_g ha rfl (g_load Tryd.isAgg2 rfl (At.arr hat4228 gx4235).one) ?_; clear ha a; intro a ha; refine op_g ha rfl (g_eql rfl rfl) ?_; clear ha a; intro a ha; refine wpList_nil ?_; replace ha := ha.sub (σ' := [(3, v18), (4, v3691), (5, (.int .u32 (BitVec.toNat u1615 : Int))), (7, (.int .i64 x4208)), (35, v3172), (36, (.int .i64 (x3170.length : Int))), (37, (.int .i64 i3696)), (47, (.bool (decide (x4233 = 0))))]) ⟨rfl, rfl, rfl, rfl, rfl, rfl, rfl, rfl, trivial⟩
              refine e_then ?_; refine c_cond (x4233 = 0) ha rfl (decide_eq_true_iff) (fun hp4237 => ?_) (fun hp4237 => ?_)
              · replace hF := if_t hp4237 hF
                refine wp_exit ?_; refine e_then_exit ?_; refine e_blk_eq ?_; refine e_then ?_; refine wp_region_lit ?_; obtain ⟨hI4238, hF⟩ := ck_some hF; refine op_g ha rfl (g_add rfl rfl hI4238) ?_; clear ha a; intro a ha; refine op_g ha rfl (g_move rfl) ?_; clear ha a; intro a ha; refine wpList_nil ?_; replace ha := ha.sub (σ' := [(3, v18), (4, v3691), (5, (.int .u32 (BitVec.toNat u1615 : Int))), (35, v3172), (36, (.int .i64 (x3170.length : Int))), (37, (.int .i64 (i3696 + 1)))]) ⟨rfl, rfl, rfl, rfl, rfl, rfl, trivial⟩; refine e_lq ?_; obtain rfl := Option.some.inj hF
                exact ⟨_, Nat.lt_succ_self _, l3690, i3696 + 1, v3691, b3692, ha.sub ⟨rfl, rfl, rfl, rfl, rfl, rfl, trivial⟩, hE3704, hI4238, h3685, z3686, h3688, z3689, h3694, z3695, q3698, q3699, q3700, q3701, q3702, q3703, hN4204⟩
              replace hF := if_f hp4237 hF; refine wp_skip ?_; refine e_then ?_; refine wp_seq ?_; refine wp_region_lit ?_; (iterate 2 refine op_g ha rfl (g_move rfl) ?_; clear ha a; intro a ha); obtain ⟨x4240, g4241, gx4242, hF⟩ := idx_some hF
              obtain ⟨p4243, cs4244, f4245, hf4246, hpb4247, hat4248, hr4249, hi4250⟩ := h3685.at g4241 gx4242
              obtain ⟨rfl, rfl⟩ := hr4249
              refine op_g ha rfl (hi4250.gives sl45 rfl rfl) ?_; clear ha a; intro a ha; refine op_g ha rfl (g_load Tryd.isAgg49 rfl hat4248.one) ?_; clear ha a; intro a ha; refine op_g ha rfl (g_move rfl) ?_; clear ha a; intro a ha; refine op_g ha rfl (g32_andNot (m := x4240) (n := u1615) rfl rfl) ?_; clear ha a; intro a ha; obtain ⟨x4251, hc4252, hF⟩ := cal_some hF
              refine o_call ha rfl rfl Tryd.call32 (W_impl_vset_list (hG.ext hE3704) hc4252) ?_; clear ha a; rintro v4253 w4254 ⟨b4256, h4257, z4258, hx4255⟩ a ha
              have q4260 := Nq.new h3685.fpb z4258
              have q4261 := Nq.madeO z4258 h3685.blt
              have q4262 := Nq.new h3688.fpb z4258
              have q4263 := Nq.madeO z4258 h3688.blt
              have q4264 := Nq.new h3694.fpb z4258
              have q4265 := Nq.madeO z4258 h3694.blt
              replace h3685 := h3685.ext hx4255
              replace h3688 := h3688.ext hx4255
              replace h3694 := h3694.ext hx4255
              have hE4266 := Ext.trans hE3704 hx4255
              have q4267 := Zn.upD z4258 hE3704
              refine op_g ha rfl (g_lenO sl52.und h4257 rfl) ?_; clear ha a; intro a ha; refine op_g ha rfl (g_move rfl) ?_; clear ha a; intro a ha; refine wpList_nil ?_; replace ha := ha.sub (σ' := [(3, v18), (4, v3691), (5, (.int .u32 (BitVec.toNat u1615 : Int))), (7, (.int .i64 x4208)), (35, v3172), (36, (.int .i64 (x3170.length : Int))), (37, (.int .i64 i3696)), (54, v4253), (55, (.int .i64 (x4251.length : Int))), (56, (.int .i64 0))]) ⟨rfl, rfl, rfl, rfl, rfl, rfl, rfl, rfl, rfl, rfl, trivial⟩; refine e_then ?_; obtain ⟨o4572, ho4573, hK4574⟩ := bnd_some hF
              obtain ⟨n4575, hn4576⟩ := lp_some ho4573; clear ho4573
              refine c_loop (fun a w => ∃ (l4560 : (List (List Int))) (v4561 : Value) (b4562 : Int), Fr 101 [(3, v18), (4, v4561), (5, (.int .u32 (BitVec.toNat u1615 : Int))), (35, v3172), (36, (.int .i64 (x3170.length : Int))), (37, (.int .i64 i3696))] a ∧ Chg [] W w ∧ Ow Rp.u32 49 true w [] b21 v18 x16 ∧ Zn W b21 ∧ Ow (Rp.arr 15) 51 true w [] b4562 v4561 l4560 ∧ Zn W b4562 ∧ Ow Rp.int 3 true w [] b3175 v3172 x3170 ∧ Zn W b3175 ∧ Nq (bl b21 ++ []) b4562 ∧ Nq (bl b21 ++ []) b3175 ∧ Nq (bl b4562 ++ []) b21 ∧ Nq (bl b4562 ++ []) b3175 ∧ Nq (bl b3175 ++ []) b21 ∧ Nq (bl b3175 ++ []) b4562 ∧ o4572 = .inl l4560) (fun n a w => ∃ (l4415 : (List (List Int))) (i4424 : Int) (v4416 : Value) (b4417 : Int), Fr 101 [(3, v18), (4, v4416), (5, (.int .u32 (BitVec.toNat u1615 : Int))), (7, (.int .i64 x4208)), (35, v3172), (36, (.int .i64 (x3170.length : Int))), (37, (.int .i64 i3696)), (54, v4253), (55, (.int .i64 (x4251.length : Int))), (56, (.int .i64 i4424))] a ∧ Chg [] W w ∧ InI i4424 ∧ Ow Rp.u32 49 true w [] b21 v18 x16 ∧ Zn W b21 ∧ Ow (Rp.arr 15) 51 true w [] b4417 v4416 l4415 ∧ Zn W b4417 ∧ Ow Rp.int 3 true w [] b3175 v3172 x3170 ∧ Zn W b3175 ∧ Ow Rp.int 3 true w [] b4256 v4253 x4251 ∧ Zn W b4256 ∧ Nq (bl b21 ++ []) b4417 ∧ Nq (bl b21 ++ []) b3175 ∧ Nq (bl b21 ++ []) b4256 ∧ Nq (bl b4417 ++ []) b21 ∧ Nq (bl b4417 ++ []) b3175 ∧ Nq (bl b4417 ++ []) b4256 ∧ Nq (bl b3175 ++ []) b21 ∧ Nq (bl b3175 ++ []) b4417 ∧ Nq (bl b3175 ++ []) b4256 ∧ Nq (bl b4256 ++ []) b21 ∧ Nq (bl b4256 ++ []) b4417 ∧ Nq (bl b4256 ++ []) b3175 ∧ lpN (fun s => F_impl_RoundsMany_l3 u1615 x4208 x4251 s.1 s.2) n (l4415, i4424) = some o4572) n4575 ⟨l3690, 0, v3691, b3692, ha.sub ⟨rfl, rfl, rfl, rfl, rfl, rfl, rfl, rfl, rfl, rfl, trivial⟩, hE4266, (show InI 0 from by decide), h3685, z3686, h3688, z3689, h3694, z3695, h4257, q4267, q3698, q3699, q4260, q3700, q3701, q4262, q3702, q3703, q4264, q4261, q4263, q4265, hn4576⟩ ?_ ?_
              · rintro m4580 a w4408 ⟨l4415, i4424, v4416, b4417, ha, hE4438, hI4425, h4410, z4411, h4413, z4414, h4419, z4420, h4422, z4423, q4426, q4427, q4428, q4429, q4430, q4431, q4432, q4433, q4434, q4435, q4436, q4437, hF⟩
                cases m4580 with
                | zero => exact (lpN_zero hF).elim
                | succ m4580 =>
                  obtain ⟨z4579, hF, hN4578⟩ := lpN_succ hF
                  have hF : F_impl_RoundsMany_l3 u1615 x4208 x4251 l4415 i4424 = some z4579 := hF; unfold F_impl_RoundsMany_l3 at hF
                  refine wp_seq ?_; refine wp_region_lit ?_; refine op_g ha rfl (g_lss rfl rfl) ?_; clear ha a; intro a ha; refine wpList_nil ?_; replace ha := ha.sub (σ' := [(3, v18), (4, v4416), (5, (.int .u32 (BitVec.toNat u1615 : Int))), (7, (.int .i64 x4208)), (35, v3172), (36, (.int .i64 (x3170.length : Int))), (37, (.int .i64 i3696)), (54, v4253), (55, (.int .i64 (x4251.length : Int))), (56, (.int .i64 i4424)), (57, (.bool (decide (i4424 < (x4251.length : Int)))))]) ⟨rfl, rfl, rfl, rfl, rfl, rfl, rfl, rfl, rfl, rfl, rfl, trivial⟩; refine e_then ?_; refine wp_seq ?_; refine c_cond (i4424 < (x4251.length : Int)) ha rfl (decide_eq_true_iff) (fun hp4581 => ?_) (fun hp4581 => ?_)
                  · replace hF := if_t hp4581 hF
                    refine wp_skip ?_; refine e_then ?_; refine wp_seq ?_; refine wp_block ?_; refine wp_seq ?_; refine wp_region_lit ?_; obtain ⟨x4582, g4583, gx4584, hF⟩ := idx_some hF
                    obtain ⟨p4585, cs4586, f4587, hf4588, hpb4589, hat4590, hr4591, hi4592⟩ := h4422.at g4583 gx4584
                    obtain ⟨rfl, hI4593, rfl⟩ := hr4591
                    refine op_g ha rfl (hi4592.gives sl52 rfl rfl) ?_; clear ha a; intro a ha; refine op_g ha rfl (g_load Tryd.isAgg3 rfl hat4590.one) ?_; clear ha a; intro a ha; refine op_g ha rfl (g_assign rfl) ?_; clear ha a; intro a ha; refine wpList_nil ?_; replace ha := ha.sub (σ' := [(3, v18), (4, v4416), (5, (.int .u32 (BitVec.toNat u1615 : Int))), (7, (.int .i64 x4208)), (9, (.int .i64 x4582)), (35, v3172), (36, (.int .i64 (x3170.length : Int))), (37, (.int .i64 i3696)), (54, v4253), (55, (.int .i64 (x4251.length : Int))), (56, (.int .i64 i4424))]) ⟨rfl, rfl, rfl, rfl, rfl, rfl, rfl, rfl, rfl, rfl, rfl, trivial⟩
                    refine e_then ?_; refine d_region [0, 1, 2, 3, 4, 5, 6, 7, 8, 9, 10, 11, 12, 13, 14, 15, 16, 17] hmix ?_; refine u_g 0 rfl (by kernel_rfl) (want0 _) ha rfl (g_move rfl) ?_; clear ha a; intro a ha; refine u_g 1 rfl (by kernel_rfl) (want0 _) ha rfl (g_move rfl) ?_; clear ha a; intro a ha; refine u_g 2 rfl (by kernel_rfl) (want0 _) ha rfl (g_move rfl) ?_; clear ha a; intro a ha; obtain ⟨x4596, hc4597, hF⟩ := cal_some hF; refine u_call (.int .u32 (BitVec.toNat x4596 : Int)) 3 rfl (by kernel_rfl) (want0 _) ha rfl rfl Tryd.call33 (fun w4595 hx4594 => W_impl_one hI4593 hc4597) (fun _ _ _ h => ⟨h.1, h.2⟩) ?_; clear ha a; intro a ha
                    refine u_g 4 rfl (by kernel_rfl) (want0 _) ha rfl (g32_or (m := u1615) (n := x4596) rfl rfl) ?_; clear ha a; intro a ha; refine u_g 5 rfl (by kernel_rfl) (want0 _) ha rfl (g_move rfl) ?_; clear ha a; intro a ha; obtain ⟨x4598, g4599, gx4600, hF⟩ := idx_some hF
                    obtain ⟨p4601, cs4602, f4603, hf4604, hpb4605, hat4606, hr4607, hi4608⟩ := h4413.at g4599 gx4600
                    obtain ⟨hl4609, rfl, hin4610, rfl⟩ := hr4607
                    refine u_g 6 rfl (by kernel_rfl) (want0 _) ha rfl (hi4608.gives sl47 rfl rfl) ?_; clear ha a; intro a ha; obtain ⟨x4611, g4612, gx4613, hF⟩ := idx_some hF
                    have hI4614 := arr_in hin4610 gx4613
                    refine u_g 7 rfl (by kernel_rfl) (want0 _) ha rfl (g_idxA un51 Tryd.sizeOf2 rfl rfl g4612 (arr_lt hl4609 g4612 gx4613)) ?_; clear ha a; intro a ha; refine u_g 8 rfl (by kernel_rfl) (want0 _) ha rfl (g_load Tryd.isAgg2 rfl (At.arr hat4606 gx4613).one) ?_; clear ha a; intro a ha; refine u_g 9 rfl (by kernel_rfl) (want0 _) ha rfl (g_move rfl) ?_; clear ha a; intro a ha; refine u_g 10 rfl (by kernel_rfl) (want0 _) ha rfl (g_move rfl) ?_; clear ha a; intro a ha; refine u_g 11 rfl (by kernel_rfl) (want0 _) ha rfl (g_move rfl) ?_; clear ha a; intro a ha; obtain ⟨x4615, g4616, gx4617, hF⟩ := idx_some hF
                    obtain ⟨p4618, cs4619, f4620, hf4621, hpb4622, hat4623, hr4624, hi4625⟩ := h4413.at g4616 gx4617
                    obtain ⟨hl4626, rfl, hin4627, rfl⟩ := hr4624
                    refine u_g 12 rfl (by kernel_rfl) (want0 _) ha rfl (hi4625.gives sl47 rfl rfl) ?_; clear ha a; intro a ha; obtain ⟨x4628, g4629, gx4630, hF⟩ := idx_some hF
                    have hI4631 := arr_in hin4627 gx4630
                    refine u_g 13 rfl (by kernel_rfl) (want0 _) ha rfl (g_idxA un51 Tryd.sizeOf2 rfl rfl g4629 (arr_lt hl4626 g4629 gx4630)) ?_; clear ha a; intro a ha; refine u_g 14 rfl (by kernel_rfl) (want0 _) ha rfl (g_load Tryd.isAgg2 rfl (At.arr hat4623 gx4630).one) ?_; clear ha a; intro a ha; obtain ⟨hI4632, hF⟩ := ck_some hF; refine u_g 15 rfl (by kernel_rfl) (want0 _) ha rfl (g_add rfl rfl hI4632) ?_; clear ha a; intro a ha; obtain ⟨x4634, g4635, gx4636, hF⟩ := idx_some hF
                    obtain ⟨p4637, cs4638, f4639, hf4640, hpb4641, hat4642, hr4643, hi4644⟩ := h4413.at g4635 gx4636
                    obtain ⟨hl4645, rfl, hin4646, rfl⟩ := hr4643
                    refine u_g 16 rfl (by kernel_rfl) (want0 _) ha rfl (hi4644.gives sl47 rfl rfl) ?_; clear ha a; intro a ha; obtain ⟨x4647, g4648, gx4649, hF⟩ := idx_some hF
                    have hI4650 := arr_in hin4646 gx4649
                    refine u_g 17 rfl (by kernel_rfl) (want0 _) ha rfl (g_idxA un51 Tryd.sizeOf2 rfl rfl g4648 (arr_lt hl4645 g4648 gx4649)) ?_; clear ha a; intro a ha
                    refine u_only 18 rfl (by kernel_rfl) ?_; intro w4651 hx4652
                    replace h4410 := h4410.ext hx4652
                    replace h4413 := h4413.ext hx4652
                    replace h4419 := h4419.ext hx4652
                    replace h4422 := h4422.ext hx4652
                    have hE4653 := Ext.trans hE4438 hx4652
                    refine o_storeG (q := x4634) (u := (x4611 + x4628)) ha Tryd.sizeOf2 rfl rfl h4413 hi4644 g4635 gx4636 hI4632 (List.getElem?_eq_some_iff.1 gx4649).1 ?_; intro w4654 fs4655 h4656 hc4657 hs4658
                    obtain rfl := Subst.nil hs4658
                    replace h4410 := h4410.nq hc4657 q4426
                    replace h4419 := h4419.nq hc4657 q4433
                    replace h4422 := h4422.nq hc4657 q4436
                    have hE4659 := Ext.then hE4653 hc4657 (Zn.bl z4414)
                    refine wpList_nil (e_sq ?_)
                    refine ⟨fun h => absurd h (by decide), ?_⟩
                    refine u_done (by kernel_rfl) ?_; intro w4660 hx4661
                    replace h4410 := h4410.ext hx4661
                    replace h4656 := h4656.ext hx4661
                    replace h4419 := h4419.ext hx4661
                    replace h4422 := h4422.ext hx4661
                    have hE4662 := Ext.trans hE4659 hx4661
                    replace ha := ha.sub (σ' := [(3, v18), (4, v4416), (5, (.int .u32 (BitVec.toNat u1615 : Int))), (7, (.int .i64 x4208)), (35, v3172), (36, (.int .i64 (x3170.length : Int))), (37, (.int .i64 i3696)), (54, v4253), (55, (.int .i64 (x4251.length : Int))), (56, (.int .i64 i4424))]) ⟨rfl, rfl, rfl, rfl, rfl, rfl, rfl, rfl, rfl, rfl, trivial⟩; refine e_blk ?_; refine e_then ?_; refine wp_region_lit ?_; obtain ⟨hI4663, hF⟩ := ck_some hF; refine op_g ha rfl (g_add rfl rfl hI4663) ?_; clear ha a; intro a ha; refine op_g ha rfl (g_move rfl) ?_; clear ha a; intro a ha; refine wpList_nil ?_
                    replace ha := ha.sub (σ' := [(3, v18), (4, v4416), (5, (.int .u32 (BitVec.toNat u1615 : Int))), (7, (.int .i64 x4208)), (35, v3172), (36, (.int .i64 (x3170.length : Int))), (37, (.int .i64 i3696)), (54, v4253), (55, (.int .i64 (x4251.length : Int))), (56, (.int .i64 (i4424 + 1)))]) ⟨rfl, rfl, rfl, rfl, rfl, rfl, rfl, rfl, rfl, rfl, trivial⟩; refine e_lq ?_; obtain rfl := Option.some.inj hF
                    exact ⟨_, Nat.lt_succ_self _, (l4415.set (((BitVec.toNat (u1615 ||| x4596) : Int) : Int).toNat) (x4634.set (x4582 : Int).toNat (x4611 + x4628))), i4424 + 1, v4416, b4417, ha.sub ⟨rfl, rfl, rfl, rfl, rfl, rfl, rfl, rfl, rfl, rfl, trivial⟩, hE4662, hI4663, h4410, z4411, h4656, z4414, h4419, z4420, h4422, z4423, q4426, q4427, q4428, q4429, q4430, q4431, q4432, q4433, q4434, q4435, q4436, q4437, hN4578⟩
                  replace hF := if_f hp4581 hF; refine wp_exit ?_; refine e_then_exit ?_; refine e_lq_eq ?_; obtain rfl := Option.some.inj hF
                  exact ⟨l4415, v4416, b4417, ha.sub ⟨rfl, rfl, rfl, rfl, rfl, rfl, trivial⟩, hE4438, h4410, z4411, h4413, z4414, h4419, z4420, q4426, q4427, q4429, q4430, q4432, q4433, (LK_inr hN4578).symm⟩
              rintro a w4553 ⟨l4560, v4561, b4562, ha, hE4577, h4555, z4556, h4558, z4559, h4564, z4565, q4566, q4567, q4568, q4569, q4570, q4571, rfl⟩
              have hF : F_impl_RoundsMany_k4 i3696 l4560 = some _ := hK4574; clear hK4574; unfold F_impl_RoundsMany_k4 at hF
              refine e_blk ?_; refine e_then ?_; refine wp_region_lit ?_; obtain ⟨hI4665, hF⟩ := ck_some hF; refine op_g ha rfl (g_add rfl rfl hI4665) ?_; clear ha a; intro a ha; refine op_g ha rfl (g_move rfl) ?_; clear ha a; intro a ha; refine wpList_nil ?_; replace ha := ha.sub (σ' := [(3, v18), (4, v4561), (5, (.int .u32 (BitVec.toNat u1615 : Int))), (35, v3172), (36, (.int .i64 (x3170.length : Int))), (37, (.int .i64 (i3696 + 1)))]) ⟨rfl, rfl, rfl, rfl, rfl, rfl, trivial⟩; refine e_lq ?_; obtain rfl := Option.some.inj hF
              exact ⟨_, Nat.lt_succ_self _, l4560, i3696 + 1, v4561, b4562, ha.sub ⟨rfl, rfl, rfl, rfl, rfl, rfl, trivial⟩, hE4577, hI4665, h4555, z4556, h4558, z4559, h4564, z4565, q4566, q4567, q4568, q4569, q4570, q4571, hN4204⟩
            replace hF := if_f hp4207 hF; refine wp_exit ?_; refine e_then_exit ?_; refine e_lq_eq ?_; obtain rfl := Option.some.inj hF
            exact ⟨l3690, v3691, b3692, ha.sub ⟨rfl, rfl, rfl, trivial⟩, hE3704, h3685, z3686, h3688, z3689, q3698, q3700, (LK_inr hN4204).symm⟩
        rintro a w4186 ⟨l4193, v4194, b4195, ha, hE4203, h4188, z4189, h4191, z4192, q4196, q4197, rfl⟩
        have hF : F_impl_RoundsMany_k5 u1615 l4193 = some _ := hK4200; clear hK4200; unfold F_impl_RoundsMany_k5 at hF
        refine e_blk ?_; refine e_then ?_; refine wp_region_lit ?_; refine op_g ha rfl (g_move rfl) ?_; clear ha a; intro a ha; refine op_g ha rfl (g32_add (m := u1615) (n := (2#32)) rfl rfl) ?_; clear ha a; intro a ha; refine op_g ha rfl (g_assign rfl) ?_; clear ha a; intro a ha; refine wpList_nil ?_; replace ha := ha.sub (σ' := [(3, v18), (4, v4194), (5, (.int .u32 (BitVec.toNat (u1615 + (2#32)) : Int)))]) ⟨rfl, rfl, rfl, trivial⟩; refine e_lq ?_; obtain rfl := Option.some.inj hF
        exact ⟨_, Nat.lt_succ_self _, l4193, u1615 + (2#32), v4194, b4195, ha.sub ⟨rfl, rfl, rfl, trivial⟩, hE4203, h4188, z4189, h4191, z4192, q4196, q4197, hN3157⟩
      replace hF := if_f hp3169 hF; refine wp_exit ?_; refine e_then_exit ?_; refine e_lq_eq ?_; obtain rfl := Option.some.inj hF
      exact ⟨l1612, v1613, b1614, ha.sub ⟨rfl, rfl, trivial⟩, hE3168, h1607, z1608, h1610, z1611, q1616, q1617, (LK_inr hN3157).symm⟩
  rintro a w3139 ⟨l3146, v3147, b3148, ha, hE3156, h3141, z3142, h3144, z3145, q3149, q3150, rfl⟩
  have hF : F_impl_RoundsMany_k6 x16 l3146 = some _ := hK3153; clear hK3153; unfold F_impl_RoundsMany_k6 at hF
  refine e_then ?_; refine wp_seq ?_; refine wp_region_lit ?_; refine op_g ha rfl (g_assign rfl) ?_; clear ha a; intro a ha; refine wpList_nil ?_; refine e_then ?_; refine wp_seq ?_; refine wp_seq ?_; refine wp_region_lit ?_; refine op_g ha rfl (g_move rfl) ?_; clear ha a; intro a ha; obtain ⟨x4667, g4668, gx4669, hF⟩ := idx_some hF
  obtain ⟨p4670, cs4671, f4672, hf4673, hpb4674, hat4675, hr4676, hi4677⟩ := h3141.at g4668 gx4669
  obtain ⟨rfl, rfl⟩ := hr4676
  refine op_g ha rfl (hi4677.gives sl45 rfl rfl) ?_; clear ha a; intro a ha; refine op_g ha rfl (g_load Tryd.isAgg49 rfl hat4675.one) ?_; clear ha a; intro a ha; obtain ⟨x4678, hc4679, hF⟩ := cal_some hF
  refine o_call ha rfl rfl Tryd.call32 (W_impl_vset_list (hG.ext hE3156) hc4679) ?_; clear ha a; rintro v4680 w4681 ⟨b4683, h4684, z4685, hx4682⟩ a ha
  have q4687 := Nq.new h3141.fpb z4685
  have q4688 := Nq.madeO z4685 h3141.blt
  have q4689 := Nq.new h3144.fpb z4685
  have q4690 := Nq.madeO z4685 h3144.blt
  replace h3141 := h3141.ext hx4682
  replace h3144 := h3144.ext hx4682
  have hE4691 := Ext.trans hE3156 hx4682
  have q4692 := Zn.upD z4685 hE3156
  refine op_g ha rfl (g_lenO sl52.und h4684 rfl) ?_; clear ha a; intro a ha; refine op_g ha rfl (g_move rfl) ?_; clear ha a; intro a ha; refine wpList_nil ?_; replace ha := ha.sub (σ' := [(3, v18), (4, v3147), (10, (.int .i64 0)), (83, v4680), (84, (.int .i64 (x4678.length : Int))), (85, (.int .i64 0))]) ⟨rfl, rfl, rfl, rfl, rfl, rfl, trivial⟩; refine e_then ?_; obtain ⟨o4860, ho4861, hK4862⟩ := bnd_some hF
  obtain ⟨n4863, hn4864⟩ := lp_some ho4861; clear ho4861
  refine c_loop (fun a w => ∃ (i4858 : Int), Fr 101 [(10, (.int .i64 i4858))] a ∧ Chg [] W w ∧ InI i4858 ∧ o4860 = .inl i4858) (fun n a w => ∃ (i4780 : Int) (i4785 : Int), Fr 101 [(3, v18), (4, v3147), (10, (.int .i64 i4780)), (83, v4680), (84, (.int .i64 (x4678.length : Int))), (85, (.int .i64 i4785))] a ∧ Chg [] W w ∧ InI i4780 ∧ InI i4785 ∧ Ow Rp.u32 49 true w [] b21 v18 x16 ∧ Zn W b21 ∧ Ow (Rp.arr 15) 51 true w [] b3148 v3147 l3146 ∧ Zn W b3148 ∧ Ow Rp.int 3 true w [] b4683 v4680 x4678 ∧ Zn W b4683 ∧ Nq (bl b21 ++ []) b3148 ∧ Nq (bl b21 ++ []) b4683 ∧ Nq (bl b3148 ++ []) b21 ∧ Nq (bl b3148 ++ []) b4683 ∧ Nq (bl b4683 ++ []) b21 ∧ Nq (bl b4683 ++ []) b3148 ∧ lpN (fun s => F_impl_RoundsMany_l7 x16 l3146 x4678 s.1 s.2) n (i4780, i4785) = some o4860) n4863 ⟨0, 0, ha.sub ⟨rfl, rfl, rfl, rfl, rfl, rfl, trivial⟩, hE4691, (show InI 0 from by decide), (show InI 0 from by decide), h3141, z3142, h3144, z3145, h4684, q4692, q3149, q4687, q3150, q4689, q4688, q4690, hn4864⟩ ?_ ?_
  · rintro m4868 a w4773 ⟨i4780, i4785, ha, hE4793, hI4781, hI4786, h4775, z4776, h4778, z4779, h4783, z4784, q4787, q4788, q4789, q4790, q4791, q4792, hF⟩
    cases m4868 with
    | zero => exact (lpN_zero hF).elim
    | succ m4868 =>
      obtain ⟨z4867, hF, hN4866⟩ := lpN_succ hF
      have hF : F_impl_RoundsMany_l7 x16 l3146 x4678 i4780 i4785 = some z4867 := hF; unfold F_impl_RoundsMany_l7 at hF
      refine wp_seq ?_; refine wp_region_lit ?_; refine op_g ha rfl (g_lss rfl rfl) ?_; clear ha a; intro a ha; refine wpList_nil ?_; replace ha := ha.sub (σ' := [(3, v18), (4, v3147), (10, (.int .i64 i4780)), (83, v4680), (84, (.int .i64 (x4678.length : Int))), (85, (.int .i64 i4785)), (86, (.bool (decide (i4785 < (x4678.length : Int)))))]) ⟨rfl, rfl, rfl, rfl, rfl, rfl, rfl, trivial⟩; refine e_then ?_; refine wp_seq ?_; refine c_cond (i4785 < (x4678.length : Int)) ha rfl (decide_eq_true_iff) (fun hp4869 => ?_) (fun hp4869 => ?_)
      · replace hF := if_t hp4869 hF
        refine wp_skip ?_; refine e_then ?_; refine wp_seq ?_; refine wp_block ?_; refine wp_seq ?_; refine wp_region_lit ?_; obtain ⟨x4870, g4871, gx4872, hF⟩ := idx_some hF
        obtain ⟨p4873, cs4874, f4875, hf4876, hpb4877, hat4878, hr4879, hi4880⟩ := h4783.at g4871 gx4872
        obtain ⟨rfl, hI4881, rfl⟩ := hr4879
        refine op_g ha rfl (hi4880.gives sl52 rfl rfl) ?_; clear ha a; intro a ha; refine op_g ha rfl (g_load Tryd.isAgg3 rfl hat4878.one) ?_; clear ha a; intro a ha; refine op_g ha rfl (g_assign rfl) ?_; clear ha a; intro a ha; refine wpList_nil ?_; replace ha := ha.sub (σ' := [(3, v18), (4, v3147), (10, (.int .i64 i4780)), (12, (.int .i64 x4870)), (83, v4680), (84, (.int .i64 (x4678.length : Int))), (85, (.int .i64 i4785))]) ⟨rfl, rfl, rfl, rfl, rfl, rfl, rfl, trivial⟩; refine e_then ?_; refine wp_region_lit ?_; (iterate 3 refine op_g ha rfl (g_move rfl) ?_; clear ha a; intro a ha)
        obtain ⟨fp4882, hro4883, hs4884⟩ := h4775.roF
        obtain ⟨x4885, hc4886, hF⟩ := cal_some hF
        refine o_call ha rfl rfl Tryd.call31 (W_impl_nets_all hro4883 hc4886) ?_; clear ha a; rintro v4887 w4888 ⟨rfl, hx4889⟩ a ha
        replace h4775 := h4775.ext hx4889
        replace h4778 := h4778.ext hx4889
        replace h4783 := h4783.ext hx4889
        have hE4890 := Ext.trans hE4793 hx4889
        refine op_g ha rfl (g_move rfl) ?_; clear ha a; intro a ha; obtain ⟨x4891, g4892, gx4893, hF⟩ := idx_some hF
        obtain ⟨p4894, cs4895, f4896, hf4897, hpb4898, hat4899, hr4900, hi4901⟩ := h4778.at g4892 gx4893
        obtain ⟨hl4902, rfl, hin4903, rfl⟩ := hr4900
        refine op_g ha rfl (hi4901.gives sl47 rfl rfl) ?_; clear ha a; intro a ha; obtain ⟨x4904, g4905, gx4906, hF⟩ := idx_some hF
        have hI4907 := arr_in hin4903 gx4906
        refine op_g ha rfl (g_idxA un51 Tryd.sizeOf2 rfl rfl g4905 (arr_lt hl4902 g4905 gx4906)) ?_; clear ha a; intro a ha; refine op_g ha rfl (g_load Tryd.isAgg2 rfl (At.arr hat4899 gx4906).one) ?_; clear ha a; intro a ha; obtain ⟨hI4908, hF⟩ := ck_some hF; refine op_g ha rfl (g_add rfl rfl hI4908) ?_; clear ha a; intro a ha; refine op_g ha rfl (g_assign rfl) ?_; clear ha a; intro a ha; refine wpList_nil ?_; replace ha := ha.sub (σ' := [(3, v18), (4, v3147), (10, (.int .i64 (i4780 + x4904))), (83, v4680), (84, (.int .i64 (x4678.length : Int))), (85, (.int .i64 i4785))]) ⟨rfl, rfl, rfl, rfl, rfl, rfl, trivial⟩
        refine e_blk ?_; refine e_then ?_; refine wp_region_lit ?_; obtain ⟨hI4910, hF⟩ := ck_some hF; refine op_g ha rfl (g_add rfl rfl hI4910) ?_; clear ha a; intro a ha; refine op_g ha rfl (g_move rfl) ?_; clear ha a; intro a ha; refine wpList_nil ?_; replace ha := ha.sub (σ' := [(3, v18), (4, v3147), (10, (.int .i64 (i4780 + x4904))), (83, v4680), (84, (.int .i64 (x4678.length : Int))), (85, (.int .i64 (i4785 + 1)))]) ⟨rfl, rfl, rfl, rfl, rfl, rfl, trivial⟩; refine e_lq ?_; obtain rfl := Option.some.inj hF
        exact ⟨_, Nat.lt_succ_self _, i4780 + x4904, i4785 + 1, ha.sub ⟨rfl, rfl, rfl, rfl, rfl, rfl, trivial⟩, hE4890, hI4908, hI4910, h4775, z4776, h4778, z4779, h4783, z4784, q4787, q4788, q4789, q4790, q4791, q4792, hN4866⟩
      replace hF := if_f hp4869 hF; refine wp_exit ?_; refine e_then_exit ?_; refine e_lq_eq ?_; obtain rfl := Option.some.inj hF
      exact ⟨i4780, ha.sub ⟨rfl, trivial⟩, hE4793, hI4781, (LK_inr hN4866).symm⟩
  rintro a w4857 ⟨i4858, ha, hE4865, hI4859, rfl⟩
  have hF : F_impl_RoundsMany_k8 i4858 = some _ := hK4862; clear hK4862; unfold F_impl_RoundsMany_k8 at hF
  refine e_then ?_; refine wp_seq ?_; refine wp_region_lit ?_; refine op_g ha rfl (g_move rfl) ?_; clear ha a; intro a ha; obtain ⟨hq4912, hF⟩ := grd_some hF
  have hI4913 := in_quo hI4859 hq4912.1 hq4912.2
  refine op_g ha rfl (g_quo rfl rfl hI4859 hq4912.1 hq4912.2) ?_; clear ha a; intro a ha; refine op_g ha rfl (g_assign rfl) ?_; clear ha a; intro a ha; refine wpList_nil ?_; replace ha := ha.sub (σ' := [(2, (.int .i64 (i4858 / 2)))]) ⟨rfl, trivial⟩; refine e_then ?_; refine wp_ret ?_; obtain rfl := Option.some.inj hF
  exact f_ret1 ha rfl rfl ⟨⟨rfl, hI4913⟩, hE4865⟩
set_option maxHeartbeats 2000000 in
theorem W_laws_eqInt64S {W : World} {va0 : Value} {fa0 : List Nat} {a0 : (List Int)} (ha0 : Ro Rp.int W fa0 va0 a0) {va1 : Value} {fa1 : List Nat} {a1 : (List Int)} (ha1 : Ro Rp.int W fa1 va1 a1) {r : Bool} (hF : F_laws_eqInt64S a0 a1 = some r) :
    Calls Tryd.prog 19 [va0, va1].toArray W (Ret fun u w' => u = .bool r ∧ Ext W w') := by
  refine f_enter Tryd.func19 rfl Tryd.ntmps19 rfl ?_
  intro a ha
  replace ha : Fr 26 [(0, va0), (1, va1)] a := ha
  have hE : Chg [] W W := Chg.refl _ _
  unfold F_laws_eqInt64S at hF
  refine wp_seq ?_; refine wp_region_lit ?_; refine op_g ha rfl (g_assign rfl) ?_; clear ha a; intro a ha; refine wpList_nil ?_; replace ha := ha.sub (σ' := [(0, va0), (1, va1)]) ⟨rfl, rfl, trivial⟩; refine e_then ?_; refine wp_seq ?_; refine wp_seq ?_; refine wp_region_lit ?_; refine op_g ha rfl (g_move rfl) ?_; clear ha a; intro a ha; refine op_g ha rfl (g_lenR sl35.und ha0 rfl) ?_; clear ha a; intro a ha; refine op_g ha rfl (g_move rfl) ?_; clear ha a; intro a ha; refine op_g ha rfl (g_lenR sl35.und ha1 rfl) ?_; clear ha a; intro a ha; refine op_g ha rfl (g_neq rfl rfl) ?_; clear ha a; intro a ha
  refine wpList_nil ?_; replace ha := ha.sub (σ' := [(0, va0), (1, va1), (10, (.bool (decide ((a0.length : Int) ≠ (a1.length : Int)))))]) ⟨rfl, rfl, rfl, trivial⟩; refine e_then ?_; refine c_cond ((a0.length : Int) ≠ (a1.length : Int)) ha rfl (decide_eq_true_iff) (fun hp1 => ?_) (fun hp1 => ?_)
  · replace hF := if_t hp1 hF
    refine wp_seq ?_; refine wp_region_lit ?_; refine op_g ha rfl (g_assign rfl) ?_; clear ha a; intro a ha; refine wpList_nil ?_; replace ha := ha.sub (σ' := [(4, (.bool false))]) ⟨rfl, trivial⟩; refine e_then ?_; refine wp_ret ?_; refine e_then_ret ?_; obtain rfl := Option.some.inj hF
    exact f_ret1 ha rfl rfl ⟨rfl, hE⟩
  replace hF := if_f hp1 hF; refine wp_skip ?_; refine e_then ?_; refine wp_seq ?_; refine wp_seq ?_; refine wp_region_lit ?_; refine op_g ha rfl (g_assign rfl) ?_; clear ha a; intro a ha; refine wpList_nil ?_; replace ha := ha.sub (σ' := [(0, va0), (1, va1), (5, (.int .i64 0))]) ⟨rfl, rfl, rfl, trivial⟩; refine e_then ?_; obtain ⟨o77, ho78, hK79⟩ := bnd_some hF
  obtain ⟨n80, hn81⟩ := lp_some ho78; clear ho78
  refine c_loop (fun a w => Fr 26 [] a ∧ Chg [] W w ∧ o77 = .inl ()) (fun n a w => ∃ (i39 : Int), Fr 26 [(0, va0), (1, va1), (5, (.int .i64 i39))] a ∧ Chg [] W w ∧ InI i39 ∧ lpN (fun s => F_laws_eqInt64S_l1 a0 a1 s) n i39 = some o77) n80 ⟨0, ha.sub ⟨rfl, rfl, rfl, trivial⟩, hE, (show InI 0 from by decide), hn81⟩ ?_ ?_
  · rintro m85 a w38 ⟨i39, ha, hE41, hI40, hF⟩
    cases m85 with
    | zero => exact (lpN_zero hF).elim
    | succ m85 =>
      obtain ⟨z84, hF, hN83⟩ := lpN_succ hF
      have hF : F_laws_eqInt64S_l1 a0 a1 i39 = some z84 := hF; unfold F_laws_eqInt64S_l1 at hF
      refine wp_seq ?_; refine wp_seq ?_; refine wp_region_lit ?_; (iterate 2 refine op_g ha rfl (g_move rfl) ?_; clear ha a; intro a ha); refine op_g ha rfl (g_lenR sl35.und ha0 rfl) ?_; clear ha a; intro a ha; refine op_g ha rfl (g_lss rfl rfl) ?_; clear ha a; intro a ha; refine wpList_nil ?_; replace ha := ha.sub (σ' := [(0, va0), (1, va1), (5, (.int .i64 i39)), (14, (.bool (decide (i39 < (a0.length : Int)))))]) ⟨rfl, rfl, rfl, rfl, trivial⟩; refine e_then ?_; refine c_cond (i39 < (a0.length : Int)) ha rfl (decide_eq_true_iff) (fun hp86 => ?_) (fun hp86 => ?_)
      · replace hF := if_t hp86 hF
        refine wp_skip ?_; refine e_then ?_; refine wp_seq ?_; refine wp_block ?_; refine wp_seq ?_; refine d_quiet hmix (by kernel_rfl) ?_; (iterate 2 refine q_g ha rfl (g_move rfl) ?_; clear ha a; intro a ha); obtain ⟨x87, g88, gx89, hF⟩ := idx_some hF
        obtain ⟨p90, cs91, f92, hf93, hpb94, hat95, hr96, hi97⟩ := ha0.at g88 gx89
        obtain ⟨rfl, hI98, rfl⟩ := hr96
        refine q_g ha rfl (hi97.gives sl35 rfl rfl) ?_; clear ha a; intro a ha; refine q_g ha rfl (g_load0 hE41 Tryd.isAgg2 rfl hat95.one) ?_; clear ha a; intro a ha; (iterate 2 refine q_g ha rfl (g_move rfl) ?_; clear ha a; intro a ha); obtain ⟨x99, g100, gx101, hF⟩ := idx_some hF
        obtain ⟨p102, cs103, f104, hf105, hpb106, hat107, hr108, hi109⟩ := ha1.at g100 gx101
        obtain ⟨rfl, hI110, rfl⟩ := hr108
        refine q_g ha rfl (hi109.gives sl35 rfl rfl) ?_; clear ha a; intro a ha; refine q_g ha rfl (g_load0 hE41 Tryd.isAgg2 rfl hat107.one) ?_; clear ha a; intro a ha; refine q_g ha rfl (g_neq rfl rfl) ?_; clear ha a; intro a ha
        refine q_nil ?_; intro w111 hx112
        have hE113 := Ext.trans hE41 hx112
        replace ha := ha.sub (σ' := [(0, va0), (1, va1), (5, (.int .i64 i39)), (25, (.bool (decide (x87 ≠ x99))))]) ⟨rfl, rfl, rfl, rfl, trivial⟩; refine e_then ?_; refine c_cond (x87 ≠ x99) ha rfl (decide_eq_true_iff) (fun hp114 => ?_) (fun hp114 => ?_)
        · replace hF := if_t hp114 hF
          refine wp_seq ?_; refine wp_region_lit ?_; refine op_g ha rfl (g_assign rfl) ?_; clear ha a; intro a ha; refine wpList_nil ?_; replace ha := ha.sub (σ' := [(4, (.bool false))]) ⟨rfl, trivial⟩; refine e_then ?_; refine wp_ret ?_; refine e_blk_ret ?_; refine e_then_ret ?_; refine e_lq_ret ?_; refine e_then_ret ?_; obtain rfl := Option.some.inj hF
          have e115 := LK_inr hN83; subst e115
          have e116 := BK_inr hK79; subst e116
          exact f_ret1 ha rfl rfl ⟨rfl, hE113⟩
        replace hF := if_f hp114 hF; refine wp_skip ?_; refine e_blk ?_; refine e_then ?_; refine wp_region_lit ?_; refine op_g ha rfl (g_move rfl) ?_; clear ha a; intro a ha; obtain ⟨hI117, hF⟩ := ck_some hF; refine op_g ha rfl (g_add rfl rfl hI117) ?_; clear ha a; intro a ha; refine op_g ha rfl (g_assign rfl) ?_; clear ha a; intro a ha; refine wpList_nil ?_; replace ha := ha.sub (σ' := [(0, va0), (1, va1), (5, (.int .i64 (i39 + 1)))]) ⟨rfl, rfl, rfl, trivial⟩; refine e_lq ?_; obtain rfl := Option.some.inj hF
        exact ⟨_, Nat.lt_succ_self _, i39 + 1, ha.sub ⟨rfl, rfl, rfl, trivial⟩, hE113, hI117, hN83⟩
      replace hF := if_f hp86 hF; refine wp_exit ?_; refine e_then_exit ?_; refine e_lq_eq ?_; obtain rfl := Option.some.inj hF
      exact ⟨ha.sub trivial, hE41, (LK_inr hN83).symm⟩
  rintro a w76 ⟨ha, hE82, rfl⟩
  have hF : F_laws_eqInt64S_k2 = some _ := hK79; clear hK79; unfold F_laws_eqInt64S_k2 at hF
  refine e_then ?_; refine wp_seq ?_; refine wp_region_lit ?_; refine op_g ha rfl (g_assign rfl) ?_; clear ha a; intro a ha; refine wpList_nil ?_; refine e_then ?_; refine wp_ret ?_; obtain rfl := Option.some.inj hF
  exact f_ret1 ha rfl rfl ⟨rfl, hE82⟩
set_option maxHeartbeats 2000000 in
theorem W_laws_eqInt64SS {W : World} {va0 : Value} {fa0 : List Nat} {a0 : (List (List Int))} (ha0 : Ro (Rp.sl 2 Rp.int) W fa0 va0 a0) {va1 : Value} {fa1 : List Nat} {a1 : (List (List Int))} (ha1 : Ro (Rp.sl 2 Rp.int) W fa1 va1 a1) {r : Bool} (hF : F_laws_eqInt64SS a0 a1 = some r) :
    Calls Tryd.prog 13 [va0, va1].toArray W (Ret fun u w' => u = .bool r ∧ Ext W w') := by
  refine f_enter Tryd.func13 rfl Tryd.ntmps13 rfl ?_
  intro a ha
  replace ha : Fr 27 [(0, va0), (1, va1)] a := ha
  have hE : Chg [] W W := Chg.refl _ _
  unfold F_laws_eqInt64SS at hF
  refine wp_seq ?_; refine wp_region_lit ?_; refine op_g ha rfl (g_assign rfl) ?_; clear ha a; intro a ha; refine wpList_nil ?_; replace ha := ha.sub (σ' := [(0, va0), (1, va1)]) ⟨rfl, rfl, trivial⟩; refine e_then ?_; refine wp_seq ?_; refine wp_seq ?_; refine wp_region_lit ?_; refine op_g ha rfl (g_move rfl) ?_; clear ha a; intro a ha; refine op_g ha rfl (g_lenR sl22.und ha0 rfl) ?_; clear ha a; intro a ha; refine op_g ha rfl (g_move rfl) ?_; clear ha a; intro a ha; refine op_g ha rfl (g_lenR sl22.und ha1 rfl) ?_; clear ha a; intro a ha; refine op_g ha rfl (g_neq rfl rfl) ?_; clear ha a; intro a ha
  refine wpList_nil ?_; replace ha := ha.sub (σ' := [(0, va0), (1, va1), (10, (.bool (decide ((a0.length : Int) ≠ (a1.length : Int)))))]) ⟨rfl, rfl, rfl, trivial⟩; refine e_then ?_; refine c_cond ((a0.length : Int) ≠ (a1.length : Int)) ha rfl (decide_eq_true_iff) (fun hp1 => ?_) (fun hp1 => ?_)
  · replace hF := if_t hp1 hF
    refine wp_seq ?_; refine wp_region_lit ?_; refine op_g ha rfl (g_assign rfl) ?_; clear ha a; intro a ha; refine wpList_nil ?_; replace ha := ha.sub (σ' := [(4, (.bool false))]) ⟨rfl, trivial⟩; refine e_then ?_; refine wp_ret ?_; refine e_then_ret ?_; obtain rfl := Option.some.inj hF
    exact f_ret1 ha rfl rfl ⟨rfl, hE⟩
  replace hF := if_f hp1 hF; refine wp_skip ?_; refine e_then ?_; refine wp_seq ?_; refine wp_seq ?_; refine wp_region_lit ?_; refine op_g ha rfl (g_assign rfl) ?_; clear ha a; intro a ha; refine wpList_nil ?_; replace ha := ha.sub (σ' := [(0, va0), (1, va1), (5, (.int .i64 0))]) ⟨rfl, rfl, rfl, trivial⟩; refine e_then ?_; obtain ⟨o93, ho94, hK95⟩ := bnd_some hF
  obtain ⟨n96, hn97⟩ := lp_some ho94; clear ho94
  refine c_loop (fun a w => Fr 27 [] a ∧ Chg [] W w ∧ o93 = .inl ()) (fun n a w => ∃ (i47 : Int), Fr 27 [(0, va0), (1, va1), (5, (.int .i64 i47))] a ∧ Chg [] W w ∧ InI i47 ∧ lpN (fun s => F_laws_eqInt64SS_l1 a0 a1 s) n i47 = some o93) n96 ⟨0, ha.sub ⟨rfl, rfl, rfl, trivial⟩, hE, (show InI 0 from by decide), hn97⟩ ?_ ?_
  · rintro m101 a w46 ⟨i47, ha, hE49, hI48, hF⟩
    cases m101 with
    | zero => exact (lpN_zero hF).elim
    | succ m101 =>
      obtain ⟨z100, hF, hN99⟩ := lpN_succ hF
      have hF : F_laws_eqInt64SS_l1 a0 a1 i47 = some z100 := hF; unfold F_laws_eqInt64SS_l1 at hF
      refine wp_seq ?_; refine wp_seq ?_; refine wp_region_lit ?_; (iterate 2 refine op_g ha rfl (g_move rfl) ?_; clear ha a; intro a ha); refine op_g ha rfl (g_lenR sl22.und ha0 rfl) ?_; clear ha a; intro a ha; refine op_g ha rfl (g_lss rfl rfl) ?_; clear ha a; intro a ha; refine wpList_nil ?_; replace ha := ha.sub (σ' := [(0, va0), (1, va1), (5, (.int .i64 i47)), (14, (.bool (decide (i47 < (a0.length : Int)))))]) ⟨rfl, rfl, rfl, rfl, trivial⟩; refine e_then ?_; refine c_cond (i47 < (a0.length : Int)) ha rfl (decide_eq_true_iff) (fun hp102 => ?_) (fun hp102 => ?_)
      · replace hF := if_t hp102 hF
        refine wp_skip ?_; refine e_then ?_; refine wp_seq ?_; refine wp_block ?_; refine wp_seq ?_; refine d_quiet hmix (by kernel_rfl) ?_; (iterate 2 refine q_g ha rfl (g_move rfl) ?_; clear ha a; intro a ha); obtain ⟨x103, g104, gx105, hF⟩ := idx_some hF
        obtain ⟨p106, cs107, f108, hf109, hpb110, hat111, hr112, hi113⟩ := ha0.at g104 gx105
        obtain ⟨v114, rfl, h115⟩ := hr112
        have h115 : Ro Rp.int W f108 v114 x103 := h115
        refine q_g ha rfl (hi113.gives sl22 rfl rfl) ?_; clear ha a; intro a ha; refine q_g ha rfl (g_load0 hE49 Tryd.isAgg35 rfl hat111.one) ?_; clear ha a; intro a ha; (iterate 2 refine q_g ha rfl (g_move rfl) ?_; clear ha a; intro a ha); obtain ⟨x117, g118, gx119, hF⟩ := idx_some hF
        obtain ⟨p120, cs121, f122, hf123, hpb124, hat125, hr126, hi127⟩ := ha1.at g118 gx119
        obtain ⟨v128, rfl, h129⟩ := hr126
        have h129 : Ro Rp.int W f122 v128 x117 := h129
        refine q_g ha rfl (hi127.gives sl22 rfl rfl) ?_; clear ha a; intro a ha; refine q_g ha rfl (g_load0 hE49 Tryd.isAgg35 rfl hat125.one) ?_; clear ha a; intro a ha; obtain ⟨x133, hc134, hF⟩ := cal_some hF; refine q_call (.bool x133) ha rfl rfl Tryd.call19 (fun w132 hx131 => W_laws_eqInt64S (h115.ext (Ext.trans hE49 hx131)) (h129.ext (Ext.trans hE49 hx131)) hc134) (fun _ _ _ h => ⟨h.1, h.2⟩) ?_; clear ha a; intro a ha; refine q_g ha rfl (g_not rfl) ?_; clear ha a; intro a ha
        refine q_nil ?_; intro w135 hx136
        have hE137 := Ext.trans hE49 hx136
        replace ha := ha.sub (σ' := [(0, va0), (1, va1), (5, (.int .i64 i47)), (26, (.bool (!x133)))]) ⟨rfl, rfl, rfl, rfl, trivial⟩; refine e_then ?_; refine c_cond (¬ (x133 = true)) ha rfl (n_iff (Iff.rfl)) (fun hp138 => ?_) (fun hp138 => ?_)
        · replace hF := if_t hp138 hF
          refine wp_seq ?_; refine wp_region_lit ?_; refine op_g ha rfl (g_assign rfl) ?_; clear ha a; intro a ha; refine wpList_nil ?_; replace ha := ha.sub (σ' := [(4, (.bool false))]) ⟨rfl, trivial⟩; refine e_then ?_; refine wp_ret ?_; refine e_blk_ret ?_; refine e_then_ret ?_; refine e_lq_ret ?_; refine e_then_ret ?_; obtain rfl := Option.some.inj hF
          have e139 := LK_inr hN99; subst e139
          have e140 := BK_inr hK95; subst e140
          exact f_ret1 ha rfl rfl ⟨rfl, hE137⟩
        replace hF := if_f hp138 hF; refine wp_skip ?_; refine e_blk ?_; refine e_then ?_; refine wp_region_lit ?_; refine op_g ha rfl (g_move rfl) ?_; clear ha a; intro a ha; obtain ⟨hI141, hF⟩ := ck_some hF; refine op_g ha rfl (g_add rfl rfl hI141) ?_; clear ha a; intro a ha; refine op_g ha rfl (g_assign rfl) ?_; clear ha a; intro a ha; refine wpList_nil ?_; replace ha := ha.sub (σ' := [(0, va0), (1, va1), (5, (.int .i64 (i47 + 1)))]) ⟨rfl, rfl, rfl, trivial⟩; refine e_lq ?_; obtain rfl := Option.some.inj hF
        exact ⟨_, Nat.lt_succ_self _, i47 + 1, ha.sub ⟨rfl, rfl, rfl, trivial⟩, hE137, hI141, hN99⟩
      replace hF := if_f hp102 hF; refine wp_exit ?_; refine e_then_exit ?_; refine e_lq_eq ?_; obtain rfl := Option.some.inj hF
      exact ⟨ha.sub trivial, hE49, (LK_inr hN99).symm⟩
  rintro a w92 ⟨ha, hE98, rfl⟩
  have hF : F_laws_eqInt64SS_k2 = some _ := hK95; clear hK95; unfold F_laws_eqInt64SS_k2 at hF
  refine e_then ?_; refine wp_seq ?_; refine wp_region_lit ?_; refine op_g ha rfl (g_assign rfl) ?_; clear ha a; intro a ha; refine wpList_nil ?_; refine e_then ?_; refine wp_ret ?_; obtain rfl := Option.some.inj hF
  exact f_ret1 ha rfl rfl ⟨rfl, hE98⟩
set_option maxHeartbeats 2000000 in
theorem W_laws_eqGraph {W : World} {va0_0 : Value} {fa0_0 : List Nat} {a0_0 : (List (List Int))} (ha0_0 : Ro (Rp.sl 2 Rp.int) W fa0_0 va0_0 a0_0) {va1_0 : Value} {fa1_0 : List Nat} {a1_0 : (List (List Int))} (ha1_0 : Ro (Rp.sl 2 Rp.int) W fa1_0 va1_0 a1_0) {r : Bool} (hF : F_laws_eqGraph a0_0 a1_0 = some r) :
    Calls Tryd.prog 10 [.agg #[va0_0], .agg #[va1_0]].toArray W (Ret fun u w' => u = .bool r ∧ Ext W w') := by
  refine f_enter Tryd.func10 rfl Tryd.ntmps10 rfl ?_
  intro a ha
  replace ha : Fr 11 [(0, (.agg #[va0_0])), (1, (.agg #[va1_0]))] a := ha
  have hE : Chg [] W W := Chg.refl _ _
  unfold F_laws_eqGraph at hF
  refine wp_seq ?_; refine wp_region_lit ?_
  refine o_box ha rfl rfl rfl ?_; clear ha a; intro b1 w2 hB3 hx4 hlo5 a ha
  have q6 := Zn.one hlo5
  have q7 := Zn.upD q6 hE
  have hE8 := Ext.trans hE hx4
  refine o_box ha rfl rfl rfl ?_; clear ha a; intro b9 w10 hB11 hx12 hlo13 a ha
  have q14 := Zn.one hlo13
  have q15 := Nq.new hB3.fpb q14
  have q16 := Nq.made1 hlo13 hB3.bi
  have q17 := Zn.upD q14 hE8
  replace hB3 := hB3.ext hx12
  have hE18 := Ext.trans hE8 hx12
  refine op_g ha rfl (g_assign rfl) ?_; clear ha a; intro a ha; refine wpList_nil ?_; replace ha := ha.sub (σ' := [(2, (.pointer (some ⟨b1, 0, none⟩))), (3, (.pointer (some ⟨b9, 0, none⟩)))]) ⟨rfl, rfl, trivial⟩; refine e_then ?_; refine wp_seq ?_; refine wp_seq ?_; refine wp_region_lit ?_; refine op_g ha rfl (g_field0 st27_0 rfl) ?_; clear ha a; intro a ha; refine op_g ha rfl (g_load Tryd.isAgg22 rfl (hB3.cell rfl)) ?_; clear ha a; intro a ha; refine op_g ha rfl (g_field0 st27_0 rfl) ?_; clear ha a; intro a ha; refine op_g ha rfl (g_load Tryd.isAgg22 rfl (hB11.cell rfl)) ?_; clear ha a; intro a ha
  obtain ⟨x19, hc20, hF⟩ := cal_some hF
  refine o_call ha rfl rfl Tryd.call13 (W_laws_eqInt64SS (ha0_0.ext hE18) (ha1_0.ext hE18) hc20) ?_; clear ha a; rintro v21 w22 ⟨rfl, hx23⟩ a ha
  replace hB3 := hB3.ext hx23
  replace hB11 := hB11.ext hx23
  have hE24 := Ext.trans hE18 hx23
  refine op_g ha rfl (g_not rfl) ?_; clear ha a; intro a ha; refine wpList_nil ?_; replace ha := ha.sub (σ' := [(10, (.bool (!x19)))]) ⟨rfl, trivial⟩; refine e_then ?_; refine c_cond (¬ (x19 = true)) ha rfl (n_iff (Iff.rfl)) (fun hp25 => ?_) (fun hp25 => ?_)
  · replace hF := if_t hp25 hF
    refine wp_seq ?_; refine wp_region_lit ?_; refine op_g ha rfl (g_assign rfl) ?_; clear ha a; intro a ha; refine wpList_nil ?_; replace ha := ha.sub (σ' := [(4, (.bool false))]) ⟨rfl, trivial⟩; refine e_then ?_; refine wp_ret ?_; refine e_then_ret ?_; obtain rfl := Option.some.inj hF
    exact f_ret1 ha rfl rfl ⟨rfl, hE24⟩
  replace hF := if_f hp25 hF; refine wp_skip ?_; refine e_then ?_; refine wp_seq ?_; refine wp_region_lit ?_; refine op_g ha rfl (g_assign rfl) ?_; clear ha a; intro a ha; refine wpList_nil ?_; replace ha := ha.sub (σ' := [(4, (.bool true))]) ⟨rfl, trivial⟩; refine e_then ?_; refine wp_ret ?_; obtain rfl := Option.some.inj hF
  exact f_ret1 ha rfl rfl ⟨rfl, hE24⟩
set_option maxHeartbeats 2000000 in
theorem W_laws_FnExactRoundsMany {W : World} {va0_0 : Value} {fa0_0 : List Nat} {a0_0 : (List (List Int))} (ha0_0 : Ro (Rp.sl 2 Rp.int) W fa0_0 va0_0 a0_0) (hG : GT 0 W) {r : Bool} (hF : F_laws_FnExactRoundsMany a0_0 = some r) :
    Calls Tryd.prog 3 [.agg #[va0_0]].toArray W (Ret fun u w' => u = .bool r ∧ Ext W w') := by
  refine f_enter Tryd.func3 rfl Tryd.ntmps3 rfl ?_
  intro a ha
  replace ha : Fr 27 [(0, (.agg #[va0_0]))] a := ha
  have hE : Chg [] W W := Chg.refl _ _
  unfold F_laws_FnExactRoundsMany at hF
  refine wp_seq ?_; refine wp_region_lit ?_
  refine o_box ha rfl rfl rfl ?_; clear ha a; intro b1 w2 hB3 hx4 hlo5 a ha
  have q6 := Zn.one hlo5
  have q7 := Zn.upD q6 hE
  have hE8 := Ext.trans hE hx4
  refine op_g ha rfl (g_assign rfl) ?_; clear ha a; intro a ha; refine wpList_nil ?_; replace ha := ha.sub (σ' := [(1, (.pointer (some ⟨b1, 0, none⟩)))]) ⟨rfl, trivial⟩; refine e_then ?_; refine wp_seq ?_; refine wp_region_lit ?_; refine op_g ha rfl (g_assign rfl) ?_; clear ha a; intro a ha; refine wpList_nil ?_; refine e_then ?_; refine wp_seq ?_; refine wp_region_lit ?_; refine op_g ha rfl (g_loadA (cs := [va0_0]) Tryd.isAgg24 Tryd.sizeOf24 rfl (by simp) hB3.all) ?_; clear ha a; intro a ha; refine op_g ha rfl (g_move rfl) ?_; clear ha a; intro a ha; obtain ⟨x9, hc10, hF⟩ := cal_some hF
  refine o_call ha rfl rfl Tryd.call6 (W_laws_szGraph (ha0_0.ext hE8) (show InI 1048576 from by decide) hc10) ?_; clear ha a; rintro v11 w12 ⟨⟨rfl, hI14⟩, hx13⟩ a ha
  replace hB3 := hB3.ext hx13
  have hE15 := Ext.trans hE8 hx13
  refine op_g ha rfl (g_assign rfl) ?_; clear ha a; intro a ha; refine wpList_nil ?_; replace ha := ha.sub (σ' := [(1, (.pointer (some ⟨b1, 0, none⟩))), (3, (.int .i64 x9))]) ⟨rfl, rfl, trivial⟩; refine e_then ?_; refine wp_seq ?_; refine wp_seq ?_; refine wp_region_lit ?_; refine op_g ha rfl (g_move rfl) ?_; clear ha a; intro a ha; refine op_g ha rfl (g_lss rfl rfl) ?_; clear ha a; intro a ha; refine wpList_nil ?_; replace ha := ha.sub (σ' := [(1, (.pointer (some ⟨b1, 0, none⟩))), (11, (.bool (decide (x9 < 0))))]) ⟨rfl, rfl, trivial⟩; refine e_then ?_; refine c_cond (x9 < 0) ha rfl (decide_eq_true_iff) (fun hp16 => ?_) (fun hp16 => ?_)
  · replace hF := if_t hp16 hF
    refine wp_seq ?_; refine wp_region_lit ?_; refine op_g ha rfl (g_assign rfl) ?_; clear ha a; intro a ha; refine wpList_nil ?_; replace ha := ha.sub (σ' := [(2, (.bool true))]) ⟨rfl, trivial⟩; refine e_then ?_; refine wp_ret ?_; refine e_then_ret ?_; obtain rfl := Option.some.inj hF
    exact f_ret1 ha rfl rfl ⟨rfl, hE15⟩
  replace hF := if_f hp16 hF; refine wp_skip ?_; refine e_then ?_; refine wp_seq ?_; refine wp_region_lit ?_; refine op_g ha rfl (g_loadA (cs := [va0_0]) Tryd.isAgg24 Tryd.sizeOf24 rfl (by simp) hB3.all) ?_; clear ha a; intro a ha; obtain ⟨x17, hc18, hF⟩ := cal_some hF
  refine o_call ha rfl rfl Tryd.call8 (W_laws_toGraph (ha0_0.ext hE15) hc18) ?_; clear ha a; rintro v19 w20 ⟨u22, b23, fs27, rfl, h24, z25, zf28, nd29, hx21⟩ a ha
  have q30 := Nq.new hB3.fpb z25
  have q31 := Nq.madeF z25 zf28 hB3.bi
  have q32 := Nf.new hB3.fpb zf28
  replace hB3 := hB3.ext hx21
  have hE33 := Ext.trans hE15 hx21
  have q34 := Zn.upD z25 hE15
  have q35 := zf_up zf28 hE15
  obtain ⟨fp36, hro37, hs38⟩ := h24.roF
  obtain ⟨x39, hc40, hF⟩ := cal_some hF
  refine o_call ha rfl rfl Tryd.call7 (W_spec_RoundsMany hro37 hc40) ?_; clear ha a; rintro v41 w42 ⟨⟨rfl, hI44⟩, hx43⟩ a ha
  replace hB3 := hB3.ext hx43
  replace h24 := h24.ext hx43
  have hE45 := Ext.trans hE33 hx43
  refine op_g ha rfl (g_assign rfl) ?_; clear ha a; intro a ha; refine wpList_nil ?_; replace ha := ha.sub (σ' := [(1, (.pointer (some ⟨b1, 0, none⟩))), (4, (.int .i64 x39))]) ⟨rfl, rfl, trivial⟩; refine e_then ?_; refine wp_seq ?_; refine wp_region_lit ?_; refine op_g ha rfl (g_loadA (cs := [va0_0]) Tryd.isAgg24 Tryd.sizeOf24 rfl (by simp) hB3.all) ?_; clear ha a; intro a ha; obtain ⟨x46, hc47, hF⟩ := cal_some hF
  refine o_call ha rfl rfl Tryd.call8 (W_laws_toGraph (ha0_0.ext hE45) hc47) ?_; clear ha a; rintro v48 w49 ⟨u51, b52, fs56, rfl, h53, z54, zf57, nd58, hx50⟩ a ha
  have q59 := Nq.new hB3.fpb z54
  have q60 := Nq.madeF z54 zf57 hB3.bi
  have q61 := Nf.new hB3.fpb zf57
  replace hB3 := hB3.ext hx50
  have hE62 := Ext.trans hE45 hx50
  have q63 := Zn.upD z54 hE45
  have q64 := zf_up zf57 hE45
  refine o_alloc (cs := [(.slice none 0 0)]) ha rfl Tryd.zeroValue27 rfl ?_; clear ha a; intro b65 w66 hB67 hx68 hlo69 a ha
  have q70 := Zn.one hlo69
  have q71 := Nq.new hB3.fpb q70
  have q72 := Nq.made1 hlo69 hB3.bi
  have q73 := Nq.new h53.fpb q70
  have q74 := Nq.made1 hlo69 h53.blt
  have q75 := Zn.upD q70 hE62
  replace hB3 := hB3.ext hx68
  replace h53 := h53.ext hx68
  have hE76 := Ext.trans hE62 hx68
  refine o_storeA (vs := [u51]) ha hB67 Tryd.sizeOf27 rfl rfl (by intro c hc; simp only [List.mem_cons, List.not_mem_nil, or_false] at hc; rcases hc with hc <;> subst hc <;> first | rfl | exact h53.oneC) rfl ?_; intro w77 hB78 hc79
  replace hc79 := hc79.bl
  replace hB78 : Bx w77 b65 [u51] 27 := hB78
  replace hB3 := hB3.nq hc79 q71
  replace h53 := h53.nq hc79 q73
  have hE80 := Ext.then hE76 hc79 (Zn.bl q75)
  refine wpList_nil ?_; replace ha := ha.sub (σ' := [(1, (.pointer (some ⟨b1, 0, none⟩))), (4, (.int .i64 x39)), (5, (.pointer (some ⟨b65, 0, none⟩)))]) ⟨rfl, rfl, rfl, trivial⟩; refine e_then ?_; refine wp_seq ?_; refine wp_region_lit ?_; refine op_g ha rfl (g_loadA (cs := [u51]) Tryd.isAgg27 Tryd.sizeOf27 rfl (by simp) hB78.all) ?_; clear ha a; intro a ha
  obtain ⟨fp81, hro82, hs83⟩ := h53.roF
  obtain ⟨x84, hc85, hF⟩ := cal_some hF
  refine o_call ha rfl rfl Tryd.call9 (W_impl_RoundsMany hro82 (hG.ext hE80) hc85) ?_; clear ha a; rintro v86 w87 ⟨⟨rfl, hI89⟩, hx88⟩ a ha
  replace hB3 := hB3.ext hx88
  replace h53 := h53.ext hx88
  replace hB78 := hB78.ext hx88
  have hE90 := Ext.trans hE80 hx88
  refine op_g ha rfl (g_assign rfl) ?_; clear ha a; intro a ha; refine wpList_nil ?_; replace ha := ha.sub (σ' := [(1, (.pointer (some ⟨b1, 0, none⟩))), (4, (.int .i64 x39)), (5, (.pointer (some ⟨b65, 0, none⟩))), (6, (.int .i64 x84))]) ⟨rfl, rfl, rfl, rfl, trivial⟩; refine e_then ?_; refine wp_seq ?_; refine wp_seq ?_; refine wp_region_lit ?_; (iterate 2 refine op_g ha rfl (g_move rfl) ?_; clear ha a; intro a ha); refine op_g ha rfl (g_neq rfl rfl) ?_; clear ha a; intro a ha; refine wpList_nil ?_; replace ha := ha.sub (σ' := [(1, (.pointer (some ⟨b1, 0, none⟩))), (5, (.pointer (some ⟨b65, 0, none⟩))), (21, (.bool (decide (x84 ≠ x39))))]) ⟨rfl, rfl, rfl, trivial⟩
  refine e_then ?_; refine c_cond (x84 ≠ x39) ha rfl (decide_eq_true_iff) (fun hp91 => ?_) (fun hp91 => ?_)
  · replace hF := if_t hp91 hF
    refine wp_seq ?_; refine wp_region_lit ?_; refine op_g ha rfl (g_assign rfl) ?_; clear ha a; intro a ha; refine wpList_nil ?_; replace ha := ha.sub (σ' := [(2, (.bool false))]) ⟨rfl, trivial⟩; refine e_then ?_; refine wp_ret ?_; refine e_then_ret ?_; obtain rfl := Option.some.inj hF
    exact f_ret1 ha rfl rfl ⟨rfl, hE90⟩
  replace hF := if_f hp91 hF; refine wp_skip ?_; refine e_then ?_; refine wp_seq ?_; refine wp_seq ?_; refine d_region [0, 1, 2, 3, 4] hmix ?_; refine u_g 0 rfl (by kernel_rfl) (want0 _) ha rfl (g_loadA (cs := [u51]) Tryd.isAgg27 Tryd.sizeOf27 rfl (by simp) hB78.all) ?_; clear ha a; intro a ha; refine u_g 1 rfl (by kernel_rfl) (want0 _) ha rfl (g_loadA (cs := [va0_0]) Tryd.isAgg24 Tryd.sizeOf24 rfl (by simp) hB3.all) ?_; clear ha a; intro a ha
  refine u_only 2 rfl (by kernel_rfl) ?_; intro w92 hx93
  replace hB3 := hB3.ext hx93
  replace h53 := h53.ext hx93
  replace hB78 := hB78.ext hx93
  have hE94 := Ext.trans hE90 hx93
  obtain ⟨x95, hc96, hF⟩ := cal_some hF
  refine o_call ha rfl rfl Tryd.call8 (W_laws_toGraph (ha0_0.ext hE94) hc96) ?_; clear ha a; rintro v97 w98 ⟨u100, b101, fs105, rfl, h102, z103, zf106, nd107, hx99⟩ a ha
  have q108 := Nq.new hB3.fpb z103
  have q109 := Nq.madeF z103 zf106 hB3.bi
  have q110 := Nq.new h53.fpb z103
  have q111 := Nq.madeF z103 zf106 h53.blt
  have q112 := Nq.new hB78.fpb z103
  have q113 := Nq.madeF z103 zf106 hB78.bi
  have q114 := Nf.new hB3.fpb zf106
  have q115 := Nf.new h53.fpb zf106
  have q116 := Nf.old z103 zf106 h53.bnd
  have q117 := Nf.new hB78.fpb zf106
  replace hB3 := hB3.ext hx99
  replace h53 := h53.ext hx99
  replace hB78 := hB78.ext hx99
  have hE118 := Ext.trans hE94 hx99
  have q119 := Zn.upD z103 hE94
  have q120 := zf_up zf106 hE94
  refine wpList_nil (e_sq ?_)
  refine ⟨fun _ => hx99, ?_⟩
  obtain ⟨fp123, hro124, hs125⟩ := h53.roF
  obtain ⟨fp126, hro127, hs128⟩ := h102.roF
  obtain ⟨x129, hc130, hF⟩ := cal_some hF; refine u_call (.bool x129) 3 rfl (by kernel_rfl) (want0 _) ha rfl rfl Tryd.call10 (fun w122 hx121 => W_laws_eqGraph (hro124.ext hx121) (hro127.ext hx121) hc130) (fun _ _ _ h => ⟨h.1, h.2⟩) ?_; clear ha a; intro a ha; refine u_g 4 rfl (by kernel_rfl) (want0 _) ha rfl (g_not rfl) ?_; clear ha a; intro a ha
  refine u_done (by kernel_rfl) ?_; intro w131 hx132
  replace hB3 := hB3.ext hx132
  replace h53 := h53.ext hx132
  replace hB78 := hB78.ext hx132
  replace h102 := h102.ext hx132
  have hE133 := Ext.trans hE118 hx132
  replace ha := ha.sub (σ' := [(26, (.bool (!x129)))]) ⟨rfl, trivial⟩; refine e_then ?_; refine c_cond (¬ (x129 = true)) ha rfl (n_iff (Iff.rfl)) (fun hp134 => ?_) (fun hp134 => ?_)
  · replace hF := if_t hp134 hF
    refine wp_seq ?_; refine wp_region_lit ?_; refine op_g ha rfl (g_assign rfl) ?_; clear ha a; intro a ha; refine wpList_nil ?_; replace ha := ha.sub (σ' := [(2, (.bool false))]) ⟨rfl, trivial⟩; refine e_then ?_; refine wp_ret ?_; refine e_then_ret ?_; obtain rfl := Option.some.inj hF
    exact f_ret1 ha rfl rfl ⟨rfl, hE133⟩
  replace hF := if_f hp134 hF; refine wp_skip ?_; refine e_then ?_; refine wp_seq ?_; refine wp_region_lit ?_; refine op_g ha rfl (g_assign rfl) ?_; clear ha a; intro a ha; refine wpList_nil ?_; replace ha := ha.sub (σ' := [(2, (.bool true))]) ⟨rfl, trivial⟩; refine e_then ?_; refine wp_ret ?_; obtain rfl := Option.some.inj hF
  exact f_ret1 ha rfl rfl ⟨rfl, hE133⟩
end Go.Proofs.YthbmcbflnibpbaaDoor
