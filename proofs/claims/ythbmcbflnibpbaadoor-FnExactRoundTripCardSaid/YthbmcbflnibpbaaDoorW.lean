/- Walks, printed by gen.py. -/
import Derived.Test.YthbmcbflnibpbaaDoorF
import Derived.Test.YthbmcbflnibpbaaDoorW1
import Derived.Test.YthbmcbflnibpbaaDoorProg
import Derived.KernelRfl
set_option maxRecDepth 100000
namespace Go.Proofs.YthbmcbflnibpbaaDoor
open Go Go.RowKit

set_option maxHeartbeats 2000000 in
theorem W_impl_endings {W : World} {va0 : Value} {fa0 : List Nat} {a0 : (List (BitVec 32))} (ha0 : Ro Rp.u32 W fa0 va0 a0) {a1 : BitVec 32} (hG : GT 0 W) {r : (List (BitVec 32))} (hF : F_impl_endings a0 a1 = some r) :
    Calls Tryd.prog 42 [va0, .int .u32 (BitVec.toNat a1 : Int)].toArray W (Ret fun u w' => ∃ (b_u : Int), Ow Rp.u32 49 true w' [] b_u u r ∧ Zn W b_u ∧ Ext W w') := by
  refine f_enter Tryd.func42 rfl Tryd.ntmps42 rfl ?_
  intro a ha
  replace ha : Fr 70 [(0, va0), (1, (.int .u32 (BitVec.toNat a1 : Int)))] a := ha
  have hE : Chg [] W W := Chg.refl _ _
  unfold F_impl_endings at hF
  refine wp_seq ?_; refine wp_region_lit ?_; refine op_g ha rfl (g_assign rfl) ?_; clear ha a; intro a ha; refine wpList_nil ?_; replace ha := ha.sub (σ' := [(0, va0), (1, (.int .u32 (BitVec.toNat a1 : Int)))]) ⟨rfl, rfl, trivial⟩; refine e_then ?_; refine wp_seq ?_; refine wp_region_lit ?_; refine op_g ha rfl (g_move rfl) ?_; clear ha a; intro a ha; obtain ⟨x1, hc2, hF⟩ := cal_some hF
  refine o_call ha rfl rfl Tryd.call31 (W_impl_nets_all (ha0.ext hE) hc2) ?_; clear ha a; rintro v3 w4 ⟨rfl, hx5⟩ a ha
  have hE6 := Ext.trans hE hx5
  refine op_g ha rfl (g_assign rfl) ?_; clear ha a; intro a ha; refine wpList_nil ?_; replace ha := ha.sub (σ' := [(0, va0), (1, (.int .u32 (BitVec.toNat a1 : Int))), (5, (.int .u32 (BitVec.toNat x1 : Int)))]) ⟨rfl, rfl, rfl, trivial⟩; refine e_then ?_; refine wp_seq ?_; refine wp_region_lit ?_; refine op_g ha rfl (g_move rfl) ?_; clear ha a; intro a ha; refine op_g ha rfl (g32_add (m := x1) (n := (1#32)) rfl rfl) ?_; clear ha a; intro a ha; obtain ⟨g11, g11b, hF⟩ := mkS_some hF
  refine o_make (z0 := (0 : BitVec 32)) Rp.u32 ha rfl sl44 rfl (fun w => ⟨rfl, rfl⟩) rfl g11 g11b ?_; clear ha a; intro v7 w8 h9 hx10 a ha
  obtain ⟨b14, hb14⟩ : ∃ b : Int, b = w4.heap.size := ⟨_, rfl⟩; rw [← hb14] at h9
  have q15 := zn_of hb14
  have q16 := Zn.upD q15 hE6
  have hE17 := Ext.trans hE6 hx10
  refine op_g ha rfl (g_assign rfl) ?_; clear ha a; intro a ha; refine wpList_nil ?_; replace ha := ha.sub (σ' := [(0, va0), (1, (.int .u32 (BitVec.toNat a1 : Int))), (5, (.int .u32 (BitVec.toNat x1 : Int))), (6, v7)]) ⟨rfl, rfl, rfl, rfl, trivial⟩; refine e_then ?_; refine wp_seq ?_; refine wp_region_lit ?_; (iterate 3 refine op_g ha rfl (g_move rfl) ?_; clear ha a; intro a ha); obtain ⟨x18, g19, gx20, hF⟩ := idx_some hF
  obtain ⟨p21, cs22, f23, hf24, hpb25, hat26, hr27, hi28⟩ := h9.at g19 gx20
  obtain ⟨rfl, rfl⟩ := hr27
  refine op_g ha rfl (hi28.gives sl44 rfl rfl) ?_; clear ha a; intro a ha
  refine o_storeE (f := []) (q := a1) ha Tryd.sizeOf49 rfl rfl rfl h9 hi28 ⟨rfl, rfl⟩ (Nq.nil _) ?_; intro w29 fs30 h31 hc32 hs33
  obtain rfl := Subst.nil hs33
  have hE34 := Ext.then hE17 hc32 (Zn.bl q16)
  refine wpList_nil ?_; replace ha := ha.sub (σ' := [(0, va0), (5, (.int .u32 (BitVec.toNat x1 : Int))), (6, v7)]) ⟨rfl, rfl, rfl, trivial⟩; refine e_then ?_; refine wp_seq ?_; refine wp_seq ?_; refine wp_region_lit ?_; refine op_g ha rfl (g_move rfl) ?_; clear ha a; intro a ha; refine op_g ha rfl (g_conv64 (m := x1) un49 un3 rfl) ?_; clear ha a; intro a ha; obtain ⟨hI35, hF⟩ := ck_some hF; refine op_g ha rfl (g_sub rfl rfl hI35) ?_; clear ha a; intro a ha; refine op_g ha rfl (g_assign rfl) ?_; clear ha a; intro a ha; refine wpList_nil ?_; replace ha := ha.sub (σ' := [(0, va0), (6, v7), (7, (.int .i64 ((BitVec.toNat x1 : Int) - 1)))]) ⟨rfl, rfl, rfl, trivial⟩
  refine e_then ?_; obtain ⟨o2437, ho2438, hK2439⟩ := bnd_some hF
  obtain ⟨n2440, hn2441⟩ := lp_some ho2438; clear ho2438
  refine c_loop (fun a w => ∃ (l2434 : (List (BitVec 32))) (v2435 : Value) (b2436 : Int), Fr 70 [(6, v2435)] a ∧ Chg [] W w ∧ Ow Rp.u32 49 true w [] b2436 v2435 l2434 ∧ Zn W b2436 ∧ o2437 = .inl l2434) (fun n a w => ∃ (l1235 : (List (BitVec 32))) (i1238 : Int) (v1236 : Value) (b1237 : Int), Fr 70 [(0, va0), (6, v1236), (7, (.int .i64 i1238))] a ∧ Chg [] W w ∧ InI i1238 ∧ Ow Rp.u32 49 true w [] b1237 v1236 l1235 ∧ Zn W b1237 ∧ lpN (fun s => F_impl_endings_l1 a0 s.1 s.2) n (l1235, i1238) = some o2437) n2440 ⟨((List.replicate ((BitVec.toNat (x1 + (1#32)) : Int) : Int).toNat (0 : BitVec 32)).set (((BitVec.toNat x1 : Int) : Int).toNat) a1), (BitVec.toNat x1 : Int) - 1, v7, b14, ha.sub ⟨rfl, rfl, rfl, trivial⟩, hE34, hI35, h31, q16, hn2441⟩ ?_ ?_
  · rintro m2445 a w1231 ⟨l1235, i1238, v1236, b1237, ha, hE1240, hI1239, h1233, z1234, hF⟩
    cases m2445 with
    | zero => exact (lpN_zero hF).elim
    | succ m2445 =>
      obtain ⟨z2444, hF, hN2443⟩ := lpN_succ hF
      have hF : F_impl_endings_l1 a0 l1235 i1238 = some z2444 := hF; unfold F_impl_endings_l1 at hF
      refine wp_seq ?_; refine wp_seq ?_; refine wp_region_lit ?_; refine op_g ha rfl (g_move rfl) ?_; clear ha a; intro a ha; refine op_g ha rfl (g_gtr rfl rfl) ?_; clear ha a; intro a ha; refine wpList_nil ?_; replace ha := ha.sub (σ' := [(0, va0), (6, v1236), (7, (.int .i64 i1238)), (25, (.bool (decide (0 < i1238))))]) ⟨rfl, rfl, rfl, rfl, trivial⟩; refine e_then ?_; refine c_cond (0 < i1238) ha rfl (decide_eq_true_iff) (fun hp2446 => ?_) (fun hp2446 => ?_)
      · replace hF := if_t hp2446 hF
        refine wp_skip ?_; refine e_then ?_; refine wp_seq ?_; refine wp_block ?_; refine wp_seq ?_; refine wp_region_lit ?_; refine op_g ha rfl (g_move rfl) ?_; clear ha a; intro a ha; refine op_g ha rfl (g_conv32 un3 un49 rfl) ?_; clear ha a; intro a ha; obtain ⟨x2447, hc2448, hF⟩ := cal_some hF
        refine o_call ha rfl rfl Tryd.call32 (W_impl_vset_list (hG.ext hE1240) hc2448) ?_; clear ha a; rintro v2449 w2450 ⟨b2452, h2453, z2454, hx2451⟩ a ha
        have q2456 := Nq.new h1233.fpb z2454
        have q2457 := Nq.madeO z2454 h1233.blt
        replace h1233 := h1233.ext hx2451
        have hE2458 := Ext.trans hE1240 hx2451
        have q2459 := Zn.upD z2454 hE1240
        refine op_g ha rfl (g_lenO sl52.und h2453 rfl) ?_; clear ha a; intro a ha; refine op_g ha rfl (g_move rfl) ?_; clear ha a; intro a ha; refine wpList_nil ?_; replace ha := ha.sub (σ' := [(0, va0), (6, v1236), (7, (.int .i64 i1238)), (30, v2449), (31, (.int .i64 (x2447.length : Int))), (32, (.int .i64 0))]) ⟨rfl, rfl, rfl, rfl, rfl, rfl, trivial⟩; refine e_then ?_; obtain ⟨o3250, ho3251, hK3252⟩ := bnd_some hF
        obtain ⟨n3253, hn3254⟩ := lp_some ho3251; clear ho3251
        refine c_loop (fun a w => ∃ (l3247 : (List (BitVec 32))) (v3248 : Value) (b3249 : Int), Fr 70 [(0, va0), (6, v3248), (7, (.int .i64 i1238))] a ∧ Chg [] W w ∧ Ow Rp.u32 49 true w [] b3249 v3248 l3247 ∧ Zn W b3249 ∧ o3250 = .inl l3247) (fun n a w => ∃ (l2853 : (List (BitVec 32))) (i2859 : Int) (v2854 : Value) (b2855 : Int), Fr 70 [(0, va0), (6, v2854), (7, (.int .i64 i1238)), (30, v2449), (31, (.int .i64 (x2447.length : Int))), (32, (.int .i64 i2859))] a ∧ Chg [] W w ∧ InI i2859 ∧ Ow Rp.u32 49 true w [] b2855 v2854 l2853 ∧ Zn W b2855 ∧ Ow Rp.int 3 true w [] b2452 v2449 x2447 ∧ Zn W b2452 ∧ Nq (bl b2855 ++ []) b2452 ∧ Nq (bl b2452 ++ []) b2855 ∧ lpN (fun s => F_impl_endings_l2 a0 i1238 x2447 s.1 s.2) n (l2853, i2859) = some o3250) n3253 ⟨l1235, 0, v1236, b1237, ha.sub ⟨rfl, rfl, rfl, rfl, rfl, rfl, trivial⟩, hE2458, (show InI 0 from by decide), h1233, z1234, h2453, q2459, q2456, q2457, hn3254⟩ ?_ ?_
        · rintro m3258 a w2849 ⟨l2853, i2859, v2854, b2855, ha, hE2863, hI2860, h2851, z2852, h2857, z2858, q2861, q2862, hF⟩
          cases m3258 with
          | zero => exact (lpN_zero hF).elim
          | succ m3258 =>
            obtain ⟨z3257, hF, hN3256⟩ := lpN_succ hF
            have hF : F_impl_endings_l2 a0 i1238 x2447 l2853 i2859 = some z3257 := hF; unfold F_impl_endings_l2 at hF
            refine wp_seq ?_; refine wp_region_lit ?_; refine op_g ha rfl (g_lss rfl rfl) ?_; clear ha a; intro a ha; refine wpList_nil ?_; replace ha := ha.sub (σ' := [(0, va0), (6, v2854), (7, (.int .i64 i1238)), (30, v2449), (31, (.int .i64 (x2447.length : Int))), (32, (.int .i64 i2859)), (33, (.bool (decide (i2859 < (x2447.length : Int)))))]) ⟨rfl, rfl, rfl, rfl, rfl, rfl, rfl, trivial⟩; refine e_then ?_; refine wp_seq ?_; refine c_cond (i2859 < (x2447.length : Int)) ha rfl (decide_eq_true_iff) (fun hp3259 => ?_) (fun hp3259 => ?_)
            · replace hF := if_t hp3259 hF
              refine wp_skip ?_; refine e_then ?_; refine wp_seq ?_; refine wp_block ?_; refine wp_seq ?_; refine wp_region_lit ?_; obtain ⟨x3260, g3261, gx3262, hF⟩ := idx_some hF
              obtain ⟨p3263, cs3264, f3265, hf3266, hpb3267, hat3268, hr3269, hi3270⟩ := h2857.at g3261 gx3262
              obtain ⟨rfl, hI3271, rfl⟩ := hr3269
              refine op_g ha rfl (hi3270.gives sl52 rfl rfl) ?_; clear ha a; intro a ha; refine op_g ha rfl (g_load Tryd.isAgg3 rfl hat3268.one) ?_; clear ha a; intro a ha; refine op_g ha rfl (g_assign rfl) ?_; clear ha a; intro a ha; refine wpList_nil ?_; replace ha := ha.sub (σ' := [(0, va0), (6, v2854), (7, (.int .i64 i1238)), (9, (.int .i64 x3260)), (30, v2449), (31, (.int .i64 (x2447.length : Int))), (32, (.int .i64 i2859))]) ⟨rfl, rfl, rfl, rfl, rfl, rfl, rfl, trivial⟩; refine e_then ?_; refine wp_seq ?_; refine wp_region_lit ?_; (iterate 2 refine op_g ha rfl (g_move rfl) ?_; clear ha a; intro a ha)
              obtain ⟨x3272, g3273, gx3274, hF⟩ := idx_some hF
              obtain ⟨p3275, cs3276, f3277, hf3278, hpb3279, hat3280, hr3281, hi3282⟩ := ha0.at g3273 gx3274
              obtain ⟨rfl, rfl⟩ := hr3281
              refine op_g ha rfl (hi3282.gives sl45 rfl rfl) ?_; clear ha a; intro a ha; refine op_g ha rfl (g_load0 hE2863 Tryd.isAgg49 rfl hat3280.one) ?_; clear ha a; intro a ha; refine op_g ha rfl (g_move rfl) ?_; clear ha a; intro a ha; refine op_g ha rfl (g_conv32 un3 un49 rfl) ?_; clear ha a; intro a ha; refine op_g ha rfl (g32_andNot (m := x3272) (n := (BitVec.ofInt 32 i1238)) rfl rfl) ?_; clear ha a; intro a ha; obtain ⟨x3283, hc3284, hF⟩ := cal_some hF
              refine o_call ha rfl rfl Tryd.call32 (W_impl_vset_list (hG.ext hE2863) hc3284) ?_; clear ha a; rintro v3285 w3286 ⟨b3288, h3289, z3290, hx3287⟩ a ha
              have q3292 := Nq.new h2851.fpb z3290
              have q3293 := Nq.madeO z3290 h2851.blt
              have q3294 := Nq.new h2857.fpb z3290
              have q3295 := Nq.madeO z3290 h2857.blt
              replace h2851 := h2851.ext hx3287
              replace h2857 := h2857.ext hx3287
              have hE3296 := Ext.trans hE2863 hx3287
              have q3297 := Zn.upD z3290 hE2863
              refine op_g ha rfl (g_lenO sl52.und h3289 rfl) ?_; clear ha a; intro a ha; refine op_g ha rfl (g_move rfl) ?_; clear ha a; intro a ha; refine wpList_nil ?_; replace ha := ha.sub (σ' := [(0, va0), (6, v2854), (7, (.int .i64 i1238)), (9, (.int .i64 x3260)), (30, v2449), (31, (.int .i64 (x2447.length : Int))), (32, (.int .i64 i2859)), (43, v3285), (44, (.int .i64 (x3283.length : Int))), (45, (.int .i64 0))]) ⟨rfl, rfl, rfl, rfl, rfl, rfl, rfl, rfl, rfl, rfl, trivial⟩; refine e_then ?_; obtain ⟨o3536, ho3537, hK3538⟩ := bnd_some hF
              obtain ⟨n3539, hn3540⟩ := lp_some ho3537; clear ho3537
              refine c_loop (fun a w => ∃ (l3528 : (List (BitVec 32))) (v3529 : Value) (b3530 : Int), Fr 70 [(0, va0), (6, v3529), (7, (.int .i64 i1238)), (30, v2449), (31, (.int .i64 (x2447.length : Int))), (32, (.int .i64 i2859))] a ∧ Chg [] W w ∧ Ow Rp.u32 49 true w [] b3530 v3529 l3528 ∧ Zn W b3530 ∧ Ow Rp.int 3 true w [] b2452 v2449 x2447 ∧ Zn W b2452 ∧ Nq (bl b3530 ++ []) b2452 ∧ Nq (bl b2452 ++ []) b3530 ∧ o3536 = .inl l3528) (fun n a w => ∃ (i3420 : Int), Fr 70 [(0, va0), (6, v2854), (7, (.int .i64 i1238)), (9, (.int .i64 x3260)), (30, v2449), (31, (.int .i64 (x2447.length : Int))), (32, (.int .i64 i2859)), (43, v3285), (44, (.int .i64 (x3283.length : Int))), (45, (.int .i64 i3420))] a ∧ Chg [] W w ∧ InI i3420 ∧ Ow Rp.u32 49 true w [] b2855 v2854 l2853 ∧ Zn W b2855 ∧ Ow Rp.int 3 true w [] b2452 v2449 x2447 ∧ Zn W b2452 ∧ Ow Rp.int 3 true w [] b3288 v3285 x3283 ∧ Zn W b3288 ∧ Nq (bl b2855 ++ []) b2452 ∧ Nq (bl b2855 ++ []) b3288 ∧ Nq (bl b2452 ++ []) b2855 ∧ Nq (bl b2452 ++ []) b3288 ∧ Nq (bl b3288 ++ []) b2855 ∧ Nq (bl b3288 ++ []) b2452 ∧ lpN (fun s => F_impl_endings_l3 i1238 l2853 x3260 x3283 s) n i3420 = some o3536) n3539 ⟨0, ha.sub ⟨rfl, rfl, rfl, rfl, rfl, rfl, rfl, rfl, rfl, rfl, trivial⟩, hE3296, (show InI 0 from by decide), h2851, z2852, h2857, z2858, h3289, q3297, q2861, q3292, q2862, q3294, q3293, q3295, hn3540⟩ ?_ ?_
              · rintro m3544 a w3410 ⟨i3420, ha, hE3428, hI3421, h3412, z3413, h3415, z3416, h3418, z3419, q3422, q3423, q3424, q3425, q3426, q3427, hF⟩
                cases m3544 with
                | zero => exact (lpN_zero hF).elim
                | succ m3544 =>
                  obtain ⟨z3543, hF, hN3542⟩ := lpN_succ hF
                  have hF : F_impl_endings_l3 i1238 l2853 x3260 x3283 i3420 = some z3543 := hF; unfold F_impl_endings_l3 at hF
                  refine wp_seq ?_; refine wp_region_lit ?_; refine op_g ha rfl (g_lss rfl rfl) ?_; clear ha a; intro a ha; refine wpList_nil ?_; replace ha := ha.sub (σ' := [(0, va0), (6, v2854), (7, (.int .i64 i1238)), (9, (.int .i64 x3260)), (30, v2449), (31, (.int .i64 (x2447.length : Int))), (32, (.int .i64 i2859)), (43, v3285), (44, (.int .i64 (x3283.length : Int))), (45, (.int .i64 i3420)), (46, (.bool (decide (i3420 < (x3283.length : Int)))))]) ⟨rfl, rfl, rfl, rfl, rfl, rfl, rfl, rfl, rfl, rfl, rfl, trivial⟩; refine e_then ?_; refine wp_seq ?_; refine c_cond (i3420 < (x3283.length : Int)) ha rfl (decide_eq_true_iff) (fun hp3545 => ?_) (fun hp3545 => ?_)
                  · replace hF := if_t hp3545 hF
                    refine wp_skip ?_; refine e_then ?_; refine wp_seq ?_; refine wp_block ?_; refine wp_seq ?_; refine wp_region_lit ?_; obtain ⟨x3546, g3547, gx3548, hF⟩ := idx_some hF
                    obtain ⟨p3549, cs3550, f3551, hf3552, hpb3553, hat3554, hr3555, hi3556⟩ := h3418.at g3547 gx3548
                    obtain ⟨rfl, hI3557, rfl⟩ := hr3555
                    refine op_g ha rfl (hi3556.gives sl52 rfl rfl) ?_; clear ha a; intro a ha; refine op_g ha rfl (g_load Tryd.isAgg3 rfl hat3554.one) ?_; clear ha a; intro a ha; refine op_g ha rfl (g_assign rfl) ?_; clear ha a; intro a ha; refine wpList_nil ?_; replace ha := ha.sub (σ' := [(0, va0), (6, v2854), (7, (.int .i64 i1238)), (9, (.int .i64 x3260)), (11, (.int .i64 x3546)), (30, v2449), (31, (.int .i64 (x2447.length : Int))), (32, (.int .i64 i2859)), (43, v3285), (44, (.int .i64 (x3283.length : Int))), (45, (.int .i64 i3420))]) ⟨rfl, rfl, rfl, rfl, rfl, rfl, rfl, rfl, rfl, rfl, rfl, trivial⟩
                    refine e_then ?_; refine wp_seq ?_; refine wp_region_lit ?_; (iterate 2 refine op_g ha rfl (g_move rfl) ?_; clear ha a; intro a ha); refine op_g ha rfl (g_conv32 un3 un49 rfl) ?_; clear ha a; intro a ha; refine op_g ha rfl (g_move rfl) ?_; clear ha a; intro a ha; obtain ⟨x3558, hc3559, hF⟩ := cal_some hF
                    refine o_call ha rfl rfl Tryd.call33 (W_impl_one hI3557 hc3559) ?_; clear ha a; rintro v3560 w3561 ⟨rfl, hx3562⟩ a ha
                    replace h3412 := h3412.ext hx3562
                    replace h3415 := h3415.ext hx3562
                    replace h3418 := h3418.ext hx3562
                    have hE3563 := Ext.trans hE3428 hx3562
                    refine op_g ha rfl (g32_or (m := (BitVec.ofInt 32 i1238)) (n := x3558) rfl rfl) ?_; clear ha a; intro a ha; obtain ⟨x3564, g3565, gx3566, hF⟩ := idx_some hF
                    obtain ⟨p3567, cs3568, f3569, hf3570, hpb3571, hat3572, hr3573, hi3574⟩ := h3412.at g3565 gx3566
                    obtain ⟨rfl, rfl⟩ := hr3573
                    refine op_g ha rfl (hi3574.gives sl44 rfl rfl) ?_; clear ha a; intro a ha; refine op_g ha rfl (g_load Tryd.isAgg49 rfl hat3572.one) ?_; clear ha a; intro a ha; refine op_g ha rfl (g_move rfl) ?_; clear ha a; intro a ha; obtain ⟨x3575, hc3576, hF⟩ := cal_some hF
                    refine o_call ha rfl rfl Tryd.call56 (W_impl_vset_has hI3557 hc3576) ?_; clear ha a; rintro v3577 w3578 ⟨rfl, hx3579⟩ a ha
                    replace h3412 := h3412.ext hx3579
                    replace h3415 := h3415.ext hx3579
                    replace h3418 := h3418.ext hx3579
                    have hE3580 := Ext.trans hE3563 hx3579
                    refine wpList_nil ?_; replace ha := ha.sub (σ' := [(0, va0), (6, v2854), (7, (.int .i64 i1238)), (9, (.int .i64 x3260)), (30, v2449), (31, (.int .i64 (x2447.length : Int))), (32, (.int .i64 i2859)), (43, v3285), (44, (.int .i64 (x3283.length : Int))), (45, (.int .i64 i3420)), (58, (.bool x3575))]) ⟨rfl, rfl, rfl, rfl, rfl, rfl, rfl, rfl, rfl, rfl, rfl, trivial⟩; refine e_then ?_; refine c_cond (x3575 = true) ha rfl (Iff.rfl) (fun hp3581 => ?_) (fun hp3581 => ?_)
                    · replace hF := if_t hp3581 hF
                      refine wp_seq ?_; refine d_region [0, 1, 2, 3, 4, 5, 6, 7] hmix ?_; refine u_g 0 rfl (by kernel_rfl) (want0 _) ha rfl (g_move rfl) ?_; clear ha a; intro a ha; refine u_g 1 rfl (by kernel_rfl) (want0 _) ha rfl (g_move rfl) ?_; clear ha a; intro a ha; obtain ⟨x3582, g3583, gx3584, hF⟩ := idx_some hF
                      obtain ⟨p3585, cs3586, f3587, hf3588, hpb3589, hat3590, hr3591, hi3592⟩ := h3412.at g3583 gx3584
                      obtain ⟨rfl, rfl⟩ := hr3591
                      refine u_g 2 rfl (by kernel_rfl) (want0 _) ha rfl (hi3592.gives sl44 rfl rfl) ?_; clear ha a; intro a ha; refine u_g 3 rfl (by kernel_rfl) (want0 _) ha rfl (g_load Tryd.isAgg49 rfl hat3590.one) ?_; clear ha a; intro a ha; refine u_g 4 rfl (by kernel_rfl) (want0 _) ha rfl (g_move rfl) ?_; clear ha a; intro a ha; obtain ⟨x3595, hc3596, hF⟩ := cal_some hF; refine u_call (.int .u32 (BitVec.toNat x3595 : Int)) 5 rfl (by kernel_rfl) (want0 _) ha rfl rfl Tryd.call33 (fun w3594 hx3593 => W_impl_one hI3271 hc3596) (fun _ _ _ h => ⟨h.1, h.2⟩) ?_; clear ha a; intro a ha; refine u_g 6 rfl (by kernel_rfl) (want0 _) ha rfl (g32_or (m := x3582) (n := x3595) rfl rfl) ?_; clear ha a; intro a ha
                      obtain ⟨x3597, g3598, gx3599, hF⟩ := idx_some hF
                      obtain ⟨p3600, cs3601, f3602, hf3603, hpb3604, hat3605, hr3606, hi3607⟩ := h3412.at g3598 gx3599
                      obtain ⟨rfl, rfl⟩ := hr3606
                      refine u_g 7 rfl (by kernel_rfl) (want0 _) ha rfl (hi3607.gives sl44 rfl rfl) ?_; clear ha a; intro a ha
                      refine u_only 8 rfl (by kernel_rfl) ?_; intro w3608 hx3609
                      replace h3412 := h3412.ext hx3609
                      replace h3415 := h3415.ext hx3609
                      replace h3418 := h3418.ext hx3609
                      have hE3610 := Ext.trans hE3580 hx3609
                      refine o_storeE (f := []) (q := x3582 ||| x3595) ha Tryd.sizeOf49 rfl rfl rfl h3412 hi3607 ⟨rfl, rfl⟩ (Nq.nil _) ?_; intro w3611 fs3612 h3613 hc3614 hs3615
                      obtain rfl := Subst.nil hs3615
                      replace h3415 := h3415.nq hc3614 q3424
                      replace h3418 := h3418.nq hc3614 q3426
                      have hE3616 := Ext.then hE3610 hc3614 (Zn.bl z3413)
                      refine wpList_nil (e_sq ?_)
                      refine ⟨fun h => absurd h (by decide), ?_⟩
                      refine u_done (by kernel_rfl) ?_; intro w3617 hx3618
                      replace h3613 := h3613.ext hx3618
                      replace h3415 := h3415.ext hx3618
                      replace h3418 := h3418.ext hx3618
                      have hE3619 := Ext.trans hE3616 hx3618
                      replace ha := ha.sub (σ' := [(0, va0), (6, v2854), (7, (.int .i64 i1238)), (30, v2449), (31, (.int .i64 (x2447.length : Int))), (32, (.int .i64 i2859))]) ⟨rfl, rfl, rfl, rfl, rfl, rfl, trivial⟩; refine e_then ?_; refine wp_exit ?_; refine e_blk_ne rfl ?_; refine e_then_exit ?_; refine e_lq_eq ?_; obtain rfl := Option.some.inj hF
                      exact ⟨(l2853.set ((i1238 : Int).toNat) (x3582 ||| x3595)), v2854, b2855, ha.sub ⟨rfl, rfl, rfl, rfl, rfl, rfl, trivial⟩, hE3619, h3613, z3413, h3415, z3416, q3422, q3424, (LK_inr hN3542).symm⟩
                    replace hF := if_f hp3581 hF; refine wp_skip ?_; refine e_blk ?_; refine e_then ?_; refine wp_region_lit ?_; obtain ⟨hI3620, hF⟩ := ck_some hF; refine op_g ha rfl (g_add rfl rfl hI3620) ?_; clear ha a; intro a ha; refine op_g ha rfl (g_move rfl) ?_; clear ha a; intro a ha; refine wpList_nil ?_; replace ha := ha.sub (σ' := [(0, va0), (6, v2854), (7, (.int .i64 i1238)), (9, (.int .i64 x3260)), (30, v2449), (31, (.int .i64 (x2447.length : Int))), (32, (.int .i64 i2859)), (43, v3285), (44, (.int .i64 (x3283.length : Int))), (45, (.int .i64 (i3420 + 1)))]) ⟨rfl, rfl, rfl, rfl, rfl, rfl, rfl, rfl, rfl, rfl, trivial⟩
                    refine e_lq ?_; obtain rfl := Option.some.inj hF
                    exact ⟨_, Nat.lt_succ_self _, i3420 + 1, ha.sub ⟨rfl, rfl, rfl, rfl, rfl, rfl, rfl, rfl, rfl, rfl, trivial⟩, hE3580, hI3620, h3412, z3413, h3415, z3416, h3418, z3419, q3422, q3423, q3424, q3425, q3426, q3427, hN3542⟩
                  replace hF := if_f hp3545 hF; refine wp_exit ?_; refine e_then_exit ?_; refine e_lq_eq ?_; obtain rfl := Option.some.inj hF
                  exact ⟨l2853, v2854, b2855, ha.sub ⟨rfl, rfl, rfl, rfl, rfl, rfl, trivial⟩, hE3428, h3412, z3413, h3415, z3416, q3422, q3424, (LK_inr hN3542).symm⟩
              rintro a w3524 ⟨l3528, v3529, b3530, ha, hE3541, h3526, z3527, h3532, z3533, q3534, q3535, rfl⟩
              have hF : F_impl_endings_k4 i2859 l3528 = some _ := hK3538; clear hK3538; unfold F_impl_endings_k4 at hF
              refine e_blk ?_; refine e_then ?_; refine wp_region_lit ?_; obtain ⟨hI3622, hF⟩ := ck_some hF; refine op_g ha rfl (g_add rfl rfl hI3622) ?_; clear ha a; intro a ha; refine op_g ha rfl (g_move rfl) ?_; clear ha a; intro a ha; refine wpList_nil ?_; replace ha := ha.sub (σ' := [(0, va0), (6, v3529), (7, (.int .i64 i1238)), (30, v2449), (31, (.int .i64 (x2447.length : Int))), (32, (.int .i64 (i2859 + 1)))]) ⟨rfl, rfl, rfl, rfl, rfl, rfl, trivial⟩; refine e_lq ?_; obtain rfl := Option.some.inj hF
              exact ⟨_, Nat.lt_succ_self _, l3528, i2859 + 1, v3529, b3530, ha.sub ⟨rfl, rfl, rfl, rfl, rfl, rfl, trivial⟩, hE3541, hI3622, h3526, z3527, h3532, z3533, q3534, q3535, hN3256⟩
            replace hF := if_f hp3259 hF; refine wp_exit ?_; refine e_then_exit ?_; refine e_lq_eq ?_; obtain rfl := Option.some.inj hF
            exact ⟨l2853, v2854, b2855, ha.sub ⟨rfl, rfl, rfl, trivial⟩, hE2863, h2851, z2852, (LK_inr hN3256).symm⟩
        rintro a w3243 ⟨l3247, v3248, b3249, ha, hE3255, h3245, z3246, rfl⟩
        have hF : F_impl_endings_k5 i1238 l3247 = some _ := hK3252; clear hK3252; unfold F_impl_endings_k5 at hF
        refine e_blk ?_; refine e_then ?_; refine wp_region_lit ?_; refine op_g ha rfl (g_move rfl) ?_; clear ha a; intro a ha; obtain ⟨hI3624, hF⟩ := ck_some hF; refine op_g ha rfl (g_sub rfl rfl hI3624) ?_; clear ha a; intro a ha; refine op_g ha rfl (g_assign rfl) ?_; clear ha a; intro a ha; refine wpList_nil ?_; replace ha := ha.sub (σ' := [(0, va0), (6, v3248), (7, (.int .i64 (i1238 - 1)))]) ⟨rfl, rfl, rfl, trivial⟩; refine e_lq ?_; obtain rfl := Option.some.inj hF
        exact ⟨_, Nat.lt_succ_self _, l3247, i1238 - 1, v3248, b3249, ha.sub ⟨rfl, rfl, rfl, trivial⟩, hE3255, hI3624, h3245, z3246, hN2443⟩
      replace hF := if_f hp2446 hF; refine wp_exit ?_; refine e_then_exit ?_; refine e_lq_eq ?_; obtain rfl := Option.some.inj hF
      exact ⟨l1235, v1236, b1237, ha.sub ⟨rfl, trivial⟩, hE1240, h1233, z1234, (LK_inr hN2443).symm⟩
  rintro a w2430 ⟨l2434, v2435, b2436, ha, hE2442, h2432, z2433, rfl⟩
  have hF : F_impl_endings_k6 l2434 = some _ := hK2439; clear hK2439; unfold F_impl_endings_k6 at hF
  refine e_then ?_; refine wp_seq ?_; refine wp_region_lit ?_; refine op_g ha rfl (g_move rfl) ?_; clear ha a; intro a ha; refine op_g ha rfl (g_assign rfl) ?_; clear ha a; intro a ha; refine wpList_nil ?_; replace ha := ha.sub (σ' := [(4, v2435)]) ⟨rfl, trivial⟩; refine e_then ?_; refine wp_ret ?_; obtain rfl := Option.some.inj hF
  exact f_ret1 ha rfl rfl ⟨_, h2432, z2433, hE2442⟩
set_option maxHeartbeats 2000000 in
theorem W_impl_tripFrom {W : World} {va0 : Value} {fa0 : List Nat} {a0 : (List (BitVec 32))} (ha0 : Ro Rp.u32 W fa0 va0 a0) {a1 : Int} (ha1 : InI a1) {va2 : Value} {fa2 : List Nat} {a2 : (List (BitVec 32))} (ha2 : Ro Rp.u32 W fa2 va2 a2) (hG : GT 0 W) {r : (List Int)} (hF : F_impl_tripFrom a0 a1 a2 = some r) :
    Calls Tryd.prog 41 [va0, .int .i64 a1, va2].toArray W (Ret fun u w' => ∃ (b_u : Int), Ow Rp.int 3 true w' [] b_u u r ∧ Zn W b_u ∧ (b_u < 0 ∨ r ≠ []) ∧ Ext W w') := by
  refine f_enter Tryd.func41 rfl Tryd.ntmps41 rfl ?_
  intro a ha
  replace ha : Fr 58 [(0, va0), (1, (.int .i64 a1)), (2, va2)] a := ha
  have hE : Chg [] W W := Chg.refl _ _
  unfold F_impl_tripFrom at hF
  refine wp_seq ?_; refine wp_region_lit ?_; refine op_g ha rfl (g_assign rfl) ?_; clear ha a; intro a ha; refine wpList_nil ?_; replace ha := ha.sub (σ' := [(0, va0), (1, (.int .i64 a1)), (2, va2)]) ⟨rfl, rfl, rfl, trivial⟩; refine e_then ?_; refine wp_seq ?_; refine wp_region_lit ?_; refine op_g ha rfl (g_move rfl) ?_; clear ha a; intro a ha; obtain ⟨x1, hc2, hF⟩ := cal_some hF
  refine o_call ha rfl rfl Tryd.call33 (W_impl_one ha1 hc2) ?_; clear ha a; rintro v3 w4 ⟨rfl, hx5⟩ a ha
  have hE6 := Ext.trans hE hx5
  refine op_g ha rfl (g_move rfl) ?_; clear ha a; intro a ha
  refine o_lit1 (o := true) (y := a1) Rp.int ha rfl sl52 rfl rfl rfl ⟨rfl, ha1, rfl⟩ ?_; clear ha a; intro v7 w8 h9 hx10 a ha
  obtain ⟨b12, hb12⟩ : ∃ b : Int, b = w4.heap.size := ⟨_, rfl⟩; rw [← hb12] at h9
  have q13 := zn_of hb12
  have q14 := Zn.upD q13 hE6
  have hE15 := Ext.trans hE6 hx10
  (iterate 2 refine op_g ha rfl (g_assign rfl) ?_; clear ha a; intro a ha); refine wpList_nil ?_; replace ha := ha.sub (σ' := [(0, va0), (1, (.int .i64 a1)), (2, va2), (7, (.int .u32 (BitVec.toNat x1 : Int))), (8, v7)]) ⟨rfl, rfl, rfl, rfl, rfl, trivial⟩; refine e_then ?_; refine wp_seq ?_; refine wp_seq ?_; refine wp_region_lit ?_; (iterate 2 refine op_g ha rfl (g_move rfl) ?_; clear ha a; intro a ha); obtain ⟨x16, g17, gx18, hF⟩ := idx_some hF
  obtain ⟨p19, cs20, f21, hf22, hpb23, hat24, hr25, hi26⟩ := ha2.at g17 gx18
  obtain ⟨rfl, rfl⟩ := hr25
  refine op_g ha rfl (hi26.gives sl44 rfl rfl) ?_; clear ha a; intro a ha; refine op_g ha rfl (g_load0 hE15 Tryd.isAgg49 rfl hat24.one) ?_; clear ha a; intro a ha; refine op_g ha rfl (g_move rfl) ?_; clear ha a; intro a ha; obtain ⟨x27, hc28, hF⟩ := cal_some hF
  refine o_call ha rfl rfl Tryd.call56 (W_impl_vset_has ha1 hc28) ?_; clear ha a; rintro v29 w30 ⟨rfl, hx31⟩ a ha
  replace h9 := h9.ext hx31
  have hE32 := Ext.trans hE15 hx31
  refine op_g ha rfl (g_not rfl) ?_; clear ha a; intro a ha; refine wpList_nil ?_; replace ha := ha.sub (σ' := [(0, va0), (1, (.int .i64 a1)), (2, va2), (7, (.int .u32 (BitVec.toNat x1 : Int))), (8, v7), (21, (.bool (!x27)))]) ⟨rfl, rfl, rfl, rfl, rfl, rfl, trivial⟩; refine e_then ?_; refine c_cond (¬ (x27 = true)) ha rfl (n_iff (Iff.rfl)) (fun hp33 => ?_) (fun hp33 => ?_)
  · replace hF := if_t hp33 hF
    refine wp_seq ?_; refine wp_region_lit ?_; refine op_g ha rfl (g_assign rfl) ?_; clear ha a; intro a ha; refine wpList_nil ?_; replace ha := ha.sub (σ' := [(6, (.slice none 0 0))]) ⟨rfl, trivial⟩; refine e_then ?_; refine wp_ret ?_; refine e_then_ret ?_; obtain rfl := Option.some.inj hF
    exact f_ret1 ha rfl rfl ⟨-1, (Ow.nil (by decide)), (.inl (by decide)), (.inl (by decide)), hE32⟩
  replace hF := if_f hp33 hF; refine wp_skip ?_; refine e_then ?_; refine wp_seq ?_; obtain ⟨o549, ho550, hK551⟩ := bnd_some hF
  obtain ⟨n552, hn553⟩ := lp_some ho550; clear ho550
  refine c_loop (fun a w => ∃ (l546 : (List Int)) (v547 : Value) (b548 : Int), Fr 58 [(8, v547)] a ∧ Chg [] W w ∧ Ow Rp.int 3 true w [] b548 v547 l546 ∧ Zn W b548 ∧ o549 = .inl l546) (fun n a w => ∃ (i286 : Int) (u288 : BitVec 32) (l292 : (List Int)) (v293 : Value) (b294 : Int), Fr 58 [(0, va0), (1, (.int .i64 i286)), (2, va2), (7, (.int .u32 (BitVec.toNat u288 : Int))), (8, v293)] a ∧ Chg [] W w ∧ InI i286 ∧ Ow Rp.int 3 true w [] b294 v293 l292 ∧ Zn W b294 ∧ lpN (fun s => F_impl_tripFrom_l1 a0 a2 s.1 s.2.1 s.2.2) n (i286, u288, l292) = some o549) n552 ⟨a1, x1, [a1], v7, b12, ha.sub ⟨rfl, rfl, rfl, rfl, rfl, trivial⟩, hE32, ha1, h9, q14, hn553⟩ ?_ ?_
  · rintro m557 a w285 ⟨i286, u288, l292, v293, b294, ha, hE295, hI287, h290, z291, hF⟩
    cases m557 with
    | zero => exact (lpN_zero hF).elim
    | succ m557 =>
      obtain ⟨z556, hF, hN555⟩ := lpN_succ hF
      have hF : F_impl_tripFrom_l1 a0 a2 i286 u288 l292 = some z556 := hF; unfold F_impl_tripFrom_l1 at hF
      refine wp_seq ?_; refine wp_seq ?_; refine wp_region_lit ?_; (iterate 2 refine op_g ha rfl (g_move rfl) ?_; clear ha a; intro a ha); obtain ⟨x558, hc559, hF⟩ := cal_some hF
      refine o_call ha rfl rfl Tryd.call31 (W_impl_nets_all (ha0.ext hE295) hc559) ?_; clear ha a; rintro v560 w561 ⟨rfl, hx562⟩ a ha
      replace h290 := h290.ext hx562
      have hE563 := Ext.trans hE295 hx562
      refine op_g ha rfl (g32_neq (m := u288) (n := x558) rfl rfl) ?_; clear ha a; intro a ha; refine wpList_nil ?_; replace ha := ha.sub (σ' := [(0, va0), (1, (.int .i64 i286)), (2, va2), (7, (.int .u32 (BitVec.toNat u288 : Int))), (8, v293), (25, (.bool (decide (u288 ≠ x558))))]) ⟨rfl, rfl, rfl, rfl, rfl, rfl, trivial⟩; refine e_then ?_; refine c_cond (u288 ≠ x558) ha rfl (decide_eq_true_iff) (fun hp564 => ?_) (fun hp564 => ?_)
      · replace hF := if_t hp564 hF
        refine wp_skip ?_; refine e_then ?_; refine wp_block ?_; refine wp_seq ?_; refine wp_seq ?_; refine wp_region_lit ?_; (iterate 2 refine op_g ha rfl (g_move rfl) ?_; clear ha a; intro a ha); obtain ⟨x565, g566, gx567, hF⟩ := idx_some hF
        obtain ⟨p568, cs569, f570, hf571, hpb572, hat573, hr574, hi575⟩ := ha0.at g566 gx567
        obtain ⟨rfl, rfl⟩ := hr574
        refine op_g ha rfl (hi575.gives sl45 rfl rfl) ?_; clear ha a; intro a ha; refine op_g ha rfl (g_load0 hE563 Tryd.isAgg49 rfl hat573.one) ?_; clear ha a; intro a ha; refine op_g ha rfl (g_move rfl) ?_; clear ha a; intro a ha; refine op_g ha rfl (g32_andNot (m := x565) (n := u288) rfl rfl) ?_; clear ha a; intro a ha; obtain ⟨x576, hc577, hF⟩ := cal_some hF
        refine o_call ha rfl rfl Tryd.call32 (W_impl_vset_list (hG.ext hE563) hc577) ?_; clear ha a; rintro v578 w579 ⟨b581, h582, z583, hx580⟩ a ha
        have q585 := Nq.new h290.fpb z583
        have q586 := Nq.madeO z583 h290.blt
        replace h290 := h290.ext hx580
        have hE587 := Ext.trans hE563 hx580
        have q588 := Zn.upD z583 hE563
        refine op_g ha rfl (g_lenO sl52.und h582 rfl) ?_; clear ha a; intro a ha; refine op_g ha rfl (g_move rfl) ?_; clear ha a; intro a ha; refine wpList_nil ?_; replace ha := ha.sub (σ' := [(0, va0), (1, (.int .i64 i286)), (2, va2), (7, (.int .u32 (BitVec.toNat u288 : Int))), (8, v293), (32, v578), (33, (.int .i64 (x576.length : Int))), (34, (.int .i64 0))]) ⟨rfl, rfl, rfl, rfl, rfl, rfl, rfl, rfl, trivial⟩; refine e_then ?_; obtain ⟨o717, ho718, hK719⟩ := bnd_some hF
        obtain ⟨n720, hn721⟩ := lp_some ho718; clear ho718
        refine c_loop (fun a w => ∃ (i712 : Int), Fr 58 [(0, va0), (1, (.int .i64 i712)), (2, va2), (7, (.int .u32 (BitVec.toNat u288 : Int))), (8, v293)] a ∧ Chg [] W w ∧ InI i712 ∧ Ow Rp.int 3 true w [] b294 v293 l292 ∧ Zn W b294 ∧ o717 = .inl i712) (fun n a w => ∃ (i656 : Int), Fr 58 [(0, va0), (1, (.int .i64 i286)), (2, va2), (7, (.int .u32 (BitVec.toNat u288 : Int))), (8, v293), (32, v578), (33, (.int .i64 (x576.length : Int))), (34, (.int .i64 i656))] a ∧ Chg [] W w ∧ InI i656 ∧ Ow Rp.int 3 true w [] b294 v293 l292 ∧ Zn W b294 ∧ Ow Rp.int 3 true w [] b581 v578 x576 ∧ Zn W b581 ∧ Nq (bl b294 ++ []) b581 ∧ Nq (bl b581 ++ []) b294 ∧ lpN (fun s => F_impl_tripFrom_l2 a2 i286 u288 x576 s) n i656 = some o717) n720 ⟨0, ha.sub ⟨rfl, rfl, rfl, rfl, rfl, rfl, rfl, rfl, trivial⟩, hE587, (show InI 0 from by decide), h290, z291, h582, q588, q585, q586, hn721⟩ ?_ ?_
        · rintro m725 a w649 ⟨i656, ha, hE660, hI657, h651, z652, h654, z655, q658, q659, hF⟩
          cases m725 with
          | zero => exact (lpN_zero hF).elim
          | succ m725 =>
            obtain ⟨z724, hF, hN723⟩ := lpN_succ hF
            have hF : F_impl_tripFrom_l2 a2 i286 u288 x576 i656 = some z724 := hF; unfold F_impl_tripFrom_l2 at hF
            refine wp_seq ?_; refine wp_region_lit ?_; refine op_g ha rfl (g_lss rfl rfl) ?_; clear ha a; intro a ha; refine wpList_nil ?_; replace ha := ha.sub (σ' := [(0, va0), (1, (.int .i64 i286)), (2, va2), (7, (.int .u32 (BitVec.toNat u288 : Int))), (8, v293), (32, v578), (33, (.int .i64 (x576.length : Int))), (34, (.int .i64 i656)), (35, (.bool (decide (i656 < (x576.length : Int)))))]) ⟨rfl, rfl, rfl, rfl, rfl, rfl, rfl, rfl, rfl, trivial⟩; refine e_then ?_; refine wp_seq ?_; refine c_cond (i656 < (x576.length : Int)) ha rfl (decide_eq_true_iff) (fun hp726 => ?_) (fun hp726 => ?_)
            · replace hF := if_t hp726 hF
              refine wp_skip ?_; refine e_then ?_; refine wp_seq ?_; refine wp_block ?_; refine wp_seq ?_; refine wp_region_lit ?_; obtain ⟨x727, g728, gx729, hF⟩ := idx_some hF
              obtain ⟨p730, cs731, f732, hf733, hpb734, hat735, hr736, hi737⟩ := h654.at g728 gx729
              obtain ⟨rfl, hI738, rfl⟩ := hr736
              refine op_g ha rfl (hi737.gives sl52 rfl rfl) ?_; clear ha a; intro a ha; refine op_g ha rfl (g_load Tryd.isAgg3 rfl hat735.one) ?_; clear ha a; intro a ha; refine op_g ha rfl (g_assign rfl) ?_; clear ha a; intro a ha; refine wpList_nil ?_; replace ha := ha.sub (σ' := [(0, va0), (1, (.int .i64 i286)), (2, va2), (7, (.int .u32 (BitVec.toNat u288 : Int))), (8, v293), (10, (.int .i64 x727)), (32, v578), (33, (.int .i64 (x576.length : Int))), (34, (.int .i64 i656))]) ⟨rfl, rfl, rfl, rfl, rfl, rfl, rfl, rfl, rfl, trivial⟩; refine e_then ?_; refine wp_seq ?_; refine wp_region_lit ?_; (iterate 3 refine op_g ha rfl (g_move rfl) ?_; clear ha a; intro a ha)
              obtain ⟨x739, hc740, hF⟩ := cal_some hF
              refine o_call ha rfl rfl Tryd.call33 (W_impl_one hI738 hc740) ?_; clear ha a; rintro v741 w742 ⟨rfl, hx743⟩ a ha
              replace h651 := h651.ext hx743
              replace h654 := h654.ext hx743
              have hE744 := Ext.trans hE660 hx743
              refine op_g ha rfl (g32_or (m := u288) (n := x739) rfl rfl) ?_; clear ha a; intro a ha; obtain ⟨x745, g746, gx747, hF⟩ := idx_some hF
              obtain ⟨p748, cs749, f750, hf751, hpb752, hat753, hr754, hi755⟩ := ha2.at g746 gx747
              obtain ⟨rfl, rfl⟩ := hr754
              refine op_g ha rfl (hi755.gives sl44 rfl rfl) ?_; clear ha a; intro a ha; refine op_g ha rfl (g_load0 hE744 Tryd.isAgg49 rfl hat753.one) ?_; clear ha a; intro a ha; refine op_g ha rfl (g_move rfl) ?_; clear ha a; intro a ha; obtain ⟨x756, hc757, hF⟩ := cal_some hF
              refine o_call ha rfl rfl Tryd.call56 (W_impl_vset_has hI738 hc757) ?_; clear ha a; rintro v758 w759 ⟨rfl, hx760⟩ a ha
              replace h651 := h651.ext hx760
              replace h654 := h654.ext hx760
              have hE761 := Ext.trans hE744 hx760
              refine wpList_nil ?_; replace ha := ha.sub (σ' := [(0, va0), (1, (.int .i64 i286)), (2, va2), (7, (.int .u32 (BitVec.toNat u288 : Int))), (8, v293), (10, (.int .i64 x727)), (32, v578), (33, (.int .i64 (x576.length : Int))), (34, (.int .i64 i656)), (46, (.bool x756))]) ⟨rfl, rfl, rfl, rfl, rfl, rfl, rfl, rfl, rfl, rfl, trivial⟩; refine e_then ?_; refine c_cond (x756 = true) ha rfl (Iff.rfl) (fun hp762 => ?_) (fun hp762 => ?_)
              · replace hF := if_t hp762 hF
                refine wp_seq ?_; refine wp_region_lit ?_; refine op_g ha rfl (g_move rfl) ?_; clear ha a; intro a ha; refine op_g ha rfl (g_assign rfl) ?_; clear ha a; intro a ha; refine wpList_nil ?_; replace ha := ha.sub (σ' := [(0, va0), (1, (.int .i64 x727)), (2, va2), (7, (.int .u32 (BitVec.toNat u288 : Int))), (8, v293)]) ⟨rfl, rfl, rfl, rfl, rfl, trivial⟩; refine e_then ?_; refine wp_exit ?_; refine e_blk_ne rfl ?_; refine e_then_exit ?_; refine e_lq_eq ?_; obtain rfl := Option.some.inj hF
                exact ⟨x727, ha.sub ⟨rfl, rfl, rfl, rfl, rfl, trivial⟩, hE761, hI738, h651, z652, (LK_inr hN723).symm⟩
              replace hF := if_f hp762 hF; refine wp_skip ?_; refine e_blk ?_; refine e_then ?_; refine wp_region_lit ?_; obtain ⟨hI763, hF⟩ := ck_some hF; refine op_g ha rfl (g_add rfl rfl hI763) ?_; clear ha a; intro a ha; refine op_g ha rfl (g_move rfl) ?_; clear ha a; intro a ha; refine wpList_nil ?_; replace ha := ha.sub (σ' := [(0, va0), (1, (.int .i64 i286)), (2, va2), (7, (.int .u32 (BitVec.toNat u288 : Int))), (8, v293), (32, v578), (33, (.int .i64 (x576.length : Int))), (34, (.int .i64 (i656 + 1)))]) ⟨rfl, rfl, rfl, rfl, rfl, rfl, rfl, rfl, trivial⟩; refine e_lq ?_; obtain rfl := Option.some.inj hF
              exact ⟨_, Nat.lt_succ_self _, i656 + 1, ha.sub ⟨rfl, rfl, rfl, rfl, rfl, rfl, rfl, rfl, trivial⟩, hE761, hI763, h651, z652, h654, z655, q658, q659, hN723⟩
            replace hF := if_f hp726 hF; refine wp_exit ?_; refine e_then_exit ?_; refine e_lq_eq ?_; obtain rfl := Option.some.inj hF
            exact ⟨i286, ha.sub ⟨rfl, rfl, rfl, rfl, rfl, trivial⟩, hE660, hI287, h651, z652, (LK_inr hN723).symm⟩
        rintro a w711 ⟨i712, ha, hE722, hI713, h715, z716, rfl⟩
        have hF : F_impl_tripFrom_k3 u288 l292 i712 = some _ := hK719; clear hK719; unfold F_impl_tripFrom_k3 at hF
        refine e_then ?_; refine wp_seq ?_; refine wp_region_lit ?_; (iterate 2 refine op_g ha rfl (g_move rfl) ?_; clear ha a; intro a ha); obtain ⟨x765, hc766, hF⟩ := cal_some hF
        refine o_call ha rfl rfl Tryd.call33 (W_impl_one hI713 hc766) ?_; clear ha a; rintro v767 w768 ⟨rfl, hx769⟩ a ha
        replace h715 := h715.ext hx769
        have hE770 := Ext.trans hE722 hx769
        refine op_g ha rfl (g32_or (m := u288) (n := x765) rfl rfl) ?_; clear ha a; intro a ha; refine op_g ha rfl (g_assign rfl) ?_; clear ha a; intro a ha; refine wpList_nil ?_; replace ha := ha.sub (σ' := [(0, va0), (1, (.int .i64 i712)), (2, va2), (7, (.int .u32 (BitVec.toNat (u288 ||| x765) : Int))), (8, v293)]) ⟨rfl, rfl, rfl, rfl, rfl, trivial⟩; refine e_then ?_; refine wp_region_lit ?_; (iterate 2 refine op_g ha rfl (g_move rfl) ?_; clear ha a; intro a ha)
        refine o_lit1 (o := true) (y := i712) Rp.int ha rfl sl52 rfl rfl rfl ⟨rfl, hI713, rfl⟩ ?_; clear ha a; intro v771 w772 h773 hx774 a ha
        obtain ⟨b776, hb776⟩ : ∃ b : Int, b = w768.heap.size := ⟨_, rfl⟩; rw [← hb776] at h773
        have q777 := zn_of hb776
        have q778 := Nq.new h715.fpb q777
        have q779 := Nq.madeO q777 h715.blt
        have q780 := Zn.upD q777 hE770
        replace h715 := h715.ext hx774
        have hE781 := Ext.trans hE770 hx774
        obtain ⟨hl782, hF⟩ := app_some hF
        refine o_append ha rfl sl52 rfl rfl rfl h715 h773.src (Nq.nil _) hl782 ?_; clear ha a; intro v783 w784 b785 h786 hc787 hb788 a ha
        replace h786 : Ow Rp.int 3 true w784 [] b785 v783 _ := h786
        have q790 := Nq.appY q779 h773.fpb hb788
        have q791 := Nq.appX q778 (Nq.nil _) hb788 h773.blt
        have q792 := Zn.appD z716 hb788 hE781
        replace h773 := h773.nq hc787 q779
        have hE793 := Ext.then hE781 hc787 (Zn.bl z716)
        refine op_g ha rfl (g_assign rfl) ?_; clear ha a; intro a ha; refine wpList_nil ?_; replace ha := ha.sub (σ' := [(0, va0), (1, (.int .i64 i712)), (2, va2), (7, (.int .u32 (BitVec.toNat (u288 ||| x765) : Int))), (8, v783)]) ⟨rfl, rfl, rfl, rfl, rfl, trivial⟩; refine e_blk ?_; refine e_lq ?_; obtain rfl := Option.some.inj hF
        exact ⟨_, Nat.lt_succ_self _, i712, u288 ||| x765, (l292 ++ ([i712])), v783, b785, ha.sub ⟨rfl, rfl, rfl, rfl, rfl, trivial⟩, hE793, hI713, h786, q792, hN555⟩
      replace hF := if_f hp564 hF; refine wp_exit ?_; refine e_then_exit ?_; refine e_lq_eq ?_; obtain rfl := Option.some.inj hF
      exact ⟨l292, v293, b294, ha.sub ⟨rfl, trivial⟩, hE563, h290, z291, (LK_inr hN555).symm⟩
  rintro a w542 ⟨l546, v547, b548, ha, hE554, h544, z545, rfl⟩
  have hF : F_impl_tripFrom_k4 l546 = some _ := hK551; clear hK551; unfold F_impl_tripFrom_k4 at hF
  refine e_then ?_; refine wp_seq ?_; refine wp_region_lit ?_; refine op_g ha rfl (g_move rfl) ?_; clear ha a; intro a ha; refine op_g ha rfl (g_assign rfl) ?_; clear ha a; intro a ha; refine wpList_nil ?_; replace ha := ha.sub (σ' := [(6, v547)]) ⟨rfl, trivial⟩; refine e_then ?_; refine wp_ret ?_; obtain ⟨hz794, hF⟩ := grd_some hF; obtain rfl := Option.some.inj hF
  exact f_ret1 ha rfl rfl ⟨_, h544, z545, (.inr hz794), hE554⟩
set_option maxHeartbeats 2000000 in
theorem W_impl_wide {W : World} {va0 : Value} {fa0 : List Nat} {a0 : (List Int)} (ha0 : Ro Rp.int W fa0 va0 a0) {r : (List Int)} (hF : F_impl_wide a0 = some r) :
    Calls Tryd.prog 43 [va0].toArray W (Ret fun u w' => ∃ (b_u : Int), Ow Rp.int 2 true w' [] b_u u r ∧ Zn W b_u ∧ Ext W w') := by
  refine f_enter Tryd.func43 rfl Tryd.ntmps43 rfl ?_
  intro a ha
  replace ha : Fr 21 [(0, va0)] a := ha
  have hE : Chg [] W W := Chg.refl _ _
  unfold F_impl_wide at hF
  refine wp_seq ?_; refine wp_region_lit ?_; refine op_g ha rfl (g_assign rfl) ?_; clear ha a; intro a ha; refine wpList_nil ?_; replace ha := ha.sub (σ' := [(0, va0)]) ⟨rfl, trivial⟩; refine e_then ?_; refine wp_seq ?_; refine wp_region_lit ?_; refine op_g ha rfl (g_move rfl) ?_; clear ha a; intro a ha; refine op_g ha rfl (g_lenR sl52.und ha0 rfl) ?_; clear ha a; intro a ha; obtain ⟨g5, hF⟩ := grd_some hF
  refine o_make0 Rp.int ha rfl sl35 rfl rfl rfl g5.1 g5.2 ?_; clear ha a; intro v1 w2 h3 hx4 a ha
  obtain ⟨b7, hb7⟩ : ∃ b : Int, b = W.heap.size := ⟨_, rfl⟩; rw [← hb7] at h3
  have q8 := zn_of hb7
  have q9 := Zn.upD q8 hE
  have hE10 := Ext.trans hE hx4
  refine op_g ha rfl (g_assign rfl) ?_; clear ha a; intro a ha; refine wpList_nil ?_; replace ha := ha.sub (σ' := [(0, va0), (3, v1)]) ⟨rfl, rfl, trivial⟩; refine e_then ?_; refine wp_seq ?_; refine wp_seq ?_; refine wp_region_lit ?_; refine op_g ha rfl (g_move rfl) ?_; clear ha a; intro a ha; refine op_g ha rfl (g_lenR sl52.und ha0 rfl) ?_; clear ha a; intro a ha; refine op_g ha rfl (g_move rfl) ?_; clear ha a; intro a ha; refine wpList_nil ?_; replace ha := ha.sub (σ' := [(3, v1), (9, va0), (10, (.int .i64 (a0.length : Int))), (11, (.int .i64 0))]) ⟨rfl, rfl, rfl, rfl, trivial⟩; refine e_then ?_
  obtain ⟨o127, ho128, hK129⟩ := bnd_some hF
  obtain ⟨n130, hn131⟩ := lp_some ho128; clear ho128
  refine c_loop (fun a w => ∃ (l124 : (List Int)) (v125 : Value) (b126 : Int), Fr 21 [(3, v125)] a ∧ Chg [] W w ∧ Ow Rp.int 2 true w [] b126 v125 l124 ∧ Zn W b126 ∧ o127 = .inl l124) (fun n a w => ∃ (l67 : (List Int)) (i70 : Int) (v68 : Value) (b69 : Int), Fr 21 [(3, v68), (9, va0), (10, (.int .i64 (a0.length : Int))), (11, (.int .i64 i70))] a ∧ Chg [] W w ∧ InI i70 ∧ Ow Rp.int 2 true w [] b69 v68 l67 ∧ Zn W b69 ∧ lpN (fun s => F_impl_wide_l1 a0 s.1 s.2) n (l67, i70) = some o127) n130 ⟨([] : (List Int)), 0, v1, b7, ha.sub ⟨rfl, rfl, rfl, rfl, trivial⟩, hE10, (show InI 0 from by decide), h3, q9, hn131⟩ ?_ ?_
  · rintro m135 a w63 ⟨l67, i70, v68, b69, ha, hE72, hI71, h65, z66, hF⟩
    cases m135 with
    | zero => exact (lpN_zero hF).elim
    | succ m135 =>
      obtain ⟨z134, hF, hN133⟩ := lpN_succ hF
      have hF : F_impl_wide_l1 a0 l67 i70 = some z134 := hF; unfold F_impl_wide_l1 at hF
      refine wp_seq ?_; refine wp_region_lit ?_; refine op_g ha rfl (g_lss rfl rfl) ?_; clear ha a; intro a ha; refine wpList_nil ?_; replace ha := ha.sub (σ' := [(3, v68), (9, va0), (10, (.int .i64 (a0.length : Int))), (11, (.int .i64 i70)), (12, (.bool (decide (i70 < (a0.length : Int)))))]) ⟨rfl, rfl, rfl, rfl, rfl, trivial⟩; refine e_then ?_; refine wp_seq ?_; refine c_cond (i70 < (a0.length : Int)) ha rfl (decide_eq_true_iff) (fun hp136 => ?_) (fun hp136 => ?_)
      · replace hF := if_t hp136 hF
        refine wp_skip ?_; refine e_then ?_; refine wp_seq ?_; refine wp_block ?_; refine wp_seq ?_; refine wp_region_lit ?_; obtain ⟨x137, g138, gx139, hF⟩ := idx_some hF
        obtain ⟨p140, cs141, f142, hf143, hpb144, hat145, hr146, hi147⟩ := ha0.at g138 gx139
        obtain ⟨rfl, hI148, rfl⟩ := hr146
        refine op_g ha rfl (hi147.gives sl52 rfl rfl) ?_; clear ha a; intro a ha; refine op_g ha rfl (g_load0 hE72 Tryd.isAgg3 rfl hat145.one) ?_; clear ha a; intro a ha; refine op_g ha rfl (g_assign rfl) ?_; clear ha a; intro a ha; refine wpList_nil ?_; replace ha := ha.sub (σ' := [(3, v68), (5, (.int .i64 x137)), (9, va0), (10, (.int .i64 (a0.length : Int))), (11, (.int .i64 i70))]) ⟨rfl, rfl, rfl, rfl, rfl, trivial⟩; refine e_then ?_; refine wp_region_lit ?_; (iterate 2 refine op_g ha rfl (g_move rfl) ?_; clear ha a; intro a ha)
        refine o_lit1 (o := true) (y := x137) Rp.int ha rfl sl35 rfl rfl rfl ⟨rfl, hI148, rfl⟩ ?_; clear ha a; intro v149 w150 h151 hx152 a ha
        obtain ⟨b154, hb154⟩ : ∃ b : Int, b = w63.heap.size := ⟨_, rfl⟩; rw [← hb154] at h151
        have q155 := zn_of hb154
        have q156 := Nq.new h65.fpb q155
        have q157 := Nq.madeO q155 h65.blt
        have q158 := Zn.upD q155 hE72
        replace h65 := h65.ext hx152
        have hE159 := Ext.trans hE72 hx152
        obtain ⟨hl160, hF⟩ := app_some hF
        refine o_append ha rfl sl35 rfl rfl rfl h65 h151.src (Nq.nil _) hl160 ?_; clear ha a; intro v161 w162 b163 h164 hc165 hb166 a ha
        replace h164 : Ow Rp.int 2 true w162 [] b163 v161 _ := h164
        have q168 := Nq.appY q157 h151.fpb hb166
        have q169 := Nq.appX q156 (Nq.nil _) hb166 h151.blt
        have q170 := Zn.appD z66 hb166 hE159
        replace h151 := h151.nq hc165 q157
        have hE171 := Ext.then hE159 hc165 (Zn.bl z66)
        refine op_g ha rfl (g_assign rfl) ?_; clear ha a; intro a ha; refine wpList_nil ?_; replace ha := ha.sub (σ' := [(3, v161), (9, va0), (10, (.int .i64 (a0.length : Int))), (11, (.int .i64 i70))]) ⟨rfl, rfl, rfl, rfl, trivial⟩; refine e_blk ?_; refine e_then ?_; refine wp_region_lit ?_; obtain ⟨hI172, hF⟩ := ck_some hF; refine op_g ha rfl (g_add rfl rfl hI172) ?_; clear ha a; intro a ha; refine op_g ha rfl (g_move rfl) ?_; clear ha a; intro a ha; refine wpList_nil ?_; replace ha := ha.sub (σ' := [(3, v161), (9, va0), (10, (.int .i64 (a0.length : Int))), (11, (.int .i64 (i70 + 1)))]) ⟨rfl, rfl, rfl, rfl, trivial⟩
        refine e_lq ?_; obtain rfl := Option.some.inj hF
        exact ⟨_, Nat.lt_succ_self _, (l67 ++ ([x137])), i70 + 1, v161, b163, ha.sub ⟨rfl, rfl, rfl, rfl, trivial⟩, hE171, hI172, h164, q170, hN133⟩
      replace hF := if_f hp136 hF; refine wp_exit ?_; refine e_then_exit ?_; refine e_lq_eq ?_; obtain rfl := Option.some.inj hF
      exact ⟨l67, v68, b69, ha.sub ⟨rfl, trivial⟩, hE72, h65, z66, (LK_inr hN133).symm⟩
  rintro a w120 ⟨l124, v125, b126, ha, hE132, h122, z123, rfl⟩
  have hF : F_impl_wide_k2 l124 = some _ := hK129; clear hK129; unfold F_impl_wide_k2 at hF
  refine e_then ?_; refine wp_seq ?_; refine wp_region_lit ?_; refine op_g ha rfl (g_move rfl) ?_; clear ha a; intro a ha; refine op_g ha rfl (g_assign rfl) ?_; clear ha a; intro a ha; refine wpList_nil ?_; replace ha := ha.sub (σ' := [(2, v125)]) ⟨rfl, trivial⟩; refine e_then ?_; refine wp_ret ?_; obtain rfl := Option.some.inj hF
  exact f_ret1 ha rfl rfl ⟨_, h122, z123, hE132⟩
set_option maxHeartbeats 2000000 in
theorem W_impl_RoundTrip {W : World} {va0_0 : Value} {fa0_0 : List Nat} {a0_0 : (List (List Int))} (ha0_0 : Ro (Rp.sl 2 Rp.int) W fa0_0 va0_0 a0_0) (hG : GT 0 W) {r : ((List Int) × Bool)} (hF : F_impl_RoundTrip a0_0 = some r) :
    Calls Tryd.prog 18 [.agg #[va0_0]].toArray W (Ret fun u w' => ∃ (u0 : Value) (u1 : Value) (b_u0 : Int), u = .tuple #[u0, u1] ∧ Ow Rp.int 2 true w' [] b_u0 u0 r.1 ∧ Zn W b_u0 ∧ u1 = .bool r.2 ∧ Ext W w') := by
  refine f_enter Tryd.func18 rfl Tryd.ntmps18 rfl ?_
  intro a ha
  replace ha : Fr 28 [(0, (.agg #[va0_0]))] a := ha
  have hE : Chg [] W W := Chg.refl _ _
  unfold F_impl_RoundTrip at hF
  refine wp_seq ?_; refine wp_region_lit ?_
  refine o_box ha rfl rfl rfl ?_; clear ha a; intro b1 w2 hB3 hx4 hlo5 a ha
  have q6 := Zn.one hlo5
  have q7 := Zn.upD q6 hE
  have hE8 := Ext.trans hE hx4
  (iterate 2 refine op_g ha rfl (g_assign rfl) ?_; clear ha a; intro a ha); refine wpList_nil ?_; replace ha := ha.sub (σ' := [(1, (.pointer (some ⟨b1, 0, none⟩)))]) ⟨rfl, trivial⟩; refine e_then ?_; refine wp_seq ?_; refine wp_seq ?_; refine wp_region_lit ?_; refine op_g ha rfl (g_loadA (cs := [va0_0]) Tryd.isAgg27 Tryd.sizeOf27 rfl (by simp) hB3.all) ?_; clear ha a; intro a ha; obtain ⟨x17, hc18, hF⟩ := cal_some hF
  refine o_call ha rfl rfl Tryd.call29 (W_impl_GraphOk (ha0_0.ext hE8) hc18) ?_; clear ha a; rintro v19 w20 ⟨rfl, hx21⟩ a ha
  replace hB3 := hB3.ext hx21
  have hE22 := Ext.trans hE8 hx21
  refine op_g ha rfl (g_not rfl) ?_; clear ha a; intro a ha; refine op_g ha rfl (g_move rfl) ?_; clear ha a; intro a ha
  by_cases hp23 : ¬ (x17 = true)
  · replace hF := if_t hp23 hF
    rw [show (!x17) = true from (n_iff (Iff.rfl)).2 hp23] at ha
    (iterate 4 refine op_unwant ha rfl (yields ha rfl rfl) rfl ?_; clear ha a; intro a ha); refine op_g ha rfl (g_pick rfl rfl) ?_; clear ha a; intro a ha; refine wpList_nil ?_; replace ha := ha.sub (σ' := [(1, (.pointer (some ⟨b1, 0, none⟩))), (14, (.bool true))]) ⟨rfl, rfl, trivial⟩; refine e_then ?_; refine c_true ha rfl ?_; refine wp_seq ?_; refine wp_region_lit ?_; (iterate 2 refine op_g ha rfl (g_assign rfl) ?_; clear ha a; intro a ha); refine wpList_nil ?_; replace ha := ha.sub (σ' := [(2, (.slice none 0 0)), (3, (.bool false))]) ⟨rfl, rfl, trivial⟩; refine e_then ?_; refine wp_ret ?_; refine e_then_ret ?_
    obtain rfl := Option.some.inj hF
    exact f_ret2 ha rfl rfl rfl ⟨_, _, -1, rfl, (Ow.nil (by decide)), (.inl (by decide)), rfl, hE22⟩
  replace hF := if_f hp23 hF
  rw [show (!x17) = false from b_false (n_iff (Iff.rfl)) hp23] at ha
  refine op_want (yields ha rfl rfl) ?_; refine op_g ha rfl (g_field0 st27_0 rfl) ?_; clear ha a; intro a ha; refine op_want (yields ha rfl rfl) ?_; refine op_g ha rfl (g_load Tryd.isAgg22 rfl (hB3.cell rfl)) ?_; clear ha a; intro a ha; refine op_want (yields ha rfl rfl) ?_; refine op_g ha rfl (g_lenR sl22.und ha0_0 rfl) ?_; clear ha a; intro a ha; refine op_want (yields ha rfl rfl) ?_; refine op_g ha rfl (g_lss rfl rfl) ?_; clear ha a; intro a ha; refine op_g ha rfl (g_pick rfl rfl) ?_; clear ha a; intro a ha; refine wpList_nil ?_; replace ha := ha.sub (σ' := [(1, (.pointer (some ⟨b1, 0, none⟩))), (14, (.bool (decide ((a0_0.length : Int) < 3))))]) ⟨rfl, rfl, trivial⟩
  refine e_then ?_; refine c_cond ((a0_0.length : Int) < 3) ha rfl (decide_eq_true_iff) (fun hp24 => ?_) (fun hp24 => ?_)
  · replace hF := if_t hp24 hF
    refine wp_seq ?_; refine wp_region_lit ?_; (iterate 2 refine op_g ha rfl (g_assign rfl) ?_; clear ha a; intro a ha); refine wpList_nil ?_; replace ha := ha.sub (σ' := [(2, (.slice none 0 0)), (3, (.bool false))]) ⟨rfl, rfl, trivial⟩; refine e_then ?_; refine wp_ret ?_; refine e_then_ret ?_; obtain rfl := Option.some.inj hF
    exact f_ret2 ha rfl rfl rfl ⟨_, _, -1, rfl, (Ow.nil (by decide)), (.inl (by decide)), rfl, hE22⟩
  replace hF := if_f hp24 hF; refine wp_skip ?_; refine e_then ?_; refine wp_seq ?_; refine wp_region_lit ?_; refine op_g ha rfl (g_loadA (cs := [va0_0]) Tryd.isAgg27 Tryd.sizeOf27 rfl (by simp) hB3.all) ?_; clear ha a; intro a ha; obtain ⟨x25, hc26, hF⟩ := cal_some hF
  refine o_call ha rfl rfl Tryd.call30 (W_impl_netsOf (ha0_0.ext hE22) hc26) ?_; clear ha a; rintro v27 w28 ⟨b30, h31, z32, hx29⟩ a ha
  have q34 := Nq.new hB3.fpb z32
  have q35 := Nq.madeO z32 hB3.bi
  replace hB3 := hB3.ext hx29
  have hE36 := Ext.trans hE22 hx29
  have q37 := Zn.upD z32 hE22
  refine op_g ha rfl (g_assign rfl) ?_; clear ha a; intro a ha; refine wpList_nil ?_; replace ha := ha.sub (σ' := [(4, v27)]) ⟨rfl, trivial⟩; refine e_then ?_; refine wp_seq ?_; refine wp_region_lit ?_; (iterate 3 refine op_g ha rfl (g_move rfl) ?_; clear ha a; intro a ha); obtain ⟨x38, g39, gx40, hF⟩ := idx_some hF
  obtain ⟨p41, cs42, f43, hf44, hpb45, hat46, hr47, hi48⟩ := h31.at g39 gx40
  obtain ⟨rfl, rfl⟩ := hr47
  refine op_g ha rfl (hi48.gives sl45 rfl rfl) ?_; clear ha a; intro a ha; refine op_g ha rfl (g_load Tryd.isAgg49 rfl hat46.one) ?_; clear ha a; intro a ha
  obtain ⟨fp49, hro50, hs51⟩ := h31.roF
  obtain ⟨x52, hc53, hF⟩ := cal_some hF
  refine o_call ha rfl rfl Tryd.call42 (W_impl_endings hro50 (hG.ext hE36) hc53) ?_; clear ha a; rintro v54 w55 ⟨b57, h58, z59, hx56⟩ a ha
  have q61 := Nq.new h31.fpb z59
  have q62 := Nq.madeO z59 h31.blt
  replace h31 := h31.ext hx56
  have hE63 := Ext.trans hE36 hx56
  have q64 := Zn.upD z59 hE36
  obtain ⟨fp65, hro66, hs67⟩ := h31.roF
  obtain ⟨fp68, hro69, hs70⟩ := h58.roF
  obtain ⟨x71, hc72, hF⟩ := cal_some hF
  refine o_call ha rfl rfl Tryd.call41 (W_impl_tripFrom hro66 (show InI 0 from by decide) hro69 (hG.ext hE63) hc72) ?_; clear ha a; rintro v73 w74 ⟨b76, h77, z78, hz80, hx75⟩ a ha
  have q81 := Nq.new h31.fpb z78
  have q82 := Nq.madeO z78 h31.blt
  have q83 := Nq.new h58.fpb z78
  have q84 := Nq.madeO z78 h58.blt
  replace h31 := h31.ext hx75
  replace h58 := h58.ext hx75
  have hE85 := Ext.trans hE63 hx75
  have q86 := Zn.upD z78 hE63
  refine op_g ha rfl (g_assign rfl) ?_; clear ha a; intro a ha; refine wpList_nil ?_; replace ha := ha.sub (σ' := [(5, v73)]) ⟨rfl, trivial⟩; refine e_then ?_; refine wp_seq ?_; refine wp_seq ?_; refine wp_region_lit ?_; refine op_g ha rfl (g_move rfl) ?_; clear ha a; intro a ha; refine op_g ha rfl (g_nilz sl52.und rfl h77 hz80) ?_; clear ha a; intro a ha; refine wpList_nil ?_; replace ha := ha.sub (σ' := [(5, v73), (25, (.bool (List.isEmpty x71)))]) ⟨rfl, rfl, trivial⟩; refine e_then ?_; refine c_cond (x71 = []) ha rfl (List.isEmpty_iff) (fun hp87 => ?_) (fun hp87 => ?_)
  · replace hF := if_t hp87 hF
    refine wp_seq ?_; refine wp_region_lit ?_; (iterate 2 refine op_g ha rfl (g_assign rfl) ?_; clear ha a; intro a ha); refine wpList_nil ?_; replace ha := ha.sub (σ' := [(2, (.slice none 0 0)), (3, (.bool false))]) ⟨rfl, rfl, trivial⟩; refine e_then ?_; refine wp_ret ?_; refine e_then_ret ?_; obtain rfl := Option.some.inj hF
    exact f_ret2 ha rfl rfl rfl ⟨_, _, -1, rfl, (Ow.nil (by decide)), (.inl (by decide)), rfl, hE85⟩
  replace hF := if_f hp87 hF; refine wp_skip ?_; refine e_then ?_; refine wp_seq ?_; refine wp_region_lit ?_; refine op_g ha rfl (g_move rfl) ?_; clear ha a; intro a ha
  obtain ⟨fp88, hro89, hs90⟩ := h77.roF
  obtain ⟨x91, hc92, hF⟩ := cal_some hF
  refine o_call ha rfl rfl Tryd.call43 (W_impl_wide hro89 hc92) ?_; clear ha a; rintro v93 w94 ⟨b96, h97, z98, hx95⟩ a ha
  have q100 := Nq.new h77.fpb z98
  have q101 := Nq.madeO z98 h77.blt
  replace h77 := h77.ext hx95
  have hE102 := Ext.trans hE85 hx95
  have q103 := Zn.upD z98 hE85
  (iterate 2 refine op_g ha rfl (g_assign rfl) ?_; clear ha a; intro a ha); refine wpList_nil ?_; replace ha := ha.sub (σ' := [(2, v93), (3, (.bool true))]) ⟨rfl, rfl, trivial⟩; refine e_then ?_; refine wp_ret ?_; obtain rfl := Option.some.inj hF
  exact f_ret2 ha rfl rfl rfl ⟨_, _, _, rfl, h97, q103, rfl, hE102⟩
set_option maxHeartbeats 2000000 in
theorem W_laws_eqInt64S {W : World} {va0 : Value} {fa0 : List Nat} {a0 : (List Int)} (ha0 : Ro Rp.int W fa0 va0 a0) {va1 : Value} {fa1 : List Nat} {a1 : (List Int)} (ha1 : Ro Rp.int W fa1 va1 a1) {r : Bool} (hF : F_laws_eqInt64S a0 a1 = some r) :
    Calls Tryd.prog 19 [va0, va1].toArray W (Ret fun u w' => u = .bool r ∧ Ext W w') := by
  refine f_enter Tryd.func19 rfl Tryd.ntmps19 rfl ?_
  intro a ha
  replace ha : Fr 26 [(0, va0), (1, va1)] a := ha
  have hE : Chg [] W W := Chg.refl _ _
  unfold F_laws_eqInt64S at hF
  refine wp_seq ?_; refine wp_region_lit ?_; refine op_g ha rfl (g_assign rfl) ?_; clear ha a; intro a ha; refine wpList_nil ?_; replace ha := ha.sub (σ' := [(0, va0), (1, va1)]) ⟨rfl, rfl, trivial⟩; refine e_then ?_; refine wp_seq ?_; refine wp_seq ?_; refine wp_region_lit ?_; refine op_g ha rfl (g_move rfl) ?_; clear ha a; intro a ha; refine op_g ha rfl (g_lenR sl35.und ha0 rfl) ?_; clear ha a; intro a ha; refine op_g ha rfl (g_move rfl) ?_; clear ha a; intro a ha; refine op_g ha rfl (g_lenR sl35.und ha1 rfl) ?_; clear ha a; intro a ha; refine op_g ha rfl (g_neq rfl rfl) ?_; clear ha a; intro a ha
  refine wpList_nil ?_; replace ha := ha.sub (σ' := [(0, va0), (1, va1), (10, (.bool (decide ((a0.length : Int) ≠ (a1.length : Int)))))]) ⟨rfl, rfl, rfl, trivial⟩; refine e_then ?_; refine c_cond ((a0.length : Int) ≠ (a1.length : Int)) ha rfl (decide_eq_true_iff) (fun hp1 => ?_) (fun hp1 => ?_)
  · replace hF := if_t hp1 hF
    refine wp_seq ?_; refine wp_region_lit ?_; refine op_g ha rfl (g_assign rfl) ?_; clear ha a; intro a ha; refine wpList_nil ?_; replace ha := ha.sub (σ' := [(4, (.bool false))]) ⟨rfl, trivial⟩; refine e_then ?_; refine wp_ret ?_; refine e_then_ret ?_; obtain rfl := Option.some.inj hF
    exact f_ret1 ha rfl rfl ⟨rfl, hE⟩
  replace hF := if_f hp1 hF; refine wp_skip ?_; refine e_then ?_; refine wp_seq ?_; refine wp_seq ?_; refine wp_region_lit ?_; refine op_g ha rfl (g_assign rfl) ?_; clear ha a; intro a ha; refine wpList_nil ?_; replace ha := ha.sub (σ' := [(0, va0), (1, va1), (5, (.int .i64 0))]) ⟨rfl, rfl, rfl, trivial⟩; refine e_then ?_; obtain ⟨o77, ho78, hK79⟩ := bnd_some hF
  obtain ⟨n80, hn81⟩ := lp_some ho78; clear ho78
  refine c_loop (fun a w => Fr 26 [] a ∧ Chg [] W w ∧ o77 = .inl ()) (fun n a w => ∃ (i39 : Int), Fr 26 [(0, va0), (1, va1), (5, (.int .i64 i39))] a ∧ Chg [] W w ∧ InI i39 ∧ lpN (fun s => F_laws_eqInt64S_l1 a0 a1 s) n i39 = some o77) n80 ⟨0, ha.sub ⟨rfl, rfl, rfl, trivial⟩, hE, (show InI 0 from by decide), hn81⟩ ?_ ?_
  · rintro m85 a w38 ⟨i39, ha, hE41, hI40, hF⟩
    cases m85 with
    | zero => exact (lpN_zero hF).elim
    | succ m85 =>
      obtain ⟨z84, hF, hN83⟩ := lpN_succ hF
      have hF : F_laws_eqInt64S_l1 a0 a1 i39 = some z84 := hF; unfold F_laws_eqInt64S_l1 at hF
      refine wp_seq ?_; refine wp_seq ?_; refine wp_region_lit ?_; (iterate 2 refine op_g ha rfl (g_move rfl) ?_; clear ha a; intro a ha); refine op_g ha rfl (g_lenR sl35.und ha0 rfl) ?_; clear ha a; intro a ha; refine op_g ha rfl (g_lss rfl rfl) ?_; clear ha a; intro a ha; refine wpList_nil ?_; replace ha := ha.sub (σ' := [(0, va0), (1, va1), (5, (.int .i64 i39)), (14, (.bool (decide (i39 < (a0.length : Int)))))]) ⟨rfl, rfl, rfl, rfl, trivial⟩; refine e_then ?_; refine c_cond (i39 < (a0.length : Int)) ha rfl (decide_eq_true_iff) (fun hp86 => ?_) (fun hp86 => ?_)
      · replace hF := if_t hp86 hF
        refine wp_skip ?_; refine e_then ?_; refine wp_seq ?_; refine wp_block ?_; refine wp_seq ?_; refine d_quiet hmix (by kernel_rfl) ?_; (iterate 2 refine q_g ha rfl (g_move rfl) ?_; clear ha a; intro a ha); obtain ⟨x87, g88, gx89, hF⟩ := idx_some hF
        obtain ⟨p90, cs91, f92, hf93, hpb94, hat95, hr96, hi97⟩ := ha0.at g88 gx89
        obtain ⟨rfl, hI98, rfl⟩ := hr96
        refine q_g ha rfl (hi97.gives sl35 rfl rfl) ?_; clear ha a; intro a ha; refine q_g ha rfl (g_load0 hE41 Tryd.isAgg2 rfl hat95.one) ?_; clear ha a; intro a ha; (iterate 2 refine q_g ha rfl (g_move rfl) ?_; clear ha a; intro a ha); obtain ⟨x99, g100, gx101, hF⟩ := idx_some hF
        obtain ⟨p102, cs103, f104, hf105, hpb106, hat107, hr108, hi109⟩ := ha1.at g100 gx101
        obtain ⟨rfl, hI110, rfl⟩ := hr108
        refine q_g ha rfl (hi109.gives sl35 rfl rfl) ?_; clear ha a; intro a ha; refine q_g ha rfl (g_load0 hE41 Tryd.isAgg2 rfl hat107.one) ?_; clear ha a; intro a ha; refine q_g ha rfl (g_neq rfl rfl) ?_; clear ha a; intro a ha
        refine q_nil ?_; intro w111 hx112
        have hE113 := Ext.trans hE41 hx112
        replace ha := ha.sub (σ' := [(0, va0), (1, va1), (5, (.int .i64 i39)), (25, (.bool (decide (x87 ≠ x99))))]) ⟨rfl, rfl, rfl, rfl, trivial⟩; refine e_then ?_; refine c_cond (x87 ≠ x99) ha rfl (decide_eq_true_iff) (fun hp114 => ?_) (fun hp114 => ?_)
        · replace hF := if_t hp114 hF
          refine wp_seq ?_; refine wp_region_lit ?_; refine op_g ha rfl (g_assign rfl) ?_; clear ha a; intro a ha; refine wpList_nil ?_; replace ha := ha.sub (σ' := [(4, (.bool false))]) ⟨rfl, trivial⟩; refine e_then ?_; refine wp_ret ?_; refine e_blk_ret ?_; refine e_then_ret ?_; refine e_lq_ret ?_; refine e_then_ret ?_; obtain rfl := Option.some.inj hF
          have e115 := LK_inr hN83; subst e115
          have e116 := BK_inr hK79; subst e116
          exact f_ret1 ha rfl rfl ⟨rfl, hE113⟩
        replace hF := if_f hp114 hF; refine wp_skip ?_; refine e_blk ?_; refine e_then ?_; refine wp_region_lit ?_; refine op_g ha rfl (g_move rfl) ?_; clear ha a; intro a ha; obtain ⟨hI117, hF⟩ := ck_some hF; refine op_g ha rfl (g_add rfl rfl hI117) ?_; clear ha a; intro a ha; refine op_g ha rfl (g_assign rfl) ?_; clear ha a; intro a ha; refine wpList_nil ?_; replace ha := ha.sub (σ' := [(0, va0), (1, va1), (5, (.int .i64 (i39 + 1)))]) ⟨rfl, rfl, rfl, trivial⟩; refine e_lq ?_; obtain rfl := Option.some.inj hF
        exact ⟨_, Nat.lt_succ_self _, i39 + 1, ha.sub ⟨rfl, rfl, rfl, trivial⟩, hE113, hI117, hN83⟩
      replace hF := if_f hp86 hF; refine wp_exit ?_; refine e_then_exit ?_; refine e_lq_eq ?_; obtain rfl := Option.some.inj hF
      exact ⟨ha.sub trivial, hE41, (LK_inr hN83).symm⟩
  rintro a w76 ⟨ha, hE82, rfl⟩
  have hF : F_laws_eqInt64S_k2 = some _ := hK79; clear hK79; unfold F_laws_eqInt64S_k2 at hF
  refine e_then ?_; refine wp_seq ?_; refine wp_region_lit ?_; refine op_g ha rfl (g_assign rfl) ?_; clear ha a; intro a ha; refine wpList_nil ?_; refine e_then ?_; refine wp_ret ?_; obtain rfl := Option.some.inj hF
  exact f_ret1 ha rfl rfl ⟨rfl, hE82⟩
set_option maxHeartbeats 2000000 in
theorem W_laws_eqInt64SS {W : World} {va0 : Value} {fa0 : List Nat} {a0 : (List (List Int))} (ha0 : Ro (Rp.sl 2 Rp.int) W fa0 va0 a0) {va1 : Value} {fa1 : List Nat} {a1 : (List (List Int))} (ha1 : Ro (Rp.sl 2 Rp.int) W fa1 va1 a1) {r : Bool} (hF : F_laws_eqInt64SS a0 a1 = some r) :
    Calls Tryd.prog 13 [va0, va1].toArray W (Ret fun u w' => u = .bool r ∧ Ext W w') := by
  refine f_enter Tryd.func13 rfl Tryd.ntmps13 rfl ?_
  intro a ha
  replace ha : Fr 27 [(0, va0), (1, va1)] a := ha
  have hE : Chg [] W W := Chg.refl _ _
  unfold F_laws_eqInt64SS at hF
  refine wp_seq ?_; refine wp_region_lit ?_; refine op_g ha rfl (g_assign rfl) ?_; clear ha a; intro a ha; refine wpList_nil ?_; replace ha := ha.sub (σ' := [(0, va0), (1, va1)]) ⟨rfl, rfl, trivial⟩; refine e_then ?_; refine wp_seq ?_; refine wp_seq ?_; refine wp_region_lit ?_; refine op_g ha rfl (g_move rfl) ?_; clear ha a; intro a ha; refine op_g ha rfl (g_lenR sl22.und ha0 rfl) ?_; clear ha a; intro a ha; refine op_g ha rfl (g_move rfl) ?_; clear ha a; intro a ha; refine op_g ha rfl (g_lenR sl22.und ha1 rfl) ?_; clear ha a; intro a ha; refine op_g ha rfl (g_neq rfl rfl) ?_; clear ha a; intro a ha
  refine wpList_nil ?_; replace ha := ha.sub (σ' := [(0, va0), (1, va1), (10, (.bool (decide ((a0.length : Int) ≠ (a1.length : Int)))))]) ⟨rfl, rfl, rfl, trivial⟩; refine e_then ?_; refine c_cond ((a0.length : Int) ≠ (a1.length : Int)) ha rfl (decide_eq_true_iff) (fun hp1 => ?_) (fun hp1 => ?_)
  · replace hF := if_t hp1 hF
    refine wp_seq ?_; refine wp_region_lit ?_; refine op_g ha rfl (g_assign rfl) ?_; clear ha a; intro a ha; refine wpList_nil ?_; replace ha := ha.sub (σ' := [(4, (.bool false))]) ⟨rfl, trivial⟩; refine e_then ?_; refine wp_ret ?_; refine e_then_ret ?_; obtain rfl := Option.some.inj hF
    exact f_ret1 ha rfl rfl ⟨rfl, hE⟩
  replace hF := if_f hp1 hF; refine wp_skip ?_; refine e_then ?_; refine wp_seq ?_; refine wp_seq ?_; refine wp_region_lit ?_; refine op_g ha rfl (g_assign rfl) ?_; clear ha a; intro a ha; refine wpList_nil ?_; replace ha := ha.sub (σ' := [(0, va0), (1, va1), (5, (.int .i64 0))]) ⟨rfl, rfl, rfl, trivial⟩; refine e_then ?_; obtain ⟨o93, ho94, hK95⟩ := bnd_some hF
  obtain ⟨n96, hn97⟩ := lp_some ho94; clear ho94
  refine c_loop (fun a w => Fr 27 [] a ∧ Chg [] W w ∧ o93 = .inl ()) (fun n a w => ∃ (i47 : Int), Fr 27 [(0, va0), (1, va1), (5, (.int .i64 i47))] a ∧ Chg [] W w ∧ InI i47 ∧ lpN (fun s => F_laws_eqInt64SS_l1 a0 a1 s) n i47 = some o93) n96 ⟨0, ha.sub ⟨rfl, rfl, rfl, trivial⟩, hE, (show InI 0 from by decide), hn97⟩ ?_ ?_
  · rintro m101 a w46 ⟨i47, ha, hE49, hI48, hF⟩
    cases m101 with
    | zero => exact (lpN_zero hF).elim
    | succ m101 =>
      obtain ⟨z100, hF, hN99⟩ := lpN_succ hF
      have hF : F_laws_eqInt64SS_l1 a0 a1 i47 = some z100 := hF; unfold F_laws_eqInt64SS_l1 at hF
      refine wp_seq ?_; refine wp_seq ?_; refine wp_region_lit ?_; (iterate 2 refine op_g ha rfl (g_move rfl) ?_; clear ha a; intro a ha); refine op_g ha rfl (g_lenR sl22.und ha0 rfl) ?_; clear ha a; intro a ha; refine op_g ha rfl (g_lss rfl rfl) ?_; clear ha a; intro a ha; refine wpList_nil ?_; replace ha := ha.sub (σ' := [(0, va0), (1, va1), (5, (.int .i64 i47)), (14, (.bool (decide (i47 < (a0.length : Int)))))]) ⟨rfl, rfl, rfl, rfl, trivial⟩; refine e_then ?_; refine c_cond (i47 < (a0.length : Int)) ha rfl (decide_eq_true_iff) (fun hp102 => ?_) (fun hp102 => ?_)
      · replace hF := if_t hp102 hF
        refine wp_skip ?_; refine e_then ?_; refine wp_seq ?_; refine wp_block ?_; refine wp_seq ?_; refine d_quiet hmix (by kernel_rfl) ?_; (iterate 2 refine q_g ha rfl (g_move rfl) ?_; clear ha a; intro a ha); obtain ⟨x103, g104, gx105, hF⟩ := idx_some hF
        obtain ⟨p106, cs107, f108, hf109, hpb110, hat111, hr112, hi113⟩ := ha0.at g104 gx105
        obtain ⟨v114, rfl, h115⟩ := hr112
        have h115 : Ro Rp.int W f108 v114 x103 := h115
        refine q_g ha rfl (hi113.gives sl22 rfl rfl) ?_; clear ha a; intro a ha; refine q_g ha rfl (g_load0 hE49 Tryd.isAgg35 rfl hat111.one) ?_; clear ha a; intro a ha; (iterate 2 refine q_g ha rfl (g_move rfl) ?_; clear ha a; intro a ha); obtain ⟨x117, g118, gx119, hF⟩ := idx_some hF
        obtain ⟨p120, cs121, f122, hf123, hpb124, hat125, hr126, hi127⟩ := ha1.at g118 gx119
        obtain ⟨v128, rfl, h129⟩ := hr126
        have h129 : Ro Rp.int W f122 v128 x117 := h129
        refine q_g ha rfl (hi127.gives sl22 rfl rfl) ?_; clear ha a; intro a ha; refine q_g ha rfl (g_load0 hE49 Tryd.isAgg35 rfl hat125.one) ?_; clear ha a; intro a ha; obtain ⟨x133, hc134, hF⟩ := cal_some hF; refine q_call (.bool x133) ha rfl rfl Tryd.call19 (fun w132 hx131 => W_laws_eqInt64S (h115.ext (Ext.trans hE49 hx131)) (h129.ext (Ext.trans hE49 hx131)) hc134) (fun _ _ _ h => ⟨h.1, h.2⟩) ?_; clear ha a; intro a ha; refine q_g ha rfl (g_not rfl) ?_; clear ha a; intro a ha
        refine q_nil ?_; intro w135 hx136
        have hE137 := Ext.trans hE49 hx136
        replace ha := ha.sub (σ' := [(0, va0), (1, va1), (5, (.int .i64 i47)), (26, (.bool (!x133)))]) ⟨rfl, rfl, rfl, rfl, trivial⟩; refine e_then ?_; refine c_cond (¬ (x133 = true)) ha rfl (n_iff (Iff.rfl)) (fun hp138 => ?_) (fun hp138 => ?_)
        · replace hF := if_t hp138 hF
          refine wp_seq ?_; refine wp_region_lit ?_; refine op_g ha rfl (g_assign rfl) ?_; clear ha a; intro a ha; refine wpList_nil ?_; replace ha := ha.sub (σ' := [(4, (.bool false))]) ⟨rfl, trivial⟩; refine e_then ?_; refine wp_ret ?_; refine e_blk_ret ?_; refine e_then_ret ?_; refine e_lq_ret ?_; refine e_then_ret ?_; obtain rfl := Option.some.inj hF
          have e139 := LK_inr hN99; subst e139
          have e140 := BK_inr hK95; subst e140
          exact f_ret1 ha rfl rfl ⟨rfl, hE137⟩
        replace hF := if_f hp138 hF; refine wp_skip ?_; refine e_blk ?_; refine e_then ?_; refine wp_region_lit ?_; refine op_g ha rfl (g_move rfl) ?_; clear ha a; intro a ha; obtain ⟨hI141, hF⟩ := ck_some hF; refine op_g ha rfl (g_add rfl rfl hI141) ?_; clear ha a; intro a ha; refine op_g ha rfl (g_assign rfl) ?_; clear ha a; intro a ha; refine wpList_nil ?_; replace ha := ha.sub (σ' := [(0, va0), (1, va1), (5, (.int .i64 (i47 + 1)))]) ⟨rfl, rfl, rfl, trivial⟩; refine e_lq ?_; obtain rfl := Option.some.inj hF
        exact ⟨_, Nat.lt_succ_self _, i47 + 1, ha.sub ⟨rfl, rfl, rfl, trivial⟩, hE137, hI141, hN99⟩
      replace hF := if_f hp102 hF; refine wp_exit ?_; refine e_then_exit ?_; refine e_lq_eq ?_; obtain rfl := Option.some.inj hF
      exact ⟨ha.sub trivial, hE49, (LK_inr hN99).symm⟩
  rintro a w92 ⟨ha, hE98, rfl⟩
  have hF : F_laws_eqInt64SS_k2 = some _ := hK95; clear hK95; unfold F_laws_eqInt64SS_k2 at hF
  refine e_then ?_; refine wp_seq ?_; refine wp_region_lit ?_; refine op_g ha rfl (g_assign rfl) ?_; clear ha a; intro a ha; refine wpList_nil ?_; refine e_then ?_; refine wp_ret ?_; obtain rfl := Option.some.inj hF
  exact f_ret1 ha rfl rfl ⟨rfl, hE98⟩
set_option maxHeartbeats 2000000 in
theorem W_laws_eqGraph {W : World} {va0_0 : Value} {fa0_0 : List Nat} {a0_0 : (List (List Int))} (ha0_0 : Ro (Rp.sl 2 Rp.int) W fa0_0 va0_0 a0_0) {va1_0 : Value} {fa1_0 : List Nat} {a1_0 : (List (List Int))} (ha1_0 : Ro (Rp.sl 2 Rp.int) W fa1_0 va1_0 a1_0) {r : Bool} (hF : F_laws_eqGraph a0_0 a1_0 = some r) :
    Calls Tryd.prog 10 [.agg #[va0_0], .agg #[va1_0]].toArray W (Ret fun u w' => u = .bool r ∧ Ext W w') := by
  refine f_enter Tryd.func10 rfl Tryd.ntmps10 rfl ?_
  intro a ha
  replace ha : Fr 11 [(0, (.agg #[va0_0])), (1, (.agg #[va1_0]))] a := ha
  have hE : Chg [] W W := Chg.refl _ _
  unfold F_laws_eqGraph at hF
  refine wp_seq ?_; refine wp_region_lit ?_
  refine o_box ha rfl rfl rfl ?_; clear ha a; intro b1 w2 hB3 hx4 hlo5 a ha
  have q6 := Zn.one hlo5
  have q7 := Zn.upD q6 hE
  have hE8 := Ext.trans hE hx4
  refine o_box ha rfl rfl rfl ?_; clear ha a; intro b9 w10 hB11 hx12 hlo13 a ha
  have q14 := Zn.one hlo13
  have q15 := Nq.new hB3.fpb q14
  have q16 := Nq.made1 hlo13 hB3.bi
  have q17 := Zn.upD q14 hE8
  replace hB3 := hB3.ext hx12
  have hE18 := Ext.trans hE8 hx12
  refine op_g ha rfl (g_assign rfl) ?_; clear ha a; intro a ha; refine wpList_nil ?_; replace ha := ha.sub (σ' := [(2, (.pointer (some ⟨b1, 0, none⟩))), (3, (.pointer (some ⟨b9, 0, none⟩)))]) ⟨rfl, rfl, trivial⟩; refine e_then ?_; refine wp_seq ?_; refine wp_seq ?_; refine wp_region_lit ?_; refine op_g ha rfl (g_field0 st27_0 rfl) ?_; clear ha a; intro a ha; refine op_g ha rfl (g_load Tryd.isAgg22 rfl (hB3.cell rfl)) ?_; clear ha a; intro a ha; refine op_g ha rfl (g_field0 st27_0 rfl) ?_; clear ha a; intro a ha; refine op_g ha rfl (g_load Tryd.isAgg22 rfl (hB11.cell rfl)) ?_; clear ha a; intro a ha
  obtain ⟨x19, hc20, hF⟩ := cal_some hF
  refine o_call ha rfl rfl Tryd.call13 (W_laws_eqInt64SS (ha0_0.ext hE18) (ha1_0.ext hE18) hc20) ?_; clear ha a; rintro v21 w22 ⟨rfl, hx23⟩ a ha
  replace hB3 := hB3.ext hx23
  replace hB11 := hB11.ext hx23
  have hE24 := Ext.trans hE18 hx23
  refine op_g ha rfl (g_not rfl) ?_; clear ha a; intro a ha; refine wpList_nil ?_; replace ha := ha.sub (σ' := [(10, (.bool (!x19)))]) ⟨rfl, trivial⟩; refine e_then ?_; refine c_cond (¬ (x19 = true)) ha rfl (n_iff (Iff.rfl)) (fun hp25 => ?_) (fun hp25 => ?_)
  · replace hF := if_t hp25 hF
    refine wp_seq ?_; refine wp_region_lit ?_; refine op_g ha rfl (g_assign rfl) ?_; clear ha a; intro a ha; refine wpList_nil ?_; replace ha := ha.sub (σ' := [(4, (.bool false))]) ⟨rfl, trivial⟩; refine e_then ?_; refine wp_ret ?_; refine e_then_ret ?_; obtain rfl := Option.some.inj hF
    exact f_ret1 ha rfl rfl ⟨rfl, hE24⟩
  replace hF := if_f hp25 hF; refine wp_skip ?_; refine e_then ?_; refine wp_seq ?_; refine wp_region_lit ?_; refine op_g ha rfl (g_assign rfl) ?_; clear ha a; intro a ha; refine wpList_nil ?_; replace ha := ha.sub (σ' := [(4, (.bool true))]) ⟨rfl, trivial⟩; refine e_then ?_; refine wp_ret ?_; obtain rfl := Option.some.inj hF
  exact f_ret1 ha rfl rfl ⟨rfl, hE24⟩
set_option maxHeartbeats 2000000 in
theorem W_laws_markInt64S {W : World} {va0 : Value} {ba0 : Int} {a0 : (List Int)} (ha0 : Ow Rp.int 2 true W [] ba0 va0 a0) {a1 : Int} (ha1 : InI a1) {r : (Int × (List Int))} (hF : F_laws_markInt64S a0 a1 = some r) :
    Calls Tryd.prog 20 [va0, .int .i64 a1].toArray W (Ret fun u w' => (u = .int .i64 r.1 ∧ InI r.1) ∧ Ow Rp.int 2 true w' [] ba0 va0 r.2 ∧ Chg (bl ba0) W w') := by
  refine f_enter Tryd.func20 rfl Tryd.ntmps20 rfl ?_
  intro a ha
  replace ha : Fr 19 [(0, va0), (1, (.int .i64 a1))] a := ha
  have hE : Chg (bl ba0) W W := Chg.refl _ _
  unfold F_laws_markInt64S at hF
  refine wp_seq ?_; refine wp_region_lit ?_; refine op_g ha rfl (g_assign rfl) ?_; clear ha a; intro a ha; refine wpList_nil ?_; replace ha := ha.sub (σ' := [(0, va0), (1, (.int .i64 a1))]) ⟨rfl, rfl, trivial⟩; refine e_then ?_; refine wp_seq ?_; refine wp_seq ?_; refine wp_region_lit ?_; refine op_g ha rfl (g_assign rfl) ?_; clear ha a; intro a ha; refine wpList_nil ?_; refine e_then ?_; obtain ⟨o85, ho86, hK87⟩ := bnd_some hF
  obtain ⟨n88, hn89⟩ := lp_some ho86; clear ho86
  refine c_loop (fun a w => ∃ (i79 : Int) (l82 : (List Int)), Fr 19 [(1, (.int .i64 i79))] a ∧ Chg (bl ba0) W w ∧ InI i79 ∧ Ow Rp.int 2 true w [] ba0 va0 l82 ∧ o85 = .inl (i79, l82)) (fun n a w => ∃ (l38 : (List Int)) (i41 : Int) (i43 : Int), Fr 19 [(0, va0), (1, (.int .i64 i41)), (5, (.int .i64 i43))] a ∧ Chg (bl ba0) W w ∧ InI i41 ∧ InI i43 ∧ Ow Rp.int 2 true w [] ba0 va0 l38 ∧ lpN (fun s => F_laws_markInt64S_l1 s.1 s.2.1 s.2.2) n (l38, i41, i43) = some o85) n88 ⟨a0, a1, 0, ha.sub ⟨rfl, rfl, rfl, trivial⟩, hE, ha1, (show InI 0 from by decide), ha0, hn89⟩ ?_ ?_
  · rintro m93 a w36 ⟨l38, i41, i43, ha, hE45, hI42, hI44, h37, hF⟩
    cases m93 with
    | zero => exact (lpN_zero hF).elim
    | succ m93 =>
      obtain ⟨z92, hF, hN91⟩ := lpN_succ hF
      have hF : F_laws_markInt64S_l1 l38 i41 i43 = some z92 := hF; unfold F_laws_markInt64S_l1 at hF
      refine wp_seq ?_; refine wp_seq ?_; refine wp_region_lit ?_; (iterate 2 refine op_g ha rfl (g_move rfl) ?_; clear ha a; intro a ha); refine op_g ha rfl (g_lenO sl35.und h37 rfl) ?_; clear ha a; intro a ha; refine op_g ha rfl (g_lss rfl rfl) ?_; clear ha a; intro a ha; refine wpList_nil ?_; replace ha := ha.sub (σ' := [(0, va0), (1, (.int .i64 i41)), (5, (.int .i64 i43)), (9, (.bool (decide (i43 < (l38.length : Int)))))]) ⟨rfl, rfl, rfl, rfl, trivial⟩; refine e_then ?_; refine c_cond (i43 < (l38.length : Int)) ha rfl (decide_eq_true_iff) (fun hp94 => ?_) (fun hp94 => ?_)
      · replace hF := if_t hp94 hF
        refine wp_skip ?_; refine e_then ?_; refine wp_seq ?_; refine wp_block ?_; refine wp_seq ?_; refine wp_region_lit ?_; (iterate 3 refine op_g ha rfl (g_move rfl) ?_; clear ha a; intro a ha); obtain ⟨x95, g96, gx97, hF⟩ := idx_some hF
        obtain ⟨p98, cs99, f100, hf101, hpb102, hat103, hr104, hi105⟩ := h37.at g96 gx97
        obtain ⟨rfl, hI106, rfl⟩ := hr104
        refine op_g ha rfl (hi105.gives sl35 rfl rfl) ?_; clear ha a; intro a ha
        refine o_storeE (f := []) (q := i41) ha Tryd.sizeOf2 rfl rfl rfl h37 hi105 ⟨rfl, hI42, rfl⟩ (Nq.nil _) ?_; intro w107 fs108 h109 hc110 hs111
        obtain rfl := Subst.nil hs111
        have hE112 := Chg.same hE45 hc110
        refine wpList_nil ?_; replace ha := ha.sub (σ' := [(0, va0), (1, (.int .i64 i41)), (5, (.int .i64 i43))]) ⟨rfl, rfl, rfl, trivial⟩; refine e_then ?_; refine wp_region_lit ?_; refine op_g ha rfl (g_move rfl) ?_; clear ha a; intro a ha; obtain ⟨hI113, hF⟩ := ck_some hF; refine op_g ha rfl (g_add rfl rfl hI113) ?_; clear ha a; intro a ha; refine op_g ha rfl (g_assign rfl) ?_; clear ha a; intro a ha; refine wpList_nil ?_; replace ha := ha.sub (σ' := [(0, va0), (1, (.int .i64 (i41 + 1))), (5, (.int .i64 i43))]) ⟨rfl, rfl, rfl, trivial⟩; refine e_blk ?_; refine e_then ?_; refine wp_region_lit ?_
        refine op_g ha rfl (g_move rfl) ?_; clear ha a; intro a ha; obtain ⟨hI115, hF⟩ := ck_some hF; refine op_g ha rfl (g_add rfl rfl hI115) ?_; clear ha a; intro a ha; refine op_g ha rfl (g_assign rfl) ?_; clear ha a; intro a ha; refine wpList_nil ?_; replace ha := ha.sub (σ' := [(0, va0), (1, (.int .i64 (i41 + 1))), (5, (.int .i64 (i43 + 1)))]) ⟨rfl, rfl, rfl, trivial⟩; refine e_lq ?_; obtain rfl := Option.some.inj hF
        exact ⟨_, Nat.lt_succ_self _, (l38.set ((i43 : Int).toNat) i41), i41 + 1, i43 + 1, ha.sub ⟨rfl, rfl, rfl, trivial⟩, hE112, hI113, hI115, h109, hN91⟩
      replace hF := if_f hp94 hF; refine wp_exit ?_; refine e_then_exit ?_; refine e_lq_eq ?_; obtain rfl := Option.some.inj hF
      exact ⟨i41, l38, ha.sub ⟨rfl, trivial⟩, hE45, hI42, h37, (LK_inr hN91).symm⟩
  rintro a w78 ⟨i79, l82, ha, hE90, hI80, h81, rfl⟩
  have hF : F_laws_markInt64S_k2 i79 l82 = some _ := hK87; clear hK87; unfold F_laws_markInt64S_k2 at hF
  refine e_then ?_; refine wp_seq ?_; refine wp_region_lit ?_; refine op_g ha rfl (g_move rfl) ?_; clear ha a; intro a ha; refine op_g ha rfl (g_assign rfl) ?_; clear ha a; intro a ha; refine wpList_nil ?_; replace ha := ha.sub (σ' := [(4, (.int .i64 i79))]) ⟨rfl, trivial⟩; refine e_then ?_; refine wp_ret ?_; obtain rfl := Option.some.inj hF
  exact f_ret1 ha rfl rfl ⟨⟨rfl, hI80⟩, h81, hE90⟩
set_option maxHeartbeats 2000000 in
theorem W_laws_markInt64SS {W : World} {va0 : Value} {ba0 : Int} {fa0 : List Nat} {a0 : (List (List Int))} (ha0 : Ow (Rp.sl 2 Rp.int) 35 true W fa0 ba0 va0 a0) (nda0 : (bl ba0 ++ fa0).Nodup) {a1 : Int} (ha1 : InI a1) {r : (Int × (List (List Int)))} (hF : F_laws_markInt64SS a0 a1 = some r) :
    Calls Tryd.prog 15 [va0, .int .i64 a1].toArray W (Ret fun u w' => (u = .int .i64 r.1 ∧ InI r.1) ∧ Ow (Rp.sl 2 Rp.int) 35 true w' fa0 ba0 va0 r.2 ∧ Chg ((bl ba0 ++ fa0)) W w') := by
  refine f_enter Tryd.func15 rfl Tryd.ntmps15 rfl ?_
  intro a ha
  replace ha : Fr 19 [(0, va0), (1, (.int .i64 a1))] a := ha
  have hE : Chg ((bl ba0 ++ fa0)) W W := Chg.refl _ _
  unfold F_laws_markInt64SS at hF
  refine wp_seq ?_; refine wp_region_lit ?_; refine op_g ha rfl (g_assign rfl) ?_; clear ha a; intro a ha; refine wpList_nil ?_; replace ha := ha.sub (σ' := [(0, va0), (1, (.int .i64 a1))]) ⟨rfl, rfl, trivial⟩; refine e_then ?_; refine wp_seq ?_; refine wp_seq ?_; refine wp_region_lit ?_; refine op_g ha rfl (g_assign rfl) ?_; clear ha a; intro a ha; refine wpList_nil ?_; refine e_then ?_; obtain ⟨o101, ho102, hK103⟩ := bnd_some hF
  obtain ⟨n104, hn105⟩ := lp_some ho102; clear ho102
  refine c_loop (fun a w => ∃ (i95 : Int) (l98 : (List (List Int))), Fr 19 [(1, (.int .i64 i95))] a ∧ Chg ((bl ba0 ++ fa0)) W w ∧ InI i95 ∧ Ow (Rp.sl 2 Rp.int) 35 true w fa0 ba0 va0 l98 ∧ o101 = .inl (i95, l98)) (fun n a w => ∃ (l46 : (List (List Int))) (i49 : Int) (i51 : Int), Fr 19 [(0, va0), (1, (.int .i64 i49)), (5, (.int .i64 i51))] a ∧ Chg ((bl ba0 ++ fa0)) W w ∧ InI i49 ∧ InI i51 ∧ Ow (Rp.sl 2 Rp.int) 35 true w fa0 ba0 va0 l46 ∧ lpN (fun s => F_laws_markInt64SS_l1 s.1 s.2.1 s.2.2) n (l46, i49, i51) = some o101) n104 ⟨a0, a1, 0, ha.sub ⟨rfl, rfl, rfl, trivial⟩, hE, ha1, (show InI 0 from by decide), ha0, hn105⟩ ?_ ?_
  · rintro m109 a w44 ⟨l46, i49, i51, ha, hE53, hI50, hI52, h45, hF⟩
    cases m109 with
    | zero => exact (lpN_zero hF).elim
    | succ m109 =>
      obtain ⟨z108, hF, hN107⟩ := lpN_succ hF
      have hF : F_laws_markInt64SS_l1 l46 i49 i51 = some z108 := hF; unfold F_laws_markInt64SS_l1 at hF
      refine wp_seq ?_; refine wp_seq ?_; refine wp_region_lit ?_; (iterate 2 refine op_g ha rfl (g_move rfl) ?_; clear ha a; intro a ha); refine op_g ha rfl (g_lenO sl22.und h45 rfl) ?_; clear ha a; intro a ha; refine op_g ha rfl (g_lss rfl rfl) ?_; clear ha a; intro a ha; refine wpList_nil ?_; replace ha := ha.sub (σ' := [(0, va0), (1, (.int .i64 i49)), (5, (.int .i64 i51)), (9, (.bool (decide (i51 < (l46.length : Int)))))]) ⟨rfl, rfl, rfl, rfl, trivial⟩; refine e_then ?_; refine c_cond (i51 < (l46.length : Int)) ha rfl (decide_eq_true_iff) (fun hp110 => ?_) (fun hp110 => ?_)
      · replace hF := if_t hp110 hF
        refine wp_skip ?_; refine e_then ?_; refine wp_seq ?_; refine wp_block ?_; refine wp_region_lit ?_; (iterate 2 refine op_g ha rfl (g_move rfl) ?_; clear ha a; intro a ha); obtain ⟨x111, g112, gx113, hF⟩ := idx_some hF
        obtain ⟨p114, cs115, f116, hf117, hpb118, hat119, hr120, hi121⟩ := h45.at g112 gx113
        replace hr120 := (Rp.sl 2 Rp.int).weak hr120
        obtain ⟨v122, rfl, h123⟩ := hr120
        have h123 : Ro Rp.int w44 f116 v122 x111 := h123
        have q125 := Nq.mono (Ow.ne h45) hf117
        refine op_g ha rfl (hi121.gives sl22 rfl rfl) ?_; clear ha a; intro a ha; refine op_g ha rfl (g_load Tryd.isAgg35 rfl hat119.one) ?_; clear ha a; intro a ha; refine op_g ha rfl (g_move rfl) ?_; clear ha a; intro a ha
        obtain ⟨b126, h127, hm128, hb129⟩ := Ow.row (k := 0) (lens_sl 2 Rp.int) scal_int h45 nda0 gx113 hi121 hat119 rfl rfl
        obtain ⟨x130, hc131, hF⟩ := cal_some hF
        refine o_call ha rfl rfl Tryd.call20 (W_laws_markInt64S h127 hI50 hc131) ?_; clear ha a; rintro v132 w133 ⟨⟨rfl, hI135⟩, h136, hx134⟩ a ha
        have h137 := hb129 w133 _ hx134 h136
        have hE138 := Chg.join hE53 hx134 (S2.par hm128)
        refine op_g ha rfl (g_assign rfl) ?_; clear ha a; intro a ha; refine wpList_nil ?_; replace ha := ha.sub (σ' := [(0, va0), (1, (.int .i64 x130.1)), (5, (.int .i64 i51))]) ⟨rfl, rfl, rfl, trivial⟩; refine e_blk ?_; refine e_then ?_; refine wp_region_lit ?_; refine op_g ha rfl (g_move rfl) ?_; clear ha a; intro a ha; obtain ⟨hI139, hF⟩ := ck_some hF; refine op_g ha rfl (g_add rfl rfl hI139) ?_; clear ha a; intro a ha; refine op_g ha rfl (g_assign rfl) ?_; clear ha a; intro a ha; refine wpList_nil ?_; replace ha := ha.sub (σ' := [(0, va0), (1, (.int .i64 x130.1)), (5, (.int .i64 (i51 + 1)))]) ⟨rfl, rfl, rfl, trivial⟩
        refine e_lq ?_; obtain rfl := Option.some.inj hF
        exact ⟨_, Nat.lt_succ_self _, (l46.set ((i51 : Int).toNat) x130.2), x130.1, i51 + 1, ha.sub ⟨rfl, rfl, rfl, trivial⟩, hE138, hI135, hI139, h137, hN107⟩
      replace hF := if_f hp110 hF; refine wp_exit ?_; refine e_then_exit ?_; refine e_lq_eq ?_; obtain rfl := Option.some.inj hF
      exact ⟨i49, l46, ha.sub ⟨rfl, trivial⟩, hE53, hI50, h45, (LK_inr hN107).symm⟩
  rintro a w94 ⟨i95, l98, ha, hE106, hI96, h97, rfl⟩
  have hF : F_laws_markInt64SS_k2 i95 l98 = some _ := hK103; clear hK103; unfold F_laws_markInt64SS_k2 at hF
  refine e_then ?_; refine wp_seq ?_; refine wp_region_lit ?_; refine op_g ha rfl (g_move rfl) ?_; clear ha a; intro a ha; refine op_g ha rfl (g_assign rfl) ?_; clear ha a; intro a ha; refine wpList_nil ?_; replace ha := ha.sub (σ' := [(4, (.int .i64 i95))]) ⟨rfl, trivial⟩; refine e_then ?_; refine wp_ret ?_; obtain rfl := Option.some.inj hF
  exact f_ret1 ha rfl rfl ⟨⟨rfl, hI96⟩, h97, hE106⟩
set_option maxHeartbeats 2000000 in
theorem W_laws_markGraph {W : World} {va0_0 : Value} {ba0_0 : Int} {fa0_0 : List Nat} {a0_0 : (List (List Int))} (ha0_0 : Ow (Rp.sl 2 Rp.int) 35 true W fa0_0 ba0_0 va0_0 a0_0) (nda0_0 : (bl ba0_0 ++ fa0_0).Nodup) {a1 : Int} (ha1 : InI a1) {r : (Int × (List (List Int)))} (hF : F_laws_markGraph a0_0 a1 = some r) :
    Calls Tryd.prog 14 [.agg #[va0_0], .int .i64 a1].toArray W (Ret fun u w' => (u = .int .i64 r.1 ∧ InI r.1) ∧ Ow (Rp.sl 2 Rp.int) 35 true w' fa0_0 ba0_0 va0_0 r.2 ∧ Chg ((bl ba0_0 ++ fa0_0)) W w') := by
  refine f_enter Tryd.func14 rfl Tryd.ntmps14 rfl ?_
  intro a ha
  replace ha : Fr 10 [(0, (.agg #[va0_0])), (1, (.int .i64 a1))] a := ha
  have hE : Chg ((bl ba0_0 ++ fa0_0)) W W := Chg.refl _ _
  unfold F_laws_markGraph at hF
  refine wp_seq ?_; refine wp_region_lit ?_
  refine o_box ha rfl rfl rfl ?_; clear ha a; intro b1 w2 hB3 hx4 hlo5 a ha
  have q6 := Zn.one hlo5
  have q7 := Nq.new ha0_0.fpb q6
  have q8 := Nq.made1 hlo5 ha0_0.blt
  have q9 := Zn.upD q6 hE
  replace ha0_0 := ha0_0.ext hx4
  have hE10 := Chg.more hE hx4
  refine op_g ha rfl (g_assign rfl) ?_; clear ha a; intro a ha; refine wpList_nil ?_; replace ha := ha.sub (σ' := [(1, (.int .i64 a1)), (2, (.pointer (some ⟨b1, 0, none⟩)))]) ⟨rfl, rfl, trivial⟩; refine e_then ?_; refine wp_seq ?_; refine wp_region_lit ?_; refine op_g ha rfl (g_field0 st27_0 rfl) ?_; clear ha a; intro a ha; refine op_g ha rfl (g_load Tryd.isAgg22 rfl (hB3.cell rfl)) ?_; clear ha a; intro a ha; refine op_g ha rfl (g_move rfl) ?_; clear ha a; intro a ha; obtain ⟨x11, hc12, hF⟩ := cal_some hF
  refine o_call ha rfl rfl Tryd.call15 (W_laws_markInt64SS ha0_0 nda0_0 ha1 hc12) ?_; clear ha a; rintro v13 w14 ⟨⟨rfl, hI16⟩, h17, hx15⟩ a ha
  have hE18 := Chg.join hE10 hx15 (S2.par (fun _ h => h))
  refine op_g ha rfl (g_assign rfl) ?_; clear ha a; intro a ha; refine wpList_nil ?_; replace ha := ha.sub (σ' := [(1, (.int .i64 x11.1))]) ⟨rfl, trivial⟩; refine e_then ?_; refine wp_seq ?_; refine wp_region_lit ?_; refine op_g ha rfl (g_move rfl) ?_; clear ha a; intro a ha; refine op_g ha rfl (g_assign rfl) ?_; clear ha a; intro a ha; refine wpList_nil ?_; replace ha := ha.sub (σ' := [(4, (.int .i64 x11.1))]) ⟨rfl, trivial⟩; refine e_then ?_; refine wp_ret ?_; obtain rfl := Option.some.inj hF
  exact f_ret1 ha rfl rfl ⟨⟨rfl, hI16⟩, h17, hE18⟩
set_option maxHeartbeats 2000000 in
theorem W_laws_heldInt64S {W : World} {va0 : Value} {fa0 : List Nat} {a0 : (List Int)} (ha0 : Ro Rp.int W fa0 va0 a0) {a1 : Int} (ha1 : InI a1) {r : Int} (hF : F_laws_heldInt64S a0 a1 = some r) :
    Calls Tryd.prog 21 [va0, .int .i64 a1].toArray W (Ret fun u w' => (u = .int .i64 r ∧ InI r) ∧ Ext W w') := by
  refine f_enter Tryd.func21 rfl Tryd.ntmps21 rfl ?_
  intro a ha
  replace ha : Fr 21 [(0, va0), (1, (.int .i64 a1))] a := ha
  have hE : Chg [] W W := Chg.refl _ _
  unfold F_laws_heldInt64S at hF
  refine wp_seq ?_; refine wp_region_lit ?_; refine op_g ha rfl (g_assign rfl) ?_; clear ha a; intro a ha; refine wpList_nil ?_; replace ha := ha.sub (σ' := [(0, va0), (1, (.int .i64 a1))]) ⟨rfl, rfl, trivial⟩; refine e_then ?_; refine wp_seq ?_; refine wp_seq ?_; refine wp_region_lit ?_; refine op_g ha rfl (g_assign rfl) ?_; clear ha a; intro a ha; refine wpList_nil ?_; refine e_then ?_; obtain ⟨o58, ho59, hK60⟩ := bnd_some hF
  obtain ⟨n61, hn62⟩ := lp_some ho59; clear ho59
  refine c_loop (fun a w => ∃ (i56 : Int), Fr 21 [(1, (.int .i64 i56))] a ∧ Chg [] W w ∧ InI i56 ∧ o58 = .inl i56) (fun n a w => ∃ (i27 : Int) (i29 : Int), Fr 21 [(0, va0), (1, (.int .i64 i27)), (5, (.int .i64 i29))] a ∧ Chg [] W w ∧ InI i27 ∧ InI i29 ∧ lpN (fun s => F_laws_heldInt64S_l1 a0 s.1 s.2) n (i27, i29) = some o58) n61 ⟨a1, 0, ha.sub ⟨rfl, rfl, rfl, trivial⟩, hE, ha1, (show InI 0 from by decide), hn62⟩ ?_ ?_
  · rintro m66 a w26 ⟨i27, i29, ha, hE31, hI28, hI30, hF⟩
    cases m66 with
    | zero => exact (lpN_zero hF).elim
    | succ m66 =>
      obtain ⟨z65, hF, hN64⟩ := lpN_succ hF
      have hF : F_laws_heldInt64S_l1 a0 i27 i29 = some z65 := hF; unfold F_laws_heldInt64S_l1 at hF
      refine wp_seq ?_; refine wp_seq ?_; refine wp_region_lit ?_; (iterate 2 refine op_g ha rfl (g_move rfl) ?_; clear ha a; intro a ha); refine op_g ha rfl (g_lenR sl35.und ha0 rfl) ?_; clear ha a; intro a ha; refine op_g ha rfl (g_lss rfl rfl) ?_; clear ha a; intro a ha; refine wpList_nil ?_; replace ha := ha.sub (σ' := [(0, va0), (1, (.int .i64 i27)), (5, (.int .i64 i29)), (9, (.bool (decide (i29 < (a0.length : Int)))))]) ⟨rfl, rfl, rfl, rfl, trivial⟩; refine e_then ?_; refine c_cond (i29 < (a0.length : Int)) ha rfl (decide_eq_true_iff) (fun hp67 => ?_) (fun hp67 => ?_)
      · replace hF := if_t hp67 hF
        refine wp_skip ?_; refine e_then ?_; refine wp_seq ?_; refine wp_block ?_; refine wp_seq ?_; refine wp_seq ?_; refine wp_region_lit ?_; (iterate 2 refine op_g ha rfl (g_move rfl) ?_; clear ha a; intro a ha); obtain ⟨x68, g69, gx70, hF⟩ := idx_some hF
        obtain ⟨p71, cs72, f73, hf74, hpb75, hat76, hr77, hi78⟩ := ha0.at g69 gx70
        obtain ⟨rfl, hI79, rfl⟩ := hr77
        refine op_g ha rfl (hi78.gives sl35 rfl rfl) ?_; clear ha a; intro a ha; refine op_g ha rfl (g_load0 hE31 Tryd.isAgg2 rfl hat76.one) ?_; clear ha a; intro a ha; refine op_g ha rfl (g_move rfl) ?_; clear ha a; intro a ha; refine op_g ha rfl (g_neq rfl rfl) ?_; clear ha a; intro a ha; refine wpList_nil ?_; replace ha := ha.sub (σ' := [(0, va0), (1, (.int .i64 i27)), (5, (.int .i64 i29)), (17, (.bool (decide (x68 ≠ i27))))]) ⟨rfl, rfl, rfl, rfl, trivial⟩; refine e_then ?_; refine c_cond (x68 ≠ i27) ha rfl (decide_eq_true_iff) (fun hp80 => ?_) (fun hp80 => ?_)
        · replace hF := if_t hp80 hF
          refine wp_seq ?_; refine wp_region_lit ?_; refine op_g ha rfl (g_assign rfl) ?_; clear ha a; intro a ha; refine wpList_nil ?_; replace ha := ha.sub (σ' := [(4, (.int .i64 (-1)))]) ⟨rfl, trivial⟩; refine e_then ?_; refine wp_ret ?_; refine e_then_ret ?_; refine e_blk_ret ?_; refine e_then_ret ?_; refine e_lq_ret ?_; refine e_then_ret ?_; obtain rfl := Option.some.inj hF
          have e81 := LK_inr hN64; subst e81
          have e82 := BK_inr hK60; subst e82
          exact f_ret1 ha rfl rfl ⟨⟨rfl, (show InI (-1) from by decide)⟩, hE31⟩
        replace hF := if_f hp80 hF; refine wp_skip ?_; refine e_then ?_; refine wp_region_lit ?_; refine op_g ha rfl (g_move rfl) ?_; clear ha a; intro a ha; obtain ⟨hI83, hF⟩ := ck_some hF; refine op_g ha rfl (g_add rfl rfl hI83) ?_; clear ha a; intro a ha; refine op_g ha rfl (g_assign rfl) ?_; clear ha a; intro a ha; refine wpList_nil ?_; replace ha := ha.sub (σ' := [(0, va0), (1, (.int .i64 (i27 + 1))), (5, (.int .i64 i29))]) ⟨rfl, rfl, rfl, trivial⟩; refine e_blk ?_; refine e_then ?_; refine wp_region_lit ?_; refine op_g ha rfl (g_move rfl) ?_; clear ha a; intro a ha; obtain ⟨hI85, hF⟩ := ck_some hF
        refine op_g ha rfl (g_add rfl rfl hI85) ?_; clear ha a; intro a ha; refine op_g ha rfl (g_assign rfl) ?_; clear ha a; intro a ha; refine wpList_nil ?_; replace ha := ha.sub (σ' := [(0, va0), (1, (.int .i64 (i27 + 1))), (5, (.int .i64 (i29 + 1)))]) ⟨rfl, rfl, rfl, trivial⟩; refine e_lq ?_; obtain rfl := Option.some.inj hF
        exact ⟨_, Nat.lt_succ_self _, i27 + 1, i29 + 1, ha.sub ⟨rfl, rfl, rfl, trivial⟩, hE31, hI83, hI85, hN64⟩
      replace hF := if_f hp67 hF; refine wp_exit ?_; refine e_then_exit ?_; refine e_lq_eq ?_; obtain rfl := Option.some.inj hF
      exact ⟨i27, ha.sub ⟨rfl, trivial⟩, hE31, hI28, (LK_inr hN64).symm⟩
  rintro a w55 ⟨i56, ha, hE63, hI57, rfl⟩
  have hF : F_laws_heldInt64S_k2 i56 = some _ := hK60; clear hK60; unfold F_laws_heldInt64S_k2 at hF
  refine e_then ?_; refine wp_seq ?_; refine wp_region_lit ?_; refine op_g ha rfl (g_move rfl) ?_; clear ha a; intro a ha; refine op_g ha rfl (g_assign rfl) ?_; clear ha a; intro a ha; refine wpList_nil ?_; replace ha := ha.sub (σ' := [(4, (.int .i64 i56))]) ⟨rfl, trivial⟩; refine e_then ?_; refine wp_ret ?_; obtain rfl := Option.some.inj hF
  exact f_ret1 ha rfl rfl ⟨⟨rfl, hI57⟩, hE63⟩
set_option maxHeartbeats 2000000 in
theorem W_laws_FnExactRoundTrip {W : World} {va0_0 : Value} {fa0_0 : List Nat} {a0_0 : (List (List Int))} (ha0_0 : Ro (Rp.sl 2 Rp.int) W fa0_0 va0_0 a0_0) (hG : GT 0 W) {r : Bool} (hF : F_laws_FnExactRoundTrip a0_0 = some r) :
    Calls Tryd.prog 5 [.agg #[va0_0]].toArray W (Ret fun u w' => u = .bool r ∧ Ext W w') := by
  refine f_enter Tryd.func5 rfl Tryd.ntmps5 rfl ?_
  intro a ha
  replace ha : Fr 96 [(0, (.agg #[va0_0]))] a := ha
  have hE : Chg [] W W := Chg.refl _ _
  unfold F_laws_FnExactRoundTrip at hF
  refine wp_seq ?_; refine wp_region_lit ?_
  refine o_box ha rfl rfl rfl ?_; clear ha a; intro b1 w2 hB3 hx4 hlo5 a ha
  have q6 := Zn.one hlo5
  have q7 := Zn.upD q6 hE
  have hE8 := Ext.trans hE hx4
  refine op_g ha rfl (g_assign rfl) ?_; clear ha a; intro a ha; refine wpList_nil ?_; replace ha := ha.sub (σ' := [(1, (.pointer (some ⟨b1, 0, none⟩)))]) ⟨rfl, trivial⟩; refine e_then ?_; refine wp_seq ?_; refine wp_region_lit ?_; refine op_g ha rfl (g_assign rfl) ?_; clear ha a; intro a ha; refine wpList_nil ?_; refine e_then ?_; refine wp_seq ?_; refine wp_region_lit ?_; refine op_g ha rfl (g_loadA (cs := [va0_0]) Tryd.isAgg24 Tryd.sizeOf24 rfl (by simp) hB3.all) ?_; clear ha a; intro a ha; refine op_g ha rfl (g_move rfl) ?_; clear ha a; intro a ha; obtain ⟨x9, hc10, hF⟩ := cal_some hF
  refine o_call ha rfl rfl Tryd.call6 (W_laws_szGraph (ha0_0.ext hE8) (show InI 1048576 from by decide) hc10) ?_; clear ha a; rintro v11 w12 ⟨⟨rfl, hI14⟩, hx13⟩ a ha
  replace hB3 := hB3.ext hx13
  have hE15 := Ext.trans hE8 hx13
  refine op_g ha rfl (g_assign rfl) ?_; clear ha a; intro a ha; refine wpList_nil ?_; replace ha := ha.sub (σ' := [(1, (.pointer (some ⟨b1, 0, none⟩))), (3, (.int .i64 x9))]) ⟨rfl, rfl, trivial⟩; refine e_then ?_; refine wp_seq ?_; refine wp_seq ?_; refine wp_region_lit ?_; refine op_g ha rfl (g_move rfl) ?_; clear ha a; intro a ha; refine op_g ha rfl (g_lss rfl rfl) ?_; clear ha a; intro a ha; refine wpList_nil ?_; replace ha := ha.sub (σ' := [(1, (.pointer (some ⟨b1, 0, none⟩))), (18, (.bool (decide (x9 < 0))))]) ⟨rfl, rfl, trivial⟩; refine e_then ?_; refine c_cond (x9 < 0) ha rfl (decide_eq_true_iff) (fun hp16 => ?_) (fun hp16 => ?_)
  · replace hF := if_t hp16 hF
    refine wp_seq ?_; refine wp_region_lit ?_; refine op_g ha rfl (g_assign rfl) ?_; clear ha a; intro a ha; refine wpList_nil ?_; replace ha := ha.sub (σ' := [(2, (.bool true))]) ⟨rfl, trivial⟩; refine e_then ?_; refine wp_ret ?_; refine e_then_ret ?_; obtain rfl := Option.some.inj hF
    exact f_ret1 ha rfl rfl ⟨rfl, hE15⟩
  replace hF := if_f hp16 hF; refine wp_skip ?_; refine e_then ?_; refine wp_seq ?_; refine wp_region_lit ?_; refine op_g ha rfl (g_loadA (cs := [va0_0]) Tryd.isAgg24 Tryd.sizeOf24 rfl (by simp) hB3.all) ?_; clear ha a; intro a ha; obtain ⟨x17, hc18, hF⟩ := cal_some hF
  refine o_call ha rfl rfl Tryd.call8 (W_laws_toGraph (ha0_0.ext hE15) hc18) ?_; clear ha a; rintro v19 w20 ⟨u22, b23, fs27, rfl, h24, z25, zf28, nd29, hx21⟩ a ha
  have q30 := Nq.new hB3.fpb z25
  have q31 := Nq.madeF z25 zf28 hB3.bi
  have q32 := Nf.new hB3.fpb zf28
  replace hB3 := hB3.ext hx21
  have hE33 := Ext.trans hE15 hx21
  have q34 := Zn.upD z25 hE15
  have q35 := zf_up zf28 hE15
  obtain ⟨fp36, hro37, hs38⟩ := h24.roF
  obtain ⟨x39, hc40, hF⟩ := cal_some hF
  refine o_call ha rfl rfl Tryd.call17 (W_spec_RoundTrip hro37 hc40) ?_; clear ha a; rintro v41 w42 ⟨u44, u45, b46, rfl, h47, z48, rfl, hx43⟩ a ha
  have q50 := Nq.new hB3.fpb z48
  have q51 := Nq.madeO z48 hB3.bi
  have q52 := Nq.new h24.fpb z48
  have q53 := Nq.madeO z48 h24.blt
  have q54 := Nf.old z48 (zf_nil _) h24.bnd
  replace hB3 := hB3.ext hx43
  replace h24 := h24.ext hx43
  have hE55 := Ext.trans hE33 hx43
  have q56 := Zn.upD z48 hE33
  refine op_g ha rfl (g_move rfl) ?_; clear ha a; intro a ha; (iterate 2 refine op_g ha rfl (g_extract rfl rfl) ?_; clear ha a; intro a ha); (iterate 2 refine op_g ha rfl (g_assign rfl) ?_; clear ha a; intro a ha); refine wpList_nil ?_; replace ha := ha.sub (σ' := [(1, (.pointer (some ⟨b1, 0, none⟩))), (4, u44), (5, (.bool x39.2))]) ⟨rfl, rfl, rfl, trivial⟩; refine e_then ?_; refine wp_seq ?_; refine wp_region_lit ?_; refine op_g ha rfl (g_loadA (cs := [va0_0]) Tryd.isAgg24 Tryd.sizeOf24 rfl (by simp) hB3.all) ?_; clear ha a; intro a ha; obtain ⟨x57, hc58, hF⟩ := cal_some hF
  refine o_call ha rfl rfl Tryd.call8 (W_laws_toGraph (ha0_0.ext hE55) hc58) ?_; clear ha a; rintro v59 w60 ⟨u62, b63, fs67, rfl, h64, z65, zf68, nd69, hx61⟩ a ha
  have q70 := Nq.new hB3.fpb z65
  have q71 := Nq.madeF z65 zf68 hB3.bi
  have q72 := Nq.new h47.fpb z65
  have q73 := Nq.madeF z65 zf68 h47.blt
  have q74 := Nf.new hB3.fpb zf68
  have q75 := Nf.new h47.fpb zf68
  replace hB3 := hB3.ext hx61
  replace h47 := h47.ext hx61
  have hE76 := Ext.trans hE55 hx61
  have q77 := Zn.upD z65 hE55
  have q78 := zf_up zf68 hE55
  refine o_alloc (cs := [(.slice none 0 0)]) ha rfl Tryd.zeroValue27 rfl ?_; clear ha a; intro b79 w80 hB81 hx82 hlo83 a ha
  have q84 := Zn.one hlo83
  have q85 := Nq.new hB3.fpb q84
  have q86 := Nq.made1 hlo83 hB3.bi
  have q87 := Nq.new h47.fpb q84
  have q88 := Nq.made1 hlo83 h47.blt
  have q89 := Nq.new h64.fpb q84
  have q90 := Nq.made1 hlo83 h64.blt
  have q91 := Zn.upD q84 hE76
  replace hB3 := hB3.ext hx82
  replace h47 := h47.ext hx82
  replace h64 := h64.ext hx82
  have hE92 := Ext.trans hE76 hx82
  refine o_storeA (vs := [u62]) ha hB81 Tryd.sizeOf27 rfl rfl (by intro c hc; simp only [List.mem_cons, List.not_mem_nil, or_false] at hc; rcases hc with hc <;> subst hc <;> first | rfl | exact h64.oneC) rfl ?_; intro w93 hB94 hc95
  replace hc95 := hc95.bl
  replace hB94 : Bx w93 b79 [u62] 27 := hB94
  replace hB3 := hB3.nq hc95 q85
  replace h47 := h47.nq hc95 q87
  replace h64 := h64.nq hc95 q89
  have hE96 := Ext.then hE92 hc95 (Zn.bl q91)
  refine wpList_nil ?_; replace ha := ha.sub (σ' := [(1, (.pointer (some ⟨b1, 0, none⟩))), (4, u44), (5, (.bool x39.2)), (6, (.pointer (some ⟨b79, 0, none⟩)))]) ⟨rfl, rfl, rfl, rfl, trivial⟩; refine e_then ?_; refine wp_seq ?_; refine wp_region_lit ?_; refine op_g ha rfl (g_loadA (cs := [u62]) Tryd.isAgg27 Tryd.sizeOf27 rfl (by simp) hB94.all) ?_; clear ha a; intro a ha
  obtain ⟨fp97, hro98, hs99⟩ := h64.roF
  obtain ⟨x100, hc101, hF⟩ := cal_some hF
  refine o_call ha rfl rfl Tryd.call18 (W_impl_RoundTrip hro98 (hG.ext hE96) hc101) ?_; clear ha a; rintro v102 w103 ⟨u105, u106, b107, rfl, h108, z109, rfl, hx104⟩ a ha
  have q111 := Nq.new hB3.fpb z109
  have q112 := Nq.madeO z109 hB3.bi
  have q113 := Nq.new h47.fpb z109
  have q114 := Nq.madeO z109 h47.blt
  have q115 := Nq.new h64.fpb z109
  have q116 := Nq.madeO z109 h64.blt
  have q117 := Nq.new hB94.fpb z109
  have q118 := Nq.madeO z109 hB94.bi
  have q119 := Nf.old z109 (zf_nil _) h64.bnd
  replace hB3 := hB3.ext hx104
  replace h47 := h47.ext hx104
  replace h64 := h64.ext hx104
  replace hB94 := hB94.ext hx104
  have hE120 := Ext.trans hE96 hx104
  have q121 := Zn.upD z109 hE96
  refine op_g ha rfl (g_move rfl) ?_; clear ha a; intro a ha; (iterate 2 refine op_g ha rfl (g_extract rfl rfl) ?_; clear ha a; intro a ha); (iterate 2 refine op_g ha rfl (g_assign rfl) ?_; clear ha a; intro a ha); refine wpList_nil ?_; replace ha := ha.sub (σ' := [(1, (.pointer (some ⟨b1, 0, none⟩))), (4, u44), (5, (.bool x39.2)), (6, (.pointer (some ⟨b79, 0, none⟩))), (7, u105), (8, (.bool x100.2))]) ⟨rfl, rfl, rfl, rfl, rfl, rfl, trivial⟩; refine e_then ?_; refine wp_seq ?_; refine wp_seq ?_; refine wp_region_lit ?_; (iterate 2 refine op_g ha rfl (g_move rfl) ?_; clear ha a; intro a ha)
  obtain ⟨fp136, hro137, hs138⟩ := h108.roF
  obtain ⟨fp139, hro140, hs141⟩ := h47.roF
  obtain ⟨x142, hc143, hF⟩ := cal_some hF
  refine o_call ha rfl rfl Tryd.call19 (W_laws_eqInt64S hro137 hro140 hc143) ?_; clear ha a; rintro v144 w145 ⟨rfl, hx146⟩ a ha
  replace hB3 := hB3.ext hx146
  replace h47 := h47.ext hx146
  replace h64 := h64.ext hx146
  replace hB94 := hB94.ext hx146
  replace h108 := h108.ext hx146
  have hE147 := Ext.trans hE120 hx146
  refine op_g ha rfl (g_not rfl) ?_; clear ha a; intro a ha; refine op_g ha rfl (g_move rfl) ?_; clear ha a; intro a ha
  by_cases hp148 : ¬ (x142 = true)
  · replace hF := if_t hp148 hF
    rw [show (!x142) = true from (n_iff (Iff.rfl)).2 hp148] at ha
    (iterate 3 refine op_unwant ha rfl (yields ha rfl rfl) rfl ?_; clear ha a; intro a ha); refine op_g ha rfl (g_pick rfl rfl) ?_; clear ha a; intro a ha; refine wpList_nil ?_; replace ha := ha.sub (σ' := [(1, (.pointer (some ⟨b1, 0, none⟩))), (4, u44), (5, (.bool x39.2)), (6, (.pointer (some ⟨b79, 0, none⟩))), (7, u105), (8, (.bool x100.2)), (40, (.bool true))]) ⟨rfl, rfl, rfl, rfl, rfl, rfl, rfl, trivial⟩; refine e_then ?_; refine c_true ha rfl ?_; refine wp_seq ?_; refine wp_region_lit ?_; refine op_g ha rfl (g_assign rfl) ?_; clear ha a; intro a ha; refine wpList_nil ?_; replace ha := ha.sub (σ' := [(2, (.bool false))]) ⟨rfl, trivial⟩
    refine e_then ?_; refine wp_ret ?_; refine e_then_ret ?_; obtain rfl := Option.some.inj hF
    exact f_ret1 ha rfl rfl ⟨rfl, hE147⟩
  replace hF := if_f hp148 hF
  rw [show (!x142) = false from b_false (n_iff (Iff.rfl)) hp148] at ha
  refine op_want (yields ha rfl rfl) ?_; refine op_g ha rfl (g_move rfl) ?_; clear ha a; intro a ha; refine op_want (yields ha rfl rfl) ?_; refine op_g ha rfl (g_move rfl) ?_; clear ha a; intro a ha; refine op_want (yields ha rfl rfl) ?_; refine op_g ha rfl (gB_neq un4 rfl rfl) ?_; clear ha a; intro a ha; refine op_g ha rfl (g_pick rfl rfl) ?_; clear ha a; intro a ha; refine wpList_nil ?_; replace ha := ha.sub (σ' := [(1, (.pointer (some ⟨b1, 0, none⟩))), (4, u44), (5, (.bool x39.2)), (6, (.pointer (some ⟨b79, 0, none⟩))), (7, u105), (8, (.bool x100.2)), (40, (.bool (x100.2 != x39.2)))]) ⟨rfl, rfl, rfl, rfl, rfl, rfl, rfl, trivial⟩
  refine e_then ?_; refine c_cond ((x100.2 != x39.2) = true) ha rfl (Iff.rfl) (fun hp149 => ?_) (fun hp149 => ?_)
  · replace hF := if_t hp149 hF
    refine wp_seq ?_; refine wp_region_lit ?_; refine op_g ha rfl (g_assign rfl) ?_; clear ha a; intro a ha; refine wpList_nil ?_; replace ha := ha.sub (σ' := [(2, (.bool false))]) ⟨rfl, trivial⟩; refine e_then ?_; refine wp_ret ?_; refine e_then_ret ?_; obtain rfl := Option.some.inj hF
    exact f_ret1 ha rfl rfl ⟨rfl, hE147⟩
  replace hF := if_f hp149 hF; refine wp_skip ?_; refine e_then ?_; refine wp_seq ?_; refine wp_seq ?_; refine d_region [0, 1, 2, 3, 4] hmix ?_; refine u_g 0 rfl (by kernel_rfl) (want0 _) ha rfl (g_loadA (cs := [u62]) Tryd.isAgg27 Tryd.sizeOf27 rfl (by simp) hB94.all) ?_; clear ha a; intro a ha; refine u_g 1 rfl (by kernel_rfl) (want0 _) ha rfl (g_loadA (cs := [va0_0]) Tryd.isAgg24 Tryd.sizeOf24 rfl (by simp) hB3.all) ?_; clear ha a; intro a ha
  refine u_only 2 rfl (by kernel_rfl) ?_; intro w150 hx151
  replace hB3 := hB3.ext hx151
  replace h47 := h47.ext hx151
  replace h64 := h64.ext hx151
  replace hB94 := hB94.ext hx151
  replace h108 := h108.ext hx151
  have hE152 := Ext.trans hE147 hx151
  obtain ⟨x153, hc154, hF⟩ := cal_some hF
  refine o_call ha rfl rfl Tryd.call8 (W_laws_toGraph (ha0_0.ext hE152) hc154) ?_; clear ha a; rintro v155 w156 ⟨u158, b159, fs163, rfl, h160, z161, zf164, nd165, hx157⟩ a ha
  have q166 := Nq.new hB3.fpb z161
  have q167 := Nq.madeF z161 zf164 hB3.bi
  have q168 := Nq.new h47.fpb z161
  have q169 := Nq.madeF z161 zf164 h47.blt
  have q170 := Nq.new h64.fpb z161
  have q171 := Nq.madeF z161 zf164 h64.blt
  have q172 := Nq.new hB94.fpb z161
  have q173 := Nq.madeF z161 zf164 hB94.bi
  have q174 := Nq.new h108.fpb z161
  have q175 := Nq.madeF z161 zf164 h108.blt
  have q176 := Nf.new hB3.fpb zf164
  have q177 := Nf.new h47.fpb zf164
  have q178 := Nf.new h64.fpb zf164
  have q179 := Nf.old z161 zf164 h64.bnd
  have q180 := Nf.new hB94.fpb zf164
  have q181 := Nf.new h108.fpb zf164
  replace hB3 := hB3.ext hx157
  replace h47 := h47.ext hx157
  replace h64 := h64.ext hx157
  replace hB94 := hB94.ext hx157
  replace h108 := h108.ext hx157
  have hE182 := Ext.trans hE152 hx157
  have q183 := Zn.upD z161 hE152
  have q184 := zf_up zf164 hE152
  refine wpList_nil (e_sq ?_)
  refine ⟨fun _ => hx157, ?_⟩
  obtain ⟨fp187, hro188, hs189⟩ := h64.roF
  obtain ⟨fp190, hro191, hs192⟩ := h160.roF
  obtain ⟨x193, hc194, hF⟩ := cal_some hF; refine u_call (.bool x193) 3 rfl (by kernel_rfl) (want0 _) ha rfl rfl Tryd.call10 (fun w186 hx185 => W_laws_eqGraph (hro188.ext hx185) (hro191.ext hx185) hc194) (fun _ _ _ h => ⟨h.1, h.2⟩) ?_; clear ha a; intro a ha; refine u_g 4 rfl (by kernel_rfl) (want0 _) ha rfl (g_not rfl) ?_; clear ha a; intro a ha
  refine u_done (by kernel_rfl) ?_; intro w195 hx196
  replace hB3 := hB3.ext hx196
  replace h47 := h47.ext hx196
  replace h64 := h64.ext hx196
  replace hB94 := hB94.ext hx196
  replace h108 := h108.ext hx196
  replace h160 := h160.ext hx196
  have hE197 := Ext.trans hE182 hx196
  replace ha := ha.sub (σ' := [(1, (.pointer (some ⟨b1, 0, none⟩))), (4, u44), (5, (.bool x39.2)), (6, (.pointer (some ⟨b79, 0, none⟩))), (7, u105), (8, (.bool x100.2)), (45, (.bool (!x193)))]) ⟨rfl, rfl, rfl, rfl, rfl, rfl, rfl, trivial⟩; refine e_then ?_; refine c_cond (¬ (x193 = true)) ha rfl (n_iff (Iff.rfl)) (fun hp198 => ?_) (fun hp198 => ?_)
  · replace hF := if_t hp198 hF
    refine wp_seq ?_; refine wp_region_lit ?_; refine op_g ha rfl (g_assign rfl) ?_; clear ha a; intro a ha; refine wpList_nil ?_; replace ha := ha.sub (σ' := [(2, (.bool false))]) ⟨rfl, trivial⟩; refine e_then ?_; refine wp_ret ?_; refine e_then_ret ?_; obtain rfl := Option.some.inj hF
    exact f_ret1 ha rfl rfl ⟨rfl, hE197⟩
  replace hF := if_f hp198 hF; refine wp_skip ?_; refine e_then ?_; refine wp_seq ?_; refine wp_region_lit ?_; refine op_g ha rfl (g_assign rfl) ?_; clear ha a; intro a ha; refine wpList_nil ?_; replace ha := ha.sub (σ' := [(1, (.pointer (some ⟨b1, 0, none⟩))), (4, u44), (5, (.bool x39.2)), (6, (.pointer (some ⟨b79, 0, none⟩))), (7, u105), (8, (.bool x100.2)), (9, (.int .i64 1))]) ⟨rfl, rfl, rfl, rfl, rfl, rfl, rfl, trivial⟩; refine e_then ?_; refine wp_seq ?_; refine wp_region_lit ?_; refine op_g ha rfl (g_loadA (cs := [u62]) Tryd.isAgg27 Tryd.sizeOf27 rfl (by simp) hB94.all) ?_; clear ha a; intro a ha
  refine op_g ha rfl (g_move rfl) ?_; clear ha a; intro a ha; obtain ⟨x199, hc200, hF⟩ := cal_some hF
  refine o_call ha rfl rfl Tryd.call14 (W_laws_markGraph h64 nd69 (show InI 1 from by decide) hc200) ?_; clear ha a; rintro v201 w202 ⟨⟨rfl, hI204⟩, h205, hx203⟩ a ha
  replace hB3 := hB3.off hx203 (Off.nest q70 q74); replace h47 := h47.off hx203 (Off.nest q72 q75); replace h108 := h108.off hx203 (Off.nest q116 q119)
  have hE206 := Chg.join hE197 hx203 (S2.nest q77 q78)
  refine op_g ha rfl (g_assign rfl) ?_; clear ha a; intro a ha; refine wpList_nil ?_; replace ha := ha.sub (σ' := [(1, (.pointer (some ⟨b1, 0, none⟩))), (4, u44), (5, (.bool x39.2)), (7, u105), (8, (.bool x100.2)), (9, (.int .i64 x199.1))]) ⟨rfl, rfl, rfl, rfl, rfl, rfl, trivial⟩; refine e_then ?_; refine wp_seq ?_; refine wp_seq ?_; refine wp_region_lit ?_; refine op_g ha rfl (g_move rfl) ?_; clear ha a; intro a ha; refine op_g ha rfl (g_lss rfl rfl) ?_; clear ha a; intro a ha; refine op_g ha rfl (g_move rfl) ?_; clear ha a; intro a ha
  by_cases hp222 : x199.1 < 0
  · replace hF := if_t hp222 hF
    rw [show (decide (x199.1 < 0)) = true from (decide_eq_true_iff).2 hp222] at ha
    (iterate 4 refine op_unwant ha rfl (yields ha rfl rfl) rfl ?_; clear ha a; intro a ha); refine op_g ha rfl (g_pick rfl rfl) ?_; clear ha a; intro a ha; refine op_g ha rfl (g_move rfl) ?_; clear ha a; intro a ha; (iterate 3 refine op_unwant ha rfl (yields ha rfl rfl) rfl ?_; clear ha a; intro a ha); refine op_g ha rfl (g_pick rfl rfl) ?_; clear ha a; intro a ha; refine wpList_nil ?_; replace ha := ha.sub (σ' := [(1, (.pointer (some ⟨b1, 0, none⟩))), (4, u44), (5, (.bool x39.2)), (7, u105), (61, (.bool true))]) ⟨rfl, rfl, rfl, rfl, rfl, trivial⟩; refine e_then ?_; refine c_true ha rfl ?_; refine wp_seq ?_
    refine wp_region_lit ?_; refine op_g ha rfl (g_assign rfl) ?_; clear ha a; intro a ha; refine wpList_nil ?_; replace ha := ha.sub (σ' := [(2, (.bool false))]) ⟨rfl, trivial⟩; refine e_then ?_; refine wp_ret ?_; refine e_then_ret ?_; obtain rfl := Option.some.inj hF
    exact f_ret1 ha rfl rfl ⟨rfl, hE206⟩
  replace hF := if_f hp222 hF
  rw [show (decide (x199.1 < 0)) = false from b_false (decide_eq_true_iff) hp222] at ha
  refine op_want (yields ha rfl rfl) ?_; refine op_g ha rfl (g_move rfl) ?_; clear ha a; intro a ha; refine op_want (yields ha rfl rfl) ?_; refine op_g ha rfl (g_move rfl) ?_; clear ha a; intro a ha; refine op_want (yields ha rfl rfl) ?_
  obtain ⟨fp223, hro224, hs225⟩ := h108.roF
  obtain ⟨fp226, hro227, hs228⟩ := h47.roF
  obtain ⟨x229, hc230, hF⟩ := cal_some hF
  refine o_call ha rfl rfl Tryd.call19 (W_laws_eqInt64S hro224 hro227 hc230) ?_; clear ha a; rintro v231 w232 ⟨rfl, hx233⟩ a ha
  replace hB3 := hB3.ext hx233
  replace h47 := h47.ext hx233
  replace h108 := h108.ext hx233
  have hE234 := Ext.trans hE206 hx233
  refine op_want (yields ha rfl rfl) ?_; refine op_g ha rfl (g_not rfl) ?_; clear ha a; intro a ha; refine op_g ha rfl (g_pick rfl rfl) ?_; clear ha a; intro a ha; refine op_g ha rfl (g_move rfl) ?_; clear ha a; intro a ha
  by_cases hp235 : ¬ (x229 = true)
  · replace hF := if_t hp235 hF
    rw [show (!x229) = true from (n_iff (Iff.rfl)).2 hp235] at ha
    (iterate 3 refine op_unwant ha rfl (yields ha rfl rfl) rfl ?_; clear ha a; intro a ha); refine op_g ha rfl (g_pick rfl rfl) ?_; clear ha a; intro a ha; refine wpList_nil ?_; replace ha := ha.sub (σ' := [(1, (.pointer (some ⟨b1, 0, none⟩))), (4, u44), (5, (.bool x39.2)), (7, u105), (61, (.bool true))]) ⟨rfl, rfl, rfl, rfl, rfl, trivial⟩; refine e_then ?_; refine c_true ha rfl ?_; refine wp_seq ?_; refine wp_region_lit ?_; refine op_g ha rfl (g_assign rfl) ?_; clear ha a; intro a ha; refine wpList_nil ?_; replace ha := ha.sub (σ' := [(2, (.bool false))]) ⟨rfl, trivial⟩; refine e_then ?_; refine wp_ret ?_
    refine e_then_ret ?_; obtain rfl := Option.some.inj hF
    exact f_ret1 ha rfl rfl ⟨rfl, hE234⟩
  replace hF := if_f hp235 hF
  rw [show (!x229) = false from b_false (n_iff (Iff.rfl)) hp235] at ha
  refine op_want (yields ha rfl rfl) ?_; refine op_g ha rfl (g_move rfl) ?_; clear ha a; intro a ha; refine op_want (yields ha rfl rfl) ?_; refine op_g ha rfl (g_move rfl) ?_; clear ha a; intro a ha; refine op_want (yields ha rfl rfl) ?_; refine op_g ha rfl (gB_neq un4 rfl rfl) ?_; clear ha a; intro a ha; refine op_g ha rfl (g_pick rfl rfl) ?_; clear ha a; intro a ha; refine wpList_nil ?_; replace ha := ha.sub (σ' := [(1, (.pointer (some ⟨b1, 0, none⟩))), (4, u44), (5, (.bool x39.2)), (7, u105), (61, (.bool (x100.2 != x39.2)))]) ⟨rfl, rfl, rfl, rfl, rfl, trivial⟩; refine e_then ?_; refine c_cond ((x100.2 != x39.2) = true) ha rfl (Iff.rfl) (fun hp236 => ?_) (fun hp236 => ?_)
  · replace hF := if_t hp236 hF
    refine wp_seq ?_; refine wp_region_lit ?_; refine op_g ha rfl (g_assign rfl) ?_; clear ha a; intro a ha; refine wpList_nil ?_; replace ha := ha.sub (σ' := [(2, (.bool false))]) ⟨rfl, trivial⟩; refine e_then ?_; refine wp_ret ?_; refine e_then_ret ?_; obtain rfl := Option.some.inj hF
    exact f_ret1 ha rfl rfl ⟨rfl, hE234⟩
  replace hF := if_f hp236 hF; refine wp_skip ?_; refine e_then ?_; refine wp_seq ?_; refine wp_region_lit ?_; refine op_g ha rfl (g_assign rfl) ?_; clear ha a; intro a ha; refine wpList_nil ?_; replace ha := ha.sub (σ' := [(1, (.pointer (some ⟨b1, 0, none⟩))), (4, u44), (5, (.bool x39.2)), (7, u105), (10, (.int .i64 1))]) ⟨rfl, rfl, rfl, rfl, rfl, trivial⟩; refine e_then ?_; refine wp_seq ?_; refine wp_region_lit ?_; (iterate 2 refine op_g ha rfl (g_move rfl) ?_; clear ha a; intro a ha); obtain ⟨x237, hc238, hF⟩ := cal_some hF
  refine o_call ha rfl rfl Tryd.call20 (W_laws_markInt64S h108 (show InI 1 from by decide) hc238) ?_; clear ha a; rintro v239 w240 ⟨⟨rfl, hI242⟩, h243, hx241⟩ a ha
  replace hB3 := hB3.nq hx241 q111
  replace h47 := h47.nq hx241 q113
  have hE244 := Ext.then hE234 hx241 (Zn.bl q121)
  refine op_g ha rfl (g_assign rfl) ?_; clear ha a; intro a ha; refine wpList_nil ?_; replace ha := ha.sub (σ' := [(1, (.pointer (some ⟨b1, 0, none⟩))), (4, u44), (5, (.bool x39.2)), (7, u105), (10, (.int .i64 x237.1))]) ⟨rfl, rfl, rfl, rfl, rfl, trivial⟩; refine e_then ?_; refine wp_seq ?_; refine wp_region_lit ?_; refine op_g ha rfl (g_assign rfl) ?_; clear ha a; intro a ha; refine wpList_nil ?_; replace ha := ha.sub (σ' := [(1, (.pointer (some ⟨b1, 0, none⟩))), (4, u44), (5, (.bool x39.2)), (7, u105), (10, (.int .i64 x237.1)), (11, (.int .i64 1))]) ⟨rfl, rfl, rfl, rfl, rfl, rfl, trivial⟩; refine e_then ?_
  refine wp_seq ?_; refine wp_region_lit ?_; (iterate 2 refine op_g ha rfl (g_move rfl) ?_; clear ha a; intro a ha)
  obtain ⟨fp245, hro246, hs247⟩ := h243.roF
  obtain ⟨x248, hc249, hF⟩ := cal_some hF
  refine o_call ha rfl rfl Tryd.call21 (W_laws_heldInt64S hro246 (show InI 1 from by decide) hc249) ?_; clear ha a; rintro v250 w251 ⟨⟨rfl, hI253⟩, hx252⟩ a ha
  replace hB3 := hB3.ext hx252
  replace h47 := h47.ext hx252
  replace h243 := h243.ext hx252
  have hE254 := Ext.trans hE244 hx252
  refine op_g ha rfl (g_assign rfl) ?_; clear ha a; intro a ha; refine wpList_nil ?_; replace ha := ha.sub (σ' := [(1, (.pointer (some ⟨b1, 0, none⟩))), (4, u44), (5, (.bool x39.2)), (7, u105), (10, (.int .i64 x237.1)), (11, (.int .i64 x248))]) ⟨rfl, rfl, rfl, rfl, rfl, rfl, trivial⟩; refine e_then ?_; refine wp_seq ?_; refine wp_seq ?_; refine wp_region_lit ?_; refine op_g ha rfl (g_move rfl) ?_; clear ha a; intro a ha; refine op_g ha rfl (g_lss rfl rfl) ?_; clear ha a; intro a ha; refine wpList_nil ?_; replace ha := ha.sub (σ' := [(1, (.pointer (some ⟨b1, 0, none⟩))), (4, u44), (5, (.bool x39.2)), (7, u105), (10, (.int .i64 x237.1)), (11, (.int .i64 x248)), (69, (.bool (decide (x248 < 0))))]) ⟨rfl, rfl, rfl, rfl, rfl, rfl, rfl, trivial⟩
  refine e_then ?_; refine c_cond (x248 < 0) ha rfl (decide_eq_true_iff) (fun hp255 => ?_) (fun hp255 => ?_)
  · replace hF := if_t hp255 hF
    refine wp_seq ?_; refine wp_region_lit ?_; refine op_g ha rfl (g_assign rfl) ?_; clear ha a; intro a ha; refine wpList_nil ?_; replace ha := ha.sub (σ' := [(2, (.bool false))]) ⟨rfl, trivial⟩; refine e_then ?_; refine wp_ret ?_; refine e_then_ret ?_; obtain rfl := Option.some.inj hF
    exact f_ret1 ha rfl rfl ⟨rfl, hE254⟩
  replace hF := if_f hp255 hF; refine wp_skip ?_; refine e_then ?_; refine wp_seq ?_; refine wp_seq ?_; refine wp_region_lit ?_; (iterate 2 refine op_g ha rfl (g_move rfl) ?_; clear ha a; intro a ha); refine op_g ha rfl (g_neq rfl rfl) ?_; clear ha a; intro a ha; refine wpList_nil ?_; replace ha := ha.sub (σ' := [(1, (.pointer (some ⟨b1, 0, none⟩))), (4, u44), (5, (.bool x39.2)), (7, u105), (10, (.int .i64 x237.1)), (72, (.bool (decide (x248 ≠ x237.1))))]) ⟨rfl, rfl, rfl, rfl, rfl, rfl, trivial⟩; refine e_then ?_; refine c_cond (x248 ≠ x237.1) ha rfl (decide_eq_true_iff) (fun hp256 => ?_) (fun hp256 => ?_)
  · replace hF := if_t hp256 hF
    refine wp_seq ?_; refine wp_region_lit ?_; refine op_g ha rfl (g_assign rfl) ?_; clear ha a; intro a ha; refine wpList_nil ?_; replace ha := ha.sub (σ' := [(2, (.bool false))]) ⟨rfl, trivial⟩; refine e_then ?_; refine wp_ret ?_; refine e_then_ret ?_; obtain rfl := Option.some.inj hF
    exact f_ret1 ha rfl rfl ⟨rfl, hE254⟩
  replace hF := if_f hp256 hF; refine wp_skip ?_; refine e_then ?_; refine wp_seq ?_; refine wp_region_lit ?_; refine op_g ha rfl (g_loadA (cs := [va0_0]) Tryd.isAgg24 Tryd.sizeOf24 rfl (by simp) hB3.all) ?_; clear ha a; intro a ha; obtain ⟨x257, hc258, hF⟩ := cal_some hF
  refine o_call ha rfl rfl Tryd.call8 (W_laws_toGraph (ha0_0.ext hE254) hc258) ?_; clear ha a; rintro v259 w260 ⟨u262, b263, fs267, rfl, h264, z265, zf268, nd269, hx261⟩ a ha
  have q270 := Nq.new hB3.fpb z265
  have q271 := Nq.madeF z265 zf268 hB3.bi
  have q272 := Nq.new h47.fpb z265
  have q273 := Nq.madeF z265 zf268 h47.blt
  have q274 := Nq.new h243.fpb z265
  have q275 := Nq.madeF z265 zf268 h243.blt
  have q276 := Nf.new hB3.fpb zf268
  have q277 := Nf.new h47.fpb zf268
  have q278 := Nf.new h243.fpb zf268
  replace hB3 := hB3.ext hx261
  replace h47 := h47.ext hx261
  replace h243 := h243.ext hx261
  have hE279 := Ext.trans hE254 hx261
  have q280 := Zn.upD z265 hE254
  have q281 := zf_up zf268 hE254
  obtain ⟨fp282, hro283, hs284⟩ := h264.roF
  obtain ⟨x285, hc286, hF⟩ := cal_some hF
  refine o_call ha rfl rfl Tryd.call18 (W_impl_RoundTrip hro283 (hG.ext hE279) hc286) ?_; clear ha a; rintro v287 w288 ⟨u290, u291, b292, rfl, h293, z294, rfl, hx289⟩ a ha
  have q296 := Nq.new hB3.fpb z294
  have q297 := Nq.madeO z294 hB3.bi
  have q298 := Nq.new h47.fpb z294
  have q299 := Nq.madeO z294 h47.blt
  have q300 := Nq.new h243.fpb z294
  have q301 := Nq.madeO z294 h243.blt
  have q302 := Nq.new h264.fpb z294
  have q303 := Nq.madeO z294 h264.blt
  have q304 := Nf.old z294 (zf_nil _) h264.bnd
  replace hB3 := hB3.ext hx289
  replace h47 := h47.ext hx289
  replace h243 := h243.ext hx289
  replace h264 := h264.ext hx289
  have hE305 := Ext.trans hE279 hx289
  have q306 := Zn.upD z294 hE279
  refine op_g ha rfl (g_move rfl) ?_; clear ha a; intro a ha; (iterate 2 refine op_g ha rfl (g_extract rfl rfl) ?_; clear ha a; intro a ha); (iterate 2 refine op_g ha rfl (g_assign rfl) ?_; clear ha a; intro a ha); refine wpList_nil ?_; replace ha := ha.sub (σ' := [(4, u44), (5, (.bool x39.2)), (7, u105), (10, (.int .i64 x237.1)), (12, u290), (13, (.bool x285.2))]) ⟨rfl, rfl, rfl, rfl, rfl, rfl, trivial⟩; refine e_then ?_; refine wp_seq ?_; refine wp_seq ?_; refine wp_region_lit ?_; (iterate 2 refine op_g ha rfl (g_move rfl) ?_; clear ha a; intro a ha)
  obtain ⟨fp321, hro322, hs323⟩ := h293.roF
  obtain ⟨fp324, hro325, hs326⟩ := h47.roF
  obtain ⟨x327, hc328, hF⟩ := cal_some hF
  refine o_call ha rfl rfl Tryd.call19 (W_laws_eqInt64S hro322 hro325 hc328) ?_; clear ha a; rintro v329 w330 ⟨rfl, hx331⟩ a ha
  replace h47 := h47.ext hx331
  replace h243 := h243.ext hx331
  replace h293 := h293.ext hx331
  have hE332 := Ext.trans hE305 hx331
  refine op_g ha rfl (g_not rfl) ?_; clear ha a; intro a ha; refine op_g ha rfl (g_move rfl) ?_; clear ha a; intro a ha
  by_cases hp333 : ¬ (x327 = true)
  · replace hF := if_t hp333 hF
    rw [show (!x327) = true from (n_iff (Iff.rfl)).2 hp333] at ha
    (iterate 3 refine op_unwant ha rfl (yields ha rfl rfl) rfl ?_; clear ha a; intro a ha); refine op_g ha rfl (g_pick rfl rfl) ?_; clear ha a; intro a ha; refine wpList_nil ?_; replace ha := ha.sub (σ' := [(7, u105), (10, (.int .i64 x237.1)), (87, (.bool true))]) ⟨rfl, rfl, rfl, trivial⟩; refine e_then ?_; refine c_true ha rfl ?_; refine wp_seq ?_; refine wp_region_lit ?_; refine op_g ha rfl (g_assign rfl) ?_; clear ha a; intro a ha; refine wpList_nil ?_; replace ha := ha.sub (σ' := [(2, (.bool false))]) ⟨rfl, trivial⟩; refine e_then ?_; refine wp_ret ?_; refine e_then_ret ?_; obtain rfl := Option.some.inj hF
    exact f_ret1 ha rfl rfl ⟨rfl, hE332⟩
  replace hF := if_f hp333 hF
  rw [show (!x327) = false from b_false (n_iff (Iff.rfl)) hp333] at ha
  refine op_want (yields ha rfl rfl) ?_; refine op_g ha rfl (g_move rfl) ?_; clear ha a; intro a ha; refine op_want (yields ha rfl rfl) ?_; refine op_g ha rfl (g_move rfl) ?_; clear ha a; intro a ha; refine op_want (yields ha rfl rfl) ?_; refine op_g ha rfl (gB_neq un4 rfl rfl) ?_; clear ha a; intro a ha; refine op_g ha rfl (g_pick rfl rfl) ?_; clear ha a; intro a ha; refine wpList_nil ?_; replace ha := ha.sub (σ' := [(7, u105), (10, (.int .i64 x237.1)), (87, (.bool (x285.2 != x39.2)))]) ⟨rfl, rfl, rfl, trivial⟩; refine e_then ?_; refine c_cond ((x285.2 != x39.2) = true) ha rfl (Iff.rfl) (fun hp334 => ?_) (fun hp334 => ?_)
  · replace hF := if_t hp334 hF
    refine wp_seq ?_; refine wp_region_lit ?_; refine op_g ha rfl (g_assign rfl) ?_; clear ha a; intro a ha; refine wpList_nil ?_; replace ha := ha.sub (σ' := [(2, (.bool false))]) ⟨rfl, trivial⟩; refine e_then ?_; refine wp_ret ?_; refine e_then_ret ?_; obtain rfl := Option.some.inj hF
    exact f_ret1 ha rfl rfl ⟨rfl, hE332⟩
  replace hF := if_f hp334 hF; refine wp_skip ?_; refine e_then ?_; refine wp_seq ?_; refine wp_region_lit ?_; refine op_g ha rfl (g_assign rfl) ?_; clear ha a; intro a ha; refine wpList_nil ?_; replace ha := ha.sub (σ' := [(7, u105), (10, (.int .i64 x237.1)), (11, (.int .i64 1))]) ⟨rfl, rfl, rfl, trivial⟩; refine e_then ?_; refine wp_seq ?_; refine wp_region_lit ?_; (iterate 2 refine op_g ha rfl (g_move rfl) ?_; clear ha a; intro a ha)
  obtain ⟨fp335, hro336, hs337⟩ := h243.roF
  obtain ⟨x338, hc339, hF⟩ := cal_some hF
  refine o_call ha rfl rfl Tryd.call21 (W_laws_heldInt64S hro336 (show InI 1 from by decide) hc339) ?_; clear ha a; rintro v340 w341 ⟨⟨rfl, hI343⟩, hx342⟩ a ha
  replace h243 := h243.ext hx342
  have hE344 := Ext.trans hE332 hx342
  refine op_g ha rfl (g_assign rfl) ?_; clear ha a; intro a ha; refine wpList_nil ?_; replace ha := ha.sub (σ' := [(10, (.int .i64 x237.1)), (11, (.int .i64 x338))]) ⟨rfl, rfl, trivial⟩; refine e_then ?_; refine wp_seq ?_; refine wp_seq ?_; refine wp_region_lit ?_; refine op_g ha rfl (g_move rfl) ?_; clear ha a; intro a ha; refine op_g ha rfl (g_lss rfl rfl) ?_; clear ha a; intro a ha; refine wpList_nil ?_; replace ha := ha.sub (σ' := [(10, (.int .i64 x237.1)), (11, (.int .i64 x338)), (92, (.bool (decide (x338 < 0))))]) ⟨rfl, rfl, rfl, trivial⟩; refine e_then ?_; refine c_cond (x338 < 0) ha rfl (decide_eq_true_iff) (fun hp345 => ?_) (fun hp345 => ?_)
  · replace hF := if_t hp345 hF
    refine wp_seq ?_; refine wp_region_lit ?_; refine op_g ha rfl (g_assign rfl) ?_; clear ha a; intro a ha; refine wpList_nil ?_; replace ha := ha.sub (σ' := [(2, (.bool false))]) ⟨rfl, trivial⟩; refine e_then ?_; refine wp_ret ?_; refine e_then_ret ?_; obtain rfl := Option.some.inj hF
    exact f_ret1 ha rfl rfl ⟨rfl, hE344⟩
  replace hF := if_f hp345 hF; refine wp_skip ?_; refine e_then ?_; refine wp_seq ?_; refine wp_seq ?_; refine wp_region_lit ?_; (iterate 2 refine op_g ha rfl (g_move rfl) ?_; clear ha a; intro a ha); refine op_g ha rfl (g_neq rfl rfl) ?_; clear ha a; intro a ha; refine wpList_nil ?_; replace ha := ha.sub (σ' := [(95, (.bool (decide (x338 ≠ x237.1))))]) ⟨rfl, trivial⟩; refine e_then ?_; refine c_cond (x338 ≠ x237.1) ha rfl (decide_eq_true_iff) (fun hp346 => ?_) (fun hp346 => ?_)
  · replace hF := if_t hp346 hF
    refine wp_seq ?_; refine wp_region_lit ?_; refine op_g ha rfl (g_assign rfl) ?_; clear ha a; intro a ha; refine wpList_nil ?_; replace ha := ha.sub (σ' := [(2, (.bool false))]) ⟨rfl, trivial⟩; refine e_then ?_; refine wp_ret ?_; refine e_then_ret ?_; obtain rfl := Option.some.inj hF
    exact f_ret1 ha rfl rfl ⟨rfl, hE344⟩
  replace hF := if_f hp346 hF; refine wp_skip ?_; refine e_then ?_; refine wp_seq ?_; refine wp_region_lit ?_; refine op_g ha rfl (g_assign rfl) ?_; clear ha a; intro a ha; refine wpList_nil ?_; replace ha := ha.sub (σ' := [(2, (.bool true))]) ⟨rfl, trivial⟩; refine e_then ?_; refine wp_ret ?_; obtain rfl := Option.some.inj hF
  exact f_ret1 ha rfl rfl ⟨rfl, hE344⟩
end Go.Proofs.YthbmcbflnibpbaaDoor
