/- Walks, printed by gen.py. -/
import Derived.Test.YthbmcbflnibpbabDoorF
import Derived.Test.YthbmcbflnibpbabDoorW2
import Derived.Test.YthbmcbflnibpbabDoorProg
import Derived.KernelRfl
set_option maxRecDepth 100000
namespace Go.Proofs.YthbmcbflnibpbabDoor
open Go Go.RowKit

set_option maxHeartbeats 2000000 in
theorem W_impl_longer_step {rc : (List (BitVec 32)) → (List Int) → (List Int) → (BitVec 32) → Int → Option (List Int)} (ih : ∀ {W : World} {va0 : Value} {fa0 : List Nat} {a0 : (List (BitVec 32))} (ha0 : Ro Rp.u32 W fa0 va0 a0) {va1 : Value} {fa1 : List Nat} {a1 : (List Int)} (ha1 : Ro Rp.int W fa1 va1 a1) {va2 : Value} {fa2 : List Nat} {a2 : (List Int)} (ha2 : Ro Rp.int W fa2 va2 a2) {a3 : BitVec 32} {a4 : Int} (ha4 : InI a4) (hG : GT 0 W) {r : (List Int)} (hF : rc a0 a1 a2 a3 a4 = some r),
    Calls Tryd.prog 40 [va0, va1, va2, .int .u32 (BitVec.toNat a3 : Int), .int .i64 a4].toArray W (Ret fun u w' => ∃ (b_u : Int), Ow Rp.int 3 true w' [] b_u u r ∧ Zn W b_u ∧ (b_u < 0 ∨ r ≠ []) ∧ Ext W w')) {W : World} {va0 : Value} {fa0 : List Nat} {a0 : (List (BitVec 32))} (ha0 : Ro Rp.u32 W fa0 va0 a0) {va1 : Value} {fa1 : List Nat} {a1 : (List Int)} (ha1 : Ro Rp.int W fa1 va1 a1) {va2 : Value} {fa2 : List Nat} {a2 : (List Int)} (ha2 : Ro Rp.int W fa2 va2 a2) {a3 : BitVec 32} {a4 : Int} (ha4 : InI a4) (hG : GT 0 W) {r : (List Int)} (hF : F_impl_longer_body rc a0 a1 a2 a3 a4 = some r) :
    Calls Tryd.prog 40 [va0, va1, va2, .int .u32 (BitVec.toNat a3 : Int), .int .i64 a4].toArray W (Ret fun u w' => ∃ (b_u : Int), Ow Rp.int 3 true w' [] b_u u r ∧ Zn W b_u ∧ (b_u < 0 ∨ r ≠ []) ∧ Ext W w') := by
  refine f_enter Tryd.func40 rfl Tryd.ntmps40 rfl ?_
  intro a ha
  replace ha : Fr 95 [(0, va0), (1, va1), (2, va2), (3, (.int .u32 (BitVec.toNat a3 : Int))), (4, (.int .i64 a4))] a := ha
  have hE : Chg [] W W := Chg.refl _ _
  unfold F_impl_longer_body at hF
  refine wp_seq ?_; refine wp_region_lit ?_; refine op_g ha rfl (g_assign rfl) ?_; clear ha a; intro a ha; refine wpList_nil ?_; replace ha := ha.sub (σ' := [(0, va0), (1, va1), (2, va2), (3, (.int .u32 (BitVec.toNat a3 : Int))), (4, (.int .i64 a4))]) ⟨rfl, rfl, rfl, rfl, rfl, trivial⟩; refine e_then ?_; refine wp_seq ?_; refine wp_region_lit ?_; (iterate 2 refine op_g ha rfl (g_move rfl) ?_; clear ha a; intro a ha); refine op_g ha rfl (g_lenR sl53.und ha2 rfl) ?_; clear ha a; intro a ha; obtain ⟨hI1, hF⟩ := ck_some hF; refine op_g ha rfl (g_sub rfl rfl hI1) ?_; clear ha a; intro a ha; obtain ⟨x3, g4, gx5, hF⟩ := idx_some hF
  obtain ⟨p6, cs7, f8, hf9, hpb10, hat11, hr12, hi13⟩ := ha2.at g4 gx5
  obtain ⟨rfl, hI14, rfl⟩ := hr12
  refine op_g ha rfl (hi13.gives sl53 rfl rfl) ?_; clear ha a; intro a ha; refine op_g ha rfl (g_load0 hE Tryd.isAgg3 rfl hat11.one) ?_; clear ha a; intro a ha; refine op_g ha rfl (g_assign rfl) ?_; clear ha a; intro a ha; refine wpList_nil ?_; replace ha := ha.sub (σ' := [(0, va0), (1, va1), (2, va2), (3, (.int .u32 (BitVec.toNat a3 : Int))), (4, (.int .i64 a4)), (11, (.int .i64 x3))]) ⟨rfl, rfl, rfl, rfl, rfl, rfl, trivial⟩; refine e_then ?_; refine wp_seq ?_; refine wp_seq ?_; refine wp_region_lit ?_; (iterate 2 refine op_g ha rfl (g_move rfl) ?_; clear ha a; intro a ha); obtain ⟨x15, g16, gx17, hF⟩ := idx_some hF
  obtain ⟨p18, cs19, f20, hf21, hpb22, hat23, hr24, hi25⟩ := ha0.at g16 gx17
  obtain ⟨rfl, rfl⟩ := hr24
  refine op_g ha rfl (hi25.gives sl47 rfl rfl) ?_; clear ha a; intro a ha; refine op_g ha rfl (g_load0 hE Tryd.isAgg51 rfl hat23.one) ?_; clear ha a; intro a ha; refine op_g ha rfl (g_move rfl) ?_; clear ha a; intro a ha; refine op_g ha rfl (g32_andNot (m := x15) (n := a3) rfl rfl) ?_; clear ha a; intro a ha; obtain ⟨x26, hc27, hF⟩ := cal_some hF
  refine o_call ha rfl rfl Tryd.call50 (W_impl_vset_list (hG.ext hE) hc27) ?_; clear ha a; rintro v28 w29 ⟨b31, h32, z33, hx30⟩ a ha
  have hE35 := Ext.trans hE hx30
  have q36 := Zn.upD z33 hE
  refine op_g ha rfl (g_lenO sl53.und h32 rfl) ?_; clear ha a; intro a ha; refine op_g ha rfl (g_move rfl) ?_; clear ha a; intro a ha; refine wpList_nil ?_; replace ha := ha.sub (σ' := [(0, va0), (1, va1), (2, va2), (3, (.int .u32 (BitVec.toNat a3 : Int))), (4, (.int .i64 a4)), (11, (.int .i64 x3)), (28, v28), (29, (.int .i64 (x26.length : Int))), (30, (.int .i64 0))]) ⟨rfl, rfl, rfl, rfl, rfl, rfl, rfl, rfl, rfl, trivial⟩; refine e_then ?_; obtain ⟨o366, ho367, hK368⟩ := bnd_some hF
  obtain ⟨n369, hn370⟩ := lp_some ho367; clear ho367
  refine c_loop (fun a w => Fr 95 [] a ∧ Chg [] W w ∧ o366 = .inl ()) (fun n a w => ∃ (i204 : Int), Fr 95 [(0, va0), (1, va1), (2, va2), (3, (.int .u32 (BitVec.toNat a3 : Int))), (4, (.int .i64 a4)), (11, (.int .i64 x3)), (28, v28), (29, (.int .i64 (x26.length : Int))), (30, (.int .i64 i204))] a ∧ Chg [] W w ∧ InI i204 ∧ Ow Rp.int 3 true w [] b31 v28 x26 ∧ Zn W b31 ∧ lpN (fun s => F_impl_longer_l1 a0 a1 a2 a3 a4 rc x3 x26 s) n i204 = some o366) n369 ⟨0, ha.sub ⟨rfl, rfl, rfl, rfl, rfl, rfl, rfl, rfl, rfl, trivial⟩, hE35, (show InI 0 from by decide), h32, q36, hn370⟩ ?_ ?_
  · rintro m374 a w200 ⟨i204, ha, hE206, hI205, h202, z203, hF⟩
    cases m374 with
    | zero => exact (lpN_zero hF).elim
    | succ m374 =>
      obtain ⟨z373, hF, hN372⟩ := lpN_succ hF
      have hF : F_impl_longer_l1 a0 a1 a2 a3 a4 rc x3 x26 i204 = some z373 := hF; unfold F_impl_longer_l1 at hF
      refine wp_seq ?_; refine wp_region_lit ?_; refine op_g ha rfl (g_lss rfl rfl) ?_; clear ha a; intro a ha; refine wpList_nil ?_; replace ha := ha.sub (σ' := [(0, va0), (1, va1), (2, va2), (3, (.int .u32 (BitVec.toNat a3 : Int))), (4, (.int .i64 a4)), (11, (.int .i64 x3)), (28, v28), (29, (.int .i64 (x26.length : Int))), (30, (.int .i64 i204)), (31, (.bool (decide (i204 < (x26.length : Int)))))]) ⟨rfl, rfl, rfl, rfl, rfl, rfl, rfl, rfl, rfl, rfl, trivial⟩; refine e_then ?_; refine wp_seq ?_; refine c_cond (i204 < (x26.length : Int)) ha rfl (decide_eq_true_iff) (fun hp375 => ?_) (fun hp375 => ?_)
      · replace hF := if_t hp375 hF
        refine wp_skip ?_; refine e_then ?_; refine wp_seq ?_; refine wp_block ?_; refine wp_seq ?_; refine wp_region_lit ?_; obtain ⟨x376, g377, gx378, hF⟩ := idx_some hF
        obtain ⟨p379, cs380, f381, hf382, hpb383, hat384, hr385, hi386⟩ := h202.at g377 gx378
        obtain ⟨rfl, hI387, rfl⟩ := hr385
        refine op_g ha rfl (hi386.gives sl53 rfl rfl) ?_; clear ha a; intro a ha; refine op_g ha rfl (g_load Tryd.isAgg3 rfl hat384.one) ?_; clear ha a; intro a ha; refine op_g ha rfl (g_assign rfl) ?_; clear ha a; intro a ha; refine wpList_nil ?_; replace ha := ha.sub (σ' := [(0, va0), (1, va1), (2, va2), (3, (.int .u32 (BitVec.toNat a3 : Int))), (4, (.int .i64 a4)), (11, (.int .i64 x3)), (13, (.int .i64 x376)), (28, v28), (29, (.int .i64 (x26.length : Int))), (30, (.int .i64 i204))]) ⟨rfl, rfl, rfl, rfl, rfl, rfl, rfl, rfl, rfl, rfl, trivial⟩; refine e_then ?_; refine wp_seq ?_; refine wp_region_lit ?_
        refine op_g ha rfl (g_move rfl) ?_; clear ha a; intro a ha; obtain ⟨x388, hc389, hF⟩ := cal_some hF
        refine o_call ha rfl rfl Tryd.call59 (W_slices_Clone_int (ha2.ext hE206) hc389) ?_; clear ha a; rintro v390 w391 ⟨b393, h394, z395, hx392⟩ a ha
        have q397 := Nq.new h202.fpb z395
        have q398 := Nq.madeO z395 h202.blt
        replace h202 := h202.ext hx392
        have hE399 := Ext.trans hE206 hx392
        have q400 := Zn.upD z395 hE206
        refine op_g ha rfl (g_move rfl) ?_; clear ha a; intro a ha
        refine o_lit1 (o := true) (y := x376) Rp.int ha rfl sl53 rfl rfl rfl ⟨rfl, hI387, rfl⟩ ?_; clear ha a; intro v401 w402 h403 hx404 a ha
        obtain ⟨b406, hb406⟩ : ∃ b : Int, b = w391.heap.size := ⟨_, rfl⟩; rw [← hb406] at h403
        have q407 := zn_of hb406
        have q408 := Nq.new h202.fpb q407
        have q409 := Nq.madeO q407 h202.blt
        have q410 := Nq.new h394.fpb q407
        have q411 := Nq.madeO q407 h394.blt
        have q412 := Zn.upD q407 hE399
        replace h202 := h202.ext hx404
        replace h394 := h394.ext hx404
        have hE413 := Ext.trans hE399 hx404
        obtain ⟨hl414, hF⟩ := app_some hF
        refine o_append ha rfl sl53 rfl rfl rfl h394 h403.src (Nq.nil _) hl414 ?_; clear ha a; intro v415 w416 b417 h418 hc419 hb420 a ha
        replace h418 : Ow Rp.int 3 true w416 [] b417 v415 _ := h418
        have q422 := Nq.appY q397 h202.fpb hb420
        have q423 := Nq.appX q398 (Nq.nil _) hb420 h202.blt
        have q424 := Nq.appY q411 h403.fpb hb420
        have q425 := Nq.appX q410 (Nq.nil _) hb420 h403.blt
        have q426 := Zn.appD q400 hb420 hE413
        replace h202 := h202.nq hc419 q397
        replace h403 := h403.nq hc419 q411
        have hE427 := Ext.then hE413 hc419 (Zn.bl q400)
        refine op_g ha rfl (g_assign rfl) ?_; clear ha a; intro a ha; refine wpList_nil ?_; replace ha := ha.sub (σ' := [(0, va0), (1, va1), (2, va2), (3, (.int .u32 (BitVec.toNat a3 : Int))), (4, (.int .i64 a4)), (11, (.int .i64 x3)), (13, (.int .i64 x376)), (14, v415), (28, v28), (29, (.int .i64 (x26.length : Int))), (30, (.int .i64 i204))]) ⟨rfl, rfl, rfl, rfl, rfl, rfl, rfl, rfl, rfl, rfl, rfl, trivial⟩; refine e_then ?_; refine wp_seq ?_; refine wp_seq ?_; refine wp_region_lit ?_; (iterate 2 refine op_g ha rfl (g_move rfl) ?_; clear ha a; intro a ha); obtain ⟨x428, g429, gx430, hF⟩ := idx_some hF
        obtain ⟨p431, cs432, f433, hf434, hpb435, hat436, hr437, hi438⟩ := ha1.at g429 gx430
        obtain ⟨rfl, hI439, rfl⟩ := hr437
        refine op_g ha rfl (hi438.gives sl53 rfl rfl) ?_; clear ha a; intro a ha; refine op_g ha rfl (g_load0 hE427 Tryd.isAgg3 rfl hat436.one) ?_; clear ha a; intro a ha; refine op_g ha rfl (g_lss rfl rfl) ?_; clear ha a; intro a ha; refine wpList_nil ?_; replace ha := ha.sub (σ' := [(0, va0), (1, va1), (2, va2), (3, (.int .u32 (BitVec.toNat a3 : Int))), (4, (.int .i64 a4)), (11, (.int .i64 x3)), (13, (.int .i64 x376)), (14, v415), (28, v28), (29, (.int .i64 (x26.length : Int))), (30, (.int .i64 i204)), (43, (.bool (decide (x428 < 0))))]) ⟨rfl, rfl, rfl, rfl, rfl, rfl, rfl, rfl, rfl, rfl, rfl, rfl, trivial⟩
        refine e_then ?_; refine c_cond (x428 < 0) ha rfl (decide_eq_true_iff) (fun hp440 => ?_) (fun hp440 => ?_)
        · replace hF := if_t hp440 hF
          refine wp_seq ?_; refine wp_seq ?_; refine wp_region_lit ?_; refine op_g ha rfl (g_move rfl) ?_; clear ha a; intro a ha; refine op_g ha rfl (g_lenO sl53.und h418 rfl) ?_; clear ha a; intro a ha; refine op_g ha rfl (g_move rfl) ?_; clear ha a; intro a ha; refine op_g ha rfl (g_eql rfl rfl) ?_; clear ha a; intro a ha; refine wpList_nil ?_; replace ha := ha.sub (σ' := [(0, va0), (1, va1), (2, va2), (3, (.int .u32 (BitVec.toNat a3 : Int))), (4, (.int .i64 a4)), (11, (.int .i64 x3)), (14, v415), (28, v28), (29, (.int .i64 (x26.length : Int))), (30, (.int .i64 i204)), (47, (.bool (decide (((x388 ++ ([x376])).length : Int) = a4))))]) ⟨rfl, rfl, rfl, rfl, rfl, rfl, rfl, rfl, rfl, rfl, rfl, trivial⟩
          refine e_then ?_; refine c_cond (((x388 ++ ([x376])).length : Int) = a4) ha rfl (decide_eq_true_iff) (fun hp441 => ?_) (fun hp441 => ?_)
          · replace hF := if_t hp441 hF
            refine wp_seq ?_; refine wp_region_lit ?_; refine op_g ha rfl (g_move rfl) ?_; clear ha a; intro a ha; refine op_g ha rfl (g_assign rfl) ?_; clear ha a; intro a ha; refine wpList_nil ?_; replace ha := ha.sub (σ' := [(10, v415)]) ⟨rfl, trivial⟩; refine e_then ?_; refine wp_ret ?_; refine e_then_ret ?_; refine e_then_ret ?_; refine e_blk_ret ?_; refine e_then_ret ?_; refine e_lq_ret ?_; refine e_then_ret ?_; obtain ⟨hz442, hF⟩ := grd_some hF; obtain rfl := Option.some.inj hF
            have e443 := LK_inr hN372; subst e443
            have e444 := BK_inr hK368; subst e444
            exact f_ret1 ha rfl rfl ⟨_, h418, q426, (.inr hz442), hE427⟩
          replace hF := if_f hp441 hF; refine wp_skip ?_; refine e_then ?_; refine wp_exit ?_; refine e_then_exit ?_; refine e_blk_eq ?_; refine e_then ?_; refine wp_region_lit ?_; obtain ⟨hI445, hF⟩ := ck_some hF; refine op_g ha rfl (g_add rfl rfl hI445) ?_; clear ha a; intro a ha; refine op_g ha rfl (g_move rfl) ?_; clear ha a; intro a ha; refine wpList_nil ?_; replace ha := ha.sub (σ' := [(0, va0), (1, va1), (2, va2), (3, (.int .u32 (BitVec.toNat a3 : Int))), (4, (.int .i64 a4)), (11, (.int .i64 x3)), (28, v28), (29, (.int .i64 (x26.length : Int))), (30, (.int .i64 (i204 + 1)))]) ⟨rfl, rfl, rfl, rfl, rfl, rfl, rfl, rfl, rfl, trivial⟩
          refine e_lq ?_; obtain rfl := Option.some.inj hF
          exact ⟨_, Nat.lt_succ_self _, i204 + 1, ha.sub ⟨rfl, rfl, rfl, rfl, rfl, rfl, rfl, rfl, rfl, trivial⟩, hE427, hI445, h202, z203, hN372⟩
        replace hF := if_f hp440 hF; refine wp_skip ?_; refine e_then ?_; refine wp_seq ?_; refine wp_seq ?_; refine wp_region_lit ?_; refine op_g ha rfl (g_move rfl) ?_; clear ha a; intro a ha; refine op_g ha rfl (g_lenO sl53.und h418 rfl) ?_; clear ha a; intro a ha; obtain ⟨hI482, hF⟩ := ck_some hF; refine op_g ha rfl (g_add rfl rfl hI482) ?_; clear ha a; intro a ha; refine op_g ha rfl (g_move rfl) ?_; clear ha a; intro a ha; refine op_g ha rfl (g_geq rfl rfl) ?_; clear ha a; intro a ha; refine op_g ha rfl (g_move rfl) ?_; clear ha a; intro a ha
        by_cases hp484 : a4 ≤ (((x388 ++ ([x376])).length : Int) + 1)
        · replace hF := if_t hp484 hF
          rw [show (decide (a4 ≤ (((x388 ++ ([x376])).length : Int) + 1))) = true from (decide_eq_true_iff).2 hp484] at ha
          (iterate 6 refine op_unwant ha rfl (yields ha rfl rfl) rfl ?_; clear ha a; intro a ha); refine op_g ha rfl (g_pick rfl rfl) ?_; clear ha a; intro a ha; refine op_g ha rfl (g_move rfl) ?_; clear ha a; intro a ha; (iterate 6 refine op_unwant ha rfl (yields ha rfl rfl) rfl ?_; clear ha a; intro a ha); refine op_g ha rfl (g_pick rfl rfl) ?_; clear ha a; intro a ha; refine wpList_nil ?_; replace ha := ha.sub (σ' := [(0, va0), (1, va1), (2, va2), (3, (.int .u32 (BitVec.toNat a3 : Int))), (4, (.int .i64 a4)), (11, (.int .i64 x3)), (13, (.int .i64 x376)), (14, v415), (28, v28), (29, (.int .i64 (x26.length : Int))), (30, (.int .i64 i204)), (69, (.bool true))]) ⟨rfl, rfl, rfl, rfl, rfl, rfl, rfl, rfl, rfl, rfl, rfl, rfl, trivial⟩
          refine e_then ?_; refine c_true ha rfl ?_; refine wp_exit ?_; refine e_then_exit ?_; refine e_blk_eq ?_; refine e_then ?_; refine wp_region_lit ?_; obtain ⟨hI485, hF⟩ := ck_some hF; refine op_g ha rfl (g_add rfl rfl hI485) ?_; clear ha a; intro a ha; refine op_g ha rfl (g_move rfl) ?_; clear ha a; intro a ha; refine wpList_nil ?_; replace ha := ha.sub (σ' := [(0, va0), (1, va1), (2, va2), (3, (.int .u32 (BitVec.toNat a3 : Int))), (4, (.int .i64 a4)), (11, (.int .i64 x3)), (28, v28), (29, (.int .i64 (x26.length : Int))), (30, (.int .i64 (i204 + 1)))]) ⟨rfl, rfl, rfl, rfl, rfl, rfl, rfl, rfl, rfl, trivial⟩
          refine e_lq ?_; obtain rfl := Option.some.inj hF
          exact ⟨_, Nat.lt_succ_self _, i204 + 1, ha.sub ⟨rfl, rfl, rfl, rfl, rfl, rfl, rfl, rfl, rfl, trivial⟩, hE427, hI485, h202, z203, hN372⟩
        replace hF := if_f hp484 hF
        rw [show (decide (a4 ≤ (((x388 ++ ([x376])).length : Int) + 1))) = false from b_false (decide_eq_true_iff) hp484] at ha
        refine op_want (yields ha rfl rfl) ?_; refine op_g ha rfl (g_move rfl) ?_; clear ha a; intro a ha; refine op_want (yields ha rfl rfl) ?_; refine op_g ha rfl (g_move rfl) ?_; clear ha a; intro a ha; refine op_want (yields ha rfl rfl) ?_; obtain ⟨x487, g488, gx489, hF⟩ := idx_some hF
        obtain ⟨p490, cs491, f492, hf493, hpb494, hat495, hr496, hi497⟩ := ha1.at g488 gx489
        obtain ⟨rfl, hI498, rfl⟩ := hr496
        refine op_g ha rfl (hi497.gives sl53 rfl rfl) ?_; clear ha a; intro a ha; refine op_want (yields ha rfl rfl) ?_; refine op_g ha rfl (g_load0 hE427 Tryd.isAgg3 rfl hat495.one) ?_; clear ha a; intro a ha; refine op_want (yields ha rfl rfl) ?_; refine op_g ha rfl (g_move rfl) ?_; clear ha a; intro a ha; refine op_want (yields ha rfl rfl) ?_; refine op_g ha rfl (g_eql rfl rfl) ?_; clear ha a; intro a ha; refine op_g ha rfl (g_pick rfl rfl) ?_; clear ha a; intro a ha; refine op_g ha rfl (g_move rfl) ?_; clear ha a; intro a ha
        by_cases hp499 : x487 = x376
        · replace hF := if_t hp499 hF
          rw [show (decide (x487 = x376)) = true from (decide_eq_true_iff).2 hp499] at ha
          (iterate 6 refine op_unwant ha rfl (yields ha rfl rfl) rfl ?_; clear ha a; intro a ha); refine op_g ha rfl (g_pick rfl rfl) ?_; clear ha a; intro a ha; refine wpList_nil ?_; replace ha := ha.sub (σ' := [(0, va0), (1, va1), (2, va2), (3, (.int .u32 (BitVec.toNat a3 : Int))), (4, (.int .i64 a4)), (11, (.int .i64 x3)), (13, (.int .i64 x376)), (14, v415), (28, v28), (29, (.int .i64 (x26.length : Int))), (30, (.int .i64 i204)), (55, va1), (56, (.int .i64 x3)), (57, (.pointer (some p490))), (58, (.int .i64 x487)), (59, (.int .i64 x376)), (60, (.bool true)), (69, (.bool true))]) ⟨rfl, rfl, rfl, rfl, rfl, rfl, rfl, rfl, rfl, rfl, rfl, rfl, rfl, rfl, rfl, rfl, rfl, rfl, trivial⟩
          refine e_then ?_; refine c_true ha rfl ?_; refine wp_exit ?_; refine e_then_exit ?_; refine e_blk_eq ?_; refine e_then ?_; refine wp_region_lit ?_; obtain ⟨hI500, hF⟩ := ck_some hF; refine op_g ha rfl (g_add rfl rfl hI500) ?_; clear ha a; intro a ha; refine op_g ha rfl (g_move rfl) ?_; clear ha a; intro a ha; refine wpList_nil ?_; replace ha := ha.sub (σ' := [(0, va0), (1, va1), (2, va2), (3, (.int .u32 (BitVec.toNat a3 : Int))), (4, (.int .i64 a4)), (11, (.int .i64 x3)), (28, v28), (29, (.int .i64 (x26.length : Int))), (30, (.int .i64 (i204 + 1))), (55, va1), (56, (.int .i64 x3)), (57, (.pointer (some p490))), (58, (.int .i64 x487)), (59, (.int .i64 x376)), (60, (.bool true))]) ⟨rfl, rfl, rfl, rfl, rfl, rfl, rfl, rfl, rfl, rfl, rfl, rfl, rfl, rfl, rfl, trivial⟩
          refine e_lq ?_; obtain rfl := Option.some.inj hF
          exact ⟨_, Nat.lt_succ_self _, i204 + 1, ha.sub ⟨rfl, rfl, rfl, rfl, rfl, rfl, rfl, rfl, rfl, trivial⟩, hE427, hI500, h202, z203, hN372⟩
        replace hF := if_f hp499 hF
        rw [show (decide (x487 = x376)) = false from b_false (decide_eq_true_iff) hp499] at ha
        refine op_want (yields ha rfl rfl) ?_; refine op_g ha rfl (g_move rfl) ?_; clear ha a; intro a ha; refine op_want (yields ha rfl rfl) ?_; refine op_g ha rfl (g_move rfl) ?_; clear ha a; intro a ha; refine op_want (yields ha rfl rfl) ?_; refine op_g ha rfl (g_move rfl) ?_; clear ha a; intro a ha; refine op_want (yields ha rfl rfl) ?_; obtain ⟨x502, g503, gx504, hF⟩ := idx_some hF
        obtain ⟨p505, cs506, f507, hf508, hpb509, hat510, hr511, hi512⟩ := ha1.at g503 gx504
        obtain ⟨rfl, hI513, rfl⟩ := hr511
        refine op_g ha rfl (hi512.gives sl53 rfl rfl) ?_; clear ha a; intro a ha; refine op_want (yields ha rfl rfl) ?_; refine op_g ha rfl (g_load0 hE427 Tryd.isAgg3 rfl hat510.one) ?_; clear ha a; intro a ha; refine op_want (yields ha rfl rfl) ?_; obtain ⟨x514, hc515, hF⟩ := cal_some hF
        refine o_call ha rfl rfl Tryd.call51 (W_impl_vset_has hI513 hc515) ?_; clear ha a; rintro v516 w517 ⟨rfl, hx518⟩ a ha
        replace h202 := h202.ext hx518
        replace h418 := h418.ext hx518
        have hE519 := Ext.trans hE427 hx518
        refine op_g ha rfl (g_pick rfl rfl) ?_; clear ha a; intro a ha; refine wpList_nil ?_; replace ha := ha.sub (σ' := [(0, va0), (1, va1), (2, va2), (3, (.int .u32 (BitVec.toNat a3 : Int))), (4, (.int .i64 a4)), (11, (.int .i64 x3)), (13, (.int .i64 x376)), (14, v415), (28, v28), (29, (.int .i64 (x26.length : Int))), (30, (.int .i64 i204)), (55, va1), (56, (.int .i64 x3)), (57, (.pointer (some p490))), (58, (.int .i64 x487)), (59, (.int .i64 x376)), (60, (.bool false)), (63, (.int .u32 (BitVec.toNat a3 : Int))), (64, va1), (65, (.int .i64 x376)), (66, (.pointer (some p505))), (67, (.int .i64 x502)), (68, (.bool x514)), (69, (.bool x514))]) ⟨rfl, rfl, rfl, rfl, rfl, rfl, rfl, rfl, rfl, rfl, rfl, rfl, rfl, rfl, rfl, rfl, rfl, rfl, rfl, rfl, rfl, rfl, rfl, rfl, trivial⟩
        refine e_then ?_; refine c_cond (x514 = true) ha rfl (Iff.rfl) (fun hp520 => ?_) (fun hp520 => ?_)
        · replace hF := if_t hp520 hF
          refine wp_exit ?_; refine e_then_exit ?_; refine e_blk_eq ?_; refine e_then ?_; refine wp_region_lit ?_; obtain ⟨hI521, hF⟩ := ck_some hF; refine op_g ha rfl (g_add rfl rfl hI521) ?_; clear ha a; intro a ha; refine op_g ha rfl (g_move rfl) ?_; clear ha a; intro a ha; refine wpList_nil ?_; replace ha := ha.sub (σ' := [(0, va0), (1, va1), (2, va2), (3, (.int .u32 (BitVec.toNat a3 : Int))), (4, (.int .i64 a4)), (11, (.int .i64 x3)), (28, v28), (29, (.int .i64 (x26.length : Int))), (30, (.int .i64 (i204 + 1))), (55, va1), (56, (.int .i64 x3)), (57, (.pointer (some p490))), (58, (.int .i64 x487)), (59, (.int .i64 x376)), (60, (.bool false)), (63, (.int .u32 (BitVec.toNat a3 : Int))), (64, va1), (65, (.int .i64 x376)), (66, (.pointer (some p505))), (67, (.int .i64 x502)), (68, (.bool x514))]) ⟨rfl, rfl, rfl, rfl, rfl, rfl, rfl, rfl, rfl, rfl, rfl, rfl, rfl, rfl, rfl, rfl, rfl, rfl, rfl, rfl, rfl, trivial⟩
          refine e_lq ?_; obtain rfl := Option.some.inj hF
          exact ⟨_, Nat.lt_succ_self _, i204 + 1, ha.sub ⟨rfl, rfl, rfl, rfl, rfl, rfl, rfl, rfl, rfl, trivial⟩, hE519, hI521, h202, z203, hN372⟩
        replace hF := if_f hp520 hF; refine wp_skip ?_; refine e_then ?_; refine wp_seq ?_
        have hS523 := Ext.below hE519
        refine x_regionB (B := W.heap.size) [0, 1, 2, 3, 4, 5, 6, 7, 8, 9, 10, 11, 12, 13, 14, 15, 16, 17, 18, 19, 20, 21] hmix ?_; refine x_g 0 rfl (by kernel_rfl) (want0 _) ha rfl hS523 (g_move rfl) ?_; clear ha a; intro a ha; refine x_g 1 rfl (by kernel_rfl) (want0 _) ha rfl hS523 (g_move rfl) ?_; clear ha a; intro a ha; refine x_g 2 rfl (by kernel_rfl) (want0 _) ha rfl hS523 (g_move rfl) ?_; clear ha a; intro a ha; refine x_g 3 rfl (by kernel_rfl) (want0 _) ha rfl hS523 (g_move rfl) ?_; clear ha a; intro a ha; refine x_g 4 rfl (by kernel_rfl) (want0 _) ha rfl hS523 (g_move rfl) ?_; clear ha a; intro a ha
        refine x_g 9 rfl (by kernel_rfl) (want0 _) ha rfl hS523 (g_move rfl) ?_; clear ha a; intro a ha; refine x_g 10 rfl (by kernel_rfl) (want0 _) ha rfl hS523 (g_move rfl) ?_; clear ha a; intro a ha; refine x_g 13 rfl (by kernel_rfl) (want0 _) ha rfl hS523 (g_move rfl) ?_; clear ha a; intro a ha; refine x_g 14 rfl (by kernel_rfl) (want0 _) ha rfl hS523 (g_move rfl) ?_; clear ha a; intro a ha; refine x_g 19 rfl (by kernel_rfl) (want0 _) ha rfl hS523 (g_move rfl) ?_; clear ha a; intro a ha; obtain ⟨xqr3o5_1, gqr3o5_1, gxqr3o5_1, hF⟩ := idx_some hF; obtain ⟨hlqr3o8_1, hF⟩ := app_some hF; obtain ⟨xqr3o11_1, hcqr3o11_1, hF⟩ := cal_some hF
        obtain ⟨xqr3o15_1, gqr3o15_1, gxqr3o15_1, hF⟩ := idx_some hF; obtain ⟨xqr3o17_1, hcqr3o17_1, hF⟩ := cal_some hF; obtain ⟨xqr3o20_1, hcqr3o20_1, hF⟩ := cal_some hF; refine x_many [5, 15] (by kernel_rfl) rfl fun wqr3_1 hxqr3_1 => ⟨⟨_, rfl, ?_⟩, ⟨_, rfl, ?_⟩, trivial⟩
        · skip
          replace h202 := h202.ext hxqr3_1
          replace h418 := h418.ext hxqr3_1
          have hEqr3o5_1 := Ext.trans hE519 hxqr3_1
          have qqr3o5_1 := bel_step hS523 hxqr3_1
          obtain ⟨pqr3o5_1, csqr3o5_1, fqr3o5_1, hfqr3o5_1, hpbqr3o5_1, hatqr3o5_1, hrqr3o5_1, hiqr3o5_1⟩ := ha1.at gqr3o5_1 gxqr3o5_1
          obtain ⟨rfl, hIqr3o5_1, rfl⟩ := hrqr3o5_1
          refine op_g ha rfl (hiqr3o5_1.gives sl53 rfl rfl) ?_; clear ha a; intro a ha; refine wpList_nil (e_sq ?_)
          have hStqr3o5_1 : RowKit.Below W.heap.size wqr3_1 wqr3_1 := RowKit.Below.refl _ _
          refine ⟨fun _ => hStqr3o5_1, ?_⟩
          have qqr3o5_2 := RowKit.Below.trans qqr3o5_1 hStqr3o5_1
          refine x_many [6, 15] (by kernel_rfl) rfl fun wqr3o5_1 hxqr3o5_1 => ⟨⟨_, rfl, ?_⟩, ⟨_, rfl, ?_⟩, trivial⟩
          · skip
            replace h202 := h202.ext hxqr3o5_1
            replace h418 := h418.ext hxqr3o5_1
            have hEqr3o6_1 := Ext.trans hEqr3o5_1 hxqr3o5_1
            have qqr3o6_1 := bel_step qqr3o5_2 hxqr3o5_1
            refine op_g ha rfl (g_load0 hEqr3o6_1 Tryd.isAgg3 rfl hatqr3o5_1.one) ?_; clear ha a; intro a ha; refine wpList_nil (e_sq ?_)
            have hStqr3o6_1 : RowKit.Below W.heap.size wqr3o5_1 wqr3o5_1 := RowKit.Below.refl _ _
            refine ⟨fun _ => hStqr3o6_1, ?_⟩
            have qqr3o6_2 := RowKit.Below.trans qqr3o6_1 hStqr3o6_1
            refine x_many [7, 15] (by kernel_rfl) rfl fun wqr3o6_1 hxqr3o6_1 => ⟨⟨_, rfl, ?_⟩, ⟨_, rfl, ?_⟩, trivial⟩
            · skip
              replace h202 := h202.ext hxqr3o6_1
              replace h418 := h418.ext hxqr3o6_1
              have hEqr3o7_1 := Ext.trans hEqr3o6_1 hxqr3o6_1
              have qqr3o7_1 := bel_step qqr3o6_2 hxqr3o6_1
              refine o_lit1 (o := true) (y := xqr3o5_1) Rp.int ha rfl sl53 rfl rfl rfl ⟨rfl, hIqr3o5_1, rfl⟩ ?_; clear ha a; intro vqr3o7_1 wqr3o7_1 hqr3o7_1 hxqr3o7_1 a ha
              obtain ⟨bqr3o7_1, hbqr3o7_1⟩ : ∃ b : Int, b = wqr3o6_1.heap.size := ⟨_, rfl⟩; rw [← hbqr3o7_1] at hqr3o7_1
              have qqr3o7_2 := zn_of hbqr3o7_1
              have qqr3o7_3 := Nq.new h202.fpb qqr3o7_2
              have qqr3o7_4 := Nq.madeO qqr3o7_2 h202.blt
              have qqr3o7_5 := Nq.new h418.fpb qqr3o7_2
              have qqr3o7_6 := Nq.madeO qqr3o7_2 h418.blt
              have qqr3o7_7 := Zn.upD qqr3o7_2 hEqr3o7_1
              have qqr3o7_8 := Zn.upB qqr3o7_2 qqr3o7_1
              replace h202 := h202.ext hxqr3o7_1
              replace h418 := h418.ext hxqr3o7_1
              have hEqr3o7_2 := Ext.trans hEqr3o7_1 hxqr3o7_1
              refine wpList_nil (e_sq ?_)
              have hStqr3o7_1 : RowKit.Below W.heap.size wqr3o6_1 wqr3o7_1 := ext_bel qqr3o7_1.size hxqr3o7_1
              refine ⟨fun _ => hStqr3o7_1, ?_⟩
              have qqr3o7_9 := RowKit.Below.trans qqr3o7_1 hStqr3o7_1
              refine x_many [8, 15] (by kernel_rfl) rfl fun wqr3o7_2 hxqr3o7_2 => ⟨⟨_, rfl, ?_⟩, ⟨_, rfl, ?_⟩, trivial⟩
              · skip
                replace h202 := h202.ext hxqr3o7_2
                replace h418 := h418.ext hxqr3o7_2
                replace hqr3o7_1 := hqr3o7_1.ext hxqr3o7_2
                have hEqr3o8_1 := Ext.trans hEqr3o7_2 hxqr3o7_2
                have qqr3o8_1 := bel_step qqr3o7_9 hxqr3o7_2
                refine o_append ha rfl sl53 rfl rfl rfl h418 hqr3o7_1.src (Nq.nil _) hlqr3o8_1 ?_; clear ha a; intro vqr3o8_1 wqr3o8_1 bqr3o8_1 hqr3o8_1 hcqr3o8_1 hbqr3o8_1 a ha
                replace hqr3o8_1 : Ow Rp.int 3 true wqr3o8_1 [] bqr3o8_1 vqr3o8_1 _ := hqr3o8_1
                have qqr3o8_2 := Nq.appY q422 h202.fpb hbqr3o8_1
                have qqr3o8_3 := Nq.appX q423 (Nq.nil _) hbqr3o8_1 h202.blt
                have qqr3o8_4 := Nq.appY qqr3o7_6 hqr3o7_1.fpb hbqr3o8_1
                have qqr3o8_5 := Nq.appX qqr3o7_5 (Nq.nil _) hbqr3o8_1 hqr3o7_1.blt
                have qqr3o8_6 := Zn.appD q426 hbqr3o8_1 hEqr3o8_1
                have qqr3o8_7 := Zn.appB q426 hbqr3o8_1 qqr3o8_1
                replace h202 := h202.nq hcqr3o8_1 q422
                replace hqr3o7_1 := hqr3o7_1.nq hcqr3o8_1 qqr3o7_6
                have hEqr3o8_2 := Ext.then hEqr3o8_1 hcqr3o8_1 (Zn.bl q426)
                refine wpList_nil (e_sq ?_)
                have hStqr3o8_1 : RowKit.Below W.heap.size wqr3o7_2 wqr3o8_1 := chg_bel hcqr3o8_1 qqr3o8_1.size (Zn.bl q426)
                refine ⟨fun _ => hStqr3o8_1, ?_⟩
                have qqr3o8_8 := RowKit.Below.trans qqr3o8_1 hStqr3o8_1
                refine x_many [11, 15] (by kernel_rfl) rfl fun wqr3o8_2 hxqr3o8_1 => ⟨⟨_, rfl, ?_⟩, ⟨_, rfl, ?_⟩, trivial⟩
                · skip
                  replace h202 := h202.ext hxqr3o8_1
                  replace hqr3o7_1 := hqr3o7_1.ext hxqr3o8_1
                  replace hqr3o8_1 := hqr3o8_1.ext hxqr3o8_1
                  have hEqr3o11_1 := Ext.trans hEqr3o8_2 hxqr3o8_1
                  have qqr3o11_1 := bel_step qqr3o8_8 hxqr3o8_1
                  refine o_call ha rfl rfl Tryd.call41 (W_impl_one hI387 hcqr3o11_1) ?_; clear ha a; rintro vqr3o11_1 wqr3o11_1 ⟨rfl, hxqr3o11_1⟩ a ha
                  replace h202 := h202.ext hxqr3o11_1
                  replace hqr3o7_1 := hqr3o7_1.ext hxqr3o11_1
                  replace hqr3o8_1 := hqr3o8_1.ext hxqr3o11_1
                  have hEqr3o11_2 := Ext.trans hEqr3o11_1 hxqr3o11_1
                  refine wpList_nil (e_sq ?_)
                  have hStqr3o11_1 : RowKit.Below W.heap.size wqr3o8_2 wqr3o11_1 := ext_bel qqr3o11_1.size hxqr3o11_1
                  refine ⟨fun _ => hStqr3o11_1, ?_⟩
                  have qqr3o11_2 := RowKit.Below.trans qqr3o11_1 hStqr3o11_1
                  refine x_g 12 rfl (by kernel_rfl) (want0 _) ha rfl qqr3o11_2 (g32_or (m := a3) (n := xqr3o11_1) rfl rfl) ?_; clear ha a; intro a ha
                  refine x_only 15 rfl (by kernel_rfl) ?_; intro wqr3o15_1 hxqr3o15_1
                  replace h202 := h202.ext hxqr3o15_1
                  replace hqr3o7_1 := hqr3o7_1.ext hxqr3o15_1
                  replace hqr3o8_1 := hqr3o8_1.ext hxqr3o15_1
                  have hEqr3o15_1 := Ext.trans hEqr3o11_2 hxqr3o15_1
                  have qqr3o15_1 := bel_step qqr3o11_2 hxqr3o15_1
                  obtain ⟨pqr3o15_1, csqr3o15_1, fqr3o15_1, hfqr3o15_1, hpbqr3o15_1, hatqr3o15_1, hrqr3o15_1, hiqr3o15_1⟩ := ha1.at gqr3o15_1 gxqr3o15_1
                  obtain ⟨rfl, hIqr3o15_1, rfl⟩ := hrqr3o15_1
                  refine op_g ha rfl (hiqr3o15_1.gives sl53 rfl rfl) ?_; clear ha a; intro a ha; refine wpList_nil (e_sq ?_)
                  have hStqr3o15_1 : RowKit.Below W.heap.size wqr3o15_1 wqr3o15_1 := RowKit.Below.refl _ _
                  refine ⟨fun _ => hStqr3o15_1, ?_⟩
                  have qqr3o15_2 := RowKit.Below.trans qqr3o15_1 hStqr3o15_1
                  refine x_only 16 rfl (by kernel_rfl) ?_; intro wqr3o16_1 hxqr3o16_1
                  replace h202 := h202.ext hxqr3o16_1
                  replace hqr3o7_1 := hqr3o7_1.ext hxqr3o16_1
                  replace hqr3o8_1 := hqr3o8_1.ext hxqr3o16_1
                  have hEqr3o16_1 := Ext.trans hEqr3o15_1 hxqr3o16_1
                  have qqr3o16_1 := bel_step qqr3o15_2 hxqr3o16_1
                  refine op_g ha rfl (g_load0 hEqr3o16_1 Tryd.isAgg3 rfl hatqr3o15_1.one) ?_; clear ha a; intro a ha; refine wpList_nil (e_sq ?_)
                  have hStqr3o16_1 : RowKit.Below W.heap.size wqr3o16_1 wqr3o16_1 := RowKit.Below.refl _ _
                  refine ⟨fun _ => hStqr3o16_1, ?_⟩
                  have qqr3o16_2 := RowKit.Below.trans qqr3o16_1 hStqr3o16_1
                  refine x_only 17 rfl (by kernel_rfl) ?_; intro wqr3o17_1 hxqr3o17_1
                  replace h202 := h202.ext hxqr3o17_1
                  replace hqr3o7_1 := hqr3o7_1.ext hxqr3o17_1
                  replace hqr3o8_1 := hqr3o8_1.ext hxqr3o17_1
                  have hEqr3o17_1 := Ext.trans hEqr3o16_1 hxqr3o17_1
                  have qqr3o17_1 := bel_step qqr3o16_2 hxqr3o17_1
                  refine o_call ha rfl rfl Tryd.call41 (W_impl_one hIqr3o15_1 hcqr3o17_1) ?_; clear ha a; rintro vqr3o17_1 wqr3o17_2 ⟨rfl, hxqr3o17_2⟩ a ha
                  replace h202 := h202.ext hxqr3o17_2
                  replace hqr3o7_1 := hqr3o7_1.ext hxqr3o17_2
                  replace hqr3o8_1 := hqr3o8_1.ext hxqr3o17_2
                  have hEqr3o17_2 := Ext.trans hEqr3o17_1 hxqr3o17_2
                  refine wpList_nil (e_sq ?_)
                  have hStqr3o17_1 : RowKit.Below W.heap.size wqr3o17_1 wqr3o17_2 := ext_bel qqr3o17_1.size hxqr3o17_2
                  refine ⟨fun _ => hStqr3o17_1, ?_⟩
                  have qqr3o17_2 := RowKit.Below.trans qqr3o17_1 hStqr3o17_1
                  refine x_g 18 rfl (by kernel_rfl) (want0 _) ha rfl qqr3o17_2 (g32_or (m := (a3 ||| xqr3o11_1)) (n := xqr3o17_1) rfl rfl) ?_; clear ha a; intro a ha
                  refine x_only 20 rfl (by kernel_rfl) ?_; intro wqr3o20_1 hxqr3o20_1
                  replace h202 := h202.ext hxqr3o20_1
                  replace hqr3o7_1 := hqr3o7_1.ext hxqr3o20_1
                  replace hqr3o8_1 := hqr3o8_1.ext hxqr3o20_1
                  have hEqr3o20_1 := Ext.trans hEqr3o17_2 hxqr3o20_1
                  have qqr3o20_1 := bel_step qqr3o17_2 hxqr3o20_1
                  obtain ⟨fpqr3o20_1, hroqr3o20_1, hsqr3o20_1⟩ := hqr3o8_1.roF
                  refine o_call ha rfl rfl Tryd.call40 (ih (ha0.ext hEqr3o20_1) (ha1.ext hEqr3o20_1) hroqr3o20_1 ha4 (hG.ext hEqr3o20_1) hcqr3o20_1) ?_; clear ha a; rintro vqr3o20_1 wqr3o20_2 ⟨bqr3o20_1, hqr3o20_1, zqr3o20_1, hzqr3o20_1, hxqr3o20_2⟩ a ha
                  have qqr3o20_2 := Zn.upB zqr3o20_1 qqr3o20_1
                  have qqr3o20_3 := Nq.new h202.fpb zqr3o20_1
                  have qqr3o20_4 := Nq.madeO zqr3o20_1 h202.blt
                  have qqr3o20_5 := Nq.new hqr3o7_1.fpb zqr3o20_1
                  have qqr3o20_6 := Nq.madeO zqr3o20_1 hqr3o7_1.blt
                  have qqr3o20_7 := Nq.new hqr3o8_1.fpb zqr3o20_1
                  have qqr3o20_8 := Nq.madeO zqr3o20_1 hqr3o8_1.blt
                  replace h202 := h202.ext hxqr3o20_2
                  replace hqr3o7_1 := hqr3o7_1.ext hxqr3o20_2
                  replace hqr3o8_1 := hqr3o8_1.ext hxqr3o20_2
                  have hEqr3o20_2 := Ext.trans hEqr3o20_1 hxqr3o20_2
                  have qqr3o20_9 := Zn.upD zqr3o20_1 hEqr3o20_1
                  refine wpList_nil (e_sq ?_)
                  have hStqr3o20_1 : RowKit.Below W.heap.size wqr3o20_1 wqr3o20_2 := ext_bel qqr3o20_1.size hxqr3o20_2
                  refine ⟨fun _ => hStqr3o20_1, ?_⟩
                  have qqr3o20_10 := RowKit.Below.trans qqr3o20_1 hStqr3o20_1
                  refine x_g 21 rfl (by kernel_rfl) (want0 _) ha rfl qqr3o20_10 (g_assign rfl) ?_; clear ha a; intro a ha
                  refine x_done (by kernel_rfl) ?_; intro w524 hx525
                  replace h202 := h202.ext hx525
                  replace hqr3o7_1 := hqr3o7_1.ext hx525
                  replace hqr3o8_1 := hqr3o8_1.ext hx525
                  replace hqr3o20_1 := hqr3o20_1.ext hx525
                  have hE526 := Ext.trans hEqr3o20_2 hx525
                  replace ha := ha.sub (σ' := [(0, va0), (1, va1), (2, va2), (3, (.int .u32 (BitVec.toNat a3 : Int))), (4, (.int .i64 a4)), (11, (.int .i64 x3)), (15, vqr3o20_1), (28, v28), (29, (.int .i64 (x26.length : Int))), (30, (.int .i64 i204)), (55, va1), (56, (.int .i64 x3)), (57, (.pointer (some p490))), (58, (.int .i64 x487)), (59, (.int .i64 x376)), (60, (.bool false)), (63, (.int .u32 (BitVec.toNat a3 : Int))), (64, va1), (65, (.int .i64 x376)), (66, (.pointer (some p505))), (67, (.int .i64 x502)), (68, (.bool x514))]) ⟨rfl, rfl, rfl, rfl, rfl, rfl, rfl, rfl, rfl, rfl, rfl, rfl, rfl, rfl, rfl, rfl, rfl, rfl, rfl, rfl, rfl, rfl, trivial⟩
                  refine e_then ?_; refine wp_seq ?_; refine wp_region_lit ?_; refine op_g ha rfl (g_move rfl) ?_; clear ha a; intro a ha; refine op_g ha rfl (g_nnilz sl53.und rfl hqr3o20_1 hzqr3o20_1) ?_; clear ha a; intro a ha; refine wpList_nil ?_; replace ha := ha.sub (σ' := [(0, va0), (1, va1), (2, va2), (3, (.int .u32 (BitVec.toNat a3 : Int))), (4, (.int .i64 a4)), (11, (.int .i64 x3)), (15, vqr3o20_1), (28, v28), (29, (.int .i64 (x26.length : Int))), (30, (.int .i64 i204)), (55, va1), (56, (.int .i64 x3)), (57, (.pointer (some p490))), (58, (.int .i64 x487)), (59, (.int .i64 x376)), (60, (.bool false)), (63, (.int .u32 (BitVec.toNat a3 : Int))), (64, va1), (65, (.int .i64 x376)), (66, (.pointer (some p505))), (67, (.int .i64 x502)), (68, (.bool x514)), (92, (.bool (!(List.isEmpty xqr3o20_1))))]) ⟨rfl, rfl, rfl, rfl, rfl, rfl, rfl, rfl, rfl, rfl, rfl, rfl, rfl, rfl, rfl, rfl, rfl, rfl, rfl, rfl, rfl, rfl, rfl, trivial⟩
                  refine e_then ?_; refine c_cond (¬ (xqr3o20_1 = [])) ha rfl (n_iff (List.isEmpty_iff)) (fun hp527 => ?_) (fun hp527 => ?_)
                  · replace hF := if_t hp527 hF
                    refine wp_seq ?_; refine wp_region_lit ?_; refine op_g ha rfl (g_move rfl) ?_; clear ha a; intro a ha; refine op_g ha rfl (g_assign rfl) ?_; clear ha a; intro a ha; refine wpList_nil ?_; replace ha := ha.sub (σ' := [(10, vqr3o20_1)]) ⟨rfl, trivial⟩; refine e_then ?_; refine wp_ret ?_; refine e_blk_ret ?_; refine e_then_ret ?_; refine e_lq_ret ?_; refine e_then_ret ?_; obtain ⟨hz528, hF⟩ := grd_some hF; obtain rfl := Option.some.inj hF
                    have e529 := LK_inr hN372; subst e529
                    have e530 := BK_inr hK368; subst e530
                    exact f_ret1 ha rfl rfl ⟨_, hqr3o20_1, qqr3o20_9, (.inr hz528), hE526⟩
                  replace hF := if_f hp527 hF; refine wp_skip ?_; refine e_blk ?_; refine e_then ?_; refine wp_region_lit ?_; obtain ⟨hI531, hF⟩ := ck_some hF; refine op_g ha rfl (g_add rfl rfl hI531) ?_; clear ha a; intro a ha; refine op_g ha rfl (g_move rfl) ?_; clear ha a; intro a ha; refine wpList_nil ?_; replace ha := ha.sub (σ' := [(0, va0), (1, va1), (2, va2), (3, (.int .u32 (BitVec.toNat a3 : Int))), (4, (.int .i64 a4)), (11, (.int .i64 x3)), (28, v28), (29, (.int .i64 (x26.length : Int))), (30, (.int .i64 (i204 + 1))), (55, va1), (56, (.int .i64 x3)), (57, (.pointer (some p490))), (58, (.int .i64 x487)), (59, (.int .i64 x376)), (60, (.bool false)), (63, (.int .u32 (BitVec.toNat a3 : Int))), (64, va1), (65, (.int .i64 x376)), (66, (.pointer (some p505))), (67, (.int .i64 x502)), (68, (.bool x514))]) ⟨rfl, rfl, rfl, rfl, rfl, rfl, rfl, rfl, rfl, rfl, rfl, rfl, rfl, rfl, rfl, rfl, rfl, rfl, rfl, rfl, rfl, trivial⟩
                  refine e_lq ?_; obtain rfl := Option.some.inj hF
                  exact ⟨_, Nat.lt_succ_self _, i204 + 1, ha.sub ⟨rfl, rfl, rfl, rfl, rfl, rfl, rfl, rfl, rfl, trivial⟩, hE526, hI531, h202, z203, hN372⟩
                skip
                replace h202 := h202.ext hxqr3o8_1
                replace hqr3o7_1 := hqr3o7_1.ext hxqr3o8_1
                replace hqr3o8_1 := hqr3o8_1.ext hxqr3o8_1
                have hEqr3o15_1 := Ext.trans hEqr3o8_2 hxqr3o8_1
                have qqr3o15_1 := bel_step qqr3o8_8 hxqr3o8_1
                obtain ⟨pqr3o15_1, csqr3o15_1, fqr3o15_1, hfqr3o15_1, hpbqr3o15_1, hatqr3o15_1, hrqr3o15_1, hiqr3o15_1⟩ := ha1.at gqr3o15_1 gxqr3o15_1
                obtain ⟨rfl, hIqr3o15_1, rfl⟩ := hrqr3o15_1
                refine op_g ha rfl (hiqr3o15_1.gives sl53 rfl rfl) ?_; clear ha a; intro a ha; refine wpList_nil (e_sq ?_)
                have hStqr3o15_1 : RowKit.Below W.heap.size wqr3o8_2 wqr3o8_2 := RowKit.Below.refl _ _
                refine ⟨fun _ => hStqr3o15_1, ?_⟩
                have qqr3o15_2 := RowKit.Below.trans qqr3o15_1 hStqr3o15_1
                refine x_many [11, 16] (by kernel_rfl) rfl fun wqr3o15_1 hxqr3o15_1 => ⟨⟨_, rfl, ?_⟩, ⟨_, rfl, ?_⟩, trivial⟩
                · skip
                  replace h202 := h202.ext hxqr3o15_1
                  replace hqr3o7_1 := hqr3o7_1.ext hxqr3o15_1
                  replace hqr3o8_1 := hqr3o8_1.ext hxqr3o15_1
                  have hEqr3o11_1 := Ext.trans hEqr3o15_1 hxqr3o15_1
                  have qqr3o11_1 := bel_step qqr3o15_2 hxqr3o15_1
                  refine o_call ha rfl rfl Tryd.call41 (W_impl_one hI387 hcqr3o11_1) ?_; clear ha a; rintro vqr3o11_1 wqr3o11_1 ⟨rfl, hxqr3o11_1⟩ a ha
                  replace h202 := h202.ext hxqr3o11_1
                  replace hqr3o7_1 := hqr3o7_1.ext hxqr3o11_1
                  replace hqr3o8_1 := hqr3o8_1.ext hxqr3o11_1
                  have hEqr3o11_2 := Ext.trans hEqr3o11_1 hxqr3o11_1
                  refine wpList_nil (e_sq ?_)
                  have hStqr3o11_1 : RowKit.Below W.heap.size wqr3o15_1 wqr3o11_1 := ext_bel qqr3o11_1.size hxqr3o11_1
                  refine ⟨fun _ => hStqr3o11_1, ?_⟩
                  have qqr3o11_2 := RowKit.Below.trans qqr3o11_1 hStqr3o11_1
                  refine x_g 12 rfl (by kernel_rfl) (want0 _) ha rfl qqr3o11_2 (g32_or (m := a3) (n := xqr3o11_1) rfl rfl) ?_; clear ha a; intro a ha
                  refine x_only 16 rfl (by kernel_rfl) ?_; intro wqr3o16_1 hxqr3o16_1
                  replace h202 := h202.ext hxqr3o16_1
                  replace hqr3o7_1 := hqr3o7_1.ext hxqr3o16_1
                  replace hqr3o8_1 := hqr3o8_1.ext hxqr3o16_1
                  have hEqr3o16_1 := Ext.trans hEqr3o11_2 hxqr3o16_1
                  have qqr3o16_1 := bel_step qqr3o11_2 hxqr3o16_1
                  refine op_g ha rfl (g_load0 hEqr3o16_1 Tryd.isAgg3 rfl hatqr3o15_1.one) ?_; clear ha a; intro a ha; refine wpList_nil (e_sq ?_)
                  have hStqr3o16_1 : RowKit.Below W.heap.size wqr3o16_1 wqr3o16_1 := RowKit.Below.refl _ _
                  refine ⟨fun _ => hStqr3o16_1, ?_⟩
                  have qqr3o16_2 := RowKit.Below.trans qqr3o16_1 hStqr3o16_1
                  refine x_only 17 rfl (by kernel_rfl) ?_; intro wqr3o17_1 hxqr3o17_1
                  replace h202 := h202.ext hxqr3o17_1
                  replace hqr3o7_1 := hqr3o7_1.ext hxqr3o17_1
                  replace hqr3o8_1 := hqr3o8_1.ext hxqr3o17_1
                  have hEqr3o17_1 := Ext.trans hEqr3o16_1 hxqr3o17_1
                  have qqr3o17_1 := bel_step qqr3o16_2 hxqr3o17_1
                  refine o_call ha rfl rfl Tryd.call41 (W_impl_one hIqr3o15_1 hcqr3o17_1) ?_; clear ha a; rintro vqr3o17_1 wqr3o17_2 ⟨rfl, hxqr3o17_2⟩ a ha
                  replace h202 := h202.ext hxqr3o17_2
                  replace hqr3o7_1 := hqr3o7_1.ext hxqr3o17_2
                  replace hqr3o8_1 := hqr3o8_1.ext hxqr3o17_2
                  have hEqr3o17_2 := Ext.trans hEqr3o17_1 hxqr3o17_2
                  refine wpList_nil (e_sq ?_)
                  have hStqr3o17_1 : RowKit.Below W.heap.size wqr3o17_1 wqr3o17_2 := ext_bel qqr3o17_1.size hxqr3o17_2
                  refine ⟨fun _ => hStqr3o17_1, ?_⟩
                  have qqr3o17_2 := RowKit.Below.trans qqr3o17_1 hStqr3o17_1
                  refine x_g 18 rfl (by kernel_rfl) (want0 _) ha rfl qqr3o17_2 (g32_or (m := (a3 ||| xqr3o11_1)) (n := xqr3o17_1) rfl rfl) ?_; clear ha a; intro a ha
                  refine x_only 20 rfl (by kernel_rfl) ?_; intro wqr3o20_1 hxqr3o20_1
                  replace h202 := h202.ext hxqr3o20_1
                  replace hqr3o7_1 := hqr3o7_1.ext hxqr3o20_1
                  replace hqr3o8_1 := hqr3o8_1.ext hxqr3o20_1
                  have hEqr3o20_1 := Ext.trans hEqr3o17_2 hxqr3o20_1
                  have qqr3o20_1 := bel_step qqr3o17_2 hxqr3o20_1
                  obtain ⟨fpqr3o20_1, hroqr3o20_1, hsqr3o20_1⟩ := hqr3o8_1.roF
                  refine o_call ha rfl rfl Tryd.call40 (ih (ha0.ext hEqr3o20_1) (ha1.ext hEqr3o20_1) hroqr3o20_1 ha4 (hG.ext hEqr3o20_1) hcqr3o20_1) ?_; clear ha a; rintro vqr3o20_1 wqr3o20_2 ⟨bqr3o20_1, hqr3o20_1, zqr3o20_1, hzqr3o20_1, hxqr3o20_2⟩ a ha
                  have qqr3o20_2 := Zn.upB zqr3o20_1 qqr3o20_1
                  have qqr3o20_3 := Nq.new h202.fpb zqr3o20_1
                  have qqr3o20_4 := Nq.madeO zqr3o20_1 h202.blt
                  have qqr3o20_5 := Nq.new hqr3o7_1.fpb zqr3o20_1
                  have qqr3o20_6 := Nq.madeO zqr3o20_1 hqr3o7_1.blt
                  have qqr3o20_7 := Nq.new hqr3o8_1.fpb zqr3o20_1
                  have qqr3o20_8 := Nq.madeO zqr3o20_1 hqr3o8_1.blt
                  replace h202 := h202.ext hxqr3o20_2
                  replace hqr3o7_1 := hqr3o7_1.ext hxqr3o20_2
                  replace hqr3o8_1 := hqr3o8_1.ext hxqr3o20_2
                  have hEqr3o20_2 := Ext.trans hEqr3o20_1 hxqr3o20_2
                  have qqr3o20_9 := Zn.upD zqr3o20_1 hEqr3o20_1
                  refine wpList_nil (e_sq ?_)
                  have hStqr3o20_1 : RowKit.Below W.heap.size wqr3o20_1 wqr3o20_2 := ext_bel qqr3o20_1.size hxqr3o20_2
                  refine ⟨fun _ => hStqr3o20_1, ?_⟩
                  have qqr3o20_10 := RowKit.Below.trans qqr3o20_1 hStqr3o20_1
                  refine x_g 21 rfl (by kernel_rfl) (want0 _) ha rfl qqr3o20_10 (g_assign rfl) ?_; clear ha a; intro a ha
                  refine x_done (by kernel_rfl) ?_; intro w524 hx525
                  replace h202 := h202.ext hx525
                  replace hqr3o7_1 := hqr3o7_1.ext hx525
                  replace hqr3o8_1 := hqr3o8_1.ext hx525
                  replace hqr3o20_1 := hqr3o20_1.ext hx525
                  have hE526 := Ext.trans hEqr3o20_2 hx525
                  replace ha := ha.sub (σ' := [(0, va0), (1, va1), (2, va2), (3, (.int .u32 (BitVec.toNat a3 : Int))), (4, (.int .i64 a4)), (11, (.int .i64 x3)), (15, vqr3o20_1), (28, v28), (29, (.int .i64 (x26.length : Int))), (30, (.int .i64 i204)), (55, va1), (56, (.int .i64 x3)), (57, (.pointer (some p490))), (58, (.int .i64 x487)), (59, (.int .i64 x376)), (60, (.bool false)), (63, (.int .u32 (BitVec.toNat a3 : Int))), (64, va1), (65, (.int .i64 x376)), (66, (.pointer (some p505))), (67, (.int .i64 x502)), (68, (.bool x514))]) ⟨rfl, rfl, rfl, rfl, rfl, rfl, rfl, rfl, rfl, rfl, rfl, rfl, rfl, rfl, rfl, rfl, rfl, rfl, rfl, rfl, rfl, rfl, trivial⟩
                  refine e_then ?_; refine wp_seq ?_; refine wp_region_lit ?_; refine op_g ha rfl (g_move rfl) ?_; clear ha a; intro a ha; refine op_g ha rfl (g_nnilz sl53.und rfl hqr3o20_1 hzqr3o20_1) ?_; clear ha a; intro a ha; refine wpList_nil ?_; replace ha := ha.sub (σ' := [(0, va0), (1, va1), (2, va2), (3, (.int .u32 (BitVec.toNat a3 : Int))), (4, (.int .i64 a4)), (11, (.int .i64 x3)), (15, vqr3o20_1), (28, v28), (29, (.int .i64 (x26.length : Int))), (30, (.int .i64 i204)), (55, va1), (56, (.int .i64 x3)), (57, (.pointer (some p490))), (58, (.int .i64 x487)), (59, (.int .i64 x376)), (60, (.bool false)), (63, (.int .u32 (BitVec.toNat a3 : Int))), (64, va1), (65, (.int .i64 x376)), (66, (.pointer (some p505))), (67, (.int .i64 x502)), (68, (.bool x514)), (92, (.bool (!(List.isEmpty xqr3o20_1))))]) ⟨rfl, rfl, rfl, rfl, rfl, rfl, rfl, rfl, rfl, rfl, rfl, rfl, rfl, rfl, rfl, rfl, rfl, rfl, rfl, rfl, rfl, rfl, rfl, trivial⟩
                  refine e_then ?_; refine c_cond (¬ (xqr3o20_1 = [])) ha rfl (n_iff (List.isEmpty_iff)) (fun hp527 => ?_) (fun hp527 => ?_)
                  · replace hF := if_t hp527 hF
                    refine wp_seq ?_; refine wp_region_lit ?_; refine op_g ha rfl (g_move rfl) ?_; clear ha a; intro a ha; refine op_g ha rfl (g_assign rfl) ?_; clear ha a; intro a ha; refine wpList_nil ?_; replace ha := ha.sub (σ' := [(10, vqr3o20_1)]) ⟨rfl, trivial⟩; refine e_then ?_; refine wp_ret ?_; refine e_blk_ret ?_; refine e_then_ret ?_; refine e_lq_ret ?_; refine e_then_ret ?_; obtain ⟨hz528, hF⟩ := grd_some hF; obtain rfl := Option.some.inj hF
                    have e529 := LK_inr hN372; subst e529
                    have e530 := BK_inr hK368; subst e530
                    exact f_ret1 ha rfl rfl ⟨_, hqr3o20_1, qqr3o20_9, (.inr hz528), hE526⟩
                  replace hF := if_f hp527 hF; refine wp_skip ?_; refine e_blk ?_; refine e_then ?_; refine wp_region_lit ?_; obtain ⟨hI531, hF⟩ := ck_some hF; refine op_g ha rfl (g_add rfl rfl hI531) ?_; clear ha a; intro a ha; refine op_g ha rfl (g_move rfl) ?_; clear ha a; intro a ha; refine wpList_nil ?_; replace ha := ha.sub (σ' := [(0, va0), (1, va1), (2, va2), (3, (.int .u32 (BitVec.toNat a3 : Int))), (4, (.int .i64 a4)), (11, (.int .i64 x3)), (28, v28), (29, (.int .i64 (x26.length : Int))), (30, (.int .i64 (i204 + 1))), (55, va1), (56, (.int .i64 x3)), (57, (.pointer (some p490))), (58, (.int .i64 x487)), (59, (.int .i64 x376)), (60, (.bool false)), (63, (.int .u32 (BitVec.toNat a3 : Int))), (64, va1), (65, (.int .i64 x376)), (66, (.pointer (some p505))), (67, (.int .i64 x502)), (68, (.bool x514))]) ⟨rfl, rfl, rfl, rfl, rfl, rfl, rfl, rfl, rfl, rfl, rfl, rfl, rfl, rfl, rfl, rfl, rfl, rfl, rfl, rfl, rfl, trivial⟩
                  refine e_lq ?_; obtain rfl := Option.some.inj hF
                  exact ⟨_, Nat.lt_succ_self _, i204 + 1, ha.sub ⟨rfl, rfl, rfl, rfl, rfl, rfl, rfl, rfl, rfl, trivial⟩, hE526, hI531, h202, z203, hN372⟩
                skip
                replace h202 := h202.ext hxqr3o15_1
                replace hqr3o7_1 := hqr3o7_1.ext hxqr3o15_1
                replace hqr3o8_1 := hqr3o8_1.ext hxqr3o15_1
                have hEqr3o16_1 := Ext.trans hEqr3o15_1 hxqr3o15_1
                have qqr3o16_1 := bel_step qqr3o15_2 hxqr3o15_1
                refine op_g ha rfl (g_load0 hEqr3o16_1 Tryd.isAgg3 rfl hatqr3o15_1.one) ?_; clear ha a; intro a ha; refine wpList_nil (e_sq ?_)
                have hStqr3o16_1 : RowKit.Below W.heap.size wqr3o15_1 wqr3o15_1 := RowKit.Below.refl _ _
                refine ⟨fun _ => hStqr3o16_1, ?_⟩
                have qqr3o16_2 := RowKit.Below.trans qqr3o16_1 hStqr3o16_1
                refine x_only 11 rfl (by kernel_rfl) ?_; intro wqr3o11_1 hxqr3o11_1
                replace h202 := h202.ext hxqr3o11_1
                replace hqr3o7_1 := hqr3o7_1.ext hxqr3o11_1
                replace hqr3o8_1 := hqr3o8_1.ext hxqr3o11_1
                have hEqr3o11_1 := Ext.trans hEqr3o16_1 hxqr3o11_1
                have qqr3o11_1 := bel_step qqr3o16_2 hxqr3o11_1
                refine o_call ha rfl rfl Tryd.call41 (W_impl_one hI387 hcqr3o11_1) ?_; clear ha a; rintro vqr3o11_1 wqr3o11_2 ⟨rfl, hxqr3o11_2⟩ a ha
                replace h202 := h202.ext hxqr3o11_2
                replace hqr3o7_1 := hqr3o7_1.ext hxqr3o11_2
                replace hqr3o8_1 := hqr3o8_1.ext hxqr3o11_2
                have hEqr3o11_2 := Ext.trans hEqr3o11_1 hxqr3o11_2
                refine wpList_nil (e_sq ?_)
                have hStqr3o11_1 : RowKit.Below W.heap.size wqr3o11_1 wqr3o11_2 := ext_bel qqr3o11_1.size hxqr3o11_2
                refine ⟨fun _ => hStqr3o11_1, ?_⟩
                have qqr3o11_2 := RowKit.Below.trans qqr3o11_1 hStqr3o11_1
                refine x_g 12 rfl (by kernel_rfl) (want0 _) ha rfl qqr3o11_2 (g32_or (m := a3) (n := xqr3o11_1) rfl rfl) ?_; clear ha a; intro a ha
                refine x_only 17 rfl (by kernel_rfl) ?_; intro wqr3o17_1 hxqr3o17_1
                replace h202 := h202.ext hxqr3o17_1
                replace hqr3o7_1 := hqr3o7_1.ext hxqr3o17_1
                replace hqr3o8_1 := hqr3o8_1.ext hxqr3o17_1
                have hEqr3o17_1 := Ext.trans hEqr3o11_2 hxqr3o17_1
                have qqr3o17_1 := bel_step qqr3o11_2 hxqr3o17_1
                refine o_call ha rfl rfl Tryd.call41 (W_impl_one hIqr3o15_1 hcqr3o17_1) ?_; clear ha a; rintro vqr3o17_1 wqr3o17_2 ⟨rfl, hxqr3o17_2⟩ a ha
                replace h202 := h202.ext hxqr3o17_2
                replace hqr3o7_1 := hqr3o7_1.ext hxqr3o17_2
                replace hqr3o8_1 := hqr3o8_1.ext hxqr3o17_2
                have hEqr3o17_2 := Ext.trans hEqr3o17_1 hxqr3o17_2
                refine wpList_nil (e_sq ?_)
                have hStqr3o17_1 : RowKit.Below W.heap.size wqr3o17_1 wqr3o17_2 := ext_bel qqr3o17_1.size hxqr3o17_2
                refine ⟨fun _ => hStqr3o17_1, ?_⟩
                have qqr3o17_2 := RowKit.Below.trans qqr3o17_1 hStqr3o17_1
                refine x_g 18 rfl (by kernel_rfl) (want0 _) ha rfl qqr3o17_2 (g32_or (m := (a3 ||| xqr3o11_1)) (n := xqr3o17_1) rfl rfl) ?_; clear ha a; intro a ha
                refine x_only 20 rfl (by kernel_rfl) ?_; intro wqr3o20_1 hxqr3o20_1
                replace h202 := h202.ext hxqr3o20_1
                replace hqr3o7_1 := hqr3o7_1.ext hxqr3o20_1
                replace hqr3o8_1 := hqr3o8_1.ext hxqr3o20_1
                have hEqr3o20_1 := Ext.trans hEqr3o17_2 hxqr3o20_1
                have qqr3o20_1 := bel_step qqr3o17_2 hxqr3o20_1
                obtain ⟨fpqr3o20_1, hroqr3o20_1, hsqr3o20_1⟩ := hqr3o8_1.roF
                refine o_call ha rfl rfl Tryd.call40 (ih (ha0.ext hEqr3o20_1) (ha1.ext hEqr3o20_1) hroqr3o20_1 ha4 (hG.ext hEqr3o20_1) hcqr3o20_1) ?_; clear ha a; rintro vqr3o20_1 wqr3o20_2 ⟨bqr3o20_1, hqr3o20_1, zqr3o20_1, hzqr3o20_1, hxqr3o20_2⟩ a ha
                have qqr3o20_2 := Zn.upB zqr3o20_1 qqr3o20_1
                have qqr3o20_3 := Nq.new h202.fpb zqr3o20_1
                have qqr3o20_4 := Nq.madeO zqr3o20_1 h202.blt
                have qqr3o20_5 := Nq.new hqr3o7_1.fpb zqr3o20_1
                have qqr3o20_6 := Nq.madeO zqr3o20_1 hqr3o7_1.blt
                have qqr3o20_7 := Nq.new hqr3o8_1.fpb zqr3o20_1
                have qqr3o20_8 := Nq.madeO zqr3o20_1 hqr3o8_1.blt
                replace h202 := h202.ext hxqr3o20_2
                replace hqr3o7_1 := hqr3o7_1.ext hxqr3o20_2
                replace hqr3o8_1 := hqr3o8_1.ext hxqr3o20_2
                have hEqr3o20_2 := Ext.trans hEqr3o20_1 hxqr3o20_2
                have qqr3o20_9 := Zn.upD zqr3o20_1 hEqr3o20_1
                refine wpList_nil (e_sq ?_)
                have hStqr3o20_1 : RowKit.Below W.heap.size wqr3o20_1 wqr3o20_2 := ext_bel qqr3o20_1.size hxqr3o20_2
                refine ⟨fun _ => hStqr3o20_1, ?_⟩
                have qqr3o20_10 := RowKit.Below.trans qqr3o20_1 hStqr3o20_1
                refine x_g 21 rfl (by kernel_rfl) (want0 _) ha rfl qqr3o20_10 (g_assign rfl) ?_; clear ha a; intro a ha
                refine x_done (by kernel_rfl) ?_; intro w524 hx525
                replace h202 := h202.ext hx525
                replace hqr3o7_1 := hqr3o7_1.ext hx525
                replace hqr3o8_1 := hqr3o8_1.ext hx525
                replace hqr3o20_1 := hqr3o20_1.ext hx525
                have hE526 := Ext.trans hEqr3o20_2 hx525
                replace ha := ha.sub (σ' := [(0, va0), (1, va1), (2, va2), (3, (.int .u32 (BitVec.toNat a3 : Int))), (4, (.int .i64 a4)), (11, (.int .i64 x3)), (15, vqr3o20_1), (28, v28), (29, (.int .i64 (x26.length : Int))), (30, (.int .i64 i204)), (55, va1), (56, (.int .i64 x3)), (57, (.pointer (some p490))), (58, (.int .i64 x487)), (59, (.int .i64 x376)), (60, (.bool false)), (63, (.int .u32 (BitVec.toNat a3 : Int))), (64, va1), (65, (.int .i64 x376)), (66, (.pointer (some p505))), (67, (.int .i64 x502)), (68, (.bool x514))]) ⟨rfl, rfl, rfl, rfl, rfl, rfl, rfl, rfl, rfl, rfl, rfl, rfl, rfl, rfl, rfl, rfl, rfl, rfl, rfl, rfl, rfl, rfl, trivial⟩
                refine e_then ?_; refine wp_seq ?_; refine wp_region_lit ?_; refine op_g ha rfl (g_move rfl) ?_; clear ha a; intro a ha; refine op_g ha rfl (g_nnilz sl53.und rfl hqr3o20_1 hzqr3o20_1) ?_; clear ha a; intro a ha; refine wpList_nil ?_; replace ha := ha.sub (σ' := [(0, va0), (1, va1), (2, va2), (3, (.int .u32 (BitVec.toNat a3 : Int))), (4, (.int .i64 a4)), (11, (.int .i64 x3)), (15, vqr3o20_1), (28, v28), (29, (.int .i64 (x26.length : Int))), (30, (.int .i64 i204)), (55, va1), (56, (.int .i64 x3)), (57, (.pointer (some p490))), (58, (.int .i64 x487)), (59, (.int .i64 x376)), (60, (.bool false)), (63, (.int .u32 (BitVec.toNat a3 : Int))), (64, va1), (65, (.int .i64 x376)), (66, (.pointer (some p505))), (67, (.int .i64 x502)), (68, (.bool x514)), (92, (.bool (!(List.isEmpty xqr3o20_1))))]) ⟨rfl, rfl, rfl, rfl, rfl, rfl, rfl, rfl, rfl, rfl, rfl, rfl, rfl, rfl, rfl, rfl, rfl, rfl, rfl, rfl, rfl, rfl, rfl, trivial⟩
                refine e_then ?_; refine c_cond (¬ (xqr3o20_1 = [])) ha rfl (n_iff (List.isEmpty_iff)) (fun hp527 => ?_) (fun hp527 => ?_)
                · replace hF := if_t hp527 hF
                  refine wp_seq ?_; refine wp_region_lit ?_; refine op_g ha rfl (g_move rfl) ?_; clear ha a; intro a ha; refine op_g ha rfl (g_assign rfl) ?_; clear ha a; intro a ha; refine wpList_nil ?_; replace ha := ha.sub (σ' := [(10, vqr3o20_1)]) ⟨rfl, trivial⟩; refine e_then ?_; refine wp_ret ?_; refine e_blk_ret ?_; refine e_then_ret ?_; refine e_lq_ret ?_; refine e_then_ret ?_; obtain ⟨hz528, hF⟩ := grd_some hF; obtain rfl := Option.some.inj hF
                  have e529 := LK_inr hN372; subst e529
                  have e530 := BK_inr hK368; subst e530
                  exact f_ret1 ha rfl rfl ⟨_, hqr3o20_1, qqr3o20_9, (.inr hz528), hE526⟩
                replace hF := if_f hp527 hF; refine wp_skip ?_; refine e_blk ?_; refine e_then ?_; refine wp_region_lit ?_; obtain ⟨hI531, hF⟩ := ck_some hF; refine op_g ha rfl (g_add rfl rfl hI531) ?_; clear ha a; intro a ha; refine op_g ha rfl (g_move rfl) ?_; clear ha a; intro a ha; refine wpList_nil ?_; replace ha := ha.sub (σ' := [(0, va0), (1, va1), (2, va2), (3, (.int .u32 (BitVec.toNat a3 : Int))), (4, (.int .i64 a4)), (11, (.int .i64 x3)), (28, v28), (29, (.int .i64 (x26.length : Int))), (30, (.int .i64 (i204 + 1))), (55, va1), (56, (.int .i64 x3)), (57, (.pointer (some p490))), (58, (.int .i64 x487)), (59, (.int .i64 x376)), (60, (.bool false)), (63, (.int .u32 (BitVec.toNat a3 : Int))), (64, va1), (65, (.int .i64 x376)), (66, (.pointer (some p505))), (67, (.int .i64 x502)), (68, (.bool x514))]) ⟨rfl, rfl, rfl, rfl, rfl, rfl, rfl, rfl, rfl, rfl, rfl, rfl, rfl, rfl, rfl, rfl, rfl, rfl, rfl, rfl, rfl, trivial⟩
                refine e_lq ?_; obtain rfl := Option.some.inj hF
                exact ⟨_, Nat.lt_succ_self _, i204 + 1, ha.sub ⟨rfl, rfl, rfl, rfl, rfl, rfl, rfl, rfl, rfl, trivial⟩, hE526, hI531, h202, z203, hN372⟩
              skip
              replace h202 := h202.ext hxqr3o7_2
              replace h418 := h418.ext hxqr3o7_2
              replace hqr3o7_1 := hqr3o7_1.ext hxqr3o7_2
              have hEqr3o15_1 := Ext.trans hEqr3o7_2 hxqr3o7_2
              have qqr3o15_1 := bel_step qqr3o7_9 hxqr3o7_2
              obtain ⟨pqr3o15_1, csqr3o15_1, fqr3o15_1, hfqr3o15_1, hpbqr3o15_1, hatqr3o15_1, hrqr3o15_1, hiqr3o15_1⟩ := ha1.at gqr3o15_1 gxqr3o15_1
              obtain ⟨rfl, hIqr3o15_1, rfl⟩ := hrqr3o15_1
              refine op_g ha rfl (hiqr3o15_1.gives sl53 rfl rfl) ?_; clear ha a; intro a ha; refine wpList_nil (e_sq ?_)
              have hStqr3o15_1 : RowKit.Below W.heap.size wqr3o7_2 wqr3o7_2 := RowKit.Below.refl _ _
              refine ⟨fun _ => hStqr3o15_1, ?_⟩
              have qqr3o15_2 := RowKit.Below.trans qqr3o15_1 hStqr3o15_1
              refine x_many [8, 16] (by kernel_rfl) rfl fun wqr3o15_1 hxqr3o15_1 => ⟨⟨_, rfl, ?_⟩, ⟨_, rfl, ?_⟩, trivial⟩
              · skip
                replace h202 := h202.ext hxqr3o15_1
                replace h418 := h418.ext hxqr3o15_1
                replace hqr3o7_1 := hqr3o7_1.ext hxqr3o15_1
                have hEqr3o8_1 := Ext.trans hEqr3o15_1 hxqr3o15_1
                have qqr3o8_1 := bel_step qqr3o15_2 hxqr3o15_1
                refine o_append ha rfl sl53 rfl rfl rfl h418 hqr3o7_1.src (Nq.nil _) hlqr3o8_1 ?_; clear ha a; intro vqr3o8_1 wqr3o8_1 bqr3o8_1 hqr3o8_1 hcqr3o8_1 hbqr3o8_1 a ha
                replace hqr3o8_1 : Ow Rp.int 3 true wqr3o8_1 [] bqr3o8_1 vqr3o8_1 _ := hqr3o8_1
                have qqr3o8_2 := Nq.appY q422 h202.fpb hbqr3o8_1
                have qqr3o8_3 := Nq.appX q423 (Nq.nil _) hbqr3o8_1 h202.blt
                have qqr3o8_4 := Nq.appY qqr3o7_6 hqr3o7_1.fpb hbqr3o8_1
                have qqr3o8_5 := Nq.appX qqr3o7_5 (Nq.nil _) hbqr3o8_1 hqr3o7_1.blt
                have qqr3o8_6 := Zn.appD q426 hbqr3o8_1 hEqr3o8_1
                have qqr3o8_7 := Zn.appB q426 hbqr3o8_1 qqr3o8_1
                replace h202 := h202.nq hcqr3o8_1 q422
                replace hqr3o7_1 := hqr3o7_1.nq hcqr3o8_1 qqr3o7_6
                have hEqr3o8_2 := Ext.then hEqr3o8_1 hcqr3o8_1 (Zn.bl q426)
                refine wpList_nil (e_sq ?_)
                have hStqr3o8_1 : RowKit.Below W.heap.size wqr3o15_1 wqr3o8_1 := chg_bel hcqr3o8_1 qqr3o8_1.size (Zn.bl q426)
                refine ⟨fun _ => hStqr3o8_1, ?_⟩
                have qqr3o8_8 := RowKit.Below.trans qqr3o8_1 hStqr3o8_1
                refine x_many [11, 16] (by kernel_rfl) rfl fun wqr3o8_2 hxqr3o8_1 => ⟨⟨_, rfl, ?_⟩, ⟨_, rfl, ?_⟩, trivial⟩
                · skip
                  replace h202 := h202.ext hxqr3o8_1
                  replace hqr3o7_1 := hqr3o7_1.ext hxqr3o8_1
                  replace hqr3o8_1 := hqr3o8_1.ext hxqr3o8_1
                  have hEqr3o11_1 := Ext.trans hEqr3o8_2 hxqr3o8_1
                  have qqr3o11_1 := bel_step qqr3o8_8 hxqr3o8_1
                  refine o_call ha rfl rfl Tryd.call41 (W_impl_one hI387 hcqr3o11_1) ?_; clear ha a; rintro vqr3o11_1 wqr3o11_1 ⟨rfl, hxqr3o11_1⟩ a ha
                  replace h202 := h202.ext hxqr3o11_1
                  replace hqr3o7_1 := hqr3o7_1.ext hxqr3o11_1
                  replace hqr3o8_1 := hqr3o8_1.ext hxqr3o11_1
                  have hEqr3o11_2 := Ext.trans hEqr3o11_1 hxqr3o11_1
                  refine wpList_nil (e_sq ?_)
                  have hStqr3o11_1 : RowKit.Below W.heap.size wqr3o8_2 wqr3o11_1 := ext_bel qqr3o11_1.size hxqr3o11_1
                  refine ⟨fun _ => hStqr3o11_1, ?_⟩
                  have qqr3o11_2 := RowKit.Below.trans qqr3o11_1 hStqr3o11_1
                  refine x_g 12 rfl (by kernel_rfl) (want0 _) ha rfl qqr3o11_2 (g32_or (m := a3) (n := xqr3o11_1) rfl rfl) ?_; clear ha a; intro a ha
                  refine x_only 16 rfl (by kernel_rfl) ?_; intro wqr3o16_1 hxqr3o16_1
                  replace h202 := h202.ext hxqr3o16_1
                  replace hqr3o7_1 := hqr3o7_1.ext hxqr3o16_1
                  replace hqr3o8_1 := hqr3o8_1.ext hxqr3o16_1
                  have hEqr3o16_1 := Ext.trans hEqr3o11_2 hxqr3o16_1
                  have qqr3o16_1 := bel_step qqr3o11_2 hxqr3o16_1
                  refine op_g ha rfl (g_load0 hEqr3o16_1 Tryd.isAgg3 rfl hatqr3o15_1.one) ?_; clear ha a; intro a ha; refine wpList_nil (e_sq ?_)
                  have hStqr3o16_1 : RowKit.Below W.heap.size wqr3o16_1 wqr3o16_1 := RowKit.Below.refl _ _
                  refine ⟨fun _ => hStqr3o16_1, ?_⟩
                  have qqr3o16_2 := RowKit.Below.trans qqr3o16_1 hStqr3o16_1
                  refine x_only 17 rfl (by kernel_rfl) ?_; intro wqr3o17_1 hxqr3o17_1
                  replace h202 := h202.ext hxqr3o17_1
                  replace hqr3o7_1 := hqr3o7_1.ext hxqr3o17_1
                  replace hqr3o8_1 := hqr3o8_1.ext hxqr3o17_1
                  have hEqr3o17_1 := Ext.trans hEqr3o16_1 hxqr3o17_1
                  have qqr3o17_1 := bel_step qqr3o16_2 hxqr3o17_1
                  refine o_call ha rfl rfl Tryd.call41 (W_impl_one hIqr3o15_1 hcqr3o17_1) ?_; clear ha a; rintro vqr3o17_1 wqr3o17_2 ⟨rfl, hxqr3o17_2⟩ a ha
                  replace h202 := h202.ext hxqr3o17_2
                  replace hqr3o7_1 := hqr3o7_1.ext hxqr3o17_2
                  replace hqr3o8_1 := hqr3o8_1.ext hxqr3o17_2
                  have hEqr3o17_2 := Ext.trans hEqr3o17_1 hxqr3o17_2
                  refine wpList_nil (e_sq ?_)
                  have hStqr3o17_1 : RowKit.Below W.heap.size wqr3o17_1 wqr3o17_2 := ext_bel qqr3o17_1.size hxqr3o17_2
                  refine ⟨fun _ => hStqr3o17_1, ?_⟩
                  have qqr3o17_2 := RowKit.Below.trans qqr3o17_1 hStqr3o17_1
                  refine x_g 18 rfl (by kernel_rfl) (want0 _) ha rfl qqr3o17_2 (g32_or (m := (a3 ||| xqr3o11_1)) (n := xqr3o17_1) rfl rfl) ?_; clear ha a; intro a ha
                  refine x_only 20 rfl (by kernel_rfl) ?_; intro wqr3o20_1 hxqr3o20_1
                  replace h202 := h202.ext hxqr3o20_1
                  replace hqr3o7_1 := hqr3o7_1.ext hxqr3o20_1
                  replace hqr3o8_1 := hqr3o8_1.ext hxqr3o20_1
                  have hEqr3o20_1 := Ext.trans hEqr3o17_2 hxqr3o20_1
                  have qqr3o20_1 := bel_step qqr3o17_2 hxqr3o20_1
                  obtain ⟨fpqr3o20_1, hroqr3o20_1, hsqr3o20_1⟩ := hqr3o8_1.roF
                  refine o_call ha rfl rfl Tryd.call40 (ih (ha0.ext hEqr3o20_1) (ha1.ext hEqr3o20_1) hroqr3o20_1 ha4 (hG.ext hEqr3o20_1) hcqr3o20_1) ?_; clear ha a; rintro vqr3o20_1 wqr3o20_2 ⟨bqr3o20_1, hqr3o20_1, zqr3o20_1, hzqr3o20_1, hxqr3o20_2⟩ a ha
                  have qqr3o20_2 := Zn.upB zqr3o20_1 qqr3o20_1
                  have qqr3o20_3 := Nq.new h202.fpb zqr3o20_1
                  have qqr3o20_4 := Nq.madeO zqr3o20_1 h202.blt
                  have qqr3o20_5 := Nq.new hqr3o7_1.fpb zqr3o20_1
                  have qqr3o20_6 := Nq.madeO zqr3o20_1 hqr3o7_1.blt
                  have qqr3o20_7 := Nq.new hqr3o8_1.fpb zqr3o20_1
                  have qqr3o20_8 := Nq.madeO zqr3o20_1 hqr3o8_1.blt
                  replace h202 := h202.ext hxqr3o20_2
                  replace hqr3o7_1 := hqr3o7_1.ext hxqr3o20_2
                  replace hqr3o8_1 := hqr3o8_1.ext hxqr3o20_2
                  have hEqr3o20_2 := Ext.trans hEqr3o20_1 hxqr3o20_2
                  have qqr3o20_9 := Zn.upD zqr3o20_1 hEqr3o20_1
                  refine wpList_nil (e_sq ?_)
                  have hStqr3o20_1 : RowKit.Below W.heap.size wqr3o20_1 wqr3o20_2 := ext_bel qqr3o20_1.size hxqr3o20_2
                  refine ⟨fun _ => hStqr3o20_1, ?_⟩
                  have qqr3o20_10 := RowKit.Below.trans qqr3o20_1 hStqr3o20_1
                  refine x_g 21 rfl (by kernel_rfl) (want0 _) ha rfl qqr3o20_10 (g_assign rfl) ?_; clear ha a; intro a ha
                  refine x_done (by kernel_rfl) ?_; intro w524 hx525
                  replace h202 := h202.ext hx525
                  replace hqr3o7_1 := hqr3o7_1.ext hx525
                  replace hqr3o8_1 := hqr3o8_1.ext hx525
                  replace hqr3o20_1 := hqr3o20_1.ext hx525
                  have hE526 := Ext.trans hEqr3o20_2 hx525
                  replace ha := ha.sub (σ' := [(0, va0), (1, va1), (2, va2), (3, (.int .u32 (BitVec.toNat a3 : Int))), (4, (.int .i64 a4)), (11, (.int .i64 x3)), (15, vqr3o20_1), (28, v28), (29, (.int .i64 (x26.length : Int))), (30, (.int .i64 i204)), (55, va1), (56, (.int .i64 x3)), (57, (.pointer (some p490))), (58, (.int .i64 x487)), (59, (.int .i64 x376)), (60, (.bool false)), (63, (.int .u32 (BitVec.toNat a3 : Int))), (64, va1), (65, (.int .i64 x376)), (66, (.pointer (some p505))), (67, (.int .i64 x502)), (68, (.bool x514))]) ⟨rfl, rfl, rfl, rfl, rfl, rfl, rfl, rfl, rfl, rfl, rfl, rfl, rfl, rfl, rfl, rfl, rfl, rfl, rfl, rfl, rfl, rfl, trivial⟩
                  refine e_then ?_; refine wp_seq ?_; refine wp_region_lit ?_; refine op_g ha rfl (g_move rfl) ?_; clear ha a; intro a ha; refine op_g ha rfl (g_nnilz sl53.und rfl hqr3o20_1 hzqr3o20_1) ?_; clear ha a; intro a ha; refine wpList_nil ?_; replace ha := ha.sub (σ' := [(0, va0), (1, va1), (2, va2), (3, (.int .u32 (BitVec.toNat a3 : Int))), (4, (.int .i64 a4)), (11, (.int .i64 x3)), (15, vqr3o20_1), (28, v28), (29, (.int .i64 (x26.length : Int))), (30, (.int .i64 i204)), (55, va1), (56, (.int .i64 x3)), (57, (.pointer (some p490))), (58, (.int .i64 x487)), (59, (.int .i64 x376)), (60, (.bool false)), (63, (.int .u32 (BitVec.toNat a3 : Int))), (64, va1), (65, (.int .i64 x376)), (66, (.pointer (some p505))), (67, (.int .i64 x502)), (68, (.bool x514)), (92, (.bool (!(List.isEmpty xqr3o20_1))))]) ⟨rfl, rfl, rfl, rfl, rfl, rfl, rfl, rfl, rfl, rfl, rfl, rfl, rfl, rfl, rfl, rfl, rfl, rfl, rfl, rfl, rfl, rfl, rfl, trivial⟩
                  refine e_then ?_; refine c_cond (¬ (xqr3o20_1 = [])) ha rfl (n_iff (List.isEmpty_iff)) (fun hp527 => ?_) (fun hp527 => ?_)
                  · replace hF := if_t hp527 hF
                    refine wp_seq ?_; refine wp_region_lit ?_; refine op_g ha rfl (g_move rfl) ?_; clear ha a; intro a ha; refine op_g ha rfl (g_assign rfl) ?_; clear ha a; intro a ha; refine wpList_nil ?_; replace ha := ha.sub (σ' := [(10, vqr3o20_1)]) ⟨rfl, trivial⟩; refine e_then ?_; refine wp_ret ?_; refine e_blk_ret ?_; refine e_then_ret ?_; refine e_lq_ret ?_; refine e_then_ret ?_; obtain ⟨hz528, hF⟩ := grd_some hF; obtain rfl := Option.some.inj hF
                    have e529 := LK_inr hN372; subst e529
                    have e530 := BK_inr hK368; subst e530
                    exact f_ret1 ha rfl rfl ⟨_, hqr3o20_1, qqr3o20_9, (.inr hz528), hE526⟩
                  replace hF := if_f hp527 hF; refine wp_skip ?_; refine e_blk ?_; refine e_then ?_; refine wp_region_lit ?_; obtain ⟨hI531, hF⟩ := ck_some hF; refine op_g ha rfl (g_add rfl rfl hI531) ?_; clear ha a; intro a ha; refine op_g ha rfl (g_move rfl) ?_; clear ha a; intro a ha; refine wpList_nil ?_; replace ha := ha.sub (σ' := [(0, va0), (1, va1), (2, va2), (3, (.int .u32 (BitVec.toNat a3 : Int))), (4, (.int .i64 a4)), (11, (.int .i64 x3)), (28, v28), (29, (.int .i64 (x26.length : Int))), (30, (.int .i64 (i204 + 1))), (55, va1), (56, (.int .i64 x3)), (57, (.pointer (some p490))), (58, (.int .i64 x487)), (59, (.int .i64 x376)), (60, (.bool false)), (63, (.int .u32 (BitVec.toNat a3 : Int))), (64, va1), (65, (.int .i64 x376)), (66, (.pointer (some p505))), (67, (.int .i64 x502)), (68, (.bool x514))]) ⟨rfl, rfl, rfl, rfl, rfl, rfl, rfl, rfl, rfl, rfl, rfl, rfl, rfl, rfl, rfl, rfl, rfl, rfl, rfl, rfl, rfl, trivial⟩
                  refine e_lq ?_; obtain rfl := Option.some.inj hF
                  exact ⟨_, Nat.lt_succ_self _, i204 + 1, ha.sub ⟨rfl, rfl, rfl, rfl, rfl, rfl, rfl, rfl, rfl, trivial⟩, hE526, hI531, h202, z203, hN372⟩
                skip
                replace h202 := h202.ext hxqr3o8_1
                replace hqr3o7_1 := hqr3o7_1.ext hxqr3o8_1
                replace hqr3o8_1 := hqr3o8_1.ext hxqr3o8_1
                have hEqr3o16_1 := Ext.trans hEqr3o8_2 hxqr3o8_1
                have qqr3o16_1 := bel_step qqr3o8_8 hxqr3o8_1
                refine op_g ha rfl (g_load0 hEqr3o16_1 Tryd.isAgg3 rfl hatqr3o15_1.one) ?_; clear ha a; intro a ha; refine wpList_nil (e_sq ?_)
                have hStqr3o16_1 : RowKit.Below W.heap.size wqr3o8_2 wqr3o8_2 := RowKit.Below.refl _ _
                refine ⟨fun _ => hStqr3o16_1, ?_⟩
                have qqr3o16_2 := RowKit.Below.trans qqr3o16_1 hStqr3o16_1
                refine x_only 11 rfl (by kernel_rfl) ?_; intro wqr3o11_1 hxqr3o11_1
                replace h202 := h202.ext hxqr3o11_1
                replace hqr3o7_1 := hqr3o7_1.ext hxqr3o11_1
                replace hqr3o8_1 := hqr3o8_1.ext hxqr3o11_1
                have hEqr3o11_1 := Ext.trans hEqr3o16_1 hxqr3o11_1
                have qqr3o11_1 := bel_step qqr3o16_2 hxqr3o11_1
                refine o_call ha rfl rfl Tryd.call41 (W_impl_one hI387 hcqr3o11_1) ?_; clear ha a; rintro vqr3o11_1 wqr3o11_2 ⟨rfl, hxqr3o11_2⟩ a ha
                replace h202 := h202.ext hxqr3o11_2
                replace hqr3o7_1 := hqr3o7_1.ext hxqr3o11_2
                replace hqr3o8_1 := hqr3o8_1.ext hxqr3o11_2
                have hEqr3o11_2 := Ext.trans hEqr3o11_1 hxqr3o11_2
                refine wpList_nil (e_sq ?_)
                have hStqr3o11_1 : RowKit.Below W.heap.size wqr3o11_1 wqr3o11_2 := ext_bel qqr3o11_1.size hxqr3o11_2
                refine ⟨fun _ => hStqr3o11_1, ?_⟩
                have qqr3o11_2 := RowKit.Below.trans qqr3o11_1 hStqr3o11_1
                refine x_g 12 rfl (by kernel_rfl) (want0 _) ha rfl qqr3o11_2 (g32_or (m := a3) (n := xqr3o11_1) rfl rfl) ?_; clear ha a; intro a ha
                refine x_only 17 rfl (by kernel_rfl) ?_; intro wqr3o17_1 hxqr3o17_1
                replace h202 := h202.ext hxqr3o17_1
                replace hqr3o7_1 := hqr3o7_1.ext hxqr3o17_1
                replace hqr3o8_1 := hqr3o8_1.ext hxqr3o17_1
                have hEqr3o17_1 := Ext.trans hEqr3o11_2 hxqr3o17_1
                have qqr3o17_1 := bel_step qqr3o11_2 hxqr3o17_1
                refine o_call ha rfl rfl Tryd.call41 (W_impl_one hIqr3o15_1 hcqr3o17_1) ?_; clear ha a; rintro vqr3o17_1 wqr3o17_2 ⟨rfl, hxqr3o17_2⟩ a ha
                replace h202 := h202.ext hxqr3o17_2
                replace hqr3o7_1 := hqr3o7_1.ext hxqr3o17_2
                replace hqr3o8_1 := hqr3o8_1.ext hxqr3o17_2
                have hEqr3o17_2 := Ext.trans hEqr3o17_1 hxqr3o17_2
                refine wpList_nil (e_sq ?_)
                have hStqr3o17_1 : RowKit.Below W.heap.size wqr3o17_1 wqr3o17_2 := ext_bel qqr3o17_1.size hxqr3o17_2
                refine ⟨fun _ => hStqr3o17_1, ?_⟩
                have qqr3o17_2 := RowKit.Below.trans qqr3o17_1 hStqr3o17_1
                refine x_g 18 rfl (by kernel_rfl) (want0 _) ha rfl qqr3o17_2 (g32_or (m := (a3 ||| xqr3o11_1)) (n := xqr3o17_1) rfl rfl) ?_; clear ha a; intro a ha
                refine x_only 20 rfl (by kernel_rfl) ?_; intro wqr3o20_1 hxqr3o20_1
                replace h202 := h202.ext hxqr3o20_1
                replace hqr3o7_1 := hqr3o7_1.ext hxqr3o20_1
                replace hqr3o8_1 := hqr3o8_1.ext hxqr3o20_1
                have hEqr3o20_1 := Ext.trans hEqr3o17_2 hxqr3o20_1
                have qqr3o20_1 := bel_step qqr3o17_2 hxqr3o20_1
                obtain ⟨fpqr3o20_1, hroqr3o20_1, hsqr3o20_1⟩ := hqr3o8_1.roF
                refine o_call ha rfl rfl Tryd.call40 (ih (ha0.ext hEqr3o20_1) (ha1.ext hEqr3o20_1) hroqr3o20_1 ha4 (hG.ext hEqr3o20_1) hcqr3o20_1) ?_; clear ha a; rintro vqr3o20_1 wqr3o20_2 ⟨bqr3o20_1, hqr3o20_1, zqr3o20_1, hzqr3o20_1, hxqr3o20_2⟩ a ha
                have qqr3o20_2 := Zn.upB zqr3o20_1 qqr3o20_1
                have qqr3o20_3 := Nq.new h202.fpb zqr3o20_1
                have qqr3o20_4 := Nq.madeO zqr3o20_1 h202.blt
                have qqr3o20_5 := Nq.new hqr3o7_1.fpb zqr3o20_1
                have qqr3o20_6 := Nq.madeO zqr3o20_1 hqr3o7_1.blt
                have qqr3o20_7 := Nq.new hqr3o8_1.fpb zqr3o20_1
                have qqr3o20_8 := Nq.madeO zqr3o20_1 hqr3o8_1.blt
                replace h202 := h202.ext hxqr3o20_2
                replace hqr3o7_1 := hqr3o7_1.ext hxqr3o20_2
                replace hqr3o8_1 := hqr3o8_1.ext hxqr3o20_2
                have hEqr3o20_2 := Ext.trans hEqr3o20_1 hxqr3o20_2
                have qqr3o20_9 := Zn.upD zqr3o20_1 hEqr3o20_1
                refine wpList_nil (e_sq ?_)
                have hStqr3o20_1 : RowKit.Below W.heap.size wqr3o20_1 wqr3o20_2 := ext_bel qqr3o20_1.size hxqr3o20_2
                refine ⟨fun _ => hStqr3o20_1, ?_⟩
                have qqr3o20_10 := RowKit.Below.trans qqr3o20_1 hStqr3o20_1
                refine x_g 21 rfl (by kernel_rfl) (want0 _) ha rfl qqr3o20_10 (g_assign rfl) ?_; clear ha a; intro a ha
                refine x_done (by kernel_rfl) ?_; intro w524 hx525
                replace h202 := h202.ext hx525
                replace hqr3o7_1 := hqr3o7_1.ext hx525
                replace hqr3o8_1 := hqr3o8_1.ext hx525
                replace hqr3o20_1 := hqr3o20_1.ext hx525
                have hE526 := Ext.trans hEqr3o20_2 hx525
                replace ha := ha.sub (σ' := [(0, va0), (1, va1), (2, va2), (3, (.int .u32 (BitVec.toNat a3 : Int))), (4, (.int .i64 a4)), (11, (.int .i64 x3)), (15, vqr3o20_1), (28, v28), (29, (.int .i64 (x26.length : Int))), (30, (.int .i64 i204)), (55, va1), (56, (.int .i64 x3)), (57, (.pointer (some p490))), (58, (.int .i64 x487)), (59, (.int .i64 x376)), (60, (.bool false)), (63, (.int .u32 (BitVec.toNat a3 : Int))), (64, va1), (65, (.int .i64 x376)), (66, (.pointer (some p505))), (67, (.int .i64 x502)), (68, (.bool x514))]) ⟨rfl, rfl, rfl, rfl, rfl, rfl, rfl, rfl, rfl, rfl, rfl, rfl, rfl, rfl, rfl, rfl, rfl, rfl, rfl, rfl, rfl, rfl, trivial⟩
                refine e_then ?_; refine wp_seq ?_; refine wp_region_lit ?_; refine op_g ha rfl (g_move rfl) ?_; clear ha a; intro a ha; refine op_g ha rfl (g_nnilz sl53.und rfl hqr3o20_1 hzqr3o20_1) ?_; clear ha a; intro a ha; refine wpList_nil ?_; replace ha := ha.sub (σ' := [(0, va0), (1, va1), (2, va2), (3, (.int .u32 (BitVec.toNat a3 : Int))), (4, (.int .i64 a4)), (11, (.int .i64 x3)), (15, vqr3o20_1), (28, v28), (29, (.int .i64 (x26.length : Int))), (30, (.int .i64 i204)), (55, va1), (56, (.int .i64 x3)), (57, (.pointer (some p490))), (58, (.int .i64 x487)), (59, (.int .i64 x376)), (60, (.bool false)), (63, (.int .u32 (BitVec.toNat a3 : Int))), (64, va1), (65, (.int .i64 x376)), (66, (.pointer (some p505))), (67, (.int .i64 x502)), (68, (.bool x514)), (92, (.bool (!(List.isEmpty xqr3o20_1))))]) ⟨rfl, rfl, rfl, rfl, rfl, rfl, rfl, rfl, rfl, rfl, rfl, rfl, rfl, rfl, rfl, rfl, rfl, rfl, rfl, rfl, rfl, rfl, rfl, trivial⟩
                refine e_then ?_; refine c_cond (¬ (xqr3o20_1 = [])) ha rfl (n_iff (List.isEmpty_iff)) (fun hp527 => ?_) (fun hp527 => ?_)
                · replace hF := if_t hp527 hF
                  refine wp_seq ?_; refine wp_region_lit ?_; refine op_g ha rfl (g_move rfl) ?_; clear ha a; intro a ha; refine op_g ha rfl (g_assign rfl) ?_; clear ha a; intro a ha; refine wpList_nil ?_; replace ha := ha.sub (σ' := [(10, vqr3o20_1)]) ⟨rfl, trivial⟩; refine e_then ?_; refine wp_ret ?_; refine e_blk_ret ?_; refine e_then_ret ?_; refine e_lq_ret ?_; refine e_then_ret ?_; obtain ⟨hz528, hF⟩ := grd_some hF; obtain rfl := Option.some.inj hF
                  have e529 := LK_inr hN372; subst e529
                  have e530 := BK_inr hK368; subst e530
                  exact f_ret1 ha rfl rfl ⟨_, hqr3o20_1, qqr3o20_9, (.inr hz528), hE526⟩
                replace hF := if_f hp527 hF; refine wp_skip ?_; refine e_blk ?_; refine e_then ?_; refine wp_region_lit ?_; obtain ⟨hI531, hF⟩ := ck_some hF; refine op_g ha rfl (g_add rfl rfl hI531) ?_; clear ha a; intro a ha; refine op_g ha rfl (g_move rfl) ?_; clear ha a; intro a ha; refine wpList_nil ?_; replace ha := ha.sub (σ' := [(0, va0), (1, va1), (2, va2), (3, (.int .u32 (BitVec.toNat a3 : Int))), (4, (.int .i64 a4)), (11, (.int .i64 x3)), (28, v28), (29, (.int .i64 (x26.length : Int))), (30, (.int .i64 (i204 + 1))), (55, va1), (56, (.int .i64 x3)), (57, (.pointer (some p490))), (58, (.int .i64 x487)), (59, (.int .i64 x376)), (60, (.bool false)), (63, (.int .u32 (BitVec.toNat a3 : Int))), (64, va1), (65, (.int .i64 x376)), (66, (.pointer (some p505))), (67, (.int .i64 x502)), (68, (.bool x514))]) ⟨rfl, rfl, rfl, rfl, rfl, rfl, rfl, rfl, rfl, rfl, rfl, rfl, rfl, rfl, rfl, rfl, rfl, rfl, rfl, rfl, rfl, trivial⟩
                refine e_lq ?_; obtain rfl := Option.some.inj hF
                exact ⟨_, Nat.lt_succ_self _, i204 + 1, ha.sub ⟨rfl, rfl, rfl, rfl, rfl, rfl, rfl, rfl, rfl, trivial⟩, hE526, hI531, h202, z203, hN372⟩
              skip
              replace h202 := h202.ext hxqr3o15_1
              replace h418 := h418.ext hxqr3o15_1
              replace hqr3o7_1 := hqr3o7_1.ext hxqr3o15_1
              have hEqr3o16_1 := Ext.trans hEqr3o15_1 hxqr3o15_1
              have qqr3o16_1 := bel_step qqr3o15_2 hxqr3o15_1
              refine op_g ha rfl (g_load0 hEqr3o16_1 Tryd.isAgg3 rfl hatqr3o15_1.one) ?_; clear ha a; intro a ha; refine wpList_nil (e_sq ?_)
              have hStqr3o16_1 : RowKit.Below W.heap.size wqr3o15_1 wqr3o15_1 := RowKit.Below.refl _ _
              refine ⟨fun _ => hStqr3o16_1, ?_⟩
              have qqr3o16_2 := RowKit.Below.trans qqr3o16_1 hStqr3o16_1
              refine x_only 8 rfl (by kernel_rfl) ?_; intro wqr3o8_1 hxqr3o8_1
              replace h202 := h202.ext hxqr3o8_1
              replace h418 := h418.ext hxqr3o8_1
              replace hqr3o7_1 := hqr3o7_1.ext hxqr3o8_1
              have hEqr3o8_1 := Ext.trans hEqr3o16_1 hxqr3o8_1
              have qqr3o8_1 := bel_step qqr3o16_2 hxqr3o8_1
              refine o_append ha rfl sl53 rfl rfl rfl h418 hqr3o7_1.src (Nq.nil _) hlqr3o8_1 ?_; clear ha a; intro vqr3o8_1 wqr3o8_2 bqr3o8_1 hqr3o8_1 hcqr3o8_1 hbqr3o8_1 a ha
              replace hqr3o8_1 : Ow Rp.int 3 true wqr3o8_2 [] bqr3o8_1 vqr3o8_1 _ := hqr3o8_1
              have qqr3o8_2 := Nq.appY q422 h202.fpb hbqr3o8_1
              have qqr3o8_3 := Nq.appX q423 (Nq.nil _) hbqr3o8_1 h202.blt
              have qqr3o8_4 := Nq.appY qqr3o7_6 hqr3o7_1.fpb hbqr3o8_1
              have qqr3o8_5 := Nq.appX qqr3o7_5 (Nq.nil _) hbqr3o8_1 hqr3o7_1.blt
              have qqr3o8_6 := Zn.appD q426 hbqr3o8_1 hEqr3o8_1
              have qqr3o8_7 := Zn.appB q426 hbqr3o8_1 qqr3o8_1
              replace h202 := h202.nq hcqr3o8_1 q422
              replace hqr3o7_1 := hqr3o7_1.nq hcqr3o8_1 qqr3o7_6
              have hEqr3o8_2 := Ext.then hEqr3o8_1 hcqr3o8_1 (Zn.bl q426)
              refine wpList_nil (e_sq ?_)
              have hStqr3o8_1 : RowKit.Below W.heap.size wqr3o8_1 wqr3o8_2 := chg_bel hcqr3o8_1 qqr3o8_1.size (Zn.bl q426)
              refine ⟨fun _ => hStqr3o8_1, ?_⟩
              have qqr3o8_8 := RowKit.Below.trans qqr3o8_1 hStqr3o8_1
              refine x_only 11 rfl (by kernel_rfl) ?_; intro wqr3o11_1 hxqr3o11_1
              replace h202 := h202.ext hxqr3o11_1
              replace hqr3o7_1 := hqr3o7_1.ext hxqr3o11_1
              replace hqr3o8_1 := hqr3o8_1.ext hxqr3o11_1
              have hEqr3o11_1 := Ext.trans hEqr3o8_2 hxqr3o11_1
              have qqr3o11_1 := bel_step qqr3o8_8 hxqr3o11_1
              refine o_call ha rfl rfl Tryd.call41 (W_impl_one hI387 hcqr3o11_1) ?_; clear ha a; rintro vqr3o11_1 wqr3o11_2 ⟨rfl, hxqr3o11_2⟩ a ha
              replace h202 := h202.ext hxqr3o11_2
              replace hqr3o7_1 := hqr3o7_1.ext hxqr3o11_2
              replace hqr3o8_1 := hqr3o8_1.ext hxqr3o11_2
              have hEqr3o11_2 := Ext.trans hEqr3o11_1 hxqr3o11_2
              refine wpList_nil (e_sq ?_)
              have hStqr3o11_1 : RowKit.Below W.heap.size wqr3o11_1 wqr3o11_2 := ext_bel qqr3o11_1.size hxqr3o11_2
              refine ⟨fun _ => hStqr3o11_1, ?_⟩
              have qqr3o11_2 := RowKit.Below.trans qqr3o11_1 hStqr3o11_1
              refine x_g 12 rfl (by kernel_rfl) (want0 _) ha rfl qqr3o11_2 (g32_or (m := a3) (n := xqr3o11_1) rfl rfl) ?_; clear ha a; intro a ha
              refine x_only 17 rfl (by kernel_rfl) ?_; intro wqr3o17_1 hxqr3o17_1
              replace h202 := h202.ext hxqr3o17_1
              replace hqr3o7_1 := hqr3o7_1.ext hxqr3o17_1
              replace hqr3o8_1 := hqr3o8_1.ext hxqr3o17_1
              have hEqr3o17_1 := Ext.trans hEqr3o11_2 hxqr3o17_1
              have qqr3o17_1 := bel_step qqr3o11_2 hxqr3o17_1
              refine o_call ha rfl rfl Tryd.call41 (W_impl_one hIqr3o15_1 hcqr3o17_1) ?_; clear ha a; rintro vqr3o17_1 wqr3o17_2 ⟨rfl, hxqr3o17_2⟩ a ha
              replace h202 := h202.ext hxqr3o17_2
              replace hqr3o7_1 := hqr3o7_1.ext hxqr3o17_2
              replace hqr3o8_1 := hqr3o8_1.ext hxqr3o17_2
              have hEqr3o17_2 := Ext.trans hEqr3o17_1 hxqr3o17_2
              refine wpList_nil (e_sq ?_)
              have hStqr3o17_1 : RowKit.Below W.heap.size wqr3o17_1 wqr3o17_2 := ext_bel qqr3o17_1.size hxqr3o17_2
              refine ⟨fun _ => hStqr3o17_1, ?_⟩
              have qqr3o17_2 := RowKit.Below.trans qqr3o17_1 hStqr3o17_1
              refine x_g 18 rfl (by kernel_rfl) (want0 _) ha rfl qqr3o17_2 (g32_or (m := (a3 ||| xqr3o11_1)) (n := xqr3o17_1) rfl rfl) ?_; clear ha a; intro a ha
              refine x_only 20 rfl (by kernel_rfl) ?_; intro wqr3o20_1 hxqr3o20_1
              replace h202 := h202.ext hxqr3o20_1
              replace hqr3o7_1 := hqr3o7_1.ext hxqr3o20_1
              replace hqr3o8_1 := hqr3o8_1.ext hxqr3o20_1
              have hEqr3o20_1 := Ext.trans hEqr3o17_2 hxqr3o20_1
              have qqr3o20_1 := bel_step qqr3o17_2 hxqr3o20_1
              obtain ⟨fpqr3o20_1, hroqr3o20_1, hsqr3o20_1⟩ := hqr3o8_1.roF
              refine o_call ha rfl rfl Tryd.call40 (ih (ha0.ext hEqr3o20_1) (ha1.ext hEqr3o20_1) hroqr3o20_1 ha4 (hG.ext hEqr3o20_1) hcqr3o20_1) ?_; clear ha a; rintro vqr3o20_1 wqr3o20_2 ⟨bqr3o20_1, hqr3o20_1, zqr3o20_1, hzqr3o20_1, hxqr3o20_2⟩ a ha
              have qqr3o20_2 := Zn.upB zqr3o20_1 qqr3o20_1
              have qqr3o20_3 := Nq.new h202.fpb zqr3o20_1
              have qqr3o20_4 := Nq.madeO zqr3o20_1 h202.blt
              have qqr3o20_5 := Nq.new hqr3o7_1.fpb zqr3o20_1
              have qqr3o20_6 := Nq.madeO zqr3o20_1 hqr3o7_1.blt
              have qqr3o20_7 := Nq.new hqr3o8_1.fpb zqr3o20_1
              have qqr3o20_8 := Nq.madeO zqr3o20_1 hqr3o8_1.blt
              replace h202 := h202.ext hxqr3o20_2
              replace hqr3o7_1 := hqr3o7_1.ext hxqr3o20_2
              replace hqr3o8_1 := hqr3o8_1.ext hxqr3o20_2
              have hEqr3o20_2 := Ext.trans hEqr3o20_1 hxqr3o20_2
              have qqr3o20_9 := Zn.upD zqr3o20_1 hEqr3o20_1
              refine wpList_nil (e_sq ?_)
              have hStqr3o20_1 : RowKit.Below W.heap.size wqr3o20_1 wqr3o20_2 := ext_bel qqr3o20_1.size hxqr3o20_2
              refine ⟨fun _ => hStqr3o20_1, ?_⟩
              have qqr3o20_10 := RowKit.Below.trans qqr3o20_1 hStqr3o20_1
              refine x_g 21 rfl (by kernel_rfl) (want0 _) ha rfl qqr3o20_10 (g_assign rfl) ?_; clear ha a; intro a ha
              refine x_done (by kernel_rfl) ?_; intro w524 hx525
              replace h202 := h202.ext hx525
              replace hqr3o7_1 := hqr3o7_1.ext hx525
              replace hqr3o8_1 := hqr3o8_1.ext hx525
              replace hqr3o20_1 := hqr3o20_1.ext hx525
              have hE526 := Ext.trans hEqr3o20_2 hx525
              replace ha := ha.sub (σ' := [(0, va0), (1, va1), (2, va2), (3, (.int .u32 (BitVec.toNat a3 : Int))), (4, (.int .i64 a4)), (11, (.int .i64 x3)), (15, vqr3o20_1), (28, v28), (29, (.int .i64 (x26.length : Int))), (30, (.int .i64 i204)), (55, va1), (56, (.int .i64 x3)), (57, (.pointer (some p490))), (58, (.int .i64 x487)), (59, (.int .i64 x376)), (60, (.bool false)), (63, (.int .u32 (BitVec.toNat a3 : Int))), (64, va1), (65, (.int .i64 x376)), (66, (.pointer (some p505))), (67, (.int .i64 x502)), (68, (.bool x514))]) ⟨rfl, rfl, rfl, rfl, rfl, rfl, rfl, rfl, rfl, rfl, rfl, rfl, rfl, rfl, rfl, rfl, rfl, rfl, rfl, rfl, rfl, rfl, trivial⟩
              refine e_then ?_; refine wp_seq ?_; refine wp_region_lit ?_; refine op_g ha rfl (g_move rfl) ?_; clear ha a; intro a ha; refine op_g ha rfl (g_nnilz sl53.und rfl hqr3o20_1 hzqr3o20_1) ?_; clear ha a; intro a ha; refine wpList_nil ?_; replace ha := ha.sub (σ' := [(0, va0), (1, va1), (2, va2), (3, (.int .u32 (BitVec.toNat a3 : Int))), (4, (.int .i64 a4)), (11, (.int .i64 x3)), (15, vqr3o20_1), (28, v28), (29, (.int .i64 (x26.length : Int))), (30, (.int .i64 i204)), (55, va1), (56, (.int .i64 x3)), (57, (.pointer (some p490))), (58, (.int .i64 x487)), (59, (.int .i64 x376)), (60, (.bool false)), (63, (.int .u32 (BitVec.toNat a3 : Int))), (64, va1), (65, (.int .i64 x376)), (66, (.pointer (some p505))), (67, (.int .i64 x502)), (68, (.bool x514)), (92, (.bool (!(List.isEmpty xqr3o20_1))))]) ⟨rfl, rfl, rfl, rfl, rfl, rfl, rfl, rfl, rfl, rfl, rfl, rfl, rfl, rfl, rfl, rfl, rfl, rfl, rfl, rfl, rfl, rfl, rfl, trivial⟩
              refine e_then ?_; refine c_cond (¬ (xqr3o20_1 = [])) ha rfl (n_iff (List.isEmpty_iff)) (fun hp527 => ?_) (fun hp527 => ?_)
              · replace hF := if_t hp527 hF
                refine wp_seq ?_; refine wp_region_lit ?_; refine op_g ha rfl (g_move rfl) ?_; clear ha a; intro a ha; refine op_g ha rfl (g_assign rfl) ?_; clear ha a; intro a ha; refine wpList_nil ?_; replace ha := ha.sub (σ' := [(10, vqr3o20_1)]) ⟨rfl, trivial⟩; refine e_then ?_; refine wp_ret ?_; refine e_blk_ret ?_; refine e_then_ret ?_; refine e_lq_ret ?_; refine e_then_ret ?_; obtain ⟨hz528, hF⟩ := grd_some hF; obtain rfl := Option.some.inj hF
                have e529 := LK_inr hN372; subst e529
                have e530 := BK_inr hK368; subst e530
                exact f_ret1 ha rfl rfl ⟨_, hqr3o20_1, qqr3o20_9, (.inr hz528), hE526⟩
              replace hF := if_f hp527 hF; refine wp_skip ?_; refine e_blk ?_; refine e_then ?_; refine wp_region_lit ?_; obtain ⟨hI531, hF⟩ := ck_some hF; refine op_g ha rfl (g_add rfl rfl hI531) ?_; clear ha a; intro a ha; refine op_g ha rfl (g_move rfl) ?_; clear ha a; intro a ha; refine wpList_nil ?_; replace ha := ha.sub (σ' := [(0, va0), (1, va1), (2, va2), (3, (.int .u32 (BitVec.toNat a3 : Int))), (4, (.int .i64 a4)), (11, (.int .i64 x3)), (28, v28), (29, (.int .i64 (x26.length : Int))), (30, (.int .i64 (i204 + 1))), (55, va1), (56, (.int .i64 x3)), (57, (.pointer (some p490))), (58, (.int .i64 x487)), (59, (.int .i64 x376)), (60, (.bool false)), (63, (.int .u32 (BitVec.toNat a3 : Int))), (64, va1), (65, (.int .i64 x376)), (66, (.pointer (some p505))), (67, (.int .i64 x502)), (68, (.bool x514))]) ⟨rfl, rfl, rfl, rfl, rfl, rfl, rfl, rfl, rfl, rfl, rfl, rfl, rfl, rfl, rfl, rfl, rfl, rfl, rfl, rfl, rfl, trivial⟩
              refine e_lq ?_; obtain rfl := Option.some.inj hF
              exact ⟨_, Nat.lt_succ_self _, i204 + 1, ha.sub ⟨rfl, rfl, rfl, rfl, rfl, rfl, rfl, rfl, rfl, trivial⟩, hE526, hI531, h202, z203, hN372⟩
            skip
            replace h202 := h202.ext hxqr3o6_1
            replace h418 := h418.ext hxqr3o6_1
            have hEqr3o15_1 := Ext.trans hEqr3o6_1 hxqr3o6_1
            have qqr3o15_1 := bel_step qqr3o6_2 hxqr3o6_1
            obtain ⟨pqr3o15_1, csqr3o15_1, fqr3o15_1, hfqr3o15_1, hpbqr3o15_1, hatqr3o15_1, hrqr3o15_1, hiqr3o15_1⟩ := ha1.at gqr3o15_1 gxqr3o15_1
            obtain ⟨rfl, hIqr3o15_1, rfl⟩ := hrqr3o15_1
            refine op_g ha rfl (hiqr3o15_1.gives sl53 rfl rfl) ?_; clear ha a; intro a ha; refine wpList_nil (e_sq ?_)
            have hStqr3o15_1 : RowKit.Below W.heap.size wqr3o6_1 wqr3o6_1 := RowKit.Below.refl _ _
            refine ⟨fun _ => hStqr3o15_1, ?_⟩
            have qqr3o15_2 := RowKit.Below.trans qqr3o15_1 hStqr3o15_1
            refine x_many [7, 16] (by kernel_rfl) rfl fun wqr3o15_1 hxqr3o15_1 => ⟨⟨_, rfl, ?_⟩, ⟨_, rfl, ?_⟩, trivial⟩
            · skip
              replace h202 := h202.ext hxqr3o15_1
              replace h418 := h418.ext hxqr3o15_1
              have hEqr3o7_1 := Ext.trans hEqr3o15_1 hxqr3o15_1
              have qqr3o7_1 := bel_step qqr3o15_2 hxqr3o15_1
              refine o_lit1 (o := true) (y := xqr3o5_1) Rp.int ha rfl sl53 rfl rfl rfl ⟨rfl, hIqr3o5_1, rfl⟩ ?_; clear ha a; intro vqr3o7_1 wqr3o7_1 hqr3o7_1 hxqr3o7_1 a ha
              obtain ⟨bqr3o7_1, hbqr3o7_1⟩ : ∃ b : Int, b = wqr3o15_1.heap.size := ⟨_, rfl⟩; rw [← hbqr3o7_1] at hqr3o7_1
              have qqr3o7_2 := zn_of hbqr3o7_1
              have qqr3o7_3 := Nq.new h202.fpb qqr3o7_2
              have qqr3o7_4 := Nq.madeO qqr3o7_2 h202.blt
              have qqr3o7_5 := Nq.new h418.fpb qqr3o7_2
              have qqr3o7_6 := Nq.madeO qqr3o7_2 h418.blt
              have qqr3o7_7 := Zn.upD qqr3o7_2 hEqr3o7_1
              have qqr3o7_8 := Zn.upB qqr3o7_2 qqr3o7_1
              replace h202 := h202.ext hxqr3o7_1
              replace h418 := h418.ext hxqr3o7_1
              have hEqr3o7_2 := Ext.trans hEqr3o7_1 hxqr3o7_1
              refine wpList_nil (e_sq ?_)
              have hStqr3o7_1 : RowKit.Below W.heap.size wqr3o15_1 wqr3o7_1 := ext_bel qqr3o7_1.size hxqr3o7_1
              refine ⟨fun _ => hStqr3o7_1, ?_⟩
              have qqr3o7_9 := RowKit.Below.trans qqr3o7_1 hStqr3o7_1
              refine x_many [8, 16] (by kernel_rfl) rfl fun wqr3o7_2 hxqr3o7_2 => ⟨⟨_, rfl, ?_⟩, ⟨_, rfl, ?_⟩, trivial⟩
              · skip
                replace h202 := h202.ext hxqr3o7_2
                replace h418 := h418.ext hxqr3o7_2
                replace hqr3o7_1 := hqr3o7_1.ext hxqr3o7_2
                have hEqr3o8_1 := Ext.trans hEqr3o7_2 hxqr3o7_2
                have qqr3o8_1 := bel_step qqr3o7_9 hxqr3o7_2
                refine o_append ha rfl sl53 rfl rfl rfl h418 hqr3o7_1.src (Nq.nil _) hlqr3o8_1 ?_; clear ha a; intro vqr3o8_1 wqr3o8_1 bqr3o8_1 hqr3o8_1 hcqr3o8_1 hbqr3o8_1 a ha
                replace hqr3o8_1 : Ow Rp.int 3 true wqr3o8_1 [] bqr3o8_1 vqr3o8_1 _ := hqr3o8_1
                have qqr3o8_2 := Nq.appY q422 h202.fpb hbqr3o8_1
                have qqr3o8_3 := Nq.appX q423 (Nq.nil _) hbqr3o8_1 h202.blt
                have qqr3o8_4 := Nq.appY qqr3o7_6 hqr3o7_1.fpb hbqr3o8_1
                have qqr3o8_5 := Nq.appX qqr3o7_5 (Nq.nil _) hbqr3o8_1 hqr3o7_1.blt
                have qqr3o8_6 := Zn.appD q426 hbqr3o8_1 hEqr3o8_1
                have qqr3o8_7 := Zn.appB q426 hbqr3o8_1 qqr3o8_1
                replace h202 := h202.nq hcqr3o8_1 q422
                replace hqr3o7_1 := hqr3o7_1.nq hcqr3o8_1 qqr3o7_6
                have hEqr3o8_2 := Ext.then hEqr3o8_1 hcqr3o8_1 (Zn.bl q426)
                refine wpList_nil (e_sq ?_)
                have hStqr3o8_1 : RowKit.Below W.heap.size wqr3o7_2 wqr3o8_1 := chg_bel hcqr3o8_1 qqr3o8_1.size (Zn.bl q426)
                refine ⟨fun _ => hStqr3o8_1, ?_⟩
                have qqr3o8_8 := RowKit.Below.trans qqr3o8_1 hStqr3o8_1
                refine x_many [11, 16] (by kernel_rfl) rfl fun wqr3o8_2 hxqr3o8_1 => ⟨⟨_, rfl, ?_⟩, ⟨_, rfl, ?_⟩, trivial⟩
                · skip
                  replace h202 := h202.ext hxqr3o8_1
                  replace hqr3o7_1 := hqr3o7_1.ext hxqr3o8_1
                  replace hqr3o8_1 := hqr3o8_1.ext hxqr3o8_1
                  have hEqr3o11_1 := Ext.trans hEqr3o8_2 hxqr3o8_1
                  have qqr3o11_1 := bel_step qqr3o8_8 hxqr3o8_1
                  refine o_call ha rfl rfl Tryd.call41 (W_impl_one hI387 hcqr3o11_1) ?_; clear ha a; rintro vqr3o11_1 wqr3o11_1 ⟨rfl, hxqr3o11_1⟩ a ha
                  replace h202 := h202.ext hxqr3o11_1
                  replace hqr3o7_1 := hqr3o7_1.ext hxqr3o11_1
                  replace hqr3o8_1 := hqr3o8_1.ext hxqr3o11_1
                  have hEqr3o11_2 := Ext.trans hEqr3o11_1 hxqr3o11_1
                  refine wpList_nil (e_sq ?_)
                  have hStqr3o11_1 : RowKit.Below W.heap.size wqr3o8_2 wqr3o11_1 := ext_bel qqr3o11_1.size hxqr3o11_1
                  refine ⟨fun _ => hStqr3o11_1, ?_⟩
                  have qqr3o11_2 := RowKit.Below.trans qqr3o11_1 hStqr3o11_1
                  refine x_g 12 rfl (by kernel_rfl) (want0 _) ha rfl qqr3o11_2 (g32_or (m := a3) (n := xqr3o11_1) rfl rfl) ?_; clear ha a; intro a ha
                  refine x_only 16 rfl (by kernel_rfl) ?_; intro wqr3o16_1 hxqr3o16_1
                  replace h202 := h202.ext hxqr3o16_1
                  replace hqr3o7_1 := hqr3o7_1.ext hxqr3o16_1
                  replace hqr3o8_1 := hqr3o8_1.ext hxqr3o16_1
                  have hEqr3o16_1 := Ext.trans hEqr3o11_2 hxqr3o16_1
                  have qqr3o16_1 := bel_step qqr3o11_2 hxqr3o16_1
                  refine op_g ha rfl (g_load0 hEqr3o16_1 Tryd.isAgg3 rfl hatqr3o15_1.one) ?_; clear ha a; intro a ha; refine wpList_nil (e_sq ?_)
                  have hStqr3o16_1 : RowKit.Below W.heap.size wqr3o16_1 wqr3o16_1 := RowKit.Below.refl _ _
                  refine ⟨fun _ => hStqr3o16_1, ?_⟩
                  have qqr3o16_2 := RowKit.Below.trans qqr3o16_1 hStqr3o16_1
                  refine x_only 17 rfl (by kernel_rfl) ?_; intro wqr3o17_1 hxqr3o17_1
                  replace h202 := h202.ext hxqr3o17_1
                  replace hqr3o7_1 := hqr3o7_1.ext hxqr3o17_1
                  replace hqr3o8_1 := hqr3o8_1.ext hxqr3o17_1
                  have hEqr3o17_1 := Ext.trans hEqr3o16_1 hxqr3o17_1
                  have qqr3o17_1 := bel_step qqr3o16_2 hxqr3o17_1
                  refine o_call ha rfl rfl Tryd.call41 (W_impl_one hIqr3o15_1 hcqr3o17_1) ?_; clear ha a; rintro vqr3o17_1 wqr3o17_2 ⟨rfl, hxqr3o17_2⟩ a ha
                  replace h202 := h202.ext hxqr3o17_2
                  replace hqr3o7_1 := hqr3o7_1.ext hxqr3o17_2
                  replace hqr3o8_1 := hqr3o8_1.ext hxqr3o17_2
                  have hEqr3o17_2 := Ext.trans hEqr3o17_1 hxqr3o17_2
                  refine wpList_nil (e_sq ?_)
                  have hStqr3o17_1 : RowKit.Below W.heap.size wqr3o17_1 wqr3o17_2 := ext_bel qqr3o17_1.size hxqr3o17_2
                  refine ⟨fun _ => hStqr3o17_1, ?_⟩
                  have qqr3o17_2 := RowKit.Below.trans qqr3o17_1 hStqr3o17_1
                  refine x_g 18 rfl (by kernel_rfl) (want0 _) ha rfl qqr3o17_2 (g32_or (m := (a3 ||| xqr3o11_1)) (n := xqr3o17_1) rfl rfl) ?_; clear ha a; intro a ha
                  refine x_only 20 rfl (by kernel_rfl) ?_; intro wqr3o20_1 hxqr3o20_1
                  replace h202 := h202.ext hxqr3o20_1
                  replace hqr3o7_1 := hqr3o7_1.ext hxqr3o20_1
                  replace hqr3o8_1 := hqr3o8_1.ext hxqr3o20_1
                  have hEqr3o20_1 := Ext.trans hEqr3o17_2 hxqr3o20_1
                  have qqr3o20_1 := bel_step qqr3o17_2 hxqr3o20_1
                  obtain ⟨fpqr3o20_1, hroqr3o20_1, hsqr3o20_1⟩ := hqr3o8_1.roF
                  refine o_call ha rfl rfl Tryd.call40 (ih (ha0.ext hEqr3o20_1) (ha1.ext hEqr3o20_1) hroqr3o20_1 ha4 (hG.ext hEqr3o20_1) hcqr3o20_1) ?_; clear ha a; rintro vqr3o20_1 wqr3o20_2 ⟨bqr3o20_1, hqr3o20_1, zqr3o20_1, hzqr3o20_1, hxqr3o20_2⟩ a ha
                  have qqr3o20_2 := Zn.upB zqr3o20_1 qqr3o20_1
                  have qqr3o20_3 := Nq.new h202.fpb zqr3o20_1
                  have qqr3o20_4 := Nq.madeO zqr3o20_1 h202.blt
                  have qqr3o20_5 := Nq.new hqr3o7_1.fpb zqr3o20_1
                  have qqr3o20_6 := Nq.madeO zqr3o20_1 hqr3o7_1.blt
                  have qqr3o20_7 := Nq.new hqr3o8_1.fpb zqr3o20_1
                  have qqr3o20_8 := Nq.madeO zqr3o20_1 hqr3o8_1.blt
                  replace h202 := h202.ext hxqr3o20_2
                  replace hqr3o7_1 := hqr3o7_1.ext hxqr3o20_2
                  replace hqr3o8_1 := hqr3o8_1.ext hxqr3o20_2
                  have hEqr3o20_2 := Ext.trans hEqr3o20_1 hxqr3o20_2
                  have qqr3o20_9 := Zn.upD zqr3o20_1 hEqr3o20_1
                  refine wpList_nil (e_sq ?_)
                  have hStqr3o20_1 : RowKit.Below W.heap.size wqr3o20_1 wqr3o20_2 := ext_bel qqr3o20_1.size hxqr3o20_2
                  refine ⟨fun _ => hStqr3o20_1, ?_⟩
                  have qqr3o20_10 := RowKit.Below.trans qqr3o20_1 hStqr3o20_1
                  refine x_g 21 rfl (by kernel_rfl) (want0 _) ha rfl qqr3o20_10 (g_assign rfl) ?_; clear ha a; intro a ha
                  refine x_done (by kernel_rfl) ?_; intro w524 hx525
                  replace h202 := h202.ext hx525
                  replace hqr3o7_1 := hqr3o7_1.ext hx525
                  replace hqr3o8_1 := hqr3o8_1.ext hx525
                  replace hqr3o20_1 := hqr3o20_1.ext hx525
                  have hE526 := Ext.trans hEqr3o20_2 hx525
                  replace ha := ha.sub (σ' := [(0, va0), (1, va1), (2, va2), (3, (.int .u32 (BitVec.toNat a3 : Int))), (4, (.int .i64 a4)), (11, (.int .i64 x3)), (15, vqr3o20_1), (28, v28), (29, (.int .i64 (x26.length : Int))), (30, (.int .i64 i204)), (55, va1), (56, (.int .i64 x3)), (57, (.pointer (some p490))), (58, (.int .i64 x487)), (59, (.int .i64 x376)), (60, (.bool false)), (63, (.int .u32 (BitVec.toNat a3 : Int))), (64, va1), (65, (.int .i64 x376)), (66, (.pointer (some p505))), (67, (.int .i64 x502)), (68, (.bool x514))]) ⟨rfl, rfl, rfl, rfl, rfl, rfl, rfl, rfl, rfl, rfl, rfl, rfl, rfl, rfl, rfl, rfl, rfl, rfl, rfl, rfl, rfl, rfl, trivial⟩
                  refine e_then ?_; refine wp_seq ?_; refine wp_region_lit ?_; refine op_g ha rfl (g_move rfl) ?_; clear ha a; intro a ha; refine op_g ha rfl (g_nnilz sl53.und rfl hqr3o20_1 hzqr3o20_1) ?_; clear ha a; intro a ha; refine wpList_nil ?_; replace ha := ha.sub (σ' := [(0, va0), (1, va1), (2, va2), (3, (.int .u32 (BitVec.toNat a3 : Int))), (4, (.int .i64 a4)), (11, (.int .i64 x3)), (15, vqr3o20_1), (28, v28), (29, (.int .i64 (x26.length : Int))), (30, (.int .i64 i204)), (55, va1), (56, (.int .i64 x3)), (57, (.pointer (some p490))), (58, (.int .i64 x487)), (59, (.int .i64 x376)), (60, (.bool false)), (63, (.int .u32 (BitVec.toNat a3 : Int))), (64, va1), (65, (.int .i64 x376)), (66, (.pointer (some p505))), (67, (.int .i64 x502)), (68, (.bool x514)), (92, (.bool (!(List.isEmpty xqr3o20_1))))]) ⟨rfl, rfl, rfl, rfl, rfl, rfl, rfl, rfl, rfl, rfl, rfl, rfl, rfl, rfl, rfl, rfl, rfl, rfl, rfl, rfl, rfl, rfl, rfl, trivial⟩
                  refine e_then ?_; refine c_cond (¬ (xqr3o20_1 = [])) ha rfl (n_iff (List.isEmpty_iff)) (fun hp527 => ?_) (fun hp527 => ?_)
                  · replace hF := if_t hp527 hF
                    refine wp_seq ?_; refine wp_region_lit ?_; refine op_g ha rfl (g_move rfl) ?_; clear ha a; intro a ha; refine op_g ha rfl (g_assign rfl) ?_; clear ha a; intro a ha; refine wpList_nil ?_; replace ha := ha.sub (σ' := [(10, vqr3o20_1)]) ⟨rfl, trivial⟩; refine e_then ?_; refine wp_ret ?_; refine e_blk_ret ?_; refine e_then_ret ?_; refine e_lq_ret ?_; refine e_then_ret ?_; obtain ⟨hz528, hF⟩ := grd_some hF; obtain rfl := Option.some.inj hF
                    have e529 := LK_inr hN372; subst e529
                    have e530 := BK_inr hK368; subst e530
                    exact f_ret1 ha rfl rfl ⟨_, hqr3o20_1, qqr3o20_9, (.inr hz528), hE526⟩
                  replace hF := if_f hp527 hF; refine wp_skip ?_; refine e_blk ?_; refine e_then ?_; refine wp_region_lit ?_; obtain ⟨hI531, hF⟩ := ck_some hF; refine op_g ha rfl (g_add rfl rfl hI531) ?_; clear ha a; intro a ha; refine op_g ha rfl (g_move rfl) ?_; clear ha a; intro a ha; refine wpList_nil ?_; replace ha := ha.sub (σ' := [(0, va0), (1, va1), (2, va2), (3, (.int .u32 (BitVec.toNat a3 : Int))), (4, (.int .i64 a4)), (11, (.int .i64 x3)), (28, v28), (29, (.int .i64 (x26.length : Int))), (30, (.int .i64 (i204 + 1))), (55, va1), (56, (.int .i64 x3)), (57, (.pointer (some p490))), (58, (.int .i64 x487)), (59, (.int .i64 x376)), (60, (.bool false)), (63, (.int .u32 (BitVec.toNat a3 : Int))), (64, va1), (65, (.int .i64 x376)), (66, (.pointer (some p505))), (67, (.int .i64 x502)), (68, (.bool x514))]) ⟨rfl, rfl, rfl, rfl, rfl, rfl, rfl, rfl, rfl, rfl, rfl, rfl, rfl, rfl, rfl, rfl, rfl, rfl, rfl, rfl, rfl, trivial⟩
                  refine e_lq ?_; obtain rfl := Option.some.inj hF
                  exact ⟨_, Nat.lt_succ_self _, i204 + 1, ha.sub ⟨rfl, rfl, rfl, rfl, rfl, rfl, rfl, rfl, rfl, trivial⟩, hE526, hI531, h202, z203, hN372⟩
                skip
                replace h202 := h202.ext hxqr3o8_1
                replace hqr3o7_1 := hqr3o7_1.ext hxqr3o8_1
                replace hqr3o8_1 := hqr3o8_1.ext hxqr3o8_1
                have hEqr3o16_1 := Ext.trans hEqr3o8_2 hxqr3o8_1
                have qqr3o16_1 := bel_step qqr3o8_8 hxqr3o8_1
                refine op_g ha rfl (g_load0 hEqr3o16_1 Tryd.isAgg3 rfl hatqr3o15_1.one) ?_; clear ha a; intro a ha; refine wpList_nil (e_sq ?_)
                have hStqr3o16_1 : RowKit.Below W.heap.size wqr3o8_2 wqr3o8_2 := RowKit.Below.refl _ _
                refine ⟨fun _ => hStqr3o16_1, ?_⟩
                have qqr3o16_2 := RowKit.Below.trans qqr3o16_1 hStqr3o16_1
                refine x_only 11 rfl (by kernel_rfl) ?_; intro wqr3o11_1 hxqr3o11_1
                replace h202 := h202.ext hxqr3o11_1
                replace hqr3o7_1 := hqr3o7_1.ext hxqr3o11_1
                replace hqr3o8_1 := hqr3o8_1.ext hxqr3o11_1
                have hEqr3o11_1 := Ext.trans hEqr3o16_1 hxqr3o11_1
                have qqr3o11_1 := bel_step qqr3o16_2 hxqr3o11_1
                refine o_call ha rfl rfl Tryd.call41 (W_impl_one hI387 hcqr3o11_1) ?_; clear ha a; rintro vqr3o11_1 wqr3o11_2 ⟨rfl, hxqr3o11_2⟩ a ha
                replace h202 := h202.ext hxqr3o11_2
                replace hqr3o7_1 := hqr3o7_1.ext hxqr3o11_2
                replace hqr3o8_1 := hqr3o8_1.ext hxqr3o11_2
                have hEqr3o11_2 := Ext.trans hEqr3o11_1 hxqr3o11_2
                refine wpList_nil (e_sq ?_)
                have hStqr3o11_1 : RowKit.Below W.heap.size wqr3o11_1 wqr3o11_2 := ext_bel qqr3o11_1.size hxqr3o11_2
                refine ⟨fun _ => hStqr3o11_1, ?_⟩
                have qqr3o11_2 := RowKit.Below.trans qqr3o11_1 hStqr3o11_1
                refine x_g 12 rfl (by kernel_rfl) (want0 _) ha rfl qqr3o11_2 (g32_or (m := a3) (n := xqr3o11_1) rfl rfl) ?_; clear ha a; intro a ha
                refine x_only 17 rfl (by kernel_rfl) ?_; intro wqr3o17_1 hxqr3o17_1
                replace h202 := h202.ext hxqr3o17_1
                replace hqr3o7_1 := hqr3o7_1.ext hxqr3o17_1
                replace hqr3o8_1 := hqr3o8_1.ext hxqr3o17_1
                have hEqr3o17_1 := Ext.trans hEqr3o11_2 hxqr3o17_1
                have qqr3o17_1 := bel_step qqr3o11_2 hxqr3o17_1
                refine o_call ha rfl rfl Tryd.call41 (W_impl_one hIqr3o15_1 hcqr3o17_1) ?_; clear ha a; rintro vqr3o17_1 wqr3o17_2 ⟨rfl, hxqr3o17_2⟩ a ha
                replace h202 := h202.ext hxqr3o17_2
                replace hqr3o7_1 := hqr3o7_1.ext hxqr3o17_2
                replace hqr3o8_1 := hqr3o8_1.ext hxqr3o17_2
                have hEqr3o17_2 := Ext.trans hEqr3o17_1 hxqr3o17_2
                refine wpList_nil (e_sq ?_)
                have hStqr3o17_1 : RowKit.Below W.heap.size wqr3o17_1 wqr3o17_2 := ext_bel qqr3o17_1.size hxqr3o17_2
                refine ⟨fun _ => hStqr3o17_1, ?_⟩
                have qqr3o17_2 := RowKit.Below.trans qqr3o17_1 hStqr3o17_1
                refine x_g 18 rfl (by kernel_rfl) (want0 _) ha rfl qqr3o17_2 (g32_or (m := (a3 ||| xqr3o11_1)) (n := xqr3o17_1) rfl rfl) ?_; clear ha a; intro a ha
                refine x_only 20 rfl (by kernel_rfl) ?_; intro wqr3o20_1 hxqr3o20_1
                replace h202 := h202.ext hxqr3o20_1
                replace hqr3o7_1 := hqr3o7_1.ext hxqr3o20_1
                replace hqr3o8_1 := hqr3o8_1.ext hxqr3o20_1
                have hEqr3o20_1 := Ext.trans hEqr3o17_2 hxqr3o20_1
                have qqr3o20_1 := bel_step qqr3o17_2 hxqr3o20_1
                obtain ⟨fpqr3o20_1, hroqr3o20_1, hsqr3o20_1⟩ := hqr3o8_1.roF
                refine o_call ha rfl rfl Tryd.call40 (ih (ha0.ext hEqr3o20_1) (ha1.ext hEqr3o20_1) hroqr3o20_1 ha4 (hG.ext hEqr3o20_1) hcqr3o20_1) ?_; clear ha a; rintro vqr3o20_1 wqr3o20_2 ⟨bqr3o20_1, hqr3o20_1, zqr3o20_1, hzqr3o20_1, hxqr3o20_2⟩ a ha
                have qqr3o20_2 := Zn.upB zqr3o20_1 qqr3o20_1
                have qqr3o20_3 := Nq.new h202.fpb zqr3o20_1
                have qqr3o20_4 := Nq.madeO zqr3o20_1 h202.blt
                have qqr3o20_5 := Nq.new hqr3o7_1.fpb zqr3o20_1
                have qqr3o20_6 := Nq.madeO zqr3o20_1 hqr3o7_1.blt
                have qqr3o20_7 := Nq.new hqr3o8_1.fpb zqr3o20_1
                have qqr3o20_8 := Nq.madeO zqr3o20_1 hqr3o8_1.blt
                replace h202 := h202.ext hxqr3o20_2
                replace hqr3o7_1 := hqr3o7_1.ext hxqr3o20_2
                replace hqr3o8_1 := hqr3o8_1.ext hxqr3o20_2
                have hEqr3o20_2 := Ext.trans hEqr3o20_1 hxqr3o20_2
                have qqr3o20_9 := Zn.upD zqr3o20_1 hEqr3o20_1
                refine wpList_nil (e_sq ?_)
                have hStqr3o20_1 : RowKit.Below W.heap.size wqr3o20_1 wqr3o20_2 := ext_bel qqr3o20_1.size hxqr3o20_2
                refine ⟨fun _ => hStqr3o20_1, ?_⟩
                have qqr3o20_10 := RowKit.Below.trans qqr3o20_1 hStqr3o20_1
                refine x_g 21 rfl (by kernel_rfl) (want0 _) ha rfl qqr3o20_10 (g_assign rfl) ?_; clear ha a; intro a ha
                refine x_done (by kernel_rfl) ?_; intro w524 hx525
                replace h202 := h202.ext hx525
                replace hqr3o7_1 := hqr3o7_1.ext hx525
                replace hqr3o8_1 := hqr3o8_1.ext hx525
                replace hqr3o20_1 := hqr3o20_1.ext hx525
                have hE526 := Ext.trans hEqr3o20_2 hx525
                replace ha := ha.sub (σ' := [(0, va0), (1, va1), (2, va2), (3, (.int .u32 (BitVec.toNat a3 : Int))), (4, (.int .i64 a4)), (11, (.int .i64 x3)), (15, vqr3o20_1), (28, v28), (29, (.int .i64 (x26.length : Int))), (30, (.int .i64 i204)), (55, va1), (56, (.int .i64 x3)), (57, (.pointer (some p490))), (58, (.int .i64 x487)), (59, (.int .i64 x376)), (60, (.bool false)), (63, (.int .u32 (BitVec.toNat a3 : Int))), (64, va1), (65, (.int .i64 x376)), (66, (.pointer (some p505))), (67, (.int .i64 x502)), (68, (.bool x514))]) ⟨rfl, rfl, rfl, rfl, rfl, rfl, rfl, rfl, rfl, rfl, rfl, rfl, rfl, rfl, rfl, rfl, rfl, rfl, rfl, rfl, rfl, rfl, trivial⟩
                refine e_then ?_; refine wp_seq ?_; refine wp_region_lit ?_; refine op_g ha rfl (g_move rfl) ?_; clear ha a; intro a ha; refine op_g ha rfl (g_nnilz sl53.und rfl hqr3o20_1 hzqr3o20_1) ?_; clear ha a; intro a ha; refine wpList_nil ?_; replace ha := ha.sub (σ' := [(0, va0), (1, va1), (2, va2), (3, (.int .u32 (BitVec.toNat a3 : Int))), (4, (.int .i64 a4)), (11, (.int .i64 x3)), (15, vqr3o20_1), (28, v28), (29, (.int .i64 (x26.length : Int))), (30, (.int .i64 i204)), (55, va1), (56, (.int .i64 x3)), (57, (.pointer (some p490))), (58, (.int .i64 x487)), (59, (.int .i64 x376)), (60, (.bool false)), (63, (.int .u32 (BitVec.toNat a3 : Int))), (64, va1), (65, (.int .i64 x376)), (66, (.pointer (some p505))), (67, (.int .i64 x502)), (68, (.bool x514)), (92, (.bool (!(List.isEmpty xqr3o20_1))))]) ⟨rfl, rfl, rfl, rfl, rfl, rfl, rfl, rfl, rfl, rfl, rfl, rfl, rfl, rfl, rfl, rfl, rfl, rfl, rfl, rfl, rfl, rfl, rfl, trivial⟩
                refine e_then ?_; refine c_cond (¬ (xqr3o20_1 = [])) ha rfl (n_iff (List.isEmpty_iff)) (fun hp527 => ?_) (fun hp527 => ?_)
                · replace hF := if_t hp527 hF
                  refine wp_seq ?_; refine wp_region_lit ?_; refine op_g ha rfl (g_move rfl) ?_; clear ha a; intro a ha; refine op_g ha rfl (g_assign rfl) ?_; clear ha a; intro a ha; refine wpList_nil ?_; replace ha := ha.sub (σ' := [(10, vqr3o20_1)]) ⟨rfl, trivial⟩; refine e_then ?_; refine wp_ret ?_; refine e_blk_ret ?_; refine e_then_ret ?_; refine e_lq_ret ?_; refine e_then_ret ?_; obtain ⟨hz528, hF⟩ := grd_some hF; obtain rfl := Option.some.inj hF
                  have e529 := LK_inr hN372; subst e529
                  have e530 := BK_inr hK368; subst e530
                  exact f_ret1 ha rfl rfl ⟨_, hqr3o20_1, qqr3o20_9, (.inr hz528), hE526⟩
                replace hF := if_f hp527 hF; refine wp_skip ?_; refine e_blk ?_; refine e_then ?_; refine wp_region_lit ?_; obtain ⟨hI531, hF⟩ := ck_some hF; refine op_g ha rfl (g_add rfl rfl hI531) ?_; clear ha a; intro a ha; refine op_g ha rfl (g_move rfl) ?_; clear ha a; intro a ha; refine wpList_nil ?_; replace ha := ha.sub (σ' := [(0, va0), (1, va1), (2, va2), (3, (.int .u32 (BitVec.toNat a3 : Int))), (4, (.int .i64 a4)), (11, (.int .i64 x3)), (28, v28), (29, (.int .i64 (x26.length : Int))), (30, (.int .i64 (i204 + 1))), (55, va1), (56, (.int .i64 x3)), (57, (.pointer (some p490))), (58, (.int .i64 x487)), (59, (.int .i64 x376)), (60, (.bool false)), (63, (.int .u32 (BitVec.toNat a3 : Int))), (64, va1), (65, (.int .i64 x376)), (66, (.pointer (some p505))), (67, (.int .i64 x502)), (68, (.bool x514))]) ⟨rfl, rfl, rfl, rfl, rfl, rfl, rfl, rfl, rfl, rfl, rfl, rfl, rfl, rfl, rfl, rfl, rfl, rfl, rfl, rfl, rfl, trivial⟩
                refine e_lq ?_; obtain rfl := Option.some.inj hF
                exact ⟨_, Nat.lt_succ_self _, i204 + 1, ha.sub ⟨rfl, rfl, rfl, rfl, rfl, rfl, rfl, rfl, rfl, trivial⟩, hE526, hI531, h202, z203, hN372⟩
              skip
              replace h202 := h202.ext hxqr3o7_2
              replace h418 := h418.ext hxqr3o7_2
              replace hqr3o7_1 := hqr3o7_1.ext hxqr3o7_2
              have hEqr3o16_1 := Ext.trans hEqr3o7_2 hxqr3o7_2
              have qqr3o16_1 := bel_step qqr3o7_9 hxqr3o7_2
              refine op_g ha rfl (g_load0 hEqr3o16_1 Tryd.isAgg3 rfl hatqr3o15_1.one) ?_; clear ha a; intro a ha; refine wpList_nil (e_sq ?_)
              have hStqr3o16_1 : RowKit.Below W.heap.size wqr3o7_2 wqr3o7_2 := RowKit.Below.refl _ _
              refine ⟨fun _ => hStqr3o16_1, ?_⟩
              have qqr3o16_2 := RowKit.Below.trans qqr3o16_1 hStqr3o16_1
              refine x_only 8 rfl (by kernel_rfl) ?_; intro wqr3o8_1 hxqr3o8_1
              replace h202 := h202.ext hxqr3o8_1
              replace h418 := h418.ext hxqr3o8_1
              replace hqr3o7_1 := hqr3o7_1.ext hxqr3o8_1
              have hEqr3o8_1 := Ext.trans hEqr3o16_1 hxqr3o8_1
              have qqr3o8_1 := bel_step qqr3o16_2 hxqr3o8_1
              refine o_append ha rfl sl53 rfl rfl rfl h418 hqr3o7_1.src (Nq.nil _) hlqr3o8_1 ?_; clear ha a; intro vqr3o8_1 wqr3o8_2 bqr3o8_1 hqr3o8_1 hcqr3o8_1 hbqr3o8_1 a ha
              replace hqr3o8_1 : Ow Rp.int 3 true wqr3o8_2 [] bqr3o8_1 vqr3o8_1 _ := hqr3o8_1
              have qqr3o8_2 := Nq.appY q422 h202.fpb hbqr3o8_1
              have qqr3o8_3 := Nq.appX q423 (Nq.nil _) hbqr3o8_1 h202.blt
              have qqr3o8_4 := Nq.appY qqr3o7_6 hqr3o7_1.fpb hbqr3o8_1
              have qqr3o8_5 := Nq.appX qqr3o7_5 (Nq.nil _) hbqr3o8_1 hqr3o7_1.blt
              have qqr3o8_6 := Zn.appD q426 hbqr3o8_1 hEqr3o8_1
              have qqr3o8_7 := Zn.appB q426 hbqr3o8_1 qqr3o8_1
              replace h202 := h202.nq hcqr3o8_1 q422
              replace hqr3o7_1 := hqr3o7_1.nq hcqr3o8_1 qqr3o7_6
              have hEqr3o8_2 := Ext.then hEqr3o8_1 hcqr3o8_1 (Zn.bl q426)
              refine wpList_nil (e_sq ?_)
              have hStqr3o8_1 : RowKit.Below W.heap.size wqr3o8_1 wqr3o8_2 := chg_bel hcqr3o8_1 qqr3o8_1.size (Zn.bl q426)
              refine ⟨fun _ => hStqr3o8_1, ?_⟩
              have qqr3o8_8 := RowKit.Below.trans qqr3o8_1 hStqr3o8_1
              refine x_only 11 rfl (by kernel_rfl) ?_; intro wqr3o11_1 hxqr3o11_1
              replace h202 := h202.ext hxqr3o11_1
              replace hqr3o7_1 := hqr3o7_1.ext hxqr3o11_1
              replace hqr3o8_1 := hqr3o8_1.ext hxqr3o11_1
              have hEqr3o11_1 := Ext.trans hEqr3o8_2 hxqr3o11_1
              have qqr3o11_1 := bel_step qqr3o8_8 hxqr3o11_1
              refine o_call ha rfl rfl Tryd.call41 (W_impl_one hI387 hcqr3o11_1) ?_; clear ha a; rintro vqr3o11_1 wqr3o11_2 ⟨rfl, hxqr3o11_2⟩ a ha
              replace h202 := h202.ext hxqr3o11_2
              replace hqr3o7_1 := hqr3o7_1.ext hxqr3o11_2
              replace hqr3o8_1 := hqr3o8_1.ext hxqr3o11_2
              have hEqr3o11_2 := Ext.trans hEqr3o11_1 hxqr3o11_2
              refine wpList_nil (e_sq ?_)
              have hStqr3o11_1 : RowKit.Below W.heap.size wqr3o11_1 wqr3o11_2 := ext_bel qqr3o11_1.size hxqr3o11_2
              refine ⟨fun _ => hStqr3o11_1, ?_⟩
              have qqr3o11_2 := RowKit.Below.trans qqr3o11_1 hStqr3o11_1
              refine x_g 12 rfl (by kernel_rfl) (want0 _) ha rfl qqr3o11_2 (g32_or (m := a3) (n := xqr3o11_1) rfl rfl) ?_; clear ha a; intro a ha
              refine x_only 17 rfl (by kernel_rfl) ?_; intro wqr3o17_1 hxqr3o17_1
              replace h202 := h202.ext hxqr3o17_1
              replace hqr3o7_1 := hqr3o7_1.ext hxqr3o17_1
              replace hqr3o8_1 := hqr3o8_1.ext hxqr3o17_1
              have hEqr3o17_1 := Ext.trans hEqr3o11_2 hxqr3o17_1
              have qqr3o17_1 := bel_step qqr3o11_2 hxqr3o17_1
              refine o_call ha rfl rfl Tryd.call41 (W_impl_one hIqr3o15_1 hcqr3o17_1) ?_; clear ha a; rintro vqr3o17_1 wqr3o17_2 ⟨rfl, hxqr3o17_2⟩ a ha
              replace h202 := h202.ext hxqr3o17_2
              replace hqr3o7_1 := hqr3o7_1.ext hxqr3o17_2
              replace hqr3o8_1 := hqr3o8_1.ext hxqr3o17_2
              have hEqr3o17_2 := Ext.trans hEqr3o17_1 hxqr3o17_2
              refine wpList_nil (e_sq ?_)
              have hStqr3o17_1 : RowKit.Below W.heap.size wqr3o17_1 wqr3o17_2 := ext_bel qqr3o17_1.size hxqr3o17_2
              refine ⟨fun _ => hStqr3o17_1, ?_⟩
              have qqr3o17_2 := RowKit.Below.trans qqr3o17_1 hStqr3o17_1
              refine x_g 18 rfl (by kernel_rfl) (want0 _) ha rfl qqr3o17_2 (g32_or (m := (a3 ||| xqr3o11_1)) (n := xqr3o17_1) rfl rfl) ?_; clear ha a; intro a ha
              refine x_only 20 rfl (by kernel_rfl) ?_; intro wqr3o20_1 hxqr3o20_1
              replace h202 := h202.ext hxqr3o20_1
              replace hqr3o7_1 := hqr3o7_1.ext hxqr3o20_1
              replace hqr3o8_1 := hqr3o8_1.ext hxqr3o20_1
              have hEqr3o20_1 := Ext.trans hEqr3o17_2 hxqr3o20_1
              have qqr3o20_1 := bel_step qqr3o17_2 hxqr3o20_1
              obtain ⟨fpqr3o20_1, hroqr3o20_1, hsqr3o20_1⟩ := hqr3o8_1.roF
              refine o_call ha rfl rfl Tryd.call40 (ih (ha0.ext hEqr3o20_1) (ha1.ext hEqr3o20_1) hroqr3o20_1 ha4 (hG.ext hEqr3o20_1) hcqr3o20_1) ?_; clear ha a; rintro vqr3o20_1 wqr3o20_2 ⟨bqr3o20_1, hqr3o20_1, zqr3o20_1, hzqr3o20_1, hxqr3o20_2⟩ a ha
              have qqr3o20_2 := Zn.upB zqr3o20_1 qqr3o20_1
              have qqr3o20_3 := Nq.new h202.fpb zqr3o20_1
              have qqr3o20_4 := Nq.madeO zqr3o20_1 h202.blt
              have qqr3o20_5 := Nq.new hqr3o7_1.fpb zqr3o20_1
              have qqr3o20_6 := Nq.madeO zqr3o20_1 hqr3o7_1.blt
              have qqr3o20_7 := Nq.new hqr3o8_1.fpb zqr3o20_1
              have qqr3o20_8 := Nq.madeO zqr3o20_1 hqr3o8_1.blt
              replace h202 := h202.ext hxqr3o20_2
              replace hqr3o7_1 := hqr3o7_1.ext hxqr3o20_2
              replace hqr3o8_1 := hqr3o8_1.ext hxqr3o20_2
              have hEqr3o20_2 := Ext.trans hEqr3o20_1 hxqr3o20_2
              have qqr3o20_9 := Zn.upD zqr3o20_1 hEqr3o20_1
              refine wpList_nil (e_sq ?_)
              have hStqr3o20_1 : RowKit.Below W.heap.size wqr3o20_1 wqr3o20_2 := ext_bel qqr3o20_1.size hxqr3o20_2
              refine ⟨fun _ => hStqr3o20_1, ?_⟩
              have qqr3o20_10 := RowKit.Below.trans qqr3o20_1 hStqr3o20_1
              refine x_g 21 rfl (by kernel_rfl) (want0 _) ha rfl qqr3o20_10 (g_assign rfl) ?_; clear ha a; intro a ha
              refine x_done (by kernel_rfl) ?_; intro w524 hx525
              replace h202 := h202.ext hx525
              replace hqr3o7_1 := hqr3o7_1.ext hx525
              replace hqr3o8_1 := hqr3o8_1.ext hx525
              replace hqr3o20_1 := hqr3o20_1.ext hx525
              have hE526 := Ext.trans hEqr3o20_2 hx525
              replace ha := ha.sub (σ' := [(0, va0), (1, va1), (2, va2), (3, (.int .u32 (BitVec.toNat a3 : Int))), (4, (.int .i64 a4)), (11, (.int .i64 x3)), (15, vqr3o20_1), (28, v28), (29, (.int .i64 (x26.length : Int))), (30, (.int .i64 i204)), (55, va1), (56, (.int .i64 x3)), (57, (.pointer (some p490))), (58, (.int .i64 x487)), (59, (.int .i64 x376)), (60, (.bool false)), (63, (.int .u32 (BitVec.toNat a3 : Int))), (64, va1), (65, (.int .i64 x376)), (66, (.pointer (some p505))), (67, (.int .i64 x502)), (68, (.bool x514))]) ⟨rfl, rfl, rfl, rfl, rfl, rfl, rfl, rfl, rfl, rfl, rfl, rfl, rfl, rfl, rfl, rfl, rfl, rfl, rfl, rfl, rfl, rfl, trivial⟩
              refine e_then ?_; refine wp_seq ?_; refine wp_region_lit ?_; refine op_g ha rfl (g_move rfl) ?_; clear ha a; intro a ha; refine op_g ha rfl (g_nnilz sl53.und rfl hqr3o20_1 hzqr3o20_1) ?_; clear ha a; intro a ha; refine wpList_nil ?_; replace ha := ha.sub (σ' := [(0, va0), (1, va1), (2, va2), (3, (.int .u32 (BitVec.toNat a3 : Int))), (4, (.int .i64 a4)), (11, (.int .i64 x3)), (15, vqr3o20_1), (28, v28), (29, (.int .i64 (x26.length : Int))), (30, (.int .i64 i204)), (55, va1), (56, (.int .i64 x3)), (57, (.pointer (some p490))), (58, (.int .i64 x487)), (59, (.int .i64 x376)), (60, (.bool false)), (63, (.int .u32 (BitVec.toNat a3 : Int))), (64, va1), (65, (.int .i64 x376)), (66, (.pointer (some p505))), (67, (.int .i64 x502)), (68, (.bool x514)), (92, (.bool (!(List.isEmpty xqr3o20_1))))]) ⟨rfl, rfl, rfl, rfl, rfl, rfl, rfl, rfl, rfl, rfl, rfl, rfl, rfl, rfl, rfl, rfl, rfl, rfl, rfl, rfl, rfl, rfl, rfl, trivial⟩
              refine e_then ?_; refine c_cond (¬ (xqr3o20_1 = [])) ha rfl (n_iff (List.isEmpty_iff)) (fun hp527 => ?_) (fun hp527 => ?_)
              · replace hF := if_t hp527 hF
                refine wp_seq ?_; refine wp_region_lit ?_; refine op_g ha rfl (g_move rfl) ?_; clear ha a; intro a ha; refine op_g ha rfl (g_assign rfl) ?_; clear ha a; intro a ha; refine wpList_nil ?_; replace ha := ha.sub (σ' := [(10, vqr3o20_1)]) ⟨rfl, trivial⟩; refine e_then ?_; refine wp_ret ?_; refine e_blk_ret ?_; refine e_then_ret ?_; refine e_lq_ret ?_; refine e_then_ret ?_; obtain ⟨hz528, hF⟩ := grd_some hF; obtain rfl := Option.some.inj hF
                have e529 := LK_inr hN372; subst e529
                have e530 := BK_inr hK368; subst e530
                exact f_ret1 ha rfl rfl ⟨_, hqr3o20_1, qqr3o20_9, (.inr hz528), hE526⟩
              replace hF := if_f hp527 hF; refine wp_skip ?_; refine e_blk ?_; refine e_then ?_; refine wp_region_lit ?_; obtain ⟨hI531, hF⟩ := ck_some hF; refine op_g ha rfl (g_add rfl rfl hI531) ?_; clear ha a; intro a ha; refine op_g ha rfl (g_move rfl) ?_; clear ha a; intro a ha; refine wpList_nil ?_; replace ha := ha.sub (σ' := [(0, va0), (1, va1), (2, va2), (3, (.int .u32 (BitVec.toNat a3 : Int))), (4, (.int .i64 a4)), (11, (.int .i64 x3)), (28, v28), (29, (.int .i64 (x26.length : Int))), (30, (.int .i64 (i204 + 1))), (55, va1), (56, (.int .i64 x3)), (57, (.pointer (some p490))), (58, (.int .i64 x487)), (59, (.int .i64 x376)), (60, (.bool false)), (63, (.int .u32 (BitVec.toNat a3 : Int))), (64, va1), (65, (.int .i64 x376)), (66, (.pointer (some p505))), (67, (.int .i64 x502)), (68, (.bool x514))]) ⟨rfl, rfl, rfl, rfl, rfl, rfl, rfl, rfl, rfl, rfl, rfl, rfl, rfl, rfl, rfl, rfl, rfl, rfl, rfl, rfl, rfl, trivial⟩
              refine e_lq ?_; obtain rfl := Option.some.inj hF
              exact ⟨_, Nat.lt_succ_self _, i204 + 1, ha.sub ⟨rfl, rfl, rfl, rfl, rfl, rfl, rfl, rfl, rfl, trivial⟩, hE526, hI531, h202, z203, hN372⟩
            skip
            replace h202 := h202.ext hxqr3o15_1
            replace h418 := h418.ext hxqr3o15_1
            have hEqr3o16_1 := Ext.trans hEqr3o15_1 hxqr3o15_1
            have qqr3o16_1 := bel_step qqr3o15_2 hxqr3o15_1
            refine op_g ha rfl (g_load0 hEqr3o16_1 Tryd.isAgg3 rfl hatqr3o15_1.one) ?_; clear ha a; intro a ha; refine wpList_nil (e_sq ?_)
            have hStqr3o16_1 : RowKit.Below W.heap.size wqr3o15_1 wqr3o15_1 := RowKit.Below.refl _ _
            refine ⟨fun _ => hStqr3o16_1, ?_⟩
            have qqr3o16_2 := RowKit.Below.trans qqr3o16_1 hStqr3o16_1
            refine x_only 7 rfl (by kernel_rfl) ?_; intro wqr3o7_1 hxqr3o7_1
            replace h202 := h202.ext hxqr3o7_1
            replace h418 := h418.ext hxqr3o7_1
            have hEqr3o7_1 := Ext.trans hEqr3o16_1 hxqr3o7_1
            have qqr3o7_1 := bel_step qqr3o16_2 hxqr3o7_1
            refine o_lit1 (o := true) (y := xqr3o5_1) Rp.int ha rfl sl53 rfl rfl rfl ⟨rfl, hIqr3o5_1, rfl⟩ ?_; clear ha a; intro vqr3o7_1 wqr3o7_2 hqr3o7_1 hxqr3o7_2 a ha
            obtain ⟨bqr3o7_1, hbqr3o7_1⟩ : ∃ b : Int, b = wqr3o7_1.heap.size := ⟨_, rfl⟩; rw [← hbqr3o7_1] at hqr3o7_1
            have qqr3o7_2 := zn_of hbqr3o7_1
            have qqr3o7_3 := Nq.new h202.fpb qqr3o7_2
            have qqr3o7_4 := Nq.madeO qqr3o7_2 h202.blt
            have qqr3o7_5 := Nq.new h418.fpb qqr3o7_2
            have qqr3o7_6 := Nq.madeO qqr3o7_2 h418.blt
            have qqr3o7_7 := Zn.upD qqr3o7_2 hEqr3o7_1
            have qqr3o7_8 := Zn.upB qqr3o7_2 qqr3o7_1
            replace h202 := h202.ext hxqr3o7_2
            replace h418 := h418.ext hxqr3o7_2
            have hEqr3o7_2 := Ext.trans hEqr3o7_1 hxqr3o7_2
            refine wpList_nil (e_sq ?_)
            have hStqr3o7_1 : RowKit.Below W.heap.size wqr3o7_1 wqr3o7_2 := ext_bel qqr3o7_1.size hxqr3o7_2
            refine ⟨fun _ => hStqr3o7_1, ?_⟩
            have qqr3o7_9 := RowKit.Below.trans qqr3o7_1 hStqr3o7_1
            refine x_only 8 rfl (by kernel_rfl) ?_; intro wqr3o8_1 hxqr3o8_1
            replace h202 := h202.ext hxqr3o8_1
            replace h418 := h418.ext hxqr3o8_1
            replace hqr3o7_1 := hqr3o7_1.ext hxqr3o8_1
            have hEqr3o8_1 := Ext.trans hEqr3o7_2 hxqr3o8_1
            have qqr3o8_1 := bel_step qqr3o7_9 hxqr3o8_1
            refine o_append ha rfl sl53 rfl rfl rfl h418 hqr3o7_1.src (Nq.nil _) hlqr3o8_1 ?_; clear ha a; intro vqr3o8_1 wqr3o8_2 bqr3o8_1 hqr3o8_1 hcqr3o8_1 hbqr3o8_1 a ha
            replace hqr3o8_1 : Ow Rp.int 3 true wqr3o8_2 [] bqr3o8_1 vqr3o8_1 _ := hqr3o8_1
            have qqr3o8_2 := Nq.appY q422 h202.fpb hbqr3o8_1
            have qqr3o8_3 := Nq.appX q423 (Nq.nil _) hbqr3o8_1 h202.blt
            have qqr3o8_4 := Nq.appY qqr3o7_6 hqr3o7_1.fpb hbqr3o8_1
            have qqr3o8_5 := Nq.appX qqr3o7_5 (Nq.nil _) hbqr3o8_1 hqr3o7_1.blt
            have qqr3o8_6 := Zn.appD q426 hbqr3o8_1 hEqr3o8_1
            have qqr3o8_7 := Zn.appB q426 hbqr3o8_1 qqr3o8_1
            replace h202 := h202.nq hcqr3o8_1 q422
            replace hqr3o7_1 := hqr3o7_1.nq hcqr3o8_1 qqr3o7_6
            have hEqr3o8_2 := Ext.then hEqr3o8_1 hcqr3o8_1 (Zn.bl q426)
            refine wpList_nil (e_sq ?_)
            have hStqr3o8_1 : RowKit.Below W.heap.size wqr3o8_1 wqr3o8_2 := chg_bel hcqr3o8_1 qqr3o8_1.size (Zn.bl q426)
            refine ⟨fun _ => hStqr3o8_1, ?_⟩
            have qqr3o8_8 := RowKit.Below.trans qqr3o8_1 hStqr3o8_1
            refine x_only 11 rfl (by kernel_rfl) ?_; intro wqr3o11_1 hxqr3o11_1
            replace h202 := h202.ext hxqr3o11_1
            replace hqr3o7_1 := hqr3o7_1.ext hxqr3o11_1
            replace hqr3o8_1 := hqr3o8_1.ext hxqr3o11_1
            have hEqr3o11_1 := Ext.trans hEqr3o8_2 hxqr3o11_1
            have qqr3o11_1 := bel_step qqr3o8_8 hxqr3o11_1
            refine o_call ha rfl rfl Tryd.call41 (W_impl_one hI387 hcqr3o11_1) ?_; clear ha a; rintro vqr3o11_1 wqr3o11_2 ⟨rfl, hxqr3o11_2⟩ a ha
            replace h202 := h202.ext hxqr3o11_2
            replace hqr3o7_1 := hqr3o7_1.ext hxqr3o11_2
            replace hqr3o8_1 := hqr3o8_1.ext hxqr3o11_2
            have hEqr3o11_2 := Ext.trans hEqr3o11_1 hxqr3o11_2
            refine wpList_nil (e_sq ?_)
            have hStqr3o11_1 : RowKit.Below W.heap.size wqr3o11_1 wqr3o11_2 := ext_bel qqr3o11_1.size hxqr3o11_2
            refine ⟨fun _ => hStqr3o11_1, ?_⟩
            have qqr3o11_2 := RowKit.Below.trans qqr3o11_1 hStqr3o11_1
            refine x_g 12 rfl (by kernel_rfl) (want0 _) ha rfl qqr3o11_2 (g32_or (m := a3) (n := xqr3o11_1) rfl rfl) ?_; clear ha a; intro a ha
            refine x_only 17 rfl (by kernel_rfl) ?_; intro wqr3o17_1 hxqr3o17_1
            replace h202 := h202.ext hxqr3o17_1
            replace hqr3o7_1 := hqr3o7_1.ext hxqr3o17_1
            replace hqr3o8_1 := hqr3o8_1.ext hxqr3o17_1
            have hEqr3o17_1 := Ext.trans hEqr3o11_2 hxqr3o17_1
            have qqr3o17_1 := bel_step qqr3o11_2 hxqr3o17_1
            refine o_call ha rfl rfl Tryd.call41 (W_impl_one hIqr3o15_1 hcqr3o17_1) ?_; clear ha a; rintro vqr3o17_1 wqr3o17_2 ⟨rfl, hxqr3o17_2⟩ a ha
            replace h202 := h202.ext hxqr3o17_2
            replace hqr3o7_1 := hqr3o7_1.ext hxqr3o17_2
            replace hqr3o8_1 := hqr3o8_1.ext hxqr3o17_2
            have hEqr3o17_2 := Ext.trans hEqr3o17_1 hxqr3o17_2
            refine wpList_nil (e_sq ?_)
            have hStqr3o17_1 : RowKit.Below W.heap.size wqr3o17_1 wqr3o17_2 := ext_bel qqr3o17_1.size hxqr3o17_2
            refine ⟨fun _ => hStqr3o17_1, ?_⟩
            have qqr3o17_2 := RowKit.Below.trans qqr3o17_1 hStqr3o17_1
            refine x_g 18 rfl (by kernel_rfl) (want0 _) ha rfl qqr3o17_2 (g32_or (m := (a3 ||| xqr3o11_1)) (n := xqr3o17_1) rfl rfl) ?_; clear ha a; intro a ha
            refine x_only 20 rfl (by kernel_rfl) ?_; intro wqr3o20_1 hxqr3o20_1
            replace h202 := h202.ext hxqr3o20_1
            replace hqr3o7_1 := hqr3o7_1.ext hxqr3o20_1
            replace hqr3o8_1 := hqr3o8_1.ext hxqr3o20_1
            have hEqr3o20_1 := Ext.trans hEqr3o17_2 hxqr3o20_1
            have qqr3o20_1 := bel_step qqr3o17_2 hxqr3o20_1
            obtain ⟨fpqr3o20_1, hroqr3o20_1, hsqr3o20_1⟩ := hqr3o8_1.roF
            refine o_call ha rfl rfl Tryd.call40 (ih (ha0.ext hEqr3o20_1) (ha1.ext hEqr3o20_1) hroqr3o20_1 ha4 (hG.ext hEqr3o20_1) hcqr3o20_1) ?_; clear ha a; rintro vqr3o20_1 wqr3o20_2 ⟨bqr3o20_1, hqr3o20_1, zqr3o20_1, hzqr3o20_1, hxqr3o20_2⟩ a ha
            have qqr3o20_2 := Zn.upB zqr3o20_1 qqr3o20_1
            have qqr3o20_3 := Nq.new h202.fpb zqr3o20_1
            have qqr3o20_4 := Nq.madeO zqr3o20_1 h202.blt
            have qqr3o20_5 := Nq.new hqr3o7_1.fpb zqr3o20_1
            have qqr3o20_6 := Nq.madeO zqr3o20_1 hqr3o7_1.blt
            have qqr3o20_7 := Nq.new hqr3o8_1.fpb zqr3o20_1
            have qqr3o20_8 := Nq.madeO zqr3o20_1 hqr3o8_1.blt
            replace h202 := h202.ext hxqr3o20_2
            replace hqr3o7_1 := hqr3o7_1.ext hxqr3o20_2
            replace hqr3o8_1 := hqr3o8_1.ext hxqr3o20_2
            have hEqr3o20_2 := Ext.trans hEqr3o20_1 hxqr3o20_2
            have qqr3o20_9 := Zn.upD zqr3o20_1 hEqr3o20_1
            refine wpList_nil (e_sq ?_)
            have hStqr3o20_1 : RowKit.Below W.heap.size wqr3o20_1 wqr3o20_2 := ext_bel qqr3o20_1.size hxqr3o20_2
            refine ⟨fun _ => hStqr3o20_1, ?_⟩
            have qqr3o20_10 := RowKit.Below.trans qqr3o20_1 hStqr3o20_1
            refine x_g 21 rfl (by kernel_rfl) (want0 _) ha rfl qqr3o20_10 (g_assign rfl) ?_; clear ha a; intro a ha
            refine x_done (by kernel_rfl) ?_; intro w524 hx525
            replace h202 := h202.ext hx525
            replace hqr3o7_1 := hqr3o7_1.ext hx525
            replace hqr3o8_1 := hqr3o8_1.ext hx525
            replace hqr3o20_1 := hqr3o20_1.ext hx525
            have hE526 := Ext.trans hEqr3o20_2 hx525
            replace ha := ha.sub (σ' := [(0, va0), (1, va1), (2, va2), (3, (.int .u32 (BitVec.toNat a3 : Int))), (4, (.int .i64 a4)), (11, (.int .i64 x3)), (15, vqr3o20_1), (28, v28), (29, (.int .i64 (x26.length : Int))), (30, (.int .i64 i204)), (55, va1), (56, (.int .i64 x3)), (57, (.pointer (some p490))), (58, (.int .i64 x487)), (59, (.int .i64 x376)), (60, (.bool false)), (63, (.int .u32 (BitVec.toNat a3 : Int))), (64, va1), (65, (.int .i64 x376)), (66, (.pointer (some p505))), (67, (.int .i64 x502)), (68, (.bool x514))]) ⟨rfl, rfl, rfl, rfl, rfl, rfl, rfl, rfl, rfl, rfl, rfl, rfl, rfl, rfl, rfl, rfl, rfl, rfl, rfl, rfl, rfl, rfl, trivial⟩
            refine e_then ?_; refine wp_seq ?_; refine wp_region_lit ?_; refine op_g ha rfl (g_move rfl) ?_; clear ha a; intro a ha; refine op_g ha rfl (g_nnilz sl53.und rfl hqr3o20_1 hzqr3o20_1) ?_; clear ha a; intro a ha; refine wpList_nil ?_; replace ha := ha.sub (σ' := [(0, va0), (1, va1), (2, va2), (3, (.int .u32 (BitVec.toNat a3 : Int))), (4, (.int .i64 a4)), (11, (.int .i64 x3)), (15, vqr3o20_1), (28, v28), (29, (.int .i64 (x26.length : Int))), (30, (.int .i64 i204)), (55, va1), (56, (.int .i64 x3)), (57, (.pointer (some p490))), (58, (.int .i64 x487)), (59, (.int .i64 x376)), (60, (.bool false)), (63, (.int .u32 (BitVec.toNat a3 : Int))), (64, va1), (65, (.int .i64 x376)), (66, (.pointer (some p505))), (67, (.int .i64 x502)), (68, (.bool x514)), (92, (.bool (!(List.isEmpty xqr3o20_1))))]) ⟨rfl, rfl, rfl, rfl, rfl, rfl, rfl, rfl, rfl, rfl, rfl, rfl, rfl, rfl, rfl, rfl, rfl, rfl, rfl, rfl, rfl, rfl, rfl, trivial⟩
            refine e_then ?_; refine c_cond (¬ (xqr3o20_1 = [])) ha rfl (n_iff (List.isEmpty_iff)) (fun hp527 => ?_) (fun hp527 => ?_)
            · replace hF := if_t hp527 hF
              refine wp_seq ?_; refine wp_region_lit ?_; refine op_g ha rfl (g_move rfl) ?_; clear ha a; intro a ha; refine op_g ha rfl (g_assign rfl) ?_; clear ha a; intro a ha; refine wpList_nil ?_; replace ha := ha.sub (σ' := [(10, vqr3o20_1)]) ⟨rfl, trivial⟩; refine e_then ?_; refine wp_ret ?_; refine e_blk_ret ?_; refine e_then_ret ?_; refine e_lq_ret ?_; refine e_then_ret ?_; obtain ⟨hz528, hF⟩ := grd_some hF; obtain rfl := Option.some.inj hF
              have e529 := LK_inr hN372; subst e529
              have e530 := BK_inr hK368; subst e530
              exact f_ret1 ha rfl rfl ⟨_, hqr3o20_1, qqr3o20_9, (.inr hz528), hE526⟩
            replace hF := if_f hp527 hF; refine wp_skip ?_; refine e_blk ?_; refine e_then ?_; refine wp_region_lit ?_; obtain ⟨hI531, hF⟩ := ck_some hF; refine op_g ha rfl (g_add rfl rfl hI531) ?_; clear ha a; intro a ha; refine op_g ha rfl (g_move rfl) ?_; clear ha a; intro a ha; refine wpList_nil ?_; replace ha := ha.sub (σ' := [(0, va0), (1, va1), (2, va2), (3, (.int .u32 (BitVec.toNat a3 : Int))), (4, (.int .i64 a4)), (11, (.int .i64 x3)), (28, v28), (29, (.int .i64 (x26.length : Int))), (30, (.int .i64 (i204 + 1))), (55, va1), (56, (.int .i64 x3)), (57, (.pointer (some p490))), (58, (.int .i64 x487)), (59, (.int .i64 x376)), (60, (.bool false)), (63, (.int .u32 (BitVec.toNat a3 : Int))), (64, va1), (65, (.int .i64 x376)), (66, (.pointer (some p505))), (67, (.int .i64 x502)), (68, (.bool x514))]) ⟨rfl, rfl, rfl, rfl, rfl, rfl, rfl, rfl, rfl, rfl, rfl, rfl, rfl, rfl, rfl, rfl, rfl, rfl, rfl, rfl, rfl, trivial⟩
            refine e_lq ?_; obtain rfl := Option.some.inj hF
            exact ⟨_, Nat.lt_succ_self _, i204 + 1, ha.sub ⟨rfl, rfl, rfl, rfl, rfl, rfl, rfl, rfl, rfl, trivial⟩, hE526, hI531, h202, z203, hN372⟩
          skip
          replace h202 := h202.ext hxqr3o5_1
          replace h418 := h418.ext hxqr3o5_1
          have hEqr3o15_1 := Ext.trans hEqr3o5_1 hxqr3o5_1
          have qqr3o15_1 := bel_step qqr3o5_2 hxqr3o5_1
          obtain ⟨pqr3o15_1, csqr3o15_1, fqr3o15_1, hfqr3o15_1, hpbqr3o15_1, hatqr3o15_1, hrqr3o15_1, hiqr3o15_1⟩ := ha1.at gqr3o15_1 gxqr3o15_1
          obtain ⟨rfl, hIqr3o15_1, rfl⟩ := hrqr3o15_1
          refine op_g ha rfl (hiqr3o15_1.gives sl53 rfl rfl) ?_; clear ha a; intro a ha; refine wpList_nil (e_sq ?_)
          have hStqr3o15_1 : RowKit.Below W.heap.size wqr3o5_1 wqr3o5_1 := RowKit.Below.refl _ _
          refine ⟨fun _ => hStqr3o15_1, ?_⟩
          have qqr3o15_2 := RowKit.Below.trans qqr3o15_1 hStqr3o15_1
          refine x_many [6, 16] (by kernel_rfl) rfl fun wqr3o15_1 hxqr3o15_1 => ⟨⟨_, rfl, ?_⟩, ⟨_, rfl, ?_⟩, trivial⟩
          · skip
            replace h202 := h202.ext hxqr3o15_1
            replace h418 := h418.ext hxqr3o15_1
            have hEqr3o6_1 := Ext.trans hEqr3o15_1 hxqr3o15_1
            have qqr3o6_1 := bel_step qqr3o15_2 hxqr3o15_1
            refine op_g ha rfl (g_load0 hEqr3o6_1 Tryd.isAgg3 rfl hatqr3o5_1.one) ?_; clear ha a; intro a ha; refine wpList_nil (e_sq ?_)
            have hStqr3o6_1 : RowKit.Below W.heap.size wqr3o15_1 wqr3o15_1 := RowKit.Below.refl _ _
            refine ⟨fun _ => hStqr3o6_1, ?_⟩
            have qqr3o6_2 := RowKit.Below.trans qqr3o6_1 hStqr3o6_1
            refine x_many [7, 16] (by kernel_rfl) rfl fun wqr3o6_1 hxqr3o6_1 => ⟨⟨_, rfl, ?_⟩, ⟨_, rfl, ?_⟩, trivial⟩
            · skip
              replace h202 := h202.ext hxqr3o6_1
              replace h418 := h418.ext hxqr3o6_1
              have hEqr3o7_1 := Ext.trans hEqr3o6_1 hxqr3o6_1
              have qqr3o7_1 := bel_step qqr3o6_2 hxqr3o6_1
              refine o_lit1 (o := true) (y := xqr3o5_1) Rp.int ha rfl sl53 rfl rfl rfl ⟨rfl, hIqr3o5_1, rfl⟩ ?_; clear ha a; intro vqr3o7_1 wqr3o7_1 hqr3o7_1 hxqr3o7_1 a ha
              obtain ⟨bqr3o7_1, hbqr3o7_1⟩ : ∃ b : Int, b = wqr3o6_1.heap.size := ⟨_, rfl⟩; rw [← hbqr3o7_1] at hqr3o7_1
              have qqr3o7_2 := zn_of hbqr3o7_1
              have qqr3o7_3 := Nq.new h202.fpb qqr3o7_2
              have qqr3o7_4 := Nq.madeO qqr3o7_2 h202.blt
              have qqr3o7_5 := Nq.new h418.fpb qqr3o7_2
              have qqr3o7_6 := Nq.madeO qqr3o7_2 h418.blt
              have qqr3o7_7 := Zn.upD qqr3o7_2 hEqr3o7_1
              have qqr3o7_8 := Zn.upB qqr3o7_2 qqr3o7_1
              replace h202 := h202.ext hxqr3o7_1
              replace h418 := h418.ext hxqr3o7_1
              have hEqr3o7_2 := Ext.trans hEqr3o7_1 hxqr3o7_1
              refine wpList_nil (e_sq ?_)
              have hStqr3o7_1 : RowKit.Below W.heap.size wqr3o6_1 wqr3o7_1 := ext_bel qqr3o7_1.size hxqr3o7_1
              refine ⟨fun _ => hStqr3o7_1, ?_⟩
              have qqr3o7_9 := RowKit.Below.trans qqr3o7_1 hStqr3o7_1
              refine x_many [8, 16] (by kernel_rfl) rfl fun wqr3o7_2 hxqr3o7_2 => ⟨⟨_, rfl, ?_⟩, ⟨_, rfl, ?_⟩, trivial⟩
              · skip
                replace h202 := h202.ext hxqr3o7_2
                replace h418 := h418.ext hxqr3o7_2
                replace hqr3o7_1 := hqr3o7_1.ext hxqr3o7_2
                have hEqr3o8_1 := Ext.trans hEqr3o7_2 hxqr3o7_2
                have qqr3o8_1 := bel_step qqr3o7_9 hxqr3o7_2
                refine o_append ha rfl sl53 rfl rfl rfl h418 hqr3o7_1.src (Nq.nil _) hlqr3o8_1 ?_; clear ha a; intro vqr3o8_1 wqr3o8_1 bqr3o8_1 hqr3o8_1 hcqr3o8_1 hbqr3o8_1 a ha
                replace hqr3o8_1 : Ow Rp.int 3 true wqr3o8_1 [] bqr3o8_1 vqr3o8_1 _ := hqr3o8_1
                have qqr3o8_2 := Nq.appY q422 h202.fpb hbqr3o8_1
                have qqr3o8_3 := Nq.appX q423 (Nq.nil _) hbqr3o8_1 h202.blt
                have qqr3o8_4 := Nq.appY qqr3o7_6 hqr3o7_1.fpb hbqr3o8_1
                have qqr3o8_5 := Nq.appX qqr3o7_5 (Nq.nil _) hbqr3o8_1 hqr3o7_1.blt
                have qqr3o8_6 := Zn.appD q426 hbqr3o8_1 hEqr3o8_1
                have qqr3o8_7 := Zn.appB q426 hbqr3o8_1 qqr3o8_1
                replace h202 := h202.nq hcqr3o8_1 q422
                replace hqr3o7_1 := hqr3o7_1.nq hcqr3o8_1 qqr3o7_6
                have hEqr3o8_2 := Ext.then hEqr3o8_1 hcqr3o8_1 (Zn.bl q426)
                refine wpList_nil (e_sq ?_)
                have hStqr3o8_1 : RowKit.Below W.heap.size wqr3o7_2 wqr3o8_1 := chg_bel hcqr3o8_1 qqr3o8_1.size (Zn.bl q426)
                refine ⟨fun _ => hStqr3o8_1, ?_⟩
                have qqr3o8_8 := RowKit.Below.trans qqr3o8_1 hStqr3o8_1
                refine x_many [11, 16] (by kernel_rfl) rfl fun wqr3o8_2 hxqr3o8_1 => ⟨⟨_, rfl, ?_⟩, ⟨_, rfl, ?_⟩, trivial⟩
                · skip
                  replace h202 := h202.ext hxqr3o8_1
                  replace hqr3o7_1 := hqr3o7_1.ext hxqr3o8_1
                  replace hqr3o8_1 := hqr3o8_1.ext hxqr3o8_1
                  have hEqr3o11_1 := Ext.trans hEqr3o8_2 hxqr3o8_1
                  have qqr3o11_1 := bel_step qqr3o8_8 hxqr3o8_1
                  refine o_call ha rfl rfl Tryd.call41 (W_impl_one hI387 hcqr3o11_1) ?_; clear ha a; rintro vqr3o11_1 wqr3o11_1 ⟨rfl, hxqr3o11_1⟩ a ha
                  replace h202 := h202.ext hxqr3o11_1
                  replace hqr3o7_1 := hqr3o7_1.ext hxqr3o11_1
                  replace hqr3o8_1 := hqr3o8_1.ext hxqr3o11_1
                  have hEqr3o11_2 := Ext.trans hEqr3o11_1 hxqr3o11_1
                  refine wpList_nil (e_sq ?_)
                  have hStqr3o11_1 : RowKit.Below W.heap.size wqr3o8_2 wqr3o11_1 := ext_bel qqr3o11_1.size hxqr3o11_1
                  refine ⟨fun _ => hStqr3o11_1, ?_⟩
                  have qqr3o11_2 := RowKit.Below.trans qqr3o11_1 hStqr3o11_1
                  refine x_g 12 rfl (by kernel_rfl) (want0 _) ha rfl qqr3o11_2 (g32_or (m := a3) (n := xqr3o11_1) rfl rfl) ?_; clear ha a; intro a ha
                  refine x_only 16 rfl (by kernel_rfl) ?_; intro wqr3o16_1 hxqr3o16_1
                  replace h202 := h202.ext hxqr3o16_1
                  replace hqr3o7_1 := hqr3o7_1.ext hxqr3o16_1
                  replace hqr3o8_1 := hqr3o8_1.ext hxqr3o16_1
                  have hEqr3o16_1 := Ext.trans hEqr3o11_2 hxqr3o16_1
                  have qqr3o16_1 := bel_step qqr3o11_2 hxqr3o16_1
                  refine op_g ha rfl (g_load0 hEqr3o16_1 Tryd.isAgg3 rfl hatqr3o15_1.one) ?_; clear ha a; intro a ha; refine wpList_nil (e_sq ?_)
                  have hStqr3o16_1 : RowKit.Below W.heap.size wqr3o16_1 wqr3o16_1 := RowKit.Below.refl _ _
                  refine ⟨fun _ => hStqr3o16_1, ?_⟩
                  have qqr3o16_2 := RowKit.Below.trans qqr3o16_1 hStqr3o16_1
                  refine x_only 17 rfl (by kernel_rfl) ?_; intro wqr3o17_1 hxqr3o17_1
                  replace h202 := h202.ext hxqr3o17_1
                  replace hqr3o7_1 := hqr3o7_1.ext hxqr3o17_1
                  replace hqr3o8_1 := hqr3o8_1.ext hxqr3o17_1
                  have hEqr3o17_1 := Ext.trans hEqr3o16_1 hxqr3o17_1
                  have qqr3o17_1 := bel_step qqr3o16_2 hxqr3o17_1
                  refine o_call ha rfl rfl Tryd.call41 (W_impl_one hIqr3o15_1 hcqr3o17_1) ?_; clear ha a; rintro vqr3o17_1 wqr3o17_2 ⟨rfl, hxqr3o17_2⟩ a ha
                  replace h202 := h202.ext hxqr3o17_2
                  replace hqr3o7_1 := hqr3o7_1.ext hxqr3o17_2
                  replace hqr3o8_1 := hqr3o8_1.ext hxqr3o17_2
                  have hEqr3o17_2 := Ext.trans hEqr3o17_1 hxqr3o17_2
                  refine wpList_nil (e_sq ?_)
                  have hStqr3o17_1 : RowKit.Below W.heap.size wqr3o17_1 wqr3o17_2 := ext_bel qqr3o17_1.size hxqr3o17_2
                  refine ⟨fun _ => hStqr3o17_1, ?_⟩
                  have qqr3o17_2 := RowKit.Below.trans qqr3o17_1 hStqr3o17_1
                  refine x_g 18 rfl (by kernel_rfl) (want0 _) ha rfl qqr3o17_2 (g32_or (m := (a3 ||| xqr3o11_1)) (n := xqr3o17_1) rfl rfl) ?_; clear ha a; intro a ha
                  refine x_only 20 rfl (by kernel_rfl) ?_; intro wqr3o20_1 hxqr3o20_1
                  replace h202 := h202.ext hxqr3o20_1
                  replace hqr3o7_1 := hqr3o7_1.ext hxqr3o20_1
                  replace hqr3o8_1 := hqr3o8_1.ext hxqr3o20_1
                  have hEqr3o20_1 := Ext.trans hEqr3o17_2 hxqr3o20_1
                  have qqr3o20_1 := bel_step qqr3o17_2 hxqr3o20_1
                  obtain ⟨fpqr3o20_1, hroqr3o20_1, hsqr3o20_1⟩ := hqr3o8_1.roF
                  refine o_call ha rfl rfl Tryd.call40 (ih (ha0.ext hEqr3o20_1) (ha1.ext hEqr3o20_1) hroqr3o20_1 ha4 (hG.ext hEqr3o20_1) hcqr3o20_1) ?_; clear ha a; rintro vqr3o20_1 wqr3o20_2 ⟨bqr3o20_1, hqr3o20_1, zqr3o20_1, hzqr3o20_1, hxqr3o20_2⟩ a ha
                  have qqr3o20_2 := Zn.upB zqr3o20_1 qqr3o20_1
                  have qqr3o20_3 := Nq.new h202.fpb zqr3o20_1
                  have qqr3o20_4 := Nq.madeO zqr3o20_1 h202.blt
                  have qqr3o20_5 := Nq.new hqr3o7_1.fpb zqr3o20_1
                  have qqr3o20_6 := Nq.madeO zqr3o20_1 hqr3o7_1.blt
                  have qqr3o20_7 := Nq.new hqr3o8_1.fpb zqr3o20_1
                  have qqr3o20_8 := Nq.madeO zqr3o20_1 hqr3o8_1.blt
                  replace h202 := h202.ext hxqr3o20_2
                  replace hqr3o7_1 := hqr3o7_1.ext hxqr3o20_2
                  replace hqr3o8_1 := hqr3o8_1.ext hxqr3o20_2
                  have hEqr3o20_2 := Ext.trans hEqr3o20_1 hxqr3o20_2
                  have qqr3o20_9 := Zn.upD zqr3o20_1 hEqr3o20_1
                  refine wpList_nil (e_sq ?_)
                  have hStqr3o20_1 : RowKit.Below W.heap.size wqr3o20_1 wqr3o20_2 := ext_bel qqr3o20_1.size hxqr3o20_2
                  refine ⟨fun _ => hStqr3o20_1, ?_⟩
                  have qqr3o20_10 := RowKit.Below.trans qqr3o20_1 hStqr3o20_1
                  refine x_g 21 rfl (by kernel_rfl) (want0 _) ha rfl qqr3o20_10 (g_assign rfl) ?_; clear ha a; intro a ha
                  refine x_done (by kernel_rfl) ?_; intro w524 hx525
                  replace h202 := h202.ext hx525
                  replace hqr3o7_1 := hqr3o7_1.ext hx525
                  replace hqr3o8_1 := hqr3o8_1.ext hx525
                  replace hqr3o20_1 := hqr3o20_1.ext hx525
                  have hE526 := Ext.trans hEqr3o20_2 hx525
                  replace ha := ha.sub (σ' := [(0, va0), (1, va1), (2, va2), (3, (.int .u32 (BitVec.toNat a3 : Int))), (4, (.int .i64 a4)), (11, (.int .i64 x3)), (15, vqr3o20_1), (28, v28), (29, (.int .i64 (x26.length : Int))), (30, (.int .i64 i204)), (55, va1), (56, (.int .i64 x3)), (57, (.pointer (some p490))), (58, (.int .i64 x487)), (59, (.int .i64 x376)), (60, (.bool false)), (63, (.int .u32 (BitVec.toNat a3 : Int))), (64, va1), (65, (.int .i64 x376)), (66, (.pointer (some p505))), (67, (.int .i64 x502)), (68, (.bool x514))]) ⟨rfl, rfl, rfl, rfl, rfl, rfl, rfl, rfl, rfl, rfl, rfl, rfl, rfl, rfl, rfl, rfl, rfl, rfl, rfl, rfl, rfl, rfl, trivial⟩
                  refine e_then ?_; refine wp_seq ?_; refine wp_region_lit ?_; refine op_g ha rfl (g_move rfl) ?_; clear ha a; intro a ha; refine op_g ha rfl (g_nnilz sl53.und rfl hqr3o20_1 hzqr3o20_1) ?_; clear ha a; intro a ha; refine wpList_nil ?_; replace ha := ha.sub (σ' := [(0, va0), (1, va1), (2, va2), (3, (.int .u32 (BitVec.toNat a3 : Int))), (4, (.int .i64 a4)), (11, (.int .i64 x3)), (15, vqr3o20_1), (28, v28), (29, (.int .i64 (x26.length : Int))), (30, (.int .i64 i204)), (55, va1), (56, (.int .i64 x3)), (57, (.pointer (some p490))), (58, (.int .i64 x487)), (59, (.int .i64 x376)), (60, (.bool false)), (63, (.int .u32 (BitVec.toNat a3 : Int))), (64, va1), (65, (.int .i64 x376)), (66, (.pointer (some p505))), (67, (.int .i64 x502)), (68, (.bool x514)), (92, (.bool (!(List.isEmpty xqr3o20_1))))]) ⟨rfl, rfl, rfl, rfl, rfl, rfl, rfl, rfl, rfl, rfl, rfl, rfl, rfl, rfl, rfl, rfl, rfl, rfl, rfl, rfl, rfl, rfl, rfl, trivial⟩
                  refine e_then ?_; refine c_cond (¬ (xqr3o20_1 = [])) ha rfl (n_iff (List.isEmpty_iff)) (fun hp527 => ?_) (fun hp527 => ?_)
                  · replace hF := if_t hp527 hF
                    refine wp_seq ?_; refine wp_region_lit ?_; refine op_g ha rfl (g_move rfl) ?_; clear ha a; intro a ha; refine op_g ha rfl (g_assign rfl) ?_; clear ha a; intro a ha; refine wpList_nil ?_; replace ha := ha.sub (σ' := [(10, vqr3o20_1)]) ⟨rfl, trivial⟩; refine e_then ?_; refine wp_ret ?_; refine e_blk_ret ?_; refine e_then_ret ?_; refine e_lq_ret ?_; refine e_then_ret ?_; obtain ⟨hz528, hF⟩ := grd_some hF; obtain rfl := Option.some.inj hF
                    have e529 := LK_inr hN372; subst e529
                    have e530 := BK_inr hK368; subst e530
                    exact f_ret1 ha rfl rfl ⟨_, hqr3o20_1, qqr3o20_9, (.inr hz528), hE526⟩
                  replace hF := if_f hp527 hF; refine wp_skip ?_; refine e_blk ?_; refine e_then ?_; refine wp_region_lit ?_; obtain ⟨hI531, hF⟩ := ck_some hF; refine op_g ha rfl (g_add rfl rfl hI531) ?_; clear ha a; intro a ha; refine op_g ha rfl (g_move rfl) ?_; clear ha a; intro a ha; refine wpList_nil ?_; replace ha := ha.sub (σ' := [(0, va0), (1, va1), (2, va2), (3, (.int .u32 (BitVec.toNat a3 : Int))), (4, (.int .i64 a4)), (11, (.int .i64 x3)), (28, v28), (29, (.int .i64 (x26.length : Int))), (30, (.int .i64 (i204 + 1))), (55, va1), (56, (.int .i64 x3)), (57, (.pointer (some p490))), (58, (.int .i64 x487)), (59, (.int .i64 x376)), (60, (.bool false)), (63, (.int .u32 (BitVec.toNat a3 : Int))), (64, va1), (65, (.int .i64 x376)), (66, (.pointer (some p505))), (67, (.int .i64 x502)), (68, (.bool x514))]) ⟨rfl, rfl, rfl, rfl, rfl, rfl, rfl, rfl, rfl, rfl, rfl, rfl, rfl, rfl, rfl, rfl, rfl, rfl, rfl, rfl, rfl, trivial⟩
                  refine e_lq ?_; obtain rfl := Option.some.inj hF
                  exact ⟨_, Nat.lt_succ_self _, i204 + 1, ha.sub ⟨rfl, rfl, rfl, rfl, rfl, rfl, rfl, rfl, rfl, trivial⟩, hE526, hI531, h202, z203, hN372⟩
                skip
                replace h202 := h202.ext hxqr3o8_1
                replace hqr3o7_1 := hqr3o7_1.ext hxqr3o8_1
                replace hqr3o8_1 := hqr3o8_1.ext hxqr3o8_1
                have hEqr3o16_1 := Ext.trans hEqr3o8_2 hxqr3o8_1
                have qqr3o16_1 := bel_step qqr3o8_8 hxqr3o8_1
                refine op_g ha rfl (g_load0 hEqr3o16_1 Tryd.isAgg3 rfl hatqr3o15_1.one) ?_; clear ha a; intro a ha; refine wpList_nil (e_sq ?_)
                have hStqr3o16_1 : RowKit.Below W.heap.size wqr3o8_2 wqr3o8_2 := RowKit.Below.refl _ _
                refine ⟨fun _ => hStqr3o16_1, ?_⟩
                have qqr3o16_2 := RowKit.Below.trans qqr3o16_1 hStqr3o16_1
                refine x_only 11 rfl (by kernel_rfl) ?_; intro wqr3o11_1 hxqr3o11_1
                replace h202 := h202.ext hxqr3o11_1
                replace hqr3o7_1 := hqr3o7_1.ext hxqr3o11_1
                replace hqr3o8_1 := hqr3o8_1.ext hxqr3o11_1
                have hEqr3o11_1 := Ext.trans hEqr3o16_1 hxqr3o11_1
                have qqr3o11_1 := bel_step qqr3o16_2 hxqr3o11_1
                refine o_call ha rfl rfl Tryd.call41 (W_impl_one hI387 hcqr3o11_1) ?_; clear ha a; rintro vqr3o11_1 wqr3o11_2 ⟨rfl, hxqr3o11_2⟩ a ha
                replace h202 := h202.ext hxqr3o11_2
                replace hqr3o7_1 := hqr3o7_1.ext hxqr3o11_2
                replace hqr3o8_1 := hqr3o8_1.ext hxqr3o11_2
                have hEqr3o11_2 := Ext.trans hEqr3o11_1 hxqr3o11_2
                refine wpList_nil (e_sq ?_)
                have hStqr3o11_1 : RowKit.Below W.heap.size wqr3o11_1 wqr3o11_2 := ext_bel qqr3o11_1.size hxqr3o11_2
                refine ⟨fun _ => hStqr3o11_1, ?_⟩
                have qqr3o11_2 := RowKit.Below.trans qqr3o11_1 hStqr3o11_1
                refine x_g 12 rfl (by kernel_rfl) (want0 _) ha rfl qqr3o11_2 (g32_or (m := a3) (n := xqr3o11_1) rfl rfl) ?_; clear ha a; intro a ha
                refine x_only 17 rfl (by kernel_rfl) ?_; intro wqr3o17_1 hxqr3o17_1
                replace h202 := h202.ext hxqr3o17_1
                replace hqr3o7_1 := hqr3o7_1.ext hxqr3o17_1
                replace hqr3o8_1 := hqr3o8_1.ext hxqr3o17_1
                have hEqr3o17_1 := Ext.trans hEqr3o11_2 hxqr3o17_1
                have qqr3o17_1 := bel_step qqr3o11_2 hxqr3o17_1
                refine o_call ha rfl rfl Tryd.call41 (W_impl_one hIqr3o15_1 hcqr3o17_1) ?_; clear ha a; rintro vqr3o17_1 wqr3o17_2 ⟨rfl, hxqr3o17_2⟩ a ha
                replace h202 := h202.ext hxqr3o17_2
                replace hqr3o7_1 := hqr3o7_1.ext hxqr3o17_2
                replace hqr3o8_1 := hqr3o8_1.ext hxqr3o17_2
                have hEqr3o17_2 := Ext.trans hEqr3o17_1 hxqr3o17_2
                refine wpList_nil (e_sq ?_)
                have hStqr3o17_1 : RowKit.Below W.heap.size wqr3o17_1 wqr3o17_2 := ext_bel qqr3o17_1.size hxqr3o17_2
                refine ⟨fun _ => hStqr3o17_1, ?_⟩
                have qqr3o17_2 := RowKit.Below.trans qqr3o17_1 hStqr3o17_1
                refine x_g 18 rfl (by kernel_rfl) (want0 _) ha rfl qqr3o17_2 (g32_or (m := (a3 ||| xqr3o11_1)) (n := xqr3o17_1) rfl rfl) ?_; clear ha a; intro a ha
                refine x_only 20 rfl (by kernel_rfl) ?_; intro wqr3o20_1 hxqr3o20_1
                replace h202 := h202.ext hxqr3o20_1
                replace hqr3o7_1 := hqr3o7_1.ext hxqr3o20_1
                replace hqr3o8_1 := hqr3o8_1.ext hxqr3o20_1
                have hEqr3o20_1 := Ext.trans hEqr3o17_2 hxqr3o20_1
                have qqr3o20_1 := bel_step qqr3o17_2 hxqr3o20_1
                obtain ⟨fpqr3o20_1, hroqr3o20_1, hsqr3o20_1⟩ := hqr3o8_1.roF
                refine o_call ha rfl rfl Tryd.call40 (ih (ha0.ext hEqr3o20_1) (ha1.ext hEqr3o20_1) hroqr3o20_1 ha4 (hG.ext hEqr3o20_1) hcqr3o20_1) ?_; clear ha a; rintro vqr3o20_1 wqr3o20_2 ⟨bqr3o20_1, hqr3o20_1, zqr3o20_1, hzqr3o20_1, hxqr3o20_2⟩ a ha
                have qqr3o20_2 := Zn.upB zqr3o20_1 qqr3o20_1
                have qqr3o20_3 := Nq.new h202.fpb zqr3o20_1
                have qqr3o20_4 := Nq.madeO zqr3o20_1 h202.blt
                have qqr3o20_5 := Nq.new hqr3o7_1.fpb zqr3o20_1
                have qqr3o20_6 := Nq.madeO zqr3o20_1 hqr3o7_1.blt
                have qqr3o20_7 := Nq.new hqr3o8_1.fpb zqr3o20_1
                have qqr3o20_8 := Nq.madeO zqr3o20_1 hqr3o8_1.blt
                replace h202 := h202.ext hxqr3o20_2
                replace hqr3o7_1 := hqr3o7_1.ext hxqr3o20_2
                replace hqr3o8_1 := hqr3o8_1.ext hxqr3o20_2
                have hEqr3o20_2 := Ext.trans hEqr3o20_1 hxqr3o20_2
                have qqr3o20_9 := Zn.upD zqr3o20_1 hEqr3o20_1
                refine wpList_nil (e_sq ?_)
                have hStqr3o20_1 : RowKit.Below W.heap.size wqr3o20_1 wqr3o20_2 := ext_bel qqr3o20_1.size hxqr3o20_2
                refine ⟨fun _ => hStqr3o20_1, ?_⟩
                have qqr3o20_10 := RowKit.Below.trans qqr3o20_1 hStqr3o20_1
                refine x_g 21 rfl (by kernel_rfl) (want0 _) ha rfl qqr3o20_10 (g_assign rfl) ?_; clear ha a; intro a ha
                refine x_done (by kernel_rfl) ?_; intro w524 hx525
                replace h202 := h202.ext hx525
                replace hqr3o7_1 := hqr3o7_1.ext hx525
                replace hqr3o8_1 := hqr3o8_1.ext hx525
                replace hqr3o20_1 := hqr3o20_1.ext hx525
                have hE526 := Ext.trans hEqr3o20_2 hx525
                replace ha := ha.sub (σ' := [(0, va0), (1, va1), (2, va2), (3, (.int .u32 (BitVec.toNat a3 : Int))), (4, (.int .i64 a4)), (11, (.int .i64 x3)), (15, vqr3o20_1), (28, v28), (29, (.int .i64 (x26.length : Int))), (30, (.int .i64 i204)), (55, va1), (56, (.int .i64 x3)), (57, (.pointer (some p490))), (58, (.int .i64 x487)), (59, (.int .i64 x376)), (60, (.bool false)), (63, (.int .u32 (BitVec.toNat a3 : Int))), (64, va1), (65, (.int .i64 x376)), (66, (.pointer (some p505))), (67, (.int .i64 x502)), (68, (.bool x514))]) ⟨rfl, rfl, rfl, rfl, rfl, rfl, rfl, rfl, rfl, rfl, rfl, rfl, rfl, rfl, rfl, rfl, rfl, rfl, rfl, rfl, rfl, rfl, trivial⟩
                refine e_then ?_; refine wp_seq ?_; refine wp_region_lit ?_; refine op_g ha rfl (g_move rfl) ?_; clear ha a; intro a ha; refine op_g ha rfl (g_nnilz sl53.und rfl hqr3o20_1 hzqr3o20_1) ?_; clear ha a; intro a ha; refine wpList_nil ?_; replace ha := ha.sub (σ' := [(0, va0), (1, va1), (2, va2), (3, (.int .u32 (BitVec.toNat a3 : Int))), (4, (.int .i64 a4)), (11, (.int .i64 x3)), (15, vqr3o20_1), (28, v28), (29, (.int .i64 (x26.length : Int))), (30, (.int .i64 i204)), (55, va1), (56, (.int .i64 x3)), (57, (.pointer (some p490))), (58, (.int .i64 x487)), (59, (.int .i64 x376)), (60, (.bool false)), (63, (.int .u32 (BitVec.toNat a3 : Int))), (64, va1), (65, (.int .i64 x376)), (66, (.pointer (some p505))), (67, (.int .i64 x502)), (68, (.bool x514)), (92, (.bool (!(List.isEmpty xqr3o20_1))))]) ⟨rfl, rfl, rfl, rfl, rfl, rfl, rfl, rfl, rfl, rfl, rfl, rfl, rfl, rfl, rfl, rfl, rfl, rfl, rfl, rfl, rfl, rfl, rfl, trivial⟩
                refine e_then ?_; refine c_cond (¬ (xqr3o20_1 = [])) ha rfl (n_iff (List.isEmpty_iff)) (fun hp527 => ?_) (fun hp527 => ?_)
                · replace hF := if_t hp527 hF
                  refine wp_seq ?_; refine wp_region_lit ?_; refine op_g ha rfl (g_move rfl) ?_; clear ha a; intro a ha; refine op_g ha rfl (g_assign rfl) ?_; clear ha a; intro a ha; refine wpList_nil ?_; replace ha := ha.sub (σ' := [(10, vqr3o20_1)]) ⟨rfl, trivial⟩; refine e_then ?_; refine wp_ret ?_; refine e_blk_ret ?_; refine e_then_ret ?_; refine e_lq_ret ?_; refine e_then_ret ?_; obtain ⟨hz528, hF⟩ := grd_some hF; obtain rfl := Option.some.inj hF
                  have e529 := LK_inr hN372; subst e529
                  have e530 := BK_inr hK368; subst e530
                  exact f_ret1 ha rfl rfl ⟨_, hqr3o20_1, qqr3o20_9, (.inr hz528), hE526⟩
                replace hF := if_f hp527 hF; refine wp_skip ?_; refine e_blk ?_; refine e_then ?_; refine wp_region_lit ?_; obtain ⟨hI531, hF⟩ := ck_some hF; refine op_g ha rfl (g_add rfl rfl hI531) ?_; clear ha a; intro a ha; refine op_g ha rfl (g_move rfl) ?_; clear ha a; intro a ha; refine wpList_nil ?_; replace ha := ha.sub (σ' := [(0, va0), (1, va1), (2, va2), (3, (.int .u32 (BitVec.toNat a3 : Int))), (4, (.int .i64 a4)), (11, (.int .i64 x3)), (28, v28), (29, (.int .i64 (x26.length : Int))), (30, (.int .i64 (i204 + 1))), (55, va1), (56, (.int .i64 x3)), (57, (.pointer (some p490))), (58, (.int .i64 x487)), (59, (.int .i64 x376)), (60, (.bool false)), (63, (.int .u32 (BitVec.toNat a3 : Int))), (64, va1), (65, (.int .i64 x376)), (66, (.pointer (some p505))), (67, (.int .i64 x502)), (68, (.bool x514))]) ⟨rfl, rfl, rfl, rfl, rfl, rfl, rfl, rfl, rfl, rfl, rfl, rfl, rfl, rfl, rfl, rfl, rfl, rfl, rfl, rfl, rfl, trivial⟩
                refine e_lq ?_; obtain rfl := Option.some.inj hF
                exact ⟨_, Nat.lt_succ_self _, i204 + 1, ha.sub ⟨rfl, rfl, rfl, rfl, rfl, rfl, rfl, rfl, rfl, trivial⟩, hE526, hI531, h202, z203, hN372⟩
              skip
              replace h202 := h202.ext hxqr3o7_2
              replace h418 := h418.ext hxqr3o7_2
              replace hqr3o7_1 := hqr3o7_1.ext hxqr3o7_2
              have hEqr3o16_1 := Ext.trans hEqr3o7_2 hxqr3o7_2
              have qqr3o16_1 := bel_step qqr3o7_9 hxqr3o7_2
              refine op_g ha rfl (g_load0 hEqr3o16_1 Tryd.isAgg3 rfl hatqr3o15_1.one) ?_; clear ha a; intro a ha; refine wpList_nil (e_sq ?_)
              have hStqr3o16_1 : RowKit.Below W.heap.size wqr3o7_2 wqr3o7_2 := RowKit.Below.refl _ _
              refine ⟨fun _ => hStqr3o16_1, ?_⟩
              have qqr3o16_2 := RowKit.Below.trans qqr3o16_1 hStqr3o16_1
              refine x_only 8 rfl (by kernel_rfl) ?_; intro wqr3o8_1 hxqr3o8_1
              replace h202 := h202.ext hxqr3o8_1
              replace h418 := h418.ext hxqr3o8_1
              replace hqr3o7_1 := hqr3o7_1.ext hxqr3o8_1
              have hEqr3o8_1 := Ext.trans hEqr3o16_1 hxqr3o8_1
              have qqr3o8_1 := bel_step qqr3o16_2 hxqr3o8_1
              refine o_append ha rfl sl53 rfl rfl rfl h418 hqr3o7_1.src (Nq.nil _) hlqr3o8_1 ?_; clear ha a; intro vqr3o8_1 wqr3o8_2 bqr3o8_1 hqr3o8_1 hcqr3o8_1 hbqr3o8_1 a ha
              replace hqr3o8_1 : Ow Rp.int 3 true wqr3o8_2 [] bqr3o8_1 vqr3o8_1 _ := hqr3o8_1
              have qqr3o8_2 := Nq.appY q422 h202.fpb hbqr3o8_1
              have qqr3o8_3 := Nq.appX q423 (Nq.nil _) hbqr3o8_1 h202.blt
              have qqr3o8_4 := Nq.appY qqr3o7_6 hqr3o7_1.fpb hbqr3o8_1
              have qqr3o8_5 := Nq.appX qqr3o7_5 (Nq.nil _) hbqr3o8_1 hqr3o7_1.blt
              have qqr3o8_6 := Zn.appD q426 hbqr3o8_1 hEqr3o8_1
              have qqr3o8_7 := Zn.appB q426 hbqr3o8_1 qqr3o8_1
              replace h202 := h202.nq hcqr3o8_1 q422
              replace hqr3o7_1 := hqr3o7_1.nq hcqr3o8_1 qqr3o7_6
              have hEqr3o8_2 := Ext.then hEqr3o8_1 hcqr3o8_1 (Zn.bl q426)
              refine wpList_nil (e_sq ?_)
              have hStqr3o8_1 : RowKit.Below W.heap.size wqr3o8_1 wqr3o8_2 := chg_bel hcqr3o8_1 qqr3o8_1.size (Zn.bl q426)
              refine ⟨fun _ => hStqr3o8_1, ?_⟩
              have qqr3o8_8 := RowKit.Below.trans qqr3o8_1 hStqr3o8_1
              refine x_only 11 rfl (by kernel_rfl) ?_; intro wqr3o11_1 hxqr3o11_1
              replace h202 := h202.ext hxqr3o11_1
              replace hqr3o7_1 := hqr3o7_1.ext hxqr3o11_1
              replace hqr3o8_1 := hqr3o8_1.ext hxqr3o11_1
              have hEqr3o11_1 := Ext.trans hEqr3o8_2 hxqr3o11_1
              have qqr3o11_1 := bel_step qqr3o8_8 hxqr3o11_1
              refine o_call ha rfl rfl Tryd.call41 (W_impl_one hI387 hcqr3o11_1) ?_; clear ha a; rintro vqr3o11_1 wqr3o11_2 ⟨rfl, hxqr3o11_2⟩ a ha
              replace h202 := h202.ext hxqr3o11_2
              replace hqr3o7_1 := hqr3o7_1.ext hxqr3o11_2
              replace hqr3o8_1 := hqr3o8_1.ext hxqr3o11_2
              have hEqr3o11_2 := Ext.trans hEqr3o11_1 hxqr3o11_2
              refine wpList_nil (e_sq ?_)
              have hStqr3o11_1 : RowKit.Below W.heap.size wqr3o11_1 wqr3o11_2 := ext_bel qqr3o11_1.size hxqr3o11_2
              refine ⟨fun _ => hStqr3o11_1, ?_⟩
              have qqr3o11_2 := RowKit.Below.trans qqr3o11_1 hStqr3o11_1
              refine x_g 12 rfl (by kernel_rfl) (want0 _) ha rfl qqr3o11_2 (g32_or (m := a3) (n := xqr3o11_1) rfl rfl) ?_; clear ha a; intro a ha
              refine x_only 17 rfl (by kernel_rfl) ?_; intro wqr3o17_1 hxqr3o17_1
              replace h202 := h202.ext hxqr3o17_1
              replace hqr3o7_1 := hqr3o7_1.ext hxqr3o17_1
              replace hqr3o8_1 := hqr3o8_1.ext hxqr3o17_1
              have hEqr3o17_1 := Ext.trans hEqr3o11_2 hxqr3o17_1
              have qqr3o17_1 := bel_step qqr3o11_2 hxqr3o17_1
              refine o_call ha rfl rfl Tryd.call41 (W_impl_one hIqr3o15_1 hcqr3o17_1) ?_; clear ha a; rintro vqr3o17_1 wqr3o17_2 ⟨rfl, hxqr3o17_2⟩ a ha
              replace h202 := h202.ext hxqr3o17_2
              replace hqr3o7_1 := hqr3o7_1.ext hxqr3o17_2
              replace hqr3o8_1 := hqr3o8_1.ext hxqr3o17_2
              have hEqr3o17_2 := Ext.trans hEqr3o17_1 hxqr3o17_2
              refine wpList_nil (e_sq ?_)
              have hStqr3o17_1 : RowKit.Below W.heap.size wqr3o17_1 wqr3o17_2 := ext_bel qqr3o17_1.size hxqr3o17_2
              refine ⟨fun _ => hStqr3o17_1, ?_⟩
              have qqr3o17_2 := RowKit.Below.trans qqr3o17_1 hStqr3o17_1
              refine x_g 18 rfl (by kernel_rfl) (want0 _) ha rfl qqr3o17_2 (g32_or (m := (a3 ||| xqr3o11_1)) (n := xqr3o17_1) rfl rfl) ?_; clear ha a; intro a ha
              refine x_only 20 rfl (by kernel_rfl) ?_; intro wqr3o20_1 hxqr3o20_1
              replace h202 := h202.ext hxqr3o20_1
              replace hqr3o7_1 := hqr3o7_1.ext hxqr3o20_1
              replace hqr3o8_1 := hqr3o8_1.ext hxqr3o20_1
              have hEqr3o20_1 := Ext.trans hEqr3o17_2 hxqr3o20_1
              have qqr3o20_1 := bel_step qqr3o17_2 hxqr3o20_1
              obtain ⟨fpqr3o20_1, hroqr3o20_1, hsqr3o20_1⟩ := hqr3o8_1.roF
              refine o_call ha rfl rfl Tryd.call40 (ih (ha0.ext hEqr3o20_1) (ha1.ext hEqr3o20_1) hroqr3o20_1 ha4 (hG.ext hEqr3o20_1) hcqr3o20_1) ?_; clear ha a; rintro vqr3o20_1 wqr3o20_2 ⟨bqr3o20_1, hqr3o20_1, zqr3o20_1, hzqr3o20_1, hxqr3o20_2⟩ a ha
              have qqr3o20_2 := Zn.upB zqr3o20_1 qqr3o20_1
              have qqr3o20_3 := Nq.new h202.fpb zqr3o20_1
              have qqr3o20_4 := Nq.madeO zqr3o20_1 h202.blt
              have qqr3o20_5 := Nq.new hqr3o7_1.fpb zqr3o20_1
              have qqr3o20_6 := Nq.madeO zqr3o20_1 hqr3o7_1.blt
              have qqr3o20_7 := Nq.new hqr3o8_1.fpb zqr3o20_1
              have qqr3o20_8 := Nq.madeO zqr3o20_1 hqr3o8_1.blt
              replace h202 := h202.ext hxqr3o20_2
              replace hqr3o7_1 := hqr3o7_1.ext hxqr3o20_2
              replace hqr3o8_1 := hqr3o8_1.ext hxqr3o20_2
              have hEqr3o20_2 := Ext.trans hEqr3o20_1 hxqr3o20_2
              have qqr3o20_9 := Zn.upD zqr3o20_1 hEqr3o20_1
              refine wpList_nil (e_sq ?_)
              have hStqr3o20_1 : RowKit.Below W.heap.size wqr3o20_1 wqr3o20_2 := ext_bel qqr3o20_1.size hxqr3o20_2
              refine ⟨fun _ => hStqr3o20_1, ?_⟩
              have qqr3o20_10 := RowKit.Below.trans qqr3o20_1 hStqr3o20_1
              refine x_g 21 rfl (by kernel_rfl) (want0 _) ha rfl qqr3o20_10 (g_assign rfl) ?_; clear ha a; intro a ha
              refine x_done (by kernel_rfl) ?_; intro w524 hx525
              replace h202 := h202.ext hx525
              replace hqr3o7_1 := hqr3o7_1.ext hx525
              replace hqr3o8_1 := hqr3o8_1.ext hx525
              replace hqr3o20_1 := hqr3o20_1.ext hx525
              have hE526 := Ext.trans hEqr3o20_2 hx525
              replace ha := ha.sub (σ' := [(0, va0), (1, va1), (2, va2), (3, (.int .u32 (BitVec.toNat a3 : Int))), (4, (.int .i64 a4)), (11, (.int .i64 x3)), (15, vqr3o20_1), (28, v28), (29, (.int .i64 (x26.length : Int))), (30, (.int .i64 i204)), (55, va1), (56, (.int .i64 x3)), (57, (.pointer (some p490))), (58, (.int .i64 x487)), (59, (.int .i64 x376)), (60, (.bool false)), (63, (.int .u32 (BitVec.toNat a3 : Int))), (64, va1), (65, (.int .i64 x376)), (66, (.pointer (some p505))), (67, (.int .i64 x502)), (68, (.bool x514))]) ⟨rfl, rfl, rfl, rfl, rfl, rfl, rfl, rfl, rfl, rfl, rfl, rfl, rfl, rfl, rfl, rfl, rfl, rfl, rfl, rfl, rfl, rfl, trivial⟩
              refine e_then ?_; refine wp_seq ?_; refine wp_region_lit ?_; refine op_g ha rfl (g_move rfl) ?_; clear ha a; intro a ha; refine op_g ha rfl (g_nnilz sl53.und rfl hqr3o20_1 hzqr3o20_1) ?_; clear ha a; intro a ha; refine wpList_nil ?_; replace ha := ha.sub (σ' := [(0, va0), (1, va1), (2, va2), (3, (.int .u32 (BitVec.toNat a3 : Int))), (4, (.int .i64 a4)), (11, (.int .i64 x3)), (15, vqr3o20_1), (28, v28), (29, (.int .i64 (x26.length : Int))), (30, (.int .i64 i204)), (55, va1), (56, (.int .i64 x3)), (57, (.pointer (some p490))), (58, (.int .i64 x487)), (59, (.int .i64 x376)), (60, (.bool false)), (63, (.int .u32 (BitVec.toNat a3 : Int))), (64, va1), (65, (.int .i64 x376)), (66, (.pointer (some p505))), (67, (.int .i64 x502)), (68, (.bool x514)), (92, (.bool (!(List.isEmpty xqr3o20_1))))]) ⟨rfl, rfl, rfl, rfl, rfl, rfl, rfl, rfl, rfl, rfl, rfl, rfl, rfl, rfl, rfl, rfl, rfl, rfl, rfl, rfl, rfl, rfl, rfl, trivial⟩
              refine e_then ?_; refine c_cond (¬ (xqr3o20_1 = [])) ha rfl (n_iff (List.isEmpty_iff)) (fun hp527 => ?_) (fun hp527 => ?_)
              · replace hF := if_t hp527 hF
                refine wp_seq ?_; refine wp_region_lit ?_; refine op_g ha rfl (g_move rfl) ?_; clear ha a; intro a ha; refine op_g ha rfl (g_assign rfl) ?_; clear ha a; intro a ha; refine wpList_nil ?_; replace ha := ha.sub (σ' := [(10, vqr3o20_1)]) ⟨rfl, trivial⟩; refine e_then ?_; refine wp_ret ?_; refine e_blk_ret ?_; refine e_then_ret ?_; refine e_lq_ret ?_; refine e_then_ret ?_; obtain ⟨hz528, hF⟩ := grd_some hF; obtain rfl := Option.some.inj hF
                have e529 := LK_inr hN372; subst e529
                have e530 := BK_inr hK368; subst e530
                exact f_ret1 ha rfl rfl ⟨_, hqr3o20_1, qqr3o20_9, (.inr hz528), hE526⟩
              replace hF := if_f hp527 hF; refine wp_skip ?_; refine e_blk ?_; refine e_then ?_; refine wp_region_lit ?_; obtain ⟨hI531, hF⟩ := ck_some hF; refine op_g ha rfl (g_add rfl rfl hI531) ?_; clear ha a; intro a ha; refine op_g ha rfl (g_move rfl) ?_; clear ha a; intro a ha; refine wpList_nil ?_; replace ha := ha.sub (σ' := [(0, va0), (1, va1), (2, va2), (3, (.int .u32 (BitVec.toNat a3 : Int))), (4, (.int .i64 a4)), (11, (.int .i64 x3)), (28, v28), (29, (.int .i64 (x26.length : Int))), (30, (.int .i64 (i204 + 1))), (55, va1), (56, (.int .i64 x3)), (57, (.pointer (some p490))), (58, (.int .i64 x487)), (59, (.int .i64 x376)), (60, (.bool false)), (63, (.int .u32 (BitVec.toNat a3 : Int))), (64, va1), (65, (.int .i64 x376)), (66, (.pointer (some p505))), (67, (.int .i64 x502)), (68, (.bool x514))]) ⟨rfl, rfl, rfl, rfl, rfl, rfl, rfl, rfl, rfl, rfl, rfl, rfl, rfl, rfl, rfl, rfl, rfl, rfl, rfl, rfl, rfl, trivial⟩
              refine e_lq ?_; obtain rfl := Option.some.inj hF
              exact ⟨_, Nat.lt_succ_self _, i204 + 1, ha.sub ⟨rfl, rfl, rfl, rfl, rfl, rfl, rfl, rfl, rfl, trivial⟩, hE526, hI531, h202, z203, hN372⟩
            skip
            replace h202 := h202.ext hxqr3o6_1
            replace h418 := h418.ext hxqr3o6_1
            have hEqr3o16_1 := Ext.trans hEqr3o6_1 hxqr3o6_1
            have qqr3o16_1 := bel_step qqr3o6_2 hxqr3o6_1
            refine op_g ha rfl (g_load0 hEqr3o16_1 Tryd.isAgg3 rfl hatqr3o15_1.one) ?_; clear ha a; intro a ha; refine wpList_nil (e_sq ?_)
            have hStqr3o16_1 : RowKit.Below W.heap.size wqr3o6_1 wqr3o6_1 := RowKit.Below.refl _ _
            refine ⟨fun _ => hStqr3o16_1, ?_⟩
            have qqr3o16_2 := RowKit.Below.trans qqr3o16_1 hStqr3o16_1
            refine x_only 7 rfl (by kernel_rfl) ?_; intro wqr3o7_1 hxqr3o7_1
            replace h202 := h202.ext hxqr3o7_1
            replace h418 := h418.ext hxqr3o7_1
            have hEqr3o7_1 := Ext.trans hEqr3o16_1 hxqr3o7_1
            have qqr3o7_1 := bel_step qqr3o16_2 hxqr3o7_1
            refine o_lit1 (o := true) (y := xqr3o5_1) Rp.int ha rfl sl53 rfl rfl rfl ⟨rfl, hIqr3o5_1, rfl⟩ ?_; clear ha a; intro vqr3o7_1 wqr3o7_2 hqr3o7_1 hxqr3o7_2 a ha
            obtain ⟨bqr3o7_1, hbqr3o7_1⟩ : ∃ b : Int, b = wqr3o7_1.heap.size := ⟨_, rfl⟩; rw [← hbqr3o7_1] at hqr3o7_1
            have qqr3o7_2 := zn_of hbqr3o7_1
            have qqr3o7_3 := Nq.new h202.fpb qqr3o7_2
            have qqr3o7_4 := Nq.madeO qqr3o7_2 h202.blt
            have qqr3o7_5 := Nq.new h418.fpb qqr3o7_2
            have qqr3o7_6 := Nq.madeO qqr3o7_2 h418.blt
            have qqr3o7_7 := Zn.upD qqr3o7_2 hEqr3o7_1
            have qqr3o7_8 := Zn.upB qqr3o7_2 qqr3o7_1
            replace h202 := h202.ext hxqr3o7_2
            replace h418 := h418.ext hxqr3o7_2
            have hEqr3o7_2 := Ext.trans hEqr3o7_1 hxqr3o7_2
            refine wpList_nil (e_sq ?_)
            have hStqr3o7_1 : RowKit.Below W.heap.size wqr3o7_1 wqr3o7_2 := ext_bel qqr3o7_1.size hxqr3o7_2
            refine ⟨fun _ => hStqr3o7_1, ?_⟩
            have qqr3o7_9 := RowKit.Below.trans qqr3o7_1 hStqr3o7_1
            refine x_only 8 rfl (by kernel_rfl) ?_; intro wqr3o8_1 hxqr3o8_1
            replace h202 := h202.ext hxqr3o8_1
            replace h418 := h418.ext hxqr3o8_1
            replace hqr3o7_1 := hqr3o7_1.ext hxqr3o8_1
            have hEqr3o8_1 := Ext.trans hEqr3o7_2 hxqr3o8_1
            have qqr3o8_1 := bel_step qqr3o7_9 hxqr3o8_1
            refine o_append ha rfl sl53 rfl rfl rfl h418 hqr3o7_1.src (Nq.nil _) hlqr3o8_1 ?_; clear ha a; intro vqr3o8_1 wqr3o8_2 bqr3o8_1 hqr3o8_1 hcqr3o8_1 hbqr3o8_1 a ha
            replace hqr3o8_1 : Ow Rp.int 3 true wqr3o8_2 [] bqr3o8_1 vqr3o8_1 _ := hqr3o8_1
            have qqr3o8_2 := Nq.appY q422 h202.fpb hbqr3o8_1
            have qqr3o8_3 := Nq.appX q423 (Nq.nil _) hbqr3o8_1 h202.blt
            have qqr3o8_4 := Nq.appY qqr3o7_6 hqr3o7_1.fpb hbqr3o8_1
            have qqr3o8_5 := Nq.appX qqr3o7_5 (Nq.nil _) hbqr3o8_1 hqr3o7_1.blt
            have qqr3o8_6 := Zn.appD q426 hbqr3o8_1 hEqr3o8_1
            have qqr3o8_7 := Zn.appB q426 hbqr3o8_1 qqr3o8_1
            replace h202 := h202.nq hcqr3o8_1 q422
            replace hqr3o7_1 := hqr3o7_1.nq hcqr3o8_1 qqr3o7_6
            have hEqr3o8_2 := Ext.then hEqr3o8_1 hcqr3o8_1 (Zn.bl q426)
            refine wpList_nil (e_sq ?_)
            have hStqr3o8_1 : RowKit.Below W.heap.size wqr3o8_1 wqr3o8_2 := chg_bel hcqr3o8_1 qqr3o8_1.size (Zn.bl q426)
            refine ⟨fun _ => hStqr3o8_1, ?_⟩
            have qqr3o8_8 := RowKit.Below.trans qqr3o8_1 hStqr3o8_1
            refine x_only 11 rfl (by kernel_rfl) ?_; intro wqr3o11_1 hxqr3o11_1
            replace h202 := h202.ext hxqr3o11_1
            replace hqr3o7_1 := hqr3o7_1.ext hxqr3o11_1
            replace hqr3o8_1 := hqr3o8_1.ext hxqr3o11_1
            have hEqr3o11_1 := Ext.trans hEqr3o8_2 hxqr3o11_1
            have qqr3o11_1 := bel_step qqr3o8_8 hxqr3o11_1
            refine o_call ha rfl rfl Tryd.call41 (W_impl_one hI387 hcqr3o11_1) ?_; clear ha a; rintro vqr3o11_1 wqr3o11_2 ⟨rfl, hxqr3o11_2⟩ a ha
            replace h202 := h202.ext hxqr3o11_2
            replace hqr3o7_1 := hqr3o7_1.ext hxqr3o11_2
            replace hqr3o8_1 := hqr3o8_1.ext hxqr3o11_2
            have hEqr3o11_2 := Ext.trans hEqr3o11_1 hxqr3o11_2
            refine wpList_nil (e_sq ?_)
            have hStqr3o11_1 : RowKit.Below W.heap.size wqr3o11_1 wqr3o11_2 := ext_bel qqr3o11_1.size hxqr3o11_2
            refine ⟨fun _ => hStqr3o11_1, ?_⟩
            have qqr3o11_2 := RowKit.Below.trans qqr3o11_1 hStqr3o11_1
            refine x_g 12 rfl (by kernel_rfl) (want0 _) ha rfl qqr3o11_2 (g32_or (m := a3) (n := xqr3o11_1) rfl rfl) ?_; clear ha a; intro a ha
            refine x_only 17 rfl (by kernel_rfl) ?_; intro wqr3o17_1 hxqr3o17_1
            replace h202 := h202.ext hxqr3o17_1
            replace hqr3o7_1 := hqr3o7_1.ext hxqr3o17_1
            replace hqr3o8_1 := hqr3o8_1.ext hxqr3o17_1
            have hEqr3o17_1 := Ext.trans hEqr3o11_2 hxqr3o17_1
            have qqr3o17_1 := bel_step qqr3o11_2 hxqr3o17_1
            refine o_call ha rfl rfl Tryd.call41 (W_impl_one hIqr3o15_1 hcqr3o17_1) ?_; clear ha a; rintro vqr3o17_1 wqr3o17_2 ⟨rfl, hxqr3o17_2⟩ a ha
            replace h202 := h202.ext hxqr3o17_2
            replace hqr3o7_1 := hqr3o7_1.ext hxqr3o17_2
            replace hqr3o8_1 := hqr3o8_1.ext hxqr3o17_2
            have hEqr3o17_2 := Ext.trans hEqr3o17_1 hxqr3o17_2
            refine wpList_nil (e_sq ?_)
            have hStqr3o17_1 : RowKit.Below W.heap.size wqr3o17_1 wqr3o17_2 := ext_bel qqr3o17_1.size hxqr3o17_2
            refine ⟨fun _ => hStqr3o17_1, ?_⟩
            have qqr3o17_2 := RowKit.Below.trans qqr3o17_1 hStqr3o17_1
            refine x_g 18 rfl (by kernel_rfl) (want0 _) ha rfl qqr3o17_2 (g32_or (m := (a3 ||| xqr3o11_1)) (n := xqr3o17_1) rfl rfl) ?_; clear ha a; intro a ha
            refine x_only 20 rfl (by kernel_rfl) ?_; intro wqr3o20_1 hxqr3o20_1
            replace h202 := h202.ext hxqr3o20_1
            replace hqr3o7_1 := hqr3o7_1.ext hxqr3o20_1
            replace hqr3o8_1 := hqr3o8_1.ext hxqr3o20_1
            have hEqr3o20_1 := Ext.trans hEqr3o17_2 hxqr3o20_1
            have qqr3o20_1 := bel_step qqr3o17_2 hxqr3o20_1
            obtain ⟨fpqr3o20_1, hroqr3o20_1, hsqr3o20_1⟩ := hqr3o8_1.roF
            refine o_call ha rfl rfl Tryd.call40 (ih (ha0.ext hEqr3o20_1) (ha1.ext hEqr3o20_1) hroqr3o20_1 ha4 (hG.ext hEqr3o20_1) hcqr3o20_1) ?_; clear ha a; rintro vqr3o20_1 wqr3o20_2 ⟨bqr3o20_1, hqr3o20_1, zqr3o20_1, hzqr3o20_1, hxqr3o20_2⟩ a ha
            have qqr3o20_2 := Zn.upB zqr3o20_1 qqr3o20_1
            have qqr3o20_3 := Nq.new h202.fpb zqr3o20_1
            have qqr3o20_4 := Nq.madeO zqr3o20_1 h202.blt
            have qqr3o20_5 := Nq.new hqr3o7_1.fpb zqr3o20_1
            have qqr3o20_6 := Nq.madeO zqr3o20_1 hqr3o7_1.blt
            have qqr3o20_7 := Nq.new hqr3o8_1.fpb zqr3o20_1
            have qqr3o20_8 := Nq.madeO zqr3o20_1 hqr3o8_1.blt
            replace h202 := h202.ext hxqr3o20_2
            replace hqr3o7_1 := hqr3o7_1.ext hxqr3o20_2
            replace hqr3o8_1 := hqr3o8_1.ext hxqr3o20_2
            have hEqr3o20_2 := Ext.trans hEqr3o20_1 hxqr3o20_2
            have qqr3o20_9 := Zn.upD zqr3o20_1 hEqr3o20_1
            refine wpList_nil (e_sq ?_)
            have hStqr3o20_1 : RowKit.Below W.heap.size wqr3o20_1 wqr3o20_2 := ext_bel qqr3o20_1.size hxqr3o20_2
            refine ⟨fun _ => hStqr3o20_1, ?_⟩
            have qqr3o20_10 := RowKit.Below.trans qqr3o20_1 hStqr3o20_1
            refine x_g 21 rfl (by kernel_rfl) (want0 _) ha rfl qqr3o20_10 (g_assign rfl) ?_; clear ha a; intro a ha
            refine x_done (by kernel_rfl) ?_; intro w524 hx525
            replace h202 := h202.ext hx525
            replace hqr3o7_1 := hqr3o7_1.ext hx525
            replace hqr3o8_1 := hqr3o8_1.ext hx525
            replace hqr3o20_1 := hqr3o20_1.ext hx525
            have hE526 := Ext.trans hEqr3o20_2 hx525
            replace ha := ha.sub (σ' := [(0, va0), (1, va1), (2, va2), (3, (.int .u32 (BitVec.toNat a3 : Int))), (4, (.int .i64 a4)), (11, (.int .i64 x3)), (15, vqr3o20_1), (28, v28), (29, (.int .i64 (x26.length : Int))), (30, (.int .i64 i204)), (55, va1), (56, (.int .i64 x3)), (57, (.pointer (some p490))), (58, (.int .i64 x487)), (59, (.int .i64 x376)), (60, (.bool false)), (63, (.int .u32 (BitVec.toNat a3 : Int))), (64, va1), (65, (.int .i64 x376)), (66, (.pointer (some p505))), (67, (.int .i64 x502)), (68, (.bool x514))]) ⟨rfl, rfl, rfl, rfl, rfl, rfl, rfl, rfl, rfl, rfl, rfl, rfl, rfl, rfl, rfl, rfl, rfl, rfl, rfl, rfl, rfl, rfl, trivial⟩
            refine e_then ?_; refine wp_seq ?_; refine wp_region_lit ?_; refine op_g ha rfl (g_move rfl) ?_; clear ha a; intro a ha; refine op_g ha rfl (g_nnilz sl53.und rfl hqr3o20_1 hzqr3o20_1) ?_; clear ha a; intro a ha; refine wpList_nil ?_; replace ha := ha.sub (σ' := [(0, va0), (1, va1), (2, va2), (3, (.int .u32 (BitVec.toNat a3 : Int))), (4, (.int .i64 a4)), (11, (.int .i64 x3)), (15, vqr3o20_1), (28, v28), (29, (.int .i64 (x26.length : Int))), (30, (.int .i64 i204)), (55, va1), (56, (.int .i64 x3)), (57, (.pointer (some p490))), (58, (.int .i64 x487)), (59, (.int .i64 x376)), (60, (.bool false)), (63, (.int .u32 (BitVec.toNat a3 : Int))), (64, va1), (65, (.int .i64 x376)), (66, (.pointer (some p505))), (67, (.int .i64 x502)), (68, (.bool x514)), (92, (.bool (!(List.isEmpty xqr3o20_1))))]) ⟨rfl, rfl, rfl, rfl, rfl, rfl, rfl, rfl, rfl, rfl, rfl, rfl, rfl, rfl, rfl, rfl, rfl, rfl, rfl, rfl, rfl, rfl, rfl, trivial⟩
            refine e_then ?_; refine c_cond (¬ (xqr3o20_1 = [])) ha rfl (n_iff (List.isEmpty_iff)) (fun hp527 => ?_) (fun hp527 => ?_)
            · replace hF := if_t hp527 hF
              refine wp_seq ?_; refine wp_region_lit ?_; refine op_g ha rfl (g_move rfl) ?_; clear ha a; intro a ha; refine op_g ha rfl (g_assign rfl) ?_; clear ha a; intro a ha; refine wpList_nil ?_; replace ha := ha.sub (σ' := [(10, vqr3o20_1)]) ⟨rfl, trivial⟩; refine e_then ?_; refine wp_ret ?_; refine e_blk_ret ?_; refine e_then_ret ?_; refine e_lq_ret ?_; refine e_then_ret ?_; obtain ⟨hz528, hF⟩ := grd_some hF; obtain rfl := Option.some.inj hF
              have e529 := LK_inr hN372; subst e529
              have e530 := BK_inr hK368; subst e530
              exact f_ret1 ha rfl rfl ⟨_, hqr3o20_1, qqr3o20_9, (.inr hz528), hE526⟩
            replace hF := if_f hp527 hF; refine wp_skip ?_; refine e_blk ?_; refine e_then ?_; refine wp_region_lit ?_; obtain ⟨hI531, hF⟩ := ck_some hF; refine op_g ha rfl (g_add rfl rfl hI531) ?_; clear ha a; intro a ha; refine op_g ha rfl (g_move rfl) ?_; clear ha a; intro a ha; refine wpList_nil ?_; replace ha := ha.sub (σ' := [(0, va0), (1, va1), (2, va2), (3, (.int .u32 (BitVec.toNat a3 : Int))), (4, (.int .i64 a4)), (11, (.int .i64 x3)), (28, v28), (29, (.int .i64 (x26.length : Int))), (30, (.int .i64 (i204 + 1))), (55, va1), (56, (.int .i64 x3)), (57, (.pointer (some p490))), (58, (.int .i64 x487)), (59, (.int .i64 x376)), (60, (.bool false)), (63, (.int .u32 (BitVec.toNat a3 : Int))), (64, va1), (65, (.int .i64 x376)), (66, (.pointer (some p505))), (67, (.int .i64 x502)), (68, (.bool x514))]) ⟨rfl, rfl, rfl, rfl, rfl, rfl, rfl, rfl, rfl, rfl, rfl, rfl, rfl, rfl, rfl, rfl, rfl, rfl, rfl, rfl, rfl, trivial⟩
            refine e_lq ?_; obtain rfl := Option.some.inj hF
            exact ⟨_, Nat.lt_succ_self _, i204 + 1, ha.sub ⟨rfl, rfl, rfl, rfl, rfl, rfl, rfl, rfl, rfl, trivial⟩, hE526, hI531, h202, z203, hN372⟩
          skip
          replace h202 := h202.ext hxqr3o15_1
          replace h418 := h418.ext hxqr3o15_1
          have hEqr3o16_1 := Ext.trans hEqr3o15_1 hxqr3o15_1
          have qqr3o16_1 := bel_step qqr3o15_2 hxqr3o15_1
          refine op_g ha rfl (g_load0 hEqr3o16_1 Tryd.isAgg3 rfl hatqr3o15_1.one) ?_; clear ha a; intro a ha; refine wpList_nil (e_sq ?_)
          have hStqr3o16_1 : RowKit.Below W.heap.size wqr3o15_1 wqr3o15_1 := RowKit.Below.refl _ _
          refine ⟨fun _ => hStqr3o16_1, ?_⟩
          have qqr3o16_2 := RowKit.Below.trans qqr3o16_1 hStqr3o16_1
          refine x_only 6 rfl (by kernel_rfl) ?_; intro wqr3o6_1 hxqr3o6_1
          replace h202 := h202.ext hxqr3o6_1
          replace h418 := h418.ext hxqr3o6_1
          have hEqr3o6_1 := Ext.trans hEqr3o16_1 hxqr3o6_1
          have qqr3o6_1 := bel_step qqr3o16_2 hxqr3o6_1
          refine op_g ha rfl (g_load0 hEqr3o6_1 Tryd.isAgg3 rfl hatqr3o5_1.one) ?_; clear ha a; intro a ha; refine wpList_nil (e_sq ?_)
          have hStqr3o6_1 : RowKit.Below W.heap.size wqr3o6_1 wqr3o6_1 := RowKit.Below.refl _ _
          refine ⟨fun _ => hStqr3o6_1, ?_⟩
          have qqr3o6_2 := RowKit.Below.trans qqr3o6_1 hStqr3o6_1
          refine x_only 7 rfl (by kernel_rfl) ?_; intro wqr3o7_1 hxqr3o7_1
          replace h202 := h202.ext hxqr3o7_1
          replace h418 := h418.ext hxqr3o7_1
          have hEqr3o7_1 := Ext.trans hEqr3o6_1 hxqr3o7_1
          have qqr3o7_1 := bel_step qqr3o6_2 hxqr3o7_1
          refine o_lit1 (o := true) (y := xqr3o5_1) Rp.int ha rfl sl53 rfl rfl rfl ⟨rfl, hIqr3o5_1, rfl⟩ ?_; clear ha a; intro vqr3o7_1 wqr3o7_2 hqr3o7_1 hxqr3o7_2 a ha
          obtain ⟨bqr3o7_1, hbqr3o7_1⟩ : ∃ b : Int, b = wqr3o7_1.heap.size := ⟨_, rfl⟩; rw [← hbqr3o7_1] at hqr3o7_1
          have qqr3o7_2 := zn_of hbqr3o7_1
          have qqr3o7_3 := Nq.new h202.fpb qqr3o7_2
          have qqr3o7_4 := Nq.madeO qqr3o7_2 h202.blt
          have qqr3o7_5 := Nq.new h418.fpb qqr3o7_2
          have qqr3o7_6 := Nq.madeO qqr3o7_2 h418.blt
          have qqr3o7_7 := Zn.upD qqr3o7_2 hEqr3o7_1
          have qqr3o7_8 := Zn.upB qqr3o7_2 qqr3o7_1
          replace h202 := h202.ext hxqr3o7_2
          replace h418 := h418.ext hxqr3o7_2
          have hEqr3o7_2 := Ext.trans hEqr3o7_1 hxqr3o7_2
          refine wpList_nil (e_sq ?_)
          have hStqr3o7_1 : RowKit.Below W.heap.size wqr3o7_1 wqr3o7_2 := ext_bel qqr3o7_1.size hxqr3o7_2
          refine ⟨fun _ => hStqr3o7_1, ?_⟩
          have qqr3o7_9 := RowKit.Below.trans qqr3o7_1 hStqr3o7_1
          refine x_only 8 rfl (by kernel_rfl) ?_; intro wqr3o8_1 hxqr3o8_1
          replace h202 := h202.ext hxqr3o8_1
          replace h418 := h418.ext hxqr3o8_1
          replace hqr3o7_1 := hqr3o7_1.ext hxqr3o8_1
          have hEqr3o8_1 := Ext.trans hEqr3o7_2 hxqr3o8_1
          have qqr3o8_1 := bel_step qqr3o7_9 hxqr3o8_1
          refine o_append ha rfl sl53 rfl rfl rfl h418 hqr3o7_1.src (Nq.nil _) hlqr3o8_1 ?_; clear ha a; intro vqr3o8_1 wqr3o8_2 bqr3o8_1 hqr3o8_1 hcqr3o8_1 hbqr3o8_1 a ha
          replace hqr3o8_1 : Ow Rp.int 3 true wqr3o8_2 [] bqr3o8_1 vqr3o8_1 _ := hqr3o8_1
          have qqr3o8_2 := Nq.appY q422 h202.fpb hbqr3o8_1
          have qqr3o8_3 := Nq.appX q423 (Nq.nil _) hbqr3o8_1 h202.blt
          have qqr3o8_4 := Nq.appY qqr3o7_6 hqr3o7_1.fpb hbqr3o8_1
          have qqr3o8_5 := Nq.appX qqr3o7_5 (Nq.nil _) hbqr3o8_1 hqr3o7_1.blt
          have qqr3o8_6 := Zn.appD q426 hbqr3o8_1 hEqr3o8_1
          have qqr3o8_7 := Zn.appB q426 hbqr3o8_1 qqr3o8_1
          replace h202 := h202.nq hcqr3o8_1 q422
          replace hqr3o7_1 := hqr3o7_1.nq hcqr3o8_1 qqr3o7_6
          have hEqr3o8_2 := Ext.then hEqr3o8_1 hcqr3o8_1 (Zn.bl q426)
          refine wpList_nil (e_sq ?_)
          have hStqr3o8_1 : RowKit.Below W.heap.size wqr3o8_1 wqr3o8_2 := chg_bel hcqr3o8_1 qqr3o8_1.size (Zn.bl q426)
          refine ⟨fun _ => hStqr3o8_1, ?_⟩
          have qqr3o8_8 := RowKit.Below.trans qqr3o8_1 hStqr3o8_1
          refine x_only 11 rfl (by kernel_rfl) ?_; intro wqr3o11_1 hxqr3o11_1
          replace h202 := h202.ext hxqr3o11_1
          replace hqr3o7_1 := hqr3o7_1.ext hxqr3o11_1
          replace hqr3o8_1 := hqr3o8_1.ext hxqr3o11_1
          have hEqr3o11_1 := Ext.trans hEqr3o8_2 hxqr3o11_1
          have qqr3o11_1 := bel_step qqr3o8_8 hxqr3o11_1
          refine o_call ha rfl rfl Tryd.call41 (W_impl_one hI387 hcqr3o11_1) ?_; clear ha a; rintro vqr3o11_1 wqr3o11_2 ⟨rfl, hxqr3o11_2⟩ a ha
          replace h202 := h202.ext hxqr3o11_2
          replace hqr3o7_1 := hqr3o7_1.ext hxqr3o11_2
          replace hqr3o8_1 := hqr3o8_1.ext hxqr3o11_2
          have hEqr3o11_2 := Ext.trans hEqr3o11_1 hxqr3o11_2
          refine wpList_nil (e_sq ?_)
          have hStqr3o11_1 : RowKit.Below W.heap.size wqr3o11_1 wqr3o11_2 := ext_bel qqr3o11_1.size hxqr3o11_2
          refine ⟨fun _ => hStqr3o11_1, ?_⟩
          have qqr3o11_2 := RowKit.Below.trans qqr3o11_1 hStqr3o11_1
          refine x_g 12 rfl (by kernel_rfl) (want0 _) ha rfl qqr3o11_2 (g32_or (m := a3) (n := xqr3o11_1) rfl rfl) ?_; clear ha a; intro a ha
          refine x_only 17 rfl (by kernel_rfl) ?_; intro wqr3o17_1 hxqr3o17_1
          replace h202 := h202.ext hxqr3o17_1
          replace hqr3o7_1 := hqr3o7_1.ext hxqr3o17_1
          replace hqr3o8_1 := hqr3o8_1.ext hxqr3o17_1
          have hEqr3o17_1 := Ext.trans hEqr3o11_2 hxqr3o17_1
          have qqr3o17_1 := bel_step qqr3o11_2 hxqr3o17_1
          refine o_call ha rfl rfl Tryd.call41 (W_impl_one hIqr3o15_1 hcqr3o17_1) ?_; clear ha a; rintro vqr3o17_1 wqr3o17_2 ⟨rfl, hxqr3o17_2⟩ a ha
          replace h202 := h202.ext hxqr3o17_2
          replace hqr3o7_1 := hqr3o7_1.ext hxqr3o17_2
          replace hqr3o8_1 := hqr3o8_1.ext hxqr3o17_2
          have hEqr3o17_2 := Ext.trans hEqr3o17_1 hxqr3o17_2
          refine wpList_nil (e_sq ?_)
          have hStqr3o17_1 : RowKit.Below W.heap.size wqr3o17_1 wqr3o17_2 := ext_bel qqr3o17_1.size hxqr3o17_2
          refine ⟨fun _ => hStqr3o17_1, ?_⟩
          have qqr3o17_2 := RowKit.Below.trans qqr3o17_1 hStqr3o17_1
          refine x_g 18 rfl (by kernel_rfl) (want0 _) ha rfl qqr3o17_2 (g32_or (m := (a3 ||| xqr3o11_1)) (n := xqr3o17_1) rfl rfl) ?_; clear ha a; intro a ha
          refine x_only 20 rfl (by kernel_rfl) ?_; intro wqr3o20_1 hxqr3o20_1
          replace h202 := h202.ext hxqr3o20_1
          replace hqr3o7_1 := hqr3o7_1.ext hxqr3o20_1
          replace hqr3o8_1 := hqr3o8_1.ext hxqr3o20_1
          have hEqr3o20_1 := Ext.trans hEqr3o17_2 hxqr3o20_1
          have qqr3o20_1 := bel_step qqr3o17_2 hxqr3o20_1
          obtain ⟨fpqr3o20_1, hroqr3o20_1, hsqr3o20_1⟩ := hqr3o8_1.roF
          refine o_call ha rfl rfl Tryd.call40 (ih (ha0.ext hEqr3o20_1) (ha1.ext hEqr3o20_1) hroqr3o20_1 ha4 (hG.ext hEqr3o20_1) hcqr3o20_1) ?_; clear ha a; rintro vqr3o20_1 wqr3o20_2 ⟨bqr3o20_1, hqr3o20_1, zqr3o20_1, hzqr3o20_1, hxqr3o20_2⟩ a ha
          have qqr3o20_2 := Zn.upB zqr3o20_1 qqr3o20_1
          have qqr3o20_3 := Nq.new h202.fpb zqr3o20_1
          have qqr3o20_4 := Nq.madeO zqr3o20_1 h202.blt
          have qqr3o20_5 := Nq.new hqr3o7_1.fpb zqr3o20_1
          have qqr3o20_6 := Nq.madeO zqr3o20_1 hqr3o7_1.blt
          have qqr3o20_7 := Nq.new hqr3o8_1.fpb zqr3o20_1
          have qqr3o20_8 := Nq.madeO zqr3o20_1 hqr3o8_1.blt
          replace h202 := h202.ext hxqr3o20_2
          replace hqr3o7_1 := hqr3o7_1.ext hxqr3o20_2
          replace hqr3o8_1 := hqr3o8_1.ext hxqr3o20_2
          have hEqr3o20_2 := Ext.trans hEqr3o20_1 hxqr3o20_2
          have qqr3o20_9 := Zn.upD zqr3o20_1 hEqr3o20_1
          refine wpList_nil (e_sq ?_)
          have hStqr3o20_1 : RowKit.Below W.heap.size wqr3o20_1 wqr3o20_2 := ext_bel qqr3o20_1.size hxqr3o20_2
          refine ⟨fun _ => hStqr3o20_1, ?_⟩
          have qqr3o20_10 := RowKit.Below.trans qqr3o20_1 hStqr3o20_1
          refine x_g 21 rfl (by kernel_rfl) (want0 _) ha rfl qqr3o20_10 (g_assign rfl) ?_; clear ha a; intro a ha
          refine x_done (by kernel_rfl) ?_; intro w524 hx525
          replace h202 := h202.ext hx525
          replace hqr3o7_1 := hqr3o7_1.ext hx525
          replace hqr3o8_1 := hqr3o8_1.ext hx525
          replace hqr3o20_1 := hqr3o20_1.ext hx525
          have hE526 := Ext.trans hEqr3o20_2 hx525
          replace ha := ha.sub (σ' := [(0, va0), (1, va1), (2, va2), (3, (.int .u32 (BitVec.toNat a3 : Int))), (4, (.int .i64 a4)), (11, (.int .i64 x3)), (15, vqr3o20_1), (28, v28), (29, (.int .i64 (x26.length : Int))), (30, (.int .i64 i204)), (55, va1), (56, (.int .i64 x3)), (57, (.pointer (some p490))), (58, (.int .i64 x487)), (59, (.int .i64 x376)), (60, (.bool false)), (63, (.int .u32 (BitVec.toNat a3 : Int))), (64, va1), (65, (.int .i64 x376)), (66, (.pointer (some p505))), (67, (.int .i64 x502)), (68, (.bool x514))]) ⟨rfl, rfl, rfl, rfl, rfl, rfl, rfl, rfl, rfl, rfl, rfl, rfl, rfl, rfl, rfl, rfl, rfl, rfl, rfl, rfl, rfl, rfl, trivial⟩
          refine e_then ?_; refine wp_seq ?_; refine wp_region_lit ?_; refine op_g ha rfl (g_move rfl) ?_; clear ha a; intro a ha; refine op_g ha rfl (g_nnilz sl53.und rfl hqr3o20_1 hzqr3o20_1) ?_; clear ha a; intro a ha; refine wpList_nil ?_; replace ha := ha.sub (σ' := [(0, va0), (1, va1), (2, va2), (3, (.int .u32 (BitVec.toNat a3 : Int))), (4, (.int .i64 a4)), (11, (.int .i64 x3)), (15, vqr3o20_1), (28, v28), (29, (.int .i64 (x26.length : Int))), (30, (.int .i64 i204)), (55, va1), (56, (.int .i64 x3)), (57, (.pointer (some p490))), (58, (.int .i64 x487)), (59, (.int .i64 x376)), (60, (.bool false)), (63, (.int .u32 (BitVec.toNat a3 : Int))), (64, va1), (65, (.int .i64 x376)), (66, (.pointer (some p505))), (67, (.int .i64 x502)), (68, (.bool x514)), (92, (.bool (!(List.isEmpty xqr3o20_1))))]) ⟨rfl, rfl, rfl, rfl, rfl, rfl, rfl, rfl, rfl, rfl, rfl, rfl, rfl, rfl, rfl, rfl, rfl, rfl, rfl, rfl, rfl, rfl, rfl, trivial⟩
          refine e_then ?_; refine c_cond (¬ (xqr3o20_1 = [])) ha rfl (n_iff (List.isEmpty_iff)) (fun hp527 => ?_) (fun hp527 => ?_)
          · replace hF := if_t hp527 hF
            refine wp_seq ?_; refine wp_region_lit ?_; refine op_g ha rfl (g_move rfl) ?_; clear ha a; intro a ha; refine op_g ha rfl (g_assign rfl) ?_; clear ha a; intro a ha; refine wpList_nil ?_; replace ha := ha.sub (σ' := [(10, vqr3o20_1)]) ⟨rfl, trivial⟩; refine e_then ?_; refine wp_ret ?_; refine e_blk_ret ?_; refine e_then_ret ?_; refine e_lq_ret ?_; refine e_then_ret ?_; obtain ⟨hz528, hF⟩ := grd_some hF; obtain rfl := Option.some.inj hF
            have e529 := LK_inr hN372; subst e529
            have e530 := BK_inr hK368; subst e530
            exact f_ret1 ha rfl rfl ⟨_, hqr3o20_1, qqr3o20_9, (.inr hz528), hE526⟩
          replace hF := if_f hp527 hF; refine wp_skip ?_; refine e_blk ?_; refine e_then ?_; refine wp_region_lit ?_; obtain ⟨hI531, hF⟩ := ck_some hF; refine op_g ha rfl (g_add rfl rfl hI531) ?_; clear ha a; intro a ha; refine op_g ha rfl (g_move rfl) ?_; clear ha a; intro a ha; refine wpList_nil ?_; replace ha := ha.sub (σ' := [(0, va0), (1, va1), (2, va2), (3, (.int .u32 (BitVec.toNat a3 : Int))), (4, (.int .i64 a4)), (11, (.int .i64 x3)), (28, v28), (29, (.int .i64 (x26.length : Int))), (30, (.int .i64 (i204 + 1))), (55, va1), (56, (.int .i64 x3)), (57, (.pointer (some p490))), (58, (.int .i64 x487)), (59, (.int .i64 x376)), (60, (.bool false)), (63, (.int .u32 (BitVec.toNat a3 : Int))), (64, va1), (65, (.int .i64 x376)), (66, (.pointer (some p505))), (67, (.int .i64 x502)), (68, (.bool x514))]) ⟨rfl, rfl, rfl, rfl, rfl, rfl, rfl, rfl, rfl, rfl, rfl, rfl, rfl, rfl, rfl, rfl, rfl, rfl, rfl, rfl, rfl, trivial⟩
          refine e_lq ?_; obtain rfl := Option.some.inj hF
          exact ⟨_, Nat.lt_succ_self _, i204 + 1, ha.sub ⟨rfl, rfl, rfl, rfl, rfl, rfl, rfl, rfl, rfl, trivial⟩, hE526, hI531, h202, z203, hN372⟩
        skip
        replace h202 := h202.ext hxqr3_1
        replace h418 := h418.ext hxqr3_1
        have hEqr3o15_1 := Ext.trans hE519 hxqr3_1
        have qqr3o15_1 := bel_step hS523 hxqr3_1
        obtain ⟨pqr3o15_1, csqr3o15_1, fqr3o15_1, hfqr3o15_1, hpbqr3o15_1, hatqr3o15_1, hrqr3o15_1, hiqr3o15_1⟩ := ha1.at gqr3o15_1 gxqr3o15_1
        obtain ⟨rfl, hIqr3o15_1, rfl⟩ := hrqr3o15_1
        refine op_g ha rfl (hiqr3o15_1.gives sl53 rfl rfl) ?_; clear ha a; intro a ha; refine wpList_nil (e_sq ?_)
        have hStqr3o15_1 : RowKit.Below W.heap.size wqr3_1 wqr3_1 := RowKit.Below.refl _ _
        refine ⟨fun _ => hStqr3o15_1, ?_⟩
        have qqr3o15_2 := RowKit.Below.trans qqr3o15_1 hStqr3o15_1
        refine x_many [5, 16] (by kernel_rfl) rfl fun wqr3o15_1 hxqr3o15_1 => ⟨⟨_, rfl, ?_⟩, ⟨_, rfl, ?_⟩, trivial⟩
        · skip
          replace h202 := h202.ext hxqr3o15_1
          replace h418 := h418.ext hxqr3o15_1
          have hEqr3o5_1 := Ext.trans hEqr3o15_1 hxqr3o15_1
          have qqr3o5_1 := bel_step qqr3o15_2 hxqr3o15_1
          obtain ⟨pqr3o5_1, csqr3o5_1, fqr3o5_1, hfqr3o5_1, hpbqr3o5_1, hatqr3o5_1, hrqr3o5_1, hiqr3o5_1⟩ := ha1.at gqr3o5_1 gxqr3o5_1
          obtain ⟨rfl, hIqr3o5_1, rfl⟩ := hrqr3o5_1
          refine op_g ha rfl (hiqr3o5_1.gives sl53 rfl rfl) ?_; clear ha a; intro a ha; refine wpList_nil (e_sq ?_)
          have hStqr3o5_1 : RowKit.Below W.heap.size wqr3o15_1 wqr3o15_1 := RowKit.Below.refl _ _
          refine ⟨fun _ => hStqr3o5_1, ?_⟩
          have qqr3o5_2 := RowKit.Below.trans qqr3o5_1 hStqr3o5_1
          refine x_many [6, 16] (by kernel_rfl) rfl fun wqr3o5_1 hxqr3o5_1 => ⟨⟨_, rfl, ?_⟩, ⟨_, rfl, ?_⟩, trivial⟩
          · skip
            replace h202 := h202.ext hxqr3o5_1
            replace h418 := h418.ext hxqr3o5_1
            have hEqr3o6_1 := Ext.trans hEqr3o5_1 hxqr3o5_1
            have qqr3o6_1 := bel_step qqr3o5_2 hxqr3o5_1
            refine op_g ha rfl (g_load0 hEqr3o6_1 Tryd.isAgg3 rfl hatqr3o5_1.one) ?_; clear ha a; intro a ha; refine wpList_nil (e_sq ?_)
            have hStqr3o6_1 : RowKit.Below W.heap.size wqr3o5_1 wqr3o5_1 := RowKit.Below.refl _ _
            refine ⟨fun _ => hStqr3o6_1, ?_⟩
            have qqr3o6_2 := RowKit.Below.trans qqr3o6_1 hStqr3o6_1
            refine x_many [7, 16] (by kernel_rfl) rfl fun wqr3o6_1 hxqr3o6_1 => ⟨⟨_, rfl, ?_⟩, ⟨_, rfl, ?_⟩, trivial⟩
            · skip
              replace h202 := h202.ext hxqr3o6_1
              replace h418 := h418.ext hxqr3o6_1
              have hEqr3o7_1 := Ext.trans hEqr3o6_1 hxqr3o6_1
              have qqr3o7_1 := bel_step qqr3o6_2 hxqr3o6_1
              refine o_lit1 (o := true) (y := xqr3o5_1) Rp.int ha rfl sl53 rfl rfl rfl ⟨rfl, hIqr3o5_1, rfl⟩ ?_; clear ha a; intro vqr3o7_1 wqr3o7_1 hqr3o7_1 hxqr3o7_1 a ha
              obtain ⟨bqr3o7_1, hbqr3o7_1⟩ : ∃ b : Int, b = wqr3o6_1.heap.size := ⟨_, rfl⟩; rw [← hbqr3o7_1] at hqr3o7_1
              have qqr3o7_2 := zn_of hbqr3o7_1
              have qqr3o7_3 := Nq.new h202.fpb qqr3o7_2
              have qqr3o7_4 := Nq.madeO qqr3o7_2 h202.blt
              have qqr3o7_5 := Nq.new h418.fpb qqr3o7_2
              have qqr3o7_6 := Nq.madeO qqr3o7_2 h418.blt
              have qqr3o7_7 := Zn.upD qqr3o7_2 hEqr3o7_1
              have qqr3o7_8 := Zn.upB qqr3o7_2 qqr3o7_1
              replace h202 := h202.ext hxqr3o7_1
              replace h418 := h418.ext hxqr3o7_1
              have hEqr3o7_2 := Ext.trans hEqr3o7_1 hxqr3o7_1
              refine wpList_nil (e_sq ?_)
              have hStqr3o7_1 : RowKit.Below W.heap.size wqr3o6_1 wqr3o7_1 := ext_bel qqr3o7_1.size hxqr3o7_1
              refine ⟨fun _ => hStqr3o7_1, ?_⟩
              have qqr3o7_9 := RowKit.Below.trans qqr3o7_1 hStqr3o7_1
              refine x_many [8, 16] (by kernel_rfl) rfl fun wqr3o7_2 hxqr3o7_2 => ⟨⟨_, rfl, ?_⟩, ⟨_, rfl, ?_⟩, trivial⟩
              · skip
                replace h202 := h202.ext hxqr3o7_2
                replace h418 := h418.ext hxqr3o7_2
                replace hqr3o7_1 := hqr3o7_1.ext hxqr3o7_2
                have hEqr3o8_1 := Ext.trans hEqr3o7_2 hxqr3o7_2
                have qqr3o8_1 := bel_step qqr3o7_9 hxqr3o7_2
                refine o_append ha rfl sl53 rfl rfl rfl h418 hqr3o7_1.src (Nq.nil _) hlqr3o8_1 ?_; clear ha a; intro vqr3o8_1 wqr3o8_1 bqr3o8_1 hqr3o8_1 hcqr3o8_1 hbqr3o8_1 a ha
                replace hqr3o8_1 : Ow Rp.int 3 true wqr3o8_1 [] bqr3o8_1 vqr3o8_1 _ := hqr3o8_1
                have qqr3o8_2 := Nq.appY q422 h202.fpb hbqr3o8_1
                have qqr3o8_3 := Nq.appX q423 (Nq.nil _) hbqr3o8_1 h202.blt
                have qqr3o8_4 := Nq.appY qqr3o7_6 hqr3o7_1.fpb hbqr3o8_1
                have qqr3o8_5 := Nq.appX qqr3o7_5 (Nq.nil _) hbqr3o8_1 hqr3o7_1.blt
                have qqr3o8_6 := Zn.appD q426 hbqr3o8_1 hEqr3o8_1
                have qqr3o8_7 := Zn.appB q426 hbqr3o8_1 qqr3o8_1
                replace h202 := h202.nq hcqr3o8_1 q422
                replace hqr3o7_1 := hqr3o7_1.nq hcqr3o8_1 qqr3o7_6
                have hEqr3o8_2 := Ext.then hEqr3o8_1 hcqr3o8_1 (Zn.bl q426)
                refine wpList_nil (e_sq ?_)
                have hStqr3o8_1 : RowKit.Below W.heap.size wqr3o7_2 wqr3o8_1 := chg_bel hcqr3o8_1 qqr3o8_1.size (Zn.bl q426)
                refine ⟨fun _ => hStqr3o8_1, ?_⟩
                have qqr3o8_8 := RowKit.Below.trans qqr3o8_1 hStqr3o8_1
                refine x_many [11, 16] (by kernel_rfl) rfl fun wqr3o8_2 hxqr3o8_1 => ⟨⟨_, rfl, ?_⟩, ⟨_, rfl, ?_⟩, trivial⟩
                · skip
                  replace h202 := h202.ext hxqr3o8_1
                  replace hqr3o7_1 := hqr3o7_1.ext hxqr3o8_1
                  replace hqr3o8_1 := hqr3o8_1.ext hxqr3o8_1
                  have hEqr3o11_1 := Ext.trans hEqr3o8_2 hxqr3o8_1
                  have qqr3o11_1 := bel_step qqr3o8_8 hxqr3o8_1
                  refine o_call ha rfl rfl Tryd.call41 (W_impl_one hI387 hcqr3o11_1) ?_; clear ha a; rintro vqr3o11_1 wqr3o11_1 ⟨rfl, hxqr3o11_1⟩ a ha
                  replace h202 := h202.ext hxqr3o11_1
                  replace hqr3o7_1 := hqr3o7_1.ext hxqr3o11_1
                  replace hqr3o8_1 := hqr3o8_1.ext hxqr3o11_1
                  have hEqr3o11_2 := Ext.trans hEqr3o11_1 hxqr3o11_1
                  refine wpList_nil (e_sq ?_)
                  have hStqr3o11_1 : RowKit.Below W.heap.size wqr3o8_2 wqr3o11_1 := ext_bel qqr3o11_1.size hxqr3o11_1
                  refine ⟨fun _ => hStqr3o11_1, ?_⟩
                  have qqr3o11_2 := RowKit.Below.trans qqr3o11_1 hStqr3o11_1
                  refine x_g 12 rfl (by kernel_rfl) (want0 _) ha rfl qqr3o11_2 (g32_or (m := a3) (n := xqr3o11_1) rfl rfl) ?_; clear ha a; intro a ha
                  refine x_only 16 rfl (by kernel_rfl) ?_; intro wqr3o16_1 hxqr3o16_1
                  replace h202 := h202.ext hxqr3o16_1
                  replace hqr3o7_1 := hqr3o7_1.ext hxqr3o16_1
                  replace hqr3o8_1 := hqr3o8_1.ext hxqr3o16_1
                  have hEqr3o16_1 := Ext.trans hEqr3o11_2 hxqr3o16_1
                  have qqr3o16_1 := bel_step qqr3o11_2 hxqr3o16_1
                  refine op_g ha rfl (g_load0 hEqr3o16_1 Tryd.isAgg3 rfl hatqr3o15_1.one) ?_; clear ha a; intro a ha; refine wpList_nil (e_sq ?_)
                  have hStqr3o16_1 : RowKit.Below W.heap.size wqr3o16_1 wqr3o16_1 := RowKit.Below.refl _ _
                  refine ⟨fun _ => hStqr3o16_1, ?_⟩
                  have qqr3o16_2 := RowKit.Below.trans qqr3o16_1 hStqr3o16_1
                  refine x_only 17 rfl (by kernel_rfl) ?_; intro wqr3o17_1 hxqr3o17_1
                  replace h202 := h202.ext hxqr3o17_1
                  replace hqr3o7_1 := hqr3o7_1.ext hxqr3o17_1
                  replace hqr3o8_1 := hqr3o8_1.ext hxqr3o17_1
                  have hEqr3o17_1 := Ext.trans hEqr3o16_1 hxqr3o17_1
                  have qqr3o17_1 := bel_step qqr3o16_2 hxqr3o17_1
                  refine o_call ha rfl rfl Tryd.call41 (W_impl_one hIqr3o15_1 hcqr3o17_1) ?_; clear ha a; rintro vqr3o17_1 wqr3o17_2 ⟨rfl, hxqr3o17_2⟩ a ha
                  replace h202 := h202.ext hxqr3o17_2
                  replace hqr3o7_1 := hqr3o7_1.ext hxqr3o17_2
                  replace hqr3o8_1 := hqr3o8_1.ext hxqr3o17_2
                  have hEqr3o17_2 := Ext.trans hEqr3o17_1 hxqr3o17_2
                  refine wpList_nil (e_sq ?_)
                  have hStqr3o17_1 : RowKit.Below W.heap.size wqr3o17_1 wqr3o17_2 := ext_bel qqr3o17_1.size hxqr3o17_2
                  refine ⟨fun _ => hStqr3o17_1, ?_⟩
                  have qqr3o17_2 := RowKit.Below.trans qqr3o17_1 hStqr3o17_1
                  refine x_g 18 rfl (by kernel_rfl) (want0 _) ha rfl qqr3o17_2 (g32_or (m := (a3 ||| xqr3o11_1)) (n := xqr3o17_1) rfl rfl) ?_; clear ha a; intro a ha
                  refine x_only 20 rfl (by kernel_rfl) ?_; intro wqr3o20_1 hxqr3o20_1
                  replace h202 := h202.ext hxqr3o20_1
                  replace hqr3o7_1 := hqr3o7_1.ext hxqr3o20_1
                  replace hqr3o8_1 := hqr3o8_1.ext hxqr3o20_1
                  have hEqr3o20_1 := Ext.trans hEqr3o17_2 hxqr3o20_1
                  have qqr3o20_1 := bel_step qqr3o17_2 hxqr3o20_1
                  obtain ⟨fpqr3o20_1, hroqr3o20_1, hsqr3o20_1⟩ := hqr3o8_1.roF
                  refine o_call ha rfl rfl Tryd.call40 (ih (ha0.ext hEqr3o20_1) (ha1.ext hEqr3o20_1) hroqr3o20_1 ha4 (hG.ext hEqr3o20_1) hcqr3o20_1) ?_; clear ha a; rintro vqr3o20_1 wqr3o20_2 ⟨bqr3o20_1, hqr3o20_1, zqr3o20_1, hzqr3o20_1, hxqr3o20_2⟩ a ha
                  have qqr3o20_2 := Zn.upB zqr3o20_1 qqr3o20_1
                  have qqr3o20_3 := Nq.new h202.fpb zqr3o20_1
                  have qqr3o20_4 := Nq.madeO zqr3o20_1 h202.blt
                  have qqr3o20_5 := Nq.new hqr3o7_1.fpb zqr3o20_1
                  have qqr3o20_6 := Nq.madeO zqr3o20_1 hqr3o7_1.blt
                  have qqr3o20_7 := Nq.new hqr3o8_1.fpb zqr3o20_1
                  have qqr3o20_8 := Nq.madeO zqr3o20_1 hqr3o8_1.blt
                  replace h202 := h202.ext hxqr3o20_2
                  replace hqr3o7_1 := hqr3o7_1.ext hxqr3o20_2
                  replace hqr3o8_1 := hqr3o8_1.ext hxqr3o20_2
                  have hEqr3o20_2 := Ext.trans hEqr3o20_1 hxqr3o20_2
                  have qqr3o20_9 := Zn.upD zqr3o20_1 hEqr3o20_1
                  refine wpList_nil (e_sq ?_)
                  have hStqr3o20_1 : RowKit.Below W.heap.size wqr3o20_1 wqr3o20_2 := ext_bel qqr3o20_1.size hxqr3o20_2
                  refine ⟨fun _ => hStqr3o20_1, ?_⟩
                  have qqr3o20_10 := RowKit.Below.trans qqr3o20_1 hStqr3o20_1
                  refine x_g 21 rfl (by kernel_rfl) (want0 _) ha rfl qqr3o20_10 (g_assign rfl) ?_; clear ha a; intro a ha
                  refine x_done (by kernel_rfl) ?_; intro w524 hx525
                  replace h202 := h202.ext hx525
                  replace hqr3o7_1 := hqr3o7_1.ext hx525
                  replace hqr3o8_1 := hqr3o8_1.ext hx525
                  replace hqr3o20_1 := hqr3o20_1.ext hx525
                  have hE526 := Ext.trans hEqr3o20_2 hx525
                  replace ha := ha.sub (σ' := [(0, va0), (1, va1), (2, va2), (3, (.int .u32 (BitVec.toNat a3 : Int))), (4, (.int .i64 a4)), (11, (.int .i64 x3)), (15, vqr3o20_1), (28, v28), (29, (.int .i64 (x26.length : Int))), (30, (.int .i64 i204)), (55, va1), (56, (.int .i64 x3)), (57, (.pointer (some p490))), (58, (.int .i64 x487)), (59, (.int .i64 x376)), (60, (.bool false)), (63, (.int .u32 (BitVec.toNat a3 : Int))), (64, va1), (65, (.int .i64 x376)), (66, (.pointer (some p505))), (67, (.int .i64 x502)), (68, (.bool x514))]) ⟨rfl, rfl, rfl, rfl, rfl, rfl, rfl, rfl, rfl, rfl, rfl, rfl, rfl, rfl, rfl, rfl, rfl, rfl, rfl, rfl, rfl, rfl, trivial⟩
                  refine e_then ?_; refine wp_seq ?_; refine wp_region_lit ?_; refine op_g ha rfl (g_move rfl) ?_; clear ha a; intro a ha; refine op_g ha rfl (g_nnilz sl53.und rfl hqr3o20_1 hzqr3o20_1) ?_; clear ha a; intro a ha; refine wpList_nil ?_; replace ha := ha.sub (σ' := [(0, va0), (1, va1), (2, va2), (3, (.int .u32 (BitVec.toNat a3 : Int))), (4, (.int .i64 a4)), (11, (.int .i64 x3)), (15, vqr3o20_1), (28, v28), (29, (.int .i64 (x26.length : Int))), (30, (.int .i64 i204)), (55, va1), (56, (.int .i64 x3)), (57, (.pointer (some p490))), (58, (.int .i64 x487)), (59, (.int .i64 x376)), (60, (.bool false)), (63, (.int .u32 (BitVec.toNat a3 : Int))), (64, va1), (65, (.int .i64 x376)), (66, (.pointer (some p505))), (67, (.int .i64 x502)), (68, (.bool x514)), (92, (.bool (!(List.isEmpty xqr3o20_1))))]) ⟨rfl, rfl, rfl, rfl, rfl, rfl, rfl, rfl, rfl, rfl, rfl, rfl, rfl, rfl, rfl, rfl, rfl, rfl, rfl, rfl, rfl, rfl, rfl, trivial⟩
                  refine e_then ?_; refine c_cond (¬ (xqr3o20_1 = [])) ha rfl (n_iff (List.isEmpty_iff)) (fun hp527 => ?_) (fun hp527 => ?_)
                  · replace hF := if_t hp527 hF
                    refine wp_seq ?_; refine wp_region_lit ?_; refine op_g ha rfl (g_move rfl) ?_; clear ha a; intro a ha; refine op_g ha rfl (g_assign rfl) ?_; clear ha a; intro a ha; refine wpList_nil ?_; replace ha := ha.sub (σ' := [(10, vqr3o20_1)]) ⟨rfl, trivial⟩; refine e_then ?_; refine wp_ret ?_; refine e_blk_ret ?_; refine e_then_ret ?_; refine e_lq_ret ?_; refine e_then_ret ?_; obtain ⟨hz528, hF⟩ := grd_some hF; obtain rfl := Option.some.inj hF
                    have e529 := LK_inr hN372; subst e529
                    have e530 := BK_inr hK368; subst e530
                    exact f_ret1 ha rfl rfl ⟨_, hqr3o20_1, qqr3o20_9, (.inr hz528), hE526⟩
                  replace hF := if_f hp527 hF; refine wp_skip ?_; refine e_blk ?_; refine e_then ?_; refine wp_region_lit ?_; obtain ⟨hI531, hF⟩ := ck_some hF; refine op_g ha rfl (g_add rfl rfl hI531) ?_; clear ha a; intro a ha; refine op_g ha rfl (g_move rfl) ?_; clear ha a; intro a ha; refine wpList_nil ?_; replace ha := ha.sub (σ' := [(0, va0), (1, va1), (2, va2), (3, (.int .u32 (BitVec.toNat a3 : Int))), (4, (.int .i64 a4)), (11, (.int .i64 x3)), (28, v28), (29, (.int .i64 (x26.length : Int))), (30, (.int .i64 (i204 + 1))), (55, va1), (56, (.int .i64 x3)), (57, (.pointer (some p490))), (58, (.int .i64 x487)), (59, (.int .i64 x376)), (60, (.bool false)), (63, (.int .u32 (BitVec.toNat a3 : Int))), (64, va1), (65, (.int .i64 x376)), (66, (.pointer (some p505))), (67, (.int .i64 x502)), (68, (.bool x514))]) ⟨rfl, rfl, rfl, rfl, rfl, rfl, rfl, rfl, rfl, rfl, rfl, rfl, rfl, rfl, rfl, rfl, rfl, rfl, rfl, rfl, rfl, trivial⟩
                  refine e_lq ?_; obtain rfl := Option.some.inj hF
                  exact ⟨_, Nat.lt_succ_self _, i204 + 1, ha.sub ⟨rfl, rfl, rfl, rfl, rfl, rfl, rfl, rfl, rfl, trivial⟩, hE526, hI531, h202, z203, hN372⟩
                skip
                replace h202 := h202.ext hxqr3o8_1
                replace hqr3o7_1 := hqr3o7_1.ext hxqr3o8_1
                replace hqr3o8_1 := hqr3o8_1.ext hxqr3o8_1
                have hEqr3o16_1 := Ext.trans hEqr3o8_2 hxqr3o8_1
                have qqr3o16_1 := bel_step qqr3o8_8 hxqr3o8_1
                refine op_g ha rfl (g_load0 hEqr3o16_1 Tryd.isAgg3 rfl hatqr3o15_1.one) ?_; clear ha a; intro a ha; refine wpList_nil (e_sq ?_)
                have hStqr3o16_1 : RowKit.Below W.heap.size wqr3o8_2 wqr3o8_2 := RowKit.Below.refl _ _
                refine ⟨fun _ => hStqr3o16_1, ?_⟩
                have qqr3o16_2 := RowKit.Below.trans qqr3o16_1 hStqr3o16_1
                refine x_only 11 rfl (by kernel_rfl) ?_; intro wqr3o11_1 hxqr3o11_1
                replace h202 := h202.ext hxqr3o11_1
                replace hqr3o7_1 := hqr3o7_1.ext hxqr3o11_1
                replace hqr3o8_1 := hqr3o8_1.ext hxqr3o11_1
                have hEqr3o11_1 := Ext.trans hEqr3o16_1 hxqr3o11_1
                have qqr3o11_1 := bel_step qqr3o16_2 hxqr3o11_1
                refine o_call ha rfl rfl Tryd.call41 (W_impl_one hI387 hcqr3o11_1) ?_; clear ha a; rintro vqr3o11_1 wqr3o11_2 ⟨rfl, hxqr3o11_2⟩ a ha
                replace h202 := h202.ext hxqr3o11_2
                replace hqr3o7_1 := hqr3o7_1.ext hxqr3o11_2
                replace hqr3o8_1 := hqr3o8_1.ext hxqr3o11_2
                have hEqr3o11_2 := Ext.trans hEqr3o11_1 hxqr3o11_2
                refine wpList_nil (e_sq ?_)
                have hStqr3o11_1 : RowKit.Below W.heap.size wqr3o11_1 wqr3o11_2 := ext_bel qqr3o11_1.size hxqr3o11_2
                refine ⟨fun _ => hStqr3o11_1, ?_⟩
                have qqr3o11_2 := RowKit.Below.trans qqr3o11_1 hStqr3o11_1
                refine x_g 12 rfl (by kernel_rfl) (want0 _) ha rfl qqr3o11_2 (g32_or (m := a3) (n := xqr3o11_1) rfl rfl) ?_; clear ha a; intro a ha
                refine x_only 17 rfl (by kernel_rfl) ?_; intro wqr3o17_1 hxqr3o17_1
                replace h202 := h202.ext hxqr3o17_1
                replace hqr3o7_1 := hqr3o7_1.ext hxqr3o17_1
                replace hqr3o8_1 := hqr3o8_1.ext hxqr3o17_1
                have hEqr3o17_1 := Ext.trans hEqr3o11_2 hxqr3o17_1
                have qqr3o17_1 := bel_step qqr3o11_2 hxqr3o17_1
                refine o_call ha rfl rfl Tryd.call41 (W_impl_one hIqr3o15_1 hcqr3o17_1) ?_; clear ha a; rintro vqr3o17_1 wqr3o17_2 ⟨rfl, hxqr3o17_2⟩ a ha
                replace h202 := h202.ext hxqr3o17_2
                replace hqr3o7_1 := hqr3o7_1.ext hxqr3o17_2
                replace hqr3o8_1 := hqr3o8_1.ext hxqr3o17_2
                have hEqr3o17_2 := Ext.trans hEqr3o17_1 hxqr3o17_2
                refine wpList_nil (e_sq ?_)
                have hStqr3o17_1 : RowKit.Below W.heap.size wqr3o17_1 wqr3o17_2 := ext_bel qqr3o17_1.size hxqr3o17_2
                refine ⟨fun _ => hStqr3o17_1, ?_⟩
                have qqr3o17_2 := RowKit.Below.trans qqr3o17_1 hStqr3o17_1
                refine x_g 18 rfl (by kernel_rfl) (want0 _) ha rfl qqr3o17_2 (g32_or (m := (a3 ||| xqr3o11_1)) (n := xqr3o17_1) rfl rfl) ?_; clear ha a; intro a ha
                refine x_only 20 rfl (by kernel_rfl) ?_; intro wqr3o20_1 hxqr3o20_1
                replace h202 := h202.ext hxqr3o20_1
                replace hqr3o7_1 := hqr3o7_1.ext hxqr3o20_1
                replace hqr3o8_1 := hqr3o8_1.ext hxqr3o20_1
                have hEqr3o20_1 := Ext.trans hEqr3o17_2 hxqr3o20_1
                have qqr3o20_1 := bel_step qqr3o17_2 hxqr3o20_1
                obtain ⟨fpqr3o20_1, hroqr3o20_1, hsqr3o20_1⟩ := hqr3o8_1.roF
                refine o_call ha rfl rfl Tryd.call40 (ih (ha0.ext hEqr3o20_1) (ha1.ext hEqr3o20_1) hroqr3o20_1 ha4 (hG.ext hEqr3o20_1) hcqr3o20_1) ?_; clear ha a; rintro vqr3o20_1 wqr3o20_2 ⟨bqr3o20_1, hqr3o20_1, zqr3o20_1, hzqr3o20_1, hxqr3o20_2⟩ a ha
                have qqr3o20_2 := Zn.upB zqr3o20_1 qqr3o20_1
                have qqr3o20_3 := Nq.new h202.fpb zqr3o20_1
                have qqr3o20_4 := Nq.madeO zqr3o20_1 h202.blt
                have qqr3o20_5 := Nq.new hqr3o7_1.fpb zqr3o20_1
                have qqr3o20_6 := Nq.madeO zqr3o20_1 hqr3o7_1.blt
                have qqr3o20_7 := Nq.new hqr3o8_1.fpb zqr3o20_1
                have qqr3o20_8 := Nq.madeO zqr3o20_1 hqr3o8_1.blt
                replace h202 := h202.ext hxqr3o20_2
                replace hqr3o7_1 := hqr3o7_1.ext hxqr3o20_2
                replace hqr3o8_1 := hqr3o8_1.ext hxqr3o20_2
                have hEqr3o20_2 := Ext.trans hEqr3o20_1 hxqr3o20_2
                have qqr3o20_9 := Zn.upD zqr3o20_1 hEqr3o20_1
                refine wpList_nil (e_sq ?_)
                have hStqr3o20_1 : RowKit.Below W.heap.size wqr3o20_1 wqr3o20_2 := ext_bel qqr3o20_1.size hxqr3o20_2
                refine ⟨fun _ => hStqr3o20_1, ?_⟩
                have qqr3o20_10 := RowKit.Below.trans qqr3o20_1 hStqr3o20_1
                refine x_g 21 rfl (by kernel_rfl) (want0 _) ha rfl qqr3o20_10 (g_assign rfl) ?_; clear ha a; intro a ha
                refine x_done (by kernel_rfl) ?_; intro w524 hx525
                replace h202 := h202.ext hx525
                replace hqr3o7_1 := hqr3o7_1.ext hx525
                replace hqr3o8_1 := hqr3o8_1.ext hx525
                replace hqr3o20_1 := hqr3o20_1.ext hx525
                have hE526 := Ext.trans hEqr3o20_2 hx525
                replace ha := ha.sub (σ' := [(0, va0), (1, va1), (2, va2), (3, (.int .u32 (BitVec.toNat a3 : Int))), (4, (.int .i64 a4)), (11, (.int .i64 x3)), (15, vqr3o20_1), (28, v28), (29, (.int .i64 (x26.length : Int))), (30, (.int .i64 i204)), (55, va1), (56, (.int .i64 x3)), (57, (.pointer (some p490))), (58, (.int .i64 x487)), (59, (.int .i64 x376)), (60, (.bool false)), (63, (.int .u32 (BitVec.toNat a3 : Int))), (64, va1), (65, (.int .i64 x376)), (66, (.pointer (some p505))), (67, (.int .i64 x502)), (68, (.bool x514))]) ⟨rfl, rfl, rfl, rfl, rfl, rfl, rfl, rfl, rfl, rfl, rfl, rfl, rfl, rfl, rfl, rfl, rfl, rfl, rfl, rfl, rfl, rfl, trivial⟩
                refine e_then ?_; refine wp_seq ?_; refine wp_region_lit ?_; refine op_g ha rfl (g_move rfl) ?_; clear ha a; intro a ha; refine op_g ha rfl (g_nnilz sl53.und rfl hqr3o20_1 hzqr3o20_1) ?_; clear ha a; intro a ha; refine wpList_nil ?_; replace ha := ha.sub (σ' := [(0, va0), (1, va1), (2, va2), (3, (.int .u32 (BitVec.toNat a3 : Int))), (4, (.int .i64 a4)), (11, (.int .i64 x3)), (15, vqr3o20_1), (28, v28), (29, (.int .i64 (x26.length : Int))), (30, (.int .i64 i204)), (55, va1), (56, (.int .i64 x3)), (57, (.pointer (some p490))), (58, (.int .i64 x487)), (59, (.int .i64 x376)), (60, (.bool false)), (63, (.int .u32 (BitVec.toNat a3 : Int))), (64, va1), (65, (.int .i64 x376)), (66, (.pointer (some p505))), (67, (.int .i64 x502)), (68, (.bool x514)), (92, (.bool (!(List.isEmpty xqr3o20_1))))]) ⟨rfl, rfl, rfl, rfl, rfl, rfl, rfl, rfl, rfl, rfl, rfl, rfl, rfl, rfl, rfl, rfl, rfl, rfl, rfl, rfl, rfl, rfl, rfl, trivial⟩
                refine e_then ?_; refine c_cond (¬ (xqr3o20_1 = [])) ha rfl (n_iff (List.isEmpty_iff)) (fun hp527 => ?_) (fun hp527 => ?_)
                · replace hF := if_t hp527 hF
                  refine wp_seq ?_; refine wp_region_lit ?_; refine op_g ha rfl (g_move rfl) ?_; clear ha a; intro a ha; refine op_g ha rfl (g_assign rfl) ?_; clear ha a; intro a ha; refine wpList_nil ?_; replace ha := ha.sub (σ' := [(10, vqr3o20_1)]) ⟨rfl, trivial⟩; refine e_then ?_; refine wp_ret ?_; refine e_blk_ret ?_; refine e_then_ret ?_; refine e_lq_ret ?_; refine e_then_ret ?_; obtain ⟨hz528, hF⟩ := grd_some hF; obtain rfl := Option.some.inj hF
                  have e529 := LK_inr hN372; subst e529
                  have e530 := BK_inr hK368; subst e530
                  exact f_ret1 ha rfl rfl ⟨_, hqr3o20_1, qqr3o20_9, (.inr hz528), hE526⟩
                replace hF := if_f hp527 hF; refine wp_skip ?_; refine e_blk ?_; refine e_then ?_; refine wp_region_lit ?_; obtain ⟨hI531, hF⟩ := ck_some hF; refine op_g ha rfl (g_add rfl rfl hI531) ?_; clear ha a; intro a ha; refine op_g ha rfl (g_move rfl) ?_; clear ha a; intro a ha; refine wpList_nil ?_; replace ha := ha.sub (σ' := [(0, va0), (1, va1), (2, va2), (3, (.int .u32 (BitVec.toNat a3 : Int))), (4, (.int .i64 a4)), (11, (.int .i64 x3)), (28, v28), (29, (.int .i64 (x26.length : Int))), (30, (.int .i64 (i204 + 1))), (55, va1), (56, (.int .i64 x3)), (57, (.pointer (some p490))), (58, (.int .i64 x487)), (59, (.int .i64 x376)), (60, (.bool false)), (63, (.int .u32 (BitVec.toNat a3 : Int))), (64, va1), (65, (.int .i64 x376)), (66, (.pointer (some p505))), (67, (.int .i64 x502)), (68, (.bool x514))]) ⟨rfl, rfl, rfl, rfl, rfl, rfl, rfl, rfl, rfl, rfl, rfl, rfl, rfl, rfl, rfl, rfl, rfl, rfl, rfl, rfl, rfl, trivial⟩
                refine e_lq ?_; obtain rfl := Option.some.inj hF
                exact ⟨_, Nat.lt_succ_self _, i204 + 1, ha.sub ⟨rfl, rfl, rfl, rfl, rfl, rfl, rfl, rfl, rfl, trivial⟩, hE526, hI531, h202, z203, hN372⟩
              skip
              replace h202 := h202.ext hxqr3o7_2
              replace h418 := h418.ext hxqr3o7_2
              replace hqr3o7_1 := hqr3o7_1.ext hxqr3o7_2
              have hEqr3o16_1 := Ext.trans hEqr3o7_2 hxqr3o7_2
              have qqr3o16_1 := bel_step qqr3o7_9 hxqr3o7_2
              refine op_g ha rfl (g_load0 hEqr3o16_1 Tryd.isAgg3 rfl hatqr3o15_1.one) ?_; clear ha a; intro a ha; refine wpList_nil (e_sq ?_)
              have hStqr3o16_1 : RowKit.Below W.heap.size wqr3o7_2 wqr3o7_2 := RowKit.Below.refl _ _
              refine ⟨fun _ => hStqr3o16_1, ?_⟩
              have qqr3o16_2 := RowKit.Below.trans qqr3o16_1 hStqr3o16_1
              refine x_only 8 rfl (by kernel_rfl) ?_; intro wqr3o8_1 hxqr3o8_1
              replace h202 := h202.ext hxqr3o8_1
              replace h418 := h418.ext hxqr3o8_1
              replace hqr3o7_1 := hqr3o7_1.ext hxqr3o8_1
              have hEqr3o8_1 := Ext.trans hEqr3o16_1 hxqr3o8_1
              have qqr3o8_1 := bel_step qqr3o16_2 hxqr3o8_1
              refine o_append ha rfl sl53 rfl rfl rfl h418 hqr3o7_1.src (Nq.nil _) hlqr3o8_1 ?_; clear ha a; intro vqr3o8_1 wqr3o8_2 bqr3o8_1 hqr3o8_1 hcqr3o8_1 hbqr3o8_1 a ha
              replace hqr3o8_1 : Ow Rp.int 3 true wqr3o8_2 [] bqr3o8_1 vqr3o8_1 _ := hqr3o8_1
              have qqr3o8_2 := Nq.appY q422 h202.fpb hbqr3o8_1
              have qqr3o8_3 := Nq.appX q423 (Nq.nil _) hbqr3o8_1 h202.blt
              have qqr3o8_4 := Nq.appY qqr3o7_6 hqr3o7_1.fpb hbqr3o8_1
              have qqr3o8_5 := Nq.appX qqr3o7_5 (Nq.nil _) hbqr3o8_1 hqr3o7_1.blt
              have qqr3o8_6 := Zn.appD q426 hbqr3o8_1 hEqr3o8_1
              have qqr3o8_7 := Zn.appB q426 hbqr3o8_1 qqr3o8_1
              replace h202 := h202.nq hcqr3o8_1 q422
              replace hqr3o7_1 := hqr3o7_1.nq hcqr3o8_1 qqr3o7_6
              have hEqr3o8_2 := Ext.then hEqr3o8_1 hcqr3o8_1 (Zn.bl q426)
              refine wpList_nil (e_sq ?_)
              have hStqr3o8_1 : RowKit.Below W.heap.size wqr3o8_1 wqr3o8_2 := chg_bel hcqr3o8_1 qqr3o8_1.size (Zn.bl q426)
              refine ⟨fun _ => hStqr3o8_1, ?_⟩
              have qqr3o8_8 := RowKit.Below.trans qqr3o8_1 hStqr3o8_1
              refine x_only 11 rfl (by kernel_rfl) ?_; intro wqr3o11_1 hxqr3o11_1
              replace h202 := h202.ext hxqr3o11_1
              replace hqr3o7_1 := hqr3o7_1.ext hxqr3o11_1
              replace hqr3o8_1 := hqr3o8_1.ext hxqr3o11_1
              have hEqr3o11_1 := Ext.trans hEqr3o8_2 hxqr3o11_1
              have qqr3o11_1 := bel_step qqr3o8_8 hxqr3o11_1
              refine o_call ha rfl rfl Tryd.call41 (W_impl_one hI387 hcqr3o11_1) ?_; clear ha a; rintro vqr3o11_1 wqr3o11_2 ⟨rfl, hxqr3o11_2⟩ a ha
              replace h202 := h202.ext hxqr3o11_2
              replace hqr3o7_1 := hqr3o7_1.ext hxqr3o11_2
              replace hqr3o8_1 := hqr3o8_1.ext hxqr3o11_2
              have hEqr3o11_2 := Ext.trans hEqr3o11_1 hxqr3o11_2
              refine wpList_nil (e_sq ?_)
              have hStqr3o11_1 : RowKit.Below W.heap.size wqr3o11_1 wqr3o11_2 := ext_bel qqr3o11_1.size hxqr3o11_2
              refine ⟨fun _ => hStqr3o11_1, ?_⟩
              have qqr3o11_2 := RowKit.Below.trans qqr3o11_1 hStqr3o11_1
              refine x_g 12 rfl (by kernel_rfl) (want0 _) ha rfl qqr3o11_2 (g32_or (m := a3) (n := xqr3o11_1) rfl rfl) ?_; clear ha a; intro a ha
              refine x_only 17 rfl (by kernel_rfl) ?_; intro wqr3o17_1 hxqr3o17_1
              replace h202 := h202.ext hxqr3o17_1
              replace hqr3o7_1 := hqr3o7_1.ext hxqr3o17_1
              replace hqr3o8_1 := hqr3o8_1.ext hxqr3o17_1
              have hEqr3o17_1 := Ext.trans hEqr3o11_2 hxqr3o17_1
              have qqr3o17_1 := bel_step qqr3o11_2 hxqr3o17_1
              refine o_call ha rfl rfl Tryd.call41 (W_impl_one hIqr3o15_1 hcqr3o17_1) ?_; clear ha a; rintro vqr3o17_1 wqr3o17_2 ⟨rfl, hxqr3o17_2⟩ a ha
              replace h202 := h202.ext hxqr3o17_2
              replace hqr3o7_1 := hqr3o7_1.ext hxqr3o17_2
              replace hqr3o8_1 := hqr3o8_1.ext hxqr3o17_2
              have hEqr3o17_2 := Ext.trans hEqr3o17_1 hxqr3o17_2
              refine wpList_nil (e_sq ?_)
              have hStqr3o17_1 : RowKit.Below W.heap.size wqr3o17_1 wqr3o17_2 := ext_bel qqr3o17_1.size hxqr3o17_2
              refine ⟨fun _ => hStqr3o17_1, ?_⟩
              have qqr3o17_2 := RowKit.Below.trans qqr3o17_1 hStqr3o17_1
              refine x_g 18 rfl (by kernel_rfl) (want0 _) ha rfl qqr3o17_2 (g32_or (m := (a3 ||| xqr3o11_1)) (n := xqr3o17_1) rfl rfl) ?_; clear ha a; intro a ha
              refine x_only 20 rfl (by kernel_rfl) ?_; intro wqr3o20_1 hxqr3o20_1
              replace h202 := h202.ext hxqr3o20_1
              replace hqr3o7_1 := hqr3o7_1.ext hxqr3o20_1
              replace hqr3o8_1 := hqr3o8_1.ext hxqr3o20_1
              have hEqr3o20_1 := Ext.trans hEqr3o17_2 hxqr3o20_1
              have qqr3o20_1 := bel_step qqr3o17_2 hxqr3o20_1
              obtain ⟨fpqr3o20_1, hroqr3o20_1, hsqr3o20_1⟩ := hqr3o8_1.roF
              refine o_call ha rfl rfl Tryd.call40 (ih (ha0.ext hEqr3o20_1) (ha1.ext hEqr3o20_1) hroqr3o20_1 ha4 (hG.ext hEqr3o20_1) hcqr3o20_1) ?_; clear ha a; rintro vqr3o20_1 wqr3o20_2 ⟨bqr3o20_1, hqr3o20_1, zqr3o20_1, hzqr3o20_1, hxqr3o20_2⟩ a ha
              have qqr3o20_2 := Zn.upB zqr3o20_1 qqr3o20_1
              have qqr3o20_3 := Nq.new h202.fpb zqr3o20_1
              have qqr3o20_4 := Nq.madeO zqr3o20_1 h202.blt
              have qqr3o20_5 := Nq.new hqr3o7_1.fpb zqr3o20_1
              have qqr3o20_6 := Nq.madeO zqr3o20_1 hqr3o7_1.blt
              have qqr3o20_7 := Nq.new hqr3o8_1.fpb zqr3o20_1
              have qqr3o20_8 := Nq.madeO zqr3o20_1 hqr3o8_1.blt
              replace h202 := h202.ext hxqr3o20_2
              replace hqr3o7_1 := hqr3o7_1.ext hxqr3o20_2
              replace hqr3o8_1 := hqr3o8_1.ext hxqr3o20_2
              have hEqr3o20_2 := Ext.trans hEqr3o20_1 hxqr3o20_2
              have qqr3o20_9 := Zn.upD zqr3o20_1 hEqr3o20_1
              refine wpList_nil (e_sq ?_)
              have hStqr3o20_1 : RowKit.Below W.heap.size wqr3o20_1 wqr3o20_2 := ext_bel qqr3o20_1.size hxqr3o20_2
              refine ⟨fun _ => hStqr3o20_1, ?_⟩
              have qqr3o20_10 := RowKit.Below.trans qqr3o20_1 hStqr3o20_1
              refine x_g 21 rfl (by kernel_rfl) (want0 _) ha rfl qqr3o20_10 (g_assign rfl) ?_; clear ha a; intro a ha
              refine x_done (by kernel_rfl) ?_; intro w524 hx525
              replace h202 := h202.ext hx525
              replace hqr3o7_1 := hqr3o7_1.ext hx525
              replace hqr3o8_1 := hqr3o8_1.ext hx525
              replace hqr3o20_1 := hqr3o20_1.ext hx525
              have hE526 := Ext.trans hEqr3o20_2 hx525
              replace ha := ha.sub (σ' := [(0, va0), (1, va1), (2, va2), (3, (.int .u32 (BitVec.toNat a3 : Int))), (4, (.int .i64 a4)), (11, (.int .i64 x3)), (15, vqr3o20_1), (28, v28), (29, (.int .i64 (x26.length : Int))), (30, (.int .i64 i204)), (55, va1), (56, (.int .i64 x3)), (57, (.pointer (some p490))), (58, (.int .i64 x487)), (59, (.int .i64 x376)), (60, (.bool false)), (63, (.int .u32 (BitVec.toNat a3 : Int))), (64, va1), (65, (.int .i64 x376)), (66, (.pointer (some p505))), (67, (.int .i64 x502)), (68, (.bool x514))]) ⟨rfl, rfl, rfl, rfl, rfl, rfl, rfl, rfl, rfl, rfl, rfl, rfl, rfl, rfl, rfl, rfl, rfl, rfl, rfl, rfl, rfl, rfl, trivial⟩
              refine e_then ?_; refine wp_seq ?_; refine wp_region_lit ?_; refine op_g ha rfl (g_move rfl) ?_; clear ha a; intro a ha; refine op_g ha rfl (g_nnilz sl53.und rfl hqr3o20_1 hzqr3o20_1) ?_; clear ha a; intro a ha; refine wpList_nil ?_; replace ha := ha.sub (σ' := [(0, va0), (1, va1), (2, va2), (3, (.int .u32 (BitVec.toNat a3 : Int))), (4, (.int .i64 a4)), (11, (.int .i64 x3)), (15, vqr3o20_1), (28, v28), (29, (.int .i64 (x26.length : Int))), (30, (.int .i64 i204)), (55, va1), (56, (.int .i64 x3)), (57, (.pointer (some p490))), (58, (.int .i64 x487)), (59, (.int .i64 x376)), (60, (.bool false)), (63, (.int .u32 (BitVec.toNat a3 : Int))), (64, va1), (65, (.int .i64 x376)), (66, (.pointer (some p505))), (67, (.int .i64 x502)), (68, (.bool x514)), (92, (.bool (!(List.isEmpty xqr3o20_1))))]) ⟨rfl, rfl, rfl, rfl, rfl, rfl, rfl, rfl, rfl, rfl, rfl, rfl, rfl, rfl, rfl, rfl, rfl, rfl, rfl, rfl, rfl, rfl, rfl, trivial⟩
              refine e_then ?_; refine c_cond (¬ (xqr3o20_1 = [])) ha rfl (n_iff (List.isEmpty_iff)) (fun hp527 => ?_) (fun hp527 => ?_)
              · replace hF := if_t hp527 hF
                refine wp_seq ?_; refine wp_region_lit ?_; refine op_g ha rfl (g_move rfl) ?_; clear ha a; intro a ha; refine op_g ha rfl (g_assign rfl) ?_; clear ha a; intro a ha; refine wpList_nil ?_; replace ha := ha.sub (σ' := [(10, vqr3o20_1)]) ⟨rfl, trivial⟩; refine e_then ?_; refine wp_ret ?_; refine e_blk_ret ?_; refine e_then_ret ?_; refine e_lq_ret ?_; refine e_then_ret ?_; obtain ⟨hz528, hF⟩ := grd_some hF; obtain rfl := Option.some.inj hF
                have e529 := LK_inr hN372; subst e529
                have e530 := BK_inr hK368; subst e530
                exact f_ret1 ha rfl rfl ⟨_, hqr3o20_1, qqr3o20_9, (.inr hz528), hE526⟩
              replace hF := if_f hp527 hF; refine wp_skip ?_; refine e_blk ?_; refine e_then ?_; refine wp_region_lit ?_; obtain ⟨hI531, hF⟩ := ck_some hF; refine op_g ha rfl (g_add rfl rfl hI531) ?_; clear ha a; intro a ha; refine op_g ha rfl (g_move rfl) ?_; clear ha a; intro a ha; refine wpList_nil ?_; replace ha := ha.sub (σ' := [(0, va0), (1, va1), (2, va2), (3, (.int .u32 (BitVec.toNat a3 : Int))), (4, (.int .i64 a4)), (11, (.int .i64 x3)), (28, v28), (29, (.int .i64 (x26.length : Int))), (30, (.int .i64 (i204 + 1))), (55, va1), (56, (.int .i64 x3)), (57, (.pointer (some p490))), (58, (.int .i64 x487)), (59, (.int .i64 x376)), (60, (.bool false)), (63, (.int .u32 (BitVec.toNat a3 : Int))), (64, va1), (65, (.int .i64 x376)), (66, (.pointer (some p505))), (67, (.int .i64 x502)), (68, (.bool x514))]) ⟨rfl, rfl, rfl, rfl, rfl, rfl, rfl, rfl, rfl, rfl, rfl, rfl, rfl, rfl, rfl, rfl, rfl, rfl, rfl, rfl, rfl, trivial⟩
              refine e_lq ?_; obtain rfl := Option.some.inj hF
              exact ⟨_, Nat.lt_succ_self _, i204 + 1, ha.sub ⟨rfl, rfl, rfl, rfl, rfl, rfl, rfl, rfl, rfl, trivial⟩, hE526, hI531, h202, z203, hN372⟩
            skip
            replace h202 := h202.ext hxqr3o6_1
            replace h418 := h418.ext hxqr3o6_1
            have hEqr3o16_1 := Ext.trans hEqr3o6_1 hxqr3o6_1
            have qqr3o16_1 := bel_step qqr3o6_2 hxqr3o6_1
            refine op_g ha rfl (g_load0 hEqr3o16_1 Tryd.isAgg3 rfl hatqr3o15_1.one) ?_; clear ha a; intro a ha; refine wpList_nil (e_sq ?_)
            have hStqr3o16_1 : RowKit.Below W.heap.size wqr3o6_1 wqr3o6_1 := RowKit.Below.refl _ _
            refine ⟨fun _ => hStqr3o16_1, ?_⟩
            have qqr3o16_2 := RowKit.Below.trans qqr3o16_1 hStqr3o16_1
            refine x_only 7 rfl (by kernel_rfl) ?_; intro wqr3o7_1 hxqr3o7_1
            replace h202 := h202.ext hxqr3o7_1
            replace h418 := h418.ext hxqr3o7_1
            have hEqr3o7_1 := Ext.trans hEqr3o16_1 hxqr3o7_1
            have qqr3o7_1 := bel_step qqr3o16_2 hxqr3o7_1
            refine o_lit1 (o := true) (y := xqr3o5_1) Rp.int ha rfl sl53 rfl rfl rfl ⟨rfl, hIqr3o5_1, rfl⟩ ?_; clear ha a; intro vqr3o7_1 wqr3o7_2 hqr3o7_1 hxqr3o7_2 a ha
            obtain ⟨bqr3o7_1, hbqr3o7_1⟩ : ∃ b : Int, b = wqr3o7_1.heap.size := ⟨_, rfl⟩; rw [← hbqr3o7_1] at hqr3o7_1
            have qqr3o7_2 := zn_of hbqr3o7_1
            have qqr3o7_3 := Nq.new h202.fpb qqr3o7_2
            have qqr3o7_4 := Nq.madeO qqr3o7_2 h202.blt
            have qqr3o7_5 := Nq.new h418.fpb qqr3o7_2
            have qqr3o7_6 := Nq.madeO qqr3o7_2 h418.blt
            have qqr3o7_7 := Zn.upD qqr3o7_2 hEqr3o7_1
            have qqr3o7_8 := Zn.upB qqr3o7_2 qqr3o7_1
            replace h202 := h202.ext hxqr3o7_2
            replace h418 := h418.ext hxqr3o7_2
            have hEqr3o7_2 := Ext.trans hEqr3o7_1 hxqr3o7_2
            refine wpList_nil (e_sq ?_)
            have hStqr3o7_1 : RowKit.Below W.heap.size wqr3o7_1 wqr3o7_2 := ext_bel qqr3o7_1.size hxqr3o7_2
            refine ⟨fun _ => hStqr3o7_1, ?_⟩
            have qqr3o7_9 := RowKit.Below.trans qqr3o7_1 hStqr3o7_1
            refine x_only 8 rfl (by kernel_rfl) ?_; intro wqr3o8_1 hxqr3o8_1
            replace h202 := h202.ext hxqr3o8_1
            replace h418 := h418.ext hxqr3o8_1
            replace hqr3o7_1 := hqr3o7_1.ext hxqr3o8_1
            have hEqr3o8_1 := Ext.trans hEqr3o7_2 hxqr3o8_1
            have qqr3o8_1 := bel_step qqr3o7_9 hxqr3o8_1
            refine o_append ha rfl sl53 rfl rfl rfl h418 hqr3o7_1.src (Nq.nil _) hlqr3o8_1 ?_; clear ha a; intro vqr3o8_1 wqr3o8_2 bqr3o8_1 hqr3o8_1 hcqr3o8_1 hbqr3o8_1 a ha
            replace hqr3o8_1 : Ow Rp.int 3 true wqr3o8_2 [] bqr3o8_1 vqr3o8_1 _ := hqr3o8_1
            have qqr3o8_2 := Nq.appY q422 h202.fpb hbqr3o8_1
            have qqr3o8_3 := Nq.appX q423 (Nq.nil _) hbqr3o8_1 h202.blt
            have qqr3o8_4 := Nq.appY qqr3o7_6 hqr3o7_1.fpb hbqr3o8_1
            have qqr3o8_5 := Nq.appX qqr3o7_5 (Nq.nil _) hbqr3o8_1 hqr3o7_1.blt
            have qqr3o8_6 := Zn.appD q426 hbqr3o8_1 hEqr3o8_1
            have qqr3o8_7 := Zn.appB q426 hbqr3o8_1 qqr3o8_1
            replace h202 := h202.nq hcqr3o8_1 q422
            replace hqr3o7_1 := hqr3o7_1.nq hcqr3o8_1 qqr3o7_6
            have hEqr3o8_2 := Ext.then hEqr3o8_1 hcqr3o8_1 (Zn.bl q426)
            refine wpList_nil (e_sq ?_)
            have hStqr3o8_1 : RowKit.Below W.heap.size wqr3o8_1 wqr3o8_2 := chg_bel hcqr3o8_1 qqr3o8_1.size (Zn.bl q426)
            refine ⟨fun _ => hStqr3o8_1, ?_⟩
            have qqr3o8_8 := RowKit.Below.trans qqr3o8_1 hStqr3o8_1
            refine x_only 11 rfl (by kernel_rfl) ?_; intro wqr3o11_1 hxqr3o11_1
            replace h202 := h202.ext hxqr3o11_1
            replace hqr3o7_1 := hqr3o7_1.ext hxqr3o11_1
            replace hqr3o8_1 := hqr3o8_1.ext hxqr3o11_1
            have hEqr3o11_1 := Ext.trans hEqr3o8_2 hxqr3o11_1
            have qqr3o11_1 := bel_step qqr3o8_8 hxqr3o11_1
            refine o_call ha rfl rfl Tryd.call41 (W_impl_one hI387 hcqr3o11_1) ?_; clear ha a; rintro vqr3o11_1 wqr3o11_2 ⟨rfl, hxqr3o11_2⟩ a ha
            replace h202 := h202.ext hxqr3o11_2
            replace hqr3o7_1 := hqr3o7_1.ext hxqr3o11_2
            replace hqr3o8_1 := hqr3o8_1.ext hxqr3o11_2
            have hEqr3o11_2 := Ext.trans hEqr3o11_1 hxqr3o11_2
            refine wpList_nil (e_sq ?_)
            have hStqr3o11_1 : RowKit.Below W.heap.size wqr3o11_1 wqr3o11_2 := ext_bel qqr3o11_1.size hxqr3o11_2
            refine ⟨fun _ => hStqr3o11_1, ?_⟩
            have qqr3o11_2 := RowKit.Below.trans qqr3o11_1 hStqr3o11_1
            refine x_g 12 rfl (by kernel_rfl) (want0 _) ha rfl qqr3o11_2 (g32_or (m := a3) (n := xqr3o11_1) rfl rfl) ?_; clear ha a; intro a ha
            refine x_only 17 rfl (by kernel_rfl) ?_; intro wqr3o17_1 hxqr3o17_1
            replace h202 := h202.ext hxqr3o17_1
            replace hqr3o7_1 := hqr3o7_1.ext hxqr3o17_1
            replace hqr3o8_1 := hqr3o8_1.ext hxqr3o17_1
            have hEqr3o17_1 := Ext.trans hEqr3o11_2 hxqr3o17_1
            have qqr3o17_1 := bel_step qqr3o11_2 hxqr3o17_1
            refine o_call ha rfl rfl Tryd.call41 (W_impl_one hIqr3o15_1 hcqr3o17_1) ?_; clear ha a; rintro vqr3o17_1 wqr3o17_2 ⟨rfl, hxqr3o17_2⟩ a ha
            replace h202 := h202.ext hxqr3o17_2
            replace hqr3o7_1 := hqr3o7_1.ext hxqr3o17_2
            replace hqr3o8_1 := hqr3o8_1.ext hxqr3o17_2
            have hEqr3o17_2 := Ext.trans hEqr3o17_1 hxqr3o17_2
            refine wpList_nil (e_sq ?_)
            have hStqr3o17_1 : RowKit.Below W.heap.size wqr3o17_1 wqr3o17_2 := ext_bel qqr3o17_1.size hxqr3o17_2
            refine ⟨fun _ => hStqr3o17_1, ?_⟩
            have qqr3o17_2 := RowKit.Below.trans qqr3o17_1 hStqr3o17_1
            refine x_g 18 rfl (by kernel_rfl) (want0 _) ha rfl qqr3o17_2 (g32_or (m := (a3 ||| xqr3o11_1)) (n := xqr3o17_1) rfl rfl) ?_; clear ha a; intro a ha
            refine x_only 20 rfl (by kernel_rfl) ?_; intro wqr3o20_1 hxqr3o20_1
            replace h202 := h202.ext hxqr3o20_1
            replace hqr3o7_1 := hqr3o7_1.ext hxqr3o20_1
            replace hqr3o8_1 := hqr3o8_1.ext hxqr3o20_1
            have hEqr3o20_1 := Ext.trans hEqr3o17_2 hxqr3o20_1
            have qqr3o20_1 := bel_step qqr3o17_2 hxqr3o20_1
            obtain ⟨fpqr3o20_1, hroqr3o20_1, hsqr3o20_1⟩ := hqr3o8_1.roF
            refine o_call ha rfl rfl Tryd.call40 (ih (ha0.ext hEqr3o20_1) (ha1.ext hEqr3o20_1) hroqr3o20_1 ha4 (hG.ext hEqr3o20_1) hcqr3o20_1) ?_; clear ha a; rintro vqr3o20_1 wqr3o20_2 ⟨bqr3o20_1, hqr3o20_1, zqr3o20_1, hzqr3o20_1, hxqr3o20_2⟩ a ha
            have qqr3o20_2 := Zn.upB zqr3o20_1 qqr3o20_1
            have qqr3o20_3 := Nq.new h202.fpb zqr3o20_1
            have qqr3o20_4 := Nq.madeO zqr3o20_1 h202.blt
            have qqr3o20_5 := Nq.new hqr3o7_1.fpb zqr3o20_1
            have qqr3o20_6 := Nq.madeO zqr3o20_1 hqr3o7_1.blt
            have qqr3o20_7 := Nq.new hqr3o8_1.fpb zqr3o20_1
            have qqr3o20_8 := Nq.madeO zqr3o20_1 hqr3o8_1.blt
            replace h202 := h202.ext hxqr3o20_2
            replace hqr3o7_1 := hqr3o7_1.ext hxqr3o20_2
            replace hqr3o8_1 := hqr3o8_1.ext hxqr3o20_2
            have hEqr3o20_2 := Ext.trans hEqr3o20_1 hxqr3o20_2
            have qqr3o20_9 := Zn.upD zqr3o20_1 hEqr3o20_1
            refine wpList_nil (e_sq ?_)
            have hStqr3o20_1 : RowKit.Below W.heap.size wqr3o20_1 wqr3o20_2 := ext_bel qqr3o20_1.size hxqr3o20_2
            refine ⟨fun _ => hStqr3o20_1, ?_⟩
            have qqr3o20_10 := RowKit.Below.trans qqr3o20_1 hStqr3o20_1
            refine x_g 21 rfl (by kernel_rfl) (want0 _) ha rfl qqr3o20_10 (g_assign rfl) ?_; clear ha a; intro a ha
            refine x_done (by kernel_rfl) ?_; intro w524 hx525
            replace h202 := h202.ext hx525
            replace hqr3o7_1 := hqr3o7_1.ext hx525
            replace hqr3o8_1 := hqr3o8_1.ext hx525
            replace hqr3o20_1 := hqr3o20_1.ext hx525
            have hE526 := Ext.trans hEqr3o20_2 hx525
            replace ha := ha.sub (σ' := [(0, va0), (1, va1), (2, va2), (3, (.int .u32 (BitVec.toNat a3 : Int))), (4, (.int .i64 a4)), (11, (.int .i64 x3)), (15, vqr3o20_1), (28, v28), (29, (.int .i64 (x26.length : Int))), (30, (.int .i64 i204)), (55, va1), (56, (.int .i64 x3)), (57, (.pointer (some p490))), (58, (.int .i64 x487)), (59, (.int .i64 x376)), (60, (.bool false)), (63, (.int .u32 (BitVec.toNat a3 : Int))), (64, va1), (65, (.int .i64 x376)), (66, (.pointer (some p505))), (67, (.int .i64 x502)), (68, (.bool x514))]) ⟨rfl, rfl, rfl, rfl, rfl, rfl, rfl, rfl, rfl, rfl, rfl, rfl, rfl, rfl, rfl, rfl, rfl, rfl, rfl, rfl, rfl, rfl, trivial⟩
            refine e_then ?_; refine wp_seq ?_; refine wp_region_lit ?_; refine op_g ha rfl (g_move rfl) ?_; clear ha a; intro a ha; refine op_g ha rfl (g_nnilz sl53.und rfl hqr3o20_1 hzqr3o20_1) ?_; clear ha a; intro a ha; refine wpList_nil ?_; replace ha := ha.sub (σ' := [(0, va0), (1, va1), (2, va2), (3, (.int .u32 (BitVec.toNat a3 : Int))), (4, (.int .i64 a4)), (11, (.int .i64 x3)), (15, vqr3o20_1), (28, v28), (29, (.int .i64 (x26.length : Int))), (30, (.int .i64 i204)), (55, va1), (56, (.int .i64 x3)), (57, (.pointer (some p490))), (58, (.int .i64 x487)), (59, (.int .i64 x376)), (60, (.bool false)), (63, (.int .u32 (BitVec.toNat a3 : Int))), (64, va1), (65, (.int .i64 x376)), (66, (.pointer (some p505))), (67, (.int .i64 x502)), (68, (.bool x514)), (92, (.bool (!(List.isEmpty xqr3o20_1))))]) ⟨rfl, rfl, rfl, rfl, rfl, rfl, rfl, rfl, rfl, rfl, rfl, rfl, rfl, rfl, rfl, rfl, rfl, rfl, rfl, rfl, rfl, rfl, rfl, trivial⟩
            refine e_then ?_; refine c_cond (¬ (xqr3o20_1 = [])) ha rfl (n_iff (List.isEmpty_iff)) (fun hp527 => ?_) (fun hp527 => ?_)
            · replace hF := if_t hp527 hF
              refine wp_seq ?_; refine wp_region_lit ?_; refine op_g ha rfl (g_move rfl) ?_; clear ha a; intro a ha; refine op_g ha rfl (g_assign rfl) ?_; clear ha a; intro a ha; refine wpList_nil ?_; replace ha := ha.sub (σ' := [(10, vqr3o20_1)]) ⟨rfl, trivial⟩; refine e_then ?_; refine wp_ret ?_; refine e_blk_ret ?_; refine e_then_ret ?_; refine e_lq_ret ?_; refine e_then_ret ?_; obtain ⟨hz528, hF⟩ := grd_some hF; obtain rfl := Option.some.inj hF
              have e529 := LK_inr hN372; subst e529
              have e530 := BK_inr hK368; subst e530
              exact f_ret1 ha rfl rfl ⟨_, hqr3o20_1, qqr3o20_9, (.inr hz528), hE526⟩
            replace hF := if_f hp527 hF; refine wp_skip ?_; refine e_blk ?_; refine e_then ?_; refine wp_region_lit ?_; obtain ⟨hI531, hF⟩ := ck_some hF; refine op_g ha rfl (g_add rfl rfl hI531) ?_; clear ha a; intro a ha; refine op_g ha rfl (g_move rfl) ?_; clear ha a; intro a ha; refine wpList_nil ?_; replace ha := ha.sub (σ' := [(0, va0), (1, va1), (2, va2), (3, (.int .u32 (BitVec.toNat a3 : Int))), (4, (.int .i64 a4)), (11, (.int .i64 x3)), (28, v28), (29, (.int .i64 (x26.length : Int))), (30, (.int .i64 (i204 + 1))), (55, va1), (56, (.int .i64 x3)), (57, (.pointer (some p490))), (58, (.int .i64 x487)), (59, (.int .i64 x376)), (60, (.bool false)), (63, (.int .u32 (BitVec.toNat a3 : Int))), (64, va1), (65, (.int .i64 x376)), (66, (.pointer (some p505))), (67, (.int .i64 x502)), (68, (.bool x514))]) ⟨rfl, rfl, rfl, rfl, rfl, rfl, rfl, rfl, rfl, rfl, rfl, rfl, rfl, rfl, rfl, rfl, rfl, rfl, rfl, rfl, rfl, trivial⟩
            refine e_lq ?_; obtain rfl := Option.some.inj hF
            exact ⟨_, Nat.lt_succ_self _, i204 + 1, ha.sub ⟨rfl, rfl, rfl, rfl, rfl, rfl, rfl, rfl, rfl, trivial⟩, hE526, hI531, h202, z203, hN372⟩
          skip
          replace h202 := h202.ext hxqr3o5_1
          replace h418 := h418.ext hxqr3o5_1
          have hEqr3o16_1 := Ext.trans hEqr3o5_1 hxqr3o5_1
          have qqr3o16_1 := bel_step qqr3o5_2 hxqr3o5_1
          refine op_g ha rfl (g_load0 hEqr3o16_1 Tryd.isAgg3 rfl hatqr3o15_1.one) ?_; clear ha a; intro a ha; refine wpList_nil (e_sq ?_)
          have hStqr3o16_1 : RowKit.Below W.heap.size wqr3o5_1 wqr3o5_1 := RowKit.Below.refl _ _
          refine ⟨fun _ => hStqr3o16_1, ?_⟩
          have qqr3o16_2 := RowKit.Below.trans qqr3o16_1 hStqr3o16_1
          refine x_only 6 rfl (by kernel_rfl) ?_; intro wqr3o6_1 hxqr3o6_1
          replace h202 := h202.ext hxqr3o6_1
          replace h418 := h418.ext hxqr3o6_1
          have hEqr3o6_1 := Ext.trans hEqr3o16_1 hxqr3o6_1
          have qqr3o6_1 := bel_step qqr3o16_2 hxqr3o6_1
          refine op_g ha rfl (g_load0 hEqr3o6_1 Tryd.isAgg3 rfl hatqr3o5_1.one) ?_; clear ha a; intro a ha; refine wpList_nil (e_sq ?_)
          have hStqr3o6_1 : RowKit.Below W.heap.size wqr3o6_1 wqr3o6_1 := RowKit.Below.refl _ _
          refine ⟨fun _ => hStqr3o6_1, ?_⟩
          have qqr3o6_2 := RowKit.Below.trans qqr3o6_1 hStqr3o6_1
          refine x_only 7 rfl (by kernel_rfl) ?_; intro wqr3o7_1 hxqr3o7_1
          replace h202 := h202.ext hxqr3o7_1
          replace h418 := h418.ext hxqr3o7_1
          have hEqr3o7_1 := Ext.trans hEqr3o6_1 hxqr3o7_1
          have qqr3o7_1 := bel_step qqr3o6_2 hxqr3o7_1
          refine o_lit1 (o := true) (y := xqr3o5_1) Rp.int ha rfl sl53 rfl rfl rfl ⟨rfl, hIqr3o5_1, rfl⟩ ?_; clear ha a; intro vqr3o7_1 wqr3o7_2 hqr3o7_1 hxqr3o7_2 a ha
          obtain ⟨bqr3o7_1, hbqr3o7_1⟩ : ∃ b : Int, b = wqr3o7_1.heap.size := ⟨_, rfl⟩; rw [← hbqr3o7_1] at hqr3o7_1
          have qqr3o7_2 := zn_of hbqr3o7_1
          have qqr3o7_3 := Nq.new h202.fpb qqr3o7_2
          have qqr3o7_4 := Nq.madeO qqr3o7_2 h202.blt
          have qqr3o7_5 := Nq.new h418.fpb qqr3o7_2
          have qqr3o7_6 := Nq.madeO qqr3o7_2 h418.blt
          have qqr3o7_7 := Zn.upD qqr3o7_2 hEqr3o7_1
          have qqr3o7_8 := Zn.upB qqr3o7_2 qqr3o7_1
          replace h202 := h202.ext hxqr3o7_2
          replace h418 := h418.ext hxqr3o7_2
          have hEqr3o7_2 := Ext.trans hEqr3o7_1 hxqr3o7_2
          refine wpList_nil (e_sq ?_)
          have hStqr3o7_1 : RowKit.Below W.heap.size wqr3o7_1 wqr3o7_2 := ext_bel qqr3o7_1.size hxqr3o7_2
          refine ⟨fun _ => hStqr3o7_1, ?_⟩
          have qqr3o7_9 := RowKit.Below.trans qqr3o7_1 hStqr3o7_1
          refine x_only 8 rfl (by kernel_rfl) ?_; intro wqr3o8_1 hxqr3o8_1
          replace h202 := h202.ext hxqr3o8_1
          replace h418 := h418.ext hxqr3o8_1
          replace hqr3o7_1 := hqr3o7_1.ext hxqr3o8_1
          have hEqr3o8_1 := Ext.trans hEqr3o7_2 hxqr3o8_1
          have qqr3o8_1 := bel_step qqr3o7_9 hxqr3o8_1
          refine o_append ha rfl sl53 rfl rfl rfl h418 hqr3o7_1.src (Nq.nil _) hlqr3o8_1 ?_; clear ha a; intro vqr3o8_1 wqr3o8_2 bqr3o8_1 hqr3o8_1 hcqr3o8_1 hbqr3o8_1 a ha
          replace hqr3o8_1 : Ow Rp.int 3 true wqr3o8_2 [] bqr3o8_1 vqr3o8_1 _ := hqr3o8_1
          have qqr3o8_2 := Nq.appY q422 h202.fpb hbqr3o8_1
          have qqr3o8_3 := Nq.appX q423 (Nq.nil _) hbqr3o8_1 h202.blt
          have qqr3o8_4 := Nq.appY qqr3o7_6 hqr3o7_1.fpb hbqr3o8_1
          have qqr3o8_5 := Nq.appX qqr3o7_5 (Nq.nil _) hbqr3o8_1 hqr3o7_1.blt
          have qqr3o8_6 := Zn.appD q426 hbqr3o8_1 hEqr3o8_1
          have qqr3o8_7 := Zn.appB q426 hbqr3o8_1 qqr3o8_1
          replace h202 := h202.nq hcqr3o8_1 q422
          replace hqr3o7_1 := hqr3o7_1.nq hcqr3o8_1 qqr3o7_6
          have hEqr3o8_2 := Ext.then hEqr3o8_1 hcqr3o8_1 (Zn.bl q426)
          refine wpList_nil (e_sq ?_)
          have hStqr3o8_1 : RowKit.Below W.heap.size wqr3o8_1 wqr3o8_2 := chg_bel hcqr3o8_1 qqr3o8_1.size (Zn.bl q426)
          refine ⟨fun _ => hStqr3o8_1, ?_⟩
          have qqr3o8_8 := RowKit.Below.trans qqr3o8_1 hStqr3o8_1
          refine x_only 11 rfl (by kernel_rfl) ?_; intro wqr3o11_1 hxqr3o11_1
          replace h202 := h202.ext hxqr3o11_1
          replace hqr3o7_1 := hqr3o7_1.ext hxqr3o11_1
          replace hqr3o8_1 := hqr3o8_1.ext hxqr3o11_1
          have hEqr3o11_1 := Ext.trans hEqr3o8_2 hxqr3o11_1
          have qqr3o11_1 := bel_step qqr3o8_8 hxqr3o11_1
          refine o_call ha rfl rfl Tryd.call41 (W_impl_one hI387 hcqr3o11_1) ?_; clear ha a; rintro vqr3o11_1 wqr3o11_2 ⟨rfl, hxqr3o11_2⟩ a ha
          replace h202 := h202.ext hxqr3o11_2
          replace hqr3o7_1 := hqr3o7_1.ext hxqr3o11_2
          replace hqr3o8_1 := hqr3o8_1.ext hxqr3o11_2
          have hEqr3o11_2 := Ext.trans hEqr3o11_1 hxqr3o11_2
          refine wpList_nil (e_sq ?_)
          have hStqr3o11_1 : RowKit.Below W.heap.size wqr3o11_1 wqr3o11_2 := ext_bel qqr3o11_1.size hxqr3o11_2
          refine ⟨fun _ => hStqr3o11_1, ?_⟩
          have qqr3o11_2 := RowKit.Below.trans qqr3o11_1 hStqr3o11_1
          refine x_g 12 rfl (by kernel_rfl) (want0 _) ha rfl qqr3o11_2 (g32_or (m := a3) (n := xqr3o11_1) rfl rfl) ?_; clear ha a; intro a ha
          refine x_only 17 rfl (by kernel_rfl) ?_; intro wqr3o17_1 hxqr3o17_1
          replace h202 := h202.ext hxqr3o17_1
          replace hqr3o7_1 := hqr3o7_1.ext hxqr3o17_1
          replace hqr3o8_1 := hqr3o8_1.ext hxqr3o17_1
          have hEqr3o17_1 := Ext.trans hEqr3o11_2 hxqr3o17_1
          have qqr3o17_1 := bel_step qqr3o11_2 hxqr3o17_1
          refine o_call ha rfl rfl Tryd.call41 (W_impl_one hIqr3o15_1 hcqr3o17_1) ?_; clear ha a; rintro vqr3o17_1 wqr3o17_2 ⟨rfl, hxqr3o17_2⟩ a ha
          replace h202 := h202.ext hxqr3o17_2
          replace hqr3o7_1 := hqr3o7_1.ext hxqr3o17_2
          replace hqr3o8_1 := hqr3o8_1.ext hxqr3o17_2
          have hEqr3o17_2 := Ext.trans hEqr3o17_1 hxqr3o17_2
          refine wpList_nil (e_sq ?_)
          have hStqr3o17_1 : RowKit.Below W.heap.size wqr3o17_1 wqr3o17_2 := ext_bel qqr3o17_1.size hxqr3o17_2
          refine ⟨fun _ => hStqr3o17_1, ?_⟩
          have qqr3o17_2 := RowKit.Below.trans qqr3o17_1 hStqr3o17_1
          refine x_g 18 rfl (by kernel_rfl) (want0 _) ha rfl qqr3o17_2 (g32_or (m := (a3 ||| xqr3o11_1)) (n := xqr3o17_1) rfl rfl) ?_; clear ha a; intro a ha
          refine x_only 20 rfl (by kernel_rfl) ?_; intro wqr3o20_1 hxqr3o20_1
          replace h202 := h202.ext hxqr3o20_1
          replace hqr3o7_1 := hqr3o7_1.ext hxqr3o20_1
          replace hqr3o8_1 := hqr3o8_1.ext hxqr3o20_1
          have hEqr3o20_1 := Ext.trans hEqr3o17_2 hxqr3o20_1
          have qqr3o20_1 := bel_step qqr3o17_2 hxqr3o20_1
          obtain ⟨fpqr3o20_1, hroqr3o20_1, hsqr3o20_1⟩ := hqr3o8_1.roF
          refine o_call ha rfl rfl Tryd.call40 (ih (ha0.ext hEqr3o20_1) (ha1.ext hEqr3o20_1) hroqr3o20_1 ha4 (hG.ext hEqr3o20_1) hcqr3o20_1) ?_; clear ha a; rintro vqr3o20_1 wqr3o20_2 ⟨bqr3o20_1, hqr3o20_1, zqr3o20_1, hzqr3o20_1, hxqr3o20_2⟩ a ha
          have qqr3o20_2 := Zn.upB zqr3o20_1 qqr3o20_1
          have qqr3o20_3 := Nq.new h202.fpb zqr3o20_1
          have qqr3o20_4 := Nq.madeO zqr3o20_1 h202.blt
          have qqr3o20_5 := Nq.new hqr3o7_1.fpb zqr3o20_1
          have qqr3o20_6 := Nq.madeO zqr3o20_1 hqr3o7_1.blt
          have qqr3o20_7 := Nq.new hqr3o8_1.fpb zqr3o20_1
          have qqr3o20_8 := Nq.madeO zqr3o20_1 hqr3o8_1.blt
          replace h202 := h202.ext hxqr3o20_2
          replace hqr3o7_1 := hqr3o7_1.ext hxqr3o20_2
          replace hqr3o8_1 := hqr3o8_1.ext hxqr3o20_2
          have hEqr3o20_2 := Ext.trans hEqr3o20_1 hxqr3o20_2
          have qqr3o20_9 := Zn.upD zqr3o20_1 hEqr3o20_1
          refine wpList_nil (e_sq ?_)
          have hStqr3o20_1 : RowKit.Below W.heap.size wqr3o20_1 wqr3o20_2 := ext_bel qqr3o20_1.size hxqr3o20_2
          refine ⟨fun _ => hStqr3o20_1, ?_⟩
          have qqr3o20_10 := RowKit.Below.trans qqr3o20_1 hStqr3o20_1
          refine x_g 21 rfl (by kernel_rfl) (want0 _) ha rfl qqr3o20_10 (g_assign rfl) ?_; clear ha a; intro a ha
          refine x_done (by kernel_rfl) ?_; intro w524 hx525
          replace h202 := h202.ext hx525
          replace hqr3o7_1 := hqr3o7_1.ext hx525
          replace hqr3o8_1 := hqr3o8_1.ext hx525
          replace hqr3o20_1 := hqr3o20_1.ext hx525
          have hE526 := Ext.trans hEqr3o20_2 hx525
          replace ha := ha.sub (σ' := [(0, va0), (1, va1), (2, va2), (3, (.int .u32 (BitVec.toNat a3 : Int))), (4, (.int .i64 a4)), (11, (.int .i64 x3)), (15, vqr3o20_1), (28, v28), (29, (.int .i64 (x26.length : Int))), (30, (.int .i64 i204)), (55, va1), (56, (.int .i64 x3)), (57, (.pointer (some p490))), (58, (.int .i64 x487)), (59, (.int .i64 x376)), (60, (.bool false)), (63, (.int .u32 (BitVec.toNat a3 : Int))), (64, va1), (65, (.int .i64 x376)), (66, (.pointer (some p505))), (67, (.int .i64 x502)), (68, (.bool x514))]) ⟨rfl, rfl, rfl, rfl, rfl, rfl, rfl, rfl, rfl, rfl, rfl, rfl, rfl, rfl, rfl, rfl, rfl, rfl, rfl, rfl, rfl, rfl, trivial⟩
          refine e_then ?_; refine wp_seq ?_; refine wp_region_lit ?_; refine op_g ha rfl (g_move rfl) ?_; clear ha a; intro a ha; refine op_g ha rfl (g_nnilz sl53.und rfl hqr3o20_1 hzqr3o20_1) ?_; clear ha a; intro a ha; refine wpList_nil ?_; replace ha := ha.sub (σ' := [(0, va0), (1, va1), (2, va2), (3, (.int .u32 (BitVec.toNat a3 : Int))), (4, (.int .i64 a4)), (11, (.int .i64 x3)), (15, vqr3o20_1), (28, v28), (29, (.int .i64 (x26.length : Int))), (30, (.int .i64 i204)), (55, va1), (56, (.int .i64 x3)), (57, (.pointer (some p490))), (58, (.int .i64 x487)), (59, (.int .i64 x376)), (60, (.bool false)), (63, (.int .u32 (BitVec.toNat a3 : Int))), (64, va1), (65, (.int .i64 x376)), (66, (.pointer (some p505))), (67, (.int .i64 x502)), (68, (.bool x514)), (92, (.bool (!(List.isEmpty xqr3o20_1))))]) ⟨rfl, rfl, rfl, rfl, rfl, rfl, rfl, rfl, rfl, rfl, rfl, rfl, rfl, rfl, rfl, rfl, rfl, rfl, rfl, rfl, rfl, rfl, rfl, trivial⟩
          refine e_then ?_; refine c_cond (¬ (xqr3o20_1 = [])) ha rfl (n_iff (List.isEmpty_iff)) (fun hp527 => ?_) (fun hp527 => ?_)
          · replace hF := if_t hp527 hF
            refine wp_seq ?_; refine wp_region_lit ?_; refine op_g ha rfl (g_move rfl) ?_; clear ha a; intro a ha; refine op_g ha rfl (g_assign rfl) ?_; clear ha a; intro a ha; refine wpList_nil ?_; replace ha := ha.sub (σ' := [(10, vqr3o20_1)]) ⟨rfl, trivial⟩; refine e_then ?_; refine wp_ret ?_; refine e_blk_ret ?_; refine e_then_ret ?_; refine e_lq_ret ?_; refine e_then_ret ?_; obtain ⟨hz528, hF⟩ := grd_some hF; obtain rfl := Option.some.inj hF
            have e529 := LK_inr hN372; subst e529
            have e530 := BK_inr hK368; subst e530
            exact f_ret1 ha rfl rfl ⟨_, hqr3o20_1, qqr3o20_9, (.inr hz528), hE526⟩
          replace hF := if_f hp527 hF; refine wp_skip ?_; refine e_blk ?_; refine e_then ?_; refine wp_region_lit ?_; obtain ⟨hI531, hF⟩ := ck_some hF; refine op_g ha rfl (g_add rfl rfl hI531) ?_; clear ha a; intro a ha; refine op_g ha rfl (g_move rfl) ?_; clear ha a; intro a ha; refine wpList_nil ?_; replace ha := ha.sub (σ' := [(0, va0), (1, va1), (2, va2), (3, (.int .u32 (BitVec.toNat a3 : Int))), (4, (.int .i64 a4)), (11, (.int .i64 x3)), (28, v28), (29, (.int .i64 (x26.length : Int))), (30, (.int .i64 (i204 + 1))), (55, va1), (56, (.int .i64 x3)), (57, (.pointer (some p490))), (58, (.int .i64 x487)), (59, (.int .i64 x376)), (60, (.bool false)), (63, (.int .u32 (BitVec.toNat a3 : Int))), (64, va1), (65, (.int .i64 x376)), (66, (.pointer (some p505))), (67, (.int .i64 x502)), (68, (.bool x514))]) ⟨rfl, rfl, rfl, rfl, rfl, rfl, rfl, rfl, rfl, rfl, rfl, rfl, rfl, rfl, rfl, rfl, rfl, rfl, rfl, rfl, rfl, trivial⟩
          refine e_lq ?_; obtain rfl := Option.some.inj hF
          exact ⟨_, Nat.lt_succ_self _, i204 + 1, ha.sub ⟨rfl, rfl, rfl, rfl, rfl, rfl, rfl, rfl, rfl, trivial⟩, hE526, hI531, h202, z203, hN372⟩
        skip
        replace h202 := h202.ext hxqr3o15_1
        replace h418 := h418.ext hxqr3o15_1
        have hEqr3o16_1 := Ext.trans hEqr3o15_1 hxqr3o15_1
        have qqr3o16_1 := bel_step qqr3o15_2 hxqr3o15_1
        refine op_g ha rfl (g_load0 hEqr3o16_1 Tryd.isAgg3 rfl hatqr3o15_1.one) ?_; clear ha a; intro a ha; refine wpList_nil (e_sq ?_)
        have hStqr3o16_1 : RowKit.Below W.heap.size wqr3o15_1 wqr3o15_1 := RowKit.Below.refl _ _
        refine ⟨fun _ => hStqr3o16_1, ?_⟩
        have qqr3o16_2 := RowKit.Below.trans qqr3o16_1 hStqr3o16_1
        refine x_only 5 rfl (by kernel_rfl) ?_; intro wqr3o5_1 hxqr3o5_1
        replace h202 := h202.ext hxqr3o5_1
        replace h418 := h418.ext hxqr3o5_1
        have hEqr3o5_1 := Ext.trans hEqr3o16_1 hxqr3o5_1
        have qqr3o5_1 := bel_step qqr3o16_2 hxqr3o5_1
        obtain ⟨pqr3o5_1, csqr3o5_1, fqr3o5_1, hfqr3o5_1, hpbqr3o5_1, hatqr3o5_1, hrqr3o5_1, hiqr3o5_1⟩ := ha1.at gqr3o5_1 gxqr3o5_1
        obtain ⟨rfl, hIqr3o5_1, rfl⟩ := hrqr3o5_1
        refine op_g ha rfl (hiqr3o5_1.gives sl53 rfl rfl) ?_; clear ha a; intro a ha; refine wpList_nil (e_sq ?_)
        have hStqr3o5_1 : RowKit.Below W.heap.size wqr3o5_1 wqr3o5_1 := RowKit.Below.refl _ _
        refine ⟨fun _ => hStqr3o5_1, ?_⟩
        have qqr3o5_2 := RowKit.Below.trans qqr3o5_1 hStqr3o5_1
        refine x_only 6 rfl (by kernel_rfl) ?_; intro wqr3o6_1 hxqr3o6_1
        replace h202 := h202.ext hxqr3o6_1
        replace h418 := h418.ext hxqr3o6_1
        have hEqr3o6_1 := Ext.trans hEqr3o5_1 hxqr3o6_1
        have qqr3o6_1 := bel_step qqr3o5_2 hxqr3o6_1
        refine op_g ha rfl (g_load0 hEqr3o6_1 Tryd.isAgg3 rfl hatqr3o5_1.one) ?_; clear ha a; intro a ha; refine wpList_nil (e_sq ?_)
        have hStqr3o6_1 : RowKit.Below W.heap.size wqr3o6_1 wqr3o6_1 := RowKit.Below.refl _ _
        refine ⟨fun _ => hStqr3o6_1, ?_⟩
        have qqr3o6_2 := RowKit.Below.trans qqr3o6_1 hStqr3o6_1
        refine x_only 7 rfl (by kernel_rfl) ?_; intro wqr3o7_1 hxqr3o7_1
        replace h202 := h202.ext hxqr3o7_1
        replace h418 := h418.ext hxqr3o7_1
        have hEqr3o7_1 := Ext.trans hEqr3o6_1 hxqr3o7_1
        have qqr3o7_1 := bel_step qqr3o6_2 hxqr3o7_1
        refine o_lit1 (o := true) (y := xqr3o5_1) Rp.int ha rfl sl53 rfl rfl rfl ⟨rfl, hIqr3o5_1, rfl⟩ ?_; clear ha a; intro vqr3o7_1 wqr3o7_2 hqr3o7_1 hxqr3o7_2 a ha
        obtain ⟨bqr3o7_1, hbqr3o7_1⟩ : ∃ b : Int, b = wqr3o7_1.heap.size := ⟨_, rfl⟩; rw [← hbqr3o7_1] at hqr3o7_1
        have qqr3o7_2 := zn_of hbqr3o7_1
        have qqr3o7_3 := Nq.new h202.fpb qqr3o7_2
        have qqr3o7_4 := Nq.madeO qqr3o7_2 h202.blt
        have qqr3o7_5 := Nq.new h418.fpb qqr3o7_2
        have qqr3o7_6 := Nq.madeO qqr3o7_2 h418.blt
        have qqr3o7_7 := Zn.upD qqr3o7_2 hEqr3o7_1
        have qqr3o7_8 := Zn.upB qqr3o7_2 qqr3o7_1
        replace h202 := h202.ext hxqr3o7_2
        replace h418 := h418.ext hxqr3o7_2
        have hEqr3o7_2 := Ext.trans hEqr3o7_1 hxqr3o7_2
        refine wpList_nil (e_sq ?_)
        have hStqr3o7_1 : RowKit.Below W.heap.size wqr3o7_1 wqr3o7_2 := ext_bel qqr3o7_1.size hxqr3o7_2
        refine ⟨fun _ => hStqr3o7_1, ?_⟩
        have qqr3o7_9 := RowKit.Below.trans qqr3o7_1 hStqr3o7_1
        refine x_only 8 rfl (by kernel_rfl) ?_; intro wqr3o8_1 hxqr3o8_1
        replace h202 := h202.ext hxqr3o8_1
        replace h418 := h418.ext hxqr3o8_1
        replace hqr3o7_1 := hqr3o7_1.ext hxqr3o8_1
        have hEqr3o8_1 := Ext.trans hEqr3o7_2 hxqr3o8_1
        have qqr3o8_1 := bel_step qqr3o7_9 hxqr3o8_1
        refine o_append ha rfl sl53 rfl rfl rfl h418 hqr3o7_1.src (Nq.nil _) hlqr3o8_1 ?_; clear ha a; intro vqr3o8_1 wqr3o8_2 bqr3o8_1 hqr3o8_1 hcqr3o8_1 hbqr3o8_1 a ha
        replace hqr3o8_1 : Ow Rp.int 3 true wqr3o8_2 [] bqr3o8_1 vqr3o8_1 _ := hqr3o8_1
        have qqr3o8_2 := Nq.appY q422 h202.fpb hbqr3o8_1
        have qqr3o8_3 := Nq.appX q423 (Nq.nil _) hbqr3o8_1 h202.blt
        have qqr3o8_4 := Nq.appY qqr3o7_6 hqr3o7_1.fpb hbqr3o8_1
        have qqr3o8_5 := Nq.appX qqr3o7_5 (Nq.nil _) hbqr3o8_1 hqr3o7_1.blt
        have qqr3o8_6 := Zn.appD q426 hbqr3o8_1 hEqr3o8_1
        have qqr3o8_7 := Zn.appB q426 hbqr3o8_1 qqr3o8_1
        replace h202 := h202.nq hcqr3o8_1 q422
        replace hqr3o7_1 := hqr3o7_1.nq hcqr3o8_1 qqr3o7_6
        have hEqr3o8_2 := Ext.then hEqr3o8_1 hcqr3o8_1 (Zn.bl q426)
        refine wpList_nil (e_sq ?_)
        have hStqr3o8_1 : RowKit.Below W.heap.size wqr3o8_1 wqr3o8_2 := chg_bel hcqr3o8_1 qqr3o8_1.size (Zn.bl q426)
        refine ⟨fun _ => hStqr3o8_1, ?_⟩
        have qqr3o8_8 := RowKit.Below.trans qqr3o8_1 hStqr3o8_1
        refine x_only 11 rfl (by kernel_rfl) ?_; intro wqr3o11_1 hxqr3o11_1
        replace h202 := h202.ext hxqr3o11_1
        replace hqr3o7_1 := hqr3o7_1.ext hxqr3o11_1
        replace hqr3o8_1 := hqr3o8_1.ext hxqr3o11_1
        have hEqr3o11_1 := Ext.trans hEqr3o8_2 hxqr3o11_1
        have qqr3o11_1 := bel_step qqr3o8_8 hxqr3o11_1
        refine o_call ha rfl rfl Tryd.call41 (W_impl_one hI387 hcqr3o11_1) ?_; clear ha a; rintro vqr3o11_1 wqr3o11_2 ⟨rfl, hxqr3o11_2⟩ a ha
        replace h202 := h202.ext hxqr3o11_2
        replace hqr3o7_1 := hqr3o7_1.ext hxqr3o11_2
        replace hqr3o8_1 := hqr3o8_1.ext hxqr3o11_2
        have hEqr3o11_2 := Ext.trans hEqr3o11_1 hxqr3o11_2
        refine wpList_nil (e_sq ?_)
        have hStqr3o11_1 : RowKit.Below W.heap.size wqr3o11_1 wqr3o11_2 := ext_bel qqr3o11_1.size hxqr3o11_2
        refine ⟨fun _ => hStqr3o11_1, ?_⟩
        have qqr3o11_2 := RowKit.Below.trans qqr3o11_1 hStqr3o11_1
        refine x_g 12 rfl (by kernel_rfl) (want0 _) ha rfl qqr3o11_2 (g32_or (m := a3) (n := xqr3o11_1) rfl rfl) ?_; clear ha a; intro a ha
        refine x_only 17 rfl (by kernel_rfl) ?_; intro wqr3o17_1 hxqr3o17_1
        replace h202 := h202.ext hxqr3o17_1
        replace hqr3o7_1 := hqr3o7_1.ext hxqr3o17_1
        replace hqr3o8_1 := hqr3o8_1.ext hxqr3o17_1
        have hEqr3o17_1 := Ext.trans hEqr3o11_2 hxqr3o17_1
        have qqr3o17_1 := bel_step qqr3o11_2 hxqr3o17_1
        refine o_call ha rfl rfl Tryd.call41 (W_impl_one hIqr3o15_1 hcqr3o17_1) ?_; clear ha a; rintro vqr3o17_1 wqr3o17_2 ⟨rfl, hxqr3o17_2⟩ a ha
        replace h202 := h202.ext hxqr3o17_2
        replace hqr3o7_1 := hqr3o7_1.ext hxqr3o17_2
        replace hqr3o8_1 := hqr3o8_1.ext hxqr3o17_2
        have hEqr3o17_2 := Ext.trans hEqr3o17_1 hxqr3o17_2
        refine wpList_nil (e_sq ?_)
        have hStqr3o17_1 : RowKit.Below W.heap.size wqr3o17_1 wqr3o17_2 := ext_bel qqr3o17_1.size hxqr3o17_2
        refine ⟨fun _ => hStqr3o17_1, ?_⟩
        have qqr3o17_2 := RowKit.Below.trans qqr3o17_1 hStqr3o17_1
        refine x_g 18 rfl (by kernel_rfl) (want0 _) ha rfl qqr3o17_2 (g32_or (m := (a3 ||| xqr3o11_1)) (n := xqr3o17_1) rfl rfl) ?_; clear ha a; intro a ha
        refine x_only 20 rfl (by kernel_rfl) ?_; intro wqr3o20_1 hxqr3o20_1
        replace h202 := h202.ext hxqr3o20_1
        replace hqr3o7_1 := hqr3o7_1.ext hxqr3o20_1
        replace hqr3o8_1 := hqr3o8_1.ext hxqr3o20_1
        have hEqr3o20_1 := Ext.trans hEqr3o17_2 hxqr3o20_1
        have qqr3o20_1 := bel_step qqr3o17_2 hxqr3o20_1
        obtain ⟨fpqr3o20_1, hroqr3o20_1, hsqr3o20_1⟩ := hqr3o8_1.roF
        refine o_call ha rfl rfl Tryd.call40 (ih (ha0.ext hEqr3o20_1) (ha1.ext hEqr3o20_1) hroqr3o20_1 ha4 (hG.ext hEqr3o20_1) hcqr3o20_1) ?_; clear ha a; rintro vqr3o20_1 wqr3o20_2 ⟨bqr3o20_1, hqr3o20_1, zqr3o20_1, hzqr3o20_1, hxqr3o20_2⟩ a ha
        have qqr3o20_2 := Zn.upB zqr3o20_1 qqr3o20_1
        have qqr3o20_3 := Nq.new h202.fpb zqr3o20_1
        have qqr3o20_4 := Nq.madeO zqr3o20_1 h202.blt
        have qqr3o20_5 := Nq.new hqr3o7_1.fpb zqr3o20_1
        have qqr3o20_6 := Nq.madeO zqr3o20_1 hqr3o7_1.blt
        have qqr3o20_7 := Nq.new hqr3o8_1.fpb zqr3o20_1
        have qqr3o20_8 := Nq.madeO zqr3o20_1 hqr3o8_1.blt
        replace h202 := h202.ext hxqr3o20_2
        replace hqr3o7_1 := hqr3o7_1.ext hxqr3o20_2
        replace hqr3o8_1 := hqr3o8_1.ext hxqr3o20_2
        have hEqr3o20_2 := Ext.trans hEqr3o20_1 hxqr3o20_2
        have qqr3o20_9 := Zn.upD zqr3o20_1 hEqr3o20_1
        refine wpList_nil (e_sq ?_)
        have hStqr3o20_1 : RowKit.Below W.heap.size wqr3o20_1 wqr3o20_2 := ext_bel qqr3o20_1.size hxqr3o20_2
        refine ⟨fun _ => hStqr3o20_1, ?_⟩
        have qqr3o20_10 := RowKit.Below.trans qqr3o20_1 hStqr3o20_1
        refine x_g 21 rfl (by kernel_rfl) (want0 _) ha rfl qqr3o20_10 (g_assign rfl) ?_; clear ha a; intro a ha
        refine x_done (by kernel_rfl) ?_; intro w524 hx525
        replace h202 := h202.ext hx525
        replace hqr3o7_1 := hqr3o7_1.ext hx525
        replace hqr3o8_1 := hqr3o8_1.ext hx525
        replace hqr3o20_1 := hqr3o20_1.ext hx525
        have hE526 := Ext.trans hEqr3o20_2 hx525
        replace ha := ha.sub (σ' := [(0, va0), (1, va1), (2, va2), (3, (.int .u32 (BitVec.toNat a3 : Int))), (4, (.int .i64 a4)), (11, (.int .i64 x3)), (15, vqr3o20_1), (28, v28), (29, (.int .i64 (x26.length : Int))), (30, (.int .i64 i204)), (55, va1), (56, (.int .i64 x3)), (57, (.pointer (some p490))), (58, (.int .i64 x487)), (59, (.int .i64 x376)), (60, (.bool false)), (63, (.int .u32 (BitVec.toNat a3 : Int))), (64, va1), (65, (.int .i64 x376)), (66, (.pointer (some p505))), (67, (.int .i64 x502)), (68, (.bool x514))]) ⟨rfl, rfl, rfl, rfl, rfl, rfl, rfl, rfl, rfl, rfl, rfl, rfl, rfl, rfl, rfl, rfl, rfl, rfl, rfl, rfl, rfl, rfl, trivial⟩
        refine e_then ?_; refine wp_seq ?_; refine wp_region_lit ?_; refine op_g ha rfl (g_move rfl) ?_; clear ha a; intro a ha; refine op_g ha rfl (g_nnilz sl53.und rfl hqr3o20_1 hzqr3o20_1) ?_; clear ha a; intro a ha; refine wpList_nil ?_; replace ha := ha.sub (σ' := [(0, va0), (1, va1), (2, va2), (3, (.int .u32 (BitVec.toNat a3 : Int))), (4, (.int .i64 a4)), (11, (.int .i64 x3)), (15, vqr3o20_1), (28, v28), (29, (.int .i64 (x26.length : Int))), (30, (.int .i64 i204)), (55, va1), (56, (.int .i64 x3)), (57, (.pointer (some p490))), (58, (.int .i64 x487)), (59, (.int .i64 x376)), (60, (.bool false)), (63, (.int .u32 (BitVec.toNat a3 : Int))), (64, va1), (65, (.int .i64 x376)), (66, (.pointer (some p505))), (67, (.int .i64 x502)), (68, (.bool x514)), (92, (.bool (!(List.isEmpty xqr3o20_1))))]) ⟨rfl, rfl, rfl, rfl, rfl, rfl, rfl, rfl, rfl, rfl, rfl, rfl, rfl, rfl, rfl, rfl, rfl, rfl, rfl, rfl, rfl, rfl, rfl, trivial⟩
        refine e_then ?_; refine c_cond (¬ (xqr3o20_1 = [])) ha rfl (n_iff (List.isEmpty_iff)) (fun hp527 => ?_) (fun hp527 => ?_)
        · replace hF := if_t hp527 hF
          refine wp_seq ?_; refine wp_region_lit ?_; refine op_g ha rfl (g_move rfl) ?_; clear ha a; intro a ha; refine op_g ha rfl (g_assign rfl) ?_; clear ha a; intro a ha; refine wpList_nil ?_; replace ha := ha.sub (σ' := [(10, vqr3o20_1)]) ⟨rfl, trivial⟩; refine e_then ?_; refine wp_ret ?_; refine e_blk_ret ?_; refine e_then_ret ?_; refine e_lq_ret ?_; refine e_then_ret ?_; obtain ⟨hz528, hF⟩ := grd_some hF; obtain rfl := Option.some.inj hF
          have e529 := LK_inr hN372; subst e529
          have e530 := BK_inr hK368; subst e530
          exact f_ret1 ha rfl rfl ⟨_, hqr3o20_1, qqr3o20_9, (.inr hz528), hE526⟩
        replace hF := if_f hp527 hF; refine wp_skip ?_; refine e_blk ?_; refine e_then ?_; refine wp_region_lit ?_; obtain ⟨hI531, hF⟩ := ck_some hF; refine op_g ha rfl (g_add rfl rfl hI531) ?_; clear ha a; intro a ha; refine op_g ha rfl (g_move rfl) ?_; clear ha a; intro a ha; refine wpList_nil ?_; replace ha := ha.sub (σ' := [(0, va0), (1, va1), (2, va2), (3, (.int .u32 (BitVec.toNat a3 : Int))), (4, (.int .i64 a4)), (11, (.int .i64 x3)), (28, v28), (29, (.int .i64 (x26.length : Int))), (30, (.int .i64 (i204 + 1))), (55, va1), (56, (.int .i64 x3)), (57, (.pointer (some p490))), (58, (.int .i64 x487)), (59, (.int .i64 x376)), (60, (.bool false)), (63, (.int .u32 (BitVec.toNat a3 : Int))), (64, va1), (65, (.int .i64 x376)), (66, (.pointer (some p505))), (67, (.int .i64 x502)), (68, (.bool x514))]) ⟨rfl, rfl, rfl, rfl, rfl, rfl, rfl, rfl, rfl, rfl, rfl, rfl, rfl, rfl, rfl, rfl, rfl, rfl, rfl, rfl, rfl, trivial⟩
        refine e_lq ?_; obtain rfl := Option.some.inj hF
        exact ⟨_, Nat.lt_succ_self _, i204 + 1, ha.sub ⟨rfl, rfl, rfl, rfl, rfl, rfl, rfl, rfl, rfl, trivial⟩, hE526, hI531, h202, z203, hN372⟩
      replace hF := if_f hp375 hF; refine wp_exit ?_; refine e_then_exit ?_; refine e_lq_eq ?_; obtain rfl := Option.some.inj hF
      exact ⟨ha.sub trivial, hE206, (LK_inr hN372).symm⟩
  rintro a w365 ⟨ha, hE371, rfl⟩
  have hF : F_impl_longer_k2 = some _ := hK368; clear hK368; unfold F_impl_longer_k2 at hF
  refine e_then ?_; refine wp_seq ?_; refine wp_region_lit ?_; refine op_g ha rfl (g_assign rfl) ?_; clear ha a; intro a ha; refine wpList_nil ?_; refine e_then ?_; refine wp_ret ?_; obtain rfl := Option.some.inj hF
  exact f_ret1 ha rfl rfl ⟨-1, (Ow.nil (by decide)), (.inl (by decide)), (.inl (by decide)), hE371⟩
theorem W_impl_longer_n (n : Nat) : ∀ {W : World} {va0 : Value} {fa0 : List Nat} {a0 : (List (BitVec 32))} (ha0 : Ro Rp.u32 W fa0 va0 a0) {va1 : Value} {fa1 : List Nat} {a1 : (List Int)} (ha1 : Ro Rp.int W fa1 va1 a1) {va2 : Value} {fa2 : List Nat} {a2 : (List Int)} (ha2 : Ro Rp.int W fa2 va2 a2) {a3 : BitVec 32} {a4 : Int} (ha4 : InI a4) (hG : GT 0 W) {r : (List Int)} (hF : itN (fun (rc : ((List (BitVec 32)) × (List Int) × (List Int) × (BitVec 32) × Int) → Option (List Int)) a => F_impl_longer_body (fun z0 z1 z2 z3 z4 => rc (z0, z1, z2, z3, z4)) a.1 a.2.1 a.2.2.1 a.2.2.2.1 a.2.2.2.2) n (a0, a1, a2, a3, a4) = some r),
    Calls Tryd.prog 40 [va0, va1, va2, .int .u32 (BitVec.toNat a3 : Int), .int .i64 a4].toArray W (Ret fun u w' => ∃ (b_u : Int), Ow Rp.int 3 true w' [] b_u u r ∧ Zn W b_u ∧ (b_u < 0 ∨ r ≠ []) ∧ Ext W w') := by
  induction n with
  | zero => intro W va0 fa0 a0 ha0 va1 fa1 a1 ha1 va2 fa2 a2 ha2 a3 a4 ha4 hG r hF; cases hF
  | succ n ih => intro W va0 fa0 a0 ha0 va1 fa1 a1 ha1 va2 fa2 a2 ha2 a3 a4 ha4 hG r hF; exact W_impl_longer_step (rc := fun z0 z1 z2 z3 z4 => itN (fun (rc : ((List (BitVec 32)) × (List Int) × (List Int) × (BitVec 32) × Int) → Option (List Int)) a => F_impl_longer_body (fun z0 z1 z2 z3 z4 => rc (z0, z1, z2, z3, z4)) a.1 a.2.1 a.2.2.1 a.2.2.2.1 a.2.2.2.2) n (z0, z1, z2, z3, z4)) @ih ha0 ha1 ha2 ha4 hG hF
theorem W_impl_longer {W : World} {va0 : Value} {fa0 : List Nat} {a0 : (List (BitVec 32))} (ha0 : Ro Rp.u32 W fa0 va0 a0) {va1 : Value} {fa1 : List Nat} {a1 : (List Int)} (ha1 : Ro Rp.int W fa1 va1 a1) {va2 : Value} {fa2 : List Nat} {a2 : (List Int)} (ha2 : Ro Rp.int W fa2 va2 a2) {a3 : BitVec 32} {a4 : Int} (ha4 : InI a4) (hG : GT 0 W) {r : (List Int)} (hF : F_impl_longer a0 a1 a2 a3 a4 = some r) :
    Calls Tryd.prog 40 [va0, va1, va2, .int .u32 (BitVec.toNat a3 : Int), .int .i64 a4].toArray W (Ret fun u w' => ∃ (b_u : Int), Ow Rp.int 3 true w' [] b_u u r ∧ Zn W b_u ∧ (b_u < 0 ∨ r ≠ []) ∧ Ext W w') := by
  obtain ⟨n, hn⟩ := fixO_some hF
  exact W_impl_longer_n n ha0 ha1 ha2 ha4 hG hn
end Go.Proofs.YthbmcbflnibpbabDoor
