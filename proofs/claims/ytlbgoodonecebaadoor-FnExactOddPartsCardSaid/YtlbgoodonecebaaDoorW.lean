/- Walks, printed by gen.py. -/
import Derived.Test.YtlbgoodonecebaaDoorF
import Derived.Test.YtlbgoodonecebaaDoorW1
import Derived.Test.YtlbgoodonecebaaDoorProg
import Derived.KernelRfl
set_option maxRecDepth 100000
namespace Go.Proofs.YtlbgoodonecebaaDoor
open Go Go.RowKit

set_option maxHeartbeats 2000000 in
theorem W_impl_vset_list {W : World} {a0 : BitVec 32} (hG : GT 0 W) {r : (List Int)} (hF : F_impl_vset_list a0 = some r) :
    Calls Tryd.prog 46 [.int .u32 (BitVec.toNat a0 : Int)].toArray W (Ret fun u w' => ∃ (b_u : Int), Ow Rp.int 3 true w' [] b_u u r ∧ Zn W b_u ∧ Ext W w') := by
  refine f_enter Tryd.func46 rfl Tryd.ntmps46 rfl ?_
  intro a ha
  replace ha : Fr 17 [(0, (.int .u32 (BitVec.toNat a0 : Int)))] a := ha
  have hE : Chg [] W W := Chg.refl _ _
  unfold F_impl_vset_list at hF
  refine wp_seq ?_
  refine wp_region_lit ?_
  refine op_g ha rfl (g_assign rfl) ?_; clear ha a; intro a ha
  refine wpList_nil ?_
  replace ha := ha.sub (σ' := [(0, (.int .u32 (BitVec.toNat a0 : Int)))]) ⟨rfl, trivial⟩
  refine e_then ?_
  refine wp_seq ?_
  refine wp_region_lit ?_
  refine o_lit0 Rp.int ha rfl sl62 ?_; clear ha a; intro v1 w2 h3 hx4 a ha
  obtain ⟨b6, hb6⟩ : ∃ b : Int, b = W.heap.size := ⟨_, rfl⟩; rw [← hb6] at h3
  have q7 := zn_of hb6
  have q8 := Zn.upD q7 hE
  have hE9 := Ext.trans hE hx4
  refine op_g ha rfl (g_assign rfl) ?_; clear ha a; intro a ha
  refine wpList_nil ?_
  replace ha := ha.sub (σ' := [(0, (.int .u32 (BitVec.toNat a0 : Int))), (3, v1)]) ⟨rfl, rfl, trivial⟩
  refine e_then ?_
  refine wp_seq ?_
  obtain ⟨o109, ho110, hK111⟩ := bnd_some hF
  obtain ⟨n112, hn113⟩ := lp_some ho110; clear ho110
  refine c_loop (fun a w => ∃ (l106 : (List Int)) (v107 : Value) (b108 : Int), Fr 17 [(3, v107)] a ∧ Chg [] W w ∧ Ow Rp.int 3 true w [] b108 v107 l106 ∧ Zn W b108 ∧ o109 = .inl l106) (fun n a w => ∃ (u55 : BitVec 32) (l59 : (List Int)) (v60 : Value) (b61 : Int), Fr 17 [(0, (.int .u32 (BitVec.toNat u55 : Int))), (3, v60)] a ∧ Chg [] W w ∧ Ow Rp.int 3 true w [] b61 v60 l59 ∧ Zn W b61 ∧ lpN (fun s => F_impl_vset_list_l1 s.1 s.2) n (u55, l59) = some o109) n112 ⟨a0, ([] : (List Int)), v1, b6, ha.sub ⟨rfl, rfl, trivial⟩, hE9, h3, q8, hn113⟩ ?_ ?_
  · rintro m117 a w54 ⟨u55, l59, v60, b61, ha, hE62, h57, z58, hF⟩
    cases m117 with
    | zero => exact (lpN_zero hF).elim
    | succ m117 =>
      obtain ⟨z116, hF, hN115⟩ := lpN_succ hF
      have hF : F_impl_vset_list_l1 u55 l59 = some z116 := hF; unfold F_impl_vset_list_l1 at hF
      refine wp_seq ?_
      refine wp_seq ?_
      refine wp_region_lit ?_
      refine op_g ha rfl (g_move rfl) ?_; clear ha a; intro a ha
      refine op_g ha rfl (g32_neq (m := u55) (n := (0#32)) rfl rfl) ?_; clear ha a; intro a ha
      refine wpList_nil ?_
      replace ha := ha.sub (σ' := [(0, (.int .u32 (BitVec.toNat u55 : Int))), (3, v60), (6, (.bool (decide (u55 ≠ (0#32)))))]) ⟨rfl, rfl, rfl, trivial⟩
      refine e_then ?_
      refine c_cond (u55 ≠ (0#32)) ha rfl (decide_eq_true_iff) (fun hp118 => ?_) (fun hp118 => ?_)
      · replace hF := if_t hp118 hF
        refine wp_skip ?_
        refine e_then ?_
        refine wp_seq ?_
        refine wp_block ?_
        refine wp_region_lit ?_
        refine op_g ha rfl (g_move rfl) ?_; clear ha a; intro a ha
        refine op_g ha rfl (g_move rfl) ?_; clear ha a; intro a ha
        obtain ⟨x119, hc120, hF⟩ := cal_some hF
        refine o_call ha rfl rfl Tryd.call72 (W_impl_vset_least (hG.ext hE62) hc120) ?_; clear ha a; rintro v121 w122 ⟨⟨rfl, hI124⟩, hx123⟩ a ha
        replace h57 := h57.ext hx123
        have hE125 := Ext.trans hE62 hx123
        refine o_lit1 (o := true) (y := x119) Rp.int ha rfl sl62 rfl rfl rfl ⟨rfl, hI124, rfl⟩ ?_; clear ha a; intro v126 w127 h128 hx129 a ha
        obtain ⟨b131, hb131⟩ : ∃ b : Int, b = w122.heap.size := ⟨_, rfl⟩; rw [← hb131] at h128
        have q132 := zn_of hb131
        have q133 := Nq.new h57.fpb q132
        have q134 := Nq.madeO q132 h57.blt
        have q135 := Zn.upD q132 hE125
        replace h57 := h57.ext hx129
        have hE136 := Ext.trans hE125 hx129
        obtain ⟨hl137, hF⟩ := app_some hF
        refine o_append ha rfl sl62 rfl rfl rfl h57 h128.src (Nq.nil _) hl137 ?_; clear ha a; intro v138 w139 b140 h141 hc142 hb143 a ha
        replace h141 : Ow Rp.int 3 true w139 [] b140 v138 _ := h141
        have q145 := Nq.appY q134 h128.fpb hb143
        have q146 := Nq.appX q133 (Nq.nil _) hb143 h128.blt
        have q147 := Zn.appD z58 hb143 hE136
        replace h128 := h128.nq hc142 q134
        have hE148 := Ext.then hE136 hc142 (Zn.bl z58)
        refine op_g ha rfl (g_assign rfl) ?_; clear ha a; intro a ha
        refine wpList_nil ?_
        replace ha := ha.sub (σ' := [(0, (.int .u32 (BitVec.toNat u55 : Int))), (3, v138)]) ⟨rfl, rfl, trivial⟩
        refine e_blk ?_
        refine e_then ?_
        refine wp_region_lit ?_
        refine op_g ha rfl (g_move rfl) ?_; clear ha a; intro a ha
        refine op_g ha rfl (g_move rfl) ?_; clear ha a; intro a ha
        refine op_g ha rfl (g32_sub (m := u55) (n := (1#32)) rfl rfl) ?_; clear ha a; intro a ha
        refine op_g ha rfl (g32_and (m := u55) (n := (u55 - (1#32))) rfl rfl) ?_; clear ha a; intro a ha
        refine op_g ha rfl (g_assign rfl) ?_; clear ha a; intro a ha
        refine wpList_nil ?_
        replace ha := ha.sub (σ' := [(0, (.int .u32 (BitVec.toNat (u55 &&& (u55 - (1#32))) : Int))), (3, v138)]) ⟨rfl, rfl, trivial⟩
        refine e_lq ?_
        obtain rfl := Option.some.inj hF
        exact ⟨_, Nat.lt_succ_self _, u55 &&& (u55 - (1#32)), (l59 ++ ([x119])), v138, b140, ha.sub ⟨rfl, rfl, trivial⟩, hE148, h141, q147, hN115⟩
      · replace hF := if_f hp118 hF
        refine wp_exit ?_
        refine e_then_exit ?_
        refine e_lq_eq ?_
        obtain rfl := Option.some.inj hF
        exact ⟨l59, v60, b61, ha.sub ⟨rfl, trivial⟩, hE62, h57, z58, (LK_inr hN115).symm⟩
  · rintro a w102 ⟨l106, v107, b108, ha, hE114, h104, z105, rfl⟩
    have hF : F_impl_vset_list_k2 l106 = some _ := hK111; clear hK111; unfold F_impl_vset_list_k2 at hF
    refine e_then ?_
    refine wp_seq ?_
    refine wp_region_lit ?_
    refine op_g ha rfl (g_move rfl) ?_; clear ha a; intro a ha
    refine op_g ha rfl (g_assign rfl) ?_; clear ha a; intro a ha
    refine wpList_nil ?_
    replace ha := ha.sub (σ' := [(2, v107)]) ⟨rfl, trivial⟩
    refine e_then ?_
    refine wp_ret ?_
    obtain rfl := Option.some.inj hF
    exact f_ret1 ha rfl rfl ⟨_, h104, z105, hE114⟩
set_option maxHeartbeats 2000000 in
theorem W_impl_reach {W : World} {va0 : Value} {fa0 : List Nat} {a0 : (List (BitVec 32))} (ha0 : Ro Rp.u32 W fa0 va0 a0) {a1 : Int} (ha1 : InI a1) {a2 : BitVec 32} (hG : GT 0 W) {r : (BitVec 32)} (hF : F_impl_reach a0 a1 a2 = some r) :
    Calls Tryd.prog 88 [va0, .int .i64 a1, .int .u32 (BitVec.toNat a2 : Int)].toArray W (Ret fun u w' => u = .int .u32 (BitVec.toNat r : Int) ∧ Ext W w') := by
  refine f_enter Tryd.func88 rfl Tryd.ntmps88 rfl ?_
  intro a ha
  replace ha : Fr 35 [(0, va0), (1, (.int .i64 a1)), (2, (.int .u32 (BitVec.toNat a2 : Int)))] a := ha
  have hE : Chg [] W W := Chg.refl _ _
  unfold F_impl_reach at hF
  refine wp_seq ?_
  refine wp_region_lit ?_
  refine op_g ha rfl (g_assign rfl) ?_; clear ha a; intro a ha
  refine wpList_nil ?_
  replace ha := ha.sub (σ' := [(0, va0), (1, (.int .i64 a1)), (2, (.int .u32 (BitVec.toNat a2 : Int)))]) ⟨rfl, rfl, rfl, trivial⟩
  refine e_then ?_
  refine wp_seq ?_
  refine wp_region_lit ?_
  refine op_g ha rfl (g_move rfl) ?_; clear ha a; intro a ha
  obtain ⟨x1, hc2, hF⟩ := cal_some hF
  refine o_call ha rfl rfl Tryd.call47 (W_impl_one ha1 hc2) ?_; clear ha a; rintro v3 w4 ⟨rfl, hx5⟩ a ha
  have hE6 := Ext.trans hE hx5
  refine op_g ha rfl (g_assign rfl) ?_; clear ha a; intro a ha
  refine wpList_nil ?_
  replace ha := ha.sub (σ' := [(0, va0), (2, (.int .u32 (BitVec.toNat a2 : Int))), (7, (.int .u32 (BitVec.toNat x1 : Int)))]) ⟨rfl, rfl, rfl, trivial⟩
  refine e_then ?_
  obtain ⟨o273, ho274, hK275⟩ := bnd_some hF
  obtain ⟨n276, hn277⟩ := lp_some ho274; clear ho274
  refine c_loop (fun a w => Fr 35 [] a ∧ Chg [] W w ∧ o273 = .inl ()) (fun n a w => ∃ (u140 : BitVec 32), Fr 35 [(0, va0), (2, (.int .u32 (BitVec.toNat a2 : Int))), (7, (.int .u32 (BitVec.toNat u140 : Int)))] a ∧ Chg [] W w ∧ lpN (fun s => F_impl_reach_l1 a0 a2 s) n u140 = some o273) n276 ⟨x1, ha.sub ⟨rfl, rfl, rfl, trivial⟩, hE6, hn277⟩ ?_ ?_
  · rintro m281 a w139 ⟨u140, ha, hE141, hF⟩
    cases m281 with
    | zero => exact (lpN_zero hF).elim
    | succ m281 =>
      obtain ⟨z280, hF, hN279⟩ := lpN_succ hF
      have hF : F_impl_reach_l1 a0 a2 u140 = some z280 := hF; unfold F_impl_reach_l1 at hF
      refine wp_block ?_
      refine wp_seq ?_
      refine wp_region_lit ?_
      refine op_g ha rfl (g_move rfl) ?_; clear ha a; intro a ha
      refine op_g ha rfl (g_assign rfl) ?_; clear ha a; intro a ha
      refine wpList_nil ?_
      replace ha := ha.sub (σ' := [(0, va0), (2, (.int .u32 (BitVec.toNat a2 : Int))), (7, (.int .u32 (BitVec.toNat u140 : Int))), (8, (.int .u32 (BitVec.toNat u140 : Int)))]) ⟨rfl, rfl, rfl, rfl, trivial⟩
      refine e_then ?_
      refine wp_seq ?_
      refine wp_seq ?_
      refine wp_region_lit ?_
      refine op_g ha rfl (g_move rfl) ?_; clear ha a; intro a ha
      obtain ⟨x282, hc283, hF⟩ := cal_some hF
      refine o_call ha rfl rfl Tryd.call46 (W_impl_vset_list (hG.ext hE141) hc283) ?_; clear ha a; rintro v284 w285 ⟨b287, h288, z289, hx286⟩ a ha
      have hE291 := Ext.trans hE141 hx286
      have q292 := Zn.upD z289 hE141
      refine op_g ha rfl (g_lenO sl62.und h288 rfl) ?_; clear ha a; intro a ha
      refine op_g ha rfl (g_move rfl) ?_; clear ha a; intro a ha
      refine wpList_nil ?_
      replace ha := ha.sub (σ' := [(0, va0), (2, (.int .u32 (BitVec.toNat a2 : Int))), (7, (.int .u32 (BitVec.toNat u140 : Int))), (8, (.int .u32 (BitVec.toNat u140 : Int))), (15, v284), (16, (.int .i64 (x282.length : Int))), (17, (.int .i64 0))]) ⟨rfl, rfl, rfl, rfl, rfl, rfl, rfl, trivial⟩
      refine e_then ?_
      obtain ⟨o374, ho375, hK376⟩ := bnd_some hF
      obtain ⟨n377, hn378⟩ := lp_some ho375; clear ho375
      refine c_loop (fun a w => ∃ (u373 : BitVec 32), Fr 35 [(0, va0), (2, (.int .u32 (BitVec.toNat a2 : Int))), (7, (.int .u32 (BitVec.toNat u140 : Int))), (8, (.int .u32 (BitVec.toNat u373 : Int)))] a ∧ Chg [] W w ∧ o374 = .inl u373) (fun n a w => ∃ (u332 : BitVec 32) (i336 : Int), Fr 35 [(0, va0), (2, (.int .u32 (BitVec.toNat a2 : Int))), (7, (.int .u32 (BitVec.toNat u140 : Int))), (8, (.int .u32 (BitVec.toNat u332 : Int))), (15, v284), (16, (.int .i64 (x282.length : Int))), (17, (.int .i64 i336))] a ∧ Chg [] W w ∧ InI i336 ∧ Ow Rp.int 3 true w [] b287 v284 x282 ∧ Zn W b287 ∧ lpN (fun s => F_impl_reach_l2 a0 a2 x282 s.1 s.2) n (u332, i336) = some o374) n377 ⟨u140, 0, ha.sub ⟨rfl, rfl, rfl, rfl, rfl, rfl, rfl, trivial⟩, hE291, (show InI 0 from by decide), h288, q292, hn378⟩ ?_ ?_
      · rintro m382 a w331 ⟨u332, i336, ha, hE338, hI337, h334, z335, hF⟩
        cases m382 with
        | zero => exact (lpN_zero hF).elim
        | succ m382 =>
          obtain ⟨z381, hF, hN380⟩ := lpN_succ hF
          have hF : F_impl_reach_l2 a0 a2 x282 u332 i336 = some z381 := hF; unfold F_impl_reach_l2 at hF
          refine wp_seq ?_
          refine wp_region_lit ?_
          refine op_g ha rfl (g_lss rfl rfl) ?_; clear ha a; intro a ha
          refine wpList_nil ?_
          replace ha := ha.sub (σ' := [(0, va0), (2, (.int .u32 (BitVec.toNat a2 : Int))), (7, (.int .u32 (BitVec.toNat u140 : Int))), (8, (.int .u32 (BitVec.toNat u332 : Int))), (15, v284), (16, (.int .i64 (x282.length : Int))), (17, (.int .i64 i336)), (18, (.bool (decide (i336 < (x282.length : Int)))))]) ⟨rfl, rfl, rfl, rfl, rfl, rfl, rfl, rfl, trivial⟩
          refine e_then ?_
          refine wp_seq ?_
          refine c_cond (i336 < (x282.length : Int)) ha rfl (decide_eq_true_iff) (fun hp383 => ?_) (fun hp383 => ?_)
          · replace hF := if_t hp383 hF
            refine wp_skip ?_
            refine e_then ?_
            refine wp_seq ?_
            refine wp_block ?_
            refine wp_seq ?_
            refine wp_region_lit ?_
            obtain ⟨x384, g385, gx386, hF⟩ := idx_some hF
            obtain ⟨p387, cs388, f389, hf390, hpb391, hat392, hr393, hi394⟩ := h334.at g385 gx386
            obtain ⟨rfl, hI395, rfl⟩ := hr393
            refine op_g ha rfl (hi394.gives sl62 rfl rfl) ?_; clear ha a; intro a ha
            refine op_g ha rfl (g_load Tryd.isAgg3 rfl hat392.one) ?_; clear ha a; intro a ha
            refine op_g ha rfl (g_assign rfl) ?_; clear ha a; intro a ha
            refine wpList_nil ?_
            replace ha := ha.sub (σ' := [(0, va0), (2, (.int .u32 (BitVec.toNat a2 : Int))), (7, (.int .u32 (BitVec.toNat u140 : Int))), (8, (.int .u32 (BitVec.toNat u332 : Int))), (10, (.int .i64 x384)), (15, v284), (16, (.int .i64 (x282.length : Int))), (17, (.int .i64 i336))]) ⟨rfl, rfl, rfl, rfl, rfl, rfl, rfl, rfl, trivial⟩
            refine e_then ?_
            refine wp_region_lit ?_
            refine op_g ha rfl (g_move rfl) ?_; clear ha a; intro a ha
            refine op_g ha rfl (g_move rfl) ?_; clear ha a; intro a ha
            refine op_g ha rfl (g_move rfl) ?_; clear ha a; intro a ha
            obtain ⟨x396, g397, gx398, hF⟩ := idx_some hF
            obtain ⟨p399, cs400, f401, hf402, hpb403, hat404, hr405, hi406⟩ := ha0.at g397 gx398
            obtain ⟨rfl, rfl⟩ := hr405
            refine op_g ha rfl (hi406.gives sl55 rfl rfl) ?_; clear ha a; intro a ha
            refine op_g ha rfl (g_load0 hE338 Tryd.isAgg59 rfl hat404.one) ?_; clear ha a; intro a ha
            refine op_g ha rfl (g_move rfl) ?_; clear ha a; intro a ha
            refine op_g ha rfl (g32_and (m := x396) (n := a2) rfl rfl) ?_; clear ha a; intro a ha
            refine op_g ha rfl (g32_or (m := u332) (n := (x396 &&& a2)) rfl rfl) ?_; clear ha a; intro a ha
            refine op_g ha rfl (g_assign rfl) ?_; clear ha a; intro a ha
            refine wpList_nil ?_
            replace ha := ha.sub (σ' := [(0, va0), (2, (.int .u32 (BitVec.toNat a2 : Int))), (7, (.int .u32 (BitVec.toNat u140 : Int))), (8, (.int .u32 (BitVec.toNat (u332 ||| (x396 &&& a2)) : Int))), (15, v284), (16, (.int .i64 (x282.length : Int))), (17, (.int .i64 i336))]) ⟨rfl, rfl, rfl, rfl, rfl, rfl, rfl, trivial⟩
            refine e_blk ?_
            refine e_then ?_
            refine wp_region_lit ?_
            obtain ⟨hI407, hF⟩ := ck_some hF
            refine op_g ha rfl (g_add rfl rfl hI407) ?_; clear ha a; intro a ha
            refine op_g ha rfl (g_move rfl) ?_; clear ha a; intro a ha
            refine wpList_nil ?_
            replace ha := ha.sub (σ' := [(0, va0), (2, (.int .u32 (BitVec.toNat a2 : Int))), (7, (.int .u32 (BitVec.toNat u140 : Int))), (8, (.int .u32 (BitVec.toNat (u332 ||| (x396 &&& a2)) : Int))), (15, v284), (16, (.int .i64 (x282.length : Int))), (17, (.int .i64 (i336 + 1)))]) ⟨rfl, rfl, rfl, rfl, rfl, rfl, rfl, trivial⟩
            refine e_lq ?_
            obtain rfl := Option.some.inj hF
            exact ⟨_, Nat.lt_succ_self _, u332 ||| (x396 &&& a2), i336 + 1, ha.sub ⟨rfl, rfl, rfl, rfl, rfl, rfl, rfl, trivial⟩, hE338, hI407, h334, z335, hN380⟩
          · replace hF := if_f hp383 hF
            refine wp_exit ?_
            refine e_then_exit ?_
            refine e_lq_eq ?_
            obtain rfl := Option.some.inj hF
            exact ⟨u332, ha.sub ⟨rfl, rfl, rfl, rfl, trivial⟩, hE338, (LK_inr hN380).symm⟩
      · rintro a w372 ⟨u373, ha, hE379, rfl⟩
        have hF : F_impl_reach_k3 u140 u373 = some _ := hK376; clear hK376; unfold F_impl_reach_k3 at hF
        refine e_then ?_
        refine wp_seq ?_
        refine wp_seq ?_
        refine wp_region_lit ?_
        refine op_g ha rfl (g_move rfl) ?_; clear ha a; intro a ha
        refine op_g ha rfl (g_move rfl) ?_; clear ha a; intro a ha
        refine op_g ha rfl (g32_eql (m := u373) (n := u140) rfl rfl) ?_; clear ha a; intro a ha
        refine wpList_nil ?_
        replace ha := ha.sub (σ' := [(0, va0), (2, (.int .u32 (BitVec.toNat a2 : Int))), (7, (.int .u32 (BitVec.toNat u140 : Int))), (8, (.int .u32 (BitVec.toNat u373 : Int))), (32, (.bool (decide (u373 = u140))))]) ⟨rfl, rfl, rfl, rfl, rfl, trivial⟩
        refine e_then ?_
        refine c_cond (u373 = u140) ha rfl (decide_eq_true_iff) (fun hp409 => ?_) (fun hp409 => ?_)
        · replace hF := if_t hp409 hF
          refine wp_seq ?_
          refine wp_region_lit ?_
          refine op_g ha rfl (g_move rfl) ?_; clear ha a; intro a ha
          refine op_g ha rfl (g_assign rfl) ?_; clear ha a; intro a ha
          refine wpList_nil ?_
          replace ha := ha.sub (σ' := [(6, (.int .u32 (BitVec.toNat u140 : Int)))]) ⟨rfl, trivial⟩
          refine e_then ?_
          refine wp_ret ?_
          refine e_then_ret ?_
          refine e_blk_ret ?_
          refine e_lq_ret ?_
          obtain rfl := Option.some.inj hF
          have e410 := LK_inr hN279; subst e410
          have e411 := BK_inr hK275; subst e411
          exact f_ret1 ha rfl rfl ⟨rfl, hE379⟩
        · replace hF := if_f hp409 hF
          refine wp_skip ?_
          refine e_then ?_
          refine wp_region_lit ?_
          refine op_g ha rfl (g_move rfl) ?_; clear ha a; intro a ha
          refine op_g ha rfl (g_assign rfl) ?_; clear ha a; intro a ha
          refine wpList_nil ?_
          replace ha := ha.sub (σ' := [(0, va0), (2, (.int .u32 (BitVec.toNat a2 : Int))), (7, (.int .u32 (BitVec.toNat u373 : Int)))]) ⟨rfl, rfl, rfl, trivial⟩
          refine e_blk ?_
          refine e_lq ?_
          obtain rfl := Option.some.inj hF
          exact ⟨_, Nat.lt_succ_self _, u373, ha.sub ⟨rfl, rfl, rfl, trivial⟩, hE379, hN279⟩
  · rintro a w272 ⟨ha, hE278, rfl⟩
    cases hK275
set_option maxHeartbeats 2000000 in
theorem W_impl_partsOf {W : World} {va0 : Value} {fa0 : List Nat} {a0 : (List (BitVec 32))} (ha0 : Ro Rp.u32 W fa0 va0 a0) {a1 : BitVec 32} (hG : GT 0 W) {r : (List (BitVec 32))} (hF : F_impl_partsOf a0 a1 = some r) :
    Calls Tryd.prog 75 [va0, .int .u32 (BitVec.toNat a1 : Int)].toArray W (Ret fun u w' => ∃ (b_u : Int), Ow Rp.u32 59 true w' [] b_u u r ∧ Zn W b_u ∧ Ext W w') := by
  refine f_enter Tryd.func75 rfl Tryd.ntmps75 rfl ?_
  intro a ha
  replace ha : Fr 23 [(0, va0), (1, (.int .u32 (BitVec.toNat a1 : Int)))] a := ha
  have hE : Chg [] W W := Chg.refl _ _
  unfold F_impl_partsOf at hF
  refine wp_seq ?_
  refine wp_region_lit ?_
  refine op_g ha rfl (g_assign rfl) ?_; clear ha a; intro a ha
  refine wpList_nil ?_
  replace ha := ha.sub (σ' := [(0, va0), (1, (.int .u32 (BitVec.toNat a1 : Int)))]) ⟨rfl, rfl, trivial⟩
  refine e_then ?_
  refine wp_seq ?_
  refine wp_region_lit ?_
  refine o_lit0 Rp.u32 ha rfl sl54 ?_; clear ha a; intro v1 w2 h3 hx4 a ha
  obtain ⟨b6, hb6⟩ : ∃ b : Int, b = W.heap.size := ⟨_, rfl⟩; rw [← hb6] at h3
  have q7 := zn_of hb6
  have q8 := Zn.upD q7 hE
  have hE9 := Ext.trans hE hx4
  refine op_g ha rfl (g_assign rfl) ?_; clear ha a; intro a ha
  refine wpList_nil ?_
  replace ha := ha.sub (σ' := [(0, va0), (1, (.int .u32 (BitVec.toNat a1 : Int))), (5, v1)]) ⟨rfl, rfl, rfl, trivial⟩
  refine e_then ?_
  refine wp_seq ?_
  obtain ⟨o121, ho122, hK123⟩ := bnd_some hF
  obtain ⟨n124, hn125⟩ := lp_some ho122; clear ho122
  refine c_loop (fun a w => ∃ (l118 : (List (BitVec 32))) (v119 : Value) (b120 : Int), Fr 23 [(5, v119)] a ∧ Chg [] W w ∧ Ow Rp.u32 59 true w [] b120 v119 l118 ∧ Zn W b120 ∧ o121 = .inl l118) (fun n a w => ∃ (u61 : BitVec 32) (l65 : (List (BitVec 32))) (v66 : Value) (b67 : Int), Fr 23 [(0, va0), (1, (.int .u32 (BitVec.toNat u61 : Int))), (5, v66)] a ∧ Chg [] W w ∧ Ow Rp.u32 59 true w [] b67 v66 l65 ∧ Zn W b67 ∧ lpN (fun s => F_impl_partsOf_l1 a0 s.1 s.2) n (u61, l65) = some o121) n124 ⟨a1, ([] : (List (BitVec 32))), v1, b6, ha.sub ⟨rfl, rfl, rfl, trivial⟩, hE9, h3, q8, hn125⟩ ?_ ?_
  · rintro m129 a w60 ⟨u61, l65, v66, b67, ha, hE68, h63, z64, hF⟩
    cases m129 with
    | zero => exact (lpN_zero hF).elim
    | succ m129 =>
      obtain ⟨z128, hF, hN127⟩ := lpN_succ hF
      have hF : F_impl_partsOf_l1 a0 u61 l65 = some z128 := hF; unfold F_impl_partsOf_l1 at hF
      refine wp_seq ?_
      refine wp_seq ?_
      refine wp_region_lit ?_
      refine op_g ha rfl (g_move rfl) ?_; clear ha a; intro a ha
      refine op_g ha rfl (g32_neq (m := u61) (n := (0#32)) rfl rfl) ?_; clear ha a; intro a ha
      refine wpList_nil ?_
      replace ha := ha.sub (σ' := [(0, va0), (1, (.int .u32 (BitVec.toNat u61 : Int))), (5, v66), (9, (.bool (decide (u61 ≠ (0#32)))))]) ⟨rfl, rfl, rfl, rfl, trivial⟩
      refine e_then ?_
      refine c_cond (u61 ≠ (0#32)) ha rfl (decide_eq_true_iff) (fun hp130 => ?_) (fun hp130 => ?_)
      · replace hF := if_t hp130 hF
        refine wp_skip ?_
        refine e_then ?_
        refine wp_block ?_
        refine wp_seq ?_
        refine wp_region_lit ?_
        refine op_g ha rfl (g_move rfl) ?_; clear ha a; intro a ha
        refine op_g ha rfl (g_move rfl) ?_; clear ha a; intro a ha
        obtain ⟨x131, hc132, hF⟩ := cal_some hF
        refine o_call ha rfl rfl Tryd.call72 (W_impl_vset_least (hG.ext hE68) hc132) ?_; clear ha a; rintro v133 w134 ⟨⟨rfl, hI136⟩, hx135⟩ a ha
        replace h63 := h63.ext hx135
        have hE137 := Ext.trans hE68 hx135
        refine op_g ha rfl (g_move rfl) ?_; clear ha a; intro a ha
        obtain ⟨x138, hc139, hF⟩ := cal_some hF
        refine o_call ha rfl rfl Tryd.call88 (W_impl_reach (ha0.ext hE137) hI136 (hG.ext hE137) hc139) ?_; clear ha a; rintro v140 w141 ⟨rfl, hx142⟩ a ha
        replace h63 := h63.ext hx142
        have hE143 := Ext.trans hE137 hx142
        refine op_g ha rfl (g_assign rfl) ?_; clear ha a; intro a ha
        refine wpList_nil ?_
        replace ha := ha.sub (σ' := [(0, va0), (1, (.int .u32 (BitVec.toNat u61 : Int))), (5, v66), (6, (.int .u32 (BitVec.toNat x138 : Int)))]) ⟨rfl, rfl, rfl, rfl, trivial⟩
        refine e_then ?_
        refine wp_seq ?_
        refine wp_region_lit ?_
        refine op_g ha rfl (g_move rfl) ?_; clear ha a; intro a ha
        refine op_g ha rfl (g_move rfl) ?_; clear ha a; intro a ha
        refine o_lit1 (o := true) (y := x138) Rp.u32 ha rfl sl54 rfl rfl rfl ⟨rfl, rfl⟩ ?_; clear ha a; intro v144 w145 h146 hx147 a ha
        obtain ⟨b149, hb149⟩ : ∃ b : Int, b = w141.heap.size := ⟨_, rfl⟩; rw [← hb149] at h146
        have q150 := zn_of hb149
        have q151 := Nq.new h63.fpb q150
        have q152 := Nq.madeO q150 h63.blt
        have q153 := Zn.upD q150 hE143
        replace h63 := h63.ext hx147
        have hE154 := Ext.trans hE143 hx147
        obtain ⟨hl155, hF⟩ := app_some hF
        refine o_append ha rfl sl54 rfl rfl rfl h63 h146.src (Nq.nil _) hl155 ?_; clear ha a; intro v156 w157 b158 h159 hc160 hb161 a ha
        replace h159 : Ow Rp.u32 59 true w157 [] b158 v156 _ := h159
        have q163 := Nq.appY q152 h146.fpb hb161
        have q164 := Nq.appX q151 (Nq.nil _) hb161 h146.blt
        have q165 := Zn.appD z64 hb161 hE154
        replace h146 := h146.nq hc160 q152
        have hE166 := Ext.then hE154 hc160 (Zn.bl z64)
        refine op_g ha rfl (g_assign rfl) ?_; clear ha a; intro a ha
        refine wpList_nil ?_
        replace ha := ha.sub (σ' := [(0, va0), (1, (.int .u32 (BitVec.toNat u61 : Int))), (5, v156), (6, (.int .u32 (BitVec.toNat x138 : Int)))]) ⟨rfl, rfl, rfl, rfl, trivial⟩
        refine e_then ?_
        refine wp_region_lit ?_
        refine op_g ha rfl (g_move rfl) ?_; clear ha a; intro a ha
        refine op_g ha rfl (g_move rfl) ?_; clear ha a; intro a ha
        refine op_g ha rfl (g32_andNot (m := u61) (n := x138) rfl rfl) ?_; clear ha a; intro a ha
        refine op_g ha rfl (g_assign rfl) ?_; clear ha a; intro a ha
        refine wpList_nil ?_
        replace ha := ha.sub (σ' := [(0, va0), (1, (.int .u32 (BitVec.toNat (u61 &&& ~~~x138) : Int))), (5, v156)]) ⟨rfl, rfl, rfl, trivial⟩
        refine e_blk ?_
        refine e_lq ?_
        obtain rfl := Option.some.inj hF
        exact ⟨_, Nat.lt_succ_self _, u61 &&& ~~~x138, (l65 ++ ([x138])), v156, b158, ha.sub ⟨rfl, rfl, rfl, trivial⟩, hE166, h159, q165, hN127⟩
      · replace hF := if_f hp130 hF
        refine wp_exit ?_
        refine e_then_exit ?_
        refine e_lq_eq ?_
        obtain rfl := Option.some.inj hF
        exact ⟨l65, v66, b67, ha.sub ⟨rfl, trivial⟩, hE68, h63, z64, (LK_inr hN127).symm⟩
  · rintro a w114 ⟨l118, v119, b120, ha, hE126, h116, z117, rfl⟩
    have hF : F_impl_partsOf_k2 l118 = some _ := hK123; clear hK123; unfold F_impl_partsOf_k2 at hF
    refine e_then ?_
    refine wp_seq ?_
    refine wp_region_lit ?_
    refine op_g ha rfl (g_move rfl) ?_; clear ha a; intro a ha
    refine op_g ha rfl (g_assign rfl) ?_; clear ha a; intro a ha
    refine wpList_nil ?_
    replace ha := ha.sub (σ' := [(4, v119)]) ⟨rfl, trivial⟩
    refine e_then ?_
    refine wp_ret ?_
    obtain rfl := Option.some.inj hF
    exact f_ret1 ha rfl rfl ⟨_, h116, z117, hE126⟩
set_option maxHeartbeats 2000000 in
theorem W_math_bits_OnesCount32 {W : World} {a0 : BitVec 32} {r : Int} (hF : F_math_bits_OnesCount32 a0 = some r) :
    Calls Tryd.prog 89 [.int .u32 (BitVec.toNat a0 : Int)].toArray W (Ret fun u w' => (u = .int .i64 r ∧ InI r) ∧ Ext W w') := by
  refine f_enter Tryd.func89 rfl Tryd.ntmps89 rfl ?_
  intro a ha
  replace ha : Fr 21 [(0, (.int .u32 (BitVec.toNat a0 : Int)))] a := ha
  have hE : Chg [] W W := Chg.refl _ _
  unfold F_math_bits_OnesCount32 at hF
  refine wp_seq ?_
  refine wp_region_lit ?_
  refine op_g ha rfl (g_assign rfl) ?_; clear ha a; intro a ha
  refine wpList_nil ?_
  replace ha := ha.sub (σ' := [(0, (.int .u32 (BitVec.toNat a0 : Int)))]) ⟨rfl, trivial⟩
  refine e_then ?_
  refine wp_seq ?_
  refine d_quiet hmix (by kernel_rfl) ?_
  refine q_g ha rfl (g_move rfl) ?_; clear ha a; intro a ha
  refine q_g ha rfl (g32_shr (m := a0) rfl rfl (show InU 24 from by decide).1) ?_; clear ha a; intro a ha
  obtain ⟨x1, g2, gx3, hF⟩ := idx_some hF
  refine q_g ha rfl (g_strIdx un9 rfl rfl g2 (str_at (tab := popTab) (by kernel_rfl) gx3)) ?_; clear ha a; intro a ha
  refine q_g ha rfl (g_move rfl) ?_; clear ha a; intro a ha
  refine q_g ha rfl (g32_shr (m := a0) rfl rfl (show InU 16 from by decide).1) ?_; clear ha a; intro a ha
  refine q_g ha rfl (g32_and (m := (a0 >>> (16 : Int).toNat)) (n := (255#32)) rfl rfl) ?_; clear ha a; intro a ha
  obtain ⟨x4, g5, gx6, hF⟩ := idx_some hF
  refine q_g ha rfl (g_strIdx un9 rfl rfl g5 (str_at (tab := popTab) (by kernel_rfl) gx6)) ?_; clear ha a; intro a ha
  refine q_g ha rfl (g8_add (m := x1) (n := x4) rfl rfl) ?_; clear ha a; intro a ha
  refine q_g ha rfl (g_move rfl) ?_; clear ha a; intro a ha
  refine q_g ha rfl (g32_shr (m := a0) rfl rfl (show InU 8 from by decide).1) ?_; clear ha a; intro a ha
  refine q_g ha rfl (g32_and (m := (a0 >>> (8 : Int).toNat)) (n := (255#32)) rfl rfl) ?_; clear ha a; intro a ha
  obtain ⟨x7, g8, gx9, hF⟩ := idx_some hF
  refine q_g ha rfl (g_strIdx un9 rfl rfl g8 (str_at (tab := popTab) (by kernel_rfl) gx9)) ?_; clear ha a; intro a ha
  refine q_g ha rfl (g8_add (m := (x1 + x4)) (n := x7) rfl rfl) ?_; clear ha a; intro a ha
  refine q_g ha rfl (g_move rfl) ?_; clear ha a; intro a ha
  refine q_g ha rfl (g32_and (m := a0) (n := (255#32)) rfl rfl) ?_; clear ha a; intro a ha
  obtain ⟨x10, g11, gx12, hF⟩ := idx_some hF
  refine q_g ha rfl (g_strIdx un9 rfl rfl g11 (str_at (tab := popTab) (by kernel_rfl) gx12)) ?_; clear ha a; intro a ha
  refine q_g ha rfl (g8_add (m := ((x1 + x4) + x7)) (n := x10) rfl rfl) ?_; clear ha a; intro a ha
  refine q_g ha rfl (g_conv8 (m := (((x1 + x4) + x7) + x10)) un5 un3 rfl) ?_; clear ha a; intro a ha
  refine q_g ha rfl (g_assign rfl) ?_; clear ha a; intro a ha
  refine q_nil ?_; intro w13 hx14
  have hE15 := Ext.trans hE hx14
  replace ha := ha.sub (σ' := [(2, (.int .i64 (BitVec.toNat (((x1 + x4) + x7) + x10) : Int)))]) ⟨rfl, trivial⟩
  refine e_then ?_
  refine wp_ret ?_
  obtain rfl := Option.some.inj hF
  exact f_ret1 ha rfl rfl ⟨⟨rfl, (in_u8 _)⟩, hE15⟩
set_option maxHeartbeats 2000000 in
theorem W_impl_vset_size {W : World} {a0 : BitVec 32} {r : Int} (hF : F_impl_vset_size a0 = some r) :
    Calls Tryd.prog 76 [.int .u32 (BitVec.toNat a0 : Int)].toArray W (Ret fun u w' => (u = .int .i64 r ∧ InI r) ∧ Ext W w') := by
  refine f_enter Tryd.func76 rfl Tryd.ntmps76 rfl ?_
  intro a ha
  replace ha : Fr 5 [(0, (.int .u32 (BitVec.toNat a0 : Int)))] a := ha
  have hE : Chg [] W W := Chg.refl _ _
  unfold F_impl_vset_size at hF
  refine wp_seq ?_
  refine wp_region_lit ?_
  refine op_g ha rfl (g_assign rfl) ?_; clear ha a; intro a ha
  refine wpList_nil ?_
  replace ha := ha.sub (σ' := [(0, (.int .u32 (BitVec.toNat a0 : Int)))]) ⟨rfl, trivial⟩
  refine e_then ?_
  refine wp_seq ?_
  refine wp_region_lit ?_
  refine op_g ha rfl (g_move rfl) ?_; clear ha a; intro a ha
  obtain ⟨x1, hc2, hF⟩ := cal_some hF
  refine o_call ha rfl rfl Tryd.call89 (W_math_bits_OnesCount32  hc2) ?_; clear ha a; rintro v3 w4 ⟨⟨rfl, hI6⟩, hx5⟩ a ha
  have hE7 := Ext.trans hE hx5
  refine op_g ha rfl (g_assign rfl) ?_; clear ha a; intro a ha
  refine wpList_nil ?_
  replace ha := ha.sub (σ' := [(2, (.int .i64 x1))]) ⟨rfl, trivial⟩
  refine e_then ?_
  refine wp_ret ?_
  obtain rfl := Option.some.inj hF
  exact f_ret1 ha rfl rfl ⟨⟨rfl, hI6⟩, hE7⟩
set_option maxHeartbeats 2000000 in
theorem W_impl_oddParts {W : World} {va0 : Value} {fa0 : List Nat} {a0 : (List (BitVec 32))} (ha0 : Ro Rp.u32 W fa0 va0 a0) {a1 : BitVec 32} (hG : GT 0 W) {r : Int} (hF : F_impl_oddParts a0 a1 = some r) :
    Calls Tryd.prog 52 [va0, .int .u32 (BitVec.toNat a1 : Int)].toArray W (Ret fun u w' => (u = .int .i64 r ∧ InI r) ∧ Ext W w') := by
  refine f_enter Tryd.func52 rfl Tryd.ntmps52 rfl ?_
  intro a ha
  replace ha : Fr 23 [(0, va0), (1, (.int .u32 (BitVec.toNat a1 : Int)))] a := ha
  have hE : Chg [] W W := Chg.refl _ _
  unfold F_impl_oddParts at hF
  refine wp_seq ?_
  refine wp_region_lit ?_
  refine op_g ha rfl (g_assign rfl) ?_; clear ha a; intro a ha
  refine wpList_nil ?_
  replace ha := ha.sub (σ' := [(0, va0), (1, (.int .u32 (BitVec.toNat a1 : Int)))]) ⟨rfl, rfl, trivial⟩
  refine e_then ?_
  refine wp_seq ?_
  refine wp_region_lit ?_
  refine op_g ha rfl (g_assign rfl) ?_; clear ha a; intro a ha
  refine wpList_nil ?_
  refine e_then ?_
  refine wp_seq ?_
  refine wp_seq ?_
  refine wp_region_lit ?_
  refine op_g ha rfl (g_move rfl) ?_; clear ha a; intro a ha
  refine op_g ha rfl (g_move rfl) ?_; clear ha a; intro a ha
  obtain ⟨x1, hc2, hF⟩ := cal_some hF
  refine o_call ha rfl rfl Tryd.call75 (W_impl_partsOf (ha0.ext hE) (hG.ext hE) hc2) ?_; clear ha a; rintro v3 w4 ⟨b6, h7, z8, hx5⟩ a ha
  have hE10 := Ext.trans hE hx5
  have q11 := Zn.upD z8 hE
  refine op_g ha rfl (g_lenO sl54.und h7 rfl) ?_; clear ha a; intro a ha
  refine op_g ha rfl (g_move rfl) ?_; clear ha a; intro a ha
  refine wpList_nil ?_
  replace ha := ha.sub (σ' := [(5, (.int .i64 0)), (10, v3), (11, (.int .i64 (x1.length : Int))), (12, (.int .i64 0))]) ⟨rfl, rfl, rfl, rfl, trivial⟩
  refine e_then ?_
  obtain ⟨o95, ho96, hK97⟩ := bnd_some hF
  obtain ⟨n98, hn99⟩ := lp_some ho96; clear ho96
  refine c_loop (fun a w => ∃ (i93 : Int), Fr 23 [(5, (.int .i64 i93))] a ∧ Chg [] W w ∧ InI i93 ∧ o95 = .inl i93) (fun n a w => ∃ (i51 : Int) (i56 : Int), Fr 23 [(5, (.int .i64 i51)), (10, v3), (11, (.int .i64 (x1.length : Int))), (12, (.int .i64 i56))] a ∧ Chg [] W w ∧ InI i51 ∧ InI i56 ∧ Ow Rp.u32 59 true w [] b6 v3 x1 ∧ Zn W b6 ∧ lpN (fun s => F_impl_oddParts_l1 x1 s.1 s.2) n (i51, i56) = some o95) n98 ⟨0, 0, ha.sub ⟨rfl, rfl, rfl, rfl, trivial⟩, hE10, (show InI 0 from by decide), (show InI 0 from by decide), h7, q11, hn99⟩ ?_ ?_
  · rintro m103 a w50 ⟨i51, i56, ha, hE58, hI52, hI57, h54, z55, hF⟩
    cases m103 with
    | zero => exact (lpN_zero hF).elim
    | succ m103 =>
      obtain ⟨z102, hF, hN101⟩ := lpN_succ hF
      have hF : F_impl_oddParts_l1 x1 i51 i56 = some z102 := hF; unfold F_impl_oddParts_l1 at hF
      refine wp_seq ?_
      refine wp_region_lit ?_
      refine op_g ha rfl (g_lss rfl rfl) ?_; clear ha a; intro a ha
      refine wpList_nil ?_
      replace ha := ha.sub (σ' := [(5, (.int .i64 i51)), (10, v3), (11, (.int .i64 (x1.length : Int))), (12, (.int .i64 i56)), (13, (.bool (decide (i56 < (x1.length : Int)))))]) ⟨rfl, rfl, rfl, rfl, rfl, trivial⟩
      refine e_then ?_
      refine wp_seq ?_
      refine c_cond (i56 < (x1.length : Int)) ha rfl (decide_eq_true_iff) (fun hp104 => ?_) (fun hp104 => ?_)
      · replace hF := if_t hp104 hF
        refine wp_skip ?_
        refine e_then ?_
        refine wp_seq ?_
        refine wp_block ?_
        refine wp_seq ?_
        refine wp_region_lit ?_
        obtain ⟨x105, g106, gx107, hF⟩ := idx_some hF
        obtain ⟨p108, cs109, f110, hf111, hpb112, hat113, hr114, hi115⟩ := h54.at g106 gx107
        obtain ⟨rfl, rfl⟩ := hr114
        refine op_g ha rfl (hi115.gives sl54 rfl rfl) ?_; clear ha a; intro a ha
        refine op_g ha rfl (g_load Tryd.isAgg59 rfl hat113.one) ?_; clear ha a; intro a ha
        refine op_g ha rfl (g_assign rfl) ?_; clear ha a; intro a ha
        refine wpList_nil ?_
        replace ha := ha.sub (σ' := [(5, (.int .i64 i51)), (7, (.int .u32 (BitVec.toNat x105 : Int))), (10, v3), (11, (.int .i64 (x1.length : Int))), (12, (.int .i64 i56))]) ⟨rfl, rfl, rfl, rfl, rfl, trivial⟩
        refine e_then ?_
        refine wp_region_lit ?_
        refine op_g ha rfl (g_move rfl) ?_; clear ha a; intro a ha
        refine op_g ha rfl (g_move rfl) ?_; clear ha a; intro a ha
        obtain ⟨x116, hc117, hF⟩ := cal_some hF
        refine o_call ha rfl rfl Tryd.call76 (W_impl_vset_size  hc117) ?_; clear ha a; rintro v118 w119 ⟨⟨rfl, hI121⟩, hx120⟩ a ha
        replace h54 := h54.ext hx120
        have hE122 := Ext.trans hE58 hx120
        obtain ⟨hq123, hF⟩ := grd_some hF
        have hI124 := in_rem hI121 hq123.1 hq123.2
        refine op_g ha rfl (g_rem rfl rfl hI121 hq123.1 hq123.2) ?_; clear ha a; intro a ha
        obtain ⟨hI125, hF⟩ := ck_some hF
        refine op_g ha rfl (g_add rfl rfl hI125) ?_; clear ha a; intro a ha
        refine op_g ha rfl (g_assign rfl) ?_; clear ha a; intro a ha
        refine wpList_nil ?_
        replace ha := ha.sub (σ' := [(5, (.int .i64 (i51 + (x116 % 2)))), (10, v3), (11, (.int .i64 (x1.length : Int))), (12, (.int .i64 i56))]) ⟨rfl, rfl, rfl, rfl, trivial⟩
        refine e_blk ?_
        refine e_then ?_
        refine wp_region_lit ?_
        obtain ⟨hI127, hF⟩ := ck_some hF
        refine op_g ha rfl (g_add rfl rfl hI127) ?_; clear ha a; intro a ha
        refine op_g ha rfl (g_move rfl) ?_; clear ha a; intro a ha
        refine wpList_nil ?_
        replace ha := ha.sub (σ' := [(5, (.int .i64 (i51 + (x116 % 2)))), (10, v3), (11, (.int .i64 (x1.length : Int))), (12, (.int .i64 (i56 + 1)))]) ⟨rfl, rfl, rfl, rfl, trivial⟩
        refine e_lq ?_
        obtain rfl := Option.some.inj hF
        exact ⟨_, Nat.lt_succ_self _, i51 + (x116 % 2), i56 + 1, ha.sub ⟨rfl, rfl, rfl, rfl, trivial⟩, hE122, hI125, hI127, h54, z55, hN101⟩
      · replace hF := if_f hp104 hF
        refine wp_exit ?_
        refine e_then_exit ?_
        refine e_lq_eq ?_
        obtain rfl := Option.some.inj hF
        exact ⟨i51, ha.sub ⟨rfl, trivial⟩, hE58, hI52, (LK_inr hN101).symm⟩
  · rintro a w92 ⟨i93, ha, hE100, hI94, rfl⟩
    have hF : F_impl_oddParts_k2 i93 = some _ := hK97; clear hK97; unfold F_impl_oddParts_k2 at hF
    refine e_then ?_
    refine wp_seq ?_
    refine wp_region_lit ?_
    refine op_g ha rfl (g_move rfl) ?_; clear ha a; intro a ha
    refine op_g ha rfl (g_assign rfl) ?_; clear ha a; intro a ha
    refine wpList_nil ?_
    replace ha := ha.sub (σ' := [(4, (.int .i64 i93))]) ⟨rfl, trivial⟩
    refine e_then ?_
    refine wp_ret ?_
    obtain rfl := Option.some.inj hF
    exact f_ret1 ha rfl rfl ⟨⟨rfl, hI94⟩, hE100⟩
set_option maxHeartbeats 2000000 in
theorem W_impl_OddParts {W : World} {va0_0 : Value} {fa0_0 : List Nat} {a0_0 : (List (List Int))} (ha0_0 : Ro (Rp.sl 2 Rp.int) W fa0_0 va0_0 a0_0) {va1 : Value} {fa1 : List Nat} {a1 : (List Int)} (ha1 : Ro Rp.int W fa1 va1 a1) (hG : GT 0 W) {r : Int} (hF : F_impl_OddParts a0_0 a1 = some r) :
    Calls Tryd.prog 16 [.agg #[va0_0], va1].toArray W (Ret fun u w' => (u = .int .i64 r ∧ InI r) ∧ Ext W w') := by
  refine f_enter Tryd.func16 rfl Tryd.ntmps16 rfl ?_
  intro a ha
  replace ha : Fr 19 [(0, (.agg #[va0_0])), (1, va1)] a := ha
  have hE : Chg [] W W := Chg.refl _ _
  unfold F_impl_OddParts at hF
  refine wp_seq ?_
  refine wp_region_lit ?_
  refine o_box ha rfl rfl rfl ?_; clear ha a; intro b1 w2 hB3 hx4 hlo5 a ha
  have q6 := Zn.one hlo5
  have q7 := Zn.upD q6 hE
  have hE8 := Ext.trans hE hx4
  refine op_g ha rfl (g_assign rfl) ?_; clear ha a; intro a ha
  refine wpList_nil ?_
  replace ha := ha.sub (σ' := [(1, va1), (2, (.pointer (some ⟨b1, 0, none⟩)))]) ⟨rfl, rfl, trivial⟩
  refine e_then ?_
  refine wp_seq ?_
  refine wp_seq ?_
  refine wp_region_lit ?_
  refine op_g ha rfl (g_loadA (cs := [va0_0]) Tryd.isAgg27 Tryd.sizeOf27 rfl (by simp) hB3.all) ?_; clear ha a; intro a ha
  refine op_g ha rfl (g_move rfl) ?_; clear ha a; intro a ha
  obtain ⟨x9, hc10, hF⟩ := cal_some hF
  refine o_call ha rfl rfl Tryd.call51 (W_impl_SetOk (ha0_0.ext hE8) (ha1.ext hE8) hc10) ?_; clear ha a; rintro v11 w12 ⟨rfl, hx13⟩ a ha
  replace hB3 := hB3.ext hx13
  have hE14 := Ext.trans hE8 hx13
  refine op_g ha rfl (g_not rfl) ?_; clear ha a; intro a ha
  refine wpList_nil ?_
  replace ha := ha.sub (σ' := [(1, va1), (2, (.pointer (some ⟨b1, 0, none⟩))), (9, (.bool (!x9)))]) ⟨rfl, rfl, rfl, trivial⟩
  refine e_then ?_
  refine c_cond (¬ (x9 = true)) ha rfl (n_iff (Iff.rfl)) (fun hp15 => ?_) (fun hp15 => ?_)
  · replace hF := if_t hp15 hF
    refine wp_seq ?_
    refine wp_region_lit ?_
    refine op_g ha rfl (g_assign rfl) ?_; clear ha a; intro a ha
    refine wpList_nil ?_
    replace ha := ha.sub (σ' := [(4, (.int .i64 (-1)))]) ⟨rfl, trivial⟩
    refine e_then ?_
    refine wp_ret ?_
    refine e_then_ret ?_
    obtain rfl := Option.some.inj hF
    exact f_ret1 ha rfl rfl ⟨⟨rfl, (show InI (-1) from by decide)⟩, hE14⟩
  · replace hF := if_f hp15 hF
    refine wp_skip ?_
    refine e_then ?_
    refine wp_seq ?_
    refine wp_region_lit ?_
    refine op_g ha rfl (g_loadA (cs := [va0_0]) Tryd.isAgg27 Tryd.sizeOf27 rfl (by simp) hB3.all) ?_; clear ha a; intro a ha
    obtain ⟨x16, hc17, hF⟩ := cal_some hF
    refine o_call ha rfl rfl Tryd.call44 (W_impl_netsOf (ha0_0.ext hE14) hc17) ?_; clear ha a; rintro v18 w19 ⟨b21, h22, z23, hx20⟩ a ha
    have q25 := Nq.new hB3.fpb z23
    have q26 := Nq.madeO z23 hB3.bi
    replace hB3 := hB3.ext hx20
    have hE27 := Ext.trans hE14 hx20
    have q28 := Zn.upD z23 hE14
    refine op_g ha rfl (g_assign rfl) ?_; clear ha a; intro a ha
    refine wpList_nil ?_
    replace ha := ha.sub (σ' := [(1, va1), (5, v18)]) ⟨rfl, rfl, trivial⟩
    refine e_then ?_
    refine wp_seq ?_
    refine wp_region_lit ?_
    refine op_g ha rfl (g_move rfl) ?_; clear ha a; intro a ha
    refine op_g ha rfl (g_move rfl) ?_; clear ha a; intro a ha
    obtain ⟨fp29, hro30, hs31⟩ := h22.roF
    obtain ⟨x32, hc33, hF⟩ := cal_some hF
    refine o_call ha rfl rfl Tryd.call45 (W_impl_nets_all hro30 hc33) ?_; clear ha a; rintro v34 w35 ⟨rfl, hx36⟩ a ha
    replace h22 := h22.ext hx36
    have hE37 := Ext.trans hE27 hx36
    refine op_g ha rfl (g_move rfl) ?_; clear ha a; intro a ha
    obtain ⟨x38, hc39, hF⟩ := cal_some hF
    refine o_call ha rfl rfl Tryd.call53 (W_impl_maskOf (ha1.ext hE37) hc39) ?_; clear ha a; rintro v40 w41 ⟨rfl, hx42⟩ a ha
    replace h22 := h22.ext hx42
    have hE43 := Ext.trans hE37 hx42
    refine op_g ha rfl (g32_andNot (m := x32) (n := x38) rfl rfl) ?_; clear ha a; intro a ha
    obtain ⟨fp44, hro45, hs46⟩ := h22.roF
    obtain ⟨x47, hc48, hF⟩ := cal_some hF
    refine o_call ha rfl rfl Tryd.call52 (W_impl_oddParts hro45 (hG.ext hE43) hc48) ?_; clear ha a; rintro v49 w50 ⟨⟨rfl, hI52⟩, hx51⟩ a ha
    replace h22 := h22.ext hx51
    have hE53 := Ext.trans hE43 hx51
    refine op_g ha rfl (g_assign rfl) ?_; clear ha a; intro a ha
    refine wpList_nil ?_
    replace ha := ha.sub (σ' := [(4, (.int .i64 x47))]) ⟨rfl, trivial⟩
    refine e_then ?_
    refine wp_ret ?_
    obtain rfl := Option.some.inj hF
    exact f_ret1 ha rfl rfl ⟨⟨rfl, hI52⟩, hE53⟩
set_option maxHeartbeats 2000000 in
theorem W_laws_eqInt64S {W : World} {va0 : Value} {fa0 : List Nat} {a0 : (List Int)} (ha0 : Ro Rp.int W fa0 va0 a0) {va1 : Value} {fa1 : List Nat} {a1 : (List Int)} (ha1 : Ro Rp.int W fa1 va1 a1) {r : Bool} (hF : F_laws_eqInt64S a0 a1 = some r) :
    Calls Tryd.prog 17 [va0, va1].toArray W (Ret fun u w' => u = .bool r ∧ Ext W w') := by
  refine f_enter Tryd.func17 rfl Tryd.ntmps17 rfl ?_
  intro a ha
  replace ha : Fr 26 [(0, va0), (1, va1)] a := ha
  have hE : Chg [] W W := Chg.refl _ _
  unfold F_laws_eqInt64S at hF
  refine wp_seq ?_
  refine wp_region_lit ?_
  refine op_g ha rfl (g_assign rfl) ?_; clear ha a; intro a ha
  refine wpList_nil ?_
  replace ha := ha.sub (σ' := [(0, va0), (1, va1)]) ⟨rfl, rfl, trivial⟩
  refine e_then ?_
  refine wp_seq ?_
  refine wp_seq ?_
  refine wp_region_lit ?_
  refine op_g ha rfl (g_move rfl) ?_; clear ha a; intro a ha
  refine op_g ha rfl (g_lenR sl31.und ha0 rfl) ?_; clear ha a; intro a ha
  refine op_g ha rfl (g_move rfl) ?_; clear ha a; intro a ha
  refine op_g ha rfl (g_lenR sl31.und ha1 rfl) ?_; clear ha a; intro a ha
  refine op_g ha rfl (g_neq rfl rfl) ?_; clear ha a; intro a ha
  refine wpList_nil ?_
  replace ha := ha.sub (σ' := [(0, va0), (1, va1), (10, (.bool (decide ((a0.length : Int) ≠ (a1.length : Int)))))]) ⟨rfl, rfl, rfl, trivial⟩
  refine e_then ?_
  refine c_cond ((a0.length : Int) ≠ (a1.length : Int)) ha rfl (decide_eq_true_iff) (fun hp1 => ?_) (fun hp1 => ?_)
  · replace hF := if_t hp1 hF
    refine wp_seq ?_
    refine wp_region_lit ?_
    refine op_g ha rfl (g_assign rfl) ?_; clear ha a; intro a ha
    refine wpList_nil ?_
    replace ha := ha.sub (σ' := [(4, (.bool false))]) ⟨rfl, trivial⟩
    refine e_then ?_
    refine wp_ret ?_
    refine e_then_ret ?_
    obtain rfl := Option.some.inj hF
    exact f_ret1 ha rfl rfl ⟨rfl, hE⟩
  · replace hF := if_f hp1 hF
    refine wp_skip ?_
    refine e_then ?_
    refine wp_seq ?_
    refine wp_seq ?_
    refine wp_region_lit ?_
    refine op_g ha rfl (g_assign rfl) ?_; clear ha a; intro a ha
    refine wpList_nil ?_
    replace ha := ha.sub (σ' := [(0, va0), (1, va1), (5, (.int .i64 0))]) ⟨rfl, rfl, rfl, trivial⟩
    refine e_then ?_
    obtain ⟨o77, ho78, hK79⟩ := bnd_some hF
    obtain ⟨n80, hn81⟩ := lp_some ho78; clear ho78
    refine c_loop (fun a w => Fr 26 [] a ∧ Chg [] W w ∧ o77 = .inl ()) (fun n a w => ∃ (i39 : Int), Fr 26 [(0, va0), (1, va1), (5, (.int .i64 i39))] a ∧ Chg [] W w ∧ InI i39 ∧ lpN (fun s => F_laws_eqInt64S_l1 a0 a1 s) n i39 = some o77) n80 ⟨0, ha.sub ⟨rfl, rfl, rfl, trivial⟩, hE, (show InI 0 from by decide), hn81⟩ ?_ ?_
    · rintro m85 a w38 ⟨i39, ha, hE41, hI40, hF⟩
      cases m85 with
      | zero => exact (lpN_zero hF).elim
      | succ m85 =>
        obtain ⟨z84, hF, hN83⟩ := lpN_succ hF
        have hF : F_laws_eqInt64S_l1 a0 a1 i39 = some z84 := hF; unfold F_laws_eqInt64S_l1 at hF
        refine wp_seq ?_
        refine wp_seq ?_
        refine wp_region_lit ?_
        refine op_g ha rfl (g_move rfl) ?_; clear ha a; intro a ha
        refine op_g ha rfl (g_move rfl) ?_; clear ha a; intro a ha
        refine op_g ha rfl (g_lenR sl31.und ha0 rfl) ?_; clear ha a; intro a ha
        refine op_g ha rfl (g_lss rfl rfl) ?_; clear ha a; intro a ha
        refine wpList_nil ?_
        replace ha := ha.sub (σ' := [(0, va0), (1, va1), (5, (.int .i64 i39)), (14, (.bool (decide (i39 < (a0.length : Int)))))]) ⟨rfl, rfl, rfl, rfl, trivial⟩
        refine e_then ?_
        refine c_cond (i39 < (a0.length : Int)) ha rfl (decide_eq_true_iff) (fun hp86 => ?_) (fun hp86 => ?_)
        · replace hF := if_t hp86 hF
          refine wp_skip ?_
          refine e_then ?_
          refine wp_seq ?_
          refine wp_block ?_
          refine wp_seq ?_
          refine d_quiet hmix (by kernel_rfl) ?_
          refine q_g ha rfl (g_move rfl) ?_; clear ha a; intro a ha
          refine q_g ha rfl (g_move rfl) ?_; clear ha a; intro a ha
          obtain ⟨x87, g88, gx89, hF⟩ := idx_some hF
          obtain ⟨p90, cs91, f92, hf93, hpb94, hat95, hr96, hi97⟩ := ha0.at g88 gx89
          obtain ⟨rfl, hI98, rfl⟩ := hr96
          refine q_g ha rfl (hi97.gives sl31 rfl rfl) ?_; clear ha a; intro a ha
          refine q_g ha rfl (g_load0 hE41 Tryd.isAgg2 rfl hat95.one) ?_; clear ha a; intro a ha
          refine q_g ha rfl (g_move rfl) ?_; clear ha a; intro a ha
          refine q_g ha rfl (g_move rfl) ?_; clear ha a; intro a ha
          obtain ⟨x99, g100, gx101, hF⟩ := idx_some hF
          obtain ⟨p102, cs103, f104, hf105, hpb106, hat107, hr108, hi109⟩ := ha1.at g100 gx101
          obtain ⟨rfl, hI110, rfl⟩ := hr108
          refine q_g ha rfl (hi109.gives sl31 rfl rfl) ?_; clear ha a; intro a ha
          refine q_g ha rfl (g_load0 hE41 Tryd.isAgg2 rfl hat107.one) ?_; clear ha a; intro a ha
          refine q_g ha rfl (g_neq rfl rfl) ?_; clear ha a; intro a ha
          refine q_nil ?_; intro w111 hx112
          have hE113 := Ext.trans hE41 hx112
          replace ha := ha.sub (σ' := [(0, va0), (1, va1), (5, (.int .i64 i39)), (25, (.bool (decide (x87 ≠ x99))))]) ⟨rfl, rfl, rfl, rfl, trivial⟩
          refine e_then ?_
          refine c_cond (x87 ≠ x99) ha rfl (decide_eq_true_iff) (fun hp114 => ?_) (fun hp114 => ?_)
          · replace hF := if_t hp114 hF
            refine wp_seq ?_
            refine wp_region_lit ?_
            refine op_g ha rfl (g_assign rfl) ?_; clear ha a; intro a ha
            refine wpList_nil ?_
            replace ha := ha.sub (σ' := [(4, (.bool false))]) ⟨rfl, trivial⟩
            refine e_then ?_
            refine wp_ret ?_
            refine e_blk_ret ?_
            refine e_then_ret ?_
            refine e_lq_ret ?_
            refine e_then_ret ?_
            obtain rfl := Option.some.inj hF
            have e115 := LK_inr hN83; subst e115
            have e116 := BK_inr hK79; subst e116
            exact f_ret1 ha rfl rfl ⟨rfl, hE113⟩
          · replace hF := if_f hp114 hF
            refine wp_skip ?_
            refine e_blk ?_
            refine e_then ?_
            refine wp_region_lit ?_
            refine op_g ha rfl (g_move rfl) ?_; clear ha a; intro a ha
            obtain ⟨hI117, hF⟩ := ck_some hF
            refine op_g ha rfl (g_add rfl rfl hI117) ?_; clear ha a; intro a ha
            refine op_g ha rfl (g_assign rfl) ?_; clear ha a; intro a ha
            refine wpList_nil ?_
            replace ha := ha.sub (σ' := [(0, va0), (1, va1), (5, (.int .i64 (i39 + 1)))]) ⟨rfl, rfl, rfl, trivial⟩
            refine e_lq ?_
            obtain rfl := Option.some.inj hF
            exact ⟨_, Nat.lt_succ_self _, i39 + 1, ha.sub ⟨rfl, rfl, rfl, trivial⟩, hE113, hI117, hN83⟩
        · replace hF := if_f hp86 hF
          refine wp_exit ?_
          refine e_then_exit ?_
          refine e_lq_eq ?_
          obtain rfl := Option.some.inj hF
          exact ⟨ha.sub trivial, hE41, (LK_inr hN83).symm⟩
    · rintro a w76 ⟨ha, hE82, rfl⟩
      have hF : F_laws_eqInt64S_k2 = some _ := hK79; clear hK79; unfold F_laws_eqInt64S_k2 at hF
      refine e_then ?_
      refine wp_seq ?_
      refine wp_region_lit ?_
      refine op_g ha rfl (g_assign rfl) ?_; clear ha a; intro a ha
      refine wpList_nil ?_
      refine e_then ?_
      refine wp_ret ?_
      obtain rfl := Option.some.inj hF
      exact f_ret1 ha rfl rfl ⟨rfl, hE82⟩
set_option maxHeartbeats 2000000 in
theorem W_laws_eqInt64SS {W : World} {va0 : Value} {fa0 : List Nat} {a0 : (List (List Int))} (ha0 : Ro (Rp.sl 2 Rp.int) W fa0 va0 a0) {va1 : Value} {fa1 : List Nat} {a1 : (List (List Int))} (ha1 : Ro (Rp.sl 2 Rp.int) W fa1 va1 a1) {r : Bool} (hF : F_laws_eqInt64SS a0 a1 = some r) :
    Calls Tryd.prog 33 [va0, va1].toArray W (Ret fun u w' => u = .bool r ∧ Ext W w') := by
  refine f_enter Tryd.func33 rfl Tryd.ntmps33 rfl ?_
  intro a ha
  replace ha : Fr 27 [(0, va0), (1, va1)] a := ha
  have hE : Chg [] W W := Chg.refl _ _
  unfold F_laws_eqInt64SS at hF
  refine wp_seq ?_
  refine wp_region_lit ?_
  refine op_g ha rfl (g_assign rfl) ?_; clear ha a; intro a ha
  refine wpList_nil ?_
  replace ha := ha.sub (σ' := [(0, va0), (1, va1)]) ⟨rfl, rfl, trivial⟩
  refine e_then ?_
  refine wp_seq ?_
  refine wp_seq ?_
  refine wp_region_lit ?_
  refine op_g ha rfl (g_move rfl) ?_; clear ha a; intro a ha
  refine op_g ha rfl (g_lenR sl22.und ha0 rfl) ?_; clear ha a; intro a ha
  refine op_g ha rfl (g_move rfl) ?_; clear ha a; intro a ha
  refine op_g ha rfl (g_lenR sl22.und ha1 rfl) ?_; clear ha a; intro a ha
  refine op_g ha rfl (g_neq rfl rfl) ?_; clear ha a; intro a ha
  refine wpList_nil ?_
  replace ha := ha.sub (σ' := [(0, va0), (1, va1), (10, (.bool (decide ((a0.length : Int) ≠ (a1.length : Int)))))]) ⟨rfl, rfl, rfl, trivial⟩
  refine e_then ?_
  refine c_cond ((a0.length : Int) ≠ (a1.length : Int)) ha rfl (decide_eq_true_iff) (fun hp1 => ?_) (fun hp1 => ?_)
  · replace hF := if_t hp1 hF
    refine wp_seq ?_
    refine wp_region_lit ?_
    refine op_g ha rfl (g_assign rfl) ?_; clear ha a; intro a ha
    refine wpList_nil ?_
    replace ha := ha.sub (σ' := [(4, (.bool false))]) ⟨rfl, trivial⟩
    refine e_then ?_
    refine wp_ret ?_
    refine e_then_ret ?_
    obtain rfl := Option.some.inj hF
    exact f_ret1 ha rfl rfl ⟨rfl, hE⟩
  · replace hF := if_f hp1 hF
    refine wp_skip ?_
    refine e_then ?_
    refine wp_seq ?_
    refine wp_seq ?_
    refine wp_region_lit ?_
    refine op_g ha rfl (g_assign rfl) ?_; clear ha a; intro a ha
    refine wpList_nil ?_
    replace ha := ha.sub (σ' := [(0, va0), (1, va1), (5, (.int .i64 0))]) ⟨rfl, rfl, rfl, trivial⟩
    refine e_then ?_
    obtain ⟨o93, ho94, hK95⟩ := bnd_some hF
    obtain ⟨n96, hn97⟩ := lp_some ho94; clear ho94
    refine c_loop (fun a w => Fr 27 [] a ∧ Chg [] W w ∧ o93 = .inl ()) (fun n a w => ∃ (i47 : Int), Fr 27 [(0, va0), (1, va1), (5, (.int .i64 i47))] a ∧ Chg [] W w ∧ InI i47 ∧ lpN (fun s => F_laws_eqInt64SS_l1 a0 a1 s) n i47 = some o93) n96 ⟨0, ha.sub ⟨rfl, rfl, rfl, trivial⟩, hE, (show InI 0 from by decide), hn97⟩ ?_ ?_
    · rintro m101 a w46 ⟨i47, ha, hE49, hI48, hF⟩
      cases m101 with
      | zero => exact (lpN_zero hF).elim
      | succ m101 =>
        obtain ⟨z100, hF, hN99⟩ := lpN_succ hF
        have hF : F_laws_eqInt64SS_l1 a0 a1 i47 = some z100 := hF; unfold F_laws_eqInt64SS_l1 at hF
        refine wp_seq ?_
        refine wp_seq ?_
        refine wp_region_lit ?_
        refine op_g ha rfl (g_move rfl) ?_; clear ha a; intro a ha
        refine op_g ha rfl (g_move rfl) ?_; clear ha a; intro a ha
        refine op_g ha rfl (g_lenR sl22.und ha0 rfl) ?_; clear ha a; intro a ha
        refine op_g ha rfl (g_lss rfl rfl) ?_; clear ha a; intro a ha
        refine wpList_nil ?_
        replace ha := ha.sub (σ' := [(0, va0), (1, va1), (5, (.int .i64 i47)), (14, (.bool (decide (i47 < (a0.length : Int)))))]) ⟨rfl, rfl, rfl, rfl, trivial⟩
        refine e_then ?_
        refine c_cond (i47 < (a0.length : Int)) ha rfl (decide_eq_true_iff) (fun hp102 => ?_) (fun hp102 => ?_)
        · replace hF := if_t hp102 hF
          refine wp_skip ?_
          refine e_then ?_
          refine wp_seq ?_
          refine wp_block ?_
          refine wp_seq ?_
          refine d_quiet hmix (by kernel_rfl) ?_
          refine q_g ha rfl (g_move rfl) ?_; clear ha a; intro a ha
          refine q_g ha rfl (g_move rfl) ?_; clear ha a; intro a ha
          obtain ⟨x103, g104, gx105, hF⟩ := idx_some hF
          obtain ⟨p106, cs107, f108, hf109, hpb110, hat111, hr112, hi113⟩ := ha0.at g104 gx105
          obtain ⟨v114, rfl, h115⟩ := hr112
          have h115 : Ro Rp.int W f108 v114 x103 := h115
          refine q_g ha rfl (hi113.gives sl22 rfl rfl) ?_; clear ha a; intro a ha
          refine q_g ha rfl (g_load0 hE49 Tryd.isAgg31 rfl hat111.one) ?_; clear ha a; intro a ha
          refine q_g ha rfl (g_move rfl) ?_; clear ha a; intro a ha
          refine q_g ha rfl (g_move rfl) ?_; clear ha a; intro a ha
          obtain ⟨x117, g118, gx119, hF⟩ := idx_some hF
          obtain ⟨p120, cs121, f122, hf123, hpb124, hat125, hr126, hi127⟩ := ha1.at g118 gx119
          obtain ⟨v128, rfl, h129⟩ := hr126
          have h129 : Ro Rp.int W f122 v128 x117 := h129
          refine q_g ha rfl (hi127.gives sl22 rfl rfl) ?_; clear ha a; intro a ha
          refine q_g ha rfl (g_load0 hE49 Tryd.isAgg31 rfl hat125.one) ?_; clear ha a; intro a ha
          obtain ⟨x133, hc134, hF⟩ := cal_some hF
          refine q_call (.bool x133) ha rfl rfl Tryd.call17 (fun w132 hx131 => W_laws_eqInt64S (h115.ext (Ext.trans hE49 hx131)) (h129.ext (Ext.trans hE49 hx131)) hc134) (fun _ _ _ h => ⟨h.1, h.2⟩) ?_; clear ha a; intro a ha
          refine q_g ha rfl (g_not rfl) ?_; clear ha a; intro a ha
          refine q_nil ?_; intro w135 hx136
          have hE137 := Ext.trans hE49 hx136
          replace ha := ha.sub (σ' := [(0, va0), (1, va1), (5, (.int .i64 i47)), (26, (.bool (!x133)))]) ⟨rfl, rfl, rfl, rfl, trivial⟩
          refine e_then ?_
          refine c_cond (¬ (x133 = true)) ha rfl (n_iff (Iff.rfl)) (fun hp138 => ?_) (fun hp138 => ?_)
          · replace hF := if_t hp138 hF
            refine wp_seq ?_
            refine wp_region_lit ?_
            refine op_g ha rfl (g_assign rfl) ?_; clear ha a; intro a ha
            refine wpList_nil ?_
            replace ha := ha.sub (σ' := [(4, (.bool false))]) ⟨rfl, trivial⟩
            refine e_then ?_
            refine wp_ret ?_
            refine e_blk_ret ?_
            refine e_then_ret ?_
            refine e_lq_ret ?_
            refine e_then_ret ?_
            obtain rfl := Option.some.inj hF
            have e139 := LK_inr hN99; subst e139
            have e140 := BK_inr hK95; subst e140
            exact f_ret1 ha rfl rfl ⟨rfl, hE137⟩
          · replace hF := if_f hp138 hF
            refine wp_skip ?_
            refine e_blk ?_
            refine e_then ?_
            refine wp_region_lit ?_
            refine op_g ha rfl (g_move rfl) ?_; clear ha a; intro a ha
            obtain ⟨hI141, hF⟩ := ck_some hF
            refine op_g ha rfl (g_add rfl rfl hI141) ?_; clear ha a; intro a ha
            refine op_g ha rfl (g_assign rfl) ?_; clear ha a; intro a ha
            refine wpList_nil ?_
            replace ha := ha.sub (σ' := [(0, va0), (1, va1), (5, (.int .i64 (i47 + 1)))]) ⟨rfl, rfl, rfl, trivial⟩
            refine e_lq ?_
            obtain rfl := Option.some.inj hF
            exact ⟨_, Nat.lt_succ_self _, i47 + 1, ha.sub ⟨rfl, rfl, rfl, trivial⟩, hE137, hI141, hN99⟩
        · replace hF := if_f hp102 hF
          refine wp_exit ?_
          refine e_then_exit ?_
          refine e_lq_eq ?_
          obtain rfl := Option.some.inj hF
          exact ⟨ha.sub trivial, hE49, (LK_inr hN99).symm⟩
    · rintro a w92 ⟨ha, hE98, rfl⟩
      have hF : F_laws_eqInt64SS_k2 = some _ := hK95; clear hK95; unfold F_laws_eqInt64SS_k2 at hF
      refine e_then ?_
      refine wp_seq ?_
      refine wp_region_lit ?_
      refine op_g ha rfl (g_assign rfl) ?_; clear ha a; intro a ha
      refine wpList_nil ?_
      refine e_then ?_
      refine wp_ret ?_
      obtain rfl := Option.some.inj hF
      exact f_ret1 ha rfl rfl ⟨rfl, hE98⟩
set_option maxHeartbeats 2000000 in
theorem W_laws_eqGraph {W : World} {va0_0 : Value} {fa0_0 : List Nat} {a0_0 : (List (List Int))} (ha0_0 : Ro (Rp.sl 2 Rp.int) W fa0_0 va0_0 a0_0) {va1_0 : Value} {fa1_0 : List Nat} {a1_0 : (List (List Int))} (ha1_0 : Ro (Rp.sl 2 Rp.int) W fa1_0 va1_0 a1_0) {r : Bool} (hF : F_laws_eqGraph a0_0 a1_0 = some r) :
    Calls Tryd.prog 13 [.agg #[va0_0], .agg #[va1_0]].toArray W (Ret fun u w' => u = .bool r ∧ Ext W w') := by
  refine f_enter Tryd.func13 rfl Tryd.ntmps13 rfl ?_
  intro a ha
  replace ha : Fr 11 [(0, (.agg #[va0_0])), (1, (.agg #[va1_0]))] a := ha
  have hE : Chg [] W W := Chg.refl _ _
  unfold F_laws_eqGraph at hF
  refine wp_seq ?_
  refine wp_region_lit ?_
  refine o_box ha rfl rfl rfl ?_; clear ha a; intro b1 w2 hB3 hx4 hlo5 a ha
  have q6 := Zn.one hlo5
  have q7 := Zn.upD q6 hE
  have hE8 := Ext.trans hE hx4
  refine o_box ha rfl rfl rfl ?_; clear ha a; intro b9 w10 hB11 hx12 hlo13 a ha
  have q14 := Zn.one hlo13
  have q15 := Nq.new hB3.fpb q14
  have q16 := Nq.made1 hlo13 hB3.bi
  have q17 := Zn.upD q14 hE8
  replace hB3 := hB3.ext hx12
  have hE18 := Ext.trans hE8 hx12
  refine op_g ha rfl (g_assign rfl) ?_; clear ha a; intro a ha
  refine wpList_nil ?_
  replace ha := ha.sub (σ' := [(2, (.pointer (some ⟨b1, 0, none⟩))), (3, (.pointer (some ⟨b9, 0, none⟩)))]) ⟨rfl, rfl, trivial⟩
  refine e_then ?_
  refine wp_seq ?_
  refine wp_seq ?_
  refine wp_region_lit ?_
  refine op_g ha rfl (g_field0 st27_0 rfl) ?_; clear ha a; intro a ha
  refine op_g ha rfl (g_load Tryd.isAgg22 rfl (hB3.cell rfl)) ?_; clear ha a; intro a ha
  refine op_g ha rfl (g_field0 st27_0 rfl) ?_; clear ha a; intro a ha
  refine op_g ha rfl (g_load Tryd.isAgg22 rfl (hB11.cell rfl)) ?_; clear ha a; intro a ha
  obtain ⟨x19, hc20, hF⟩ := cal_some hF
  refine o_call ha rfl rfl Tryd.call33 (W_laws_eqInt64SS (ha0_0.ext hE18) (ha1_0.ext hE18) hc20) ?_; clear ha a; rintro v21 w22 ⟨rfl, hx23⟩ a ha
  replace hB3 := hB3.ext hx23
  replace hB11 := hB11.ext hx23
  have hE24 := Ext.trans hE18 hx23
  refine op_g ha rfl (g_not rfl) ?_; clear ha a; intro a ha
  refine wpList_nil ?_
  replace ha := ha.sub (σ' := [(10, (.bool (!x19)))]) ⟨rfl, trivial⟩
  refine e_then ?_
  refine c_cond (¬ (x19 = true)) ha rfl (n_iff (Iff.rfl)) (fun hp25 => ?_) (fun hp25 => ?_)
  · replace hF := if_t hp25 hF
    refine wp_seq ?_
    refine wp_region_lit ?_
    refine op_g ha rfl (g_assign rfl) ?_; clear ha a; intro a ha
    refine wpList_nil ?_
    replace ha := ha.sub (σ' := [(4, (.bool false))]) ⟨rfl, trivial⟩
    refine e_then ?_
    refine wp_ret ?_
    refine e_then_ret ?_
    obtain rfl := Option.some.inj hF
    exact f_ret1 ha rfl rfl ⟨rfl, hE24⟩
  · replace hF := if_f hp25 hF
    refine wp_skip ?_
    refine e_then ?_
    refine wp_seq ?_
    refine wp_region_lit ?_
    refine op_g ha rfl (g_assign rfl) ?_; clear ha a; intro a ha
    refine wpList_nil ?_
    replace ha := ha.sub (σ' := [(4, (.bool true))]) ⟨rfl, trivial⟩
    refine e_then ?_
    refine wp_ret ?_
    obtain rfl := Option.some.inj hF
    exact f_ret1 ha rfl rfl ⟨rfl, hE24⟩
set_option maxHeartbeats 2000000 in
theorem W_laws_FnExactOddParts {W : World} {va0_0 : Value} {fa0_0 : List Nat} {a0_0 : (List (List Int))} (ha0_0 : Ro (Rp.sl 2 Rp.int) W fa0_0 va0_0 a0_0) {va1 : Value} {fa1 : List Nat} {a1 : (List Int)} (ha1 : Ro Rp.int W fa1 va1 a1) (hG : GT 0 W) {r : Bool} (hF : F_laws_FnExactOddParts a0_0 a1 = some r) :
    Calls Tryd.prog 4 [.agg #[va0_0], va1].toArray W (Ret fun u w' => u = .bool r ∧ Ext W w') := by
  refine f_enter Tryd.func4 rfl Tryd.ntmps4 rfl ?_
  intro a ha
  replace ha : Fr 43 [(0, (.agg #[va0_0])), (1, va1)] a := ha
  have hE : Chg [] W W := Chg.refl _ _
  unfold F_laws_FnExactOddParts at hF
  refine wp_seq ?_
  refine wp_region_lit ?_
  refine o_box ha rfl rfl rfl ?_; clear ha a; intro b1 w2 hB3 hx4 hlo5 a ha
  have q6 := Zn.one hlo5
  have q7 := Zn.upD q6 hE
  have hE8 := Ext.trans hE hx4
  refine op_g ha rfl (g_assign rfl) ?_; clear ha a; intro a ha
  refine wpList_nil ?_
  replace ha := ha.sub (σ' := [(1, va1), (2, (.pointer (some ⟨b1, 0, none⟩)))]) ⟨rfl, rfl, trivial⟩
  refine e_then ?_
  refine wp_seq ?_
  refine wp_seq ?_
  refine wp_region_lit ?_
  refine op_g ha rfl (g_move rfl) ?_; clear ha a; intro a ha
  refine op_g ha rfl (g_lenR sl31.und ha1 rfl) ?_; clear ha a; intro a ha
  refine op_g ha rfl (g_gtr rfl rfl) ?_; clear ha a; intro a ha
  refine wpList_nil ?_
  replace ha := ha.sub (σ' := [(1, va1), (2, (.pointer (some ⟨b1, 0, none⟩))), (12, (.bool (decide (1048576 < (a1.length : Int)))))]) ⟨rfl, rfl, rfl, trivial⟩
  refine e_then ?_
  refine c_cond (1048576 < (a1.length : Int)) ha rfl (decide_eq_true_iff) (fun hp9 => ?_) (fun hp9 => ?_)
  · replace hF := if_t hp9 hF
    refine wp_seq ?_
    refine wp_region_lit ?_
    refine op_g ha rfl (g_assign rfl) ?_; clear ha a; intro a ha
    refine wpList_nil ?_
    replace ha := ha.sub (σ' := [(4, (.bool true))]) ⟨rfl, trivial⟩
    refine e_then ?_
    refine wp_ret ?_
    refine e_then_ret ?_
    obtain rfl := Option.some.inj hF
    exact f_ret1 ha rfl rfl ⟨rfl, hE8⟩
  · replace hF := if_f hp9 hF
    refine wp_skip ?_
    refine e_then ?_
    refine wp_seq ?_
    refine wp_region_lit ?_
    refine op_g ha rfl (g_assign rfl) ?_; clear ha a; intro a ha
    refine wpList_nil ?_
    replace ha := ha.sub (σ' := [(1, va1), (2, (.pointer (some ⟨b1, 0, none⟩))), (5, (.int .i64 1048576))]) ⟨rfl, rfl, rfl, trivial⟩
    refine e_then ?_
    refine wp_seq ?_
    refine wp_region_lit ?_
    refine op_g ha rfl (g_loadA (cs := [va0_0]) Tryd.isAgg24 Tryd.sizeOf24 rfl (by simp) hB3.all) ?_; clear ha a; intro a ha
    refine op_g ha rfl (g_move rfl) ?_; clear ha a; intro a ha
    obtain ⟨x10, hc11, hF⟩ := cal_some hF
    refine o_call ha rfl rfl Tryd.call9 (W_laws_szGraph (ha0_0.ext hE8) (show InI 1048576 from by decide) hc11) ?_; clear ha a; rintro v12 w13 ⟨⟨rfl, hI15⟩, hx14⟩ a ha
    replace hB3 := hB3.ext hx14
    have hE16 := Ext.trans hE8 hx14
    refine op_g ha rfl (g_assign rfl) ?_; clear ha a; intro a ha
    refine wpList_nil ?_
    replace ha := ha.sub (σ' := [(1, va1), (2, (.pointer (some ⟨b1, 0, none⟩))), (5, (.int .i64 x10))]) ⟨rfl, rfl, rfl, trivial⟩
    refine e_then ?_
    refine wp_seq ?_
    refine wp_seq ?_
    refine wp_region_lit ?_
    refine op_g ha rfl (g_move rfl) ?_; clear ha a; intro a ha
    refine op_g ha rfl (g_lss rfl rfl) ?_; clear ha a; intro a ha
    refine wpList_nil ?_
    replace ha := ha.sub (σ' := [(1, va1), (2, (.pointer (some ⟨b1, 0, none⟩))), (17, (.bool (decide (x10 < 0))))]) ⟨rfl, rfl, rfl, trivial⟩
    refine e_then ?_
    refine c_cond (x10 < 0) ha rfl (decide_eq_true_iff) (fun hp17 => ?_) (fun hp17 => ?_)
    · replace hF := if_t hp17 hF
      refine wp_seq ?_
      refine wp_region_lit ?_
      refine op_g ha rfl (g_assign rfl) ?_; clear ha a; intro a ha
      refine wpList_nil ?_
      replace ha := ha.sub (σ' := [(4, (.bool true))]) ⟨rfl, trivial⟩
      refine e_then ?_
      refine wp_ret ?_
      refine e_then_ret ?_
      obtain rfl := Option.some.inj hF
      exact f_ret1 ha rfl rfl ⟨rfl, hE16⟩
    · replace hF := if_f hp17 hF
      refine wp_skip ?_
      refine e_then ?_
      refine wp_seq ?_
      refine wp_region_lit ?_
      refine op_g ha rfl (g_loadA (cs := [va0_0]) Tryd.isAgg24 Tryd.sizeOf24 rfl (by simp) hB3.all) ?_; clear ha a; intro a ha
      obtain ⟨x18, hc19, hF⟩ := cal_some hF
      refine o_call ha rfl rfl Tryd.call11 (W_laws_toGraph (ha0_0.ext hE16) hc19) ?_; clear ha a; rintro v20 w21 ⟨u23, b24, fs28, rfl, h25, z26, zf29, nd30, hx22⟩ a ha
      have q31 := Nq.new hB3.fpb z26
      have q32 := Nq.madeF z26 zf29 hB3.bi
      have q33 := Nf.new hB3.fpb zf29
      replace hB3 := hB3.ext hx22
      have hE34 := Ext.trans hE16 hx22
      have q35 := Zn.upD z26 hE16
      have q36 := zf_up zf29 hE16
      refine op_g ha rfl (g_move rfl) ?_; clear ha a; intro a ha
      obtain ⟨x37, hc38, hF⟩ := cal_some hF
      refine o_call ha rfl rfl Tryd.call15 (W_laws_toInt64S (ha1.ext hE34) hc38) ?_; clear ha a; rintro v39 w40 ⟨b42, h43, z44, hx41⟩ a ha
      have q46 := Nq.new hB3.fpb z44
      have q47 := Nq.madeO z44 hB3.bi
      have q48 := Nq.new h25.fpb z44
      have q49 := Nq.madeO z44 h25.blt
      have q50 := Nf.old z44 (zf_nil _) h25.bnd
      replace hB3 := hB3.ext hx41
      replace h25 := h25.ext hx41
      have hE51 := Ext.trans hE34 hx41
      have q52 := Zn.upD z44 hE34
      obtain ⟨fp53, hro54, hs55⟩ := h25.roF
      obtain ⟨fp56, hro57, hs58⟩ := h43.roF
      obtain ⟨x59, hc60, hF⟩ := cal_some hF
      refine o_call ha rfl rfl Tryd.call14 (W_spec_OddParts hro54 hro57 hc60) ?_; clear ha a; rintro v61 w62 ⟨⟨rfl, hI64⟩, hx63⟩ a ha
      replace hB3 := hB3.ext hx63
      replace h25 := h25.ext hx63
      replace h43 := h43.ext hx63
      have hE65 := Ext.trans hE51 hx63
      refine op_g ha rfl (g_assign rfl) ?_; clear ha a; intro a ha
      refine wpList_nil ?_
      replace ha := ha.sub (σ' := [(1, va1), (2, (.pointer (some ⟨b1, 0, none⟩))), (6, (.int .i64 x59))]) ⟨rfl, rfl, rfl, trivial⟩
      refine e_then ?_
      refine wp_seq ?_
      refine wp_region_lit ?_
      refine op_g ha rfl (g_loadA (cs := [va0_0]) Tryd.isAgg24 Tryd.sizeOf24 rfl (by simp) hB3.all) ?_; clear ha a; intro a ha
      obtain ⟨x66, hc67, hF⟩ := cal_some hF
      refine o_call ha rfl rfl Tryd.call11 (W_laws_toGraph (ha0_0.ext hE65) hc67) ?_; clear ha a; rintro v68 w69 ⟨u71, b72, fs76, rfl, h73, z74, zf77, nd78, hx70⟩ a ha
      have q79 := Nq.new hB3.fpb z74
      have q80 := Nq.madeF z74 zf77 hB3.bi
      have q81 := Nf.new hB3.fpb zf77
      replace hB3 := hB3.ext hx70
      have hE82 := Ext.trans hE65 hx70
      have q83 := Zn.upD z74 hE65
      have q84 := zf_up zf77 hE65
      refine o_alloc (cs := [(.slice none 0 0)]) ha rfl Tryd.zeroValue27 rfl ?_; clear ha a; intro b85 w86 hB87 hx88 hlo89 a ha
      have q90 := Zn.one hlo89
      have q91 := Nq.new hB3.fpb q90
      have q92 := Nq.made1 hlo89 hB3.bi
      have q93 := Nq.new h73.fpb q90
      have q94 := Nq.made1 hlo89 h73.blt
      have q95 := Zn.upD q90 hE82
      replace hB3 := hB3.ext hx88
      replace h73 := h73.ext hx88
      have hE96 := Ext.trans hE82 hx88
      refine o_storeA (vs := [u71]) ha hB87 Tryd.sizeOf27 rfl rfl (by intro c hc; simp only [List.mem_cons, List.not_mem_nil, or_false] at hc; rcases hc with hc <;> subst hc <;> first | rfl | exact h73.oneC) rfl ?_; intro w97 hB98 hc99
      replace hc99 := hc99.bl
      replace hB98 : Bx w97 b85 [u71] 27 := hB98
      replace hB3 := hB3.nq hc99 q91
      replace h73 := h73.nq hc99 q93
      have hE100 := Ext.then hE96 hc99 (Zn.bl q95)
      refine wpList_nil ?_
      replace ha := ha.sub (σ' := [(1, va1), (2, (.pointer (some ⟨b1, 0, none⟩))), (6, (.int .i64 x59)), (7, (.pointer (some ⟨b85, 0, none⟩)))]) ⟨rfl, rfl, rfl, rfl, trivial⟩
      refine e_then ?_
      refine wp_seq ?_
      refine wp_region_lit ?_
      refine op_g ha rfl (g_move rfl) ?_; clear ha a; intro a ha
      obtain ⟨x101, hc102, hF⟩ := cal_some hF
      refine o_call ha rfl rfl Tryd.call15 (W_laws_toInt64S (ha1.ext hE100) hc102) ?_; clear ha a; rintro v103 w104 ⟨b106, h107, z108, hx105⟩ a ha
      have q110 := Nq.new hB3.fpb z108
      have q111 := Nq.madeO z108 hB3.bi
      have q112 := Nq.new h73.fpb z108
      have q113 := Nq.madeO z108 h73.blt
      have q114 := Nq.new hB98.fpb z108
      have q115 := Nq.madeO z108 hB98.bi
      have q116 := Nf.old z108 (zf_nil _) h73.bnd
      replace hB3 := hB3.ext hx105
      replace h73 := h73.ext hx105
      replace hB98 := hB98.ext hx105
      have hE117 := Ext.trans hE100 hx105
      have q118 := Zn.upD z108 hE100
      refine op_g ha rfl (g_assign rfl) ?_; clear ha a; intro a ha
      refine wpList_nil ?_
      replace ha := ha.sub (σ' := [(1, va1), (2, (.pointer (some ⟨b1, 0, none⟩))), (6, (.int .i64 x59)), (7, (.pointer (some ⟨b85, 0, none⟩))), (8, v103)]) ⟨rfl, rfl, rfl, rfl, rfl, trivial⟩
      refine e_then ?_
      refine wp_seq ?_
      refine wp_region_lit ?_
      refine op_g ha rfl (g_loadA (cs := [u71]) Tryd.isAgg27 Tryd.sizeOf27 rfl (by simp) hB98.all) ?_; clear ha a; intro a ha
      refine op_g ha rfl (g_move rfl) ?_; clear ha a; intro a ha
      obtain ⟨fp119, hro120, hs121⟩ := h73.roF
      obtain ⟨fp122, hro123, hs124⟩ := h107.roF
      obtain ⟨x125, hc126, hF⟩ := cal_some hF
      refine o_call ha rfl rfl Tryd.call16 (W_impl_OddParts hro120 hro123 (hG.ext hE117) hc126) ?_; clear ha a; rintro v127 w128 ⟨⟨rfl, hI130⟩, hx129⟩ a ha
      replace hB3 := hB3.ext hx129
      replace h73 := h73.ext hx129
      replace hB98 := hB98.ext hx129
      replace h107 := h107.ext hx129
      have hE131 := Ext.trans hE117 hx129
      refine op_g ha rfl (g_assign rfl) ?_; clear ha a; intro a ha
      refine wpList_nil ?_
      replace ha := ha.sub (σ' := [(1, va1), (2, (.pointer (some ⟨b1, 0, none⟩))), (6, (.int .i64 x59)), (7, (.pointer (some ⟨b85, 0, none⟩))), (8, v103), (9, (.int .i64 x125))]) ⟨rfl, rfl, rfl, rfl, rfl, rfl, trivial⟩
      refine e_then ?_
      refine wp_seq ?_
      refine wp_seq ?_
      refine wp_region_lit ?_
      refine op_g ha rfl (g_move rfl) ?_; clear ha a; intro a ha
      refine op_g ha rfl (g_move rfl) ?_; clear ha a; intro a ha
      refine op_g ha rfl (g_neq rfl rfl) ?_; clear ha a; intro a ha
      refine wpList_nil ?_
      replace ha := ha.sub (σ' := [(1, va1), (2, (.pointer (some ⟨b1, 0, none⟩))), (7, (.pointer (some ⟨b85, 0, none⟩))), (8, v103), (32, (.bool (decide (x125 ≠ x59))))]) ⟨rfl, rfl, rfl, rfl, rfl, trivial⟩
      refine e_then ?_
      refine c_cond (x125 ≠ x59) ha rfl (decide_eq_true_iff) (fun hp132 => ?_) (fun hp132 => ?_)
      · replace hF := if_t hp132 hF
        refine wp_seq ?_
        refine wp_region_lit ?_
        refine op_g ha rfl (g_assign rfl) ?_; clear ha a; intro a ha
        refine wpList_nil ?_
        replace ha := ha.sub (σ' := [(4, (.bool false))]) ⟨rfl, trivial⟩
        refine e_then ?_
        refine wp_ret ?_
        refine e_then_ret ?_
        obtain rfl := Option.some.inj hF
        exact f_ret1 ha rfl rfl ⟨rfl, hE131⟩
      · replace hF := if_f hp132 hF
        refine wp_skip ?_
        refine e_then ?_
        refine wp_seq ?_
        refine wp_seq ?_
        refine d_region 5 hmix ?_
        refine u_g 0 rfl (by kernel_rfl) (want0 _) ha rfl (g_loadA (cs := [u71]) Tryd.isAgg27 Tryd.sizeOf27 rfl (by simp) hB98.all) ?_; clear ha a; intro a ha
        refine u_g 1 rfl (by kernel_rfl) (want0 _) ha rfl (g_loadA (cs := [va0_0]) Tryd.isAgg24 Tryd.sizeOf24 rfl (by simp) hB3.all) ?_; clear ha a; intro a ha
        refine u_only 2 rfl (by kernel_rfl) ?_; intro w133 hx134
        replace hB3 := hB3.ext hx134
        replace h73 := h73.ext hx134
        replace hB98 := hB98.ext hx134
        replace h107 := h107.ext hx134
        have hE135 := Ext.trans hE131 hx134
        obtain ⟨x136, hc137, hF⟩ := cal_some hF
        refine o_call ha rfl rfl Tryd.call11 (W_laws_toGraph (ha0_0.ext hE135) hc137) ?_; clear ha a; rintro v138 w139 ⟨u141, b142, fs146, rfl, h143, z144, zf147, nd148, hx140⟩ a ha
        have q149 := Nq.new hB3.fpb z144
        have q150 := Nq.madeF z144 zf147 hB3.bi
        have q151 := Nq.new h73.fpb z144
        have q152 := Nq.madeF z144 zf147 h73.blt
        have q153 := Nq.new hB98.fpb z144
        have q154 := Nq.madeF z144 zf147 hB98.bi
        have q155 := Nq.new h107.fpb z144
        have q156 := Nq.madeF z144 zf147 h107.blt
        have q157 := Nf.new hB3.fpb zf147
        have q158 := Nf.new h73.fpb zf147
        have q159 := Nf.old z144 zf147 h73.bnd
        have q160 := Nf.new hB98.fpb zf147
        have q161 := Nf.new h107.fpb zf147
        replace hB3 := hB3.ext hx140
        replace h73 := h73.ext hx140
        replace hB98 := hB98.ext hx140
        replace h107 := h107.ext hx140
        have hE162 := Ext.trans hE135 hx140
        have q163 := Zn.upD z144 hE135
        have q164 := zf_up zf147 hE135
        refine wpList_nil (e_sq ?_)
        refine ⟨fun _ => hx140, ?_⟩
        obtain ⟨fp167, hro168, hs169⟩ := h73.roF
        obtain ⟨fp170, hro171, hs172⟩ := h143.roF
        obtain ⟨x173, hc174, hF⟩ := cal_some hF
        refine u_call (.bool x173) 3 rfl (by kernel_rfl) (want0 _) ha rfl rfl Tryd.call13 (fun w166 hx165 => W_laws_eqGraph (hro168.ext hx165) (hro171.ext hx165) hc174) (fun _ _ _ h => ⟨h.1, h.2⟩) ?_; clear ha a; intro a ha
        refine u_g 4 rfl (by kernel_rfl) (want0 _) ha rfl (g_not rfl) ?_; clear ha a; intro a ha
        refine u_done (by kernel_rfl) ?_; intro w175 hx176
        replace hB3 := hB3.ext hx176
        replace h73 := h73.ext hx176
        replace hB98 := hB98.ext hx176
        replace h107 := h107.ext hx176
        replace h143 := h143.ext hx176
        have hE177 := Ext.trans hE162 hx176
        replace ha := ha.sub (σ' := [(1, va1), (8, v103), (37, (.bool (!x173)))]) ⟨rfl, rfl, rfl, trivial⟩
        refine e_then ?_
        refine c_cond (¬ (x173 = true)) ha rfl (n_iff (Iff.rfl)) (fun hp178 => ?_) (fun hp178 => ?_)
        · replace hF := if_t hp178 hF
          refine wp_seq ?_
          refine wp_region_lit ?_
          refine op_g ha rfl (g_assign rfl) ?_; clear ha a; intro a ha
          refine wpList_nil ?_
          replace ha := ha.sub (σ' := [(4, (.bool false))]) ⟨rfl, trivial⟩
          refine e_then ?_
          refine wp_ret ?_
          refine e_then_ret ?_
          obtain rfl := Option.some.inj hF
          exact f_ret1 ha rfl rfl ⟨rfl, hE177⟩
        · replace hF := if_f hp178 hF
          refine wp_skip ?_
          refine e_then ?_
          refine wp_seq ?_
          refine wp_seq ?_
          refine wp_region_lit ?_
          refine op_g ha rfl (g_move rfl) ?_; clear ha a; intro a ha
          refine op_g ha rfl (g_move rfl) ?_; clear ha a; intro a ha
          obtain ⟨x179, hc180, hF⟩ := cal_some hF
          refine o_call ha rfl rfl Tryd.call15 (W_laws_toInt64S (ha1.ext hE177) hc180) ?_; clear ha a; rintro v181 w182 ⟨b184, h185, z186, hx183⟩ a ha
          have q188 := Nq.new h107.fpb z186
          have q189 := Nq.madeO z186 h107.blt
          replace h107 := h107.ext hx183
          have hE190 := Ext.trans hE177 hx183
          have q191 := Zn.upD z186 hE177
          obtain ⟨fp192, hro193, hs194⟩ := h107.roF
          obtain ⟨fp195, hro196, hs197⟩ := h185.roF
          obtain ⟨x198, hc199, hF⟩ := cal_some hF
          refine o_call ha rfl rfl Tryd.call17 (W_laws_eqInt64S hro193 hro196 hc199) ?_; clear ha a; rintro v200 w201 ⟨rfl, hx202⟩ a ha
          replace h107 := h107.ext hx202
          replace h185 := h185.ext hx202
          have hE203 := Ext.trans hE190 hx202
          refine op_g ha rfl (g_not rfl) ?_; clear ha a; intro a ha
          refine wpList_nil ?_
          replace ha := ha.sub (σ' := [(42, (.bool (!x198)))]) ⟨rfl, trivial⟩
          refine e_then ?_
          refine c_cond (¬ (x198 = true)) ha rfl (n_iff (Iff.rfl)) (fun hp204 => ?_) (fun hp204 => ?_)
          · replace hF := if_t hp204 hF
            refine wp_seq ?_
            refine wp_region_lit ?_
            refine op_g ha rfl (g_assign rfl) ?_; clear ha a; intro a ha
            refine wpList_nil ?_
            replace ha := ha.sub (σ' := [(4, (.bool false))]) ⟨rfl, trivial⟩
            refine e_then ?_
            refine wp_ret ?_
            refine e_then_ret ?_
            obtain rfl := Option.some.inj hF
            exact f_ret1 ha rfl rfl ⟨rfl, hE203⟩
          · replace hF := if_f hp204 hF
            refine wp_skip ?_
            refine e_then ?_
            refine wp_seq ?_
            refine wp_region_lit ?_
            refine op_g ha rfl (g_assign rfl) ?_; clear ha a; intro a ha
            refine wpList_nil ?_
            replace ha := ha.sub (σ' := [(4, (.bool true))]) ⟨rfl, trivial⟩
            refine e_then ?_
            refine wp_ret ?_
            obtain rfl := Option.some.inj hF
            exact f_ret1 ha rfl rfl ⟨rfl, hE203⟩
end Go.Proofs.YtlbgoodonecebaaDoor
