/- Walks, printed by gen.py. -/
import Derived.Test.YtadagcgehcpelaaDoorF
import Derived.Test.YtadagcgehcpelaaDoorW2
import Derived.Test.YtadagcgehcpelaaDoorProg
import Derived.KernelRfl
set_option maxRecDepth 100000
namespace Go.Proofs.YtadagcgehcpelaaDoor
open Go Go.RowKit

set_option maxHeartbeats 2000000 in
theorem W_impl_reach {W : World} {va0 : Value} {fa0 : List Nat} {a0 : (List (BitVec 32))} (ha0 : Ro Rp.u32 W fa0 va0 a0) {a1 : Int} (ha1 : InI a1) {a2 : BitVec 32} (hG : GT 0 W) {r : (BitVec 32)} (hF : F_impl_reach a0 a1 a2 = some r) :
    Calls Tryd.prog 71 [va0, .int .i64 a1, .int .u32 (BitVec.toNat a2 : Int)].toArray W (Ret fun u w' => u = .int .u32 (BitVec.toNat r : Int) ∧ Ext W w') := by
  refine f_enter Tryd.func71 rfl Tryd.ntmps71 rfl ?_
  intro a ha
  replace ha : Fr 35 [(0, va0), (1, (.int .i64 a1)), (2, (.int .u32 (BitVec.toNat a2 : Int)))] a := ha
  have hE : Chg [] W W := Chg.refl _ _
  unfold F_impl_reach at hF
  refine wp_seq ?_; refine wp_region_lit ?_; refine op_g ha rfl (g_assign rfl) ?_; clear ha a; intro a ha; refine wpList_nil ?_; replace ha := ha.sub (σ' := [(0, va0), (1, (.int .i64 a1)), (2, (.int .u32 (BitVec.toNat a2 : Int)))]) ⟨rfl, rfl, rfl, trivial⟩; refine e_then ?_; refine wp_seq ?_; refine wp_region_lit ?_; refine op_g ha rfl (g_move rfl) ?_; clear ha a; intro a ha; obtain ⟨x1, hc2, hF⟩ := cal_some hF
  refine o_call ha rfl rfl Tryd.call31 (W_impl_one ha1 hc2) ?_; clear ha a; rintro v3 w4 ⟨rfl, hx5⟩ a ha
  have hE6 := Ext.trans hE hx5
  refine op_g ha rfl (g_assign rfl) ?_; clear ha a; intro a ha; refine wpList_nil ?_; replace ha := ha.sub (σ' := [(0, va0), (2, (.int .u32 (BitVec.toNat a2 : Int))), (7, (.int .u32 (BitVec.toNat x1 : Int)))]) ⟨rfl, rfl, rfl, trivial⟩; refine e_then ?_; obtain ⟨o273, ho274, hK275⟩ := bnd_some hF
  obtain ⟨n276, hn277⟩ := lp_some ho274; clear ho274
  refine c_loop (fun a w => Fr 35 [] a ∧ Chg [] W w ∧ o273 = .inl ()) (fun n a w => ∃ (u140 : BitVec 32), Fr 35 [(0, va0), (2, (.int .u32 (BitVec.toNat a2 : Int))), (7, (.int .u32 (BitVec.toNat u140 : Int)))] a ∧ Chg [] W w ∧ lpN (fun s => F_impl_reach_l1 a0 a2 s) n u140 = some o273) n276 ⟨x1, ha.sub ⟨rfl, rfl, rfl, trivial⟩, hE6, hn277⟩ ?_ ?_
  · rintro m281 a w139 ⟨u140, ha, hE141, hF⟩
    cases m281 with
    | zero => exact (lpN_zero hF).elim
    | succ m281 =>
      obtain ⟨z280, hF, hN279⟩ := lpN_succ hF
      have hF : F_impl_reach_l1 a0 a2 u140 = some z280 := hF; unfold F_impl_reach_l1 at hF
      refine wp_block ?_; refine wp_seq ?_; refine wp_region_lit ?_; refine op_g ha rfl (g_move rfl) ?_; clear ha a; intro a ha; refine op_g ha rfl (g_assign rfl) ?_; clear ha a; intro a ha; refine wpList_nil ?_; replace ha := ha.sub (σ' := [(0, va0), (2, (.int .u32 (BitVec.toNat a2 : Int))), (7, (.int .u32 (BitVec.toNat u140 : Int))), (8, (.int .u32 (BitVec.toNat u140 : Int)))]) ⟨rfl, rfl, rfl, rfl, trivial⟩; refine e_then ?_; refine wp_seq ?_; refine wp_seq ?_; refine wp_region_lit ?_; refine op_g ha rfl (g_move rfl) ?_; clear ha a; intro a ha; obtain ⟨x282, hc283, hF⟩ := cal_some hF
      refine o_call ha rfl rfl Tryd.call30 (W_impl_vset_list (hG.ext hE141) hc283) ?_; clear ha a; rintro v284 w285 ⟨b287, h288, z289, hx286⟩ a ha
      have hE291 := Ext.trans hE141 hx286
      have q292 := Zn.upD z289 hE141
      refine op_g ha rfl (g_lenO sl56.und h288 rfl) ?_; clear ha a; intro a ha; refine op_g ha rfl (g_move rfl) ?_; clear ha a; intro a ha; refine wpList_nil ?_; replace ha := ha.sub (σ' := [(0, va0), (2, (.int .u32 (BitVec.toNat a2 : Int))), (7, (.int .u32 (BitVec.toNat u140 : Int))), (8, (.int .u32 (BitVec.toNat u140 : Int))), (15, v284), (16, (.int .i64 (x282.length : Int))), (17, (.int .i64 0))]) ⟨rfl, rfl, rfl, rfl, rfl, rfl, rfl, trivial⟩; refine e_then ?_; obtain ⟨o374, ho375, hK376⟩ := bnd_some hF
      obtain ⟨n377, hn378⟩ := lp_some ho375; clear ho375
      refine c_loop (fun a w => ∃ (u373 : BitVec 32), Fr 35 [(0, va0), (2, (.int .u32 (BitVec.toNat a2 : Int))), (7, (.int .u32 (BitVec.toNat u140 : Int))), (8, (.int .u32 (BitVec.toNat u373 : Int)))] a ∧ Chg [] W w ∧ o374 = .inl u373) (fun n a w => ∃ (u332 : BitVec 32) (i336 : Int), Fr 35 [(0, va0), (2, (.int .u32 (BitVec.toNat a2 : Int))), (7, (.int .u32 (BitVec.toNat u140 : Int))), (8, (.int .u32 (BitVec.toNat u332 : Int))), (15, v284), (16, (.int .i64 (x282.length : Int))), (17, (.int .i64 i336))] a ∧ Chg [] W w ∧ InI i336 ∧ Ow Rp.int 3 true w [] b287 v284 x282 ∧ Zn W b287 ∧ lpN (fun s => F_impl_reach_l2 a0 a2 x282 s.1 s.2) n (u332, i336) = some o374) n377 ⟨u140, 0, ha.sub ⟨rfl, rfl, rfl, rfl, rfl, rfl, rfl, trivial⟩, hE291, (show InI 0 from by decide), h288, q292, hn378⟩ ?_ ?_
      · rintro m382 a w331 ⟨u332, i336, ha, hE338, hI337, h334, z335, hF⟩
        cases m382 with
        | zero => exact (lpN_zero hF).elim
        | succ m382 =>
          obtain ⟨z381, hF, hN380⟩ := lpN_succ hF
          have hF : F_impl_reach_l2 a0 a2 x282 u332 i336 = some z381 := hF; unfold F_impl_reach_l2 at hF
          refine wp_seq ?_; refine wp_region_lit ?_; refine op_g ha rfl (g_lss rfl rfl) ?_; clear ha a; intro a ha; refine wpList_nil ?_; replace ha := ha.sub (σ' := [(0, va0), (2, (.int .u32 (BitVec.toNat a2 : Int))), (7, (.int .u32 (BitVec.toNat u140 : Int))), (8, (.int .u32 (BitVec.toNat u332 : Int))), (15, v284), (16, (.int .i64 (x282.length : Int))), (17, (.int .i64 i336)), (18, (.bool (decide (i336 < (x282.length : Int)))))]) ⟨rfl, rfl, rfl, rfl, rfl, rfl, rfl, rfl, trivial⟩; refine e_then ?_; refine wp_seq ?_; refine c_cond (i336 < (x282.length : Int)) ha rfl (decide_eq_true_iff) (fun hp383 => ?_) (fun hp383 => ?_)
          · replace hF := if_t hp383 hF
            refine wp_skip ?_; refine e_then ?_; refine wp_seq ?_; refine wp_block ?_; refine wp_seq ?_; refine wp_region_lit ?_; obtain ⟨x384, g385, gx386, hF⟩ := idx_some hF
            obtain ⟨p387, cs388, f389, hf390, hpb391, hat392, hr393, hi394⟩ := h334.at g385 gx386
            obtain ⟨rfl, hI395, rfl⟩ := hr393
            refine op_g ha rfl (hi394.gives sl56 rfl rfl) ?_; clear ha a; intro a ha; refine op_g ha rfl (g_load Tryd.isAgg3 rfl hat392.one) ?_; clear ha a; intro a ha; refine op_g ha rfl (g_assign rfl) ?_; clear ha a; intro a ha; refine wpList_nil ?_; replace ha := ha.sub (σ' := [(0, va0), (2, (.int .u32 (BitVec.toNat a2 : Int))), (7, (.int .u32 (BitVec.toNat u140 : Int))), (8, (.int .u32 (BitVec.toNat u332 : Int))), (10, (.int .i64 x384)), (15, v284), (16, (.int .i64 (x282.length : Int))), (17, (.int .i64 i336))]) ⟨rfl, rfl, rfl, rfl, rfl, rfl, rfl, rfl, trivial⟩; refine e_then ?_; refine wp_region_lit ?_
            (iterate 3 refine op_g ha rfl (g_move rfl) ?_; clear ha a; intro a ha); obtain ⟨x396, g397, gx398, hF⟩ := idx_some hF
            obtain ⟨p399, cs400, f401, hf402, hpb403, hat404, hr405, hi406⟩ := ha0.at g397 gx398
            obtain ⟨rfl, rfl⟩ := hr405
            refine op_g ha rfl (hi406.gives sl53 rfl rfl) ?_; clear ha a; intro a ha; refine op_g ha rfl (g_load0 hE338 Tryd.isAgg58 rfl hat404.one) ?_; clear ha a; intro a ha; refine op_g ha rfl (g_move rfl) ?_; clear ha a; intro a ha; refine op_g ha rfl (g32_and (m := x396) (n := a2) rfl rfl) ?_; clear ha a; intro a ha; refine op_g ha rfl (g32_or (m := u332) (n := (x396 &&& a2)) rfl rfl) ?_; clear ha a; intro a ha; refine op_g ha rfl (g_assign rfl) ?_; clear ha a; intro a ha; refine wpList_nil ?_; replace ha := ha.sub (σ' := [(0, va0), (2, (.int .u32 (BitVec.toNat a2 : Int))), (7, (.int .u32 (BitVec.toNat u140 : Int))), (8, (.int .u32 (BitVec.toNat (u332 ||| (x396 &&& a2)) : Int))), (15, v284), (16, (.int .i64 (x282.length : Int))), (17, (.int .i64 i336))]) ⟨rfl, rfl, rfl, rfl, rfl, rfl, rfl, trivial⟩
            refine e_blk ?_; refine e_then ?_; refine wp_region_lit ?_; obtain ⟨hI407, hF⟩ := ck_some hF; refine op_g ha rfl (g_add rfl rfl hI407) ?_; clear ha a; intro a ha; refine op_g ha rfl (g_move rfl) ?_; clear ha a; intro a ha; refine wpList_nil ?_; replace ha := ha.sub (σ' := [(0, va0), (2, (.int .u32 (BitVec.toNat a2 : Int))), (7, (.int .u32 (BitVec.toNat u140 : Int))), (8, (.int .u32 (BitVec.toNat (u332 ||| (x396 &&& a2)) : Int))), (15, v284), (16, (.int .i64 (x282.length : Int))), (17, (.int .i64 (i336 + 1)))]) ⟨rfl, rfl, rfl, rfl, rfl, rfl, rfl, trivial⟩; refine e_lq ?_; obtain rfl := Option.some.inj hF
            exact ⟨_, Nat.lt_succ_self _, u332 ||| (x396 &&& a2), i336 + 1, ha.sub ⟨rfl, rfl, rfl, rfl, rfl, rfl, rfl, trivial⟩, hE338, hI407, h334, z335, hN380⟩
          replace hF := if_f hp383 hF; refine wp_exit ?_; refine e_then_exit ?_; refine e_lq_eq ?_; obtain rfl := Option.some.inj hF
          exact ⟨u332, ha.sub ⟨rfl, rfl, rfl, rfl, trivial⟩, hE338, (LK_inr hN380).symm⟩
      rintro a w372 ⟨u373, ha, hE379, rfl⟩
      have hF : F_impl_reach_k3 u140 u373 = some _ := hK376; clear hK376; unfold F_impl_reach_k3 at hF
      refine e_then ?_; refine wp_seq ?_; refine wp_seq ?_; refine wp_region_lit ?_; (iterate 2 refine op_g ha rfl (g_move rfl) ?_; clear ha a; intro a ha); refine op_g ha rfl (g32_eql (m := u373) (n := u140) rfl rfl) ?_; clear ha a; intro a ha; refine wpList_nil ?_; replace ha := ha.sub (σ' := [(0, va0), (2, (.int .u32 (BitVec.toNat a2 : Int))), (7, (.int .u32 (BitVec.toNat u140 : Int))), (8, (.int .u32 (BitVec.toNat u373 : Int))), (32, (.bool (decide (u373 = u140))))]) ⟨rfl, rfl, rfl, rfl, rfl, trivial⟩; refine e_then ?_; refine c_cond (u373 = u140) ha rfl (decide_eq_true_iff) (fun hp409 => ?_) (fun hp409 => ?_)
      · replace hF := if_t hp409 hF
        refine wp_seq ?_; refine wp_region_lit ?_; refine op_g ha rfl (g_move rfl) ?_; clear ha a; intro a ha; refine op_g ha rfl (g_assign rfl) ?_; clear ha a; intro a ha; refine wpList_nil ?_; replace ha := ha.sub (σ' := [(6, (.int .u32 (BitVec.toNat u140 : Int)))]) ⟨rfl, trivial⟩; refine e_then ?_; refine wp_ret ?_; refine e_then_ret ?_; refine e_blk_ret ?_; refine e_lq_ret ?_; obtain rfl := Option.some.inj hF
        have e410 := LK_inr hN279; subst e410
        have e411 := BK_inr hK275; subst e411
        exact f_ret1 ha rfl rfl ⟨rfl, hE379⟩
      replace hF := if_f hp409 hF; refine wp_skip ?_; refine e_then ?_; refine wp_region_lit ?_; refine op_g ha rfl (g_move rfl) ?_; clear ha a; intro a ha; refine op_g ha rfl (g_assign rfl) ?_; clear ha a; intro a ha; refine wpList_nil ?_; replace ha := ha.sub (σ' := [(0, va0), (2, (.int .u32 (BitVec.toNat a2 : Int))), (7, (.int .u32 (BitVec.toNat u373 : Int)))]) ⟨rfl, rfl, rfl, trivial⟩; refine e_blk ?_; refine e_lq ?_; obtain rfl := Option.some.inj hF
      exact ⟨_, Nat.lt_succ_self _, u373, ha.sub ⟨rfl, rfl, rfl, trivial⟩, hE379, hN279⟩
  rintro a w272 ⟨ha, hE278, rfl⟩
  cases hK275
set_option maxHeartbeats 2000000 in
theorem W_impl_connected {W : World} {va0 : Value} {fa0 : List Nat} {a0 : (List (BitVec 32))} (ha0 : Ro Rp.u32 W fa0 va0 a0) {a1 : BitVec 32} (hG : GT 0 W) {r : Bool} (hF : F_impl_connected a0 a1 = some r) :
    Calls Tryd.prog 53 [va0, .int .u32 (BitVec.toNat a1 : Int)].toArray W (Ret fun u w' => u = .bool r ∧ Ext W w') := by
  refine f_enter Tryd.func53 rfl Tryd.ntmps53 rfl ?_
  intro a ha
  replace ha : Fr 16 [(0, va0), (1, (.int .u32 (BitVec.toNat a1 : Int)))] a := ha
  have hE : Chg [] W W := Chg.refl _ _
  unfold F_impl_connected at hF
  refine wp_seq ?_; refine wp_region_lit ?_; refine op_g ha rfl (g_assign rfl) ?_; clear ha a; intro a ha; refine wpList_nil ?_; replace ha := ha.sub (σ' := [(0, va0), (1, (.int .u32 (BitVec.toNat a1 : Int)))]) ⟨rfl, rfl, trivial⟩; refine e_then ?_; refine wp_seq ?_; refine wp_region_lit ?_; refine op_g ha rfl (g_move rfl) ?_; clear ha a; intro a ha; refine op_g ha rfl (g32_neq (m := a1) (n := (0#32)) rfl rfl) ?_; clear ha a; intro a ha; refine op_g ha rfl (g_move rfl) ?_; clear ha a; intro a ha
  by_cases hp1 : a1 ≠ (0#32)
  · replace hF := if_t hp1 hF
    rw [show (decide (a1 ≠ (0#32))) = true from (decide_eq_true_iff).2 hp1] at ha
    refine op_want (yields ha rfl rfl) ?_; refine op_g ha rfl (g_move rfl) ?_; clear ha a; intro a ha; refine op_want (yields ha rfl rfl) ?_; refine op_g ha rfl (g_move rfl) ?_; clear ha a; intro a ha; refine op_want (yields ha rfl rfl) ?_; obtain ⟨x2, hc3, hF⟩ := cal_some hF
    refine o_call ha rfl rfl Tryd.call58 (W_impl_vset_least (hG.ext hE) hc3) ?_; clear ha a; rintro v4 w5 ⟨⟨rfl, hI7⟩, hx6⟩ a ha
    have hE8 := Ext.trans hE hx6
    refine op_want (yields ha rfl rfl) ?_; refine op_g ha rfl (g_move rfl) ?_; clear ha a; intro a ha; refine op_want (yields ha rfl rfl) ?_; obtain ⟨x9, hc10, hF⟩ := cal_some hF
    refine o_call ha rfl rfl Tryd.call71 (W_impl_reach (ha0.ext hE8) hI7 (hG.ext hE8) hc10) ?_; clear ha a; rintro v11 w12 ⟨rfl, hx13⟩ a ha
    have hE14 := Ext.trans hE8 hx13
    refine op_want (yields ha rfl rfl) ?_; refine op_g ha rfl (g_move rfl) ?_; clear ha a; intro a ha; refine op_want (yields ha rfl rfl) ?_; refine op_g ha rfl (g32_eql (m := x9) (n := a1) rfl rfl) ?_; clear ha a; intro a ha; refine op_g ha rfl (g_pick rfl rfl) ?_; clear ha a; intro a ha; refine op_g ha rfl (g_assign rfl) ?_; clear ha a; intro a ha; refine wpList_nil ?_; replace ha := ha.sub (σ' := [(4, (.bool (decide (x9 = a1))))]) ⟨rfl, trivial⟩; refine e_then ?_; refine wp_ret ?_; obtain rfl := Option.some.inj hF
    exact f_ret1 ha rfl rfl ⟨rfl, hE14⟩
  replace hF := if_f hp1 hF
  rw [show (decide (a1 ≠ (0#32))) = false from b_false (decide_eq_true_iff) hp1] at ha
  (iterate 7 refine op_unwant ha rfl (yields ha rfl rfl) rfl ?_; clear ha a; intro a ha); refine op_g ha rfl (g_pick rfl rfl) ?_; clear ha a; intro a ha; refine op_g ha rfl (g_assign rfl) ?_; clear ha a; intro a ha; refine wpList_nil ?_; replace ha := ha.sub (σ' := [(4, (.bool false))]) ⟨rfl, trivial⟩; refine e_then ?_; refine wp_ret ?_; obtain rfl := Option.some.inj hF
  exact f_ret1 ha rfl rfl ⟨rfl, hE⟩
set_option maxHeartbeats 2000000 in
theorem W_impl_netsOf {W : World} {va0_0 : Value} {fa0_0 : List Nat} {a0_0 : (List (List Int))} (ha0_0 : Ro (Rp.sl 2 Rp.int) W fa0_0 va0_0 a0_0) {r : (List (BitVec 32))} (hF : F_impl_netsOf a0_0 = some r) :
    Calls Tryd.prog 27 [.agg #[va0_0]].toArray W (Ret fun u w' => ∃ (b_u : Int), Ow Rp.u32 58 true w' [] b_u u r ∧ Zn W b_u ∧ Ext W w') := by
  refine f_enter Tryd.func27 rfl Tryd.ntmps27 rfl ?_
  intro a ha
  replace ha : Fr 21 [(0, (.agg #[va0_0]))] a := ha
  have hE : Chg [] W W := Chg.refl _ _
  unfold F_impl_netsOf at hF
  refine wp_seq ?_; refine wp_region_lit ?_
  refine o_box ha rfl rfl rfl ?_; clear ha a; intro b1 w2 hB3 hx4 hlo5 a ha
  have q6 := Zn.one hlo5
  have q7 := Zn.upD q6 hE
  have hE8 := Ext.trans hE hx4
  refine op_g ha rfl (g_assign rfl) ?_; clear ha a; intro a ha; refine wpList_nil ?_; replace ha := ha.sub (σ' := [(1, (.pointer (some ⟨b1, 0, none⟩)))]) ⟨rfl, trivial⟩; refine e_then ?_; refine wp_seq ?_; refine wp_region_lit ?_
  refine o_lit0 Rp.u32 ha rfl sl53 ?_; clear ha a; intro v9 w10 h11 hx12 a ha
  obtain ⟨b14, hb14⟩ : ∃ b : Int, b = w2.heap.size := ⟨_, rfl⟩; rw [← hb14] at h11
  have q15 := zn_of hb14
  have q16 := Nq.new hB3.fpb q15
  have q17 := Nq.madeO q15 hB3.bi
  have q18 := Zn.upD q15 hE8
  replace hB3 := hB3.ext hx12
  have hE19 := Ext.trans hE8 hx12
  refine op_g ha rfl (g_assign rfl) ?_; clear ha a; intro a ha; refine wpList_nil ?_; replace ha := ha.sub (σ' := [(1, (.pointer (some ⟨b1, 0, none⟩))), (3, v9)]) ⟨rfl, rfl, trivial⟩; refine e_then ?_; refine wp_seq ?_; refine wp_seq ?_; refine wp_region_lit ?_; refine op_g ha rfl (g_field0 st31_0 rfl) ?_; clear ha a; intro a ha; refine op_g ha rfl (g_load Tryd.isAgg22 rfl (hB3.cell rfl)) ?_; clear ha a; intro a ha; refine op_g ha rfl (g_lenR sl22.und ha0_0 rfl) ?_; clear ha a; intro a ha; refine op_g ha rfl (g_move rfl) ?_; clear ha a; intro a ha; refine wpList_nil ?_; replace ha := ha.sub (σ' := [(3, v9), (8, va0_0), (9, (.int .i64 (a0_0.length : Int))), (10, (.int .i64 0))]) ⟨rfl, rfl, rfl, rfl, trivial⟩
  refine e_then ?_; obtain ⟨o152, ho153, hK154⟩ := bnd_some hF
  obtain ⟨n155, hn156⟩ := lp_some ho153; clear ho153
  refine c_loop (fun a w => ∃ (l149 : (List (BitVec 32))) (v150 : Value) (b151 : Int), Fr 21 [(3, v150)] a ∧ Chg [] W w ∧ Ow Rp.u32 58 true w [] b151 v150 l149 ∧ Zn W b151 ∧ o152 = .inl l149) (fun n a w => ∃ (l84 : (List (BitVec 32))) (i87 : Int) (v85 : Value) (b86 : Int), Fr 21 [(3, v85), (8, va0_0), (9, (.int .i64 (a0_0.length : Int))), (10, (.int .i64 i87))] a ∧ Chg [] W w ∧ InI i87 ∧ Ow Rp.u32 58 true w [] b86 v85 l84 ∧ Zn W b86 ∧ lpN (fun s => F_impl_netsOf_l1 a0_0 s.1 s.2) n (l84, i87) = some o152) n155 ⟨([] : (List (BitVec 32))), 0, v9, b14, ha.sub ⟨rfl, rfl, rfl, rfl, trivial⟩, hE19, (show InI 0 from by decide), h11, q18, hn156⟩ ?_ ?_
  · rintro m160 a w80 ⟨l84, i87, v85, b86, ha, hE89, hI88, h82, z83, hF⟩
    cases m160 with
    | zero => exact (lpN_zero hF).elim
    | succ m160 =>
      obtain ⟨z159, hF, hN158⟩ := lpN_succ hF
      have hF : F_impl_netsOf_l1 a0_0 l84 i87 = some z159 := hF; unfold F_impl_netsOf_l1 at hF
      refine wp_seq ?_; refine wp_region_lit ?_; refine op_g ha rfl (g_lss rfl rfl) ?_; clear ha a; intro a ha; refine wpList_nil ?_; replace ha := ha.sub (σ' := [(3, v85), (8, va0_0), (9, (.int .i64 (a0_0.length : Int))), (10, (.int .i64 i87)), (11, (.bool (decide (i87 < (a0_0.length : Int)))))]) ⟨rfl, rfl, rfl, rfl, rfl, trivial⟩; refine e_then ?_; refine wp_seq ?_; refine c_cond (i87 < (a0_0.length : Int)) ha rfl (decide_eq_true_iff) (fun hp161 => ?_) (fun hp161 => ?_)
      · replace hF := if_t hp161 hF
        refine wp_skip ?_; refine e_then ?_; refine wp_seq ?_; refine wp_block ?_; refine wp_seq ?_; refine wp_region_lit ?_; obtain ⟨x162, g163, gx164, hF⟩ := idx_some hF
        obtain ⟨p165, cs166, f167, hf168, hpb169, hat170, hr171, hi172⟩ := ha0_0.at g163 gx164
        obtain ⟨v173, rfl, h174⟩ := hr171
        have h174 : Ro Rp.int W f167 v173 x162 := h174
        refine op_g ha rfl (hi172.gives sl22 rfl rfl) ?_; clear ha a; intro a ha; refine op_g ha rfl (g_load0 hE89 Tryd.isAgg29 rfl hat170.one) ?_; clear ha a; intro a ha; refine op_g ha rfl (g_assign rfl) ?_; clear ha a; intro a ha; refine wpList_nil ?_; replace ha := ha.sub (σ' := [(3, v85), (5, v173), (8, va0_0), (9, (.int .i64 (a0_0.length : Int))), (10, (.int .i64 i87))]) ⟨rfl, rfl, rfl, rfl, rfl, trivial⟩; refine e_then ?_; refine wp_region_lit ?_; (iterate 2 refine op_g ha rfl (g_move rfl) ?_; clear ha a; intro a ha); obtain ⟨x176, hc177, hF⟩ := cal_some hF
        refine o_call ha rfl rfl Tryd.call56 (W_impl_maskOf (h174.ext hE89) hc177) ?_; clear ha a; rintro v178 w179 ⟨rfl, hx180⟩ a ha
        replace h82 := h82.ext hx180
        have hE181 := Ext.trans hE89 hx180
        refine o_lit1 (o := true) (y := x176) Rp.u32 ha rfl sl53 rfl rfl rfl ⟨rfl, rfl⟩ ?_; clear ha a; intro v182 w183 h184 hx185 a ha
        obtain ⟨b187, hb187⟩ : ∃ b : Int, b = w179.heap.size := ⟨_, rfl⟩; rw [← hb187] at h184
        have q188 := zn_of hb187
        have q189 := Nq.new h82.fpb q188
        have q190 := Nq.madeO q188 h82.blt
        have q191 := Zn.upD q188 hE181
        replace h82 := h82.ext hx185
        have hE192 := Ext.trans hE181 hx185
        obtain ⟨hl193, hF⟩ := app_some hF
        refine o_append ha rfl sl53 rfl rfl rfl h82 h184.src (Nq.nil _) hl193 ?_; clear ha a; intro v194 w195 b196 h197 hc198 hb199 a ha
        replace h197 : Ow Rp.u32 58 true w195 [] b196 v194 _ := h197
        have q201 := Nq.appY q190 h184.fpb hb199
        have q202 := Nq.appX q189 (Nq.nil _) hb199 h184.blt
        have q203 := Zn.appD z83 hb199 hE192
        replace h184 := h184.nq hc198 q190
        have hE204 := Ext.then hE192 hc198 (Zn.bl z83)
        refine op_g ha rfl (g_assign rfl) ?_; clear ha a; intro a ha; refine wpList_nil ?_; replace ha := ha.sub (σ' := [(3, v194), (8, va0_0), (9, (.int .i64 (a0_0.length : Int))), (10, (.int .i64 i87))]) ⟨rfl, rfl, rfl, rfl, trivial⟩; refine e_blk ?_; refine e_then ?_; refine wp_region_lit ?_; obtain ⟨hI205, hF⟩ := ck_some hF; refine op_g ha rfl (g_add rfl rfl hI205) ?_; clear ha a; intro a ha; refine op_g ha rfl (g_move rfl) ?_; clear ha a; intro a ha; refine wpList_nil ?_; replace ha := ha.sub (σ' := [(3, v194), (8, va0_0), (9, (.int .i64 (a0_0.length : Int))), (10, (.int .i64 (i87 + 1)))]) ⟨rfl, rfl, rfl, rfl, trivial⟩
        refine e_lq ?_; obtain rfl := Option.some.inj hF
        exact ⟨_, Nat.lt_succ_self _, (l84 ++ ([x176])), i87 + 1, v194, b196, ha.sub ⟨rfl, rfl, rfl, rfl, trivial⟩, hE204, hI205, h197, q203, hN158⟩
      replace hF := if_f hp161 hF; refine wp_exit ?_; refine e_then_exit ?_; refine e_lq_eq ?_; obtain rfl := Option.some.inj hF
      exact ⟨l84, v85, b86, ha.sub ⟨rfl, trivial⟩, hE89, h82, z83, (LK_inr hN158).symm⟩
  rintro a w145 ⟨l149, v150, b151, ha, hE157, h147, z148, rfl⟩
  have hF : F_impl_netsOf_k2 l149 = some _ := hK154; clear hK154; unfold F_impl_netsOf_k2 at hF
  refine e_then ?_; refine wp_seq ?_; refine wp_region_lit ?_; refine op_g ha rfl (g_move rfl) ?_; clear ha a; intro a ha; refine op_g ha rfl (g_assign rfl) ?_; clear ha a; intro a ha; refine wpList_nil ?_; replace ha := ha.sub (σ' := [(2, v150)]) ⟨rfl, trivial⟩; refine e_then ?_; refine wp_ret ?_; obtain rfl := Option.some.inj hF
  exact f_ret1 ha rfl rfl ⟨_, h147, z148, hE157⟩
set_option maxHeartbeats 2000000 in
theorem W_impl_vset_has {W : World} {a0 : BitVec 32} {a1 : Int} (ha1 : InI a1) {r : Bool} (hF : F_impl_vset_has a0 a1 = some r) :
    Calls Tryd.prog 55 [.int .u32 (BitVec.toNat a0 : Int), .int .i64 a1].toArray W (Ret fun u w' => u = .bool r ∧ Ext W w') := by
  refine f_enter Tryd.func55 rfl Tryd.ntmps55 rfl ?_
  intro a ha
  replace ha : Fr 10 [(0, (.int .u32 (BitVec.toNat a0 : Int))), (1, (.int .i64 a1))] a := ha
  have hE : Chg [] W W := Chg.refl _ _
  unfold F_impl_vset_has at hF
  refine wp_seq ?_; refine wp_region_lit ?_; refine op_g ha rfl (g_assign rfl) ?_; clear ha a; intro a ha; refine wpList_nil ?_; replace ha := ha.sub (σ' := [(0, (.int .u32 (BitVec.toNat a0 : Int))), (1, (.int .i64 a1))]) ⟨rfl, rfl, trivial⟩; refine e_then ?_; refine wp_seq ?_; refine wp_region_lit ?_; (iterate 2 refine op_g ha rfl (g_move rfl) ?_; clear ha a; intro a ha); obtain ⟨hs1, hF⟩ := grd_some hF; refine op_g ha rfl (g32_shr (m := a0) rfl rfl hs1) ?_; clear ha a; intro a ha; refine op_g ha rfl (g32_and (m := (a0 >>> (a1 : Int).toNat)) (n := (1#32)) rfl rfl) ?_; clear ha a; intro a ha; refine op_g ha rfl (g32_eql (m := ((a0 >>> (a1 : Int).toNat) &&& (1#32))) (n := (1#32)) rfl rfl) ?_; clear ha a; intro a ha
  refine op_g ha rfl (g_assign rfl) ?_; clear ha a; intro a ha; refine wpList_nil ?_; replace ha := ha.sub (σ' := [(4, (.bool (decide (((a0 >>> (a1 : Int).toNat) &&& (1#32)) = (1#32)))))]) ⟨rfl, trivial⟩; refine e_then ?_; refine wp_ret ?_; obtain rfl := Option.some.inj hF
  exact f_ret1 ha rfl rfl ⟨rfl, hE⟩
set_option maxHeartbeats 2000000 in
theorem W_impl_coversEdges {W : World} {va0 : Value} {fa0 : List Nat} {a0 : (List (BitVec 32))} (ha0 : Ro Rp.u32 W fa0 va0 a0) {va1 : Value} {fa1 : List Nat} {a1 : (List (BitVec 32))} (ha1 : Ro Rp.u32 W fa1 va1 a1) {r : Bool} (hF : F_impl_coversEdges a0 a1 = some r) :
    Calls Tryd.prog 54 [va0, va1].toArray W (Ret fun u w' => u = .bool r ∧ Ext W w') := by
  refine f_enter Tryd.func54 rfl Tryd.ntmps54 rfl ?_
  intro a ha
  replace ha : Fr 41 [(0, va0), (1, va1)] a := ha
  have hE : Chg [] W W := Chg.refl _ _
  unfold F_impl_coversEdges at hF
  refine wp_seq ?_; refine wp_region_lit ?_; refine op_g ha rfl (g_assign rfl) ?_; clear ha a; intro a ha; refine wpList_nil ?_; replace ha := ha.sub (σ' := [(0, va0), (1, va1)]) ⟨rfl, rfl, trivial⟩; refine e_then ?_; refine wp_seq ?_; refine wp_seq ?_; refine wp_region_lit ?_; refine op_g ha rfl (g_move rfl) ?_; clear ha a; intro a ha; refine op_g ha rfl (g_lenR sl53.und ha0 rfl) ?_; clear ha a; intro a ha; refine op_g ha rfl (g_move rfl) ?_; clear ha a; intro a ha; refine wpList_nil ?_; replace ha := ha.sub (σ' := [(1, va1), (10, va0), (11, (.int .i64 (a0.length : Int))), (12, (.int .i64 0))]) ⟨rfl, rfl, rfl, rfl, trivial⟩
  refine e_then ?_; obtain ⟨o248, ho249, hK250⟩ := bnd_some hF
  obtain ⟨n251, hn252⟩ := lp_some ho249; clear ho249
  refine c_loop (fun a w => Fr 41 [] a ∧ Chg [] W w ∧ o248 = .inl ()) (fun n a w => ∃ (i124 : Int), Fr 41 [(1, va1), (10, va0), (11, (.int .i64 (a0.length : Int))), (12, (.int .i64 i124))] a ∧ Chg [] W w ∧ InI i124 ∧ lpN (fun s => F_impl_coversEdges_l1 a0 a1 s) n i124 = some o248) n251 ⟨0, ha.sub ⟨rfl, rfl, rfl, rfl, trivial⟩, hE, (show InI 0 from by decide), hn252⟩ ?_ ?_
  · rintro m256 a w123 ⟨i124, ha, hE126, hI125, hF⟩
    cases m256 with
    | zero => exact (lpN_zero hF).elim
    | succ m256 =>
      obtain ⟨z255, hF, hN254⟩ := lpN_succ hF
      have hF : F_impl_coversEdges_l1 a0 a1 i124 = some z255 := hF; unfold F_impl_coversEdges_l1 at hF
      refine wp_seq ?_; refine wp_region_lit ?_; refine op_g ha rfl (g_lss rfl rfl) ?_; clear ha a; intro a ha; refine wpList_nil ?_; replace ha := ha.sub (σ' := [(1, va1), (10, va0), (11, (.int .i64 (a0.length : Int))), (12, (.int .i64 i124)), (13, (.bool (decide (i124 < (a0.length : Int)))))]) ⟨rfl, rfl, rfl, rfl, rfl, trivial⟩; refine e_then ?_; refine wp_seq ?_; refine c_cond (i124 < (a0.length : Int)) ha rfl (decide_eq_true_iff) (fun hp257 => ?_) (fun hp257 => ?_)
      · replace hF := if_t hp257 hF
        refine wp_skip ?_; refine e_then ?_; refine wp_seq ?_; refine wp_block ?_; refine wp_seq ?_; refine wp_region_lit ?_; refine op_g ha rfl (g_move rfl) ?_; clear ha a; intro a ha; obtain ⟨x258, g259, gx260, hF⟩ := idx_some hF
        obtain ⟨p261, cs262, f263, hf264, hpb265, hat266, hr267, hi268⟩ := ha0.at g259 gx260
        obtain ⟨rfl, rfl⟩ := hr267
        refine op_g ha rfl (hi268.gives sl53 rfl rfl) ?_; clear ha a; intro a ha; refine op_g ha rfl (g_load0 hE126 Tryd.isAgg58 rfl hat266.one) ?_; clear ha a; intro a ha; (iterate 2 refine op_g ha rfl (g_assign rfl) ?_; clear ha a; intro a ha); refine wpList_nil ?_; replace ha := ha.sub (σ' := [(1, va1), (5, (.int .i64 i124)), (6, (.int .u32 (BitVec.toNat x258 : Int))), (10, va0), (11, (.int .i64 (a0.length : Int))), (12, (.int .i64 i124))]) ⟨rfl, rfl, rfl, rfl, rfl, rfl, trivial⟩; refine e_then ?_; refine wp_seq ?_; refine wp_region_lit ?_; refine op_g ha rfl (g_assign rfl) ?_; clear ha a; intro a ha
        refine wpList_nil ?_; replace ha := ha.sub (σ' := [(1, va1), (5, (.int .i64 i124)), (6, (.int .u32 (BitVec.toNat x258 : Int))), (7, (.int .u32 (BitVec.toNat (0#32) : Int))), (10, va0), (11, (.int .i64 (a0.length : Int))), (12, (.int .i64 i124))]) ⟨rfl, rfl, rfl, rfl, rfl, rfl, rfl, trivial⟩; refine e_then ?_; refine wp_seq ?_; refine wp_seq ?_; refine wp_region_lit ?_; refine op_g ha rfl (g_move rfl) ?_; clear ha a; intro a ha; refine op_g ha rfl (g_lenR sl52.und ha1 rfl) ?_; clear ha a; intro a ha; refine op_g ha rfl (g_move rfl) ?_; clear ha a; intro a ha; refine wpList_nil ?_; replace ha := ha.sub (σ' := [(1, va1), (5, (.int .i64 i124)), (6, (.int .u32 (BitVec.toNat x258 : Int))), (7, (.int .u32 (BitVec.toNat (0#32) : Int))), (10, va0), (11, (.int .i64 (a0.length : Int))), (12, (.int .i64 i124)), (17, va1), (18, (.int .i64 (a1.length : Int))), (19, (.int .i64 0))]) ⟨rfl, rfl, rfl, rfl, rfl, rfl, rfl, rfl, rfl, rfl, trivial⟩
        refine e_then ?_; obtain ⟨o332, ho333, hK334⟩ := bnd_some hF
        obtain ⟨n335, hn336⟩ := lp_some ho333; clear ho333
        refine c_loop (fun a w => ∃ (u331 : BitVec 32), Fr 41 [(1, va1), (5, (.int .i64 i124)), (6, (.int .u32 (BitVec.toNat x258 : Int))), (7, (.int .u32 (BitVec.toNat u331 : Int))), (10, va0), (11, (.int .i64 (a0.length : Int))), (12, (.int .i64 i124))] a ∧ Chg [] W w ∧ o332 = .inl u331) (fun n a w => ∃ (u299 : BitVec 32) (i300 : Int), Fr 41 [(1, va1), (5, (.int .i64 i124)), (6, (.int .u32 (BitVec.toNat x258 : Int))), (7, (.int .u32 (BitVec.toNat u299 : Int))), (10, va0), (11, (.int .i64 (a0.length : Int))), (12, (.int .i64 i124)), (17, va1), (18, (.int .i64 (a1.length : Int))), (19, (.int .i64 i300))] a ∧ Chg [] W w ∧ InI i300 ∧ lpN (fun s => F_impl_coversEdges_l2 a1 i124 s.1 s.2) n (u299, i300) = some o332) n335 ⟨0#32, 0, ha.sub ⟨rfl, rfl, rfl, rfl, rfl, rfl, rfl, rfl, rfl, rfl, trivial⟩, hE126, (show InI 0 from by decide), hn336⟩ ?_ ?_
        · rintro m340 a w298 ⟨u299, i300, ha, hE302, hI301, hF⟩
          cases m340 with
          | zero => exact (lpN_zero hF).elim
          | succ m340 =>
            obtain ⟨z339, hF, hN338⟩ := lpN_succ hF
            have hF : F_impl_coversEdges_l2 a1 i124 u299 i300 = some z339 := hF; unfold F_impl_coversEdges_l2 at hF
            refine wp_seq ?_; refine wp_region_lit ?_; refine op_g ha rfl (g_lss rfl rfl) ?_; clear ha a; intro a ha; refine wpList_nil ?_; replace ha := ha.sub (σ' := [(1, va1), (5, (.int .i64 i124)), (6, (.int .u32 (BitVec.toNat x258 : Int))), (7, (.int .u32 (BitVec.toNat u299 : Int))), (10, va0), (11, (.int .i64 (a0.length : Int))), (12, (.int .i64 i124)), (17, va1), (18, (.int .i64 (a1.length : Int))), (19, (.int .i64 i300)), (20, (.bool (decide (i300 < (a1.length : Int)))))]) ⟨rfl, rfl, rfl, rfl, rfl, rfl, rfl, rfl, rfl, rfl, rfl, trivial⟩; refine e_then ?_; refine wp_seq ?_; refine c_cond (i300 < (a1.length : Int)) ha rfl (decide_eq_true_iff) (fun hp341 => ?_) (fun hp341 => ?_)
            · replace hF := if_t hp341 hF
              refine wp_skip ?_; refine e_then ?_; refine wp_seq ?_; refine wp_block ?_; refine wp_seq ?_; refine wp_region_lit ?_; obtain ⟨x342, g343, gx344, hF⟩ := idx_some hF
              obtain ⟨p345, cs346, f347, hf348, hpb349, hat350, hr351, hi352⟩ := ha1.at g343 gx344
              obtain ⟨rfl, rfl⟩ := hr351
              refine op_g ha rfl (hi352.gives sl52 rfl rfl) ?_; clear ha a; intro a ha; refine op_g ha rfl (g_load0 hE302 Tryd.isAgg58 rfl hat350.one) ?_; clear ha a; intro a ha; refine op_g ha rfl (g_assign rfl) ?_; clear ha a; intro a ha; refine wpList_nil ?_; replace ha := ha.sub (σ' := [(1, va1), (5, (.int .i64 i124)), (6, (.int .u32 (BitVec.toNat x258 : Int))), (7, (.int .u32 (BitVec.toNat u299 : Int))), (9, (.int .u32 (BitVec.toNat x342 : Int))), (10, va0), (11, (.int .i64 (a0.length : Int))), (12, (.int .i64 i124)), (17, va1), (18, (.int .i64 (a1.length : Int))), (19, (.int .i64 i300))]) ⟨rfl, rfl, rfl, rfl, rfl, rfl, rfl, rfl, rfl, rfl, rfl, trivial⟩
              refine e_then ?_; refine wp_seq ?_; refine wp_region_lit ?_; (iterate 2 refine op_g ha rfl (g_move rfl) ?_; clear ha a; intro a ha); obtain ⟨x353, hc354, hF⟩ := cal_some hF
              refine o_call ha rfl rfl Tryd.call55 (W_impl_vset_has hI125 hc354) ?_; clear ha a; rintro v355 w356 ⟨rfl, hx357⟩ a ha
              have hE358 := Ext.trans hE302 hx357
              refine wpList_nil ?_; replace ha := ha.sub (σ' := [(1, va1), (5, (.int .i64 i124)), (6, (.int .u32 (BitVec.toNat x258 : Int))), (7, (.int .u32 (BitVec.toNat u299 : Int))), (9, (.int .u32 (BitVec.toNat x342 : Int))), (10, va0), (11, (.int .i64 (a0.length : Int))), (12, (.int .i64 i124)), (17, va1), (18, (.int .i64 (a1.length : Int))), (19, (.int .i64 i300)), (25, (.bool x353))]) ⟨rfl, rfl, rfl, rfl, rfl, rfl, rfl, rfl, rfl, rfl, rfl, rfl, trivial⟩; refine e_then ?_; refine c_cond (x353 = true) ha rfl (Iff.rfl) (fun hp359 => ?_) (fun hp359 => ?_)
              · replace hF := if_t hp359 hF
                refine wp_region_lit ?_; (iterate 2 refine op_g ha rfl (g_move rfl) ?_; clear ha a; intro a ha); refine op_g ha rfl (g32_or (m := u299) (n := x342) rfl rfl) ?_; clear ha a; intro a ha; refine op_g ha rfl (g_assign rfl) ?_; clear ha a; intro a ha; refine wpList_nil ?_; replace ha := ha.sub (σ' := [(1, va1), (5, (.int .i64 i124)), (6, (.int .u32 (BitVec.toNat x258 : Int))), (7, (.int .u32 (BitVec.toNat (u299 ||| x342) : Int))), (10, va0), (11, (.int .i64 (a0.length : Int))), (12, (.int .i64 i124)), (17, va1), (18, (.int .i64 (a1.length : Int))), (19, (.int .i64 i300))]) ⟨rfl, rfl, rfl, rfl, rfl, rfl, rfl, rfl, rfl, rfl, trivial⟩
                refine e_blk ?_; refine e_then ?_; refine wp_region_lit ?_; obtain ⟨hI360, hF⟩ := ck_some hF; refine op_g ha rfl (g_add rfl rfl hI360) ?_; clear ha a; intro a ha; refine op_g ha rfl (g_move rfl) ?_; clear ha a; intro a ha; refine wpList_nil ?_; replace ha := ha.sub (σ' := [(1, va1), (5, (.int .i64 i124)), (6, (.int .u32 (BitVec.toNat x258 : Int))), (7, (.int .u32 (BitVec.toNat (u299 ||| x342) : Int))), (10, va0), (11, (.int .i64 (a0.length : Int))), (12, (.int .i64 i124)), (17, va1), (18, (.int .i64 (a1.length : Int))), (19, (.int .i64 (i300 + 1)))]) ⟨rfl, rfl, rfl, rfl, rfl, rfl, rfl, rfl, rfl, rfl, trivial⟩
                refine e_lq ?_; obtain rfl := Option.some.inj hF
                exact ⟨_, Nat.lt_succ_self _, u299 ||| x342, i300 + 1, ha.sub ⟨rfl, rfl, rfl, rfl, rfl, rfl, rfl, rfl, rfl, rfl, trivial⟩, hE358, hI360, hN338⟩
              replace hF := if_f hp359 hF; refine wp_skip ?_; refine e_blk ?_; refine e_then ?_; refine wp_region_lit ?_; obtain ⟨hI362, hF⟩ := ck_some hF; refine op_g ha rfl (g_add rfl rfl hI362) ?_; clear ha a; intro a ha; refine op_g ha rfl (g_move rfl) ?_; clear ha a; intro a ha; refine wpList_nil ?_; replace ha := ha.sub (σ' := [(1, va1), (5, (.int .i64 i124)), (6, (.int .u32 (BitVec.toNat x258 : Int))), (7, (.int .u32 (BitVec.toNat u299 : Int))), (10, va0), (11, (.int .i64 (a0.length : Int))), (12, (.int .i64 i124)), (17, va1), (18, (.int .i64 (a1.length : Int))), (19, (.int .i64 (i300 + 1)))]) ⟨rfl, rfl, rfl, rfl, rfl, rfl, rfl, rfl, rfl, rfl, trivial⟩
              refine e_lq ?_; obtain rfl := Option.some.inj hF
              exact ⟨_, Nat.lt_succ_self _, u299, i300 + 1, ha.sub ⟨rfl, rfl, rfl, rfl, rfl, rfl, rfl, rfl, rfl, rfl, trivial⟩, hE358, hI362, hN338⟩
            replace hF := if_f hp341 hF; refine wp_exit ?_; refine e_then_exit ?_; refine e_lq_eq ?_; obtain rfl := Option.some.inj hF
            exact ⟨u299, ha.sub ⟨rfl, rfl, rfl, rfl, rfl, rfl, rfl, trivial⟩, hE302, (LK_inr hN338).symm⟩
        rintro a w330 ⟨u331, ha, hE337, rfl⟩
        have hF : F_impl_coversEdges_k3 i124 x258 u331 = some _ := hK334; clear hK334; unfold F_impl_coversEdges_k3 at hF
        refine e_then ?_; refine wp_seq ?_; refine wp_region_lit ?_; (iterate 2 refine op_g ha rfl (g_move rfl) ?_; clear ha a; intro a ha); obtain ⟨x364, hc365, hF⟩ := cal_some hF
        refine o_call ha rfl rfl Tryd.call55 (W_impl_vset_has hI125 hc365) ?_; clear ha a; rintro v366 w367 ⟨rfl, hx368⟩ a ha
        have hE369 := Ext.trans hE337 hx368
        refine op_g ha rfl (g_not rfl) ?_; clear ha a; intro a ha; refine op_g ha rfl (g_move rfl) ?_; clear ha a; intro a ha
        by_cases hp370 : ¬ (x364 = true)
        · replace hF := if_t hp370 hF
          rw [show (!x364) = true from (n_iff (Iff.rfl)).2 hp370] at ha
          (iterate 4 refine op_unwant ha rfl (yields ha rfl rfl) rfl ?_; clear ha a; intro a ha); refine op_g ha rfl (g_pick rfl rfl) ?_; clear ha a; intro a ha; refine wpList_nil ?_; replace ha := ha.sub (σ' := [(1, va1), (10, va0), (11, (.int .i64 (a0.length : Int))), (12, (.int .i64 i124)), (39, (.bool true))]) ⟨rfl, rfl, rfl, rfl, rfl, trivial⟩; refine e_then ?_; refine c_true ha rfl ?_; refine wp_seq ?_; refine wp_region_lit ?_; refine op_g ha rfl (g_assign rfl) ?_; clear ha a; intro a ha; refine wpList_nil ?_; replace ha := ha.sub (σ' := [(4, (.bool false))]) ⟨rfl, trivial⟩; refine e_then ?_
          refine wp_ret ?_; refine e_blk_ret ?_; refine e_then_ret ?_; refine e_lq_ret ?_; refine e_then_ret ?_; obtain rfl := Option.some.inj hF
          have e371 := LK_inr hN254; subst e371
          have e372 := BK_inr hK250; subst e372
          exact f_ret1 ha rfl rfl ⟨rfl, hE369⟩
        replace hF := if_f hp370 hF
        rw [show (!x364) = false from b_false (n_iff (Iff.rfl)) hp370] at ha
        refine op_want (yields ha rfl rfl) ?_; refine op_g ha rfl (g_move rfl) ?_; clear ha a; intro a ha; refine op_want (yields ha rfl rfl) ?_; refine op_g ha rfl (g_move rfl) ?_; clear ha a; intro a ha; refine op_want (yields ha rfl rfl) ?_; refine op_g ha rfl (g32_andNot (m := x258) (n := u331) rfl rfl) ?_; clear ha a; intro a ha; refine op_want (yields ha rfl rfl) ?_; refine op_g ha rfl (g32_neq (m := (x258 &&& ~~~u331)) (n := (0#32)) rfl rfl) ?_; clear ha a; intro a ha; refine op_g ha rfl (g_pick rfl rfl) ?_; clear ha a; intro a ha; refine wpList_nil ?_; replace ha := ha.sub (σ' := [(1, va1), (10, va0), (11, (.int .i64 (a0.length : Int))), (12, (.int .i64 i124)), (35, (.int .u32 (BitVec.toNat x258 : Int))), (36, (.int .u32 (BitVec.toNat u331 : Int))), (37, (.int .u32 (BitVec.toNat (x258 &&& ~~~u331) : Int))), (38, (.bool (decide ((x258 &&& ~~~u331) ≠ (0#32))))), (39, (.bool (decide ((x258 &&& ~~~u331) ≠ (0#32)))))]) ⟨rfl, rfl, rfl, rfl, rfl, rfl, rfl, rfl, rfl, trivial⟩
        refine e_then ?_; refine c_cond ((x258 &&& ~~~u331) ≠ (0#32)) ha rfl (decide_eq_true_iff) (fun hp373 => ?_) (fun hp373 => ?_)
        · replace hF := if_t hp373 hF
          refine wp_seq ?_; refine wp_region_lit ?_; refine op_g ha rfl (g_assign rfl) ?_; clear ha a; intro a ha; refine wpList_nil ?_; replace ha := ha.sub (σ' := [(4, (.bool false))]) ⟨rfl, trivial⟩; refine e_then ?_; refine wp_ret ?_; refine e_blk_ret ?_; refine e_then_ret ?_; refine e_lq_ret ?_; refine e_then_ret ?_; obtain rfl := Option.some.inj hF
          have e374 := LK_inr hN254; subst e374
          have e375 := BK_inr hK250; subst e375
          exact f_ret1 ha rfl rfl ⟨rfl, hE369⟩
        replace hF := if_f hp373 hF; refine wp_skip ?_; refine e_blk ?_; refine e_then ?_; refine wp_region_lit ?_; obtain ⟨hI376, hF⟩ := ck_some hF; refine op_g ha rfl (g_add rfl rfl hI376) ?_; clear ha a; intro a ha; refine op_g ha rfl (g_move rfl) ?_; clear ha a; intro a ha; refine wpList_nil ?_; replace ha := ha.sub (σ' := [(1, va1), (10, va0), (11, (.int .i64 (a0.length : Int))), (12, (.int .i64 (i124 + 1))), (35, (.int .u32 (BitVec.toNat x258 : Int))), (36, (.int .u32 (BitVec.toNat u331 : Int))), (37, (.int .u32 (BitVec.toNat (x258 &&& ~~~u331) : Int))), (38, (.bool (decide ((x258 &&& ~~~u331) ≠ (0#32)))))]) ⟨rfl, rfl, rfl, rfl, rfl, rfl, rfl, rfl, trivial⟩
        refine e_lq ?_; obtain rfl := Option.some.inj hF
        exact ⟨_, Nat.lt_succ_self _, i124 + 1, ha.sub ⟨rfl, rfl, rfl, rfl, trivial⟩, hE369, hI376, hN254⟩
      replace hF := if_f hp257 hF; refine wp_exit ?_; refine e_then_exit ?_; refine e_lq_eq ?_; obtain rfl := Option.some.inj hF
      exact ⟨ha.sub trivial, hE126, (LK_inr hN254).symm⟩
  rintro a w247 ⟨ha, hE253, rfl⟩
  have hF : F_impl_coversEdges_k4 = some _ := hK250; clear hK250; unfold F_impl_coversEdges_k4 at hF
  refine e_then ?_; refine wp_seq ?_; refine wp_region_lit ?_; refine op_g ha rfl (g_assign rfl) ?_; clear ha a; intro a ha; refine wpList_nil ?_; refine e_then ?_; refine wp_ret ?_; obtain rfl := Option.some.inj hF
  exact f_ret1 ha rfl rfl ⟨rfl, hE253⟩
set_option maxHeartbeats 2000000 in
theorem W_impl_DecompOk {W : World} {va0_0 : Value} {fa0_0 : List Nat} {a0_0 : (List (List Int))} (ha0_0 : Ro (Rp.sl 2 Rp.int) W fa0_0 va0_0 a0_0) {va1_0 : Value} {fa1_0 : List Nat} {a1_0 : (List (List Int))} (ha1_0 : Ro (Rp.sl 2 Rp.int) W fa1_0 va1_0 a1_0) {va1_1 : Value} {fa1_1 : List Nat} {a1_1 : (List (List Int))} (ha1_1 : Ro (Rp.sl 2 Rp.int) W fa1_1 va1_1 a1_1) (hG : GT 0 W) {r : Bool} (hF : F_impl_DecompOk a0_0 a1_0 a1_1 = some r) :
    Calls Tryd.prog 26 [.agg #[va0_0], .agg #[va1_0, va1_1]].toArray W (Ret fun u w' => u = .bool r ∧ Ext W w') := by
  refine f_enter Tryd.func26 rfl Tryd.ntmps26 rfl ?_
  intro a ha
  replace ha : Fr 100 [(0, (.agg #[va0_0])), (1, (.agg #[va1_0, va1_1]))] a := ha
  have hE : Chg [] W W := Chg.refl _ _
  unfold F_impl_DecompOk at hF
  refine wp_seq ?_; refine wp_region_lit ?_
  refine o_box ha rfl rfl rfl ?_; clear ha a; intro b1 w2 hB3 hx4 hlo5 a ha
  have q6 := Zn.one hlo5
  have q7 := Zn.upD q6 hE
  have hE8 := Ext.trans hE hx4
  refine o_box ha rfl rfl rfl ?_; clear ha a; intro b9 w10 hB11 hx12 hlo13 a ha
  have q14 := Zn.one hlo13
  have q15 := Nq.new hB3.fpb q14
  have q16 := Nq.made1 hlo13 hB3.bi
  have q17 := Zn.upD q14 hE8
  replace hB3 := hB3.ext hx12
  have hE18 := Ext.trans hE8 hx12
  refine op_g ha rfl (g_assign rfl) ?_; clear ha a; intro a ha; refine wpList_nil ?_; replace ha := ha.sub (σ' := [(2, (.pointer (some ⟨b1, 0, none⟩))), (3, (.pointer (some ⟨b9, 0, none⟩)))]) ⟨rfl, rfl, trivial⟩; refine e_then ?_; refine wp_seq ?_; refine wp_region_lit ?_; refine op_g ha rfl (g_field0 st33_0 rfl) ?_; clear ha a; intro a ha; refine op_g ha rfl (g_load Tryd.isAgg22 rfl (hB11.cell rfl)) ?_; clear ha a; intro a ha; refine op_g ha rfl (g_lenR sl22.und ha1_0 rfl) ?_; clear ha a; intro a ha; refine op_g ha rfl (g_assign rfl) ?_; clear ha a; intro a ha; refine wpList_nil ?_; replace ha := ha.sub (σ' := [(2, (.pointer (some ⟨b1, 0, none⟩))), (3, (.pointer (some ⟨b9, 0, none⟩))), (5, (.int .i64 (a1_0.length : Int)))]) ⟨rfl, rfl, rfl, trivial⟩
  refine e_then ?_; refine wp_seq ?_; refine wp_seq ?_; refine wp_region_lit ?_; refine op_g ha rfl (g_loadA (cs := [va0_0]) Tryd.isAgg31 Tryd.sizeOf31 rfl (by simp) hB3.all) ?_; clear ha a; intro a ha; obtain ⟨x38, hc39, hF⟩ := cal_some hF
  refine o_call ha rfl rfl Tryd.call49 (W_impl_GraphOk (ha0_0.ext hE18) hc39) ?_; clear ha a; rintro v40 w41 ⟨rfl, hx42⟩ a ha
  replace hB3 := hB3.ext hx42
  replace hB11 := hB11.ext hx42
  have hE43 := Ext.trans hE18 hx42
  refine op_g ha rfl (g_not rfl) ?_; clear ha a; intro a ha; refine op_g ha rfl (g_move rfl) ?_; clear ha a; intro a ha
  by_cases hp44 : ¬ (x38 = true)
  · replace hF := if_t hp44 hF
    rw [show (!x38) = true from (n_iff (Iff.rfl)).2 hp44] at ha
    (iterate 2 refine op_unwant ha rfl (yields ha rfl rfl) rfl ?_; clear ha a; intro a ha); refine op_g ha rfl (g_pick rfl rfl) ?_; clear ha a; intro a ha; refine op_g ha rfl (g_move rfl) ?_; clear ha a; intro a ha; (iterate 2 refine op_unwant ha rfl (yields ha rfl rfl) rfl ?_; clear ha a; intro a ha); refine op_g ha rfl (g_pick rfl rfl) ?_; clear ha a; intro a ha; refine op_g ha rfl (g_move rfl) ?_; clear ha a; intro a ha; (iterate 6 refine op_unwant ha rfl (yields ha rfl rfl) rfl ?_; clear ha a; intro a ha); refine op_g ha rfl (g_pick rfl rfl) ?_; clear ha a; intro a ha; refine op_g ha rfl (g_move rfl) ?_; clear ha a; intro a ha
    (iterate 5 refine op_unwant ha rfl (yields ha rfl rfl) rfl ?_; clear ha a; intro a ha); refine op_g ha rfl (g_pick rfl rfl) ?_; clear ha a; intro a ha; refine wpList_nil ?_; replace ha := ha.sub (σ' := [(2, (.pointer (some ⟨b1, 0, none⟩))), (3, (.pointer (some ⟨b9, 0, none⟩))), (42, (.bool true))]) ⟨rfl, rfl, rfl, trivial⟩; refine e_then ?_; refine c_true ha rfl ?_; refine wp_seq ?_; refine wp_region_lit ?_; refine op_g ha rfl (g_assign rfl) ?_; clear ha a; intro a ha; refine wpList_nil ?_; replace ha := ha.sub (σ' := [(4, (.bool false))]) ⟨rfl, trivial⟩; refine e_then ?_; refine wp_ret ?_
    refine e_then_ret ?_; obtain rfl := Option.some.inj hF
    exact f_ret1 ha rfl rfl ⟨rfl, hE43⟩
  replace hF := if_f hp44 hF
  rw [show (!x38) = false from b_false (n_iff (Iff.rfl)) hp44] at ha
  refine op_want (yields ha rfl rfl) ?_; refine op_g ha rfl (g_move rfl) ?_; clear ha a; intro a ha; refine op_want (yields ha rfl rfl) ?_; refine op_g ha rfl (g_lss rfl rfl) ?_; clear ha a; intro a ha; refine op_g ha rfl (g_pick rfl rfl) ?_; clear ha a; intro a ha; refine op_g ha rfl (g_move rfl) ?_; clear ha a; intro a ha
  by_cases hp45 : (a1_0.length : Int) < 1
  · replace hF := if_t hp45 hF
    rw [show (decide ((a1_0.length : Int) < 1)) = true from (decide_eq_true_iff).2 hp45] at ha
    (iterate 2 refine op_unwant ha rfl (yields ha rfl rfl) rfl ?_; clear ha a; intro a ha); refine op_g ha rfl (g_pick rfl rfl) ?_; clear ha a; intro a ha; refine op_g ha rfl (g_move rfl) ?_; clear ha a; intro a ha; (iterate 6 refine op_unwant ha rfl (yields ha rfl rfl) rfl ?_; clear ha a; intro a ha); refine op_g ha rfl (g_pick rfl rfl) ?_; clear ha a; intro a ha; refine op_g ha rfl (g_move rfl) ?_; clear ha a; intro a ha; (iterate 5 refine op_unwant ha rfl (yields ha rfl rfl) rfl ?_; clear ha a; intro a ha); refine op_g ha rfl (g_pick rfl rfl) ?_; clear ha a; intro a ha; refine wpList_nil ?_
    replace ha := ha.sub (σ' := [(2, (.pointer (some ⟨b1, 0, none⟩))), (3, (.pointer (some ⟨b9, 0, none⟩))), (42, (.bool true))]) ⟨rfl, rfl, rfl, trivial⟩; refine e_then ?_; refine c_true ha rfl ?_; refine wp_seq ?_; refine wp_region_lit ?_; refine op_g ha rfl (g_assign rfl) ?_; clear ha a; intro a ha; refine wpList_nil ?_; replace ha := ha.sub (σ' := [(4, (.bool false))]) ⟨rfl, trivial⟩; refine e_then ?_; refine wp_ret ?_; refine e_then_ret ?_; obtain rfl := Option.some.inj hF
    exact f_ret1 ha rfl rfl ⟨rfl, hE43⟩
  replace hF := if_f hp45 hF
  rw [show (decide ((a1_0.length : Int) < 1)) = false from b_false (decide_eq_true_iff) hp45] at ha
  refine op_want (yields ha rfl rfl) ?_; refine op_g ha rfl (g_move rfl) ?_; clear ha a; intro a ha; refine op_want (yields ha rfl rfl) ?_; refine op_g ha rfl (g_gtr rfl rfl) ?_; clear ha a; intro a ha; refine op_g ha rfl (g_pick rfl rfl) ?_; clear ha a; intro a ha; refine op_g ha rfl (g_move rfl) ?_; clear ha a; intro a ha
  by_cases hp46 : 16 < (a1_0.length : Int)
  · replace hF := if_t hp46 hF
    rw [show (decide (16 < (a1_0.length : Int))) = true from (decide_eq_true_iff).2 hp46] at ha
    (iterate 6 refine op_unwant ha rfl (yields ha rfl rfl) rfl ?_; clear ha a; intro a ha); refine op_g ha rfl (g_pick rfl rfl) ?_; clear ha a; intro a ha; refine op_g ha rfl (g_move rfl) ?_; clear ha a; intro a ha; (iterate 5 refine op_unwant ha rfl (yields ha rfl rfl) rfl ?_; clear ha a; intro a ha); refine op_g ha rfl (g_pick rfl rfl) ?_; clear ha a; intro a ha; refine wpList_nil ?_; replace ha := ha.sub (σ' := [(2, (.pointer (some ⟨b1, 0, none⟩))), (3, (.pointer (some ⟨b9, 0, none⟩))), (42, (.bool true))]) ⟨rfl, rfl, rfl, trivial⟩; refine e_then ?_; refine c_true ha rfl ?_; refine wp_seq ?_
    refine wp_region_lit ?_; refine op_g ha rfl (g_assign rfl) ?_; clear ha a; intro a ha; refine wpList_nil ?_; replace ha := ha.sub (σ' := [(4, (.bool false))]) ⟨rfl, trivial⟩; refine e_then ?_; refine wp_ret ?_; refine e_then_ret ?_; obtain rfl := Option.some.inj hF
    exact f_ret1 ha rfl rfl ⟨rfl, hE43⟩
  replace hF := if_f hp46 hF
  rw [show (decide (16 < (a1_0.length : Int))) = false from b_false (decide_eq_true_iff) hp46] at ha
  refine op_want (yields ha rfl rfl) ?_; refine op_g ha rfl (g_field0 st33_1 rfl) ?_; clear ha a; intro a ha; refine op_want (yields ha rfl rfl) ?_; refine op_g ha rfl (g_load Tryd.isAgg22 rfl (hB11.cell rfl)) ?_; clear ha a; intro a ha; refine op_want (yields ha rfl rfl) ?_; refine op_g ha rfl (g_lenR sl22.und ha1_1 rfl) ?_; clear ha a; intro a ha; refine op_want (yields ha rfl rfl) ?_; refine op_g ha rfl (g_move rfl) ?_; clear ha a; intro a ha; refine op_want (yields ha rfl rfl) ?_; obtain ⟨hI47, hF⟩ := ck_some hF; refine op_g ha rfl (g_sub rfl rfl hI47) ?_; clear ha a; intro a ha; refine op_want (yields ha rfl rfl) ?_
  refine op_g ha rfl (g_neq rfl rfl) ?_; clear ha a; intro a ha; refine op_g ha rfl (g_pick rfl rfl) ?_; clear ha a; intro a ha; refine op_g ha rfl (g_move rfl) ?_; clear ha a; intro a ha
  by_cases hp49 : (a1_1.length : Int) ≠ ((a1_0.length : Int) - 1)
  · replace hF := if_t hp49 hF
    rw [show (decide ((a1_1.length : Int) ≠ ((a1_0.length : Int) - 1))) = true from (decide_eq_true_iff).2 hp49] at ha
    (iterate 5 refine op_unwant ha rfl (yields ha rfl rfl) rfl ?_; clear ha a; intro a ha); refine op_g ha rfl (g_pick rfl rfl) ?_; clear ha a; intro a ha; refine wpList_nil ?_; replace ha := ha.sub (σ' := [(2, (.pointer (some ⟨b1, 0, none⟩))), (3, (.pointer (some ⟨b9, 0, none⟩))), (42, (.bool true))]) ⟨rfl, rfl, rfl, trivial⟩; refine e_then ?_; refine c_true ha rfl ?_; refine wp_seq ?_; refine wp_region_lit ?_; refine op_g ha rfl (g_assign rfl) ?_; clear ha a; intro a ha; refine wpList_nil ?_; replace ha := ha.sub (σ' := [(4, (.bool false))]) ⟨rfl, trivial⟩; refine e_then ?_; refine wp_ret ?_
    refine e_then_ret ?_; obtain rfl := Option.some.inj hF
    exact f_ret1 ha rfl rfl ⟨rfl, hE43⟩
  replace hF := if_f hp49 hF
  rw [show (decide ((a1_1.length : Int) ≠ ((a1_0.length : Int) - 1))) = false from b_false (decide_eq_true_iff) hp49] at ha
  refine op_want (yields ha rfl rfl) ?_; refine op_g ha rfl (g_field0 st33_1 rfl) ?_; clear ha a; intro a ha; refine op_want (yields ha rfl rfl) ?_; refine op_g ha rfl (g_load Tryd.isAgg22 rfl (hB11.cell rfl)) ?_; clear ha a; intro a ha; refine op_want (yields ha rfl rfl) ?_; refine op_g ha rfl (g_move rfl) ?_; clear ha a; intro a ha; refine op_want (yields ha rfl rfl) ?_; obtain ⟨x50, hc51, hF⟩ := cal_some hF
  refine o_call ha rfl rfl Tryd.call50 (W_impl_goodLinks (ha1_1.ext hE43) ha1_0.len hc51) ?_; clear ha a; rintro v52 w53 ⟨rfl, hx54⟩ a ha
  replace hB3 := hB3.ext hx54
  replace hB11 := hB11.ext hx54
  have hE55 := Ext.trans hE43 hx54
  refine op_want (yields ha rfl rfl) ?_; refine op_g ha rfl (g_not rfl) ?_; clear ha a; intro a ha; refine op_g ha rfl (g_pick rfl rfl) ?_; clear ha a; intro a ha; refine wpList_nil ?_; replace ha := ha.sub (σ' := [(2, (.pointer (some ⟨b1, 0, none⟩))), (3, (.pointer (some ⟨b9, 0, none⟩))), (42, (.bool (!x50)))]) ⟨rfl, rfl, rfl, trivial⟩; refine e_then ?_; refine c_cond (¬ (x50 = true)) ha rfl (n_iff (Iff.rfl)) (fun hp56 => ?_) (fun hp56 => ?_)
  · replace hF := if_t hp56 hF
    refine wp_seq ?_; refine wp_region_lit ?_; refine op_g ha rfl (g_assign rfl) ?_; clear ha a; intro a ha; refine wpList_nil ?_; replace ha := ha.sub (σ' := [(4, (.bool false))]) ⟨rfl, trivial⟩; refine e_then ?_; refine wp_ret ?_; refine e_then_ret ?_; obtain rfl := Option.some.inj hF
    exact f_ret1 ha rfl rfl ⟨rfl, hE55⟩
  replace hF := if_f hp56 hF; refine wp_skip ?_; refine e_then ?_; refine wp_seq ?_; refine wp_seq ?_; refine wp_region_lit ?_; refine op_g ha rfl (g_field0 st33_0 rfl) ?_; clear ha a; intro a ha; refine op_g ha rfl (g_load Tryd.isAgg22 rfl (hB11.cell rfl)) ?_; clear ha a; intro a ha; refine op_g ha rfl (g_lenR sl22.und ha1_0 rfl) ?_; clear ha a; intro a ha; refine op_g ha rfl (g_move rfl) ?_; clear ha a; intro a ha; refine wpList_nil ?_; replace ha := ha.sub (σ' := [(2, (.pointer (some ⟨b1, 0, none⟩))), (3, (.pointer (some ⟨b9, 0, none⟩))), (44, va1_0), (45, (.int .i64 (a1_0.length : Int))), (46, (.int .i64 0))]) ⟨rfl, rfl, rfl, rfl, rfl, trivial⟩
  refine e_then ?_; obtain ⟨o148, ho149, hK150⟩ := bnd_some hF
  obtain ⟨n151, hn152⟩ := lp_some ho149; clear ho149
  refine c_loop (fun a w => Fr 100 [(2, (.pointer (some ⟨b1, 0, none⟩))), (3, (.pointer (some ⟨b9, 0, none⟩)))] a ∧ Chg [] W w ∧ Bx w b1 [va0_0] 31 ∧ Zn W (b1 : Int) ∧ Bx w b9 [va1_0, va1_1] 33 ∧ Zn W (b9 : Int) ∧ Nq ([b1]) (b9 : Int) ∧ Nq ([b9]) (b1 : Int) ∧ o148 = .inl ()) (fun n a w => ∃ (i103 : Int), Fr 100 [(2, (.pointer (some ⟨b1, 0, none⟩))), (3, (.pointer (some ⟨b9, 0, none⟩))), (44, va1_0), (45, (.int .i64 (a1_0.length : Int))), (46, (.int .i64 i103))] a ∧ Chg [] W w ∧ InI i103 ∧ Bx w b1 [va0_0] 31 ∧ Zn W (b1 : Int) ∧ Bx w b9 [va1_0, va1_1] 33 ∧ Zn W (b9 : Int) ∧ Nq ([b1]) (b9 : Int) ∧ Nq ([b9]) (b1 : Int) ∧ lpN (fun s => F_impl_DecompOk_l1 a0_0 a1_0 s) n i103 = some o148) n151 ⟨0, ha.sub ⟨rfl, rfl, rfl, rfl, rfl, trivial⟩, hE55, (show InI 0 from by decide), hB3, q7, hB11, q17, q15, q16, hn152⟩ ?_ ?_
  · rintro m156 a w98 ⟨i103, ha, hE107, hI104, hB99, z100, hB101, z102, q105, q106, hF⟩
    cases m156 with
    | zero => exact (lpN_zero hF).elim
    | succ m156 =>
      obtain ⟨z155, hF, hN154⟩ := lpN_succ hF
      have hF : F_impl_DecompOk_l1 a0_0 a1_0 i103 = some z155 := hF; unfold F_impl_DecompOk_l1 at hF
      refine wp_seq ?_; refine wp_region_lit ?_; refine op_g ha rfl (g_lss rfl rfl) ?_; clear ha a; intro a ha; refine wpList_nil ?_; replace ha := ha.sub (σ' := [(2, (.pointer (some ⟨b1, 0, none⟩))), (3, (.pointer (some ⟨b9, 0, none⟩))), (44, va1_0), (45, (.int .i64 (a1_0.length : Int))), (46, (.int .i64 i103)), (47, (.bool (decide (i103 < (a1_0.length : Int)))))]) ⟨rfl, rfl, rfl, rfl, rfl, rfl, trivial⟩; refine e_then ?_; refine wp_seq ?_; refine c_cond (i103 < (a1_0.length : Int)) ha rfl (decide_eq_true_iff) (fun hp157 => ?_) (fun hp157 => ?_)
      · replace hF := if_t hp157 hF
        refine wp_skip ?_; refine e_then ?_; refine wp_seq ?_; refine wp_block ?_; refine wp_seq ?_; refine wp_region_lit ?_; obtain ⟨x158, g159, gx160, hF⟩ := idx_some hF
        obtain ⟨p161, cs162, f163, hf164, hpb165, hat166, hr167, hi168⟩ := ha1_0.at g159 gx160
        obtain ⟨v169, rfl, h170⟩ := hr167
        have h170 : Ro Rp.int W f163 v169 x158 := h170
        refine op_g ha rfl (hi168.gives sl22 rfl rfl) ?_; clear ha a; intro a ha; refine op_g ha rfl (g_load0 hE107 Tryd.isAgg29 rfl hat166.one) ?_; clear ha a; intro a ha; refine op_g ha rfl (g_assign rfl) ?_; clear ha a; intro a ha; refine wpList_nil ?_; replace ha := ha.sub (σ' := [(2, (.pointer (some ⟨b1, 0, none⟩))), (3, (.pointer (some ⟨b9, 0, none⟩))), (7, v169), (44, va1_0), (45, (.int .i64 (a1_0.length : Int))), (46, (.int .i64 i103))]) ⟨rfl, rfl, rfl, rfl, rfl, rfl, trivial⟩; refine e_then ?_; refine wp_seq ?_; refine wp_region_lit ?_; refine op_g ha rfl (g_move rfl) ?_; clear ha a; intro a ha
        refine op_g ha rfl (g_field0 st31_0 rfl) ?_; clear ha a; intro a ha; refine op_g ha rfl (g_load Tryd.isAgg22 rfl (hB99.cell rfl)) ?_; clear ha a; intro a ha; refine op_g ha rfl (g_lenR sl22.und ha0_0 rfl) ?_; clear ha a; intro a ha; obtain ⟨x172, hc173, hF⟩ := cal_some hF
        refine o_call ha rfl rfl Tryd.call51 (W_impl_increasing (h170.ext hE107) ha0_0.len hc173) ?_; clear ha a; rintro v174 w175 ⟨rfl, hx176⟩ a ha
        replace hB99 := hB99.ext hx176
        replace hB101 := hB101.ext hx176
        have hE177 := Ext.trans hE107 hx176
        refine op_g ha rfl (g_not rfl) ?_; clear ha a; intro a ha; refine wpList_nil ?_; replace ha := ha.sub (σ' := [(2, (.pointer (some ⟨b1, 0, none⟩))), (3, (.pointer (some ⟨b9, 0, none⟩))), (44, va1_0), (45, (.int .i64 (a1_0.length : Int))), (46, (.int .i64 i103)), (55, (.bool (!x172)))]) ⟨rfl, rfl, rfl, rfl, rfl, rfl, trivial⟩; refine e_then ?_; refine c_cond (¬ (x172 = true)) ha rfl (n_iff (Iff.rfl)) (fun hp178 => ?_) (fun hp178 => ?_)
        · replace hF := if_t hp178 hF
          refine wp_seq ?_; refine wp_region_lit ?_; refine op_g ha rfl (g_assign rfl) ?_; clear ha a; intro a ha; refine wpList_nil ?_; replace ha := ha.sub (σ' := [(4, (.bool false))]) ⟨rfl, trivial⟩; refine e_then ?_; refine wp_ret ?_; refine e_blk_ret ?_; refine e_then_ret ?_; refine e_lq_ret ?_; refine e_then_ret ?_; obtain rfl := Option.some.inj hF
          have e179 := LK_inr hN154; subst e179
          have e180 := BK_inr hK150; subst e180
          exact f_ret1 ha rfl rfl ⟨rfl, hE177⟩
        replace hF := if_f hp178 hF; refine wp_skip ?_; refine e_blk ?_; refine e_then ?_; refine wp_region_lit ?_; obtain ⟨hI181, hF⟩ := ck_some hF; refine op_g ha rfl (g_add rfl rfl hI181) ?_; clear ha a; intro a ha; refine op_g ha rfl (g_move rfl) ?_; clear ha a; intro a ha; refine wpList_nil ?_; replace ha := ha.sub (σ' := [(2, (.pointer (some ⟨b1, 0, none⟩))), (3, (.pointer (some ⟨b9, 0, none⟩))), (44, va1_0), (45, (.int .i64 (a1_0.length : Int))), (46, (.int .i64 (i103 + 1)))]) ⟨rfl, rfl, rfl, rfl, rfl, trivial⟩; refine e_lq ?_; obtain rfl := Option.some.inj hF
        exact ⟨_, Nat.lt_succ_self _, i103 + 1, ha.sub ⟨rfl, rfl, rfl, rfl, rfl, trivial⟩, hE177, hI181, hB99, z100, hB101, z102, q105, q106, hN154⟩
      replace hF := if_f hp157 hF; refine wp_exit ?_; refine e_then_exit ?_; refine e_lq_eq ?_; obtain rfl := Option.some.inj hF
      exact ⟨ha.sub ⟨rfl, rfl, trivial⟩, hE107, hB99, z100, hB101, z102, q105, q106, (LK_inr hN154).symm⟩
  rintro a w141 ⟨ha, hE153, hB142, z143, hB144, z145, q146, q147, rfl⟩
  have hF : F_impl_DecompOk_k2 a0_0 a1_0 a1_1 = some _ := hK150; clear hK150; unfold F_impl_DecompOk_k2 at hF
  refine e_then ?_; refine wp_seq ?_; refine d_region [0, 1, 2, 3, 4, 5, 6] hmix ?_; refine u_g 0 rfl (by kernel_rfl) (want0 _) ha rfl (g_loadA (cs := [va1_0, va1_1]) Tryd.isAgg33 Tryd.sizeOf33 rfl (by simp) hB144.all) ?_; clear ha a; intro a ha; refine u_g 2 rfl (by kernel_rfl) (want0 _) ha rfl (g_field0 st33_0 rfl) ?_; clear ha a; intro a ha; refine u_g 3 rfl (by kernel_rfl) (want0 _) ha rfl (g_load Tryd.isAgg22 rfl (hB144.cell rfl)) ?_; clear ha a; intro a ha
  refine u_only 1 rfl (by kernel_rfl) ?_; intro w183 hx184
  replace hB142 := hB142.ext hx184
  replace hB144 := hB144.ext hx184
  have hE185 := Ext.trans hE153 hx184
  obtain ⟨x186, hc187, hF⟩ := cal_some hF
  refine o_call ha rfl rfl Tryd.call52 (W_impl_linkNets (ha1_0.ext hE185) (ha1_1.ext hE185) hc187) ?_; clear ha a; rintro v188 w189 ⟨b191, h192, z193, hx190⟩ a ha
  have q195 := Nq.new hB142.fpb z193
  have q196 := Nq.madeO z193 hB142.bi
  have q197 := Nq.new hB144.fpb z193
  have q198 := Nq.madeO z193 hB144.bi
  replace hB142 := hB142.ext hx190
  replace hB144 := hB144.ext hx190
  have hE199 := Ext.trans hE185 hx190
  have q200 := Zn.upD z193 hE185
  refine wpList_nil (e_sq ?_)
  refine ⟨fun _ => hx190, ?_⟩
  refine u_only 4 rfl (by kernel_rfl) ?_; intro w201 hx202
  replace hB142 := hB142.ext hx202
  replace hB144 := hB144.ext hx202
  replace h192 := h192.ext hx202
  have hE203 := Ext.trans hE199 hx202
  obtain ⟨x204, hc205, hF⟩ := cal_some hF
  refine o_call ha rfl rfl Tryd.call28 (W_impl_bagMasks (ha1_0.ext hE203) hc205) ?_; clear ha a; rintro v206 w207 ⟨b209, h210, z211, hx208⟩ a ha
  have q213 := Nq.new hB142.fpb z211
  have q214 := Nq.madeO z211 hB142.bi
  have q215 := Nq.new hB144.fpb z211
  have q216 := Nq.madeO z211 hB144.bi
  have q217 := Nq.new h192.fpb z211
  have q218 := Nq.madeO z211 h192.blt
  replace hB142 := hB142.ext hx208
  replace hB144 := hB144.ext hx208
  replace h192 := h192.ext hx208
  have hE219 := Ext.trans hE203 hx208
  have q220 := Zn.upD z211 hE203
  refine wpList_nil (e_sq ?_)
  refine ⟨fun _ => hx208, ?_⟩
  refine u_g 5 rfl (by kernel_rfl) (want0 _) ha rfl (g_assign rfl) ?_; clear ha a; intro a ha; refine u_g 6 rfl (by kernel_rfl) (want0 _) ha rfl (g_assign rfl) ?_; clear ha a; intro a ha
  refine u_done (by kernel_rfl) ?_; intro w221 hx222
  replace hB142 := hB142.ext hx222
  replace hB144 := hB144.ext hx222
  replace h192 := h192.ext hx222
  replace h210 := h210.ext hx222
  have hE223 := Ext.trans hE219 hx222
  replace ha := ha.sub (σ' := [(2, (.pointer (some ⟨b1, 0, none⟩))), (8, v188), (9, v206)]) ⟨rfl, rfl, rfl, trivial⟩; refine e_then ?_; refine wp_seq ?_; refine wp_seq ?_; refine wp_region_lit ?_; (iterate 2 refine op_g ha rfl (g_move rfl) ?_; clear ha a; intro a ha)
  obtain ⟨fp273, hro274, hs275⟩ := h192.roF
  obtain ⟨x276, hc277, hF⟩ := cal_some hF
  refine o_call ha rfl rfl Tryd.call29 (W_impl_nets_all hro274 hc277) ?_; clear ha a; rintro v278 w279 ⟨rfl, hx280⟩ a ha
  replace hB142 := hB142.ext hx280
  replace h192 := h192.ext hx280
  replace h210 := h210.ext hx280
  have hE281 := Ext.trans hE223 hx280
  obtain ⟨fp282, hro283, hs284⟩ := h192.roF
  obtain ⟨x285, hc286, hF⟩ := cal_some hF
  refine o_call ha rfl rfl Tryd.call53 (W_impl_connected hro283 (hG.ext hE281) hc286) ?_; clear ha a; rintro v287 w288 ⟨rfl, hx289⟩ a ha
  replace hB142 := hB142.ext hx289
  replace h192 := h192.ext hx289
  replace h210 := h210.ext hx289
  have hE290 := Ext.trans hE281 hx289
  refine op_g ha rfl (g_not rfl) ?_; clear ha a; intro a ha; refine op_g ha rfl (g_move rfl) ?_; clear ha a; intro a ha
  by_cases hp291 : ¬ (x285 = true)
  · replace hF := if_t hp291 hF
    rw [show (!x285) = true from (n_iff (Iff.rfl)).2 hp291] at ha
    (iterate 5 refine op_unwant ha rfl (yields ha rfl rfl) rfl ?_; clear ha a; intro a ha); refine op_g ha rfl (g_pick rfl rfl) ?_; clear ha a; intro a ha; refine wpList_nil ?_; replace ha := ha.sub (σ' := [(2, (.pointer (some ⟨b1, 0, none⟩))), (8, v188), (9, v206), (73, (.bool true))]) ⟨rfl, rfl, rfl, rfl, trivial⟩; refine e_then ?_; refine c_true ha rfl ?_; refine wp_seq ?_; refine wp_region_lit ?_; refine op_g ha rfl (g_assign rfl) ?_; clear ha a; intro a ha; refine wpList_nil ?_; replace ha := ha.sub (σ' := [(4, (.bool false))]) ⟨rfl, trivial⟩; refine e_then ?_; refine wp_ret ?_; refine e_then_ret ?_
    obtain rfl := Option.some.inj hF
    exact f_ret1 ha rfl rfl ⟨rfl, hE290⟩
  replace hF := if_f hp291 hF
  rw [show (!x285) = false from b_false (n_iff (Iff.rfl)) hp291] at ha
  refine op_want (yields ha rfl rfl) ?_; refine op_g ha rfl (g_loadA (cs := [va0_0]) Tryd.isAgg31 Tryd.sizeOf31 rfl (by simp) hB142.all) ?_; clear ha a; intro a ha; refine op_want (yields ha rfl rfl) ?_; obtain ⟨x292, hc293, hF⟩ := cal_some hF
  refine o_call ha rfl rfl Tryd.call27 (W_impl_netsOf (ha0_0.ext hE290) hc293) ?_; clear ha a; rintro v294 w295 ⟨b297, h298, z299, hx296⟩ a ha
  have q301 := Nq.new hB142.fpb z299
  have q302 := Nq.madeO z299 hB142.bi
  have q303 := Nq.new h192.fpb z299
  have q304 := Nq.madeO z299 h192.blt
  have q305 := Nq.new h210.fpb z299
  have q306 := Nq.madeO z299 h210.blt
  replace hB142 := hB142.ext hx296
  replace h192 := h192.ext hx296
  replace h210 := h210.ext hx296
  have hE307 := Ext.trans hE290 hx296
  have q308 := Zn.upD z299 hE290
  refine op_want (yields ha rfl rfl) ?_; refine op_g ha rfl (g_move rfl) ?_; clear ha a; intro a ha; refine op_want (yields ha rfl rfl) ?_
  obtain ⟨fp309, hro310, hs311⟩ := h298.roF
  obtain ⟨fp312, hro313, hs314⟩ := h210.roF
  obtain ⟨x315, hc316, hF⟩ := cal_some hF
  refine o_call ha rfl rfl Tryd.call54 (W_impl_coversEdges hro310 hro313 hc316) ?_; clear ha a; rintro v317 w318 ⟨rfl, hx319⟩ a ha
  replace hB142 := hB142.ext hx319
  replace h192 := h192.ext hx319
  replace h210 := h210.ext hx319
  replace h298 := h298.ext hx319
  have hE320 := Ext.trans hE307 hx319
  refine op_want (yields ha rfl rfl) ?_; refine op_g ha rfl (g_not rfl) ?_; clear ha a; intro a ha; refine op_g ha rfl (g_pick rfl rfl) ?_; clear ha a; intro a ha; refine wpList_nil ?_; replace ha := ha.sub (σ' := [(2, (.pointer (some ⟨b1, 0, none⟩))), (8, v188), (9, v206), (73, (.bool (!x315)))]) ⟨rfl, rfl, rfl, rfl, trivial⟩; refine e_then ?_; refine c_cond (¬ (x315 = true)) ha rfl (n_iff (Iff.rfl)) (fun hp321 => ?_) (fun hp321 => ?_)
  · replace hF := if_t hp321 hF
    refine wp_seq ?_; refine wp_region_lit ?_; refine op_g ha rfl (g_assign rfl) ?_; clear ha a; intro a ha; refine wpList_nil ?_; replace ha := ha.sub (σ' := [(4, (.bool false))]) ⟨rfl, trivial⟩; refine e_then ?_; refine wp_ret ?_; refine e_then_ret ?_; obtain rfl := Option.some.inj hF
    exact f_ret1 ha rfl rfl ⟨rfl, hE320⟩
  replace hF := if_f hp321 hF; refine wp_skip ?_; refine e_then ?_; refine wp_seq ?_; refine wp_seq ?_; refine wp_region_lit ?_; refine op_g ha rfl (g_field0 st31_0 rfl) ?_; clear ha a; intro a ha; refine op_g ha rfl (g_load Tryd.isAgg22 rfl (hB142.cell rfl)) ?_; clear ha a; intro a ha; refine op_g ha rfl (g_lenR sl22.und ha0_0 rfl) ?_; clear ha a; intro a ha; refine op_g ha rfl (g_move rfl) ?_; clear ha a; intro a ha; refine wpList_nil ?_; replace ha := ha.sub (σ' := [(8, v188), (9, v206), (76, (.int .i64 (a0_0.length : Int))), (77, (.int .i64 0))]) ⟨rfl, rfl, rfl, rfl, trivial⟩; refine e_then ?_
  obtain ⟨o699, ho700, hK701⟩ := bnd_some hF
  obtain ⟨n702, hn703⟩ := lp_some ho700; clear ho700
  refine c_loop (fun a w => Fr 100 [] a ∧ Chg [] W w ∧ o699 = .inl ()) (fun n a w => ∃ (i516 : Int), Fr 100 [(8, v188), (9, v206), (76, (.int .i64 (a0_0.length : Int))), (77, (.int .i64 i516))] a ∧ Chg [] W w ∧ InI i516 ∧ Ow Rp.u32 58 true w [] b191 v188 x186 ∧ Zn W b191 ∧ Ow Rp.u32 58 true w [] b209 v206 x204 ∧ Zn W b209 ∧ Nq (bl b191 ++ []) b209 ∧ Nq (bl b209 ++ []) b191 ∧ lpN (fun s => F_impl_DecompOk_l3 a0_0 x186 x204 s) n i516 = some o699) n702 ⟨0, ha.sub ⟨rfl, rfl, rfl, rfl, trivial⟩, hE320, (show InI 0 from by decide), h192, q200, h210, q220, q217, q218, hn703⟩ ?_ ?_
  · rintro m707 a w509 ⟨i516, ha, hE520, hI517, h511, z512, h514, z515, q518, q519, hF⟩
    cases m707 with
    | zero => exact (lpN_zero hF).elim
    | succ m707 =>
      obtain ⟨z706, hF, hN705⟩ := lpN_succ hF
      have hF : F_impl_DecompOk_l3 a0_0 x186 x204 i516 = some z706 := hF; unfold F_impl_DecompOk_l3 at hF
      refine wp_seq ?_; refine wp_region_lit ?_; refine op_g ha rfl (g_lss rfl rfl) ?_; clear ha a; intro a ha; refine wpList_nil ?_; replace ha := ha.sub (σ' := [(8, v188), (9, v206), (76, (.int .i64 (a0_0.length : Int))), (77, (.int .i64 i516)), (78, (.bool (decide (i516 < (a0_0.length : Int)))))]) ⟨rfl, rfl, rfl, rfl, rfl, trivial⟩; refine e_then ?_; refine wp_seq ?_; refine c_cond (i516 < (a0_0.length : Int)) ha rfl (decide_eq_true_iff) (fun hp708 => ?_) (fun hp708 => ?_)
      · replace hF := if_t hp708 hF
        refine wp_skip ?_; refine e_then ?_; refine wp_seq ?_; refine wp_block ?_; refine wp_seq ?_; refine wp_region_lit ?_; refine op_g ha rfl (g_move rfl) ?_; clear ha a; intro a ha; refine op_g ha rfl (g_assign rfl) ?_; clear ha a; intro a ha; refine wpList_nil ?_; replace ha := ha.sub (σ' := [(8, v188), (9, v206), (10, (.int .i64 i516)), (76, (.int .i64 (a0_0.length : Int))), (77, (.int .i64 i516))]) ⟨rfl, rfl, rfl, rfl, rfl, trivial⟩; refine e_then ?_; refine wp_seq ?_; refine wp_region_lit ?_; refine op_g ha rfl (g_assign rfl) ?_; clear ha a; intro a ha; refine wpList_nil ?_; replace ha := ha.sub (σ' := [(8, v188), (9, v206), (10, (.int .i64 i516)), (11, (.int .u32 (BitVec.toNat (0#32) : Int))), (76, (.int .i64 (a0_0.length : Int))), (77, (.int .i64 i516))]) ⟨rfl, rfl, rfl, rfl, rfl, rfl, trivial⟩
        refine e_then ?_; refine wp_seq ?_; refine wp_seq ?_; refine wp_region_lit ?_; refine op_g ha rfl (g_move rfl) ?_; clear ha a; intro a ha; refine op_g ha rfl (g_lenO sl52.und h514 rfl) ?_; clear ha a; intro a ha; refine op_g ha rfl (g_move rfl) ?_; clear ha a; intro a ha; refine wpList_nil ?_; replace ha := ha.sub (σ' := [(8, v188), (9, v206), (10, (.int .i64 i516)), (11, (.int .u32 (BitVec.toNat (0#32) : Int))), (76, (.int .i64 (a0_0.length : Int))), (77, (.int .i64 i516)), (80, v206), (81, (.int .i64 (x204.length : Int))), (82, (.int .i64 0))]) ⟨rfl, rfl, rfl, rfl, rfl, rfl, rfl, rfl, rfl, trivial⟩
        refine e_then ?_; obtain ⟨o824, ho825, hK826⟩ := bnd_some hF
        obtain ⟨n827, hn828⟩ := lp_some ho825; clear ho825
        refine c_loop (fun a w => ∃ (u821 : BitVec 32), Fr 100 [(8, v188), (9, v206), (11, (.int .u32 (BitVec.toNat u821 : Int))), (76, (.int .i64 (a0_0.length : Int))), (77, (.int .i64 i516))] a ∧ Chg [] W w ∧ Ow Rp.u32 58 true w [] b191 v188 x186 ∧ Zn W b191 ∧ Ow Rp.u32 58 true w [] b209 v206 x204 ∧ Zn W b209 ∧ Nq (bl b191 ++ []) b209 ∧ Nq (bl b209 ++ []) b191 ∧ o824 = .inl u821) (fun n a w => ∃ (u767 : BitVec 32) (i768 : Int), Fr 100 [(8, v188), (9, v206), (10, (.int .i64 i516)), (11, (.int .u32 (BitVec.toNat u767 : Int))), (76, (.int .i64 (a0_0.length : Int))), (77, (.int .i64 i516)), (80, v206), (81, (.int .i64 (x204.length : Int))), (82, (.int .i64 i768))] a ∧ Chg [] W w ∧ InI i768 ∧ Ow Rp.u32 58 true w [] b191 v188 x186 ∧ Zn W b191 ∧ Ow Rp.u32 58 true w [] b209 v206 x204 ∧ Zn W b209 ∧ Nq (bl b191 ++ []) b209 ∧ Nq (bl b209 ++ []) b191 ∧ lpN (fun s => F_impl_DecompOk_l4 x204 i516 s.1 s.2) n (u767, i768) = some o824) n827 ⟨0#32, 0, ha.sub ⟨rfl, rfl, rfl, rfl, rfl, rfl, rfl, rfl, rfl, trivial⟩, hE520, (show InI 0 from by decide), h511, z512, h514, z515, q518, q519, hn828⟩ ?_ ?_
        · rintro m832 a w760 ⟨u767, i768, ha, hE772, hI769, h762, z763, h765, z766, q770, q771, hF⟩
          cases m832 with
          | zero => exact (lpN_zero hF).elim
          | succ m832 =>
            obtain ⟨z831, hF, hN830⟩ := lpN_succ hF
            have hF : F_impl_DecompOk_l4 x204 i516 u767 i768 = some z831 := hF; unfold F_impl_DecompOk_l4 at hF
            refine wp_seq ?_; refine wp_region_lit ?_; refine op_g ha rfl (g_lss rfl rfl) ?_; clear ha a; intro a ha; refine wpList_nil ?_; replace ha := ha.sub (σ' := [(8, v188), (9, v206), (10, (.int .i64 i516)), (11, (.int .u32 (BitVec.toNat u767 : Int))), (76, (.int .i64 (a0_0.length : Int))), (77, (.int .i64 i516)), (80, v206), (81, (.int .i64 (x204.length : Int))), (82, (.int .i64 i768)), (83, (.bool (decide (i768 < (x204.length : Int)))))]) ⟨rfl, rfl, rfl, rfl, rfl, rfl, rfl, rfl, rfl, rfl, trivial⟩; refine e_then ?_; refine wp_seq ?_; refine c_cond (i768 < (x204.length : Int)) ha rfl (decide_eq_true_iff) (fun hp833 => ?_) (fun hp833 => ?_)
            · replace hF := if_t hp833 hF
              refine wp_skip ?_; refine e_then ?_; refine wp_seq ?_; refine wp_block ?_; refine wp_seq ?_; refine wp_region_lit ?_; refine op_g ha rfl (g_move rfl) ?_; clear ha a; intro a ha; obtain ⟨x834, g835, gx836, hF⟩ := idx_some hF
              obtain ⟨p837, cs838, f839, hf840, hpb841, hat842, hr843, hi844⟩ := h765.at g835 gx836
              obtain ⟨rfl, rfl⟩ := hr843
              refine op_g ha rfl (hi844.gives sl52 rfl rfl) ?_; clear ha a; intro a ha; refine op_g ha rfl (g_load Tryd.isAgg58 rfl hat842.one) ?_; clear ha a; intro a ha; (iterate 2 refine op_g ha rfl (g_assign rfl) ?_; clear ha a; intro a ha); refine wpList_nil ?_; replace ha := ha.sub (σ' := [(8, v188), (9, v206), (10, (.int .i64 i516)), (11, (.int .u32 (BitVec.toNat u767 : Int))), (12, (.int .i64 i768)), (13, (.int .u32 (BitVec.toNat x834 : Int))), (76, (.int .i64 (a0_0.length : Int))), (77, (.int .i64 i516)), (80, v206), (81, (.int .i64 (x204.length : Int))), (82, (.int .i64 i768))]) ⟨rfl, rfl, rfl, rfl, rfl, rfl, rfl, rfl, rfl, rfl, rfl, trivial⟩
              refine e_then ?_; refine wp_seq ?_; refine wp_region_lit ?_; (iterate 2 refine op_g ha rfl (g_move rfl) ?_; clear ha a; intro a ha); obtain ⟨x845, hc846, hF⟩ := cal_some hF
              refine o_call ha rfl rfl Tryd.call55 (W_impl_vset_has hI517 hc846) ?_; clear ha a; rintro v847 w848 ⟨rfl, hx849⟩ a ha
              replace h762 := h762.ext hx849
              replace h765 := h765.ext hx849
              have hE850 := Ext.trans hE772 hx849
              refine wpList_nil ?_; replace ha := ha.sub (σ' := [(8, v188), (9, v206), (10, (.int .i64 i516)), (11, (.int .u32 (BitVec.toNat u767 : Int))), (12, (.int .i64 i768)), (76, (.int .i64 (a0_0.length : Int))), (77, (.int .i64 i516)), (80, v206), (81, (.int .i64 (x204.length : Int))), (82, (.int .i64 i768)), (89, (.bool x845))]) ⟨rfl, rfl, rfl, rfl, rfl, rfl, rfl, rfl, rfl, rfl, rfl, trivial⟩; refine e_then ?_; refine c_cond (x845 = true) ha rfl (Iff.rfl) (fun hp851 => ?_) (fun hp851 => ?_)
              · replace hF := if_t hp851 hF
                refine wp_region_lit ?_; (iterate 2 refine op_g ha rfl (g_move rfl) ?_; clear ha a; intro a ha); obtain ⟨x852, hc853, hF⟩ := cal_some hF
                refine o_call ha rfl rfl Tryd.call31 (W_impl_one hI769 hc853) ?_; clear ha a; rintro v854 w855 ⟨rfl, hx856⟩ a ha
                replace h762 := h762.ext hx856
                replace h765 := h765.ext hx856
                have hE857 := Ext.trans hE850 hx856
                refine op_g ha rfl (g32_or (m := u767) (n := x852) rfl rfl) ?_; clear ha a; intro a ha; refine op_g ha rfl (g_assign rfl) ?_; clear ha a; intro a ha; refine wpList_nil ?_; replace ha := ha.sub (σ' := [(8, v188), (9, v206), (10, (.int .i64 i516)), (11, (.int .u32 (BitVec.toNat (u767 ||| x852) : Int))), (76, (.int .i64 (a0_0.length : Int))), (77, (.int .i64 i516)), (80, v206), (81, (.int .i64 (x204.length : Int))), (82, (.int .i64 i768))]) ⟨rfl, rfl, rfl, rfl, rfl, rfl, rfl, rfl, rfl, trivial⟩; refine e_blk ?_; refine e_then ?_; refine wp_region_lit ?_; obtain ⟨hI858, hF⟩ := ck_some hF
                refine op_g ha rfl (g_add rfl rfl hI858) ?_; clear ha a; intro a ha; refine op_g ha rfl (g_move rfl) ?_; clear ha a; intro a ha; refine wpList_nil ?_; replace ha := ha.sub (σ' := [(8, v188), (9, v206), (10, (.int .i64 i516)), (11, (.int .u32 (BitVec.toNat (u767 ||| x852) : Int))), (76, (.int .i64 (a0_0.length : Int))), (77, (.int .i64 i516)), (80, v206), (81, (.int .i64 (x204.length : Int))), (82, (.int .i64 (i768 + 1)))]) ⟨rfl, rfl, rfl, rfl, rfl, rfl, rfl, rfl, rfl, trivial⟩; refine e_lq ?_; obtain rfl := Option.some.inj hF
                exact ⟨_, Nat.lt_succ_self _, u767 ||| x852, i768 + 1, ha.sub ⟨rfl, rfl, rfl, rfl, rfl, rfl, rfl, rfl, rfl, trivial⟩, hE857, hI858, h762, z763, h765, z766, q770, q771, hN830⟩
              replace hF := if_f hp851 hF; refine wp_skip ?_; refine e_blk ?_; refine e_then ?_; refine wp_region_lit ?_; obtain ⟨hI860, hF⟩ := ck_some hF; refine op_g ha rfl (g_add rfl rfl hI860) ?_; clear ha a; intro a ha; refine op_g ha rfl (g_move rfl) ?_; clear ha a; intro a ha; refine wpList_nil ?_; replace ha := ha.sub (σ' := [(8, v188), (9, v206), (10, (.int .i64 i516)), (11, (.int .u32 (BitVec.toNat u767 : Int))), (76, (.int .i64 (a0_0.length : Int))), (77, (.int .i64 i516)), (80, v206), (81, (.int .i64 (x204.length : Int))), (82, (.int .i64 (i768 + 1)))]) ⟨rfl, rfl, rfl, rfl, rfl, rfl, rfl, rfl, rfl, trivial⟩
              refine e_lq ?_; obtain rfl := Option.some.inj hF
              exact ⟨_, Nat.lt_succ_self _, u767, i768 + 1, ha.sub ⟨rfl, rfl, rfl, rfl, rfl, rfl, rfl, rfl, rfl, trivial⟩, hE850, hI860, h762, z763, h765, z766, q770, q771, hN830⟩
            replace hF := if_f hp833 hF; refine wp_exit ?_; refine e_then_exit ?_; refine e_lq_eq ?_; obtain rfl := Option.some.inj hF
            exact ⟨u767, ha.sub ⟨rfl, rfl, rfl, rfl, rfl, trivial⟩, hE772, h762, z763, h765, z766, q770, q771, (LK_inr hN830).symm⟩
        rintro a w814 ⟨u821, ha, hE829, h816, z817, h819, z820, q822, q823, rfl⟩
        have hF : F_impl_DecompOk_k5 x186 i516 u821 = some _ := hK826; clear hK826; unfold F_impl_DecompOk_k5 at hF
        refine e_then ?_; refine wp_seq ?_; refine wp_region_lit ?_; (iterate 2 refine op_g ha rfl (g_move rfl) ?_; clear ha a; intro a ha)
        obtain ⟨fp862, hro863, hs864⟩ := h816.roF
        obtain ⟨x865, hc866, hF⟩ := cal_some hF
        refine o_call ha rfl rfl Tryd.call53 (W_impl_connected hro863 (hG.ext hE829) hc866) ?_; clear ha a; rintro v867 w868 ⟨rfl, hx869⟩ a ha
        replace h816 := h816.ext hx869
        replace h819 := h819.ext hx869
        have hE870 := Ext.trans hE829 hx869
        refine op_g ha rfl (g_not rfl) ?_; clear ha a; intro a ha; refine wpList_nil ?_; replace ha := ha.sub (σ' := [(8, v188), (9, v206), (76, (.int .i64 (a0_0.length : Int))), (77, (.int .i64 i516)), (98, (.bool (!x865)))]) ⟨rfl, rfl, rfl, rfl, rfl, trivial⟩; refine e_then ?_; refine c_cond (¬ (x865 = true)) ha rfl (n_iff (Iff.rfl)) (fun hp871 => ?_) (fun hp871 => ?_)
        · replace hF := if_t hp871 hF
          refine wp_seq ?_; refine wp_region_lit ?_; refine op_g ha rfl (g_assign rfl) ?_; clear ha a; intro a ha; refine wpList_nil ?_; replace ha := ha.sub (σ' := [(4, (.bool false))]) ⟨rfl, trivial⟩; refine e_then ?_; refine wp_ret ?_; refine e_blk_ret ?_; refine e_then_ret ?_; refine e_lq_ret ?_; refine e_then_ret ?_; obtain rfl := Option.some.inj hF
          have e872 := LK_inr hN705; subst e872
          have e873 := BK_inr hK701; subst e873
          exact f_ret1 ha rfl rfl ⟨rfl, hE870⟩
        replace hF := if_f hp871 hF; refine wp_skip ?_; refine e_blk ?_; refine e_then ?_; refine wp_region_lit ?_; obtain ⟨hI874, hF⟩ := ck_some hF; refine op_g ha rfl (g_add rfl rfl hI874) ?_; clear ha a; intro a ha; refine op_g ha rfl (g_move rfl) ?_; clear ha a; intro a ha; refine wpList_nil ?_; replace ha := ha.sub (σ' := [(8, v188), (9, v206), (76, (.int .i64 (a0_0.length : Int))), (77, (.int .i64 (i516 + 1)))]) ⟨rfl, rfl, rfl, rfl, trivial⟩; refine e_lq ?_; obtain rfl := Option.some.inj hF
        exact ⟨_, Nat.lt_succ_self _, i516 + 1, ha.sub ⟨rfl, rfl, rfl, rfl, trivial⟩, hE870, hI874, h816, z817, h819, z820, q822, q823, hN705⟩
      replace hF := if_f hp708 hF; refine wp_exit ?_; refine e_then_exit ?_; refine e_lq_eq ?_; obtain rfl := Option.some.inj hF
      exact ⟨ha.sub trivial, hE520, (LK_inr hN705).symm⟩
  rintro a w698 ⟨ha, hE704, rfl⟩
  have hF : F_impl_DecompOk_k6 = some _ := hK701; clear hK701; unfold F_impl_DecompOk_k6 at hF
  refine e_then ?_; refine wp_seq ?_; refine wp_region_lit ?_; refine op_g ha rfl (g_assign rfl) ?_; clear ha a; intro a ha; refine wpList_nil ?_; refine e_then ?_; refine wp_ret ?_; obtain rfl := Option.some.inj hF
  exact f_ret1 ha rfl rfl ⟨rfl, hE704⟩
set_option maxHeartbeats 2000000 in
theorem W_slices_IndexFunc_implvset {W : World} {va0 : Value} {fa0 : List Nat} {a0 : (List (BitVec 32))} (ha0 : Ro Rp.u32 W fa0 va0 a0) {ga1 : FuncId} {ga1c : List Value} {a1 : (BitVec 32) → Option Bool} (hga1 : ∀ w', Ext W w' → ∀ {z0 : BitVec 32} {r : Bool}, a1 z0 = some r → Calls Tryd.prog ga1 (([.int .u32 (BitVec.toNat z0 : Int)] : List Value) ++ ga1c).toArray w' (Ret fun u w'' => u = .bool r ∧ Ext w' w'')) (hca1 : ∀ args w, (callFunc ga1 args).run Tryd.prog w = .ok (.enter ga1 args) w) {r : Int} (hF : F_slices_IndexFunc_implvset a0 a1 = some r) :
    Calls Tryd.prog 59 [va0, .func (.func ga1) #[] ga1c.toArray].toArray W (Ret fun u w' => (u = .int .i64 r ∧ InI r) ∧ Ext W w') := by
  refine f_enter Tryd.func59 rfl Tryd.ntmps59 rfl ?_
  intro a ha
  replace ha : Fr 19 [(0, va0), (1, (.func (.func ga1) #[] ga1c.toArray))] a := ha
  have hE : Chg [] W W := Chg.refl _ _
  unfold F_slices_IndexFunc_implvset at hF
  refine wp_seq ?_; refine wp_region_lit ?_; refine op_g ha rfl (g_assign rfl) ?_; clear ha a; intro a ha; refine wpList_nil ?_; replace ha := ha.sub (σ' := [(0, va0), (1, (.func (.func ga1) #[] ga1c.toArray))]) ⟨rfl, rfl, trivial⟩; refine e_then ?_; refine wp_seq ?_; refine wp_seq ?_; refine wp_region_lit ?_; refine op_g ha rfl (g_move rfl) ?_; clear ha a; intro a ha; refine op_g ha rfl (g_lenR sl52.und ha0 rfl) ?_; clear ha a; intro a ha; refine op_g ha rfl (g_move rfl) ?_; clear ha a; intro a ha; refine wpList_nil ?_; replace ha := ha.sub (σ' := [(0, va0), (1, (.func (.func ga1) #[] ga1c.toArray)), (7, (.int .i64 (a0.length : Int))), (8, (.int .i64 0))]) ⟨rfl, rfl, rfl, rfl, trivial⟩
  refine e_then ?_; obtain ⟨o56, ho57, hK58⟩ := bnd_some hF
  obtain ⟨n59, hn60⟩ := lp_some ho57; clear ho57
  refine c_loop (fun a w => Fr 19 [] a ∧ Chg [] W w ∧ o56 = .inl ()) (fun n a w => ∃ (i28 : Int), Fr 19 [(0, va0), (1, (.func (.func ga1) #[] ga1c.toArray)), (7, (.int .i64 (a0.length : Int))), (8, (.int .i64 i28))] a ∧ Chg [] W w ∧ InI i28 ∧ lpN (fun s => F_slices_IndexFunc_implvset_l1 a0 a1 s) n i28 = some o56) n59 ⟨0, ha.sub ⟨rfl, rfl, rfl, rfl, trivial⟩, hE, (show InI 0 from by decide), hn60⟩ ?_ ?_
  · rintro m64 a w27 ⟨i28, ha, hE30, hI29, hF⟩
    cases m64 with
    | zero => exact (lpN_zero hF).elim
    | succ m64 =>
      obtain ⟨z63, hF, hN62⟩ := lpN_succ hF
      have hF : F_slices_IndexFunc_implvset_l1 a0 a1 i28 = some z63 := hF; unfold F_slices_IndexFunc_implvset_l1 at hF
      refine wp_seq ?_; refine wp_region_lit ?_; refine op_g ha rfl (g_lss rfl rfl) ?_; clear ha a; intro a ha; refine wpList_nil ?_; replace ha := ha.sub (σ' := [(0, va0), (1, (.func (.func ga1) #[] ga1c.toArray)), (7, (.int .i64 (a0.length : Int))), (8, (.int .i64 i28)), (9, (.bool (decide (i28 < (a0.length : Int)))))]) ⟨rfl, rfl, rfl, rfl, rfl, trivial⟩; refine e_then ?_; refine wp_seq ?_; refine c_cond (i28 < (a0.length : Int)) ha rfl (decide_eq_true_iff) (fun hp65 => ?_) (fun hp65 => ?_)
      · replace hF := if_t hp65 hF
        refine wp_skip ?_; refine e_then ?_; refine wp_seq ?_; refine wp_block ?_; refine wp_seq ?_; refine wp_region_lit ?_; refine op_g ha rfl (g_move rfl) ?_; clear ha a; intro a ha; refine op_g ha rfl (g_assign rfl) ?_; clear ha a; intro a ha; refine wpList_nil ?_; replace ha := ha.sub (σ' := [(0, va0), (1, (.func (.func ga1) #[] ga1c.toArray)), (5, (.int .i64 i28)), (7, (.int .i64 (a0.length : Int))), (8, (.int .i64 i28))]) ⟨rfl, rfl, rfl, rfl, rfl, trivial⟩; refine e_then ?_; refine wp_seq ?_; refine wp_region_lit ?_; (iterate 3 refine op_g ha rfl (g_move rfl) ?_; clear ha a; intro a ha)
        obtain ⟨x66, g67, gx68, hF⟩ := idx_some hF
        obtain ⟨p69, cs70, f71, hf72, hpb73, hat74, hr75, hi76⟩ := ha0.at g67 gx68
        obtain ⟨rfl, rfl⟩ := hr75
        refine op_g ha rfl (hi76.gives sl52 rfl rfl) ?_; clear ha a; intro a ha; refine op_g ha rfl (g_load0 hE30 Tryd.isAgg58 rfl hat74.one) ?_; clear ha a; intro a ha; obtain ⟨x77, hc78, hF⟩ := cal_some hF
        refine o_callv ha rfl rfl rfl hca1 (hga1 _ hE30  hc78) ?_; clear ha a; rintro v79 w80 ⟨rfl, hx81⟩ a ha
        have hE82 := Ext.trans hE30 hx81
        refine wpList_nil ?_; replace ha := ha.sub (σ' := [(0, va0), (1, (.func (.func ga1) #[] ga1c.toArray)), (5, (.int .i64 i28)), (7, (.int .i64 (a0.length : Int))), (8, (.int .i64 i28)), (16, (.bool x77))]) ⟨rfl, rfl, rfl, rfl, rfl, rfl, trivial⟩; refine e_then ?_; refine c_cond (x77 = true) ha rfl (Iff.rfl) (fun hp83 => ?_) (fun hp83 => ?_)
        · replace hF := if_t hp83 hF
          refine wp_seq ?_; refine wp_region_lit ?_; refine op_g ha rfl (g_move rfl) ?_; clear ha a; intro a ha; refine op_g ha rfl (g_assign rfl) ?_; clear ha a; intro a ha; refine wpList_nil ?_; replace ha := ha.sub (σ' := [(4, (.int .i64 i28))]) ⟨rfl, trivial⟩; refine e_then ?_; refine wp_ret ?_; refine e_blk_ret ?_; refine e_then_ret ?_; refine e_lq_ret ?_; refine e_then_ret ?_; obtain rfl := Option.some.inj hF
          have e84 := LK_inr hN62; subst e84
          have e85 := BK_inr hK58; subst e85
          exact f_ret1 ha rfl rfl ⟨⟨rfl, hI29⟩, hE82⟩
        replace hF := if_f hp83 hF; refine wp_skip ?_; refine e_blk ?_; refine e_then ?_; refine wp_region_lit ?_; obtain ⟨hI86, hF⟩ := ck_some hF; refine op_g ha rfl (g_add rfl rfl hI86) ?_; clear ha a; intro a ha; refine op_g ha rfl (g_move rfl) ?_; clear ha a; intro a ha; refine wpList_nil ?_; replace ha := ha.sub (σ' := [(0, va0), (1, (.func (.func ga1) #[] ga1c.toArray)), (7, (.int .i64 (a0.length : Int))), (8, (.int .i64 (i28 + 1)))]) ⟨rfl, rfl, rfl, rfl, trivial⟩; refine e_lq ?_; obtain rfl := Option.some.inj hF
        exact ⟨_, Nat.lt_succ_self _, i28 + 1, ha.sub ⟨rfl, rfl, rfl, rfl, trivial⟩, hE82, hI86, hN62⟩
      replace hF := if_f hp65 hF; refine wp_exit ?_; refine e_then_exit ?_; refine e_lq_eq ?_; obtain rfl := Option.some.inj hF
      exact ⟨ha.sub trivial, hE30, (LK_inr hN62).symm⟩
  rintro a w55 ⟨ha, hE61, rfl⟩
  have hF : F_slices_IndexFunc_implvset_k2 = some _ := hK58; clear hK58; unfold F_slices_IndexFunc_implvset_k2 at hF
  refine e_then ?_; refine wp_seq ?_; refine wp_region_lit ?_; refine op_g ha rfl (g_assign rfl) ?_; clear ha a; intro a ha; refine wpList_nil ?_; refine e_then ?_; refine wp_ret ?_; obtain rfl := Option.some.inj hF
  exact f_ret1 ha rfl rfl ⟨⟨rfl, (show InI (-1) from by decide)⟩, hE61⟩
set_option maxHeartbeats 2000000 in
theorem W_slices_ContainsFunc_implvset {W : World} {va0 : Value} {fa0 : List Nat} {a0 : (List (BitVec 32))} (ha0 : Ro Rp.u32 W fa0 va0 a0) {ga1 : FuncId} {ga1c : List Value} {a1 : (BitVec 32) → Option Bool} (hga1 : ∀ w', Ext W w' → ∀ {z0 : BitVec 32} {r : Bool}, a1 z0 = some r → Calls Tryd.prog ga1 (([.int .u32 (BitVec.toNat z0 : Int)] : List Value) ++ ga1c).toArray w' (Ret fun u w'' => u = .bool r ∧ Ext w' w'')) (hca1 : ∀ args w, (callFunc ga1 args).run Tryd.prog w = .ok (.enter ga1 args) w) {r : Bool} (hF : F_slices_ContainsFunc_implvset a0 a1 = some r) :
    Calls Tryd.prog 32 [va0, .func (.func ga1) #[] ga1c.toArray].toArray W (Ret fun u w' => u = .bool r ∧ Ext W w') := by
  refine f_enter Tryd.func32 rfl Tryd.ntmps32 rfl ?_
  intro a ha
  replace ha : Fr 9 [(0, va0), (1, (.func (.func ga1) #[] ga1c.toArray))] a := ha
  have hE : Chg [] W W := Chg.refl _ _
  unfold F_slices_ContainsFunc_implvset at hF
  refine wp_seq ?_; refine wp_region_lit ?_; refine op_g ha rfl (g_assign rfl) ?_; clear ha a; intro a ha; refine wpList_nil ?_; replace ha := ha.sub (σ' := [(0, va0), (1, (.func (.func ga1) #[] ga1c.toArray))]) ⟨rfl, rfl, trivial⟩; refine e_then ?_; refine wp_seq ?_; refine wp_region_lit ?_; (iterate 2 refine op_g ha rfl (g_move rfl) ?_; clear ha a; intro a ha); obtain ⟨x2, hc3, hF⟩ := cal_some hF
  refine o_call ha rfl rfl Tryd.call59 (W_slices_IndexFunc_implvset (ha0.ext hE) (fun w hx => hga1 w (Ext.trans hE hx)) hca1 hc3) ?_; clear ha a; rintro v4 w5 ⟨⟨rfl, hI7⟩, hx6⟩ a ha
  have hE8 := Ext.trans hE hx6
  refine op_g ha rfl (g_geq rfl rfl) ?_; clear ha a; intro a ha; refine op_g ha rfl (g_assign rfl) ?_; clear ha a; intro a ha; refine wpList_nil ?_; replace ha := ha.sub (σ' := [(4, (.bool (decide (0 ≤ x2))))]) ⟨rfl, trivial⟩; refine e_then ?_; refine wp_ret ?_; obtain rfl := Option.some.inj hF
  exact f_ret1 ha rfl rfl ⟨rfl, hE8⟩
set_option maxHeartbeats 2000000 in
theorem W_impl_OrderBy_1 {W : World} {a0 : BitVec 32} {y0 : BitVec 32} {bc0 : Nat} (hbc0 : Bx W bc0 [.int .u32 (BitVec.toNat y0 : Int)] 58) {r : Bool} (hF : F_impl_OrderBy_1 a0 y0 = some r) :
    Calls Tryd.prog 33 [.int .u32 (BitVec.toNat a0 : Int), .pointer (some ⟨bc0, 0, none⟩)].toArray W (Ret fun u w' => u = .bool r ∧ Ext W w') := by
  refine f_enter Tryd.func33 rfl Tryd.ntmps33 rfl ?_
  intro a ha
  replace ha : Fr 8 [(0, (.int .u32 (BitVec.toNat a0 : Int))), (1, (.pointer (some ⟨bc0, 0, none⟩)))] a := ha
  have hE : Chg [] W W := Chg.refl _ _
  unfold F_impl_OrderBy_1 at hF
  refine wp_seq ?_; refine wp_region_lit ?_; refine op_g ha rfl (g_assign rfl) ?_; clear ha a; intro a ha; refine wpList_nil ?_; replace ha := ha.sub (σ' := [(0, (.int .u32 (BitVec.toNat a0 : Int))), (1, (.pointer (some ⟨bc0, 0, none⟩)))]) ⟨rfl, rfl, trivial⟩; refine e_then ?_; refine wp_seq ?_; refine wp_region_lit ?_; refine op_g ha rfl (g_load Tryd.isAgg58 rfl ((hbc0.ext hE).cell rfl)) ?_; clear ha a; intro a ha; refine op_g ha rfl (g_move rfl) ?_; clear ha a; intro a ha; refine op_g ha rfl (g32_andNot (m := y0) (n := a0) rfl rfl) ?_; clear ha a; intro a ha; refine op_g ha rfl (g32_eql (m := (y0 &&& ~~~a0)) (n := (0#32)) rfl rfl) ?_; clear ha a; intro a ha
  refine op_g ha rfl (g_assign rfl) ?_; clear ha a; intro a ha; refine wpList_nil ?_; replace ha := ha.sub (σ' := [(3, (.bool (decide ((y0 &&& ~~~a0) = (0#32)))))]) ⟨rfl, trivial⟩; refine e_then ?_; refine wp_ret ?_; obtain rfl := Option.some.inj hF
  exact f_ret1 ha rfl rfl ⟨rfl, hE⟩
set_option maxHeartbeats 2000000 in
theorem W_impl_eliminate {W : World} {va0 : Value} {ba0 : Int} {a0 : (List (BitVec 32))} (ha0 : Ow Rp.u32 58 true W [] ba0 va0 a0) {a1 : BitVec 32} {a2 : Int} (ha2 : InI a2) (hG : GT 0 W) (hGa0 : (0 : Int) ≠ ba0) {r : (List (BitVec 32))} (hF : F_impl_eliminate a0 a1 a2 = some r) :
    Calls Tryd.prog 34 [va0, .int .u32 (BitVec.toNat a1 : Int), .int .i64 a2].toArray W (Ret fun u w' => u = .tuple #[] ∧ Ow Rp.u32 58 true w' [] ba0 va0 r ∧ Chg (bl ba0) W w') := by
  refine f_enter Tryd.func34 rfl Tryd.ntmps34 rfl ?_
  intro a ha
  replace ha : Fr 36 [(0, va0), (1, (.int .u32 (BitVec.toNat a1 : Int))), (2, (.int .i64 a2))] a := ha
  have hE : Chg (bl ba0) W W := Chg.refl _ _
  unfold F_impl_eliminate at hF
  refine wp_seq ?_; refine d_quiet hmix (by kernel_rfl) ?_; (iterate 2 refine q_g ha rfl (g_move rfl) ?_; clear ha a; intro a ha); obtain ⟨x1, g2, gx3, hF⟩ := idx_some hF
  obtain ⟨p4, cs5, f6, hf7, hpb8, hat9, hr10, hi11⟩ := ha0.at g2 gx3
  obtain ⟨rfl, rfl⟩ := hr10
  refine q_g ha rfl (hi11.gives sl53 rfl rfl) ?_; clear ha a; intro a ha; refine q_g ha rfl (g_load Tryd.isAgg58 rfl hat9.one) ?_; clear ha a; intro a ha; refine q_g ha rfl (g_move rfl) ?_; clear ha a; intro a ha; refine q_g ha rfl (g32_and (m := x1) (n := a1) rfl rfl) ?_; clear ha a; intro a ha; refine q_g ha rfl (g_move rfl) ?_; clear ha a; intro a ha; obtain ⟨x14, hc15, hF⟩ := cal_some hF; refine q_call (.int .u32 (BitVec.toNat x14 : Int)) ha rfl rfl Tryd.call31 (fun w13 hx12 => W_impl_one ha2 hc15) (fun _ _ _ h => ⟨h.1, h.2⟩) ?_; clear ha a; intro a ha; refine q_g ha rfl (g32_andNot (m := (x1 &&& a1)) (n := x14) rfl rfl) ?_; clear ha a; intro a ha
  refine q_g ha rfl (g_assign rfl) ?_; clear ha a; intro a ha
  refine q_nil ?_; intro w16 hx17
  replace ha0 := ha0.ext hx17
  have hE18 := Chg.more hE hx17
  replace ha := ha.sub (σ' := [(0, va0), (6, (.int .u32 (BitVec.toNat ((x1 &&& a1) &&& ~~~x14) : Int)))]) ⟨rfl, rfl, trivial⟩; refine e_then ?_; refine wp_seq ?_; refine wp_region_lit ?_; refine op_g ha rfl (g_move rfl) ?_; clear ha a; intro a ha; obtain ⟨x19, hc20, hF⟩ := cal_some hF
  refine o_call ha rfl rfl Tryd.call30 (W_impl_vset_list (hG.io hE18 (gne1 hGa0)) hc20) ?_; clear ha a; rintro v21 w22 ⟨b24, h25, z26, hx23⟩ a ha
  have q28 := Nq.new ha0.fpb z26
  have q29 := Nq.madeO z26 ha0.blt
  replace ha0 := ha0.ext hx23
  have hE30 := Chg.more hE18 hx23
  have q31 := Zn.upD z26 hE18
  refine op_g ha rfl (g_lenO sl56.und h25 rfl) ?_; clear ha a; intro a ha; refine op_g ha rfl (g_move rfl) ?_; clear ha a; intro a ha; refine wpList_nil ?_; replace ha := ha.sub (σ' := [(0, va0), (6, (.int .u32 (BitVec.toNat ((x1 &&& a1) &&& ~~~x14) : Int))), (19, v21), (20, (.int .i64 (x19.length : Int))), (21, (.int .i64 0))]) ⟨rfl, rfl, rfl, rfl, rfl, trivial⟩; refine e_then ?_; obtain ⟨o188, ho189, hK190⟩ := bnd_some hF
  obtain ⟨n191, hn192⟩ := lp_some ho189; clear ho189
  refine c_loop (fun a w => ∃ (l185 : (List (BitVec 32))), Fr 36 [] a ∧ Chg (bl ba0) W w ∧ Ow Rp.u32 58 true w [] ba0 va0 l185 ∧ o188 = .inl l185) (fun n a w => ∃ (l107 : (List (BitVec 32))) (i113 : Int), Fr 36 [(0, va0), (6, (.int .u32 (BitVec.toNat ((x1 &&& a1) &&& ~~~x14) : Int))), (19, v21), (20, (.int .i64 (x19.length : Int))), (21, (.int .i64 i113))] a ∧ Chg (bl ba0) W w ∧ InI i113 ∧ Ow Rp.u32 58 true w [] ba0 va0 l107 ∧ Ow Rp.int 3 true w [] b24 v21 x19 ∧ Zn W b24 ∧ Nq (bl ba0 ++ []) b24 ∧ Nq (bl b24 ++ []) ba0 ∧ lpN (fun s => F_impl_eliminate_l1 a1 x1 x14 x19 s.1 s.2) n (l107, i113) = some o188) n191 ⟨a0, 0, ha.sub ⟨rfl, rfl, rfl, rfl, rfl, trivial⟩, hE30, (show InI 0 from by decide), ha0, h25, q31, q28, q29, hn192⟩ ?_ ?_
  · rintro m196 a w105 ⟨l107, i113, ha, hE117, hI114, h106, h111, z112, q115, q116, hF⟩
    cases m196 with
    | zero => exact (lpN_zero hF).elim
    | succ m196 =>
      obtain ⟨z195, hF, hN194⟩ := lpN_succ hF
      have hF : F_impl_eliminate_l1 a1 x1 x14 x19 l107 i113 = some z195 := hF; unfold F_impl_eliminate_l1 at hF
      refine wp_seq ?_; refine wp_region_lit ?_; refine op_g ha rfl (g_lss rfl rfl) ?_; clear ha a; intro a ha; refine wpList_nil ?_; replace ha := ha.sub (σ' := [(0, va0), (6, (.int .u32 (BitVec.toNat ((x1 &&& a1) &&& ~~~x14) : Int))), (19, v21), (20, (.int .i64 (x19.length : Int))), (21, (.int .i64 i113)), (22, (.bool (decide (i113 < (x19.length : Int)))))]) ⟨rfl, rfl, rfl, rfl, rfl, rfl, trivial⟩; refine e_then ?_; refine wp_seq ?_; refine c_cond (i113 < (x19.length : Int)) ha rfl (decide_eq_true_iff) (fun hp197 => ?_) (fun hp197 => ?_)
      · replace hF := if_t hp197 hF
        refine wp_skip ?_; refine e_then ?_; refine wp_seq ?_; refine wp_block ?_; refine wp_seq ?_; refine wp_region_lit ?_; obtain ⟨x198, g199, gx200, hF⟩ := idx_some hF
        obtain ⟨p201, cs202, f203, hf204, hpb205, hat206, hr207, hi208⟩ := h111.at g199 gx200
        obtain ⟨rfl, hI209, rfl⟩ := hr207
        refine op_g ha rfl (hi208.gives sl56 rfl rfl) ?_; clear ha a; intro a ha; refine op_g ha rfl (g_load Tryd.isAgg3 rfl hat206.one) ?_; clear ha a; intro a ha; refine op_g ha rfl (g_assign rfl) ?_; clear ha a; intro a ha; refine wpList_nil ?_; replace ha := ha.sub (σ' := [(0, va0), (6, (.int .u32 (BitVec.toNat ((x1 &&& a1) &&& ~~~x14) : Int))), (8, (.int .i64 x198)), (19, v21), (20, (.int .i64 (x19.length : Int))), (21, (.int .i64 i113))]) ⟨rfl, rfl, rfl, rfl, rfl, rfl, trivial⟩; refine e_then ?_; refine d_region [0, 1, 2, 3, 4, 5, 6, 7, 8, 9] hmix ?_; refine u_g 0 rfl (by kernel_rfl) (want0 _) ha rfl (g_move rfl) ?_; clear ha a; intro a ha
        refine u_g 1 rfl (by kernel_rfl) (want0 _) ha rfl (g_move rfl) ?_; clear ha a; intro a ha; obtain ⟨x210, g211, gx212, hF⟩ := idx_some hF
        obtain ⟨p213, cs214, f215, hf216, hpb217, hat218, hr219, hi220⟩ := h106.at g211 gx212
        obtain ⟨rfl, rfl⟩ := hr219
        refine u_g 2 rfl (by kernel_rfl) (want0 _) ha rfl (hi220.gives sl53 rfl rfl) ?_; clear ha a; intro a ha; refine u_g 3 rfl (by kernel_rfl) (want0 _) ha rfl (g_load Tryd.isAgg58 rfl hat218.one) ?_; clear ha a; intro a ha; refine u_g 4 rfl (by kernel_rfl) (want0 _) ha rfl (g_move rfl) ?_; clear ha a; intro a ha; refine u_g 5 rfl (by kernel_rfl) (want0 _) ha rfl (g_move rfl) ?_; clear ha a; intro a ha; obtain ⟨x223, hc224, hF⟩ := cal_some hF; refine u_call (.int .u32 (BitVec.toNat x223 : Int)) 6 rfl (by kernel_rfl) (want0 _) ha rfl rfl Tryd.call31 (fun w222 hx221 => W_impl_one hI209 hc224) (fun _ _ _ h => ⟨h.1, h.2⟩) ?_; clear ha a; intro a ha
        refine u_g 7 rfl (by kernel_rfl) (want0 _) ha rfl (g32_andNot (m := ((x1 &&& a1) &&& ~~~x14)) (n := x223) rfl rfl) ?_; clear ha a; intro a ha; refine u_g 8 rfl (by kernel_rfl) (want0 _) ha rfl (g32_or (m := x210) (n := (((x1 &&& a1) &&& ~~~x14) &&& ~~~x223)) rfl rfl) ?_; clear ha a; intro a ha; obtain ⟨x225, g226, gx227, hF⟩ := idx_some hF
        obtain ⟨p228, cs229, f230, hf231, hpb232, hat233, hr234, hi235⟩ := h106.at g226 gx227
        obtain ⟨rfl, rfl⟩ := hr234
        refine u_g 9 rfl (by kernel_rfl) (want0 _) ha rfl (hi235.gives sl53 rfl rfl) ?_; clear ha a; intro a ha
        refine u_only 10 rfl (by kernel_rfl) ?_; intro w236 hx237
        replace h106 := h106.ext hx237
        replace h111 := h111.ext hx237
        have hE238 := Chg.more hE117 hx237
        refine o_storeE (f := []) (q := x210 ||| (((x1 &&& a1) &&& ~~~x14) &&& ~~~x223)) ha Tryd.sizeOf58 rfl rfl rfl h106 hi235 ⟨rfl, rfl⟩ (Nq.nil _) ?_; intro w239 fs240 h241 hc242 hs243
        obtain rfl := Subst.nil hs243
        replace h111 := h111.nq hc242 q116
        have hE244 := Chg.same hE238 hc242
        refine wpList_nil (e_sq ?_)
        refine ⟨fun h => absurd h (by decide), ?_⟩
        refine u_done (by kernel_rfl) ?_; intro w245 hx246
        replace h241 := h241.ext hx246
        replace h111 := h111.ext hx246
        have hE247 := Chg.more hE244 hx246
        replace ha := ha.sub (σ' := [(0, va0), (6, (.int .u32 (BitVec.toNat ((x1 &&& a1) &&& ~~~x14) : Int))), (19, v21), (20, (.int .i64 (x19.length : Int))), (21, (.int .i64 i113))]) ⟨rfl, rfl, rfl, rfl, rfl, trivial⟩; refine e_blk ?_; refine e_then ?_; refine wp_region_lit ?_; obtain ⟨hI248, hF⟩ := ck_some hF; refine op_g ha rfl (g_add rfl rfl hI248) ?_; clear ha a; intro a ha; refine op_g ha rfl (g_move rfl) ?_; clear ha a; intro a ha; refine wpList_nil ?_; replace ha := ha.sub (σ' := [(0, va0), (6, (.int .u32 (BitVec.toNat ((x1 &&& a1) &&& ~~~x14) : Int))), (19, v21), (20, (.int .i64 (x19.length : Int))), (21, (.int .i64 (i113 + 1)))]) ⟨rfl, rfl, rfl, rfl, rfl, trivial⟩
        refine e_lq ?_; obtain rfl := Option.some.inj hF
        exact ⟨_, Nat.lt_succ_self _, (l107.set ((x198 : Int).toNat) (x210 ||| (((x1 &&& a1) &&& ~~~x14) &&& ~~~x223))), i113 + 1, ha.sub ⟨rfl, rfl, rfl, rfl, rfl, trivial⟩, hE247, hI248, h241, h111, z112, q115, q116, hN194⟩
      replace hF := if_f hp197 hF; refine wp_exit ?_; refine e_then_exit ?_; refine e_lq_eq ?_; obtain rfl := Option.some.inj hF
      exact ⟨l107, ha.sub trivial, hE117, h106, (LK_inr hN194).symm⟩
  rintro a w183 ⟨l185, ha, hE193, h184, rfl⟩
  have hF : F_impl_eliminate_k2 l185 = some _ := hK190; clear hK190; unfold F_impl_eliminate_k2 at hF
  obtain rfl := Option.some.inj hF
  exact f_end0 ha rfl ⟨rfl, h184, hE193⟩
set_option maxHeartbeats 2000000 in
theorem W_impl_wide {W : World} {va0 : Value} {fa0 : List Nat} {a0 : (List Int)} (ha0 : Ro Rp.int W fa0 va0 a0) {r : (List Int)} (hF : F_impl_wide a0 = some r) :
    Calls Tryd.prog 35 [va0].toArray W (Ret fun u w' => ∃ (b_u : Int), Ow Rp.int 2 true w' [] b_u u r ∧ Zn W b_u ∧ Ext W w') := by
  refine f_enter Tryd.func35 rfl Tryd.ntmps35 rfl ?_
  intro a ha
  replace ha : Fr 21 [(0, va0)] a := ha
  have hE : Chg [] W W := Chg.refl _ _
  unfold F_impl_wide at hF
  refine wp_seq ?_; refine wp_region_lit ?_; refine op_g ha rfl (g_assign rfl) ?_; clear ha a; intro a ha; refine wpList_nil ?_; replace ha := ha.sub (σ' := [(0, va0)]) ⟨rfl, trivial⟩; refine e_then ?_; refine wp_seq ?_; refine wp_region_lit ?_; refine op_g ha rfl (g_move rfl) ?_; clear ha a; intro a ha; refine op_g ha rfl (g_lenR sl56.und ha0 rfl) ?_; clear ha a; intro a ha; obtain ⟨g5, hF⟩ := grd_some hF
  refine o_make0 Rp.int ha rfl sl29 rfl rfl rfl g5.1 g5.2 ?_; clear ha a; intro v1 w2 h3 hx4 a ha
  obtain ⟨b7, hb7⟩ : ∃ b : Int, b = W.heap.size := ⟨_, rfl⟩; rw [← hb7] at h3
  have q8 := zn_of hb7
  have q9 := Zn.upD q8 hE
  have hE10 := Ext.trans hE hx4
  refine op_g ha rfl (g_assign rfl) ?_; clear ha a; intro a ha; refine wpList_nil ?_; replace ha := ha.sub (σ' := [(0, va0), (3, v1)]) ⟨rfl, rfl, trivial⟩; refine e_then ?_; refine wp_seq ?_; refine wp_seq ?_; refine wp_region_lit ?_; refine op_g ha rfl (g_move rfl) ?_; clear ha a; intro a ha; refine op_g ha rfl (g_lenR sl56.und ha0 rfl) ?_; clear ha a; intro a ha; refine op_g ha rfl (g_move rfl) ?_; clear ha a; intro a ha; refine wpList_nil ?_; replace ha := ha.sub (σ' := [(3, v1), (9, va0), (10, (.int .i64 (a0.length : Int))), (11, (.int .i64 0))]) ⟨rfl, rfl, rfl, rfl, trivial⟩; refine e_then ?_
  obtain ⟨o127, ho128, hK129⟩ := bnd_some hF
  obtain ⟨n130, hn131⟩ := lp_some ho128; clear ho128
  refine c_loop (fun a w => ∃ (l124 : (List Int)) (v125 : Value) (b126 : Int), Fr 21 [(3, v125)] a ∧ Chg [] W w ∧ Ow Rp.int 2 true w [] b126 v125 l124 ∧ Zn W b126 ∧ o127 = .inl l124) (fun n a w => ∃ (l67 : (List Int)) (i70 : Int) (v68 : Value) (b69 : Int), Fr 21 [(3, v68), (9, va0), (10, (.int .i64 (a0.length : Int))), (11, (.int .i64 i70))] a ∧ Chg [] W w ∧ InI i70 ∧ Ow Rp.int 2 true w [] b69 v68 l67 ∧ Zn W b69 ∧ lpN (fun s => F_impl_wide_l1 a0 s.1 s.2) n (l67, i70) = some o127) n130 ⟨([] : (List Int)), 0, v1, b7, ha.sub ⟨rfl, rfl, rfl, rfl, trivial⟩, hE10, (show InI 0 from by decide), h3, q9, hn131⟩ ?_ ?_
  · rintro m135 a w63 ⟨l67, i70, v68, b69, ha, hE72, hI71, h65, z66, hF⟩
    cases m135 with
    | zero => exact (lpN_zero hF).elim
    | succ m135 =>
      obtain ⟨z134, hF, hN133⟩ := lpN_succ hF
      have hF : F_impl_wide_l1 a0 l67 i70 = some z134 := hF; unfold F_impl_wide_l1 at hF
      refine wp_seq ?_; refine wp_region_lit ?_; refine op_g ha rfl (g_lss rfl rfl) ?_; clear ha a; intro a ha; refine wpList_nil ?_; replace ha := ha.sub (σ' := [(3, v68), (9, va0), (10, (.int .i64 (a0.length : Int))), (11, (.int .i64 i70)), (12, (.bool (decide (i70 < (a0.length : Int)))))]) ⟨rfl, rfl, rfl, rfl, rfl, trivial⟩; refine e_then ?_; refine wp_seq ?_; refine c_cond (i70 < (a0.length : Int)) ha rfl (decide_eq_true_iff) (fun hp136 => ?_) (fun hp136 => ?_)
      · replace hF := if_t hp136 hF
        refine wp_skip ?_; refine e_then ?_; refine wp_seq ?_; refine wp_block ?_; refine wp_seq ?_; refine wp_region_lit ?_; obtain ⟨x137, g138, gx139, hF⟩ := idx_some hF
        obtain ⟨p140, cs141, f142, hf143, hpb144, hat145, hr146, hi147⟩ := ha0.at g138 gx139
        obtain ⟨rfl, hI148, rfl⟩ := hr146
        refine op_g ha rfl (hi147.gives sl56 rfl rfl) ?_; clear ha a; intro a ha; refine op_g ha rfl (g_load0 hE72 Tryd.isAgg3 rfl hat145.one) ?_; clear ha a; intro a ha; refine op_g ha rfl (g_assign rfl) ?_; clear ha a; intro a ha; refine wpList_nil ?_; replace ha := ha.sub (σ' := [(3, v68), (5, (.int .i64 x137)), (9, va0), (10, (.int .i64 (a0.length : Int))), (11, (.int .i64 i70))]) ⟨rfl, rfl, rfl, rfl, rfl, trivial⟩; refine e_then ?_; refine wp_region_lit ?_; (iterate 2 refine op_g ha rfl (g_move rfl) ?_; clear ha a; intro a ha)
        refine o_lit1 (o := true) (y := x137) Rp.int ha rfl sl29 rfl rfl rfl ⟨rfl, hI148, rfl⟩ ?_; clear ha a; intro v149 w150 h151 hx152 a ha
        obtain ⟨b154, hb154⟩ : ∃ b : Int, b = w63.heap.size := ⟨_, rfl⟩; rw [← hb154] at h151
        have q155 := zn_of hb154
        have q156 := Nq.new h65.fpb q155
        have q157 := Nq.madeO q155 h65.blt
        have q158 := Zn.upD q155 hE72
        replace h65 := h65.ext hx152
        have hE159 := Ext.trans hE72 hx152
        obtain ⟨hl160, hF⟩ := app_some hF
        refine o_append ha rfl sl29 rfl rfl rfl h65 h151.src (Nq.nil _) hl160 ?_; clear ha a; intro v161 w162 b163 h164 hc165 hb166 a ha
        replace h164 : Ow Rp.int 2 true w162 [] b163 v161 _ := h164
        have q168 := Nq.appY q157 h151.fpb hb166
        have q169 := Nq.appX q156 (Nq.nil _) hb166 h151.blt
        have q170 := Zn.appD z66 hb166 hE159
        replace h151 := h151.nq hc165 q157
        have hE171 := Ext.then hE159 hc165 (Zn.bl z66)
        refine op_g ha rfl (g_assign rfl) ?_; clear ha a; intro a ha; refine wpList_nil ?_; replace ha := ha.sub (σ' := [(3, v161), (9, va0), (10, (.int .i64 (a0.length : Int))), (11, (.int .i64 i70))]) ⟨rfl, rfl, rfl, rfl, trivial⟩; refine e_blk ?_; refine e_then ?_; refine wp_region_lit ?_; obtain ⟨hI172, hF⟩ := ck_some hF; refine op_g ha rfl (g_add rfl rfl hI172) ?_; clear ha a; intro a ha; refine op_g ha rfl (g_move rfl) ?_; clear ha a; intro a ha; refine wpList_nil ?_; replace ha := ha.sub (σ' := [(3, v161), (9, va0), (10, (.int .i64 (a0.length : Int))), (11, (.int .i64 (i70 + 1)))]) ⟨rfl, rfl, rfl, rfl, trivial⟩
        refine e_lq ?_; obtain rfl := Option.some.inj hF
        exact ⟨_, Nat.lt_succ_self _, (l67 ++ ([x137])), i70 + 1, v161, b163, ha.sub ⟨rfl, rfl, rfl, rfl, trivial⟩, hE171, hI172, h164, q170, hN133⟩
      replace hF := if_f hp136 hF; refine wp_exit ?_; refine e_then_exit ?_; refine e_lq_eq ?_; obtain rfl := Option.some.inj hF
      exact ⟨l67, v68, b69, ha.sub ⟨rfl, trivial⟩, hE72, h65, z66, (LK_inr hN133).symm⟩
  rintro a w120 ⟨l124, v125, b126, ha, hE132, h122, z123, rfl⟩
  have hF : F_impl_wide_k2 l124 = some _ := hK129; clear hK129; unfold F_impl_wide_k2 at hF
  refine e_then ?_; refine wp_seq ?_; refine wp_region_lit ?_; refine op_g ha rfl (g_move rfl) ?_; clear ha a; intro a ha; refine op_g ha rfl (g_assign rfl) ?_; clear ha a; intro a ha; refine wpList_nil ?_; replace ha := ha.sub (σ' := [(2, v125)]) ⟨rfl, trivial⟩; refine e_then ?_; refine wp_ret ?_; obtain rfl := Option.some.inj hF
  exact f_ret1 ha rfl rfl ⟨_, h122, z123, hE132⟩
set_option maxHeartbeats 2000000 in
theorem W_impl_OrderBy {W : World} {va0_0 : Value} {fa0_0 : List Nat} {a0_0 : (List (List Int))} (ha0_0 : Ro (Rp.sl 2 Rp.int) W fa0_0 va0_0 a0_0) {va1_0 : Value} {fa1_0 : List Nat} {a1_0 : (List (List Int))} (ha1_0 : Ro (Rp.sl 2 Rp.int) W fa1_0 va1_0 a1_0) {va1_1 : Value} {fa1_1 : List Nat} {a1_1 : (List (List Int))} (ha1_1 : Ro (Rp.sl 2 Rp.int) W fa1_1 va1_1 a1_1) (hG : GT 0 W) {r : (List Int)} (hF : F_impl_OrderBy a0_0 a1_0 a1_1 = some r) :
    Calls Tryd.prog 9 [.agg #[va0_0], .agg #[va1_0, va1_1]].toArray W (Ret fun u w' => ∃ (b_u : Int), Ow Rp.int 2 true w' [] b_u u r ∧ Zn W b_u ∧ Ext W w') := by
  refine f_enter Tryd.func9 rfl Tryd.ntmps9 rfl ?_
  intro a ha
  replace ha : Fr 64 [(0, (.agg #[va0_0])), (1, (.agg #[va1_0, va1_1]))] a := ha
  have hE : Chg [] W W := Chg.refl _ _
  unfold F_impl_OrderBy at hF
  refine wp_seq ?_; refine wp_region_lit ?_
  refine o_box ha rfl rfl rfl ?_; clear ha a; intro b1 w2 hB3 hx4 hlo5 a ha
  have q6 := Zn.one hlo5
  have q7 := Zn.upD q6 hE
  have hE8 := Ext.trans hE hx4
  refine o_box ha rfl rfl rfl ?_; clear ha a; intro b9 w10 hB11 hx12 hlo13 a ha
  have q14 := Zn.one hlo13
  have q15 := Nq.new hB3.fpb q14
  have q16 := Nq.made1 hlo13 hB3.bi
  have q17 := Zn.upD q14 hE8
  replace hB3 := hB3.ext hx12
  have hE18 := Ext.trans hE8 hx12
  refine op_g ha rfl (g_assign rfl) ?_; clear ha a; intro a ha; refine wpList_nil ?_; replace ha := ha.sub (σ' := [(2, (.pointer (some ⟨b1, 0, none⟩))), (3, (.pointer (some ⟨b9, 0, none⟩)))]) ⟨rfl, rfl, trivial⟩; refine e_then ?_; refine wp_seq ?_; refine wp_seq ?_; refine wp_region_lit ?_; refine op_g ha rfl (g_loadA (cs := [va0_0]) Tryd.isAgg31 Tryd.sizeOf31 rfl (by simp) hB3.all) ?_; clear ha a; intro a ha; refine op_g ha rfl (g_loadA (cs := [va1_0, va1_1]) Tryd.isAgg33 Tryd.sizeOf33 rfl (by simp) hB11.all) ?_; clear ha a; intro a ha; obtain ⟨x19, hc20, hF⟩ := cal_some hF
  refine o_call ha rfl rfl Tryd.call26 (W_impl_DecompOk (ha0_0.ext hE18) (ha1_0.ext hE18) (ha1_1.ext hE18) (hG.ext hE18) hc20) ?_; clear ha a; rintro v21 w22 ⟨rfl, hx23⟩ a ha
  replace hB3 := hB3.ext hx23
  replace hB11 := hB11.ext hx23
  have hE24 := Ext.trans hE18 hx23
  refine op_g ha rfl (g_not rfl) ?_; clear ha a; intro a ha; refine wpList_nil ?_; replace ha := ha.sub (σ' := [(2, (.pointer (some ⟨b1, 0, none⟩))), (3, (.pointer (some ⟨b9, 0, none⟩))), (16, (.bool (!x19)))]) ⟨rfl, rfl, rfl, trivial⟩; refine e_then ?_; refine c_cond (¬ (x19 = true)) ha rfl (n_iff (Iff.rfl)) (fun hp25 => ?_) (fun hp25 => ?_)
  · replace hF := if_t hp25 hF
    refine wp_seq ?_; refine wp_region_lit ?_; refine op_g ha rfl (g_assign rfl) ?_; clear ha a; intro a ha; refine wpList_nil ?_; replace ha := ha.sub (σ' := [(4, (.slice none 0 0))]) ⟨rfl, trivial⟩; refine e_then ?_; refine wp_ret ?_; refine e_then_ret ?_; obtain rfl := Option.some.inj hF
    exact f_ret1 ha rfl rfl ⟨-1, (Ow.nil (by decide)), (.inl (by decide)), hE24⟩
  replace hF := if_f hp25 hF; refine wp_skip ?_; refine e_then ?_; refine wp_seq ?_; refine d_region [0, 1, 2, 3, 4, 5, 6, 7, 8] hmix ?_; refine u_g 0 rfl (by kernel_rfl) (want0 _) ha rfl (g_loadA (cs := [va0_0]) Tryd.isAgg31 Tryd.sizeOf31 rfl (by simp) hB3.all) ?_; clear ha a; intro a ha; refine u_g 2 rfl (by kernel_rfl) (want0 _) ha rfl (g_field0 st33_0 rfl) ?_; clear ha a; intro a ha; refine u_g 3 rfl (by kernel_rfl) (want0 _) ha rfl (g_load Tryd.isAgg22 rfl (hB11.cell rfl)) ?_; clear ha a; intro a ha; obtain ⟨xqr1o1_1, hcqr1o1_1, hF⟩ := cal_some hF; obtain ⟨xqr1o4_1, hcqr1o4_1, hF⟩ := cal_some hF
  refine u_many [1, 5] (by kernel_rfl) rfl fun wqr1_1 hxqr1_1 => ⟨⟨_, rfl, ?_⟩, ⟨_, rfl, ?_⟩, trivial⟩
  · skip
    replace hB3 := hB3.ext hxqr1_1
    replace hB11 := hB11.ext hxqr1_1
    have hEqr1o1_1 := Ext.trans hE24 hxqr1_1
    refine o_call ha rfl rfl Tryd.call27 (W_impl_netsOf (ha0_0.ext hEqr1o1_1) hcqr1o1_1) ?_; clear ha a; rintro vqr1o1_1 wqr1o1_1 ⟨bqr1o1_1, hqr1o1_1, zqr1o1_1, hxqr1o1_1⟩ a ha
    have qqr1o1_1 := Nq.new hB3.fpb zqr1o1_1
    have qqr1o1_2 := Nq.madeO zqr1o1_1 hB3.bi
    have qqr1o1_3 := Nq.new hB11.fpb zqr1o1_1
    have qqr1o1_4 := Nq.madeO zqr1o1_1 hB11.bi
    replace hB3 := hB3.ext hxqr1o1_1
    replace hB11 := hB11.ext hxqr1o1_1
    have hEqr1o1_2 := Ext.trans hEqr1o1_1 hxqr1o1_1
    have qqr1o1_5 := Zn.upD zqr1o1_1 hEqr1o1_1
    refine wpList_nil (e_sq ?_)
    refine ⟨fun _ => hxqr1o1_1, ?_⟩
    refine u_many [4, 5] (by kernel_rfl) rfl fun wqr1o1_2 hxqr1o1_2 => ⟨⟨_, rfl, ?_⟩, ⟨_, rfl, ?_⟩, trivial⟩
    · skip
      replace hB3 := hB3.ext hxqr1o1_2
      replace hB11 := hB11.ext hxqr1o1_2
      replace hqr1o1_1 := hqr1o1_1.ext hxqr1o1_2
      have hEqr1o4_1 := Ext.trans hEqr1o1_2 hxqr1o1_2
      refine o_call ha rfl rfl Tryd.call28 (W_impl_bagMasks (ha1_0.ext hEqr1o4_1) hcqr1o4_1) ?_; clear ha a; rintro vqr1o4_1 wqr1o4_1 ⟨bqr1o4_1, hqr1o4_1, zqr1o4_1, hxqr1o4_1⟩ a ha
      have qqr1o4_1 := Nq.new hB3.fpb zqr1o4_1
      have qqr1o4_2 := Nq.madeO zqr1o4_1 hB3.bi
      have qqr1o4_3 := Nq.new hB11.fpb zqr1o4_1
      have qqr1o4_4 := Nq.madeO zqr1o4_1 hB11.bi
      have qqr1o4_5 := Nq.new hqr1o1_1.fpb zqr1o4_1
      have qqr1o4_6 := Nq.madeO zqr1o4_1 hqr1o1_1.blt
      replace hB3 := hB3.ext hxqr1o4_1
      replace hB11 := hB11.ext hxqr1o4_1
      replace hqr1o1_1 := hqr1o1_1.ext hxqr1o4_1
      have hEqr1o4_2 := Ext.trans hEqr1o4_1 hxqr1o4_1
      have qqr1o4_7 := Zn.upD zqr1o4_1 hEqr1o4_1
      refine wpList_nil (e_sq ?_)
      refine ⟨fun _ => hxqr1o4_1, ?_⟩
      refine u_g 6 rfl (by kernel_rfl) (want0 _) ha rfl (g_assign rfl) ?_; clear ha a; intro a ha; refine u_g 7 rfl (by kernel_rfl) (want0 _) ha rfl (g_assign rfl) ?_; clear ha a; intro a ha
      refine u_only 5 rfl (by kernel_rfl) ?_; intro wqr1o5_1 hxqr1o5_1
      replace hB3 := hB3.ext hxqr1o5_1
      replace hB11 := hB11.ext hxqr1o5_1
      replace hqr1o1_1 := hqr1o1_1.ext hxqr1o5_1
      replace hqr1o4_1 := hqr1o4_1.ext hxqr1o5_1
      have hEqr1o5_1 := Ext.trans hEqr1o4_2 hxqr1o5_1
      refine o_lit0 Rp.int ha rfl sl56 ?_; clear ha a; intro vqr1o5_1 wqr1o5_2 hqr1o5_1 hxqr1o5_2 a ha
      obtain ⟨bqr1o5_1, hbqr1o5_1⟩ : ∃ b : Int, b = wqr1o5_1.heap.size := ⟨_, rfl⟩; rw [← hbqr1o5_1] at hqr1o5_1
      have qqr1o5_1 := zn_of hbqr1o5_1
      have qqr1o5_2 := Nq.new hB3.fpb qqr1o5_1
      have qqr1o5_3 := Nq.madeO qqr1o5_1 hB3.bi
      have qqr1o5_4 := Nq.new hB11.fpb qqr1o5_1
      have qqr1o5_5 := Nq.madeO qqr1o5_1 hB11.bi
      have qqr1o5_6 := Nq.new hqr1o1_1.fpb qqr1o5_1
      have qqr1o5_7 := Nq.madeO qqr1o5_1 hqr1o1_1.blt
      have qqr1o5_8 := Nq.new hqr1o4_1.fpb qqr1o5_1
      have qqr1o5_9 := Nq.madeO qqr1o5_1 hqr1o4_1.blt
      have qqr1o5_10 := Zn.upD qqr1o5_1 hEqr1o5_1
      replace hB3 := hB3.ext hxqr1o5_2
      replace hB11 := hB11.ext hxqr1o5_2
      replace hqr1o1_1 := hqr1o1_1.ext hxqr1o5_2
      replace hqr1o4_1 := hqr1o4_1.ext hxqr1o5_2
      have hEqr1o5_2 := Ext.trans hEqr1o5_1 hxqr1o5_2
      refine wpList_nil (e_sq ?_)
      refine ⟨fun _ => hxqr1o5_2, ?_⟩
      refine u_g 8 rfl (by kernel_rfl) (want0 _) ha rfl (g_assign rfl) ?_; clear ha a; intro a ha
      refine u_done (by kernel_rfl) ?_; intro w26 hx27
      replace hB3 := hB3.ext hx27
      replace hB11 := hB11.ext hx27
      replace hqr1o1_1 := hqr1o1_1.ext hx27
      replace hqr1o4_1 := hqr1o4_1.ext hx27
      replace hqr1o5_1 := hqr1o5_1.ext hx27
      have hE28 := Ext.trans hEqr1o5_2 hx27
      replace ha := ha.sub (σ' := [(5, vqr1o1_1), (6, vqr1o4_1), (7, vqr1o5_1)]) ⟨rfl, rfl, rfl, trivial⟩; refine e_then ?_; refine wp_seq ?_; refine wp_seq ?_; refine wp_region_lit ?_; refine op_g ha rfl (g_move rfl) ?_; clear ha a; intro a ha
      obtain ⟨fp29, hro30, hs31⟩ := hqr1o1_1.roF
      obtain ⟨x32, hc33, hF⟩ := cal_some hF
      refine o_call ha rfl rfl Tryd.call29 (W_impl_nets_all hro30 hc33) ?_; clear ha a; rintro v34 w35 ⟨rfl, hx36⟩ a ha
      replace hqr1o1_1 := hqr1o1_1.ext hx36
      replace hqr1o4_1 := hqr1o4_1.ext hx36
      replace hqr1o5_1 := hqr1o5_1.ext hx36
      have hE37 := Ext.trans hE28 hx36
      refine op_g ha rfl (g_assign rfl) ?_; clear ha a; intro a ha; refine wpList_nil ?_; replace ha := ha.sub (σ' := [(5, vqr1o1_1), (6, vqr1o4_1), (7, vqr1o5_1), (8, (.int .u32 (BitVec.toNat x32 : Int)))]) ⟨rfl, rfl, rfl, rfl, trivial⟩; refine e_then ?_; obtain ⟨o954, ho955, hK956⟩ := bnd_some hF
      obtain ⟨n957, hn958⟩ := lp_some ho955; clear ho955
      refine c_loop (fun a w => ∃ (l951 : (List Int)) (v952 : Value) (b953 : Int), Fr 64 [(7, v952)] a ∧ Chg [] W w ∧ Ow Rp.int 3 true w [] b953 v952 l951 ∧ Zn W b953 ∧ o954 = .inl l951) (fun n a w => ∃ (l493 : (List (BitVec 32))) (l502 : (List Int)) (u505 : BitVec 32) (v494 : Value) (b495 : Int) (v503 : Value) (b504 : Int), Fr 64 [(5, v494), (6, vqr1o4_1), (7, v503), (8, (.int .u32 (BitVec.toNat u505 : Int)))] a ∧ Chg [] W w ∧ Ow Rp.u32 58 true w [] b495 v494 l493 ∧ Zn W b495 ∧ Ow Rp.u32 58 true w [] bqr1o4_1 vqr1o4_1 xqr1o4_1 ∧ Zn W bqr1o4_1 ∧ Ow Rp.int 3 true w [] b504 v503 l502 ∧ Zn W b504 ∧ Nq (bl b495 ++ []) bqr1o4_1 ∧ Nq (bl b495 ++ []) b504 ∧ Nq (bl bqr1o4_1 ++ []) b495 ∧ Nq (bl bqr1o4_1 ++ []) b504 ∧ Nq (bl b504 ++ []) b495 ∧ Nq (bl b504 ++ []) bqr1o4_1 ∧ lpN (fun s => F_impl_OrderBy_l1 xqr1o4_1 s.1 s.2.1 s.2.2) n (l493, l502, u505) = some o954) n957 ⟨xqr1o1_1, ([] : (List Int)), x32, vqr1o1_1, bqr1o1_1, vqr1o5_1, bqr1o5_1, ha.sub ⟨rfl, rfl, rfl, rfl, trivial⟩, hE37, hqr1o1_1, qqr1o1_5, hqr1o4_1, qqr1o4_7, hqr1o5_1, qqr1o5_10, qqr1o4_5, qqr1o5_6, qqr1o4_6, qqr1o5_8, qqr1o5_7, qqr1o5_9, hn958⟩ ?_ ?_
      · rintro m962 a w489 ⟨l493, l502, u505, v494, b495, v503, b504, ha, hE512, h491, z492, h497, z498, h500, z501, q506, q507, q508, q509, q510, q511, hF⟩
        cases m962 with
        | zero => exact (lpN_zero hF).elim
        | succ m962 =>
          obtain ⟨z961, hF, hN960⟩ := lpN_succ hF
          have hF : F_impl_OrderBy_l1 xqr1o4_1 l493 l502 u505 = some z961 := hF; unfold F_impl_OrderBy_l1 at hF
          refine wp_seq ?_; refine wp_seq ?_; refine wp_region_lit ?_; refine op_g ha rfl (g_move rfl) ?_; clear ha a; intro a ha; refine op_g ha rfl (g32_neq (m := u505) (n := (0#32)) rfl rfl) ?_; clear ha a; intro a ha; refine wpList_nil ?_; replace ha := ha.sub (σ' := [(5, v494), (6, vqr1o4_1), (7, v503), (8, (.int .u32 (BitVec.toNat u505 : Int))), (26, (.bool (decide (u505 ≠ (0#32)))))]) ⟨rfl, rfl, rfl, rfl, rfl, trivial⟩; refine e_then ?_; refine c_cond (u505 ≠ (0#32)) ha rfl (decide_eq_true_iff) (fun hp963 => ?_) (fun hp963 => ?_)
          · replace hF := if_t hp963 hF
            refine wp_skip ?_; refine e_then ?_; refine wp_block ?_; refine wp_seq ?_; refine wp_region_lit ?_; refine op_g ha rfl (g_assign rfl) ?_; clear ha a; intro a ha; refine wpList_nil ?_; replace ha := ha.sub (σ' := [(5, v494), (6, vqr1o4_1), (7, v503), (8, (.int .u32 (BitVec.toNat u505 : Int))), (9, (.int .i64 (-1)))]) ⟨rfl, rfl, rfl, rfl, rfl, trivial⟩; refine e_then ?_; refine wp_seq ?_; refine wp_seq ?_; refine wp_region_lit ?_; refine op_g ha rfl (g_move rfl) ?_; clear ha a; intro a ha; obtain ⟨x964, hc965, hF⟩ := cal_some hF
            refine o_call ha rfl rfl Tryd.call30 (W_impl_vset_list (hG.ext hE512) hc965) ?_; clear ha a; rintro v966 w967 ⟨b969, h970, z971, hx968⟩ a ha
            have q973 := Nq.new h491.fpb z971
            have q974 := Nq.madeO z971 h491.blt
            have q975 := Nq.new h497.fpb z971
            have q976 := Nq.madeO z971 h497.blt
            have q977 := Nq.new h500.fpb z971
            have q978 := Nq.madeO z971 h500.blt
            replace h491 := h491.ext hx968
            replace h497 := h497.ext hx968
            replace h500 := h500.ext hx968
            have hE979 := Ext.trans hE512 hx968
            have q980 := Zn.upD z971 hE512
            refine op_g ha rfl (g_lenO sl56.und h970 rfl) ?_; clear ha a; intro a ha; refine op_g ha rfl (g_move rfl) ?_; clear ha a; intro a ha; refine wpList_nil ?_; replace ha := ha.sub (σ' := [(5, v494), (6, vqr1o4_1), (7, v503), (8, (.int .u32 (BitVec.toNat u505 : Int))), (9, (.int .i64 (-1))), (28, v966), (29, (.int .i64 (x964.length : Int))), (30, (.int .i64 0))]) ⟨rfl, rfl, rfl, rfl, rfl, rfl, rfl, rfl, trivial⟩; refine e_then ?_; obtain ⟨o1249, ho1250, hK1251⟩ := bnd_some hF
            obtain ⟨n1252, hn1253⟩ := lp_some ho1250; clear ho1250
            refine c_loop (fun a w => ∃ (i1241 : Int), Fr 64 [(5, v494), (6, vqr1o4_1), (7, v503), (8, (.int .u32 (BitVec.toNat u505 : Int))), (9, (.int .i64 i1241))] a ∧ Chg [] W w ∧ InI i1241 ∧ Ow Rp.u32 58 true w [] b495 v494 l493 ∧ Zn W b495 ∧ Ow Rp.u32 58 true w [] bqr1o4_1 vqr1o4_1 xqr1o4_1 ∧ Zn W bqr1o4_1 ∧ Ow Rp.int 3 true w [] b504 v503 l502 ∧ Zn W b504 ∧ Nq (bl b495 ++ []) bqr1o4_1 ∧ Nq (bl b495 ++ []) b504 ∧ Nq (bl bqr1o4_1 ++ []) b495 ∧ Nq (bl bqr1o4_1 ++ []) b504 ∧ Nq (bl b504 ++ []) b495 ∧ Nq (bl b504 ++ []) bqr1o4_1 ∧ o1249 = .inl i1241) (fun n a w => ∃ (i1118 : Int), Fr 64 [(5, v494), (6, vqr1o4_1), (7, v503), (8, (.int .u32 (BitVec.toNat u505 : Int))), (9, (.int .i64 (-1))), (28, v966), (29, (.int .i64 (x964.length : Int))), (30, (.int .i64 i1118))] a ∧ Chg [] W w ∧ InI i1118 ∧ Ow Rp.u32 58 true w [] b495 v494 l493 ∧ Zn W b495 ∧ Ow Rp.u32 58 true w [] bqr1o4_1 vqr1o4_1 xqr1o4_1 ∧ Zn W bqr1o4_1 ∧ Ow Rp.int 3 true w [] b504 v503 l502 ∧ Zn W b504 ∧ Ow Rp.int 3 true w [] b969 v966 x964 ∧ Zn W b969 ∧ Nq (bl b495 ++ []) bqr1o4_1 ∧ Nq (bl b495 ++ []) b504 ∧ Nq (bl b495 ++ []) b969 ∧ Nq (bl bqr1o4_1 ++ []) b495 ∧ Nq (bl bqr1o4_1 ++ []) b504 ∧ Nq (bl bqr1o4_1 ++ []) b969 ∧ Nq (bl b504 ++ []) b495 ∧ Nq (bl b504 ++ []) bqr1o4_1 ∧ Nq (bl b504 ++ []) b969 ∧ Nq (bl b969 ++ []) b495 ∧ Nq (bl b969 ++ []) bqr1o4_1 ∧ Nq (bl b969 ++ []) b504 ∧ lpN (fun s => F_impl_OrderBy_l2 xqr1o4_1 l493 u505 x964 s) n i1118 = some o1249) n1252 ⟨0, ha.sub ⟨rfl, rfl, rfl, rfl, rfl, rfl, rfl, rfl, trivial⟩, hE979, (show InI 0 from by decide), h491, z492, h497, z498, h500, z501, h970, q980, q506, q507, q973, q508, q509, q975, q510, q511, q977, q974, q976, q978, hn1253⟩ ?_ ?_
            · rintro m1257 a w1105 ⟨i1118, ha, hE1132, hI1119, h1107, z1108, h1110, z1111, h1113, z1114, h1116, z1117, q1120, q1121, q1122, q1123, q1124, q1125, q1126, q1127, q1128, q1129, q1130, q1131, hF⟩
              cases m1257 with
              | zero => exact (lpN_zero hF).elim
              | succ m1257 =>
                obtain ⟨z1256, hF, hN1255⟩ := lpN_succ hF
                have hF : F_impl_OrderBy_l2 xqr1o4_1 l493 u505 x964 i1118 = some z1256 := hF; unfold F_impl_OrderBy_l2 at hF
                refine wp_seq ?_; refine wp_region_lit ?_; refine op_g ha rfl (g_lss rfl rfl) ?_; clear ha a; intro a ha; refine wpList_nil ?_; replace ha := ha.sub (σ' := [(5, v494), (6, vqr1o4_1), (7, v503), (8, (.int .u32 (BitVec.toNat u505 : Int))), (9, (.int .i64 (-1))), (28, v966), (29, (.int .i64 (x964.length : Int))), (30, (.int .i64 i1118)), (31, (.bool (decide (i1118 < (x964.length : Int)))))]) ⟨rfl, rfl, rfl, rfl, rfl, rfl, rfl, rfl, rfl, trivial⟩; refine e_then ?_; refine wp_seq ?_; refine c_cond (i1118 < (x964.length : Int)) ha rfl (decide_eq_true_iff) (fun hp1258 => ?_) (fun hp1258 => ?_)
                · replace hF := if_t hp1258 hF
                  refine wp_skip ?_; refine e_then ?_; refine wp_seq ?_; refine wp_block ?_; refine wp_seq ?_; refine wp_region_lit ?_; obtain ⟨x1259, g1260, gx1261, hF⟩ := idx_some hF
                  obtain ⟨p1262, cs1263, f1264, hf1265, hpb1266, hat1267, hr1268, hi1269⟩ := h1116.at g1260 gx1261
                  obtain ⟨rfl, hI1270, rfl⟩ := hr1268
                  refine op_g ha rfl (hi1269.gives sl56 rfl rfl) ?_; clear ha a; intro a ha; refine op_g ha rfl (g_load Tryd.isAgg3 rfl hat1267.one) ?_; clear ha a; intro a ha; refine op_g ha rfl (g_assign rfl) ?_; clear ha a; intro a ha; refine wpList_nil ?_; replace ha := ha.sub (σ' := [(5, v494), (6, vqr1o4_1), (7, v503), (8, (.int .u32 (BitVec.toNat u505 : Int))), (9, (.int .i64 (-1))), (11, (.int .i64 x1259)), (28, v966), (29, (.int .i64 (x964.length : Int))), (30, (.int .i64 i1118))]) ⟨rfl, rfl, rfl, rfl, rfl, rfl, rfl, rfl, rfl, trivial⟩; refine e_then ?_; refine wp_seq ?_; refine d_region [0, 1, 2, 3, 4, 5, 6, 7, 8, 9] hmix ?_
                  refine u_g 0 rfl (by kernel_rfl) (want0 _) ha rfl (g_move rfl) ?_; clear ha a; intro a ha; refine u_g 1 rfl (by kernel_rfl) (want0 _) ha rfl (g_move rfl) ?_; clear ha a; intro a ha; obtain ⟨x1271, g1272, gx1273, hF⟩ := idx_some hF
                  obtain ⟨p1274, cs1275, f1276, hf1277, hpb1278, hat1279, hr1280, hi1281⟩ := h1107.at g1272 gx1273
                  obtain ⟨rfl, rfl⟩ := hr1280
                  refine u_g 2 rfl (by kernel_rfl) (want0 _) ha rfl (hi1281.gives sl53 rfl rfl) ?_; clear ha a; intro a ha; refine u_g 3 rfl (by kernel_rfl) (want0 _) ha rfl (g_load Tryd.isAgg58 rfl hat1279.one) ?_; clear ha a; intro a ha; refine u_g 4 rfl (by kernel_rfl) (want0 _) ha rfl (g_move rfl) ?_; clear ha a; intro a ha; refine u_g 5 rfl (by kernel_rfl) (want0 _) ha rfl (g32_and (m := x1271) (n := u505) rfl rfl) ?_; clear ha a; intro a ha; refine u_g 6 rfl (by kernel_rfl) (want0 _) ha rfl (g_move rfl) ?_; clear ha a; intro a ha; obtain ⟨x1284, hc1285, hF⟩ := cal_some hF; refine u_call (.int .u32 (BitVec.toNat x1284 : Int)) 7 rfl (by kernel_rfl) (want0 _) ha rfl rfl Tryd.call31 (fun w1283 hx1282 => W_impl_one hI1270 hc1285) (fun _ _ _ h => ⟨h.1, h.2⟩) ?_; clear ha a; intro a ha
                  refine u_g 8 rfl (by kernel_rfl) (want0 _) ha rfl (g32_or (m := (x1271 &&& u505)) (n := x1284) rfl rfl) ?_; clear ha a; intro a ha
                  refine u_only 9 rfl (by kernel_rfl) ?_; intro w1286 hx1287
                  replace h1107 := h1107.ext hx1287
                  replace h1110 := h1110.ext hx1287
                  replace h1113 := h1113.ext hx1287
                  replace h1116 := h1116.ext hx1287
                  have hE1288 := Ext.trans hE1132 hx1287
                  refine o_alloc (cs := [(.int .u32 (BitVec.toNat (0#32) : Int))]) ha rfl Tryd.zeroValue58 rfl ?_; clear ha a; intro b1289 w1290 hB1291 hx1292 hlo1293 a ha
                  have q1294 := Zn.one hlo1293
                  have q1295 := Nq.new h1107.fpb q1294
                  have q1296 := Nq.made1 hlo1293 h1107.blt
                  have q1297 := Nq.new h1110.fpb q1294
                  have q1298 := Nq.made1 hlo1293 h1110.blt
                  have q1299 := Nq.new h1113.fpb q1294
                  have q1300 := Nq.made1 hlo1293 h1113.blt
                  have q1301 := Nq.new h1116.fpb q1294
                  have q1302 := Nq.made1 hlo1293 h1116.blt
                  have q1303 := Zn.upD q1294 hE1288
                  replace h1107 := h1107.ext hx1292
                  replace h1110 := h1110.ext hx1292
                  replace h1113 := h1113.ext hx1292
                  replace h1116 := h1116.ext hx1292
                  have hE1304 := Ext.trans hE1288 hx1292
                  refine wpList_nil (e_sq ?_)
                  refine ⟨fun _ => hx1292, ?_⟩
                  refine u_only 10 rfl (by kernel_rfl) ?_; intro w1305 hx1306
                  replace h1107 := h1107.ext hx1306
                  replace h1110 := h1110.ext hx1306
                  replace h1113 := h1113.ext hx1306
                  replace h1116 := h1116.ext hx1306
                  replace hB1291 := hB1291.ext hx1306
                  have hE1307 := Ext.trans hE1304 hx1306
                  refine o_storeB ha hB1291 Tryd.sizeOf58 rfl rfl rfl rfl (Nat.le_of_ble_eq_true rfl) ?_; intro w1308 hB1309 hc1310
                  replace hc1310 := hc1310.bl
                  replace hB1309 : Bx w1308 b1289 [(.int .u32 (BitVec.toNat ((x1271 &&& u505) ||| x1284) : Int))] 58 := hB1309
                  replace h1107 := h1107.nq hc1310 q1295
                  replace h1110 := h1110.nq hc1310 q1297
                  replace h1113 := h1113.nq hc1310 q1299
                  replace h1116 := h1116.nq hc1310 q1301
                  have hE1311 := Ext.then hE1307 hc1310 (Zn.bl q1303)
                  refine wpList_nil (e_sq ?_)
                  refine ⟨fun h => absurd h (by decide), ?_⟩
                  refine u_done (by kernel_rfl) ?_; intro w1312 hx1313
                  replace h1107 := h1107.ext hx1313
                  replace h1110 := h1110.ext hx1313
                  replace h1113 := h1113.ext hx1313
                  replace h1116 := h1116.ext hx1313
                  replace hB1309 := hB1309.ext hx1313
                  have hE1314 := Ext.trans hE1311 hx1313
                  replace ha := ha.sub (σ' := [(5, v494), (6, vqr1o4_1), (7, v503), (8, (.int .u32 (BitVec.toNat u505 : Int))), (9, (.int .i64 (-1))), (11, (.int .i64 x1259)), (12, (.pointer (some ⟨b1289, 0, none⟩))), (28, v966), (29, (.int .i64 (x964.length : Int))), (30, (.int .i64 i1118))]) ⟨rfl, rfl, rfl, rfl, rfl, rfl, rfl, rfl, rfl, rfl, trivial⟩; refine e_then ?_; refine wp_seq ?_; refine wp_region_lit ?_; refine op_g ha rfl (g_move rfl) ?_; clear ha a; intro a ha; refine op_g ha rfl (g_func rfl rfl) ?_; clear ha a; intro a ha
                  obtain ⟨fp1315, hro1316, hs1317⟩ := h1110.roF
                  obtain ⟨x1320, hc1321, hF⟩ := cal_some hF
                  refine o_call ha rfl rfl Tryd.call32 (W_slices_ContainsFunc_implvset hro1316 (by intro _ hy1319 z1318 r hr; exact W_impl_OrderBy_1 (hB1309.ext hy1319) hr) Tryd.call33 hc1321) ?_; clear ha a; rintro v1322 w1323 ⟨rfl, hx1324⟩ a ha
                  replace h1107 := h1107.ext hx1324
                  replace h1110 := h1110.ext hx1324
                  replace h1113 := h1113.ext hx1324
                  replace h1116 := h1116.ext hx1324
                  replace hB1309 := hB1309.ext hx1324
                  have hE1325 := Ext.trans hE1314 hx1324
                  refine wpList_nil ?_; replace ha := ha.sub (σ' := [(5, v494), (6, vqr1o4_1), (7, v503), (8, (.int .u32 (BitVec.toNat u505 : Int))), (9, (.int .i64 (-1))), (11, (.int .i64 x1259)), (28, v966), (29, (.int .i64 (x964.length : Int))), (30, (.int .i64 i1118)), (45, (.bool x1320))]) ⟨rfl, rfl, rfl, rfl, rfl, rfl, rfl, rfl, rfl, rfl, trivial⟩; refine e_then ?_; refine c_cond (x1320 = true) ha rfl (Iff.rfl) (fun hp1326 => ?_) (fun hp1326 => ?_)
                  · replace hF := if_t hp1326 hF
                    refine wp_seq ?_; refine wp_region_lit ?_; refine op_g ha rfl (g_move rfl) ?_; clear ha a; intro a ha; refine op_g ha rfl (g_assign rfl) ?_; clear ha a; intro a ha; refine wpList_nil ?_; replace ha := ha.sub (σ' := [(5, v494), (6, vqr1o4_1), (7, v503), (8, (.int .u32 (BitVec.toNat u505 : Int))), (9, (.int .i64 x1259))]) ⟨rfl, rfl, rfl, rfl, rfl, trivial⟩; refine e_then ?_; refine wp_exit ?_; refine e_blk_ne rfl ?_; refine e_then_exit ?_; refine e_lq_eq ?_; obtain rfl := Option.some.inj hF
                    exact ⟨x1259, ha.sub ⟨rfl, rfl, rfl, rfl, rfl, trivial⟩, hE1325, hI1270, h1107, z1108, h1110, z1111, h1113, z1114, q1120, q1121, q1123, q1124, q1126, q1127, (LK_inr hN1255).symm⟩
                  replace hF := if_f hp1326 hF; refine wp_skip ?_; refine e_blk ?_; refine e_then ?_; refine wp_region_lit ?_; obtain ⟨hI1327, hF⟩ := ck_some hF; refine op_g ha rfl (g_add rfl rfl hI1327) ?_; clear ha a; intro a ha; refine op_g ha rfl (g_move rfl) ?_; clear ha a; intro a ha; refine wpList_nil ?_; replace ha := ha.sub (σ' := [(5, v494), (6, vqr1o4_1), (7, v503), (8, (.int .u32 (BitVec.toNat u505 : Int))), (9, (.int .i64 (-1))), (28, v966), (29, (.int .i64 (x964.length : Int))), (30, (.int .i64 (i1118 + 1)))]) ⟨rfl, rfl, rfl, rfl, rfl, rfl, rfl, rfl, trivial⟩; refine e_lq ?_; obtain rfl := Option.some.inj hF
                  exact ⟨_, Nat.lt_succ_self _, i1118 + 1, ha.sub ⟨rfl, rfl, rfl, rfl, rfl, rfl, rfl, rfl, trivial⟩, hE1325, hI1327, h1107, z1108, h1110, z1111, h1113, z1114, h1116, z1117, q1120, q1121, q1122, q1123, q1124, q1125, q1126, q1127, q1128, q1129, q1130, q1131, hN1255⟩
                replace hF := if_f hp1258 hF; refine wp_exit ?_; refine e_then_exit ?_; refine e_lq_eq ?_; obtain rfl := Option.some.inj hF
                exact ⟨(-1), ha.sub ⟨rfl, rfl, rfl, rfl, rfl, trivial⟩, hE1132, (show InI (-1) from by decide), h1107, z1108, h1110, z1111, h1113, z1114, q1120, q1121, q1123, q1124, q1126, q1127, (LK_inr hN1255).symm⟩
            rintro a w1231 ⟨i1241, ha, hE1254, hI1242, h1233, z1234, h1236, z1237, h1239, z1240, q1243, q1244, q1245, q1246, q1247, q1248, rfl⟩
            have hF : F_impl_OrderBy_k3 l493 l502 u505 i1241 = some _ := hK1251; clear hK1251; unfold F_impl_OrderBy_k3 at hF
            refine e_then ?_; refine wp_seq ?_; refine wp_seq ?_; refine wp_region_lit ?_; refine op_g ha rfl (g_move rfl) ?_; clear ha a; intro a ha; refine op_g ha rfl (g_lss rfl rfl) ?_; clear ha a; intro a ha; refine wpList_nil ?_; replace ha := ha.sub (σ' := [(5, v494), (6, vqr1o4_1), (7, v503), (8, (.int .u32 (BitVec.toNat u505 : Int))), (9, (.int .i64 i1241)), (49, (.bool (decide (i1241 < 0))))]) ⟨rfl, rfl, rfl, rfl, rfl, rfl, trivial⟩; refine e_then ?_; refine c_cond (i1241 < 0) ha rfl (decide_eq_true_iff) (fun hp1329 => ?_) (fun hp1329 => ?_)
            · replace hF := if_t hp1329 hF
              refine wp_seq ?_; refine wp_region_lit ?_; refine op_g ha rfl (g_assign rfl) ?_; clear ha a; intro a ha; refine wpList_nil ?_; replace ha := ha.sub (σ' := [(4, (.slice none 0 0))]) ⟨rfl, trivial⟩; refine e_then ?_; refine wp_ret ?_; refine e_then_ret ?_; refine e_blk_ret ?_; refine e_lq_ret ?_; refine e_then_ret ?_; obtain rfl := Option.some.inj hF
              have e1330 := LK_inr hN960; subst e1330
              have e1331 := BK_inr hK956; subst e1331
              exact f_ret1 ha rfl rfl ⟨-1, (Ow.nil (by decide)), (.inl (by decide)), hE1254⟩
            replace hF := if_f hp1329 hF; refine wp_skip ?_; refine e_then ?_; refine wp_seq ?_; refine wp_region_lit ?_; (iterate 3 refine op_g ha rfl (g_move rfl) ?_; clear ha a; intro a ha); obtain ⟨x1332, hc1333, hF⟩ := cal_some hF
            refine o_call ha rfl rfl Tryd.call34 (W_impl_eliminate h1233 hI1242 (hG.ext hE1254) (hG.ne z1234) hc1333) ?_; clear ha a; rintro v1334 w1335 ⟨rfl, h1337, hx1336⟩ a ha
            replace h1236 := h1236.nq hx1336 q1245
            replace h1239 := h1239.nq hx1336 q1247
            have hE1338 := Ext.then hE1254 hx1336 (Zn.bl z1234)
            refine wpList_nil ?_; replace ha := ha.sub (σ' := [(5, v494), (6, vqr1o4_1), (7, v503), (8, (.int .u32 (BitVec.toNat u505 : Int))), (9, (.int .i64 i1241))]) ⟨rfl, rfl, rfl, rfl, rfl, trivial⟩; refine e_then ?_; refine wp_seq ?_; refine wp_region_lit ?_; (iterate 2 refine op_g ha rfl (g_move rfl) ?_; clear ha a; intro a ha); obtain ⟨x1339, hc1340, hF⟩ := cal_some hF
            refine o_call ha rfl rfl Tryd.call31 (W_impl_one hI1242 hc1340) ?_; clear ha a; rintro v1341 w1342 ⟨rfl, hx1343⟩ a ha
            replace h1337 := h1337.ext hx1343
            replace h1236 := h1236.ext hx1343
            replace h1239 := h1239.ext hx1343
            have hE1344 := Ext.trans hE1338 hx1343
            refine op_g ha rfl (g32_andNot (m := u505) (n := x1339) rfl rfl) ?_; clear ha a; intro a ha; refine op_g ha rfl (g_assign rfl) ?_; clear ha a; intro a ha; refine wpList_nil ?_; replace ha := ha.sub (σ' := [(5, v494), (6, vqr1o4_1), (7, v503), (8, (.int .u32 (BitVec.toNat (u505 &&& ~~~x1339) : Int))), (9, (.int .i64 i1241))]) ⟨rfl, rfl, rfl, rfl, rfl, trivial⟩; refine e_then ?_; refine wp_region_lit ?_; (iterate 2 refine op_g ha rfl (g_move rfl) ?_; clear ha a; intro a ha)
            refine o_lit1 (o := true) (y := i1241) Rp.int ha rfl sl56 rfl rfl rfl ⟨rfl, hI1242, rfl⟩ ?_; clear ha a; intro v1345 w1346 h1347 hx1348 a ha
            obtain ⟨b1350, hb1350⟩ : ∃ b : Int, b = w1342.heap.size := ⟨_, rfl⟩; rw [← hb1350] at h1347
            have q1351 := zn_of hb1350
            have q1352 := Nq.new h1337.fpb q1351
            have q1353 := Nq.madeO q1351 h1337.blt
            have q1354 := Nq.new h1236.fpb q1351
            have q1355 := Nq.madeO q1351 h1236.blt
            have q1356 := Nq.new h1239.fpb q1351
            have q1357 := Nq.madeO q1351 h1239.blt
            have q1358 := Zn.upD q1351 hE1344
            replace h1337 := h1337.ext hx1348
            replace h1236 := h1236.ext hx1348
            replace h1239 := h1239.ext hx1348
            have hE1359 := Ext.trans hE1344 hx1348
            obtain ⟨hl1360, hF⟩ := app_some hF
            refine o_append ha rfl sl56 rfl rfl rfl h1239 h1347.src (Nq.nil _) hl1360 ?_; clear ha a; intro v1361 w1362 b1363 h1364 hc1365 hb1366 a ha
            replace h1364 : Ow Rp.int 3 true w1362 [] b1363 v1361 _ := h1364
            have q1368 := Nq.appY q1244 h1337.fpb hb1366
            have q1369 := Nq.appX q1247 (Nq.nil _) hb1366 h1337.blt
            have q1370 := Nq.appY q1246 h1236.fpb hb1366
            have q1371 := Nq.appX q1248 (Nq.nil _) hb1366 h1236.blt
            have q1372 := Nq.appY q1357 h1347.fpb hb1366
            have q1373 := Nq.appX q1356 (Nq.nil _) hb1366 h1347.blt
            have q1374 := Zn.appD z1240 hb1366 hE1359
            replace h1337 := h1337.nq hc1365 q1244
            replace h1236 := h1236.nq hc1365 q1246
            replace h1347 := h1347.nq hc1365 q1357
            have hE1375 := Ext.then hE1359 hc1365 (Zn.bl z1240)
            refine op_g ha rfl (g_assign rfl) ?_; clear ha a; intro a ha; refine wpList_nil ?_; replace ha := ha.sub (σ' := [(5, v494), (6, vqr1o4_1), (7, v1361), (8, (.int .u32 (BitVec.toNat (u505 &&& ~~~x1339) : Int)))]) ⟨rfl, rfl, rfl, rfl, trivial⟩; refine e_blk ?_; refine e_lq ?_; obtain rfl := Option.some.inj hF
            exact ⟨_, Nat.lt_succ_self _, x1332, (l502 ++ ([i1241])), u505 &&& ~~~x1339, v494, b495, v1361, b1363, ha.sub ⟨rfl, rfl, rfl, rfl, trivial⟩, hE1375, h1337, z1234, h1236, z1237, h1364, q1374, q1243, q1368, q1245, q1370, q1369, q1371, hN960⟩
          replace hF := if_f hp963 hF; refine wp_exit ?_; refine e_then_exit ?_; refine e_lq_eq ?_; obtain rfl := Option.some.inj hF
          exact ⟨l502, v503, b504, ha.sub ⟨rfl, trivial⟩, hE512, h500, z501, (LK_inr hN960).symm⟩
      rintro a w947 ⟨l951, v952, b953, ha, hE959, h949, z950, rfl⟩
      have hF : F_impl_OrderBy_k4 l951 = some _ := hK956; clear hK956; unfold F_impl_OrderBy_k4 at hF
      refine e_then ?_; refine wp_seq ?_; refine wp_region_lit ?_; refine op_g ha rfl (g_move rfl) ?_; clear ha a; intro a ha
      obtain ⟨fp1376, hro1377, hs1378⟩ := h949.roF
      obtain ⟨x1379, hc1380, hF⟩ := cal_some hF
      refine o_call ha rfl rfl Tryd.call35 (W_impl_wide hro1377 hc1380) ?_; clear ha a; rintro v1381 w1382 ⟨b1384, h1385, z1386, hx1383⟩ a ha
      have q1388 := Nq.new h949.fpb z1386
      have q1389 := Nq.madeO z1386 h949.blt
      replace h949 := h949.ext hx1383
      have hE1390 := Ext.trans hE959 hx1383
      have q1391 := Zn.upD z1386 hE959
      refine op_g ha rfl (g_assign rfl) ?_; clear ha a; intro a ha; refine wpList_nil ?_; replace ha := ha.sub (σ' := [(4, v1381)]) ⟨rfl, trivial⟩; refine e_then ?_; refine wp_ret ?_; obtain rfl := Option.some.inj hF
      exact f_ret1 ha rfl rfl ⟨_, h1385, q1391, hE1390⟩
    skip
    replace hB3 := hB3.ext hxqr1o1_2
    replace hB11 := hB11.ext hxqr1o1_2
    replace hqr1o1_1 := hqr1o1_1.ext hxqr1o1_2
    have hEqr1o5_1 := Ext.trans hEqr1o1_2 hxqr1o1_2
    refine o_lit0 Rp.int ha rfl sl56 ?_; clear ha a; intro vqr1o5_1 wqr1o5_1 hqr1o5_1 hxqr1o5_1 a ha
    obtain ⟨bqr1o5_1, hbqr1o5_1⟩ : ∃ b : Int, b = wqr1o1_2.heap.size := ⟨_, rfl⟩; rw [← hbqr1o5_1] at hqr1o5_1
    have qqr1o5_1 := zn_of hbqr1o5_1
    have qqr1o5_2 := Nq.new hB3.fpb qqr1o5_1
    have qqr1o5_3 := Nq.madeO qqr1o5_1 hB3.bi
    have qqr1o5_4 := Nq.new hB11.fpb qqr1o5_1
    have qqr1o5_5 := Nq.madeO qqr1o5_1 hB11.bi
    have qqr1o5_6 := Nq.new hqr1o1_1.fpb qqr1o5_1
    have qqr1o5_7 := Nq.madeO qqr1o5_1 hqr1o1_1.blt
    have qqr1o5_8 := Zn.upD qqr1o5_1 hEqr1o5_1
    replace hB3 := hB3.ext hxqr1o5_1
    replace hB11 := hB11.ext hxqr1o5_1
    replace hqr1o1_1 := hqr1o1_1.ext hxqr1o5_1
    have hEqr1o5_2 := Ext.trans hEqr1o5_1 hxqr1o5_1
    refine wpList_nil (e_sq ?_)
    refine ⟨fun _ => hxqr1o5_1, ?_⟩
    refine u_only 4 rfl (by kernel_rfl) ?_; intro wqr1o4_1 hxqr1o4_1
    replace hB3 := hB3.ext hxqr1o4_1
    replace hB11 := hB11.ext hxqr1o4_1
    replace hqr1o1_1 := hqr1o1_1.ext hxqr1o4_1
    replace hqr1o5_1 := hqr1o5_1.ext hxqr1o4_1
    have hEqr1o4_1 := Ext.trans hEqr1o5_2 hxqr1o4_1
    refine o_call ha rfl rfl Tryd.call28 (W_impl_bagMasks (ha1_0.ext hEqr1o4_1) hcqr1o4_1) ?_; clear ha a; rintro vqr1o4_1 wqr1o4_2 ⟨bqr1o4_1, hqr1o4_1, zqr1o4_1, hxqr1o4_2⟩ a ha
    have qqr1o4_1 := Nq.new hB3.fpb zqr1o4_1
    have qqr1o4_2 := Nq.madeO zqr1o4_1 hB3.bi
    have qqr1o4_3 := Nq.new hB11.fpb zqr1o4_1
    have qqr1o4_4 := Nq.madeO zqr1o4_1 hB11.bi
    have qqr1o4_5 := Nq.new hqr1o1_1.fpb zqr1o4_1
    have qqr1o4_6 := Nq.madeO zqr1o4_1 hqr1o1_1.blt
    have qqr1o4_7 := Nq.new hqr1o5_1.fpb zqr1o4_1
    have qqr1o4_8 := Nq.madeO zqr1o4_1 hqr1o5_1.blt
    replace hB3 := hB3.ext hxqr1o4_2
    replace hB11 := hB11.ext hxqr1o4_2
    replace hqr1o1_1 := hqr1o1_1.ext hxqr1o4_2
    replace hqr1o5_1 := hqr1o5_1.ext hxqr1o4_2
    have hEqr1o4_2 := Ext.trans hEqr1o4_1 hxqr1o4_2
    have qqr1o4_9 := Zn.upD zqr1o4_1 hEqr1o4_1
    refine wpList_nil (e_sq ?_)
    refine ⟨fun _ => hxqr1o4_2, ?_⟩
    refine u_g 6 rfl (by kernel_rfl) (want0 _) ha rfl (g_assign rfl) ?_; clear ha a; intro a ha; refine u_g 7 rfl (by kernel_rfl) (want0 _) ha rfl (g_assign rfl) ?_; clear ha a; intro a ha; refine u_g 8 rfl (by kernel_rfl) (want0 _) ha rfl (g_assign rfl) ?_; clear ha a; intro a ha
    refine u_done (by kernel_rfl) ?_; intro w26 hx27
    replace hB3 := hB3.ext hx27
    replace hB11 := hB11.ext hx27
    replace hqr1o1_1 := hqr1o1_1.ext hx27
    replace hqr1o5_1 := hqr1o5_1.ext hx27
    replace hqr1o4_1 := hqr1o4_1.ext hx27
    have hE28 := Ext.trans hEqr1o4_2 hx27
    replace ha := ha.sub (σ' := [(5, vqr1o1_1), (6, vqr1o4_1), (7, vqr1o5_1)]) ⟨rfl, rfl, rfl, trivial⟩; refine e_then ?_; refine wp_seq ?_; refine wp_seq ?_; refine wp_region_lit ?_; refine op_g ha rfl (g_move rfl) ?_; clear ha a; intro a ha
    obtain ⟨fp29, hro30, hs31⟩ := hqr1o1_1.roF
    obtain ⟨x32, hc33, hF⟩ := cal_some hF
    refine o_call ha rfl rfl Tryd.call29 (W_impl_nets_all hro30 hc33) ?_; clear ha a; rintro v34 w35 ⟨rfl, hx36⟩ a ha
    replace hqr1o1_1 := hqr1o1_1.ext hx36
    replace hqr1o5_1 := hqr1o5_1.ext hx36
    replace hqr1o4_1 := hqr1o4_1.ext hx36
    have hE37 := Ext.trans hE28 hx36
    refine op_g ha rfl (g_assign rfl) ?_; clear ha a; intro a ha; refine wpList_nil ?_; replace ha := ha.sub (σ' := [(5, vqr1o1_1), (6, vqr1o4_1), (7, vqr1o5_1), (8, (.int .u32 (BitVec.toNat x32 : Int)))]) ⟨rfl, rfl, rfl, rfl, trivial⟩; refine e_then ?_; obtain ⟨o954, ho955, hK956⟩ := bnd_some hF
    obtain ⟨n957, hn958⟩ := lp_some ho955; clear ho955
    refine c_loop (fun a w => ∃ (l951 : (List Int)) (v952 : Value) (b953 : Int), Fr 64 [(7, v952)] a ∧ Chg [] W w ∧ Ow Rp.int 3 true w [] b953 v952 l951 ∧ Zn W b953 ∧ o954 = .inl l951) (fun n a w => ∃ (l493 : (List (BitVec 32))) (l502 : (List Int)) (u505 : BitVec 32) (v494 : Value) (b495 : Int) (v503 : Value) (b504 : Int), Fr 64 [(5, v494), (6, vqr1o4_1), (7, v503), (8, (.int .u32 (BitVec.toNat u505 : Int)))] a ∧ Chg [] W w ∧ Ow Rp.u32 58 true w [] b495 v494 l493 ∧ Zn W b495 ∧ Ow Rp.u32 58 true w [] bqr1o4_1 vqr1o4_1 xqr1o4_1 ∧ Zn W bqr1o4_1 ∧ Ow Rp.int 3 true w [] b504 v503 l502 ∧ Zn W b504 ∧ Nq (bl b495 ++ []) bqr1o4_1 ∧ Nq (bl b495 ++ []) b504 ∧ Nq (bl bqr1o4_1 ++ []) b495 ∧ Nq (bl bqr1o4_1 ++ []) b504 ∧ Nq (bl b504 ++ []) b495 ∧ Nq (bl b504 ++ []) bqr1o4_1 ∧ lpN (fun s => F_impl_OrderBy_l1 xqr1o4_1 s.1 s.2.1 s.2.2) n (l493, l502, u505) = some o954) n957 ⟨xqr1o1_1, ([] : (List Int)), x32, vqr1o1_1, bqr1o1_1, vqr1o5_1, bqr1o5_1, ha.sub ⟨rfl, rfl, rfl, rfl, trivial⟩, hE37, hqr1o1_1, qqr1o1_5, hqr1o4_1, qqr1o4_9, hqr1o5_1, qqr1o5_8, qqr1o4_5, qqr1o5_6, qqr1o4_6, qqr1o4_8, qqr1o5_7, qqr1o4_7, hn958⟩ ?_ ?_
    · rintro m962 a w489 ⟨l493, l502, u505, v494, b495, v503, b504, ha, hE512, h491, z492, h497, z498, h500, z501, q506, q507, q508, q509, q510, q511, hF⟩
      cases m962 with
      | zero => exact (lpN_zero hF).elim
      | succ m962 =>
        obtain ⟨z961, hF, hN960⟩ := lpN_succ hF
        have hF : F_impl_OrderBy_l1 xqr1o4_1 l493 l502 u505 = some z961 := hF; unfold F_impl_OrderBy_l1 at hF
        refine wp_seq ?_; refine wp_seq ?_; refine wp_region_lit ?_; refine op_g ha rfl (g_move rfl) ?_; clear ha a; intro a ha; refine op_g ha rfl (g32_neq (m := u505) (n := (0#32)) rfl rfl) ?_; clear ha a; intro a ha; refine wpList_nil ?_; replace ha := ha.sub (σ' := [(5, v494), (6, vqr1o4_1), (7, v503), (8, (.int .u32 (BitVec.toNat u505 : Int))), (26, (.bool (decide (u505 ≠ (0#32)))))]) ⟨rfl, rfl, rfl, rfl, rfl, trivial⟩; refine e_then ?_; refine c_cond (u505 ≠ (0#32)) ha rfl (decide_eq_true_iff) (fun hp963 => ?_) (fun hp963 => ?_)
        · replace hF := if_t hp963 hF
          refine wp_skip ?_; refine e_then ?_; refine wp_block ?_; refine wp_seq ?_; refine wp_region_lit ?_; refine op_g ha rfl (g_assign rfl) ?_; clear ha a; intro a ha; refine wpList_nil ?_; replace ha := ha.sub (σ' := [(5, v494), (6, vqr1o4_1), (7, v503), (8, (.int .u32 (BitVec.toNat u505 : Int))), (9, (.int .i64 (-1)))]) ⟨rfl, rfl, rfl, rfl, rfl, trivial⟩; refine e_then ?_; refine wp_seq ?_; refine wp_seq ?_; refine wp_region_lit ?_; refine op_g ha rfl (g_move rfl) ?_; clear ha a; intro a ha; obtain ⟨x964, hc965, hF⟩ := cal_some hF
          refine o_call ha rfl rfl Tryd.call30 (W_impl_vset_list (hG.ext hE512) hc965) ?_; clear ha a; rintro v966 w967 ⟨b969, h970, z971, hx968⟩ a ha
          have q973 := Nq.new h491.fpb z971
          have q974 := Nq.madeO z971 h491.blt
          have q975 := Nq.new h497.fpb z971
          have q976 := Nq.madeO z971 h497.blt
          have q977 := Nq.new h500.fpb z971
          have q978 := Nq.madeO z971 h500.blt
          replace h491 := h491.ext hx968
          replace h497 := h497.ext hx968
          replace h500 := h500.ext hx968
          have hE979 := Ext.trans hE512 hx968
          have q980 := Zn.upD z971 hE512
          refine op_g ha rfl (g_lenO sl56.und h970 rfl) ?_; clear ha a; intro a ha; refine op_g ha rfl (g_move rfl) ?_; clear ha a; intro a ha; refine wpList_nil ?_; replace ha := ha.sub (σ' := [(5, v494), (6, vqr1o4_1), (7, v503), (8, (.int .u32 (BitVec.toNat u505 : Int))), (9, (.int .i64 (-1))), (28, v966), (29, (.int .i64 (x964.length : Int))), (30, (.int .i64 0))]) ⟨rfl, rfl, rfl, rfl, rfl, rfl, rfl, rfl, trivial⟩; refine e_then ?_; obtain ⟨o1249, ho1250, hK1251⟩ := bnd_some hF
          obtain ⟨n1252, hn1253⟩ := lp_some ho1250; clear ho1250
          refine c_loop (fun a w => ∃ (i1241 : Int), Fr 64 [(5, v494), (6, vqr1o4_1), (7, v503), (8, (.int .u32 (BitVec.toNat u505 : Int))), (9, (.int .i64 i1241))] a ∧ Chg [] W w ∧ InI i1241 ∧ Ow Rp.u32 58 true w [] b495 v494 l493 ∧ Zn W b495 ∧ Ow Rp.u32 58 true w [] bqr1o4_1 vqr1o4_1 xqr1o4_1 ∧ Zn W bqr1o4_1 ∧ Ow Rp.int 3 true w [] b504 v503 l502 ∧ Zn W b504 ∧ Nq (bl b495 ++ []) bqr1o4_1 ∧ Nq (bl b495 ++ []) b504 ∧ Nq (bl bqr1o4_1 ++ []) b495 ∧ Nq (bl bqr1o4_1 ++ []) b504 ∧ Nq (bl b504 ++ []) b495 ∧ Nq (bl b504 ++ []) bqr1o4_1 ∧ o1249 = .inl i1241) (fun n a w => ∃ (i1118 : Int), Fr 64 [(5, v494), (6, vqr1o4_1), (7, v503), (8, (.int .u32 (BitVec.toNat u505 : Int))), (9, (.int .i64 (-1))), (28, v966), (29, (.int .i64 (x964.length : Int))), (30, (.int .i64 i1118))] a ∧ Chg [] W w ∧ InI i1118 ∧ Ow Rp.u32 58 true w [] b495 v494 l493 ∧ Zn W b495 ∧ Ow Rp.u32 58 true w [] bqr1o4_1 vqr1o4_1 xqr1o4_1 ∧ Zn W bqr1o4_1 ∧ Ow Rp.int 3 true w [] b504 v503 l502 ∧ Zn W b504 ∧ Ow Rp.int 3 true w [] b969 v966 x964 ∧ Zn W b969 ∧ Nq (bl b495 ++ []) bqr1o4_1 ∧ Nq (bl b495 ++ []) b504 ∧ Nq (bl b495 ++ []) b969 ∧ Nq (bl bqr1o4_1 ++ []) b495 ∧ Nq (bl bqr1o4_1 ++ []) b504 ∧ Nq (bl bqr1o4_1 ++ []) b969 ∧ Nq (bl b504 ++ []) b495 ∧ Nq (bl b504 ++ []) bqr1o4_1 ∧ Nq (bl b504 ++ []) b969 ∧ Nq (bl b969 ++ []) b495 ∧ Nq (bl b969 ++ []) bqr1o4_1 ∧ Nq (bl b969 ++ []) b504 ∧ lpN (fun s => F_impl_OrderBy_l2 xqr1o4_1 l493 u505 x964 s) n i1118 = some o1249) n1252 ⟨0, ha.sub ⟨rfl, rfl, rfl, rfl, rfl, rfl, rfl, rfl, trivial⟩, hE979, (show InI 0 from by decide), h491, z492, h497, z498, h500, z501, h970, q980, q506, q507, q973, q508, q509, q975, q510, q511, q977, q974, q976, q978, hn1253⟩ ?_ ?_
          · rintro m1257 a w1105 ⟨i1118, ha, hE1132, hI1119, h1107, z1108, h1110, z1111, h1113, z1114, h1116, z1117, q1120, q1121, q1122, q1123, q1124, q1125, q1126, q1127, q1128, q1129, q1130, q1131, hF⟩
            cases m1257 with
            | zero => exact (lpN_zero hF).elim
            | succ m1257 =>
              obtain ⟨z1256, hF, hN1255⟩ := lpN_succ hF
              have hF : F_impl_OrderBy_l2 xqr1o4_1 l493 u505 x964 i1118 = some z1256 := hF; unfold F_impl_OrderBy_l2 at hF
              refine wp_seq ?_; refine wp_region_lit ?_; refine op_g ha rfl (g_lss rfl rfl) ?_; clear ha a; intro a ha; refine wpList_nil ?_; replace ha := ha.sub (σ' := [(5, v494), (6, vqr1o4_1), (7, v503), (8, (.int .u32 (BitVec.toNat u505 : Int))), (9, (.int .i64 (-1))), (28, v966), (29, (.int .i64 (x964.length : Int))), (30, (.int .i64 i1118)), (31, (.bool (decide (i1118 < (x964.length : Int)))))]) ⟨rfl, rfl, rfl, rfl, rfl, rfl, rfl, rfl, rfl, trivial⟩; refine e_then ?_; refine wp_seq ?_; refine c_cond (i1118 < (x964.length : Int)) ha rfl (decide_eq_true_iff) (fun hp1258 => ?_) (fun hp1258 => ?_)
              · replace hF := if_t hp1258 hF
                refine wp_skip ?_; refine e_then ?_; refine wp_seq ?_; refine wp_block ?_; refine wp_seq ?_; refine wp_region_lit ?_; obtain ⟨x1259, g1260, gx1261, hF⟩ := idx_some hF
                obtain ⟨p1262, cs1263, f1264, hf1265, hpb1266, hat1267, hr1268, hi1269⟩ := h1116.at g1260 gx1261
                obtain ⟨rfl, hI1270, rfl⟩ := hr1268
                refine op_g ha rfl (hi1269.gives sl56 rfl rfl) ?_; clear ha a; intro a ha; refine op_g ha rfl (g_load Tryd.isAgg3 rfl hat1267.one) ?_; clear ha a; intro a ha; refine op_g ha rfl (g_assign rfl) ?_; clear ha a; intro a ha; refine wpList_nil ?_; replace ha := ha.sub (σ' := [(5, v494), (6, vqr1o4_1), (7, v503), (8, (.int .u32 (BitVec.toNat u505 : Int))), (9, (.int .i64 (-1))), (11, (.int .i64 x1259)), (28, v966), (29, (.int .i64 (x964.length : Int))), (30, (.int .i64 i1118))]) ⟨rfl, rfl, rfl, rfl, rfl, rfl, rfl, rfl, rfl, trivial⟩; refine e_then ?_; refine wp_seq ?_; refine d_region [0, 1, 2, 3, 4, 5, 6, 7, 8, 9] hmix ?_
                refine u_g 0 rfl (by kernel_rfl) (want0 _) ha rfl (g_move rfl) ?_; clear ha a; intro a ha; refine u_g 1 rfl (by kernel_rfl) (want0 _) ha rfl (g_move rfl) ?_; clear ha a; intro a ha; obtain ⟨x1271, g1272, gx1273, hF⟩ := idx_some hF
                obtain ⟨p1274, cs1275, f1276, hf1277, hpb1278, hat1279, hr1280, hi1281⟩ := h1107.at g1272 gx1273
                obtain ⟨rfl, rfl⟩ := hr1280
                refine u_g 2 rfl (by kernel_rfl) (want0 _) ha rfl (hi1281.gives sl53 rfl rfl) ?_; clear ha a; intro a ha; refine u_g 3 rfl (by kernel_rfl) (want0 _) ha rfl (g_load Tryd.isAgg58 rfl hat1279.one) ?_; clear ha a; intro a ha; refine u_g 4 rfl (by kernel_rfl) (want0 _) ha rfl (g_move rfl) ?_; clear ha a; intro a ha; refine u_g 5 rfl (by kernel_rfl) (want0 _) ha rfl (g32_and (m := x1271) (n := u505) rfl rfl) ?_; clear ha a; intro a ha; refine u_g 6 rfl (by kernel_rfl) (want0 _) ha rfl (g_move rfl) ?_; clear ha a; intro a ha; obtain ⟨x1284, hc1285, hF⟩ := cal_some hF; refine u_call (.int .u32 (BitVec.toNat x1284 : Int)) 7 rfl (by kernel_rfl) (want0 _) ha rfl rfl Tryd.call31 (fun w1283 hx1282 => W_impl_one hI1270 hc1285) (fun _ _ _ h => ⟨h.1, h.2⟩) ?_; clear ha a; intro a ha
                refine u_g 8 rfl (by kernel_rfl) (want0 _) ha rfl (g32_or (m := (x1271 &&& u505)) (n := x1284) rfl rfl) ?_; clear ha a; intro a ha
                refine u_only 9 rfl (by kernel_rfl) ?_; intro w1286 hx1287
                replace h1107 := h1107.ext hx1287
                replace h1110 := h1110.ext hx1287
                replace h1113 := h1113.ext hx1287
                replace h1116 := h1116.ext hx1287
                have hE1288 := Ext.trans hE1132 hx1287
                refine o_alloc (cs := [(.int .u32 (BitVec.toNat (0#32) : Int))]) ha rfl Tryd.zeroValue58 rfl ?_; clear ha a; intro b1289 w1290 hB1291 hx1292 hlo1293 a ha
                have q1294 := Zn.one hlo1293
                have q1295 := Nq.new h1107.fpb q1294
                have q1296 := Nq.made1 hlo1293 h1107.blt
                have q1297 := Nq.new h1110.fpb q1294
                have q1298 := Nq.made1 hlo1293 h1110.blt
                have q1299 := Nq.new h1113.fpb q1294
                have q1300 := Nq.made1 hlo1293 h1113.blt
                have q1301 := Nq.new h1116.fpb q1294
                have q1302 := Nq.made1 hlo1293 h1116.blt
                have q1303 := Zn.upD q1294 hE1288
                replace h1107 := h1107.ext hx1292
                replace h1110 := h1110.ext hx1292
                replace h1113 := h1113.ext hx1292
                replace h1116 := h1116.ext hx1292
                have hE1304 := Ext.trans hE1288 hx1292
                refine wpList_nil (e_sq ?_)
                refine ⟨fun _ => hx1292, ?_⟩
                refine u_only 10 rfl (by kernel_rfl) ?_; intro w1305 hx1306
                replace h1107 := h1107.ext hx1306
                replace h1110 := h1110.ext hx1306
                replace h1113 := h1113.ext hx1306
                replace h1116 := h1116.ext hx1306
                replace hB1291 := hB1291.ext hx1306
                have hE1307 := Ext.trans hE1304 hx1306
                refine o_storeB ha hB1291 Tryd.sizeOf58 rfl rfl rfl rfl (Nat.le_of_ble_eq_true rfl) ?_; intro w1308 hB1309 hc1310
                replace hc1310 := hc1310.bl
                replace hB1309 : Bx w1308 b1289 [(.int .u32 (BitVec.toNat ((x1271 &&& u505) ||| x1284) : Int))] 58 := hB1309
                replace h1107 := h1107.nq hc1310 q1295
                replace h1110 := h1110.nq hc1310 q1297
                replace h1113 := h1113.nq hc1310 q1299
                replace h1116 := h1116.nq hc1310 q1301
                have hE1311 := Ext.then hE1307 hc1310 (Zn.bl q1303)
                refine wpList_nil (e_sq ?_)
                refine ⟨fun h => absurd h (by decide), ?_⟩
                refine u_done (by kernel_rfl) ?_; intro w1312 hx1313
                replace h1107 := h1107.ext hx1313
                replace h1110 := h1110.ext hx1313
                replace h1113 := h1113.ext hx1313
                replace h1116 := h1116.ext hx1313
                replace hB1309 := hB1309.ext hx1313
                have hE1314 := Ext.trans hE1311 hx1313
                replace ha := ha.sub (σ' := [(5, v494), (6, vqr1o4_1), (7, v503), (8, (.int .u32 (BitVec.toNat u505 : Int))), (9, (.int .i64 (-1))), (11, (.int .i64 x1259)), (12, (.pointer (some ⟨b1289, 0, none⟩))), (28, v966), (29, (.int .i64 (x964.length : Int))), (30, (.int .i64 i1118))]) ⟨rfl, rfl, rfl, rfl, rfl, rfl, rfl, rfl, rfl, rfl, trivial⟩; refine e_then ?_; refine wp_seq ?_; refine wp_region_lit ?_; refine op_g ha rfl (g_move rfl) ?_; clear ha a; intro a ha; refine op_g ha rfl (g_func rfl rfl) ?_; clear ha a; intro a ha
                obtain ⟨fp1315, hro1316, hs1317⟩ := h1110.roF
                obtain ⟨x1320, hc1321, hF⟩ := cal_some hF
                refine o_call ha rfl rfl Tryd.call32 (W_slices_ContainsFunc_implvset hro1316 (by intro _ hy1319 z1318 r hr; exact W_impl_OrderBy_1 (hB1309.ext hy1319) hr) Tryd.call33 hc1321) ?_; clear ha a; rintro v1322 w1323 ⟨rfl, hx1324⟩ a ha
                replace h1107 := h1107.ext hx1324
                replace h1110 := h1110.ext hx1324
                replace h1113 := h1113.ext hx1324
                replace h1116 := h1116.ext hx1324
                replace hB1309 := hB1309.ext hx1324
                have hE1325 := Ext.trans hE1314 hx1324
                refine wpList_nil ?_; replace ha := ha.sub (σ' := [(5, v494), (6, vqr1o4_1), (7, v503), (8, (.int .u32 (BitVec.toNat u505 : Int))), (9, (.int .i64 (-1))), (11, (.int .i64 x1259)), (28, v966), (29, (.int .i64 (x964.length : Int))), (30, (.int .i64 i1118)), (45, (.bool x1320))]) ⟨rfl, rfl, rfl, rfl, rfl, rfl, rfl, rfl, rfl, rfl, trivial⟩; refine e_then ?_; refine c_cond (x1320 = true) ha rfl (Iff.rfl) (fun hp1326 => ?_) (fun hp1326 => ?_)
                · replace hF := if_t hp1326 hF
                  refine wp_seq ?_; refine wp_region_lit ?_; refine op_g ha rfl (g_move rfl) ?_; clear ha a; intro a ha; refine op_g ha rfl (g_assign rfl) ?_; clear ha a; intro a ha; refine wpList_nil ?_; replace ha := ha.sub (σ' := [(5, v494), (6, vqr1o4_1), (7, v503), (8, (.int .u32 (BitVec.toNat u505 : Int))), (9, (.int .i64 x1259))]) ⟨rfl, rfl, rfl, rfl, rfl, trivial⟩; refine e_then ?_; refine wp_exit ?_; refine e_blk_ne rfl ?_; refine e_then_exit ?_; refine e_lq_eq ?_; obtain rfl := Option.some.inj hF
                  exact ⟨x1259, ha.sub ⟨rfl, rfl, rfl, rfl, rfl, trivial⟩, hE1325, hI1270, h1107, z1108, h1110, z1111, h1113, z1114, q1120, q1121, q1123, q1124, q1126, q1127, (LK_inr hN1255).symm⟩
                replace hF := if_f hp1326 hF; refine wp_skip ?_; refine e_blk ?_; refine e_then ?_; refine wp_region_lit ?_; obtain ⟨hI1327, hF⟩ := ck_some hF; refine op_g ha rfl (g_add rfl rfl hI1327) ?_; clear ha a; intro a ha; refine op_g ha rfl (g_move rfl) ?_; clear ha a; intro a ha; refine wpList_nil ?_; replace ha := ha.sub (σ' := [(5, v494), (6, vqr1o4_1), (7, v503), (8, (.int .u32 (BitVec.toNat u505 : Int))), (9, (.int .i64 (-1))), (28, v966), (29, (.int .i64 (x964.length : Int))), (30, (.int .i64 (i1118 + 1)))]) ⟨rfl, rfl, rfl, rfl, rfl, rfl, rfl, rfl, trivial⟩; refine e_lq ?_; obtain rfl := Option.some.inj hF
                exact ⟨_, Nat.lt_succ_self _, i1118 + 1, ha.sub ⟨rfl, rfl, rfl, rfl, rfl, rfl, rfl, rfl, trivial⟩, hE1325, hI1327, h1107, z1108, h1110, z1111, h1113, z1114, h1116, z1117, q1120, q1121, q1122, q1123, q1124, q1125, q1126, q1127, q1128, q1129, q1130, q1131, hN1255⟩
              replace hF := if_f hp1258 hF; refine wp_exit ?_; refine e_then_exit ?_; refine e_lq_eq ?_; obtain rfl := Option.some.inj hF
              exact ⟨(-1), ha.sub ⟨rfl, rfl, rfl, rfl, rfl, trivial⟩, hE1132, (show InI (-1) from by decide), h1107, z1108, h1110, z1111, h1113, z1114, q1120, q1121, q1123, q1124, q1126, q1127, (LK_inr hN1255).symm⟩
          rintro a w1231 ⟨i1241, ha, hE1254, hI1242, h1233, z1234, h1236, z1237, h1239, z1240, q1243, q1244, q1245, q1246, q1247, q1248, rfl⟩
          have hF : F_impl_OrderBy_k3 l493 l502 u505 i1241 = some _ := hK1251; clear hK1251; unfold F_impl_OrderBy_k3 at hF
          refine e_then ?_; refine wp_seq ?_; refine wp_seq ?_; refine wp_region_lit ?_; refine op_g ha rfl (g_move rfl) ?_; clear ha a; intro a ha; refine op_g ha rfl (g_lss rfl rfl) ?_; clear ha a; intro a ha; refine wpList_nil ?_; replace ha := ha.sub (σ' := [(5, v494), (6, vqr1o4_1), (7, v503), (8, (.int .u32 (BitVec.toNat u505 : Int))), (9, (.int .i64 i1241)), (49, (.bool (decide (i1241 < 0))))]) ⟨rfl, rfl, rfl, rfl, rfl, rfl, trivial⟩; refine e_then ?_; refine c_cond (i1241 < 0) ha rfl (decide_eq_true_iff) (fun hp1329 => ?_) (fun hp1329 => ?_)
          · replace hF := if_t hp1329 hF
            refine wp_seq ?_; refine wp_region_lit ?_; refine op_g ha rfl (g_assign rfl) ?_; clear ha a; intro a ha; refine wpList_nil ?_; replace ha := ha.sub (σ' := [(4, (.slice none 0 0))]) ⟨rfl, trivial⟩; refine e_then ?_; refine wp_ret ?_; refine e_then_ret ?_; refine e_blk_ret ?_; refine e_lq_ret ?_; refine e_then_ret ?_; obtain rfl := Option.some.inj hF
            have e1330 := LK_inr hN960; subst e1330
            have e1331 := BK_inr hK956; subst e1331
            exact f_ret1 ha rfl rfl ⟨-1, (Ow.nil (by decide)), (.inl (by decide)), hE1254⟩
          replace hF := if_f hp1329 hF; refine wp_skip ?_; refine e_then ?_; refine wp_seq ?_; refine wp_region_lit ?_; (iterate 3 refine op_g ha rfl (g_move rfl) ?_; clear ha a; intro a ha); obtain ⟨x1332, hc1333, hF⟩ := cal_some hF
          refine o_call ha rfl rfl Tryd.call34 (W_impl_eliminate h1233 hI1242 (hG.ext hE1254) (hG.ne z1234) hc1333) ?_; clear ha a; rintro v1334 w1335 ⟨rfl, h1337, hx1336⟩ a ha
          replace h1236 := h1236.nq hx1336 q1245
          replace h1239 := h1239.nq hx1336 q1247
          have hE1338 := Ext.then hE1254 hx1336 (Zn.bl z1234)
          refine wpList_nil ?_; replace ha := ha.sub (σ' := [(5, v494), (6, vqr1o4_1), (7, v503), (8, (.int .u32 (BitVec.toNat u505 : Int))), (9, (.int .i64 i1241))]) ⟨rfl, rfl, rfl, rfl, rfl, trivial⟩; refine e_then ?_; refine wp_seq ?_; refine wp_region_lit ?_; (iterate 2 refine op_g ha rfl (g_move rfl) ?_; clear ha a; intro a ha); obtain ⟨x1339, hc1340, hF⟩ := cal_some hF
          refine o_call ha rfl rfl Tryd.call31 (W_impl_one hI1242 hc1340) ?_; clear ha a; rintro v1341 w1342 ⟨rfl, hx1343⟩ a ha
          replace h1337 := h1337.ext hx1343
          replace h1236 := h1236.ext hx1343
          replace h1239 := h1239.ext hx1343
          have hE1344 := Ext.trans hE1338 hx1343
          refine op_g ha rfl (g32_andNot (m := u505) (n := x1339) rfl rfl) ?_; clear ha a; intro a ha; refine op_g ha rfl (g_assign rfl) ?_; clear ha a; intro a ha; refine wpList_nil ?_; replace ha := ha.sub (σ' := [(5, v494), (6, vqr1o4_1), (7, v503), (8, (.int .u32 (BitVec.toNat (u505 &&& ~~~x1339) : Int))), (9, (.int .i64 i1241))]) ⟨rfl, rfl, rfl, rfl, rfl, trivial⟩; refine e_then ?_; refine wp_region_lit ?_; (iterate 2 refine op_g ha rfl (g_move rfl) ?_; clear ha a; intro a ha)
          refine o_lit1 (o := true) (y := i1241) Rp.int ha rfl sl56 rfl rfl rfl ⟨rfl, hI1242, rfl⟩ ?_; clear ha a; intro v1345 w1346 h1347 hx1348 a ha
          obtain ⟨b1350, hb1350⟩ : ∃ b : Int, b = w1342.heap.size := ⟨_, rfl⟩; rw [← hb1350] at h1347
          have q1351 := zn_of hb1350
          have q1352 := Nq.new h1337.fpb q1351
          have q1353 := Nq.madeO q1351 h1337.blt
          have q1354 := Nq.new h1236.fpb q1351
          have q1355 := Nq.madeO q1351 h1236.blt
          have q1356 := Nq.new h1239.fpb q1351
          have q1357 := Nq.madeO q1351 h1239.blt
          have q1358 := Zn.upD q1351 hE1344
          replace h1337 := h1337.ext hx1348
          replace h1236 := h1236.ext hx1348
          replace h1239 := h1239.ext hx1348
          have hE1359 := Ext.trans hE1344 hx1348
          obtain ⟨hl1360, hF⟩ := app_some hF
          refine o_append ha rfl sl56 rfl rfl rfl h1239 h1347.src (Nq.nil _) hl1360 ?_; clear ha a; intro v1361 w1362 b1363 h1364 hc1365 hb1366 a ha
          replace h1364 : Ow Rp.int 3 true w1362 [] b1363 v1361 _ := h1364
          have q1368 := Nq.appY q1244 h1337.fpb hb1366
          have q1369 := Nq.appX q1247 (Nq.nil _) hb1366 h1337.blt
          have q1370 := Nq.appY q1246 h1236.fpb hb1366
          have q1371 := Nq.appX q1248 (Nq.nil _) hb1366 h1236.blt
          have q1372 := Nq.appY q1357 h1347.fpb hb1366
          have q1373 := Nq.appX q1356 (Nq.nil _) hb1366 h1347.blt
          have q1374 := Zn.appD z1240 hb1366 hE1359
          replace h1337 := h1337.nq hc1365 q1244
          replace h1236 := h1236.nq hc1365 q1246
          replace h1347 := h1347.nq hc1365 q1357
          have hE1375 := Ext.then hE1359 hc1365 (Zn.bl z1240)
          refine op_g ha rfl (g_assign rfl) ?_; clear ha a; intro a ha; refine wpList_nil ?_; replace ha := ha.sub (σ' := [(5, v494), (6, vqr1o4_1), (7, v1361), (8, (.int .u32 (BitVec.toNat (u505 &&& ~~~x1339) : Int)))]) ⟨rfl, rfl, rfl, rfl, trivial⟩; refine e_blk ?_; refine e_lq ?_; obtain rfl := Option.some.inj hF
          exact ⟨_, Nat.lt_succ_self _, x1332, (l502 ++ ([i1241])), u505 &&& ~~~x1339, v494, b495, v1361, b1363, ha.sub ⟨rfl, rfl, rfl, rfl, trivial⟩, hE1375, h1337, z1234, h1236, z1237, h1364, q1374, q1243, q1368, q1245, q1370, q1369, q1371, hN960⟩
        replace hF := if_f hp963 hF; refine wp_exit ?_; refine e_then_exit ?_; refine e_lq_eq ?_; obtain rfl := Option.some.inj hF
        exact ⟨l502, v503, b504, ha.sub ⟨rfl, trivial⟩, hE512, h500, z501, (LK_inr hN960).symm⟩
    rintro a w947 ⟨l951, v952, b953, ha, hE959, h949, z950, rfl⟩
    have hF : F_impl_OrderBy_k4 l951 = some _ := hK956; clear hK956; unfold F_impl_OrderBy_k4 at hF
    refine e_then ?_; refine wp_seq ?_; refine wp_region_lit ?_; refine op_g ha rfl (g_move rfl) ?_; clear ha a; intro a ha
    obtain ⟨fp1376, hro1377, hs1378⟩ := h949.roF
    obtain ⟨x1379, hc1380, hF⟩ := cal_some hF
    refine o_call ha rfl rfl Tryd.call35 (W_impl_wide hro1377 hc1380) ?_; clear ha a; rintro v1381 w1382 ⟨b1384, h1385, z1386, hx1383⟩ a ha
    have q1388 := Nq.new h949.fpb z1386
    have q1389 := Nq.madeO z1386 h949.blt
    replace h949 := h949.ext hx1383
    have hE1390 := Ext.trans hE959 hx1383
    have q1391 := Zn.upD z1386 hE959
    refine op_g ha rfl (g_assign rfl) ?_; clear ha a; intro a ha; refine wpList_nil ?_; replace ha := ha.sub (σ' := [(4, v1381)]) ⟨rfl, trivial⟩; refine e_then ?_; refine wp_ret ?_; obtain rfl := Option.some.inj hF
    exact f_ret1 ha rfl rfl ⟨_, h1385, q1391, hE1390⟩
  skip
  replace hB3 := hB3.ext hxqr1_1
  replace hB11 := hB11.ext hxqr1_1
  have hEqr1o5_1 := Ext.trans hE24 hxqr1_1
  refine o_lit0 Rp.int ha rfl sl56 ?_; clear ha a; intro vqr1o5_1 wqr1o5_1 hqr1o5_1 hxqr1o5_1 a ha
  obtain ⟨bqr1o5_1, hbqr1o5_1⟩ : ∃ b : Int, b = wqr1_1.heap.size := ⟨_, rfl⟩; rw [← hbqr1o5_1] at hqr1o5_1
  have qqr1o5_1 := zn_of hbqr1o5_1
  have qqr1o5_2 := Nq.new hB3.fpb qqr1o5_1
  have qqr1o5_3 := Nq.madeO qqr1o5_1 hB3.bi
  have qqr1o5_4 := Nq.new hB11.fpb qqr1o5_1
  have qqr1o5_5 := Nq.madeO qqr1o5_1 hB11.bi
  have qqr1o5_6 := Zn.upD qqr1o5_1 hEqr1o5_1
  replace hB3 := hB3.ext hxqr1o5_1
  replace hB11 := hB11.ext hxqr1o5_1
  have hEqr1o5_2 := Ext.trans hEqr1o5_1 hxqr1o5_1
  refine wpList_nil (e_sq ?_)
  refine ⟨fun _ => hxqr1o5_1, ?_⟩
  refine u_only 1 rfl (by kernel_rfl) ?_; intro wqr1o1_1 hxqr1o1_1
  replace hB3 := hB3.ext hxqr1o1_1
  replace hB11 := hB11.ext hxqr1o1_1
  replace hqr1o5_1 := hqr1o5_1.ext hxqr1o1_1
  have hEqr1o1_1 := Ext.trans hEqr1o5_2 hxqr1o1_1
  refine o_call ha rfl rfl Tryd.call27 (W_impl_netsOf (ha0_0.ext hEqr1o1_1) hcqr1o1_1) ?_; clear ha a; rintro vqr1o1_1 wqr1o1_2 ⟨bqr1o1_1, hqr1o1_1, zqr1o1_1, hxqr1o1_2⟩ a ha
  have qqr1o1_1 := Nq.new hB3.fpb zqr1o1_1
  have qqr1o1_2 := Nq.madeO zqr1o1_1 hB3.bi
  have qqr1o1_3 := Nq.new hB11.fpb zqr1o1_1
  have qqr1o1_4 := Nq.madeO zqr1o1_1 hB11.bi
  have qqr1o1_5 := Nq.new hqr1o5_1.fpb zqr1o1_1
  have qqr1o1_6 := Nq.madeO zqr1o1_1 hqr1o5_1.blt
  replace hB3 := hB3.ext hxqr1o1_2
  replace hB11 := hB11.ext hxqr1o1_2
  replace hqr1o5_1 := hqr1o5_1.ext hxqr1o1_2
  have hEqr1o1_2 := Ext.trans hEqr1o1_1 hxqr1o1_2
  have qqr1o1_7 := Zn.upD zqr1o1_1 hEqr1o1_1
  refine wpList_nil (e_sq ?_)
  refine ⟨fun _ => hxqr1o1_2, ?_⟩
  refine u_only 4 rfl (by kernel_rfl) ?_; intro wqr1o4_1 hxqr1o4_1
  replace hB3 := hB3.ext hxqr1o4_1
  replace hB11 := hB11.ext hxqr1o4_1
  replace hqr1o5_1 := hqr1o5_1.ext hxqr1o4_1
  replace hqr1o1_1 := hqr1o1_1.ext hxqr1o4_1
  have hEqr1o4_1 := Ext.trans hEqr1o1_2 hxqr1o4_1
  refine o_call ha rfl rfl Tryd.call28 (W_impl_bagMasks (ha1_0.ext hEqr1o4_1) hcqr1o4_1) ?_; clear ha a; rintro vqr1o4_1 wqr1o4_2 ⟨bqr1o4_1, hqr1o4_1, zqr1o4_1, hxqr1o4_2⟩ a ha
  have qqr1o4_1 := Nq.new hB3.fpb zqr1o4_1
  have qqr1o4_2 := Nq.madeO zqr1o4_1 hB3.bi
  have qqr1o4_3 := Nq.new hB11.fpb zqr1o4_1
  have qqr1o4_4 := Nq.madeO zqr1o4_1 hB11.bi
  have qqr1o4_5 := Nq.new hqr1o5_1.fpb zqr1o4_1
  have qqr1o4_6 := Nq.madeO zqr1o4_1 hqr1o5_1.blt
  have qqr1o4_7 := Nq.new hqr1o1_1.fpb zqr1o4_1
  have qqr1o4_8 := Nq.madeO zqr1o4_1 hqr1o1_1.blt
  replace hB3 := hB3.ext hxqr1o4_2
  replace hB11 := hB11.ext hxqr1o4_2
  replace hqr1o5_1 := hqr1o5_1.ext hxqr1o4_2
  replace hqr1o1_1 := hqr1o1_1.ext hxqr1o4_2
  have hEqr1o4_2 := Ext.trans hEqr1o4_1 hxqr1o4_2
  have qqr1o4_9 := Zn.upD zqr1o4_1 hEqr1o4_1
  refine wpList_nil (e_sq ?_)
  refine ⟨fun _ => hxqr1o4_2, ?_⟩
  refine u_g 6 rfl (by kernel_rfl) (want0 _) ha rfl (g_assign rfl) ?_; clear ha a; intro a ha; refine u_g 7 rfl (by kernel_rfl) (want0 _) ha rfl (g_assign rfl) ?_; clear ha a; intro a ha; refine u_g 8 rfl (by kernel_rfl) (want0 _) ha rfl (g_assign rfl) ?_; clear ha a; intro a ha
  refine u_done (by kernel_rfl) ?_; intro w26 hx27
  replace hB3 := hB3.ext hx27
  replace hB11 := hB11.ext hx27
  replace hqr1o5_1 := hqr1o5_1.ext hx27
  replace hqr1o1_1 := hqr1o1_1.ext hx27
  replace hqr1o4_1 := hqr1o4_1.ext hx27
  have hE28 := Ext.trans hEqr1o4_2 hx27
  replace ha := ha.sub (σ' := [(5, vqr1o1_1), (6, vqr1o4_1), (7, vqr1o5_1)]) ⟨rfl, rfl, rfl, trivial⟩; refine e_then ?_; refine wp_seq ?_; refine wp_seq ?_; refine wp_region_lit ?_; refine op_g ha rfl (g_move rfl) ?_; clear ha a; intro a ha
  obtain ⟨fp29, hro30, hs31⟩ := hqr1o1_1.roF
  obtain ⟨x32, hc33, hF⟩ := cal_some hF
  refine o_call ha rfl rfl Tryd.call29 (W_impl_nets_all hro30 hc33) ?_; clear ha a; rintro v34 w35 ⟨rfl, hx36⟩ a ha
  replace hqr1o5_1 := hqr1o5_1.ext hx36
  replace hqr1o1_1 := hqr1o1_1.ext hx36
  replace hqr1o4_1 := hqr1o4_1.ext hx36
  have hE37 := Ext.trans hE28 hx36
  refine op_g ha rfl (g_assign rfl) ?_; clear ha a; intro a ha; refine wpList_nil ?_; replace ha := ha.sub (σ' := [(5, vqr1o1_1), (6, vqr1o4_1), (7, vqr1o5_1), (8, (.int .u32 (BitVec.toNat x32 : Int)))]) ⟨rfl, rfl, rfl, rfl, trivial⟩; refine e_then ?_; obtain ⟨o954, ho955, hK956⟩ := bnd_some hF
  obtain ⟨n957, hn958⟩ := lp_some ho955; clear ho955
  refine c_loop (fun a w => ∃ (l951 : (List Int)) (v952 : Value) (b953 : Int), Fr 64 [(7, v952)] a ∧ Chg [] W w ∧ Ow Rp.int 3 true w [] b953 v952 l951 ∧ Zn W b953 ∧ o954 = .inl l951) (fun n a w => ∃ (l493 : (List (BitVec 32))) (l502 : (List Int)) (u505 : BitVec 32) (v494 : Value) (b495 : Int) (v503 : Value) (b504 : Int), Fr 64 [(5, v494), (6, vqr1o4_1), (7, v503), (8, (.int .u32 (BitVec.toNat u505 : Int)))] a ∧ Chg [] W w ∧ Ow Rp.u32 58 true w [] b495 v494 l493 ∧ Zn W b495 ∧ Ow Rp.u32 58 true w [] bqr1o4_1 vqr1o4_1 xqr1o4_1 ∧ Zn W bqr1o4_1 ∧ Ow Rp.int 3 true w [] b504 v503 l502 ∧ Zn W b504 ∧ Nq (bl b495 ++ []) bqr1o4_1 ∧ Nq (bl b495 ++ []) b504 ∧ Nq (bl bqr1o4_1 ++ []) b495 ∧ Nq (bl bqr1o4_1 ++ []) b504 ∧ Nq (bl b504 ++ []) b495 ∧ Nq (bl b504 ++ []) bqr1o4_1 ∧ lpN (fun s => F_impl_OrderBy_l1 xqr1o4_1 s.1 s.2.1 s.2.2) n (l493, l502, u505) = some o954) n957 ⟨xqr1o1_1, ([] : (List Int)), x32, vqr1o1_1, bqr1o1_1, vqr1o5_1, bqr1o5_1, ha.sub ⟨rfl, rfl, rfl, rfl, trivial⟩, hE37, hqr1o1_1, qqr1o1_7, hqr1o4_1, qqr1o4_9, hqr1o5_1, qqr1o5_6, qqr1o4_7, qqr1o1_6, qqr1o4_8, qqr1o4_6, qqr1o1_5, qqr1o4_5, hn958⟩ ?_ ?_
  · rintro m962 a w489 ⟨l493, l502, u505, v494, b495, v503, b504, ha, hE512, h491, z492, h497, z498, h500, z501, q506, q507, q508, q509, q510, q511, hF⟩
    cases m962 with
    | zero => exact (lpN_zero hF).elim
    | succ m962 =>
      obtain ⟨z961, hF, hN960⟩ := lpN_succ hF
      have hF : F_impl_OrderBy_l1 xqr1o4_1 l493 l502 u505 = some z961 := hF; unfold F_impl_OrderBy_l1 at hF
      refine wp_seq ?_; refine wp_seq ?_; refine wp_region_lit ?_; refine op_g ha rfl (g_move rfl) ?_; clear ha a; intro a ha; refine op_g ha rfl (g32_neq (m := u505) (n := (0#32)) rfl rfl) ?_; clear ha a; intro a ha; refine wpList_nil ?_; replace ha := ha.sub (σ' := [(5, v494), (6, vqr1o4_1), (7, v503), (8, (.int .u32 (BitVec.toNat u505 : Int))), (26, (.bool (decide (u505 ≠ (0#32)))))]) ⟨rfl, rfl, rfl, rfl, rfl, trivial⟩; refine e_then ?_; refine c_cond (u505 ≠ (0#32)) ha rfl (decide_eq_true_iff) (fun hp963 => ?_) (fun hp963 => ?_)
      · replace hF := if_t hp963 hF
        refine wp_skip ?_; refine e_then ?_; refine wp_block ?_; refine wp_seq ?_; refine wp_region_lit ?_; refine op_g ha rfl (g_assign rfl) ?_; clear ha a; intro a ha; refine wpList_nil ?_; replace ha := ha.sub (σ' := [(5, v494), (6, vqr1o4_1), (7, v503), (8, (.int .u32 (BitVec.toNat u505 : Int))), (9, (.int .i64 (-1)))]) ⟨rfl, rfl, rfl, rfl, rfl, trivial⟩; refine e_then ?_; refine wp_seq ?_; refine wp_seq ?_; refine wp_region_lit ?_; refine op_g ha rfl (g_move rfl) ?_; clear ha a; intro a ha; obtain ⟨x964, hc965, hF⟩ := cal_some hF
        refine o_call ha rfl rfl Tryd.call30 (W_impl_vset_list (hG.ext hE512) hc965) ?_; clear ha a; rintro v966 w967 ⟨b969, h970, z971, hx968⟩ a ha
        have q973 := Nq.new h491.fpb z971
        have q974 := Nq.madeO z971 h491.blt
        have q975 := Nq.new h497.fpb z971
        have q976 := Nq.madeO z971 h497.blt
        have q977 := Nq.new h500.fpb z971
        have q978 := Nq.madeO z971 h500.blt
        replace h491 := h491.ext hx968
        replace h497 := h497.ext hx968
        replace h500 := h500.ext hx968
        have hE979 := Ext.trans hE512 hx968
        have q980 := Zn.upD z971 hE512
        refine op_g ha rfl (g_lenO sl56.und h970 rfl) ?_; clear ha a; intro a ha; refine op_g ha rfl (g_move rfl) ?_; clear ha a; intro a ha; refine wpList_nil ?_; replace ha := ha.sub (σ' := [(5, v494), (6, vqr1o4_1), (7, v503), (8, (.int .u32 (BitVec.toNat u505 : Int))), (9, (.int .i64 (-1))), (28, v966), (29, (.int .i64 (x964.length : Int))), (30, (.int .i64 0))]) ⟨rfl, rfl, rfl, rfl, rfl, rfl, rfl, rfl, trivial⟩; refine e_then ?_; obtain ⟨o1249, ho1250, hK1251⟩ := bnd_some hF
        obtain ⟨n1252, hn1253⟩ := lp_some ho1250; clear ho1250
        refine c_loop (fun a w => ∃ (i1241 : Int), Fr 64 [(5, v494), (6, vqr1o4_1), (7, v503), (8, (.int .u32 (BitVec.toNat u505 : Int))), (9, (.int .i64 i1241))] a ∧ Chg [] W w ∧ InI i1241 ∧ Ow Rp.u32 58 true w [] b495 v494 l493 ∧ Zn W b495 ∧ Ow Rp.u32 58 true w [] bqr1o4_1 vqr1o4_1 xqr1o4_1 ∧ Zn W bqr1o4_1 ∧ Ow Rp.int 3 true w [] b504 v503 l502 ∧ Zn W b504 ∧ Nq (bl b495 ++ []) bqr1o4_1 ∧ Nq (bl b495 ++ []) b504 ∧ Nq (bl bqr1o4_1 ++ []) b495 ∧ Nq (bl bqr1o4_1 ++ []) b504 ∧ Nq (bl b504 ++ []) b495 ∧ Nq (bl b504 ++ []) bqr1o4_1 ∧ o1249 = .inl i1241) (fun n a w => ∃ (i1118 : Int), Fr 64 [(5, v494), (6, vqr1o4_1), (7, v503), (8, (.int .u32 (BitVec.toNat u505 : Int))), (9, (.int .i64 (-1))), (28, v966), (29, (.int .i64 (x964.length : Int))), (30, (.int .i64 i1118))] a ∧ Chg [] W w ∧ InI i1118 ∧ Ow Rp.u32 58 true w [] b495 v494 l493 ∧ Zn W b495 ∧ Ow Rp.u32 58 true w [] bqr1o4_1 vqr1o4_1 xqr1o4_1 ∧ Zn W bqr1o4_1 ∧ Ow Rp.int 3 true w [] b504 v503 l502 ∧ Zn W b504 ∧ Ow Rp.int 3 true w [] b969 v966 x964 ∧ Zn W b969 ∧ Nq (bl b495 ++ []) bqr1o4_1 ∧ Nq (bl b495 ++ []) b504 ∧ Nq (bl b495 ++ []) b969 ∧ Nq (bl bqr1o4_1 ++ []) b495 ∧ Nq (bl bqr1o4_1 ++ []) b504 ∧ Nq (bl bqr1o4_1 ++ []) b969 ∧ Nq (bl b504 ++ []) b495 ∧ Nq (bl b504 ++ []) bqr1o4_1 ∧ Nq (bl b504 ++ []) b969 ∧ Nq (bl b969 ++ []) b495 ∧ Nq (bl b969 ++ []) bqr1o4_1 ∧ Nq (bl b969 ++ []) b504 ∧ lpN (fun s => F_impl_OrderBy_l2 xqr1o4_1 l493 u505 x964 s) n i1118 = some o1249) n1252 ⟨0, ha.sub ⟨rfl, rfl, rfl, rfl, rfl, rfl, rfl, rfl, trivial⟩, hE979, (show InI 0 from by decide), h491, z492, h497, z498, h500, z501, h970, q980, q506, q507, q973, q508, q509, q975, q510, q511, q977, q974, q976, q978, hn1253⟩ ?_ ?_
        · rintro m1257 a w1105 ⟨i1118, ha, hE1132, hI1119, h1107, z1108, h1110, z1111, h1113, z1114, h1116, z1117, q1120, q1121, q1122, q1123, q1124, q1125, q1126, q1127, q1128, q1129, q1130, q1131, hF⟩
          cases m1257 with
          | zero => exact (lpN_zero hF).elim
          | succ m1257 =>
            obtain ⟨z1256, hF, hN1255⟩ := lpN_succ hF
            have hF : F_impl_OrderBy_l2 xqr1o4_1 l493 u505 x964 i1118 = some z1256 := hF; unfold F_impl_OrderBy_l2 at hF
            refine wp_seq ?_; refine wp_region_lit ?_; refine op_g ha rfl (g_lss rfl rfl) ?_; clear ha a; intro a ha; refine wpList_nil ?_; replace ha := ha.sub (σ' := [(5, v494), (6, vqr1o4_1), (7, v503), (8, (.int .u32 (BitVec.toNat u505 : Int))), (9, (.int .i64 (-1))), (28, v966), (29, (.int .i64 (x964.length : Int))), (30, (.int .i64 i1118)), (31, (.bool (decide (i1118 < (x964.length : Int)))))]) ⟨rfl, rfl, rfl, rfl, rfl, rfl, rfl, rfl, rfl, trivial⟩; refine e_then ?_; refine wp_seq ?_; refine c_cond (i1118 < (x964.length : Int)) ha rfl (decide_eq_true_iff) (fun hp1258 => ?_) (fun hp1258 => ?_)
            · replace hF := if_t hp1258 hF
              refine wp_skip ?_; refine e_then ?_; refine wp_seq ?_; refine wp_block ?_; refine wp_seq ?_; refine wp_region_lit ?_; obtain ⟨x1259, g1260, gx1261, hF⟩ := idx_some hF
              obtain ⟨p1262, cs1263, f1264, hf1265, hpb1266, hat1267, hr1268, hi1269⟩ := h1116.at g1260 gx1261
              obtain ⟨rfl, hI1270, rfl⟩ := hr1268
              refine op_g ha rfl (hi1269.gives sl56 rfl rfl) ?_; clear ha a; intro a ha; refine op_g ha rfl (g_load Tryd.isAgg3 rfl hat1267.one) ?_; clear ha a; intro a ha; refine op_g ha rfl (g_assign rfl) ?_; clear ha a; intro a ha; refine wpList_nil ?_; replace ha := ha.sub (σ' := [(5, v494), (6, vqr1o4_1), (7, v503), (8, (.int .u32 (BitVec.toNat u505 : Int))), (9, (.int .i64 (-1))), (11, (.int .i64 x1259)), (28, v966), (29, (.int .i64 (x964.length : Int))), (30, (.int .i64 i1118))]) ⟨rfl, rfl, rfl, rfl, rfl, rfl, rfl, rfl, rfl, trivial⟩; refine e_then ?_; refine wp_seq ?_; refine d_region [0, 1, 2, 3, 4, 5, 6, 7, 8, 9] hmix ?_
              refine u_g 0 rfl (by kernel_rfl) (want0 _) ha rfl (g_move rfl) ?_; clear ha a; intro a ha; refine u_g 1 rfl (by kernel_rfl) (want0 _) ha rfl (g_move rfl) ?_; clear ha a; intro a ha; obtain ⟨x1271, g1272, gx1273, hF⟩ := idx_some hF
              obtain ⟨p1274, cs1275, f1276, hf1277, hpb1278, hat1279, hr1280, hi1281⟩ := h1107.at g1272 gx1273
              obtain ⟨rfl, rfl⟩ := hr1280
              refine u_g 2 rfl (by kernel_rfl) (want0 _) ha rfl (hi1281.gives sl53 rfl rfl) ?_; clear ha a; intro a ha; refine u_g 3 rfl (by kernel_rfl) (want0 _) ha rfl (g_load Tryd.isAgg58 rfl hat1279.one) ?_; clear ha a; intro a ha; refine u_g 4 rfl (by kernel_rfl) (want0 _) ha rfl (g_move rfl) ?_; clear ha a; intro a ha; refine u_g 5 rfl (by kernel_rfl) (want0 _) ha rfl (g32_and (m := x1271) (n := u505) rfl rfl) ?_; clear ha a; intro a ha; refine u_g 6 rfl (by kernel_rfl) (want0 _) ha rfl (g_move rfl) ?_; clear ha a; intro a ha; obtain ⟨x1284, hc1285, hF⟩ := cal_some hF; refine u_call (.int .u32 (BitVec.toNat x1284 : Int)) 7 rfl (by kernel_rfl) (want0 _) ha rfl rfl Tryd.call31 (fun w1283 hx1282 => W_impl_one hI1270 hc1285) (fun _ _ _ h => ⟨h.1, h.2⟩) ?_; clear ha a; intro a ha
              refine u_g 8 rfl (by kernel_rfl) (want0 _) ha rfl (g32_or (m := (x1271 &&& u505)) (n := x1284) rfl rfl) ?_; clear ha a; intro a ha
              refine u_only 9 rfl (by kernel_rfl) ?_; intro w1286 hx1287
              replace h1107 := h1107.ext hx1287
              replace h1110 := h1110.ext hx1287
              replace h1113 := h1113.ext hx1287
              replace h1116 := h1116.ext hx1287
              have hE1288 := Ext.trans hE1132 hx1287
              refine o_alloc (cs := [(.int .u32 (BitVec.toNat (0#32) : Int))]) ha rfl Tryd.zeroValue58 rfl ?_; clear ha a; intro b1289 w1290 hB1291 hx1292 hlo1293 a ha
              have q1294 := Zn.one hlo1293
              have q1295 := Nq.new h1107.fpb q1294
              have q1296 := Nq.made1 hlo1293 h1107.blt
              have q1297 := Nq.new h1110.fpb q1294
              have q1298 := Nq.made1 hlo1293 h1110.blt
              have q1299 := Nq.new h1113.fpb q1294
              have q1300 := Nq.made1 hlo1293 h1113.blt
              have q1301 := Nq.new h1116.fpb q1294
              have q1302 := Nq.made1 hlo1293 h1116.blt
              have q1303 := Zn.upD q1294 hE1288
              replace h1107 := h1107.ext hx1292
              replace h1110 := h1110.ext hx1292
              replace h1113 := h1113.ext hx1292
              replace h1116 := h1116.ext hx1292
              have hE1304 := Ext.trans hE1288 hx1292
              refine wpList_nil (e_sq ?_)
              refine ⟨fun _ => hx1292, ?_⟩
              refine u_only 10 rfl (by kernel_rfl) ?_; intro w1305 hx1306
              replace h1107 := h1107.ext hx1306
              replace h1110 := h1110.ext hx1306
              replace h1113 := h1113.ext hx1306
              replace h1116 := h1116.ext hx1306
              replace hB1291 := hB1291.ext hx1306
              have hE1307 := Ext.trans hE1304 hx1306
              refine o_storeB ha hB1291 Tryd.sizeOf58 rfl rfl rfl rfl (Nat.le_of_ble_eq_true rfl) ?_; intro w1308 hB1309 hc1310
              replace hc1310 := hc1310.bl
              replace hB1309 : Bx w1308 b1289 [(.int .u32 (BitVec.toNat ((x1271 &&& u505) ||| x1284) : Int))] 58 := hB1309
              replace h1107 := h1107.nq hc1310 q1295
              replace h1110 := h1110.nq hc1310 q1297
              replace h1113 := h1113.nq hc1310 q1299
              replace h1116 := h1116.nq hc1310 q1301
              have hE1311 := Ext.then hE1307 hc1310 (Zn.bl q1303)
              refine wpList_nil (e_sq ?_)
              refine ⟨fun h => absurd h (by decide), ?_⟩
              refine u_done (by kernel_rfl) ?_; intro w1312 hx1313
              replace h1107 := h1107.ext hx1313
              replace h1110 := h1110.ext hx1313
              replace h1113 := h1113.ext hx1313
              replace h1116 := h1116.ext hx1313
              replace hB1309 := hB1309.ext hx1313
              have hE1314 := Ext.trans hE1311 hx1313
              replace ha := ha.sub (σ' := [(5, v494), (6, vqr1o4_1), (7, v503), (8, (.int .u32 (BitVec.toNat u505 : Int))), (9, (.int .i64 (-1))), (11, (.int .i64 x1259)), (12, (.pointer (some ⟨b1289, 0, none⟩))), (28, v966), (29, (.int .i64 (x964.length : Int))), (30, (.int .i64 i1118))]) ⟨rfl, rfl, rfl, rfl, rfl, rfl, rfl, rfl, rfl, rfl, trivial⟩; refine e_then ?_; refine wp_seq ?_; refine wp_region_lit ?_; refine op_g ha rfl (g_move rfl) ?_; clear ha a; intro a ha; refine op_g ha rfl (g_func rfl rfl) ?_; clear ha a; intro a ha
              obtain ⟨fp1315, hro1316, hs1317⟩ := h1110.roF
              obtain ⟨x1320, hc1321, hF⟩ := cal_some hF
              refine o_call ha rfl rfl Tryd.call32 (W_slices_ContainsFunc_implvset hro1316 (by intro _ hy1319 z1318 r hr; exact W_impl_OrderBy_1 (hB1309.ext hy1319) hr) Tryd.call33 hc1321) ?_; clear ha a; rintro v1322 w1323 ⟨rfl, hx1324⟩ a ha
              replace h1107 := h1107.ext hx1324
              replace h1110 := h1110.ext hx1324
              replace h1113 := h1113.ext hx1324
              replace h1116 := h1116.ext hx1324
              replace hB1309 := hB1309.ext hx1324
              have hE1325 := Ext.trans hE1314 hx1324
              refine wpList_nil ?_; replace ha := ha.sub (σ' := [(5, v494), (6, vqr1o4_1), (7, v503), (8, (.int .u32 (BitVec.toNat u505 : Int))), (9, (.int .i64 (-1))), (11, (.int .i64 x1259)), (28, v966), (29, (.int .i64 (x964.length : Int))), (30, (.int .i64 i1118)), (45, (.bool x1320))]) ⟨rfl, rfl, rfl, rfl, rfl, rfl, rfl, rfl, rfl, rfl, trivial⟩; refine e_then ?_; refine c_cond (x1320 = true) ha rfl (Iff.rfl) (fun hp1326 => ?_) (fun hp1326 => ?_)
              · replace hF := if_t hp1326 hF
                refine wp_seq ?_; refine wp_region_lit ?_; refine op_g ha rfl (g_move rfl) ?_; clear ha a; intro a ha; refine op_g ha rfl (g_assign rfl) ?_; clear ha a; intro a ha; refine wpList_nil ?_; replace ha := ha.sub (σ' := [(5, v494), (6, vqr1o4_1), (7, v503), (8, (.int .u32 (BitVec.toNat u505 : Int))), (9, (.int .i64 x1259))]) ⟨rfl, rfl, rfl, rfl, rfl, trivial⟩; refine e_then ?_; refine wp_exit ?_; refine e_blk_ne rfl ?_; refine e_then_exit ?_; refine e_lq_eq ?_; obtain rfl := Option.some.inj hF
                exact ⟨x1259, ha.sub ⟨rfl, rfl, rfl, rfl, rfl, trivial⟩, hE1325, hI1270, h1107, z1108, h1110, z1111, h1113, z1114, q1120, q1121, q1123, q1124, q1126, q1127, (LK_inr hN1255).symm⟩
              replace hF := if_f hp1326 hF; refine wp_skip ?_; refine e_blk ?_; refine e_then ?_; refine wp_region_lit ?_; obtain ⟨hI1327, hF⟩ := ck_some hF; refine op_g ha rfl (g_add rfl rfl hI1327) ?_; clear ha a; intro a ha; refine op_g ha rfl (g_move rfl) ?_; clear ha a; intro a ha; refine wpList_nil ?_; replace ha := ha.sub (σ' := [(5, v494), (6, vqr1o4_1), (7, v503), (8, (.int .u32 (BitVec.toNat u505 : Int))), (9, (.int .i64 (-1))), (28, v966), (29, (.int .i64 (x964.length : Int))), (30, (.int .i64 (i1118 + 1)))]) ⟨rfl, rfl, rfl, rfl, rfl, rfl, rfl, rfl, trivial⟩; refine e_lq ?_; obtain rfl := Option.some.inj hF
              exact ⟨_, Nat.lt_succ_self _, i1118 + 1, ha.sub ⟨rfl, rfl, rfl, rfl, rfl, rfl, rfl, rfl, trivial⟩, hE1325, hI1327, h1107, z1108, h1110, z1111, h1113, z1114, h1116, z1117, q1120, q1121, q1122, q1123, q1124, q1125, q1126, q1127, q1128, q1129, q1130, q1131, hN1255⟩
            replace hF := if_f hp1258 hF; refine wp_exit ?_; refine e_then_exit ?_; refine e_lq_eq ?_; obtain rfl := Option.some.inj hF
            exact ⟨(-1), ha.sub ⟨rfl, rfl, rfl, rfl, rfl, trivial⟩, hE1132, (show InI (-1) from by decide), h1107, z1108, h1110, z1111, h1113, z1114, q1120, q1121, q1123, q1124, q1126, q1127, (LK_inr hN1255).symm⟩
        rintro a w1231 ⟨i1241, ha, hE1254, hI1242, h1233, z1234, h1236, z1237, h1239, z1240, q1243, q1244, q1245, q1246, q1247, q1248, rfl⟩
        have hF : F_impl_OrderBy_k3 l493 l502 u505 i1241 = some _ := hK1251; clear hK1251; unfold F_impl_OrderBy_k3 at hF
        refine e_then ?_; refine wp_seq ?_; refine wp_seq ?_; refine wp_region_lit ?_; refine op_g ha rfl (g_move rfl) ?_; clear ha a; intro a ha; refine op_g ha rfl (g_lss rfl rfl) ?_; clear ha a; intro a ha; refine wpList_nil ?_; replace ha := ha.sub (σ' := [(5, v494), (6, vqr1o4_1), (7, v503), (8, (.int .u32 (BitVec.toNat u505 : Int))), (9, (.int .i64 i1241)), (49, (.bool (decide (i1241 < 0))))]) ⟨rfl, rfl, rfl, rfl, rfl, rfl, trivial⟩; refine e_then ?_; refine c_cond (i1241 < 0) ha rfl (decide_eq_true_iff) (fun hp1329 => ?_) (fun hp1329 => ?_)
        · replace hF := if_t hp1329 hF
          refine wp_seq ?_; refine wp_region_lit ?_; refine op_g ha rfl (g_assign rfl) ?_; clear ha a; intro a ha; refine wpList_nil ?_; replace ha := ha.sub (σ' := [(4, (.slice none 0 0))]) ⟨rfl, trivial⟩; refine e_then ?_; refine wp_ret ?_; refine e_then_ret ?_; refine e_blk_ret ?_; refine e_lq_ret ?_; refine e_then_ret ?_; obtain rfl := Option.some.inj hF
          have e1330 := LK_inr hN960; subst e1330
          have e1331 := BK_inr hK956; subst e1331
          exact f_ret1 ha rfl rfl ⟨-1, (Ow.nil (by decide)), (.inl (by decide)), hE1254⟩
        replace hF := if_f hp1329 hF; refine wp_skip ?_; refine e_then ?_; refine wp_seq ?_; refine wp_region_lit ?_; (iterate 3 refine op_g ha rfl (g_move rfl) ?_; clear ha a; intro a ha); obtain ⟨x1332, hc1333, hF⟩ := cal_some hF
        refine o_call ha rfl rfl Tryd.call34 (W_impl_eliminate h1233 hI1242 (hG.ext hE1254) (hG.ne z1234) hc1333) ?_; clear ha a; rintro v1334 w1335 ⟨rfl, h1337, hx1336⟩ a ha
        replace h1236 := h1236.nq hx1336 q1245
        replace h1239 := h1239.nq hx1336 q1247
        have hE1338 := Ext.then hE1254 hx1336 (Zn.bl z1234)
        refine wpList_nil ?_; replace ha := ha.sub (σ' := [(5, v494), (6, vqr1o4_1), (7, v503), (8, (.int .u32 (BitVec.toNat u505 : Int))), (9, (.int .i64 i1241))]) ⟨rfl, rfl, rfl, rfl, rfl, trivial⟩; refine e_then ?_; refine wp_seq ?_; refine wp_region_lit ?_; (iterate 2 refine op_g ha rfl (g_move rfl) ?_; clear ha a; intro a ha); obtain ⟨x1339, hc1340, hF⟩ := cal_some hF
        refine o_call ha rfl rfl Tryd.call31 (W_impl_one hI1242 hc1340) ?_; clear ha a; rintro v1341 w1342 ⟨rfl, hx1343⟩ a ha
        replace h1337 := h1337.ext hx1343
        replace h1236 := h1236.ext hx1343
        replace h1239 := h1239.ext hx1343
        have hE1344 := Ext.trans hE1338 hx1343
        refine op_g ha rfl (g32_andNot (m := u505) (n := x1339) rfl rfl) ?_; clear ha a; intro a ha; refine op_g ha rfl (g_assign rfl) ?_; clear ha a; intro a ha; refine wpList_nil ?_; replace ha := ha.sub (σ' := [(5, v494), (6, vqr1o4_1), (7, v503), (8, (.int .u32 (BitVec.toNat (u505 &&& ~~~x1339) : Int))), (9, (.int .i64 i1241))]) ⟨rfl, rfl, rfl, rfl, rfl, trivial⟩; refine e_then ?_; refine wp_region_lit ?_; (iterate 2 refine op_g ha rfl (g_move rfl) ?_; clear ha a; intro a ha)
        refine o_lit1 (o := true) (y := i1241) Rp.int ha rfl sl56 rfl rfl rfl ⟨rfl, hI1242, rfl⟩ ?_; clear ha a; intro v1345 w1346 h1347 hx1348 a ha
        obtain ⟨b1350, hb1350⟩ : ∃ b : Int, b = w1342.heap.size := ⟨_, rfl⟩; rw [← hb1350] at h1347
        have q1351 := zn_of hb1350
        have q1352 := Nq.new h1337.fpb q1351
        have q1353 := Nq.madeO q1351 h1337.blt
        have q1354 := Nq.new h1236.fpb q1351
        have q1355 := Nq.madeO q1351 h1236.blt
        have q1356 := Nq.new h1239.fpb q1351
        have q1357 := Nq.madeO q1351 h1239.blt
        have q1358 := Zn.upD q1351 hE1344
        replace h1337 := h1337.ext hx1348
        replace h1236 := h1236.ext hx1348
        replace h1239 := h1239.ext hx1348
        have hE1359 := Ext.trans hE1344 hx1348
        obtain ⟨hl1360, hF⟩ := app_some hF
        refine o_append ha rfl sl56 rfl rfl rfl h1239 h1347.src (Nq.nil _) hl1360 ?_; clear ha a; intro v1361 w1362 b1363 h1364 hc1365 hb1366 a ha
        replace h1364 : Ow Rp.int 3 true w1362 [] b1363 v1361 _ := h1364
        have q1368 := Nq.appY q1244 h1337.fpb hb1366
        have q1369 := Nq.appX q1247 (Nq.nil _) hb1366 h1337.blt
        have q1370 := Nq.appY q1246 h1236.fpb hb1366
        have q1371 := Nq.appX q1248 (Nq.nil _) hb1366 h1236.blt
        have q1372 := Nq.appY q1357 h1347.fpb hb1366
        have q1373 := Nq.appX q1356 (Nq.nil _) hb1366 h1347.blt
        have q1374 := Zn.appD z1240 hb1366 hE1359
        replace h1337 := h1337.nq hc1365 q1244
        replace h1236 := h1236.nq hc1365 q1246
        replace h1347 := h1347.nq hc1365 q1357
        have hE1375 := Ext.then hE1359 hc1365 (Zn.bl z1240)
        refine op_g ha rfl (g_assign rfl) ?_; clear ha a; intro a ha; refine wpList_nil ?_; replace ha := ha.sub (σ' := [(5, v494), (6, vqr1o4_1), (7, v1361), (8, (.int .u32 (BitVec.toNat (u505 &&& ~~~x1339) : Int)))]) ⟨rfl, rfl, rfl, rfl, trivial⟩; refine e_blk ?_; refine e_lq ?_; obtain rfl := Option.some.inj hF
        exact ⟨_, Nat.lt_succ_self _, x1332, (l502 ++ ([i1241])), u505 &&& ~~~x1339, v494, b495, v1361, b1363, ha.sub ⟨rfl, rfl, rfl, rfl, trivial⟩, hE1375, h1337, z1234, h1236, z1237, h1364, q1374, q1243, q1368, q1245, q1370, q1369, q1371, hN960⟩
      replace hF := if_f hp963 hF; refine wp_exit ?_; refine e_then_exit ?_; refine e_lq_eq ?_; obtain rfl := Option.some.inj hF
      exact ⟨l502, v503, b504, ha.sub ⟨rfl, trivial⟩, hE512, h500, z501, (LK_inr hN960).symm⟩
  rintro a w947 ⟨l951, v952, b953, ha, hE959, h949, z950, rfl⟩
  have hF : F_impl_OrderBy_k4 l951 = some _ := hK956; clear hK956; unfold F_impl_OrderBy_k4 at hF
  refine e_then ?_; refine wp_seq ?_; refine wp_region_lit ?_; refine op_g ha rfl (g_move rfl) ?_; clear ha a; intro a ha
  obtain ⟨fp1376, hro1377, hs1378⟩ := h949.roF
  obtain ⟨x1379, hc1380, hF⟩ := cal_some hF
  refine o_call ha rfl rfl Tryd.call35 (W_impl_wide hro1377 hc1380) ?_; clear ha a; rintro v1381 w1382 ⟨b1384, h1385, z1386, hx1383⟩ a ha
  have q1388 := Nq.new h949.fpb z1386
  have q1389 := Nq.madeO z1386 h949.blt
  replace h949 := h949.ext hx1383
  have hE1390 := Ext.trans hE959 hx1383
  have q1391 := Zn.upD z1386 hE959
  refine op_g ha rfl (g_assign rfl) ?_; clear ha a; intro a ha; refine wpList_nil ?_; replace ha := ha.sub (σ' := [(4, v1381)]) ⟨rfl, trivial⟩; refine e_then ?_; refine wp_ret ?_; obtain rfl := Option.some.inj hF
  exact f_ret1 ha rfl rfl ⟨_, h1385, q1391, hE1390⟩
set_option maxHeartbeats 2000000 in
theorem W_laws_eqInt64S {W : World} {va0 : Value} {fa0 : List Nat} {a0 : (List Int)} (ha0 : Ro Rp.int W fa0 va0 a0) {va1 : Value} {fa1 : List Nat} {a1 : (List Int)} (ha1 : Ro Rp.int W fa1 va1 a1) {r : Bool} (hF : F_laws_eqInt64S a0 a1 = some r) :
    Calls Tryd.prog 10 [va0, va1].toArray W (Ret fun u w' => u = .bool r ∧ Ext W w') := by
  refine f_enter Tryd.func10 rfl Tryd.ntmps10 rfl ?_
  intro a ha
  replace ha : Fr 26 [(0, va0), (1, va1)] a := ha
  have hE : Chg [] W W := Chg.refl _ _
  unfold F_laws_eqInt64S at hF
  refine wp_seq ?_; refine wp_region_lit ?_; refine op_g ha rfl (g_assign rfl) ?_; clear ha a; intro a ha; refine wpList_nil ?_; replace ha := ha.sub (σ' := [(0, va0), (1, va1)]) ⟨rfl, rfl, trivial⟩; refine e_then ?_; refine wp_seq ?_; refine wp_seq ?_; refine wp_region_lit ?_; refine op_g ha rfl (g_move rfl) ?_; clear ha a; intro a ha; refine op_g ha rfl (g_lenR sl29.und ha0 rfl) ?_; clear ha a; intro a ha; refine op_g ha rfl (g_move rfl) ?_; clear ha a; intro a ha; refine op_g ha rfl (g_lenR sl29.und ha1 rfl) ?_; clear ha a; intro a ha; refine op_g ha rfl (g_neq rfl rfl) ?_; clear ha a; intro a ha
  refine wpList_nil ?_; replace ha := ha.sub (σ' := [(0, va0), (1, va1), (10, (.bool (decide ((a0.length : Int) ≠ (a1.length : Int)))))]) ⟨rfl, rfl, rfl, trivial⟩; refine e_then ?_; refine c_cond ((a0.length : Int) ≠ (a1.length : Int)) ha rfl (decide_eq_true_iff) (fun hp1 => ?_) (fun hp1 => ?_)
  · replace hF := if_t hp1 hF
    refine wp_seq ?_; refine wp_region_lit ?_; refine op_g ha rfl (g_assign rfl) ?_; clear ha a; intro a ha; refine wpList_nil ?_; replace ha := ha.sub (σ' := [(4, (.bool false))]) ⟨rfl, trivial⟩; refine e_then ?_; refine wp_ret ?_; refine e_then_ret ?_; obtain rfl := Option.some.inj hF
    exact f_ret1 ha rfl rfl ⟨rfl, hE⟩
  replace hF := if_f hp1 hF; refine wp_skip ?_; refine e_then ?_; refine wp_seq ?_; refine wp_seq ?_; refine wp_region_lit ?_; refine op_g ha rfl (g_assign rfl) ?_; clear ha a; intro a ha; refine wpList_nil ?_; replace ha := ha.sub (σ' := [(0, va0), (1, va1), (5, (.int .i64 0))]) ⟨rfl, rfl, rfl, trivial⟩; refine e_then ?_; obtain ⟨o77, ho78, hK79⟩ := bnd_some hF
  obtain ⟨n80, hn81⟩ := lp_some ho78; clear ho78
  refine c_loop (fun a w => Fr 26 [] a ∧ Chg [] W w ∧ o77 = .inl ()) (fun n a w => ∃ (i39 : Int), Fr 26 [(0, va0), (1, va1), (5, (.int .i64 i39))] a ∧ Chg [] W w ∧ InI i39 ∧ lpN (fun s => F_laws_eqInt64S_l1 a0 a1 s) n i39 = some o77) n80 ⟨0, ha.sub ⟨rfl, rfl, rfl, trivial⟩, hE, (show InI 0 from by decide), hn81⟩ ?_ ?_
  · rintro m85 a w38 ⟨i39, ha, hE41, hI40, hF⟩
    cases m85 with
    | zero => exact (lpN_zero hF).elim
    | succ m85 =>
      obtain ⟨z84, hF, hN83⟩ := lpN_succ hF
      have hF : F_laws_eqInt64S_l1 a0 a1 i39 = some z84 := hF; unfold F_laws_eqInt64S_l1 at hF
      refine wp_seq ?_; refine wp_seq ?_; refine wp_region_lit ?_; (iterate 2 refine op_g ha rfl (g_move rfl) ?_; clear ha a; intro a ha); refine op_g ha rfl (g_lenR sl29.und ha0 rfl) ?_; clear ha a; intro a ha; refine op_g ha rfl (g_lss rfl rfl) ?_; clear ha a; intro a ha; refine wpList_nil ?_; replace ha := ha.sub (σ' := [(0, va0), (1, va1), (5, (.int .i64 i39)), (14, (.bool (decide (i39 < (a0.length : Int)))))]) ⟨rfl, rfl, rfl, rfl, trivial⟩; refine e_then ?_; refine c_cond (i39 < (a0.length : Int)) ha rfl (decide_eq_true_iff) (fun hp86 => ?_) (fun hp86 => ?_)
      · replace hF := if_t hp86 hF
        refine wp_skip ?_; refine e_then ?_; refine wp_seq ?_; refine wp_block ?_; refine wp_seq ?_; refine d_quiet hmix (by kernel_rfl) ?_; (iterate 2 refine q_g ha rfl (g_move rfl) ?_; clear ha a; intro a ha); obtain ⟨x87, g88, gx89, hF⟩ := idx_some hF
        obtain ⟨p90, cs91, f92, hf93, hpb94, hat95, hr96, hi97⟩ := ha0.at g88 gx89
        obtain ⟨rfl, hI98, rfl⟩ := hr96
        refine q_g ha rfl (hi97.gives sl29 rfl rfl) ?_; clear ha a; intro a ha; refine q_g ha rfl (g_load0 hE41 Tryd.isAgg2 rfl hat95.one) ?_; clear ha a; intro a ha; (iterate 2 refine q_g ha rfl (g_move rfl) ?_; clear ha a; intro a ha); obtain ⟨x99, g100, gx101, hF⟩ := idx_some hF
        obtain ⟨p102, cs103, f104, hf105, hpb106, hat107, hr108, hi109⟩ := ha1.at g100 gx101
        obtain ⟨rfl, hI110, rfl⟩ := hr108
        refine q_g ha rfl (hi109.gives sl29 rfl rfl) ?_; clear ha a; intro a ha; refine q_g ha rfl (g_load0 hE41 Tryd.isAgg2 rfl hat107.one) ?_; clear ha a; intro a ha; refine q_g ha rfl (g_neq rfl rfl) ?_; clear ha a; intro a ha
        refine q_nil ?_; intro w111 hx112
        have hE113 := Ext.trans hE41 hx112
        replace ha := ha.sub (σ' := [(0, va0), (1, va1), (5, (.int .i64 i39)), (25, (.bool (decide (x87 ≠ x99))))]) ⟨rfl, rfl, rfl, rfl, trivial⟩; refine e_then ?_; refine c_cond (x87 ≠ x99) ha rfl (decide_eq_true_iff) (fun hp114 => ?_) (fun hp114 => ?_)
        · replace hF := if_t hp114 hF
          refine wp_seq ?_; refine wp_region_lit ?_; refine op_g ha rfl (g_assign rfl) ?_; clear ha a; intro a ha; refine wpList_nil ?_; replace ha := ha.sub (σ' := [(4, (.bool false))]) ⟨rfl, trivial⟩; refine e_then ?_; refine wp_ret ?_; refine e_blk_ret ?_; refine e_then_ret ?_; refine e_lq_ret ?_; refine e_then_ret ?_; obtain rfl := Option.some.inj hF
          have e115 := LK_inr hN83; subst e115
          have e116 := BK_inr hK79; subst e116
          exact f_ret1 ha rfl rfl ⟨rfl, hE113⟩
        replace hF := if_f hp114 hF; refine wp_skip ?_; refine e_blk ?_; refine e_then ?_; refine wp_region_lit ?_; refine op_g ha rfl (g_move rfl) ?_; clear ha a; intro a ha; obtain ⟨hI117, hF⟩ := ck_some hF; refine op_g ha rfl (g_add rfl rfl hI117) ?_; clear ha a; intro a ha; refine op_g ha rfl (g_assign rfl) ?_; clear ha a; intro a ha; refine wpList_nil ?_; replace ha := ha.sub (σ' := [(0, va0), (1, va1), (5, (.int .i64 (i39 + 1)))]) ⟨rfl, rfl, rfl, trivial⟩; refine e_lq ?_; obtain rfl := Option.some.inj hF
        exact ⟨_, Nat.lt_succ_self _, i39 + 1, ha.sub ⟨rfl, rfl, rfl, trivial⟩, hE113, hI117, hN83⟩
      replace hF := if_f hp86 hF; refine wp_exit ?_; refine e_then_exit ?_; refine e_lq_eq ?_; obtain rfl := Option.some.inj hF
      exact ⟨ha.sub trivial, hE41, (LK_inr hN83).symm⟩
  rintro a w76 ⟨ha, hE82, rfl⟩
  have hF : F_laws_eqInt64S_k2 = some _ := hK79; clear hK79; unfold F_laws_eqInt64S_k2 at hF
  refine e_then ?_; refine wp_seq ?_; refine wp_region_lit ?_; refine op_g ha rfl (g_assign rfl) ?_; clear ha a; intro a ha; refine wpList_nil ?_; refine e_then ?_; refine wp_ret ?_; obtain rfl := Option.some.inj hF
  exact f_ret1 ha rfl rfl ⟨rfl, hE82⟩
set_option maxHeartbeats 2000000 in
theorem W_laws_eqInt64SS {W : World} {va0 : Value} {fa0 : List Nat} {a0 : (List (List Int))} (ha0 : Ro (Rp.sl 2 Rp.int) W fa0 va0 a0) {va1 : Value} {fa1 : List Nat} {a1 : (List (List Int))} (ha1 : Ro (Rp.sl 2 Rp.int) W fa1 va1 a1) {r : Bool} (hF : F_laws_eqInt64SS a0 a1 = some r) :
    Calls Tryd.prog 36 [va0, va1].toArray W (Ret fun u w' => u = .bool r ∧ Ext W w') := by
  refine f_enter Tryd.func36 rfl Tryd.ntmps36 rfl ?_
  intro a ha
  replace ha : Fr 27 [(0, va0), (1, va1)] a := ha
  have hE : Chg [] W W := Chg.refl _ _
  unfold F_laws_eqInt64SS at hF
  refine wp_seq ?_; refine wp_region_lit ?_; refine op_g ha rfl (g_assign rfl) ?_; clear ha a; intro a ha; refine wpList_nil ?_; replace ha := ha.sub (σ' := [(0, va0), (1, va1)]) ⟨rfl, rfl, trivial⟩; refine e_then ?_; refine wp_seq ?_; refine wp_seq ?_; refine wp_region_lit ?_; refine op_g ha rfl (g_move rfl) ?_; clear ha a; intro a ha; refine op_g ha rfl (g_lenR sl22.und ha0 rfl) ?_; clear ha a; intro a ha; refine op_g ha rfl (g_move rfl) ?_; clear ha a; intro a ha; refine op_g ha rfl (g_lenR sl22.und ha1 rfl) ?_; clear ha a; intro a ha; refine op_g ha rfl (g_neq rfl rfl) ?_; clear ha a; intro a ha
  refine wpList_nil ?_; replace ha := ha.sub (σ' := [(0, va0), (1, va1), (10, (.bool (decide ((a0.length : Int) ≠ (a1.length : Int)))))]) ⟨rfl, rfl, rfl, trivial⟩; refine e_then ?_; refine c_cond ((a0.length : Int) ≠ (a1.length : Int)) ha rfl (decide_eq_true_iff) (fun hp1 => ?_) (fun hp1 => ?_)
  · replace hF := if_t hp1 hF
    refine wp_seq ?_; refine wp_region_lit ?_; refine op_g ha rfl (g_assign rfl) ?_; clear ha a; intro a ha; refine wpList_nil ?_; replace ha := ha.sub (σ' := [(4, (.bool false))]) ⟨rfl, trivial⟩; refine e_then ?_; refine wp_ret ?_; refine e_then_ret ?_; obtain rfl := Option.some.inj hF
    exact f_ret1 ha rfl rfl ⟨rfl, hE⟩
  replace hF := if_f hp1 hF; refine wp_skip ?_; refine e_then ?_; refine wp_seq ?_; refine wp_seq ?_; refine wp_region_lit ?_; refine op_g ha rfl (g_assign rfl) ?_; clear ha a; intro a ha; refine wpList_nil ?_; replace ha := ha.sub (σ' := [(0, va0), (1, va1), (5, (.int .i64 0))]) ⟨rfl, rfl, rfl, trivial⟩; refine e_then ?_; obtain ⟨o93, ho94, hK95⟩ := bnd_some hF
  obtain ⟨n96, hn97⟩ := lp_some ho94; clear ho94
  refine c_loop (fun a w => Fr 27 [] a ∧ Chg [] W w ∧ o93 = .inl ()) (fun n a w => ∃ (i47 : Int), Fr 27 [(0, va0), (1, va1), (5, (.int .i64 i47))] a ∧ Chg [] W w ∧ InI i47 ∧ lpN (fun s => F_laws_eqInt64SS_l1 a0 a1 s) n i47 = some o93) n96 ⟨0, ha.sub ⟨rfl, rfl, rfl, trivial⟩, hE, (show InI 0 from by decide), hn97⟩ ?_ ?_
  · rintro m101 a w46 ⟨i47, ha, hE49, hI48, hF⟩
    cases m101 with
    | zero => exact (lpN_zero hF).elim
    | succ m101 =>
      obtain ⟨z100, hF, hN99⟩ := lpN_succ hF
      have hF : F_laws_eqInt64SS_l1 a0 a1 i47 = some z100 := hF; unfold F_laws_eqInt64SS_l1 at hF
      refine wp_seq ?_; refine wp_seq ?_; refine wp_region_lit ?_; (iterate 2 refine op_g ha rfl (g_move rfl) ?_; clear ha a; intro a ha); refine op_g ha rfl (g_lenR sl22.und ha0 rfl) ?_; clear ha a; intro a ha; refine op_g ha rfl (g_lss rfl rfl) ?_; clear ha a; intro a ha; refine wpList_nil ?_; replace ha := ha.sub (σ' := [(0, va0), (1, va1), (5, (.int .i64 i47)), (14, (.bool (decide (i47 < (a0.length : Int)))))]) ⟨rfl, rfl, rfl, rfl, trivial⟩; refine e_then ?_; refine c_cond (i47 < (a0.length : Int)) ha rfl (decide_eq_true_iff) (fun hp102 => ?_) (fun hp102 => ?_)
      · replace hF := if_t hp102 hF
        refine wp_skip ?_; refine e_then ?_; refine wp_seq ?_; refine wp_block ?_; refine wp_seq ?_; refine d_quiet hmix (by kernel_rfl) ?_; (iterate 2 refine q_g ha rfl (g_move rfl) ?_; clear ha a; intro a ha); obtain ⟨x103, g104, gx105, hF⟩ := idx_some hF
        obtain ⟨p106, cs107, f108, hf109, hpb110, hat111, hr112, hi113⟩ := ha0.at g104 gx105
        obtain ⟨v114, rfl, h115⟩ := hr112
        have h115 : Ro Rp.int W f108 v114 x103 := h115
        refine q_g ha rfl (hi113.gives sl22 rfl rfl) ?_; clear ha a; intro a ha; refine q_g ha rfl (g_load0 hE49 Tryd.isAgg29 rfl hat111.one) ?_; clear ha a; intro a ha; (iterate 2 refine q_g ha rfl (g_move rfl) ?_; clear ha a; intro a ha); obtain ⟨x117, g118, gx119, hF⟩ := idx_some hF
        obtain ⟨p120, cs121, f122, hf123, hpb124, hat125, hr126, hi127⟩ := ha1.at g118 gx119
        obtain ⟨v128, rfl, h129⟩ := hr126
        have h129 : Ro Rp.int W f122 v128 x117 := h129
        refine q_g ha rfl (hi127.gives sl22 rfl rfl) ?_; clear ha a; intro a ha; refine q_g ha rfl (g_load0 hE49 Tryd.isAgg29 rfl hat125.one) ?_; clear ha a; intro a ha; obtain ⟨x133, hc134, hF⟩ := cal_some hF; refine q_call (.bool x133) ha rfl rfl Tryd.call10 (fun w132 hx131 => W_laws_eqInt64S (h115.ext (Ext.trans hE49 hx131)) (h129.ext (Ext.trans hE49 hx131)) hc134) (fun _ _ _ h => ⟨h.1, h.2⟩) ?_; clear ha a; intro a ha; refine q_g ha rfl (g_not rfl) ?_; clear ha a; intro a ha
        refine q_nil ?_; intro w135 hx136
        have hE137 := Ext.trans hE49 hx136
        replace ha := ha.sub (σ' := [(0, va0), (1, va1), (5, (.int .i64 i47)), (26, (.bool (!x133)))]) ⟨rfl, rfl, rfl, rfl, trivial⟩; refine e_then ?_; refine c_cond (¬ (x133 = true)) ha rfl (n_iff (Iff.rfl)) (fun hp138 => ?_) (fun hp138 => ?_)
        · replace hF := if_t hp138 hF
          refine wp_seq ?_; refine wp_region_lit ?_; refine op_g ha rfl (g_assign rfl) ?_; clear ha a; intro a ha; refine wpList_nil ?_; replace ha := ha.sub (σ' := [(4, (.bool false))]) ⟨rfl, trivial⟩; refine e_then ?_; refine wp_ret ?_; refine e_blk_ret ?_; refine e_then_ret ?_; refine e_lq_ret ?_; refine e_then_ret ?_; obtain rfl := Option.some.inj hF
          have e139 := LK_inr hN99; subst e139
          have e140 := BK_inr hK95; subst e140
          exact f_ret1 ha rfl rfl ⟨rfl, hE137⟩
        replace hF := if_f hp138 hF; refine wp_skip ?_; refine e_blk ?_; refine e_then ?_; refine wp_region_lit ?_; refine op_g ha rfl (g_move rfl) ?_; clear ha a; intro a ha; obtain ⟨hI141, hF⟩ := ck_some hF; refine op_g ha rfl (g_add rfl rfl hI141) ?_; clear ha a; intro a ha; refine op_g ha rfl (g_assign rfl) ?_; clear ha a; intro a ha; refine wpList_nil ?_; replace ha := ha.sub (σ' := [(0, va0), (1, va1), (5, (.int .i64 (i47 + 1)))]) ⟨rfl, rfl, rfl, trivial⟩; refine e_lq ?_; obtain rfl := Option.some.inj hF
        exact ⟨_, Nat.lt_succ_self _, i47 + 1, ha.sub ⟨rfl, rfl, rfl, trivial⟩, hE137, hI141, hN99⟩
      replace hF := if_f hp102 hF; refine wp_exit ?_; refine e_then_exit ?_; refine e_lq_eq ?_; obtain rfl := Option.some.inj hF
      exact ⟨ha.sub trivial, hE49, (LK_inr hN99).symm⟩
  rintro a w92 ⟨ha, hE98, rfl⟩
  have hF : F_laws_eqInt64SS_k2 = some _ := hK95; clear hK95; unfold F_laws_eqInt64SS_k2 at hF
  refine e_then ?_; refine wp_seq ?_; refine wp_region_lit ?_; refine op_g ha rfl (g_assign rfl) ?_; clear ha a; intro a ha; refine wpList_nil ?_; refine e_then ?_; refine wp_ret ?_; obtain rfl := Option.some.inj hF
  exact f_ret1 ha rfl rfl ⟨rfl, hE98⟩
set_option maxHeartbeats 2000000 in
theorem W_laws_eqGraph {W : World} {va0_0 : Value} {fa0_0 : List Nat} {a0_0 : (List (List Int))} (ha0_0 : Ro (Rp.sl 2 Rp.int) W fa0_0 va0_0 a0_0) {va1_0 : Value} {fa1_0 : List Nat} {a1_0 : (List (List Int))} (ha1_0 : Ro (Rp.sl 2 Rp.int) W fa1_0 va1_0 a1_0) {r : Bool} (hF : F_laws_eqGraph a0_0 a1_0 = some r) :
    Calls Tryd.prog 11 [.agg #[va0_0], .agg #[va1_0]].toArray W (Ret fun u w' => u = .bool r ∧ Ext W w') := by
  refine f_enter Tryd.func11 rfl Tryd.ntmps11 rfl ?_
  intro a ha
  replace ha : Fr 11 [(0, (.agg #[va0_0])), (1, (.agg #[va1_0]))] a := ha
  have hE : Chg [] W W := Chg.refl _ _
  unfold F_laws_eqGraph at hF
  refine wp_seq ?_; refine wp_region_lit ?_
  refine o_box ha rfl rfl rfl ?_; clear ha a; intro b1 w2 hB3 hx4 hlo5 a ha
  have q6 := Zn.one hlo5
  have q7 := Zn.upD q6 hE
  have hE8 := Ext.trans hE hx4
  refine o_box ha rfl rfl rfl ?_; clear ha a; intro b9 w10 hB11 hx12 hlo13 a ha
  have q14 := Zn.one hlo13
  have q15 := Nq.new hB3.fpb q14
  have q16 := Nq.made1 hlo13 hB3.bi
  have q17 := Zn.upD q14 hE8
  replace hB3 := hB3.ext hx12
  have hE18 := Ext.trans hE8 hx12
  refine op_g ha rfl (g_assign rfl) ?_; clear ha a; intro a ha; refine wpList_nil ?_; replace ha := ha.sub (σ' := [(2, (.pointer (some ⟨b1, 0, none⟩))), (3, (.pointer (some ⟨b9, 0, none⟩)))]) ⟨rfl, rfl, trivial⟩; refine e_then ?_; refine wp_seq ?_; refine wp_seq ?_; refine wp_region_lit ?_; refine op_g ha rfl (g_field0 st31_0 rfl) ?_; clear ha a; intro a ha; refine op_g ha rfl (g_load Tryd.isAgg22 rfl (hB3.cell rfl)) ?_; clear ha a; intro a ha; refine op_g ha rfl (g_field0 st31_0 rfl) ?_; clear ha a; intro a ha; refine op_g ha rfl (g_load Tryd.isAgg22 rfl (hB11.cell rfl)) ?_; clear ha a; intro a ha
  obtain ⟨x19, hc20, hF⟩ := cal_some hF
  refine o_call ha rfl rfl Tryd.call36 (W_laws_eqInt64SS (ha0_0.ext hE18) (ha1_0.ext hE18) hc20) ?_; clear ha a; rintro v21 w22 ⟨rfl, hx23⟩ a ha
  replace hB3 := hB3.ext hx23
  replace hB11 := hB11.ext hx23
  have hE24 := Ext.trans hE18 hx23
  refine op_g ha rfl (g_not rfl) ?_; clear ha a; intro a ha; refine wpList_nil ?_; replace ha := ha.sub (σ' := [(10, (.bool (!x19)))]) ⟨rfl, trivial⟩; refine e_then ?_; refine c_cond (¬ (x19 = true)) ha rfl (n_iff (Iff.rfl)) (fun hp25 => ?_) (fun hp25 => ?_)
  · replace hF := if_t hp25 hF
    refine wp_seq ?_; refine wp_region_lit ?_; refine op_g ha rfl (g_assign rfl) ?_; clear ha a; intro a ha; refine wpList_nil ?_; replace ha := ha.sub (σ' := [(4, (.bool false))]) ⟨rfl, trivial⟩; refine e_then ?_; refine wp_ret ?_; refine e_then_ret ?_; obtain rfl := Option.some.inj hF
    exact f_ret1 ha rfl rfl ⟨rfl, hE24⟩
  replace hF := if_f hp25 hF; refine wp_skip ?_; refine e_then ?_; refine wp_seq ?_; refine wp_region_lit ?_; refine op_g ha rfl (g_assign rfl) ?_; clear ha a; intro a ha; refine wpList_nil ?_; replace ha := ha.sub (σ' := [(4, (.bool true))]) ⟨rfl, trivial⟩; refine e_then ?_; refine wp_ret ?_; obtain rfl := Option.some.inj hF
  exact f_ret1 ha rfl rfl ⟨rfl, hE24⟩
set_option maxHeartbeats 2000000 in
theorem W_laws_eqDecomp {W : World} {va0_0 : Value} {fa0_0 : List Nat} {a0_0 : (List (List Int))} (ha0_0 : Ro (Rp.sl 2 Rp.int) W fa0_0 va0_0 a0_0) {va0_1 : Value} {fa0_1 : List Nat} {a0_1 : (List (List Int))} (ha0_1 : Ro (Rp.sl 2 Rp.int) W fa0_1 va0_1 a0_1) {va1_0 : Value} {fa1_0 : List Nat} {a1_0 : (List (List Int))} (ha1_0 : Ro (Rp.sl 2 Rp.int) W fa1_0 va1_0 a1_0) {va1_1 : Value} {fa1_1 : List Nat} {a1_1 : (List (List Int))} (ha1_1 : Ro (Rp.sl 2 Rp.int) W fa1_1 va1_1 a1_1) {r : Bool} (hF : F_laws_eqDecomp a0_0 a0_1 a1_0 a1_1 = some r) :
    Calls Tryd.prog 12 [.agg #[va0_0, va0_1], .agg #[va1_0, va1_1]].toArray W (Ret fun u w' => u = .bool r ∧ Ext W w') := by
  refine f_enter Tryd.func12 rfl Tryd.ntmps12 rfl ?_
  intro a ha
  replace ha : Fr 17 [(0, (.agg #[va0_0, va0_1])), (1, (.agg #[va1_0, va1_1]))] a := ha
  have hE : Chg [] W W := Chg.refl _ _
  unfold F_laws_eqDecomp at hF
  refine wp_seq ?_; refine wp_region_lit ?_
  refine o_box ha rfl rfl rfl ?_; clear ha a; intro b1 w2 hB3 hx4 hlo5 a ha
  have q6 := Zn.one hlo5
  have q7 := Zn.upD q6 hE
  have hE8 := Ext.trans hE hx4
  refine o_box ha rfl rfl rfl ?_; clear ha a; intro b9 w10 hB11 hx12 hlo13 a ha
  have q14 := Zn.one hlo13
  have q15 := Nq.new hB3.fpb q14
  have q16 := Nq.made1 hlo13 hB3.bi
  have q17 := Zn.upD q14 hE8
  replace hB3 := hB3.ext hx12
  have hE18 := Ext.trans hE8 hx12
  refine op_g ha rfl (g_assign rfl) ?_; clear ha a; intro a ha; refine wpList_nil ?_; replace ha := ha.sub (σ' := [(2, (.pointer (some ⟨b1, 0, none⟩))), (3, (.pointer (some ⟨b9, 0, none⟩)))]) ⟨rfl, rfl, trivial⟩; refine e_then ?_; refine wp_seq ?_; refine wp_seq ?_; refine wp_region_lit ?_; refine op_g ha rfl (g_field0 st33_0 rfl) ?_; clear ha a; intro a ha; refine op_g ha rfl (g_load Tryd.isAgg22 rfl (hB3.cell rfl)) ?_; clear ha a; intro a ha; refine op_g ha rfl (g_field0 st33_0 rfl) ?_; clear ha a; intro a ha; refine op_g ha rfl (g_load Tryd.isAgg22 rfl (hB11.cell rfl)) ?_; clear ha a; intro a ha
  obtain ⟨x19, hc20, hF⟩ := cal_some hF
  refine o_call ha rfl rfl Tryd.call36 (W_laws_eqInt64SS (ha0_0.ext hE18) (ha1_0.ext hE18) hc20) ?_; clear ha a; rintro v21 w22 ⟨rfl, hx23⟩ a ha
  replace hB3 := hB3.ext hx23
  replace hB11 := hB11.ext hx23
  have hE24 := Ext.trans hE18 hx23
  refine op_g ha rfl (g_not rfl) ?_; clear ha a; intro a ha; refine wpList_nil ?_; replace ha := ha.sub (σ' := [(2, (.pointer (some ⟨b1, 0, none⟩))), (3, (.pointer (some ⟨b9, 0, none⟩))), (10, (.bool (!x19)))]) ⟨rfl, rfl, rfl, trivial⟩; refine e_then ?_; refine c_cond (¬ (x19 = true)) ha rfl (n_iff (Iff.rfl)) (fun hp25 => ?_) (fun hp25 => ?_)
  · replace hF := if_t hp25 hF
    refine wp_seq ?_; refine wp_region_lit ?_; refine op_g ha rfl (g_assign rfl) ?_; clear ha a; intro a ha; refine wpList_nil ?_; replace ha := ha.sub (σ' := [(4, (.bool false))]) ⟨rfl, trivial⟩; refine e_then ?_; refine wp_ret ?_; refine e_then_ret ?_; obtain rfl := Option.some.inj hF
    exact f_ret1 ha rfl rfl ⟨rfl, hE24⟩
  replace hF := if_f hp25 hF; refine wp_skip ?_; refine e_then ?_; refine wp_seq ?_; refine wp_seq ?_; refine wp_region_lit ?_; refine op_g ha rfl (g_field0 st33_1 rfl) ?_; clear ha a; intro a ha; refine op_g ha rfl (g_load Tryd.isAgg22 rfl (hB3.cell rfl)) ?_; clear ha a; intro a ha; refine op_g ha rfl (g_field0 st33_1 rfl) ?_; clear ha a; intro a ha; refine op_g ha rfl (g_load Tryd.isAgg22 rfl (hB11.cell rfl)) ?_; clear ha a; intro a ha; obtain ⟨x26, hc27, hF⟩ := cal_some hF
  refine o_call ha rfl rfl Tryd.call36 (W_laws_eqInt64SS (ha0_1.ext hE24) (ha1_1.ext hE24) hc27) ?_; clear ha a; rintro v28 w29 ⟨rfl, hx30⟩ a ha
  replace hB3 := hB3.ext hx30
  replace hB11 := hB11.ext hx30
  have hE31 := Ext.trans hE24 hx30
  refine op_g ha rfl (g_not rfl) ?_; clear ha a; intro a ha; refine wpList_nil ?_; replace ha := ha.sub (σ' := [(16, (.bool (!x26)))]) ⟨rfl, trivial⟩; refine e_then ?_; refine c_cond (¬ (x26 = true)) ha rfl (n_iff (Iff.rfl)) (fun hp32 => ?_) (fun hp32 => ?_)
  · replace hF := if_t hp32 hF
    refine wp_seq ?_; refine wp_region_lit ?_; refine op_g ha rfl (g_assign rfl) ?_; clear ha a; intro a ha; refine wpList_nil ?_; replace ha := ha.sub (σ' := [(4, (.bool false))]) ⟨rfl, trivial⟩; refine e_then ?_; refine wp_ret ?_; refine e_then_ret ?_; obtain rfl := Option.some.inj hF
    exact f_ret1 ha rfl rfl ⟨rfl, hE31⟩
  replace hF := if_f hp32 hF; refine wp_skip ?_; refine e_then ?_; refine wp_seq ?_; refine wp_region_lit ?_; refine op_g ha rfl (g_assign rfl) ?_; clear ha a; intro a ha; refine wpList_nil ?_; replace ha := ha.sub (σ' := [(4, (.bool true))]) ⟨rfl, trivial⟩; refine e_then ?_; refine wp_ret ?_; obtain rfl := Option.some.inj hF
  exact f_ret1 ha rfl rfl ⟨rfl, hE31⟩
set_option maxHeartbeats 2000000 in
theorem W_laws_markInt64S {W : World} {va0 : Value} {ba0 : Int} {a0 : (List Int)} (ha0 : Ow Rp.int 2 true W [] ba0 va0 a0) {a1 : Int} (ha1 : InI a1) {r : (Int × (List Int))} (hF : F_laws_markInt64S a0 a1 = some r) :
    Calls Tryd.prog 15 [va0, .int .i64 a1].toArray W (Ret fun u w' => (u = .int .i64 r.1 ∧ InI r.1) ∧ Ow Rp.int 2 true w' [] ba0 va0 r.2 ∧ Chg (bl ba0) W w') := by
  refine f_enter Tryd.func15 rfl Tryd.ntmps15 rfl ?_
  intro a ha
  replace ha : Fr 19 [(0, va0), (1, (.int .i64 a1))] a := ha
  have hE : Chg (bl ba0) W W := Chg.refl _ _
  unfold F_laws_markInt64S at hF
  refine wp_seq ?_; refine wp_region_lit ?_; refine op_g ha rfl (g_assign rfl) ?_; clear ha a; intro a ha; refine wpList_nil ?_; replace ha := ha.sub (σ' := [(0, va0), (1, (.int .i64 a1))]) ⟨rfl, rfl, trivial⟩; refine e_then ?_; refine wp_seq ?_; refine wp_seq ?_; refine wp_region_lit ?_; refine op_g ha rfl (g_assign rfl) ?_; clear ha a; intro a ha; refine wpList_nil ?_; refine e_then ?_; obtain ⟨o85, ho86, hK87⟩ := bnd_some hF
  obtain ⟨n88, hn89⟩ := lp_some ho86; clear ho86
  refine c_loop (fun a w => ∃ (i79 : Int) (l82 : (List Int)), Fr 19 [(1, (.int .i64 i79))] a ∧ Chg (bl ba0) W w ∧ InI i79 ∧ Ow Rp.int 2 true w [] ba0 va0 l82 ∧ o85 = .inl (i79, l82)) (fun n a w => ∃ (l38 : (List Int)) (i41 : Int) (i43 : Int), Fr 19 [(0, va0), (1, (.int .i64 i41)), (5, (.int .i64 i43))] a ∧ Chg (bl ba0) W w ∧ InI i41 ∧ InI i43 ∧ Ow Rp.int 2 true w [] ba0 va0 l38 ∧ lpN (fun s => F_laws_markInt64S_l1 s.1 s.2.1 s.2.2) n (l38, i41, i43) = some o85) n88 ⟨a0, a1, 0, ha.sub ⟨rfl, rfl, rfl, trivial⟩, hE, ha1, (show InI 0 from by decide), ha0, hn89⟩ ?_ ?_
  · rintro m93 a w36 ⟨l38, i41, i43, ha, hE45, hI42, hI44, h37, hF⟩
    cases m93 with
    | zero => exact (lpN_zero hF).elim
    | succ m93 =>
      obtain ⟨z92, hF, hN91⟩ := lpN_succ hF
      have hF : F_laws_markInt64S_l1 l38 i41 i43 = some z92 := hF; unfold F_laws_markInt64S_l1 at hF
      refine wp_seq ?_; refine wp_seq ?_; refine wp_region_lit ?_; (iterate 2 refine op_g ha rfl (g_move rfl) ?_; clear ha a; intro a ha); refine op_g ha rfl (g_lenO sl29.und h37 rfl) ?_; clear ha a; intro a ha; refine op_g ha rfl (g_lss rfl rfl) ?_; clear ha a; intro a ha; refine wpList_nil ?_; replace ha := ha.sub (σ' := [(0, va0), (1, (.int .i64 i41)), (5, (.int .i64 i43)), (9, (.bool (decide (i43 < (l38.length : Int)))))]) ⟨rfl, rfl, rfl, rfl, trivial⟩; refine e_then ?_; refine c_cond (i43 < (l38.length : Int)) ha rfl (decide_eq_true_iff) (fun hp94 => ?_) (fun hp94 => ?_)
      · replace hF := if_t hp94 hF
        refine wp_skip ?_; refine e_then ?_; refine wp_seq ?_; refine wp_block ?_; refine wp_seq ?_; refine wp_region_lit ?_; (iterate 3 refine op_g ha rfl (g_move rfl) ?_; clear ha a; intro a ha); obtain ⟨x95, g96, gx97, hF⟩ := idx_some hF
        obtain ⟨p98, cs99, f100, hf101, hpb102, hat103, hr104, hi105⟩ := h37.at g96 gx97
        obtain ⟨rfl, hI106, rfl⟩ := hr104
        refine op_g ha rfl (hi105.gives sl29 rfl rfl) ?_; clear ha a; intro a ha
        refine o_storeE (f := []) (q := i41) ha Tryd.sizeOf2 rfl rfl rfl h37 hi105 ⟨rfl, hI42, rfl⟩ (Nq.nil _) ?_; intro w107 fs108 h109 hc110 hs111
        obtain rfl := Subst.nil hs111
        have hE112 := Chg.same hE45 hc110
        refine wpList_nil ?_; replace ha := ha.sub (σ' := [(0, va0), (1, (.int .i64 i41)), (5, (.int .i64 i43))]) ⟨rfl, rfl, rfl, trivial⟩; refine e_then ?_; refine wp_region_lit ?_; refine op_g ha rfl (g_move rfl) ?_; clear ha a; intro a ha; obtain ⟨hI113, hF⟩ := ck_some hF; refine op_g ha rfl (g_add rfl rfl hI113) ?_; clear ha a; intro a ha; refine op_g ha rfl (g_assign rfl) ?_; clear ha a; intro a ha; refine wpList_nil ?_; replace ha := ha.sub (σ' := [(0, va0), (1, (.int .i64 (i41 + 1))), (5, (.int .i64 i43))]) ⟨rfl, rfl, rfl, trivial⟩; refine e_blk ?_; refine e_then ?_; refine wp_region_lit ?_
        refine op_g ha rfl (g_move rfl) ?_; clear ha a; intro a ha; obtain ⟨hI115, hF⟩ := ck_some hF; refine op_g ha rfl (g_add rfl rfl hI115) ?_; clear ha a; intro a ha; refine op_g ha rfl (g_assign rfl) ?_; clear ha a; intro a ha; refine wpList_nil ?_; replace ha := ha.sub (σ' := [(0, va0), (1, (.int .i64 (i41 + 1))), (5, (.int .i64 (i43 + 1)))]) ⟨rfl, rfl, rfl, trivial⟩; refine e_lq ?_; obtain rfl := Option.some.inj hF
        exact ⟨_, Nat.lt_succ_self _, (l38.set ((i43 : Int).toNat) i41), i41 + 1, i43 + 1, ha.sub ⟨rfl, rfl, rfl, trivial⟩, hE112, hI113, hI115, h109, hN91⟩
      replace hF := if_f hp94 hF; refine wp_exit ?_; refine e_then_exit ?_; refine e_lq_eq ?_; obtain rfl := Option.some.inj hF
      exact ⟨i41, l38, ha.sub ⟨rfl, trivial⟩, hE45, hI42, h37, (LK_inr hN91).symm⟩
  rintro a w78 ⟨i79, l82, ha, hE90, hI80, h81, rfl⟩
  have hF : F_laws_markInt64S_k2 i79 l82 = some _ := hK87; clear hK87; unfold F_laws_markInt64S_k2 at hF
  refine e_then ?_; refine wp_seq ?_; refine wp_region_lit ?_; refine op_g ha rfl (g_move rfl) ?_; clear ha a; intro a ha; refine op_g ha rfl (g_assign rfl) ?_; clear ha a; intro a ha; refine wpList_nil ?_; replace ha := ha.sub (σ' := [(4, (.int .i64 i79))]) ⟨rfl, trivial⟩; refine e_then ?_; refine wp_ret ?_; obtain rfl := Option.some.inj hF
  exact f_ret1 ha rfl rfl ⟨⟨rfl, hI80⟩, h81, hE90⟩
set_option maxHeartbeats 2000000 in
theorem W_laws_markInt64SS {W : World} {va0 : Value} {ba0 : Int} {fa0 : List Nat} {a0 : (List (List Int))} (ha0 : Ow (Rp.sl 2 Rp.int) 29 true W fa0 ba0 va0 a0) (nda0 : (bl ba0 ++ fa0).Nodup) {a1 : Int} (ha1 : InI a1) {r : (Int × (List (List Int)))} (hF : F_laws_markInt64SS a0 a1 = some r) :
    Calls Tryd.prog 37 [va0, .int .i64 a1].toArray W (Ret fun u w' => (u = .int .i64 r.1 ∧ InI r.1) ∧ Ow (Rp.sl 2 Rp.int) 29 true w' fa0 ba0 va0 r.2 ∧ Chg ((bl ba0 ++ fa0)) W w') := by
  refine f_enter Tryd.func37 rfl Tryd.ntmps37 rfl ?_
  intro a ha
  replace ha : Fr 19 [(0, va0), (1, (.int .i64 a1))] a := ha
  have hE : Chg ((bl ba0 ++ fa0)) W W := Chg.refl _ _
  unfold F_laws_markInt64SS at hF
  refine wp_seq ?_; refine wp_region_lit ?_; refine op_g ha rfl (g_assign rfl) ?_; clear ha a; intro a ha; refine wpList_nil ?_; replace ha := ha.sub (σ' := [(0, va0), (1, (.int .i64 a1))]) ⟨rfl, rfl, trivial⟩; refine e_then ?_; refine wp_seq ?_; refine wp_seq ?_; refine wp_region_lit ?_; refine op_g ha rfl (g_assign rfl) ?_; clear ha a; intro a ha; refine wpList_nil ?_; refine e_then ?_; obtain ⟨o101, ho102, hK103⟩ := bnd_some hF
  obtain ⟨n104, hn105⟩ := lp_some ho102; clear ho102
  refine c_loop (fun a w => ∃ (i95 : Int) (l98 : (List (List Int))), Fr 19 [(1, (.int .i64 i95))] a ∧ Chg ((bl ba0 ++ fa0)) W w ∧ InI i95 ∧ Ow (Rp.sl 2 Rp.int) 29 true w fa0 ba0 va0 l98 ∧ o101 = .inl (i95, l98)) (fun n a w => ∃ (l46 : (List (List Int))) (i49 : Int) (i51 : Int), Fr 19 [(0, va0), (1, (.int .i64 i49)), (5, (.int .i64 i51))] a ∧ Chg ((bl ba0 ++ fa0)) W w ∧ InI i49 ∧ InI i51 ∧ Ow (Rp.sl 2 Rp.int) 29 true w fa0 ba0 va0 l46 ∧ lpN (fun s => F_laws_markInt64SS_l1 s.1 s.2.1 s.2.2) n (l46, i49, i51) = some o101) n104 ⟨a0, a1, 0, ha.sub ⟨rfl, rfl, rfl, trivial⟩, hE, ha1, (show InI 0 from by decide), ha0, hn105⟩ ?_ ?_
  · rintro m109 a w44 ⟨l46, i49, i51, ha, hE53, hI50, hI52, h45, hF⟩
    cases m109 with
    | zero => exact (lpN_zero hF).elim
    | succ m109 =>
      obtain ⟨z108, hF, hN107⟩ := lpN_succ hF
      have hF : F_laws_markInt64SS_l1 l46 i49 i51 = some z108 := hF; unfold F_laws_markInt64SS_l1 at hF
      refine wp_seq ?_; refine wp_seq ?_; refine wp_region_lit ?_; (iterate 2 refine op_g ha rfl (g_move rfl) ?_; clear ha a; intro a ha); refine op_g ha rfl (g_lenO sl22.und h45 rfl) ?_; clear ha a; intro a ha; refine op_g ha rfl (g_lss rfl rfl) ?_; clear ha a; intro a ha; refine wpList_nil ?_; replace ha := ha.sub (σ' := [(0, va0), (1, (.int .i64 i49)), (5, (.int .i64 i51)), (9, (.bool (decide (i51 < (l46.length : Int)))))]) ⟨rfl, rfl, rfl, rfl, trivial⟩; refine e_then ?_; refine c_cond (i51 < (l46.length : Int)) ha rfl (decide_eq_true_iff) (fun hp110 => ?_) (fun hp110 => ?_)
      · replace hF := if_t hp110 hF
        refine wp_skip ?_; refine e_then ?_; refine wp_seq ?_; refine wp_block ?_; refine wp_region_lit ?_; (iterate 2 refine op_g ha rfl (g_move rfl) ?_; clear ha a; intro a ha); obtain ⟨x111, g112, gx113, hF⟩ := idx_some hF
        obtain ⟨p114, cs115, f116, hf117, hpb118, hat119, hr120, hi121⟩ := h45.at g112 gx113
        replace hr120 := (Rp.sl 2 Rp.int).weak hr120
        obtain ⟨v122, rfl, h123⟩ := hr120
        have h123 : Ro Rp.int w44 f116 v122 x111 := h123
        have q125 := Nq.mono (Ow.ne h45) hf117
        refine op_g ha rfl (hi121.gives sl22 rfl rfl) ?_; clear ha a; intro a ha; refine op_g ha rfl (g_load Tryd.isAgg29 rfl hat119.one) ?_; clear ha a; intro a ha; refine op_g ha rfl (g_move rfl) ?_; clear ha a; intro a ha
        obtain ⟨b126, h127, hm128, hb129⟩ := Ow.row (k := 0) (lens_sl 2 Rp.int) scal_int h45 nda0 gx113 hi121 hat119 rfl rfl
        obtain ⟨x130, hc131, hF⟩ := cal_some hF
        refine o_call ha rfl rfl Tryd.call15 (W_laws_markInt64S h127 hI50 hc131) ?_; clear ha a; rintro v132 w133 ⟨⟨rfl, hI135⟩, h136, hx134⟩ a ha
        have h137 := hb129 w133 _ hx134 h136
        have hE138 := Chg.join hE53 hx134 (S2.par hm128)
        refine op_g ha rfl (g_assign rfl) ?_; clear ha a; intro a ha; refine wpList_nil ?_; replace ha := ha.sub (σ' := [(0, va0), (1, (.int .i64 x130.1)), (5, (.int .i64 i51))]) ⟨rfl, rfl, rfl, trivial⟩; refine e_blk ?_; refine e_then ?_; refine wp_region_lit ?_; refine op_g ha rfl (g_move rfl) ?_; clear ha a; intro a ha; obtain ⟨hI139, hF⟩ := ck_some hF; refine op_g ha rfl (g_add rfl rfl hI139) ?_; clear ha a; intro a ha; refine op_g ha rfl (g_assign rfl) ?_; clear ha a; intro a ha; refine wpList_nil ?_; replace ha := ha.sub (σ' := [(0, va0), (1, (.int .i64 x130.1)), (5, (.int .i64 (i51 + 1)))]) ⟨rfl, rfl, rfl, trivial⟩
        refine e_lq ?_; obtain rfl := Option.some.inj hF
        exact ⟨_, Nat.lt_succ_self _, (l46.set ((i51 : Int).toNat) x130.2), x130.1, i51 + 1, ha.sub ⟨rfl, rfl, rfl, trivial⟩, hE138, hI135, hI139, h137, hN107⟩
      replace hF := if_f hp110 hF; refine wp_exit ?_; refine e_then_exit ?_; refine e_lq_eq ?_; obtain rfl := Option.some.inj hF
      exact ⟨i49, l46, ha.sub ⟨rfl, trivial⟩, hE53, hI50, h45, (LK_inr hN107).symm⟩
  rintro a w94 ⟨i95, l98, ha, hE106, hI96, h97, rfl⟩
  have hF : F_laws_markInt64SS_k2 i95 l98 = some _ := hK103; clear hK103; unfold F_laws_markInt64SS_k2 at hF
  refine e_then ?_; refine wp_seq ?_; refine wp_region_lit ?_; refine op_g ha rfl (g_move rfl) ?_; clear ha a; intro a ha; refine op_g ha rfl (g_assign rfl) ?_; clear ha a; intro a ha; refine wpList_nil ?_; replace ha := ha.sub (σ' := [(4, (.int .i64 i95))]) ⟨rfl, trivial⟩; refine e_then ?_; refine wp_ret ?_; obtain rfl := Option.some.inj hF
  exact f_ret1 ha rfl rfl ⟨⟨rfl, hI96⟩, h97, hE106⟩
set_option maxHeartbeats 2000000 in
theorem W_laws_markGraph {W : World} {va0_0 : Value} {ba0_0 : Int} {fa0_0 : List Nat} {a0_0 : (List (List Int))} (ha0_0 : Ow (Rp.sl 2 Rp.int) 29 true W fa0_0 ba0_0 va0_0 a0_0) (nda0_0 : (bl ba0_0 ++ fa0_0).Nodup) {a1 : Int} (ha1 : InI a1) {r : (Int × (List (List Int)))} (hF : F_laws_markGraph a0_0 a1 = some r) :
    Calls Tryd.prog 13 [.agg #[va0_0], .int .i64 a1].toArray W (Ret fun u w' => (u = .int .i64 r.1 ∧ InI r.1) ∧ Ow (Rp.sl 2 Rp.int) 29 true w' fa0_0 ba0_0 va0_0 r.2 ∧ Chg ((bl ba0_0 ++ fa0_0)) W w') := by
  refine f_enter Tryd.func13 rfl Tryd.ntmps13 rfl ?_
  intro a ha
  replace ha : Fr 10 [(0, (.agg #[va0_0])), (1, (.int .i64 a1))] a := ha
  have hE : Chg ((bl ba0_0 ++ fa0_0)) W W := Chg.refl _ _
  unfold F_laws_markGraph at hF
  refine wp_seq ?_; refine wp_region_lit ?_
  refine o_box ha rfl rfl rfl ?_; clear ha a; intro b1 w2 hB3 hx4 hlo5 a ha
  have q6 := Zn.one hlo5
  have q7 := Nq.new ha0_0.fpb q6
  have q8 := Nq.made1 hlo5 ha0_0.blt
  have q9 := Nf.old1 q6 ha0_0.bnd
  have q10 := Zn.upD q6 hE
  replace ha0_0 := ha0_0.ext hx4
  have hE11 := Chg.more hE hx4
  refine op_g ha rfl (g_assign rfl) ?_; clear ha a; intro a ha; refine wpList_nil ?_; replace ha := ha.sub (σ' := [(1, (.int .i64 a1)), (2, (.pointer (some ⟨b1, 0, none⟩)))]) ⟨rfl, rfl, trivial⟩; refine e_then ?_; refine wp_seq ?_; refine wp_region_lit ?_; refine op_g ha rfl (g_field0 st31_0 rfl) ?_; clear ha a; intro a ha; refine op_g ha rfl (g_load Tryd.isAgg22 rfl (hB3.cell rfl)) ?_; clear ha a; intro a ha; refine op_g ha rfl (g_move rfl) ?_; clear ha a; intro a ha; obtain ⟨x12, hc13, hF⟩ := cal_some hF
  refine o_call ha rfl rfl Tryd.call37 (W_laws_markInt64SS ha0_0 nda0_0 ha1 hc13) ?_; clear ha a; rintro v14 w15 ⟨⟨rfl, hI17⟩, h18, hx16⟩ a ha
  replace hB3 := hB3.off hx16 (Off.nest q8 q9)
  have hE19 := Chg.join hE11 hx16 (S2.par (fun _ h => h))
  refine op_g ha rfl (g_assign rfl) ?_; clear ha a; intro a ha; refine wpList_nil ?_; replace ha := ha.sub (σ' := [(1, (.int .i64 x12.1))]) ⟨rfl, trivial⟩; refine e_then ?_; refine wp_seq ?_; refine wp_region_lit ?_; refine op_g ha rfl (g_move rfl) ?_; clear ha a; intro a ha; refine op_g ha rfl (g_assign rfl) ?_; clear ha a; intro a ha; refine wpList_nil ?_; replace ha := ha.sub (σ' := [(4, (.int .i64 x12.1))]) ⟨rfl, trivial⟩; refine e_then ?_; refine wp_ret ?_; obtain rfl := Option.some.inj hF
  exact f_ret1 ha rfl rfl ⟨⟨rfl, hI17⟩, h18, hE19⟩
set_option maxHeartbeats 2000000 in
theorem W_laws_markDecomp {W : World} {va0_0 : Value} {ba0_0 : Int} {fa0_0 : List Nat} {a0_0 : (List (List Int))} (ha0_0 : Ow (Rp.sl 2 Rp.int) 29 true W fa0_0 ba0_0 va0_0 a0_0) (nda0_0 : (bl ba0_0 ++ fa0_0).Nodup) {va0_1 : Value} {ba0_1 : Int} {fa0_1 : List Nat} {a0_1 : (List (List Int))} (ha0_1 : Ow (Rp.sl 2 Rp.int) 29 true W fa0_1 ba0_1 va0_1 a0_1) (nda0_1 : (bl ba0_1 ++ fa0_1).Nodup) {a1 : Int} (ha1 : InI a1) (qa0_0a0_1 : Nq (bl ba0_0 ++ fa0_0) ba0_1) (qa0_1a0_0 : Nq (bl ba0_1 ++ fa0_1) ba0_0) (nfa0_0a0_1 : ∀ k ∈ (bl ba0_0 ++ fa0_0 : List Nat), k ∉ fa0_1) (nfa0_1a0_0 : ∀ k ∈ (bl ba0_1 ++ fa0_1 : List Nat), k ∉ fa0_0) {r : (Int × ((List (List Int)) × (List (List Int))))} (hF : F_laws_markDecomp a0_0 a0_1 a1 = some r) :
    Calls Tryd.prog 14 [.agg #[va0_0, va0_1], .int .i64 a1].toArray W (Ret fun u w' => (u = .int .i64 r.1 ∧ InI r.1) ∧ Ow (Rp.sl 2 Rp.int) 29 true w' fa0_0 ba0_0 va0_0 r.2.1 ∧ Ow (Rp.sl 2 Rp.int) 29 true w' fa0_1 ba0_1 va0_1 r.2.2 ∧ Chg ((bl ba0_0 ++ fa0_0) ++ (bl ba0_1 ++ fa0_1)) W w') := by
  refine f_enter Tryd.func14 rfl Tryd.ntmps14 rfl ?_
  intro a ha
  replace ha : Fr 14 [(0, (.agg #[va0_0, va0_1])), (1, (.int .i64 a1))] a := ha
  have hE : Chg ((bl ba0_0 ++ fa0_0) ++ (bl ba0_1 ++ fa0_1)) W W := Chg.refl _ _
  unfold F_laws_markDecomp at hF
  refine wp_seq ?_; refine wp_region_lit ?_
  refine o_box ha rfl rfl rfl ?_; clear ha a; intro b1 w2 hB3 hx4 hlo5 a ha
  have q6 := Zn.one hlo5
  have q7 := Nq.new ha0_0.fpb q6
  have q8 := Nq.made1 hlo5 ha0_0.blt
  have q9 := Nf.old1 q6 ha0_0.bnd
  have q10 := Nq.new ha0_1.fpb q6
  have q11 := Nq.made1 hlo5 ha0_1.blt
  have q12 := Nf.old1 q6 ha0_1.bnd
  have q13 := Zn.upD q6 hE
  replace ha0_0 := ha0_0.ext hx4
  replace ha0_1 := ha0_1.ext hx4
  have hE14 := Chg.more hE hx4
  refine op_g ha rfl (g_assign rfl) ?_; clear ha a; intro a ha; refine wpList_nil ?_; replace ha := ha.sub (σ' := [(1, (.int .i64 a1)), (2, (.pointer (some ⟨b1, 0, none⟩)))]) ⟨rfl, rfl, trivial⟩; refine e_then ?_; refine wp_seq ?_; refine wp_region_lit ?_; refine op_g ha rfl (g_field0 st33_0 rfl) ?_; clear ha a; intro a ha; refine op_g ha rfl (g_load Tryd.isAgg22 rfl (hB3.cell rfl)) ?_; clear ha a; intro a ha; refine op_g ha rfl (g_move rfl) ?_; clear ha a; intro a ha; obtain ⟨x15, hc16, hF⟩ := cal_some hF
  refine o_call ha rfl rfl Tryd.call37 (W_laws_markInt64SS ha0_0 nda0_0 ha1 hc16) ?_; clear ha a; rintro v17 w18 ⟨⟨rfl, hI20⟩, h21, hx19⟩ a ha
  replace ha0_1 := ha0_1.off hx19 (Off.nest qa0_1a0_0 nfa0_1a0_0); replace hB3 := hB3.off hx19 (Off.nest q8 q9)
  have hE22 := Chg.join hE14 hx19 (S2.par (fun _ h => List.mem_append_left _ h))
  refine op_g ha rfl (g_assign rfl) ?_; clear ha a; intro a ha; refine wpList_nil ?_; replace ha := ha.sub (σ' := [(1, (.int .i64 x15.1)), (2, (.pointer (some ⟨b1, 0, none⟩)))]) ⟨rfl, rfl, trivial⟩; refine e_then ?_; refine wp_seq ?_; refine wp_region_lit ?_; refine op_g ha rfl (g_field0 st33_1 rfl) ?_; clear ha a; intro a ha; refine op_g ha rfl (g_load Tryd.isAgg22 rfl (hB3.cell rfl)) ?_; clear ha a; intro a ha; refine op_g ha rfl (g_move rfl) ?_; clear ha a; intro a ha; obtain ⟨x23, hc24, hF⟩ := cal_some hF
  refine o_call ha rfl rfl Tryd.call37 (W_laws_markInt64SS ha0_1 nda0_1 hI20 hc24) ?_; clear ha a; rintro v25 w26 ⟨⟨rfl, hI28⟩, h29, hx27⟩ a ha
  replace h21 := h21.off hx27 (Off.nest qa0_0a0_1 nfa0_0a0_1); replace hB3 := hB3.off hx27 (Off.nest q11 q12)
  have hE30 := Chg.join hE22 hx27 (S2.par (fun _ h => List.mem_append_right _ h))
  refine op_g ha rfl (g_assign rfl) ?_; clear ha a; intro a ha; refine wpList_nil ?_; replace ha := ha.sub (σ' := [(1, (.int .i64 x23.1))]) ⟨rfl, trivial⟩; refine e_then ?_; refine wp_seq ?_; refine wp_region_lit ?_; refine op_g ha rfl (g_move rfl) ?_; clear ha a; intro a ha; refine op_g ha rfl (g_assign rfl) ?_; clear ha a; intro a ha; refine wpList_nil ?_; replace ha := ha.sub (σ' := [(4, (.int .i64 x23.1))]) ⟨rfl, trivial⟩; refine e_then ?_; refine wp_ret ?_; obtain rfl := Option.some.inj hF
  exact f_ret1 ha rfl rfl ⟨⟨rfl, hI28⟩, h21, h29, hE30⟩
end Go.Proofs.YtadagcgehcpelaaDoor
