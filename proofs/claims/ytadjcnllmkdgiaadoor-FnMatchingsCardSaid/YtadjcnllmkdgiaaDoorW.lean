/- Walks, printed by gen.py. -/
import Derived.Test.YtadjcnllmkdgiaaDoorF
import Derived.Test.YtadjcnllmkdgiaaDoorW2
import Derived.Test.YtadjcnllmkdgiaaDoorProg
import Derived.KernelRfl
set_option maxRecDepth 100000
namespace Go.Proofs.YtadjcnllmkdgiaaDoor
open Go Go.RowKit

set_option maxHeartbeats 2000000 in
theorem W_impl_reach {W : World} {va0 : Value} {fa0 : List Nat} {a0 : (List (BitVec 32))} (ha0 : Ro Rp.u32 W fa0 va0 a0) {a1 : Int} (ha1 : InI a1) {a2 : BitVec 32} (hG : GT 0 W) {r : (BitVec 32)} (hF : F_impl_reach a0 a1 a2 = some r) :
    Calls Tryd.prog 98 [va0, .int .i64 a1, .int .u32 (BitVec.toNat a2 : Int)].toArray W (Ret fun u w' => u = .int .u32 (BitVec.toNat r : Int) ∧ Ext W w') := by
  refine f_enter Tryd.func98 rfl Tryd.ntmps98 rfl ?_
  intro a ha
  replace ha : Fr 35 [(0, va0), (1, (.int .i64 a1)), (2, (.int .u32 (BitVec.toNat a2 : Int)))] a := ha
  have hE : Chg [] W W := Chg.refl _ _
  unfold F_impl_reach at hF
  refine wp_seq ?_; refine wp_region_lit ?_; refine op_g ha rfl (g_assign rfl) ?_; clear ha a; intro a ha; refine wpList_nil ?_; replace ha := ha.sub (σ' := [(0, va0), (1, (.int .i64 a1)), (2, (.int .u32 (BitVec.toNat a2 : Int)))]) ⟨rfl, rfl, rfl, trivial⟩; refine e_then ?_; refine wp_seq ?_; refine wp_region_lit ?_; refine op_g ha rfl (g_move rfl) ?_; clear ha a; intro a ha; obtain ⟨x1, hc2, hF⟩ := cal_some hF
  refine o_call ha rfl rfl Tryd.call46 (W_impl_one ha1 hc2) ?_; clear ha a; rintro v3 w4 ⟨rfl, hx5⟩ a ha
  have hE6 := Ext.trans hE hx5
  refine op_g ha rfl (g_assign rfl) ?_; clear ha a; intro a ha; refine wpList_nil ?_; replace ha := ha.sub (σ' := [(0, va0), (2, (.int .u32 (BitVec.toNat a2 : Int))), (7, (.int .u32 (BitVec.toNat x1 : Int)))]) ⟨rfl, rfl, rfl, trivial⟩; refine e_then ?_; obtain ⟨o273, ho274, hK275⟩ := bnd_some hF
  obtain ⟨n276, hn277⟩ := lp_some ho274; clear ho274
  refine c_loop (fun a w => Fr 35 [] a ∧ Chg [] W w ∧ o273 = .inl ()) (fun n a w => ∃ (u140 : BitVec 32), Fr 35 [(0, va0), (2, (.int .u32 (BitVec.toNat a2 : Int))), (7, (.int .u32 (BitVec.toNat u140 : Int)))] a ∧ Chg [] W w ∧ lpN (fun s => F_impl_reach_l1 a0 a2 s) n u140 = some o273) n276 ⟨x1, ha.sub ⟨rfl, rfl, rfl, trivial⟩, hE6, hn277⟩ ?_ ?_
  · rintro m281 a w139 ⟨u140, ha, hE141, hF⟩
    cases m281 with
    | zero => exact (lpN_zero hF).elim
    | succ m281 =>
      obtain ⟨z280, hF, hN279⟩ := lpN_succ hF
      have hF : F_impl_reach_l1 a0 a2 u140 = some z280 := hF; unfold F_impl_reach_l1 at hF
      refine wp_block ?_; refine wp_seq ?_; refine wp_region_lit ?_; refine op_g ha rfl (g_move rfl) ?_; clear ha a; intro a ha; refine op_g ha rfl (g_assign rfl) ?_; clear ha a; intro a ha; refine wpList_nil ?_; replace ha := ha.sub (σ' := [(0, va0), (2, (.int .u32 (BitVec.toNat a2 : Int))), (7, (.int .u32 (BitVec.toNat u140 : Int))), (8, (.int .u32 (BitVec.toNat u140 : Int)))]) ⟨rfl, rfl, rfl, rfl, trivial⟩; refine e_then ?_; refine wp_seq ?_; refine wp_seq ?_; refine wp_region_lit ?_; refine op_g ha rfl (g_move rfl) ?_; clear ha a; intro a ha; obtain ⟨x282, hc283, hF⟩ := cal_some hF
      refine o_call ha rfl rfl Tryd.call32 (W_impl_vset_list (hG.ext hE141) hc283) ?_; clear ha a; rintro v284 w285 ⟨b287, h288, z289, hx286⟩ a ha
      have hE291 := Ext.trans hE141 hx286
      have q292 := Zn.upD z289 hE141
      refine op_g ha rfl (g_lenO sl54.und h288 rfl) ?_; clear ha a; intro a ha; refine op_g ha rfl (g_move rfl) ?_; clear ha a; intro a ha; refine wpList_nil ?_; replace ha := ha.sub (σ' := [(0, va0), (2, (.int .u32 (BitVec.toNat a2 : Int))), (7, (.int .u32 (BitVec.toNat u140 : Int))), (8, (.int .u32 (BitVec.toNat u140 : Int))), (15, v284), (16, (.int .i64 (x282.length : Int))), (17, (.int .i64 0))]) ⟨rfl, rfl, rfl, rfl, rfl, rfl, rfl, trivial⟩; refine e_then ?_; obtain ⟨o374, ho375, hK376⟩ := bnd_some hF
      obtain ⟨n377, hn378⟩ := lp_some ho375; clear ho375
      refine c_loop (fun a w => ∃ (u373 : BitVec 32), Fr 35 [(0, va0), (2, (.int .u32 (BitVec.toNat a2 : Int))), (7, (.int .u32 (BitVec.toNat u140 : Int))), (8, (.int .u32 (BitVec.toNat u373 : Int)))] a ∧ Chg [] W w ∧ o374 = .inl u373) (fun n a w => ∃ (u332 : BitVec 32) (i336 : Int), Fr 35 [(0, va0), (2, (.int .u32 (BitVec.toNat a2 : Int))), (7, (.int .u32 (BitVec.toNat u140 : Int))), (8, (.int .u32 (BitVec.toNat u332 : Int))), (15, v284), (16, (.int .i64 (x282.length : Int))), (17, (.int .i64 i336))] a ∧ Chg [] W w ∧ InI i336 ∧ Ow Rp.int 3 true w [] b287 v284 x282 ∧ Zn W b287 ∧ lpN (fun s => F_impl_reach_l2 a0 a2 x282 s.1 s.2) n (u332, i336) = some o374) n377 ⟨u140, 0, ha.sub ⟨rfl, rfl, rfl, rfl, rfl, rfl, rfl, trivial⟩, hE291, (show InI 0 from by decide), h288, q292, hn378⟩ ?_ ?_
      · rintro m382 a w331 ⟨u332, i336, ha, hE338, hI337, h334, z335, hF⟩
        cases m382 with
        | zero => exact (lpN_zero hF).elim
        | succ m382 =>
          obtain ⟨z381, hF, hN380⟩ := lpN_succ hF
          have hF : F_impl_reach_l2 a0 a2 x282 u332 i336 = some z381 := hF; unfold F_impl_reach_l2 at hF
          refine wp_seq ?_; refine wp_region_lit ?_; refine op_g ha rfl (g_lss rfl rfl) ?_; clear ha a; intro a ha; refine wpList_nil ?_; replace ha := ha.sub (σ' := [(0, va0), (2, (.int .u32 (BitVec.toNat a2 : Int))), (7, (.int .u32 (BitVec.toNat u140 : Int))), (8, (.int .u32 (BitVec.toNat u332 : Int))), (15, v284), (16, (.int .i64 (x282.length : Int))), (17, (.int .i64 i336)), (18, (.bool (decide (i336 < (x282.length : Int)))))]) ⟨rfl, rfl, rfl, rfl, rfl, rfl, rfl, rfl, trivial⟩; refine e_then ?_; refine wp_seq ?_; refine c_cond (i336 < (x282.length : Int)) ha rfl (decide_eq_true_iff) (fun hp383 => ?_) (fun hp383 => ?_)
          · replace hF := if_t hp383 hF
            refine wp_skip ?_; refine e_then ?_; refine wp_seq ?_; refine wp_block ?_; refine wp_seq ?_; refine wp_region_lit ?_; obtain ⟨x384, g385, gx386, hF⟩ := idx_some hF
            obtain ⟨p387, cs388, f389, hf390, hpb391, hat392, hr393, hi394⟩ := h334.at g385 gx386
            obtain ⟨rfl, hI395, rfl⟩ := hr393
            refine op_g ha rfl (hi394.gives sl54 rfl rfl) ?_; clear ha a; intro a ha; refine op_g ha rfl (g_load Tryd.isAgg3 rfl hat392.one) ?_; clear ha a; intro a ha; refine op_g ha rfl (g_assign rfl) ?_; clear ha a; intro a ha; refine wpList_nil ?_; replace ha := ha.sub (σ' := [(0, va0), (2, (.int .u32 (BitVec.toNat a2 : Int))), (7, (.int .u32 (BitVec.toNat u140 : Int))), (8, (.int .u32 (BitVec.toNat u332 : Int))), (10, (.int .i64 x384)), (15, v284), (16, (.int .i64 (x282.length : Int))), (17, (.int .i64 i336))]) ⟨rfl, rfl, rfl, rfl, rfl, rfl, rfl, rfl, trivial⟩; refine e_then ?_; refine wp_region_lit ?_
            (iterate 3 refine op_g ha rfl (g_move rfl) ?_; clear ha a; intro a ha); obtain ⟨x396, g397, gx398, hF⟩ := idx_some hF
            obtain ⟨p399, cs400, f401, hf402, hpb403, hat404, hr405, hi406⟩ := ha0.at g397 gx398
            obtain ⟨rfl, rfl⟩ := hr405
            refine op_g ha rfl (hi406.gives sl50 rfl rfl) ?_; clear ha a; intro a ha; refine op_g ha rfl (g_load0 hE338 Tryd.isAgg53 rfl hat404.one) ?_; clear ha a; intro a ha; refine op_g ha rfl (g_move rfl) ?_; clear ha a; intro a ha; refine op_g ha rfl (g32_and (m := x396) (n := a2) rfl rfl) ?_; clear ha a; intro a ha; refine op_g ha rfl (g32_or (m := u332) (n := (x396 &&& a2)) rfl rfl) ?_; clear ha a; intro a ha; refine op_g ha rfl (g_assign rfl) ?_; clear ha a; intro a ha; refine wpList_nil ?_; replace ha := ha.sub (σ' := [(0, va0), (2, (.int .u32 (BitVec.toNat a2 : Int))), (7, (.int .u32 (BitVec.toNat u140 : Int))), (8, (.int .u32 (BitVec.toNat (u332 ||| (x396 &&& a2)) : Int))), (15, v284), (16, (.int .i64 (x282.length : Int))), (17, (.int .i64 i336))]) ⟨rfl, rfl, rfl, rfl, rfl, rfl, rfl, trivial⟩
            refine e_blk ?_; refine e_then ?_; refine wp_region_lit ?_; obtain ⟨hI407, hF⟩ := ck_some hF; refine op_g ha rfl (g_add rfl rfl hI407) ?_; clear ha a; intro a ha; refine op_g ha rfl (g_move rfl) ?_; clear ha a; intro a ha; refine wpList_nil ?_; replace ha := ha.sub (σ' := [(0, va0), (2, (.int .u32 (BitVec.toNat a2 : Int))), (7, (.int .u32 (BitVec.toNat u140 : Int))), (8, (.int .u32 (BitVec.toNat (u332 ||| (x396 &&& a2)) : Int))), (15, v284), (16, (.int .i64 (x282.length : Int))), (17, (.int .i64 (i336 + 1)))]) ⟨rfl, rfl, rfl, rfl, rfl, rfl, rfl, trivial⟩; refine e_lq ?_; obtain rfl := Option.some.inj hF
            exact ⟨_, Nat.lt_succ_self _, u332 ||| (x396 &&& a2), i336 + 1, ha.sub ⟨rfl, rfl, rfl, rfl, rfl, rfl, rfl, trivial⟩, hE338, hI407, h334, z335, hN380⟩
          replace hF := if_f hp383 hF; refine wp_exit ?_; refine e_then_exit ?_; refine e_lq_eq ?_; obtain rfl := Option.some.inj hF
          exact ⟨u332, ha.sub ⟨rfl, rfl, rfl, rfl, trivial⟩, hE338, (LK_inr hN380).symm⟩
      rintro a w372 ⟨u373, ha, hE379, rfl⟩
      have hF : F_impl_reach_k3 u140 u373 = some _ := hK376; clear hK376; unfold F_impl_reach_k3 at hF
      refine e_then ?_; refine wp_seq ?_; refine wp_seq ?_; refine wp_region_lit ?_; (iterate 2 refine op_g ha rfl (g_move rfl) ?_; clear ha a; intro a ha); refine op_g ha rfl (g32_eql (m := u373) (n := u140) rfl rfl) ?_; clear ha a; intro a ha; refine wpList_nil ?_; replace ha := ha.sub (σ' := [(0, va0), (2, (.int .u32 (BitVec.toNat a2 : Int))), (7, (.int .u32 (BitVec.toNat u140 : Int))), (8, (.int .u32 (BitVec.toNat u373 : Int))), (32, (.bool (decide (u373 = u140))))]) ⟨rfl, rfl, rfl, rfl, rfl, trivial⟩; refine e_then ?_; refine c_cond (u373 = u140) ha rfl (decide_eq_true_iff) (fun hp409 => ?_) (fun hp409 => ?_)
      · replace hF := if_t hp409 hF
        refine wp_seq ?_; refine wp_region_lit ?_; refine op_g ha rfl (g_move rfl) ?_; clear ha a; intro a ha; refine op_g ha rfl (g_assign rfl) ?_; clear ha a; intro a ha; refine wpList_nil ?_; replace ha := ha.sub (σ' := [(6, (.int .u32 (BitVec.toNat u140 : Int)))]) ⟨rfl, trivial⟩; refine e_then ?_; refine wp_ret ?_; refine e_then_ret ?_; refine e_blk_ret ?_; refine e_lq_ret ?_; obtain rfl := Option.some.inj hF
        have e410 := LK_inr hN279; subst e410
        have e411 := BK_inr hK275; subst e411
        exact f_ret1 ha rfl rfl ⟨rfl, hE379⟩
      replace hF := if_f hp409 hF; refine wp_skip ?_; refine e_then ?_; refine wp_region_lit ?_; refine op_g ha rfl (g_move rfl) ?_; clear ha a; intro a ha; refine op_g ha rfl (g_assign rfl) ?_; clear ha a; intro a ha; refine wpList_nil ?_; replace ha := ha.sub (σ' := [(0, va0), (2, (.int .u32 (BitVec.toNat a2 : Int))), (7, (.int .u32 (BitVec.toNat u373 : Int)))]) ⟨rfl, rfl, rfl, trivial⟩; refine e_blk ?_; refine e_lq ?_; obtain rfl := Option.some.inj hF
      exact ⟨_, Nat.lt_succ_self _, u373, ha.sub ⟨rfl, rfl, rfl, trivial⟩, hE379, hN279⟩
  rintro a w272 ⟨ha, hE278, rfl⟩
  cases hK275
set_option maxHeartbeats 2000000 in
theorem W_impl_partsOf {W : World} {va0 : Value} {fa0 : List Nat} {a0 : (List (BitVec 32))} (ha0 : Ro Rp.u32 W fa0 va0 a0) {a1 : BitVec 32} (hG : GT 0 W) {r : (List (BitVec 32))} (hF : F_impl_partsOf a0 a1 = some r) :
    Calls Tryd.prog 89 [va0, .int .u32 (BitVec.toNat a1 : Int)].toArray W (Ret fun u w' => ∃ (b_u : Int), Ow Rp.u32 53 true w' [] b_u u r ∧ Zn W b_u ∧ Ext W w') := by
  refine f_enter Tryd.func89 rfl Tryd.ntmps89 rfl ?_
  intro a ha
  replace ha : Fr 23 [(0, va0), (1, (.int .u32 (BitVec.toNat a1 : Int)))] a := ha
  have hE : Chg [] W W := Chg.refl _ _
  unfold F_impl_partsOf at hF
  refine wp_seq ?_; refine wp_region_lit ?_; refine op_g ha rfl (g_assign rfl) ?_; clear ha a; intro a ha; refine wpList_nil ?_; replace ha := ha.sub (σ' := [(0, va0), (1, (.int .u32 (BitVec.toNat a1 : Int)))]) ⟨rfl, rfl, trivial⟩; refine e_then ?_; refine wp_seq ?_; refine wp_region_lit ?_
  refine o_lit0 Rp.u32 ha rfl sl48 ?_; clear ha a; intro v1 w2 h3 hx4 a ha
  obtain ⟨b6, hb6⟩ : ∃ b : Int, b = W.heap.size := ⟨_, rfl⟩; rw [← hb6] at h3
  have q7 := zn_of hb6
  have q8 := Zn.upD q7 hE
  have hE9 := Ext.trans hE hx4
  refine op_g ha rfl (g_assign rfl) ?_; clear ha a; intro a ha; refine wpList_nil ?_; replace ha := ha.sub (σ' := [(0, va0), (1, (.int .u32 (BitVec.toNat a1 : Int))), (5, v1)]) ⟨rfl, rfl, rfl, trivial⟩; refine e_then ?_; refine wp_seq ?_; obtain ⟨o121, ho122, hK123⟩ := bnd_some hF
  obtain ⟨n124, hn125⟩ := lp_some ho122; clear ho122
  refine c_loop (fun a w => ∃ (l118 : (List (BitVec 32))) (v119 : Value) (b120 : Int), Fr 23 [(5, v119)] a ∧ Chg [] W w ∧ Ow Rp.u32 53 true w [] b120 v119 l118 ∧ Zn W b120 ∧ o121 = .inl l118) (fun n a w => ∃ (u61 : BitVec 32) (l65 : (List (BitVec 32))) (v66 : Value) (b67 : Int), Fr 23 [(0, va0), (1, (.int .u32 (BitVec.toNat u61 : Int))), (5, v66)] a ∧ Chg [] W w ∧ Ow Rp.u32 53 true w [] b67 v66 l65 ∧ Zn W b67 ∧ lpN (fun s => F_impl_partsOf_l1 a0 s.1 s.2) n (u61, l65) = some o121) n124 ⟨a1, ([] : (List (BitVec 32))), v1, b6, ha.sub ⟨rfl, rfl, rfl, trivial⟩, hE9, h3, q8, hn125⟩ ?_ ?_
  · rintro m129 a w60 ⟨u61, l65, v66, b67, ha, hE68, h63, z64, hF⟩
    cases m129 with
    | zero => exact (lpN_zero hF).elim
    | succ m129 =>
      obtain ⟨z128, hF, hN127⟩ := lpN_succ hF
      have hF : F_impl_partsOf_l1 a0 u61 l65 = some z128 := hF; unfold F_impl_partsOf_l1 at hF
      refine wp_seq ?_; refine wp_seq ?_; refine wp_region_lit ?_; refine op_g ha rfl (g_move rfl) ?_; clear ha a; intro a ha; refine op_g ha rfl (g32_neq (m := u61) (n := (0#32)) rfl rfl) ?_; clear ha a; intro a ha; refine wpList_nil ?_; replace ha := ha.sub (σ' := [(0, va0), (1, (.int .u32 (BitVec.toNat u61 : Int))), (5, v66), (9, (.bool (decide (u61 ≠ (0#32)))))]) ⟨rfl, rfl, rfl, rfl, trivial⟩; refine e_then ?_; refine c_cond (u61 ≠ (0#32)) ha rfl (decide_eq_true_iff) (fun hp130 => ?_) (fun hp130 => ?_)
      · replace hF := if_t hp130 hF
        refine wp_skip ?_; refine e_then ?_; refine wp_block ?_; refine wp_seq ?_; refine wp_region_lit ?_; (iterate 2 refine op_g ha rfl (g_move rfl) ?_; clear ha a; intro a ha); obtain ⟨x131, hc132, hF⟩ := cal_some hF
        refine o_call ha rfl rfl Tryd.call75 (W_impl_vset_least (hG.ext hE68) hc132) ?_; clear ha a; rintro v133 w134 ⟨⟨rfl, hI136⟩, hx135⟩ a ha
        replace h63 := h63.ext hx135
        have hE137 := Ext.trans hE68 hx135
        refine op_g ha rfl (g_move rfl) ?_; clear ha a; intro a ha; obtain ⟨x138, hc139, hF⟩ := cal_some hF
        refine o_call ha rfl rfl Tryd.call98 (W_impl_reach (ha0.ext hE137) hI136 (hG.ext hE137) hc139) ?_; clear ha a; rintro v140 w141 ⟨rfl, hx142⟩ a ha
        replace h63 := h63.ext hx142
        have hE143 := Ext.trans hE137 hx142
        refine op_g ha rfl (g_assign rfl) ?_; clear ha a; intro a ha; refine wpList_nil ?_; replace ha := ha.sub (σ' := [(0, va0), (1, (.int .u32 (BitVec.toNat u61 : Int))), (5, v66), (6, (.int .u32 (BitVec.toNat x138 : Int)))]) ⟨rfl, rfl, rfl, rfl, trivial⟩; refine e_then ?_; refine wp_seq ?_; refine wp_region_lit ?_; (iterate 2 refine op_g ha rfl (g_move rfl) ?_; clear ha a; intro a ha)
        refine o_lit1 (o := true) (y := x138) Rp.u32 ha rfl sl48 rfl rfl rfl ⟨rfl, rfl⟩ ?_; clear ha a; intro v144 w145 h146 hx147 a ha
        obtain ⟨b149, hb149⟩ : ∃ b : Int, b = w141.heap.size := ⟨_, rfl⟩; rw [← hb149] at h146
        have q150 := zn_of hb149
        have q151 := Nq.new h63.fpb q150
        have q152 := Nq.madeO q150 h63.blt
        have q153 := Zn.upD q150 hE143
        replace h63 := h63.ext hx147
        have hE154 := Ext.trans hE143 hx147
        obtain ⟨hl155, hF⟩ := app_some hF
        refine o_append ha rfl sl48 rfl rfl rfl h63 h146.src (Nq.nil _) hl155 ?_; clear ha a; intro v156 w157 b158 h159 hc160 hb161 a ha
        replace h159 : Ow Rp.u32 53 true w157 [] b158 v156 _ := h159
        have q163 := Nq.appY q152 h146.fpb hb161
        have q164 := Nq.appX q151 (Nq.nil _) hb161 h146.blt
        have q165 := Zn.appD z64 hb161 hE154
        replace h146 := h146.nq hc160 q152
        have hE166 := Ext.then hE154 hc160 (Zn.bl z64)
        refine op_g ha rfl (g_assign rfl) ?_; clear ha a; intro a ha; refine wpList_nil ?_; replace ha := ha.sub (σ' := [(0, va0), (1, (.int .u32 (BitVec.toNat u61 : Int))), (5, v156), (6, (.int .u32 (BitVec.toNat x138 : Int)))]) ⟨rfl, rfl, rfl, rfl, trivial⟩; refine e_then ?_; refine wp_region_lit ?_; (iterate 2 refine op_g ha rfl (g_move rfl) ?_; clear ha a; intro a ha); refine op_g ha rfl (g32_andNot (m := u61) (n := x138) rfl rfl) ?_; clear ha a; intro a ha; refine op_g ha rfl (g_assign rfl) ?_; clear ha a; intro a ha; refine wpList_nil ?_; replace ha := ha.sub (σ' := [(0, va0), (1, (.int .u32 (BitVec.toNat (u61 &&& ~~~x138) : Int))), (5, v156)]) ⟨rfl, rfl, rfl, trivial⟩
        refine e_blk ?_; refine e_lq ?_; obtain rfl := Option.some.inj hF
        exact ⟨_, Nat.lt_succ_self _, u61 &&& ~~~x138, (l65 ++ ([x138])), v156, b158, ha.sub ⟨rfl, rfl, rfl, trivial⟩, hE166, h159, q165, hN127⟩
      replace hF := if_f hp130 hF; refine wp_exit ?_; refine e_then_exit ?_; refine e_lq_eq ?_; obtain rfl := Option.some.inj hF
      exact ⟨l65, v66, b67, ha.sub ⟨rfl, trivial⟩, hE68, h63, z64, (LK_inr hN127).symm⟩
  rintro a w114 ⟨l118, v119, b120, ha, hE126, h116, z117, rfl⟩
  have hF : F_impl_partsOf_k2 l118 = some _ := hK123; clear hK123; unfold F_impl_partsOf_k2 at hF
  refine e_then ?_; refine wp_seq ?_; refine wp_region_lit ?_; refine op_g ha rfl (g_move rfl) ?_; clear ha a; intro a ha; refine op_g ha rfl (g_assign rfl) ?_; clear ha a; intro a ha; refine wpList_nil ?_; replace ha := ha.sub (σ' := [(4, v119)]) ⟨rfl, trivial⟩; refine e_then ?_; refine wp_ret ?_; obtain rfl := Option.some.inj hF
  exact f_ret1 ha rfl rfl ⟨_, h116, z117, hE126⟩
set_option maxHeartbeats 2000000 in
theorem W_math_bits_OnesCount32 {W : World} {a0 : BitVec 32} {r : Int} (hF : F_math_bits_OnesCount32 a0 = some r) :
    Calls Tryd.prog 99 [.int .u32 (BitVec.toNat a0 : Int)].toArray W (Ret fun u w' => (u = .int .i64 r ∧ InI r) ∧ Ext W w') := by
  refine f_enter Tryd.func99 rfl Tryd.ntmps99 rfl ?_
  intro a ha
  replace ha : Fr 21 [(0, (.int .u32 (BitVec.toNat a0 : Int)))] a := ha
  have hE : Chg [] W W := Chg.refl _ _
  unfold F_math_bits_OnesCount32 at hF
  refine wp_seq ?_; refine wp_region_lit ?_; refine op_g ha rfl (g_assign rfl) ?_; clear ha a; intro a ha; refine wpList_nil ?_; replace ha := ha.sub (σ' := [(0, (.int .u32 (BitVec.toNat a0 : Int)))]) ⟨rfl, trivial⟩; refine e_then ?_; refine wp_seq ?_; refine d_quiet hmix (by kernel_rfl) ?_; refine q_g ha rfl (g_move rfl) ?_; clear ha a; intro a ha; refine q_g ha rfl (g32_shr (m := a0) rfl rfl (show InU 24 from by decide).1) ?_; clear ha a; intro a ha; obtain ⟨x1, g2, gx3, hF⟩ := idx_some hF; refine q_g ha rfl (g_strIdx un9 rfl rfl g2 (str_at (tab := popTab) (by kernel_rfl) gx3)) ?_; clear ha a; intro a ha
  refine q_g ha rfl (g_move rfl) ?_; clear ha a; intro a ha; refine q_g ha rfl (g32_shr (m := a0) rfl rfl (show InU 16 from by decide).1) ?_; clear ha a; intro a ha; refine q_g ha rfl (g32_and (m := (a0 >>> (16 : Int).toNat)) (n := (255#32)) rfl rfl) ?_; clear ha a; intro a ha; obtain ⟨x4, g5, gx6, hF⟩ := idx_some hF; refine q_g ha rfl (g_strIdx un9 rfl rfl g5 (str_at (tab := popTab) (by kernel_rfl) gx6)) ?_; clear ha a; intro a ha; refine q_g ha rfl (g8_add (m := x1) (n := x4) rfl rfl) ?_; clear ha a; intro a ha; refine q_g ha rfl (g_move rfl) ?_; clear ha a; intro a ha; refine q_g ha rfl (g32_shr (m := a0) rfl rfl (show InU 8 from by decide).1) ?_; clear ha a; intro a ha
  refine q_g ha rfl (g32_and (m := (a0 >>> (8 : Int).toNat)) (n := (255#32)) rfl rfl) ?_; clear ha a; intro a ha; obtain ⟨x7, g8, gx9, hF⟩ := idx_some hF; refine q_g ha rfl (g_strIdx un9 rfl rfl g8 (str_at (tab := popTab) (by kernel_rfl) gx9)) ?_; clear ha a; intro a ha; refine q_g ha rfl (g8_add (m := (x1 + x4)) (n := x7) rfl rfl) ?_; clear ha a; intro a ha; refine q_g ha rfl (g_move rfl) ?_; clear ha a; intro a ha; refine q_g ha rfl (g32_and (m := a0) (n := (255#32)) rfl rfl) ?_; clear ha a; intro a ha; obtain ⟨x10, g11, gx12, hF⟩ := idx_some hF; refine q_g ha rfl (g_strIdx un9 rfl rfl g11 (str_at (tab := popTab) (by kernel_rfl) gx12)) ?_; clear ha a; intro a ha
  refine q_g ha rfl (g8_add (m := ((x1 + x4) + x7)) (n := x10) rfl rfl) ?_; clear ha a; intro a ha; refine q_g ha rfl (g_conv8 (m := (((x1 + x4) + x7) + x10)) un5 un3 rfl) ?_; clear ha a; intro a ha; refine q_g ha rfl (g_assign rfl) ?_; clear ha a; intro a ha
  refine q_nil ?_; intro w13 hx14
  have hE15 := Ext.trans hE hx14
  replace ha := ha.sub (σ' := [(2, (.int .i64 (BitVec.toNat (((x1 + x4) + x7) + x10) : Int)))]) ⟨rfl, trivial⟩; refine e_then ?_; refine wp_ret ?_; obtain rfl := Option.some.inj hF
  exact f_ret1 ha rfl rfl ⟨⟨rfl, (in_u8 _)⟩, hE15⟩
set_option maxHeartbeats 2000000 in
theorem W_impl_vset_size {W : World} {a0 : BitVec 32} {r : Int} (hF : F_impl_vset_size a0 = some r) :
    Calls Tryd.prog 90 [.int .u32 (BitVec.toNat a0 : Int)].toArray W (Ret fun u w' => (u = .int .i64 r ∧ InI r) ∧ Ext W w') := by
  refine f_enter Tryd.func90 rfl Tryd.ntmps90 rfl ?_
  intro a ha
  replace ha : Fr 5 [(0, (.int .u32 (BitVec.toNat a0 : Int)))] a := ha
  have hE : Chg [] W W := Chg.refl _ _
  unfold F_impl_vset_size at hF
  refine wp_seq ?_; refine wp_region_lit ?_; refine op_g ha rfl (g_assign rfl) ?_; clear ha a; intro a ha; refine wpList_nil ?_; replace ha := ha.sub (σ' := [(0, (.int .u32 (BitVec.toNat a0 : Int)))]) ⟨rfl, trivial⟩; refine e_then ?_; refine wp_seq ?_; refine wp_region_lit ?_; refine op_g ha rfl (g_move rfl) ?_; clear ha a; intro a ha; obtain ⟨x1, hc2, hF⟩ := cal_some hF
  refine o_call ha rfl rfl Tryd.call99 (W_math_bits_OnesCount32  hc2) ?_; clear ha a; rintro v3 w4 ⟨⟨rfl, hI6⟩, hx5⟩ a ha
  have hE7 := Ext.trans hE hx5
  refine op_g ha rfl (g_assign rfl) ?_; clear ha a; intro a ha; refine wpList_nil ?_; replace ha := ha.sub (σ' := [(2, (.int .i64 x1))]) ⟨rfl, trivial⟩; refine e_then ?_; refine wp_ret ?_; obtain rfl := Option.some.inj hF
  exact f_ret1 ha rfl rfl ⟨⟨rfl, hI6⟩, hE7⟩
set_option maxHeartbeats 2000000 in
theorem W_impl_oddParts {W : World} {va0 : Value} {fa0 : List Nat} {a0 : (List (BitVec 32))} (ha0 : Ro Rp.u32 W fa0 va0 a0) {a1 : BitVec 32} (hG : GT 0 W) {r : Int} (hF : F_impl_oddParts a0 a1 = some r) :
    Calls Tryd.prog 65 [va0, .int .u32 (BitVec.toNat a1 : Int)].toArray W (Ret fun u w' => (u = .int .i64 r ∧ InI r) ∧ Ext W w') := by
  refine f_enter Tryd.func65 rfl Tryd.ntmps65 rfl ?_
  intro a ha
  replace ha : Fr 23 [(0, va0), (1, (.int .u32 (BitVec.toNat a1 : Int)))] a := ha
  have hE : Chg [] W W := Chg.refl _ _
  unfold F_impl_oddParts at hF
  refine wp_seq ?_; refine wp_region_lit ?_; refine op_g ha rfl (g_assign rfl) ?_; clear ha a; intro a ha; refine wpList_nil ?_; replace ha := ha.sub (σ' := [(0, va0), (1, (.int .u32 (BitVec.toNat a1 : Int)))]) ⟨rfl, rfl, trivial⟩; refine e_then ?_; refine wp_seq ?_; refine wp_region_lit ?_; refine op_g ha rfl (g_assign rfl) ?_; clear ha a; intro a ha; refine wpList_nil ?_; refine e_then ?_; refine wp_seq ?_; refine wp_seq ?_; refine wp_region_lit ?_; (iterate 2 refine op_g ha rfl (g_move rfl) ?_; clear ha a; intro a ha); obtain ⟨x1, hc2, hF⟩ := cal_some hF
  refine o_call ha rfl rfl Tryd.call89 (W_impl_partsOf (ha0.ext hE) (hG.ext hE) hc2) ?_; clear ha a; rintro v3 w4 ⟨b6, h7, z8, hx5⟩ a ha
  have hE10 := Ext.trans hE hx5
  have q11 := Zn.upD z8 hE
  refine op_g ha rfl (g_lenO sl48.und h7 rfl) ?_; clear ha a; intro a ha; refine op_g ha rfl (g_move rfl) ?_; clear ha a; intro a ha; refine wpList_nil ?_; replace ha := ha.sub (σ' := [(5, (.int .i64 0)), (10, v3), (11, (.int .i64 (x1.length : Int))), (12, (.int .i64 0))]) ⟨rfl, rfl, rfl, rfl, trivial⟩; refine e_then ?_; obtain ⟨o95, ho96, hK97⟩ := bnd_some hF
  obtain ⟨n98, hn99⟩ := lp_some ho96; clear ho96
  refine c_loop (fun a w => ∃ (i93 : Int), Fr 23 [(5, (.int .i64 i93))] a ∧ Chg [] W w ∧ InI i93 ∧ o95 = .inl i93) (fun n a w => ∃ (i51 : Int) (i56 : Int), Fr 23 [(5, (.int .i64 i51)), (10, v3), (11, (.int .i64 (x1.length : Int))), (12, (.int .i64 i56))] a ∧ Chg [] W w ∧ InI i51 ∧ InI i56 ∧ Ow Rp.u32 53 true w [] b6 v3 x1 ∧ Zn W b6 ∧ lpN (fun s => F_impl_oddParts_l1 x1 s.1 s.2) n (i51, i56) = some o95) n98 ⟨0, 0, ha.sub ⟨rfl, rfl, rfl, rfl, trivial⟩, hE10, (show InI 0 from by decide), (show InI 0 from by decide), h7, q11, hn99⟩ ?_ ?_
  · rintro m103 a w50 ⟨i51, i56, ha, hE58, hI52, hI57, h54, z55, hF⟩
    cases m103 with
    | zero => exact (lpN_zero hF).elim
    | succ m103 =>
      obtain ⟨z102, hF, hN101⟩ := lpN_succ hF
      have hF : F_impl_oddParts_l1 x1 i51 i56 = some z102 := hF; unfold F_impl_oddParts_l1 at hF
      refine wp_seq ?_; refine wp_region_lit ?_; refine op_g ha rfl (g_lss rfl rfl) ?_; clear ha a; intro a ha; refine wpList_nil ?_; replace ha := ha.sub (σ' := [(5, (.int .i64 i51)), (10, v3), (11, (.int .i64 (x1.length : Int))), (12, (.int .i64 i56)), (13, (.bool (decide (i56 < (x1.length : Int)))))]) ⟨rfl, rfl, rfl, rfl, rfl, trivial⟩; refine e_then ?_; refine wp_seq ?_; refine c_cond (i56 < (x1.length : Int)) ha rfl (decide_eq_true_iff) (fun hp104 => ?_) (fun hp104 => ?_)
      · replace hF := if_t hp104 hF
        refine wp_skip ?_; refine e_then ?_; refine wp_seq ?_; refine wp_block ?_; refine wp_seq ?_; refine wp_region_lit ?_; obtain ⟨x105, g106, gx107, hF⟩ := idx_some hF
        obtain ⟨p108, cs109, f110, hf111, hpb112, hat113, hr114, hi115⟩ := h54.at g106 gx107
        obtain ⟨rfl, rfl⟩ := hr114
        refine op_g ha rfl (hi115.gives sl48 rfl rfl) ?_; clear ha a; intro a ha; refine op_g ha rfl (g_load Tryd.isAgg53 rfl hat113.one) ?_; clear ha a; intro a ha; refine op_g ha rfl (g_assign rfl) ?_; clear ha a; intro a ha; refine wpList_nil ?_; replace ha := ha.sub (σ' := [(5, (.int .i64 i51)), (7, (.int .u32 (BitVec.toNat x105 : Int))), (10, v3), (11, (.int .i64 (x1.length : Int))), (12, (.int .i64 i56))]) ⟨rfl, rfl, rfl, rfl, rfl, trivial⟩; refine e_then ?_; refine wp_region_lit ?_; (iterate 2 refine op_g ha rfl (g_move rfl) ?_; clear ha a; intro a ha); obtain ⟨x116, hc117, hF⟩ := cal_some hF
        refine o_call ha rfl rfl Tryd.call90 (W_impl_vset_size  hc117) ?_; clear ha a; rintro v118 w119 ⟨⟨rfl, hI121⟩, hx120⟩ a ha
        replace h54 := h54.ext hx120
        have hE122 := Ext.trans hE58 hx120
        obtain ⟨hq123, hF⟩ := grd_some hF
        have hI124 := in_rem hI121 hq123.1 hq123.2
        refine op_g ha rfl (g_rem rfl rfl hI121 hq123.1 hq123.2) ?_; clear ha a; intro a ha; obtain ⟨hI125, hF⟩ := ck_some hF; refine op_g ha rfl (g_add rfl rfl hI125) ?_; clear ha a; intro a ha; refine op_g ha rfl (g_assign rfl) ?_; clear ha a; intro a ha; refine wpList_nil ?_; replace ha := ha.sub (σ' := [(5, (.int .i64 (i51 + (x116 % 2)))), (10, v3), (11, (.int .i64 (x1.length : Int))), (12, (.int .i64 i56))]) ⟨rfl, rfl, rfl, rfl, trivial⟩; refine e_blk ?_; refine e_then ?_; refine wp_region_lit ?_; obtain ⟨hI127, hF⟩ := ck_some hF; refine op_g ha rfl (g_add rfl rfl hI127) ?_; clear ha a; intro a ha
        refine op_g ha rfl (g_move rfl) ?_; clear ha a; intro a ha; refine wpList_nil ?_; replace ha := ha.sub (σ' := [(5, (.int .i64 (i51 + (x116 % 2)))), (10, v3), (11, (.int .i64 (x1.length : Int))), (12, (.int .i64 (i56 + 1)))]) ⟨rfl, rfl, rfl, rfl, trivial⟩; refine e_lq ?_; obtain rfl := Option.some.inj hF
        exact ⟨_, Nat.lt_succ_self _, i51 + (x116 % 2), i56 + 1, ha.sub ⟨rfl, rfl, rfl, rfl, trivial⟩, hE122, hI125, hI127, h54, z55, hN101⟩
      replace hF := if_f hp104 hF; refine wp_exit ?_; refine e_then_exit ?_; refine e_lq_eq ?_; obtain rfl := Option.some.inj hF
      exact ⟨i51, ha.sub ⟨rfl, trivial⟩, hE58, hI52, (LK_inr hN101).symm⟩
  rintro a w92 ⟨i93, ha, hE100, hI94, rfl⟩
  have hF : F_impl_oddParts_k2 i93 = some _ := hK97; clear hK97; unfold F_impl_oddParts_k2 at hF
  refine e_then ?_; refine wp_seq ?_; refine wp_region_lit ?_; refine op_g ha rfl (g_move rfl) ?_; clear ha a; intro a ha; refine op_g ha rfl (g_assign rfl) ?_; clear ha a; intro a ha; refine wpList_nil ?_; replace ha := ha.sub (σ' := [(4, (.int .i64 i93))]) ⟨rfl, trivial⟩; refine e_then ?_; refine wp_ret ?_; obtain rfl := Option.some.inj hF
  exact f_ret1 ha rfl rfl ⟨⟨rfl, hI94⟩, hE100⟩
set_option maxHeartbeats 2000000 in
theorem W_impl_OddParts {W : World} {va0_0 : Value} {fa0_0 : List Nat} {a0_0 : (List (List Int))} (ha0_0 : Ro (Rp.sl 2 Rp.int) W fa0_0 va0_0 a0_0) {va1 : Value} {fa1 : List Nat} {a1 : (List Int)} (ha1 : Ro Rp.int W fa1 va1 a1) (hG : GT 0 W) {r : Int} (hF : F_impl_OddParts a0_0 a1 = some r) :
    Calls Tryd.prog 26 [.agg #[va0_0], va1].toArray W (Ret fun u w' => (u = .int .i64 r ∧ InI r) ∧ Ext W w') := by
  refine f_enter Tryd.func26 rfl Tryd.ntmps26 rfl ?_
  intro a ha
  replace ha : Fr 19 [(0, (.agg #[va0_0])), (1, va1)] a := ha
  have hE : Chg [] W W := Chg.refl _ _
  unfold F_impl_OddParts at hF
  refine wp_seq ?_; refine wp_region_lit ?_
  refine o_box ha rfl rfl rfl ?_; clear ha a; intro b1 w2 hB3 hx4 hlo5 a ha
  have q6 := Zn.one hlo5
  have q7 := Zn.upD q6 hE
  have hE8 := Ext.trans hE hx4
  refine op_g ha rfl (g_assign rfl) ?_; clear ha a; intro a ha; refine wpList_nil ?_; replace ha := ha.sub (σ' := [(1, va1), (2, (.pointer (some ⟨b1, 0, none⟩)))]) ⟨rfl, rfl, trivial⟩; refine e_then ?_; refine wp_seq ?_; refine wp_seq ?_; refine wp_region_lit ?_; refine op_g ha rfl (g_loadA (cs := [va0_0]) Tryd.isAgg29 Tryd.sizeOf29 rfl (by simp) hB3.all) ?_; clear ha a; intro a ha; refine op_g ha rfl (g_move rfl) ?_; clear ha a; intro a ha; obtain ⟨x9, hc10, hF⟩ := cal_some hF
  refine o_call ha rfl rfl Tryd.call64 (W_impl_SetOk (ha0_0.ext hE8) (ha1.ext hE8) hc10) ?_; clear ha a; rintro v11 w12 ⟨rfl, hx13⟩ a ha
  replace hB3 := hB3.ext hx13
  have hE14 := Ext.trans hE8 hx13
  refine op_g ha rfl (g_not rfl) ?_; clear ha a; intro a ha; refine wpList_nil ?_; replace ha := ha.sub (σ' := [(1, va1), (2, (.pointer (some ⟨b1, 0, none⟩))), (9, (.bool (!x9)))]) ⟨rfl, rfl, rfl, trivial⟩; refine e_then ?_; refine c_cond (¬ (x9 = true)) ha rfl (n_iff (Iff.rfl)) (fun hp15 => ?_) (fun hp15 => ?_)
  · replace hF := if_t hp15 hF
    refine wp_seq ?_; refine wp_region_lit ?_; refine op_g ha rfl (g_assign rfl) ?_; clear ha a; intro a ha; refine wpList_nil ?_; replace ha := ha.sub (σ' := [(4, (.int .i64 (-1)))]) ⟨rfl, trivial⟩; refine e_then ?_; refine wp_ret ?_; refine e_then_ret ?_; obtain rfl := Option.some.inj hF
    exact f_ret1 ha rfl rfl ⟨⟨rfl, (show InI (-1) from by decide)⟩, hE14⟩
  replace hF := if_f hp15 hF; refine wp_skip ?_; refine e_then ?_; refine wp_seq ?_; refine wp_region_lit ?_; refine op_g ha rfl (g_loadA (cs := [va0_0]) Tryd.isAgg29 Tryd.sizeOf29 rfl (by simp) hB3.all) ?_; clear ha a; intro a ha; obtain ⟨x16, hc17, hF⟩ := cal_some hF
  refine o_call ha rfl rfl Tryd.call31 (W_impl_netsOf (ha0_0.ext hE14) hc17) ?_; clear ha a; rintro v18 w19 ⟨b21, h22, z23, hx20⟩ a ha
  have q25 := Nq.new hB3.fpb z23
  have q26 := Nq.madeO z23 hB3.bi
  replace hB3 := hB3.ext hx20
  have hE27 := Ext.trans hE14 hx20
  have q28 := Zn.upD z23 hE14
  refine op_g ha rfl (g_assign rfl) ?_; clear ha a; intro a ha; refine wpList_nil ?_; replace ha := ha.sub (σ' := [(1, va1), (5, v18)]) ⟨rfl, rfl, trivial⟩; refine e_then ?_; refine wp_seq ?_; refine wp_region_lit ?_; (iterate 2 refine op_g ha rfl (g_move rfl) ?_; clear ha a; intro a ha)
  obtain ⟨fp29, hro30, hs31⟩ := h22.roF
  obtain ⟨x32, hc33, hF⟩ := cal_some hF
  refine o_call ha rfl rfl Tryd.call50 (W_impl_nets_all hro30 hc33) ?_; clear ha a; rintro v34 w35 ⟨rfl, hx36⟩ a ha
  replace h22 := h22.ext hx36
  have hE37 := Ext.trans hE27 hx36
  refine op_g ha rfl (g_move rfl) ?_; clear ha a; intro a ha; obtain ⟨x38, hc39, hF⟩ := cal_some hF
  refine o_call ha rfl rfl Tryd.call66 (W_impl_maskOf (ha1.ext hE37) hc39) ?_; clear ha a; rintro v40 w41 ⟨rfl, hx42⟩ a ha
  replace h22 := h22.ext hx42
  have hE43 := Ext.trans hE37 hx42
  refine op_g ha rfl (g32_andNot (m := x32) (n := x38) rfl rfl) ?_; clear ha a; intro a ha
  obtain ⟨fp44, hro45, hs46⟩ := h22.roF
  obtain ⟨x47, hc48, hF⟩ := cal_some hF
  refine o_call ha rfl rfl Tryd.call65 (W_impl_oddParts hro45 (hG.ext hE43) hc48) ?_; clear ha a; rintro v49 w50 ⟨⟨rfl, hI52⟩, hx51⟩ a ha
  replace h22 := h22.ext hx51
  have hE53 := Ext.trans hE43 hx51
  refine op_g ha rfl (g_assign rfl) ?_; clear ha a; intro a ha; refine wpList_nil ?_; replace ha := ha.sub (σ' := [(4, (.int .i64 x47))]) ⟨rfl, trivial⟩; refine e_then ?_; refine wp_ret ?_; obtain rfl := Option.some.inj hF
  exact f_ret1 ha rfl rfl ⟨⟨rfl, hI52⟩, hE53⟩
set_option maxHeartbeats 2000000 in
theorem W_spec_l25Mask {W : World} {va0 : Value} {fa0 : List Nat} {a0 : (List Int)} (ha0 : Ro Rp.int W fa0 va0 a0) {r : Int} (hF : F_spec_l25Mask a0 = some r) :
    Calls Tryd.prog 68 [va0].toArray W (Ret fun u w' => (u = .int .i64 r ∧ InI r) ∧ Ext W w') := by
  refine f_enter Tryd.func68 rfl Tryd.ntmps68 rfl ?_
  intro a ha
  replace ha : Fr 20 [(0, va0)] a := ha
  have hE : Chg [] W W := Chg.refl _ _
  unfold F_spec_l25Mask at hF
  refine wp_seq ?_; refine wp_region_lit ?_; refine op_g ha rfl (g_assign rfl) ?_; clear ha a; intro a ha; refine wpList_nil ?_; replace ha := ha.sub (σ' := [(0, va0)]) ⟨rfl, trivial⟩; refine e_then ?_; refine wp_seq ?_; refine wp_region_lit ?_; refine op_g ha rfl (g_assign rfl) ?_; clear ha a; intro a ha; refine wpList_nil ?_; refine e_then ?_; refine wp_seq ?_; refine wp_seq ?_; refine wp_region_lit ?_; refine op_g ha rfl (g_assign rfl) ?_; clear ha a; intro a ha; refine wpList_nil ?_; refine e_then ?_; obtain ⟨o58, ho59, hK60⟩ := bnd_some hF
  obtain ⟨n61, hn62⟩ := lp_some ho59; clear ho59
  refine c_loop (fun a w => ∃ (i56 : Int), Fr 20 [(3, (.int .i64 i56))] a ∧ Chg [] W w ∧ InI i56 ∧ o58 = .inl i56) (fun n a w => ∃ (i27 : Int) (i29 : Int), Fr 20 [(0, va0), (3, (.int .i64 i27)), (4, (.int .i64 i29))] a ∧ Chg [] W w ∧ InI i27 ∧ InI i29 ∧ lpN (fun s => F_spec_l25Mask_l1 a0 s.1 s.2) n (i27, i29) = some o58) n61 ⟨0, 0, ha.sub ⟨rfl, rfl, rfl, trivial⟩, hE, (show InI 0 from by decide), (show InI 0 from by decide), hn62⟩ ?_ ?_
  · rintro m66 a w26 ⟨i27, i29, ha, hE31, hI28, hI30, hF⟩
    cases m66 with
    | zero => exact (lpN_zero hF).elim
    | succ m66 =>
      obtain ⟨z65, hF, hN64⟩ := lpN_succ hF
      have hF : F_spec_l25Mask_l1 a0 i27 i29 = some z65 := hF; unfold F_spec_l25Mask_l1 at hF
      refine wp_seq ?_; refine wp_seq ?_; refine wp_region_lit ?_; (iterate 2 refine op_g ha rfl (g_move rfl) ?_; clear ha a; intro a ha); refine op_g ha rfl (g_lenR sl31.und ha0 rfl) ?_; clear ha a; intro a ha; refine op_g ha rfl (g_lss rfl rfl) ?_; clear ha a; intro a ha; refine wpList_nil ?_; replace ha := ha.sub (σ' := [(0, va0), (3, (.int .i64 i27)), (4, (.int .i64 i29)), (8, (.bool (decide (i29 < (a0.length : Int)))))]) ⟨rfl, rfl, rfl, rfl, trivial⟩; refine e_then ?_; refine c_cond (i29 < (a0.length : Int)) ha rfl (decide_eq_true_iff) (fun hp67 => ?_) (fun hp67 => ?_)
      · replace hF := if_t hp67 hF
        refine wp_skip ?_; refine e_then ?_; refine wp_seq ?_; refine wp_block ?_; refine wp_region_lit ?_; (iterate 3 refine op_g ha rfl (g_move rfl) ?_; clear ha a; intro a ha); obtain ⟨x68, g69, gx70, hF⟩ := idx_some hF
        obtain ⟨p71, cs72, f73, hf74, hpb75, hat76, hr77, hi78⟩ := ha0.at g69 gx70
        obtain ⟨rfl, hI79, rfl⟩ := hr77
        refine op_g ha rfl (hi78.gives sl31 rfl rfl) ?_; clear ha a; intro a ha; refine op_g ha rfl (g_load0 hE31 Tryd.isAgg2 rfl hat76.one) ?_; clear ha a; intro a ha; obtain ⟨h080, hF⟩ := grd_some hF; refine op_g ha rfl (g_conv6u un2 un73 rfl hI79 h080) ?_; clear ha a; intro a ha; obtain ⟨hI81, hF⟩ := ck_some hF; refine op_g ha rfl (g64_shl rfl rfl (inU_of hI79 h080).1 hI81) ?_; clear ha a; intro a ha; refine op_g ha rfl (g64_or rfl rfl) ?_; clear ha a; intro a ha; refine op_g ha rfl (g_assign rfl) ?_; clear ha a; intro a ha; refine wpList_nil ?_; replace ha := ha.sub (σ' := [(0, va0), (3, (.int .i64 (i64or i27 (1 * 2 ^ (x68 : Int).toNat)))), (4, (.int .i64 i29))]) ⟨rfl, rfl, rfl, trivial⟩
        refine e_blk ?_; refine e_then ?_; refine wp_region_lit ?_; refine op_g ha rfl (g_move rfl) ?_; clear ha a; intro a ha; obtain ⟨hI83, hF⟩ := ck_some hF; refine op_g ha rfl (g_add rfl rfl hI83) ?_; clear ha a; intro a ha; refine op_g ha rfl (g_assign rfl) ?_; clear ha a; intro a ha; refine wpList_nil ?_; replace ha := ha.sub (σ' := [(0, va0), (3, (.int .i64 (i64or i27 (1 * 2 ^ (x68 : Int).toNat)))), (4, (.int .i64 (i29 + 1)))]) ⟨rfl, rfl, rfl, trivial⟩; refine e_lq ?_; obtain rfl := Option.some.inj hF
        exact ⟨_, Nat.lt_succ_self _, i64or i27 (1 * 2 ^ (x68 : Int).toNat), i29 + 1, ha.sub ⟨rfl, rfl, rfl, trivial⟩, hE31, (in_i64or _ _), hI83, hN64⟩
      replace hF := if_f hp67 hF; refine wp_exit ?_; refine e_then_exit ?_; refine e_lq_eq ?_; obtain rfl := Option.some.inj hF
      exact ⟨i27, ha.sub ⟨rfl, trivial⟩, hE31, hI28, (LK_inr hN64).symm⟩
  rintro a w55 ⟨i56, ha, hE63, hI57, rfl⟩
  have hF : F_spec_l25Mask_k2 i56 = some _ := hK60; clear hK60; unfold F_spec_l25Mask_k2 at hF
  refine e_then ?_; refine wp_seq ?_; refine wp_region_lit ?_; refine op_g ha rfl (g_move rfl) ?_; clear ha a; intro a ha; refine op_g ha rfl (g_assign rfl) ?_; clear ha a; intro a ha; refine wpList_nil ?_; replace ha := ha.sub (σ' := [(2, (.int .i64 i56))]) ⟨rfl, trivial⟩; refine e_then ?_; refine wp_ret ?_; obtain rfl := Option.some.inj hF
  exact f_ret1 ha rfl rfl ⟨⟨rfl, hI57⟩, hE63⟩
set_option maxHeartbeats 2000000 in
theorem W_spec_l27Part {W : World} {va0 : Value} {fa0 : List Nat} {a0 : (List Int)} (ha0 : Ro Rp.int W fa0 va0 a0) {a1 : Int} (ha1 : InI a1) {a2 : Int} (ha2 : InI a2) {r : Int} (hF : F_spec_l27Part a0 a1 a2 = some r) :
    Calls Tryd.prog 91 [va0, .int .i64 a1, .int .i64 a2].toArray W (Ret fun u w' => (u = .int .i64 r ∧ InI r) ∧ Ext W w') := by
  refine f_enter Tryd.func91 rfl Tryd.ntmps91 rfl ?_
  intro a ha
  replace ha : Fr 46 [(0, va0), (1, (.int .i64 a1)), (2, (.int .i64 a2))] a := ha
  have hE : Chg [] W W := Chg.refl _ _
  unfold F_spec_l27Part at hF
  refine wp_seq ?_; refine wp_region_lit ?_; refine op_g ha rfl (g_assign rfl) ?_; clear ha a; intro a ha; refine wpList_nil ?_; replace ha := ha.sub (σ' := [(0, va0), (1, (.int .i64 a1)), (2, (.int .i64 a2))]) ⟨rfl, rfl, rfl, trivial⟩; refine e_then ?_; refine wp_seq ?_; refine wp_region_lit ?_; refine op_g ha rfl (g_move rfl) ?_; clear ha a; intro a ha; obtain ⟨h01, hF⟩ := grd_some hF; refine op_g ha rfl (g_conv6u un2 un73 rfl ha1 h01) ?_; clear ha a; intro a ha; obtain ⟨hI2, hF⟩ := ck_some hF; refine op_g ha rfl (g64_shl rfl rfl (inU_of ha1 h01).1 hI2) ?_; clear ha a; intro a ha; refine op_g ha rfl (g_assign rfl) ?_; clear ha a; intro a ha
  refine wpList_nil ?_; replace ha := ha.sub (σ' := [(0, va0), (2, (.int .i64 a2)), (7, (.int .i64 (1 * 2 ^ (a1 : Int).toNat)))]) ⟨rfl, rfl, rfl, trivial⟩; refine e_then ?_; refine wp_seq ?_; refine wp_seq ?_; refine wp_region_lit ?_; refine op_g ha rfl (g_assign rfl) ?_; clear ha a; intro a ha; refine wpList_nil ?_; replace ha := ha.sub (σ' := [(0, va0), (2, (.int .i64 a2)), (7, (.int .i64 (1 * 2 ^ (a1 : Int).toNat))), (8, (.bool true))]) ⟨rfl, rfl, rfl, rfl, trivial⟩; refine e_then ?_; obtain ⟨o295, ho296, hK297⟩ := bnd_some hF
  obtain ⟨n298, hn299⟩ := lp_some ho296; clear ho296
  refine c_loop (fun a w => ∃ (i293 : Int), Fr 46 [(7, (.int .i64 i293))] a ∧ Chg [] W w ∧ InI i293 ∧ o295 = .inl i293) (fun n a w => ∃ (i147 : Int) (t149 : Bool), Fr 46 [(0, va0), (2, (.int .i64 a2)), (7, (.int .i64 i147)), (8, (.bool t149))] a ∧ Chg [] W w ∧ InI i147 ∧ lpN (fun s => F_spec_l27Part_l1 a0 a2 s.1 s.2) n (i147, t149) = some o295) n298 ⟨1 * 2 ^ (a1 : Int).toNat, true, ha.sub ⟨rfl, rfl, rfl, rfl, trivial⟩, hE, hI2, hn299⟩ ?_ ?_
  · rintro m303 a w146 ⟨i147, t149, ha, hE150, hI148, hF⟩
    cases m303 with
    | zero => exact (lpN_zero hF).elim
    | succ m303 =>
      obtain ⟨z302, hF, hN301⟩ := lpN_succ hF
      have hF : F_spec_l27Part_l1 a0 a2 i147 t149 = some z302 := hF; unfold F_spec_l27Part_l1 at hF
      refine wp_seq ?_; refine wp_seq ?_; refine wp_region_lit ?_; refine op_g ha rfl (g_move rfl) ?_; clear ha a; intro a ha; refine wpList_nil ?_; replace ha := ha.sub (σ' := [(0, va0), (2, (.int .i64 a2)), (7, (.int .i64 i147)), (13, (.bool t149))]) ⟨rfl, rfl, rfl, rfl, trivial⟩; refine e_then ?_; refine c_cond (t149 = true) ha rfl (Iff.rfl) (fun hp304 => ?_) (fun hp304 => ?_)
      · replace hF := if_t hp304 hF
        refine wp_skip ?_; refine e_then ?_; refine wp_block ?_; refine wp_seq ?_; refine wp_region_lit ?_; refine op_g ha rfl (g_assign rfl) ?_; clear ha a; intro a ha; refine wpList_nil ?_; replace ha := ha.sub (σ' := [(0, va0), (2, (.int .i64 a2)), (7, (.int .i64 i147)), (8, (.bool false))]) ⟨rfl, rfl, rfl, rfl, trivial⟩; refine e_then ?_; refine wp_seq ?_; refine wp_region_lit ?_; refine op_g ha rfl (g_assign rfl) ?_; clear ha a; intro a ha; refine wpList_nil ?_; replace ha := ha.sub (σ' := [(0, va0), (2, (.int .i64 a2)), (7, (.int .i64 i147)), (8, (.bool false)), (9, (.int .i64 0))]) ⟨rfl, rfl, rfl, rfl, rfl, trivial⟩
        refine e_then ?_; obtain ⟨o398, ho399, hK400⟩ := bnd_some hF
        obtain ⟨n401, hn402⟩ := lp_some ho399; clear ho399
        refine c_loop (fun a w => ∃ (i395 : Int) (t397 : Bool), Fr 46 [(0, va0), (2, (.int .i64 a2)), (7, (.int .i64 i395)), (8, (.bool t397))] a ∧ Chg [] W w ∧ InI i395 ∧ o398 = .inl (i395, t397)) (fun n a w => ∃ (i348 : Int) (t350 : Bool) (i351 : Int), Fr 46 [(0, va0), (2, (.int .i64 a2)), (7, (.int .i64 i348)), (8, (.bool t350)), (9, (.int .i64 i351))] a ∧ Chg [] W w ∧ InI i348 ∧ InI i351 ∧ lpN (fun s => F_spec_l27Part_l2 a0 a2 s.1 s.2.1 s.2.2) n (i348, t350, i351) = some o398) n401 ⟨i147, false, 0, ha.sub ⟨rfl, rfl, rfl, rfl, rfl, trivial⟩, hE150, hI148, (show InI 0 from by decide), hn402⟩ ?_ ?_
        · rintro m406 a w347 ⟨i348, t350, i351, ha, hE353, hI349, hI352, hF⟩
          cases m406 with
          | zero => exact (lpN_zero hF).elim
          | succ m406 =>
            obtain ⟨z405, hF, hN404⟩ := lpN_succ hF
            have hF : F_spec_l27Part_l2 a0 a2 i348 t350 i351 = some z405 := hF; unfold F_spec_l27Part_l2 at hF
            refine wp_seq ?_; refine wp_seq ?_; refine wp_region_lit ?_; (iterate 2 refine op_g ha rfl (g_move rfl) ?_; clear ha a; intro a ha); refine op_g ha rfl (g_lenR sl31.und ha0 rfl) ?_; clear ha a; intro a ha; refine op_g ha rfl (g_lss rfl rfl) ?_; clear ha a; intro a ha; refine wpList_nil ?_; replace ha := ha.sub (σ' := [(0, va0), (2, (.int .i64 a2)), (7, (.int .i64 i348)), (8, (.bool t350)), (9, (.int .i64 i351)), (17, (.bool (decide (i351 < (a0.length : Int)))))]) ⟨rfl, rfl, rfl, rfl, rfl, rfl, trivial⟩; refine e_then ?_; refine c_cond (i351 < (a0.length : Int)) ha rfl (decide_eq_true_iff) (fun hp407 => ?_) (fun hp407 => ?_)
            · replace hF := if_t hp407 hF
              refine wp_skip ?_; refine e_then ?_; refine wp_seq ?_; refine wp_block ?_; refine wp_seq ?_; refine wp_region_lit ?_; (iterate 2 refine op_g ha rfl (g_move rfl) ?_; clear ha a; intro a ha); obtain ⟨h0408, hF⟩ := grd_some hF; refine op_g ha rfl (g_conv6u un2 un73 rfl hI352 h0408) ?_; clear ha a; intro a ha; refine op_g ha rfl (g64_shr rfl rfl hI349 (inU_of hI352 h0408).1) ?_; clear ha a; intro a ha; refine op_g ha rfl (g64_and rfl rfl) ?_; clear ha a; intro a ha; refine op_g ha rfl (g_eql rfl rfl) ?_; clear ha a; intro a ha; refine op_g ha rfl (g_move rfl) ?_; clear ha a; intro a ha
              by_cases hp409 : (i64and (i348 / 2 ^ (i351 : Int).toNat) 1) = 1
              · replace hF := if_t hp409 hF
                rw [show (decide ((i64and (i348 / 2 ^ (i351 : Int).toNat) 1) = 1)) = true from (decide_eq_true_iff).2 hp409] at ha
                refine op_want (yields ha rfl rfl) ?_; refine op_g ha rfl (g_move rfl) ?_; clear ha a; intro a ha; refine op_want (yields ha rfl rfl) ?_; refine op_g ha rfl (g_move rfl) ?_; clear ha a; intro a ha; refine op_want (yields ha rfl rfl) ?_; obtain ⟨x410, g411, gx412, hF⟩ := idx_some hF
                obtain ⟨p413, cs414, f415, hf416, hpb417, hat418, hr419, hi420⟩ := ha0.at g411 gx412
                obtain ⟨rfl, hI421, rfl⟩ := hr419
                refine op_g ha rfl (hi420.gives sl31 rfl rfl) ?_; clear ha a; intro a ha; refine op_want (yields ha rfl rfl) ?_; refine op_g ha rfl (g_load0 hE353 Tryd.isAgg2 rfl hat418.one) ?_; clear ha a; intro a ha; refine op_want (yields ha rfl rfl) ?_; refine op_g ha rfl (g_move rfl) ?_; clear ha a; intro a ha; refine op_want (yields ha rfl rfl) ?_; refine op_g ha rfl (g64_and rfl rfl) ?_; clear ha a; intro a ha; refine op_want (yields ha rfl rfl) ?_; refine op_g ha rfl (g_move rfl) ?_; clear ha a; intro a ha; refine op_want (yields ha rfl rfl) ?_; refine op_g ha rfl (g64_andNot rfl rfl) ?_; clear ha a; intro a ha
                refine op_want (yields ha rfl rfl) ?_; refine op_g ha rfl (g_neq rfl rfl) ?_; clear ha a; intro a ha; refine op_g ha rfl (g_pick rfl rfl) ?_; clear ha a; intro a ha; refine wpList_nil ?_; replace ha := ha.sub (σ' := [(0, va0), (2, (.int .i64 a2)), (7, (.int .i64 i348)), (8, (.bool t350)), (9, (.int .i64 i351)), (27, va0), (28, (.int .i64 i351)), (29, (.pointer (some p413))), (30, (.int .i64 x410)), (31, (.int .i64 a2)), (32, (.int .i64 (i64and x410 a2))), (33, (.int .i64 i348)), (34, (.int .i64 (i64andn (i64and x410 a2) i348))), (35, (.bool (decide ((i64andn (i64and x410 a2) i348) ≠ 0)))), (36, (.bool (decide ((i64andn (i64and x410 a2) i348) ≠ 0))))]) ⟨rfl, rfl, rfl, rfl, rfl, rfl, rfl, rfl, rfl, rfl, rfl, rfl, rfl, rfl, rfl, trivial⟩
                refine e_then ?_; refine c_cond ((i64andn (i64and x410 a2) i348) ≠ 0) ha rfl (decide_eq_true_iff) (fun hp422 => ?_) (fun hp422 => ?_)
                · replace hF := if_t hp422 hF
                  refine wp_seq ?_; refine wp_region_lit ?_; (iterate 3 refine op_g ha rfl (g_move rfl) ?_; clear ha a; intro a ha); obtain ⟨x423, g424, gx425, hF⟩ := idx_some hF
                  obtain ⟨p426, cs427, f428, hf429, hpb430, hat431, hr432, hi433⟩ := ha0.at g424 gx425
                  obtain ⟨rfl, hI434, rfl⟩ := hr432
                  refine op_g ha rfl (hi433.gives sl31 rfl rfl) ?_; clear ha a; intro a ha; refine op_g ha rfl (g_load0 hE353 Tryd.isAgg2 rfl hat431.one) ?_; clear ha a; intro a ha; refine op_g ha rfl (g_move rfl) ?_; clear ha a; intro a ha; refine op_g ha rfl (g64_and rfl rfl) ?_; clear ha a; intro a ha; refine op_g ha rfl (g64_or rfl rfl) ?_; clear ha a; intro a ha; refine op_g ha rfl (g_assign rfl) ?_; clear ha a; intro a ha; refine wpList_nil ?_; replace ha := ha.sub (σ' := [(0, va0), (2, (.int .i64 a2)), (7, (.int .i64 (i64or i348 (i64and x423 a2)))), (9, (.int .i64 i351)), (27, va0), (28, (.int .i64 i351)), (29, (.pointer (some p413))), (30, (.int .i64 x410)), (31, (.int .i64 a2)), (32, (.int .i64 (i64and x410 a2))), (33, (.int .i64 i348)), (34, (.int .i64 (i64andn (i64and x410 a2) i348))), (35, (.bool (decide ((i64andn (i64and x410 a2) i348) ≠ 0))))]) ⟨rfl, rfl, rfl, rfl, rfl, rfl, rfl, rfl, rfl, rfl, rfl, rfl, rfl, trivial⟩
                  refine e_then ?_; refine wp_region_lit ?_; refine op_g ha rfl (g_assign rfl) ?_; clear ha a; intro a ha; refine wpList_nil ?_; replace ha := ha.sub (σ' := [(0, va0), (2, (.int .i64 a2)), (7, (.int .i64 (i64or i348 (i64and x423 a2)))), (8, (.bool true)), (9, (.int .i64 i351)), (27, va0), (28, (.int .i64 i351)), (29, (.pointer (some p413))), (30, (.int .i64 x410)), (31, (.int .i64 a2)), (32, (.int .i64 (i64and x410 a2))), (33, (.int .i64 i348)), (34, (.int .i64 (i64andn (i64and x410 a2) i348))), (35, (.bool (decide ((i64andn (i64and x410 a2) i348) ≠ 0))))]) ⟨rfl, rfl, rfl, rfl, rfl, rfl, rfl, rfl, rfl, rfl, rfl, rfl, rfl, rfl, trivial⟩
                  refine e_blk ?_; refine e_then ?_; refine wp_region_lit ?_; refine op_g ha rfl (g_move rfl) ?_; clear ha a; intro a ha; obtain ⟨hI435, hF⟩ := ck_some hF; refine op_g ha rfl (g_add rfl rfl hI435) ?_; clear ha a; intro a ha; refine op_g ha rfl (g_assign rfl) ?_; clear ha a; intro a ha; refine wpList_nil ?_; replace ha := ha.sub (σ' := [(0, va0), (2, (.int .i64 a2)), (7, (.int .i64 (i64or i348 (i64and x423 a2)))), (8, (.bool true)), (9, (.int .i64 (i351 + 1))), (27, va0), (28, (.int .i64 i351)), (29, (.pointer (some p413))), (30, (.int .i64 x410)), (31, (.int .i64 a2)), (32, (.int .i64 (i64and x410 a2))), (33, (.int .i64 i348)), (34, (.int .i64 (i64andn (i64and x410 a2) i348))), (35, (.bool (decide ((i64andn (i64and x410 a2) i348) ≠ 0))))]) ⟨rfl, rfl, rfl, rfl, rfl, rfl, rfl, rfl, rfl, rfl, rfl, rfl, rfl, rfl, trivial⟩
                  refine e_lq ?_; obtain rfl := Option.some.inj hF
                  exact ⟨_, Nat.lt_succ_self _, i64or i348 (i64and x423 a2), true, i351 + 1, ha.sub ⟨rfl, rfl, rfl, rfl, rfl, trivial⟩, hE353, (in_i64or _ _), hI435, hN404⟩
                replace hF := if_f hp422 hF; refine wp_skip ?_; refine e_blk ?_; refine e_then ?_; refine wp_region_lit ?_; refine op_g ha rfl (g_move rfl) ?_; clear ha a; intro a ha; obtain ⟨hI437, hF⟩ := ck_some hF; refine op_g ha rfl (g_add rfl rfl hI437) ?_; clear ha a; intro a ha; refine op_g ha rfl (g_assign rfl) ?_; clear ha a; intro a ha; refine wpList_nil ?_; replace ha := ha.sub (σ' := [(0, va0), (2, (.int .i64 a2)), (7, (.int .i64 i348)), (8, (.bool t350)), (9, (.int .i64 (i351 + 1))), (27, va0), (28, (.int .i64 i351)), (29, (.pointer (some p413))), (30, (.int .i64 x410)), (31, (.int .i64 a2)), (32, (.int .i64 (i64and x410 a2))), (33, (.int .i64 i348)), (34, (.int .i64 (i64andn (i64and x410 a2) i348))), (35, (.bool (decide ((i64andn (i64and x410 a2) i348) ≠ 0))))]) ⟨rfl, rfl, rfl, rfl, rfl, rfl, rfl, rfl, rfl, rfl, rfl, rfl, rfl, rfl, trivial⟩
                refine e_lq ?_; obtain rfl := Option.some.inj hF
                exact ⟨_, Nat.lt_succ_self _, i348, t350, i351 + 1, ha.sub ⟨rfl, rfl, rfl, rfl, rfl, trivial⟩, hE353, hI349, hI437, hN404⟩
              replace hF := if_f hp409 hF
              rw [show (decide ((i64and (i348 / 2 ^ (i351 : Int).toNat) 1) = 1)) = false from b_false (decide_eq_true_iff) hp409] at ha
              (iterate 9 refine op_unwant ha rfl (yields ha rfl rfl) rfl ?_; clear ha a; intro a ha); refine op_g ha rfl (g_pick rfl rfl) ?_; clear ha a; intro a ha; refine wpList_nil ?_; replace ha := ha.sub (σ' := [(0, va0), (2, (.int .i64 a2)), (7, (.int .i64 i348)), (8, (.bool t350)), (9, (.int .i64 i351)), (36, (.bool false))]) ⟨rfl, rfl, rfl, rfl, rfl, rfl, trivial⟩; refine e_then ?_; refine c_false ha rfl ?_; refine wp_skip ?_; refine e_blk ?_; refine e_then ?_; refine wp_region_lit ?_; refine op_g ha rfl (g_move rfl) ?_; clear ha a; intro a ha; obtain ⟨hI439, hF⟩ := ck_some hF; refine op_g ha rfl (g_add rfl rfl hI439) ?_; clear ha a; intro a ha
              refine op_g ha rfl (g_assign rfl) ?_; clear ha a; intro a ha; refine wpList_nil ?_; replace ha := ha.sub (σ' := [(0, va0), (2, (.int .i64 a2)), (7, (.int .i64 i348)), (8, (.bool t350)), (9, (.int .i64 (i351 + 1)))]) ⟨rfl, rfl, rfl, rfl, rfl, trivial⟩; refine e_lq ?_; obtain rfl := Option.some.inj hF
              exact ⟨_, Nat.lt_succ_self _, i348, t350, i351 + 1, ha.sub ⟨rfl, rfl, rfl, rfl, rfl, trivial⟩, hE353, hI349, hI439, hN404⟩
            replace hF := if_f hp407 hF; refine wp_exit ?_; refine e_then_exit ?_; refine e_lq_eq ?_; obtain rfl := Option.some.inj hF
            exact ⟨i348, t350, ha.sub ⟨rfl, rfl, rfl, rfl, trivial⟩, hE353, hI349, (LK_inr hN404).symm⟩
        rintro a w394 ⟨i395, t397, ha, hE403, hI396, rfl⟩
        have hF : F_spec_l27Part_k3 i395 t397 = some _ := hK400; clear hK400; unfold F_spec_l27Part_k3 at hF
        refine e_blk ?_; refine e_lq ?_; obtain rfl := Option.some.inj hF
        exact ⟨_, Nat.lt_succ_self _, i395, t397, ha.sub ⟨rfl, rfl, rfl, rfl, trivial⟩, hE403, hI396, hN301⟩
      replace hF := if_f hp304 hF; refine wp_exit ?_; refine e_then_exit ?_; refine e_lq_eq ?_; obtain rfl := Option.some.inj hF
      exact ⟨i147, ha.sub ⟨rfl, trivial⟩, hE150, hI148, (LK_inr hN301).symm⟩
  rintro a w292 ⟨i293, ha, hE300, hI294, rfl⟩
  have hF : F_spec_l27Part_k4 i293 = some _ := hK297; clear hK297; unfold F_spec_l27Part_k4 at hF
  refine e_then ?_; refine wp_seq ?_; refine wp_region_lit ?_; refine op_g ha rfl (g_move rfl) ?_; clear ha a; intro a ha; refine op_g ha rfl (g_assign rfl) ?_; clear ha a; intro a ha; refine wpList_nil ?_; replace ha := ha.sub (σ' := [(6, (.int .i64 i293))]) ⟨rfl, trivial⟩; refine e_then ?_; refine wp_ret ?_; obtain rfl := Option.some.inj hF
  exact f_ret1 ha rfl rfl ⟨⟨rfl, hI294⟩, hE300⟩
set_option maxHeartbeats 2000000 in
theorem W_spec_l25Many {W : World} {a0 : Int} (ha0 : InI a0) {r : Int} (hF : F_spec_l25Many a0 = some r) :
    Calls Tryd.prog 81 [.int .i64 a0].toArray W (Ret fun u w' => (u = .int .i64 r ∧ InI r) ∧ Ext W w') := by
  refine f_enter Tryd.func81 rfl Tryd.ntmps81 rfl ?_
  intro a ha
  replace ha : Fr 13 [(0, (.int .i64 a0))] a := ha
  have hE : Chg [] W W := Chg.refl _ _
  unfold F_spec_l25Many at hF
  refine wp_seq ?_; refine wp_region_lit ?_; refine op_g ha rfl (g_assign rfl) ?_; clear ha a; intro a ha; refine wpList_nil ?_; replace ha := ha.sub (σ' := [(0, (.int .i64 a0))]) ⟨rfl, trivial⟩; refine e_then ?_; refine wp_seq ?_; refine wp_region_lit ?_; refine op_g ha rfl (g_assign rfl) ?_; clear ha a; intro a ha; refine wpList_nil ?_; refine e_then ?_; refine wp_seq ?_; obtain ⟨o32, ho33, hK34⟩ := bnd_some hF
  obtain ⟨n35, hn36⟩ := lp_some ho33; clear ho33
  refine c_loop (fun a w => ∃ (i30 : Int), Fr 13 [(3, (.int .i64 i30))] a ∧ Chg [] W w ∧ InI i30 ∧ o32 = .inl i30) (fun n a w => ∃ (i14 : Int) (i16 : Int), Fr 13 [(0, (.int .i64 i14)), (3, (.int .i64 i16))] a ∧ Chg [] W w ∧ InI i14 ∧ InI i16 ∧ lpN (fun s => F_spec_l25Many_l1 s.1 s.2) n (i14, i16) = some o32) n35 ⟨a0, 0, ha.sub ⟨rfl, rfl, trivial⟩, hE, ha0, (show InI 0 from by decide), hn36⟩ ?_ ?_
  · rintro m40 a w13 ⟨i14, i16, ha, hE18, hI15, hI17, hF⟩
    cases m40 with
    | zero => exact (lpN_zero hF).elim
    | succ m40 =>
      obtain ⟨z39, hF, hN38⟩ := lpN_succ hF
      have hF : F_spec_l25Many_l1 i14 i16 = some z39 := hF; unfold F_spec_l25Many_l1 at hF
      refine wp_seq ?_; refine wp_seq ?_; refine wp_region_lit ?_; refine op_g ha rfl (g_move rfl) ?_; clear ha a; intro a ha; refine op_g ha rfl (g_gtr rfl rfl) ?_; clear ha a; intro a ha; refine wpList_nil ?_; replace ha := ha.sub (σ' := [(0, (.int .i64 i14)), (3, (.int .i64 i16)), (5, (.bool (decide (0 < i14))))]) ⟨rfl, rfl, rfl, trivial⟩; refine e_then ?_; refine c_cond (0 < i14) ha rfl (decide_eq_true_iff) (fun hp41 => ?_) (fun hp41 => ?_)
      · replace hF := if_t hp41 hF
        refine wp_skip ?_; refine e_then ?_; refine wp_seq ?_; refine wp_block ?_; refine wp_region_lit ?_; refine op_g ha rfl (g_move rfl) ?_; clear ha a; intro a ha; obtain ⟨hI42, hF⟩ := ck_some hF; refine op_g ha rfl (g_add rfl rfl hI42) ?_; clear ha a; intro a ha; refine op_g ha rfl (g_assign rfl) ?_; clear ha a; intro a ha; refine wpList_nil ?_; replace ha := ha.sub (σ' := [(0, (.int .i64 i14)), (3, (.int .i64 (i16 + 1)))]) ⟨rfl, rfl, trivial⟩; refine e_blk ?_; refine e_then ?_; refine wp_region_lit ?_; (iterate 2 refine op_g ha rfl (g_move rfl) ?_; clear ha a; intro a ha); obtain ⟨hI44, hF⟩ := ck_some hF
        refine op_g ha rfl (g_sub rfl rfl hI44) ?_; clear ha a; intro a ha; refine op_g ha rfl (g64_and rfl rfl) ?_; clear ha a; intro a ha; refine op_g ha rfl (g_assign rfl) ?_; clear ha a; intro a ha; refine wpList_nil ?_; replace ha := ha.sub (σ' := [(0, (.int .i64 (i64and i14 (i14 - 1)))), (3, (.int .i64 (i16 + 1)))]) ⟨rfl, rfl, trivial⟩; refine e_lq ?_; obtain rfl := Option.some.inj hF
        exact ⟨_, Nat.lt_succ_self _, i64and i14 (i14 - 1), i16 + 1, ha.sub ⟨rfl, rfl, trivial⟩, hE18, (in_i64and _ _), hI42, hN38⟩
      replace hF := if_f hp41 hF; refine wp_exit ?_; refine e_then_exit ?_; refine e_lq_eq ?_; obtain rfl := Option.some.inj hF
      exact ⟨i16, ha.sub ⟨rfl, trivial⟩, hE18, hI17, (LK_inr hN38).symm⟩
  rintro a w29 ⟨i30, ha, hE37, hI31, rfl⟩
  have hF : F_spec_l25Many_k2 i30 = some _ := hK34; clear hK34; unfold F_spec_l25Many_k2 at hF
  refine e_then ?_; refine wp_seq ?_; refine wp_region_lit ?_; refine op_g ha rfl (g_move rfl) ?_; clear ha a; intro a ha; refine op_g ha rfl (g_assign rfl) ?_; clear ha a; intro a ha; refine wpList_nil ?_; replace ha := ha.sub (σ' := [(2, (.int .i64 i30))]) ⟨rfl, trivial⟩; refine e_then ?_; refine wp_ret ?_; obtain rfl := Option.some.inj hF
  exact f_ret1 ha rfl rfl ⟨⟨rfl, hI31⟩, hE37⟩
set_option maxHeartbeats 2000000 in
theorem W_spec_l27Parts {W : World} {va0 : Value} {fa0 : List Nat} {a0 : (List Int)} (ha0 : Ro Rp.int W fa0 va0 a0) {a1 : Int} (ha1 : InI a1) {r : (Int × Int)} (hF : F_spec_l27Parts a0 a1 = some r) :
    Calls Tryd.prog 67 [va0, .int .i64 a1].toArray W (Ret fun u w' => ∃ (u0 : Value) (u1 : Value), u = .tuple #[u0, u1] ∧ (u0 = .int .i64 r.1 ∧ InI r.1) ∧ (u1 = .int .i64 r.2 ∧ InI r.2) ∧ Ext W w') := by
  refine f_enter Tryd.func67 rfl Tryd.ntmps67 rfl ?_
  intro a ha
  replace ha : Fr 28 [(0, va0), (1, (.int .i64 a1))] a := ha
  have hE : Chg [] W W := Chg.refl _ _
  unfold F_spec_l27Parts at hF
  refine wp_seq ?_; refine wp_region_lit ?_; (iterate 2 refine op_g ha rfl (g_assign rfl) ?_; clear ha a; intro a ha); refine wpList_nil ?_; replace ha := ha.sub (σ' := [(0, va0), (1, (.int .i64 a1))]) ⟨rfl, rfl, trivial⟩; refine e_then ?_; refine wp_seq ?_; refine wp_region_lit ?_; refine op_g ha rfl (g_assign rfl) ?_; clear ha a; intro a ha; refine wpList_nil ?_; refine e_then ?_; refine wp_seq ?_; refine wp_region_lit ?_; refine op_g ha rfl (g_assign rfl) ?_; clear ha a; intro a ha; refine wpList_nil ?_; replace ha := ha.sub (σ' := [(0, va0), (1, (.int .i64 a1)), (6, (.int .i64 0)), (7, (.int .i64 0))]) ⟨rfl, rfl, rfl, rfl, trivial⟩
  refine e_then ?_; refine wp_seq ?_; obtain ⟨o86, ho87, hK88⟩ := bnd_some hF
  obtain ⟨n89, hn90⟩ := lp_some ho87; clear ho87
  refine c_loop (fun a w => ∃ (i82 : Int) (i84 : Int), Fr 28 [(6, (.int .i64 i82)), (7, (.int .i64 i84))] a ∧ Chg [] W w ∧ InI i82 ∧ InI i84 ∧ o86 = .inl (i82, i84)) (fun n a w => ∃ (i39 : Int) (i41 : Int) (i43 : Int), Fr 28 [(0, va0), (1, (.int .i64 i39)), (6, (.int .i64 i41)), (7, (.int .i64 i43))] a ∧ Chg [] W w ∧ InI i39 ∧ InI i41 ∧ InI i43 ∧ lpN (fun s => F_spec_l27Parts_l1 a0 s.1 s.2.1 s.2.2) n (i39, i41, i43) = some o86) n89 ⟨a1, 0, 0, ha.sub ⟨rfl, rfl, rfl, rfl, trivial⟩, hE, ha1, (show InI 0 from by decide), (show InI 0 from by decide), hn90⟩ ?_ ?_
  · rintro m94 a w38 ⟨i39, i41, i43, ha, hE45, hI40, hI42, hI44, hF⟩
    cases m94 with
    | zero => exact (lpN_zero hF).elim
    | succ m94 =>
      obtain ⟨z93, hF, hN92⟩ := lpN_succ hF
      have hF : F_spec_l27Parts_l1 a0 i39 i41 i43 = some z93 := hF; unfold F_spec_l27Parts_l1 at hF
      refine wp_seq ?_; refine wp_seq ?_; refine wp_region_lit ?_; refine op_g ha rfl (g_move rfl) ?_; clear ha a; intro a ha; refine op_g ha rfl (g_gtr rfl rfl) ?_; clear ha a; intro a ha; refine wpList_nil ?_; replace ha := ha.sub (σ' := [(0, va0), (1, (.int .i64 i39)), (6, (.int .i64 i41)), (7, (.int .i64 i43)), (10, (.bool (decide (0 < i39))))]) ⟨rfl, rfl, rfl, rfl, rfl, trivial⟩; refine e_then ?_; refine c_cond (0 < i39) ha rfl (decide_eq_true_iff) (fun hp95 => ?_) (fun hp95 => ?_)
      · replace hF := if_t hp95 hF
        refine wp_skip ?_; refine e_then ?_; refine wp_block ?_; refine wp_seq ?_; refine wp_region_lit ?_; (iterate 2 refine op_g ha rfl (g_move rfl) ?_; clear ha a; intro a ha); obtain ⟨x96, hc97, hF⟩ := cal_some hF
        refine o_call ha rfl rfl Tryd.call55 (W_spec_l27Low hI40 hc97) ?_; clear ha a; rintro v98 w99 ⟨⟨rfl, hI101⟩, hx100⟩ a ha
        have hE102 := Ext.trans hE45 hx100
        refine op_g ha rfl (g_move rfl) ?_; clear ha a; intro a ha; obtain ⟨x103, hc104, hF⟩ := cal_some hF
        refine o_call ha rfl rfl Tryd.call91 (W_spec_l27Part (ha0.ext hE102) hI101 hI40 hc104) ?_; clear ha a; rintro v105 w106 ⟨⟨rfl, hI108⟩, hx107⟩ a ha
        have hE109 := Ext.trans hE102 hx107
        refine op_g ha rfl (g_assign rfl) ?_; clear ha a; intro a ha; refine wpList_nil ?_; replace ha := ha.sub (σ' := [(0, va0), (1, (.int .i64 i39)), (6, (.int .i64 i41)), (7, (.int .i64 i43)), (8, (.int .i64 x103))]) ⟨rfl, rfl, rfl, rfl, rfl, trivial⟩; refine e_then ?_; refine wp_seq ?_; refine wp_region_lit ?_; refine op_g ha rfl (g_move rfl) ?_; clear ha a; intro a ha; obtain ⟨hI110, hF⟩ := ck_some hF; refine op_g ha rfl (g_add rfl rfl hI110) ?_; clear ha a; intro a ha; refine op_g ha rfl (g_assign rfl) ?_; clear ha a; intro a ha; refine wpList_nil ?_; replace ha := ha.sub (σ' := [(0, va0), (1, (.int .i64 i39)), (6, (.int .i64 (i41 + 1))), (7, (.int .i64 i43)), (8, (.int .i64 x103))]) ⟨rfl, rfl, rfl, rfl, rfl, trivial⟩
        refine e_then ?_; refine wp_seq ?_; refine wp_region_lit ?_; (iterate 2 refine op_g ha rfl (g_move rfl) ?_; clear ha a; intro a ha); obtain ⟨x112, hc113, hF⟩ := cal_some hF
        refine o_call ha rfl rfl Tryd.call81 (W_spec_l25Many hI108 hc113) ?_; clear ha a; rintro v114 w115 ⟨⟨rfl, hI117⟩, hx116⟩ a ha
        have hE118 := Ext.trans hE109 hx116
        obtain ⟨hq119, hF⟩ := grd_some hF
        have hI120 := in_rem hI117 hq119.1 hq119.2
        refine op_g ha rfl (g_rem rfl rfl hI117 hq119.1 hq119.2) ?_; clear ha a; intro a ha; obtain ⟨hI121, hF⟩ := ck_some hF; refine op_g ha rfl (g_add rfl rfl hI121) ?_; clear ha a; intro a ha; refine op_g ha rfl (g_assign rfl) ?_; clear ha a; intro a ha; refine wpList_nil ?_; replace ha := ha.sub (σ' := [(0, va0), (1, (.int .i64 i39)), (6, (.int .i64 (i41 + 1))), (7, (.int .i64 (i43 + (x112 % 2)))), (8, (.int .i64 x103))]) ⟨rfl, rfl, rfl, rfl, rfl, trivial⟩; refine e_then ?_; refine wp_region_lit ?_; (iterate 2 refine op_g ha rfl (g_move rfl) ?_; clear ha a; intro a ha); refine op_g ha rfl (g64_andNot rfl rfl) ?_; clear ha a; intro a ha
        refine op_g ha rfl (g_assign rfl) ?_; clear ha a; intro a ha; refine wpList_nil ?_; replace ha := ha.sub (σ' := [(0, va0), (1, (.int .i64 (i64andn i39 x103))), (6, (.int .i64 (i41 + 1))), (7, (.int .i64 (i43 + (x112 % 2))))]) ⟨rfl, rfl, rfl, rfl, trivial⟩; refine e_blk ?_; refine e_lq ?_; obtain rfl := Option.some.inj hF
        exact ⟨_, Nat.lt_succ_self _, i64andn i39 x103, i41 + 1, i43 + (x112 % 2), ha.sub ⟨rfl, rfl, rfl, rfl, trivial⟩, hE118, (in_i64andn _ _), hI110, hI121, hN92⟩
      replace hF := if_f hp95 hF; refine wp_exit ?_; refine e_then_exit ?_; refine e_lq_eq ?_; obtain rfl := Option.some.inj hF
      exact ⟨i41, i43, ha.sub ⟨rfl, rfl, trivial⟩, hE45, hI42, hI44, (LK_inr hN92).symm⟩
  rintro a w81 ⟨i82, i84, ha, hE91, hI83, hI85, rfl⟩
  have hF : F_spec_l27Parts_k2 i82 i84 = some _ := hK88; clear hK88; unfold F_spec_l27Parts_k2 at hF
  refine e_then ?_; refine wp_seq ?_; refine wp_region_lit ?_; (iterate 2 refine op_g ha rfl (g_move rfl) ?_; clear ha a; intro a ha); (iterate 2 refine op_g ha rfl (g_assign rfl) ?_; clear ha a; intro a ha); refine wpList_nil ?_; replace ha := ha.sub (σ' := [(4, (.int .i64 i82)), (5, (.int .i64 i84))]) ⟨rfl, rfl, trivial⟩; refine e_then ?_; refine wp_ret ?_; obtain rfl := Option.some.inj hF
  exact f_ret2 ha rfl rfl rfl ⟨_, _, rfl, ⟨rfl, hI83⟩, ⟨rfl, hI85⟩, hE91⟩
set_option maxHeartbeats 2000000 in
theorem W_spec_OddParts {W : World} {va0_0 : Value} {fa0_0 : List Nat} {a0_0 : (List (List Int))} (ha0_0 : Ro (Rp.sl 2 Rp.int) W fa0_0 va0_0 a0_0) {va1 : Value} {fa1 : List Nat} {a1 : (List Int)} (ha1 : Ro Rp.int W fa1 va1 a1) {r : Int} (hF : F_spec_OddParts a0_0 a1 = some r) :
    Calls Tryd.prog 27 [.agg #[va0_0], va1].toArray W (Ret fun u w' => (u = .int .i64 r ∧ InI r) ∧ Ext W w') := by
  refine f_enter Tryd.func27 rfl Tryd.ntmps27 rfl ?_
  intro a ha
  replace ha : Fr 28 [(0, (.agg #[va0_0])), (1, va1)] a := ha
  have hE : Chg [] W W := Chg.refl _ _
  unfold F_spec_OddParts at hF
  refine wp_seq ?_; refine wp_region_lit ?_
  refine o_box ha rfl rfl rfl ?_; clear ha a; intro b1 w2 hB3 hx4 hlo5 a ha
  have q6 := Zn.one hlo5
  have q7 := Zn.upD q6 hE
  have hE8 := Ext.trans hE hx4
  refine op_g ha rfl (g_assign rfl) ?_; clear ha a; intro a ha; refine wpList_nil ?_; replace ha := ha.sub (σ' := [(1, va1), (2, (.pointer (some ⟨b1, 0, none⟩)))]) ⟨rfl, rfl, trivial⟩; refine e_then ?_; refine wp_seq ?_; refine wp_seq ?_; refine wp_region_lit ?_; refine op_g ha rfl (g_loadA (cs := [va0_0]) Tryd.isAgg29 Tryd.sizeOf29 rfl (by simp) hB3.all) ?_; clear ha a; intro a ha; obtain ⟨x23, hc24, hF⟩ := cal_some hF
  refine o_call ha rfl rfl Tryd.call33 (W_spec_GraphOk (ha0_0.ext hE8) hc24) ?_; clear ha a; rintro v25 w26 ⟨rfl, hx27⟩ a ha
  replace hB3 := hB3.ext hx27
  have hE28 := Ext.trans hE8 hx27
  refine op_g ha rfl (g_not rfl) ?_; clear ha a; intro a ha; refine op_g ha rfl (g_move rfl) ?_; clear ha a; intro a ha
  by_cases hp29 : ¬ (x23 = true)
  · replace hF := if_t hp29 hF
    rw [show (!x23) = true from (n_iff (Iff.rfl)).2 hp29] at ha
    (iterate 4 refine op_unwant ha rfl (yields ha rfl rfl) rfl ?_; clear ha a; intro a ha); refine op_g ha rfl (g_pick rfl rfl) ?_; clear ha a; intro a ha; refine wpList_nil ?_; replace ha := ha.sub (σ' := [(1, va1), (2, (.pointer (some ⟨b1, 0, none⟩))), (15, (.bool true))]) ⟨rfl, rfl, rfl, trivial⟩; refine e_then ?_; refine c_true ha rfl ?_; refine wp_seq ?_; refine wp_region_lit ?_; refine op_g ha rfl (g_assign rfl) ?_; clear ha a; intro a ha; refine wpList_nil ?_; replace ha := ha.sub (σ' := [(4, (.int .i64 (-1)))]) ⟨rfl, trivial⟩; refine e_then ?_; refine wp_ret ?_; refine e_then_ret ?_; obtain rfl := Option.some.inj hF
    exact f_ret1 ha rfl rfl ⟨⟨rfl, (show InI (-1) from by decide)⟩, hE28⟩
  replace hF := if_f hp29 hF
  rw [show (!x23) = false from b_false (n_iff (Iff.rfl)) hp29] at ha
  refine op_want (yields ha rfl rfl) ?_; refine op_g ha rfl (g_loadA (cs := [va0_0]) Tryd.isAgg29 Tryd.sizeOf29 rfl (by simp) hB3.all) ?_; clear ha a; intro a ha; refine op_want (yields ha rfl rfl) ?_; refine op_g ha rfl (g_move rfl) ?_; clear ha a; intro a ha; refine op_want (yields ha rfl rfl) ?_; obtain ⟨x30, hc31, hF⟩ := cal_some hF
  refine o_call ha rfl rfl Tryd.call62 (W_spec_SetOk (ha0_0.ext hE28) (ha1.ext hE28) hc31) ?_; clear ha a; rintro v32 w33 ⟨rfl, hx34⟩ a ha
  replace hB3 := hB3.ext hx34
  have hE35 := Ext.trans hE28 hx34
  refine op_want (yields ha rfl rfl) ?_; refine op_g ha rfl (g_not rfl) ?_; clear ha a; intro a ha; refine op_g ha rfl (g_pick rfl rfl) ?_; clear ha a; intro a ha; refine wpList_nil ?_; replace ha := ha.sub (σ' := [(1, va1), (2, (.pointer (some ⟨b1, 0, none⟩))), (15, (.bool (!x30)))]) ⟨rfl, rfl, rfl, trivial⟩; refine e_then ?_; refine c_cond (¬ (x30 = true)) ha rfl (n_iff (Iff.rfl)) (fun hp36 => ?_) (fun hp36 => ?_)
  · replace hF := if_t hp36 hF
    refine wp_seq ?_; refine wp_region_lit ?_; refine op_g ha rfl (g_assign rfl) ?_; clear ha a; intro a ha; refine wpList_nil ?_; replace ha := ha.sub (σ' := [(4, (.int .i64 (-1)))]) ⟨rfl, trivial⟩; refine e_then ?_; refine wp_ret ?_; refine e_then_ret ?_; obtain rfl := Option.some.inj hF
    exact f_ret1 ha rfl rfl ⟨⟨rfl, (show InI (-1) from by decide)⟩, hE35⟩
  replace hF := if_f hp36 hF; refine wp_skip ?_; refine e_then ?_; refine wp_seq ?_; refine d_region [0, 1, 2, 3, 4, 5, 6, 7, 8, 9, 10, 11, 12] hmix ?_; refine u_g 0 rfl (by kernel_rfl) (want0 _) ha rfl (g_loadA (cs := [va0_0]) Tryd.isAgg29 Tryd.sizeOf29 rfl (by simp) hB3.all) ?_; clear ha a; intro a ha; refine u_g 2 rfl (by kernel_rfl) (want0 _) ha rfl (g_loadA (cs := [va0_0]) Tryd.isAgg29 Tryd.sizeOf29 rfl (by simp) hB3.all) ?_; clear ha a; intro a ha; refine u_g 4 rfl (by kernel_rfl) (want0 _) ha rfl (g_move rfl) ?_; clear ha a; intro a ha
  refine u_only 1 rfl (by kernel_rfl) ?_; intro w37 hx38
  replace hB3 := hB3.ext hx38
  have hE39 := Ext.trans hE35 hx38
  obtain ⟨x40, hc41, hF⟩ := cal_some hF
  refine o_call ha rfl rfl Tryd.call52 (W_spec_l25Bits (ha0_0.ext hE39) hc41) ?_; clear ha a; rintro v42 w43 ⟨b45, h46, z47, hx44⟩ a ha
  have q49 := Nq.new hB3.fpb z47
  have q50 := Nq.madeO z47 hB3.bi
  replace hB3 := hB3.ext hx44
  have hE51 := Ext.trans hE39 hx44
  have q52 := Zn.upD z47 hE39
  refine wpList_nil (e_sq ?_)
  refine ⟨fun _ => hx44, ?_⟩
  obtain ⟨x55, hc56, hF⟩ := cal_some hF; refine u_call (.int .i64 x55) 3 rfl (by kernel_rfl) (want0 _) ha rfl rfl Tryd.call54 (fun w54 hx53 => W_spec_l25All (ha0_0.ext (Ext.trans hE51 hx53)) hc56) (fun _ _ _ h => ⟨h.1.1, h.2⟩) ?_; clear ha a; intro a ha
  have hI57 : InI x55 := calls_fact (w := w43) (W_spec_l25All (ha0_0.ext (Ext.trans hE51 (Chg.refl _ _))) hc56) (fun _ _ h => h.1.2)
  obtain ⟨x60, hc61, hF⟩ := cal_some hF; refine u_call (.int .i64 x60) 5 rfl (by kernel_rfl) (want0 _) ha rfl rfl Tryd.call68 (fun w59 hx58 => W_spec_l25Mask (ha1.ext (Ext.trans hE51 hx58)) hc61) (fun _ _ _ h => ⟨h.1.1, h.2⟩) ?_; clear ha a; intro a ha
  have hI62 : InI x60 := calls_fact (w := w43) (W_spec_l25Mask (ha1.ext (Ext.trans hE51 (Chg.refl _ _))) hc61) (fun _ _ h => h.1.2)
  refine u_g 6 rfl (by kernel_rfl) (want0 _) ha rfl (g64_andNot rfl rfl) ?_; clear ha a; intro a ha
  refine u_only 7 rfl (by kernel_rfl) ?_; intro w63 hx64
  replace hB3 := hB3.ext hx64
  replace h46 := h46.ext hx64
  have hE65 := Ext.trans hE51 hx64
  obtain ⟨fp66, hro67, hs68⟩ := h46.roF
  obtain ⟨x69, hc70, hF⟩ := cal_some hF
  refine o_call ha rfl rfl Tryd.call67 (W_spec_l27Parts hro67 (in_i64andn _ _) hc70) ?_; clear ha a; rintro v71 w72 ⟨u74, u75, rfl, ⟨rfl, hI76⟩, ⟨rfl, hI77⟩, hx73⟩ a ha
  replace hB3 := hB3.ext hx73
  replace h46 := h46.ext hx73
  have hE78 := Ext.trans hE65 hx73
  refine wpList_nil (e_sq ?_)
  refine ⟨fun _ => hx73, ?_⟩
  refine u_g 8 rfl (by kernel_rfl) (want0 _) ha rfl (g_move rfl) ?_; clear ha a; intro a ha; refine u_g 9 rfl (by kernel_rfl) (want0 _) ha rfl (g_extract rfl rfl) ?_; clear ha a; intro a ha; refine u_g 10 rfl (by kernel_rfl) (want0 _) ha rfl (g_extract rfl rfl) ?_; clear ha a; intro a ha; refine u_g 11 rfl (by kernel_rfl) (want0 _) ha rfl (g_assign rfl) ?_; clear ha a; intro a ha; refine u_g 12 rfl (by kernel_rfl) (want0 _) ha rfl (g_assign rfl) ?_; clear ha a; intro a ha
  refine u_done (by kernel_rfl) ?_; intro w79 hx80
  replace hB3 := hB3.ext hx80
  replace h46 := h46.ext hx80
  have hE81 := Ext.trans hE78 hx80
  replace ha := ha.sub (σ' := [(6, (.int .i64 x69.2))]) ⟨rfl, trivial⟩; refine e_then ?_; refine wp_seq ?_; refine wp_region_lit ?_; refine op_g ha rfl (g_move rfl) ?_; clear ha a; intro a ha; refine op_g ha rfl (g_assign rfl) ?_; clear ha a; intro a ha; refine wpList_nil ?_; replace ha := ha.sub (σ' := [(4, (.int .i64 x69.2))]) ⟨rfl, trivial⟩; refine e_then ?_; refine wp_ret ?_; obtain rfl := Option.some.inj hF
  exact f_ret1 ha rfl rfl ⟨⟨rfl, hI77⟩, hE81⟩
set_option maxHeartbeats 2000000 in
theorem W_laws_FnMatchings {W : World} {va0 : Value} {fa0 : List Nat} {a0 : (List (BitVec 8))} (ha0 : Ro Rp.u8 W fa0 va0 a0) (hG : GT 0 W) {r : Bool} (hF : F_laws_FnMatchings a0 = some r) :
    Calls Tryd.prog 4 [va0].toArray W (Ret fun u w' => u = .bool r ∧ Ext W w') := by
  refine f_enter Tryd.func4 rfl Tryd.ntmps4 rfl ?_
  intro a ha
  replace ha : Fr 114 [(0, va0)] a := ha
  have hE : Chg [] W W := Chg.refl _ _
  unfold F_laws_FnMatchings at hF
  refine wp_seq ?_; refine wp_region_lit ?_; refine op_g ha rfl (g_assign rfl) ?_; clear ha a; intro a ha; refine wpList_nil ?_; replace ha := ha.sub (σ' := [(0, va0)]) ⟨rfl, trivial⟩; refine e_then ?_; refine wp_seq ?_; refine wp_seq ?_; refine wp_region_lit ?_; refine op_g ha rfl (g_move rfl) ?_; clear ha a; intro a ha; obtain ⟨x1, hc2, hF⟩ := cal_some hF
  refine o_call ha rfl rfl Tryd.call5 (W_laws_big (ha0.ext hE) hc2) ?_; clear ha a; rintro v3 w4 ⟨rfl, hx5⟩ a ha
  have hE6 := Ext.trans hE hx5
  refine wpList_nil ?_; replace ha := ha.sub (σ' := [(0, va0), (18, (.bool x1))]) ⟨rfl, rfl, trivial⟩; refine e_then ?_; refine c_cond (x1 = true) ha rfl (Iff.rfl) (fun hp7 => ?_) (fun hp7 => ?_)
  · replace hF := if_t hp7 hF
    refine wp_seq ?_; refine wp_region_lit ?_; refine op_g ha rfl (g_assign rfl) ?_; clear ha a; intro a ha; refine wpList_nil ?_; replace ha := ha.sub (σ' := [(2, (.bool true))]) ⟨rfl, trivial⟩; refine e_then ?_; refine wp_ret ?_; refine e_then_ret ?_; obtain rfl := Option.some.inj hF
    exact f_ret1 ha rfl rfl ⟨rfl, hE6⟩
  replace hF := if_f hp7 hF; refine wp_skip ?_; refine e_then ?_; refine wp_seq ?_; refine wp_region_lit ?_; refine op_g ha rfl (g_move rfl) ?_; clear ha a; intro a ha; obtain ⟨x8, hc9, hF⟩ := cal_some hF
  refine o_call ha rfl rfl Tryd.call6 (W_laws_roll (ha0.ext hE6) (show InU 809 from by decide) hc9) ?_; clear ha a; rintro v10 w11 ⟨b13, fs14, h15, z16, hl17, hx12⟩ a ha
  have hE19 := Ext.trans hE6 hx12
  have q20 := Zn.upD z16 hE6
  refine op_g ha rfl (g_assign rfl) ?_; clear ha a; intro a ha; refine wpList_nil ?_; replace ha := ha.sub (σ' := [(3, v10)]) ⟨rfl, trivial⟩; refine e_then ?_; refine wp_seq ?_; refine wp_region_lit ?_; refine op_g ha rfl (g_move rfl) ?_; clear ha a; intro a ha; obtain ⟨x21, hc22, hF⟩ := cal_some hF
  refine o_call ha rfl rfl Tryd.call7 (W_laws_w6Graph h15 (show InI 8 from by decide) hc22) ?_; clear ha a; rintro v23 w24 ⟨u26, fp27, rfl, h28, pv29, h31, hx25⟩ a ha
  have q32 := Nq.rd pv29 (Nq.nil _) h15.blt
  have hE33 := Ext.then hE19 hx25 (Zn.bl q20)
  refine o_alloc (cs := [(.slice none 0 0)]) ha rfl Tryd.zeroValue29 rfl ?_; clear ha a; intro b34 w35 hB36 hx37 hlo38 a ha
  have q39 := Zn.one hlo38
  have q40 := Nq.new h31.fpb q39
  have q41 := Nq.made1 hlo38 h31.blt
  have q42 := Nq.new h28.bnd q39
  have q43 := Zn.upD q39 hE33
  replace h31 := h31.ext hx37
  replace h28 := h28.ext hx37
  have hE44 := Ext.trans hE33 hx37
  refine o_storeA (vs := [u26]) ha hB36 Tryd.sizeOf29 rfl rfl (by intro c hc; simp only [List.mem_cons, List.not_mem_nil, or_false] at hc; rcases hc with hc <;> subst hc <;> first | rfl | exact h28.oneC) rfl ?_; intro w45 hB46 hc47
  replace hc47 := hc47.bl
  replace hB46 : Bx w45 b34 [u26] 29 := hB46
  replace h31 := h31.nq hc47 q40
  replace h28 := h28.nq hc47 q42
  have hE48 := Ext.then hE44 hc47 (Zn.bl q43)
  refine wpList_nil ?_; replace ha := ha.sub (σ' := [(3, v10), (4, (.pointer (some ⟨b34, 0, none⟩)))]) ⟨rfl, rfl, trivial⟩; refine e_then ?_; refine wp_seq ?_; refine wp_region_lit ?_; refine op_g ha rfl (g_loadA (cs := [u26]) Tryd.isAgg29 Tryd.sizeOf29 rfl (by simp) hB46.all) ?_; clear ha a; intro a ha; obtain ⟨x49, hc50, hF⟩ := cal_some hF
  refine o_call ha rfl rfl Tryd.call17 (W_impl_MatchingsMany h28 (hG.ext hE48) hc50) ?_; clear ha a; rintro v51 w52 ⟨⟨rfl, hI54⟩, hx53⟩ a ha
  replace h31 := h31.ext hx53
  replace h28 := h28.ext hx53
  replace hB46 := hB46.ext hx53
  have hE55 := Ext.trans hE48 hx53
  refine op_g ha rfl (g_assign rfl) ?_; clear ha a; intro a ha; refine wpList_nil ?_; replace ha := ha.sub (σ' := [(3, v10), (4, (.pointer (some ⟨b34, 0, none⟩))), (5, (.int .i64 x49))]) ⟨rfl, rfl, rfl, trivial⟩; refine e_then ?_; refine wp_seq ?_; refine wp_region_lit ?_; refine op_g ha rfl (g_loadA (cs := [u26]) Tryd.isAgg29 Tryd.sizeOf29 rfl (by simp) hB46.all) ?_; clear ha a; intro a ha; obtain ⟨x56, hc57, hF⟩ := cal_some hF
  refine o_call ha rfl rfl Tryd.call18 (W_impl_PerfectMany h28 (hG.ext hE55) hc57) ?_; clear ha a; rintro v58 w59 ⟨⟨rfl, hI61⟩, hx60⟩ a ha
  replace h31 := h31.ext hx60
  replace h28 := h28.ext hx60
  replace hB46 := hB46.ext hx60
  have hE62 := Ext.trans hE55 hx60
  refine op_g ha rfl (g_assign rfl) ?_; clear ha a; intro a ha; refine wpList_nil ?_; replace ha := ha.sub (σ' := [(3, v10), (4, (.pointer (some ⟨b34, 0, none⟩))), (5, (.int .i64 x49)), (6, (.int .i64 x56))]) ⟨rfl, rfl, rfl, rfl, trivial⟩; refine e_then ?_; refine wp_seq ?_; refine wp_seq ?_; refine d_region [0, 1, 2, 3, 4, 5, 6, 7, 8, 9, 10, 11, 12, 13, 14, 15] hmix ?_; refine u_g 0 rfl (by kernel_rfl) (want0 _) ha rfl (g_move rfl) ?_; clear ha a; intro a ha; refine u_g 1 rfl (by kernel_rfl) (want0 _) ha rfl (g_gtr rfl rfl) ?_; clear ha a; intro a ha; refine u_g 2 rfl (by kernel_rfl) (want0 _) ha rfl (g_loadA (cs := [u26]) Tryd.isAgg29 Tryd.sizeOf29 rfl (by simp) hB46.all) ?_; clear ha a; intro a ha
  refine u_g 6 rfl (by kernel_rfl) (want0 _) ha rfl (g_field0 st29_0 rfl) ?_; clear ha a; intro a ha; refine u_g 7 rfl (by kernel_rfl) (want0 _) ha rfl (g_load Tryd.isAgg27 rfl (hB46.cell rfl)) ?_; clear ha a; intro a ha; refine u_g 8 rfl (by kernel_rfl) (want0 _) ha rfl (g_lenR sl27.und h28 rfl) ?_; clear ha a; intro a ha
  refine u_only 3 rfl (by kernel_rfl) ?_; intro w98 hx99
  replace h31 := h31.ext hx99
  replace h28 := h28.ext hx99
  replace hB46 := hB46.ext hx99
  have hE100 := Ext.trans hE62 hx99
  obtain ⟨x101, hc102, hF⟩ := cal_some hF
  refine o_call ha rfl rfl Tryd.call19 (W_spec_BestMatch h28 hc102) ?_; clear ha a; rintro v103 w104 ⟨b106, fs110, h107, z108, zf111, nd112, hx105⟩ a ha
  have q113 := Nq.new h31.fpb z108
  have q114 := Nq.madeF z108 zf111 h31.blt
  have q115 := Nq.new h28.bnd z108
  have q116 := Nq.new hB46.fpb z108
  have q117 := Nq.madeF z108 zf111 hB46.bi
  have q118 := Nf.new h28.bnd zf111
  have q119 := Nf.new hB46.fpb zf111
  replace h31 := h31.ext hx105
  replace h28 := h28.ext hx105
  replace hB46 := hB46.ext hx105
  have hE120 := Ext.trans hE100 hx105
  have q121 := Zn.upD z108 hE100
  have q122 := zf_up zf111 hE100
  refine wpList_nil (e_sq ?_)
  refine ⟨fun _ => hx105, ?_⟩
  refine u_g 4 rfl (by kernel_rfl) (want0 _) ha rfl (g_lenO sl27.und h107 rfl) ?_; clear ha a; intro a ha; obtain ⟨hI123, hF⟩ := ck_some hF; refine u_g 5 rfl (by kernel_rfl) (want0 _) ha rfl (g_mul rfl rfl hI123) ?_; clear ha a; intro a ha; refine u_g 9 rfl (by kernel_rfl) (want0 _) ha rfl (g_eql rfl rfl) ?_; clear ha a; intro a ha; refine u_g 10 rfl (by kernel_rfl) (want0 _) ha rfl (gB_neq un4 rfl rfl) ?_; clear ha a; intro a ha; refine u_g 11 rfl (by kernel_rfl) (want0 _) ha rfl (g_move rfl) ?_; clear ha a; intro a ha
  by_cases hp125 : ((decide (0 < x56)) != (decide ((2 * (x101.length : Int)) = (x21.1.length : Int)))) = true
  · replace hF := if_t hp125 hF
    rw [show ((decide (0 < x56)) != (decide ((2 * (x101.length : Int)) = (x21.1.length : Int)))) = true from (Iff.rfl).2 hp125] at ha
    refine u_unwant 12 rfl (by kernel_rfl) (want2 (yields ha rfl rfl) rfl) ha rfl ?_; clear ha a; intro a ha; refine u_unwant 13 rfl (by kernel_rfl) (want2 (yields ha rfl rfl) rfl) ha rfl ?_; clear ha a; intro a ha; refine u_unwant 14 rfl (by kernel_rfl) (want2 (yields ha rfl rfl) rfl) ha rfl ?_; clear ha a; intro a ha; refine u_g 15 rfl (by kernel_rfl) (want0 _) ha rfl (g_pick rfl rfl) ?_; clear ha a; intro a ha
    refine u_done (by kernel_rfl) ?_; intro w126 hx127
    replace h31 := h31.ext hx127
    replace h28 := h28.ext hx127
    replace hB46 := hB46.ext hx127
    replace h107 := h107.ext hx127
    have hE128 := Ext.trans hE120 hx127
    replace ha := ha.sub (σ' := [(3, v10), (4, (.pointer (some ⟨b34, 0, none⟩))), (5, (.int .i64 x49)), (6, (.int .i64 x56)), (42, (.bool true))]) ⟨rfl, rfl, rfl, rfl, rfl, trivial⟩; refine e_then ?_; refine c_true ha rfl ?_; refine wp_seq ?_; refine wp_region_lit ?_; refine op_g ha rfl (g_assign rfl) ?_; clear ha a; intro a ha; refine wpList_nil ?_; replace ha := ha.sub (σ' := [(2, (.bool false))]) ⟨rfl, trivial⟩; refine e_then ?_; refine wp_ret ?_; refine e_then_ret ?_; obtain rfl := Option.some.inj hF
    exact f_ret1 ha rfl rfl ⟨rfl, hE128⟩
  replace hF := if_f hp125 hF
  rw [show ((decide (0 < x56)) != (decide ((2 * (x101.length : Int)) = (x21.1.length : Int)))) = false from b_false (Iff.rfl) hp125] at ha
  refine u_g 12 rfl (by kernel_rfl) (want1 (yields ha rfl rfl)) ha rfl (g_move rfl) ?_; clear ha a; intro a ha; refine u_g 13 rfl (by kernel_rfl) (want1 (yields ha rfl rfl)) ha rfl (g_move rfl) ?_; clear ha a; intro a ha; refine u_g 14 rfl (by kernel_rfl) (want1 (yields ha rfl rfl)) ha rfl (g_gtr rfl rfl) ?_; clear ha a; intro a ha; refine u_g 15 rfl (by kernel_rfl) (want0 _) ha rfl (g_pick rfl rfl) ?_; clear ha a; intro a ha
  refine u_done (by kernel_rfl) ?_; intro w129 hx130
  replace h31 := h31.ext hx130
  replace h28 := h28.ext hx130
  replace hB46 := hB46.ext hx130
  replace h107 := h107.ext hx130
  have hE131 := Ext.trans hE120 hx130
  replace ha := ha.sub (σ' := [(3, v10), (4, (.pointer (some ⟨b34, 0, none⟩))), (5, (.int .i64 x49)), (6, (.int .i64 x56)), (42, (.bool (decide (x49 < x56))))]) ⟨rfl, rfl, rfl, rfl, rfl, trivial⟩; refine e_then ?_; refine c_cond (x49 < x56) ha rfl (decide_eq_true_iff) (fun hp132 => ?_) (fun hp132 => ?_)
  · replace hF := if_t hp132 hF
    refine wp_seq ?_; refine wp_region_lit ?_; refine op_g ha rfl (g_assign rfl) ?_; clear ha a; intro a ha; refine wpList_nil ?_; replace ha := ha.sub (σ' := [(2, (.bool false))]) ⟨rfl, trivial⟩; refine e_then ?_; refine wp_ret ?_; refine e_then_ret ?_; obtain rfl := Option.some.inj hF
    exact f_ret1 ha rfl rfl ⟨rfl, hE131⟩
  replace hF := if_f hp132 hF; refine wp_skip ?_; refine e_then ?_; refine wp_seq ?_; refine wp_region_lit ?_; refine op_g ha rfl (g_loadA (cs := [u26]) Tryd.isAgg29 Tryd.sizeOf29 rfl (by simp) hB46.all) ?_; clear ha a; intro a ha; obtain ⟨x133, hc134, hF⟩ := cal_some hF
  refine o_call ha rfl rfl Tryd.call20 (W_spec_EdgesOf h28 hc134) ?_; clear ha a; rintro v135 w136 ⟨b138, fs142, h139, z140, zf143, nd144, hx137⟩ a ha
  have q145 := Nq.new h31.fpb z140
  have q146 := Nq.madeF z140 zf143 h31.blt
  have q147 := Nq.new h28.bnd z140
  have q148 := Nq.new hB46.fpb z140
  have q149 := Nq.madeF z140 zf143 hB46.bi
  have q150 := Nf.new h28.bnd zf143
  have q151 := Nf.new hB46.fpb zf143
  replace h31 := h31.ext hx137
  replace h28 := h28.ext hx137
  replace hB46 := hB46.ext hx137
  have hE152 := Ext.trans hE131 hx137
  have q153 := Zn.upD z140 hE131
  have q154 := zf_up zf143 hE131
  refine op_g ha rfl (g_assign rfl) ?_; clear ha a; intro a ha; refine wpList_nil ?_; replace ha := ha.sub (σ' := [(3, v10), (4, (.pointer (some ⟨b34, 0, none⟩))), (5, (.int .i64 x49)), (6, (.int .i64 x56)), (7, v135)]) ⟨rfl, rfl, rfl, rfl, rfl, trivial⟩; refine e_then ?_; refine wp_seq ?_; refine wp_seq ?_; refine wp_region_lit ?_; refine op_g ha rfl (g_move rfl) ?_; clear ha a; intro a ha; refine op_g ha rfl (g_lenO sl27.und h139 rfl) ?_; clear ha a; intro a ha; refine op_g ha rfl (g_eql rfl rfl) ?_; clear ha a; intro a ha; refine wpList_nil ?_; replace ha := ha.sub (σ' := [(3, v10), (4, (.pointer (some ⟨b34, 0, none⟩))), (5, (.int .i64 x49)), (6, (.int .i64 x56)), (7, v135), (47, (.bool (decide ((x133.length : Int) = 0))))]) ⟨rfl, rfl, rfl, rfl, rfl, rfl, trivial⟩
  refine e_then ?_; refine c_cond ((x133.length : Int) = 0) ha rfl (decide_eq_true_iff) (fun hp155 => ?_) (fun hp155 => ?_)
  · replace hF := if_t hp155 hF
    refine wp_seq ?_; refine wp_region_lit ?_; refine op_g ha rfl (g_move rfl) ?_; clear ha a; intro a ha; refine op_g ha rfl (g_eql rfl rfl) ?_; clear ha a; intro a ha; refine op_g ha rfl (g_move rfl) ?_; clear ha a; intro a ha
    by_cases hp156 : x49 = 1
    · replace hF := if_t hp156 hF
      rw [show (decide (x49 = 1)) = true from (decide_eq_true_iff).2 hp156] at ha
      refine op_want (yields ha rfl rfl) ?_; refine op_g ha rfl (g_move rfl) ?_; clear ha a; intro a ha; refine op_want (yields ha rfl rfl) ?_; refine op_g ha rfl (g_eql rfl rfl) ?_; clear ha a; intro a ha; refine op_g ha rfl (g_pick rfl rfl) ?_; clear ha a; intro a ha; refine op_g ha rfl (g_assign rfl) ?_; clear ha a; intro a ha; refine wpList_nil ?_; replace ha := ha.sub (σ' := [(2, (.bool (decide (x56 = 0))))]) ⟨rfl, trivial⟩; refine e_then ?_; refine wp_ret ?_; refine e_then_ret ?_; obtain rfl := Option.some.inj hF
      exact f_ret1 ha rfl rfl ⟨rfl, hE152⟩
    replace hF := if_f hp156 hF
    rw [show (decide (x49 = 1)) = false from b_false (decide_eq_true_iff) hp156] at ha
    (iterate 2 refine op_unwant ha rfl (yields ha rfl rfl) rfl ?_; clear ha a; intro a ha); refine op_g ha rfl (g_pick rfl rfl) ?_; clear ha a; intro a ha; refine op_g ha rfl (g_assign rfl) ?_; clear ha a; intro a ha; refine wpList_nil ?_; replace ha := ha.sub (σ' := [(2, (.bool false))]) ⟨rfl, trivial⟩; refine e_then ?_; refine wp_ret ?_; refine e_then_ret ?_; obtain rfl := Option.some.inj hF
    exact f_ret1 ha rfl rfl ⟨rfl, hE152⟩
  replace hF := if_f hp155 hF; refine wp_skip ?_; refine e_then ?_; refine wp_seq ?_; refine wp_region_lit ?_; (iterate 3 refine op_g ha rfl (g_move rfl) ?_; clear ha a; intro a ha); refine op_g ha rfl (g_lenO sl27.und h139 rfl) ?_; clear ha a; intro a ha; obtain ⟨x157, hc158, hF⟩ := cal_some hF
  refine o_call ha rfl rfl Tryd.call21 (W_laws_dice_below h31 h139.len hc158) ?_; clear ha a; rintro v159 w160 ⟨⟨rfl, hI162⟩, h163, hx161⟩ a ha
  replace h28 := h28.nq hx161 q32
  replace hB46 := hB46.nq hx161 q41
  replace h139 := h139.nq hx161 q146
  have hE164 := Ext.then hE152 hx161 (Zn.bl q20)
  obtain ⟨x165, g166, gx167, hF⟩ := idx_some hF
  obtain ⟨p168, cs169, f170, hf171, hpb172, hat173, hr174, hi175⟩ := h139.at g166 gx167
  replace hr174 := (Rp.sl 2 Rp.int).weak hr174
  obtain ⟨v176, rfl, h177⟩ := hr174
  have h177 : Ro Rp.int w160 f170 v176 x165 := h177
  have q179 := Nq.mono q146 (fun k hk => List.mem_append_right (bl b138) (hf171 k hk))
  have q180 := Nq.mono q149 (fun k hk => List.mem_append_right (bl b138) (hf171 k hk))
  have q181 := Nq.mono (Ow.ne h139) hf171
  refine op_g ha rfl (hi175.gives sl27 rfl rfl) ?_; clear ha a; intro a ha; refine op_g ha rfl (g_load Tryd.isAgg31 rfl hat173.one) ?_; clear ha a; intro a ha; refine op_g ha rfl (g_assign rfl) ?_; clear ha a; intro a ha; refine wpList_nil ?_; replace ha := ha.sub (σ' := [(3, v10), (4, (.pointer (some ⟨b34, 0, none⟩))), (5, (.int .i64 x49)), (6, (.int .i64 x56)), (8, v176)]) ⟨rfl, rfl, rfl, rfl, rfl, trivial⟩; refine e_then ?_; refine wp_seq ?_; refine x_region [0, 1, 2, 3, 4, 5, 6, 7, 8, 9, 10, 11, 12, 13] hmix ?_
  have hS182 := RowKit.Below.refl w160.heap.size w160
  refine x_g 0 rfl (by kernel_rfl) (want0 _) ha rfl hS182 (g_loadA (cs := [u26]) Tryd.isAgg29 Tryd.sizeOf29 rfl (by simp) hB46.all) ?_; clear ha a; intro a ha; refine x_g 1 rfl (by kernel_rfl) (want0 _) ha rfl hS182 (g_move rfl) ?_; clear ha a; intro a ha; obtain ⟨x183, g184, gx185, hF⟩ := idx_some hF
  obtain ⟨p186, cs187, f188, hf189, hpb190, hat191, hr192, hi193⟩ := h177.at g184 gx185
  obtain ⟨rfl, hI194, rfl⟩ := hr192
  refine x_g 2 rfl (by kernel_rfl) (want0 _) ha rfl hS182 (hi193.gives sl31 rfl rfl) ?_; clear ha a; intro a ha; refine x_g 3 rfl (by kernel_rfl) (want0 _) ha rfl hS182 (g_load Tryd.isAgg2 rfl hat191.one) ?_; clear ha a; intro a ha; refine x_g 4 rfl (by kernel_rfl) (want0 _) ha rfl hS182 (g_move rfl) ?_; clear ha a; intro a ha; obtain ⟨x195, g196, gx197, hF⟩ := idx_some hF
  obtain ⟨p198, cs199, f200, hf201, hpb202, hat203, hr204, hi205⟩ := h177.at g196 gx197
  obtain ⟨rfl, hI206, rfl⟩ := hr204
  refine x_g 5 rfl (by kernel_rfl) (want0 _) ha rfl hS182 (hi205.gives sl31 rfl rfl) ?_; clear ha a; intro a ha; refine x_g 6 rfl (by kernel_rfl) (want0 _) ha rfl hS182 (g_load Tryd.isAgg2 rfl hat203.one) ?_; clear ha a; intro a ha; obtain ⟨xqr1o7_1, hcqr1o7_1, hF⟩ := cal_some hF; refine x_many [7, 11] (by kernel_rfl) rfl fun wqr1_1 hxqr1_1 => ⟨⟨_, rfl, ?_⟩, ⟨_, rfl, ?_⟩, trivial⟩
  · skip
    replace h163 := h163.ext hxqr1_1
    replace h28 := h28.ext hxqr1_1
    replace hB46 := hB46.ext hxqr1_1
    replace h177 := h177.ext hxqr1_1
    have hEqr1o7_1 := Ext.trans hE164 hxqr1_1
    have qqr1o7_1 := bel_step hS182 hxqr1_1
    refine o_call ha rfl rfl Tryd.call22 (W_spec_CutEdge h28 hI194 hI206 hcqr1o7_1) ?_; clear ha a; rintro vqr1o7_1 wqr1o7_1 ⟨uqr1o7_1, uqr1o7_2, uqr1o7_3, bqr1o7_1, fsqr1o7_1, rfl, rfl, hqr1o7_1, zqr1o7_1, zfqr1o7_1, ndqr1o7_1, rfl, hxqr1o7_1⟩ a ha
    have qqr1o7_2 := Zn.upB zqr1o7_1 qqr1o7_1
    have qqr1o7_3 := Nq.new h163.fpb zqr1o7_1
    have qqr1o7_4 := Nq.madeF zqr1o7_1 zfqr1o7_1 h163.blt
    have qqr1o7_5 := Nq.new h28.bnd zqr1o7_1
    have qqr1o7_6 := Nq.new hB46.fpb zqr1o7_1
    have qqr1o7_7 := Nq.madeF zqr1o7_1 zfqr1o7_1 hB46.bi
    have qqr1o7_8 := Nq.new h177.bnd zqr1o7_1
    have qqr1o7_9 := Nf.new h28.bnd zfqr1o7_1
    have qqr1o7_10 := Nf.new hB46.fpb zfqr1o7_1
    have qqr1o7_11 := Nf.new h177.bnd zfqr1o7_1
    replace h163 := h163.ext hxqr1o7_1
    replace h28 := h28.ext hxqr1o7_1
    replace hB46 := hB46.ext hxqr1o7_1
    replace h177 := h177.ext hxqr1o7_1
    have hEqr1o7_2 := Ext.trans hEqr1o7_1 hxqr1o7_1
    have qqr1o7_12 := Zn.upD zqr1o7_1 hEqr1o7_1
    have qqr1o7_13 := zf_up zfqr1o7_1 hEqr1o7_1
    refine wpList_nil (e_sq ?_)
    have hStqr1o7_1 : RowKit.Below w160.heap.size wqr1_1 wqr1o7_1 := ext_bel qqr1o7_1.size hxqr1o7_1
    refine ⟨fun _ => hStqr1o7_1, ?_⟩
    have qqr1o7_14 := RowKit.Below.trans qqr1o7_1 hStqr1o7_1
    refine x_g 8 rfl (by kernel_rfl) (want0 _) ha rfl qqr1o7_14 (g_move rfl) ?_; clear ha a; intro a ha; refine x_g 9 rfl (by kernel_rfl) (want0 _) ha rfl qqr1o7_14 (g_extract rfl rfl) ?_; clear ha a; intro a ha; refine x_g 10 rfl (by kernel_rfl) (want0 _) ha rfl qqr1o7_14 (g_extract rfl rfl) ?_; clear ha a; intro a ha
    refine x_only 11 rfl (by kernel_rfl) ?_; intro wqr1o11_1 hxqr1o11_1
    replace h163 := h163.ext hxqr1o11_1
    replace h28 := h28.ext hxqr1o11_1
    replace hB46 := hB46.ext hxqr1o11_1
    replace h177 := h177.ext hxqr1o11_1
    replace hqr1o7_1 := hqr1o7_1.ext hxqr1o11_1
    have hEqr1o11_1 := Ext.trans hEqr1o7_2 hxqr1o11_1
    have qqr1o11_1 := bel_step qqr1o7_14 hxqr1o11_1
    refine o_alloc (cs := [(.slice none 0 0)]) ha rfl Tryd.zeroValue29 rfl ?_; clear ha a; intro bqr1o11_1 wqr1o11_2 hBqr1o11_1 hxqr1o11_2 hloqr1o11_1 a ha
    have qqr1o11_2 := Zn.one hloqr1o11_1
    have qqr1o11_3 := Nq.new h163.fpb qqr1o11_2
    have qqr1o11_4 := Nq.made1 hloqr1o11_1 h163.blt
    have qqr1o11_5 := Nq.new h28.bnd qqr1o11_2
    have qqr1o11_6 := Nq.new hB46.fpb qqr1o11_2
    have qqr1o11_7 := Nq.made1 hloqr1o11_1 hB46.bi
    have qqr1o11_8 := Nq.new h177.bnd qqr1o11_2
    have qqr1o11_9 := Nq.new hqr1o7_1.fpb qqr1o11_2
    have qqr1o11_10 := Nq.made1 hloqr1o11_1 hqr1o7_1.blt
    have qqr1o11_11 := Zn.upD qqr1o11_2 hEqr1o11_1
    have qqr1o11_12 := Zn.upB qqr1o11_2 qqr1o11_1
    replace h163 := h163.ext hxqr1o11_2
    replace h28 := h28.ext hxqr1o11_2
    replace hB46 := hB46.ext hxqr1o11_2
    replace h177 := h177.ext hxqr1o11_2
    replace hqr1o7_1 := hqr1o7_1.ext hxqr1o11_2
    have hEqr1o11_2 := Ext.trans hEqr1o11_1 hxqr1o11_2
    refine wpList_nil (e_sq ?_)
    have hStqr1o11_1 : RowKit.Below w160.heap.size wqr1o11_1 wqr1o11_2 := ext_bel qqr1o11_1.size hxqr1o11_2
    refine ⟨fun _ => hStqr1o11_1, ?_⟩
    have qqr1o11_13 := RowKit.Below.trans qqr1o11_1 hStqr1o11_1
    refine x_only 12 rfl (by kernel_rfl) ?_; intro wqr1o12_1 hxqr1o12_1
    replace h163 := h163.ext hxqr1o12_1
    replace h28 := h28.ext hxqr1o12_1
    replace hB46 := hB46.ext hxqr1o12_1
    replace h177 := h177.ext hxqr1o12_1
    replace hqr1o7_1 := hqr1o7_1.ext hxqr1o12_1
    replace hBqr1o11_1 := hBqr1o11_1.ext hxqr1o12_1
    have hEqr1o12_1 := Ext.trans hEqr1o11_2 hxqr1o12_1
    have qqr1o12_1 := bel_step qqr1o11_13 hxqr1o12_1
    refine o_storeA (vs := [uqr1o7_3]) ha hBqr1o11_1 Tryd.sizeOf29 rfl rfl (by intro c hc; simp only [List.mem_cons, List.not_mem_nil, or_false] at hc; rcases hc with hc <;> subst hc <;> first | rfl | exact hqr1o7_1.oneC) rfl ?_; intro wqr1o12_2 hBqr1o12_1 hcqr1o12_1
    replace hcqr1o12_1 := hcqr1o12_1.bl
    replace hBqr1o12_1 : Bx wqr1o12_2 bqr1o11_1 [uqr1o7_3] 29 := hBqr1o12_1
    replace h163 := h163.nq hcqr1o12_1 qqr1o11_3
    replace h28 := h28.nq hcqr1o12_1 qqr1o11_5
    replace hB46 := hB46.nq hcqr1o12_1 qqr1o11_6
    replace h177 := h177.nq hcqr1o12_1 qqr1o11_8
    replace hqr1o7_1 := hqr1o7_1.nq hcqr1o12_1 qqr1o11_9
    have hEqr1o12_2 := Ext.then hEqr1o12_1 hcqr1o12_1 (Zn.bl qqr1o11_11)
    refine wpList_nil (e_sq ?_)
    have hStqr1o12_1 : RowKit.Below w160.heap.size wqr1o12_1 wqr1o12_2 := chg_bel hcqr1o12_1 qqr1o12_1.size (Zn.bl qqr1o11_12)
    refine ⟨fun _ => hStqr1o12_1, ?_⟩
    have qqr1o12_2 := RowKit.Below.trans qqr1o12_1 hStqr1o12_1
    refine x_g 13 rfl (by kernel_rfl) (want0 _) ha rfl qqr1o12_2 (g_assign rfl) ?_; clear ha a; intro a ha
    refine x_done (by kernel_rfl) ?_; intro w207 hx208
    replace h163 := h163.ext hx208
    replace h28 := h28.ext hx208
    replace hB46 := hB46.ext hx208
    replace h177 := h177.ext hx208
    replace hqr1o7_1 := hqr1o7_1.ext hx208
    replace hBqr1o12_1 := hBqr1o12_1.ext hx208
    have hE209 := Ext.trans hEqr1o12_2 hx208
    replace ha := ha.sub (σ' := [(3, v10), (4, (.pointer (some ⟨b34, 0, none⟩))), (5, (.int .i64 x49)), (6, (.int .i64 x56)), (8, v176), (9, (.pointer (some ⟨bqr1o11_1, 0, none⟩)))]) ⟨rfl, rfl, rfl, rfl, rfl, rfl, trivial⟩; refine e_then ?_; refine wp_seq ?_; refine wp_region_lit ?_; refine op_g ha rfl (g_loadA (cs := [u26]) Tryd.isAgg29 Tryd.sizeOf29 rfl (by simp) hB46.all) ?_; clear ha a; intro a ha; refine op_g ha rfl (g_move rfl) ?_; clear ha a; intro a ha; obtain ⟨x210, hc211, hF⟩ := cal_some hF
    refine o_call ha rfl rfl Tryd.call23 (W_laws_w6Rest h28 h177 hc211) ?_; clear ha a; rintro v212 w213 ⟨b215, h216, z217, hx214⟩ a ha
    have q219 := Nq.new h163.fpb z217
    have q220 := Nq.madeO z217 h163.blt
    have q221 := Nq.new h28.bnd z217
    have q222 := Nq.new hB46.fpb z217
    have q223 := Nq.madeO z217 hB46.bi
    have q224 := Nq.new h177.bnd z217
    have q225 := Nq.new hqr1o7_1.fpb z217
    have q226 := Nq.madeO z217 hqr1o7_1.blt
    have q227 := Nq.new hBqr1o12_1.fpb z217
    have q228 := Nq.madeO z217 hBqr1o12_1.bi
    have q229 := Nf.old z217 (zf_nil _) hqr1o7_1.bnd
    replace h163 := h163.ext hx214
    replace h28 := h28.ext hx214
    replace hB46 := hB46.ext hx214
    replace h177 := h177.ext hx214
    replace hqr1o7_1 := hqr1o7_1.ext hx214
    replace hBqr1o12_1 := hBqr1o12_1.ext hx214
    have hE230 := Ext.trans hE209 hx214
    have q231 := Zn.upD z217 hE209
    refine op_g ha rfl (g_assign rfl) ?_; clear ha a; intro a ha; refine wpList_nil ?_; replace ha := ha.sub (σ' := [(3, v10), (4, (.pointer (some ⟨b34, 0, none⟩))), (5, (.int .i64 x49)), (6, (.int .i64 x56)), (9, (.pointer (some ⟨bqr1o11_1, 0, none⟩))), (11, v212)]) ⟨rfl, rfl, rfl, rfl, rfl, rfl, trivial⟩; refine e_then ?_; refine wp_seq ?_; refine wp_region_lit ?_; refine op_g ha rfl (g_assign rfl) ?_; clear ha a; intro a ha; refine wpList_nil ?_; replace ha := ha.sub (σ' := [(3, v10), (4, (.pointer (some ⟨b34, 0, none⟩))), (5, (.int .i64 x49)), (6, (.int .i64 x56)), (9, (.pointer (some ⟨bqr1o11_1, 0, none⟩))), (11, v212), (12, (.int .i64 1))]) ⟨rfl, rfl, rfl, rfl, rfl, rfl, rfl, trivial⟩
    refine e_then ?_; refine wp_seq ?_; refine wp_region_lit ?_; refine op_g ha rfl (g_assign rfl) ?_; clear ha a; intro a ha; refine wpList_nil ?_; replace ha := ha.sub (σ' := [(3, v10), (4, (.pointer (some ⟨b34, 0, none⟩))), (5, (.int .i64 x49)), (6, (.int .i64 x56)), (9, (.pointer (some ⟨bqr1o11_1, 0, none⟩))), (11, v212), (12, (.int .i64 1)), (13, (.int .i64 1))]) ⟨rfl, rfl, rfl, rfl, rfl, rfl, rfl, rfl, trivial⟩; refine e_then ?_; obtain ⟨o291, ho292, hK293⟩ := bnd_some hF
    have hF := ho292; clear ho292
    refine s_cut (fun a w => ∃ (i310 : Int) (i312 : Int) (fs307 : List Nat), Fr 114 [(3, v10), (4, (.pointer (some ⟨b34, 0, none⟩))), (5, (.int .i64 x49)), (6, (.int .i64 x56)), (9, (.pointer (some ⟨bqr1o11_1, 0, none⟩))), (12, (.int .i64 i310)), (13, (.int .i64 i312))] a ∧ Chg [] W w ∧ InI i310 ∧ InI i312 ∧ Dc 45 w fs14 b13 v10 x157.2 ∧ Zn W b13 ∧ Bx w b34 [u26] 29 ∧ Zn W (b34 : Int) ∧ Ro (Rp.sl 2 Rp.int) w fp27 u26 x21.1 ∧ Bx w bqr1o11_1 [uqr1o7_3] 29 ∧ Zn W (bqr1o11_1 : Int) ∧ Ow (Rp.sl 2 Rp.int) 31 true w fs307 bqr1o7_1 uqr1o7_3 xqr1o7_1.1 ∧ Zn W bqr1o7_1 ∧ (∀ k ∈ fs307, W.heap.size ≤ k) ∧ (bl bqr1o7_1 ++ fs307).Nodup ∧ Nq (bl b13 ++ fs14) (b34 : Int) ∧ Nq (bl b13 ++ fs14) (bqr1o11_1 : Int) ∧ Nq (bl b13 ++ fs14) bqr1o7_1 ∧ Nq ([b34]) b13 ∧ Nq ([b34]) (bqr1o11_1 : Int) ∧ Nq ([b34]) bqr1o7_1 ∧ Nq (fp27) b13 ∧ Nq (fp27) (b34 : Int) ∧ Nq (fp27) (bqr1o11_1 : Int) ∧ Nq (fp27) bqr1o7_1 ∧ Nq ([bqr1o11_1]) b13 ∧ Nq ([bqr1o11_1]) (b34 : Int) ∧ Nq ([bqr1o11_1]) bqr1o7_1 ∧ Nq (bl bqr1o7_1 ++ fs307) b13 ∧ Nq (bl bqr1o7_1 ++ fs307) (b34 : Int) ∧ Nq (bl bqr1o7_1 ++ fs307) (bqr1o11_1 : Int) ∧ o291 = .inl (i310, i312)) ?_ ?_
    · skip
      refine wp_seq ?_; refine wp_region_lit ?_; refine op_g ha rfl (g_move rfl) ?_; clear ha a; intro a ha; refine op_g ha rfl (g_lenO sl31.und h216 rfl) ?_; clear ha a; intro a ha; refine op_g ha rfl (g_gtr rfl rfl) ?_; clear ha a; intro a ha; refine wpList_nil ?_; replace ha := ha.sub (σ' := [(3, v10), (4, (.pointer (some ⟨b34, 0, none⟩))), (5, (.int .i64 x49)), (6, (.int .i64 x56)), (9, (.pointer (some ⟨bqr1o11_1, 0, none⟩))), (11, v212), (12, (.int .i64 1)), (13, (.int .i64 1)), (77, (.bool (decide (0 < (x210.length : Int)))))]) ⟨rfl, rfl, rfl, rfl, rfl, rfl, rfl, rfl, rfl, trivial⟩; refine e_then ?_
      refine c_cond (0 < (x210.length : Int)) ha rfl (decide_eq_true_iff) (fun hp331 => ?_) (fun hp331 => ?_)
      · replace hF := if_t hp331 hF
        refine wp_seq ?_; refine wp_region_lit ?_; refine op_g ha rfl (g_loadA (cs := [u26]) Tryd.isAgg29 Tryd.sizeOf29 rfl (by simp) hB46.all) ?_; clear ha a; intro a ha; refine op_g ha rfl (g_move rfl) ?_; clear ha a; intro a ha
        obtain ⟨fp332, hro333, hs334⟩ := h216.roF
        obtain ⟨x335, hc336, hF⟩ := cal_some hF
        refine o_call ha rfl rfl Tryd.call24 (W_spec_Induced h28 hro333 hc336) ?_; clear ha a; rintro v337 w338 ⟨u340, u341, u342, fp343, rfl, rfl, h344, pv345, rfl, hx339⟩ a ha
        have q347 := Nq.rd pv345 (Nq.append q32 (Nq.mono q220 hs334)) h163.blt
        have q348 := Nq.rd pv345 (Nq.append q42 (Nq.mono q223 hs334)) hB46.bi
        have q349 := Nq.rd pv345 (Nq.append qqr1o7_5 (Nq.mono q226 hs334)) hqr1o7_1.blt
        have q350 := Nq.rd pv345 (Nq.append qqr1o11_5 (Nq.mono q228 hs334)) hBqr1o12_1.bi
        replace h163 := h163.ext hx339
        replace h28 := h28.ext hx339
        replace hB46 := hB46.ext hx339
        replace hqr1o7_1 := hqr1o7_1.ext hx339
        replace hBqr1o12_1 := hBqr1o12_1.ext hx339
        replace h216 := h216.ext hx339
        have hE351 := Ext.trans hE230 hx339
        refine op_g ha rfl (g_move rfl) ?_; clear ha a; intro a ha; (iterate 2 refine op_g ha rfl (g_extract rfl rfl) ?_; clear ha a; intro a ha)
        refine o_alloc (cs := [(.slice none 0 0)]) ha rfl Tryd.zeroValue29 rfl ?_; clear ha a; intro b352 w353 hB354 hx355 hlo356 a ha
        have q357 := Zn.one hlo356
        have q358 := Nq.new h163.fpb q357
        have q359 := Nq.made1 hlo356 h163.blt
        have q360 := Nq.new h28.bnd q357
        have q361 := Nq.new hB46.fpb q357
        have q362 := Nq.made1 hlo356 hB46.bi
        have q363 := Nq.new hqr1o7_1.fpb q357
        have q364 := Nq.made1 hlo356 hqr1o7_1.blt
        have q365 := Nq.new hBqr1o12_1.fpb q357
        have q366 := Nq.made1 hlo356 hBqr1o12_1.bi
        have q367 := Nq.new h216.fpb q357
        have q368 := Nq.made1 hlo356 h216.blt
        have q369 := Nq.new h344.bnd q357
        have q370 := Zn.upD q357 hE351
        replace h163 := h163.ext hx355
        replace h28 := h28.ext hx355
        replace hB46 := hB46.ext hx355
        replace hqr1o7_1 := hqr1o7_1.ext hx355
        replace hBqr1o12_1 := hBqr1o12_1.ext hx355
        replace h216 := h216.ext hx355
        replace h344 := h344.ext hx355
        have hE371 := Ext.trans hE351 hx355
        refine o_storeA (vs := [u342]) ha hB354 Tryd.sizeOf29 rfl rfl (by intro c hc; simp only [List.mem_cons, List.not_mem_nil, or_false] at hc; rcases hc with hc <;> subst hc <;> first | rfl | exact h344.oneC) rfl ?_; intro w372 hB373 hc374
        replace hc374 := hc374.bl
        replace hB373 : Bx w372 b352 [u342] 29 := hB373
        replace h163 := h163.nq hc374 q358
        replace h28 := h28.nq hc374 q360
        replace hB46 := hB46.nq hc374 q361
        replace hqr1o7_1 := hqr1o7_1.nq hc374 q363
        replace hBqr1o12_1 := hBqr1o12_1.nq hc374 q365
        replace h216 := h216.nq hc374 q367
        replace h344 := h344.nq hc374 q369
        have hE375 := Ext.then hE371 hc374 (Zn.bl q370)
        refine op_g ha rfl (g_assign rfl) ?_; clear ha a; intro a ha; refine wpList_nil ?_; replace ha := ha.sub (σ' := [(3, v10), (4, (.pointer (some ⟨b34, 0, none⟩))), (5, (.int .i64 x49)), (6, (.int .i64 x56)), (9, (.pointer (some ⟨bqr1o11_1, 0, none⟩))), (14, (.pointer (some ⟨b352, 0, none⟩)))]) ⟨rfl, rfl, rfl, rfl, rfl, rfl, trivial⟩; refine e_then ?_; refine wp_seq ?_; refine wp_region_lit ?_; refine op_g ha rfl (g_loadA (cs := [u342]) Tryd.isAgg29 Tryd.sizeOf29 rfl (by simp) hB373.all) ?_; clear ha a; intro a ha; obtain ⟨x376, hc377, hF⟩ := cal_some hF
        refine o_call ha rfl rfl Tryd.call17 (W_impl_MatchingsMany h344 (hG.ext hE375) hc377) ?_; clear ha a; rintro v378 w379 ⟨⟨rfl, hI381⟩, hx380⟩ a ha
        replace h163 := h163.ext hx380
        replace h28 := h28.ext hx380
        replace hB46 := hB46.ext hx380
        replace hqr1o7_1 := hqr1o7_1.ext hx380
        replace hBqr1o12_1 := hBqr1o12_1.ext hx380
        replace h344 := h344.ext hx380
        replace hB373 := hB373.ext hx380
        have hE382 := Ext.trans hE375 hx380
        refine op_g ha rfl (g_assign rfl) ?_; clear ha a; intro a ha; refine wpList_nil ?_; replace ha := ha.sub (σ' := [(3, v10), (4, (.pointer (some ⟨b34, 0, none⟩))), (5, (.int .i64 x49)), (6, (.int .i64 x56)), (9, (.pointer (some ⟨bqr1o11_1, 0, none⟩))), (12, (.int .i64 x376)), (14, (.pointer (some ⟨b352, 0, none⟩)))]) ⟨rfl, rfl, rfl, rfl, rfl, rfl, rfl, trivial⟩; refine e_then ?_; refine wp_region_lit ?_; refine op_g ha rfl (g_loadA (cs := [u342]) Tryd.isAgg29 Tryd.sizeOf29 rfl (by simp) hB373.all) ?_; clear ha a; intro a ha; obtain ⟨x383, hc384, hF⟩ := cal_some hF
        refine o_call ha rfl rfl Tryd.call18 (W_impl_PerfectMany h344 (hG.ext hE382) hc384) ?_; clear ha a; rintro v385 w386 ⟨⟨rfl, hI388⟩, hx387⟩ a ha
        replace h163 := h163.ext hx387
        replace h28 := h28.ext hx387
        replace hB46 := hB46.ext hx387
        replace hqr1o7_1 := hqr1o7_1.ext hx387
        replace hBqr1o12_1 := hBqr1o12_1.ext hx387
        replace h344 := h344.ext hx387
        replace hB373 := hB373.ext hx387
        have hE389 := Ext.trans hE382 hx387
        refine op_g ha rfl (g_assign rfl) ?_; clear ha a; intro a ha; refine wpList_nil ?_; replace ha := ha.sub (σ' := [(3, v10), (4, (.pointer (some ⟨b34, 0, none⟩))), (5, (.int .i64 x49)), (6, (.int .i64 x56)), (9, (.pointer (some ⟨bqr1o11_1, 0, none⟩))), (12, (.int .i64 x376)), (13, (.int .i64 x383))]) ⟨rfl, rfl, rfl, rfl, rfl, rfl, rfl, trivial⟩; refine e_sq ?_; obtain rfl := Option.some.inj hF
        exact ⟨x376, x383, fsqr1o7_1, ha.sub ⟨rfl, rfl, rfl, rfl, rfl, rfl, rfl, trivial⟩, hE389, hI381, hI388, h163, q20, hB46, q43, h28, hBqr1o12_1, qqr1o11_11, hqr1o7_1, qqr1o7_12, qqr1o7_13, ndqr1o7_1, q40, qqr1o11_3, qqr1o7_3, q41, qqr1o11_6, qqr1o7_6, q32, q42, qqr1o11_5, qqr1o7_5, qqr1o11_4, qqr1o11_7, qqr1o11_10, qqr1o7_4, qqr1o7_7, qqr1o11_9, rfl⟩
      replace hF := if_f hp331 hF; refine wp_skip ?_; refine e_sq ?_; obtain rfl := Option.some.inj hF
      exact ⟨1, 1, fsqr1o7_1, ha.sub ⟨rfl, rfl, rfl, rfl, rfl, rfl, rfl, trivial⟩, hE230, (show InI 1 from by decide), (show InI 1 from by decide), h163, q20, hB46, q43, h28, hBqr1o12_1, qqr1o11_11, hqr1o7_1, qqr1o7_12, qqr1o7_13, ndqr1o7_1, q40, qqr1o11_3, qqr1o7_3, q41, qqr1o11_6, qqr1o7_6, q32, q42, qqr1o11_5, qqr1o7_5, qqr1o11_4, qqr1o11_7, qqr1o11_10, qqr1o7_4, qqr1o7_7, qqr1o11_9, rfl⟩
    rintro a w294 ⟨i310, i312, fs307, ha, hE330, hI311, hI313, h296, z297, hB298, z299, h301, hB302, z303, h305, z306, zf308, nd309, q314, q315, q316, q317, q318, q319, q320, q321, q322, q323, q324, q325, q326, q327, q328, q329, rfl⟩
    have hF : F_laws_FnMatchings_k1 x21 x49 x56 x157 xqr1o7_1 i310 i312 = some _ := hK293; clear hK293; unfold F_laws_FnMatchings_k1 at hF
    refine wp_seq ?_; refine wp_region_lit ?_; refine op_g ha rfl (g_move rfl) ?_; clear ha a; intro a ha; refine op_g ha rfl (g_loadA (cs := [u26]) Tryd.isAgg29 Tryd.sizeOf29 rfl (by simp) hB298.all) ?_; clear ha a; intro a ha; obtain ⟨x390, hc391, hF⟩ := cal_some hF
    refine o_call ha rfl rfl Tryd.call25 (W_laws_w6Set h296 h301 q320 hc391) ?_; clear ha a; rintro v392 w393 ⟨b395, h396, z397, h399, hx394⟩ a ha
    have q400 := Nq.new h296.fpb z397
    have q401 := Nq.madeO z397 h296.blt
    have q402 := Nq.new hB298.fpb z397
    have q403 := Nq.madeO z397 hB298.bi
    have q404 := Nq.new h301.bnd z397
    have q405 := Nq.new hB302.fpb z397
    have q406 := Nq.madeO z397 hB302.bi
    have q407 := Nq.new h305.fpb z397
    have q408 := Nq.madeO z397 h305.blt
    have q409 := Nf.old z397 (zf_nil _) h305.bnd
    replace hB298 := hB298.nq hx394 q317
    replace h301 := h301.nq hx394 q320
    replace hB302 := hB302.nq hx394 q324
    replace h305 := h305.nq hx394 q327
    have hE410 := Ext.then hE330 hx394 (Zn.bl z297)
    have q411 := Zn.upD z397 hE330
    refine op_g ha rfl (g_assign rfl) ?_; clear ha a; intro a ha; refine wpList_nil ?_; replace ha := ha.sub (σ' := [(4, (.pointer (some ⟨b34, 0, none⟩))), (5, (.int .i64 x49)), (6, (.int .i64 x56)), (9, (.pointer (some ⟨bqr1o11_1, 0, none⟩))), (12, (.int .i64 i310)), (13, (.int .i64 i312)), (16, v392)]) ⟨rfl, rfl, rfl, rfl, rfl, rfl, rfl, trivial⟩; refine e_then ?_; refine wp_seq ?_; refine d_quiet hmix (by kernel_rfl) ?_; refine q_g ha rfl (g_move rfl) ?_; clear ha a; intro a ha; refine q_g ha rfl (g_loadA (cs := [uqr1o7_3]) Tryd.isAgg29 Tryd.sizeOf29 rfl (by simp) hB302.all) ?_; clear ha a; intro a ha
    obtain ⟨fp414, hro415, hs416⟩ := h305.roF
    obtain ⟨x417, hc418, hF⟩ := cal_some hF; refine q_call (.int .i64 x417) ha rfl rfl Tryd.call17 (fun w413 hx412 => W_impl_MatchingsMany (hro415.ext hx412) (hG.ext (Ext.trans hE410 hx412)) hc418) (fun _ _ _ h => ⟨h.1.1, h.2⟩) ?_; clear ha a; intro a ha
    have hI419 : InI x417 := calls_fact (w := w393) (W_impl_MatchingsMany (hro415.ext (Chg.refl _ _)) (hG.ext (Ext.trans hE410 (Chg.refl _ _))) hc418) (fun _ _ h => h.1.2)
    refine q_g ha rfl (g_move rfl) ?_; clear ha a; intro a ha; obtain ⟨hI420, hF⟩ := ck_some hF; refine q_g ha rfl (g_add rfl rfl hI420) ?_; clear ha a; intro a ha; refine q_g ha rfl (g_eql rfl rfl) ?_; clear ha a; intro a ha; refine q_g ha rfl (g_move rfl) ?_; clear ha a; intro a ha
    by_cases hp422 : x49 = (x417 + i310)
    · replace hF := if_t hp422 hF
      rw [show (decide (x49 = (x417 + i310))) = true from (decide_eq_true_iff).2 hp422] at ha
      refine q_want (yields ha rfl rfl) ?_; refine q_g ha rfl (g_move rfl) ?_; clear ha a; intro a ha; refine q_want (yields ha rfl rfl) ?_; refine q_g ha rfl (g_loadA (cs := [uqr1o7_3]) Tryd.isAgg29 Tryd.sizeOf29 rfl (by simp) hB302.all) ?_; clear ha a; intro a ha; refine q_want (yields ha rfl rfl) ?_
      obtain ⟨fp425, hro426, hs427⟩ := h305.roF
      obtain ⟨x428, hc429, hF⟩ := cal_some hF; refine q_call (.int .i64 x428) ha rfl rfl Tryd.call18 (fun w424 hx423 => W_impl_PerfectMany (hro426.ext hx423) (hG.ext (Ext.trans hE410 hx423)) hc429) (fun _ _ _ h => ⟨h.1.1, h.2⟩) ?_; clear ha a; intro a ha
      have hI430 : InI x428 := calls_fact (w := w393) (W_impl_PerfectMany (hro426.ext (Chg.refl _ _)) (hG.ext (Ext.trans hE410 (Chg.refl _ _))) hc429) (fun _ _ h => h.1.2)
      refine q_want (yields ha rfl rfl) ?_; refine q_g ha rfl (g_move rfl) ?_; clear ha a; intro a ha; refine q_want (yields ha rfl rfl) ?_; obtain ⟨hI431, hF⟩ := ck_some hF; refine q_g ha rfl (g_add rfl rfl hI431) ?_; clear ha a; intro a ha; refine q_want (yields ha rfl rfl) ?_; refine q_g ha rfl (g_eql rfl rfl) ?_; clear ha a; intro a ha; refine q_g ha rfl (g_pick rfl rfl) ?_; clear ha a; intro a ha; refine q_g ha rfl (g_move rfl) ?_; clear ha a; intro a ha
      by_cases hp433 : x56 = (x428 + i312)
      · replace hF := if_t hp433 hF
        rw [show (decide (x56 = (x428 + i312))) = true from (decide_eq_true_iff).2 hp433] at ha
        refine q_want (yields ha rfl rfl) ?_; refine q_g ha rfl (g_loadA (cs := [u26]) Tryd.isAgg29 Tryd.sizeOf29 rfl (by simp) hB298.all) ?_; clear ha a; intro a ha; refine q_want (yields ha rfl rfl) ?_; refine q_g ha rfl (g_move rfl) ?_; clear ha a; intro a ha; refine q_want (yields ha rfl rfl) ?_
        obtain ⟨fp436, hro437, hs438⟩ := h396.roF
        obtain ⟨x439, hc440, hF⟩ := cal_some hF; refine q_call (.int .i64 x439) ha rfl rfl Tryd.call26 (fun w435 hx434 => W_impl_OddParts (h301.ext hx434) (hro437.ext hx434) (hG.ext (Ext.trans hE410 hx434)) hc440) (fun _ _ _ h => ⟨h.1.1, h.2⟩) ?_; clear ha a; intro a ha
        have hI441 : InI x439 := calls_fact (w := w393) (W_impl_OddParts (h301.ext (Chg.refl _ _)) (hro437.ext (Chg.refl _ _)) (hG.ext (Ext.trans hE410 (Chg.refl _ _))) hc440) (fun _ _ h => h.1.2)
        refine q_want (yields ha rfl rfl) ?_; refine q_g ha rfl (g_loadA (cs := [u26]) Tryd.isAgg29 Tryd.sizeOf29 rfl (by simp) hB298.all) ?_; clear ha a; intro a ha; refine q_want (yields ha rfl rfl) ?_; refine q_g ha rfl (g_move rfl) ?_; clear ha a; intro a ha; refine q_want (yields ha rfl rfl) ?_
        obtain ⟨fp444, hro445, hs446⟩ := h396.roF
        obtain ⟨x447, hc448, hF⟩ := cal_some hF; refine q_call (.int .i64 x447) ha rfl rfl Tryd.call27 (fun w443 hx442 => W_spec_OddParts (h301.ext hx442) (hro445.ext hx442) hc448) (fun _ _ _ h => ⟨h.1.1, h.2⟩) ?_; clear ha a; intro a ha
        have hI449 : InI x447 := calls_fact (w := w393) (W_spec_OddParts (h301.ext (Chg.refl _ _)) (hro445.ext (Chg.refl _ _)) hc448) (fun _ _ h => h.1.2)
        refine q_want (yields ha rfl rfl) ?_; refine q_g ha rfl (g_eql rfl rfl) ?_; clear ha a; intro a ha; refine q_g ha rfl (g_pick rfl rfl) ?_; clear ha a; intro a ha; refine q_g ha rfl (g_assign rfl) ?_; clear ha a; intro a ha
        refine q_nil ?_; intro w450 hx451
        replace hB298 := hB298.ext hx451
        replace h301 := h301.ext hx451
        replace hB302 := hB302.ext hx451
        replace h305 := h305.ext hx451
        replace h396 := h396.ext hx451
        have hE452 := Ext.trans hE410 hx451
        replace ha := ha.sub (σ' := [(2, (.bool (decide (x439 = x447))))]) ⟨rfl, trivial⟩; refine e_then ?_; refine wp_ret ?_; obtain rfl := Option.some.inj hF
        exact f_ret1 ha rfl rfl ⟨rfl, hE452⟩
      replace hF := if_f hp433 hF
      rw [show (decide (x56 = (x428 + i312))) = false from b_false (decide_eq_true_iff) hp433] at ha
      (iterate 7 refine q_unwant ha rfl (yields ha rfl rfl) rfl ?_; clear ha a; intro a ha); refine q_g ha rfl (g_pick rfl rfl) ?_; clear ha a; intro a ha; refine q_g ha rfl (g_assign rfl) ?_; clear ha a; intro a ha
      refine q_nil ?_; intro w453 hx454
      replace hB298 := hB298.ext hx454
      replace h301 := h301.ext hx454
      replace hB302 := hB302.ext hx454
      replace h305 := h305.ext hx454
      replace h396 := h396.ext hx454
      have hE455 := Ext.trans hE410 hx454
      replace ha := ha.sub (σ' := [(2, (.bool false))]) ⟨rfl, trivial⟩; refine e_then ?_; refine wp_ret ?_; obtain rfl := Option.some.inj hF
      exact f_ret1 ha rfl rfl ⟨rfl, hE455⟩
    replace hF := if_f hp422 hF
    rw [show (decide (x49 = (x417 + i310))) = false from b_false (decide_eq_true_iff) hp422] at ha
    (iterate 6 refine q_unwant ha rfl (yields ha rfl rfl) rfl ?_; clear ha a; intro a ha); refine q_g ha rfl (g_pick rfl rfl) ?_; clear ha a; intro a ha; refine q_g ha rfl (g_move rfl) ?_; clear ha a; intro a ha; (iterate 7 refine q_unwant ha rfl (yields ha rfl rfl) rfl ?_; clear ha a; intro a ha); refine q_g ha rfl (g_pick rfl rfl) ?_; clear ha a; intro a ha; refine q_g ha rfl (g_assign rfl) ?_; clear ha a; intro a ha
    refine q_nil ?_; intro w456 hx457
    replace hB298 := hB298.ext hx457
    replace h301 := h301.ext hx457
    replace hB302 := hB302.ext hx457
    replace h305 := h305.ext hx457
    replace h396 := h396.ext hx457
    have hE458 := Ext.trans hE410 hx457
    replace ha := ha.sub (σ' := [(2, (.bool false))]) ⟨rfl, trivial⟩; refine e_then ?_; refine wp_ret ?_; obtain rfl := Option.some.inj hF
    exact f_ret1 ha rfl rfl ⟨rfl, hE458⟩
  skip
  replace h163 := h163.ext hxqr1_1
  replace h28 := h28.ext hxqr1_1
  replace hB46 := hB46.ext hxqr1_1
  replace h177 := h177.ext hxqr1_1
  have hEqr1o11_1 := Ext.trans hE164 hxqr1_1
  have qqr1o11_1 := bel_step hS182 hxqr1_1
  refine o_alloc (cs := [(.slice none 0 0)]) ha rfl Tryd.zeroValue29 rfl ?_; clear ha a; intro bqr1o11_1 wqr1o11_1 hBqr1o11_1 hxqr1o11_1 hloqr1o11_1 a ha
  have qqr1o11_2 := Zn.one hloqr1o11_1
  have qqr1o11_3 := Nq.new h163.fpb qqr1o11_2
  have qqr1o11_4 := Nq.made1 hloqr1o11_1 h163.blt
  have qqr1o11_5 := Nq.new h28.bnd qqr1o11_2
  have qqr1o11_6 := Nq.new hB46.fpb qqr1o11_2
  have qqr1o11_7 := Nq.made1 hloqr1o11_1 hB46.bi
  have qqr1o11_8 := Nq.new h177.bnd qqr1o11_2
  have qqr1o11_9 := Zn.upD qqr1o11_2 hEqr1o11_1
  have qqr1o11_10 := Zn.upB qqr1o11_2 qqr1o11_1
  replace h163 := h163.ext hxqr1o11_1
  replace h28 := h28.ext hxqr1o11_1
  replace hB46 := hB46.ext hxqr1o11_1
  replace h177 := h177.ext hxqr1o11_1
  have hEqr1o11_2 := Ext.trans hEqr1o11_1 hxqr1o11_1
  refine wpList_nil (e_sq ?_)
  have hStqr1o11_1 : RowKit.Below w160.heap.size wqr1_1 wqr1o11_1 := ext_bel qqr1o11_1.size hxqr1o11_1
  refine ⟨fun _ => hStqr1o11_1, ?_⟩
  have qqr1o11_11 := RowKit.Below.trans qqr1o11_1 hStqr1o11_1
  refine x_only 7 rfl (by kernel_rfl) ?_; intro wqr1o7_1 hxqr1o7_1
  replace h163 := h163.ext hxqr1o7_1
  replace h28 := h28.ext hxqr1o7_1
  replace hB46 := hB46.ext hxqr1o7_1
  replace h177 := h177.ext hxqr1o7_1
  replace hBqr1o11_1 := hBqr1o11_1.ext hxqr1o7_1
  have hEqr1o7_1 := Ext.trans hEqr1o11_2 hxqr1o7_1
  have qqr1o7_1 := bel_step qqr1o11_11 hxqr1o7_1
  refine o_call ha rfl rfl Tryd.call22 (W_spec_CutEdge h28 hI194 hI206 hcqr1o7_1) ?_; clear ha a; rintro vqr1o7_1 wqr1o7_2 ⟨uqr1o7_1, uqr1o7_2, uqr1o7_3, bqr1o7_1, fsqr1o7_1, rfl, rfl, hqr1o7_1, zqr1o7_1, zfqr1o7_1, ndqr1o7_1, rfl, hxqr1o7_2⟩ a ha
  have qqr1o7_2 := Zn.upB zqr1o7_1 qqr1o7_1
  have qqr1o7_3 := Nq.new h163.fpb zqr1o7_1
  have qqr1o7_4 := Nq.madeF zqr1o7_1 zfqr1o7_1 h163.blt
  have qqr1o7_5 := Nq.new h28.bnd zqr1o7_1
  have qqr1o7_6 := Nq.new hB46.fpb zqr1o7_1
  have qqr1o7_7 := Nq.madeF zqr1o7_1 zfqr1o7_1 hB46.bi
  have qqr1o7_8 := Nq.new h177.bnd zqr1o7_1
  have qqr1o7_9 := Nq.new hBqr1o11_1.fpb zqr1o7_1
  have qqr1o7_10 := Nq.madeF zqr1o7_1 zfqr1o7_1 hBqr1o11_1.bi
  have qqr1o7_11 := Nf.new h28.bnd zfqr1o7_1
  have qqr1o7_12 := Nf.new hB46.fpb zfqr1o7_1
  have qqr1o7_13 := Nf.new h177.bnd zfqr1o7_1
  have qqr1o7_14 := Nf.new hBqr1o11_1.fpb zfqr1o7_1
  replace h163 := h163.ext hxqr1o7_2
  replace h28 := h28.ext hxqr1o7_2
  replace hB46 := hB46.ext hxqr1o7_2
  replace h177 := h177.ext hxqr1o7_2
  replace hBqr1o11_1 := hBqr1o11_1.ext hxqr1o7_2
  have hEqr1o7_2 := Ext.trans hEqr1o7_1 hxqr1o7_2
  have qqr1o7_15 := Zn.upD zqr1o7_1 hEqr1o7_1
  have qqr1o7_16 := zf_up zfqr1o7_1 hEqr1o7_1
  refine wpList_nil (e_sq ?_)
  have hStqr1o7_1 : RowKit.Below w160.heap.size wqr1o7_1 wqr1o7_2 := ext_bel qqr1o7_1.size hxqr1o7_2
  refine ⟨fun _ => hStqr1o7_1, ?_⟩
  have qqr1o7_17 := RowKit.Below.trans qqr1o7_1 hStqr1o7_1
  refine x_g 8 rfl (by kernel_rfl) (want0 _) ha rfl qqr1o7_17 (g_move rfl) ?_; clear ha a; intro a ha; refine x_g 9 rfl (by kernel_rfl) (want0 _) ha rfl qqr1o7_17 (g_extract rfl rfl) ?_; clear ha a; intro a ha; refine x_g 10 rfl (by kernel_rfl) (want0 _) ha rfl qqr1o7_17 (g_extract rfl rfl) ?_; clear ha a; intro a ha
  refine x_only 12 rfl (by kernel_rfl) ?_; intro wqr1o12_1 hxqr1o12_1
  replace h163 := h163.ext hxqr1o12_1
  replace h28 := h28.ext hxqr1o12_1
  replace hB46 := hB46.ext hxqr1o12_1
  replace h177 := h177.ext hxqr1o12_1
  replace hBqr1o11_1 := hBqr1o11_1.ext hxqr1o12_1
  replace hqr1o7_1 := hqr1o7_1.ext hxqr1o12_1
  have hEqr1o12_1 := Ext.trans hEqr1o7_2 hxqr1o12_1
  have qqr1o12_1 := bel_step qqr1o7_17 hxqr1o12_1
  refine o_storeA (vs := [uqr1o7_3]) ha hBqr1o11_1 Tryd.sizeOf29 rfl rfl (by intro c hc; simp only [List.mem_cons, List.not_mem_nil, or_false] at hc; rcases hc with hc <;> subst hc <;> first | rfl | exact hqr1o7_1.oneC) rfl ?_; intro wqr1o12_2 hBqr1o12_1 hcqr1o12_1
  replace hcqr1o12_1 := hcqr1o12_1.bl
  replace hBqr1o12_1 : Bx wqr1o12_2 bqr1o11_1 [uqr1o7_3] 29 := hBqr1o12_1
  replace h163 := h163.nq hcqr1o12_1 qqr1o11_3
  replace h28 := h28.nq hcqr1o12_1 qqr1o11_5
  replace hB46 := hB46.nq hcqr1o12_1 qqr1o11_6
  replace h177 := h177.nq hcqr1o12_1 qqr1o11_8
  replace hqr1o7_1 := hqr1o7_1.nq hcqr1o12_1 qqr1o7_10
  have hEqr1o12_2 := Ext.then hEqr1o12_1 hcqr1o12_1 (Zn.bl qqr1o11_9)
  refine wpList_nil (e_sq ?_)
  have hStqr1o12_1 : RowKit.Below w160.heap.size wqr1o12_1 wqr1o12_2 := chg_bel hcqr1o12_1 qqr1o12_1.size (Zn.bl qqr1o11_10)
  refine ⟨fun _ => hStqr1o12_1, ?_⟩
  have qqr1o12_2 := RowKit.Below.trans qqr1o12_1 hStqr1o12_1
  refine x_g 13 rfl (by kernel_rfl) (want0 _) ha rfl qqr1o12_2 (g_assign rfl) ?_; clear ha a; intro a ha
  refine x_done (by kernel_rfl) ?_; intro w207 hx208
  replace h163 := h163.ext hx208
  replace h28 := h28.ext hx208
  replace hB46 := hB46.ext hx208
  replace h177 := h177.ext hx208
  replace hBqr1o12_1 := hBqr1o12_1.ext hx208
  replace hqr1o7_1 := hqr1o7_1.ext hx208
  have hE209 := Ext.trans hEqr1o12_2 hx208
  replace ha := ha.sub (σ' := [(3, v10), (4, (.pointer (some ⟨b34, 0, none⟩))), (5, (.int .i64 x49)), (6, (.int .i64 x56)), (8, v176), (9, (.pointer (some ⟨bqr1o11_1, 0, none⟩)))]) ⟨rfl, rfl, rfl, rfl, rfl, rfl, trivial⟩; refine e_then ?_; refine wp_seq ?_; refine wp_region_lit ?_; refine op_g ha rfl (g_loadA (cs := [u26]) Tryd.isAgg29 Tryd.sizeOf29 rfl (by simp) hB46.all) ?_; clear ha a; intro a ha; refine op_g ha rfl (g_move rfl) ?_; clear ha a; intro a ha; obtain ⟨x210, hc211, hF⟩ := cal_some hF
  refine o_call ha rfl rfl Tryd.call23 (W_laws_w6Rest h28 h177 hc211) ?_; clear ha a; rintro v212 w213 ⟨b215, h216, z217, hx214⟩ a ha
  have q219 := Nq.new h163.fpb z217
  have q220 := Nq.madeO z217 h163.blt
  have q221 := Nq.new h28.bnd z217
  have q222 := Nq.new hB46.fpb z217
  have q223 := Nq.madeO z217 hB46.bi
  have q224 := Nq.new h177.bnd z217
  have q225 := Nq.new hBqr1o12_1.fpb z217
  have q226 := Nq.madeO z217 hBqr1o12_1.bi
  have q227 := Nq.new hqr1o7_1.fpb z217
  have q228 := Nq.madeO z217 hqr1o7_1.blt
  have q229 := Nf.old z217 (zf_nil _) hqr1o7_1.bnd
  replace h163 := h163.ext hx214
  replace h28 := h28.ext hx214
  replace hB46 := hB46.ext hx214
  replace h177 := h177.ext hx214
  replace hBqr1o12_1 := hBqr1o12_1.ext hx214
  replace hqr1o7_1 := hqr1o7_1.ext hx214
  have hE230 := Ext.trans hE209 hx214
  have q231 := Zn.upD z217 hE209
  refine op_g ha rfl (g_assign rfl) ?_; clear ha a; intro a ha; refine wpList_nil ?_; replace ha := ha.sub (σ' := [(3, v10), (4, (.pointer (some ⟨b34, 0, none⟩))), (5, (.int .i64 x49)), (6, (.int .i64 x56)), (9, (.pointer (some ⟨bqr1o11_1, 0, none⟩))), (11, v212)]) ⟨rfl, rfl, rfl, rfl, rfl, rfl, trivial⟩; refine e_then ?_; refine wp_seq ?_; refine wp_region_lit ?_; refine op_g ha rfl (g_assign rfl) ?_; clear ha a; intro a ha; refine wpList_nil ?_; replace ha := ha.sub (σ' := [(3, v10), (4, (.pointer (some ⟨b34, 0, none⟩))), (5, (.int .i64 x49)), (6, (.int .i64 x56)), (9, (.pointer (some ⟨bqr1o11_1, 0, none⟩))), (11, v212), (12, (.int .i64 1))]) ⟨rfl, rfl, rfl, rfl, rfl, rfl, rfl, trivial⟩
  refine e_then ?_; refine wp_seq ?_; refine wp_region_lit ?_; refine op_g ha rfl (g_assign rfl) ?_; clear ha a; intro a ha; refine wpList_nil ?_; replace ha := ha.sub (σ' := [(3, v10), (4, (.pointer (some ⟨b34, 0, none⟩))), (5, (.int .i64 x49)), (6, (.int .i64 x56)), (9, (.pointer (some ⟨bqr1o11_1, 0, none⟩))), (11, v212), (12, (.int .i64 1)), (13, (.int .i64 1))]) ⟨rfl, rfl, rfl, rfl, rfl, rfl, rfl, rfl, trivial⟩; refine e_then ?_; obtain ⟨o291, ho292, hK293⟩ := bnd_some hF
  have hF := ho292; clear ho292
  refine s_cut (fun a w => ∃ (i310 : Int) (i312 : Int) (fs307 : List Nat), Fr 114 [(3, v10), (4, (.pointer (some ⟨b34, 0, none⟩))), (5, (.int .i64 x49)), (6, (.int .i64 x56)), (9, (.pointer (some ⟨bqr1o11_1, 0, none⟩))), (12, (.int .i64 i310)), (13, (.int .i64 i312))] a ∧ Chg [] W w ∧ InI i310 ∧ InI i312 ∧ Dc 45 w fs14 b13 v10 x157.2 ∧ Zn W b13 ∧ Bx w b34 [u26] 29 ∧ Zn W (b34 : Int) ∧ Ro (Rp.sl 2 Rp.int) w fp27 u26 x21.1 ∧ Bx w bqr1o11_1 [uqr1o7_3] 29 ∧ Zn W (bqr1o11_1 : Int) ∧ Ow (Rp.sl 2 Rp.int) 31 true w fs307 bqr1o7_1 uqr1o7_3 xqr1o7_1.1 ∧ Zn W bqr1o7_1 ∧ (∀ k ∈ fs307, W.heap.size ≤ k) ∧ (bl bqr1o7_1 ++ fs307).Nodup ∧ Nq (bl b13 ++ fs14) (b34 : Int) ∧ Nq (bl b13 ++ fs14) (bqr1o11_1 : Int) ∧ Nq (bl b13 ++ fs14) bqr1o7_1 ∧ Nq ([b34]) b13 ∧ Nq ([b34]) (bqr1o11_1 : Int) ∧ Nq ([b34]) bqr1o7_1 ∧ Nq (fp27) b13 ∧ Nq (fp27) (b34 : Int) ∧ Nq (fp27) (bqr1o11_1 : Int) ∧ Nq (fp27) bqr1o7_1 ∧ Nq ([bqr1o11_1]) b13 ∧ Nq ([bqr1o11_1]) (b34 : Int) ∧ Nq ([bqr1o11_1]) bqr1o7_1 ∧ Nq (bl bqr1o7_1 ++ fs307) b13 ∧ Nq (bl bqr1o7_1 ++ fs307) (b34 : Int) ∧ Nq (bl bqr1o7_1 ++ fs307) (bqr1o11_1 : Int) ∧ o291 = .inl (i310, i312)) ?_ ?_
  · skip
    refine wp_seq ?_; refine wp_region_lit ?_; refine op_g ha rfl (g_move rfl) ?_; clear ha a; intro a ha; refine op_g ha rfl (g_lenO sl31.und h216 rfl) ?_; clear ha a; intro a ha; refine op_g ha rfl (g_gtr rfl rfl) ?_; clear ha a; intro a ha; refine wpList_nil ?_; replace ha := ha.sub (σ' := [(3, v10), (4, (.pointer (some ⟨b34, 0, none⟩))), (5, (.int .i64 x49)), (6, (.int .i64 x56)), (9, (.pointer (some ⟨bqr1o11_1, 0, none⟩))), (11, v212), (12, (.int .i64 1)), (13, (.int .i64 1)), (77, (.bool (decide (0 < (x210.length : Int)))))]) ⟨rfl, rfl, rfl, rfl, rfl, rfl, rfl, rfl, rfl, trivial⟩; refine e_then ?_
    refine c_cond (0 < (x210.length : Int)) ha rfl (decide_eq_true_iff) (fun hp331 => ?_) (fun hp331 => ?_)
    · replace hF := if_t hp331 hF
      refine wp_seq ?_; refine wp_region_lit ?_; refine op_g ha rfl (g_loadA (cs := [u26]) Tryd.isAgg29 Tryd.sizeOf29 rfl (by simp) hB46.all) ?_; clear ha a; intro a ha; refine op_g ha rfl (g_move rfl) ?_; clear ha a; intro a ha
      obtain ⟨fp332, hro333, hs334⟩ := h216.roF
      obtain ⟨x335, hc336, hF⟩ := cal_some hF
      refine o_call ha rfl rfl Tryd.call24 (W_spec_Induced h28 hro333 hc336) ?_; clear ha a; rintro v337 w338 ⟨u340, u341, u342, fp343, rfl, rfl, h344, pv345, rfl, hx339⟩ a ha
      have q347 := Nq.rd pv345 (Nq.append q32 (Nq.mono q220 hs334)) h163.blt
      have q348 := Nq.rd pv345 (Nq.append q42 (Nq.mono q223 hs334)) hB46.bi
      have q349 := Nq.rd pv345 (Nq.append qqr1o11_5 (Nq.mono q226 hs334)) hBqr1o12_1.bi
      have q350 := Nq.rd pv345 (Nq.append qqr1o7_5 (Nq.mono q228 hs334)) hqr1o7_1.blt
      replace h163 := h163.ext hx339
      replace h28 := h28.ext hx339
      replace hB46 := hB46.ext hx339
      replace hBqr1o12_1 := hBqr1o12_1.ext hx339
      replace hqr1o7_1 := hqr1o7_1.ext hx339
      replace h216 := h216.ext hx339
      have hE351 := Ext.trans hE230 hx339
      refine op_g ha rfl (g_move rfl) ?_; clear ha a; intro a ha; (iterate 2 refine op_g ha rfl (g_extract rfl rfl) ?_; clear ha a; intro a ha)
      refine o_alloc (cs := [(.slice none 0 0)]) ha rfl Tryd.zeroValue29 rfl ?_; clear ha a; intro b352 w353 hB354 hx355 hlo356 a ha
      have q357 := Zn.one hlo356
      have q358 := Nq.new h163.fpb q357
      have q359 := Nq.made1 hlo356 h163.blt
      have q360 := Nq.new h28.bnd q357
      have q361 := Nq.new hB46.fpb q357
      have q362 := Nq.made1 hlo356 hB46.bi
      have q363 := Nq.new hBqr1o12_1.fpb q357
      have q364 := Nq.made1 hlo356 hBqr1o12_1.bi
      have q365 := Nq.new hqr1o7_1.fpb q357
      have q366 := Nq.made1 hlo356 hqr1o7_1.blt
      have q367 := Nq.new h216.fpb q357
      have q368 := Nq.made1 hlo356 h216.blt
      have q369 := Nq.new h344.bnd q357
      have q370 := Zn.upD q357 hE351
      replace h163 := h163.ext hx355
      replace h28 := h28.ext hx355
      replace hB46 := hB46.ext hx355
      replace hBqr1o12_1 := hBqr1o12_1.ext hx355
      replace hqr1o7_1 := hqr1o7_1.ext hx355
      replace h216 := h216.ext hx355
      replace h344 := h344.ext hx355
      have hE371 := Ext.trans hE351 hx355
      refine o_storeA (vs := [u342]) ha hB354 Tryd.sizeOf29 rfl rfl (by intro c hc; simp only [List.mem_cons, List.not_mem_nil, or_false] at hc; rcases hc with hc <;> subst hc <;> first | rfl | exact h344.oneC) rfl ?_; intro w372 hB373 hc374
      replace hc374 := hc374.bl
      replace hB373 : Bx w372 b352 [u342] 29 := hB373
      replace h163 := h163.nq hc374 q358
      replace h28 := h28.nq hc374 q360
      replace hB46 := hB46.nq hc374 q361
      replace hBqr1o12_1 := hBqr1o12_1.nq hc374 q363
      replace hqr1o7_1 := hqr1o7_1.nq hc374 q365
      replace h216 := h216.nq hc374 q367
      replace h344 := h344.nq hc374 q369
      have hE375 := Ext.then hE371 hc374 (Zn.bl q370)
      refine op_g ha rfl (g_assign rfl) ?_; clear ha a; intro a ha; refine wpList_nil ?_; replace ha := ha.sub (σ' := [(3, v10), (4, (.pointer (some ⟨b34, 0, none⟩))), (5, (.int .i64 x49)), (6, (.int .i64 x56)), (9, (.pointer (some ⟨bqr1o11_1, 0, none⟩))), (14, (.pointer (some ⟨b352, 0, none⟩)))]) ⟨rfl, rfl, rfl, rfl, rfl, rfl, trivial⟩; refine e_then ?_; refine wp_seq ?_; refine wp_region_lit ?_; refine op_g ha rfl (g_loadA (cs := [u342]) Tryd.isAgg29 Tryd.sizeOf29 rfl (by simp) hB373.all) ?_; clear ha a; intro a ha; obtain ⟨x376, hc377, hF⟩ := cal_some hF
      refine o_call ha rfl rfl Tryd.call17 (W_impl_MatchingsMany h344 (hG.ext hE375) hc377) ?_; clear ha a; rintro v378 w379 ⟨⟨rfl, hI381⟩, hx380⟩ a ha
      replace h163 := h163.ext hx380
      replace h28 := h28.ext hx380
      replace hB46 := hB46.ext hx380
      replace hBqr1o12_1 := hBqr1o12_1.ext hx380
      replace hqr1o7_1 := hqr1o7_1.ext hx380
      replace h344 := h344.ext hx380
      replace hB373 := hB373.ext hx380
      have hE382 := Ext.trans hE375 hx380
      refine op_g ha rfl (g_assign rfl) ?_; clear ha a; intro a ha; refine wpList_nil ?_; replace ha := ha.sub (σ' := [(3, v10), (4, (.pointer (some ⟨b34, 0, none⟩))), (5, (.int .i64 x49)), (6, (.int .i64 x56)), (9, (.pointer (some ⟨bqr1o11_1, 0, none⟩))), (12, (.int .i64 x376)), (14, (.pointer (some ⟨b352, 0, none⟩)))]) ⟨rfl, rfl, rfl, rfl, rfl, rfl, rfl, trivial⟩; refine e_then ?_; refine wp_region_lit ?_; refine op_g ha rfl (g_loadA (cs := [u342]) Tryd.isAgg29 Tryd.sizeOf29 rfl (by simp) hB373.all) ?_; clear ha a; intro a ha; obtain ⟨x383, hc384, hF⟩ := cal_some hF
      refine o_call ha rfl rfl Tryd.call18 (W_impl_PerfectMany h344 (hG.ext hE382) hc384) ?_; clear ha a; rintro v385 w386 ⟨⟨rfl, hI388⟩, hx387⟩ a ha
      replace h163 := h163.ext hx387
      replace h28 := h28.ext hx387
      replace hB46 := hB46.ext hx387
      replace hBqr1o12_1 := hBqr1o12_1.ext hx387
      replace hqr1o7_1 := hqr1o7_1.ext hx387
      replace h344 := h344.ext hx387
      replace hB373 := hB373.ext hx387
      have hE389 := Ext.trans hE382 hx387
      refine op_g ha rfl (g_assign rfl) ?_; clear ha a; intro a ha; refine wpList_nil ?_; replace ha := ha.sub (σ' := [(3, v10), (4, (.pointer (some ⟨b34, 0, none⟩))), (5, (.int .i64 x49)), (6, (.int .i64 x56)), (9, (.pointer (some ⟨bqr1o11_1, 0, none⟩))), (12, (.int .i64 x376)), (13, (.int .i64 x383))]) ⟨rfl, rfl, rfl, rfl, rfl, rfl, rfl, trivial⟩; refine e_sq ?_; obtain rfl := Option.some.inj hF
      exact ⟨x376, x383, fsqr1o7_1, ha.sub ⟨rfl, rfl, rfl, rfl, rfl, rfl, rfl, trivial⟩, hE389, hI381, hI388, h163, q20, hB46, q43, h28, hBqr1o12_1, qqr1o11_9, hqr1o7_1, qqr1o7_15, qqr1o7_16, ndqr1o7_1, q40, qqr1o11_3, qqr1o7_3, q41, qqr1o11_6, qqr1o7_6, q32, q42, qqr1o11_5, qqr1o7_5, qqr1o11_4, qqr1o11_7, qqr1o7_9, qqr1o7_4, qqr1o7_7, qqr1o7_10, rfl⟩
    replace hF := if_f hp331 hF; refine wp_skip ?_; refine e_sq ?_; obtain rfl := Option.some.inj hF
    exact ⟨1, 1, fsqr1o7_1, ha.sub ⟨rfl, rfl, rfl, rfl, rfl, rfl, rfl, trivial⟩, hE230, (show InI 1 from by decide), (show InI 1 from by decide), h163, q20, hB46, q43, h28, hBqr1o12_1, qqr1o11_9, hqr1o7_1, qqr1o7_15, qqr1o7_16, ndqr1o7_1, q40, qqr1o11_3, qqr1o7_3, q41, qqr1o11_6, qqr1o7_6, q32, q42, qqr1o11_5, qqr1o7_5, qqr1o11_4, qqr1o11_7, qqr1o7_9, qqr1o7_4, qqr1o7_7, qqr1o7_10, rfl⟩
  rintro a w294 ⟨i310, i312, fs307, ha, hE330, hI311, hI313, h296, z297, hB298, z299, h301, hB302, z303, h305, z306, zf308, nd309, q314, q315, q316, q317, q318, q319, q320, q321, q322, q323, q324, q325, q326, q327, q328, q329, rfl⟩
  have hF : F_laws_FnMatchings_k1 x21 x49 x56 x157 xqr1o7_1 i310 i312 = some _ := hK293; clear hK293; unfold F_laws_FnMatchings_k1 at hF
  refine wp_seq ?_; refine wp_region_lit ?_; refine op_g ha rfl (g_move rfl) ?_; clear ha a; intro a ha; refine op_g ha rfl (g_loadA (cs := [u26]) Tryd.isAgg29 Tryd.sizeOf29 rfl (by simp) hB298.all) ?_; clear ha a; intro a ha; obtain ⟨x390, hc391, hF⟩ := cal_some hF
  refine o_call ha rfl rfl Tryd.call25 (W_laws_w6Set h296 h301 q320 hc391) ?_; clear ha a; rintro v392 w393 ⟨b395, h396, z397, h399, hx394⟩ a ha
  have q400 := Nq.new h296.fpb z397
  have q401 := Nq.madeO z397 h296.blt
  have q402 := Nq.new hB298.fpb z397
  have q403 := Nq.madeO z397 hB298.bi
  have q404 := Nq.new h301.bnd z397
  have q405 := Nq.new hB302.fpb z397
  have q406 := Nq.madeO z397 hB302.bi
  have q407 := Nq.new h305.fpb z397
  have q408 := Nq.madeO z397 h305.blt
  have q409 := Nf.old z397 (zf_nil _) h305.bnd
  replace hB298 := hB298.nq hx394 q317
  replace h301 := h301.nq hx394 q320
  replace hB302 := hB302.nq hx394 q324
  replace h305 := h305.nq hx394 q327
  have hE410 := Ext.then hE330 hx394 (Zn.bl z297)
  have q411 := Zn.upD z397 hE330
  refine op_g ha rfl (g_assign rfl) ?_; clear ha a; intro a ha; refine wpList_nil ?_; replace ha := ha.sub (σ' := [(4, (.pointer (some ⟨b34, 0, none⟩))), (5, (.int .i64 x49)), (6, (.int .i64 x56)), (9, (.pointer (some ⟨bqr1o11_1, 0, none⟩))), (12, (.int .i64 i310)), (13, (.int .i64 i312)), (16, v392)]) ⟨rfl, rfl, rfl, rfl, rfl, rfl, rfl, trivial⟩; refine e_then ?_; refine wp_seq ?_; refine d_quiet hmix (by kernel_rfl) ?_; refine q_g ha rfl (g_move rfl) ?_; clear ha a; intro a ha; refine q_g ha rfl (g_loadA (cs := [uqr1o7_3]) Tryd.isAgg29 Tryd.sizeOf29 rfl (by simp) hB302.all) ?_; clear ha a; intro a ha
  obtain ⟨fp414, hro415, hs416⟩ := h305.roF
  obtain ⟨x417, hc418, hF⟩ := cal_some hF; refine q_call (.int .i64 x417) ha rfl rfl Tryd.call17 (fun w413 hx412 => W_impl_MatchingsMany (hro415.ext hx412) (hG.ext (Ext.trans hE410 hx412)) hc418) (fun _ _ _ h => ⟨h.1.1, h.2⟩) ?_; clear ha a; intro a ha
  have hI419 : InI x417 := calls_fact (w := w393) (W_impl_MatchingsMany (hro415.ext (Chg.refl _ _)) (hG.ext (Ext.trans hE410 (Chg.refl _ _))) hc418) (fun _ _ h => h.1.2)
  refine q_g ha rfl (g_move rfl) ?_; clear ha a; intro a ha; obtain ⟨hI420, hF⟩ := ck_some hF; refine q_g ha rfl (g_add rfl rfl hI420) ?_; clear ha a; intro a ha; refine q_g ha rfl (g_eql rfl rfl) ?_; clear ha a; intro a ha; refine q_g ha rfl (g_move rfl) ?_; clear ha a; intro a ha
  by_cases hp422 : x49 = (x417 + i310)
  · replace hF := if_t hp422 hF
    rw [show (decide (x49 = (x417 + i310))) = true from (decide_eq_true_iff).2 hp422] at ha
    refine q_want (yields ha rfl rfl) ?_; refine q_g ha rfl (g_move rfl) ?_; clear ha a; intro a ha; refine q_want (yields ha rfl rfl) ?_; refine q_g ha rfl (g_loadA (cs := [uqr1o7_3]) Tryd.isAgg29 Tryd.sizeOf29 rfl (by simp) hB302.all) ?_; clear ha a; intro a ha; refine q_want (yields ha rfl rfl) ?_
    obtain ⟨fp425, hro426, hs427⟩ := h305.roF
    obtain ⟨x428, hc429, hF⟩ := cal_some hF; refine q_call (.int .i64 x428) ha rfl rfl Tryd.call18 (fun w424 hx423 => W_impl_PerfectMany (hro426.ext hx423) (hG.ext (Ext.trans hE410 hx423)) hc429) (fun _ _ _ h => ⟨h.1.1, h.2⟩) ?_; clear ha a; intro a ha
    have hI430 : InI x428 := calls_fact (w := w393) (W_impl_PerfectMany (hro426.ext (Chg.refl _ _)) (hG.ext (Ext.trans hE410 (Chg.refl _ _))) hc429) (fun _ _ h => h.1.2)
    refine q_want (yields ha rfl rfl) ?_; refine q_g ha rfl (g_move rfl) ?_; clear ha a; intro a ha; refine q_want (yields ha rfl rfl) ?_; obtain ⟨hI431, hF⟩ := ck_some hF; refine q_g ha rfl (g_add rfl rfl hI431) ?_; clear ha a; intro a ha; refine q_want (yields ha rfl rfl) ?_; refine q_g ha rfl (g_eql rfl rfl) ?_; clear ha a; intro a ha; refine q_g ha rfl (g_pick rfl rfl) ?_; clear ha a; intro a ha; refine q_g ha rfl (g_move rfl) ?_; clear ha a; intro a ha
    by_cases hp433 : x56 = (x428 + i312)
    · replace hF := if_t hp433 hF
      rw [show (decide (x56 = (x428 + i312))) = true from (decide_eq_true_iff).2 hp433] at ha
      refine q_want (yields ha rfl rfl) ?_; refine q_g ha rfl (g_loadA (cs := [u26]) Tryd.isAgg29 Tryd.sizeOf29 rfl (by simp) hB298.all) ?_; clear ha a; intro a ha; refine q_want (yields ha rfl rfl) ?_; refine q_g ha rfl (g_move rfl) ?_; clear ha a; intro a ha; refine q_want (yields ha rfl rfl) ?_
      obtain ⟨fp436, hro437, hs438⟩ := h396.roF
      obtain ⟨x439, hc440, hF⟩ := cal_some hF; refine q_call (.int .i64 x439) ha rfl rfl Tryd.call26 (fun w435 hx434 => W_impl_OddParts (h301.ext hx434) (hro437.ext hx434) (hG.ext (Ext.trans hE410 hx434)) hc440) (fun _ _ _ h => ⟨h.1.1, h.2⟩) ?_; clear ha a; intro a ha
      have hI441 : InI x439 := calls_fact (w := w393) (W_impl_OddParts (h301.ext (Chg.refl _ _)) (hro437.ext (Chg.refl _ _)) (hG.ext (Ext.trans hE410 (Chg.refl _ _))) hc440) (fun _ _ h => h.1.2)
      refine q_want (yields ha rfl rfl) ?_; refine q_g ha rfl (g_loadA (cs := [u26]) Tryd.isAgg29 Tryd.sizeOf29 rfl (by simp) hB298.all) ?_; clear ha a; intro a ha; refine q_want (yields ha rfl rfl) ?_; refine q_g ha rfl (g_move rfl) ?_; clear ha a; intro a ha; refine q_want (yields ha rfl rfl) ?_
      obtain ⟨fp444, hro445, hs446⟩ := h396.roF
      obtain ⟨x447, hc448, hF⟩ := cal_some hF; refine q_call (.int .i64 x447) ha rfl rfl Tryd.call27 (fun w443 hx442 => W_spec_OddParts (h301.ext hx442) (hro445.ext hx442) hc448) (fun _ _ _ h => ⟨h.1.1, h.2⟩) ?_; clear ha a; intro a ha
      have hI449 : InI x447 := calls_fact (w := w393) (W_spec_OddParts (h301.ext (Chg.refl _ _)) (hro445.ext (Chg.refl _ _)) hc448) (fun _ _ h => h.1.2)
      refine q_want (yields ha rfl rfl) ?_; refine q_g ha rfl (g_eql rfl rfl) ?_; clear ha a; intro a ha; refine q_g ha rfl (g_pick rfl rfl) ?_; clear ha a; intro a ha; refine q_g ha rfl (g_assign rfl) ?_; clear ha a; intro a ha
      refine q_nil ?_; intro w450 hx451
      replace hB298 := hB298.ext hx451
      replace h301 := h301.ext hx451
      replace hB302 := hB302.ext hx451
      replace h305 := h305.ext hx451
      replace h396 := h396.ext hx451
      have hE452 := Ext.trans hE410 hx451
      replace ha := ha.sub (σ' := [(2, (.bool (decide (x439 = x447))))]) ⟨rfl, trivial⟩; refine e_then ?_; refine wp_ret ?_; obtain rfl := Option.some.inj hF
      exact f_ret1 ha rfl rfl ⟨rfl, hE452⟩
    replace hF := if_f hp433 hF
    rw [show (decide (x56 = (x428 + i312))) = false from b_false (decide_eq_true_iff) hp433] at ha
    (iterate 7 refine q_unwant ha rfl (yields ha rfl rfl) rfl ?_; clear ha a; intro a ha); refine q_g ha rfl (g_pick rfl rfl) ?_; clear ha a; intro a ha; refine q_g ha rfl (g_assign rfl) ?_; clear ha a; intro a ha
    refine q_nil ?_; intro w453 hx454
    replace hB298 := hB298.ext hx454
    replace h301 := h301.ext hx454
    replace hB302 := hB302.ext hx454
    replace h305 := h305.ext hx454
    replace h396 := h396.ext hx454
    have hE455 := Ext.trans hE410 hx454
    replace ha := ha.sub (σ' := [(2, (.bool false))]) ⟨rfl, trivial⟩; refine e_then ?_; refine wp_ret ?_; obtain rfl := Option.some.inj hF
    exact f_ret1 ha rfl rfl ⟨rfl, hE455⟩
  replace hF := if_f hp422 hF
  rw [show (decide (x49 = (x417 + i310))) = false from b_false (decide_eq_true_iff) hp422] at ha
  (iterate 6 refine q_unwant ha rfl (yields ha rfl rfl) rfl ?_; clear ha a; intro a ha); refine q_g ha rfl (g_pick rfl rfl) ?_; clear ha a; intro a ha; refine q_g ha rfl (g_move rfl) ?_; clear ha a; intro a ha; (iterate 7 refine q_unwant ha rfl (yields ha rfl rfl) rfl ?_; clear ha a; intro a ha); refine q_g ha rfl (g_pick rfl rfl) ?_; clear ha a; intro a ha; refine q_g ha rfl (g_assign rfl) ?_; clear ha a; intro a ha
  refine q_nil ?_; intro w456 hx457
  replace hB298 := hB298.ext hx457
  replace h301 := h301.ext hx457
  replace hB302 := hB302.ext hx457
  replace h305 := h305.ext hx457
  replace h396 := h396.ext hx457
  have hE458 := Ext.trans hE410 hx457
  replace ha := ha.sub (σ' := [(2, (.bool false))]) ⟨rfl, trivial⟩; refine e_then ?_; refine wp_ret ?_; obtain rfl := Option.some.inj hF
  exact f_ret1 ha rfl rfl ⟨rfl, hE458⟩
end Go.Proofs.YtadjcnllmkdgiaaDoor
