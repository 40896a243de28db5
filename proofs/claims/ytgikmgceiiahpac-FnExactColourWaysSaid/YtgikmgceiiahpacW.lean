/- Walks, printed by gen.py. -/
import Derived.Test.YtgikmgceiiahpacF
import Derived.Test.YtgikmgceiiahpacW1
import Derived.Test.YtgikmgceiiahpacProg
import Derived.KernelRfl
set_option maxRecDepth 100000
namespace Go.Proofs.Ytgikmgceiiahpac
open Go Go.RowKit

set_option maxHeartbeats 2000000 in
theorem W_impl_maskOf {W : World} {va0 : Value} {fa0 : List Nat} {a0 : (List Int)} (ha0 : Ro Rp.int W fa0 va0 a0) {r : (BitVec 32)} (hF : F_impl_maskOf a0 = some r) :
    Calls Try.prog 36 [va0].toArray W (Ret fun u w' => u = .int .u32 (BitVec.toNat r : Int) ∧ Ext W w') := by
  refine f_enter Try.func36 rfl Try.ntmps36 rfl ?_
  intro a ha
  replace ha : Fr 18 [(0, va0)] a := ha
  have hE : Chg [] W W := Chg.refl _ _
  unfold F_impl_maskOf at hF
  refine wp_seq ?_
  refine wp_region_lit ?_
  refine op_g ha rfl (g_assign rfl) ?_; clear ha a; intro a ha
  refine wpList_nil ?_
  replace ha := ha.sub (σ' := [(0, va0)]) ⟨rfl, trivial⟩
  refine e_then ?_
  refine wp_seq ?_
  refine wp_region_lit ?_
  refine op_g ha rfl (g_assign rfl) ?_; clear ha a; intro a ha
  refine wpList_nil ?_
  refine e_then ?_
  refine wp_seq ?_
  refine wp_seq ?_
  refine wp_region_lit ?_
  refine op_g ha rfl (g_move rfl) ?_; clear ha a; intro a ha
  refine op_g ha rfl (g_lenR sl26.und ha0 rfl) ?_; clear ha a; intro a ha
  refine op_g ha rfl (g_move rfl) ?_; clear ha a; intro a ha
  refine wpList_nil ?_
  replace ha := ha.sub (σ' := [(3, (.int .u32 (BitVec.toNat (0#32) : Int))), (6, va0), (7, (.int .i64 (a0.length : Int))), (8, (.int .i64 0))]) ⟨rfl, rfl, rfl, rfl, trivial⟩
  refine e_then ?_
  obtain ⟨o60, ho61, hK62⟩ := bnd_some hF
  obtain ⟨n63, hn64⟩ := lp_some ho61; clear ho61
  refine c_loop (fun a w => ∃ (u59 : BitVec 32), Fr 18 [(3, (.int .u32 (BitVec.toNat u59 : Int)))] a ∧ Chg [] W w ∧ o60 = .inl u59) (fun n a w => ∃ (u29 : BitVec 32) (i30 : Int), Fr 18 [(3, (.int .u32 (BitVec.toNat u29 : Int))), (6, va0), (7, (.int .i64 (a0.length : Int))), (8, (.int .i64 i30))] a ∧ Chg [] W w ∧ InI i30 ∧ lpN (fun s => F_impl_maskOf_l1 a0 s.1 s.2) n (u29, i30) = some o60) n63 ⟨0#32, 0, ha.sub ⟨rfl, rfl, rfl, rfl, trivial⟩, hE, (show InI 0 from by decide), hn64⟩ ?_ ?_
  · rintro m68 a w28 ⟨u29, i30, ha, hE32, hI31, hF⟩
    cases m68 with
    | zero => exact (lpN_zero hF).elim
    | succ m68 =>
      obtain ⟨z67, hF, hN66⟩ := lpN_succ hF
      have hF : F_impl_maskOf_l1 a0 u29 i30 = some z67 := hF; unfold F_impl_maskOf_l1 at hF
      refine wp_seq ?_
      refine wp_region_lit ?_
      refine op_g ha rfl (g_lss rfl rfl) ?_; clear ha a; intro a ha
      refine wpList_nil ?_
      replace ha := ha.sub (σ' := [(3, (.int .u32 (BitVec.toNat u29 : Int))), (6, va0), (7, (.int .i64 (a0.length : Int))), (8, (.int .i64 i30)), (9, (.bool (decide (i30 < (a0.length : Int)))))]) ⟨rfl, rfl, rfl, rfl, rfl, trivial⟩
      refine e_then ?_
      refine wp_seq ?_
      refine c_cond (i30 < (a0.length : Int)) ha rfl (decide_eq_true_iff) (fun hp69 => ?_) (fun hp69 => ?_)
      · replace hF := if_t hp69 hF
        refine wp_skip ?_
        refine e_then ?_
        refine wp_seq ?_
        refine wp_block ?_
        refine wp_seq ?_
        refine wp_region_lit ?_
        obtain ⟨x70, g71, gx72, hF⟩ := idx_some hF
        obtain ⟨p73, cs74, f75, hf76, hpb77, hat78, hr79, hi80⟩ := ha0.at g71 gx72
        obtain ⟨rfl, hI81, rfl⟩ := hr79
        refine op_g ha rfl (hi80.gives sl26 rfl rfl) ?_; clear ha a; intro a ha
        refine op_g ha rfl (g_load0 hE32 Try.isAgg2 rfl hat78.one) ?_; clear ha a; intro a ha
        refine op_g ha rfl (g_assign rfl) ?_; clear ha a; intro a ha
        refine wpList_nil ?_
        replace ha := ha.sub (σ' := [(3, (.int .u32 (BitVec.toNat u29 : Int))), (5, (.int .i64 x70)), (6, va0), (7, (.int .i64 (a0.length : Int))), (8, (.int .i64 i30))]) ⟨rfl, rfl, rfl, rfl, rfl, trivial⟩
        refine e_then ?_
        refine wp_region_lit ?_
        refine op_g ha rfl (g_move rfl) ?_; clear ha a; intro a ha
        refine op_g ha rfl (g_move rfl) ?_; clear ha a; intro a ha
        obtain ⟨x82, hc83, hF⟩ := cal_some hF
        refine o_call ha rfl rfl Try.call34 (W_impl_one hI81 hc83) ?_; clear ha a; rintro v84 w85 ⟨rfl, hx86⟩ a ha
        have hE87 := Ext.trans hE32 hx86
        refine op_g ha rfl (g32_or (m := u29) (n := x82) rfl rfl) ?_; clear ha a; intro a ha
        refine op_g ha rfl (g_assign rfl) ?_; clear ha a; intro a ha
        refine wpList_nil ?_
        replace ha := ha.sub (σ' := [(3, (.int .u32 (BitVec.toNat (u29 ||| x82) : Int))), (6, va0), (7, (.int .i64 (a0.length : Int))), (8, (.int .i64 i30))]) ⟨rfl, rfl, rfl, rfl, trivial⟩
        refine e_blk ?_
        refine e_then ?_
        refine wp_region_lit ?_
        obtain ⟨hI88, hF⟩ := ck_some hF
        refine op_g ha rfl (g_add rfl rfl hI88) ?_; clear ha a; intro a ha
        refine op_g ha rfl (g_move rfl) ?_; clear ha a; intro a ha
        refine wpList_nil ?_
        replace ha := ha.sub (σ' := [(3, (.int .u32 (BitVec.toNat (u29 ||| x82) : Int))), (6, va0), (7, (.int .i64 (a0.length : Int))), (8, (.int .i64 (i30 + 1)))]) ⟨rfl, rfl, rfl, rfl, trivial⟩
        refine e_lq ?_
        obtain rfl := Option.some.inj hF
        exact ⟨_, Nat.lt_succ_self _, u29 ||| x82, i30 + 1, ha.sub ⟨rfl, rfl, rfl, rfl, trivial⟩, hE87, hI88, hN66⟩
      · replace hF := if_f hp69 hF
        refine wp_exit ?_
        refine e_then_exit ?_
        refine e_lq_eq ?_
        obtain rfl := Option.some.inj hF
        exact ⟨u29, ha.sub ⟨rfl, trivial⟩, hE32, (LK_inr hN66).symm⟩
  · rintro a w58 ⟨u59, ha, hE65, rfl⟩
    have hF : F_impl_maskOf_k2 u59 = some _ := hK62; clear hK62; unfold F_impl_maskOf_k2 at hF
    refine e_then ?_
    refine wp_seq ?_
    refine wp_region_lit ?_
    refine op_g ha rfl (g_move rfl) ?_; clear ha a; intro a ha
    refine op_g ha rfl (g_assign rfl) ?_; clear ha a; intro a ha
    refine wpList_nil ?_
    replace ha := ha.sub (σ' := [(2, (.int .u32 (BitVec.toNat u59 : Int)))]) ⟨rfl, trivial⟩
    refine e_then ?_
    refine wp_ret ?_
    obtain rfl := Option.some.inj hF
    exact f_ret1 ha rfl rfl ⟨rfl, hE65⟩
set_option maxHeartbeats 2000000 in
theorem W_impl_netsOf {W : World} {va0_0 : Value} {fa0_0 : List Nat} {a0_0 : (List (List Int))} (ha0_0 : Ro (Rp.sl 2 Rp.int) W fa0_0 va0_0 a0_0) {r : (List (BitVec 32))} (hF : F_impl_netsOf a0_0 = some r) :
    Calls Try.prog 23 [.agg #[va0_0]].toArray W (Ret fun u w' => ∃ (b_u : Int), Ow Rp.u32 51 true w' [] b_u u r ∧ Zn W b_u ∧ Ext W w') := by
  refine f_enter Try.func23 rfl Try.ntmps23 rfl ?_
  intro a ha
  replace ha : Fr 21 [(0, (.agg #[va0_0]))] a := ha
  have hE : Chg [] W W := Chg.refl _ _
  unfold F_impl_netsOf at hF
  refine wp_seq ?_
  refine wp_region_lit ?_
  refine o_box ha rfl rfl rfl ?_; clear ha a; intro b1 w2 hB3 hx4 hlo5 a ha
  have q6 := Zn.one hlo5
  have q7 := Zn.upD q6 hE
  have hE8 := Ext.trans hE hx4
  refine op_g ha rfl (g_assign rfl) ?_; clear ha a; intro a ha
  refine wpList_nil ?_
  replace ha := ha.sub (σ' := [(1, (.pointer (some ⟨b1, 0, none⟩)))]) ⟨rfl, trivial⟩
  refine e_then ?_
  refine wp_seq ?_
  refine wp_region_lit ?_
  refine o_lit0 Rp.u32 ha rfl sl43 ?_; clear ha a; intro v9 w10 h11 hx12 a ha
  obtain ⟨b14, hb14⟩ : ∃ b : Int, b = w2.heap.size := ⟨_, rfl⟩; rw [← hb14] at h11
  have q15 := zn_of hb14
  have q16 := Nq.new hB3.fpb q15
  have q17 := Nq.madeO q15 hB3.bi
  have q18 := Zn.upD q15 hE8
  replace hB3 := hB3.ext hx12
  have hE19 := Ext.trans hE8 hx12
  refine op_g ha rfl (g_assign rfl) ?_; clear ha a; intro a ha
  refine wpList_nil ?_
  replace ha := ha.sub (σ' := [(1, (.pointer (some ⟨b1, 0, none⟩))), (3, v9)]) ⟨rfl, rfl, trivial⟩
  refine e_then ?_
  refine wp_seq ?_
  refine wp_seq ?_
  refine wp_region_lit ?_
  refine op_g ha rfl (g_field0 st28_0 rfl) ?_; clear ha a; intro a ha
  refine op_g ha rfl (g_load Try.isAgg22 rfl (hB3.cell rfl)) ?_; clear ha a; intro a ha
  refine op_g ha rfl (g_lenR sl22.und ha0_0 rfl) ?_; clear ha a; intro a ha
  refine op_g ha rfl (g_move rfl) ?_; clear ha a; intro a ha
  refine wpList_nil ?_
  replace ha := ha.sub (σ' := [(3, v9), (8, va0_0), (9, (.int .i64 (a0_0.length : Int))), (10, (.int .i64 0))]) ⟨rfl, rfl, rfl, rfl, trivial⟩
  refine e_then ?_
  obtain ⟨o152, ho153, hK154⟩ := bnd_some hF
  obtain ⟨n155, hn156⟩ := lp_some ho153; clear ho153
  refine c_loop (fun a w => ∃ (l149 : (List (BitVec 32))) (v150 : Value) (b151 : Int), Fr 21 [(3, v150)] a ∧ Chg [] W w ∧ Ow Rp.u32 51 true w [] b151 v150 l149 ∧ Zn W b151 ∧ o152 = .inl l149) (fun n a w => ∃ (l84 : (List (BitVec 32))) (i87 : Int) (v85 : Value) (b86 : Int), Fr 21 [(3, v85), (8, va0_0), (9, (.int .i64 (a0_0.length : Int))), (10, (.int .i64 i87))] a ∧ Chg [] W w ∧ InI i87 ∧ Ow Rp.u32 51 true w [] b86 v85 l84 ∧ Zn W b86 ∧ lpN (fun s => F_impl_netsOf_l1 a0_0 s.1 s.2) n (l84, i87) = some o152) n155 ⟨([] : (List (BitVec 32))), 0, v9, b14, ha.sub ⟨rfl, rfl, rfl, rfl, trivial⟩, hE19, (show InI 0 from by decide), h11, q18, hn156⟩ ?_ ?_
  · rintro m160 a w80 ⟨l84, i87, v85, b86, ha, hE89, hI88, h82, z83, hF⟩
    cases m160 with
    | zero => exact (lpN_zero hF).elim
    | succ m160 =>
      obtain ⟨z159, hF, hN158⟩ := lpN_succ hF
      have hF : F_impl_netsOf_l1 a0_0 l84 i87 = some z159 := hF; unfold F_impl_netsOf_l1 at hF
      refine wp_seq ?_
      refine wp_region_lit ?_
      refine op_g ha rfl (g_lss rfl rfl) ?_; clear ha a; intro a ha
      refine wpList_nil ?_
      replace ha := ha.sub (σ' := [(3, v85), (8, va0_0), (9, (.int .i64 (a0_0.length : Int))), (10, (.int .i64 i87)), (11, (.bool (decide (i87 < (a0_0.length : Int)))))]) ⟨rfl, rfl, rfl, rfl, rfl, trivial⟩
      refine e_then ?_
      refine wp_seq ?_
      refine c_cond (i87 < (a0_0.length : Int)) ha rfl (decide_eq_true_iff) (fun hp161 => ?_) (fun hp161 => ?_)
      · replace hF := if_t hp161 hF
        refine wp_skip ?_
        refine e_then ?_
        refine wp_seq ?_
        refine wp_block ?_
        refine wp_seq ?_
        refine wp_region_lit ?_
        obtain ⟨x162, g163, gx164, hF⟩ := idx_some hF
        obtain ⟨p165, cs166, f167, hf168, hpb169, hat170, hr171, hi172⟩ := ha0_0.at g163 gx164
        obtain ⟨v173, rfl, h174⟩ := hr171
        have h174 : Ro Rp.int W f167 v173 x162 := h174
        refine op_g ha rfl (hi172.gives sl22 rfl rfl) ?_; clear ha a; intro a ha
        refine op_g ha rfl (g_load0 hE89 Try.isAgg26 rfl hat170.one) ?_; clear ha a; intro a ha
        refine op_g ha rfl (g_assign rfl) ?_; clear ha a; intro a ha
        refine wpList_nil ?_
        replace ha := ha.sub (σ' := [(3, v85), (5, v173), (8, va0_0), (9, (.int .i64 (a0_0.length : Int))), (10, (.int .i64 i87))]) ⟨rfl, rfl, rfl, rfl, rfl, trivial⟩
        refine e_then ?_
        refine wp_region_lit ?_
        refine op_g ha rfl (g_move rfl) ?_; clear ha a; intro a ha
        refine op_g ha rfl (g_move rfl) ?_; clear ha a; intro a ha
        obtain ⟨x176, hc177, hF⟩ := cal_some hF
        refine o_call ha rfl rfl Try.call36 (W_impl_maskOf (h174.ext hE89) hc177) ?_; clear ha a; rintro v178 w179 ⟨rfl, hx180⟩ a ha
        replace h82 := h82.ext hx180
        have hE181 := Ext.trans hE89 hx180
        refine o_lit1 (o := true) (y := x176) Rp.u32 ha rfl sl43 rfl rfl rfl ⟨rfl, rfl⟩ ?_; clear ha a; intro v182 w183 h184 hx185 a ha
        obtain ⟨b187, hb187⟩ : ∃ b : Int, b = w179.heap.size := ⟨_, rfl⟩; rw [← hb187] at h184
        have q188 := zn_of hb187
        have q189 := Nq.new h82.fpb q188
        have q190 := Nq.madeO q188 h82.blt
        have q191 := Zn.upD q188 hE181
        replace h82 := h82.ext hx185
        have hE192 := Ext.trans hE181 hx185
        obtain ⟨hl193, hF⟩ := app_some hF
        refine o_append ha rfl sl43 rfl rfl rfl h82 h184.src (Nq.nil _) hl193 ?_; clear ha a; intro v194 w195 b196 h197 hc198 hb199 a ha
        replace h197 : Ow Rp.u32 51 true w195 [] b196 v194 _ := h197
        have q201 := Nq.appY q190 h184.fpb hb199
        have q202 := Nq.appX q189 (Nq.nil _) hb199 h184.blt
        have q203 := Zn.appD z83 hb199 hE192
        replace h184 := h184.nq hc198 q190
        have hE204 := Ext.then hE192 hc198 (Zn.bl z83)
        refine op_g ha rfl (g_assign rfl) ?_; clear ha a; intro a ha
        refine wpList_nil ?_
        replace ha := ha.sub (σ' := [(3, v194), (8, va0_0), (9, (.int .i64 (a0_0.length : Int))), (10, (.int .i64 i87))]) ⟨rfl, rfl, rfl, rfl, trivial⟩
        refine e_blk ?_
        refine e_then ?_
        refine wp_region_lit ?_
        obtain ⟨hI205, hF⟩ := ck_some hF
        refine op_g ha rfl (g_add rfl rfl hI205) ?_; clear ha a; intro a ha
        refine op_g ha rfl (g_move rfl) ?_; clear ha a; intro a ha
        refine wpList_nil ?_
        replace ha := ha.sub (σ' := [(3, v194), (8, va0_0), (9, (.int .i64 (a0_0.length : Int))), (10, (.int .i64 (i87 + 1)))]) ⟨rfl, rfl, rfl, rfl, trivial⟩
        refine e_lq ?_
        obtain rfl := Option.some.inj hF
        exact ⟨_, Nat.lt_succ_self _, (l84 ++ ([x176])), i87 + 1, v194, b196, ha.sub ⟨rfl, rfl, rfl, rfl, trivial⟩, hE204, hI205, h197, q203, hN158⟩
      · replace hF := if_f hp161 hF
        refine wp_exit ?_
        refine e_then_exit ?_
        refine e_lq_eq ?_
        obtain rfl := Option.some.inj hF
        exact ⟨l84, v85, b86, ha.sub ⟨rfl, trivial⟩, hE89, h82, z83, (LK_inr hN158).symm⟩
  · rintro a w145 ⟨l149, v150, b151, ha, hE157, h147, z148, rfl⟩
    have hF : F_impl_netsOf_k2 l149 = some _ := hK154; clear hK154; unfold F_impl_netsOf_k2 at hF
    refine e_then ?_
    refine wp_seq ?_
    refine wp_region_lit ?_
    refine op_g ha rfl (g_move rfl) ?_; clear ha a; intro a ha
    refine op_g ha rfl (g_assign rfl) ?_; clear ha a; intro a ha
    refine wpList_nil ?_
    replace ha := ha.sub (σ' := [(2, v150)]) ⟨rfl, trivial⟩
    refine e_then ?_
    refine wp_ret ?_
    obtain rfl := Option.some.inj hF
    exact f_ret1 ha rfl rfl ⟨_, h147, z148, hE157⟩
set_option maxHeartbeats 2000000 in
theorem W_slices_Clone_implvset {W : World} {va0 : Value} {fa0 : List Nat} {a0 : (List (BitVec 32))} (ha0 : Ro Rp.u32 W fa0 va0 a0) {r : (List (BitVec 32))} (hF : F_slices_Clone_implvset a0 = some r) :
    Calls Try.prog 35 [va0].toArray W (Ret fun u w' => ∃ (b_u : Int), Ow Rp.u32 51 true w' [] b_u u r ∧ Zn W b_u ∧ Ext W w') := by
  refine f_enter Try.func35 rfl Try.ntmps35 rfl ?_
  intro a ha
  replace ha : Fr 8 [(0, va0)] a := ha
  have hE : Chg [] W W := Chg.refl _ _
  unfold F_slices_Clone_implvset at hF
  refine wp_seq ?_
  refine wp_region_lit ?_
  refine op_g ha rfl (g_assign rfl) ?_; clear ha a; intro a ha
  refine wpList_nil ?_
  replace ha := ha.sub (σ' := [(0, va0)]) ⟨rfl, trivial⟩
  refine e_then ?_
  refine wp_seq ?_
  refine wp_seq ?_
  refine wp_region_lit ?_
  refine op_g ha rfl (g_move rfl) ?_; clear ha a; intro a ha
  refine op_g ha rfl (g_nil sl42.und rfl ha0.shape) ?_; clear ha a; intro a ha
  refine wpList_nil ?_
  replace ha := ha.sub (σ' := [(0, va0), (4, (.bool (nilB va0)))]) ⟨rfl, rfl, trivial⟩
  refine e_then ?_
  refine c_cond (nilB va0 = true) ha rfl (Iff.rfl) (fun hp1 => ?_) (fun hp1 => ?_)
  · replace hF := clone_nil hF (ha0.nilE hp1)
    refine wp_seq ?_
    refine wp_region_lit ?_
    refine op_g ha rfl (g_assign rfl) ?_; clear ha a; intro a ha
    refine wpList_nil ?_
    replace ha := ha.sub (σ' := [(2, (.slice none 0 0))]) ⟨rfl, trivial⟩
    refine e_then ?_
    refine wp_ret ?_
    refine e_then_ret ?_
    obtain rfl := Option.some.inj hF
    exact f_ret1 ha rfl rfl ⟨-1, (Ow.nil (by decide)), (.inl (by decide)), hE⟩
  · skip
    refine wp_skip ?_
    refine e_then ?_
    refine wp_seq ?_
    refine wp_region_lit ?_
    refine o_lit0 Rp.u32 ha rfl sl42 ?_; clear ha a; intro v2 w3 h4 hx5 a ha
    obtain ⟨b7, hb7⟩ : ∃ b : Int, b = W.heap.size := ⟨_, rfl⟩; rw [← hb7] at h4
    have q8 := zn_of hb7
    have q9 := Zn.upD q8 hE
    have hE10 := Ext.trans hE hx5
    refine op_g ha rfl (g_move rfl) ?_; clear ha a; intro a ha
    obtain ⟨hl11, hF⟩ := app_some hF
    obtain ⟨_, hs12, _⟩ := (ha0.ext hE10).src
    refine o_append ha rfl sl42 rfl rfl rfl h4 (hs12.up scal_u32) (Nq.nil _) hl11 ?_; clear ha a; intro v13 w14 b15 h16 hc17 hb18 a ha
    replace h16 : Ow Rp.u32 51 true w14 [] b15 v13 _ := h16
    have q20 := Zn.appD q9 hb18 hE10
    have hE21 := Ext.then hE10 hc17 (Zn.bl q9)
    refine op_g ha rfl (g_assign rfl) ?_; clear ha a; intro a ha
    refine wpList_nil ?_
    replace ha := ha.sub (σ' := [(2, v13)]) ⟨rfl, trivial⟩
    refine e_then ?_
    refine wp_ret ?_
    obtain rfl := Option.some.inj hF
    exact f_ret1 ha rfl rfl ⟨_, h16, q20, hE21⟩
set_option maxHeartbeats 2000000 in
theorem W_impl_countPartitions_step {rc : (List (BitVec 32)) → Int → (List (BitVec 32)) → (List Int) → Option ((List (BitVec 32)) × (List Int))} (ih : ∀ {W : World} {va0 : Value} {fa0 : List Nat} {a0 : (List (BitVec 32))} (ha0 : Ro Rp.u32 W fa0 va0 a0) {a1 : Int} (ha1 : InI a1) {va2 : Value} {ba2 : Int} {a2 : (List (BitVec 32))} (ha2 : Ow Rp.u32 51 true W [] ba2 va2 a2) {va3 : Value} {ba3 : Int} {a3 : (List Int)} (ha3 : Ow Rp.int 2 true W [] ba3 va3 a3) (qa0 : Nq fa0 ba2) (qa0_1 : Nq fa0 ba3) (qa2a3 : Nq (bl ba2 ++ []) ba3) (qa3a2 : Nq (bl ba3 ++ []) ba2) {r : ((List (BitVec 32)) × (List Int))} (hF : rc a0 a1 a2 a3 = some r),
    Calls Try.prog 22 [va0, .int .i64 a1, va2, va3].toArray W (Ret fun u w' => u = .tuple #[] ∧ Ow Rp.u32 51 true w' [] ba2 va2 r.1 ∧ Ow Rp.int 2 true w' [] ba3 va3 r.2 ∧ Chg (bl ba2 ++ bl ba3) W w')) {W : World} {va0 : Value} {fa0 : List Nat} {a0 : (List (BitVec 32))} (ha0 : Ro Rp.u32 W fa0 va0 a0) {a1 : Int} (ha1 : InI a1) {va2 : Value} {ba2 : Int} {a2 : (List (BitVec 32))} (ha2 : Ow Rp.u32 51 true W [] ba2 va2 a2) {va3 : Value} {ba3 : Int} {a3 : (List Int)} (ha3 : Ow Rp.int 2 true W [] ba3 va3 a3) (qa0 : Nq fa0 ba2) (qa0_1 : Nq fa0 ba3) (qa2a3 : Nq (bl ba2 ++ []) ba3) (qa3a2 : Nq (bl ba3 ++ []) ba2) {r : ((List (BitVec 32)) × (List Int))} (hF : F_impl_countPartitions_body rc a0 a1 a2 a3 = some r) :
    Calls Try.prog 22 [va0, .int .i64 a1, va2, va3].toArray W (Ret fun u w' => u = .tuple #[] ∧ Ow Rp.u32 51 true w' [] ba2 va2 r.1 ∧ Ow Rp.int 2 true w' [] ba3 va3 r.2 ∧ Chg (bl ba2 ++ bl ba3) W w') := by
  refine f_enter Try.func22 rfl Try.ntmps22 rfl ?_
  intro a ha
  replace ha : Fr 69 [(0, va0), (1, (.int .i64 a1)), (2, va2), (3, va3)] a := ha
  have hE : Chg (bl ba2 ++ bl ba3) W W := Chg.refl _ _
  unfold F_impl_countPartitions_body at hF
  refine wp_seq ?_
  refine wp_seq ?_
  refine wp_region_lit ?_
  refine op_g ha rfl (g_move rfl) ?_; clear ha a; intro a ha
  refine op_g ha rfl (g_move rfl) ?_; clear ha a; intro a ha
  refine op_g ha rfl (g_lenR sl43.und ha0 rfl) ?_; clear ha a; intro a ha
  refine op_g ha rfl (g_eql rfl rfl) ?_; clear ha a; intro a ha
  refine wpList_nil ?_
  replace ha := ha.sub (σ' := [(0, va0), (1, (.int .i64 a1)), (2, va2), (3, va3), (12, (.bool (decide (a1 = (a0.length : Int)))))]) ⟨rfl, rfl, rfl, rfl, rfl, trivial⟩
  refine e_then ?_
  refine c_cond (a1 = (a0.length : Int)) ha rfl (decide_eq_true_iff) (fun hp1 => ?_) (fun hp1 => ?_)
  · replace hF := if_t hp1 hF
    refine wp_seq ?_
    refine wp_region_lit ?_
    refine op_g ha rfl (g_move rfl) ?_; clear ha a; intro a ha
    refine op_g ha rfl (g_move rfl) ?_; clear ha a; intro a ha
    refine op_g ha rfl (g_lenO sl42.und ha2 rfl) ?_; clear ha a; intro a ha
    obtain ⟨x2, g3, gx4, hF⟩ := idx_some hF
    obtain ⟨p5, cs6, f7, hf8, hpb9, hat10, hr11, hi12⟩ := ha3.at g3 gx4
    obtain ⟨rfl, hI13, rfl⟩ := hr11
    refine op_g ha rfl (hi12.gives sl26 rfl rfl) ?_; clear ha a; intro a ha
    refine op_g ha rfl (g_load Try.isAgg2 rfl hat10.one) ?_; clear ha a; intro a ha
    obtain ⟨hI14, hF⟩ := ck_some hF
    refine op_g ha rfl (g_add rfl rfl hI14) ?_; clear ha a; intro a ha
    obtain ⟨x16, g17, gx18, hF⟩ := idx_some hF
    obtain ⟨p19, cs20, f21, hf22, hpb23, hat24, hr25, hi26⟩ := ha3.at g17 gx18
    obtain ⟨rfl, hI27, rfl⟩ := hr25
    refine op_g ha rfl (hi26.gives sl26 rfl rfl) ?_; clear ha a; intro a ha
    refine o_storeE (f := []) (q := x2 + 1) ha Try.sizeOf2 rfl rfl rfl ha3 hi26 ⟨rfl, hI14, rfl⟩ (Nq.nil _) ?_; intro w28 fs29 h30 hc31 hs32
    obtain rfl := Subst.nil hs32
    replace ha0 := ha0.nq hc31 qa0_1
    replace ha2 := ha2.nq hc31 qa2a3
    have hE33 := Chg.join hE hc31 (S2.par (fun _ h => List.mem_append_right _ h))
    refine wpList_nil ?_
    replace ha := ha.sub (σ' := []) trivial
    refine e_then ?_
    refine wp_ret ?_
    refine e_then_ret ?_
    obtain rfl := Option.some.inj hF
    exact f_ret0 ha rfl ⟨rfl, ha2, h30, hE33⟩
  · replace hF := if_f hp1 hF
    refine wp_skip ?_
    refine e_then ?_
    refine wp_seq ?_
    refine wp_seq ?_
    refine wp_region_lit ?_
    refine op_g ha rfl (g_move rfl) ?_; clear ha a; intro a ha
    refine op_g ha rfl (g_lenO sl42.und ha2 rfl) ?_; clear ha a; intro a ha
    refine op_g ha rfl (g_move rfl) ?_; clear ha a; intro a ha
    refine wpList_nil ?_
    replace ha := ha.sub (σ' := [(0, va0), (1, (.int .i64 a1)), (2, va2), (3, va3), (21, (.int .i64 (a2.length : Int))), (22, (.int .i64 0))]) ⟨rfl, rfl, rfl, rfl, rfl, rfl, trivial⟩
    refine e_then ?_
    obtain ⟨o345, ho346, hK347⟩ := bnd_some hF
    obtain ⟨n348, hn349⟩ := lp_some ho346; clear ho346
    refine c_loop (fun a w => ∃ (l334 : (List (BitVec 32))) (l338 : (List Int)), Fr 69 [(0, va0), (1, (.int .i64 a1)), (2, va2), (3, va3)] a ∧ Chg (bl ba2 ++ bl ba3) W w ∧ Ro Rp.u32 w fa0 va0 a0 ∧ Ow Rp.u32 51 true w [] ba2 va2 l334 ∧ Ow Rp.int 2 true w [] ba3 va3 l338 ∧ Nq (fa0) ba2 ∧ Nq (fa0) ba3 ∧ Nq (bl ba2 ++ []) ba3 ∧ Nq (bl ba3 ++ []) ba2 ∧ o345 = .inl (l334, l338)) (fun n a w => ∃ (l182 : (List (BitVec 32))) (l186 : (List Int)) (i189 : Int), Fr 69 [(0, va0), (1, (.int .i64 a1)), (2, va2), (3, va3), (21, (.int .i64 (a2.length : Int))), (22, (.int .i64 i189))] a ∧ Chg (bl ba2 ++ bl ba3) W w ∧ InI i189 ∧ Ro Rp.u32 w fa0 va0 a0 ∧ Ow Rp.u32 51 true w [] ba2 va2 l182 ∧ Ow Rp.int 2 true w [] ba3 va3 l186 ∧ Nq (fa0) ba2 ∧ Nq (fa0) ba3 ∧ Nq (bl ba2 ++ []) ba3 ∧ Nq (bl ba3 ++ []) ba2 ∧ lpN (fun s => F_impl_countPartitions_l1 a0 a1 a2 rc s.1 s.2.1 s.2.2) n (l182, l186, i189) = some o345) n348 ⟨a2, a3, 0, ha.sub ⟨rfl, rfl, rfl, rfl, rfl, rfl, trivial⟩, hE, (show InI 0 from by decide), ha0, ha2, ha3, qa0, qa0_1, qa2a3, qa3a2, hn349⟩ ?_ ?_
    · rintro m353 a w178 ⟨l182, l186, i189, ha, hE195, hI190, h180, h181, h185, q191, q192, q193, q194, hF⟩
      cases m353 with
      | zero => exact (lpN_zero hF).elim
      | succ m353 =>
        obtain ⟨z352, hF, hN351⟩ := lpN_succ hF
        have hF : F_impl_countPartitions_l1 a0 a1 a2 rc l182 l186 i189 = some z352 := hF; unfold F_impl_countPartitions_l1 at hF
        refine wp_seq ?_
        refine wp_region_lit ?_
        refine op_g ha rfl (g_lss rfl rfl) ?_; clear ha a; intro a ha
        refine wpList_nil ?_
        replace ha := ha.sub (σ' := [(0, va0), (1, (.int .i64 a1)), (2, va2), (3, va3), (21, (.int .i64 (a2.length : Int))), (22, (.int .i64 i189)), (23, (.bool (decide (i189 < (a2.length : Int)))))]) ⟨rfl, rfl, rfl, rfl, rfl, rfl, rfl, trivial⟩
        refine e_then ?_
        refine wp_seq ?_
        refine c_cond (i189 < (a2.length : Int)) ha rfl (decide_eq_true_iff) (fun hp354 => ?_) (fun hp354 => ?_)
        · replace hF := if_t hp354 hF
          refine wp_skip ?_
          refine e_then ?_
          refine wp_seq ?_
          refine wp_block ?_
          refine wp_seq ?_
          refine wp_region_lit ?_
          refine op_g ha rfl (g_move rfl) ?_; clear ha a; intro a ha
          refine op_g ha rfl (g_assign rfl) ?_; clear ha a; intro a ha
          refine wpList_nil ?_
          replace ha := ha.sub (σ' := [(0, va0), (1, (.int .i64 a1)), (2, va2), (3, va3), (8, (.int .i64 i189)), (21, (.int .i64 (a2.length : Int))), (22, (.int .i64 i189))]) ⟨rfl, rfl, rfl, rfl, rfl, rfl, rfl, trivial⟩
          refine e_then ?_
          refine wp_seq ?_
          refine d_quiet hmix (by kernel_rfl) ?_
          refine q_g ha rfl (g_move rfl) ?_; clear ha a; intro a ha
          refine q_g ha rfl (g_move rfl) ?_; clear ha a; intro a ha
          obtain ⟨x355, g356, gx357, hF⟩ := idx_some hF
          obtain ⟨p358, cs359, f360, hf361, hpb362, hat363, hr364, hi365⟩ := h181.at g356 gx357
          obtain ⟨rfl, rfl⟩ := hr364
          refine q_g ha rfl (hi365.gives sl42 rfl rfl) ?_; clear ha a; intro a ha
          refine q_g ha rfl (g_load Try.isAgg51 rfl hat363.one) ?_; clear ha a; intro a ha
          refine q_g ha rfl (g_move rfl) ?_; clear ha a; intro a ha
          refine q_g ha rfl (g_move rfl) ?_; clear ha a; intro a ha
          obtain ⟨x366, g367, gx368, hF⟩ := idx_some hF
          obtain ⟨p369, cs370, f371, hf372, hpb373, hat374, hr375, hi376⟩ := h180.at g367 gx368
          obtain ⟨rfl, rfl⟩ := hr375
          refine q_g ha rfl (hi376.gives sl43 rfl rfl) ?_; clear ha a; intro a ha
          refine q_g ha rfl (g_load Try.isAgg51 rfl hat374.one) ?_; clear ha a; intro a ha
          refine q_g ha rfl (g32_and (m := x355) (n := x366) rfl rfl) ?_; clear ha a; intro a ha
          refine q_g ha rfl (g32_eql (m := (x355 &&& x366)) (n := (0#32)) rfl rfl) ?_; clear ha a; intro a ha
          refine q_nil ?_; intro w377 hx378
          replace h180 := h180.ext hx378
          replace h181 := h181.ext hx378
          replace h185 := h185.ext hx378
          have hE379 := Chg.more hE195 hx378
          replace ha := ha.sub (σ' := [(0, va0), (1, (.int .i64 a1)), (2, va2), (3, va3), (8, (.int .i64 i189)), (21, (.int .i64 (a2.length : Int))), (22, (.int .i64 i189)), (34, (.bool (decide ((x355 &&& x366) = (0#32)))))]) ⟨rfl, rfl, rfl, rfl, rfl, rfl, rfl, rfl, trivial⟩
          refine e_then ?_
          refine c_cond ((x355 &&& x366) = (0#32)) ha rfl (decide_eq_true_iff) (fun hp380 => ?_) (fun hp380 => ?_)
          · replace hF := if_t hp380 hF
            refine wp_seq ?_
            refine d_region 8 hmix ?_
            refine u_g 0 rfl (by kernel_rfl) (want0 _) ha rfl (g_move rfl) ?_; clear ha a; intro a ha
            refine u_g 1 rfl (by kernel_rfl) (want0 _) ha rfl (g_move rfl) ?_; clear ha a; intro a ha
            obtain ⟨x381, g382, gx383, hF⟩ := idx_some hF
            obtain ⟨p384, cs385, f386, hf387, hpb388, hat389, hr390, hi391⟩ := h181.at g382 gx383
            obtain ⟨rfl, rfl⟩ := hr390
            refine u_g 2 rfl (by kernel_rfl) (want0 _) ha rfl (hi391.gives sl42 rfl rfl) ?_; clear ha a; intro a ha
            refine u_g 3 rfl (by kernel_rfl) (want0 _) ha rfl (g_load Try.isAgg51 rfl hat389.one) ?_; clear ha a; intro a ha
            refine u_g 4 rfl (by kernel_rfl) (want0 _) ha rfl (g_move rfl) ?_; clear ha a; intro a ha
            obtain ⟨x394, hc395, hF⟩ := cal_some hF
            refine u_call (.int .u32 (BitVec.toNat x394 : Int)) 5 rfl (by kernel_rfl) (want0 _) ha rfl rfl Try.call34 (fun w393 hx392 => W_impl_one ha1 hc395) (fun _ _ _ h => ⟨h.1, h.2⟩) ?_; clear ha a; intro a ha
            refine u_g 6 rfl (by kernel_rfl) (want0 _) ha rfl (g32_or (m := x381) (n := x394) rfl rfl) ?_; clear ha a; intro a ha
            obtain ⟨x396, g397, gx398, hF⟩ := idx_some hF
            obtain ⟨p399, cs400, f401, hf402, hpb403, hat404, hr405, hi406⟩ := h181.at g397 gx398
            obtain ⟨rfl, rfl⟩ := hr405
            refine u_g 7 rfl (by kernel_rfl) (want0 _) ha rfl (hi406.gives sl42 rfl rfl) ?_; clear ha a; intro a ha
            refine u_only 8 rfl (by kernel_rfl) ?_; intro w407 hx408
            replace h180 := h180.ext hx408
            replace h181 := h181.ext hx408
            replace h185 := h185.ext hx408
            have hE409 := Chg.more hE379 hx408
            refine o_storeE (f := []) (q := x381 ||| x394) ha Try.sizeOf51 rfl rfl rfl h181 hi406 ⟨rfl, rfl⟩ (Nq.nil _) ?_; intro w410 fs411 h412 hc413 hs414
            obtain rfl := Subst.nil hs414
            replace h180 := h180.nq hc413 q191
            replace h185 := h185.nq hc413 q194
            have hE415 := Chg.join hE409 hc413 (S2.par (fun _ h => List.mem_append_left _ h))
            refine wpList_nil (e_sq ?_)
            refine ⟨fun h => absurd h (by decide), ?_⟩
            refine u_done (by kernel_rfl) ?_; intro w416 hx417
            replace h180 := h180.ext hx417
            replace h412 := h412.ext hx417
            replace h185 := h185.ext hx417
            have hE418 := Chg.more hE415 hx417
            replace ha := ha.sub (σ' := [(0, va0), (1, (.int .i64 a1)), (2, va2), (3, va3), (8, (.int .i64 i189)), (21, (.int .i64 (a2.length : Int))), (22, (.int .i64 i189))]) ⟨rfl, rfl, rfl, rfl, rfl, rfl, rfl, trivial⟩
            refine e_then ?_
            refine wp_seq ?_
            refine wp_region_lit ?_
            refine op_g ha rfl (g_move rfl) ?_; clear ha a; intro a ha
            refine op_g ha rfl (g_move rfl) ?_; clear ha a; intro a ha
            obtain ⟨hI419, hF⟩ := ck_some hF
            refine op_g ha rfl (g_add rfl rfl hI419) ?_; clear ha a; intro a ha
            refine op_g ha rfl (g_move rfl) ?_; clear ha a; intro a ha
            refine op_g ha rfl (g_move rfl) ?_; clear ha a; intro a ha
            obtain ⟨x421, hc422, hF⟩ := cal_some hF
            refine o_call ha rfl rfl Try.call22 (ih h180 hI419 h412 h185 q191 q192 q193 q194 hc422) ?_; clear ha a; rintro v423 w424 ⟨rfl, h426, h427, hx425⟩ a ha
            replace h180 := h180.off hx425 (Off.two (Off.flat q191) (Off.flat q192))
            have hE428 := Chg.join hE418 hx425 (S2.app (S2.par (fun _ h => List.mem_append_left _ h)) (S2.par (fun _ h => List.mem_append_right _ h)))
            refine wpList_nil ?_
            replace ha := ha.sub (σ' := [(0, va0), (1, (.int .i64 a1)), (2, va2), (3, va3), (8, (.int .i64 i189)), (21, (.int .i64 (a2.length : Int))), (22, (.int .i64 i189))]) ⟨rfl, rfl, rfl, rfl, rfl, rfl, rfl, trivial⟩
            refine e_then ?_
            refine d_region 8 hmix ?_
            refine u_g 0 rfl (by kernel_rfl) (want0 _) ha rfl (g_move rfl) ?_; clear ha a; intro a ha
            refine u_g 1 rfl (by kernel_rfl) (want0 _) ha rfl (g_move rfl) ?_; clear ha a; intro a ha
            obtain ⟨x429, g430, gx431, hF⟩ := idx_some hF
            obtain ⟨p432, cs433, f434, hf435, hpb436, hat437, hr438, hi439⟩ := h426.at g430 gx431
            obtain ⟨rfl, rfl⟩ := hr438
            refine u_g 2 rfl (by kernel_rfl) (want0 _) ha rfl (hi439.gives sl42 rfl rfl) ?_; clear ha a; intro a ha
            refine u_g 3 rfl (by kernel_rfl) (want0 _) ha rfl (g_load Try.isAgg51 rfl hat437.one) ?_; clear ha a; intro a ha
            refine u_g 4 rfl (by kernel_rfl) (want0 _) ha rfl (g_move rfl) ?_; clear ha a; intro a ha
            obtain ⟨x442, hc443, hF⟩ := cal_some hF
            refine u_call (.int .u32 (BitVec.toNat x442 : Int)) 5 rfl (by kernel_rfl) (want0 _) ha rfl rfl Try.call34 (fun w441 hx440 => W_impl_one ha1 hc443) (fun _ _ _ h => ⟨h.1, h.2⟩) ?_; clear ha a; intro a ha
            refine u_g 6 rfl (by kernel_rfl) (want0 _) ha rfl (g32_andNot (m := x429) (n := x442) rfl rfl) ?_; clear ha a; intro a ha
            obtain ⟨x444, g445, gx446, hF⟩ := idx_some hF
            obtain ⟨p447, cs448, f449, hf450, hpb451, hat452, hr453, hi454⟩ := h426.at g445 gx446
            obtain ⟨rfl, rfl⟩ := hr453
            refine u_g 7 rfl (by kernel_rfl) (want0 _) ha rfl (hi454.gives sl42 rfl rfl) ?_; clear ha a; intro a ha
            refine u_only 8 rfl (by kernel_rfl) ?_; intro w455 hx456
            replace h180 := h180.ext hx456
            replace h426 := h426.ext hx456
            replace h427 := h427.ext hx456
            have hE457 := Chg.more hE428 hx456
            refine o_storeE (f := []) (q := x429 &&& ~~~x442) ha Try.sizeOf51 rfl rfl rfl h426 hi454 ⟨rfl, rfl⟩ (Nq.nil _) ?_; intro w458 fs459 h460 hc461 hs462
            obtain rfl := Subst.nil hs462
            replace h180 := h180.nq hc461 q191
            replace h427 := h427.nq hc461 q194
            have hE463 := Chg.join hE457 hc461 (S2.par (fun _ h => List.mem_append_left _ h))
            refine wpList_nil (e_sq ?_)
            refine ⟨fun h => absurd h (by decide), ?_⟩
            refine u_done (by kernel_rfl) ?_; intro w464 hx465
            replace h180 := h180.ext hx465
            replace h460 := h460.ext hx465
            replace h427 := h427.ext hx465
            have hE466 := Chg.more hE463 hx465
            replace ha := ha.sub (σ' := [(0, va0), (1, (.int .i64 a1)), (2, va2), (3, va3), (21, (.int .i64 (a2.length : Int))), (22, (.int .i64 i189))]) ⟨rfl, rfl, rfl, rfl, rfl, rfl, trivial⟩
            refine e_blk ?_
            refine e_then ?_
            refine wp_region_lit ?_
            obtain ⟨hI467, hF⟩ := ck_some hF
            refine op_g ha rfl (g_add rfl rfl hI467) ?_; clear ha a; intro a ha
            refine op_g ha rfl (g_move rfl) ?_; clear ha a; intro a ha
            refine wpList_nil ?_
            replace ha := ha.sub (σ' := [(0, va0), (1, (.int .i64 a1)), (2, va2), (3, va3), (21, (.int .i64 (a2.length : Int))), (22, (.int .i64 (i189 + 1)))]) ⟨rfl, rfl, rfl, rfl, rfl, rfl, trivial⟩
            refine e_lq ?_
            obtain rfl := Option.some.inj hF
            exact ⟨_, Nat.lt_succ_self _, (x421.1.set ((i189 : Int).toNat) (x429 &&& ~~~x442)), x421.2, i189 + 1, ha.sub ⟨rfl, rfl, rfl, rfl, rfl, rfl, trivial⟩, hE466, hI467, h180, h460, h427, q191, q192, q193, q194, hN351⟩
          · replace hF := if_f hp380 hF
            refine wp_skip ?_
            refine e_blk ?_
            refine e_then ?_
            refine wp_region_lit ?_
            obtain ⟨hI469, hF⟩ := ck_some hF
            refine op_g ha rfl (g_add rfl rfl hI469) ?_; clear ha a; intro a ha
            refine op_g ha rfl (g_move rfl) ?_; clear ha a; intro a ha
            refine wpList_nil ?_
            replace ha := ha.sub (σ' := [(0, va0), (1, (.int .i64 a1)), (2, va2), (3, va3), (21, (.int .i64 (a2.length : Int))), (22, (.int .i64 (i189 + 1)))]) ⟨rfl, rfl, rfl, rfl, rfl, rfl, trivial⟩
            refine e_lq ?_
            obtain rfl := Option.some.inj hF
            exact ⟨_, Nat.lt_succ_self _, l182, l186, i189 + 1, ha.sub ⟨rfl, rfl, rfl, rfl, rfl, rfl, trivial⟩, hE379, hI469, h180, h181, h185, q191, q192, q193, q194, hN351⟩
        · replace hF := if_f hp354 hF
          refine wp_exit ?_
          refine e_then_exit ?_
          refine e_lq_eq ?_
          obtain rfl := Option.some.inj hF
          exact ⟨l182, l186, ha.sub ⟨rfl, rfl, rfl, rfl, trivial⟩, hE195, h180, h181, h185, q191, q192, q193, q194, (LK_inr hN351).symm⟩
    · rintro a w330 ⟨l334, l338, ha, hE350, h332, h333, h337, q341, q342, q343, q344, rfl⟩
      have hF : F_impl_countPartitions_k2 a0 a1 rc l334 l338 = some _ := hK347; clear hK347; unfold F_impl_countPartitions_k2 at hF
      refine e_then ?_
      refine wp_region_lit ?_
      refine op_g ha rfl (g_move rfl) ?_; clear ha a; intro a ha
      refine op_g ha rfl (g_move rfl) ?_; clear ha a; intro a ha
      obtain ⟨hI471, hF⟩ := ck_some hF
      refine op_g ha rfl (g_add rfl rfl hI471) ?_; clear ha a; intro a ha
      refine op_g ha rfl (g_move rfl) ?_; clear ha a; intro a ha
      obtain ⟨fp473, hro474, hs475⟩ := h333.roF
      obtain ⟨x476, hc477, hF⟩ := cal_some hF
      refine o_call ha rfl rfl Try.call35 (W_slices_Clone_implvset hro474 hc477) ?_; clear ha a; rintro v478 w479 ⟨b481, h482, z483, hx480⟩ a ha
      have q485 := Nq.new h332.bnd z483
      have q486 := Nq.new h333.fpb z483
      have q487 := Nq.madeO z483 h333.blt
      have q488 := Nq.new h337.fpb z483
      have q489 := Nq.madeO z483 h337.blt
      replace h332 := h332.ext hx480
      replace h333 := h333.ext hx480
      replace h337 := h337.ext hx480
      have hE490 := Chg.more hE350 hx480
      have q491 := Zn.upD z483 hE350
      refine op_g ha rfl (g_move rfl) ?_; clear ha a; intro a ha
      obtain ⟨x492, hc493, hF⟩ := cal_some hF
      refine o_call ha rfl rfl Try.call34 (W_impl_one ha1 hc493) ?_; clear ha a; rintro v494 w495 ⟨rfl, hx496⟩ a ha
      replace h332 := h332.ext hx496
      replace h333 := h333.ext hx496
      replace h337 := h337.ext hx496
      replace h482 := h482.ext hx496
      have hE497 := Chg.more hE490 hx496
      refine o_lit1 (o := true) (y := x492) Rp.u32 ha rfl sl42 rfl rfl rfl ⟨rfl, rfl⟩ ?_; clear ha a; intro v498 w499 h500 hx501 a ha
      obtain ⟨b503, hb503⟩ : ∃ b : Int, b = w495.heap.size := ⟨_, rfl⟩; rw [← hb503] at h500
      have q504 := zn_of hb503
      have q505 := Nq.new h332.bnd q504
      have q506 := Nq.new h333.fpb q504
      have q507 := Nq.madeO q504 h333.blt
      have q508 := Nq.new h337.fpb q504
      have q509 := Nq.madeO q504 h337.blt
      have q510 := Nq.new h482.fpb q504
      have q511 := Nq.madeO q504 h482.blt
      have q512 := Zn.upD q504 hE497
      replace h332 := h332.ext hx501
      replace h333 := h333.ext hx501
      replace h337 := h337.ext hx501
      replace h482 := h482.ext hx501
      have hE513 := Chg.more hE497 hx501
      obtain ⟨hl514, hF⟩ := app_some hF
      refine o_append ha rfl sl42 rfl rfl rfl h482 h500.src (Nq.nil _) hl514 ?_; clear ha a; intro v515 w516 b517 h518 hc519 hb520 a ha
      replace h518 : Ow Rp.u32 51 true w516 [] b517 v515 _ := h518
      have q522 := Nq.appY q485 h332.bnd hb520
      have q523 := Nq.appY q486 h333.fpb hb520
      have q524 := Nq.appX q487 (Nq.nil _) hb520 h333.blt
      have q525 := Nq.appY q488 h337.fpb hb520
      have q526 := Nq.appX q489 (Nq.nil _) hb520 h337.blt
      have q527 := Nq.appY q511 h500.fpb hb520
      have q528 := Nq.appX q510 (Nq.nil _) hb520 h500.blt
      have q529 := Zn.appD q491 hb520 hE513
      replace h332 := h332.nq hc519 q485
      replace h333 := h333.nq hc519 q486
      replace h337 := h337.nq hc519 q488
      replace h500 := h500.nq hc519 q511
      have hE530 := Chg.own hE513 hc519 (Zn.bl q491)
      refine op_g ha rfl (g_move rfl) ?_; clear ha a; intro a ha
      obtain ⟨x531, hc532, hF⟩ := cal_some hF
      refine o_call ha rfl rfl Try.call22 (ih h332 hI471 h518 h337 q522 q342 q526 q525 hc532) ?_; clear ha a; rintro v533 w534 ⟨rfl, h536, h537, hx535⟩ a ha
      replace h332 := h332.off hx535 (Off.two (Off.flat q522) (Off.flat q342))
      replace h333 := h333.off hx535 (Off.two (Off.flat q523) (Off.flat q343))
      replace h500 := h500.off hx535 (Off.two (Off.flat q527) (Off.flat q509))
      have hE538 := Chg.join hE530 hx535 (S2.app (S2.own (Zn.bl q529)) (S2.par (fun _ h => List.mem_append_right _ h)))
      refine wpList_nil ?_
      replace ha := ha.sub (σ' := []) trivial
      obtain rfl := Option.some.inj hF
      exact f_end0 ha rfl ⟨rfl, h333, h537, hE538⟩
theorem W_impl_countPartitions_n (n : Nat) : ∀ {W : World} {va0 : Value} {fa0 : List Nat} {a0 : (List (BitVec 32))} (ha0 : Ro Rp.u32 W fa0 va0 a0) {a1 : Int} (ha1 : InI a1) {va2 : Value} {ba2 : Int} {a2 : (List (BitVec 32))} (ha2 : Ow Rp.u32 51 true W [] ba2 va2 a2) {va3 : Value} {ba3 : Int} {a3 : (List Int)} (ha3 : Ow Rp.int 2 true W [] ba3 va3 a3) (qa0 : Nq fa0 ba2) (qa0_1 : Nq fa0 ba3) (qa2a3 : Nq (bl ba2 ++ []) ba3) (qa3a2 : Nq (bl ba3 ++ []) ba2) {r : ((List (BitVec 32)) × (List Int))} (hF : itN (fun (rc : ((List (BitVec 32)) × Int × (List (BitVec 32)) × (List Int)) → Option ((List (BitVec 32)) × (List Int))) a => F_impl_countPartitions_body (fun z0 z1 z2 z3 => rc (z0, z1, z2, z3)) a.1 a.2.1 a.2.2.1 a.2.2.2) n (a0, a1, a2, a3) = some r),
    Calls Try.prog 22 [va0, .int .i64 a1, va2, va3].toArray W (Ret fun u w' => u = .tuple #[] ∧ Ow Rp.u32 51 true w' [] ba2 va2 r.1 ∧ Ow Rp.int 2 true w' [] ba3 va3 r.2 ∧ Chg (bl ba2 ++ bl ba3) W w') := by
  induction n with
  | zero => intro W va0 fa0 a0 ha0 a1 ha1 va2 ba2 a2 ha2 va3 ba3 a3 ha3 qa0 qa0_1 qa2a3 qa3a2 r hF; cases hF
  | succ n ih => intro W va0 fa0 a0 ha0 a1 ha1 va2 ba2 a2 ha2 va3 ba3 a3 ha3 qa0 qa0_1 qa2a3 qa3a2 r hF; exact W_impl_countPartitions_step (rc := fun z0 z1 z2 z3 => itN (fun (rc : ((List (BitVec 32)) × Int × (List (BitVec 32)) × (List Int)) → Option ((List (BitVec 32)) × (List Int))) a => F_impl_countPartitions_body (fun z0 z1 z2 z3 => rc (z0, z1, z2, z3)) a.1 a.2.1 a.2.2.1 a.2.2.2) n (z0, z1, z2, z3)) @ih ha0 ha1 ha2 ha3 qa0 qa0_1 qa2a3 qa3a2 hF
theorem W_impl_countPartitions {W : World} {va0 : Value} {fa0 : List Nat} {a0 : (List (BitVec 32))} (ha0 : Ro Rp.u32 W fa0 va0 a0) {a1 : Int} (ha1 : InI a1) {va2 : Value} {ba2 : Int} {a2 : (List (BitVec 32))} (ha2 : Ow Rp.u32 51 true W [] ba2 va2 a2) {va3 : Value} {ba3 : Int} {a3 : (List Int)} (ha3 : Ow Rp.int 2 true W [] ba3 va3 a3) (qa0 : Nq fa0 ba2) (qa0_1 : Nq fa0 ba3) (qa2a3 : Nq (bl ba2 ++ []) ba3) (qa3a2 : Nq (bl ba3 ++ []) ba2) {r : ((List (BitVec 32)) × (List Int))} (hF : F_impl_countPartitions a0 a1 a2 a3 = some r) :
    Calls Try.prog 22 [va0, .int .i64 a1, va2, va3].toArray W (Ret fun u w' => u = .tuple #[] ∧ Ow Rp.u32 51 true w' [] ba2 va2 r.1 ∧ Ow Rp.int 2 true w' [] ba3 va3 r.2 ∧ Chg (bl ba2 ++ bl ba3) W w') := by
  obtain ⟨n, hn⟩ := fixO_some hF
  exact W_impl_countPartitions_n n ha0 ha1 ha2 ha3 qa0 qa0_1 qa2a3 qa3a2 hn
set_option maxHeartbeats 2000000 in
theorem W_impl_PartitionsBy {W : World} {va0_0 : Value} {fa0_0 : List Nat} {a0_0 : (List (List Int))} (ha0_0 : Ro (Rp.sl 2 Rp.int) W fa0_0 va0_0 a0_0) {r : (List Int)} (hF : F_impl_PartitionsBy a0_0 = some r) :
    Calls Try.prog 8 [.agg #[va0_0]].toArray W (Ret fun u w' => ∃ (b_u : Int), Ow Rp.int 2 true w' [] b_u u r ∧ Zn W b_u ∧ Ext W w') := by
  refine f_enter Try.func8 rfl Try.ntmps8 rfl ?_
  intro a ha
  replace ha : Fr 17 [(0, (.agg #[va0_0]))] a := ha
  have hE : Chg [] W W := Chg.refl _ _
  unfold F_impl_PartitionsBy at hF
  refine wp_seq ?_
  refine wp_region_lit ?_
  refine o_box ha rfl rfl rfl ?_; clear ha a; intro b1 w2 hB3 hx4 hlo5 a ha
  have q6 := Zn.one hlo5
  have q7 := Zn.upD q6 hE
  have hE8 := Ext.trans hE hx4
  refine op_g ha rfl (g_assign rfl) ?_; clear ha a; intro a ha
  refine wpList_nil ?_
  replace ha := ha.sub (σ' := [(1, (.pointer (some ⟨b1, 0, none⟩)))]) ⟨rfl, trivial⟩
  refine e_then ?_
  refine wp_seq ?_
  refine wp_seq ?_
  refine wp_region_lit ?_
  refine op_g ha rfl (g_loadA (cs := [va0_0]) Try.isAgg28 Try.sizeOf28 rfl (by simp) hB3.all) ?_; clear ha a; intro a ha
  obtain ⟨x9, hc10, hF⟩ := cal_some hF
  refine o_call ha rfl rfl Try.call21 (W_impl_isSmall (ha0_0.ext hE8) hc10) ?_; clear ha a; rintro v11 w12 ⟨rfl, hx13⟩ a ha
  replace hB3 := hB3.ext hx13
  have hE14 := Ext.trans hE8 hx13
  refine op_g ha rfl (g_not rfl) ?_; clear ha a; intro a ha
  refine wpList_nil ?_
  replace ha := ha.sub (σ' := [(1, (.pointer (some ⟨b1, 0, none⟩))), (6, (.bool (!x9)))]) ⟨rfl, rfl, trivial⟩
  refine e_then ?_
  refine c_cond (¬ (x9 = true)) ha rfl (n_iff (Iff.rfl)) (fun hp15 => ?_) (fun hp15 => ?_)
  · replace hF := if_t hp15 hF
    refine wp_seq ?_
    refine wp_region_lit ?_
    refine op_g ha rfl (g_assign rfl) ?_; clear ha a; intro a ha
    refine wpList_nil ?_
    replace ha := ha.sub (σ' := [(2, (.slice none 0 0))]) ⟨rfl, trivial⟩
    refine e_then ?_
    refine wp_ret ?_
    refine e_then_ret ?_
    obtain rfl := Option.some.inj hF
    exact f_ret1 ha rfl rfl ⟨-1, (Ow.nil (by decide)), (.inl (by decide)), hE14⟩
  · replace hF := if_f hp15 hF
    refine wp_skip ?_
    refine e_then ?_
    refine wp_seq ?_
    refine wp_region_lit ?_
    refine op_g ha rfl (g_field0 st28_0 rfl) ?_; clear ha a; intro a ha
    refine op_g ha rfl (g_load Try.isAgg22 rfl (hB3.cell rfl)) ?_; clear ha a; intro a ha
    refine op_g ha rfl (g_lenR sl22.und ha0_0 rfl) ?_; clear ha a; intro a ha
    obtain ⟨hI16, hF⟩ := ck_some hF
    refine op_g ha rfl (g_add rfl rfl hI16) ?_; clear ha a; intro a ha
    obtain ⟨g22, g22b, hF⟩ := mkS_some hF
    refine o_make (z0 := (0 : Int)) Rp.int ha rfl sl26 rfl (fun w => ⟨rfl, by decide, rfl⟩) rfl g22 g22b ?_; clear ha a; intro v18 w19 h20 hx21 a ha
    obtain ⟨b25, hb25⟩ : ∃ b : Int, b = w12.heap.size := ⟨_, rfl⟩; rw [← hb25] at h20
    have q26 := zn_of hb25
    have q27 := Nq.new hB3.fpb q26
    have q28 := Nq.madeO q26 hB3.bi
    have q29 := Zn.upD q26 hE14
    replace hB3 := hB3.ext hx21
    have hE30 := Ext.trans hE14 hx21
    refine op_g ha rfl (g_assign rfl) ?_; clear ha a; intro a ha
    refine wpList_nil ?_
    replace ha := ha.sub (σ' := [(1, (.pointer (some ⟨b1, 0, none⟩))), (3, v18)]) ⟨rfl, rfl, trivial⟩
    refine e_then ?_
    refine wp_seq ?_
    refine wp_region_lit ?_
    refine op_g ha rfl (g_loadA (cs := [va0_0]) Try.isAgg28 Try.sizeOf28 rfl (by simp) hB3.all) ?_; clear ha a; intro a ha
    obtain ⟨x31, hc32, hF⟩ := cal_some hF
    refine o_call ha rfl rfl Try.call23 (W_impl_netsOf (ha0_0.ext hE30) hc32) ?_; clear ha a; rintro v33 w34 ⟨b36, h37, z38, hx35⟩ a ha
    have q40 := Nq.new hB3.fpb z38
    have q41 := Nq.madeO z38 hB3.bi
    have q42 := Nq.new h20.fpb z38
    have q43 := Nq.madeO z38 h20.blt
    replace hB3 := hB3.ext hx35
    replace h20 := h20.ext hx35
    have hE44 := Ext.trans hE30 hx35
    have q45 := Zn.upD z38 hE30
    refine op_g ha rfl (g_move rfl) ?_; clear ha a; intro a ha
    obtain ⟨fp46, hro47, hs48⟩ := h37.roF
    obtain ⟨b51, hb51⟩ : ∃ b : Int, b = -1 := ⟨_, rfl⟩
    have h50 : Ow Rp.u32 51 true w34 [] b51 (.slice none 0 0) [] := Ow.nil (by omega)
    have q52 := (.inl (by omega) : Zn w34 b51)
    have q53 := Nq.new hB3.fpb q52
    have q54 := Nq.madeO q52 hB3.bi
    have q55 := Nq.new h20.fpb q52
    have q56 := Nq.madeO q52 h20.blt
    have q57 := Nq.new h37.fpb q52
    have q58 := Nq.madeO q52 h37.blt
    have q59 := Zn.upD q52 hE44
    obtain ⟨x60, hc61, hF⟩ := cal_some hF
    refine o_call ha rfl rfl Try.call22 (W_impl_countPartitions hro47 (show InI 0 from by decide) h50 h20 (Nq.mono q57 hs48) (Nq.mono q43 hs48) q56 q55 hc61) ?_; clear ha a; rintro v62 w63 ⟨rfl, h65, h66, hx64⟩ a ha
    replace hB3 := hB3.off hx64 (Off.two (Off.flat q53) (Off.flat q27))
    replace h37 := h37.off hx64 (Off.two (Off.flat q57) (Off.flat q43))
    have hE67 := Chg.join hE44 hx64 (S2.app (S2.own (Zn.bl q59)) (S2.own (Zn.bl q29)))
    refine wpList_nil ?_
    replace ha := ha.sub (σ' := [(3, v18)]) ⟨rfl, trivial⟩
    refine e_then ?_
    refine wp_seq ?_
    refine wp_region_lit ?_
    refine op_g ha rfl (g_move rfl) ?_; clear ha a; intro a ha
    refine op_g ha rfl (g_assign rfl) ?_; clear ha a; intro a ha
    refine wpList_nil ?_
    replace ha := ha.sub (σ' := [(2, v18)]) ⟨rfl, trivial⟩
    refine e_then ?_
    refine wp_ret ?_
    obtain rfl := Option.some.inj hF
    exact f_ret1 ha rfl rfl ⟨_, h66, q29, hE67⟩
set_option maxHeartbeats 2000000 in
theorem W_impl_ColourWays {W : World} {va0_0 : Value} {fa0_0 : List Nat} {a0_0 : (List (List Int))} (ha0_0 : Ro (Rp.sl 2 Rp.int) W fa0_0 va0_0 a0_0) {a1 : Int} (ha1 : InI a1) {r : Int} (hF : F_impl_ColourWays a0_0 a1 = some r) :
    Calls Try.prog 15 [.agg #[va0_0], .int .i64 a1].toArray W (Ret fun u w' => (u = .int .i64 r ∧ InI r) ∧ Ext W w') := by
  refine f_enter Try.func15 rfl Try.ntmps15 rfl ?_
  intro a ha
  replace ha : Fr 38 [(0, (.agg #[va0_0])), (1, (.int .i64 a1))] a := ha
  have hE : Chg [] W W := Chg.refl _ _
  unfold F_impl_ColourWays at hF
  refine wp_seq ?_
  refine wp_region_lit ?_
  refine o_box ha rfl rfl rfl ?_; clear ha a; intro b1 w2 hB3 hx4 hlo5 a ha
  have q6 := Zn.one hlo5
  have q7 := Zn.upD q6 hE
  have hE8 := Ext.trans hE hx4
  refine op_g ha rfl (g_assign rfl) ?_; clear ha a; intro a ha
  refine wpList_nil ?_
  replace ha := ha.sub (σ' := [(1, (.int .i64 a1)), (2, (.pointer (some ⟨b1, 0, none⟩)))]) ⟨rfl, rfl, trivial⟩
  refine e_then ?_
  refine wp_seq ?_
  refine wp_seq ?_
  refine wp_region_lit ?_
  refine op_g ha rfl (g_loadA (cs := [va0_0]) Try.isAgg28 Try.sizeOf28 rfl (by simp) hB3.all) ?_; clear ha a; intro a ha
  obtain ⟨x23, hc24, hF⟩ := cal_some hF
  refine o_call ha rfl rfl Try.call21 (W_impl_isSmall (ha0_0.ext hE8) hc24) ?_; clear ha a; rintro v25 w26 ⟨rfl, hx27⟩ a ha
  replace hB3 := hB3.ext hx27
  have hE28 := Ext.trans hE8 hx27
  refine op_g ha rfl (g_not rfl) ?_; clear ha a; intro a ha
  refine op_g ha rfl (g_move rfl) ?_; clear ha a; intro a ha
  by_cases hp29 : ¬ (x23 = true)
  · replace hF := if_t hp29 hF
    rw [show (!x23) = true from (n_iff (Iff.rfl)).2 hp29] at ha
    refine op_unwant ha rfl (yields ha rfl rfl) rfl ?_; clear ha a; intro a ha
    refine op_unwant ha rfl (yields ha rfl rfl) rfl ?_; clear ha a; intro a ha
    refine op_unwant ha rfl (yields ha rfl rfl) rfl ?_; clear ha a; intro a ha
    refine op_g ha rfl (g_pick rfl rfl) ?_; clear ha a; intro a ha
    refine wpList_nil ?_
    replace ha := ha.sub (σ' := [(1, (.int .i64 a1)), (2, (.pointer (some ⟨b1, 0, none⟩))), (16, (.bool true))]) ⟨rfl, rfl, rfl, trivial⟩
    refine e_then ?_
    refine c_true ha rfl ?_
    refine wp_seq ?_
    refine wp_region_lit ?_
    refine op_g ha rfl (g_assign rfl) ?_; clear ha a; intro a ha
    refine wpList_nil ?_
    replace ha := ha.sub (σ' := [(4, (.int .i64 (-1)))]) ⟨rfl, trivial⟩
    refine e_then ?_
    refine wp_ret ?_
    refine e_then_ret ?_
    obtain rfl := Option.some.inj hF
    exact f_ret1 ha rfl rfl ⟨⟨rfl, (show InI (-1) from by decide)⟩, hE28⟩
  · replace hF := if_f hp29 hF
    rw [show (!x23) = false from b_false (n_iff (Iff.rfl)) hp29] at ha
    refine op_want (yields ha rfl rfl) ?_
    refine op_g ha rfl (g_move rfl) ?_; clear ha a; intro a ha
    refine op_want (yields ha rfl rfl) ?_
    obtain ⟨x30, hc31, hF⟩ := cal_some hF
    refine o_call ha rfl rfl Try.call28 (W_impl_inRange ha1 (show InI 0 from by decide) (show InI 16 from by decide) hc31) ?_; clear ha a; rintro v32 w33 ⟨rfl, hx34⟩ a ha
    replace hB3 := hB3.ext hx34
    have hE35 := Ext.trans hE28 hx34
    refine op_want (yields ha rfl rfl) ?_
    refine op_g ha rfl (g_not rfl) ?_; clear ha a; intro a ha
    refine op_g ha rfl (g_pick rfl rfl) ?_; clear ha a; intro a ha
    refine wpList_nil ?_
    replace ha := ha.sub (σ' := [(1, (.int .i64 a1)), (2, (.pointer (some ⟨b1, 0, none⟩))), (16, (.bool (!x30)))]) ⟨rfl, rfl, rfl, trivial⟩
    refine e_then ?_
    refine c_cond (¬ (x30 = true)) ha rfl (n_iff (Iff.rfl)) (fun hp36 => ?_) (fun hp36 => ?_)
    · replace hF := if_t hp36 hF
      refine wp_seq ?_
      refine wp_region_lit ?_
      refine op_g ha rfl (g_assign rfl) ?_; clear ha a; intro a ha
      refine wpList_nil ?_
      replace ha := ha.sub (σ' := [(4, (.int .i64 (-1)))]) ⟨rfl, trivial⟩
      refine e_then ?_
      refine wp_ret ?_
      refine e_then_ret ?_
      obtain rfl := Option.some.inj hF
      exact f_ret1 ha rfl rfl ⟨⟨rfl, (show InI (-1) from by decide)⟩, hE35⟩
    · replace hF := if_f hp36 hF
      refine wp_skip ?_
      refine e_then ?_
      refine wp_seq ?_
      refine wp_region_lit ?_
      refine op_g ha rfl (g_assign rfl) ?_; clear ha a; intro a ha
      refine op_g ha rfl (g_assign rfl) ?_; clear ha a; intro a ha
      refine wpList_nil ?_
      replace ha := ha.sub (σ' := [(1, (.int .i64 a1)), (2, (.pointer (some ⟨b1, 0, none⟩))), (5, (.int .i64 0)), (6, (.int .i64 1))]) ⟨rfl, rfl, rfl, rfl, trivial⟩
      refine e_then ?_
      refine wp_seq ?_
      refine wp_seq ?_
      refine wp_region_lit ?_
      refine op_g ha rfl (g_loadA (cs := [va0_0]) Try.isAgg28 Try.sizeOf28 rfl (by simp) hB3.all) ?_; clear ha a; intro a ha
      obtain ⟨x37, hc38, hF⟩ := cal_some hF
      refine o_call ha rfl rfl Try.call8 (W_impl_PartitionsBy (ha0_0.ext hE35) hc38) ?_; clear ha a; rintro v39 w40 ⟨b42, h43, z44, hx41⟩ a ha
      have q46 := Nq.new hB3.fpb z44
      have q47 := Nq.madeO z44 hB3.bi
      replace hB3 := hB3.ext hx41
      have hE48 := Ext.trans hE35 hx41
      have q49 := Zn.upD z44 hE35
      refine op_g ha rfl (g_lenO sl26.und h43 rfl) ?_; clear ha a; intro a ha
      refine op_g ha rfl (g_move rfl) ?_; clear ha a; intro a ha
      refine wpList_nil ?_
      replace ha := ha.sub (σ' := [(1, (.int .i64 a1)), (5, (.int .i64 0)), (6, (.int .i64 1)), (18, v39), (19, (.int .i64 (x37.length : Int))), (20, (.int .i64 0))]) ⟨rfl, rfl, rfl, rfl, rfl, rfl, trivial⟩
      refine e_then ?_
      obtain ⟨o135, ho136, hK137⟩ := bnd_some hF
      obtain ⟨n138, hn139⟩ := lp_some ho136; clear ho136
      refine c_loop (fun a w => ∃ (i133 : Int), Fr 38 [(5, (.int .i64 i133))] a ∧ Chg [] W w ∧ InI i133 ∧ o135 = .inl i133) (fun n a w => ∃ (i89 : Int) (i91 : Int) (i96 : Int), Fr 38 [(1, (.int .i64 a1)), (5, (.int .i64 i89)), (6, (.int .i64 i91)), (18, v39), (19, (.int .i64 (x37.length : Int))), (20, (.int .i64 i96))] a ∧ Chg [] W w ∧ InI i89 ∧ InI i91 ∧ InI i96 ∧ Ow Rp.int 2 true w [] b42 v39 x37 ∧ Zn W b42 ∧ lpN (fun s => F_impl_ColourWays_l1 a1 x37 s.1 s.2.1 s.2.2) n (i89, i91, i96) = some o135) n138 ⟨0, 1, 0, ha.sub ⟨rfl, rfl, rfl, rfl, rfl, rfl, trivial⟩, hE48, (show InI 0 from by decide), (show InI 1 from by decide), (show InI 0 from by decide), h43, q49, hn139⟩ ?_ ?_
      · rintro m143 a w88 ⟨i89, i91, i96, ha, hE98, hI90, hI92, hI97, h94, z95, hF⟩
        cases m143 with
        | zero => exact (lpN_zero hF).elim
        | succ m143 =>
          obtain ⟨z142, hF, hN141⟩ := lpN_succ hF
          have hF : F_impl_ColourWays_l1 a1 x37 i89 i91 i96 = some z142 := hF; unfold F_impl_ColourWays_l1 at hF
          refine wp_seq ?_
          refine wp_region_lit ?_
          refine op_g ha rfl (g_lss rfl rfl) ?_; clear ha a; intro a ha
          refine wpList_nil ?_
          replace ha := ha.sub (σ' := [(1, (.int .i64 a1)), (5, (.int .i64 i89)), (6, (.int .i64 i91)), (18, v39), (19, (.int .i64 (x37.length : Int))), (20, (.int .i64 i96)), (21, (.bool (decide (i96 < (x37.length : Int)))))]) ⟨rfl, rfl, rfl, rfl, rfl, rfl, rfl, trivial⟩
          refine e_then ?_
          refine wp_seq ?_
          refine c_cond (i96 < (x37.length : Int)) ha rfl (decide_eq_true_iff) (fun hp144 => ?_) (fun hp144 => ?_)
          · replace hF := if_t hp144 hF
            refine wp_skip ?_
            refine e_then ?_
            refine wp_seq ?_
            refine wp_block ?_
            refine wp_seq ?_
            refine wp_region_lit ?_
            refine op_g ha rfl (g_move rfl) ?_; clear ha a; intro a ha
            obtain ⟨x145, g146, gx147, hF⟩ := idx_some hF
            obtain ⟨p148, cs149, f150, hf151, hpb152, hat153, hr154, hi155⟩ := h94.at g146 gx147
            obtain ⟨rfl, hI156, rfl⟩ := hr154
            refine op_g ha rfl (hi155.gives sl26 rfl rfl) ?_; clear ha a; intro a ha
            refine op_g ha rfl (g_load Try.isAgg2 rfl hat153.one) ?_; clear ha a; intro a ha
            refine op_g ha rfl (g_assign rfl) ?_; clear ha a; intro a ha
            refine op_g ha rfl (g_assign rfl) ?_; clear ha a; intro a ha
            refine wpList_nil ?_
            replace ha := ha.sub (σ' := [(1, (.int .i64 a1)), (5, (.int .i64 i89)), (6, (.int .i64 i91)), (7, (.int .i64 i96)), (8, (.int .i64 x145)), (18, v39), (19, (.int .i64 (x37.length : Int))), (20, (.int .i64 i96))]) ⟨rfl, rfl, rfl, rfl, rfl, rfl, rfl, rfl, trivial⟩
            refine e_then ?_
            refine wp_seq ?_
            refine wp_region_lit ?_
            refine op_g ha rfl (g_move rfl) ?_; clear ha a; intro a ha
            refine op_g ha rfl (g_move rfl) ?_; clear ha a; intro a ha
            refine op_g ha rfl (g_move rfl) ?_; clear ha a; intro a ha
            obtain ⟨hI157, hF⟩ := ck_some hF
            refine op_g ha rfl (g_mul rfl rfl hI157) ?_; clear ha a; intro a ha
            obtain ⟨hI159, hF⟩ := ck_some hF
            refine op_g ha rfl (g_add rfl rfl hI159) ?_; clear ha a; intro a ha
            refine op_g ha rfl (g_assign rfl) ?_; clear ha a; intro a ha
            refine wpList_nil ?_
            replace ha := ha.sub (σ' := [(1, (.int .i64 a1)), (5, (.int .i64 (i89 + (x145 * i91)))), (6, (.int .i64 i91)), (7, (.int .i64 i96)), (18, v39), (19, (.int .i64 (x37.length : Int))), (20, (.int .i64 i96))]) ⟨rfl, rfl, rfl, rfl, rfl, rfl, rfl, trivial⟩
            refine e_then ?_
            refine wp_region_lit ?_
            refine op_g ha rfl (g_move rfl) ?_; clear ha a; intro a ha
            refine op_g ha rfl (g_move rfl) ?_; clear ha a; intro a ha
            refine op_g ha rfl (g_move rfl) ?_; clear ha a; intro a ha
            obtain ⟨hI161, hF⟩ := ck_some hF
            refine op_g ha rfl (g_sub rfl rfl hI161) ?_; clear ha a; intro a ha
            refine op_g ha rfl (g_max rfl rfl) ?_; clear ha a; intro a ha
            obtain ⟨hI163, hF⟩ := ck_some hF
            refine op_g ha rfl (g_mul rfl rfl hI163) ?_; clear ha a; intro a ha
            refine op_g ha rfl (g_assign rfl) ?_; clear ha a; intro a ha
            refine wpList_nil ?_
            replace ha := ha.sub (σ' := [(1, (.int .i64 a1)), (5, (.int .i64 (i89 + (x145 * i91)))), (6, (.int .i64 (i91 * (max 0 (a1 - i96))))), (18, v39), (19, (.int .i64 (x37.length : Int))), (20, (.int .i64 i96))]) ⟨rfl, rfl, rfl, rfl, rfl, rfl, trivial⟩
            refine e_blk ?_
            refine e_then ?_
            refine wp_region_lit ?_
            obtain ⟨hI165, hF⟩ := ck_some hF
            refine op_g ha rfl (g_add rfl rfl hI165) ?_; clear ha a; intro a ha
            refine op_g ha rfl (g_move rfl) ?_; clear ha a; intro a ha
            refine wpList_nil ?_
            replace ha := ha.sub (σ' := [(1, (.int .i64 a1)), (5, (.int .i64 (i89 + (x145 * i91)))), (6, (.int .i64 (i91 * (max 0 (a1 - i96))))), (18, v39), (19, (.int .i64 (x37.length : Int))), (20, (.int .i64 (i96 + 1)))]) ⟨rfl, rfl, rfl, rfl, rfl, rfl, trivial⟩
            refine e_lq ?_
            obtain rfl := Option.some.inj hF
            exact ⟨_, Nat.lt_succ_self _, i89 + (x145 * i91), i91 * (max 0 (a1 - i96)), i96 + 1, ha.sub ⟨rfl, rfl, rfl, rfl, rfl, rfl, trivial⟩, hE98, hI159, hI163, hI165, h94, z95, hN141⟩
          · replace hF := if_f hp144 hF
            refine wp_exit ?_
            refine e_then_exit ?_
            refine e_lq_eq ?_
            obtain rfl := Option.some.inj hF
            exact ⟨i89, ha.sub ⟨rfl, trivial⟩, hE98, hI90, (LK_inr hN141).symm⟩
      · rintro a w132 ⟨i133, ha, hE140, hI134, rfl⟩
        have hF : F_impl_ColourWays_k2 i133 = some _ := hK137; clear hK137; unfold F_impl_ColourWays_k2 at hF
        refine e_then ?_
        refine wp_seq ?_
        refine wp_region_lit ?_
        refine op_g ha rfl (g_move rfl) ?_; clear ha a; intro a ha
        refine op_g ha rfl (g_assign rfl) ?_; clear ha a; intro a ha
        refine wpList_nil ?_
        replace ha := ha.sub (σ' := [(4, (.int .i64 i133))]) ⟨rfl, trivial⟩
        refine e_then ?_
        refine wp_ret ?_
        obtain rfl := Option.some.inj hF
        exact f_ret1 ha rfl rfl ⟨⟨rfl, hI134⟩, hE140⟩
set_option maxHeartbeats 2000000 in
theorem W_laws_eqInt64S {W : World} {va0 : Value} {fa0 : List Nat} {a0 : (List Int)} (ha0 : Ro Rp.int W fa0 va0 a0) {va1 : Value} {fa1 : List Nat} {a1 : (List Int)} (ha1 : Ro Rp.int W fa1 va1 a1) {r : Bool} (hF : F_laws_eqInt64S a0 a1 = some r) :
    Calls Try.prog 9 [va0, va1].toArray W (Ret fun u w' => u = .bool r ∧ Ext W w') := by
  refine f_enter Try.func9 rfl Try.ntmps9 rfl ?_
  intro a ha
  replace ha : Fr 26 [(0, va0), (1, va1)] a := ha
  have hE : Chg [] W W := Chg.refl _ _
  unfold F_laws_eqInt64S at hF
  refine wp_seq ?_
  refine wp_region_lit ?_
  refine op_g ha rfl (g_assign rfl) ?_; clear ha a; intro a ha
  refine wpList_nil ?_
  replace ha := ha.sub (σ' := [(0, va0), (1, va1)]) ⟨rfl, rfl, trivial⟩
  refine e_then ?_
  refine wp_seq ?_
  refine wp_seq ?_
  refine wp_region_lit ?_
  refine op_g ha rfl (g_move rfl) ?_; clear ha a; intro a ha
  refine op_g ha rfl (g_lenR sl26.und ha0 rfl) ?_; clear ha a; intro a ha
  refine op_g ha rfl (g_move rfl) ?_; clear ha a; intro a ha
  refine op_g ha rfl (g_lenR sl26.und ha1 rfl) ?_; clear ha a; intro a ha
  refine op_g ha rfl (g_neq rfl rfl) ?_; clear ha a; intro a ha
  refine wpList_nil ?_
  replace ha := ha.sub (σ' := [(0, va0), (1, va1), (10, (.bool (decide ((a0.length : Int) ≠ (a1.length : Int)))))]) ⟨rfl, rfl, rfl, trivial⟩
  refine e_then ?_
  refine c_cond ((a0.length : Int) ≠ (a1.length : Int)) ha rfl (decide_eq_true_iff) (fun hp1 => ?_) (fun hp1 => ?_)
  · replace hF := if_t hp1 hF
    refine wp_seq ?_
    refine wp_region_lit ?_
    refine op_g ha rfl (g_assign rfl) ?_; clear ha a; intro a ha
    refine wpList_nil ?_
    replace ha := ha.sub (σ' := [(4, (.bool false))]) ⟨rfl, trivial⟩
    refine e_then ?_
    refine wp_ret ?_
    refine e_then_ret ?_
    obtain rfl := Option.some.inj hF
    exact f_ret1 ha rfl rfl ⟨rfl, hE⟩
  · replace hF := if_f hp1 hF
    refine wp_skip ?_
    refine e_then ?_
    refine wp_seq ?_
    refine wp_seq ?_
    refine wp_region_lit ?_
    refine op_g ha rfl (g_assign rfl) ?_; clear ha a; intro a ha
    refine wpList_nil ?_
    replace ha := ha.sub (σ' := [(0, va0), (1, va1), (5, (.int .i64 0))]) ⟨rfl, rfl, rfl, trivial⟩
    refine e_then ?_
    obtain ⟨o77, ho78, hK79⟩ := bnd_some hF
    obtain ⟨n80, hn81⟩ := lp_some ho78; clear ho78
    refine c_loop (fun a w => Fr 26 [] a ∧ Chg [] W w ∧ o77 = .inl ()) (fun n a w => ∃ (i39 : Int), Fr 26 [(0, va0), (1, va1), (5, (.int .i64 i39))] a ∧ Chg [] W w ∧ InI i39 ∧ lpN (fun s => F_laws_eqInt64S_l1 a0 a1 s) n i39 = some o77) n80 ⟨0, ha.sub ⟨rfl, rfl, rfl, trivial⟩, hE, (show InI 0 from by decide), hn81⟩ ?_ ?_
    · rintro m85 a w38 ⟨i39, ha, hE41, hI40, hF⟩
      cases m85 with
      | zero => exact (lpN_zero hF).elim
      | succ m85 =>
        obtain ⟨z84, hF, hN83⟩ := lpN_succ hF
        have hF : F_laws_eqInt64S_l1 a0 a1 i39 = some z84 := hF; unfold F_laws_eqInt64S_l1 at hF
        refine wp_seq ?_
        refine wp_seq ?_
        refine wp_region_lit ?_
        refine op_g ha rfl (g_move rfl) ?_; clear ha a; intro a ha
        refine op_g ha rfl (g_move rfl) ?_; clear ha a; intro a ha
        refine op_g ha rfl (g_lenR sl26.und ha0 rfl) ?_; clear ha a; intro a ha
        refine op_g ha rfl (g_lss rfl rfl) ?_; clear ha a; intro a ha
        refine wpList_nil ?_
        replace ha := ha.sub (σ' := [(0, va0), (1, va1), (5, (.int .i64 i39)), (14, (.bool (decide (i39 < (a0.length : Int)))))]) ⟨rfl, rfl, rfl, rfl, trivial⟩
        refine e_then ?_
        refine c_cond (i39 < (a0.length : Int)) ha rfl (decide_eq_true_iff) (fun hp86 => ?_) (fun hp86 => ?_)
        · replace hF := if_t hp86 hF
          refine wp_skip ?_
          refine e_then ?_
          refine wp_seq ?_
          refine wp_block ?_
          refine wp_seq ?_
          refine d_quiet hmix (by kernel_rfl) ?_
          refine q_g ha rfl (g_move rfl) ?_; clear ha a; intro a ha
          refine q_g ha rfl (g_move rfl) ?_; clear ha a; intro a ha
          obtain ⟨x87, g88, gx89, hF⟩ := idx_some hF
          obtain ⟨p90, cs91, f92, hf93, hpb94, hat95, hr96, hi97⟩ := ha0.at g88 gx89
          obtain ⟨rfl, hI98, rfl⟩ := hr96
          refine q_g ha rfl (hi97.gives sl26 rfl rfl) ?_; clear ha a; intro a ha
          refine q_g ha rfl (g_load0 hE41 Try.isAgg2 rfl hat95.one) ?_; clear ha a; intro a ha
          refine q_g ha rfl (g_move rfl) ?_; clear ha a; intro a ha
          refine q_g ha rfl (g_move rfl) ?_; clear ha a; intro a ha
          obtain ⟨x99, g100, gx101, hF⟩ := idx_some hF
          obtain ⟨p102, cs103, f104, hf105, hpb106, hat107, hr108, hi109⟩ := ha1.at g100 gx101
          obtain ⟨rfl, hI110, rfl⟩ := hr108
          refine q_g ha rfl (hi109.gives sl26 rfl rfl) ?_; clear ha a; intro a ha
          refine q_g ha rfl (g_load0 hE41 Try.isAgg2 rfl hat107.one) ?_; clear ha a; intro a ha
          refine q_g ha rfl (g_neq rfl rfl) ?_; clear ha a; intro a ha
          refine q_nil ?_; intro w111 hx112
          have hE113 := Ext.trans hE41 hx112
          replace ha := ha.sub (σ' := [(0, va0), (1, va1), (5, (.int .i64 i39)), (25, (.bool (decide (x87 ≠ x99))))]) ⟨rfl, rfl, rfl, rfl, trivial⟩
          refine e_then ?_
          refine c_cond (x87 ≠ x99) ha rfl (decide_eq_true_iff) (fun hp114 => ?_) (fun hp114 => ?_)
          · replace hF := if_t hp114 hF
            refine wp_seq ?_
            refine wp_region_lit ?_
            refine op_g ha rfl (g_assign rfl) ?_; clear ha a; intro a ha
            refine wpList_nil ?_
            replace ha := ha.sub (σ' := [(4, (.bool false))]) ⟨rfl, trivial⟩
            refine e_then ?_
            refine wp_ret ?_
            refine e_blk_ret ?_
            refine e_then_ret ?_
            refine e_lq_ret ?_
            refine e_then_ret ?_
            obtain rfl := Option.some.inj hF
            have e115 := LK_inr hN83; subst e115
            have e116 := BK_inr hK79; subst e116
            exact f_ret1 ha rfl rfl ⟨rfl, hE113⟩
          · replace hF := if_f hp114 hF
            refine wp_skip ?_
            refine e_blk ?_
            refine e_then ?_
            refine wp_region_lit ?_
            refine op_g ha rfl (g_move rfl) ?_; clear ha a; intro a ha
            obtain ⟨hI117, hF⟩ := ck_some hF
            refine op_g ha rfl (g_add rfl rfl hI117) ?_; clear ha a; intro a ha
            refine op_g ha rfl (g_assign rfl) ?_; clear ha a; intro a ha
            refine wpList_nil ?_
            replace ha := ha.sub (σ' := [(0, va0), (1, va1), (5, (.int .i64 (i39 + 1)))]) ⟨rfl, rfl, rfl, trivial⟩
            refine e_lq ?_
            obtain rfl := Option.some.inj hF
            exact ⟨_, Nat.lt_succ_self _, i39 + 1, ha.sub ⟨rfl, rfl, rfl, trivial⟩, hE113, hI117, hN83⟩
        · replace hF := if_f hp86 hF
          refine wp_exit ?_
          refine e_then_exit ?_
          refine e_lq_eq ?_
          obtain rfl := Option.some.inj hF
          exact ⟨ha.sub trivial, hE41, (LK_inr hN83).symm⟩
    · rintro a w76 ⟨ha, hE82, rfl⟩
      have hF : F_laws_eqInt64S_k2 = some _ := hK79; clear hK79; unfold F_laws_eqInt64S_k2 at hF
      refine e_then ?_
      refine wp_seq ?_
      refine wp_region_lit ?_
      refine op_g ha rfl (g_assign rfl) ?_; clear ha a; intro a ha
      refine wpList_nil ?_
      refine e_then ?_
      refine wp_ret ?_
      obtain rfl := Option.some.inj hF
      exact f_ret1 ha rfl rfl ⟨rfl, hE82⟩
set_option maxHeartbeats 2000000 in
theorem W_laws_eqInt64SS {W : World} {va0 : Value} {fa0 : List Nat} {a0 : (List (List Int))} (ha0 : Ro (Rp.sl 2 Rp.int) W fa0 va0 a0) {va1 : Value} {fa1 : List Nat} {a1 : (List (List Int))} (ha1 : Ro (Rp.sl 2 Rp.int) W fa1 va1 a1) {r : Bool} (hF : F_laws_eqInt64SS a0 a1 = some r) :
    Calls Try.prog 24 [va0, va1].toArray W (Ret fun u w' => u = .bool r ∧ Ext W w') := by
  refine f_enter Try.func24 rfl Try.ntmps24 rfl ?_
  intro a ha
  replace ha : Fr 27 [(0, va0), (1, va1)] a := ha
  have hE : Chg [] W W := Chg.refl _ _
  unfold F_laws_eqInt64SS at hF
  refine wp_seq ?_
  refine wp_region_lit ?_
  refine op_g ha rfl (g_assign rfl) ?_; clear ha a; intro a ha
  refine wpList_nil ?_
  replace ha := ha.sub (σ' := [(0, va0), (1, va1)]) ⟨rfl, rfl, trivial⟩
  refine e_then ?_
  refine wp_seq ?_
  refine wp_seq ?_
  refine wp_region_lit ?_
  refine op_g ha rfl (g_move rfl) ?_; clear ha a; intro a ha
  refine op_g ha rfl (g_lenR sl22.und ha0 rfl) ?_; clear ha a; intro a ha
  refine op_g ha rfl (g_move rfl) ?_; clear ha a; intro a ha
  refine op_g ha rfl (g_lenR sl22.und ha1 rfl) ?_; clear ha a; intro a ha
  refine op_g ha rfl (g_neq rfl rfl) ?_; clear ha a; intro a ha
  refine wpList_nil ?_
  replace ha := ha.sub (σ' := [(0, va0), (1, va1), (10, (.bool (decide ((a0.length : Int) ≠ (a1.length : Int)))))]) ⟨rfl, rfl, rfl, trivial⟩
  refine e_then ?_
  refine c_cond ((a0.length : Int) ≠ (a1.length : Int)) ha rfl (decide_eq_true_iff) (fun hp1 => ?_) (fun hp1 => ?_)
  · replace hF := if_t hp1 hF
    refine wp_seq ?_
    refine wp_region_lit ?_
    refine op_g ha rfl (g_assign rfl) ?_; clear ha a; intro a ha
    refine wpList_nil ?_
    replace ha := ha.sub (σ' := [(4, (.bool false))]) ⟨rfl, trivial⟩
    refine e_then ?_
    refine wp_ret ?_
    refine e_then_ret ?_
    obtain rfl := Option.some.inj hF
    exact f_ret1 ha rfl rfl ⟨rfl, hE⟩
  · replace hF := if_f hp1 hF
    refine wp_skip ?_
    refine e_then ?_
    refine wp_seq ?_
    refine wp_seq ?_
    refine wp_region_lit ?_
    refine op_g ha rfl (g_assign rfl) ?_; clear ha a; intro a ha
    refine wpList_nil ?_
    replace ha := ha.sub (σ' := [(0, va0), (1, va1), (5, (.int .i64 0))]) ⟨rfl, rfl, rfl, trivial⟩
    refine e_then ?_
    obtain ⟨o93, ho94, hK95⟩ := bnd_some hF
    obtain ⟨n96, hn97⟩ := lp_some ho94; clear ho94
    refine c_loop (fun a w => Fr 27 [] a ∧ Chg [] W w ∧ o93 = .inl ()) (fun n a w => ∃ (i47 : Int), Fr 27 [(0, va0), (1, va1), (5, (.int .i64 i47))] a ∧ Chg [] W w ∧ InI i47 ∧ lpN (fun s => F_laws_eqInt64SS_l1 a0 a1 s) n i47 = some o93) n96 ⟨0, ha.sub ⟨rfl, rfl, rfl, trivial⟩, hE, (show InI 0 from by decide), hn97⟩ ?_ ?_
    · rintro m101 a w46 ⟨i47, ha, hE49, hI48, hF⟩
      cases m101 with
      | zero => exact (lpN_zero hF).elim
      | succ m101 =>
        obtain ⟨z100, hF, hN99⟩ := lpN_succ hF
        have hF : F_laws_eqInt64SS_l1 a0 a1 i47 = some z100 := hF; unfold F_laws_eqInt64SS_l1 at hF
        refine wp_seq ?_
        refine wp_seq ?_
        refine wp_region_lit ?_
        refine op_g ha rfl (g_move rfl) ?_; clear ha a; intro a ha
        refine op_g ha rfl (g_move rfl) ?_; clear ha a; intro a ha
        refine op_g ha rfl (g_lenR sl22.und ha0 rfl) ?_; clear ha a; intro a ha
        refine op_g ha rfl (g_lss rfl rfl) ?_; clear ha a; intro a ha
        refine wpList_nil ?_
        replace ha := ha.sub (σ' := [(0, va0), (1, va1), (5, (.int .i64 i47)), (14, (.bool (decide (i47 < (a0.length : Int)))))]) ⟨rfl, rfl, rfl, rfl, trivial⟩
        refine e_then ?_
        refine c_cond (i47 < (a0.length : Int)) ha rfl (decide_eq_true_iff) (fun hp102 => ?_) (fun hp102 => ?_)
        · replace hF := if_t hp102 hF
          refine wp_skip ?_
          refine e_then ?_
          refine wp_seq ?_
          refine wp_block ?_
          refine wp_seq ?_
          refine d_quiet hmix (by kernel_rfl) ?_
          refine q_g ha rfl (g_move rfl) ?_; clear ha a; intro a ha
          refine q_g ha rfl (g_move rfl) ?_; clear ha a; intro a ha
          obtain ⟨x103, g104, gx105, hF⟩ := idx_some hF
          obtain ⟨p106, cs107, f108, hf109, hpb110, hat111, hr112, hi113⟩ := ha0.at g104 gx105
          obtain ⟨v114, rfl, h115⟩ := hr112
          have h115 : Ro Rp.int W f108 v114 x103 := h115
          refine q_g ha rfl (hi113.gives sl22 rfl rfl) ?_; clear ha a; intro a ha
          refine q_g ha rfl (g_load0 hE49 Try.isAgg26 rfl hat111.one) ?_; clear ha a; intro a ha
          refine q_g ha rfl (g_move rfl) ?_; clear ha a; intro a ha
          refine q_g ha rfl (g_move rfl) ?_; clear ha a; intro a ha
          obtain ⟨x117, g118, gx119, hF⟩ := idx_some hF
          obtain ⟨p120, cs121, f122, hf123, hpb124, hat125, hr126, hi127⟩ := ha1.at g118 gx119
          obtain ⟨v128, rfl, h129⟩ := hr126
          have h129 : Ro Rp.int W f122 v128 x117 := h129
          refine q_g ha rfl (hi127.gives sl22 rfl rfl) ?_; clear ha a; intro a ha
          refine q_g ha rfl (g_load0 hE49 Try.isAgg26 rfl hat125.one) ?_; clear ha a; intro a ha
          obtain ⟨x133, hc134, hF⟩ := cal_some hF
          refine q_call (.bool x133) ha rfl rfl Try.call9 (fun w132 hx131 => W_laws_eqInt64S (h115.ext (Ext.trans hE49 hx131)) (h129.ext (Ext.trans hE49 hx131)) hc134) (fun _ _ _ h => ⟨h.1, h.2⟩) ?_; clear ha a; intro a ha
          refine q_g ha rfl (g_not rfl) ?_; clear ha a; intro a ha
          refine q_nil ?_; intro w135 hx136
          have hE137 := Ext.trans hE49 hx136
          replace ha := ha.sub (σ' := [(0, va0), (1, va1), (5, (.int .i64 i47)), (26, (.bool (!x133)))]) ⟨rfl, rfl, rfl, rfl, trivial⟩
          refine e_then ?_
          refine c_cond (¬ (x133 = true)) ha rfl (n_iff (Iff.rfl)) (fun hp138 => ?_) (fun hp138 => ?_)
          · replace hF := if_t hp138 hF
            refine wp_seq ?_
            refine wp_region_lit ?_
            refine op_g ha rfl (g_assign rfl) ?_; clear ha a; intro a ha
            refine wpList_nil ?_
            replace ha := ha.sub (σ' := [(4, (.bool false))]) ⟨rfl, trivial⟩
            refine e_then ?_
            refine wp_ret ?_
            refine e_blk_ret ?_
            refine e_then_ret ?_
            refine e_lq_ret ?_
            refine e_then_ret ?_
            obtain rfl := Option.some.inj hF
            have e139 := LK_inr hN99; subst e139
            have e140 := BK_inr hK95; subst e140
            exact f_ret1 ha rfl rfl ⟨rfl, hE137⟩
          · replace hF := if_f hp138 hF
            refine wp_skip ?_
            refine e_blk ?_
            refine e_then ?_
            refine wp_region_lit ?_
            refine op_g ha rfl (g_move rfl) ?_; clear ha a; intro a ha
            obtain ⟨hI141, hF⟩ := ck_some hF
            refine op_g ha rfl (g_add rfl rfl hI141) ?_; clear ha a; intro a ha
            refine op_g ha rfl (g_assign rfl) ?_; clear ha a; intro a ha
            refine wpList_nil ?_
            replace ha := ha.sub (σ' := [(0, va0), (1, va1), (5, (.int .i64 (i47 + 1)))]) ⟨rfl, rfl, rfl, trivial⟩
            refine e_lq ?_
            obtain rfl := Option.some.inj hF
            exact ⟨_, Nat.lt_succ_self _, i47 + 1, ha.sub ⟨rfl, rfl, rfl, trivial⟩, hE137, hI141, hN99⟩
        · replace hF := if_f hp102 hF
          refine wp_exit ?_
          refine e_then_exit ?_
          refine e_lq_eq ?_
          obtain rfl := Option.some.inj hF
          exact ⟨ha.sub trivial, hE49, (LK_inr hN99).symm⟩
    · rintro a w92 ⟨ha, hE98, rfl⟩
      have hF : F_laws_eqInt64SS_k2 = some _ := hK95; clear hK95; unfold F_laws_eqInt64SS_k2 at hF
      refine e_then ?_
      refine wp_seq ?_
      refine wp_region_lit ?_
      refine op_g ha rfl (g_assign rfl) ?_; clear ha a; intro a ha
      refine wpList_nil ?_
      refine e_then ?_
      refine wp_ret ?_
      obtain rfl := Option.some.inj hF
      exact f_ret1 ha rfl rfl ⟨rfl, hE98⟩
set_option maxHeartbeats 2000000 in
theorem W_laws_eqGraph {W : World} {va0_0 : Value} {fa0_0 : List Nat} {a0_0 : (List (List Int))} (ha0_0 : Ro (Rp.sl 2 Rp.int) W fa0_0 va0_0 a0_0) {va1_0 : Value} {fa1_0 : List Nat} {a1_0 : (List (List Int))} (ha1_0 : Ro (Rp.sl 2 Rp.int) W fa1_0 va1_0 a1_0) {r : Bool} (hF : F_laws_eqGraph a0_0 a1_0 = some r) :
    Calls Try.prog 10 [.agg #[va0_0], .agg #[va1_0]].toArray W (Ret fun u w' => u = .bool r ∧ Ext W w') := by
  refine f_enter Try.func10 rfl Try.ntmps10 rfl ?_
  intro a ha
  replace ha : Fr 11 [(0, (.agg #[va0_0])), (1, (.agg #[va1_0]))] a := ha
  have hE : Chg [] W W := Chg.refl _ _
  unfold F_laws_eqGraph at hF
  refine wp_seq ?_
  refine wp_region_lit ?_
  refine o_box ha rfl rfl rfl ?_; clear ha a; intro b1 w2 hB3 hx4 hlo5 a ha
  have q6 := Zn.one hlo5
  have q7 := Zn.upD q6 hE
  have hE8 := Ext.trans hE hx4
  refine o_box ha rfl rfl rfl ?_; clear ha a; intro b9 w10 hB11 hx12 hlo13 a ha
  have q14 := Zn.one hlo13
  have q15 := Nq.new hB3.fpb q14
  have q16 := Nq.made1 hlo13 hB3.bi
  have q17 := Zn.upD q14 hE8
  replace hB3 := hB3.ext hx12
  have hE18 := Ext.trans hE8 hx12
  refine op_g ha rfl (g_assign rfl) ?_; clear ha a; intro a ha
  refine wpList_nil ?_
  replace ha := ha.sub (σ' := [(2, (.pointer (some ⟨b1, 0, none⟩))), (3, (.pointer (some ⟨b9, 0, none⟩)))]) ⟨rfl, rfl, trivial⟩
  refine e_then ?_
  refine wp_seq ?_
  refine wp_seq ?_
  refine wp_region_lit ?_
  refine op_g ha rfl (g_field0 st28_0 rfl) ?_; clear ha a; intro a ha
  refine op_g ha rfl (g_load Try.isAgg22 rfl (hB3.cell rfl)) ?_; clear ha a; intro a ha
  refine op_g ha rfl (g_field0 st28_0 rfl) ?_; clear ha a; intro a ha
  refine op_g ha rfl (g_load Try.isAgg22 rfl (hB11.cell rfl)) ?_; clear ha a; intro a ha
  obtain ⟨x19, hc20, hF⟩ := cal_some hF
  refine o_call ha rfl rfl Try.call24 (W_laws_eqInt64SS (ha0_0.ext hE18) (ha1_0.ext hE18) hc20) ?_; clear ha a; rintro v21 w22 ⟨rfl, hx23⟩ a ha
  replace hB3 := hB3.ext hx23
  replace hB11 := hB11.ext hx23
  have hE24 := Ext.trans hE18 hx23
  refine op_g ha rfl (g_not rfl) ?_; clear ha a; intro a ha
  refine wpList_nil ?_
  replace ha := ha.sub (σ' := [(10, (.bool (!x19)))]) ⟨rfl, trivial⟩
  refine e_then ?_
  refine c_cond (¬ (x19 = true)) ha rfl (n_iff (Iff.rfl)) (fun hp25 => ?_) (fun hp25 => ?_)
  · replace hF := if_t hp25 hF
    refine wp_seq ?_
    refine wp_region_lit ?_
    refine op_g ha rfl (g_assign rfl) ?_; clear ha a; intro a ha
    refine wpList_nil ?_
    replace ha := ha.sub (σ' := [(4, (.bool false))]) ⟨rfl, trivial⟩
    refine e_then ?_
    refine wp_ret ?_
    refine e_then_ret ?_
    obtain rfl := Option.some.inj hF
    exact f_ret1 ha rfl rfl ⟨rfl, hE24⟩
  · replace hF := if_f hp25 hF
    refine wp_skip ?_
    refine e_then ?_
    refine wp_seq ?_
    refine wp_region_lit ?_
    refine op_g ha rfl (g_assign rfl) ?_; clear ha a; intro a ha
    refine wpList_nil ?_
    replace ha := ha.sub (σ' := [(4, (.bool true))]) ⟨rfl, trivial⟩
    refine e_then ?_
    refine wp_ret ?_
    obtain rfl := Option.some.inj hF
    exact f_ret1 ha rfl rfl ⟨rfl, hE24⟩
set_option maxHeartbeats 2000000 in
theorem W_laws_FnExactColourWays {W : World} {va0_0 : Value} {fa0_0 : List Nat} {a0_0 : (List (List Int))} (ha0_0 : Ro (Rp.sl 2 Rp.int) W fa0_0 va0_0 a0_0) {a1 : Int} (ha1 : InI a1) {r : Bool} (hF : F_laws_FnExactColourWays a0_0 a1 = some r) :
    Calls Try.prog 4 [.agg #[va0_0], .int .i64 a1].toArray W (Ret fun u w' => u = .bool r ∧ Ext W w') := by
  refine f_enter Try.func4 rfl Try.ntmps4 rfl ?_
  intro a ha
  replace ha : Fr 31 [(0, (.agg #[va0_0])), (1, (.int .i64 a1))] a := ha
  have hE : Chg [] W W := Chg.refl _ _
  unfold F_laws_FnExactColourWays at hF
  refine wp_seq ?_
  refine wp_region_lit ?_
  refine o_box ha rfl rfl rfl ?_; clear ha a; intro b1 w2 hB3 hx4 hlo5 a ha
  have q6 := Zn.one hlo5
  have q7 := Zn.upD q6 hE
  have hE8 := Ext.trans hE hx4
  refine op_g ha rfl (g_assign rfl) ?_; clear ha a; intro a ha
  refine wpList_nil ?_
  replace ha := ha.sub (σ' := [(1, (.int .i64 a1)), (2, (.pointer (some ⟨b1, 0, none⟩)))]) ⟨rfl, rfl, trivial⟩
  refine e_then ?_
  refine wp_seq ?_
  refine wp_region_lit ?_
  refine op_g ha rfl (g_assign rfl) ?_; clear ha a; intro a ha
  refine wpList_nil ?_
  refine e_then ?_
  refine wp_seq ?_
  refine wp_region_lit ?_
  refine op_g ha rfl (g_loadA (cs := [va0_0]) Try.isAgg24 Try.sizeOf24 rfl (by simp) hB3.all) ?_; clear ha a; intro a ha
  refine op_g ha rfl (g_move rfl) ?_; clear ha a; intro a ha
  obtain ⟨x9, hc10, hF⟩ := cal_some hF
  refine o_call ha rfl rfl Try.call5 (W_laws_szGraph (ha0_0.ext hE8) (show InI 1048576 from by decide) hc10) ?_; clear ha a; rintro v11 w12 ⟨⟨rfl, hI14⟩, hx13⟩ a ha
  replace hB3 := hB3.ext hx13
  have hE15 := Ext.trans hE8 hx13
  refine op_g ha rfl (g_assign rfl) ?_; clear ha a; intro a ha
  refine wpList_nil ?_
  replace ha := ha.sub (σ' := [(1, (.int .i64 a1)), (2, (.pointer (some ⟨b1, 0, none⟩))), (5, (.int .i64 x9))]) ⟨rfl, rfl, rfl, trivial⟩
  refine e_then ?_
  refine wp_seq ?_
  refine wp_seq ?_
  refine wp_region_lit ?_
  refine op_g ha rfl (g_move rfl) ?_; clear ha a; intro a ha
  refine op_g ha rfl (g_lss rfl rfl) ?_; clear ha a; intro a ha
  refine wpList_nil ?_
  replace ha := ha.sub (σ' := [(1, (.int .i64 a1)), (2, (.pointer (some ⟨b1, 0, none⟩))), (13, (.bool (decide (x9 < 0))))]) ⟨rfl, rfl, rfl, trivial⟩
  refine e_then ?_
  refine c_cond (x9 < 0) ha rfl (decide_eq_true_iff) (fun hp16 => ?_) (fun hp16 => ?_)
  · replace hF := if_t hp16 hF
    refine wp_seq ?_
    refine wp_region_lit ?_
    refine op_g ha rfl (g_assign rfl) ?_; clear ha a; intro a ha
    refine wpList_nil ?_
    replace ha := ha.sub (σ' := [(4, (.bool true))]) ⟨rfl, trivial⟩
    refine e_then ?_
    refine wp_ret ?_
    refine e_then_ret ?_
    obtain rfl := Option.some.inj hF
    exact f_ret1 ha rfl rfl ⟨rfl, hE15⟩
  · replace hF := if_f hp16 hF
    refine wp_skip ?_
    refine e_then ?_
    refine wp_seq ?_
    refine wp_region_lit ?_
    refine op_g ha rfl (g_loadA (cs := [va0_0]) Try.isAgg24 Try.sizeOf24 rfl (by simp) hB3.all) ?_; clear ha a; intro a ha
    obtain ⟨x17, hc18, hF⟩ := cal_some hF
    refine o_call ha rfl rfl Try.call7 (W_laws_toGraph (ha0_0.ext hE15) hc18) ?_; clear ha a; rintro v19 w20 ⟨u22, b23, fs27, rfl, h24, z25, zf28, nd29, hx21⟩ a ha
    have q30 := Nq.new hB3.fpb z25
    have q31 := Nq.madeF z25 zf28 hB3.bi
    have q32 := Nf.new hB3.fpb zf28
    replace hB3 := hB3.ext hx21
    have hE33 := Ext.trans hE15 hx21
    have q34 := Zn.upD z25 hE15
    have q35 := zf_up zf28 hE15
    refine op_g ha rfl (g_move rfl) ?_; clear ha a; intro a ha
    obtain ⟨fp36, hro37, hs38⟩ := h24.roF
    obtain ⟨x39, hc40, hF⟩ := cal_some hF
    refine o_call ha rfl rfl Try.call14 (W_spec_ColourWays hro37 ha1 hc40) ?_; clear ha a; rintro v41 w42 ⟨⟨rfl, hI44⟩, hx43⟩ a ha
    replace hB3 := hB3.ext hx43
    replace h24 := h24.ext hx43
    have hE45 := Ext.trans hE33 hx43
    refine op_g ha rfl (g_assign rfl) ?_; clear ha a; intro a ha
    refine wpList_nil ?_
    replace ha := ha.sub (σ' := [(1, (.int .i64 a1)), (2, (.pointer (some ⟨b1, 0, none⟩))), (6, (.int .i64 x39))]) ⟨rfl, rfl, rfl, trivial⟩
    refine e_then ?_
    refine wp_seq ?_
    refine wp_region_lit ?_
    refine op_g ha rfl (g_loadA (cs := [va0_0]) Try.isAgg24 Try.sizeOf24 rfl (by simp) hB3.all) ?_; clear ha a; intro a ha
    obtain ⟨x46, hc47, hF⟩ := cal_some hF
    refine o_call ha rfl rfl Try.call7 (W_laws_toGraph (ha0_0.ext hE45) hc47) ?_; clear ha a; rintro v48 w49 ⟨u51, b52, fs56, rfl, h53, z54, zf57, nd58, hx50⟩ a ha
    have q59 := Nq.new hB3.fpb z54
    have q60 := Nq.madeF z54 zf57 hB3.bi
    have q61 := Nf.new hB3.fpb zf57
    replace hB3 := hB3.ext hx50
    have hE62 := Ext.trans hE45 hx50
    have q63 := Zn.upD z54 hE45
    have q64 := zf_up zf57 hE45
    refine o_alloc (cs := [(.slice none 0 0)]) ha rfl Try.zeroValue28 rfl ?_; clear ha a; intro b65 w66 hB67 hx68 hlo69 a ha
    have q70 := Zn.one hlo69
    have q71 := Nq.new hB3.fpb q70
    have q72 := Nq.made1 hlo69 hB3.bi
    have q73 := Nq.new h53.fpb q70
    have q74 := Nq.made1 hlo69 h53.blt
    have q75 := Zn.upD q70 hE62
    replace hB3 := hB3.ext hx68
    replace h53 := h53.ext hx68
    have hE76 := Ext.trans hE62 hx68
    refine o_storeA (vs := [u51]) ha hB67 Try.sizeOf28 rfl rfl (by intro c hc; simp only [List.mem_cons, List.not_mem_nil, or_false] at hc; rcases hc with hc <;> subst hc <;> first | rfl | exact h53.oneC) rfl ?_; intro w77 hB78 hc79
    replace hc79 := hc79.bl
    replace hB78 : Bx w77 b65 [u51] 28 := hB78
    replace hB3 := hB3.nq hc79 q71
    replace h53 := h53.nq hc79 q73
    have hE80 := Ext.then hE76 hc79 (Zn.bl q75)
    refine wpList_nil ?_
    replace ha := ha.sub (σ' := [(1, (.int .i64 a1)), (2, (.pointer (some ⟨b1, 0, none⟩))), (6, (.int .i64 x39)), (7, (.pointer (some ⟨b65, 0, none⟩)))]) ⟨rfl, rfl, rfl, rfl, trivial⟩
    refine e_then ?_
    refine wp_seq ?_
    refine wp_region_lit ?_
    refine op_g ha rfl (g_loadA (cs := [u51]) Try.isAgg28 Try.sizeOf28 rfl (by simp) hB78.all) ?_; clear ha a; intro a ha
    refine op_g ha rfl (g_move rfl) ?_; clear ha a; intro a ha
    obtain ⟨fp81, hro82, hs83⟩ := h53.roF
    obtain ⟨x84, hc85, hF⟩ := cal_some hF
    refine o_call ha rfl rfl Try.call15 (W_impl_ColourWays hro82 ha1 hc85) ?_; clear ha a; rintro v86 w87 ⟨⟨rfl, hI89⟩, hx88⟩ a ha
    replace hB3 := hB3.ext hx88
    replace h53 := h53.ext hx88
    replace hB78 := hB78.ext hx88
    have hE90 := Ext.trans hE80 hx88
    refine op_g ha rfl (g_assign rfl) ?_; clear ha a; intro a ha
    refine wpList_nil ?_
    replace ha := ha.sub (σ' := [(2, (.pointer (some ⟨b1, 0, none⟩))), (6, (.int .i64 x39)), (7, (.pointer (some ⟨b65, 0, none⟩))), (8, (.int .i64 x84))]) ⟨rfl, rfl, rfl, rfl, trivial⟩
    refine e_then ?_
    refine wp_seq ?_
    refine wp_seq ?_
    refine wp_region_lit ?_
    refine op_g ha rfl (g_move rfl) ?_; clear ha a; intro a ha
    refine op_g ha rfl (g_move rfl) ?_; clear ha a; intro a ha
    refine op_g ha rfl (g_neq rfl rfl) ?_; clear ha a; intro a ha
    refine wpList_nil ?_
    replace ha := ha.sub (σ' := [(2, (.pointer (some ⟨b1, 0, none⟩))), (7, (.pointer (some ⟨b65, 0, none⟩))), (25, (.bool (decide (x84 ≠ x39))))]) ⟨rfl, rfl, rfl, trivial⟩
    refine e_then ?_
    refine c_cond (x84 ≠ x39) ha rfl (decide_eq_true_iff) (fun hp91 => ?_) (fun hp91 => ?_)
    · replace hF := if_t hp91 hF
      refine wp_seq ?_
      refine wp_region_lit ?_
      refine op_g ha rfl (g_assign rfl) ?_; clear ha a; intro a ha
      refine wpList_nil ?_
      replace ha := ha.sub (σ' := [(4, (.bool false))]) ⟨rfl, trivial⟩
      refine e_then ?_
      refine wp_ret ?_
      refine e_then_ret ?_
      obtain rfl := Option.some.inj hF
      exact f_ret1 ha rfl rfl ⟨rfl, hE90⟩
    · replace hF := if_f hp91 hF
      refine wp_skip ?_
      refine e_then ?_
      refine wp_seq ?_
      refine wp_seq ?_
      refine d_region 5 hmix ?_
      refine u_g 0 rfl (by kernel_rfl) (want0 _) ha rfl (g_loadA (cs := [u51]) Try.isAgg28 Try.sizeOf28 rfl (by simp) hB78.all) ?_; clear ha a; intro a ha
      refine u_g 1 rfl (by kernel_rfl) (want0 _) ha rfl (g_loadA (cs := [va0_0]) Try.isAgg24 Try.sizeOf24 rfl (by simp) hB3.all) ?_; clear ha a; intro a ha
      refine u_only 2 rfl (by kernel_rfl) ?_; intro w92 hx93
      replace hB3 := hB3.ext hx93
      replace h53 := h53.ext hx93
      replace hB78 := hB78.ext hx93
      have hE94 := Ext.trans hE90 hx93
      obtain ⟨x95, hc96, hF⟩ := cal_some hF
      refine o_call ha rfl rfl Try.call7 (W_laws_toGraph (ha0_0.ext hE94) hc96) ?_; clear ha a; rintro v97 w98 ⟨u100, b101, fs105, rfl, h102, z103, zf106, nd107, hx99⟩ a ha
      have q108 := Nq.new hB3.fpb z103
      have q109 := Nq.madeF z103 zf106 hB3.bi
      have q110 := Nq.new h53.fpb z103
      have q111 := Nq.madeF z103 zf106 h53.blt
      have q112 := Nq.new hB78.fpb z103
      have q113 := Nq.madeF z103 zf106 hB78.bi
      have q114 := Nf.new hB3.fpb zf106
      have q115 := Nf.new h53.fpb zf106
      have q116 := Nf.old z103 zf106 h53.bnd
      have q117 := Nf.new hB78.fpb zf106
      replace hB3 := hB3.ext hx99
      replace h53 := h53.ext hx99
      replace hB78 := hB78.ext hx99
      have hE118 := Ext.trans hE94 hx99
      have q119 := Zn.upD z103 hE94
      have q120 := zf_up zf106 hE94
      refine wpList_nil (e_sq ?_)
      refine ⟨fun _ => hx99, ?_⟩
      obtain ⟨fp123, hro124, hs125⟩ := h53.roF
      obtain ⟨fp126, hro127, hs128⟩ := h102.roF
      obtain ⟨x129, hc130, hF⟩ := cal_some hF
      refine u_call (.bool x129) 3 rfl (by kernel_rfl) (want0 _) ha rfl rfl Try.call10 (fun w122 hx121 => W_laws_eqGraph (hro124.ext hx121) (hro127.ext hx121) hc130) (fun _ _ _ h => ⟨h.1, h.2⟩) ?_; clear ha a; intro a ha
      refine u_g 4 rfl (by kernel_rfl) (want0 _) ha rfl (g_not rfl) ?_; clear ha a; intro a ha
      refine u_done (by kernel_rfl) ?_; intro w131 hx132
      replace hB3 := hB3.ext hx132
      replace h53 := h53.ext hx132
      replace hB78 := hB78.ext hx132
      replace h102 := h102.ext hx132
      have hE133 := Ext.trans hE118 hx132
      replace ha := ha.sub (σ' := [(30, (.bool (!x129)))]) ⟨rfl, trivial⟩
      refine e_then ?_
      refine c_cond (¬ (x129 = true)) ha rfl (n_iff (Iff.rfl)) (fun hp134 => ?_) (fun hp134 => ?_)
      · replace hF := if_t hp134 hF
        refine wp_seq ?_
        refine wp_region_lit ?_
        refine op_g ha rfl (g_assign rfl) ?_; clear ha a; intro a ha
        refine wpList_nil ?_
        replace ha := ha.sub (σ' := [(4, (.bool false))]) ⟨rfl, trivial⟩
        refine e_then ?_
        refine wp_ret ?_
        refine e_then_ret ?_
        obtain rfl := Option.some.inj hF
        exact f_ret1 ha rfl rfl ⟨rfl, hE133⟩
      · replace hF := if_f hp134 hF
        refine wp_skip ?_
        refine e_then ?_
        refine wp_seq ?_
        refine wp_region_lit ?_
        refine op_g ha rfl (g_assign rfl) ?_; clear ha a; intro a ha
        refine wpList_nil ?_
        replace ha := ha.sub (σ' := [(4, (.bool true))]) ⟨rfl, trivial⟩
        refine e_then ?_
        refine wp_ret ?_
        obtain rfl := Option.some.inj hF
        exact f_ret1 ha rfl rfl ⟨rfl, hE133⟩
end Go.Proofs.Ytgikmgceiiahpac
