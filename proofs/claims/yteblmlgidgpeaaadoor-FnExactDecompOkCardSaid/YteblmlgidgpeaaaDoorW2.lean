/- Walks, printed by gen.py. -/
import Derived.Test.YteblmlgidgpeaaaDoorF
import Derived.Test.YteblmlgidgpeaaaDoorW1
import Derived.Test.YteblmlgidgpeaaaDoorProg
import Derived.KernelRfl
set_option maxRecDepth 100000
namespace Go.Proofs.YteblmlgidgpeaaaDoor
open Go Go.RowKit

set_option maxHeartbeats 2000000 in
theorem W_spec_l9With {W : World} {va0_0 : Value} {fa0_0 : List Nat} {a0_0 : (List (List Int))} (ha0_0 : Ro (Rp.sl 2 Rp.int) W fa0_0 va0_0 a0_0) {va0_1 : Value} {fa0_1 : List Nat} {a0_1 : (List (List Int))} (ha0_1 : Ro (Rp.sl 2 Rp.int) W fa0_1 va0_1 a0_1) {a1 : Int} (ha1 : InI a1) {r : (List Int)} (hF : F_spec_l9With a0_0 a0_1 a1 = some r) :
    Calls Tryd.prog 34 [.agg #[va0_0, va0_1], .int .i64 a1].toArray W (Ret fun u w' => ∃ (b_u : Int), Ow Rp.int 2 true w' [] b_u u r ∧ Zn W b_u ∧ Ext W w') := by
  refine f_enter Tryd.func34 rfl Tryd.ntmps34 rfl ?_
  intro a ha
  replace ha : Fr 27 [(0, (.agg #[va0_0, va0_1])), (1, (.int .i64 a1))] a := ha
  have hE : Chg [] W W := Chg.refl _ _
  unfold F_spec_l9With at hF
  refine wp_seq ?_
  refine wp_region_lit ?_
  refine o_box ha rfl rfl rfl ?_; clear ha a; intro b1 w2 hB3 hx4 hlo5 a ha
  have q6 := Zn.one hlo5
  have q7 := Zn.upD q6 hE
  have hE8 := Ext.trans hE hx4
  refine op_g ha rfl (g_assign rfl) ?_; clear ha a; intro a ha
  refine wpList_nil ?_
  replace ha := ha.sub (σ' := [(1, (.int .i64 a1)), (2, (.pointer (some ⟨b1, 0, none⟩)))]) ⟨rfl, rfl, trivial⟩
  refine e_then ?_
  refine wp_seq ?_
  refine wp_region_lit ?_
  refine o_lit0 Rp.int ha rfl sl45 ?_; clear ha a; intro v9 w10 h11 hx12 a ha
  obtain ⟨b14, hb14⟩ : ∃ b : Int, b = w2.heap.size := ⟨_, rfl⟩; rw [← hb14] at h11
  have q15 := zn_of hb14
  have q16 := Nq.new hB3.fpb q15
  have q17 := Nq.madeO q15 hB3.bi
  have q18 := Zn.upD q15 hE8
  replace hB3 := hB3.ext hx12
  have hE19 := Ext.trans hE8 hx12
  refine op_g ha rfl (g_assign rfl) ?_; clear ha a; intro a ha
  refine wpList_nil ?_
  replace ha := ha.sub (σ' := [(1, (.int .i64 a1)), (2, (.pointer (some ⟨b1, 0, none⟩))), (5, v9)]) ⟨rfl, rfl, rfl, trivial⟩
  refine e_then ?_
  refine wp_seq ?_
  refine wp_seq ?_
  refine wp_region_lit ?_
  refine op_g ha rfl (g_assign rfl) ?_; clear ha a; intro a ha
  refine wpList_nil ?_
  replace ha := ha.sub (σ' := [(1, (.int .i64 a1)), (2, (.pointer (some ⟨b1, 0, none⟩))), (5, v9), (6, (.int .i64 0))]) ⟨rfl, rfl, rfl, rfl, trivial⟩
  refine e_then ?_
  obtain ⟨o182, ho183, hK184⟩ := bnd_some hF
  obtain ⟨n185, hn186⟩ := lp_some ho183; clear ho183
  refine c_loop (fun a w => ∃ (l179 : (List Int)) (v180 : Value) (b181 : Int), Fr 27 [(5, v180)] a ∧ Chg [] W w ∧ Ow Rp.int 2 true w [] b181 v180 l179 ∧ Zn W b181 ∧ o182 = .inl l179) (fun n a w => ∃ (l101 : (List Int)) (i104 : Int) (v102 : Value) (b103 : Int), Fr 27 [(1, (.int .i64 a1)), (2, (.pointer (some ⟨b1, 0, none⟩))), (5, v102), (6, (.int .i64 i104))] a ∧ Chg [] W w ∧ InI i104 ∧ Bx w b1 [va0_0, va0_1] 32 ∧ Zn W (b1 : Int) ∧ Ow Rp.int 2 true w [] b103 v102 l101 ∧ Zn W b103 ∧ Nq ([b1]) b103 ∧ Nq (bl b103 ++ []) (b1 : Int) ∧ lpN (fun s => F_spec_l9With_l1 a0_0 a1 s.1 s.2) n (l101, i104) = some o182) n185 ⟨([] : (List Int)), 0, v9, b14, ha.sub ⟨rfl, rfl, rfl, rfl, trivial⟩, hE19, (show InI 0 from by decide), hB3, q7, h11, q18, q16, q17, hn186⟩ ?_ ?_
  · rintro m190 a w95 ⟨l101, i104, v102, b103, ha, hE108, hI105, hB96, z97, h99, z100, q106, q107, hF⟩
    cases m190 with
    | zero => exact (lpN_zero hF).elim
    | succ m190 =>
      obtain ⟨z189, hF, hN188⟩ := lpN_succ hF
      have hF : F_spec_l9With_l1 a0_0 a1 l101 i104 = some z189 := hF; unfold F_spec_l9With_l1 at hF
      refine wp_seq ?_
      refine wp_seq ?_
      refine wp_region_lit ?_
      refine op_g ha rfl (g_move rfl) ?_; clear ha a; intro a ha
      refine op_g ha rfl (g_field0 st32_0 rfl) ?_; clear ha a; intro a ha
      refine op_g ha rfl (g_load Tryd.isAgg22 rfl (hB96.cell rfl)) ?_; clear ha a; intro a ha
      refine op_g ha rfl (g_lenR sl22.und ha0_0 rfl) ?_; clear ha a; intro a ha
      refine op_g ha rfl (g_lss rfl rfl) ?_; clear ha a; intro a ha
      refine wpList_nil ?_
      replace ha := ha.sub (σ' := [(1, (.int .i64 a1)), (2, (.pointer (some ⟨b1, 0, none⟩))), (5, v102), (6, (.int .i64 i104)), (12, (.bool (decide (i104 < (a0_0.length : Int)))))]) ⟨rfl, rfl, rfl, rfl, rfl, trivial⟩
      refine e_then ?_
      refine c_cond (i104 < (a0_0.length : Int)) ha rfl (decide_eq_true_iff) (fun hp191 => ?_) (fun hp191 => ?_)
      · replace hF := if_t hp191 hF
        refine wp_skip ?_
        refine e_then ?_
        refine wp_seq ?_
        refine wp_block ?_
        refine wp_seq ?_
        refine wp_region_lit ?_
        refine op_g ha rfl (g_field0 st32_0 rfl) ?_; clear ha a; intro a ha
        refine op_g ha rfl (g_load Tryd.isAgg22 rfl (hB96.cell rfl)) ?_; clear ha a; intro a ha
        refine op_g ha rfl (g_move rfl) ?_; clear ha a; intro a ha
        obtain ⟨x192, g193, gx194, hF⟩ := idx_some hF
        obtain ⟨p195, cs196, f197, hf198, hpb199, hat200, hr201, hi202⟩ := ha0_0.at g193 gx194
        obtain ⟨v203, rfl, h204⟩ := hr201
        have h204 : Ro Rp.int W f197 v203 x192 := h204
        refine op_g ha rfl (hi202.gives sl22 rfl rfl) ?_; clear ha a; intro a ha
        refine op_g ha rfl (g_load0 hE108 Tryd.isAgg45 rfl hat200.one) ?_; clear ha a; intro a ha
        refine op_g ha rfl (g_move rfl) ?_; clear ha a; intro a ha
        obtain ⟨x206, hc207, hF⟩ := cal_some hF
        refine o_call ha rfl rfl Tryd.call71 (W_spec_l1Has (h204.ext hE108) ha1 hc207) ?_; clear ha a; rintro v208 w209 ⟨rfl, hx210⟩ a ha
        replace hB96 := hB96.ext hx210
        replace h99 := h99.ext hx210
        have hE211 := Ext.trans hE108 hx210
        refine wpList_nil ?_
        replace ha := ha.sub (σ' := [(1, (.int .i64 a1)), (2, (.pointer (some ⟨b1, 0, none⟩))), (5, v102), (6, (.int .i64 i104)), (21, (.bool x206))]) ⟨rfl, rfl, rfl, rfl, rfl, trivial⟩
        refine e_then ?_
        refine c_cond (x206 = true) ha rfl (Iff.rfl) (fun hp212 => ?_) (fun hp212 => ?_)
        · replace hF := if_t hp212 hF
          refine wp_region_lit ?_
          refine op_g ha rfl (g_move rfl) ?_; clear ha a; intro a ha
          refine op_g ha rfl (g_move rfl) ?_; clear ha a; intro a ha
          refine o_lit1 (o := true) (y := i104) Rp.int ha rfl sl45 rfl rfl rfl ⟨rfl, hI105, rfl⟩ ?_; clear ha a; intro v213 w214 h215 hx216 a ha
          obtain ⟨b218, hb218⟩ : ∃ b : Int, b = w209.heap.size := ⟨_, rfl⟩; rw [← hb218] at h215
          have q219 := zn_of hb218
          have q220 := Nq.new hB96.fpb q219
          have q221 := Nq.madeO q219 hB96.bi
          have q222 := Nq.new h99.fpb q219
          have q223 := Nq.madeO q219 h99.blt
          have q224 := Zn.upD q219 hE211
          replace hB96 := hB96.ext hx216
          replace h99 := h99.ext hx216
          have hE225 := Ext.trans hE211 hx216
          obtain ⟨hl226, hF⟩ := app_some hF
          refine o_append ha rfl sl45 rfl rfl rfl h99 h215.src (Nq.nil _) hl226 ?_; clear ha a; intro v227 w228 b229 h230 hc231 hb232 a ha
          replace h230 : Ow Rp.int 2 true w228 [] b229 v227 _ := h230
          have q234 := Nq.appY q106 hB96.fpb hb232
          have q235 := Nq.appX q107 (Nq.nil _) hb232 hB96.bi
          have q236 := Nq.appY q223 h215.fpb hb232
          have q237 := Nq.appX q222 (Nq.nil _) hb232 h215.blt
          have q238 := Zn.appD z100 hb232 hE225
          replace hB96 := hB96.nq hc231 q106
          replace h215 := h215.nq hc231 q223
          have hE239 := Ext.then hE225 hc231 (Zn.bl z100)
          refine op_g ha rfl (g_assign rfl) ?_; clear ha a; intro a ha
          refine wpList_nil ?_
          replace ha := ha.sub (σ' := [(1, (.int .i64 a1)), (2, (.pointer (some ⟨b1, 0, none⟩))), (5, v227), (6, (.int .i64 i104))]) ⟨rfl, rfl, rfl, rfl, trivial⟩
          refine e_blk ?_
          refine e_then ?_
          refine wp_region_lit ?_
          refine op_g ha rfl (g_move rfl) ?_; clear ha a; intro a ha
          obtain ⟨hI240, hF⟩ := ck_some hF
          refine op_g ha rfl (g_add rfl rfl hI240) ?_; clear ha a; intro a ha
          refine op_g ha rfl (g_assign rfl) ?_; clear ha a; intro a ha
          refine wpList_nil ?_
          replace ha := ha.sub (σ' := [(1, (.int .i64 a1)), (2, (.pointer (some ⟨b1, 0, none⟩))), (5, v227), (6, (.int .i64 (i104 + 1)))]) ⟨rfl, rfl, rfl, rfl, trivial⟩
          refine e_lq ?_
          obtain rfl := Option.some.inj hF
          exact ⟨_, Nat.lt_succ_self _, (l101 ++ ([i104])), i104 + 1, v227, b229, ha.sub ⟨rfl, rfl, rfl, rfl, trivial⟩, hE239, hI240, hB96, z97, h230, q238, q234, q235, hN188⟩
        · replace hF := if_f hp212 hF
          refine wp_skip ?_
          refine e_blk ?_
          refine e_then ?_
          refine wp_region_lit ?_
          refine op_g ha rfl (g_move rfl) ?_; clear ha a; intro a ha
          obtain ⟨hI242, hF⟩ := ck_some hF
          refine op_g ha rfl (g_add rfl rfl hI242) ?_; clear ha a; intro a ha
          refine op_g ha rfl (g_assign rfl) ?_; clear ha a; intro a ha
          refine wpList_nil ?_
          replace ha := ha.sub (σ' := [(1, (.int .i64 a1)), (2, (.pointer (some ⟨b1, 0, none⟩))), (5, v102), (6, (.int .i64 (i104 + 1)))]) ⟨rfl, rfl, rfl, rfl, trivial⟩
          refine e_lq ?_
          obtain rfl := Option.some.inj hF
          exact ⟨_, Nat.lt_succ_self _, l101, i104 + 1, v102, b103, ha.sub ⟨rfl, rfl, rfl, rfl, trivial⟩, hE211, hI242, hB96, z97, h99, z100, q106, q107, hN188⟩
      · replace hF := if_f hp191 hF
        refine wp_exit ?_
        refine e_then_exit ?_
        refine e_lq_eq ?_
        obtain rfl := Option.some.inj hF
        exact ⟨l101, v102, b103, ha.sub ⟨rfl, trivial⟩, hE108, h99, z100, (LK_inr hN188).symm⟩
  · rintro a w175 ⟨l179, v180, b181, ha, hE187, h177, z178, rfl⟩
    have hF : F_spec_l9With_k2 l179 = some _ := hK184; clear hK184; unfold F_spec_l9With_k2 at hF
    refine e_then ?_
    refine wp_seq ?_
    refine wp_region_lit ?_
    refine op_g ha rfl (g_move rfl) ?_; clear ha a; intro a ha
    refine op_g ha rfl (g_assign rfl) ?_; clear ha a; intro a ha
    refine wpList_nil ?_
    replace ha := ha.sub (σ' := [(4, v180)]) ⟨rfl, trivial⟩
    refine e_then ?_
    refine wp_ret ?_
    obtain rfl := Option.some.inj hF
    exact f_ret1 ha rfl rfl ⟨_, h177, z178, hE187⟩
set_option maxHeartbeats 2000000 in
theorem W_spec_DecompOk {W : World} {va0_0 : Value} {fa0_0 : List Nat} {a0_0 : (List (List Int))} (ha0_0 : Ro (Rp.sl 2 Rp.int) W fa0_0 va0_0 a0_0) {va1_0 : Value} {fa1_0 : List Nat} {a1_0 : (List (List Int))} (ha1_0 : Ro (Rp.sl 2 Rp.int) W fa1_0 va1_0 a1_0) {va1_1 : Value} {fa1_1 : List Nat} {a1_1 : (List (List Int))} (ha1_1 : Ro (Rp.sl 2 Rp.int) W fa1_1 va1_1 a1_1) {r : Bool} (hF : F_spec_DecompOk a0_0 a1_0 a1_1 = some r) :
    Calls Tryd.prog 7 [.agg #[va0_0], .agg #[va1_0, va1_1]].toArray W (Ret fun u w' => u = .bool r ∧ Ext W w') := by
  refine f_enter Tryd.func7 rfl Tryd.ntmps7 rfl ?_
  intro a ha
  replace ha : Fr 69 [(0, (.agg #[va0_0])), (1, (.agg #[va1_0, va1_1]))] a := ha
  have hE : Chg [] W W := Chg.refl _ _
  unfold F_spec_DecompOk at hF
  refine wp_seq ?_
  refine wp_region_lit ?_
  refine o_box ha rfl rfl rfl ?_; clear ha a; intro b1 w2 hB3 hx4 hlo5 a ha
  have q6 := Zn.one hlo5
  have q7 := Zn.upD q6 hE
  have hE8 := Ext.trans hE hx4
  refine o_box ha rfl rfl rfl ?_; clear ha a; intro b9 w10 hB11 hx12 hlo13 a ha
  have q14 := Zn.one hlo13
  have q15 := Nq.new hB3.fpb q14
  have q16 := Nq.made1 hlo13 hB3.bi
  have q17 := Zn.upD q14 hE8
  replace hB3 := hB3.ext hx12
  have hE18 := Ext.trans hE8 hx12
  refine op_g ha rfl (g_assign rfl) ?_; clear ha a; intro a ha
  refine wpList_nil ?_
  replace ha := ha.sub (σ' := [(2, (.pointer (some ⟨b1, 0, none⟩))), (3, (.pointer (some ⟨b9, 0, none⟩)))]) ⟨rfl, rfl, trivial⟩
  refine e_then ?_
  refine wp_seq ?_
  refine wp_seq ?_
  refine wp_region_lit ?_
  refine op_g ha rfl (g_loadA (cs := [va0_0]) Tryd.isAgg30 Tryd.sizeOf30 rfl (by simp) hB3.all) ?_; clear ha a; intro a ha
  obtain ⟨x33, hc34, hF⟩ := cal_some hF
  refine o_call ha rfl rfl Tryd.call28 (W_spec_GraphOk (ha0_0.ext hE18) hc34) ?_; clear ha a; rintro v35 w36 ⟨rfl, hx37⟩ a ha
  replace hB3 := hB3.ext hx37
  replace hB11 := hB11.ext hx37
  have hE38 := Ext.trans hE18 hx37
  refine op_g ha rfl (g_not rfl) ?_; clear ha a; intro a ha
  refine op_g ha rfl (g_move rfl) ?_; clear ha a; intro a ha
  by_cases hp39 : ¬ (x33 = true)
  · replace hF := if_t hp39 hF
    rw [show (!x33) = true from (n_iff (Iff.rfl)).2 hp39] at ha
    refine op_unwant ha rfl (yields ha rfl rfl) rfl ?_; clear ha a; intro a ha
    refine op_unwant ha rfl (yields ha rfl rfl) rfl ?_; clear ha a; intro a ha
    refine op_unwant ha rfl (yields ha rfl rfl) rfl ?_; clear ha a; intro a ha
    refine op_g ha rfl (g_pick rfl rfl) ?_; clear ha a; intro a ha
    refine wpList_nil ?_
    replace ha := ha.sub (σ' := [(2, (.pointer (some ⟨b1, 0, none⟩))), (3, (.pointer (some ⟨b9, 0, none⟩))), (17, (.bool true))]) ⟨rfl, rfl, rfl, trivial⟩
    refine e_then ?_
    refine c_true ha rfl ?_
    refine wp_seq ?_
    refine wp_region_lit ?_
    refine op_g ha rfl (g_assign rfl) ?_; clear ha a; intro a ha
    refine wpList_nil ?_
    replace ha := ha.sub (σ' := [(4, (.bool false))]) ⟨rfl, trivial⟩
    refine e_then ?_
    refine wp_ret ?_
    refine e_then_ret ?_
    obtain rfl := Option.some.inj hF
    exact f_ret1 ha rfl rfl ⟨rfl, hE38⟩
  · replace hF := if_f hp39 hF
    rw [show (!x33) = false from b_false (n_iff (Iff.rfl)) hp39] at ha
    refine op_want (yields ha rfl rfl) ?_
    refine op_g ha rfl (g_loadA (cs := [va1_0, va1_1]) Tryd.isAgg32 Tryd.sizeOf32 rfl (by simp) hB11.all) ?_; clear ha a; intro a ha
    refine op_want (yields ha rfl rfl) ?_
    obtain ⟨x40, hc41, hF⟩ := cal_some hF
    refine o_call ha rfl rfl Tryd.call29 (W_spec_l9Tree (ha1_0.ext hE38) (ha1_1.ext hE38) hc41) ?_; clear ha a; rintro v42 w43 ⟨rfl, hx44⟩ a ha
    replace hB3 := hB3.ext hx44
    replace hB11 := hB11.ext hx44
    have hE45 := Ext.trans hE38 hx44
    refine op_want (yields ha rfl rfl) ?_
    refine op_g ha rfl (g_not rfl) ?_; clear ha a; intro a ha
    refine op_g ha rfl (g_pick rfl rfl) ?_; clear ha a; intro a ha
    refine wpList_nil ?_
    replace ha := ha.sub (σ' := [(2, (.pointer (some ⟨b1, 0, none⟩))), (3, (.pointer (some ⟨b9, 0, none⟩))), (17, (.bool (!x40)))]) ⟨rfl, rfl, rfl, trivial⟩
    refine e_then ?_
    refine c_cond (¬ (x40 = true)) ha rfl (n_iff (Iff.rfl)) (fun hp46 => ?_) (fun hp46 => ?_)
    · replace hF := if_t hp46 hF
      refine wp_seq ?_
      refine wp_region_lit ?_
      refine op_g ha rfl (g_assign rfl) ?_; clear ha a; intro a ha
      refine wpList_nil ?_
      replace ha := ha.sub (σ' := [(4, (.bool false))]) ⟨rfl, trivial⟩
      refine e_then ?_
      refine wp_ret ?_
      refine e_then_ret ?_
      obtain rfl := Option.some.inj hF
      exact f_ret1 ha rfl rfl ⟨rfl, hE45⟩
    · replace hF := if_f hp46 hF
      refine wp_skip ?_
      refine e_then ?_
      refine wp_seq ?_
      refine wp_seq ?_
      refine wp_region_lit ?_
      refine op_g ha rfl (g_assign rfl) ?_; clear ha a; intro a ha
      refine wpList_nil ?_
      replace ha := ha.sub (σ' := [(2, (.pointer (some ⟨b1, 0, none⟩))), (3, (.pointer (some ⟨b9, 0, none⟩))), (5, (.int .i64 0))]) ⟨rfl, rfl, rfl, trivial⟩
      refine e_then ?_
      obtain ⟨o150, ho151, hK152⟩ := bnd_some hF
      obtain ⟨n153, hn154⟩ := lp_some ho151; clear ho151
      refine c_loop (fun a w => Fr 69 [(2, (.pointer (some ⟨b1, 0, none⟩))), (3, (.pointer (some ⟨b9, 0, none⟩)))] a ∧ Chg [] W w ∧ Bx w b1 [va0_0] 30 ∧ Zn W (b1 : Int) ∧ Bx w b9 [va1_0, va1_1] 32 ∧ Zn W (b9 : Int) ∧ Nq ([b1]) (b9 : Int) ∧ Nq ([b9]) (b1 : Int) ∧ o150 = .inl ()) (fun n a w => ∃ (i99 : Int), Fr 69 [(2, (.pointer (some ⟨b1, 0, none⟩))), (3, (.pointer (some ⟨b9, 0, none⟩))), (5, (.int .i64 i99))] a ∧ Chg [] W w ∧ InI i99 ∧ Bx w b1 [va0_0] 30 ∧ Zn W (b1 : Int) ∧ Bx w b9 [va1_0, va1_1] 32 ∧ Zn W (b9 : Int) ∧ Nq ([b1]) (b9 : Int) ∧ Nq ([b9]) (b1 : Int) ∧ lpN (fun s => F_spec_DecompOk_l1 a0_0 a1_0 s) n i99 = some o150) n153 ⟨0, ha.sub ⟨rfl, rfl, rfl, trivial⟩, hE45, (show InI 0 from by decide), hB3, q7, hB11, q17, q15, q16, hn154⟩ ?_ ?_
      · rintro m158 a w94 ⟨i99, ha, hE103, hI100, hB95, z96, hB97, z98, q101, q102, hF⟩
        cases m158 with
        | zero => exact (lpN_zero hF).elim
        | succ m158 =>
          obtain ⟨z157, hF, hN156⟩ := lpN_succ hF
          have hF : F_spec_DecompOk_l1 a0_0 a1_0 i99 = some z157 := hF; unfold F_spec_DecompOk_l1 at hF
          refine wp_seq ?_
          refine wp_seq ?_
          refine wp_region_lit ?_
          refine op_g ha rfl (g_move rfl) ?_; clear ha a; intro a ha
          refine op_g ha rfl (g_field0 st32_0 rfl) ?_; clear ha a; intro a ha
          refine op_g ha rfl (g_load Tryd.isAgg22 rfl (hB97.cell rfl)) ?_; clear ha a; intro a ha
          refine op_g ha rfl (g_lenR sl22.und ha1_0 rfl) ?_; clear ha a; intro a ha
          refine op_g ha rfl (g_lss rfl rfl) ?_; clear ha a; intro a ha
          refine wpList_nil ?_
          replace ha := ha.sub (σ' := [(2, (.pointer (some ⟨b1, 0, none⟩))), (3, (.pointer (some ⟨b9, 0, none⟩))), (5, (.int .i64 i99)), (22, (.bool (decide (i99 < (a1_0.length : Int)))))]) ⟨rfl, rfl, rfl, rfl, trivial⟩
          refine e_then ?_
          refine c_cond (i99 < (a1_0.length : Int)) ha rfl (decide_eq_true_iff) (fun hp159 => ?_) (fun hp159 => ?_)
          · replace hF := if_t hp159 hF
            refine wp_skip ?_
            refine e_then ?_
            refine wp_seq ?_
            refine wp_block ?_
            refine wp_seq ?_
            refine d_quiet hmix (by kernel_rfl) ?_
            refine q_g ha rfl (g_field0 st32_0 rfl) ?_; clear ha a; intro a ha
            refine q_g ha rfl (g_load Tryd.isAgg22 rfl (hB97.cell rfl)) ?_; clear ha a; intro a ha
            refine q_g ha rfl (g_move rfl) ?_; clear ha a; intro a ha
            obtain ⟨x160, g161, gx162, hF⟩ := idx_some hF
            obtain ⟨p163, cs164, f165, hf166, hpb167, hat168, hr169, hi170⟩ := ha1_0.at g161 gx162
            obtain ⟨v171, rfl, h172⟩ := hr169
            have h172 : Ro Rp.int W f165 v171 x160 := h172
            refine q_g ha rfl (hi170.gives sl22 rfl rfl) ?_; clear ha a; intro a ha
            refine q_g ha rfl (g_load0 hE103 Tryd.isAgg45 rfl hat168.one) ?_; clear ha a; intro a ha
            refine q_g ha rfl (g_loadA (cs := [va0_0]) Tryd.isAgg30 Tryd.sizeOf30 rfl (by simp) hB95.all) ?_; clear ha a; intro a ha
            obtain ⟨x176, hc177, hF⟩ := cal_some hF
            refine q_call (.int .i64 x176) ha rfl rfl Tryd.call31 (fun w175 hx174 => W_spec_l1Size (ha0_0.ext (Ext.trans hE103 hx174)) hc177) (fun _ _ _ h => ⟨h.1.1, h.2⟩) ?_; clear ha a; intro a ha
            have hI178 : InI x176 := calls_fact (w := w94) (W_spec_l1Size (ha0_0.ext (Ext.trans hE103 (Chg.refl _ _))) hc177) (fun _ _ h => h.1.2)
            obtain ⟨x181, hc182, hF⟩ := cal_some hF
            refine q_call (.bool x181) ha rfl rfl Tryd.call30 (fun w180 hx179 => W_spec_l1Set (h172.ext (Ext.trans hE103 hx179)) hI178 hc182) (fun _ _ _ h => ⟨h.1, h.2⟩) ?_; clear ha a; intro a ha
            refine q_g ha rfl (g_not rfl) ?_; clear ha a; intro a ha
            refine q_nil ?_; intro w183 hx184
            replace hB95 := hB95.ext hx184
            replace hB97 := hB97.ext hx184
            have hE185 := Ext.trans hE103 hx184
            replace ha := ha.sub (σ' := [(2, (.pointer (some ⟨b1, 0, none⟩))), (3, (.pointer (some ⟨b9, 0, none⟩))), (5, (.int .i64 i99)), (33, (.bool (!x181)))]) ⟨rfl, rfl, rfl, rfl, trivial⟩
            refine e_then ?_
            refine c_cond (¬ (x181 = true)) ha rfl (n_iff (Iff.rfl)) (fun hp186 => ?_) (fun hp186 => ?_)
            · replace hF := if_t hp186 hF
              refine wp_seq ?_
              refine wp_region_lit ?_
              refine op_g ha rfl (g_assign rfl) ?_; clear ha a; intro a ha
              refine wpList_nil ?_
              replace ha := ha.sub (σ' := [(4, (.bool false))]) ⟨rfl, trivial⟩
              refine e_then ?_
              refine wp_ret ?_
              refine e_blk_ret ?_
              refine e_then_ret ?_
              refine e_lq_ret ?_
              refine e_then_ret ?_
              obtain rfl := Option.some.inj hF
              have e187 := LK_inr hN156; subst e187
              have e188 := BK_inr hK152; subst e188
              exact f_ret1 ha rfl rfl ⟨rfl, hE185⟩
            · replace hF := if_f hp186 hF
              refine wp_skip ?_
              refine e_blk ?_
              refine e_then ?_
              refine wp_region_lit ?_
              refine op_g ha rfl (g_move rfl) ?_; clear ha a; intro a ha
              obtain ⟨hI189, hF⟩ := ck_some hF
              refine op_g ha rfl (g_add rfl rfl hI189) ?_; clear ha a; intro a ha
              refine op_g ha rfl (g_assign rfl) ?_; clear ha a; intro a ha
              refine wpList_nil ?_
              replace ha := ha.sub (σ' := [(2, (.pointer (some ⟨b1, 0, none⟩))), (3, (.pointer (some ⟨b9, 0, none⟩))), (5, (.int .i64 (i99 + 1)))]) ⟨rfl, rfl, rfl, trivial⟩
              refine e_lq ?_
              obtain rfl := Option.some.inj hF
              exact ⟨_, Nat.lt_succ_self _, i99 + 1, ha.sub ⟨rfl, rfl, rfl, trivial⟩, hE185, hI189, hB95, z96, hB97, z98, q101, q102, hN156⟩
          · replace hF := if_f hp159 hF
            refine wp_exit ?_
            refine e_then_exit ?_
            refine e_lq_eq ?_
            obtain rfl := Option.some.inj hF
            exact ⟨ha.sub ⟨rfl, rfl, trivial⟩, hE103, hB95, z96, hB97, z98, q101, q102, (LK_inr hN156).symm⟩
      · rintro a w143 ⟨ha, hE155, hB144, z145, hB146, z147, q148, q149, rfl⟩
        have hF : F_spec_DecompOk_k2 a0_0 a1_0 a1_1 = some _ := hK152; clear hK152; unfold F_spec_DecompOk_k2 at hF
        refine e_then ?_
        refine wp_seq ?_
        refine wp_region_lit ?_
        refine op_g ha rfl (g_loadA (cs := [va0_0]) Tryd.isAgg30 Tryd.sizeOf30 rfl (by simp) hB144.all) ?_; clear ha a; intro a ha
        obtain ⟨x191, hc192, hF⟩ := cal_some hF
        refine o_call ha rfl rfl Tryd.call32 (W_spec_l1Edges (ha0_0.ext hE155) hc192) ?_; clear ha a; rintro v193 w194 ⟨b196, fs200, h197, z198, zf201, nd202, hx195⟩ a ha
        have q203 := Nq.new hB144.fpb z198
        have q204 := Nq.madeF z198 zf201 hB144.bi
        have q205 := Nq.new hB146.fpb z198
        have q206 := Nq.madeF z198 zf201 hB146.bi
        have q207 := Nf.new hB144.fpb zf201
        have q208 := Nf.new hB146.fpb zf201
        replace hB144 := hB144.ext hx195
        replace hB146 := hB146.ext hx195
        have hE209 := Ext.trans hE155 hx195
        have q210 := Zn.upD z198 hE155
        have q211 := zf_up zf201 hE155
        refine op_g ha rfl (g_assign rfl) ?_; clear ha a; intro a ha
        refine wpList_nil ?_
        replace ha := ha.sub (σ' := [(2, (.pointer (some ⟨b1, 0, none⟩))), (3, (.pointer (some ⟨b9, 0, none⟩))), (6, v193)]) ⟨rfl, rfl, rfl, trivial⟩
        refine e_then ?_
        refine wp_seq ?_
        refine wp_seq ?_
        refine wp_region_lit ?_
        refine op_g ha rfl (g_assign rfl) ?_; clear ha a; intro a ha
        refine wpList_nil ?_
        replace ha := ha.sub (σ' := [(2, (.pointer (some ⟨b1, 0, none⟩))), (3, (.pointer (some ⟨b9, 0, none⟩))), (6, v193), (7, (.int .i64 0))]) ⟨rfl, rfl, rfl, rfl, trivial⟩
        refine e_then ?_
        obtain ⟨o360, ho361, hK362⟩ := bnd_some hF
        obtain ⟨n363, hn364⟩ := lp_some ho361; clear ho361
        refine c_loop (fun a w => Fr 69 [(2, (.pointer (some ⟨b1, 0, none⟩))), (3, (.pointer (some ⟨b9, 0, none⟩)))] a ∧ Chg [] W w ∧ Bx w b1 [va0_0] 30 ∧ Zn W (b1 : Int) ∧ Bx w b9 [va1_0, va1_1] 32 ∧ Zn W (b9 : Int) ∧ Nq ([b1]) (b9 : Int) ∧ Nq ([b9]) (b1 : Int) ∧ o360 = .inl ()) (fun n a w => ∃ (l291 : (List (List Int))) (i294 : Int) (fs288 : List Nat) (v292 : Value) (b293 : Int), Fr 69 [(2, (.pointer (some ⟨b1, 0, none⟩))), (3, (.pointer (some ⟨b9, 0, none⟩))), (6, v292), (7, (.int .i64 i294))] a ∧ Chg [] W w ∧ InI i294 ∧ Bx w b1 [va0_0] 30 ∧ Zn W (b1 : Int) ∧ Bx w b9 [va1_0, va1_1] 32 ∧ Zn W (b9 : Int) ∧ Ow (Rp.sl 2 Rp.int) 45 true w fs288 b293 v292 l291 ∧ Zn W b293 ∧ (∀ k ∈ fs288, W.heap.size ≤ k) ∧ (bl b293 ++ fs288).Nodup ∧ Nq ([b1]) (b9 : Int) ∧ Nq ([b1]) b293 ∧ Nq ([b9]) (b1 : Int) ∧ Nq ([b9]) b293 ∧ Nq (bl b293 ++ fs288) (b1 : Int) ∧ Nq (bl b293 ++ fs288) (b9 : Int) ∧ lpN (fun s => F_spec_DecompOk_l3 a1_0 a1_1 s.1 s.2) n (l291, i294) = some o360) n363 ⟨x191, 0, fs200, v193, b196, ha.sub ⟨rfl, rfl, rfl, rfl, trivial⟩, hE209, (show InI 0 from by decide), hB144, z145, hB146, z147, h197, q210, q211, nd202, q148, q203, q149, q205, q204, q206, hn364⟩ ?_ ?_
        · rintro m368 a w280 ⟨l291, i294, fs288, v292, b293, ha, hE302, hI295, hB281, z282, hB283, z284, h286, z287, zf289, nd290, q296, q297, q298, q299, q300, q301, hF⟩
          cases m368 with
          | zero => exact (lpN_zero hF).elim
          | succ m368 =>
            obtain ⟨z367, hF, hN366⟩ := lpN_succ hF
            have hF : F_spec_DecompOk_l3 a1_0 a1_1 l291 i294 = some z367 := hF; unfold F_spec_DecompOk_l3 at hF
            refine wp_seq ?_
            refine wp_seq ?_
            refine wp_region_lit ?_
            refine op_g ha rfl (g_move rfl) ?_; clear ha a; intro a ha
            refine op_g ha rfl (g_move rfl) ?_; clear ha a; intro a ha
            refine op_g ha rfl (g_lenO sl22.und h286 rfl) ?_; clear ha a; intro a ha
            refine op_g ha rfl (g_lss rfl rfl) ?_; clear ha a; intro a ha
            refine wpList_nil ?_
            replace ha := ha.sub (σ' := [(2, (.pointer (some ⟨b1, 0, none⟩))), (3, (.pointer (some ⟨b9, 0, none⟩))), (6, v292), (7, (.int .i64 i294)), (39, (.bool (decide (i294 < (l291.length : Int)))))]) ⟨rfl, rfl, rfl, rfl, rfl, trivial⟩
            refine e_then ?_
            refine c_cond (i294 < (l291.length : Int)) ha rfl (decide_eq_true_iff) (fun hp369 => ?_) (fun hp369 => ?_)
            · replace hF := if_t hp369 hF
              refine wp_skip ?_
              refine e_then ?_
              refine wp_seq ?_
              refine wp_block ?_
              refine wp_seq ?_
              refine d_quiet hmix (by kernel_rfl) ?_
              refine q_g ha rfl (g_loadA (cs := [va1_0, va1_1]) Tryd.isAgg32 Tryd.sizeOf32 rfl (by simp) hB283.all) ?_; clear ha a; intro a ha
              refine q_g ha rfl (g_move rfl) ?_; clear ha a; intro a ha
              refine q_g ha rfl (g_move rfl) ?_; clear ha a; intro a ha
              obtain ⟨x370, g371, gx372, hF⟩ := idx_some hF
              obtain ⟨p373, cs374, f375, hf376, hpb377, hat378, hr379, hi380⟩ := h286.at g371 gx372
              replace hr379 := (Rp.sl 2 Rp.int).weak hr379
              obtain ⟨v381, rfl, h382⟩ := hr379
              have h382 : Ro Rp.int w280 f375 v381 x370 := h382
              have q384 := Nq.mono q300 (fun k hk => List.mem_append_right (bl b293) (hf376 k hk))
              have q385 := Nq.mono q301 (fun k hk => List.mem_append_right (bl b293) (hf376 k hk))
              have q386 := Nq.mono (Ow.ne h286) hf376
              refine q_g ha rfl (hi380.gives sl22 rfl rfl) ?_; clear ha a; intro a ha
              refine q_g ha rfl (g_load Tryd.isAgg45 rfl hat378.one) ?_; clear ha a; intro a ha
              obtain ⟨x389, hc390, hF⟩ := cal_some hF
              refine q_call (.bool x389) ha rfl rfl Tryd.call33 (fun w388 hx387 => W_spec_l9In (ha1_0.ext (Ext.trans hE302 hx387)) (ha1_1.ext (Ext.trans hE302 hx387)) (h382.ext hx387) hc390) (fun _ _ _ h => ⟨h.1, h.2⟩) ?_; clear ha a; intro a ha
              refine q_g ha rfl (g_not rfl) ?_; clear ha a; intro a ha
              refine q_nil ?_; intro w391 hx392
              replace hB281 := hB281.ext hx392
              replace hB283 := hB283.ext hx392
              replace h286 := h286.ext hx392
              replace h382 := h382.ext hx392
              have hE393 := Ext.trans hE302 hx392
              replace ha := ha.sub (σ' := [(2, (.pointer (some ⟨b1, 0, none⟩))), (3, (.pointer (some ⟨b9, 0, none⟩))), (6, v292), (7, (.int .i64 i294)), (48, (.bool (!x389)))]) ⟨rfl, rfl, rfl, rfl, rfl, trivial⟩
              refine e_then ?_
              refine c_cond (¬ (x389 = true)) ha rfl (n_iff (Iff.rfl)) (fun hp394 => ?_) (fun hp394 => ?_)
              · replace hF := if_t hp394 hF
                refine wp_seq ?_
                refine wp_region_lit ?_
                refine op_g ha rfl (g_assign rfl) ?_; clear ha a; intro a ha
                refine wpList_nil ?_
                replace ha := ha.sub (σ' := [(4, (.bool false))]) ⟨rfl, trivial⟩
                refine e_then ?_
                refine wp_ret ?_
                refine e_blk_ret ?_
                refine e_then_ret ?_
                refine e_lq_ret ?_
                refine e_then_ret ?_
                obtain rfl := Option.some.inj hF
                have e395 := LK_inr hN366; subst e395
                have e396 := BK_inr hK362; subst e396
                exact f_ret1 ha rfl rfl ⟨rfl, hE393⟩
              · replace hF := if_f hp394 hF
                refine wp_skip ?_
                refine e_blk ?_
                refine e_then ?_
                refine wp_region_lit ?_
                refine op_g ha rfl (g_move rfl) ?_; clear ha a; intro a ha
                obtain ⟨hI397, hF⟩ := ck_some hF
                refine op_g ha rfl (g_add rfl rfl hI397) ?_; clear ha a; intro a ha
                refine op_g ha rfl (g_assign rfl) ?_; clear ha a; intro a ha
                refine wpList_nil ?_
                replace ha := ha.sub (σ' := [(2, (.pointer (some ⟨b1, 0, none⟩))), (3, (.pointer (some ⟨b9, 0, none⟩))), (6, v292), (7, (.int .i64 (i294 + 1)))]) ⟨rfl, rfl, rfl, rfl, trivial⟩
                refine e_lq ?_
                obtain rfl := Option.some.inj hF
                exact ⟨_, Nat.lt_succ_self _, l291, i294 + 1, fs288, v292, b293, ha.sub ⟨rfl, rfl, rfl, rfl, trivial⟩, hE393, hI397, hB281, z282, hB283, z284, h286, z287, zf289, nd290, q296, q297, q298, q299, q300, q301, hN366⟩
            · replace hF := if_f hp369 hF
              refine wp_exit ?_
              refine e_then_exit ?_
              refine e_lq_eq ?_
              obtain rfl := Option.some.inj hF
              exact ⟨ha.sub ⟨rfl, rfl, trivial⟩, hE302, hB281, z282, hB283, z284, q296, q298, (LK_inr hN366).symm⟩
        · rintro a w353 ⟨ha, hE365, hB354, z355, hB356, z357, q358, q359, rfl⟩
          have hF : F_spec_DecompOk_k4 a0_0 a1_0 a1_1 = some _ := hK362; clear hK362; unfold F_spec_DecompOk_k4 at hF
          refine e_then ?_
          refine wp_seq ?_
          refine wp_seq ?_
          refine wp_region_lit ?_
          refine op_g ha rfl (g_assign rfl) ?_; clear ha a; intro a ha
          refine wpList_nil ?_
          refine e_then ?_
          obtain ⟨o510, ho511, hK512⟩ := bnd_some hF
          obtain ⟨n513, hn514⟩ := lp_some ho511; clear ho511
          refine c_loop (fun a w => Fr 69 [] a ∧ Chg [] W w ∧ o510 = .inl ()) (fun n a w => ∃ (i458 : Int), Fr 69 [(2, (.pointer (some ⟨b1, 0, none⟩))), (3, (.pointer (some ⟨b9, 0, none⟩))), (8, (.int .i64 i458))] a ∧ Chg [] W w ∧ InI i458 ∧ Bx w b1 [va0_0] 30 ∧ Zn W (b1 : Int) ∧ Bx w b9 [va1_0, va1_1] 32 ∧ Zn W (b9 : Int) ∧ Nq ([b1]) (b9 : Int) ∧ Nq ([b9]) (b1 : Int) ∧ lpN (fun s => F_spec_DecompOk_l5 a0_0 a1_0 a1_1 s) n i458 = some o510) n513 ⟨0, ha.sub ⟨rfl, rfl, rfl, trivial⟩, hE365, (show InI 0 from by decide), hB354, z355, hB356, z357, q358, q359, hn514⟩ ?_ ?_
          · rintro m518 a w453 ⟨i458, ha, hE462, hI459, hB454, z455, hB456, z457, q460, q461, hF⟩
            cases m518 with
            | zero => exact (lpN_zero hF).elim
            | succ m518 =>
              obtain ⟨z517, hF, hN516⟩ := lpN_succ hF
              have hF : F_spec_DecompOk_l5 a0_0 a1_0 a1_1 i458 = some z517 := hF; unfold F_spec_DecompOk_l5 at hF
              refine wp_seq ?_
              refine wp_seq ?_
              refine wp_region_lit ?_
              refine op_g ha rfl (g_move rfl) ?_; clear ha a; intro a ha
              refine op_g ha rfl (g_loadA (cs := [va0_0]) Tryd.isAgg30 Tryd.sizeOf30 rfl (by simp) hB454.all) ?_; clear ha a; intro a ha
              obtain ⟨x519, hc520, hF⟩ := cal_some hF
              refine o_call ha rfl rfl Tryd.call31 (W_spec_l1Size (ha0_0.ext hE462) hc520) ?_; clear ha a; rintro v521 w522 ⟨⟨rfl, hI524⟩, hx523⟩ a ha
              replace hB454 := hB454.ext hx523
              replace hB456 := hB456.ext hx523
              have hE525 := Ext.trans hE462 hx523
              refine op_g ha rfl (g_lss rfl rfl) ?_; clear ha a; intro a ha
              refine wpList_nil ?_
              replace ha := ha.sub (σ' := [(2, (.pointer (some ⟨b1, 0, none⟩))), (3, (.pointer (some ⟨b9, 0, none⟩))), (8, (.int .i64 i458)), (52, (.bool (decide (i458 < x519))))]) ⟨rfl, rfl, rfl, rfl, trivial⟩
              refine e_then ?_
              refine c_cond (i458 < x519) ha rfl (decide_eq_true_iff) (fun hp526 => ?_) (fun hp526 => ?_)
              · replace hF := if_t hp526 hF
                refine wp_skip ?_
                refine e_then ?_
                refine wp_seq ?_
                refine wp_block ?_
                refine wp_seq ?_
                refine wp_region_lit ?_
                refine op_g ha rfl (g_loadA (cs := [va1_0, va1_1]) Tryd.isAgg32 Tryd.sizeOf32 rfl (by simp) hB456.all) ?_; clear ha a; intro a ha
                refine op_g ha rfl (g_move rfl) ?_; clear ha a; intro a ha
                obtain ⟨x527, hc528, hF⟩ := cal_some hF
                refine o_call ha rfl rfl Tryd.call34 (W_spec_l9With (ha1_0.ext hE525) (ha1_1.ext hE525) hI459 hc528) ?_; clear ha a; rintro v529 w530 ⟨b532, h533, z534, hx531⟩ a ha
                have q536 := Nq.new hB454.fpb z534
                have q537 := Nq.madeO z534 hB454.bi
                have q538 := Nq.new hB456.fpb z534
                have q539 := Nq.madeO z534 hB456.bi
                replace hB454 := hB454.ext hx531
                replace hB456 := hB456.ext hx531
                have hE540 := Ext.trans hE525 hx531
                have q541 := Zn.upD z534 hE525
                refine op_g ha rfl (g_assign rfl) ?_; clear ha a; intro a ha
                refine wpList_nil ?_
                replace ha := ha.sub (σ' := [(2, (.pointer (some ⟨b1, 0, none⟩))), (3, (.pointer (some ⟨b9, 0, none⟩))), (8, (.int .i64 i458)), (9, v529)]) ⟨rfl, rfl, rfl, rfl, trivial⟩
                refine e_then ?_
                refine wp_seq ?_
                refine wp_region_lit ?_
                refine op_g ha rfl (g_move rfl) ?_; clear ha a; intro a ha
                refine op_g ha rfl (g_lenO sl45.und h533 rfl) ?_; clear ha a; intro a ha
                refine op_g ha rfl (g_eql rfl rfl) ?_; clear ha a; intro a ha
                refine op_g ha rfl (g_move rfl) ?_; clear ha a; intro a ha
                by_cases hp542 : (x527.length : Int) = 0
                · replace hF := if_t hp542 hF
                  rw [show (decide ((x527.length : Int) = 0)) = true from (decide_eq_true_iff).2 hp542] at ha
                  refine op_unwant ha rfl (yields ha rfl rfl) rfl ?_; clear ha a; intro a ha
                  refine op_unwant ha rfl (yields ha rfl rfl) rfl ?_; clear ha a; intro a ha
                  refine op_unwant ha rfl (yields ha rfl rfl) rfl ?_; clear ha a; intro a ha
                  refine op_unwant ha rfl (yields ha rfl rfl) rfl ?_; clear ha a; intro a ha
                  refine op_unwant ha rfl (yields ha rfl rfl) rfl ?_; clear ha a; intro a ha
                  refine op_unwant ha rfl (yields ha rfl rfl) rfl ?_; clear ha a; intro a ha
                  refine op_g ha rfl (g_pick rfl rfl) ?_; clear ha a; intro a ha
                  refine wpList_nil ?_
                  replace ha := ha.sub (σ' := [(2, (.pointer (some ⟨b1, 0, none⟩))), (3, (.pointer (some ⟨b9, 0, none⟩))), (8, (.int .i64 i458)), (68, (.bool true))]) ⟨rfl, rfl, rfl, rfl, trivial⟩
                  refine e_then ?_
                  refine c_true ha rfl ?_
                  refine wp_seq ?_
                  refine wp_region_lit ?_
                  refine op_g ha rfl (g_assign rfl) ?_; clear ha a; intro a ha
                  refine wpList_nil ?_
                  replace ha := ha.sub (σ' := [(4, (.bool false))]) ⟨rfl, trivial⟩
                  refine e_then ?_
                  refine wp_ret ?_
                  refine e_blk_ret ?_
                  refine e_then_ret ?_
                  refine e_lq_ret ?_
                  refine e_then_ret ?_
                  obtain rfl := Option.some.inj hF
                  have e543 := LK_inr hN516; subst e543
                  have e544 := BK_inr hK512; subst e544
                  exact f_ret1 ha rfl rfl ⟨rfl, hE540⟩
                · replace hF := if_f hp542 hF
                  rw [show (decide ((x527.length : Int) = 0)) = false from b_false (decide_eq_true_iff) hp542] at ha
                  refine op_want (yields ha rfl rfl) ?_
                  refine op_g ha rfl (g_loadA (cs := [va1_0, va1_1]) Tryd.isAgg32 Tryd.sizeOf32 rfl (by simp) hB456.all) ?_; clear ha a; intro a ha
                  refine op_want (yields ha rfl rfl) ?_
                  refine op_g ha rfl (g_move rfl) ?_; clear ha a; intro a ha
                  refine op_want (yields ha rfl rfl) ?_
                  obtain ⟨fp545, hro546, hs547⟩ := h533.roF
                  obtain ⟨x548, hc549, hF⟩ := cal_some hF
                  refine o_call ha rfl rfl Tryd.call35 (W_spec_l9Reached (ha1_0.ext hE540) (ha1_1.ext hE540) hro546 hc549) ?_; clear ha a; rintro v550 w551 ⟨⟨rfl, hI553⟩, hx552⟩ a ha
                  replace hB454 := hB454.ext hx552
                  replace hB456 := hB456.ext hx552
                  replace h533 := h533.ext hx552
                  have hE554 := Ext.trans hE540 hx552
                  refine op_want (yields ha rfl rfl) ?_
                  refine op_g ha rfl (g_move rfl) ?_; clear ha a; intro a ha
                  refine op_want (yields ha rfl rfl) ?_
                  refine op_g ha rfl (g_lenO sl45.und h533 rfl) ?_; clear ha a; intro a ha
                  refine op_want (yields ha rfl rfl) ?_
                  refine op_g ha rfl (g_neq rfl rfl) ?_; clear ha a; intro a ha
                  refine op_g ha rfl (g_pick rfl rfl) ?_; clear ha a; intro a ha
                  refine wpList_nil ?_
                  replace ha := ha.sub (σ' := [(2, (.pointer (some ⟨b1, 0, none⟩))), (3, (.pointer (some ⟨b9, 0, none⟩))), (8, (.int .i64 i458)), (62, (.agg #[va1_0, va1_1])), (63, v529), (64, (.int .i64 x548)), (65, v529), (66, (.int .i64 (x527.length : Int))), (67, (.bool (decide (x548 ≠ (x527.length : Int))))), (68, (.bool (decide (x548 ≠ (x527.length : Int)))))]) ⟨rfl, rfl, rfl, rfl, rfl, rfl, rfl, rfl, rfl, rfl, trivial⟩
                  refine e_then ?_
                  refine c_cond (x548 ≠ (x527.length : Int)) ha rfl (decide_eq_true_iff) (fun hp555 => ?_) (fun hp555 => ?_)
                  · replace hF := if_t hp555 hF
                    refine wp_seq ?_
                    refine wp_region_lit ?_
                    refine op_g ha rfl (g_assign rfl) ?_; clear ha a; intro a ha
                    refine wpList_nil ?_
                    replace ha := ha.sub (σ' := [(4, (.bool false))]) ⟨rfl, trivial⟩
                    refine e_then ?_
                    refine wp_ret ?_
                    refine e_blk_ret ?_
                    refine e_then_ret ?_
                    refine e_lq_ret ?_
                    refine e_then_ret ?_
                    obtain rfl := Option.some.inj hF
                    have e556 := LK_inr hN516; subst e556
                    have e557 := BK_inr hK512; subst e557
                    exact f_ret1 ha rfl rfl ⟨rfl, hE554⟩
                  · replace hF := if_f hp555 hF
                    refine wp_skip ?_
                    refine e_blk ?_
                    refine e_then ?_
                    refine wp_region_lit ?_
                    refine op_g ha rfl (g_move rfl) ?_; clear ha a; intro a ha
                    obtain ⟨hI558, hF⟩ := ck_some hF
                    refine op_g ha rfl (g_add rfl rfl hI558) ?_; clear ha a; intro a ha
                    refine op_g ha rfl (g_assign rfl) ?_; clear ha a; intro a ha
                    refine wpList_nil ?_
                    replace ha := ha.sub (σ' := [(2, (.pointer (some ⟨b1, 0, none⟩))), (3, (.pointer (some ⟨b9, 0, none⟩))), (8, (.int .i64 (i458 + 1))), (62, (.agg #[va1_0, va1_1])), (63, v529), (64, (.int .i64 x548)), (65, v529), (66, (.int .i64 (x527.length : Int))), (67, (.bool (decide (x548 ≠ (x527.length : Int)))))]) ⟨rfl, rfl, rfl, rfl, rfl, rfl, rfl, rfl, rfl, trivial⟩
                    refine e_lq ?_
                    obtain rfl := Option.some.inj hF
                    exact ⟨_, Nat.lt_succ_self _, i458 + 1, ha.sub ⟨rfl, rfl, rfl, trivial⟩, hE554, hI558, hB454, z455, hB456, z457, q460, q461, hN516⟩
              · replace hF := if_f hp526 hF
                refine wp_exit ?_
                refine e_then_exit ?_
                refine e_lq_eq ?_
                obtain rfl := Option.some.inj hF
                exact ⟨ha.sub trivial, hE525, (LK_inr hN516).symm⟩
          · rintro a w509 ⟨ha, hE515, rfl⟩
            have hF : F_spec_DecompOk_k6 = some _ := hK512; clear hK512; unfold F_spec_DecompOk_k6 at hF
            refine e_then ?_
            refine wp_seq ?_
            refine wp_region_lit ?_
            refine op_g ha rfl (g_assign rfl) ?_; clear ha a; intro a ha
            refine wpList_nil ?_
            refine e_then ?_
            refine wp_ret ?_
            obtain rfl := Option.some.inj hF
            exact f_ret1 ha rfl rfl ⟨rfl, hE515⟩
set_option maxHeartbeats 2000000 in
theorem W_impl_inRange {W : World} {a0 : Int} (ha0 : InI a0) {a1 : Int} (ha1 : InI a1) {a2 : Int} (ha2 : InI a2) {r : Bool} (hF : F_impl_inRange a0 a1 a2 = some r) :
    Calls Tryd.prog 80 [.int .i64 a0, .int .i64 a1, .int .i64 a2].toArray W (Ret fun u w' => u = .bool r ∧ Ext W w') := by
  refine f_enter Tryd.func80 rfl Tryd.ntmps80 rfl ?_
  intro a ha
  replace ha : Fr 15 [(0, (.int .i64 a0)), (1, (.int .i64 a1)), (2, (.int .i64 a2))] a := ha
  have hE : Chg [] W W := Chg.refl _ _
  unfold F_impl_inRange at hF
  refine wp_seq ?_
  refine wp_region_lit ?_
  refine op_g ha rfl (g_assign rfl) ?_; clear ha a; intro a ha
  refine wpList_nil ?_
  replace ha := ha.sub (σ' := [(0, (.int .i64 a0)), (1, (.int .i64 a1)), (2, (.int .i64 a2))]) ⟨rfl, rfl, rfl, trivial⟩
  refine e_then ?_
  refine wp_seq ?_
  refine wp_region_lit ?_
  refine op_g ha rfl (g_move rfl) ?_; clear ha a; intro a ha
  refine op_g ha rfl (g_move rfl) ?_; clear ha a; intro a ha
  refine op_g ha rfl (g_leq rfl rfl) ?_; clear ha a; intro a ha
  refine op_g ha rfl (g_move rfl) ?_; clear ha a; intro a ha
  by_cases hp1 : a1 ≤ a0
  · replace hF := if_t hp1 hF
    rw [show (decide (a1 ≤ a0)) = true from (decide_eq_true_iff).2 hp1] at ha
    refine op_want (yields ha rfl rfl) ?_
    refine op_g ha rfl (g_move rfl) ?_; clear ha a; intro a ha
    refine op_want (yields ha rfl rfl) ?_
    refine op_g ha rfl (g_move rfl) ?_; clear ha a; intro a ha
    refine op_want (yields ha rfl rfl) ?_
    refine op_g ha rfl (g_leq rfl rfl) ?_; clear ha a; intro a ha
    refine op_g ha rfl (g_pick rfl rfl) ?_; clear ha a; intro a ha
    refine op_g ha rfl (g_assign rfl) ?_; clear ha a; intro a ha
    refine wpList_nil ?_
    replace ha := ha.sub (σ' := [(6, (.bool (decide (a0 ≤ a2))))]) ⟨rfl, trivial⟩
    refine e_then ?_
    refine wp_ret ?_
    obtain rfl := Option.some.inj hF
    exact f_ret1 ha rfl rfl ⟨rfl, hE⟩
  · replace hF := if_f hp1 hF
    rw [show (decide (a1 ≤ a0)) = false from b_false (decide_eq_true_iff) hp1] at ha
    refine op_unwant ha rfl (yields ha rfl rfl) rfl ?_; clear ha a; intro a ha
    refine op_unwant ha rfl (yields ha rfl rfl) rfl ?_; clear ha a; intro a ha
    refine op_unwant ha rfl (yields ha rfl rfl) rfl ?_; clear ha a; intro a ha
    refine op_g ha rfl (g_pick rfl rfl) ?_; clear ha a; intro a ha
    refine op_g ha rfl (g_assign rfl) ?_; clear ha a; intro a ha
    refine wpList_nil ?_
    replace ha := ha.sub (σ' := [(6, (.bool false))]) ⟨rfl, trivial⟩
    refine e_then ?_
    refine wp_ret ?_
    obtain rfl := Option.some.inj hF
    exact f_ret1 ha rfl rfl ⟨rfl, hE⟩
set_option maxHeartbeats 2000000 in
theorem W_impl_increasing {W : World} {va0 : Value} {fa0 : List Nat} {a0 : (List Int)} (ha0 : Ro Rp.int W fa0 va0 a0) {a1 : Int} (ha1 : InI a1) {r : Bool} (hF : F_impl_increasing a0 a1 = some r) :
    Calls Tryd.prog 39 [va0, .int .i64 a1].toArray W (Ret fun u w' => u = .bool r ∧ Ext W w') := by
  refine f_enter Tryd.func39 rfl Tryd.ntmps39 rfl ?_
  intro a ha
  replace ha : Fr 33 [(0, va0), (1, (.int .i64 a1))] a := ha
  have hE : Chg [] W W := Chg.refl _ _
  unfold F_impl_increasing at hF
  refine wp_seq ?_
  refine wp_region_lit ?_
  refine op_g ha rfl (g_assign rfl) ?_; clear ha a; intro a ha
  refine wpList_nil ?_
  replace ha := ha.sub (σ' := [(0, va0), (1, (.int .i64 a1))]) ⟨rfl, rfl, trivial⟩
  refine e_then ?_
  refine wp_seq ?_
  refine wp_seq ?_
  refine wp_region_lit ?_
  refine op_g ha rfl (g_move rfl) ?_; clear ha a; intro a ha
  refine op_g ha rfl (g_lenR sl45.und ha0 rfl) ?_; clear ha a; intro a ha
  refine op_g ha rfl (g_move rfl) ?_; clear ha a; intro a ha
  refine wpList_nil ?_
  replace ha := ha.sub (σ' := [(0, va0), (1, (.int .i64 a1)), (7, va0), (8, (.int .i64 (a0.length : Int))), (9, (.int .i64 0))]) ⟨rfl, rfl, rfl, rfl, rfl, trivial⟩
  refine e_then ?_
  obtain ⟨o98, ho99, hK100⟩ := bnd_some hF
  obtain ⟨n101, hn102⟩ := lp_some ho99; clear ho99
  refine c_loop (fun a w => Fr 33 [] a ∧ Chg [] W w ∧ o98 = .inl ()) (fun n a w => ∃ (i49 : Int), Fr 33 [(0, va0), (1, (.int .i64 a1)), (7, va0), (8, (.int .i64 (a0.length : Int))), (9, (.int .i64 i49))] a ∧ Chg [] W w ∧ InI i49 ∧ lpN (fun s => F_impl_increasing_l1 a0 a1 s) n i49 = some o98) n101 ⟨0, ha.sub ⟨rfl, rfl, rfl, rfl, rfl, trivial⟩, hE, (show InI 0 from by decide), hn102⟩ ?_ ?_
  · rintro m106 a w48 ⟨i49, ha, hE51, hI50, hF⟩
    cases m106 with
    | zero => exact (lpN_zero hF).elim
    | succ m106 =>
      obtain ⟨z105, hF, hN104⟩ := lpN_succ hF
      have hF : F_impl_increasing_l1 a0 a1 i49 = some z105 := hF; unfold F_impl_increasing_l1 at hF
      refine wp_seq ?_
      refine wp_region_lit ?_
      refine op_g ha rfl (g_lss rfl rfl) ?_; clear ha a; intro a ha
      refine wpList_nil ?_
      replace ha := ha.sub (σ' := [(0, va0), (1, (.int .i64 a1)), (7, va0), (8, (.int .i64 (a0.length : Int))), (9, (.int .i64 i49)), (10, (.bool (decide (i49 < (a0.length : Int)))))]) ⟨rfl, rfl, rfl, rfl, rfl, rfl, trivial⟩
      refine e_then ?_
      refine wp_seq ?_
      refine c_cond (i49 < (a0.length : Int)) ha rfl (decide_eq_true_iff) (fun hp107 => ?_) (fun hp107 => ?_)
      · replace hF := if_t hp107 hF
        refine wp_skip ?_
        refine e_then ?_
        refine wp_seq ?_
        refine wp_block ?_
        refine wp_seq ?_
        refine wp_region_lit ?_
        refine op_g ha rfl (g_move rfl) ?_; clear ha a; intro a ha
        obtain ⟨x108, g109, gx110, hF⟩ := idx_some hF
        obtain ⟨p111, cs112, f113, hf114, hpb115, hat116, hr117, hi118⟩ := ha0.at g109 gx110
        obtain ⟨rfl, hI119, rfl⟩ := hr117
        refine op_g ha rfl (hi118.gives sl45 rfl rfl) ?_; clear ha a; intro a ha
        refine op_g ha rfl (g_load0 hE51 Tryd.isAgg2 rfl hat116.one) ?_; clear ha a; intro a ha
        refine op_g ha rfl (g_assign rfl) ?_; clear ha a; intro a ha
        refine op_g ha rfl (g_assign rfl) ?_; clear ha a; intro a ha
        refine wpList_nil ?_
        replace ha := ha.sub (σ' := [(0, va0), (1, (.int .i64 a1)), (5, (.int .i64 i49)), (6, (.int .i64 x108)), (7, va0), (8, (.int .i64 (a0.length : Int))), (9, (.int .i64 i49))]) ⟨rfl, rfl, rfl, rfl, rfl, rfl, rfl, trivial⟩
        refine e_then ?_
        refine wp_seq ?_
        refine wp_region_lit ?_
        refine op_g ha rfl (g_move rfl) ?_; clear ha a; intro a ha
        refine op_g ha rfl (g_move rfl) ?_; clear ha a; intro a ha
        obtain ⟨hI120, hF⟩ := ck_some hF
        refine op_g ha rfl (g_sub rfl rfl hI120) ?_; clear ha a; intro a ha
        obtain ⟨x122, hc123, hF⟩ := cal_some hF
        refine o_call ha rfl rfl Tryd.call80 (W_impl_inRange hI119 (show InI 0 from by decide) hI120 hc123) ?_; clear ha a; rintro v124 w125 ⟨rfl, hx126⟩ a ha
        have hE127 := Ext.trans hE51 hx126
        refine op_g ha rfl (g_not rfl) ?_; clear ha a; intro a ha
        refine op_g ha rfl (g_move rfl) ?_; clear ha a; intro a ha
        by_cases hp128 : ¬ (x122 = true)
        · replace hF := if_t hp128 hF
          rw [show (!x122) = true from (n_iff (Iff.rfl)).2 hp128] at ha
          refine op_unwant ha rfl (yields ha rfl rfl) rfl ?_; clear ha a; intro a ha
          refine op_unwant ha rfl (yields ha rfl rfl) rfl ?_; clear ha a; intro a ha
          refine op_unwant ha rfl (yields ha rfl rfl) rfl ?_; clear ha a; intro a ha
          refine op_unwant0 ha rfl (yields0 ha rfl rfl) ?_; clear ha a; intro a ha
          refine op_unwant0 ha rfl (yields0 ha rfl rfl) ?_; clear ha a; intro a ha
          refine op_unwant0 ha rfl (yields0 ha rfl rfl) ?_; clear ha a; intro a ha
          refine op_unwant0 ha rfl (yields0 ha rfl rfl) ?_; clear ha a; intro a ha
          refine op_unwant0 ha rfl (yields0 ha rfl rfl) ?_; clear ha a; intro a ha
          refine op_unwant0 ha rfl (yields0 ha rfl rfl) ?_; clear ha a; intro a ha
          refine op_unwant0 ha rfl (yields0 ha rfl rfl) ?_; clear ha a; intro a ha
          refine op_unwant ha rfl (yields ha rfl rfl) rfl ?_; clear ha a; intro a ha
          refine op_g ha rfl (g_pick rfl rfl) ?_; clear ha a; intro a ha
          refine wpList_nil ?_
          replace ha := ha.sub (σ' := [(0, va0), (1, (.int .i64 a1)), (7, va0), (8, (.int .i64 (a0.length : Int))), (9, (.int .i64 i49)), (31, (.bool true))]) ⟨rfl, rfl, rfl, rfl, rfl, rfl, trivial⟩
          refine e_then ?_
          refine c_true ha rfl ?_
          refine wp_seq ?_
          refine wp_region_lit ?_
          refine op_g ha rfl (g_assign rfl) ?_; clear ha a; intro a ha
          refine wpList_nil ?_
          replace ha := ha.sub (σ' := [(4, (.bool false))]) ⟨rfl, trivial⟩
          refine e_then ?_
          refine wp_ret ?_
          refine e_blk_ret ?_
          refine e_then_ret ?_
          refine e_lq_ret ?_
          refine e_then_ret ?_
          obtain rfl := Option.some.inj hF
          have e129 := LK_inr hN104; subst e129
          have e130 := BK_inr hK100; subst e130
          exact f_ret1 ha rfl rfl ⟨rfl, hE127⟩
        · replace hF := if_f hp128 hF
          rw [show (!x122) = false from b_false (n_iff (Iff.rfl)) hp128] at ha
          refine op_want (yields ha rfl rfl) ?_
          refine op_g ha rfl (g_move rfl) ?_; clear ha a; intro a ha
          refine op_want (yields ha rfl rfl) ?_
          refine op_g ha rfl (g_gtr rfl rfl) ?_; clear ha a; intro a ha
          refine op_want (yields ha rfl rfl) ?_
          refine op_g ha rfl (g_move rfl) ?_; clear ha a; intro a ha
          by_cases hp131 : 0 < i49
          · replace hF := if_t hp131 hF
            rw [show (decide (0 < i49)) = true from (decide_eq_true_iff).2 hp131] at ha
            refine op_want (yields ha rfl rfl) ?_
            refine op_g ha rfl (g_move rfl) ?_; clear ha a; intro a ha
            refine op_want (yields ha rfl rfl) ?_
            refine op_g ha rfl (g_move rfl) ?_; clear ha a; intro a ha
            refine op_want (yields ha rfl rfl) ?_
            obtain ⟨hI132, hF⟩ := ck_some hF
            refine op_g ha rfl (g_sub rfl rfl hI132) ?_; clear ha a; intro a ha
            refine op_want (yields ha rfl rfl) ?_
            obtain ⟨x134, g135, gx136, hF⟩ := idx_some hF
            obtain ⟨p137, cs138, f139, hf140, hpb141, hat142, hr143, hi144⟩ := ha0.at g135 gx136
            obtain ⟨rfl, hI145, rfl⟩ := hr143
            refine op_g ha rfl (hi144.gives sl45 rfl rfl) ?_; clear ha a; intro a ha
            refine op_want (yields ha rfl rfl) ?_
            refine op_g ha rfl (g_load0 hE127 Tryd.isAgg2 rfl hat142.one) ?_; clear ha a; intro a ha
            refine op_want (yields ha rfl rfl) ?_
            refine op_g ha rfl (g_move rfl) ?_; clear ha a; intro a ha
            refine op_want (yields ha rfl rfl) ?_
            refine op_g ha rfl (g_geq rfl rfl) ?_; clear ha a; intro a ha
            refine op_want (yields ha rfl rfl) ?_
            refine op_g ha rfl (g_pick rfl rfl) ?_; clear ha a; intro a ha
            refine op_g ha rfl (g_pick rfl rfl) ?_; clear ha a; intro a ha
            refine wpList_nil ?_
            replace ha := ha.sub (σ' := [(0, va0), (1, (.int .i64 a1)), (7, va0), (8, (.int .i64 (a0.length : Int))), (9, (.int .i64 i49)), (20, (.int .i64 i49)), (21, (.bool true)), (22, (.bool true)), (23, va0), (24, (.int .i64 i49)), (25, (.int .i64 (i49 - 1))), (26, (.pointer (some p137))), (27, (.int .i64 x134)), (28, (.int .i64 x108)), (29, (.bool (decide (x108 ≤ x134)))), (30, (.bool (decide (x108 ≤ x134)))), (31, (.bool (decide (x108 ≤ x134))))]) ⟨rfl, rfl, rfl, rfl, rfl, rfl, rfl, rfl, rfl, rfl, rfl, rfl, rfl, rfl, rfl, rfl, rfl, trivial⟩
            refine e_then ?_
            refine c_cond (x108 ≤ x134) ha rfl (decide_eq_true_iff) (fun hp146 => ?_) (fun hp146 => ?_)
            · replace hF := if_t hp146 hF
              refine wp_seq ?_
              refine wp_region_lit ?_
              refine op_g ha rfl (g_assign rfl) ?_; clear ha a; intro a ha
              refine wpList_nil ?_
              replace ha := ha.sub (σ' := [(4, (.bool false))]) ⟨rfl, trivial⟩
              refine e_then ?_
              refine wp_ret ?_
              refine e_blk_ret ?_
              refine e_then_ret ?_
              refine e_lq_ret ?_
              refine e_then_ret ?_
              obtain rfl := Option.some.inj hF
              have e147 := LK_inr hN104; subst e147
              have e148 := BK_inr hK100; subst e148
              exact f_ret1 ha rfl rfl ⟨rfl, hE127⟩
            · replace hF := if_f hp146 hF
              refine wp_skip ?_
              refine e_blk ?_
              refine e_then ?_
              refine wp_region_lit ?_
              obtain ⟨hI149, hF⟩ := ck_some hF
              refine op_g ha rfl (g_add rfl rfl hI149) ?_; clear ha a; intro a ha
              refine op_g ha rfl (g_move rfl) ?_; clear ha a; intro a ha
              refine wpList_nil ?_
              replace ha := ha.sub (σ' := [(0, va0), (1, (.int .i64 a1)), (7, va0), (8, (.int .i64 (a0.length : Int))), (9, (.int .i64 (i49 + 1))), (20, (.int .i64 i49)), (21, (.bool true)), (22, (.bool true)), (23, va0), (24, (.int .i64 i49)), (25, (.int .i64 (i49 - 1))), (26, (.pointer (some p137))), (27, (.int .i64 x134)), (28, (.int .i64 x108)), (29, (.bool (decide (x108 ≤ x134)))), (30, (.bool (decide (x108 ≤ x134))))]) ⟨rfl, rfl, rfl, rfl, rfl, rfl, rfl, rfl, rfl, rfl, rfl, rfl, rfl, rfl, rfl, rfl, trivial⟩
              refine e_lq ?_
              obtain rfl := Option.some.inj hF
              exact ⟨_, Nat.lt_succ_self _, i49 + 1, ha.sub ⟨rfl, rfl, rfl, rfl, rfl, trivial⟩, hE127, hI149, hN104⟩
          · replace hF := if_f hp131 hF
            rw [show (decide (0 < i49)) = false from b_false (decide_eq_true_iff) hp131] at ha
            refine op_unwant ha rfl (yields ha rfl rfl) rfl ?_; clear ha a; intro a ha
            refine op_unwant ha rfl (yields ha rfl rfl) rfl ?_; clear ha a; intro a ha
            refine op_unwant ha rfl (yields ha rfl rfl) rfl ?_; clear ha a; intro a ha
            refine op_unwant ha rfl (yields ha rfl rfl) rfl ?_; clear ha a; intro a ha
            refine op_unwant ha rfl (yields ha rfl rfl) rfl ?_; clear ha a; intro a ha
            refine op_unwant ha rfl (yields ha rfl rfl) rfl ?_; clear ha a; intro a ha
            refine op_unwant ha rfl (yields ha rfl rfl) rfl ?_; clear ha a; intro a ha
            refine op_want (yields ha rfl rfl) ?_
            refine op_g ha rfl (g_pick rfl rfl) ?_; clear ha a; intro a ha
            refine op_g ha rfl (g_pick rfl rfl) ?_; clear ha a; intro a ha
            refine wpList_nil ?_
            replace ha := ha.sub (σ' := [(0, va0), (1, (.int .i64 a1)), (7, va0), (8, (.int .i64 (a0.length : Int))), (9, (.int .i64 i49)), (20, (.int .i64 i49)), (21, (.bool false)), (22, (.bool false)), (30, (.bool false)), (31, (.bool false))]) ⟨rfl, rfl, rfl, rfl, rfl, rfl, rfl, rfl, rfl, rfl, trivial⟩
            refine e_then ?_
            refine c_false ha rfl ?_
            refine wp_skip ?_
            refine e_blk ?_
            refine e_then ?_
            refine wp_region_lit ?_
            obtain ⟨hI151, hF⟩ := ck_some hF
            refine op_g ha rfl (g_add rfl rfl hI151) ?_; clear ha a; intro a ha
            refine op_g ha rfl (g_move rfl) ?_; clear ha a; intro a ha
            refine wpList_nil ?_
            replace ha := ha.sub (σ' := [(0, va0), (1, (.int .i64 a1)), (7, va0), (8, (.int .i64 (a0.length : Int))), (9, (.int .i64 (i49 + 1))), (20, (.int .i64 i49)), (21, (.bool false)), (22, (.bool false)), (30, (.bool false))]) ⟨rfl, rfl, rfl, rfl, rfl, rfl, rfl, rfl, rfl, trivial⟩
            refine e_lq ?_
            obtain rfl := Option.some.inj hF
            exact ⟨_, Nat.lt_succ_self _, i49 + 1, ha.sub ⟨rfl, rfl, rfl, rfl, rfl, trivial⟩, hE127, hI151, hN104⟩
      · replace hF := if_f hp107 hF
        refine wp_exit ?_
        refine e_then_exit ?_
        refine e_lq_eq ?_
        obtain rfl := Option.some.inj hF
        exact ⟨ha.sub trivial, hE51, (LK_inr hN104).symm⟩
  · rintro a w97 ⟨ha, hE103, rfl⟩
    have hF : F_impl_increasing_k2 = some _ := hK100; clear hK100; unfold F_impl_increasing_k2 at hF
    refine e_then ?_
    refine wp_seq ?_
    refine wp_region_lit ?_
    refine op_g ha rfl (g_assign rfl) ?_; clear ha a; intro a ha
    refine wpList_nil ?_
    refine e_then ?_
    refine wp_ret ?_
    obtain rfl := Option.some.inj hF
    exact f_ret1 ha rfl rfl ⟨rfl, hE103⟩
set_option maxHeartbeats 2000000 in
theorem W_slices_Index_int64 {W : World} {va0 : Value} {fa0 : List Nat} {a0 : (List Int)} (ha0 : Ro Rp.int W fa0 va0 a0) {a1 : Int} (ha1 : InI a1) {r : Int} (hF : F_slices_Index_int64 a0 a1 = some r) :
    Calls Tryd.prog 98 [va0, .int .i64 a1].toArray W (Ret fun u w' => (u = .int .i64 r ∧ InI r) ∧ Ext W w') := by
  refine f_enter Tryd.func98 rfl Tryd.ntmps98 rfl ?_
  intro a ha
  replace ha : Fr 19 [(0, va0), (1, (.int .i64 a1))] a := ha
  have hE : Chg [] W W := Chg.refl _ _
  unfold F_slices_Index_int64 at hF
  refine wp_seq ?_
  refine wp_region_lit ?_
  refine op_g ha rfl (g_assign rfl) ?_; clear ha a; intro a ha
  refine wpList_nil ?_
  replace ha := ha.sub (σ' := [(0, va0), (1, (.int .i64 a1))]) ⟨rfl, rfl, trivial⟩
  refine e_then ?_
  refine wp_seq ?_
  refine wp_seq ?_
  refine wp_region_lit ?_
  refine op_g ha rfl (g_move rfl) ?_; clear ha a; intro a ha
  refine op_g ha rfl (g_lenR sl45.und ha0 rfl) ?_; clear ha a; intro a ha
  refine op_g ha rfl (g_move rfl) ?_; clear ha a; intro a ha
  refine wpList_nil ?_
  replace ha := ha.sub (σ' := [(0, va0), (1, (.int .i64 a1)), (7, (.int .i64 (a0.length : Int))), (8, (.int .i64 0))]) ⟨rfl, rfl, rfl, rfl, trivial⟩
  refine e_then ?_
  obtain ⟨o46, ho47, hK48⟩ := bnd_some hF
  obtain ⟨n49, hn50⟩ := lp_some ho47; clear ho47
  refine c_loop (fun a w => Fr 19 [] a ∧ Chg [] W w ∧ o46 = .inl ()) (fun n a w => ∃ (i23 : Int), Fr 19 [(0, va0), (1, (.int .i64 a1)), (7, (.int .i64 (a0.length : Int))), (8, (.int .i64 i23))] a ∧ Chg [] W w ∧ InI i23 ∧ lpN (fun s => F_slices_Index_int64_l1 a0 a1 s) n i23 = some o46) n49 ⟨0, ha.sub ⟨rfl, rfl, rfl, rfl, trivial⟩, hE, (show InI 0 from by decide), hn50⟩ ?_ ?_
  · rintro m54 a w22 ⟨i23, ha, hE25, hI24, hF⟩
    cases m54 with
    | zero => exact (lpN_zero hF).elim
    | succ m54 =>
      obtain ⟨z53, hF, hN52⟩ := lpN_succ hF
      have hF : F_slices_Index_int64_l1 a0 a1 i23 = some z53 := hF; unfold F_slices_Index_int64_l1 at hF
      refine wp_seq ?_
      refine wp_region_lit ?_
      refine op_g ha rfl (g_lss rfl rfl) ?_; clear ha a; intro a ha
      refine wpList_nil ?_
      replace ha := ha.sub (σ' := [(0, va0), (1, (.int .i64 a1)), (7, (.int .i64 (a0.length : Int))), (8, (.int .i64 i23)), (9, (.bool (decide (i23 < (a0.length : Int)))))]) ⟨rfl, rfl, rfl, rfl, rfl, trivial⟩
      refine e_then ?_
      refine wp_seq ?_
      refine c_cond (i23 < (a0.length : Int)) ha rfl (decide_eq_true_iff) (fun hp55 => ?_) (fun hp55 => ?_)
      · replace hF := if_t hp55 hF
        refine wp_skip ?_
        refine e_then ?_
        refine wp_seq ?_
        refine wp_block ?_
        refine wp_seq ?_
        refine wp_region_lit ?_
        refine op_g ha rfl (g_move rfl) ?_; clear ha a; intro a ha
        refine op_g ha rfl (g_assign rfl) ?_; clear ha a; intro a ha
        refine wpList_nil ?_
        replace ha := ha.sub (σ' := [(0, va0), (1, (.int .i64 a1)), (5, (.int .i64 i23)), (7, (.int .i64 (a0.length : Int))), (8, (.int .i64 i23))]) ⟨rfl, rfl, rfl, rfl, rfl, trivial⟩
        refine e_then ?_
        refine wp_seq ?_
        refine wp_region_lit ?_
        refine op_g ha rfl (g_move rfl) ?_; clear ha a; intro a ha
        refine op_g ha rfl (g_move rfl) ?_; clear ha a; intro a ha
        refine op_g ha rfl (g_move rfl) ?_; clear ha a; intro a ha
        obtain ⟨x56, g57, gx58, hF⟩ := idx_some hF
        obtain ⟨p59, cs60, f61, hf62, hpb63, hat64, hr65, hi66⟩ := ha0.at g57 gx58
        obtain ⟨rfl, hI67, rfl⟩ := hr65
        refine op_g ha rfl (hi66.gives sl45 rfl rfl) ?_; clear ha a; intro a ha
        refine op_g ha rfl (g_load0 hE25 Tryd.isAgg2 rfl hat64.one) ?_; clear ha a; intro a ha
        refine op_g ha rfl (g_eql rfl rfl) ?_; clear ha a; intro a ha
        refine wpList_nil ?_
        replace ha := ha.sub (σ' := [(0, va0), (1, (.int .i64 a1)), (5, (.int .i64 i23)), (7, (.int .i64 (a0.length : Int))), (8, (.int .i64 i23)), (16, (.bool (decide (a1 = x56))))]) ⟨rfl, rfl, rfl, rfl, rfl, rfl, trivial⟩
        refine e_then ?_
        refine c_cond (a1 = x56) ha rfl (decide_eq_true_iff) (fun hp68 => ?_) (fun hp68 => ?_)
        · replace hF := if_t hp68 hF
          refine wp_seq ?_
          refine wp_region_lit ?_
          refine op_g ha rfl (g_move rfl) ?_; clear ha a; intro a ha
          refine op_g ha rfl (g_assign rfl) ?_; clear ha a; intro a ha
          refine wpList_nil ?_
          replace ha := ha.sub (σ' := [(4, (.int .i64 i23))]) ⟨rfl, trivial⟩
          refine e_then ?_
          refine wp_ret ?_
          refine e_blk_ret ?_
          refine e_then_ret ?_
          refine e_lq_ret ?_
          refine e_then_ret ?_
          obtain rfl := Option.some.inj hF
          have e69 := LK_inr hN52; subst e69
          have e70 := BK_inr hK48; subst e70
          exact f_ret1 ha rfl rfl ⟨⟨rfl, hI24⟩, hE25⟩
        · replace hF := if_f hp68 hF
          refine wp_skip ?_
          refine e_blk ?_
          refine e_then ?_
          refine wp_region_lit ?_
          obtain ⟨hI71, hF⟩ := ck_some hF
          refine op_g ha rfl (g_add rfl rfl hI71) ?_; clear ha a; intro a ha
          refine op_g ha rfl (g_move rfl) ?_; clear ha a; intro a ha
          refine wpList_nil ?_
          replace ha := ha.sub (σ' := [(0, va0), (1, (.int .i64 a1)), (7, (.int .i64 (a0.length : Int))), (8, (.int .i64 (i23 + 1)))]) ⟨rfl, rfl, rfl, rfl, trivial⟩
          refine e_lq ?_
          obtain rfl := Option.some.inj hF
          exact ⟨_, Nat.lt_succ_self _, i23 + 1, ha.sub ⟨rfl, rfl, rfl, rfl, trivial⟩, hE25, hI71, hN52⟩
      · replace hF := if_f hp55 hF
        refine wp_exit ?_
        refine e_then_exit ?_
        refine e_lq_eq ?_
        obtain rfl := Option.some.inj hF
        exact ⟨ha.sub trivial, hE25, (LK_inr hN52).symm⟩
  · rintro a w45 ⟨ha, hE51, rfl⟩
    have hF : F_slices_Index_int64_k2 = some _ := hK48; clear hK48; unfold F_slices_Index_int64_k2 at hF
    refine e_then ?_
    refine wp_seq ?_
    refine wp_region_lit ?_
    refine op_g ha rfl (g_assign rfl) ?_; clear ha a; intro a ha
    refine wpList_nil ?_
    refine e_then ?_
    refine wp_ret ?_
    obtain rfl := Option.some.inj hF
    exact f_ret1 ha rfl rfl ⟨⟨rfl, (show InI (-1) from by decide)⟩, hE51⟩
set_option maxHeartbeats 2000000 in
theorem W_slices_Contains_int64 {W : World} {va0 : Value} {fa0 : List Nat} {a0 : (List Int)} (ha0 : Ro Rp.int W fa0 va0 a0) {a1 : Int} (ha1 : InI a1) {r : Bool} (hF : F_slices_Contains_int64 a0 a1 = some r) :
    Calls Tryd.prog 77 [va0, .int .i64 a1].toArray W (Ret fun u w' => u = .bool r ∧ Ext W w') := by
  refine f_enter Tryd.func77 rfl Tryd.ntmps77 rfl ?_
  intro a ha
  replace ha : Fr 9 [(0, va0), (1, (.int .i64 a1))] a := ha
  have hE : Chg [] W W := Chg.refl _ _
  unfold F_slices_Contains_int64 at hF
  refine wp_seq ?_
  refine wp_region_lit ?_
  refine op_g ha rfl (g_assign rfl) ?_; clear ha a; intro a ha
  refine wpList_nil ?_
  replace ha := ha.sub (σ' := [(0, va0), (1, (.int .i64 a1))]) ⟨rfl, rfl, trivial⟩
  refine e_then ?_
  refine wp_seq ?_
  refine wp_region_lit ?_
  refine op_g ha rfl (g_move rfl) ?_; clear ha a; intro a ha
  refine op_g ha rfl (g_move rfl) ?_; clear ha a; intro a ha
  obtain ⟨x1, hc2, hF⟩ := cal_some hF
  refine o_call ha rfl rfl Tryd.call98 (W_slices_Index_int64 (ha0.ext hE) ha1 hc2) ?_; clear ha a; rintro v3 w4 ⟨⟨rfl, hI6⟩, hx5⟩ a ha
  have hE7 := Ext.trans hE hx5
  refine op_g ha rfl (g_geq rfl rfl) ?_; clear ha a; intro a ha
  refine op_g ha rfl (g_assign rfl) ?_; clear ha a; intro a ha
  refine wpList_nil ?_
  replace ha := ha.sub (σ' := [(4, (.bool (decide (0 ≤ x1))))]) ⟨rfl, trivial⟩
  refine e_then ?_
  refine wp_ret ?_
  obtain rfl := Option.some.inj hF
  exact f_ret1 ha rfl rfl ⟨rfl, hE7⟩
set_option maxHeartbeats 2000000 in
theorem W_impl_GraphOk {W : World} {va0_0 : Value} {fa0_0 : List Nat} {a0_0 : (List (List Int))} (ha0_0 : Ro (Rp.sl 2 Rp.int) W fa0_0 va0_0 a0_0) {r : Bool} (hF : F_impl_GraphOk a0_0 = some r) :
    Calls Tryd.prog 37 [.agg #[va0_0]].toArray W (Ret fun u w' => u = .bool r ∧ Ext W w') := by
  refine f_enter Tryd.func37 rfl Tryd.ntmps37 rfl ?_
  intro a ha
  replace ha : Fr 61 [(0, (.agg #[va0_0]))] a := ha
  have hE : Chg [] W W := Chg.refl _ _
  unfold F_impl_GraphOk at hF
  refine wp_seq ?_
  refine wp_region_lit ?_
  refine o_box ha rfl rfl rfl ?_; clear ha a; intro b1 w2 hB3 hx4 hlo5 a ha
  have q6 := Zn.one hlo5
  have q7 := Zn.upD q6 hE
  have hE8 := Ext.trans hE hx4
  refine op_g ha rfl (g_assign rfl) ?_; clear ha a; intro a ha
  refine wpList_nil ?_
  replace ha := ha.sub (σ' := [(1, (.pointer (some ⟨b1, 0, none⟩)))]) ⟨rfl, trivial⟩
  refine e_then ?_
  refine wp_seq ?_
  refine wp_region_lit ?_
  refine op_g ha rfl (g_field0 st30_0 rfl) ?_; clear ha a; intro a ha
  refine op_g ha rfl (g_load Tryd.isAgg22 rfl (hB3.cell rfl)) ?_; clear ha a; intro a ha
  refine op_g ha rfl (g_lenR sl22.und ha0_0 rfl) ?_; clear ha a; intro a ha
  refine op_g ha rfl (g_assign rfl) ?_; clear ha a; intro a ha
  refine wpList_nil ?_
  replace ha := ha.sub (σ' := [(1, (.pointer (some ⟨b1, 0, none⟩))), (3, (.int .i64 (a0_0.length : Int)))]) ⟨rfl, rfl, trivial⟩
  refine e_then ?_
  refine wp_seq ?_
  refine wp_seq ?_
  refine wp_region_lit ?_
  refine op_g ha rfl (g_move rfl) ?_; clear ha a; intro a ha
  refine op_g ha rfl (g_lss rfl rfl) ?_; clear ha a; intro a ha
  refine op_g ha rfl (g_move rfl) ?_; clear ha a; intro a ha
  by_cases hp11 : (a0_0.length : Int) < 1
  · replace hF := if_t hp11 hF
    rw [show (decide ((a0_0.length : Int) < 1)) = true from (decide_eq_true_iff).2 hp11] at ha
    refine op_unwant ha rfl (yields ha rfl rfl) rfl ?_; clear ha a; intro a ha
    refine op_unwant ha rfl (yields ha rfl rfl) rfl ?_; clear ha a; intro a ha
    refine op_g ha rfl (g_pick rfl rfl) ?_; clear ha a; intro a ha
    refine wpList_nil ?_
    replace ha := ha.sub (σ' := [(1, (.pointer (some ⟨b1, 0, none⟩))), (3, (.int .i64 (a0_0.length : Int))), (18, (.bool true))]) ⟨rfl, rfl, rfl, trivial⟩
    refine e_then ?_
    refine c_true ha rfl ?_
    refine wp_seq ?_
    refine wp_region_lit ?_
    refine op_g ha rfl (g_assign rfl) ?_; clear ha a; intro a ha
    refine wpList_nil ?_
    replace ha := ha.sub (σ' := [(2, (.bool false))]) ⟨rfl, trivial⟩
    refine e_then ?_
    refine wp_ret ?_
    refine e_then_ret ?_
    obtain rfl := Option.some.inj hF
    exact f_ret1 ha rfl rfl ⟨rfl, hE8⟩
  · replace hF := if_f hp11 hF
    rw [show (decide ((a0_0.length : Int) < 1)) = false from b_false (decide_eq_true_iff) hp11] at ha
    refine op_want (yields ha rfl rfl) ?_
    refine op_g ha rfl (g_move rfl) ?_; clear ha a; intro a ha
    refine op_want (yields ha rfl rfl) ?_
    refine op_g ha rfl (g_gtr rfl rfl) ?_; clear ha a; intro a ha
    refine op_g ha rfl (g_pick rfl rfl) ?_; clear ha a; intro a ha
    refine wpList_nil ?_
    replace ha := ha.sub (σ' := [(1, (.pointer (some ⟨b1, 0, none⟩))), (3, (.int .i64 (a0_0.length : Int))), (18, (.bool (decide (16 < (a0_0.length : Int)))))]) ⟨rfl, rfl, rfl, trivial⟩
    refine e_then ?_
    refine c_cond (16 < (a0_0.length : Int)) ha rfl (decide_eq_true_iff) (fun hp12 => ?_) (fun hp12 => ?_)
    · replace hF := if_t hp12 hF
      refine wp_seq ?_
      refine wp_region_lit ?_
      refine op_g ha rfl (g_assign rfl) ?_; clear ha a; intro a ha
      refine wpList_nil ?_
      replace ha := ha.sub (σ' := [(2, (.bool false))]) ⟨rfl, trivial⟩
      refine e_then ?_
      refine wp_ret ?_
      refine e_then_ret ?_
      obtain rfl := Option.some.inj hF
      exact f_ret1 ha rfl rfl ⟨rfl, hE8⟩
    · replace hF := if_f hp12 hF
      refine wp_skip ?_
      refine e_then ?_
      refine wp_seq ?_
      refine wp_seq ?_
      refine wp_region_lit ?_
      refine op_g ha rfl (g_field0 st30_0 rfl) ?_; clear ha a; intro a ha
      refine op_g ha rfl (g_load Tryd.isAgg22 rfl (hB3.cell rfl)) ?_; clear ha a; intro a ha
      refine op_g ha rfl (g_lenR sl22.und ha0_0 rfl) ?_; clear ha a; intro a ha
      refine op_g ha rfl (g_move rfl) ?_; clear ha a; intro a ha
      refine wpList_nil ?_
      replace ha := ha.sub (σ' := [(1, (.pointer (some ⟨b1, 0, none⟩))), (3, (.int .i64 (a0_0.length : Int))), (20, va0_0), (21, (.int .i64 (a0_0.length : Int))), (22, (.int .i64 0))]) ⟨rfl, rfl, rfl, rfl, rfl, trivial⟩
      refine e_then ?_
      obtain ⟨o98, ho99, hK100⟩ := bnd_some hF
      obtain ⟨n101, hn102⟩ := lp_some ho99; clear ho99
      refine c_loop (fun a w => Fr 61 [(1, (.pointer (some ⟨b1, 0, none⟩)))] a ∧ Chg [] W w ∧ Bx w b1 [va0_0] 30 ∧ Zn W (b1 : Int) ∧ o98 = .inl ()) (fun n a w => ∃ (i56 : Int), Fr 61 [(1, (.pointer (some ⟨b1, 0, none⟩))), (3, (.int .i64 (a0_0.length : Int))), (20, va0_0), (21, (.int .i64 (a0_0.length : Int))), (22, (.int .i64 i56))] a ∧ Chg [] W w ∧ InI i56 ∧ Bx w b1 [va0_0] 30 ∧ Zn W (b1 : Int) ∧ lpN (fun s => F_impl_GraphOk_l1 a0_0 s) n i56 = some o98) n101 ⟨0, ha.sub ⟨rfl, rfl, rfl, rfl, rfl, trivial⟩, hE8, (show InI 0 from by decide), hB3, q7, hn102⟩ ?_ ?_
      · rintro m106 a w53 ⟨i56, ha, hE58, hI57, hB54, z55, hF⟩
        cases m106 with
        | zero => exact (lpN_zero hF).elim
        | succ m106 =>
          obtain ⟨z105, hF, hN104⟩ := lpN_succ hF
          have hF : F_impl_GraphOk_l1 a0_0 i56 = some z105 := hF; unfold F_impl_GraphOk_l1 at hF
          refine wp_seq ?_
          refine wp_region_lit ?_
          refine op_g ha rfl (g_lss rfl rfl) ?_; clear ha a; intro a ha
          refine wpList_nil ?_
          replace ha := ha.sub (σ' := [(1, (.pointer (some ⟨b1, 0, none⟩))), (3, (.int .i64 (a0_0.length : Int))), (20, va0_0), (21, (.int .i64 (a0_0.length : Int))), (22, (.int .i64 i56)), (23, (.bool (decide (i56 < (a0_0.length : Int)))))]) ⟨rfl, rfl, rfl, rfl, rfl, rfl, trivial⟩
          refine e_then ?_
          refine wp_seq ?_
          refine c_cond (i56 < (a0_0.length : Int)) ha rfl (decide_eq_true_iff) (fun hp107 => ?_) (fun hp107 => ?_)
          · replace hF := if_t hp107 hF
            refine wp_skip ?_
            refine e_then ?_
            refine wp_seq ?_
            refine wp_block ?_
            refine wp_seq ?_
            refine wp_region_lit ?_
            refine op_g ha rfl (g_move rfl) ?_; clear ha a; intro a ha
            obtain ⟨x108, g109, gx110, hF⟩ := idx_some hF
            obtain ⟨p111, cs112, f113, hf114, hpb115, hat116, hr117, hi118⟩ := ha0_0.at g109 gx110
            obtain ⟨v119, rfl, h120⟩ := hr117
            have h120 : Ro Rp.int W f113 v119 x108 := h120
            refine op_g ha rfl (hi118.gives sl22 rfl rfl) ?_; clear ha a; intro a ha
            refine op_g ha rfl (g_load0 hE58 Tryd.isAgg45 rfl hat116.one) ?_; clear ha a; intro a ha
            refine op_g ha rfl (g_assign rfl) ?_; clear ha a; intro a ha
            refine op_g ha rfl (g_assign rfl) ?_; clear ha a; intro a ha
            refine wpList_nil ?_
            replace ha := ha.sub (σ' := [(1, (.pointer (some ⟨b1, 0, none⟩))), (3, (.int .i64 (a0_0.length : Int))), (4, (.int .i64 i56)), (5, v119), (20, va0_0), (21, (.int .i64 (a0_0.length : Int))), (22, (.int .i64 i56))]) ⟨rfl, rfl, rfl, rfl, rfl, rfl, rfl, trivial⟩
            refine e_then ?_
            refine wp_seq ?_
            refine wp_region_lit ?_
            refine op_g ha rfl (g_move rfl) ?_; clear ha a; intro a ha
            refine op_g ha rfl (g_move rfl) ?_; clear ha a; intro a ha
            obtain ⟨x122, hc123, hF⟩ := cal_some hF
            refine o_call ha rfl rfl Tryd.call39 (W_impl_increasing (h120.ext hE58) ha0_0.len hc123) ?_; clear ha a; rintro v124 w125 ⟨rfl, hx126⟩ a ha
            replace hB54 := hB54.ext hx126
            have hE127 := Ext.trans hE58 hx126
            refine op_g ha rfl (g_not rfl) ?_; clear ha a; intro a ha
            refine op_g ha rfl (g_move rfl) ?_; clear ha a; intro a ha
            by_cases hp128 : ¬ (x122 = true)
            · replace hF := if_t hp128 hF
              rw [show (!x122) = true from (n_iff (Iff.rfl)).2 hp128] at ha
              refine op_unwant ha rfl (yields ha rfl rfl) rfl ?_; clear ha a; intro a ha
              refine op_unwant ha rfl (yields ha rfl rfl) rfl ?_; clear ha a; intro a ha
              refine op_unwant ha rfl (yields ha rfl rfl) rfl ?_; clear ha a; intro a ha
              refine op_g ha rfl (g_pick rfl rfl) ?_; clear ha a; intro a ha
              refine wpList_nil ?_
              replace ha := ha.sub (σ' := [(1, (.pointer (some ⟨b1, 0, none⟩))), (3, (.int .i64 (a0_0.length : Int))), (20, va0_0), (21, (.int .i64 (a0_0.length : Int))), (22, (.int .i64 i56)), (35, (.bool true))]) ⟨rfl, rfl, rfl, rfl, rfl, rfl, trivial⟩
              refine e_then ?_
              refine c_true ha rfl ?_
              refine wp_seq ?_
              refine wp_region_lit ?_
              refine op_g ha rfl (g_assign rfl) ?_; clear ha a; intro a ha
              refine wpList_nil ?_
              replace ha := ha.sub (σ' := [(2, (.bool false))]) ⟨rfl, trivial⟩
              refine e_then ?_
              refine wp_ret ?_
              refine e_blk_ret ?_
              refine e_then_ret ?_
              refine e_lq_ret ?_
              refine e_then_ret ?_
              obtain rfl := Option.some.inj hF
              have e129 := LK_inr hN104; subst e129
              have e130 := BK_inr hK100; subst e130
              exact f_ret1 ha rfl rfl ⟨rfl, hE127⟩
            · replace hF := if_f hp128 hF
              rw [show (!x122) = false from b_false (n_iff (Iff.rfl)) hp128] at ha
              refine op_want (yields ha rfl rfl) ?_
              refine op_g ha rfl (g_move rfl) ?_; clear ha a; intro a ha
              refine op_want (yields ha rfl rfl) ?_
              refine op_g ha rfl (g_move rfl) ?_; clear ha a; intro a ha
              refine op_want (yields ha rfl rfl) ?_
              obtain ⟨x131, hc132, hF⟩ := cal_some hF
              refine o_call ha rfl rfl Tryd.call77 (W_slices_Contains_int64 (h120.ext hE127) hI57 hc132) ?_; clear ha a; rintro v133 w134 ⟨rfl, hx135⟩ a ha
              replace hB54 := hB54.ext hx135
              have hE136 := Ext.trans hE127 hx135
              refine op_g ha rfl (g_pick rfl rfl) ?_; clear ha a; intro a ha
              refine wpList_nil ?_
              replace ha := ha.sub (σ' := [(1, (.pointer (some ⟨b1, 0, none⟩))), (3, (.int .i64 (a0_0.length : Int))), (20, va0_0), (21, (.int .i64 (a0_0.length : Int))), (22, (.int .i64 i56)), (32, v119), (33, (.int .i64 i56)), (34, (.bool x131)), (35, (.bool x131))]) ⟨rfl, rfl, rfl, rfl, rfl, rfl, rfl, rfl, rfl, trivial⟩
              refine e_then ?_
              refine c_cond (x131 = true) ha rfl (Iff.rfl) (fun hp137 => ?_) (fun hp137 => ?_)
              · replace hF := if_t hp137 hF
                refine wp_seq ?_
                refine wp_region_lit ?_
                refine op_g ha rfl (g_assign rfl) ?_; clear ha a; intro a ha
                refine wpList_nil ?_
                replace ha := ha.sub (σ' := [(2, (.bool false))]) ⟨rfl, trivial⟩
                refine e_then ?_
                refine wp_ret ?_
                refine e_blk_ret ?_
                refine e_then_ret ?_
                refine e_lq_ret ?_
                refine e_then_ret ?_
                obtain rfl := Option.some.inj hF
                have e138 := LK_inr hN104; subst e138
                have e139 := BK_inr hK100; subst e139
                exact f_ret1 ha rfl rfl ⟨rfl, hE136⟩
              · replace hF := if_f hp137 hF
                refine wp_skip ?_
                refine e_blk ?_
                refine e_then ?_
                refine wp_region_lit ?_
                obtain ⟨hI140, hF⟩ := ck_some hF
                refine op_g ha rfl (g_add rfl rfl hI140) ?_; clear ha a; intro a ha
                refine op_g ha rfl (g_move rfl) ?_; clear ha a; intro a ha
                refine wpList_nil ?_
                replace ha := ha.sub (σ' := [(1, (.pointer (some ⟨b1, 0, none⟩))), (3, (.int .i64 (a0_0.length : Int))), (20, va0_0), (21, (.int .i64 (a0_0.length : Int))), (22, (.int .i64 (i56 + 1))), (32, v119), (33, (.int .i64 i56)), (34, (.bool x131))]) ⟨rfl, rfl, rfl, rfl, rfl, rfl, rfl, rfl, trivial⟩
                refine e_lq ?_
                obtain rfl := Option.some.inj hF
                exact ⟨_, Nat.lt_succ_self _, i56 + 1, ha.sub ⟨rfl, rfl, rfl, rfl, rfl, trivial⟩, hE136, hI140, hB54, z55, hN104⟩
          · replace hF := if_f hp107 hF
            refine wp_exit ?_
            refine e_then_exit ?_
            refine e_lq_eq ?_
            obtain rfl := Option.some.inj hF
            exact ⟨ha.sub ⟨rfl, trivial⟩, hE58, hB54, z55, (LK_inr hN104).symm⟩
      · rintro a w95 ⟨ha, hE103, hB96, z97, rfl⟩
        have hF : F_impl_GraphOk_k2 a0_0 = some _ := hK100; clear hK100; unfold F_impl_GraphOk_k2 at hF
        refine e_then ?_
        refine wp_seq ?_
        refine wp_seq ?_
        refine wp_region_lit ?_
        refine op_g ha rfl (g_field0 st30_0 rfl) ?_; clear ha a; intro a ha
        refine op_g ha rfl (g_load Tryd.isAgg22 rfl (hB96.cell rfl)) ?_; clear ha a; intro a ha
        refine op_g ha rfl (g_lenR sl22.und ha0_0 rfl) ?_; clear ha a; intro a ha
        refine op_g ha rfl (g_move rfl) ?_; clear ha a; intro a ha
        refine wpList_nil ?_
        replace ha := ha.sub (σ' := [(1, (.pointer (some ⟨b1, 0, none⟩))), (38, va0_0), (39, (.int .i64 (a0_0.length : Int))), (40, (.int .i64 0))]) ⟨rfl, rfl, rfl, rfl, trivial⟩
        refine e_then ?_
        obtain ⟨o477, ho478, hK479⟩ := bnd_some hF
        obtain ⟨n480, hn481⟩ := lp_some ho478; clear ho478
        refine c_loop (fun a w => Fr 61 [] a ∧ Chg [] W w ∧ o477 = .inl ()) (fun n a w => ∃ (i311 : Int), Fr 61 [(1, (.pointer (some ⟨b1, 0, none⟩))), (38, va0_0), (39, (.int .i64 (a0_0.length : Int))), (40, (.int .i64 i311))] a ∧ Chg [] W w ∧ InI i311 ∧ Bx w b1 [va0_0] 30 ∧ Zn W (b1 : Int) ∧ lpN (fun s => F_impl_GraphOk_l3 a0_0 s) n i311 = some o477) n480 ⟨0, ha.sub ⟨rfl, rfl, rfl, rfl, trivial⟩, hE103, (show InI 0 from by decide), hB96, z97, hn481⟩ ?_ ?_
        · rintro m485 a w308 ⟨i311, ha, hE313, hI312, hB309, z310, hF⟩
          cases m485 with
          | zero => exact (lpN_zero hF).elim
          | succ m485 =>
            obtain ⟨z484, hF, hN483⟩ := lpN_succ hF
            have hF : F_impl_GraphOk_l3 a0_0 i311 = some z484 := hF; unfold F_impl_GraphOk_l3 at hF
            refine wp_seq ?_
            refine wp_region_lit ?_
            refine op_g ha rfl (g_lss rfl rfl) ?_; clear ha a; intro a ha
            refine wpList_nil ?_
            replace ha := ha.sub (σ' := [(1, (.pointer (some ⟨b1, 0, none⟩))), (38, va0_0), (39, (.int .i64 (a0_0.length : Int))), (40, (.int .i64 i311)), (41, (.bool (decide (i311 < (a0_0.length : Int)))))]) ⟨rfl, rfl, rfl, rfl, rfl, trivial⟩
            refine e_then ?_
            refine wp_seq ?_
            refine c_cond (i311 < (a0_0.length : Int)) ha rfl (decide_eq_true_iff) (fun hp486 => ?_) (fun hp486 => ?_)
            · replace hF := if_t hp486 hF
              refine wp_skip ?_
              refine e_then ?_
              refine wp_seq ?_
              refine wp_block ?_
              refine wp_seq ?_
              refine wp_region_lit ?_
              refine op_g ha rfl (g_move rfl) ?_; clear ha a; intro a ha
              obtain ⟨x487, g488, gx489, hF⟩ := idx_some hF
              obtain ⟨p490, cs491, f492, hf493, hpb494, hat495, hr496, hi497⟩ := ha0_0.at g488 gx489
              obtain ⟨v498, rfl, h499⟩ := hr496
              have h499 : Ro Rp.int W f492 v498 x487 := h499
              refine op_g ha rfl (hi497.gives sl22 rfl rfl) ?_; clear ha a; intro a ha
              refine op_g ha rfl (g_load0 hE313 Tryd.isAgg45 rfl hat495.one) ?_; clear ha a; intro a ha
              refine op_g ha rfl (g_assign rfl) ?_; clear ha a; intro a ha
              refine op_g ha rfl (g_assign rfl) ?_; clear ha a; intro a ha
              refine wpList_nil ?_
              replace ha := ha.sub (σ' := [(1, (.pointer (some ⟨b1, 0, none⟩))), (6, (.int .i64 i311)), (7, v498), (38, va0_0), (39, (.int .i64 (a0_0.length : Int))), (40, (.int .i64 i311))]) ⟨rfl, rfl, rfl, rfl, rfl, rfl, trivial⟩
              refine e_then ?_
              refine wp_seq ?_
              refine wp_region_lit ?_
              refine op_g ha rfl (g_move rfl) ?_; clear ha a; intro a ha
              refine op_g ha rfl (g_lenR sl45.und h499 rfl) ?_; clear ha a; intro a ha
              refine op_g ha rfl (g_move rfl) ?_; clear ha a; intro a ha
              refine wpList_nil ?_
              replace ha := ha.sub (σ' := [(1, (.pointer (some ⟨b1, 0, none⟩))), (6, (.int .i64 i311)), (38, va0_0), (39, (.int .i64 (a0_0.length : Int))), (40, (.int .i64 i311)), (45, v498), (46, (.int .i64 (x487.length : Int))), (47, (.int .i64 0))]) ⟨rfl, rfl, rfl, rfl, rfl, rfl, rfl, rfl, trivial⟩
              refine e_then ?_
              obtain ⟨o596, ho597, hK598⟩ := bnd_some hF
              obtain ⟨n599, hn600⟩ := lp_some ho597; clear ho597
              refine c_loop (fun a w => Fr 61 [(1, (.pointer (some ⟨b1, 0, none⟩))), (38, va0_0), (39, (.int .i64 (a0_0.length : Int))), (40, (.int .i64 i311))] a ∧ Chg [] W w ∧ Bx w b1 [va0_0] 30 ∧ Zn W (b1 : Int) ∧ o596 = .inl ()) (fun n a w => ∃ (i549 : Int), Fr 61 [(1, (.pointer (some ⟨b1, 0, none⟩))), (6, (.int .i64 i311)), (38, va0_0), (39, (.int .i64 (a0_0.length : Int))), (40, (.int .i64 i311)), (45, v498), (46, (.int .i64 (x487.length : Int))), (47, (.int .i64 i549))] a ∧ Chg [] W w ∧ InI i549 ∧ Bx w b1 [va0_0] 30 ∧ Zn W (b1 : Int) ∧ lpN (fun s => F_impl_GraphOk_l4 a0_0 i311 x487 s) n i549 = some o596) n599 ⟨0, ha.sub ⟨rfl, rfl, rfl, rfl, rfl, rfl, rfl, rfl, trivial⟩, hE313, (show InI 0 from by decide), hB309, z310, hn600⟩ ?_ ?_
              · rintro m604 a w546 ⟨i549, ha, hE551, hI550, hB547, z548, hF⟩
                cases m604 with
                | zero => exact (lpN_zero hF).elim
                | succ m604 =>
                  obtain ⟨z603, hF, hN602⟩ := lpN_succ hF
                  have hF : F_impl_GraphOk_l4 a0_0 i311 x487 i549 = some z603 := hF; unfold F_impl_GraphOk_l4 at hF
                  refine wp_seq ?_
                  refine wp_region_lit ?_
                  refine op_g ha rfl (g_lss rfl rfl) ?_; clear ha a; intro a ha
                  refine wpList_nil ?_
                  replace ha := ha.sub (σ' := [(1, (.pointer (some ⟨b1, 0, none⟩))), (6, (.int .i64 i311)), (38, va0_0), (39, (.int .i64 (a0_0.length : Int))), (40, (.int .i64 i311)), (45, v498), (46, (.int .i64 (x487.length : Int))), (47, (.int .i64 i549)), (48, (.bool (decide (i549 < (x487.length : Int)))))]) ⟨rfl, rfl, rfl, rfl, rfl, rfl, rfl, rfl, rfl, trivial⟩
                  refine e_then ?_
                  refine wp_seq ?_
                  refine c_cond (i549 < (x487.length : Int)) ha rfl (decide_eq_true_iff) (fun hp605 => ?_) (fun hp605 => ?_)
                  · replace hF := if_t hp605 hF
                    refine wp_skip ?_
                    refine e_then ?_
                    refine wp_seq ?_
                    refine wp_block ?_
                    refine wp_seq ?_
                    refine wp_region_lit ?_
                    obtain ⟨x606, g607, gx608, hF⟩ := idx_some hF
                    obtain ⟨p609, cs610, f611, hf612, hpb613, hat614, hr615, hi616⟩ := h499.at g607 gx608
                    obtain ⟨rfl, hI617, rfl⟩ := hr615
                    refine op_g ha rfl (hi616.gives sl45 rfl rfl) ?_; clear ha a; intro a ha
                    refine op_g ha rfl (g_load0 hE551 Tryd.isAgg2 rfl hat614.one) ?_; clear ha a; intro a ha
                    refine op_g ha rfl (g_assign rfl) ?_; clear ha a; intro a ha
                    refine wpList_nil ?_
                    replace ha := ha.sub (σ' := [(1, (.pointer (some ⟨b1, 0, none⟩))), (6, (.int .i64 i311)), (9, (.int .i64 x606)), (38, va0_0), (39, (.int .i64 (a0_0.length : Int))), (40, (.int .i64 i311)), (45, v498), (46, (.int .i64 (x487.length : Int))), (47, (.int .i64 i549))]) ⟨rfl, rfl, rfl, rfl, rfl, rfl, rfl, rfl, rfl, trivial⟩
                    refine e_then ?_
                    refine wp_seq ?_
                    refine wp_region_lit ?_
                    refine op_g ha rfl (g_field0 st30_0 rfl) ?_; clear ha a; intro a ha
                    refine op_g ha rfl (g_load Tryd.isAgg22 rfl (hB547.cell rfl)) ?_; clear ha a; intro a ha
                    refine op_g ha rfl (g_move rfl) ?_; clear ha a; intro a ha
                    obtain ⟨x618, g619, gx620, hF⟩ := idx_some hF
                    obtain ⟨p621, cs622, f623, hf624, hpb625, hat626, hr627, hi628⟩ := ha0_0.at g619 gx620
                    obtain ⟨v629, rfl, h630⟩ := hr627
                    have h630 : Ro Rp.int W f623 v629 x618 := h630
                    refine op_g ha rfl (hi628.gives sl22 rfl rfl) ?_; clear ha a; intro a ha
                    refine op_g ha rfl (g_load0 hE551 Tryd.isAgg45 rfl hat626.one) ?_; clear ha a; intro a ha
                    refine op_g ha rfl (g_move rfl) ?_; clear ha a; intro a ha
                    obtain ⟨x632, hc633, hF⟩ := cal_some hF
                    refine o_call ha rfl rfl Tryd.call77 (W_slices_Contains_int64 (h630.ext hE551) hI312 hc633) ?_; clear ha a; rintro v634 w635 ⟨rfl, hx636⟩ a ha
                    replace hB547 := hB547.ext hx636
                    have hE637 := Ext.trans hE551 hx636
                    refine op_g ha rfl (g_not rfl) ?_; clear ha a; intro a ha
                    refine wpList_nil ?_
                    replace ha := ha.sub (σ' := [(1, (.pointer (some ⟨b1, 0, none⟩))), (6, (.int .i64 i311)), (38, va0_0), (39, (.int .i64 (a0_0.length : Int))), (40, (.int .i64 i311)), (45, v498), (46, (.int .i64 (x487.length : Int))), (47, (.int .i64 i549)), (58, (.bool (!x632)))]) ⟨rfl, rfl, rfl, rfl, rfl, rfl, rfl, rfl, rfl, trivial⟩
                    refine e_then ?_
                    refine c_cond (¬ (x632 = true)) ha rfl (n_iff (Iff.rfl)) (fun hp638 => ?_) (fun hp638 => ?_)
                    · replace hF := if_t hp638 hF
                      refine wp_seq ?_
                      refine wp_region_lit ?_
                      refine op_g ha rfl (g_assign rfl) ?_; clear ha a; intro a ha
                      refine wpList_nil ?_
                      replace ha := ha.sub (σ' := [(2, (.bool false))]) ⟨rfl, trivial⟩
                      refine e_then ?_
                      refine wp_ret ?_
                      refine e_blk_ret ?_
                      refine e_then_ret ?_
                      refine e_lq_ret ?_
                      refine e_blk_ret ?_
                      refine e_then_ret ?_
                      refine e_lq_ret ?_
                      refine e_then_ret ?_
                      obtain rfl := Option.some.inj hF
                      have e639 := LK_inr hN602; subst e639
                      have e640 := BK_inr hK598; subst e640
                      have e641 := LK_inr hN483; subst e641
                      have e642 := BK_inr hK479; subst e642
                      exact f_ret1 ha rfl rfl ⟨rfl, hE637⟩
                    · replace hF := if_f hp638 hF
                      refine wp_skip ?_
                      refine e_blk ?_
                      refine e_then ?_
                      refine wp_region_lit ?_
                      obtain ⟨hI643, hF⟩ := ck_some hF
                      refine op_g ha rfl (g_add rfl rfl hI643) ?_; clear ha a; intro a ha
                      refine op_g ha rfl (g_move rfl) ?_; clear ha a; intro a ha
                      refine wpList_nil ?_
                      replace ha := ha.sub (σ' := [(1, (.pointer (some ⟨b1, 0, none⟩))), (6, (.int .i64 i311)), (38, va0_0), (39, (.int .i64 (a0_0.length : Int))), (40, (.int .i64 i311)), (45, v498), (46, (.int .i64 (x487.length : Int))), (47, (.int .i64 (i549 + 1)))]) ⟨rfl, rfl, rfl, rfl, rfl, rfl, rfl, rfl, trivial⟩
                      refine e_lq ?_
                      obtain rfl := Option.some.inj hF
                      exact ⟨_, Nat.lt_succ_self _, i549 + 1, ha.sub ⟨rfl, rfl, rfl, rfl, rfl, rfl, rfl, rfl, trivial⟩, hE637, hI643, hB547, z548, hN602⟩
                  · replace hF := if_f hp605 hF
                    refine wp_exit ?_
                    refine e_then_exit ?_
                    refine e_lq_eq ?_
                    obtain rfl := Option.some.inj hF
                    exact ⟨ha.sub ⟨rfl, rfl, rfl, rfl, trivial⟩, hE551, hB547, z548, (LK_inr hN602).symm⟩
              · rintro a w593 ⟨ha, hE601, hB594, z595, rfl⟩
                have hF : F_impl_GraphOk_k5 i311 = some _ := hK598; clear hK598; unfold F_impl_GraphOk_k5 at hF
                refine e_blk ?_
                refine e_then ?_
                refine wp_region_lit ?_
                obtain ⟨hI645, hF⟩ := ck_some hF
                refine op_g ha rfl (g_add rfl rfl hI645) ?_; clear ha a; intro a ha
                refine op_g ha rfl (g_move rfl) ?_; clear ha a; intro a ha
                refine wpList_nil ?_
                replace ha := ha.sub (σ' := [(1, (.pointer (some ⟨b1, 0, none⟩))), (38, va0_0), (39, (.int .i64 (a0_0.length : Int))), (40, (.int .i64 (i311 + 1)))]) ⟨rfl, rfl, rfl, rfl, trivial⟩
                refine e_lq ?_
                obtain rfl := Option.some.inj hF
                exact ⟨_, Nat.lt_succ_self _, i311 + 1, ha.sub ⟨rfl, rfl, rfl, rfl, trivial⟩, hE601, hI645, hB594, z595, hN483⟩
            · replace hF := if_f hp486 hF
              refine wp_exit ?_
              refine e_then_exit ?_
              refine e_lq_eq ?_
              obtain rfl := Option.some.inj hF
              exact ⟨ha.sub trivial, hE313, (LK_inr hN483).symm⟩
        · rintro a w476 ⟨ha, hE482, rfl⟩
          have hF : F_impl_GraphOk_k6 = some _ := hK479; clear hK479; unfold F_impl_GraphOk_k6 at hF
          refine e_then ?_
          refine wp_seq ?_
          refine wp_region_lit ?_
          refine op_g ha rfl (g_assign rfl) ?_; clear ha a; intro a ha
          refine wpList_nil ?_
          refine e_then ?_
          refine wp_ret ?_
          obtain rfl := Option.some.inj hF
          exact f_ret1 ha rfl rfl ⟨rfl, hE482⟩
set_option maxHeartbeats 2000000 in
theorem W_slices_IndexFunc_Sint64 {W : World} {va0 : Value} {fa0 : List Nat} {a0 : (List (List Int))} (ha0 : Ro (Rp.sl 2 Rp.int) W fa0 va0 a0) {ga1 : FuncId} {ga1c : List Value} {a1 : (List Int) → Option Bool} (hga1 : ∀ w', Ext W w' → ∀ {vz0 : Value} {fz0 : List Nat} {z0 : (List Int)} (hz0 : Ro Rp.int w' fz0 vz0 z0) {r : Bool}, a1 z0 = some r → Calls Tryd.prog ga1 (([vz0] : List Value) ++ ga1c).toArray w' (Ret fun u w'' => u = .bool r ∧ Ext w' w'')) (hca1 : ∀ args w, (callFunc ga1 args).run Tryd.prog w = .ok (.enter ga1 args) w) {r : Int} (hF : F_slices_IndexFunc_Sint64 a0 a1 = some r) :
    Calls Tryd.prog 99 [va0, .func (.func ga1) #[] ga1c.toArray].toArray W (Ret fun u w' => (u = .int .i64 r ∧ InI r) ∧ Ext W w') := by
  refine f_enter Tryd.func99 rfl Tryd.ntmps99 rfl ?_
  intro a ha
  replace ha : Fr 19 [(0, va0), (1, (.func (.func ga1) #[] ga1c.toArray))] a := ha
  have hE : Chg [] W W := Chg.refl _ _
  unfold F_slices_IndexFunc_Sint64 at hF
  refine wp_seq ?_
  refine wp_region_lit ?_
  refine op_g ha rfl (g_assign rfl) ?_; clear ha a; intro a ha
  refine wpList_nil ?_
  replace ha := ha.sub (σ' := [(0, va0), (1, (.func (.func ga1) #[] ga1c.toArray))]) ⟨rfl, rfl, trivial⟩
  refine e_then ?_
  refine wp_seq ?_
  refine wp_seq ?_
  refine wp_region_lit ?_
  refine op_g ha rfl (g_move rfl) ?_; clear ha a; intro a ha
  refine op_g ha rfl (g_lenR sl22.und ha0 rfl) ?_; clear ha a; intro a ha
  refine op_g ha rfl (g_move rfl) ?_; clear ha a; intro a ha
  refine wpList_nil ?_
  replace ha := ha.sub (σ' := [(0, va0), (1, (.func (.func ga1) #[] ga1c.toArray)), (7, (.int .i64 (a0.length : Int))), (8, (.int .i64 0))]) ⟨rfl, rfl, rfl, rfl, trivial⟩
  refine e_then ?_
  obtain ⟨o62, ho63, hK64⟩ := bnd_some hF
  obtain ⟨n65, hn66⟩ := lp_some ho63; clear ho63
  refine c_loop (fun a w => Fr 19 [] a ∧ Chg [] W w ∧ o62 = .inl ()) (fun n a w => ∃ (i31 : Int), Fr 19 [(0, va0), (1, (.func (.func ga1) #[] ga1c.toArray)), (7, (.int .i64 (a0.length : Int))), (8, (.int .i64 i31))] a ∧ Chg [] W w ∧ InI i31 ∧ lpN (fun s => F_slices_IndexFunc_Sint64_l1 a0 a1 s) n i31 = some o62) n65 ⟨0, ha.sub ⟨rfl, rfl, rfl, rfl, trivial⟩, hE, (show InI 0 from by decide), hn66⟩ ?_ ?_
  · rintro m70 a w30 ⟨i31, ha, hE33, hI32, hF⟩
    cases m70 with
    | zero => exact (lpN_zero hF).elim
    | succ m70 =>
      obtain ⟨z69, hF, hN68⟩ := lpN_succ hF
      have hF : F_slices_IndexFunc_Sint64_l1 a0 a1 i31 = some z69 := hF; unfold F_slices_IndexFunc_Sint64_l1 at hF
      refine wp_seq ?_
      refine wp_region_lit ?_
      refine op_g ha rfl (g_lss rfl rfl) ?_; clear ha a; intro a ha
      refine wpList_nil ?_
      replace ha := ha.sub (σ' := [(0, va0), (1, (.func (.func ga1) #[] ga1c.toArray)), (7, (.int .i64 (a0.length : Int))), (8, (.int .i64 i31)), (9, (.bool (decide (i31 < (a0.length : Int)))))]) ⟨rfl, rfl, rfl, rfl, rfl, trivial⟩
      refine e_then ?_
      refine wp_seq ?_
      refine c_cond (i31 < (a0.length : Int)) ha rfl (decide_eq_true_iff) (fun hp71 => ?_) (fun hp71 => ?_)
      · replace hF := if_t hp71 hF
        refine wp_skip ?_
        refine e_then ?_
        refine wp_seq ?_
        refine wp_block ?_
        refine wp_seq ?_
        refine wp_region_lit ?_
        refine op_g ha rfl (g_move rfl) ?_; clear ha a; intro a ha
        refine op_g ha rfl (g_assign rfl) ?_; clear ha a; intro a ha
        refine wpList_nil ?_
        replace ha := ha.sub (σ' := [(0, va0), (1, (.func (.func ga1) #[] ga1c.toArray)), (5, (.int .i64 i31)), (7, (.int .i64 (a0.length : Int))), (8, (.int .i64 i31))]) ⟨rfl, rfl, rfl, rfl, rfl, trivial⟩
        refine e_then ?_
        refine wp_seq ?_
        refine wp_region_lit ?_
        refine op_g ha rfl (g_move rfl) ?_; clear ha a; intro a ha
        refine op_g ha rfl (g_move rfl) ?_; clear ha a; intro a ha
        refine op_g ha rfl (g_move rfl) ?_; clear ha a; intro a ha
        obtain ⟨x72, g73, gx74, hF⟩ := idx_some hF
        obtain ⟨p75, cs76, f77, hf78, hpb79, hat80, hr81, hi82⟩ := ha0.at g73 gx74
        obtain ⟨v83, rfl, h84⟩ := hr81
        have h84 : Ro Rp.int W f77 v83 x72 := h84
        refine op_g ha rfl (hi82.gives sl22 rfl rfl) ?_; clear ha a; intro a ha
        refine op_g ha rfl (g_load0 hE33 Tryd.isAgg45 rfl hat80.one) ?_; clear ha a; intro a ha
        obtain ⟨x86, hc87, hF⟩ := cal_some hF
        refine o_callv ha rfl rfl rfl hca1 (hga1 _ hE33 (h84.ext hE33) hc87) ?_; clear ha a; rintro v88 w89 ⟨rfl, hx90⟩ a ha
        have hE91 := Ext.trans hE33 hx90
        refine wpList_nil ?_
        replace ha := ha.sub (σ' := [(0, va0), (1, (.func (.func ga1) #[] ga1c.toArray)), (5, (.int .i64 i31)), (7, (.int .i64 (a0.length : Int))), (8, (.int .i64 i31)), (16, (.bool x86))]) ⟨rfl, rfl, rfl, rfl, rfl, rfl, trivial⟩
        refine e_then ?_
        refine c_cond (x86 = true) ha rfl (Iff.rfl) (fun hp92 => ?_) (fun hp92 => ?_)
        · replace hF := if_t hp92 hF
          refine wp_seq ?_
          refine wp_region_lit ?_
          refine op_g ha rfl (g_move rfl) ?_; clear ha a; intro a ha
          refine op_g ha rfl (g_assign rfl) ?_; clear ha a; intro a ha
          refine wpList_nil ?_
          replace ha := ha.sub (σ' := [(4, (.int .i64 i31))]) ⟨rfl, trivial⟩
          refine e_then ?_
          refine wp_ret ?_
          refine e_blk_ret ?_
          refine e_then_ret ?_
          refine e_lq_ret ?_
          refine e_then_ret ?_
          obtain rfl := Option.some.inj hF
          have e93 := LK_inr hN68; subst e93
          have e94 := BK_inr hK64; subst e94
          exact f_ret1 ha rfl rfl ⟨⟨rfl, hI32⟩, hE91⟩
        · replace hF := if_f hp92 hF
          refine wp_skip ?_
          refine e_blk ?_
          refine e_then ?_
          refine wp_region_lit ?_
          obtain ⟨hI95, hF⟩ := ck_some hF
          refine op_g ha rfl (g_add rfl rfl hI95) ?_; clear ha a; intro a ha
          refine op_g ha rfl (g_move rfl) ?_; clear ha a; intro a ha
          refine wpList_nil ?_
          replace ha := ha.sub (σ' := [(0, va0), (1, (.func (.func ga1) #[] ga1c.toArray)), (7, (.int .i64 (a0.length : Int))), (8, (.int .i64 (i31 + 1)))]) ⟨rfl, rfl, rfl, rfl, trivial⟩
          refine e_lq ?_
          obtain rfl := Option.some.inj hF
          exact ⟨_, Nat.lt_succ_self _, i31 + 1, ha.sub ⟨rfl, rfl, rfl, rfl, trivial⟩, hE91, hI95, hN68⟩
      · replace hF := if_f hp71 hF
        refine wp_exit ?_
        refine e_then_exit ?_
        refine e_lq_eq ?_
        obtain rfl := Option.some.inj hF
        exact ⟨ha.sub trivial, hE33, (LK_inr hN68).symm⟩
  · rintro a w61 ⟨ha, hE67, rfl⟩
    have hF : F_slices_IndexFunc_Sint64_k2 = some _ := hK64; clear hK64; unfold F_slices_IndexFunc_Sint64_k2 at hF
    refine e_then ?_
    refine wp_seq ?_
    refine wp_region_lit ?_
    refine op_g ha rfl (g_assign rfl) ?_; clear ha a; intro a ha
    refine wpList_nil ?_
    refine e_then ?_
    refine wp_ret ?_
    obtain rfl := Option.some.inj hF
    exact f_ret1 ha rfl rfl ⟨⟨rfl, (show InI (-1) from by decide)⟩, hE67⟩
set_option maxHeartbeats 2000000 in
theorem W_slices_ContainsFunc_Sint64 {W : World} {va0 : Value} {fa0 : List Nat} {a0 : (List (List Int))} (ha0 : Ro (Rp.sl 2 Rp.int) W fa0 va0 a0) {ga1 : FuncId} {ga1c : List Value} {a1 : (List Int) → Option Bool} (hga1 : ∀ w', Ext W w' → ∀ {vz0 : Value} {fz0 : List Nat} {z0 : (List Int)} (hz0 : Ro Rp.int w' fz0 vz0 z0) {r : Bool}, a1 z0 = some r → Calls Tryd.prog ga1 (([vz0] : List Value) ++ ga1c).toArray w' (Ret fun u w'' => u = .bool r ∧ Ext w' w'')) (hca1 : ∀ args w, (callFunc ga1 args).run Tryd.prog w = .ok (.enter ga1 args) w) {r : Bool} (hF : F_slices_ContainsFunc_Sint64 a0 a1 = some r) :
    Calls Tryd.prog 78 [va0, .func (.func ga1) #[] ga1c.toArray].toArray W (Ret fun u w' => u = .bool r ∧ Ext W w') := by
  refine f_enter Tryd.func78 rfl Tryd.ntmps78 rfl ?_
  intro a ha
  replace ha : Fr 9 [(0, va0), (1, (.func (.func ga1) #[] ga1c.toArray))] a := ha
  have hE : Chg [] W W := Chg.refl _ _
  unfold F_slices_ContainsFunc_Sint64 at hF
  refine wp_seq ?_
  refine wp_region_lit ?_
  refine op_g ha rfl (g_assign rfl) ?_; clear ha a; intro a ha
  refine wpList_nil ?_
  replace ha := ha.sub (σ' := [(0, va0), (1, (.func (.func ga1) #[] ga1c.toArray))]) ⟨rfl, rfl, trivial⟩
  refine e_then ?_
  refine wp_seq ?_
  refine wp_region_lit ?_
  refine op_g ha rfl (g_move rfl) ?_; clear ha a; intro a ha
  refine op_g ha rfl (g_move rfl) ?_; clear ha a; intro a ha
  obtain ⟨x2, hc3, hF⟩ := cal_some hF
  refine o_call ha rfl rfl Tryd.call99 (W_slices_IndexFunc_Sint64 (ha0.ext hE) (fun w hx => hga1 w (Ext.trans hE hx)) hca1 hc3) ?_; clear ha a; rintro v4 w5 ⟨⟨rfl, hI7⟩, hx6⟩ a ha
  have hE8 := Ext.trans hE hx6
  refine op_g ha rfl (g_geq rfl rfl) ?_; clear ha a; intro a ha
  refine op_g ha rfl (g_assign rfl) ?_; clear ha a; intro a ha
  refine wpList_nil ?_
  replace ha := ha.sub (σ' := [(4, (.bool (decide (0 ≤ x2))))]) ⟨rfl, trivial⟩
  refine e_then ?_
  refine wp_ret ?_
  obtain rfl := Option.some.inj hF
  exact f_ret1 ha rfl rfl ⟨rfl, hE8⟩
set_option maxHeartbeats 2000000 in
theorem W_impl_goodLinks_1 {W : World} {va0 : Value} {fa0 : List Nat} {a0 : (List Int)} (ha0 : Ro Rp.int W fa0 va0 a0) {y0 : Int} (hy0 : InI y0) {bc0 : Nat} (hbc0 : Bx W bc0 [.int .i64 y0] 3) {r : Bool} (hF : F_impl_goodLinks_1 a0 y0 = some r) :
    Calls Tryd.prog 79 [va0, .pointer (some ⟨bc0, 0, none⟩)].toArray W (Ret fun u w' => u = .bool r ∧ Ext W w') := by
  refine f_enter Tryd.func79 rfl Tryd.ntmps79 rfl ?_
  intro a ha
  replace ha : Fr 13 [(0, va0), (1, (.pointer (some ⟨bc0, 0, none⟩)))] a := ha
  have hE : Chg [] W W := Chg.refl _ _
  unfold F_impl_goodLinks_1 at hF
  refine wp_seq ?_
  refine wp_region_lit ?_
  refine op_g ha rfl (g_assign rfl) ?_; clear ha a; intro a ha
  refine wpList_nil ?_
  replace ha := ha.sub (σ' := [(0, va0), (1, (.pointer (some ⟨bc0, 0, none⟩)))]) ⟨rfl, rfl, trivial⟩
  refine e_then ?_
  refine wp_seq ?_
  refine wp_region_lit ?_
  refine op_g ha rfl (g_move rfl) ?_; clear ha a; intro a ha
  refine op_g ha rfl (g_lenR sl45.und ha0 rfl) ?_; clear ha a; intro a ha
  refine op_g ha rfl (g_neq rfl rfl) ?_; clear ha a; intro a ha
  refine op_g ha rfl (g_move rfl) ?_; clear ha a; intro a ha
  by_cases hp1 : (a0.length : Int) ≠ 2
  · replace hF := if_t hp1 hF
    rw [show (decide ((a0.length : Int) ≠ 2)) = true from (decide_eq_true_iff).2 hp1] at ha
    refine op_unwant ha rfl (yields ha rfl rfl) rfl ?_; clear ha a; intro a ha
    refine op_unwant ha rfl (yields ha rfl rfl) rfl ?_; clear ha a; intro a ha
    refine op_unwant ha rfl (yields ha rfl rfl) rfl ?_; clear ha a; intro a ha
    refine op_unwant ha rfl (yields ha rfl rfl) rfl ?_; clear ha a; intro a ha
    refine op_g ha rfl (g_pick rfl rfl) ?_; clear ha a; intro a ha
    refine op_g ha rfl (g_assign rfl) ?_; clear ha a; intro a ha
    refine wpList_nil ?_
    replace ha := ha.sub (σ' := [(3, (.bool true))]) ⟨rfl, trivial⟩
    refine e_then ?_
    refine wp_ret ?_
    obtain rfl := Option.some.inj hF
    exact f_ret1 ha rfl rfl ⟨rfl, hE⟩
  · replace hF := if_f hp1 hF
    rw [show (decide ((a0.length : Int) ≠ 2)) = false from b_false (decide_eq_true_iff) hp1] at ha
    refine op_want (yields ha rfl rfl) ?_
    refine op_g ha rfl (g_move rfl) ?_; clear ha a; intro a ha
    refine op_want (yields ha rfl rfl) ?_
    refine op_g ha rfl (g_load Tryd.isAgg3 rfl ((hbc0.ext hE).cell rfl)) ?_; clear ha a; intro a ha
    refine op_want (yields ha rfl rfl) ?_
    obtain ⟨x2, hc3, hF⟩ := cal_some hF
    refine o_call ha rfl rfl Tryd.call39 (W_impl_increasing (ha0.ext hE) hy0 hc3) ?_; clear ha a; rintro v4 w5 ⟨rfl, hx6⟩ a ha
    have hE7 := Ext.trans hE hx6
    refine op_want (yields ha rfl rfl) ?_
    refine op_g ha rfl (g_not rfl) ?_; clear ha a; intro a ha
    refine op_g ha rfl (g_pick rfl rfl) ?_; clear ha a; intro a ha
    refine op_g ha rfl (g_assign rfl) ?_; clear ha a; intro a ha
    refine wpList_nil ?_
    replace ha := ha.sub (σ' := [(3, (.bool (!x2)))]) ⟨rfl, trivial⟩
    refine e_then ?_
    refine wp_ret ?_
    obtain rfl := Option.some.inj hF
    exact f_ret1 ha rfl rfl ⟨rfl, hE7⟩
set_option maxHeartbeats 2000000 in
theorem W_impl_goodLinks {W : World} {va0 : Value} {fa0 : List Nat} {a0 : (List (List Int))} (ha0 : Ro (Rp.sl 2 Rp.int) W fa0 va0 a0) {a1 : Int} (ha1 : InI a1) {r : Bool} (hF : F_impl_goodLinks a0 a1 = some r) :
    Calls Tryd.prog 38 [va0, .int .i64 a1].toArray W (Ret fun u w' => u = .bool r ∧ Ext W w') := by
  refine f_enter Tryd.func38 rfl Tryd.ntmps38 rfl ?_
  intro a ha
  replace ha : Fr 9 [(0, va0), (1, (.int .i64 a1))] a := ha
  have hE : Chg [] W W := Chg.refl _ _
  unfold F_impl_goodLinks at hF
  refine wp_seq ?_
  refine wp_region_lit ?_
  refine o_box ha rfl rfl rfl ?_; clear ha a; intro b1 w2 hB3 hx4 hlo5 a ha
  have q6 := Zn.one hlo5
  have q7 := Zn.upD q6 hE
  have hE8 := Ext.trans hE hx4
  refine op_g ha rfl (g_assign rfl) ?_; clear ha a; intro a ha
  refine wpList_nil ?_
  replace ha := ha.sub (σ' := [(0, va0), (3, (.pointer (some ⟨b1, 0, none⟩)))]) ⟨rfl, rfl, trivial⟩
  refine e_then ?_
  refine wp_seq ?_
  refine wp_region_lit ?_
  refine op_g ha rfl (g_move rfl) ?_; clear ha a; intro a ha
  refine op_g ha rfl (g_func rfl rfl) ?_; clear ha a; intro a ha
  obtain ⟨x11, hc12, hF⟩ := cal_some hF
  refine o_call ha rfl rfl Tryd.call78 (W_slices_ContainsFunc_Sint64 (ha0.ext hE8) (by intro _ hy10 vz9 fz9 z9 hz9 r hr; exact W_impl_goodLinks_1 hz9 ha1 (hB3.ext hy10) hr) Tryd.call79 hc12) ?_; clear ha a; rintro v13 w14 ⟨rfl, hx15⟩ a ha
  replace hB3 := hB3.ext hx15
  have hE16 := Ext.trans hE8 hx15
  refine op_g ha rfl (g_not rfl) ?_; clear ha a; intro a ha
  refine op_g ha rfl (g_assign rfl) ?_; clear ha a; intro a ha
  refine wpList_nil ?_
  replace ha := ha.sub (σ' := [(4, (.bool (!x11)))]) ⟨rfl, trivial⟩
  refine e_then ?_
  refine wp_ret ?_
  obtain rfl := Option.some.inj hF
  exact f_ret1 ha rfl rfl ⟨rfl, hE16⟩
set_option maxHeartbeats 2000000 in
theorem W_impl_one {W : World} {a0 : Int} (ha0 : InI a0) {r : (BitVec 32)} (hF : F_impl_one a0 = some r) :
    Calls Tryd.prog 47 [.int .i64 a0].toArray W (Ret fun u w' => u = .int .u32 (BitVec.toNat r : Int) ∧ Ext W w') := by
  refine f_enter Tryd.func47 rfl Tryd.ntmps47 rfl ?_
  intro a ha
  replace ha : Fr 5 [(0, (.int .i64 a0))] a := ha
  have hE : Chg [] W W := Chg.refl _ _
  unfold F_impl_one at hF
  refine wp_seq ?_
  refine wp_region_lit ?_
  refine op_g ha rfl (g_assign rfl) ?_; clear ha a; intro a ha
  refine wpList_nil ?_
  replace ha := ha.sub (σ' := [(0, (.int .i64 a0))]) ⟨rfl, trivial⟩
  refine e_then ?_
  refine wp_seq ?_
  refine wp_region_lit ?_
  refine op_g ha rfl (g_move rfl) ?_; clear ha a; intro a ha
  obtain ⟨hs1, hF⟩ := grd_some hF
  refine op_g ha rfl (g32_shl (m := (1#32)) rfl rfl hs1) ?_; clear ha a; intro a ha
  refine op_g ha rfl (g_assign rfl) ?_; clear ha a; intro a ha
  refine wpList_nil ?_
  replace ha := ha.sub (σ' := [(2, (.int .u32 (BitVec.toNat ((1#32) <<< (a0 : Int).toNat) : Int)))]) ⟨rfl, trivial⟩
  refine e_then ?_
  refine wp_ret ?_
  obtain rfl := Option.some.inj hF
  exact f_ret1 ha rfl rfl ⟨rfl, hE⟩
set_option maxHeartbeats 2000000 in
theorem W_impl_nets_join {W : World} {va0 : Value} {ba0 : Int} {a0 : (List (BitVec 32))} (ha0 : Ow Rp.u32 69 true W [] ba0 va0 a0) {a1 : Int} (ha1 : InI a1) {a2 : Int} (ha2 : InI a2) {r : (List (BitVec 32))} (hF : F_impl_nets_join a0 a1 a2 = some r) :
    Calls Tryd.prog 81 [va0, .int .i64 a1, .int .i64 a2].toArray W (Ret fun u w' => u = .tuple #[] ∧ Ow Rp.u32 69 true w' [] ba0 va0 r ∧ Chg (bl ba0) W w') := by
  refine f_enter Tryd.func81 rfl Tryd.ntmps81 rfl ?_
  intro a ha
  replace ha : Fr 22 [(0, va0), (1, (.int .i64 a1)), (2, (.int .i64 a2))] a := ha
  have hE : Chg (bl ba0) W W := Chg.refl _ _
  unfold F_impl_nets_join at hF
  refine wp_seq ?_
  refine d_region [0, 1, 2, 3, 4, 5, 6, 7] hmix ?_
  refine u_g 0 rfl (by kernel_rfl) (want0 _) ha rfl (g_move rfl) ?_; clear ha a; intro a ha
  refine u_g 1 rfl (by kernel_rfl) (want0 _) ha rfl (g_move rfl) ?_; clear ha a; intro a ha
  obtain ⟨x1, g2, gx3, hF⟩ := idx_some hF
  obtain ⟨p4, cs5, f6, hf7, hpb8, hat9, hr10, hi11⟩ := ha0.at g2 gx3
  obtain ⟨rfl, rfl⟩ := hr10
  refine u_g 2 rfl (by kernel_rfl) (want0 _) ha rfl (hi11.gives sl64 rfl rfl) ?_; clear ha a; intro a ha
  refine u_g 3 rfl (by kernel_rfl) (want0 _) ha rfl (g_load Tryd.isAgg69 rfl hat9.one) ?_; clear ha a; intro a ha
  refine u_g 4 rfl (by kernel_rfl) (want0 _) ha rfl (g_move rfl) ?_; clear ha a; intro a ha
  obtain ⟨x14, hc15, hF⟩ := cal_some hF
  refine u_call (.int .u32 (BitVec.toNat x14 : Int)) 5 rfl (by kernel_rfl) (want0 _) ha rfl rfl Tryd.call47 (fun w13 hx12 => W_impl_one ha2 hc15) (fun _ _ _ h => ⟨h.1, h.2⟩) ?_; clear ha a; intro a ha
  refine u_g 6 rfl (by kernel_rfl) (want0 _) ha rfl (g32_or (m := x1) (n := x14) rfl rfl) ?_; clear ha a; intro a ha
  obtain ⟨x16, g17, gx18, hF⟩ := idx_some hF
  obtain ⟨p19, cs20, f21, hf22, hpb23, hat24, hr25, hi26⟩ := ha0.at g17 gx18
  obtain ⟨rfl, rfl⟩ := hr25
  refine u_g 7 rfl (by kernel_rfl) (want0 _) ha rfl (hi26.gives sl64 rfl rfl) ?_; clear ha a; intro a ha
  refine u_only 8 rfl (by kernel_rfl) ?_; intro w27 hx28
  replace ha0 := ha0.ext hx28
  have hE29 := Chg.more hE hx28
  refine o_storeE (f := []) (q := x1 ||| x14) ha Tryd.sizeOf69 rfl rfl rfl ha0 hi26 ⟨rfl, rfl⟩ (Nq.nil _) ?_; intro w30 fs31 h32 hc33 hs34
  obtain rfl := Subst.nil hs34
  have hE35 := Chg.same hE29 hc33
  refine wpList_nil (e_sq ?_)
  refine ⟨fun h => absurd h (by decide), ?_⟩
  refine u_done (by kernel_rfl) ?_; intro w36 hx37
  replace h32 := h32.ext hx37
  have hE38 := Chg.more hE35 hx37
  replace ha := ha.sub (σ' := [(0, va0), (1, (.int .i64 a1)), (2, (.int .i64 a2))]) ⟨rfl, rfl, rfl, trivial⟩
  refine e_then ?_
  refine d_region [0, 1, 2, 3, 4, 5, 6, 7] hmix ?_
  refine u_g 0 rfl (by kernel_rfl) (want0 _) ha rfl (g_move rfl) ?_; clear ha a; intro a ha
  refine u_g 1 rfl (by kernel_rfl) (want0 _) ha rfl (g_move rfl) ?_; clear ha a; intro a ha
  obtain ⟨x39, g40, gx41, hF⟩ := idx_some hF
  obtain ⟨p42, cs43, f44, hf45, hpb46, hat47, hr48, hi49⟩ := h32.at g40 gx41
  obtain ⟨rfl, rfl⟩ := hr48
  refine u_g 2 rfl (by kernel_rfl) (want0 _) ha rfl (hi49.gives sl64 rfl rfl) ?_; clear ha a; intro a ha
  refine u_g 3 rfl (by kernel_rfl) (want0 _) ha rfl (g_load Tryd.isAgg69 rfl hat47.one) ?_; clear ha a; intro a ha
  refine u_g 4 rfl (by kernel_rfl) (want0 _) ha rfl (g_move rfl) ?_; clear ha a; intro a ha
  obtain ⟨x52, hc53, hF⟩ := cal_some hF
  refine u_call (.int .u32 (BitVec.toNat x52 : Int)) 5 rfl (by kernel_rfl) (want0 _) ha rfl rfl Tryd.call47 (fun w51 hx50 => W_impl_one ha1 hc53) (fun _ _ _ h => ⟨h.1, h.2⟩) ?_; clear ha a; intro a ha
  refine u_g 6 rfl (by kernel_rfl) (want0 _) ha rfl (g32_or (m := x39) (n := x52) rfl rfl) ?_; clear ha a; intro a ha
  obtain ⟨x54, g55, gx56, hF⟩ := idx_some hF
  obtain ⟨p57, cs58, f59, hf60, hpb61, hat62, hr63, hi64⟩ := h32.at g55 gx56
  obtain ⟨rfl, rfl⟩ := hr63
  refine u_g 7 rfl (by kernel_rfl) (want0 _) ha rfl (hi64.gives sl64 rfl rfl) ?_; clear ha a; intro a ha
  refine u_only 8 rfl (by kernel_rfl) ?_; intro w65 hx66
  replace h32 := h32.ext hx66
  have hE67 := Chg.more hE38 hx66
  refine o_storeE (f := []) (q := x39 ||| x52) ha Tryd.sizeOf69 rfl rfl rfl h32 hi64 ⟨rfl, rfl⟩ (Nq.nil _) ?_; intro w68 fs69 h70 hc71 hs72
  obtain rfl := Subst.nil hs72
  have hE73 := Chg.same hE67 hc71
  refine wpList_nil (e_sq ?_)
  refine ⟨fun h => absurd h (by decide), ?_⟩
  refine u_done (by kernel_rfl) ?_; intro w74 hx75
  replace h70 := h70.ext hx75
  have hE76 := Chg.more hE73 hx75
  replace ha := ha.sub (σ' := []) trivial
  obtain rfl := Option.some.inj hF
  exact f_end0 ha rfl ⟨rfl, h70, hE76⟩
set_option maxHeartbeats 2000000 in
theorem W_impl_linkNets {W : World} {va0_0 : Value} {fa0_0 : List Nat} {a0_0 : (List (List Int))} (ha0_0 : Ro (Rp.sl 2 Rp.int) W fa0_0 va0_0 a0_0) {va0_1 : Value} {fa0_1 : List Nat} {a0_1 : (List (List Int))} (ha0_1 : Ro (Rp.sl 2 Rp.int) W fa0_1 va0_1 a0_1) {r : (List (BitVec 32))} (hF : F_impl_linkNets a0_0 a0_1 = some r) :
    Calls Tryd.prog 40 [.agg #[va0_0, va0_1]].toArray W (Ret fun u w' => ∃ (b_u : Int), Ow Rp.u32 69 true w' [] b_u u r ∧ Zn W b_u ∧ Ext W w') := by
  refine f_enter Tryd.func40 rfl Tryd.ntmps40 rfl ?_
  intro a ha
  replace ha : Fr 27 [(0, (.agg #[va0_0, va0_1]))] a := ha
  have hE : Chg [] W W := Chg.refl _ _
  unfold F_impl_linkNets at hF
  refine wp_seq ?_
  refine wp_region_lit ?_
  refine o_box ha rfl rfl rfl ?_; clear ha a; intro b1 w2 hB3 hx4 hlo5 a ha
  have q6 := Zn.one hlo5
  have q7 := Zn.upD q6 hE
  have hE8 := Ext.trans hE hx4
  refine op_g ha rfl (g_assign rfl) ?_; clear ha a; intro a ha
  refine wpList_nil ?_
  replace ha := ha.sub (σ' := [(1, (.pointer (some ⟨b1, 0, none⟩)))]) ⟨rfl, trivial⟩
  refine e_then ?_
  refine wp_seq ?_
  refine wp_region_lit ?_
  refine op_g ha rfl (g_field0 st32_0 rfl) ?_; clear ha a; intro a ha
  refine op_g ha rfl (g_load Tryd.isAgg22 rfl (hB3.cell rfl)) ?_; clear ha a; intro a ha
  refine op_g ha rfl (g_lenR sl22.und ha0_0 rfl) ?_; clear ha a; intro a ha
  obtain ⟨g13, g13b, hF⟩ := mkS_some hF
  refine o_make (z0 := (0 : BitVec 32)) Rp.u32 ha rfl sl64 rfl (fun w => ⟨rfl, rfl⟩) rfl g13 g13b ?_; clear ha a; intro v9 w10 h11 hx12 a ha
  obtain ⟨b16, hb16⟩ : ∃ b : Int, b = w2.heap.size := ⟨_, rfl⟩; rw [← hb16] at h11
  have q17 := zn_of hb16
  have q18 := Nq.new hB3.fpb q17
  have q19 := Nq.madeO q17 hB3.bi
  have q20 := Zn.upD q17 hE8
  replace hB3 := hB3.ext hx12
  have hE21 := Ext.trans hE8 hx12
  refine op_g ha rfl (g_assign rfl) ?_; clear ha a; intro a ha
  refine wpList_nil ?_
  replace ha := ha.sub (σ' := [(1, (.pointer (some ⟨b1, 0, none⟩))), (3, v9)]) ⟨rfl, rfl, trivial⟩
  refine e_then ?_
  refine wp_seq ?_
  refine wp_seq ?_
  refine wp_region_lit ?_
  refine op_g ha rfl (g_field0 st32_1 rfl) ?_; clear ha a; intro a ha
  refine op_g ha rfl (g_load Tryd.isAgg22 rfl (hB3.cell rfl)) ?_; clear ha a; intro a ha
  refine op_g ha rfl (g_lenR sl22.und ha0_1 rfl) ?_; clear ha a; intro a ha
  refine op_g ha rfl (g_move rfl) ?_; clear ha a; intro a ha
  refine wpList_nil ?_
  replace ha := ha.sub (σ' := [(3, v9), (11, va0_1), (12, (.int .i64 (a0_1.length : Int))), (13, (.int .i64 0))]) ⟨rfl, rfl, rfl, rfl, trivial⟩
  refine e_then ?_
  obtain ⟨o170, ho171, hK172⟩ := bnd_some hF
  obtain ⟨n173, hn174⟩ := lp_some ho171; clear ho171
  refine c_loop (fun a w => ∃ (l167 : (List (BitVec 32))) (v168 : Value) (b169 : Int), Fr 27 [(3, v168)] a ∧ Chg [] W w ∧ Ow Rp.u32 69 true w [] b169 v168 l167 ∧ Zn W b169 ∧ o170 = .inl l167) (fun n a w => ∃ (l94 : (List (BitVec 32))) (i97 : Int) (v95 : Value) (b96 : Int), Fr 27 [(3, v95), (11, va0_1), (12, (.int .i64 (a0_1.length : Int))), (13, (.int .i64 i97))] a ∧ Chg [] W w ∧ InI i97 ∧ Ow Rp.u32 69 true w [] b96 v95 l94 ∧ Zn W b96 ∧ lpN (fun s => F_impl_linkNets_l1 a0_1 s.1 s.2) n (l94, i97) = some o170) n173 ⟨(List.replicate ((a0_0.length : Int) : Int).toNat (0 : BitVec 32)), 0, v9, b16, ha.sub ⟨rfl, rfl, rfl, rfl, trivial⟩, hE21, (show InI 0 from by decide), h11, q20, hn174⟩ ?_ ?_
  · rintro m178 a w90 ⟨l94, i97, v95, b96, ha, hE99, hI98, h92, z93, hF⟩
    cases m178 with
    | zero => exact (lpN_zero hF).elim
    | succ m178 =>
      obtain ⟨z177, hF, hN176⟩ := lpN_succ hF
      have hF : F_impl_linkNets_l1 a0_1 l94 i97 = some z177 := hF; unfold F_impl_linkNets_l1 at hF
      refine wp_seq ?_
      refine wp_region_lit ?_
      refine op_g ha rfl (g_lss rfl rfl) ?_; clear ha a; intro a ha
      refine wpList_nil ?_
      replace ha := ha.sub (σ' := [(3, v95), (11, va0_1), (12, (.int .i64 (a0_1.length : Int))), (13, (.int .i64 i97)), (14, (.bool (decide (i97 < (a0_1.length : Int)))))]) ⟨rfl, rfl, rfl, rfl, rfl, trivial⟩
      refine e_then ?_
      refine wp_seq ?_
      refine c_cond (i97 < (a0_1.length : Int)) ha rfl (decide_eq_true_iff) (fun hp179 => ?_) (fun hp179 => ?_)
      · replace hF := if_t hp179 hF
        refine wp_skip ?_
        refine e_then ?_
        refine wp_seq ?_
        refine wp_block ?_
        refine wp_seq ?_
        refine wp_region_lit ?_
        obtain ⟨x180, g181, gx182, hF⟩ := idx_some hF
        obtain ⟨p183, cs184, f185, hf186, hpb187, hat188, hr189, hi190⟩ := ha0_1.at g181 gx182
        obtain ⟨v191, rfl, h192⟩ := hr189
        have h192 : Ro Rp.int W f185 v191 x180 := h192
        refine op_g ha rfl (hi190.gives sl22 rfl rfl) ?_; clear ha a; intro a ha
        refine op_g ha rfl (g_load0 hE99 Tryd.isAgg45 rfl hat188.one) ?_; clear ha a; intro a ha
        refine op_g ha rfl (g_assign rfl) ?_; clear ha a; intro a ha
        refine wpList_nil ?_
        replace ha := ha.sub (σ' := [(3, v95), (5, v191), (11, va0_1), (12, (.int .i64 (a0_1.length : Int))), (13, (.int .i64 i97))]) ⟨rfl, rfl, rfl, rfl, rfl, trivial⟩
        refine e_then ?_
        refine d_region [0, 1, 2, 3, 4, 5, 6] hmix ?_
        refine u_g 0 rfl (by kernel_rfl) (want0 _) ha rfl (g_move rfl) ?_; clear ha a; intro a ha
        refine u_g 1 rfl (by kernel_rfl) (want0 _) ha rfl (g_move rfl) ?_; clear ha a; intro a ha
        obtain ⟨x194, g195, gx196, hF⟩ := idx_some hF
        obtain ⟨p197, cs198, f199, hf200, hpb201, hat202, hr203, hi204⟩ := h192.at g195 gx196
        obtain ⟨rfl, hI205, rfl⟩ := hr203
        refine u_g 2 rfl (by kernel_rfl) (want0 _) ha rfl (hi204.gives sl45 rfl rfl) ?_; clear ha a; intro a ha
        refine u_g 3 rfl (by kernel_rfl) (want0 _) ha rfl (g_load0 hE99 Tryd.isAgg2 rfl hat202.one) ?_; clear ha a; intro a ha
        refine u_g 4 rfl (by kernel_rfl) (want0 _) ha rfl (g_move rfl) ?_; clear ha a; intro a ha
        obtain ⟨x206, g207, gx208, hF⟩ := idx_some hF
        obtain ⟨p209, cs210, f211, hf212, hpb213, hat214, hr215, hi216⟩ := h192.at g207 gx208
        obtain ⟨rfl, hI217, rfl⟩ := hr215
        refine u_g 5 rfl (by kernel_rfl) (want0 _) ha rfl (hi216.gives sl45 rfl rfl) ?_; clear ha a; intro a ha
        refine u_g 6 rfl (by kernel_rfl) (want0 _) ha rfl (g_load0 hE99 Tryd.isAgg2 rfl hat214.one) ?_; clear ha a; intro a ha
        refine u_only 7 rfl (by kernel_rfl) ?_; intro w218 hx219
        replace h92 := h92.ext hx219
        have hE220 := Ext.trans hE99 hx219
        obtain ⟨x221, hc222, hF⟩ := cal_some hF
        refine o_call ha rfl rfl Tryd.call81 (W_impl_nets_join h92 hI205 hI217 hc222) ?_; clear ha a; rintro v223 w224 ⟨rfl, h226, hx225⟩ a ha
        have hE227 := Ext.then hE220 hx225 (Zn.bl z93)
        refine wpList_nil (e_sq ?_)
        refine ⟨fun h => absurd h (by decide), ?_⟩
        refine u_done (by kernel_rfl) ?_; intro w228 hx229
        replace h226 := h226.ext hx229
        have hE230 := Ext.trans hE227 hx229
        replace ha := ha.sub (σ' := [(3, v95), (11, va0_1), (12, (.int .i64 (a0_1.length : Int))), (13, (.int .i64 i97))]) ⟨rfl, rfl, rfl, rfl, trivial⟩
        refine e_blk ?_
        refine e_then ?_
        refine wp_region_lit ?_
        obtain ⟨hI231, hF⟩ := ck_some hF
        refine op_g ha rfl (g_add rfl rfl hI231) ?_; clear ha a; intro a ha
        refine op_g ha rfl (g_move rfl) ?_; clear ha a; intro a ha
        refine wpList_nil ?_
        replace ha := ha.sub (σ' := [(3, v95), (11, va0_1), (12, (.int .i64 (a0_1.length : Int))), (13, (.int .i64 (i97 + 1)))]) ⟨rfl, rfl, rfl, rfl, trivial⟩
        refine e_lq ?_
        obtain rfl := Option.some.inj hF
        exact ⟨_, Nat.lt_succ_self _, x221, i97 + 1, v95, b96, ha.sub ⟨rfl, rfl, rfl, rfl, trivial⟩, hE230, hI231, h226, z93, hN176⟩
      · replace hF := if_f hp179 hF
        refine wp_exit ?_
        refine e_then_exit ?_
        refine e_lq_eq ?_
        obtain rfl := Option.some.inj hF
        exact ⟨l94, v95, b96, ha.sub ⟨rfl, trivial⟩, hE99, h92, z93, (LK_inr hN176).symm⟩
  · rintro a w163 ⟨l167, v168, b169, ha, hE175, h165, z166, rfl⟩
    have hF : F_impl_linkNets_k2 l167 = some _ := hK172; clear hK172; unfold F_impl_linkNets_k2 at hF
    refine e_then ?_
    refine wp_seq ?_
    refine wp_region_lit ?_
    refine op_g ha rfl (g_move rfl) ?_; clear ha a; intro a ha
    refine op_g ha rfl (g_assign rfl) ?_; clear ha a; intro a ha
    refine wpList_nil ?_
    replace ha := ha.sub (σ' := [(2, v168)]) ⟨rfl, trivial⟩
    refine e_then ?_
    refine wp_ret ?_
    obtain rfl := Option.some.inj hF
    exact f_ret1 ha rfl rfl ⟨_, h165, z166, hE175⟩
set_option maxHeartbeats 2000000 in
theorem W_impl_maskOf {W : World} {va0 : Value} {fa0 : List Nat} {a0 : (List Int)} (ha0 : Ro Rp.int W fa0 va0 a0) {r : (BitVec 32)} (hF : F_impl_maskOf a0 = some r) :
    Calls Tryd.prog 66 [va0].toArray W (Ret fun u w' => u = .int .u32 (BitVec.toNat r : Int) ∧ Ext W w') := by
  refine f_enter Tryd.func66 rfl Tryd.ntmps66 rfl ?_
  intro a ha
  replace ha : Fr 18 [(0, va0)] a := ha
  have hE : Chg [] W W := Chg.refl _ _
  unfold F_impl_maskOf at hF
  refine wp_seq ?_
  refine wp_region_lit ?_
  refine op_g ha rfl (g_assign rfl) ?_; clear ha a; intro a ha
  refine wpList_nil ?_
  replace ha := ha.sub (σ' := [(0, va0)]) ⟨rfl, trivial⟩
  refine e_then ?_
  refine wp_seq ?_
  refine wp_region_lit ?_
  refine op_g ha rfl (g_assign rfl) ?_; clear ha a; intro a ha
  refine wpList_nil ?_
  refine e_then ?_
  refine wp_seq ?_
  refine wp_seq ?_
  refine wp_region_lit ?_
  refine op_g ha rfl (g_move rfl) ?_; clear ha a; intro a ha
  refine op_g ha rfl (g_lenR sl45.und ha0 rfl) ?_; clear ha a; intro a ha
  refine op_g ha rfl (g_move rfl) ?_; clear ha a; intro a ha
  refine wpList_nil ?_
  replace ha := ha.sub (σ' := [(3, (.int .u32 (BitVec.toNat (0#32) : Int))), (6, va0), (7, (.int .i64 (a0.length : Int))), (8, (.int .i64 0))]) ⟨rfl, rfl, rfl, rfl, trivial⟩
  refine e_then ?_
  obtain ⟨o60, ho61, hK62⟩ := bnd_some hF
  obtain ⟨n63, hn64⟩ := lp_some ho61; clear ho61
  refine c_loop (fun a w => ∃ (u59 : BitVec 32), Fr 18 [(3, (.int .u32 (BitVec.toNat u59 : Int)))] a ∧ Chg [] W w ∧ o60 = .inl u59) (fun n a w => ∃ (u29 : BitVec 32) (i30 : Int), Fr 18 [(3, (.int .u32 (BitVec.toNat u29 : Int))), (6, va0), (7, (.int .i64 (a0.length : Int))), (8, (.int .i64 i30))] a ∧ Chg [] W w ∧ InI i30 ∧ lpN (fun s => F_impl_maskOf_l1 a0 s.1 s.2) n (u29, i30) = some o60) n63 ⟨0#32, 0, ha.sub ⟨rfl, rfl, rfl, rfl, trivial⟩, hE, (show InI 0 from by decide), hn64⟩ ?_ ?_
  · rintro m68 a w28 ⟨u29, i30, ha, hE32, hI31, hF⟩
    cases m68 with
    | zero => exact (lpN_zero hF).elim
    | succ m68 =>
      obtain ⟨z67, hF, hN66⟩ := lpN_succ hF
      have hF : F_impl_maskOf_l1 a0 u29 i30 = some z67 := hF; unfold F_impl_maskOf_l1 at hF
      refine wp_seq ?_
      refine wp_region_lit ?_
      refine op_g ha rfl (g_lss rfl rfl) ?_; clear ha a; intro a ha
      refine wpList_nil ?_
      replace ha := ha.sub (σ' := [(3, (.int .u32 (BitVec.toNat u29 : Int))), (6, va0), (7, (.int .i64 (a0.length : Int))), (8, (.int .i64 i30)), (9, (.bool (decide (i30 < (a0.length : Int)))))]) ⟨rfl, rfl, rfl, rfl, rfl, trivial⟩
      refine e_then ?_
      refine wp_seq ?_
      refine c_cond (i30 < (a0.length : Int)) ha rfl (decide_eq_true_iff) (fun hp69 => ?_) (fun hp69 => ?_)
      · replace hF := if_t hp69 hF
        refine wp_skip ?_
        refine e_then ?_
        refine wp_seq ?_
        refine wp_block ?_
        refine wp_seq ?_
        refine wp_region_lit ?_
        obtain ⟨x70, g71, gx72, hF⟩ := idx_some hF
        obtain ⟨p73, cs74, f75, hf76, hpb77, hat78, hr79, hi80⟩ := ha0.at g71 gx72
        obtain ⟨rfl, hI81, rfl⟩ := hr79
        refine op_g ha rfl (hi80.gives sl45 rfl rfl) ?_; clear ha a; intro a ha
        refine op_g ha rfl (g_load0 hE32 Tryd.isAgg2 rfl hat78.one) ?_; clear ha a; intro a ha
        refine op_g ha rfl (g_assign rfl) ?_; clear ha a; intro a ha
        refine wpList_nil ?_
        replace ha := ha.sub (σ' := [(3, (.int .u32 (BitVec.toNat u29 : Int))), (5, (.int .i64 x70)), (6, va0), (7, (.int .i64 (a0.length : Int))), (8, (.int .i64 i30))]) ⟨rfl, rfl, rfl, rfl, rfl, trivial⟩
        refine e_then ?_
        refine wp_region_lit ?_
        refine op_g ha rfl (g_move rfl) ?_; clear ha a; intro a ha
        refine op_g ha rfl (g_move rfl) ?_; clear ha a; intro a ha
        obtain ⟨x82, hc83, hF⟩ := cal_some hF
        refine o_call ha rfl rfl Tryd.call47 (W_impl_one hI81 hc83) ?_; clear ha a; rintro v84 w85 ⟨rfl, hx86⟩ a ha
        have hE87 := Ext.trans hE32 hx86
        refine op_g ha rfl (g32_or (m := u29) (n := x82) rfl rfl) ?_; clear ha a; intro a ha
        refine op_g ha rfl (g_assign rfl) ?_; clear ha a; intro a ha
        refine wpList_nil ?_
        replace ha := ha.sub (σ' := [(3, (.int .u32 (BitVec.toNat (u29 ||| x82) : Int))), (6, va0), (7, (.int .i64 (a0.length : Int))), (8, (.int .i64 i30))]) ⟨rfl, rfl, rfl, rfl, trivial⟩
        refine e_blk ?_
        refine e_then ?_
        refine wp_region_lit ?_
        obtain ⟨hI88, hF⟩ := ck_some hF
        refine op_g ha rfl (g_add rfl rfl hI88) ?_; clear ha a; intro a ha
        refine op_g ha rfl (g_move rfl) ?_; clear ha a; intro a ha
        refine wpList_nil ?_
        replace ha := ha.sub (σ' := [(3, (.int .u32 (BitVec.toNat (u29 ||| x82) : Int))), (6, va0), (7, (.int .i64 (a0.length : Int))), (8, (.int .i64 (i30 + 1)))]) ⟨rfl, rfl, rfl, rfl, trivial⟩
        refine e_lq ?_
        obtain rfl := Option.some.inj hF
        exact ⟨_, Nat.lt_succ_self _, u29 ||| x82, i30 + 1, ha.sub ⟨rfl, rfl, rfl, rfl, trivial⟩, hE87, hI88, hN66⟩
      · replace hF := if_f hp69 hF
        refine wp_exit ?_
        refine e_then_exit ?_
        refine e_lq_eq ?_
        obtain rfl := Option.some.inj hF
        exact ⟨u29, ha.sub ⟨rfl, trivial⟩, hE32, (LK_inr hN66).symm⟩
  · rintro a w58 ⟨u59, ha, hE65, rfl⟩
    have hF : F_impl_maskOf_k2 u59 = some _ := hK62; clear hK62; unfold F_impl_maskOf_k2 at hF
    refine e_then ?_
    refine wp_seq ?_
    refine wp_region_lit ?_
    refine op_g ha rfl (g_move rfl) ?_; clear ha a; intro a ha
    refine op_g ha rfl (g_assign rfl) ?_; clear ha a; intro a ha
    refine wpList_nil ?_
    replace ha := ha.sub (σ' := [(2, (.int .u32 (BitVec.toNat u59 : Int)))]) ⟨rfl, trivial⟩
    refine e_then ?_
    refine wp_ret ?_
    obtain rfl := Option.some.inj hF
    exact f_ret1 ha rfl rfl ⟨rfl, hE65⟩
set_option maxHeartbeats 2000000 in
theorem W_impl_bagMasks {W : World} {va0 : Value} {fa0 : List Nat} {a0 : (List (List Int))} (ha0 : Ro (Rp.sl 2 Rp.int) W fa0 va0 a0) {r : (List (BitVec 32))} (hF : F_impl_bagMasks a0 = some r) :
    Calls Tryd.prog 41 [va0].toArray W (Ret fun u w' => ∃ (b_u : Int), Ow Rp.u32 69 true w' [] b_u u r ∧ Zn W b_u ∧ Ext W w') := by
  refine f_enter Tryd.func41 rfl Tryd.ntmps41 rfl ?_
  intro a ha
  replace ha : Fr 20 [(0, va0)] a := ha
  have hE : Chg [] W W := Chg.refl _ _
  unfold F_impl_bagMasks at hF
  refine wp_seq ?_
  refine wp_region_lit ?_
  refine op_g ha rfl (g_assign rfl) ?_; clear ha a; intro a ha
  refine wpList_nil ?_
  replace ha := ha.sub (σ' := [(0, va0)]) ⟨rfl, trivial⟩
  refine e_then ?_
  refine wp_seq ?_
  refine wp_region_lit ?_
  refine o_lit0 Rp.u32 ha rfl sl63 ?_; clear ha a; intro v1 w2 h3 hx4 a ha
  obtain ⟨b6, hb6⟩ : ∃ b : Int, b = W.heap.size := ⟨_, rfl⟩; rw [← hb6] at h3
  have q7 := zn_of hb6
  have q8 := Zn.upD q7 hE
  have hE9 := Ext.trans hE hx4
  refine op_g ha rfl (g_assign rfl) ?_; clear ha a; intro a ha
  refine wpList_nil ?_
  replace ha := ha.sub (σ' := [(0, va0), (3, v1)]) ⟨rfl, rfl, trivial⟩
  refine e_then ?_
  refine wp_seq ?_
  refine wp_seq ?_
  refine wp_region_lit ?_
  refine op_g ha rfl (g_move rfl) ?_; clear ha a; intro a ha
  refine op_g ha rfl (g_lenR sl22.und ha0 rfl) ?_; clear ha a; intro a ha
  refine op_g ha rfl (g_move rfl) ?_; clear ha a; intro a ha
  refine wpList_nil ?_
  replace ha := ha.sub (σ' := [(3, v1), (7, va0), (8, (.int .i64 (a0.length : Int))), (9, (.int .i64 0))]) ⟨rfl, rfl, rfl, rfl, trivial⟩
  refine e_then ?_
  obtain ⟨o142, ho143, hK144⟩ := bnd_some hF
  obtain ⟨n145, hn146⟩ := lp_some ho143; clear ho143
  refine c_loop (fun a w => ∃ (l139 : (List (BitVec 32))) (v140 : Value) (b141 : Int), Fr 20 [(3, v140)] a ∧ Chg [] W w ∧ Ow Rp.u32 69 true w [] b141 v140 l139 ∧ Zn W b141 ∧ o142 = .inl l139) (fun n a w => ∃ (l74 : (List (BitVec 32))) (i77 : Int) (v75 : Value) (b76 : Int), Fr 20 [(3, v75), (7, va0), (8, (.int .i64 (a0.length : Int))), (9, (.int .i64 i77))] a ∧ Chg [] W w ∧ InI i77 ∧ Ow Rp.u32 69 true w [] b76 v75 l74 ∧ Zn W b76 ∧ lpN (fun s => F_impl_bagMasks_l1 a0 s.1 s.2) n (l74, i77) = some o142) n145 ⟨([] : (List (BitVec 32))), 0, v1, b6, ha.sub ⟨rfl, rfl, rfl, rfl, trivial⟩, hE9, (show InI 0 from by decide), h3, q8, hn146⟩ ?_ ?_
  · rintro m150 a w70 ⟨l74, i77, v75, b76, ha, hE79, hI78, h72, z73, hF⟩
    cases m150 with
    | zero => exact (lpN_zero hF).elim
    | succ m150 =>
      obtain ⟨z149, hF, hN148⟩ := lpN_succ hF
      have hF : F_impl_bagMasks_l1 a0 l74 i77 = some z149 := hF; unfold F_impl_bagMasks_l1 at hF
      refine wp_seq ?_
      refine wp_region_lit ?_
      refine op_g ha rfl (g_lss rfl rfl) ?_; clear ha a; intro a ha
      refine wpList_nil ?_
      replace ha := ha.sub (σ' := [(3, v75), (7, va0), (8, (.int .i64 (a0.length : Int))), (9, (.int .i64 i77)), (10, (.bool (decide (i77 < (a0.length : Int)))))]) ⟨rfl, rfl, rfl, rfl, rfl, trivial⟩
      refine e_then ?_
      refine wp_seq ?_
      refine c_cond (i77 < (a0.length : Int)) ha rfl (decide_eq_true_iff) (fun hp151 => ?_) (fun hp151 => ?_)
      · replace hF := if_t hp151 hF
        refine wp_skip ?_
        refine e_then ?_
        refine wp_seq ?_
        refine wp_block ?_
        refine wp_seq ?_
        refine wp_region_lit ?_
        obtain ⟨x152, g153, gx154, hF⟩ := idx_some hF
        obtain ⟨p155, cs156, f157, hf158, hpb159, hat160, hr161, hi162⟩ := ha0.at g153 gx154
        obtain ⟨v163, rfl, h164⟩ := hr161
        have h164 : Ro Rp.int W f157 v163 x152 := h164
        refine op_g ha rfl (hi162.gives sl22 rfl rfl) ?_; clear ha a; intro a ha
        refine op_g ha rfl (g_load0 hE79 Tryd.isAgg45 rfl hat160.one) ?_; clear ha a; intro a ha
        refine op_g ha rfl (g_assign rfl) ?_; clear ha a; intro a ha
        refine wpList_nil ?_
        replace ha := ha.sub (σ' := [(3, v75), (5, v163), (7, va0), (8, (.int .i64 (a0.length : Int))), (9, (.int .i64 i77))]) ⟨rfl, rfl, rfl, rfl, rfl, trivial⟩
        refine e_then ?_
        refine wp_region_lit ?_
        refine op_g ha rfl (g_move rfl) ?_; clear ha a; intro a ha
        refine op_g ha rfl (g_move rfl) ?_; clear ha a; intro a ha
        obtain ⟨x166, hc167, hF⟩ := cal_some hF
        refine o_call ha rfl rfl Tryd.call66 (W_impl_maskOf (h164.ext hE79) hc167) ?_; clear ha a; rintro v168 w169 ⟨rfl, hx170⟩ a ha
        replace h72 := h72.ext hx170
        have hE171 := Ext.trans hE79 hx170
        refine o_lit1 (o := true) (y := x166) Rp.u32 ha rfl sl63 rfl rfl rfl ⟨rfl, rfl⟩ ?_; clear ha a; intro v172 w173 h174 hx175 a ha
        obtain ⟨b177, hb177⟩ : ∃ b : Int, b = w169.heap.size := ⟨_, rfl⟩; rw [← hb177] at h174
        have q178 := zn_of hb177
        have q179 := Nq.new h72.fpb q178
        have q180 := Nq.madeO q178 h72.blt
        have q181 := Zn.upD q178 hE171
        replace h72 := h72.ext hx175
        have hE182 := Ext.trans hE171 hx175
        obtain ⟨hl183, hF⟩ := app_some hF
        refine o_append ha rfl sl63 rfl rfl rfl h72 h174.src (Nq.nil _) hl183 ?_; clear ha a; intro v184 w185 b186 h187 hc188 hb189 a ha
        replace h187 : Ow Rp.u32 69 true w185 [] b186 v184 _ := h187
        have q191 := Nq.appY q180 h174.fpb hb189
        have q192 := Nq.appX q179 (Nq.nil _) hb189 h174.blt
        have q193 := Zn.appD z73 hb189 hE182
        replace h174 := h174.nq hc188 q180
        have hE194 := Ext.then hE182 hc188 (Zn.bl z73)
        refine op_g ha rfl (g_assign rfl) ?_; clear ha a; intro a ha
        refine wpList_nil ?_
        replace ha := ha.sub (σ' := [(3, v184), (7, va0), (8, (.int .i64 (a0.length : Int))), (9, (.int .i64 i77))]) ⟨rfl, rfl, rfl, rfl, trivial⟩
        refine e_blk ?_
        refine e_then ?_
        refine wp_region_lit ?_
        obtain ⟨hI195, hF⟩ := ck_some hF
        refine op_g ha rfl (g_add rfl rfl hI195) ?_; clear ha a; intro a ha
        refine op_g ha rfl (g_move rfl) ?_; clear ha a; intro a ha
        refine wpList_nil ?_
        replace ha := ha.sub (σ' := [(3, v184), (7, va0), (8, (.int .i64 (a0.length : Int))), (9, (.int .i64 (i77 + 1)))]) ⟨rfl, rfl, rfl, rfl, trivial⟩
        refine e_lq ?_
        obtain rfl := Option.some.inj hF
        exact ⟨_, Nat.lt_succ_self _, (l74 ++ ([x166])), i77 + 1, v184, b186, ha.sub ⟨rfl, rfl, rfl, rfl, trivial⟩, hE194, hI195, h187, q193, hN148⟩
      · replace hF := if_f hp151 hF
        refine wp_exit ?_
        refine e_then_exit ?_
        refine e_lq_eq ?_
        obtain rfl := Option.some.inj hF
        exact ⟨l74, v75, b76, ha.sub ⟨rfl, trivial⟩, hE79, h72, z73, (LK_inr hN148).symm⟩
  · rintro a w135 ⟨l139, v140, b141, ha, hE147, h137, z138, rfl⟩
    have hF : F_impl_bagMasks_k2 l139 = some _ := hK144; clear hK144; unfold F_impl_bagMasks_k2 at hF
    refine e_then ?_
    refine wp_seq ?_
    refine wp_region_lit ?_
    refine op_g ha rfl (g_move rfl) ?_; clear ha a; intro a ha
    refine op_g ha rfl (g_assign rfl) ?_; clear ha a; intro a ha
    refine wpList_nil ?_
    replace ha := ha.sub (σ' := [(2, v140)]) ⟨rfl, trivial⟩
    refine e_then ?_
    refine wp_ret ?_
    obtain rfl := Option.some.inj hF
    exact f_ret1 ha rfl rfl ⟨_, h137, z138, hE147⟩
set_option maxHeartbeats 2000000 in
theorem W_impl_firstOf {W : World} {a0 : Int} (ha0 : InI a0) {r : (BitVec 32)} (hF : F_impl_firstOf a0 = some r) :
    Calls Tryd.prog 84 [.int .i64 a0].toArray W (Ret fun u w' => u = .int .u32 (BitVec.toNat r : Int) ∧ Ext W w') := by
  refine f_enter Tryd.func84 rfl Tryd.ntmps84 rfl ?_
  intro a ha
  replace ha : Fr 6 [(0, (.int .i64 a0))] a := ha
  have hE : Chg [] W W := Chg.refl _ _
  unfold F_impl_firstOf at hF
  refine wp_seq ?_
  refine wp_region_lit ?_
  refine op_g ha rfl (g_assign rfl) ?_; clear ha a; intro a ha
  refine wpList_nil ?_
  replace ha := ha.sub (σ' := [(0, (.int .i64 a0))]) ⟨rfl, trivial⟩
  refine e_then ?_
  refine wp_seq ?_
  refine wp_region_lit ?_
  refine op_g ha rfl (g_move rfl) ?_; clear ha a; intro a ha
  obtain ⟨hs1, hF⟩ := grd_some hF
  refine op_g ha rfl (g32_shl (m := (1#32)) rfl rfl hs1) ?_; clear ha a; intro a ha
  refine op_g ha rfl (g32_sub (m := ((1#32) <<< (a0 : Int).toNat)) (n := (1#32)) rfl rfl) ?_; clear ha a; intro a ha
  refine op_g ha rfl (g_assign rfl) ?_; clear ha a; intro a ha
  refine wpList_nil ?_
  replace ha := ha.sub (σ' := [(2, (.int .u32 (BitVec.toNat (((1#32) <<< (a0 : Int).toNat) - (1#32)) : Int)))]) ⟨rfl, trivial⟩
  refine e_then ?_
  refine wp_ret ?_
  obtain rfl := Option.some.inj hF
  exact f_ret1 ha rfl rfl ⟨rfl, hE⟩
set_option maxHeartbeats 2000000 in
theorem W_impl_nets_all {W : World} {va0 : Value} {fa0 : List Nat} {a0 : (List (BitVec 32))} (ha0 : Ro Rp.u32 W fa0 va0 a0) {r : (BitVec 32)} (hF : F_impl_nets_all a0 = some r) :
    Calls Tryd.prog 43 [va0].toArray W (Ret fun u w' => u = .int .u32 (BitVec.toNat r : Int) ∧ Ext W w') := by
  refine f_enter Tryd.func43 rfl Tryd.ntmps43 rfl ?_
  intro a ha
  replace ha : Fr 6 [(0, va0)] a := ha
  have hE : Chg [] W W := Chg.refl _ _
  unfold F_impl_nets_all at hF
  refine wp_seq ?_
  refine wp_region_lit ?_
  refine op_g ha rfl (g_assign rfl) ?_; clear ha a; intro a ha
  refine wpList_nil ?_
  replace ha := ha.sub (σ' := [(0, va0)]) ⟨rfl, trivial⟩
  refine e_then ?_
  refine wp_seq ?_
  refine wp_region_lit ?_
  refine op_g ha rfl (g_move rfl) ?_; clear ha a; intro a ha
  refine op_g ha rfl (g_lenR sl64.und ha0 rfl) ?_; clear ha a; intro a ha
  obtain ⟨x1, hc2, hF⟩ := cal_some hF
  refine o_call ha rfl rfl Tryd.call84 (W_impl_firstOf ha0.len hc2) ?_; clear ha a; rintro v3 w4 ⟨rfl, hx5⟩ a ha
  have hE6 := Ext.trans hE hx5
  refine op_g ha rfl (g_assign rfl) ?_; clear ha a; intro a ha
  refine wpList_nil ?_
  replace ha := ha.sub (σ' := [(2, (.int .u32 (BitVec.toNat x1 : Int)))]) ⟨rfl, trivial⟩
  refine e_then ?_
  refine wp_ret ?_
  obtain rfl := Option.some.inj hF
  exact f_ret1 ha rfl rfl ⟨rfl, hE6⟩
set_option maxHeartbeats 2000000 in
theorem W_math_bits_TrailingZeros32 {W : World} {a0 : BitVec 32} (hG : GT 0 W) {r : Int} (hF : F_math_bits_TrailingZeros32 a0 = some r) :
    Calls Tryd.prog 100 [.int .u32 (BitVec.toNat a0 : Int)].toArray W (Ret fun u w' => (u = .int .i64 r ∧ InI r) ∧ Ext W w') := by
  refine f_enter Tryd.func100 rfl Tryd.ntmps100 rfl ?_
  intro a ha
  replace ha : Fr 14 [(0, (.int .u32 (BitVec.toNat a0 : Int)))] a := ha
  have hE : Chg [] W W := Chg.refl _ _
  unfold F_math_bits_TrailingZeros32 at hF
  refine wp_seq ?_
  refine wp_region_lit ?_
  refine op_g ha rfl (g_assign rfl) ?_; clear ha a; intro a ha
  refine wpList_nil ?_
  replace ha := ha.sub (σ' := [(0, (.int .u32 (BitVec.toNat a0 : Int)))]) ⟨rfl, trivial⟩
  refine e_then ?_
  refine wp_seq ?_
  refine wp_seq ?_
  refine wp_region_lit ?_
  refine op_g ha rfl (g_move rfl) ?_; clear ha a; intro a ha
  refine op_g ha rfl (g32_eql (m := a0) (n := (0#32)) rfl rfl) ?_; clear ha a; intro a ha
  refine wpList_nil ?_
  replace ha := ha.sub (σ' := [(0, (.int .u32 (BitVec.toNat a0 : Int))), (4, (.bool (decide (a0 = (0#32)))))]) ⟨rfl, rfl, trivial⟩
  refine e_then ?_
  refine c_cond (a0 = (0#32)) ha rfl (decide_eq_true_iff) (fun hp1 => ?_) (fun hp1 => ?_)
  · replace hF := if_t hp1 hF
    refine wp_seq ?_
    refine wp_region_lit ?_
    refine op_g ha rfl (g_assign rfl) ?_; clear ha a; intro a ha
    refine wpList_nil ?_
    replace ha := ha.sub (σ' := [(2, (.int .i64 32))]) ⟨rfl, trivial⟩
    refine e_then ?_
    refine wp_ret ?_
    refine e_then_ret ?_
    obtain rfl := Option.some.inj hF
    exact f_ret1 ha rfl rfl ⟨⟨rfl, (show InI 32 from by decide)⟩, hE⟩
  · replace hF := if_f hp1 hF
    refine wp_skip ?_
    refine e_then ?_
    refine wp_seq ?_
    refine wp_region_lit ?_
    refine op_g ha rfl (g_move rfl) ?_; clear ha a; intro a ha
    refine op_g ha rfl (g_move rfl) ?_; clear ha a; intro a ha
    refine op_g ha rfl (g32_neg (m := a0) rfl) ?_; clear ha a; intro a ha
    refine op_g ha rfl (g32_and (m := a0) (n := (-a0)) rfl rfl) ?_; clear ha a; intro a ha
    refine op_g ha rfl (g32_mul (m := (a0 &&& (-a0))) (n := (125613361#32)) rfl rfl) ?_; clear ha a; intro a ha
    refine op_g ha rfl (g32_shr (m := ((a0 &&& (-a0)) * (125613361#32))) rfl rfl (show InU 27 from by decide).1) ?_; clear ha a; intro a ha
    obtain ⟨x2, g3, gx4, hF⟩ := idx_some hF
    refine op_g ha rfl (g_idxG un115 Tryd.sizeOf5 rfl g3 (idx_lt g3 gx4 (by decide))) ?_; clear ha a; intro a ha
    refine op_g ha rfl (g_load Tryd.isAgg5 rfl (Tab.cell (hG.ext hE) gx4)) ?_; clear ha a; intro a ha
    refine op_g ha rfl (g_conv8 (m := x2) un5 un3 rfl) ?_; clear ha a; intro a ha
    refine op_g ha rfl (g_assign rfl) ?_; clear ha a; intro a ha
    refine wpList_nil ?_
    replace ha := ha.sub (σ' := [(2, (.int .i64 (BitVec.toNat x2 : Int)))]) ⟨rfl, trivial⟩
    refine e_then ?_
    refine wp_ret ?_
    obtain rfl := Option.some.inj hF
    exact f_ret1 ha rfl rfl ⟨⟨rfl, (in_u8 _)⟩, hE⟩
set_option maxHeartbeats 2000000 in
theorem W_impl_vset_least {W : World} {a0 : BitVec 32} (hG : GT 0 W) {r : Int} (hF : F_impl_vset_least a0 = some r) :
    Calls Tryd.prog 83 [.int .u32 (BitVec.toNat a0 : Int)].toArray W (Ret fun u w' => (u = .int .i64 r ∧ InI r) ∧ Ext W w') := by
  refine f_enter Tryd.func83 rfl Tryd.ntmps83 rfl ?_
  intro a ha
  replace ha : Fr 5 [(0, (.int .u32 (BitVec.toNat a0 : Int)))] a := ha
  have hE : Chg [] W W := Chg.refl _ _
  unfold F_impl_vset_least at hF
  refine wp_seq ?_
  refine wp_region_lit ?_
  refine op_g ha rfl (g_assign rfl) ?_; clear ha a; intro a ha
  refine wpList_nil ?_
  replace ha := ha.sub (σ' := [(0, (.int .u32 (BitVec.toNat a0 : Int)))]) ⟨rfl, trivial⟩
  refine e_then ?_
  refine wp_seq ?_
  refine wp_region_lit ?_
  refine op_g ha rfl (g_move rfl) ?_; clear ha a; intro a ha
  obtain ⟨x1, hc2, hF⟩ := cal_some hF
  refine o_call ha rfl rfl Tryd.call100 (W_math_bits_TrailingZeros32 (hG.ext hE) hc2) ?_; clear ha a; rintro v3 w4 ⟨⟨rfl, hI6⟩, hx5⟩ a ha
  have hE7 := Ext.trans hE hx5
  refine op_g ha rfl (g_assign rfl) ?_; clear ha a; intro a ha
  refine wpList_nil ?_
  replace ha := ha.sub (σ' := [(2, (.int .i64 x1))]) ⟨rfl, trivial⟩
  refine e_then ?_
  refine wp_ret ?_
  obtain rfl := Option.some.inj hF
  exact f_ret1 ha rfl rfl ⟨⟨rfl, hI6⟩, hE7⟩
set_option maxHeartbeats 2000000 in
theorem W_impl_vset_list {W : World} {a0 : BitVec 32} (hG : GT 0 W) {r : (List Int)} (hF : F_impl_vset_list a0 = some r) :
    Calls Tryd.prog 88 [.int .u32 (BitVec.toNat a0 : Int)].toArray W (Ret fun u w' => ∃ (b_u : Int), Ow Rp.int 3 true w' [] b_u u r ∧ Zn W b_u ∧ Ext W w') := by
  refine f_enter Tryd.func88 rfl Tryd.ntmps88 rfl ?_
  intro a ha
  replace ha : Fr 17 [(0, (.int .u32 (BitVec.toNat a0 : Int)))] a := ha
  have hE : Chg [] W W := Chg.refl _ _
  unfold F_impl_vset_list at hF
  refine wp_seq ?_
  refine wp_region_lit ?_
  refine op_g ha rfl (g_assign rfl) ?_; clear ha a; intro a ha
  refine wpList_nil ?_
  replace ha := ha.sub (σ' := [(0, (.int .u32 (BitVec.toNat a0 : Int)))]) ⟨rfl, trivial⟩
  refine e_then ?_
  refine wp_seq ?_
  refine wp_region_lit ?_
  refine o_lit0 Rp.int ha rfl sl105 ?_; clear ha a; intro v1 w2 h3 hx4 a ha
  obtain ⟨b6, hb6⟩ : ∃ b : Int, b = W.heap.size := ⟨_, rfl⟩; rw [← hb6] at h3
  have q7 := zn_of hb6
  have q8 := Zn.upD q7 hE
  have hE9 := Ext.trans hE hx4
  refine op_g ha rfl (g_assign rfl) ?_; clear ha a; intro a ha
  refine wpList_nil ?_
  replace ha := ha.sub (σ' := [(0, (.int .u32 (BitVec.toNat a0 : Int))), (3, v1)]) ⟨rfl, rfl, trivial⟩
  refine e_then ?_
  refine wp_seq ?_
  obtain ⟨o109, ho110, hK111⟩ := bnd_some hF
  obtain ⟨n112, hn113⟩ := lp_some ho110; clear ho110
  refine c_loop (fun a w => ∃ (l106 : (List Int)) (v107 : Value) (b108 : Int), Fr 17 [(3, v107)] a ∧ Chg [] W w ∧ Ow Rp.int 3 true w [] b108 v107 l106 ∧ Zn W b108 ∧ o109 = .inl l106) (fun n a w => ∃ (u55 : BitVec 32) (l59 : (List Int)) (v60 : Value) (b61 : Int), Fr 17 [(0, (.int .u32 (BitVec.toNat u55 : Int))), (3, v60)] a ∧ Chg [] W w ∧ Ow Rp.int 3 true w [] b61 v60 l59 ∧ Zn W b61 ∧ lpN (fun s => F_impl_vset_list_l1 s.1 s.2) n (u55, l59) = some o109) n112 ⟨a0, ([] : (List Int)), v1, b6, ha.sub ⟨rfl, rfl, trivial⟩, hE9, h3, q8, hn113⟩ ?_ ?_
  · rintro m117 a w54 ⟨u55, l59, v60, b61, ha, hE62, h57, z58, hF⟩
    cases m117 with
    | zero => exact (lpN_zero hF).elim
    | succ m117 =>
      obtain ⟨z116, hF, hN115⟩ := lpN_succ hF
      have hF : F_impl_vset_list_l1 u55 l59 = some z116 := hF; unfold F_impl_vset_list_l1 at hF
      refine wp_seq ?_
      refine wp_seq ?_
      refine wp_region_lit ?_
      refine op_g ha rfl (g_move rfl) ?_; clear ha a; intro a ha
      refine op_g ha rfl (g32_neq (m := u55) (n := (0#32)) rfl rfl) ?_; clear ha a; intro a ha
      refine wpList_nil ?_
      replace ha := ha.sub (σ' := [(0, (.int .u32 (BitVec.toNat u55 : Int))), (3, v60), (6, (.bool (decide (u55 ≠ (0#32)))))]) ⟨rfl, rfl, rfl, trivial⟩
      refine e_then ?_
      refine c_cond (u55 ≠ (0#32)) ha rfl (decide_eq_true_iff) (fun hp118 => ?_) (fun hp118 => ?_)
      · replace hF := if_t hp118 hF
        refine wp_skip ?_
        refine e_then ?_
        refine wp_seq ?_
        refine wp_block ?_
        refine wp_region_lit ?_
        refine op_g ha rfl (g_move rfl) ?_; clear ha a; intro a ha
        refine op_g ha rfl (g_move rfl) ?_; clear ha a; intro a ha
        obtain ⟨x119, hc120, hF⟩ := cal_some hF
        refine o_call ha rfl rfl Tryd.call83 (W_impl_vset_least (hG.ext hE62) hc120) ?_; clear ha a; rintro v121 w122 ⟨⟨rfl, hI124⟩, hx123⟩ a ha
        replace h57 := h57.ext hx123
        have hE125 := Ext.trans hE62 hx123
        refine o_lit1 (o := true) (y := x119) Rp.int ha rfl sl105 rfl rfl rfl ⟨rfl, hI124, rfl⟩ ?_; clear ha a; intro v126 w127 h128 hx129 a ha
        obtain ⟨b131, hb131⟩ : ∃ b : Int, b = w122.heap.size := ⟨_, rfl⟩; rw [← hb131] at h128
        have q132 := zn_of hb131
        have q133 := Nq.new h57.fpb q132
        have q134 := Nq.madeO q132 h57.blt
        have q135 := Zn.upD q132 hE125
        replace h57 := h57.ext hx129
        have hE136 := Ext.trans hE125 hx129
        obtain ⟨hl137, hF⟩ := app_some hF
        refine o_append ha rfl sl105 rfl rfl rfl h57 h128.src (Nq.nil _) hl137 ?_; clear ha a; intro v138 w139 b140 h141 hc142 hb143 a ha
        replace h141 : Ow Rp.int 3 true w139 [] b140 v138 _ := h141
        have q145 := Nq.appY q134 h128.fpb hb143
        have q146 := Nq.appX q133 (Nq.nil _) hb143 h128.blt
        have q147 := Zn.appD z58 hb143 hE136
        replace h128 := h128.nq hc142 q134
        have hE148 := Ext.then hE136 hc142 (Zn.bl z58)
        refine op_g ha rfl (g_assign rfl) ?_; clear ha a; intro a ha
        refine wpList_nil ?_
        replace ha := ha.sub (σ' := [(0, (.int .u32 (BitVec.toNat u55 : Int))), (3, v138)]) ⟨rfl, rfl, trivial⟩
        refine e_blk ?_
        refine e_then ?_
        refine wp_region_lit ?_
        refine op_g ha rfl (g_move rfl) ?_; clear ha a; intro a ha
        refine op_g ha rfl (g_move rfl) ?_; clear ha a; intro a ha
        refine op_g ha rfl (g32_sub (m := u55) (n := (1#32)) rfl rfl) ?_; clear ha a; intro a ha
        refine op_g ha rfl (g32_and (m := u55) (n := (u55 - (1#32))) rfl rfl) ?_; clear ha a; intro a ha
        refine op_g ha rfl (g_assign rfl) ?_; clear ha a; intro a ha
        refine wpList_nil ?_
        replace ha := ha.sub (σ' := [(0, (.int .u32 (BitVec.toNat (u55 &&& (u55 - (1#32))) : Int))), (3, v138)]) ⟨rfl, rfl, trivial⟩
        refine e_lq ?_
        obtain rfl := Option.some.inj hF
        exact ⟨_, Nat.lt_succ_self _, u55 &&& (u55 - (1#32)), (l59 ++ ([x119])), v138, b140, ha.sub ⟨rfl, rfl, trivial⟩, hE148, h141, q147, hN115⟩
      · replace hF := if_f hp118 hF
        refine wp_exit ?_
        refine e_then_exit ?_
        refine e_lq_eq ?_
        obtain rfl := Option.some.inj hF
        exact ⟨l59, v60, b61, ha.sub ⟨rfl, trivial⟩, hE62, h57, z58, (LK_inr hN115).symm⟩
  · rintro a w102 ⟨l106, v107, b108, ha, hE114, h104, z105, rfl⟩
    have hF : F_impl_vset_list_k2 l106 = some _ := hK111; clear hK111; unfold F_impl_vset_list_k2 at hF
    refine e_then ?_
    refine wp_seq ?_
    refine wp_region_lit ?_
    refine op_g ha rfl (g_move rfl) ?_; clear ha a; intro a ha
    refine op_g ha rfl (g_assign rfl) ?_; clear ha a; intro a ha
    refine wpList_nil ?_
    replace ha := ha.sub (σ' := [(2, v107)]) ⟨rfl, trivial⟩
    refine e_then ?_
    refine wp_ret ?_
    obtain rfl := Option.some.inj hF
    exact f_ret1 ha rfl rfl ⟨_, h104, z105, hE114⟩
set_option maxHeartbeats 2000000 in
theorem W_impl_reach {W : World} {va0 : Value} {fa0 : List Nat} {a0 : (List (BitVec 32))} (ha0 : Ro Rp.u32 W fa0 va0 a0) {a1 : Int} (ha1 : InI a1) {a2 : BitVec 32} (hG : GT 0 W) {r : (BitVec 32)} (hF : F_impl_reach a0 a1 a2 = some r) :
    Calls Tryd.prog 82 [va0, .int .i64 a1, .int .u32 (BitVec.toNat a2 : Int)].toArray W (Ret fun u w' => u = .int .u32 (BitVec.toNat r : Int) ∧ Ext W w') := by
  refine f_enter Tryd.func82 rfl Tryd.ntmps82 rfl ?_
  intro a ha
  replace ha : Fr 35 [(0, va0), (1, (.int .i64 a1)), (2, (.int .u32 (BitVec.toNat a2 : Int)))] a := ha
  have hE : Chg [] W W := Chg.refl _ _
  unfold F_impl_reach at hF
  refine wp_seq ?_
  refine wp_region_lit ?_
  refine op_g ha rfl (g_assign rfl) ?_; clear ha a; intro a ha
  refine wpList_nil ?_
  replace ha := ha.sub (σ' := [(0, va0), (1, (.int .i64 a1)), (2, (.int .u32 (BitVec.toNat a2 : Int)))]) ⟨rfl, rfl, rfl, trivial⟩
  refine e_then ?_
  refine wp_seq ?_
  refine wp_region_lit ?_
  refine op_g ha rfl (g_move rfl) ?_; clear ha a; intro a ha
  obtain ⟨x1, hc2, hF⟩ := cal_some hF
  refine o_call ha rfl rfl Tryd.call47 (W_impl_one ha1 hc2) ?_; clear ha a; rintro v3 w4 ⟨rfl, hx5⟩ a ha
  have hE6 := Ext.trans hE hx5
  refine op_g ha rfl (g_assign rfl) ?_; clear ha a; intro a ha
  refine wpList_nil ?_
  replace ha := ha.sub (σ' := [(0, va0), (2, (.int .u32 (BitVec.toNat a2 : Int))), (7, (.int .u32 (BitVec.toNat x1 : Int)))]) ⟨rfl, rfl, rfl, trivial⟩
  refine e_then ?_
  obtain ⟨o273, ho274, hK275⟩ := bnd_some hF
  obtain ⟨n276, hn277⟩ := lp_some ho274; clear ho274
  refine c_loop (fun a w => Fr 35 [] a ∧ Chg [] W w ∧ o273 = .inl ()) (fun n a w => ∃ (u140 : BitVec 32), Fr 35 [(0, va0), (2, (.int .u32 (BitVec.toNat a2 : Int))), (7, (.int .u32 (BitVec.toNat u140 : Int)))] a ∧ Chg [] W w ∧ lpN (fun s => F_impl_reach_l1 a0 a2 s) n u140 = some o273) n276 ⟨x1, ha.sub ⟨rfl, rfl, rfl, trivial⟩, hE6, hn277⟩ ?_ ?_
  · rintro m281 a w139 ⟨u140, ha, hE141, hF⟩
    cases m281 with
    | zero => exact (lpN_zero hF).elim
    | succ m281 =>
      obtain ⟨z280, hF, hN279⟩ := lpN_succ hF
      have hF : F_impl_reach_l1 a0 a2 u140 = some z280 := hF; unfold F_impl_reach_l1 at hF
      refine wp_block ?_
      refine wp_seq ?_
      refine wp_region_lit ?_
      refine op_g ha rfl (g_move rfl) ?_; clear ha a; intro a ha
      refine op_g ha rfl (g_assign rfl) ?_; clear ha a; intro a ha
      refine wpList_nil ?_
      replace ha := ha.sub (σ' := [(0, va0), (2, (.int .u32 (BitVec.toNat a2 : Int))), (7, (.int .u32 (BitVec.toNat u140 : Int))), (8, (.int .u32 (BitVec.toNat u140 : Int)))]) ⟨rfl, rfl, rfl, rfl, trivial⟩
      refine e_then ?_
      refine wp_seq ?_
      refine wp_seq ?_
      refine wp_region_lit ?_
      refine op_g ha rfl (g_move rfl) ?_; clear ha a; intro a ha
      obtain ⟨x282, hc283, hF⟩ := cal_some hF
      refine o_call ha rfl rfl Tryd.call88 (W_impl_vset_list (hG.ext hE141) hc283) ?_; clear ha a; rintro v284 w285 ⟨b287, h288, z289, hx286⟩ a ha
      have hE291 := Ext.trans hE141 hx286
      have q292 := Zn.upD z289 hE141
      refine op_g ha rfl (g_lenO sl105.und h288 rfl) ?_; clear ha a; intro a ha
      refine op_g ha rfl (g_move rfl) ?_; clear ha a; intro a ha
      refine wpList_nil ?_
      replace ha := ha.sub (σ' := [(0, va0), (2, (.int .u32 (BitVec.toNat a2 : Int))), (7, (.int .u32 (BitVec.toNat u140 : Int))), (8, (.int .u32 (BitVec.toNat u140 : Int))), (15, v284), (16, (.int .i64 (x282.length : Int))), (17, (.int .i64 0))]) ⟨rfl, rfl, rfl, rfl, rfl, rfl, rfl, trivial⟩
      refine e_then ?_
      obtain ⟨o374, ho375, hK376⟩ := bnd_some hF
      obtain ⟨n377, hn378⟩ := lp_some ho375; clear ho375
      refine c_loop (fun a w => ∃ (u373 : BitVec 32), Fr 35 [(0, va0), (2, (.int .u32 (BitVec.toNat a2 : Int))), (7, (.int .u32 (BitVec.toNat u140 : Int))), (8, (.int .u32 (BitVec.toNat u373 : Int)))] a ∧ Chg [] W w ∧ o374 = .inl u373) (fun n a w => ∃ (u332 : BitVec 32) (i336 : Int), Fr 35 [(0, va0), (2, (.int .u32 (BitVec.toNat a2 : Int))), (7, (.int .u32 (BitVec.toNat u140 : Int))), (8, (.int .u32 (BitVec.toNat u332 : Int))), (15, v284), (16, (.int .i64 (x282.length : Int))), (17, (.int .i64 i336))] a ∧ Chg [] W w ∧ InI i336 ∧ Ow Rp.int 3 true w [] b287 v284 x282 ∧ Zn W b287 ∧ lpN (fun s => F_impl_reach_l2 a0 a2 x282 s.1 s.2) n (u332, i336) = some o374) n377 ⟨u140, 0, ha.sub ⟨rfl, rfl, rfl, rfl, rfl, rfl, rfl, trivial⟩, hE291, (show InI 0 from by decide), h288, q292, hn378⟩ ?_ ?_
      · rintro m382 a w331 ⟨u332, i336, ha, hE338, hI337, h334, z335, hF⟩
        cases m382 with
        | zero => exact (lpN_zero hF).elim
        | succ m382 =>
          obtain ⟨z381, hF, hN380⟩ := lpN_succ hF
          have hF : F_impl_reach_l2 a0 a2 x282 u332 i336 = some z381 := hF; unfold F_impl_reach_l2 at hF
          refine wp_seq ?_
          refine wp_region_lit ?_
          refine op_g ha rfl (g_lss rfl rfl) ?_; clear ha a; intro a ha
          refine wpList_nil ?_
          replace ha := ha.sub (σ' := [(0, va0), (2, (.int .u32 (BitVec.toNat a2 : Int))), (7, (.int .u32 (BitVec.toNat u140 : Int))), (8, (.int .u32 (BitVec.toNat u332 : Int))), (15, v284), (16, (.int .i64 (x282.length : Int))), (17, (.int .i64 i336)), (18, (.bool (decide (i336 < (x282.length : Int)))))]) ⟨rfl, rfl, rfl, rfl, rfl, rfl, rfl, rfl, trivial⟩
          refine e_then ?_
          refine wp_seq ?_
          refine c_cond (i336 < (x282.length : Int)) ha rfl (decide_eq_true_iff) (fun hp383 => ?_) (fun hp383 => ?_)
          · replace hF := if_t hp383 hF
            refine wp_skip ?_
            refine e_then ?_
            refine wp_seq ?_
            refine wp_block ?_
            refine wp_seq ?_
            refine wp_region_lit ?_
            obtain ⟨x384, g385, gx386, hF⟩ := idx_some hF
            obtain ⟨p387, cs388, f389, hf390, hpb391, hat392, hr393, hi394⟩ := h334.at g385 gx386
            obtain ⟨rfl, hI395, rfl⟩ := hr393
            refine op_g ha rfl (hi394.gives sl105 rfl rfl) ?_; clear ha a; intro a ha
            refine op_g ha rfl (g_load Tryd.isAgg3 rfl hat392.one) ?_; clear ha a; intro a ha
            refine op_g ha rfl (g_assign rfl) ?_; clear ha a; intro a ha
            refine wpList_nil ?_
            replace ha := ha.sub (σ' := [(0, va0), (2, (.int .u32 (BitVec.toNat a2 : Int))), (7, (.int .u32 (BitVec.toNat u140 : Int))), (8, (.int .u32 (BitVec.toNat u332 : Int))), (10, (.int .i64 x384)), (15, v284), (16, (.int .i64 (x282.length : Int))), (17, (.int .i64 i336))]) ⟨rfl, rfl, rfl, rfl, rfl, rfl, rfl, rfl, trivial⟩
            refine e_then ?_
            refine wp_region_lit ?_
            refine op_g ha rfl (g_move rfl) ?_; clear ha a; intro a ha
            refine op_g ha rfl (g_move rfl) ?_; clear ha a; intro a ha
            refine op_g ha rfl (g_move rfl) ?_; clear ha a; intro a ha
            obtain ⟨x396, g397, gx398, hF⟩ := idx_some hF
            obtain ⟨p399, cs400, f401, hf402, hpb403, hat404, hr405, hi406⟩ := ha0.at g397 gx398
            obtain ⟨rfl, rfl⟩ := hr405
            refine op_g ha rfl (hi406.gives sl64 rfl rfl) ?_; clear ha a; intro a ha
            refine op_g ha rfl (g_load0 hE338 Tryd.isAgg69 rfl hat404.one) ?_; clear ha a; intro a ha
            refine op_g ha rfl (g_move rfl) ?_; clear ha a; intro a ha
            refine op_g ha rfl (g32_and (m := x396) (n := a2) rfl rfl) ?_; clear ha a; intro a ha
            refine op_g ha rfl (g32_or (m := u332) (n := (x396 &&& a2)) rfl rfl) ?_; clear ha a; intro a ha
            refine op_g ha rfl (g_assign rfl) ?_; clear ha a; intro a ha
            refine wpList_nil ?_
            replace ha := ha.sub (σ' := [(0, va0), (2, (.int .u32 (BitVec.toNat a2 : Int))), (7, (.int .u32 (BitVec.toNat u140 : Int))), (8, (.int .u32 (BitVec.toNat (u332 ||| (x396 &&& a2)) : Int))), (15, v284), (16, (.int .i64 (x282.length : Int))), (17, (.int .i64 i336))]) ⟨rfl, rfl, rfl, rfl, rfl, rfl, rfl, trivial⟩
            refine e_blk ?_
            refine e_then ?_
            refine wp_region_lit ?_
            obtain ⟨hI407, hF⟩ := ck_some hF
            refine op_g ha rfl (g_add rfl rfl hI407) ?_; clear ha a; intro a ha
            refine op_g ha rfl (g_move rfl) ?_; clear ha a; intro a ha
            refine wpList_nil ?_
            replace ha := ha.sub (σ' := [(0, va0), (2, (.int .u32 (BitVec.toNat a2 : Int))), (7, (.int .u32 (BitVec.toNat u140 : Int))), (8, (.int .u32 (BitVec.toNat (u332 ||| (x396 &&& a2)) : Int))), (15, v284), (16, (.int .i64 (x282.length : Int))), (17, (.int .i64 (i336 + 1)))]) ⟨rfl, rfl, rfl, rfl, rfl, rfl, rfl, trivial⟩
            refine e_lq ?_
            obtain rfl := Option.some.inj hF
            exact ⟨_, Nat.lt_succ_self _, u332 ||| (x396 &&& a2), i336 + 1, ha.sub ⟨rfl, rfl, rfl, rfl, rfl, rfl, rfl, trivial⟩, hE338, hI407, h334, z335, hN380⟩
          · replace hF := if_f hp383 hF
            refine wp_exit ?_
            refine e_then_exit ?_
            refine e_lq_eq ?_
            obtain rfl := Option.some.inj hF
            exact ⟨u332, ha.sub ⟨rfl, rfl, rfl, rfl, trivial⟩, hE338, (LK_inr hN380).symm⟩
      · rintro a w372 ⟨u373, ha, hE379, rfl⟩
        have hF : F_impl_reach_k3 u140 u373 = some _ := hK376; clear hK376; unfold F_impl_reach_k3 at hF
        refine e_then ?_
        refine wp_seq ?_
        refine wp_seq ?_
        refine wp_region_lit ?_
        refine op_g ha rfl (g_move rfl) ?_; clear ha a; intro a ha
        refine op_g ha rfl (g_move rfl) ?_; clear ha a; intro a ha
        refine op_g ha rfl (g32_eql (m := u373) (n := u140) rfl rfl) ?_; clear ha a; intro a ha
        refine wpList_nil ?_
        replace ha := ha.sub (σ' := [(0, va0), (2, (.int .u32 (BitVec.toNat a2 : Int))), (7, (.int .u32 (BitVec.toNat u140 : Int))), (8, (.int .u32 (BitVec.toNat u373 : Int))), (32, (.bool (decide (u373 = u140))))]) ⟨rfl, rfl, rfl, rfl, rfl, trivial⟩
        refine e_then ?_
        refine c_cond (u373 = u140) ha rfl (decide_eq_true_iff) (fun hp409 => ?_) (fun hp409 => ?_)
        · replace hF := if_t hp409 hF
          refine wp_seq ?_
          refine wp_region_lit ?_
          refine op_g ha rfl (g_move rfl) ?_; clear ha a; intro a ha
          refine op_g ha rfl (g_assign rfl) ?_; clear ha a; intro a ha
          refine wpList_nil ?_
          replace ha := ha.sub (σ' := [(6, (.int .u32 (BitVec.toNat u140 : Int)))]) ⟨rfl, trivial⟩
          refine e_then ?_
          refine wp_ret ?_
          refine e_then_ret ?_
          refine e_blk_ret ?_
          refine e_lq_ret ?_
          obtain rfl := Option.some.inj hF
          have e410 := LK_inr hN279; subst e410
          have e411 := BK_inr hK275; subst e411
          exact f_ret1 ha rfl rfl ⟨rfl, hE379⟩
        · replace hF := if_f hp409 hF
          refine wp_skip ?_
          refine e_then ?_
          refine wp_region_lit ?_
          refine op_g ha rfl (g_move rfl) ?_; clear ha a; intro a ha
          refine op_g ha rfl (g_assign rfl) ?_; clear ha a; intro a ha
          refine wpList_nil ?_
          replace ha := ha.sub (σ' := [(0, va0), (2, (.int .u32 (BitVec.toNat a2 : Int))), (7, (.int .u32 (BitVec.toNat u373 : Int)))]) ⟨rfl, rfl, rfl, trivial⟩
          refine e_blk ?_
          refine e_lq ?_
          obtain rfl := Option.some.inj hF
          exact ⟨_, Nat.lt_succ_self _, u373, ha.sub ⟨rfl, rfl, rfl, trivial⟩, hE379, hN279⟩
  · rintro a w272 ⟨ha, hE278, rfl⟩
    cases hK275
set_option maxHeartbeats 2000000 in
theorem W_impl_connected {W : World} {va0 : Value} {fa0 : List Nat} {a0 : (List (BitVec 32))} (ha0 : Ro Rp.u32 W fa0 va0 a0) {a1 : BitVec 32} (hG : GT 0 W) {r : Bool} (hF : F_impl_connected a0 a1 = some r) :
    Calls Tryd.prog 42 [va0, .int .u32 (BitVec.toNat a1 : Int)].toArray W (Ret fun u w' => u = .bool r ∧ Ext W w') := by
  refine f_enter Tryd.func42 rfl Tryd.ntmps42 rfl ?_
  intro a ha
  replace ha : Fr 16 [(0, va0), (1, (.int .u32 (BitVec.toNat a1 : Int)))] a := ha
  have hE : Chg [] W W := Chg.refl _ _
  unfold F_impl_connected at hF
  refine wp_seq ?_
  refine wp_region_lit ?_
  refine op_g ha rfl (g_assign rfl) ?_; clear ha a; intro a ha
  refine wpList_nil ?_
  replace ha := ha.sub (σ' := [(0, va0), (1, (.int .u32 (BitVec.toNat a1 : Int)))]) ⟨rfl, rfl, trivial⟩
  refine e_then ?_
  refine wp_seq ?_
  refine wp_region_lit ?_
  refine op_g ha rfl (g_move rfl) ?_; clear ha a; intro a ha
  refine op_g ha rfl (g32_neq (m := a1) (n := (0#32)) rfl rfl) ?_; clear ha a; intro a ha
  refine op_g ha rfl (g_move rfl) ?_; clear ha a; intro a ha
  by_cases hp1 : a1 ≠ (0#32)
  · replace hF := if_t hp1 hF
    rw [show (decide (a1 ≠ (0#32))) = true from (decide_eq_true_iff).2 hp1] at ha
    refine op_want (yields ha rfl rfl) ?_
    refine op_g ha rfl (g_move rfl) ?_; clear ha a; intro a ha
    refine op_want (yields ha rfl rfl) ?_
    refine op_g ha rfl (g_move rfl) ?_; clear ha a; intro a ha
    refine op_want (yields ha rfl rfl) ?_
    obtain ⟨x2, hc3, hF⟩ := cal_some hF
    refine o_call ha rfl rfl Tryd.call83 (W_impl_vset_least (hG.ext hE) hc3) ?_; clear ha a; rintro v4 w5 ⟨⟨rfl, hI7⟩, hx6⟩ a ha
    have hE8 := Ext.trans hE hx6
    refine op_want (yields ha rfl rfl) ?_
    refine op_g ha rfl (g_move rfl) ?_; clear ha a; intro a ha
    refine op_want (yields ha rfl rfl) ?_
    obtain ⟨x9, hc10, hF⟩ := cal_some hF
    refine o_call ha rfl rfl Tryd.call82 (W_impl_reach (ha0.ext hE8) hI7 (hG.ext hE8) hc10) ?_; clear ha a; rintro v11 w12 ⟨rfl, hx13⟩ a ha
    have hE14 := Ext.trans hE8 hx13
    refine op_want (yields ha rfl rfl) ?_
    refine op_g ha rfl (g_move rfl) ?_; clear ha a; intro a ha
    refine op_want (yields ha rfl rfl) ?_
    refine op_g ha rfl (g32_eql (m := x9) (n := a1) rfl rfl) ?_; clear ha a; intro a ha
    refine op_g ha rfl (g_pick rfl rfl) ?_; clear ha a; intro a ha
    refine op_g ha rfl (g_assign rfl) ?_; clear ha a; intro a ha
    refine wpList_nil ?_
    replace ha := ha.sub (σ' := [(4, (.bool (decide (x9 = a1))))]) ⟨rfl, trivial⟩
    refine e_then ?_
    refine wp_ret ?_
    obtain rfl := Option.some.inj hF
    exact f_ret1 ha rfl rfl ⟨rfl, hE14⟩
  · replace hF := if_f hp1 hF
    rw [show (decide (a1 ≠ (0#32))) = false from b_false (decide_eq_true_iff) hp1] at ha
    refine op_unwant ha rfl (yields ha rfl rfl) rfl ?_; clear ha a; intro a ha
    refine op_unwant ha rfl (yields ha rfl rfl) rfl ?_; clear ha a; intro a ha
    refine op_unwant ha rfl (yields ha rfl rfl) rfl ?_; clear ha a; intro a ha
    refine op_unwant ha rfl (yields ha rfl rfl) rfl ?_; clear ha a; intro a ha
    refine op_unwant ha rfl (yields ha rfl rfl) rfl ?_; clear ha a; intro a ha
    refine op_unwant ha rfl (yields ha rfl rfl) rfl ?_; clear ha a; intro a ha
    refine op_unwant ha rfl (yields ha rfl rfl) rfl ?_; clear ha a; intro a ha
    refine op_g ha rfl (g_pick rfl rfl) ?_; clear ha a; intro a ha
    refine op_g ha rfl (g_assign rfl) ?_; clear ha a; intro a ha
    refine wpList_nil ?_
    replace ha := ha.sub (σ' := [(4, (.bool false))]) ⟨rfl, trivial⟩
    refine e_then ?_
    refine wp_ret ?_
    obtain rfl := Option.some.inj hF
    exact f_ret1 ha rfl rfl ⟨rfl, hE⟩
set_option maxHeartbeats 2000000 in
theorem W_impl_netsOf {W : World} {va0_0 : Value} {fa0_0 : List Nat} {a0_0 : (List (List Int))} (ha0_0 : Ro (Rp.sl 2 Rp.int) W fa0_0 va0_0 a0_0) {r : (List (BitVec 32))} (hF : F_impl_netsOf a0_0 = some r) :
    Calls Tryd.prog 45 [.agg #[va0_0]].toArray W (Ret fun u w' => ∃ (b_u : Int), Ow Rp.u32 69 true w' [] b_u u r ∧ Zn W b_u ∧ Ext W w') := by
  refine f_enter Tryd.func45 rfl Tryd.ntmps45 rfl ?_
  intro a ha
  replace ha : Fr 21 [(0, (.agg #[va0_0]))] a := ha
  have hE : Chg [] W W := Chg.refl _ _
  unfold F_impl_netsOf at hF
  refine wp_seq ?_
  refine wp_region_lit ?_
  refine o_box ha rfl rfl rfl ?_; clear ha a; intro b1 w2 hB3 hx4 hlo5 a ha
  have q6 := Zn.one hlo5
  have q7 := Zn.upD q6 hE
  have hE8 := Ext.trans hE hx4
  refine op_g ha rfl (g_assign rfl) ?_; clear ha a; intro a ha
  refine wpList_nil ?_
  replace ha := ha.sub (σ' := [(1, (.pointer (some ⟨b1, 0, none⟩)))]) ⟨rfl, trivial⟩
  refine e_then ?_
  refine wp_seq ?_
  refine wp_region_lit ?_
  refine o_lit0 Rp.u32 ha rfl sl64 ?_; clear ha a; intro v9 w10 h11 hx12 a ha
  obtain ⟨b14, hb14⟩ : ∃ b : Int, b = w2.heap.size := ⟨_, rfl⟩; rw [← hb14] at h11
  have q15 := zn_of hb14
  have q16 := Nq.new hB3.fpb q15
  have q17 := Nq.madeO q15 hB3.bi
  have q18 := Zn.upD q15 hE8
  replace hB3 := hB3.ext hx12
  have hE19 := Ext.trans hE8 hx12
  refine op_g ha rfl (g_assign rfl) ?_; clear ha a; intro a ha
  refine wpList_nil ?_
  replace ha := ha.sub (σ' := [(1, (.pointer (some ⟨b1, 0, none⟩))), (3, v9)]) ⟨rfl, rfl, trivial⟩
  refine e_then ?_
  refine wp_seq ?_
  refine wp_seq ?_
  refine wp_region_lit ?_
  refine op_g ha rfl (g_field0 st30_0 rfl) ?_; clear ha a; intro a ha
  refine op_g ha rfl (g_load Tryd.isAgg22 rfl (hB3.cell rfl)) ?_; clear ha a; intro a ha
  refine op_g ha rfl (g_lenR sl22.und ha0_0 rfl) ?_; clear ha a; intro a ha
  refine op_g ha rfl (g_move rfl) ?_; clear ha a; intro a ha
  refine wpList_nil ?_
  replace ha := ha.sub (σ' := [(3, v9), (8, va0_0), (9, (.int .i64 (a0_0.length : Int))), (10, (.int .i64 0))]) ⟨rfl, rfl, rfl, rfl, trivial⟩
  refine e_then ?_
  obtain ⟨o152, ho153, hK154⟩ := bnd_some hF
  obtain ⟨n155, hn156⟩ := lp_some ho153; clear ho153
  refine c_loop (fun a w => ∃ (l149 : (List (BitVec 32))) (v150 : Value) (b151 : Int), Fr 21 [(3, v150)] a ∧ Chg [] W w ∧ Ow Rp.u32 69 true w [] b151 v150 l149 ∧ Zn W b151 ∧ o152 = .inl l149) (fun n a w => ∃ (l84 : (List (BitVec 32))) (i87 : Int) (v85 : Value) (b86 : Int), Fr 21 [(3, v85), (8, va0_0), (9, (.int .i64 (a0_0.length : Int))), (10, (.int .i64 i87))] a ∧ Chg [] W w ∧ InI i87 ∧ Ow Rp.u32 69 true w [] b86 v85 l84 ∧ Zn W b86 ∧ lpN (fun s => F_impl_netsOf_l1 a0_0 s.1 s.2) n (l84, i87) = some o152) n155 ⟨([] : (List (BitVec 32))), 0, v9, b14, ha.sub ⟨rfl, rfl, rfl, rfl, trivial⟩, hE19, (show InI 0 from by decide), h11, q18, hn156⟩ ?_ ?_
  · rintro m160 a w80 ⟨l84, i87, v85, b86, ha, hE89, hI88, h82, z83, hF⟩
    cases m160 with
    | zero => exact (lpN_zero hF).elim
    | succ m160 =>
      obtain ⟨z159, hF, hN158⟩ := lpN_succ hF
      have hF : F_impl_netsOf_l1 a0_0 l84 i87 = some z159 := hF; unfold F_impl_netsOf_l1 at hF
      refine wp_seq ?_
      refine wp_region_lit ?_
      refine op_g ha rfl (g_lss rfl rfl) ?_; clear ha a; intro a ha
      refine wpList_nil ?_
      replace ha := ha.sub (σ' := [(3, v85), (8, va0_0), (9, (.int .i64 (a0_0.length : Int))), (10, (.int .i64 i87)), (11, (.bool (decide (i87 < (a0_0.length : Int)))))]) ⟨rfl, rfl, rfl, rfl, rfl, trivial⟩
      refine e_then ?_
      refine wp_seq ?_
      refine c_cond (i87 < (a0_0.length : Int)) ha rfl (decide_eq_true_iff) (fun hp161 => ?_) (fun hp161 => ?_)
      · replace hF := if_t hp161 hF
        refine wp_skip ?_
        refine e_then ?_
        refine wp_seq ?_
        refine wp_block ?_
        refine wp_seq ?_
        refine wp_region_lit ?_
        obtain ⟨x162, g163, gx164, hF⟩ := idx_some hF
        obtain ⟨p165, cs166, f167, hf168, hpb169, hat170, hr171, hi172⟩ := ha0_0.at g163 gx164
        obtain ⟨v173, rfl, h174⟩ := hr171
        have h174 : Ro Rp.int W f167 v173 x162 := h174
        refine op_g ha rfl (hi172.gives sl22 rfl rfl) ?_; clear ha a; intro a ha
        refine op_g ha rfl (g_load0 hE89 Tryd.isAgg45 rfl hat170.one) ?_; clear ha a; intro a ha
        refine op_g ha rfl (g_assign rfl) ?_; clear ha a; intro a ha
        refine wpList_nil ?_
        replace ha := ha.sub (σ' := [(3, v85), (5, v173), (8, va0_0), (9, (.int .i64 (a0_0.length : Int))), (10, (.int .i64 i87))]) ⟨rfl, rfl, rfl, rfl, rfl, trivial⟩
        refine e_then ?_
        refine wp_region_lit ?_
        refine op_g ha rfl (g_move rfl) ?_; clear ha a; intro a ha
        refine op_g ha rfl (g_move rfl) ?_; clear ha a; intro a ha
        obtain ⟨x176, hc177, hF⟩ := cal_some hF
        refine o_call ha rfl rfl Tryd.call66 (W_impl_maskOf (h174.ext hE89) hc177) ?_; clear ha a; rintro v178 w179 ⟨rfl, hx180⟩ a ha
        replace h82 := h82.ext hx180
        have hE181 := Ext.trans hE89 hx180
        refine o_lit1 (o := true) (y := x176) Rp.u32 ha rfl sl64 rfl rfl rfl ⟨rfl, rfl⟩ ?_; clear ha a; intro v182 w183 h184 hx185 a ha
        obtain ⟨b187, hb187⟩ : ∃ b : Int, b = w179.heap.size := ⟨_, rfl⟩; rw [← hb187] at h184
        have q188 := zn_of hb187
        have q189 := Nq.new h82.fpb q188
        have q190 := Nq.madeO q188 h82.blt
        have q191 := Zn.upD q188 hE181
        replace h82 := h82.ext hx185
        have hE192 := Ext.trans hE181 hx185
        obtain ⟨hl193, hF⟩ := app_some hF
        refine o_append ha rfl sl64 rfl rfl rfl h82 h184.src (Nq.nil _) hl193 ?_; clear ha a; intro v194 w195 b196 h197 hc198 hb199 a ha
        replace h197 : Ow Rp.u32 69 true w195 [] b196 v194 _ := h197
        have q201 := Nq.appY q190 h184.fpb hb199
        have q202 := Nq.appX q189 (Nq.nil _) hb199 h184.blt
        have q203 := Zn.appD z83 hb199 hE192
        replace h184 := h184.nq hc198 q190
        have hE204 := Ext.then hE192 hc198 (Zn.bl z83)
        refine op_g ha rfl (g_assign rfl) ?_; clear ha a; intro a ha
        refine wpList_nil ?_
        replace ha := ha.sub (σ' := [(3, v194), (8, va0_0), (9, (.int .i64 (a0_0.length : Int))), (10, (.int .i64 i87))]) ⟨rfl, rfl, rfl, rfl, trivial⟩
        refine e_blk ?_
        refine e_then ?_
        refine wp_region_lit ?_
        obtain ⟨hI205, hF⟩ := ck_some hF
        refine op_g ha rfl (g_add rfl rfl hI205) ?_; clear ha a; intro a ha
        refine op_g ha rfl (g_move rfl) ?_; clear ha a; intro a ha
        refine wpList_nil ?_
        replace ha := ha.sub (σ' := [(3, v194), (8, va0_0), (9, (.int .i64 (a0_0.length : Int))), (10, (.int .i64 (i87 + 1)))]) ⟨rfl, rfl, rfl, rfl, trivial⟩
        refine e_lq ?_
        obtain rfl := Option.some.inj hF
        exact ⟨_, Nat.lt_succ_self _, (l84 ++ ([x176])), i87 + 1, v194, b196, ha.sub ⟨rfl, rfl, rfl, rfl, trivial⟩, hE204, hI205, h197, q203, hN158⟩
      · replace hF := if_f hp161 hF
        refine wp_exit ?_
        refine e_then_exit ?_
        refine e_lq_eq ?_
        obtain rfl := Option.some.inj hF
        exact ⟨l84, v85, b86, ha.sub ⟨rfl, trivial⟩, hE89, h82, z83, (LK_inr hN158).symm⟩
  · rintro a w145 ⟨l149, v150, b151, ha, hE157, h147, z148, rfl⟩
    have hF : F_impl_netsOf_k2 l149 = some _ := hK154; clear hK154; unfold F_impl_netsOf_k2 at hF
    refine e_then ?_
    refine wp_seq ?_
    refine wp_region_lit ?_
    refine op_g ha rfl (g_move rfl) ?_; clear ha a; intro a ha
    refine op_g ha rfl (g_assign rfl) ?_; clear ha a; intro a ha
    refine wpList_nil ?_
    replace ha := ha.sub (σ' := [(2, v150)]) ⟨rfl, trivial⟩
    refine e_then ?_
    refine wp_ret ?_
    obtain rfl := Option.some.inj hF
    exact f_ret1 ha rfl rfl ⟨_, h147, z148, hE157⟩
set_option maxHeartbeats 2000000 in
theorem W_impl_vset_has {W : World} {a0 : BitVec 32} {a1 : Int} (ha1 : InI a1) {r : Bool} (hF : F_impl_vset_has a0 a1 = some r) :
    Calls Tryd.prog 46 [.int .u32 (BitVec.toNat a0 : Int), .int .i64 a1].toArray W (Ret fun u w' => u = .bool r ∧ Ext W w') := by
  refine f_enter Tryd.func46 rfl Tryd.ntmps46 rfl ?_
  intro a ha
  replace ha : Fr 10 [(0, (.int .u32 (BitVec.toNat a0 : Int))), (1, (.int .i64 a1))] a := ha
  have hE : Chg [] W W := Chg.refl _ _
  unfold F_impl_vset_has at hF
  refine wp_seq ?_
  refine wp_region_lit ?_
  refine op_g ha rfl (g_assign rfl) ?_; clear ha a; intro a ha
  refine wpList_nil ?_
  replace ha := ha.sub (σ' := [(0, (.int .u32 (BitVec.toNat a0 : Int))), (1, (.int .i64 a1))]) ⟨rfl, rfl, trivial⟩
  refine e_then ?_
  refine wp_seq ?_
  refine wp_region_lit ?_
  refine op_g ha rfl (g_move rfl) ?_; clear ha a; intro a ha
  refine op_g ha rfl (g_move rfl) ?_; clear ha a; intro a ha
  obtain ⟨hs1, hF⟩ := grd_some hF
  refine op_g ha rfl (g32_shr (m := a0) rfl rfl hs1) ?_; clear ha a; intro a ha
  refine op_g ha rfl (g32_and (m := (a0 >>> (a1 : Int).toNat)) (n := (1#32)) rfl rfl) ?_; clear ha a; intro a ha
  refine op_g ha rfl (g32_eql (m := ((a0 >>> (a1 : Int).toNat) &&& (1#32))) (n := (1#32)) rfl rfl) ?_; clear ha a; intro a ha
  refine op_g ha rfl (g_assign rfl) ?_; clear ha a; intro a ha
  refine wpList_nil ?_
  replace ha := ha.sub (σ' := [(4, (.bool (decide (((a0 >>> (a1 : Int).toNat) &&& (1#32)) = (1#32)))))]) ⟨rfl, trivial⟩
  refine e_then ?_
  refine wp_ret ?_
  obtain rfl := Option.some.inj hF
  exact f_ret1 ha rfl rfl ⟨rfl, hE⟩
set_option maxHeartbeats 2000000 in
theorem W_impl_coversEdges {W : World} {va0 : Value} {fa0 : List Nat} {a0 : (List (BitVec 32))} (ha0 : Ro Rp.u32 W fa0 va0 a0) {va1 : Value} {fa1 : List Nat} {a1 : (List (BitVec 32))} (ha1 : Ro Rp.u32 W fa1 va1 a1) {r : Bool} (hF : F_impl_coversEdges a0 a1 = some r) :
    Calls Tryd.prog 44 [va0, va1].toArray W (Ret fun u w' => u = .bool r ∧ Ext W w') := by
  refine f_enter Tryd.func44 rfl Tryd.ntmps44 rfl ?_
  intro a ha
  replace ha : Fr 41 [(0, va0), (1, va1)] a := ha
  have hE : Chg [] W W := Chg.refl _ _
  unfold F_impl_coversEdges at hF
  refine wp_seq ?_
  refine wp_region_lit ?_
  refine op_g ha rfl (g_assign rfl) ?_; clear ha a; intro a ha
  refine wpList_nil ?_
  replace ha := ha.sub (σ' := [(0, va0), (1, va1)]) ⟨rfl, rfl, trivial⟩
  refine e_then ?_
  refine wp_seq ?_
  refine wp_seq ?_
  refine wp_region_lit ?_
  refine op_g ha rfl (g_move rfl) ?_; clear ha a; intro a ha
  refine op_g ha rfl (g_lenR sl64.und ha0 rfl) ?_; clear ha a; intro a ha
  refine op_g ha rfl (g_move rfl) ?_; clear ha a; intro a ha
  refine wpList_nil ?_
  replace ha := ha.sub (σ' := [(1, va1), (10, va0), (11, (.int .i64 (a0.length : Int))), (12, (.int .i64 0))]) ⟨rfl, rfl, rfl, rfl, trivial⟩
  refine e_then ?_
  obtain ⟨o248, ho249, hK250⟩ := bnd_some hF
  obtain ⟨n251, hn252⟩ := lp_some ho249; clear ho249
  refine c_loop (fun a w => Fr 41 [] a ∧ Chg [] W w ∧ o248 = .inl ()) (fun n a w => ∃ (i124 : Int), Fr 41 [(1, va1), (10, va0), (11, (.int .i64 (a0.length : Int))), (12, (.int .i64 i124))] a ∧ Chg [] W w ∧ InI i124 ∧ lpN (fun s => F_impl_coversEdges_l1 a0 a1 s) n i124 = some o248) n251 ⟨0, ha.sub ⟨rfl, rfl, rfl, rfl, trivial⟩, hE, (show InI 0 from by decide), hn252⟩ ?_ ?_
  · rintro m256 a w123 ⟨i124, ha, hE126, hI125, hF⟩
    cases m256 with
    | zero => exact (lpN_zero hF).elim
    | succ m256 =>
      obtain ⟨z255, hF, hN254⟩ := lpN_succ hF
      have hF : F_impl_coversEdges_l1 a0 a1 i124 = some z255 := hF; unfold F_impl_coversEdges_l1 at hF
      refine wp_seq ?_
      refine wp_region_lit ?_
      refine op_g ha rfl (g_lss rfl rfl) ?_; clear ha a; intro a ha
      refine wpList_nil ?_
      replace ha := ha.sub (σ' := [(1, va1), (10, va0), (11, (.int .i64 (a0.length : Int))), (12, (.int .i64 i124)), (13, (.bool (decide (i124 < (a0.length : Int)))))]) ⟨rfl, rfl, rfl, rfl, rfl, trivial⟩
      refine e_then ?_
      refine wp_seq ?_
      refine c_cond (i124 < (a0.length : Int)) ha rfl (decide_eq_true_iff) (fun hp257 => ?_) (fun hp257 => ?_)
      · replace hF := if_t hp257 hF
        refine wp_skip ?_
        refine e_then ?_
        refine wp_seq ?_
        refine wp_block ?_
        refine wp_seq ?_
        refine wp_region_lit ?_
        refine op_g ha rfl (g_move rfl) ?_; clear ha a; intro a ha
        obtain ⟨x258, g259, gx260, hF⟩ := idx_some hF
        obtain ⟨p261, cs262, f263, hf264, hpb265, hat266, hr267, hi268⟩ := ha0.at g259 gx260
        obtain ⟨rfl, rfl⟩ := hr267
        refine op_g ha rfl (hi268.gives sl64 rfl rfl) ?_; clear ha a; intro a ha
        refine op_g ha rfl (g_load0 hE126 Tryd.isAgg69 rfl hat266.one) ?_; clear ha a; intro a ha
        refine op_g ha rfl (g_assign rfl) ?_; clear ha a; intro a ha
        refine op_g ha rfl (g_assign rfl) ?_; clear ha a; intro a ha
        refine wpList_nil ?_
        replace ha := ha.sub (σ' := [(1, va1), (5, (.int .i64 i124)), (6, (.int .u32 (BitVec.toNat x258 : Int))), (10, va0), (11, (.int .i64 (a0.length : Int))), (12, (.int .i64 i124))]) ⟨rfl, rfl, rfl, rfl, rfl, rfl, trivial⟩
        refine e_then ?_
        refine wp_seq ?_
        refine wp_region_lit ?_
        refine op_g ha rfl (g_assign rfl) ?_; clear ha a; intro a ha
        refine wpList_nil ?_
        replace ha := ha.sub (σ' := [(1, va1), (5, (.int .i64 i124)), (6, (.int .u32 (BitVec.toNat x258 : Int))), (7, (.int .u32 (BitVec.toNat (0#32) : Int))), (10, va0), (11, (.int .i64 (a0.length : Int))), (12, (.int .i64 i124))]) ⟨rfl, rfl, rfl, rfl, rfl, rfl, rfl, trivial⟩
        refine e_then ?_
        refine wp_seq ?_
        refine wp_seq ?_
        refine wp_region_lit ?_
        refine op_g ha rfl (g_move rfl) ?_; clear ha a; intro a ha
        refine op_g ha rfl (g_lenR sl63.und ha1 rfl) ?_; clear ha a; intro a ha
        refine op_g ha rfl (g_move rfl) ?_; clear ha a; intro a ha
        refine wpList_nil ?_
        replace ha := ha.sub (σ' := [(1, va1), (5, (.int .i64 i124)), (6, (.int .u32 (BitVec.toNat x258 : Int))), (7, (.int .u32 (BitVec.toNat (0#32) : Int))), (10, va0), (11, (.int .i64 (a0.length : Int))), (12, (.int .i64 i124)), (17, va1), (18, (.int .i64 (a1.length : Int))), (19, (.int .i64 0))]) ⟨rfl, rfl, rfl, rfl, rfl, rfl, rfl, rfl, rfl, rfl, trivial⟩
        refine e_then ?_
        obtain ⟨o332, ho333, hK334⟩ := bnd_some hF
        obtain ⟨n335, hn336⟩ := lp_some ho333; clear ho333
        refine c_loop (fun a w => ∃ (u331 : BitVec 32), Fr 41 [(1, va1), (5, (.int .i64 i124)), (6, (.int .u32 (BitVec.toNat x258 : Int))), (7, (.int .u32 (BitVec.toNat u331 : Int))), (10, va0), (11, (.int .i64 (a0.length : Int))), (12, (.int .i64 i124))] a ∧ Chg [] W w ∧ o332 = .inl u331) (fun n a w => ∃ (u299 : BitVec 32) (i300 : Int), Fr 41 [(1, va1), (5, (.int .i64 i124)), (6, (.int .u32 (BitVec.toNat x258 : Int))), (7, (.int .u32 (BitVec.toNat u299 : Int))), (10, va0), (11, (.int .i64 (a0.length : Int))), (12, (.int .i64 i124)), (17, va1), (18, (.int .i64 (a1.length : Int))), (19, (.int .i64 i300))] a ∧ Chg [] W w ∧ InI i300 ∧ lpN (fun s => F_impl_coversEdges_l2 a1 i124 s.1 s.2) n (u299, i300) = some o332) n335 ⟨0#32, 0, ha.sub ⟨rfl, rfl, rfl, rfl, rfl, rfl, rfl, rfl, rfl, rfl, trivial⟩, hE126, (show InI 0 from by decide), hn336⟩ ?_ ?_
        · rintro m340 a w298 ⟨u299, i300, ha, hE302, hI301, hF⟩
          cases m340 with
          | zero => exact (lpN_zero hF).elim
          | succ m340 =>
            obtain ⟨z339, hF, hN338⟩ := lpN_succ hF
            have hF : F_impl_coversEdges_l2 a1 i124 u299 i300 = some z339 := hF; unfold F_impl_coversEdges_l2 at hF
            refine wp_seq ?_
            refine wp_region_lit ?_
            refine op_g ha rfl (g_lss rfl rfl) ?_; clear ha a; intro a ha
            refine wpList_nil ?_
            replace ha := ha.sub (σ' := [(1, va1), (5, (.int .i64 i124)), (6, (.int .u32 (BitVec.toNat x258 : Int))), (7, (.int .u32 (BitVec.toNat u299 : Int))), (10, va0), (11, (.int .i64 (a0.length : Int))), (12, (.int .i64 i124)), (17, va1), (18, (.int .i64 (a1.length : Int))), (19, (.int .i64 i300)), (20, (.bool (decide (i300 < (a1.length : Int)))))]) ⟨rfl, rfl, rfl, rfl, rfl, rfl, rfl, rfl, rfl, rfl, rfl, trivial⟩
            refine e_then ?_
            refine wp_seq ?_
            refine c_cond (i300 < (a1.length : Int)) ha rfl (decide_eq_true_iff) (fun hp341 => ?_) (fun hp341 => ?_)
            · replace hF := if_t hp341 hF
              refine wp_skip ?_
              refine e_then ?_
              refine wp_seq ?_
              refine wp_block ?_
              refine wp_seq ?_
              refine wp_region_lit ?_
              obtain ⟨x342, g343, gx344, hF⟩ := idx_some hF
              obtain ⟨p345, cs346, f347, hf348, hpb349, hat350, hr351, hi352⟩ := ha1.at g343 gx344
              obtain ⟨rfl, rfl⟩ := hr351
              refine op_g ha rfl (hi352.gives sl63 rfl rfl) ?_; clear ha a; intro a ha
              refine op_g ha rfl (g_load0 hE302 Tryd.isAgg69 rfl hat350.one) ?_; clear ha a; intro a ha
              refine op_g ha rfl (g_assign rfl) ?_; clear ha a; intro a ha
              refine wpList_nil ?_
              replace ha := ha.sub (σ' := [(1, va1), (5, (.int .i64 i124)), (6, (.int .u32 (BitVec.toNat x258 : Int))), (7, (.int .u32 (BitVec.toNat u299 : Int))), (9, (.int .u32 (BitVec.toNat x342 : Int))), (10, va0), (11, (.int .i64 (a0.length : Int))), (12, (.int .i64 i124)), (17, va1), (18, (.int .i64 (a1.length : Int))), (19, (.int .i64 i300))]) ⟨rfl, rfl, rfl, rfl, rfl, rfl, rfl, rfl, rfl, rfl, rfl, trivial⟩
              refine e_then ?_
              refine wp_seq ?_
              refine wp_region_lit ?_
              refine op_g ha rfl (g_move rfl) ?_; clear ha a; intro a ha
              refine op_g ha rfl (g_move rfl) ?_; clear ha a; intro a ha
              obtain ⟨x353, hc354, hF⟩ := cal_some hF
              refine o_call ha rfl rfl Tryd.call46 (W_impl_vset_has hI125 hc354) ?_; clear ha a; rintro v355 w356 ⟨rfl, hx357⟩ a ha
              have hE358 := Ext.trans hE302 hx357
              refine wpList_nil ?_
              replace ha := ha.sub (σ' := [(1, va1), (5, (.int .i64 i124)), (6, (.int .u32 (BitVec.toNat x258 : Int))), (7, (.int .u32 (BitVec.toNat u299 : Int))), (9, (.int .u32 (BitVec.toNat x342 : Int))), (10, va0), (11, (.int .i64 (a0.length : Int))), (12, (.int .i64 i124)), (17, va1), (18, (.int .i64 (a1.length : Int))), (19, (.int .i64 i300)), (25, (.bool x353))]) ⟨rfl, rfl, rfl, rfl, rfl, rfl, rfl, rfl, rfl, rfl, rfl, rfl, trivial⟩
              refine e_then ?_
              refine c_cond (x353 = true) ha rfl (Iff.rfl) (fun hp359 => ?_) (fun hp359 => ?_)
              · replace hF := if_t hp359 hF
                refine wp_region_lit ?_
                refine op_g ha rfl (g_move rfl) ?_; clear ha a; intro a ha
                refine op_g ha rfl (g_move rfl) ?_; clear ha a; intro a ha
                refine op_g ha rfl (g32_or (m := u299) (n := x342) rfl rfl) ?_; clear ha a; intro a ha
                refine op_g ha rfl (g_assign rfl) ?_; clear ha a; intro a ha
                refine wpList_nil ?_
                replace ha := ha.sub (σ' := [(1, va1), (5, (.int .i64 i124)), (6, (.int .u32 (BitVec.toNat x258 : Int))), (7, (.int .u32 (BitVec.toNat (u299 ||| x342) : Int))), (10, va0), (11, (.int .i64 (a0.length : Int))), (12, (.int .i64 i124)), (17, va1), (18, (.int .i64 (a1.length : Int))), (19, (.int .i64 i300))]) ⟨rfl, rfl, rfl, rfl, rfl, rfl, rfl, rfl, rfl, rfl, trivial⟩
                refine e_blk ?_
                refine e_then ?_
                refine wp_region_lit ?_
                obtain ⟨hI360, hF⟩ := ck_some hF
                refine op_g ha rfl (g_add rfl rfl hI360) ?_; clear ha a; intro a ha
                refine op_g ha rfl (g_move rfl) ?_; clear ha a; intro a ha
                refine wpList_nil ?_
                replace ha := ha.sub (σ' := [(1, va1), (5, (.int .i64 i124)), (6, (.int .u32 (BitVec.toNat x258 : Int))), (7, (.int .u32 (BitVec.toNat (u299 ||| x342) : Int))), (10, va0), (11, (.int .i64 (a0.length : Int))), (12, (.int .i64 i124)), (17, va1), (18, (.int .i64 (a1.length : Int))), (19, (.int .i64 (i300 + 1)))]) ⟨rfl, rfl, rfl, rfl, rfl, rfl, rfl, rfl, rfl, rfl, trivial⟩
                refine e_lq ?_
                obtain rfl := Option.some.inj hF
                exact ⟨_, Nat.lt_succ_self _, u299 ||| x342, i300 + 1, ha.sub ⟨rfl, rfl, rfl, rfl, rfl, rfl, rfl, rfl, rfl, rfl, trivial⟩, hE358, hI360, hN338⟩
              · replace hF := if_f hp359 hF
                refine wp_skip ?_
                refine e_blk ?_
                refine e_then ?_
                refine wp_region_lit ?_
                obtain ⟨hI362, hF⟩ := ck_some hF
                refine op_g ha rfl (g_add rfl rfl hI362) ?_; clear ha a; intro a ha
                refine op_g ha rfl (g_move rfl) ?_; clear ha a; intro a ha
                refine wpList_nil ?_
                replace ha := ha.sub (σ' := [(1, va1), (5, (.int .i64 i124)), (6, (.int .u32 (BitVec.toNat x258 : Int))), (7, (.int .u32 (BitVec.toNat u299 : Int))), (10, va0), (11, (.int .i64 (a0.length : Int))), (12, (.int .i64 i124)), (17, va1), (18, (.int .i64 (a1.length : Int))), (19, (.int .i64 (i300 + 1)))]) ⟨rfl, rfl, rfl, rfl, rfl, rfl, rfl, rfl, rfl, rfl, trivial⟩
                refine e_lq ?_
                obtain rfl := Option.some.inj hF
                exact ⟨_, Nat.lt_succ_self _, u299, i300 + 1, ha.sub ⟨rfl, rfl, rfl, rfl, rfl, rfl, rfl, rfl, rfl, rfl, trivial⟩, hE358, hI362, hN338⟩
            · replace hF := if_f hp341 hF
              refine wp_exit ?_
              refine e_then_exit ?_
              refine e_lq_eq ?_
              obtain rfl := Option.some.inj hF
              exact ⟨u299, ha.sub ⟨rfl, rfl, rfl, rfl, rfl, rfl, rfl, trivial⟩, hE302, (LK_inr hN338).symm⟩
        · rintro a w330 ⟨u331, ha, hE337, rfl⟩
          have hF : F_impl_coversEdges_k3 i124 x258 u331 = some _ := hK334; clear hK334; unfold F_impl_coversEdges_k3 at hF
          refine e_then ?_
          refine wp_seq ?_
          refine wp_region_lit ?_
          refine op_g ha rfl (g_move rfl) ?_; clear ha a; intro a ha
          refine op_g ha rfl (g_move rfl) ?_; clear ha a; intro a ha
          obtain ⟨x364, hc365, hF⟩ := cal_some hF
          refine o_call ha rfl rfl Tryd.call46 (W_impl_vset_has hI125 hc365) ?_; clear ha a; rintro v366 w367 ⟨rfl, hx368⟩ a ha
          have hE369 := Ext.trans hE337 hx368
          refine op_g ha rfl (g_not rfl) ?_; clear ha a; intro a ha
          refine op_g ha rfl (g_move rfl) ?_; clear ha a; intro a ha
          by_cases hp370 : ¬ (x364 = true)
          · replace hF := if_t hp370 hF
            rw [show (!x364) = true from (n_iff (Iff.rfl)).2 hp370] at ha
            refine op_unwant ha rfl (yields ha rfl rfl) rfl ?_; clear ha a; intro a ha
            refine op_unwant ha rfl (yields ha rfl rfl) rfl ?_; clear ha a; intro a ha
            refine op_unwant ha rfl (yields ha rfl rfl) rfl ?_; clear ha a; intro a ha
            refine op_unwant ha rfl (yields ha rfl rfl) rfl ?_; clear ha a; intro a ha
            refine op_g ha rfl (g_pick rfl rfl) ?_; clear ha a; intro a ha
            refine wpList_nil ?_
            replace ha := ha.sub (σ' := [(1, va1), (10, va0), (11, (.int .i64 (a0.length : Int))), (12, (.int .i64 i124)), (39, (.bool true))]) ⟨rfl, rfl, rfl, rfl, rfl, trivial⟩
            refine e_then ?_
            refine c_true ha rfl ?_
            refine wp_seq ?_
            refine wp_region_lit ?_
            refine op_g ha rfl (g_assign rfl) ?_; clear ha a; intro a ha
            refine wpList_nil ?_
            replace ha := ha.sub (σ' := [(4, (.bool false))]) ⟨rfl, trivial⟩
            refine e_then ?_
            refine wp_ret ?_
            refine e_blk_ret ?_
            refine e_then_ret ?_
            refine e_lq_ret ?_
            refine e_then_ret ?_
            obtain rfl := Option.some.inj hF
            have e371 := LK_inr hN254; subst e371
            have e372 := BK_inr hK250; subst e372
            exact f_ret1 ha rfl rfl ⟨rfl, hE369⟩
          · replace hF := if_f hp370 hF
            rw [show (!x364) = false from b_false (n_iff (Iff.rfl)) hp370] at ha
            refine op_want (yields ha rfl rfl) ?_
            refine op_g ha rfl (g_move rfl) ?_; clear ha a; intro a ha
            refine op_want (yields ha rfl rfl) ?_
            refine op_g ha rfl (g_move rfl) ?_; clear ha a; intro a ha
            refine op_want (yields ha rfl rfl) ?_
            refine op_g ha rfl (g32_andNot (m := x258) (n := u331) rfl rfl) ?_; clear ha a; intro a ha
            refine op_want (yields ha rfl rfl) ?_
            refine op_g ha rfl (g32_neq (m := (x258 &&& ~~~u331)) (n := (0#32)) rfl rfl) ?_; clear ha a; intro a ha
            refine op_g ha rfl (g_pick rfl rfl) ?_; clear ha a; intro a ha
            refine wpList_nil ?_
            replace ha := ha.sub (σ' := [(1, va1), (10, va0), (11, (.int .i64 (a0.length : Int))), (12, (.int .i64 i124)), (35, (.int .u32 (BitVec.toNat x258 : Int))), (36, (.int .u32 (BitVec.toNat u331 : Int))), (37, (.int .u32 (BitVec.toNat (x258 &&& ~~~u331) : Int))), (38, (.bool (decide ((x258 &&& ~~~u331) ≠ (0#32))))), (39, (.bool (decide ((x258 &&& ~~~u331) ≠ (0#32)))))]) ⟨rfl, rfl, rfl, rfl, rfl, rfl, rfl, rfl, rfl, trivial⟩
            refine e_then ?_
            refine c_cond ((x258 &&& ~~~u331) ≠ (0#32)) ha rfl (decide_eq_true_iff) (fun hp373 => ?_) (fun hp373 => ?_)
            · replace hF := if_t hp373 hF
              refine wp_seq ?_
              refine wp_region_lit ?_
              refine op_g ha rfl (g_assign rfl) ?_; clear ha a; intro a ha
              refine wpList_nil ?_
              replace ha := ha.sub (σ' := [(4, (.bool false))]) ⟨rfl, trivial⟩
              refine e_then ?_
              refine wp_ret ?_
              refine e_blk_ret ?_
              refine e_then_ret ?_
              refine e_lq_ret ?_
              refine e_then_ret ?_
              obtain rfl := Option.some.inj hF
              have e374 := LK_inr hN254; subst e374
              have e375 := BK_inr hK250; subst e375
              exact f_ret1 ha rfl rfl ⟨rfl, hE369⟩
            · replace hF := if_f hp373 hF
              refine wp_skip ?_
              refine e_blk ?_
              refine e_then ?_
              refine wp_region_lit ?_
              obtain ⟨hI376, hF⟩ := ck_some hF
              refine op_g ha rfl (g_add rfl rfl hI376) ?_; clear ha a; intro a ha
              refine op_g ha rfl (g_move rfl) ?_; clear ha a; intro a ha
              refine wpList_nil ?_
              replace ha := ha.sub (σ' := [(1, va1), (10, va0), (11, (.int .i64 (a0.length : Int))), (12, (.int .i64 (i124 + 1))), (35, (.int .u32 (BitVec.toNat x258 : Int))), (36, (.int .u32 (BitVec.toNat u331 : Int))), (37, (.int .u32 (BitVec.toNat (x258 &&& ~~~u331) : Int))), (38, (.bool (decide ((x258 &&& ~~~u331) ≠ (0#32)))))]) ⟨rfl, rfl, rfl, rfl, rfl, rfl, rfl, rfl, trivial⟩
              refine e_lq ?_
              obtain rfl := Option.some.inj hF
              exact ⟨_, Nat.lt_succ_self _, i124 + 1, ha.sub ⟨rfl, rfl, rfl, rfl, trivial⟩, hE369, hI376, hN254⟩
      · replace hF := if_f hp257 hF
        refine wp_exit ?_
        refine e_then_exit ?_
        refine e_lq_eq ?_
        obtain rfl := Option.some.inj hF
        exact ⟨ha.sub trivial, hE126, (LK_inr hN254).symm⟩
  · rintro a w247 ⟨ha, hE253, rfl⟩
    have hF : F_impl_coversEdges_k4 = some _ := hK250; clear hK250; unfold F_impl_coversEdges_k4 at hF
    refine e_then ?_
    refine wp_seq ?_
    refine wp_region_lit ?_
    refine op_g ha rfl (g_assign rfl) ?_; clear ha a; intro a ha
    refine wpList_nil ?_
    refine e_then ?_
    refine wp_ret ?_
    obtain rfl := Option.some.inj hF
    exact f_ret1 ha rfl rfl ⟨rfl, hE253⟩
end Go.Proofs.YteblmlgidgpeaaaDoor
