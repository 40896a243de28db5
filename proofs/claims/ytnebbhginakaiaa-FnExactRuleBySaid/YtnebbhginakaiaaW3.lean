/- Walks, printed by gen.py. -/
import Derived.Test.YtnebbhginakaiaaF
import Derived.Test.YtnebbhginakaiaaW2
import Derived.Test.YtnebbhginakaiaaProg
import Derived.KernelRfl
set_option maxRecDepth 100000
namespace Go.Proofs.Ytnebbhginakaiaa
open Go Go.RowKit

set_option maxHeartbeats 2000000 in
theorem W_slices_IndexFunc_int {W : World} {va0 : Value} {fa0 : List Nat} {a0 : (List Int)} (ha0 : Ro Rp.int W fa0 va0 a0) {ga1 : FuncId} {ga1c : List Value} {a1 : Int → Option Bool} (hga1 : ∀ w', Ext W w' → ∀ {z0 : Int} (hz0 : InI z0) {r : Bool}, a1 z0 = some r → Calls Try.prog ga1 (([.int .i64 z0] : List Value) ++ ga1c).toArray w' (Ret fun u w'' => u = .bool r ∧ Ext w' w'')) (hca1 : ∀ args w, (callFunc ga1 args).run Try.prog w = .ok (.enter ga1 args) w) {r : Int} (hF : F_slices_IndexFunc_int a0 a1 = some r) :
    Calls Try.prog 96 [va0, .func (.func ga1) #[] ga1c.toArray].toArray W (Ret fun u w' => (u = .int .i64 r ∧ InI r) ∧ Ext W w') := by
  refine f_enter Try.func96 rfl Try.ntmps96 rfl ?_
  intro a ha
  replace ha : Fr 19 [(0, va0), (1, (.func (.func ga1) #[] ga1c.toArray))] a := ha; have hE : Chg [] W W := Chg.refl _ _
  unfold F_slices_IndexFunc_int at hF
  refine wp_seq (wp_region_lit ?_); refine op_g ha rfl (g_assign rfl) ?_; intro a ha; refine wpList_nil (e_then (wp_seq (wp_seq (wp_region_lit ?_)))); refine op_g ha rfl (g_move rfl) fun a ha => op_g ha rfl (g_lenR sl92.und ha0 rfl) fun a ha => op_g ha rfl (g_move rfl) ?_; intro a ha; refine wpList_nil (e_then ?_); obtain ⟨o58, ho59, hK60⟩ := bnd_some hF; obtain ⟨n61, hn62⟩ := lp_some ho59; clear ho59; refine c_loop (fun a w => Fr 19 [] a ∧ Chg [] W w ∧ o58 = .inl ()) (fun n a w => ∃ (i29 : Int), Fr 19 [(0, va0), (1, (.func (.func ga1) #[] ga1c.toArray)), (7, (.int .i64 (a0.length : Int))), (8, (.int .i64 i29))] a ∧ Chg [] W w ∧ InI i29 ∧ lpN (fun s => F_slices_IndexFunc_int_l1 a0 a1 s) n i29 = some o58) n61 ⟨0, ha.sub ⟨rfl, rfl, rfl, rfl, trivial⟩, hE, (show InI 0 from by decide), hn62⟩ ?_ ?_
  · rintro m66 a w28 ⟨i29, ha, hE31, hI30, hF⟩
    cases m66 with
    | zero => exact (lpN_zero hF).elim
    | succ m66 =>
      obtain ⟨z65, hF, hN64⟩ := lpN_succ hF; have hF : F_slices_IndexFunc_int_l1 a0 a1 i29 = some z65 := hF; unfold F_slices_IndexFunc_int_l1 at hF; refine wp_seq (wp_region_lit ?_); refine op_g ha rfl (g_lss rfl rfl) ?_; intro a ha; refine wpList_nil (e_then (wp_seq ?_)); refine c_cond (i29 < (a0.length : Int)) ha rfl (decide_eq_true_iff) (fun hp67 => ?_) (fun hp67 => ?_)
      · replace hF := if_t hp67 hF
        refine wp_skip (e_then (wp_seq (wp_block (wp_seq (wp_region_lit ?_))))); refine op_g ha rfl (g_move rfl) fun a ha => op_g ha rfl (g_assign rfl) ?_; intro a ha; refine wpList_nil (e_then (wp_seq (wp_region_lit ?_))); refine op_g ha rfl (g_move rfl) fun a ha => op_g ha rfl (g_move rfl) fun a ha => op_g ha rfl (g_move rfl) ?_; intro a ha; obtain ⟨x68, g69, gx70, hF⟩ := idx_some hF; obtain ⟨p71, cs72, f73, hf74, hpb75, hat76, hr77, hi78⟩ := ha0.at g69 gx70; obtain ⟨rfl, hI79, rfl⟩ := hr77; refine op_g ha rfl (hi78.gives sl92 rfl rfl) fun a ha => op_g ha rfl (g_load0 hE31 Try.isAgg3 rfl hat76.one) ?_; intro a ha; obtain ⟨x80, hc81, hF⟩ := cal_some hF; refine o_callv ha rfl rfl rfl hca1 (hga1 _ hE31 hI79 hc81) ?_; clear ha a; rintro v82 w83 ⟨rfl, hx84⟩ a ha; have hE85 := Ext.trans hE31 hx84; refine wpList_nil (e_then ?_); refine c_cond (x80 = true) ha rfl (Iff.rfl) (fun hp86 => ?_) (fun hp86 => ?_)
        · replace hF := if_t hp86 hF
          refine wp_seq (wp_region_lit ?_); refine op_g ha rfl (g_move rfl) fun a ha => op_g ha rfl (g_assign rfl) ?_; intro a ha; refine wpList_nil ?_; replace ha := ha.sub (σ' := [(4, (.int .i64 i29))]) ⟨rfl, trivial⟩; refine e_then (wp_ret (e_blk_ret (e_then_ret (e_lq_ret (e_then_ret ?_))))); obtain rfl := Option.some.inj hF; have e87 := LK_inr hN64; subst e87; have e88 := BK_inr hK60; subst e88
          exact f_ret1 ha rfl rfl ⟨⟨rfl, hI30⟩, hE85⟩
        replace hF := if_f hp86 hF; refine wp_skip (e_blk (e_then (wp_region_lit ?_))); obtain ⟨hI89, hF⟩ := ck_some hF; refine op_g ha rfl (g_add rfl rfl hI89) fun a ha => op_g ha rfl (g_move rfl) ?_; intro a ha; refine wpList_nil (e_lq ?_); obtain rfl := Option.some.inj hF
        exact ⟨_, Nat.lt_succ_self _, i29 + 1, ha.sub ⟨rfl, rfl, rfl, rfl, trivial⟩, hE85, hI89, hN64⟩
      replace hF := if_f hp67 hF; refine wp_exit (e_then_exit (e_lq_eq ?_)); obtain rfl := Option.some.inj hF
      exact ⟨ha.sub trivial, hE31, (LK_inr hN64).symm⟩
  rintro a w57 ⟨ha, hE63, rfl⟩
  have hF : F_slices_IndexFunc_int_k2 = some _ := hK60; clear hK60; unfold F_slices_IndexFunc_int_k2 at hF; refine e_then (wp_seq (wp_region_lit ?_)); refine op_g ha rfl (g_assign rfl) ?_; intro a ha; refine wpList_nil (e_then (wp_ret ?_)); obtain rfl := Option.some.inj hF
  exact f_ret1 ha rfl rfl ⟨⟨rfl, (show InI (-1) from by decide)⟩, hE63⟩
set_option maxHeartbeats 2000000 in
theorem W_slices_ContainsFunc_int {W : World} {va0 : Value} {fa0 : List Nat} {a0 : (List Int)} (ha0 : Ro Rp.int W fa0 va0 a0) {ga1 : FuncId} {ga1c : List Value} {a1 : Int → Option Bool} (hga1 : ∀ w', Ext W w' → ∀ {z0 : Int} (hz0 : InI z0) {r : Bool}, a1 z0 = some r → Calls Try.prog ga1 (([.int .i64 z0] : List Value) ++ ga1c).toArray w' (Ret fun u w'' => u = .bool r ∧ Ext w' w'')) (hca1 : ∀ args w, (callFunc ga1 args).run Try.prog w = .ok (.enter ga1 args) w) {r : Bool} (hF : F_slices_ContainsFunc_int a0 a1 = some r) :
    Calls Try.prog 68 [va0, .func (.func ga1) #[] ga1c.toArray].toArray W (Ret fun u w' => u = .bool r ∧ Ext W w') := by
  refine f_enter Try.func68 rfl Try.ntmps68 rfl ?_
  intro a ha
  replace ha : Fr 9 [(0, va0), (1, (.func (.func ga1) #[] ga1c.toArray))] a := ha; have hE : Chg [] W W := Chg.refl _ _
  unfold F_slices_ContainsFunc_int at hF
  refine wp_seq (wp_region_lit ?_); refine op_g ha rfl (g_assign rfl) ?_; intro a ha; refine wpList_nil (e_then (wp_seq (wp_region_lit ?_))); refine op_g ha rfl (g_move rfl) fun a ha => op_g ha rfl (g_move rfl) ?_; intro a ha; obtain ⟨x2, hc3, hF⟩ := cal_some hF; refine o_call ha rfl rfl Try.call96 (W_slices_IndexFunc_int (ha0.ext hE) (fun w hx => hga1 w (Ext.trans hE hx)) hca1 hc3) ?_; clear ha a; rintro v4 w5 ⟨⟨rfl, hI7⟩, hx6⟩ a ha; have hE8 := Ext.trans hE hx6; refine op_g ha rfl (g_geq rfl rfl) fun a ha => op_g ha rfl (g_assign rfl) ?_; intro a ha; refine wpList_nil (e_then (wp_ret ?_)); obtain rfl := Option.some.inj hF
  exact f_ret1 ha rfl rfl ⟨rfl, hE8⟩
set_option maxHeartbeats 2000000 in
theorem W_impl_NiceOk_1 {W : World} {a0 : Int} (ha0 : InI a0) {r : Bool} (hF : F_impl_NiceOk_1 a0 = some r) :
    Calls Try.prog 69 [.int .i64 a0].toArray W (Ret fun u w' => u = .bool r ∧ Ext W w') := by
  refine f_enter Try.func69 rfl Try.ntmps69 rfl ?_
  intro a ha
  replace ha : Fr 5 [(0, (.int .i64 a0))] a := ha; have hE : Chg [] W W := Chg.refl _ _
  unfold F_impl_NiceOk_1 at hF
  refine wp_seq (wp_region_lit ?_); refine op_g ha rfl (g_assign rfl) ?_; intro a ha; refine wpList_nil (e_then (wp_seq (wp_region_lit ?_))); refine op_g ha rfl (g_move rfl) fun a ha => op_g ha rfl (g_neq rfl rfl) fun a ha => op_g ha rfl (g_assign rfl) ?_; intro a ha; refine wpList_nil (e_then (wp_ret ?_)); obtain rfl := Option.some.inj hF
  exact f_ret1 ha rfl rfl ⟨rfl, hE⟩
set_option maxHeartbeats 2000000 in
theorem W_impl_netsOf {W : World} {va0_0 : Value} {fa0_0 : List Nat} {a0_0 : (List (List Int))} (ha0_0 : Ro (Rp.sl 2 Rp.int) W fa0_0 va0_0 a0_0) {r : (List (BitVec 32))} (hF : F_impl_netsOf a0_0 = some r) :
    Calls Try.prog 30 [.agg #[va0_0]].toArray W (Ret fun u w' => ∃ (b_u : Int), Ow Rp.u32 61 true w' [] b_u u r ∧ Zn W b_u ∧ Ext W w') := by
  refine f_enter Try.func30 rfl Try.ntmps30 rfl ?_
  intro a ha
  replace ha : Fr 21 [(0, (.agg #[va0_0]))] a := ha; have hE : Chg [] W W := Chg.refl _ _
  unfold F_impl_netsOf at hF
  refine wp_seq (wp_region_lit ?_); refine o_box ha rfl rfl rfl ?_; clear ha a; intro b1 w2 hB3 hx4 hlo5 a ha; have hE8 := Ext.trans hE hx4; refine op_g ha rfl (g_assign rfl) ?_; intro a ha; refine wpList_nil (e_then (wp_seq (wp_region_lit ?_))); refine o_lit0 Rp.u32 ha rfl sl55 ?_; clear ha a; intro v9 w10 h11 hx12 a ha; obtain ⟨b14, hb14⟩ : ∃ b : Int, b = w2.heap.size := ⟨_, rfl⟩; rw [← hb14] at h11; have q15 := zn_of hb14; have q18 := Zn.upD q15 hE8; replace hB3 := hB3.ext hx12; have hE19 := Ext.trans hE8 hx12; refine op_g ha rfl (g_assign rfl) ?_; intro a ha; refine wpList_nil (e_then (wp_seq (wp_seq (wp_region_lit ?_)))); refine op_g ha rfl (g_field0 st31_0 rfl) fun a ha => op_g ha rfl (g_load Try.isAgg22 rfl (hB3.cell rfl)) fun a ha => op_g ha rfl (g_lenR sl22.und ha0_0 rfl) fun a ha => op_g ha rfl (g_move rfl) ?_; intro a ha; refine wpList_nil (e_then ?_); obtain ⟨o152, ho153, hK154⟩ := bnd_some hF; obtain ⟨n155, hn156⟩ := lp_some ho153; clear ho153; refine c_loop (fun a w => ∃ (l149 : (List (BitVec 32))) (v150 : Value) (b151 : Int), Fr 21 [(3, v150)] a ∧ Chg [] W w ∧ Ow Rp.u32 61 true w [] b151 v150 l149 ∧ Zn W b151 ∧ o152 = .inl l149) (fun n a w => ∃ (l84 : (List (BitVec 32))) (i87 : Int) (v85 : Value) (b86 : Int), Fr 21 [(3, v85), (8, va0_0), (9, (.int .i64 (a0_0.length : Int))), (10, (.int .i64 i87))] a ∧ Chg [] W w ∧ InI i87 ∧ Ow Rp.u32 61 true w [] b86 v85 l84 ∧ Zn W b86 ∧ lpN (fun s => F_impl_netsOf_l1 a0_0 s.1 s.2) n (l84, i87) = some o152) n155 ⟨([] : (List (BitVec 32))), 0, v9, b14, ha.sub ⟨rfl, rfl, rfl, rfl, trivial⟩, hE19, (show InI 0 from by decide), h11, q18, hn156⟩ ?_ ?_
  · rintro m160 a w80 ⟨l84, i87, v85, b86, ha, hE89, hI88, h82, z83, hF⟩
    cases m160 with
    | zero => exact (lpN_zero hF).elim
    | succ m160 =>
      obtain ⟨z159, hF, hN158⟩ := lpN_succ hF; have hF : F_impl_netsOf_l1 a0_0 l84 i87 = some z159 := hF; unfold F_impl_netsOf_l1 at hF; refine wp_seq (wp_region_lit ?_); refine op_g ha rfl (g_lss rfl rfl) ?_; intro a ha; refine wpList_nil ?_; replace ha := ha.sub (σ' := [(3, v85), (8, va0_0), (9, (.int .i64 (a0_0.length : Int))), (10, (.int .i64 i87)), (11, (.bool (decide (i87 < (a0_0.length : Int)))))]) ⟨rfl, rfl, rfl, rfl, rfl, trivial⟩; refine e_then (wp_seq ?_); refine c_cond (i87 < (a0_0.length : Int)) ha rfl (decide_eq_true_iff) (fun hp161 => ?_) (fun hp161 => ?_)
      · replace hF := if_t hp161 hF
        refine wp_skip (e_then (wp_seq (wp_block (wp_seq (wp_region_lit ?_))))); obtain ⟨x162, g163, gx164, hF⟩ := idx_some hF; obtain ⟨p165, cs166, f167, hf168, hpb169, hat170, hr171, hi172⟩ := ha0_0.at g163 gx164; obtain ⟨v173, rfl, h174⟩ := hr171; have h174 : Ro Rp.int W f167 v173 x162 := h174; refine op_g ha rfl (hi172.gives sl22 rfl rfl) fun a ha => op_g ha rfl (g_load0 hE89 Try.isAgg25 rfl hat170.one) fun a ha => op_g ha rfl (g_assign rfl) ?_; intro a ha; refine wpList_nil (e_then (wp_region_lit ?_)); refine op_g ha rfl (g_move rfl) fun a ha => op_g ha rfl (g_move rfl) ?_; intro a ha; obtain ⟨x176, hc177, hF⟩ := cal_some hF; refine o_call ha rfl rfl Try.call74 (W_impl_maskOf (h174.ext hE89) hc177) ?_; clear ha a; rintro v178 w179 ⟨rfl, hx180⟩ a ha; replace h82 := h82.ext hx180; have hE181 := Ext.trans hE89 hx180; refine o_lit1 (o := true) (y := x176) Rp.u32 ha rfl sl55 rfl rfl rfl ⟨rfl, rfl⟩ ?_; clear ha a; intro v182 w183 h184 hx185 a ha; obtain ⟨b187, hb187⟩ : ∃ b : Int, b = w179.heap.size := ⟨_, rfl⟩; rw [← hb187] at h184; replace h82 := h82.ext hx185; have hE192 := Ext.trans hE181 hx185; obtain ⟨hl193, hF⟩ := app_some hF; refine o_append ha rfl sl55 rfl rfl rfl h82 h184.src (Nq.nil _) hl193 ?_; clear ha a; intro v194 w195 b196 h197 hc198 hb199 a ha; replace h197 : Ow Rp.u32 61 true w195 [] b196 v194 _ := h197; have q203 := Zn.appD z83 hb199 hE192
        have hE204 := Ext.then hE192 hc198 (Zn.bl z83); refine op_g ha rfl (g_assign rfl) ?_; intro a ha; refine wpList_nil (e_blk (e_then (wp_region_lit ?_))); obtain ⟨hI205, hF⟩ := ck_some hF; refine op_g ha rfl (g_add rfl rfl hI205) fun a ha => op_g ha rfl (g_move rfl) ?_; intro a ha; refine wpList_nil (e_lq ?_); obtain rfl := Option.some.inj hF
        exact ⟨_, Nat.lt_succ_self _, (l84 ++ ([x176])), i87 + 1, v194, b196, ha.sub ⟨rfl, rfl, rfl, rfl, trivial⟩, hE204, hI205, h197, q203, hN158⟩
      replace hF := if_f hp161 hF; refine wp_exit (e_then_exit (e_lq_eq ?_)); obtain rfl := Option.some.inj hF
      exact ⟨l84, v85, b86, ha.sub ⟨rfl, trivial⟩, hE89, h82, z83, (LK_inr hN158).symm⟩
  rintro a w145 ⟨l149, v150, b151, ha, hE157, h147, z148, rfl⟩
  have hF : F_impl_netsOf_k2 l149 = some _ := hK154; clear hK154; unfold F_impl_netsOf_k2 at hF; refine e_then (wp_seq (wp_region_lit ?_)); refine op_g ha rfl (g_move rfl) fun a ha => op_g ha rfl (g_assign rfl) ?_; intro a ha; refine wpList_nil ?_; replace ha := ha.sub (σ' := [(2, v150)]) ⟨rfl, trivial⟩; refine e_then (wp_ret ?_); obtain rfl := Option.some.inj hF
  exact f_ret1 ha rfl rfl ⟨_, h147, z148, hE157⟩
set_option maxHeartbeats 2000000 in
theorem W_impl_coversEdges {W : World} {va0 : Value} {fa0 : List Nat} {a0 : (List (BitVec 32))} (ha0 : Ro Rp.u32 W fa0 va0 a0) {va1 : Value} {fa1 : List Nat} {a1 : (List (BitVec 32))} (ha1 : Ro Rp.u32 W fa1 va1 a1) {r : Bool} (hF : F_impl_coversEdges a0 a1 = some r) :
    Calls Try.prog 70 [va0, va1].toArray W (Ret fun u w' => u = .bool r ∧ Ext W w') := by
  refine f_enter Try.func70 rfl Try.ntmps70 rfl ?_
  intro a ha
  replace ha : Fr 41 [(0, va0), (1, va1)] a := ha; have hE : Chg [] W W := Chg.refl _ _
  unfold F_impl_coversEdges at hF
  refine wp_seq (wp_region_lit ?_); refine op_g ha rfl (g_assign rfl) ?_; intro a ha; refine wpList_nil (e_then (wp_seq (wp_seq (wp_region_lit ?_)))); refine op_g ha rfl (g_move rfl) fun a ha => op_g ha rfl (g_lenR sl55.und ha0 rfl) fun a ha => op_g ha rfl (g_move rfl) ?_; intro a ha; refine wpList_nil (e_then ?_); obtain ⟨o248, ho249, hK250⟩ := bnd_some hF; obtain ⟨n251, hn252⟩ := lp_some ho249; clear ho249; refine c_loop (fun a w => Fr 41 [] a ∧ Chg [] W w ∧ o248 = .inl ()) (fun n a w => ∃ (i124 : Int), Fr 41 [(1, va1), (10, va0), (11, (.int .i64 (a0.length : Int))), (12, (.int .i64 i124))] a ∧ Chg [] W w ∧ InI i124 ∧ lpN (fun s => F_impl_coversEdges_l1 a0 a1 s) n i124 = some o248) n251 ⟨0, ha.sub ⟨rfl, rfl, rfl, rfl, trivial⟩, hE, (show InI 0 from by decide), hn252⟩ ?_ ?_
  · rintro m256 a w123 ⟨i124, ha, hE126, hI125, hF⟩
    cases m256 with
    | zero => exact (lpN_zero hF).elim
    | succ m256 =>
      obtain ⟨z255, hF, hN254⟩ := lpN_succ hF; have hF : F_impl_coversEdges_l1 a0 a1 i124 = some z255 := hF; unfold F_impl_coversEdges_l1 at hF; refine wp_seq (wp_region_lit ?_); refine op_g ha rfl (g_lss rfl rfl) ?_; intro a ha; refine wpList_nil (e_then (wp_seq ?_)); refine c_cond (i124 < (a0.length : Int)) ha rfl (decide_eq_true_iff) (fun hp257 => ?_) (fun hp257 => ?_)
      · replace hF := if_t hp257 hF
        refine wp_skip (e_then (wp_seq (wp_block (wp_seq (wp_region_lit ?_))))); refine op_g ha rfl (g_move rfl) ?_; intro a ha; obtain ⟨x258, g259, gx260, hF⟩ := idx_some hF; obtain ⟨p261, cs262, f263, hf264, hpb265, hat266, hr267, hi268⟩ := ha0.at g259 gx260; obtain ⟨rfl, rfl⟩ := hr267; refine op_g ha rfl (hi268.gives sl55 rfl rfl) fun a ha => op_g ha rfl (g_load0 hE126 Try.isAgg61 rfl hat266.one) fun a ha => op_g ha rfl (g_assign rfl) fun a ha => op_g ha rfl (g_assign rfl) ?_; intro a ha; refine wpList_nil (e_then (wp_seq (wp_region_lit ?_))); refine op_g ha rfl (g_assign rfl) ?_; intro a ha; refine wpList_nil (e_then (wp_seq (wp_seq (wp_region_lit ?_)))); refine op_g ha rfl (g_move rfl) fun a ha => op_g ha rfl (g_lenR sl54.und ha1 rfl) fun a ha => op_g ha rfl (g_move rfl) ?_; intro a ha; refine wpList_nil ?_; replace ha := ha.sub (σ' := [(1, va1), (5, (.int .i64 i124)), (6, (.int .u32 (BitVec.toNat x258 : Int))), (7, (.int .u32 (BitVec.toNat (0#32) : Int))), (10, va0), (11, (.int .i64 (a0.length : Int))), (12, (.int .i64 i124)), (17, va1), (18, (.int .i64 (a1.length : Int))), (19, (.int .i64 0))]) ⟨rfl, rfl, rfl, rfl, rfl, rfl, rfl, rfl, rfl, rfl, trivial⟩; refine e_then ?_; obtain ⟨o332, ho333, hK334⟩ := bnd_some hF
        obtain ⟨n335, hn336⟩ := lp_some ho333; clear ho333; refine c_loop (fun a w => ∃ (u331 : BitVec 32), Fr 41 [(1, va1), (5, (.int .i64 i124)), (6, (.int .u32 (BitVec.toNat x258 : Int))), (7, (.int .u32 (BitVec.toNat u331 : Int))), (10, va0), (11, (.int .i64 (a0.length : Int))), (12, (.int .i64 i124))] a ∧ Chg [] W w ∧ o332 = .inl u331) (fun n a w => ∃ (u299 : BitVec 32) (i300 : Int), Fr 41 [(1, va1), (5, (.int .i64 i124)), (6, (.int .u32 (BitVec.toNat x258 : Int))), (7, (.int .u32 (BitVec.toNat u299 : Int))), (10, va0), (11, (.int .i64 (a0.length : Int))), (12, (.int .i64 i124)), (17, va1), (18, (.int .i64 (a1.length : Int))), (19, (.int .i64 i300))] a ∧ Chg [] W w ∧ InI i300 ∧ lpN (fun s => F_impl_coversEdges_l2 a1 i124 s.1 s.2) n (u299, i300) = some o332) n335 ⟨0#32, 0, ha.sub ⟨rfl, rfl, rfl, rfl, rfl, rfl, rfl, rfl, rfl, rfl, trivial⟩, hE126, (show InI 0 from by decide), hn336⟩ ?_ ?_
        · rintro m340 a w298 ⟨u299, i300, ha, hE302, hI301, hF⟩
          cases m340 with
          | zero => exact (lpN_zero hF).elim
          | succ m340 =>
            obtain ⟨z339, hF, hN338⟩ := lpN_succ hF; have hF : F_impl_coversEdges_l2 a1 i124 u299 i300 = some z339 := hF; unfold F_impl_coversEdges_l2 at hF; refine wp_seq (wp_region_lit ?_); refine op_g ha rfl (g_lss rfl rfl) ?_; intro a ha; refine wpList_nil (e_then (wp_seq ?_)); refine c_cond (i300 < (a1.length : Int)) ha rfl (decide_eq_true_iff) (fun hp341 => ?_) (fun hp341 => ?_)
            · replace hF := if_t hp341 hF
              refine wp_skip (e_then (wp_seq (wp_block (wp_seq (wp_region_lit ?_))))); obtain ⟨x342, g343, gx344, hF⟩ := idx_some hF; obtain ⟨p345, cs346, f347, hf348, hpb349, hat350, hr351, hi352⟩ := ha1.at g343 gx344; obtain ⟨rfl, rfl⟩ := hr351; refine op_g ha rfl (hi352.gives sl54 rfl rfl) fun a ha => op_g ha rfl (g_load0 hE302 Try.isAgg61 rfl hat350.one) fun a ha => op_g ha rfl (g_assign rfl) ?_; intro a ha; refine wpList_nil (e_then (wp_seq (wp_region_lit ?_))); refine op_g ha rfl (g_move rfl) fun a ha => op_g ha rfl (g_move rfl) ?_; intro a ha; obtain ⟨x353, hc354, hF⟩ := cal_some hF; refine o_call ha rfl rfl Try.call54 (W_impl_vset_has hI125 hc354) ?_; clear ha a; rintro v355 w356 ⟨rfl, hx357⟩ a ha; have hE358 := Ext.trans hE302 hx357; refine wpList_nil (e_then ?_); refine c_cond (x353 = true) ha rfl (Iff.rfl) (fun hp359 => ?_) (fun hp359 => ?_)
              · replace hF := if_t hp359 hF
                refine wp_region_lit ?_; refine op_g ha rfl (g_move rfl) fun a ha => op_g ha rfl (g_move rfl) fun a ha => op_g ha rfl (g32_or (m := u299) (n := x342) rfl rfl) fun a ha => op_g ha rfl (g_assign rfl) ?_; intro a ha; refine wpList_nil ?_; replace ha := ha.sub (σ' := [(1, va1), (5, (.int .i64 i124)), (6, (.int .u32 (BitVec.toNat x258 : Int))), (7, (.int .u32 (BitVec.toNat (u299 ||| x342) : Int))), (10, va0), (11, (.int .i64 (a0.length : Int))), (12, (.int .i64 i124)), (17, va1), (18, (.int .i64 (a1.length : Int))), (19, (.int .i64 i300))]) ⟨rfl, rfl, rfl, rfl, rfl, rfl, rfl, rfl, rfl, rfl, trivial⟩; refine e_blk (e_then (wp_region_lit ?_)); obtain ⟨hI360, hF⟩ := ck_some hF; refine op_g ha rfl (g_add rfl rfl hI360) fun a ha => op_g ha rfl (g_move rfl) ?_; intro a ha; refine wpList_nil (e_lq ?_); obtain rfl := Option.some.inj hF
                exact ⟨_, Nat.lt_succ_self _, u299 ||| x342, i300 + 1, ha.sub ⟨rfl, rfl, rfl, rfl, rfl, rfl, rfl, rfl, rfl, rfl, trivial⟩, hE358, hI360, hN338⟩
              replace hF := if_f hp359 hF; refine wp_skip (e_blk (e_then (wp_region_lit ?_))); obtain ⟨hI362, hF⟩ := ck_some hF; refine op_g ha rfl (g_add rfl rfl hI362) fun a ha => op_g ha rfl (g_move rfl) ?_; intro a ha; refine wpList_nil (e_lq ?_); obtain rfl := Option.some.inj hF
              exact ⟨_, Nat.lt_succ_self _, u299, i300 + 1, ha.sub ⟨rfl, rfl, rfl, rfl, rfl, rfl, rfl, rfl, rfl, rfl, trivial⟩, hE358, hI362, hN338⟩
            replace hF := if_f hp341 hF; refine wp_exit (e_then_exit (e_lq_eq ?_)); obtain rfl := Option.some.inj hF
            exact ⟨u299, ha.sub ⟨rfl, rfl, rfl, rfl, rfl, rfl, rfl, trivial⟩, hE302, (LK_inr hN338).symm⟩
        rintro a w330 ⟨u331, ha, hE337, rfl⟩
        have hF : F_impl_coversEdges_k3 i124 x258 u331 = some _ := hK334; clear hK334; unfold F_impl_coversEdges_k3 at hF; refine e_then (wp_seq (wp_region_lit ?_)); refine op_g ha rfl (g_move rfl) fun a ha => op_g ha rfl (g_move rfl) ?_; intro a ha; obtain ⟨x364, hc365, hF⟩ := cal_some hF; refine o_call ha rfl rfl Try.call54 (W_impl_vset_has hI125 hc365) ?_; clear ha a; rintro v366 w367 ⟨rfl, hx368⟩ a ha; have hE369 := Ext.trans hE337 hx368; refine op_g ha rfl (g_not rfl) fun a ha => op_g ha rfl (g_move rfl) ?_; intro a ha
        by_cases hp370 : ¬ (x364 = true)
        · replace hF := if_t hp370 hF
          rw [show (!x364) = true from (n_iff (Iff.rfl)).2 hp370] at ha
          refine op_unwant ha rfl (yields ha rfl rfl) rfl ?_; intro a ha; refine op_unwant ha rfl (yields ha rfl rfl) rfl ?_; intro a ha; refine op_unwant ha rfl (yields ha rfl rfl) rfl ?_; intro a ha; refine op_unwant ha rfl (yields ha rfl rfl) rfl ?_; intro a ha; refine op_g ha rfl (g_pick rfl rfl) ?_; intro a ha; refine wpList_nil (e_then ?_); refine c_true ha rfl ?_; refine wp_seq (wp_region_lit ?_); refine op_g ha rfl (g_assign rfl) ?_; intro a ha; refine wpList_nil ?_; replace ha := ha.sub (σ' := [(4, (.bool false))]) ⟨rfl, trivial⟩; refine e_then (wp_ret (e_blk_ret (e_then_ret (e_lq_ret (e_then_ret ?_))))); obtain rfl := Option.some.inj hF; have e371 := LK_inr hN254; subst e371; have e372 := BK_inr hK250; subst e372
          exact f_ret1 ha rfl rfl ⟨rfl, hE369⟩
        replace hF := if_f hp370 hF
        rw [show (!x364) = false from b_false (n_iff (Iff.rfl)) hp370] at ha
        refine op_want (yields ha rfl rfl) <| op_g ha rfl (g_move rfl) fun a ha => op_want (yields ha rfl rfl) <| op_g ha rfl (g_move rfl) fun a ha => op_want (yields ha rfl rfl) <| op_g ha rfl (g32_andNot (m := x258) (n := u331) rfl rfl) fun a ha => op_want (yields ha rfl rfl) <| op_g ha rfl (g32_neq (m := (x258 &&& ~~~u331)) (n := (0#32)) rfl rfl) fun a ha => op_g ha rfl (g_pick rfl rfl) ?_; intro a ha; refine wpList_nil (e_then ?_); refine c_cond ((x258 &&& ~~~u331) ≠ (0#32)) ha rfl (decide_eq_true_iff) (fun hp373 => ?_) (fun hp373 => ?_)
        · replace hF := if_t hp373 hF
          refine wp_seq (wp_region_lit ?_); refine op_g ha rfl (g_assign rfl) ?_; intro a ha; refine wpList_nil (e_then (wp_ret (e_blk_ret (e_then_ret (e_lq_ret (e_then_ret ?_)))))); obtain rfl := Option.some.inj hF; have e374 := LK_inr hN254; subst e374; have e375 := BK_inr hK250; subst e375
          exact f_ret1 ha rfl rfl ⟨rfl, hE369⟩
        replace hF := if_f hp373 hF; refine wp_skip (e_blk (e_then (wp_region_lit ?_))); obtain ⟨hI376, hF⟩ := ck_some hF; refine op_g ha rfl (g_add rfl rfl hI376) fun a ha => op_g ha rfl (g_move rfl) ?_; intro a ha; refine wpList_nil (e_lq ?_); obtain rfl := Option.some.inj hF
        exact ⟨_, Nat.lt_succ_self _, i124 + 1, ha.sub ⟨rfl, rfl, rfl, rfl, trivial⟩, hE369, hI376, hN254⟩
      replace hF := if_f hp257 hF; refine wp_exit (e_then_exit (e_lq_eq ?_)); obtain rfl := Option.some.inj hF
      exact ⟨ha.sub trivial, hE126, (LK_inr hN254).symm⟩
  rintro a w247 ⟨ha, hE253, rfl⟩
  have hF : F_impl_coversEdges_k4 = some _ := hK250; clear hK250; unfold F_impl_coversEdges_k4 at hF; refine e_then (wp_seq (wp_region_lit ?_)); refine op_g ha rfl (g_assign rfl) ?_; intro a ha; refine wpList_nil (e_then (wp_ret ?_)); obtain rfl := Option.some.inj hF
  exact f_ret1 ha rfl rfl ⟨rfl, hE253⟩
end Go.Proofs.Ytnebbhginakaiaa
