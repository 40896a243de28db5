/- Walks, printed by gen.py. -/
import Derived.Test.YtcoiakapddjckaaDoorF
import Derived.Test.YtcoiakapddjckaaDoorW1
import Derived.Test.YtcoiakapddjckaaDoorProg
import Derived.KernelRfl
set_option maxRecDepth 100000
namespace Go.Proofs.YtcoiakapddjckaaDoor
open Go Go.RowKit

set_option maxHeartbeats 2000000 in
theorem W_impl_bestClasses {W : World} {va0 : Value} {fa0 : List Nat} {a0 : (List (BitVec 32))} (ha0 : Ro Rp.u32 W fa0 va0 a0) {r : (List (BitVec 32))} (hF : F_impl_bestClasses a0 = some r) :
    Calls Tryd.prog 25 [va0].toArray W (Ret fun u w' => ∃ (b_u : Int), Ow Rp.u32 52 true w' [] b_u u r ∧ Zn W b_u ∧ Ext W w') := by
  refine f_enter Tryd.func25 rfl Tryd.ntmps25 rfl ?_
  intro a ha
  replace ha : Fr 13 [(0, va0)] a := ha
  have hE : Chg [] W W := Chg.refl _ _
  unfold F_impl_bestClasses at hF
  refine wp_seq ?_; refine wp_region_lit ?_; refine op_g ha rfl (g_assign rfl) ?_; clear ha a; intro a ha; refine wpList_nil ?_; replace ha := ha.sub (σ' := [(0, va0)]) ⟨rfl, trivial⟩; refine e_then ?_; refine wp_seq ?_; refine wp_region_lit ?_; refine op_g ha rfl (g_assign rfl) ?_; clear ha a; intro a ha; refine wpList_nil ?_; refine e_then ?_; obtain ⟨o56, ho57, hK58⟩ := bnd_some hF
  obtain ⟨n59, hn60⟩ := lp_some ho57; clear ho57
  refine c_loop (fun a w => Fr 13 [] a ∧ Chg [] W w ∧ o56 = .inl ()) (fun n a w => ∃ (i28 : Int), Fr 13 [(0, va0), (3, (.int .i64 i28))] a ∧ Chg [] W w ∧ InI i28 ∧ lpN (fun s => F_impl_bestClasses_l1 a0 s) n i28 = some o56) n59 ⟨1, ha.sub ⟨rfl, rfl, trivial⟩, hE, (show InI 1 from by decide), hn60⟩ ?_ ?_
  · rintro m64 a w27 ⟨i28, ha, hE30, hI29, hF⟩
    cases m64 with
    | zero => exact (lpN_zero hF).elim
    | succ m64 =>
      obtain ⟨z63, hF, hN62⟩ := lpN_succ hF
      have hF : F_impl_bestClasses_l1 a0 i28 = some z63 := hF; unfold F_impl_bestClasses_l1 at hF
      refine wp_seq ?_; refine wp_block ?_; refine wp_seq ?_; refine wp_region_lit ?_; refine op_g ha rfl (g_move rfl) ?_; clear ha a; intro a ha; obtain ⟨g69, g69b, hF⟩ := mkS_some hF
      refine o_make (z0 := (0 : BitVec 32)) Rp.u32 ha rfl sl45 rfl (fun w => ⟨rfl, rfl⟩) rfl g69 g69b ?_; clear ha a; intro v65 w66 h67 hx68 a ha
      obtain ⟨b72, hb72⟩ : ∃ b : Int, b = w27.heap.size := ⟨_, rfl⟩; rw [← hb72] at h67
      have q73 := zn_of hb72
      have q74 := Zn.upD q73 hE30
      have hE75 := Ext.trans hE30 hx68
      refine op_g ha rfl (g_assign rfl) ?_; clear ha a; intro a ha; refine wpList_nil ?_; replace ha := ha.sub (σ' := [(0, va0), (3, (.int .i64 i28)), (4, v65)]) ⟨rfl, rfl, rfl, trivial⟩; refine e_then ?_; refine wp_seq ?_; refine wp_region_lit ?_; (iterate 2 refine op_g ha rfl (g_move rfl) ?_; clear ha a; intro a ha); obtain ⟨x76, hc77, hF⟩ := cal_some hF
      refine o_call ha rfl rfl Tryd.call59 (W_impl_colourOn (ha0.ext hE75) (show InI 0 from by decide) h67 (show InI 0 from by decide) (Nq.new ha0.bnd q74) hc77) ?_; clear ha a; rintro v78 w79 ⟨rfl, h81, hx80⟩ a ha
      have hE82 := Ext.then hE75 hx80 (Zn.bl q74)
      refine wpList_nil ?_; replace ha := ha.sub (σ' := [(0, va0), (3, (.int .i64 i28)), (4, v65), (11, (.bool x76.1))]) ⟨rfl, rfl, rfl, rfl, trivial⟩; refine e_then ?_; refine c_cond (x76.1 = true) ha rfl (Iff.rfl) (fun hp83 => ?_) (fun hp83 => ?_)
      · replace hF := if_t hp83 hF
        refine wp_seq ?_; refine wp_region_lit ?_; refine op_g ha rfl (g_move rfl) ?_; clear ha a; intro a ha; refine op_g ha rfl (g_assign rfl) ?_; clear ha a; intro a ha; refine wpList_nil ?_; replace ha := ha.sub (σ' := [(2, v65)]) ⟨rfl, trivial⟩; refine e_then ?_; refine wp_ret ?_; refine e_blk_ret ?_; refine e_then_ret ?_; refine e_lq_ret ?_; obtain rfl := Option.some.inj hF
        have e84 := LK_inr hN62; subst e84
        have e85 := BK_inr hK58; subst e85
        exact f_ret1 ha rfl rfl ⟨_, h81, q74, hE82⟩
      replace hF := if_f hp83 hF; refine wp_skip ?_; refine e_blk ?_; refine e_then ?_; refine wp_region_lit ?_; refine op_g ha rfl (g_move rfl) ?_; clear ha a; intro a ha; obtain ⟨hI86, hF⟩ := ck_some hF; refine op_g ha rfl (g_add rfl rfl hI86) ?_; clear ha a; intro a ha; refine op_g ha rfl (g_assign rfl) ?_; clear ha a; intro a ha; refine wpList_nil ?_; replace ha := ha.sub (σ' := [(0, va0), (3, (.int .i64 (i28 + 1)))]) ⟨rfl, rfl, trivial⟩; refine e_lq ?_; obtain rfl := Option.some.inj hF
      exact ⟨_, Nat.lt_succ_self _, i28 + 1, ha.sub ⟨rfl, rfl, trivial⟩, hE82, hI86, hN62⟩
  rintro a w55 ⟨ha, hE61, rfl⟩
  cases hK58
set_option maxHeartbeats 2000000 in
theorem W_impl_CriticalIn {W : World} {va0_0 : Value} {fa0_0 : List Nat} {a0_0 : (List (List Int))} (ha0_0 : Ro (Rp.sl 2 Rp.int) W fa0_0 va0_0 a0_0) (hG : GT 0 W) {r : Bool} (hF : F_impl_CriticalIn a0_0 = some r) :
    Calls Tryd.prog 8 [.agg #[va0_0]].toArray W (Ret fun u w' => u = .bool r ∧ Ext W w') := by
  refine f_enter Tryd.func8 rfl Tryd.ntmps8 rfl ?_
  intro a ha
  replace ha : Fr 35 [(0, (.agg #[va0_0]))] a := ha
  have hE : Chg [] W W := Chg.refl _ _
  unfold F_impl_CriticalIn at hF
  refine wp_seq ?_; refine wp_region_lit ?_
  refine o_box ha rfl rfl rfl ?_; clear ha a; intro b1 w2 hB3 hx4 hlo5 a ha
  have q6 := Zn.one hlo5
  have q7 := Zn.upD q6 hE
  have hE8 := Ext.trans hE hx4
  refine op_g ha rfl (g_assign rfl) ?_; clear ha a; intro a ha; refine wpList_nil ?_; replace ha := ha.sub (σ' := [(1, (.pointer (some ⟨b1, 0, none⟩)))]) ⟨rfl, trivial⟩; refine e_then ?_; refine wp_seq ?_; refine wp_seq ?_; refine wp_region_lit ?_; refine op_g ha rfl (g_loadA (cs := [va0_0]) Tryd.isAgg29 Tryd.sizeOf29 rfl (by simp) hB3.all) ?_; clear ha a; intro a ha; obtain ⟨x9, hc10, hF⟩ := cal_some hF
  refine o_call ha rfl rfl Tryd.call23 (W_impl_GraphOk (ha0_0.ext hE8) hc10) ?_; clear ha a; rintro v11 w12 ⟨rfl, hx13⟩ a ha
  replace hB3 := hB3.ext hx13
  have hE14 := Ext.trans hE8 hx13
  refine op_g ha rfl (g_not rfl) ?_; clear ha a; intro a ha; refine wpList_nil ?_; replace ha := ha.sub (σ' := [(1, (.pointer (some ⟨b1, 0, none⟩))), (7, (.bool (!x9)))]) ⟨rfl, rfl, trivial⟩; refine e_then ?_; refine c_cond (¬ (x9 = true)) ha rfl (n_iff (Iff.rfl)) (fun hp15 => ?_) (fun hp15 => ?_)
  · replace hF := if_t hp15 hF
    refine wp_seq ?_; refine wp_region_lit ?_; refine op_g ha rfl (g_assign rfl) ?_; clear ha a; intro a ha; refine wpList_nil ?_; replace ha := ha.sub (σ' := [(2, (.bool false))]) ⟨rfl, trivial⟩; refine e_then ?_; refine wp_ret ?_; refine e_then_ret ?_; obtain rfl := Option.some.inj hF
    exact f_ret1 ha rfl rfl ⟨rfl, hE14⟩
  replace hF := if_f hp15 hF; refine wp_skip ?_; refine e_then ?_; refine wp_seq ?_; refine wp_region_lit ?_; refine op_g ha rfl (g_loadA (cs := [va0_0]) Tryd.isAgg29 Tryd.sizeOf29 rfl (by simp) hB3.all) ?_; clear ha a; intro a ha; obtain ⟨x16, hc17, hF⟩ := cal_some hF
  refine o_call ha rfl rfl Tryd.call24 (W_impl_netsOf (ha0_0.ext hE14) hc17) ?_; clear ha a; rintro v18 w19 ⟨b21, h22, z23, hx20⟩ a ha
  have q25 := Nq.new hB3.fpb z23
  have q26 := Nq.madeO z23 hB3.bi
  replace hB3 := hB3.ext hx20
  have hE27 := Ext.trans hE14 hx20
  have q28 := Zn.upD z23 hE14
  refine op_g ha rfl (g_assign rfl) ?_; clear ha a; intro a ha; refine wpList_nil ?_; replace ha := ha.sub (σ' := [(3, v18)]) ⟨rfl, trivial⟩; refine e_then ?_; refine wp_seq ?_; refine wp_seq ?_; refine wp_region_lit ?_; refine op_g ha rfl (g_move rfl) ?_; clear ha a; intro a ha; refine op_g ha rfl (g_lenO sl46.und h22 rfl) ?_; clear ha a; intro a ha; refine op_g ha rfl (g_move rfl) ?_; clear ha a; intro a ha; refine wpList_nil ?_; replace ha := ha.sub (σ' := [(3, v18), (11, (.int .i64 (x16.length : Int))), (12, (.int .i64 0))]) ⟨rfl, rfl, rfl, trivial⟩; refine e_then ?_; obtain ⟨o250, ho251, hK252⟩ := bnd_some hF
  obtain ⟨n253, hn254⟩ := lp_some ho251; clear ho251
  refine c_loop (fun a w => Fr 35 [] a ∧ Chg [] W w ∧ o250 = .inl ()) (fun n a w => ∃ (i142 : Int), Fr 35 [(3, v18), (11, (.int .i64 (x16.length : Int))), (12, (.int .i64 i142))] a ∧ Chg [] W w ∧ InI i142 ∧ Ow Rp.u32 52 true w [] b21 v18 x16 ∧ Zn W b21 ∧ lpN (fun s => F_impl_CriticalIn_l1 x16 s) n i142 = some o250) n253 ⟨0, ha.sub ⟨rfl, rfl, rfl, trivial⟩, hE27, (show InI 0 from by decide), h22, q28, hn254⟩ ?_ ?_
  · rintro m258 a w138 ⟨i142, ha, hE144, hI143, h140, z141, hF⟩
    cases m258 with
    | zero => exact (lpN_zero hF).elim
    | succ m258 =>
      obtain ⟨z257, hF, hN256⟩ := lpN_succ hF
      have hF : F_impl_CriticalIn_l1 x16 i142 = some z257 := hF; unfold F_impl_CriticalIn_l1 at hF
      refine wp_seq ?_; refine wp_region_lit ?_; refine op_g ha rfl (g_lss rfl rfl) ?_; clear ha a; intro a ha; refine wpList_nil ?_; replace ha := ha.sub (σ' := [(3, v18), (11, (.int .i64 (x16.length : Int))), (12, (.int .i64 i142)), (13, (.bool (decide (i142 < (x16.length : Int)))))]) ⟨rfl, rfl, rfl, rfl, trivial⟩; refine e_then ?_; refine wp_seq ?_; refine c_cond (i142 < (x16.length : Int)) ha rfl (decide_eq_true_iff) (fun hp259 => ?_) (fun hp259 => ?_)
      · replace hF := if_t hp259 hF
        refine wp_skip ?_; refine e_then ?_; refine wp_seq ?_; refine wp_block ?_; refine wp_seq ?_; refine wp_region_lit ?_; refine op_g ha rfl (g_move rfl) ?_; clear ha a; intro a ha; refine op_g ha rfl (g_assign rfl) ?_; clear ha a; intro a ha; refine wpList_nil ?_; replace ha := ha.sub (σ' := [(3, v18), (4, (.int .i64 i142)), (11, (.int .i64 (x16.length : Int))), (12, (.int .i64 i142))]) ⟨rfl, rfl, rfl, rfl, trivial⟩; refine e_then ?_; refine wp_seq ?_; refine wp_region_lit ?_; refine op_g ha rfl (g_move rfl) ?_; clear ha a; intro a ha; refine op_g ha rfl (g_lenO sl46.und h140 rfl) ?_; clear ha a; intro a ha
        refine op_g ha rfl (g_gtr rfl rfl) ?_; clear ha a; intro a ha; refine op_g ha rfl (g_move rfl) ?_; clear ha a; intro a ha
        by_cases hp260 : 1 < (x16.length : Int)
        · replace hF := if_t hp260 hF
          rw [show (decide (1 < (x16.length : Int))) = true from (decide_eq_true_iff).2 hp260] at ha
          refine op_want (yields ha rfl rfl) ?_; refine op_g ha rfl (g_move rfl) ?_; clear ha a; intro a ha; refine op_want (yields ha rfl rfl) ?_; refine op_g ha rfl (g_move rfl) ?_; clear ha a; intro a ha; refine op_want (yields ha rfl rfl) ?_
          obtain ⟨fp261, hro262, hs263⟩ := h140.roF
          obtain ⟨x264, hc265, hF⟩ := cal_some hF
          refine o_call ha rfl rfl Tryd.call27 (W_impl_nets_all hro262 hc265) ?_; clear ha a; rintro v266 w267 ⟨rfl, hx268⟩ a ha
          replace h140 := h140.ext hx268
          have hE269 := Ext.trans hE144 hx268
          refine op_want (yields ha rfl rfl) ?_; refine op_g ha rfl (g_move rfl) ?_; clear ha a; intro a ha; refine op_want (yields ha rfl rfl) ?_; obtain ⟨x270, hc271, hF⟩ := cal_some hF
          refine o_call ha rfl rfl Tryd.call28 (W_impl_one hI143 hc271) ?_; clear ha a; rintro v272 w273 ⟨rfl, hx274⟩ a ha
          replace h140 := h140.ext hx274
          have hE275 := Ext.trans hE269 hx274
          refine op_want (yields ha rfl rfl) ?_; refine op_g ha rfl (g32_andNot (m := x264) (n := x270) rfl rfl) ?_; clear ha a; intro a ha; refine op_want (yields ha rfl rfl) ?_; obtain ⟨x276, hc277, hF⟩ := cal_some hF
          refine o_call ha rfl rfl Tryd.call29 (W_impl_vset_list (hG.ext hE275) hc277) ?_; clear ha a; rintro v278 w279 ⟨b281, h282, z283, hx280⟩ a ha
          have q285 := Nq.new h140.fpb z283
          have q286 := Nq.madeO z283 h140.blt
          replace h140 := h140.ext hx280
          have hE287 := Ext.trans hE275 hx280
          have q288 := Zn.upD z283 hE275
          refine op_want (yields ha rfl rfl) ?_
          obtain ⟨fp289, hro290, hs291⟩ := h140.roF
          obtain ⟨fp292, hro293, hs294⟩ := h282.roF
          obtain ⟨x295, hc296, hF⟩ := cal_some hF
          refine o_call ha rfl rfl Tryd.call26 (W_impl_induced hro290 hro293 hc296) ?_; clear ha a; rintro v297 w298 ⟨b300, h301, z302, hx299⟩ a ha
          have q304 := Nq.new h140.fpb z302
          have q305 := Nq.madeO z302 h140.blt
          have q306 := Nq.new h282.fpb z302
          have q307 := Nq.madeO z302 h282.blt
          replace h140 := h140.ext hx299
          replace h282 := h282.ext hx299
          have hE308 := Ext.trans hE287 hx299
          have q309 := Zn.upD z302 hE287
          refine op_want (yields ha rfl rfl) ?_
          obtain ⟨fp310, hro311, hs312⟩ := h301.roF
          obtain ⟨x313, hc314, hF⟩ := cal_some hF
          refine o_call ha rfl rfl Tryd.call25 (W_impl_bestClasses hro311 hc314) ?_; clear ha a; rintro v315 w316 ⟨b318, h319, z320, hx317⟩ a ha
          have q322 := Nq.new h140.fpb z320
          have q323 := Nq.madeO z320 h140.blt
          have q324 := Nq.new h282.fpb z320
          have q325 := Nq.madeO z320 h282.blt
          have q326 := Nq.new h301.fpb z320
          have q327 := Nq.madeO z320 h301.blt
          replace h140 := h140.ext hx317
          replace h282 := h282.ext hx317
          replace h301 := h301.ext hx317
          have hE328 := Ext.trans hE308 hx317
          have q329 := Zn.upD z320 hE308
          refine op_want (yields ha rfl rfl) ?_; refine op_g ha rfl (g_lenO sl45.und h319 rfl) ?_; clear ha a; intro a ha; refine op_want (yields ha rfl rfl) ?_; refine op_g ha rfl (g_move rfl) ?_; clear ha a; intro a ha; refine op_want (yields ha rfl rfl) ?_
          obtain ⟨fp330, hro331, hs332⟩ := h140.roF
          obtain ⟨x333, hc334, hF⟩ := cal_some hF
          refine o_call ha rfl rfl Tryd.call25 (W_impl_bestClasses hro331 hc334) ?_; clear ha a; rintro v335 w336 ⟨b338, h339, z340, hx337⟩ a ha
          have q342 := Nq.new h140.fpb z340
          have q343 := Nq.madeO z340 h140.blt
          have q344 := Nq.new h282.fpb z340
          have q345 := Nq.madeO z340 h282.blt
          have q346 := Nq.new h301.fpb z340
          have q347 := Nq.madeO z340 h301.blt
          have q348 := Nq.new h319.fpb z340
          have q349 := Nq.madeO z340 h319.blt
          replace h140 := h140.ext hx337
          replace h282 := h282.ext hx337
          replace h301 := h301.ext hx337
          replace h319 := h319.ext hx337
          have hE350 := Ext.trans hE328 hx337
          have q351 := Zn.upD z340 hE328
          refine op_want (yields ha rfl rfl) ?_; refine op_g ha rfl (g_lenO sl45.und h339 rfl) ?_; clear ha a; intro a ha; refine op_want (yields ha rfl rfl) ?_; refine op_g ha rfl (g_eql rfl rfl) ?_; clear ha a; intro a ha; refine op_g ha rfl (g_pick rfl rfl) ?_; clear ha a; intro a ha; refine wpList_nil ?_; replace ha := ha.sub (σ' := [(3, v18), (11, (.int .i64 (x16.length : Int))), (12, (.int .i64 i142)), (19, v18), (20, v18), (21, (.int .u32 (BitVec.toNat x264 : Int))), (22, (.int .i64 i142)), (23, (.int .u32 (BitVec.toNat x270 : Int))), (24, (.int .u32 (BitVec.toNat (x264 &&& ~~~x270) : Int))), (25, v278), (26, v297), (27, v315), (28, (.int .i64 (x313.length : Int))), (29, v18), (30, v335), (31, (.int .i64 (x333.length : Int))), (32, (.bool (decide ((x313.length : Int) = (x333.length : Int))))), (33, (.bool (decide ((x313.length : Int) = (x333.length : Int)))))]) ⟨rfl, rfl, rfl, rfl, rfl, rfl, rfl, rfl, rfl, rfl, rfl, rfl, rfl, rfl, rfl, rfl, rfl, rfl, trivial⟩
          refine e_then ?_; refine c_cond ((x313.length : Int) = (x333.length : Int)) ha rfl (decide_eq_true_iff) (fun hp352 => ?_) (fun hp352 => ?_)
          · replace hF := if_t hp352 hF
            refine wp_seq ?_; refine wp_region_lit ?_; refine op_g ha rfl (g_assign rfl) ?_; clear ha a; intro a ha; refine wpList_nil ?_; replace ha := ha.sub (σ' := [(2, (.bool false))]) ⟨rfl, trivial⟩; refine e_then ?_; refine wp_ret ?_; refine e_blk_ret ?_; refine e_then_ret ?_; refine e_lq_ret ?_; refine e_then_ret ?_; obtain rfl := Option.some.inj hF
            have e353 := LK_inr hN256; subst e353
            have e354 := BK_inr hK252; subst e354
            exact f_ret1 ha rfl rfl ⟨rfl, hE350⟩
          replace hF := if_f hp352 hF; refine wp_skip ?_; refine e_blk ?_; refine e_then ?_; refine wp_region_lit ?_; obtain ⟨hI355, hF⟩ := ck_some hF; refine op_g ha rfl (g_add rfl rfl hI355) ?_; clear ha a; intro a ha; refine op_g ha rfl (g_move rfl) ?_; clear ha a; intro a ha; refine wpList_nil ?_; replace ha := ha.sub (σ' := [(3, v18), (11, (.int .i64 (x16.length : Int))), (12, (.int .i64 (i142 + 1))), (19, v18), (20, v18), (21, (.int .u32 (BitVec.toNat x264 : Int))), (22, (.int .i64 i142)), (23, (.int .u32 (BitVec.toNat x270 : Int))), (24, (.int .u32 (BitVec.toNat (x264 &&& ~~~x270) : Int))), (25, v278), (26, v297), (27, v315), (28, (.int .i64 (x313.length : Int))), (29, v18), (30, v335), (31, (.int .i64 (x333.length : Int))), (32, (.bool (decide ((x313.length : Int) = (x333.length : Int)))))]) ⟨rfl, rfl, rfl, rfl, rfl, rfl, rfl, rfl, rfl, rfl, rfl, rfl, rfl, rfl, rfl, rfl, rfl, trivial⟩
          refine e_lq ?_; obtain rfl := Option.some.inj hF
          exact ⟨_, Nat.lt_succ_self _, i142 + 1, ha.sub ⟨rfl, rfl, rfl, trivial⟩, hE350, hI355, h140, z141, hN256⟩
        replace hF := if_f hp260 hF
        rw [show (decide (1 < (x16.length : Int))) = false from b_false (decide_eq_true_iff) hp260] at ha
        (iterate 14 refine op_unwant ha rfl (yields ha rfl rfl) rfl ?_; clear ha a; intro a ha); refine op_g ha rfl (g_pick rfl rfl) ?_; clear ha a; intro a ha; refine wpList_nil ?_; replace ha := ha.sub (σ' := [(3, v18), (11, (.int .i64 (x16.length : Int))), (12, (.int .i64 i142)), (33, (.bool false))]) ⟨rfl, rfl, rfl, rfl, trivial⟩; refine e_then ?_; refine c_false ha rfl ?_; refine wp_skip ?_; refine e_blk ?_; refine e_then ?_; refine wp_region_lit ?_; obtain ⟨hI357, hF⟩ := ck_some hF; refine op_g ha rfl (g_add rfl rfl hI357) ?_; clear ha a; intro a ha; refine op_g ha rfl (g_move rfl) ?_; clear ha a; intro a ha
        refine wpList_nil ?_; replace ha := ha.sub (σ' := [(3, v18), (11, (.int .i64 (x16.length : Int))), (12, (.int .i64 (i142 + 1)))]) ⟨rfl, rfl, rfl, trivial⟩; refine e_lq ?_; obtain rfl := Option.some.inj hF
        exact ⟨_, Nat.lt_succ_self _, i142 + 1, ha.sub ⟨rfl, rfl, rfl, trivial⟩, hE144, hI357, h140, z141, hN256⟩
      replace hF := if_f hp259 hF; refine wp_exit ?_; refine e_then_exit ?_; refine e_lq_eq ?_; obtain rfl := Option.some.inj hF
      exact ⟨ha.sub trivial, hE144, (LK_inr hN256).symm⟩
  rintro a w249 ⟨ha, hE255, rfl⟩
  have hF : F_impl_CriticalIn_k2 = some _ := hK252; clear hK252; unfold F_impl_CriticalIn_k2 at hF
  refine e_then ?_; refine wp_seq ?_; refine wp_region_lit ?_; refine op_g ha rfl (g_assign rfl) ?_; clear ha a; intro a ha; refine wpList_nil ?_; refine e_then ?_; refine wp_ret ?_; obtain rfl := Option.some.inj hF
  exact f_ret1 ha rfl rfl ⟨rfl, hE255⟩
set_option maxHeartbeats 2000000 in
theorem W_spec_l1Size {W : World} {va0_0 : Value} {fa0_0 : List Nat} {a0_0 : (List (List Int))} (ha0_0 : Ro (Rp.sl 2 Rp.int) W fa0_0 va0_0 a0_0) {r : Int} (hF : F_spec_l1Size a0_0 = some r) :
    Calls Tryd.prog 63 [.agg #[va0_0]].toArray W (Ret fun u w' => (u = .int .i64 r ∧ InI r) ∧ Ext W w') := by
  refine f_enter Tryd.func63 rfl Tryd.ntmps63 rfl ?_
  intro a ha
  replace ha : Fr 6 [(0, (.agg #[va0_0]))] a := ha
  have hE : Chg [] W W := Chg.refl _ _
  unfold F_spec_l1Size at hF
  refine wp_seq ?_; refine wp_region_lit ?_
  refine o_box ha rfl rfl rfl ?_; clear ha a; intro b1 w2 hB3 hx4 hlo5 a ha
  have q6 := Zn.one hlo5
  have q7 := Zn.upD q6 hE
  have hE8 := Ext.trans hE hx4
  refine op_g ha rfl (g_assign rfl) ?_; clear ha a; intro a ha; refine wpList_nil ?_; replace ha := ha.sub (σ' := [(1, (.pointer (some ⟨b1, 0, none⟩)))]) ⟨rfl, trivial⟩; refine e_then ?_; refine wp_seq ?_; refine wp_region_lit ?_; refine op_g ha rfl (g_field0 st29_0 rfl) ?_; clear ha a; intro a ha; refine op_g ha rfl (g_load Tryd.isAgg27 rfl (hB3.cell rfl)) ?_; clear ha a; intro a ha; refine op_g ha rfl (g_lenR sl27.und ha0_0 rfl) ?_; clear ha a; intro a ha; refine op_g ha rfl (g_assign rfl) ?_; clear ha a; intro a ha; refine wpList_nil ?_; replace ha := ha.sub (σ' := [(2, (.int .i64 (a0_0.length : Int)))]) ⟨rfl, trivial⟩
  refine e_then ?_; refine wp_ret ?_; obtain rfl := Option.some.inj hF
  exact f_ret1 ha rfl rfl ⟨⟨rfl, ha0_0.len⟩, hE8⟩
set_option maxHeartbeats 2000000 in
theorem W_spec_l1Has {W : World} {va0 : Value} {fa0 : List Nat} {a0 : (List Int)} (ha0 : Ro Rp.int W fa0 va0 a0) {a1 : Int} (ha1 : InI a1) {r : Bool} (hF : F_spec_l1Has a0 a1 = some r) :
    Calls Tryd.prog 64 [va0, .int .i64 a1].toArray W (Ret fun u w' => u = .bool r ∧ Ext W w') := by
  refine f_enter Tryd.func64 rfl Tryd.ntmps64 rfl ?_
  intro a ha
  replace ha : Fr 18 [(0, va0), (1, (.int .i64 a1))] a := ha
  have hE : Chg [] W W := Chg.refl _ _
  unfold F_spec_l1Has at hF
  refine wp_seq ?_; refine wp_region_lit ?_; refine op_g ha rfl (g_assign rfl) ?_; clear ha a; intro a ha; refine wpList_nil ?_; replace ha := ha.sub (σ' := [(0, va0), (1, (.int .i64 a1))]) ⟨rfl, rfl, trivial⟩; refine e_then ?_; refine wp_seq ?_; refine wp_seq ?_; refine wp_region_lit ?_; refine op_g ha rfl (g_assign rfl) ?_; clear ha a; intro a ha; refine wpList_nil ?_; refine e_then ?_; obtain ⟨o46, ho47, hK48⟩ := bnd_some hF
  obtain ⟨n49, hn50⟩ := lp_some ho47; clear ho47
  refine c_loop (fun a w => Fr 18 [] a ∧ Chg [] W w ∧ o46 = .inl ()) (fun n a w => ∃ (i23 : Int), Fr 18 [(0, va0), (1, (.int .i64 a1)), (5, (.int .i64 i23))] a ∧ Chg [] W w ∧ InI i23 ∧ lpN (fun s => F_spec_l1Has_l1 a0 a1 s) n i23 = some o46) n49 ⟨0, ha.sub ⟨rfl, rfl, rfl, trivial⟩, hE, (show InI 0 from by decide), hn50⟩ ?_ ?_
  · rintro m54 a w22 ⟨i23, ha, hE25, hI24, hF⟩
    cases m54 with
    | zero => exact (lpN_zero hF).elim
    | succ m54 =>
      obtain ⟨z53, hF, hN52⟩ := lpN_succ hF
      have hF : F_spec_l1Has_l1 a0 a1 i23 = some z53 := hF; unfold F_spec_l1Has_l1 at hF
      refine wp_seq ?_; refine wp_seq ?_; refine wp_region_lit ?_; (iterate 2 refine op_g ha rfl (g_move rfl) ?_; clear ha a; intro a ha); refine op_g ha rfl (g_lenR sl32.und ha0 rfl) ?_; clear ha a; intro a ha; refine op_g ha rfl (g_lss rfl rfl) ?_; clear ha a; intro a ha; refine wpList_nil ?_; replace ha := ha.sub (σ' := [(0, va0), (1, (.int .i64 a1)), (5, (.int .i64 i23)), (9, (.bool (decide (i23 < (a0.length : Int)))))]) ⟨rfl, rfl, rfl, rfl, trivial⟩; refine e_then ?_; refine c_cond (i23 < (a0.length : Int)) ha rfl (decide_eq_true_iff) (fun hp55 => ?_) (fun hp55 => ?_)
      · replace hF := if_t hp55 hF
        refine wp_skip ?_; refine e_then ?_; refine wp_seq ?_; refine wp_block ?_; refine wp_seq ?_; refine wp_region_lit ?_; (iterate 2 refine op_g ha rfl (g_move rfl) ?_; clear ha a; intro a ha); obtain ⟨x56, g57, gx58, hF⟩ := idx_some hF
        obtain ⟨p59, cs60, f61, hf62, hpb63, hat64, hr65, hi66⟩ := ha0.at g57 gx58
        obtain ⟨rfl, hI67, rfl⟩ := hr65
        refine op_g ha rfl (hi66.gives sl32 rfl rfl) ?_; clear ha a; intro a ha; refine op_g ha rfl (g_load0 hE25 Tryd.isAgg2 rfl hat64.one) ?_; clear ha a; intro a ha; refine op_g ha rfl (g_move rfl) ?_; clear ha a; intro a ha; refine op_g ha rfl (g_eql rfl rfl) ?_; clear ha a; intro a ha; refine wpList_nil ?_; replace ha := ha.sub (σ' := [(0, va0), (1, (.int .i64 a1)), (5, (.int .i64 i23)), (17, (.bool (decide (x56 = a1))))]) ⟨rfl, rfl, rfl, rfl, trivial⟩; refine e_then ?_; refine c_cond (x56 = a1) ha rfl (decide_eq_true_iff) (fun hp68 => ?_) (fun hp68 => ?_)
        · replace hF := if_t hp68 hF
          refine wp_seq ?_; refine wp_region_lit ?_; refine op_g ha rfl (g_assign rfl) ?_; clear ha a; intro a ha; refine wpList_nil ?_; replace ha := ha.sub (σ' := [(4, (.bool true))]) ⟨rfl, trivial⟩; refine e_then ?_; refine wp_ret ?_; refine e_blk_ret ?_; refine e_then_ret ?_; refine e_lq_ret ?_; refine e_then_ret ?_; obtain rfl := Option.some.inj hF
          have e69 := LK_inr hN52; subst e69
          have e70 := BK_inr hK48; subst e70
          exact f_ret1 ha rfl rfl ⟨rfl, hE25⟩
        replace hF := if_f hp68 hF; refine wp_skip ?_; refine e_blk ?_; refine e_then ?_; refine wp_region_lit ?_; refine op_g ha rfl (g_move rfl) ?_; clear ha a; intro a ha; obtain ⟨hI71, hF⟩ := ck_some hF; refine op_g ha rfl (g_add rfl rfl hI71) ?_; clear ha a; intro a ha; refine op_g ha rfl (g_assign rfl) ?_; clear ha a; intro a ha; refine wpList_nil ?_; replace ha := ha.sub (σ' := [(0, va0), (1, (.int .i64 a1)), (5, (.int .i64 (i23 + 1)))]) ⟨rfl, rfl, rfl, trivial⟩; refine e_lq ?_; obtain rfl := Option.some.inj hF
        exact ⟨_, Nat.lt_succ_self _, i23 + 1, ha.sub ⟨rfl, rfl, rfl, trivial⟩, hE25, hI71, hN52⟩
      replace hF := if_f hp55 hF; refine wp_exit ?_; refine e_then_exit ?_; refine e_lq_eq ?_; obtain rfl := Option.some.inj hF
      exact ⟨ha.sub trivial, hE25, (LK_inr hN52).symm⟩
  rintro a w45 ⟨ha, hE51, rfl⟩
  have hF : F_spec_l1Has_k2 = some _ := hK48; clear hK48; unfold F_spec_l1Has_k2 at hF
  refine e_then ?_; refine wp_seq ?_; refine wp_region_lit ?_; refine op_g ha rfl (g_assign rfl) ?_; clear ha a; intro a ha; refine wpList_nil ?_; refine e_then ?_; refine wp_ret ?_; obtain rfl := Option.some.inj hF
  exact f_ret1 ha rfl rfl ⟨rfl, hE51⟩
set_option maxHeartbeats 2000000 in
theorem W_spec_GraphOk {W : World} {va0_0 : Value} {fa0_0 : List Nat} {a0_0 : (List (List Int))} (ha0_0 : Ro (Rp.sl 2 Rp.int) W fa0_0 va0_0 a0_0) {r : Bool} (hF : F_spec_GraphOk a0_0 = some r) :
    Calls Tryd.prog 30 [.agg #[va0_0]].toArray W (Ret fun u w' => u = .bool r ∧ Ext W w') := by
  refine f_enter Tryd.func30 rfl Tryd.ntmps30 rfl ?_
  intro a ha
  replace ha : Fr 64 [(0, (.agg #[va0_0]))] a := ha
  have hE : Chg [] W W := Chg.refl _ _
  unfold F_spec_GraphOk at hF
  refine wp_seq ?_; refine wp_region_lit ?_
  refine o_box ha rfl rfl rfl ?_; clear ha a; intro b1 w2 hB3 hx4 hlo5 a ha
  have q6 := Zn.one hlo5
  have q7 := Zn.upD q6 hE
  have hE8 := Ext.trans hE hx4
  refine op_g ha rfl (g_assign rfl) ?_; clear ha a; intro a ha; refine wpList_nil ?_; replace ha := ha.sub (σ' := [(1, (.pointer (some ⟨b1, 0, none⟩)))]) ⟨rfl, trivial⟩; refine e_then ?_; refine wp_seq ?_; refine wp_region_lit ?_; refine op_g ha rfl (g_loadA (cs := [va0_0]) Tryd.isAgg29 Tryd.sizeOf29 rfl (by simp) hB3.all) ?_; clear ha a; intro a ha; obtain ⟨x9, hc10, hF⟩ := cal_some hF
  refine o_call ha rfl rfl Tryd.call63 (W_spec_l1Size (ha0_0.ext hE8) hc10) ?_; clear ha a; rintro v11 w12 ⟨⟨rfl, hI14⟩, hx13⟩ a ha
  replace hB3 := hB3.ext hx13
  have hE15 := Ext.trans hE8 hx13
  refine op_g ha rfl (g_assign rfl) ?_; clear ha a; intro a ha; refine wpList_nil ?_; replace ha := ha.sub (σ' := [(1, (.pointer (some ⟨b1, 0, none⟩))), (3, (.int .i64 x9))]) ⟨rfl, rfl, trivial⟩; refine e_then ?_; refine wp_seq ?_; refine wp_seq ?_; refine wp_region_lit ?_; refine op_g ha rfl (g_move rfl) ?_; clear ha a; intro a ha; obtain ⟨x16, hc17, hF⟩ := cal_some hF
  refine o_call ha rfl rfl Tryd.call33 (W_spec_l1In hI14 (show InI 1 from by decide) (show InI 16 from by decide) hc17) ?_; clear ha a; rintro v18 w19 ⟨rfl, hx20⟩ a ha
  replace hB3 := hB3.ext hx20
  have hE21 := Ext.trans hE15 hx20
  refine op_g ha rfl (g_not rfl) ?_; clear ha a; intro a ha; refine wpList_nil ?_; replace ha := ha.sub (σ' := [(1, (.pointer (some ⟨b1, 0, none⟩))), (3, (.int .i64 x9)), (11, (.bool (!x16)))]) ⟨rfl, rfl, rfl, trivial⟩; refine e_then ?_; refine c_cond (¬ (x16 = true)) ha rfl (n_iff (Iff.rfl)) (fun hp22 => ?_) (fun hp22 => ?_)
  · replace hF := if_t hp22 hF
    refine wp_seq ?_; refine wp_region_lit ?_; refine op_g ha rfl (g_assign rfl) ?_; clear ha a; intro a ha; refine wpList_nil ?_; replace ha := ha.sub (σ' := [(2, (.bool false))]) ⟨rfl, trivial⟩; refine e_then ?_; refine wp_ret ?_; refine e_then_ret ?_; obtain rfl := Option.some.inj hF
    exact f_ret1 ha rfl rfl ⟨rfl, hE21⟩
  replace hF := if_f hp22 hF; refine wp_skip ?_; refine e_then ?_; refine wp_seq ?_; refine wp_seq ?_; refine wp_region_lit ?_; refine op_g ha rfl (g_assign rfl) ?_; clear ha a; intro a ha; refine wpList_nil ?_; replace ha := ha.sub (σ' := [(1, (.pointer (some ⟨b1, 0, none⟩))), (3, (.int .i64 x9)), (4, (.int .i64 0))]) ⟨rfl, rfl, rfl, trivial⟩; refine e_then ?_; obtain ⟨o136, ho137, hK138⟩ := bnd_some hF
  obtain ⟨n139, hn140⟩ := lp_some ho137; clear ho137
  refine c_loop (fun a w => Fr 64 [(1, (.pointer (some ⟨b1, 0, none⟩))), (3, (.int .i64 x9))] a ∧ Chg [] W w ∧ Bx w b1 [va0_0] 29 ∧ Zn W (b1 : Int) ∧ o136 = .inl ()) (fun n a w => ∃ (i80 : Int), Fr 64 [(1, (.pointer (some ⟨b1, 0, none⟩))), (3, (.int .i64 x9)), (4, (.int .i64 i80))] a ∧ Chg [] W w ∧ InI i80 ∧ Bx w b1 [va0_0] 29 ∧ Zn W (b1 : Int) ∧ lpN (fun s => F_spec_GraphOk_l1 a0_0 x9 s) n i80 = some o136) n139 ⟨0, ha.sub ⟨rfl, rfl, rfl, trivial⟩, hE21, (show InI 0 from by decide), hB3, q7, hn140⟩ ?_ ?_
  · rintro m144 a w77 ⟨i80, ha, hE82, hI81, hB78, z79, hF⟩
    cases m144 with
    | zero => exact (lpN_zero hF).elim
    | succ m144 =>
      obtain ⟨z143, hF, hN142⟩ := lpN_succ hF
      have hF : F_spec_GraphOk_l1 a0_0 x9 i80 = some z143 := hF; unfold F_spec_GraphOk_l1 at hF
      refine wp_seq ?_; refine wp_seq ?_; refine wp_region_lit ?_; (iterate 2 refine op_g ha rfl (g_move rfl) ?_; clear ha a; intro a ha); refine op_g ha rfl (g_lss rfl rfl) ?_; clear ha a; intro a ha; refine wpList_nil ?_; replace ha := ha.sub (σ' := [(1, (.pointer (some ⟨b1, 0, none⟩))), (3, (.int .i64 x9)), (4, (.int .i64 i80)), (14, (.bool (decide (i80 < x9))))]) ⟨rfl, rfl, rfl, rfl, trivial⟩; refine e_then ?_; refine c_cond (i80 < x9) ha rfl (decide_eq_true_iff) (fun hp145 => ?_) (fun hp145 => ?_)
      · replace hF := if_t hp145 hF
        refine wp_skip ?_; refine e_then ?_; refine wp_seq ?_; refine wp_block ?_; refine wp_seq ?_; refine wp_region_lit ?_; refine op_g ha rfl (g_field0 st29_0 rfl) ?_; clear ha a; intro a ha; refine op_g ha rfl (g_load Tryd.isAgg27 rfl (hB78.cell rfl)) ?_; clear ha a; intro a ha; refine op_g ha rfl (g_move rfl) ?_; clear ha a; intro a ha; obtain ⟨x146, g147, gx148, hF⟩ := idx_some hF
        obtain ⟨p149, cs150, f151, hf152, hpb153, hat154, hr155, hi156⟩ := ha0_0.at g147 gx148
        obtain ⟨v157, rfl, h158⟩ := hr155
        have h158 : Ro Rp.int W f151 v157 x146 := h158
        refine op_g ha rfl (hi156.gives sl27 rfl rfl) ?_; clear ha a; intro a ha; refine op_g ha rfl (g_load0 hE82 Tryd.isAgg32 rfl hat154.one) ?_; clear ha a; intro a ha; refine op_g ha rfl (g_move rfl) ?_; clear ha a; intro a ha; obtain ⟨x160, hc161, hF⟩ := cal_some hF
        refine o_call ha rfl rfl Tryd.call35 (W_spec_l1Set (h158.ext hE82) hI14 hc161) ?_; clear ha a; rintro v162 w163 ⟨rfl, hx164⟩ a ha
        replace hB78 := hB78.ext hx164
        have hE165 := Ext.trans hE82 hx164
        refine op_g ha rfl (g_not rfl) ?_; clear ha a; intro a ha; refine op_g ha rfl (g_move rfl) ?_; clear ha a; intro a ha
        by_cases hp166 : ¬ (x160 = true)
        · replace hF := if_t hp166 hF
          rw [show (!x160) = true from (n_iff (Iff.rfl)).2 hp166] at ha
          (iterate 7 refine op_unwant ha rfl (yields ha rfl rfl) rfl ?_; clear ha a; intro a ha); refine op_g ha rfl (g_pick rfl rfl) ?_; clear ha a; intro a ha; refine wpList_nil ?_; replace ha := ha.sub (σ' := [(1, (.pointer (some ⟨b1, 0, none⟩))), (3, (.int .i64 x9)), (4, (.int .i64 i80)), (33, (.bool true))]) ⟨rfl, rfl, rfl, rfl, trivial⟩; refine e_then ?_; refine c_true ha rfl ?_; refine wp_seq ?_; refine wp_region_lit ?_; refine op_g ha rfl (g_assign rfl) ?_; clear ha a; intro a ha; refine wpList_nil ?_; replace ha := ha.sub (σ' := [(2, (.bool false))]) ⟨rfl, trivial⟩; refine e_then ?_; refine wp_ret ?_
          refine e_blk_ret ?_; refine e_then_ret ?_; refine e_lq_ret ?_; refine e_then_ret ?_; obtain rfl := Option.some.inj hF
          have e167 := LK_inr hN142; subst e167
          have e168 := BK_inr hK138; subst e168
          exact f_ret1 ha rfl rfl ⟨rfl, hE165⟩
        replace hF := if_f hp166 hF
        rw [show (!x160) = false from b_false (n_iff (Iff.rfl)) hp166] at ha
        refine op_want (yields ha rfl rfl) ?_; refine op_g ha rfl (g_field0 st29_0 rfl) ?_; clear ha a; intro a ha; refine op_want (yields ha rfl rfl) ?_; refine op_g ha rfl (g_load Tryd.isAgg27 rfl (hB78.cell rfl)) ?_; clear ha a; intro a ha; refine op_want (yields ha rfl rfl) ?_; refine op_g ha rfl (g_move rfl) ?_; clear ha a; intro a ha; refine op_want (yields ha rfl rfl) ?_; obtain ⟨x169, g170, gx171, hF⟩ := idx_some hF
        obtain ⟨p172, cs173, f174, hf175, hpb176, hat177, hr178, hi179⟩ := ha0_0.at g170 gx171
        obtain ⟨v180, rfl, h181⟩ := hr178
        have h181 : Ro Rp.int W f174 v180 x169 := h181
        refine op_g ha rfl (hi179.gives sl27 rfl rfl) ?_; clear ha a; intro a ha; refine op_want (yields ha rfl rfl) ?_; refine op_g ha rfl (g_load0 hE165 Tryd.isAgg32 rfl hat177.one) ?_; clear ha a; intro a ha; refine op_want (yields ha rfl rfl) ?_; refine op_g ha rfl (g_move rfl) ?_; clear ha a; intro a ha; refine op_want (yields ha rfl rfl) ?_; obtain ⟨x183, hc184, hF⟩ := cal_some hF
        refine o_call ha rfl rfl Tryd.call64 (W_spec_l1Has (h181.ext hE165) hI81 hc184) ?_; clear ha a; rintro v185 w186 ⟨rfl, hx187⟩ a ha
        replace hB78 := hB78.ext hx187
        have hE188 := Ext.trans hE165 hx187
        refine op_g ha rfl (g_pick rfl rfl) ?_; clear ha a; intro a ha; refine wpList_nil ?_; replace ha := ha.sub (σ' := [(1, (.pointer (some ⟨b1, 0, none⟩))), (3, (.int .i64 x9)), (4, (.int .i64 i80)), (26, (.pointer (some ⟨b1, 0, none⟩))), (27, va0_0), (28, (.int .i64 i80)), (29, (.pointer (some p172))), (30, v180), (31, (.int .i64 i80)), (32, (.bool x183)), (33, (.bool x183))]) ⟨rfl, rfl, rfl, rfl, rfl, rfl, rfl, rfl, rfl, rfl, rfl, trivial⟩; refine e_then ?_; refine c_cond (x183 = true) ha rfl (Iff.rfl) (fun hp189 => ?_) (fun hp189 => ?_)
        · replace hF := if_t hp189 hF
          refine wp_seq ?_; refine wp_region_lit ?_; refine op_g ha rfl (g_assign rfl) ?_; clear ha a; intro a ha; refine wpList_nil ?_; replace ha := ha.sub (σ' := [(2, (.bool false))]) ⟨rfl, trivial⟩; refine e_then ?_; refine wp_ret ?_; refine e_blk_ret ?_; refine e_then_ret ?_; refine e_lq_ret ?_; refine e_then_ret ?_; obtain rfl := Option.some.inj hF
          have e190 := LK_inr hN142; subst e190
          have e191 := BK_inr hK138; subst e191
          exact f_ret1 ha rfl rfl ⟨rfl, hE188⟩
        replace hF := if_f hp189 hF; refine wp_skip ?_; refine e_blk ?_; refine e_then ?_; refine wp_region_lit ?_; refine op_g ha rfl (g_move rfl) ?_; clear ha a; intro a ha; obtain ⟨hI192, hF⟩ := ck_some hF; refine op_g ha rfl (g_add rfl rfl hI192) ?_; clear ha a; intro a ha; refine op_g ha rfl (g_assign rfl) ?_; clear ha a; intro a ha; refine wpList_nil ?_; replace ha := ha.sub (σ' := [(1, (.pointer (some ⟨b1, 0, none⟩))), (3, (.int .i64 x9)), (4, (.int .i64 (i80 + 1))), (26, (.pointer (some ⟨b1, 0, none⟩))), (27, va0_0), (28, (.int .i64 i80)), (29, (.pointer (some p172))), (30, v180), (31, (.int .i64 i80)), (32, (.bool x183))]) ⟨rfl, rfl, rfl, rfl, rfl, rfl, rfl, rfl, rfl, rfl, trivial⟩
        refine e_lq ?_; obtain rfl := Option.some.inj hF
        exact ⟨_, Nat.lt_succ_self _, i80 + 1, ha.sub ⟨rfl, rfl, rfl, trivial⟩, hE188, hI192, hB78, z79, hN142⟩
      replace hF := if_f hp145 hF; refine wp_exit ?_; refine e_then_exit ?_; refine e_lq_eq ?_; obtain rfl := Option.some.inj hF
      exact ⟨ha.sub ⟨rfl, rfl, trivial⟩, hE82, hB78, z79, (LK_inr hN142).symm⟩
  rintro a w133 ⟨ha, hE141, hB134, z135, rfl⟩
  have hF : F_spec_GraphOk_k2 a0_0 x9 = some _ := hK138; clear hK138; unfold F_spec_GraphOk_k2 at hF
  refine e_then ?_; refine wp_seq ?_; refine wp_seq ?_; refine wp_region_lit ?_; refine op_g ha rfl (g_assign rfl) ?_; clear ha a; intro a ha; refine wpList_nil ?_; refine e_then ?_; obtain ⟨o675, ho676, hK677⟩ := bnd_some hF
  obtain ⟨n678, hn679⟩ := lp_some ho676; clear ho676
  refine c_loop (fun a w => Fr 64 [] a ∧ Chg [] W w ∧ o675 = .inl ()) (fun n a w => ∃ (i436 : Int), Fr 64 [(1, (.pointer (some ⟨b1, 0, none⟩))), (3, (.int .i64 x9)), (5, (.int .i64 i436))] a ∧ Chg [] W w ∧ InI i436 ∧ Bx w b1 [va0_0] 29 ∧ Zn W (b1 : Int) ∧ lpN (fun s => F_spec_GraphOk_l3 a0_0 x9 s) n i436 = some o675) n678 ⟨0, ha.sub ⟨rfl, rfl, rfl, trivial⟩, hE141, (show InI 0 from by decide), hB134, z135, hn679⟩ ?_ ?_
  · rintro m683 a w433 ⟨i436, ha, hE438, hI437, hB434, z435, hF⟩
    cases m683 with
    | zero => exact (lpN_zero hF).elim
    | succ m683 =>
      obtain ⟨z682, hF, hN681⟩ := lpN_succ hF
      have hF : F_spec_GraphOk_l3 a0_0 x9 i436 = some z682 := hF; unfold F_spec_GraphOk_l3 at hF
      refine wp_seq ?_; refine wp_seq ?_; refine wp_region_lit ?_; (iterate 2 refine op_g ha rfl (g_move rfl) ?_; clear ha a; intro a ha); refine op_g ha rfl (g_lss rfl rfl) ?_; clear ha a; intro a ha; refine wpList_nil ?_; replace ha := ha.sub (σ' := [(1, (.pointer (some ⟨b1, 0, none⟩))), (3, (.int .i64 x9)), (5, (.int .i64 i436)), (36, (.bool (decide (i436 < x9))))]) ⟨rfl, rfl, rfl, rfl, trivial⟩; refine e_then ?_; refine c_cond (i436 < x9) ha rfl (decide_eq_true_iff) (fun hp684 => ?_) (fun hp684 => ?_)
      · replace hF := if_t hp684 hF
        refine wp_skip ?_; refine e_then ?_; refine wp_seq ?_; refine wp_block ?_; refine wp_seq ?_; refine wp_region_lit ?_; refine op_g ha rfl (g_assign rfl) ?_; clear ha a; intro a ha; refine wpList_nil ?_; replace ha := ha.sub (σ' := [(1, (.pointer (some ⟨b1, 0, none⟩))), (3, (.int .i64 x9)), (5, (.int .i64 i436)), (6, (.int .i64 0))]) ⟨rfl, rfl, rfl, rfl, trivial⟩; refine e_then ?_; obtain ⟨o838, ho839, hK840⟩ := bnd_some hF
        obtain ⟨n841, hn842⟩ := lp_some ho839; clear ho839
        refine c_loop (fun a w => Fr 64 [(1, (.pointer (some ⟨b1, 0, none⟩))), (3, (.int .i64 x9)), (5, (.int .i64 i436))] a ∧ Chg [] W w ∧ Bx w b1 [va0_0] 29 ∧ Zn W (b1 : Int) ∧ o838 = .inl ()) (fun n a w => ∃ (i762 : Int), Fr 64 [(1, (.pointer (some ⟨b1, 0, none⟩))), (3, (.int .i64 x9)), (5, (.int .i64 i436)), (6, (.int .i64 i762))] a ∧ Chg [] W w ∧ InI i762 ∧ Bx w b1 [va0_0] 29 ∧ Zn W (b1 : Int) ∧ lpN (fun s => F_spec_GraphOk_l4 a0_0 i436 s) n i762 = some o838) n841 ⟨0, ha.sub ⟨rfl, rfl, rfl, rfl, trivial⟩, hE438, (show InI 0 from by decide), hB434, z435, hn842⟩ ?_ ?_
        · rintro m846 a w759 ⟨i762, ha, hE764, hI763, hB760, z761, hF⟩
          cases m846 with
          | zero => exact (lpN_zero hF).elim
          | succ m846 =>
            obtain ⟨z845, hF, hN844⟩ := lpN_succ hF
            have hF : F_spec_GraphOk_l4 a0_0 i436 i762 = some z845 := hF; unfold F_spec_GraphOk_l4 at hF
            refine wp_seq ?_; refine wp_seq ?_; refine wp_region_lit ?_; refine op_g ha rfl (g_move rfl) ?_; clear ha a; intro a ha; refine op_g ha rfl (g_field0 st29_0 rfl) ?_; clear ha a; intro a ha; refine op_g ha rfl (g_load Tryd.isAgg27 rfl (hB760.cell rfl)) ?_; clear ha a; intro a ha; refine op_g ha rfl (g_move rfl) ?_; clear ha a; intro a ha; obtain ⟨x847, g848, gx849, hF⟩ := idx_some hF
            obtain ⟨p850, cs851, f852, hf853, hpb854, hat855, hr856, hi857⟩ := ha0_0.at g848 gx849
            obtain ⟨v858, rfl, h859⟩ := hr856
            have h859 : Ro Rp.int W f852 v858 x847 := h859
            refine op_g ha rfl (hi857.gives sl27 rfl rfl) ?_; clear ha a; intro a ha; refine op_g ha rfl (g_load0 hE764 Tryd.isAgg32 rfl hat855.one) ?_; clear ha a; intro a ha; refine op_g ha rfl (g_lenR sl32.und h859 rfl) ?_; clear ha a; intro a ha; refine op_g ha rfl (g_lss rfl rfl) ?_; clear ha a; intro a ha; refine wpList_nil ?_; replace ha := ha.sub (σ' := [(1, (.pointer (some ⟨b1, 0, none⟩))), (3, (.int .i64 x9)), (5, (.int .i64 i436)), (6, (.int .i64 i762)), (46, (.bool (decide (i762 < (x847.length : Int)))))]) ⟨rfl, rfl, rfl, rfl, rfl, trivial⟩; refine e_then ?_; refine c_cond (i762 < (x847.length : Int)) ha rfl (decide_eq_true_iff) (fun hp861 => ?_) (fun hp861 => ?_)
            · replace hF := if_t hp861 hF
              refine wp_skip ?_; refine e_then ?_; refine wp_seq ?_; refine wp_block ?_; refine wp_seq ?_; refine d_quiet hmix (by kernel_rfl) ?_; refine q_g ha rfl (g_field0 st29_0 rfl) ?_; clear ha a; intro a ha; refine q_g ha rfl (g_load Tryd.isAgg27 rfl (hB760.cell rfl)) ?_; clear ha a; intro a ha; refine q_g ha rfl (g_field0 st29_0 rfl) ?_; clear ha a; intro a ha; refine q_g ha rfl (g_load Tryd.isAgg27 rfl (hB760.cell rfl)) ?_; clear ha a; intro a ha; refine q_g ha rfl (g_move rfl) ?_; clear ha a; intro a ha; obtain ⟨x862, g863, gx864, hF⟩ := idx_some hF
              obtain ⟨p865, cs866, f867, hf868, hpb869, hat870, hr871, hi872⟩ := ha0_0.at g863 gx864
              obtain ⟨v873, rfl, h874⟩ := hr871
              have h874 : Ro Rp.int W f867 v873 x862 := h874
              refine q_g ha rfl (hi872.gives sl27 rfl rfl) ?_; clear ha a; intro a ha; refine q_g ha rfl (g_load0 hE764 Tryd.isAgg32 rfl hat870.one) ?_; clear ha a; intro a ha; refine q_g ha rfl (g_move rfl) ?_; clear ha a; intro a ha; obtain ⟨x876, g877, gx878, hF⟩ := idx_some hF
              obtain ⟨p879, cs880, f881, hf882, hpb883, hat884, hr885, hi886⟩ := h874.at g877 gx878
              obtain ⟨rfl, hI887, rfl⟩ := hr885
              refine q_g ha rfl (hi886.gives sl32 rfl rfl) ?_; clear ha a; intro a ha; refine q_g ha rfl (g_load0 hE764 Tryd.isAgg2 rfl hat884.one) ?_; clear ha a; intro a ha; obtain ⟨x888, g889, gx890, hF⟩ := idx_some hF
              obtain ⟨p891, cs892, f893, hf894, hpb895, hat896, hr897, hi898⟩ := ha0_0.at g889 gx890
              obtain ⟨v899, rfl, h900⟩ := hr897
              have h900 : Ro Rp.int W f893 v899 x888 := h900
              refine q_g ha rfl (hi898.gives sl27 rfl rfl) ?_; clear ha a; intro a ha; refine q_g ha rfl (g_load0 hE764 Tryd.isAgg32 rfl hat896.one) ?_; clear ha a; intro a ha; refine q_g ha rfl (g_move rfl) ?_; clear ha a; intro a ha; obtain ⟨x904, hc905, hF⟩ := cal_some hF; refine q_call (.bool x904) ha rfl rfl Tryd.call64 (fun w903 hx902 => W_spec_l1Has (h900.ext (Ext.trans hE764 hx902)) hI437 hc905) (fun _ _ _ h => ⟨h.1, h.2⟩) ?_; clear ha a; intro a ha; refine q_g ha rfl (g_not rfl) ?_; clear ha a; intro a ha
              refine q_nil ?_; intro w906 hx907
              replace hB760 := hB760.ext hx907
              have hE908 := Ext.trans hE764 hx907
              replace ha := ha.sub (σ' := [(1, (.pointer (some ⟨b1, 0, none⟩))), (3, (.int .i64 x9)), (5, (.int .i64 i436)), (6, (.int .i64 i762)), (63, (.bool (!x904)))]) ⟨rfl, rfl, rfl, rfl, rfl, trivial⟩; refine e_then ?_; refine c_cond (¬ (x904 = true)) ha rfl (n_iff (Iff.rfl)) (fun hp909 => ?_) (fun hp909 => ?_)
              · replace hF := if_t hp909 hF
                refine wp_seq ?_; refine wp_region_lit ?_; refine op_g ha rfl (g_assign rfl) ?_; clear ha a; intro a ha; refine wpList_nil ?_; replace ha := ha.sub (σ' := [(2, (.bool false))]) ⟨rfl, trivial⟩; refine e_then ?_; refine wp_ret ?_; refine e_blk_ret ?_; refine e_then_ret ?_; refine e_lq_ret ?_; refine e_blk_ret ?_; refine e_then_ret ?_; refine e_lq_ret ?_; refine e_then_ret ?_; obtain rfl := Option.some.inj hF
                have e910 := LK_inr hN844; subst e910
                have e911 := BK_inr hK840; subst e911
                have e912 := LK_inr hN681; subst e912
                have e913 := BK_inr hK677; subst e913
                exact f_ret1 ha rfl rfl ⟨rfl, hE908⟩
              replace hF := if_f hp909 hF; refine wp_skip ?_; refine e_blk ?_; refine e_then ?_; refine wp_region_lit ?_; refine op_g ha rfl (g_move rfl) ?_; clear ha a; intro a ha; obtain ⟨hI914, hF⟩ := ck_some hF; refine op_g ha rfl (g_add rfl rfl hI914) ?_; clear ha a; intro a ha; refine op_g ha rfl (g_assign rfl) ?_; clear ha a; intro a ha; refine wpList_nil ?_; replace ha := ha.sub (σ' := [(1, (.pointer (some ⟨b1, 0, none⟩))), (3, (.int .i64 x9)), (5, (.int .i64 i436)), (6, (.int .i64 (i762 + 1)))]) ⟨rfl, rfl, rfl, rfl, trivial⟩; refine e_lq ?_; obtain rfl := Option.some.inj hF
              exact ⟨_, Nat.lt_succ_self _, i762 + 1, ha.sub ⟨rfl, rfl, rfl, rfl, trivial⟩, hE908, hI914, hB760, z761, hN844⟩
            replace hF := if_f hp861 hF; refine wp_exit ?_; refine e_then_exit ?_; refine e_lq_eq ?_; obtain rfl := Option.some.inj hF
            exact ⟨ha.sub ⟨rfl, rfl, rfl, trivial⟩, hE764, hB760, z761, (LK_inr hN844).symm⟩
        rintro a w835 ⟨ha, hE843, hB836, z837, rfl⟩
        have hF : F_spec_GraphOk_k5 i436 = some _ := hK840; clear hK840; unfold F_spec_GraphOk_k5 at hF
        refine e_blk ?_; refine e_then ?_; refine wp_region_lit ?_; refine op_g ha rfl (g_move rfl) ?_; clear ha a; intro a ha; obtain ⟨hI916, hF⟩ := ck_some hF; refine op_g ha rfl (g_add rfl rfl hI916) ?_; clear ha a; intro a ha; refine op_g ha rfl (g_assign rfl) ?_; clear ha a; intro a ha; refine wpList_nil ?_; replace ha := ha.sub (σ' := [(1, (.pointer (some ⟨b1, 0, none⟩))), (3, (.int .i64 x9)), (5, (.int .i64 (i436 + 1)))]) ⟨rfl, rfl, rfl, trivial⟩; refine e_lq ?_; obtain rfl := Option.some.inj hF
        exact ⟨_, Nat.lt_succ_self _, i436 + 1, ha.sub ⟨rfl, rfl, rfl, trivial⟩, hE843, hI916, hB836, z837, hN681⟩
      replace hF := if_f hp684 hF; refine wp_exit ?_; refine e_then_exit ?_; refine e_lq_eq ?_; obtain rfl := Option.some.inj hF
      exact ⟨ha.sub trivial, hE438, (LK_inr hN681).symm⟩
  rintro a w674 ⟨ha, hE680, rfl⟩
  have hF : F_spec_GraphOk_k6 = some _ := hK677; clear hK677; unfold F_spec_GraphOk_k6 at hF
  refine e_then ?_; refine wp_seq ?_; refine wp_region_lit ?_; refine op_g ha rfl (g_assign rfl) ?_; clear ha a; intro a ha; refine wpList_nil ?_; refine e_then ?_; refine wp_ret ?_; obtain rfl := Option.some.inj hF
  exact f_ret1 ha rfl rfl ⟨rfl, hE680⟩
set_option maxHeartbeats 2000000 in
theorem W_spec_l26None {W : World} {a0 : Int} (ha0 : InI a0) {r : (List Int)} (hF : F_spec_l26None a0 = some r) :
    Calls Tryd.prog 66 [.int .i64 a0].toArray W (Ret fun u w' => ∃ (b_u : Int), Ow Rp.int 2 true w' [] b_u u r ∧ Zn W b_u ∧ Ext W w') := by
  refine f_enter Tryd.func66 rfl Tryd.ntmps66 rfl ?_
  intro a ha
  replace ha : Fr 15 [(0, (.int .i64 a0))] a := ha
  have hE : Chg [] W W := Chg.refl _ _
  unfold F_spec_l26None at hF
  refine wp_seq ?_; refine wp_region_lit ?_; refine op_g ha rfl (g_assign rfl) ?_; clear ha a; intro a ha; refine wpList_nil ?_; replace ha := ha.sub (σ' := [(0, (.int .i64 a0))]) ⟨rfl, trivial⟩; refine e_then ?_; refine wp_seq ?_; refine wp_region_lit ?_
  refine o_lit0 Rp.int ha rfl sl32 ?_; clear ha a; intro v1 w2 h3 hx4 a ha
  obtain ⟨b6, hb6⟩ : ∃ b : Int, b = W.heap.size := ⟨_, rfl⟩; rw [← hb6] at h3
  have q7 := zn_of hb6
  have q8 := Zn.upD q7 hE
  have hE9 := Ext.trans hE hx4
  refine op_g ha rfl (g_assign rfl) ?_; clear ha a; intro a ha; refine wpList_nil ?_; replace ha := ha.sub (σ' := [(0, (.int .i64 a0)), (3, v1)]) ⟨rfl, rfl, trivial⟩; refine e_then ?_; refine wp_seq ?_; refine wp_seq ?_; refine wp_region_lit ?_; refine op_g ha rfl (g_assign rfl) ?_; clear ha a; intro a ha; refine wpList_nil ?_; refine e_then ?_; obtain ⟨o102, ho103, hK104⟩ := bnd_some hF
  obtain ⟨n105, hn106⟩ := lp_some ho103; clear ho103
  refine c_loop (fun a w => ∃ (l99 : (List Int)) (v100 : Value) (b101 : Int), Fr 15 [(3, v100)] a ∧ Chg [] W w ∧ Ow Rp.int 2 true w [] b101 v100 l99 ∧ Zn W b101 ∧ o102 = .inl l99) (fun n a w => ∃ (l54 : (List Int)) (i57 : Int) (v55 : Value) (b56 : Int), Fr 15 [(0, (.int .i64 a0)), (3, v55), (4, (.int .i64 i57))] a ∧ Chg [] W w ∧ InI i57 ∧ Ow Rp.int 2 true w [] b56 v55 l54 ∧ Zn W b56 ∧ lpN (fun s => F_spec_l26None_l1 a0 s.1 s.2) n (l54, i57) = some o102) n105 ⟨([] : (List Int)), 0, v1, b6, ha.sub ⟨rfl, rfl, rfl, trivial⟩, hE9, (show InI 0 from by decide), h3, q8, hn106⟩ ?_ ?_
  · rintro m110 a w50 ⟨l54, i57, v55, b56, ha, hE59, hI58, h52, z53, hF⟩
    cases m110 with
    | zero => exact (lpN_zero hF).elim
    | succ m110 =>
      obtain ⟨z109, hF, hN108⟩ := lpN_succ hF
      have hF : F_spec_l26None_l1 a0 l54 i57 = some z109 := hF; unfold F_spec_l26None_l1 at hF
      refine wp_seq ?_; refine wp_seq ?_; refine wp_region_lit ?_; (iterate 2 refine op_g ha rfl (g_move rfl) ?_; clear ha a; intro a ha); refine op_g ha rfl (g_lss rfl rfl) ?_; clear ha a; intro a ha; refine wpList_nil ?_; replace ha := ha.sub (σ' := [(0, (.int .i64 a0)), (3, v55), (4, (.int .i64 i57)), (8, (.bool (decide (i57 < a0))))]) ⟨rfl, rfl, rfl, rfl, trivial⟩; refine e_then ?_; refine c_cond (i57 < a0) ha rfl (decide_eq_true_iff) (fun hp111 => ?_) (fun hp111 => ?_)
      · replace hF := if_t hp111 hF
        refine wp_skip ?_; refine e_then ?_; refine wp_seq ?_; refine wp_block ?_; refine wp_region_lit ?_; refine op_g ha rfl (g_move rfl) ?_; clear ha a; intro a ha
        refine o_lit1 (o := true) (y := (-1)) Rp.int ha rfl sl32 rfl rfl rfl ⟨rfl, (show InI (-1) from by decide), rfl⟩ ?_; clear ha a; intro v112 w113 h114 hx115 a ha
        obtain ⟨b117, hb117⟩ : ∃ b : Int, b = w50.heap.size := ⟨_, rfl⟩; rw [← hb117] at h114
        have q118 := zn_of hb117
        have q119 := Nq.new h52.fpb q118
        have q120 := Nq.madeO q118 h52.blt
        have q121 := Zn.upD q118 hE59
        replace h52 := h52.ext hx115
        have hE122 := Ext.trans hE59 hx115
        obtain ⟨hl123, hF⟩ := app_some hF
        refine o_append ha rfl sl32 rfl rfl rfl h52 h114.src (Nq.nil _) hl123 ?_; clear ha a; intro v124 w125 b126 h127 hc128 hb129 a ha
        replace h127 : Ow Rp.int 2 true w125 [] b126 v124 _ := h127
        have q131 := Nq.appY q120 h114.fpb hb129
        have q132 := Nq.appX q119 (Nq.nil _) hb129 h114.blt
        have q133 := Zn.appD z53 hb129 hE122
        replace h114 := h114.nq hc128 q120
        have hE134 := Ext.then hE122 hc128 (Zn.bl z53)
        refine op_g ha rfl (g_assign rfl) ?_; clear ha a; intro a ha; refine wpList_nil ?_; replace ha := ha.sub (σ' := [(0, (.int .i64 a0)), (3, v124), (4, (.int .i64 i57))]) ⟨rfl, rfl, rfl, trivial⟩; refine e_blk ?_; refine e_then ?_; refine wp_region_lit ?_; refine op_g ha rfl (g_move rfl) ?_; clear ha a; intro a ha; obtain ⟨hI135, hF⟩ := ck_some hF; refine op_g ha rfl (g_add rfl rfl hI135) ?_; clear ha a; intro a ha; refine op_g ha rfl (g_assign rfl) ?_; clear ha a; intro a ha; refine wpList_nil ?_; replace ha := ha.sub (σ' := [(0, (.int .i64 a0)), (3, v124), (4, (.int .i64 (i57 + 1)))]) ⟨rfl, rfl, rfl, trivial⟩
        refine e_lq ?_; obtain rfl := Option.some.inj hF
        exact ⟨_, Nat.lt_succ_self _, (l54 ++ ([(-1)])), i57 + 1, v124, b126, ha.sub ⟨rfl, rfl, rfl, trivial⟩, hE134, hI135, h127, q133, hN108⟩
      replace hF := if_f hp111 hF; refine wp_exit ?_; refine e_then_exit ?_; refine e_lq_eq ?_; obtain rfl := Option.some.inj hF
      exact ⟨l54, v55, b56, ha.sub ⟨rfl, trivial⟩, hE59, h52, z53, (LK_inr hN108).symm⟩
  rintro a w95 ⟨l99, v100, b101, ha, hE107, h97, z98, rfl⟩
  have hF : F_spec_l26None_k2 l99 = some _ := hK104; clear hK104; unfold F_spec_l26None_k2 at hF
  refine e_then ?_; refine wp_seq ?_; refine wp_region_lit ?_; refine op_g ha rfl (g_move rfl) ?_; clear ha a; intro a ha; refine op_g ha rfl (g_assign rfl) ?_; clear ha a; intro a ha; refine wpList_nil ?_; replace ha := ha.sub (σ' := [(2, v100)]) ⟨rfl, trivial⟩; refine e_then ?_; refine wp_ret ?_; obtain rfl := Option.some.inj hF
  exact f_ret1 ha rfl rfl ⟨_, h97, z98, hE107⟩
set_option maxHeartbeats 2000000 in
theorem W_spec_l26Try_step {rc : (List (List Int)) → (List Int) → Int → Int → Int → Option ((List Int) × Bool)} (ih : ∀ {W : World} {va0_0 : Value} {fa0_0 : List Nat} {a0_0 : (List (List Int))} (ha0_0 : Ro (Rp.sl 2 Rp.int) W fa0_0 va0_0 a0_0) {va1 : Value} {fa1 : List Nat} {a1 : (List Int)} (ha1 : Ro Rp.int W fa1 va1 a1) {a2 : Int} (ha2 : InI a2) {a3 : Int} (ha3 : InI a3) {a4 : Int} (ha4 : InI a4) {r : ((List Int) × Bool)} (hF : rc a0_0 a1 a2 a3 a4 = some r),
    Calls Tryd.prog 65 [.agg #[va0_0], va1, .int .i64 a2, .int .i64 a3, .int .i64 a4].toArray W (Ret fun u w' => ∃ (u0 : Value) (u1 : Value) (fp_u0 : List Nat), u = .tuple #[u0, u1] ∧ Ro Rp.int w' fp_u0 u0 r.1 ∧ Pv (fa0_0 ++ fa1) W.heap.size fp_u0 ∧ u1 = .bool r.2 ∧ Ext W w')) {W : World} {va0_0 : Value} {fa0_0 : List Nat} {a0_0 : (List (List Int))} (ha0_0 : Ro (Rp.sl 2 Rp.int) W fa0_0 va0_0 a0_0) {va1 : Value} {fa1 : List Nat} {a1 : (List Int)} (ha1 : Ro Rp.int W fa1 va1 a1) {a2 : Int} (ha2 : InI a2) {a3 : Int} (ha3 : InI a3) {a4 : Int} (ha4 : InI a4) {r : ((List Int) × Bool)} (hF : F_spec_l26Try_body rc a0_0 a1 a2 a3 a4 = some r) :
    Calls Tryd.prog 65 [.agg #[va0_0], va1, .int .i64 a2, .int .i64 a3, .int .i64 a4].toArray W (Ret fun u w' => ∃ (u0 : Value) (u1 : Value) (fp_u0 : List Nat), u = .tuple #[u0, u1] ∧ Ro Rp.int w' fp_u0 u0 r.1 ∧ Pv (fa0_0 ++ fa1) W.heap.size fp_u0 ∧ u1 = .bool r.2 ∧ Ext W w') := by
  refine f_enter Tryd.func65 rfl Tryd.ntmps65 rfl ?_
  intro a ha
  replace ha : Fr 88 [(0, (.agg #[va0_0])), (1, va1), (2, (.int .i64 a2)), (3, (.int .i64 a3)), (4, (.int .i64 a4))] a := ha
  have hE : Chg [] W W := Chg.refl _ _
  unfold F_spec_l26Try_body at hF
  refine wp_seq ?_; refine wp_region_lit ?_
  refine o_box ha rfl rfl rfl ?_; clear ha a; intro b1 w2 hB3 hx4 hlo5 a ha
  have q6 := Zn.one hlo5
  have q7 := Zn.upD q6 hE
  have hE8 := Ext.trans hE hx4
  (iterate 2 refine op_g ha rfl (g_assign rfl) ?_; clear ha a; intro a ha); refine wpList_nil ?_; replace ha := ha.sub (σ' := [(1, va1), (2, (.int .i64 a2)), (3, (.int .i64 a3)), (4, (.int .i64 a4)), (5, (.pointer (some ⟨b1, 0, none⟩)))]) ⟨rfl, rfl, rfl, rfl, rfl, trivial⟩; refine e_then ?_; refine wp_seq ?_; refine wp_seq ?_; refine wp_region_lit ?_; refine op_g ha rfl (g_move rfl) ?_; clear ha a; intro a ha; refine op_g ha rfl (g_field0 st29_0 rfl) ?_; clear ha a; intro a ha; refine op_g ha rfl (g_load Tryd.isAgg27 rfl (hB3.cell rfl)) ?_; clear ha a; intro a ha; refine op_g ha rfl (g_lenR sl27.und ha0_0 rfl) ?_; clear ha a; intro a ha
  refine op_g ha rfl (g_eql rfl rfl) ?_; clear ha a; intro a ha; refine wpList_nil ?_; replace ha := ha.sub (σ' := [(1, va1), (2, (.int .i64 a2)), (3, (.int .i64 a3)), (4, (.int .i64 a4)), (5, (.pointer (some ⟨b1, 0, none⟩))), (23, (.bool (decide (a2 = (a0_0.length : Int)))))]) ⟨rfl, rfl, rfl, rfl, rfl, rfl, trivial⟩; refine e_then ?_; refine c_cond (a2 = (a0_0.length : Int)) ha rfl (decide_eq_true_iff) (fun hp9 => ?_) (fun hp9 => ?_)
  · replace hF := if_t hp9 hF
    refine wp_seq ?_; refine wp_region_lit ?_; refine op_g ha rfl (g_move rfl) ?_; clear ha a; intro a ha; (iterate 2 refine op_g ha rfl (g_assign rfl) ?_; clear ha a; intro a ha); refine wpList_nil ?_; replace ha := ha.sub (σ' := [(10, va1), (11, (.bool true))]) ⟨rfl, rfl, trivial⟩; refine e_then ?_; refine wp_ret ?_; refine e_then_ret ?_; obtain rfl := Option.some.inj hF
    exact f_ret2 ha rfl rfl rfl ⟨_, _, _, rfl, (ha1.ext hE8), (Pv.par (fun _ h => List.mem_append_right _ h)), rfl, hE8⟩
  replace hF := if_f hp9 hF; refine wp_skip ?_; refine e_then ?_; refine wp_seq ?_; refine wp_seq ?_; refine wp_region_lit ?_; refine op_g ha rfl (g_assign rfl) ?_; clear ha a; intro a ha; refine wpList_nil ?_; replace ha := ha.sub (σ' := [(1, va1), (2, (.int .i64 a2)), (3, (.int .i64 a3)), (4, (.int .i64 a4)), (5, (.pointer (some ⟨b1, 0, none⟩))), (12, (.int .i64 0))]) ⟨rfl, rfl, rfl, rfl, rfl, rfl, trivial⟩; refine e_then ?_; obtain ⟨o613, ho614, hK615⟩ := bnd_some hF
  obtain ⟨n616, hn617⟩ := lp_some ho614; clear ho614
  refine c_loop (fun a w => Fr 88 [(1, va1)] a ∧ Chg [] W w ∧ o613 = .inl ()) (fun n a w => ∃ (i313 : Int), Fr 88 [(1, va1), (2, (.int .i64 a2)), (3, (.int .i64 a3)), (4, (.int .i64 a4)), (5, (.pointer (some ⟨b1, 0, none⟩))), (12, (.int .i64 i313))] a ∧ Chg [] W w ∧ InI i313 ∧ Bx w b1 [va0_0] 29 ∧ Zn W (b1 : Int) ∧ lpN (fun s => F_spec_l26Try_l1 a0_0 a1 a2 a3 a4 rc s) n i313 = some o613) n616 ⟨0, ha.sub ⟨rfl, rfl, rfl, rfl, rfl, rfl, trivial⟩, hE8, (show InI 0 from by decide), hB3, q7, hn617⟩ ?_ ?_
  · rintro m621 a w310 ⟨i313, ha, hE315, hI314, hB311, z312, hF⟩
    cases m621 with
    | zero => exact (lpN_zero hF).elim
    | succ m621 =>
      obtain ⟨z620, hF, hN619⟩ := lpN_succ hF
      have hF : F_spec_l26Try_l1 a0_0 a1 a2 a3 a4 rc i313 = some z620 := hF; unfold F_spec_l26Try_l1 at hF
      refine wp_seq ?_; refine wp_seq ?_; refine wp_region_lit ?_; (iterate 2 refine op_g ha rfl (g_move rfl) ?_; clear ha a; intro a ha); refine op_g ha rfl (g_lss rfl rfl) ?_; clear ha a; intro a ha; refine op_g ha rfl (g_move rfl) ?_; clear ha a; intro a ha
      by_cases hp622 : i313 < a4
      · replace hF := if_t hp622 hF
        rw [show (decide (i313 < a4)) = true from (decide_eq_true_iff).2 hp622] at ha
        refine op_want (yields ha rfl rfl) ?_; refine op_g ha rfl (g_move rfl) ?_; clear ha a; intro a ha; refine op_want (yields ha rfl rfl) ?_; refine op_g ha rfl (g_move rfl) ?_; clear ha a; intro a ha; refine op_want (yields ha rfl rfl) ?_; refine op_g ha rfl (g_leq rfl rfl) ?_; clear ha a; intro a ha; refine op_g ha rfl (g_pick rfl rfl) ?_; clear ha a; intro a ha; refine wpList_nil ?_; replace ha := ha.sub (σ' := [(1, va1), (2, (.int .i64 a2)), (3, (.int .i64 a3)), (4, (.int .i64 a4)), (5, (.pointer (some ⟨b1, 0, none⟩))), (12, (.int .i64 i313)), (29, (.int .i64 i313)), (30, (.int .i64 a3)), (31, (.bool (decide (i313 ≤ a3)))), (32, (.bool (decide (i313 ≤ a3))))]) ⟨rfl, rfl, rfl, rfl, rfl, rfl, rfl, rfl, rfl, rfl, trivial⟩
        refine e_then ?_; refine c_cond (i313 ≤ a3) ha rfl (decide_eq_true_iff) (fun hp623 => ?_) (fun hp623 => ?_)
        · replace hF := if_t hp623 hF
          refine wp_skip ?_; refine e_then ?_; refine wp_seq ?_; refine wp_block ?_; refine wp_seq ?_; refine wp_region_lit ?_; refine op_g ha rfl (g_assign rfl) ?_; clear ha a; intro a ha; refine wpList_nil ?_; replace ha := ha.sub (σ' := [(1, va1), (2, (.int .i64 a2)), (3, (.int .i64 a3)), (4, (.int .i64 a4)), (5, (.pointer (some ⟨b1, 0, none⟩))), (12, (.int .i64 i313)), (13, (.bool true)), (29, (.int .i64 i313)), (30, (.int .i64 a3)), (31, (.bool (decide (i313 ≤ a3))))]) ⟨rfl, rfl, rfl, rfl, rfl, rfl, rfl, rfl, rfl, rfl, trivial⟩; refine e_then ?_; refine wp_seq ?_; refine wp_seq ?_; refine wp_region_lit ?_
          refine op_g ha rfl (g_assign rfl) ?_; clear ha a; intro a ha; refine wpList_nil ?_; replace ha := ha.sub (σ' := [(1, va1), (2, (.int .i64 a2)), (3, (.int .i64 a3)), (4, (.int .i64 a4)), (5, (.pointer (some ⟨b1, 0, none⟩))), (12, (.int .i64 i313)), (13, (.bool true)), (14, (.int .i64 0)), (29, (.int .i64 i313)), (30, (.int .i64 a3)), (31, (.bool (decide (i313 ≤ a3))))]) ⟨rfl, rfl, rfl, rfl, rfl, rfl, rfl, rfl, rfl, rfl, rfl, trivial⟩; refine e_then ?_; obtain ⟨o768, ho769, hK770⟩ := bnd_some hF
          obtain ⟨n771, hn772⟩ := lp_some ho769; clear ho769
          refine c_loop (fun a w => ∃ (t767 : Bool), Fr 88 [(1, va1), (2, (.int .i64 a2)), (3, (.int .i64 a3)), (4, (.int .i64 a4)), (5, (.pointer (some ⟨b1, 0, none⟩))), (12, (.int .i64 i313)), (13, (.bool t767)), (29, (.int .i64 i313)), (30, (.int .i64 a3)), (31, (.bool (decide (i313 ≤ a3))))] a ∧ Chg [] W w ∧ Bx w b1 [va0_0] 29 ∧ Zn W (b1 : Int) ∧ o768 = .inl t767) (fun n a w => ∃ (t694 : Bool) (i695 : Int), Fr 88 [(1, va1), (2, (.int .i64 a2)), (3, (.int .i64 a3)), (4, (.int .i64 a4)), (5, (.pointer (some ⟨b1, 0, none⟩))), (12, (.int .i64 i313)), (13, (.bool t694)), (14, (.int .i64 i695)), (29, (.int .i64 i313)), (30, (.int .i64 a3)), (31, (.bool (decide (i313 ≤ a3))))] a ∧ Chg [] W w ∧ InI i695 ∧ Bx w b1 [va0_0] 29 ∧ Zn W (b1 : Int) ∧ lpN (fun s => F_spec_l26Try_l2 a0_0 a1 a2 i313 s.1 s.2) n (t694, i695) = some o768) n771 ⟨true, 0, ha.sub ⟨rfl, rfl, rfl, rfl, rfl, rfl, rfl, rfl, rfl, rfl, rfl, trivial⟩, hE315, (show InI 0 from by decide), hB311, z312, hn772⟩ ?_ ?_
          · rintro m776 a w691 ⟨t694, i695, ha, hE697, hI696, hB692, z693, hF⟩
            cases m776 with
            | zero => exact (lpN_zero hF).elim
            | succ m776 =>
              obtain ⟨z775, hF, hN774⟩ := lpN_succ hF
              have hF : F_spec_l26Try_l2 a0_0 a1 a2 i313 t694 i695 = some z775 := hF; unfold F_spec_l26Try_l2 at hF
              refine wp_seq ?_; refine wp_seq ?_; refine wp_region_lit ?_; refine op_g ha rfl (g_move rfl) ?_; clear ha a; intro a ha; refine op_g ha rfl (g_field0 st29_0 rfl) ?_; clear ha a; intro a ha; refine op_g ha rfl (g_load Tryd.isAgg27 rfl (hB692.cell rfl)) ?_; clear ha a; intro a ha; refine op_g ha rfl (g_move rfl) ?_; clear ha a; intro a ha; obtain ⟨x777, g778, gx779, hF⟩ := idx_some hF
              obtain ⟨p780, cs781, f782, hf783, hpb784, hat785, hr786, hi787⟩ := ha0_0.at g778 gx779
              obtain ⟨v788, rfl, h789⟩ := hr786
              have h789 : Ro Rp.int W f782 v788 x777 := h789
              have q791 := (Pv.mono (Pv.par (fun _ h => List.mem_append_left _ h)) hf783 : Pv (fa0_0 ++ fa1) W.heap.size f782)
              refine op_g ha rfl (hi787.gives sl27 rfl rfl) ?_; clear ha a; intro a ha; refine op_g ha rfl (g_load0 hE697 Tryd.isAgg32 rfl hat785.one) ?_; clear ha a; intro a ha; refine op_g ha rfl (g_lenR sl32.und h789 rfl) ?_; clear ha a; intro a ha; refine op_g ha rfl (g_lss rfl rfl) ?_; clear ha a; intro a ha; refine wpList_nil ?_; replace ha := ha.sub (σ' := [(1, va1), (2, (.int .i64 a2)), (3, (.int .i64 a3)), (4, (.int .i64 a4)), (5, (.pointer (some ⟨b1, 0, none⟩))), (12, (.int .i64 i313)), (13, (.bool t694)), (14, (.int .i64 i695)), (29, (.int .i64 i313)), (30, (.int .i64 a3)), (31, (.bool (decide (i313 ≤ a3)))), (42, (.bool (decide (i695 < (x777.length : Int)))))]) ⟨rfl, rfl, rfl, rfl, rfl, rfl, rfl, rfl, rfl, rfl, rfl, rfl, trivial⟩
              refine e_then ?_; refine c_cond (i695 < (x777.length : Int)) ha rfl (decide_eq_true_iff) (fun hp792 => ?_) (fun hp792 => ?_)
              · replace hF := if_t hp792 hF
                refine wp_skip ?_; refine e_then ?_; refine wp_seq ?_; refine wp_block ?_; refine wp_region_lit ?_; (iterate 2 refine op_g ha rfl (g_move rfl) ?_; clear ha a; intro a ha)
                by_cases hp793 : t694 = true
                · replace hF := if_t hp793 hF
                  rw [show (t694) = true from (Iff.rfl).2 hp793] at ha
                  refine op_want (yields ha rfl rfl) ?_; refine op_g ha rfl (g_move rfl) ?_; clear ha a; intro a ha; refine op_want (yields ha rfl rfl) ?_; refine op_g ha rfl (g_field0 st29_0 rfl) ?_; clear ha a; intro a ha; refine op_want (yields ha rfl rfl) ?_; refine op_g ha rfl (g_load Tryd.isAgg27 rfl (hB692.cell rfl)) ?_; clear ha a; intro a ha; refine op_want (yields ha rfl rfl) ?_; refine op_g ha rfl (g_move rfl) ?_; clear ha a; intro a ha; refine op_want (yields ha rfl rfl) ?_; obtain ⟨x794, g795, gx796, hF⟩ := idx_some hF
                  obtain ⟨p797, cs798, f799, hf800, hpb801, hat802, hr803, hi804⟩ := ha0_0.at g795 gx796
                  obtain ⟨v805, rfl, h806⟩ := hr803
                  have h806 : Ro Rp.int W f799 v805 x794 := h806
                  have q808 := (Pv.mono (Pv.par (fun _ h => List.mem_append_left _ h)) hf800 : Pv (fa0_0 ++ fa1) W.heap.size f799)
                  refine op_g ha rfl (hi804.gives sl27 rfl rfl) ?_; clear ha a; intro a ha; refine op_want (yields ha rfl rfl) ?_; refine op_g ha rfl (g_load0 hE697 Tryd.isAgg32 rfl hat802.one) ?_; clear ha a; intro a ha; refine op_want (yields ha rfl rfl) ?_; refine op_g ha rfl (g_move rfl) ?_; clear ha a; intro a ha; refine op_want (yields ha rfl rfl) ?_; obtain ⟨x809, g810, gx811, hF⟩ := idx_some hF
                  obtain ⟨p812, cs813, f814, hf815, hpb816, hat817, hr818, hi819⟩ := h806.at g810 gx811
                  obtain ⟨rfl, hI820, rfl⟩ := hr818
                  refine op_g ha rfl (hi819.gives sl32 rfl rfl) ?_; clear ha a; intro a ha; refine op_want (yields ha rfl rfl) ?_; refine op_g ha rfl (g_load0 hE697 Tryd.isAgg2 rfl hat817.one) ?_; clear ha a; intro a ha; refine op_want (yields ha rfl rfl) ?_; obtain ⟨x821, g822, gx823, hF⟩ := idx_some hF
                  obtain ⟨p824, cs825, f826, hf827, hpb828, hat829, hr830, hi831⟩ := ha1.at g822 gx823
                  obtain ⟨rfl, hI832, rfl⟩ := hr830
                  refine op_g ha rfl (hi831.gives sl32 rfl rfl) ?_; clear ha a; intro a ha; refine op_want (yields ha rfl rfl) ?_; refine op_g ha rfl (g_load0 hE697 Tryd.isAgg2 rfl hat829.one) ?_; clear ha a; intro a ha; refine op_want (yields ha rfl rfl) ?_; refine op_g ha rfl (g_move rfl) ?_; clear ha a; intro a ha; refine op_want (yields ha rfl rfl) ?_; refine op_g ha rfl (g_neq rfl rfl) ?_; clear ha a; intro a ha; refine op_g ha rfl (g_pick rfl rfl) ?_; clear ha a; intro a ha; refine op_g ha rfl (g_assign rfl) ?_; clear ha a; intro a ha; refine wpList_nil ?_; replace ha := ha.sub (σ' := [(1, va1), (2, (.int .i64 a2)), (3, (.int .i64 a3)), (4, (.int .i64 a4)), (5, (.pointer (some ⟨b1, 0, none⟩))), (12, (.int .i64 i313)), (13, (.bool (decide (x821 ≠ i313)))), (14, (.int .i64 i695)), (29, (.int .i64 i313)), (30, (.int .i64 a3)), (31, (.bool (decide (i313 ≤ a3)))), (47, va1), (48, (.pointer (some ⟨b1, 0, none⟩))), (49, va0_0), (50, (.int .i64 a2)), (51, (.pointer (some p797))), (52, v805), (53, (.int .i64 i695)), (54, (.pointer (some p812))), (55, (.int .i64 x809)), (56, (.pointer (some p824))), (57, (.int .i64 x821)), (58, (.int .i64 i313)), (59, (.bool (decide (x821 ≠ i313))))]) ⟨rfl, rfl, rfl, rfl, rfl, rfl, rfl, rfl, rfl, rfl, rfl, rfl, rfl, rfl, rfl, rfl, rfl, rfl, rfl, rfl, rfl, rfl, rfl, rfl, trivial⟩
                  refine e_blk ?_; refine e_then ?_; refine wp_region_lit ?_; refine op_g ha rfl (g_move rfl) ?_; clear ha a; intro a ha; obtain ⟨hI833, hF⟩ := ck_some hF; refine op_g ha rfl (g_add rfl rfl hI833) ?_; clear ha a; intro a ha; refine op_g ha rfl (g_assign rfl) ?_; clear ha a; intro a ha; refine wpList_nil ?_; replace ha := ha.sub (σ' := [(1, va1), (2, (.int .i64 a2)), (3, (.int .i64 a3)), (4, (.int .i64 a4)), (5, (.pointer (some ⟨b1, 0, none⟩))), (12, (.int .i64 i313)), (13, (.bool (decide (x821 ≠ i313)))), (14, (.int .i64 (i695 + 1))), (29, (.int .i64 i313)), (30, (.int .i64 a3)), (31, (.bool (decide (i313 ≤ a3)))), (47, va1), (48, (.pointer (some ⟨b1, 0, none⟩))), (49, va0_0), (50, (.int .i64 a2)), (51, (.pointer (some p797))), (52, v805), (53, (.int .i64 i695)), (54, (.pointer (some p812))), (55, (.int .i64 x809)), (56, (.pointer (some p824))), (57, (.int .i64 x821)), (58, (.int .i64 i313)), (59, (.bool (decide (x821 ≠ i313))))]) ⟨rfl, rfl, rfl, rfl, rfl, rfl, rfl, rfl, rfl, rfl, rfl, rfl, rfl, rfl, rfl, rfl, rfl, rfl, rfl, rfl, rfl, rfl, rfl, rfl, trivial⟩
                  refine e_lq ?_; obtain rfl := Option.some.inj hF
                  exact ⟨_, Nat.lt_succ_self _, decide (x821 ≠ i313), i695 + 1, ha.sub ⟨rfl, rfl, rfl, rfl, rfl, rfl, rfl, rfl, rfl, rfl, rfl, trivial⟩, hE697, hI833, hB692, z693, hN774⟩
                replace hF := if_f hp793 hF
                rw [show (t694) = false from b_false (Iff.rfl) hp793] at ha
                (iterate 13 refine op_unwant ha rfl (yields ha rfl rfl) rfl ?_; clear ha a; intro a ha); refine op_g ha rfl (g_pick rfl rfl) ?_; clear ha a; intro a ha; refine op_g ha rfl (g_assign rfl) ?_; clear ha a; intro a ha; refine wpList_nil ?_; replace ha := ha.sub (σ' := [(1, va1), (2, (.int .i64 a2)), (3, (.int .i64 a3)), (4, (.int .i64 a4)), (5, (.pointer (some ⟨b1, 0, none⟩))), (12, (.int .i64 i313)), (13, (.bool false)), (14, (.int .i64 i695)), (29, (.int .i64 i313)), (30, (.int .i64 a3)), (31, (.bool (decide (i313 ≤ a3))))]) ⟨rfl, rfl, rfl, rfl, rfl, rfl, rfl, rfl, rfl, rfl, rfl, trivial⟩
                refine e_blk ?_; refine e_then ?_; refine wp_region_lit ?_; refine op_g ha rfl (g_move rfl) ?_; clear ha a; intro a ha; obtain ⟨hI835, hF⟩ := ck_some hF; refine op_g ha rfl (g_add rfl rfl hI835) ?_; clear ha a; intro a ha; refine op_g ha rfl (g_assign rfl) ?_; clear ha a; intro a ha; refine wpList_nil ?_; replace ha := ha.sub (σ' := [(1, va1), (2, (.int .i64 a2)), (3, (.int .i64 a3)), (4, (.int .i64 a4)), (5, (.pointer (some ⟨b1, 0, none⟩))), (12, (.int .i64 i313)), (13, (.bool false)), (14, (.int .i64 (i695 + 1))), (29, (.int .i64 i313)), (30, (.int .i64 a3)), (31, (.bool (decide (i313 ≤ a3))))]) ⟨rfl, rfl, rfl, rfl, rfl, rfl, rfl, rfl, rfl, rfl, rfl, trivial⟩
                refine e_lq ?_; obtain rfl := Option.some.inj hF
                exact ⟨_, Nat.lt_succ_self _, false, i695 + 1, ha.sub ⟨rfl, rfl, rfl, rfl, rfl, rfl, rfl, rfl, rfl, rfl, rfl, trivial⟩, hE697, hI835, hB692, z693, hN774⟩
              replace hF := if_f hp792 hF; refine wp_exit ?_; refine e_then_exit ?_; refine e_lq_eq ?_; obtain rfl := Option.some.inj hF
              exact ⟨t694, ha.sub ⟨rfl, rfl, rfl, rfl, rfl, rfl, rfl, rfl, rfl, rfl, trivial⟩, hE697, hB692, z693, (LK_inr hN774).symm⟩
          rintro a w764 ⟨t767, ha, hE773, hB765, z766, rfl⟩
          have hF : F_spec_l26Try_k3 a0_0 a1 a2 a3 a4 rc i313 t767 = some _ := hK770; clear hK770; unfold F_spec_l26Try_k3 at hF
          refine e_then ?_; refine wp_seq ?_; refine wp_seq ?_; refine wp_region_lit ?_; refine op_g ha rfl (g_move rfl) ?_; clear ha a; intro a ha; refine op_g ha rfl (g_not rfl) ?_; clear ha a; intro a ha; refine wpList_nil ?_; replace ha := ha.sub (σ' := [(1, va1), (2, (.int .i64 a2)), (3, (.int .i64 a3)), (4, (.int .i64 a4)), (5, (.pointer (some ⟨b1, 0, none⟩))), (12, (.int .i64 i313)), (29, (.int .i64 i313)), (30, (.int .i64 a3)), (31, (.bool (decide (i313 ≤ a3)))), (62, (.bool (!t767)))]) ⟨rfl, rfl, rfl, rfl, rfl, rfl, rfl, rfl, rfl, rfl, trivial⟩; refine e_then ?_; refine c_cond (¬ (t767 = true)) ha rfl (n_iff (Iff.rfl)) (fun hp837 => ?_) (fun hp837 => ?_)
          · replace hF := if_t hp837 hF
            refine wp_exit ?_; refine e_then_exit ?_; refine e_blk_eq ?_; refine e_then ?_; refine wp_region_lit ?_; refine op_g ha rfl (g_move rfl) ?_; clear ha a; intro a ha; obtain ⟨hI838, hF⟩ := ck_some hF; refine op_g ha rfl (g_add rfl rfl hI838) ?_; clear ha a; intro a ha; refine op_g ha rfl (g_assign rfl) ?_; clear ha a; intro a ha; refine wpList_nil ?_; replace ha := ha.sub (σ' := [(1, va1), (2, (.int .i64 a2)), (3, (.int .i64 a3)), (4, (.int .i64 a4)), (5, (.pointer (some ⟨b1, 0, none⟩))), (12, (.int .i64 (i313 + 1))), (29, (.int .i64 i313)), (30, (.int .i64 a3)), (31, (.bool (decide (i313 ≤ a3))))]) ⟨rfl, rfl, rfl, rfl, rfl, rfl, rfl, rfl, rfl, trivial⟩
            refine e_lq ?_; obtain rfl := Option.some.inj hF
            exact ⟨_, Nat.lt_succ_self _, i313 + 1, ha.sub ⟨rfl, rfl, rfl, rfl, rfl, rfl, trivial⟩, hE773, hI838, hB765, z766, hN619⟩
          replace hF := if_f hp837 hF; refine wp_skip ?_; refine e_then ?_; refine wp_seq ?_; refine wp_region_lit ?_; refine op_g ha rfl (g_move rfl) ?_; clear ha a; intro a ha; obtain ⟨x840, hc841, hF⟩ := cal_some hF
          refine o_call ha rfl rfl Tryd.call70 (W_spec_l1Copy (ha1.ext hE773) hc841) ?_; clear ha a; rintro v842 w843 ⟨b845, h846, z847, hx844⟩ a ha
          have q849 := Nq.new hB765.fpb z847
          have q850 := Nq.madeO z847 hB765.bi
          replace hB765 := hB765.ext hx844
          have hE851 := Ext.trans hE773 hx844
          have q852 := Zn.upD z847 hE773
          refine op_g ha rfl (g_assign rfl) ?_; clear ha a; intro a ha; refine wpList_nil ?_; replace ha := ha.sub (σ' := [(1, va1), (2, (.int .i64 a2)), (3, (.int .i64 a3)), (4, (.int .i64 a4)), (5, (.pointer (some ⟨b1, 0, none⟩))), (12, (.int .i64 i313)), (15, v842), (29, (.int .i64 i313)), (30, (.int .i64 a3)), (31, (.bool (decide (i313 ≤ a3))))]) ⟨rfl, rfl, rfl, rfl, rfl, rfl, rfl, rfl, rfl, rfl, trivial⟩; refine e_then ?_; refine wp_seq ?_; refine wp_region_lit ?_; (iterate 3 refine op_g ha rfl (g_move rfl) ?_; clear ha a; intro a ha); obtain ⟨x853, g854, gx855, hF⟩ := idx_some hF
          obtain ⟨p856, cs857, f858, hf859, hpb860, hat861, hr862, hi863⟩ := h846.at g854 gx855
          obtain ⟨rfl, hI864, rfl⟩ := hr862
          refine op_g ha rfl (hi863.gives sl32 rfl rfl) ?_; clear ha a; intro a ha
          refine o_storeE (f := []) (q := i313) ha Tryd.sizeOf2 rfl rfl rfl h846 hi863 ⟨rfl, hI314, rfl⟩ (Nq.nil _) ?_; intro w865 fs866 h867 hc868 hs869
          obtain rfl := Subst.nil hs869
          replace hB765 := hB765.nq hc868 q849
          have hE870 := Ext.then hE851 hc868 (Zn.bl q852)
          refine wpList_nil ?_; replace ha := ha.sub (σ' := [(1, va1), (2, (.int .i64 a2)), (3, (.int .i64 a3)), (4, (.int .i64 a4)), (5, (.pointer (some ⟨b1, 0, none⟩))), (12, (.int .i64 i313)), (15, v842), (29, (.int .i64 i313)), (30, (.int .i64 a3)), (31, (.bool (decide (i313 ≤ a3))))]) ⟨rfl, rfl, rfl, rfl, rfl, rfl, rfl, rfl, rfl, rfl, trivial⟩; refine e_then ?_; refine wp_seq ?_; refine wp_region_lit ?_; refine op_g ha rfl (g_move rfl) ?_; clear ha a; intro a ha; refine op_g ha rfl (g_assign rfl) ?_; clear ha a; intro a ha; refine wpList_nil ?_; replace ha := ha.sub (σ' := [(1, va1), (2, (.int .i64 a2)), (3, (.int .i64 a3)), (4, (.int .i64 a4)), (5, (.pointer (some ⟨b1, 0, none⟩))), (12, (.int .i64 i313)), (15, v842), (16, (.int .i64 a3)), (29, (.int .i64 i313)), (30, (.int .i64 a3)), (31, (.bool (decide (i313 ≤ a3))))]) ⟨rfl, rfl, rfl, rfl, rfl, rfl, rfl, rfl, rfl, rfl, rfl, trivial⟩
          refine e_then ?_; obtain ⟨o874, ho875, hK876⟩ := bnd_some hF
          have hF := ho875; clear ho875
          refine s_cut (fun a w => ∃ (i883 : Int), Fr 88 [(1, va1), (2, (.int .i64 a2)), (3, (.int .i64 a3)), (4, (.int .i64 a4)), (5, (.pointer (some ⟨b1, 0, none⟩))), (12, (.int .i64 i313)), (15, v842), (16, (.int .i64 i883)), (29, (.int .i64 i313)), (30, (.int .i64 a3)), (31, (.bool (decide (i313 ≤ a3))))] a ∧ Chg [] W w ∧ InI i883 ∧ Bx w b1 [va0_0] 29 ∧ Zn W (b1 : Int) ∧ Ow Rp.int 2 true w [] b845 v842 (x840.set ((a2 : Int).toNat) i313) ∧ Zn W b845 ∧ Nq ([b1]) b845 ∧ Nq (bl b845 ++ []) (b1 : Int) ∧ o874 = .inl i883) ?_ ?_
          · skip
            refine wp_seq ?_; refine wp_region_lit ?_; (iterate 2 refine op_g ha rfl (g_move rfl) ?_; clear ha a; intro a ha); refine op_g ha rfl (g_eql rfl rfl) ?_; clear ha a; intro a ha; refine wpList_nil ?_; replace ha := ha.sub (σ' := [(1, va1), (2, (.int .i64 a2)), (3, (.int .i64 a3)), (4, (.int .i64 a4)), (5, (.pointer (some ⟨b1, 0, none⟩))), (12, (.int .i64 i313)), (15, v842), (16, (.int .i64 a3)), (29, (.int .i64 i313)), (30, (.int .i64 a3)), (31, (.bool (decide (i313 ≤ a3)))), (72, (.bool (decide (i313 = a3))))]) ⟨rfl, rfl, rfl, rfl, rfl, rfl, rfl, rfl, rfl, rfl, rfl, rfl, trivial⟩; refine e_then ?_
            refine c_cond (i313 = a3) ha rfl (decide_eq_true_iff) (fun hp888 => ?_) (fun hp888 => ?_)
            · replace hF := if_t hp888 hF
              refine wp_region_lit ?_; refine op_g ha rfl (g_move rfl) ?_; clear ha a; intro a ha; obtain ⟨hI889, hF⟩ := ck_some hF; refine op_g ha rfl (g_add rfl rfl hI889) ?_; clear ha a; intro a ha; refine op_g ha rfl (g_assign rfl) ?_; clear ha a; intro a ha; refine wpList_nil ?_; replace ha := ha.sub (σ' := [(1, va1), (2, (.int .i64 a2)), (3, (.int .i64 a3)), (4, (.int .i64 a4)), (5, (.pointer (some ⟨b1, 0, none⟩))), (12, (.int .i64 i313)), (15, v842), (16, (.int .i64 (a3 + 1))), (29, (.int .i64 i313)), (30, (.int .i64 a3)), (31, (.bool (decide (i313 ≤ a3))))]) ⟨rfl, rfl, rfl, rfl, rfl, rfl, rfl, rfl, rfl, rfl, rfl, trivial⟩
              refine e_sq ?_; obtain rfl := Option.some.inj hF
              exact ⟨a3 + 1, ha.sub ⟨rfl, rfl, rfl, rfl, rfl, rfl, rfl, rfl, rfl, rfl, rfl, trivial⟩, hE870, hI889, hB765, z766, h867, q852, q849, q850, rfl⟩
            replace hF := if_f hp888 hF; refine wp_skip ?_; refine e_sq ?_; obtain rfl := Option.some.inj hF
            exact ⟨a3, ha.sub ⟨rfl, rfl, rfl, rfl, rfl, rfl, rfl, rfl, rfl, rfl, rfl, trivial⟩, hE870, ha3, hB765, z766, h867, q852, q849, q850, rfl⟩
          rintro a w877 ⟨i883, ha, hE887, hI884, hB878, z879, h881, z882, q885, q886, rfl⟩
          have hF : F_spec_l26Try_k4 a0_0 a2 a4 rc i313 x840 i883 = some _ := hK876; clear hK876; unfold F_spec_l26Try_k4 at hF
          refine wp_seq ?_; refine wp_region_lit ?_; refine op_g ha rfl (g_loadA (cs := [va0_0]) Tryd.isAgg29 Tryd.sizeOf29 rfl (by simp) hB878.all) ?_; clear ha a; intro a ha; (iterate 2 refine op_g ha rfl (g_move rfl) ?_; clear ha a; intro a ha); obtain ⟨hI891, hF⟩ := ck_some hF; refine op_g ha rfl (g_add rfl rfl hI891) ?_; clear ha a; intro a ha; (iterate 2 refine op_g ha rfl (g_move rfl) ?_; clear ha a; intro a ha)
          obtain ⟨fp893, hro894, hs895⟩ := h881.roF
          obtain ⟨x896, hc897, hF⟩ := cal_some hF
          refine o_call ha rfl rfl Tryd.call65 (ih (ha0_0.ext hE887) hro894 hI891 hI884 ha4 hc897) ?_; clear ha a; rintro v898 w899 ⟨u901, u902, fp903, rfl, h904, pv905, rfl, hx900⟩ a ha
          have q907 := Nq.rd pv905 (Nq.append (Nq.new ha0_0.bnd z879) (Nq.mono q886 hs895)) hB878.bi
          have q908 := (Pv.call pv905 (Pv.app (Pv.par (fun _ h => List.mem_append_left _ h)) (Pv.mono (Pv.own z882 (zf_nil _)) hs895)) hE887.size : Pv (fa0_0 ++ fa1) W.heap.size fp903)
          replace hB878 := hB878.ext hx900
          replace h881 := h881.ext hx900
          have hE909 := Ext.trans hE887 hx900
          refine op_g ha rfl (g_move rfl) ?_; clear ha a; intro a ha; (iterate 2 refine op_g ha rfl (g_extract rfl rfl) ?_; clear ha a; intro a ha); (iterate 2 refine op_g ha rfl (g_assign rfl) ?_; clear ha a; intro a ha); refine wpList_nil ?_; replace ha := ha.sub (σ' := [(1, va1), (2, (.int .i64 a2)), (3, (.int .i64 a3)), (4, (.int .i64 a4)), (5, (.pointer (some ⟨b1, 0, none⟩))), (12, (.int .i64 i313)), (17, u901), (18, (.bool x896.2)), (29, (.int .i64 i313)), (30, (.int .i64 a3)), (31, (.bool (decide (i313 ≤ a3))))]) ⟨rfl, rfl, rfl, rfl, rfl, rfl, rfl, rfl, rfl, rfl, rfl, trivial⟩; refine e_then ?_
          refine wp_seq ?_; refine wp_region_lit ?_; refine op_g ha rfl (g_move rfl) ?_; clear ha a; intro a ha; refine wpList_nil ?_; replace ha := ha.sub (σ' := [(1, va1), (2, (.int .i64 a2)), (3, (.int .i64 a3)), (4, (.int .i64 a4)), (5, (.pointer (some ⟨b1, 0, none⟩))), (12, (.int .i64 i313)), (17, u901), (29, (.int .i64 i313)), (30, (.int .i64 a3)), (31, (.bool (decide (i313 ≤ a3)))), (85, (.bool x896.2))]) ⟨rfl, rfl, rfl, rfl, rfl, rfl, rfl, rfl, rfl, rfl, rfl, trivial⟩; refine e_then ?_; refine c_cond (x896.2 = true) ha rfl (Iff.rfl) (fun hp910 => ?_) (fun hp910 => ?_)
          · replace hF := if_t hp910 hF
            refine wp_seq ?_; refine wp_region_lit ?_; refine op_g ha rfl (g_move rfl) ?_; clear ha a; intro a ha; (iterate 2 refine op_g ha rfl (g_assign rfl) ?_; clear ha a; intro a ha); refine wpList_nil ?_; replace ha := ha.sub (σ' := [(10, u901), (11, (.bool true))]) ⟨rfl, rfl, trivial⟩; refine e_then ?_; refine wp_ret ?_; refine e_blk_ret ?_; refine e_then_ret ?_; refine e_lq_ret ?_; refine e_then_ret ?_; obtain rfl := Option.some.inj hF
            have e911 := LK_inr hN619; subst e911
            have e912 := BK_inr hK615; subst e912
            exact f_ret2 ha rfl rfl rfl ⟨_, _, _, rfl, h904, (q908), rfl, hE909⟩
          replace hF := if_f hp910 hF; refine wp_skip ?_; refine e_blk ?_; refine e_then ?_; refine wp_region_lit ?_; refine op_g ha rfl (g_move rfl) ?_; clear ha a; intro a ha; obtain ⟨hI913, hF⟩ := ck_some hF; refine op_g ha rfl (g_add rfl rfl hI913) ?_; clear ha a; intro a ha; refine op_g ha rfl (g_assign rfl) ?_; clear ha a; intro a ha; refine wpList_nil ?_; replace ha := ha.sub (σ' := [(1, va1), (2, (.int .i64 a2)), (3, (.int .i64 a3)), (4, (.int .i64 a4)), (5, (.pointer (some ⟨b1, 0, none⟩))), (12, (.int .i64 (i313 + 1))), (29, (.int .i64 i313)), (30, (.int .i64 a3)), (31, (.bool (decide (i313 ≤ a3))))]) ⟨rfl, rfl, rfl, rfl, rfl, rfl, rfl, rfl, rfl, trivial⟩
          refine e_lq ?_; obtain rfl := Option.some.inj hF
          exact ⟨_, Nat.lt_succ_self _, i313 + 1, ha.sub ⟨rfl, rfl, rfl, rfl, rfl, rfl, trivial⟩, hE909, hI913, hB878, z879, hN619⟩
        replace hF := if_f hp623 hF; refine wp_exit ?_; refine e_then_exit ?_; refine e_lq_eq ?_; obtain rfl := Option.some.inj hF
        exact ⟨ha.sub ⟨rfl, trivial⟩, hE315, (LK_inr hN619).symm⟩
      replace hF := if_f hp622 hF
      rw [show (decide (i313 < a4)) = false from b_false (decide_eq_true_iff) hp622] at ha
      (iterate 3 refine op_unwant ha rfl (yields ha rfl rfl) rfl ?_; clear ha a; intro a ha); refine op_g ha rfl (g_pick rfl rfl) ?_; clear ha a; intro a ha; refine wpList_nil ?_; replace ha := ha.sub (σ' := [(1, va1), (2, (.int .i64 a2)), (3, (.int .i64 a3)), (4, (.int .i64 a4)), (5, (.pointer (some ⟨b1, 0, none⟩))), (12, (.int .i64 i313)), (32, (.bool false))]) ⟨rfl, rfl, rfl, rfl, rfl, rfl, rfl, trivial⟩; refine e_then ?_; refine c_false ha rfl ?_; refine wp_exit ?_; refine e_then_exit ?_; refine e_lq_eq ?_; obtain rfl := Option.some.inj hF
      exact ⟨ha.sub ⟨rfl, trivial⟩, hE315, (LK_inr hN619).symm⟩
  rintro a w612 ⟨ha, hE618, rfl⟩
  have hF : F_spec_l26Try_k5 a1 = some _ := hK615; clear hK615; unfold F_spec_l26Try_k5 at hF
  refine e_then ?_; refine wp_seq ?_; refine wp_region_lit ?_; refine op_g ha rfl (g_move rfl) ?_; clear ha a; intro a ha; (iterate 2 refine op_g ha rfl (g_assign rfl) ?_; clear ha a; intro a ha); refine wpList_nil ?_; replace ha := ha.sub (σ' := [(10, va1), (11, (.bool false))]) ⟨rfl, rfl, trivial⟩; refine e_then ?_; refine wp_ret ?_; obtain rfl := Option.some.inj hF
  exact f_ret2 ha rfl rfl rfl ⟨_, _, _, rfl, (ha1.ext hE618), (Pv.par (fun _ h => List.mem_append_right _ h)), rfl, hE618⟩
theorem W_spec_l26Try_n (n : Nat) : ∀ {W : World} {va0_0 : Value} {fa0_0 : List Nat} {a0_0 : (List (List Int))} (ha0_0 : Ro (Rp.sl 2 Rp.int) W fa0_0 va0_0 a0_0) {va1 : Value} {fa1 : List Nat} {a1 : (List Int)} (ha1 : Ro Rp.int W fa1 va1 a1) {a2 : Int} (ha2 : InI a2) {a3 : Int} (ha3 : InI a3) {a4 : Int} (ha4 : InI a4) {r : ((List Int) × Bool)} (hF : itN (fun (rc : ((List (List Int)) × (List Int) × Int × Int × Int) → Option ((List Int) × Bool)) a => F_spec_l26Try_body (fun z0 z1 z2 z3 z4 => rc (z0, z1, z2, z3, z4)) a.1 a.2.1 a.2.2.1 a.2.2.2.1 a.2.2.2.2) n (a0_0, a1, a2, a3, a4) = some r),
    Calls Tryd.prog 65 [.agg #[va0_0], va1, .int .i64 a2, .int .i64 a3, .int .i64 a4].toArray W (Ret fun u w' => ∃ (u0 : Value) (u1 : Value) (fp_u0 : List Nat), u = .tuple #[u0, u1] ∧ Ro Rp.int w' fp_u0 u0 r.1 ∧ Pv (fa0_0 ++ fa1) W.heap.size fp_u0 ∧ u1 = .bool r.2 ∧ Ext W w') := by
  induction n with
  | zero => intro W va0_0 fa0_0 a0_0 ha0_0 va1 fa1 a1 ha1 a2 ha2 a3 ha3 a4 ha4 r hF; cases hF
  | succ n ih => intro W va0_0 fa0_0 a0_0 ha0_0 va1 fa1 a1 ha1 a2 ha2 a3 ha3 a4 ha4 r hF; exact W_spec_l26Try_step (rc := fun z0 z1 z2 z3 z4 => itN (fun (rc : ((List (List Int)) × (List Int) × Int × Int × Int) → Option ((List Int) × Bool)) a => F_spec_l26Try_body (fun z0 z1 z2 z3 z4 => rc (z0, z1, z2, z3, z4)) a.1 a.2.1 a.2.2.1 a.2.2.2.1 a.2.2.2.2) n (z0, z1, z2, z3, z4)) @ih ha0_0 ha1 ha2 ha3 ha4 hF
theorem W_spec_l26Try {W : World} {va0_0 : Value} {fa0_0 : List Nat} {a0_0 : (List (List Int))} (ha0_0 : Ro (Rp.sl 2 Rp.int) W fa0_0 va0_0 a0_0) {va1 : Value} {fa1 : List Nat} {a1 : (List Int)} (ha1 : Ro Rp.int W fa1 va1 a1) {a2 : Int} (ha2 : InI a2) {a3 : Int} (ha3 : InI a3) {a4 : Int} (ha4 : InI a4) {r : ((List Int) × Bool)} (hF : F_spec_l26Try a0_0 a1 a2 a3 a4 = some r) :
    Calls Tryd.prog 65 [.agg #[va0_0], va1, .int .i64 a2, .int .i64 a3, .int .i64 a4].toArray W (Ret fun u w' => ∃ (u0 : Value) (u1 : Value) (fp_u0 : List Nat), u = .tuple #[u0, u1] ∧ Ro Rp.int w' fp_u0 u0 r.1 ∧ Pv (fa0_0 ++ fa1) W.heap.size fp_u0 ∧ u1 = .bool r.2 ∧ Ext W w') := by
  obtain ⟨n, hn⟩ := fixO_some hF
  exact W_spec_l26Try_n n ha0_0 ha1 ha2 ha3 ha4 hn
set_option maxHeartbeats 2000000 in
theorem W_spec_l26Best {W : World} {va0_0 : Value} {fa0_0 : List Nat} {a0_0 : (List (List Int))} (ha0_0 : Ro (Rp.sl 2 Rp.int) W fa0_0 va0_0 a0_0) {r : ((List Int) × Int)} (hF : F_spec_l26Best a0_0 = some r) :
    Calls Tryd.prog 31 [.agg #[va0_0]].toArray W (Ret fun u w' => ∃ (u0 : Value) (u1 : Value) (fp_u0 : List Nat), u = .tuple #[u0, u1] ∧ Ro Rp.int w' fp_u0 u0 r.1 ∧ Pv (fa0_0) W.heap.size fp_u0 ∧ (u1 = .int .i64 r.2 ∧ InI r.2) ∧ Ext W w') := by
  refine f_enter Tryd.func31 rfl Tryd.ntmps31 rfl ?_
  intro a ha
  replace ha : Fr 22 [(0, (.agg #[va0_0]))] a := ha
  have hE : Chg [] W W := Chg.refl _ _
  unfold F_spec_l26Best at hF
  refine wp_seq ?_; refine wp_region_lit ?_
  refine o_box ha rfl rfl rfl ?_; clear ha a; intro b1 w2 hB3 hx4 hlo5 a ha
  have q6 := Zn.one hlo5
  have q7 := Zn.upD q6 hE
  have hE8 := Ext.trans hE hx4
  (iterate 2 refine op_g ha rfl (g_assign rfl) ?_; clear ha a; intro a ha); refine wpList_nil ?_; replace ha := ha.sub (σ' := [(1, (.pointer (some ⟨b1, 0, none⟩)))]) ⟨rfl, trivial⟩; refine e_then ?_; refine wp_seq ?_; refine wp_region_lit ?_; refine op_g ha rfl (g_assign rfl) ?_; clear ha a; intro a ha; refine wpList_nil ?_; refine e_then ?_; obtain ⟨o114, ho115, hK116⟩ := bnd_some hF
  obtain ⟨n117, hn118⟩ := lp_some ho115; clear ho115
  refine c_loop (fun a w => Fr 22 [] a ∧ Chg [] W w ∧ o114 = .inl ()) (fun n a w => ∃ (i63 : Int), Fr 22 [(1, (.pointer (some ⟨b1, 0, none⟩))), (4, (.int .i64 i63))] a ∧ Chg [] W w ∧ InI i63 ∧ Bx w b1 [va0_0] 29 ∧ Zn W (b1 : Int) ∧ lpN (fun s => F_spec_l26Best_l1 a0_0 s) n i63 = some o114) n117 ⟨0, ha.sub ⟨rfl, rfl, trivial⟩, hE8, (show InI 0 from by decide), hB3, q7, hn118⟩ ?_ ?_
  · rintro m122 a w60 ⟨i63, ha, hE65, hI64, hB61, z62, hF⟩
    cases m122 with
    | zero => exact (lpN_zero hF).elim
    | succ m122 =>
      obtain ⟨z121, hF, hN120⟩ := lpN_succ hF
      have hF : F_spec_l26Best_l1 a0_0 i63 = some z121 := hF; unfold F_spec_l26Best_l1 at hF
      refine wp_seq ?_; refine wp_block ?_; refine wp_seq ?_; refine d_region [0, 1, 2, 3, 4, 5, 6, 7, 8, 9, 10, 11] hmix ?_; refine u_g 0 rfl (by kernel_rfl) (want0 _) ha rfl (g_loadA (cs := [va0_0]) Tryd.isAgg29 Tryd.sizeOf29 rfl (by simp) hB61.all) ?_; clear ha a; intro a ha; refine u_g 1 rfl (by kernel_rfl) (want0 _) ha rfl (g_field0 st29_0 rfl) ?_; clear ha a; intro a ha; refine u_g 2 rfl (by kernel_rfl) (want0 _) ha rfl (g_load Tryd.isAgg27 rfl (hB61.cell rfl)) ?_; clear ha a; intro a ha; refine u_g 3 rfl (by kernel_rfl) (want0 _) ha rfl (g_lenR sl27.und ha0_0 rfl) ?_; clear ha a; intro a ha
      refine u_g 5 rfl (by kernel_rfl) (want0 _) ha rfl (g_move rfl) ?_; clear ha a; intro a ha
      refine u_only 4 rfl (by kernel_rfl) ?_; intro w123 hx124
      replace hB61 := hB61.ext hx124
      have hE125 := Ext.trans hE65 hx124
      obtain ⟨x126, hc127, hF⟩ := cal_some hF
      refine o_call ha rfl rfl Tryd.call66 (W_spec_l26None ha0_0.len hc127) ?_; clear ha a; rintro v128 w129 ⟨b131, h132, z133, hx130⟩ a ha
      have q135 := Nq.new hB61.fpb z133
      have q136 := Nq.madeO z133 hB61.bi
      replace hB61 := hB61.ext hx130
      have hE137 := Ext.trans hE125 hx130
      have q138 := Zn.upD z133 hE125
      refine wpList_nil (e_sq ?_)
      refine ⟨fun _ => hx130, ?_⟩
      refine u_only 6 rfl (by kernel_rfl) ?_; intro w139 hx140
      replace hB61 := hB61.ext hx140
      replace h132 := h132.ext hx140
      have hE141 := Ext.trans hE137 hx140
      obtain ⟨fp142, hro143, hs144⟩ := h132.roF
      obtain ⟨x145, hc146, hF⟩ := cal_some hF
      refine o_call ha rfl rfl Tryd.call65 (W_spec_l26Try (ha0_0.ext hE141) hro143 (show InI 0 from by decide) (show InI 0 from by decide) hI64 hc146) ?_; clear ha a; rintro v147 w148 ⟨u150, u151, fp152, rfl, h153, pv154, rfl, hx149⟩ a ha
      have q156 := Nq.rd pv154 (Nq.append (Nq.new ha0_0.bnd z62) (Nq.mono q136 hs144)) hB61.bi
      have q157 := (Pv.call pv154 (Pv.app (Pv.par (fun _ h => h)) (Pv.mono (Pv.own q138 (zf_nil _)) hs144)) hE141.size : Pv (fa0_0) W.heap.size fp152)
      replace hB61 := hB61.ext hx149
      replace h132 := h132.ext hx149
      have hE158 := Ext.trans hE141 hx149
      refine wpList_nil (e_sq ?_)
      refine ⟨fun _ => hx149, ?_⟩
      refine u_g 7 rfl (by kernel_rfl) (want0 _) ha rfl (g_move rfl) ?_; clear ha a; intro a ha; refine u_g 8 rfl (by kernel_rfl) (want0 _) ha rfl (g_extract rfl rfl) ?_; clear ha a; intro a ha; refine u_g 9 rfl (by kernel_rfl) (want0 _) ha rfl (g_extract rfl rfl) ?_; clear ha a; intro a ha; refine u_g 10 rfl (by kernel_rfl) (want0 _) ha rfl (g_assign rfl) ?_; clear ha a; intro a ha; refine u_g 11 rfl (by kernel_rfl) (want0 _) ha rfl (g_assign rfl) ?_; clear ha a; intro a ha
      refine u_done (by kernel_rfl) ?_; intro w159 hx160
      replace hB61 := hB61.ext hx160
      replace h132 := h132.ext hx160
      replace h153 := h153.ext hx160
      have hE161 := Ext.trans hE158 hx160
      replace ha := ha.sub (σ' := [(1, (.pointer (some ⟨b1, 0, none⟩))), (4, (.int .i64 i63)), (5, u150), (6, (.bool x145.2))]) ⟨rfl, rfl, rfl, rfl, trivial⟩; refine e_then ?_; refine wp_seq ?_; refine wp_region_lit ?_; refine op_g ha rfl (g_move rfl) ?_; clear ha a; intro a ha; refine wpList_nil ?_; replace ha := ha.sub (σ' := [(1, (.pointer (some ⟨b1, 0, none⟩))), (4, (.int .i64 i63)), (5, u150), (19, (.bool x145.2))]) ⟨rfl, rfl, rfl, rfl, trivial⟩; refine e_then ?_; refine c_cond (x145.2 = true) ha rfl (Iff.rfl) (fun hp162 => ?_) (fun hp162 => ?_)
      · replace hF := if_t hp162 hF
        refine wp_seq ?_; refine wp_region_lit ?_; (iterate 2 refine op_g ha rfl (g_move rfl) ?_; clear ha a; intro a ha); (iterate 2 refine op_g ha rfl (g_assign rfl) ?_; clear ha a; intro a ha); refine wpList_nil ?_; replace ha := ha.sub (σ' := [(2, u150), (3, (.int .i64 i63))]) ⟨rfl, rfl, trivial⟩; refine e_then ?_; refine wp_ret ?_; refine e_blk_ret ?_; refine e_then_ret ?_; refine e_lq_ret ?_; obtain rfl := Option.some.inj hF
        have e163 := LK_inr hN120; subst e163
        have e164 := BK_inr hK116; subst e164
        exact f_ret2 ha rfl rfl rfl ⟨_, _, _, rfl, h153, (q157), ⟨rfl, hI64⟩, hE161⟩
      replace hF := if_f hp162 hF; refine wp_skip ?_; refine e_blk ?_; refine e_then ?_; refine wp_region_lit ?_; refine op_g ha rfl (g_move rfl) ?_; clear ha a; intro a ha; obtain ⟨hI165, hF⟩ := ck_some hF; refine op_g ha rfl (g_add rfl rfl hI165) ?_; clear ha a; intro a ha; refine op_g ha rfl (g_assign rfl) ?_; clear ha a; intro a ha; refine wpList_nil ?_; replace ha := ha.sub (σ' := [(1, (.pointer (some ⟨b1, 0, none⟩))), (4, (.int .i64 (i63 + 1)))]) ⟨rfl, rfl, trivial⟩; refine e_lq ?_; obtain rfl := Option.some.inj hF
      exact ⟨_, Nat.lt_succ_self _, i63 + 1, ha.sub ⟨rfl, rfl, trivial⟩, hE161, hI165, hB61, z62, hN120⟩
  rintro a w113 ⟨ha, hE119, rfl⟩
  cases hK116
set_option maxHeartbeats 2000000 in
theorem W_spec_l26Without {W : World} {va0_0 : Value} {fa0_0 : List Nat} {a0_0 : (List (List Int))} (ha0_0 : Ro (Rp.sl 2 Rp.int) W fa0_0 va0_0 a0_0) {a1 : Int} (ha1 : InI a1) {r : (List (List Int))} (hF : F_spec_l26Without a0_0 a1 = some r) :
    Calls Tryd.prog 32 [.agg #[va0_0], .int .i64 a1].toArray W (Ret fun u w' => ∃ (u_0 : Value) (b_u_0 : Int) (fs_u_0 : List Nat), u = .agg #[u_0] ∧ Ow (Rp.sl 2 Rp.int) 32 true w' fs_u_0 b_u_0 u_0 r ∧ Zn W b_u_0 ∧ (∀ k ∈ fs_u_0, W.heap.size ≤ k) ∧ (bl b_u_0 ++ fs_u_0).Nodup ∧ Ext W w') := by
  refine f_enter Tryd.func32 rfl Tryd.ntmps32 rfl ?_
  intro a ha
  replace ha : Fr 64 [(0, (.agg #[va0_0])), (1, (.int .i64 a1))] a := ha
  have hE : Chg [] W W := Chg.refl _ _
  unfold F_spec_l26Without at hF
  refine wp_seq ?_; refine wp_region_lit ?_
  refine o_box ha rfl rfl rfl ?_; clear ha a; intro b1 w2 hB3 hx4 hlo5 a ha
  have q6 := Zn.one hlo5
  have q7 := Zn.upD q6 hE
  have hE8 := Ext.trans hE hx4
  refine o_alloc (cs := [(.slice none 0 0)]) ha rfl Tryd.zeroValue29 rfl ?_; clear ha a; intro b9 w10 hB11 hx12 hlo13 a ha
  have q14 := Zn.one hlo13
  have q15 := Nq.new hB3.fpb q14
  have q16 := Nq.made1 hlo13 hB3.bi
  have q17 := Zn.upD q14 hE8
  replace hB3 := hB3.ext hx12
  have hE18 := Ext.trans hE8 hx12
  refine wpList_nil ?_; replace ha := ha.sub (σ' := [(1, (.int .i64 a1)), (2, (.pointer (some ⟨b1, 0, none⟩))), (4, (.pointer (some ⟨b9, 0, none⟩)))]) ⟨rfl, rfl, rfl, trivial⟩; refine e_then ?_; refine wp_seq ?_; refine wp_region_lit ?_; refine op_g ha rfl (g_build (vs := []) (cells := #[(.slice none 0 0)]) rfl (by rfl)) ?_; clear ha a; intro a ha
  refine o_alloc (cs := [(.slice none 0 0)]) ha rfl Tryd.zeroValue29 rfl ?_; clear ha a; intro b19 w20 hB21 hx22 hlo23 a ha
  have q24 := Zn.one hlo23
  have q25 := Nq.new hB3.fpb q24
  have q26 := Nq.made1 hlo23 hB3.bi
  have q27 := Nq.new hB11.fpb q24
  have q28 := Nq.made1 hlo23 hB11.bi
  have q29 := Zn.upD q24 hE18
  replace hB3 := hB3.ext hx22
  replace hB11 := hB11.ext hx22
  have hE30 := Ext.trans hE18 hx22
  refine o_storeA (vs := [(.slice none 0 0)]) ha hB21 Tryd.sizeOf29 rfl rfl (by intro c hc; simp only [List.mem_cons, List.not_mem_nil, or_false] at hc; rcases hc with hc <;> subst hc <;> first | rfl | exact rfl) rfl ?_; intro w31 hB32 hc33
  replace hc33 := hc33.bl
  replace hB32 : Bx w31 b19 [(.slice none 0 0)] 29 := hB32
  replace hB3 := hB3.nq hc33 q25
  replace hB11 := hB11.nq hc33 q27
  have hE34 := Ext.then hE30 hc33 (Zn.bl q29)
  refine wpList_nil ?_; replace ha := ha.sub (σ' := [(1, (.int .i64 a1)), (2, (.pointer (some ⟨b1, 0, none⟩))), (4, (.pointer (some ⟨b9, 0, none⟩))), (5, (.pointer (some ⟨b19, 0, none⟩)))]) ⟨rfl, rfl, rfl, rfl, trivial⟩; refine e_then ?_; refine wp_seq ?_; refine wp_seq ?_; refine wp_region_lit ?_; refine op_g ha rfl (g_assign rfl) ?_; clear ha a; intro a ha; refine wpList_nil ?_; replace ha := ha.sub (σ' := [(1, (.int .i64 a1)), (2, (.pointer (some ⟨b1, 0, none⟩))), (4, (.pointer (some ⟨b9, 0, none⟩))), (5, (.pointer (some ⟨b19, 0, none⟩))), (6, (.int .i64 0))]) ⟨rfl, rfl, rfl, rfl, rfl, trivial⟩
  refine e_then ?_; obtain ⟨o1418, ho1419, hK1420⟩ := bnd_some hF
  obtain ⟨n1421, hn1422⟩ := lp_some ho1419; clear ho1419
  obtain ⟨b1425, hb1425⟩ : ∃ b : Int, b = -1 := ⟨_, rfl⟩
  have h1424 : Ow (Rp.sl 2 Rp.int) 32 true w31 [] b1425 (.slice none 0 0) [] := Ow.nil (by omega)
  have q1426 := (.inl (by omega) : Zn w31 b1425)
  have q1427 := Nq.new hB3.fpb q1426
  have q1428 := Nq.madeO q1426 hB3.bi
  have q1429 := Nq.new hB11.fpb q1426
  have q1430 := Nq.madeO q1426 hB11.bi
  have q1431 := Nq.new hB32.fpb q1426
  have q1432 := Nq.madeO q1426 hB32.bi
  have q1433 := Zn.upD q1426 hE34
  refine c_loop (fun a w => ∃ (l1409 : (List (List Int))) (fs1406 : List Nat) (v1410 : Value) (b1411 : Int), Fr 64 [(4, (.pointer (some ⟨b9, 0, none⟩))), (5, (.pointer (some ⟨b19, 0, none⟩)))] a ∧ Chg [] W w ∧ Bx w b9 [(.slice none 0 0)] 29 ∧ Zn W (b9 : Int) ∧ Bx w b19 [v1410] 29 ∧ Zn W (b19 : Int) ∧ Ow (Rp.sl 2 Rp.int) 32 true w fs1406 b1411 v1410 l1409 ∧ Zn W b1411 ∧ (∀ k ∈ fs1406, W.heap.size ≤ k) ∧ (bl b1411 ++ fs1406).Nodup ∧ Nq ([b9]) (b19 : Int) ∧ Nq ([b9]) b1411 ∧ Nq ([b19]) (b9 : Int) ∧ Nq ([b19]) b1411 ∧ Nq (bl b1411 ++ fs1406) (b9 : Int) ∧ Nq (bl b1411 ++ fs1406) (b19 : Int) ∧ o1418 = .inl l1409) (fun n a w => ∃ (l669 : (List (List Int))) (i672 : Int) (fs666 : List Nat) (v670 : Value) (b671 : Int), Fr 64 [(1, (.int .i64 a1)), (2, (.pointer (some ⟨b1, 0, none⟩))), (4, (.pointer (some ⟨b9, 0, none⟩))), (5, (.pointer (some ⟨b19, 0, none⟩))), (6, (.int .i64 i672))] a ∧ Chg [] W w ∧ InI i672 ∧ Bx w b1 [va0_0] 29 ∧ Zn W (b1 : Int) ∧ Bx w b9 [(.slice none 0 0)] 29 ∧ Zn W (b9 : Int) ∧ Bx w b19 [v670] 29 ∧ Zn W (b19 : Int) ∧ Ow (Rp.sl 2 Rp.int) 32 true w fs666 b671 v670 l669 ∧ Zn W b671 ∧ (∀ k ∈ fs666, W.heap.size ≤ k) ∧ (bl b671 ++ fs666).Nodup ∧ Nq ([b1]) (b9 : Int) ∧ Nq ([b1]) (b19 : Int) ∧ Nq ([b1]) b671 ∧ Nq ([b9]) (b1 : Int) ∧ Nq ([b9]) (b19 : Int) ∧ Nq ([b9]) b671 ∧ Nq ([b19]) (b1 : Int) ∧ Nq ([b19]) (b9 : Int) ∧ Nq ([b19]) b671 ∧ Nq (bl b671 ++ fs666) (b1 : Int) ∧ Nq (bl b671 ++ fs666) (b9 : Int) ∧ Nq (bl b671 ++ fs666) (b19 : Int) ∧ lpN (fun s => F_spec_l26Without_l1 a0_0 a1 s.1 s.2) n (l669, i672) = some o1418) n1421 ⟨([] : (List (List Int))), 0, [], (.slice none 0 0), b1425, ha.sub ⟨rfl, rfl, rfl, rfl, rfl, trivial⟩, hE34, (show InI 0 from by decide), hB3, q7, hB11, q17, hB32, q29, h1424, q1433, (zf_nil _), (bl_nodup b1425), q15, q25, q1427, q16, q27, q1429, q26, q28, q1431, q1428, q1430, q1432, hn1422⟩ ?_ ?_
  · rintro m1437 a w656 ⟨l669, i672, fs666, v670, b671, ha, hE686, hI673, hB657, z658, hB659, z660, hB661, z662, h664, z665, zf667, nd668, q674, q675, q676, q677, q678, q679, q680, q681, q682, q683, q684, q685, hF⟩
    cases m1437 with
    | zero => exact (lpN_zero hF).elim
    | succ m1437 =>
      obtain ⟨z1436, hF, hN1435⟩ := lpN_succ hF
      have hF : F_spec_l26Without_l1 a0_0 a1 l669 i672 = some z1436 := hF; unfold F_spec_l26Without_l1 at hF
      refine wp_seq ?_; refine wp_seq ?_; refine wp_region_lit ?_; refine op_g ha rfl (g_move rfl) ?_; clear ha a; intro a ha; refine op_g ha rfl (g_field0 st29_0 rfl) ?_; clear ha a; intro a ha; refine op_g ha rfl (g_load Tryd.isAgg27 rfl (hB657.cell rfl)) ?_; clear ha a; intro a ha; refine op_g ha rfl (g_lenR sl27.und ha0_0 rfl) ?_; clear ha a; intro a ha; refine op_g ha rfl (g_lss rfl rfl) ?_; clear ha a; intro a ha; refine wpList_nil ?_; replace ha := ha.sub (σ' := [(1, (.int .i64 a1)), (2, (.pointer (some ⟨b1, 0, none⟩))), (4, (.pointer (some ⟨b9, 0, none⟩))), (5, (.pointer (some ⟨b19, 0, none⟩))), (6, (.int .i64 i672)), (15, (.bool (decide (i672 < (a0_0.length : Int)))))]) ⟨rfl, rfl, rfl, rfl, rfl, rfl, trivial⟩
      refine e_then ?_; refine c_cond (i672 < (a0_0.length : Int)) ha rfl (decide_eq_true_iff) (fun hp1438 => ?_) (fun hp1438 => ?_)
      · replace hF := if_t hp1438 hF
        refine wp_skip ?_; refine e_then ?_; refine wp_seq ?_; refine wp_block ?_; refine wp_seq ?_; refine wp_region_lit ?_
        refine o_lit0 Rp.int ha rfl sl32 ?_; clear ha a; intro v1439 w1440 h1441 hx1442 a ha
        obtain ⟨b1444, hb1444⟩ : ∃ b : Int, b = w656.heap.size := ⟨_, rfl⟩; rw [← hb1444] at h1441
        have q1445 := zn_of hb1444
        have q1446 := Nq.new hB657.fpb q1445
        have q1447 := Nq.madeO q1445 hB657.bi
        have q1448 := Nq.new hB659.fpb q1445
        have q1449 := Nq.madeO q1445 hB659.bi
        have q1450 := Nq.new hB661.fpb q1445
        have q1451 := Nq.madeO q1445 hB661.bi
        have q1452 := Nq.new h664.fpb q1445
        have q1453 := Nq.madeO q1445 h664.blt
        have q1454 := Nf.old q1445 (zf_nil _) h664.bnd
        have q1455 := Zn.upD q1445 hE686
        replace hB657 := hB657.ext hx1442
        replace hB659 := hB659.ext hx1442
        replace hB661 := hB661.ext hx1442
        replace h664 := h664.ext hx1442
        have hE1456 := Ext.trans hE686 hx1442
        refine op_g ha rfl (g_assign rfl) ?_; clear ha a; intro a ha; refine wpList_nil ?_; replace ha := ha.sub (σ' := [(1, (.int .i64 a1)), (2, (.pointer (some ⟨b1, 0, none⟩))), (4, (.pointer (some ⟨b9, 0, none⟩))), (5, (.pointer (some ⟨b19, 0, none⟩))), (6, (.int .i64 i672)), (7, v1439)]) ⟨rfl, rfl, rfl, rfl, rfl, rfl, trivial⟩; refine e_then ?_; refine wp_seq ?_; refine wp_seq ?_; refine wp_region_lit ?_; refine op_g ha rfl (g_assign rfl) ?_; clear ha a; intro a ha; refine wpList_nil ?_; replace ha := ha.sub (σ' := [(1, (.int .i64 a1)), (2, (.pointer (some ⟨b1, 0, none⟩))), (4, (.pointer (some ⟨b9, 0, none⟩))), (5, (.pointer (some ⟨b19, 0, none⟩))), (6, (.int .i64 i672)), (7, v1439), (8, (.int .i64 0))]) ⟨rfl, rfl, rfl, rfl, rfl, rfl, rfl, trivial⟩
        refine e_then ?_; obtain ⟨o1931, ho1932, hK1933⟩ := bnd_some hF
        obtain ⟨n1934, hn1935⟩ := lp_some ho1932; clear ho1932
        refine c_loop (fun a w => ∃ (l1902 : (List (List Int))) (l1908 : (List Int)) (fs1899 : List Nat) (v1903 : Value) (b1904 : Int) (v1909 : Value) (b1910 : Int), Fr 64 [(1, (.int .i64 a1)), (2, (.pointer (some ⟨b1, 0, none⟩))), (4, (.pointer (some ⟨b9, 0, none⟩))), (5, (.pointer (some ⟨b19, 0, none⟩))), (6, (.int .i64 i672)), (7, v1909)] a ∧ Chg [] W w ∧ Bx w b1 [va0_0] 29 ∧ Zn W (b1 : Int) ∧ Bx w b9 [(.slice none 0 0)] 29 ∧ Zn W (b9 : Int) ∧ Bx w b19 [v1903] 29 ∧ Zn W (b19 : Int) ∧ Ow (Rp.sl 2 Rp.int) 32 true w fs1899 b1904 v1903 l1902 ∧ Zn W b1904 ∧ (∀ k ∈ fs1899, W.heap.size ≤ k) ∧ (bl b1904 ++ fs1899).Nodup ∧ Ow Rp.int 2 true w [] b1910 v1909 l1908 ∧ Zn W b1910 ∧ Nq ([b1]) (b9 : Int) ∧ Nq ([b1]) (b19 : Int) ∧ Nq ([b1]) b1904 ∧ Nq ([b1]) b1910 ∧ Nq ([b9]) (b1 : Int) ∧ Nq ([b9]) (b19 : Int) ∧ Nq ([b9]) b1904 ∧ Nq ([b9]) b1910 ∧ Nq ([b19]) (b1 : Int) ∧ Nq ([b19]) (b9 : Int) ∧ Nq ([b19]) b1904 ∧ Nq ([b19]) b1910 ∧ Nq (bl b1904 ++ fs1899) (b1 : Int) ∧ Nq (bl b1904 ++ fs1899) (b9 : Int) ∧ Nq (bl b1904 ++ fs1899) (b19 : Int) ∧ Nq (bl b1904 ++ fs1899) b1910 ∧ Nq (bl b1910 ++ []) (b1 : Int) ∧ Nq (bl b1910 ++ []) (b9 : Int) ∧ Nq (bl b1910 ++ []) (b19 : Int) ∧ Nq (bl b1910 ++ []) b1904 ∧ o1931 = .inl (l1902, l1908)) (fun n a w => ∃ (l1682 : (List (List Int))) (l1688 : (List Int)) (i1691 : Int) (fs1679 : List Nat) (v1683 : Value) (b1684 : Int) (v1689 : Value) (b1690 : Int), Fr 64 [(1, (.int .i64 a1)), (2, (.pointer (some ⟨b1, 0, none⟩))), (4, (.pointer (some ⟨b9, 0, none⟩))), (5, (.pointer (some ⟨b19, 0, none⟩))), (6, (.int .i64 i672)), (7, v1689), (8, (.int .i64 i1691))] a ∧ Chg [] W w ∧ InI i1691 ∧ Bx w b1 [va0_0] 29 ∧ Zn W (b1 : Int) ∧ Bx w b9 [(.slice none 0 0)] 29 ∧ Zn W (b9 : Int) ∧ Bx w b19 [v1683] 29 ∧ Zn W (b19 : Int) ∧ Ow (Rp.sl 2 Rp.int) 32 true w fs1679 b1684 v1683 l1682 ∧ Zn W b1684 ∧ (∀ k ∈ fs1679, W.heap.size ≤ k) ∧ (bl b1684 ++ fs1679).Nodup ∧ Ow Rp.int 2 true w [] b1690 v1689 l1688 ∧ Zn W b1690 ∧ Nq ([b1]) (b9 : Int) ∧ Nq ([b1]) (b19 : Int) ∧ Nq ([b1]) b1684 ∧ Nq ([b1]) b1690 ∧ Nq ([b9]) (b1 : Int) ∧ Nq ([b9]) (b19 : Int) ∧ Nq ([b9]) b1684 ∧ Nq ([b9]) b1690 ∧ Nq ([b19]) (b1 : Int) ∧ Nq ([b19]) (b9 : Int) ∧ Nq ([b19]) b1684 ∧ Nq ([b19]) b1690 ∧ Nq (bl b1684 ++ fs1679) (b1 : Int) ∧ Nq (bl b1684 ++ fs1679) (b9 : Int) ∧ Nq (bl b1684 ++ fs1679) (b19 : Int) ∧ Nq (bl b1684 ++ fs1679) b1690 ∧ Nq (bl b1690 ++ []) (b1 : Int) ∧ Nq (bl b1690 ++ []) (b9 : Int) ∧ Nq (bl b1690 ++ []) (b19 : Int) ∧ Nq (bl b1690 ++ []) b1684 ∧ lpN (fun s => F_spec_l26Without_l2 a0_0 a1 i672 s.1 s.2.1 s.2.2) n (l1682, l1688, i1691) = some o1931) n1934 ⟨l669, ([] : (List Int)), 0, fs666, v670, b671, v1439, b1444, ha.sub ⟨rfl, rfl, rfl, rfl, rfl, rfl, rfl, trivial⟩, hE1456, (show InI 0 from by decide), hB657, z658, hB659, z660, hB661, z662, h664, z665, zf667, nd668, h1441, q1455, q674, q675, q676, q1446, q677, q678, q679, q1448, q680, q681, q682, q1450, q683, q684, q685, q1452, q1447, q1449, q1451, q1453, hn1935⟩ ?_ ?_
        · rintro m1939 a w1669 ⟨l1682, l1688, i1691, fs1679, v1683, b1684, v1689, b1690, ha, hE1713, hI1692, hB1670, z1671, hB1672, z1673, hB1674, z1675, h1677, z1678, zf1680, nd1681, h1686, z1687, q1693, q1694, q1695, q1696, q1697, q1698, q1699, q1700, q1701, q1702, q1703, q1704, q1705, q1706, q1707, q1708, q1709, q1710, q1711, q1712, hF⟩
          cases m1939 with
          | zero => exact (lpN_zero hF).elim
          | succ m1939 =>
            obtain ⟨z1938, hF, hN1937⟩ := lpN_succ hF
            have hF : F_spec_l26Without_l2 a0_0 a1 i672 l1682 l1688 i1691 = some z1938 := hF; unfold F_spec_l26Without_l2 at hF
            refine wp_seq ?_; refine wp_seq ?_; refine wp_region_lit ?_; refine op_g ha rfl (g_move rfl) ?_; clear ha a; intro a ha; refine op_g ha rfl (g_field0 st29_0 rfl) ?_; clear ha a; intro a ha; refine op_g ha rfl (g_load Tryd.isAgg27 rfl (hB1670.cell rfl)) ?_; clear ha a; intro a ha; refine op_g ha rfl (g_move rfl) ?_; clear ha a; intro a ha; obtain ⟨x1940, g1941, gx1942, hF⟩ := idx_some hF
            obtain ⟨p1943, cs1944, f1945, hf1946, hpb1947, hat1948, hr1949, hi1950⟩ := ha0_0.at g1941 gx1942
            obtain ⟨v1951, rfl, h1952⟩ := hr1949
            have h1952 : Ro Rp.int W f1945 v1951 x1940 := h1952
            refine op_g ha rfl (hi1950.gives sl27 rfl rfl) ?_; clear ha a; intro a ha; refine op_g ha rfl (g_load0 hE1713 Tryd.isAgg32 rfl hat1948.one) ?_; clear ha a; intro a ha; refine op_g ha rfl (g_lenR sl32.und h1952 rfl) ?_; clear ha a; intro a ha; refine op_g ha rfl (g_lss rfl rfl) ?_; clear ha a; intro a ha; refine wpList_nil ?_; replace ha := ha.sub (σ' := [(1, (.int .i64 a1)), (2, (.pointer (some ⟨b1, 0, none⟩))), (4, (.pointer (some ⟨b9, 0, none⟩))), (5, (.pointer (some ⟨b19, 0, none⟩))), (6, (.int .i64 i672)), (7, v1689), (8, (.int .i64 i1691)), (26, (.bool (decide (i1691 < (x1940.length : Int)))))]) ⟨rfl, rfl, rfl, rfl, rfl, rfl, rfl, rfl, trivial⟩
            refine e_then ?_; refine c_cond (i1691 < (x1940.length : Int)) ha rfl (decide_eq_true_iff) (fun hp1954 => ?_) (fun hp1954 => ?_)
            · replace hF := if_t hp1954 hF
              refine wp_skip ?_; refine e_then ?_; refine wp_seq ?_; refine wp_block ?_; refine wp_seq ?_; refine wp_region_lit ?_; refine op_g ha rfl (g_field0 st29_0 rfl) ?_; clear ha a; intro a ha; refine op_g ha rfl (g_load Tryd.isAgg27 rfl (hB1670.cell rfl)) ?_; clear ha a; intro a ha; refine op_g ha rfl (g_move rfl) ?_; clear ha a; intro a ha; obtain ⟨x1955, g1956, gx1957, hF⟩ := idx_some hF
              obtain ⟨p1958, cs1959, f1960, hf1961, hpb1962, hat1963, hr1964, hi1965⟩ := ha0_0.at g1956 gx1957
              obtain ⟨v1966, rfl, h1967⟩ := hr1964
              have h1967 : Ro Rp.int W f1960 v1966 x1955 := h1967
              refine op_g ha rfl (hi1965.gives sl27 rfl rfl) ?_; clear ha a; intro a ha; refine op_g ha rfl (g_load0 hE1713 Tryd.isAgg32 rfl hat1963.one) ?_; clear ha a; intro a ha; refine op_g ha rfl (g_move rfl) ?_; clear ha a; intro a ha; obtain ⟨x1969, g1970, gx1971, hF⟩ := idx_some hF
              obtain ⟨p1972, cs1973, f1974, hf1975, hpb1976, hat1977, hr1978, hi1979⟩ := h1967.at g1970 gx1971
              obtain ⟨rfl, hI1980, rfl⟩ := hr1978
              refine op_g ha rfl (hi1979.gives sl32 rfl rfl) ?_; clear ha a; intro a ha; refine op_g ha rfl (g_load0 hE1713 Tryd.isAgg2 rfl hat1977.one) ?_; clear ha a; intro a ha; refine op_g ha rfl (g_assign rfl) ?_; clear ha a; intro a ha; refine wpList_nil ?_; replace ha := ha.sub (σ' := [(1, (.int .i64 a1)), (2, (.pointer (some ⟨b1, 0, none⟩))), (4, (.pointer (some ⟨b9, 0, none⟩))), (5, (.pointer (some ⟨b19, 0, none⟩))), (6, (.int .i64 i672)), (7, v1689), (8, (.int .i64 i1691)), (9, (.int .i64 x1969))]) ⟨rfl, rfl, rfl, rfl, rfl, rfl, rfl, rfl, trivial⟩; refine e_then ?_; refine wp_block ?_
              refine wp_seq ?_; refine wp_region_lit ?_; (iterate 2 refine op_g ha rfl (g_move rfl) ?_; clear ha a; intro a ha); refine op_g ha rfl (g_lss rfl rfl) ?_; clear ha a; intro a ha; refine op_g ha rfl (g_assign rfl) ?_; clear ha a; intro a ha; refine wpList_nil ?_; replace ha := ha.sub (σ' := [(1, (.int .i64 a1)), (2, (.pointer (some ⟨b1, 0, none⟩))), (4, (.pointer (some ⟨b9, 0, none⟩))), (5, (.pointer (some ⟨b19, 0, none⟩))), (6, (.int .i64 i672)), (7, v1689), (8, (.int .i64 i1691)), (9, (.int .i64 x1969)), (37, (.bool (decide (x1969 < a1))))]) ⟨rfl, rfl, rfl, rfl, rfl, rfl, rfl, rfl, rfl, trivial⟩
              refine e_then ?_; refine c_cond (x1969 < a1) ha rfl (decide_eq_true_iff) (fun hp1981 => ?_) (fun hp1981 => ?_)
              · replace hF := if_t hp1981 hF
                refine wp_region_lit ?_; (iterate 2 refine op_g ha rfl (g_move rfl) ?_; clear ha a; intro a ha)
                refine o_lit1 (o := true) (y := x1969) Rp.int ha rfl sl32 rfl rfl rfl ⟨rfl, hI1980, rfl⟩ ?_; clear ha a; intro v1982 w1983 h1984 hx1985 a ha
                obtain ⟨b1987, hb1987⟩ : ∃ b : Int, b = w1669.heap.size := ⟨_, rfl⟩; rw [← hb1987] at h1984
                have q1988 := zn_of hb1987
                have q1989 := Nq.new hB1670.fpb q1988
                have q1990 := Nq.madeO q1988 hB1670.bi
                have q1991 := Nq.new hB1672.fpb q1988
                have q1992 := Nq.madeO q1988 hB1672.bi
                have q1993 := Nq.new hB1674.fpb q1988
                have q1994 := Nq.madeO q1988 hB1674.bi
                have q1995 := Nq.new h1677.fpb q1988
                have q1996 := Nq.madeO q1988 h1677.blt
                have q1997 := Nq.new h1686.fpb q1988
                have q1998 := Nq.madeO q1988 h1686.blt
                have q1999 := Nf.old q1988 (zf_nil _) h1677.bnd
                have q2000 := Zn.upD q1988 hE1713
                replace hB1670 := hB1670.ext hx1985
                replace hB1672 := hB1672.ext hx1985
                replace hB1674 := hB1674.ext hx1985
                replace h1677 := h1677.ext hx1985
                replace h1686 := h1686.ext hx1985
                have hE2001 := Ext.trans hE1713 hx1985
                obtain ⟨hl2002, hF⟩ := app_some hF
                refine o_append ha rfl sl32 rfl rfl rfl h1686 h1984.src (Nq.nil _) hl2002 ?_; clear ha a; intro v2003 w2004 b2005 h2006 hc2007 hb2008 a ha
                replace h2006 : Ow Rp.int 2 true w2004 [] b2005 v2003 _ := h2006
                have q2010 := Nq.appY q1696 hB1670.fpb hb2008
                have q2011 := Nq.appX q1709 (Nq.nil _) hb2008 hB1670.bi
                have q2012 := Nq.appY q1700 hB1672.fpb hb2008
                have q2013 := Nq.appX q1710 (Nq.nil _) hb2008 hB1672.bi
                have q2014 := Nq.appY q1704 hB1674.fpb hb2008
                have q2015 := Nq.appX q1711 (Nq.nil _) hb2008 hB1674.bi
                have q2016 := Nq.appY q1708 h1677.fpb hb2008
                have q2017 := Nq.appX q1712 (Nq.nil _) hb2008 h1677.blt
                have q2018 := Nq.appY q1998 h1984.fpb hb2008
                have q2019 := Nq.appX q1997 (Nq.nil _) hb2008 h1984.blt
                have q2020 := Zn.appD z1687 hb2008 hE2001
                replace hB1670 := hB1670.nq hc2007 q1696
                replace hB1672 := hB1672.nq hc2007 q1700
                replace hB1674 := hB1674.nq hc2007 q1704
                replace h1677 := h1677.nq hc2007 q1708
                replace h1984 := h1984.nq hc2007 q1998
                have hE2021 := Ext.then hE2001 hc2007 (Zn.bl z1687)
                refine op_g ha rfl (g_assign rfl) ?_; clear ha a; intro a ha; refine wpList_nil ?_; replace ha := ha.sub (σ' := [(1, (.int .i64 a1)), (2, (.pointer (some ⟨b1, 0, none⟩))), (4, (.pointer (some ⟨b9, 0, none⟩))), (5, (.pointer (some ⟨b19, 0, none⟩))), (6, (.int .i64 i672)), (7, v2003), (8, (.int .i64 i1691))]) ⟨rfl, rfl, rfl, rfl, rfl, rfl, rfl, trivial⟩; refine e_blk ?_; refine e_blk ?_; refine e_then ?_; refine wp_region_lit ?_; refine op_g ha rfl (g_move rfl) ?_; clear ha a; intro a ha; obtain ⟨hI2022, hF⟩ := ck_some hF; refine op_g ha rfl (g_add rfl rfl hI2022) ?_; clear ha a; intro a ha
                refine op_g ha rfl (g_assign rfl) ?_; clear ha a; intro a ha; refine wpList_nil ?_; replace ha := ha.sub (σ' := [(1, (.int .i64 a1)), (2, (.pointer (some ⟨b1, 0, none⟩))), (4, (.pointer (some ⟨b9, 0, none⟩))), (5, (.pointer (some ⟨b19, 0, none⟩))), (6, (.int .i64 i672)), (7, v2003), (8, (.int .i64 (i1691 + 1)))]) ⟨rfl, rfl, rfl, rfl, rfl, rfl, rfl, trivial⟩; refine e_lq ?_; obtain rfl := Option.some.inj hF
                exact ⟨_, Nat.lt_succ_self _, l1682, (l1688 ++ ([x1969])), i1691 + 1, fs1679, v1683, b1684, v2003, b2005, ha.sub ⟨rfl, rfl, rfl, rfl, rfl, rfl, rfl, trivial⟩, hE2021, hI2022, hB1670, z1671, hB1672, z1673, hB1674, z1675, h1677, z1678, zf1680, nd1681, h2006, q2020, q1693, q1694, q1695, q2010, q1697, q1698, q1699, q2012, q1701, q1702, q1703, q2014, q1705, q1706, q1707, q2016, q2011, q2013, q2015, q2017, hN1937⟩
              replace hF := if_f hp1981 hF; refine wp_seq ?_; refine wp_region_lit ?_; (iterate 2 refine op_g ha rfl (g_move rfl) ?_; clear ha a; intro a ha); refine op_g ha rfl (g_gtr rfl rfl) ?_; clear ha a; intro a ha; refine op_g ha rfl (g_assign rfl) ?_; clear ha a; intro a ha; refine wpList_nil ?_; replace ha := ha.sub (σ' := [(1, (.int .i64 a1)), (2, (.pointer (some ⟨b1, 0, none⟩))), (4, (.pointer (some ⟨b9, 0, none⟩))), (5, (.pointer (some ⟨b19, 0, none⟩))), (6, (.int .i64 i672)), (7, v1689), (8, (.int .i64 i1691)), (9, (.int .i64 x1969)), (45, (.bool (decide (a1 < x1969))))]) ⟨rfl, rfl, rfl, rfl, rfl, rfl, rfl, rfl, rfl, trivial⟩
              refine e_then ?_; refine c_cond (a1 < x1969) ha rfl (decide_eq_true_iff) (fun hp2024 => ?_) (fun hp2024 => ?_)
              · replace hF := if_t hp2024 hF
                refine wp_region_lit ?_; (iterate 2 refine op_g ha rfl (g_move rfl) ?_; clear ha a; intro a ha); obtain ⟨hI2025, hF⟩ := ck_some hF; refine op_g ha rfl (g_sub rfl rfl hI2025) ?_; clear ha a; intro a ha
                refine o_lit1 (o := true) (y := x1969 - 1) Rp.int ha rfl sl32 rfl rfl rfl ⟨rfl, hI2025, rfl⟩ ?_; clear ha a; intro v2027 w2028 h2029 hx2030 a ha
                obtain ⟨b2032, hb2032⟩ : ∃ b : Int, b = w1669.heap.size := ⟨_, rfl⟩; rw [← hb2032] at h2029
                have q2033 := zn_of hb2032
                have q2034 := Nq.new hB1670.fpb q2033
                have q2035 := Nq.madeO q2033 hB1670.bi
                have q2036 := Nq.new hB1672.fpb q2033
                have q2037 := Nq.madeO q2033 hB1672.bi
                have q2038 := Nq.new hB1674.fpb q2033
                have q2039 := Nq.madeO q2033 hB1674.bi
                have q2040 := Nq.new h1677.fpb q2033
                have q2041 := Nq.madeO q2033 h1677.blt
                have q2042 := Nq.new h1686.fpb q2033
                have q2043 := Nq.madeO q2033 h1686.blt
                have q2044 := Nf.old q2033 (zf_nil _) h1677.bnd
                have q2045 := Zn.upD q2033 hE1713
                replace hB1670 := hB1670.ext hx2030
                replace hB1672 := hB1672.ext hx2030
                replace hB1674 := hB1674.ext hx2030
                replace h1677 := h1677.ext hx2030
                replace h1686 := h1686.ext hx2030
                have hE2046 := Ext.trans hE1713 hx2030
                obtain ⟨hl2047, hF⟩ := app_some hF
                refine o_append ha rfl sl32 rfl rfl rfl h1686 h2029.src (Nq.nil _) hl2047 ?_; clear ha a; intro v2048 w2049 b2050 h2051 hc2052 hb2053 a ha
                replace h2051 : Ow Rp.int 2 true w2049 [] b2050 v2048 _ := h2051
                have q2055 := Nq.appY q1696 hB1670.fpb hb2053
                have q2056 := Nq.appX q1709 (Nq.nil _) hb2053 hB1670.bi
                have q2057 := Nq.appY q1700 hB1672.fpb hb2053
                have q2058 := Nq.appX q1710 (Nq.nil _) hb2053 hB1672.bi
                have q2059 := Nq.appY q1704 hB1674.fpb hb2053
                have q2060 := Nq.appX q1711 (Nq.nil _) hb2053 hB1674.bi
                have q2061 := Nq.appY q1708 h1677.fpb hb2053
                have q2062 := Nq.appX q1712 (Nq.nil _) hb2053 h1677.blt
                have q2063 := Nq.appY q2043 h2029.fpb hb2053
                have q2064 := Nq.appX q2042 (Nq.nil _) hb2053 h2029.blt
                have q2065 := Zn.appD z1687 hb2053 hE2046
                replace hB1670 := hB1670.nq hc2052 q1696
                replace hB1672 := hB1672.nq hc2052 q1700
                replace hB1674 := hB1674.nq hc2052 q1704
                replace h1677 := h1677.nq hc2052 q1708
                replace h2029 := h2029.nq hc2052 q2043
                have hE2066 := Ext.then hE2046 hc2052 (Zn.bl z1687)
                refine op_g ha rfl (g_assign rfl) ?_; clear ha a; intro a ha; refine wpList_nil ?_; replace ha := ha.sub (σ' := [(1, (.int .i64 a1)), (2, (.pointer (some ⟨b1, 0, none⟩))), (4, (.pointer (some ⟨b9, 0, none⟩))), (5, (.pointer (some ⟨b19, 0, none⟩))), (6, (.int .i64 i672)), (7, v2048), (8, (.int .i64 i1691))]) ⟨rfl, rfl, rfl, rfl, rfl, rfl, rfl, trivial⟩; refine e_blk ?_; refine e_blk ?_; refine e_then ?_; refine wp_region_lit ?_; refine op_g ha rfl (g_move rfl) ?_; clear ha a; intro a ha; obtain ⟨hI2067, hF⟩ := ck_some hF; refine op_g ha rfl (g_add rfl rfl hI2067) ?_; clear ha a; intro a ha
                refine op_g ha rfl (g_assign rfl) ?_; clear ha a; intro a ha; refine wpList_nil ?_; replace ha := ha.sub (σ' := [(1, (.int .i64 a1)), (2, (.pointer (some ⟨b1, 0, none⟩))), (4, (.pointer (some ⟨b9, 0, none⟩))), (5, (.pointer (some ⟨b19, 0, none⟩))), (6, (.int .i64 i672)), (7, v2048), (8, (.int .i64 (i1691 + 1)))]) ⟨rfl, rfl, rfl, rfl, rfl, rfl, rfl, trivial⟩; refine e_lq ?_; obtain rfl := Option.some.inj hF
                exact ⟨_, Nat.lt_succ_self _, l1682, (l1688 ++ ([x1969 - 1])), i1691 + 1, fs1679, v1683, b1684, v2048, b2050, ha.sub ⟨rfl, rfl, rfl, rfl, rfl, rfl, rfl, trivial⟩, hE2066, hI2067, hB1670, z1671, hB1672, z1673, hB1674, z1675, h1677, z1678, zf1680, nd1681, h2051, q2065, q1693, q1694, q1695, q2055, q1697, q1698, q1699, q2057, q1701, q1702, q1703, q2059, q1705, q1706, q1707, q2061, q2056, q2058, q2060, q2062, hN1937⟩
              replace hF := if_f hp2024 hF; refine wp_skip ?_; refine e_blk ?_; refine e_blk ?_; refine e_then ?_; refine wp_region_lit ?_; refine op_g ha rfl (g_move rfl) ?_; clear ha a; intro a ha; obtain ⟨hI2069, hF⟩ := ck_some hF; refine op_g ha rfl (g_add rfl rfl hI2069) ?_; clear ha a; intro a ha; refine op_g ha rfl (g_assign rfl) ?_; clear ha a; intro a ha; refine wpList_nil ?_; replace ha := ha.sub (σ' := [(1, (.int .i64 a1)), (2, (.pointer (some ⟨b1, 0, none⟩))), (4, (.pointer (some ⟨b9, 0, none⟩))), (5, (.pointer (some ⟨b19, 0, none⟩))), (6, (.int .i64 i672)), (7, v1689), (8, (.int .i64 (i1691 + 1)))]) ⟨rfl, rfl, rfl, rfl, rfl, rfl, rfl, trivial⟩
              refine e_lq ?_; obtain rfl := Option.some.inj hF
              exact ⟨_, Nat.lt_succ_self _, l1682, l1688, i1691 + 1, fs1679, v1683, b1684, v1689, b1690, ha.sub ⟨rfl, rfl, rfl, rfl, rfl, rfl, rfl, trivial⟩, hE1713, hI2069, hB1670, z1671, hB1672, z1673, hB1674, z1675, h1677, z1678, zf1680, nd1681, h1686, z1687, q1693, q1694, q1695, q1696, q1697, q1698, q1699, q1700, q1701, q1702, q1703, q1704, q1705, q1706, q1707, q1708, q1709, q1710, q1711, q1712, hN1937⟩
            replace hF := if_f hp1954 hF; refine wp_exit ?_; refine e_then_exit ?_; refine e_lq_eq ?_; obtain rfl := Option.some.inj hF
            exact ⟨l1682, l1688, fs1679, v1683, b1684, v1689, b1690, ha.sub ⟨rfl, rfl, rfl, rfl, rfl, rfl, trivial⟩, hE1713, hB1670, z1671, hB1672, z1673, hB1674, z1675, h1677, z1678, zf1680, nd1681, h1686, z1687, q1693, q1694, q1695, q1696, q1697, q1698, q1699, q1700, q1701, q1702, q1703, q1704, q1705, q1706, q1707, q1708, q1709, q1710, q1711, q1712, (LK_inr hN1937).symm⟩
        rintro a w1889 ⟨l1902, l1908, fs1899, v1903, b1904, v1909, b1910, ha, hE1936, hB1890, z1891, hB1892, z1893, hB1894, z1895, h1897, z1898, zf1900, nd1901, h1906, z1907, q1911, q1912, q1913, q1914, q1915, q1916, q1917, q1918, q1919, q1920, q1921, q1922, q1923, q1924, q1925, q1926, q1927, q1928, q1929, q1930, rfl⟩
        have hF : F_spec_l26Without_k3 a1 i672 l1902 l1908 = some _ := hK1933; clear hK1933; unfold F_spec_l26Without_k3 at hF
        refine e_then ?_; refine wp_seq ?_; refine wp_region_lit ?_; (iterate 2 refine op_g ha rfl (g_move rfl) ?_; clear ha a; intro a ha); refine op_g ha rfl (g_neq rfl rfl) ?_; clear ha a; intro a ha; refine wpList_nil ?_; replace ha := ha.sub (σ' := [(1, (.int .i64 a1)), (2, (.pointer (some ⟨b1, 0, none⟩))), (4, (.pointer (some ⟨b9, 0, none⟩))), (5, (.pointer (some ⟨b19, 0, none⟩))), (6, (.int .i64 i672)), (7, v1909), (56, (.bool (decide (i672 ≠ a1))))]) ⟨rfl, rfl, rfl, rfl, rfl, rfl, rfl, trivial⟩; refine e_then ?_; refine c_cond (i672 ≠ a1) ha rfl (decide_eq_true_iff) (fun hp2071 => ?_) (fun hp2071 => ?_)
        · replace hF := if_t hp2071 hF
          refine wp_region_lit ?_; refine op_g ha rfl (g_field0 st29_0 rfl) ?_; clear ha a; intro a ha; refine op_g ha rfl (g_load Tryd.isAgg27 rfl (hB1894.cell rfl)) ?_; clear ha a; intro a ha; refine op_g ha rfl (g_move rfl) ?_; clear ha a; intro a ha
          refine o_lit1 (o := true) (y := l1908) (Rp.sl 2 Rp.int) ha rfl sl27 rfl rfl h1906.cells (Rp.mkO h1906) ?_; clear ha a; intro v2072 w2073 h2074 hx2075 a ha
          obtain ⟨b2077, hb2077⟩ : ∃ b : Int, b = w1889.heap.size := ⟨_, rfl⟩; rw [← hb2077] at h2074
          have q2078 := zn_of hb2077
          have q2079 := zf_mv z1907 (zf_nil _)
          have q2080 := dj_of q1926
          have q2081 := Nq.new hB1890.fpb q2078
          have q2082 := Nq.append (Nq.madeL q2078 hB1890.bi) q1927
          have q2083 := Nq.new hB1892.fpb q2078
          have q2084 := Nq.append (Nq.madeL q2078 hB1892.bi) q1928
          have q2085 := Nq.new hB1894.fpb q2078
          have q2086 := Nq.append (Nq.madeL q2078 hB1894.bi) q1929
          have q2087 := Nq.new h1897.fpb q2078
          have q2088 := Nq.append (Nq.madeL q2078 h1897.blt) q1930
          have q2089 := Zn.upD q2078 hE1936
          have q2090 := nd_lit (bl_nodup b1910) h1906.fpb hb2077
          replace hB1890 := hB1890.ext hx2075
          replace hB1892 := hB1892.ext hx2075
          replace hB1894 := hB1894.ext hx2075
          replace h1897 := h1897.ext hx2075
          have hE2091 := Ext.trans hE1936 hx2075
          obtain ⟨hl2092, hF⟩ := app_some hF
          have q2093 := Nq.right q2088
          refine o_append ha rfl sl27 rfl rfl rfl h1897 h2074.src q2093 hl2092 ?_; clear ha a; intro v2094 w2095 b2096 h2097 hc2098 hb2099 a ha
          replace h2097 : Ow (Rp.sl 2 Rp.int) 32 true w2095 (fs1899 ++ (bl b1910 ++ [])) b2096 v2094 _ := h2097
          have q2101 := zf_app zf1900 q2079
          have q2102 := nd_app nd1901 (bl_nodup b1910) q2080 hb2099 h1897.fpb h2074.bnd
          have q2103 := Nq.appY q1913 hB1890.fpb hb2099
          have q2104 := Nq.appX q1923 (Nq.right q2082) hb2099 hB1890.bi
          have q2105 := Nq.appY q1917 hB1892.fpb hb2099
          have q2106 := Nq.appX q1924 (Nq.right q2084) hb2099 hB1892.bi
          have q2107 := Nq.appY q1921 hB1894.fpb hb2099
          have q2108 := Nq.appX q1925 (Nq.right q2086) hb2099 hB1894.bi
          have q2109 := Zn.appD z1898 hb2099 hE2091
          replace hB1890 := hB1890.nq hc2098 q1913
          replace hB1892 := hB1892.nq hc2098 q1917
          replace hB1894 := hB1894.nq hc2098 q1921
          have hE2110 := Ext.then hE2091 hc2098 (Zn.bl z1898)
          refine op_g ha rfl (g_field0 st29_0 rfl) ?_; clear ha a; intro a ha
          refine o_storeB ha hB1894 Tryd.sizeOf27 rfl rfl h2097.cells h2097.oneC (Nat.le_of_ble_eq_true rfl) ?_; intro w2111 hB2112 hc2113
          replace hc2113 := hc2113.bl
          replace hB2112 : Bx w2111 b19 [v2094] 29 := hB2112
          replace hB1890 := hB1890.nq hc2113 q1912
          replace hB1892 := hB1892.nq hc2113 q1916
          replace h2097 := h2097.nq hc2113 q2108
          have hE2114 := Ext.then hE2110 hc2113 (Zn.bl z1895)
          refine wpList_nil ?_; replace ha := ha.sub (σ' := [(1, (.int .i64 a1)), (2, (.pointer (some ⟨b1, 0, none⟩))), (4, (.pointer (some ⟨b9, 0, none⟩))), (5, (.pointer (some ⟨b19, 0, none⟩))), (6, (.int .i64 i672))]) ⟨rfl, rfl, rfl, rfl, rfl, trivial⟩; refine e_blk ?_; refine e_then ?_; refine wp_region_lit ?_; refine op_g ha rfl (g_move rfl) ?_; clear ha a; intro a ha; obtain ⟨hI2115, hF⟩ := ck_some hF; refine op_g ha rfl (g_add rfl rfl hI2115) ?_; clear ha a; intro a ha; refine op_g ha rfl (g_assign rfl) ?_; clear ha a; intro a ha; refine wpList_nil ?_; replace ha := ha.sub (σ' := [(1, (.int .i64 a1)), (2, (.pointer (some ⟨b1, 0, none⟩))), (4, (.pointer (some ⟨b9, 0, none⟩))), (5, (.pointer (some ⟨b19, 0, none⟩))), (6, (.int .i64 (i672 + 1)))]) ⟨rfl, rfl, rfl, rfl, rfl, trivial⟩
          refine e_lq ?_; obtain rfl := Option.some.inj hF
          exact ⟨_, Nat.lt_succ_self _, (l1902 ++ ([l1908])), i672 + 1, (fs1899 ++ (bl b1910 ++ [])), v2094, b2096, ha.sub ⟨rfl, rfl, rfl, rfl, rfl, trivial⟩, hE2114, hI2115, hB1890, z1891, hB1892, z1893, hB2112, z1895, h2097, q2109, q2101, q2102, q1911, q1912, q2103, q1915, q1916, q2105, q1919, q1920, q2107, q2104, q2106, q2108, hN1435⟩
        replace hF := if_f hp2071 hF; refine wp_skip ?_; refine e_blk ?_; refine e_then ?_; refine wp_region_lit ?_; refine op_g ha rfl (g_move rfl) ?_; clear ha a; intro a ha; obtain ⟨hI2117, hF⟩ := ck_some hF; refine op_g ha rfl (g_add rfl rfl hI2117) ?_; clear ha a; intro a ha; refine op_g ha rfl (g_assign rfl) ?_; clear ha a; intro a ha; refine wpList_nil ?_; replace ha := ha.sub (σ' := [(1, (.int .i64 a1)), (2, (.pointer (some ⟨b1, 0, none⟩))), (4, (.pointer (some ⟨b9, 0, none⟩))), (5, (.pointer (some ⟨b19, 0, none⟩))), (6, (.int .i64 (i672 + 1)))]) ⟨rfl, rfl, rfl, rfl, rfl, trivial⟩; refine e_lq ?_
        obtain rfl := Option.some.inj hF
        exact ⟨_, Nat.lt_succ_self _, l1902, i672 + 1, fs1899, v1903, b1904, ha.sub ⟨rfl, rfl, rfl, rfl, rfl, trivial⟩, hE1936, hI2117, hB1890, z1891, hB1892, z1893, hB1894, z1895, h1897, z1898, zf1900, nd1901, q1911, q1912, q1913, q1915, q1916, q1917, q1919, q1920, q1921, q1923, q1924, q1925, hN1435⟩
      replace hF := if_f hp1438 hF; refine wp_exit ?_; refine e_then_exit ?_; refine e_lq_eq ?_; obtain rfl := Option.some.inj hF
      exact ⟨l669, fs666, v670, b671, ha.sub ⟨rfl, rfl, trivial⟩, hE686, hB659, z660, hB661, z662, h664, z665, zf667, nd668, q678, q679, q681, q682, q684, q685, (LK_inr hN1435).symm⟩
  rintro a w1398 ⟨l1409, fs1406, v1410, b1411, ha, hE1434, hB1399, z1400, hB1401, z1402, h1404, z1405, zf1407, nd1408, q1412, q1413, q1414, q1415, q1416, q1417, rfl⟩
  have hF : F_spec_l26Without_k4 l1409 = some _ := hK1420; clear hK1420; unfold F_spec_l26Without_k4 at hF
  refine e_then ?_; refine wp_seq ?_; refine wp_region_lit ?_; refine op_g ha rfl (g_loadA (cs := [v1410]) Tryd.isAgg29 Tryd.sizeOf29 rfl (by simp) hB1401.all) ?_; clear ha a; intro a ha
  refine o_storeA (vs := [v1410]) ha hB1399 Tryd.sizeOf29 rfl rfl (by intro c hc; simp only [List.mem_cons, List.not_mem_nil, or_false] at hc; rcases hc with hc <;> subst hc <;> first | rfl | exact h1404.oneC) rfl ?_; intro w2119 hB2120 hc2121
  replace hc2121 := hc2121.bl
  replace hB2120 : Bx w2119 b9 [v1410] 29 := hB2120
  replace hB1401 := hB1401.nq hc2121 q1414
  replace h1404 := h1404.nq hc2121 q1416
  have hE2122 := Ext.then hE1434 hc2121 (Zn.bl z1400)
  refine wpList_nil ?_; replace ha := ha.sub (σ' := [(4, (.pointer (some ⟨b9, 0, none⟩)))]) ⟨rfl, trivial⟩; refine e_then ?_; refine wp_ret ?_; obtain rfl := Option.some.inj hF
  exact f_retC (cs := [v1410]) ha rfl rfl Tryd.isAgg29 Tryd.sizeOf29 hB2120 ⟨_, _, _, rfl, h1404, z1405, zf1407, nd1408, hE2122⟩
set_option maxHeartbeats 2000000 in
theorem W_spec_CriticalIn {W : World} {va0_0 : Value} {fa0_0 : List Nat} {a0_0 : (List (List Int))} (ha0_0 : Ro (Rp.sl 2 Rp.int) W fa0_0 va0_0 a0_0) {r : Bool} (hF : F_spec_CriticalIn a0_0 = some r) :
    Calls Tryd.prog 9 [.agg #[va0_0]].toArray W (Ret fun u w' => u = .bool r ∧ Ext W w') := by
  refine f_enter Tryd.func9 rfl Tryd.ntmps9 rfl ?_
  intro a ha
  replace ha : Fr 34 [(0, (.agg #[va0_0]))] a := ha
  have hE : Chg [] W W := Chg.refl _ _
  unfold F_spec_CriticalIn at hF
  refine wp_seq ?_; refine wp_region_lit ?_
  refine o_box ha rfl rfl rfl ?_; clear ha a; intro b1 w2 hB3 hx4 hlo5 a ha
  have q6 := Zn.one hlo5
  have q7 := Zn.upD q6 hE
  have hE8 := Ext.trans hE hx4
  refine op_g ha rfl (g_assign rfl) ?_; clear ha a; intro a ha; refine wpList_nil ?_; replace ha := ha.sub (σ' := [(1, (.pointer (some ⟨b1, 0, none⟩)))]) ⟨rfl, trivial⟩; refine e_then ?_; refine wp_seq ?_; refine wp_seq ?_; refine wp_region_lit ?_; refine op_g ha rfl (g_loadA (cs := [va0_0]) Tryd.isAgg29 Tryd.sizeOf29 rfl (by simp) hB3.all) ?_; clear ha a; intro a ha; obtain ⟨x9, hc10, hF⟩ := cal_some hF
  refine o_call ha rfl rfl Tryd.call30 (W_spec_GraphOk (ha0_0.ext hE8) hc10) ?_; clear ha a; rintro v11 w12 ⟨rfl, hx13⟩ a ha
  replace hB3 := hB3.ext hx13
  have hE14 := Ext.trans hE8 hx13
  refine op_g ha rfl (g_not rfl) ?_; clear ha a; intro a ha; refine wpList_nil ?_; replace ha := ha.sub (σ' := [(1, (.pointer (some ⟨b1, 0, none⟩))), (10, (.bool (!x9)))]) ⟨rfl, rfl, trivial⟩; refine e_then ?_; refine c_cond (¬ (x9 = true)) ha rfl (n_iff (Iff.rfl)) (fun hp15 => ?_) (fun hp15 => ?_)
  · replace hF := if_t hp15 hF
    refine wp_seq ?_; refine wp_region_lit ?_; refine op_g ha rfl (g_assign rfl) ?_; clear ha a; intro a ha; refine wpList_nil ?_; replace ha := ha.sub (σ' := [(2, (.bool false))]) ⟨rfl, trivial⟩; refine e_then ?_; refine wp_ret ?_; refine e_then_ret ?_; obtain rfl := Option.some.inj hF
    exact f_ret1 ha rfl rfl ⟨rfl, hE14⟩
  replace hF := if_f hp15 hF; refine wp_skip ?_; refine e_then ?_; refine wp_seq ?_; refine wp_region_lit ?_; refine op_g ha rfl (g_loadA (cs := [va0_0]) Tryd.isAgg29 Tryd.sizeOf29 rfl (by simp) hB3.all) ?_; clear ha a; intro a ha; obtain ⟨x16, hc17, hF⟩ := cal_some hF
  refine o_call ha rfl rfl Tryd.call31 (W_spec_l26Best (ha0_0.ext hE14) hc17) ?_; clear ha a; rintro v18 w19 ⟨u21, u22, fp23, rfl, h24, pv25, ⟨rfl, hI27⟩, hx20⟩ a ha
  have q28 := Nq.rd pv25 (Nq.new ha0_0.bnd q7) hB3.bi
  replace hB3 := hB3.ext hx20
  have hE29 := Ext.trans hE14 hx20
  refine op_g ha rfl (g_move rfl) ?_; clear ha a; intro a ha; (iterate 2 refine op_g ha rfl (g_extract rfl rfl) ?_; clear ha a; intro a ha); (iterate 2 refine op_g ha rfl (g_assign rfl) ?_; clear ha a; intro a ha); refine wpList_nil ?_; replace ha := ha.sub (σ' := [(1, (.pointer (some ⟨b1, 0, none⟩))), (4, (.int .i64 x16.2))]) ⟨rfl, rfl, trivial⟩; refine e_then ?_; refine wp_seq ?_; refine wp_seq ?_; refine wp_region_lit ?_; refine op_g ha rfl (g_assign rfl) ?_; clear ha a; intro a ha; refine wpList_nil ?_; refine e_then ?_; obtain ⟨o135, ho136, hK137⟩ := bnd_some hF
  obtain ⟨n138, hn139⟩ := lp_some ho136; clear ho136
  refine c_loop (fun a w => Fr 34 [] a ∧ Chg [] W w ∧ o135 = .inl ()) (fun n a w => ∃ (i84 : Int), Fr 34 [(1, (.pointer (some ⟨b1, 0, none⟩))), (4, (.int .i64 x16.2)), (5, (.int .i64 i84))] a ∧ Chg [] W w ∧ InI i84 ∧ Bx w b1 [va0_0] 29 ∧ Zn W (b1 : Int) ∧ lpN (fun s => F_spec_CriticalIn_l1 a0_0 x16 s) n i84 = some o135) n138 ⟨0, ha.sub ⟨rfl, rfl, rfl, trivial⟩, hE29, (show InI 0 from by decide), hB3, q7, hn139⟩ ?_ ?_
  · rintro m143 a w81 ⟨i84, ha, hE86, hI85, hB82, z83, hF⟩
    cases m143 with
    | zero => exact (lpN_zero hF).elim
    | succ m143 =>
      obtain ⟨z142, hF, hN141⟩ := lpN_succ hF
      have hF : F_spec_CriticalIn_l1 a0_0 x16 i84 = some z142 := hF; unfold F_spec_CriticalIn_l1 at hF
      refine wp_seq ?_; refine wp_seq ?_; refine wp_region_lit ?_; refine op_g ha rfl (g_move rfl) ?_; clear ha a; intro a ha; refine op_g ha rfl (g_field0 st29_0 rfl) ?_; clear ha a; intro a ha; refine op_g ha rfl (g_load Tryd.isAgg27 rfl (hB82.cell rfl)) ?_; clear ha a; intro a ha; refine op_g ha rfl (g_lenR sl27.und ha0_0 rfl) ?_; clear ha a; intro a ha; refine op_g ha rfl (g_lss rfl rfl) ?_; clear ha a; intro a ha; refine wpList_nil ?_; replace ha := ha.sub (σ' := [(1, (.pointer (some ⟨b1, 0, none⟩))), (4, (.int .i64 x16.2)), (5, (.int .i64 i84)), (20, (.bool (decide (i84 < (a0_0.length : Int)))))]) ⟨rfl, rfl, rfl, rfl, trivial⟩
      refine e_then ?_; refine c_cond (i84 < (a0_0.length : Int)) ha rfl (decide_eq_true_iff) (fun hp144 => ?_) (fun hp144 => ?_)
      · replace hF := if_t hp144 hF
        refine wp_skip ?_; refine e_then ?_; refine wp_seq ?_; refine wp_block ?_; refine wp_seq ?_; refine wp_region_lit ?_; refine op_g ha rfl (g_loadA (cs := [va0_0]) Tryd.isAgg29 Tryd.sizeOf29 rfl (by simp) hB82.all) ?_; clear ha a; intro a ha; refine op_g ha rfl (g_move rfl) ?_; clear ha a; intro a ha; obtain ⟨x145, hc146, hF⟩ := cal_some hF
        refine o_call ha rfl rfl Tryd.call32 (W_spec_l26Without (ha0_0.ext hE86) hI85 hc146) ?_; clear ha a; rintro v147 w148 ⟨u150, b151, fs155, rfl, h152, z153, zf156, nd157, hx149⟩ a ha
        have q158 := Nq.new hB82.fpb z153
        have q159 := Nq.madeF z153 zf156 hB82.bi
        have q160 := Nf.new hB82.fpb zf156
        replace hB82 := hB82.ext hx149
        have hE161 := Ext.trans hE86 hx149
        have q162 := Zn.upD z153 hE86
        have q163 := zf_up zf156 hE86
        obtain ⟨fp164, hro165, hs166⟩ := h152.roF
        obtain ⟨x167, hc168, hF⟩ := cal_some hF
        refine o_call ha rfl rfl Tryd.call31 (W_spec_l26Best hro165 hc168) ?_; clear ha a; rintro v169 w170 ⟨u172, u173, fp174, rfl, h175, pv176, ⟨rfl, hI178⟩, hx171⟩ a ha
        have q179 := Nq.rd pv176 (Nq.mono q159 hs166) hB82.bi
        replace hB82 := hB82.ext hx171
        replace h152 := h152.ext hx171
        have hE180 := Ext.trans hE161 hx171
        refine op_g ha rfl (g_move rfl) ?_; clear ha a; intro a ha; (iterate 2 refine op_g ha rfl (g_extract rfl rfl) ?_; clear ha a; intro a ha); (iterate 2 refine op_g ha rfl (g_assign rfl) ?_; clear ha a; intro a ha); refine wpList_nil ?_; replace ha := ha.sub (σ' := [(1, (.pointer (some ⟨b1, 0, none⟩))), (4, (.int .i64 x16.2)), (5, (.int .i64 i84)), (7, (.int .i64 x167.2))]) ⟨rfl, rfl, rfl, rfl, trivial⟩; refine e_then ?_; refine wp_seq ?_; refine wp_region_lit ?_; (iterate 2 refine op_g ha rfl (g_move rfl) ?_; clear ha a; intro a ha); obtain ⟨hI181, hF⟩ := ck_some hF; refine op_g ha rfl (g_sub rfl rfl hI181) ?_; clear ha a; intro a ha
        refine op_g ha rfl (g_neq rfl rfl) ?_; clear ha a; intro a ha; refine wpList_nil ?_; replace ha := ha.sub (σ' := [(1, (.pointer (some ⟨b1, 0, none⟩))), (4, (.int .i64 x16.2)), (5, (.int .i64 i84)), (33, (.bool (decide (x167.2 ≠ (x16.2 - 1)))))]) ⟨rfl, rfl, rfl, rfl, trivial⟩; refine e_then ?_; refine c_cond (x167.2 ≠ (x16.2 - 1)) ha rfl (decide_eq_true_iff) (fun hp183 => ?_) (fun hp183 => ?_)
        · replace hF := if_t hp183 hF
          refine wp_seq ?_; refine wp_region_lit ?_; refine op_g ha rfl (g_assign rfl) ?_; clear ha a; intro a ha; refine wpList_nil ?_; replace ha := ha.sub (σ' := [(2, (.bool false))]) ⟨rfl, trivial⟩; refine e_then ?_; refine wp_ret ?_; refine e_blk_ret ?_; refine e_then_ret ?_; refine e_lq_ret ?_; refine e_then_ret ?_; obtain rfl := Option.some.inj hF
          have e184 := LK_inr hN141; subst e184
          have e185 := BK_inr hK137; subst e185
          exact f_ret1 ha rfl rfl ⟨rfl, hE180⟩
        replace hF := if_f hp183 hF; refine wp_skip ?_; refine e_blk ?_; refine e_then ?_; refine wp_region_lit ?_; refine op_g ha rfl (g_move rfl) ?_; clear ha a; intro a ha; obtain ⟨hI186, hF⟩ := ck_some hF; refine op_g ha rfl (g_add rfl rfl hI186) ?_; clear ha a; intro a ha; refine op_g ha rfl (g_assign rfl) ?_; clear ha a; intro a ha; refine wpList_nil ?_; replace ha := ha.sub (σ' := [(1, (.pointer (some ⟨b1, 0, none⟩))), (4, (.int .i64 x16.2)), (5, (.int .i64 (i84 + 1)))]) ⟨rfl, rfl, rfl, trivial⟩; refine e_lq ?_; obtain rfl := Option.some.inj hF
        exact ⟨_, Nat.lt_succ_self _, i84 + 1, ha.sub ⟨rfl, rfl, rfl, trivial⟩, hE180, hI186, hB82, z83, hN141⟩
      replace hF := if_f hp144 hF; refine wp_exit ?_; refine e_then_exit ?_; refine e_lq_eq ?_; obtain rfl := Option.some.inj hF
      exact ⟨ha.sub trivial, hE86, (LK_inr hN141).symm⟩
  rintro a w134 ⟨ha, hE140, rfl⟩
  have hF : F_spec_CriticalIn_k2 = some _ := hK137; clear hK137; unfold F_spec_CriticalIn_k2 at hF
  refine e_then ?_; refine wp_seq ?_; refine wp_region_lit ?_; refine op_g ha rfl (g_assign rfl) ?_; clear ha a; intro a ha; refine wpList_nil ?_; refine e_then ?_; refine wp_ret ?_; obtain rfl := Option.some.inj hF
  exact f_ret1 ha rfl rfl ⟨rfl, hE140⟩
set_option maxHeartbeats 2000000 in
theorem W_spec_ChromaticOf {W : World} {va0_0 : Value} {fa0_0 : List Nat} {a0_0 : (List (List Int))} (ha0_0 : Ro (Rp.sl 2 Rp.int) W fa0_0 va0_0 a0_0) {r : Int} (hF : F_spec_ChromaticOf a0_0 = some r) :
    Calls Tryd.prog 10 [.agg #[va0_0]].toArray W (Ret fun u w' => (u = .int .i64 r ∧ InI r) ∧ Ext W w') := by
  refine f_enter Tryd.func10 rfl Tryd.ntmps10 rfl ?_
  intro a ha
  replace ha : Fr 14 [(0, (.agg #[va0_0]))] a := ha
  have hE : Chg [] W W := Chg.refl _ _
  unfold F_spec_ChromaticOf at hF
  refine wp_seq ?_; refine wp_region_lit ?_
  refine o_box ha rfl rfl rfl ?_; clear ha a; intro b1 w2 hB3 hx4 hlo5 a ha
  have q6 := Zn.one hlo5
  have q7 := Zn.upD q6 hE
  have hE8 := Ext.trans hE hx4
  refine op_g ha rfl (g_assign rfl) ?_; clear ha a; intro a ha; refine wpList_nil ?_; replace ha := ha.sub (σ' := [(1, (.pointer (some ⟨b1, 0, none⟩)))]) ⟨rfl, trivial⟩; refine e_then ?_; refine wp_seq ?_; refine wp_seq ?_; refine wp_region_lit ?_; refine op_g ha rfl (g_loadA (cs := [va0_0]) Tryd.isAgg29 Tryd.sizeOf29 rfl (by simp) hB3.all) ?_; clear ha a; intro a ha; obtain ⟨x9, hc10, hF⟩ := cal_some hF
  refine o_call ha rfl rfl Tryd.call30 (W_spec_GraphOk (ha0_0.ext hE8) hc10) ?_; clear ha a; rintro v11 w12 ⟨rfl, hx13⟩ a ha
  replace hB3 := hB3.ext hx13
  have hE14 := Ext.trans hE8 hx13
  refine op_g ha rfl (g_not rfl) ?_; clear ha a; intro a ha; refine wpList_nil ?_; replace ha := ha.sub (σ' := [(1, (.pointer (some ⟨b1, 0, none⟩))), (7, (.bool (!x9)))]) ⟨rfl, rfl, trivial⟩; refine e_then ?_; refine c_cond (¬ (x9 = true)) ha rfl (n_iff (Iff.rfl)) (fun hp15 => ?_) (fun hp15 => ?_)
  · replace hF := if_t hp15 hF
    refine wp_seq ?_; refine wp_region_lit ?_; refine op_g ha rfl (g_assign rfl) ?_; clear ha a; intro a ha; refine wpList_nil ?_; replace ha := ha.sub (σ' := [(2, (.int .i64 (-1)))]) ⟨rfl, trivial⟩; refine e_then ?_; refine wp_ret ?_; refine e_then_ret ?_; obtain rfl := Option.some.inj hF
    exact f_ret1 ha rfl rfl ⟨⟨rfl, (show InI (-1) from by decide)⟩, hE14⟩
  replace hF := if_f hp15 hF; refine wp_skip ?_; refine e_then ?_; refine wp_seq ?_; refine wp_region_lit ?_; refine op_g ha rfl (g_loadA (cs := [va0_0]) Tryd.isAgg29 Tryd.sizeOf29 rfl (by simp) hB3.all) ?_; clear ha a; intro a ha; obtain ⟨x16, hc17, hF⟩ := cal_some hF
  refine o_call ha rfl rfl Tryd.call31 (W_spec_l26Best (ha0_0.ext hE14) hc17) ?_; clear ha a; rintro v18 w19 ⟨u21, u22, fp23, rfl, h24, pv25, ⟨rfl, hI27⟩, hx20⟩ a ha
  have q28 := Nq.rd pv25 (Nq.new ha0_0.bnd q7) hB3.bi
  replace hB3 := hB3.ext hx20
  have hE29 := Ext.trans hE14 hx20
  refine op_g ha rfl (g_move rfl) ?_; clear ha a; intro a ha; (iterate 2 refine op_g ha rfl (g_extract rfl rfl) ?_; clear ha a; intro a ha); (iterate 2 refine op_g ha rfl (g_assign rfl) ?_; clear ha a; intro a ha); refine wpList_nil ?_; replace ha := ha.sub (σ' := [(4, (.int .i64 x16.2))]) ⟨rfl, trivial⟩; refine e_then ?_; refine wp_seq ?_; refine wp_region_lit ?_; refine op_g ha rfl (g_move rfl) ?_; clear ha a; intro a ha; refine op_g ha rfl (g_assign rfl) ?_; clear ha a; intro a ha; refine wpList_nil ?_; replace ha := ha.sub (σ' := [(2, (.int .i64 x16.2))]) ⟨rfl, trivial⟩; refine e_then ?_; refine wp_ret ?_
  obtain rfl := Option.some.inj hF
  exact f_ret1 ha rfl rfl ⟨⟨rfl, hI27⟩, hE29⟩
set_option maxHeartbeats 2000000 in
theorem W_laws_FnCritical {W : World} {va0 : Value} {fa0 : List Nat} {a0 : (List (BitVec 8))} (ha0 : Ro Rp.u8 W fa0 va0 a0) (hG : GT 0 W) {r : Bool} (hF : F_laws_FnCritical a0 = some r) :
    Calls Tryd.prog 3 [va0].toArray W (Ret fun u w' => u = .bool r ∧ Ext W w') := by
  refine f_enter Tryd.func3 rfl Tryd.ntmps3 rfl ?_
  intro a ha
  replace ha : Fr 72 [(0, va0)] a := ha
  have hE : Chg [] W W := Chg.refl _ _
  unfold F_laws_FnCritical at hF
  refine wp_seq ?_; refine wp_region_lit ?_; refine op_g ha rfl (g_assign rfl) ?_; clear ha a; intro a ha; refine wpList_nil ?_; replace ha := ha.sub (σ' := [(0, va0)]) ⟨rfl, trivial⟩; refine e_then ?_; refine wp_seq ?_; refine wp_seq ?_; refine wp_region_lit ?_; refine op_g ha rfl (g_move rfl) ?_; clear ha a; intro a ha; obtain ⟨x1, hc2, hF⟩ := cal_some hF
  refine o_call ha rfl rfl Tryd.call5 (W_laws_big (ha0.ext hE) hc2) ?_; clear ha a; rintro v3 w4 ⟨rfl, hx5⟩ a ha
  have hE6 := Ext.trans hE hx5
  refine wpList_nil ?_; replace ha := ha.sub (σ' := [(0, va0), (13, (.bool x1))]) ⟨rfl, rfl, trivial⟩; refine e_then ?_; refine c_cond (x1 = true) ha rfl (Iff.rfl) (fun hp7 => ?_) (fun hp7 => ?_)
  · replace hF := if_t hp7 hF
    refine wp_seq ?_; refine wp_region_lit ?_; refine op_g ha rfl (g_assign rfl) ?_; clear ha a; intro a ha; refine wpList_nil ?_; replace ha := ha.sub (σ' := [(2, (.bool true))]) ⟨rfl, trivial⟩; refine e_then ?_; refine wp_ret ?_; refine e_then_ret ?_; obtain rfl := Option.some.inj hF
    exact f_ret1 ha rfl rfl ⟨rfl, hE6⟩
  replace hF := if_f hp7 hF; refine wp_skip ?_; refine e_then ?_; refine wp_seq ?_; refine wp_region_lit ?_; refine op_g ha rfl (g_move rfl) ?_; clear ha a; intro a ha; obtain ⟨x8, hc9, hF⟩ := cal_some hF
  refine o_call ha rfl rfl Tryd.call6 (W_laws_roll (ha0.ext hE6) (show InU 807 from by decide) hc9) ?_; clear ha a; rintro v10 w11 ⟨b13, fs14, h15, z16, hl17, hx12⟩ a ha
  have hE19 := Ext.trans hE6 hx12
  have q20 := Zn.upD z16 hE6
  refine op_g ha rfl (g_assign rfl) ?_; clear ha a; intro a ha; refine wpList_nil ?_; replace ha := ha.sub (σ' := [(3, v10)]) ⟨rfl, trivial⟩; refine e_then ?_; refine wp_seq ?_; refine wp_region_lit ?_; refine op_g ha rfl (g_move rfl) ?_; clear ha a; intro a ha; obtain ⟨x21, hc22, hF⟩ := cal_some hF
  refine o_call ha rfl rfl Tryd.call7 (W_laws_w6Graph h15 (show InI 6 from by decide) hc22) ?_; clear ha a; rintro v23 w24 ⟨u26, fp27, rfl, h28, pv29, h31, hx25⟩ a ha
  have q32 := Nq.rd pv29 (Nq.nil _) h15.blt
  have hE33 := Ext.then hE19 hx25 (Zn.bl q20)
  refine o_alloc (cs := [(.slice none 0 0)]) ha rfl Tryd.zeroValue29 rfl ?_; clear ha a; intro b34 w35 hB36 hx37 hlo38 a ha
  have q39 := Zn.one hlo38
  have q40 := Nq.new h31.fpb q39
  have q41 := Nq.made1 hlo38 h31.blt
  have q42 := Nq.new h28.bnd q39
  have q43 := Zn.upD q39 hE33
  replace h31 := h31.ext hx37
  replace h28 := h28.ext hx37
  have hE44 := Ext.trans hE33 hx37
  refine o_storeA (vs := [u26]) ha hB36 Tryd.sizeOf29 rfl rfl (by intro c hc; simp only [List.mem_cons, List.not_mem_nil, or_false] at hc; rcases hc with hc <;> subst hc <;> first | rfl | exact h28.oneC) rfl ?_; intro w45 hB46 hc47
  replace hc47 := hc47.bl
  replace hB46 : Bx w45 b34 [u26] 29 := hB46
  replace h31 := h31.nq hc47 q40
  replace h28 := h28.nq hc47 q42
  have hE48 := Ext.then hE44 hc47 (Zn.bl q43)
  refine wpList_nil ?_; replace ha := ha.sub (σ' := [(3, v10), (4, (.pointer (some ⟨b34, 0, none⟩)))]) ⟨rfl, rfl, trivial⟩; refine e_then ?_; refine wp_seq ?_; refine wp_region_lit ?_; refine op_g ha rfl (g_loadA (cs := [u26]) Tryd.isAgg29 Tryd.sizeOf29 rfl (by simp) hB46.all) ?_; clear ha a; intro a ha; obtain ⟨x49, hc50, hF⟩ := cal_some hF
  refine o_call ha rfl rfl Tryd.call8 (W_impl_CriticalIn h28 (hG.ext hE48) hc50) ?_; clear ha a; rintro v51 w52 ⟨rfl, hx53⟩ a ha
  replace h31 := h31.ext hx53
  replace h28 := h28.ext hx53
  replace hB46 := hB46.ext hx53
  have hE54 := Ext.trans hE48 hx53
  refine op_g ha rfl (g_assign rfl) ?_; clear ha a; intro a ha; refine wpList_nil ?_; replace ha := ha.sub (σ' := [(3, v10), (4, (.pointer (some ⟨b34, 0, none⟩))), (5, (.bool x49))]) ⟨rfl, rfl, rfl, trivial⟩; refine e_then ?_; refine wp_seq ?_; refine wp_seq ?_; refine wp_region_lit ?_; refine op_g ha rfl (g_move rfl) ?_; clear ha a; intro a ha; refine op_g ha rfl (g_loadA (cs := [u26]) Tryd.isAgg29 Tryd.sizeOf29 rfl (by simp) hB46.all) ?_; clear ha a; intro a ha; obtain ⟨x55, hc56, hF⟩ := cal_some hF
  refine o_call ha rfl rfl Tryd.call9 (W_spec_CriticalIn h28 hc56) ?_; clear ha a; rintro v57 w58 ⟨rfl, hx59⟩ a ha
  replace h31 := h31.ext hx59
  replace h28 := h28.ext hx59
  replace hB46 := hB46.ext hx59
  have hE60 := Ext.trans hE54 hx59
  refine op_g ha rfl (gB_neq un4 rfl rfl) ?_; clear ha a; intro a ha; refine wpList_nil ?_; replace ha := ha.sub (σ' := [(3, v10), (4, (.pointer (some ⟨b34, 0, none⟩))), (5, (.bool x49)), (23, (.bool (x49 != x55)))]) ⟨rfl, rfl, rfl, rfl, trivial⟩; refine e_then ?_; refine c_cond ((x49 != x55) = true) ha rfl (Iff.rfl) (fun hp61 => ?_) (fun hp61 => ?_)
  · replace hF := if_t hp61 hF
    refine wp_seq ?_; refine wp_region_lit ?_; refine op_g ha rfl (g_assign rfl) ?_; clear ha a; intro a ha; refine wpList_nil ?_; replace ha := ha.sub (σ' := [(2, (.bool false))]) ⟨rfl, trivial⟩; refine e_then ?_; refine wp_ret ?_; refine e_then_ret ?_; obtain rfl := Option.some.inj hF
    exact f_ret1 ha rfl rfl ⟨rfl, hE60⟩
  replace hF := if_f hp61 hF; refine wp_skip ?_; refine e_then ?_; refine wp_seq ?_; refine wp_seq ?_; refine wp_region_lit ?_; refine op_g ha rfl (g_assign rfl) ?_; clear ha a; intro a ha; refine wpList_nil ?_; replace ha := ha.sub (σ' := [(3, v10), (4, (.pointer (some ⟨b34, 0, none⟩))), (5, (.bool x49)), (6, (.int .i64 0))]) ⟨rfl, rfl, rfl, rfl, trivial⟩; refine e_then ?_; obtain ⟨o184, ho185, hK186⟩ := bnd_some hF
  obtain ⟨n187, hn188⟩ := lp_some ho185; clear ho185
  refine c_loop (fun a w => Fr 72 [(3, v10)] a ∧ Chg [] W w ∧ Dc 44 w fs14 b13 v10 x21.2 ∧ Zn W b13 ∧ o184 = .inl ()) (fun n a w => ∃ (i128 : Int), Fr 72 [(3, v10), (4, (.pointer (some ⟨b34, 0, none⟩))), (5, (.bool x49)), (6, (.int .i64 i128))] a ∧ Chg [] W w ∧ InI i128 ∧ Dc 44 w fs14 b13 v10 x21.2 ∧ Zn W b13 ∧ Bx w b34 [u26] 29 ∧ Zn W (b34 : Int) ∧ Ro (Rp.sl 2 Rp.int) w fp27 u26 x21.1 ∧ Nq (bl b13 ++ fs14) (b34 : Int) ∧ Nq ([b34]) b13 ∧ Nq (fp27) b13 ∧ Nq (fp27) (b34 : Int) ∧ lpN (fun s => F_laws_FnCritical_l1 x21 x49 s) n i128 = some o184) n187 ⟨0, ha.sub ⟨rfl, rfl, rfl, rfl, trivial⟩, hE60, (show InI 0 from by decide), h31, q20, hB46, q43, h28, q40, q41, q32, q42, hn188⟩ ?_ ?_
  · rintro m192 a w120 ⟨i128, ha, hE134, hI129, h122, z123, hB124, z125, h127, q130, q131, q132, q133, hF⟩
    cases m192 with
    | zero => exact (lpN_zero hF).elim
    | succ m192 =>
      obtain ⟨z191, hF, hN190⟩ := lpN_succ hF
      have hF : F_laws_FnCritical_l1 x21 x49 i128 = some z191 := hF; unfold F_laws_FnCritical_l1 at hF
      refine wp_seq ?_; refine wp_seq ?_; refine wp_region_lit ?_; refine op_g ha rfl (g_move rfl) ?_; clear ha a; intro a ha; refine op_g ha rfl (g_field0 st29_0 rfl) ?_; clear ha a; intro a ha; refine op_g ha rfl (g_load Tryd.isAgg27 rfl (hB124.cell rfl)) ?_; clear ha a; intro a ha; refine op_g ha rfl (g_lenR sl27.und h127 rfl) ?_; clear ha a; intro a ha; refine op_g ha rfl (g_lss rfl rfl) ?_; clear ha a; intro a ha; refine op_g ha rfl (g_move rfl) ?_; clear ha a; intro a ha
      by_cases hp193 : i128 < (x21.1.length : Int)
      · replace hF := if_t hp193 hF
        rw [show (decide (i128 < (x21.1.length : Int))) = true from (decide_eq_true_iff).2 hp193] at ha
        refine op_want (yields ha rfl rfl) ?_; refine op_g ha rfl (g_move rfl) ?_; clear ha a; intro a ha; refine op_g ha rfl (g_pick rfl rfl) ?_; clear ha a; intro a ha; refine wpList_nil ?_; replace ha := ha.sub (σ' := [(3, v10), (4, (.pointer (some ⟨b34, 0, none⟩))), (5, (.bool x49)), (6, (.int .i64 i128)), (30, (.bool x49)), (31, (.bool x49))]) ⟨rfl, rfl, rfl, rfl, rfl, rfl, trivial⟩; refine e_then ?_; refine c_cond (x49 = true) ha rfl (Iff.rfl) (fun hp194 => ?_) (fun hp194 => ?_)
        · replace hF := if_t hp194 hF
          refine wp_skip ?_; refine e_then ?_; refine wp_seq ?_; refine wp_block ?_; refine wp_seq ?_; refine d_quiet hmix (by kernel_rfl) ?_; refine q_g ha rfl (g_field0 st29_0 rfl) ?_; clear ha a; intro a ha; refine q_g ha rfl (g_load Tryd.isAgg27 rfl (hB124.cell rfl)) ?_; clear ha a; intro a ha; refine q_g ha rfl (g_move rfl) ?_; clear ha a; intro a ha; obtain ⟨x195, g196, gx197, hF⟩ := idx_some hF
          obtain ⟨p198, cs199, f200, hf201, hpb202, hat203, hr204, hi205⟩ := h127.at g196 gx197
          obtain ⟨v206, rfl, h207⟩ := hr204
          have h207 : Ro Rp.int w120 f200 v206 x195 := h207
          have q209 := Nq.mono q132 hf201
          have q210 := Nq.mono q133 hf201
          refine q_g ha rfl (hi205.gives sl27 rfl rfl) ?_; clear ha a; intro a ha; refine q_g ha rfl (g_load Tryd.isAgg32 rfl hat203.one) ?_; clear ha a; intro a ha; refine q_g ha rfl (g_lenR sl32.und h207 rfl) ?_; clear ha a; intro a ha; refine q_g ha rfl (g_loadA (cs := [u26]) Tryd.isAgg29 Tryd.sizeOf29 rfl (by simp) hB124.all) ?_; clear ha a; intro a ha; obtain ⟨x213, hc214, hF⟩ := cal_some hF; refine q_call (.int .i64 x213) ha rfl rfl Tryd.call10 (fun w212 hx211 => W_spec_ChromaticOf (h127.ext hx211) hc214) (fun _ _ _ h => ⟨h.1.1, h.2⟩) ?_; clear ha a; intro a ha
          have hI215 : InI x213 := calls_fact (w := w120) (W_spec_ChromaticOf (h127.ext (Chg.refl _ _)) hc214) (fun _ _ h => h.1.2)
          obtain ⟨hI216, hF⟩ := ck_some hF; refine q_g ha rfl (g_sub rfl rfl hI216) ?_; clear ha a; intro a ha; refine q_g ha rfl (g_lss rfl rfl) ?_; clear ha a; intro a ha
          refine q_nil ?_; intro w218 hx219
          replace h122 := h122.ext hx219
          replace hB124 := hB124.ext hx219
          replace h127 := h127.ext hx219
          replace h207 := h207.ext hx219
          have hE220 := Ext.trans hE134 hx219
          replace ha := ha.sub (σ' := [(3, v10), (4, (.pointer (some ⟨b34, 0, none⟩))), (5, (.bool x49)), (6, (.int .i64 i128)), (30, (.bool x49)), (43, (.bool (decide ((x195.length : Int) < (x213 - 1)))))]) ⟨rfl, rfl, rfl, rfl, rfl, rfl, trivial⟩; refine e_then ?_; refine c_cond ((x195.length : Int) < (x213 - 1)) ha rfl (decide_eq_true_iff) (fun hp221 => ?_) (fun hp221 => ?_)
          · replace hF := if_t hp221 hF
            refine wp_seq ?_; refine wp_region_lit ?_; refine op_g ha rfl (g_assign rfl) ?_; clear ha a; intro a ha; refine wpList_nil ?_; replace ha := ha.sub (σ' := [(2, (.bool false))]) ⟨rfl, trivial⟩; refine e_then ?_; refine wp_ret ?_; refine e_blk_ret ?_; refine e_then_ret ?_; refine e_lq_ret ?_; refine e_then_ret ?_; obtain rfl := Option.some.inj hF
            have e222 := LK_inr hN190; subst e222
            have e223 := BK_inr hK186; subst e223
            exact f_ret1 ha rfl rfl ⟨rfl, hE220⟩
          replace hF := if_f hp221 hF; refine wp_skip ?_; refine e_blk ?_; refine e_then ?_; refine wp_region_lit ?_; refine op_g ha rfl (g_move rfl) ?_; clear ha a; intro a ha; obtain ⟨hI224, hF⟩ := ck_some hF; refine op_g ha rfl (g_add rfl rfl hI224) ?_; clear ha a; intro a ha; refine op_g ha rfl (g_assign rfl) ?_; clear ha a; intro a ha; refine wpList_nil ?_; replace ha := ha.sub (σ' := [(3, v10), (4, (.pointer (some ⟨b34, 0, none⟩))), (5, (.bool x49)), (6, (.int .i64 (i128 + 1))), (30, (.bool x49))]) ⟨rfl, rfl, rfl, rfl, rfl, trivial⟩; refine e_lq ?_; obtain rfl := Option.some.inj hF
          exact ⟨_, Nat.lt_succ_self _, i128 + 1, ha.sub ⟨rfl, rfl, rfl, rfl, trivial⟩, hE220, hI224, h122, z123, hB124, z125, h127, q130, q131, q132, q133, hN190⟩
        replace hF := if_f hp194 hF; refine wp_exit ?_; refine e_then_exit ?_; refine e_lq_eq ?_; obtain rfl := Option.some.inj hF
        exact ⟨ha.sub ⟨rfl, trivial⟩, hE134, h122, z123, (LK_inr hN190).symm⟩
      replace hF := if_f hp193 hF
      rw [show (decide (i128 < (x21.1.length : Int))) = false from b_false (decide_eq_true_iff) hp193] at ha
      refine op_unwant ha rfl (yields ha rfl rfl) rfl ?_; clear ha a; intro a ha; refine op_g ha rfl (g_pick rfl rfl) ?_; clear ha a; intro a ha; refine wpList_nil ?_; replace ha := ha.sub (σ' := [(3, v10), (4, (.pointer (some ⟨b34, 0, none⟩))), (5, (.bool x49)), (6, (.int .i64 i128)), (31, (.bool false))]) ⟨rfl, rfl, rfl, rfl, rfl, trivial⟩; refine e_then ?_; refine c_false ha rfl ?_; refine wp_exit ?_; refine e_then_exit ?_; refine e_lq_eq ?_; obtain rfl := Option.some.inj hF
      exact ⟨ha.sub ⟨rfl, trivial⟩, hE134, h122, z123, (LK_inr hN190).symm⟩
  rintro a w180 ⟨ha, hE189, h182, z183, rfl⟩
  have hF : F_laws_FnCritical_k2 x21 = some _ := hK186; clear hK186; unfold F_laws_FnCritical_k2 at hF
  refine e_then ?_; refine wp_seq ?_; refine wp_region_lit ?_; refine op_g ha rfl (g_move rfl) ?_; clear ha a; intro a ha; obtain ⟨x226, hc227, hF⟩ := cal_some hF
  refine o_call ha rfl rfl Tryd.call11 (W_laws_dice_below h182 (show InI 3 from by decide) hc227) ?_; clear ha a; rintro v228 w229 ⟨⟨rfl, hI231⟩, h232, hx230⟩ a ha
  have hE233 := Ext.then hE189 hx230 (Zn.bl z183)
  obtain ⟨hI234, hF⟩ := ck_some hF; refine op_g ha rfl (g_mul rfl rfl hI234) ?_; clear ha a; intro a ha; obtain ⟨hI236, hF⟩ := ck_some hF; refine op_g ha rfl (g_add rfl rfl hI236) ?_; clear ha a; intro a ha; refine op_g ha rfl (g_assign rfl) ?_; clear ha a; intro a ha; refine wpList_nil ?_; replace ha := ha.sub (σ' := [(7, (.int .i64 (3 + (2 * x226.1))))]) ⟨rfl, trivial⟩; refine e_then ?_; refine wp_seq ?_; refine wp_region_lit ?_; refine op_g ha rfl (g_move rfl) ?_; clear ha a; intro a ha; obtain ⟨hI238, hF⟩ := ck_some hF; refine op_g ha rfl (g_sub rfl rfl hI238) ?_; clear ha a; intro a ha
  have hvob244 : ∀ p ∈ ([((.int .i64 0), [(.int .i64 0)]), ((.int .i64 ((3 + (2 * x226.1)) - 1)), [(.int .i64 ((3 + (2 * x226.1)) - 1))])] : List (Value × List Value)), p.1.cells = p.2.toArray ∧ p.2.length = 1 := by
    intro p hp; simp only [List.mem_cons, List.not_mem_nil, or_false] at hp; rcases hp with hp | hp <;> subst hp <;> first | exact ⟨rfl, rfl⟩
  refine o_litM (o := true) (f := []) (ps := [((.int .i64 0), [(.int .i64 0)]), ((.int .i64 ((3 + (2 * x226.1)) - 1)), [(.int .i64 ((3 + (2 * x226.1)) - 1))])]) (ys := [0, (3 + (2 * x226.1)) - 1]) Rp.int ha rfl sl32 rfl rfl rfl rfl hvob244 ⟨[], [], [(.int .i64 0)], _, rfl, rfl, ⟨rfl, (show InI 0 from by decide), rfl⟩, ⟨[], [], [(.int .i64 ((3 + (2 * x226.1)) - 1))], _, rfl, rfl, ⟨rfl, hI238, rfl⟩, ⟨rfl, rfl⟩⟩⟩ ?_; clear ha a; intro v240 w241 h242 hx243 a ha
  obtain ⟨b245, hb245⟩ : ∃ b : Int, b = w229.heap.size := ⟨_, rfl⟩; rw [← hb245] at h242
  have q246 := zn_of hb245
  have q247 := Zn.upD q246 hE233
  have hE248 := Ext.trans hE233 hx243
  refine o_lit1 (o := true) (y := [0, (3 + (2 * x226.1)) - 1]) (Rp.sl 2 Rp.int) ha rfl sl27 rfl rfl h242.cells (Rp.mkO h242) ?_; clear ha a; intro v249 w250 h251 hx252 a ha
  obtain ⟨b254, hb254⟩ : ∃ b : Int, b = w241.heap.size := ⟨_, rfl⟩; rw [← hb254] at h251
  have q255 := zn_of hb254
  have q256 := zf_mv q247 (zf_nil _)
  have q257 := Zn.upD q255 hE248
  have q258 := nd_lit (bl_nodup b245) h242.fpb hb254
  have hE259 := Ext.trans hE248 hx252
  refine op_g ha rfl (g_assign rfl) ?_; clear ha a; intro a ha; refine wpList_nil ?_; replace ha := ha.sub (σ' := [(7, (.int .i64 (3 + (2 * x226.1)))), (8, v249)]) ⟨rfl, rfl, trivial⟩; refine e_then ?_; refine wp_seq ?_; refine wp_seq ?_; refine wp_region_lit ?_; refine op_g ha rfl (g_assign rfl) ?_; clear ha a; intro a ha; refine wpList_nil ?_; refine e_then ?_; obtain ⟨o403, ho404, hK405⟩ := bnd_some hF
  obtain ⟨n406, hn407⟩ := lp_some ho404; clear ho404
  refine c_loop (fun a w => ∃ (l400 : (List (List Int))) (fs397 : List Nat) (v401 : Value) (b402 : Int), Fr 72 [(7, (.int .i64 (3 + (2 * x226.1)))), (8, v401)] a ∧ Chg [] W w ∧ Ow (Rp.sl 2 Rp.int) 32 true w fs397 b402 v401 l400 ∧ Zn W b402 ∧ (∀ k ∈ fs397, W.heap.size ≤ k) ∧ (bl b402 ++ fs397).Nodup ∧ o403 = .inl l400) (fun n a w => ∃ (l331 : (List (List Int))) (i334 : Int) (fs328 : List Nat) (v332 : Value) (b333 : Int), Fr 72 [(7, (.int .i64 (3 + (2 * x226.1)))), (8, v332), (9, (.int .i64 i334))] a ∧ Chg [] W w ∧ InI i334 ∧ Ow (Rp.sl 2 Rp.int) 32 true w fs328 b333 v332 l331 ∧ Zn W b333 ∧ (∀ k ∈ fs328, W.heap.size ≤ k) ∧ (bl b333 ++ fs328).Nodup ∧ lpN (fun s => F_laws_FnCritical_l3 x226 s.1 s.2) n (l331, i334) = some o403) n406 ⟨[[0, (3 + (2 * x226.1)) - 1]], 1, (bl b245 ++ []), v249, b254, ha.sub ⟨rfl, rfl, rfl, trivial⟩, hE259, (show InI 1 from by decide), h251, q257, q256, q258, hn407⟩ ?_ ?_
  · rintro m411 a w324 ⟨l331, i334, fs328, v332, b333, ha, hE336, hI335, h326, z327, zf329, nd330, hF⟩
    cases m411 with
    | zero => exact (lpN_zero hF).elim
    | succ m411 =>
      obtain ⟨z410, hF, hN409⟩ := lpN_succ hF
      have hF : F_laws_FnCritical_l3 x226 l331 i334 = some z410 := hF; unfold F_laws_FnCritical_l3 at hF
      refine wp_seq ?_; refine wp_seq ?_; refine wp_region_lit ?_; (iterate 2 refine op_g ha rfl (g_move rfl) ?_; clear ha a; intro a ha); refine op_g ha rfl (g_lss rfl rfl) ?_; clear ha a; intro a ha; refine wpList_nil ?_; replace ha := ha.sub (σ' := [(7, (.int .i64 (3 + (2 * x226.1)))), (8, v332), (9, (.int .i64 i334)), (54, (.bool (decide (i334 < (3 + (2 * x226.1))))))]) ⟨rfl, rfl, rfl, rfl, trivial⟩; refine e_then ?_; refine c_cond (i334 < (3 + (2 * x226.1))) ha rfl (decide_eq_true_iff) (fun hp412 => ?_) (fun hp412 => ?_)
      · replace hF := if_t hp412 hF
        refine wp_skip ?_; refine e_then ?_; refine wp_seq ?_; refine wp_block ?_; refine wp_region_lit ?_; (iterate 2 refine op_g ha rfl (g_move rfl) ?_; clear ha a; intro a ha); obtain ⟨hI413, hF⟩ := ck_some hF; refine op_g ha rfl (g_sub rfl rfl hI413) ?_; clear ha a; intro a ha; refine op_g ha rfl (g_move rfl) ?_; clear ha a; intro a ha
        have hvob419 : ∀ p ∈ ([((.int .i64 (i334 - 1)), [(.int .i64 (i334 - 1))]), ((.int .i64 i334), [(.int .i64 i334)])] : List (Value × List Value)), p.1.cells = p.2.toArray ∧ p.2.length = 1 := by
          intro p hp; simp only [List.mem_cons, List.not_mem_nil, or_false] at hp; rcases hp with hp | hp <;> subst hp <;> first | exact ⟨rfl, rfl⟩
        refine o_litM (o := true) (f := []) (ps := [((.int .i64 (i334 - 1)), [(.int .i64 (i334 - 1))]), ((.int .i64 i334), [(.int .i64 i334)])]) (ys := [i334 - 1, i334]) Rp.int ha rfl sl32 rfl rfl rfl rfl hvob419 ⟨[], [], [(.int .i64 (i334 - 1))], _, rfl, rfl, ⟨rfl, hI413, rfl⟩, ⟨[], [], [(.int .i64 i334)], _, rfl, rfl, ⟨rfl, hI335, rfl⟩, ⟨rfl, rfl⟩⟩⟩ ?_; clear ha a; intro v415 w416 h417 hx418 a ha
        obtain ⟨b420, hb420⟩ : ∃ b : Int, b = w324.heap.size := ⟨_, rfl⟩; rw [← hb420] at h417
        have q421 := zn_of hb420
        have q422 := Nq.new h326.fpb q421
        have q423 := Nq.madeO q421 h326.blt
        have q424 := Nf.old q421 (zf_nil _) h326.bnd
        have q425 := Zn.upD q421 hE336
        replace h326 := h326.ext hx418
        have hE426 := Ext.trans hE336 hx418
        refine o_lit1 (o := true) (y := [i334 - 1, i334]) (Rp.sl 2 Rp.int) ha rfl sl27 rfl rfl h417.cells (Rp.mkO h417) ?_; clear ha a; intro v427 w428 h429 hx430 a ha
        obtain ⟨b432, hb432⟩ : ∃ b : Int, b = w416.heap.size := ⟨_, rfl⟩; rw [← hb432] at h429
        have q433 := zn_of hb432
        have q434 := zf_mv q425 (zf_nil _)
        have q435 := dj_of q422
        have q436 := Nq.new h326.fpb q433
        have q437 := Nq.append (Nq.madeL q433 h326.blt) q423
        have q438 := Zn.upD q433 hE426
        have q439 := nd_lit (bl_nodup b420) h417.fpb hb432
        replace h326 := h326.ext hx430
        have hE440 := Ext.trans hE426 hx430
        obtain ⟨hl441, hF⟩ := app_some hF
        have q442 := Nq.right q437
        refine o_append ha rfl sl27 rfl rfl rfl h326 h429.src q442 hl441 ?_; clear ha a; intro v443 w444 b445 h446 hc447 hb448 a ha
        replace h446 : Ow (Rp.sl 2 Rp.int) 32 true w444 (fs328 ++ (bl b420 ++ [])) b445 v443 _ := h446
        have q450 := zf_app zf329 q434
        have q451 := nd_app nd330 (bl_nodup b420) q435 hb448 h326.fpb h429.bnd
        have q452 := Zn.appD z327 hb448 hE440
        have hE453 := Ext.then hE440 hc447 (Zn.bl z327)
        refine op_g ha rfl (g_assign rfl) ?_; clear ha a; intro a ha; refine wpList_nil ?_; replace ha := ha.sub (σ' := [(7, (.int .i64 (3 + (2 * x226.1)))), (8, v443), (9, (.int .i64 i334))]) ⟨rfl, rfl, rfl, trivial⟩; refine e_blk ?_; refine e_then ?_; refine wp_region_lit ?_; refine op_g ha rfl (g_move rfl) ?_; clear ha a; intro a ha; obtain ⟨hI454, hF⟩ := ck_some hF; refine op_g ha rfl (g_add rfl rfl hI454) ?_; clear ha a; intro a ha; refine op_g ha rfl (g_assign rfl) ?_; clear ha a; intro a ha; refine wpList_nil ?_; replace ha := ha.sub (σ' := [(7, (.int .i64 (3 + (2 * x226.1)))), (8, v443), (9, (.int .i64 (i334 + 1)))]) ⟨rfl, rfl, rfl, trivial⟩
        refine e_lq ?_; obtain rfl := Option.some.inj hF
        exact ⟨_, Nat.lt_succ_self _, (l331 ++ ([[i334 - 1, i334]])), i334 + 1, (fs328 ++ (bl b420 ++ [])), v443, b445, ha.sub ⟨rfl, rfl, rfl, trivial⟩, hE453, hI454, h446, q452, q450, q451, hN409⟩
      replace hF := if_f hp412 hF; refine wp_exit ?_; refine e_then_exit ?_; refine e_lq_eq ?_; obtain rfl := Option.some.inj hF
      exact ⟨l331, fs328, v332, b333, ha.sub ⟨rfl, rfl, trivial⟩, hE336, h326, z327, zf329, nd330, (LK_inr hN409).symm⟩
  rintro a w393 ⟨l400, fs397, v401, b402, ha, hE408, h395, z396, zf398, nd399, rfl⟩
  have hF : F_laws_FnCritical_k4 x226 l400 = some _ := hK405; clear hK405; unfold F_laws_FnCritical_k4 at hF
  refine e_then ?_; refine wp_seq ?_; refine wp_region_lit ?_; (iterate 2 refine op_g ha rfl (g_move rfl) ?_; clear ha a; intro a ha)
  obtain ⟨fp456, hro457, hs458⟩ := h395.roF
  obtain ⟨x459, hc460, hF⟩ := cal_some hF
  refine o_call ha rfl rfl Tryd.call12 (W_spec_GraphOf hI236 hro457 hc460) ?_; clear ha a; rintro v461 w462 ⟨u464, u465, u466, fp467, rfl, rfl, h468, pv469, rfl, hx463⟩ a ha
  replace h395 := h395.ext hx463
  have hE471 := Ext.trans hE408 hx463
  refine op_g ha rfl (g_move rfl) ?_; clear ha a; intro a ha; (iterate 2 refine op_g ha rfl (g_extract rfl rfl) ?_; clear ha a; intro a ha)
  refine o_alloc (cs := [(.slice none 0 0)]) ha rfl Tryd.zeroValue29 rfl ?_; clear ha a; intro b472 w473 hB474 hx475 hlo476 a ha
  have q477 := Zn.one hlo476
  have q478 := Nq.new h395.fpb q477
  have q479 := Nq.made1 hlo476 h395.blt
  have q480 := Nq.new h468.bnd q477
  have q481 := Zn.upD q477 hE471
  replace h395 := h395.ext hx475
  replace h468 := h468.ext hx475
  have hE482 := Ext.trans hE471 hx475
  refine o_storeA (vs := [u466]) ha hB474 Tryd.sizeOf29 rfl rfl (by intro c hc; simp only [List.mem_cons, List.not_mem_nil, or_false] at hc; rcases hc with hc <;> subst hc <;> first | rfl | exact h468.oneC) rfl ?_; intro w483 hB484 hc485
  replace hc485 := hc485.bl
  replace hB484 : Bx w483 b472 [u466] 29 := hB484
  replace h395 := h395.nq hc485 q478
  replace h468 := h468.nq hc485 q480
  have hE486 := Ext.then hE482 hc485 (Zn.bl q481)
  refine op_g ha rfl (g_assign rfl) ?_; clear ha a; intro a ha; refine wpList_nil ?_; replace ha := ha.sub (σ' := [(10, (.pointer (some ⟨b472, 0, none⟩)))]) ⟨rfl, trivial⟩; refine e_then ?_; refine wp_seq ?_; refine wp_region_lit ?_; refine op_g ha rfl (g_loadA (cs := [u466]) Tryd.isAgg29 Tryd.sizeOf29 rfl (by simp) hB484.all) ?_; clear ha a; intro a ha; obtain ⟨x487, hc488, hF⟩ := cal_some hF
  refine o_call ha rfl rfl Tryd.call8 (W_impl_CriticalIn h468 (hG.ext hE486) hc488) ?_; clear ha a; rintro v489 w490 ⟨rfl, hx491⟩ a ha
  replace h468 := h468.ext hx491
  replace hB484 := hB484.ext hx491
  have hE492 := Ext.trans hE486 hx491
  refine op_g ha rfl (g_assign rfl) ?_; clear ha a; intro a ha; refine wpList_nil ?_; replace ha := ha.sub (σ' := [(2, (.bool x487))]) ⟨rfl, trivial⟩; refine e_then ?_; refine wp_ret ?_; obtain rfl := Option.some.inj hF
  exact f_ret1 ha rfl rfl ⟨rfl, hE492⟩
end Go.Proofs.YtcoiakapddjckaaDoor
