/- Walks, printed by gen.py. -/
import Derived.Test.YtlbgoodonecebaaDoorF
import Derived.Test.YtlbgoodonecebaaDoorW1
import Derived.Test.YtlbgoodonecebaaDoorProg
import Derived.KernelRfl
set_option maxRecDepth 100000
namespace Go.Proofs.YtlbgoodonecebaaDoor
open Go Go.RowKit

set_option maxHeartbeats 2000000 in
theorem W_impl_GraphOk {W : World} {va0_0 : Value} {fa0_0 : List Nat} {a0_0 : (List (List Int))} (ha0_0 : Ro (Rp.sl 2 Rp.int) W fa0_0 va0_0 a0_0) {r : Bool} (hF : F_impl_GraphOk a0_0 = some r) :
    Calls Tryd.prog 43 [.agg #[va0_0]].toArray W (Ret fun u w' => u = .bool r ∧ Ext W w') := by
  refine f_enter Tryd.func43 rfl Tryd.ntmps43 rfl ?_
  intro a ha
  replace ha : Fr 61 [(0, (.agg #[va0_0]))] a := ha
  have hE : Chg [] W W := Chg.refl _ _
  unfold F_impl_GraphOk at hF
  refine wp_seq ?_
  refine wp_region_lit ?_
  refine o_box ha rfl rfl rfl ?_; clear ha a; intro b1 w2 hB3 hx4 hlo5 a ha
  have q6 := Zn.one hlo5
  have q7 := Zn.upD q6 hE
  have hE8 := Ext.trans hE hx4
  refine op_g ha rfl (g_assign rfl) ?_; clear ha a; intro a ha
  refine wpList_nil ?_
  replace ha := ha.sub (σ' := [(1, (.pointer (some ⟨b1, 0, none⟩)))]) ⟨rfl, trivial⟩
  refine e_then ?_
  refine wp_seq ?_
  refine wp_region_lit ?_
  refine op_g ha rfl (g_field0 st27_0 rfl) ?_; clear ha a; intro a ha
  refine op_g ha rfl (g_load Tryd.isAgg22 rfl (hB3.cell rfl)) ?_; clear ha a; intro a ha
  refine op_g ha rfl (g_lenR sl22.und ha0_0 rfl) ?_; clear ha a; intro a ha
  refine op_g ha rfl (g_assign rfl) ?_; clear ha a; intro a ha
  refine wpList_nil ?_
  replace ha := ha.sub (σ' := [(1, (.pointer (some ⟨b1, 0, none⟩))), (3, (.int .i64 (a0_0.length : Int)))]) ⟨rfl, rfl, trivial⟩
  refine e_then ?_
  refine wp_seq ?_
  refine wp_seq ?_
  refine wp_region_lit ?_
  refine op_g ha rfl (g_move rfl) ?_; clear ha a; intro a ha
  refine op_g ha rfl (g_lss rfl rfl) ?_; clear ha a; intro a ha
  refine op_g ha rfl (g_move rfl) ?_; clear ha a; intro a ha
  by_cases hp11 : (a0_0.length : Int) < 1
  · replace hF := if_t hp11 hF
    rw [show (decide ((a0_0.length : Int) < 1)) = true from (decide_eq_true_iff).2 hp11] at ha
    refine op_unwant ha rfl (yields ha rfl rfl) rfl ?_; clear ha a; intro a ha
    refine op_unwant ha rfl (yields ha rfl rfl) rfl ?_; clear ha a; intro a ha
    refine op_g ha rfl (g_pick rfl rfl) ?_; clear ha a; intro a ha
    refine wpList_nil ?_
    replace ha := ha.sub (σ' := [(1, (.pointer (some ⟨b1, 0, none⟩))), (3, (.int .i64 (a0_0.length : Int))), (18, (.bool true))]) ⟨rfl, rfl, rfl, trivial⟩
    refine e_then ?_
    refine c_true ha rfl ?_
    refine wp_seq ?_
    refine wp_region_lit ?_
    refine op_g ha rfl (g_assign rfl) ?_; clear ha a; intro a ha
    refine wpList_nil ?_
    replace ha := ha.sub (σ' := [(2, (.bool false))]) ⟨rfl, trivial⟩
    refine e_then ?_
    refine wp_ret ?_
    refine e_then_ret ?_
    obtain rfl := Option.some.inj hF
    exact f_ret1 ha rfl rfl ⟨rfl, hE8⟩
  · replace hF := if_f hp11 hF
    rw [show (decide ((a0_0.length : Int) < 1)) = false from b_false (decide_eq_true_iff) hp11] at ha
    refine op_want (yields ha rfl rfl) ?_
    refine op_g ha rfl (g_move rfl) ?_; clear ha a; intro a ha
    refine op_want (yields ha rfl rfl) ?_
    refine op_g ha rfl (g_gtr rfl rfl) ?_; clear ha a; intro a ha
    refine op_g ha rfl (g_pick rfl rfl) ?_; clear ha a; intro a ha
    refine wpList_nil ?_
    replace ha := ha.sub (σ' := [(1, (.pointer (some ⟨b1, 0, none⟩))), (3, (.int .i64 (a0_0.length : Int))), (18, (.bool (decide (16 < (a0_0.length : Int)))))]) ⟨rfl, rfl, rfl, trivial⟩
    refine e_then ?_
    refine c_cond (16 < (a0_0.length : Int)) ha rfl (decide_eq_true_iff) (fun hp12 => ?_) (fun hp12 => ?_)
    · replace hF := if_t hp12 hF
      refine wp_seq ?_
      refine wp_region_lit ?_
      refine op_g ha rfl (g_assign rfl) ?_; clear ha a; intro a ha
      refine wpList_nil ?_
      replace ha := ha.sub (σ' := [(2, (.bool false))]) ⟨rfl, trivial⟩
      refine e_then ?_
      refine wp_ret ?_
      refine e_then_ret ?_
      obtain rfl := Option.some.inj hF
      exact f_ret1 ha rfl rfl ⟨rfl, hE8⟩
    · replace hF := if_f hp12 hF
      refine wp_skip ?_
      refine e_then ?_
      refine wp_seq ?_
      refine wp_seq ?_
      refine wp_region_lit ?_
      refine op_g ha rfl (g_field0 st27_0 rfl) ?_; clear ha a; intro a ha
      refine op_g ha rfl (g_load Tryd.isAgg22 rfl (hB3.cell rfl)) ?_; clear ha a; intro a ha
      refine op_g ha rfl (g_lenR sl22.und ha0_0 rfl) ?_; clear ha a; intro a ha
      refine op_g ha rfl (g_move rfl) ?_; clear ha a; intro a ha
      refine wpList_nil ?_
      replace ha := ha.sub (σ' := [(1, (.pointer (some ⟨b1, 0, none⟩))), (3, (.int .i64 (a0_0.length : Int))), (20, va0_0), (21, (.int .i64 (a0_0.length : Int))), (22, (.int .i64 0))]) ⟨rfl, rfl, rfl, rfl, rfl, trivial⟩
      refine e_then ?_
      obtain ⟨o98, ho99, hK100⟩ := bnd_some hF
      obtain ⟨n101, hn102⟩ := lp_some ho99; clear ho99
      refine c_loop (fun a w => Fr 61 [(1, (.pointer (some ⟨b1, 0, none⟩)))] a ∧ Chg [] W w ∧ Bx w b1 [va0_0] 27 ∧ Zn W (b1 : Int) ∧ o98 = .inl ()) (fun n a w => ∃ (i56 : Int), Fr 61 [(1, (.pointer (some ⟨b1, 0, none⟩))), (3, (.int .i64 (a0_0.length : Int))), (20, va0_0), (21, (.int .i64 (a0_0.length : Int))), (22, (.int .i64 i56))] a ∧ Chg [] W w ∧ InI i56 ∧ Bx w b1 [va0_0] 27 ∧ Zn W (b1 : Int) ∧ lpN (fun s => F_impl_GraphOk_l1 a0_0 s) n i56 = some o98) n101 ⟨0, ha.sub ⟨rfl, rfl, rfl, rfl, rfl, trivial⟩, hE8, (show InI 0 from by decide), hB3, q7, hn102⟩ ?_ ?_
      · rintro m106 a w53 ⟨i56, ha, hE58, hI57, hB54, z55, hF⟩
        cases m106 with
        | zero => exact (lpN_zero hF).elim
        | succ m106 =>
          obtain ⟨z105, hF, hN104⟩ := lpN_succ hF
          have hF : F_impl_GraphOk_l1 a0_0 i56 = some z105 := hF; unfold F_impl_GraphOk_l1 at hF
          refine wp_seq ?_
          refine wp_region_lit ?_
          refine op_g ha rfl (g_lss rfl rfl) ?_; clear ha a; intro a ha
          refine wpList_nil ?_
          replace ha := ha.sub (σ' := [(1, (.pointer (some ⟨b1, 0, none⟩))), (3, (.int .i64 (a0_0.length : Int))), (20, va0_0), (21, (.int .i64 (a0_0.length : Int))), (22, (.int .i64 i56)), (23, (.bool (decide (i56 < (a0_0.length : Int)))))]) ⟨rfl, rfl, rfl, rfl, rfl, rfl, trivial⟩
          refine e_then ?_
          refine wp_seq ?_
          refine c_cond (i56 < (a0_0.length : Int)) ha rfl (decide_eq_true_iff) (fun hp107 => ?_) (fun hp107 => ?_)
          · replace hF := if_t hp107 hF
            refine wp_skip ?_
            refine e_then ?_
            refine wp_seq ?_
            refine wp_block ?_
            refine wp_seq ?_
            refine wp_region_lit ?_
            refine op_g ha rfl (g_move rfl) ?_; clear ha a; intro a ha
            obtain ⟨x108, g109, gx110, hF⟩ := idx_some hF
            obtain ⟨p111, cs112, f113, hf114, hpb115, hat116, hr117, hi118⟩ := ha0_0.at g109 gx110
            obtain ⟨v119, rfl, h120⟩ := hr117
            have h120 : Ro Rp.int W f113 v119 x108 := h120
            refine op_g ha rfl (hi118.gives sl22 rfl rfl) ?_; clear ha a; intro a ha
            refine op_g ha rfl (g_load0 hE58 Tryd.isAgg31 rfl hat116.one) ?_; clear ha a; intro a ha
            refine op_g ha rfl (g_assign rfl) ?_; clear ha a; intro a ha
            refine op_g ha rfl (g_assign rfl) ?_; clear ha a; intro a ha
            refine wpList_nil ?_
            replace ha := ha.sub (σ' := [(1, (.pointer (some ⟨b1, 0, none⟩))), (3, (.int .i64 (a0_0.length : Int))), (4, (.int .i64 i56)), (5, v119), (20, va0_0), (21, (.int .i64 (a0_0.length : Int))), (22, (.int .i64 i56))]) ⟨rfl, rfl, rfl, rfl, rfl, rfl, rfl, trivial⟩
            refine e_then ?_
            refine wp_seq ?_
            refine wp_region_lit ?_
            refine op_g ha rfl (g_move rfl) ?_; clear ha a; intro a ha
            refine op_g ha rfl (g_move rfl) ?_; clear ha a; intro a ha
            obtain ⟨x122, hc123, hF⟩ := cal_some hF
            refine o_call ha rfl rfl Tryd.call70 (W_impl_increasing (h120.ext hE58) ha0_0.len hc123) ?_; clear ha a; rintro v124 w125 ⟨rfl, hx126⟩ a ha
            replace hB54 := hB54.ext hx126
            have hE127 := Ext.trans hE58 hx126
            refine op_g ha rfl (g_not rfl) ?_; clear ha a; intro a ha
            refine op_g ha rfl (g_move rfl) ?_; clear ha a; intro a ha
            by_cases hp128 : ¬ (x122 = true)
            · replace hF := if_t hp128 hF
              rw [show (!x122) = true from (n_iff (Iff.rfl)).2 hp128] at ha
              refine op_unwant ha rfl (yields ha rfl rfl) rfl ?_; clear ha a; intro a ha
              refine op_unwant ha rfl (yields ha rfl rfl) rfl ?_; clear ha a; intro a ha
              refine op_unwant ha rfl (yields ha rfl rfl) rfl ?_; clear ha a; intro a ha
              refine op_g ha rfl (g_pick rfl rfl) ?_; clear ha a; intro a ha
              refine wpList_nil ?_
              replace ha := ha.sub (σ' := [(1, (.pointer (some ⟨b1, 0, none⟩))), (3, (.int .i64 (a0_0.length : Int))), (20, va0_0), (21, (.int .i64 (a0_0.length : Int))), (22, (.int .i64 i56)), (35, (.bool true))]) ⟨rfl, rfl, rfl, rfl, rfl, rfl, trivial⟩
              refine e_then ?_
              refine c_true ha rfl ?_
              refine wp_seq ?_
              refine wp_region_lit ?_
              refine op_g ha rfl (g_assign rfl) ?_; clear ha a; intro a ha
              refine wpList_nil ?_
              replace ha := ha.sub (σ' := [(2, (.bool false))]) ⟨rfl, trivial⟩
              refine e_then ?_
              refine wp_ret ?_
              refine e_blk_ret ?_
              refine e_then_ret ?_
              refine e_lq_ret ?_
              refine e_then_ret ?_
              obtain rfl := Option.some.inj hF
              have e129 := LK_inr hN104; subst e129
              have e130 := BK_inr hK100; subst e130
              exact f_ret1 ha rfl rfl ⟨rfl, hE127⟩
            · replace hF := if_f hp128 hF
              rw [show (!x122) = false from b_false (n_iff (Iff.rfl)) hp128] at ha
              refine op_want (yields ha rfl rfl) ?_
              refine op_g ha rfl (g_move rfl) ?_; clear ha a; intro a ha
              refine op_want (yields ha rfl rfl) ?_
              refine op_g ha rfl (g_move rfl) ?_; clear ha a; intro a ha
              refine op_want (yields ha rfl rfl) ?_
              obtain ⟨x131, hc132, hF⟩ := cal_some hF
              refine o_call ha rfl rfl Tryd.call71 (W_slices_Contains_int64 (h120.ext hE127) hI57 hc132) ?_; clear ha a; rintro v133 w134 ⟨rfl, hx135⟩ a ha
              replace hB54 := hB54.ext hx135
              have hE136 := Ext.trans hE127 hx135
              refine op_g ha rfl (g_pick rfl rfl) ?_; clear ha a; intro a ha
              refine wpList_nil ?_
              replace ha := ha.sub (σ' := [(1, (.pointer (some ⟨b1, 0, none⟩))), (3, (.int .i64 (a0_0.length : Int))), (20, va0_0), (21, (.int .i64 (a0_0.length : Int))), (22, (.int .i64 i56)), (32, v119), (33, (.int .i64 i56)), (34, (.bool x131)), (35, (.bool x131))]) ⟨rfl, rfl, rfl, rfl, rfl, rfl, rfl, rfl, rfl, trivial⟩
              refine e_then ?_
              refine c_cond (x131 = true) ha rfl (Iff.rfl) (fun hp137 => ?_) (fun hp137 => ?_)
              · replace hF := if_t hp137 hF
                refine wp_seq ?_
                refine wp_region_lit ?_
                refine op_g ha rfl (g_assign rfl) ?_; clear ha a; intro a ha
                refine wpList_nil ?_
                replace ha := ha.sub (σ' := [(2, (.bool false))]) ⟨rfl, trivial⟩
                refine e_then ?_
                refine wp_ret ?_
                refine e_blk_ret ?_
                refine e_then_ret ?_
                refine e_lq_ret ?_
                refine e_then_ret ?_
                obtain rfl := Option.some.inj hF
                have e138 := LK_inr hN104; subst e138
                have e139 := BK_inr hK100; subst e139
                exact f_ret1 ha rfl rfl ⟨rfl, hE136⟩
              · replace hF := if_f hp137 hF
                refine wp_skip ?_
                refine e_blk ?_
                refine e_then ?_
                refine wp_region_lit ?_
                obtain ⟨hI140, hF⟩ := ck_some hF
                refine op_g ha rfl (g_add rfl rfl hI140) ?_; clear ha a; intro a ha
                refine op_g ha rfl (g_move rfl) ?_; clear ha a; intro a ha
                refine wpList_nil ?_
                replace ha := ha.sub (σ' := [(1, (.pointer (some ⟨b1, 0, none⟩))), (3, (.int .i64 (a0_0.length : Int))), (20, va0_0), (21, (.int .i64 (a0_0.length : Int))), (22, (.int .i64 (i56 + 1))), (32, v119), (33, (.int .i64 i56)), (34, (.bool x131))]) ⟨rfl, rfl, rfl, rfl, rfl, rfl, rfl, rfl, trivial⟩
                refine e_lq ?_
                obtain rfl := Option.some.inj hF
                exact ⟨_, Nat.lt_succ_self _, i56 + 1, ha.sub ⟨rfl, rfl, rfl, rfl, rfl, trivial⟩, hE136, hI140, hB54, z55, hN104⟩
          · replace hF := if_f hp107 hF
            refine wp_exit ?_
            refine e_then_exit ?_
            refine e_lq_eq ?_
            obtain rfl := Option.some.inj hF
            exact ⟨ha.sub ⟨rfl, trivial⟩, hE58, hB54, z55, (LK_inr hN104).symm⟩
      · rintro a w95 ⟨ha, hE103, hB96, z97, rfl⟩
        have hF : F_impl_GraphOk_k2 a0_0 = some _ := hK100; clear hK100; unfold F_impl_GraphOk_k2 at hF
        refine e_then ?_
        refine wp_seq ?_
        refine wp_seq ?_
        refine wp_region_lit ?_
        refine op_g ha rfl (g_field0 st27_0 rfl) ?_; clear ha a; intro a ha
        refine op_g ha rfl (g_load Tryd.isAgg22 rfl (hB96.cell rfl)) ?_; clear ha a; intro a ha
        refine op_g ha rfl (g_lenR sl22.und ha0_0 rfl) ?_; clear ha a; intro a ha
        refine op_g ha rfl (g_move rfl) ?_; clear ha a; intro a ha
        refine wpList_nil ?_
        replace ha := ha.sub (σ' := [(1, (.pointer (some ⟨b1, 0, none⟩))), (38, va0_0), (39, (.int .i64 (a0_0.length : Int))), (40, (.int .i64 0))]) ⟨rfl, rfl, rfl, rfl, trivial⟩
        refine e_then ?_
        obtain ⟨o477, ho478, hK479⟩ := bnd_some hF
        obtain ⟨n480, hn481⟩ := lp_some ho478; clear ho478
        refine c_loop (fun a w => Fr 61 [] a ∧ Chg [] W w ∧ o477 = .inl ()) (fun n a w => ∃ (i311 : Int), Fr 61 [(1, (.pointer (some ⟨b1, 0, none⟩))), (38, va0_0), (39, (.int .i64 (a0_0.length : Int))), (40, (.int .i64 i311))] a ∧ Chg [] W w ∧ InI i311 ∧ Bx w b1 [va0_0] 27 ∧ Zn W (b1 : Int) ∧ lpN (fun s => F_impl_GraphOk_l3 a0_0 s) n i311 = some o477) n480 ⟨0, ha.sub ⟨rfl, rfl, rfl, rfl, trivial⟩, hE103, (show InI 0 from by decide), hB96, z97, hn481⟩ ?_ ?_
        · rintro m485 a w308 ⟨i311, ha, hE313, hI312, hB309, z310, hF⟩
          cases m485 with
          | zero => exact (lpN_zero hF).elim
          | succ m485 =>
            obtain ⟨z484, hF, hN483⟩ := lpN_succ hF
            have hF : F_impl_GraphOk_l3 a0_0 i311 = some z484 := hF; unfold F_impl_GraphOk_l3 at hF
            refine wp_seq ?_
            refine wp_region_lit ?_
            refine op_g ha rfl (g_lss rfl rfl) ?_; clear ha a; intro a ha
            refine wpList_nil ?_
            replace ha := ha.sub (σ' := [(1, (.pointer (some ⟨b1, 0, none⟩))), (38, va0_0), (39, (.int .i64 (a0_0.length : Int))), (40, (.int .i64 i311)), (41, (.bool (decide (i311 < (a0_0.length : Int)))))]) ⟨rfl, rfl, rfl, rfl, rfl, trivial⟩
            refine e_then ?_
            refine wp_seq ?_
            refine c_cond (i311 < (a0_0.length : Int)) ha rfl (decide_eq_true_iff) (fun hp486 => ?_) (fun hp486 => ?_)
            · replace hF := if_t hp486 hF
              refine wp_skip ?_
              refine e_then ?_
              refine wp_seq ?_
              refine wp_block ?_
              refine wp_seq ?_
              refine wp_region_lit ?_
              refine op_g ha rfl (g_move rfl) ?_; clear ha a; intro a ha
              obtain ⟨x487, g488, gx489, hF⟩ := idx_some hF
              obtain ⟨p490, cs491, f492, hf493, hpb494, hat495, hr496, hi497⟩ := ha0_0.at g488 gx489
              obtain ⟨v498, rfl, h499⟩ := hr496
              have h499 : Ro Rp.int W f492 v498 x487 := h499
              refine op_g ha rfl (hi497.gives sl22 rfl rfl) ?_; clear ha a; intro a ha
              refine op_g ha rfl (g_load0 hE313 Tryd.isAgg31 rfl hat495.one) ?_; clear ha a; intro a ha
              refine op_g ha rfl (g_assign rfl) ?_; clear ha a; intro a ha
              refine op_g ha rfl (g_assign rfl) ?_; clear ha a; intro a ha
              refine wpList_nil ?_
              replace ha := ha.sub (σ' := [(1, (.pointer (some ⟨b1, 0, none⟩))), (6, (.int .i64 i311)), (7, v498), (38, va0_0), (39, (.int .i64 (a0_0.length : Int))), (40, (.int .i64 i311))]) ⟨rfl, rfl, rfl, rfl, rfl, rfl, trivial⟩
              refine e_then ?_
              refine wp_seq ?_
              refine wp_region_lit ?_
              refine op_g ha rfl (g_move rfl) ?_; clear ha a; intro a ha
              refine op_g ha rfl (g_lenR sl31.und h499 rfl) ?_; clear ha a; intro a ha
              refine op_g ha rfl (g_move rfl) ?_; clear ha a; intro a ha
              refine wpList_nil ?_
              replace ha := ha.sub (σ' := [(1, (.pointer (some ⟨b1, 0, none⟩))), (6, (.int .i64 i311)), (38, va0_0), (39, (.int .i64 (a0_0.length : Int))), (40, (.int .i64 i311)), (45, v498), (46, (.int .i64 (x487.length : Int))), (47, (.int .i64 0))]) ⟨rfl, rfl, rfl, rfl, rfl, rfl, rfl, rfl, trivial⟩
              refine e_then ?_
              obtain ⟨o596, ho597, hK598⟩ := bnd_some hF
              obtain ⟨n599, hn600⟩ := lp_some ho597; clear ho597
              refine c_loop (fun a w => Fr 61 [(1, (.pointer (some ⟨b1, 0, none⟩))), (38, va0_0), (39, (.int .i64 (a0_0.length : Int))), (40, (.int .i64 i311))] a ∧ Chg [] W w ∧ Bx w b1 [va0_0] 27 ∧ Zn W (b1 : Int) ∧ o596 = .inl ()) (fun n a w => ∃ (i549 : Int), Fr 61 [(1, (.pointer (some ⟨b1, 0, none⟩))), (6, (.int .i64 i311)), (38, va0_0), (39, (.int .i64 (a0_0.length : Int))), (40, (.int .i64 i311)), (45, v498), (46, (.int .i64 (x487.length : Int))), (47, (.int .i64 i549))] a ∧ Chg [] W w ∧ InI i549 ∧ Bx w b1 [va0_0] 27 ∧ Zn W (b1 : Int) ∧ lpN (fun s => F_impl_GraphOk_l4 a0_0 i311 x487 s) n i549 = some o596) n599 ⟨0, ha.sub ⟨rfl, rfl, rfl, rfl, rfl, rfl, rfl, rfl, trivial⟩, hE313, (show InI 0 from by decide), hB309, z310, hn600⟩ ?_ ?_
              · rintro m604 a w546 ⟨i549, ha, hE551, hI550, hB547, z548, hF⟩
                cases m604 with
                | zero => exact (lpN_zero hF).elim
                | succ m604 =>
                  obtain ⟨z603, hF, hN602⟩ := lpN_succ hF
                  have hF : F_impl_GraphOk_l4 a0_0 i311 x487 i549 = some z603 := hF; unfold F_impl_GraphOk_l4 at hF
                  refine wp_seq ?_
                  refine wp_region_lit ?_
                  refine op_g ha rfl (g_lss rfl rfl) ?_; clear ha a; intro a ha
                  refine wpList_nil ?_
                  replace ha := ha.sub (σ' := [(1, (.pointer (some ⟨b1, 0, none⟩))), (6, (.int .i64 i311)), (38, va0_0), (39, (.int .i64 (a0_0.length : Int))), (40, (.int .i64 i311)), (45, v498), (46, (.int .i64 (x487.length : Int))), (47, (.int .i64 i549)), (48, (.bool (decide (i549 < (x487.length : Int)))))]) ⟨rfl, rfl, rfl, rfl, rfl, rfl, rfl, rfl, rfl, trivial⟩
                  refine e_then ?_
                  refine wp_seq ?_
                  refine c_cond (i549 < (x487.length : Int)) ha rfl (decide_eq_true_iff) (fun hp605 => ?_) (fun hp605 => ?_)
                  · replace hF := if_t hp605 hF
                    refine wp_skip ?_
                    refine e_then ?_
                    refine wp_seq ?_
                    refine wp_block ?_
                    refine wp_seq ?_
                    refine wp_region_lit ?_
                    obtain ⟨x606, g607, gx608, hF⟩ := idx_some hF
                    obtain ⟨p609, cs610, f611, hf612, hpb613, hat614, hr615, hi616⟩ := h499.at g607 gx608
                    obtain ⟨rfl, hI617, rfl⟩ := hr615
                    refine op_g ha rfl (hi616.gives sl31 rfl rfl) ?_; clear ha a; intro a ha
                    refine op_g ha rfl (g_load0 hE551 Tryd.isAgg2 rfl hat614.one) ?_; clear ha a; intro a ha
                    refine op_g ha rfl (g_assign rfl) ?_; clear ha a; intro a ha
                    refine wpList_nil ?_
                    replace ha := ha.sub (σ' := [(1, (.pointer (some ⟨b1, 0, none⟩))), (6, (.int .i64 i311)), (9, (.int .i64 x606)), (38, va0_0), (39, (.int .i64 (a0_0.length : Int))), (40, (.int .i64 i311)), (45, v498), (46, (.int .i64 (x487.length : Int))), (47, (.int .i64 i549))]) ⟨rfl, rfl, rfl, rfl, rfl, rfl, rfl, rfl, rfl, trivial⟩
                    refine e_then ?_
                    refine wp_seq ?_
                    refine wp_region_lit ?_
                    refine op_g ha rfl (g_field0 st27_0 rfl) ?_; clear ha a; intro a ha
                    refine op_g ha rfl (g_load Tryd.isAgg22 rfl (hB547.cell rfl)) ?_; clear ha a; intro a ha
                    refine op_g ha rfl (g_move rfl) ?_; clear ha a; intro a ha
                    obtain ⟨x618, g619, gx620, hF⟩ := idx_some hF
                    obtain ⟨p621, cs622, f623, hf624, hpb625, hat626, hr627, hi628⟩ := ha0_0.at g619 gx620
                    obtain ⟨v629, rfl, h630⟩ := hr627
                    have h630 : Ro Rp.int W f623 v629 x618 := h630
                    refine op_g ha rfl (hi628.gives sl22 rfl rfl) ?_; clear ha a; intro a ha
                    refine op_g ha rfl (g_load0 hE551 Tryd.isAgg31 rfl hat626.one) ?_; clear ha a; intro a ha
                    refine op_g ha rfl (g_move rfl) ?_; clear ha a; intro a ha
                    obtain ⟨x632, hc633, hF⟩ := cal_some hF
                    refine o_call ha rfl rfl Tryd.call71 (W_slices_Contains_int64 (h630.ext hE551) hI312 hc633) ?_; clear ha a; rintro v634 w635 ⟨rfl, hx636⟩ a ha
                    replace hB547 := hB547.ext hx636
                    have hE637 := Ext.trans hE551 hx636
                    refine op_g ha rfl (g_not rfl) ?_; clear ha a; intro a ha
                    refine wpList_nil ?_
                    replace ha := ha.sub (σ' := [(1, (.pointer (some ⟨b1, 0, none⟩))), (6, (.int .i64 i311)), (38, va0_0), (39, (.int .i64 (a0_0.length : Int))), (40, (.int .i64 i311)), (45, v498), (46, (.int .i64 (x487.length : Int))), (47, (.int .i64 i549)), (58, (.bool (!x632)))]) ⟨rfl, rfl, rfl, rfl, rfl, rfl, rfl, rfl, rfl, trivial⟩
                    refine e_then ?_
                    refine c_cond (¬ (x632 = true)) ha rfl (n_iff (Iff.rfl)) (fun hp638 => ?_) (fun hp638 => ?_)
                    · replace hF := if_t hp638 hF
                      refine wp_seq ?_
                      refine wp_region_lit ?_
                      refine op_g ha rfl (g_assign rfl) ?_; clear ha a; intro a ha
                      refine wpList_nil ?_
                      replace ha := ha.sub (σ' := [(2, (.bool false))]) ⟨rfl, trivial⟩
                      refine e_then ?_
                      refine wp_ret ?_
                      refine e_blk_ret ?_
                      refine e_then_ret ?_
                      refine e_lq_ret ?_
                      refine e_blk_ret ?_
                      refine e_then_ret ?_
                      refine e_lq_ret ?_
                      refine e_then_ret ?_
                      obtain rfl := Option.some.inj hF
                      have e639 := LK_inr hN602; subst e639
                      have e640 := BK_inr hK598; subst e640
                      have e641 := LK_inr hN483; subst e641
                      have e642 := BK_inr hK479; subst e642
                      exact f_ret1 ha rfl rfl ⟨rfl, hE637⟩
                    · replace hF := if_f hp638 hF
                      refine wp_skip ?_
                      refine e_blk ?_
                      refine e_then ?_
                      refine wp_region_lit ?_
                      obtain ⟨hI643, hF⟩ := ck_some hF
                      refine op_g ha rfl (g_add rfl rfl hI643) ?_; clear ha a; intro a ha
                      refine op_g ha rfl (g_move rfl) ?_; clear ha a; intro a ha
                      refine wpList_nil ?_
                      replace ha := ha.sub (σ' := [(1, (.pointer (some ⟨b1, 0, none⟩))), (6, (.int .i64 i311)), (38, va0_0), (39, (.int .i64 (a0_0.length : Int))), (40, (.int .i64 i311)), (45, v498), (46, (.int .i64 (x487.length : Int))), (47, (.int .i64 (i549 + 1)))]) ⟨rfl, rfl, rfl, rfl, rfl, rfl, rfl, rfl, trivial⟩
                      refine e_lq ?_
                      obtain rfl := Option.some.inj hF
                      exact ⟨_, Nat.lt_succ_self _, i549 + 1, ha.sub ⟨rfl, rfl, rfl, rfl, rfl, rfl, rfl, rfl, trivial⟩, hE637, hI643, hB547, z548, hN602⟩
                  · replace hF := if_f hp605 hF
                    refine wp_exit ?_
                    refine e_then_exit ?_
                    refine e_lq_eq ?_
                    obtain rfl := Option.some.inj hF
                    exact ⟨ha.sub ⟨rfl, rfl, rfl, rfl, trivial⟩, hE551, hB547, z548, (LK_inr hN602).symm⟩
              · rintro a w593 ⟨ha, hE601, hB594, z595, rfl⟩
                have hF : F_impl_GraphOk_k5 i311 = some _ := hK598; clear hK598; unfold F_impl_GraphOk_k5 at hF
                refine e_blk ?_
                refine e_then ?_
                refine wp_region_lit ?_
                obtain ⟨hI645, hF⟩ := ck_some hF
                refine op_g ha rfl (g_add rfl rfl hI645) ?_; clear ha a; intro a ha
                refine op_g ha rfl (g_move rfl) ?_; clear ha a; intro a ha
                refine wpList_nil ?_
                replace ha := ha.sub (σ' := [(1, (.pointer (some ⟨b1, 0, none⟩))), (38, va0_0), (39, (.int .i64 (a0_0.length : Int))), (40, (.int .i64 (i311 + 1)))]) ⟨rfl, rfl, rfl, rfl, trivial⟩
                refine e_lq ?_
                obtain rfl := Option.some.inj hF
                exact ⟨_, Nat.lt_succ_self _, i311 + 1, ha.sub ⟨rfl, rfl, rfl, rfl, trivial⟩, hE601, hI645, hB594, z595, hN483⟩
            · replace hF := if_f hp486 hF
              refine wp_exit ?_
              refine e_then_exit ?_
              refine e_lq_eq ?_
              obtain rfl := Option.some.inj hF
              exact ⟨ha.sub trivial, hE313, (LK_inr hN483).symm⟩
        · rintro a w476 ⟨ha, hE482, rfl⟩
          have hF : F_impl_GraphOk_k6 = some _ := hK479; clear hK479; unfold F_impl_GraphOk_k6 at hF
          refine e_then ?_
          refine wp_seq ?_
          refine wp_region_lit ?_
          refine op_g ha rfl (g_assign rfl) ?_; clear ha a; intro a ha
          refine wpList_nil ?_
          refine e_then ?_
          refine wp_ret ?_
          obtain rfl := Option.some.inj hF
          exact f_ret1 ha rfl rfl ⟨rfl, hE482⟩
set_option maxHeartbeats 2000000 in
theorem W_impl_one {W : World} {a0 : Int} (ha0 : InI a0) {r : (BitVec 32)} (hF : F_impl_one a0 = some r) :
    Calls Tryd.prog 47 [.int .i64 a0].toArray W (Ret fun u w' => u = .int .u32 (BitVec.toNat r : Int) ∧ Ext W w') := by
  refine f_enter Tryd.func47 rfl Tryd.ntmps47 rfl ?_
  intro a ha
  replace ha : Fr 5 [(0, (.int .i64 a0))] a := ha
  have hE : Chg [] W W := Chg.refl _ _
  unfold F_impl_one at hF
  refine wp_seq ?_
  refine wp_region_lit ?_
  refine op_g ha rfl (g_assign rfl) ?_; clear ha a; intro a ha
  refine wpList_nil ?_
  replace ha := ha.sub (σ' := [(0, (.int .i64 a0))]) ⟨rfl, trivial⟩
  refine e_then ?_
  refine wp_seq ?_
  refine wp_region_lit ?_
  refine op_g ha rfl (g_move rfl) ?_; clear ha a; intro a ha
  obtain ⟨hs1, hF⟩ := grd_some hF
  refine op_g ha rfl (g32_shl (m := (1#32)) rfl rfl hs1) ?_; clear ha a; intro a ha
  refine op_g ha rfl (g_assign rfl) ?_; clear ha a; intro a ha
  refine wpList_nil ?_
  replace ha := ha.sub (σ' := [(2, (.int .u32 (BitVec.toNat ((1#32) <<< (a0 : Int).toNat) : Int)))]) ⟨rfl, trivial⟩
  refine e_then ?_
  refine wp_ret ?_
  obtain rfl := Option.some.inj hF
  exact f_ret1 ha rfl rfl ⟨rfl, hE⟩
set_option maxHeartbeats 2000000 in
theorem W_impl_maskOf {W : World} {va0 : Value} {fa0 : List Nat} {a0 : (List Int)} (ha0 : Ro Rp.int W fa0 va0 a0) {r : (BitVec 32)} (hF : F_impl_maskOf a0 = some r) :
    Calls Tryd.prog 53 [va0].toArray W (Ret fun u w' => u = .int .u32 (BitVec.toNat r : Int) ∧ Ext W w') := by
  refine f_enter Tryd.func53 rfl Tryd.ntmps53 rfl ?_
  intro a ha
  replace ha : Fr 18 [(0, va0)] a := ha
  have hE : Chg [] W W := Chg.refl _ _
  unfold F_impl_maskOf at hF
  refine wp_seq ?_
  refine wp_region_lit ?_
  refine op_g ha rfl (g_assign rfl) ?_; clear ha a; intro a ha
  refine wpList_nil ?_
  replace ha := ha.sub (σ' := [(0, va0)]) ⟨rfl, trivial⟩
  refine e_then ?_
  refine wp_seq ?_
  refine wp_region_lit ?_
  refine op_g ha rfl (g_assign rfl) ?_; clear ha a; intro a ha
  refine wpList_nil ?_
  refine e_then ?_
  refine wp_seq ?_
  refine wp_seq ?_
  refine wp_region_lit ?_
  refine op_g ha rfl (g_move rfl) ?_; clear ha a; intro a ha
  refine op_g ha rfl (g_lenR sl31.und ha0 rfl) ?_; clear ha a; intro a ha
  refine op_g ha rfl (g_move rfl) ?_; clear ha a; intro a ha
  refine wpList_nil ?_
  replace ha := ha.sub (σ' := [(3, (.int .u32 (BitVec.toNat (0#32) : Int))), (6, va0), (7, (.int .i64 (a0.length : Int))), (8, (.int .i64 0))]) ⟨rfl, rfl, rfl, rfl, trivial⟩
  refine e_then ?_
  obtain ⟨o60, ho61, hK62⟩ := bnd_some hF
  obtain ⟨n63, hn64⟩ := lp_some ho61; clear ho61
  refine c_loop (fun a w => ∃ (u59 : BitVec 32), Fr 18 [(3, (.int .u32 (BitVec.toNat u59 : Int)))] a ∧ Chg [] W w ∧ o60 = .inl u59) (fun n a w => ∃ (u29 : BitVec 32) (i30 : Int), Fr 18 [(3, (.int .u32 (BitVec.toNat u29 : Int))), (6, va0), (7, (.int .i64 (a0.length : Int))), (8, (.int .i64 i30))] a ∧ Chg [] W w ∧ InI i30 ∧ lpN (fun s => F_impl_maskOf_l1 a0 s.1 s.2) n (u29, i30) = some o60) n63 ⟨0#32, 0, ha.sub ⟨rfl, rfl, rfl, rfl, trivial⟩, hE, (show InI 0 from by decide), hn64⟩ ?_ ?_
  · rintro m68 a w28 ⟨u29, i30, ha, hE32, hI31, hF⟩
    cases m68 with
    | zero => exact (lpN_zero hF).elim
    | succ m68 =>
      obtain ⟨z67, hF, hN66⟩ := lpN_succ hF
      have hF : F_impl_maskOf_l1 a0 u29 i30 = some z67 := hF; unfold F_impl_maskOf_l1 at hF
      refine wp_seq ?_
      refine wp_region_lit ?_
      refine op_g ha rfl (g_lss rfl rfl) ?_; clear ha a; intro a ha
      refine wpList_nil ?_
      replace ha := ha.sub (σ' := [(3, (.int .u32 (BitVec.toNat u29 : Int))), (6, va0), (7, (.int .i64 (a0.length : Int))), (8, (.int .i64 i30)), (9, (.bool (decide (i30 < (a0.length : Int)))))]) ⟨rfl, rfl, rfl, rfl, rfl, trivial⟩
      refine e_then ?_
      refine wp_seq ?_
      refine c_cond (i30 < (a0.length : Int)) ha rfl (decide_eq_true_iff) (fun hp69 => ?_) (fun hp69 => ?_)
      · replace hF := if_t hp69 hF
        refine wp_skip ?_
        refine e_then ?_
        refine wp_seq ?_
        refine wp_block ?_
        refine wp_seq ?_
        refine wp_region_lit ?_
        obtain ⟨x70, g71, gx72, hF⟩ := idx_some hF
        obtain ⟨p73, cs74, f75, hf76, hpb77, hat78, hr79, hi80⟩ := ha0.at g71 gx72
        obtain ⟨rfl, hI81, rfl⟩ := hr79
        refine op_g ha rfl (hi80.gives sl31 rfl rfl) ?_; clear ha a; intro a ha
        refine op_g ha rfl (g_load0 hE32 Tryd.isAgg2 rfl hat78.one) ?_; clear ha a; intro a ha
        refine op_g ha rfl (g_assign rfl) ?_; clear ha a; intro a ha
        refine wpList_nil ?_
        replace ha := ha.sub (σ' := [(3, (.int .u32 (BitVec.toNat u29 : Int))), (5, (.int .i64 x70)), (6, va0), (7, (.int .i64 (a0.length : Int))), (8, (.int .i64 i30))]) ⟨rfl, rfl, rfl, rfl, rfl, trivial⟩
        refine e_then ?_
        refine wp_region_lit ?_
        refine op_g ha rfl (g_move rfl) ?_; clear ha a; intro a ha
        refine op_g ha rfl (g_move rfl) ?_; clear ha a; intro a ha
        obtain ⟨x82, hc83, hF⟩ := cal_some hF
        refine o_call ha rfl rfl Tryd.call47 (W_impl_one hI81 hc83) ?_; clear ha a; rintro v84 w85 ⟨rfl, hx86⟩ a ha
        have hE87 := Ext.trans hE32 hx86
        refine op_g ha rfl (g32_or (m := u29) (n := x82) rfl rfl) ?_; clear ha a; intro a ha
        refine op_g ha rfl (g_assign rfl) ?_; clear ha a; intro a ha
        refine wpList_nil ?_
        replace ha := ha.sub (σ' := [(3, (.int .u32 (BitVec.toNat (u29 ||| x82) : Int))), (6, va0), (7, (.int .i64 (a0.length : Int))), (8, (.int .i64 i30))]) ⟨rfl, rfl, rfl, rfl, trivial⟩
        refine e_blk ?_
        refine e_then ?_
        refine wp_region_lit ?_
        obtain ⟨hI88, hF⟩ := ck_some hF
        refine op_g ha rfl (g_add rfl rfl hI88) ?_; clear ha a; intro a ha
        refine op_g ha rfl (g_move rfl) ?_; clear ha a; intro a ha
        refine wpList_nil ?_
        replace ha := ha.sub (σ' := [(3, (.int .u32 (BitVec.toNat (u29 ||| x82) : Int))), (6, va0), (7, (.int .i64 (a0.length : Int))), (8, (.int .i64 (i30 + 1)))]) ⟨rfl, rfl, rfl, rfl, trivial⟩
        refine e_lq ?_
        obtain rfl := Option.some.inj hF
        exact ⟨_, Nat.lt_succ_self _, u29 ||| x82, i30 + 1, ha.sub ⟨rfl, rfl, rfl, rfl, trivial⟩, hE87, hI88, hN66⟩
      · replace hF := if_f hp69 hF
        refine wp_exit ?_
        refine e_then_exit ?_
        refine e_lq_eq ?_
        obtain rfl := Option.some.inj hF
        exact ⟨u29, ha.sub ⟨rfl, trivial⟩, hE32, (LK_inr hN66).symm⟩
  · rintro a w58 ⟨u59, ha, hE65, rfl⟩
    have hF : F_impl_maskOf_k2 u59 = some _ := hK62; clear hK62; unfold F_impl_maskOf_k2 at hF
    refine e_then ?_
    refine wp_seq ?_
    refine wp_region_lit ?_
    refine op_g ha rfl (g_move rfl) ?_; clear ha a; intro a ha
    refine op_g ha rfl (g_assign rfl) ?_; clear ha a; intro a ha
    refine wpList_nil ?_
    replace ha := ha.sub (σ' := [(2, (.int .u32 (BitVec.toNat u59 : Int)))]) ⟨rfl, trivial⟩
    refine e_then ?_
    refine wp_ret ?_
    obtain rfl := Option.some.inj hF
    exact f_ret1 ha rfl rfl ⟨rfl, hE65⟩
set_option maxHeartbeats 2000000 in
theorem W_impl_netsOf {W : World} {va0_0 : Value} {fa0_0 : List Nat} {a0_0 : (List (List Int))} (ha0_0 : Ro (Rp.sl 2 Rp.int) W fa0_0 va0_0 a0_0) {r : (List (BitVec 32))} (hF : F_impl_netsOf a0_0 = some r) :
    Calls Tryd.prog 44 [.agg #[va0_0]].toArray W (Ret fun u w' => ∃ (b_u : Int), Ow Rp.u32 59 true w' [] b_u u r ∧ Zn W b_u ∧ Ext W w') := by
  refine f_enter Tryd.func44 rfl Tryd.ntmps44 rfl ?_
  intro a ha
  replace ha : Fr 21 [(0, (.agg #[va0_0]))] a := ha
  have hE : Chg [] W W := Chg.refl _ _
  unfold F_impl_netsOf at hF
  refine wp_seq ?_
  refine wp_region_lit ?_
  refine o_box ha rfl rfl rfl ?_; clear ha a; intro b1 w2 hB3 hx4 hlo5 a ha
  have q6 := Zn.one hlo5
  have q7 := Zn.upD q6 hE
  have hE8 := Ext.trans hE hx4
  refine op_g ha rfl (g_assign rfl) ?_; clear ha a; intro a ha
  refine wpList_nil ?_
  replace ha := ha.sub (σ' := [(1, (.pointer (some ⟨b1, 0, none⟩)))]) ⟨rfl, trivial⟩
  refine e_then ?_
  refine wp_seq ?_
  refine wp_region_lit ?_
  refine o_lit0 Rp.u32 ha rfl sl55 ?_; clear ha a; intro v9 w10 h11 hx12 a ha
  obtain ⟨b14, hb14⟩ : ∃ b : Int, b = w2.heap.size := ⟨_, rfl⟩; rw [← hb14] at h11
  have q15 := zn_of hb14
  have q16 := Nq.new hB3.fpb q15
  have q17 := Nq.madeO q15 hB3.bi
  have q18 := Zn.upD q15 hE8
  replace hB3 := hB3.ext hx12
  have hE19 := Ext.trans hE8 hx12
  refine op_g ha rfl (g_assign rfl) ?_; clear ha a; intro a ha
  refine wpList_nil ?_
  replace ha := ha.sub (σ' := [(1, (.pointer (some ⟨b1, 0, none⟩))), (3, v9)]) ⟨rfl, rfl, trivial⟩
  refine e_then ?_
  refine wp_seq ?_
  refine wp_seq ?_
  refine wp_region_lit ?_
  refine op_g ha rfl (g_field0 st27_0 rfl) ?_; clear ha a; intro a ha
  refine op_g ha rfl (g_load Tryd.isAgg22 rfl (hB3.cell rfl)) ?_; clear ha a; intro a ha
  refine op_g ha rfl (g_lenR sl22.und ha0_0 rfl) ?_; clear ha a; intro a ha
  refine op_g ha rfl (g_move rfl) ?_; clear ha a; intro a ha
  refine wpList_nil ?_
  replace ha := ha.sub (σ' := [(3, v9), (8, va0_0), (9, (.int .i64 (a0_0.length : Int))), (10, (.int .i64 0))]) ⟨rfl, rfl, rfl, rfl, trivial⟩
  refine e_then ?_
  obtain ⟨o152, ho153, hK154⟩ := bnd_some hF
  obtain ⟨n155, hn156⟩ := lp_some ho153; clear ho153
  refine c_loop (fun a w => ∃ (l149 : (List (BitVec 32))) (v150 : Value) (b151 : Int), Fr 21 [(3, v150)] a ∧ Chg [] W w ∧ Ow Rp.u32 59 true w [] b151 v150 l149 ∧ Zn W b151 ∧ o152 = .inl l149) (fun n a w => ∃ (l84 : (List (BitVec 32))) (i87 : Int) (v85 : Value) (b86 : Int), Fr 21 [(3, v85), (8, va0_0), (9, (.int .i64 (a0_0.length : Int))), (10, (.int .i64 i87))] a ∧ Chg [] W w ∧ InI i87 ∧ Ow Rp.u32 59 true w [] b86 v85 l84 ∧ Zn W b86 ∧ lpN (fun s => F_impl_netsOf_l1 a0_0 s.1 s.2) n (l84, i87) = some o152) n155 ⟨([] : (List (BitVec 32))), 0, v9, b14, ha.sub ⟨rfl, rfl, rfl, rfl, trivial⟩, hE19, (show InI 0 from by decide), h11, q18, hn156⟩ ?_ ?_
  · rintro m160 a w80 ⟨l84, i87, v85, b86, ha, hE89, hI88, h82, z83, hF⟩
    cases m160 with
    | zero => exact (lpN_zero hF).elim
    | succ m160 =>
      obtain ⟨z159, hF, hN158⟩ := lpN_succ hF
      have hF : F_impl_netsOf_l1 a0_0 l84 i87 = some z159 := hF; unfold F_impl_netsOf_l1 at hF
      refine wp_seq ?_
      refine wp_region_lit ?_
      refine op_g ha rfl (g_lss rfl rfl) ?_; clear ha a; intro a ha
      refine wpList_nil ?_
      replace ha := ha.sub (σ' := [(3, v85), (8, va0_0), (9, (.int .i64 (a0_0.length : Int))), (10, (.int .i64 i87)), (11, (.bool (decide (i87 < (a0_0.length : Int)))))]) ⟨rfl, rfl, rfl, rfl, rfl, trivial⟩
      refine e_then ?_
      refine wp_seq ?_
      refine c_cond (i87 < (a0_0.length : Int)) ha rfl (decide_eq_true_iff) (fun hp161 => ?_) (fun hp161 => ?_)
      · replace hF := if_t hp161 hF
        refine wp_skip ?_
        refine e_then ?_
        refine wp_seq ?_
        refine wp_block ?_
        refine wp_seq ?_
        refine wp_region_lit ?_
        obtain ⟨x162, g163, gx164, hF⟩ := idx_some hF
        obtain ⟨p165, cs166, f167, hf168, hpb169, hat170, hr171, hi172⟩ := ha0_0.at g163 gx164
        obtain ⟨v173, rfl, h174⟩ := hr171
        have h174 : Ro Rp.int W f167 v173 x162 := h174
        refine op_g ha rfl (hi172.gives sl22 rfl rfl) ?_; clear ha a; intro a ha
        refine op_g ha rfl (g_load0 hE89 Tryd.isAgg31 rfl hat170.one) ?_; clear ha a; intro a ha
        refine op_g ha rfl (g_assign rfl) ?_; clear ha a; intro a ha
        refine wpList_nil ?_
        replace ha := ha.sub (σ' := [(3, v85), (5, v173), (8, va0_0), (9, (.int .i64 (a0_0.length : Int))), (10, (.int .i64 i87))]) ⟨rfl, rfl, rfl, rfl, rfl, trivial⟩
        refine e_then ?_
        refine wp_region_lit ?_
        refine op_g ha rfl (g_move rfl) ?_; clear ha a; intro a ha
        refine op_g ha rfl (g_move rfl) ?_; clear ha a; intro a ha
        obtain ⟨x176, hc177, hF⟩ := cal_some hF
        refine o_call ha rfl rfl Tryd.call53 (W_impl_maskOf (h174.ext hE89) hc177) ?_; clear ha a; rintro v178 w179 ⟨rfl, hx180⟩ a ha
        replace h82 := h82.ext hx180
        have hE181 := Ext.trans hE89 hx180
        refine o_lit1 (o := true) (y := x176) Rp.u32 ha rfl sl55 rfl rfl rfl ⟨rfl, rfl⟩ ?_; clear ha a; intro v182 w183 h184 hx185 a ha
        obtain ⟨b187, hb187⟩ : ∃ b : Int, b = w179.heap.size := ⟨_, rfl⟩; rw [← hb187] at h184
        have q188 := zn_of hb187
        have q189 := Nq.new h82.fpb q188
        have q190 := Nq.madeO q188 h82.blt
        have q191 := Zn.upD q188 hE181
        replace h82 := h82.ext hx185
        have hE192 := Ext.trans hE181 hx185
        obtain ⟨hl193, hF⟩ := app_some hF
        refine o_append ha rfl sl55 rfl rfl rfl h82 h184.src (Nq.nil _) hl193 ?_; clear ha a; intro v194 w195 b196 h197 hc198 hb199 a ha
        replace h197 : Ow Rp.u32 59 true w195 [] b196 v194 _ := h197
        have q201 := Nq.appY q190 h184.fpb hb199
        have q202 := Nq.appX q189 (Nq.nil _) hb199 h184.blt
        have q203 := Zn.appD z83 hb199 hE192
        replace h184 := h184.nq hc198 q190
        have hE204 := Ext.then hE192 hc198 (Zn.bl z83)
        refine op_g ha rfl (g_assign rfl) ?_; clear ha a; intro a ha
        refine wpList_nil ?_
        replace ha := ha.sub (σ' := [(3, v194), (8, va0_0), (9, (.int .i64 (a0_0.length : Int))), (10, (.int .i64 i87))]) ⟨rfl, rfl, rfl, rfl, trivial⟩
        refine e_blk ?_
        refine e_then ?_
        refine wp_region_lit ?_
        obtain ⟨hI205, hF⟩ := ck_some hF
        refine op_g ha rfl (g_add rfl rfl hI205) ?_; clear ha a; intro a ha
        refine op_g ha rfl (g_move rfl) ?_; clear ha a; intro a ha
        refine wpList_nil ?_
        replace ha := ha.sub (σ' := [(3, v194), (8, va0_0), (9, (.int .i64 (a0_0.length : Int))), (10, (.int .i64 (i87 + 1)))]) ⟨rfl, rfl, rfl, rfl, trivial⟩
        refine e_lq ?_
        obtain rfl := Option.some.inj hF
        exact ⟨_, Nat.lt_succ_self _, (l84 ++ ([x176])), i87 + 1, v194, b196, ha.sub ⟨rfl, rfl, rfl, rfl, trivial⟩, hE204, hI205, h197, q203, hN158⟩
      · replace hF := if_f hp161 hF
        refine wp_exit ?_
        refine e_then_exit ?_
        refine e_lq_eq ?_
        obtain rfl := Option.some.inj hF
        exact ⟨l84, v85, b86, ha.sub ⟨rfl, trivial⟩, hE89, h82, z83, (LK_inr hN158).symm⟩
  · rintro a w145 ⟨l149, v150, b151, ha, hE157, h147, z148, rfl⟩
    have hF : F_impl_netsOf_k2 l149 = some _ := hK154; clear hK154; unfold F_impl_netsOf_k2 at hF
    refine e_then ?_
    refine wp_seq ?_
    refine wp_region_lit ?_
    refine op_g ha rfl (g_move rfl) ?_; clear ha a; intro a ha
    refine op_g ha rfl (g_assign rfl) ?_; clear ha a; intro a ha
    refine wpList_nil ?_
    replace ha := ha.sub (σ' := [(2, v150)]) ⟨rfl, trivial⟩
    refine e_then ?_
    refine wp_ret ?_
    obtain rfl := Option.some.inj hF
    exact f_ret1 ha rfl rfl ⟨_, h147, z148, hE157⟩
set_option maxHeartbeats 2000000 in
theorem W_impl_firstOf {W : World} {a0 : Int} (ha0 : InI a0) {r : (BitVec 32)} (hF : F_impl_firstOf a0 = some r) :
    Calls Tryd.prog 66 [.int .i64 a0].toArray W (Ret fun u w' => u = .int .u32 (BitVec.toNat r : Int) ∧ Ext W w') := by
  refine f_enter Tryd.func66 rfl Tryd.ntmps66 rfl ?_
  intro a ha
  replace ha : Fr 6 [(0, (.int .i64 a0))] a := ha
  have hE : Chg [] W W := Chg.refl _ _
  unfold F_impl_firstOf at hF
  refine wp_seq ?_
  refine wp_region_lit ?_
  refine op_g ha rfl (g_assign rfl) ?_; clear ha a; intro a ha
  refine wpList_nil ?_
  replace ha := ha.sub (σ' := [(0, (.int .i64 a0))]) ⟨rfl, trivial⟩
  refine e_then ?_
  refine wp_seq ?_
  refine wp_region_lit ?_
  refine op_g ha rfl (g_move rfl) ?_; clear ha a; intro a ha
  obtain ⟨hs1, hF⟩ := grd_some hF
  refine op_g ha rfl (g32_shl (m := (1#32)) rfl rfl hs1) ?_; clear ha a; intro a ha
  refine op_g ha rfl (g32_sub (m := ((1#32) <<< (a0 : Int).toNat)) (n := (1#32)) rfl rfl) ?_; clear ha a; intro a ha
  refine op_g ha rfl (g_assign rfl) ?_; clear ha a; intro a ha
  refine wpList_nil ?_
  replace ha := ha.sub (σ' := [(2, (.int .u32 (BitVec.toNat (((1#32) <<< (a0 : Int).toNat) - (1#32)) : Int)))]) ⟨rfl, trivial⟩
  refine e_then ?_
  refine wp_ret ?_
  obtain rfl := Option.some.inj hF
  exact f_ret1 ha rfl rfl ⟨rfl, hE⟩
set_option maxHeartbeats 2000000 in
theorem W_impl_nets_all {W : World} {va0 : Value} {fa0 : List Nat} {a0 : (List (BitVec 32))} (ha0 : Ro Rp.u32 W fa0 va0 a0) {r : (BitVec 32)} (hF : F_impl_nets_all a0 = some r) :
    Calls Tryd.prog 45 [va0].toArray W (Ret fun u w' => u = .int .u32 (BitVec.toNat r : Int) ∧ Ext W w') := by
  refine f_enter Tryd.func45 rfl Tryd.ntmps45 rfl ?_
  intro a ha
  replace ha : Fr 6 [(0, va0)] a := ha
  have hE : Chg [] W W := Chg.refl _ _
  unfold F_impl_nets_all at hF
  refine wp_seq ?_
  refine wp_region_lit ?_
  refine op_g ha rfl (g_assign rfl) ?_; clear ha a; intro a ha
  refine wpList_nil ?_
  replace ha := ha.sub (σ' := [(0, va0)]) ⟨rfl, trivial⟩
  refine e_then ?_
  refine wp_seq ?_
  refine wp_region_lit ?_
  refine op_g ha rfl (g_move rfl) ?_; clear ha a; intro a ha
  refine op_g ha rfl (g_lenR sl55.und ha0 rfl) ?_; clear ha a; intro a ha
  obtain ⟨x1, hc2, hF⟩ := cal_some hF
  refine o_call ha rfl rfl Tryd.call66 (W_impl_firstOf ha0.len hc2) ?_; clear ha a; rintro v3 w4 ⟨rfl, hx5⟩ a ha
  have hE6 := Ext.trans hE hx5
  refine op_g ha rfl (g_assign rfl) ?_; clear ha a; intro a ha
  refine wpList_nil ?_
  replace ha := ha.sub (σ' := [(2, (.int .u32 (BitVec.toNat x1 : Int)))]) ⟨rfl, trivial⟩
  refine e_then ?_
  refine wp_ret ?_
  obtain rfl := Option.some.inj hF
  exact f_ret1 ha rfl rfl ⟨rfl, hE6⟩
set_option maxHeartbeats 2000000 in
theorem W_math_bits_TrailingZeros32 {W : World} {a0 : BitVec 32} (hG : GT 0 W) {r : Int} (hF : F_math_bits_TrailingZeros32 a0 = some r) :
    Calls Tryd.prog 87 [.int .u32 (BitVec.toNat a0 : Int)].toArray W (Ret fun u w' => (u = .int .i64 r ∧ InI r) ∧ Ext W w') := by
  refine f_enter Tryd.func87 rfl Tryd.ntmps87 rfl ?_
  intro a ha
  replace ha : Fr 14 [(0, (.int .u32 (BitVec.toNat a0 : Int)))] a := ha
  have hE : Chg [] W W := Chg.refl _ _
  unfold F_math_bits_TrailingZeros32 at hF
  refine wp_seq ?_
  refine wp_region_lit ?_
  refine op_g ha rfl (g_assign rfl) ?_; clear ha a; intro a ha
  refine wpList_nil ?_
  replace ha := ha.sub (σ' := [(0, (.int .u32 (BitVec.toNat a0 : Int)))]) ⟨rfl, trivial⟩
  refine e_then ?_
  refine wp_seq ?_
  refine wp_seq ?_
  refine wp_region_lit ?_
  refine op_g ha rfl (g_move rfl) ?_; clear ha a; intro a ha
  refine op_g ha rfl (g32_eql (m := a0) (n := (0#32)) rfl rfl) ?_; clear ha a; intro a ha
  refine wpList_nil ?_
  replace ha := ha.sub (σ' := [(0, (.int .u32 (BitVec.toNat a0 : Int))), (4, (.bool (decide (a0 = (0#32)))))]) ⟨rfl, rfl, trivial⟩
  refine e_then ?_
  refine c_cond (a0 = (0#32)) ha rfl (decide_eq_true_iff) (fun hp1 => ?_) (fun hp1 => ?_)
  · replace hF := if_t hp1 hF
    refine wp_seq ?_
    refine wp_region_lit ?_
    refine op_g ha rfl (g_assign rfl) ?_; clear ha a; intro a ha
    refine wpList_nil ?_
    replace ha := ha.sub (σ' := [(2, (.int .i64 32))]) ⟨rfl, trivial⟩
    refine e_then ?_
    refine wp_ret ?_
    refine e_then_ret ?_
    obtain rfl := Option.some.inj hF
    exact f_ret1 ha rfl rfl ⟨⟨rfl, (show InI 32 from by decide)⟩, hE⟩
  · replace hF := if_f hp1 hF
    refine wp_skip ?_
    refine e_then ?_
    refine wp_seq ?_
    refine wp_region_lit ?_
    refine op_g ha rfl (g_move rfl) ?_; clear ha a; intro a ha
    refine op_g ha rfl (g_move rfl) ?_; clear ha a; intro a ha
    refine op_g ha rfl (g32_neg (m := a0) rfl) ?_; clear ha a; intro a ha
    refine op_g ha rfl (g32_and (m := a0) (n := (-a0)) rfl rfl) ?_; clear ha a; intro a ha
    refine op_g ha rfl (g32_mul (m := (a0 &&& (-a0))) (n := (125613361#32)) rfl rfl) ?_; clear ha a; intro a ha
    refine op_g ha rfl (g32_shr (m := ((a0 &&& (-a0)) * (125613361#32))) rfl rfl (show InU 27 from by decide).1) ?_; clear ha a; intro a ha
    obtain ⟨x2, g3, gx4, hF⟩ := idx_some hF
    refine op_g ha rfl (g_idxG un101 Tryd.sizeOf5 rfl g3 (idx_lt g3 gx4 (by decide))) ?_; clear ha a; intro a ha
    refine op_g ha rfl (g_load Tryd.isAgg5 rfl (Tab.cell (hG.ext hE) gx4)) ?_; clear ha a; intro a ha
    refine op_g ha rfl (g_conv8 (m := x2) un5 un3 rfl) ?_; clear ha a; intro a ha
    refine op_g ha rfl (g_assign rfl) ?_; clear ha a; intro a ha
    refine wpList_nil ?_
    replace ha := ha.sub (σ' := [(2, (.int .i64 (BitVec.toNat x2 : Int)))]) ⟨rfl, trivial⟩
    refine e_then ?_
    refine wp_ret ?_
    obtain rfl := Option.some.inj hF
    exact f_ret1 ha rfl rfl ⟨⟨rfl, (in_u8 _)⟩, hE⟩
set_option maxHeartbeats 2000000 in
theorem W_impl_vset_least {W : World} {a0 : BitVec 32} (hG : GT 0 W) {r : Int} (hF : F_impl_vset_least a0 = some r) :
    Calls Tryd.prog 72 [.int .u32 (BitVec.toNat a0 : Int)].toArray W (Ret fun u w' => (u = .int .i64 r ∧ InI r) ∧ Ext W w') := by
  refine f_enter Tryd.func72 rfl Tryd.ntmps72 rfl ?_
  intro a ha
  replace ha : Fr 5 [(0, (.int .u32 (BitVec.toNat a0 : Int)))] a := ha
  have hE : Chg [] W W := Chg.refl _ _
  unfold F_impl_vset_least at hF
  refine wp_seq ?_
  refine wp_region_lit ?_
  refine op_g ha rfl (g_assign rfl) ?_; clear ha a; intro a ha
  refine wpList_nil ?_
  replace ha := ha.sub (σ' := [(0, (.int .u32 (BitVec.toNat a0 : Int)))]) ⟨rfl, trivial⟩
  refine e_then ?_
  refine wp_seq ?_
  refine wp_region_lit ?_
  refine op_g ha rfl (g_move rfl) ?_; clear ha a; intro a ha
  obtain ⟨x1, hc2, hF⟩ := cal_some hF
  refine o_call ha rfl rfl Tryd.call87 (W_math_bits_TrailingZeros32 (hG.ext hE) hc2) ?_; clear ha a; rintro v3 w4 ⟨⟨rfl, hI6⟩, hx5⟩ a ha
  have hE7 := Ext.trans hE hx5
  refine op_g ha rfl (g_assign rfl) ?_; clear ha a; intro a ha
  refine wpList_nil ?_
  replace ha := ha.sub (σ' := [(2, (.int .i64 x1))]) ⟨rfl, trivial⟩
  refine e_then ?_
  refine wp_ret ?_
  obtain rfl := Option.some.inj hF
  exact f_ret1 ha rfl rfl ⟨⟨rfl, hI6⟩, hE7⟩
set_option maxHeartbeats 2000000 in
theorem W_impl_vset_list {W : World} {a0 : BitVec 32} (hG : GT 0 W) {r : (List Int)} (hF : F_impl_vset_list a0 = some r) :
    Calls Tryd.prog 46 [.int .u32 (BitVec.toNat a0 : Int)].toArray W (Ret fun u w' => ∃ (b_u : Int), Ow Rp.int 3 true w' [] b_u u r ∧ Zn W b_u ∧ Ext W w') := by
  refine f_enter Tryd.func46 rfl Tryd.ntmps46 rfl ?_
  intro a ha
  replace ha : Fr 17 [(0, (.int .u32 (BitVec.toNat a0 : Int)))] a := ha
  have hE : Chg [] W W := Chg.refl _ _
  unfold F_impl_vset_list at hF
  refine wp_seq ?_
  refine wp_region_lit ?_
  refine op_g ha rfl (g_assign rfl) ?_; clear ha a; intro a ha
  refine wpList_nil ?_
  replace ha := ha.sub (σ' := [(0, (.int .u32 (BitVec.toNat a0 : Int)))]) ⟨rfl, trivial⟩
  refine e_then ?_
  refine wp_seq ?_
  refine wp_region_lit ?_
  refine o_lit0 Rp.int ha rfl sl62 ?_; clear ha a; intro v1 w2 h3 hx4 a ha
  obtain ⟨b6, hb6⟩ : ∃ b : Int, b = W.heap.size := ⟨_, rfl⟩; rw [← hb6] at h3
  have q7 := zn_of hb6
  have q8 := Zn.upD q7 hE
  have hE9 := Ext.trans hE hx4
  refine op_g ha rfl (g_assign rfl) ?_; clear ha a; intro a ha
  refine wpList_nil ?_
  replace ha := ha.sub (σ' := [(0, (.int .u32 (BitVec.toNat a0 : Int))), (3, v1)]) ⟨rfl, rfl, trivial⟩
  refine e_then ?_
  refine wp_seq ?_
  obtain ⟨o109, ho110, hK111⟩ := bnd_some hF
  obtain ⟨n112, hn113⟩ := lp_some ho110; clear ho110
  refine c_loop (fun a w => ∃ (l106 : (List Int)) (v107 : Value) (b108 : Int), Fr 17 [(3, v107)] a ∧ Chg [] W w ∧ Ow Rp.int 3 true w [] b108 v107 l106 ∧ Zn W b108 ∧ o109 = .inl l106) (fun n a w => ∃ (u55 : BitVec 32) (l59 : (List Int)) (v60 : Value) (b61 : Int), Fr 17 [(0, (.int .u32 (BitVec.toNat u55 : Int))), (3, v60)] a ∧ Chg [] W w ∧ Ow Rp.int 3 true w [] b61 v60 l59 ∧ Zn W b61 ∧ lpN (fun s => F_impl_vset_list_l1 s.1 s.2) n (u55, l59) = some o109) n112 ⟨a0, ([] : (List Int)), v1, b6, ha.sub ⟨rfl, rfl, trivial⟩, hE9, h3, q8, hn113⟩ ?_ ?_
  · rintro m117 a w54 ⟨u55, l59, v60, b61, ha, hE62, h57, z58, hF⟩
    cases m117 with
    | zero => exact (lpN_zero hF).elim
    | succ m117 =>
      obtain ⟨z116, hF, hN115⟩ := lpN_succ hF
      have hF : F_impl_vset_list_l1 u55 l59 = some z116 := hF; unfold F_impl_vset_list_l1 at hF
      refine wp_seq ?_
      refine wp_seq ?_
      refine wp_region_lit ?_
      refine op_g ha rfl (g_move rfl) ?_; clear ha a; intro a ha
      refine op_g ha rfl (g32_neq (m := u55) (n := (0#32)) rfl rfl) ?_; clear ha a; intro a ha
      refine wpList_nil ?_
      replace ha := ha.sub (σ' := [(0, (.int .u32 (BitVec.toNat u55 : Int))), (3, v60), (6, (.bool (decide (u55 ≠ (0#32)))))]) ⟨rfl, rfl, rfl, trivial⟩
      refine e_then ?_
      refine c_cond (u55 ≠ (0#32)) ha rfl (decide_eq_true_iff) (fun hp118 => ?_) (fun hp118 => ?_)
      · replace hF := if_t hp118 hF
        refine wp_skip ?_
        refine e_then ?_
        refine wp_seq ?_
        refine wp_block ?_
        refine wp_region_lit ?_
        refine op_g ha rfl (g_move rfl) ?_; clear ha a; intro a ha
        refine op_g ha rfl (g_move rfl) ?_; clear ha a; intro a ha
        obtain ⟨x119, hc120, hF⟩ := cal_some hF
        refine o_call ha rfl rfl Tryd.call72 (W_impl_vset_least (hG.ext hE62) hc120) ?_; clear ha a; rintro v121 w122 ⟨⟨rfl, hI124⟩, hx123⟩ a ha
        replace h57 := h57.ext hx123
        have hE125 := Ext.trans hE62 hx123
        refine o_lit1 (o := true) (y := x119) Rp.int ha rfl sl62 rfl rfl rfl ⟨rfl, hI124, rfl⟩ ?_; clear ha a; intro v126 w127 h128 hx129 a ha
        obtain ⟨b131, hb131⟩ : ∃ b : Int, b = w122.heap.size := ⟨_, rfl⟩; rw [← hb131] at h128
        have q132 := zn_of hb131
        have q133 := Nq.new h57.fpb q132
        have q134 := Nq.madeO q132 h57.blt
        have q135 := Zn.upD q132 hE125
        replace h57 := h57.ext hx129
        have hE136 := Ext.trans hE125 hx129
        obtain ⟨hl137, hF⟩ := app_some hF
        refine o_append ha rfl sl62 rfl rfl rfl h57 h128.src (Nq.nil _) hl137 ?_; clear ha a; intro v138 w139 b140 h141 hc142 hb143 a ha
        replace h141 : Ow Rp.int 3 true w139 [] b140 v138 _ := h141
        have q145 := Nq.appY q134 h128.fpb hb143
        have q146 := Nq.appX q133 (Nq.nil _) hb143 h128.blt
        have q147 := Zn.appD z58 hb143 hE136
        replace h128 := h128.nq hc142 q134
        have hE148 := Ext.then hE136 hc142 (Zn.bl z58)
        refine op_g ha rfl (g_assign rfl) ?_; clear ha a; intro a ha
        refine wpList_nil ?_
        replace ha := ha.sub (σ' := [(0, (.int .u32 (BitVec.toNat u55 : Int))), (3, v138)]) ⟨rfl, rfl, trivial⟩
        refine e_blk ?_
        refine e_then ?_
        refine wp_region_lit ?_
        refine op_g ha rfl (g_move rfl) ?_; clear ha a; intro a ha
        refine op_g ha rfl (g_move rfl) ?_; clear ha a; intro a ha
        refine op_g ha rfl (g32_sub (m := u55) (n := (1#32)) rfl rfl) ?_; clear ha a; intro a ha
        refine op_g ha rfl (g32_and (m := u55) (n := (u55 - (1#32))) rfl rfl) ?_; clear ha a; intro a ha
        refine op_g ha rfl (g_assign rfl) ?_; clear ha a; intro a ha
        refine wpList_nil ?_
        replace ha := ha.sub (σ' := [(0, (.int .u32 (BitVec.toNat (u55 &&& (u55 - (1#32))) : Int))), (3, v138)]) ⟨rfl, rfl, trivial⟩
        refine e_lq ?_
        obtain rfl := Option.some.inj hF
        exact ⟨_, Nat.lt_succ_self _, u55 &&& (u55 - (1#32)), (l59 ++ ([x119])), v138, b140, ha.sub ⟨rfl, rfl, trivial⟩, hE148, h141, q147, hN115⟩
      · replace hF := if_f hp118 hF
        refine wp_exit ?_
        refine e_then_exit ?_
        refine e_lq_eq ?_
        obtain rfl := Option.some.inj hF
        exact ⟨l59, v60, b61, ha.sub ⟨rfl, trivial⟩, hE62, h57, z58, (LK_inr hN115).symm⟩
  · rintro a w102 ⟨l106, v107, b108, ha, hE114, h104, z105, rfl⟩
    have hF : F_impl_vset_list_k2 l106 = some _ := hK111; clear hK111; unfold F_impl_vset_list_k2 at hF
    refine e_then ?_
    refine wp_seq ?_
    refine wp_region_lit ?_
    refine op_g ha rfl (g_move rfl) ?_; clear ha a; intro a ha
    refine op_g ha rfl (g_assign rfl) ?_; clear ha a; intro a ha
    refine wpList_nil ?_
    replace ha := ha.sub (σ' := [(2, v107)]) ⟨rfl, trivial⟩
    refine e_then ?_
    refine wp_ret ?_
    obtain rfl := Option.some.inj hF
    exact f_ret1 ha rfl rfl ⟨_, h104, z105, hE114⟩
set_option maxHeartbeats 2000000 in
theorem W_impl_vset_has {W : World} {a0 : BitVec 32} {a1 : Int} (ha1 : InI a1) {r : Bool} (hF : F_impl_vset_has a0 a1 = some r) :
    Calls Tryd.prog 80 [.int .u32 (BitVec.toNat a0 : Int), .int .i64 a1].toArray W (Ret fun u w' => u = .bool r ∧ Ext W w') := by
  refine f_enter Tryd.func80 rfl Tryd.ntmps80 rfl ?_
  intro a ha
  replace ha : Fr 10 [(0, (.int .u32 (BitVec.toNat a0 : Int))), (1, (.int .i64 a1))] a := ha
  have hE : Chg [] W W := Chg.refl _ _
  unfold F_impl_vset_has at hF
  refine wp_seq ?_
  refine wp_region_lit ?_
  refine op_g ha rfl (g_assign rfl) ?_; clear ha a; intro a ha
  refine wpList_nil ?_
  replace ha := ha.sub (σ' := [(0, (.int .u32 (BitVec.toNat a0 : Int))), (1, (.int .i64 a1))]) ⟨rfl, rfl, trivial⟩
  refine e_then ?_
  refine wp_seq ?_
  refine wp_region_lit ?_
  refine op_g ha rfl (g_move rfl) ?_; clear ha a; intro a ha
  refine op_g ha rfl (g_move rfl) ?_; clear ha a; intro a ha
  obtain ⟨hs1, hF⟩ := grd_some hF
  refine op_g ha rfl (g32_shr (m := a0) rfl rfl hs1) ?_; clear ha a; intro a ha
  refine op_g ha rfl (g32_and (m := (a0 >>> (a1 : Int).toNat)) (n := (1#32)) rfl rfl) ?_; clear ha a; intro a ha
  refine op_g ha rfl (g32_eql (m := ((a0 >>> (a1 : Int).toNat) &&& (1#32))) (n := (1#32)) rfl rfl) ?_; clear ha a; intro a ha
  refine op_g ha rfl (g_assign rfl) ?_; clear ha a; intro a ha
  refine wpList_nil ?_
  replace ha := ha.sub (σ' := [(4, (.bool (decide (((a0 >>> (a1 : Int).toNat) &&& (1#32)) = (1#32)))))]) ⟨rfl, trivial⟩
  refine e_then ?_
  refine wp_ret ?_
  obtain rfl := Option.some.inj hF
  exact f_ret1 ha rfl rfl ⟨rfl, hE⟩
set_option maxHeartbeats 2000000 in
theorem W_impl_induced {W : World} {va0 : Value} {fa0 : List Nat} {a0 : (List (BitVec 32))} (ha0 : Ro Rp.u32 W fa0 va0 a0) {va1 : Value} {fa1 : List Nat} {a1 : (List Int)} (ha1 : Ro Rp.int W fa1 va1 a1) {r : (List (BitVec 32))} (hF : F_impl_induced a0 a1 = some r) :
    Calls Tryd.prog 56 [va0, va1].toArray W (Ret fun u w' => ∃ (b_u : Int), Ow Rp.u32 59 true w' [] b_u u r ∧ Zn W b_u ∧ Ext W w') := by
  refine f_enter Tryd.func56 rfl Tryd.ntmps56 rfl ?_
  intro a ha
  replace ha : Fr 44 [(0, va0), (1, va1)] a := ha
  have hE : Chg [] W W := Chg.refl _ _
  unfold F_impl_induced at hF
  refine wp_seq ?_
  refine wp_region_lit ?_
  refine op_g ha rfl (g_assign rfl) ?_; clear ha a; intro a ha
  refine wpList_nil ?_
  replace ha := ha.sub (σ' := [(0, va0), (1, va1)]) ⟨rfl, rfl, trivial⟩
  refine e_then ?_
  refine wp_seq ?_
  refine wp_region_lit ?_
  refine op_g ha rfl (g_move rfl) ?_; clear ha a; intro a ha
  refine op_g ha rfl (g_lenR sl62.und ha1 rfl) ?_; clear ha a; intro a ha
  obtain ⟨g5, g5b, hF⟩ := mkS_some hF
  refine o_make (z0 := (0 : BitVec 32)) Rp.u32 ha rfl sl55 rfl (fun w => ⟨rfl, rfl⟩) rfl g5 g5b ?_; clear ha a; intro v1 w2 h3 hx4 a ha
  obtain ⟨b8, hb8⟩ : ∃ b : Int, b = W.heap.size := ⟨_, rfl⟩; rw [← hb8] at h3
  have q9 := zn_of hb8
  have q10 := Zn.upD q9 hE
  have hE11 := Ext.trans hE hx4
  refine op_g ha rfl (g_assign rfl) ?_; clear ha a; intro a ha
  refine wpList_nil ?_
  replace ha := ha.sub (σ' := [(0, va0), (1, va1), (5, v1)]) ⟨rfl, rfl, rfl, trivial⟩
  refine e_then ?_
  refine wp_seq ?_
  refine wp_seq ?_
  refine wp_region_lit ?_
  refine op_g ha rfl (g_move rfl) ?_; clear ha a; intro a ha
  refine op_g ha rfl (g_lenR sl62.und ha1 rfl) ?_; clear ha a; intro a ha
  refine op_g ha rfl (g_move rfl) ?_; clear ha a; intro a ha
  refine wpList_nil ?_
  replace ha := ha.sub (σ' := [(0, va0), (1, va1), (5, v1), (13, va1), (14, (.int .i64 (a1.length : Int))), (15, (.int .i64 0))]) ⟨rfl, rfl, rfl, rfl, rfl, rfl, trivial⟩
  refine e_then ?_
  obtain ⟨o618, ho619, hK620⟩ := bnd_some hF
  obtain ⟨n621, hn622⟩ := lp_some ho619; clear ho619
  refine c_loop (fun a w => ∃ (l615 : (List (BitVec 32))) (v616 : Value) (b617 : Int), Fr 44 [(5, v616)] a ∧ Chg [] W w ∧ Ow Rp.u32 59 true w [] b617 v616 l615 ∧ Zn W b617 ∧ o618 = .inl l615) (fun n a w => ∃ (l313 : (List (BitVec 32))) (i316 : Int) (v314 : Value) (b315 : Int), Fr 44 [(0, va0), (1, va1), (5, v314), (13, va1), (14, (.int .i64 (a1.length : Int))), (15, (.int .i64 i316))] a ∧ Chg [] W w ∧ InI i316 ∧ Ow Rp.u32 59 true w [] b315 v314 l313 ∧ Zn W b315 ∧ lpN (fun s => F_impl_induced_l1 a0 a1 s.1 s.2) n (l313, i316) = some o618) n621 ⟨(List.replicate ((a1.length : Int) : Int).toNat (0 : BitVec 32)), 0, v1, b8, ha.sub ⟨rfl, rfl, rfl, rfl, rfl, rfl, trivial⟩, hE11, (show InI 0 from by decide), h3, q10, hn622⟩ ?_ ?_
  · rintro m626 a w309 ⟨l313, i316, v314, b315, ha, hE318, hI317, h311, z312, hF⟩
    cases m626 with
    | zero => exact (lpN_zero hF).elim
    | succ m626 =>
      obtain ⟨z625, hF, hN624⟩ := lpN_succ hF
      have hF : F_impl_induced_l1 a0 a1 l313 i316 = some z625 := hF; unfold F_impl_induced_l1 at hF
      refine wp_seq ?_
      refine wp_region_lit ?_
      refine op_g ha rfl (g_lss rfl rfl) ?_; clear ha a; intro a ha
      refine wpList_nil ?_
      replace ha := ha.sub (σ' := [(0, va0), (1, va1), (5, v314), (13, va1), (14, (.int .i64 (a1.length : Int))), (15, (.int .i64 i316)), (16, (.bool (decide (i316 < (a1.length : Int)))))]) ⟨rfl, rfl, rfl, rfl, rfl, rfl, rfl, trivial⟩
      refine e_then ?_
      refine wp_seq ?_
      refine c_cond (i316 < (a1.length : Int)) ha rfl (decide_eq_true_iff) (fun hp627 => ?_) (fun hp627 => ?_)
      · replace hF := if_t hp627 hF
        refine wp_skip ?_
        refine e_then ?_
        refine wp_seq ?_
        refine wp_block ?_
        refine wp_seq ?_
        refine wp_region_lit ?_
        refine op_g ha rfl (g_move rfl) ?_; clear ha a; intro a ha
        obtain ⟨x628, g629, gx630, hF⟩ := idx_some hF
        obtain ⟨p631, cs632, f633, hf634, hpb635, hat636, hr637, hi638⟩ := ha1.at g629 gx630
        obtain ⟨rfl, hI639, rfl⟩ := hr637
        refine op_g ha rfl (hi638.gives sl62 rfl rfl) ?_; clear ha a; intro a ha
        refine op_g ha rfl (g_load0 hE318 Tryd.isAgg3 rfl hat636.one) ?_; clear ha a; intro a ha
        refine op_g ha rfl (g_assign rfl) ?_; clear ha a; intro a ha
        refine op_g ha rfl (g_assign rfl) ?_; clear ha a; intro a ha
        refine wpList_nil ?_
        replace ha := ha.sub (σ' := [(0, va0), (1, va1), (5, v314), (6, (.int .i64 i316)), (7, (.int .i64 x628)), (13, va1), (14, (.int .i64 (a1.length : Int))), (15, (.int .i64 i316))]) ⟨rfl, rfl, rfl, rfl, rfl, rfl, rfl, rfl, trivial⟩
        refine e_then ?_
        refine wp_seq ?_
        refine wp_region_lit ?_
        refine op_g ha rfl (g_move rfl) ?_; clear ha a; intro a ha
        refine op_g ha rfl (g_lenR sl62.und ha1 rfl) ?_; clear ha a; intro a ha
        refine op_g ha rfl (g_move rfl) ?_; clear ha a; intro a ha
        refine wpList_nil ?_
        replace ha := ha.sub (σ' := [(0, va0), (1, va1), (5, v314), (6, (.int .i64 i316)), (7, (.int .i64 x628)), (13, va1), (14, (.int .i64 (a1.length : Int))), (15, (.int .i64 i316)), (20, va1), (21, (.int .i64 (a1.length : Int))), (22, (.int .i64 0))]) ⟨rfl, rfl, rfl, rfl, rfl, rfl, rfl, rfl, rfl, rfl, rfl, trivial⟩
        refine e_then ?_
        obtain ⟨o826, ho827, hK828⟩ := bnd_some hF
        obtain ⟨n829, hn830⟩ := lp_some ho827; clear ho827
        refine c_loop (fun a w => ∃ (l823 : (List (BitVec 32))) (v824 : Value) (b825 : Int), Fr 44 [(0, va0), (1, va1), (5, v824), (13, va1), (14, (.int .i64 (a1.length : Int))), (15, (.int .i64 i316))] a ∧ Chg [] W w ∧ Ow Rp.u32 59 true w [] b825 v824 l823 ∧ Zn W b825 ∧ o826 = .inl l823) (fun n a w => ∃ (l731 : (List (BitVec 32))) (i734 : Int) (v732 : Value) (b733 : Int), Fr 44 [(0, va0), (1, va1), (5, v732), (6, (.int .i64 i316)), (7, (.int .i64 x628)), (13, va1), (14, (.int .i64 (a1.length : Int))), (15, (.int .i64 i316)), (20, va1), (21, (.int .i64 (a1.length : Int))), (22, (.int .i64 i734))] a ∧ Chg [] W w ∧ InI i734 ∧ Ow Rp.u32 59 true w [] b733 v732 l731 ∧ Zn W b733 ∧ lpN (fun s => F_impl_induced_l2 a0 a1 i316 x628 s.1 s.2) n (l731, i734) = some o826) n829 ⟨l313, 0, v314, b315, ha.sub ⟨rfl, rfl, rfl, rfl, rfl, rfl, rfl, rfl, rfl, rfl, rfl, trivial⟩, hE318, (show InI 0 from by decide), h311, z312, hn830⟩ ?_ ?_
        · rintro m834 a w727 ⟨l731, i734, v732, b733, ha, hE736, hI735, h729, z730, hF⟩
          cases m834 with
          | zero => exact (lpN_zero hF).elim
          | succ m834 =>
            obtain ⟨z833, hF, hN832⟩ := lpN_succ hF
            have hF : F_impl_induced_l2 a0 a1 i316 x628 l731 i734 = some z833 := hF; unfold F_impl_induced_l2 at hF
            refine wp_seq ?_
            refine wp_region_lit ?_
            refine op_g ha rfl (g_lss rfl rfl) ?_; clear ha a; intro a ha
            refine wpList_nil ?_
            replace ha := ha.sub (σ' := [(0, va0), (1, va1), (5, v732), (6, (.int .i64 i316)), (7, (.int .i64 x628)), (13, va1), (14, (.int .i64 (a1.length : Int))), (15, (.int .i64 i316)), (20, va1), (21, (.int .i64 (a1.length : Int))), (22, (.int .i64 i734)), (23, (.bool (decide (i734 < (a1.length : Int)))))]) ⟨rfl, rfl, rfl, rfl, rfl, rfl, rfl, rfl, rfl, rfl, rfl, rfl, trivial⟩
            refine e_then ?_
            refine wp_seq ?_
            refine c_cond (i734 < (a1.length : Int)) ha rfl (decide_eq_true_iff) (fun hp835 => ?_) (fun hp835 => ?_)
            · replace hF := if_t hp835 hF
              refine wp_skip ?_
              refine e_then ?_
              refine wp_seq ?_
              refine wp_block ?_
              refine wp_seq ?_
              refine wp_region_lit ?_
              refine op_g ha rfl (g_move rfl) ?_; clear ha a; intro a ha
              obtain ⟨x836, g837, gx838, hF⟩ := idx_some hF
              obtain ⟨p839, cs840, f841, hf842, hpb843, hat844, hr845, hi846⟩ := ha1.at g837 gx838
              obtain ⟨rfl, hI847, rfl⟩ := hr845
              refine op_g ha rfl (hi846.gives sl62 rfl rfl) ?_; clear ha a; intro a ha
              refine op_g ha rfl (g_load0 hE736 Tryd.isAgg3 rfl hat844.one) ?_; clear ha a; intro a ha
              refine op_g ha rfl (g_assign rfl) ?_; clear ha a; intro a ha
              refine op_g ha rfl (g_assign rfl) ?_; clear ha a; intro a ha
              refine wpList_nil ?_
              replace ha := ha.sub (σ' := [(0, va0), (1, va1), (5, v732), (6, (.int .i64 i316)), (7, (.int .i64 x628)), (8, (.int .i64 i734)), (9, (.int .i64 x836)), (13, va1), (14, (.int .i64 (a1.length : Int))), (15, (.int .i64 i316)), (20, va1), (21, (.int .i64 (a1.length : Int))), (22, (.int .i64 i734))]) ⟨rfl, rfl, rfl, rfl, rfl, rfl, rfl, rfl, rfl, rfl, rfl, rfl, rfl, trivial⟩
              refine e_then ?_
              refine wp_seq ?_
              refine wp_region_lit ?_
              refine op_g ha rfl (g_move rfl) ?_; clear ha a; intro a ha
              refine op_g ha rfl (g_move rfl) ?_; clear ha a; intro a ha
              obtain ⟨x848, g849, gx850, hF⟩ := idx_some hF
              obtain ⟨p851, cs852, f853, hf854, hpb855, hat856, hr857, hi858⟩ := ha0.at g849 gx850
              obtain ⟨rfl, rfl⟩ := hr857
              refine op_g ha rfl (hi858.gives sl55 rfl rfl) ?_; clear ha a; intro a ha
              refine op_g ha rfl (g_load0 hE736 Tryd.isAgg59 rfl hat856.one) ?_; clear ha a; intro a ha
              refine op_g ha rfl (g_move rfl) ?_; clear ha a; intro a ha
              obtain ⟨x859, hc860, hF⟩ := cal_some hF
              refine o_call ha rfl rfl Tryd.call80 (W_impl_vset_has hI847 hc860) ?_; clear ha a; rintro v861 w862 ⟨rfl, hx863⟩ a ha
              replace h729 := h729.ext hx863
              have hE864 := Ext.trans hE736 hx863
              refine wpList_nil ?_
              replace ha := ha.sub (σ' := [(0, va0), (1, va1), (5, v732), (6, (.int .i64 i316)), (7, (.int .i64 x628)), (8, (.int .i64 i734)), (13, va1), (14, (.int .i64 (a1.length : Int))), (15, (.int .i64 i316)), (20, va1), (21, (.int .i64 (a1.length : Int))), (22, (.int .i64 i734)), (32, (.bool x859))]) ⟨rfl, rfl, rfl, rfl, rfl, rfl, rfl, rfl, rfl, rfl, rfl, rfl, rfl, trivial⟩
              refine e_then ?_
              refine c_cond (x859 = true) ha rfl (Iff.rfl) (fun hp865 => ?_) (fun hp865 => ?_)
              · replace hF := if_t hp865 hF
                refine d_region 8 hmix ?_
                refine u_g 0 rfl (by kernel_rfl) (want0 _) ha rfl (g_move rfl) ?_; clear ha a; intro a ha
                refine u_g 1 rfl (by kernel_rfl) (want0 _) ha rfl (g_move rfl) ?_; clear ha a; intro a ha
                obtain ⟨x866, g867, gx868, hF⟩ := idx_some hF
                obtain ⟨p869, cs870, f871, hf872, hpb873, hat874, hr875, hi876⟩ := h729.at g867 gx868
                obtain ⟨rfl, rfl⟩ := hr875
                refine u_g 2 rfl (by kernel_rfl) (want0 _) ha rfl (hi876.gives sl55 rfl rfl) ?_; clear ha a; intro a ha
                refine u_g 3 rfl (by kernel_rfl) (want0 _) ha rfl (g_load Tryd.isAgg59 rfl hat874.one) ?_; clear ha a; intro a ha
                refine u_g 4 rfl (by kernel_rfl) (want0 _) ha rfl (g_move rfl) ?_; clear ha a; intro a ha
                obtain ⟨x879, hc880, hF⟩ := cal_some hF
                refine u_call (.int .u32 (BitVec.toNat x879 : Int)) 5 rfl (by kernel_rfl) (want0 _) ha rfl rfl Tryd.call47 (fun w878 hx877 => W_impl_one hI735 hc880) (fun _ _ _ h => ⟨h.1, h.2⟩) ?_; clear ha a; intro a ha
                refine u_g 6 rfl (by kernel_rfl) (want0 _) ha rfl (g32_or (m := x866) (n := x879) rfl rfl) ?_; clear ha a; intro a ha
                obtain ⟨x881, g882, gx883, hF⟩ := idx_some hF
                obtain ⟨p884, cs885, f886, hf887, hpb888, hat889, hr890, hi891⟩ := h729.at g882 gx883
                obtain ⟨rfl, rfl⟩ := hr890
                refine u_g 7 rfl (by kernel_rfl) (want0 _) ha rfl (hi891.gives sl55 rfl rfl) ?_; clear ha a; intro a ha
                refine u_only 8 rfl (by kernel_rfl) ?_; intro w892 hx893
                replace h729 := h729.ext hx893
                have hE894 := Ext.trans hE864 hx893
                refine o_storeE (f := []) (q := x866 ||| x879) ha Tryd.sizeOf59 rfl rfl rfl h729 hi891 ⟨rfl, rfl⟩ (Nq.nil _) ?_; intro w895 fs896 h897 hc898 hs899
                obtain rfl := Subst.nil hs899
                have hE900 := Ext.then hE894 hc898 (Zn.bl z730)
                refine wpList_nil (e_sq ?_)
                refine ⟨fun h => absurd h (by decide), ?_⟩
                refine u_done (by kernel_rfl) ?_; intro w901 hx902
                replace h897 := h897.ext hx902
                have hE903 := Ext.trans hE900 hx902
                replace ha := ha.sub (σ' := [(0, va0), (1, va1), (5, v732), (6, (.int .i64 i316)), (7, (.int .i64 x628)), (13, va1), (14, (.int .i64 (a1.length : Int))), (15, (.int .i64 i316)), (20, va1), (21, (.int .i64 (a1.length : Int))), (22, (.int .i64 i734))]) ⟨rfl, rfl, rfl, rfl, rfl, rfl, rfl, rfl, rfl, rfl, rfl, trivial⟩
                refine e_blk ?_
                refine e_then ?_
                refine wp_region_lit ?_
                obtain ⟨hI904, hF⟩ := ck_some hF
                refine op_g ha rfl (g_add rfl rfl hI904) ?_; clear ha a; intro a ha
                refine op_g ha rfl (g_move rfl) ?_; clear ha a; intro a ha
                refine wpList_nil ?_
                replace ha := ha.sub (σ' := [(0, va0), (1, va1), (5, v732), (6, (.int .i64 i316)), (7, (.int .i64 x628)), (13, va1), (14, (.int .i64 (a1.length : Int))), (15, (.int .i64 i316)), (20, va1), (21, (.int .i64 (a1.length : Int))), (22, (.int .i64 (i734 + 1)))]) ⟨rfl, rfl, rfl, rfl, rfl, rfl, rfl, rfl, rfl, rfl, rfl, trivial⟩
                refine e_lq ?_
                obtain rfl := Option.some.inj hF
                exact ⟨_, Nat.lt_succ_self _, (l731.set ((i316 : Int).toNat) (x866 ||| x879)), i734 + 1, v732, b733, ha.sub ⟨rfl, rfl, rfl, rfl, rfl, rfl, rfl, rfl, rfl, rfl, rfl, trivial⟩, hE903, hI904, h897, z730, hN832⟩
              · replace hF := if_f hp865 hF
                refine wp_skip ?_
                refine e_blk ?_
                refine e_then ?_
                refine wp_region_lit ?_
                obtain ⟨hI906, hF⟩ := ck_some hF
                refine op_g ha rfl (g_add rfl rfl hI906) ?_; clear ha a; intro a ha
                refine op_g ha rfl (g_move rfl) ?_; clear ha a; intro a ha
                refine wpList_nil ?_
                replace ha := ha.sub (σ' := [(0, va0), (1, va1), (5, v732), (6, (.int .i64 i316)), (7, (.int .i64 x628)), (13, va1), (14, (.int .i64 (a1.length : Int))), (15, (.int .i64 i316)), (20, va1), (21, (.int .i64 (a1.length : Int))), (22, (.int .i64 (i734 + 1)))]) ⟨rfl, rfl, rfl, rfl, rfl, rfl, rfl, rfl, rfl, rfl, rfl, trivial⟩
                refine e_lq ?_
                obtain rfl := Option.some.inj hF
                exact ⟨_, Nat.lt_succ_self _, l731, i734 + 1, v732, b733, ha.sub ⟨rfl, rfl, rfl, rfl, rfl, rfl, rfl, rfl, rfl, rfl, rfl, trivial⟩, hE864, hI906, h729, z730, hN832⟩
            · replace hF := if_f hp835 hF
              refine wp_exit ?_
              refine e_then_exit ?_
              refine e_lq_eq ?_
              obtain rfl := Option.some.inj hF
              exact ⟨l731, v732, b733, ha.sub ⟨rfl, rfl, rfl, rfl, rfl, rfl, trivial⟩, hE736, h729, z730, (LK_inr hN832).symm⟩
        · rintro a w819 ⟨l823, v824, b825, ha, hE831, h821, z822, rfl⟩
          have hF : F_impl_induced_k3 i316 l823 = some _ := hK828; clear hK828; unfold F_impl_induced_k3 at hF
          refine e_blk ?_
          refine e_then ?_
          refine wp_region_lit ?_
          obtain ⟨hI908, hF⟩ := ck_some hF
          refine op_g ha rfl (g_add rfl rfl hI908) ?_; clear ha a; intro a ha
          refine op_g ha rfl (g_move rfl) ?_; clear ha a; intro a ha
          refine wpList_nil ?_
          replace ha := ha.sub (σ' := [(0, va0), (1, va1), (5, v824), (13, va1), (14, (.int .i64 (a1.length : Int))), (15, (.int .i64 (i316 + 1)))]) ⟨rfl, rfl, rfl, rfl, rfl, rfl, trivial⟩
          refine e_lq ?_
          obtain rfl := Option.some.inj hF
          exact ⟨_, Nat.lt_succ_self _, l823, i316 + 1, v824, b825, ha.sub ⟨rfl, rfl, rfl, rfl, rfl, rfl, trivial⟩, hE831, hI908, h821, z822, hN624⟩
      · replace hF := if_f hp627 hF
        refine wp_exit ?_
        refine e_then_exit ?_
        refine e_lq_eq ?_
        obtain rfl := Option.some.inj hF
        exact ⟨l313, v314, b315, ha.sub ⟨rfl, trivial⟩, hE318, h311, z312, (LK_inr hN624).symm⟩
  · rintro a w611 ⟨l615, v616, b617, ha, hE623, h613, z614, rfl⟩
    have hF : F_impl_induced_k4 l615 = some _ := hK620; clear hK620; unfold F_impl_induced_k4 at hF
    refine e_then ?_
    refine wp_seq ?_
    refine wp_region_lit ?_
    refine op_g ha rfl (g_move rfl) ?_; clear ha a; intro a ha
    refine op_g ha rfl (g_assign rfl) ?_; clear ha a; intro a ha
    refine wpList_nil ?_
    replace ha := ha.sub (σ' := [(4, v616)]) ⟨rfl, trivial⟩
    refine e_then ?_
    refine wp_ret ?_
    obtain rfl := Option.some.inj hF
    exact f_ret1 ha rfl rfl ⟨_, h613, z614, hE623⟩
set_option maxHeartbeats 2000000 in
theorem W_impl_colourOn_step {rc : (List (BitVec 32)) → Int → (List (BitVec 32)) → Int → Option (Bool × (List (BitVec 32)))} (ih : ∀ {W : World} {va0 : Value} {fa0 : List Nat} {a0 : (List (BitVec 32))} (ha0 : Ro Rp.u32 W fa0 va0 a0) {a1 : Int} (ha1 : InI a1) {va2 : Value} {ba2 : Int} {a2 : (List (BitVec 32))} (ha2 : Ow Rp.u32 59 true W [] ba2 va2 a2) {a3 : Int} (ha3 : InI a3) (qa0 : Nq fa0 ba2) {r : (Bool × (List (BitVec 32)))} (hF : rc a0 a1 a2 a3 = some r),
    Calls Tryd.prog 79 [va0, .int .i64 a1, va2, .int .i64 a3].toArray W (Ret fun u w' => u = .bool r.1 ∧ Ow Rp.u32 59 true w' [] ba2 va2 r.2 ∧ Chg (bl ba2) W w')) {W : World} {va0 : Value} {fa0 : List Nat} {a0 : (List (BitVec 32))} (ha0 : Ro Rp.u32 W fa0 va0 a0) {a1 : Int} (ha1 : InI a1) {va2 : Value} {ba2 : Int} {a2 : (List (BitVec 32))} (ha2 : Ow Rp.u32 59 true W [] ba2 va2 a2) {a3 : Int} (ha3 : InI a3) (qa0 : Nq fa0 ba2) {r : (Bool × (List (BitVec 32)))} (hF : F_impl_colourOn_body rc a0 a1 a2 a3 = some r) :
    Calls Tryd.prog 79 [va0, .int .i64 a1, va2, .int .i64 a3].toArray W (Ret fun u w' => u = .bool r.1 ∧ Ow Rp.u32 59 true w' [] ba2 va2 r.2 ∧ Chg (bl ba2) W w') := by
  refine f_enter Tryd.func79 rfl Tryd.ntmps79 rfl ?_
  intro a ha
  replace ha : Fr 58 [(0, va0), (1, (.int .i64 a1)), (2, va2), (3, (.int .i64 a3))] a := ha
  have hE : Chg (bl ba2) W W := Chg.refl _ _
  unfold F_impl_colourOn_body at hF
  refine wp_seq ?_
  refine wp_region_lit ?_
  refine op_g ha rfl (g_assign rfl) ?_; clear ha a; intro a ha
  refine wpList_nil ?_
  replace ha := ha.sub (σ' := [(0, va0), (1, (.int .i64 a1)), (2, va2), (3, (.int .i64 a3))]) ⟨rfl, rfl, rfl, rfl, trivial⟩
  refine e_then ?_
  refine wp_seq ?_
  refine wp_seq ?_
  refine wp_region_lit ?_
  refine op_g ha rfl (g_move rfl) ?_; clear ha a; intro a ha
  refine op_g ha rfl (g_move rfl) ?_; clear ha a; intro a ha
  refine op_g ha rfl (g_lenR sl55.und ha0 rfl) ?_; clear ha a; intro a ha
  refine op_g ha rfl (g_eql rfl rfl) ?_; clear ha a; intro a ha
  refine wpList_nil ?_
  replace ha := ha.sub (σ' := [(0, va0), (1, (.int .i64 a1)), (2, va2), (3, (.int .i64 a3)), (13, (.bool (decide (a1 = (a0.length : Int)))))]) ⟨rfl, rfl, rfl, rfl, rfl, trivial⟩
  refine e_then ?_
  refine c_cond (a1 = (a0.length : Int)) ha rfl (decide_eq_true_iff) (fun hp1 => ?_) (fun hp1 => ?_)
  · replace hF := if_t hp1 hF
    refine wp_seq ?_
    refine wp_region_lit ?_
    refine op_g ha rfl (g_assign rfl) ?_; clear ha a; intro a ha
    refine wpList_nil ?_
    replace ha := ha.sub (σ' := [(8, (.bool true))]) ⟨rfl, trivial⟩
    refine e_then ?_
    refine wp_ret ?_
    refine e_then_ret ?_
    obtain rfl := Option.some.inj hF
    exact f_ret1 ha rfl rfl ⟨rfl, ha2, hE⟩
  · replace hF := if_f hp1 hF
    refine wp_skip ?_
    refine e_then ?_
    refine wp_seq ?_
    refine wp_seq ?_
    refine wp_region_lit ?_
    refine op_g ha rfl (g_move rfl) ?_; clear ha a; intro a ha
    obtain ⟨hI2, hF⟩ := ck_some hF
    refine op_g ha rfl (g_add rfl rfl hI2) ?_; clear ha a; intro a ha
    refine op_g ha rfl (g_move rfl) ?_; clear ha a; intro a ha
    refine op_g ha rfl (g_lenO sl54.und ha2 rfl) ?_; clear ha a; intro a ha
    refine op_g ha rfl (g_min rfl rfl) ?_; clear ha a; intro a ha
    refine op_g ha rfl (g_move rfl) ?_; clear ha a; intro a ha
    refine wpList_nil ?_
    replace ha := ha.sub (σ' := [(0, va0), (1, (.int .i64 a1)), (2, va2), (3, (.int .i64 a3)), (18, (.int .i64 (min (a3 + 1) (a2.length : Int)))), (19, (.int .i64 0))]) ⟨rfl, rfl, rfl, rfl, rfl, rfl, trivial⟩
    refine e_then ?_
    obtain ⟨o284, ho285, hK286⟩ := bnd_some hF
    obtain ⟨n287, hn288⟩ := lp_some ho285; clear ho285
    refine c_loop (fun a w => ∃ (l281 : (List (BitVec 32))), Fr 58 [] a ∧ Chg (bl ba2) W w ∧ Ow Rp.u32 59 true w [] ba2 va2 l281 ∧ o284 = .inl l281) (fun n a w => ∃ (l143 : (List (BitVec 32))) (i146 : Int), Fr 58 [(0, va0), (1, (.int .i64 a1)), (2, va2), (3, (.int .i64 a3)), (18, (.int .i64 (min (a3 + 1) (a2.length : Int)))), (19, (.int .i64 i146))] a ∧ Chg (bl ba2) W w ∧ InI i146 ∧ Ro Rp.u32 w fa0 va0 a0 ∧ Ow Rp.u32 59 true w [] ba2 va2 l143 ∧ Nq (fa0) ba2 ∧ lpN (fun s => F_impl_colourOn_l1 a0 a1 a2 a3 rc s.1 s.2) n (l143, i146) = some o284) n287 ⟨a2, 0, ha.sub ⟨rfl, rfl, rfl, rfl, rfl, rfl, trivial⟩, hE, (show InI 0 from by decide), ha0, ha2, qa0, hn288⟩ ?_ ?_
    · rintro m292 a w139 ⟨l143, i146, ha, hE149, hI147, h141, h142, q148, hF⟩
      cases m292 with
      | zero => exact (lpN_zero hF).elim
      | succ m292 =>
        obtain ⟨z291, hF, hN290⟩ := lpN_succ hF
        have hF : F_impl_colourOn_l1 a0 a1 a2 a3 rc l143 i146 = some z291 := hF; unfold F_impl_colourOn_l1 at hF
        refine wp_seq ?_
        refine wp_region_lit ?_
        refine op_g ha rfl (g_lss rfl rfl) ?_; clear ha a; intro a ha
        refine wpList_nil ?_
        replace ha := ha.sub (σ' := [(0, va0), (1, (.int .i64 a1)), (2, va2), (3, (.int .i64 a3)), (18, (.int .i64 (min (a3 + 1) (a2.length : Int)))), (19, (.int .i64 i146)), (20, (.bool (decide (i146 < (min (a3 + 1) (a2.length : Int))))))]) ⟨rfl, rfl, rfl, rfl, rfl, rfl, rfl, trivial⟩
        refine e_then ?_
        refine wp_seq ?_
        refine c_cond (i146 < (min (a3 + 1) (a2.length : Int))) ha rfl (decide_eq_true_iff) (fun hp293 => ?_) (fun hp293 => ?_)
        · replace hF := if_t hp293 hF
          refine wp_skip ?_
          refine e_then ?_
          refine wp_seq ?_
          refine wp_block ?_
          refine wp_seq ?_
          refine wp_region_lit ?_
          refine op_g ha rfl (g_move rfl) ?_; clear ha a; intro a ha
          refine op_g ha rfl (g_assign rfl) ?_; clear ha a; intro a ha
          refine wpList_nil ?_
          replace ha := ha.sub (σ' := [(0, va0), (1, (.int .i64 a1)), (2, va2), (3, (.int .i64 a3)), (9, (.int .i64 i146)), (18, (.int .i64 (min (a3 + 1) (a2.length : Int)))), (19, (.int .i64 i146))]) ⟨rfl, rfl, rfl, rfl, rfl, rfl, rfl, trivial⟩
          refine e_then ?_
          refine wp_seq ?_
          refine wp_seq ?_
          refine d_quiet hmix (by kernel_rfl) ?_
          refine q_g ha rfl (g_move rfl) ?_; clear ha a; intro a ha
          refine q_g ha rfl (g_move rfl) ?_; clear ha a; intro a ha
          obtain ⟨x294, g295, gx296, hF⟩ := idx_some hF
          obtain ⟨p297, cs298, f299, hf300, hpb301, hat302, hr303, hi304⟩ := h142.at g295 gx296
          obtain ⟨rfl, rfl⟩ := hr303
          refine q_g ha rfl (hi304.gives sl54 rfl rfl) ?_; clear ha a; intro a ha
          refine q_g ha rfl (g_load Tryd.isAgg59 rfl hat302.one) ?_; clear ha a; intro a ha
          refine q_g ha rfl (g_move rfl) ?_; clear ha a; intro a ha
          refine q_g ha rfl (g_move rfl) ?_; clear ha a; intro a ha
          obtain ⟨x305, g306, gx307, hF⟩ := idx_some hF
          obtain ⟨p308, cs309, f310, hf311, hpb312, hat313, hr314, hi315⟩ := h141.at g306 gx307
          obtain ⟨rfl, rfl⟩ := hr314
          refine q_g ha rfl (hi315.gives sl55 rfl rfl) ?_; clear ha a; intro a ha
          refine q_g ha rfl (g_load Tryd.isAgg59 rfl hat313.one) ?_; clear ha a; intro a ha
          refine q_g ha rfl (g32_and (m := x294) (n := x305) rfl rfl) ?_; clear ha a; intro a ha
          refine q_g ha rfl (g32_neq (m := (x294 &&& x305)) (n := (0#32)) rfl rfl) ?_; clear ha a; intro a ha
          refine q_nil ?_; intro w316 hx317
          replace h141 := h141.ext hx317
          replace h142 := h142.ext hx317
          have hE318 := Chg.more hE149 hx317
          replace ha := ha.sub (σ' := [(0, va0), (1, (.int .i64 a1)), (2, va2), (3, (.int .i64 a3)), (9, (.int .i64 i146)), (18, (.int .i64 (min (a3 + 1) (a2.length : Int)))), (19, (.int .i64 i146)), (31, (.bool (decide ((x294 &&& x305) ≠ (0#32)))))]) ⟨rfl, rfl, rfl, rfl, rfl, rfl, rfl, rfl, trivial⟩
          refine e_then ?_
          refine c_cond ((x294 &&& x305) ≠ (0#32)) ha rfl (decide_eq_true_iff) (fun hp319 => ?_) (fun hp319 => ?_)
          · replace hF := if_t hp319 hF
            refine wp_exit ?_
            refine e_then_exit ?_
            refine e_blk_eq ?_
            refine e_then ?_
            refine wp_region_lit ?_
            obtain ⟨hI320, hF⟩ := ck_some hF
            refine op_g ha rfl (g_add rfl rfl hI320) ?_; clear ha a; intro a ha
            refine op_g ha rfl (g_move rfl) ?_; clear ha a; intro a ha
            refine wpList_nil ?_
            replace ha := ha.sub (σ' := [(0, va0), (1, (.int .i64 a1)), (2, va2), (3, (.int .i64 a3)), (18, (.int .i64 (min (a3 + 1) (a2.length : Int)))), (19, (.int .i64 (i146 + 1)))]) ⟨rfl, rfl, rfl, rfl, rfl, rfl, trivial⟩
            refine e_lq ?_
            obtain rfl := Option.some.inj hF
            exact ⟨_, Nat.lt_succ_self _, l143, i146 + 1, ha.sub ⟨rfl, rfl, rfl, rfl, rfl, rfl, trivial⟩, hE318, hI320, h141, h142, q148, hN290⟩
          · replace hF := if_f hp319 hF
            refine wp_skip ?_
            refine e_then ?_
            refine wp_seq ?_
            refine d_region 8 hmix ?_
            refine u_g 0 rfl (by kernel_rfl) (want0 _) ha rfl (g_move rfl) ?_; clear ha a; intro a ha
            refine u_g 1 rfl (by kernel_rfl) (want0 _) ha rfl (g_move rfl) ?_; clear ha a; intro a ha
            obtain ⟨x322, g323, gx324, hF⟩ := idx_some hF
            obtain ⟨p325, cs326, f327, hf328, hpb329, hat330, hr331, hi332⟩ := h142.at g323 gx324
            obtain ⟨rfl, rfl⟩ := hr331
            refine u_g 2 rfl (by kernel_rfl) (want0 _) ha rfl (hi332.gives sl54 rfl rfl) ?_; clear ha a; intro a ha
            refine u_g 3 rfl (by kernel_rfl) (want0 _) ha rfl (g_load Tryd.isAgg59 rfl hat330.one) ?_; clear ha a; intro a ha
            refine u_g 4 rfl (by kernel_rfl) (want0 _) ha rfl (g_move rfl) ?_; clear ha a; intro a ha
            obtain ⟨x335, hc336, hF⟩ := cal_some hF
            refine u_call (.int .u32 (BitVec.toNat x335 : Int)) 5 rfl (by kernel_rfl) (want0 _) ha rfl rfl Tryd.call47 (fun w334 hx333 => W_impl_one ha1 hc336) (fun _ _ _ h => ⟨h.1, h.2⟩) ?_; clear ha a; intro a ha
            refine u_g 6 rfl (by kernel_rfl) (want0 _) ha rfl (g32_or (m := x322) (n := x335) rfl rfl) ?_; clear ha a; intro a ha
            obtain ⟨x337, g338, gx339, hF⟩ := idx_some hF
            obtain ⟨p340, cs341, f342, hf343, hpb344, hat345, hr346, hi347⟩ := h142.at g338 gx339
            obtain ⟨rfl, rfl⟩ := hr346
            refine u_g 7 rfl (by kernel_rfl) (want0 _) ha rfl (hi347.gives sl54 rfl rfl) ?_; clear ha a; intro a ha
            refine u_only 8 rfl (by kernel_rfl) ?_; intro w348 hx349
            replace h141 := h141.ext hx349
            replace h142 := h142.ext hx349
            have hE350 := Chg.more hE318 hx349
            refine o_storeE (f := []) (q := x322 ||| x335) ha Tryd.sizeOf59 rfl rfl rfl h142 hi347 ⟨rfl, rfl⟩ (Nq.nil _) ?_; intro w351 fs352 h353 hc354 hs355
            obtain rfl := Subst.nil hs355
            replace h141 := h141.nq hc354 q148
            have hE356 := Chg.same hE350 hc354
            refine wpList_nil (e_sq ?_)
            refine ⟨fun h => absurd h (by decide), ?_⟩
            refine u_done (by kernel_rfl) ?_; intro w357 hx358
            replace h141 := h141.ext hx358
            replace h353 := h353.ext hx358
            have hE359 := Chg.more hE356 hx358
            replace ha := ha.sub (σ' := [(0, va0), (1, (.int .i64 a1)), (2, va2), (3, (.int .i64 a3)), (9, (.int .i64 i146)), (18, (.int .i64 (min (a3 + 1) (a2.length : Int)))), (19, (.int .i64 i146))]) ⟨rfl, rfl, rfl, rfl, rfl, rfl, rfl, trivial⟩
            refine e_then ?_
            refine wp_seq ?_
            refine wp_seq ?_
            refine wp_region_lit ?_
            refine op_g ha rfl (g_move rfl) ?_; clear ha a; intro a ha
            refine op_g ha rfl (g_move rfl) ?_; clear ha a; intro a ha
            obtain ⟨hI360, hF⟩ := ck_some hF
            refine op_g ha rfl (g_add rfl rfl hI360) ?_; clear ha a; intro a ha
            refine op_g ha rfl (g_move rfl) ?_; clear ha a; intro a ha
            refine op_g ha rfl (g_move rfl) ?_; clear ha a; intro a ha
            refine op_g ha rfl (g_move rfl) ?_; clear ha a; intro a ha
            obtain ⟨hI362, hF⟩ := ck_some hF
            refine op_g ha rfl (g_add rfl rfl hI362) ?_; clear ha a; intro a ha
            refine op_g ha rfl (g_max rfl rfl) ?_; clear ha a; intro a ha
            obtain ⟨x364, hc365, hF⟩ := cal_some hF
            refine o_call ha rfl rfl Tryd.call79 (ih h141 hI360 h353 (in_max ha3 hI362) q148 hc365) ?_; clear ha a; rintro v366 w367 ⟨rfl, h369, hx368⟩ a ha
            replace h141 := h141.nq hx368 q148
            have hE370 := Chg.same hE359 hx368
            refine wpList_nil ?_
            replace ha := ha.sub (σ' := [(0, va0), (1, (.int .i64 a1)), (2, va2), (3, (.int .i64 a3)), (9, (.int .i64 i146)), (18, (.int .i64 (min (a3 + 1) (a2.length : Int)))), (19, (.int .i64 i146)), (48, (.bool x364.1))]) ⟨rfl, rfl, rfl, rfl, rfl, rfl, rfl, rfl, trivial⟩
            refine e_then ?_
            refine c_cond (x364.1 = true) ha rfl (Iff.rfl) (fun hp371 => ?_) (fun hp371 => ?_)
            · replace hF := if_t hp371 hF
              refine wp_seq ?_
              refine wp_region_lit ?_
              refine op_g ha rfl (g_assign rfl) ?_; clear ha a; intro a ha
              refine wpList_nil ?_
              replace ha := ha.sub (σ' := [(8, (.bool true))]) ⟨rfl, trivial⟩
              refine e_then ?_
              refine wp_ret ?_
              refine e_then_ret ?_
              refine e_blk_ret ?_
              refine e_then_ret ?_
              refine e_lq_ret ?_
              refine e_then_ret ?_
              obtain rfl := Option.some.inj hF
              have e372 := LK_inr hN290; subst e372
              have e373 := BK_inr hK286; subst e373
              exact f_ret1 ha rfl rfl ⟨rfl, h369, hE370⟩
            · replace hF := if_f hp371 hF
              refine wp_skip ?_
              refine e_then ?_
              refine d_region 8 hmix ?_
              refine u_g 0 rfl (by kernel_rfl) (want0 _) ha rfl (g_move rfl) ?_; clear ha a; intro a ha
              refine u_g 1 rfl (by kernel_rfl) (want0 _) ha rfl (g_move rfl) ?_; clear ha a; intro a ha
              obtain ⟨x374, g375, gx376, hF⟩ := idx_some hF
              obtain ⟨p377, cs378, f379, hf380, hpb381, hat382, hr383, hi384⟩ := h369.at g375 gx376
              obtain ⟨rfl, rfl⟩ := hr383
              refine u_g 2 rfl (by kernel_rfl) (want0 _) ha rfl (hi384.gives sl54 rfl rfl) ?_; clear ha a; intro a ha
              refine u_g 3 rfl (by kernel_rfl) (want0 _) ha rfl (g_load Tryd.isAgg59 rfl hat382.one) ?_; clear ha a; intro a ha
              refine u_g 4 rfl (by kernel_rfl) (want0 _) ha rfl (g_move rfl) ?_; clear ha a; intro a ha
              obtain ⟨x387, hc388, hF⟩ := cal_some hF
              refine u_call (.int .u32 (BitVec.toNat x387 : Int)) 5 rfl (by kernel_rfl) (want0 _) ha rfl rfl Tryd.call47 (fun w386 hx385 => W_impl_one ha1 hc388) (fun _ _ _ h => ⟨h.1, h.2⟩) ?_; clear ha a; intro a ha
              refine u_g 6 rfl (by kernel_rfl) (want0 _) ha rfl (g32_andNot (m := x374) (n := x387) rfl rfl) ?_; clear ha a; intro a ha
              obtain ⟨x389, g390, gx391, hF⟩ := idx_some hF
              obtain ⟨p392, cs393, f394, hf395, hpb396, hat397, hr398, hi399⟩ := h369.at g390 gx391
              obtain ⟨rfl, rfl⟩ := hr398
              refine u_g 7 rfl (by kernel_rfl) (want0 _) ha rfl (hi399.gives sl54 rfl rfl) ?_; clear ha a; intro a ha
              refine u_only 8 rfl (by kernel_rfl) ?_; intro w400 hx401
              replace h141 := h141.ext hx401
              replace h369 := h369.ext hx401
              have hE402 := Chg.more hE370 hx401
              refine o_storeE (f := []) (q := x374 &&& ~~~x387) ha Tryd.sizeOf59 rfl rfl rfl h369 hi399 ⟨rfl, rfl⟩ (Nq.nil _) ?_; intro w403 fs404 h405 hc406 hs407
              obtain rfl := Subst.nil hs407
              replace h141 := h141.nq hc406 q148
              have hE408 := Chg.same hE402 hc406
              refine wpList_nil (e_sq ?_)
              refine ⟨fun h => absurd h (by decide), ?_⟩
              refine u_done (by kernel_rfl) ?_; intro w409 hx410
              replace h141 := h141.ext hx410
              replace h405 := h405.ext hx410
              have hE411 := Chg.more hE408 hx410
              replace ha := ha.sub (σ' := [(0, va0), (1, (.int .i64 a1)), (2, va2), (3, (.int .i64 a3)), (18, (.int .i64 (min (a3 + 1) (a2.length : Int)))), (19, (.int .i64 i146))]) ⟨rfl, rfl, rfl, rfl, rfl, rfl, trivial⟩
              refine e_blk ?_
              refine e_then ?_
              refine wp_region_lit ?_
              obtain ⟨hI412, hF⟩ := ck_some hF
              refine op_g ha rfl (g_add rfl rfl hI412) ?_; clear ha a; intro a ha
              refine op_g ha rfl (g_move rfl) ?_; clear ha a; intro a ha
              refine wpList_nil ?_
              replace ha := ha.sub (σ' := [(0, va0), (1, (.int .i64 a1)), (2, va2), (3, (.int .i64 a3)), (18, (.int .i64 (min (a3 + 1) (a2.length : Int)))), (19, (.int .i64 (i146 + 1)))]) ⟨rfl, rfl, rfl, rfl, rfl, rfl, trivial⟩
              refine e_lq ?_
              obtain rfl := Option.some.inj hF
              exact ⟨_, Nat.lt_succ_self _, (x364.2.set ((i146 : Int).toNat) (x374 &&& ~~~x387)), i146 + 1, ha.sub ⟨rfl, rfl, rfl, rfl, rfl, rfl, trivial⟩, hE411, hI412, h141, h405, q148, hN290⟩
        · replace hF := if_f hp293 hF
          refine wp_exit ?_
          refine e_then_exit ?_
          refine e_lq_eq ?_
          obtain rfl := Option.some.inj hF
          exact ⟨l143, ha.sub trivial, hE149, h142, (LK_inr hN290).symm⟩
    · rintro a w279 ⟨l281, ha, hE289, h280, rfl⟩
      have hF : F_impl_colourOn_k2 l281 = some _ := hK286; clear hK286; unfold F_impl_colourOn_k2 at hF
      refine e_then ?_
      refine wp_seq ?_
      refine wp_region_lit ?_
      refine op_g ha rfl (g_assign rfl) ?_; clear ha a; intro a ha
      refine wpList_nil ?_
      refine e_then ?_
      refine wp_ret ?_
      obtain rfl := Option.some.inj hF
      exact f_ret1 ha rfl rfl ⟨rfl, h280, hE289⟩
theorem W_impl_colourOn_n (n : Nat) : ∀ {W : World} {va0 : Value} {fa0 : List Nat} {a0 : (List (BitVec 32))} (ha0 : Ro Rp.u32 W fa0 va0 a0) {a1 : Int} (ha1 : InI a1) {va2 : Value} {ba2 : Int} {a2 : (List (BitVec 32))} (ha2 : Ow Rp.u32 59 true W [] ba2 va2 a2) {a3 : Int} (ha3 : InI a3) (qa0 : Nq fa0 ba2) {r : (Bool × (List (BitVec 32)))} (hF : itN (fun (rc : ((List (BitVec 32)) × Int × (List (BitVec 32)) × Int) → Option (Bool × (List (BitVec 32)))) a => F_impl_colourOn_body (fun z0 z1 z2 z3 => rc (z0, z1, z2, z3)) a.1 a.2.1 a.2.2.1 a.2.2.2) n (a0, a1, a2, a3) = some r),
    Calls Tryd.prog 79 [va0, .int .i64 a1, va2, .int .i64 a3].toArray W (Ret fun u w' => u = .bool r.1 ∧ Ow Rp.u32 59 true w' [] ba2 va2 r.2 ∧ Chg (bl ba2) W w') := by
  induction n with
  | zero => intro W va0 fa0 a0 ha0 a1 ha1 va2 ba2 a2 ha2 a3 ha3 qa0 r hF; cases hF
  | succ n ih => intro W va0 fa0 a0 ha0 a1 ha1 va2 ba2 a2 ha2 a3 ha3 qa0 r hF; exact W_impl_colourOn_step (rc := fun z0 z1 z2 z3 => itN (fun (rc : ((List (BitVec 32)) × Int × (List (BitVec 32)) × Int) → Option (Bool × (List (BitVec 32)))) a => F_impl_colourOn_body (fun z0 z1 z2 z3 => rc (z0, z1, z2, z3)) a.1 a.2.1 a.2.2.1 a.2.2.2) n (z0, z1, z2, z3)) @ih ha0 ha1 ha2 ha3 qa0 hF
theorem W_impl_colourOn {W : World} {va0 : Value} {fa0 : List Nat} {a0 : (List (BitVec 32))} (ha0 : Ro Rp.u32 W fa0 va0 a0) {a1 : Int} (ha1 : InI a1) {va2 : Value} {ba2 : Int} {a2 : (List (BitVec 32))} (ha2 : Ow Rp.u32 59 true W [] ba2 va2 a2) {a3 : Int} (ha3 : InI a3) (qa0 : Nq fa0 ba2) {r : (Bool × (List (BitVec 32)))} (hF : F_impl_colourOn a0 a1 a2 a3 = some r) :
    Calls Tryd.prog 79 [va0, .int .i64 a1, va2, .int .i64 a3].toArray W (Ret fun u w' => u = .bool r.1 ∧ Ow Rp.u32 59 true w' [] ba2 va2 r.2 ∧ Chg (bl ba2) W w') := by
  obtain ⟨n, hn⟩ := fixO_some hF
  exact W_impl_colourOn_n n ha0 ha1 ha2 ha3 qa0 hn
set_option maxHeartbeats 2000000 in
theorem W_impl_bestClasses {W : World} {va0 : Value} {fa0 : List Nat} {a0 : (List (BitVec 32))} (ha0 : Ro Rp.u32 W fa0 va0 a0) {r : (List (BitVec 32))} (hF : F_impl_bestClasses a0 = some r) :
    Calls Tryd.prog 55 [va0].toArray W (Ret fun u w' => ∃ (b_u : Int), Ow Rp.u32 59 true w' [] b_u u r ∧ Zn W b_u ∧ Ext W w') := by
  refine f_enter Tryd.func55 rfl Tryd.ntmps55 rfl ?_
  intro a ha
  replace ha : Fr 13 [(0, va0)] a := ha
  have hE : Chg [] W W := Chg.refl _ _
  unfold F_impl_bestClasses at hF
  refine wp_seq ?_
  refine wp_region_lit ?_
  refine op_g ha rfl (g_assign rfl) ?_; clear ha a; intro a ha
  refine wpList_nil ?_
  replace ha := ha.sub (σ' := [(0, va0)]) ⟨rfl, trivial⟩
  refine e_then ?_
  refine wp_seq ?_
  refine wp_region_lit ?_
  refine op_g ha rfl (g_assign rfl) ?_; clear ha a; intro a ha
  refine wpList_nil ?_
  refine e_then ?_
  obtain ⟨o56, ho57, hK58⟩ := bnd_some hF
  obtain ⟨n59, hn60⟩ := lp_some ho57; clear ho57
  refine c_loop (fun a w => Fr 13 [] a ∧ Chg [] W w ∧ o56 = .inl ()) (fun n a w => ∃ (i28 : Int), Fr 13 [(0, va0), (3, (.int .i64 i28))] a ∧ Chg [] W w ∧ InI i28 ∧ lpN (fun s => F_impl_bestClasses_l1 a0 s) n i28 = some o56) n59 ⟨1, ha.sub ⟨rfl, rfl, trivial⟩, hE, (show InI 1 from by decide), hn60⟩ ?_ ?_
  · rintro m64 a w27 ⟨i28, ha, hE30, hI29, hF⟩
    cases m64 with
    | zero => exact (lpN_zero hF).elim
    | succ m64 =>
      obtain ⟨z63, hF, hN62⟩ := lpN_succ hF
      have hF : F_impl_bestClasses_l1 a0 i28 = some z63 := hF; unfold F_impl_bestClasses_l1 at hF
      refine wp_seq ?_
      refine wp_block ?_
      refine wp_seq ?_
      refine wp_region_lit ?_
      refine op_g ha rfl (g_move rfl) ?_; clear ha a; intro a ha
      obtain ⟨g69, g69b, hF⟩ := mkS_some hF
      refine o_make (z0 := (0 : BitVec 32)) Rp.u32 ha rfl sl54 rfl (fun w => ⟨rfl, rfl⟩) rfl g69 g69b ?_; clear ha a; intro v65 w66 h67 hx68 a ha
      obtain ⟨b72, hb72⟩ : ∃ b : Int, b = w27.heap.size := ⟨_, rfl⟩; rw [← hb72] at h67
      have q73 := zn_of hb72
      have q74 := Zn.upD q73 hE30
      have hE75 := Ext.trans hE30 hx68
      refine op_g ha rfl (g_assign rfl) ?_; clear ha a; intro a ha
      refine wpList_nil ?_
      replace ha := ha.sub (σ' := [(0, va0), (3, (.int .i64 i28)), (4, v65)]) ⟨rfl, rfl, rfl, trivial⟩
      refine e_then ?_
      refine wp_seq ?_
      refine wp_region_lit ?_
      refine op_g ha rfl (g_move rfl) ?_; clear ha a; intro a ha
      refine op_g ha rfl (g_move rfl) ?_; clear ha a; intro a ha
      obtain ⟨x76, hc77, hF⟩ := cal_some hF
      refine o_call ha rfl rfl Tryd.call79 (W_impl_colourOn (ha0.ext hE75) (show InI 0 from by decide) h67 (show InI 0 from by decide) (Nq.new ha0.bnd q74) hc77) ?_; clear ha a; rintro v78 w79 ⟨rfl, h81, hx80⟩ a ha
      have hE82 := Ext.then hE75 hx80 (Zn.bl q74)
      refine wpList_nil ?_
      replace ha := ha.sub (σ' := [(0, va0), (3, (.int .i64 i28)), (4, v65), (11, (.bool x76.1))]) ⟨rfl, rfl, rfl, rfl, trivial⟩
      refine e_then ?_
      refine c_cond (x76.1 = true) ha rfl (Iff.rfl) (fun hp83 => ?_) (fun hp83 => ?_)
      · replace hF := if_t hp83 hF
        refine wp_seq ?_
        refine wp_region_lit ?_
        refine op_g ha rfl (g_move rfl) ?_; clear ha a; intro a ha
        refine op_g ha rfl (g_assign rfl) ?_; clear ha a; intro a ha
        refine wpList_nil ?_
        replace ha := ha.sub (σ' := [(2, v65)]) ⟨rfl, trivial⟩
        refine e_then ?_
        refine wp_ret ?_
        refine e_blk_ret ?_
        refine e_then_ret ?_
        refine e_lq_ret ?_
        obtain rfl := Option.some.inj hF
        have e84 := LK_inr hN62; subst e84
        have e85 := BK_inr hK58; subst e85
        exact f_ret1 ha rfl rfl ⟨_, h81, q74, hE82⟩
      · replace hF := if_f hp83 hF
        refine wp_skip ?_
        refine e_blk ?_
        refine e_then ?_
        refine wp_region_lit ?_
        refine op_g ha rfl (g_move rfl) ?_; clear ha a; intro a ha
        obtain ⟨hI86, hF⟩ := ck_some hF
        refine op_g ha rfl (g_add rfl rfl hI86) ?_; clear ha a; intro a ha
        refine op_g ha rfl (g_assign rfl) ?_; clear ha a; intro a ha
        refine wpList_nil ?_
        replace ha := ha.sub (σ' := [(0, va0), (3, (.int .i64 (i28 + 1)))]) ⟨rfl, rfl, trivial⟩
        refine e_lq ?_
        obtain rfl := Option.some.inj hF
        exact ⟨_, Nat.lt_succ_self _, i28 + 1, ha.sub ⟨rfl, rfl, trivial⟩, hE82, hI86, hN62⟩
  · rintro a w55 ⟨ha, hE61, rfl⟩
    cases hK58
set_option maxHeartbeats 2000000 in
theorem W_impl_CriticalIn {W : World} {va0_0 : Value} {fa0_0 : List Nat} {a0_0 : (List (List Int))} (ha0_0 : Ro (Rp.sl 2 Rp.int) W fa0_0 va0_0 a0_0) (hG : GT 0 W) {r : Bool} (hF : F_impl_CriticalIn a0_0 = some r) :
    Calls Tryd.prog 26 [.agg #[va0_0]].toArray W (Ret fun u w' => u = .bool r ∧ Ext W w') := by
  refine f_enter Tryd.func26 rfl Tryd.ntmps26 rfl ?_
  intro a ha
  replace ha : Fr 35 [(0, (.agg #[va0_0]))] a := ha
  have hE : Chg [] W W := Chg.refl _ _
  unfold F_impl_CriticalIn at hF
  refine wp_seq ?_
  refine wp_region_lit ?_
  refine o_box ha rfl rfl rfl ?_; clear ha a; intro b1 w2 hB3 hx4 hlo5 a ha
  have q6 := Zn.one hlo5
  have q7 := Zn.upD q6 hE
  have hE8 := Ext.trans hE hx4
  refine op_g ha rfl (g_assign rfl) ?_; clear ha a; intro a ha
  refine wpList_nil ?_
  replace ha := ha.sub (σ' := [(1, (.pointer (some ⟨b1, 0, none⟩)))]) ⟨rfl, trivial⟩
  refine e_then ?_
  refine wp_seq ?_
  refine wp_seq ?_
  refine wp_region_lit ?_
  refine op_g ha rfl (g_loadA (cs := [va0_0]) Tryd.isAgg27 Tryd.sizeOf27 rfl (by simp) hB3.all) ?_; clear ha a; intro a ha
  obtain ⟨x9, hc10, hF⟩ := cal_some hF
  refine o_call ha rfl rfl Tryd.call43 (W_impl_GraphOk (ha0_0.ext hE8) hc10) ?_; clear ha a; rintro v11 w12 ⟨rfl, hx13⟩ a ha
  replace hB3 := hB3.ext hx13
  have hE14 := Ext.trans hE8 hx13
  refine op_g ha rfl (g_not rfl) ?_; clear ha a; intro a ha
  refine wpList_nil ?_
  replace ha := ha.sub (σ' := [(1, (.pointer (some ⟨b1, 0, none⟩))), (7, (.bool (!x9)))]) ⟨rfl, rfl, trivial⟩
  refine e_then ?_
  refine c_cond (¬ (x9 = true)) ha rfl (n_iff (Iff.rfl)) (fun hp15 => ?_) (fun hp15 => ?_)
  · replace hF := if_t hp15 hF
    refine wp_seq ?_
    refine wp_region_lit ?_
    refine op_g ha rfl (g_assign rfl) ?_; clear ha a; intro a ha
    refine wpList_nil ?_
    replace ha := ha.sub (σ' := [(2, (.bool false))]) ⟨rfl, trivial⟩
    refine e_then ?_
    refine wp_ret ?_
    refine e_then_ret ?_
    obtain rfl := Option.some.inj hF
    exact f_ret1 ha rfl rfl ⟨rfl, hE14⟩
  · replace hF := if_f hp15 hF
    refine wp_skip ?_
    refine e_then ?_
    refine wp_seq ?_
    refine wp_region_lit ?_
    refine op_g ha rfl (g_loadA (cs := [va0_0]) Tryd.isAgg27 Tryd.sizeOf27 rfl (by simp) hB3.all) ?_; clear ha a; intro a ha
    obtain ⟨x16, hc17, hF⟩ := cal_some hF
    refine o_call ha rfl rfl Tryd.call44 (W_impl_netsOf (ha0_0.ext hE14) hc17) ?_; clear ha a; rintro v18 w19 ⟨b21, h22, z23, hx20⟩ a ha
    have q25 := Nq.new hB3.fpb z23
    have q26 := Nq.madeO z23 hB3.bi
    replace hB3 := hB3.ext hx20
    have hE27 := Ext.trans hE14 hx20
    have q28 := Zn.upD z23 hE14
    refine op_g ha rfl (g_assign rfl) ?_; clear ha a; intro a ha
    refine wpList_nil ?_
    replace ha := ha.sub (σ' := [(3, v18)]) ⟨rfl, trivial⟩
    refine e_then ?_
    refine wp_seq ?_
    refine wp_seq ?_
    refine wp_region_lit ?_
    refine op_g ha rfl (g_move rfl) ?_; clear ha a; intro a ha
    refine op_g ha rfl (g_lenO sl55.und h22 rfl) ?_; clear ha a; intro a ha
    refine op_g ha rfl (g_move rfl) ?_; clear ha a; intro a ha
    refine wpList_nil ?_
    replace ha := ha.sub (σ' := [(3, v18), (11, (.int .i64 (x16.length : Int))), (12, (.int .i64 0))]) ⟨rfl, rfl, rfl, trivial⟩
    refine e_then ?_
    obtain ⟨o250, ho251, hK252⟩ := bnd_some hF
    obtain ⟨n253, hn254⟩ := lp_some ho251; clear ho251
    refine c_loop (fun a w => Fr 35 [] a ∧ Chg [] W w ∧ o250 = .inl ()) (fun n a w => ∃ (i142 : Int), Fr 35 [(3, v18), (11, (.int .i64 (x16.length : Int))), (12, (.int .i64 i142))] a ∧ Chg [] W w ∧ InI i142 ∧ Ow Rp.u32 59 true w [] b21 v18 x16 ∧ Zn W b21 ∧ lpN (fun s => F_impl_CriticalIn_l1 x16 s) n i142 = some o250) n253 ⟨0, ha.sub ⟨rfl, rfl, rfl, trivial⟩, hE27, (show InI 0 from by decide), h22, q28, hn254⟩ ?_ ?_
    · rintro m258 a w138 ⟨i142, ha, hE144, hI143, h140, z141, hF⟩
      cases m258 with
      | zero => exact (lpN_zero hF).elim
      | succ m258 =>
        obtain ⟨z257, hF, hN256⟩ := lpN_succ hF
        have hF : F_impl_CriticalIn_l1 x16 i142 = some z257 := hF; unfold F_impl_CriticalIn_l1 at hF
        refine wp_seq ?_
        refine wp_region_lit ?_
        refine op_g ha rfl (g_lss rfl rfl) ?_; clear ha a; intro a ha
        refine wpList_nil ?_
        replace ha := ha.sub (σ' := [(3, v18), (11, (.int .i64 (x16.length : Int))), (12, (.int .i64 i142)), (13, (.bool (decide (i142 < (x16.length : Int)))))]) ⟨rfl, rfl, rfl, rfl, trivial⟩
        refine e_then ?_
        refine wp_seq ?_
        refine c_cond (i142 < (x16.length : Int)) ha rfl (decide_eq_true_iff) (fun hp259 => ?_) (fun hp259 => ?_)
        · replace hF := if_t hp259 hF
          refine wp_skip ?_
          refine e_then ?_
          refine wp_seq ?_
          refine wp_block ?_
          refine wp_seq ?_
          refine wp_region_lit ?_
          refine op_g ha rfl (g_move rfl) ?_; clear ha a; intro a ha
          refine op_g ha rfl (g_assign rfl) ?_; clear ha a; intro a ha
          refine wpList_nil ?_
          replace ha := ha.sub (σ' := [(3, v18), (4, (.int .i64 i142)), (11, (.int .i64 (x16.length : Int))), (12, (.int .i64 i142))]) ⟨rfl, rfl, rfl, rfl, trivial⟩
          refine e_then ?_
          refine wp_seq ?_
          refine wp_region_lit ?_
          refine op_g ha rfl (g_move rfl) ?_; clear ha a; intro a ha
          refine op_g ha rfl (g_lenO sl55.und h140 rfl) ?_; clear ha a; intro a ha
          refine op_g ha rfl (g_gtr rfl rfl) ?_; clear ha a; intro a ha
          refine op_g ha rfl (g_move rfl) ?_; clear ha a; intro a ha
          by_cases hp260 : 1 < (x16.length : Int)
          · replace hF := if_t hp260 hF
            rw [show (decide (1 < (x16.length : Int))) = true from (decide_eq_true_iff).2 hp260] at ha
            refine op_want (yields ha rfl rfl) ?_
            refine op_g ha rfl (g_move rfl) ?_; clear ha a; intro a ha
            refine op_want (yields ha rfl rfl) ?_
            refine op_g ha rfl (g_move rfl) ?_; clear ha a; intro a ha
            refine op_want (yields ha rfl rfl) ?_
            obtain ⟨fp261, hro262, hs263⟩ := h140.roF
            obtain ⟨x264, hc265, hF⟩ := cal_some hF
            refine o_call ha rfl rfl Tryd.call45 (W_impl_nets_all hro262 hc265) ?_; clear ha a; rintro v266 w267 ⟨rfl, hx268⟩ a ha
            replace h140 := h140.ext hx268
            have hE269 := Ext.trans hE144 hx268
            refine op_want (yields ha rfl rfl) ?_
            refine op_g ha rfl (g_move rfl) ?_; clear ha a; intro a ha
            refine op_want (yields ha rfl rfl) ?_
            obtain ⟨x270, hc271, hF⟩ := cal_some hF
            refine o_call ha rfl rfl Tryd.call47 (W_impl_one hI143 hc271) ?_; clear ha a; rintro v272 w273 ⟨rfl, hx274⟩ a ha
            replace h140 := h140.ext hx274
            have hE275 := Ext.trans hE269 hx274
            refine op_want (yields ha rfl rfl) ?_
            refine op_g ha rfl (g32_andNot (m := x264) (n := x270) rfl rfl) ?_; clear ha a; intro a ha
            refine op_want (yields ha rfl rfl) ?_
            obtain ⟨x276, hc277, hF⟩ := cal_some hF
            refine o_call ha rfl rfl Tryd.call46 (W_impl_vset_list (hG.ext hE275) hc277) ?_; clear ha a; rintro v278 w279 ⟨b281, h282, z283, hx280⟩ a ha
            have q285 := Nq.new h140.fpb z283
            have q286 := Nq.madeO z283 h140.blt
            replace h140 := h140.ext hx280
            have hE287 := Ext.trans hE275 hx280
            have q288 := Zn.upD z283 hE275
            refine op_want (yields ha rfl rfl) ?_
            obtain ⟨fp289, hro290, hs291⟩ := h140.roF
            obtain ⟨fp292, hro293, hs294⟩ := h282.roF
            obtain ⟨x295, hc296, hF⟩ := cal_some hF
            refine o_call ha rfl rfl Tryd.call56 (W_impl_induced hro290 hro293 hc296) ?_; clear ha a; rintro v297 w298 ⟨b300, h301, z302, hx299⟩ a ha
            have q304 := Nq.new h140.fpb z302
            have q305 := Nq.madeO z302 h140.blt
            have q306 := Nq.new h282.fpb z302
            have q307 := Nq.madeO z302 h282.blt
            replace h140 := h140.ext hx299
            replace h282 := h282.ext hx299
            have hE308 := Ext.trans hE287 hx299
            have q309 := Zn.upD z302 hE287
            refine op_want (yields ha rfl rfl) ?_
            obtain ⟨fp310, hro311, hs312⟩ := h301.roF
            obtain ⟨x313, hc314, hF⟩ := cal_some hF
            refine o_call ha rfl rfl Tryd.call55 (W_impl_bestClasses hro311 hc314) ?_; clear ha a; rintro v315 w316 ⟨b318, h319, z320, hx317⟩ a ha
            have q322 := Nq.new h140.fpb z320
            have q323 := Nq.madeO z320 h140.blt
            have q324 := Nq.new h282.fpb z320
            have q325 := Nq.madeO z320 h282.blt
            have q326 := Nq.new h301.fpb z320
            have q327 := Nq.madeO z320 h301.blt
            replace h140 := h140.ext hx317
            replace h282 := h282.ext hx317
            replace h301 := h301.ext hx317
            have hE328 := Ext.trans hE308 hx317
            have q329 := Zn.upD z320 hE308
            refine op_want (yields ha rfl rfl) ?_
            refine op_g ha rfl (g_lenO sl54.und h319 rfl) ?_; clear ha a; intro a ha
            refine op_want (yields ha rfl rfl) ?_
            refine op_g ha rfl (g_move rfl) ?_; clear ha a; intro a ha
            refine op_want (yields ha rfl rfl) ?_
            obtain ⟨fp330, hro331, hs332⟩ := h140.roF
            obtain ⟨x333, hc334, hF⟩ := cal_some hF
            refine o_call ha rfl rfl Tryd.call55 (W_impl_bestClasses hro331 hc334) ?_; clear ha a; rintro v335 w336 ⟨b338, h339, z340, hx337⟩ a ha
            have q342 := Nq.new h140.fpb z340
            have q343 := Nq.madeO z340 h140.blt
            have q344 := Nq.new h282.fpb z340
            have q345 := Nq.madeO z340 h282.blt
            have q346 := Nq.new h301.fpb z340
            have q347 := Nq.madeO z340 h301.blt
            have q348 := Nq.new h319.fpb z340
            have q349 := Nq.madeO z340 h319.blt
            replace h140 := h140.ext hx337
            replace h282 := h282.ext hx337
            replace h301 := h301.ext hx337
            replace h319 := h319.ext hx337
            have hE350 := Ext.trans hE328 hx337
            have q351 := Zn.upD z340 hE328
            refine op_want (yields ha rfl rfl) ?_
            refine op_g ha rfl (g_lenO sl54.und h339 rfl) ?_; clear ha a; intro a ha
            refine op_want (yields ha rfl rfl) ?_
            refine op_g ha rfl (g_eql rfl rfl) ?_; clear ha a; intro a ha
            refine op_g ha rfl (g_pick rfl rfl) ?_; clear ha a; intro a ha
            refine wpList_nil ?_
            replace ha := ha.sub (σ' := [(3, v18), (11, (.int .i64 (x16.length : Int))), (12, (.int .i64 i142)), (19, v18), (20, v18), (21, (.int .u32 (BitVec.toNat x264 : Int))), (22, (.int .i64 i142)), (23, (.int .u32 (BitVec.toNat x270 : Int))), (24, (.int .u32 (BitVec.toNat (x264 &&& ~~~x270) : Int))), (25, v278), (26, v297), (27, v315), (28, (.int .i64 (x313.length : Int))), (29, v18), (30, v335), (31, (.int .i64 (x333.length : Int))), (32, (.bool (decide ((x313.length : Int) = (x333.length : Int))))), (33, (.bool (decide ((x313.length : Int) = (x333.length : Int)))))]) ⟨rfl, rfl, rfl, rfl, rfl, rfl, rfl, rfl, rfl, rfl, rfl, rfl, rfl, rfl, rfl, rfl, rfl, rfl, trivial⟩
            refine e_then ?_
            refine c_cond ((x313.length : Int) = (x333.length : Int)) ha rfl (decide_eq_true_iff) (fun hp352 => ?_) (fun hp352 => ?_)
            · replace hF := if_t hp352 hF
              refine wp_seq ?_
              refine wp_region_lit ?_
              refine op_g ha rfl (g_assign rfl) ?_; clear ha a; intro a ha
              refine wpList_nil ?_
              replace ha := ha.sub (σ' := [(2, (.bool false))]) ⟨rfl, trivial⟩
              refine e_then ?_
              refine wp_ret ?_
              refine e_blk_ret ?_
              refine e_then_ret ?_
              refine e_lq_ret ?_
              refine e_then_ret ?_
              obtain rfl := Option.some.inj hF
              have e353 := LK_inr hN256; subst e353
              have e354 := BK_inr hK252; subst e354
              exact f_ret1 ha rfl rfl ⟨rfl, hE350⟩
            · replace hF := if_f hp352 hF
              refine wp_skip ?_
              refine e_blk ?_
              refine e_then ?_
              refine wp_region_lit ?_
              obtain ⟨hI355, hF⟩ := ck_some hF
              refine op_g ha rfl (g_add rfl rfl hI355) ?_; clear ha a; intro a ha
              refine op_g ha rfl (g_move rfl) ?_; clear ha a; intro a ha
              refine wpList_nil ?_
              replace ha := ha.sub (σ' := [(3, v18), (11, (.int .i64 (x16.length : Int))), (12, (.int .i64 (i142 + 1))), (19, v18), (20, v18), (21, (.int .u32 (BitVec.toNat x264 : Int))), (22, (.int .i64 i142)), (23, (.int .u32 (BitVec.toNat x270 : Int))), (24, (.int .u32 (BitVec.toNat (x264 &&& ~~~x270) : Int))), (25, v278), (26, v297), (27, v315), (28, (.int .i64 (x313.length : Int))), (29, v18), (30, v335), (31, (.int .i64 (x333.length : Int))), (32, (.bool (decide ((x313.length : Int) = (x333.length : Int)))))]) ⟨rfl, rfl, rfl, rfl, rfl, rfl, rfl, rfl, rfl, rfl, rfl, rfl, rfl, rfl, rfl, rfl, rfl, trivial⟩
              refine e_lq ?_
              obtain rfl := Option.some.inj hF
              exact ⟨_, Nat.lt_succ_self _, i142 + 1, ha.sub ⟨rfl, rfl, rfl, trivial⟩, hE350, hI355, h140, z141, hN256⟩
          · replace hF := if_f hp260 hF
            rw [show (decide (1 < (x16.length : Int))) = false from b_false (decide_eq_true_iff) hp260] at ha
            refine op_unwant ha rfl (yields ha rfl rfl) rfl ?_; clear ha a; intro a ha
            refine op_unwant ha rfl (yields ha rfl rfl) rfl ?_; clear ha a; intro a ha
            refine op_unwant ha rfl (yields ha rfl rfl) rfl ?_; clear ha a; intro a ha
            refine op_unwant ha rfl (yields ha rfl rfl) rfl ?_; clear ha a; intro a ha
            refine op_unwant ha rfl (yields ha rfl rfl) rfl ?_; clear ha a; intro a ha
            refine op_unwant ha rfl (yields ha rfl rfl) rfl ?_; clear ha a; intro a ha
            refine op_unwant ha rfl (yields ha rfl rfl) rfl ?_; clear ha a; intro a ha
            refine op_unwant ha rfl (yields ha rfl rfl) rfl ?_; clear ha a; intro a ha
            refine op_unwant ha rfl (yields ha rfl rfl) rfl ?_; clear ha a; intro a ha
            refine op_unwant ha rfl (yields ha rfl rfl) rfl ?_; clear ha a; intro a ha
            refine op_unwant ha rfl (yields ha rfl rfl) rfl ?_; clear ha a; intro a ha
            refine op_unwant ha rfl (yields ha rfl rfl) rfl ?_; clear ha a; intro a ha
            refine op_unwant ha rfl (yields ha rfl rfl) rfl ?_; clear ha a; intro a ha
            refine op_unwant ha rfl (yields ha rfl rfl) rfl ?_; clear ha a; intro a ha
            refine op_g ha rfl (g_pick rfl rfl) ?_; clear ha a; intro a ha
            refine wpList_nil ?_
            replace ha := ha.sub (σ' := [(3, v18), (11, (.int .i64 (x16.length : Int))), (12, (.int .i64 i142)), (33, (.bool false))]) ⟨rfl, rfl, rfl, rfl, trivial⟩
            refine e_then ?_
            refine c_false ha rfl ?_
            refine wp_skip ?_
            refine e_blk ?_
            refine e_then ?_
            refine wp_region_lit ?_
            obtain ⟨hI357, hF⟩ := ck_some hF
            refine op_g ha rfl (g_add rfl rfl hI357) ?_; clear ha a; intro a ha
            refine op_g ha rfl (g_move rfl) ?_; clear ha a; intro a ha
            refine wpList_nil ?_
            replace ha := ha.sub (σ' := [(3, v18), (11, (.int .i64 (x16.length : Int))), (12, (.int .i64 (i142 + 1)))]) ⟨rfl, rfl, rfl, trivial⟩
            refine e_lq ?_
            obtain rfl := Option.some.inj hF
            exact ⟨_, Nat.lt_succ_self _, i142 + 1, ha.sub ⟨rfl, rfl, rfl, trivial⟩, hE144, hI357, h140, z141, hN256⟩
        · replace hF := if_f hp259 hF
          refine wp_exit ?_
          refine e_then_exit ?_
          refine e_lq_eq ?_
          obtain rfl := Option.some.inj hF
          exact ⟨ha.sub trivial, hE144, (LK_inr hN256).symm⟩
    · rintro a w249 ⟨ha, hE255, rfl⟩
      have hF : F_impl_CriticalIn_k2 = some _ := hK252; clear hK252; unfold F_impl_CriticalIn_k2 at hF
      refine e_then ?_
      refine wp_seq ?_
      refine wp_region_lit ?_
      refine op_g ha rfl (g_assign rfl) ?_; clear ha a; intro a ha
      refine wpList_nil ?_
      refine e_then ?_
      refine wp_ret ?_
      obtain rfl := Option.some.inj hF
      exact f_ret1 ha rfl rfl ⟨rfl, hE255⟩
set_option maxHeartbeats 2000000 in
theorem W_laws_eqInt64S {W : World} {va0 : Value} {fa0 : List Nat} {a0 : (List Int)} (ha0 : Ro Rp.int W fa0 va0 a0) {va1 : Value} {fa1 : List Nat} {a1 : (List Int)} (ha1 : Ro Rp.int W fa1 va1 a1) {r : Bool} (hF : F_laws_eqInt64S a0 a1 = some r) :
    Calls Tryd.prog 17 [va0, va1].toArray W (Ret fun u w' => u = .bool r ∧ Ext W w') := by
  refine f_enter Tryd.func17 rfl Tryd.ntmps17 rfl ?_
  intro a ha
  replace ha : Fr 26 [(0, va0), (1, va1)] a := ha
  have hE : Chg [] W W := Chg.refl _ _
  unfold F_laws_eqInt64S at hF
  refine wp_seq ?_
  refine wp_region_lit ?_
  refine op_g ha rfl (g_assign rfl) ?_; clear ha a; intro a ha
  refine wpList_nil ?_
  replace ha := ha.sub (σ' := [(0, va0), (1, va1)]) ⟨rfl, rfl, trivial⟩
  refine e_then ?_
  refine wp_seq ?_
  refine wp_seq ?_
  refine wp_region_lit ?_
  refine op_g ha rfl (g_move rfl) ?_; clear ha a; intro a ha
  refine op_g ha rfl (g_lenR sl31.und ha0 rfl) ?_; clear ha a; intro a ha
  refine op_g ha rfl (g_move rfl) ?_; clear ha a; intro a ha
  refine op_g ha rfl (g_lenR sl31.und ha1 rfl) ?_; clear ha a; intro a ha
  refine op_g ha rfl (g_neq rfl rfl) ?_; clear ha a; intro a ha
  refine wpList_nil ?_
  replace ha := ha.sub (σ' := [(0, va0), (1, va1), (10, (.bool (decide ((a0.length : Int) ≠ (a1.length : Int)))))]) ⟨rfl, rfl, rfl, trivial⟩
  refine e_then ?_
  refine c_cond ((a0.length : Int) ≠ (a1.length : Int)) ha rfl (decide_eq_true_iff) (fun hp1 => ?_) (fun hp1 => ?_)
  · replace hF := if_t hp1 hF
    refine wp_seq ?_
    refine wp_region_lit ?_
    refine op_g ha rfl (g_assign rfl) ?_; clear ha a; intro a ha
    refine wpList_nil ?_
    replace ha := ha.sub (σ' := [(4, (.bool false))]) ⟨rfl, trivial⟩
    refine e_then ?_
    refine wp_ret ?_
    refine e_then_ret ?_
    obtain rfl := Option.some.inj hF
    exact f_ret1 ha rfl rfl ⟨rfl, hE⟩
  · replace hF := if_f hp1 hF
    refine wp_skip ?_
    refine e_then ?_
    refine wp_seq ?_
    refine wp_seq ?_
    refine wp_region_lit ?_
    refine op_g ha rfl (g_assign rfl) ?_; clear ha a; intro a ha
    refine wpList_nil ?_
    replace ha := ha.sub (σ' := [(0, va0), (1, va1), (5, (.int .i64 0))]) ⟨rfl, rfl, rfl, trivial⟩
    refine e_then ?_
    obtain ⟨o77, ho78, hK79⟩ := bnd_some hF
    obtain ⟨n80, hn81⟩ := lp_some ho78; clear ho78
    refine c_loop (fun a w => Fr 26 [] a ∧ Chg [] W w ∧ o77 = .inl ()) (fun n a w => ∃ (i39 : Int), Fr 26 [(0, va0), (1, va1), (5, (.int .i64 i39))] a ∧ Chg [] W w ∧ InI i39 ∧ lpN (fun s => F_laws_eqInt64S_l1 a0 a1 s) n i39 = some o77) n80 ⟨0, ha.sub ⟨rfl, rfl, rfl, trivial⟩, hE, (show InI 0 from by decide), hn81⟩ ?_ ?_
    · rintro m85 a w38 ⟨i39, ha, hE41, hI40, hF⟩
      cases m85 with
      | zero => exact (lpN_zero hF).elim
      | succ m85 =>
        obtain ⟨z84, hF, hN83⟩ := lpN_succ hF
        have hF : F_laws_eqInt64S_l1 a0 a1 i39 = some z84 := hF; unfold F_laws_eqInt64S_l1 at hF
        refine wp_seq ?_
        refine wp_seq ?_
        refine wp_region_lit ?_
        refine op_g ha rfl (g_move rfl) ?_; clear ha a; intro a ha
        refine op_g ha rfl (g_move rfl) ?_; clear ha a; intro a ha
        refine op_g ha rfl (g_lenR sl31.und ha0 rfl) ?_; clear ha a; intro a ha
        refine op_g ha rfl (g_lss rfl rfl) ?_; clear ha a; intro a ha
        refine wpList_nil ?_
        replace ha := ha.sub (σ' := [(0, va0), (1, va1), (5, (.int .i64 i39)), (14, (.bool (decide (i39 < (a0.length : Int)))))]) ⟨rfl, rfl, rfl, rfl, trivial⟩
        refine e_then ?_
        refine c_cond (i39 < (a0.length : Int)) ha rfl (decide_eq_true_iff) (fun hp86 => ?_) (fun hp86 => ?_)
        · replace hF := if_t hp86 hF
          refine wp_skip ?_
          refine e_then ?_
          refine wp_seq ?_
          refine wp_block ?_
          refine wp_seq ?_
          refine d_quiet hmix (by kernel_rfl) ?_
          refine q_g ha rfl (g_move rfl) ?_; clear ha a; intro a ha
          refine q_g ha rfl (g_move rfl) ?_; clear ha a; intro a ha
          obtain ⟨x87, g88, gx89, hF⟩ := idx_some hF
          obtain ⟨p90, cs91, f92, hf93, hpb94, hat95, hr96, hi97⟩ := ha0.at g88 gx89
          obtain ⟨rfl, hI98, rfl⟩ := hr96
          refine q_g ha rfl (hi97.gives sl31 rfl rfl) ?_; clear ha a; intro a ha
          refine q_g ha rfl (g_load0 hE41 Tryd.isAgg2 rfl hat95.one) ?_; clear ha a; intro a ha
          refine q_g ha rfl (g_move rfl) ?_; clear ha a; intro a ha
          refine q_g ha rfl (g_move rfl) ?_; clear ha a; intro a ha
          obtain ⟨x99, g100, gx101, hF⟩ := idx_some hF
          obtain ⟨p102, cs103, f104, hf105, hpb106, hat107, hr108, hi109⟩ := ha1.at g100 gx101
          obtain ⟨rfl, hI110, rfl⟩ := hr108
          refine q_g ha rfl (hi109.gives sl31 rfl rfl) ?_; clear ha a; intro a ha
          refine q_g ha rfl (g_load0 hE41 Tryd.isAgg2 rfl hat107.one) ?_; clear ha a; intro a ha
          refine q_g ha rfl (g_neq rfl rfl) ?_; clear ha a; intro a ha
          refine q_nil ?_; intro w111 hx112
          have hE113 := Ext.trans hE41 hx112
          replace ha := ha.sub (σ' := [(0, va0), (1, va1), (5, (.int .i64 i39)), (25, (.bool (decide (x87 ≠ x99))))]) ⟨rfl, rfl, rfl, rfl, trivial⟩
          refine e_then ?_
          refine c_cond (x87 ≠ x99) ha rfl (decide_eq_true_iff) (fun hp114 => ?_) (fun hp114 => ?_)
          · replace hF := if_t hp114 hF
            refine wp_seq ?_
            refine wp_region_lit ?_
            refine op_g ha rfl (g_assign rfl) ?_; clear ha a; intro a ha
            refine wpList_nil ?_
            replace ha := ha.sub (σ' := [(4, (.bool false))]) ⟨rfl, trivial⟩
            refine e_then ?_
            refine wp_ret ?_
            refine e_blk_ret ?_
            refine e_then_ret ?_
            refine e_lq_ret ?_
            refine e_then_ret ?_
            obtain rfl := Option.some.inj hF
            have e115 := LK_inr hN83; subst e115
            have e116 := BK_inr hK79; subst e116
            exact f_ret1 ha rfl rfl ⟨rfl, hE113⟩
          · replace hF := if_f hp114 hF
            refine wp_skip ?_
            refine e_blk ?_
            refine e_then ?_
            refine wp_region_lit ?_
            refine op_g ha rfl (g_move rfl) ?_; clear ha a; intro a ha
            obtain ⟨hI117, hF⟩ := ck_some hF
            refine op_g ha rfl (g_add rfl rfl hI117) ?_; clear ha a; intro a ha
            refine op_g ha rfl (g_assign rfl) ?_; clear ha a; intro a ha
            refine wpList_nil ?_
            replace ha := ha.sub (σ' := [(0, va0), (1, va1), (5, (.int .i64 (i39 + 1)))]) ⟨rfl, rfl, rfl, trivial⟩
            refine e_lq ?_
            obtain rfl := Option.some.inj hF
            exact ⟨_, Nat.lt_succ_self _, i39 + 1, ha.sub ⟨rfl, rfl, rfl, trivial⟩, hE113, hI117, hN83⟩
        · replace hF := if_f hp86 hF
          refine wp_exit ?_
          refine e_then_exit ?_
          refine e_lq_eq ?_
          obtain rfl := Option.some.inj hF
          exact ⟨ha.sub trivial, hE41, (LK_inr hN83).symm⟩
    · rintro a w76 ⟨ha, hE82, rfl⟩
      have hF : F_laws_eqInt64S_k2 = some _ := hK79; clear hK79; unfold F_laws_eqInt64S_k2 at hF
      refine e_then ?_
      refine wp_seq ?_
      refine wp_region_lit ?_
      refine op_g ha rfl (g_assign rfl) ?_; clear ha a; intro a ha
      refine wpList_nil ?_
      refine e_then ?_
      refine wp_ret ?_
      obtain rfl := Option.some.inj hF
      exact f_ret1 ha rfl rfl ⟨rfl, hE82⟩
set_option maxHeartbeats 2000000 in
theorem W_laws_eqInt64SS {W : World} {va0 : Value} {fa0 : List Nat} {a0 : (List (List Int))} (ha0 : Ro (Rp.sl 2 Rp.int) W fa0 va0 a0) {va1 : Value} {fa1 : List Nat} {a1 : (List (List Int))} (ha1 : Ro (Rp.sl 2 Rp.int) W fa1 va1 a1) {r : Bool} (hF : F_laws_eqInt64SS a0 a1 = some r) :
    Calls Tryd.prog 33 [va0, va1].toArray W (Ret fun u w' => u = .bool r ∧ Ext W w') := by
  refine f_enter Tryd.func33 rfl Tryd.ntmps33 rfl ?_
  intro a ha
  replace ha : Fr 27 [(0, va0), (1, va1)] a := ha
  have hE : Chg [] W W := Chg.refl _ _
  unfold F_laws_eqInt64SS at hF
  refine wp_seq ?_
  refine wp_region_lit ?_
  refine op_g ha rfl (g_assign rfl) ?_; clear ha a; intro a ha
  refine wpList_nil ?_
  replace ha := ha.sub (σ' := [(0, va0), (1, va1)]) ⟨rfl, rfl, trivial⟩
  refine e_then ?_
  refine wp_seq ?_
  refine wp_seq ?_
  refine wp_region_lit ?_
  refine op_g ha rfl (g_move rfl) ?_; clear ha a; intro a ha
  refine op_g ha rfl (g_lenR sl22.und ha0 rfl) ?_; clear ha a; intro a ha
  refine op_g ha rfl (g_move rfl) ?_; clear ha a; intro a ha
  refine op_g ha rfl (g_lenR sl22.und ha1 rfl) ?_; clear ha a; intro a ha
  refine op_g ha rfl (g_neq rfl rfl) ?_; clear ha a; intro a ha
  refine wpList_nil ?_
  replace ha := ha.sub (σ' := [(0, va0), (1, va1), (10, (.bool (decide ((a0.length : Int) ≠ (a1.length : Int)))))]) ⟨rfl, rfl, rfl, trivial⟩
  refine e_then ?_
  refine c_cond ((a0.length : Int) ≠ (a1.length : Int)) ha rfl (decide_eq_true_iff) (fun hp1 => ?_) (fun hp1 => ?_)
  · replace hF := if_t hp1 hF
    refine wp_seq ?_
    refine wp_region_lit ?_
    refine op_g ha rfl (g_assign rfl) ?_; clear ha a; intro a ha
    refine wpList_nil ?_
    replace ha := ha.sub (σ' := [(4, (.bool false))]) ⟨rfl, trivial⟩
    refine e_then ?_
    refine wp_ret ?_
    refine e_then_ret ?_
    obtain rfl := Option.some.inj hF
    exact f_ret1 ha rfl rfl ⟨rfl, hE⟩
  · replace hF := if_f hp1 hF
    refine wp_skip ?_
    refine e_then ?_
    refine wp_seq ?_
    refine wp_seq ?_
    refine wp_region_lit ?_
    refine op_g ha rfl (g_assign rfl) ?_; clear ha a; intro a ha
    refine wpList_nil ?_
    replace ha := ha.sub (σ' := [(0, va0), (1, va1), (5, (.int .i64 0))]) ⟨rfl, rfl, rfl, trivial⟩
    refine e_then ?_
    obtain ⟨o93, ho94, hK95⟩ := bnd_some hF
    obtain ⟨n96, hn97⟩ := lp_some ho94; clear ho94
    refine c_loop (fun a w => Fr 27 [] a ∧ Chg [] W w ∧ o93 = .inl ()) (fun n a w => ∃ (i47 : Int), Fr 27 [(0, va0), (1, va1), (5, (.int .i64 i47))] a ∧ Chg [] W w ∧ InI i47 ∧ lpN (fun s => F_laws_eqInt64SS_l1 a0 a1 s) n i47 = some o93) n96 ⟨0, ha.sub ⟨rfl, rfl, rfl, trivial⟩, hE, (show InI 0 from by decide), hn97⟩ ?_ ?_
    · rintro m101 a w46 ⟨i47, ha, hE49, hI48, hF⟩
      cases m101 with
      | zero => exact (lpN_zero hF).elim
      | succ m101 =>
        obtain ⟨z100, hF, hN99⟩ := lpN_succ hF
        have hF : F_laws_eqInt64SS_l1 a0 a1 i47 = some z100 := hF; unfold F_laws_eqInt64SS_l1 at hF
        refine wp_seq ?_
        refine wp_seq ?_
        refine wp_region_lit ?_
        refine op_g ha rfl (g_move rfl) ?_; clear ha a; intro a ha
        refine op_g ha rfl (g_move rfl) ?_; clear ha a; intro a ha
        refine op_g ha rfl (g_lenR sl22.und ha0 rfl) ?_; clear ha a; intro a ha
        refine op_g ha rfl (g_lss rfl rfl) ?_; clear ha a; intro a ha
        refine wpList_nil ?_
        replace ha := ha.sub (σ' := [(0, va0), (1, va1), (5, (.int .i64 i47)), (14, (.bool (decide (i47 < (a0.length : Int)))))]) ⟨rfl, rfl, rfl, rfl, trivial⟩
        refine e_then ?_
        refine c_cond (i47 < (a0.length : Int)) ha rfl (decide_eq_true_iff) (fun hp102 => ?_) (fun hp102 => ?_)
        · replace hF := if_t hp102 hF
          refine wp_skip ?_
          refine e_then ?_
          refine wp_seq ?_
          refine wp_block ?_
          refine wp_seq ?_
          refine d_quiet hmix (by kernel_rfl) ?_
          refine q_g ha rfl (g_move rfl) ?_; clear ha a; intro a ha
          refine q_g ha rfl (g_move rfl) ?_; clear ha a; intro a ha
          obtain ⟨x103, g104, gx105, hF⟩ := idx_some hF
          obtain ⟨p106, cs107, f108, hf109, hpb110, hat111, hr112, hi113⟩ := ha0.at g104 gx105
          obtain ⟨v114, rfl, h115⟩ := hr112
          have h115 : Ro Rp.int W f108 v114 x103 := h115
          refine q_g ha rfl (hi113.gives sl22 rfl rfl) ?_; clear ha a; intro a ha
          refine q_g ha rfl (g_load0 hE49 Tryd.isAgg31 rfl hat111.one) ?_; clear ha a; intro a ha
          refine q_g ha rfl (g_move rfl) ?_; clear ha a; intro a ha
          refine q_g ha rfl (g_move rfl) ?_; clear ha a; intro a ha
          obtain ⟨x117, g118, gx119, hF⟩ := idx_some hF
          obtain ⟨p120, cs121, f122, hf123, hpb124, hat125, hr126, hi127⟩ := ha1.at g118 gx119
          obtain ⟨v128, rfl, h129⟩ := hr126
          have h129 : Ro Rp.int W f122 v128 x117 := h129
          refine q_g ha rfl (hi127.gives sl22 rfl rfl) ?_; clear ha a; intro a ha
          refine q_g ha rfl (g_load0 hE49 Tryd.isAgg31 rfl hat125.one) ?_; clear ha a; intro a ha
          obtain ⟨x133, hc134, hF⟩ := cal_some hF
          refine q_call (.bool x133) ha rfl rfl Tryd.call17 (fun w132 hx131 => W_laws_eqInt64S (h115.ext (Ext.trans hE49 hx131)) (h129.ext (Ext.trans hE49 hx131)) hc134) (fun _ _ _ h => ⟨h.1, h.2⟩) ?_; clear ha a; intro a ha
          refine q_g ha rfl (g_not rfl) ?_; clear ha a; intro a ha
          refine q_nil ?_; intro w135 hx136
          have hE137 := Ext.trans hE49 hx136
          replace ha := ha.sub (σ' := [(0, va0), (1, va1), (5, (.int .i64 i47)), (26, (.bool (!x133)))]) ⟨rfl, rfl, rfl, rfl, trivial⟩
          refine e_then ?_
          refine c_cond (¬ (x133 = true)) ha rfl (n_iff (Iff.rfl)) (fun hp138 => ?_) (fun hp138 => ?_)
          · replace hF := if_t hp138 hF
            refine wp_seq ?_
            refine wp_region_lit ?_
            refine op_g ha rfl (g_assign rfl) ?_; clear ha a; intro a ha
            refine wpList_nil ?_
            replace ha := ha.sub (σ' := [(4, (.bool false))]) ⟨rfl, trivial⟩
            refine e_then ?_
            refine wp_ret ?_
            refine e_blk_ret ?_
            refine e_then_ret ?_
            refine e_lq_ret ?_
            refine e_then_ret ?_
            obtain rfl := Option.some.inj hF
            have e139 := LK_inr hN99; subst e139
            have e140 := BK_inr hK95; subst e140
            exact f_ret1 ha rfl rfl ⟨rfl, hE137⟩
          · replace hF := if_f hp138 hF
            refine wp_skip ?_
            refine e_blk ?_
            refine e_then ?_
            refine wp_region_lit ?_
            refine op_g ha rfl (g_move rfl) ?_; clear ha a; intro a ha
            obtain ⟨hI141, hF⟩ := ck_some hF
            refine op_g ha rfl (g_add rfl rfl hI141) ?_; clear ha a; intro a ha
            refine op_g ha rfl (g_assign rfl) ?_; clear ha a; intro a ha
            refine wpList_nil ?_
            replace ha := ha.sub (σ' := [(0, va0), (1, va1), (5, (.int .i64 (i47 + 1)))]) ⟨rfl, rfl, rfl, trivial⟩
            refine e_lq ?_
            obtain rfl := Option.some.inj hF
            exact ⟨_, Nat.lt_succ_self _, i47 + 1, ha.sub ⟨rfl, rfl, rfl, trivial⟩, hE137, hI141, hN99⟩
        · replace hF := if_f hp102 hF
          refine wp_exit ?_
          refine e_then_exit ?_
          refine e_lq_eq ?_
          obtain rfl := Option.some.inj hF
          exact ⟨ha.sub trivial, hE49, (LK_inr hN99).symm⟩
    · rintro a w92 ⟨ha, hE98, rfl⟩
      have hF : F_laws_eqInt64SS_k2 = some _ := hK95; clear hK95; unfold F_laws_eqInt64SS_k2 at hF
      refine e_then ?_
      refine wp_seq ?_
      refine wp_region_lit ?_
      refine op_g ha rfl (g_assign rfl) ?_; clear ha a; intro a ha
      refine wpList_nil ?_
      refine e_then ?_
      refine wp_ret ?_
      obtain rfl := Option.some.inj hF
      exact f_ret1 ha rfl rfl ⟨rfl, hE98⟩
set_option maxHeartbeats 2000000 in
theorem W_laws_eqGraph {W : World} {va0_0 : Value} {fa0_0 : List Nat} {a0_0 : (List (List Int))} (ha0_0 : Ro (Rp.sl 2 Rp.int) W fa0_0 va0_0 a0_0) {va1_0 : Value} {fa1_0 : List Nat} {a1_0 : (List (List Int))} (ha1_0 : Ro (Rp.sl 2 Rp.int) W fa1_0 va1_0 a1_0) {r : Bool} (hF : F_laws_eqGraph a0_0 a1_0 = some r) :
    Calls Tryd.prog 13 [.agg #[va0_0], .agg #[va1_0]].toArray W (Ret fun u w' => u = .bool r ∧ Ext W w') := by
  refine f_enter Tryd.func13 rfl Tryd.ntmps13 rfl ?_
  intro a ha
  replace ha : Fr 11 [(0, (.agg #[va0_0])), (1, (.agg #[va1_0]))] a := ha
  have hE : Chg [] W W := Chg.refl _ _
  unfold F_laws_eqGraph at hF
  refine wp_seq ?_
  refine wp_region_lit ?_
  refine o_box ha rfl rfl rfl ?_; clear ha a; intro b1 w2 hB3 hx4 hlo5 a ha
  have q6 := Zn.one hlo5
  have q7 := Zn.upD q6 hE
  have hE8 := Ext.trans hE hx4
  refine o_box ha rfl rfl rfl ?_; clear ha a; intro b9 w10 hB11 hx12 hlo13 a ha
  have q14 := Zn.one hlo13
  have q15 := Nq.new hB3.fpb q14
  have q16 := Nq.made1 hlo13 hB3.bi
  have q17 := Zn.upD q14 hE8
  replace hB3 := hB3.ext hx12
  have hE18 := Ext.trans hE8 hx12
  refine op_g ha rfl (g_assign rfl) ?_; clear ha a; intro a ha
  refine wpList_nil ?_
  replace ha := ha.sub (σ' := [(2, (.pointer (some ⟨b1, 0, none⟩))), (3, (.pointer (some ⟨b9, 0, none⟩)))]) ⟨rfl, rfl, trivial⟩
  refine e_then ?_
  refine wp_seq ?_
  refine wp_seq ?_
  refine wp_region_lit ?_
  refine op_g ha rfl (g_field0 st27_0 rfl) ?_; clear ha a; intro a ha
  refine op_g ha rfl (g_load Tryd.isAgg22 rfl (hB3.cell rfl)) ?_; clear ha a; intro a ha
  refine op_g ha rfl (g_field0 st27_0 rfl) ?_; clear ha a; intro a ha
  refine op_g ha rfl (g_load Tryd.isAgg22 rfl (hB11.cell rfl)) ?_; clear ha a; intro a ha
  obtain ⟨x19, hc20, hF⟩ := cal_some hF
  refine o_call ha rfl rfl Tryd.call33 (W_laws_eqInt64SS (ha0_0.ext hE18) (ha1_0.ext hE18) hc20) ?_; clear ha a; rintro v21 w22 ⟨rfl, hx23⟩ a ha
  replace hB3 := hB3.ext hx23
  replace hB11 := hB11.ext hx23
  have hE24 := Ext.trans hE18 hx23
  refine op_g ha rfl (g_not rfl) ?_; clear ha a; intro a ha
  refine wpList_nil ?_
  replace ha := ha.sub (σ' := [(10, (.bool (!x19)))]) ⟨rfl, trivial⟩
  refine e_then ?_
  refine c_cond (¬ (x19 = true)) ha rfl (n_iff (Iff.rfl)) (fun hp25 => ?_) (fun hp25 => ?_)
  · replace hF := if_t hp25 hF
    refine wp_seq ?_
    refine wp_region_lit ?_
    refine op_g ha rfl (g_assign rfl) ?_; clear ha a; intro a ha
    refine wpList_nil ?_
    replace ha := ha.sub (σ' := [(4, (.bool false))]) ⟨rfl, trivial⟩
    refine e_then ?_
    refine wp_ret ?_
    refine e_then_ret ?_
    obtain rfl := Option.some.inj hF
    exact f_ret1 ha rfl rfl ⟨rfl, hE24⟩
  · replace hF := if_f hp25 hF
    refine wp_skip ?_
    refine e_then ?_
    refine wp_seq ?_
    refine wp_region_lit ?_
    refine op_g ha rfl (g_assign rfl) ?_; clear ha a; intro a ha
    refine wpList_nil ?_
    replace ha := ha.sub (σ' := [(4, (.bool true))]) ⟨rfl, trivial⟩
    refine e_then ?_
    refine wp_ret ?_
    obtain rfl := Option.some.inj hF
    exact f_ret1 ha rfl rfl ⟨rfl, hE24⟩
set_option maxHeartbeats 2000000 in
theorem W_laws_FnExactCriticalIn {W : World} {va0_0 : Value} {fa0_0 : List Nat} {a0_0 : (List (List Int))} (ha0_0 : Ro (Rp.sl 2 Rp.int) W fa0_0 va0_0 a0_0) (hG : GT 0 W) {r : Bool} (hF : F_laws_FnExactCriticalIn a0_0 = some r) :
    Calls Tryd.prog 7 [.agg #[va0_0]].toArray W (Ret fun u w' => u = .bool r ∧ Ext W w') := by
  refine f_enter Tryd.func7 rfl Tryd.ntmps7 rfl ?_
  intro a ha
  replace ha : Fr 27 [(0, (.agg #[va0_0]))] a := ha
  have hE : Chg [] W W := Chg.refl _ _
  unfold F_laws_FnExactCriticalIn at hF
  refine wp_seq ?_
  refine wp_region_lit ?_
  refine o_box ha rfl rfl rfl ?_; clear ha a; intro b1 w2 hB3 hx4 hlo5 a ha
  have q6 := Zn.one hlo5
  have q7 := Zn.upD q6 hE
  have hE8 := Ext.trans hE hx4
  refine op_g ha rfl (g_assign rfl) ?_; clear ha a; intro a ha
  refine wpList_nil ?_
  replace ha := ha.sub (σ' := [(1, (.pointer (some ⟨b1, 0, none⟩)))]) ⟨rfl, trivial⟩
  refine e_then ?_
  refine wp_seq ?_
  refine wp_region_lit ?_
  refine op_g ha rfl (g_assign rfl) ?_; clear ha a; intro a ha
  refine wpList_nil ?_
  refine e_then ?_
  refine wp_seq ?_
  refine wp_region_lit ?_
  refine op_g ha rfl (g_loadA (cs := [va0_0]) Tryd.isAgg24 Tryd.sizeOf24 rfl (by simp) hB3.all) ?_; clear ha a; intro a ha
  refine op_g ha rfl (g_move rfl) ?_; clear ha a; intro a ha
  obtain ⟨x9, hc10, hF⟩ := cal_some hF
  refine o_call ha rfl rfl Tryd.call9 (W_laws_szGraph (ha0_0.ext hE8) (show InI 1048576 from by decide) hc10) ?_; clear ha a; rintro v11 w12 ⟨⟨rfl, hI14⟩, hx13⟩ a ha
  replace hB3 := hB3.ext hx13
  have hE15 := Ext.trans hE8 hx13
  refine op_g ha rfl (g_assign rfl) ?_; clear ha a; intro a ha
  refine wpList_nil ?_
  replace ha := ha.sub (σ' := [(1, (.pointer (some ⟨b1, 0, none⟩))), (3, (.int .i64 x9))]) ⟨rfl, rfl, trivial⟩
  refine e_then ?_
  refine wp_seq ?_
  refine wp_seq ?_
  refine wp_region_lit ?_
  refine op_g ha rfl (g_move rfl) ?_; clear ha a; intro a ha
  refine op_g ha rfl (g_lss rfl rfl) ?_; clear ha a; intro a ha
  refine wpList_nil ?_
  replace ha := ha.sub (σ' := [(1, (.pointer (some ⟨b1, 0, none⟩))), (11, (.bool (decide (x9 < 0))))]) ⟨rfl, rfl, trivial⟩
  refine e_then ?_
  refine c_cond (x9 < 0) ha rfl (decide_eq_true_iff) (fun hp16 => ?_) (fun hp16 => ?_)
  · replace hF := if_t hp16 hF
    refine wp_seq ?_
    refine wp_region_lit ?_
    refine op_g ha rfl (g_assign rfl) ?_; clear ha a; intro a ha
    refine wpList_nil ?_
    replace ha := ha.sub (σ' := [(2, (.bool true))]) ⟨rfl, trivial⟩
    refine e_then ?_
    refine wp_ret ?_
    refine e_then_ret ?_
    obtain rfl := Option.some.inj hF
    exact f_ret1 ha rfl rfl ⟨rfl, hE15⟩
  · replace hF := if_f hp16 hF
    refine wp_skip ?_
    refine e_then ?_
    refine wp_seq ?_
    refine wp_region_lit ?_
    refine op_g ha rfl (g_loadA (cs := [va0_0]) Tryd.isAgg24 Tryd.sizeOf24 rfl (by simp) hB3.all) ?_; clear ha a; intro a ha
    obtain ⟨x17, hc18, hF⟩ := cal_some hF
    refine o_call ha rfl rfl Tryd.call11 (W_laws_toGraph (ha0_0.ext hE15) hc18) ?_; clear ha a; rintro v19 w20 ⟨u22, b23, fs27, rfl, h24, z25, zf28, nd29, hx21⟩ a ha
    have q30 := Nq.new hB3.fpb z25
    have q31 := Nq.madeF z25 zf28 hB3.bi
    have q32 := Nf.new hB3.fpb zf28
    replace hB3 := hB3.ext hx21
    have hE33 := Ext.trans hE15 hx21
    have q34 := Zn.upD z25 hE15
    have q35 := zf_up zf28 hE15
    obtain ⟨fp36, hro37, hs38⟩ := h24.roF
    obtain ⟨x39, hc40, hF⟩ := cal_some hF
    refine o_call ha rfl rfl Tryd.call27 (W_spec_CriticalIn hro37 hc40) ?_; clear ha a; rintro v41 w42 ⟨rfl, hx43⟩ a ha
    replace hB3 := hB3.ext hx43
    replace h24 := h24.ext hx43
    have hE44 := Ext.trans hE33 hx43
    refine op_g ha rfl (g_assign rfl) ?_; clear ha a; intro a ha
    refine wpList_nil ?_
    replace ha := ha.sub (σ' := [(1, (.pointer (some ⟨b1, 0, none⟩))), (4, (.bool x39))]) ⟨rfl, rfl, trivial⟩
    refine e_then ?_
    refine wp_seq ?_
    refine wp_region_lit ?_
    refine op_g ha rfl (g_loadA (cs := [va0_0]) Tryd.isAgg24 Tryd.sizeOf24 rfl (by simp) hB3.all) ?_; clear ha a; intro a ha
    obtain ⟨x45, hc46, hF⟩ := cal_some hF
    refine o_call ha rfl rfl Tryd.call11 (W_laws_toGraph (ha0_0.ext hE44) hc46) ?_; clear ha a; rintro v47 w48 ⟨u50, b51, fs55, rfl, h52, z53, zf56, nd57, hx49⟩ a ha
    have q58 := Nq.new hB3.fpb z53
    have q59 := Nq.madeF z53 zf56 hB3.bi
    have q60 := Nf.new hB3.fpb zf56
    replace hB3 := hB3.ext hx49
    have hE61 := Ext.trans hE44 hx49
    have q62 := Zn.upD z53 hE44
    have q63 := zf_up zf56 hE44
    refine o_alloc (cs := [(.slice none 0 0)]) ha rfl Tryd.zeroValue27 rfl ?_; clear ha a; intro b64 w65 hB66 hx67 hlo68 a ha
    have q69 := Zn.one hlo68
    have q70 := Nq.new hB3.fpb q69
    have q71 := Nq.made1 hlo68 hB3.bi
    have q72 := Nq.new h52.fpb q69
    have q73 := Nq.made1 hlo68 h52.blt
    have q74 := Zn.upD q69 hE61
    replace hB3 := hB3.ext hx67
    replace h52 := h52.ext hx67
    have hE75 := Ext.trans hE61 hx67
    refine o_storeA (vs := [u50]) ha hB66 Tryd.sizeOf27 rfl rfl (by intro c hc; simp only [List.mem_cons, List.not_mem_nil, or_false] at hc; rcases hc with hc <;> subst hc <;> first | rfl | exact h52.oneC) rfl ?_; intro w76 hB77 hc78
    replace hc78 := hc78.bl
    replace hB77 : Bx w76 b64 [u50] 27 := hB77
    replace hB3 := hB3.nq hc78 q70
    replace h52 := h52.nq hc78 q72
    have hE79 := Ext.then hE75 hc78 (Zn.bl q74)
    refine wpList_nil ?_
    replace ha := ha.sub (σ' := [(1, (.pointer (some ⟨b1, 0, none⟩))), (4, (.bool x39)), (5, (.pointer (some ⟨b64, 0, none⟩)))]) ⟨rfl, rfl, rfl, trivial⟩
    refine e_then ?_
    refine wp_seq ?_
    refine wp_region_lit ?_
    refine op_g ha rfl (g_loadA (cs := [u50]) Tryd.isAgg27 Tryd.sizeOf27 rfl (by simp) hB77.all) ?_; clear ha a; intro a ha
    obtain ⟨fp80, hro81, hs82⟩ := h52.roF
    obtain ⟨x83, hc84, hF⟩ := cal_some hF
    refine o_call ha rfl rfl Tryd.call26 (W_impl_CriticalIn hro81 (hG.ext hE79) hc84) ?_; clear ha a; rintro v85 w86 ⟨rfl, hx87⟩ a ha
    replace hB3 := hB3.ext hx87
    replace h52 := h52.ext hx87
    replace hB77 := hB77.ext hx87
    have hE88 := Ext.trans hE79 hx87
    refine op_g ha rfl (g_assign rfl) ?_; clear ha a; intro a ha
    refine wpList_nil ?_
    replace ha := ha.sub (σ' := [(1, (.pointer (some ⟨b1, 0, none⟩))), (4, (.bool x39)), (5, (.pointer (some ⟨b64, 0, none⟩))), (6, (.bool x83))]) ⟨rfl, rfl, rfl, rfl, trivial⟩
    refine e_then ?_
    refine wp_seq ?_
    refine wp_seq ?_
    refine wp_region_lit ?_
    refine op_g ha rfl (g_move rfl) ?_; clear ha a; intro a ha
    refine op_g ha rfl (g_move rfl) ?_; clear ha a; intro a ha
    refine op_g ha rfl (gB_neq un4 rfl rfl) ?_; clear ha a; intro a ha
    refine wpList_nil ?_
    replace ha := ha.sub (σ' := [(1, (.pointer (some ⟨b1, 0, none⟩))), (5, (.pointer (some ⟨b64, 0, none⟩))), (21, (.bool (x83 != x39)))]) ⟨rfl, rfl, rfl, trivial⟩
    refine e_then ?_
    refine c_cond ((x83 != x39) = true) ha rfl (Iff.rfl) (fun hp89 => ?_) (fun hp89 => ?_)
    · replace hF := if_t hp89 hF
      refine wp_seq ?_
      refine wp_region_lit ?_
      refine op_g ha rfl (g_assign rfl) ?_; clear ha a; intro a ha
      refine wpList_nil ?_
      replace ha := ha.sub (σ' := [(2, (.bool false))]) ⟨rfl, trivial⟩
      refine e_then ?_
      refine wp_ret ?_
      refine e_then_ret ?_
      obtain rfl := Option.some.inj hF
      exact f_ret1 ha rfl rfl ⟨rfl, hE88⟩
    · replace hF := if_f hp89 hF
      refine wp_skip ?_
      refine e_then ?_
      refine wp_seq ?_
      refine wp_seq ?_
      refine d_region 5 hmix ?_
      refine u_g 0 rfl (by kernel_rfl) (want0 _) ha rfl (g_loadA (cs := [u50]) Tryd.isAgg27 Tryd.sizeOf27 rfl (by simp) hB77.all) ?_; clear ha a; intro a ha
      refine u_g 1 rfl (by kernel_rfl) (want0 _) ha rfl (g_loadA (cs := [va0_0]) Tryd.isAgg24 Tryd.sizeOf24 rfl (by simp) hB3.all) ?_; clear ha a; intro a ha
      refine u_only 2 rfl (by kernel_rfl) ?_; intro w90 hx91
      replace hB3 := hB3.ext hx91
      replace h52 := h52.ext hx91
      replace hB77 := hB77.ext hx91
      have hE92 := Ext.trans hE88 hx91
      obtain ⟨x93, hc94, hF⟩ := cal_some hF
      refine o_call ha rfl rfl Tryd.call11 (W_laws_toGraph (ha0_0.ext hE92) hc94) ?_; clear ha a; rintro v95 w96 ⟨u98, b99, fs103, rfl, h100, z101, zf104, nd105, hx97⟩ a ha
      have q106 := Nq.new hB3.fpb z101
      have q107 := Nq.madeF z101 zf104 hB3.bi
      have q108 := Nq.new h52.fpb z101
      have q109 := Nq.madeF z101 zf104 h52.blt
      have q110 := Nq.new hB77.fpb z101
      have q111 := Nq.madeF z101 zf104 hB77.bi
      have q112 := Nf.new hB3.fpb zf104
      have q113 := Nf.new h52.fpb zf104
      have q114 := Nf.old z101 zf104 h52.bnd
      have q115 := Nf.new hB77.fpb zf104
      replace hB3 := hB3.ext hx97
      replace h52 := h52.ext hx97
      replace hB77 := hB77.ext hx97
      have hE116 := Ext.trans hE92 hx97
      have q117 := Zn.upD z101 hE92
      have q118 := zf_up zf104 hE92
      refine wpList_nil (e_sq ?_)
      refine ⟨fun _ => hx97, ?_⟩
      obtain ⟨fp121, hro122, hs123⟩ := h52.roF
      obtain ⟨fp124, hro125, hs126⟩ := h100.roF
      obtain ⟨x127, hc128, hF⟩ := cal_some hF
      refine u_call (.bool x127) 3 rfl (by kernel_rfl) (want0 _) ha rfl rfl Tryd.call13 (fun w120 hx119 => W_laws_eqGraph (hro122.ext hx119) (hro125.ext hx119) hc128) (fun _ _ _ h => ⟨h.1, h.2⟩) ?_; clear ha a; intro a ha
      refine u_g 4 rfl (by kernel_rfl) (want0 _) ha rfl (g_not rfl) ?_; clear ha a; intro a ha
      refine u_done (by kernel_rfl) ?_; intro w129 hx130
      replace hB3 := hB3.ext hx130
      replace h52 := h52.ext hx130
      replace hB77 := hB77.ext hx130
      replace h100 := h100.ext hx130
      have hE131 := Ext.trans hE116 hx130
      replace ha := ha.sub (σ' := [(26, (.bool (!x127)))]) ⟨rfl, trivial⟩
      refine e_then ?_
      refine c_cond (¬ (x127 = true)) ha rfl (n_iff (Iff.rfl)) (fun hp132 => ?_) (fun hp132 => ?_)
      · replace hF := if_t hp132 hF
        refine wp_seq ?_
        refine wp_region_lit ?_
        refine op_g ha rfl (g_assign rfl) ?_; clear ha a; intro a ha
        refine wpList_nil ?_
        replace ha := ha.sub (σ' := [(2, (.bool false))]) ⟨rfl, trivial⟩
        refine e_then ?_
        refine wp_ret ?_
        refine e_then_ret ?_
        obtain rfl := Option.some.inj hF
        exact f_ret1 ha rfl rfl ⟨rfl, hE131⟩
      · replace hF := if_f hp132 hF
        refine wp_skip ?_
        refine e_then ?_
        refine wp_seq ?_
        refine wp_region_lit ?_
        refine op_g ha rfl (g_assign rfl) ?_; clear ha a; intro a ha
        refine wpList_nil ?_
        replace ha := ha.sub (σ' := [(2, (.bool true))]) ⟨rfl, trivial⟩
        refine e_then ?_
        refine wp_ret ?_
        obtain rfl := Option.some.inj hF
        exact f_ret1 ha rfl rfl ⟨rfl, hE131⟩
end Go.Proofs.YtlbgoodonecebaaDoor
