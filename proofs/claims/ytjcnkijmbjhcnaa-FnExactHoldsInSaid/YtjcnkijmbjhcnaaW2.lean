/- Walks, printed by gen.py. -/
import Derived.Test.YtjcnkijmbjhcnaaF
import Derived.Test.YtjcnkijmbjhcnaaW1
import Derived.Test.YtjcnkijmbjhcnaaProg
import Derived.KernelRfl
set_option maxRecDepth 100000
namespace Go.Proofs.Ytjcnkijmbjhcnaa
open Go Go.RowKit

set_option maxHeartbeats 2000000 in
theorem W_impl_increasing {W : World} {va0 : Value} {fa0 : List Nat} {a0 : (List Int)} (ha0 : Ro Rp.int W fa0 va0 a0) {a1 : Int} (ha1 : InI a1) {r : Bool} (hF : F_impl_increasing a0 a1 = some r) :
    Calls Try.prog 52 [va0, .int .i64 a1].toArray W (Ret fun u w' => u = .bool r ∧ Ext W w') := by
  refine f_enter Try.func52 rfl Try.ntmps52 rfl ?_
  intro a ha
  replace ha : Fr 33 [(0, va0), (1, (.int .i64 a1))] a := ha
  have hE : Chg [] W W := Chg.refl _ _
  unfold F_impl_increasing at hF
  refine wp_seq ?_; refine wp_region_lit ?_; refine op_g ha rfl (g_assign rfl) ?_; clear ha a; intro a ha; refine wpList_nil ?_; replace ha := ha.sub (σ' := [(0, va0), (1, (.int .i64 a1))]) ⟨rfl, rfl, trivial⟩; refine e_then ?_; refine wp_seq ?_; refine wp_seq ?_; refine wp_region_lit ?_; refine op_g ha rfl (g_move rfl) ?_; clear ha a; intro a ha; refine op_g ha rfl (g_lenR sl40.und ha0 rfl) ?_; clear ha a; intro a ha; refine op_g ha rfl (g_move rfl) ?_; clear ha a; intro a ha; refine wpList_nil ?_; replace ha := ha.sub (σ' := [(0, va0), (1, (.int .i64 a1)), (7, va0), (8, (.int .i64 (a0.length : Int))), (9, (.int .i64 0))]) ⟨rfl, rfl, rfl, rfl, rfl, trivial⟩
  refine e_then ?_; obtain ⟨o98, ho99, hK100⟩ := bnd_some hF
  obtain ⟨n101, hn102⟩ := lp_some ho99; clear ho99
  refine c_loop (fun a w => Fr 33 [] a ∧ Chg [] W w ∧ o98 = .inl ()) (fun n a w => ∃ (i49 : Int), Fr 33 [(0, va0), (1, (.int .i64 a1)), (7, va0), (8, (.int .i64 (a0.length : Int))), (9, (.int .i64 i49))] a ∧ Chg [] W w ∧ InI i49 ∧ lpN (fun s => F_impl_increasing_l1 a0 a1 s) n i49 = some o98) n101 ⟨0, ha.sub ⟨rfl, rfl, rfl, rfl, rfl, trivial⟩, hE, (show InI 0 from by decide), hn102⟩ ?_ ?_
  · rintro m106 a w48 ⟨i49, ha, hE51, hI50, hF⟩
    cases m106 with
    | zero => exact (lpN_zero hF).elim
    | succ m106 =>
      obtain ⟨z105, hF, hN104⟩ := lpN_succ hF
      have hF : F_impl_increasing_l1 a0 a1 i49 = some z105 := hF; unfold F_impl_increasing_l1 at hF
      refine wp_seq ?_; refine wp_region_lit ?_; refine op_g ha rfl (g_lss rfl rfl) ?_; clear ha a; intro a ha; refine wpList_nil ?_; replace ha := ha.sub (σ' := [(0, va0), (1, (.int .i64 a1)), (7, va0), (8, (.int .i64 (a0.length : Int))), (9, (.int .i64 i49)), (10, (.bool (decide (i49 < (a0.length : Int)))))]) ⟨rfl, rfl, rfl, rfl, rfl, rfl, trivial⟩; refine e_then ?_; refine wp_seq ?_; refine c_cond (i49 < (a0.length : Int)) ha rfl (decide_eq_true_iff) (fun hp107 => ?_) (fun hp107 => ?_)
      · replace hF := if_t hp107 hF
        refine wp_skip ?_; refine e_then ?_; refine wp_seq ?_; refine wp_block ?_; refine wp_seq ?_; refine wp_region_lit ?_; refine op_g ha rfl (g_move rfl) ?_; clear ha a; intro a ha; obtain ⟨x108, g109, gx110, hF⟩ := idx_some hF
        obtain ⟨p111, cs112, f113, hf114, hpb115, hat116, hr117, hi118⟩ := ha0.at g109 gx110
        obtain ⟨rfl, hI119, rfl⟩ := hr117
        refine op_g ha rfl (hi118.gives sl40 rfl rfl) ?_; clear ha a; intro a ha; refine op_g ha rfl (g_load0 hE51 Try.isAgg2 rfl hat116.one) ?_; clear ha a; intro a ha; (iterate 2 refine op_g ha rfl (g_assign rfl) ?_; clear ha a; intro a ha); refine wpList_nil ?_; replace ha := ha.sub (σ' := [(0, va0), (1, (.int .i64 a1)), (5, (.int .i64 i49)), (6, (.int .i64 x108)), (7, va0), (8, (.int .i64 (a0.length : Int))), (9, (.int .i64 i49))]) ⟨rfl, rfl, rfl, rfl, rfl, rfl, rfl, trivial⟩; refine e_then ?_; refine wp_seq ?_; refine wp_region_lit ?_; (iterate 2 refine op_g ha rfl (g_move rfl) ?_; clear ha a; intro a ha)
        obtain ⟨hI120, hF⟩ := ck_some hF; refine op_g ha rfl (g_sub rfl rfl hI120) ?_; clear ha a; intro a ha; obtain ⟨x122, hc123, hF⟩ := cal_some hF
        refine o_call ha rfl rfl Try.call51 (W_impl_inRange hI119 (show InI 0 from by decide) hI120 hc123) ?_; clear ha a; rintro v124 w125 ⟨rfl, hx126⟩ a ha
        have hE127 := Ext.trans hE51 hx126
        refine op_g ha rfl (g_not rfl) ?_; clear ha a; intro a ha; refine op_g ha rfl (g_move rfl) ?_; clear ha a; intro a ha
        by_cases hp128 : ¬ (x122 = true)
        · replace hF := if_t hp128 hF
          rw [show (!x122) = true from (n_iff (Iff.rfl)).2 hp128] at ha
          (iterate 3 refine op_unwant ha rfl (yields ha rfl rfl) rfl ?_; clear ha a; intro a ha); (iterate 7 refine op_unwant0 ha rfl (yields0 ha rfl rfl) ?_; clear ha a; intro a ha); refine op_unwant ha rfl (yields ha rfl rfl) rfl ?_; clear ha a; intro a ha; refine op_g ha rfl (g_pick rfl rfl) ?_; clear ha a; intro a ha; refine wpList_nil ?_; replace ha := ha.sub (σ' := [(0, va0), (1, (.int .i64 a1)), (7, va0), (8, (.int .i64 (a0.length : Int))), (9, (.int .i64 i49)), (31, (.bool true))]) ⟨rfl, rfl, rfl, rfl, rfl, rfl, trivial⟩; refine e_then ?_; refine c_true ha rfl ?_; refine wp_seq ?_; refine wp_region_lit ?_
          refine op_g ha rfl (g_assign rfl) ?_; clear ha a; intro a ha; refine wpList_nil ?_; replace ha := ha.sub (σ' := [(4, (.bool false))]) ⟨rfl, trivial⟩; refine e_then ?_; refine wp_ret ?_; refine e_blk_ret ?_; refine e_then_ret ?_; refine e_lq_ret ?_; refine e_then_ret ?_; obtain rfl := Option.some.inj hF
          have e129 := LK_inr hN104; subst e129
          have e130 := BK_inr hK100; subst e130
          exact f_ret1 ha rfl rfl ⟨rfl, hE127⟩
        replace hF := if_f hp128 hF
        rw [show (!x122) = false from b_false (n_iff (Iff.rfl)) hp128] at ha
        refine op_want (yields ha rfl rfl) ?_; refine op_g ha rfl (g_move rfl) ?_; clear ha a; intro a ha; refine op_want (yields ha rfl rfl) ?_; refine op_g ha rfl (g_gtr rfl rfl) ?_; clear ha a; intro a ha; refine op_want (yields ha rfl rfl) ?_; refine op_g ha rfl (g_move rfl) ?_; clear ha a; intro a ha
        by_cases hp131 : 0 < i49
        · replace hF := if_t hp131 hF
          rw [show (decide (0 < i49)) = true from (decide_eq_true_iff).2 hp131] at ha
          refine op_want (yields ha rfl rfl) ?_; refine op_g ha rfl (g_move rfl) ?_; clear ha a; intro a ha; refine op_want (yields ha rfl rfl) ?_; refine op_g ha rfl (g_move rfl) ?_; clear ha a; intro a ha; refine op_want (yields ha rfl rfl) ?_; obtain ⟨hI132, hF⟩ := ck_some hF; refine op_g ha rfl (g_sub rfl rfl hI132) ?_; clear ha a; intro a ha; refine op_want (yields ha rfl rfl) ?_; obtain ⟨x134, g135, gx136, hF⟩ := idx_some hF
          obtain ⟨p137, cs138, f139, hf140, hpb141, hat142, hr143, hi144⟩ := ha0.at g135 gx136
          obtain ⟨rfl, hI145, rfl⟩ := hr143
          refine op_g ha rfl (hi144.gives sl40 rfl rfl) ?_; clear ha a; intro a ha; refine op_want (yields ha rfl rfl) ?_; refine op_g ha rfl (g_load0 hE127 Try.isAgg2 rfl hat142.one) ?_; clear ha a; intro a ha; refine op_want (yields ha rfl rfl) ?_; refine op_g ha rfl (g_move rfl) ?_; clear ha a; intro a ha; refine op_want (yields ha rfl rfl) ?_; refine op_g ha rfl (g_geq rfl rfl) ?_; clear ha a; intro a ha; refine op_want (yields ha rfl rfl) ?_; (iterate 2 refine op_g ha rfl (g_pick rfl rfl) ?_; clear ha a; intro a ha); refine wpList_nil ?_; replace ha := ha.sub (σ' := [(0, va0), (1, (.int .i64 a1)), (7, va0), (8, (.int .i64 (a0.length : Int))), (9, (.int .i64 i49)), (20, (.int .i64 i49)), (21, (.bool true)), (22, (.bool true)), (23, va0), (24, (.int .i64 i49)), (25, (.int .i64 (i49 - 1))), (26, (.pointer (some p137))), (27, (.int .i64 x134)), (28, (.int .i64 x108)), (29, (.bool (decide (x108 ≤ x134)))), (30, (.bool (decide (x108 ≤ x134)))), (31, (.bool (decide (x108 ≤ x134))))]) ⟨rfl, rfl, rfl, rfl, rfl, rfl, rfl, rfl, rfl, rfl, rfl, rfl, rfl, rfl, rfl, rfl, rfl, trivial⟩
          refine e_then ?_; refine c_cond (x108 ≤ x134) ha rfl (decide_eq_true_iff) (fun hp146 => ?_) (fun hp146 => ?_)
          · replace hF := if_t hp146 hF
            refine wp_seq ?_; refine wp_region_lit ?_; refine op_g ha rfl (g_assign rfl) ?_; clear ha a; intro a ha; refine wpList_nil ?_; replace ha := ha.sub (σ' := [(4, (.bool false))]) ⟨rfl, trivial⟩; refine e_then ?_; refine wp_ret ?_; refine e_blk_ret ?_; refine e_then_ret ?_; refine e_lq_ret ?_; refine e_then_ret ?_; obtain rfl := Option.some.inj hF
            have e147 := LK_inr hN104; subst e147
            have e148 := BK_inr hK100; subst e148
            exact f_ret1 ha rfl rfl ⟨rfl, hE127⟩
          replace hF := if_f hp146 hF; refine wp_skip ?_; refine e_blk ?_; refine e_then ?_; refine wp_region_lit ?_; obtain ⟨hI149, hF⟩ := ck_some hF; refine op_g ha rfl (g_add rfl rfl hI149) ?_; clear ha a; intro a ha; refine op_g ha rfl (g_move rfl) ?_; clear ha a; intro a ha; refine wpList_nil ?_; replace ha := ha.sub (σ' := [(0, va0), (1, (.int .i64 a1)), (7, va0), (8, (.int .i64 (a0.length : Int))), (9, (.int .i64 (i49 + 1))), (20, (.int .i64 i49)), (21, (.bool true)), (22, (.bool true)), (23, va0), (24, (.int .i64 i49)), (25, (.int .i64 (i49 - 1))), (26, (.pointer (some p137))), (27, (.int .i64 x134)), (28, (.int .i64 x108)), (29, (.bool (decide (x108 ≤ x134)))), (30, (.bool (decide (x108 ≤ x134))))]) ⟨rfl, rfl, rfl, rfl, rfl, rfl, rfl, rfl, rfl, rfl, rfl, rfl, rfl, rfl, rfl, rfl, trivial⟩
          refine e_lq ?_; obtain rfl := Option.some.inj hF
          exact ⟨_, Nat.lt_succ_self _, i49 + 1, ha.sub ⟨rfl, rfl, rfl, rfl, rfl, trivial⟩, hE127, hI149, hN104⟩
        replace hF := if_f hp131 hF
        rw [show (decide (0 < i49)) = false from b_false (decide_eq_true_iff) hp131] at ha
        (iterate 7 refine op_unwant ha rfl (yields ha rfl rfl) rfl ?_; clear ha a; intro a ha); refine op_want (yields ha rfl rfl) ?_; (iterate 2 refine op_g ha rfl (g_pick rfl rfl) ?_; clear ha a; intro a ha); refine wpList_nil ?_; replace ha := ha.sub (σ' := [(0, va0), (1, (.int .i64 a1)), (7, va0), (8, (.int .i64 (a0.length : Int))), (9, (.int .i64 i49)), (20, (.int .i64 i49)), (21, (.bool false)), (22, (.bool false)), (30, (.bool false)), (31, (.bool false))]) ⟨rfl, rfl, rfl, rfl, rfl, rfl, rfl, rfl, rfl, rfl, trivial⟩; refine e_then ?_; refine c_false ha rfl ?_; refine wp_skip ?_; refine e_blk ?_
        refine e_then ?_; refine wp_region_lit ?_; obtain ⟨hI151, hF⟩ := ck_some hF; refine op_g ha rfl (g_add rfl rfl hI151) ?_; clear ha a; intro a ha; refine op_g ha rfl (g_move rfl) ?_; clear ha a; intro a ha; refine wpList_nil ?_; replace ha := ha.sub (σ' := [(0, va0), (1, (.int .i64 a1)), (7, va0), (8, (.int .i64 (a0.length : Int))), (9, (.int .i64 (i49 + 1))), (20, (.int .i64 i49)), (21, (.bool false)), (22, (.bool false)), (30, (.bool false))]) ⟨rfl, rfl, rfl, rfl, rfl, rfl, rfl, rfl, rfl, trivial⟩; refine e_lq ?_; obtain rfl := Option.some.inj hF
        exact ⟨_, Nat.lt_succ_self _, i49 + 1, ha.sub ⟨rfl, rfl, rfl, rfl, rfl, trivial⟩, hE127, hI151, hN104⟩
      replace hF := if_f hp107 hF; refine wp_exit ?_; refine e_then_exit ?_; refine e_lq_eq ?_; obtain rfl := Option.some.inj hF
      exact ⟨ha.sub trivial, hE51, (LK_inr hN104).symm⟩
  rintro a w97 ⟨ha, hE103, rfl⟩
  have hF : F_impl_increasing_k2 = some _ := hK100; clear hK100; unfold F_impl_increasing_k2 at hF
  refine e_then ?_; refine wp_seq ?_; refine wp_region_lit ?_; refine op_g ha rfl (g_assign rfl) ?_; clear ha a; intro a ha; refine wpList_nil ?_; refine e_then ?_; refine wp_ret ?_; obtain rfl := Option.some.inj hF
  exact f_ret1 ha rfl rfl ⟨rfl, hE103⟩
set_option maxHeartbeats 2000000 in
theorem W_slices_Index_int64 {W : World} {va0 : Value} {fa0 : List Nat} {a0 : (List Int)} (ha0 : Ro Rp.int W fa0 va0 a0) {a1 : Int} (ha1 : InI a1) {r : Int} (hF : F_slices_Index_int64 a0 a1 = some r) :
    Calls Try.prog 68 [va0, .int .i64 a1].toArray W (Ret fun u w' => (u = .int .i64 r ∧ InI r) ∧ Ext W w') := by
  refine f_enter Try.func68 rfl Try.ntmps68 rfl ?_
  intro a ha
  replace ha : Fr 19 [(0, va0), (1, (.int .i64 a1))] a := ha
  have hE : Chg [] W W := Chg.refl _ _
  unfold F_slices_Index_int64 at hF
  refine wp_seq ?_; refine wp_region_lit ?_; refine op_g ha rfl (g_assign rfl) ?_; clear ha a; intro a ha; refine wpList_nil ?_; replace ha := ha.sub (σ' := [(0, va0), (1, (.int .i64 a1))]) ⟨rfl, rfl, trivial⟩; refine e_then ?_; refine wp_seq ?_; refine wp_seq ?_; refine wp_region_lit ?_; refine op_g ha rfl (g_move rfl) ?_; clear ha a; intro a ha; refine op_g ha rfl (g_lenR sl40.und ha0 rfl) ?_; clear ha a; intro a ha; refine op_g ha rfl (g_move rfl) ?_; clear ha a; intro a ha; refine wpList_nil ?_; replace ha := ha.sub (σ' := [(0, va0), (1, (.int .i64 a1)), (7, (.int .i64 (a0.length : Int))), (8, (.int .i64 0))]) ⟨rfl, rfl, rfl, rfl, trivial⟩
  refine e_then ?_; obtain ⟨o46, ho47, hK48⟩ := bnd_some hF
  obtain ⟨n49, hn50⟩ := lp_some ho47; clear ho47
  refine c_loop (fun a w => Fr 19 [] a ∧ Chg [] W w ∧ o46 = .inl ()) (fun n a w => ∃ (i23 : Int), Fr 19 [(0, va0), (1, (.int .i64 a1)), (7, (.int .i64 (a0.length : Int))), (8, (.int .i64 i23))] a ∧ Chg [] W w ∧ InI i23 ∧ lpN (fun s => F_slices_Index_int64_l1 a0 a1 s) n i23 = some o46) n49 ⟨0, ha.sub ⟨rfl, rfl, rfl, rfl, trivial⟩, hE, (show InI 0 from by decide), hn50⟩ ?_ ?_
  · rintro m54 a w22 ⟨i23, ha, hE25, hI24, hF⟩
    cases m54 with
    | zero => exact (lpN_zero hF).elim
    | succ m54 =>
      obtain ⟨z53, hF, hN52⟩ := lpN_succ hF
      have hF : F_slices_Index_int64_l1 a0 a1 i23 = some z53 := hF; unfold F_slices_Index_int64_l1 at hF
      refine wp_seq ?_; refine wp_region_lit ?_; refine op_g ha rfl (g_lss rfl rfl) ?_; clear ha a; intro a ha; refine wpList_nil ?_; replace ha := ha.sub (σ' := [(0, va0), (1, (.int .i64 a1)), (7, (.int .i64 (a0.length : Int))), (8, (.int .i64 i23)), (9, (.bool (decide (i23 < (a0.length : Int)))))]) ⟨rfl, rfl, rfl, rfl, rfl, trivial⟩; refine e_then ?_; refine wp_seq ?_; refine c_cond (i23 < (a0.length : Int)) ha rfl (decide_eq_true_iff) (fun hp55 => ?_) (fun hp55 => ?_)
      · replace hF := if_t hp55 hF
        refine wp_skip ?_; refine e_then ?_; refine wp_seq ?_; refine wp_block ?_; refine wp_seq ?_; refine wp_region_lit ?_; refine op_g ha rfl (g_move rfl) ?_; clear ha a; intro a ha; refine op_g ha rfl (g_assign rfl) ?_; clear ha a; intro a ha; refine wpList_nil ?_; replace ha := ha.sub (σ' := [(0, va0), (1, (.int .i64 a1)), (5, (.int .i64 i23)), (7, (.int .i64 (a0.length : Int))), (8, (.int .i64 i23))]) ⟨rfl, rfl, rfl, rfl, rfl, trivial⟩; refine e_then ?_; refine wp_seq ?_; refine wp_region_lit ?_; (iterate 3 refine op_g ha rfl (g_move rfl) ?_; clear ha a; intro a ha); obtain ⟨x56, g57, gx58, hF⟩ := idx_some hF
        obtain ⟨p59, cs60, f61, hf62, hpb63, hat64, hr65, hi66⟩ := ha0.at g57 gx58
        obtain ⟨rfl, hI67, rfl⟩ := hr65
        refine op_g ha rfl (hi66.gives sl40 rfl rfl) ?_; clear ha a; intro a ha; refine op_g ha rfl (g_load0 hE25 Try.isAgg2 rfl hat64.one) ?_; clear ha a; intro a ha; refine op_g ha rfl (g_eql rfl rfl) ?_; clear ha a; intro a ha; refine wpList_nil ?_; replace ha := ha.sub (σ' := [(0, va0), (1, (.int .i64 a1)), (5, (.int .i64 i23)), (7, (.int .i64 (a0.length : Int))), (8, (.int .i64 i23)), (16, (.bool (decide (a1 = x56))))]) ⟨rfl, rfl, rfl, rfl, rfl, rfl, trivial⟩; refine e_then ?_; refine c_cond (a1 = x56) ha rfl (decide_eq_true_iff) (fun hp68 => ?_) (fun hp68 => ?_)
        · replace hF := if_t hp68 hF
          refine wp_seq ?_; refine wp_region_lit ?_; refine op_g ha rfl (g_move rfl) ?_; clear ha a; intro a ha; refine op_g ha rfl (g_assign rfl) ?_; clear ha a; intro a ha; refine wpList_nil ?_; replace ha := ha.sub (σ' := [(4, (.int .i64 i23))]) ⟨rfl, trivial⟩; refine e_then ?_; refine wp_ret ?_; refine e_blk_ret ?_; refine e_then_ret ?_; refine e_lq_ret ?_; refine e_then_ret ?_; obtain rfl := Option.some.inj hF
          have e69 := LK_inr hN52; subst e69
          have e70 := BK_inr hK48; subst e70
          exact f_ret1 ha rfl rfl ⟨⟨rfl, hI24⟩, hE25⟩
        replace hF := if_f hp68 hF; refine wp_skip ?_; refine e_blk ?_; refine e_then ?_; refine wp_region_lit ?_; obtain ⟨hI71, hF⟩ := ck_some hF; refine op_g ha rfl (g_add rfl rfl hI71) ?_; clear ha a; intro a ha; refine op_g ha rfl (g_move rfl) ?_; clear ha a; intro a ha; refine wpList_nil ?_; replace ha := ha.sub (σ' := [(0, va0), (1, (.int .i64 a1)), (7, (.int .i64 (a0.length : Int))), (8, (.int .i64 (i23 + 1)))]) ⟨rfl, rfl, rfl, rfl, trivial⟩; refine e_lq ?_; obtain rfl := Option.some.inj hF
        exact ⟨_, Nat.lt_succ_self _, i23 + 1, ha.sub ⟨rfl, rfl, rfl, rfl, trivial⟩, hE25, hI71, hN52⟩
      replace hF := if_f hp55 hF; refine wp_exit ?_; refine e_then_exit ?_; refine e_lq_eq ?_; obtain rfl := Option.some.inj hF
      exact ⟨ha.sub trivial, hE25, (LK_inr hN52).symm⟩
  rintro a w45 ⟨ha, hE51, rfl⟩
  have hF : F_slices_Index_int64_k2 = some _ := hK48; clear hK48; unfold F_slices_Index_int64_k2 at hF
  refine e_then ?_; refine wp_seq ?_; refine wp_region_lit ?_; refine op_g ha rfl (g_assign rfl) ?_; clear ha a; intro a ha; refine wpList_nil ?_; refine e_then ?_; refine wp_ret ?_; obtain rfl := Option.some.inj hF
  exact f_ret1 ha rfl rfl ⟨⟨rfl, (show InI (-1) from by decide)⟩, hE51⟩
set_option maxHeartbeats 2000000 in
theorem W_slices_Contains_int64 {W : World} {va0 : Value} {fa0 : List Nat} {a0 : (List Int)} (ha0 : Ro Rp.int W fa0 va0 a0) {a1 : Int} (ha1 : InI a1) {r : Bool} (hF : F_slices_Contains_int64 a0 a1 = some r) :
    Calls Try.prog 60 [va0, .int .i64 a1].toArray W (Ret fun u w' => u = .bool r ∧ Ext W w') := by
  refine f_enter Try.func60 rfl Try.ntmps60 rfl ?_
  intro a ha
  replace ha : Fr 9 [(0, va0), (1, (.int .i64 a1))] a := ha
  have hE : Chg [] W W := Chg.refl _ _
  unfold F_slices_Contains_int64 at hF
  refine wp_seq ?_; refine wp_region_lit ?_; refine op_g ha rfl (g_assign rfl) ?_; clear ha a; intro a ha; refine wpList_nil ?_; replace ha := ha.sub (σ' := [(0, va0), (1, (.int .i64 a1))]) ⟨rfl, rfl, trivial⟩; refine e_then ?_; refine wp_seq ?_; refine wp_region_lit ?_; (iterate 2 refine op_g ha rfl (g_move rfl) ?_; clear ha a; intro a ha); obtain ⟨x1, hc2, hF⟩ := cal_some hF
  refine o_call ha rfl rfl Try.call68 (W_slices_Index_int64 (ha0.ext hE) ha1 hc2) ?_; clear ha a; rintro v3 w4 ⟨⟨rfl, hI6⟩, hx5⟩ a ha
  have hE7 := Ext.trans hE hx5
  refine op_g ha rfl (g_geq rfl rfl) ?_; clear ha a; intro a ha; refine op_g ha rfl (g_assign rfl) ?_; clear ha a; intro a ha; refine wpList_nil ?_; replace ha := ha.sub (σ' := [(4, (.bool (decide (0 ≤ x1))))]) ⟨rfl, trivial⟩; refine e_then ?_; refine wp_ret ?_; obtain rfl := Option.some.inj hF
  exact f_ret1 ha rfl rfl ⟨rfl, hE7⟩
set_option maxHeartbeats 2000000 in
theorem W_impl_GraphOk {W : World} {va0_0 : Value} {fa0_0 : List Nat} {a0_0 : (List (List Int))} (ha0_0 : Ro (Rp.sl 2 Rp.int) W fa0_0 va0_0 a0_0) {r : Bool} (hF : F_impl_GraphOk a0_0 = some r) :
    Calls Try.prog 50 [.agg #[va0_0]].toArray W (Ret fun u w' => u = .bool r ∧ Ext W w') := by
  refine f_enter Try.func50 rfl Try.ntmps50 rfl ?_
  intro a ha
  replace ha : Fr 61 [(0, (.agg #[va0_0]))] a := ha
  have hE : Chg [] W W := Chg.refl _ _
  unfold F_impl_GraphOk at hF
  refine wp_seq ?_; refine wp_region_lit ?_
  refine o_box ha rfl rfl rfl ?_; clear ha a; intro b1 w2 hB3 hx4 hlo5 a ha
  have q6 := Zn.one hlo5
  have q7 := Zn.upD q6 hE
  have hE8 := Ext.trans hE hx4
  refine op_g ha rfl (g_assign rfl) ?_; clear ha a; intro a ha; refine wpList_nil ?_; replace ha := ha.sub (σ' := [(1, (.pointer (some ⟨b1, 0, none⟩)))]) ⟨rfl, trivial⟩; refine e_then ?_; refine wp_seq ?_; refine wp_region_lit ?_; refine op_g ha rfl (g_field0 st31_0 rfl) ?_; clear ha a; intro a ha; refine op_g ha rfl (g_load Try.isAgg22 rfl (hB3.cell rfl)) ?_; clear ha a; intro a ha; refine op_g ha rfl (g_lenR sl22.und ha0_0 rfl) ?_; clear ha a; intro a ha; refine op_g ha rfl (g_assign rfl) ?_; clear ha a; intro a ha; refine wpList_nil ?_; replace ha := ha.sub (σ' := [(1, (.pointer (some ⟨b1, 0, none⟩))), (3, (.int .i64 (a0_0.length : Int)))]) ⟨rfl, rfl, trivial⟩
  refine e_then ?_; refine wp_seq ?_; refine wp_seq ?_; refine wp_region_lit ?_; refine op_g ha rfl (g_move rfl) ?_; clear ha a; intro a ha; refine op_g ha rfl (g_lss rfl rfl) ?_; clear ha a; intro a ha; refine op_g ha rfl (g_move rfl) ?_; clear ha a; intro a ha
  by_cases hp11 : (a0_0.length : Int) < 1
  · replace hF := if_t hp11 hF
    rw [show (decide ((a0_0.length : Int) < 1)) = true from (decide_eq_true_iff).2 hp11] at ha
    (iterate 2 refine op_unwant ha rfl (yields ha rfl rfl) rfl ?_; clear ha a; intro a ha); refine op_g ha rfl (g_pick rfl rfl) ?_; clear ha a; intro a ha; refine wpList_nil ?_; replace ha := ha.sub (σ' := [(1, (.pointer (some ⟨b1, 0, none⟩))), (3, (.int .i64 (a0_0.length : Int))), (18, (.bool true))]) ⟨rfl, rfl, rfl, trivial⟩; refine e_then ?_; refine c_true ha rfl ?_; refine wp_seq ?_; refine wp_region_lit ?_; refine op_g ha rfl (g_assign rfl) ?_; clear ha a; intro a ha; refine wpList_nil ?_; replace ha := ha.sub (σ' := [(2, (.bool false))]) ⟨rfl, trivial⟩; refine e_then ?_; refine wp_ret ?_
    refine e_then_ret ?_; obtain rfl := Option.some.inj hF
    exact f_ret1 ha rfl rfl ⟨rfl, hE8⟩
  replace hF := if_f hp11 hF
  rw [show (decide ((a0_0.length : Int) < 1)) = false from b_false (decide_eq_true_iff) hp11] at ha
  refine op_want (yields ha rfl rfl) ?_; refine op_g ha rfl (g_move rfl) ?_; clear ha a; intro a ha; refine op_want (yields ha rfl rfl) ?_; refine op_g ha rfl (g_gtr rfl rfl) ?_; clear ha a; intro a ha; refine op_g ha rfl (g_pick rfl rfl) ?_; clear ha a; intro a ha; refine wpList_nil ?_; replace ha := ha.sub (σ' := [(1, (.pointer (some ⟨b1, 0, none⟩))), (3, (.int .i64 (a0_0.length : Int))), (18, (.bool (decide (16 < (a0_0.length : Int)))))]) ⟨rfl, rfl, rfl, trivial⟩; refine e_then ?_; refine c_cond (16 < (a0_0.length : Int)) ha rfl (decide_eq_true_iff) (fun hp12 => ?_) (fun hp12 => ?_)
  · replace hF := if_t hp12 hF
    refine wp_seq ?_; refine wp_region_lit ?_; refine op_g ha rfl (g_assign rfl) ?_; clear ha a; intro a ha; refine wpList_nil ?_; replace ha := ha.sub (σ' := [(2, (.bool false))]) ⟨rfl, trivial⟩; refine e_then ?_; refine wp_ret ?_; refine e_then_ret ?_; obtain rfl := Option.some.inj hF
    exact f_ret1 ha rfl rfl ⟨rfl, hE8⟩
  replace hF := if_f hp12 hF; refine wp_skip ?_; refine e_then ?_; refine wp_seq ?_; refine wp_seq ?_; refine wp_region_lit ?_; refine op_g ha rfl (g_field0 st31_0 rfl) ?_; clear ha a; intro a ha; refine op_g ha rfl (g_load Try.isAgg22 rfl (hB3.cell rfl)) ?_; clear ha a; intro a ha; refine op_g ha rfl (g_lenR sl22.und ha0_0 rfl) ?_; clear ha a; intro a ha; refine op_g ha rfl (g_move rfl) ?_; clear ha a; intro a ha; refine wpList_nil ?_; replace ha := ha.sub (σ' := [(1, (.pointer (some ⟨b1, 0, none⟩))), (3, (.int .i64 (a0_0.length : Int))), (20, va0_0), (21, (.int .i64 (a0_0.length : Int))), (22, (.int .i64 0))]) ⟨rfl, rfl, rfl, rfl, rfl, trivial⟩
  refine e_then ?_; obtain ⟨o98, ho99, hK100⟩ := bnd_some hF
  obtain ⟨n101, hn102⟩ := lp_some ho99; clear ho99
  refine c_loop (fun a w => Fr 61 [(1, (.pointer (some ⟨b1, 0, none⟩)))] a ∧ Chg [] W w ∧ Bx w b1 [va0_0] 31 ∧ Zn W (b1 : Int) ∧ o98 = .inl ()) (fun n a w => ∃ (i56 : Int), Fr 61 [(1, (.pointer (some ⟨b1, 0, none⟩))), (3, (.int .i64 (a0_0.length : Int))), (20, va0_0), (21, (.int .i64 (a0_0.length : Int))), (22, (.int .i64 i56))] a ∧ Chg [] W w ∧ InI i56 ∧ Bx w b1 [va0_0] 31 ∧ Zn W (b1 : Int) ∧ lpN (fun s => F_impl_GraphOk_l1 a0_0 s) n i56 = some o98) n101 ⟨0, ha.sub ⟨rfl, rfl, rfl, rfl, rfl, trivial⟩, hE8, (show InI 0 from by decide), hB3, q7, hn102⟩ ?_ ?_
  · rintro m106 a w53 ⟨i56, ha, hE58, hI57, hB54, z55, hF⟩
    cases m106 with
    | zero => exact (lpN_zero hF).elim
    | succ m106 =>
      obtain ⟨z105, hF, hN104⟩ := lpN_succ hF
      have hF : F_impl_GraphOk_l1 a0_0 i56 = some z105 := hF; unfold F_impl_GraphOk_l1 at hF
      refine wp_seq ?_; refine wp_region_lit ?_; refine op_g ha rfl (g_lss rfl rfl) ?_; clear ha a; intro a ha; refine wpList_nil ?_; replace ha := ha.sub (σ' := [(1, (.pointer (some ⟨b1, 0, none⟩))), (3, (.int .i64 (a0_0.length : Int))), (20, va0_0), (21, (.int .i64 (a0_0.length : Int))), (22, (.int .i64 i56)), (23, (.bool (decide (i56 < (a0_0.length : Int)))))]) ⟨rfl, rfl, rfl, rfl, rfl, rfl, trivial⟩; refine e_then ?_; refine wp_seq ?_; refine c_cond (i56 < (a0_0.length : Int)) ha rfl (decide_eq_true_iff) (fun hp107 => ?_) (fun hp107 => ?_)
      · replace hF := if_t hp107 hF
        refine wp_skip ?_; refine e_then ?_; refine wp_seq ?_; refine wp_block ?_; refine wp_seq ?_; refine wp_region_lit ?_; refine op_g ha rfl (g_move rfl) ?_; clear ha a; intro a ha; obtain ⟨x108, g109, gx110, hF⟩ := idx_some hF
        obtain ⟨p111, cs112, f113, hf114, hpb115, hat116, hr117, hi118⟩ := ha0_0.at g109 gx110
        obtain ⟨v119, rfl, h120⟩ := hr117
        have h120 : Ro Rp.int W f113 v119 x108 := h120
        refine op_g ha rfl (hi118.gives sl22 rfl rfl) ?_; clear ha a; intro a ha; refine op_g ha rfl (g_load0 hE58 Try.isAgg40 rfl hat116.one) ?_; clear ha a; intro a ha; (iterate 2 refine op_g ha rfl (g_assign rfl) ?_; clear ha a; intro a ha); refine wpList_nil ?_; replace ha := ha.sub (σ' := [(1, (.pointer (some ⟨b1, 0, none⟩))), (3, (.int .i64 (a0_0.length : Int))), (4, (.int .i64 i56)), (5, v119), (20, va0_0), (21, (.int .i64 (a0_0.length : Int))), (22, (.int .i64 i56))]) ⟨rfl, rfl, rfl, rfl, rfl, rfl, rfl, trivial⟩; refine e_then ?_; refine wp_seq ?_; refine wp_region_lit ?_; (iterate 2 refine op_g ha rfl (g_move rfl) ?_; clear ha a; intro a ha)
        obtain ⟨x122, hc123, hF⟩ := cal_some hF
        refine o_call ha rfl rfl Try.call52 (W_impl_increasing (h120.ext hE58) ha0_0.len hc123) ?_; clear ha a; rintro v124 w125 ⟨rfl, hx126⟩ a ha
        replace hB54 := hB54.ext hx126
        have hE127 := Ext.trans hE58 hx126
        refine op_g ha rfl (g_not rfl) ?_; clear ha a; intro a ha; refine op_g ha rfl (g_move rfl) ?_; clear ha a; intro a ha
        by_cases hp128 : ¬ (x122 = true)
        · replace hF := if_t hp128 hF
          rw [show (!x122) = true from (n_iff (Iff.rfl)).2 hp128] at ha
          (iterate 3 refine op_unwant ha rfl (yields ha rfl rfl) rfl ?_; clear ha a; intro a ha); refine op_g ha rfl (g_pick rfl rfl) ?_; clear ha a; intro a ha; refine wpList_nil ?_; replace ha := ha.sub (σ' := [(1, (.pointer (some ⟨b1, 0, none⟩))), (3, (.int .i64 (a0_0.length : Int))), (20, va0_0), (21, (.int .i64 (a0_0.length : Int))), (22, (.int .i64 i56)), (35, (.bool true))]) ⟨rfl, rfl, rfl, rfl, rfl, rfl, trivial⟩; refine e_then ?_; refine c_true ha rfl ?_; refine wp_seq ?_; refine wp_region_lit ?_; refine op_g ha rfl (g_assign rfl) ?_; clear ha a; intro a ha; refine wpList_nil ?_; replace ha := ha.sub (σ' := [(2, (.bool false))]) ⟨rfl, trivial⟩
          refine e_then ?_; refine wp_ret ?_; refine e_blk_ret ?_; refine e_then_ret ?_; refine e_lq_ret ?_; refine e_then_ret ?_; obtain rfl := Option.some.inj hF
          have e129 := LK_inr hN104; subst e129
          have e130 := BK_inr hK100; subst e130
          exact f_ret1 ha rfl rfl ⟨rfl, hE127⟩
        replace hF := if_f hp128 hF
        rw [show (!x122) = false from b_false (n_iff (Iff.rfl)) hp128] at ha
        refine op_want (yields ha rfl rfl) ?_; refine op_g ha rfl (g_move rfl) ?_; clear ha a; intro a ha; refine op_want (yields ha rfl rfl) ?_; refine op_g ha rfl (g_move rfl) ?_; clear ha a; intro a ha; refine op_want (yields ha rfl rfl) ?_; obtain ⟨x131, hc132, hF⟩ := cal_some hF
        refine o_call ha rfl rfl Try.call60 (W_slices_Contains_int64 (h120.ext hE127) hI57 hc132) ?_; clear ha a; rintro v133 w134 ⟨rfl, hx135⟩ a ha
        replace hB54 := hB54.ext hx135
        have hE136 := Ext.trans hE127 hx135
        refine op_g ha rfl (g_pick rfl rfl) ?_; clear ha a; intro a ha; refine wpList_nil ?_; replace ha := ha.sub (σ' := [(1, (.pointer (some ⟨b1, 0, none⟩))), (3, (.int .i64 (a0_0.length : Int))), (20, va0_0), (21, (.int .i64 (a0_0.length : Int))), (22, (.int .i64 i56)), (32, v119), (33, (.int .i64 i56)), (34, (.bool x131)), (35, (.bool x131))]) ⟨rfl, rfl, rfl, rfl, rfl, rfl, rfl, rfl, rfl, trivial⟩; refine e_then ?_; refine c_cond (x131 = true) ha rfl (Iff.rfl) (fun hp137 => ?_) (fun hp137 => ?_)
        · replace hF := if_t hp137 hF
          refine wp_seq ?_; refine wp_region_lit ?_; refine op_g ha rfl (g_assign rfl) ?_; clear ha a; intro a ha; refine wpList_nil ?_; replace ha := ha.sub (σ' := [(2, (.bool false))]) ⟨rfl, trivial⟩; refine e_then ?_; refine wp_ret ?_; refine e_blk_ret ?_; refine e_then_ret ?_; refine e_lq_ret ?_; refine e_then_ret ?_; obtain rfl := Option.some.inj hF
          have e138 := LK_inr hN104; subst e138
          have e139 := BK_inr hK100; subst e139
          exact f_ret1 ha rfl rfl ⟨rfl, hE136⟩
        replace hF := if_f hp137 hF; refine wp_skip ?_; refine e_blk ?_; refine e_then ?_; refine wp_region_lit ?_; obtain ⟨hI140, hF⟩ := ck_some hF; refine op_g ha rfl (g_add rfl rfl hI140) ?_; clear ha a; intro a ha; refine op_g ha rfl (g_move rfl) ?_; clear ha a; intro a ha; refine wpList_nil ?_; replace ha := ha.sub (σ' := [(1, (.pointer (some ⟨b1, 0, none⟩))), (3, (.int .i64 (a0_0.length : Int))), (20, va0_0), (21, (.int .i64 (a0_0.length : Int))), (22, (.int .i64 (i56 + 1))), (32, v119), (33, (.int .i64 i56)), (34, (.bool x131))]) ⟨rfl, rfl, rfl, rfl, rfl, rfl, rfl, rfl, trivial⟩; refine e_lq ?_
        obtain rfl := Option.some.inj hF
        exact ⟨_, Nat.lt_succ_self _, i56 + 1, ha.sub ⟨rfl, rfl, rfl, rfl, rfl, trivial⟩, hE136, hI140, hB54, z55, hN104⟩
      replace hF := if_f hp107 hF; refine wp_exit ?_; refine e_then_exit ?_; refine e_lq_eq ?_; obtain rfl := Option.some.inj hF
      exact ⟨ha.sub ⟨rfl, trivial⟩, hE58, hB54, z55, (LK_inr hN104).symm⟩
  rintro a w95 ⟨ha, hE103, hB96, z97, rfl⟩
  have hF : F_impl_GraphOk_k2 a0_0 = some _ := hK100; clear hK100; unfold F_impl_GraphOk_k2 at hF
  refine e_then ?_; refine wp_seq ?_; refine wp_seq ?_; refine wp_region_lit ?_; refine op_g ha rfl (g_field0 st31_0 rfl) ?_; clear ha a; intro a ha; refine op_g ha rfl (g_load Try.isAgg22 rfl (hB96.cell rfl)) ?_; clear ha a; intro a ha; refine op_g ha rfl (g_lenR sl22.und ha0_0 rfl) ?_; clear ha a; intro a ha; refine op_g ha rfl (g_move rfl) ?_; clear ha a; intro a ha; refine wpList_nil ?_; replace ha := ha.sub (σ' := [(1, (.pointer (some ⟨b1, 0, none⟩))), (38, va0_0), (39, (.int .i64 (a0_0.length : Int))), (40, (.int .i64 0))]) ⟨rfl, rfl, rfl, rfl, trivial⟩; refine e_then ?_; obtain ⟨o477, ho478, hK479⟩ := bnd_some hF
  obtain ⟨n480, hn481⟩ := lp_some ho478; clear ho478
  refine c_loop (fun a w => Fr 61 [] a ∧ Chg [] W w ∧ o477 = .inl ()) (fun n a w => ∃ (i311 : Int), Fr 61 [(1, (.pointer (some ⟨b1, 0, none⟩))), (38, va0_0), (39, (.int .i64 (a0_0.length : Int))), (40, (.int .i64 i311))] a ∧ Chg [] W w ∧ InI i311 ∧ Bx w b1 [va0_0] 31 ∧ Zn W (b1 : Int) ∧ lpN (fun s => F_impl_GraphOk_l3 a0_0 s) n i311 = some o477) n480 ⟨0, ha.sub ⟨rfl, rfl, rfl, rfl, trivial⟩, hE103, (show InI 0 from by decide), hB96, z97, hn481⟩ ?_ ?_
  · rintro m485 a w308 ⟨i311, ha, hE313, hI312, hB309, z310, hF⟩
    cases m485 with
    | zero => exact (lpN_zero hF).elim
    | succ m485 =>
      obtain ⟨z484, hF, hN483⟩ := lpN_succ hF
      have hF : F_impl_GraphOk_l3 a0_0 i311 = some z484 := hF; unfold F_impl_GraphOk_l3 at hF
      refine wp_seq ?_; refine wp_region_lit ?_; refine op_g ha rfl (g_lss rfl rfl) ?_; clear ha a; intro a ha; refine wpList_nil ?_; replace ha := ha.sub (σ' := [(1, (.pointer (some ⟨b1, 0, none⟩))), (38, va0_0), (39, (.int .i64 (a0_0.length : Int))), (40, (.int .i64 i311)), (41, (.bool (decide (i311 < (a0_0.length : Int)))))]) ⟨rfl, rfl, rfl, rfl, rfl, trivial⟩; refine e_then ?_; refine wp_seq ?_; refine c_cond (i311 < (a0_0.length : Int)) ha rfl (decide_eq_true_iff) (fun hp486 => ?_) (fun hp486 => ?_)
      · replace hF := if_t hp486 hF
        refine wp_skip ?_; refine e_then ?_; refine wp_seq ?_; refine wp_block ?_; refine wp_seq ?_; refine wp_region_lit ?_; refine op_g ha rfl (g_move rfl) ?_; clear ha a; intro a ha; obtain ⟨x487, g488, gx489, hF⟩ := idx_some hF
        obtain ⟨p490, cs491, f492, hf493, hpb494, hat495, hr496, hi497⟩ := ha0_0.at g488 gx489
        obtain ⟨v498, rfl, h499⟩ := hr496
        have h499 : Ro Rp.int W f492 v498 x487 := h499
        refine op_g ha rfl (hi497.gives sl22 rfl rfl) ?_; clear ha a; intro a ha; refine op_g ha rfl (g_load0 hE313 Try.isAgg40 rfl hat495.one) ?_; clear ha a; intro a ha; (iterate 2 refine op_g ha rfl (g_assign rfl) ?_; clear ha a; intro a ha); refine wpList_nil ?_; replace ha := ha.sub (σ' := [(1, (.pointer (some ⟨b1, 0, none⟩))), (6, (.int .i64 i311)), (7, v498), (38, va0_0), (39, (.int .i64 (a0_0.length : Int))), (40, (.int .i64 i311))]) ⟨rfl, rfl, rfl, rfl, rfl, rfl, trivial⟩; refine e_then ?_; refine wp_seq ?_; refine wp_region_lit ?_; refine op_g ha rfl (g_move rfl) ?_; clear ha a; intro a ha
        refine op_g ha rfl (g_lenR sl40.und h499 rfl) ?_; clear ha a; intro a ha; refine op_g ha rfl (g_move rfl) ?_; clear ha a; intro a ha; refine wpList_nil ?_; replace ha := ha.sub (σ' := [(1, (.pointer (some ⟨b1, 0, none⟩))), (6, (.int .i64 i311)), (38, va0_0), (39, (.int .i64 (a0_0.length : Int))), (40, (.int .i64 i311)), (45, v498), (46, (.int .i64 (x487.length : Int))), (47, (.int .i64 0))]) ⟨rfl, rfl, rfl, rfl, rfl, rfl, rfl, rfl, trivial⟩; refine e_then ?_; obtain ⟨o596, ho597, hK598⟩ := bnd_some hF
        obtain ⟨n599, hn600⟩ := lp_some ho597; clear ho597
        refine c_loop (fun a w => Fr 61 [(1, (.pointer (some ⟨b1, 0, none⟩))), (38, va0_0), (39, (.int .i64 (a0_0.length : Int))), (40, (.int .i64 i311))] a ∧ Chg [] W w ∧ Bx w b1 [va0_0] 31 ∧ Zn W (b1 : Int) ∧ o596 = .inl ()) (fun n a w => ∃ (i549 : Int), Fr 61 [(1, (.pointer (some ⟨b1, 0, none⟩))), (6, (.int .i64 i311)), (38, va0_0), (39, (.int .i64 (a0_0.length : Int))), (40, (.int .i64 i311)), (45, v498), (46, (.int .i64 (x487.length : Int))), (47, (.int .i64 i549))] a ∧ Chg [] W w ∧ InI i549 ∧ Bx w b1 [va0_0] 31 ∧ Zn W (b1 : Int) ∧ lpN (fun s => F_impl_GraphOk_l4 a0_0 i311 x487 s) n i549 = some o596) n599 ⟨0, ha.sub ⟨rfl, rfl, rfl, rfl, rfl, rfl, rfl, rfl, trivial⟩, hE313, (show InI 0 from by decide), hB309, z310, hn600⟩ ?_ ?_
        · rintro m604 a w546 ⟨i549, ha, hE551, hI550, hB547, z548, hF⟩
          cases m604 with
          | zero => exact (lpN_zero hF).elim
          | succ m604 =>
            obtain ⟨z603, hF, hN602⟩ := lpN_succ hF
            have hF : F_impl_GraphOk_l4 a0_0 i311 x487 i549 = some z603 := hF; unfold F_impl_GraphOk_l4 at hF
            refine wp_seq ?_; refine wp_region_lit ?_; refine op_g ha rfl (g_lss rfl rfl) ?_; clear ha a; intro a ha; refine wpList_nil ?_; replace ha := ha.sub (σ' := [(1, (.pointer (some ⟨b1, 0, none⟩))), (6, (.int .i64 i311)), (38, va0_0), (39, (.int .i64 (a0_0.length : Int))), (40, (.int .i64 i311)), (45, v498), (46, (.int .i64 (x487.length : Int))), (47, (.int .i64 i549)), (48, (.bool (decide (i549 < (x487.length : Int)))))]) ⟨rfl, rfl, rfl, rfl, rfl, rfl, rfl, rfl, rfl, trivial⟩; refine e_then ?_; refine wp_seq ?_; refine c_cond (i549 < (x487.length : Int)) ha rfl (decide_eq_true_iff) (fun hp605 => ?_) (fun hp605 => ?_)
            · replace hF := if_t hp605 hF
              refine wp_skip ?_; refine e_then ?_; refine wp_seq ?_; refine wp_block ?_; refine wp_seq ?_; refine wp_region_lit ?_; obtain ⟨x606, g607, gx608, hF⟩ := idx_some hF
              obtain ⟨p609, cs610, f611, hf612, hpb613, hat614, hr615, hi616⟩ := h499.at g607 gx608
              obtain ⟨rfl, hI617, rfl⟩ := hr615
              refine op_g ha rfl (hi616.gives sl40 rfl rfl) ?_; clear ha a; intro a ha; refine op_g ha rfl (g_load0 hE551 Try.isAgg2 rfl hat614.one) ?_; clear ha a; intro a ha; refine op_g ha rfl (g_assign rfl) ?_; clear ha a; intro a ha; refine wpList_nil ?_; replace ha := ha.sub (σ' := [(1, (.pointer (some ⟨b1, 0, none⟩))), (6, (.int .i64 i311)), (9, (.int .i64 x606)), (38, va0_0), (39, (.int .i64 (a0_0.length : Int))), (40, (.int .i64 i311)), (45, v498), (46, (.int .i64 (x487.length : Int))), (47, (.int .i64 i549))]) ⟨rfl, rfl, rfl, rfl, rfl, rfl, rfl, rfl, rfl, trivial⟩; refine e_then ?_; refine wp_seq ?_
              refine wp_region_lit ?_; refine op_g ha rfl (g_field0 st31_0 rfl) ?_; clear ha a; intro a ha; refine op_g ha rfl (g_load Try.isAgg22 rfl (hB547.cell rfl)) ?_; clear ha a; intro a ha; refine op_g ha rfl (g_move rfl) ?_; clear ha a; intro a ha; obtain ⟨x618, g619, gx620, hF⟩ := idx_some hF
              obtain ⟨p621, cs622, f623, hf624, hpb625, hat626, hr627, hi628⟩ := ha0_0.at g619 gx620
              obtain ⟨v629, rfl, h630⟩ := hr627
              have h630 : Ro Rp.int W f623 v629 x618 := h630
              refine op_g ha rfl (hi628.gives sl22 rfl rfl) ?_; clear ha a; intro a ha; refine op_g ha rfl (g_load0 hE551 Try.isAgg40 rfl hat626.one) ?_; clear ha a; intro a ha; refine op_g ha rfl (g_move rfl) ?_; clear ha a; intro a ha; obtain ⟨x632, hc633, hF⟩ := cal_some hF
              refine o_call ha rfl rfl Try.call60 (W_slices_Contains_int64 (h630.ext hE551) hI312 hc633) ?_; clear ha a; rintro v634 w635 ⟨rfl, hx636⟩ a ha
              replace hB547 := hB547.ext hx636
              have hE637 := Ext.trans hE551 hx636
              refine op_g ha rfl (g_not rfl) ?_; clear ha a; intro a ha; refine wpList_nil ?_; replace ha := ha.sub (σ' := [(1, (.pointer (some ⟨b1, 0, none⟩))), (6, (.int .i64 i311)), (38, va0_0), (39, (.int .i64 (a0_0.length : Int))), (40, (.int .i64 i311)), (45, v498), (46, (.int .i64 (x487.length : Int))), (47, (.int .i64 i549)), (58, (.bool (!x632)))]) ⟨rfl, rfl, rfl, rfl, rfl, rfl, rfl, rfl, rfl, trivial⟩; refine e_then ?_; refine c_cond (¬ (x632 = true)) ha rfl (n_iff (Iff.rfl)) (fun hp638 => ?_) (fun hp638 => ?_)
              · replace hF := if_t hp638 hF
                refine wp_seq ?_; refine wp_region_lit ?_; refine op_g ha rfl (g_assign rfl) ?_; clear ha a; intro a ha; refine wpList_nil ?_; replace ha := ha.sub (σ' := [(2, (.bool false))]) ⟨rfl, trivial⟩; refine e_then ?_; refine wp_ret ?_; refine e_blk_ret ?_; refine e_then_ret ?_; refine e_lq_ret ?_; refine e_blk_ret ?_; refine e_then_ret ?_; refine e_lq_ret ?_; refine e_then_ret ?_; obtain rfl := Option.some.inj hF
                have e639 := LK_inr hN602; subst e639
                have e640 := BK_inr hK598; subst e640
                have e641 := LK_inr hN483; subst e641
                have e642 := BK_inr hK479; subst e642
                exact f_ret1 ha rfl rfl ⟨rfl, hE637⟩
              replace hF := if_f hp638 hF; refine wp_skip ?_; refine e_blk ?_; refine e_then ?_; refine wp_region_lit ?_; obtain ⟨hI643, hF⟩ := ck_some hF; refine op_g ha rfl (g_add rfl rfl hI643) ?_; clear ha a; intro a ha; refine op_g ha rfl (g_move rfl) ?_; clear ha a; intro a ha; refine wpList_nil ?_; replace ha := ha.sub (σ' := [(1, (.pointer (some ⟨b1, 0, none⟩))), (6, (.int .i64 i311)), (38, va0_0), (39, (.int .i64 (a0_0.length : Int))), (40, (.int .i64 i311)), (45, v498), (46, (.int .i64 (x487.length : Int))), (47, (.int .i64 (i549 + 1)))]) ⟨rfl, rfl, rfl, rfl, rfl, rfl, rfl, rfl, trivial⟩
              refine e_lq ?_; obtain rfl := Option.some.inj hF
              exact ⟨_, Nat.lt_succ_self _, i549 + 1, ha.sub ⟨rfl, rfl, rfl, rfl, rfl, rfl, rfl, rfl, trivial⟩, hE637, hI643, hB547, z548, hN602⟩
            replace hF := if_f hp605 hF; refine wp_exit ?_; refine e_then_exit ?_; refine e_lq_eq ?_; obtain rfl := Option.some.inj hF
            exact ⟨ha.sub ⟨rfl, rfl, rfl, rfl, trivial⟩, hE551, hB547, z548, (LK_inr hN602).symm⟩
        rintro a w593 ⟨ha, hE601, hB594, z595, rfl⟩
        have hF : F_impl_GraphOk_k5 i311 = some _ := hK598; clear hK598; unfold F_impl_GraphOk_k5 at hF
        refine e_blk ?_; refine e_then ?_; refine wp_region_lit ?_; obtain ⟨hI645, hF⟩ := ck_some hF; refine op_g ha rfl (g_add rfl rfl hI645) ?_; clear ha a; intro a ha; refine op_g ha rfl (g_move rfl) ?_; clear ha a; intro a ha; refine wpList_nil ?_; replace ha := ha.sub (σ' := [(1, (.pointer (some ⟨b1, 0, none⟩))), (38, va0_0), (39, (.int .i64 (a0_0.length : Int))), (40, (.int .i64 (i311 + 1)))]) ⟨rfl, rfl, rfl, rfl, trivial⟩; refine e_lq ?_; obtain rfl := Option.some.inj hF
        exact ⟨_, Nat.lt_succ_self _, i311 + 1, ha.sub ⟨rfl, rfl, rfl, rfl, trivial⟩, hE601, hI645, hB594, z595, hN483⟩
      replace hF := if_f hp486 hF; refine wp_exit ?_; refine e_then_exit ?_; refine e_lq_eq ?_; obtain rfl := Option.some.inj hF
      exact ⟨ha.sub trivial, hE313, (LK_inr hN483).symm⟩
  rintro a w476 ⟨ha, hE482, rfl⟩
  have hF : F_impl_GraphOk_k6 = some _ := hK479; clear hK479; unfold F_impl_GraphOk_k6 at hF
  refine e_then ?_; refine wp_seq ?_; refine wp_region_lit ?_; refine op_g ha rfl (g_assign rfl) ?_; clear ha a; intro a ha; refine wpList_nil ?_; refine e_then ?_; refine wp_ret ?_; obtain rfl := Option.some.inj hF
  exact f_ret1 ha rfl rfl ⟨rfl, hE482⟩
set_option maxHeartbeats 2000000 in
theorem W_impl_isSmall {W : World} {va0_0 : Value} {fa0_0 : List Nat} {a0_0 : (List (List Int))} (ha0_0 : Ro (Rp.sl 2 Rp.int) W fa0_0 va0_0 a0_0) {r : Bool} (hF : F_impl_isSmall a0_0 = some r) :
    Calls Try.prog 39 [.agg #[va0_0]].toArray W (Ret fun u w' => u = .bool r ∧ Ext W w') := by
  refine f_enter Try.func39 rfl Try.ntmps39 rfl ?_
  intro a ha
  replace ha : Fr 11 [(0, (.agg #[va0_0]))] a := ha
  have hE : Chg [] W W := Chg.refl _ _
  unfold F_impl_isSmall at hF
  refine wp_seq ?_; refine wp_region_lit ?_
  refine o_box ha rfl rfl rfl ?_; clear ha a; intro b1 w2 hB3 hx4 hlo5 a ha
  have q6 := Zn.one hlo5
  have q7 := Zn.upD q6 hE
  have hE8 := Ext.trans hE hx4
  refine op_g ha rfl (g_assign rfl) ?_; clear ha a; intro a ha; refine wpList_nil ?_; replace ha := ha.sub (σ' := [(1, (.pointer (some ⟨b1, 0, none⟩)))]) ⟨rfl, trivial⟩; refine e_then ?_; refine wp_seq ?_; refine wp_region_lit ?_; refine op_g ha rfl (g_loadA (cs := [va0_0]) Try.isAgg31 Try.sizeOf31 rfl (by simp) hB3.all) ?_; clear ha a; intro a ha; obtain ⟨x9, hc10, hF⟩ := cal_some hF
  refine o_call ha rfl rfl Try.call50 (W_impl_GraphOk (ha0_0.ext hE8) hc10) ?_; clear ha a; rintro v11 w12 ⟨rfl, hx13⟩ a ha
  replace hB3 := hB3.ext hx13
  have hE14 := Ext.trans hE8 hx13
  refine op_g ha rfl (g_move rfl) ?_; clear ha a; intro a ha
  by_cases hp15 : x9 = true
  · replace hF := if_t hp15 hF
    rw [show (x9) = true from (Iff.rfl).2 hp15] at ha
    refine op_want (yields ha rfl rfl) ?_; refine op_g ha rfl (g_field0 st31_0 rfl) ?_; clear ha a; intro a ha; refine op_want (yields ha rfl rfl) ?_; refine op_g ha rfl (g_load Try.isAgg22 rfl (hB3.cell rfl)) ?_; clear ha a; intro a ha; refine op_want (yields ha rfl rfl) ?_; refine op_g ha rfl (g_lenR sl22.und ha0_0 rfl) ?_; clear ha a; intro a ha; refine op_want (yields ha rfl rfl) ?_; refine op_g ha rfl (g_leq rfl rfl) ?_; clear ha a; intro a ha; refine op_g ha rfl (g_pick rfl rfl) ?_; clear ha a; intro a ha; refine op_g ha rfl (g_assign rfl) ?_; clear ha a; intro a ha; refine wpList_nil ?_
    replace ha := ha.sub (σ' := [(2, (.bool (decide ((a0_0.length : Int) ≤ 8))))]) ⟨rfl, trivial⟩; refine e_then ?_; refine wp_ret ?_; obtain rfl := Option.some.inj hF
    exact f_ret1 ha rfl rfl ⟨rfl, hE14⟩
  replace hF := if_f hp15 hF
  rw [show (x9) = false from b_false (Iff.rfl) hp15] at ha
  (iterate 4 refine op_unwant ha rfl (yields ha rfl rfl) rfl ?_; clear ha a; intro a ha); refine op_g ha rfl (g_pick rfl rfl) ?_; clear ha a; intro a ha; refine op_g ha rfl (g_assign rfl) ?_; clear ha a; intro a ha; refine wpList_nil ?_; replace ha := ha.sub (σ' := [(2, (.bool false))]) ⟨rfl, trivial⟩; refine e_then ?_; refine wp_ret ?_; obtain rfl := Option.some.inj hF
  exact f_ret1 ha rfl rfl ⟨rfl, hE14⟩
set_option maxHeartbeats 2000000 in
theorem W_impl_vset_has {W : World} {a0 : BitVec 32} {a1 : Int} (ha1 : InI a1) {r : Bool} (hF : F_impl_vset_has a0 a1 = some r) :
    Calls Try.prog 66 [.int .u32 (BitVec.toNat a0 : Int), .int .i64 a1].toArray W (Ret fun u w' => u = .bool r ∧ Ext W w') := by
  refine f_enter Try.func66 rfl Try.ntmps66 rfl ?_
  intro a ha
  replace ha : Fr 10 [(0, (.int .u32 (BitVec.toNat a0 : Int))), (1, (.int .i64 a1))] a := ha
  have hE : Chg [] W W := Chg.refl _ _
  unfold F_impl_vset_has at hF
  refine wp_seq ?_; refine wp_region_lit ?_; refine op_g ha rfl (g_assign rfl) ?_; clear ha a; intro a ha; refine wpList_nil ?_; replace ha := ha.sub (σ' := [(0, (.int .u32 (BitVec.toNat a0 : Int))), (1, (.int .i64 a1))]) ⟨rfl, rfl, trivial⟩; refine e_then ?_; refine wp_seq ?_; refine wp_region_lit ?_; (iterate 2 refine op_g ha rfl (g_move rfl) ?_; clear ha a; intro a ha); obtain ⟨hs1, hF⟩ := grd_some hF; refine op_g ha rfl (g32_shr (m := a0) rfl rfl hs1) ?_; clear ha a; intro a ha; refine op_g ha rfl (g32_and (m := (a0 >>> (a1 : Int).toNat)) (n := (1#32)) rfl rfl) ?_; clear ha a; intro a ha; refine op_g ha rfl (g32_eql (m := ((a0 >>> (a1 : Int).toNat) &&& (1#32))) (n := (1#32)) rfl rfl) ?_; clear ha a; intro a ha
  refine op_g ha rfl (g_assign rfl) ?_; clear ha a; intro a ha; refine wpList_nil ?_; replace ha := ha.sub (σ' := [(4, (.bool (decide (((a0 >>> (a1 : Int).toNat) &&& (1#32)) = (1#32)))))]) ⟨rfl, trivial⟩; refine e_then ?_; refine wp_ret ?_; obtain rfl := Option.some.inj hF
  exact f_ret1 ha rfl rfl ⟨rfl, hE⟩
set_option maxHeartbeats 2000000 in
theorem W_impl_firstOf {W : World} {a0 : Int} (ha0 : InI a0) {r : (BitVec 32)} (hF : F_impl_firstOf a0 = some r) :
    Calls Try.prog 70 [.int .i64 a0].toArray W (Ret fun u w' => u = .int .u32 (BitVec.toNat r : Int) ∧ Ext W w') := by
  refine f_enter Try.func70 rfl Try.ntmps70 rfl ?_
  intro a ha
  replace ha : Fr 6 [(0, (.int .i64 a0))] a := ha
  have hE : Chg [] W W := Chg.refl _ _
  unfold F_impl_firstOf at hF
  refine wp_seq ?_; refine wp_region_lit ?_; refine op_g ha rfl (g_assign rfl) ?_; clear ha a; intro a ha; refine wpList_nil ?_; replace ha := ha.sub (σ' := [(0, (.int .i64 a0))]) ⟨rfl, trivial⟩; refine e_then ?_; refine wp_seq ?_; refine wp_region_lit ?_; refine op_g ha rfl (g_move rfl) ?_; clear ha a; intro a ha; obtain ⟨hs1, hF⟩ := grd_some hF; refine op_g ha rfl (g32_shl (m := (1#32)) rfl rfl hs1) ?_; clear ha a; intro a ha; refine op_g ha rfl (g32_sub (m := ((1#32) <<< (a0 : Int).toNat)) (n := (1#32)) rfl rfl) ?_; clear ha a; intro a ha; refine op_g ha rfl (g_assign rfl) ?_; clear ha a; intro a ha
  refine wpList_nil ?_; replace ha := ha.sub (σ' := [(2, (.int .u32 (BitVec.toNat (((1#32) <<< (a0 : Int).toNat) - (1#32)) : Int)))]) ⟨rfl, trivial⟩; refine e_then ?_; refine wp_ret ?_; obtain rfl := Option.some.inj hF
  exact f_ret1 ha rfl rfl ⟨rfl, hE⟩
set_option maxHeartbeats 2000000 in
theorem W_impl_nets_all {W : World} {va0 : Value} {fa0 : List Nat} {a0 : (List (BitVec 32))} (ha0 : Ro Rp.u32 W fa0 va0 a0) {r : (BitVec 32)} (hF : F_impl_nets_all a0 = some r) :
    Calls Try.prog 69 [va0].toArray W (Ret fun u w' => u = .int .u32 (BitVec.toNat r : Int) ∧ Ext W w') := by
  refine f_enter Try.func69 rfl Try.ntmps69 rfl ?_
  intro a ha
  replace ha : Fr 6 [(0, va0)] a := ha
  have hE : Chg [] W W := Chg.refl _ _
  unfold F_impl_nets_all at hF
  refine wp_seq ?_; refine wp_region_lit ?_; refine op_g ha rfl (g_assign rfl) ?_; clear ha a; intro a ha; refine wpList_nil ?_; replace ha := ha.sub (σ' := [(0, va0)]) ⟨rfl, trivial⟩; refine e_then ?_; refine wp_seq ?_; refine wp_region_lit ?_; refine op_g ha rfl (g_move rfl) ?_; clear ha a; intro a ha; refine op_g ha rfl (g_lenR sl75.und ha0 rfl) ?_; clear ha a; intro a ha; obtain ⟨x1, hc2, hF⟩ := cal_some hF
  refine o_call ha rfl rfl Try.call70 (W_impl_firstOf ha0.len hc2) ?_; clear ha a; rintro v3 w4 ⟨rfl, hx5⟩ a ha
  have hE6 := Ext.trans hE hx5
  refine op_g ha rfl (g_assign rfl) ?_; clear ha a; intro a ha; refine wpList_nil ?_; replace ha := ha.sub (σ' := [(2, (.int .u32 (BitVec.toNat x1 : Int)))]) ⟨rfl, trivial⟩; refine e_then ?_; refine wp_ret ?_; obtain rfl := Option.some.inj hF
  exact f_ret1 ha rfl rfl ⟨rfl, hE6⟩
set_option maxHeartbeats 2000000 in
theorem W_impl_judge_some {φ : Value → Value → Prop} {rc : JD → Int → Int → Int → Int → (BitVec 32) → (BitVec 32) → Option (Bool × JD)} (ih : ∀ {W : World} {va0 : Value} {ba0 : Int} {fa0 : List Nat} {a0 : JD} (ha0 : Jd Try.prog 82 97 φ W fa0 ba0 va0 a0) {a1 : Int} (ha1 : InI a1) {a2_0 : Int} (ha2_0 : InI a2_0) {a2_1 : Int} (ha2_1 : InI a2_1) {a2_2 : Int} (ha2_2 : InI a2_2) {a2_3 : BitVec 32} {a2_4 : BitVec 32} {r : (Bool × JD)}, rc a0 a1 a2_0 a2_1 a2_2 a2_3 a2_4 = some r →
    Calls Try.prog 44 [va0, .int .i64 a1, .agg #[.int .i64 a2_0, .int .i64 a2_1, .int .i64 a2_2, .int .u32 (BitVec.toNat a2_3 : Int), .int .u32 (BitVec.toNat a2_4 : Int)]].toArray W (Ret fun u w' => u = .bool r.1 ∧ Jd Try.prog 82 97 φ w' fa0 ba0 va0 r.2 ∧ Chg (bl ba0) W w')) {W : World} {va0 : Value} {ba0 : Int} {fa0 : List Nat} {a0 : JD} (ha0 : Jd Try.prog 82 97 φ W fa0 ba0 va0 a0) {a1_0 : Int} (ha1_0 : InI a1_0) {a1_1 : Int} (ha1_1 : InI a1_1) {a1_2 : Int} (ha1_2 : InI a1_2) {a2_0 : Int} (ha2_0 : InI a2_0) {a2_1 : Int} (ha2_1 : InI a2_1) {a2_2 : Int} (ha2_2 : InI a2_2) {a2_3 : BitVec 32} {a2_4 : BitVec 32} {r : (Bool × JD)} (hF : F_impl_judge_some rc a0 a1_0 a1_1 a1_2 a2_0 a2_1 a2_2 a2_3 a2_4 = some r) :
    Calls Try.prog 67 [va0, .agg #[.int .i64 a1_0, .int .i64 a1_1, .int .i64 a1_2], .agg #[.int .i64 a2_0, .int .i64 a2_1, .int .i64 a2_2, .int .u32 (BitVec.toNat a2_3 : Int), .int .u32 (BitVec.toNat a2_4 : Int)]].toArray W (Ret fun u w' => u = .bool r.1 ∧ Jd Try.prog 82 97 φ w' fa0 ba0 va0 r.2 ∧ Chg (bl ba0) W w') := by
  have dlta0 := ha0.fpb
  obtain ⟨j1, rfl⟩ := ha0.ptr
  refine f_enter Try.func67 rfl Try.ntmps67 rfl ?_
  intro a ha
  replace ha : Fr 50 [(0, (.pointer (some ⟨j1, 0, none⟩))), (1, (.agg #[(.int .i64 a1_0), (.int .i64 a1_1), (.int .i64 a1_2)])), (2, (.agg #[(.int .i64 a2_0), (.int .i64 a2_1), (.int .i64 a2_2), (.int .u32 (BitVec.toNat a2_3 : Int)), (.int .u32 (BitVec.toNat a2_4 : Int))]))] a := ha
  have hE : Chg (bl ba0) W W := Chg.refl _ _
  unfold F_impl_judge_some at hF
  refine wp_seq ?_; refine wp_region_lit ?_
  refine o_box ha rfl rfl rfl ?_; clear ha a; intro b2 w3 hB4 hx5 hlo6 a ha
  have q7 := Zn.one hlo6
  have q8 := Nq.new ha0.fpb q7
  have q9 := Nq.made1 hlo6 ha0.blt
  have q10 := Zn.upD q7 hE
  replace ha0 := ha0.ext hx5
  have hE11 := Chg.more hE hx5
  refine o_box ha rfl rfl rfl ?_; clear ha a; intro b12 w13 hB14 hx15 hlo16 a ha
  have q17 := Zn.one hlo16
  have q18 := Nq.new ha0.fpb q17
  have q19 := Nq.made1 hlo16 ha0.blt
  have q20 := Nq.new hB4.fpb q17
  have q21 := Nq.made1 hlo16 hB4.bi
  have q22 := Zn.upD q17 hE11
  replace ha0 := ha0.ext hx15
  replace hB4 := hB4.ext hx15
  have hE23 := Chg.more hE11 hx15
  refine op_g ha rfl (g_assign rfl) ?_; clear ha a; intro a ha; refine wpList_nil ?_; replace ha := ha.sub (σ' := [(0, (.pointer (some ⟨j1, 0, none⟩))), (4, (.pointer (some ⟨b2, 0, none⟩))), (5, (.pointer (some ⟨b12, 0, none⟩)))]) ⟨rfl, rfl, rfl, trivial⟩; refine e_then ?_; refine wp_seq ?_; refine wp_seq ?_; refine wp_region_lit ?_; refine op_g ha rfl (g_field0 st71_0 rfl) ?_; clear ha a; intro a ha; refine op_g ha rfl (g_load Try.isAgg2 rfl (hB4.cell rfl)) ?_; clear ha a; intro a ha; refine op_g ha rfl (g_eql rfl rfl) ?_; clear ha a; intro a ha; refine wpList_nil ?_; replace ha := ha.sub (σ' := [(0, (.pointer (some ⟨j1, 0, none⟩))), (4, (.pointer (some ⟨b2, 0, none⟩))), (5, (.pointer (some ⟨b12, 0, none⟩))), (11, (.bool (decide (a1_0 = 7))))]) ⟨rfl, rfl, rfl, rfl, trivial⟩
  refine e_then ?_; refine c_cond (a1_0 = 7) ha rfl (decide_eq_true_iff) (fun hp24 => ?_) (fun hp24 => ?_)
  · replace hF := if_t hp24 hF
    refine wp_seq ?_; refine wp_seq ?_; refine wp_region_lit ?_; refine op_g ha rfl (g_move rfl) ?_; clear ha a; intro a ha; refine op_g ha rfl (g_nilCheck rfl) ?_; clear ha a; intro a ha; refine op_g ha rfl (g_field0 st82_0 rfl) ?_; clear ha a; intro a ha
    obtain ⟨u25, f26, h27, hc28, q29, hs30⟩ := ha0.get0
    have q32 := Nq.mono q8 hs30
    have q33 := Nq.mono q18 hs30
    refine op_g ha rfl (g_load Try.isAgg75 rfl hc28) ?_; clear ha a; intro a ha; refine op_g ha rfl (g_lenR sl75.und h27 rfl) ?_; clear ha a; intro a ha; refine op_g ha rfl (g_move rfl) ?_; clear ha a; intro a ha; refine wpList_nil ?_; replace ha := ha.sub (σ' := [(0, (.pointer (some ⟨j1, 0, none⟩))), (4, (.pointer (some ⟨b2, 0, none⟩))), (5, (.pointer (some ⟨b12, 0, none⟩))), (16, (.int .i64 (a0.1.length : Int))), (17, (.int .i64 0))]) ⟨rfl, rfl, rfl, rfl, rfl, trivial⟩; refine e_then ?_; obtain ⟨o158, ho159, hK160⟩ := bnd_some hF
    obtain ⟨n161, hn162⟩ := lp_some ho159; clear ho159
    refine c_loop (fun a w => ∃ (l155 : JD), Fr 50 [] a ∧ Chg (bl ba0) W w ∧ Jd Try.prog 82 97 φ w fa0 ba0 (.pointer (some ⟨j1, 0, none⟩)) l155 ∧ o158 = .inl l155) (fun n a w => ∃ (l90 : JD) (i97 : Int) (i99 : Int) (i101 : Int) (i103 : Int), Fr 50 [(0, (.pointer (some ⟨j1, 0, none⟩))), (4, (.pointer (some ⟨b2, 0, none⟩))), (5, (.pointer (some ⟨b12, 0, none⟩))), (16, (.int .i64 (a0.1.length : Int))), (17, (.int .i64 i103))] a ∧ Chg (bl ba0) W w ∧ InI i97 ∧ InI i99 ∧ InI i101 ∧ InI i103 ∧ Jd Try.prog 82 97 φ w fa0 ba0 (.pointer (some ⟨j1, 0, none⟩)) l90 ∧ Bx w b2 [(.int .i64 a1_0), (.int .i64 a1_1), (.int .i64 a1_2)] 71 ∧ Zn W (b2 : Int) ∧ Bx w b12 [(.int .i64 i97), (.int .i64 i99), (.int .i64 i101), (.int .u32 (BitVec.toNat a2_3 : Int)), (.int .u32 (BitVec.toNat a2_4 : Int))] 59 ∧ Zn W (b12 : Int) ∧ Nq (bl ba0 ++ fa0) (b2 : Int) ∧ Nq (bl ba0 ++ fa0) (b12 : Int) ∧ Nq ([b2]) ba0 ∧ Nq ([b2]) (b12 : Int) ∧ Nq ([b12]) ba0 ∧ Nq ([b12]) (b2 : Int) ∧ lpN (fun s => F_impl_judge_some_l1 a0 a1_1 a1_2 a2_3 a2_4 rc s.1 s.2.1 s.2.2.1 s.2.2.2.1 s.2.2.2.2) n (l90, i97, i99, i101, i103) = some o158) n161 ⟨a0, a2_0, a2_1, a2_2, 0, ha.sub ⟨rfl, rfl, rfl, rfl, rfl, trivial⟩, hE23, ha2_0, ha2_1, ha2_2, (show InI 0 from by decide), ha0, hB4, q10, hB14, q22, q8, q18, q9, q20, q19, q21, hn162⟩ ?_ ?_
    · rintro m166 a w88 ⟨l90, i97, i99, i101, i103, ha, hE111, hI98, hI100, hI102, hI104, h89, hB93, z94, hB95, z96, q105, q106, q107, q108, q109, q110, hF⟩
      cases m166 with
      | zero => exact (lpN_zero hF).elim
      | succ m166 =>
        obtain ⟨z165, hF, hN164⟩ := lpN_succ hF
        have hF : F_impl_judge_some_l1 a0 a1_1 a1_2 a2_3 a2_4 rc l90 i97 i99 i101 i103 = some z165 := hF; unfold F_impl_judge_some_l1 at hF
        refine wp_seq ?_; refine wp_region_lit ?_; refine op_g ha rfl (g_lss rfl rfl) ?_; clear ha a; intro a ha; refine wpList_nil ?_; replace ha := ha.sub (σ' := [(0, (.pointer (some ⟨j1, 0, none⟩))), (4, (.pointer (some ⟨b2, 0, none⟩))), (5, (.pointer (some ⟨b12, 0, none⟩))), (16, (.int .i64 (a0.1.length : Int))), (17, (.int .i64 i103)), (18, (.bool (decide (i103 < (a0.1.length : Int)))))]) ⟨rfl, rfl, rfl, rfl, rfl, rfl, trivial⟩; refine e_then ?_; refine wp_seq ?_; refine c_cond (i103 < (a0.1.length : Int)) ha rfl (decide_eq_true_iff) (fun hp167 => ?_) (fun hp167 => ?_)
        · replace hF := if_t hp167 hF
          refine wp_skip ?_; refine e_then ?_; refine wp_seq ?_; refine wp_block ?_; refine wp_seq ?_; refine wp_region_lit ?_; refine op_g ha rfl (g_move rfl) ?_; clear ha a; intro a ha; refine op_g ha rfl (g_assign rfl) ?_; clear ha a; intro a ha; refine wpList_nil ?_; replace ha := ha.sub (σ' := [(0, (.pointer (some ⟨j1, 0, none⟩))), (4, (.pointer (some ⟨b2, 0, none⟩))), (5, (.pointer (some ⟨b12, 0, none⟩))), (7, (.int .i64 i103)), (16, (.int .i64 (a0.1.length : Int))), (17, (.int .i64 i103))]) ⟨rfl, rfl, rfl, rfl, rfl, rfl, trivial⟩; refine e_then ?_; refine wp_seq ?_; refine wp_region_lit ?_
          refine op_g ha rfl (g_field0 st71_1 rfl) ?_; clear ha a; intro a ha; refine op_g ha rfl (g_load Try.isAgg2 rfl (hB93.cell rfl)) ?_; clear ha a; intro a ha; refine op_g ha rfl (g_move rfl) ?_; clear ha a; intro a ha; refine op_g ha rfl (g_field0 st59_0 rfl) ?_; clear ha a; intro a ha; obtain ⟨x168, g169, gx170, hF⟩ := idx_some hF; refine op_g ha rfl (g_idxBx un54 Try.sizeOf3 rfl rfl g169 (idx_lt g169 gx170 rfl)) ?_; clear ha a; intro a ha
          refine o_storeB ha hB95 Try.sizeOf3 rfl rfl rfl rfl (bxi_lt (pre := []) (post := [(.int .u32 (BitVec.toNat a2_3 : Int)), (.int .u32 (BitVec.toNat a2_4 : Int))]) (Value.int .i64) gx170) ?_; intro w171 hB172 hc173
          replace hc173 := hc173.bl
          replace hB172 : Bx w171 b12 [(.int .i64 (if a1_1 = 0 then i103 else i97)), (.int .i64 (if a1_1 = 1 then i103 else i99)), (.int .i64 (if a1_1 = 2 then i103 else i101)), (.int .u32 (BitVec.toNat a2_3 : Int)), (.int .u32 (BitVec.toNat a2_4 : Int))] 59 := Bx.eq (bxi_set3 (pre := []) (post := [(.int .u32 (BitVec.toNat a2_3 : Int)), (.int .u32 (BitVec.toNat a2_4 : Int))]) (Value.int .i64) g169 gx170) hB172
          replace h89 := h89.nq hc173 q106
          replace hB93 := hB93.nq hc173 q108
          have hE174 := Chg.own hE111 hc173 (Zn.bl z96)
          refine wpList_nil ?_; replace ha := ha.sub (σ' := [(0, (.pointer (some ⟨j1, 0, none⟩))), (4, (.pointer (some ⟨b2, 0, none⟩))), (5, (.pointer (some ⟨b12, 0, none⟩))), (16, (.int .i64 (a0.1.length : Int))), (17, (.int .i64 i103))]) ⟨rfl, rfl, rfl, rfl, rfl, trivial⟩; refine e_then ?_; refine wp_seq ?_; refine wp_region_lit ?_; refine op_g ha rfl (g_move rfl) ?_; clear ha a; intro a ha; refine op_g ha rfl (g_field0 st71_2 rfl) ?_; clear ha a; intro a ha; refine op_g ha rfl (g_load Try.isAgg2 rfl (hB93.cell rfl)) ?_; clear ha a; intro a ha; refine op_g ha rfl (g_loadA (cs := [(.int .i64 (if a1_1 = 0 then i103 else i97)), (.int .i64 (if a1_1 = 1 then i103 else i99)), (.int .i64 (if a1_1 = 2 then i103 else i101)), (.int .u32 (BitVec.toNat a2_3 : Int)), (.int .u32 (BitVec.toNat a2_4 : Int))]) Try.isAgg59 Try.sizeOf59 rfl (by simp) hB172.all) ?_; clear ha a; intro a ha
          obtain ⟨x175, hc176, hF⟩ := cal_some hF
          refine o_call ha rfl rfl Try.call44 (ih h89 ha1_2 (InI.ite hI104 hI98) (InI.ite hI104 hI100) (InI.ite hI104 hI102) hc176) ?_; clear ha a; rintro v177 w178 ⟨rfl, h180, hx179⟩ a ha
          replace hB93 := hB93.nq hx179 q107
          replace hB172 := hB172.nq hx179 q109
          have hE181 := Chg.same hE174 hx179
          refine wpList_nil ?_; replace ha := ha.sub (σ' := [(0, (.pointer (some ⟨j1, 0, none⟩))), (4, (.pointer (some ⟨b2, 0, none⟩))), (5, (.pointer (some ⟨b12, 0, none⟩))), (16, (.int .i64 (a0.1.length : Int))), (17, (.int .i64 i103)), (29, (.bool x175.1))]) ⟨rfl, rfl, rfl, rfl, rfl, rfl, trivial⟩; refine e_then ?_; refine c_cond (x175.1 = true) ha rfl (Iff.rfl) (fun hp182 => ?_) (fun hp182 => ?_)
          · replace hF := if_t hp182 hF
            refine wp_seq ?_; refine wp_region_lit ?_; refine op_g ha rfl (g_assign rfl) ?_; clear ha a; intro a ha; refine wpList_nil ?_; replace ha := ha.sub (σ' := [(6, (.bool true))]) ⟨rfl, trivial⟩; refine e_then ?_; refine wp_ret ?_; refine e_blk_ret ?_; refine e_then_ret ?_; refine e_lq_ret ?_; refine e_then_ret ?_; refine e_then_ret ?_; obtain rfl := Option.some.inj hF
            have e183 := LK_inr hN164; subst e183
            have e184 := BK_inr hK160; subst e184
            exact f_ret1 ha rfl rfl ⟨rfl, h180, hE181⟩
          replace hF := if_f hp182 hF; refine wp_skip ?_; refine e_blk ?_; refine e_then ?_; refine wp_region_lit ?_; obtain ⟨hI185, hF⟩ := ck_some hF; refine op_g ha rfl (g_add rfl rfl hI185) ?_; clear ha a; intro a ha; refine op_g ha rfl (g_move rfl) ?_; clear ha a; intro a ha; refine wpList_nil ?_; replace ha := ha.sub (σ' := [(0, (.pointer (some ⟨j1, 0, none⟩))), (4, (.pointer (some ⟨b2, 0, none⟩))), (5, (.pointer (some ⟨b12, 0, none⟩))), (16, (.int .i64 (a0.1.length : Int))), (17, (.int .i64 (i103 + 1)))]) ⟨rfl, rfl, rfl, rfl, rfl, trivial⟩; refine e_lq ?_; obtain rfl := Option.some.inj hF
          exact ⟨_, Nat.lt_succ_self _, x175.2, (if a1_1 = 0 then i103 else i97), (if a1_1 = 1 then i103 else i99), (if a1_1 = 2 then i103 else i101), i103 + 1, ha.sub ⟨rfl, rfl, rfl, rfl, rfl, trivial⟩, hE181, (InI.ite hI104 hI98), (InI.ite hI104 hI100), (InI.ite hI104 hI102), hI185, h180, hB93, z94, hB172, z96, q105, q106, q107, q108, q109, q110, hN164⟩
        replace hF := if_f hp167 hF; refine wp_exit ?_; refine e_then_exit ?_; refine e_lq_eq ?_; obtain rfl := Option.some.inj hF
        exact ⟨l90, ha.sub trivial, hE111, h89, (LK_inr hN164).symm⟩
    rintro a w153 ⟨l155, ha, hE163, h154, rfl⟩
    have hF : F_impl_judge_some_k2 l155 = some _ := hK160; clear hK160; unfold F_impl_judge_some_k2 at hF
    refine e_then ?_; refine wp_seq ?_; refine wp_region_lit ?_; refine op_g ha rfl (g_assign rfl) ?_; clear ha a; intro a ha; refine wpList_nil ?_; refine e_then ?_; refine wp_ret ?_; refine e_then_ret ?_; obtain rfl := Option.some.inj hF
    exact f_ret1 ha rfl rfl ⟨rfl, h154, hE163⟩
  replace hF := if_f hp24 hF; refine wp_skip ?_; refine e_then ?_; refine wp_seq ?_; refine wp_seq ?_; refine wp_region_lit ?_; refine op_g ha rfl (g_assign rfl) ?_; clear ha a; intro a ha; refine wpList_nil ?_; replace ha := ha.sub (σ' := [(0, (.pointer (some ⟨j1, 0, none⟩))), (4, (.pointer (some ⟨b2, 0, none⟩))), (5, (.pointer (some ⟨b12, 0, none⟩))), (8, (.int .u32 (BitVec.toNat (0#32) : Int)))]) ⟨rfl, rfl, rfl, rfl, trivial⟩; refine e_then ?_; obtain ⟨o322, ho323, hK324⟩ := bnd_some hF
  obtain ⟨n325, hn326⟩ := lp_some ho323; clear ho323
  refine c_loop (fun a w => ∃ (l319 : JD), Fr 50 [] a ∧ Chg (bl ba0) W w ∧ Jd Try.prog 82 97 φ w fa0 ba0 (.pointer (some ⟨j1, 0, none⟩)) l319 ∧ o322 = .inl l319) (fun n a w => ∃ (l251 : JD) (u258 : BitVec 32) (u259 : BitVec 32) (u260 : BitVec 32), Fr 50 [(0, (.pointer (some ⟨j1, 0, none⟩))), (4, (.pointer (some ⟨b2, 0, none⟩))), (5, (.pointer (some ⟨b12, 0, none⟩))), (8, (.int .u32 (BitVec.toNat u260 : Int)))] a ∧ Chg (bl ba0) W w ∧ Jd Try.prog 82 97 φ w fa0 ba0 (.pointer (some ⟨j1, 0, none⟩)) l251 ∧ Bx w b2 [(.int .i64 a1_0), (.int .i64 a1_1), (.int .i64 a1_2)] 71 ∧ Zn W (b2 : Int) ∧ Bx w b12 [(.int .i64 a2_0), (.int .i64 a2_1), (.int .i64 a2_2), (.int .u32 (BitVec.toNat u258 : Int)), (.int .u32 (BitVec.toNat u259 : Int))] 59 ∧ Zn W (b12 : Int) ∧ Nq (bl ba0 ++ fa0) (b2 : Int) ∧ Nq (bl ba0 ++ fa0) (b12 : Int) ∧ Nq ([b2]) ba0 ∧ Nq ([b2]) (b12 : Int) ∧ Nq ([b12]) ba0 ∧ Nq ([b12]) (b2 : Int) ∧ lpN (fun s => F_impl_judge_some_l3 a1_1 a1_2 a2_0 a2_1 a2_2 rc s.1 s.2.1 s.2.2.1 s.2.2.2) n (l251, u258, u259, u260) = some o322) n325 ⟨a0, a2_3, a2_4, 0#32, ha.sub ⟨rfl, rfl, rfl, rfl, trivial⟩, hE23, ha0, hB4, q10, hB14, q22, q8, q18, q9, q20, q19, q21, hn326⟩ ?_ ?_
  · rintro m330 a w249 ⟨l251, u258, u259, u260, ha, hE267, h250, hB254, z255, hB256, z257, q261, q262, q263, q264, q265, q266, hF⟩
    cases m330 with
    | zero => exact (lpN_zero hF).elim
    | succ m330 =>
      obtain ⟨z329, hF, hN328⟩ := lpN_succ hF
      have hF : F_impl_judge_some_l3 a1_1 a1_2 a2_0 a2_1 a2_2 rc l251 u258 u259 u260 = some z329 := hF; unfold F_impl_judge_some_l3 at hF
      refine wp_seq ?_; refine wp_seq ?_; refine wp_region_lit ?_; (iterate 2 refine op_g ha rfl (g_move rfl) ?_; clear ha a; intro a ha); refine op_g ha rfl (g_nilCheck rfl) ?_; clear ha a; intro a ha; refine op_g ha rfl (g_field0 st82_0 rfl) ?_; clear ha a; intro a ha
      obtain ⟨u331, f332, h333, hc334, q335, hs336⟩ := h250.get0
      have q338 := Nq.mono q261 hs336
      have q339 := Nq.mono q262 hs336
      refine op_g ha rfl (g_load Try.isAgg75 rfl hc334) ?_; clear ha a; intro a ha; obtain ⟨x340, hc341, hF⟩ := cal_some hF
      refine o_call ha rfl rfl Try.call69 (W_impl_nets_all h333 hc341) ?_; clear ha a; rintro v342 w343 ⟨rfl, hx344⟩ a ha
      replace h250 := h250.ext hx344
      replace hB254 := hB254.ext hx344
      replace hB256 := hB256.ext hx344
      replace h333 := h333.ext hx344
      have hE345 := Chg.more hE267 hx344
      refine op_g ha rfl (g32_leq (m := u260) (n := x340) rfl rfl) ?_; clear ha a; intro a ha; refine wpList_nil ?_; replace ha := ha.sub (σ' := [(0, (.pointer (some ⟨j1, 0, none⟩))), (4, (.pointer (some ⟨b2, 0, none⟩))), (5, (.pointer (some ⟨b12, 0, none⟩))), (8, (.int .u32 (BitVec.toNat u260 : Int))), (37, (.bool (decide (u260 ≤ x340))))]) ⟨rfl, rfl, rfl, rfl, rfl, trivial⟩; refine e_then ?_; refine c_cond (u260 ≤ x340) ha rfl (decide_eq_true_iff) (fun hp346 => ?_) (fun hp346 => ?_)
      · replace hF := if_t hp346 hF
        refine wp_skip ?_; refine e_then ?_; refine wp_seq ?_; refine wp_block ?_; refine wp_seq ?_; refine wp_region_lit ?_; refine op_g ha rfl (g_field0 st71_1 rfl) ?_; clear ha a; intro a ha; refine op_g ha rfl (g_load Try.isAgg2 rfl (hB254.cell rfl)) ?_; clear ha a; intro a ha; refine op_g ha rfl (g_move rfl) ?_; clear ha a; intro a ha; refine op_g ha rfl (g_field0 st59_1 rfl) ?_; clear ha a; intro a ha; obtain ⟨x347, g348, gx349, hF⟩ := idx_some hF; refine op_g ha rfl (g_idxBx un57 Try.sizeOf56 rfl rfl g348 (idx_lt g348 gx349 rfl)) ?_; clear ha a; intro a ha
        refine o_storeB ha hB256 Try.sizeOf56 rfl rfl rfl rfl (bxi_lt (pre := [(.int .i64 a2_0), (.int .i64 a2_1), (.int .i64 a2_2)]) (post := []) (fun x : BitVec 32 => Value.int .u32 (BitVec.toNat x : Int)) gx349) ?_; intro w350 hB351 hc352
        replace hc352 := hc352.bl
        replace hB351 : Bx w350 b12 [(.int .i64 a2_0), (.int .i64 a2_1), (.int .i64 a2_2), (.int .u32 (BitVec.toNat (if a1_1 = 0 then u260 else u258) : Int)), (.int .u32 (BitVec.toNat (if a1_1 = 1 then u260 else u259) : Int))] 59 := Bx.eq (bxi_set2 (pre := [(.int .i64 a2_0), (.int .i64 a2_1), (.int .i64 a2_2)]) (post := []) (fun x : BitVec 32 => Value.int .u32 (BitVec.toNat x : Int)) g348 gx349) hB351
        replace h250 := h250.nq hc352 q262
        replace hB254 := hB254.nq hc352 q264
        have hE353 := Chg.own hE345 hc352 (Zn.bl z257)
        refine wpList_nil ?_; replace ha := ha.sub (σ' := [(0, (.pointer (some ⟨j1, 0, none⟩))), (4, (.pointer (some ⟨b2, 0, none⟩))), (5, (.pointer (some ⟨b12, 0, none⟩))), (8, (.int .u32 (BitVec.toNat u260 : Int)))]) ⟨rfl, rfl, rfl, rfl, trivial⟩; refine e_then ?_; refine wp_seq ?_; refine wp_region_lit ?_; refine op_g ha rfl (g_move rfl) ?_; clear ha a; intro a ha; refine op_g ha rfl (g_field0 st71_2 rfl) ?_; clear ha a; intro a ha; refine op_g ha rfl (g_load Try.isAgg2 rfl (hB254.cell rfl)) ?_; clear ha a; intro a ha; refine op_g ha rfl (g_loadA (cs := [(.int .i64 a2_0), (.int .i64 a2_1), (.int .i64 a2_2), (.int .u32 (BitVec.toNat (if a1_1 = 0 then u260 else u258) : Int)), (.int .u32 (BitVec.toNat (if a1_1 = 1 then u260 else u259) : Int))]) Try.isAgg59 Try.sizeOf59 rfl (by simp) hB351.all) ?_; clear ha a; intro a ha
        obtain ⟨x354, hc355, hF⟩ := cal_some hF
        refine o_call ha rfl rfl Try.call44 (ih h250 ha1_2 ha2_0 ha2_1 ha2_2 hc355) ?_; clear ha a; rintro v356 w357 ⟨rfl, h359, hx358⟩ a ha
        replace hB254 := hB254.nq hx358 q263
        replace hB351 := hB351.nq hx358 q265
        have hE360 := Chg.same hE353 hx358
        refine wpList_nil ?_; replace ha := ha.sub (σ' := [(0, (.pointer (some ⟨j1, 0, none⟩))), (4, (.pointer (some ⟨b2, 0, none⟩))), (5, (.pointer (some ⟨b12, 0, none⟩))), (8, (.int .u32 (BitVec.toNat u260 : Int))), (49, (.bool x354.1))]) ⟨rfl, rfl, rfl, rfl, rfl, trivial⟩; refine e_then ?_; refine c_cond (x354.1 = true) ha rfl (Iff.rfl) (fun hp361 => ?_) (fun hp361 => ?_)
        · replace hF := if_t hp361 hF
          refine wp_seq ?_; refine wp_region_lit ?_; refine op_g ha rfl (g_assign rfl) ?_; clear ha a; intro a ha; refine wpList_nil ?_; replace ha := ha.sub (σ' := [(6, (.bool true))]) ⟨rfl, trivial⟩; refine e_then ?_; refine wp_ret ?_; refine e_blk_ret ?_; refine e_then_ret ?_; refine e_lq_ret ?_; refine e_then_ret ?_; obtain rfl := Option.some.inj hF
          have e362 := LK_inr hN328; subst e362
          have e363 := BK_inr hK324; subst e363
          exact f_ret1 ha rfl rfl ⟨rfl, h359, hE360⟩
        replace hF := if_f hp361 hF; refine wp_skip ?_; refine e_blk ?_; refine e_then ?_; refine wp_region_lit ?_; refine op_g ha rfl (g_move rfl) ?_; clear ha a; intro a ha; refine op_g ha rfl (g32_add (m := u260) (n := (1#32)) rfl rfl) ?_; clear ha a; intro a ha; refine op_g ha rfl (g_assign rfl) ?_; clear ha a; intro a ha; refine wpList_nil ?_; replace ha := ha.sub (σ' := [(0, (.pointer (some ⟨j1, 0, none⟩))), (4, (.pointer (some ⟨b2, 0, none⟩))), (5, (.pointer (some ⟨b12, 0, none⟩))), (8, (.int .u32 (BitVec.toNat (u260 + (1#32)) : Int)))]) ⟨rfl, rfl, rfl, rfl, trivial⟩; refine e_lq ?_; obtain rfl := Option.some.inj hF
        exact ⟨_, Nat.lt_succ_self _, x354.2, (if a1_1 = 0 then u260 else u258), (if a1_1 = 1 then u260 else u259), u260 + (1#32), ha.sub ⟨rfl, rfl, rfl, rfl, trivial⟩, hE360, h359, hB254, z255, hB351, z257, q261, q262, q263, q264, q265, q266, hN328⟩
      replace hF := if_f hp346 hF; refine wp_exit ?_; refine e_then_exit ?_; refine e_lq_eq ?_; obtain rfl := Option.some.inj hF
      exact ⟨l251, ha.sub trivial, hE345, h250, (LK_inr hN328).symm⟩
  rintro a w317 ⟨l319, ha, hE327, h318, rfl⟩
  have hF : F_impl_judge_some_k4 l319 = some _ := hK324; clear hK324; unfold F_impl_judge_some_k4 at hF
  refine e_then ?_; refine wp_seq ?_; refine wp_region_lit ?_; refine op_g ha rfl (g_assign rfl) ?_; clear ha a; intro a ha; refine wpList_nil ?_; refine e_then ?_; refine wp_ret ?_; obtain rfl := Option.some.inj hF
  exact f_ret1 ha rfl rfl ⟨rfl, h318, hE327⟩
set_option maxHeartbeats 2000000 in
theorem W_impl_judge_direct {φ : Value → Value → Prop} {rc : JD → Int → Int → Int → Int → (BitVec 32) → (BitVec 32) → Option (Bool × JD)} (ih : ∀ {W : World} {va0 : Value} {ba0 : Int} {fa0 : List Nat} {a0 : JD} (ha0 : Jd Try.prog 82 97 φ W fa0 ba0 va0 a0) {a1 : Int} (ha1 : InI a1) {a2_0 : Int} (ha2_0 : InI a2_0) {a2_1 : Int} (ha2_1 : InI a2_1) {a2_2 : Int} (ha2_2 : InI a2_2) {a2_3 : BitVec 32} {a2_4 : BitVec 32} {r : (Bool × JD)}, rc a0 a1 a2_0 a2_1 a2_2 a2_3 a2_4 = some r →
    Calls Try.prog 44 [va0, .int .i64 a1, .agg #[.int .i64 a2_0, .int .i64 a2_1, .int .i64 a2_2, .int .u32 (BitVec.toNat a2_3 : Int), .int .u32 (BitVec.toNat a2_4 : Int)]].toArray W (Ret fun u w' => u = .bool r.1 ∧ Jd Try.prog 82 97 φ w' fa0 ba0 va0 r.2 ∧ Chg (bl ba0) W w')) {W : World} {va0 : Value} {ba0 : Int} {fa0 : List Nat} {a0 : JD} (ha0 : Jd Try.prog 82 97 φ W fa0 ba0 va0 a0) {a1_0 : Int} (ha1_0 : InI a1_0) {a1_1 : Int} (ha1_1 : InI a1_1) {a1_2 : Int} (ha1_2 : InI a1_2) {a2_0 : Int} (ha2_0 : InI a2_0) {a2_1 : Int} (ha2_1 : InI a2_1) {a2_2 : Int} (ha2_2 : InI a2_2) {a2_3 : BitVec 32} {a2_4 : BitVec 32} {r : (Bool × JD)} (hF : F_impl_judge_direct rc a0 a1_0 a1_1 a1_2 a2_0 a2_1 a2_2 a2_3 a2_4 = some r) :
    Calls Try.prog 57 [va0, .agg #[.int .i64 a1_0, .int .i64 a1_1, .int .i64 a1_2], .agg #[.int .i64 a2_0, .int .i64 a2_1, .int .i64 a2_2, .int .u32 (BitVec.toNat a2_3 : Int), .int .u32 (BitVec.toNat a2_4 : Int)]].toArray W (Ret fun u w' => u = .bool r.1 ∧ Jd Try.prog 82 97 φ w' fa0 ba0 va0 r.2 ∧ Chg (bl ba0) W w') := by
  have dlta0 := ha0.fpb
  obtain ⟨j1, rfl⟩ := ha0.ptr
  refine f_enter Try.func57 rfl Try.ntmps57 rfl ?_
  intro a ha
  replace ha : Fr 94 [(0, (.pointer (some ⟨j1, 0, none⟩))), (1, (.agg #[(.int .i64 a1_0), (.int .i64 a1_1), (.int .i64 a1_2)])), (2, (.agg #[(.int .i64 a2_0), (.int .i64 a2_1), (.int .i64 a2_2), (.int .u32 (BitVec.toNat a2_3 : Int)), (.int .u32 (BitVec.toNat a2_4 : Int))]))] a := ha
  have hE : Chg (bl ba0) W W := Chg.refl _ _
  unfold F_impl_judge_direct at hF
  refine wp_seq ?_; refine wp_region_lit ?_
  refine o_box ha rfl rfl rfl ?_; clear ha a; intro b2 w3 hB4 hx5 hlo6 a ha
  have q7 := Zn.one hlo6
  have q8 := Nq.new ha0.fpb q7
  have q9 := Nq.made1 hlo6 ha0.blt
  have q10 := Zn.upD q7 hE
  replace ha0 := ha0.ext hx5
  have hE11 := Chg.more hE hx5
  refine o_box ha rfl rfl rfl ?_; clear ha a; intro b12 w13 hB14 hx15 hlo16 a ha
  have q17 := Zn.one hlo16
  have q18 := Nq.new ha0.fpb q17
  have q19 := Nq.made1 hlo16 ha0.blt
  have q20 := Nq.new hB4.fpb q17
  have q21 := Nq.made1 hlo16 hB4.bi
  have q22 := Zn.upD q17 hE11
  replace ha0 := ha0.ext hx15
  replace hB4 := hB4.ext hx15
  have hE23 := Chg.more hE11 hx15
  refine op_g ha rfl (g_assign rfl) ?_; clear ha a; intro a ha; refine wpList_nil ?_; replace ha := ha.sub (σ' := [(0, (.pointer (some ⟨j1, 0, none⟩))), (4, (.pointer (some ⟨b2, 0, none⟩))), (5, (.pointer (some ⟨b12, 0, none⟩)))]) ⟨rfl, rfl, rfl, trivial⟩; refine e_then ?_; refine wp_seq ?_; refine wp_seq ?_; refine wp_region_lit ?_; refine op_g ha rfl (g_field0 st71_0 rfl) ?_; clear ha a; intro a ha; refine op_g ha rfl (g_load Try.isAgg2 rfl (hB4.cell rfl)) ?_; clear ha a; intro a ha; refine wpList_nil ?_; replace ha := ha.sub (σ' := [(0, (.pointer (some ⟨j1, 0, none⟩))), (4, (.pointer (some ⟨b2, 0, none⟩))), (5, (.pointer (some ⟨b12, 0, none⟩))), (8, (.int .i64 a1_0))]) ⟨rfl, rfl, rfl, rfl, trivial⟩
  refine e_then ?_; refine wp_block ?_; refine wp_seq ?_; refine wp_region_lit ?_; refine op_g ha rfl (g_eql rfl rfl) ?_; clear ha a; intro a ha; refine op_g ha rfl (g_assign rfl) ?_; clear ha a; intro a ha; refine wpList_nil ?_; replace ha := ha.sub (σ' := [(0, (.pointer (some ⟨j1, 0, none⟩))), (4, (.pointer (some ⟨b2, 0, none⟩))), (5, (.pointer (some ⟨b12, 0, none⟩))), (8, (.int .i64 a1_0)), (9, (.bool (decide (a1_0 = 1))))]) ⟨rfl, rfl, rfl, rfl, rfl, trivial⟩; refine e_then ?_; refine c_cond (a1_0 = 1) ha rfl (decide_eq_true_iff) (fun hp24 => ?_) (fun hp24 => ?_)
  · replace hF := if_t hp24 hF
    refine wp_seq ?_; refine d_quiet hmix (by kernel_rfl) ?_; refine q_g ha rfl (g_move rfl) ?_; clear ha a; intro a ha; refine q_g ha rfl (g_nilCheck rfl) ?_; clear ha a; intro a ha; refine q_g ha rfl (g_field0 st82_0 rfl) ?_; clear ha a; intro a ha
    obtain ⟨u25, f26, h27, hc28, q29, hs30⟩ := ha0.get0
    have q32 := Nq.mono q8 hs30
    have q33 := Nq.mono q18 hs30
    refine q_g ha rfl (g_load Try.isAgg75 rfl hc28) ?_; clear ha a; intro a ha; refine q_g ha rfl (g_field0 st71_1 rfl) ?_; clear ha a; intro a ha; refine q_g ha rfl (g_load Try.isAgg2 rfl (hB4.cell rfl)) ?_; clear ha a; intro a ha; refine q_g ha rfl (g_field0 st59_0 rfl) ?_; clear ha a; intro a ha; obtain ⟨x34, g35, gx36, hF⟩ := idx_some hF; refine q_g ha rfl (g_idxBx un54 Try.sizeOf3 rfl rfl g35 (idx_lt g35 gx36 rfl)) ?_; clear ha a; intro a ha
    have hI37 := InI.get3 ha2_0 ha2_1 ha2_2 gx36
    refine q_g ha rfl (g_load Try.isAgg3 rfl (hB14.cell (bxi_get (pre := []) (post := [(.int .u32 (BitVec.toNat a2_3 : Int)), (.int .u32 (BitVec.toNat a2_4 : Int))]) (Value.int .i64) gx36))) ?_; clear ha a; intro a ha; obtain ⟨x38, g39, gx40, hF⟩ := idx_some hF
    obtain ⟨p41, cs42, f43, hf44, hpb45, hat46, hr47, hi48⟩ := h27.at g39 gx40
    obtain ⟨rfl, rfl⟩ := hr47
    refine q_g ha rfl (hi48.gives sl75 rfl rfl) ?_; clear ha a; intro a ha; refine q_g ha rfl (g_load Try.isAgg56 rfl hat46.one) ?_; clear ha a; intro a ha; refine q_g ha rfl (g_field0 st71_2 rfl) ?_; clear ha a; intro a ha; refine q_g ha rfl (g_load Try.isAgg2 rfl (hB4.cell rfl)) ?_; clear ha a; intro a ha; refine q_g ha rfl (g_field0 st59_0 rfl) ?_; clear ha a; intro a ha; obtain ⟨x49, g50, gx51, hF⟩ := idx_some hF; refine q_g ha rfl (g_idxBx un54 Try.sizeOf3 rfl rfl g50 (idx_lt g50 gx51 rfl)) ?_; clear ha a; intro a ha
    have hI52 := InI.get3 ha2_0 ha2_1 ha2_2 gx51
    refine q_g ha rfl (g_load Try.isAgg3 rfl (hB14.cell (bxi_get (pre := []) (post := [(.int .u32 (BitVec.toNat a2_3 : Int)), (.int .u32 (BitVec.toNat a2_4 : Int))]) (Value.int .i64) gx51))) ?_; clear ha a; intro a ha; obtain ⟨x55, hc56, hF⟩ := cal_some hF; refine q_call (.bool x55) ha rfl rfl Try.call66 (fun w54 hx53 => W_impl_vset_has hI52 hc56) (fun _ _ _ h => ⟨h.1, h.2⟩) ?_; clear ha a; intro a ha; refine q_g ha rfl (g_assign rfl) ?_; clear ha a; intro a ha
    refine q_nil ?_; intro w57 hx58
    replace ha0 := ha0.ext hx58
    replace hB4 := hB4.ext hx58
    replace hB14 := hB14.ext hx58
    replace h27 := h27.ext hx58
    have hE59 := Chg.more hE23 hx58
    replace ha := ha.sub (σ' := [(6, (.bool x55))]) ⟨rfl, trivial⟩; refine e_then ?_; refine wp_ret ?_; refine e_blk_ret ?_; refine e_then_ret ?_; obtain rfl := Option.some.inj hF
    exact f_ret1 ha rfl rfl ⟨rfl, ha0, hE59⟩
  replace hF := if_f hp24 hF; refine wp_seq ?_; refine wp_region_lit ?_; refine op_g ha rfl (g_eql rfl rfl) ?_; clear ha a; intro a ha; refine op_g ha rfl (g_assign rfl) ?_; clear ha a; intro a ha; refine wpList_nil ?_; replace ha := ha.sub (σ' := [(0, (.pointer (some ⟨j1, 0, none⟩))), (4, (.pointer (some ⟨b2, 0, none⟩))), (5, (.pointer (some ⟨b12, 0, none⟩))), (8, (.int .i64 a1_0)), (28, (.bool (decide (a1_0 = 2))))]) ⟨rfl, rfl, rfl, rfl, rfl, trivial⟩; refine e_then ?_; refine c_cond (a1_0 = 2) ha rfl (decide_eq_true_iff) (fun hp60 => ?_) (fun hp60 => ?_)
  · replace hF := if_t hp60 hF
    refine wp_seq ?_; refine d_quiet hmix (by kernel_rfl) ?_; refine q_g ha rfl (g_field0 st71_1 rfl) ?_; clear ha a; intro a ha; refine q_g ha rfl (g_load Try.isAgg2 rfl (hB4.cell rfl)) ?_; clear ha a; intro a ha; refine q_g ha rfl (g_field0 st59_0 rfl) ?_; clear ha a; intro a ha; obtain ⟨x61, g62, gx63, hF⟩ := idx_some hF; refine q_g ha rfl (g_idxBx un54 Try.sizeOf3 rfl rfl g62 (idx_lt g62 gx63 rfl)) ?_; clear ha a; intro a ha
    have hI64 := InI.get3 ha2_0 ha2_1 ha2_2 gx63
    refine q_g ha rfl (g_load Try.isAgg3 rfl (hB14.cell (bxi_get (pre := []) (post := [(.int .u32 (BitVec.toNat a2_3 : Int)), (.int .u32 (BitVec.toNat a2_4 : Int))]) (Value.int .i64) gx63))) ?_; clear ha a; intro a ha; refine q_g ha rfl (g_field0 st71_2 rfl) ?_; clear ha a; intro a ha; refine q_g ha rfl (g_load Try.isAgg2 rfl (hB4.cell rfl)) ?_; clear ha a; intro a ha; refine q_g ha rfl (g_field0 st59_0 rfl) ?_; clear ha a; intro a ha; obtain ⟨x65, g66, gx67, hF⟩ := idx_some hF; refine q_g ha rfl (g_idxBx un54 Try.sizeOf3 rfl rfl g66 (idx_lt g66 gx67 rfl)) ?_; clear ha a; intro a ha
    have hI68 := InI.get3 ha2_0 ha2_1 ha2_2 gx67
    refine q_g ha rfl (g_load Try.isAgg3 rfl (hB14.cell (bxi_get (pre := []) (post := [(.int .u32 (BitVec.toNat a2_3 : Int)), (.int .u32 (BitVec.toNat a2_4 : Int))]) (Value.int .i64) gx67))) ?_; clear ha a; intro a ha; refine q_g ha rfl (g_eql rfl rfl) ?_; clear ha a; intro a ha; refine q_g ha rfl (g_assign rfl) ?_; clear ha a; intro a ha
    refine q_nil ?_; intro w69 hx70
    replace ha0 := ha0.ext hx70
    replace hB4 := hB4.ext hx70
    replace hB14 := hB14.ext hx70
    have hE71 := Chg.more hE23 hx70
    replace ha := ha.sub (σ' := [(6, (.bool (decide (x61 = x65))))]) ⟨rfl, trivial⟩; refine e_then ?_; refine wp_ret ?_; refine e_blk_ret ?_; refine e_then_ret ?_; obtain rfl := Option.some.inj hF
    exact f_ret1 ha rfl rfl ⟨rfl, ha0, hE71⟩
  replace hF := if_f hp60 hF; refine wp_seq ?_; refine wp_region_lit ?_; refine op_g ha rfl (g_eql rfl rfl) ?_; clear ha a; intro a ha; refine op_g ha rfl (g_assign rfl) ?_; clear ha a; intro a ha; refine wpList_nil ?_; replace ha := ha.sub (σ' := [(0, (.pointer (some ⟨j1, 0, none⟩))), (4, (.pointer (some ⟨b2, 0, none⟩))), (5, (.pointer (some ⟨b12, 0, none⟩))), (8, (.int .i64 a1_0)), (41, (.bool (decide (a1_0 = 3))))]) ⟨rfl, rfl, rfl, rfl, rfl, trivial⟩; refine e_then ?_; refine c_cond (a1_0 = 3) ha rfl (decide_eq_true_iff) (fun hp72 => ?_) (fun hp72 => ?_)
  · replace hF := if_t hp72 hF
    refine wp_seq ?_; refine d_quiet hmix (by kernel_rfl) ?_; refine q_g ha rfl (g_field0 st71_2 rfl) ?_; clear ha a; intro a ha; refine q_g ha rfl (g_load Try.isAgg2 rfl (hB4.cell rfl)) ?_; clear ha a; intro a ha; refine q_g ha rfl (g_field0 st59_1 rfl) ?_; clear ha a; intro a ha; obtain ⟨x73, g74, gx75, hF⟩ := idx_some hF; refine q_g ha rfl (g_idxBx un57 Try.sizeOf56 rfl rfl g74 (idx_lt g74 gx75 rfl)) ?_; clear ha a; intro a ha; refine q_g ha rfl (g_load Try.isAgg56 rfl (hB14.cell (bxi_get (pre := [(.int .i64 a2_0), (.int .i64 a2_1), (.int .i64 a2_2)]) (post := []) (fun x : BitVec 32 => Value.int .u32 (BitVec.toNat x : Int)) gx75))) ?_; clear ha a; intro a ha
    refine q_g ha rfl (g_field0 st71_1 rfl) ?_; clear ha a; intro a ha; refine q_g ha rfl (g_load Try.isAgg2 rfl (hB4.cell rfl)) ?_; clear ha a; intro a ha; refine q_g ha rfl (g_field0 st59_0 rfl) ?_; clear ha a; intro a ha; obtain ⟨x76, g77, gx78, hF⟩ := idx_some hF; refine q_g ha rfl (g_idxBx un54 Try.sizeOf3 rfl rfl g77 (idx_lt g77 gx78 rfl)) ?_; clear ha a; intro a ha
    have hI79 := InI.get3 ha2_0 ha2_1 ha2_2 gx78
    refine q_g ha rfl (g_load Try.isAgg3 rfl (hB14.cell (bxi_get (pre := []) (post := [(.int .u32 (BitVec.toNat a2_3 : Int)), (.int .u32 (BitVec.toNat a2_4 : Int))]) (Value.int .i64) gx78))) ?_; clear ha a; intro a ha; obtain ⟨x82, hc83, hF⟩ := cal_some hF; refine q_call (.bool x82) ha rfl rfl Try.call66 (fun w81 hx80 => W_impl_vset_has hI79 hc83) (fun _ _ _ h => ⟨h.1, h.2⟩) ?_; clear ha a; intro a ha; refine q_g ha rfl (g_assign rfl) ?_; clear ha a; intro a ha
    refine q_nil ?_; intro w84 hx85
    replace ha0 := ha0.ext hx85
    replace hB4 := hB4.ext hx85
    replace hB14 := hB14.ext hx85
    have hE86 := Chg.more hE23 hx85
    replace ha := ha.sub (σ' := [(6, (.bool x82))]) ⟨rfl, trivial⟩; refine e_then ?_; refine wp_ret ?_; refine e_blk_ret ?_; refine e_then_ret ?_; obtain rfl := Option.some.inj hF
    exact f_ret1 ha rfl rfl ⟨rfl, ha0, hE86⟩
  replace hF := if_f hp72 hF; refine wp_seq ?_; refine wp_region_lit ?_; refine op_g ha rfl (g_eql rfl rfl) ?_; clear ha a; intro a ha; refine op_g ha rfl (g_assign rfl) ?_; clear ha a; intro a ha; refine wpList_nil ?_; replace ha := ha.sub (σ' := [(0, (.pointer (some ⟨j1, 0, none⟩))), (4, (.pointer (some ⟨b2, 0, none⟩))), (5, (.pointer (some ⟨b12, 0, none⟩))), (8, (.int .i64 a1_0)), (54, (.bool (decide (a1_0 = 4))))]) ⟨rfl, rfl, rfl, rfl, rfl, trivial⟩; refine e_then ?_; refine c_cond (a1_0 = 4) ha rfl (decide_eq_true_iff) (fun hp87 => ?_) (fun hp87 => ?_)
  · replace hF := if_t hp87 hF
    refine wp_seq ?_; refine wp_region_lit ?_; refine op_g ha rfl (g_move rfl) ?_; clear ha a; intro a ha; refine op_g ha rfl (g_field0 st71_1 rfl) ?_; clear ha a; intro a ha; refine op_g ha rfl (g_load Try.isAgg2 rfl (hB4.cell rfl)) ?_; clear ha a; intro a ha; refine op_g ha rfl (g_loadA (cs := [(.int .i64 a2_0), (.int .i64 a2_1), (.int .i64 a2_2), (.int .u32 (BitVec.toNat a2_3 : Int)), (.int .u32 (BitVec.toNat a2_4 : Int))]) Try.isAgg59 Try.sizeOf59 rfl (by simp) hB14.all) ?_; clear ha a; intro a ha; obtain ⟨x88, hc89, hF⟩ := cal_some hF
    refine o_call ha rfl rfl Try.call44 (ih ha0 ha1_1 ha2_0 ha2_1 ha2_2 hc89) ?_; clear ha a; rintro v90 w91 ⟨rfl, h93, hx92⟩ a ha
    replace hB4 := hB4.nq hx92 q9
    replace hB14 := hB14.nq hx92 q19
    have hE94 := Chg.same hE23 hx92
    refine op_g ha rfl (g_not rfl) ?_; clear ha a; intro a ha; refine op_g ha rfl (g_assign rfl) ?_; clear ha a; intro a ha; refine wpList_nil ?_; replace ha := ha.sub (σ' := [(6, (.bool (!x88.1)))]) ⟨rfl, trivial⟩; refine e_then ?_; refine wp_ret ?_; refine e_blk_ret ?_; refine e_then_ret ?_; obtain rfl := Option.some.inj hF
    exact f_ret1 ha rfl rfl ⟨rfl, h93, hE94⟩
  replace hF := if_f hp87 hF; refine wp_seq ?_; refine wp_region_lit ?_; refine op_g ha rfl (g_eql rfl rfl) ?_; clear ha a; intro a ha; refine op_g ha rfl (g_assign rfl) ?_; clear ha a; intro a ha; refine wpList_nil ?_; replace ha := ha.sub (σ' := [(0, (.pointer (some ⟨j1, 0, none⟩))), (4, (.pointer (some ⟨b2, 0, none⟩))), (5, (.pointer (some ⟨b12, 0, none⟩))), (8, (.int .i64 a1_0)), (62, (.bool (decide (a1_0 = 5))))]) ⟨rfl, rfl, rfl, rfl, rfl, trivial⟩; refine e_then ?_; refine c_cond (a1_0 = 5) ha rfl (decide_eq_true_iff) (fun hp95 => ?_) (fun hp95 => ?_)
  · replace hF := if_t hp95 hF
    refine wp_seq ?_; refine wp_region_lit ?_; refine op_g ha rfl (g_move rfl) ?_; clear ha a; intro a ha; refine op_g ha rfl (g_field0 st71_1 rfl) ?_; clear ha a; intro a ha; refine op_g ha rfl (g_load Try.isAgg2 rfl (hB4.cell rfl)) ?_; clear ha a; intro a ha; refine op_g ha rfl (g_loadA (cs := [(.int .i64 a2_0), (.int .i64 a2_1), (.int .i64 a2_2), (.int .u32 (BitVec.toNat a2_3 : Int)), (.int .u32 (BitVec.toNat a2_4 : Int))]) Try.isAgg59 Try.sizeOf59 rfl (by simp) hB14.all) ?_; clear ha a; intro a ha; obtain ⟨x96, hc97, hF⟩ := cal_some hF
    refine o_call ha rfl rfl Try.call44 (ih ha0 ha1_1 ha2_0 ha2_1 ha2_2 hc97) ?_; clear ha a; rintro v98 w99 ⟨rfl, h101, hx100⟩ a ha
    replace hB4 := hB4.nq hx100 q9
    replace hB14 := hB14.nq hx100 q19
    have hE102 := Chg.same hE23 hx100
    refine op_g ha rfl (g_move rfl) ?_; clear ha a; intro a ha
    by_cases hp103 : x96.1 = true
    · replace hF := if_t hp103 hF
      rw [show (x96.1) = true from (Iff.rfl).2 hp103] at ha
      refine op_want (yields ha rfl rfl) ?_; refine op_g ha rfl (g_move rfl) ?_; clear ha a; intro a ha; refine op_want (yields ha rfl rfl) ?_; refine op_g ha rfl (g_field0 st71_2 rfl) ?_; clear ha a; intro a ha; refine op_want (yields ha rfl rfl) ?_; refine op_g ha rfl (g_load Try.isAgg2 rfl (hB4.cell rfl)) ?_; clear ha a; intro a ha; refine op_want (yields ha rfl rfl) ?_; refine op_g ha rfl (g_loadA (cs := [(.int .i64 a2_0), (.int .i64 a2_1), (.int .i64 a2_2), (.int .u32 (BitVec.toNat a2_3 : Int)), (.int .u32 (BitVec.toNat a2_4 : Int))]) Try.isAgg59 Try.sizeOf59 rfl (by simp) hB14.all) ?_; clear ha a; intro a ha
      refine op_want (yields ha rfl rfl) ?_; obtain ⟨x104, hc105, hF⟩ := cal_some hF
      refine o_call ha rfl rfl Try.call44 (ih h101 ha1_2 ha2_0 ha2_1 ha2_2 hc105) ?_; clear ha a; rintro v106 w107 ⟨rfl, h109, hx108⟩ a ha
      replace hB4 := hB4.nq hx108 q9
      replace hB14 := hB14.nq hx108 q19
      have hE110 := Chg.same hE102 hx108
      refine op_g ha rfl (g_pick rfl rfl) ?_; clear ha a; intro a ha; refine op_g ha rfl (g_assign rfl) ?_; clear ha a; intro a ha; refine wpList_nil ?_; replace ha := ha.sub (σ' := [(6, (.bool x104.1))]) ⟨rfl, trivial⟩; refine e_then ?_; refine wp_ret ?_; refine e_blk_ret ?_; refine e_then_ret ?_; obtain rfl := Option.some.inj hF
      exact f_ret1 ha rfl rfl ⟨rfl, h109, hE110⟩
    replace hF := if_f hp103 hF
    rw [show (x96.1) = false from b_false (Iff.rfl) hp103] at ha
    (iterate 5 refine op_unwant ha rfl (yields ha rfl rfl) rfl ?_; clear ha a; intro a ha); refine op_g ha rfl (g_pick rfl rfl) ?_; clear ha a; intro a ha; refine op_g ha rfl (g_assign rfl) ?_; clear ha a; intro a ha; refine wpList_nil ?_; replace ha := ha.sub (σ' := [(6, (.bool false))]) ⟨rfl, trivial⟩; refine e_then ?_; refine wp_ret ?_; refine e_blk_ret ?_; refine e_then_ret ?_; obtain rfl := Option.some.inj hF
    exact f_ret1 ha rfl rfl ⟨rfl, h101, hE102⟩
  replace hF := if_f hp95 hF; refine wp_seq ?_; refine wp_region_lit ?_; refine op_g ha rfl (g_eql rfl rfl) ?_; clear ha a; intro a ha; refine op_g ha rfl (g_assign rfl) ?_; clear ha a; intro a ha; refine wpList_nil ?_; replace ha := ha.sub (σ' := [(0, (.pointer (some ⟨j1, 0, none⟩))), (4, (.pointer (some ⟨b2, 0, none⟩))), (5, (.pointer (some ⟨b12, 0, none⟩))), (76, (.bool (decide (a1_0 = 6))))]) ⟨rfl, rfl, rfl, rfl, trivial⟩; refine e_then ?_; refine c_cond (a1_0 = 6) ha rfl (decide_eq_true_iff) (fun hp111 => ?_) (fun hp111 => ?_)
  · replace hF := if_t hp111 hF
    refine wp_seq ?_; refine wp_region_lit ?_; refine op_g ha rfl (g_move rfl) ?_; clear ha a; intro a ha; refine op_g ha rfl (g_field0 st71_1 rfl) ?_; clear ha a; intro a ha; refine op_g ha rfl (g_load Try.isAgg2 rfl (hB4.cell rfl)) ?_; clear ha a; intro a ha; refine op_g ha rfl (g_loadA (cs := [(.int .i64 a2_0), (.int .i64 a2_1), (.int .i64 a2_2), (.int .u32 (BitVec.toNat a2_3 : Int)), (.int .u32 (BitVec.toNat a2_4 : Int))]) Try.isAgg59 Try.sizeOf59 rfl (by simp) hB14.all) ?_; clear ha a; intro a ha; obtain ⟨x112, hc113, hF⟩ := cal_some hF
    refine o_call ha rfl rfl Try.call44 (ih ha0 ha1_1 ha2_0 ha2_1 ha2_2 hc113) ?_; clear ha a; rintro v114 w115 ⟨rfl, h117, hx116⟩ a ha
    replace hB4 := hB4.nq hx116 q9
    replace hB14 := hB14.nq hx116 q19
    have hE118 := Chg.same hE23 hx116
    refine op_g ha rfl (g_move rfl) ?_; clear ha a; intro a ha
    by_cases hp119 : x112.1 = true
    · replace hF := if_t hp119 hF
      rw [show (x112.1) = true from (Iff.rfl).2 hp119] at ha
      (iterate 5 refine op_unwant ha rfl (yields ha rfl rfl) rfl ?_; clear ha a; intro a ha); refine op_g ha rfl (g_pick rfl rfl) ?_; clear ha a; intro a ha; refine op_g ha rfl (g_assign rfl) ?_; clear ha a; intro a ha; refine wpList_nil ?_; replace ha := ha.sub (σ' := [(6, (.bool true))]) ⟨rfl, trivial⟩; refine e_then ?_; refine wp_ret ?_; refine e_blk_ret ?_; refine e_then_ret ?_; obtain rfl := Option.some.inj hF
      exact f_ret1 ha rfl rfl ⟨rfl, h117, hE118⟩
    replace hF := if_f hp119 hF
    rw [show (x112.1) = false from b_false (Iff.rfl) hp119] at ha
    refine op_want (yields ha rfl rfl) ?_; refine op_g ha rfl (g_move rfl) ?_; clear ha a; intro a ha; refine op_want (yields ha rfl rfl) ?_; refine op_g ha rfl (g_field0 st71_2 rfl) ?_; clear ha a; intro a ha; refine op_want (yields ha rfl rfl) ?_; refine op_g ha rfl (g_load Try.isAgg2 rfl (hB4.cell rfl)) ?_; clear ha a; intro a ha; refine op_want (yields ha rfl rfl) ?_; refine op_g ha rfl (g_loadA (cs := [(.int .i64 a2_0), (.int .i64 a2_1), (.int .i64 a2_2), (.int .u32 (BitVec.toNat a2_3 : Int)), (.int .u32 (BitVec.toNat a2_4 : Int))]) Try.isAgg59 Try.sizeOf59 rfl (by simp) hB14.all) ?_; clear ha a; intro a ha
    refine op_want (yields ha rfl rfl) ?_; obtain ⟨x120, hc121, hF⟩ := cal_some hF
    refine o_call ha rfl rfl Try.call44 (ih h117 ha1_2 ha2_0 ha2_1 ha2_2 hc121) ?_; clear ha a; rintro v122 w123 ⟨rfl, h125, hx124⟩ a ha
    replace hB4 := hB4.nq hx124 q9
    replace hB14 := hB14.nq hx124 q19
    have hE126 := Chg.same hE118 hx124
    refine op_g ha rfl (g_pick rfl rfl) ?_; clear ha a; intro a ha; refine op_g ha rfl (g_assign rfl) ?_; clear ha a; intro a ha; refine wpList_nil ?_; replace ha := ha.sub (σ' := [(6, (.bool x120.1))]) ⟨rfl, trivial⟩; refine e_then ?_; refine wp_ret ?_; refine e_blk_ret ?_; refine e_then_ret ?_; obtain rfl := Option.some.inj hF
    exact f_ret1 ha rfl rfl ⟨rfl, h125, hE126⟩
  replace hF := if_f hp111 hF; refine wp_skip ?_; refine e_blk ?_; refine e_then ?_; refine wp_seq ?_; refine wp_region_lit ?_; refine op_g ha rfl (g_move rfl) ?_; clear ha a; intro a ha; refine op_g ha rfl (g_loadA (cs := [(.int .i64 a1_0), (.int .i64 a1_1), (.int .i64 a1_2)]) Try.isAgg71 Try.sizeOf71 rfl (by simp) hB4.all) ?_; clear ha a; intro a ha; refine op_g ha rfl (g_loadA (cs := [(.int .i64 a2_0), (.int .i64 a2_1), (.int .i64 a2_2), (.int .u32 (BitVec.toNat a2_3 : Int)), (.int .u32 (BitVec.toNat a2_4 : Int))]) Try.isAgg59 Try.sizeOf59 rfl (by simp) hB14.all) ?_; clear ha a; intro a ha; obtain ⟨x127, hc128, hF⟩ := cal_some hF
  refine o_call ha rfl rfl Try.call67 (W_impl_judge_some @ih ha0 ha1_0 ha1_1 ha1_2 ha2_0 ha2_1 ha2_2 hc128) ?_; clear ha a; rintro v129 w130 ⟨rfl, h132, hx131⟩ a ha
  replace hB4 := hB4.nq hx131 q9
  replace hB14 := hB14.nq hx131 q19
  have hE133 := Chg.same hE23 hx131
  refine op_g ha rfl (g_assign rfl) ?_; clear ha a; intro a ha; refine wpList_nil ?_; replace ha := ha.sub (σ' := [(6, (.bool x127.1))]) ⟨rfl, trivial⟩; refine e_then ?_; refine wp_ret ?_; obtain rfl := Option.some.inj hF
  exact f_ret1 ha rfl rfl ⟨rfl, h132, hE133⟩
set_option maxHeartbeats 2000000 in
theorem W_impl_judge_relevant {φ : Value → Value → Prop} {W : World} {va0 : Value} {ba0 : Int} {fa0 : List Nat} {a0 : JD} (ha0 : Jd Try.prog 82 97 φ W fa0 ba0 va0 a0) {a1 : Int} (ha1 : InI a1) {a2_0 : Int} (ha2_0 : InI a2_0) {a2_1 : Int} (ha2_1 : InI a2_1) {a2_2 : Int} (ha2_2 : InI a2_2) {a2_3 : BitVec 32} {a2_4 : BitVec 32} {r : ((Int × (Int × (Int × ((BitVec 32) × (BitVec 32))))) × JD)} (hF : F_impl_judge_relevant a0 a1 a2_0 a2_1 a2_2 a2_3 a2_4 = some r) :
    Calls Try.prog 58 [va0, .int .i64 a1, .agg #[.int .i64 a2_0, .int .i64 a2_1, .int .i64 a2_2, .int .u32 (BitVec.toNat a2_3 : Int), .int .u32 (BitVec.toNat a2_4 : Int)]].toArray W (Ret fun u w' => ∃ (u_0 : Value) (u_1 : Value) (u_2 : Value) (u_3 : Value) (u_4 : Value), u = .agg #[u_0, u_1, u_2, u_3, u_4] ∧ (u_0 = .int .i64 r.1.1 ∧ InI r.1.1) ∧ (u_1 = .int .i64 r.1.2.1 ∧ InI r.1.2.1) ∧ (u_2 = .int .i64 r.1.2.2.1 ∧ InI r.1.2.2.1) ∧ u_3 = .int .u32 (BitVec.toNat r.1.2.2.2.1 : Int) ∧ u_4 = .int .u32 (BitVec.toNat r.1.2.2.2.2 : Int) ∧ Jd Try.prog 82 97 φ w' fa0 ba0 va0 r.2 ∧ Chg (bl ba0) W w') := by
  have dlta0 := ha0.fpb
  obtain ⟨j1, rfl⟩ := ha0.ptr
  refine f_enter Try.func58 rfl Try.ntmps58 rfl ?_
  intro a ha
  replace ha : Fr 45 [(0, (.pointer (some ⟨j1, 0, none⟩))), (1, (.int .i64 a1)), (2, (.agg #[(.int .i64 a2_0), (.int .i64 a2_1), (.int .i64 a2_2), (.int .u32 (BitVec.toNat a2_3 : Int)), (.int .u32 (BitVec.toNat a2_4 : Int))]))] a := ha
  have hE : Chg (bl ba0) W W := Chg.refl _ _
  unfold F_impl_judge_relevant at hF
  refine wp_seq ?_; refine wp_region_lit ?_
  refine o_box ha rfl rfl rfl ?_; clear ha a; intro b2 w3 hB4 hx5 hlo6 a ha
  have q7 := Zn.one hlo6
  have q8 := Nq.new ha0.fpb q7
  have q9 := Nq.made1 hlo6 ha0.blt
  have q10 := Zn.upD q7 hE
  replace ha0 := ha0.ext hx5
  have hE11 := Chg.more hE hx5
  refine o_alloc (cs := [(.int .i64 0), (.int .i64 0), (.int .i64 0), (.int .u32 (BitVec.toNat (0#32) : Int)), (.int .u32 (BitVec.toNat (0#32) : Int))]) ha rfl Try.zeroValue59 rfl ?_; clear ha a; intro b12 w13 hB14 hx15 hlo16 a ha
  have q17 := Zn.one hlo16
  have q18 := Nq.new ha0.fpb q17
  have q19 := Nq.made1 hlo16 ha0.blt
  have q20 := Nq.new hB4.fpb q17
  have q21 := Nq.made1 hlo16 hB4.bi
  have q22 := Zn.upD q17 hE11
  replace ha0 := ha0.ext hx15
  replace hB4 := hB4.ext hx15
  have hE23 := Chg.more hE11 hx15
  refine wpList_nil ?_; replace ha := ha.sub (σ' := [(0, (.pointer (some ⟨j1, 0, none⟩))), (1, (.int .i64 a1)), (5, (.pointer (some ⟨b2, 0, none⟩))), (6, (.pointer (some ⟨b12, 0, none⟩)))]) ⟨rfl, rfl, rfl, rfl, trivial⟩; refine e_then ?_; refine wp_seq ?_; refine wp_seq ?_; refine wp_region_lit ?_; refine op_g ha rfl (g_move rfl) ?_; clear ha a; intro a ha; refine wpList_nil ?_; replace ha := ha.sub (σ' := [(0, (.pointer (some ⟨j1, 0, none⟩))), (1, (.int .i64 a1)), (5, (.pointer (some ⟨b2, 0, none⟩))), (6, (.pointer (some ⟨b12, 0, none⟩))), (9, (.int .i64 0))]) ⟨rfl, rfl, rfl, rfl, rfl, trivial⟩
  refine e_then ?_; obtain ⟨o194, ho195, hK196⟩ := bnd_some hF
  obtain ⟨n197, hn198⟩ := lp_some ho195; clear ho195
  refine c_loop (fun a w => ∃ (i180 : Int) (i182 : Int) (i184 : Int), Fr 45 [(0, (.pointer (some ⟨j1, 0, none⟩))), (1, (.int .i64 a1)), (5, (.pointer (some ⟨b2, 0, none⟩))), (6, (.pointer (some ⟨b12, 0, none⟩)))] a ∧ Chg (bl ba0) W w ∧ InI i180 ∧ InI i182 ∧ InI i184 ∧ Jd Try.prog 82 97 φ w fa0 ba0 (.pointer (some ⟨j1, 0, none⟩)) a0 ∧ Bx w b2 [(.int .i64 i180), (.int .i64 i182), (.int .i64 i184), (.int .u32 (BitVec.toNat a2_3 : Int)), (.int .u32 (BitVec.toNat a2_4 : Int))] 59 ∧ Zn W (b2 : Int) ∧ Bx w b12 [(.int .i64 0), (.int .i64 0), (.int .i64 0), (.int .u32 (BitVec.toNat (0#32) : Int)), (.int .u32 (BitVec.toNat (0#32) : Int))] 59 ∧ Zn W (b12 : Int) ∧ Nq (bl ba0 ++ fa0) (b2 : Int) ∧ Nq (bl ba0 ++ fa0) (b12 : Int) ∧ Nq ([b2]) ba0 ∧ Nq ([b2]) (b12 : Int) ∧ Nq ([b12]) ba0 ∧ Nq ([b12]) (b2 : Int) ∧ o194 = .inl (i180, i182, i184)) (fun n a w => ∃ (i100 : Int) (i102 : Int) (i104 : Int) (i108 : Int), Fr 45 [(0, (.pointer (some ⟨j1, 0, none⟩))), (1, (.int .i64 a1)), (5, (.pointer (some ⟨b2, 0, none⟩))), (6, (.pointer (some ⟨b12, 0, none⟩))), (9, (.int .i64 i108))] a ∧ Chg (bl ba0) W w ∧ InI i100 ∧ InI i102 ∧ InI i104 ∧ InI i108 ∧ Jd Try.prog 82 97 φ w fa0 ba0 (.pointer (some ⟨j1, 0, none⟩)) a0 ∧ Bx w b2 [(.int .i64 i100), (.int .i64 i102), (.int .i64 i104), (.int .u32 (BitVec.toNat a2_3 : Int)), (.int .u32 (BitVec.toNat a2_4 : Int))] 59 ∧ Zn W (b2 : Int) ∧ Bx w b12 [(.int .i64 0), (.int .i64 0), (.int .i64 0), (.int .u32 (BitVec.toNat (0#32) : Int)), (.int .u32 (BitVec.toNat (0#32) : Int))] 59 ∧ Zn W (b12 : Int) ∧ Nq (bl ba0 ++ fa0) (b2 : Int) ∧ Nq (bl ba0 ++ fa0) (b12 : Int) ∧ Nq ([b2]) ba0 ∧ Nq ([b2]) (b12 : Int) ∧ Nq ([b12]) ba0 ∧ Nq ([b12]) (b2 : Int) ∧ lpN (fun s => F_impl_judge_relevant_l1 a0 a1 s.1 s.2.1 s.2.2.1 s.2.2.2) n (i100, i102, i104, i108) = some o194) n197 ⟨a2_0, a2_1, a2_2, 0, ha.sub ⟨rfl, rfl, rfl, rfl, rfl, trivial⟩, hE23, ha2_0, ha2_1, ha2_2, (show InI 0 from by decide), ha0, hB4, q10, hB14, q22, q8, q18, q9, q20, q19, q21, hn198⟩ ?_ ?_
  · rintro m202 a w96 ⟨i100, i102, i104, i108, ha, hE116, hI101, hI103, hI105, hI109, h97, hB98, z99, hB106, z107, q110, q111, q112, q113, q114, q115, hF⟩
    cases m202 with
    | zero => exact (lpN_zero hF).elim
    | succ m202 =>
      obtain ⟨z201, hF, hN200⟩ := lpN_succ hF
      have hF : F_impl_judge_relevant_l1 a0 a1 i100 i102 i104 i108 = some z201 := hF; unfold F_impl_judge_relevant_l1 at hF
      refine wp_seq ?_; refine wp_region_lit ?_; refine op_g ha rfl (g_lss rfl rfl) ?_; clear ha a; intro a ha; refine wpList_nil ?_; replace ha := ha.sub (σ' := [(0, (.pointer (some ⟨j1, 0, none⟩))), (1, (.int .i64 a1)), (5, (.pointer (some ⟨b2, 0, none⟩))), (6, (.pointer (some ⟨b12, 0, none⟩))), (9, (.int .i64 i108)), (10, (.bool (decide (i108 < 3))))]) ⟨rfl, rfl, rfl, rfl, rfl, rfl, trivial⟩; refine e_then ?_; refine wp_seq ?_; refine c_cond (i108 < 3) ha rfl (decide_eq_true_iff) (fun hp203 => ?_) (fun hp203 => ?_)
      · replace hF := if_t hp203 hF
        refine wp_skip ?_; refine e_then ?_; refine wp_seq ?_; refine wp_block ?_; refine wp_seq ?_; refine wp_region_lit ?_; refine op_g ha rfl (g_move rfl) ?_; clear ha a; intro a ha; refine op_g ha rfl (g_assign rfl) ?_; clear ha a; intro a ha; refine wpList_nil ?_; replace ha := ha.sub (σ' := [(0, (.pointer (some ⟨j1, 0, none⟩))), (1, (.int .i64 a1)), (5, (.pointer (some ⟨b2, 0, none⟩))), (6, (.pointer (some ⟨b12, 0, none⟩))), (7, (.int .i64 i108)), (9, (.int .i64 i108))]) ⟨rfl, rfl, rfl, rfl, rfl, rfl, trivial⟩; refine e_then ?_; refine wp_seq ?_; refine wp_region_lit ?_; refine op_g ha rfl (g_move rfl) ?_; clear ha a; intro a ha
        refine op_g ha rfl (g_nilCheck rfl) ?_; clear ha a; intro a ha; refine op_g ha rfl (g_field0 st82_2 rfl) ?_; clear ha a; intro a ha
        obtain ⟨u204, f205, h206, hc207, q208, hs209⟩ := h97.get2
        have q211 := Nq.mono q110 hs209
        have q212 := Nq.mono q111 hs209
        refine op_g ha rfl (g_load Try.isAgg74 rfl hc207) ?_; clear ha a; intro a ha; refine op_g ha rfl (g_move rfl) ?_; clear ha a; intro a ha; obtain ⟨x213, g214, gx215, hF⟩ := idx_some hF
        obtain ⟨p216, cs217, f218, hf219, hpb220, hat221, hr222, hi223⟩ := h206.at g214 gx215
        obtain ⟨rfl, rfl⟩ := hr222
        refine op_g ha rfl (hi223.gives sl74 rfl rfl) ?_; clear ha a; intro a ha; refine op_g ha rfl (g_load Try.isAgg56 rfl hat221.one) ?_; clear ha a; intro a ha; refine op_g ha rfl (g_move rfl) ?_; clear ha a; intro a ha; obtain ⟨x224, hc225, hF⟩ := cal_some hF
        refine o_call ha rfl rfl Try.call66 (W_impl_vset_has hI109 hc225) ?_; clear ha a; rintro v226 w227 ⟨rfl, hx228⟩ a ha
        replace h97 := h97.ext hx228
        replace hB98 := hB98.ext hx228
        replace hB106 := hB106.ext hx228
        replace h206 := h206.ext hx228
        have hE229 := Chg.more hE116 hx228
        refine op_g ha rfl (g_not rfl) ?_; clear ha a; intro a ha; refine wpList_nil ?_; replace ha := ha.sub (σ' := [(0, (.pointer (some ⟨j1, 0, none⟩))), (1, (.int .i64 a1)), (5, (.pointer (some ⟨b2, 0, none⟩))), (6, (.pointer (some ⟨b12, 0, none⟩))), (7, (.int .i64 i108)), (9, (.int .i64 i108)), (21, (.bool (!x224)))]) ⟨rfl, rfl, rfl, rfl, rfl, rfl, rfl, trivial⟩; refine e_then ?_; refine c_cond (¬ (x224 = true)) ha rfl (n_iff (Iff.rfl)) (fun hp230 => ?_) (fun hp230 => ?_)
        · replace hF := if_t hp230 hF
          refine wp_region_lit ?_; refine op_g ha rfl (g_move rfl) ?_; clear ha a; intro a ha; refine op_g ha rfl (g_field0 st59_0 rfl) ?_; clear ha a; intro a ha; obtain ⟨x231, g232, gx233, hF⟩ := idx_some hF; refine op_g ha rfl (g_idxBx un54 Try.sizeOf3 rfl rfl g232 (idx_lt g232 gx233 rfl)) ?_; clear ha a; intro a ha
          refine o_storeB ha hB98 Try.sizeOf3 rfl rfl rfl rfl (bxi_lt (pre := []) (post := [(.int .u32 (BitVec.toNat a2_3 : Int)), (.int .u32 (BitVec.toNat a2_4 : Int))]) (Value.int .i64) gx233) ?_; intro w234 hB235 hc236
          replace hc236 := hc236.bl
          replace hB235 : Bx w234 b2 [(.int .i64 (if i108 = 0 then 0 else i100)), (.int .i64 (if i108 = 1 then 0 else i102)), (.int .i64 (if i108 = 2 then 0 else i104)), (.int .u32 (BitVec.toNat a2_3 : Int)), (.int .u32 (BitVec.toNat a2_4 : Int))] 59 := Bx.eq (bxi_set3 (pre := []) (post := [(.int .u32 (BitVec.toNat a2_3 : Int)), (.int .u32 (BitVec.toNat a2_4 : Int))]) (Value.int .i64) g232 gx233) hB235
          replace h97 := h97.nq hc236 q110
          replace hB106 := hB106.nq hc236 q115
          have hE237 := Chg.own hE229 hc236 (Zn.bl z99)
          refine wpList_nil ?_; replace ha := ha.sub (σ' := [(0, (.pointer (some ⟨j1, 0, none⟩))), (1, (.int .i64 a1)), (5, (.pointer (some ⟨b2, 0, none⟩))), (6, (.pointer (some ⟨b12, 0, none⟩))), (9, (.int .i64 i108))]) ⟨rfl, rfl, rfl, rfl, rfl, trivial⟩; refine e_blk ?_; refine e_then ?_; refine wp_region_lit ?_; obtain ⟨hI238, hF⟩ := ck_some hF; refine op_g ha rfl (g_add rfl rfl hI238) ?_; clear ha a; intro a ha; refine op_g ha rfl (g_move rfl) ?_; clear ha a; intro a ha; refine wpList_nil ?_; replace ha := ha.sub (σ' := [(0, (.pointer (some ⟨j1, 0, none⟩))), (1, (.int .i64 a1)), (5, (.pointer (some ⟨b2, 0, none⟩))), (6, (.pointer (some ⟨b12, 0, none⟩))), (9, (.int .i64 (i108 + 1)))]) ⟨rfl, rfl, rfl, rfl, rfl, trivial⟩
          refine e_lq ?_; obtain rfl := Option.some.inj hF
          exact ⟨_, Nat.lt_succ_self _, (if i108 = 0 then 0 else i100), (if i108 = 1 then 0 else i102), (if i108 = 2 then 0 else i104), i108 + 1, ha.sub ⟨rfl, rfl, rfl, rfl, rfl, trivial⟩, hE237, (InI.ite (show InI 0 from by decide) hI101), (InI.ite (show InI 0 from by decide) hI103), (InI.ite (show InI 0 from by decide) hI105), hI238, h97, hB235, z99, hB106, z107, q110, q111, q112, q113, q114, q115, hN200⟩
        replace hF := if_f hp230 hF; refine wp_skip ?_; refine e_blk ?_; refine e_then ?_; refine wp_region_lit ?_; obtain ⟨hI240, hF⟩ := ck_some hF; refine op_g ha rfl (g_add rfl rfl hI240) ?_; clear ha a; intro a ha; refine op_g ha rfl (g_move rfl) ?_; clear ha a; intro a ha; refine wpList_nil ?_; replace ha := ha.sub (σ' := [(0, (.pointer (some ⟨j1, 0, none⟩))), (1, (.int .i64 a1)), (5, (.pointer (some ⟨b2, 0, none⟩))), (6, (.pointer (some ⟨b12, 0, none⟩))), (9, (.int .i64 (i108 + 1)))]) ⟨rfl, rfl, rfl, rfl, rfl, trivial⟩; refine e_lq ?_; obtain rfl := Option.some.inj hF
        exact ⟨_, Nat.lt_succ_self _, i100, i102, i104, i108 + 1, ha.sub ⟨rfl, rfl, rfl, rfl, rfl, trivial⟩, hE229, hI101, hI103, hI105, hI240, h97, hB98, z99, hB106, z107, q110, q111, q112, q113, q114, q115, hN200⟩
      replace hF := if_f hp203 hF; refine wp_exit ?_; refine e_then_exit ?_; refine e_lq_eq ?_; obtain rfl := Option.some.inj hF
      exact ⟨i100, i102, i104, ha.sub ⟨rfl, rfl, rfl, rfl, trivial⟩, hE116, hI101, hI103, hI105, h97, hB98, z99, hB106, z107, q110, q111, q112, q113, q114, q115, (LK_inr hN200).symm⟩
  rintro a w176 ⟨i180, i182, i184, ha, hE199, hI181, hI183, hI185, h177, hB178, z179, hB186, z187, q188, q189, q190, q191, q192, q193, rfl⟩
  have hF : F_impl_judge_relevant_k2 a0 a1 a2_3 a2_4 i180 i182 i184 = some _ := hK196; clear hK196; unfold F_impl_judge_relevant_k2 at hF
  refine e_then ?_; refine wp_seq ?_; refine wp_seq ?_; refine wp_region_lit ?_; refine op_g ha rfl (g_move rfl) ?_; clear ha a; intro a ha; refine wpList_nil ?_; replace ha := ha.sub (σ' := [(0, (.pointer (some ⟨j1, 0, none⟩))), (1, (.int .i64 a1)), (5, (.pointer (some ⟨b2, 0, none⟩))), (6, (.pointer (some ⟨b12, 0, none⟩))), (26, (.int .i64 0))]) ⟨rfl, rfl, rfl, rfl, rfl, trivial⟩; refine e_then ?_; obtain ⟨o400, ho401, hK402⟩ := bnd_some hF
  obtain ⟨n403, hn404⟩ := lp_some ho401; clear ho401
  refine c_loop (fun a w => ∃ (u389 : BitVec 32) (u390 : BitVec 32), Fr 45 [(5, (.pointer (some ⟨b2, 0, none⟩))), (6, (.pointer (some ⟨b12, 0, none⟩)))] a ∧ Chg (bl ba0) W w ∧ Bx w b2 [(.int .i64 i180), (.int .i64 i182), (.int .i64 i184), (.int .u32 (BitVec.toNat u389 : Int)), (.int .u32 (BitVec.toNat u390 : Int))] 59 ∧ Zn W (b2 : Int) ∧ Bx w b12 [(.int .i64 0), (.int .i64 0), (.int .i64 0), (.int .u32 (BitVec.toNat (0#32) : Int)), (.int .u32 (BitVec.toNat (0#32) : Int))] 59 ∧ Zn W (b12 : Int) ∧ Jd Try.prog 82 97 φ w fa0 ba0 (.pointer (some ⟨j1, 0, none⟩)) a0 ∧ Nq ([b2]) (b12 : Int) ∧ Nq ([b2]) ba0 ∧ Nq ([b12]) (b2 : Int) ∧ Nq ([b12]) ba0 ∧ Nq (bl ba0 ++ fa0) (b2 : Int) ∧ Nq (bl ba0 ++ fa0) (b12 : Int) ∧ o400 = .inl (u389, u390)) (fun n a w => ∃ (u316 : BitVec 32) (u317 : BitVec 32) (i320 : Int), Fr 45 [(0, (.pointer (some ⟨j1, 0, none⟩))), (1, (.int .i64 a1)), (5, (.pointer (some ⟨b2, 0, none⟩))), (6, (.pointer (some ⟨b12, 0, none⟩))), (26, (.int .i64 i320))] a ∧ Chg (bl ba0) W w ∧ InI i320 ∧ Jd Try.prog 82 97 φ w fa0 ba0 (.pointer (some ⟨j1, 0, none⟩)) a0 ∧ Bx w b2 [(.int .i64 i180), (.int .i64 i182), (.int .i64 i184), (.int .u32 (BitVec.toNat u316 : Int)), (.int .u32 (BitVec.toNat u317 : Int))] 59 ∧ Zn W (b2 : Int) ∧ Bx w b12 [(.int .i64 0), (.int .i64 0), (.int .i64 0), (.int .u32 (BitVec.toNat (0#32) : Int)), (.int .u32 (BitVec.toNat (0#32) : Int))] 59 ∧ Zn W (b12 : Int) ∧ Nq (bl ba0 ++ fa0) (b2 : Int) ∧ Nq (bl ba0 ++ fa0) (b12 : Int) ∧ Nq ([b2]) ba0 ∧ Nq ([b2]) (b12 : Int) ∧ Nq ([b12]) ba0 ∧ Nq ([b12]) (b2 : Int) ∧ lpN (fun s => F_impl_judge_relevant_l3 a0 a1 s.1 s.2.1 s.2.2) n (u316, u317, i320) = some o400) n403 ⟨a2_3, a2_4, 0, ha.sub ⟨rfl, rfl, rfl, rfl, rfl, trivial⟩, hE199, (show InI 0 from by decide), h177, hB178, z179, hB186, z187, q188, q189, q190, q191, q192, q193, hn404⟩ ?_ ?_
  · rintro m408 a w312 ⟨u316, u317, i320, ha, hE328, hI321, h313, hB314, z315, hB318, z319, q322, q323, q324, q325, q326, q327, hF⟩
    cases m408 with
    | zero => exact (lpN_zero hF).elim
    | succ m408 =>
      obtain ⟨z407, hF, hN406⟩ := lpN_succ hF
      have hF : F_impl_judge_relevant_l3 a0 a1 u316 u317 i320 = some z407 := hF; unfold F_impl_judge_relevant_l3 at hF
      refine wp_seq ?_; refine wp_region_lit ?_; refine op_g ha rfl (g_lss rfl rfl) ?_; clear ha a; intro a ha; refine wpList_nil ?_; replace ha := ha.sub (σ' := [(0, (.pointer (some ⟨j1, 0, none⟩))), (1, (.int .i64 a1)), (5, (.pointer (some ⟨b2, 0, none⟩))), (6, (.pointer (some ⟨b12, 0, none⟩))), (26, (.int .i64 i320)), (27, (.bool (decide (i320 < 2))))]) ⟨rfl, rfl, rfl, rfl, rfl, rfl, trivial⟩; refine e_then ?_; refine wp_seq ?_; refine c_cond (i320 < 2) ha rfl (decide_eq_true_iff) (fun hp409 => ?_) (fun hp409 => ?_)
      · replace hF := if_t hp409 hF
        refine wp_skip ?_; refine e_then ?_; refine wp_seq ?_; refine wp_block ?_; refine wp_seq ?_; refine wp_region_lit ?_; refine op_g ha rfl (g_move rfl) ?_; clear ha a; intro a ha; refine op_g ha rfl (g_assign rfl) ?_; clear ha a; intro a ha; refine wpList_nil ?_; replace ha := ha.sub (σ' := [(0, (.pointer (some ⟨j1, 0, none⟩))), (1, (.int .i64 a1)), (5, (.pointer (some ⟨b2, 0, none⟩))), (6, (.pointer (some ⟨b12, 0, none⟩))), (8, (.int .i64 i320)), (26, (.int .i64 i320))]) ⟨rfl, rfl, rfl, rfl, rfl, rfl, trivial⟩; refine e_then ?_; refine wp_seq ?_; refine wp_region_lit ?_; refine op_g ha rfl (g_move rfl) ?_; clear ha a; intro a ha
        refine op_g ha rfl (g_nilCheck rfl) ?_; clear ha a; intro a ha; refine op_g ha rfl (g_field0 st82_2 rfl) ?_; clear ha a; intro a ha
        obtain ⟨u410, f411, h412, hc413, q414, hs415⟩ := h313.get2
        have q417 := Nq.mono q322 hs415
        have q418 := Nq.mono q323 hs415
        refine op_g ha rfl (g_load Try.isAgg74 rfl hc413) ?_; clear ha a; intro a ha; refine op_g ha rfl (g_move rfl) ?_; clear ha a; intro a ha; obtain ⟨x419, g420, gx421, hF⟩ := idx_some hF
        obtain ⟨p422, cs423, f424, hf425, hpb426, hat427, hr428, hi429⟩ := h412.at g420 gx421
        obtain ⟨rfl, rfl⟩ := hr428
        refine op_g ha rfl (hi429.gives sl74 rfl rfl) ?_; clear ha a; intro a ha; refine op_g ha rfl (g_load Try.isAgg56 rfl hat427.one) ?_; clear ha a; intro a ha; refine op_g ha rfl (g_move rfl) ?_; clear ha a; intro a ha; obtain ⟨hI430, hF⟩ := ck_some hF; refine op_g ha rfl (g_add rfl rfl hI430) ?_; clear ha a; intro a ha; obtain ⟨x432, hc433, hF⟩ := cal_some hF
        refine o_call ha rfl rfl Try.call66 (W_impl_vset_has hI430 hc433) ?_; clear ha a; rintro v434 w435 ⟨rfl, hx436⟩ a ha
        replace h313 := h313.ext hx436
        replace hB314 := hB314.ext hx436
        replace hB318 := hB318.ext hx436
        replace h412 := h412.ext hx436
        have hE437 := Chg.more hE328 hx436
        refine op_g ha rfl (g_not rfl) ?_; clear ha a; intro a ha; refine wpList_nil ?_; replace ha := ha.sub (σ' := [(0, (.pointer (some ⟨j1, 0, none⟩))), (1, (.int .i64 a1)), (5, (.pointer (some ⟨b2, 0, none⟩))), (6, (.pointer (some ⟨b12, 0, none⟩))), (8, (.int .i64 i320)), (26, (.int .i64 i320)), (39, (.bool (!x432)))]) ⟨rfl, rfl, rfl, rfl, rfl, rfl, rfl, trivial⟩; refine e_then ?_; refine c_cond (¬ (x432 = true)) ha rfl (n_iff (Iff.rfl)) (fun hp438 => ?_) (fun hp438 => ?_)
        · replace hF := if_t hp438 hF
          refine wp_region_lit ?_; refine op_g ha rfl (g_move rfl) ?_; clear ha a; intro a ha; refine op_g ha rfl (g_field0 st59_1 rfl) ?_; clear ha a; intro a ha; obtain ⟨x439, g440, gx441, hF⟩ := idx_some hF; refine op_g ha rfl (g_idxBx un57 Try.sizeOf56 rfl rfl g440 (idx_lt g440 gx441 rfl)) ?_; clear ha a; intro a ha
          refine o_storeB ha hB314 Try.sizeOf56 rfl rfl rfl rfl (bxi_lt (pre := [(.int .i64 i180), (.int .i64 i182), (.int .i64 i184)]) (post := []) (fun x : BitVec 32 => Value.int .u32 (BitVec.toNat x : Int)) gx441) ?_; intro w442 hB443 hc444
          replace hc444 := hc444.bl
          replace hB443 : Bx w442 b2 [(.int .i64 i180), (.int .i64 i182), (.int .i64 i184), (.int .u32 (BitVec.toNat (if i320 = 0 then 0#32 else u316) : Int)), (.int .u32 (BitVec.toNat (if i320 = 1 then 0#32 else u317) : Int))] 59 := Bx.eq (bxi_set2 (pre := [(.int .i64 i180), (.int .i64 i182), (.int .i64 i184)]) (post := []) (fun x : BitVec 32 => Value.int .u32 (BitVec.toNat x : Int)) g440 gx441) hB443
          replace h313 := h313.nq hc444 q322
          replace hB318 := hB318.nq hc444 q327
          have hE445 := Chg.own hE437 hc444 (Zn.bl z315)
          refine wpList_nil ?_; replace ha := ha.sub (σ' := [(0, (.pointer (some ⟨j1, 0, none⟩))), (1, (.int .i64 a1)), (5, (.pointer (some ⟨b2, 0, none⟩))), (6, (.pointer (some ⟨b12, 0, none⟩))), (26, (.int .i64 i320))]) ⟨rfl, rfl, rfl, rfl, rfl, trivial⟩; refine e_blk ?_; refine e_then ?_; refine wp_region_lit ?_; obtain ⟨hI446, hF⟩ := ck_some hF; refine op_g ha rfl (g_add rfl rfl hI446) ?_; clear ha a; intro a ha; refine op_g ha rfl (g_move rfl) ?_; clear ha a; intro a ha; refine wpList_nil ?_; replace ha := ha.sub (σ' := [(0, (.pointer (some ⟨j1, 0, none⟩))), (1, (.int .i64 a1)), (5, (.pointer (some ⟨b2, 0, none⟩))), (6, (.pointer (some ⟨b12, 0, none⟩))), (26, (.int .i64 (i320 + 1)))]) ⟨rfl, rfl, rfl, rfl, rfl, trivial⟩
          refine e_lq ?_; obtain rfl := Option.some.inj hF
          exact ⟨_, Nat.lt_succ_self _, (if i320 = 0 then 0#32 else u316), (if i320 = 1 then 0#32 else u317), i320 + 1, ha.sub ⟨rfl, rfl, rfl, rfl, rfl, trivial⟩, hE445, hI446, h313, hB443, z315, hB318, z319, q322, q323, q324, q325, q326, q327, hN406⟩
        replace hF := if_f hp438 hF; refine wp_skip ?_; refine e_blk ?_; refine e_then ?_; refine wp_region_lit ?_; obtain ⟨hI448, hF⟩ := ck_some hF; refine op_g ha rfl (g_add rfl rfl hI448) ?_; clear ha a; intro a ha; refine op_g ha rfl (g_move rfl) ?_; clear ha a; intro a ha; refine wpList_nil ?_; replace ha := ha.sub (σ' := [(0, (.pointer (some ⟨j1, 0, none⟩))), (1, (.int .i64 a1)), (5, (.pointer (some ⟨b2, 0, none⟩))), (6, (.pointer (some ⟨b12, 0, none⟩))), (26, (.int .i64 (i320 + 1)))]) ⟨rfl, rfl, rfl, rfl, rfl, trivial⟩; refine e_lq ?_; obtain rfl := Option.some.inj hF
        exact ⟨_, Nat.lt_succ_self _, u316, u317, i320 + 1, ha.sub ⟨rfl, rfl, rfl, rfl, rfl, trivial⟩, hE437, hI448, h313, hB314, z315, hB318, z319, q322, q323, q324, q325, q326, q327, hN406⟩
      replace hF := if_f hp409 hF; refine wp_exit ?_; refine e_then_exit ?_; refine e_lq_eq ?_; obtain rfl := Option.some.inj hF
      exact ⟨u316, u317, ha.sub ⟨rfl, rfl, trivial⟩, hE328, hB314, z315, hB318, z319, h313, q325, q324, q327, q326, q322, q323, (LK_inr hN406).symm⟩
  rintro a w386 ⟨u389, u390, ha, hE405, hB387, z388, hB391, z392, h393, q394, q395, q396, q397, q398, q399, rfl⟩
  have hF : F_impl_judge_relevant_k4 a0 i180 i182 i184 u389 u390 = some _ := hK402; clear hK402; unfold F_impl_judge_relevant_k4 at hF
  refine e_then ?_; refine wp_seq ?_; refine wp_region_lit ?_; refine op_g ha rfl (g_loadA (cs := [(.int .i64 i180), (.int .i64 i182), (.int .i64 i184), (.int .u32 (BitVec.toNat u389 : Int)), (.int .u32 (BitVec.toNat u390 : Int))]) Try.isAgg59 Try.sizeOf59 rfl (by simp) hB387.all) ?_; clear ha a; intro a ha
  refine o_storeA (vs := [(.int .i64 i180), (.int .i64 i182), (.int .i64 i184), (.int .u32 (BitVec.toNat u389 : Int)), (.int .u32 (BitVec.toNat u390 : Int))]) ha hB391 Try.sizeOf59 rfl rfl (by intro c hc; simp only [List.mem_cons, List.not_mem_nil, or_false] at hc; rcases hc with hc | hc | hc | hc | hc <;> subst hc <;> first | rfl | exact rfl | exact rfl | exact rfl | exact rfl | exact rfl) rfl ?_; intro w450 hB451 hc452
  replace hc452 := hc452.bl
  replace hB451 : Bx w450 b12 [(.int .i64 i180), (.int .i64 i182), (.int .i64 i184), (.int .u32 (BitVec.toNat u389 : Int)), (.int .u32 (BitVec.toNat u390 : Int))] 59 := hB451
  replace hB387 := hB387.nq hc452 q394
  replace h393 := h393.nq hc452 q399
  have hE453 := Chg.own hE405 hc452 (Zn.bl z392)
  refine wpList_nil ?_; replace ha := ha.sub (σ' := [(6, (.pointer (some ⟨b12, 0, none⟩)))]) ⟨rfl, trivial⟩; refine e_then ?_; refine wp_ret ?_; obtain rfl := Option.some.inj hF
  exact f_retC (cs := [(.int .i64 i180), (.int .i64 i182), (.int .i64 i184), (.int .u32 (BitVec.toNat u389 : Int)), (.int .u32 (BitVec.toNat u390 : Int))]) ha rfl rfl Try.isAgg59 Try.sizeOf59 hB451 ⟨_, _, _, _, _, rfl, ⟨rfl, hI181⟩, ⟨rfl, hI183⟩, ⟨rfl, hI185⟩, rfl, rfl, h393, hE453⟩
set_option maxHeartbeats 2000000 in
theorem W_impl_judge_holds {φ : Value → Value → Prop} {rc : JD → Int → Int → Int → Int → (BitVec 32) → (BitVec 32) → Option (Bool × JD)} (ih : ∀ {W : World} {va0 : Value} {ba0 : Int} {fa0 : List Nat} {a0 : JD} (ha0 : Jd Try.prog 82 97 φ W fa0 ba0 va0 a0) {a1 : Int} (ha1 : InI a1) {a2_0 : Int} (ha2_0 : InI a2_0) {a2_1 : Int} (ha2_1 : InI a2_1) {a2_2 : Int} (ha2_2 : InI a2_2) {a2_3 : BitVec 32} {a2_4 : BitVec 32} {r : (Bool × JD)}, rc a0 a1 a2_0 a2_1 a2_2 a2_3 a2_4 = some r →
    Calls Try.prog 44 [va0, .int .i64 a1, .agg #[.int .i64 a2_0, .int .i64 a2_1, .int .i64 a2_2, .int .u32 (BitVec.toNat a2_3 : Int), .int .u32 (BitVec.toNat a2_4 : Int)]].toArray W (Ret fun u w' => u = .bool r.1 ∧ Jd Try.prog 82 97 φ w' fa0 ba0 va0 r.2 ∧ Chg (bl ba0) W w')) (KJ : WideMaps.KeyLaw Try.prog 97) (hU : ∀ key v v', φ key v → φ key v' → v = v') (hK : ∀ {n a b c : Int}, InI n → InI a → InI b → InI c → ∀ (s t : BitVec 32), ∃ kl, keyOf Try.prog 97 (.agg #[.int .i64 n, .int .i64 a, .int .i64 b, .int .i64 c, .int .u32 (BitVec.toNat s : Int), .int .u32 (BitVec.toNat t : Int)]) = some kl) {W : World} {va0 : Value} {ba0 : Int} {fa0 : List Nat} {a0 : JD} (ha0 : Jd Try.prog 82 97 φ W fa0 ba0 va0 a0) {a1 : Int} (ha1 : InI a1) {a2_0 : Int} (ha2_0 : InI a2_0) {a2_1 : Int} (ha2_1 : InI a2_1) {a2_2 : Int} (ha2_2 : InI a2_2) {a2_3 : BitVec 32} {a2_4 : BitVec 32} (hM1 : ∀ {q fact v}, F_impl_judge_relevant a0 a1 a2_0 a2_1 a2_2 a2_3 a2_4 = some q → a0.2.1[a1.toNat]? = some fact → φ (.agg #[.int .i64 a1, .int .i64 q.1.1, .int .i64 q.1.2.1, .int .i64 q.1.2.2.1, .int .u32 (BitVec.toNat q.1.2.2.2.1 : Int), .int .u32 (BitVec.toNat q.1.2.2.2.2 : Int)]) v → ∃ yb, F_impl_judge_direct rc q.2 fact.1 fact.2.1 fact.2.2 q.1.1 q.1.2.1 q.1.2.2.1 q.1.2.2.2.1 q.1.2.2.2.2 = some (yb, q.2) ∧ v = .bool yb) (hM2 : ∀ {q fact y}, F_impl_judge_relevant a0 a1 a2_0 a2_1 a2_2 a2_3 a2_4 = some q → a0.2.1[a1.toNat]? = some fact → F_impl_judge_direct rc q.2 fact.1 fact.2.1 fact.2.2 q.1.1 q.1.2.1 q.1.2.2.1 q.1.2.2.2.1 q.1.2.2.2.2 = some y → φ (.agg #[.int .i64 a1, .int .i64 q.1.1, .int .i64 q.1.2.1, .int .i64 q.1.2.2.1, .int .u32 (BitVec.toNat q.1.2.2.2.1 : Int), .int .u32 (BitVec.toNat q.1.2.2.2.2 : Int)]) (.bool y.1))  {r : (Bool × JD)} (hF : F_impl_judge_holds rc a0 a1 a2_0 a2_1 a2_2 a2_3 a2_4 = some r) :
    Calls Try.prog 44 [va0, .int .i64 a1, .agg #[.int .i64 a2_0, .int .i64 a2_1, .int .i64 a2_2, .int .u32 (BitVec.toNat a2_3 : Int), .int .u32 (BitVec.toNat a2_4 : Int)]].toArray W (Ret fun u w' => u = .bool r.1 ∧ Jd Try.prog 82 97 φ w' fa0 ba0 va0 r.2 ∧ Chg (bl ba0) W w') := by
  have dlta0 := ha0.fpb
  obtain ⟨j1, rfl⟩ := ha0.ptr
  refine f_enter Try.func44 rfl Try.ntmps44 rfl ?_
  intro a ha
  replace ha : Fr 70 [(0, (.pointer (some ⟨j1, 0, none⟩))), (1, (.int .i64 a1)), (2, (.agg #[(.int .i64 a2_0), (.int .i64 a2_1), (.int .i64 a2_2), (.int .u32 (BitVec.toNat a2_3 : Int)), (.int .u32 (BitVec.toNat a2_4 : Int))]))] a := ha
  have hE : Chg (bl ba0) W W := Chg.refl _ _
  unfold F_impl_judge_holds at hF
  refine wp_seq ?_; refine wp_region_lit ?_
  refine o_box ha rfl rfl rfl ?_; clear ha a; intro b2 w3 hB4 hx5 hlo6 a ha
  have q7 := Zn.one hlo6
  have q8 := Nq.new ha0.fpb q7
  have q9 := Nq.made1 hlo6 ha0.blt
  have q10 := Zn.upD q7 hE
  replace ha0 := ha0.ext hx5
  have hE11 := Chg.more hE hx5
  refine op_g ha rfl (g_assign rfl) ?_; clear ha a; intro a ha; refine wpList_nil ?_; replace ha := ha.sub (σ' := [(0, (.pointer (some ⟨j1, 0, none⟩))), (1, (.int .i64 a1)), (5, (.pointer (some ⟨b2, 0, none⟩)))]) ⟨rfl, rfl, rfl, trivial⟩; refine e_then ?_; refine wp_seq ?_; refine wp_region_lit ?_; refine op_g ha rfl (g_move rfl) ?_; clear ha a; intro a ha; refine op_g ha rfl (g_nilCheck rfl) ?_; clear ha a; intro a ha; refine op_g ha rfl (g_field0 st82_1 rfl) ?_; clear ha a; intro a ha; refine op_g ha rfl (g_field0 st35_0 rfl) ?_; clear ha a; intro a ha
  obtain ⟨u12, f13, h14, hc15, q16, hs17⟩ := ha0.get1
  have q19 := Nq.mono q8 hs17
  refine op_g ha rfl (g_load Try.isAgg33 rfl hc15) ?_; clear ha a; intro a ha; refine op_g ha rfl (g_move rfl) ?_; clear ha a; intro a ha; obtain ⟨x20, g21, gx22, hF⟩ := idx_some hF
  obtain ⟨p23, cs24, f25, hf26, hpb27, hat28, hr29, hi30⟩ := h14.at g21 gx22
  obtain ⟨f31, f32, c33, c34, rfl, rfl, h35, h36⟩ := hr29
  obtain ⟨rfl, hI39, rfl⟩ := h35
  obtain ⟨f40, f41, c42, c43, rfl, rfl, h44, h45⟩ := h36
  obtain ⟨rfl, hI48, rfl⟩ := h44
  obtain ⟨rfl, hI49, rfl⟩ := h45
  refine op_g ha rfl (hi30.gives sl33 rfl rfl) ?_; clear ha a; intro a ha; refine op_g ha rfl (g_loadA (cs := [(.int .i64 x20.1), (.int .i64 x20.2.1), (.int .i64 x20.2.2)]) Try.isAgg71 Try.sizeOf71 rfl (by simp) hat28) ?_; clear ha a; intro a ha
  refine o_alloc (cs := [(.int .i64 0), (.int .i64 0), (.int .i64 0)]) ha rfl Try.zeroValue71 rfl ?_; clear ha a; intro b50 w51 hB52 hx53 hlo54 a ha
  have q55 := Zn.one hlo54
  have q56 := Nq.new ha0.fpb q55
  have q57 := Nq.made1 hlo54 ha0.blt
  have q58 := Nq.new hB4.fpb q55
  have q59 := Nq.made1 hlo54 hB4.bi
  have q60 := Nq.new h14.bnd q55
  have q61 := Zn.upD q55 hE11
  replace ha0 := ha0.ext hx53
  replace hB4 := hB4.ext hx53
  replace h14 := h14.ext hx53
  have hE62 := Chg.more hE11 hx53
  refine o_storeA (vs := [(.int .i64 x20.1), (.int .i64 x20.2.1), (.int .i64 x20.2.2)]) ha hB52 Try.sizeOf71 rfl rfl (by intro c hc; simp only [List.mem_cons, List.not_mem_nil, or_false] at hc; rcases hc with hc | hc | hc <;> subst hc <;> first | rfl | exact rfl | exact rfl | exact rfl) rfl ?_; intro w63 hB64 hc65
  replace hc65 := hc65.bl
  replace hB64 : Bx w63 b50 [(.int .i64 x20.1), (.int .i64 x20.2.1), (.int .i64 x20.2.2)] 71 := hB64
  replace ha0 := ha0.nq hc65 q56
  replace hB4 := hB4.nq hc65 q58
  replace h14 := h14.nq hc65 q60
  have hE66 := Chg.own hE62 hc65 (Zn.bl q61)
  refine wpList_nil ?_; replace ha := ha.sub (σ' := [(0, (.pointer (some ⟨j1, 0, none⟩))), (1, (.int .i64 a1)), (5, (.pointer (some ⟨b2, 0, none⟩))), (7, (.pointer (some ⟨b50, 0, none⟩)))]) ⟨rfl, rfl, rfl, rfl, trivial⟩; refine e_then ?_; obtain ⟨o97, ho98, hK99⟩ := bnd_some hF
  have hF := ho98; clear ho98
  refine s_cut (fun a w => Fr 70 [(0, (.pointer (some ⟨j1, 0, none⟩))), (1, (.int .i64 a1)), (5, (.pointer (some ⟨b2, 0, none⟩))), (7, (.pointer (some ⟨b50, 0, none⟩)))] a ∧ Chg (bl ba0) W w ∧ Jd Try.prog 82 97 φ w fa0 ba0 (.pointer (some ⟨j1, 0, none⟩)) a0 ∧ Bx w b2 [(.int .i64 a2_0), (.int .i64 a2_1), (.int .i64 a2_2), (.int .u32 (BitVec.toNat a2_3 : Int)), (.int .u32 (BitVec.toNat a2_4 : Int))] 59 ∧ Zn W (b2 : Int) ∧ Bx w b50 [(.int .i64 x20.1), (.int .i64 x20.2.1), (.int .i64 x20.2.2)] 71 ∧ Zn W (b50 : Int) ∧ Nq (bl ba0 ++ fa0) (b2 : Int) ∧ Nq (bl ba0 ++ fa0) (b50 : Int) ∧ Nq ([b2]) ba0 ∧ Nq ([b2]) (b50 : Int) ∧ Nq ([b50]) ba0 ∧ Nq ([b50]) (b2 : Int) ∧ o97 = .inl ()) ?_ ?_
  · skip
    refine wp_seq ?_; refine wp_region_lit ?_; refine op_g ha rfl (g_field0 st71_0 rfl) ?_; clear ha a; intro a ha; refine op_g ha rfl (g_load Try.isAgg2 rfl (hB64.cell rfl)) ?_; clear ha a; intro a ha; refine op_g ha rfl (g_neq rfl rfl) ?_; clear ha a; intro a ha; refine op_g ha rfl (g_move rfl) ?_; clear ha a; intro a ha
    by_cases hp113 : x20.1 ≠ 7
    · replace hF := if_t hp113 hF
      rw [show (decide (x20.1 ≠ 7)) = true from (decide_eq_true_iff).2 hp113] at ha
      refine op_want (yields ha rfl rfl) ?_; refine op_g ha rfl (g_field0 st71_0 rfl) ?_; clear ha a; intro a ha; refine op_want (yields ha rfl rfl) ?_; refine op_g ha rfl (g_load Try.isAgg2 rfl (hB64.cell rfl)) ?_; clear ha a; intro a ha; refine op_want (yields ha rfl rfl) ?_; refine op_g ha rfl (g_neq rfl rfl) ?_; clear ha a; intro a ha; refine op_g ha rfl (g_pick rfl rfl) ?_; clear ha a; intro a ha; refine op_g ha rfl (g_move rfl) ?_; clear ha a; intro a ha
      by_cases hp114 : x20.1 ≠ 8
      · replace hF := if_t hp114 hF
        rw [show (decide (x20.1 ≠ 8)) = true from (decide_eq_true_iff).2 hp114] at ha
        refine op_want (yields ha rfl rfl) ?_; refine op_g ha rfl (g_move rfl) ?_; clear ha a; intro a ha; refine op_want (yields ha rfl rfl) ?_; refine op_g ha rfl (g_nilCheck rfl) ?_; clear ha a; intro a ha; refine op_want (yields ha rfl rfl) ?_; refine op_g ha rfl (g_field0 st82_3 rfl) ?_; clear ha a; intro a ha; refine op_want (yields ha rfl rfl) ?_
        obtain ⟨u115, f116, h117, hc118, q119, hs120⟩ := ha0.get3
        have q122 := Nq.mono q8 hs120
        have q123 := Nq.mono q56 hs120
        refine op_g ha rfl (g_load Try.isAgg78 rfl hc118) ?_; clear ha a; intro a ha; refine op_want (yields ha rfl rfl) ?_; refine op_g ha rfl (g_move rfl) ?_; clear ha a; intro a ha; refine op_want (yields ha rfl rfl) ?_; obtain ⟨x124, g125, gx126, hF⟩ := idx_some hF
        obtain ⟨p127, cs128, f129, hf130, hpb131, hat132, hr133, hi134⟩ := h117.at g125 gx126
        obtain ⟨rfl, rfl⟩ := hr133
        refine op_g ha rfl (hi134.gives sl78 rfl rfl) ?_; clear ha a; intro a ha; refine op_want (yields ha rfl rfl) ?_; refine op_g ha rfl (g_load Try.isAgg4 rfl hat132.one) ?_; clear ha a; intro a ha; refine op_want (yields ha rfl rfl) ?_; refine op_g ha rfl (g_not rfl) ?_; clear ha a; intro a ha; refine op_g ha rfl (g_pick rfl rfl) ?_; clear ha a; intro a ha; refine wpList_nil ?_; replace ha := ha.sub (σ' := [(0, (.pointer (some ⟨j1, 0, none⟩))), (1, (.int .i64 a1)), (5, (.pointer (some ⟨b2, 0, none⟩))), (7, (.pointer (some ⟨b50, 0, none⟩))), (36, (.bool (!x124)))]) ⟨rfl, rfl, rfl, rfl, rfl, trivial⟩
        refine e_then ?_; refine c_cond (¬ (x124 = true)) ha rfl (n_iff (Iff.rfl)) (fun hp135 => ?_) (fun hp135 => ?_)
        · replace hF := if_t hp135 hF
          refine wp_seq ?_; refine wp_region_lit ?_; refine op_g ha rfl (g_move rfl) ?_; clear ha a; intro a ha; refine op_g ha rfl (g_loadA (cs := [(.int .i64 x20.1), (.int .i64 x20.2.1), (.int .i64 x20.2.2)]) Try.isAgg71 Try.sizeOf71 rfl (by simp) hB64.all) ?_; clear ha a; intro a ha; refine op_g ha rfl (g_loadA (cs := [(.int .i64 a2_0), (.int .i64 a2_1), (.int .i64 a2_2), (.int .u32 (BitVec.toNat a2_3 : Int)), (.int .u32 (BitVec.toNat a2_4 : Int))]) Try.isAgg59 Try.sizeOf59 rfl (by simp) hB4.all) ?_; clear ha a; intro a ha; obtain ⟨x136, hc137, hF⟩ := cal_some hF
          refine o_call ha rfl rfl Try.call57 (W_impl_judge_direct @ih ha0 hI39 hI48 hI49 ha2_0 ha2_1 ha2_2 hc137) ?_; clear ha a; rintro v138 w139 ⟨rfl, h141, hx140⟩ a ha
          replace hB4 := hB4.nq hx140 q9
          replace hB64 := hB64.nq hx140 q57
          have hE142 := Chg.same hE66 hx140
          refine op_g ha rfl (g_assign rfl) ?_; clear ha a; intro a ha; refine wpList_nil ?_; replace ha := ha.sub (σ' := [(6, (.bool x136.1))]) ⟨rfl, trivial⟩; refine e_then ?_; refine wp_ret ?_; refine e_sq_ret ?_; obtain rfl := Option.some.inj hF
          have e143 := BK_inr hK99; subst e143
          exact f_ret1 ha rfl rfl ⟨rfl, h141, hE142⟩
        replace hF := if_f hp135 hF; refine wp_skip ?_; refine e_sq ?_; obtain rfl := Option.some.inj hF
        exact ⟨ha.sub ⟨rfl, rfl, rfl, rfl, trivial⟩, hE66, ha0, hB4, q10, hB64, q61, q8, q56, q9, q58, q57, q59, rfl⟩
      replace hF := if_f hp114 hF
      rw [show (decide (x20.1 ≠ 8)) = false from b_false (decide_eq_true_iff) hp114] at ha
      (iterate 8 refine op_unwant ha rfl (yields ha rfl rfl) rfl ?_; clear ha a; intro a ha); refine op_g ha rfl (g_pick rfl rfl) ?_; clear ha a; intro a ha; refine wpList_nil ?_; replace ha := ha.sub (σ' := [(0, (.pointer (some ⟨j1, 0, none⟩))), (1, (.int .i64 a1)), (5, (.pointer (some ⟨b2, 0, none⟩))), (7, (.pointer (some ⟨b50, 0, none⟩))), (36, (.bool false))]) ⟨rfl, rfl, rfl, rfl, rfl, trivial⟩; refine e_then ?_; refine c_false ha rfl ?_; refine wp_skip ?_; refine e_sq ?_; obtain rfl := Option.some.inj hF
      exact ⟨ha.sub ⟨rfl, rfl, rfl, rfl, trivial⟩, hE66, ha0, hB4, q10, hB64, q61, q8, q56, q9, q58, q57, q59, rfl⟩
    replace hF := if_f hp113 hF
    rw [show (decide (x20.1 ≠ 7)) = false from b_false (decide_eq_true_iff) hp113] at ha
    (iterate 3 refine op_unwant ha rfl (yields ha rfl rfl) rfl ?_; clear ha a; intro a ha); refine op_g ha rfl (g_pick rfl rfl) ?_; clear ha a; intro a ha; refine op_g ha rfl (g_move rfl) ?_; clear ha a; intro a ha; (iterate 8 refine op_unwant ha rfl (yields ha rfl rfl) rfl ?_; clear ha a; intro a ha); refine op_g ha rfl (g_pick rfl rfl) ?_; clear ha a; intro a ha; refine wpList_nil ?_; replace ha := ha.sub (σ' := [(0, (.pointer (some ⟨j1, 0, none⟩))), (1, (.int .i64 a1)), (5, (.pointer (some ⟨b2, 0, none⟩))), (7, (.pointer (some ⟨b50, 0, none⟩))), (36, (.bool false))]) ⟨rfl, rfl, rfl, rfl, rfl, trivial⟩
    refine e_then ?_; refine c_false ha rfl ?_; refine wp_skip ?_; refine e_sq ?_; obtain rfl := Option.some.inj hF
    exact ⟨ha.sub ⟨rfl, rfl, rfl, rfl, trivial⟩, hE66, ha0, hB4, q10, hB64, q61, q8, q56, q9, q58, q57, q59, rfl⟩
  rintro a w100 ⟨ha, hE112, h101, hB102, z103, hB104, z105, q106, q107, q108, q109, q110, q111, rfl⟩
  have hF : F_impl_judge_holds_k1 a0 a1 a2_0 a2_1 a2_2 a2_3 a2_4 rc x20 = some _ := hK99; clear hK99; unfold F_impl_judge_holds_k1 at hF
  refine wp_seq ?_; refine wp_region_lit ?_; (iterate 3 refine op_g ha rfl (g_move rfl) ?_; clear ha a; intro a ha); refine op_g ha rfl (g_loadA (cs := [(.int .i64 a2_0), (.int .i64 a2_1), (.int .i64 a2_2), (.int .u32 (BitVec.toNat a2_3 : Int)), (.int .u32 (BitVec.toNat a2_4 : Int))]) Try.isAgg59 Try.sizeOf59 rfl (by simp) hB102.all) ?_; clear ha a; intro a ha; obtain ⟨x144, hc145, hF⟩ := cal_some hF
  refine o_call ha rfl rfl Try.call58 (W_impl_judge_relevant h101 ha1 ha2_0 ha2_1 ha2_2 hc145) ?_; clear ha a; rintro v146 w147 ⟨u149, u150, u151, u152, u153, rfl, ⟨rfl, hI154⟩, ⟨rfl, hI155⟩, ⟨rfl, hI156⟩, rfl, rfl, h157, hx148⟩ a ha
  replace hB102 := hB102.nq hx148 q108
  replace hB104 := hB104.nq hx148 q110
  have hE158 := Chg.same hE112 hx148
  refine op_g ha rfl (g_build (vs := [(0, (.int .i64 a1)), (1, (.agg #[(.int .i64 x144.1.1), (.int .i64 x144.1.2.1), (.int .i64 x144.1.2.2.1), (.int .u32 (BitVec.toNat x144.1.2.2.2.1 : Int)), (.int .u32 (BitVec.toNat x144.1.2.2.2.2 : Int))]))]) (cells := #[(.int .i64 a1), (.int .i64 x144.1.1), (.int .i64 x144.1.2.1), (.int .i64 x144.1.2.2.1), (.int .u32 (BitVec.toNat x144.1.2.2.2.1 : Int)), (.int .u32 (BitVec.toNat x144.1.2.2.2.2 : Int))]) rfl (by rfl)) ?_; clear ha a; intro a ha
  refine o_alloc (cs := [(.int .i64 0), (.int .i64 0), (.int .i64 0), (.int .i64 0), (.int .u32 (BitVec.toNat (0#32) : Int)), (.int .u32 (BitVec.toNat (0#32) : Int))]) ha rfl Try.zeroValue97 rfl ?_; clear ha a; intro b159 w160 hB161 hx162 hlo163 a ha
  have q164 := Zn.one hlo163
  have q165 := Nq.new h157.fpb q164
  have q166 := Nq.made1 hlo163 h157.blt
  have q167 := Nq.new hB102.fpb q164
  have q168 := Nq.made1 hlo163 hB102.bi
  have q169 := Nq.new hB104.fpb q164
  have q170 := Nq.made1 hlo163 hB104.bi
  have q171 := Zn.upD q164 hE158
  replace h157 := h157.ext hx162
  replace hB102 := hB102.ext hx162
  replace hB104 := hB104.ext hx162
  have hE172 := Chg.more hE158 hx162
  refine o_storeA (vs := [(.int .i64 a1), (.int .i64 x144.1.1), (.int .i64 x144.1.2.1), (.int .i64 x144.1.2.2.1), (.int .u32 (BitVec.toNat x144.1.2.2.2.1 : Int)), (.int .u32 (BitVec.toNat x144.1.2.2.2.2 : Int))]) ha hB161 Try.sizeOf97 rfl rfl (by intro c hc; simp only [List.mem_cons, List.not_mem_nil, or_false] at hc; rcases hc with hc | hc | hc | hc | hc | hc <;> subst hc <;> first | rfl | exact rfl | exact rfl | exact rfl | exact rfl | exact rfl | exact rfl) rfl ?_; intro w173 hB174 hc175
  replace hc175 := hc175.bl
  replace hB174 : Bx w173 b159 [(.int .i64 a1), (.int .i64 x144.1.1), (.int .i64 x144.1.2.1), (.int .i64 x144.1.2.2.1), (.int .u32 (BitVec.toNat x144.1.2.2.2.1 : Int)), (.int .u32 (BitVec.toNat x144.1.2.2.2.2 : Int))] 97 := hB174
  replace h157 := h157.nq hc175 q165
  replace hB102 := hB102.nq hc175 q167
  replace hB104 := hB104.nq hc175 q169
  have hE176 := Chg.own hE172 hc175 (Zn.bl q171)
  refine wpList_nil ?_; replace ha := ha.sub (σ' := [(0, (.pointer (some ⟨j1, 0, none⟩))), (7, (.pointer (some ⟨b50, 0, none⟩))), (8, (.pointer (some ⟨b159, 0, none⟩)))]) ⟨rfl, rfl, rfl, trivial⟩; refine e_then ?_; refine wp_seq ?_; refine d_quiet hmix (by kernel_rfl) ?_; refine q_g ha rfl (g_move rfl) ?_; clear ha a; intro a ha; refine q_g ha rfl (g_nilCheck rfl) ?_; clear ha a; intro a ha; refine q_g ha rfl (g_field0 st82_4 rfl) ?_; clear ha a; intro a ha
  obtain ⟨m177, hb178, hc179, hM180⟩ := h157.map
  refine q_g ha rfl (g_load Try.isAgg80 rfl hc179) ?_; clear ha a; intro a ha; refine q_g ha rfl (g_loadA (cs := [(.int .i64 a1), (.int .i64 x144.1.1), (.int .i64 x144.1.2.1), (.int .i64 x144.1.2.2.1), (.int .u32 (BitVec.toNat x144.1.2.2.2.1 : Int)), (.int .u32 (BitVec.toNat x144.1.2.2.2.2 : Int))]) Try.isAgg97 Try.sizeOf97 rfl (by simp) hB174.all) ?_; clear ha a; intro a ha; obtain ⟨kl181, hkl182⟩ := (hK ha1 hI154 hI155 hI156 x144.1.2.2.2.1 x144.1.2.2.2.2)
  rcases Mq.look KJ un80 hM180 hU hkl182 Try.zeroValue4 with hno183 | ⟨vv184, hpv185, hyes186⟩
  · skip
    refine q_g ha rfl (g_lookup2 rfl rfl hno183) ?_; clear ha a; intro a ha; refine q_g ha rfl (g_move rfl) ?_; clear ha a; intro a ha; (iterate 2 refine q_g ha rfl (g_extract rfl rfl) ?_; clear ha a; intro a ha); (iterate 2 refine q_g ha rfl (g_assign rfl) ?_; clear ha a; intro a ha)
    refine q_nil ?_; intro w187 hx188
    replace h157 := h157.ext hx188
    replace hB104 := hB104.ext hx188
    replace hB174 := hB174.ext hx188
    have hE189 := Chg.more hE176 hx188
    replace ha := ha.sub (σ' := [(0, (.pointer (some ⟨j1, 0, none⟩))), (7, (.pointer (some ⟨b50, 0, none⟩))), (8, (.pointer (some ⟨b159, 0, none⟩))), (9, (.bool false)), (10, (.bool false))]) ⟨rfl, rfl, rfl, rfl, rfl, trivial⟩; refine e_then ?_; refine wp_seq ?_; refine wp_seq ?_; refine wp_region_lit ?_; refine op_g ha rfl (g_move rfl) ?_; clear ha a; intro a ha; refine op_g ha rfl (g_not rfl) ?_; clear ha a; intro a ha; refine wpList_nil ?_; replace ha := ha.sub (σ' := [(0, (.pointer (some ⟨j1, 0, none⟩))), (7, (.pointer (some ⟨b50, 0, none⟩))), (8, (.pointer (some ⟨b159, 0, none⟩))), (9, (.bool false)), (57, (.bool true))]) ⟨rfl, rfl, rfl, rfl, rfl, trivial⟩
    refine e_then ?_; refine c_true ha rfl ?_; refine wp_seq ?_; refine wp_region_lit ?_; refine op_g ha rfl (g_move rfl) ?_; clear ha a; intro a ha; refine op_g ha rfl (g_loadA (cs := [(.int .i64 x20.1), (.int .i64 x20.2.1), (.int .i64 x20.2.2)]) Try.isAgg71 Try.sizeOf71 rfl (by simp) hB104.all) ?_; clear ha a; intro a ha; refine op_g ha rfl (g_field0 st97_1 rfl) ?_; clear ha a; intro a ha; refine op_g ha rfl (g_loadA (cs := [(.int .i64 x144.1.1), (.int .i64 x144.1.2.1), (.int .i64 x144.1.2.2.1), (.int .u32 (BitVec.toNat x144.1.2.2.2.1 : Int)), (.int .u32 (BitVec.toNat x144.1.2.2.2.2 : Int))]) Try.isAgg59 Try.sizeOf59 rfl (by simp) (Bx.part (pre := [(.int .i64 a1)]) (post := []) hB174)) ?_; clear ha a; intro a ha
    obtain ⟨x190, hc191, hF⟩ := cal_some hF
    refine o_call ha rfl rfl Try.call57 (W_impl_judge_direct @ih h157 hI39 hI48 hI49 hI154 hI155 hI156 hc191) ?_; clear ha a; rintro v192 w193 ⟨rfl, h195, hx194⟩ a ha
    replace hB104 := hB104.nq hx194 q110
    replace hB174 := hB174.nq hx194 q166
    have hE196 := Chg.same hE189 hx194
    refine op_g ha rfl (g_assign rfl) ?_; clear ha a; intro a ha; refine wpList_nil ?_; replace ha := ha.sub (σ' := [(0, (.pointer (some ⟨j1, 0, none⟩))), (8, (.pointer (some ⟨b159, 0, none⟩))), (9, (.bool x190.1))]) ⟨rfl, rfl, rfl, trivial⟩; refine e_then ?_; refine d_region [0, 1, 2, 3, 4, 5] hmix ?_; refine u_g 0 rfl (by kernel_rfl) (want0 _) ha rfl (g_move rfl) ?_; clear ha a; intro a ha; refine u_g 1 rfl (by kernel_rfl) (want0 _) ha rfl (g_nilCheck rfl) ?_; clear ha a; intro a ha; refine u_g 2 rfl (by kernel_rfl) (want0 _) ha rfl (g_field0 st82_4 rfl) ?_; clear ha a; intro a ha
    obtain ⟨m197, hb198, hc199, hM200⟩ := h195.map
    refine u_g 3 rfl (by kernel_rfl) (want0 _) ha rfl (g_load Try.isAgg80 rfl hc199) ?_; clear ha a; intro a ha; refine u_g 4 rfl (by kernel_rfl) (want0 _) ha rfl (g_loadA (cs := [(.int .i64 a1), (.int .i64 x144.1.1), (.int .i64 x144.1.2.1), (.int .i64 x144.1.2.2.1), (.int .u32 (BitVec.toNat x144.1.2.2.2.1 : Int)), (.int .u32 (BitVec.toNat x144.1.2.2.2.2 : Int))]) Try.isAgg97 Try.sizeOf97 rfl (by simp) hB174.all) ?_; clear ha a; intro a ha; refine u_g 5 rfl (by kernel_rfl) (want0 _) ha rfl (g_move rfl) ?_; clear ha a; intro a ha
    refine u_only 6 rfl (by kernel_rfl) ?_; intro w201 hx202
    replace h195 := h195.ext hx202
    replace hB174 := hB174.ext hx202
    have hE203 := Chg.more hE196 hx202
    obtain ⟨kl208, hkl209⟩ := (hK ha1 hI154 hI155 hI156 x144.1.2.2.2.1 x144.1.2.2.2.2)
    obtain ⟨m204, hb205, hc206, hM207⟩ := h195.map
    obtain rfl : m204 = m197 := by omega
    refine o_mapUpdate ha KJ un80 hM207 hkl209 (hM2 hc145 gx22 hc191) rfl rfl rfl ?_; intro w210 hM211 hc212
    have h213 := h195.upd hb205 hM211 hc212
    replace hc212 := Chg.toBl hb205 hc212
    replace hB174 := hB174.nq hc212 q166
    have hE214 := Chg.same hE203 hc212
    refine wpList_nil (e_sq ?_)
    refine ⟨fun h => absurd h (by decide), ?_⟩
    refine u_done (by kernel_rfl) ?_; intro w215 hx216
    replace h213 := h213.ext hx216
    replace hB174 := hB174.ext hx216
    have hE217 := Chg.more hE214 hx216
    replace ha := ha.sub (σ' := [(9, (.bool x190.1))]) ⟨rfl, trivial⟩; refine e_then ?_; refine wp_seq ?_; refine wp_region_lit ?_; refine op_g ha rfl (g_move rfl) ?_; clear ha a; intro a ha; refine op_g ha rfl (g_assign rfl) ?_; clear ha a; intro a ha; refine wpList_nil ?_; replace ha := ha.sub (σ' := [(6, (.bool x190.1))]) ⟨rfl, trivial⟩; refine e_then ?_; refine wp_ret ?_; obtain rfl := Option.some.inj hF
    exact f_ret1 ha rfl rfl ⟨rfl, h213, hE217⟩
  skip
  obtain ⟨yb218, hy219, rfl⟩ := hM1 hc145 gx22 hpv185
  rw [hy219] at hF; replace hF : some (yb218, x144.2) = some r := hF
  refine q_g ha rfl (g_lookup2 rfl rfl hyes186) ?_; clear ha a; intro a ha; refine q_g ha rfl (g_move rfl) ?_; clear ha a; intro a ha; (iterate 2 refine q_g ha rfl (g_extract rfl rfl) ?_; clear ha a; intro a ha); (iterate 2 refine q_g ha rfl (g_assign rfl) ?_; clear ha a; intro a ha)
  refine q_nil ?_; intro w220 hx221
  replace h157 := h157.ext hx221
  replace hB104 := hB104.ext hx221
  replace hB174 := hB174.ext hx221
  have hE222 := Chg.more hE176 hx221
  replace ha := ha.sub (σ' := [(0, (.pointer (some ⟨j1, 0, none⟩))), (7, (.pointer (some ⟨b50, 0, none⟩))), (8, (.pointer (some ⟨b159, 0, none⟩))), (9, (.bool yb218)), (10, (.bool true))]) ⟨rfl, rfl, rfl, rfl, rfl, trivial⟩; refine e_then ?_; refine wp_seq ?_; refine wp_seq ?_; refine wp_region_lit ?_; refine op_g ha rfl (g_move rfl) ?_; clear ha a; intro a ha; refine op_g ha rfl (g_not rfl) ?_; clear ha a; intro a ha; refine wpList_nil ?_; replace ha := ha.sub (σ' := [(0, (.pointer (some ⟨j1, 0, none⟩))), (7, (.pointer (some ⟨b50, 0, none⟩))), (8, (.pointer (some ⟨b159, 0, none⟩))), (9, (.bool yb218)), (57, (.bool false))]) ⟨rfl, rfl, rfl, rfl, rfl, trivial⟩
  refine e_then ?_; refine c_false ha rfl ?_; refine wp_skip ?_; refine e_then ?_; refine wp_seq ?_; refine wp_region_lit ?_; refine op_g ha rfl (g_move rfl) ?_; clear ha a; intro a ha; refine op_g ha rfl (g_assign rfl) ?_; clear ha a; intro a ha; refine wpList_nil ?_; replace ha := ha.sub (σ' := [(6, (.bool yb218))]) ⟨rfl, trivial⟩; refine e_then ?_; refine wp_ret ?_; obtain rfl := Option.some.inj hF
  exact f_ret1 ha rfl rfl ⟨rfl, h157, hE222⟩
set_option maxHeartbeats 2000000 in
theorem lp_inv {S O : Type} {step : S → Option (S ⊕ O)} (I : S → Prop) (Q : O → Prop) (h1 : ∀ s s', I s → step s = some (.inl s') → I s') (h2 : ∀ s o, I s → step s = some (.inr o) → Q o) {s : S} {o : O} (hs : I s) (h : lp step s = some o) : Q o := by
  obtain ⟨n, hn⟩ := lp_some h
  induction n generalizing s with
  | zero => exact (lpN_zero hn).elim
  | succ n ih =>
    obtain ⟨x, hx, hk⟩ := lpN_succ hn
    cases x with
    | inl s' => exact ih (h1 s s' hs hx) (lp_of hk) hk
    | inr o' => have e : o' = o := hk; rw [← e]; exact h2 s o' hs hx
/-- nothing changes what the judge has been given -/
theorem relevant_data {d : JD} {a1 n0 n1 n2 : Int} {s0 s1 : BitVec 32} {q : (Int × (Int × (Int × ((BitVec 32) × (BitVec 32))))) × JD} (h : F_impl_judge_relevant d a1 n0 n1 n2 s0 s1 = some q) : q.2 = d := by
  unfold F_impl_judge_relevant at h
  obtain ⟨o, ho, h⟩ := bnd_some h
  have e1 := lp_inv (fun _ => True) (fun o => ∃ j, o = Sum.inl j) (fun _ _ _ _ => trivial) (fun s o _ hs => by
    simp only [F_impl_judge_relevant_l1] at hs
    split at hs
    · obtain ⟨_, _, _, hs⟩ := idx_some hs
      obtain ⟨_, _, hs⟩ := cal_some hs
      split at hs
      · obtain ⟨_, _, _, hs⟩ := idx_some hs
        obtain ⟨_, hs⟩ := ck_some hs
        cases hs
      obtain ⟨_, hs⟩ := ck_some hs
      cases hs
    exact ⟨_, (Sum.inr.inj (Option.some.inj hs)).symm⟩) trivial ho
  obtain ⟨j, rfl⟩ := e1
  have h : F_impl_judge_relevant_k2 d a1 s0 s1 j.1 j.2.1 j.2.2 = some q := h
  unfold F_impl_judge_relevant_k2 at h
  obtain ⟨o, ho, h⟩ := bnd_some h
  have e2 := lp_inv (fun _ => True) (fun o => ∃ j, o = Sum.inl j) (fun _ _ _ _ => trivial) (fun s o _ hs => by
    simp only [F_impl_judge_relevant_l3] at hs
    split at hs
    · obtain ⟨_, _, _, hs⟩ := idx_some hs
      obtain ⟨_, hs⟩ := ck_some hs
      obtain ⟨_, _, hs⟩ := cal_some hs
      split at hs
      · obtain ⟨_, _, _, hs⟩ := idx_some hs
        obtain ⟨_, hs⟩ := ck_some hs
        cases hs
      obtain ⟨_, hs⟩ := ck_some hs
      cases hs
    exact ⟨_, (Sum.inr.inj (Option.some.inj hs)).symm⟩) trivial ho
  obtain ⟨i, rfl⟩ := e2
  have h : F_impl_judge_relevant_k4 d j.1 j.2.1 j.2.2 i.1 i.2 = some q := h
  unfold F_impl_judge_relevant_k4 at h
  rw [← Option.some.inj h]
theorem some_data {rc : JD → Int → Int → Int → Int → BitVec 32 → BitVec 32 → Option (Bool × JD)} {d : JD} (hrc : ∀ {x m0 m1 m2 t0 t1 y}, rc d x m0 m1 m2 t0 t1 = some y → y.2 = d) {k x y n0 n1 n2 : Int} {s0 s1 : BitVec 32} {r : Bool × JD}
    (h : F_impl_judge_some rc d k x y n0 n1 n2 s0 s1 = some r) : r.2 = d := by
  unfold F_impl_judge_some at h
  split at h
  · obtain ⟨o, ho, h⟩ := bnd_some h
    have e := lp_inv (fun s => s.1 = d) (fun o => match o with | .inl l => l = d | .inr z => z.2 = d) (fun s s' hI hs => by
      simp only [F_impl_judge_some_l1] at hs
      split at hs
      · obtain ⟨_, _, _, hs⟩ := idx_some hs
        obtain ⟨z, hz, hs⟩ := cal_some hs
        rw [hI] at hz
        split at hs
        · cases hs
        obtain ⟨_, hs⟩ := ck_some hs
        rw [← Sum.inl.inj (Option.some.inj hs)]; exact hrc hz
      · cases hs) (fun s o hI hs => by
      simp only [F_impl_judge_some_l1] at hs
      split at hs
      · obtain ⟨_, _, _, hs⟩ := idx_some hs
        obtain ⟨z, hz, hs⟩ := cal_some hs
        rw [hI] at hz
        have e := hrc hz
        split at hs
        · rw [← Sum.inr.inj (Option.some.inj hs)]; exact e
        obtain ⟨_, hs⟩ := ck_some hs
        cases hs
      rw [← Sum.inr.inj (Option.some.inj hs)]; exact hI) (s := (d, n0, n1, n2, 0)) rfl ho
    cases o with
    | inl l => have h : F_impl_judge_some_k2 l = some r := h
               unfold F_impl_judge_some_k2 at h
               rw [← Option.some.inj h]; exact e
    | inr z => have h : z = r := h
               rw [← h]; exact e
  obtain ⟨o, ho, h⟩ := bnd_some h
  have e := lp_inv (fun s => s.1 = d) (fun o => match o with | .inl l => l = d | .inr z => z.2 = d) (fun s s' hI hs => by
    simp only [F_impl_judge_some_l3] at hs
    obtain ⟨_, _, hs⟩ := cal_some hs
    split at hs
    · obtain ⟨_, _, _, hs⟩ := idx_some hs
      obtain ⟨z, hz, hs⟩ := cal_some hs
      rw [hI] at hz
      split at hs
      · cases hs
      rw [← Sum.inl.inj (Option.some.inj hs)]; exact hrc hz
    · cases hs) (fun s o hI hs => by
    simp only [F_impl_judge_some_l3] at hs
    obtain ⟨_, _, hs⟩ := cal_some hs
    split at hs
    · obtain ⟨_, _, _, hs⟩ := idx_some hs
      obtain ⟨z, hz, hs⟩ := cal_some hs
      rw [hI] at hz
      have e := hrc hz
      split at hs
      · rw [← Sum.inr.inj (Option.some.inj hs)]; exact e
      cases hs
    rw [← Sum.inr.inj (Option.some.inj hs)]; exact hI) (s := (d, s0, s1, 0#32)) rfl ho
  cases o with
  | inl l => have h : F_impl_judge_some_k4 l = some r := h
             unfold F_impl_judge_some_k4 at h
             rw [← Option.some.inj h]; exact e
  | inr z => have h : z = r := h
             rw [← h]; exact e
theorem direct_data {rc : JD → Int → Int → Int → Int → BitVec 32 → BitVec 32 → Option (Bool × JD)} {d : JD} (hrc : ∀ {x m0 m1 m2 t0 t1 y}, rc d x m0 m1 m2 t0 t1 = some y → y.2 = d) {k x y n0 n1 n2 : Int} {s0 s1 : BitVec 32} {r : Bool × JD}
    (h : F_impl_judge_direct rc d k x y n0 n1 n2 s0 s1 = some r) : r.2 = d := by
  unfold F_impl_judge_direct at h
  split at h
  · obtain ⟨_, _, _, h⟩ := idx_some h
    obtain ⟨_, _, _, h⟩ := idx_some h
    obtain ⟨_, _, _, h⟩ := idx_some h
    obtain ⟨_, _, h⟩ := cal_some h
    rw [← Option.some.inj h]
  split at h
  · obtain ⟨_, _, _, h⟩ := idx_some h
    obtain ⟨_, _, _, h⟩ := idx_some h
    rw [← Option.some.inj h]
  split at h
  · obtain ⟨_, _, _, h⟩ := idx_some h
    obtain ⟨_, _, _, h⟩ := idx_some h
    obtain ⟨_, _, h⟩ := cal_some h
    rw [← Option.some.inj h]
  split at h
  · obtain ⟨z, hz, h⟩ := cal_some h
    have e := hrc hz
    rw [← Option.some.inj h]; exact e
  split at h
  · obtain ⟨z, hz, h⟩ := cal_some h
    have e := hrc hz
    split at h
    · obtain ⟨z2, hz2, h⟩ := cal_some h
      rw [e] at hz2
      rw [← Option.some.inj h]; exact hrc hz2
    rw [← Option.some.inj h]; exact e
  split at h
  · obtain ⟨z, hz, h⟩ := cal_some h
    have e := hrc hz
    split at h
    · rw [← Option.some.inj h]; exact e
    obtain ⟨z2, hz2, h⟩ := cal_some h
    rw [e] at hz2
    rw [← Option.some.inj h]; exact hrc hz2
  obtain ⟨z, hz, h⟩ := cal_some h
  rw [← Option.some.inj h]; exact some_data hrc hz
theorem holds_data {rc : JD → Int → Int → Int → Int → BitVec 32 → BitVec 32 → Option (Bool × JD)} {d : JD} (hrc : ∀ {x m0 m1 m2 t0 t1 y}, rc d x m0 m1 m2 t0 t1 = some y → y.2 = d) {a1 n0 n1 n2 : Int} {s0 s1 : BitVec 32} {r : Bool × JD}
    (h : F_impl_judge_holds rc d a1 n0 n1 n2 s0 s1 = some r) : r.2 = d := by
  unfold F_impl_judge_holds at h
  obtain ⟨f, _, _, h⟩ := idx_some h
  have tail : ∀ {r : Bool × JD}, cal (F_impl_judge_relevant d a1 n0 n1 n2 s0 s1) (fun q => cal (F_impl_judge_direct rc q.2 f.1 f.2.1 f.2.2 q.1.1 q.1.2.1 q.1.2.2.1 q.1.2.2.2.1 q.1.2.2.2.2) (fun x => some (x.1, x.2))) = some r → r.2 = d := fun {r} h => by
    obtain ⟨q, hq, h⟩ := cal_some h
    obtain ⟨y, hy, h⟩ := cal_some h
    have e := relevant_data hq
    rw [e] at hy
    have := direct_data hrc hy
    rw [← Option.some.inj h]; exact this
  have k1 : ∀ {r : Bool × JD}, F_impl_judge_holds_k1 d a1 n0 n1 n2 s0 s1 rc f = some r → r.2 = d := fun {r} h => tail h
  by_cases c7 : f.1 ≠ 7
  · rw [if_pos c7] at h
    by_cases c8 : f.1 ≠ 8
    · rw [if_pos c8] at h
      cases hl : (idx d.2.2.2 a1 fun x124 => if ¬ (x124 = true) then cal (F_impl_judge_direct rc d f.1 f.2.1 f.2.2 n0 n1 n2 s0 s1) (fun x136 => (some (Sum.inr (x136.1, x136.2)) : Option (Unit ⊕ (Bool × JD)))) else some (Sum.inl ())) with
      | none => rw [hl] at h; cases h
      | some o =>
        rw [hl] at h
        cases o with
        | inl u => exact k1 h
        | inr z =>
          obtain ⟨lg, _, _, hl⟩ := idx_some hl
          by_cases cl : ¬ (lg = true)
          · rw [if_pos cl] at hl
            obtain ⟨y, hy, hl⟩ := cal_some hl
            have e1 := Sum.inr.inj (Option.some.inj hl)
            have e2 : z = r := Option.some.inj h
            rw [← e2, ← e1]; exact direct_data hrc hy
          rw [if_neg cl] at hl; cases hl
    rw [if_neg c8] at h; exact k1 h
  rw [if_neg c7] at h; exact k1 h
theorem judge_data (d : JD) : ∀ (k : Nat) {a1 n0 n1 n2 : Int} {s0 s1 : BitVec 32} {r : Bool × JD}, a1.toNat = k → F_judge d a1 n0 n1 n2 s0 s1 = some r → r.2 = d := by
  intro k
  induction k using Nat.strongRecOn with
  | _ k ih =>
    intro a1 n0 n1 n2 s0 s1 r hk h
    rw [F_judge_eq] at h
    refine holds_data (fun {x m0 m1 m2 t0 t1 y} hy => ?_) h
    unfold R_judge at hy
    split at hy
    · rename_i c; exact ih x.toNat (by omega) rfl hy
    cases hy
theorem R_data {d : JD} {a1 x m0 m1 m2 : Int} {t0 t1 : BitVec 32} {y : Bool × JD} (h : R_judge d a1 d x m0 m1 m2 t0 t1 = some y) : y.2 = d := by
  unfold R_judge at h
  split at h
  · exact judge_data d _ rfl h
  cases h
/-- the right entries of the memo -/
def Jphi (d : JD) (key v : Value) : Prop :=
  ∃ (a1 n0 n1 n2 : Int) (s0 s1 : BitVec 32) (fact : Int × (Int × Int)) (y : Bool × JD), key = .agg #[.int .i64 a1, .int .i64 n0, .int .i64 n1, .int .i64 n2, .int .u32 (BitVec.toNat s0 : Int), .int .u32 (BitVec.toNat s1 : Int)] ∧
    d.2.1[a1.toNat]? = some fact ∧ F_impl_judge_direct (R_judge d a1) d fact.1 fact.2.1 fact.2.2 n0 n1 n2 s0 s1 = some y ∧ v = .bool y.1
theorem asked_inj {a n0 n1 n2 a' n0' n1' n2' : Int} {s0 s1 s0' s1' : BitVec 32} (h : Value.agg #[.int .i64 a, .int .i64 n0, .int .i64 n1, .int .i64 n2, .int .u32 (BitVec.toNat s0 : Int), .int .u32 (BitVec.toNat s1 : Int)] = Value.agg #[.int .i64 a', .int .i64 n0', .int .i64 n1', .int .i64 n2', .int .u32 (BitVec.toNat s0' : Int), .int .u32 (BitVec.toNat s1' : Int)]) :
    a = a' ∧ n0 = n0' ∧ n1 = n1' ∧ n2 = n2' ∧ s0 = s0' ∧ s1 = s1' := by
  simp only [Value.agg.injEq, Array.mk.injEq, List.cons.injEq, Value.int.injEq, true_and, and_true] at h
  obtain ⟨h1, h2, h3, h4, h5, h6⟩ := h
  exact ⟨h1, h2, h3, h4, BitVec.eq_of_toNat_eq (by omega), BitVec.eq_of_toNat_eq (by omega)⟩
theorem Jphi.unique {d : JD} (key v v' : Value) (h : Jphi d key v) (h' : Jphi d key v') : v = v' := by
  obtain ⟨a1, n0, n1, n2, s0, s1, f, y, rfl, hf, hy, rfl⟩ := h
  obtain ⟨a1', n0', n1', n2', s0', s1', f', y', e, hf', hy', rfl⟩ := h'
  obtain ⟨rfl, rfl, rfl, rfl, rfl, rfl⟩ := asked_inj e
  rw [hf] at hf'
  obtain rfl := Option.some.inj hf'
  rw [hy] at hy'
  obtain rfl := Option.some.inj hy'
  rfl
theorem kj : WideMaps.KeyLaw Try.prog 97 := deep_law_laid (m := 4) (by kernel_rfl) (by omega) (of_decide_eq_true (by kernel_rfl)) (by kernel_rfl) (by kernel_rfl)
theorem kjk {n a b c : Int} (hn : InI n) (ha : InI a) (hb : InI b) (hc : InI c) (s t : BitVec 32) : ∃ kl, keyOf Try.prog 97 (.agg #[.int .i64 n, .int .i64 a, .int .i64 b, .int .i64 c, .int .u32 (BitVec.toNat s : Int), .int .u32 (BitVec.toNat t : Int)]) = some kl :=
  asked_key (P := Try.prog) (k := 97) (tn := 59) (ti := 3) (ta := 54) (ts := 57) (tu := 56) (fs1 := ((Try.prog.underlying 97).bind fun | .struct fs => some fs | _ => none).getD #[]) (fs2 := ((Try.prog.underlying 59).bind fun | .struct fs => some fs | _ => none).getD #[])
    (by kernel_rfl) (by kernel_rfl) (by kernel_rfl) (by kernel_rfl) (by kernel_rfl) (by kernel_rfl) (by kernel_rfl) (by kernel_rfl) (by kernel_rfl) (by kernel_rfl) (by kernel_rfl) (by kernel_rfl) (by kernel_rfl) (by kernel_rfl) (by kernel_rfl) (by kernel_rfl) (by kernel_rfl) (of_decide_eq_true (by kernel_rfl)) hn ha hb hc s t
theorem W_judge
    (D : JD) : ∀ (k : Nat) {W : World} {va0 : Value} {ba0 : Int} {fa0 : List Nat} (ha0 : Jd Try.prog 82 97 (Jphi D) W fa0 ba0 va0 D) {a1 : Int} (hk : a1.toNat = k) (ha1 : InI a1) {n0 : Int} (h0 : InI n0) {n1 : Int} (h1 : InI n1) {n2 : Int} (h2 : InI n2) {s0 s1 : BitVec 32} {r : Bool × JD}
    (hF : F_judge D a1 n0 n1 n2 s0 s1 = some r),
    Calls Try.prog 44 [va0, .int .i64 a1, .agg #[.int .i64 n0, .int .i64 n1, .int .i64 n2, .int .u32 (BitVec.toNat s0 : Int), .int .u32 (BitVec.toNat s1 : Int)]].toArray W (Ret fun u w' => u = .bool r.1 ∧ Jd Try.prog 82 97 (Jphi D) w' fa0 ba0 va0 r.2 ∧ Chg (bl ba0) W w') := by
  intro k
  induction k using Nat.strongRecOn with
  | _ k ih =>
    intro W va0 ba0 fa0 ha0 a1 hk ha1 n0 h0 n1 h1 n2 h2 s0 s1 r hF
    rw [F_judge_eq] at hF
    refine W_impl_judge_holds (rc := R_judge D a1) (fun {W va0 ba0 fa0 d} hd {x} hx {m0} e0 {m1} e1 {m2} e2 {t0 t1 y} hy => ?_) kj Jphi.unique kjk ha0 ha1 h0 h1 h2 ?_ ?_ hF
    · unfold R_judge at hy
      split at hy
      · rename_i c
        obtain ⟨rfl, c0, c1⟩ := c
        exact ih x.toNat (by omega) hd rfl hx e0 e1 e2 hy
      cases hy
    · intro q fact v hq hf hp
      obtain ⟨a1', n0', n1', n2', s0', s1', f', y', e, hf', hy', rfl⟩ := hp
      obtain ⟨rfl, rfl, rfl, rfl, rfl, rfl⟩ := asked_inj e
      rw [hf] at hf'
      obtain rfl := Option.some.inj hf'
      have e2 := relevant_data hq
      have e3 := direct_data (fun {_ _ _ _ _ _ _} h => R_data h) hy'
      rw [e2]
      exact ⟨y'.1, by rw [hy', ← e3], rfl⟩
    intro q fact y hq hf hy
    have e2 := relevant_data hq
    rw [e2] at hy
    exact ⟨_, _, _, _, _, _, _, y, rfl, hf, hy, rfl⟩
/-- a judge whose memo is right -/
def Jq (P : Program) (e k : TypeId) (w : World) (fs : List Nat) (b : Int) (v : Value) (d : JD) : Prop := Jd P e k (Jphi d) w fs b v d
section
variable {P : Program} {e k : TypeId} {w w' : World} {fs : List Nat} {b : Int} {v : Value} {d : JD}
theorem Jq.ptr (h : Jq P e k w fs b v d) : ∃ j : Nat, v = .pointer (some ⟨j, 0, none⟩) := Jd.ptr h
theorem Jq.blt (h : Jq P e k w fs b v d) : b < w.heap.size := Jd.blt h
theorem Jq.fpb (h : Jq P e k w fs b v d) : ∀ k ∈ bl b ++ fs, k < w.heap.size := Jd.fpb h
theorem Jq.off {D : List Nat} (h : Jq P e k w fs b v d) (hc : Chg D w w') (hn : ∀ k ∈ bl b ++ fs, k ∉ D) : Jq P e k w' fs b v d := Jd.off h hc hn
theorem Jq.nq {c : Int} (h : Jq P e k w fs b v d) (hc : Chg (bl c) w w') (hn : Nq (bl b ++ fs) c) : Jq P e k w' fs b v d := Jd.nq h hc hn
theorem Jq.ext (h : Jq P e k w fs b v d) (hc : Ext w w') : Jq P e k w' fs b v d := Jd.ext h hc
theorem Jq.get0 {j : Nat} (h : Jq P e k w fs b (.pointer (some ⟨j, 0, none⟩)) d) : ∃ (u : Value) (f : List Nat), Ro Rp.u32 w f u d.1 ∧ w.cell? ⟨j, 0, none⟩ = some u ∧ Nq f b ∧ ∀ i ∈ f, i ∈ bl b ++ fs := Jd.get0 h
theorem Jq.get1 {j : Nat} (h : Jq P e k w fs b (.pointer (some ⟨j, 0, none⟩)) d) : ∃ (u : Value) (f : List Nat), Ro (Rp.prod Rp.int (Rp.prod Rp.int Rp.int)) w f u d.2.1 ∧ w.cell? ⟨j, 1, none⟩ = some u ∧ Nq f b ∧ ∀ i ∈ f, i ∈ bl b ++ fs := Jd.get1 h
end
theorem W_F_judge {W : World} {va0 : Value} {ba0 : Int} {fa0 : List Nat} {a0 : JD} (ha0 : Jq Try.prog 82 97 W fa0 ba0 va0 a0) {a1 : Int} (ha1 : InI a1) {n0 : Int} (h0 : InI n0) {n1 : Int} (h1 : InI n1) {n2 : Int} (h2 : InI n2) {s0 s1 : BitVec 32} {r : Bool × JD}
    (hF : F_judge a0 a1 n0 n1 n2 s0 s1 = some r) :
    Calls Try.prog 44 [va0, .int .i64 a1, .agg #[.int .i64 n0, .int .i64 n1, .int .i64 n2, .int .u32 (BitVec.toNat s0 : Int), .int .u32 (BitVec.toNat s1 : Int)]].toArray W (Ret fun u w' => u = .bool r.1 ∧ Jq Try.prog 82 97 w' fa0 ba0 va0 r.2 ∧ Chg (bl ba0) W w') := by
  have e := judge_data a0 _ rfl hF
  refine (W_judge a0 _ ha0 rfl ha1 h0 h1 h2 hF).mono fun x W' hR => ?_
  obtain ⟨u, rfl, rfl, hJ, hC⟩ := hR
  refine ⟨_, rfl, rfl, ?_, hC⟩
  unfold Jq
  rw [e] at hJ ⊢
  exact hJ
theorem Jq.make {P : Program} {e k : TypeId} {w : World} {j m : Nat} {v0 v1 v2 v3 : Value} {f0 f1 f2 f3 : List Nat} {d0 : List (BitVec 32)} {d1 : List (Int × (Int × Int))} {d2 : List (BitVec 32)} {d3 : List Bool}
    (hB : Bx w j [v0, v1, v2, v3, .map (some m)] e) (h0 : Ro Rp.u32 w f0 v0 d0) (h1 : Ro (Rp.prod Rp.int (Rp.prod Rp.int Rp.int)) w f1 v1 d1) (h2 : Ro Rp.u32 w f2 v2 d2) (h3 : Ro Rp.bool w f3 v3 d3)
    (hM : Mq P k (fun _ _ => False) w m) (hm : m ∉ j :: (f0 ++ (f1 ++ (f2 ++ f3)))) : Jq P e k w (j :: (f0 ++ (f1 ++ (f2 ++ f3)))) m (.pointer (some ⟨j, 0, none⟩)) (d0, d1, d2, d3) := by
  obtain ⟨es, clock, hb, hes⟩ := hM
  exact ⟨j, m, v0, v1, v2, v3, f0, f1, f2, f3, rfl, rfl, rfl, hm, hB, h0, h1, h2, h3, es, clock, hb, fun x hx => (hes x hx).2.elim⟩
/-- nil, or a judge whose memo is right -/
def Jn (P : Program) (e k : TypeId) (w : World) (fs : List Nat) (b : Int) (v : Value) (d : Bool × JD) : Prop :=
  (d.1 = true ∧ v = .pointer none) ∨ (d.1 = false ∧ Jq P e k w fs b v d.2)
theorem Jn.jq {P : Program} {e k : TypeId} {w : World} {fs : List Nat} {b : Int} {v : Value} {d : Bool × JD} (h : Jn P e k w fs b v d) (hn : ¬ (d.1 = true)) : Jq P e k w fs b v d.2 := by
  rcases h with h | h
  · exact absurd h.1 hn
  exact h.2
theorem Jn.nil {P : Program} {e k : TypeId} {w : World} {fs : List Nat} {b : Int} {v : Value} {d : Bool × JD} (h : Jn P e k w fs b v d) : (d.1 = true ∧ v = .pointer none) ∨ (d.1 = false ∧ ∃ j, v = .pointer (some ⟨j, 0, none⟩)) := by
  rcases h with h | h
  · exact .inl h
  exact .inr ⟨h.1, h.2.ptr⟩
theorem Jn.ext {P : Program} {e k : TypeId} {w w' : World} {fs : List Nat} {b : Int} {v : Value} {d : Bool × JD} (h : Jn P e k w fs b v d) (hc : Ext w w') : Jn P e k w' fs b v d :=
  h.imp id fun h => ⟨h.1, h.2.ext hc⟩
theorem Jn.isnil {P : Program} {e k : TypeId} {w : World} {fs : List Nat} {b : Int} {v : Value} {d : Bool × JD} (h : Jn P e k w fs b v d) (hn : d.1 = true) : v = .pointer none := by
  rcases h with h | h
  · exact h.2
  rw [h.1] at hn; cases hn
theorem Jn.blt {P : Program} {e k : TypeId} {w : World} {fs : List Nat} {b : Int} {v : Value} {d : Bool × JD} (h : Jn P e k w fs b v d) (hn : ¬ (d.1 = true)) : b < w.heap.size := (h.jq hn).blt
theorem jq_apart {j m : Nat} {f0 f1 f2 f3 : List Nat} (hj : Nq [j] (m : Int)) (h0 : Nq f0 (m : Int)) (h1 : Nq f1 (m : Int)) (h2 : Nq f2 (m : Int)) (h3 : Nq f3 (m : Int)) : m ∉ j :: (f0 ++ (f1 ++ (f2 ++ f3))) := fun h => by
  rcases List.mem_cons.1 h with e | g
  · exact hj j (by simp) (by rw [e])
  rcases List.mem_append.1 g with g | g
  · exact h0 m g rfl
  rcases List.mem_append.1 g with g | g
  · exact h1 m g rfl
  rcases List.mem_append.1 g with g | g
  · exact h2 m g rfl
  exact h3 m g rfl
theorem pv_cons {F : List Nat} {w : World} {j : Nat} {f0 f1 f2 f3 : List Nat} (hj : Zn w (j : Int)) (h0 : Pv F w.heap.size f0) (h1 : Pv F w.heap.size f1) (h2 : Pv F w.heap.size f2) (h3 : Pv F w.heap.size f3) : Pv F w.heap.size (j :: (f0 ++ (f1 ++ (f2 ++ f3)))) := fun i hi => by
  rcases List.mem_cons.1 hi with e | g
  · subst e; rcases hj with h | h <;> exact .inr (by omega)
  rcases List.mem_append.1 g with g | g
  · exact h0 i g
  rcases List.mem_append.1 g with g | g
  · exact h1 i g
  rcases List.mem_append.1 g with g | g
  · exact h2 i g
  exact h3 i g

set_option maxHeartbeats 2000000 in
theorem W_impl_goodFact_1 {W : World} {a0 : Int} (ha0 : InI a0) {r : Bool} (hF : F_impl_goodFact_1 a0 = some r) :
    Calls Try.prog 63 [.int .i64 a0].toArray W (Ret fun u w' => u = .bool r ∧ Ext W w') := by
  refine f_enter Try.func63 rfl Try.ntmps63 rfl ?_
  intro a ha
  replace ha : Fr 5 [(0, (.int .i64 a0))] a := ha
  have hE : Chg [] W W := Chg.refl _ _
  unfold F_impl_goodFact_1 at hF
  refine wp_seq ?_; refine wp_region_lit ?_; refine op_g ha rfl (g_assign rfl) ?_; clear ha a; intro a ha; refine wpList_nil ?_; replace ha := ha.sub (σ' := [(0, (.int .i64 a0))]) ⟨rfl, trivial⟩; refine e_then ?_; refine wp_seq ?_; refine wp_region_lit ?_; refine op_g ha rfl (g_move rfl) ?_; clear ha a; intro a ha; obtain ⟨x1, hc2, hF⟩ := cal_some hF
  refine o_call ha rfl rfl Try.call51 (W_impl_inRange ha0 (show InI 0 from by decide) (show InI 2 from by decide) hc2) ?_; clear ha a; rintro v3 w4 ⟨rfl, hx5⟩ a ha
  have hE6 := Ext.trans hE hx5
  refine op_g ha rfl (g_assign rfl) ?_; clear ha a; intro a ha; refine wpList_nil ?_; replace ha := ha.sub (σ' := [(2, (.bool x1))]) ⟨rfl, trivial⟩; refine e_then ?_; refine wp_ret ?_; obtain rfl := Option.some.inj hF
  exact f_ret1 ha rfl rfl ⟨rfl, hE6⟩
set_option maxHeartbeats 2000000 in
theorem W_impl_goodFact_2 {W : World} {a0 : Int} (ha0 : InI a0) {r : Bool} (hF : F_impl_goodFact_2 a0 = some r) :
    Calls Try.prog 64 [.int .i64 a0].toArray W (Ret fun u w' => u = .bool r ∧ Ext W w') := by
  refine f_enter Try.func64 rfl Try.ntmps64 rfl ?_
  intro a ha
  replace ha : Fr 5 [(0, (.int .i64 a0))] a := ha
  have hE : Chg [] W W := Chg.refl _ _
  unfold F_impl_goodFact_2 at hF
  refine wp_seq ?_; refine wp_region_lit ?_; refine op_g ha rfl (g_assign rfl) ?_; clear ha a; intro a ha; refine wpList_nil ?_; replace ha := ha.sub (σ' := [(0, (.int .i64 a0))]) ⟨rfl, trivial⟩; refine e_then ?_; refine wp_seq ?_; refine wp_region_lit ?_; refine op_g ha rfl (g_move rfl) ?_; clear ha a; intro a ha; obtain ⟨x1, hc2, hF⟩ := cal_some hF
  refine o_call ha rfl rfl Try.call51 (W_impl_inRange ha0 (show InI 0 from by decide) (show InI 1 from by decide) hc2) ?_; clear ha a; rintro v3 w4 ⟨rfl, hx5⟩ a ha
  have hE6 := Ext.trans hE hx5
  refine op_g ha rfl (g_assign rfl) ?_; clear ha a; intro a ha; refine wpList_nil ?_; replace ha := ha.sub (σ' := [(2, (.bool x1))]) ⟨rfl, trivial⟩; refine e_then ?_; refine wp_ret ?_; obtain rfl := Option.some.inj hF
  exact f_ret1 ha rfl rfl ⟨rfl, hE6⟩
set_option maxHeartbeats 2000000 in
theorem W_impl_goodFact_3 {W : World} {a0 : Int} (ha0 : InI a0) {y0 : Int} (hy0 : InI y0) {bc0 : Nat} (hbc0 : Bx W bc0 [.int .i64 y0] 3) {r : Bool} (hF : F_impl_goodFact_3 a0 y0 = some r) :
    Calls Try.prog 65 [.int .i64 a0, .pointer (some ⟨bc0, 0, none⟩)].toArray W (Ret fun u w' => u = .bool r ∧ Ext W w') := by
  refine f_enter Try.func65 rfl Try.ntmps65 rfl ?_
  intro a ha
  replace ha : Fr 8 [(0, (.int .i64 a0)), (1, (.pointer (some ⟨bc0, 0, none⟩)))] a := ha
  have hE : Chg [] W W := Chg.refl _ _
  unfold F_impl_goodFact_3 at hF
  refine wp_seq ?_; refine wp_region_lit ?_; refine op_g ha rfl (g_assign rfl) ?_; clear ha a; intro a ha; refine wpList_nil ?_; replace ha := ha.sub (σ' := [(0, (.int .i64 a0)), (1, (.pointer (some ⟨bc0, 0, none⟩)))]) ⟨rfl, rfl, trivial⟩; refine e_then ?_; refine wp_seq ?_; refine wp_region_lit ?_; refine op_g ha rfl (g_move rfl) ?_; clear ha a; intro a ha; refine op_g ha rfl (g_load Try.isAgg3 rfl ((hbc0.ext hE).cell rfl)) ?_; clear ha a; intro a ha; obtain ⟨hI1, hF⟩ := ck_some hF; refine op_g ha rfl (g_sub rfl rfl hI1) ?_; clear ha a; intro a ha; obtain ⟨x3, hc4, hF⟩ := cal_some hF
  refine o_call ha rfl rfl Try.call51 (W_impl_inRange ha0 (show InI 0 from by decide) hI1 hc4) ?_; clear ha a; rintro v5 w6 ⟨rfl, hx7⟩ a ha
  have hE8 := Ext.trans hE hx7
  refine op_g ha rfl (g_assign rfl) ?_; clear ha a; intro a ha; refine wpList_nil ?_; replace ha := ha.sub (σ' := [(3, (.bool x3))]) ⟨rfl, trivial⟩; refine e_then ?_; refine wp_ret ?_; obtain rfl := Option.some.inj hF
  exact f_ret1 ha rfl rfl ⟨rfl, hE8⟩
set_option maxHeartbeats 2000000 in
theorem W_impl_goodFact {W : World} {a0_0 : Int} (ha0_0 : InI a0_0) {a0_1 : Int} (ha0_1 : InI a0_1) {a0_2 : Int} (ha0_2 : InI a0_2) {a1 : Int} (ha1 : InI a1) {r : Bool} (hF : F_impl_goodFact a0_0 a0_1 a0_2 a1 = some r) :
    Calls Try.prog 56 [.agg #[.int .i64 a0_0, .int .i64 a0_1, .int .i64 a0_2], .int .i64 a1].toArray W (Ret fun u w' => u = .bool r ∧ Ext W w') := by
  refine f_enter Try.func56 rfl Try.ntmps56 rfl ?_
  intro a ha
  replace ha : Fr 84 [(0, (.agg #[(.int .i64 a0_0), (.int .i64 a0_1), (.int .i64 a0_2)])), (1, (.int .i64 a1))] a := ha
  have hE : Chg [] W W := Chg.refl _ _
  unfold F_impl_goodFact at hF
  refine wp_seq ?_; refine wp_region_lit ?_
  refine o_box ha rfl rfl rfl ?_; clear ha a; intro b1 w2 hB3 hx4 hlo5 a ha
  have q6 := Zn.one hlo5
  have q7 := Zn.upD q6 hE
  have hE8 := Ext.trans hE hx4
  refine o_box ha rfl rfl rfl ?_; clear ha a; intro b9 w10 hB11 hx12 hlo13 a ha
  have q14 := Zn.one hlo13
  have q15 := Nq.new hB3.fpb q14
  have q16 := Nq.made1 hlo13 hB3.bi
  have q17 := Zn.upD q14 hE8
  replace hB3 := hB3.ext hx12
  have hE18 := Ext.trans hE8 hx12
  refine op_g ha rfl (g_assign rfl) ?_; clear ha a; intro a ha; refine wpList_nil ?_; replace ha := ha.sub (σ' := [(2, (.pointer (some ⟨b1, 0, none⟩))), (3, (.pointer (some ⟨b9, 0, none⟩)))]) ⟨rfl, rfl, trivial⟩; refine e_then ?_; refine wp_seq ?_; refine wp_region_lit ?_; refine op_g ha rfl (g_assign rfl) ?_; clear ha a; intro a ha; refine wpList_nil ?_; refine e_then ?_; refine wp_seq ?_; refine wp_region_lit ?_; refine op_g ha rfl (g_assign rfl) ?_; clear ha a; intro a ha; refine wpList_nil ?_; replace ha := ha.sub (σ' := [(2, (.pointer (some ⟨b1, 0, none⟩))), (3, (.pointer (some ⟨b9, 0, none⟩))), (5, (.func (.func 63) #[] #[])), (6, (.func (.func 64) #[] #[]))]) ⟨rfl, rfl, rfl, rfl, trivial⟩
  refine e_then ?_; refine wp_seq ?_; refine wp_region_lit ?_; refine op_g ha rfl (g_func rfl rfl) ?_; clear ha a; intro a ha; refine op_g ha rfl (g_assign rfl) ?_; clear ha a; intro a ha; refine wpList_nil ?_; replace ha := ha.sub (σ' := [(2, (.pointer (some ⟨b1, 0, none⟩))), (5, (.func (.func 63) #[] #[])), (6, (.func (.func 64) #[] #[])), (7, (.func (.func 65) #[] #[(.pointer (some ⟨b9, 0, none⟩))]))]) ⟨rfl, rfl, rfl, rfl, trivial⟩; refine e_then ?_; refine wp_seq ?_; refine wp_seq ?_; refine wp_region_lit ?_; refine op_g ha rfl (g_field0 st71_0 rfl) ?_; clear ha a; intro a ha; refine op_g ha rfl (g_load Try.isAgg2 rfl (hB3.cell rfl)) ?_; clear ha a; intro a ha
  refine wpList_nil ?_; replace ha := ha.sub (σ' := [(2, (.pointer (some ⟨b1, 0, none⟩))), (5, (.func (.func 63) #[] #[])), (6, (.func (.func 64) #[] #[])), (7, (.func (.func 65) #[] #[(.pointer (some ⟨b9, 0, none⟩))])), (10, (.int .i64 a0_0))]) ⟨rfl, rfl, rfl, rfl, rfl, trivial⟩; refine e_then ?_; refine wp_block ?_; obtain ⟨o20, ho21, hK22⟩ := bnd_some hF
  have hF := ho21; clear ho21
  refine s_cut (fun a w => ∃ (t28 : Bool), Fr 84 [(2, (.pointer (some ⟨b1, 0, none⟩))), (5, (.func (.func 63) #[] #[])), (6, (.func (.func 64) #[] #[])), (7, (.func (.func 65) #[] #[(.pointer (some ⟨b9, 0, none⟩))])), (10, (.int .i64 a0_0)), (11, (.bool t28))] a ∧ Chg [] W w ∧ Bx w b1 [(.int .i64 a0_0), (.int .i64 a0_1), (.int .i64 a0_2)] 71 ∧ Zn W (b1 : Int) ∧ Bx w b9 [(.int .i64 a1)] 3 ∧ Zn W (b9 : Int) ∧ Nq ([b1]) (b9 : Int) ∧ Nq ([b9]) (b1 : Int) ∧ o20 = .inl t28) ?_ ?_
  · skip
    refine wp_seq ?_; refine wp_region_lit ?_; refine op_g ha rfl (g_eql rfl rfl) ?_; clear ha a; intro a ha; refine op_g ha rfl (g_assign rfl) ?_; clear ha a; intro a ha; refine wpList_nil ?_; replace ha := ha.sub (σ' := [(2, (.pointer (some ⟨b1, 0, none⟩))), (5, (.func (.func 63) #[] #[])), (6, (.func (.func 64) #[] #[])), (7, (.func (.func 65) #[] #[(.pointer (some ⟨b9, 0, none⟩))])), (10, (.int .i64 a0_0)), (11, (.bool (decide (a0_0 = 1))))]) ⟨rfl, rfl, rfl, rfl, rfl, rfl, trivial⟩; refine e_then ?_; refine c_cond (a0_0 = 1) ha rfl (decide_eq_true_iff) (fun hp32 => ?_) (fun hp32 => ?_)
    · replace hF := if_t hp32 hF
      refine wp_skip ?_; refine e_sq ?_; obtain rfl := Option.some.inj hF
      exact ⟨decide (a0_0 = 1), ha.sub ⟨rfl, rfl, rfl, rfl, rfl, rfl, trivial⟩, hE18, hB3, q7, hB11, q17, q15, q16, rfl⟩
    replace hF := if_f hp32 hF; refine wp_region_lit ?_; refine op_g ha rfl (g_eql rfl rfl) ?_; clear ha a; intro a ha; refine op_g ha rfl (g_assign rfl) ?_; clear ha a; intro a ha; refine wpList_nil ?_; replace ha := ha.sub (σ' := [(2, (.pointer (some ⟨b1, 0, none⟩))), (5, (.func (.func 63) #[] #[])), (6, (.func (.func 64) #[] #[])), (7, (.func (.func 65) #[] #[(.pointer (some ⟨b9, 0, none⟩))])), (10, (.int .i64 a0_0)), (11, (.bool (decide (a0_0 = 2))))]) ⟨rfl, rfl, rfl, rfl, rfl, rfl, trivial⟩; refine e_sq ?_; obtain rfl := Option.some.inj hF
    exact ⟨decide (a0_0 = 2), ha.sub ⟨rfl, rfl, rfl, rfl, rfl, rfl, trivial⟩, hE18, hB3, q7, hB11, q17, q15, q16, rfl⟩
  rintro a w23 ⟨t28, ha, hE31, hB24, z25, hB26, z27, q29, q30, rfl⟩
  have hF : F_impl_goodFact_k1 a0_0 a0_1 a0_2 a1 t28 = some _ := hK22; clear hK22; unfold F_impl_goodFact_k1 at hF
  refine c_cond (t28 = true) ha rfl (Iff.rfl) (fun hp33 => ?_) (fun hp33 => ?_)
  · replace hF := if_t hp33 hF
    refine wp_seq ?_; refine wp_region_lit ?_; refine op_g ha rfl (g_move rfl) ?_; clear ha a; intro a ha; refine op_g ha rfl (g_field0 st71_1 rfl) ?_; clear ha a; intro a ha; refine op_g ha rfl (g_load Try.isAgg2 rfl (hB24.cell rfl)) ?_; clear ha a; intro a ha; obtain ⟨x34, hc35, hF⟩ := cal_some hF
    refine o_callv ha rfl rfl rfl Try.call63 (W_impl_goodFact_1 ha0_1 hc35) ?_; clear ha a; rintro v36 w37 ⟨rfl, hx38⟩ a ha
    replace hB24 := hB24.ext hx38
    replace hB26 := hB26.ext hx38
    have hE39 := Ext.trans hE31 hx38
    refine op_g ha rfl (g_move rfl) ?_; clear ha a; intro a ha
    by_cases hp40 : x34 = true
    · replace hF := if_t hp40 hF
      rw [show (x34) = true from (Iff.rfl).2 hp40] at ha
      refine op_want (yields ha rfl rfl) ?_; refine op_g ha rfl (g_move rfl) ?_; clear ha a; intro a ha; refine op_want (yields ha rfl rfl) ?_; refine op_g ha rfl (g_field0 st71_2 rfl) ?_; clear ha a; intro a ha; refine op_want (yields ha rfl rfl) ?_; refine op_g ha rfl (g_load Try.isAgg2 rfl (hB24.cell rfl)) ?_; clear ha a; intro a ha; refine op_want (yields ha rfl rfl) ?_; obtain ⟨x41, hc42, hF⟩ := cal_some hF
      refine o_callv ha rfl rfl rfl Try.call63 (W_impl_goodFact_1 ha0_2 hc42) ?_; clear ha a; rintro v43 w44 ⟨rfl, hx45⟩ a ha
      replace hB24 := hB24.ext hx45
      replace hB26 := hB26.ext hx45
      have hE46 := Ext.trans hE39 hx45
      refine op_g ha rfl (g_pick rfl rfl) ?_; clear ha a; intro a ha; refine op_g ha rfl (g_assign rfl) ?_; clear ha a; intro a ha; refine wpList_nil ?_; replace ha := ha.sub (σ' := [(4, (.bool x41))]) ⟨rfl, trivial⟩; refine e_then ?_; refine wp_ret ?_; refine e_blk_ret ?_; refine e_then_ret ?_; obtain rfl := Option.some.inj hF
      exact f_ret1 ha rfl rfl ⟨rfl, hE46⟩
    replace hF := if_f hp40 hF
    rw [show (x34) = false from b_false (Iff.rfl) hp40] at ha
    (iterate 4 refine op_unwant ha rfl (yields ha rfl rfl) rfl ?_; clear ha a; intro a ha); refine op_g ha rfl (g_pick rfl rfl) ?_; clear ha a; intro a ha; refine op_g ha rfl (g_assign rfl) ?_; clear ha a; intro a ha; refine wpList_nil ?_; replace ha := ha.sub (σ' := [(4, (.bool false))]) ⟨rfl, trivial⟩; refine e_then ?_; refine wp_ret ?_; refine e_blk_ret ?_; refine e_then_ret ?_; obtain rfl := Option.some.inj hF
    exact f_ret1 ha rfl rfl ⟨rfl, hE39⟩
  replace hF := if_f hp33 hF; refine wp_seq ?_; refine wp_region_lit ?_; refine op_g ha rfl (g_eql rfl rfl) ?_; clear ha a; intro a ha; refine op_g ha rfl (g_assign rfl) ?_; clear ha a; intro a ha; refine wpList_nil ?_; replace ha := ha.sub (σ' := [(2, (.pointer (some ⟨b1, 0, none⟩))), (5, (.func (.func 63) #[] #[])), (6, (.func (.func 64) #[] #[])), (7, (.func (.func 65) #[] #[(.pointer (some ⟨b9, 0, none⟩))])), (10, (.int .i64 a0_0)), (24, (.bool (decide (a0_0 = 3))))]) ⟨rfl, rfl, rfl, rfl, rfl, rfl, trivial⟩; refine e_then ?_; refine c_cond (a0_0 = 3) ha rfl (decide_eq_true_iff) (fun hp47 => ?_) (fun hp47 => ?_)
  · replace hF := if_t hp47 hF
    refine wp_seq ?_; refine wp_region_lit ?_; refine op_g ha rfl (g_move rfl) ?_; clear ha a; intro a ha; refine op_g ha rfl (g_field0 st71_1 rfl) ?_; clear ha a; intro a ha; refine op_g ha rfl (g_load Try.isAgg2 rfl (hB24.cell rfl)) ?_; clear ha a; intro a ha; obtain ⟨x48, hc49, hF⟩ := cal_some hF
    refine o_callv ha rfl rfl rfl Try.call63 (W_impl_goodFact_1 ha0_1 hc49) ?_; clear ha a; rintro v50 w51 ⟨rfl, hx52⟩ a ha
    replace hB24 := hB24.ext hx52
    replace hB26 := hB26.ext hx52
    have hE53 := Ext.trans hE31 hx52
    refine op_g ha rfl (g_move rfl) ?_; clear ha a; intro a ha
    by_cases hp54 : x48 = true
    · replace hF := if_t hp54 hF
      rw [show (x48) = true from (Iff.rfl).2 hp54] at ha
      refine op_want (yields ha rfl rfl) ?_; refine op_g ha rfl (g_move rfl) ?_; clear ha a; intro a ha; refine op_want (yields ha rfl rfl) ?_; refine op_g ha rfl (g_field0 st71_2 rfl) ?_; clear ha a; intro a ha; refine op_want (yields ha rfl rfl) ?_; refine op_g ha rfl (g_load Try.isAgg2 rfl (hB24.cell rfl)) ?_; clear ha a; intro a ha; refine op_want (yields ha rfl rfl) ?_; obtain ⟨x55, hc56, hF⟩ := cal_some hF
      refine o_callv ha rfl rfl rfl Try.call64 (W_impl_goodFact_2 ha0_2 hc56) ?_; clear ha a; rintro v57 w58 ⟨rfl, hx59⟩ a ha
      replace hB24 := hB24.ext hx59
      replace hB26 := hB26.ext hx59
      have hE60 := Ext.trans hE53 hx59
      refine op_g ha rfl (g_pick rfl rfl) ?_; clear ha a; intro a ha; refine op_g ha rfl (g_assign rfl) ?_; clear ha a; intro a ha; refine wpList_nil ?_; replace ha := ha.sub (σ' := [(4, (.bool x55))]) ⟨rfl, trivial⟩; refine e_then ?_; refine wp_ret ?_; refine e_blk_ret ?_; refine e_then_ret ?_; obtain rfl := Option.some.inj hF
      exact f_ret1 ha rfl rfl ⟨rfl, hE60⟩
    replace hF := if_f hp54 hF
    rw [show (x48) = false from b_false (Iff.rfl) hp54] at ha
    (iterate 4 refine op_unwant ha rfl (yields ha rfl rfl) rfl ?_; clear ha a; intro a ha); refine op_g ha rfl (g_pick rfl rfl) ?_; clear ha a; intro a ha; refine op_g ha rfl (g_assign rfl) ?_; clear ha a; intro a ha; refine wpList_nil ?_; replace ha := ha.sub (σ' := [(4, (.bool false))]) ⟨rfl, trivial⟩; refine e_then ?_; refine wp_ret ?_; refine e_blk_ret ?_; refine e_then_ret ?_; obtain rfl := Option.some.inj hF
    exact f_ret1 ha rfl rfl ⟨rfl, hE53⟩
  replace hF := if_f hp47 hF; refine wp_seq ?_; refine wp_region_lit ?_; refine op_g ha rfl (g_eql rfl rfl) ?_; clear ha a; intro a ha; refine op_g ha rfl (g_assign rfl) ?_; clear ha a; intro a ha; refine wpList_nil ?_; replace ha := ha.sub (σ' := [(2, (.pointer (some ⟨b1, 0, none⟩))), (5, (.func (.func 63) #[] #[])), (6, (.func (.func 64) #[] #[])), (7, (.func (.func 65) #[] #[(.pointer (some ⟨b9, 0, none⟩))])), (10, (.int .i64 a0_0)), (36, (.bool (decide (a0_0 = 4))))]) ⟨rfl, rfl, rfl, rfl, rfl, rfl, trivial⟩; refine e_then ?_; refine c_cond (a0_0 = 4) ha rfl (decide_eq_true_iff) (fun hp61 => ?_) (fun hp61 => ?_)
  · replace hF := if_t hp61 hF
    refine wp_seq ?_; refine wp_region_lit ?_; refine op_g ha rfl (g_move rfl) ?_; clear ha a; intro a ha; refine op_g ha rfl (g_field0 st71_1 rfl) ?_; clear ha a; intro a ha; refine op_g ha rfl (g_load Try.isAgg2 rfl (hB24.cell rfl)) ?_; clear ha a; intro a ha; obtain ⟨x62, hc63, hF⟩ := cal_some hF
    refine o_callv ha rfl rfl rfl Try.call65 (W_impl_goodFact_3 ha0_1 ha1 hB26 hc63) ?_; clear ha a; rintro v64 w65 ⟨rfl, hx66⟩ a ha
    replace hB24 := hB24.ext hx66
    replace hB26 := hB26.ext hx66
    have hE67 := Ext.trans hE31 hx66
    refine op_g ha rfl (g_move rfl) ?_; clear ha a; intro a ha
    by_cases hp68 : x62 = true
    · replace hF := if_t hp68 hF
      rw [show (x62) = true from (Iff.rfl).2 hp68] at ha
      refine op_want (yields ha rfl rfl) ?_; refine op_g ha rfl (g_field0 st71_2 rfl) ?_; clear ha a; intro a ha; refine op_want (yields ha rfl rfl) ?_; refine op_g ha rfl (g_load Try.isAgg2 rfl (hB24.cell rfl)) ?_; clear ha a; intro a ha; refine op_want (yields ha rfl rfl) ?_; refine op_g ha rfl (g_eql rfl rfl) ?_; clear ha a; intro a ha; refine op_g ha rfl (g_pick rfl rfl) ?_; clear ha a; intro a ha; refine op_g ha rfl (g_assign rfl) ?_; clear ha a; intro a ha; refine wpList_nil ?_; replace ha := ha.sub (σ' := [(4, (.bool (decide (a0_2 = 0))))]) ⟨rfl, trivial⟩; refine e_then ?_; refine wp_ret ?_
      refine e_blk_ret ?_; refine e_then_ret ?_; obtain rfl := Option.some.inj hF
      exact f_ret1 ha rfl rfl ⟨rfl, hE67⟩
    replace hF := if_f hp68 hF
    rw [show (x62) = false from b_false (Iff.rfl) hp68] at ha
    (iterate 3 refine op_unwant ha rfl (yields ha rfl rfl) rfl ?_; clear ha a; intro a ha); refine op_g ha rfl (g_pick rfl rfl) ?_; clear ha a; intro a ha; refine op_g ha rfl (g_assign rfl) ?_; clear ha a; intro a ha; refine wpList_nil ?_; replace ha := ha.sub (σ' := [(4, (.bool false))]) ⟨rfl, trivial⟩; refine e_then ?_; refine wp_ret ?_; refine e_blk_ret ?_; refine e_then_ret ?_; obtain rfl := Option.some.inj hF
    exact f_ret1 ha rfl rfl ⟨rfl, hE67⟩
  replace hF := if_f hp61 hF; obtain ⟨o70, ho71, hK72⟩ := bnd_some hF
  have hF := ho71; clear ho71
  refine s_cut (fun a w => ∃ (t78 : Bool), Fr 84 [(2, (.pointer (some ⟨b1, 0, none⟩))), (5, (.func (.func 63) #[] #[])), (6, (.func (.func 64) #[] #[])), (7, (.func (.func 65) #[] #[(.pointer (some ⟨b9, 0, none⟩))])), (10, (.int .i64 a0_0)), (47, (.bool t78))] a ∧ Chg [] W w ∧ Bx w b1 [(.int .i64 a0_0), (.int .i64 a0_1), (.int .i64 a0_2)] 71 ∧ Zn W (b1 : Int) ∧ Bx w b9 [(.int .i64 a1)] 3 ∧ Zn W (b9 : Int) ∧ Nq ([b1]) (b9 : Int) ∧ Nq ([b9]) (b1 : Int) ∧ o70 = .inl t78) ?_ ?_
  · skip
    refine wp_seq ?_; refine wp_region_lit ?_; refine op_g ha rfl (g_eql rfl rfl) ?_; clear ha a; intro a ha; refine op_g ha rfl (g_assign rfl) ?_; clear ha a; intro a ha; refine wpList_nil ?_; replace ha := ha.sub (σ' := [(2, (.pointer (some ⟨b1, 0, none⟩))), (5, (.func (.func 63) #[] #[])), (6, (.func (.func 64) #[] #[])), (7, (.func (.func 65) #[] #[(.pointer (some ⟨b9, 0, none⟩))])), (10, (.int .i64 a0_0)), (47, (.bool (decide (a0_0 = 5))))]) ⟨rfl, rfl, rfl, rfl, rfl, rfl, trivial⟩; refine e_then ?_; refine c_cond (a0_0 = 5) ha rfl (decide_eq_true_iff) (fun hp82 => ?_) (fun hp82 => ?_)
    · replace hF := if_t hp82 hF
      refine wp_skip ?_; refine e_sq ?_; obtain rfl := Option.some.inj hF
      exact ⟨decide (a0_0 = 5), ha.sub ⟨rfl, rfl, rfl, rfl, rfl, rfl, trivial⟩, hE31, hB24, z25, hB26, z27, q29, q30, rfl⟩
    replace hF := if_f hp82 hF; refine wp_region_lit ?_; refine op_g ha rfl (g_eql rfl rfl) ?_; clear ha a; intro a ha; refine op_g ha rfl (g_assign rfl) ?_; clear ha a; intro a ha; refine wpList_nil ?_; replace ha := ha.sub (σ' := [(2, (.pointer (some ⟨b1, 0, none⟩))), (5, (.func (.func 63) #[] #[])), (6, (.func (.func 64) #[] #[])), (7, (.func (.func 65) #[] #[(.pointer (some ⟨b9, 0, none⟩))])), (10, (.int .i64 a0_0)), (47, (.bool (decide (a0_0 = 6))))]) ⟨rfl, rfl, rfl, rfl, rfl, rfl, trivial⟩; refine e_sq ?_; obtain rfl := Option.some.inj hF
    exact ⟨decide (a0_0 = 6), ha.sub ⟨rfl, rfl, rfl, rfl, rfl, rfl, trivial⟩, hE31, hB24, z25, hB26, z27, q29, q30, rfl⟩
  rintro a w73 ⟨t78, ha, hE81, hB74, z75, hB76, z77, q79, q80, rfl⟩
  have hF : F_impl_goodFact_k2 a0_0 a0_1 a0_2 a1 t78 = some _ := hK72; clear hK72; unfold F_impl_goodFact_k2 at hF
  refine c_cond (t78 = true) ha rfl (Iff.rfl) (fun hp83 => ?_) (fun hp83 => ?_)
  · replace hF := if_t hp83 hF
    refine wp_seq ?_; refine wp_region_lit ?_; refine op_g ha rfl (g_move rfl) ?_; clear ha a; intro a ha; refine op_g ha rfl (g_field0 st71_1 rfl) ?_; clear ha a; intro a ha; refine op_g ha rfl (g_load Try.isAgg2 rfl (hB74.cell rfl)) ?_; clear ha a; intro a ha; obtain ⟨x84, hc85, hF⟩ := cal_some hF
    refine o_callv ha rfl rfl rfl Try.call65 (W_impl_goodFact_3 ha0_1 ha1 hB76 hc85) ?_; clear ha a; rintro v86 w87 ⟨rfl, hx88⟩ a ha
    replace hB74 := hB74.ext hx88
    replace hB76 := hB76.ext hx88
    have hE89 := Ext.trans hE81 hx88
    refine op_g ha rfl (g_move rfl) ?_; clear ha a; intro a ha
    by_cases hp90 : x84 = true
    · replace hF := if_t hp90 hF
      rw [show (x84) = true from (Iff.rfl).2 hp90] at ha
      refine op_want (yields ha rfl rfl) ?_; refine op_g ha rfl (g_move rfl) ?_; clear ha a; intro a ha; refine op_want (yields ha rfl rfl) ?_; refine op_g ha rfl (g_field0 st71_2 rfl) ?_; clear ha a; intro a ha; refine op_want (yields ha rfl rfl) ?_; refine op_g ha rfl (g_load Try.isAgg2 rfl (hB74.cell rfl)) ?_; clear ha a; intro a ha; refine op_want (yields ha rfl rfl) ?_; obtain ⟨x91, hc92, hF⟩ := cal_some hF
      refine o_callv ha rfl rfl rfl Try.call65 (W_impl_goodFact_3 ha0_2 ha1 hB76 hc92) ?_; clear ha a; rintro v93 w94 ⟨rfl, hx95⟩ a ha
      replace hB74 := hB74.ext hx95
      replace hB76 := hB76.ext hx95
      have hE96 := Ext.trans hE89 hx95
      refine op_g ha rfl (g_pick rfl rfl) ?_; clear ha a; intro a ha; refine op_g ha rfl (g_assign rfl) ?_; clear ha a; intro a ha; refine wpList_nil ?_; replace ha := ha.sub (σ' := [(4, (.bool x91))]) ⟨rfl, trivial⟩; refine e_then ?_; refine wp_ret ?_; refine e_blk_ret ?_; refine e_then_ret ?_; obtain rfl := Option.some.inj hF
      exact f_ret1 ha rfl rfl ⟨rfl, hE96⟩
    replace hF := if_f hp90 hF
    rw [show (x84) = false from b_false (Iff.rfl) hp90] at ha
    (iterate 4 refine op_unwant ha rfl (yields ha rfl rfl) rfl ?_; clear ha a; intro a ha); refine op_g ha rfl (g_pick rfl rfl) ?_; clear ha a; intro a ha; refine op_g ha rfl (g_assign rfl) ?_; clear ha a; intro a ha; refine wpList_nil ?_; replace ha := ha.sub (σ' := [(4, (.bool false))]) ⟨rfl, trivial⟩; refine e_then ?_; refine wp_ret ?_; refine e_blk_ret ?_; refine e_then_ret ?_; obtain rfl := Option.some.inj hF
    exact f_ret1 ha rfl rfl ⟨rfl, hE89⟩
  replace hF := if_f hp83 hF; refine wp_seq ?_; refine wp_region_lit ?_; refine op_g ha rfl (g_eql rfl rfl) ?_; clear ha a; intro a ha; refine op_g ha rfl (g_assign rfl) ?_; clear ha a; intro a ha; refine wpList_nil ?_; replace ha := ha.sub (σ' := [(2, (.pointer (some ⟨b1, 0, none⟩))), (5, (.func (.func 63) #[] #[])), (6, (.func (.func 64) #[] #[])), (7, (.func (.func 65) #[] #[(.pointer (some ⟨b9, 0, none⟩))])), (10, (.int .i64 a0_0)), (60, (.bool (decide (a0_0 = 7))))]) ⟨rfl, rfl, rfl, rfl, rfl, rfl, trivial⟩; refine e_then ?_; refine c_cond (a0_0 = 7) ha rfl (decide_eq_true_iff) (fun hp97 => ?_) (fun hp97 => ?_)
  · replace hF := if_t hp97 hF
    refine wp_seq ?_; refine wp_region_lit ?_; refine op_g ha rfl (g_move rfl) ?_; clear ha a; intro a ha; refine op_g ha rfl (g_field0 st71_1 rfl) ?_; clear ha a; intro a ha; refine op_g ha rfl (g_load Try.isAgg2 rfl (hB74.cell rfl)) ?_; clear ha a; intro a ha; obtain ⟨x98, hc99, hF⟩ := cal_some hF
    refine o_callv ha rfl rfl rfl Try.call63 (W_impl_goodFact_1 ha0_1 hc99) ?_; clear ha a; rintro v100 w101 ⟨rfl, hx102⟩ a ha
    replace hB74 := hB74.ext hx102
    replace hB76 := hB76.ext hx102
    have hE103 := Ext.trans hE81 hx102
    refine op_g ha rfl (g_move rfl) ?_; clear ha a; intro a ha
    by_cases hp104 : x98 = true
    · replace hF := if_t hp104 hF
      rw [show (x98) = true from (Iff.rfl).2 hp104] at ha
      refine op_want (yields ha rfl rfl) ?_; refine op_g ha rfl (g_move rfl) ?_; clear ha a; intro a ha; refine op_want (yields ha rfl rfl) ?_; refine op_g ha rfl (g_field0 st71_2 rfl) ?_; clear ha a; intro a ha; refine op_want (yields ha rfl rfl) ?_; refine op_g ha rfl (g_load Try.isAgg2 rfl (hB74.cell rfl)) ?_; clear ha a; intro a ha; refine op_want (yields ha rfl rfl) ?_; obtain ⟨x105, hc106, hF⟩ := cal_some hF
      refine o_callv ha rfl rfl rfl Try.call65 (W_impl_goodFact_3 ha0_2 ha1 hB76 hc106) ?_; clear ha a; rintro v107 w108 ⟨rfl, hx109⟩ a ha
      replace hB74 := hB74.ext hx109
      replace hB76 := hB76.ext hx109
      have hE110 := Ext.trans hE103 hx109
      refine op_g ha rfl (g_pick rfl rfl) ?_; clear ha a; intro a ha; refine op_g ha rfl (g_assign rfl) ?_; clear ha a; intro a ha; refine wpList_nil ?_; replace ha := ha.sub (σ' := [(4, (.bool x105))]) ⟨rfl, trivial⟩; refine e_then ?_; refine wp_ret ?_; refine e_blk_ret ?_; refine e_then_ret ?_; obtain rfl := Option.some.inj hF
      exact f_ret1 ha rfl rfl ⟨rfl, hE110⟩
    replace hF := if_f hp104 hF
    rw [show (x98) = false from b_false (Iff.rfl) hp104] at ha
    (iterate 4 refine op_unwant ha rfl (yields ha rfl rfl) rfl ?_; clear ha a; intro a ha); refine op_g ha rfl (g_pick rfl rfl) ?_; clear ha a; intro a ha; refine op_g ha rfl (g_assign rfl) ?_; clear ha a; intro a ha; refine wpList_nil ?_; replace ha := ha.sub (σ' := [(4, (.bool false))]) ⟨rfl, trivial⟩; refine e_then ?_; refine wp_ret ?_; refine e_blk_ret ?_; refine e_then_ret ?_; obtain rfl := Option.some.inj hF
    exact f_ret1 ha rfl rfl ⟨rfl, hE103⟩
  replace hF := if_f hp97 hF; refine wp_seq ?_; refine wp_region_lit ?_; refine op_g ha rfl (g_eql rfl rfl) ?_; clear ha a; intro a ha; refine op_g ha rfl (g_assign rfl) ?_; clear ha a; intro a ha; refine wpList_nil ?_; replace ha := ha.sub (σ' := [(2, (.pointer (some ⟨b1, 0, none⟩))), (6, (.func (.func 64) #[] #[])), (7, (.func (.func 65) #[] #[(.pointer (some ⟨b9, 0, none⟩))])), (72, (.bool (decide (a0_0 = 8))))]) ⟨rfl, rfl, rfl, rfl, trivial⟩; refine e_then ?_; refine c_cond (a0_0 = 8) ha rfl (decide_eq_true_iff) (fun hp111 => ?_) (fun hp111 => ?_)
  · replace hF := if_t hp111 hF
    refine wp_seq ?_; refine wp_region_lit ?_; refine op_g ha rfl (g_move rfl) ?_; clear ha a; intro a ha; refine op_g ha rfl (g_field0 st71_1 rfl) ?_; clear ha a; intro a ha; refine op_g ha rfl (g_load Try.isAgg2 rfl (hB74.cell rfl)) ?_; clear ha a; intro a ha; obtain ⟨x112, hc113, hF⟩ := cal_some hF
    refine o_callv ha rfl rfl rfl Try.call64 (W_impl_goodFact_2 ha0_1 hc113) ?_; clear ha a; rintro v114 w115 ⟨rfl, hx116⟩ a ha
    replace hB74 := hB74.ext hx116
    replace hB76 := hB76.ext hx116
    have hE117 := Ext.trans hE81 hx116
    refine op_g ha rfl (g_move rfl) ?_; clear ha a; intro a ha
    by_cases hp118 : x112 = true
    · replace hF := if_t hp118 hF
      rw [show (x112) = true from (Iff.rfl).2 hp118] at ha
      refine op_want (yields ha rfl rfl) ?_; refine op_g ha rfl (g_move rfl) ?_; clear ha a; intro a ha; refine op_want (yields ha rfl rfl) ?_; refine op_g ha rfl (g_field0 st71_2 rfl) ?_; clear ha a; intro a ha; refine op_want (yields ha rfl rfl) ?_; refine op_g ha rfl (g_load Try.isAgg2 rfl (hB74.cell rfl)) ?_; clear ha a; intro a ha; refine op_want (yields ha rfl rfl) ?_; obtain ⟨x119, hc120, hF⟩ := cal_some hF
      refine o_callv ha rfl rfl rfl Try.call65 (W_impl_goodFact_3 ha0_2 ha1 hB76 hc120) ?_; clear ha a; rintro v121 w122 ⟨rfl, hx123⟩ a ha
      replace hB74 := hB74.ext hx123
      replace hB76 := hB76.ext hx123
      have hE124 := Ext.trans hE117 hx123
      refine op_g ha rfl (g_pick rfl rfl) ?_; clear ha a; intro a ha; refine op_g ha rfl (g_assign rfl) ?_; clear ha a; intro a ha; refine wpList_nil ?_; replace ha := ha.sub (σ' := [(4, (.bool x119))]) ⟨rfl, trivial⟩; refine e_then ?_; refine wp_ret ?_; refine e_blk_ret ?_; refine e_then_ret ?_; obtain rfl := Option.some.inj hF
      exact f_ret1 ha rfl rfl ⟨rfl, hE124⟩
    replace hF := if_f hp118 hF
    rw [show (x112) = false from b_false (Iff.rfl) hp118] at ha
    (iterate 4 refine op_unwant ha rfl (yields ha rfl rfl) rfl ?_; clear ha a; intro a ha); refine op_g ha rfl (g_pick rfl rfl) ?_; clear ha a; intro a ha; refine op_g ha rfl (g_assign rfl) ?_; clear ha a; intro a ha; refine wpList_nil ?_; replace ha := ha.sub (σ' := [(4, (.bool false))]) ⟨rfl, trivial⟩; refine e_then ?_; refine wp_ret ?_; refine e_blk_ret ?_; refine e_then_ret ?_; obtain rfl := Option.some.inj hF
    exact f_ret1 ha rfl rfl ⟨rfl, hE117⟩
  replace hF := if_f hp111 hF; refine wp_skip ?_; refine e_blk ?_; refine e_then ?_; refine wp_seq ?_; refine wp_region_lit ?_; refine op_g ha rfl (g_assign rfl) ?_; clear ha a; intro a ha; refine wpList_nil ?_; replace ha := ha.sub (σ' := [(4, (.bool false))]) ⟨rfl, trivial⟩; refine e_then ?_; refine wp_ret ?_; obtain rfl := Option.some.inj hF
  exact f_ret1 ha rfl rfl ⟨rfl, hE81⟩
set_option maxHeartbeats 2000000 in
theorem W_impl_FormulaOk {W : World} {va0_0 : Value} {fa0_0 : List Nat} {a0_0 : (List (Int × (Int × Int)))} (ha0_0 : Ro (Rp.prod Rp.int (Rp.prod Rp.int Rp.int)) W fa0_0 va0_0 a0_0) {r : Bool} (hF : F_impl_FormulaOk a0_0 = some r) :
    Calls Try.prog 40 [.agg #[va0_0]].toArray W (Ret fun u w' => u = .bool r ∧ Ext W w') := by
  refine f_enter Try.func40 rfl Try.ntmps40 rfl ?_
  intro a ha
  replace ha : Fr 28 [(0, (.agg #[va0_0]))] a := ha
  have hE : Chg [] W W := Chg.refl _ _
  unfold F_impl_FormulaOk at hF
  refine wp_seq ?_; refine wp_region_lit ?_
  refine o_box ha rfl rfl rfl ?_; clear ha a; intro b1 w2 hB3 hx4 hlo5 a ha
  have q6 := Zn.one hlo5
  have q7 := Zn.upD q6 hE
  have hE8 := Ext.trans hE hx4
  refine op_g ha rfl (g_assign rfl) ?_; clear ha a; intro a ha; refine wpList_nil ?_; replace ha := ha.sub (σ' := [(1, (.pointer (some ⟨b1, 0, none⟩)))]) ⟨rfl, trivial⟩; refine e_then ?_; refine wp_seq ?_; refine wp_seq ?_; refine wp_region_lit ?_; refine op_g ha rfl (g_field0 st35_0 rfl) ?_; clear ha a; intro a ha; refine op_g ha rfl (g_load Try.isAgg33 rfl (hB3.cell rfl)) ?_; clear ha a; intro a ha; refine op_g ha rfl (g_lenR sl33.und ha0_0 rfl) ?_; clear ha a; intro a ha; refine op_g ha rfl (g_lss rfl rfl) ?_; clear ha a; intro a ha; refine op_g ha rfl (g_move rfl) ?_; clear ha a; intro a ha
  by_cases hp11 : (a0_0.length : Int) < 1
  · replace hF := if_t hp11 hF
    rw [show (decide ((a0_0.length : Int) < 1)) = true from (decide_eq_true_iff).2 hp11] at ha
    (iterate 4 refine op_unwant ha rfl (yields ha rfl rfl) rfl ?_; clear ha a; intro a ha); refine op_g ha rfl (g_pick rfl rfl) ?_; clear ha a; intro a ha; refine wpList_nil ?_; replace ha := ha.sub (σ' := [(1, (.pointer (some ⟨b1, 0, none⟩))), (14, (.bool true))]) ⟨rfl, rfl, trivial⟩; refine e_then ?_; refine c_true ha rfl ?_; refine wp_seq ?_; refine wp_region_lit ?_; refine op_g ha rfl (g_assign rfl) ?_; clear ha a; intro a ha; refine wpList_nil ?_; replace ha := ha.sub (σ' := [(2, (.bool false))]) ⟨rfl, trivial⟩; refine e_then ?_; refine wp_ret ?_; refine e_then_ret ?_; obtain rfl := Option.some.inj hF
    exact f_ret1 ha rfl rfl ⟨rfl, hE8⟩
  replace hF := if_f hp11 hF
  rw [show (decide ((a0_0.length : Int) < 1)) = false from b_false (decide_eq_true_iff) hp11] at ha
  refine op_want (yields ha rfl rfl) ?_; refine op_g ha rfl (g_field0 st35_0 rfl) ?_; clear ha a; intro a ha; refine op_want (yields ha rfl rfl) ?_; refine op_g ha rfl (g_load Try.isAgg33 rfl (hB3.cell rfl)) ?_; clear ha a; intro a ha; refine op_want (yields ha rfl rfl) ?_; refine op_g ha rfl (g_lenR sl33.und ha0_0 rfl) ?_; clear ha a; intro a ha; refine op_want (yields ha rfl rfl) ?_; refine op_g ha rfl (g_gtr rfl rfl) ?_; clear ha a; intro a ha; refine op_g ha rfl (g_pick rfl rfl) ?_; clear ha a; intro a ha; refine wpList_nil ?_; replace ha := ha.sub (σ' := [(1, (.pointer (some ⟨b1, 0, none⟩))), (14, (.bool (decide (40 < (a0_0.length : Int)))))]) ⟨rfl, rfl, trivial⟩
  refine e_then ?_; refine c_cond (40 < (a0_0.length : Int)) ha rfl (decide_eq_true_iff) (fun hp12 => ?_) (fun hp12 => ?_)
  · replace hF := if_t hp12 hF
    refine wp_seq ?_; refine wp_region_lit ?_; refine op_g ha rfl (g_assign rfl) ?_; clear ha a; intro a ha; refine wpList_nil ?_; replace ha := ha.sub (σ' := [(2, (.bool false))]) ⟨rfl, trivial⟩; refine e_then ?_; refine wp_ret ?_; refine e_then_ret ?_; obtain rfl := Option.some.inj hF
    exact f_ret1 ha rfl rfl ⟨rfl, hE8⟩
  replace hF := if_f hp12 hF; refine wp_skip ?_; refine e_then ?_; refine wp_seq ?_; refine wp_seq ?_; refine wp_region_lit ?_; refine op_g ha rfl (g_field0 st35_0 rfl) ?_; clear ha a; intro a ha; refine op_g ha rfl (g_load Try.isAgg33 rfl (hB3.cell rfl)) ?_; clear ha a; intro a ha; refine op_g ha rfl (g_lenR sl33.und ha0_0 rfl) ?_; clear ha a; intro a ha; refine op_g ha rfl (g_move rfl) ?_; clear ha a; intro a ha; refine wpList_nil ?_; replace ha := ha.sub (σ' := [(16, va0_0), (17, (.int .i64 (a0_0.length : Int))), (18, (.int .i64 0))]) ⟨rfl, rfl, rfl, trivial⟩; refine e_then ?_; obtain ⟨o130, ho131, hK132⟩ := bnd_some hF
  obtain ⟨n133, hn134⟩ := lp_some ho131; clear ho131
  refine c_loop (fun a w => Fr 28 [] a ∧ Chg [] W w ∧ o130 = .inl ()) (fun n a w => ∃ (i71 : Int), Fr 28 [(16, va0_0), (17, (.int .i64 (a0_0.length : Int))), (18, (.int .i64 i71))] a ∧ Chg [] W w ∧ InI i71 ∧ lpN (fun s => F_impl_FormulaOk_l1 a0_0 s) n i71 = some o130) n133 ⟨0, ha.sub ⟨rfl, rfl, rfl, trivial⟩, hE8, (show InI 0 from by decide), hn134⟩ ?_ ?_
  · rintro m138 a w70 ⟨i71, ha, hE73, hI72, hF⟩
    cases m138 with
    | zero => exact (lpN_zero hF).elim
    | succ m138 =>
      obtain ⟨z137, hF, hN136⟩ := lpN_succ hF
      have hF : F_impl_FormulaOk_l1 a0_0 i71 = some z137 := hF; unfold F_impl_FormulaOk_l1 at hF
      refine wp_seq ?_; refine wp_region_lit ?_; refine op_g ha rfl (g_lss rfl rfl) ?_; clear ha a; intro a ha; refine wpList_nil ?_; replace ha := ha.sub (σ' := [(16, va0_0), (17, (.int .i64 (a0_0.length : Int))), (18, (.int .i64 i71)), (19, (.bool (decide (i71 < (a0_0.length : Int)))))]) ⟨rfl, rfl, rfl, rfl, trivial⟩; refine e_then ?_; refine wp_seq ?_; refine c_cond (i71 < (a0_0.length : Int)) ha rfl (decide_eq_true_iff) (fun hp139 => ?_) (fun hp139 => ?_)
      · replace hF := if_t hp139 hF
        refine wp_skip ?_; refine e_then ?_; refine wp_seq ?_; refine wp_block ?_; refine wp_seq ?_; refine wp_region_lit ?_; refine op_g ha rfl (g_move rfl) ?_; clear ha a; intro a ha; obtain ⟨x140, g141, gx142, hF⟩ := idx_some hF
        obtain ⟨p143, cs144, f145, hf146, hpb147, hat148, hr149, hi150⟩ := ha0_0.at g141 gx142
        obtain ⟨f151, f152, c153, c154, rfl, rfl, h155, h156⟩ := hr149
        obtain ⟨rfl, hI159, rfl⟩ := h155
        obtain ⟨f160, f161, c162, c163, rfl, rfl, h164, h165⟩ := h156
        obtain ⟨rfl, hI168, rfl⟩ := h164
        obtain ⟨rfl, hI169, rfl⟩ := h165
        refine op_g ha rfl (hi150.gives sl33 rfl rfl) ?_; clear ha a; intro a ha; refine op_g ha rfl (g_loadA0 (cs := [(.int .i64 x140.1), (.int .i64 x140.2.1), (.int .i64 x140.2.2)]) hE73 Try.isAgg71 Try.sizeOf71 rfl (by simp) hat148) ?_; clear ha a; intro a ha
        refine o_alloc (cs := [(.int .i64 0), (.int .i64 0), (.int .i64 0)]) ha rfl Try.zeroValue71 rfl ?_; clear ha a; intro b170 w171 hB172 hx173 hlo174 a ha
        have q175 := Zn.one hlo174
        have q176 := Zn.upD q175 hE73
        have hE177 := Ext.trans hE73 hx173
        refine op_g ha rfl (g_assign rfl) ?_; clear ha a; intro a ha
        refine o_storeA (vs := [(.int .i64 x140.1), (.int .i64 x140.2.1), (.int .i64 x140.2.2)]) ha hB172 Try.sizeOf71 rfl rfl (by intro c hc; simp only [List.mem_cons, List.not_mem_nil, or_false] at hc; rcases hc with hc | hc | hc <;> subst hc <;> first | rfl | exact rfl | exact rfl | exact rfl) rfl ?_; intro w178 hB179 hc180
        replace hc180 := hc180.bl
        replace hB179 : Bx w178 b170 [(.int .i64 x140.1), (.int .i64 x140.2.1), (.int .i64 x140.2.2)] 71 := hB179
        have hE181 := Ext.then hE177 hc180 (Zn.bl q176)
        refine wpList_nil ?_; replace ha := ha.sub (σ' := [(3, (.int .i64 i71)), (4, (.pointer (some ⟨b170, 0, none⟩))), (16, va0_0), (17, (.int .i64 (a0_0.length : Int))), (18, (.int .i64 i71))]) ⟨rfl, rfl, rfl, rfl, rfl, trivial⟩; refine e_then ?_; refine wp_seq ?_; refine wp_region_lit ?_; refine op_g ha rfl (g_loadA (cs := [(.int .i64 x140.1), (.int .i64 x140.2.1), (.int .i64 x140.2.2)]) Try.isAgg71 Try.sizeOf71 rfl (by simp) hB179.all) ?_; clear ha a; intro a ha; refine op_g ha rfl (g_move rfl) ?_; clear ha a; intro a ha; obtain ⟨x182, hc183, hF⟩ := cal_some hF
        refine o_call ha rfl rfl Try.call56 (W_impl_goodFact hI159 hI168 hI169 hI72 hc183) ?_; clear ha a; rintro v184 w185 ⟨rfl, hx186⟩ a ha
        replace hB179 := hB179.ext hx186
        have hE187 := Ext.trans hE181 hx186
        refine op_g ha rfl (g_not rfl) ?_; clear ha a; intro a ha; refine wpList_nil ?_; replace ha := ha.sub (σ' := [(16, va0_0), (17, (.int .i64 (a0_0.length : Int))), (18, (.int .i64 i71)), (26, (.bool (!x182)))]) ⟨rfl, rfl, rfl, rfl, trivial⟩; refine e_then ?_; refine c_cond (¬ (x182 = true)) ha rfl (n_iff (Iff.rfl)) (fun hp188 => ?_) (fun hp188 => ?_)
        · replace hF := if_t hp188 hF
          refine wp_seq ?_; refine wp_region_lit ?_; refine op_g ha rfl (g_assign rfl) ?_; clear ha a; intro a ha; refine wpList_nil ?_; replace ha := ha.sub (σ' := [(2, (.bool false))]) ⟨rfl, trivial⟩; refine e_then ?_; refine wp_ret ?_; refine e_blk_ret ?_; refine e_then_ret ?_; refine e_lq_ret ?_; refine e_then_ret ?_; obtain rfl := Option.some.inj hF
          have e189 := LK_inr hN136; subst e189
          have e190 := BK_inr hK132; subst e190
          exact f_ret1 ha rfl rfl ⟨rfl, hE187⟩
        replace hF := if_f hp188 hF; refine wp_skip ?_; refine e_blk ?_; refine e_then ?_; refine wp_region_lit ?_; obtain ⟨hI191, hF⟩ := ck_some hF; refine op_g ha rfl (g_add rfl rfl hI191) ?_; clear ha a; intro a ha; refine op_g ha rfl (g_move rfl) ?_; clear ha a; intro a ha; refine wpList_nil ?_; replace ha := ha.sub (σ' := [(16, va0_0), (17, (.int .i64 (a0_0.length : Int))), (18, (.int .i64 (i71 + 1)))]) ⟨rfl, rfl, rfl, trivial⟩; refine e_lq ?_; obtain rfl := Option.some.inj hF
        exact ⟨_, Nat.lt_succ_self _, i71 + 1, ha.sub ⟨rfl, rfl, rfl, trivial⟩, hE187, hI191, hN136⟩
      replace hF := if_f hp139 hF; refine wp_exit ?_; refine e_then_exit ?_; refine e_lq_eq ?_; obtain rfl := Option.some.inj hF
      exact ⟨ha.sub trivial, hE73, (LK_inr hN136).symm⟩
  rintro a w129 ⟨ha, hE135, rfl⟩
  have hF : F_impl_FormulaOk_k2 = some _ := hK132; clear hK132; unfold F_impl_FormulaOk_k2 at hF
  refine e_then ?_; refine wp_seq ?_; refine wp_region_lit ?_; refine op_g ha rfl (g_assign rfl) ?_; clear ha a; intro a ha; refine wpList_nil ?_; refine e_then ?_; refine wp_ret ?_; obtain rfl := Option.some.inj hF
  exact f_ret1 ha rfl rfl ⟨rfl, hE135⟩
set_option maxHeartbeats 2000000 in
theorem W_impl_one {W : World} {a0 : Int} (ha0 : InI a0) {r : (BitVec 32)} (hF : F_impl_one a0 = some r) :
    Calls Try.prog 53 [.int .i64 a0].toArray W (Ret fun u w' => u = .int .u32 (BitVec.toNat r : Int) ∧ Ext W w') := by
  refine f_enter Try.func53 rfl Try.ntmps53 rfl ?_
  intro a ha
  replace ha : Fr 5 [(0, (.int .i64 a0))] a := ha
  have hE : Chg [] W W := Chg.refl _ _
  unfold F_impl_one at hF
  refine wp_seq ?_; refine wp_region_lit ?_; refine op_g ha rfl (g_assign rfl) ?_; clear ha a; intro a ha; refine wpList_nil ?_; replace ha := ha.sub (σ' := [(0, (.int .i64 a0))]) ⟨rfl, trivial⟩; refine e_then ?_; refine wp_seq ?_; refine wp_region_lit ?_; refine op_g ha rfl (g_move rfl) ?_; clear ha a; intro a ha; obtain ⟨hs1, hF⟩ := grd_some hF; refine op_g ha rfl (g32_shl (m := (1#32)) rfl rfl hs1) ?_; clear ha a; intro a ha; refine op_g ha rfl (g_assign rfl) ?_; clear ha a; intro a ha; refine wpList_nil ?_; replace ha := ha.sub (σ' := [(2, (.int .u32 (BitVec.toNat ((1#32) <<< (a0 : Int).toNat) : Int)))]) ⟨rfl, trivial⟩
  refine e_then ?_; refine wp_ret ?_; obtain rfl := Option.some.inj hF
  exact f_ret1 ha rfl rfl ⟨rfl, hE⟩
set_option maxHeartbeats 2000000 in
theorem W_impl_maskOf {W : World} {va0 : Value} {fa0 : List Nat} {a0 : (List Int)} (ha0 : Ro Rp.int W fa0 va0 a0) {r : (BitVec 32)} (hF : F_impl_maskOf a0 = some r) :
    Calls Try.prog 33 [va0].toArray W (Ret fun u w' => u = .int .u32 (BitVec.toNat r : Int) ∧ Ext W w') := by
  refine f_enter Try.func33 rfl Try.ntmps33 rfl ?_
  intro a ha
  replace ha : Fr 18 [(0, va0)] a := ha
  have hE : Chg [] W W := Chg.refl _ _
  unfold F_impl_maskOf at hF
  refine wp_seq ?_; refine wp_region_lit ?_; refine op_g ha rfl (g_assign rfl) ?_; clear ha a; intro a ha; refine wpList_nil ?_; replace ha := ha.sub (σ' := [(0, va0)]) ⟨rfl, trivial⟩; refine e_then ?_; refine wp_seq ?_; refine wp_region_lit ?_; refine op_g ha rfl (g_assign rfl) ?_; clear ha a; intro a ha; refine wpList_nil ?_; refine e_then ?_; refine wp_seq ?_; refine wp_seq ?_; refine wp_region_lit ?_; refine op_g ha rfl (g_move rfl) ?_; clear ha a; intro a ha; refine op_g ha rfl (g_lenR sl40.und ha0 rfl) ?_; clear ha a; intro a ha; refine op_g ha rfl (g_move rfl) ?_; clear ha a; intro a ha
  refine wpList_nil ?_; replace ha := ha.sub (σ' := [(3, (.int .u32 (BitVec.toNat (0#32) : Int))), (6, va0), (7, (.int .i64 (a0.length : Int))), (8, (.int .i64 0))]) ⟨rfl, rfl, rfl, rfl, trivial⟩; refine e_then ?_; obtain ⟨o60, ho61, hK62⟩ := bnd_some hF
  obtain ⟨n63, hn64⟩ := lp_some ho61; clear ho61
  refine c_loop (fun a w => ∃ (u59 : BitVec 32), Fr 18 [(3, (.int .u32 (BitVec.toNat u59 : Int)))] a ∧ Chg [] W w ∧ o60 = .inl u59) (fun n a w => ∃ (u29 : BitVec 32) (i30 : Int), Fr 18 [(3, (.int .u32 (BitVec.toNat u29 : Int))), (6, va0), (7, (.int .i64 (a0.length : Int))), (8, (.int .i64 i30))] a ∧ Chg [] W w ∧ InI i30 ∧ lpN (fun s => F_impl_maskOf_l1 a0 s.1 s.2) n (u29, i30) = some o60) n63 ⟨0#32, 0, ha.sub ⟨rfl, rfl, rfl, rfl, trivial⟩, hE, (show InI 0 from by decide), hn64⟩ ?_ ?_
  · rintro m68 a w28 ⟨u29, i30, ha, hE32, hI31, hF⟩
    cases m68 with
    | zero => exact (lpN_zero hF).elim
    | succ m68 =>
      obtain ⟨z67, hF, hN66⟩ := lpN_succ hF
      have hF : F_impl_maskOf_l1 a0 u29 i30 = some z67 := hF; unfold F_impl_maskOf_l1 at hF
      refine wp_seq ?_; refine wp_region_lit ?_; refine op_g ha rfl (g_lss rfl rfl) ?_; clear ha a; intro a ha; refine wpList_nil ?_; replace ha := ha.sub (σ' := [(3, (.int .u32 (BitVec.toNat u29 : Int))), (6, va0), (7, (.int .i64 (a0.length : Int))), (8, (.int .i64 i30)), (9, (.bool (decide (i30 < (a0.length : Int)))))]) ⟨rfl, rfl, rfl, rfl, rfl, trivial⟩; refine e_then ?_; refine wp_seq ?_; refine c_cond (i30 < (a0.length : Int)) ha rfl (decide_eq_true_iff) (fun hp69 => ?_) (fun hp69 => ?_)
      · replace hF := if_t hp69 hF
        refine wp_skip ?_; refine e_then ?_; refine wp_seq ?_; refine wp_block ?_; refine wp_seq ?_; refine wp_region_lit ?_; obtain ⟨x70, g71, gx72, hF⟩ := idx_some hF
        obtain ⟨p73, cs74, f75, hf76, hpb77, hat78, hr79, hi80⟩ := ha0.at g71 gx72
        obtain ⟨rfl, hI81, rfl⟩ := hr79
        refine op_g ha rfl (hi80.gives sl40 rfl rfl) ?_; clear ha a; intro a ha; refine op_g ha rfl (g_load0 hE32 Try.isAgg2 rfl hat78.one) ?_; clear ha a; intro a ha; refine op_g ha rfl (g_assign rfl) ?_; clear ha a; intro a ha; refine wpList_nil ?_; replace ha := ha.sub (σ' := [(3, (.int .u32 (BitVec.toNat u29 : Int))), (5, (.int .i64 x70)), (6, va0), (7, (.int .i64 (a0.length : Int))), (8, (.int .i64 i30))]) ⟨rfl, rfl, rfl, rfl, rfl, trivial⟩; refine e_then ?_; refine wp_region_lit ?_; (iterate 2 refine op_g ha rfl (g_move rfl) ?_; clear ha a; intro a ha); obtain ⟨x82, hc83, hF⟩ := cal_some hF
        refine o_call ha rfl rfl Try.call53 (W_impl_one hI81 hc83) ?_; clear ha a; rintro v84 w85 ⟨rfl, hx86⟩ a ha
        have hE87 := Ext.trans hE32 hx86
        refine op_g ha rfl (g32_or (m := u29) (n := x82) rfl rfl) ?_; clear ha a; intro a ha; refine op_g ha rfl (g_assign rfl) ?_; clear ha a; intro a ha; refine wpList_nil ?_; replace ha := ha.sub (σ' := [(3, (.int .u32 (BitVec.toNat (u29 ||| x82) : Int))), (6, va0), (7, (.int .i64 (a0.length : Int))), (8, (.int .i64 i30))]) ⟨rfl, rfl, rfl, rfl, trivial⟩; refine e_blk ?_; refine e_then ?_; refine wp_region_lit ?_; obtain ⟨hI88, hF⟩ := ck_some hF; refine op_g ha rfl (g_add rfl rfl hI88) ?_; clear ha a; intro a ha; refine op_g ha rfl (g_move rfl) ?_; clear ha a; intro a ha; refine wpList_nil ?_
        replace ha := ha.sub (σ' := [(3, (.int .u32 (BitVec.toNat (u29 ||| x82) : Int))), (6, va0), (7, (.int .i64 (a0.length : Int))), (8, (.int .i64 (i30 + 1)))]) ⟨rfl, rfl, rfl, rfl, trivial⟩; refine e_lq ?_; obtain rfl := Option.some.inj hF
        exact ⟨_, Nat.lt_succ_self _, u29 ||| x82, i30 + 1, ha.sub ⟨rfl, rfl, rfl, rfl, trivial⟩, hE87, hI88, hN66⟩
      replace hF := if_f hp69 hF; refine wp_exit ?_; refine e_then_exit ?_; refine e_lq_eq ?_; obtain rfl := Option.some.inj hF
      exact ⟨u29, ha.sub ⟨rfl, trivial⟩, hE32, (LK_inr hN66).symm⟩
  rintro a w58 ⟨u59, ha, hE65, rfl⟩
  have hF : F_impl_maskOf_k2 u59 = some _ := hK62; clear hK62; unfold F_impl_maskOf_k2 at hF
  refine e_then ?_; refine wp_seq ?_; refine wp_region_lit ?_; refine op_g ha rfl (g_move rfl) ?_; clear ha a; intro a ha; refine op_g ha rfl (g_assign rfl) ?_; clear ha a; intro a ha; refine wpList_nil ?_; replace ha := ha.sub (σ' := [(2, (.int .u32 (BitVec.toNat u59 : Int)))]) ⟨rfl, trivial⟩; refine e_then ?_; refine wp_ret ?_; obtain rfl := Option.some.inj hF
  exact f_ret1 ha rfl rfl ⟨rfl, hE65⟩
set_option maxHeartbeats 2000000 in
theorem W_impl_netsOf {W : World} {va0_0 : Value} {fa0_0 : List Nat} {a0_0 : (List (List Int))} (ha0_0 : Ro (Rp.sl 2 Rp.int) W fa0_0 va0_0 a0_0) {r : (List (BitVec 32))} (hF : F_impl_netsOf a0_0 = some r) :
    Calls Try.prog 41 [.agg #[va0_0]].toArray W (Ret fun u w' => ∃ (b_u : Int), Ow Rp.u32 56 true w' [] b_u u r ∧ Zn W b_u ∧ Ext W w') := by
  refine f_enter Try.func41 rfl Try.ntmps41 rfl ?_
  intro a ha
  replace ha : Fr 21 [(0, (.agg #[va0_0]))] a := ha
  have hE : Chg [] W W := Chg.refl _ _
  unfold F_impl_netsOf at hF
  refine wp_seq ?_; refine wp_region_lit ?_
  refine o_box ha rfl rfl rfl ?_; clear ha a; intro b1 w2 hB3 hx4 hlo5 a ha
  have q6 := Zn.one hlo5
  have q7 := Zn.upD q6 hE
  have hE8 := Ext.trans hE hx4
  refine op_g ha rfl (g_assign rfl) ?_; clear ha a; intro a ha; refine wpList_nil ?_; replace ha := ha.sub (σ' := [(1, (.pointer (some ⟨b1, 0, none⟩)))]) ⟨rfl, trivial⟩; refine e_then ?_; refine wp_seq ?_; refine wp_region_lit ?_
  refine o_lit0 Rp.u32 ha rfl sl75 ?_; clear ha a; intro v9 w10 h11 hx12 a ha
  obtain ⟨b14, hb14⟩ : ∃ b : Int, b = w2.heap.size := ⟨_, rfl⟩; rw [← hb14] at h11
  have q15 := zn_of hb14
  have q16 := Nq.new hB3.fpb q15
  have q17 := Nq.madeO q15 hB3.bi
  have q18 := Zn.upD q15 hE8
  replace hB3 := hB3.ext hx12
  have hE19 := Ext.trans hE8 hx12
  refine op_g ha rfl (g_assign rfl) ?_; clear ha a; intro a ha; refine wpList_nil ?_; replace ha := ha.sub (σ' := [(1, (.pointer (some ⟨b1, 0, none⟩))), (3, v9)]) ⟨rfl, rfl, trivial⟩; refine e_then ?_; refine wp_seq ?_; refine wp_seq ?_; refine wp_region_lit ?_; refine op_g ha rfl (g_field0 st31_0 rfl) ?_; clear ha a; intro a ha; refine op_g ha rfl (g_load Try.isAgg22 rfl (hB3.cell rfl)) ?_; clear ha a; intro a ha; refine op_g ha rfl (g_lenR sl22.und ha0_0 rfl) ?_; clear ha a; intro a ha; refine op_g ha rfl (g_move rfl) ?_; clear ha a; intro a ha; refine wpList_nil ?_; replace ha := ha.sub (σ' := [(3, v9), (8, va0_0), (9, (.int .i64 (a0_0.length : Int))), (10, (.int .i64 0))]) ⟨rfl, rfl, rfl, rfl, trivial⟩
  refine e_then ?_; obtain ⟨o152, ho153, hK154⟩ := bnd_some hF
  obtain ⟨n155, hn156⟩ := lp_some ho153; clear ho153
  refine c_loop (fun a w => ∃ (l149 : (List (BitVec 32))) (v150 : Value) (b151 : Int), Fr 21 [(3, v150)] a ∧ Chg [] W w ∧ Ow Rp.u32 56 true w [] b151 v150 l149 ∧ Zn W b151 ∧ o152 = .inl l149) (fun n a w => ∃ (l84 : (List (BitVec 32))) (i87 : Int) (v85 : Value) (b86 : Int), Fr 21 [(3, v85), (8, va0_0), (9, (.int .i64 (a0_0.length : Int))), (10, (.int .i64 i87))] a ∧ Chg [] W w ∧ InI i87 ∧ Ow Rp.u32 56 true w [] b86 v85 l84 ∧ Zn W b86 ∧ lpN (fun s => F_impl_netsOf_l1 a0_0 s.1 s.2) n (l84, i87) = some o152) n155 ⟨([] : (List (BitVec 32))), 0, v9, b14, ha.sub ⟨rfl, rfl, rfl, rfl, trivial⟩, hE19, (show InI 0 from by decide), h11, q18, hn156⟩ ?_ ?_
  · rintro m160 a w80 ⟨l84, i87, v85, b86, ha, hE89, hI88, h82, z83, hF⟩
    cases m160 with
    | zero => exact (lpN_zero hF).elim
    | succ m160 =>
      obtain ⟨z159, hF, hN158⟩ := lpN_succ hF
      have hF : F_impl_netsOf_l1 a0_0 l84 i87 = some z159 := hF; unfold F_impl_netsOf_l1 at hF
      refine wp_seq ?_; refine wp_region_lit ?_; refine op_g ha rfl (g_lss rfl rfl) ?_; clear ha a; intro a ha; refine wpList_nil ?_; replace ha := ha.sub (σ' := [(3, v85), (8, va0_0), (9, (.int .i64 (a0_0.length : Int))), (10, (.int .i64 i87)), (11, (.bool (decide (i87 < (a0_0.length : Int)))))]) ⟨rfl, rfl, rfl, rfl, rfl, trivial⟩; refine e_then ?_; refine wp_seq ?_; refine c_cond (i87 < (a0_0.length : Int)) ha rfl (decide_eq_true_iff) (fun hp161 => ?_) (fun hp161 => ?_)
      · replace hF := if_t hp161 hF
        refine wp_skip ?_; refine e_then ?_; refine wp_seq ?_; refine wp_block ?_; refine wp_seq ?_; refine wp_region_lit ?_; obtain ⟨x162, g163, gx164, hF⟩ := idx_some hF
        obtain ⟨p165, cs166, f167, hf168, hpb169, hat170, hr171, hi172⟩ := ha0_0.at g163 gx164
        obtain ⟨v173, rfl, h174⟩ := hr171
        have h174 : Ro Rp.int W f167 v173 x162 := h174
        refine op_g ha rfl (hi172.gives sl22 rfl rfl) ?_; clear ha a; intro a ha; refine op_g ha rfl (g_load0 hE89 Try.isAgg40 rfl hat170.one) ?_; clear ha a; intro a ha; refine op_g ha rfl (g_assign rfl) ?_; clear ha a; intro a ha; refine wpList_nil ?_; replace ha := ha.sub (σ' := [(3, v85), (5, v173), (8, va0_0), (9, (.int .i64 (a0_0.length : Int))), (10, (.int .i64 i87))]) ⟨rfl, rfl, rfl, rfl, rfl, trivial⟩; refine e_then ?_; refine wp_region_lit ?_; (iterate 2 refine op_g ha rfl (g_move rfl) ?_; clear ha a; intro a ha); obtain ⟨x176, hc177, hF⟩ := cal_some hF
        refine o_call ha rfl rfl Try.call33 (W_impl_maskOf (h174.ext hE89) hc177) ?_; clear ha a; rintro v178 w179 ⟨rfl, hx180⟩ a ha
        replace h82 := h82.ext hx180
        have hE181 := Ext.trans hE89 hx180
        refine o_lit1 (o := true) (y := x176) Rp.u32 ha rfl sl75 rfl rfl rfl ⟨rfl, rfl⟩ ?_; clear ha a; intro v182 w183 h184 hx185 a ha
        obtain ⟨b187, hb187⟩ : ∃ b : Int, b = w179.heap.size := ⟨_, rfl⟩; rw [← hb187] at h184
        have q188 := zn_of hb187
        have q189 := Nq.new h82.fpb q188
        have q190 := Nq.madeO q188 h82.blt
        have q191 := Zn.upD q188 hE181
        replace h82 := h82.ext hx185
        have hE192 := Ext.trans hE181 hx185
        obtain ⟨hl193, hF⟩ := app_some hF
        refine o_append ha rfl sl75 rfl rfl rfl h82 h184.src (Nq.nil _) hl193 ?_; clear ha a; intro v194 w195 b196 h197 hc198 hb199 a ha
        replace h197 : Ow Rp.u32 56 true w195 [] b196 v194 _ := h197
        have q201 := Nq.appY q190 h184.fpb hb199
        have q202 := Nq.appX q189 (Nq.nil _) hb199 h184.blt
        have q203 := Zn.appD z83 hb199 hE192
        replace h184 := h184.nq hc198 q190
        have hE204 := Ext.then hE192 hc198 (Zn.bl z83)
        refine op_g ha rfl (g_assign rfl) ?_; clear ha a; intro a ha; refine wpList_nil ?_; replace ha := ha.sub (σ' := [(3, v194), (8, va0_0), (9, (.int .i64 (a0_0.length : Int))), (10, (.int .i64 i87))]) ⟨rfl, rfl, rfl, rfl, trivial⟩; refine e_blk ?_; refine e_then ?_; refine wp_region_lit ?_; obtain ⟨hI205, hF⟩ := ck_some hF; refine op_g ha rfl (g_add rfl rfl hI205) ?_; clear ha a; intro a ha; refine op_g ha rfl (g_move rfl) ?_; clear ha a; intro a ha; refine wpList_nil ?_; replace ha := ha.sub (σ' := [(3, v194), (8, va0_0), (9, (.int .i64 (a0_0.length : Int))), (10, (.int .i64 (i87 + 1)))]) ⟨rfl, rfl, rfl, rfl, trivial⟩
        refine e_lq ?_; obtain rfl := Option.some.inj hF
        exact ⟨_, Nat.lt_succ_self _, (l84 ++ ([x176])), i87 + 1, v194, b196, ha.sub ⟨rfl, rfl, rfl, rfl, trivial⟩, hE204, hI205, h197, q203, hN158⟩
      replace hF := if_f hp161 hF; refine wp_exit ?_; refine e_then_exit ?_; refine e_lq_eq ?_; obtain rfl := Option.some.inj hF
      exact ⟨l84, v85, b86, ha.sub ⟨rfl, trivial⟩, hE89, h82, z83, (LK_inr hN158).symm⟩
  rintro a w145 ⟨l149, v150, b151, ha, hE157, h147, z148, rfl⟩
  have hF : F_impl_netsOf_k2 l149 = some _ := hK154; clear hK154; unfold F_impl_netsOf_k2 at hF
  refine e_then ?_; refine wp_seq ?_; refine wp_region_lit ?_; refine op_g ha rfl (g_move rfl) ?_; clear ha a; intro a ha; refine op_g ha rfl (g_assign rfl) ?_; clear ha a; intro a ha; refine wpList_nil ?_; replace ha := ha.sub (σ' := [(2, v150)]) ⟨rfl, trivial⟩; refine e_then ?_; refine wp_ret ?_; obtain rfl := Option.some.inj hF
  exact f_ret1 ha rfl rfl ⟨_, h147, z148, hE157⟩
end Go.Proofs.Ytjcnkijmbjhcnaa
