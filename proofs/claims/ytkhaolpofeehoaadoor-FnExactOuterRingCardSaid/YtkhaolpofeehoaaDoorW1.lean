/- Walks, printed by gen.py. -/
import Derived.Test.YtkhaolpofeehoaaDoorF
import Derived.Test.YtkhaolpofeehoaaDoorDeep
import Derived.Test.YtkhaolpofeehoaaDoorSorts
import Derived.Test.YtkhaolpofeehoaaDoorDrawE
import Derived.Test.YtkhaolpofeehoaaDoorProg
import Derived.KernelRfl
set_option maxRecDepth 100000
namespace Go.Proofs.YtkhaolpofeehoaaDoor
open Go Go.RowKit

theorem hmix : Tryd.prog.follows .mixedOrders = true := by kernel_rfl
theorem st24_0 : stF Tryd.prog 24 0 = some 0 := by kernel_rfl
theorem sl22 : SlT Tryd.prog 22 31 1 24 (.slice none 0 0) := ⟨by kernel_rfl, by kernel_rfl, by rfl⟩
theorem sl31 : SlT Tryd.prog 31 2 1 8 (.int .i64 0) := ⟨by kernel_rfl, by kernel_rfl, by rfl⟩
theorem st27_0 : stF Tryd.prog 27 0 = some 0 := by kernel_rfl
theorem st43_1 : stF Tryd.prog 43 1 = some 1 := by kernel_rfl
theorem st43_0 : stF Tryd.prog 43 0 = some 0 := by kernel_rfl
theorem sl57 : SlT Tryd.prog 57 3 1 8 (.int .i64 0) := ⟨by kernel_rfl, by kernel_rfl, by rfl⟩
theorem un4 : Tryd.prog.underlying 4 = some .bool := by kernel_rfl
theorem un75 : Tryd.prog.underlying 75 = some (.array 32 5) := by kernel_rfl
theorem un5 : Tryd.prog.underlying 5 = some (.int .u8) := by kernel_rfl
theorem un3 : Tryd.prog.underlying 3 = some (.int .i64) := by kernel_rfl
set_option maxHeartbeats 2000000 in
theorem W_laws_szInt64S {W : World} {va0 : Value} {fa0 : List Nat} {a0 : (List Int)} (ha0 : Ro Rp.int W fa0 va0 a0) {a1 : Int} (ha1 : InI a1) {r : Int} (hF : F_laws_szInt64S a0 a1 = some r) :
    Calls Tryd.prog 27 [va0, .int .i64 a1].toArray W (Ret fun u w' => (u = .int .i64 r ∧ InI r) ∧ Ext W w') := by
  refine f_enter Tryd.func27 rfl Tryd.ntmps27 rfl ?_
  intro a ha
  replace ha : Fr 12 [(0, va0), (1, (.int .i64 a1))] a := ha
  have hE : Chg [] W W := Chg.refl _ _
  unfold F_laws_szInt64S at hF
  refine wp_seq ?_; refine wp_region_lit ?_; refine op_g ha rfl (g_assign rfl) ?_; clear ha a; intro a ha; refine wpList_nil ?_; replace ha := ha.sub (σ' := [(0, va0), (1, (.int .i64 a1))]) ⟨rfl, rfl, trivial⟩; refine e_then ?_; refine wp_seq ?_; refine wp_region_lit ?_; (iterate 2 refine op_g ha rfl (g_move rfl) ?_; clear ha a; intro a ha); refine op_g ha rfl (g_lenR sl31.und ha0 rfl) ?_; clear ha a; intro a ha; obtain ⟨hI1, hF⟩ := ck_some hF; refine op_g ha rfl (g_sub rfl rfl hI1) ?_; clear ha a; intro a ha; refine op_g ha rfl (g_assign rfl) ?_; clear ha a; intro a ha; refine wpList_nil ?_; replace ha := ha.sub (σ' := [(1, (.int .i64 (a1 - (a0.length : Int))))]) ⟨rfl, trivial⟩
  refine e_then ?_; refine wp_seq ?_; refine wp_seq ?_; refine wp_region_lit ?_; refine op_g ha rfl (g_move rfl) ?_; clear ha a; intro a ha; refine op_g ha rfl (g_lss rfl rfl) ?_; clear ha a; intro a ha; refine wpList_nil ?_; replace ha := ha.sub (σ' := [(1, (.int .i64 (a1 - (a0.length : Int)))), (10, (.bool (decide ((a1 - (a0.length : Int)) < 0))))]) ⟨rfl, rfl, trivial⟩; refine e_then ?_; refine c_cond ((a1 - (a0.length : Int)) < 0) ha rfl (decide_eq_true_iff) (fun hp3 => ?_) (fun hp3 => ?_)
  · replace hF := if_t hp3 hF
    refine wp_seq ?_; refine wp_region_lit ?_; refine op_g ha rfl (g_assign rfl) ?_; clear ha a; intro a ha; refine wpList_nil ?_; replace ha := ha.sub (σ' := [(4, (.int .i64 (-1)))]) ⟨rfl, trivial⟩; refine e_then ?_; refine wp_ret ?_; refine e_then_ret ?_; obtain rfl := Option.some.inj hF
    exact f_ret1 ha rfl rfl ⟨⟨rfl, (show InI (-1) from by decide)⟩, hE⟩
  replace hF := if_f hp3 hF; refine wp_skip ?_; refine e_then ?_; refine wp_seq ?_; refine wp_region_lit ?_; refine op_g ha rfl (g_move rfl) ?_; clear ha a; intro a ha; refine op_g ha rfl (g_assign rfl) ?_; clear ha a; intro a ha; refine wpList_nil ?_; replace ha := ha.sub (σ' := [(4, (.int .i64 (a1 - (a0.length : Int))))]) ⟨rfl, trivial⟩; refine e_then ?_; refine wp_ret ?_; obtain rfl := Option.some.inj hF
  exact f_ret1 ha rfl rfl ⟨⟨rfl, hI1⟩, hE⟩
set_option maxHeartbeats 2000000 in
theorem W_laws_szInt64SS {W : World} {va0 : Value} {fa0 : List Nat} {a0 : (List (List Int))} (ha0 : Ro (Rp.sl 2 Rp.int) W fa0 va0 a0) {a1 : Int} (ha1 : InI a1) {r : Int} (hF : F_laws_szInt64SS a0 a1 = some r) :
    Calls Tryd.prog 19 [va0, .int .i64 a1].toArray W (Ret fun u w' => (u = .int .i64 r ∧ InI r) ∧ Ext W w') := by
  refine f_enter Tryd.func19 rfl Tryd.ntmps19 rfl ?_
  intro a ha
  replace ha : Fr 27 [(0, va0), (1, (.int .i64 a1))] a := ha
  have hE : Chg [] W W := Chg.refl _ _
  unfold F_laws_szInt64SS at hF
  refine wp_seq ?_; refine wp_region_lit ?_; refine op_g ha rfl (g_assign rfl) ?_; clear ha a; intro a ha; refine wpList_nil ?_; replace ha := ha.sub (σ' := [(0, va0), (1, (.int .i64 a1))]) ⟨rfl, rfl, trivial⟩; refine e_then ?_; refine wp_seq ?_; refine wp_region_lit ?_; (iterate 2 refine op_g ha rfl (g_move rfl) ?_; clear ha a; intro a ha); refine op_g ha rfl (g_lenR sl22.und ha0 rfl) ?_; clear ha a; intro a ha; obtain ⟨hI1, hF⟩ := ck_some hF; refine op_g ha rfl (g_sub rfl rfl hI1) ?_; clear ha a; intro a ha; refine op_g ha rfl (g_assign rfl) ?_; clear ha a; intro a ha; refine wpList_nil ?_; replace ha := ha.sub (σ' := [(0, va0), (1, (.int .i64 (a1 - (a0.length : Int))))]) ⟨rfl, rfl, trivial⟩
  refine e_then ?_; refine wp_seq ?_; refine wp_seq ?_; refine wp_region_lit ?_; refine op_g ha rfl (g_move rfl) ?_; clear ha a; intro a ha; refine op_g ha rfl (g_lss rfl rfl) ?_; clear ha a; intro a ha; refine wpList_nil ?_; replace ha := ha.sub (σ' := [(0, va0), (1, (.int .i64 (a1 - (a0.length : Int)))), (11, (.bool (decide ((a1 - (a0.length : Int)) < 0))))]) ⟨rfl, rfl, rfl, trivial⟩; refine e_then ?_; refine c_cond ((a1 - (a0.length : Int)) < 0) ha rfl (decide_eq_true_iff) (fun hp3 => ?_) (fun hp3 => ?_)
  · replace hF := if_t hp3 hF
    refine wp_seq ?_; refine wp_region_lit ?_; refine op_g ha rfl (g_assign rfl) ?_; clear ha a; intro a ha; refine wpList_nil ?_; replace ha := ha.sub (σ' := [(4, (.int .i64 (-1)))]) ⟨rfl, trivial⟩; refine e_then ?_; refine wp_ret ?_; refine e_then_ret ?_; obtain rfl := Option.some.inj hF
    exact f_ret1 ha rfl rfl ⟨⟨rfl, (show InI (-1) from by decide)⟩, hE⟩
  replace hF := if_f hp3 hF; refine wp_skip ?_; refine e_then ?_; refine wp_seq ?_; refine wp_seq ?_; refine wp_region_lit ?_; refine op_g ha rfl (g_assign rfl) ?_; clear ha a; intro a ha; refine wpList_nil ?_; replace ha := ha.sub (σ' := [(0, va0), (1, (.int .i64 (a1 - (a0.length : Int)))), (5, (.int .i64 0))]) ⟨rfl, rfl, rfl, trivial⟩; refine e_then ?_; obtain ⟨o75, ho76, hK77⟩ := bnd_some hF
  obtain ⟨n78, hn79⟩ := lp_some ho76; clear ho76
  refine c_loop (fun a w => ∃ (i73 : Int), Fr 27 [(1, (.int .i64 i73))] a ∧ Chg [] W w ∧ InI i73 ∧ o75 = .inl i73) (fun n a w => ∃ (i37 : Int) (i39 : Int), Fr 27 [(0, va0), (1, (.int .i64 i37)), (5, (.int .i64 i39))] a ∧ Chg [] W w ∧ InI i37 ∧ InI i39 ∧ lpN (fun s => F_laws_szInt64SS_l1 a0 s.1 s.2) n (i37, i39) = some o75) n78 ⟨a1 - (a0.length : Int), 0, ha.sub ⟨rfl, rfl, rfl, trivial⟩, hE, hI1, (show InI 0 from by decide), hn79⟩ ?_ ?_
  · rintro m83 a w36 ⟨i37, i39, ha, hE41, hI38, hI40, hF⟩
    cases m83 with
    | zero => exact (lpN_zero hF).elim
    | succ m83 =>
      obtain ⟨z82, hF, hN81⟩ := lpN_succ hF
      have hF : F_laws_szInt64SS_l1 a0 i37 i39 = some z82 := hF; unfold F_laws_szInt64SS_l1 at hF
      refine wp_seq ?_; refine wp_seq ?_; refine wp_region_lit ?_; (iterate 2 refine op_g ha rfl (g_move rfl) ?_; clear ha a; intro a ha); refine op_g ha rfl (g_lenR sl22.und ha0 rfl) ?_; clear ha a; intro a ha; refine op_g ha rfl (g_lss rfl rfl) ?_; clear ha a; intro a ha; refine wpList_nil ?_; replace ha := ha.sub (σ' := [(0, va0), (1, (.int .i64 i37)), (5, (.int .i64 i39)), (15, (.bool (decide (i39 < (a0.length : Int)))))]) ⟨rfl, rfl, rfl, rfl, trivial⟩; refine e_then ?_; refine c_cond (i39 < (a0.length : Int)) ha rfl (decide_eq_true_iff) (fun hp84 => ?_) (fun hp84 => ?_)
      · replace hF := if_t hp84 hF
        refine wp_skip ?_; refine e_then ?_; refine wp_seq ?_; refine wp_block ?_; refine wp_seq ?_; refine wp_region_lit ?_; (iterate 2 refine op_g ha rfl (g_move rfl) ?_; clear ha a; intro a ha); obtain ⟨x85, g86, gx87, hF⟩ := idx_some hF
        obtain ⟨p88, cs89, f90, hf91, hpb92, hat93, hr94, hi95⟩ := ha0.at g86 gx87
        obtain ⟨v96, rfl, h97⟩ := hr94
        have h97 : Ro Rp.int W f90 v96 x85 := h97
        refine op_g ha rfl (hi95.gives sl22 rfl rfl) ?_; clear ha a; intro a ha; refine op_g ha rfl (g_load0 hE41 Tryd.isAgg31 rfl hat93.one) ?_; clear ha a; intro a ha; refine op_g ha rfl (g_move rfl) ?_; clear ha a; intro a ha; obtain ⟨x99, hc100, hF⟩ := cal_some hF
        refine o_call ha rfl rfl Tryd.call27 (W_laws_szInt64S (h97.ext hE41) hI38 hc100) ?_; clear ha a; rintro v101 w102 ⟨⟨rfl, hI104⟩, hx103⟩ a ha
        have hE105 := Ext.trans hE41 hx103
        refine op_g ha rfl (g_assign rfl) ?_; clear ha a; intro a ha; refine wpList_nil ?_; replace ha := ha.sub (σ' := [(0, va0), (1, (.int .i64 x99)), (5, (.int .i64 i39))]) ⟨rfl, rfl, rfl, trivial⟩; refine e_then ?_; refine wp_seq ?_; refine wp_region_lit ?_; refine op_g ha rfl (g_move rfl) ?_; clear ha a; intro a ha; refine op_g ha rfl (g_lss rfl rfl) ?_; clear ha a; intro a ha; refine wpList_nil ?_; replace ha := ha.sub (σ' := [(0, va0), (1, (.int .i64 x99)), (5, (.int .i64 i39)), (25, (.bool (decide (x99 < 0))))]) ⟨rfl, rfl, rfl, rfl, trivial⟩; refine e_then ?_; refine c_cond (x99 < 0) ha rfl (decide_eq_true_iff) (fun hp106 => ?_) (fun hp106 => ?_)
        · replace hF := if_t hp106 hF
          refine wp_seq ?_; refine wp_region_lit ?_; refine op_g ha rfl (g_assign rfl) ?_; clear ha a; intro a ha; refine wpList_nil ?_; replace ha := ha.sub (σ' := [(4, (.int .i64 (-1)))]) ⟨rfl, trivial⟩; refine e_then ?_; refine wp_ret ?_; refine e_blk_ret ?_; refine e_then_ret ?_; refine e_lq_ret ?_; refine e_then_ret ?_; obtain rfl := Option.some.inj hF
          have e107 := LK_inr hN81; subst e107
          have e108 := BK_inr hK77; subst e108
          exact f_ret1 ha rfl rfl ⟨⟨rfl, (show InI (-1) from by decide)⟩, hE105⟩
        replace hF := if_f hp106 hF; refine wp_skip ?_; refine e_blk ?_; refine e_then ?_; refine wp_region_lit ?_; refine op_g ha rfl (g_move rfl) ?_; clear ha a; intro a ha; obtain ⟨hI109, hF⟩ := ck_some hF; refine op_g ha rfl (g_add rfl rfl hI109) ?_; clear ha a; intro a ha; refine op_g ha rfl (g_assign rfl) ?_; clear ha a; intro a ha; refine wpList_nil ?_; replace ha := ha.sub (σ' := [(0, va0), (1, (.int .i64 x99)), (5, (.int .i64 (i39 + 1)))]) ⟨rfl, rfl, rfl, trivial⟩; refine e_lq ?_; obtain rfl := Option.some.inj hF
        exact ⟨_, Nat.lt_succ_self _, x99, i39 + 1, ha.sub ⟨rfl, rfl, rfl, trivial⟩, hE105, hI104, hI109, hN81⟩
      replace hF := if_f hp84 hF; refine wp_exit ?_; refine e_then_exit ?_; refine e_lq_eq ?_; obtain rfl := Option.some.inj hF
      exact ⟨i37, ha.sub ⟨rfl, trivial⟩, hE41, hI38, (LK_inr hN81).symm⟩
  rintro a w72 ⟨i73, ha, hE80, hI74, rfl⟩
  have hF : F_laws_szInt64SS_k2 i73 = some _ := hK77; clear hK77; unfold F_laws_szInt64SS_k2 at hF
  refine e_then ?_; refine wp_seq ?_; refine wp_region_lit ?_; refine op_g ha rfl (g_move rfl) ?_; clear ha a; intro a ha; refine op_g ha rfl (g_assign rfl) ?_; clear ha a; intro a ha; refine wpList_nil ?_; replace ha := ha.sub (σ' := [(4, (.int .i64 i73))]) ⟨rfl, trivial⟩; refine e_then ?_; refine wp_ret ?_; obtain rfl := Option.some.inj hF
  exact f_ret1 ha rfl rfl ⟨⟨rfl, hI74⟩, hE80⟩
set_option maxHeartbeats 2000000 in
theorem W_laws_szGraph {W : World} {va0_0 : Value} {fa0_0 : List Nat} {a0_0 : (List (List Int))} (ha0_0 : Ro (Rp.sl 2 Rp.int) W fa0_0 va0_0 a0_0) {a1 : Int} (ha1 : InI a1) {r : Int} (hF : F_laws_szGraph a0_0 a1 = some r) :
    Calls Tryd.prog 6 [.agg #[va0_0], .int .i64 a1].toArray W (Ret fun u w' => (u = .int .i64 r ∧ InI r) ∧ Ext W w') := by
  refine f_enter Tryd.func6 rfl Tryd.ntmps6 rfl ?_
  intro a ha
  replace ha : Fr 12 [(0, (.agg #[va0_0])), (1, (.int .i64 a1))] a := ha
  have hE : Chg [] W W := Chg.refl _ _
  unfold F_laws_szGraph at hF
  refine wp_seq ?_; refine wp_region_lit ?_
  refine o_box ha rfl rfl rfl ?_; clear ha a; intro b1 w2 hB3 hx4 hlo5 a ha
  have q6 := Zn.one hlo5
  have q7 := Zn.upD q6 hE
  have hE8 := Ext.trans hE hx4
  refine op_g ha rfl (g_assign rfl) ?_; clear ha a; intro a ha; refine wpList_nil ?_; replace ha := ha.sub (σ' := [(1, (.int .i64 a1)), (2, (.pointer (some ⟨b1, 0, none⟩)))]) ⟨rfl, rfl, trivial⟩; refine e_then ?_; refine wp_seq ?_; refine wp_region_lit ?_; refine op_g ha rfl (g_field0 st24_0 rfl) ?_; clear ha a; intro a ha; refine op_g ha rfl (g_load Tryd.isAgg22 rfl (hB3.cell rfl)) ?_; clear ha a; intro a ha; refine op_g ha rfl (g_move rfl) ?_; clear ha a; intro a ha; obtain ⟨x9, hc10, hF⟩ := cal_some hF
  refine o_call ha rfl rfl Tryd.call19 (W_laws_szInt64SS (ha0_0.ext hE8) ha1 hc10) ?_; clear ha a; rintro v11 w12 ⟨⟨rfl, hI14⟩, hx13⟩ a ha
  replace hB3 := hB3.ext hx13
  have hE15 := Ext.trans hE8 hx13
  refine op_g ha rfl (g_assign rfl) ?_; clear ha a; intro a ha; refine wpList_nil ?_; replace ha := ha.sub (σ' := [(1, (.int .i64 x9))]) ⟨rfl, trivial⟩; refine e_then ?_; refine wp_seq ?_; refine wp_seq ?_; refine wp_region_lit ?_; refine op_g ha rfl (g_move rfl) ?_; clear ha a; intro a ha; refine op_g ha rfl (g_lss rfl rfl) ?_; clear ha a; intro a ha; refine wpList_nil ?_; replace ha := ha.sub (σ' := [(1, (.int .i64 x9)), (10, (.bool (decide (x9 < 0))))]) ⟨rfl, rfl, trivial⟩; refine e_then ?_; refine c_cond (x9 < 0) ha rfl (decide_eq_true_iff) (fun hp16 => ?_) (fun hp16 => ?_)
  · replace hF := if_t hp16 hF
    refine wp_seq ?_; refine wp_region_lit ?_; refine op_g ha rfl (g_assign rfl) ?_; clear ha a; intro a ha; refine wpList_nil ?_; replace ha := ha.sub (σ' := [(4, (.int .i64 (-1)))]) ⟨rfl, trivial⟩; refine e_then ?_; refine wp_ret ?_; refine e_then_ret ?_; obtain rfl := Option.some.inj hF
    exact f_ret1 ha rfl rfl ⟨⟨rfl, (show InI (-1) from by decide)⟩, hE15⟩
  replace hF := if_f hp16 hF; refine wp_skip ?_; refine e_then ?_; refine wp_seq ?_; refine wp_region_lit ?_; refine op_g ha rfl (g_move rfl) ?_; clear ha a; intro a ha; refine op_g ha rfl (g_assign rfl) ?_; clear ha a; intro a ha; refine wpList_nil ?_; replace ha := ha.sub (σ' := [(4, (.int .i64 x9))]) ⟨rfl, trivial⟩; refine e_then ?_; refine wp_ret ?_; obtain rfl := Option.some.inj hF
  exact f_ret1 ha rfl rfl ⟨⟨rfl, hI14⟩, hE15⟩
set_option maxHeartbeats 2000000 in
theorem W_laws_toInt64S {W : World} {va0 : Value} {fa0 : List Nat} {a0 : (List Int)} (ha0 : Ro Rp.int W fa0 va0 a0) {r : (List Int)} (hF : F_laws_toInt64S a0 = some r) :
    Calls Tryd.prog 28 [va0].toArray W (Ret fun u w' => ∃ (b_u : Int), Ow Rp.int 2 true w' [] b_u u r ∧ Zn W b_u ∧ Ext W w') := by
  refine f_enter Tryd.func28 rfl Tryd.ntmps28 rfl ?_
  intro a ha
  replace ha : Fr 22 [(0, va0)] a := ha
  have hE : Chg [] W W := Chg.refl _ _
  unfold F_laws_toInt64S at hF
  refine wp_seq ?_; refine wp_region_lit ?_; refine op_g ha rfl (g_assign rfl) ?_; clear ha a; intro a ha; refine wpList_nil ?_; replace ha := ha.sub (σ' := [(0, va0)]) ⟨rfl, trivial⟩; refine e_then ?_; refine wp_seq ?_; refine wp_region_lit ?_; refine op_g ha rfl (g_move rfl) ?_; clear ha a; intro a ha; refine op_g ha rfl (g_lenR sl31.und ha0 rfl) ?_; clear ha a; intro a ha; obtain ⟨g5, g5b, hF⟩ := mkS_some hF
  refine o_make (z0 := (0 : Int)) Rp.int ha rfl sl31 rfl (fun w => ⟨rfl, by decide, rfl⟩) rfl g5 g5b ?_; clear ha a; intro v1 w2 h3 hx4 a ha
  obtain ⟨b8, hb8⟩ : ∃ b : Int, b = W.heap.size := ⟨_, rfl⟩; rw [← hb8] at h3
  have q9 := zn_of hb8
  have q10 := Zn.upD q9 hE
  have hE11 := Ext.trans hE hx4
  refine op_g ha rfl (g_assign rfl) ?_; clear ha a; intro a ha; refine wpList_nil ?_; replace ha := ha.sub (σ' := [(0, va0), (3, v1)]) ⟨rfl, rfl, trivial⟩; refine e_then ?_; refine wp_seq ?_; refine wp_seq ?_; refine wp_region_lit ?_; refine op_g ha rfl (g_assign rfl) ?_; clear ha a; intro a ha; refine wpList_nil ?_; refine e_then ?_; obtain ⟨o118, ho119, hK120⟩ := bnd_some hF
  obtain ⟨n121, hn122⟩ := lp_some ho119; clear ho119
  refine c_loop (fun a w => ∃ (l115 : (List Int)) (v116 : Value) (b117 : Int), Fr 22 [(3, v116)] a ∧ Chg [] W w ∧ Ow Rp.int 2 true w [] b117 v116 l115 ∧ Zn W b117 ∧ o118 = .inl l115) (fun n a w => ∃ (l63 : (List Int)) (i66 : Int) (v64 : Value) (b65 : Int), Fr 22 [(0, va0), (3, v64), (4, (.int .i64 i66))] a ∧ Chg [] W w ∧ InI i66 ∧ Ow Rp.int 2 true w [] b65 v64 l63 ∧ Zn W b65 ∧ lpN (fun s => F_laws_toInt64S_l1 a0 s.1 s.2) n (l63, i66) = some o118) n121 ⟨(List.replicate ((a0.length : Int) : Int).toNat (0 : Int)), 0, v1, b8, ha.sub ⟨rfl, rfl, rfl, trivial⟩, hE11, (show InI 0 from by decide), h3, q10, hn122⟩ ?_ ?_
  · rintro m126 a w59 ⟨l63, i66, v64, b65, ha, hE68, hI67, h61, z62, hF⟩
    cases m126 with
    | zero => exact (lpN_zero hF).elim
    | succ m126 =>
      obtain ⟨z125, hF, hN124⟩ := lpN_succ hF
      have hF : F_laws_toInt64S_l1 a0 l63 i66 = some z125 := hF; unfold F_laws_toInt64S_l1 at hF
      refine wp_seq ?_; refine wp_seq ?_; refine wp_region_lit ?_; (iterate 2 refine op_g ha rfl (g_move rfl) ?_; clear ha a; intro a ha); refine op_g ha rfl (g_lenR sl31.und ha0 rfl) ?_; clear ha a; intro a ha; refine op_g ha rfl (g_lss rfl rfl) ?_; clear ha a; intro a ha; refine wpList_nil ?_; replace ha := ha.sub (σ' := [(0, va0), (3, v64), (4, (.int .i64 i66)), (11, (.bool (decide (i66 < (a0.length : Int)))))]) ⟨rfl, rfl, rfl, rfl, trivial⟩; refine e_then ?_; refine c_cond (i66 < (a0.length : Int)) ha rfl (decide_eq_true_iff) (fun hp127 => ?_) (fun hp127 => ?_)
      · replace hF := if_t hp127 hF
        refine wp_skip ?_; refine e_then ?_; refine wp_seq ?_; refine wp_block ?_; refine wp_region_lit ?_; (iterate 4 refine op_g ha rfl (g_move rfl) ?_; clear ha a; intro a ha); obtain ⟨x128, g129, gx130, hF⟩ := idx_some hF
        obtain ⟨p131, cs132, f133, hf134, hpb135, hat136, hr137, hi138⟩ := ha0.at g129 gx130
        obtain ⟨rfl, hI139, rfl⟩ := hr137
        refine op_g ha rfl (hi138.gives sl31 rfl rfl) ?_; clear ha a; intro a ha; refine op_g ha rfl (g_load0 hE68 Tryd.isAgg2 rfl hat136.one) ?_; clear ha a; intro a ha; obtain ⟨x140, g141, gx142, hF⟩ := idx_some hF
        obtain ⟨p143, cs144, f145, hf146, hpb147, hat148, hr149, hi150⟩ := h61.at g141 gx142
        obtain ⟨rfl, hI151, rfl⟩ := hr149
        refine op_g ha rfl (hi150.gives sl31 rfl rfl) ?_; clear ha a; intro a ha
        refine o_storeE (f := []) (q := x128) ha Tryd.sizeOf2 rfl rfl rfl h61 hi150 ⟨rfl, hI139, rfl⟩ (Nq.nil _) ?_; intro w152 fs153 h154 hc155 hs156
        obtain rfl := Subst.nil hs156
        have hE157 := Ext.then hE68 hc155 (Zn.bl z62)
        refine wpList_nil ?_; replace ha := ha.sub (σ' := [(0, va0), (3, v64), (4, (.int .i64 i66))]) ⟨rfl, rfl, rfl, trivial⟩; refine e_blk ?_; refine e_then ?_; refine wp_region_lit ?_; refine op_g ha rfl (g_move rfl) ?_; clear ha a; intro a ha; obtain ⟨hI158, hF⟩ := ck_some hF; refine op_g ha rfl (g_add rfl rfl hI158) ?_; clear ha a; intro a ha; refine op_g ha rfl (g_assign rfl) ?_; clear ha a; intro a ha; refine wpList_nil ?_; replace ha := ha.sub (σ' := [(0, va0), (3, v64), (4, (.int .i64 (i66 + 1)))]) ⟨rfl, rfl, rfl, trivial⟩; refine e_lq ?_; obtain rfl := Option.some.inj hF
        exact ⟨_, Nat.lt_succ_self _, (l63.set ((i66 : Int).toNat) x128), i66 + 1, v64, b65, ha.sub ⟨rfl, rfl, rfl, trivial⟩, hE157, hI158, h154, z62, hN124⟩
      replace hF := if_f hp127 hF; refine wp_exit ?_; refine e_then_exit ?_; refine e_lq_eq ?_; obtain rfl := Option.some.inj hF
      exact ⟨l63, v64, b65, ha.sub ⟨rfl, trivial⟩, hE68, h61, z62, (LK_inr hN124).symm⟩
  rintro a w111 ⟨l115, v116, b117, ha, hE123, h113, z114, rfl⟩
  have hF : F_laws_toInt64S_k2 l115 = some _ := hK120; clear hK120; unfold F_laws_toInt64S_k2 at hF
  refine e_then ?_; refine wp_seq ?_; refine wp_region_lit ?_; refine op_g ha rfl (g_move rfl) ?_; clear ha a; intro a ha; refine op_g ha rfl (g_assign rfl) ?_; clear ha a; intro a ha; refine wpList_nil ?_; replace ha := ha.sub (σ' := [(2, v116)]) ⟨rfl, trivial⟩; refine e_then ?_; refine wp_ret ?_; obtain rfl := Option.some.inj hF
  exact f_ret1 ha rfl rfl ⟨_, h113, z114, hE123⟩
set_option maxHeartbeats 2000000 in
theorem W_laws_toInt64SS {W : World} {va0 : Value} {fa0 : List Nat} {a0 : (List (List Int))} (ha0 : Ro (Rp.sl 2 Rp.int) W fa0 va0 a0) {r : (List (List Int))} (hF : F_laws_toInt64SS a0 = some r) :
    Calls Tryd.prog 20 [va0].toArray W (Ret fun u w' => ∃ (b_u : Int) (fs_u : List Nat), Ow (Rp.sl 2 Rp.int) 31 true w' fs_u b_u u r ∧ Zn W b_u ∧ (∀ k ∈ fs_u, W.heap.size ≤ k) ∧ (bl b_u ++ fs_u).Nodup ∧ Ext W w') := by
  refine f_enter Tryd.func20 rfl Tryd.ntmps20 rfl ?_
  intro a ha
  replace ha : Fr 23 [(0, va0)] a := ha
  have hE : Chg [] W W := Chg.refl _ _
  unfold F_laws_toInt64SS at hF
  refine wp_seq ?_; refine wp_region_lit ?_; refine op_g ha rfl (g_assign rfl) ?_; clear ha a; intro a ha; refine wpList_nil ?_; replace ha := ha.sub (σ' := [(0, va0)]) ⟨rfl, trivial⟩; refine e_then ?_; refine wp_seq ?_; refine wp_region_lit ?_; refine op_g ha rfl (g_move rfl) ?_; clear ha a; intro a ha; refine op_g ha rfl (g_lenR sl22.und ha0 rfl) ?_; clear ha a; intro a ha; obtain ⟨g5, g5b, hF⟩ := mkS_some hF
  refine o_make (z0 := ([] : (List Int))) (Rp.sl 2 Rp.int) ha rfl sl22 rfl (fun w => nil_rep w) rfl g5 g5b ?_; clear ha a; intro v1 w2 h3 hx4 a ha
  obtain ⟨b8, hb8⟩ : ∃ b : Int, b = W.heap.size := ⟨_, rfl⟩; rw [← hb8] at h3
  have q9 := zn_of hb8
  have q10 := Zn.upD q9 hE
  have hE11 := Ext.trans hE hx4
  refine op_g ha rfl (g_assign rfl) ?_; clear ha a; intro a ha; refine wpList_nil ?_; replace ha := ha.sub (σ' := [(0, va0), (3, v1)]) ⟨rfl, rfl, trivial⟩; refine e_then ?_; refine wp_seq ?_; refine wp_seq ?_; refine wp_region_lit ?_; refine op_g ha rfl (g_assign rfl) ?_; clear ha a; intro a ha; refine wpList_nil ?_; refine e_then ?_; obtain ⟨o181, ho182, hK183⟩ := bnd_some hF
  obtain ⟨n184, hn185⟩ := lp_some ho182; clear ho182
  refine c_loop (fun a w => ∃ (l178 : (List (List Int))) (fs175 : List Nat) (v179 : Value) (b180 : Int), Fr 23 [(3, v179)] a ∧ Chg [] W w ∧ Ow (Rp.sl 2 Rp.int) 31 true w fs175 b180 v179 l178 ∧ Zn W b180 ∧ (∀ k ∈ fs175, W.heap.size ≤ k) ∧ (bl b180 ++ fs175).Nodup ∧ o181 = .inl l178) (fun n a w => ∃ (l96 : (List (List Int))) (i99 : Int) (fs93 : List Nat) (v97 : Value) (b98 : Int), Fr 23 [(0, va0), (3, v97), (4, (.int .i64 i99))] a ∧ Chg [] W w ∧ InI i99 ∧ Ow (Rp.sl 2 Rp.int) 31 true w fs93 b98 v97 l96 ∧ Zn W b98 ∧ (∀ k ∈ fs93, W.heap.size ≤ k) ∧ (bl b98 ++ fs93).Nodup ∧ lpN (fun s => F_laws_toInt64SS_l1 a0 s.1 s.2) n (l96, i99) = some o181) n184 ⟨(List.replicate ((a0.length : Int) : Int).toNat ([] : (List Int))), 0, [], v1, b8, ha.sub ⟨rfl, rfl, rfl, trivial⟩, hE11, (show InI 0 from by decide), h3, q10, (zf_nil _), (bl_nodup b8), hn185⟩ ?_ ?_
  · rintro m189 a w89 ⟨l96, i99, fs93, v97, b98, ha, hE101, hI100, h91, z92, zf94, nd95, hF⟩
    cases m189 with
    | zero => exact (lpN_zero hF).elim
    | succ m189 =>
      obtain ⟨z188, hF, hN187⟩ := lpN_succ hF
      have hF : F_laws_toInt64SS_l1 a0 l96 i99 = some z188 := hF; unfold F_laws_toInt64SS_l1 at hF
      refine wp_seq ?_; refine wp_seq ?_; refine wp_region_lit ?_; (iterate 2 refine op_g ha rfl (g_move rfl) ?_; clear ha a; intro a ha); refine op_g ha rfl (g_lenR sl22.und ha0 rfl) ?_; clear ha a; intro a ha; refine op_g ha rfl (g_lss rfl rfl) ?_; clear ha a; intro a ha; refine wpList_nil ?_; replace ha := ha.sub (σ' := [(0, va0), (3, v97), (4, (.int .i64 i99)), (11, (.bool (decide (i99 < (a0.length : Int)))))]) ⟨rfl, rfl, rfl, rfl, trivial⟩; refine e_then ?_; refine c_cond (i99 < (a0.length : Int)) ha rfl (decide_eq_true_iff) (fun hp190 => ?_) (fun hp190 => ?_)
      · replace hF := if_t hp190 hF
        refine wp_skip ?_; refine e_then ?_; refine wp_seq ?_; refine wp_block ?_; refine wp_region_lit ?_; (iterate 4 refine op_g ha rfl (g_move rfl) ?_; clear ha a; intro a ha); obtain ⟨x191, g192, gx193, hF⟩ := idx_some hF
        obtain ⟨p194, cs195, f196, hf197, hpb198, hat199, hr200, hi201⟩ := ha0.at g192 gx193
        obtain ⟨v202, rfl, h203⟩ := hr200
        have h203 : Ro Rp.int W f196 v202 x191 := h203
        refine op_g ha rfl (hi201.gives sl22 rfl rfl) ?_; clear ha a; intro a ha; refine op_g ha rfl (g_load0 hE101 Tryd.isAgg31 rfl hat199.one) ?_; clear ha a; intro a ha; obtain ⟨x205, hc206, hF⟩ := cal_some hF
        refine o_call ha rfl rfl Tryd.call28 (W_laws_toInt64S (h203.ext hE101) hc206) ?_; clear ha a; rintro v207 w208 ⟨b210, h211, z212, hx209⟩ a ha
        have q214 := Nq.new h91.fpb z212
        have q215 := Nq.madeO z212 h91.blt
        have q216 := Nf.old z212 (zf_nil _) h91.bnd
        replace h91 := h91.ext hx209
        have hE217 := Ext.trans hE101 hx209
        have q218 := Zn.upD z212 hE101
        obtain ⟨x219, g220, gx221, hF⟩ := idx_some hF
        obtain ⟨p222, cs223, f224, hf225, hpb226, hat227, hr228, hi229⟩ := h91.at g220 gx221
        replace hr228 := (Rp.sl 2 Rp.int).weak hr228
        obtain ⟨v230, rfl, h231⟩ := hr228
        have h231 : Ro Rp.int w208 f224 v230 x219 := h231
        have q233 := Nq.mono q214 (fun k hk => List.mem_append_right (bl b98) (hf225 k hk))
        have q234 := Nq.mono (Ow.ne h91) hf225
        refine op_g ha rfl (hi229.gives sl22 rfl rfl) ?_; clear ha a; intro a ha
        refine o_storeE (f := (bl b210 ++ [])) (q := x205) ha Tryd.sizeOf31 rfl rfl h211.cells h91 hi229 (Rp.mkO h211) q215 ?_; intro w235 fs236 h237 hc238 hs239
        have q240 := zf_mv q218 (zf_nil _)
        have q241 := dj_of q214
        have q242 := zf_set hs239 zf94 q240
        have q243 := Subst.nd hs239 nd95 (bl_nodup b210) q241
        replace h231 := h231.nq hc238 q234
        have hE244 := Ext.then hE217 hc238 (Zn.bl z92)
        refine wpList_nil ?_; replace ha := ha.sub (σ' := [(0, va0), (3, v97), (4, (.int .i64 i99))]) ⟨rfl, rfl, rfl, trivial⟩; refine e_blk ?_; refine e_then ?_; refine wp_region_lit ?_; refine op_g ha rfl (g_move rfl) ?_; clear ha a; intro a ha; obtain ⟨hI245, hF⟩ := ck_some hF; refine op_g ha rfl (g_add rfl rfl hI245) ?_; clear ha a; intro a ha; refine op_g ha rfl (g_assign rfl) ?_; clear ha a; intro a ha; refine wpList_nil ?_; replace ha := ha.sub (σ' := [(0, va0), (3, v97), (4, (.int .i64 (i99 + 1)))]) ⟨rfl, rfl, rfl, trivial⟩; refine e_lq ?_; obtain rfl := Option.some.inj hF
        exact ⟨_, Nat.lt_succ_self _, (l96.set ((i99 : Int).toNat) x205), i99 + 1, fs236, v97, b98, ha.sub ⟨rfl, rfl, rfl, trivial⟩, hE244, hI245, h237, z92, q242, q243, hN187⟩
      replace hF := if_f hp190 hF; refine wp_exit ?_; refine e_then_exit ?_; refine e_lq_eq ?_; obtain rfl := Option.some.inj hF
      exact ⟨l96, fs93, v97, b98, ha.sub ⟨rfl, trivial⟩, hE101, h91, z92, zf94, nd95, (LK_inr hN187).symm⟩
  rintro a w171 ⟨l178, fs175, v179, b180, ha, hE186, h173, z174, zf176, nd177, rfl⟩
  have hF : F_laws_toInt64SS_k2 l178 = some _ := hK183; clear hK183; unfold F_laws_toInt64SS_k2 at hF
  refine e_then ?_; refine wp_seq ?_; refine wp_region_lit ?_; refine op_g ha rfl (g_move rfl) ?_; clear ha a; intro a ha; refine op_g ha rfl (g_assign rfl) ?_; clear ha a; intro a ha; refine wpList_nil ?_; replace ha := ha.sub (σ' := [(2, v179)]) ⟨rfl, trivial⟩; refine e_then ?_; refine wp_ret ?_; obtain rfl := Option.some.inj hF
  exact f_ret1 ha rfl rfl ⟨_, _, h173, z174, zf176, nd177, hE186⟩
set_option maxHeartbeats 2000000 in
theorem W_laws_toGraph {W : World} {va0_0 : Value} {fa0_0 : List Nat} {a0_0 : (List (List Int))} (ha0_0 : Ro (Rp.sl 2 Rp.int) W fa0_0 va0_0 a0_0) {r : (List (List Int))} (hF : F_laws_toGraph a0_0 = some r) :
    Calls Tryd.prog 8 [.agg #[va0_0]].toArray W (Ret fun u w' => ∃ (u_0 : Value) (b_u_0 : Int) (fs_u_0 : List Nat), u = .agg #[u_0] ∧ Ow (Rp.sl 2 Rp.int) 31 true w' fs_u_0 b_u_0 u_0 r ∧ Zn W b_u_0 ∧ (∀ k ∈ fs_u_0, W.heap.size ≤ k) ∧ (bl b_u_0 ++ fs_u_0).Nodup ∧ Ext W w') := by
  refine f_enter Tryd.func8 rfl Tryd.ntmps8 rfl ?_
  intro a ha
  replace ha : Fr 9 [(0, (.agg #[va0_0]))] a := ha
  have hE : Chg [] W W := Chg.refl _ _
  unfold F_laws_toGraph at hF
  refine wp_seq ?_; refine wp_region_lit ?_
  refine o_box ha rfl rfl rfl ?_; clear ha a; intro b1 w2 hB3 hx4 hlo5 a ha
  have q6 := Zn.one hlo5
  have q7 := Zn.upD q6 hE
  have hE8 := Ext.trans hE hx4
  refine o_alloc (cs := [(.slice none 0 0)]) ha rfl Tryd.zeroValue27 rfl ?_; clear ha a; intro b9 w10 hB11 hx12 hlo13 a ha
  have q14 := Zn.one hlo13
  have q15 := Nq.new hB3.fpb q14
  have q16 := Nq.made1 hlo13 hB3.bi
  have q17 := Zn.upD q14 hE8
  replace hB3 := hB3.ext hx12
  have hE18 := Ext.trans hE8 hx12
  refine wpList_nil ?_; replace ha := ha.sub (σ' := [(1, (.pointer (some ⟨b1, 0, none⟩))), (2, (.pointer (some ⟨b9, 0, none⟩)))]) ⟨rfl, rfl, trivial⟩; refine e_then ?_; refine wp_seq ?_; refine wp_region_lit ?_
  refine o_alloc (cs := [(.slice none 0 0)]) ha rfl Tryd.zeroValue27 rfl ?_; clear ha a; intro b19 w20 hB21 hx22 hlo23 a ha
  have q24 := Zn.one hlo23
  have q25 := Nq.new hB3.fpb q24
  have q26 := Nq.made1 hlo23 hB3.bi
  have q27 := Nq.new hB11.fpb q24
  have q28 := Nq.made1 hlo23 hB11.bi
  have q29 := Zn.upD q24 hE18
  replace hB3 := hB3.ext hx22
  replace hB11 := hB11.ext hx22
  have hE30 := Ext.trans hE18 hx22
  refine wpList_nil ?_; refine e_then ?_; refine wp_seq ?_; refine wp_region_lit ?_; refine op_g ha rfl (g_field0 st24_0 rfl) ?_; clear ha a; intro a ha; refine op_g ha rfl (g_load Tryd.isAgg22 rfl (hB3.cell rfl)) ?_; clear ha a; intro a ha; obtain ⟨x31, hc32, hF⟩ := cal_some hF
  refine o_call ha rfl rfl Tryd.call20 (W_laws_toInt64SS (ha0_0.ext hE30) hc32) ?_; clear ha a; rintro v33 w34 ⟨b36, fs40, h37, z38, zf41, nd42, hx35⟩ a ha
  have q43 := Nq.new hB3.fpb z38
  have q44 := Nq.madeF z38 zf41 hB3.bi
  have q45 := Nq.new hB11.fpb z38
  have q46 := Nq.madeF z38 zf41 hB11.bi
  have q47 := Nq.new hB21.fpb z38
  have q48 := Nq.madeF z38 zf41 hB21.bi
  have q49 := Nf.new hB3.fpb zf41
  have q50 := Nf.new hB11.fpb zf41
  have q51 := Nf.new hB21.fpb zf41
  replace hB3 := hB3.ext hx35
  replace hB11 := hB11.ext hx35
  replace hB21 := hB21.ext hx35
  have hE52 := Ext.trans hE30 hx35
  have q53 := Zn.upD z38 hE30
  have q54 := zf_up zf41 hE30
  refine op_g ha rfl (g_field0 st27_0 rfl) ?_; clear ha a; intro a ha
  refine o_storeB ha hB21 Tryd.sizeOf22 rfl rfl h37.cells h37.oneC (Nat.le_of_ble_eq_true rfl) ?_; intro w55 hB56 hc57
  replace hc57 := hc57.bl
  replace hB56 : Bx w55 b19 [v33] 27 := hB56
  replace hB3 := hB3.nq hc57 q25
  replace hB11 := hB11.nq hc57 q27
  replace h37 := h37.nq hc57 q48
  have hE58 := Ext.then hE52 hc57 (Zn.bl q29)
  refine wpList_nil ?_; replace ha := ha.sub (σ' := [(2, (.pointer (some ⟨b9, 0, none⟩))), (3, (.pointer (some ⟨b19, 0, none⟩)))]) ⟨rfl, rfl, trivial⟩; refine e_then ?_; refine wp_seq ?_; refine wp_region_lit ?_; refine op_g ha rfl (g_loadA (cs := [v33]) Tryd.isAgg27 Tryd.sizeOf27 rfl (by simp) hB56.all) ?_; clear ha a; intro a ha
  refine o_storeA (vs := [v33]) ha hB11 Tryd.sizeOf27 rfl rfl (by intro c hc; simp only [List.mem_cons, List.not_mem_nil, or_false] at hc; rcases hc with hc <;> subst hc <;> first | rfl | exact h37.oneC) rfl ?_; intro w59 hB60 hc61
  replace hc61 := hc61.bl
  replace hB60 : Bx w59 b9 [v33] 27 := hB60
  replace hB56 := hB56.nq hc61 q28
  replace h37 := h37.nq hc61 q46
  have hE62 := Ext.then hE58 hc61 (Zn.bl q17)
  refine wpList_nil ?_; replace ha := ha.sub (σ' := [(2, (.pointer (some ⟨b9, 0, none⟩)))]) ⟨rfl, trivial⟩; refine e_then ?_; refine wp_ret ?_; obtain rfl := Option.some.inj hF
  exact f_retC (cs := [v33]) ha rfl rfl Tryd.isAgg27 Tryd.sizeOf27 hB60 ⟨_, _, _, rfl, h37, q53, q54, nd42, hE62⟩
set_option maxHeartbeats 2000000 in
theorem W_spec_l1Size {W : World} {va0_0 : Value} {fa0_0 : List Nat} {a0_0 : (List (List Int))} (ha0_0 : Ro (Rp.sl 2 Rp.int) W fa0_0 va0_0 a0_0) {r : Int} (hF : F_spec_l1Size a0_0 = some r) :
    Calls Tryd.prog 32 [.agg #[va0_0]].toArray W (Ret fun u w' => (u = .int .i64 r ∧ InI r) ∧ Ext W w') := by
  refine f_enter Tryd.func32 rfl Tryd.ntmps32 rfl ?_
  intro a ha
  replace ha : Fr 6 [(0, (.agg #[va0_0]))] a := ha
  have hE : Chg [] W W := Chg.refl _ _
  unfold F_spec_l1Size at hF
  refine wp_seq ?_; refine wp_region_lit ?_
  refine o_box ha rfl rfl rfl ?_; clear ha a; intro b1 w2 hB3 hx4 hlo5 a ha
  have q6 := Zn.one hlo5
  have q7 := Zn.upD q6 hE
  have hE8 := Ext.trans hE hx4
  refine op_g ha rfl (g_assign rfl) ?_; clear ha a; intro a ha; refine wpList_nil ?_; replace ha := ha.sub (σ' := [(1, (.pointer (some ⟨b1, 0, none⟩)))]) ⟨rfl, trivial⟩; refine e_then ?_; refine wp_seq ?_; refine wp_region_lit ?_; refine op_g ha rfl (g_field0 st27_0 rfl) ?_; clear ha a; intro a ha; refine op_g ha rfl (g_load Tryd.isAgg22 rfl (hB3.cell rfl)) ?_; clear ha a; intro a ha; refine op_g ha rfl (g_lenR sl22.und ha0_0 rfl) ?_; clear ha a; intro a ha; refine op_g ha rfl (g_assign rfl) ?_; clear ha a; intro a ha; refine wpList_nil ?_; replace ha := ha.sub (σ' := [(2, (.int .i64 (a0_0.length : Int)))]) ⟨rfl, trivial⟩
  refine e_then ?_; refine wp_ret ?_; obtain rfl := Option.some.inj hF
  exact f_ret1 ha rfl rfl ⟨⟨rfl, ha0_0.len⟩, hE8⟩
set_option maxHeartbeats 2000000 in
theorem W_spec_l1In {W : World} {a0 : Int} (ha0 : InI a0) {a1 : Int} (ha1 : InI a1) {a2 : Int} (ha2 : InI a2) {r : Bool} (hF : F_spec_l1In a0 a1 a2 = some r) :
    Calls Tryd.prog 39 [.int .i64 a0, .int .i64 a1, .int .i64 a2].toArray W (Ret fun u w' => u = .bool r ∧ Ext W w') := by
  refine f_enter Tryd.func39 rfl Tryd.ntmps39 rfl ?_
  intro a ha
  replace ha : Fr 15 [(0, (.int .i64 a0)), (1, (.int .i64 a1)), (2, (.int .i64 a2))] a := ha
  have hE : Chg [] W W := Chg.refl _ _
  unfold F_spec_l1In at hF
  refine wp_seq ?_; refine wp_region_lit ?_; refine op_g ha rfl (g_assign rfl) ?_; clear ha a; intro a ha; refine wpList_nil ?_; replace ha := ha.sub (σ' := [(0, (.int .i64 a0)), (1, (.int .i64 a1)), (2, (.int .i64 a2))]) ⟨rfl, rfl, rfl, trivial⟩; refine e_then ?_; refine wp_seq ?_; refine wp_region_lit ?_; (iterate 2 refine op_g ha rfl (g_move rfl) ?_; clear ha a; intro a ha); refine op_g ha rfl (g_geq rfl rfl) ?_; clear ha a; intro a ha; refine op_g ha rfl (g_move rfl) ?_; clear ha a; intro a ha
  by_cases hp1 : a1 ≤ a0
  · replace hF := if_t hp1 hF
    rw [show (decide (a1 ≤ a0)) = true from (decide_eq_true_iff).2 hp1] at ha
    refine op_want (yields ha rfl rfl) ?_; refine op_g ha rfl (g_move rfl) ?_; clear ha a; intro a ha; refine op_want (yields ha rfl rfl) ?_; refine op_g ha rfl (g_move rfl) ?_; clear ha a; intro a ha; refine op_want (yields ha rfl rfl) ?_; refine op_g ha rfl (g_leq rfl rfl) ?_; clear ha a; intro a ha; refine op_g ha rfl (g_pick rfl rfl) ?_; clear ha a; intro a ha; refine op_g ha rfl (g_assign rfl) ?_; clear ha a; intro a ha; refine wpList_nil ?_; replace ha := ha.sub (σ' := [(6, (.bool (decide (a0 ≤ a2))))]) ⟨rfl, trivial⟩; refine e_then ?_; refine wp_ret ?_; obtain rfl := Option.some.inj hF
    exact f_ret1 ha rfl rfl ⟨rfl, hE⟩
  replace hF := if_f hp1 hF
  rw [show (decide (a1 ≤ a0)) = false from b_false (decide_eq_true_iff) hp1] at ha
  (iterate 3 refine op_unwant ha rfl (yields ha rfl rfl) rfl ?_; clear ha a; intro a ha); refine op_g ha rfl (g_pick rfl rfl) ?_; clear ha a; intro a ha; refine op_g ha rfl (g_assign rfl) ?_; clear ha a; intro a ha; refine wpList_nil ?_; replace ha := ha.sub (σ' := [(6, (.bool false))]) ⟨rfl, trivial⟩; refine e_then ?_; refine wp_ret ?_; obtain rfl := Option.some.inj hF
  exact f_ret1 ha rfl rfl ⟨rfl, hE⟩
set_option maxHeartbeats 2000000 in
theorem W_spec_l1Set {W : World} {va0 : Value} {fa0 : List Nat} {a0 : (List Int)} (ha0 : Ro Rp.int W fa0 va0 a0) {a1 : Int} (ha1 : InI a1) {r : Bool} (hF : F_spec_l1Set a0 a1 = some r) :
    Calls Tryd.prog 40 [va0, .int .i64 a1].toArray W (Ret fun u w' => u = .bool r ∧ Ext W w') := by
  refine f_enter Tryd.func40 rfl Tryd.ntmps40 rfl ?_
  intro a ha
  replace ha : Fr 40 [(0, va0), (1, (.int .i64 a1))] a := ha
  have hE : Chg [] W W := Chg.refl _ _
  unfold F_spec_l1Set at hF
  refine wp_seq ?_; refine wp_region_lit ?_; refine op_g ha rfl (g_assign rfl) ?_; clear ha a; intro a ha; refine wpList_nil ?_; replace ha := ha.sub (σ' := [(0, va0), (1, (.int .i64 a1))]) ⟨rfl, rfl, trivial⟩; refine e_then ?_; refine wp_seq ?_; refine wp_seq ?_; refine wp_region_lit ?_; refine op_g ha rfl (g_move rfl) ?_; clear ha a; intro a ha; refine op_g ha rfl (g_lenR sl31.und ha0 rfl) ?_; clear ha a; intro a ha; refine op_g ha rfl (g_move rfl) ?_; clear ha a; intro a ha; refine op_g ha rfl (g_gtr rfl rfl) ?_; clear ha a; intro a ha; refine wpList_nil ?_; replace ha := ha.sub (σ' := [(0, va0), (1, (.int .i64 a1)), (9, (.bool (decide (a1 < (a0.length : Int)))))]) ⟨rfl, rfl, rfl, trivial⟩
  refine e_then ?_; refine c_cond (a1 < (a0.length : Int)) ha rfl (decide_eq_true_iff) (fun hp1 => ?_) (fun hp1 => ?_)
  · replace hF := if_t hp1 hF
    refine wp_seq ?_; refine wp_region_lit ?_; refine op_g ha rfl (g_assign rfl) ?_; clear ha a; intro a ha; refine wpList_nil ?_; replace ha := ha.sub (σ' := [(4, (.bool false))]) ⟨rfl, trivial⟩; refine e_then ?_; refine wp_ret ?_; refine e_then_ret ?_; obtain rfl := Option.some.inj hF
    exact f_ret1 ha rfl rfl ⟨rfl, hE⟩
  replace hF := if_f hp1 hF; refine wp_skip ?_; refine e_then ?_; refine wp_seq ?_; refine wp_seq ?_; refine wp_region_lit ?_; refine op_g ha rfl (g_assign rfl) ?_; clear ha a; intro a ha; refine wpList_nil ?_; replace ha := ha.sub (σ' := [(0, va0), (1, (.int .i64 a1)), (5, (.int .i64 0))]) ⟨rfl, rfl, rfl, trivial⟩; refine e_then ?_; obtain ⟨o137, ho138, hK139⟩ := bnd_some hF
  obtain ⟨n140, hn141⟩ := lp_some ho138; clear ho138
  refine c_loop (fun a w => Fr 40 [] a ∧ Chg [] W w ∧ o137 = .inl ()) (fun n a w => ∃ (i69 : Int), Fr 40 [(0, va0), (1, (.int .i64 a1)), (5, (.int .i64 i69))] a ∧ Chg [] W w ∧ InI i69 ∧ lpN (fun s => F_spec_l1Set_l1 a0 a1 s) n i69 = some o137) n140 ⟨0, ha.sub ⟨rfl, rfl, rfl, trivial⟩, hE, (show InI 0 from by decide), hn141⟩ ?_ ?_
  · rintro m145 a w68 ⟨i69, ha, hE71, hI70, hF⟩
    cases m145 with
    | zero => exact (lpN_zero hF).elim
    | succ m145 =>
      obtain ⟨z144, hF, hN143⟩ := lpN_succ hF
      have hF : F_spec_l1Set_l1 a0 a1 i69 = some z144 := hF; unfold F_spec_l1Set_l1 at hF
      refine wp_seq ?_; refine wp_seq ?_; refine wp_region_lit ?_; (iterate 2 refine op_g ha rfl (g_move rfl) ?_; clear ha a; intro a ha); refine op_g ha rfl (g_lenR sl31.und ha0 rfl) ?_; clear ha a; intro a ha; refine op_g ha rfl (g_lss rfl rfl) ?_; clear ha a; intro a ha; refine wpList_nil ?_; replace ha := ha.sub (σ' := [(0, va0), (1, (.int .i64 a1)), (5, (.int .i64 i69)), (13, (.bool (decide (i69 < (a0.length : Int)))))]) ⟨rfl, rfl, rfl, rfl, trivial⟩; refine e_then ?_; refine c_cond (i69 < (a0.length : Int)) ha rfl (decide_eq_true_iff) (fun hp146 => ?_) (fun hp146 => ?_)
      · replace hF := if_t hp146 hF
        refine wp_skip ?_; refine e_then ?_; refine wp_seq ?_; refine wp_block ?_; refine wp_seq ?_; refine d_quiet hmix (by kernel_rfl) ?_; (iterate 2 refine q_g ha rfl (g_move rfl) ?_; clear ha a; intro a ha); obtain ⟨x147, g148, gx149, hF⟩ := idx_some hF
        obtain ⟨p150, cs151, f152, hf153, hpb154, hat155, hr156, hi157⟩ := ha0.at g148 gx149
        obtain ⟨rfl, hI158, rfl⟩ := hr156
        refine q_g ha rfl (hi157.gives sl31 rfl rfl) ?_; clear ha a; intro a ha; refine q_g ha rfl (g_load0 hE71 Tryd.isAgg2 rfl hat155.one) ?_; clear ha a; intro a ha; refine q_g ha rfl (g_move rfl) ?_; clear ha a; intro a ha; obtain ⟨hI159, hF⟩ := ck_some hF; refine q_g ha rfl (g_sub rfl rfl hI159) ?_; clear ha a; intro a ha; obtain ⟨x163, hc164, hF⟩ := cal_some hF; refine q_call (.bool x163) ha rfl rfl Tryd.call39 (fun w162 hx161 => W_spec_l1In hI158 (show InI 0 from by decide) hI159 hc164) (fun _ _ _ h => ⟨h.1, h.2⟩) ?_; clear ha a; intro a ha; refine q_g ha rfl (g_not rfl) ?_; clear ha a; intro a ha
        refine q_g ha rfl (g_move rfl) ?_; clear ha a; intro a ha
        by_cases hp165 : ¬ (x163 = true)
        · replace hF := if_t hp165 hF
          rw [show (!x163) = true from (n_iff (Iff.rfl)).2 hp165] at ha
          (iterate 3 refine q_unwant ha rfl (yields ha rfl rfl) rfl ?_; clear ha a; intro a ha); (iterate 10 refine q_unwant0 ha rfl (yields0 ha rfl rfl) ?_; clear ha a; intro a ha); refine q_unwant ha rfl (yields ha rfl rfl) rfl ?_; clear ha a; intro a ha; refine q_g ha rfl (g_pick rfl rfl) ?_; clear ha a; intro a ha
          refine q_nil ?_; intro w166 hx167
          have hE168 := Ext.trans hE71 hx167
          replace ha := ha.sub (σ' := [(0, va0), (1, (.int .i64 a1)), (5, (.int .i64 i69)), (39, (.bool true))]) ⟨rfl, rfl, rfl, rfl, trivial⟩; refine e_then ?_; refine c_true ha rfl ?_; refine wp_seq ?_; refine wp_region_lit ?_; refine op_g ha rfl (g_assign rfl) ?_; clear ha a; intro a ha; refine wpList_nil ?_; replace ha := ha.sub (σ' := [(4, (.bool false))]) ⟨rfl, trivial⟩; refine e_then ?_; refine wp_ret ?_; refine e_blk_ret ?_; refine e_then_ret ?_; refine e_lq_ret ?_; refine e_then_ret ?_; obtain rfl := Option.some.inj hF
          have e169 := LK_inr hN143; subst e169
          have e170 := BK_inr hK139; subst e170
          exact f_ret1 ha rfl rfl ⟨rfl, hE168⟩
        replace hF := if_f hp165 hF
        rw [show (!x163) = false from b_false (n_iff (Iff.rfl)) hp165] at ha
        refine q_want (yields ha rfl rfl) ?_; refine q_g ha rfl (g_move rfl) ?_; clear ha a; intro a ha; refine q_want (yields ha rfl rfl) ?_; refine q_g ha rfl (g_gtr rfl rfl) ?_; clear ha a; intro a ha; refine q_want (yields ha rfl rfl) ?_; refine q_g ha rfl (g_move rfl) ?_; clear ha a; intro a ha
        by_cases hp171 : 0 < i69
        · replace hF := if_t hp171 hF
          rw [show (decide (0 < i69)) = true from (decide_eq_true_iff).2 hp171] at ha
          refine q_want (yields ha rfl rfl) ?_; refine q_g ha rfl (g_move rfl) ?_; clear ha a; intro a ha; refine q_want (yields ha rfl rfl) ?_; refine q_g ha rfl (g_move rfl) ?_; clear ha a; intro a ha; refine q_want (yields ha rfl rfl) ?_; obtain ⟨x172, g173, gx174, hF⟩ := idx_some hF
          obtain ⟨p175, cs176, f177, hf178, hpb179, hat180, hr181, hi182⟩ := ha0.at g173 gx174
          obtain ⟨rfl, hI183, rfl⟩ := hr181
          refine q_g ha rfl (hi182.gives sl31 rfl rfl) ?_; clear ha a; intro a ha; refine q_want (yields ha rfl rfl) ?_; refine q_g ha rfl (g_load0 hE71 Tryd.isAgg2 rfl hat180.one) ?_; clear ha a; intro a ha; refine q_want (yields ha rfl rfl) ?_; refine q_g ha rfl (g_move rfl) ?_; clear ha a; intro a ha; refine q_want (yields ha rfl rfl) ?_; refine q_g ha rfl (g_move rfl) ?_; clear ha a; intro a ha; refine q_want (yields ha rfl rfl) ?_; obtain ⟨hI184, hF⟩ := ck_some hF; refine q_g ha rfl (g_sub rfl rfl hI184) ?_; clear ha a; intro a ha; refine q_want (yields ha rfl rfl) ?_; obtain ⟨x186, g187, gx188, hF⟩ := idx_some hF
          obtain ⟨p189, cs190, f191, hf192, hpb193, hat194, hr195, hi196⟩ := ha0.at g187 gx188
          obtain ⟨rfl, hI197, rfl⟩ := hr195
          refine q_g ha rfl (hi196.gives sl31 rfl rfl) ?_; clear ha a; intro a ha; refine q_want (yields ha rfl rfl) ?_; refine q_g ha rfl (g_load0 hE71 Tryd.isAgg2 rfl hat194.one) ?_; clear ha a; intro a ha; refine q_want (yields ha rfl rfl) ?_; refine q_g ha rfl (g_leq rfl rfl) ?_; clear ha a; intro a ha; refine q_want (yields ha rfl rfl) ?_; (iterate 2 refine q_g ha rfl (g_pick rfl rfl) ?_; clear ha a; intro a ha)
          refine q_nil ?_; intro w198 hx199
          have hE200 := Ext.trans hE71 hx199
          replace ha := ha.sub (σ' := [(0, va0), (1, (.int .i64 a1)), (5, (.int .i64 i69)), (25, (.int .i64 i69)), (26, (.bool true)), (27, (.bool true)), (28, va0), (29, (.int .i64 i69)), (30, (.pointer (some p175))), (31, (.int .i64 x172)), (32, va0), (33, (.int .i64 i69)), (34, (.int .i64 (i69 - 1))), (35, (.pointer (some p189))), (36, (.int .i64 x186)), (37, (.bool (decide (x172 ≤ x186)))), (38, (.bool (decide (x172 ≤ x186)))), (39, (.bool (decide (x172 ≤ x186))))]) ⟨rfl, rfl, rfl, rfl, rfl, rfl, rfl, rfl, rfl, rfl, rfl, rfl, rfl, rfl, rfl, rfl, rfl, rfl, trivial⟩; refine e_then ?_; refine c_cond (x172 ≤ x186) ha rfl (decide_eq_true_iff) (fun hp201 => ?_) (fun hp201 => ?_)
          · replace hF := if_t hp201 hF
            refine wp_seq ?_; refine wp_region_lit ?_; refine op_g ha rfl (g_assign rfl) ?_; clear ha a; intro a ha; refine wpList_nil ?_; replace ha := ha.sub (σ' := [(4, (.bool false))]) ⟨rfl, trivial⟩; refine e_then ?_; refine wp_ret ?_; refine e_blk_ret ?_; refine e_then_ret ?_; refine e_lq_ret ?_; refine e_then_ret ?_; obtain rfl := Option.some.inj hF
            have e202 := LK_inr hN143; subst e202
            have e203 := BK_inr hK139; subst e203
            exact f_ret1 ha rfl rfl ⟨rfl, hE200⟩
          replace hF := if_f hp201 hF; refine wp_skip ?_; refine e_blk ?_; refine e_then ?_; refine wp_region_lit ?_; refine op_g ha rfl (g_move rfl) ?_; clear ha a; intro a ha; obtain ⟨hI204, hF⟩ := ck_some hF; refine op_g ha rfl (g_add rfl rfl hI204) ?_; clear ha a; intro a ha; refine op_g ha rfl (g_assign rfl) ?_; clear ha a; intro a ha; refine wpList_nil ?_; replace ha := ha.sub (σ' := [(0, va0), (1, (.int .i64 a1)), (5, (.int .i64 (i69 + 1))), (25, (.int .i64 i69)), (26, (.bool true)), (27, (.bool true)), (28, va0), (29, (.int .i64 i69)), (30, (.pointer (some p175))), (31, (.int .i64 x172)), (32, va0), (33, (.int .i64 i69)), (34, (.int .i64 (i69 - 1))), (35, (.pointer (some p189))), (36, (.int .i64 x186)), (37, (.bool (decide (x172 ≤ x186)))), (38, (.bool (decide (x172 ≤ x186))))]) ⟨rfl, rfl, rfl, rfl, rfl, rfl, rfl, rfl, rfl, rfl, rfl, rfl, rfl, rfl, rfl, rfl, rfl, trivial⟩
          refine e_lq ?_; obtain rfl := Option.some.inj hF
          exact ⟨_, Nat.lt_succ_self _, i69 + 1, ha.sub ⟨rfl, rfl, rfl, trivial⟩, hE200, hI204, hN143⟩
        replace hF := if_f hp171 hF
        rw [show (decide (0 < i69)) = false from b_false (decide_eq_true_iff) hp171] at ha
        (iterate 10 refine q_unwant ha rfl (yields ha rfl rfl) rfl ?_; clear ha a; intro a ha); refine q_want (yields ha rfl rfl) ?_; (iterate 2 refine q_g ha rfl (g_pick rfl rfl) ?_; clear ha a; intro a ha)
        refine q_nil ?_; intro w206 hx207
        have hE208 := Ext.trans hE71 hx207
        replace ha := ha.sub (σ' := [(0, va0), (1, (.int .i64 a1)), (5, (.int .i64 i69)), (25, (.int .i64 i69)), (26, (.bool false)), (27, (.bool false)), (38, (.bool false)), (39, (.bool false))]) ⟨rfl, rfl, rfl, rfl, rfl, rfl, rfl, rfl, trivial⟩; refine e_then ?_; refine c_false ha rfl ?_; refine wp_skip ?_; refine e_blk ?_; refine e_then ?_; refine wp_region_lit ?_; refine op_g ha rfl (g_move rfl) ?_; clear ha a; intro a ha; obtain ⟨hI209, hF⟩ := ck_some hF; refine op_g ha rfl (g_add rfl rfl hI209) ?_; clear ha a; intro a ha; refine op_g ha rfl (g_assign rfl) ?_; clear ha a; intro a ha; refine wpList_nil ?_
        replace ha := ha.sub (σ' := [(0, va0), (1, (.int .i64 a1)), (5, (.int .i64 (i69 + 1))), (25, (.int .i64 i69)), (26, (.bool false)), (27, (.bool false)), (38, (.bool false))]) ⟨rfl, rfl, rfl, rfl, rfl, rfl, rfl, trivial⟩; refine e_lq ?_; obtain rfl := Option.some.inj hF
        exact ⟨_, Nat.lt_succ_self _, i69 + 1, ha.sub ⟨rfl, rfl, rfl, trivial⟩, hE208, hI209, hN143⟩
      replace hF := if_f hp146 hF; refine wp_exit ?_; refine e_then_exit ?_; refine e_lq_eq ?_; obtain rfl := Option.some.inj hF
      exact ⟨ha.sub trivial, hE71, (LK_inr hN143).symm⟩
  rintro a w136 ⟨ha, hE142, rfl⟩
  have hF : F_spec_l1Set_k2 = some _ := hK139; clear hK139; unfold F_spec_l1Set_k2 at hF
  refine e_then ?_; refine wp_seq ?_; refine wp_region_lit ?_; refine op_g ha rfl (g_assign rfl) ?_; clear ha a; intro a ha; refine wpList_nil ?_; refine e_then ?_; refine wp_ret ?_; obtain rfl := Option.some.inj hF
  exact f_ret1 ha rfl rfl ⟨rfl, hE142⟩
set_option maxHeartbeats 2000000 in
theorem W_spec_l1Has {W : World} {va0 : Value} {fa0 : List Nat} {a0 : (List Int)} (ha0 : Ro Rp.int W fa0 va0 a0) {a1 : Int} (ha1 : InI a1) {r : Bool} (hF : F_spec_l1Has a0 a1 = some r) :
    Calls Tryd.prog 41 [va0, .int .i64 a1].toArray W (Ret fun u w' => u = .bool r ∧ Ext W w') := by
  refine f_enter Tryd.func41 rfl Tryd.ntmps41 rfl ?_
  intro a ha
  replace ha : Fr 18 [(0, va0), (1, (.int .i64 a1))] a := ha
  have hE : Chg [] W W := Chg.refl _ _
  unfold F_spec_l1Has at hF
  refine wp_seq ?_; refine wp_region_lit ?_; refine op_g ha rfl (g_assign rfl) ?_; clear ha a; intro a ha; refine wpList_nil ?_; replace ha := ha.sub (σ' := [(0, va0), (1, (.int .i64 a1))]) ⟨rfl, rfl, trivial⟩; refine e_then ?_; refine wp_seq ?_; refine wp_seq ?_; refine wp_region_lit ?_; refine op_g ha rfl (g_assign rfl) ?_; clear ha a; intro a ha; refine wpList_nil ?_; refine e_then ?_; obtain ⟨o46, ho47, hK48⟩ := bnd_some hF
  obtain ⟨n49, hn50⟩ := lp_some ho47; clear ho47
  refine c_loop (fun a w => Fr 18 [] a ∧ Chg [] W w ∧ o46 = .inl ()) (fun n a w => ∃ (i23 : Int), Fr 18 [(0, va0), (1, (.int .i64 a1)), (5, (.int .i64 i23))] a ∧ Chg [] W w ∧ InI i23 ∧ lpN (fun s => F_spec_l1Has_l1 a0 a1 s) n i23 = some o46) n49 ⟨0, ha.sub ⟨rfl, rfl, rfl, trivial⟩, hE, (show InI 0 from by decide), hn50⟩ ?_ ?_
  · rintro m54 a w22 ⟨i23, ha, hE25, hI24, hF⟩
    cases m54 with
    | zero => exact (lpN_zero hF).elim
    | succ m54 =>
      obtain ⟨z53, hF, hN52⟩ := lpN_succ hF
      have hF : F_spec_l1Has_l1 a0 a1 i23 = some z53 := hF; unfold F_spec_l1Has_l1 at hF
      refine wp_seq ?_; refine wp_seq ?_; refine wp_region_lit ?_; (iterate 2 refine op_g ha rfl (g_move rfl) ?_; clear ha a; intro a ha); refine op_g ha rfl (g_lenR sl31.und ha0 rfl) ?_; clear ha a; intro a ha; refine op_g ha rfl (g_lss rfl rfl) ?_; clear ha a; intro a ha; refine wpList_nil ?_; replace ha := ha.sub (σ' := [(0, va0), (1, (.int .i64 a1)), (5, (.int .i64 i23)), (9, (.bool (decide (i23 < (a0.length : Int)))))]) ⟨rfl, rfl, rfl, rfl, trivial⟩; refine e_then ?_; refine c_cond (i23 < (a0.length : Int)) ha rfl (decide_eq_true_iff) (fun hp55 => ?_) (fun hp55 => ?_)
      · replace hF := if_t hp55 hF
        refine wp_skip ?_; refine e_then ?_; refine wp_seq ?_; refine wp_block ?_; refine wp_seq ?_; refine wp_region_lit ?_; (iterate 2 refine op_g ha rfl (g_move rfl) ?_; clear ha a; intro a ha); obtain ⟨x56, g57, gx58, hF⟩ := idx_some hF
        obtain ⟨p59, cs60, f61, hf62, hpb63, hat64, hr65, hi66⟩ := ha0.at g57 gx58
        obtain ⟨rfl, hI67, rfl⟩ := hr65
        refine op_g ha rfl (hi66.gives sl31 rfl rfl) ?_; clear ha a; intro a ha; refine op_g ha rfl (g_load0 hE25 Tryd.isAgg2 rfl hat64.one) ?_; clear ha a; intro a ha; refine op_g ha rfl (g_move rfl) ?_; clear ha a; intro a ha; refine op_g ha rfl (g_eql rfl rfl) ?_; clear ha a; intro a ha; refine wpList_nil ?_; replace ha := ha.sub (σ' := [(0, va0), (1, (.int .i64 a1)), (5, (.int .i64 i23)), (17, (.bool (decide (x56 = a1))))]) ⟨rfl, rfl, rfl, rfl, trivial⟩; refine e_then ?_; refine c_cond (x56 = a1) ha rfl (decide_eq_true_iff) (fun hp68 => ?_) (fun hp68 => ?_)
        · replace hF := if_t hp68 hF
          refine wp_seq ?_; refine wp_region_lit ?_; refine op_g ha rfl (g_assign rfl) ?_; clear ha a; intro a ha; refine wpList_nil ?_; replace ha := ha.sub (σ' := [(4, (.bool true))]) ⟨rfl, trivial⟩; refine e_then ?_; refine wp_ret ?_; refine e_blk_ret ?_; refine e_then_ret ?_; refine e_lq_ret ?_; refine e_then_ret ?_; obtain rfl := Option.some.inj hF
          have e69 := LK_inr hN52; subst e69
          have e70 := BK_inr hK48; subst e70
          exact f_ret1 ha rfl rfl ⟨rfl, hE25⟩
        replace hF := if_f hp68 hF; refine wp_skip ?_; refine e_blk ?_; refine e_then ?_; refine wp_region_lit ?_; refine op_g ha rfl (g_move rfl) ?_; clear ha a; intro a ha; obtain ⟨hI71, hF⟩ := ck_some hF; refine op_g ha rfl (g_add rfl rfl hI71) ?_; clear ha a; intro a ha; refine op_g ha rfl (g_assign rfl) ?_; clear ha a; intro a ha; refine wpList_nil ?_; replace ha := ha.sub (σ' := [(0, va0), (1, (.int .i64 a1)), (5, (.int .i64 (i23 + 1)))]) ⟨rfl, rfl, rfl, trivial⟩; refine e_lq ?_; obtain rfl := Option.some.inj hF
        exact ⟨_, Nat.lt_succ_self _, i23 + 1, ha.sub ⟨rfl, rfl, rfl, trivial⟩, hE25, hI71, hN52⟩
      replace hF := if_f hp55 hF; refine wp_exit ?_; refine e_then_exit ?_; refine e_lq_eq ?_; obtain rfl := Option.some.inj hF
      exact ⟨ha.sub trivial, hE25, (LK_inr hN52).symm⟩
  rintro a w45 ⟨ha, hE51, rfl⟩
  have hF : F_spec_l1Has_k2 = some _ := hK48; clear hK48; unfold F_spec_l1Has_k2 at hF
  refine e_then ?_; refine wp_seq ?_; refine wp_region_lit ?_; refine op_g ha rfl (g_assign rfl) ?_; clear ha a; intro a ha; refine wpList_nil ?_; refine e_then ?_; refine wp_ret ?_; obtain rfl := Option.some.inj hF
  exact f_ret1 ha rfl rfl ⟨rfl, hE51⟩
set_option maxHeartbeats 2000000 in
theorem W_spec_GraphOk {W : World} {va0_0 : Value} {fa0_0 : List Nat} {a0_0 : (List (List Int))} (ha0_0 : Ro (Rp.sl 2 Rp.int) W fa0_0 va0_0 a0_0) {r : Bool} (hF : F_spec_GraphOk a0_0 = some r) :
    Calls Tryd.prog 29 [.agg #[va0_0]].toArray W (Ret fun u w' => u = .bool r ∧ Ext W w') := by
  refine f_enter Tryd.func29 rfl Tryd.ntmps29 rfl ?_
  intro a ha
  replace ha : Fr 64 [(0, (.agg #[va0_0]))] a := ha
  have hE : Chg [] W W := Chg.refl _ _
  unfold F_spec_GraphOk at hF
  refine wp_seq ?_; refine wp_region_lit ?_
  refine o_box ha rfl rfl rfl ?_; clear ha a; intro b1 w2 hB3 hx4 hlo5 a ha
  have q6 := Zn.one hlo5
  have q7 := Zn.upD q6 hE
  have hE8 := Ext.trans hE hx4
  refine op_g ha rfl (g_assign rfl) ?_; clear ha a; intro a ha; refine wpList_nil ?_; replace ha := ha.sub (σ' := [(1, (.pointer (some ⟨b1, 0, none⟩)))]) ⟨rfl, trivial⟩; refine e_then ?_; refine wp_seq ?_; refine wp_region_lit ?_; refine op_g ha rfl (g_loadA (cs := [va0_0]) Tryd.isAgg27 Tryd.sizeOf27 rfl (by simp) hB3.all) ?_; clear ha a; intro a ha; obtain ⟨x9, hc10, hF⟩ := cal_some hF
  refine o_call ha rfl rfl Tryd.call32 (W_spec_l1Size (ha0_0.ext hE8) hc10) ?_; clear ha a; rintro v11 w12 ⟨⟨rfl, hI14⟩, hx13⟩ a ha
  replace hB3 := hB3.ext hx13
  have hE15 := Ext.trans hE8 hx13
  refine op_g ha rfl (g_assign rfl) ?_; clear ha a; intro a ha; refine wpList_nil ?_; replace ha := ha.sub (σ' := [(1, (.pointer (some ⟨b1, 0, none⟩))), (3, (.int .i64 x9))]) ⟨rfl, rfl, trivial⟩; refine e_then ?_; refine wp_seq ?_; refine wp_seq ?_; refine wp_region_lit ?_; refine op_g ha rfl (g_move rfl) ?_; clear ha a; intro a ha; obtain ⟨x16, hc17, hF⟩ := cal_some hF
  refine o_call ha rfl rfl Tryd.call39 (W_spec_l1In hI14 (show InI 1 from by decide) (show InI 16 from by decide) hc17) ?_; clear ha a; rintro v18 w19 ⟨rfl, hx20⟩ a ha
  replace hB3 := hB3.ext hx20
  have hE21 := Ext.trans hE15 hx20
  refine op_g ha rfl (g_not rfl) ?_; clear ha a; intro a ha; refine wpList_nil ?_; replace ha := ha.sub (σ' := [(1, (.pointer (some ⟨b1, 0, none⟩))), (3, (.int .i64 x9)), (11, (.bool (!x16)))]) ⟨rfl, rfl, rfl, trivial⟩; refine e_then ?_; refine c_cond (¬ (x16 = true)) ha rfl (n_iff (Iff.rfl)) (fun hp22 => ?_) (fun hp22 => ?_)
  · replace hF := if_t hp22 hF
    refine wp_seq ?_; refine wp_region_lit ?_; refine op_g ha rfl (g_assign rfl) ?_; clear ha a; intro a ha; refine wpList_nil ?_; replace ha := ha.sub (σ' := [(2, (.bool false))]) ⟨rfl, trivial⟩; refine e_then ?_; refine wp_ret ?_; refine e_then_ret ?_; obtain rfl := Option.some.inj hF
    exact f_ret1 ha rfl rfl ⟨rfl, hE21⟩
  replace hF := if_f hp22 hF; refine wp_skip ?_; refine e_then ?_; refine wp_seq ?_; refine wp_seq ?_; refine wp_region_lit ?_; refine op_g ha rfl (g_assign rfl) ?_; clear ha a; intro a ha; refine wpList_nil ?_; replace ha := ha.sub (σ' := [(1, (.pointer (some ⟨b1, 0, none⟩))), (3, (.int .i64 x9)), (4, (.int .i64 0))]) ⟨rfl, rfl, rfl, trivial⟩; refine e_then ?_; obtain ⟨o136, ho137, hK138⟩ := bnd_some hF
  obtain ⟨n139, hn140⟩ := lp_some ho137; clear ho137
  refine c_loop (fun a w => Fr 64 [(1, (.pointer (some ⟨b1, 0, none⟩))), (3, (.int .i64 x9))] a ∧ Chg [] W w ∧ Bx w b1 [va0_0] 27 ∧ Zn W (b1 : Int) ∧ o136 = .inl ()) (fun n a w => ∃ (i80 : Int), Fr 64 [(1, (.pointer (some ⟨b1, 0, none⟩))), (3, (.int .i64 x9)), (4, (.int .i64 i80))] a ∧ Chg [] W w ∧ InI i80 ∧ Bx w b1 [va0_0] 27 ∧ Zn W (b1 : Int) ∧ lpN (fun s => F_spec_GraphOk_l1 a0_0 x9 s) n i80 = some o136) n139 ⟨0, ha.sub ⟨rfl, rfl, rfl, trivial⟩, hE21, (show InI 0 from by decide), hB3, q7, hn140⟩ ?_ ?_
  · rintro m144 a w77 ⟨i80, ha, hE82, hI81, hB78, z79, hF⟩
    cases m144 with
    | zero => exact (lpN_zero hF).elim
    | succ m144 =>
      obtain ⟨z143, hF, hN142⟩ := lpN_succ hF
      have hF : F_spec_GraphOk_l1 a0_0 x9 i80 = some z143 := hF; unfold F_spec_GraphOk_l1 at hF
      refine wp_seq ?_; refine wp_seq ?_; refine wp_region_lit ?_; (iterate 2 refine op_g ha rfl (g_move rfl) ?_; clear ha a; intro a ha); refine op_g ha rfl (g_lss rfl rfl) ?_; clear ha a; intro a ha; refine wpList_nil ?_; replace ha := ha.sub (σ' := [(1, (.pointer (some ⟨b1, 0, none⟩))), (3, (.int .i64 x9)), (4, (.int .i64 i80)), (14, (.bool (decide (i80 < x9))))]) ⟨rfl, rfl, rfl, rfl, trivial⟩; refine e_then ?_; refine c_cond (i80 < x9) ha rfl (decide_eq_true_iff) (fun hp145 => ?_) (fun hp145 => ?_)
      · replace hF := if_t hp145 hF
        refine wp_skip ?_; refine e_then ?_; refine wp_seq ?_; refine wp_block ?_; refine wp_seq ?_; refine wp_region_lit ?_; refine op_g ha rfl (g_field0 st27_0 rfl) ?_; clear ha a; intro a ha; refine op_g ha rfl (g_load Tryd.isAgg22 rfl (hB78.cell rfl)) ?_; clear ha a; intro a ha; refine op_g ha rfl (g_move rfl) ?_; clear ha a; intro a ha; obtain ⟨x146, g147, gx148, hF⟩ := idx_some hF
        obtain ⟨p149, cs150, f151, hf152, hpb153, hat154, hr155, hi156⟩ := ha0_0.at g147 gx148
        obtain ⟨v157, rfl, h158⟩ := hr155
        have h158 : Ro Rp.int W f151 v157 x146 := h158
        refine op_g ha rfl (hi156.gives sl22 rfl rfl) ?_; clear ha a; intro a ha; refine op_g ha rfl (g_load0 hE82 Tryd.isAgg31 rfl hat154.one) ?_; clear ha a; intro a ha; refine op_g ha rfl (g_move rfl) ?_; clear ha a; intro a ha; obtain ⟨x160, hc161, hF⟩ := cal_some hF
        refine o_call ha rfl rfl Tryd.call40 (W_spec_l1Set (h158.ext hE82) hI14 hc161) ?_; clear ha a; rintro v162 w163 ⟨rfl, hx164⟩ a ha
        replace hB78 := hB78.ext hx164
        have hE165 := Ext.trans hE82 hx164
        refine op_g ha rfl (g_not rfl) ?_; clear ha a; intro a ha; refine op_g ha rfl (g_move rfl) ?_; clear ha a; intro a ha
        by_cases hp166 : ¬ (x160 = true)
        · replace hF := if_t hp166 hF
          rw [show (!x160) = true from (n_iff (Iff.rfl)).2 hp166] at ha
          (iterate 7 refine op_unwant ha rfl (yields ha rfl rfl) rfl ?_; clear ha a; intro a ha); refine op_g ha rfl (g_pick rfl rfl) ?_; clear ha a; intro a ha; refine wpList_nil ?_; replace ha := ha.sub (σ' := [(1, (.pointer (some ⟨b1, 0, none⟩))), (3, (.int .i64 x9)), (4, (.int .i64 i80)), (33, (.bool true))]) ⟨rfl, rfl, rfl, rfl, trivial⟩; refine e_then ?_; refine c_true ha rfl ?_; refine wp_seq ?_; refine wp_region_lit ?_; refine op_g ha rfl (g_assign rfl) ?_; clear ha a; intro a ha; refine wpList_nil ?_; replace ha := ha.sub (σ' := [(2, (.bool false))]) ⟨rfl, trivial⟩; refine e_then ?_; refine wp_ret ?_
          refine e_blk_ret ?_; refine e_then_ret ?_; refine e_lq_ret ?_; refine e_then_ret ?_; obtain rfl := Option.some.inj hF
          have e167 := LK_inr hN142; subst e167
          have e168 := BK_inr hK138; subst e168
          exact f_ret1 ha rfl rfl ⟨rfl, hE165⟩
        replace hF := if_f hp166 hF
        rw [show (!x160) = false from b_false (n_iff (Iff.rfl)) hp166] at ha
        refine op_want (yields ha rfl rfl) ?_; refine op_g ha rfl (g_field0 st27_0 rfl) ?_; clear ha a; intro a ha; refine op_want (yields ha rfl rfl) ?_; refine op_g ha rfl (g_load Tryd.isAgg22 rfl (hB78.cell rfl)) ?_; clear ha a; intro a ha; refine op_want (yields ha rfl rfl) ?_; refine op_g ha rfl (g_move rfl) ?_; clear ha a; intro a ha; refine op_want (yields ha rfl rfl) ?_; obtain ⟨x169, g170, gx171, hF⟩ := idx_some hF
        obtain ⟨p172, cs173, f174, hf175, hpb176, hat177, hr178, hi179⟩ := ha0_0.at g170 gx171
        obtain ⟨v180, rfl, h181⟩ := hr178
        have h181 : Ro Rp.int W f174 v180 x169 := h181
        refine op_g ha rfl (hi179.gives sl22 rfl rfl) ?_; clear ha a; intro a ha; refine op_want (yields ha rfl rfl) ?_; refine op_g ha rfl (g_load0 hE165 Tryd.isAgg31 rfl hat177.one) ?_; clear ha a; intro a ha; refine op_want (yields ha rfl rfl) ?_; refine op_g ha rfl (g_move rfl) ?_; clear ha a; intro a ha; refine op_want (yields ha rfl rfl) ?_; obtain ⟨x183, hc184, hF⟩ := cal_some hF
        refine o_call ha rfl rfl Tryd.call41 (W_spec_l1Has (h181.ext hE165) hI81 hc184) ?_; clear ha a; rintro v185 w186 ⟨rfl, hx187⟩ a ha
        replace hB78 := hB78.ext hx187
        have hE188 := Ext.trans hE165 hx187
        refine op_g ha rfl (g_pick rfl rfl) ?_; clear ha a; intro a ha; refine wpList_nil ?_; replace ha := ha.sub (σ' := [(1, (.pointer (some ⟨b1, 0, none⟩))), (3, (.int .i64 x9)), (4, (.int .i64 i80)), (26, (.pointer (some ⟨b1, 0, none⟩))), (27, va0_0), (28, (.int .i64 i80)), (29, (.pointer (some p172))), (30, v180), (31, (.int .i64 i80)), (32, (.bool x183)), (33, (.bool x183))]) ⟨rfl, rfl, rfl, rfl, rfl, rfl, rfl, rfl, rfl, rfl, rfl, trivial⟩; refine e_then ?_; refine c_cond (x183 = true) ha rfl (Iff.rfl) (fun hp189 => ?_) (fun hp189 => ?_)
        · replace hF := if_t hp189 hF
          refine wp_seq ?_; refine wp_region_lit ?_; refine op_g ha rfl (g_assign rfl) ?_; clear ha a; intro a ha; refine wpList_nil ?_; replace ha := ha.sub (σ' := [(2, (.bool false))]) ⟨rfl, trivial⟩; refine e_then ?_; refine wp_ret ?_; refine e_blk_ret ?_; refine e_then_ret ?_; refine e_lq_ret ?_; refine e_then_ret ?_; obtain rfl := Option.some.inj hF
          have e190 := LK_inr hN142; subst e190
          have e191 := BK_inr hK138; subst e191
          exact f_ret1 ha rfl rfl ⟨rfl, hE188⟩
        replace hF := if_f hp189 hF; refine wp_skip ?_; refine e_blk ?_; refine e_then ?_; refine wp_region_lit ?_; refine op_g ha rfl (g_move rfl) ?_; clear ha a; intro a ha; obtain ⟨hI192, hF⟩ := ck_some hF; refine op_g ha rfl (g_add rfl rfl hI192) ?_; clear ha a; intro a ha; refine op_g ha rfl (g_assign rfl) ?_; clear ha a; intro a ha; refine wpList_nil ?_; replace ha := ha.sub (σ' := [(1, (.pointer (some ⟨b1, 0, none⟩))), (3, (.int .i64 x9)), (4, (.int .i64 (i80 + 1))), (26, (.pointer (some ⟨b1, 0, none⟩))), (27, va0_0), (28, (.int .i64 i80)), (29, (.pointer (some p172))), (30, v180), (31, (.int .i64 i80)), (32, (.bool x183))]) ⟨rfl, rfl, rfl, rfl, rfl, rfl, rfl, rfl, rfl, rfl, trivial⟩
        refine e_lq ?_; obtain rfl := Option.some.inj hF
        exact ⟨_, Nat.lt_succ_self _, i80 + 1, ha.sub ⟨rfl, rfl, rfl, trivial⟩, hE188, hI192, hB78, z79, hN142⟩
      replace hF := if_f hp145 hF; refine wp_exit ?_; refine e_then_exit ?_; refine e_lq_eq ?_; obtain rfl := Option.some.inj hF
      exact ⟨ha.sub ⟨rfl, rfl, trivial⟩, hE82, hB78, z79, (LK_inr hN142).symm⟩
  rintro a w133 ⟨ha, hE141, hB134, z135, rfl⟩
  have hF : F_spec_GraphOk_k2 a0_0 x9 = some _ := hK138; clear hK138; unfold F_spec_GraphOk_k2 at hF
  refine e_then ?_; refine wp_seq ?_; refine wp_seq ?_; refine wp_region_lit ?_; refine op_g ha rfl (g_assign rfl) ?_; clear ha a; intro a ha; refine wpList_nil ?_; refine e_then ?_; obtain ⟨o675, ho676, hK677⟩ := bnd_some hF
  obtain ⟨n678, hn679⟩ := lp_some ho676; clear ho676
  refine c_loop (fun a w => Fr 64 [] a ∧ Chg [] W w ∧ o675 = .inl ()) (fun n a w => ∃ (i436 : Int), Fr 64 [(1, (.pointer (some ⟨b1, 0, none⟩))), (3, (.int .i64 x9)), (5, (.int .i64 i436))] a ∧ Chg [] W w ∧ InI i436 ∧ Bx w b1 [va0_0] 27 ∧ Zn W (b1 : Int) ∧ lpN (fun s => F_spec_GraphOk_l3 a0_0 x9 s) n i436 = some o675) n678 ⟨0, ha.sub ⟨rfl, rfl, rfl, trivial⟩, hE141, (show InI 0 from by decide), hB134, z135, hn679⟩ ?_ ?_
  · rintro m683 a w433 ⟨i436, ha, hE438, hI437, hB434, z435, hF⟩
    cases m683 with
    | zero => exact (lpN_zero hF).elim
    | succ m683 =>
      obtain ⟨z682, hF, hN681⟩ := lpN_succ hF
      have hF : F_spec_GraphOk_l3 a0_0 x9 i436 = some z682 := hF; unfold F_spec_GraphOk_l3 at hF
      refine wp_seq ?_; refine wp_seq ?_; refine wp_region_lit ?_; (iterate 2 refine op_g ha rfl (g_move rfl) ?_; clear ha a; intro a ha); refine op_g ha rfl (g_lss rfl rfl) ?_; clear ha a; intro a ha; refine wpList_nil ?_; replace ha := ha.sub (σ' := [(1, (.pointer (some ⟨b1, 0, none⟩))), (3, (.int .i64 x9)), (5, (.int .i64 i436)), (36, (.bool (decide (i436 < x9))))]) ⟨rfl, rfl, rfl, rfl, trivial⟩; refine e_then ?_; refine c_cond (i436 < x9) ha rfl (decide_eq_true_iff) (fun hp684 => ?_) (fun hp684 => ?_)
      · replace hF := if_t hp684 hF
        refine wp_skip ?_; refine e_then ?_; refine wp_seq ?_; refine wp_block ?_; refine wp_seq ?_; refine wp_region_lit ?_; refine op_g ha rfl (g_assign rfl) ?_; clear ha a; intro a ha; refine wpList_nil ?_; replace ha := ha.sub (σ' := [(1, (.pointer (some ⟨b1, 0, none⟩))), (3, (.int .i64 x9)), (5, (.int .i64 i436)), (6, (.int .i64 0))]) ⟨rfl, rfl, rfl, rfl, trivial⟩; refine e_then ?_; obtain ⟨o838, ho839, hK840⟩ := bnd_some hF
        obtain ⟨n841, hn842⟩ := lp_some ho839; clear ho839
        refine c_loop (fun a w => Fr 64 [(1, (.pointer (some ⟨b1, 0, none⟩))), (3, (.int .i64 x9)), (5, (.int .i64 i436))] a ∧ Chg [] W w ∧ Bx w b1 [va0_0] 27 ∧ Zn W (b1 : Int) ∧ o838 = .inl ()) (fun n a w => ∃ (i762 : Int), Fr 64 [(1, (.pointer (some ⟨b1, 0, none⟩))), (3, (.int .i64 x9)), (5, (.int .i64 i436)), (6, (.int .i64 i762))] a ∧ Chg [] W w ∧ InI i762 ∧ Bx w b1 [va0_0] 27 ∧ Zn W (b1 : Int) ∧ lpN (fun s => F_spec_GraphOk_l4 a0_0 i436 s) n i762 = some o838) n841 ⟨0, ha.sub ⟨rfl, rfl, rfl, rfl, trivial⟩, hE438, (show InI 0 from by decide), hB434, z435, hn842⟩ ?_ ?_
        · rintro m846 a w759 ⟨i762, ha, hE764, hI763, hB760, z761, hF⟩
          cases m846 with
          | zero => exact (lpN_zero hF).elim
          | succ m846 =>
            obtain ⟨z845, hF, hN844⟩ := lpN_succ hF
            have hF : F_spec_GraphOk_l4 a0_0 i436 i762 = some z845 := hF; unfold F_spec_GraphOk_l4 at hF
            refine wp_seq ?_; refine wp_seq ?_; refine wp_region_lit ?_; refine op_g ha rfl (g_move rfl) ?_; clear ha a; intro a ha; refine op_g ha rfl (g_field0 st27_0 rfl) ?_; clear ha a; intro a ha; refine op_g ha rfl (g_load Tryd.isAgg22 rfl (hB760.cell rfl)) ?_; clear ha a; intro a ha; refine op_g ha rfl (g_move rfl) ?_; clear ha a; intro a ha; obtain ⟨x847, g848, gx849, hF⟩ := idx_some hF
            obtain ⟨p850, cs851, f852, hf853, hpb854, hat855, hr856, hi857⟩ := ha0_0.at g848 gx849
            obtain ⟨v858, rfl, h859⟩ := hr856
            have h859 : Ro Rp.int W f852 v858 x847 := h859
            refine op_g ha rfl (hi857.gives sl22 rfl rfl) ?_; clear ha a; intro a ha; refine op_g ha rfl (g_load0 hE764 Tryd.isAgg31 rfl hat855.one) ?_; clear ha a; intro a ha; refine op_g ha rfl (g_lenR sl31.und h859 rfl) ?_; clear ha a; intro a ha; refine op_g ha rfl (g_lss rfl rfl) ?_; clear ha a; intro a ha; refine wpList_nil ?_; replace ha := ha.sub (σ' := [(1, (.pointer (some ⟨b1, 0, none⟩))), (3, (.int .i64 x9)), (5, (.int .i64 i436)), (6, (.int .i64 i762)), (46, (.bool (decide (i762 < (x847.length : Int)))))]) ⟨rfl, rfl, rfl, rfl, rfl, trivial⟩; refine e_then ?_; refine c_cond (i762 < (x847.length : Int)) ha rfl (decide_eq_true_iff) (fun hp861 => ?_) (fun hp861 => ?_)
            · replace hF := if_t hp861 hF
              refine wp_skip ?_; refine e_then ?_; refine wp_seq ?_; refine wp_block ?_; refine wp_seq ?_; refine d_quiet hmix (by kernel_rfl) ?_; refine q_g ha rfl (g_field0 st27_0 rfl) ?_; clear ha a; intro a ha; refine q_g ha rfl (g_load Tryd.isAgg22 rfl (hB760.cell rfl)) ?_; clear ha a; intro a ha; refine q_g ha rfl (g_field0 st27_0 rfl) ?_; clear ha a; intro a ha; refine q_g ha rfl (g_load Tryd.isAgg22 rfl (hB760.cell rfl)) ?_; clear ha a; intro a ha; refine q_g ha rfl (g_move rfl) ?_; clear ha a; intro a ha; obtain ⟨x862, g863, gx864, hF⟩ := idx_some hF
              obtain ⟨p865, cs866, f867, hf868, hpb869, hat870, hr871, hi872⟩ := ha0_0.at g863 gx864
              obtain ⟨v873, rfl, h874⟩ := hr871
              have h874 : Ro Rp.int W f867 v873 x862 := h874
              refine q_g ha rfl (hi872.gives sl22 rfl rfl) ?_; clear ha a; intro a ha; refine q_g ha rfl (g_load0 hE764 Tryd.isAgg31 rfl hat870.one) ?_; clear ha a; intro a ha; refine q_g ha rfl (g_move rfl) ?_; clear ha a; intro a ha; obtain ⟨x876, g877, gx878, hF⟩ := idx_some hF
              obtain ⟨p879, cs880, f881, hf882, hpb883, hat884, hr885, hi886⟩ := h874.at g877 gx878
              obtain ⟨rfl, hI887, rfl⟩ := hr885
              refine q_g ha rfl (hi886.gives sl31 rfl rfl) ?_; clear ha a; intro a ha; refine q_g ha rfl (g_load0 hE764 Tryd.isAgg2 rfl hat884.one) ?_; clear ha a; intro a ha; obtain ⟨x888, g889, gx890, hF⟩ := idx_some hF
              obtain ⟨p891, cs892, f893, hf894, hpb895, hat896, hr897, hi898⟩ := ha0_0.at g889 gx890
              obtain ⟨v899, rfl, h900⟩ := hr897
              have h900 : Ro Rp.int W f893 v899 x888 := h900
              refine q_g ha rfl (hi898.gives sl22 rfl rfl) ?_; clear ha a; intro a ha; refine q_g ha rfl (g_load0 hE764 Tryd.isAgg31 rfl hat896.one) ?_; clear ha a; intro a ha; refine q_g ha rfl (g_move rfl) ?_; clear ha a; intro a ha; obtain ⟨x904, hc905, hF⟩ := cal_some hF; refine q_call (.bool x904) ha rfl rfl Tryd.call41 (fun w903 hx902 => W_spec_l1Has (h900.ext (Ext.trans hE764 hx902)) hI437 hc905) (fun _ _ _ h => ⟨h.1, h.2⟩) ?_; clear ha a; intro a ha; refine q_g ha rfl (g_not rfl) ?_; clear ha a; intro a ha
              refine q_nil ?_; intro w906 hx907
              replace hB760 := hB760.ext hx907
              have hE908 := Ext.trans hE764 hx907
              replace ha := ha.sub (σ' := [(1, (.pointer (some ⟨b1, 0, none⟩))), (3, (.int .i64 x9)), (5, (.int .i64 i436)), (6, (.int .i64 i762)), (63, (.bool (!x904)))]) ⟨rfl, rfl, rfl, rfl, rfl, trivial⟩; refine e_then ?_; refine c_cond (¬ (x904 = true)) ha rfl (n_iff (Iff.rfl)) (fun hp909 => ?_) (fun hp909 => ?_)
              · replace hF := if_t hp909 hF
                refine wp_seq ?_; refine wp_region_lit ?_; refine op_g ha rfl (g_assign rfl) ?_; clear ha a; intro a ha; refine wpList_nil ?_; replace ha := ha.sub (σ' := [(2, (.bool false))]) ⟨rfl, trivial⟩; refine e_then ?_; refine wp_ret ?_; refine e_blk_ret ?_; refine e_then_ret ?_; refine e_lq_ret ?_; refine e_blk_ret ?_; refine e_then_ret ?_; refine e_lq_ret ?_; refine e_then_ret ?_; obtain rfl := Option.some.inj hF
                have e910 := LK_inr hN844; subst e910
                have e911 := BK_inr hK840; subst e911
                have e912 := LK_inr hN681; subst e912
                have e913 := BK_inr hK677; subst e913
                exact f_ret1 ha rfl rfl ⟨rfl, hE908⟩
              replace hF := if_f hp909 hF; refine wp_skip ?_; refine e_blk ?_; refine e_then ?_; refine wp_region_lit ?_; refine op_g ha rfl (g_move rfl) ?_; clear ha a; intro a ha; obtain ⟨hI914, hF⟩ := ck_some hF; refine op_g ha rfl (g_add rfl rfl hI914) ?_; clear ha a; intro a ha; refine op_g ha rfl (g_assign rfl) ?_; clear ha a; intro a ha; refine wpList_nil ?_; replace ha := ha.sub (σ' := [(1, (.pointer (some ⟨b1, 0, none⟩))), (3, (.int .i64 x9)), (5, (.int .i64 i436)), (6, (.int .i64 (i762 + 1)))]) ⟨rfl, rfl, rfl, rfl, trivial⟩; refine e_lq ?_; obtain rfl := Option.some.inj hF
              exact ⟨_, Nat.lt_succ_self _, i762 + 1, ha.sub ⟨rfl, rfl, rfl, rfl, trivial⟩, hE908, hI914, hB760, z761, hN844⟩
            replace hF := if_f hp861 hF; refine wp_exit ?_; refine e_then_exit ?_; refine e_lq_eq ?_; obtain rfl := Option.some.inj hF
            exact ⟨ha.sub ⟨rfl, rfl, rfl, trivial⟩, hE764, hB760, z761, (LK_inr hN844).symm⟩
        rintro a w835 ⟨ha, hE843, hB836, z837, rfl⟩
        have hF : F_spec_GraphOk_k5 i436 = some _ := hK840; clear hK840; unfold F_spec_GraphOk_k5 at hF
        refine e_blk ?_; refine e_then ?_; refine wp_region_lit ?_; refine op_g ha rfl (g_move rfl) ?_; clear ha a; intro a ha; obtain ⟨hI916, hF⟩ := ck_some hF; refine op_g ha rfl (g_add rfl rfl hI916) ?_; clear ha a; intro a ha; refine op_g ha rfl (g_assign rfl) ?_; clear ha a; intro a ha; refine wpList_nil ?_; replace ha := ha.sub (σ' := [(1, (.pointer (some ⟨b1, 0, none⟩))), (3, (.int .i64 x9)), (5, (.int .i64 (i436 + 1)))]) ⟨rfl, rfl, rfl, trivial⟩; refine e_lq ?_; obtain rfl := Option.some.inj hF
        exact ⟨_, Nat.lt_succ_self _, i436 + 1, ha.sub ⟨rfl, rfl, rfl, trivial⟩, hE843, hI916, hB836, z837, hN681⟩
      replace hF := if_f hp684 hF; refine wp_exit ?_; refine e_then_exit ?_; refine e_lq_eq ?_; obtain rfl := Option.some.inj hF
      exact ⟨ha.sub trivial, hE438, (LK_inr hN681).symm⟩
  rintro a w674 ⟨ha, hE680, rfl⟩
  have hF : F_spec_GraphOk_k6 = some _ := hK677; clear hK677; unfold F_spec_GraphOk_k6 at hF
  refine e_then ?_; refine wp_seq ?_; refine wp_region_lit ?_; refine op_g ha rfl (g_assign rfl) ?_; clear ha a; intro a ha; refine wpList_nil ?_; refine e_then ?_; refine wp_ret ?_; obtain rfl := Option.some.inj hF
  exact f_ret1 ha rfl rfl ⟨rfl, hE680⟩
set_option maxHeartbeats 2000000 in
theorem W_spec_l26Small {W : World} {va0_0 : Value} {fa0_0 : List Nat} {a0_0 : (List (List Int))} (ha0_0 : Ro (Rp.sl 2 Rp.int) W fa0_0 va0_0 a0_0) {r : Bool} (hF : F_spec_l26Small a0_0 = some r) :
    Calls Tryd.prog 22 [.agg #[va0_0]].toArray W (Ret fun u w' => u = .bool r ∧ Ext W w') := by
  refine f_enter Tryd.func22 rfl Tryd.ntmps22 rfl ?_
  intro a ha
  replace ha : Fr 11 [(0, (.agg #[va0_0]))] a := ha
  have hE : Chg [] W W := Chg.refl _ _
  unfold F_spec_l26Small at hF
  refine wp_seq ?_; refine wp_region_lit ?_
  refine o_box ha rfl rfl rfl ?_; clear ha a; intro b1 w2 hB3 hx4 hlo5 a ha
  have q6 := Zn.one hlo5
  have q7 := Zn.upD q6 hE
  have hE8 := Ext.trans hE hx4
  refine op_g ha rfl (g_assign rfl) ?_; clear ha a; intro a ha; refine wpList_nil ?_; replace ha := ha.sub (σ' := [(1, (.pointer (some ⟨b1, 0, none⟩)))]) ⟨rfl, trivial⟩; refine e_then ?_; refine wp_seq ?_; refine wp_region_lit ?_; refine op_g ha rfl (g_loadA (cs := [va0_0]) Tryd.isAgg27 Tryd.sizeOf27 rfl (by simp) hB3.all) ?_; clear ha a; intro a ha; obtain ⟨x9, hc10, hF⟩ := cal_some hF
  refine o_call ha rfl rfl Tryd.call29 (W_spec_GraphOk (ha0_0.ext hE8) hc10) ?_; clear ha a; rintro v11 w12 ⟨rfl, hx13⟩ a ha
  replace hB3 := hB3.ext hx13
  have hE14 := Ext.trans hE8 hx13
  refine op_g ha rfl (g_move rfl) ?_; clear ha a; intro a ha
  by_cases hp15 : x9 = true
  · replace hF := if_t hp15 hF
    rw [show (x9) = true from (Iff.rfl).2 hp15] at ha
    refine op_want (yields ha rfl rfl) ?_; refine op_g ha rfl (g_field0 st27_0 rfl) ?_; clear ha a; intro a ha; refine op_want (yields ha rfl rfl) ?_; refine op_g ha rfl (g_load Tryd.isAgg22 rfl (hB3.cell rfl)) ?_; clear ha a; intro a ha; refine op_want (yields ha rfl rfl) ?_; refine op_g ha rfl (g_lenR sl22.und ha0_0 rfl) ?_; clear ha a; intro a ha; refine op_want (yields ha rfl rfl) ?_; refine op_g ha rfl (g_leq rfl rfl) ?_; clear ha a; intro a ha; refine op_g ha rfl (g_pick rfl rfl) ?_; clear ha a; intro a ha; refine op_g ha rfl (g_assign rfl) ?_; clear ha a; intro a ha; refine wpList_nil ?_
    replace ha := ha.sub (σ' := [(2, (.bool (decide ((a0_0.length : Int) ≤ 8))))]) ⟨rfl, trivial⟩; refine e_then ?_; refine wp_ret ?_; obtain rfl := Option.some.inj hF
    exact f_ret1 ha rfl rfl ⟨rfl, hE14⟩
  replace hF := if_f hp15 hF
  rw [show (x9) = false from b_false (Iff.rfl) hp15] at ha
  (iterate 4 refine op_unwant ha rfl (yields ha rfl rfl) rfl ?_; clear ha a; intro a ha); refine op_g ha rfl (g_pick rfl rfl) ?_; clear ha a; intro a ha; refine op_g ha rfl (g_assign rfl) ?_; clear ha a; intro a ha; refine wpList_nil ?_; replace ha := ha.sub (σ' := [(2, (.bool false))]) ⟨rfl, trivial⟩; refine e_then ?_; refine wp_ret ?_; obtain rfl := Option.some.inj hF
  exact f_ret1 ha rfl rfl ⟨rfl, hE14⟩
set_option maxHeartbeats 2000000 in
theorem W_spec_l1Edges {W : World} {va0_0 : Value} {fa0_0 : List Nat} {a0_0 : (List (List Int))} (ha0_0 : Ro (Rp.sl 2 Rp.int) W fa0_0 va0_0 a0_0) {r : (List (List Int))} (hF : F_spec_l1Edges a0_0 = some r) :
    Calls Tryd.prog 31 [.agg #[va0_0]].toArray W (Ret fun u w' => ∃ (b_u : Int) (fs_u : List Nat), Ow (Rp.sl 2 Rp.int) 31 true w' fs_u b_u u r ∧ Zn W b_u ∧ (∀ k ∈ fs_u, W.heap.size ≤ k) ∧ (bl b_u ++ fs_u).Nodup ∧ Ext W w') := by
  refine f_enter Tryd.func31 rfl Tryd.ntmps31 rfl ?_
  intro a ha
  replace ha : Fr 47 [(0, (.agg #[va0_0]))] a := ha
  have hE : Chg [] W W := Chg.refl _ _
  unfold F_spec_l1Edges at hF
  refine wp_seq ?_; refine wp_region_lit ?_
  refine o_box ha rfl rfl rfl ?_; clear ha a; intro b1 w2 hB3 hx4 hlo5 a ha
  have q6 := Zn.one hlo5
  have q7 := Zn.upD q6 hE
  have hE8 := Ext.trans hE hx4
  refine op_g ha rfl (g_assign rfl) ?_; clear ha a; intro a ha; refine wpList_nil ?_; replace ha := ha.sub (σ' := [(1, (.pointer (some ⟨b1, 0, none⟩)))]) ⟨rfl, trivial⟩; refine e_then ?_; refine wp_seq ?_; refine wp_region_lit ?_
  refine o_lit0 (Rp.sl 2 Rp.int) ha rfl sl22 ?_; clear ha a; intro v9 w10 h11 hx12 a ha
  obtain ⟨b14, hb14⟩ : ∃ b : Int, b = w2.heap.size := ⟨_, rfl⟩; rw [← hb14] at h11
  have q15 := zn_of hb14
  have q16 := Nq.new hB3.fpb q15
  have q17 := Nq.madeO q15 hB3.bi
  have q18 := Zn.upD q15 hE8
  replace hB3 := hB3.ext hx12
  have hE19 := Ext.trans hE8 hx12
  refine op_g ha rfl (g_assign rfl) ?_; clear ha a; intro a ha; refine wpList_nil ?_; replace ha := ha.sub (σ' := [(1, (.pointer (some ⟨b1, 0, none⟩))), (3, v9)]) ⟨rfl, rfl, trivial⟩; refine e_then ?_; refine wp_seq ?_; refine wp_seq ?_; refine wp_region_lit ?_; refine op_g ha rfl (g_assign rfl) ?_; clear ha a; intro a ha; refine wpList_nil ?_; refine e_then ?_; obtain ⟨o981, ho982, hK983⟩ := bnd_some hF
  obtain ⟨n984, hn985⟩ := lp_some ho982; clear ho982
  refine c_loop (fun a w => ∃ (l978 : (List (List Int))) (fs975 : List Nat) (v979 : Value) (b980 : Int), Fr 47 [(3, v979)] a ∧ Chg [] W w ∧ Ow (Rp.sl 2 Rp.int) 31 true w fs975 b980 v979 l978 ∧ Zn W b980 ∧ (∀ k ∈ fs975, W.heap.size ≤ k) ∧ (bl b980 ++ fs975).Nodup ∧ o981 = .inl l978) (fun n a w => ∃ (l502 : (List (List Int))) (i505 : Int) (fs499 : List Nat) (v503 : Value) (b504 : Int), Fr 47 [(1, (.pointer (some ⟨b1, 0, none⟩))), (3, v503), (4, (.int .i64 i505))] a ∧ Chg [] W w ∧ InI i505 ∧ Bx w b1 [va0_0] 27 ∧ Zn W (b1 : Int) ∧ Ow (Rp.sl 2 Rp.int) 31 true w fs499 b504 v503 l502 ∧ Zn W b504 ∧ (∀ k ∈ fs499, W.heap.size ≤ k) ∧ (bl b504 ++ fs499).Nodup ∧ Nq ([b1]) b504 ∧ Nq (bl b504 ++ fs499) (b1 : Int) ∧ lpN (fun s => F_spec_l1Edges_l1 a0_0 s.1 s.2) n (l502, i505) = some o981) n984 ⟨([] : (List (List Int))), 0, [], v9, b14, ha.sub ⟨rfl, rfl, rfl, trivial⟩, hE19, (show InI 0 from by decide), hB3, q7, h11, q18, (zf_nil _), (bl_nodup b14), q16, q17, hn985⟩ ?_ ?_
  · rintro m989 a w493 ⟨l502, i505, fs499, v503, b504, ha, hE509, hI506, hB494, z495, h497, z498, zf500, nd501, q507, q508, hF⟩
    cases m989 with
    | zero => exact (lpN_zero hF).elim
    | succ m989 =>
      obtain ⟨z988, hF, hN987⟩ := lpN_succ hF
      have hF : F_spec_l1Edges_l1 a0_0 l502 i505 = some z988 := hF; unfold F_spec_l1Edges_l1 at hF
      refine wp_seq ?_; refine wp_seq ?_; refine wp_region_lit ?_; refine op_g ha rfl (g_move rfl) ?_; clear ha a; intro a ha; refine op_g ha rfl (g_loadA (cs := [va0_0]) Tryd.isAgg27 Tryd.sizeOf27 rfl (by simp) hB494.all) ?_; clear ha a; intro a ha; obtain ⟨x990, hc991, hF⟩ := cal_some hF
      refine o_call ha rfl rfl Tryd.call32 (W_spec_l1Size (ha0_0.ext hE509) hc991) ?_; clear ha a; rintro v992 w993 ⟨⟨rfl, hI995⟩, hx994⟩ a ha
      replace hB494 := hB494.ext hx994
      replace h497 := h497.ext hx994
      have hE996 := Ext.trans hE509 hx994
      refine op_g ha rfl (g_lss rfl rfl) ?_; clear ha a; intro a ha; refine wpList_nil ?_; replace ha := ha.sub (σ' := [(1, (.pointer (some ⟨b1, 0, none⟩))), (3, v503), (4, (.int .i64 i505)), (10, (.bool (decide (i505 < x990))))]) ⟨rfl, rfl, rfl, rfl, trivial⟩; refine e_then ?_; refine c_cond (i505 < x990) ha rfl (decide_eq_true_iff) (fun hp997 => ?_) (fun hp997 => ?_)
      · replace hF := if_t hp997 hF
        refine wp_skip ?_; refine e_then ?_; refine wp_seq ?_; refine wp_block ?_; refine wp_seq ?_; refine wp_region_lit ?_; refine op_g ha rfl (g_assign rfl) ?_; clear ha a; intro a ha; refine wpList_nil ?_; replace ha := ha.sub (σ' := [(1, (.pointer (some ⟨b1, 0, none⟩))), (3, v503), (4, (.int .i64 i505)), (5, (.int .i64 0))]) ⟨rfl, rfl, rfl, rfl, trivial⟩; refine e_then ?_; obtain ⟨o1307, ho1308, hK1309⟩ := bnd_some hF
        obtain ⟨n1310, hn1311⟩ := lp_some ho1308; clear ho1308
        refine c_loop (fun a w => ∃ (l1302 : (List (List Int))) (fs1299 : List Nat) (v1303 : Value) (b1304 : Int), Fr 47 [(1, (.pointer (some ⟨b1, 0, none⟩))), (3, v1303), (4, (.int .i64 i505))] a ∧ Chg [] W w ∧ Bx w b1 [va0_0] 27 ∧ Zn W (b1 : Int) ∧ Ow (Rp.sl 2 Rp.int) 31 true w fs1299 b1304 v1303 l1302 ∧ Zn W b1304 ∧ (∀ k ∈ fs1299, W.heap.size ≤ k) ∧ (bl b1304 ++ fs1299).Nodup ∧ Nq ([b1]) b1304 ∧ Nq (bl b1304 ++ fs1299) (b1 : Int) ∧ o1307 = .inl l1302) (fun n a w => ∃ (l1152 : (List (List Int))) (i1155 : Int) (fs1149 : List Nat) (v1153 : Value) (b1154 : Int), Fr 47 [(1, (.pointer (some ⟨b1, 0, none⟩))), (3, v1153), (4, (.int .i64 i505)), (5, (.int .i64 i1155))] a ∧ Chg [] W w ∧ InI i1155 ∧ Bx w b1 [va0_0] 27 ∧ Zn W (b1 : Int) ∧ Ow (Rp.sl 2 Rp.int) 31 true w fs1149 b1154 v1153 l1152 ∧ Zn W b1154 ∧ (∀ k ∈ fs1149, W.heap.size ≤ k) ∧ (bl b1154 ++ fs1149).Nodup ∧ Nq ([b1]) b1154 ∧ Nq (bl b1154 ++ fs1149) (b1 : Int) ∧ lpN (fun s => F_spec_l1Edges_l2 a0_0 i505 s.1 s.2) n (l1152, i1155) = some o1307) n1310 ⟨l502, 0, fs499, v503, b504, ha.sub ⟨rfl, rfl, rfl, rfl, trivial⟩, hE996, (show InI 0 from by decide), hB494, z495, h497, z498, zf500, nd501, q507, q508, hn1311⟩ ?_ ?_
        · rintro m1315 a w1143 ⟨l1152, i1155, fs1149, v1153, b1154, ha, hE1159, hI1156, hB1144, z1145, h1147, z1148, zf1150, nd1151, q1157, q1158, hF⟩
          cases m1315 with
          | zero => exact (lpN_zero hF).elim
          | succ m1315 =>
            obtain ⟨z1314, hF, hN1313⟩ := lpN_succ hF
            have hF : F_spec_l1Edges_l2 a0_0 i505 l1152 i1155 = some z1314 := hF; unfold F_spec_l1Edges_l2 at hF
            refine wp_seq ?_; refine wp_seq ?_; refine wp_region_lit ?_; refine op_g ha rfl (g_move rfl) ?_; clear ha a; intro a ha; refine op_g ha rfl (g_field0 st27_0 rfl) ?_; clear ha a; intro a ha; refine op_g ha rfl (g_load Tryd.isAgg22 rfl (hB1144.cell rfl)) ?_; clear ha a; intro a ha; refine op_g ha rfl (g_move rfl) ?_; clear ha a; intro a ha; obtain ⟨x1316, g1317, gx1318, hF⟩ := idx_some hF
            obtain ⟨p1319, cs1320, f1321, hf1322, hpb1323, hat1324, hr1325, hi1326⟩ := ha0_0.at g1317 gx1318
            obtain ⟨v1327, rfl, h1328⟩ := hr1325
            have h1328 : Ro Rp.int W f1321 v1327 x1316 := h1328
            refine op_g ha rfl (hi1326.gives sl22 rfl rfl) ?_; clear ha a; intro a ha; refine op_g ha rfl (g_load0 hE1159 Tryd.isAgg31 rfl hat1324.one) ?_; clear ha a; intro a ha; refine op_g ha rfl (g_lenR sl31.und h1328 rfl) ?_; clear ha a; intro a ha; refine op_g ha rfl (g_lss rfl rfl) ?_; clear ha a; intro a ha; refine wpList_nil ?_; replace ha := ha.sub (σ' := [(1, (.pointer (some ⟨b1, 0, none⟩))), (3, v1153), (4, (.int .i64 i505)), (5, (.int .i64 i1155)), (20, (.bool (decide (i1155 < (x1316.length : Int)))))]) ⟨rfl, rfl, rfl, rfl, rfl, trivial⟩; refine e_then ?_; refine c_cond (i1155 < (x1316.length : Int)) ha rfl (decide_eq_true_iff) (fun hp1330 => ?_) (fun hp1330 => ?_)
            · replace hF := if_t hp1330 hF
              refine wp_skip ?_; refine e_then ?_; refine wp_seq ?_; refine wp_block ?_; refine wp_seq ?_; refine wp_region_lit ?_; refine op_g ha rfl (g_field0 st27_0 rfl) ?_; clear ha a; intro a ha; refine op_g ha rfl (g_load Tryd.isAgg22 rfl (hB1144.cell rfl)) ?_; clear ha a; intro a ha; refine op_g ha rfl (g_move rfl) ?_; clear ha a; intro a ha; obtain ⟨x1331, g1332, gx1333, hF⟩ := idx_some hF
              obtain ⟨p1334, cs1335, f1336, hf1337, hpb1338, hat1339, hr1340, hi1341⟩ := ha0_0.at g1332 gx1333
              obtain ⟨v1342, rfl, h1343⟩ := hr1340
              have h1343 : Ro Rp.int W f1336 v1342 x1331 := h1343
              refine op_g ha rfl (hi1341.gives sl22 rfl rfl) ?_; clear ha a; intro a ha; refine op_g ha rfl (g_load0 hE1159 Tryd.isAgg31 rfl hat1339.one) ?_; clear ha a; intro a ha; refine op_g ha rfl (g_move rfl) ?_; clear ha a; intro a ha; obtain ⟨x1345, g1346, gx1347, hF⟩ := idx_some hF
              obtain ⟨p1348, cs1349, f1350, hf1351, hpb1352, hat1353, hr1354, hi1355⟩ := h1343.at g1346 gx1347
              obtain ⟨rfl, hI1356, rfl⟩ := hr1354
              refine op_g ha rfl (hi1355.gives sl31 rfl rfl) ?_; clear ha a; intro a ha; refine op_g ha rfl (g_load0 hE1159 Tryd.isAgg2 rfl hat1353.one) ?_; clear ha a; intro a ha; refine op_g ha rfl (g_move rfl) ?_; clear ha a; intro a ha; refine op_g ha rfl (g_gtr rfl rfl) ?_; clear ha a; intro a ha; refine wpList_nil ?_; replace ha := ha.sub (σ' := [(1, (.pointer (some ⟨b1, 0, none⟩))), (3, v1153), (4, (.int .i64 i505)), (5, (.int .i64 i1155)), (32, (.bool (decide (i505 < x1345))))]) ⟨rfl, rfl, rfl, rfl, rfl, trivial⟩; refine e_then ?_; refine c_cond (i505 < x1345) ha rfl (decide_eq_true_iff) (fun hp1357 => ?_) (fun hp1357 => ?_)
              · replace hF := if_t hp1357 hF
                refine wp_region_lit ?_; (iterate 2 refine op_g ha rfl (g_move rfl) ?_; clear ha a; intro a ha); refine op_g ha rfl (g_field0 st27_0 rfl) ?_; clear ha a; intro a ha; refine op_g ha rfl (g_load Tryd.isAgg22 rfl (hB1144.cell rfl)) ?_; clear ha a; intro a ha; refine op_g ha rfl (g_move rfl) ?_; clear ha a; intro a ha; obtain ⟨x1358, g1359, gx1360, hF⟩ := idx_some hF
                obtain ⟨p1361, cs1362, f1363, hf1364, hpb1365, hat1366, hr1367, hi1368⟩ := ha0_0.at g1359 gx1360
                obtain ⟨v1369, rfl, h1370⟩ := hr1367
                have h1370 : Ro Rp.int W f1363 v1369 x1358 := h1370
                refine op_g ha rfl (hi1368.gives sl22 rfl rfl) ?_; clear ha a; intro a ha; refine op_g ha rfl (g_load0 hE1159 Tryd.isAgg31 rfl hat1366.one) ?_; clear ha a; intro a ha; refine op_g ha rfl (g_move rfl) ?_; clear ha a; intro a ha; obtain ⟨x1372, g1373, gx1374, hF⟩ := idx_some hF
                obtain ⟨p1375, cs1376, f1377, hf1378, hpb1379, hat1380, hr1381, hi1382⟩ := h1370.at g1373 gx1374
                obtain ⟨rfl, hI1383, rfl⟩ := hr1381
                refine op_g ha rfl (hi1382.gives sl31 rfl rfl) ?_; clear ha a; intro a ha; refine op_g ha rfl (g_load0 hE1159 Tryd.isAgg2 rfl hat1380.one) ?_; clear ha a; intro a ha
                have hvob1388 : ∀ p ∈ ([((.int .i64 i505), [(.int .i64 i505)]), ((.int .i64 x1372), [(.int .i64 x1372)])] : List (Value × List Value)), p.1.cells = p.2.toArray ∧ p.2.length = 1 := by
                  intro p hp; simp only [List.mem_cons, List.not_mem_nil, or_false] at hp; rcases hp with hp | hp <;> subst hp <;> first | exact ⟨rfl, rfl⟩
                refine o_litM (o := true) (f := []) (ps := [((.int .i64 i505), [(.int .i64 i505)]), ((.int .i64 x1372), [(.int .i64 x1372)])]) (ys := [i505, x1372]) Rp.int ha rfl sl31 rfl rfl rfl rfl hvob1388 ⟨[], [], [(.int .i64 i505)], _, rfl, rfl, ⟨rfl, hI506, rfl⟩, ⟨[], [], [(.int .i64 x1372)], _, rfl, rfl, ⟨rfl, hI1383, rfl⟩, ⟨rfl, rfl⟩⟩⟩ ?_; clear ha a; intro v1384 w1385 h1386 hx1387 a ha
                obtain ⟨b1389, hb1389⟩ : ∃ b : Int, b = w1143.heap.size := ⟨_, rfl⟩; rw [← hb1389] at h1386
                have q1390 := zn_of hb1389
                have q1391 := Nq.new hB1144.fpb q1390
                have q1392 := Nq.madeO q1390 hB1144.bi
                have q1393 := Nq.new h1147.fpb q1390
                have q1394 := Nq.madeO q1390 h1147.blt
                have q1395 := Nf.old q1390 (zf_nil _) h1147.bnd
                have q1396 := Zn.upD q1390 hE1159
                replace hB1144 := hB1144.ext hx1387
                replace h1147 := h1147.ext hx1387
                have hE1397 := Ext.trans hE1159 hx1387
                refine o_lit1 (o := true) (y := [i505, x1372]) (Rp.sl 2 Rp.int) ha rfl sl22 rfl rfl h1386.cells (Rp.mkO h1386) ?_; clear ha a; intro v1398 w1399 h1400 hx1401 a ha
                obtain ⟨b1403, hb1403⟩ : ∃ b : Int, b = w1385.heap.size := ⟨_, rfl⟩; rw [← hb1403] at h1400
                have q1404 := zn_of hb1403
                have q1405 := zf_mv q1396 (zf_nil _)
                have q1406 := dj_of q1393
                have q1407 := Nq.new hB1144.fpb q1404
                have q1408 := Nq.append (Nq.madeL q1404 hB1144.bi) q1392
                have q1409 := Nq.new h1147.fpb q1404
                have q1410 := Nq.append (Nq.madeL q1404 h1147.blt) q1394
                have q1411 := Zn.upD q1404 hE1397
                have q1412 := nd_lit (bl_nodup b1389) h1386.fpb hb1403
                replace hB1144 := hB1144.ext hx1401
                replace h1147 := h1147.ext hx1401
                have hE1413 := Ext.trans hE1397 hx1401
                obtain ⟨hl1414, hF⟩ := app_some hF
                have q1415 := Nq.right q1410
                refine o_append ha rfl sl22 rfl rfl rfl h1147 h1400.src q1415 hl1414 ?_; clear ha a; intro v1416 w1417 b1418 h1419 hc1420 hb1421 a ha
                replace h1419 : Ow (Rp.sl 2 Rp.int) 31 true w1417 (fs1149 ++ (bl b1389 ++ [])) b1418 v1416 _ := h1419
                have q1423 := zf_app zf1150 q1405
                have q1424 := nd_app nd1151 (bl_nodup b1389) q1406 hb1421 h1147.fpb h1400.bnd
                have q1425 := Nq.appY q1157 hB1144.fpb hb1421
                have q1426 := Nq.appX q1158 (Nq.right q1408) hb1421 hB1144.bi
                have q1427 := Zn.appD z1148 hb1421 hE1413
                replace hB1144 := hB1144.nq hc1420 q1157
                have hE1428 := Ext.then hE1413 hc1420 (Zn.bl z1148)
                refine op_g ha rfl (g_assign rfl) ?_; clear ha a; intro a ha; refine wpList_nil ?_; replace ha := ha.sub (σ' := [(1, (.pointer (some ⟨b1, 0, none⟩))), (3, v1416), (4, (.int .i64 i505)), (5, (.int .i64 i1155))]) ⟨rfl, rfl, rfl, rfl, trivial⟩; refine e_blk ?_; refine e_then ?_; refine wp_region_lit ?_; refine op_g ha rfl (g_move rfl) ?_; clear ha a; intro a ha; obtain ⟨hI1429, hF⟩ := ck_some hF; refine op_g ha rfl (g_add rfl rfl hI1429) ?_; clear ha a; intro a ha; refine op_g ha rfl (g_assign rfl) ?_; clear ha a; intro a ha; refine wpList_nil ?_; replace ha := ha.sub (σ' := [(1, (.pointer (some ⟨b1, 0, none⟩))), (3, v1416), (4, (.int .i64 i505)), (5, (.int .i64 (i1155 + 1)))]) ⟨rfl, rfl, rfl, rfl, trivial⟩
                refine e_lq ?_; obtain rfl := Option.some.inj hF
                exact ⟨_, Nat.lt_succ_self _, (l1152 ++ ([[i505, x1372]])), i1155 + 1, (fs1149 ++ (bl b1389 ++ [])), v1416, b1418, ha.sub ⟨rfl, rfl, rfl, rfl, trivial⟩, hE1428, hI1429, hB1144, z1145, h1419, q1427, q1423, q1424, q1425, q1426, hN1313⟩
              replace hF := if_f hp1357 hF; refine wp_skip ?_; refine e_blk ?_; refine e_then ?_; refine wp_region_lit ?_; refine op_g ha rfl (g_move rfl) ?_; clear ha a; intro a ha; obtain ⟨hI1431, hF⟩ := ck_some hF; refine op_g ha rfl (g_add rfl rfl hI1431) ?_; clear ha a; intro a ha; refine op_g ha rfl (g_assign rfl) ?_; clear ha a; intro a ha; refine wpList_nil ?_; replace ha := ha.sub (σ' := [(1, (.pointer (some ⟨b1, 0, none⟩))), (3, v1153), (4, (.int .i64 i505)), (5, (.int .i64 (i1155 + 1)))]) ⟨rfl, rfl, rfl, rfl, trivial⟩; refine e_lq ?_; obtain rfl := Option.some.inj hF
              exact ⟨_, Nat.lt_succ_self _, l1152, i1155 + 1, fs1149, v1153, b1154, ha.sub ⟨rfl, rfl, rfl, rfl, trivial⟩, hE1159, hI1431, hB1144, z1145, h1147, z1148, zf1150, nd1151, q1157, q1158, hN1313⟩
            replace hF := if_f hp1330 hF; refine wp_exit ?_; refine e_then_exit ?_; refine e_lq_eq ?_; obtain rfl := Option.some.inj hF
            exact ⟨l1152, fs1149, v1153, b1154, ha.sub ⟨rfl, rfl, rfl, trivial⟩, hE1159, hB1144, z1145, h1147, z1148, zf1150, nd1151, q1157, q1158, (LK_inr hN1313).symm⟩
        rintro a w1293 ⟨l1302, fs1299, v1303, b1304, ha, hE1312, hB1294, z1295, h1297, z1298, zf1300, nd1301, q1305, q1306, rfl⟩
        have hF : F_spec_l1Edges_k3 i505 l1302 = some _ := hK1309; clear hK1309; unfold F_spec_l1Edges_k3 at hF
        refine e_blk ?_; refine e_then ?_; refine wp_region_lit ?_; refine op_g ha rfl (g_move rfl) ?_; clear ha a; intro a ha; obtain ⟨hI1433, hF⟩ := ck_some hF; refine op_g ha rfl (g_add rfl rfl hI1433) ?_; clear ha a; intro a ha; refine op_g ha rfl (g_assign rfl) ?_; clear ha a; intro a ha; refine wpList_nil ?_; replace ha := ha.sub (σ' := [(1, (.pointer (some ⟨b1, 0, none⟩))), (3, v1303), (4, (.int .i64 (i505 + 1)))]) ⟨rfl, rfl, rfl, trivial⟩; refine e_lq ?_; obtain rfl := Option.some.inj hF
        exact ⟨_, Nat.lt_succ_self _, l1302, i505 + 1, fs1299, v1303, b1304, ha.sub ⟨rfl, rfl, rfl, trivial⟩, hE1312, hI1433, hB1294, z1295, h1297, z1298, zf1300, nd1301, q1305, q1306, hN987⟩
      replace hF := if_f hp997 hF; refine wp_exit ?_; refine e_then_exit ?_; refine e_lq_eq ?_; obtain rfl := Option.some.inj hF
      exact ⟨l502, fs499, v503, b504, ha.sub ⟨rfl, trivial⟩, hE996, h497, z498, zf500, nd501, (LK_inr hN987).symm⟩
  rintro a w971 ⟨l978, fs975, v979, b980, ha, hE986, h973, z974, zf976, nd977, rfl⟩
  have hF : F_spec_l1Edges_k4 l978 = some _ := hK983; clear hK983; unfold F_spec_l1Edges_k4 at hF
  refine e_then ?_; refine wp_seq ?_; refine wp_region_lit ?_; refine op_g ha rfl (g_move rfl) ?_; clear ha a; intro a ha; refine op_g ha rfl (g_assign rfl) ?_; clear ha a; intro a ha; refine wpList_nil ?_; replace ha := ha.sub (σ' := [(2, v979)]) ⟨rfl, trivial⟩; refine e_then ?_; refine wp_ret ?_; obtain rfl := Option.some.inj hF
  exact f_ret1 ha rfl rfl ⟨_, _, h973, z974, zf976, nd977, hE986⟩
set_option maxHeartbeats 2000000 in
theorem W_spec_l24Places {W : World} {va0 : Value} {fa0 : List Nat} {a0 : (List Int)} (ha0 : Ro Rp.int W fa0 va0 a0) {r : (List Int)} (hF : F_spec_l24Places a0 = some r) :
    Calls Tryd.prog 51 [va0].toArray W (Ret fun u w' => ∃ (b_u : Int), Ow Rp.int 2 true w' [] b_u u r ∧ Zn W b_u ∧ Ext W w') := by
  refine f_enter Tryd.func51 rfl Tryd.ntmps51 rfl ?_
  intro a ha
  replace ha : Fr 22 [(0, va0)] a := ha
  have hE : Chg [] W W := Chg.refl _ _
  unfold F_spec_l24Places at hF
  refine wp_seq ?_; refine wp_region_lit ?_; refine op_g ha rfl (g_assign rfl) ?_; clear ha a; intro a ha; refine wpList_nil ?_; replace ha := ha.sub (σ' := [(0, va0)]) ⟨rfl, trivial⟩; refine e_then ?_; refine wp_seq ?_; refine wp_region_lit ?_; refine op_g ha rfl (g_move rfl) ?_; clear ha a; intro a ha; refine op_g ha rfl (g_lenR sl31.und ha0 rfl) ?_; clear ha a; intro a ha; obtain ⟨g5, g5b, hF⟩ := mkS_some hF
  refine o_make (z0 := (0 : Int)) Rp.int ha rfl sl31 rfl (fun w => ⟨rfl, by decide, rfl⟩) rfl g5 g5b ?_; clear ha a; intro v1 w2 h3 hx4 a ha
  obtain ⟨b8, hb8⟩ : ∃ b : Int, b = W.heap.size := ⟨_, rfl⟩; rw [← hb8] at h3
  have q9 := zn_of hb8
  have q10 := Zn.upD q9 hE
  have hE11 := Ext.trans hE hx4
  refine op_g ha rfl (g_assign rfl) ?_; clear ha a; intro a ha; refine wpList_nil ?_; replace ha := ha.sub (σ' := [(0, va0), (3, v1)]) ⟨rfl, rfl, trivial⟩; refine e_then ?_; refine wp_seq ?_; refine wp_seq ?_; refine wp_region_lit ?_; refine op_g ha rfl (g_assign rfl) ?_; clear ha a; intro a ha; refine wpList_nil ?_; refine e_then ?_; obtain ⟨o118, ho119, hK120⟩ := bnd_some hF
  obtain ⟨n121, hn122⟩ := lp_some ho119; clear ho119
  refine c_loop (fun a w => ∃ (l115 : (List Int)) (v116 : Value) (b117 : Int), Fr 22 [(3, v116)] a ∧ Chg [] W w ∧ Ow Rp.int 2 true w [] b117 v116 l115 ∧ Zn W b117 ∧ o118 = .inl l115) (fun n a w => ∃ (l63 : (List Int)) (i66 : Int) (v64 : Value) (b65 : Int), Fr 22 [(0, va0), (3, v64), (4, (.int .i64 i66))] a ∧ Chg [] W w ∧ InI i66 ∧ Ow Rp.int 2 true w [] b65 v64 l63 ∧ Zn W b65 ∧ lpN (fun s => F_spec_l24Places_l1 a0 s.1 s.2) n (l63, i66) = some o118) n121 ⟨(List.replicate ((a0.length : Int) : Int).toNat (0 : Int)), 0, v1, b8, ha.sub ⟨rfl, rfl, rfl, trivial⟩, hE11, (show InI 0 from by decide), h3, q10, hn122⟩ ?_ ?_
  · rintro m126 a w59 ⟨l63, i66, v64, b65, ha, hE68, hI67, h61, z62, hF⟩
    cases m126 with
    | zero => exact (lpN_zero hF).elim
    | succ m126 =>
      obtain ⟨z125, hF, hN124⟩ := lpN_succ hF
      have hF : F_spec_l24Places_l1 a0 l63 i66 = some z125 := hF; unfold F_spec_l24Places_l1 at hF
      refine wp_seq ?_; refine wp_seq ?_; refine wp_region_lit ?_; (iterate 2 refine op_g ha rfl (g_move rfl) ?_; clear ha a; intro a ha); refine op_g ha rfl (g_lenR sl31.und ha0 rfl) ?_; clear ha a; intro a ha; refine op_g ha rfl (g_lss rfl rfl) ?_; clear ha a; intro a ha; refine wpList_nil ?_; replace ha := ha.sub (σ' := [(0, va0), (3, v64), (4, (.int .i64 i66)), (11, (.bool (decide (i66 < (a0.length : Int)))))]) ⟨rfl, rfl, rfl, rfl, trivial⟩; refine e_then ?_; refine c_cond (i66 < (a0.length : Int)) ha rfl (decide_eq_true_iff) (fun hp127 => ?_) (fun hp127 => ?_)
      · replace hF := if_t hp127 hF
        refine wp_skip ?_; refine e_then ?_; refine wp_seq ?_; refine wp_block ?_; refine wp_region_lit ?_; (iterate 3 refine op_g ha rfl (g_move rfl) ?_; clear ha a; intro a ha); obtain ⟨x128, g129, gx130, hF⟩ := idx_some hF
        obtain ⟨p131, cs132, f133, hf134, hpb135, hat136, hr137, hi138⟩ := ha0.at g129 gx130
        obtain ⟨rfl, hI139, rfl⟩ := hr137
        refine op_g ha rfl (hi138.gives sl31 rfl rfl) ?_; clear ha a; intro a ha; refine op_g ha rfl (g_load0 hE68 Tryd.isAgg2 rfl hat136.one) ?_; clear ha a; intro a ha; refine op_g ha rfl (g_move rfl) ?_; clear ha a; intro a ha; obtain ⟨x140, g141, gx142, hF⟩ := idx_some hF
        obtain ⟨p143, cs144, f145, hf146, hpb147, hat148, hr149, hi150⟩ := h61.at g141 gx142
        obtain ⟨rfl, hI151, rfl⟩ := hr149
        refine op_g ha rfl (hi150.gives sl31 rfl rfl) ?_; clear ha a; intro a ha
        refine o_storeE (f := []) (q := i66) ha Tryd.sizeOf2 rfl rfl rfl h61 hi150 ⟨rfl, hI67, rfl⟩ (Nq.nil _) ?_; intro w152 fs153 h154 hc155 hs156
        obtain rfl := Subst.nil hs156
        have hE157 := Ext.then hE68 hc155 (Zn.bl z62)
        refine wpList_nil ?_; replace ha := ha.sub (σ' := [(0, va0), (3, v64), (4, (.int .i64 i66))]) ⟨rfl, rfl, rfl, trivial⟩; refine e_blk ?_; refine e_then ?_; refine wp_region_lit ?_; refine op_g ha rfl (g_move rfl) ?_; clear ha a; intro a ha; obtain ⟨hI158, hF⟩ := ck_some hF; refine op_g ha rfl (g_add rfl rfl hI158) ?_; clear ha a; intro a ha; refine op_g ha rfl (g_assign rfl) ?_; clear ha a; intro a ha; refine wpList_nil ?_; replace ha := ha.sub (σ' := [(0, va0), (3, v64), (4, (.int .i64 (i66 + 1)))]) ⟨rfl, rfl, rfl, trivial⟩; refine e_lq ?_; obtain rfl := Option.some.inj hF
        exact ⟨_, Nat.lt_succ_self _, (l63.set ((x128 : Int).toNat) i66), i66 + 1, v64, b65, ha.sub ⟨rfl, rfl, rfl, trivial⟩, hE157, hI158, h154, z62, hN124⟩
      replace hF := if_f hp127 hF; refine wp_exit ?_; refine e_then_exit ?_; refine e_lq_eq ?_; obtain rfl := Option.some.inj hF
      exact ⟨l63, v64, b65, ha.sub ⟨rfl, trivial⟩, hE68, h61, z62, (LK_inr hN124).symm⟩
  rintro a w111 ⟨l115, v116, b117, ha, hE123, h113, z114, rfl⟩
  have hF : F_spec_l24Places_k2 l115 = some _ := hK120; clear hK120; unfold F_spec_l24Places_k2 at hF
  refine e_then ?_; refine wp_seq ?_; refine wp_region_lit ?_; refine op_g ha rfl (g_move rfl) ?_; clear ha a; intro a ha; refine op_g ha rfl (g_assign rfl) ?_; clear ha a; intro a ha; refine wpList_nil ?_; replace ha := ha.sub (σ' := [(2, v116)]) ⟨rfl, trivial⟩; refine e_then ?_; refine wp_ret ?_; obtain rfl := Option.some.inj hF
  exact f_ret1 ha rfl rfl ⟨_, h113, z114, hE123⟩
set_option maxHeartbeats 2000000 in
theorem W_spec_l1Min {W : World} {a0 : Int} (ha0 : InI a0) {a1 : Int} (ha1 : InI a1) {r : Int} (hF : F_spec_l1Min a0 a1 = some r) :
    Calls Tryd.prog 60 [.int .i64 a0, .int .i64 a1].toArray W (Ret fun u w' => (u = .int .i64 r ∧ InI r) ∧ Ext W w') := by
  refine f_enter Tryd.func60 rfl Tryd.ntmps60 rfl ?_
  intro a ha
  replace ha : Fr 10 [(0, (.int .i64 a0)), (1, (.int .i64 a1))] a := ha
  have hE : Chg [] W W := Chg.refl _ _
  unfold F_spec_l1Min at hF
  refine wp_seq ?_; refine wp_region_lit ?_; refine op_g ha rfl (g_assign rfl) ?_; clear ha a; intro a ha; refine wpList_nil ?_; replace ha := ha.sub (σ' := [(0, (.int .i64 a0)), (1, (.int .i64 a1))]) ⟨rfl, rfl, trivial⟩; refine e_then ?_; refine wp_seq ?_; refine wp_seq ?_; refine wp_region_lit ?_; (iterate 2 refine op_g ha rfl (g_move rfl) ?_; clear ha a; intro a ha); refine op_g ha rfl (g_lss rfl rfl) ?_; clear ha a; intro a ha; refine wpList_nil ?_; replace ha := ha.sub (σ' := [(0, (.int .i64 a0)), (1, (.int .i64 a1)), (7, (.bool (decide (a0 < a1))))]) ⟨rfl, rfl, rfl, trivial⟩; refine e_then ?_
  refine c_cond (a0 < a1) ha rfl (decide_eq_true_iff) (fun hp1 => ?_) (fun hp1 => ?_)
  · replace hF := if_t hp1 hF
    refine wp_seq ?_; refine wp_region_lit ?_; refine op_g ha rfl (g_move rfl) ?_; clear ha a; intro a ha; refine op_g ha rfl (g_assign rfl) ?_; clear ha a; intro a ha; refine wpList_nil ?_; replace ha := ha.sub (σ' := [(4, (.int .i64 a0))]) ⟨rfl, trivial⟩; refine e_then ?_; refine wp_ret ?_; refine e_then_ret ?_; obtain rfl := Option.some.inj hF
    exact f_ret1 ha rfl rfl ⟨⟨rfl, ha0⟩, hE⟩
  replace hF := if_f hp1 hF; refine wp_skip ?_; refine e_then ?_; refine wp_seq ?_; refine wp_region_lit ?_; refine op_g ha rfl (g_move rfl) ?_; clear ha a; intro a ha; refine op_g ha rfl (g_assign rfl) ?_; clear ha a; intro a ha; refine wpList_nil ?_; replace ha := ha.sub (σ' := [(4, (.int .i64 a1))]) ⟨rfl, trivial⟩; refine e_then ?_; refine wp_ret ?_; obtain rfl := Option.some.inj hF
  exact f_ret1 ha rfl rfl ⟨⟨rfl, ha1⟩, hE⟩
set_option maxHeartbeats 2000000 in
theorem W_spec_l1Max {W : World} {a0 : Int} (ha0 : InI a0) {a1 : Int} (ha1 : InI a1) {r : Int} (hF : F_spec_l1Max a0 a1 = some r) :
    Calls Tryd.prog 61 [.int .i64 a0, .int .i64 a1].toArray W (Ret fun u w' => (u = .int .i64 r ∧ InI r) ∧ Ext W w') := by
  refine f_enter Tryd.func61 rfl Tryd.ntmps61 rfl ?_
  intro a ha
  replace ha : Fr 10 [(0, (.int .i64 a0)), (1, (.int .i64 a1))] a := ha
  have hE : Chg [] W W := Chg.refl _ _
  unfold F_spec_l1Max at hF
  refine wp_seq ?_; refine wp_region_lit ?_; refine op_g ha rfl (g_assign rfl) ?_; clear ha a; intro a ha; refine wpList_nil ?_; replace ha := ha.sub (σ' := [(0, (.int .i64 a0)), (1, (.int .i64 a1))]) ⟨rfl, rfl, trivial⟩; refine e_then ?_; refine wp_seq ?_; refine wp_seq ?_; refine wp_region_lit ?_; (iterate 2 refine op_g ha rfl (g_move rfl) ?_; clear ha a; intro a ha); refine op_g ha rfl (g_gtr rfl rfl) ?_; clear ha a; intro a ha; refine wpList_nil ?_; replace ha := ha.sub (σ' := [(0, (.int .i64 a0)), (1, (.int .i64 a1)), (7, (.bool (decide (a1 < a0))))]) ⟨rfl, rfl, rfl, trivial⟩; refine e_then ?_
  refine c_cond (a1 < a0) ha rfl (decide_eq_true_iff) (fun hp1 => ?_) (fun hp1 => ?_)
  · replace hF := if_t hp1 hF
    refine wp_seq ?_; refine wp_region_lit ?_; refine op_g ha rfl (g_move rfl) ?_; clear ha a; intro a ha; refine op_g ha rfl (g_assign rfl) ?_; clear ha a; intro a ha; refine wpList_nil ?_; replace ha := ha.sub (σ' := [(4, (.int .i64 a0))]) ⟨rfl, trivial⟩; refine e_then ?_; refine wp_ret ?_; refine e_then_ret ?_; obtain rfl := Option.some.inj hF
    exact f_ret1 ha rfl rfl ⟨⟨rfl, ha0⟩, hE⟩
  replace hF := if_f hp1 hF; refine wp_skip ?_; refine e_then ?_; refine wp_seq ?_; refine wp_region_lit ?_; refine op_g ha rfl (g_move rfl) ?_; clear ha a; intro a ha; refine op_g ha rfl (g_assign rfl) ?_; clear ha a; intro a ha; refine wpList_nil ?_; replace ha := ha.sub (σ' := [(4, (.int .i64 a1))]) ⟨rfl, trivial⟩; refine e_then ?_; refine wp_ret ?_; obtain rfl := Option.some.inj hF
  exact f_ret1 ha rfl rfl ⟨⟨rfl, ha1⟩, hE⟩
set_option maxHeartbeats 2000000 in
theorem W_spec_l24Cross {W : World} {va0 : Value} {fa0 : List Nat} {a0 : (List Int)} (ha0 : Ro Rp.int W fa0 va0 a0) {va1 : Value} {fa1 : List Nat} {a1 : (List Int)} (ha1 : Ro Rp.int W fa1 va1 a1) {va2 : Value} {fa2 : List Nat} {a2 : (List Int)} (ha2 : Ro Rp.int W fa2 va2 a2) {r : Bool} (hF : F_spec_l24Cross a0 a1 a2 = some r) :
    Calls Tryd.prog 53 [va0, va1, va2].toArray W (Ret fun u w' => u = .bool r ∧ Ext W w') := by
  refine f_enter Tryd.func53 rfl Tryd.ntmps53 rfl ?_
  intro a ha
  replace ha : Fr 91 [(0, va0), (1, va1), (2, va2)] a := ha
  have hE : Chg [] W W := Chg.refl _ _
  unfold F_spec_l24Cross at hF
  refine wp_seq ?_; refine wp_region_lit ?_; refine op_g ha rfl (g_assign rfl) ?_; clear ha a; intro a ha; refine wpList_nil ?_; replace ha := ha.sub (σ' := [(0, va0), (1, va1), (2, va2)]) ⟨rfl, rfl, rfl, trivial⟩; refine e_then ?_; refine wp_seq ?_; refine d_quiet hmix (by kernel_rfl) ?_; (iterate 2 refine q_g ha rfl (g_move rfl) ?_; clear ha a; intro a ha); obtain ⟨x1, g2, gx3, hF⟩ := idx_some hF
  obtain ⟨p4, cs5, f6, hf7, hpb8, hat9, hr10, hi11⟩ := ha1.at g2 gx3
  obtain ⟨rfl, hI12, rfl⟩ := hr10
  refine q_g ha rfl (hi11.gives sl31 rfl rfl) ?_; clear ha a; intro a ha; refine q_g ha rfl (g_load0 hE Tryd.isAgg2 rfl hat9.one) ?_; clear ha a; intro a ha; obtain ⟨x13, g14, gx15, hF⟩ := idx_some hF
  obtain ⟨p16, cs17, f18, hf19, hpb20, hat21, hr22, hi23⟩ := ha0.at g14 gx15
  obtain ⟨rfl, hI24, rfl⟩ := hr22
  refine q_g ha rfl (hi23.gives sl31 rfl rfl) ?_; clear ha a; intro a ha; refine q_g ha rfl (g_load0 hE Tryd.isAgg2 rfl hat21.one) ?_; clear ha a; intro a ha; (iterate 2 refine q_g ha rfl (g_move rfl) ?_; clear ha a; intro a ha); obtain ⟨x25, g26, gx27, hF⟩ := idx_some hF
  obtain ⟨p28, cs29, f30, hf31, hpb32, hat33, hr34, hi35⟩ := ha1.at g26 gx27
  obtain ⟨rfl, hI36, rfl⟩ := hr34
  refine q_g ha rfl (hi35.gives sl31 rfl rfl) ?_; clear ha a; intro a ha; refine q_g ha rfl (g_load0 hE Tryd.isAgg2 rfl hat33.one) ?_; clear ha a; intro a ha; obtain ⟨x37, g38, gx39, hF⟩ := idx_some hF
  obtain ⟨p40, cs41, f42, hf43, hpb44, hat45, hr46, hi47⟩ := ha0.at g38 gx39
  obtain ⟨rfl, hI48, rfl⟩ := hr46
  refine q_g ha rfl (hi47.gives sl31 rfl rfl) ?_; clear ha a; intro a ha; refine q_g ha rfl (g_load0 hE Tryd.isAgg2 rfl hat45.one) ?_; clear ha a; intro a ha; obtain ⟨x51, hc52, hF⟩ := cal_some hF; refine q_call (.int .i64 x51) ha rfl rfl Tryd.call60 (fun w50 hx49 => W_spec_l1Min hI24 hI48 hc52) (fun _ _ _ h => ⟨h.1.1, h.2⟩) ?_; clear ha a; intro a ha
  have hI53 : InI x51 := calls_fact (w := W) (W_spec_l1Min hI24 hI48 hc52) (fun _ _ h => h.1.2)
  refine q_g ha rfl (g_assign rfl) ?_; clear ha a; intro a ha
  refine q_nil ?_; intro w54 hx55
  have hE56 := Ext.trans hE hx55
  replace ha := ha.sub (σ' := [(0, va0), (1, va1), (2, va2), (7, (.int .i64 x51))]) ⟨rfl, rfl, rfl, rfl, trivial⟩; refine e_then ?_; refine wp_seq ?_; refine d_quiet hmix (by kernel_rfl) ?_; (iterate 2 refine q_g ha rfl (g_move rfl) ?_; clear ha a; intro a ha); obtain ⟨x57, g58, gx59, hF⟩ := idx_some hF
  obtain ⟨p60, cs61, f62, hf63, hpb64, hat65, hr66, hi67⟩ := ha1.at g58 gx59
  obtain ⟨rfl, hI68, rfl⟩ := hr66
  refine q_g ha rfl (hi67.gives sl31 rfl rfl) ?_; clear ha a; intro a ha; refine q_g ha rfl (g_load0 hE56 Tryd.isAgg2 rfl hat65.one) ?_; clear ha a; intro a ha; obtain ⟨x69, g70, gx71, hF⟩ := idx_some hF
  obtain ⟨p72, cs73, f74, hf75, hpb76, hat77, hr78, hi79⟩ := ha0.at g70 gx71
  obtain ⟨rfl, hI80, rfl⟩ := hr78
  refine q_g ha rfl (hi79.gives sl31 rfl rfl) ?_; clear ha a; intro a ha; refine q_g ha rfl (g_load0 hE56 Tryd.isAgg2 rfl hat77.one) ?_; clear ha a; intro a ha; (iterate 2 refine q_g ha rfl (g_move rfl) ?_; clear ha a; intro a ha); obtain ⟨x81, g82, gx83, hF⟩ := idx_some hF
  obtain ⟨p84, cs85, f86, hf87, hpb88, hat89, hr90, hi91⟩ := ha1.at g82 gx83
  obtain ⟨rfl, hI92, rfl⟩ := hr90
  refine q_g ha rfl (hi91.gives sl31 rfl rfl) ?_; clear ha a; intro a ha; refine q_g ha rfl (g_load0 hE56 Tryd.isAgg2 rfl hat89.one) ?_; clear ha a; intro a ha; obtain ⟨x93, g94, gx95, hF⟩ := idx_some hF
  obtain ⟨p96, cs97, f98, hf99, hpb100, hat101, hr102, hi103⟩ := ha0.at g94 gx95
  obtain ⟨rfl, hI104, rfl⟩ := hr102
  refine q_g ha rfl (hi103.gives sl31 rfl rfl) ?_; clear ha a; intro a ha; refine q_g ha rfl (g_load0 hE56 Tryd.isAgg2 rfl hat101.one) ?_; clear ha a; intro a ha; obtain ⟨x107, hc108, hF⟩ := cal_some hF; refine q_call (.int .i64 x107) ha rfl rfl Tryd.call61 (fun w106 hx105 => W_spec_l1Max hI80 hI104 hc108) (fun _ _ _ h => ⟨h.1.1, h.2⟩) ?_; clear ha a; intro a ha
  have hI109 : InI x107 := calls_fact (w := w54) (W_spec_l1Max hI80 hI104 hc108) (fun _ _ h => h.1.2)
  refine q_g ha rfl (g_assign rfl) ?_; clear ha a; intro a ha
  refine q_nil ?_; intro w110 hx111
  have hE112 := Ext.trans hE56 hx111
  replace ha := ha.sub (σ' := [(0, va0), (2, va2), (7, (.int .i64 x51)), (8, (.int .i64 x107))]) ⟨rfl, rfl, rfl, rfl, trivial⟩; refine e_then ?_; refine wp_seq ?_; refine d_quiet hmix (by kernel_rfl) ?_; (iterate 2 refine q_g ha rfl (g_move rfl) ?_; clear ha a; intro a ha); obtain ⟨x113, g114, gx115, hF⟩ := idx_some hF
  obtain ⟨p116, cs117, f118, hf119, hpb120, hat121, hr122, hi123⟩ := ha2.at g114 gx115
  obtain ⟨rfl, hI124, rfl⟩ := hr122
  refine q_g ha rfl (hi123.gives sl31 rfl rfl) ?_; clear ha a; intro a ha; refine q_g ha rfl (g_load0 hE112 Tryd.isAgg2 rfl hat121.one) ?_; clear ha a; intro a ha; obtain ⟨x125, g126, gx127, hF⟩ := idx_some hF
  obtain ⟨p128, cs129, f130, hf131, hpb132, hat133, hr134, hi135⟩ := ha0.at g126 gx127
  obtain ⟨rfl, hI136, rfl⟩ := hr134
  refine q_g ha rfl (hi135.gives sl31 rfl rfl) ?_; clear ha a; intro a ha; refine q_g ha rfl (g_load0 hE112 Tryd.isAgg2 rfl hat133.one) ?_; clear ha a; intro a ha; (iterate 2 refine q_g ha rfl (g_move rfl) ?_; clear ha a; intro a ha); obtain ⟨x137, g138, gx139, hF⟩ := idx_some hF
  obtain ⟨p140, cs141, f142, hf143, hpb144, hat145, hr146, hi147⟩ := ha2.at g138 gx139
  obtain ⟨rfl, hI148, rfl⟩ := hr146
  refine q_g ha rfl (hi147.gives sl31 rfl rfl) ?_; clear ha a; intro a ha; refine q_g ha rfl (g_load0 hE112 Tryd.isAgg2 rfl hat145.one) ?_; clear ha a; intro a ha; obtain ⟨x149, g150, gx151, hF⟩ := idx_some hF
  obtain ⟨p152, cs153, f154, hf155, hpb156, hat157, hr158, hi159⟩ := ha0.at g150 gx151
  obtain ⟨rfl, hI160, rfl⟩ := hr158
  refine q_g ha rfl (hi159.gives sl31 rfl rfl) ?_; clear ha a; intro a ha; refine q_g ha rfl (g_load0 hE112 Tryd.isAgg2 rfl hat157.one) ?_; clear ha a; intro a ha; obtain ⟨x163, hc164, hF⟩ := cal_some hF; refine q_call (.int .i64 x163) ha rfl rfl Tryd.call60 (fun w162 hx161 => W_spec_l1Min hI136 hI160 hc164) (fun _ _ _ h => ⟨h.1.1, h.2⟩) ?_; clear ha a; intro a ha
  have hI165 : InI x163 := calls_fact (w := w110) (W_spec_l1Min hI136 hI160 hc164) (fun _ _ h => h.1.2)
  refine q_g ha rfl (g_assign rfl) ?_; clear ha a; intro a ha
  refine q_nil ?_; intro w166 hx167
  have hE168 := Ext.trans hE112 hx167
  replace ha := ha.sub (σ' := [(0, va0), (2, va2), (7, (.int .i64 x51)), (8, (.int .i64 x107)), (9, (.int .i64 x163))]) ⟨rfl, rfl, rfl, rfl, rfl, trivial⟩; refine e_then ?_; refine wp_seq ?_; refine d_quiet hmix (by kernel_rfl) ?_; (iterate 2 refine q_g ha rfl (g_move rfl) ?_; clear ha a; intro a ha); obtain ⟨x169, g170, gx171, hF⟩ := idx_some hF
  obtain ⟨p172, cs173, f174, hf175, hpb176, hat177, hr178, hi179⟩ := ha2.at g170 gx171
  obtain ⟨rfl, hI180, rfl⟩ := hr178
  refine q_g ha rfl (hi179.gives sl31 rfl rfl) ?_; clear ha a; intro a ha; refine q_g ha rfl (g_load0 hE168 Tryd.isAgg2 rfl hat177.one) ?_; clear ha a; intro a ha; obtain ⟨x181, g182, gx183, hF⟩ := idx_some hF
  obtain ⟨p184, cs185, f186, hf187, hpb188, hat189, hr190, hi191⟩ := ha0.at g182 gx183
  obtain ⟨rfl, hI192, rfl⟩ := hr190
  refine q_g ha rfl (hi191.gives sl31 rfl rfl) ?_; clear ha a; intro a ha; refine q_g ha rfl (g_load0 hE168 Tryd.isAgg2 rfl hat189.one) ?_; clear ha a; intro a ha; (iterate 2 refine q_g ha rfl (g_move rfl) ?_; clear ha a; intro a ha); obtain ⟨x193, g194, gx195, hF⟩ := idx_some hF
  obtain ⟨p196, cs197, f198, hf199, hpb200, hat201, hr202, hi203⟩ := ha2.at g194 gx195
  obtain ⟨rfl, hI204, rfl⟩ := hr202
  refine q_g ha rfl (hi203.gives sl31 rfl rfl) ?_; clear ha a; intro a ha; refine q_g ha rfl (g_load0 hE168 Tryd.isAgg2 rfl hat201.one) ?_; clear ha a; intro a ha; obtain ⟨x205, g206, gx207, hF⟩ := idx_some hF
  obtain ⟨p208, cs209, f210, hf211, hpb212, hat213, hr214, hi215⟩ := ha0.at g206 gx207
  obtain ⟨rfl, hI216, rfl⟩ := hr214
  refine q_g ha rfl (hi215.gives sl31 rfl rfl) ?_; clear ha a; intro a ha; refine q_g ha rfl (g_load0 hE168 Tryd.isAgg2 rfl hat213.one) ?_; clear ha a; intro a ha; obtain ⟨x219, hc220, hF⟩ := cal_some hF; refine q_call (.int .i64 x219) ha rfl rfl Tryd.call61 (fun w218 hx217 => W_spec_l1Max hI192 hI216 hc220) (fun _ _ _ h => ⟨h.1.1, h.2⟩) ?_; clear ha a; intro a ha
  have hI221 : InI x219 := calls_fact (w := w166) (W_spec_l1Max hI192 hI216 hc220) (fun _ _ h => h.1.2)
  refine q_g ha rfl (g_assign rfl) ?_; clear ha a; intro a ha
  refine q_nil ?_; intro w222 hx223
  have hE224 := Ext.trans hE168 hx223
  replace ha := ha.sub (σ' := [(7, (.int .i64 x51)), (8, (.int .i64 x107)), (9, (.int .i64 x163)), (10, (.int .i64 x219))]) ⟨rfl, rfl, rfl, rfl, trivial⟩; refine e_then ?_; refine wp_seq ?_; refine wp_region_lit ?_; (iterate 2 refine op_g ha rfl (g_move rfl) ?_; clear ha a; intro a ha); refine op_g ha rfl (g_lss rfl rfl) ?_; clear ha a; intro a ha; refine op_g ha rfl (g_move rfl) ?_; clear ha a; intro a ha
  by_cases hp225 : x51 < x163
  · replace hF := if_t hp225 hF
    rw [show (decide (x51 < x163)) = true from (decide_eq_true_iff).2 hp225] at ha
    refine op_want (yields ha rfl rfl) ?_; refine op_g ha rfl (g_move rfl) ?_; clear ha a; intro a ha; refine op_want (yields ha rfl rfl) ?_; refine op_g ha rfl (g_move rfl) ?_; clear ha a; intro a ha; refine op_want (yields ha rfl rfl) ?_; refine op_g ha rfl (g_lss rfl rfl) ?_; clear ha a; intro a ha; refine op_g ha rfl (g_pick rfl rfl) ?_; clear ha a; intro a ha; refine op_g ha rfl (g_move rfl) ?_; clear ha a; intro a ha
    by_cases hp226 : x163 < x107
    · replace hF := if_t hp226 hF
      rw [show (decide (x163 < x107)) = true from (decide_eq_true_iff).2 hp226] at ha
      refine op_want (yields ha rfl rfl) ?_; refine op_g ha rfl (g_move rfl) ?_; clear ha a; intro a ha; refine op_want (yields ha rfl rfl) ?_; refine op_g ha rfl (g_move rfl) ?_; clear ha a; intro a ha; refine op_want (yields ha rfl rfl) ?_; refine op_g ha rfl (g_lss rfl rfl) ?_; clear ha a; intro a ha; refine op_g ha rfl (g_pick rfl rfl) ?_; clear ha a; intro a ha; refine op_g ha rfl (g_move rfl) ?_; clear ha a; intro a ha
      by_cases hp227 : x107 < x219
      · replace hF := if_t hp227 hF
        rw [show (decide (x107 < x219)) = true from (decide_eq_true_iff).2 hp227] at ha
        (iterate 4 refine op_unwant ha rfl (yields ha rfl rfl) rfl ?_; clear ha a; intro a ha); (iterate 3 refine op_unwant0 ha rfl (yields0 ha rfl rfl) ?_; clear ha a; intro a ha); (iterate 2 refine op_unwant ha rfl (yields ha rfl rfl) rfl ?_; clear ha a; intro a ha); (iterate 3 refine op_unwant0 ha rfl (yields0 ha rfl rfl) ?_; clear ha a; intro a ha); refine op_unwant ha rfl (yields ha rfl rfl) rfl ?_; clear ha a; intro a ha; refine op_g ha rfl (g_pick rfl rfl) ?_; clear ha a; intro a ha; refine op_g ha rfl (g_assign rfl) ?_; clear ha a; intro a ha; refine wpList_nil ?_; replace ha := ha.sub (σ' := [(6, (.bool true))]) ⟨rfl, trivial⟩
        refine e_then ?_; refine wp_ret ?_; obtain rfl := Option.some.inj hF
        exact f_ret1 ha rfl rfl ⟨rfl, hE224⟩
      replace hF := if_f hp227 hF
      rw [show (decide (x107 < x219)) = false from b_false (decide_eq_true_iff) hp227] at ha
      refine op_want (yields ha rfl rfl) ?_; refine op_g ha rfl (g_move rfl) ?_; clear ha a; intro a ha; refine op_want (yields ha rfl rfl) ?_; refine op_g ha rfl (g_move rfl) ?_; clear ha a; intro a ha; refine op_want (yields ha rfl rfl) ?_; refine op_g ha rfl (g_lss rfl rfl) ?_; clear ha a; intro a ha; refine op_want (yields ha rfl rfl) ?_; refine op_g ha rfl (g_move rfl) ?_; clear ha a; intro a ha
      by_cases hp228 : x163 < x51
      · replace hF := if_t hp228 hF
        rw [show (decide (x163 < x51)) = true from (decide_eq_true_iff).2 hp228] at ha
        refine op_want (yields ha rfl rfl) ?_; refine op_g ha rfl (g_move rfl) ?_; clear ha a; intro a ha; refine op_want (yields ha rfl rfl) ?_; refine op_g ha rfl (g_move rfl) ?_; clear ha a; intro a ha; refine op_want (yields ha rfl rfl) ?_; refine op_g ha rfl (g_lss rfl rfl) ?_; clear ha a; intro a ha; refine op_want (yields ha rfl rfl) ?_; refine op_g ha rfl (g_pick rfl rfl) ?_; clear ha a; intro a ha; refine op_want (yields ha rfl rfl) ?_; refine op_g ha rfl (g_move rfl) ?_; clear ha a; intro a ha
        by_cases hp229 : x51 < x219
        · replace hF := if_t hp229 hF
          rw [show (decide (x51 < x219)) = true from (decide_eq_true_iff).2 hp229] at ha
          refine op_want (yields ha rfl rfl) ?_; refine op_g ha rfl (g_move rfl) ?_; clear ha a; intro a ha; refine op_want (yields ha rfl rfl) ?_; refine op_g ha rfl (g_move rfl) ?_; clear ha a; intro a ha; refine op_want (yields ha rfl rfl) ?_; refine op_g ha rfl (g_lss rfl rfl) ?_; clear ha a; intro a ha; refine op_want (yields ha rfl rfl) ?_; (iterate 2 refine op_g ha rfl (g_pick rfl rfl) ?_; clear ha a; intro a ha); refine op_g ha rfl (g_assign rfl) ?_; clear ha a; intro a ha; refine wpList_nil ?_; replace ha := ha.sub (σ' := [(6, (.bool (decide (x219 < x107))))]) ⟨rfl, trivial⟩; refine e_then ?_
          refine wp_ret ?_; obtain rfl := Option.some.inj hF
          exact f_ret1 ha rfl rfl ⟨rfl, hE224⟩
        replace hF := if_f hp229 hF
        rw [show (decide (x51 < x219)) = false from b_false (decide_eq_true_iff) hp229] at ha
        (iterate 3 refine op_unwant ha rfl (yields ha rfl rfl) rfl ?_; clear ha a; intro a ha); refine op_want (yields ha rfl rfl) ?_; (iterate 2 refine op_g ha rfl (g_pick rfl rfl) ?_; clear ha a; intro a ha); refine op_g ha rfl (g_assign rfl) ?_; clear ha a; intro a ha; refine wpList_nil ?_; replace ha := ha.sub (σ' := [(6, (.bool false))]) ⟨rfl, trivial⟩; refine e_then ?_; refine wp_ret ?_; obtain rfl := Option.some.inj hF
        exact f_ret1 ha rfl rfl ⟨rfl, hE224⟩
      replace hF := if_f hp228 hF
      rw [show (decide (x163 < x51)) = false from b_false (decide_eq_true_iff) hp228] at ha
      (iterate 3 refine op_unwant ha rfl (yields ha rfl rfl) rfl ?_; clear ha a; intro a ha); refine op_want (yields ha rfl rfl) ?_; refine op_g ha rfl (g_pick rfl rfl) ?_; clear ha a; intro a ha; refine op_want (yields ha rfl rfl) ?_; refine op_g ha rfl (g_move rfl) ?_; clear ha a; intro a ha; (iterate 3 refine op_unwant ha rfl (yields ha rfl rfl) rfl ?_; clear ha a; intro a ha); refine op_want (yields ha rfl rfl) ?_; (iterate 2 refine op_g ha rfl (g_pick rfl rfl) ?_; clear ha a; intro a ha); refine op_g ha rfl (g_assign rfl) ?_; clear ha a; intro a ha; refine wpList_nil ?_; replace ha := ha.sub (σ' := [(6, (.bool false))]) ⟨rfl, trivial⟩
      refine e_then ?_; refine wp_ret ?_; obtain rfl := Option.some.inj hF
      exact f_ret1 ha rfl rfl ⟨rfl, hE224⟩
    replace hF := if_f hp226 hF
    rw [show (decide (x163 < x107)) = false from b_false (decide_eq_true_iff) hp226] at ha
    (iterate 3 refine op_unwant ha rfl (yields ha rfl rfl) rfl ?_; clear ha a; intro a ha); refine op_g ha rfl (g_pick rfl rfl) ?_; clear ha a; intro a ha; refine op_g ha rfl (g_move rfl) ?_; clear ha a; intro a ha; refine op_want (yields ha rfl rfl) ?_; refine op_g ha rfl (g_move rfl) ?_; clear ha a; intro a ha; refine op_want (yields ha rfl rfl) ?_; refine op_g ha rfl (g_move rfl) ?_; clear ha a; intro a ha; refine op_want (yields ha rfl rfl) ?_; refine op_g ha rfl (g_lss rfl rfl) ?_; clear ha a; intro a ha; refine op_want (yields ha rfl rfl) ?_; refine op_g ha rfl (g_move rfl) ?_; clear ha a; intro a ha
    by_cases hp230 : x163 < x51
    · replace hF := if_t hp230 hF
      rw [show (decide (x163 < x51)) = true from (decide_eq_true_iff).2 hp230] at ha
      refine op_want (yields ha rfl rfl) ?_; refine op_g ha rfl (g_move rfl) ?_; clear ha a; intro a ha; refine op_want (yields ha rfl rfl) ?_; refine op_g ha rfl (g_move rfl) ?_; clear ha a; intro a ha; refine op_want (yields ha rfl rfl) ?_; refine op_g ha rfl (g_lss rfl rfl) ?_; clear ha a; intro a ha; refine op_want (yields ha rfl rfl) ?_; refine op_g ha rfl (g_pick rfl rfl) ?_; clear ha a; intro a ha; refine op_want (yields ha rfl rfl) ?_; refine op_g ha rfl (g_move rfl) ?_; clear ha a; intro a ha
      by_cases hp231 : x51 < x219
      · replace hF := if_t hp231 hF
        rw [show (decide (x51 < x219)) = true from (decide_eq_true_iff).2 hp231] at ha
        refine op_want (yields ha rfl rfl) ?_; refine op_g ha rfl (g_move rfl) ?_; clear ha a; intro a ha; refine op_want (yields ha rfl rfl) ?_; refine op_g ha rfl (g_move rfl) ?_; clear ha a; intro a ha; refine op_want (yields ha rfl rfl) ?_; refine op_g ha rfl (g_lss rfl rfl) ?_; clear ha a; intro a ha; refine op_want (yields ha rfl rfl) ?_; (iterate 2 refine op_g ha rfl (g_pick rfl rfl) ?_; clear ha a; intro a ha); refine op_g ha rfl (g_assign rfl) ?_; clear ha a; intro a ha; refine wpList_nil ?_; replace ha := ha.sub (σ' := [(6, (.bool (decide (x219 < x107))))]) ⟨rfl, trivial⟩; refine e_then ?_
        refine wp_ret ?_; obtain rfl := Option.some.inj hF
        exact f_ret1 ha rfl rfl ⟨rfl, hE224⟩
      replace hF := if_f hp231 hF
      rw [show (decide (x51 < x219)) = false from b_false (decide_eq_true_iff) hp231] at ha
      (iterate 3 refine op_unwant ha rfl (yields ha rfl rfl) rfl ?_; clear ha a; intro a ha); refine op_want (yields ha rfl rfl) ?_; (iterate 2 refine op_g ha rfl (g_pick rfl rfl) ?_; clear ha a; intro a ha); refine op_g ha rfl (g_assign rfl) ?_; clear ha a; intro a ha; refine wpList_nil ?_; replace ha := ha.sub (σ' := [(6, (.bool false))]) ⟨rfl, trivial⟩; refine e_then ?_; refine wp_ret ?_; obtain rfl := Option.some.inj hF
      exact f_ret1 ha rfl rfl ⟨rfl, hE224⟩
    replace hF := if_f hp230 hF
    rw [show (decide (x163 < x51)) = false from b_false (decide_eq_true_iff) hp230] at ha
    (iterate 3 refine op_unwant ha rfl (yields ha rfl rfl) rfl ?_; clear ha a; intro a ha); refine op_want (yields ha rfl rfl) ?_; refine op_g ha rfl (g_pick rfl rfl) ?_; clear ha a; intro a ha; refine op_want (yields ha rfl rfl) ?_; refine op_g ha rfl (g_move rfl) ?_; clear ha a; intro a ha; (iterate 3 refine op_unwant ha rfl (yields ha rfl rfl) rfl ?_; clear ha a; intro a ha); refine op_want (yields ha rfl rfl) ?_; (iterate 2 refine op_g ha rfl (g_pick rfl rfl) ?_; clear ha a; intro a ha); refine op_g ha rfl (g_assign rfl) ?_; clear ha a; intro a ha; refine wpList_nil ?_; replace ha := ha.sub (σ' := [(6, (.bool false))]) ⟨rfl, trivial⟩
    refine e_then ?_; refine wp_ret ?_; obtain rfl := Option.some.inj hF
    exact f_ret1 ha rfl rfl ⟨rfl, hE224⟩
  replace hF := if_f hp225 hF
  rw [show (decide (x51 < x163)) = false from b_false (decide_eq_true_iff) hp225] at ha
  (iterate 3 refine op_unwant ha rfl (yields ha rfl rfl) rfl ?_; clear ha a; intro a ha); refine op_g ha rfl (g_pick rfl rfl) ?_; clear ha a; intro a ha; refine op_g ha rfl (g_move rfl) ?_; clear ha a; intro a ha; (iterate 3 refine op_unwant ha rfl (yields ha rfl rfl) rfl ?_; clear ha a; intro a ha); refine op_g ha rfl (g_pick rfl rfl) ?_; clear ha a; intro a ha; refine op_g ha rfl (g_move rfl) ?_; clear ha a; intro a ha; refine op_want (yields ha rfl rfl) ?_; refine op_g ha rfl (g_move rfl) ?_; clear ha a; intro a ha; refine op_want (yields ha rfl rfl) ?_; refine op_g ha rfl (g_move rfl) ?_; clear ha a; intro a ha
  refine op_want (yields ha rfl rfl) ?_; refine op_g ha rfl (g_lss rfl rfl) ?_; clear ha a; intro a ha; refine op_want (yields ha rfl rfl) ?_; refine op_g ha rfl (g_move rfl) ?_; clear ha a; intro a ha
  by_cases hp232 : x163 < x51
  · replace hF := if_t hp232 hF
    rw [show (decide (x163 < x51)) = true from (decide_eq_true_iff).2 hp232] at ha
    refine op_want (yields ha rfl rfl) ?_; refine op_g ha rfl (g_move rfl) ?_; clear ha a; intro a ha; refine op_want (yields ha rfl rfl) ?_; refine op_g ha rfl (g_move rfl) ?_; clear ha a; intro a ha; refine op_want (yields ha rfl rfl) ?_; refine op_g ha rfl (g_lss rfl rfl) ?_; clear ha a; intro a ha; refine op_want (yields ha rfl rfl) ?_; refine op_g ha rfl (g_pick rfl rfl) ?_; clear ha a; intro a ha; refine op_want (yields ha rfl rfl) ?_; refine op_g ha rfl (g_move rfl) ?_; clear ha a; intro a ha
    by_cases hp233 : x51 < x219
    · replace hF := if_t hp233 hF
      rw [show (decide (x51 < x219)) = true from (decide_eq_true_iff).2 hp233] at ha
      refine op_want (yields ha rfl rfl) ?_; refine op_g ha rfl (g_move rfl) ?_; clear ha a; intro a ha; refine op_want (yields ha rfl rfl) ?_; refine op_g ha rfl (g_move rfl) ?_; clear ha a; intro a ha; refine op_want (yields ha rfl rfl) ?_; refine op_g ha rfl (g_lss rfl rfl) ?_; clear ha a; intro a ha; refine op_want (yields ha rfl rfl) ?_; (iterate 2 refine op_g ha rfl (g_pick rfl rfl) ?_; clear ha a; intro a ha); refine op_g ha rfl (g_assign rfl) ?_; clear ha a; intro a ha; refine wpList_nil ?_; replace ha := ha.sub (σ' := [(6, (.bool (decide (x219 < x107))))]) ⟨rfl, trivial⟩; refine e_then ?_
      refine wp_ret ?_; obtain rfl := Option.some.inj hF
      exact f_ret1 ha rfl rfl ⟨rfl, hE224⟩
    replace hF := if_f hp233 hF
    rw [show (decide (x51 < x219)) = false from b_false (decide_eq_true_iff) hp233] at ha
    (iterate 3 refine op_unwant ha rfl (yields ha rfl rfl) rfl ?_; clear ha a; intro a ha); refine op_want (yields ha rfl rfl) ?_; (iterate 2 refine op_g ha rfl (g_pick rfl rfl) ?_; clear ha a; intro a ha); refine op_g ha rfl (g_assign rfl) ?_; clear ha a; intro a ha; refine wpList_nil ?_; replace ha := ha.sub (σ' := [(6, (.bool false))]) ⟨rfl, trivial⟩; refine e_then ?_; refine wp_ret ?_; obtain rfl := Option.some.inj hF
    exact f_ret1 ha rfl rfl ⟨rfl, hE224⟩
  replace hF := if_f hp232 hF
  rw [show (decide (x163 < x51)) = false from b_false (decide_eq_true_iff) hp232] at ha
  (iterate 3 refine op_unwant ha rfl (yields ha rfl rfl) rfl ?_; clear ha a; intro a ha); refine op_want (yields ha rfl rfl) ?_; refine op_g ha rfl (g_pick rfl rfl) ?_; clear ha a; intro a ha; refine op_want (yields ha rfl rfl) ?_; refine op_g ha rfl (g_move rfl) ?_; clear ha a; intro a ha; (iterate 3 refine op_unwant ha rfl (yields ha rfl rfl) rfl ?_; clear ha a; intro a ha); refine op_want (yields ha rfl rfl) ?_; (iterate 2 refine op_g ha rfl (g_pick rfl rfl) ?_; clear ha a; intro a ha); refine op_g ha rfl (g_assign rfl) ?_; clear ha a; intro a ha; refine wpList_nil ?_; replace ha := ha.sub (σ' := [(6, (.bool false))]) ⟨rfl, trivial⟩
  refine e_then ?_; refine wp_ret ?_; obtain rfl := Option.some.inj hF
  exact f_ret1 ha rfl rfl ⟨rfl, hE224⟩
set_option maxHeartbeats 2000000 in
theorem W_spec_l1Flag {W : World} {a0 : Bool} {r : Int} (hF : F_spec_l1Flag a0 = some r) :
    Calls Tryd.prog 52 [.bool a0].toArray W (Ret fun u w' => (u = .int .i64 r ∧ InI r) ∧ Ext W w') := by
  refine f_enter Tryd.func52 rfl Tryd.ntmps52 rfl ?_
  intro a ha
  replace ha : Fr 4 [(0, (.bool a0))] a := ha
  have hE : Chg [] W W := Chg.refl _ _
  unfold F_spec_l1Flag at hF
  refine wp_seq ?_; refine wp_region_lit ?_; refine op_g ha rfl (g_assign rfl) ?_; clear ha a; intro a ha; refine wpList_nil ?_; replace ha := ha.sub (σ' := [(0, (.bool a0))]) ⟨rfl, trivial⟩; refine e_then ?_; refine wp_seq ?_; refine wp_seq ?_; refine wp_region_lit ?_; refine op_g ha rfl (g_move rfl) ?_; clear ha a; intro a ha; refine wpList_nil ?_; replace ha := ha.sub (σ' := [(3, (.bool a0))]) ⟨rfl, trivial⟩; refine e_then ?_; refine c_cond (a0 = true) ha rfl (Iff.rfl) (fun hp1 => ?_) (fun hp1 => ?_)
  · replace hF := if_t hp1 hF
    refine wp_seq ?_; refine wp_region_lit ?_; refine op_g ha rfl (g_assign rfl) ?_; clear ha a; intro a ha; refine wpList_nil ?_; replace ha := ha.sub (σ' := [(2, (.int .i64 1))]) ⟨rfl, trivial⟩; refine e_then ?_; refine wp_ret ?_; refine e_then_ret ?_; obtain rfl := Option.some.inj hF
    exact f_ret1 ha rfl rfl ⟨⟨rfl, (show InI 1 from by decide)⟩, hE⟩
  replace hF := if_f hp1 hF; refine wp_skip ?_; refine e_then ?_; refine wp_seq ?_; refine wp_region_lit ?_; refine op_g ha rfl (g_assign rfl) ?_; clear ha a; intro a ha; refine wpList_nil ?_; replace ha := ha.sub (σ' := [(2, (.int .i64 0))]) ⟨rfl, trivial⟩; refine e_then ?_; refine wp_ret ?_; obtain rfl := Option.some.inj hF
  exact f_ret1 ha rfl rfl ⟨⟨rfl, (show InI 0 from by decide)⟩, hE⟩
set_option maxHeartbeats 2000000 in
theorem W_spec_l24Crossings {W : World} {va0 : Value} {fa0 : List Nat} {a0 : (List (List Int))} (ha0 : Ro (Rp.sl 2 Rp.int) W fa0 va0 a0) {va1 : Value} {fa1 : List Nat} {a1 : (List Int)} (ha1 : Ro Rp.int W fa1 va1 a1) {r : Int} (hF : F_spec_l24Crossings a0 a1 = some r) :
    Calls Tryd.prog 42 [va0, va1].toArray W (Ret fun u w' => (u = .int .i64 r ∧ InI r) ∧ Ext W w') := by
  refine f_enter Tryd.func42 rfl Tryd.ntmps42 rfl ?_
  intro a ha
  replace ha : Fr 36 [(0, va0), (1, va1)] a := ha
  have hE : Chg [] W W := Chg.refl _ _
  unfold F_spec_l24Crossings at hF
  refine wp_seq ?_; refine wp_region_lit ?_; refine op_g ha rfl (g_assign rfl) ?_; clear ha a; intro a ha; refine wpList_nil ?_; replace ha := ha.sub (σ' := [(0, va0), (1, va1)]) ⟨rfl, rfl, trivial⟩; refine e_then ?_; refine wp_seq ?_; refine wp_region_lit ?_; refine op_g ha rfl (g_move rfl) ?_; clear ha a; intro a ha; obtain ⟨x1, hc2, hF⟩ := cal_some hF
  refine o_call ha rfl rfl Tryd.call51 (W_spec_l24Places (ha1.ext hE) hc2) ?_; clear ha a; rintro v3 w4 ⟨b6, h7, z8, hx5⟩ a ha
  have hE10 := Ext.trans hE hx5
  have q11 := Zn.upD z8 hE
  refine op_g ha rfl (g_assign rfl) ?_; clear ha a; intro a ha; refine wpList_nil ?_; replace ha := ha.sub (σ' := [(0, va0), (5, v3)]) ⟨rfl, rfl, trivial⟩; refine e_then ?_; refine wp_seq ?_; refine wp_region_lit ?_; refine op_g ha rfl (g_assign rfl) ?_; clear ha a; intro a ha; refine wpList_nil ?_; refine e_then ?_; refine wp_seq ?_; refine wp_seq ?_; refine wp_region_lit ?_; refine op_g ha rfl (g_assign rfl) ?_; clear ha a; intro a ha; refine wpList_nil ?_; replace ha := ha.sub (σ' := [(0, va0), (5, v3), (6, (.int .i64 0)), (7, (.int .i64 0))]) ⟨rfl, rfl, rfl, rfl, trivial⟩; refine e_then ?_
  obtain ⟨o429, ho430, hK431⟩ := bnd_some hF
  obtain ⟨n432, hn433⟩ := lp_some ho430; clear ho430
  refine c_loop (fun a w => ∃ (i427 : Int), Fr 36 [(6, (.int .i64 i427))] a ∧ Chg [] W w ∧ InI i427 ∧ o429 = .inl i427) (fun n a w => ∃ (i221 : Int) (i223 : Int), Fr 36 [(0, va0), (5, v3), (6, (.int .i64 i221)), (7, (.int .i64 i223))] a ∧ Chg [] W w ∧ InI i221 ∧ InI i223 ∧ Ow Rp.int 2 true w [] b6 v3 x1 ∧ Zn W b6 ∧ lpN (fun s => F_spec_l24Crossings_l1 a0 x1 s.1 s.2) n (i221, i223) = some o429) n432 ⟨0, 0, ha.sub ⟨rfl, rfl, rfl, rfl, trivial⟩, hE10, (show InI 0 from by decide), (show InI 0 from by decide), h7, q11, hn433⟩ ?_ ?_
  · rintro m437 a w217 ⟨i221, i223, ha, hE225, hI222, hI224, h219, z220, hF⟩
    cases m437 with
    | zero => exact (lpN_zero hF).elim
    | succ m437 =>
      obtain ⟨z436, hF, hN435⟩ := lpN_succ hF
      have hF : F_spec_l24Crossings_l1 a0 x1 i221 i223 = some z436 := hF; unfold F_spec_l24Crossings_l1 at hF
      refine wp_seq ?_; refine wp_seq ?_; refine wp_region_lit ?_; (iterate 2 refine op_g ha rfl (g_move rfl) ?_; clear ha a; intro a ha); refine op_g ha rfl (g_lenR sl22.und ha0 rfl) ?_; clear ha a; intro a ha; refine op_g ha rfl (g_lss rfl rfl) ?_; clear ha a; intro a ha; refine wpList_nil ?_; replace ha := ha.sub (σ' := [(0, va0), (5, v3), (6, (.int .i64 i221)), (7, (.int .i64 i223)), (14, (.bool (decide (i223 < (a0.length : Int)))))]) ⟨rfl, rfl, rfl, rfl, rfl, trivial⟩; refine e_then ?_; refine c_cond (i223 < (a0.length : Int)) ha rfl (decide_eq_true_iff) (fun hp438 => ?_) (fun hp438 => ?_)
      · replace hF := if_t hp438 hF
        refine wp_skip ?_; refine e_then ?_; refine wp_seq ?_; refine wp_block ?_; refine wp_seq ?_; refine wp_region_lit ?_; refine op_g ha rfl (g_assign rfl) ?_; clear ha a; intro a ha; refine wpList_nil ?_; replace ha := ha.sub (σ' := [(0, va0), (5, v3), (6, (.int .i64 i221)), (7, (.int .i64 i223)), (8, (.int .i64 0))]) ⟨rfl, rfl, rfl, rfl, rfl, trivial⟩; refine e_then ?_; obtain ⟨o571, ho572, hK573⟩ := bnd_some hF
        obtain ⟨n574, hn575⟩ := lp_some ho572; clear ho572
        refine c_loop (fun a w => ∃ (i569 : Int), Fr 36 [(0, va0), (5, v3), (6, (.int .i64 i569)), (7, (.int .i64 i223))] a ∧ Chg [] W w ∧ InI i569 ∧ Ow Rp.int 2 true w [] b6 v3 x1 ∧ Zn W b6 ∧ o571 = .inl i569) (fun n a w => ∃ (i504 : Int) (i506 : Int), Fr 36 [(0, va0), (5, v3), (6, (.int .i64 i504)), (7, (.int .i64 i223)), (8, (.int .i64 i506))] a ∧ Chg [] W w ∧ InI i504 ∧ InI i506 ∧ Ow Rp.int 2 true w [] b6 v3 x1 ∧ Zn W b6 ∧ lpN (fun s => F_spec_l24Crossings_l2 a0 x1 i223 s.1 s.2) n (i504, i506) = some o571) n574 ⟨i221, 0, ha.sub ⟨rfl, rfl, rfl, rfl, rfl, trivial⟩, hE225, hI222, (show InI 0 from by decide), h219, z220, hn575⟩ ?_ ?_
        · rintro m579 a w500 ⟨i504, i506, ha, hE508, hI505, hI507, h502, z503, hF⟩
          cases m579 with
          | zero => exact (lpN_zero hF).elim
          | succ m579 =>
            obtain ⟨z578, hF, hN577⟩ := lpN_succ hF
            have hF : F_spec_l24Crossings_l2 a0 x1 i223 i504 i506 = some z578 := hF; unfold F_spec_l24Crossings_l2 at hF
            refine wp_seq ?_; refine wp_seq ?_; refine wp_region_lit ?_; (iterate 2 refine op_g ha rfl (g_move rfl) ?_; clear ha a; intro a ha); refine op_g ha rfl (g_lss rfl rfl) ?_; clear ha a; intro a ha; refine wpList_nil ?_; replace ha := ha.sub (σ' := [(0, va0), (5, v3), (6, (.int .i64 i504)), (7, (.int .i64 i223)), (8, (.int .i64 i506)), (19, (.bool (decide (i506 < i223))))]) ⟨rfl, rfl, rfl, rfl, rfl, rfl, trivial⟩; refine e_then ?_; refine c_cond (i506 < i223) ha rfl (decide_eq_true_iff) (fun hp580 => ?_) (fun hp580 => ?_)
            · replace hF := if_t hp580 hF
              refine wp_skip ?_; refine e_then ?_; refine wp_seq ?_; refine wp_block ?_; refine d_quiet hmix (by kernel_rfl) ?_; (iterate 4 refine q_g ha rfl (g_move rfl) ?_; clear ha a; intro a ha); obtain ⟨x581, g582, gx583, hF⟩ := idx_some hF
              obtain ⟨p584, cs585, f586, hf587, hpb588, hat589, hr590, hi591⟩ := ha0.at g582 gx583
              obtain ⟨v592, rfl, h593⟩ := hr590
              have h593 : Ro Rp.int W f586 v592 x581 := h593
              refine q_g ha rfl (hi591.gives sl22 rfl rfl) ?_; clear ha a; intro a ha; refine q_g ha rfl (g_load0 hE508 Tryd.isAgg31 rfl hat589.one) ?_; clear ha a; intro a ha; (iterate 2 refine q_g ha rfl (g_move rfl) ?_; clear ha a; intro a ha); obtain ⟨x595, g596, gx597, hF⟩ := idx_some hF
              obtain ⟨p598, cs599, f600, hf601, hpb602, hat603, hr604, hi605⟩ := ha0.at g596 gx597
              obtain ⟨v606, rfl, h607⟩ := hr604
              have h607 : Ro Rp.int W f600 v606 x595 := h607
              refine q_g ha rfl (hi605.gives sl22 rfl rfl) ?_; clear ha a; intro a ha; refine q_g ha rfl (g_load0 hE508 Tryd.isAgg31 rfl hat603.one) ?_; clear ha a; intro a ha
              obtain ⟨fp611, hro612, hs613⟩ := h502.roF
              obtain ⟨x614, hc615, hF⟩ := cal_some hF; refine q_call (.bool x614) ha rfl rfl Tryd.call53 (fun w610 hx609 => W_spec_l24Cross (hro612.ext hx609) (h593.ext (Ext.trans hE508 hx609)) (h607.ext (Ext.trans hE508 hx609)) hc615) (fun _ _ _ h => ⟨h.1, h.2⟩) ?_; clear ha a; intro a ha; obtain ⟨x618, hc619, hF⟩ := cal_some hF; refine q_call (.int .i64 x618) ha rfl rfl Tryd.call52 (fun w617 hx616 => W_spec_l1Flag  hc619) (fun _ _ _ h => ⟨h.1.1, h.2⟩) ?_; clear ha a; intro a ha
              have hI620 : InI x618 := calls_fact (w := w500) (W_spec_l1Flag  hc619) (fun _ _ h => h.1.2)
              obtain ⟨hI621, hF⟩ := ck_some hF; refine q_g ha rfl (g_add rfl rfl hI621) ?_; clear ha a; intro a ha; refine q_g ha rfl (g_assign rfl) ?_; clear ha a; intro a ha
              refine q_nil ?_; intro w623 hx624
              replace h502 := h502.ext hx624
              have hE625 := Ext.trans hE508 hx624
              replace ha := ha.sub (σ' := [(0, va0), (5, v3), (6, (.int .i64 (i504 + x618))), (7, (.int .i64 i223)), (8, (.int .i64 i506))]) ⟨rfl, rfl, rfl, rfl, rfl, trivial⟩; refine e_blk ?_; refine e_then ?_; refine wp_region_lit ?_; refine op_g ha rfl (g_move rfl) ?_; clear ha a; intro a ha; obtain ⟨hI626, hF⟩ := ck_some hF; refine op_g ha rfl (g_add rfl rfl hI626) ?_; clear ha a; intro a ha; refine op_g ha rfl (g_assign rfl) ?_; clear ha a; intro a ha; refine wpList_nil ?_; replace ha := ha.sub (σ' := [(0, va0), (5, v3), (6, (.int .i64 (i504 + x618))), (7, (.int .i64 i223)), (8, (.int .i64 (i506 + 1)))]) ⟨rfl, rfl, rfl, rfl, rfl, trivial⟩
              refine e_lq ?_; obtain rfl := Option.some.inj hF
              exact ⟨_, Nat.lt_succ_self _, i504 + x618, i506 + 1, ha.sub ⟨rfl, rfl, rfl, rfl, rfl, trivial⟩, hE625, hI621, hI626, h502, z503, hN577⟩
            replace hF := if_f hp580 hF; refine wp_exit ?_; refine e_then_exit ?_; refine e_lq_eq ?_; obtain rfl := Option.some.inj hF
            exact ⟨i504, ha.sub ⟨rfl, rfl, rfl, rfl, trivial⟩, hE508, hI505, h502, z503, (LK_inr hN577).symm⟩
        rintro a w565 ⟨i569, ha, hE576, hI570, h567, z568, rfl⟩
        have hF : F_spec_l24Crossings_k3 i223 i569 = some _ := hK573; clear hK573; unfold F_spec_l24Crossings_k3 at hF
        refine e_blk ?_; refine e_then ?_; refine wp_region_lit ?_; refine op_g ha rfl (g_move rfl) ?_; clear ha a; intro a ha; obtain ⟨hI628, hF⟩ := ck_some hF; refine op_g ha rfl (g_add rfl rfl hI628) ?_; clear ha a; intro a ha; refine op_g ha rfl (g_assign rfl) ?_; clear ha a; intro a ha; refine wpList_nil ?_; replace ha := ha.sub (σ' := [(0, va0), (5, v3), (6, (.int .i64 i569)), (7, (.int .i64 (i223 + 1)))]) ⟨rfl, rfl, rfl, rfl, trivial⟩; refine e_lq ?_; obtain rfl := Option.some.inj hF
        exact ⟨_, Nat.lt_succ_self _, i569, i223 + 1, ha.sub ⟨rfl, rfl, rfl, rfl, trivial⟩, hE576, hI570, hI628, h567, z568, hN435⟩
      replace hF := if_f hp438 hF; refine wp_exit ?_; refine e_then_exit ?_; refine e_lq_eq ?_; obtain rfl := Option.some.inj hF
      exact ⟨i221, ha.sub ⟨rfl, trivial⟩, hE225, hI222, (LK_inr hN435).symm⟩
  rintro a w426 ⟨i427, ha, hE434, hI428, rfl⟩
  have hF : F_spec_l24Crossings_k4 i427 = some _ := hK431; clear hK431; unfold F_spec_l24Crossings_k4 at hF
  refine e_then ?_; refine wp_seq ?_; refine wp_region_lit ?_; refine op_g ha rfl (g_move rfl) ?_; clear ha a; intro a ha; refine op_g ha rfl (g_assign rfl) ?_; clear ha a; intro a ha; refine wpList_nil ?_; replace ha := ha.sub (σ' := [(4, (.int .i64 i427))]) ⟨rfl, trivial⟩; refine e_then ?_; refine wp_ret ?_; obtain rfl := Option.some.inj hF
  exact f_ret1 ha rfl rfl ⟨⟨rfl, hI428⟩, hE434⟩
set_option maxHeartbeats 2000000 in
theorem W_spec_l1Copy {W : World} {va0 : Value} {fa0 : List Nat} {a0 : (List Int)} (ha0 : Ro Rp.int W fa0 va0 a0) {r : (List Int)} (hF : F_spec_l1Copy a0 = some r) :
    Calls Tryd.prog 43 [va0].toArray W (Ret fun u w' => ∃ (b_u : Int), Ow Rp.int 2 true w' [] b_u u r ∧ Zn W b_u ∧ Ext W w') := by
  refine f_enter Tryd.func43 rfl Tryd.ntmps43 rfl ?_
  intro a ha
  replace ha : Fr 6 [(0, va0)] a := ha
  have hE : Chg [] W W := Chg.refl _ _
  unfold F_spec_l1Copy at hF
  refine wp_seq ?_; refine wp_region_lit ?_; refine op_g ha rfl (g_assign rfl) ?_; clear ha a; intro a ha; refine wpList_nil ?_; replace ha := ha.sub (σ' := [(0, va0)]) ⟨rfl, trivial⟩; refine e_then ?_; refine wp_seq ?_; refine wp_region_lit ?_
  refine o_lit0 Rp.int ha rfl sl31 ?_; clear ha a; intro v1 w2 h3 hx4 a ha
  obtain ⟨b6, hb6⟩ : ∃ b : Int, b = W.heap.size := ⟨_, rfl⟩; rw [← hb6] at h3
  have q7 := zn_of hb6
  have q8 := Zn.upD q7 hE
  have hE9 := Ext.trans hE hx4
  refine op_g ha rfl (g_move rfl) ?_; clear ha a; intro a ha; obtain ⟨hl10, hF⟩ := app_some hF
  obtain ⟨_, hs11, _⟩ := (ha0.ext hE9).src
  refine o_append ha rfl sl31 rfl rfl rfl h3 (hs11.up scal_int) (Nq.nil _) hl10 ?_; clear ha a; intro v12 w13 b14 h15 hc16 hb17 a ha
  replace h15 : Ow Rp.int 2 true w13 [] b14 v12 _ := h15
  have q19 := Zn.appD q8 hb17 hE9
  have hE20 := Ext.then hE9 hc16 (Zn.bl q8)
  refine op_g ha rfl (g_assign rfl) ?_; clear ha a; intro a ha; refine wpList_nil ?_; replace ha := ha.sub (σ' := [(2, v12)]) ⟨rfl, trivial⟩; refine e_then ?_; refine wp_ret ?_; obtain rfl := Option.some.inj hF
  exact f_ret1 ha rfl rfl ⟨_, h15, q19, hE20⟩
set_option maxHeartbeats 2000000 in
theorem W_spec_l24Rings_step {rc : (List (List Int)) → (List Int) → Int → (List Int) → Int → Option ((List Int) × Int)} (ih : ∀ {W : World} {va0 : Value} {fa0 : List Nat} {a0 : (List (List Int))} (ha0 : Ro (Rp.sl 2 Rp.int) W fa0 va0 a0) {va1 : Value} {fa1 : List Nat} {a1 : (List Int)} (ha1 : Ro Rp.int W fa1 va1 a1) {a2 : Int} (ha2 : InI a2) {va3_0 : Value} {fa3_0 : List Nat} {a3_0 : (List Int)} (ha3_0 : Ro Rp.int W fa3_0 va3_0 a3_0) {a3_1 : Int} (ha3_1 : InI a3_1) {r : ((List Int) × Int)} (hF : rc a0 a1 a2 a3_0 a3_1 = some r),
    Calls Tryd.prog 30 [va0, va1, .int .i64 a2, .agg #[va3_0, .int .i64 a3_1]].toArray W (Ret fun u w' => ∃ (u_0 : Value) (u_1 : Value) (fp_u_0 : List Nat), u = .agg #[u_0, u_1] ∧ Ro Rp.int w' fp_u_0 u_0 r.1 ∧ Pv (fa0 ++ fa1 ++ fa3_0) W.heap.size fp_u_0 ∧ (u_1 = .int .i64 r.2 ∧ InI r.2) ∧ Ext W w')) {W : World} {va0 : Value} {fa0 : List Nat} {a0 : (List (List Int))} (ha0 : Ro (Rp.sl 2 Rp.int) W fa0 va0 a0) {va1 : Value} {fa1 : List Nat} {a1 : (List Int)} (ha1 : Ro Rp.int W fa1 va1 a1) {a2 : Int} (ha2 : InI a2) {va3_0 : Value} {fa3_0 : List Nat} {a3_0 : (List Int)} (ha3_0 : Ro Rp.int W fa3_0 va3_0 a3_0) {a3_1 : Int} (ha3_1 : InI a3_1) {r : ((List Int) × Int)} (hF : F_spec_l24Rings_body rc a0 a1 a2 a3_0 a3_1 = some r) :
    Calls Tryd.prog 30 [va0, va1, .int .i64 a2, .agg #[va3_0, .int .i64 a3_1]].toArray W (Ret fun u w' => ∃ (u_0 : Value) (u_1 : Value) (fp_u_0 : List Nat), u = .agg #[u_0, u_1] ∧ Ro Rp.int w' fp_u_0 u_0 r.1 ∧ Pv (fa0 ++ fa1 ++ fa3_0) W.heap.size fp_u_0 ∧ (u_1 = .int .i64 r.2 ∧ InI r.2) ∧ Ext W w') := by
  refine f_enter Tryd.func30 rfl Tryd.ntmps30 rfl ?_
  intro a ha
  replace ha : Fr 56 [(0, va0), (1, va1), (2, (.int .i64 a2)), (3, (.agg #[va3_0, (.int .i64 a3_1)]))] a := ha
  have hE : Chg [] W W := Chg.refl _ _
  unfold F_spec_l24Rings_body at hF
  refine wp_seq ?_; refine wp_region_lit ?_
  refine o_box ha rfl rfl rfl ?_; clear ha a; intro b1 w2 hB3 hx4 hlo5 a ha
  have q6 := Zn.one hlo5
  have q7 := Zn.upD q6 hE
  have hE8 := Ext.trans hE hx4
  refine o_alloc (cs := [(.slice none 0 0), (.int .i64 0)]) ha rfl Tryd.zeroValue43 rfl ?_; clear ha a; intro b9 w10 hB11 hx12 hlo13 a ha
  have q14 := Zn.one hlo13
  have q15 := Nq.new hB3.fpb q14
  have q16 := Nq.made1 hlo13 hB3.bi
  have q17 := Zn.upD q14 hE8
  replace hB3 := hB3.ext hx12
  have hE18 := Ext.trans hE8 hx12
  refine wpList_nil ?_; replace ha := ha.sub (σ' := [(0, va0), (1, va1), (2, (.int .i64 a2)), (7, (.pointer (some ⟨b1, 0, none⟩))), (8, (.pointer (some ⟨b9, 0, none⟩)))]) ⟨rfl, rfl, rfl, rfl, rfl, trivial⟩; refine e_then ?_; refine wp_seq ?_; refine wp_seq ?_; refine wp_region_lit ?_; refine op_g ha rfl (g_field0 st43_1 rfl) ?_; clear ha a; intro a ha; refine op_g ha rfl (g_load Tryd.isAgg2 rfl (hB3.cell rfl)) ?_; clear ha a; intro a ha; refine op_g ha rfl (g_eql rfl rfl) ?_; clear ha a; intro a ha; refine wpList_nil ?_; replace ha := ha.sub (σ' := [(0, va0), (1, va1), (2, (.int .i64 a2)), (7, (.pointer (some ⟨b1, 0, none⟩))), (8, (.pointer (some ⟨b9, 0, none⟩))), (13, (.bool (decide (a3_1 = 0))))]) ⟨rfl, rfl, rfl, rfl, rfl, rfl, trivial⟩
  refine e_then ?_; refine c_cond (a3_1 = 0) ha rfl (decide_eq_true_iff) (fun hp19 => ?_) (fun hp19 => ?_)
  · replace hF := if_t hp19 hF
    refine wp_seq ?_; refine wp_region_lit ?_; refine op_g ha rfl (g_loadA (cs := [va3_0, (.int .i64 a3_1)]) Tryd.isAgg43 Tryd.sizeOf43 rfl (by simp) hB3.all) ?_; clear ha a; intro a ha
    refine o_storeA (vs := [va3_0, (.int .i64 a3_1)]) ha hB11 Tryd.sizeOf43 rfl rfl (by intro c hc; simp only [List.mem_cons, List.not_mem_nil, or_false] at hc; rcases hc with hc | hc <;> subst hc <;> first | rfl | exact ha3_0.oneC | exact rfl) rfl ?_; intro w20 hB21 hc22
    replace hc22 := hc22.bl
    replace hB21 : Bx w20 b9 [va3_0, (.int .i64 a3_1)] 43 := hB21
    replace hB3 := hB3.nq hc22 q15
    have hE23 := Ext.then hE18 hc22 (Zn.bl q17)
    refine wpList_nil ?_; replace ha := ha.sub (σ' := [(8, (.pointer (some ⟨b9, 0, none⟩)))]) ⟨rfl, trivial⟩; refine e_then ?_; refine wp_ret ?_; refine e_then_ret ?_; obtain rfl := Option.some.inj hF
    exact f_retC (cs := [va3_0, (.int .i64 a3_1)]) ha rfl rfl Tryd.isAgg43 Tryd.sizeOf43 hB21 ⟨_, _, _, rfl, (ha3_0.ext hE23), (Pv.par (fun _ h => List.mem_append_right _ h)), ⟨rfl, ha3_1⟩, hE23⟩
  replace hF := if_f hp19 hF; refine wp_skip ?_; refine e_then ?_; refine wp_seq ?_; refine wp_seq ?_; refine wp_region_lit ?_; refine op_g ha rfl (g_move rfl) ?_; clear ha a; intro a ha; refine op_g ha rfl (g_lenR sl31.und ha1 rfl) ?_; clear ha a; intro a ha; refine op_g ha rfl (g_move rfl) ?_; clear ha a; intro a ha; refine op_g ha rfl (g_eql rfl rfl) ?_; clear ha a; intro a ha; refine wpList_nil ?_; replace ha := ha.sub (σ' := [(0, va0), (1, va1), (2, (.int .i64 a2)), (7, (.pointer (some ⟨b1, 0, none⟩))), (8, (.pointer (some ⟨b9, 0, none⟩))), (18, (.bool (decide ((a1.length : Int) = a2))))]) ⟨rfl, rfl, rfl, rfl, rfl, rfl, trivial⟩
  refine e_then ?_; refine c_cond ((a1.length : Int) = a2) ha rfl (decide_eq_true_iff) (fun hp24 => ?_) (fun hp24 => ?_)
  · replace hF := if_t hp24 hF
    refine wp_seq ?_; refine wp_region_lit ?_; (iterate 2 refine op_g ha rfl (g_move rfl) ?_; clear ha a; intro a ha); obtain ⟨x25, hc26, hF⟩ := cal_some hF
    refine o_call ha rfl rfl Tryd.call42 (W_spec_l24Crossings (ha0.ext hE18) (ha1.ext hE18) hc26) ?_; clear ha a; rintro v27 w28 ⟨⟨rfl, hI30⟩, hx29⟩ a ha
    replace hB3 := hB3.ext hx29
    replace hB11 := hB11.ext hx29
    have hE31 := Ext.trans hE18 hx29
    refine op_g ha rfl (g_assign rfl) ?_; clear ha a; intro a ha; refine wpList_nil ?_; replace ha := ha.sub (σ' := [(1, va1), (7, (.pointer (some ⟨b1, 0, none⟩))), (8, (.pointer (some ⟨b9, 0, none⟩))), (9, (.int .i64 x25))]) ⟨rfl, rfl, rfl, rfl, trivial⟩; refine e_then ?_; refine wp_seq ?_; refine wp_seq ?_; refine wp_region_lit ?_; refine op_g ha rfl (g_field0 st43_1 rfl) ?_; clear ha a; intro a ha; refine op_g ha rfl (g_load Tryd.isAgg2 rfl (hB3.cell rfl)) ?_; clear ha a; intro a ha; refine op_g ha rfl (g_lss rfl rfl) ?_; clear ha a; intro a ha; refine op_g ha rfl (g_move rfl) ?_; clear ha a; intro a ha
    by_cases hp32 : a3_1 < 0
    · replace hF := if_t hp32 hF
      rw [show (decide (a3_1 < 0)) = true from (decide_eq_true_iff).2 hp32] at ha
      (iterate 4 refine op_unwant ha rfl (yields ha rfl rfl) rfl ?_; clear ha a; intro a ha); refine op_g ha rfl (g_pick rfl rfl) ?_; clear ha a; intro a ha; refine wpList_nil ?_; replace ha := ha.sub (σ' := [(1, va1), (7, (.pointer (some ⟨b1, 0, none⟩))), (8, (.pointer (some ⟨b9, 0, none⟩))), (9, (.int .i64 x25)), (30, (.bool true))]) ⟨rfl, rfl, rfl, rfl, rfl, trivial⟩; refine e_then ?_; refine c_true ha rfl ?_; refine wp_seq ?_; refine wp_region_lit ?_; refine op_g ha rfl (g_move rfl) ?_; clear ha a; intro a ha; refine op_g ha rfl (g_field0 st43_1 rfl) ?_; clear ha a; intro a ha
      refine o_storeB ha hB3 Tryd.sizeOf2 rfl rfl rfl rfl (Nat.le_of_ble_eq_true rfl) ?_; intro w33 hB34 hc35
      replace hc35 := hc35.bl
      replace hB34 : Bx w33 b1 [va3_0, (.int .i64 x25)] 43 := hB34
      replace hB11 := hB11.nq hc35 q16
      have hE36 := Ext.then hE31 hc35 (Zn.bl q7)
      refine wpList_nil ?_; replace ha := ha.sub (σ' := [(1, va1), (7, (.pointer (some ⟨b1, 0, none⟩))), (8, (.pointer (some ⟨b9, 0, none⟩)))]) ⟨rfl, rfl, rfl, trivial⟩; refine e_then ?_; refine wp_region_lit ?_; refine op_g ha rfl (g_move rfl) ?_; clear ha a; intro a ha; obtain ⟨x37, hc38, hF⟩ := cal_some hF
      refine o_call ha rfl rfl Tryd.call43 (W_spec_l1Copy (ha1.ext hE36) hc38) ?_; clear ha a; rintro v39 w40 ⟨b42, h43, z44, hx41⟩ a ha
      have q46 := Nq.new hB34.fpb z44
      have q47 := Nq.madeO z44 hB34.bi
      have q48 := Nq.new hB11.fpb z44
      have q49 := Nq.madeO z44 hB11.bi
      replace hB34 := hB34.ext hx41
      replace hB11 := hB11.ext hx41
      have hE50 := Ext.trans hE36 hx41
      have q51 := Zn.upD z44 hE36
      refine op_g ha rfl (g_field0 st43_0 rfl) ?_; clear ha a; intro a ha
      refine o_storeB ha hB34 Tryd.sizeOf31 rfl rfl h43.cells h43.oneC (Nat.le_of_ble_eq_true rfl) ?_; intro w52 hB53 hc54
      replace hc54 := hc54.bl
      replace hB53 : Bx w52 b1 [v39, (.int .i64 x25)] 43 := hB53
      replace hB11 := hB11.nq hc54 q16
      replace h43 := h43.nq hc54 q47
      have hE55 := Ext.then hE50 hc54 (Zn.bl q7)
      refine wpList_nil ?_; replace ha := ha.sub (σ' := [(7, (.pointer (some ⟨b1, 0, none⟩))), (8, (.pointer (some ⟨b9, 0, none⟩)))]) ⟨rfl, rfl, trivial⟩; refine e_then ?_; refine wp_seq ?_; refine wp_region_lit ?_; refine op_g ha rfl (g_loadA (cs := [v39, (.int .i64 x25)]) Tryd.isAgg43 Tryd.sizeOf43 rfl (by simp) hB53.all) ?_; clear ha a; intro a ha
      refine o_storeA (vs := [v39, (.int .i64 x25)]) ha hB11 Tryd.sizeOf43 rfl rfl (by intro c hc; simp only [List.mem_cons, List.not_mem_nil, or_false] at hc; rcases hc with hc | hc <;> subst hc <;> first | rfl | exact h43.oneC | exact rfl) rfl ?_; intro w56 hB57 hc58
      replace hc58 := hc58.bl
      replace hB57 : Bx w56 b9 [v39, (.int .i64 x25)] 43 := hB57
      replace hB53 := hB53.nq hc58 q15
      replace h43 := h43.nq hc58 q49
      have hE59 := Ext.then hE55 hc58 (Zn.bl q17)
      refine wpList_nil ?_; replace ha := ha.sub (σ' := [(8, (.pointer (some ⟨b9, 0, none⟩)))]) ⟨rfl, trivial⟩; refine e_then ?_; refine wp_ret ?_; refine e_then_ret ?_
      obtain ⟨fp60, h61, hs62⟩ := h43.roF
      obtain rfl := Option.some.inj hF
      exact f_retC (cs := [v39, (.int .i64 x25)]) ha rfl rfl Tryd.isAgg43 Tryd.sizeOf43 hB57 ⟨_, _, _, rfl, h61, (Pv.mono (Pv.own q51 (zf_nil _)) hs62), ⟨rfl, hI30⟩, hE59⟩
    replace hF := if_f hp32 hF
    rw [show (decide (a3_1 < 0)) = false from b_false (decide_eq_true_iff) hp32] at ha
    refine op_want (yields ha rfl rfl) ?_; refine op_g ha rfl (g_move rfl) ?_; clear ha a; intro a ha; refine op_want (yields ha rfl rfl) ?_; refine op_g ha rfl (g_field0 st43_1 rfl) ?_; clear ha a; intro a ha; refine op_want (yields ha rfl rfl) ?_; refine op_g ha rfl (g_load Tryd.isAgg2 rfl (hB3.cell rfl)) ?_; clear ha a; intro a ha; refine op_want (yields ha rfl rfl) ?_; refine op_g ha rfl (g_lss rfl rfl) ?_; clear ha a; intro a ha; refine op_g ha rfl (g_pick rfl rfl) ?_; clear ha a; intro a ha; refine wpList_nil ?_; replace ha := ha.sub (σ' := [(1, va1), (7, (.pointer (some ⟨b1, 0, none⟩))), (8, (.pointer (some ⟨b9, 0, none⟩))), (9, (.int .i64 x25)), (30, (.bool (decide (x25 < a3_1))))]) ⟨rfl, rfl, rfl, rfl, rfl, trivial⟩
    refine e_then ?_; refine c_cond (x25 < a3_1) ha rfl (decide_eq_true_iff) (fun hp63 => ?_) (fun hp63 => ?_)
    · replace hF := if_t hp63 hF
      refine wp_seq ?_; refine wp_region_lit ?_; refine op_g ha rfl (g_move rfl) ?_; clear ha a; intro a ha; refine op_g ha rfl (g_field0 st43_1 rfl) ?_; clear ha a; intro a ha
      refine o_storeB ha hB3 Tryd.sizeOf2 rfl rfl rfl rfl (Nat.le_of_ble_eq_true rfl) ?_; intro w64 hB65 hc66
      replace hc66 := hc66.bl
      replace hB65 : Bx w64 b1 [va3_0, (.int .i64 x25)] 43 := hB65
      replace hB11 := hB11.nq hc66 q16
      have hE67 := Ext.then hE31 hc66 (Zn.bl q7)
      refine wpList_nil ?_; replace ha := ha.sub (σ' := [(1, va1), (7, (.pointer (some ⟨b1, 0, none⟩))), (8, (.pointer (some ⟨b9, 0, none⟩)))]) ⟨rfl, rfl, rfl, trivial⟩; refine e_then ?_; refine wp_region_lit ?_; refine op_g ha rfl (g_move rfl) ?_; clear ha a; intro a ha; obtain ⟨x68, hc69, hF⟩ := cal_some hF
      refine o_call ha rfl rfl Tryd.call43 (W_spec_l1Copy (ha1.ext hE67) hc69) ?_; clear ha a; rintro v70 w71 ⟨b73, h74, z75, hx72⟩ a ha
      have q77 := Nq.new hB65.fpb z75
      have q78 := Nq.madeO z75 hB65.bi
      have q79 := Nq.new hB11.fpb z75
      have q80 := Nq.madeO z75 hB11.bi
      replace hB65 := hB65.ext hx72
      replace hB11 := hB11.ext hx72
      have hE81 := Ext.trans hE67 hx72
      have q82 := Zn.upD z75 hE67
      refine op_g ha rfl (g_field0 st43_0 rfl) ?_; clear ha a; intro a ha
      refine o_storeB ha hB65 Tryd.sizeOf31 rfl rfl h74.cells h74.oneC (Nat.le_of_ble_eq_true rfl) ?_; intro w83 hB84 hc85
      replace hc85 := hc85.bl
      replace hB84 : Bx w83 b1 [v70, (.int .i64 x25)] 43 := hB84
      replace hB11 := hB11.nq hc85 q16
      replace h74 := h74.nq hc85 q78
      have hE86 := Ext.then hE81 hc85 (Zn.bl q7)
      refine wpList_nil ?_; replace ha := ha.sub (σ' := [(7, (.pointer (some ⟨b1, 0, none⟩))), (8, (.pointer (some ⟨b9, 0, none⟩)))]) ⟨rfl, rfl, trivial⟩; refine e_then ?_; refine wp_seq ?_; refine wp_region_lit ?_; refine op_g ha rfl (g_loadA (cs := [v70, (.int .i64 x25)]) Tryd.isAgg43 Tryd.sizeOf43 rfl (by simp) hB84.all) ?_; clear ha a; intro a ha
      refine o_storeA (vs := [v70, (.int .i64 x25)]) ha hB11 Tryd.sizeOf43 rfl rfl (by intro c hc; simp only [List.mem_cons, List.not_mem_nil, or_false] at hc; rcases hc with hc | hc <;> subst hc <;> first | rfl | exact h74.oneC | exact rfl) rfl ?_; intro w87 hB88 hc89
      replace hc89 := hc89.bl
      replace hB88 : Bx w87 b9 [v70, (.int .i64 x25)] 43 := hB88
      replace hB84 := hB84.nq hc89 q15
      replace h74 := h74.nq hc89 q80
      have hE90 := Ext.then hE86 hc89 (Zn.bl q17)
      refine wpList_nil ?_; replace ha := ha.sub (σ' := [(8, (.pointer (some ⟨b9, 0, none⟩)))]) ⟨rfl, trivial⟩; refine e_then ?_; refine wp_ret ?_; refine e_then_ret ?_
      obtain ⟨fp91, h92, hs93⟩ := h74.roF
      obtain rfl := Option.some.inj hF
      exact f_retC (cs := [v70, (.int .i64 x25)]) ha rfl rfl Tryd.isAgg43 Tryd.sizeOf43 hB88 ⟨_, _, _, rfl, h92, (Pv.mono (Pv.own q82 (zf_nil _)) hs93), ⟨rfl, hI30⟩, hE90⟩
    replace hF := if_f hp63 hF; refine wp_skip ?_; refine e_then ?_; refine wp_seq ?_; refine wp_region_lit ?_; refine op_g ha rfl (g_loadA (cs := [va3_0, (.int .i64 a3_1)]) Tryd.isAgg43 Tryd.sizeOf43 rfl (by simp) hB3.all) ?_; clear ha a; intro a ha
    refine o_storeA (vs := [va3_0, (.int .i64 a3_1)]) ha hB11 Tryd.sizeOf43 rfl rfl (by intro c hc; simp only [List.mem_cons, List.not_mem_nil, or_false] at hc; rcases hc with hc | hc <;> subst hc <;> first | rfl | exact ha3_0.oneC | exact rfl) rfl ?_; intro w94 hB95 hc96
    replace hc96 := hc96.bl
    replace hB95 : Bx w94 b9 [va3_0, (.int .i64 a3_1)] 43 := hB95
    replace hB3 := hB3.nq hc96 q15
    have hE97 := Ext.then hE31 hc96 (Zn.bl q17)
    refine wpList_nil ?_; replace ha := ha.sub (σ' := [(8, (.pointer (some ⟨b9, 0, none⟩)))]) ⟨rfl, trivial⟩; refine e_then ?_; refine wp_ret ?_; refine e_then_ret ?_; obtain rfl := Option.some.inj hF
    exact f_retC (cs := [va3_0, (.int .i64 a3_1)]) ha rfl rfl Tryd.isAgg43 Tryd.sizeOf43 hB95 ⟨_, _, _, rfl, (ha3_0.ext hE97), (Pv.par (fun _ h => List.mem_append_right _ h)), ⟨rfl, ha3_1⟩, hE97⟩
  replace hF := if_f hp24 hF; refine wp_skip ?_; refine e_then ?_; refine wp_seq ?_; refine wp_seq ?_; refine wp_region_lit ?_; refine op_g ha rfl (g_assign rfl) ?_; clear ha a; intro a ha; refine wpList_nil ?_; replace ha := ha.sub (σ' := [(0, va0), (1, va1), (2, (.int .i64 a2)), (7, (.pointer (some ⟨b1, 0, none⟩))), (8, (.pointer (some ⟨b9, 0, none⟩))), (10, (.int .i64 0))]) ⟨rfl, rfl, rfl, rfl, rfl, rfl, trivial⟩; refine e_then ?_; obtain ⟨o213, ho214, hK215⟩ := bnd_some hF
  obtain ⟨n216, hn217⟩ := lp_some ho214; clear ho214
  have h218 := ha3_0.ext hE18
  have q220 := Nq.new ha3_0.bnd q7
  have q221 := Nq.new ha3_0.bnd q17
  refine c_loop (fun a w => ∃ (l201 : (List Int)) (i205 : Int) (v202 : Value) (f203 : List Nat), Fr 56 [(7, (.pointer (some ⟨b1, 0, none⟩))), (8, (.pointer (some ⟨b9, 0, none⟩)))] a ∧ Chg [] W w ∧ InI i205 ∧ Bx w b1 [v202, (.int .i64 i205)] 43 ∧ Zn W (b1 : Int) ∧ Ro Rp.int w f203 v202 l201 ∧ Pv (fa0 ++ fa1 ++ fa3_0) W.heap.size f203 ∧ Bx w b9 [(.slice none 0 0), (.int .i64 0)] 43 ∧ Zn W (b9 : Int) ∧ Nq ([b1]) (b9 : Int) ∧ Nq (f203) (b1 : Int) ∧ Nq (f203) (b9 : Int) ∧ Nq ([b9]) (b1 : Int) ∧ o213 = .inl (l201, i205)) (fun n a w => ∃ (l146 : (List Int)) (i150 : Int) (i154 : Int) (v147 : Value) (f148 : List Nat), Fr 56 [(0, va0), (1, va1), (2, (.int .i64 a2)), (7, (.pointer (some ⟨b1, 0, none⟩))), (8, (.pointer (some ⟨b9, 0, none⟩))), (10, (.int .i64 i154))] a ∧ Chg [] W w ∧ InI i150 ∧ InI i154 ∧ Bx w b1 [v147, (.int .i64 i150)] 43 ∧ Zn W (b1 : Int) ∧ Ro Rp.int w f148 v147 l146 ∧ Pv (fa0 ++ fa1 ++ fa3_0) W.heap.size f148 ∧ Bx w b9 [(.slice none 0 0), (.int .i64 0)] 43 ∧ Zn W (b9 : Int) ∧ Nq ([b1]) (b9 : Int) ∧ Nq (f148) (b1 : Int) ∧ Nq (f148) (b9 : Int) ∧ Nq ([b9]) (b1 : Int) ∧ lpN (fun s => F_spec_l24Rings_l1 a0 a1 a2 rc s.1 s.2.1 s.2.2) n (l146, i150, i154) = some o213) n216 ⟨a3_0, a3_1, 0, va3_0, fa3_0, ha.sub ⟨rfl, rfl, rfl, rfl, rfl, rfl, trivial⟩, hE18, ha3_1, (show InI 0 from by decide), hB3, q7, h218, (Pv.par (fun _ h => List.mem_append_right _ h)), hB11, q17, q15, q220, q221, q16, hn217⟩ ?_ ?_
  · rintro m225 a w141 ⟨l146, i150, i154, v147, f148, ha, hE160, hI151, hI155, hB142, z143, h145, pv149, hB152, z153, q156, q157, q158, q159, hF⟩
    cases m225 with
    | zero => exact (lpN_zero hF).elim
    | succ m225 =>
      obtain ⟨z224, hF, hN223⟩ := lpN_succ hF
      have hF : F_spec_l24Rings_l1 a0 a1 a2 rc l146 i150 i154 = some z224 := hF; unfold F_spec_l24Rings_l1 at hF
      refine wp_seq ?_; refine wp_seq ?_; refine wp_region_lit ?_; (iterate 2 refine op_g ha rfl (g_move rfl) ?_; clear ha a; intro a ha); refine op_g ha rfl (g_lss rfl rfl) ?_; clear ha a; intro a ha; refine wpList_nil ?_; replace ha := ha.sub (σ' := [(0, va0), (1, va1), (2, (.int .i64 a2)), (7, (.pointer (some ⟨b1, 0, none⟩))), (8, (.pointer (some ⟨b9, 0, none⟩))), (10, (.int .i64 i154)), (39, (.bool (decide (i154 < a2))))]) ⟨rfl, rfl, rfl, rfl, rfl, rfl, rfl, trivial⟩; refine e_then ?_; refine c_cond (i154 < a2) ha rfl (decide_eq_true_iff) (fun hp226 => ?_) (fun hp226 => ?_)
      · replace hF := if_t hp226 hF
        refine wp_skip ?_; refine e_then ?_; refine wp_seq ?_; refine wp_block ?_; refine wp_seq ?_; refine wp_region_lit ?_; (iterate 2 refine op_g ha rfl (g_move rfl) ?_; clear ha a; intro a ha); obtain ⟨x227, hc228, hF⟩ := cal_some hF
        refine o_call ha rfl rfl Tryd.call41 (W_spec_l1Has (ha1.ext hE160) hI155 hc228) ?_; clear ha a; rintro v229 w230 ⟨rfl, hx231⟩ a ha
        replace hB142 := hB142.ext hx231
        replace h145 := h145.ext hx231
        replace hB152 := hB152.ext hx231
        have hE232 := Ext.trans hE160 hx231
        refine op_g ha rfl (g_not rfl) ?_; clear ha a; intro a ha; refine wpList_nil ?_; replace ha := ha.sub (σ' := [(0, va0), (1, va1), (2, (.int .i64 a2)), (7, (.pointer (some ⟨b1, 0, none⟩))), (8, (.pointer (some ⟨b9, 0, none⟩))), (10, (.int .i64 i154)), (45, (.bool (!x227)))]) ⟨rfl, rfl, rfl, rfl, rfl, rfl, rfl, trivial⟩; refine e_then ?_; refine c_cond (¬ (x227 = true)) ha rfl (n_iff (Iff.rfl)) (fun hp233 => ?_) (fun hp233 => ?_)
        · replace hF := if_t hp233 hF
          refine x_region [0, 1, 2, 3, 4, 5, 6, 7, 8] hmix ?_
          have hS234 := RowKit.Below.refl w230.heap.size w230
          refine x_g 0 rfl (by kernel_rfl) (want0 _) ha rfl hS234 (g_move rfl) ?_; clear ha a; intro a ha; refine x_g 1 rfl (by kernel_rfl) (want0 _) ha rfl hS234 (g_move rfl) ?_; clear ha a; intro a ha; refine x_g 3 rfl (by kernel_rfl) (want0 _) ha rfl hS234 (g_move rfl) ?_; clear ha a; intro a ha; refine x_g 6 rfl (by kernel_rfl) (want0 _) ha rfl hS234 (g_move rfl) ?_; clear ha a; intro a ha; refine x_g 7 rfl (by kernel_rfl) (want0 _) ha rfl hS234 (g_loadA (cs := [v147, (.int .i64 i150)]) Tryd.isAgg43 Tryd.sizeOf43 rfl (by simp) hB142.all) ?_; clear ha a; intro a ha; obtain ⟨xqr3o2_1, hcqr3o2_1, hF⟩ := cal_some hF
          obtain ⟨hlqr3o5_1, hF⟩ := app_some hF; obtain ⟨xqr3o8_1, hcqr3o8_1, hF⟩ := cal_some hF; refine x_many [2, 4] (by kernel_rfl) rfl fun wqr3_1 hxqr3_1 => ⟨⟨_, rfl, ?_⟩, ⟨_, rfl, ?_⟩, trivial⟩
          · skip
            replace hB142 := hB142.ext hxqr3_1
            replace h145 := h145.ext hxqr3_1
            replace hB152 := hB152.ext hxqr3_1
            have hEqr3o2_1 := Ext.trans hE232 hxqr3_1
            have qqr3o2_1 := bel_step hS234 hxqr3_1
            refine o_call ha rfl rfl Tryd.call43 (W_spec_l1Copy (ha1.ext hEqr3o2_1) hcqr3o2_1) ?_; clear ha a; rintro vqr3o2_1 wqr3o2_1 ⟨bqr3o2_1, hqr3o2_1, zqr3o2_1, hxqr3o2_1⟩ a ha
            have qqr3o2_2 := Zn.upB zqr3o2_1 qqr3o2_1
            have qqr3o2_3 := Nq.new hB142.fpb zqr3o2_1
            have qqr3o2_4 := Nq.madeO zqr3o2_1 hB142.bi
            have qqr3o2_5 := Nq.new h145.bnd zqr3o2_1
            have qqr3o2_6 := Nq.new hB152.fpb zqr3o2_1
            have qqr3o2_7 := Nq.madeO zqr3o2_1 hB152.bi
            replace hB142 := hB142.ext hxqr3o2_1
            replace h145 := h145.ext hxqr3o2_1
            replace hB152 := hB152.ext hxqr3o2_1
            have hEqr3o2_2 := Ext.trans hEqr3o2_1 hxqr3o2_1
            have qqr3o2_8 := Zn.upD zqr3o2_1 hEqr3o2_1
            refine wpList_nil (e_sq ?_)
            have hStqr3o2_1 : RowKit.Below w230.heap.size wqr3_1 wqr3o2_1 := ext_bel qqr3o2_1.size hxqr3o2_1
            refine ⟨fun _ => hStqr3o2_1, ?_⟩
            have qqr3o2_9 := RowKit.Below.trans qqr3o2_1 hStqr3o2_1
            refine x_only 4 rfl (by kernel_rfl) ?_; intro wqr3o4_1 hxqr3o4_1
            replace hB142 := hB142.ext hxqr3o4_1
            replace h145 := h145.ext hxqr3o4_1
            replace hB152 := hB152.ext hxqr3o4_1
            replace hqr3o2_1 := hqr3o2_1.ext hxqr3o4_1
            have hEqr3o4_1 := Ext.trans hEqr3o2_2 hxqr3o4_1
            have qqr3o4_1 := bel_step qqr3o2_9 hxqr3o4_1
            refine o_lit1 (o := true) (y := i154) Rp.int ha rfl sl31 rfl rfl rfl ⟨rfl, hI155, rfl⟩ ?_; clear ha a; intro vqr3o4_1 wqr3o4_2 hqr3o4_1 hxqr3o4_2 a ha
            obtain ⟨bqr3o4_1, hbqr3o4_1⟩ : ∃ b : Int, b = wqr3o4_1.heap.size := ⟨_, rfl⟩; rw [← hbqr3o4_1] at hqr3o4_1
            have qqr3o4_2 := zn_of hbqr3o4_1
            have qqr3o4_3 := Nq.new hB142.fpb qqr3o4_2
            have qqr3o4_4 := Nq.madeO qqr3o4_2 hB142.bi
            have qqr3o4_5 := Nq.new h145.bnd qqr3o4_2
            have qqr3o4_6 := Nq.new hB152.fpb qqr3o4_2
            have qqr3o4_7 := Nq.madeO qqr3o4_2 hB152.bi
            have qqr3o4_8 := Nq.new hqr3o2_1.fpb qqr3o4_2
            have qqr3o4_9 := Nq.madeO qqr3o4_2 hqr3o2_1.blt
            have qqr3o4_10 := Zn.upD qqr3o4_2 hEqr3o4_1
            have qqr3o4_11 := Zn.upB qqr3o4_2 qqr3o4_1
            replace hB142 := hB142.ext hxqr3o4_2
            replace h145 := h145.ext hxqr3o4_2
            replace hB152 := hB152.ext hxqr3o4_2
            replace hqr3o2_1 := hqr3o2_1.ext hxqr3o4_2
            have hEqr3o4_2 := Ext.trans hEqr3o4_1 hxqr3o4_2
            refine wpList_nil (e_sq ?_)
            have hStqr3o4_1 : RowKit.Below w230.heap.size wqr3o4_1 wqr3o4_2 := ext_bel qqr3o4_1.size hxqr3o4_2
            refine ⟨fun _ => hStqr3o4_1, ?_⟩
            have qqr3o4_12 := RowKit.Below.trans qqr3o4_1 hStqr3o4_1
            refine x_only 5 rfl (by kernel_rfl) ?_; intro wqr3o5_1 hxqr3o5_1
            replace hB142 := hB142.ext hxqr3o5_1
            replace h145 := h145.ext hxqr3o5_1
            replace hB152 := hB152.ext hxqr3o5_1
            replace hqr3o2_1 := hqr3o2_1.ext hxqr3o5_1
            replace hqr3o4_1 := hqr3o4_1.ext hxqr3o5_1
            have hEqr3o5_1 := Ext.trans hEqr3o4_2 hxqr3o5_1
            have qqr3o5_1 := bel_step qqr3o4_12 hxqr3o5_1
            refine o_append ha rfl sl31 rfl rfl rfl hqr3o2_1 hqr3o4_1.src (Nq.nil _) hlqr3o5_1 ?_; clear ha a; intro vqr3o5_1 wqr3o5_2 bqr3o5_1 hqr3o5_1 hcqr3o5_1 hbqr3o5_1 a ha
            replace hqr3o5_1 : Ow Rp.int 2 true wqr3o5_2 [] bqr3o5_1 vqr3o5_1 _ := hqr3o5_1
            have qqr3o5_2 := Nq.appY qqr3o2_3 hB142.fpb hbqr3o5_1
            have qqr3o5_3 := Nq.appX qqr3o2_4 (Nq.nil _) hbqr3o5_1 hB142.bi
            have qqr3o5_4 := Nq.appY qqr3o2_5 h145.bnd hbqr3o5_1
            have qqr3o5_5 := Nq.appY qqr3o2_6 hB152.fpb hbqr3o5_1
            have qqr3o5_6 := Nq.appX qqr3o2_7 (Nq.nil _) hbqr3o5_1 hB152.bi
            have qqr3o5_7 := Nq.appY qqr3o4_9 hqr3o4_1.fpb hbqr3o5_1
            have qqr3o5_8 := Nq.appX qqr3o4_8 (Nq.nil _) hbqr3o5_1 hqr3o4_1.blt
            have qqr3o5_9 := Zn.appD qqr3o2_8 hbqr3o5_1 hEqr3o5_1
            have qqr3o5_10 := Zn.appB qqr3o2_2 hbqr3o5_1 qqr3o5_1
            replace hB142 := hB142.nq hcqr3o5_1 qqr3o2_3
            replace h145 := h145.nq hcqr3o5_1 qqr3o2_5
            replace hB152 := hB152.nq hcqr3o5_1 qqr3o2_6
            replace hqr3o4_1 := hqr3o4_1.nq hcqr3o5_1 qqr3o4_9
            have hEqr3o5_2 := Ext.then hEqr3o5_1 hcqr3o5_1 (Zn.bl qqr3o2_8)
            refine wpList_nil (e_sq ?_)
            have hStqr3o5_1 : RowKit.Below w230.heap.size wqr3o5_1 wqr3o5_2 := chg_bel hcqr3o5_1 qqr3o5_1.size (Zn.bl qqr3o2_2)
            refine ⟨fun _ => hStqr3o5_1, ?_⟩
            have qqr3o5_11 := RowKit.Below.trans qqr3o5_1 hStqr3o5_1
            refine x_only 8 rfl (by kernel_rfl) ?_; intro wqr3o8_1 hxqr3o8_1
            replace hB142 := hB142.ext hxqr3o8_1
            replace h145 := h145.ext hxqr3o8_1
            replace hB152 := hB152.ext hxqr3o8_1
            replace hqr3o4_1 := hqr3o4_1.ext hxqr3o8_1
            replace hqr3o5_1 := hqr3o5_1.ext hxqr3o8_1
            have hEqr3o8_1 := Ext.trans hEqr3o5_2 hxqr3o8_1
            have qqr3o8_1 := bel_step qqr3o5_11 hxqr3o8_1
            obtain ⟨fpqr3o8_1, hroqr3o8_1, hsqr3o8_1⟩ := hqr3o5_1.roF
            refine o_call ha rfl rfl Tryd.call30 (ih (ha0.ext hEqr3o8_1) hroqr3o8_1 ha2 h145 hI151 hcqr3o8_1) ?_; clear ha a; rintro vqr3o8_1 wqr3o8_2 ⟨uqr3o8_1, uqr3o8_2, fpqr3o8_2, rfl, hqr3o8_1, pvqr3o8_1, ⟨rfl, hIqr3o8_1⟩, hxqr3o8_2⟩ a ha
            have qqr3o8_2 := Nq.rd pvqr3o8_1 (Nq.append (Nq.append (Nq.new ha0.bnd z143) (Nq.mono qqr3o5_3 hsqr3o8_1)) q157) hB142.bi
            have qqr3o8_3 := Nq.rd pvqr3o8_1 (Nq.append (Nq.append (Nq.new ha0.bnd z153) (Nq.mono qqr3o5_6 hsqr3o8_1)) q158) hB152.bi
            have qqr3o8_4 := Nq.rd pvqr3o8_1 (Nq.append (Nq.append (Nq.new ha0.bnd qqr3o4_10) (Nq.mono qqr3o5_8 hsqr3o8_1)) qqr3o4_5) hqr3o4_1.blt
            have qqr3o8_5 := (Pv.call pvqr3o8_1 (Pv.app (Pv.app (Pv.par (fun _ h => List.mem_append_left _ (List.mem_append_left _ h))) (Pv.mono (Pv.own qqr3o5_9 (zf_nil _)) hsqr3o8_1)) (pv149)) hEqr3o8_1.size : Pv (fa0 ++ fa1 ++ fa3_0) W.heap.size fpqr3o8_2)
            replace hB142 := hB142.ext hxqr3o8_2
            replace h145 := h145.ext hxqr3o8_2
            replace hB152 := hB152.ext hxqr3o8_2
            replace hqr3o4_1 := hqr3o4_1.ext hxqr3o8_2
            replace hqr3o5_1 := hqr3o5_1.ext hxqr3o8_2
            have hEqr3o8_2 := Ext.trans hEqr3o8_1 hxqr3o8_2
            refine wpList_nil (e_sq ?_)
            have hStqr3o8_1 : RowKit.Below w230.heap.size wqr3o8_1 wqr3o8_2 := ext_bel qqr3o8_1.size hxqr3o8_2
            refine ⟨fun _ => hStqr3o8_1, ?_⟩
            have qqr3o8_6 := RowKit.Below.trans qqr3o8_1 hStqr3o8_1
            refine x_only 9 rfl (by kernel_rfl) ?_; intro wqr3o9_1 hxqr3o9_1
            replace hB142 := hB142.ext hxqr3o9_1
            replace h145 := h145.ext hxqr3o9_1
            replace hB152 := hB152.ext hxqr3o9_1
            replace hqr3o4_1 := hqr3o4_1.ext hxqr3o9_1
            replace hqr3o5_1 := hqr3o5_1.ext hxqr3o9_1
            replace hqr3o8_1 := hqr3o8_1.ext hxqr3o9_1
            have hEqr3o9_1 := Ext.trans hEqr3o8_2 hxqr3o9_1
            have qqr3o9_1 := bel_step qqr3o8_6 hxqr3o9_1
            refine o_storeA (vs := [uqr3o8_1, (.int .i64 xqr3o8_1.2)]) ha hB142 Tryd.sizeOf43 rfl rfl (by intro c hc; simp only [List.mem_cons, List.not_mem_nil, or_false] at hc; rcases hc with hc | hc <;> subst hc <;> first | rfl | exact hqr3o8_1.oneC | exact rfl) rfl ?_; intro wqr3o9_2 hBqr3o9_1 hcqr3o9_1
            replace hcqr3o9_1 := hcqr3o9_1.bl
            replace hBqr3o9_1 : Bx wqr3o9_2 b1 [uqr3o8_1, (.int .i64 xqr3o8_1.2)] 43 := hBqr3o9_1
            replace h145 := h145.nq hcqr3o9_1 q157
            replace hB152 := hB152.nq hcqr3o9_1 q159
            replace hqr3o4_1 := hqr3o4_1.nq hcqr3o9_1 qqr3o4_4
            replace hqr3o5_1 := hqr3o5_1.nq hcqr3o9_1 qqr3o5_3
            replace hqr3o8_1 := hqr3o8_1.nq hcqr3o9_1 qqr3o8_2
            have hEqr3o9_2 := Ext.then hEqr3o9_1 hcqr3o9_1 (Zn.bl z143)
            refine wpList_nil (e_sq ?_)
            refine ⟨fun h => absurd h (by decide), ?_⟩
            refine x_done (by kernel_rfl) ?_; intro w235 hx236
            replace hBqr3o9_1 := hBqr3o9_1.ext hx236
            replace h145 := h145.ext hx236
            replace hB152 := hB152.ext hx236
            replace hqr3o4_1 := hqr3o4_1.ext hx236
            replace hqr3o5_1 := hqr3o5_1.ext hx236
            replace hqr3o8_1 := hqr3o8_1.ext hx236
            have hE237 := Ext.trans hEqr3o9_2 hx236
            replace ha := ha.sub (σ' := [(0, va0), (1, va1), (2, (.int .i64 a2)), (7, (.pointer (some ⟨b1, 0, none⟩))), (8, (.pointer (some ⟨b9, 0, none⟩))), (10, (.int .i64 i154))]) ⟨rfl, rfl, rfl, rfl, rfl, rfl, trivial⟩; refine e_blk ?_; refine e_then ?_; refine wp_region_lit ?_; refine op_g ha rfl (g_move rfl) ?_; clear ha a; intro a ha; obtain ⟨hI238, hF⟩ := ck_some hF; refine op_g ha rfl (g_add rfl rfl hI238) ?_; clear ha a; intro a ha; refine op_g ha rfl (g_assign rfl) ?_; clear ha a; intro a ha; refine wpList_nil ?_; replace ha := ha.sub (σ' := [(0, va0), (1, va1), (2, (.int .i64 a2)), (7, (.pointer (some ⟨b1, 0, none⟩))), (8, (.pointer (some ⟨b9, 0, none⟩))), (10, (.int .i64 (i154 + 1)))]) ⟨rfl, rfl, rfl, rfl, rfl, rfl, trivial⟩
            refine e_lq ?_; obtain rfl := Option.some.inj hF
            exact ⟨_, Nat.lt_succ_self _, xqr3o8_1.1, xqr3o8_1.2, i154 + 1, uqr3o8_1, fpqr3o8_2, ha.sub ⟨rfl, rfl, rfl, rfl, rfl, rfl, trivial⟩, hE237, hIqr3o8_1, hI238, hBqr3o9_1, z143, hqr3o8_1, (qqr3o8_5), hB152, z153, q156, qqr3o8_2, qqr3o8_3, q159, hN223⟩
          skip
          replace hB142 := hB142.ext hxqr3_1
          replace h145 := h145.ext hxqr3_1
          replace hB152 := hB152.ext hxqr3_1
          have hEqr3o4_1 := Ext.trans hE232 hxqr3_1
          have qqr3o4_1 := bel_step hS234 hxqr3_1
          refine o_lit1 (o := true) (y := i154) Rp.int ha rfl sl31 rfl rfl rfl ⟨rfl, hI155, rfl⟩ ?_; clear ha a; intro vqr3o4_1 wqr3o4_1 hqr3o4_1 hxqr3o4_1 a ha
          obtain ⟨bqr3o4_1, hbqr3o4_1⟩ : ∃ b : Int, b = wqr3_1.heap.size := ⟨_, rfl⟩; rw [← hbqr3o4_1] at hqr3o4_1
          have qqr3o4_2 := zn_of hbqr3o4_1
          have qqr3o4_3 := Nq.new hB142.fpb qqr3o4_2
          have qqr3o4_4 := Nq.madeO qqr3o4_2 hB142.bi
          have qqr3o4_5 := Nq.new h145.bnd qqr3o4_2
          have qqr3o4_6 := Nq.new hB152.fpb qqr3o4_2
          have qqr3o4_7 := Nq.madeO qqr3o4_2 hB152.bi
          have qqr3o4_8 := Zn.upD qqr3o4_2 hEqr3o4_1
          have qqr3o4_9 := Zn.upB qqr3o4_2 qqr3o4_1
          replace hB142 := hB142.ext hxqr3o4_1
          replace h145 := h145.ext hxqr3o4_1
          replace hB152 := hB152.ext hxqr3o4_1
          have hEqr3o4_2 := Ext.trans hEqr3o4_1 hxqr3o4_1
          refine wpList_nil (e_sq ?_)
          have hStqr3o4_1 : RowKit.Below w230.heap.size wqr3_1 wqr3o4_1 := ext_bel qqr3o4_1.size hxqr3o4_1
          refine ⟨fun _ => hStqr3o4_1, ?_⟩
          have qqr3o4_10 := RowKit.Below.trans qqr3o4_1 hStqr3o4_1
          refine x_only 2 rfl (by kernel_rfl) ?_; intro wqr3o2_1 hxqr3o2_1
          replace hB142 := hB142.ext hxqr3o2_1
          replace h145 := h145.ext hxqr3o2_1
          replace hB152 := hB152.ext hxqr3o2_1
          replace hqr3o4_1 := hqr3o4_1.ext hxqr3o2_1
          have hEqr3o2_1 := Ext.trans hEqr3o4_2 hxqr3o2_1
          have qqr3o2_1 := bel_step qqr3o4_10 hxqr3o2_1
          refine o_call ha rfl rfl Tryd.call43 (W_spec_l1Copy (ha1.ext hEqr3o2_1) hcqr3o2_1) ?_; clear ha a; rintro vqr3o2_1 wqr3o2_2 ⟨bqr3o2_1, hqr3o2_1, zqr3o2_1, hxqr3o2_2⟩ a ha
          have qqr3o2_2 := Zn.upB zqr3o2_1 qqr3o2_1
          have qqr3o2_3 := Nq.new hB142.fpb zqr3o2_1
          have qqr3o2_4 := Nq.madeO zqr3o2_1 hB142.bi
          have qqr3o2_5 := Nq.new h145.bnd zqr3o2_1
          have qqr3o2_6 := Nq.new hB152.fpb zqr3o2_1
          have qqr3o2_7 := Nq.madeO zqr3o2_1 hB152.bi
          have qqr3o2_8 := Nq.new hqr3o4_1.fpb zqr3o2_1
          have qqr3o2_9 := Nq.madeO zqr3o2_1 hqr3o4_1.blt
          replace hB142 := hB142.ext hxqr3o2_2
          replace h145 := h145.ext hxqr3o2_2
          replace hB152 := hB152.ext hxqr3o2_2
          replace hqr3o4_1 := hqr3o4_1.ext hxqr3o2_2
          have hEqr3o2_2 := Ext.trans hEqr3o2_1 hxqr3o2_2
          have qqr3o2_10 := Zn.upD zqr3o2_1 hEqr3o2_1
          refine wpList_nil (e_sq ?_)
          have hStqr3o2_1 : RowKit.Below w230.heap.size wqr3o2_1 wqr3o2_2 := ext_bel qqr3o2_1.size hxqr3o2_2
          refine ⟨fun _ => hStqr3o2_1, ?_⟩
          have qqr3o2_11 := RowKit.Below.trans qqr3o2_1 hStqr3o2_1
          refine x_only 5 rfl (by kernel_rfl) ?_; intro wqr3o5_1 hxqr3o5_1
          replace hB142 := hB142.ext hxqr3o5_1
          replace h145 := h145.ext hxqr3o5_1
          replace hB152 := hB152.ext hxqr3o5_1
          replace hqr3o4_1 := hqr3o4_1.ext hxqr3o5_1
          replace hqr3o2_1 := hqr3o2_1.ext hxqr3o5_1
          have hEqr3o5_1 := Ext.trans hEqr3o2_2 hxqr3o5_1
          have qqr3o5_1 := bel_step qqr3o2_11 hxqr3o5_1
          refine o_append ha rfl sl31 rfl rfl rfl hqr3o2_1 hqr3o4_1.src (Nq.nil _) hlqr3o5_1 ?_; clear ha a; intro vqr3o5_1 wqr3o5_2 bqr3o5_1 hqr3o5_1 hcqr3o5_1 hbqr3o5_1 a ha
          replace hqr3o5_1 : Ow Rp.int 2 true wqr3o5_2 [] bqr3o5_1 vqr3o5_1 _ := hqr3o5_1
          have qqr3o5_2 := Nq.appY qqr3o2_3 hB142.fpb hbqr3o5_1
          have qqr3o5_3 := Nq.appX qqr3o2_4 (Nq.nil _) hbqr3o5_1 hB142.bi
          have qqr3o5_4 := Nq.appY qqr3o2_5 h145.bnd hbqr3o5_1
          have qqr3o5_5 := Nq.appY qqr3o2_6 hB152.fpb hbqr3o5_1
          have qqr3o5_6 := Nq.appX qqr3o2_7 (Nq.nil _) hbqr3o5_1 hB152.bi
          have qqr3o5_7 := Nq.appY qqr3o2_8 hqr3o4_1.fpb hbqr3o5_1
          have qqr3o5_8 := Nq.appX qqr3o2_9 (Nq.nil _) hbqr3o5_1 hqr3o4_1.blt
          have qqr3o5_9 := Zn.appD qqr3o2_10 hbqr3o5_1 hEqr3o5_1
          have qqr3o5_10 := Zn.appB qqr3o2_2 hbqr3o5_1 qqr3o5_1
          replace hB142 := hB142.nq hcqr3o5_1 qqr3o2_3
          replace h145 := h145.nq hcqr3o5_1 qqr3o2_5
          replace hB152 := hB152.nq hcqr3o5_1 qqr3o2_6
          replace hqr3o4_1 := hqr3o4_1.nq hcqr3o5_1 qqr3o2_8
          have hEqr3o5_2 := Ext.then hEqr3o5_1 hcqr3o5_1 (Zn.bl qqr3o2_10)
          refine wpList_nil (e_sq ?_)
          have hStqr3o5_1 : RowKit.Below w230.heap.size wqr3o5_1 wqr3o5_2 := chg_bel hcqr3o5_1 qqr3o5_1.size (Zn.bl qqr3o2_2)
          refine ⟨fun _ => hStqr3o5_1, ?_⟩
          have qqr3o5_11 := RowKit.Below.trans qqr3o5_1 hStqr3o5_1
          refine x_only 8 rfl (by kernel_rfl) ?_; intro wqr3o8_1 hxqr3o8_1
          replace hB142 := hB142.ext hxqr3o8_1
          replace h145 := h145.ext hxqr3o8_1
          replace hB152 := hB152.ext hxqr3o8_1
          replace hqr3o4_1 := hqr3o4_1.ext hxqr3o8_1
          replace hqr3o5_1 := hqr3o5_1.ext hxqr3o8_1
          have hEqr3o8_1 := Ext.trans hEqr3o5_2 hxqr3o8_1
          have qqr3o8_1 := bel_step qqr3o5_11 hxqr3o8_1
          obtain ⟨fpqr3o8_1, hroqr3o8_1, hsqr3o8_1⟩ := hqr3o5_1.roF
          refine o_call ha rfl rfl Tryd.call30 (ih (ha0.ext hEqr3o8_1) hroqr3o8_1 ha2 h145 hI151 hcqr3o8_1) ?_; clear ha a; rintro vqr3o8_1 wqr3o8_2 ⟨uqr3o8_1, uqr3o8_2, fpqr3o8_2, rfl, hqr3o8_1, pvqr3o8_1, ⟨rfl, hIqr3o8_1⟩, hxqr3o8_2⟩ a ha
          have qqr3o8_2 := Nq.rd pvqr3o8_1 (Nq.append (Nq.append (Nq.new ha0.bnd z143) (Nq.mono qqr3o5_3 hsqr3o8_1)) q157) hB142.bi
          have qqr3o8_3 := Nq.rd pvqr3o8_1 (Nq.append (Nq.append (Nq.new ha0.bnd z153) (Nq.mono qqr3o5_6 hsqr3o8_1)) q158) hB152.bi
          have qqr3o8_4 := Nq.rd pvqr3o8_1 (Nq.append (Nq.append (Nq.new ha0.bnd qqr3o4_8) (Nq.mono qqr3o5_8 hsqr3o8_1)) qqr3o4_5) hqr3o4_1.blt
          have qqr3o8_5 := (Pv.call pvqr3o8_1 (Pv.app (Pv.app (Pv.par (fun _ h => List.mem_append_left _ (List.mem_append_left _ h))) (Pv.mono (Pv.own qqr3o5_9 (zf_nil _)) hsqr3o8_1)) (pv149)) hEqr3o8_1.size : Pv (fa0 ++ fa1 ++ fa3_0) W.heap.size fpqr3o8_2)
          replace hB142 := hB142.ext hxqr3o8_2
          replace h145 := h145.ext hxqr3o8_2
          replace hB152 := hB152.ext hxqr3o8_2
          replace hqr3o4_1 := hqr3o4_1.ext hxqr3o8_2
          replace hqr3o5_1 := hqr3o5_1.ext hxqr3o8_2
          have hEqr3o8_2 := Ext.trans hEqr3o8_1 hxqr3o8_2
          refine wpList_nil (e_sq ?_)
          have hStqr3o8_1 : RowKit.Below w230.heap.size wqr3o8_1 wqr3o8_2 := ext_bel qqr3o8_1.size hxqr3o8_2
          refine ⟨fun _ => hStqr3o8_1, ?_⟩
          have qqr3o8_6 := RowKit.Below.trans qqr3o8_1 hStqr3o8_1
          refine x_only 9 rfl (by kernel_rfl) ?_; intro wqr3o9_1 hxqr3o9_1
          replace hB142 := hB142.ext hxqr3o9_1
          replace h145 := h145.ext hxqr3o9_1
          replace hB152 := hB152.ext hxqr3o9_1
          replace hqr3o4_1 := hqr3o4_1.ext hxqr3o9_1
          replace hqr3o5_1 := hqr3o5_1.ext hxqr3o9_1
          replace hqr3o8_1 := hqr3o8_1.ext hxqr3o9_1
          have hEqr3o9_1 := Ext.trans hEqr3o8_2 hxqr3o9_1
          have qqr3o9_1 := bel_step qqr3o8_6 hxqr3o9_1
          refine o_storeA (vs := [uqr3o8_1, (.int .i64 xqr3o8_1.2)]) ha hB142 Tryd.sizeOf43 rfl rfl (by intro c hc; simp only [List.mem_cons, List.not_mem_nil, or_false] at hc; rcases hc with hc | hc <;> subst hc <;> first | rfl | exact hqr3o8_1.oneC | exact rfl) rfl ?_; intro wqr3o9_2 hBqr3o9_1 hcqr3o9_1
          replace hcqr3o9_1 := hcqr3o9_1.bl
          replace hBqr3o9_1 : Bx wqr3o9_2 b1 [uqr3o8_1, (.int .i64 xqr3o8_1.2)] 43 := hBqr3o9_1
          replace h145 := h145.nq hcqr3o9_1 q157
          replace hB152 := hB152.nq hcqr3o9_1 q159
          replace hqr3o4_1 := hqr3o4_1.nq hcqr3o9_1 qqr3o4_4
          replace hqr3o5_1 := hqr3o5_1.nq hcqr3o9_1 qqr3o5_3
          replace hqr3o8_1 := hqr3o8_1.nq hcqr3o9_1 qqr3o8_2
          have hEqr3o9_2 := Ext.then hEqr3o9_1 hcqr3o9_1 (Zn.bl z143)
          refine wpList_nil (e_sq ?_)
          refine ⟨fun h => absurd h (by decide), ?_⟩
          refine x_done (by kernel_rfl) ?_; intro w235 hx236
          replace hBqr3o9_1 := hBqr3o9_1.ext hx236
          replace h145 := h145.ext hx236
          replace hB152 := hB152.ext hx236
          replace hqr3o4_1 := hqr3o4_1.ext hx236
          replace hqr3o5_1 := hqr3o5_1.ext hx236
          replace hqr3o8_1 := hqr3o8_1.ext hx236
          have hE237 := Ext.trans hEqr3o9_2 hx236
          replace ha := ha.sub (σ' := [(0, va0), (1, va1), (2, (.int .i64 a2)), (7, (.pointer (some ⟨b1, 0, none⟩))), (8, (.pointer (some ⟨b9, 0, none⟩))), (10, (.int .i64 i154))]) ⟨rfl, rfl, rfl, rfl, rfl, rfl, trivial⟩; refine e_blk ?_; refine e_then ?_; refine wp_region_lit ?_; refine op_g ha rfl (g_move rfl) ?_; clear ha a; intro a ha; obtain ⟨hI238, hF⟩ := ck_some hF; refine op_g ha rfl (g_add rfl rfl hI238) ?_; clear ha a; intro a ha; refine op_g ha rfl (g_assign rfl) ?_; clear ha a; intro a ha; refine wpList_nil ?_; replace ha := ha.sub (σ' := [(0, va0), (1, va1), (2, (.int .i64 a2)), (7, (.pointer (some ⟨b1, 0, none⟩))), (8, (.pointer (some ⟨b9, 0, none⟩))), (10, (.int .i64 (i154 + 1)))]) ⟨rfl, rfl, rfl, rfl, rfl, rfl, trivial⟩
          refine e_lq ?_; obtain rfl := Option.some.inj hF
          exact ⟨_, Nat.lt_succ_self _, xqr3o8_1.1, xqr3o8_1.2, i154 + 1, uqr3o8_1, fpqr3o8_2, ha.sub ⟨rfl, rfl, rfl, rfl, rfl, rfl, trivial⟩, hE237, hIqr3o8_1, hI238, hBqr3o9_1, z143, hqr3o8_1, (qqr3o8_5), hB152, z153, q156, qqr3o8_2, qqr3o8_3, q159, hN223⟩
        replace hF := if_f hp233 hF; refine wp_skip ?_; refine e_blk ?_; refine e_then ?_; refine wp_region_lit ?_; refine op_g ha rfl (g_move rfl) ?_; clear ha a; intro a ha; obtain ⟨hI240, hF⟩ := ck_some hF; refine op_g ha rfl (g_add rfl rfl hI240) ?_; clear ha a; intro a ha; refine op_g ha rfl (g_assign rfl) ?_; clear ha a; intro a ha; refine wpList_nil ?_; replace ha := ha.sub (σ' := [(0, va0), (1, va1), (2, (.int .i64 a2)), (7, (.pointer (some ⟨b1, 0, none⟩))), (8, (.pointer (some ⟨b9, 0, none⟩))), (10, (.int .i64 (i154 + 1)))]) ⟨rfl, rfl, rfl, rfl, rfl, rfl, trivial⟩; refine e_lq ?_; obtain rfl := Option.some.inj hF
        exact ⟨_, Nat.lt_succ_self _, l146, i150, i154 + 1, v147, f148, ha.sub ⟨rfl, rfl, rfl, rfl, rfl, rfl, trivial⟩, hE232, hI151, hI240, hB142, z143, h145, (pv149), hB152, z153, q156, q157, q158, q159, hN223⟩
      replace hF := if_f hp226 hF; refine wp_exit ?_; refine e_then_exit ?_; refine e_lq_eq ?_; obtain rfl := Option.some.inj hF
      exact ⟨l146, i150, v147, f148, ha.sub ⟨rfl, rfl, trivial⟩, hE160, hI151, hB142, z143, h145, (pv149), hB152, z153, q156, q157, q158, q159, (LK_inr hN223).symm⟩
  rintro a w196 ⟨l201, i205, v202, f203, ha, hE222, hI206, hB197, z198, h200, pv204, hB207, z208, q209, q210, q211, q212, rfl⟩
  have hF : F_spec_l24Rings_k2 l201 i205 = some _ := hK215; clear hK215; unfold F_spec_l24Rings_k2 at hF
  refine e_then ?_; refine wp_seq ?_; refine wp_region_lit ?_; refine op_g ha rfl (g_loadA (cs := [v202, (.int .i64 i205)]) Tryd.isAgg43 Tryd.sizeOf43 rfl (by simp) hB197.all) ?_; clear ha a; intro a ha
  refine o_storeA (vs := [v202, (.int .i64 i205)]) ha hB207 Tryd.sizeOf43 rfl rfl (by intro c hc; simp only [List.mem_cons, List.not_mem_nil, or_false] at hc; rcases hc with hc | hc <;> subst hc <;> first | rfl | exact h200.oneC | exact rfl) rfl ?_; intro w242 hB243 hc244
  replace hc244 := hc244.bl
  replace hB243 : Bx w242 b9 [v202, (.int .i64 i205)] 43 := hB243
  replace hB197 := hB197.nq hc244 q209
  replace h200 := h200.nq hc244 q211
  have hE245 := Ext.then hE222 hc244 (Zn.bl z208)
  refine wpList_nil ?_; replace ha := ha.sub (σ' := [(8, (.pointer (some ⟨b9, 0, none⟩)))]) ⟨rfl, trivial⟩; refine e_then ?_; refine wp_ret ?_; obtain rfl := Option.some.inj hF
  exact f_retC (cs := [v202, (.int .i64 i205)]) ha rfl rfl Tryd.isAgg43 Tryd.sizeOf43 hB243 ⟨_, _, _, rfl, h200, (pv204), ⟨rfl, hI206⟩, hE245⟩
theorem W_spec_l24Rings_n (n : Nat) : ∀ {W : World} {va0 : Value} {fa0 : List Nat} {a0 : (List (List Int))} (ha0 : Ro (Rp.sl 2 Rp.int) W fa0 va0 a0) {va1 : Value} {fa1 : List Nat} {a1 : (List Int)} (ha1 : Ro Rp.int W fa1 va1 a1) {a2 : Int} (ha2 : InI a2) {va3_0 : Value} {fa3_0 : List Nat} {a3_0 : (List Int)} (ha3_0 : Ro Rp.int W fa3_0 va3_0 a3_0) {a3_1 : Int} (ha3_1 : InI a3_1) {r : ((List Int) × Int)} (hF : itN (fun (rc : ((List (List Int)) × (List Int) × Int × (List Int) × Int) → Option ((List Int) × Int)) a => F_spec_l24Rings_body (fun z0 z1 z2 z3 z4 => rc (z0, z1, z2, z3, z4)) a.1 a.2.1 a.2.2.1 a.2.2.2.1 a.2.2.2.2) n (a0, a1, a2, a3_0, a3_1) = some r),
    Calls Tryd.prog 30 [va0, va1, .int .i64 a2, .agg #[va3_0, .int .i64 a3_1]].toArray W (Ret fun u w' => ∃ (u_0 : Value) (u_1 : Value) (fp_u_0 : List Nat), u = .agg #[u_0, u_1] ∧ Ro Rp.int w' fp_u_0 u_0 r.1 ∧ Pv (fa0 ++ fa1 ++ fa3_0) W.heap.size fp_u_0 ∧ (u_1 = .int .i64 r.2 ∧ InI r.2) ∧ Ext W w') := by
  induction n with
  | zero => intro W va0 fa0 a0 ha0 va1 fa1 a1 ha1 a2 ha2 va3_0 fa3_0 a3_0 ha3_0 a3_1 ha3_1 r hF; cases hF
  | succ n ih => intro W va0 fa0 a0 ha0 va1 fa1 a1 ha1 a2 ha2 va3_0 fa3_0 a3_0 ha3_0 a3_1 ha3_1 r hF; exact W_spec_l24Rings_step (rc := fun z0 z1 z2 z3 z4 => itN (fun (rc : ((List (List Int)) × (List Int) × Int × (List Int) × Int) → Option ((List Int) × Int)) a => F_spec_l24Rings_body (fun z0 z1 z2 z3 z4 => rc (z0, z1, z2, z3, z4)) a.1 a.2.1 a.2.2.1 a.2.2.2.1 a.2.2.2.2) n (z0, z1, z2, z3, z4)) @ih ha0 ha1 ha2 ha3_0 ha3_1 hF
theorem W_spec_l24Rings {W : World} {va0 : Value} {fa0 : List Nat} {a0 : (List (List Int))} (ha0 : Ro (Rp.sl 2 Rp.int) W fa0 va0 a0) {va1 : Value} {fa1 : List Nat} {a1 : (List Int)} (ha1 : Ro Rp.int W fa1 va1 a1) {a2 : Int} (ha2 : InI a2) {va3_0 : Value} {fa3_0 : List Nat} {a3_0 : (List Int)} (ha3_0 : Ro Rp.int W fa3_0 va3_0 a3_0) {a3_1 : Int} (ha3_1 : InI a3_1) {r : ((List Int) × Int)} (hF : F_spec_l24Rings a0 a1 a2 a3_0 a3_1 = some r) :
    Calls Tryd.prog 30 [va0, va1, .int .i64 a2, .agg #[va3_0, .int .i64 a3_1]].toArray W (Ret fun u w' => ∃ (u_0 : Value) (u_1 : Value) (fp_u_0 : List Nat), u = .agg #[u_0, u_1] ∧ Ro Rp.int w' fp_u_0 u_0 r.1 ∧ Pv (fa0 ++ fa1 ++ fa3_0) W.heap.size fp_u_0 ∧ (u_1 = .int .i64 r.2 ∧ InI r.2) ∧ Ext W w') := by
  obtain ⟨n, hn⟩ := fixO_some hF
  exact W_spec_l24Rings_n n ha0 ha1 ha2 ha3_0 ha3_1 hn
set_option maxHeartbeats 2000000 in
theorem W_spec_l24Least {W : World} {va0_0 : Value} {fa0_0 : List Nat} {a0_0 : (List (List Int))} (ha0_0 : Ro (Rp.sl 2 Rp.int) W fa0_0 va0_0 a0_0) {r : ((List Int) × Int)} (hF : F_spec_l24Least a0_0 = some r) :
    Calls Tryd.prog 23 [.agg #[va0_0]].toArray W (Ret fun u w' => ∃ (u_0 : Value) (u_1 : Value) (fp_u_0 : List Nat), u = .agg #[u_0, u_1] ∧ Ro Rp.int w' fp_u_0 u_0 r.1 ∧ Pv (fa0_0) W.heap.size fp_u_0 ∧ (u_1 = .int .i64 r.2 ∧ InI r.2) ∧ Ext W w') := by
  refine f_enter Tryd.func23 rfl Tryd.ntmps23 rfl ?_
  intro a ha
  replace ha : Fr 10 [(0, (.agg #[va0_0]))] a := ha
  have hE : Chg [] W W := Chg.refl _ _
  unfold F_spec_l24Least at hF
  refine wp_seq ?_; refine wp_region_lit ?_
  refine o_box ha rfl rfl rfl ?_; clear ha a; intro b1 w2 hB3 hx4 hlo5 a ha
  have q6 := Zn.one hlo5
  have q7 := Zn.upD q6 hE
  have hE8 := Ext.trans hE hx4
  refine o_alloc (cs := [(.slice none 0 0), (.int .i64 0)]) ha rfl Tryd.zeroValue43 rfl ?_; clear ha a; intro b9 w10 hB11 hx12 hlo13 a ha
  have q14 := Zn.one hlo13
  have q15 := Nq.new hB3.fpb q14
  have q16 := Nq.made1 hlo13 hB3.bi
  have q17 := Zn.upD q14 hE8
  replace hB3 := hB3.ext hx12
  have hE18 := Ext.trans hE8 hx12
  refine wpList_nil ?_; replace ha := ha.sub (σ' := [(1, (.pointer (some ⟨b1, 0, none⟩))), (2, (.pointer (some ⟨b9, 0, none⟩)))]) ⟨rfl, rfl, trivial⟩; refine e_then ?_; refine wp_seq ?_; refine d_region [0, 1, 2, 3, 4, 5, 6] hmix ?_; refine u_g 0 rfl (by kernel_rfl) (want0 _) ha rfl (g_loadA (cs := [va0_0]) Tryd.isAgg27 Tryd.sizeOf27 rfl (by simp) hB3.all) ?_; clear ha a; intro a ha; refine u_g 3 rfl (by kernel_rfl) (want0 _) ha rfl (g_loadA (cs := [va0_0]) Tryd.isAgg27 Tryd.sizeOf27 rfl (by simp) hB3.all) ?_; clear ha a; intro a ha; refine u_g 5 rfl (by kernel_rfl) (want0 _) ha rfl (g_build (vs := [(1, (.int .i64 (-1)))]) (cells := #[(.slice none 0 0), (.int .i64 (-1))]) rfl (by rfl)) ?_; clear ha a; intro a ha
  obtain ⟨xqr1o1_1, hcqr1o1_1, hF⟩ := cal_some hF; obtain ⟨xqr1o4_1, hcqr1o4_1, hF⟩ := cal_some hF; obtain ⟨xqr1o6_1, hcqr1o6_1, hF⟩ := cal_some hF; refine u_many [1, 2] (by kernel_rfl) rfl fun wqr1_1 hxqr1_1 => ⟨⟨_, rfl, ?_⟩, ⟨_, rfl, ?_⟩, trivial⟩
  · skip
    replace hB3 := hB3.ext hxqr1_1
    replace hB11 := hB11.ext hxqr1_1
    have hEqr1o1_1 := Ext.trans hE18 hxqr1_1
    refine o_call ha rfl rfl Tryd.call31 (W_spec_l1Edges (ha0_0.ext hEqr1o1_1) hcqr1o1_1) ?_; clear ha a; rintro vqr1o1_1 wqr1o1_1 ⟨bqr1o1_1, fsqr1o1_1, hqr1o1_1, zqr1o1_1, zfqr1o1_1, ndqr1o1_1, hxqr1o1_1⟩ a ha
    have qqr1o1_1 := Nq.new hB3.fpb zqr1o1_1
    have qqr1o1_2 := Nq.madeF zqr1o1_1 zfqr1o1_1 hB3.bi
    have qqr1o1_3 := Nq.new hB11.fpb zqr1o1_1
    have qqr1o1_4 := Nq.madeF zqr1o1_1 zfqr1o1_1 hB11.bi
    have qqr1o1_5 := Nf.new hB3.fpb zfqr1o1_1
    have qqr1o1_6 := Nf.new hB11.fpb zfqr1o1_1
    replace hB3 := hB3.ext hxqr1o1_1
    replace hB11 := hB11.ext hxqr1o1_1
    have hEqr1o1_2 := Ext.trans hEqr1o1_1 hxqr1o1_1
    have qqr1o1_7 := Zn.upD zqr1o1_1 hEqr1o1_1
    have qqr1o1_8 := zf_up zfqr1o1_1 hEqr1o1_1
    refine wpList_nil (e_sq ?_)
    refine ⟨fun _ => hxqr1o1_1, ?_⟩
    refine u_call (.int .i64 xqr1o4_1) 4 rfl (by kernel_rfl) (want0 _) ha rfl rfl Tryd.call32 (fun wqr1o4_1 hxqr1o4_1 => W_spec_l1Size (ha0_0.ext (Ext.trans hEqr1o1_2 hxqr1o4_1)) hcqr1o4_1) (fun _ _ _ h => ⟨h.1.1, h.2⟩) ?_; clear ha a; intro a ha
    have hIqr1o4_1 : InI xqr1o4_1 := calls_fact (w := wqr1o1_1) (W_spec_l1Size (ha0_0.ext (Ext.trans hEqr1o1_2 (Chg.refl _ _))) hcqr1o4_1) (fun _ _ h => h.1.2)
    refine u_only 2 rfl (by kernel_rfl) ?_; intro wqr1o2_1 hxqr1o2_1
    replace hB3 := hB3.ext hxqr1o2_1
    replace hB11 := hB11.ext hxqr1o2_1
    replace hqr1o1_1 := hqr1o1_1.ext hxqr1o2_1
    have hEqr1o2_1 := Ext.trans hEqr1o1_2 hxqr1o2_1
    refine o_lit1 (o := true) (y := 0) Rp.int ha rfl sl31 rfl rfl rfl ⟨rfl, (show InI 0 from by decide), rfl⟩ ?_; clear ha a; intro vqr1o2_1 wqr1o2_2 hqr1o2_1 hxqr1o2_2 a ha
    obtain ⟨bqr1o2_1, hbqr1o2_1⟩ : ∃ b : Int, b = wqr1o2_1.heap.size := ⟨_, rfl⟩; rw [← hbqr1o2_1] at hqr1o2_1
    have qqr1o2_1 := zn_of hbqr1o2_1
    have qqr1o2_2 := Nq.new hB3.fpb qqr1o2_1
    have qqr1o2_3 := Nq.madeO qqr1o2_1 hB3.bi
    have qqr1o2_4 := Nq.new hB11.fpb qqr1o2_1
    have qqr1o2_5 := Nq.madeO qqr1o2_1 hB11.bi
    have qqr1o2_6 := Nq.new hqr1o1_1.fpb qqr1o2_1
    have qqr1o2_7 := Nq.madeO qqr1o2_1 hqr1o1_1.blt
    have qqr1o2_8 := Nf.old qqr1o2_1 (zf_nil _) hqr1o1_1.bnd
    have qqr1o2_9 := Zn.upD qqr1o2_1 hEqr1o2_1
    replace hB3 := hB3.ext hxqr1o2_2
    replace hB11 := hB11.ext hxqr1o2_2
    replace hqr1o1_1 := hqr1o1_1.ext hxqr1o2_2
    have hEqr1o2_2 := Ext.trans hEqr1o2_1 hxqr1o2_2
    refine wpList_nil (e_sq ?_)
    refine ⟨fun _ => hxqr1o2_2, ?_⟩
    refine u_only 6 rfl (by kernel_rfl) ?_; intro wqr1o6_1 hxqr1o6_1
    replace hB3 := hB3.ext hxqr1o6_1
    replace hB11 := hB11.ext hxqr1o6_1
    replace hqr1o1_1 := hqr1o1_1.ext hxqr1o6_1
    replace hqr1o2_1 := hqr1o2_1.ext hxqr1o6_1
    have hEqr1o6_1 := Ext.trans hEqr1o2_2 hxqr1o6_1
    obtain ⟨fpqr1o6_1, hroqr1o6_1, hsqr1o6_1⟩ := hqr1o1_1.roF
    obtain ⟨fpqr1o6_2, hroqr1o6_2, hsqr1o6_2⟩ := hqr1o2_1.roF
    refine o_call ha rfl rfl Tryd.call30 (W_spec_l24Rings hroqr1o6_1 hroqr1o6_2 hIqr1o4_1 (Ro.nil _) (show InI (-1) from by decide) hcqr1o6_1) ?_; clear ha a; rintro vqr1o6_1 wqr1o6_2 ⟨uqr1o6_1, uqr1o6_2, fpqr1o6_3, rfl, hqr1o6_1, pvqr1o6_1, ⟨rfl, hIqr1o6_1⟩, hxqr1o6_2⟩ a ha
    have qqr1o6_1 := Nq.rd pvqr1o6_1 (Nq.append (Nq.append (Nq.mono qqr1o1_2 hsqr1o6_1) (Nq.mono qqr1o2_3 hsqr1o6_2)) (Nq.nil _)) hB3.bi
    have qqr1o6_2 := Nq.rd pvqr1o6_1 (Nq.append (Nq.append (Nq.mono qqr1o1_4 hsqr1o6_1) (Nq.mono qqr1o2_5 hsqr1o6_2)) (Nq.nil _)) hB11.bi
    have qqr1o6_3 := (Pv.call pvqr1o6_1 (Pv.app (Pv.app (Pv.mono (Pv.own qqr1o1_7 qqr1o1_8) hsqr1o6_1) (Pv.mono (Pv.own qqr1o2_9 (zf_nil _)) hsqr1o6_2)) (Pv.nil)) hEqr1o6_1.size : Pv (fa0_0) W.heap.size fpqr1o6_3)
    replace hB3 := hB3.ext hxqr1o6_2
    replace hB11 := hB11.ext hxqr1o6_2
    replace hqr1o1_1 := hqr1o1_1.ext hxqr1o6_2
    replace hqr1o2_1 := hqr1o2_1.ext hxqr1o6_2
    have hEqr1o6_2 := Ext.trans hEqr1o6_1 hxqr1o6_2
    refine wpList_nil (e_sq ?_)
    refine ⟨fun _ => hxqr1o6_2, ?_⟩
    refine u_only 7 rfl (by kernel_rfl) ?_; intro wqr1o7_1 hxqr1o7_1
    replace hB3 := hB3.ext hxqr1o7_1
    replace hB11 := hB11.ext hxqr1o7_1
    replace hqr1o1_1 := hqr1o1_1.ext hxqr1o7_1
    replace hqr1o2_1 := hqr1o2_1.ext hxqr1o7_1
    replace hqr1o6_1 := hqr1o6_1.ext hxqr1o7_1
    have hEqr1o7_1 := Ext.trans hEqr1o6_2 hxqr1o7_1
    refine o_storeA (vs := [uqr1o6_1, (.int .i64 xqr1o6_1.2)]) ha hB11 Tryd.sizeOf43 rfl rfl (by intro c hc; simp only [List.mem_cons, List.not_mem_nil, or_false] at hc; rcases hc with hc | hc <;> subst hc <;> first | rfl | exact hqr1o6_1.oneC | exact rfl) rfl ?_; intro wqr1o7_2 hBqr1o7_1 hcqr1o7_1
    replace hcqr1o7_1 := hcqr1o7_1.bl
    replace hBqr1o7_1 : Bx wqr1o7_2 b9 [uqr1o6_1, (.int .i64 xqr1o6_1.2)] 43 := hBqr1o7_1
    replace hB3 := hB3.nq hcqr1o7_1 q15
    replace hqr1o1_1 := hqr1o1_1.nq hcqr1o7_1 qqr1o1_4
    replace hqr1o2_1 := hqr1o2_1.nq hcqr1o7_1 qqr1o2_5
    replace hqr1o6_1 := hqr1o6_1.nq hcqr1o7_1 qqr1o6_2
    have hEqr1o7_2 := Ext.then hEqr1o7_1 hcqr1o7_1 (Zn.bl q17)
    refine wpList_nil (e_sq ?_)
    refine ⟨fun h => absurd h (by decide), ?_⟩
    refine u_done (by kernel_rfl) ?_; intro w19 hx20
    replace hB3 := hB3.ext hx20
    replace hBqr1o7_1 := hBqr1o7_1.ext hx20
    replace hqr1o1_1 := hqr1o1_1.ext hx20
    replace hqr1o2_1 := hqr1o2_1.ext hx20
    replace hqr1o6_1 := hqr1o6_1.ext hx20
    have hE21 := Ext.trans hEqr1o7_2 hx20
    replace ha := ha.sub (σ' := [(2, (.pointer (some ⟨b9, 0, none⟩)))]) ⟨rfl, trivial⟩; refine e_then ?_; refine wp_ret ?_; obtain rfl := Option.some.inj hF
    exact f_retC (cs := [uqr1o6_1, (.int .i64 xqr1o6_1.2)]) ha rfl rfl Tryd.isAgg43 Tryd.sizeOf43 hBqr1o7_1 ⟨_, _, _, rfl, hqr1o6_1, (qqr1o6_3), ⟨rfl, hIqr1o6_1⟩, hE21⟩
  skip
  replace hB3 := hB3.ext hxqr1_1
  replace hB11 := hB11.ext hxqr1_1
  have hEqr1o2_1 := Ext.trans hE18 hxqr1_1
  refine o_lit1 (o := true) (y := 0) Rp.int ha rfl sl31 rfl rfl rfl ⟨rfl, (show InI 0 from by decide), rfl⟩ ?_; clear ha a; intro vqr1o2_1 wqr1o2_1 hqr1o2_1 hxqr1o2_1 a ha
  obtain ⟨bqr1o2_1, hbqr1o2_1⟩ : ∃ b : Int, b = wqr1_1.heap.size := ⟨_, rfl⟩; rw [← hbqr1o2_1] at hqr1o2_1
  have qqr1o2_1 := zn_of hbqr1o2_1
  have qqr1o2_2 := Nq.new hB3.fpb qqr1o2_1
  have qqr1o2_3 := Nq.madeO qqr1o2_1 hB3.bi
  have qqr1o2_4 := Nq.new hB11.fpb qqr1o2_1
  have qqr1o2_5 := Nq.madeO qqr1o2_1 hB11.bi
  have qqr1o2_6 := Zn.upD qqr1o2_1 hEqr1o2_1
  replace hB3 := hB3.ext hxqr1o2_1
  replace hB11 := hB11.ext hxqr1o2_1
  have hEqr1o2_2 := Ext.trans hEqr1o2_1 hxqr1o2_1
  refine wpList_nil (e_sq ?_)
  refine ⟨fun _ => hxqr1o2_1, ?_⟩
  refine u_only 1 rfl (by kernel_rfl) ?_; intro wqr1o1_1 hxqr1o1_1
  replace hB3 := hB3.ext hxqr1o1_1
  replace hB11 := hB11.ext hxqr1o1_1
  replace hqr1o2_1 := hqr1o2_1.ext hxqr1o1_1
  have hEqr1o1_1 := Ext.trans hEqr1o2_2 hxqr1o1_1
  refine o_call ha rfl rfl Tryd.call31 (W_spec_l1Edges (ha0_0.ext hEqr1o1_1) hcqr1o1_1) ?_; clear ha a; rintro vqr1o1_1 wqr1o1_2 ⟨bqr1o1_1, fsqr1o1_1, hqr1o1_1, zqr1o1_1, zfqr1o1_1, ndqr1o1_1, hxqr1o1_2⟩ a ha
  have qqr1o1_1 := Nq.new hB3.fpb zqr1o1_1
  have qqr1o1_2 := Nq.madeF zqr1o1_1 zfqr1o1_1 hB3.bi
  have qqr1o1_3 := Nq.new hB11.fpb zqr1o1_1
  have qqr1o1_4 := Nq.madeF zqr1o1_1 zfqr1o1_1 hB11.bi
  have qqr1o1_5 := Nq.new hqr1o2_1.fpb zqr1o1_1
  have qqr1o1_6 := Nq.madeF zqr1o1_1 zfqr1o1_1 hqr1o2_1.blt
  have qqr1o1_7 := Nf.new hB3.fpb zfqr1o1_1
  have qqr1o1_8 := Nf.new hB11.fpb zfqr1o1_1
  have qqr1o1_9 := Nf.new hqr1o2_1.fpb zfqr1o1_1
  replace hB3 := hB3.ext hxqr1o1_2
  replace hB11 := hB11.ext hxqr1o1_2
  replace hqr1o2_1 := hqr1o2_1.ext hxqr1o1_2
  have hEqr1o1_2 := Ext.trans hEqr1o1_1 hxqr1o1_2
  have qqr1o1_10 := Zn.upD zqr1o1_1 hEqr1o1_1
  have qqr1o1_11 := zf_up zfqr1o1_1 hEqr1o1_1
  refine wpList_nil (e_sq ?_)
  refine ⟨fun _ => hxqr1o1_2, ?_⟩
  refine u_call (.int .i64 xqr1o4_1) 4 rfl (by kernel_rfl) (want0 _) ha rfl rfl Tryd.call32 (fun wqr1o4_1 hxqr1o4_1 => W_spec_l1Size (ha0_0.ext (Ext.trans hEqr1o1_2 hxqr1o4_1)) hcqr1o4_1) (fun _ _ _ h => ⟨h.1.1, h.2⟩) ?_; clear ha a; intro a ha
  have hIqr1o4_1 : InI xqr1o4_1 := calls_fact (w := wqr1o1_2) (W_spec_l1Size (ha0_0.ext (Ext.trans hEqr1o1_2 (Chg.refl _ _))) hcqr1o4_1) (fun _ _ h => h.1.2)
  refine u_only 6 rfl (by kernel_rfl) ?_; intro wqr1o6_1 hxqr1o6_1
  replace hB3 := hB3.ext hxqr1o6_1
  replace hB11 := hB11.ext hxqr1o6_1
  replace hqr1o2_1 := hqr1o2_1.ext hxqr1o6_1
  replace hqr1o1_1 := hqr1o1_1.ext hxqr1o6_1
  have hEqr1o6_1 := Ext.trans hEqr1o1_2 hxqr1o6_1
  obtain ⟨fpqr1o6_1, hroqr1o6_1, hsqr1o6_1⟩ := hqr1o1_1.roF
  obtain ⟨fpqr1o6_2, hroqr1o6_2, hsqr1o6_2⟩ := hqr1o2_1.roF
  refine o_call ha rfl rfl Tryd.call30 (W_spec_l24Rings hroqr1o6_1 hroqr1o6_2 hIqr1o4_1 (Ro.nil _) (show InI (-1) from by decide) hcqr1o6_1) ?_; clear ha a; rintro vqr1o6_1 wqr1o6_2 ⟨uqr1o6_1, uqr1o6_2, fpqr1o6_3, rfl, hqr1o6_1, pvqr1o6_1, ⟨rfl, hIqr1o6_1⟩, hxqr1o6_2⟩ a ha
  have qqr1o6_1 := Nq.rd pvqr1o6_1 (Nq.append (Nq.append (Nq.mono qqr1o1_2 hsqr1o6_1) (Nq.mono qqr1o2_3 hsqr1o6_2)) (Nq.nil _)) hB3.bi
  have qqr1o6_2 := Nq.rd pvqr1o6_1 (Nq.append (Nq.append (Nq.mono qqr1o1_4 hsqr1o6_1) (Nq.mono qqr1o2_5 hsqr1o6_2)) (Nq.nil _)) hB11.bi
  have qqr1o6_3 := (Pv.call pvqr1o6_1 (Pv.app (Pv.app (Pv.mono (Pv.own qqr1o1_10 qqr1o1_11) hsqr1o6_1) (Pv.mono (Pv.own qqr1o2_6 (zf_nil _)) hsqr1o6_2)) (Pv.nil)) hEqr1o6_1.size : Pv (fa0_0) W.heap.size fpqr1o6_3)
  replace hB3 := hB3.ext hxqr1o6_2
  replace hB11 := hB11.ext hxqr1o6_2
  replace hqr1o2_1 := hqr1o2_1.ext hxqr1o6_2
  replace hqr1o1_1 := hqr1o1_1.ext hxqr1o6_2
  have hEqr1o6_2 := Ext.trans hEqr1o6_1 hxqr1o6_2
  refine wpList_nil (e_sq ?_)
  refine ⟨fun _ => hxqr1o6_2, ?_⟩
  refine u_only 7 rfl (by kernel_rfl) ?_; intro wqr1o7_1 hxqr1o7_1
  replace hB3 := hB3.ext hxqr1o7_1
  replace hB11 := hB11.ext hxqr1o7_1
  replace hqr1o2_1 := hqr1o2_1.ext hxqr1o7_1
  replace hqr1o1_1 := hqr1o1_1.ext hxqr1o7_1
  replace hqr1o6_1 := hqr1o6_1.ext hxqr1o7_1
  have hEqr1o7_1 := Ext.trans hEqr1o6_2 hxqr1o7_1
  refine o_storeA (vs := [uqr1o6_1, (.int .i64 xqr1o6_1.2)]) ha hB11 Tryd.sizeOf43 rfl rfl (by intro c hc; simp only [List.mem_cons, List.not_mem_nil, or_false] at hc; rcases hc with hc | hc <;> subst hc <;> first | rfl | exact hqr1o6_1.oneC | exact rfl) rfl ?_; intro wqr1o7_2 hBqr1o7_1 hcqr1o7_1
  replace hcqr1o7_1 := hcqr1o7_1.bl
  replace hBqr1o7_1 : Bx wqr1o7_2 b9 [uqr1o6_1, (.int .i64 xqr1o6_1.2)] 43 := hBqr1o7_1
  replace hB3 := hB3.nq hcqr1o7_1 q15
  replace hqr1o2_1 := hqr1o2_1.nq hcqr1o7_1 qqr1o2_5
  replace hqr1o1_1 := hqr1o1_1.nq hcqr1o7_1 qqr1o1_4
  replace hqr1o6_1 := hqr1o6_1.nq hcqr1o7_1 qqr1o6_2
  have hEqr1o7_2 := Ext.then hEqr1o7_1 hcqr1o7_1 (Zn.bl q17)
  refine wpList_nil (e_sq ?_)
  refine ⟨fun h => absurd h (by decide), ?_⟩
  refine u_done (by kernel_rfl) ?_; intro w19 hx20
  replace hB3 := hB3.ext hx20
  replace hBqr1o7_1 := hBqr1o7_1.ext hx20
  replace hqr1o2_1 := hqr1o2_1.ext hx20
  replace hqr1o1_1 := hqr1o1_1.ext hx20
  replace hqr1o6_1 := hqr1o6_1.ext hx20
  have hE21 := Ext.trans hEqr1o7_2 hx20
  replace ha := ha.sub (σ' := [(2, (.pointer (some ⟨b9, 0, none⟩)))]) ⟨rfl, trivial⟩; refine e_then ?_; refine wp_ret ?_; obtain rfl := Option.some.inj hF
  exact f_retC (cs := [uqr1o6_1, (.int .i64 xqr1o6_1.2)]) ha rfl rfl Tryd.isAgg43 Tryd.sizeOf43 hBqr1o7_1 ⟨_, _, _, rfl, hqr1o6_1, (qqr1o6_3), ⟨rfl, hIqr1o6_1⟩, hE21⟩
set_option maxHeartbeats 2000000 in
theorem W_spec_OuterRing {W : World} {va0_0 : Value} {fa0_0 : List Nat} {a0_0 : (List (List Int))} (ha0_0 : Ro (Rp.sl 2 Rp.int) W fa0_0 va0_0 a0_0) {r : ((List Int) × Bool)} (hF : F_spec_OuterRing a0_0 = some r) :
    Calls Tryd.prog 17 [.agg #[va0_0]].toArray W (Ret fun u w' => ∃ (u0 : Value) (u1 : Value) (fp_u0 : List Nat), u = .tuple #[u0, u1] ∧ Ro Rp.int w' fp_u0 u0 r.1 ∧ Pv (fa0_0) W.heap.size fp_u0 ∧ u1 = .bool r.2 ∧ Ext W w') := by
  refine f_enter Tryd.func17 rfl Tryd.ntmps17 rfl ?_
  intro a ha
  replace ha : Fr 17 [(0, (.agg #[va0_0]))] a := ha
  have hE : Chg [] W W := Chg.refl _ _
  unfold F_spec_OuterRing at hF
  refine wp_seq ?_; refine wp_region_lit ?_
  refine o_box ha rfl rfl rfl ?_; clear ha a; intro b1 w2 hB3 hx4 hlo5 a ha
  have q6 := Zn.one hlo5
  have q7 := Zn.upD q6 hE
  have hE8 := Ext.trans hE hx4
  (iterate 2 refine op_g ha rfl (g_assign rfl) ?_; clear ha a; intro a ha); refine wpList_nil ?_; replace ha := ha.sub (σ' := [(1, (.pointer (some ⟨b1, 0, none⟩)))]) ⟨rfl, trivial⟩; refine e_then ?_; refine wp_seq ?_; refine wp_seq ?_; refine wp_region_lit ?_; refine op_g ha rfl (g_loadA (cs := [va0_0]) Tryd.isAgg27 Tryd.sizeOf27 rfl (by simp) hB3.all) ?_; clear ha a; intro a ha; obtain ⟨x9, hc10, hF⟩ := cal_some hF
  refine o_call ha rfl rfl Tryd.call22 (W_spec_l26Small (ha0_0.ext hE8) hc10) ?_; clear ha a; rintro v11 w12 ⟨rfl, hx13⟩ a ha
  replace hB3 := hB3.ext hx13
  have hE14 := Ext.trans hE8 hx13
  refine op_g ha rfl (g_not rfl) ?_; clear ha a; intro a ha; refine wpList_nil ?_; replace ha := ha.sub (σ' := [(1, (.pointer (some ⟨b1, 0, none⟩))), (7, (.bool (!x9)))]) ⟨rfl, rfl, trivial⟩; refine e_then ?_; refine c_cond (¬ (x9 = true)) ha rfl (n_iff (Iff.rfl)) (fun hp15 => ?_) (fun hp15 => ?_)
  · replace hF := if_t hp15 hF
    refine wp_seq ?_; refine wp_region_lit ?_
    refine o_lit0 Rp.int ha rfl sl31 ?_; clear ha a; intro v16 w17 h18 hx19 a ha
    obtain ⟨b21, hb21⟩ : ∃ b : Int, b = w12.heap.size := ⟨_, rfl⟩; rw [← hb21] at h18
    have q22 := zn_of hb21
    have q23 := Nq.new hB3.fpb q22
    have q24 := Nq.madeO q22 hB3.bi
    have q25 := Zn.upD q22 hE14
    replace hB3 := hB3.ext hx19
    have hE26 := Ext.trans hE14 hx19
    (iterate 2 refine op_g ha rfl (g_assign rfl) ?_; clear ha a; intro a ha); refine wpList_nil ?_; replace ha := ha.sub (σ' := [(2, v16), (3, (.bool false))]) ⟨rfl, rfl, trivial⟩; refine e_then ?_; refine wp_ret ?_; refine e_then_ret ?_
    obtain ⟨fp27, h28, hs29⟩ := h18.roF
    obtain rfl := Option.some.inj hF
    exact f_ret2 ha rfl rfl rfl ⟨_, _, _, rfl, h28, (Pv.mono (Pv.own q25 (zf_nil _)) hs29), rfl, hE26⟩
  replace hF := if_f hp15 hF; refine wp_skip ?_; refine e_then ?_; refine wp_seq ?_; refine wp_region_lit ?_; refine op_g ha rfl (g_loadA (cs := [va0_0]) Tryd.isAgg27 Tryd.sizeOf27 rfl (by simp) hB3.all) ?_; clear ha a; intro a ha; obtain ⟨x30, hc31, hF⟩ := cal_some hF
  refine o_call ha rfl rfl Tryd.call23 (W_spec_l24Least (ha0_0.ext hE14) hc31) ?_; clear ha a; rintro v32 w33 ⟨u35, u36, fp37, rfl, h38, pv39, ⟨rfl, hI41⟩, hx34⟩ a ha
  have q42 := Nq.rd pv39 (Nq.new ha0_0.bnd q7) hB3.bi
  have q43 := (Pv.call pv39 (Pv.par (fun _ h => h)) hE14.size : Pv (fa0_0) W.heap.size fp37)
  replace hB3 := hB3.ext hx34
  have hE44 := Ext.trans hE14 hx34
  refine o_alloc (cs := [(.slice none 0 0), (.int .i64 0)]) ha rfl Tryd.zeroValue43 rfl ?_; clear ha a; intro b45 w46 hB47 hx48 hlo49 a ha
  have q50 := Zn.one hlo49
  have q51 := Nq.new hB3.fpb q50
  have q52 := Nq.made1 hlo49 hB3.bi
  have q53 := Nq.new h38.bnd q50
  have q54 := Zn.upD q50 hE44
  replace hB3 := hB3.ext hx48
  replace h38 := h38.ext hx48
  have hE55 := Ext.trans hE44 hx48
  refine o_storeA (vs := [u35, (.int .i64 x30.2)]) ha hB47 Tryd.sizeOf43 rfl rfl (by intro c hc; simp only [List.mem_cons, List.not_mem_nil, or_false] at hc; rcases hc with hc | hc <;> subst hc <;> first | rfl | exact h38.oneC | exact rfl) rfl ?_; intro w56 hB57 hc58
  replace hc58 := hc58.bl
  replace hB57 : Bx w56 b45 [u35, (.int .i64 x30.2)] 43 := hB57
  replace hB3 := hB3.nq hc58 q51
  replace h38 := h38.nq hc58 q53
  have hE59 := Ext.then hE55 hc58 (Zn.bl q54)
  refine wpList_nil ?_; replace ha := ha.sub (σ' := [(4, (.pointer (some ⟨b45, 0, none⟩)))]) ⟨rfl, trivial⟩; refine e_then ?_; refine wp_seq ?_; refine wp_seq ?_; refine wp_region_lit ?_; refine op_g ha rfl (g_field0 st43_1 rfl) ?_; clear ha a; intro a ha; refine op_g ha rfl (g_load Tryd.isAgg2 rfl (hB57.cell rfl)) ?_; clear ha a; intro a ha; refine op_g ha rfl (g_neq rfl rfl) ?_; clear ha a; intro a ha; refine wpList_nil ?_; replace ha := ha.sub (σ' := [(4, (.pointer (some ⟨b45, 0, none⟩))), (13, (.bool (decide (x30.2 ≠ 0))))]) ⟨rfl, rfl, trivial⟩; refine e_then ?_; refine c_cond (x30.2 ≠ 0) ha rfl (decide_eq_true_iff) (fun hp60 => ?_) (fun hp60 => ?_)
  · replace hF := if_t hp60 hF
    refine wp_seq ?_; refine wp_region_lit ?_
    refine o_lit0 Rp.int ha rfl sl31 ?_; clear ha a; intro v61 w62 h63 hx64 a ha
    obtain ⟨b66, hb66⟩ : ∃ b : Int, b = w56.heap.size := ⟨_, rfl⟩; rw [← hb66] at h63
    have q67 := zn_of hb66
    have q68 := Nq.new h38.bnd q67
    have q69 := Nq.new hB57.fpb q67
    have q70 := Nq.madeO q67 hB57.bi
    have q71 := Zn.upD q67 hE59
    replace h38 := h38.ext hx64
    replace hB57 := hB57.ext hx64
    have hE72 := Ext.trans hE59 hx64
    (iterate 2 refine op_g ha rfl (g_assign rfl) ?_; clear ha a; intro a ha); refine wpList_nil ?_; replace ha := ha.sub (σ' := [(2, v61), (3, (.bool false))]) ⟨rfl, rfl, trivial⟩; refine e_then ?_; refine wp_ret ?_; refine e_then_ret ?_
    obtain ⟨fp73, h74, hs75⟩ := h63.roF
    obtain rfl := Option.some.inj hF
    exact f_ret2 ha rfl rfl rfl ⟨_, _, _, rfl, h74, (Pv.mono (Pv.own q71 (zf_nil _)) hs75), rfl, hE72⟩
  replace hF := if_f hp60 hF; refine wp_skip ?_; refine e_then ?_; refine wp_seq ?_; refine wp_region_lit ?_; refine op_g ha rfl (g_field0 st43_0 rfl) ?_; clear ha a; intro a ha; refine op_g ha rfl (g_load Tryd.isAgg31 rfl (hB57.cell rfl)) ?_; clear ha a; intro a ha; (iterate 2 refine op_g ha rfl (g_assign rfl) ?_; clear ha a; intro a ha); refine wpList_nil ?_; replace ha := ha.sub (σ' := [(2, u35), (3, (.bool true))]) ⟨rfl, rfl, trivial⟩; refine e_then ?_; refine wp_ret ?_; obtain rfl := Option.some.inj hF
  exact f_ret2 ha rfl rfl rfl ⟨_, _, _, rfl, h38, (q43), rfl, hE59⟩
set_option maxHeartbeats 2000000 in
theorem W_impl_inRange {W : World} {a0 : Int} (ha0 : InI a0) {a1 : Int} (ha1 : InI a1) {a2 : Int} (ha2 : InI a2) {r : Bool} (hF : F_impl_inRange a0 a1 a2 = some r) :
    Calls Tryd.prog 54 [.int .i64 a0, .int .i64 a1, .int .i64 a2].toArray W (Ret fun u w' => u = .bool r ∧ Ext W w') := by
  refine f_enter Tryd.func54 rfl Tryd.ntmps54 rfl ?_
  intro a ha
  replace ha : Fr 15 [(0, (.int .i64 a0)), (1, (.int .i64 a1)), (2, (.int .i64 a2))] a := ha
  have hE : Chg [] W W := Chg.refl _ _
  unfold F_impl_inRange at hF
  refine wp_seq ?_; refine wp_region_lit ?_; refine op_g ha rfl (g_assign rfl) ?_; clear ha a; intro a ha; refine wpList_nil ?_; replace ha := ha.sub (σ' := [(0, (.int .i64 a0)), (1, (.int .i64 a1)), (2, (.int .i64 a2))]) ⟨rfl, rfl, rfl, trivial⟩; refine e_then ?_; refine wp_seq ?_; refine wp_region_lit ?_; (iterate 2 refine op_g ha rfl (g_move rfl) ?_; clear ha a; intro a ha); refine op_g ha rfl (g_leq rfl rfl) ?_; clear ha a; intro a ha; refine op_g ha rfl (g_move rfl) ?_; clear ha a; intro a ha
  by_cases hp1 : a1 ≤ a0
  · replace hF := if_t hp1 hF
    rw [show (decide (a1 ≤ a0)) = true from (decide_eq_true_iff).2 hp1] at ha
    refine op_want (yields ha rfl rfl) ?_; refine op_g ha rfl (g_move rfl) ?_; clear ha a; intro a ha; refine op_want (yields ha rfl rfl) ?_; refine op_g ha rfl (g_move rfl) ?_; clear ha a; intro a ha; refine op_want (yields ha rfl rfl) ?_; refine op_g ha rfl (g_leq rfl rfl) ?_; clear ha a; intro a ha; refine op_g ha rfl (g_pick rfl rfl) ?_; clear ha a; intro a ha; refine op_g ha rfl (g_assign rfl) ?_; clear ha a; intro a ha; refine wpList_nil ?_; replace ha := ha.sub (σ' := [(6, (.bool (decide (a0 ≤ a2))))]) ⟨rfl, trivial⟩; refine e_then ?_; refine wp_ret ?_; obtain rfl := Option.some.inj hF
    exact f_ret1 ha rfl rfl ⟨rfl, hE⟩
  replace hF := if_f hp1 hF
  rw [show (decide (a1 ≤ a0)) = false from b_false (decide_eq_true_iff) hp1] at ha
  (iterate 3 refine op_unwant ha rfl (yields ha rfl rfl) rfl ?_; clear ha a; intro a ha); refine op_g ha rfl (g_pick rfl rfl) ?_; clear ha a; intro a ha; refine op_g ha rfl (g_assign rfl) ?_; clear ha a; intro a ha; refine wpList_nil ?_; replace ha := ha.sub (σ' := [(6, (.bool false))]) ⟨rfl, trivial⟩; refine e_then ?_; refine wp_ret ?_; obtain rfl := Option.some.inj hF
  exact f_ret1 ha rfl rfl ⟨rfl, hE⟩
set_option maxHeartbeats 2000000 in
theorem W_impl_increasing {W : World} {va0 : Value} {fa0 : List Nat} {a0 : (List Int)} (ha0 : Ro Rp.int W fa0 va0 a0) {a1 : Int} (ha1 : InI a1) {r : Bool} (hF : F_impl_increasing a0 a1 = some r) :
    Calls Tryd.prog 44 [va0, .int .i64 a1].toArray W (Ret fun u w' => u = .bool r ∧ Ext W w') := by
  refine f_enter Tryd.func44 rfl Tryd.ntmps44 rfl ?_
  intro a ha
  replace ha : Fr 33 [(0, va0), (1, (.int .i64 a1))] a := ha
  have hE : Chg [] W W := Chg.refl _ _
  unfold F_impl_increasing at hF
  refine wp_seq ?_; refine wp_region_lit ?_; refine op_g ha rfl (g_assign rfl) ?_; clear ha a; intro a ha; refine wpList_nil ?_; replace ha := ha.sub (σ' := [(0, va0), (1, (.int .i64 a1))]) ⟨rfl, rfl, trivial⟩; refine e_then ?_; refine wp_seq ?_; refine wp_seq ?_; refine wp_region_lit ?_; refine op_g ha rfl (g_move rfl) ?_; clear ha a; intro a ha; refine op_g ha rfl (g_lenR sl31.und ha0 rfl) ?_; clear ha a; intro a ha; refine op_g ha rfl (g_move rfl) ?_; clear ha a; intro a ha; refine wpList_nil ?_; replace ha := ha.sub (σ' := [(0, va0), (1, (.int .i64 a1)), (7, va0), (8, (.int .i64 (a0.length : Int))), (9, (.int .i64 0))]) ⟨rfl, rfl, rfl, rfl, rfl, trivial⟩
  refine e_then ?_; obtain ⟨o98, ho99, hK100⟩ := bnd_some hF
  obtain ⟨n101, hn102⟩ := lp_some ho99; clear ho99
  refine c_loop (fun a w => Fr 33 [] a ∧ Chg [] W w ∧ o98 = .inl ()) (fun n a w => ∃ (i49 : Int), Fr 33 [(0, va0), (1, (.int .i64 a1)), (7, va0), (8, (.int .i64 (a0.length : Int))), (9, (.int .i64 i49))] a ∧ Chg [] W w ∧ InI i49 ∧ lpN (fun s => F_impl_increasing_l1 a0 a1 s) n i49 = some o98) n101 ⟨0, ha.sub ⟨rfl, rfl, rfl, rfl, rfl, trivial⟩, hE, (show InI 0 from by decide), hn102⟩ ?_ ?_
  · rintro m106 a w48 ⟨i49, ha, hE51, hI50, hF⟩
    cases m106 with
    | zero => exact (lpN_zero hF).elim
    | succ m106 =>
      obtain ⟨z105, hF, hN104⟩ := lpN_succ hF
      have hF : F_impl_increasing_l1 a0 a1 i49 = some z105 := hF; unfold F_impl_increasing_l1 at hF
      refine wp_seq ?_; refine wp_region_lit ?_; refine op_g ha rfl (g_lss rfl rfl) ?_; clear ha a; intro a ha; refine wpList_nil ?_; replace ha := ha.sub (σ' := [(0, va0), (1, (.int .i64 a1)), (7, va0), (8, (.int .i64 (a0.length : Int))), (9, (.int .i64 i49)), (10, (.bool (decide (i49 < (a0.length : Int)))))]) ⟨rfl, rfl, rfl, rfl, rfl, rfl, trivial⟩; refine e_then ?_; refine wp_seq ?_; refine c_cond (i49 < (a0.length : Int)) ha rfl (decide_eq_true_iff) (fun hp107 => ?_) (fun hp107 => ?_)
      · replace hF := if_t hp107 hF
        refine wp_skip ?_; refine e_then ?_; refine wp_seq ?_; refine wp_block ?_; refine wp_seq ?_; refine wp_region_lit ?_; refine op_g ha rfl (g_move rfl) ?_; clear ha a; intro a ha; obtain ⟨x108, g109, gx110, hF⟩ := idx_some hF
        obtain ⟨p111, cs112, f113, hf114, hpb115, hat116, hr117, hi118⟩ := ha0.at g109 gx110
        obtain ⟨rfl, hI119, rfl⟩ := hr117
        refine op_g ha rfl (hi118.gives sl31 rfl rfl) ?_; clear ha a; intro a ha; refine op_g ha rfl (g_load0 hE51 Tryd.isAgg2 rfl hat116.one) ?_; clear ha a; intro a ha; (iterate 2 refine op_g ha rfl (g_assign rfl) ?_; clear ha a; intro a ha); refine wpList_nil ?_; replace ha := ha.sub (σ' := [(0, va0), (1, (.int .i64 a1)), (5, (.int .i64 i49)), (6, (.int .i64 x108)), (7, va0), (8, (.int .i64 (a0.length : Int))), (9, (.int .i64 i49))]) ⟨rfl, rfl, rfl, rfl, rfl, rfl, rfl, trivial⟩; refine e_then ?_; refine wp_seq ?_; refine wp_region_lit ?_; (iterate 2 refine op_g ha rfl (g_move rfl) ?_; clear ha a; intro a ha)
        obtain ⟨hI120, hF⟩ := ck_some hF; refine op_g ha rfl (g_sub rfl rfl hI120) ?_; clear ha a; intro a ha; obtain ⟨x122, hc123, hF⟩ := cal_some hF
        refine o_call ha rfl rfl Tryd.call54 (W_impl_inRange hI119 (show InI 0 from by decide) hI120 hc123) ?_; clear ha a; rintro v124 w125 ⟨rfl, hx126⟩ a ha
        have hE127 := Ext.trans hE51 hx126
        refine op_g ha rfl (g_not rfl) ?_; clear ha a; intro a ha; refine op_g ha rfl (g_move rfl) ?_; clear ha a; intro a ha
        by_cases hp128 : ¬ (x122 = true)
        · replace hF := if_t hp128 hF
          rw [show (!x122) = true from (n_iff (Iff.rfl)).2 hp128] at ha
          (iterate 3 refine op_unwant ha rfl (yields ha rfl rfl) rfl ?_; clear ha a; intro a ha); (iterate 7 refine op_unwant0 ha rfl (yields0 ha rfl rfl) ?_; clear ha a; intro a ha); refine op_unwant ha rfl (yields ha rfl rfl) rfl ?_; clear ha a; intro a ha; refine op_g ha rfl (g_pick rfl rfl) ?_; clear ha a; intro a ha; refine wpList_nil ?_; replace ha := ha.sub (σ' := [(0, va0), (1, (.int .i64 a1)), (7, va0), (8, (.int .i64 (a0.length : Int))), (9, (.int .i64 i49)), (31, (.bool true))]) ⟨rfl, rfl, rfl, rfl, rfl, rfl, trivial⟩; refine e_then ?_; refine c_true ha rfl ?_; refine wp_seq ?_; refine wp_region_lit ?_
          refine op_g ha rfl (g_assign rfl) ?_; clear ha a; intro a ha; refine wpList_nil ?_; replace ha := ha.sub (σ' := [(4, (.bool false))]) ⟨rfl, trivial⟩; refine e_then ?_; refine wp_ret ?_; refine e_blk_ret ?_; refine e_then_ret ?_; refine e_lq_ret ?_; refine e_then_ret ?_; obtain rfl := Option.some.inj hF
          have e129 := LK_inr hN104; subst e129
          have e130 := BK_inr hK100; subst e130
          exact f_ret1 ha rfl rfl ⟨rfl, hE127⟩
        replace hF := if_f hp128 hF
        rw [show (!x122) = false from b_false (n_iff (Iff.rfl)) hp128] at ha
        refine op_want (yields ha rfl rfl) ?_; refine op_g ha rfl (g_move rfl) ?_; clear ha a; intro a ha; refine op_want (yields ha rfl rfl) ?_; refine op_g ha rfl (g_gtr rfl rfl) ?_; clear ha a; intro a ha; refine op_want (yields ha rfl rfl) ?_; refine op_g ha rfl (g_move rfl) ?_; clear ha a; intro a ha
        by_cases hp131 : 0 < i49
        · replace hF := if_t hp131 hF
          rw [show (decide (0 < i49)) = true from (decide_eq_true_iff).2 hp131] at ha
          refine op_want (yields ha rfl rfl) ?_; refine op_g ha rfl (g_move rfl) ?_; clear ha a; intro a ha; refine op_want (yields ha rfl rfl) ?_; refine op_g ha rfl (g_move rfl) ?_; clear ha a; intro a ha; refine op_want (yields ha rfl rfl) ?_; obtain ⟨hI132, hF⟩ := ck_some hF; refine op_g ha rfl (g_sub rfl rfl hI132) ?_; clear ha a; intro a ha; refine op_want (yields ha rfl rfl) ?_; obtain ⟨x134, g135, gx136, hF⟩ := idx_some hF
          obtain ⟨p137, cs138, f139, hf140, hpb141, hat142, hr143, hi144⟩ := ha0.at g135 gx136
          obtain ⟨rfl, hI145, rfl⟩ := hr143
          refine op_g ha rfl (hi144.gives sl31 rfl rfl) ?_; clear ha a; intro a ha; refine op_want (yields ha rfl rfl) ?_; refine op_g ha rfl (g_load0 hE127 Tryd.isAgg2 rfl hat142.one) ?_; clear ha a; intro a ha; refine op_want (yields ha rfl rfl) ?_; refine op_g ha rfl (g_move rfl) ?_; clear ha a; intro a ha; refine op_want (yields ha rfl rfl) ?_; refine op_g ha rfl (g_geq rfl rfl) ?_; clear ha a; intro a ha; refine op_want (yields ha rfl rfl) ?_; (iterate 2 refine op_g ha rfl (g_pick rfl rfl) ?_; clear ha a; intro a ha); refine wpList_nil ?_; replace ha := ha.sub (σ' := [(0, va0), (1, (.int .i64 a1)), (7, va0), (8, (.int .i64 (a0.length : Int))), (9, (.int .i64 i49)), (20, (.int .i64 i49)), (21, (.bool true)), (22, (.bool true)), (23, va0), (24, (.int .i64 i49)), (25, (.int .i64 (i49 - 1))), (26, (.pointer (some p137))), (27, (.int .i64 x134)), (28, (.int .i64 x108)), (29, (.bool (decide (x108 ≤ x134)))), (30, (.bool (decide (x108 ≤ x134)))), (31, (.bool (decide (x108 ≤ x134))))]) ⟨rfl, rfl, rfl, rfl, rfl, rfl, rfl, rfl, rfl, rfl, rfl, rfl, rfl, rfl, rfl, rfl, rfl, trivial⟩
          refine e_then ?_; refine c_cond (x108 ≤ x134) ha rfl (decide_eq_true_iff) (fun hp146 => ?_) (fun hp146 => ?_)
          · replace hF := if_t hp146 hF
            refine wp_seq ?_; refine wp_region_lit ?_; refine op_g ha rfl (g_assign rfl) ?_; clear ha a; intro a ha; refine wpList_nil ?_; replace ha := ha.sub (σ' := [(4, (.bool false))]) ⟨rfl, trivial⟩; refine e_then ?_; refine wp_ret ?_; refine e_blk_ret ?_; refine e_then_ret ?_; refine e_lq_ret ?_; refine e_then_ret ?_; obtain rfl := Option.some.inj hF
            have e147 := LK_inr hN104; subst e147
            have e148 := BK_inr hK100; subst e148
            exact f_ret1 ha rfl rfl ⟨rfl, hE127⟩
          replace hF := if_f hp146 hF; refine wp_skip ?_; refine e_blk ?_; refine e_then ?_; refine wp_region_lit ?_; obtain ⟨hI149, hF⟩ := ck_some hF; refine op_g ha rfl (g_add rfl rfl hI149) ?_; clear ha a; intro a ha; refine op_g ha rfl (g_move rfl) ?_; clear ha a; intro a ha; refine wpList_nil ?_; replace ha := ha.sub (σ' := [(0, va0), (1, (.int .i64 a1)), (7, va0), (8, (.int .i64 (a0.length : Int))), (9, (.int .i64 (i49 + 1))), (20, (.int .i64 i49)), (21, (.bool true)), (22, (.bool true)), (23, va0), (24, (.int .i64 i49)), (25, (.int .i64 (i49 - 1))), (26, (.pointer (some p137))), (27, (.int .i64 x134)), (28, (.int .i64 x108)), (29, (.bool (decide (x108 ≤ x134)))), (30, (.bool (decide (x108 ≤ x134))))]) ⟨rfl, rfl, rfl, rfl, rfl, rfl, rfl, rfl, rfl, rfl, rfl, rfl, rfl, rfl, rfl, rfl, trivial⟩
          refine e_lq ?_; obtain rfl := Option.some.inj hF
          exact ⟨_, Nat.lt_succ_self _, i49 + 1, ha.sub ⟨rfl, rfl, rfl, rfl, rfl, trivial⟩, hE127, hI149, hN104⟩
        replace hF := if_f hp131 hF
        rw [show (decide (0 < i49)) = false from b_false (decide_eq_true_iff) hp131] at ha
        (iterate 7 refine op_unwant ha rfl (yields ha rfl rfl) rfl ?_; clear ha a; intro a ha); refine op_want (yields ha rfl rfl) ?_; (iterate 2 refine op_g ha rfl (g_pick rfl rfl) ?_; clear ha a; intro a ha); refine wpList_nil ?_; replace ha := ha.sub (σ' := [(0, va0), (1, (.int .i64 a1)), (7, va0), (8, (.int .i64 (a0.length : Int))), (9, (.int .i64 i49)), (20, (.int .i64 i49)), (21, (.bool false)), (22, (.bool false)), (30, (.bool false)), (31, (.bool false))]) ⟨rfl, rfl, rfl, rfl, rfl, rfl, rfl, rfl, rfl, rfl, trivial⟩; refine e_then ?_; refine c_false ha rfl ?_; refine wp_skip ?_; refine e_blk ?_
        refine e_then ?_; refine wp_region_lit ?_; obtain ⟨hI151, hF⟩ := ck_some hF; refine op_g ha rfl (g_add rfl rfl hI151) ?_; clear ha a; intro a ha; refine op_g ha rfl (g_move rfl) ?_; clear ha a; intro a ha; refine wpList_nil ?_; replace ha := ha.sub (σ' := [(0, va0), (1, (.int .i64 a1)), (7, va0), (8, (.int .i64 (a0.length : Int))), (9, (.int .i64 (i49 + 1))), (20, (.int .i64 i49)), (21, (.bool false)), (22, (.bool false)), (30, (.bool false))]) ⟨rfl, rfl, rfl, rfl, rfl, rfl, rfl, rfl, rfl, trivial⟩; refine e_lq ?_; obtain rfl := Option.some.inj hF
        exact ⟨_, Nat.lt_succ_self _, i49 + 1, ha.sub ⟨rfl, rfl, rfl, rfl, rfl, trivial⟩, hE127, hI151, hN104⟩
      replace hF := if_f hp107 hF; refine wp_exit ?_; refine e_then_exit ?_; refine e_lq_eq ?_; obtain rfl := Option.some.inj hF
      exact ⟨ha.sub trivial, hE51, (LK_inr hN104).symm⟩
  rintro a w97 ⟨ha, hE103, rfl⟩
  have hF : F_impl_increasing_k2 = some _ := hK100; clear hK100; unfold F_impl_increasing_k2 at hF
  refine e_then ?_; refine wp_seq ?_; refine wp_region_lit ?_; refine op_g ha rfl (g_assign rfl) ?_; clear ha a; intro a ha; refine wpList_nil ?_; refine e_then ?_; refine wp_ret ?_; obtain rfl := Option.some.inj hF
  exact f_ret1 ha rfl rfl ⟨rfl, hE103⟩
set_option maxHeartbeats 2000000 in
theorem W_slices_Index_int64 {W : World} {va0 : Value} {fa0 : List Nat} {a0 : (List Int)} (ha0 : Ro Rp.int W fa0 va0 a0) {a1 : Int} (ha1 : InI a1) {r : Int} (hF : F_slices_Index_int64 a0 a1 = some r) :
    Calls Tryd.prog 55 [va0, .int .i64 a1].toArray W (Ret fun u w' => (u = .int .i64 r ∧ InI r) ∧ Ext W w') := by
  refine f_enter Tryd.func55 rfl Tryd.ntmps55 rfl ?_
  intro a ha
  replace ha : Fr 19 [(0, va0), (1, (.int .i64 a1))] a := ha
  have hE : Chg [] W W := Chg.refl _ _
  unfold F_slices_Index_int64 at hF
  refine wp_seq ?_; refine wp_region_lit ?_; refine op_g ha rfl (g_assign rfl) ?_; clear ha a; intro a ha; refine wpList_nil ?_; replace ha := ha.sub (σ' := [(0, va0), (1, (.int .i64 a1))]) ⟨rfl, rfl, trivial⟩; refine e_then ?_; refine wp_seq ?_; refine wp_seq ?_; refine wp_region_lit ?_; refine op_g ha rfl (g_move rfl) ?_; clear ha a; intro a ha; refine op_g ha rfl (g_lenR sl31.und ha0 rfl) ?_; clear ha a; intro a ha; refine op_g ha rfl (g_move rfl) ?_; clear ha a; intro a ha; refine wpList_nil ?_; replace ha := ha.sub (σ' := [(0, va0), (1, (.int .i64 a1)), (7, (.int .i64 (a0.length : Int))), (8, (.int .i64 0))]) ⟨rfl, rfl, rfl, rfl, trivial⟩
  refine e_then ?_; obtain ⟨o46, ho47, hK48⟩ := bnd_some hF
  obtain ⟨n49, hn50⟩ := lp_some ho47; clear ho47
  refine c_loop (fun a w => Fr 19 [] a ∧ Chg [] W w ∧ o46 = .inl ()) (fun n a w => ∃ (i23 : Int), Fr 19 [(0, va0), (1, (.int .i64 a1)), (7, (.int .i64 (a0.length : Int))), (8, (.int .i64 i23))] a ∧ Chg [] W w ∧ InI i23 ∧ lpN (fun s => F_slices_Index_int64_l1 a0 a1 s) n i23 = some o46) n49 ⟨0, ha.sub ⟨rfl, rfl, rfl, rfl, trivial⟩, hE, (show InI 0 from by decide), hn50⟩ ?_ ?_
  · rintro m54 a w22 ⟨i23, ha, hE25, hI24, hF⟩
    cases m54 with
    | zero => exact (lpN_zero hF).elim
    | succ m54 =>
      obtain ⟨z53, hF, hN52⟩ := lpN_succ hF
      have hF : F_slices_Index_int64_l1 a0 a1 i23 = some z53 := hF; unfold F_slices_Index_int64_l1 at hF
      refine wp_seq ?_; refine wp_region_lit ?_; refine op_g ha rfl (g_lss rfl rfl) ?_; clear ha a; intro a ha; refine wpList_nil ?_; replace ha := ha.sub (σ' := [(0, va0), (1, (.int .i64 a1)), (7, (.int .i64 (a0.length : Int))), (8, (.int .i64 i23)), (9, (.bool (decide (i23 < (a0.length : Int)))))]) ⟨rfl, rfl, rfl, rfl, rfl, trivial⟩; refine e_then ?_; refine wp_seq ?_; refine c_cond (i23 < (a0.length : Int)) ha rfl (decide_eq_true_iff) (fun hp55 => ?_) (fun hp55 => ?_)
      · replace hF := if_t hp55 hF
        refine wp_skip ?_; refine e_then ?_; refine wp_seq ?_; refine wp_block ?_; refine wp_seq ?_; refine wp_region_lit ?_; refine op_g ha rfl (g_move rfl) ?_; clear ha a; intro a ha; refine op_g ha rfl (g_assign rfl) ?_; clear ha a; intro a ha; refine wpList_nil ?_; replace ha := ha.sub (σ' := [(0, va0), (1, (.int .i64 a1)), (5, (.int .i64 i23)), (7, (.int .i64 (a0.length : Int))), (8, (.int .i64 i23))]) ⟨rfl, rfl, rfl, rfl, rfl, trivial⟩; refine e_then ?_; refine wp_seq ?_; refine wp_region_lit ?_; (iterate 3 refine op_g ha rfl (g_move rfl) ?_; clear ha a; intro a ha); obtain ⟨x56, g57, gx58, hF⟩ := idx_some hF
        obtain ⟨p59, cs60, f61, hf62, hpb63, hat64, hr65, hi66⟩ := ha0.at g57 gx58
        obtain ⟨rfl, hI67, rfl⟩ := hr65
        refine op_g ha rfl (hi66.gives sl31 rfl rfl) ?_; clear ha a; intro a ha; refine op_g ha rfl (g_load0 hE25 Tryd.isAgg2 rfl hat64.one) ?_; clear ha a; intro a ha; refine op_g ha rfl (g_eql rfl rfl) ?_; clear ha a; intro a ha; refine wpList_nil ?_; replace ha := ha.sub (σ' := [(0, va0), (1, (.int .i64 a1)), (5, (.int .i64 i23)), (7, (.int .i64 (a0.length : Int))), (8, (.int .i64 i23)), (16, (.bool (decide (a1 = x56))))]) ⟨rfl, rfl, rfl, rfl, rfl, rfl, trivial⟩; refine e_then ?_; refine c_cond (a1 = x56) ha rfl (decide_eq_true_iff) (fun hp68 => ?_) (fun hp68 => ?_)
        · replace hF := if_t hp68 hF
          refine wp_seq ?_; refine wp_region_lit ?_; refine op_g ha rfl (g_move rfl) ?_; clear ha a; intro a ha; refine op_g ha rfl (g_assign rfl) ?_; clear ha a; intro a ha; refine wpList_nil ?_; replace ha := ha.sub (σ' := [(4, (.int .i64 i23))]) ⟨rfl, trivial⟩; refine e_then ?_; refine wp_ret ?_; refine e_blk_ret ?_; refine e_then_ret ?_; refine e_lq_ret ?_; refine e_then_ret ?_; obtain rfl := Option.some.inj hF
          have e69 := LK_inr hN52; subst e69
          have e70 := BK_inr hK48; subst e70
          exact f_ret1 ha rfl rfl ⟨⟨rfl, hI24⟩, hE25⟩
        replace hF := if_f hp68 hF; refine wp_skip ?_; refine e_blk ?_; refine e_then ?_; refine wp_region_lit ?_; obtain ⟨hI71, hF⟩ := ck_some hF; refine op_g ha rfl (g_add rfl rfl hI71) ?_; clear ha a; intro a ha; refine op_g ha rfl (g_move rfl) ?_; clear ha a; intro a ha; refine wpList_nil ?_; replace ha := ha.sub (σ' := [(0, va0), (1, (.int .i64 a1)), (7, (.int .i64 (a0.length : Int))), (8, (.int .i64 (i23 + 1)))]) ⟨rfl, rfl, rfl, rfl, trivial⟩; refine e_lq ?_; obtain rfl := Option.some.inj hF
        exact ⟨_, Nat.lt_succ_self _, i23 + 1, ha.sub ⟨rfl, rfl, rfl, rfl, trivial⟩, hE25, hI71, hN52⟩
      replace hF := if_f hp55 hF; refine wp_exit ?_; refine e_then_exit ?_; refine e_lq_eq ?_; obtain rfl := Option.some.inj hF
      exact ⟨ha.sub trivial, hE25, (LK_inr hN52).symm⟩
  rintro a w45 ⟨ha, hE51, rfl⟩
  have hF : F_slices_Index_int64_k2 = some _ := hK48; clear hK48; unfold F_slices_Index_int64_k2 at hF
  refine e_then ?_; refine wp_seq ?_; refine wp_region_lit ?_; refine op_g ha rfl (g_assign rfl) ?_; clear ha a; intro a ha; refine wpList_nil ?_; refine e_then ?_; refine wp_ret ?_; obtain rfl := Option.some.inj hF
  exact f_ret1 ha rfl rfl ⟨⟨rfl, (show InI (-1) from by decide)⟩, hE51⟩
set_option maxHeartbeats 2000000 in
theorem W_slices_Contains_int64 {W : World} {va0 : Value} {fa0 : List Nat} {a0 : (List Int)} (ha0 : Ro Rp.int W fa0 va0 a0) {a1 : Int} (ha1 : InI a1) {r : Bool} (hF : F_slices_Contains_int64 a0 a1 = some r) :
    Calls Tryd.prog 45 [va0, .int .i64 a1].toArray W (Ret fun u w' => u = .bool r ∧ Ext W w') := by
  refine f_enter Tryd.func45 rfl Tryd.ntmps45 rfl ?_
  intro a ha
  replace ha : Fr 9 [(0, va0), (1, (.int .i64 a1))] a := ha
  have hE : Chg [] W W := Chg.refl _ _
  unfold F_slices_Contains_int64 at hF
  refine wp_seq ?_; refine wp_region_lit ?_; refine op_g ha rfl (g_assign rfl) ?_; clear ha a; intro a ha; refine wpList_nil ?_; replace ha := ha.sub (σ' := [(0, va0), (1, (.int .i64 a1))]) ⟨rfl, rfl, trivial⟩; refine e_then ?_; refine wp_seq ?_; refine wp_region_lit ?_; (iterate 2 refine op_g ha rfl (g_move rfl) ?_; clear ha a; intro a ha); obtain ⟨x1, hc2, hF⟩ := cal_some hF
  refine o_call ha rfl rfl Tryd.call55 (W_slices_Index_int64 (ha0.ext hE) ha1 hc2) ?_; clear ha a; rintro v3 w4 ⟨⟨rfl, hI6⟩, hx5⟩ a ha
  have hE7 := Ext.trans hE hx5
  refine op_g ha rfl (g_geq rfl rfl) ?_; clear ha a; intro a ha; refine op_g ha rfl (g_assign rfl) ?_; clear ha a; intro a ha; refine wpList_nil ?_; replace ha := ha.sub (σ' := [(4, (.bool (decide (0 ≤ x1))))]) ⟨rfl, trivial⟩; refine e_then ?_; refine wp_ret ?_; obtain rfl := Option.some.inj hF
  exact f_ret1 ha rfl rfl ⟨rfl, hE7⟩
end Go.Proofs.YtkhaolpofeehoaaDoor
