/- Walks, printed by gen.py. -/
import Derived.Test.YtlbgoodonecebabF
import Derived.Test.YtlbgoodonecebabDeep
import Derived.Test.YtlbgoodonecebabProg
import Derived.KernelRfl
set_option maxRecDepth 100000
namespace Go.Proofs.Ytlbgoodonecebab
open Go Go.RowKit

theorem hmix : Try.prog.follows .mixedOrders = true := by kernel_rfl
theorem sl25 : SlT Try.prog 25 2 1 8 (.int .i64 0) := ⟨by kernel_rfl, by kernel_rfl, by rfl⟩
theorem st24_0 : stF Try.prog 24 0 = some 0 := by kernel_rfl
theorem sl22 : SlT Try.prog 22 25 1 24 (.slice none 0 0) := ⟨by kernel_rfl, by kernel_rfl, by rfl⟩
theorem st30_0 : stF Try.prog 30 0 = some 0 := by kernel_rfl
theorem sl56 : SlT Try.prog 56 3 1 8 (.int .i64 0) := ⟨by kernel_rfl, by kernel_rfl, by rfl⟩
theorem un4 : Try.prog.underlying 4 = some .bool := by kernel_rfl
set_option maxHeartbeats 2000000 in
theorem W_laws_szInt64S {W : World} {va0 : Value} {fa0 : List Nat} {a0 : (List Int)} (ha0 : Ro Rp.int W fa0 va0 a0) {a1 : Int} (ha1 : InI a1) {r : Int} (hF : F_laws_szInt64S a0 a1 = some r) :
    Calls Try.prog 28 [va0, .int .i64 a1].toArray W (Ret fun u w' => (u = .int .i64 r ∧ InI r) ∧ Ext W w') := by
  refine f_enter Try.func28 rfl Try.ntmps28 rfl ?_
  intro a ha
  replace ha : Fr 12 [(0, va0), (1, (.int .i64 a1))] a := ha
  have hE : Chg [] W W := Chg.refl _ _
  unfold F_laws_szInt64S at hF
  refine wp_seq ?_
  refine wp_region_lit ?_
  refine op_g ha rfl (g_assign rfl) ?_; clear ha a; intro a ha
  refine wpList_nil ?_
  replace ha := ha.sub (σ' := [(0, va0), (1, (.int .i64 a1))]) ⟨rfl, rfl, trivial⟩
  refine e_then ?_
  refine wp_seq ?_
  refine wp_region_lit ?_
  refine op_g ha rfl (g_move rfl) ?_; clear ha a; intro a ha
  refine op_g ha rfl (g_move rfl) ?_; clear ha a; intro a ha
  refine op_g ha rfl (g_lenR sl25.und ha0 rfl) ?_; clear ha a; intro a ha
  obtain ⟨hI1, hF⟩ := ck_some hF
  refine op_g ha rfl (g_sub rfl rfl hI1) ?_; clear ha a; intro a ha
  refine op_g ha rfl (g_assign rfl) ?_; clear ha a; intro a ha
  refine wpList_nil ?_
  replace ha := ha.sub (σ' := [(1, (.int .i64 (a1 - (a0.length : Int))))]) ⟨rfl, trivial⟩
  refine e_then ?_
  refine wp_seq ?_
  refine wp_seq ?_
  refine wp_region_lit ?_
  refine op_g ha rfl (g_move rfl) ?_; clear ha a; intro a ha
  refine op_g ha rfl (g_lss rfl rfl) ?_; clear ha a; intro a ha
  refine wpList_nil ?_
  replace ha := ha.sub (σ' := [(1, (.int .i64 (a1 - (a0.length : Int)))), (10, (.bool (decide ((a1 - (a0.length : Int)) < 0))))]) ⟨rfl, rfl, trivial⟩
  refine e_then ?_
  refine c_cond ((a1 - (a0.length : Int)) < 0) ha rfl (decide_eq_true_iff) (fun hp3 => ?_) (fun hp3 => ?_)
  · replace hF := if_t hp3 hF
    refine wp_seq ?_
    refine wp_region_lit ?_
    refine op_g ha rfl (g_assign rfl) ?_; clear ha a; intro a ha
    refine wpList_nil ?_
    replace ha := ha.sub (σ' := [(4, (.int .i64 (-1)))]) ⟨rfl, trivial⟩
    refine e_then ?_
    refine wp_ret ?_
    refine e_then_ret ?_
    obtain rfl := Option.some.inj hF
    exact f_ret1 ha rfl rfl ⟨⟨rfl, (show InI (-1) from by decide)⟩, hE⟩
  · replace hF := if_f hp3 hF
    refine wp_skip ?_
    refine e_then ?_
    refine wp_seq ?_
    refine wp_region_lit ?_
    refine op_g ha rfl (g_move rfl) ?_; clear ha a; intro a ha
    refine op_g ha rfl (g_assign rfl) ?_; clear ha a; intro a ha
    refine wpList_nil ?_
    replace ha := ha.sub (σ' := [(4, (.int .i64 (a1 - (a0.length : Int))))]) ⟨rfl, trivial⟩
    refine e_then ?_
    refine wp_ret ?_
    obtain rfl := Option.some.inj hF
    exact f_ret1 ha rfl rfl ⟨⟨rfl, hI1⟩, hE⟩
set_option maxHeartbeats 2000000 in
theorem W_laws_szInt64SS {W : World} {va0 : Value} {fa0 : List Nat} {a0 : (List (List Int))} (ha0 : Ro (Rp.sl 2 Rp.int) W fa0 va0 a0) {a1 : Int} (ha1 : InI a1) {r : Int} (hF : F_laws_szInt64SS a0 a1 = some r) :
    Calls Try.prog 6 [va0, .int .i64 a1].toArray W (Ret fun u w' => (u = .int .i64 r ∧ InI r) ∧ Ext W w') := by
  refine f_enter Try.func6 rfl Try.ntmps6 rfl ?_
  intro a ha
  replace ha : Fr 27 [(0, va0), (1, (.int .i64 a1))] a := ha
  have hE : Chg [] W W := Chg.refl _ _
  unfold F_laws_szInt64SS at hF
  refine wp_seq ?_
  refine wp_region_lit ?_
  refine op_g ha rfl (g_assign rfl) ?_; clear ha a; intro a ha
  refine wpList_nil ?_
  replace ha := ha.sub (σ' := [(0, va0), (1, (.int .i64 a1))]) ⟨rfl, rfl, trivial⟩
  refine e_then ?_
  refine wp_seq ?_
  refine wp_region_lit ?_
  refine op_g ha rfl (g_move rfl) ?_; clear ha a; intro a ha
  refine op_g ha rfl (g_move rfl) ?_; clear ha a; intro a ha
  refine op_g ha rfl (g_lenR sl22.und ha0 rfl) ?_; clear ha a; intro a ha
  obtain ⟨hI1, hF⟩ := ck_some hF
  refine op_g ha rfl (g_sub rfl rfl hI1) ?_; clear ha a; intro a ha
  refine op_g ha rfl (g_assign rfl) ?_; clear ha a; intro a ha
  refine wpList_nil ?_
  replace ha := ha.sub (σ' := [(0, va0), (1, (.int .i64 (a1 - (a0.length : Int))))]) ⟨rfl, rfl, trivial⟩
  refine e_then ?_
  refine wp_seq ?_
  refine wp_seq ?_
  refine wp_region_lit ?_
  refine op_g ha rfl (g_move rfl) ?_; clear ha a; intro a ha
  refine op_g ha rfl (g_lss rfl rfl) ?_; clear ha a; intro a ha
  refine wpList_nil ?_
  replace ha := ha.sub (σ' := [(0, va0), (1, (.int .i64 (a1 - (a0.length : Int)))), (11, (.bool (decide ((a1 - (a0.length : Int)) < 0))))]) ⟨rfl, rfl, rfl, trivial⟩
  refine e_then ?_
  refine c_cond ((a1 - (a0.length : Int)) < 0) ha rfl (decide_eq_true_iff) (fun hp3 => ?_) (fun hp3 => ?_)
  · replace hF := if_t hp3 hF
    refine wp_seq ?_
    refine wp_region_lit ?_
    refine op_g ha rfl (g_assign rfl) ?_; clear ha a; intro a ha
    refine wpList_nil ?_
    replace ha := ha.sub (σ' := [(4, (.int .i64 (-1)))]) ⟨rfl, trivial⟩
    refine e_then ?_
    refine wp_ret ?_
    refine e_then_ret ?_
    obtain rfl := Option.some.inj hF
    exact f_ret1 ha rfl rfl ⟨⟨rfl, (show InI (-1) from by decide)⟩, hE⟩
  · replace hF := if_f hp3 hF
    refine wp_skip ?_
    refine e_then ?_
    refine wp_seq ?_
    refine wp_seq ?_
    refine wp_region_lit ?_
    refine op_g ha rfl (g_assign rfl) ?_; clear ha a; intro a ha
    refine wpList_nil ?_
    replace ha := ha.sub (σ' := [(0, va0), (1, (.int .i64 (a1 - (a0.length : Int)))), (5, (.int .i64 0))]) ⟨rfl, rfl, rfl, trivial⟩
    refine e_then ?_
    obtain ⟨o75, ho76, hK77⟩ := bnd_some hF
    obtain ⟨n78, hn79⟩ := lp_some ho76; clear ho76
    refine c_loop (fun a w => ∃ (i73 : Int), Fr 27 [(1, (.int .i64 i73))] a ∧ Chg [] W w ∧ InI i73 ∧ o75 = .inl i73) (fun n a w => ∃ (i37 : Int) (i39 : Int), Fr 27 [(0, va0), (1, (.int .i64 i37)), (5, (.int .i64 i39))] a ∧ Chg [] W w ∧ InI i37 ∧ InI i39 ∧ lpN (fun s => F_laws_szInt64SS_l1 a0 s.1 s.2) n (i37, i39) = some o75) n78 ⟨a1 - (a0.length : Int), 0, ha.sub ⟨rfl, rfl, rfl, trivial⟩, hE, hI1, (show InI 0 from by decide), hn79⟩ ?_ ?_
    · rintro m83 a w36 ⟨i37, i39, ha, hE41, hI38, hI40, hF⟩
      cases m83 with
      | zero => exact (lpN_zero hF).elim
      | succ m83 =>
        obtain ⟨z82, hF, hN81⟩ := lpN_succ hF
        have hF : F_laws_szInt64SS_l1 a0 i37 i39 = some z82 := hF; unfold F_laws_szInt64SS_l1 at hF
        refine wp_seq ?_
        refine wp_seq ?_
        refine wp_region_lit ?_
        refine op_g ha rfl (g_move rfl) ?_; clear ha a; intro a ha
        refine op_g ha rfl (g_move rfl) ?_; clear ha a; intro a ha
        refine op_g ha rfl (g_lenR sl22.und ha0 rfl) ?_; clear ha a; intro a ha
        refine op_g ha rfl (g_lss rfl rfl) ?_; clear ha a; intro a ha
        refine wpList_nil ?_
        replace ha := ha.sub (σ' := [(0, va0), (1, (.int .i64 i37)), (5, (.int .i64 i39)), (15, (.bool (decide (i39 < (a0.length : Int)))))]) ⟨rfl, rfl, rfl, rfl, trivial⟩
        refine e_then ?_
        refine c_cond (i39 < (a0.length : Int)) ha rfl (decide_eq_true_iff) (fun hp84 => ?_) (fun hp84 => ?_)
        · replace hF := if_t hp84 hF
          refine wp_skip ?_
          refine e_then ?_
          refine wp_seq ?_
          refine wp_block ?_
          refine wp_seq ?_
          refine wp_region_lit ?_
          refine op_g ha rfl (g_move rfl) ?_; clear ha a; intro a ha
          refine op_g ha rfl (g_move rfl) ?_; clear ha a; intro a ha
          obtain ⟨x85, g86, gx87, hF⟩ := idx_some hF
          obtain ⟨p88, cs89, f90, hf91, hpb92, hat93, hr94, hi95⟩ := ha0.at g86 gx87
          obtain ⟨v96, rfl, h97⟩ := hr94
          have h97 : Ro Rp.int W f90 v96 x85 := h97
          refine op_g ha rfl (hi95.gives sl22 rfl rfl) ?_; clear ha a; intro a ha
          refine op_g ha rfl (g_load0 hE41 Try.isAgg25 rfl hat93.one) ?_; clear ha a; intro a ha
          refine op_g ha rfl (g_move rfl) ?_; clear ha a; intro a ha
          obtain ⟨x99, hc100, hF⟩ := cal_some hF
          refine o_call ha rfl rfl Try.call28 (W_laws_szInt64S (h97.ext hE41) hI38 hc100) ?_; clear ha a; rintro v101 w102 ⟨⟨rfl, hI104⟩, hx103⟩ a ha
          have hE105 := Ext.trans hE41 hx103
          refine op_g ha rfl (g_assign rfl) ?_; clear ha a; intro a ha
          refine wpList_nil ?_
          replace ha := ha.sub (σ' := [(0, va0), (1, (.int .i64 x99)), (5, (.int .i64 i39))]) ⟨rfl, rfl, rfl, trivial⟩
          refine e_then ?_
          refine wp_seq ?_
          refine wp_region_lit ?_
          refine op_g ha rfl (g_move rfl) ?_; clear ha a; intro a ha
          refine op_g ha rfl (g_lss rfl rfl) ?_; clear ha a; intro a ha
          refine wpList_nil ?_
          replace ha := ha.sub (σ' := [(0, va0), (1, (.int .i64 x99)), (5, (.int .i64 i39)), (25, (.bool (decide (x99 < 0))))]) ⟨rfl, rfl, rfl, rfl, trivial⟩
          refine e_then ?_
          refine c_cond (x99 < 0) ha rfl (decide_eq_true_iff) (fun hp106 => ?_) (fun hp106 => ?_)
          · replace hF := if_t hp106 hF
            refine wp_seq ?_
            refine wp_region_lit ?_
            refine op_g ha rfl (g_assign rfl) ?_; clear ha a; intro a ha
            refine wpList_nil ?_
            replace ha := ha.sub (σ' := [(4, (.int .i64 (-1)))]) ⟨rfl, trivial⟩
            refine e_then ?_
            refine wp_ret ?_
            refine e_blk_ret ?_
            refine e_then_ret ?_
            refine e_lq_ret ?_
            refine e_then_ret ?_
            obtain rfl := Option.some.inj hF
            have e107 := LK_inr hN81; subst e107
            have e108 := BK_inr hK77; subst e108
            exact f_ret1 ha rfl rfl ⟨⟨rfl, (show InI (-1) from by decide)⟩, hE105⟩
          · replace hF := if_f hp106 hF
            refine wp_skip ?_
            refine e_blk ?_
            refine e_then ?_
            refine wp_region_lit ?_
            refine op_g ha rfl (g_move rfl) ?_; clear ha a; intro a ha
            obtain ⟨hI109, hF⟩ := ck_some hF
            refine op_g ha rfl (g_add rfl rfl hI109) ?_; clear ha a; intro a ha
            refine op_g ha rfl (g_assign rfl) ?_; clear ha a; intro a ha
            refine wpList_nil ?_
            replace ha := ha.sub (σ' := [(0, va0), (1, (.int .i64 x99)), (5, (.int .i64 (i39 + 1)))]) ⟨rfl, rfl, rfl, trivial⟩
            refine e_lq ?_
            obtain rfl := Option.some.inj hF
            exact ⟨_, Nat.lt_succ_self _, x99, i39 + 1, ha.sub ⟨rfl, rfl, rfl, trivial⟩, hE105, hI104, hI109, hN81⟩
        · replace hF := if_f hp84 hF
          refine wp_exit ?_
          refine e_then_exit ?_
          refine e_lq_eq ?_
          obtain rfl := Option.some.inj hF
          exact ⟨i37, ha.sub ⟨rfl, trivial⟩, hE41, hI38, (LK_inr hN81).symm⟩
    · rintro a w72 ⟨i73, ha, hE80, hI74, rfl⟩
      have hF : F_laws_szInt64SS_k2 i73 = some _ := hK77; clear hK77; unfold F_laws_szInt64SS_k2 at hF
      refine e_then ?_
      refine wp_seq ?_
      refine wp_region_lit ?_
      refine op_g ha rfl (g_move rfl) ?_; clear ha a; intro a ha
      refine op_g ha rfl (g_assign rfl) ?_; clear ha a; intro a ha
      refine wpList_nil ?_
      replace ha := ha.sub (σ' := [(4, (.int .i64 i73))]) ⟨rfl, trivial⟩
      refine e_then ?_
      refine wp_ret ?_
      obtain rfl := Option.some.inj hF
      exact f_ret1 ha rfl rfl ⟨⟨rfl, hI74⟩, hE80⟩
set_option maxHeartbeats 2000000 in
theorem W_laws_szGraph {W : World} {va0_0 : Value} {fa0_0 : List Nat} {a0_0 : (List (List Int))} (ha0_0 : Ro (Rp.sl 2 Rp.int) W fa0_0 va0_0 a0_0) {a1 : Int} (ha1 : InI a1) {r : Int} (hF : F_laws_szGraph a0_0 a1 = some r) :
    Calls Try.prog 5 [.agg #[va0_0], .int .i64 a1].toArray W (Ret fun u w' => (u = .int .i64 r ∧ InI r) ∧ Ext W w') := by
  refine f_enter Try.func5 rfl Try.ntmps5 rfl ?_
  intro a ha
  replace ha : Fr 12 [(0, (.agg #[va0_0])), (1, (.int .i64 a1))] a := ha
  have hE : Chg [] W W := Chg.refl _ _
  unfold F_laws_szGraph at hF
  refine wp_seq ?_
  refine wp_region_lit ?_
  refine o_box ha rfl rfl rfl ?_; clear ha a; intro b1 w2 hB3 hx4 hlo5 a ha
  have q6 := Zn.one hlo5
  have q7 := Zn.upD q6 hE
  have hE8 := Ext.trans hE hx4
  refine op_g ha rfl (g_assign rfl) ?_; clear ha a; intro a ha
  refine wpList_nil ?_
  replace ha := ha.sub (σ' := [(1, (.int .i64 a1)), (2, (.pointer (some ⟨b1, 0, none⟩)))]) ⟨rfl, rfl, trivial⟩
  refine e_then ?_
  refine wp_seq ?_
  refine wp_region_lit ?_
  refine op_g ha rfl (g_field0 st24_0 rfl) ?_; clear ha a; intro a ha
  refine op_g ha rfl (g_load Try.isAgg22 rfl (hB3.cell rfl)) ?_; clear ha a; intro a ha
  refine op_g ha rfl (g_move rfl) ?_; clear ha a; intro a ha
  obtain ⟨x9, hc10, hF⟩ := cal_some hF
  refine o_call ha rfl rfl Try.call6 (W_laws_szInt64SS (ha0_0.ext hE8) ha1 hc10) ?_; clear ha a; rintro v11 w12 ⟨⟨rfl, hI14⟩, hx13⟩ a ha
  replace hB3 := hB3.ext hx13
  have hE15 := Ext.trans hE8 hx13
  refine op_g ha rfl (g_assign rfl) ?_; clear ha a; intro a ha
  refine wpList_nil ?_
  replace ha := ha.sub (σ' := [(1, (.int .i64 x9))]) ⟨rfl, trivial⟩
  refine e_then ?_
  refine wp_seq ?_
  refine wp_seq ?_
  refine wp_region_lit ?_
  refine op_g ha rfl (g_move rfl) ?_; clear ha a; intro a ha
  refine op_g ha rfl (g_lss rfl rfl) ?_; clear ha a; intro a ha
  refine wpList_nil ?_
  replace ha := ha.sub (σ' := [(1, (.int .i64 x9)), (10, (.bool (decide (x9 < 0))))]) ⟨rfl, rfl, trivial⟩
  refine e_then ?_
  refine c_cond (x9 < 0) ha rfl (decide_eq_true_iff) (fun hp16 => ?_) (fun hp16 => ?_)
  · replace hF := if_t hp16 hF
    refine wp_seq ?_
    refine wp_region_lit ?_
    refine op_g ha rfl (g_assign rfl) ?_; clear ha a; intro a ha
    refine wpList_nil ?_
    replace ha := ha.sub (σ' := [(4, (.int .i64 (-1)))]) ⟨rfl, trivial⟩
    refine e_then ?_
    refine wp_ret ?_
    refine e_then_ret ?_
    obtain rfl := Option.some.inj hF
    exact f_ret1 ha rfl rfl ⟨⟨rfl, (show InI (-1) from by decide)⟩, hE15⟩
  · replace hF := if_f hp16 hF
    refine wp_skip ?_
    refine e_then ?_
    refine wp_seq ?_
    refine wp_region_lit ?_
    refine op_g ha rfl (g_move rfl) ?_; clear ha a; intro a ha
    refine op_g ha rfl (g_assign rfl) ?_; clear ha a; intro a ha
    refine wpList_nil ?_
    replace ha := ha.sub (σ' := [(4, (.int .i64 x9))]) ⟨rfl, trivial⟩
    refine e_then ?_
    refine wp_ret ?_
    obtain rfl := Option.some.inj hF
    exact f_ret1 ha rfl rfl ⟨⟨rfl, hI14⟩, hE15⟩
set_option maxHeartbeats 2000000 in
theorem W_laws_toInt64S {W : World} {va0 : Value} {fa0 : List Nat} {a0 : (List Int)} (ha0 : Ro Rp.int W fa0 va0 a0) {r : (List Int)} (hF : F_laws_toInt64S a0 = some r) :
    Calls Try.prog 10 [va0].toArray W (Ret fun u w' => ∃ (b_u : Int), Ow Rp.int 2 true w' [] b_u u r ∧ Zn W b_u ∧ Ext W w') := by
  refine f_enter Try.func10 rfl Try.ntmps10 rfl ?_
  intro a ha
  replace ha : Fr 22 [(0, va0)] a := ha
  have hE : Chg [] W W := Chg.refl _ _
  unfold F_laws_toInt64S at hF
  refine wp_seq ?_
  refine wp_region_lit ?_
  refine op_g ha rfl (g_assign rfl) ?_; clear ha a; intro a ha
  refine wpList_nil ?_
  replace ha := ha.sub (σ' := [(0, va0)]) ⟨rfl, trivial⟩
  refine e_then ?_
  refine wp_seq ?_
  refine wp_region_lit ?_
  refine op_g ha rfl (g_move rfl) ?_; clear ha a; intro a ha
  refine op_g ha rfl (g_lenR sl25.und ha0 rfl) ?_; clear ha a; intro a ha
  obtain ⟨g5, g5b, hF⟩ := mkS_some hF
  refine o_make (z0 := (0 : Int)) Rp.int ha rfl sl25 rfl (fun w => ⟨rfl, by decide, rfl⟩) rfl g5 g5b ?_; clear ha a; intro v1 w2 h3 hx4 a ha
  obtain ⟨b8, hb8⟩ : ∃ b : Int, b = W.heap.size := ⟨_, rfl⟩; rw [← hb8] at h3
  have q9 := zn_of hb8
  have q10 := Zn.upD q9 hE
  have hE11 := Ext.trans hE hx4
  refine op_g ha rfl (g_assign rfl) ?_; clear ha a; intro a ha
  refine wpList_nil ?_
  replace ha := ha.sub (σ' := [(0, va0), (3, v1)]) ⟨rfl, rfl, trivial⟩
  refine e_then ?_
  refine wp_seq ?_
  refine wp_seq ?_
  refine wp_region_lit ?_
  refine op_g ha rfl (g_assign rfl) ?_; clear ha a; intro a ha
  refine wpList_nil ?_
  refine e_then ?_
  obtain ⟨o118, ho119, hK120⟩ := bnd_some hF
  obtain ⟨n121, hn122⟩ := lp_some ho119; clear ho119
  refine c_loop (fun a w => ∃ (l115 : (List Int)) (v116 : Value) (b117 : Int), Fr 22 [(3, v116)] a ∧ Chg [] W w ∧ Ow Rp.int 2 true w [] b117 v116 l115 ∧ Zn W b117 ∧ o118 = .inl l115) (fun n a w => ∃ (l63 : (List Int)) (i66 : Int) (v64 : Value) (b65 : Int), Fr 22 [(0, va0), (3, v64), (4, (.int .i64 i66))] a ∧ Chg [] W w ∧ InI i66 ∧ Ow Rp.int 2 true w [] b65 v64 l63 ∧ Zn W b65 ∧ lpN (fun s => F_laws_toInt64S_l1 a0 s.1 s.2) n (l63, i66) = some o118) n121 ⟨(List.replicate ((a0.length : Int) : Int).toNat (0 : Int)), 0, v1, b8, ha.sub ⟨rfl, rfl, rfl, trivial⟩, hE11, (show InI 0 from by decide), h3, q10, hn122⟩ ?_ ?_
  · rintro m126 a w59 ⟨l63, i66, v64, b65, ha, hE68, hI67, h61, z62, hF⟩
    cases m126 with
    | zero => exact (lpN_zero hF).elim
    | succ m126 =>
      obtain ⟨z125, hF, hN124⟩ := lpN_succ hF
      have hF : F_laws_toInt64S_l1 a0 l63 i66 = some z125 := hF; unfold F_laws_toInt64S_l1 at hF
      refine wp_seq ?_
      refine wp_seq ?_
      refine wp_region_lit ?_
      refine op_g ha rfl (g_move rfl) ?_; clear ha a; intro a ha
      refine op_g ha rfl (g_move rfl) ?_; clear ha a; intro a ha
      refine op_g ha rfl (g_lenR sl25.und ha0 rfl) ?_; clear ha a; intro a ha
      refine op_g ha rfl (g_lss rfl rfl) ?_; clear ha a; intro a ha
      refine wpList_nil ?_
      replace ha := ha.sub (σ' := [(0, va0), (3, v64), (4, (.int .i64 i66)), (11, (.bool (decide (i66 < (a0.length : Int)))))]) ⟨rfl, rfl, rfl, rfl, trivial⟩
      refine e_then ?_
      refine c_cond (i66 < (a0.length : Int)) ha rfl (decide_eq_true_iff) (fun hp127 => ?_) (fun hp127 => ?_)
      · replace hF := if_t hp127 hF
        refine wp_skip ?_
        refine e_then ?_
        refine wp_seq ?_
        refine wp_block ?_
        refine wp_region_lit ?_
        refine op_g ha rfl (g_move rfl) ?_; clear ha a; intro a ha
        refine op_g ha rfl (g_move rfl) ?_; clear ha a; intro a ha
        refine op_g ha rfl (g_move rfl) ?_; clear ha a; intro a ha
        refine op_g ha rfl (g_move rfl) ?_; clear ha a; intro a ha
        obtain ⟨x128, g129, gx130, hF⟩ := idx_some hF
        obtain ⟨p131, cs132, f133, hf134, hpb135, hat136, hr137, hi138⟩ := ha0.at g129 gx130
        obtain ⟨rfl, hI139, rfl⟩ := hr137
        refine op_g ha rfl (hi138.gives sl25 rfl rfl) ?_; clear ha a; intro a ha
        refine op_g ha rfl (g_load0 hE68 Try.isAgg2 rfl hat136.one) ?_; clear ha a; intro a ha
        obtain ⟨x140, g141, gx142, hF⟩ := idx_some hF
        obtain ⟨p143, cs144, f145, hf146, hpb147, hat148, hr149, hi150⟩ := h61.at g141 gx142
        obtain ⟨rfl, hI151, rfl⟩ := hr149
        refine op_g ha rfl (hi150.gives sl25 rfl rfl) ?_; clear ha a; intro a ha
        refine o_storeE (f := []) (q := x128) ha Try.sizeOf2 rfl rfl rfl h61 hi150 ⟨rfl, hI139, rfl⟩ (Nq.nil _) ?_; intro w152 fs153 h154 hc155 hs156
        obtain rfl := Subst.nil hs156
        have hE157 := Ext.then hE68 hc155 (Zn.bl z62)
        refine wpList_nil ?_
        replace ha := ha.sub (σ' := [(0, va0), (3, v64), (4, (.int .i64 i66))]) ⟨rfl, rfl, rfl, trivial⟩
        refine e_blk ?_
        refine e_then ?_
        refine wp_region_lit ?_
        refine op_g ha rfl (g_move rfl) ?_; clear ha a; intro a ha
        obtain ⟨hI158, hF⟩ := ck_some hF
        refine op_g ha rfl (g_add rfl rfl hI158) ?_; clear ha a; intro a ha
        refine op_g ha rfl (g_assign rfl) ?_; clear ha a; intro a ha
        refine wpList_nil ?_
        replace ha := ha.sub (σ' := [(0, va0), (3, v64), (4, (.int .i64 (i66 + 1)))]) ⟨rfl, rfl, rfl, trivial⟩
        refine e_lq ?_
        obtain rfl := Option.some.inj hF
        exact ⟨_, Nat.lt_succ_self _, (l63.set ((i66 : Int).toNat) x128), i66 + 1, v64, b65, ha.sub ⟨rfl, rfl, rfl, trivial⟩, hE157, hI158, h154, z62, hN124⟩
      · replace hF := if_f hp127 hF
        refine wp_exit ?_
        refine e_then_exit ?_
        refine e_lq_eq ?_
        obtain rfl := Option.some.inj hF
        exact ⟨l63, v64, b65, ha.sub ⟨rfl, trivial⟩, hE68, h61, z62, (LK_inr hN124).symm⟩
  · rintro a w111 ⟨l115, v116, b117, ha, hE123, h113, z114, rfl⟩
    have hF : F_laws_toInt64S_k2 l115 = some _ := hK120; clear hK120; unfold F_laws_toInt64S_k2 at hF
    refine e_then ?_
    refine wp_seq ?_
    refine wp_region_lit ?_
    refine op_g ha rfl (g_move rfl) ?_; clear ha a; intro a ha
    refine op_g ha rfl (g_assign rfl) ?_; clear ha a; intro a ha
    refine wpList_nil ?_
    replace ha := ha.sub (σ' := [(2, v116)]) ⟨rfl, trivial⟩
    refine e_then ?_
    refine wp_ret ?_
    obtain rfl := Option.some.inj hF
    exact f_ret1 ha rfl rfl ⟨_, h113, z114, hE123⟩
set_option maxHeartbeats 2000000 in
theorem W_laws_toInt64SS {W : World} {va0 : Value} {fa0 : List Nat} {a0 : (List (List Int))} (ha0 : Ro (Rp.sl 2 Rp.int) W fa0 va0 a0) {r : (List (List Int))} (hF : F_laws_toInt64SS a0 = some r) :
    Calls Try.prog 9 [va0].toArray W (Ret fun u w' => ∃ (b_u : Int) (fs_u : List Nat), Ow (Rp.sl 2 Rp.int) 25 true w' fs_u b_u u r ∧ Zn W b_u ∧ (∀ k ∈ fs_u, W.heap.size ≤ k) ∧ (bl b_u ++ fs_u).Nodup ∧ Ext W w') := by
  refine f_enter Try.func9 rfl Try.ntmps9 rfl ?_
  intro a ha
  replace ha : Fr 23 [(0, va0)] a := ha
  have hE : Chg [] W W := Chg.refl _ _
  unfold F_laws_toInt64SS at hF
  refine wp_seq ?_
  refine wp_region_lit ?_
  refine op_g ha rfl (g_assign rfl) ?_; clear ha a; intro a ha
  refine wpList_nil ?_
  replace ha := ha.sub (σ' := [(0, va0)]) ⟨rfl, trivial⟩
  refine e_then ?_
  refine wp_seq ?_
  refine wp_region_lit ?_
  refine op_g ha rfl (g_move rfl) ?_; clear ha a; intro a ha
  refine op_g ha rfl (g_lenR sl22.und ha0 rfl) ?_; clear ha a; intro a ha
  obtain ⟨g5, g5b, hF⟩ := mkS_some hF
  refine o_make (z0 := ([] : (List Int))) (Rp.sl 2 Rp.int) ha rfl sl22 rfl (fun w => nil_rep w) rfl g5 g5b ?_; clear ha a; intro v1 w2 h3 hx4 a ha
  obtain ⟨b8, hb8⟩ : ∃ b : Int, b = W.heap.size := ⟨_, rfl⟩; rw [← hb8] at h3
  have q9 := zn_of hb8
  have q10 := Zn.upD q9 hE
  have hE11 := Ext.trans hE hx4
  refine op_g ha rfl (g_assign rfl) ?_; clear ha a; intro a ha
  refine wpList_nil ?_
  replace ha := ha.sub (σ' := [(0, va0), (3, v1)]) ⟨rfl, rfl, trivial⟩
  refine e_then ?_
  refine wp_seq ?_
  refine wp_seq ?_
  refine wp_region_lit ?_
  refine op_g ha rfl (g_assign rfl) ?_; clear ha a; intro a ha
  refine wpList_nil ?_
  refine e_then ?_
  obtain ⟨o181, ho182, hK183⟩ := bnd_some hF
  obtain ⟨n184, hn185⟩ := lp_some ho182; clear ho182
  refine c_loop (fun a w => ∃ (l178 : (List (List Int))) (fs175 : List Nat) (v179 : Value) (b180 : Int), Fr 23 [(3, v179)] a ∧ Chg [] W w ∧ Ow (Rp.sl 2 Rp.int) 25 true w fs175 b180 v179 l178 ∧ Zn W b180 ∧ (∀ k ∈ fs175, W.heap.size ≤ k) ∧ (bl b180 ++ fs175).Nodup ∧ o181 = .inl l178) (fun n a w => ∃ (l96 : (List (List Int))) (i99 : Int) (fs93 : List Nat) (v97 : Value) (b98 : Int), Fr 23 [(0, va0), (3, v97), (4, (.int .i64 i99))] a ∧ Chg [] W w ∧ InI i99 ∧ Ow (Rp.sl 2 Rp.int) 25 true w fs93 b98 v97 l96 ∧ Zn W b98 ∧ (∀ k ∈ fs93, W.heap.size ≤ k) ∧ (bl b98 ++ fs93).Nodup ∧ lpN (fun s => F_laws_toInt64SS_l1 a0 s.1 s.2) n (l96, i99) = some o181) n184 ⟨(List.replicate ((a0.length : Int) : Int).toNat ([] : (List Int))), 0, [], v1, b8, ha.sub ⟨rfl, rfl, rfl, trivial⟩, hE11, (show InI 0 from by decide), h3, q10, (zf_nil _), (bl_nodup b8), hn185⟩ ?_ ?_
  · rintro m189 a w89 ⟨l96, i99, fs93, v97, b98, ha, hE101, hI100, h91, z92, zf94, nd95, hF⟩
    cases m189 with
    | zero => exact (lpN_zero hF).elim
    | succ m189 =>
      obtain ⟨z188, hF, hN187⟩ := lpN_succ hF
      have hF : F_laws_toInt64SS_l1 a0 l96 i99 = some z188 := hF; unfold F_laws_toInt64SS_l1 at hF
      refine wp_seq ?_
      refine wp_seq ?_
      refine wp_region_lit ?_
      refine op_g ha rfl (g_move rfl) ?_; clear ha a; intro a ha
      refine op_g ha rfl (g_move rfl) ?_; clear ha a; intro a ha
      refine op_g ha rfl (g_lenR sl22.und ha0 rfl) ?_; clear ha a; intro a ha
      refine op_g ha rfl (g_lss rfl rfl) ?_; clear ha a; intro a ha
      refine wpList_nil ?_
      replace ha := ha.sub (σ' := [(0, va0), (3, v97), (4, (.int .i64 i99)), (11, (.bool (decide (i99 < (a0.length : Int)))))]) ⟨rfl, rfl, rfl, rfl, trivial⟩
      refine e_then ?_
      refine c_cond (i99 < (a0.length : Int)) ha rfl (decide_eq_true_iff) (fun hp190 => ?_) (fun hp190 => ?_)
      · replace hF := if_t hp190 hF
        refine wp_skip ?_
        refine e_then ?_
        refine wp_seq ?_
        refine wp_block ?_
        refine wp_region_lit ?_
        refine op_g ha rfl (g_move rfl) ?_; clear ha a; intro a ha
        refine op_g ha rfl (g_move rfl) ?_; clear ha a; intro a ha
        refine op_g ha rfl (g_move rfl) ?_; clear ha a; intro a ha
        refine op_g ha rfl (g_move rfl) ?_; clear ha a; intro a ha
        obtain ⟨x191, g192, gx193, hF⟩ := idx_some hF
        obtain ⟨p194, cs195, f196, hf197, hpb198, hat199, hr200, hi201⟩ := ha0.at g192 gx193
        obtain ⟨v202, rfl, h203⟩ := hr200
        have h203 : Ro Rp.int W f196 v202 x191 := h203
        refine op_g ha rfl (hi201.gives sl22 rfl rfl) ?_; clear ha a; intro a ha
        refine op_g ha rfl (g_load0 hE101 Try.isAgg25 rfl hat199.one) ?_; clear ha a; intro a ha
        obtain ⟨x205, hc206, hF⟩ := cal_some hF
        refine o_call ha rfl rfl Try.call10 (W_laws_toInt64S (h203.ext hE101) hc206) ?_; clear ha a; rintro v207 w208 ⟨b210, h211, z212, hx209⟩ a ha
        have q214 := Nq.new h91.fpb z212
        have q215 := Nq.madeO z212 h91.blt
        have q216 := Nf.old z212 (zf_nil _) h91.bnd
        replace h91 := h91.ext hx209
        have hE217 := Ext.trans hE101 hx209
        have q218 := Zn.upD z212 hE101
        obtain ⟨x219, g220, gx221, hF⟩ := idx_some hF
        obtain ⟨p222, cs223, f224, hf225, hpb226, hat227, hr228, hi229⟩ := h91.at g220 gx221
        replace hr228 := (Rp.sl 2 Rp.int).weak hr228
        obtain ⟨v230, rfl, h231⟩ := hr228
        have h231 : Ro Rp.int w208 f224 v230 x219 := h231
        have q233 := Nq.mono q214 (fun k hk => List.mem_append_right (bl b98) (hf225 k hk))
        have q234 := Nq.mono (Ow.ne h91) hf225
        refine op_g ha rfl (hi229.gives sl22 rfl rfl) ?_; clear ha a; intro a ha
        refine o_storeE (f := (bl b210 ++ [])) (q := x205) ha Try.sizeOf25 rfl rfl h211.cells h91 hi229 (Rp.mkO h211) q215 ?_; intro w235 fs236 h237 hc238 hs239
        have q240 := zf_mv q218 (zf_nil _)
        have q241 := dj_of q214
        have q242 := zf_set hs239 zf94 q240
        have q243 := Subst.nd hs239 nd95 (bl_nodup b210) q241
        replace h231 := h231.nq hc238 q234
        have hE244 := Ext.then hE217 hc238 (Zn.bl z92)
        refine wpList_nil ?_
        replace ha := ha.sub (σ' := [(0, va0), (3, v97), (4, (.int .i64 i99))]) ⟨rfl, rfl, rfl, trivial⟩
        refine e_blk ?_
        refine e_then ?_
        refine wp_region_lit ?_
        refine op_g ha rfl (g_move rfl) ?_; clear ha a; intro a ha
        obtain ⟨hI245, hF⟩ := ck_some hF
        refine op_g ha rfl (g_add rfl rfl hI245) ?_; clear ha a; intro a ha
        refine op_g ha rfl (g_assign rfl) ?_; clear ha a; intro a ha
        refine wpList_nil ?_
        replace ha := ha.sub (σ' := [(0, va0), (3, v97), (4, (.int .i64 (i99 + 1)))]) ⟨rfl, rfl, rfl, trivial⟩
        refine e_lq ?_
        obtain rfl := Option.some.inj hF
        exact ⟨_, Nat.lt_succ_self _, (l96.set ((i99 : Int).toNat) x205), i99 + 1, fs236, v97, b98, ha.sub ⟨rfl, rfl, rfl, trivial⟩, hE244, hI245, h237, z92, q242, q243, hN187⟩
      · replace hF := if_f hp190 hF
        refine wp_exit ?_
        refine e_then_exit ?_
        refine e_lq_eq ?_
        obtain rfl := Option.some.inj hF
        exact ⟨l96, fs93, v97, b98, ha.sub ⟨rfl, trivial⟩, hE101, h91, z92, zf94, nd95, (LK_inr hN187).symm⟩
  · rintro a w171 ⟨l178, fs175, v179, b180, ha, hE186, h173, z174, zf176, nd177, rfl⟩
    have hF : F_laws_toInt64SS_k2 l178 = some _ := hK183; clear hK183; unfold F_laws_toInt64SS_k2 at hF
    refine e_then ?_
    refine wp_seq ?_
    refine wp_region_lit ?_
    refine op_g ha rfl (g_move rfl) ?_; clear ha a; intro a ha
    refine op_g ha rfl (g_assign rfl) ?_; clear ha a; intro a ha
    refine wpList_nil ?_
    replace ha := ha.sub (σ' := [(2, v179)]) ⟨rfl, trivial⟩
    refine e_then ?_
    refine wp_ret ?_
    obtain rfl := Option.some.inj hF
    exact f_ret1 ha rfl rfl ⟨_, _, h173, z174, zf176, nd177, hE186⟩
set_option maxHeartbeats 2000000 in
theorem W_laws_toGraph {W : World} {va0_0 : Value} {fa0_0 : List Nat} {a0_0 : (List (List Int))} (ha0_0 : Ro (Rp.sl 2 Rp.int) W fa0_0 va0_0 a0_0) {r : (List (List Int))} (hF : F_laws_toGraph a0_0 = some r) :
    Calls Try.prog 8 [.agg #[va0_0]].toArray W (Ret fun u w' => ∃ (u_0 : Value) (b_u_0 : Int) (fs_u_0 : List Nat), u = .agg #[u_0] ∧ Ow (Rp.sl 2 Rp.int) 25 true w' fs_u_0 b_u_0 u_0 r ∧ Zn W b_u_0 ∧ (∀ k ∈ fs_u_0, W.heap.size ≤ k) ∧ (bl b_u_0 ++ fs_u_0).Nodup ∧ Ext W w') := by
  refine f_enter Try.func8 rfl Try.ntmps8 rfl ?_
  intro a ha
  replace ha : Fr 9 [(0, (.agg #[va0_0]))] a := ha
  have hE : Chg [] W W := Chg.refl _ _
  unfold F_laws_toGraph at hF
  refine wp_seq ?_
  refine wp_region_lit ?_
  refine o_box ha rfl rfl rfl ?_; clear ha a; intro b1 w2 hB3 hx4 hlo5 a ha
  have q6 := Zn.one hlo5
  have q7 := Zn.upD q6 hE
  have hE8 := Ext.trans hE hx4
  refine o_alloc (cs := [(.slice none 0 0)]) ha rfl Try.zeroValue30 rfl ?_; clear ha a; intro b9 w10 hB11 hx12 hlo13 a ha
  have q14 := Zn.one hlo13
  have q15 := Nq.new hB3.fpb q14
  have q16 := Nq.made1 hlo13 hB3.bi
  have q17 := Zn.upD q14 hE8
  replace hB3 := hB3.ext hx12
  have hE18 := Ext.trans hE8 hx12
  refine wpList_nil ?_
  replace ha := ha.sub (σ' := [(1, (.pointer (some ⟨b1, 0, none⟩))), (2, (.pointer (some ⟨b9, 0, none⟩)))]) ⟨rfl, rfl, trivial⟩
  refine e_then ?_
  refine wp_seq ?_
  refine wp_region_lit ?_
  refine o_alloc (cs := [(.slice none 0 0)]) ha rfl Try.zeroValue30 rfl ?_; clear ha a; intro b19 w20 hB21 hx22 hlo23 a ha
  have q24 := Zn.one hlo23
  have q25 := Nq.new hB3.fpb q24
  have q26 := Nq.made1 hlo23 hB3.bi
  have q27 := Nq.new hB11.fpb q24
  have q28 := Nq.made1 hlo23 hB11.bi
  have q29 := Zn.upD q24 hE18
  replace hB3 := hB3.ext hx22
  replace hB11 := hB11.ext hx22
  have hE30 := Ext.trans hE18 hx22
  refine wpList_nil ?_
  refine e_then ?_
  refine wp_seq ?_
  refine wp_region_lit ?_
  refine op_g ha rfl (g_field0 st24_0 rfl) ?_; clear ha a; intro a ha
  refine op_g ha rfl (g_load Try.isAgg22 rfl (hB3.cell rfl)) ?_; clear ha a; intro a ha
  obtain ⟨x31, hc32, hF⟩ := cal_some hF
  refine o_call ha rfl rfl Try.call9 (W_laws_toInt64SS (ha0_0.ext hE30) hc32) ?_; clear ha a; rintro v33 w34 ⟨b36, fs40, h37, z38, zf41, nd42, hx35⟩ a ha
  have q43 := Nq.new hB3.fpb z38
  have q44 := Nq.madeF z38 zf41 hB3.bi
  have q45 := Nq.new hB11.fpb z38
  have q46 := Nq.madeF z38 zf41 hB11.bi
  have q47 := Nq.new hB21.fpb z38
  have q48 := Nq.madeF z38 zf41 hB21.bi
  have q49 := Nf.new hB3.fpb zf41
  have q50 := Nf.new hB11.fpb zf41
  have q51 := Nf.new hB21.fpb zf41
  replace hB3 := hB3.ext hx35
  replace hB11 := hB11.ext hx35
  replace hB21 := hB21.ext hx35
  have hE52 := Ext.trans hE30 hx35
  have q53 := Zn.upD z38 hE30
  have q54 := zf_up zf41 hE30
  refine op_g ha rfl (g_field0 st30_0 rfl) ?_; clear ha a; intro a ha
  refine o_storeB ha hB21 Try.sizeOf22 rfl rfl h37.cells h37.oneC (Nat.le_of_ble_eq_true rfl) ?_; intro w55 hB56 hc57
  replace hc57 := hc57.bl
  replace hB56 : Bx w55 b19 [v33] 30 := hB56
  replace hB3 := hB3.nq hc57 q25
  replace hB11 := hB11.nq hc57 q27
  replace h37 := h37.nq hc57 q48
  have hE58 := Ext.then hE52 hc57 (Zn.bl q29)
  refine wpList_nil ?_
  replace ha := ha.sub (σ' := [(2, (.pointer (some ⟨b9, 0, none⟩))), (3, (.pointer (some ⟨b19, 0, none⟩)))]) ⟨rfl, rfl, trivial⟩
  refine e_then ?_
  refine wp_seq ?_
  refine wp_region_lit ?_
  refine op_g ha rfl (g_loadA (cs := [v33]) Try.isAgg30 Try.sizeOf30 rfl (by simp) hB56.all) ?_; clear ha a; intro a ha
  refine o_storeA (vs := [v33]) ha hB11 Try.sizeOf30 rfl rfl (by intro c hc; simp only [List.mem_cons, List.not_mem_nil, or_false] at hc; rcases hc with hc <;> subst hc <;> first | rfl | exact h37.oneC) rfl ?_; intro w59 hB60 hc61
  replace hc61 := hc61.bl
  replace hB60 : Bx w59 b9 [v33] 30 := hB60
  replace hB56 := hB56.nq hc61 q28
  replace h37 := h37.nq hc61 q46
  have hE62 := Ext.then hE58 hc61 (Zn.bl q17)
  refine wpList_nil ?_
  replace ha := ha.sub (σ' := [(2, (.pointer (some ⟨b9, 0, none⟩)))]) ⟨rfl, trivial⟩
  refine e_then ?_
  refine wp_ret ?_
  obtain rfl := Option.some.inj hF
  exact f_retC (cs := [v33]) ha rfl rfl Try.isAgg30 Try.sizeOf30 hB60 ⟨_, _, _, rfl, h37, q53, q54, nd42, hE62⟩
set_option maxHeartbeats 2000000 in
theorem W_spec_l1Size {W : World} {va0_0 : Value} {fa0_0 : List Nat} {a0_0 : (List (List Int))} (ha0_0 : Ro (Rp.sl 2 Rp.int) W fa0_0 va0_0 a0_0) {r : Int} (hF : F_spec_l1Size a0_0 = some r) :
    Calls Try.prog 32 [.agg #[va0_0]].toArray W (Ret fun u w' => (u = .int .i64 r ∧ InI r) ∧ Ext W w') := by
  refine f_enter Try.func32 rfl Try.ntmps32 rfl ?_
  intro a ha
  replace ha : Fr 6 [(0, (.agg #[va0_0]))] a := ha
  have hE : Chg [] W W := Chg.refl _ _
  unfold F_spec_l1Size at hF
  refine wp_seq ?_
  refine wp_region_lit ?_
  refine o_box ha rfl rfl rfl ?_; clear ha a; intro b1 w2 hB3 hx4 hlo5 a ha
  have q6 := Zn.one hlo5
  have q7 := Zn.upD q6 hE
  have hE8 := Ext.trans hE hx4
  refine op_g ha rfl (g_assign rfl) ?_; clear ha a; intro a ha
  refine wpList_nil ?_
  replace ha := ha.sub (σ' := [(1, (.pointer (some ⟨b1, 0, none⟩)))]) ⟨rfl, trivial⟩
  refine e_then ?_
  refine wp_seq ?_
  refine wp_region_lit ?_
  refine op_g ha rfl (g_field0 st30_0 rfl) ?_; clear ha a; intro a ha
  refine op_g ha rfl (g_load Try.isAgg22 rfl (hB3.cell rfl)) ?_; clear ha a; intro a ha
  refine op_g ha rfl (g_lenR sl22.und ha0_0 rfl) ?_; clear ha a; intro a ha
  refine op_g ha rfl (g_assign rfl) ?_; clear ha a; intro a ha
  refine wpList_nil ?_
  replace ha := ha.sub (σ' := [(2, (.int .i64 (a0_0.length : Int)))]) ⟨rfl, trivial⟩
  refine e_then ?_
  refine wp_ret ?_
  obtain rfl := Option.some.inj hF
  exact f_ret1 ha rfl rfl ⟨⟨rfl, ha0_0.len⟩, hE8⟩
set_option maxHeartbeats 2000000 in
theorem W_spec_l1In {W : World} {a0 : Int} (ha0 : InI a0) {a1 : Int} (ha1 : InI a1) {a2 : Int} (ha2 : InI a2) {r : Bool} (hF : F_spec_l1In a0 a1 a2 = some r) :
    Calls Try.prog 61 [.int .i64 a0, .int .i64 a1, .int .i64 a2].toArray W (Ret fun u w' => u = .bool r ∧ Ext W w') := by
  refine f_enter Try.func61 rfl Try.ntmps61 rfl ?_
  intro a ha
  replace ha : Fr 15 [(0, (.int .i64 a0)), (1, (.int .i64 a1)), (2, (.int .i64 a2))] a := ha
  have hE : Chg [] W W := Chg.refl _ _
  unfold F_spec_l1In at hF
  refine wp_seq ?_
  refine wp_region_lit ?_
  refine op_g ha rfl (g_assign rfl) ?_; clear ha a; intro a ha
  refine wpList_nil ?_
  replace ha := ha.sub (σ' := [(0, (.int .i64 a0)), (1, (.int .i64 a1)), (2, (.int .i64 a2))]) ⟨rfl, rfl, rfl, trivial⟩
  refine e_then ?_
  refine wp_seq ?_
  refine wp_region_lit ?_
  refine op_g ha rfl (g_move rfl) ?_; clear ha a; intro a ha
  refine op_g ha rfl (g_move rfl) ?_; clear ha a; intro a ha
  refine op_g ha rfl (g_geq rfl rfl) ?_; clear ha a; intro a ha
  refine op_g ha rfl (g_move rfl) ?_; clear ha a; intro a ha
  by_cases hp1 : a1 ≤ a0
  · replace hF := if_t hp1 hF
    rw [show (decide (a1 ≤ a0)) = true from (decide_eq_true_iff).2 hp1] at ha
    refine op_want (yields ha rfl rfl) ?_
    refine op_g ha rfl (g_move rfl) ?_; clear ha a; intro a ha
    refine op_want (yields ha rfl rfl) ?_
    refine op_g ha rfl (g_move rfl) ?_; clear ha a; intro a ha
    refine op_want (yields ha rfl rfl) ?_
    refine op_g ha rfl (g_leq rfl rfl) ?_; clear ha a; intro a ha
    refine op_g ha rfl (g_pick rfl rfl) ?_; clear ha a; intro a ha
    refine op_g ha rfl (g_assign rfl) ?_; clear ha a; intro a ha
    refine wpList_nil ?_
    replace ha := ha.sub (σ' := [(6, (.bool (decide (a0 ≤ a2))))]) ⟨rfl, trivial⟩
    refine e_then ?_
    refine wp_ret ?_
    obtain rfl := Option.some.inj hF
    exact f_ret1 ha rfl rfl ⟨rfl, hE⟩
  · replace hF := if_f hp1 hF
    rw [show (decide (a1 ≤ a0)) = false from b_false (decide_eq_true_iff) hp1] at ha
    refine op_unwant ha rfl (yields ha rfl rfl) rfl ?_; clear ha a; intro a ha
    refine op_unwant ha rfl (yields ha rfl rfl) rfl ?_; clear ha a; intro a ha
    refine op_unwant ha rfl (yields ha rfl rfl) rfl ?_; clear ha a; intro a ha
    refine op_g ha rfl (g_pick rfl rfl) ?_; clear ha a; intro a ha
    refine op_g ha rfl (g_assign rfl) ?_; clear ha a; intro a ha
    refine wpList_nil ?_
    replace ha := ha.sub (σ' := [(6, (.bool false))]) ⟨rfl, trivial⟩
    refine e_then ?_
    refine wp_ret ?_
    obtain rfl := Option.some.inj hF
    exact f_ret1 ha rfl rfl ⟨rfl, hE⟩
set_option maxHeartbeats 2000000 in
theorem W_spec_l1Set {W : World} {va0 : Value} {fa0 : List Nat} {a0 : (List Int)} (ha0 : Ro Rp.int W fa0 va0 a0) {a1 : Int} (ha1 : InI a1) {r : Bool} (hF : F_spec_l1Set a0 a1 = some r) :
    Calls Try.prog 63 [va0, .int .i64 a1].toArray W (Ret fun u w' => u = .bool r ∧ Ext W w') := by
  refine f_enter Try.func63 rfl Try.ntmps63 rfl ?_
  intro a ha
  replace ha : Fr 40 [(0, va0), (1, (.int .i64 a1))] a := ha
  have hE : Chg [] W W := Chg.refl _ _
  unfold F_spec_l1Set at hF
  refine wp_seq ?_
  refine wp_region_lit ?_
  refine op_g ha rfl (g_assign rfl) ?_; clear ha a; intro a ha
  refine wpList_nil ?_
  replace ha := ha.sub (σ' := [(0, va0), (1, (.int .i64 a1))]) ⟨rfl, rfl, trivial⟩
  refine e_then ?_
  refine wp_seq ?_
  refine wp_seq ?_
  refine wp_region_lit ?_
  refine op_g ha rfl (g_move rfl) ?_; clear ha a; intro a ha
  refine op_g ha rfl (g_lenR sl25.und ha0 rfl) ?_; clear ha a; intro a ha
  refine op_g ha rfl (g_move rfl) ?_; clear ha a; intro a ha
  refine op_g ha rfl (g_gtr rfl rfl) ?_; clear ha a; intro a ha
  refine wpList_nil ?_
  replace ha := ha.sub (σ' := [(0, va0), (1, (.int .i64 a1)), (9, (.bool (decide (a1 < (a0.length : Int)))))]) ⟨rfl, rfl, rfl, trivial⟩
  refine e_then ?_
  refine c_cond (a1 < (a0.length : Int)) ha rfl (decide_eq_true_iff) (fun hp1 => ?_) (fun hp1 => ?_)
  · replace hF := if_t hp1 hF
    refine wp_seq ?_
    refine wp_region_lit ?_
    refine op_g ha rfl (g_assign rfl) ?_; clear ha a; intro a ha
    refine wpList_nil ?_
    replace ha := ha.sub (σ' := [(4, (.bool false))]) ⟨rfl, trivial⟩
    refine e_then ?_
    refine wp_ret ?_
    refine e_then_ret ?_
    obtain rfl := Option.some.inj hF
    exact f_ret1 ha rfl rfl ⟨rfl, hE⟩
  · replace hF := if_f hp1 hF
    refine wp_skip ?_
    refine e_then ?_
    refine wp_seq ?_
    refine wp_seq ?_
    refine wp_region_lit ?_
    refine op_g ha rfl (g_assign rfl) ?_; clear ha a; intro a ha
    refine wpList_nil ?_
    replace ha := ha.sub (σ' := [(0, va0), (1, (.int .i64 a1)), (5, (.int .i64 0))]) ⟨rfl, rfl, rfl, trivial⟩
    refine e_then ?_
    obtain ⟨o137, ho138, hK139⟩ := bnd_some hF
    obtain ⟨n140, hn141⟩ := lp_some ho138; clear ho138
    refine c_loop (fun a w => Fr 40 [] a ∧ Chg [] W w ∧ o137 = .inl ()) (fun n a w => ∃ (i69 : Int), Fr 40 [(0, va0), (1, (.int .i64 a1)), (5, (.int .i64 i69))] a ∧ Chg [] W w ∧ InI i69 ∧ lpN (fun s => F_spec_l1Set_l1 a0 a1 s) n i69 = some o137) n140 ⟨0, ha.sub ⟨rfl, rfl, rfl, trivial⟩, hE, (show InI 0 from by decide), hn141⟩ ?_ ?_
    · rintro m145 a w68 ⟨i69, ha, hE71, hI70, hF⟩
      cases m145 with
      | zero => exact (lpN_zero hF).elim
      | succ m145 =>
        obtain ⟨z144, hF, hN143⟩ := lpN_succ hF
        have hF : F_spec_l1Set_l1 a0 a1 i69 = some z144 := hF; unfold F_spec_l1Set_l1 at hF
        refine wp_seq ?_
        refine wp_seq ?_
        refine wp_region_lit ?_
        refine op_g ha rfl (g_move rfl) ?_; clear ha a; intro a ha
        refine op_g ha rfl (g_move rfl) ?_; clear ha a; intro a ha
        refine op_g ha rfl (g_lenR sl25.und ha0 rfl) ?_; clear ha a; intro a ha
        refine op_g ha rfl (g_lss rfl rfl) ?_; clear ha a; intro a ha
        refine wpList_nil ?_
        replace ha := ha.sub (σ' := [(0, va0), (1, (.int .i64 a1)), (5, (.int .i64 i69)), (13, (.bool (decide (i69 < (a0.length : Int)))))]) ⟨rfl, rfl, rfl, rfl, trivial⟩
        refine e_then ?_
        refine c_cond (i69 < (a0.length : Int)) ha rfl (decide_eq_true_iff) (fun hp146 => ?_) (fun hp146 => ?_)
        · replace hF := if_t hp146 hF
          refine wp_skip ?_
          refine e_then ?_
          refine wp_seq ?_
          refine wp_block ?_
          refine wp_seq ?_
          refine d_quiet hmix (by kernel_rfl) ?_
          refine q_g ha rfl (g_move rfl) ?_; clear ha a; intro a ha
          refine q_g ha rfl (g_move rfl) ?_; clear ha a; intro a ha
          obtain ⟨x147, g148, gx149, hF⟩ := idx_some hF
          obtain ⟨p150, cs151, f152, hf153, hpb154, hat155, hr156, hi157⟩ := ha0.at g148 gx149
          obtain ⟨rfl, hI158, rfl⟩ := hr156
          refine q_g ha rfl (hi157.gives sl25 rfl rfl) ?_; clear ha a; intro a ha
          refine q_g ha rfl (g_load0 hE71 Try.isAgg2 rfl hat155.one) ?_; clear ha a; intro a ha
          refine q_g ha rfl (g_move rfl) ?_; clear ha a; intro a ha
          obtain ⟨hI159, hF⟩ := ck_some hF
          refine q_g ha rfl (g_sub rfl rfl hI159) ?_; clear ha a; intro a ha
          obtain ⟨x163, hc164, hF⟩ := cal_some hF
          refine q_call (.bool x163) ha rfl rfl Try.call61 (fun w162 hx161 => W_spec_l1In hI158 (show InI 0 from by decide) hI159 hc164) (fun _ _ _ h => ⟨h.1, h.2⟩) ?_; clear ha a; intro a ha
          refine q_g ha rfl (g_not rfl) ?_; clear ha a; intro a ha
          refine q_g ha rfl (g_move rfl) ?_; clear ha a; intro a ha
          by_cases hp165 : ¬ (x163 = true)
          · replace hF := if_t hp165 hF
            rw [show (!x163) = true from (n_iff (Iff.rfl)).2 hp165] at ha
            refine q_unwant ha rfl (yields ha rfl rfl) rfl ?_; clear ha a; intro a ha
            refine q_unwant ha rfl (yields ha rfl rfl) rfl ?_; clear ha a; intro a ha
            refine q_unwant ha rfl (yields ha rfl rfl) rfl ?_; clear ha a; intro a ha
            refine q_unwant0 ha rfl (yields0 ha rfl rfl) ?_; clear ha a; intro a ha
            refine q_unwant0 ha rfl (yields0 ha rfl rfl) ?_; clear ha a; intro a ha
            refine q_unwant0 ha rfl (yields0 ha rfl rfl) ?_; clear ha a; intro a ha
            refine q_unwant0 ha rfl (yields0 ha rfl rfl) ?_; clear ha a; intro a ha
            refine q_unwant0 ha rfl (yields0 ha rfl rfl) ?_; clear ha a; intro a ha
            refine q_unwant0 ha rfl (yields0 ha rfl rfl) ?_; clear ha a; intro a ha
            refine q_unwant0 ha rfl (yields0 ha rfl rfl) ?_; clear ha a; intro a ha
            refine q_unwant0 ha rfl (yields0 ha rfl rfl) ?_; clear ha a; intro a ha
            refine q_unwant0 ha rfl (yields0 ha rfl rfl) ?_; clear ha a; intro a ha
            refine q_unwant0 ha rfl (yields0 ha rfl rfl) ?_; clear ha a; intro a ha
            refine q_unwant ha rfl (yields ha rfl rfl) rfl ?_; clear ha a; intro a ha
            refine q_g ha rfl (g_pick rfl rfl) ?_; clear ha a; intro a ha
            refine q_nil ?_; intro w166 hx167
            have hE168 := Ext.trans hE71 hx167
            replace ha := ha.sub (σ' := [(0, va0), (1, (.int .i64 a1)), (5, (.int .i64 i69)), (39, (.bool true))]) ⟨rfl, rfl, rfl, rfl, trivial⟩
            refine e_then ?_
            refine c_true ha rfl ?_
            refine wp_seq ?_
            refine wp_region_lit ?_
            refine op_g ha rfl (g_assign rfl) ?_; clear ha a; intro a ha
            refine wpList_nil ?_
            replace ha := ha.sub (σ' := [(4, (.bool false))]) ⟨rfl, trivial⟩
            refine e_then ?_
            refine wp_ret ?_
            refine e_blk_ret ?_
            refine e_then_ret ?_
            refine e_lq_ret ?_
            refine e_then_ret ?_
            obtain rfl := Option.some.inj hF
            have e169 := LK_inr hN143; subst e169
            have e170 := BK_inr hK139; subst e170
            exact f_ret1 ha rfl rfl ⟨rfl, hE168⟩
          · replace hF := if_f hp165 hF
            rw [show (!x163) = false from b_false (n_iff (Iff.rfl)) hp165] at ha
            refine q_want (yields ha rfl rfl) ?_
            refine q_g ha rfl (g_move rfl) ?_; clear ha a; intro a ha
            refine q_want (yields ha rfl rfl) ?_
            refine q_g ha rfl (g_gtr rfl rfl) ?_; clear ha a; intro a ha
            refine q_want (yields ha rfl rfl) ?_
            refine q_g ha rfl (g_move rfl) ?_; clear ha a; intro a ha
            by_cases hp171 : 0 < i69
            · replace hF := if_t hp171 hF
              rw [show (decide (0 < i69)) = true from (decide_eq_true_iff).2 hp171] at ha
              refine q_want (yields ha rfl rfl) ?_
              refine q_g ha rfl (g_move rfl) ?_; clear ha a; intro a ha
              refine q_want (yields ha rfl rfl) ?_
              refine q_g ha rfl (g_move rfl) ?_; clear ha a; intro a ha
              refine q_want (yields ha rfl rfl) ?_
              obtain ⟨x172, g173, gx174, hF⟩ := idx_some hF
              obtain ⟨p175, cs176, f177, hf178, hpb179, hat180, hr181, hi182⟩ := ha0.at g173 gx174
              obtain ⟨rfl, hI183, rfl⟩ := hr181
              refine q_g ha rfl (hi182.gives sl25 rfl rfl) ?_; clear ha a; intro a ha
              refine q_want (yields ha rfl rfl) ?_
              refine q_g ha rfl (g_load0 hE71 Try.isAgg2 rfl hat180.one) ?_; clear ha a; intro a ha
              refine q_want (yields ha rfl rfl) ?_
              refine q_g ha rfl (g_move rfl) ?_; clear ha a; intro a ha
              refine q_want (yields ha rfl rfl) ?_
              refine q_g ha rfl (g_move rfl) ?_; clear ha a; intro a ha
              refine q_want (yields ha rfl rfl) ?_
              obtain ⟨hI184, hF⟩ := ck_some hF
              refine q_g ha rfl (g_sub rfl rfl hI184) ?_; clear ha a; intro a ha
              refine q_want (yields ha rfl rfl) ?_
              obtain ⟨x186, g187, gx188, hF⟩ := idx_some hF
              obtain ⟨p189, cs190, f191, hf192, hpb193, hat194, hr195, hi196⟩ := ha0.at g187 gx188
              obtain ⟨rfl, hI197, rfl⟩ := hr195
              refine q_g ha rfl (hi196.gives sl25 rfl rfl) ?_; clear ha a; intro a ha
              refine q_want (yields ha rfl rfl) ?_
              refine q_g ha rfl (g_load0 hE71 Try.isAgg2 rfl hat194.one) ?_; clear ha a; intro a ha
              refine q_want (yields ha rfl rfl) ?_
              refine q_g ha rfl (g_leq rfl rfl) ?_; clear ha a; intro a ha
              refine q_want (yields ha rfl rfl) ?_
              refine q_g ha rfl (g_pick rfl rfl) ?_; clear ha a; intro a ha
              refine q_g ha rfl (g_pick rfl rfl) ?_; clear ha a; intro a ha
              refine q_nil ?_; intro w198 hx199
              have hE200 := Ext.trans hE71 hx199
              replace ha := ha.sub (σ' := [(0, va0), (1, (.int .i64 a1)), (5, (.int .i64 i69)), (25, (.int .i64 i69)), (26, (.bool true)), (27, (.bool true)), (28, va0), (29, (.int .i64 i69)), (30, (.pointer (some p175))), (31, (.int .i64 x172)), (32, va0), (33, (.int .i64 i69)), (34, (.int .i64 (i69 - 1))), (35, (.pointer (some p189))), (36, (.int .i64 x186)), (37, (.bool (decide (x172 ≤ x186)))), (38, (.bool (decide (x172 ≤ x186)))), (39, (.bool (decide (x172 ≤ x186))))]) ⟨rfl, rfl, rfl, rfl, rfl, rfl, rfl, rfl, rfl, rfl, rfl, rfl, rfl, rfl, rfl, rfl, rfl, rfl, trivial⟩
              refine e_then ?_
              refine c_cond (x172 ≤ x186) ha rfl (decide_eq_true_iff) (fun hp201 => ?_) (fun hp201 => ?_)
              · replace hF := if_t hp201 hF
                refine wp_seq ?_
                refine wp_region_lit ?_
                refine op_g ha rfl (g_assign rfl) ?_; clear ha a; intro a ha
                refine wpList_nil ?_
                replace ha := ha.sub (σ' := [(4, (.bool false))]) ⟨rfl, trivial⟩
                refine e_then ?_
                refine wp_ret ?_
                refine e_blk_ret ?_
                refine e_then_ret ?_
                refine e_lq_ret ?_
                refine e_then_ret ?_
                obtain rfl := Option.some.inj hF
                have e202 := LK_inr hN143; subst e202
                have e203 := BK_inr hK139; subst e203
                exact f_ret1 ha rfl rfl ⟨rfl, hE200⟩
              · replace hF := if_f hp201 hF
                refine wp_skip ?_
                refine e_blk ?_
                refine e_then ?_
                refine wp_region_lit ?_
                refine op_g ha rfl (g_move rfl) ?_; clear ha a; intro a ha
                obtain ⟨hI204, hF⟩ := ck_some hF
                refine op_g ha rfl (g_add rfl rfl hI204) ?_; clear ha a; intro a ha
                refine op_g ha rfl (g_assign rfl) ?_; clear ha a; intro a ha
                refine wpList_nil ?_
                replace ha := ha.sub (σ' := [(0, va0), (1, (.int .i64 a1)), (5, (.int .i64 (i69 + 1))), (25, (.int .i64 i69)), (26, (.bool true)), (27, (.bool true)), (28, va0), (29, (.int .i64 i69)), (30, (.pointer (some p175))), (31, (.int .i64 x172)), (32, va0), (33, (.int .i64 i69)), (34, (.int .i64 (i69 - 1))), (35, (.pointer (some p189))), (36, (.int .i64 x186)), (37, (.bool (decide (x172 ≤ x186)))), (38, (.bool (decide (x172 ≤ x186))))]) ⟨rfl, rfl, rfl, rfl, rfl, rfl, rfl, rfl, rfl, rfl, rfl, rfl, rfl, rfl, rfl, rfl, rfl, trivial⟩
                refine e_lq ?_
                obtain rfl := Option.some.inj hF
                exact ⟨_, Nat.lt_succ_self _, i69 + 1, ha.sub ⟨rfl, rfl, rfl, trivial⟩, hE200, hI204, hN143⟩
            · replace hF := if_f hp171 hF
              rw [show (decide (0 < i69)) = false from b_false (decide_eq_true_iff) hp171] at ha
              refine q_unwant ha rfl (yields ha rfl rfl) rfl ?_; clear ha a; intro a ha
              refine q_unwant ha rfl (yields ha rfl rfl) rfl ?_; clear ha a; intro a ha
              refine q_unwant ha rfl (yields ha rfl rfl) rfl ?_; clear ha a; intro a ha
              refine q_unwant ha rfl (yields ha rfl rfl) rfl ?_; clear ha a; intro a ha
              refine q_unwant ha rfl (yields ha rfl rfl) rfl ?_; clear ha a; intro a ha
              refine q_unwant ha rfl (yields ha rfl rfl) rfl ?_; clear ha a; intro a ha
              refine q_unwant ha rfl (yields ha rfl rfl) rfl ?_; clear ha a; intro a ha
              refine q_unwant ha rfl (yields ha rfl rfl) rfl ?_; clear ha a; intro a ha
              refine q_unwant ha rfl (yields ha rfl rfl) rfl ?_; clear ha a; intro a ha
              refine q_unwant ha rfl (yields ha rfl rfl) rfl ?_; clear ha a; intro a ha
              refine q_want (yields ha rfl rfl) ?_
              refine q_g ha rfl (g_pick rfl rfl) ?_; clear ha a; intro a ha
              refine q_g ha rfl (g_pick rfl rfl) ?_; clear ha a; intro a ha
              refine q_nil ?_; intro w206 hx207
              have hE208 := Ext.trans hE71 hx207
              replace ha := ha.sub (σ' := [(0, va0), (1, (.int .i64 a1)), (5, (.int .i64 i69)), (25, (.int .i64 i69)), (26, (.bool false)), (27, (.bool false)), (38, (.bool false)), (39, (.bool false))]) ⟨rfl, rfl, rfl, rfl, rfl, rfl, rfl, rfl, trivial⟩
              refine e_then ?_
              refine c_false ha rfl ?_
              refine wp_skip ?_
              refine e_blk ?_
              refine e_then ?_
              refine wp_region_lit ?_
              refine op_g ha rfl (g_move rfl) ?_; clear ha a; intro a ha
              obtain ⟨hI209, hF⟩ := ck_some hF
              refine op_g ha rfl (g_add rfl rfl hI209) ?_; clear ha a; intro a ha
              refine op_g ha rfl (g_assign rfl) ?_; clear ha a; intro a ha
              refine wpList_nil ?_
              replace ha := ha.sub (σ' := [(0, va0), (1, (.int .i64 a1)), (5, (.int .i64 (i69 + 1))), (25, (.int .i64 i69)), (26, (.bool false)), (27, (.bool false)), (38, (.bool false))]) ⟨rfl, rfl, rfl, rfl, rfl, rfl, rfl, trivial⟩
              refine e_lq ?_
              obtain rfl := Option.some.inj hF
              exact ⟨_, Nat.lt_succ_self _, i69 + 1, ha.sub ⟨rfl, rfl, rfl, trivial⟩, hE208, hI209, hN143⟩
        · replace hF := if_f hp146 hF
          refine wp_exit ?_
          refine e_then_exit ?_
          refine e_lq_eq ?_
          obtain rfl := Option.some.inj hF
          exact ⟨ha.sub trivial, hE71, (LK_inr hN143).symm⟩
    · rintro a w136 ⟨ha, hE142, rfl⟩
      have hF : F_spec_l1Set_k2 = some _ := hK139; clear hK139; unfold F_spec_l1Set_k2 at hF
      refine e_then ?_
      refine wp_seq ?_
      refine wp_region_lit ?_
      refine op_g ha rfl (g_assign rfl) ?_; clear ha a; intro a ha
      refine wpList_nil ?_
      refine e_then ?_
      refine wp_ret ?_
      obtain rfl := Option.some.inj hF
      exact f_ret1 ha rfl rfl ⟨rfl, hE142⟩
set_option maxHeartbeats 2000000 in
theorem W_spec_l1Has {W : World} {va0 : Value} {fa0 : List Nat} {a0 : (List Int)} (ha0 : Ro Rp.int W fa0 va0 a0) {a1 : Int} (ha1 : InI a1) {r : Bool} (hF : F_spec_l1Has a0 a1 = some r) :
    Calls Try.prog 54 [va0, .int .i64 a1].toArray W (Ret fun u w' => u = .bool r ∧ Ext W w') := by
  refine f_enter Try.func54 rfl Try.ntmps54 rfl ?_
  intro a ha
  replace ha : Fr 18 [(0, va0), (1, (.int .i64 a1))] a := ha
  have hE : Chg [] W W := Chg.refl _ _
  unfold F_spec_l1Has at hF
  refine wp_seq ?_
  refine wp_region_lit ?_
  refine op_g ha rfl (g_assign rfl) ?_; clear ha a; intro a ha
  refine wpList_nil ?_
  replace ha := ha.sub (σ' := [(0, va0), (1, (.int .i64 a1))]) ⟨rfl, rfl, trivial⟩
  refine e_then ?_
  refine wp_seq ?_
  refine wp_seq ?_
  refine wp_region_lit ?_
  refine op_g ha rfl (g_assign rfl) ?_; clear ha a; intro a ha
  refine wpList_nil ?_
  refine e_then ?_
  obtain ⟨o46, ho47, hK48⟩ := bnd_some hF
  obtain ⟨n49, hn50⟩ := lp_some ho47; clear ho47
  refine c_loop (fun a w => Fr 18 [] a ∧ Chg [] W w ∧ o46 = .inl ()) (fun n a w => ∃ (i23 : Int), Fr 18 [(0, va0), (1, (.int .i64 a1)), (5, (.int .i64 i23))] a ∧ Chg [] W w ∧ InI i23 ∧ lpN (fun s => F_spec_l1Has_l1 a0 a1 s) n i23 = some o46) n49 ⟨0, ha.sub ⟨rfl, rfl, rfl, trivial⟩, hE, (show InI 0 from by decide), hn50⟩ ?_ ?_
  · rintro m54 a w22 ⟨i23, ha, hE25, hI24, hF⟩
    cases m54 with
    | zero => exact (lpN_zero hF).elim
    | succ m54 =>
      obtain ⟨z53, hF, hN52⟩ := lpN_succ hF
      have hF : F_spec_l1Has_l1 a0 a1 i23 = some z53 := hF; unfold F_spec_l1Has_l1 at hF
      refine wp_seq ?_
      refine wp_seq ?_
      refine wp_region_lit ?_
      refine op_g ha rfl (g_move rfl) ?_; clear ha a; intro a ha
      refine op_g ha rfl (g_move rfl) ?_; clear ha a; intro a ha
      refine op_g ha rfl (g_lenR sl25.und ha0 rfl) ?_; clear ha a; intro a ha
      refine op_g ha rfl (g_lss rfl rfl) ?_; clear ha a; intro a ha
      refine wpList_nil ?_
      replace ha := ha.sub (σ' := [(0, va0), (1, (.int .i64 a1)), (5, (.int .i64 i23)), (9, (.bool (decide (i23 < (a0.length : Int)))))]) ⟨rfl, rfl, rfl, rfl, trivial⟩
      refine e_then ?_
      refine c_cond (i23 < (a0.length : Int)) ha rfl (decide_eq_true_iff) (fun hp55 => ?_) (fun hp55 => ?_)
      · replace hF := if_t hp55 hF
        refine wp_skip ?_
        refine e_then ?_
        refine wp_seq ?_
        refine wp_block ?_
        refine wp_seq ?_
        refine wp_region_lit ?_
        refine op_g ha rfl (g_move rfl) ?_; clear ha a; intro a ha
        refine op_g ha rfl (g_move rfl) ?_; clear ha a; intro a ha
        obtain ⟨x56, g57, gx58, hF⟩ := idx_some hF
        obtain ⟨p59, cs60, f61, hf62, hpb63, hat64, hr65, hi66⟩ := ha0.at g57 gx58
        obtain ⟨rfl, hI67, rfl⟩ := hr65
        refine op_g ha rfl (hi66.gives sl25 rfl rfl) ?_; clear ha a; intro a ha
        refine op_g ha rfl (g_load0 hE25 Try.isAgg2 rfl hat64.one) ?_; clear ha a; intro a ha
        refine op_g ha rfl (g_move rfl) ?_; clear ha a; intro a ha
        refine op_g ha rfl (g_eql rfl rfl) ?_; clear ha a; intro a ha
        refine wpList_nil ?_
        replace ha := ha.sub (σ' := [(0, va0), (1, (.int .i64 a1)), (5, (.int .i64 i23)), (17, (.bool (decide (x56 = a1))))]) ⟨rfl, rfl, rfl, rfl, trivial⟩
        refine e_then ?_
        refine c_cond (x56 = a1) ha rfl (decide_eq_true_iff) (fun hp68 => ?_) (fun hp68 => ?_)
        · replace hF := if_t hp68 hF
          refine wp_seq ?_
          refine wp_region_lit ?_
          refine op_g ha rfl (g_assign rfl) ?_; clear ha a; intro a ha
          refine wpList_nil ?_
          replace ha := ha.sub (σ' := [(4, (.bool true))]) ⟨rfl, trivial⟩
          refine e_then ?_
          refine wp_ret ?_
          refine e_blk_ret ?_
          refine e_then_ret ?_
          refine e_lq_ret ?_
          refine e_then_ret ?_
          obtain rfl := Option.some.inj hF
          have e69 := LK_inr hN52; subst e69
          have e70 := BK_inr hK48; subst e70
          exact f_ret1 ha rfl rfl ⟨rfl, hE25⟩
        · replace hF := if_f hp68 hF
          refine wp_skip ?_
          refine e_blk ?_
          refine e_then ?_
          refine wp_region_lit ?_
          refine op_g ha rfl (g_move rfl) ?_; clear ha a; intro a ha
          obtain ⟨hI71, hF⟩ := ck_some hF
          refine op_g ha rfl (g_add rfl rfl hI71) ?_; clear ha a; intro a ha
          refine op_g ha rfl (g_assign rfl) ?_; clear ha a; intro a ha
          refine wpList_nil ?_
          replace ha := ha.sub (σ' := [(0, va0), (1, (.int .i64 a1)), (5, (.int .i64 (i23 + 1)))]) ⟨rfl, rfl, rfl, trivial⟩
          refine e_lq ?_
          obtain rfl := Option.some.inj hF
          exact ⟨_, Nat.lt_succ_self _, i23 + 1, ha.sub ⟨rfl, rfl, rfl, trivial⟩, hE25, hI71, hN52⟩
      · replace hF := if_f hp55 hF
        refine wp_exit ?_
        refine e_then_exit ?_
        refine e_lq_eq ?_
        obtain rfl := Option.some.inj hF
        exact ⟨ha.sub trivial, hE25, (LK_inr hN52).symm⟩
  · rintro a w45 ⟨ha, hE51, rfl⟩
    have hF : F_spec_l1Has_k2 = some _ := hK48; clear hK48; unfold F_spec_l1Has_k2 at hF
    refine e_then ?_
    refine wp_seq ?_
    refine wp_region_lit ?_
    refine op_g ha rfl (g_assign rfl) ?_; clear ha a; intro a ha
    refine wpList_nil ?_
    refine e_then ?_
    refine wp_ret ?_
    obtain rfl := Option.some.inj hF
    exact f_ret1 ha rfl rfl ⟨rfl, hE51⟩
set_option maxHeartbeats 2000000 in
theorem W_spec_GraphOk {W : World} {va0_0 : Value} {fa0_0 : List Nat} {a0_0 : (List (List Int))} (ha0_0 : Ro (Rp.sl 2 Rp.int) W fa0_0 va0_0 a0_0) {r : Bool} (hF : F_spec_GraphOk a0_0 = some r) :
    Calls Try.prog 41 [.agg #[va0_0]].toArray W (Ret fun u w' => u = .bool r ∧ Ext W w') := by
  refine f_enter Try.func41 rfl Try.ntmps41 rfl ?_
  intro a ha
  replace ha : Fr 64 [(0, (.agg #[va0_0]))] a := ha
  have hE : Chg [] W W := Chg.refl _ _
  unfold F_spec_GraphOk at hF
  refine wp_seq ?_
  refine wp_region_lit ?_
  refine o_box ha rfl rfl rfl ?_; clear ha a; intro b1 w2 hB3 hx4 hlo5 a ha
  have q6 := Zn.one hlo5
  have q7 := Zn.upD q6 hE
  have hE8 := Ext.trans hE hx4
  refine op_g ha rfl (g_assign rfl) ?_; clear ha a; intro a ha
  refine wpList_nil ?_
  replace ha := ha.sub (σ' := [(1, (.pointer (some ⟨b1, 0, none⟩)))]) ⟨rfl, trivial⟩
  refine e_then ?_
  refine wp_seq ?_
  refine wp_region_lit ?_
  refine op_g ha rfl (g_loadA (cs := [va0_0]) Try.isAgg30 Try.sizeOf30 rfl (by simp) hB3.all) ?_; clear ha a; intro a ha
  obtain ⟨x9, hc10, hF⟩ := cal_some hF
  refine o_call ha rfl rfl Try.call32 (W_spec_l1Size (ha0_0.ext hE8) hc10) ?_; clear ha a; rintro v11 w12 ⟨⟨rfl, hI14⟩, hx13⟩ a ha
  replace hB3 := hB3.ext hx13
  have hE15 := Ext.trans hE8 hx13
  refine op_g ha rfl (g_assign rfl) ?_; clear ha a; intro a ha
  refine wpList_nil ?_
  replace ha := ha.sub (σ' := [(1, (.pointer (some ⟨b1, 0, none⟩))), (3, (.int .i64 x9))]) ⟨rfl, rfl, trivial⟩
  refine e_then ?_
  refine wp_seq ?_
  refine wp_seq ?_
  refine wp_region_lit ?_
  refine op_g ha rfl (g_move rfl) ?_; clear ha a; intro a ha
  obtain ⟨x16, hc17, hF⟩ := cal_some hF
  refine o_call ha rfl rfl Try.call61 (W_spec_l1In hI14 (show InI 1 from by decide) (show InI 16 from by decide) hc17) ?_; clear ha a; rintro v18 w19 ⟨rfl, hx20⟩ a ha
  replace hB3 := hB3.ext hx20
  have hE21 := Ext.trans hE15 hx20
  refine op_g ha rfl (g_not rfl) ?_; clear ha a; intro a ha
  refine wpList_nil ?_
  replace ha := ha.sub (σ' := [(1, (.pointer (some ⟨b1, 0, none⟩))), (3, (.int .i64 x9)), (11, (.bool (!x16)))]) ⟨rfl, rfl, rfl, trivial⟩
  refine e_then ?_
  refine c_cond (¬ (x16 = true)) ha rfl (n_iff (Iff.rfl)) (fun hp22 => ?_) (fun hp22 => ?_)
  · replace hF := if_t hp22 hF
    refine wp_seq ?_
    refine wp_region_lit ?_
    refine op_g ha rfl (g_assign rfl) ?_; clear ha a; intro a ha
    refine wpList_nil ?_
    replace ha := ha.sub (σ' := [(2, (.bool false))]) ⟨rfl, trivial⟩
    refine e_then ?_
    refine wp_ret ?_
    refine e_then_ret ?_
    obtain rfl := Option.some.inj hF
    exact f_ret1 ha rfl rfl ⟨rfl, hE21⟩
  · replace hF := if_f hp22 hF
    refine wp_skip ?_
    refine e_then ?_
    refine wp_seq ?_
    refine wp_seq ?_
    refine wp_region_lit ?_
    refine op_g ha rfl (g_assign rfl) ?_; clear ha a; intro a ha
    refine wpList_nil ?_
    replace ha := ha.sub (σ' := [(1, (.pointer (some ⟨b1, 0, none⟩))), (3, (.int .i64 x9)), (4, (.int .i64 0))]) ⟨rfl, rfl, rfl, trivial⟩
    refine e_then ?_
    obtain ⟨o136, ho137, hK138⟩ := bnd_some hF
    obtain ⟨n139, hn140⟩ := lp_some ho137; clear ho137
    refine c_loop (fun a w => Fr 64 [(1, (.pointer (some ⟨b1, 0, none⟩))), (3, (.int .i64 x9))] a ∧ Chg [] W w ∧ Bx w b1 [va0_0] 30 ∧ Zn W (b1 : Int) ∧ o136 = .inl ()) (fun n a w => ∃ (i80 : Int), Fr 64 [(1, (.pointer (some ⟨b1, 0, none⟩))), (3, (.int .i64 x9)), (4, (.int .i64 i80))] a ∧ Chg [] W w ∧ InI i80 ∧ Bx w b1 [va0_0] 30 ∧ Zn W (b1 : Int) ∧ lpN (fun s => F_spec_GraphOk_l1 a0_0 x9 s) n i80 = some o136) n139 ⟨0, ha.sub ⟨rfl, rfl, rfl, trivial⟩, hE21, (show InI 0 from by decide), hB3, q7, hn140⟩ ?_ ?_
    · rintro m144 a w77 ⟨i80, ha, hE82, hI81, hB78, z79, hF⟩
      cases m144 with
      | zero => exact (lpN_zero hF).elim
      | succ m144 =>
        obtain ⟨z143, hF, hN142⟩ := lpN_succ hF
        have hF : F_spec_GraphOk_l1 a0_0 x9 i80 = some z143 := hF; unfold F_spec_GraphOk_l1 at hF
        refine wp_seq ?_
        refine wp_seq ?_
        refine wp_region_lit ?_
        refine op_g ha rfl (g_move rfl) ?_; clear ha a; intro a ha
        refine op_g ha rfl (g_move rfl) ?_; clear ha a; intro a ha
        refine op_g ha rfl (g_lss rfl rfl) ?_; clear ha a; intro a ha
        refine wpList_nil ?_
        replace ha := ha.sub (σ' := [(1, (.pointer (some ⟨b1, 0, none⟩))), (3, (.int .i64 x9)), (4, (.int .i64 i80)), (14, (.bool (decide (i80 < x9))))]) ⟨rfl, rfl, rfl, rfl, trivial⟩
        refine e_then ?_
        refine c_cond (i80 < x9) ha rfl (decide_eq_true_iff) (fun hp145 => ?_) (fun hp145 => ?_)
        · replace hF := if_t hp145 hF
          refine wp_skip ?_
          refine e_then ?_
          refine wp_seq ?_
          refine wp_block ?_
          refine wp_seq ?_
          refine wp_region_lit ?_
          refine op_g ha rfl (g_field0 st30_0 rfl) ?_; clear ha a; intro a ha
          refine op_g ha rfl (g_load Try.isAgg22 rfl (hB78.cell rfl)) ?_; clear ha a; intro a ha
          refine op_g ha rfl (g_move rfl) ?_; clear ha a; intro a ha
          obtain ⟨x146, g147, gx148, hF⟩ := idx_some hF
          obtain ⟨p149, cs150, f151, hf152, hpb153, hat154, hr155, hi156⟩ := ha0_0.at g147 gx148
          obtain ⟨v157, rfl, h158⟩ := hr155
          have h158 : Ro Rp.int W f151 v157 x146 := h158
          refine op_g ha rfl (hi156.gives sl22 rfl rfl) ?_; clear ha a; intro a ha
          refine op_g ha rfl (g_load0 hE82 Try.isAgg25 rfl hat154.one) ?_; clear ha a; intro a ha
          refine op_g ha rfl (g_move rfl) ?_; clear ha a; intro a ha
          obtain ⟨x160, hc161, hF⟩ := cal_some hF
          refine o_call ha rfl rfl Try.call63 (W_spec_l1Set (h158.ext hE82) hI14 hc161) ?_; clear ha a; rintro v162 w163 ⟨rfl, hx164⟩ a ha
          replace hB78 := hB78.ext hx164
          have hE165 := Ext.trans hE82 hx164
          refine op_g ha rfl (g_not rfl) ?_; clear ha a; intro a ha
          refine op_g ha rfl (g_move rfl) ?_; clear ha a; intro a ha
          by_cases hp166 : ¬ (x160 = true)
          · replace hF := if_t hp166 hF
            rw [show (!x160) = true from (n_iff (Iff.rfl)).2 hp166] at ha
            refine op_unwant ha rfl (yields ha rfl rfl) rfl ?_; clear ha a; intro a ha
            refine op_unwant ha rfl (yields ha rfl rfl) rfl ?_; clear ha a; intro a ha
            refine op_unwant ha rfl (yields ha rfl rfl) rfl ?_; clear ha a; intro a ha
            refine op_unwant ha rfl (yields ha rfl rfl) rfl ?_; clear ha a; intro a ha
            refine op_unwant ha rfl (yields ha rfl rfl) rfl ?_; clear ha a; intro a ha
            refine op_unwant ha rfl (yields ha rfl rfl) rfl ?_; clear ha a; intro a ha
            refine op_unwant ha rfl (yields ha rfl rfl) rfl ?_; clear ha a; intro a ha
            refine op_g ha rfl (g_pick rfl rfl) ?_; clear ha a; intro a ha
            refine wpList_nil ?_
            replace ha := ha.sub (σ' := [(1, (.pointer (some ⟨b1, 0, none⟩))), (3, (.int .i64 x9)), (4, (.int .i64 i80)), (33, (.bool true))]) ⟨rfl, rfl, rfl, rfl, trivial⟩
            refine e_then ?_
            refine c_true ha rfl ?_
            refine wp_seq ?_
            refine wp_region_lit ?_
            refine op_g ha rfl (g_assign rfl) ?_; clear ha a; intro a ha
            refine wpList_nil ?_
            replace ha := ha.sub (σ' := [(2, (.bool false))]) ⟨rfl, trivial⟩
            refine e_then ?_
            refine wp_ret ?_
            refine e_blk_ret ?_
            refine e_then_ret ?_
            refine e_lq_ret ?_
            refine e_then_ret ?_
            obtain rfl := Option.some.inj hF
            have e167 := LK_inr hN142; subst e167
            have e168 := BK_inr hK138; subst e168
            exact f_ret1 ha rfl rfl ⟨rfl, hE165⟩
          · replace hF := if_f hp166 hF
            rw [show (!x160) = false from b_false (n_iff (Iff.rfl)) hp166] at ha
            refine op_want (yields ha rfl rfl) ?_
            refine op_g ha rfl (g_field0 st30_0 rfl) ?_; clear ha a; intro a ha
            refine op_want (yields ha rfl rfl) ?_
            refine op_g ha rfl (g_load Try.isAgg22 rfl (hB78.cell rfl)) ?_; clear ha a; intro a ha
            refine op_want (yields ha rfl rfl) ?_
            refine op_g ha rfl (g_move rfl) ?_; clear ha a; intro a ha
            refine op_want (yields ha rfl rfl) ?_
            obtain ⟨x169, g170, gx171, hF⟩ := idx_some hF
            obtain ⟨p172, cs173, f174, hf175, hpb176, hat177, hr178, hi179⟩ := ha0_0.at g170 gx171
            obtain ⟨v180, rfl, h181⟩ := hr178
            have h181 : Ro Rp.int W f174 v180 x169 := h181
            refine op_g ha rfl (hi179.gives sl22 rfl rfl) ?_; clear ha a; intro a ha
            refine op_want (yields ha rfl rfl) ?_
            refine op_g ha rfl (g_load0 hE165 Try.isAgg25 rfl hat177.one) ?_; clear ha a; intro a ha
            refine op_want (yields ha rfl rfl) ?_
            refine op_g ha rfl (g_move rfl) ?_; clear ha a; intro a ha
            refine op_want (yields ha rfl rfl) ?_
            obtain ⟨x183, hc184, hF⟩ := cal_some hF
            refine o_call ha rfl rfl Try.call54 (W_spec_l1Has (h181.ext hE165) hI81 hc184) ?_; clear ha a; rintro v185 w186 ⟨rfl, hx187⟩ a ha
            replace hB78 := hB78.ext hx187
            have hE188 := Ext.trans hE165 hx187
            refine op_g ha rfl (g_pick rfl rfl) ?_; clear ha a; intro a ha
            refine wpList_nil ?_
            replace ha := ha.sub (σ' := [(1, (.pointer (some ⟨b1, 0, none⟩))), (3, (.int .i64 x9)), (4, (.int .i64 i80)), (26, (.pointer (some ⟨b1, 0, none⟩))), (27, va0_0), (28, (.int .i64 i80)), (29, (.pointer (some p172))), (30, v180), (31, (.int .i64 i80)), (32, (.bool x183)), (33, (.bool x183))]) ⟨rfl, rfl, rfl, rfl, rfl, rfl, rfl, rfl, rfl, rfl, rfl, trivial⟩
            refine e_then ?_
            refine c_cond (x183 = true) ha rfl (Iff.rfl) (fun hp189 => ?_) (fun hp189 => ?_)
            · replace hF := if_t hp189 hF
              refine wp_seq ?_
              refine wp_region_lit ?_
              refine op_g ha rfl (g_assign rfl) ?_; clear ha a; intro a ha
              refine wpList_nil ?_
              replace ha := ha.sub (σ' := [(2, (.bool false))]) ⟨rfl, trivial⟩
              refine e_then ?_
              refine wp_ret ?_
              refine e_blk_ret ?_
              refine e_then_ret ?_
              refine e_lq_ret ?_
              refine e_then_ret ?_
              obtain rfl := Option.some.inj hF
              have e190 := LK_inr hN142; subst e190
              have e191 := BK_inr hK138; subst e191
              exact f_ret1 ha rfl rfl ⟨rfl, hE188⟩
            · replace hF := if_f hp189 hF
              refine wp_skip ?_
              refine e_blk ?_
              refine e_then ?_
              refine wp_region_lit ?_
              refine op_g ha rfl (g_move rfl) ?_; clear ha a; intro a ha
              obtain ⟨hI192, hF⟩ := ck_some hF
              refine op_g ha rfl (g_add rfl rfl hI192) ?_; clear ha a; intro a ha
              refine op_g ha rfl (g_assign rfl) ?_; clear ha a; intro a ha
              refine wpList_nil ?_
              replace ha := ha.sub (σ' := [(1, (.pointer (some ⟨b1, 0, none⟩))), (3, (.int .i64 x9)), (4, (.int .i64 (i80 + 1))), (26, (.pointer (some ⟨b1, 0, none⟩))), (27, va0_0), (28, (.int .i64 i80)), (29, (.pointer (some p172))), (30, v180), (31, (.int .i64 i80)), (32, (.bool x183))]) ⟨rfl, rfl, rfl, rfl, rfl, rfl, rfl, rfl, rfl, rfl, trivial⟩
              refine e_lq ?_
              obtain rfl := Option.some.inj hF
              exact ⟨_, Nat.lt_succ_self _, i80 + 1, ha.sub ⟨rfl, rfl, rfl, trivial⟩, hE188, hI192, hB78, z79, hN142⟩
        · replace hF := if_f hp145 hF
          refine wp_exit ?_
          refine e_then_exit ?_
          refine e_lq_eq ?_
          obtain rfl := Option.some.inj hF
          exact ⟨ha.sub ⟨rfl, rfl, trivial⟩, hE82, hB78, z79, (LK_inr hN142).symm⟩
    · rintro a w133 ⟨ha, hE141, hB134, z135, rfl⟩
      have hF : F_spec_GraphOk_k2 a0_0 x9 = some _ := hK138; clear hK138; unfold F_spec_GraphOk_k2 at hF
      refine e_then ?_
      refine wp_seq ?_
      refine wp_seq ?_
      refine wp_region_lit ?_
      refine op_g ha rfl (g_assign rfl) ?_; clear ha a; intro a ha
      refine wpList_nil ?_
      refine e_then ?_
      obtain ⟨o675, ho676, hK677⟩ := bnd_some hF
      obtain ⟨n678, hn679⟩ := lp_some ho676; clear ho676
      refine c_loop (fun a w => Fr 64 [] a ∧ Chg [] W w ∧ o675 = .inl ()) (fun n a w => ∃ (i436 : Int), Fr 64 [(1, (.pointer (some ⟨b1, 0, none⟩))), (3, (.int .i64 x9)), (5, (.int .i64 i436))] a ∧ Chg [] W w ∧ InI i436 ∧ Bx w b1 [va0_0] 30 ∧ Zn W (b1 : Int) ∧ lpN (fun s => F_spec_GraphOk_l3 a0_0 x9 s) n i436 = some o675) n678 ⟨0, ha.sub ⟨rfl, rfl, rfl, trivial⟩, hE141, (show InI 0 from by decide), hB134, z135, hn679⟩ ?_ ?_
      · rintro m683 a w433 ⟨i436, ha, hE438, hI437, hB434, z435, hF⟩
        cases m683 with
        | zero => exact (lpN_zero hF).elim
        | succ m683 =>
          obtain ⟨z682, hF, hN681⟩ := lpN_succ hF
          have hF : F_spec_GraphOk_l3 a0_0 x9 i436 = some z682 := hF; unfold F_spec_GraphOk_l3 at hF
          refine wp_seq ?_
          refine wp_seq ?_
          refine wp_region_lit ?_
          refine op_g ha rfl (g_move rfl) ?_; clear ha a; intro a ha
          refine op_g ha rfl (g_move rfl) ?_; clear ha a; intro a ha
          refine op_g ha rfl (g_lss rfl rfl) ?_; clear ha a; intro a ha
          refine wpList_nil ?_
          replace ha := ha.sub (σ' := [(1, (.pointer (some ⟨b1, 0, none⟩))), (3, (.int .i64 x9)), (5, (.int .i64 i436)), (36, (.bool (decide (i436 < x9))))]) ⟨rfl, rfl, rfl, rfl, trivial⟩
          refine e_then ?_
          refine c_cond (i436 < x9) ha rfl (decide_eq_true_iff) (fun hp684 => ?_) (fun hp684 => ?_)
          · replace hF := if_t hp684 hF
            refine wp_skip ?_
            refine e_then ?_
            refine wp_seq ?_
            refine wp_block ?_
            refine wp_seq ?_
            refine wp_region_lit ?_
            refine op_g ha rfl (g_assign rfl) ?_; clear ha a; intro a ha
            refine wpList_nil ?_
            replace ha := ha.sub (σ' := [(1, (.pointer (some ⟨b1, 0, none⟩))), (3, (.int .i64 x9)), (5, (.int .i64 i436)), (6, (.int .i64 0))]) ⟨rfl, rfl, rfl, rfl, trivial⟩
            refine e_then ?_
            obtain ⟨o838, ho839, hK840⟩ := bnd_some hF
            obtain ⟨n841, hn842⟩ := lp_some ho839; clear ho839
            refine c_loop (fun a w => Fr 64 [(1, (.pointer (some ⟨b1, 0, none⟩))), (3, (.int .i64 x9)), (5, (.int .i64 i436))] a ∧ Chg [] W w ∧ Bx w b1 [va0_0] 30 ∧ Zn W (b1 : Int) ∧ o838 = .inl ()) (fun n a w => ∃ (i762 : Int), Fr 64 [(1, (.pointer (some ⟨b1, 0, none⟩))), (3, (.int .i64 x9)), (5, (.int .i64 i436)), (6, (.int .i64 i762))] a ∧ Chg [] W w ∧ InI i762 ∧ Bx w b1 [va0_0] 30 ∧ Zn W (b1 : Int) ∧ lpN (fun s => F_spec_GraphOk_l4 a0_0 i436 s) n i762 = some o838) n841 ⟨0, ha.sub ⟨rfl, rfl, rfl, rfl, trivial⟩, hE438, (show InI 0 from by decide), hB434, z435, hn842⟩ ?_ ?_
            · rintro m846 a w759 ⟨i762, ha, hE764, hI763, hB760, z761, hF⟩
              cases m846 with
              | zero => exact (lpN_zero hF).elim
              | succ m846 =>
                obtain ⟨z845, hF, hN844⟩ := lpN_succ hF
                have hF : F_spec_GraphOk_l4 a0_0 i436 i762 = some z845 := hF; unfold F_spec_GraphOk_l4 at hF
                refine wp_seq ?_
                refine wp_seq ?_
                refine wp_region_lit ?_
                refine op_g ha rfl (g_move rfl) ?_; clear ha a; intro a ha
                refine op_g ha rfl (g_field0 st30_0 rfl) ?_; clear ha a; intro a ha
                refine op_g ha rfl (g_load Try.isAgg22 rfl (hB760.cell rfl)) ?_; clear ha a; intro a ha
                refine op_g ha rfl (g_move rfl) ?_; clear ha a; intro a ha
                obtain ⟨x847, g848, gx849, hF⟩ := idx_some hF
                obtain ⟨p850, cs851, f852, hf853, hpb854, hat855, hr856, hi857⟩ := ha0_0.at g848 gx849
                obtain ⟨v858, rfl, h859⟩ := hr856
                have h859 : Ro Rp.int W f852 v858 x847 := h859
                refine op_g ha rfl (hi857.gives sl22 rfl rfl) ?_; clear ha a; intro a ha
                refine op_g ha rfl (g_load0 hE764 Try.isAgg25 rfl hat855.one) ?_; clear ha a; intro a ha
                refine op_g ha rfl (g_lenR sl25.und h859 rfl) ?_; clear ha a; intro a ha
                refine op_g ha rfl (g_lss rfl rfl) ?_; clear ha a; intro a ha
                refine wpList_nil ?_
                replace ha := ha.sub (σ' := [(1, (.pointer (some ⟨b1, 0, none⟩))), (3, (.int .i64 x9)), (5, (.int .i64 i436)), (6, (.int .i64 i762)), (46, (.bool (decide (i762 < (x847.length : Int)))))]) ⟨rfl, rfl, rfl, rfl, rfl, trivial⟩
                refine e_then ?_
                refine c_cond (i762 < (x847.length : Int)) ha rfl (decide_eq_true_iff) (fun hp861 => ?_) (fun hp861 => ?_)
                · replace hF := if_t hp861 hF
                  refine wp_skip ?_
                  refine e_then ?_
                  refine wp_seq ?_
                  refine wp_block ?_
                  refine wp_seq ?_
                  refine d_quiet hmix (by kernel_rfl) ?_
                  refine q_g ha rfl (g_field0 st30_0 rfl) ?_; clear ha a; intro a ha
                  refine q_g ha rfl (g_load Try.isAgg22 rfl (hB760.cell rfl)) ?_; clear ha a; intro a ha
                  refine q_g ha rfl (g_field0 st30_0 rfl) ?_; clear ha a; intro a ha
                  refine q_g ha rfl (g_load Try.isAgg22 rfl (hB760.cell rfl)) ?_; clear ha a; intro a ha
                  refine q_g ha rfl (g_move rfl) ?_; clear ha a; intro a ha
                  obtain ⟨x862, g863, gx864, hF⟩ := idx_some hF
                  obtain ⟨p865, cs866, f867, hf868, hpb869, hat870, hr871, hi872⟩ := ha0_0.at g863 gx864
                  obtain ⟨v873, rfl, h874⟩ := hr871
                  have h874 : Ro Rp.int W f867 v873 x862 := h874
                  refine q_g ha rfl (hi872.gives sl22 rfl rfl) ?_; clear ha a; intro a ha
                  refine q_g ha rfl (g_load0 hE764 Try.isAgg25 rfl hat870.one) ?_; clear ha a; intro a ha
                  refine q_g ha rfl (g_move rfl) ?_; clear ha a; intro a ha
                  obtain ⟨x876, g877, gx878, hF⟩ := idx_some hF
                  obtain ⟨p879, cs880, f881, hf882, hpb883, hat884, hr885, hi886⟩ := h874.at g877 gx878
                  obtain ⟨rfl, hI887, rfl⟩ := hr885
                  refine q_g ha rfl (hi886.gives sl25 rfl rfl) ?_; clear ha a; intro a ha
                  refine q_g ha rfl (g_load0 hE764 Try.isAgg2 rfl hat884.one) ?_; clear ha a; intro a ha
                  obtain ⟨x888, g889, gx890, hF⟩ := idx_some hF
                  obtain ⟨p891, cs892, f893, hf894, hpb895, hat896, hr897, hi898⟩ := ha0_0.at g889 gx890
                  obtain ⟨v899, rfl, h900⟩ := hr897
                  have h900 : Ro Rp.int W f893 v899 x888 := h900
                  refine q_g ha rfl (hi898.gives sl22 rfl rfl) ?_; clear ha a; intro a ha
                  refine q_g ha rfl (g_load0 hE764 Try.isAgg25 rfl hat896.one) ?_; clear ha a; intro a ha
                  refine q_g ha rfl (g_move rfl) ?_; clear ha a; intro a ha
                  obtain ⟨x904, hc905, hF⟩ := cal_some hF
                  refine q_call (.bool x904) ha rfl rfl Try.call54 (fun w903 hx902 => W_spec_l1Has (h900.ext (Ext.trans hE764 hx902)) hI437 hc905) (fun _ _ _ h => ⟨h.1, h.2⟩) ?_; clear ha a; intro a ha
                  refine q_g ha rfl (g_not rfl) ?_; clear ha a; intro a ha
                  refine q_nil ?_; intro w906 hx907
                  replace hB760 := hB760.ext hx907
                  have hE908 := Ext.trans hE764 hx907
                  replace ha := ha.sub (σ' := [(1, (.pointer (some ⟨b1, 0, none⟩))), (3, (.int .i64 x9)), (5, (.int .i64 i436)), (6, (.int .i64 i762)), (63, (.bool (!x904)))]) ⟨rfl, rfl, rfl, rfl, rfl, trivial⟩
                  refine e_then ?_
                  refine c_cond (¬ (x904 = true)) ha rfl (n_iff (Iff.rfl)) (fun hp909 => ?_) (fun hp909 => ?_)
                  · replace hF := if_t hp909 hF
                    refine wp_seq ?_
                    refine wp_region_lit ?_
                    refine op_g ha rfl (g_assign rfl) ?_; clear ha a; intro a ha
                    refine wpList_nil ?_
                    replace ha := ha.sub (σ' := [(2, (.bool false))]) ⟨rfl, trivial⟩
                    refine e_then ?_
                    refine wp_ret ?_
                    refine e_blk_ret ?_
                    refine e_then_ret ?_
                    refine e_lq_ret ?_
                    refine e_blk_ret ?_
                    refine e_then_ret ?_
                    refine e_lq_ret ?_
                    refine e_then_ret ?_
                    obtain rfl := Option.some.inj hF
                    have e910 := LK_inr hN844; subst e910
                    have e911 := BK_inr hK840; subst e911
                    have e912 := LK_inr hN681; subst e912
                    have e913 := BK_inr hK677; subst e913
                    exact f_ret1 ha rfl rfl ⟨rfl, hE908⟩
                  · replace hF := if_f hp909 hF
                    refine wp_skip ?_
                    refine e_blk ?_
                    refine e_then ?_
                    refine wp_region_lit ?_
                    refine op_g ha rfl (g_move rfl) ?_; clear ha a; intro a ha
                    obtain ⟨hI914, hF⟩ := ck_some hF
                    refine op_g ha rfl (g_add rfl rfl hI914) ?_; clear ha a; intro a ha
                    refine op_g ha rfl (g_assign rfl) ?_; clear ha a; intro a ha
                    refine wpList_nil ?_
                    replace ha := ha.sub (σ' := [(1, (.pointer (some ⟨b1, 0, none⟩))), (3, (.int .i64 x9)), (5, (.int .i64 i436)), (6, (.int .i64 (i762 + 1)))]) ⟨rfl, rfl, rfl, rfl, trivial⟩
                    refine e_lq ?_
                    obtain rfl := Option.some.inj hF
                    exact ⟨_, Nat.lt_succ_self _, i762 + 1, ha.sub ⟨rfl, rfl, rfl, rfl, trivial⟩, hE908, hI914, hB760, z761, hN844⟩
                · replace hF := if_f hp861 hF
                  refine wp_exit ?_
                  refine e_then_exit ?_
                  refine e_lq_eq ?_
                  obtain rfl := Option.some.inj hF
                  exact ⟨ha.sub ⟨rfl, rfl, rfl, trivial⟩, hE764, hB760, z761, (LK_inr hN844).symm⟩
            · rintro a w835 ⟨ha, hE843, hB836, z837, rfl⟩
              have hF : F_spec_GraphOk_k5 i436 = some _ := hK840; clear hK840; unfold F_spec_GraphOk_k5 at hF
              refine e_blk ?_
              refine e_then ?_
              refine wp_region_lit ?_
              refine op_g ha rfl (g_move rfl) ?_; clear ha a; intro a ha
              obtain ⟨hI916, hF⟩ := ck_some hF
              refine op_g ha rfl (g_add rfl rfl hI916) ?_; clear ha a; intro a ha
              refine op_g ha rfl (g_assign rfl) ?_; clear ha a; intro a ha
              refine wpList_nil ?_
              replace ha := ha.sub (σ' := [(1, (.pointer (some ⟨b1, 0, none⟩))), (3, (.int .i64 x9)), (5, (.int .i64 (i436 + 1)))]) ⟨rfl, rfl, rfl, trivial⟩
              refine e_lq ?_
              obtain rfl := Option.some.inj hF
              exact ⟨_, Nat.lt_succ_self _, i436 + 1, ha.sub ⟨rfl, rfl, rfl, trivial⟩, hE843, hI916, hB836, z837, hN681⟩
          · replace hF := if_f hp684 hF
            refine wp_exit ?_
            refine e_then_exit ?_
            refine e_lq_eq ?_
            obtain rfl := Option.some.inj hF
            exact ⟨ha.sub trivial, hE438, (LK_inr hN681).symm⟩
      · rintro a w674 ⟨ha, hE680, rfl⟩
        have hF : F_spec_GraphOk_k6 = some _ := hK677; clear hK677; unfold F_spec_GraphOk_k6 at hF
        refine e_then ?_
        refine wp_seq ?_
        refine wp_region_lit ?_
        refine op_g ha rfl (g_assign rfl) ?_; clear ha a; intro a ha
        refine wpList_nil ?_
        refine e_then ?_
        refine wp_ret ?_
        obtain rfl := Option.some.inj hF
        exact f_ret1 ha rfl rfl ⟨rfl, hE680⟩
set_option maxHeartbeats 2000000 in
theorem W_spec_l1There {W : World} {va0_0 : Value} {fa0_0 : List Nat} {a0_0 : (List (List Int))} (ha0_0 : Ro (Rp.sl 2 Rp.int) W fa0_0 va0_0 a0_0) {a1 : Int} (ha1 : InI a1) {r : Bool} (hF : F_spec_l1There a0_0 a1 = some r) :
    Calls Try.prog 67 [.agg #[va0_0], .int .i64 a1].toArray W (Ret fun u w' => u = .bool r ∧ Ext W w') := by
  refine f_enter Try.func67 rfl Try.ntmps67 rfl ?_
  intro a ha
  replace ha : Fr 10 [(0, (.agg #[va0_0])), (1, (.int .i64 a1))] a := ha
  have hE : Chg [] W W := Chg.refl _ _
  unfold F_spec_l1There at hF
  refine wp_seq ?_
  refine wp_region_lit ?_
  refine o_box ha rfl rfl rfl ?_; clear ha a; intro b1 w2 hB3 hx4 hlo5 a ha
  have q6 := Zn.one hlo5
  have q7 := Zn.upD q6 hE
  have hE8 := Ext.trans hE hx4
  refine op_g ha rfl (g_assign rfl) ?_; clear ha a; intro a ha
  refine wpList_nil ?_
  replace ha := ha.sub (σ' := [(1, (.int .i64 a1)), (2, (.pointer (some ⟨b1, 0, none⟩)))]) ⟨rfl, rfl, trivial⟩
  refine e_then ?_
  refine wp_seq ?_
  refine wp_region_lit ?_
  refine op_g ha rfl (g_move rfl) ?_; clear ha a; intro a ha
  refine op_g ha rfl (g_loadA (cs := [va0_0]) Try.isAgg30 Try.sizeOf30 rfl (by simp) hB3.all) ?_; clear ha a; intro a ha
  obtain ⟨x9, hc10, hF⟩ := cal_some hF
  refine o_call ha rfl rfl Try.call32 (W_spec_l1Size (ha0_0.ext hE8) hc10) ?_; clear ha a; rintro v11 w12 ⟨⟨rfl, hI14⟩, hx13⟩ a ha
  replace hB3 := hB3.ext hx13
  have hE15 := Ext.trans hE8 hx13
  obtain ⟨hI16, hF⟩ := ck_some hF
  refine op_g ha rfl (g_sub rfl rfl hI16) ?_; clear ha a; intro a ha
  obtain ⟨x18, hc19, hF⟩ := cal_some hF
  refine o_call ha rfl rfl Try.call61 (W_spec_l1In ha1 (show InI 0 from by decide) hI16 hc19) ?_; clear ha a; rintro v20 w21 ⟨rfl, hx22⟩ a ha
  replace hB3 := hB3.ext hx22
  have hE23 := Ext.trans hE15 hx22
  refine op_g ha rfl (g_assign rfl) ?_; clear ha a; intro a ha
  refine wpList_nil ?_
  replace ha := ha.sub (σ' := [(4, (.bool x18))]) ⟨rfl, trivial⟩
  refine e_then ?_
  refine wp_ret ?_
  obtain rfl := Option.some.inj hF
  exact f_ret1 ha rfl rfl ⟨rfl, hE23⟩
set_option maxHeartbeats 2000000 in
theorem W_spec_l1Edge {W : World} {va0_0 : Value} {fa0_0 : List Nat} {a0_0 : (List (List Int))} (ha0_0 : Ro (Rp.sl 2 Rp.int) W fa0_0 va0_0 a0_0) {a1 : Int} (ha1 : InI a1) {a2 : Int} (ha2 : InI a2) {r : Bool} (hF : F_spec_l1Edge a0_0 a1 a2 = some r) :
    Calls Try.prog 45 [.agg #[va0_0], .int .i64 a1, .int .i64 a2].toArray W (Ret fun u w' => u = .bool r ∧ Ext W w') := by
  refine f_enter Try.func45 rfl Try.ntmps45 rfl ?_
  intro a ha
  replace ha : Fr 14 [(0, (.agg #[va0_0])), (1, (.int .i64 a1)), (2, (.int .i64 a2))] a := ha
  have hE : Chg [] W W := Chg.refl _ _
  unfold F_spec_l1Edge at hF
  refine wp_seq ?_
  refine wp_region_lit ?_
  refine o_box ha rfl rfl rfl ?_; clear ha a; intro b1 w2 hB3 hx4 hlo5 a ha
  have q6 := Zn.one hlo5
  have q7 := Zn.upD q6 hE
  have hE8 := Ext.trans hE hx4
  refine op_g ha rfl (g_assign rfl) ?_; clear ha a; intro a ha
  refine wpList_nil ?_
  replace ha := ha.sub (σ' := [(1, (.int .i64 a1)), (2, (.int .i64 a2)), (3, (.pointer (some ⟨b1, 0, none⟩)))]) ⟨rfl, rfl, rfl, trivial⟩
  refine e_then ?_
  refine wp_seq ?_
  refine wp_region_lit ?_
  refine op_g ha rfl (g_field0 st30_0 rfl) ?_; clear ha a; intro a ha
  refine op_g ha rfl (g_load Try.isAgg22 rfl (hB3.cell rfl)) ?_; clear ha a; intro a ha
  refine op_g ha rfl (g_move rfl) ?_; clear ha a; intro a ha
  obtain ⟨x9, g10, gx11, hF⟩ := idx_some hF
  obtain ⟨p12, cs13, f14, hf15, hpb16, hat17, hr18, hi19⟩ := ha0_0.at g10 gx11
  obtain ⟨v20, rfl, h21⟩ := hr18
  have h21 : Ro Rp.int W f14 v20 x9 := h21
  refine op_g ha rfl (hi19.gives sl22 rfl rfl) ?_; clear ha a; intro a ha
  refine op_g ha rfl (g_load0 hE8 Try.isAgg25 rfl hat17.one) ?_; clear ha a; intro a ha
  refine op_g ha rfl (g_move rfl) ?_; clear ha a; intro a ha
  obtain ⟨x23, hc24, hF⟩ := cal_some hF
  refine o_call ha rfl rfl Try.call54 (W_spec_l1Has (h21.ext hE8) ha2 hc24) ?_; clear ha a; rintro v25 w26 ⟨rfl, hx27⟩ a ha
  replace hB3 := hB3.ext hx27
  have hE28 := Ext.trans hE8 hx27
  refine op_g ha rfl (g_assign rfl) ?_; clear ha a; intro a ha
  refine wpList_nil ?_
  replace ha := ha.sub (σ' := [(6, (.bool x23))]) ⟨rfl, trivial⟩
  refine e_then ?_
  refine wp_ret ?_
  obtain rfl := Option.some.inj hF
  exact f_ret1 ha rfl rfl ⟨rfl, hE28⟩
set_option maxHeartbeats 2000000 in
theorem W_spec_EdgeIn {W : World} {va0_0 : Value} {fa0_0 : List Nat} {a0_0 : (List (List Int))} (ha0_0 : Ro (Rp.sl 2 Rp.int) W fa0_0 va0_0 a0_0) {a1 : Int} (ha1 : InI a1) {a2 : Int} (ha2 : InI a2) {r : Bool} (hF : F_spec_EdgeIn a0_0 a1 a2 = some r) :
    Calls Try.prog 48 [.agg #[va0_0], .int .i64 a1, .int .i64 a2].toArray W (Ret fun u w' => u = .bool r ∧ Ext W w') := by
  refine f_enter Try.func48 rfl Try.ntmps48 rfl ?_
  intro a ha
  replace ha : Fr 25 [(0, (.agg #[va0_0])), (1, (.int .i64 a1)), (2, (.int .i64 a2))] a := ha
  have hE : Chg [] W W := Chg.refl _ _
  unfold F_spec_EdgeIn at hF
  refine wp_seq ?_
  refine wp_region_lit ?_
  refine o_box ha rfl rfl rfl ?_; clear ha a; intro b1 w2 hB3 hx4 hlo5 a ha
  have q6 := Zn.one hlo5
  have q7 := Zn.upD q6 hE
  have hE8 := Ext.trans hE hx4
  refine op_g ha rfl (g_assign rfl) ?_; clear ha a; intro a ha
  refine wpList_nil ?_
  replace ha := ha.sub (σ' := [(1, (.int .i64 a1)), (2, (.int .i64 a2)), (3, (.pointer (some ⟨b1, 0, none⟩)))]) ⟨rfl, rfl, rfl, trivial⟩
  refine e_then ?_
  refine wp_seq ?_
  refine wp_region_lit ?_
  refine op_g ha rfl (g_loadA (cs := [va0_0]) Try.isAgg30 Try.sizeOf30 rfl (by simp) hB3.all) ?_; clear ha a; intro a ha
  obtain ⟨x9, hc10, hF⟩ := cal_some hF
  refine o_call ha rfl rfl Try.call41 (W_spec_GraphOk (ha0_0.ext hE8) hc10) ?_; clear ha a; rintro v11 w12 ⟨rfl, hx13⟩ a ha
  replace hB3 := hB3.ext hx13
  have hE14 := Ext.trans hE8 hx13
  refine op_g ha rfl (g_move rfl) ?_; clear ha a; intro a ha
  by_cases hp15 : x9 = true
  · replace hF := if_t hp15 hF
    rw [show (x9) = true from (Iff.rfl).2 hp15] at ha
    refine op_want (yields ha rfl rfl) ?_
    refine op_g ha rfl (g_loadA (cs := [va0_0]) Try.isAgg30 Try.sizeOf30 rfl (by simp) hB3.all) ?_; clear ha a; intro a ha
    refine op_want (yields ha rfl rfl) ?_
    refine op_g ha rfl (g_move rfl) ?_; clear ha a; intro a ha
    refine op_want (yields ha rfl rfl) ?_
    obtain ⟨x16, hc17, hF⟩ := cal_some hF
    refine o_call ha rfl rfl Try.call67 (W_spec_l1There (ha0_0.ext hE14) ha1 hc17) ?_; clear ha a; rintro v18 w19 ⟨rfl, hx20⟩ a ha
    replace hB3 := hB3.ext hx20
    have hE21 := Ext.trans hE14 hx20
    refine op_g ha rfl (g_pick rfl rfl) ?_; clear ha a; intro a ha
    refine op_g ha rfl (g_move rfl) ?_; clear ha a; intro a ha
    by_cases hp22 : x16 = true
    · replace hF := if_t hp22 hF
      rw [show (x16) = true from (Iff.rfl).2 hp22] at ha
      refine op_want (yields ha rfl rfl) ?_
      refine op_g ha rfl (g_loadA (cs := [va0_0]) Try.isAgg30 Try.sizeOf30 rfl (by simp) hB3.all) ?_; clear ha a; intro a ha
      refine op_want (yields ha rfl rfl) ?_
      refine op_g ha rfl (g_move rfl) ?_; clear ha a; intro a ha
      refine op_want (yields ha rfl rfl) ?_
      obtain ⟨x23, hc24, hF⟩ := cal_some hF
      refine o_call ha rfl rfl Try.call67 (W_spec_l1There (ha0_0.ext hE21) ha2 hc24) ?_; clear ha a; rintro v25 w26 ⟨rfl, hx27⟩ a ha
      replace hB3 := hB3.ext hx27
      have hE28 := Ext.trans hE21 hx27
      refine op_g ha rfl (g_pick rfl rfl) ?_; clear ha a; intro a ha
      refine op_g ha rfl (g_move rfl) ?_; clear ha a; intro a ha
      by_cases hp29 : x23 = true
      · replace hF := if_t hp29 hF
        rw [show (x23) = true from (Iff.rfl).2 hp29] at ha
        refine op_want (yields ha rfl rfl) ?_
        refine op_g ha rfl (g_loadA (cs := [va0_0]) Try.isAgg30 Try.sizeOf30 rfl (by simp) hB3.all) ?_; clear ha a; intro a ha
        refine op_want (yields ha rfl rfl) ?_
        refine op_g ha rfl (g_move rfl) ?_; clear ha a; intro a ha
        refine op_want (yields ha rfl rfl) ?_
        refine op_g ha rfl (g_move rfl) ?_; clear ha a; intro a ha
        refine op_want (yields ha rfl rfl) ?_
        obtain ⟨x30, hc31, hF⟩ := cal_some hF
        refine o_call ha rfl rfl Try.call45 (W_spec_l1Edge (ha0_0.ext hE28) ha1 ha2 hc31) ?_; clear ha a; rintro v32 w33 ⟨rfl, hx34⟩ a ha
        replace hB3 := hB3.ext hx34
        have hE35 := Ext.trans hE28 hx34
        refine op_g ha rfl (g_pick rfl rfl) ?_; clear ha a; intro a ha
        refine op_g ha rfl (g_assign rfl) ?_; clear ha a; intro a ha
        refine wpList_nil ?_
        replace ha := ha.sub (σ' := [(6, (.bool x30))]) ⟨rfl, trivial⟩
        refine e_then ?_
        refine wp_ret ?_
        obtain rfl := Option.some.inj hF
        exact f_ret1 ha rfl rfl ⟨rfl, hE35⟩
      · replace hF := if_f hp29 hF
        rw [show (x23) = false from b_false (Iff.rfl) hp29] at ha
        refine op_unwant ha rfl (yields ha rfl rfl) rfl ?_; clear ha a; intro a ha
        refine op_unwant ha rfl (yields ha rfl rfl) rfl ?_; clear ha a; intro a ha
        refine op_unwant ha rfl (yields ha rfl rfl) rfl ?_; clear ha a; intro a ha
        refine op_unwant ha rfl (yields ha rfl rfl) rfl ?_; clear ha a; intro a ha
        refine op_g ha rfl (g_pick rfl rfl) ?_; clear ha a; intro a ha
        refine op_g ha rfl (g_assign rfl) ?_; clear ha a; intro a ha
        refine wpList_nil ?_
        replace ha := ha.sub (σ' := [(6, (.bool false))]) ⟨rfl, trivial⟩
        refine e_then ?_
        refine wp_ret ?_
        obtain rfl := Option.some.inj hF
        exact f_ret1 ha rfl rfl ⟨rfl, hE28⟩
    · replace hF := if_f hp22 hF
      rw [show (x16) = false from b_false (Iff.rfl) hp22] at ha
      refine op_unwant ha rfl (yields ha rfl rfl) rfl ?_; clear ha a; intro a ha
      refine op_unwant ha rfl (yields ha rfl rfl) rfl ?_; clear ha a; intro a ha
      refine op_unwant ha rfl (yields ha rfl rfl) rfl ?_; clear ha a; intro a ha
      refine op_g ha rfl (g_pick rfl rfl) ?_; clear ha a; intro a ha
      refine op_g ha rfl (g_move rfl) ?_; clear ha a; intro a ha
      refine op_unwant ha rfl (yields ha rfl rfl) rfl ?_; clear ha a; intro a ha
      refine op_unwant ha rfl (yields ha rfl rfl) rfl ?_; clear ha a; intro a ha
      refine op_unwant ha rfl (yields ha rfl rfl) rfl ?_; clear ha a; intro a ha
      refine op_unwant ha rfl (yields ha rfl rfl) rfl ?_; clear ha a; intro a ha
      refine op_g ha rfl (g_pick rfl rfl) ?_; clear ha a; intro a ha
      refine op_g ha rfl (g_assign rfl) ?_; clear ha a; intro a ha
      refine wpList_nil ?_
      replace ha := ha.sub (σ' := [(6, (.bool false))]) ⟨rfl, trivial⟩
      refine e_then ?_
      refine wp_ret ?_
      obtain rfl := Option.some.inj hF
      exact f_ret1 ha rfl rfl ⟨rfl, hE21⟩
  · replace hF := if_f hp15 hF
    rw [show (x9) = false from b_false (Iff.rfl) hp15] at ha
    refine op_unwant ha rfl (yields ha rfl rfl) rfl ?_; clear ha a; intro a ha
    refine op_unwant ha rfl (yields ha rfl rfl) rfl ?_; clear ha a; intro a ha
    refine op_unwant ha rfl (yields ha rfl rfl) rfl ?_; clear ha a; intro a ha
    refine op_g ha rfl (g_pick rfl rfl) ?_; clear ha a; intro a ha
    refine op_g ha rfl (g_move rfl) ?_; clear ha a; intro a ha
    refine op_unwant ha rfl (yields ha rfl rfl) rfl ?_; clear ha a; intro a ha
    refine op_unwant ha rfl (yields ha rfl rfl) rfl ?_; clear ha a; intro a ha
    refine op_unwant ha rfl (yields ha rfl rfl) rfl ?_; clear ha a; intro a ha
    refine op_g ha rfl (g_pick rfl rfl) ?_; clear ha a; intro a ha
    refine op_g ha rfl (g_move rfl) ?_; clear ha a; intro a ha
    refine op_unwant ha rfl (yields ha rfl rfl) rfl ?_; clear ha a; intro a ha
    refine op_unwant ha rfl (yields ha rfl rfl) rfl ?_; clear ha a; intro a ha
    refine op_unwant ha rfl (yields ha rfl rfl) rfl ?_; clear ha a; intro a ha
    refine op_unwant ha rfl (yields ha rfl rfl) rfl ?_; clear ha a; intro a ha
    refine op_g ha rfl (g_pick rfl rfl) ?_; clear ha a; intro a ha
    refine op_g ha rfl (g_assign rfl) ?_; clear ha a; intro a ha
    refine wpList_nil ?_
    replace ha := ha.sub (σ' := [(6, (.bool false))]) ⟨rfl, trivial⟩
    refine e_then ?_
    refine wp_ret ?_
    obtain rfl := Option.some.inj hF
    exact f_ret1 ha rfl rfl ⟨rfl, hE14⟩
set_option maxHeartbeats 2000000 in
theorem W_spec_MatchOk {W : World} {va0_0 : Value} {fa0_0 : List Nat} {a0_0 : (List (List Int))} (ha0_0 : Ro (Rp.sl 2 Rp.int) W fa0_0 va0_0 a0_0) {va1 : Value} {fa1 : List Nat} {a1 : (List (List Int))} (ha1 : Ro (Rp.sl 2 Rp.int) W fa1 va1 a1) {r : Bool} (hF : F_spec_MatchOk a0_0 a1 = some r) :
    Calls Try.prog 29 [.agg #[va0_0], va1].toArray W (Ret fun u w' => u = .bool r ∧ Ext W w') := by
  refine f_enter Try.func29 rfl Try.ntmps29 rfl ?_
  intro a ha
  replace ha : Fr 90 [(0, (.agg #[va0_0])), (1, va1)] a := ha
  have hE : Chg [] W W := Chg.refl _ _
  unfold F_spec_MatchOk at hF
  refine wp_seq ?_
  refine wp_region_lit ?_
  refine o_box ha rfl rfl rfl ?_; clear ha a; intro b1 w2 hB3 hx4 hlo5 a ha
  have q6 := Zn.one hlo5
  have q7 := Zn.upD q6 hE
  have hE8 := Ext.trans hE hx4
  refine op_g ha rfl (g_assign rfl) ?_; clear ha a; intro a ha
  refine wpList_nil ?_
  replace ha := ha.sub (σ' := [(1, va1), (2, (.pointer (some ⟨b1, 0, none⟩)))]) ⟨rfl, rfl, trivial⟩
  refine e_then ?_
  refine wp_seq ?_
  refine wp_seq ?_
  refine wp_region_lit ?_
  refine op_g ha rfl (g_loadA (cs := [va0_0]) Try.isAgg30 Try.sizeOf30 rfl (by simp) hB3.all) ?_; clear ha a; intro a ha
  obtain ⟨x17, hc18, hF⟩ := cal_some hF
  refine o_call ha rfl rfl Try.call41 (W_spec_GraphOk (ha0_0.ext hE8) hc18) ?_; clear ha a; rintro v19 w20 ⟨rfl, hx21⟩ a ha
  replace hB3 := hB3.ext hx21
  have hE22 := Ext.trans hE8 hx21
  refine op_g ha rfl (g_not rfl) ?_; clear ha a; intro a ha
  refine op_g ha rfl (g_move rfl) ?_; clear ha a; intro a ha
  by_cases hp23 : ¬ (x17 = true)
  · replace hF := if_t hp23 hF
    rw [show (!x17) = true from (n_iff (Iff.rfl)).2 hp23] at ha
    refine op_unwant ha rfl (yields ha rfl rfl) rfl ?_; clear ha a; intro a ha
    refine op_unwant ha rfl (yields ha rfl rfl) rfl ?_; clear ha a; intro a ha
    refine op_unwant ha rfl (yields ha rfl rfl) rfl ?_; clear ha a; intro a ha
    refine op_g ha rfl (g_pick rfl rfl) ?_; clear ha a; intro a ha
    refine wpList_nil ?_
    replace ha := ha.sub (σ' := [(1, va1), (2, (.pointer (some ⟨b1, 0, none⟩))), (15, (.bool true))]) ⟨rfl, rfl, rfl, trivial⟩
    refine e_then ?_
    refine c_true ha rfl ?_
    refine wp_seq ?_
    refine wp_region_lit ?_
    refine op_g ha rfl (g_assign rfl) ?_; clear ha a; intro a ha
    refine wpList_nil ?_
    replace ha := ha.sub (σ' := [(4, (.bool false))]) ⟨rfl, trivial⟩
    refine e_then ?_
    refine wp_ret ?_
    refine e_then_ret ?_
    obtain rfl := Option.some.inj hF
    exact f_ret1 ha rfl rfl ⟨rfl, hE22⟩
  · replace hF := if_f hp23 hF
    rw [show (!x17) = false from b_false (n_iff (Iff.rfl)) hp23] at ha
    refine op_want (yields ha rfl rfl) ?_
    refine op_g ha rfl (g_move rfl) ?_; clear ha a; intro a ha
    refine op_want (yields ha rfl rfl) ?_
    refine op_g ha rfl (g_lenR sl22.und ha1 rfl) ?_; clear ha a; intro a ha
    refine op_want (yields ha rfl rfl) ?_
    refine op_g ha rfl (g_gtr rfl rfl) ?_; clear ha a; intro a ha
    refine op_g ha rfl (g_pick rfl rfl) ?_; clear ha a; intro a ha
    refine wpList_nil ?_
    replace ha := ha.sub (σ' := [(1, va1), (2, (.pointer (some ⟨b1, 0, none⟩))), (15, (.bool (decide (16 < (a1.length : Int)))))]) ⟨rfl, rfl, rfl, trivial⟩
    refine e_then ?_
    refine c_cond (16 < (a1.length : Int)) ha rfl (decide_eq_true_iff) (fun hp24 => ?_) (fun hp24 => ?_)
    · replace hF := if_t hp24 hF
      refine wp_seq ?_
      refine wp_region_lit ?_
      refine op_g ha rfl (g_assign rfl) ?_; clear ha a; intro a ha
      refine wpList_nil ?_
      replace ha := ha.sub (σ' := [(4, (.bool false))]) ⟨rfl, trivial⟩
      refine e_then ?_
      refine wp_ret ?_
      refine e_then_ret ?_
      obtain rfl := Option.some.inj hF
      exact f_ret1 ha rfl rfl ⟨rfl, hE22⟩
    · replace hF := if_f hp24 hF
      refine wp_skip ?_
      refine e_then ?_
      refine wp_seq ?_
      refine wp_region_lit ?_
      refine o_lit0 Rp.int ha rfl sl25 ?_; clear ha a; intro v25 w26 h27 hx28 a ha
      obtain ⟨b30, hb30⟩ : ∃ b : Int, b = w20.heap.size := ⟨_, rfl⟩; rw [← hb30] at h27
      have q31 := zn_of hb30
      have q32 := Nq.new hB3.fpb q31
      have q33 := Nq.madeO q31 hB3.bi
      have q34 := Zn.upD q31 hE22
      replace hB3 := hB3.ext hx28
      have hE35 := Ext.trans hE22 hx28
      refine op_g ha rfl (g_assign rfl) ?_; clear ha a; intro a ha
      refine wpList_nil ?_
      replace ha := ha.sub (σ' := [(1, va1), (2, (.pointer (some ⟨b1, 0, none⟩))), (5, v25)]) ⟨rfl, rfl, rfl, trivial⟩
      refine e_then ?_
      refine wp_seq ?_
      refine wp_seq ?_
      refine wp_region_lit ?_
      refine op_g ha rfl (g_assign rfl) ?_; clear ha a; intro a ha
      refine wpList_nil ?_
      replace ha := ha.sub (σ' := [(1, va1), (2, (.pointer (some ⟨b1, 0, none⟩))), (5, v25), (6, (.int .i64 0))]) ⟨rfl, rfl, rfl, rfl, trivial⟩
      refine e_then ?_
      obtain ⟨o692, ho693, hK694⟩ := bnd_some hF
      obtain ⟨n695, hn696⟩ := lp_some ho693; clear ho693
      refine c_loop (fun a w => Fr 90 [] a ∧ Chg [] W w ∧ o692 = .inl ()) (fun n a w => ∃ (l367 : (List Int)) (i370 : Int) (v368 : Value) (b369 : Int), Fr 90 [(1, va1), (2, (.pointer (some ⟨b1, 0, none⟩))), (5, v368), (6, (.int .i64 i370))] a ∧ Chg [] W w ∧ InI i370 ∧ Bx w b1 [va0_0] 30 ∧ Zn W (b1 : Int) ∧ Ow Rp.int 2 true w [] b369 v368 l367 ∧ Zn W b369 ∧ Nq ([b1]) b369 ∧ Nq (bl b369 ++ []) (b1 : Int) ∧ lpN (fun s => F_spec_MatchOk_l1 a0_0 a1 s.1 s.2) n (l367, i370) = some o692) n695 ⟨([] : (List Int)), 0, v25, b30, ha.sub ⟨rfl, rfl, rfl, rfl, trivial⟩, hE35, (show InI 0 from by decide), hB3, q7, h27, q34, q32, q33, hn696⟩ ?_ ?_
      · rintro m700 a w361 ⟨l367, i370, v368, b369, ha, hE374, hI371, hB362, z363, h365, z366, q372, q373, hF⟩
        cases m700 with
        | zero => exact (lpN_zero hF).elim
        | succ m700 =>
          obtain ⟨z699, hF, hN698⟩ := lpN_succ hF
          have hF : F_spec_MatchOk_l1 a0_0 a1 l367 i370 = some z699 := hF; unfold F_spec_MatchOk_l1 at hF
          refine wp_seq ?_
          refine wp_seq ?_
          refine wp_region_lit ?_
          refine op_g ha rfl (g_move rfl) ?_; clear ha a; intro a ha
          refine op_g ha rfl (g_move rfl) ?_; clear ha a; intro a ha
          refine op_g ha rfl (g_lenR sl22.und ha1 rfl) ?_; clear ha a; intro a ha
          refine op_g ha rfl (g_lss rfl rfl) ?_; clear ha a; intro a ha
          refine wpList_nil ?_
          replace ha := ha.sub (σ' := [(1, va1), (2, (.pointer (some ⟨b1, 0, none⟩))), (5, v368), (6, (.int .i64 i370)), (20, (.bool (decide (i370 < (a1.length : Int)))))]) ⟨rfl, rfl, rfl, rfl, rfl, trivial⟩
          refine e_then ?_
          refine c_cond (i370 < (a1.length : Int)) ha rfl (decide_eq_true_iff) (fun hp701 => ?_) (fun hp701 => ?_)
          · replace hF := if_t hp701 hF
            refine wp_skip ?_
            refine e_then ?_
            refine wp_seq ?_
            refine wp_block ?_
            refine wp_seq ?_
            refine wp_region_lit ?_
            refine op_g ha rfl (g_move rfl) ?_; clear ha a; intro a ha
            refine op_g ha rfl (g_move rfl) ?_; clear ha a; intro a ha
            obtain ⟨x702, g703, gx704, hF⟩ := idx_some hF
            obtain ⟨p705, cs706, f707, hf708, hpb709, hat710, hr711, hi712⟩ := ha1.at g703 gx704
            obtain ⟨v713, rfl, h714⟩ := hr711
            have h714 : Ro Rp.int W f707 v713 x702 := h714
            refine op_g ha rfl (hi712.gives sl22 rfl rfl) ?_; clear ha a; intro a ha
            refine op_g ha rfl (g_load0 hE374 Try.isAgg25 rfl hat710.one) ?_; clear ha a; intro a ha
            refine op_g ha rfl (g_assign rfl) ?_; clear ha a; intro a ha
            refine wpList_nil ?_
            replace ha := ha.sub (σ' := [(1, va1), (2, (.pointer (some ⟨b1, 0, none⟩))), (5, v368), (6, (.int .i64 i370)), (7, v713)]) ⟨rfl, rfl, rfl, rfl, rfl, trivial⟩
            refine e_then ?_
            refine wp_seq ?_
            refine wp_seq ?_
            refine d_quiet hmix (by kernel_rfl) ?_
            refine q_g ha rfl (g_move rfl) ?_; clear ha a; intro a ha
            refine q_g ha rfl (g_lenR sl25.und h714 rfl) ?_; clear ha a; intro a ha
            refine q_g ha rfl (g_neq rfl rfl) ?_; clear ha a; intro a ha
            refine q_g ha rfl (g_move rfl) ?_; clear ha a; intro a ha
            by_cases hp716 : (x702.length : Int) ≠ 2
            · replace hF := if_t hp716 hF
              rw [show (decide ((x702.length : Int) ≠ 2)) = true from (decide_eq_true_iff).2 hp716] at ha
              refine q_unwant ha rfl (yields ha rfl rfl) rfl ?_; clear ha a; intro a ha
              refine q_unwant ha rfl (yields ha rfl rfl) rfl ?_; clear ha a; intro a ha
              refine q_unwant ha rfl (yields ha rfl rfl) rfl ?_; clear ha a; intro a ha
              refine q_unwant ha rfl (yields ha rfl rfl) rfl ?_; clear ha a; intro a ha
              refine q_unwant ha rfl (yields ha rfl rfl) rfl ?_; clear ha a; intro a ha
              refine q_unwant ha rfl (yields ha rfl rfl) rfl ?_; clear ha a; intro a ha
              refine q_unwant ha rfl (yields ha rfl rfl) rfl ?_; clear ha a; intro a ha
              refine q_g ha rfl (g_pick rfl rfl) ?_; clear ha a; intro a ha
              refine q_g ha rfl (g_move rfl) ?_; clear ha a; intro a ha
              refine q_unwant ha rfl (yields ha rfl rfl) rfl ?_; clear ha a; intro a ha
              refine q_unwant ha rfl (yields ha rfl rfl) rfl ?_; clear ha a; intro a ha
              refine q_unwant ha rfl (yields ha rfl rfl) rfl ?_; clear ha a; intro a ha
              refine q_unwant ha rfl (yields ha rfl rfl) rfl ?_; clear ha a; intro a ha
              refine q_unwant ha rfl (yields ha rfl rfl) rfl ?_; clear ha a; intro a ha
              refine q_unwant ha rfl (yields ha rfl rfl) rfl ?_; clear ha a; intro a ha
              refine q_unwant ha rfl (yields ha rfl rfl) rfl ?_; clear ha a; intro a ha
              refine q_unwant ha rfl (yields ha rfl rfl) rfl ?_; clear ha a; intro a ha
              refine q_unwant ha rfl (yields ha rfl rfl) rfl ?_; clear ha a; intro a ha
              refine q_g ha rfl (g_pick rfl rfl) ?_; clear ha a; intro a ha
              refine q_g ha rfl (g_move rfl) ?_; clear ha a; intro a ha
              refine q_unwant ha rfl (yields ha rfl rfl) rfl ?_; clear ha a; intro a ha
              refine q_unwant ha rfl (yields ha rfl rfl) rfl ?_; clear ha a; intro a ha
              refine q_unwant ha rfl (yields ha rfl rfl) rfl ?_; clear ha a; intro a ha
              refine q_unwant ha rfl (yields ha rfl rfl) rfl ?_; clear ha a; intro a ha
              refine q_unwant ha rfl (yields ha rfl rfl) rfl ?_; clear ha a; intro a ha
              refine q_g ha rfl (g_pick rfl rfl) ?_; clear ha a; intro a ha
              refine q_g ha rfl (g_move rfl) ?_; clear ha a; intro a ha
              refine q_unwant ha rfl (yields ha rfl rfl) rfl ?_; clear ha a; intro a ha
              refine q_unwant ha rfl (yields ha rfl rfl) rfl ?_; clear ha a; intro a ha
              refine q_unwant ha rfl (yields ha rfl rfl) rfl ?_; clear ha a; intro a ha
              refine q_unwant ha rfl (yields ha rfl rfl) rfl ?_; clear ha a; intro a ha
              refine q_unwant ha rfl (yields ha rfl rfl) rfl ?_; clear ha a; intro a ha
              refine q_g ha rfl (g_pick rfl rfl) ?_; clear ha a; intro a ha
              refine q_g ha rfl (g_move rfl) ?_; clear ha a; intro a ha
              refine q_unwant ha rfl (yields ha rfl rfl) rfl ?_; clear ha a; intro a ha
              refine q_unwant ha rfl (yields ha rfl rfl) rfl ?_; clear ha a; intro a ha
              refine q_unwant ha rfl (yields ha rfl rfl) rfl ?_; clear ha a; intro a ha
              refine q_unwant0 ha rfl (yields0 ha rfl rfl) ?_; clear ha a; intro a ha
              refine q_unwant0 ha rfl (yields0 ha rfl rfl) ?_; clear ha a; intro a ha
              refine q_unwant0 ha rfl (yields0 ha rfl rfl) ?_; clear ha a; intro a ha
              refine q_unwant0 ha rfl (yields0 ha rfl rfl) ?_; clear ha a; intro a ha
              refine q_unwant0 ha rfl (yields0 ha rfl rfl) ?_; clear ha a; intro a ha
              refine q_unwant0 ha rfl (yields0 ha rfl rfl) ?_; clear ha a; intro a ha
              refine q_unwant0 ha rfl (yields0 ha rfl rfl) ?_; clear ha a; intro a ha
              refine q_unwant0 ha rfl (yields0 ha rfl rfl) ?_; clear ha a; intro a ha
              refine q_unwant0 ha rfl (yields0 ha rfl rfl) ?_; clear ha a; intro a ha
              refine q_unwant0 ha rfl (yields0 ha rfl rfl) ?_; clear ha a; intro a ha
              refine q_unwant0 ha rfl (yields0 ha rfl rfl) ?_; clear ha a; intro a ha
              refine q_unwant ha rfl (yields ha rfl rfl) rfl ?_; clear ha a; intro a ha
              refine q_g ha rfl (g_pick rfl rfl) ?_; clear ha a; intro a ha
              refine q_nil ?_; intro w717 hx718
              replace hB362 := hB362.ext hx718
              replace h365 := h365.ext hx718
              have hE719 := Ext.trans hE374 hx718
              replace ha := ha.sub (σ' := [(1, va1), (2, (.pointer (some ⟨b1, 0, none⟩))), (5, v368), (6, (.int .i64 i370)), (7, v713), (80, (.bool true))]) ⟨rfl, rfl, rfl, rfl, rfl, rfl, trivial⟩
              refine e_then ?_
              refine c_true ha rfl ?_
              refine wp_seq ?_
              refine wp_region_lit ?_
              refine op_g ha rfl (g_assign rfl) ?_; clear ha a; intro a ha
              refine wpList_nil ?_
              replace ha := ha.sub (σ' := [(4, (.bool false))]) ⟨rfl, trivial⟩
              refine e_then ?_
              refine wp_ret ?_
              refine e_then_ret ?_
              refine e_blk_ret ?_
              refine e_then_ret ?_
              refine e_lq_ret ?_
              refine e_then_ret ?_
              obtain rfl := Option.some.inj hF
              have e720 := LK_inr hN698; subst e720
              have e721 := BK_inr hK694; subst e721
              exact f_ret1 ha rfl rfl ⟨rfl, hE719⟩
            · replace hF := if_f hp716 hF
              rw [show (decide ((x702.length : Int) ≠ 2)) = false from b_false (decide_eq_true_iff) hp716] at ha
              refine q_want (yields ha rfl rfl) ?_
              refine q_g ha rfl (g_move rfl) ?_; clear ha a; intro a ha
              refine q_want (yields ha rfl rfl) ?_
              obtain ⟨x722, g723, gx724, hF⟩ := idx_some hF
              obtain ⟨p725, cs726, f727, hf728, hpb729, hat730, hr731, hi732⟩ := h714.at g723 gx724
              obtain ⟨rfl, hI733, rfl⟩ := hr731
              refine q_g ha rfl (hi732.gives sl25 rfl rfl) ?_; clear ha a; intro a ha
              refine q_want (yields ha rfl rfl) ?_
              refine q_g ha rfl (g_load0 hE374 Try.isAgg2 rfl hat730.one) ?_; clear ha a; intro a ha
              refine q_want (yields ha rfl rfl) ?_
              refine q_g ha rfl (g_move rfl) ?_; clear ha a; intro a ha
              refine q_want (yields ha rfl rfl) ?_
              obtain ⟨x734, g735, gx736, hF⟩ := idx_some hF
              obtain ⟨p737, cs738, f739, hf740, hpb741, hat742, hr743, hi744⟩ := h714.at g735 gx736
              obtain ⟨rfl, hI745, rfl⟩ := hr743
              refine q_g ha rfl (hi744.gives sl25 rfl rfl) ?_; clear ha a; intro a ha
              refine q_want (yields ha rfl rfl) ?_
              refine q_g ha rfl (g_load0 hE374 Try.isAgg2 rfl hat742.one) ?_; clear ha a; intro a ha
              refine q_want (yields ha rfl rfl) ?_
              refine q_g ha rfl (g_geq rfl rfl) ?_; clear ha a; intro a ha
              refine q_g ha rfl (g_pick rfl rfl) ?_; clear ha a; intro a ha
              refine q_g ha rfl (g_move rfl) ?_; clear ha a; intro a ha
              by_cases hp746 : x734 ≤ x722
              · replace hF := if_t hp746 hF
                rw [show (decide (x734 ≤ x722)) = true from (decide_eq_true_iff).2 hp746] at ha
                refine q_unwant ha rfl (yields ha rfl rfl) rfl ?_; clear ha a; intro a ha
                refine q_unwant ha rfl (yields ha rfl rfl) rfl ?_; clear ha a; intro a ha
                refine q_unwant ha rfl (yields ha rfl rfl) rfl ?_; clear ha a; intro a ha
                refine q_unwant ha rfl (yields ha rfl rfl) rfl ?_; clear ha a; intro a ha
                refine q_unwant ha rfl (yields ha rfl rfl) rfl ?_; clear ha a; intro a ha
                refine q_unwant ha rfl (yields ha rfl rfl) rfl ?_; clear ha a; intro a ha
                refine q_unwant ha rfl (yields ha rfl rfl) rfl ?_; clear ha a; intro a ha
                refine q_unwant ha rfl (yields ha rfl rfl) rfl ?_; clear ha a; intro a ha
                refine q_unwant ha rfl (yields ha rfl rfl) rfl ?_; clear ha a; intro a ha
                refine q_g ha rfl (g_pick rfl rfl) ?_; clear ha a; intro a ha
                refine q_g ha rfl (g_move rfl) ?_; clear ha a; intro a ha
                refine q_unwant ha rfl (yields ha rfl rfl) rfl ?_; clear ha a; intro a ha
                refine q_unwant ha rfl (yields ha rfl rfl) rfl ?_; clear ha a; intro a ha
                refine q_unwant ha rfl (yields ha rfl rfl) rfl ?_; clear ha a; intro a ha
                refine q_unwant ha rfl (yields ha rfl rfl) rfl ?_; clear ha a; intro a ha
                refine q_unwant ha rfl (yields ha rfl rfl) rfl ?_; clear ha a; intro a ha
                refine q_g ha rfl (g_pick rfl rfl) ?_; clear ha a; intro a ha
                refine q_g ha rfl (g_move rfl) ?_; clear ha a; intro a ha
                refine q_unwant ha rfl (yields ha rfl rfl) rfl ?_; clear ha a; intro a ha
                refine q_unwant ha rfl (yields ha rfl rfl) rfl ?_; clear ha a; intro a ha
                refine q_unwant ha rfl (yields ha rfl rfl) rfl ?_; clear ha a; intro a ha
                refine q_unwant ha rfl (yields ha rfl rfl) rfl ?_; clear ha a; intro a ha
                refine q_unwant ha rfl (yields ha rfl rfl) rfl ?_; clear ha a; intro a ha
                refine q_g ha rfl (g_pick rfl rfl) ?_; clear ha a; intro a ha
                refine q_g ha rfl (g_move rfl) ?_; clear ha a; intro a ha
                refine q_unwant ha rfl (yields ha rfl rfl) rfl ?_; clear ha a; intro a ha
                refine q_unwant ha rfl (yields ha rfl rfl) rfl ?_; clear ha a; intro a ha
                refine q_unwant ha rfl (yields ha rfl rfl) rfl ?_; clear ha a; intro a ha
                refine q_unwant0 ha rfl (yields0 ha rfl rfl) ?_; clear ha a; intro a ha
                refine q_unwant0 ha rfl (yields0 ha rfl rfl) ?_; clear ha a; intro a ha
                refine q_unwant0 ha rfl (yields0 ha rfl rfl) ?_; clear ha a; intro a ha
                refine q_unwant0 ha rfl (yields0 ha rfl rfl) ?_; clear ha a; intro a ha
                refine q_unwant0 ha rfl (yields0 ha rfl rfl) ?_; clear ha a; intro a ha
                refine q_unwant0 ha rfl (yields0 ha rfl rfl) ?_; clear ha a; intro a ha
                refine q_unwant0 ha rfl (yields0 ha rfl rfl) ?_; clear ha a; intro a ha
                refine q_unwant0 ha rfl (yields0 ha rfl rfl) ?_; clear ha a; intro a ha
                refine q_unwant0 ha rfl (yields0 ha rfl rfl) ?_; clear ha a; intro a ha
                refine q_unwant0 ha rfl (yields0 ha rfl rfl) ?_; clear ha a; intro a ha
                refine q_unwant0 ha rfl (yields0 ha rfl rfl) ?_; clear ha a; intro a ha
                refine q_unwant ha rfl (yields ha rfl rfl) rfl ?_; clear ha a; intro a ha
                refine q_g ha rfl (g_pick rfl rfl) ?_; clear ha a; intro a ha
                refine q_nil ?_; intro w747 hx748
                replace hB362 := hB362.ext hx748
                replace h365 := h365.ext hx748
                have hE749 := Ext.trans hE374 hx748
                replace ha := ha.sub (σ' := [(1, va1), (2, (.pointer (some ⟨b1, 0, none⟩))), (5, v368), (6, (.int .i64 i370)), (7, v713), (31, v713), (32, (.pointer (some p725))), (33, (.int .i64 x722)), (34, v713), (35, (.pointer (some p737))), (36, (.int .i64 x734)), (37, (.bool true)), (80, (.bool true))]) ⟨rfl, rfl, rfl, rfl, rfl, rfl, rfl, rfl, rfl, rfl, rfl, rfl, rfl, trivial⟩
                refine e_then ?_
                refine c_true ha rfl ?_
                refine wp_seq ?_
                refine wp_region_lit ?_
                refine op_g ha rfl (g_assign rfl) ?_; clear ha a; intro a ha
                refine wpList_nil ?_
                replace ha := ha.sub (σ' := [(4, (.bool false))]) ⟨rfl, trivial⟩
                refine e_then ?_
                refine wp_ret ?_
                refine e_then_ret ?_
                refine e_blk_ret ?_
                refine e_then_ret ?_
                refine e_lq_ret ?_
                refine e_then_ret ?_
                obtain rfl := Option.some.inj hF
                have e750 := LK_inr hN698; subst e750
                have e751 := BK_inr hK694; subst e751
                exact f_ret1 ha rfl rfl ⟨rfl, hE749⟩
              · replace hF := if_f hp746 hF
                rw [show (decide (x734 ≤ x722)) = false from b_false (decide_eq_true_iff) hp746] at ha
                refine q_want (yields ha rfl rfl) ?_
                refine q_g ha rfl (g_loadA (cs := [va0_0]) Try.isAgg30 Try.sizeOf30 rfl (by simp) hB362.all) ?_; clear ha a; intro a ha
                refine q_want (yields ha rfl rfl) ?_
                refine q_g ha rfl (g_move rfl) ?_; clear ha a; intro a ha
                refine q_want (yields ha rfl rfl) ?_
                obtain ⟨x752, g753, gx754, hF⟩ := idx_some hF
                obtain ⟨p755, cs756, f757, hf758, hpb759, hat760, hr761, hi762⟩ := h714.at g753 gx754
                obtain ⟨rfl, hI763, rfl⟩ := hr761
                refine q_g ha rfl (hi762.gives sl25 rfl rfl) ?_; clear ha a; intro a ha
                refine q_want (yields ha rfl rfl) ?_
                refine q_g ha rfl (g_load0 hE374 Try.isAgg2 rfl hat760.one) ?_; clear ha a; intro a ha
                refine q_want (yields ha rfl rfl) ?_
                refine q_g ha rfl (g_move rfl) ?_; clear ha a; intro a ha
                refine q_want (yields ha rfl rfl) ?_
                obtain ⟨x764, g765, gx766, hF⟩ := idx_some hF
                obtain ⟨p767, cs768, f769, hf770, hpb771, hat772, hr773, hi774⟩ := h714.at g765 gx766
                obtain ⟨rfl, hI775, rfl⟩ := hr773
                refine q_g ha rfl (hi774.gives sl25 rfl rfl) ?_; clear ha a; intro a ha
                refine q_want (yields ha rfl rfl) ?_
                refine q_g ha rfl (g_load0 hE374 Try.isAgg2 rfl hat772.one) ?_; clear ha a; intro a ha
                refine q_want (yields ha rfl rfl) ?_
                obtain ⟨x778, hc779, hF⟩ := cal_some hF
                refine q_call (.bool x778) ha rfl rfl Try.call48 (fun w777 hx776 => W_spec_EdgeIn (ha0_0.ext (Ext.trans hE374 hx776)) hI763 hI775 hc779) (fun _ _ _ h => ⟨h.1, h.2⟩) ?_; clear ha a; intro a ha
                refine q_want (yields ha rfl rfl) ?_
                refine q_g ha rfl (g_not rfl) ?_; clear ha a; intro a ha
                refine q_g ha rfl (g_pick rfl rfl) ?_; clear ha a; intro a ha
                refine q_g ha rfl (g_move rfl) ?_; clear ha a; intro a ha
                by_cases hp780 : ¬ (x778 = true)
                · replace hF := if_t hp780 hF
                  rw [show (!x778) = true from (n_iff (Iff.rfl)).2 hp780] at ha
                  refine q_unwant ha rfl (yields ha rfl rfl) rfl ?_; clear ha a; intro a ha
                  refine q_unwant ha rfl (yields ha rfl rfl) rfl ?_; clear ha a; intro a ha
                  refine q_unwant ha rfl (yields ha rfl rfl) rfl ?_; clear ha a; intro a ha
                  refine q_unwant ha rfl (yields ha rfl rfl) rfl ?_; clear ha a; intro a ha
                  refine q_unwant ha rfl (yields ha rfl rfl) rfl ?_; clear ha a; intro a ha
                  refine q_g ha rfl (g_pick rfl rfl) ?_; clear ha a; intro a ha
                  refine q_g ha rfl (g_move rfl) ?_; clear ha a; intro a ha
                  refine q_unwant ha rfl (yields ha rfl rfl) rfl ?_; clear ha a; intro a ha
                  refine q_unwant ha rfl (yields ha rfl rfl) rfl ?_; clear ha a; intro a ha
                  refine q_unwant ha rfl (yields ha rfl rfl) rfl ?_; clear ha a; intro a ha
                  refine q_unwant ha rfl (yields ha rfl rfl) rfl ?_; clear ha a; intro a ha
                  refine q_unwant ha rfl (yields ha rfl rfl) rfl ?_; clear ha a; intro a ha
                  refine q_g ha rfl (g_pick rfl rfl) ?_; clear ha a; intro a ha
                  refine q_g ha rfl (g_move rfl) ?_; clear ha a; intro a ha
                  refine q_unwant ha rfl (yields ha rfl rfl) rfl ?_; clear ha a; intro a ha
                  refine q_unwant ha rfl (yields ha rfl rfl) rfl ?_; clear ha a; intro a ha
                  refine q_unwant ha rfl (yields ha rfl rfl) rfl ?_; clear ha a; intro a ha
                  refine q_unwant0 ha rfl (yields0 ha rfl rfl) ?_; clear ha a; intro a ha
                  refine q_unwant0 ha rfl (yields0 ha rfl rfl) ?_; clear ha a; intro a ha
                  refine q_unwant0 ha rfl (yields0 ha rfl rfl) ?_; clear ha a; intro a ha
                  refine q_unwant0 ha rfl (yields0 ha rfl rfl) ?_; clear ha a; intro a ha
                  refine q_unwant0 ha rfl (yields0 ha rfl rfl) ?_; clear ha a; intro a ha
                  refine q_unwant0 ha rfl (yields0 ha rfl rfl) ?_; clear ha a; intro a ha
                  refine q_unwant0 ha rfl (yields0 ha rfl rfl) ?_; clear ha a; intro a ha
                  refine q_unwant0 ha rfl (yields0 ha rfl rfl) ?_; clear ha a; intro a ha
                  refine q_unwant0 ha rfl (yields0 ha rfl rfl) ?_; clear ha a; intro a ha
                  refine q_unwant0 ha rfl (yields0 ha rfl rfl) ?_; clear ha a; intro a ha
                  refine q_unwant0 ha rfl (yields0 ha rfl rfl) ?_; clear ha a; intro a ha
                  refine q_unwant ha rfl (yields ha rfl rfl) rfl ?_; clear ha a; intro a ha
                  refine q_g ha rfl (g_pick rfl rfl) ?_; clear ha a; intro a ha
                  refine q_nil ?_; intro w781 hx782
                  replace hB362 := hB362.ext hx782
                  replace h365 := h365.ext hx782
                  have hE783 := Ext.trans hE374 hx782
                  replace ha := ha.sub (σ' := [(1, va1), (2, (.pointer (some ⟨b1, 0, none⟩))), (5, v368), (6, (.int .i64 i370)), (7, v713), (31, v713), (32, (.pointer (some p725))), (33, (.int .i64 x722)), (34, v713), (35, (.pointer (some p737))), (36, (.int .i64 x734)), (37, (.bool false)), (40, (.agg #[va0_0])), (41, v713), (42, (.pointer (some p755))), (43, (.int .i64 x752)), (44, v713), (45, (.pointer (some p767))), (46, (.int .i64 x764)), (47, (.bool x778)), (48, (.bool true)), (80, (.bool true))]) ⟨rfl, rfl, rfl, rfl, rfl, rfl, rfl, rfl, rfl, rfl, rfl, rfl, rfl, rfl, rfl, rfl, rfl, rfl, rfl, rfl, rfl, rfl, trivial⟩
                  refine e_then ?_
                  refine c_true ha rfl ?_
                  refine wp_seq ?_
                  refine wp_region_lit ?_
                  refine op_g ha rfl (g_assign rfl) ?_; clear ha a; intro a ha
                  refine wpList_nil ?_
                  replace ha := ha.sub (σ' := [(4, (.bool false))]) ⟨rfl, trivial⟩
                  refine e_then ?_
                  refine wp_ret ?_
                  refine e_then_ret ?_
                  refine e_blk_ret ?_
                  refine e_then_ret ?_
                  refine e_lq_ret ?_
                  refine e_then_ret ?_
                  obtain rfl := Option.some.inj hF
                  have e784 := LK_inr hN698; subst e784
                  have e785 := BK_inr hK694; subst e785
                  exact f_ret1 ha rfl rfl ⟨rfl, hE783⟩
                · replace hF := if_f hp780 hF
                  rw [show (!x778) = false from b_false (n_iff (Iff.rfl)) hp780] at ha
                  refine q_want (yields ha rfl rfl) ?_
                  refine q_g ha rfl (g_move rfl) ?_; clear ha a; intro a ha
                  refine q_want (yields ha rfl rfl) ?_
                  refine q_g ha rfl (g_move rfl) ?_; clear ha a; intro a ha
                  refine q_want (yields ha rfl rfl) ?_
                  obtain ⟨x786, g787, gx788, hF⟩ := idx_some hF
                  obtain ⟨p789, cs790, f791, hf792, hpb793, hat794, hr795, hi796⟩ := h714.at g787 gx788
                  obtain ⟨rfl, hI797, rfl⟩ := hr795
                  refine q_g ha rfl (hi796.gives sl25 rfl rfl) ?_; clear ha a; intro a ha
                  refine q_want (yields ha rfl rfl) ?_
                  refine q_g ha rfl (g_load0 hE374 Try.isAgg2 rfl hat794.one) ?_; clear ha a; intro a ha
                  refine q_want (yields ha rfl rfl) ?_
                  obtain ⟨fp800, hro801, hs802⟩ := h365.roF
                  obtain ⟨x803, hc804, hF⟩ := cal_some hF
                  refine q_call (.bool x803) ha rfl rfl Try.call54 (fun w799 hx798 => W_spec_l1Has (hro801.ext hx798) hI797 hc804) (fun _ _ _ h => ⟨h.1, h.2⟩) ?_; clear ha a; intro a ha
                  refine q_g ha rfl (g_pick rfl rfl) ?_; clear ha a; intro a ha
                  refine q_g ha rfl (g_move rfl) ?_; clear ha a; intro a ha
                  by_cases hp805 : x803 = true
                  · replace hF := if_t hp805 hF
                    rw [show (x803) = true from (Iff.rfl).2 hp805] at ha
                    refine q_unwant ha rfl (yields ha rfl rfl) rfl ?_; clear ha a; intro a ha
                    refine q_unwant ha rfl (yields ha rfl rfl) rfl ?_; clear ha a; intro a ha
                    refine q_unwant ha rfl (yields ha rfl rfl) rfl ?_; clear ha a; intro a ha
                    refine q_unwant ha rfl (yields ha rfl rfl) rfl ?_; clear ha a; intro a ha
                    refine q_unwant ha rfl (yields ha rfl rfl) rfl ?_; clear ha a; intro a ha
                    refine q_g ha rfl (g_pick rfl rfl) ?_; clear ha a; intro a ha
                    refine q_g ha rfl (g_move rfl) ?_; clear ha a; intro a ha
                    refine q_unwant ha rfl (yields ha rfl rfl) rfl ?_; clear ha a; intro a ha
                    refine q_unwant ha rfl (yields ha rfl rfl) rfl ?_; clear ha a; intro a ha
                    refine q_unwant ha rfl (yields ha rfl rfl) rfl ?_; clear ha a; intro a ha
                    refine q_unwant0 ha rfl (yields0 ha rfl rfl) ?_; clear ha a; intro a ha
                    refine q_unwant0 ha rfl (yields0 ha rfl rfl) ?_; clear ha a; intro a ha
                    refine q_unwant0 ha rfl (yields0 ha rfl rfl) ?_; clear ha a; intro a ha
                    refine q_unwant0 ha rfl (yields0 ha rfl rfl) ?_; clear ha a; intro a ha
                    refine q_unwant0 ha rfl (yields0 ha rfl rfl) ?_; clear ha a; intro a ha
                    refine q_unwant0 ha rfl (yields0 ha rfl rfl) ?_; clear ha a; intro a ha
                    refine q_unwant0 ha rfl (yields0 ha rfl rfl) ?_; clear ha a; intro a ha
                    refine q_unwant0 ha rfl (yields0 ha rfl rfl) ?_; clear ha a; intro a ha
                    refine q_unwant0 ha rfl (yields0 ha rfl rfl) ?_; clear ha a; intro a ha
                    refine q_unwant0 ha rfl (yields0 ha rfl rfl) ?_; clear ha a; intro a ha
                    refine q_unwant0 ha rfl (yields0 ha rfl rfl) ?_; clear ha a; intro a ha
                    refine q_unwant ha rfl (yields ha rfl rfl) rfl ?_; clear ha a; intro a ha
                    refine q_g ha rfl (g_pick rfl rfl) ?_; clear ha a; intro a ha
                    refine q_nil ?_; intro w806 hx807
                    replace hB362 := hB362.ext hx807
                    replace h365 := h365.ext hx807
                    have hE808 := Ext.trans hE374 hx807
                    replace ha := ha.sub (σ' := [(1, va1), (2, (.pointer (some ⟨b1, 0, none⟩))), (5, v368), (6, (.int .i64 i370)), (7, v713), (31, v713), (32, (.pointer (some p725))), (33, (.int .i64 x722)), (34, v713), (35, (.pointer (some p737))), (36, (.int .i64 x734)), (37, (.bool false)), (40, (.agg #[va0_0])), (41, v713), (42, (.pointer (some p755))), (43, (.int .i64 x752)), (44, v713), (45, (.pointer (some p767))), (46, (.int .i64 x764)), (47, (.bool x778)), (48, (.bool false)), (51, v368), (52, v713), (53, (.pointer (some p789))), (54, (.int .i64 x786)), (55, (.bool true)), (80, (.bool true))]) ⟨rfl, rfl, rfl, rfl, rfl, rfl, rfl, rfl, rfl, rfl, rfl, rfl, rfl, rfl, rfl, rfl, rfl, rfl, rfl, rfl, rfl, rfl, rfl, rfl, rfl, rfl, rfl, trivial⟩
                    refine e_then ?_
                    refine c_true ha rfl ?_
                    refine wp_seq ?_
                    refine wp_region_lit ?_
                    refine op_g ha rfl (g_assign rfl) ?_; clear ha a; intro a ha
                    refine wpList_nil ?_
                    replace ha := ha.sub (σ' := [(4, (.bool false))]) ⟨rfl, trivial⟩
                    refine e_then ?_
                    refine wp_ret ?_
                    refine e_then_ret ?_
                    refine e_blk_ret ?_
                    refine e_then_ret ?_
                    refine e_lq_ret ?_
                    refine e_then_ret ?_
                    obtain rfl := Option.some.inj hF
                    have e809 := LK_inr hN698; subst e809
                    have e810 := BK_inr hK694; subst e810
                    exact f_ret1 ha rfl rfl ⟨rfl, hE808⟩
                  · replace hF := if_f hp805 hF
                    rw [show (x803) = false from b_false (Iff.rfl) hp805] at ha
                    refine q_want (yields ha rfl rfl) ?_
                    refine q_g ha rfl (g_move rfl) ?_; clear ha a; intro a ha
                    refine q_want (yields ha rfl rfl) ?_
                    refine q_g ha rfl (g_move rfl) ?_; clear ha a; intro a ha
                    refine q_want (yields ha rfl rfl) ?_
                    obtain ⟨x811, g812, gx813, hF⟩ := idx_some hF
                    obtain ⟨p814, cs815, f816, hf817, hpb818, hat819, hr820, hi821⟩ := h714.at g812 gx813
                    obtain ⟨rfl, hI822, rfl⟩ := hr820
                    refine q_g ha rfl (hi821.gives sl25 rfl rfl) ?_; clear ha a; intro a ha
                    refine q_want (yields ha rfl rfl) ?_
                    refine q_g ha rfl (g_load0 hE374 Try.isAgg2 rfl hat819.one) ?_; clear ha a; intro a ha
                    refine q_want (yields ha rfl rfl) ?_
                    obtain ⟨fp825, hro826, hs827⟩ := h365.roF
                    obtain ⟨x828, hc829, hF⟩ := cal_some hF
                    refine q_call (.bool x828) ha rfl rfl Try.call54 (fun w824 hx823 => W_spec_l1Has (hro826.ext hx823) hI822 hc829) (fun _ _ _ h => ⟨h.1, h.2⟩) ?_; clear ha a; intro a ha
                    refine q_g ha rfl (g_pick rfl rfl) ?_; clear ha a; intro a ha
                    refine q_g ha rfl (g_move rfl) ?_; clear ha a; intro a ha
                    by_cases hp830 : x828 = true
                    · replace hF := if_t hp830 hF
                      rw [show (x828) = true from (Iff.rfl).2 hp830] at ha
                      refine q_unwant ha rfl (yields ha rfl rfl) rfl ?_; clear ha a; intro a ha
                      refine q_unwant ha rfl (yields ha rfl rfl) rfl ?_; clear ha a; intro a ha
                      refine q_unwant ha rfl (yields ha rfl rfl) rfl ?_; clear ha a; intro a ha
                      refine q_unwant0 ha rfl (yields0 ha rfl rfl) ?_; clear ha a; intro a ha
                      refine q_unwant0 ha rfl (yields0 ha rfl rfl) ?_; clear ha a; intro a ha
                      refine q_unwant0 ha rfl (yields0 ha rfl rfl) ?_; clear ha a; intro a ha
                      refine q_unwant0 ha rfl (yields0 ha rfl rfl) ?_; clear ha a; intro a ha
                      refine q_unwant0 ha rfl (yields0 ha rfl rfl) ?_; clear ha a; intro a ha
                      refine q_unwant0 ha rfl (yields0 ha rfl rfl) ?_; clear ha a; intro a ha
                      refine q_unwant0 ha rfl (yields0 ha rfl rfl) ?_; clear ha a; intro a ha
                      refine q_unwant0 ha rfl (yields0 ha rfl rfl) ?_; clear ha a; intro a ha
                      refine q_unwant0 ha rfl (yields0 ha rfl rfl) ?_; clear ha a; intro a ha
                      refine q_unwant0 ha rfl (yields0 ha rfl rfl) ?_; clear ha a; intro a ha
                      refine q_unwant0 ha rfl (yields0 ha rfl rfl) ?_; clear ha a; intro a ha
                      refine q_unwant ha rfl (yields ha rfl rfl) rfl ?_; clear ha a; intro a ha
                      refine q_g ha rfl (g_pick rfl rfl) ?_; clear ha a; intro a ha
                      refine q_nil ?_; intro w831 hx832
                      replace hB362 := hB362.ext hx832
                      replace h365 := h365.ext hx832
                      have hE833 := Ext.trans hE374 hx832
                      replace ha := ha.sub (σ' := [(1, va1), (2, (.pointer (some ⟨b1, 0, none⟩))), (5, v368), (6, (.int .i64 i370)), (7, v713), (31, v713), (32, (.pointer (some p725))), (33, (.int .i64 x722)), (34, v713), (35, (.pointer (some p737))), (36, (.int .i64 x734)), (37, (.bool false)), (40, (.agg #[va0_0])), (41, v713), (42, (.pointer (some p755))), (43, (.int .i64 x752)), (44, v713), (45, (.pointer (some p767))), (46, (.int .i64 x764)), (47, (.bool x778)), (48, (.bool false)), (51, v368), (52, v713), (53, (.pointer (some p789))), (54, (.int .i64 x786)), (55, (.bool false)), (58, v368), (59, v713), (60, (.pointer (some p814))), (61, (.int .i64 x811)), (62, (.bool true)), (80, (.bool true))]) ⟨rfl, rfl, rfl, rfl, rfl, rfl, rfl, rfl, rfl, rfl, rfl, rfl, rfl, rfl, rfl, rfl, rfl, rfl, rfl, rfl, rfl, rfl, rfl, rfl, rfl, rfl, rfl, rfl, rfl, rfl, rfl, rfl, trivial⟩
                      refine e_then ?_
                      refine c_true ha rfl ?_
                      refine wp_seq ?_
                      refine wp_region_lit ?_
                      refine op_g ha rfl (g_assign rfl) ?_; clear ha a; intro a ha
                      refine wpList_nil ?_
                      replace ha := ha.sub (σ' := [(4, (.bool false))]) ⟨rfl, trivial⟩
                      refine e_then ?_
                      refine wp_ret ?_
                      refine e_then_ret ?_
                      refine e_blk_ret ?_
                      refine e_then_ret ?_
                      refine e_lq_ret ?_
                      refine e_then_ret ?_
                      obtain rfl := Option.some.inj hF
                      have e834 := LK_inr hN698; subst e834
                      have e835 := BK_inr hK694; subst e835
                      exact f_ret1 ha rfl rfl ⟨rfl, hE833⟩
                    · replace hF := if_f hp830 hF
                      rw [show (x828) = false from b_false (Iff.rfl) hp830] at ha
                      refine q_want (yields ha rfl rfl) ?_
                      refine q_g ha rfl (g_move rfl) ?_; clear ha a; intro a ha
                      refine q_want (yields ha rfl rfl) ?_
                      refine q_g ha rfl (g_gtr rfl rfl) ?_; clear ha a; intro a ha
                      refine q_want (yields ha rfl rfl) ?_
                      refine q_g ha rfl (g_move rfl) ?_; clear ha a; intro a ha
                      by_cases hp836 : 0 < i370
                      · replace hF := if_t hp836 hF
                        rw [show (decide (0 < i370)) = true from (decide_eq_true_iff).2 hp836] at ha
                        refine q_want (yields ha rfl rfl) ?_
                        refine q_g ha rfl (g_move rfl) ?_; clear ha a; intro a ha
                        refine q_want (yields ha rfl rfl) ?_
                        obtain ⟨x837, g838, gx839, hF⟩ := idx_some hF
                        obtain ⟨p840, cs841, f842, hf843, hpb844, hat845, hr846, hi847⟩ := h714.at g838 gx839
                        obtain ⟨rfl, hI848, rfl⟩ := hr846
                        refine q_g ha rfl (hi847.gives sl25 rfl rfl) ?_; clear ha a; intro a ha
                        refine q_want (yields ha rfl rfl) ?_
                        refine q_g ha rfl (g_load0 hE374 Try.isAgg2 rfl hat845.one) ?_; clear ha a; intro a ha
                        refine q_want (yields ha rfl rfl) ?_
                        refine q_g ha rfl (g_move rfl) ?_; clear ha a; intro a ha
                        refine q_want (yields ha rfl rfl) ?_
                        refine q_g ha rfl (g_move rfl) ?_; clear ha a; intro a ha
                        refine q_want (yields ha rfl rfl) ?_
                        obtain ⟨hI849, hF⟩ := ck_some hF
                        refine q_g ha rfl (g_sub rfl rfl hI849) ?_; clear ha a; intro a ha
                        refine q_want (yields ha rfl rfl) ?_
                        obtain ⟨x851, g852, gx853, hF⟩ := idx_some hF
                        obtain ⟨p854, cs855, f856, hf857, hpb858, hat859, hr860, hi861⟩ := ha1.at g852 gx853
                        obtain ⟨v862, rfl, h863⟩ := hr860
                        have h863 : Ro Rp.int W f856 v862 x851 := h863
                        refine q_g ha rfl (hi861.gives sl22 rfl rfl) ?_; clear ha a; intro a ha
                        refine q_want (yields ha rfl rfl) ?_
                        refine q_g ha rfl (g_load0 hE374 Try.isAgg25 rfl hat859.one) ?_; clear ha a; intro a ha
                        refine q_want (yields ha rfl rfl) ?_
                        obtain ⟨x865, g866, gx867, hF⟩ := idx_some hF
                        obtain ⟨p868, cs869, f870, hf871, hpb872, hat873, hr874, hi875⟩ := h863.at g866 gx867
                        obtain ⟨rfl, hI876, rfl⟩ := hr874
                        refine q_g ha rfl (hi875.gives sl25 rfl rfl) ?_; clear ha a; intro a ha
                        refine q_want (yields ha rfl rfl) ?_
                        refine q_g ha rfl (g_load0 hE374 Try.isAgg2 rfl hat873.one) ?_; clear ha a; intro a ha
                        refine q_want (yields ha rfl rfl) ?_
                        refine q_g ha rfl (g_leq rfl rfl) ?_; clear ha a; intro a ha
                        refine q_want (yields ha rfl rfl) ?_
                        refine q_g ha rfl (g_pick rfl rfl) ?_; clear ha a; intro a ha
                        refine q_g ha rfl (g_pick rfl rfl) ?_; clear ha a; intro a ha
                        refine q_nil ?_; intro w877 hx878
                        replace hB362 := hB362.ext hx878
                        replace h365 := h365.ext hx878
                        have hE879 := Ext.trans hE374 hx878
                        replace ha := ha.sub (σ' := [(1, va1), (2, (.pointer (some ⟨b1, 0, none⟩))), (5, v368), (6, (.int .i64 i370)), (7, v713), (31, v713), (32, (.pointer (some p725))), (33, (.int .i64 x722)), (34, v713), (35, (.pointer (some p737))), (36, (.int .i64 x734)), (37, (.bool false)), (40, (.agg #[va0_0])), (41, v713), (42, (.pointer (some p755))), (43, (.int .i64 x752)), (44, v713), (45, (.pointer (some p767))), (46, (.int .i64 x764)), (47, (.bool x778)), (48, (.bool false)), (51, v368), (52, v713), (53, (.pointer (some p789))), (54, (.int .i64 x786)), (55, (.bool false)), (58, v368), (59, v713), (60, (.pointer (some p814))), (61, (.int .i64 x811)), (62, (.bool false)), (65, (.int .i64 i370)), (66, (.bool true)), (67, (.bool true)), (68, v713), (69, (.pointer (some p840))), (70, (.int .i64 x837)), (71, va1), (72, (.int .i64 i370)), (73, (.int .i64 (i370 - 1))), (74, (.pointer (some p854))), (75, v862), (76, (.pointer (some p868))), (77, (.int .i64 x865)), (78, (.bool (decide (x837 ≤ x865)))), (79, (.bool (decide (x837 ≤ x865)))), (80, (.bool (decide (x837 ≤ x865))))]) ⟨rfl, rfl, rfl, rfl, rfl, rfl, rfl, rfl, rfl, rfl, rfl, rfl, rfl, rfl, rfl, rfl, rfl, rfl, rfl, rfl, rfl, rfl, rfl, rfl, rfl, rfl, rfl, rfl, rfl, rfl, rfl, rfl, rfl, rfl, rfl, rfl, rfl, rfl, rfl, rfl, rfl, rfl, rfl, rfl, rfl, rfl, rfl, trivial⟩
                        refine e_then ?_
                        refine c_cond (x837 ≤ x865) ha rfl (decide_eq_true_iff) (fun hp880 => ?_) (fun hp880 => ?_)
                        · replace hF := if_t hp880 hF
                          refine wp_seq ?_
                          refine wp_region_lit ?_
                          refine op_g ha rfl (g_assign rfl) ?_; clear ha a; intro a ha
                          refine wpList_nil ?_
                          replace ha := ha.sub (σ' := [(4, (.bool false))]) ⟨rfl, trivial⟩
                          refine e_then ?_
                          refine wp_ret ?_
                          refine e_then_ret ?_
                          refine e_blk_ret ?_
                          refine e_then_ret ?_
                          refine e_lq_ret ?_
                          refine e_then_ret ?_
                          obtain rfl := Option.some.inj hF
                          have e881 := LK_inr hN698; subst e881
                          have e882 := BK_inr hK694; subst e882
                          exact f_ret1 ha rfl rfl ⟨rfl, hE879⟩
                        · replace hF := if_f hp880 hF
                          refine wp_skip ?_
                          refine e_then ?_
                          refine d_region [0, 1, 2, 3, 4, 5, 6, 7] hmix ?_
                          refine u_g 0 rfl (by kernel_rfl) (want0 _) ha rfl (g_move rfl) ?_; clear ha a; intro a ha
                          refine u_g 1 rfl (by kernel_rfl) (want0 _) ha rfl (g_move rfl) ?_; clear ha a; intro a ha
                          obtain ⟨x883, g884, gx885, hF⟩ := idx_some hF
                          obtain ⟨p886, cs887, f888, hf889, hpb890, hat891, hr892, hi893⟩ := h714.at g884 gx885
                          obtain ⟨rfl, hI894, rfl⟩ := hr892
                          refine u_g 2 rfl (by kernel_rfl) (want0 _) ha rfl (hi893.gives sl25 rfl rfl) ?_; clear ha a; intro a ha
                          refine u_g 3 rfl (by kernel_rfl) (want0 _) ha rfl (g_load0 hE879 Try.isAgg2 rfl hat891.one) ?_; clear ha a; intro a ha
                          refine u_g 4 rfl (by kernel_rfl) (want0 _) ha rfl (g_move rfl) ?_; clear ha a; intro a ha
                          obtain ⟨x895, g896, gx897, hF⟩ := idx_some hF
                          obtain ⟨p898, cs899, f900, hf901, hpb902, hat903, hr904, hi905⟩ := h714.at g896 gx897
                          obtain ⟨rfl, hI906, rfl⟩ := hr904
                          refine u_g 5 rfl (by kernel_rfl) (want0 _) ha rfl (hi905.gives sl25 rfl rfl) ?_; clear ha a; intro a ha
                          refine u_g 6 rfl (by kernel_rfl) (want0 _) ha rfl (g_load0 hE879 Try.isAgg2 rfl hat903.one) ?_; clear ha a; intro a ha
                          refine u_only 7 rfl (by kernel_rfl) ?_; intro w907 hx908
                          replace hB362 := hB362.ext hx908
                          replace h365 := h365.ext hx908
                          have hE909 := Ext.trans hE879 hx908
                          have hvob914 : ∀ p ∈ ([((.int .i64 x883), [(.int .i64 x883)]), ((.int .i64 x895), [(.int .i64 x895)])] : List (Value × List Value)), p.1.cells = p.2.toArray ∧ p.2.length = 1 := by
                            intro p hp; simp only [List.mem_cons, List.not_mem_nil, or_false] at hp; rcases hp with hp | hp <;> subst hp <;> first | exact ⟨rfl, rfl⟩
                          refine o_litM (o := true) (f := []) (ps := [((.int .i64 x883), [(.int .i64 x883)]), ((.int .i64 x895), [(.int .i64 x895)])]) (ys := [x883, x895]) Rp.int ha rfl sl25 rfl rfl rfl rfl hvob914 ⟨[], [], [(.int .i64 x883)], _, rfl, rfl, ⟨rfl, hI894, rfl⟩, ⟨[], [], [(.int .i64 x895)], _, rfl, rfl, ⟨rfl, hI906, rfl⟩, ⟨rfl, rfl⟩⟩⟩ ?_; clear ha a; intro v910 w911 h912 hx913 a ha
                          obtain ⟨b915, hb915⟩ : ∃ b : Int, b = w907.heap.size := ⟨_, rfl⟩; rw [← hb915] at h912
                          have q916 := zn_of hb915
                          have q917 := Nq.new hB362.fpb q916
                          have q918 := Nq.madeO q916 hB362.bi
                          have q919 := Nq.new h365.fpb q916
                          have q920 := Nq.madeO q916 h365.blt
                          have q921 := Zn.upD q916 hE909
                          replace hB362 := hB362.ext hx913
                          replace h365 := h365.ext hx913
                          have hE922 := Ext.trans hE909 hx913
                          refine wpList_nil (e_sq ?_)
                          refine ⟨fun _ => hx913, ?_⟩
                          refine u_only 8 rfl (by kernel_rfl) ?_; intro w923 hx924
                          replace hB362 := hB362.ext hx924
                          replace h365 := h365.ext hx924
                          replace h912 := h912.ext hx924
                          have hE925 := Ext.trans hE922 hx924
                          obtain ⟨hl926, hF⟩ := app_some hF
                          refine o_append ha rfl sl25 rfl rfl rfl h365 h912.src (Nq.nil _) hl926 ?_; clear ha a; intro v927 w928 b929 h930 hc931 hb932 a ha
                          replace h930 : Ow Rp.int 2 true w928 [] b929 v927 _ := h930
                          have q934 := Nq.appY q372 hB362.fpb hb932
                          have q935 := Nq.appX q373 (Nq.nil _) hb932 hB362.bi
                          have q936 := Nq.appY q920 h912.fpb hb932
                          have q937 := Nq.appX q919 (Nq.nil _) hb932 h912.blt
                          have q938 := Zn.appD z366 hb932 hE925
                          replace hB362 := hB362.nq hc931 q372
                          replace h912 := h912.nq hc931 q920
                          have hE939 := Ext.then hE925 hc931 (Zn.bl z366)
                          refine wpList_nil (e_sq ?_)
                          refine ⟨fun h => absurd h (by decide), ?_⟩
                          refine u_only 9 rfl (by kernel_rfl) ?_; intro w940 hx941
                          replace hB362 := hB362.ext hx941
                          replace h912 := h912.ext hx941
                          replace h930 := h930.ext hx941
                          have hE942 := Ext.trans hE939 hx941
                          refine op_g ha rfl (g_assign rfl) ?_; clear ha a; intro a ha
                          refine wpList_nil (e_sq ?_)
                          refine ⟨fun h => absurd h (by decide), ?_⟩
                          refine u_done (by kernel_rfl) ?_; intro w943 hx944
                          replace hB362 := hB362.ext hx944
                          replace h912 := h912.ext hx944
                          replace h930 := h930.ext hx944
                          have hE945 := Ext.trans hE942 hx944
                          replace ha := ha.sub (σ' := [(1, va1), (2, (.pointer (some ⟨b1, 0, none⟩))), (5, v927), (6, (.int .i64 i370)), (31, v713), (32, (.pointer (some p725))), (33, (.int .i64 x722)), (34, v713), (35, (.pointer (some p737))), (36, (.int .i64 x734)), (37, (.bool false)), (40, (.agg #[va0_0])), (41, v713), (42, (.pointer (some p755))), (43, (.int .i64 x752)), (44, v713), (45, (.pointer (some p767))), (46, (.int .i64 x764)), (47, (.bool x778)), (48, (.bool false)), (51, v368), (52, v713), (53, (.pointer (some p789))), (54, (.int .i64 x786)), (55, (.bool false)), (58, v368), (59, v713), (60, (.pointer (some p814))), (61, (.int .i64 x811)), (62, (.bool false)), (65, (.int .i64 i370)), (66, (.bool true)), (67, (.bool true)), (68, v713), (69, (.pointer (some p840))), (70, (.int .i64 x837)), (71, va1), (72, (.int .i64 i370)), (73, (.int .i64 (i370 - 1))), (74, (.pointer (some p854))), (75, v862), (76, (.pointer (some p868))), (77, (.int .i64 x865)), (78, (.bool (decide (x837 ≤ x865)))), (79, (.bool (decide (x837 ≤ x865))))]) ⟨rfl, rfl, rfl, rfl, rfl, rfl, rfl, rfl, rfl, rfl, rfl, rfl, rfl, rfl, rfl, rfl, rfl, rfl, rfl, rfl, rfl, rfl, rfl, rfl, rfl, rfl, rfl, rfl, rfl, rfl, rfl, rfl, rfl, rfl, rfl, rfl, rfl, rfl, rfl, rfl, rfl, rfl, rfl, rfl, rfl, trivial⟩
                          refine e_blk ?_
                          refine e_then ?_
                          refine wp_region_lit ?_
                          refine op_g ha rfl (g_move rfl) ?_; clear ha a; intro a ha
                          obtain ⟨hI946, hF⟩ := ck_some hF
                          refine op_g ha rfl (g_add rfl rfl hI946) ?_; clear ha a; intro a ha
                          refine op_g ha rfl (g_assign rfl) ?_; clear ha a; intro a ha
                          refine wpList_nil ?_
                          replace ha := ha.sub (σ' := [(1, va1), (2, (.pointer (some ⟨b1, 0, none⟩))), (5, v927), (6, (.int .i64 (i370 + 1))), (31, v713), (32, (.pointer (some p725))), (33, (.int .i64 x722)), (34, v713), (35, (.pointer (some p737))), (36, (.int .i64 x734)), (37, (.bool false)), (40, (.agg #[va0_0])), (41, v713), (42, (.pointer (some p755))), (43, (.int .i64 x752)), (44, v713), (45, (.pointer (some p767))), (46, (.int .i64 x764)), (47, (.bool x778)), (48, (.bool false)), (51, v368), (52, v713), (53, (.pointer (some p789))), (54, (.int .i64 x786)), (55, (.bool false)), (58, v368), (59, v713), (60, (.pointer (some p814))), (61, (.int .i64 x811)), (62, (.bool false)), (65, (.int .i64 i370)), (66, (.bool true)), (67, (.bool true)), (68, v713), (69, (.pointer (some p840))), (70, (.int .i64 x837)), (71, va1), (72, (.int .i64 i370)), (73, (.int .i64 (i370 - 1))), (74, (.pointer (some p854))), (75, v862), (76, (.pointer (some p868))), (77, (.int .i64 x865)), (78, (.bool (decide (x837 ≤ x865)))), (79, (.bool (decide (x837 ≤ x865))))]) ⟨rfl, rfl, rfl, rfl, rfl, rfl, rfl, rfl, rfl, rfl, rfl, rfl, rfl, rfl, rfl, rfl, rfl, rfl, rfl, rfl, rfl, rfl, rfl, rfl, rfl, rfl, rfl, rfl, rfl, rfl, rfl, rfl, rfl, rfl, rfl, rfl, rfl, rfl, rfl, rfl, rfl, rfl, rfl, rfl, rfl, trivial⟩
                          refine e_lq ?_
                          obtain rfl := Option.some.inj hF
                          exact ⟨_, Nat.lt_succ_self _, (l367 ++ ([x883, x895])), i370 + 1, v927, b929, ha.sub ⟨rfl, rfl, rfl, rfl, trivial⟩, hE945, hI946, hB362, z363, h930, q938, q934, q935, hN698⟩
                      · replace hF := if_f hp836 hF
                        rw [show (decide (0 < i370)) = false from b_false (decide_eq_true_iff) hp836] at ha
                        refine q_unwant ha rfl (yields ha rfl rfl) rfl ?_; clear ha a; intro a ha
                        refine q_unwant ha rfl (yields ha rfl rfl) rfl ?_; clear ha a; intro a ha
                        refine q_unwant ha rfl (yields ha rfl rfl) rfl ?_; clear ha a; intro a ha
                        refine q_unwant ha rfl (yields ha rfl rfl) rfl ?_; clear ha a; intro a ha
                        refine q_unwant ha rfl (yields ha rfl rfl) rfl ?_; clear ha a; intro a ha
                        refine q_unwant ha rfl (yields ha rfl rfl) rfl ?_; clear ha a; intro a ha
                        refine q_unwant ha rfl (yields ha rfl rfl) rfl ?_; clear ha a; intro a ha
                        refine q_unwant ha rfl (yields ha rfl rfl) rfl ?_; clear ha a; intro a ha
                        refine q_unwant ha rfl (yields ha rfl rfl) rfl ?_; clear ha a; intro a ha
                        refine q_unwant ha rfl (yields ha rfl rfl) rfl ?_; clear ha a; intro a ha
                        refine q_unwant ha rfl (yields ha rfl rfl) rfl ?_; clear ha a; intro a ha
                        refine q_want (yields ha rfl rfl) ?_
                        refine q_g ha rfl (g_pick rfl rfl) ?_; clear ha a; intro a ha
                        refine q_g ha rfl (g_pick rfl rfl) ?_; clear ha a; intro a ha
                        refine q_nil ?_; intro w948 hx949
                        replace hB362 := hB362.ext hx949
                        replace h365 := h365.ext hx949
                        have hE950 := Ext.trans hE374 hx949
                        replace ha := ha.sub (σ' := [(1, va1), (2, (.pointer (some ⟨b1, 0, none⟩))), (5, v368), (6, (.int .i64 i370)), (7, v713), (31, v713), (32, (.pointer (some p725))), (33, (.int .i64 x722)), (34, v713), (35, (.pointer (some p737))), (36, (.int .i64 x734)), (37, (.bool false)), (40, (.agg #[va0_0])), (41, v713), (42, (.pointer (some p755))), (43, (.int .i64 x752)), (44, v713), (45, (.pointer (some p767))), (46, (.int .i64 x764)), (47, (.bool x778)), (48, (.bool false)), (51, v368), (52, v713), (53, (.pointer (some p789))), (54, (.int .i64 x786)), (55, (.bool false)), (58, v368), (59, v713), (60, (.pointer (some p814))), (61, (.int .i64 x811)), (62, (.bool false)), (65, (.int .i64 i370)), (66, (.bool false)), (67, (.bool false)), (79, (.bool false)), (80, (.bool false))]) ⟨rfl, rfl, rfl, rfl, rfl, rfl, rfl, rfl, rfl, rfl, rfl, rfl, rfl, rfl, rfl, rfl, rfl, rfl, rfl, rfl, rfl, rfl, rfl, rfl, rfl, rfl, rfl, rfl, rfl, rfl, rfl, rfl, rfl, rfl, rfl, rfl, trivial⟩
                        refine e_then ?_
                        refine c_false ha rfl ?_
                        refine wp_skip ?_
                        refine e_then ?_
                        refine d_region [0, 1, 2, 3, 4, 5, 6, 7] hmix ?_
                        refine u_g 0 rfl (by kernel_rfl) (want0 _) ha rfl (g_move rfl) ?_; clear ha a; intro a ha
                        refine u_g 1 rfl (by kernel_rfl) (want0 _) ha rfl (g_move rfl) ?_; clear ha a; intro a ha
                        obtain ⟨x951, g952, gx953, hF⟩ := idx_some hF
                        obtain ⟨p954, cs955, f956, hf957, hpb958, hat959, hr960, hi961⟩ := h714.at g952 gx953
                        obtain ⟨rfl, hI962, rfl⟩ := hr960
                        refine u_g 2 rfl (by kernel_rfl) (want0 _) ha rfl (hi961.gives sl25 rfl rfl) ?_; clear ha a; intro a ha
                        refine u_g 3 rfl (by kernel_rfl) (want0 _) ha rfl (g_load0 hE950 Try.isAgg2 rfl hat959.one) ?_; clear ha a; intro a ha
                        refine u_g 4 rfl (by kernel_rfl) (want0 _) ha rfl (g_move rfl) ?_; clear ha a; intro a ha
                        obtain ⟨x963, g964, gx965, hF⟩ := idx_some hF
                        obtain ⟨p966, cs967, f968, hf969, hpb970, hat971, hr972, hi973⟩ := h714.at g964 gx965
                        obtain ⟨rfl, hI974, rfl⟩ := hr972
                        refine u_g 5 rfl (by kernel_rfl) (want0 _) ha rfl (hi973.gives sl25 rfl rfl) ?_; clear ha a; intro a ha
                        refine u_g 6 rfl (by kernel_rfl) (want0 _) ha rfl (g_load0 hE950 Try.isAgg2 rfl hat971.one) ?_; clear ha a; intro a ha
                        refine u_only 7 rfl (by kernel_rfl) ?_; intro w975 hx976
                        replace hB362 := hB362.ext hx976
                        replace h365 := h365.ext hx976
                        have hE977 := Ext.trans hE950 hx976
                        have hvob982 : ∀ p ∈ ([((.int .i64 x951), [(.int .i64 x951)]), ((.int .i64 x963), [(.int .i64 x963)])] : List (Value × List Value)), p.1.cells = p.2.toArray ∧ p.2.length = 1 := by
                          intro p hp; simp only [List.mem_cons, List.not_mem_nil, or_false] at hp; rcases hp with hp | hp <;> subst hp <;> first | exact ⟨rfl, rfl⟩
                        refine o_litM (o := true) (f := []) (ps := [((.int .i64 x951), [(.int .i64 x951)]), ((.int .i64 x963), [(.int .i64 x963)])]) (ys := [x951, x963]) Rp.int ha rfl sl25 rfl rfl rfl rfl hvob982 ⟨[], [], [(.int .i64 x951)], _, rfl, rfl, ⟨rfl, hI962, rfl⟩, ⟨[], [], [(.int .i64 x963)], _, rfl, rfl, ⟨rfl, hI974, rfl⟩, ⟨rfl, rfl⟩⟩⟩ ?_; clear ha a; intro v978 w979 h980 hx981 a ha
                        obtain ⟨b983, hb983⟩ : ∃ b : Int, b = w975.heap.size := ⟨_, rfl⟩; rw [← hb983] at h980
                        have q984 := zn_of hb983
                        have q985 := Nq.new hB362.fpb q984
                        have q986 := Nq.madeO q984 hB362.bi
                        have q987 := Nq.new h365.fpb q984
                        have q988 := Nq.madeO q984 h365.blt
                        have q989 := Zn.upD q984 hE977
                        replace hB362 := hB362.ext hx981
                        replace h365 := h365.ext hx981
                        have hE990 := Ext.trans hE977 hx981
                        refine wpList_nil (e_sq ?_)
                        refine ⟨fun _ => hx981, ?_⟩
                        refine u_only 8 rfl (by kernel_rfl) ?_; intro w991 hx992
                        replace hB362 := hB362.ext hx992
                        replace h365 := h365.ext hx992
                        replace h980 := h980.ext hx992
                        have hE993 := Ext.trans hE990 hx992
                        obtain ⟨hl994, hF⟩ := app_some hF
                        refine o_append ha rfl sl25 rfl rfl rfl h365 h980.src (Nq.nil _) hl994 ?_; clear ha a; intro v995 w996 b997 h998 hc999 hb1000 a ha
                        replace h998 : Ow Rp.int 2 true w996 [] b997 v995 _ := h998
                        have q1002 := Nq.appY q372 hB362.fpb hb1000
                        have q1003 := Nq.appX q373 (Nq.nil _) hb1000 hB362.bi
                        have q1004 := Nq.appY q988 h980.fpb hb1000
                        have q1005 := Nq.appX q987 (Nq.nil _) hb1000 h980.blt
                        have q1006 := Zn.appD z366 hb1000 hE993
                        replace hB362 := hB362.nq hc999 q372
                        replace h980 := h980.nq hc999 q988
                        have hE1007 := Ext.then hE993 hc999 (Zn.bl z366)
                        refine wpList_nil (e_sq ?_)
                        refine ⟨fun h => absurd h (by decide), ?_⟩
                        refine u_only 9 rfl (by kernel_rfl) ?_; intro w1008 hx1009
                        replace hB362 := hB362.ext hx1009
                        replace h980 := h980.ext hx1009
                        replace h998 := h998.ext hx1009
                        have hE1010 := Ext.trans hE1007 hx1009
                        refine op_g ha rfl (g_assign rfl) ?_; clear ha a; intro a ha
                        refine wpList_nil (e_sq ?_)
                        refine ⟨fun h => absurd h (by decide), ?_⟩
                        refine u_done (by kernel_rfl) ?_; intro w1011 hx1012
                        replace hB362 := hB362.ext hx1012
                        replace h980 := h980.ext hx1012
                        replace h998 := h998.ext hx1012
                        have hE1013 := Ext.trans hE1010 hx1012
                        replace ha := ha.sub (σ' := [(1, va1), (2, (.pointer (some ⟨b1, 0, none⟩))), (5, v995), (6, (.int .i64 i370)), (31, v713), (32, (.pointer (some p725))), (33, (.int .i64 x722)), (34, v713), (35, (.pointer (some p737))), (36, (.int .i64 x734)), (37, (.bool false)), (40, (.agg #[va0_0])), (41, v713), (42, (.pointer (some p755))), (43, (.int .i64 x752)), (44, v713), (45, (.pointer (some p767))), (46, (.int .i64 x764)), (47, (.bool x778)), (48, (.bool false)), (51, v368), (52, v713), (53, (.pointer (some p789))), (54, (.int .i64 x786)), (55, (.bool false)), (58, v368), (59, v713), (60, (.pointer (some p814))), (61, (.int .i64 x811)), (62, (.bool false)), (65, (.int .i64 i370)), (66, (.bool false)), (67, (.bool false)), (79, (.bool false))]) ⟨rfl, rfl, rfl, rfl, rfl, rfl, rfl, rfl, rfl, rfl, rfl, rfl, rfl, rfl, rfl, rfl, rfl, rfl, rfl, rfl, rfl, rfl, rfl, rfl, rfl, rfl, rfl, rfl, rfl, rfl, rfl, rfl, rfl, rfl, trivial⟩
                        refine e_blk ?_
                        refine e_then ?_
                        refine wp_region_lit ?_
                        refine op_g ha rfl (g_move rfl) ?_; clear ha a; intro a ha
                        obtain ⟨hI1014, hF⟩ := ck_some hF
                        refine op_g ha rfl (g_add rfl rfl hI1014) ?_; clear ha a; intro a ha
                        refine op_g ha rfl (g_assign rfl) ?_; clear ha a; intro a ha
                        refine wpList_nil ?_
                        replace ha := ha.sub (σ' := [(1, va1), (2, (.pointer (some ⟨b1, 0, none⟩))), (5, v995), (6, (.int .i64 (i370 + 1))), (31, v713), (32, (.pointer (some p725))), (33, (.int .i64 x722)), (34, v713), (35, (.pointer (some p737))), (36, (.int .i64 x734)), (37, (.bool false)), (40, (.agg #[va0_0])), (41, v713), (42, (.pointer (some p755))), (43, (.int .i64 x752)), (44, v713), (45, (.pointer (some p767))), (46, (.int .i64 x764)), (47, (.bool x778)), (48, (.bool false)), (51, v368), (52, v713), (53, (.pointer (some p789))), (54, (.int .i64 x786)), (55, (.bool false)), (58, v368), (59, v713), (60, (.pointer (some p814))), (61, (.int .i64 x811)), (62, (.bool false)), (65, (.int .i64 i370)), (66, (.bool false)), (67, (.bool false)), (79, (.bool false))]) ⟨rfl, rfl, rfl, rfl, rfl, rfl, rfl, rfl, rfl, rfl, rfl, rfl, rfl, rfl, rfl, rfl, rfl, rfl, rfl, rfl, rfl, rfl, rfl, rfl, rfl, rfl, rfl, rfl, rfl, rfl, rfl, rfl, rfl, rfl, trivial⟩
                        refine e_lq ?_
                        obtain rfl := Option.some.inj hF
                        exact ⟨_, Nat.lt_succ_self _, (l367 ++ ([x951, x963])), i370 + 1, v995, b997, ha.sub ⟨rfl, rfl, rfl, rfl, trivial⟩, hE1013, hI1014, hB362, z363, h998, q1006, q1002, q1003, hN698⟩
          · replace hF := if_f hp701 hF
            refine wp_exit ?_
            refine e_then_exit ?_
            refine e_lq_eq ?_
            obtain rfl := Option.some.inj hF
            exact ⟨ha.sub trivial, hE374, (LK_inr hN698).symm⟩
      · rintro a w691 ⟨ha, hE697, rfl⟩
        have hF : F_spec_MatchOk_k2 = some _ := hK694; clear hK694; unfold F_spec_MatchOk_k2 at hF
        refine e_then ?_
        refine wp_seq ?_
        refine wp_region_lit ?_
        refine op_g ha rfl (g_assign rfl) ?_; clear ha a; intro a ha
        refine wpList_nil ?_
        refine e_then ?_
        refine wp_ret ?_
        obtain rfl := Option.some.inj hF
        exact f_ret1 ha rfl rfl ⟨rfl, hE697⟩
set_option maxHeartbeats 2000000 in
theorem W_spec_l26None {W : World} {a0 : Int} (ha0 : InI a0) {r : (List Int)} (hF : F_spec_l26None a0 = some r) :
    Calls Try.prog 55 [.int .i64 a0].toArray W (Ret fun u w' => ∃ (b_u : Int), Ow Rp.int 2 true w' [] b_u u r ∧ Zn W b_u ∧ Ext W w') := by
  refine f_enter Try.func55 rfl Try.ntmps55 rfl ?_
  intro a ha
  replace ha : Fr 15 [(0, (.int .i64 a0))] a := ha
  have hE : Chg [] W W := Chg.refl _ _
  unfold F_spec_l26None at hF
  refine wp_seq ?_
  refine wp_region_lit ?_
  refine op_g ha rfl (g_assign rfl) ?_; clear ha a; intro a ha
  refine wpList_nil ?_
  replace ha := ha.sub (σ' := [(0, (.int .i64 a0))]) ⟨rfl, trivial⟩
  refine e_then ?_
  refine wp_seq ?_
  refine wp_region_lit ?_
  refine o_lit0 Rp.int ha rfl sl25 ?_; clear ha a; intro v1 w2 h3 hx4 a ha
  obtain ⟨b6, hb6⟩ : ∃ b : Int, b = W.heap.size := ⟨_, rfl⟩; rw [← hb6] at h3
  have q7 := zn_of hb6
  have q8 := Zn.upD q7 hE
  have hE9 := Ext.trans hE hx4
  refine op_g ha rfl (g_assign rfl) ?_; clear ha a; intro a ha
  refine wpList_nil ?_
  replace ha := ha.sub (σ' := [(0, (.int .i64 a0)), (3, v1)]) ⟨rfl, rfl, trivial⟩
  refine e_then ?_
  refine wp_seq ?_
  refine wp_seq ?_
  refine wp_region_lit ?_
  refine op_g ha rfl (g_assign rfl) ?_; clear ha a; intro a ha
  refine wpList_nil ?_
  refine e_then ?_
  obtain ⟨o102, ho103, hK104⟩ := bnd_some hF
  obtain ⟨n105, hn106⟩ := lp_some ho103; clear ho103
  refine c_loop (fun a w => ∃ (l99 : (List Int)) (v100 : Value) (b101 : Int), Fr 15 [(3, v100)] a ∧ Chg [] W w ∧ Ow Rp.int 2 true w [] b101 v100 l99 ∧ Zn W b101 ∧ o102 = .inl l99) (fun n a w => ∃ (l54 : (List Int)) (i57 : Int) (v55 : Value) (b56 : Int), Fr 15 [(0, (.int .i64 a0)), (3, v55), (4, (.int .i64 i57))] a ∧ Chg [] W w ∧ InI i57 ∧ Ow Rp.int 2 true w [] b56 v55 l54 ∧ Zn W b56 ∧ lpN (fun s => F_spec_l26None_l1 a0 s.1 s.2) n (l54, i57) = some o102) n105 ⟨([] : (List Int)), 0, v1, b6, ha.sub ⟨rfl, rfl, rfl, trivial⟩, hE9, (show InI 0 from by decide), h3, q8, hn106⟩ ?_ ?_
  · rintro m110 a w50 ⟨l54, i57, v55, b56, ha, hE59, hI58, h52, z53, hF⟩
    cases m110 with
    | zero => exact (lpN_zero hF).elim
    | succ m110 =>
      obtain ⟨z109, hF, hN108⟩ := lpN_succ hF
      have hF : F_spec_l26None_l1 a0 l54 i57 = some z109 := hF; unfold F_spec_l26None_l1 at hF
      refine wp_seq ?_
      refine wp_seq ?_
      refine wp_region_lit ?_
      refine op_g ha rfl (g_move rfl) ?_; clear ha a; intro a ha
      refine op_g ha rfl (g_move rfl) ?_; clear ha a; intro a ha
      refine op_g ha rfl (g_lss rfl rfl) ?_; clear ha a; intro a ha
      refine wpList_nil ?_
      replace ha := ha.sub (σ' := [(0, (.int .i64 a0)), (3, v55), (4, (.int .i64 i57)), (8, (.bool (decide (i57 < a0))))]) ⟨rfl, rfl, rfl, rfl, trivial⟩
      refine e_then ?_
      refine c_cond (i57 < a0) ha rfl (decide_eq_true_iff) (fun hp111 => ?_) (fun hp111 => ?_)
      · replace hF := if_t hp111 hF
        refine wp_skip ?_
        refine e_then ?_
        refine wp_seq ?_
        refine wp_block ?_
        refine wp_region_lit ?_
        refine op_g ha rfl (g_move rfl) ?_; clear ha a; intro a ha
        refine o_lit1 (o := true) (y := (-1)) Rp.int ha rfl sl25 rfl rfl rfl ⟨rfl, (show InI (-1) from by decide), rfl⟩ ?_; clear ha a; intro v112 w113 h114 hx115 a ha
        obtain ⟨b117, hb117⟩ : ∃ b : Int, b = w50.heap.size := ⟨_, rfl⟩; rw [← hb117] at h114
        have q118 := zn_of hb117
        have q119 := Nq.new h52.fpb q118
        have q120 := Nq.madeO q118 h52.blt
        have q121 := Zn.upD q118 hE59
        replace h52 := h52.ext hx115
        have hE122 := Ext.trans hE59 hx115
        obtain ⟨hl123, hF⟩ := app_some hF
        refine o_append ha rfl sl25 rfl rfl rfl h52 h114.src (Nq.nil _) hl123 ?_; clear ha a; intro v124 w125 b126 h127 hc128 hb129 a ha
        replace h127 : Ow Rp.int 2 true w125 [] b126 v124 _ := h127
        have q131 := Nq.appY q120 h114.fpb hb129
        have q132 := Nq.appX q119 (Nq.nil _) hb129 h114.blt
        have q133 := Zn.appD z53 hb129 hE122
        replace h114 := h114.nq hc128 q120
        have hE134 := Ext.then hE122 hc128 (Zn.bl z53)
        refine op_g ha rfl (g_assign rfl) ?_; clear ha a; intro a ha
        refine wpList_nil ?_
        replace ha := ha.sub (σ' := [(0, (.int .i64 a0)), (3, v124), (4, (.int .i64 i57))]) ⟨rfl, rfl, rfl, trivial⟩
        refine e_blk ?_
        refine e_then ?_
        refine wp_region_lit ?_
        refine op_g ha rfl (g_move rfl) ?_; clear ha a; intro a ha
        obtain ⟨hI135, hF⟩ := ck_some hF
        refine op_g ha rfl (g_add rfl rfl hI135) ?_; clear ha a; intro a ha
        refine op_g ha rfl (g_assign rfl) ?_; clear ha a; intro a ha
        refine wpList_nil ?_
        replace ha := ha.sub (σ' := [(0, (.int .i64 a0)), (3, v124), (4, (.int .i64 (i57 + 1)))]) ⟨rfl, rfl, rfl, trivial⟩
        refine e_lq ?_
        obtain rfl := Option.some.inj hF
        exact ⟨_, Nat.lt_succ_self _, (l54 ++ ([(-1)])), i57 + 1, v124, b126, ha.sub ⟨rfl, rfl, rfl, trivial⟩, hE134, hI135, h127, q133, hN108⟩
      · replace hF := if_f hp111 hF
        refine wp_exit ?_
        refine e_then_exit ?_
        refine e_lq_eq ?_
        obtain rfl := Option.some.inj hF
        exact ⟨l54, v55, b56, ha.sub ⟨rfl, trivial⟩, hE59, h52, z53, (LK_inr hN108).symm⟩
  · rintro a w95 ⟨l99, v100, b101, ha, hE107, h97, z98, rfl⟩
    have hF : F_spec_l26None_k2 l99 = some _ := hK104; clear hK104; unfold F_spec_l26None_k2 at hF
    refine e_then ?_
    refine wp_seq ?_
    refine wp_region_lit ?_
    refine op_g ha rfl (g_move rfl) ?_; clear ha a; intro a ha
    refine op_g ha rfl (g_assign rfl) ?_; clear ha a; intro a ha
    refine wpList_nil ?_
    replace ha := ha.sub (σ' := [(2, v100)]) ⟨rfl, trivial⟩
    refine e_then ?_
    refine wp_ret ?_
    obtain rfl := Option.some.inj hF
    exact f_ret1 ha rfl rfl ⟨_, h97, z98, hE107⟩
set_option maxHeartbeats 2000000 in
theorem W_spec_l27Mates {W : World} {va0_0 : Value} {fa0_0 : List Nat} {a0_0 : (List (List Int))} (ha0_0 : Ro (Rp.sl 2 Rp.int) W fa0_0 va0_0 a0_0) {va1 : Value} {fa1 : List Nat} {a1 : (List (List Int))} (ha1 : Ro (Rp.sl 2 Rp.int) W fa1 va1 a1) {r : (List Int)} (hF : F_spec_l27Mates a0_0 a1 = some r) :
    Calls Try.prog 30 [.agg #[va0_0], va1].toArray W (Ret fun u w' => ∃ (b_u : Int), Ow Rp.int 2 true w' [] b_u u r ∧ Zn W b_u ∧ Ext W w') := by
  refine f_enter Try.func30 rfl Try.ntmps30 rfl ?_
  intro a ha
  replace ha : Fr 46 [(0, (.agg #[va0_0])), (1, va1)] a := ha
  have hE : Chg [] W W := Chg.refl _ _
  unfold F_spec_l27Mates at hF
  refine wp_seq ?_
  refine wp_region_lit ?_
  refine o_box ha rfl rfl rfl ?_; clear ha a; intro b1 w2 hB3 hx4 hlo5 a ha
  have q6 := Zn.one hlo5
  have q7 := Zn.upD q6 hE
  have hE8 := Ext.trans hE hx4
  refine op_g ha rfl (g_assign rfl) ?_; clear ha a; intro a ha
  refine wpList_nil ?_
  replace ha := ha.sub (σ' := [(1, va1), (2, (.pointer (some ⟨b1, 0, none⟩)))]) ⟨rfl, rfl, trivial⟩
  refine e_then ?_
  refine wp_seq ?_
  refine wp_region_lit ?_
  refine op_g ha rfl (g_field0 st30_0 rfl) ?_; clear ha a; intro a ha
  refine op_g ha rfl (g_load Try.isAgg22 rfl (hB3.cell rfl)) ?_; clear ha a; intro a ha
  refine op_g ha rfl (g_lenR sl22.und ha0_0 rfl) ?_; clear ha a; intro a ha
  obtain ⟨x9, hc10, hF⟩ := cal_some hF
  refine o_call ha rfl rfl Try.call55 (W_spec_l26None ha0_0.len hc10) ?_; clear ha a; rintro v11 w12 ⟨b14, h15, z16, hx13⟩ a ha
  have q18 := Nq.new hB3.fpb z16
  have q19 := Nq.madeO z16 hB3.bi
  replace hB3 := hB3.ext hx13
  have hE20 := Ext.trans hE8 hx13
  have q21 := Zn.upD z16 hE8
  refine op_g ha rfl (g_assign rfl) ?_; clear ha a; intro a ha
  refine wpList_nil ?_
  replace ha := ha.sub (σ' := [(1, va1), (5, v11)]) ⟨rfl, rfl, trivial⟩
  refine e_then ?_
  refine wp_seq ?_
  refine wp_seq ?_
  refine wp_region_lit ?_
  refine op_g ha rfl (g_assign rfl) ?_; clear ha a; intro a ha
  refine wpList_nil ?_
  refine e_then ?_
  obtain ⟨o372, ho373, hK374⟩ := bnd_some hF
  obtain ⟨n375, hn376⟩ := lp_some ho373; clear ho373
  refine c_loop (fun a w => ∃ (l369 : (List Int)) (v370 : Value) (b371 : Int), Fr 46 [(5, v370)] a ∧ Chg [] W w ∧ Ow Rp.int 2 true w [] b371 v370 l369 ∧ Zn W b371 ∧ o372 = .inl l369) (fun n a w => ∃ (l195 : (List Int)) (i198 : Int) (v196 : Value) (b197 : Int), Fr 46 [(1, va1), (5, v196), (6, (.int .i64 i198))] a ∧ Chg [] W w ∧ InI i198 ∧ Ow Rp.int 2 true w [] b197 v196 l195 ∧ Zn W b197 ∧ lpN (fun s => F_spec_l27Mates_l1 a1 s.1 s.2) n (l195, i198) = some o372) n375 ⟨x9, 0, v11, b14, ha.sub ⟨rfl, rfl, rfl, trivial⟩, hE20, (show InI 0 from by decide), h15, q21, hn376⟩ ?_ ?_
  · rintro m380 a w191 ⟨l195, i198, v196, b197, ha, hE200, hI199, h193, z194, hF⟩
    cases m380 with
    | zero => exact (lpN_zero hF).elim
    | succ m380 =>
      obtain ⟨z379, hF, hN378⟩ := lpN_succ hF
      have hF : F_spec_l27Mates_l1 a1 l195 i198 = some z379 := hF; unfold F_spec_l27Mates_l1 at hF
      refine wp_seq ?_
      refine wp_seq ?_
      refine wp_region_lit ?_
      refine op_g ha rfl (g_move rfl) ?_; clear ha a; intro a ha
      refine op_g ha rfl (g_move rfl) ?_; clear ha a; intro a ha
      refine op_g ha rfl (g_lenR sl22.und ha1 rfl) ?_; clear ha a; intro a ha
      refine op_g ha rfl (g_lss rfl rfl) ?_; clear ha a; intro a ha
      refine wpList_nil ?_
      replace ha := ha.sub (σ' := [(1, va1), (5, v196), (6, (.int .i64 i198)), (14, (.bool (decide (i198 < (a1.length : Int)))))]) ⟨rfl, rfl, rfl, rfl, trivial⟩
      refine e_then ?_
      refine c_cond (i198 < (a1.length : Int)) ha rfl (decide_eq_true_iff) (fun hp381 => ?_) (fun hp381 => ?_)
      · replace hF := if_t hp381 hF
        refine wp_skip ?_
        refine e_then ?_
        refine wp_seq ?_
        refine wp_block ?_
        refine wp_seq ?_
        refine d_region [0, 1, 2, 3, 4, 5, 6, 7, 8, 9, 10, 11, 12, 13] hmix ?_
        refine u_g 0 rfl (by kernel_rfl) (want0 _) ha rfl (g_move rfl) ?_; clear ha a; intro a ha
        refine u_g 1 rfl (by kernel_rfl) (want0 _) ha rfl (g_move rfl) ?_; clear ha a; intro a ha
        refine u_g 2 rfl (by kernel_rfl) (want0 _) ha rfl (g_move rfl) ?_; clear ha a; intro a ha
        obtain ⟨x382, g383, gx384, hF⟩ := idx_some hF
        obtain ⟨p385, cs386, f387, hf388, hpb389, hat390, hr391, hi392⟩ := ha1.at g383 gx384
        obtain ⟨v393, rfl, h394⟩ := hr391
        have h394 : Ro Rp.int W f387 v393 x382 := h394
        refine u_g 3 rfl (by kernel_rfl) (want0 _) ha rfl (hi392.gives sl22 rfl rfl) ?_; clear ha a; intro a ha
        refine u_g 4 rfl (by kernel_rfl) (want0 _) ha rfl (g_load0 hE200 Try.isAgg25 rfl hat390.one) ?_; clear ha a; intro a ha
        obtain ⟨x396, g397, gx398, hF⟩ := idx_some hF
        obtain ⟨p399, cs400, f401, hf402, hpb403, hat404, hr405, hi406⟩ := h394.at g397 gx398
        obtain ⟨rfl, hI407, rfl⟩ := hr405
        refine u_g 5 rfl (by kernel_rfl) (want0 _) ha rfl (hi406.gives sl25 rfl rfl) ?_; clear ha a; intro a ha
        refine u_g 6 rfl (by kernel_rfl) (want0 _) ha rfl (g_load0 hE200 Try.isAgg2 rfl hat404.one) ?_; clear ha a; intro a ha
        refine u_g 7 rfl (by kernel_rfl) (want0 _) ha rfl (g_move rfl) ?_; clear ha a; intro a ha
        refine u_g 8 rfl (by kernel_rfl) (want0 _) ha rfl (g_move rfl) ?_; clear ha a; intro a ha
        obtain ⟨x408, g409, gx410, hF⟩ := idx_some hF
        obtain ⟨p411, cs412, f413, hf414, hpb415, hat416, hr417, hi418⟩ := ha1.at g409 gx410
        obtain ⟨v419, rfl, h420⟩ := hr417
        have h420 : Ro Rp.int W f413 v419 x408 := h420
        refine u_g 9 rfl (by kernel_rfl) (want0 _) ha rfl (hi418.gives sl22 rfl rfl) ?_; clear ha a; intro a ha
        refine u_g 10 rfl (by kernel_rfl) (want0 _) ha rfl (g_load0 hE200 Try.isAgg25 rfl hat416.one) ?_; clear ha a; intro a ha
        obtain ⟨x422, g423, gx424, hF⟩ := idx_some hF
        obtain ⟨p425, cs426, f427, hf428, hpb429, hat430, hr431, hi432⟩ := h420.at g423 gx424
        obtain ⟨rfl, hI433, rfl⟩ := hr431
        refine u_g 11 rfl (by kernel_rfl) (want0 _) ha rfl (hi432.gives sl25 rfl rfl) ?_; clear ha a; intro a ha
        refine u_g 12 rfl (by kernel_rfl) (want0 _) ha rfl (g_load0 hE200 Try.isAgg2 rfl hat430.one) ?_; clear ha a; intro a ha
        obtain ⟨x434, g435, gx436, hF⟩ := idx_some hF
        obtain ⟨p437, cs438, f439, hf440, hpb441, hat442, hr443, hi444⟩ := h193.at g435 gx436
        obtain ⟨rfl, hI445, rfl⟩ := hr443
        refine u_g 13 rfl (by kernel_rfl) (want0 _) ha rfl (hi444.gives sl25 rfl rfl) ?_; clear ha a; intro a ha
        refine u_only 14 rfl (by kernel_rfl) ?_; intro w446 hx447
        replace h193 := h193.ext hx447
        have hE448 := Ext.trans hE200 hx447
        refine o_storeE (f := []) (q := x422) ha Try.sizeOf2 rfl rfl rfl h193 hi444 ⟨rfl, hI433, rfl⟩ (Nq.nil _) ?_; intro w449 fs450 h451 hc452 hs453
        obtain rfl := Subst.nil hs453
        have hE454 := Ext.then hE448 hc452 (Zn.bl z194)
        refine wpList_nil (e_sq ?_)
        refine ⟨fun h => absurd h (by decide), ?_⟩
        refine u_done (by kernel_rfl) ?_; intro w455 hx456
        replace h451 := h451.ext hx456
        have hE457 := Ext.trans hE454 hx456
        replace ha := ha.sub (σ' := [(1, va1), (5, v196), (6, (.int .i64 i198))]) ⟨rfl, rfl, rfl, trivial⟩
        refine e_then ?_
        refine d_region [0, 1, 2, 3, 4, 5, 6, 7, 8, 9, 10, 11, 12, 13] hmix ?_
        refine u_g 0 rfl (by kernel_rfl) (want0 _) ha rfl (g_move rfl) ?_; clear ha a; intro a ha
        refine u_g 1 rfl (by kernel_rfl) (want0 _) ha rfl (g_move rfl) ?_; clear ha a; intro a ha
        refine u_g 2 rfl (by kernel_rfl) (want0 _) ha rfl (g_move rfl) ?_; clear ha a; intro a ha
        obtain ⟨x458, g459, gx460, hF⟩ := idx_some hF
        obtain ⟨p461, cs462, f463, hf464, hpb465, hat466, hr467, hi468⟩ := ha1.at g459 gx460
        obtain ⟨v469, rfl, h470⟩ := hr467
        have h470 : Ro Rp.int W f463 v469 x458 := h470
        refine u_g 3 rfl (by kernel_rfl) (want0 _) ha rfl (hi468.gives sl22 rfl rfl) ?_; clear ha a; intro a ha
        refine u_g 4 rfl (by kernel_rfl) (want0 _) ha rfl (g_load0 hE457 Try.isAgg25 rfl hat466.one) ?_; clear ha a; intro a ha
        obtain ⟨x472, g473, gx474, hF⟩ := idx_some hF
        obtain ⟨p475, cs476, f477, hf478, hpb479, hat480, hr481, hi482⟩ := h470.at g473 gx474
        obtain ⟨rfl, hI483, rfl⟩ := hr481
        refine u_g 5 rfl (by kernel_rfl) (want0 _) ha rfl (hi482.gives sl25 rfl rfl) ?_; clear ha a; intro a ha
        refine u_g 6 rfl (by kernel_rfl) (want0 _) ha rfl (g_load0 hE457 Try.isAgg2 rfl hat480.one) ?_; clear ha a; intro a ha
        refine u_g 7 rfl (by kernel_rfl) (want0 _) ha rfl (g_move rfl) ?_; clear ha a; intro a ha
        refine u_g 8 rfl (by kernel_rfl) (want0 _) ha rfl (g_move rfl) ?_; clear ha a; intro a ha
        obtain ⟨x484, g485, gx486, hF⟩ := idx_some hF
        obtain ⟨p487, cs488, f489, hf490, hpb491, hat492, hr493, hi494⟩ := ha1.at g485 gx486
        obtain ⟨v495, rfl, h496⟩ := hr493
        have h496 : Ro Rp.int W f489 v495 x484 := h496
        refine u_g 9 rfl (by kernel_rfl) (want0 _) ha rfl (hi494.gives sl22 rfl rfl) ?_; clear ha a; intro a ha
        refine u_g 10 rfl (by kernel_rfl) (want0 _) ha rfl (g_load0 hE457 Try.isAgg25 rfl hat492.one) ?_; clear ha a; intro a ha
        obtain ⟨x498, g499, gx500, hF⟩ := idx_some hF
        obtain ⟨p501, cs502, f503, hf504, hpb505, hat506, hr507, hi508⟩ := h496.at g499 gx500
        obtain ⟨rfl, hI509, rfl⟩ := hr507
        refine u_g 11 rfl (by kernel_rfl) (want0 _) ha rfl (hi508.gives sl25 rfl rfl) ?_; clear ha a; intro a ha
        refine u_g 12 rfl (by kernel_rfl) (want0 _) ha rfl (g_load0 hE457 Try.isAgg2 rfl hat506.one) ?_; clear ha a; intro a ha
        obtain ⟨x510, g511, gx512, hF⟩ := idx_some hF
        obtain ⟨p513, cs514, f515, hf516, hpb517, hat518, hr519, hi520⟩ := h451.at g511 gx512
        obtain ⟨rfl, hI521, rfl⟩ := hr519
        refine u_g 13 rfl (by kernel_rfl) (want0 _) ha rfl (hi520.gives sl25 rfl rfl) ?_; clear ha a; intro a ha
        refine u_only 14 rfl (by kernel_rfl) ?_; intro w522 hx523
        replace h451 := h451.ext hx523
        have hE524 := Ext.trans hE457 hx523
        refine o_storeE (f := []) (q := x498) ha Try.sizeOf2 rfl rfl rfl h451 hi520 ⟨rfl, hI509, rfl⟩ (Nq.nil _) ?_; intro w525 fs526 h527 hc528 hs529
        obtain rfl := Subst.nil hs529
        have hE530 := Ext.then hE524 hc528 (Zn.bl z194)
        refine wpList_nil (e_sq ?_)
        refine ⟨fun h => absurd h (by decide), ?_⟩
        refine u_done (by kernel_rfl) ?_; intro w531 hx532
        replace h527 := h527.ext hx532
        have hE533 := Ext.trans hE530 hx532
        replace ha := ha.sub (σ' := [(1, va1), (5, v196), (6, (.int .i64 i198))]) ⟨rfl, rfl, rfl, trivial⟩
        refine e_blk ?_
        refine e_then ?_
        refine wp_region_lit ?_
        refine op_g ha rfl (g_move rfl) ?_; clear ha a; intro a ha
        obtain ⟨hI534, hF⟩ := ck_some hF
        refine op_g ha rfl (g_add rfl rfl hI534) ?_; clear ha a; intro a ha
        refine op_g ha rfl (g_assign rfl) ?_; clear ha a; intro a ha
        refine wpList_nil ?_
        replace ha := ha.sub (σ' := [(1, va1), (5, v196), (6, (.int .i64 (i198 + 1)))]) ⟨rfl, rfl, rfl, trivial⟩
        refine e_lq ?_
        obtain rfl := Option.some.inj hF
        exact ⟨_, Nat.lt_succ_self _, ((l195.set ((x396 : Int).toNat) x422).set ((x472 : Int).toNat) x498), i198 + 1, v196, b197, ha.sub ⟨rfl, rfl, rfl, trivial⟩, hE533, hI534, h527, z194, hN378⟩
      · replace hF := if_f hp381 hF
        refine wp_exit ?_
        refine e_then_exit ?_
        refine e_lq_eq ?_
        obtain rfl := Option.some.inj hF
        exact ⟨l195, v196, b197, ha.sub ⟨rfl, trivial⟩, hE200, h193, z194, (LK_inr hN378).symm⟩
  · rintro a w365 ⟨l369, v370, b371, ha, hE377, h367, z368, rfl⟩
    have hF : F_spec_l27Mates_k2 l369 = some _ := hK374; clear hK374; unfold F_spec_l27Mates_k2 at hF
    refine e_then ?_
    refine wp_seq ?_
    refine wp_region_lit ?_
    refine op_g ha rfl (g_move rfl) ?_; clear ha a; intro a ha
    refine op_g ha rfl (g_assign rfl) ?_; clear ha a; intro a ha
    refine wpList_nil ?_
    replace ha := ha.sub (σ' := [(4, v370)]) ⟨rfl, trivial⟩
    refine e_then ?_
    refine wp_ret ?_
    obtain rfl := Option.some.inj hF
    exact f_ret1 ha rfl rfl ⟨_, h367, z368, hE377⟩
set_option maxHeartbeats 2000000 in
theorem W_spec_l3Path {W : World} {va0_0 : Value} {fa0_0 : List Nat} {a0_0 : (List (List Int))} (ha0_0 : Ro (Rp.sl 2 Rp.int) W fa0_0 va0_0 a0_0) {va1 : Value} {fa1 : List Nat} {a1 : (List Int)} (ha1 : Ro Rp.int W fa1 va1 a1) {r : Bool} (hF : F_spec_l3Path a0_0 a1 = some r) :
    Calls Try.prog 56 [.agg #[va0_0], va1].toArray W (Ret fun u w' => u = .bool r ∧ Ext W w') := by
  refine f_enter Try.func56 rfl Try.ntmps56 rfl ?_
  intro a ha
  replace ha : Fr 47 [(0, (.agg #[va0_0])), (1, va1)] a := ha
  have hE : Chg [] W W := Chg.refl _ _
  unfold F_spec_l3Path at hF
  refine wp_seq ?_
  refine wp_region_lit ?_
  refine o_box ha rfl rfl rfl ?_; clear ha a; intro b1 w2 hB3 hx4 hlo5 a ha
  have q6 := Zn.one hlo5
  have q7 := Zn.upD q6 hE
  have hE8 := Ext.trans hE hx4
  refine op_g ha rfl (g_assign rfl) ?_; clear ha a; intro a ha
  refine wpList_nil ?_
  replace ha := ha.sub (σ' := [(1, va1), (2, (.pointer (some ⟨b1, 0, none⟩)))]) ⟨rfl, rfl, trivial⟩
  refine e_then ?_
  refine wp_seq ?_
  refine wp_seq ?_
  refine wp_region_lit ?_
  refine op_g ha rfl (g_assign rfl) ?_; clear ha a; intro a ha
  refine wpList_nil ?_
  refine e_then ?_
  obtain ⟨o210, ho211, hK212⟩ := bnd_some hF
  obtain ⟨n213, hn214⟩ := lp_some ho211; clear ho211
  refine c_loop (fun a w => Fr 47 [] a ∧ Chg [] W w ∧ o210 = .inl ()) (fun n a w => ∃ (i111 : Int), Fr 47 [(1, va1), (2, (.pointer (some ⟨b1, 0, none⟩))), (5, (.int .i64 i111))] a ∧ Chg [] W w ∧ InI i111 ∧ Bx w b1 [va0_0] 30 ∧ Zn W (b1 : Int) ∧ lpN (fun s => F_spec_l3Path_l1 a0_0 a1 s) n i111 = some o210) n213 ⟨0, ha.sub ⟨rfl, rfl, rfl, trivial⟩, hE8, (show InI 0 from by decide), hB3, q7, hn214⟩ ?_ ?_
  · rintro m218 a w108 ⟨i111, ha, hE113, hI112, hB109, z110, hF⟩
    cases m218 with
    | zero => exact (lpN_zero hF).elim
    | succ m218 =>
      obtain ⟨z217, hF, hN216⟩ := lpN_succ hF
      have hF : F_spec_l3Path_l1 a0_0 a1 i111 = some z217 := hF; unfold F_spec_l3Path_l1 at hF
      refine wp_seq ?_
      refine wp_seq ?_
      refine wp_region_lit ?_
      refine op_g ha rfl (g_move rfl) ?_; clear ha a; intro a ha
      refine op_g ha rfl (g_move rfl) ?_; clear ha a; intro a ha
      refine op_g ha rfl (g_lenR sl25.und ha1 rfl) ?_; clear ha a; intro a ha
      refine op_g ha rfl (g_lss rfl rfl) ?_; clear ha a; intro a ha
      refine wpList_nil ?_
      replace ha := ha.sub (σ' := [(1, va1), (2, (.pointer (some ⟨b1, 0, none⟩))), (5, (.int .i64 i111)), (9, (.bool (decide (i111 < (a1.length : Int)))))]) ⟨rfl, rfl, rfl, rfl, trivial⟩
      refine e_then ?_
      refine c_cond (i111 < (a1.length : Int)) ha rfl (decide_eq_true_iff) (fun hp219 => ?_) (fun hp219 => ?_)
      · replace hF := if_t hp219 hF
        refine wp_skip ?_
        refine e_then ?_
        refine wp_seq ?_
        refine wp_block ?_
        refine wp_seq ?_
        refine d_quiet hmix (by kernel_rfl) ?_
        refine q_g ha rfl (g_loadA (cs := [va0_0]) Try.isAgg30 Try.sizeOf30 rfl (by simp) hB109.all) ?_; clear ha a; intro a ha
        refine q_g ha rfl (g_move rfl) ?_; clear ha a; intro a ha
        refine q_g ha rfl (g_move rfl) ?_; clear ha a; intro a ha
        obtain ⟨x220, g221, gx222, hF⟩ := idx_some hF
        obtain ⟨p223, cs224, f225, hf226, hpb227, hat228, hr229, hi230⟩ := ha1.at g221 gx222
        obtain ⟨rfl, hI231, rfl⟩ := hr229
        refine q_g ha rfl (hi230.gives sl25 rfl rfl) ?_; clear ha a; intro a ha
        refine q_g ha rfl (g_load0 hE113 Try.isAgg2 rfl hat228.one) ?_; clear ha a; intro a ha
        obtain ⟨x234, hc235, hF⟩ := cal_some hF
        refine q_call (.bool x234) ha rfl rfl Try.call67 (fun w233 hx232 => W_spec_l1There (ha0_0.ext (Ext.trans hE113 hx232)) hI231 hc235) (fun _ _ _ h => ⟨h.1, h.2⟩) ?_; clear ha a; intro a ha
        refine q_g ha rfl (g_not rfl) ?_; clear ha a; intro a ha
        refine q_g ha rfl (g_move rfl) ?_; clear ha a; intro a ha
        by_cases hp236 : ¬ (x234 = true)
        · replace hF := if_t hp236 hF
          rw [show (!x234) = true from (n_iff (Iff.rfl)).2 hp236] at ha
          refine q_unwant ha rfl (yields ha rfl rfl) rfl ?_; clear ha a; intro a ha
          refine q_unwant ha rfl (yields ha rfl rfl) rfl ?_; clear ha a; intro a ha
          refine q_unwant ha rfl (yields ha rfl rfl) rfl ?_; clear ha a; intro a ha
          refine q_unwant ha rfl (yields ha rfl rfl) rfl ?_; clear ha a; intro a ha
          refine q_unwant ha rfl (yields ha rfl rfl) rfl ?_; clear ha a; intro a ha
          refine q_unwant ha rfl (yields ha rfl rfl) rfl ?_; clear ha a; intro a ha
          refine q_unwant ha rfl (yields ha rfl rfl) rfl ?_; clear ha a; intro a ha
          refine q_unwant ha rfl (yields ha rfl rfl) rfl ?_; clear ha a; intro a ha
          refine q_g ha rfl (g_pick rfl rfl) ?_; clear ha a; intro a ha
          refine q_g ha rfl (g_move rfl) ?_; clear ha a; intro a ha
          refine q_unwant ha rfl (yields ha rfl rfl) rfl ?_; clear ha a; intro a ha
          refine q_unwant ha rfl (yields ha rfl rfl) rfl ?_; clear ha a; intro a ha
          refine q_unwant ha rfl (yields ha rfl rfl) rfl ?_; clear ha a; intro a ha
          refine q_unwant0 ha rfl (yields0 ha rfl rfl) ?_; clear ha a; intro a ha
          refine q_unwant0 ha rfl (yields0 ha rfl rfl) ?_; clear ha a; intro a ha
          refine q_unwant0 ha rfl (yields0 ha rfl rfl) ?_; clear ha a; intro a ha
          refine q_unwant0 ha rfl (yields0 ha rfl rfl) ?_; clear ha a; intro a ha
          refine q_unwant0 ha rfl (yields0 ha rfl rfl) ?_; clear ha a; intro a ha
          refine q_unwant0 ha rfl (yields0 ha rfl rfl) ?_; clear ha a; intro a ha
          refine q_unwant0 ha rfl (yields0 ha rfl rfl) ?_; clear ha a; intro a ha
          refine q_unwant0 ha rfl (yields0 ha rfl rfl) ?_; clear ha a; intro a ha
          refine q_unwant0 ha rfl (yields0 ha rfl rfl) ?_; clear ha a; intro a ha
          refine q_unwant0 ha rfl (yields0 ha rfl rfl) ?_; clear ha a; intro a ha
          refine q_unwant0 ha rfl (yields0 ha rfl rfl) ?_; clear ha a; intro a ha
          refine q_unwant0 ha rfl (yields0 ha rfl rfl) ?_; clear ha a; intro a ha
          refine q_unwant ha rfl (yields ha rfl rfl) rfl ?_; clear ha a; intro a ha
          refine q_g ha rfl (g_pick rfl rfl) ?_; clear ha a; intro a ha
          refine q_nil ?_; intro w237 hx238
          replace hB109 := hB109.ext hx238
          have hE239 := Ext.trans hE113 hx238
          replace ha := ha.sub (σ' := [(1, va1), (2, (.pointer (some ⟨b1, 0, none⟩))), (5, (.int .i64 i111)), (46, (.bool true))]) ⟨rfl, rfl, rfl, rfl, trivial⟩
          refine e_then ?_
          refine c_true ha rfl ?_
          refine wp_seq ?_
          refine wp_region_lit ?_
          refine op_g ha rfl (g_assign rfl) ?_; clear ha a; intro a ha
          refine wpList_nil ?_
          replace ha := ha.sub (σ' := [(4, (.bool false))]) ⟨rfl, trivial⟩
          refine e_then ?_
          refine wp_ret ?_
          refine e_blk_ret ?_
          refine e_then_ret ?_
          refine e_lq_ret ?_
          refine e_then_ret ?_
          obtain rfl := Option.some.inj hF
          have e240 := LK_inr hN216; subst e240
          have e241 := BK_inr hK212; subst e241
          exact f_ret1 ha rfl rfl ⟨rfl, hE239⟩
        · replace hF := if_f hp236 hF
          rw [show (!x234) = false from b_false (n_iff (Iff.rfl)) hp236] at ha
          refine q_want (yields ha rfl rfl) ?_
          refine q_g ha rfl (g_move rfl) ?_; clear ha a; intro a ha
          refine q_want (yields ha rfl rfl) ?_
          refine q_g ha rfl (g_move rfl) ?_; clear ha a; intro a ha
          refine q_want (yields ha rfl rfl) ?_
          obtain ⟨hb242a, hb242b, hb242c, hF⟩ := slc_some hF
          obtain ⟨v243, fp244, hrun245, hro246, hsub247⟩ := ha1.slice (lo := none) (hi := (some (.int .i64 i111))) (i := 0) (j := i111) sl25 (.inl ⟨rfl, rfl⟩) (.inr ⟨_, rfl⟩) ⟨hb242a, hb242b, hb242c⟩
          refine q_g ha rfl (g_slice sl25.und rfl rfl rfl hrun245) ?_; clear ha a; intro a ha
          refine q_want (yields ha rfl rfl) ?_
          refine q_g ha rfl (g_move rfl) ?_; clear ha a; intro a ha
          refine q_want (yields ha rfl rfl) ?_
          refine q_g ha rfl (g_move rfl) ?_; clear ha a; intro a ha
          refine q_want (yields ha rfl rfl) ?_
          obtain ⟨x249, g250, gx251, hF⟩ := idx_some hF
          obtain ⟨p252, cs253, f254, hf255, hpb256, hat257, hr258, hi259⟩ := ha1.at g250 gx251
          obtain ⟨rfl, hI260, rfl⟩ := hr258
          refine q_g ha rfl (hi259.gives sl25 rfl rfl) ?_; clear ha a; intro a ha
          refine q_want (yields ha rfl rfl) ?_
          refine q_g ha rfl (g_load0 hE113 Try.isAgg2 rfl hat257.one) ?_; clear ha a; intro a ha
          refine q_want (yields ha rfl rfl) ?_
          obtain ⟨x263, hc264, hF⟩ := cal_some hF
          refine q_call (.bool x263) ha rfl rfl Try.call54 (fun w262 hx261 => W_spec_l1Has (hro246.ext (Ext.trans hE113 hx261)) hI260 hc264) (fun _ _ _ h => ⟨h.1, h.2⟩) ?_; clear ha a; intro a ha
          refine q_g ha rfl (g_pick rfl rfl) ?_; clear ha a; intro a ha
          refine q_g ha rfl (g_move rfl) ?_; clear ha a; intro a ha
          by_cases hp265 : x263 = true
          · replace hF := if_t hp265 hF
            rw [show (x263) = true from (Iff.rfl).2 hp265] at ha
            refine q_unwant ha rfl (yields ha rfl rfl) rfl ?_; clear ha a; intro a ha
            refine q_unwant ha rfl (yields ha rfl rfl) rfl ?_; clear ha a; intro a ha
            refine q_unwant ha rfl (yields ha rfl rfl) rfl ?_; clear ha a; intro a ha
            refine q_unwant0 ha rfl (yields0 ha rfl rfl) ?_; clear ha a; intro a ha
            refine q_unwant0 ha rfl (yields0 ha rfl rfl) ?_; clear ha a; intro a ha
            refine q_unwant0 ha rfl (yields0 ha rfl rfl) ?_; clear ha a; intro a ha
            refine q_unwant0 ha rfl (yields0 ha rfl rfl) ?_; clear ha a; intro a ha
            refine q_unwant0 ha rfl (yields0 ha rfl rfl) ?_; clear ha a; intro a ha
            refine q_unwant0 ha rfl (yields0 ha rfl rfl) ?_; clear ha a; intro a ha
            refine q_unwant0 ha rfl (yields0 ha rfl rfl) ?_; clear ha a; intro a ha
            refine q_unwant0 ha rfl (yields0 ha rfl rfl) ?_; clear ha a; intro a ha
            refine q_unwant0 ha rfl (yields0 ha rfl rfl) ?_; clear ha a; intro a ha
            refine q_unwant0 ha rfl (yields0 ha rfl rfl) ?_; clear ha a; intro a ha
            refine q_unwant0 ha rfl (yields0 ha rfl rfl) ?_; clear ha a; intro a ha
            refine q_unwant0 ha rfl (yields0 ha rfl rfl) ?_; clear ha a; intro a ha
            refine q_unwant ha rfl (yields ha rfl rfl) rfl ?_; clear ha a; intro a ha
            refine q_g ha rfl (g_pick rfl rfl) ?_; clear ha a; intro a ha
            refine q_nil ?_; intro w266 hx267
            replace hB109 := hB109.ext hx267
            have hE268 := Ext.trans hE113 hx267
            replace ha := ha.sub (σ' := [(1, va1), (2, (.pointer (some ⟨b1, 0, none⟩))), (5, (.int .i64 i111)), (20, va1), (21, (.int .i64 i111)), (22, v243), (23, va1), (24, (.int .i64 i111)), (25, (.pointer (some p252))), (26, (.int .i64 x249)), (27, (.bool true)), (46, (.bool true))]) ⟨rfl, rfl, rfl, rfl, rfl, rfl, rfl, rfl, rfl, rfl, rfl, rfl, trivial⟩
            refine e_then ?_
            refine c_true ha rfl ?_
            refine wp_seq ?_
            refine wp_region_lit ?_
            refine op_g ha rfl (g_assign rfl) ?_; clear ha a; intro a ha
            refine wpList_nil ?_
            replace ha := ha.sub (σ' := [(4, (.bool false))]) ⟨rfl, trivial⟩
            refine e_then ?_
            refine wp_ret ?_
            refine e_blk_ret ?_
            refine e_then_ret ?_
            refine e_lq_ret ?_
            refine e_then_ret ?_
            obtain rfl := Option.some.inj hF
            have e269 := LK_inr hN216; subst e269
            have e270 := BK_inr hK212; subst e270
            exact f_ret1 ha rfl rfl ⟨rfl, hE268⟩
          · replace hF := if_f hp265 hF
            rw [show (x263) = false from b_false (Iff.rfl) hp265] at ha
            refine q_want (yields ha rfl rfl) ?_
            refine q_g ha rfl (g_move rfl) ?_; clear ha a; intro a ha
            refine q_want (yields ha rfl rfl) ?_
            refine q_g ha rfl (g_gtr rfl rfl) ?_; clear ha a; intro a ha
            refine q_want (yields ha rfl rfl) ?_
            refine q_g ha rfl (g_move rfl) ?_; clear ha a; intro a ha
            by_cases hp271 : 0 < i111
            · replace hF := if_t hp271 hF
              rw [show (decide (0 < i111)) = true from (decide_eq_true_iff).2 hp271] at ha
              refine q_want (yields ha rfl rfl) ?_
              refine q_g ha rfl (g_loadA (cs := [va0_0]) Try.isAgg30 Try.sizeOf30 rfl (by simp) hB109.all) ?_; clear ha a; intro a ha
              refine q_want (yields ha rfl rfl) ?_
              refine q_g ha rfl (g_move rfl) ?_; clear ha a; intro a ha
              refine q_want (yields ha rfl rfl) ?_
              refine q_g ha rfl (g_move rfl) ?_; clear ha a; intro a ha
              refine q_want (yields ha rfl rfl) ?_
              obtain ⟨hI272, hF⟩ := ck_some hF
              refine q_g ha rfl (g_sub rfl rfl hI272) ?_; clear ha a; intro a ha
              refine q_want (yields ha rfl rfl) ?_
              obtain ⟨x274, g275, gx276, hF⟩ := idx_some hF
              obtain ⟨p277, cs278, f279, hf280, hpb281, hat282, hr283, hi284⟩ := ha1.at g275 gx276
              obtain ⟨rfl, hI285, rfl⟩ := hr283
              refine q_g ha rfl (hi284.gives sl25 rfl rfl) ?_; clear ha a; intro a ha
              refine q_want (yields ha rfl rfl) ?_
              refine q_g ha rfl (g_load0 hE113 Try.isAgg2 rfl hat282.one) ?_; clear ha a; intro a ha
              refine q_want (yields ha rfl rfl) ?_
              refine q_g ha rfl (g_move rfl) ?_; clear ha a; intro a ha
              refine q_want (yields ha rfl rfl) ?_
              refine q_g ha rfl (g_move rfl) ?_; clear ha a; intro a ha
              refine q_want (yields ha rfl rfl) ?_
              obtain ⟨x286, g287, gx288, hF⟩ := idx_some hF
              obtain ⟨p289, cs290, f291, hf292, hpb293, hat294, hr295, hi296⟩ := ha1.at g287 gx288
              obtain ⟨rfl, hI297, rfl⟩ := hr295
              refine q_g ha rfl (hi296.gives sl25 rfl rfl) ?_; clear ha a; intro a ha
              refine q_want (yields ha rfl rfl) ?_
              refine q_g ha rfl (g_load0 hE113 Try.isAgg2 rfl hat294.one) ?_; clear ha a; intro a ha
              refine q_want (yields ha rfl rfl) ?_
              obtain ⟨x300, hc301, hF⟩ := cal_some hF
              refine q_call (.bool x300) ha rfl rfl Try.call45 (fun w299 hx298 => W_spec_l1Edge (ha0_0.ext (Ext.trans hE113 hx298)) hI285 hI297 hc301) (fun _ _ _ h => ⟨h.1, h.2⟩) ?_; clear ha a; intro a ha
              refine q_want (yields ha rfl rfl) ?_
              refine q_g ha rfl (g_not rfl) ?_; clear ha a; intro a ha
              refine q_want (yields ha rfl rfl) ?_
              refine q_g ha rfl (g_pick rfl rfl) ?_; clear ha a; intro a ha
              refine q_g ha rfl (g_pick rfl rfl) ?_; clear ha a; intro a ha
              refine q_nil ?_; intro w302 hx303
              replace hB109 := hB109.ext hx303
              have hE304 := Ext.trans hE113 hx303
              replace ha := ha.sub (σ' := [(1, va1), (2, (.pointer (some ⟨b1, 0, none⟩))), (5, (.int .i64 i111)), (20, va1), (21, (.int .i64 i111)), (22, v243), (23, va1), (24, (.int .i64 i111)), (25, (.pointer (some p252))), (26, (.int .i64 x249)), (27, (.bool false)), (30, (.int .i64 i111)), (31, (.bool true)), (32, (.bool true)), (33, (.agg #[va0_0])), (34, va1), (35, (.int .i64 i111)), (36, (.int .i64 (i111 - 1))), (37, (.pointer (some p277))), (38, (.int .i64 x274)), (39, va1), (40, (.int .i64 i111)), (41, (.pointer (some p289))), (42, (.int .i64 x286)), (43, (.bool x300)), (44, (.bool (!x300))), (45, (.bool (!x300))), (46, (.bool (!x300)))]) ⟨rfl, rfl, rfl, rfl, rfl, rfl, rfl, rfl, rfl, rfl, rfl, rfl, rfl, rfl, rfl, rfl, rfl, rfl, rfl, rfl, rfl, rfl, rfl, rfl, rfl, rfl, rfl, rfl, trivial⟩
              refine e_then ?_
              refine c_cond (¬ (x300 = true)) ha rfl (n_iff (Iff.rfl)) (fun hp305 => ?_) (fun hp305 => ?_)
              · replace hF := if_t hp305 hF
                refine wp_seq ?_
                refine wp_region_lit ?_
                refine op_g ha rfl (g_assign rfl) ?_; clear ha a; intro a ha
                refine wpList_nil ?_
                replace ha := ha.sub (σ' := [(4, (.bool false))]) ⟨rfl, trivial⟩
                refine e_then ?_
                refine wp_ret ?_
                refine e_blk_ret ?_
                refine e_then_ret ?_
                refine e_lq_ret ?_
                refine e_then_ret ?_
                obtain rfl := Option.some.inj hF
                have e306 := LK_inr hN216; subst e306
                have e307 := BK_inr hK212; subst e307
                exact f_ret1 ha rfl rfl ⟨rfl, hE304⟩
              · replace hF := if_f hp305 hF
                refine wp_skip ?_
                refine e_blk ?_
                refine e_then ?_
                refine wp_region_lit ?_
                refine op_g ha rfl (g_move rfl) ?_; clear ha a; intro a ha
                obtain ⟨hI308, hF⟩ := ck_some hF
                refine op_g ha rfl (g_add rfl rfl hI308) ?_; clear ha a; intro a ha
                refine op_g ha rfl (g_assign rfl) ?_; clear ha a; intro a ha
                refine wpList_nil ?_
                replace ha := ha.sub (σ' := [(1, va1), (2, (.pointer (some ⟨b1, 0, none⟩))), (5, (.int .i64 (i111 + 1))), (20, va1), (21, (.int .i64 i111)), (22, v243), (23, va1), (24, (.int .i64 i111)), (25, (.pointer (some p252))), (26, (.int .i64 x249)), (27, (.bool false)), (30, (.int .i64 i111)), (31, (.bool true)), (32, (.bool true)), (33, (.agg #[va0_0])), (34, va1), (35, (.int .i64 i111)), (36, (.int .i64 (i111 - 1))), (37, (.pointer (some p277))), (38, (.int .i64 x274)), (39, va1), (40, (.int .i64 i111)), (41, (.pointer (some p289))), (42, (.int .i64 x286)), (43, (.bool x300)), (44, (.bool (!x300))), (45, (.bool (!x300)))]) ⟨rfl, rfl, rfl, rfl, rfl, rfl, rfl, rfl, rfl, rfl, rfl, rfl, rfl, rfl, rfl, rfl, rfl, rfl, rfl, rfl, rfl, rfl, rfl, rfl, rfl, rfl, rfl, trivial⟩
                refine e_lq ?_
                obtain rfl := Option.some.inj hF
                exact ⟨_, Nat.lt_succ_self _, i111 + 1, ha.sub ⟨rfl, rfl, rfl, trivial⟩, hE304, hI308, hB109, z110, hN216⟩
            · replace hF := if_f hp271 hF
              rw [show (decide (0 < i111)) = false from b_false (decide_eq_true_iff) hp271] at ha
              refine q_unwant ha rfl (yields ha rfl rfl) rfl ?_; clear ha a; intro a ha
              refine q_unwant ha rfl (yields ha rfl rfl) rfl ?_; clear ha a; intro a ha
              refine q_unwant ha rfl (yields ha rfl rfl) rfl ?_; clear ha a; intro a ha
              refine q_unwant ha rfl (yields ha rfl rfl) rfl ?_; clear ha a; intro a ha
              refine q_unwant ha rfl (yields ha rfl rfl) rfl ?_; clear ha a; intro a ha
              refine q_unwant ha rfl (yields ha rfl rfl) rfl ?_; clear ha a; intro a ha
              refine q_unwant ha rfl (yields ha rfl rfl) rfl ?_; clear ha a; intro a ha
              refine q_unwant ha rfl (yields ha rfl rfl) rfl ?_; clear ha a; intro a ha
              refine q_unwant ha rfl (yields ha rfl rfl) rfl ?_; clear ha a; intro a ha
              refine q_unwant ha rfl (yields ha rfl rfl) rfl ?_; clear ha a; intro a ha
              refine q_unwant ha rfl (yields ha rfl rfl) rfl ?_; clear ha a; intro a ha
              refine q_unwant ha rfl (yields ha rfl rfl) rfl ?_; clear ha a; intro a ha
              refine q_want (yields ha rfl rfl) ?_
              refine q_g ha rfl (g_pick rfl rfl) ?_; clear ha a; intro a ha
              refine q_g ha rfl (g_pick rfl rfl) ?_; clear ha a; intro a ha
              refine q_nil ?_; intro w310 hx311
              replace hB109 := hB109.ext hx311
              have hE312 := Ext.trans hE113 hx311
              replace ha := ha.sub (σ' := [(1, va1), (2, (.pointer (some ⟨b1, 0, none⟩))), (5, (.int .i64 i111)), (20, va1), (21, (.int .i64 i111)), (22, v243), (23, va1), (24, (.int .i64 i111)), (25, (.pointer (some p252))), (26, (.int .i64 x249)), (27, (.bool false)), (30, (.int .i64 i111)), (31, (.bool false)), (32, (.bool false)), (45, (.bool false)), (46, (.bool false))]) ⟨rfl, rfl, rfl, rfl, rfl, rfl, rfl, rfl, rfl, rfl, rfl, rfl, rfl, rfl, rfl, rfl, trivial⟩
              refine e_then ?_
              refine c_false ha rfl ?_
              refine wp_skip ?_
              refine e_blk ?_
              refine e_then ?_
              refine wp_region_lit ?_
              refine op_g ha rfl (g_move rfl) ?_; clear ha a; intro a ha
              obtain ⟨hI313, hF⟩ := ck_some hF
              refine op_g ha rfl (g_add rfl rfl hI313) ?_; clear ha a; intro a ha
              refine op_g ha rfl (g_assign rfl) ?_; clear ha a; intro a ha
              refine wpList_nil ?_
              replace ha := ha.sub (σ' := [(1, va1), (2, (.pointer (some ⟨b1, 0, none⟩))), (5, (.int .i64 (i111 + 1))), (20, va1), (21, (.int .i64 i111)), (22, v243), (23, va1), (24, (.int .i64 i111)), (25, (.pointer (some p252))), (26, (.int .i64 x249)), (27, (.bool false)), (30, (.int .i64 i111)), (31, (.bool false)), (32, (.bool false)), (45, (.bool false))]) ⟨rfl, rfl, rfl, rfl, rfl, rfl, rfl, rfl, rfl, rfl, rfl, rfl, rfl, rfl, rfl, trivial⟩
              refine e_lq ?_
              obtain rfl := Option.some.inj hF
              exact ⟨_, Nat.lt_succ_self _, i111 + 1, ha.sub ⟨rfl, rfl, rfl, trivial⟩, hE312, hI313, hB109, z110, hN216⟩
      · replace hF := if_f hp219 hF
        refine wp_exit ?_
        refine e_then_exit ?_
        refine e_lq_eq ?_
        obtain rfl := Option.some.inj hF
        exact ⟨ha.sub trivial, hE113, (LK_inr hN216).symm⟩
  · rintro a w209 ⟨ha, hE215, rfl⟩
    have hF : F_spec_l3Path_k2 = some _ := hK212; clear hK212; unfold F_spec_l3Path_k2 at hF
    refine e_then ?_
    refine wp_seq ?_
    refine wp_region_lit ?_
    refine op_g ha rfl (g_assign rfl) ?_; clear ha a; intro a ha
    refine wpList_nil ?_
    refine e_then ?_
    refine wp_ret ?_
    obtain rfl := Option.some.inj hF
    exact f_ret1 ha rfl rfl ⟨rfl, hE215⟩
end Go.Proofs.Ytlbgoodonecebab
