/- Walks, printed by gen.py. -/
import Derived.Test.YtgikmgceiiahpacF
import Derived.Test.YtgikmgceiiahpacDeep
import Derived.Test.YtgikmgceiiahpacProg
import Derived.KernelRfl
set_option maxRecDepth 100000
namespace Go.Proofs.Ytgikmgceiiahpac
open Go Go.RowKit

theorem hmix : Try.prog.follows .mixedOrders = true := by kernel_rfl
theorem st24_0 : stF Try.prog 24 0 = some 0 := by kernel_rfl
theorem sl22 : SlT Try.prog 22 26 1 24 (.slice none 0 0) := ⟨by kernel_rfl, by kernel_rfl, by rfl⟩
theorem sl26 : SlT Try.prog 26 2 1 8 (.int .i64 0) := ⟨by kernel_rfl, by kernel_rfl, by rfl⟩
theorem st28_0 : stF Try.prog 28 0 = some 0 := by kernel_rfl
theorem un2 : Try.prog.underlying 2 = some (.int .i64) := by kernel_rfl
theorem un49 : Try.prog.underlying 49 = some (.int .u64) := by kernel_rfl
theorem un3 : Try.prog.underlying 3 = some (.int .i64) := by kernel_rfl
theorem sl43 : SlT Try.prog 43 51 1 4 (.int .u32 0) := ⟨by kernel_rfl, by kernel_rfl, by rfl⟩
theorem sl42 : SlT Try.prog 42 51 1 4 (.int .u32 0) := ⟨by kernel_rfl, by kernel_rfl, by rfl⟩
set_option maxHeartbeats 2000000 in
theorem W_laws_szInt64S {W : World} {va0 : Value} {fa0 : List Nat} {a0 : (List Int)} (ha0 : Ro Rp.int W fa0 va0 a0) {a1 : Int} (ha1 : InI a1) {r : Int} (hF : F_laws_szInt64S a0 a1 = some r) :
    Calls Try.prog 29 [va0, .int .i64 a1].toArray W (Ret fun u w' => (u = .int .i64 r ∧ InI r) ∧ Ext W w') := by
  refine f_enter Try.func29 rfl Try.ntmps29 rfl ?_
  intro a ha
  replace ha : Fr 12 [(0, va0), (1, (.int .i64 a1))] a := ha
  have hE : Chg [] W W := Chg.refl _ _
  unfold F_laws_szInt64S at hF
  refine wp_seq ?_
  refine wp_region_lit ?_
  refine op_g ha rfl (g_assign rfl) ?_; clear ha a; intro a ha
  refine wpList_nil ?_
  replace ha := ha.sub (σ' := [(0, va0), (1, (.int .i64 a1))]) ⟨rfl, rfl, trivial⟩
  refine e_then ?_
  refine wp_seq ?_
  refine wp_region_lit ?_
  refine op_g ha rfl (g_move rfl) ?_; clear ha a; intro a ha
  refine op_g ha rfl (g_move rfl) ?_; clear ha a; intro a ha
  refine op_g ha rfl (g_lenR sl26.und ha0 rfl) ?_; clear ha a; intro a ha
  obtain ⟨hI1, hF⟩ := ck_some hF
  refine op_g ha rfl (g_sub rfl rfl hI1) ?_; clear ha a; intro a ha
  refine op_g ha rfl (g_assign rfl) ?_; clear ha a; intro a ha
  refine wpList_nil ?_
  replace ha := ha.sub (σ' := [(1, (.int .i64 (a1 - (a0.length : Int))))]) ⟨rfl, trivial⟩
  refine e_then ?_
  refine wp_seq ?_
  refine wp_seq ?_
  refine wp_region_lit ?_
  refine op_g ha rfl (g_move rfl) ?_; clear ha a; intro a ha
  refine op_g ha rfl (g_lss rfl rfl) ?_; clear ha a; intro a ha
  refine wpList_nil ?_
  replace ha := ha.sub (σ' := [(1, (.int .i64 (a1 - (a0.length : Int)))), (10, (.bool (decide ((a1 - (a0.length : Int)) < 0))))]) ⟨rfl, rfl, trivial⟩
  refine e_then ?_
  refine c_cond ((a1 - (a0.length : Int)) < 0) ha rfl (decide_eq_true_iff) (fun hp3 => ?_) (fun hp3 => ?_)
  · replace hF := if_t hp3 hF
    refine wp_seq ?_
    refine wp_region_lit ?_
    refine op_g ha rfl (g_assign rfl) ?_; clear ha a; intro a ha
    refine wpList_nil ?_
    replace ha := ha.sub (σ' := [(4, (.int .i64 (-1)))]) ⟨rfl, trivial⟩
    refine e_then ?_
    refine wp_ret ?_
    refine e_then_ret ?_
    obtain rfl := Option.some.inj hF
    exact f_ret1 ha rfl rfl ⟨⟨rfl, (show InI (-1) from by decide)⟩, hE⟩
  · replace hF := if_f hp3 hF
    refine wp_skip ?_
    refine e_then ?_
    refine wp_seq ?_
    refine wp_region_lit ?_
    refine op_g ha rfl (g_move rfl) ?_; clear ha a; intro a ha
    refine op_g ha rfl (g_assign rfl) ?_; clear ha a; intro a ha
    refine wpList_nil ?_
    replace ha := ha.sub (σ' := [(4, (.int .i64 (a1 - (a0.length : Int))))]) ⟨rfl, trivial⟩
    refine e_then ?_
    refine wp_ret ?_
    obtain rfl := Option.some.inj hF
    exact f_ret1 ha rfl rfl ⟨⟨rfl, hI1⟩, hE⟩
set_option maxHeartbeats 2000000 in
theorem W_laws_szInt64SS {W : World} {va0 : Value} {fa0 : List Nat} {a0 : (List (List Int))} (ha0 : Ro (Rp.sl 2 Rp.int) W fa0 va0 a0) {a1 : Int} (ha1 : InI a1) {r : Int} (hF : F_laws_szInt64SS a0 a1 = some r) :
    Calls Try.prog 16 [va0, .int .i64 a1].toArray W (Ret fun u w' => (u = .int .i64 r ∧ InI r) ∧ Ext W w') := by
  refine f_enter Try.func16 rfl Try.ntmps16 rfl ?_
  intro a ha
  replace ha : Fr 27 [(0, va0), (1, (.int .i64 a1))] a := ha
  have hE : Chg [] W W := Chg.refl _ _
  unfold F_laws_szInt64SS at hF
  refine wp_seq ?_
  refine wp_region_lit ?_
  refine op_g ha rfl (g_assign rfl) ?_; clear ha a; intro a ha
  refine wpList_nil ?_
  replace ha := ha.sub (σ' := [(0, va0), (1, (.int .i64 a1))]) ⟨rfl, rfl, trivial⟩
  refine e_then ?_
  refine wp_seq ?_
  refine wp_region_lit ?_
  refine op_g ha rfl (g_move rfl) ?_; clear ha a; intro a ha
  refine op_g ha rfl (g_move rfl) ?_; clear ha a; intro a ha
  refine op_g ha rfl (g_lenR sl22.und ha0 rfl) ?_; clear ha a; intro a ha
  obtain ⟨hI1, hF⟩ := ck_some hF
  refine op_g ha rfl (g_sub rfl rfl hI1) ?_; clear ha a; intro a ha
  refine op_g ha rfl (g_assign rfl) ?_; clear ha a; intro a ha
  refine wpList_nil ?_
  replace ha := ha.sub (σ' := [(0, va0), (1, (.int .i64 (a1 - (a0.length : Int))))]) ⟨rfl, rfl, trivial⟩
  refine e_then ?_
  refine wp_seq ?_
  refine wp_seq ?_
  refine wp_region_lit ?_
  refine op_g ha rfl (g_move rfl) ?_; clear ha a; intro a ha
  refine op_g ha rfl (g_lss rfl rfl) ?_; clear ha a; intro a ha
  refine wpList_nil ?_
  replace ha := ha.sub (σ' := [(0, va0), (1, (.int .i64 (a1 - (a0.length : Int)))), (11, (.bool (decide ((a1 - (a0.length : Int)) < 0))))]) ⟨rfl, rfl, rfl, trivial⟩
  refine e_then ?_
  refine c_cond ((a1 - (a0.length : Int)) < 0) ha rfl (decide_eq_true_iff) (fun hp3 => ?_) (fun hp3 => ?_)
  · replace hF := if_t hp3 hF
    refine wp_seq ?_
    refine wp_region_lit ?_
    refine op_g ha rfl (g_assign rfl) ?_; clear ha a; intro a ha
    refine wpList_nil ?_
    replace ha := ha.sub (σ' := [(4, (.int .i64 (-1)))]) ⟨rfl, trivial⟩
    refine e_then ?_
    refine wp_ret ?_
    refine e_then_ret ?_
    obtain rfl := Option.some.inj hF
    exact f_ret1 ha rfl rfl ⟨⟨rfl, (show InI (-1) from by decide)⟩, hE⟩
  · replace hF := if_f hp3 hF
    refine wp_skip ?_
    refine e_then ?_
    refine wp_seq ?_
    refine wp_seq ?_
    refine wp_region_lit ?_
    refine op_g ha rfl (g_assign rfl) ?_; clear ha a; intro a ha
    refine wpList_nil ?_
    replace ha := ha.sub (σ' := [(0, va0), (1, (.int .i64 (a1 - (a0.length : Int)))), (5, (.int .i64 0))]) ⟨rfl, rfl, rfl, trivial⟩
    refine e_then ?_
    obtain ⟨o75, ho76, hK77⟩ := bnd_some hF
    obtain ⟨n78, hn79⟩ := lp_some ho76; clear ho76
    refine c_loop (fun a w => ∃ (i73 : Int), Fr 27 [(1, (.int .i64 i73))] a ∧ Chg [] W w ∧ InI i73 ∧ o75 = .inl i73) (fun n a w => ∃ (i37 : Int) (i39 : Int), Fr 27 [(0, va0), (1, (.int .i64 i37)), (5, (.int .i64 i39))] a ∧ Chg [] W w ∧ InI i37 ∧ InI i39 ∧ lpN (fun s => F_laws_szInt64SS_l1 a0 s.1 s.2) n (i37, i39) = some o75) n78 ⟨a1 - (a0.length : Int), 0, ha.sub ⟨rfl, rfl, rfl, trivial⟩, hE, hI1, (show InI 0 from by decide), hn79⟩ ?_ ?_
    · rintro m83 a w36 ⟨i37, i39, ha, hE41, hI38, hI40, hF⟩
      cases m83 with
      | zero => exact (lpN_zero hF).elim
      | succ m83 =>
        obtain ⟨z82, hF, hN81⟩ := lpN_succ hF
        have hF : F_laws_szInt64SS_l1 a0 i37 i39 = some z82 := hF; unfold F_laws_szInt64SS_l1 at hF
        refine wp_seq ?_
        refine wp_seq ?_
        refine wp_region_lit ?_
        refine op_g ha rfl (g_move rfl) ?_; clear ha a; intro a ha
        refine op_g ha rfl (g_move rfl) ?_; clear ha a; intro a ha
        refine op_g ha rfl (g_lenR sl22.und ha0 rfl) ?_; clear ha a; intro a ha
        refine op_g ha rfl (g_lss rfl rfl) ?_; clear ha a; intro a ha
        refine wpList_nil ?_
        replace ha := ha.sub (σ' := [(0, va0), (1, (.int .i64 i37)), (5, (.int .i64 i39)), (15, (.bool (decide (i39 < (a0.length : Int)))))]) ⟨rfl, rfl, rfl, rfl, trivial⟩
        refine e_then ?_
        refine c_cond (i39 < (a0.length : Int)) ha rfl (decide_eq_true_iff) (fun hp84 => ?_) (fun hp84 => ?_)
        · replace hF := if_t hp84 hF
          refine wp_skip ?_
          refine e_then ?_
          refine wp_seq ?_
          refine wp_block ?_
          refine wp_seq ?_
          refine wp_region_lit ?_
          refine op_g ha rfl (g_move rfl) ?_; clear ha a; intro a ha
          refine op_g ha rfl (g_move rfl) ?_; clear ha a; intro a ha
          obtain ⟨x85, g86, gx87, hF⟩ := idx_some hF
          obtain ⟨p88, cs89, f90, hf91, hpb92, hat93, hr94, hi95⟩ := ha0.at g86 gx87
          obtain ⟨v96, rfl, h97⟩ := hr94
          have h97 : Ro Rp.int W f90 v96 x85 := h97
          refine op_g ha rfl (hi95.gives sl22 rfl rfl) ?_; clear ha a; intro a ha
          refine op_g ha rfl (g_load0 hE41 Try.isAgg26 rfl hat93.one) ?_; clear ha a; intro a ha
          refine op_g ha rfl (g_move rfl) ?_; clear ha a; intro a ha
          obtain ⟨x99, hc100, hF⟩ := cal_some hF
          refine o_call ha rfl rfl Try.call29 (W_laws_szInt64S (h97.ext hE41) hI38 hc100) ?_; clear ha a; rintro v101 w102 ⟨⟨rfl, hI104⟩, hx103⟩ a ha
          have hE105 := Ext.trans hE41 hx103
          refine op_g ha rfl (g_assign rfl) ?_; clear ha a; intro a ha
          refine wpList_nil ?_
          replace ha := ha.sub (σ' := [(0, va0), (1, (.int .i64 x99)), (5, (.int .i64 i39))]) ⟨rfl, rfl, rfl, trivial⟩
          refine e_then ?_
          refine wp_seq ?_
          refine wp_region_lit ?_
          refine op_g ha rfl (g_move rfl) ?_; clear ha a; intro a ha
          refine op_g ha rfl (g_lss rfl rfl) ?_; clear ha a; intro a ha
          refine wpList_nil ?_
          replace ha := ha.sub (σ' := [(0, va0), (1, (.int .i64 x99)), (5, (.int .i64 i39)), (25, (.bool (decide (x99 < 0))))]) ⟨rfl, rfl, rfl, rfl, trivial⟩
          refine e_then ?_
          refine c_cond (x99 < 0) ha rfl (decide_eq_true_iff) (fun hp106 => ?_) (fun hp106 => ?_)
          · replace hF := if_t hp106 hF
            refine wp_seq ?_
            refine wp_region_lit ?_
            refine op_g ha rfl (g_assign rfl) ?_; clear ha a; intro a ha
            refine wpList_nil ?_
            replace ha := ha.sub (σ' := [(4, (.int .i64 (-1)))]) ⟨rfl, trivial⟩
            refine e_then ?_
            refine wp_ret ?_
            refine e_blk_ret ?_
            refine e_then_ret ?_
            refine e_lq_ret ?_
            refine e_then_ret ?_
            obtain rfl := Option.some.inj hF
            have e107 := LK_inr hN81; subst e107
            have e108 := BK_inr hK77; subst e108
            exact f_ret1 ha rfl rfl ⟨⟨rfl, (show InI (-1) from by decide)⟩, hE105⟩
          · replace hF := if_f hp106 hF
            refine wp_skip ?_
            refine e_blk ?_
            refine e_then ?_
            refine wp_region_lit ?_
            refine op_g ha rfl (g_move rfl) ?_; clear ha a; intro a ha
            obtain ⟨hI109, hF⟩ := ck_some hF
            refine op_g ha rfl (g_add rfl rfl hI109) ?_; clear ha a; intro a ha
            refine op_g ha rfl (g_assign rfl) ?_; clear ha a; intro a ha
            refine wpList_nil ?_
            replace ha := ha.sub (σ' := [(0, va0), (1, (.int .i64 x99)), (5, (.int .i64 (i39 + 1)))]) ⟨rfl, rfl, rfl, trivial⟩
            refine e_lq ?_
            obtain rfl := Option.some.inj hF
            exact ⟨_, Nat.lt_succ_self _, x99, i39 + 1, ha.sub ⟨rfl, rfl, rfl, trivial⟩, hE105, hI104, hI109, hN81⟩
        · replace hF := if_f hp84 hF
          refine wp_exit ?_
          refine e_then_exit ?_
          refine e_lq_eq ?_
          obtain rfl := Option.some.inj hF
          exact ⟨i37, ha.sub ⟨rfl, trivial⟩, hE41, hI38, (LK_inr hN81).symm⟩
    · rintro a w72 ⟨i73, ha, hE80, hI74, rfl⟩
      have hF : F_laws_szInt64SS_k2 i73 = some _ := hK77; clear hK77; unfold F_laws_szInt64SS_k2 at hF
      refine e_then ?_
      refine wp_seq ?_
      refine wp_region_lit ?_
      refine op_g ha rfl (g_move rfl) ?_; clear ha a; intro a ha
      refine op_g ha rfl (g_assign rfl) ?_; clear ha a; intro a ha
      refine wpList_nil ?_
      replace ha := ha.sub (σ' := [(4, (.int .i64 i73))]) ⟨rfl, trivial⟩
      refine e_then ?_
      refine wp_ret ?_
      obtain rfl := Option.some.inj hF
      exact f_ret1 ha rfl rfl ⟨⟨rfl, hI74⟩, hE80⟩
set_option maxHeartbeats 2000000 in
theorem W_laws_szGraph {W : World} {va0_0 : Value} {fa0_0 : List Nat} {a0_0 : (List (List Int))} (ha0_0 : Ro (Rp.sl 2 Rp.int) W fa0_0 va0_0 a0_0) {a1 : Int} (ha1 : InI a1) {r : Int} (hF : F_laws_szGraph a0_0 a1 = some r) :
    Calls Try.prog 5 [.agg #[va0_0], .int .i64 a1].toArray W (Ret fun u w' => (u = .int .i64 r ∧ InI r) ∧ Ext W w') := by
  refine f_enter Try.func5 rfl Try.ntmps5 rfl ?_
  intro a ha
  replace ha : Fr 12 [(0, (.agg #[va0_0])), (1, (.int .i64 a1))] a := ha
  have hE : Chg [] W W := Chg.refl _ _
  unfold F_laws_szGraph at hF
  refine wp_seq ?_
  refine wp_region_lit ?_
  refine o_box ha rfl rfl rfl ?_; clear ha a; intro b1 w2 hB3 hx4 hlo5 a ha
  have q6 := Zn.one hlo5
  have q7 := Zn.upD q6 hE
  have hE8 := Ext.trans hE hx4
  refine op_g ha rfl (g_assign rfl) ?_; clear ha a; intro a ha
  refine wpList_nil ?_
  replace ha := ha.sub (σ' := [(1, (.int .i64 a1)), (2, (.pointer (some ⟨b1, 0, none⟩)))]) ⟨rfl, rfl, trivial⟩
  refine e_then ?_
  refine wp_seq ?_
  refine wp_region_lit ?_
  refine op_g ha rfl (g_field0 st24_0 rfl) ?_; clear ha a; intro a ha
  refine op_g ha rfl (g_load Try.isAgg22 rfl (hB3.cell rfl)) ?_; clear ha a; intro a ha
  refine op_g ha rfl (g_move rfl) ?_; clear ha a; intro a ha
  obtain ⟨x9, hc10, hF⟩ := cal_some hF
  refine o_call ha rfl rfl Try.call16 (W_laws_szInt64SS (ha0_0.ext hE8) ha1 hc10) ?_; clear ha a; rintro v11 w12 ⟨⟨rfl, hI14⟩, hx13⟩ a ha
  replace hB3 := hB3.ext hx13
  have hE15 := Ext.trans hE8 hx13
  refine op_g ha rfl (g_assign rfl) ?_; clear ha a; intro a ha
  refine wpList_nil ?_
  replace ha := ha.sub (σ' := [(1, (.int .i64 x9))]) ⟨rfl, trivial⟩
  refine e_then ?_
  refine wp_seq ?_
  refine wp_seq ?_
  refine wp_region_lit ?_
  refine op_g ha rfl (g_move rfl) ?_; clear ha a; intro a ha
  refine op_g ha rfl (g_lss rfl rfl) ?_; clear ha a; intro a ha
  refine wpList_nil ?_
  replace ha := ha.sub (σ' := [(1, (.int .i64 x9)), (10, (.bool (decide (x9 < 0))))]) ⟨rfl, rfl, trivial⟩
  refine e_then ?_
  refine c_cond (x9 < 0) ha rfl (decide_eq_true_iff) (fun hp16 => ?_) (fun hp16 => ?_)
  · replace hF := if_t hp16 hF
    refine wp_seq ?_
    refine wp_region_lit ?_
    refine op_g ha rfl (g_assign rfl) ?_; clear ha a; intro a ha
    refine wpList_nil ?_
    replace ha := ha.sub (σ' := [(4, (.int .i64 (-1)))]) ⟨rfl, trivial⟩
    refine e_then ?_
    refine wp_ret ?_
    refine e_then_ret ?_
    obtain rfl := Option.some.inj hF
    exact f_ret1 ha rfl rfl ⟨⟨rfl, (show InI (-1) from by decide)⟩, hE15⟩
  · replace hF := if_f hp16 hF
    refine wp_skip ?_
    refine e_then ?_
    refine wp_seq ?_
    refine wp_region_lit ?_
    refine op_g ha rfl (g_move rfl) ?_; clear ha a; intro a ha
    refine op_g ha rfl (g_assign rfl) ?_; clear ha a; intro a ha
    refine wpList_nil ?_
    replace ha := ha.sub (σ' := [(4, (.int .i64 x9))]) ⟨rfl, trivial⟩
    refine e_then ?_
    refine wp_ret ?_
    obtain rfl := Option.some.inj hF
    exact f_ret1 ha rfl rfl ⟨⟨rfl, hI14⟩, hE15⟩
set_option maxHeartbeats 2000000 in
theorem W_laws_toInt64S {W : World} {va0 : Value} {fa0 : List Nat} {a0 : (List Int)} (ha0 : Ro Rp.int W fa0 va0 a0) {r : (List Int)} (hF : F_laws_toInt64S a0 = some r) :
    Calls Try.prog 32 [va0].toArray W (Ret fun u w' => ∃ (b_u : Int), Ow Rp.int 2 true w' [] b_u u r ∧ Zn W b_u ∧ Ext W w') := by
  refine f_enter Try.func32 rfl Try.ntmps32 rfl ?_
  intro a ha
  replace ha : Fr 22 [(0, va0)] a := ha
  have hE : Chg [] W W := Chg.refl _ _
  unfold F_laws_toInt64S at hF
  refine wp_seq ?_
  refine wp_region_lit ?_
  refine op_g ha rfl (g_assign rfl) ?_; clear ha a; intro a ha
  refine wpList_nil ?_
  replace ha := ha.sub (σ' := [(0, va0)]) ⟨rfl, trivial⟩
  refine e_then ?_
  refine wp_seq ?_
  refine wp_region_lit ?_
  refine op_g ha rfl (g_move rfl) ?_; clear ha a; intro a ha
  refine op_g ha rfl (g_lenR sl26.und ha0 rfl) ?_; clear ha a; intro a ha
  obtain ⟨g5, g5b, hF⟩ := mkS_some hF
  refine o_make (z0 := (0 : Int)) Rp.int ha rfl sl26 rfl (fun w => ⟨rfl, by decide, rfl⟩) rfl g5 g5b ?_; clear ha a; intro v1 w2 h3 hx4 a ha
  obtain ⟨b8, hb8⟩ : ∃ b : Int, b = W.heap.size := ⟨_, rfl⟩; rw [← hb8] at h3
  have q9 := zn_of hb8
  have q10 := Zn.upD q9 hE
  have hE11 := Ext.trans hE hx4
  refine op_g ha rfl (g_assign rfl) ?_; clear ha a; intro a ha
  refine wpList_nil ?_
  replace ha := ha.sub (σ' := [(0, va0), (3, v1)]) ⟨rfl, rfl, trivial⟩
  refine e_then ?_
  refine wp_seq ?_
  refine wp_seq ?_
  refine wp_region_lit ?_
  refine op_g ha rfl (g_assign rfl) ?_; clear ha a; intro a ha
  refine wpList_nil ?_
  refine e_then ?_
  obtain ⟨o118, ho119, hK120⟩ := bnd_some hF
  obtain ⟨n121, hn122⟩ := lp_some ho119; clear ho119
  refine c_loop (fun a w => ∃ (l115 : (List Int)) (v116 : Value) (b117 : Int), Fr 22 [(3, v116)] a ∧ Chg [] W w ∧ Ow Rp.int 2 true w [] b117 v116 l115 ∧ Zn W b117 ∧ o118 = .inl l115) (fun n a w => ∃ (l63 : (List Int)) (i66 : Int) (v64 : Value) (b65 : Int), Fr 22 [(0, va0), (3, v64), (4, (.int .i64 i66))] a ∧ Chg [] W w ∧ InI i66 ∧ Ow Rp.int 2 true w [] b65 v64 l63 ∧ Zn W b65 ∧ lpN (fun s => F_laws_toInt64S_l1 a0 s.1 s.2) n (l63, i66) = some o118) n121 ⟨(List.replicate ((a0.length : Int) : Int).toNat (0 : Int)), 0, v1, b8, ha.sub ⟨rfl, rfl, rfl, trivial⟩, hE11, (show InI 0 from by decide), h3, q10, hn122⟩ ?_ ?_
  · rintro m126 a w59 ⟨l63, i66, v64, b65, ha, hE68, hI67, h61, z62, hF⟩
    cases m126 with
    | zero => exact (lpN_zero hF).elim
    | succ m126 =>
      obtain ⟨z125, hF, hN124⟩ := lpN_succ hF
      have hF : F_laws_toInt64S_l1 a0 l63 i66 = some z125 := hF; unfold F_laws_toInt64S_l1 at hF
      refine wp_seq ?_
      refine wp_seq ?_
      refine wp_region_lit ?_
      refine op_g ha rfl (g_move rfl) ?_; clear ha a; intro a ha
      refine op_g ha rfl (g_move rfl) ?_; clear ha a; intro a ha
      refine op_g ha rfl (g_lenR sl26.und ha0 rfl) ?_; clear ha a; intro a ha
      refine op_g ha rfl (g_lss rfl rfl) ?_; clear ha a; intro a ha
      refine wpList_nil ?_
      replace ha := ha.sub (σ' := [(0, va0), (3, v64), (4, (.int .i64 i66)), (11, (.bool (decide (i66 < (a0.length : Int)))))]) ⟨rfl, rfl, rfl, rfl, trivial⟩
      refine e_then ?_
      refine c_cond (i66 < (a0.length : Int)) ha rfl (decide_eq_true_iff) (fun hp127 => ?_) (fun hp127 => ?_)
      · replace hF := if_t hp127 hF
        refine wp_skip ?_
        refine e_then ?_
        refine wp_seq ?_
        refine wp_block ?_
        refine wp_region_lit ?_
        refine op_g ha rfl (g_move rfl) ?_; clear ha a; intro a ha
        refine op_g ha rfl (g_move rfl) ?_; clear ha a; intro a ha
        refine op_g ha rfl (g_move rfl) ?_; clear ha a; intro a ha
        refine op_g ha rfl (g_move rfl) ?_; clear ha a; intro a ha
        obtain ⟨x128, g129, gx130, hF⟩ := idx_some hF
        obtain ⟨p131, cs132, f133, hf134, hpb135, hat136, hr137, hi138⟩ := ha0.at g129 gx130
        obtain ⟨rfl, hI139, rfl⟩ := hr137
        refine op_g ha rfl (hi138.gives sl26 rfl rfl) ?_; clear ha a; intro a ha
        refine op_g ha rfl (g_load0 hE68 Try.isAgg2 rfl hat136.one) ?_; clear ha a; intro a ha
        obtain ⟨x140, g141, gx142, hF⟩ := idx_some hF
        obtain ⟨p143, cs144, f145, hf146, hpb147, hat148, hr149, hi150⟩ := h61.at g141 gx142
        obtain ⟨rfl, hI151, rfl⟩ := hr149
        refine op_g ha rfl (hi150.gives sl26 rfl rfl) ?_; clear ha a; intro a ha
        refine o_storeE (f := []) (q := x128) ha Try.sizeOf2 rfl rfl rfl h61 hi150 ⟨rfl, hI139, rfl⟩ (Nq.nil _) ?_; intro w152 fs153 h154 hc155 hs156
        obtain rfl := Subst.nil hs156
        have hE157 := Ext.then hE68 hc155 (Zn.bl z62)
        refine wpList_nil ?_
        replace ha := ha.sub (σ' := [(0, va0), (3, v64), (4, (.int .i64 i66))]) ⟨rfl, rfl, rfl, trivial⟩
        refine e_blk ?_
        refine e_then ?_
        refine wp_region_lit ?_
        refine op_g ha rfl (g_move rfl) ?_; clear ha a; intro a ha
        obtain ⟨hI158, hF⟩ := ck_some hF
        refine op_g ha rfl (g_add rfl rfl hI158) ?_; clear ha a; intro a ha
        refine op_g ha rfl (g_assign rfl) ?_; clear ha a; intro a ha
        refine wpList_nil ?_
        replace ha := ha.sub (σ' := [(0, va0), (3, v64), (4, (.int .i64 (i66 + 1)))]) ⟨rfl, rfl, rfl, trivial⟩
        refine e_lq ?_
        obtain rfl := Option.some.inj hF
        exact ⟨_, Nat.lt_succ_self _, (l63.set ((i66 : Int).toNat) x128), i66 + 1, v64, b65, ha.sub ⟨rfl, rfl, rfl, trivial⟩, hE157, hI158, h154, z62, hN124⟩
      · replace hF := if_f hp127 hF
        refine wp_exit ?_
        refine e_then_exit ?_
        refine e_lq_eq ?_
        obtain rfl := Option.some.inj hF
        exact ⟨l63, v64, b65, ha.sub ⟨rfl, trivial⟩, hE68, h61, z62, (LK_inr hN124).symm⟩
  · rintro a w111 ⟨l115, v116, b117, ha, hE123, h113, z114, rfl⟩
    have hF : F_laws_toInt64S_k2 l115 = some _ := hK120; clear hK120; unfold F_laws_toInt64S_k2 at hF
    refine e_then ?_
    refine wp_seq ?_
    refine wp_region_lit ?_
    refine op_g ha rfl (g_move rfl) ?_; clear ha a; intro a ha
    refine op_g ha rfl (g_assign rfl) ?_; clear ha a; intro a ha
    refine wpList_nil ?_
    replace ha := ha.sub (σ' := [(2, v116)]) ⟨rfl, trivial⟩
    refine e_then ?_
    refine wp_ret ?_
    obtain rfl := Option.some.inj hF
    exact f_ret1 ha rfl rfl ⟨_, h113, z114, hE123⟩
set_option maxHeartbeats 2000000 in
theorem W_laws_toInt64SS {W : World} {va0 : Value} {fa0 : List Nat} {a0 : (List (List Int))} (ha0 : Ro (Rp.sl 2 Rp.int) W fa0 va0 a0) {r : (List (List Int))} (hF : F_laws_toInt64SS a0 = some r) :
    Calls Try.prog 20 [va0].toArray W (Ret fun u w' => ∃ (b_u : Int) (fs_u : List Nat), Ow (Rp.sl 2 Rp.int) 26 true w' fs_u b_u u r ∧ Zn W b_u ∧ (∀ k ∈ fs_u, W.heap.size ≤ k) ∧ (bl b_u ++ fs_u).Nodup ∧ Ext W w') := by
  refine f_enter Try.func20 rfl Try.ntmps20 rfl ?_
  intro a ha
  replace ha : Fr 23 [(0, va0)] a := ha
  have hE : Chg [] W W := Chg.refl _ _
  unfold F_laws_toInt64SS at hF
  refine wp_seq ?_
  refine wp_region_lit ?_
  refine op_g ha rfl (g_assign rfl) ?_; clear ha a; intro a ha
  refine wpList_nil ?_
  replace ha := ha.sub (σ' := [(0, va0)]) ⟨rfl, trivial⟩
  refine e_then ?_
  refine wp_seq ?_
  refine wp_region_lit ?_
  refine op_g ha rfl (g_move rfl) ?_; clear ha a; intro a ha
  refine op_g ha rfl (g_lenR sl22.und ha0 rfl) ?_; clear ha a; intro a ha
  obtain ⟨g5, g5b, hF⟩ := mkS_some hF
  refine o_make (z0 := ([] : (List Int))) (Rp.sl 2 Rp.int) ha rfl sl22 rfl (fun w => nil_rep w) rfl g5 g5b ?_; clear ha a; intro v1 w2 h3 hx4 a ha
  obtain ⟨b8, hb8⟩ : ∃ b : Int, b = W.heap.size := ⟨_, rfl⟩; rw [← hb8] at h3
  have q9 := zn_of hb8
  have q10 := Zn.upD q9 hE
  have hE11 := Ext.trans hE hx4
  refine op_g ha rfl (g_assign rfl) ?_; clear ha a; intro a ha
  refine wpList_nil ?_
  replace ha := ha.sub (σ' := [(0, va0), (3, v1)]) ⟨rfl, rfl, trivial⟩
  refine e_then ?_
  refine wp_seq ?_
  refine wp_seq ?_
  refine wp_region_lit ?_
  refine op_g ha rfl (g_assign rfl) ?_; clear ha a; intro a ha
  refine wpList_nil ?_
  refine e_then ?_
  obtain ⟨o181, ho182, hK183⟩ := bnd_some hF
  obtain ⟨n184, hn185⟩ := lp_some ho182; clear ho182
  refine c_loop (fun a w => ∃ (l178 : (List (List Int))) (fs175 : List Nat) (v179 : Value) (b180 : Int), Fr 23 [(3, v179)] a ∧ Chg [] W w ∧ Ow (Rp.sl 2 Rp.int) 26 true w fs175 b180 v179 l178 ∧ Zn W b180 ∧ (∀ k ∈ fs175, W.heap.size ≤ k) ∧ (bl b180 ++ fs175).Nodup ∧ o181 = .inl l178) (fun n a w => ∃ (l96 : (List (List Int))) (i99 : Int) (fs93 : List Nat) (v97 : Value) (b98 : Int), Fr 23 [(0, va0), (3, v97), (4, (.int .i64 i99))] a ∧ Chg [] W w ∧ InI i99 ∧ Ow (Rp.sl 2 Rp.int) 26 true w fs93 b98 v97 l96 ∧ Zn W b98 ∧ (∀ k ∈ fs93, W.heap.size ≤ k) ∧ (bl b98 ++ fs93).Nodup ∧ lpN (fun s => F_laws_toInt64SS_l1 a0 s.1 s.2) n (l96, i99) = some o181) n184 ⟨(List.replicate ((a0.length : Int) : Int).toNat ([] : (List Int))), 0, [], v1, b8, ha.sub ⟨rfl, rfl, rfl, trivial⟩, hE11, (show InI 0 from by decide), h3, q10, (zf_nil _), (bl_nodup b8), hn185⟩ ?_ ?_
  · rintro m189 a w89 ⟨l96, i99, fs93, v97, b98, ha, hE101, hI100, h91, z92, zf94, nd95, hF⟩
    cases m189 with
    | zero => exact (lpN_zero hF).elim
    | succ m189 =>
      obtain ⟨z188, hF, hN187⟩ := lpN_succ hF
      have hF : F_laws_toInt64SS_l1 a0 l96 i99 = some z188 := hF; unfold F_laws_toInt64SS_l1 at hF
      refine wp_seq ?_
      refine wp_seq ?_
      refine wp_region_lit ?_
      refine op_g ha rfl (g_move rfl) ?_; clear ha a; intro a ha
      refine op_g ha rfl (g_move rfl) ?_; clear ha a; intro a ha
      refine op_g ha rfl (g_lenR sl22.und ha0 rfl) ?_; clear ha a; intro a ha
      refine op_g ha rfl (g_lss rfl rfl) ?_; clear ha a; intro a ha
      refine wpList_nil ?_
      replace ha := ha.sub (σ' := [(0, va0), (3, v97), (4, (.int .i64 i99)), (11, (.bool (decide (i99 < (a0.length : Int)))))]) ⟨rfl, rfl, rfl, rfl, trivial⟩
      refine e_then ?_
      refine c_cond (i99 < (a0.length : Int)) ha rfl (decide_eq_true_iff) (fun hp190 => ?_) (fun hp190 => ?_)
      · replace hF := if_t hp190 hF
        refine wp_skip ?_
        refine e_then ?_
        refine wp_seq ?_
        refine wp_block ?_
        refine wp_region_lit ?_
        refine op_g ha rfl (g_move rfl) ?_; clear ha a; intro a ha
        refine op_g ha rfl (g_move rfl) ?_; clear ha a; intro a ha
        refine op_g ha rfl (g_move rfl) ?_; clear ha a; intro a ha
        refine op_g ha rfl (g_move rfl) ?_; clear ha a; intro a ha
        obtain ⟨x191, g192, gx193, hF⟩ := idx_some hF
        obtain ⟨p194, cs195, f196, hf197, hpb198, hat199, hr200, hi201⟩ := ha0.at g192 gx193
        obtain ⟨v202, rfl, h203⟩ := hr200
        have h203 : Ro Rp.int W f196 v202 x191 := h203
        refine op_g ha rfl (hi201.gives sl22 rfl rfl) ?_; clear ha a; intro a ha
        refine op_g ha rfl (g_load0 hE101 Try.isAgg26 rfl hat199.one) ?_; clear ha a; intro a ha
        obtain ⟨x205, hc206, hF⟩ := cal_some hF
        refine o_call ha rfl rfl Try.call32 (W_laws_toInt64S (h203.ext hE101) hc206) ?_; clear ha a; rintro v207 w208 ⟨b210, h211, z212, hx209⟩ a ha
        have q214 := Nq.new h91.fpb z212
        have q215 := Nq.madeO z212 h91.blt
        have q216 := Nf.old z212 (zf_nil _) h91.bnd
        replace h91 := h91.ext hx209
        have hE217 := Ext.trans hE101 hx209
        have q218 := Zn.upD z212 hE101
        obtain ⟨x219, g220, gx221, hF⟩ := idx_some hF
        obtain ⟨p222, cs223, f224, hf225, hpb226, hat227, hr228, hi229⟩ := h91.at g220 gx221
        replace hr228 := (Rp.sl 2 Rp.int).weak hr228
        obtain ⟨v230, rfl, h231⟩ := hr228
        have h231 : Ro Rp.int w208 f224 v230 x219 := h231
        have q233 := Nq.mono q214 (fun k hk => List.mem_append_right (bl b98) (hf225 k hk))
        have q234 := Nq.mono (Ow.ne h91) hf225
        refine op_g ha rfl (hi229.gives sl22 rfl rfl) ?_; clear ha a; intro a ha
        refine o_storeE (f := (bl b210 ++ [])) (q := x205) ha Try.sizeOf26 rfl rfl h211.cells h91 hi229 (Rp.mkO h211) q215 ?_; intro w235 fs236 h237 hc238 hs239
        have q240 := zf_mv q218 (zf_nil _)
        have q241 := dj_of q214
        have q242 := zf_set hs239 zf94 q240
        have q243 := Subst.nd hs239 nd95 (bl_nodup b210) q241
        replace h231 := h231.nq hc238 q234
        have hE244 := Ext.then hE217 hc238 (Zn.bl z92)
        refine wpList_nil ?_
        replace ha := ha.sub (σ' := [(0, va0), (3, v97), (4, (.int .i64 i99))]) ⟨rfl, rfl, rfl, trivial⟩
        refine e_blk ?_
        refine e_then ?_
        refine wp_region_lit ?_
        refine op_g ha rfl (g_move rfl) ?_; clear ha a; intro a ha
        obtain ⟨hI245, hF⟩ := ck_some hF
        refine op_g ha rfl (g_add rfl rfl hI245) ?_; clear ha a; intro a ha
        refine op_g ha rfl (g_assign rfl) ?_; clear ha a; intro a ha
        refine wpList_nil ?_
        replace ha := ha.sub (σ' := [(0, va0), (3, v97), (4, (.int .i64 (i99 + 1)))]) ⟨rfl, rfl, rfl, trivial⟩
        refine e_lq ?_
        obtain rfl := Option.some.inj hF
        exact ⟨_, Nat.lt_succ_self _, (l96.set ((i99 : Int).toNat) x205), i99 + 1, fs236, v97, b98, ha.sub ⟨rfl, rfl, rfl, trivial⟩, hE244, hI245, h237, z92, q242, q243, hN187⟩
      · replace hF := if_f hp190 hF
        refine wp_exit ?_
        refine e_then_exit ?_
        refine e_lq_eq ?_
        obtain rfl := Option.some.inj hF
        exact ⟨l96, fs93, v97, b98, ha.sub ⟨rfl, trivial⟩, hE101, h91, z92, zf94, nd95, (LK_inr hN187).symm⟩
  · rintro a w171 ⟨l178, fs175, v179, b180, ha, hE186, h173, z174, zf176, nd177, rfl⟩
    have hF : F_laws_toInt64SS_k2 l178 = some _ := hK183; clear hK183; unfold F_laws_toInt64SS_k2 at hF
    refine e_then ?_
    refine wp_seq ?_
    refine wp_region_lit ?_
    refine op_g ha rfl (g_move rfl) ?_; clear ha a; intro a ha
    refine op_g ha rfl (g_assign rfl) ?_; clear ha a; intro a ha
    refine wpList_nil ?_
    replace ha := ha.sub (σ' := [(2, v179)]) ⟨rfl, trivial⟩
    refine e_then ?_
    refine wp_ret ?_
    obtain rfl := Option.some.inj hF
    exact f_ret1 ha rfl rfl ⟨_, _, h173, z174, zf176, nd177, hE186⟩
set_option maxHeartbeats 2000000 in
theorem W_laws_toGraph {W : World} {va0_0 : Value} {fa0_0 : List Nat} {a0_0 : (List (List Int))} (ha0_0 : Ro (Rp.sl 2 Rp.int) W fa0_0 va0_0 a0_0) {r : (List (List Int))} (hF : F_laws_toGraph a0_0 = some r) :
    Calls Try.prog 7 [.agg #[va0_0]].toArray W (Ret fun u w' => ∃ (u_0 : Value) (b_u_0 : Int) (fs_u_0 : List Nat), u = .agg #[u_0] ∧ Ow (Rp.sl 2 Rp.int) 26 true w' fs_u_0 b_u_0 u_0 r ∧ Zn W b_u_0 ∧ (∀ k ∈ fs_u_0, W.heap.size ≤ k) ∧ (bl b_u_0 ++ fs_u_0).Nodup ∧ Ext W w') := by
  refine f_enter Try.func7 rfl Try.ntmps7 rfl ?_
  intro a ha
  replace ha : Fr 9 [(0, (.agg #[va0_0]))] a := ha
  have hE : Chg [] W W := Chg.refl _ _
  unfold F_laws_toGraph at hF
  refine wp_seq ?_
  refine wp_region_lit ?_
  refine o_box ha rfl rfl rfl ?_; clear ha a; intro b1 w2 hB3 hx4 hlo5 a ha
  have q6 := Zn.one hlo5
  have q7 := Zn.upD q6 hE
  have hE8 := Ext.trans hE hx4
  refine o_alloc (cs := [(.slice none 0 0)]) ha rfl Try.zeroValue28 rfl ?_; clear ha a; intro b9 w10 hB11 hx12 hlo13 a ha
  have q14 := Zn.one hlo13
  have q15 := Nq.new hB3.fpb q14
  have q16 := Nq.made1 hlo13 hB3.bi
  have q17 := Zn.upD q14 hE8
  replace hB3 := hB3.ext hx12
  have hE18 := Ext.trans hE8 hx12
  refine wpList_nil ?_
  replace ha := ha.sub (σ' := [(1, (.pointer (some ⟨b1, 0, none⟩))), (2, (.pointer (some ⟨b9, 0, none⟩)))]) ⟨rfl, rfl, trivial⟩
  refine e_then ?_
  refine wp_seq ?_
  refine wp_region_lit ?_
  refine o_alloc (cs := [(.slice none 0 0)]) ha rfl Try.zeroValue28 rfl ?_; clear ha a; intro b19 w20 hB21 hx22 hlo23 a ha
  have q24 := Zn.one hlo23
  have q25 := Nq.new hB3.fpb q24
  have q26 := Nq.made1 hlo23 hB3.bi
  have q27 := Nq.new hB11.fpb q24
  have q28 := Nq.made1 hlo23 hB11.bi
  have q29 := Zn.upD q24 hE18
  replace hB3 := hB3.ext hx22
  replace hB11 := hB11.ext hx22
  have hE30 := Ext.trans hE18 hx22
  refine wpList_nil ?_
  refine e_then ?_
  refine wp_seq ?_
  refine wp_region_lit ?_
  refine op_g ha rfl (g_field0 st24_0 rfl) ?_; clear ha a; intro a ha
  refine op_g ha rfl (g_load Try.isAgg22 rfl (hB3.cell rfl)) ?_; clear ha a; intro a ha
  obtain ⟨x31, hc32, hF⟩ := cal_some hF
  refine o_call ha rfl rfl Try.call20 (W_laws_toInt64SS (ha0_0.ext hE30) hc32) ?_; clear ha a; rintro v33 w34 ⟨b36, fs40, h37, z38, zf41, nd42, hx35⟩ a ha
  have q43 := Nq.new hB3.fpb z38
  have q44 := Nq.madeF z38 zf41 hB3.bi
  have q45 := Nq.new hB11.fpb z38
  have q46 := Nq.madeF z38 zf41 hB11.bi
  have q47 := Nq.new hB21.fpb z38
  have q48 := Nq.madeF z38 zf41 hB21.bi
  have q49 := Nf.new hB3.fpb zf41
  have q50 := Nf.new hB11.fpb zf41
  have q51 := Nf.new hB21.fpb zf41
  replace hB3 := hB3.ext hx35
  replace hB11 := hB11.ext hx35
  replace hB21 := hB21.ext hx35
  have hE52 := Ext.trans hE30 hx35
  have q53 := Zn.upD z38 hE30
  have q54 := zf_up zf41 hE30
  refine op_g ha rfl (g_field0 st28_0 rfl) ?_; clear ha a; intro a ha
  refine o_storeB ha hB21 Try.sizeOf22 rfl rfl h37.cells h37.oneC (Nat.le_of_ble_eq_true rfl) ?_; intro w55 hB56 hc57
  replace hc57 := hc57.bl
  replace hB56 : Bx w55 b19 [v33] 28 := hB56
  replace hB3 := hB3.nq hc57 q25
  replace hB11 := hB11.nq hc57 q27
  replace h37 := h37.nq hc57 q48
  have hE58 := Ext.then hE52 hc57 (Zn.bl q29)
  refine wpList_nil ?_
  replace ha := ha.sub (σ' := [(2, (.pointer (some ⟨b9, 0, none⟩))), (3, (.pointer (some ⟨b19, 0, none⟩)))]) ⟨rfl, rfl, trivial⟩
  refine e_then ?_
  refine wp_seq ?_
  refine wp_region_lit ?_
  refine op_g ha rfl (g_loadA (cs := [v33]) Try.isAgg28 Try.sizeOf28 rfl (by simp) hB56.all) ?_; clear ha a; intro a ha
  refine o_storeA (vs := [v33]) ha hB11 Try.sizeOf28 rfl rfl (by intro c hc; simp only [List.mem_cons, List.not_mem_nil, or_false] at hc; rcases hc with hc <;> subst hc <;> first | rfl | exact h37.oneC) rfl ?_; intro w59 hB60 hc61
  replace hc61 := hc61.bl
  replace hB60 : Bx w59 b9 [v33] 28 := hB60
  replace hB56 := hB56.nq hc61 q28
  replace h37 := h37.nq hc61 q46
  have hE62 := Ext.then hE58 hc61 (Zn.bl q17)
  refine wpList_nil ?_
  replace ha := ha.sub (σ' := [(2, (.pointer (some ⟨b9, 0, none⟩)))]) ⟨rfl, trivial⟩
  refine e_then ?_
  refine wp_ret ?_
  obtain rfl := Option.some.inj hF
  exact f_retC (cs := [v33]) ha rfl rfl Try.isAgg28 Try.sizeOf28 hB60 ⟨_, _, _, rfl, h37, q53, q54, nd42, hE62⟩
set_option maxHeartbeats 2000000 in
theorem W_spec_l1Size {W : World} {va0_0 : Value} {fa0_0 : List Nat} {a0_0 : (List (List Int))} (ha0_0 : Ro (Rp.sl 2 Rp.int) W fa0_0 va0_0 a0_0) {r : Int} (hF : F_spec_l1Size a0_0 = some r) :
    Calls Try.prog 37 [.agg #[va0_0]].toArray W (Ret fun u w' => (u = .int .i64 r ∧ InI r) ∧ Ext W w') := by
  refine f_enter Try.func37 rfl Try.ntmps37 rfl ?_
  intro a ha
  replace ha : Fr 6 [(0, (.agg #[va0_0]))] a := ha
  have hE : Chg [] W W := Chg.refl _ _
  unfold F_spec_l1Size at hF
  refine wp_seq ?_
  refine wp_region_lit ?_
  refine o_box ha rfl rfl rfl ?_; clear ha a; intro b1 w2 hB3 hx4 hlo5 a ha
  have q6 := Zn.one hlo5
  have q7 := Zn.upD q6 hE
  have hE8 := Ext.trans hE hx4
  refine op_g ha rfl (g_assign rfl) ?_; clear ha a; intro a ha
  refine wpList_nil ?_
  replace ha := ha.sub (σ' := [(1, (.pointer (some ⟨b1, 0, none⟩)))]) ⟨rfl, trivial⟩
  refine e_then ?_
  refine wp_seq ?_
  refine wp_region_lit ?_
  refine op_g ha rfl (g_field0 st28_0 rfl) ?_; clear ha a; intro a ha
  refine op_g ha rfl (g_load Try.isAgg22 rfl (hB3.cell rfl)) ?_; clear ha a; intro a ha
  refine op_g ha rfl (g_lenR sl22.und ha0_0 rfl) ?_; clear ha a; intro a ha
  refine op_g ha rfl (g_assign rfl) ?_; clear ha a; intro a ha
  refine wpList_nil ?_
  replace ha := ha.sub (σ' := [(2, (.int .i64 (a0_0.length : Int)))]) ⟨rfl, trivial⟩
  refine e_then ?_
  refine wp_ret ?_
  obtain rfl := Option.some.inj hF
  exact f_ret1 ha rfl rfl ⟨⟨rfl, ha0_0.len⟩, hE8⟩
set_option maxHeartbeats 2000000 in
theorem W_spec_l1In {W : World} {a0 : Int} (ha0 : InI a0) {a1 : Int} (ha1 : InI a1) {a2 : Int} (ha2 : InI a2) {r : Bool} (hF : F_spec_l1In a0 a1 a2 = some r) :
    Calls Try.prog 26 [.int .i64 a0, .int .i64 a1, .int .i64 a2].toArray W (Ret fun u w' => u = .bool r ∧ Ext W w') := by
  refine f_enter Try.func26 rfl Try.ntmps26 rfl ?_
  intro a ha
  replace ha : Fr 15 [(0, (.int .i64 a0)), (1, (.int .i64 a1)), (2, (.int .i64 a2))] a := ha
  have hE : Chg [] W W := Chg.refl _ _
  unfold F_spec_l1In at hF
  refine wp_seq ?_
  refine wp_region_lit ?_
  refine op_g ha rfl (g_assign rfl) ?_; clear ha a; intro a ha
  refine wpList_nil ?_
  replace ha := ha.sub (σ' := [(0, (.int .i64 a0)), (1, (.int .i64 a1)), (2, (.int .i64 a2))]) ⟨rfl, rfl, rfl, trivial⟩
  refine e_then ?_
  refine wp_seq ?_
  refine wp_region_lit ?_
  refine op_g ha rfl (g_move rfl) ?_; clear ha a; intro a ha
  refine op_g ha rfl (g_move rfl) ?_; clear ha a; intro a ha
  refine op_g ha rfl (g_geq rfl rfl) ?_; clear ha a; intro a ha
  refine op_g ha rfl (g_move rfl) ?_; clear ha a; intro a ha
  by_cases hp1 : a1 ≤ a0
  · replace hF := if_t hp1 hF
    rw [show (decide (a1 ≤ a0)) = true from (decide_eq_true_iff).2 hp1] at ha
    refine op_want (yields ha rfl rfl) ?_
    refine op_g ha rfl (g_move rfl) ?_; clear ha a; intro a ha
    refine op_want (yields ha rfl rfl) ?_
    refine op_g ha rfl (g_move rfl) ?_; clear ha a; intro a ha
    refine op_want (yields ha rfl rfl) ?_
    refine op_g ha rfl (g_leq rfl rfl) ?_; clear ha a; intro a ha
    refine op_g ha rfl (g_pick rfl rfl) ?_; clear ha a; intro a ha
    refine op_g ha rfl (g_assign rfl) ?_; clear ha a; intro a ha
    refine wpList_nil ?_
    replace ha := ha.sub (σ' := [(6, (.bool (decide (a0 ≤ a2))))]) ⟨rfl, trivial⟩
    refine e_then ?_
    refine wp_ret ?_
    obtain rfl := Option.some.inj hF
    exact f_ret1 ha rfl rfl ⟨rfl, hE⟩
  · replace hF := if_f hp1 hF
    rw [show (decide (a1 ≤ a0)) = false from b_false (decide_eq_true_iff) hp1] at ha
    refine op_unwant ha rfl (yields ha rfl rfl) rfl ?_; clear ha a; intro a ha
    refine op_unwant ha rfl (yields ha rfl rfl) rfl ?_; clear ha a; intro a ha
    refine op_unwant ha rfl (yields ha rfl rfl) rfl ?_; clear ha a; intro a ha
    refine op_g ha rfl (g_pick rfl rfl) ?_; clear ha a; intro a ha
    refine op_g ha rfl (g_assign rfl) ?_; clear ha a; intro a ha
    refine wpList_nil ?_
    replace ha := ha.sub (σ' := [(6, (.bool false))]) ⟨rfl, trivial⟩
    refine e_then ?_
    refine wp_ret ?_
    obtain rfl := Option.some.inj hF
    exact f_ret1 ha rfl rfl ⟨rfl, hE⟩
set_option maxHeartbeats 2000000 in
theorem W_spec_l1Set {W : World} {va0 : Value} {fa0 : List Nat} {a0 : (List Int)} (ha0 : Ro Rp.int W fa0 va0 a0) {a1 : Int} (ha1 : InI a1) {r : Bool} (hF : F_spec_l1Set a0 a1 = some r) :
    Calls Try.prog 38 [va0, .int .i64 a1].toArray W (Ret fun u w' => u = .bool r ∧ Ext W w') := by
  refine f_enter Try.func38 rfl Try.ntmps38 rfl ?_
  intro a ha
  replace ha : Fr 40 [(0, va0), (1, (.int .i64 a1))] a := ha
  have hE : Chg [] W W := Chg.refl _ _
  unfold F_spec_l1Set at hF
  refine wp_seq ?_
  refine wp_region_lit ?_
  refine op_g ha rfl (g_assign rfl) ?_; clear ha a; intro a ha
  refine wpList_nil ?_
  replace ha := ha.sub (σ' := [(0, va0), (1, (.int .i64 a1))]) ⟨rfl, rfl, trivial⟩
  refine e_then ?_
  refine wp_seq ?_
  refine wp_seq ?_
  refine wp_region_lit ?_
  refine op_g ha rfl (g_move rfl) ?_; clear ha a; intro a ha
  refine op_g ha rfl (g_lenR sl26.und ha0 rfl) ?_; clear ha a; intro a ha
  refine op_g ha rfl (g_move rfl) ?_; clear ha a; intro a ha
  refine op_g ha rfl (g_gtr rfl rfl) ?_; clear ha a; intro a ha
  refine wpList_nil ?_
  replace ha := ha.sub (σ' := [(0, va0), (1, (.int .i64 a1)), (9, (.bool (decide (a1 < (a0.length : Int)))))]) ⟨rfl, rfl, rfl, trivial⟩
  refine e_then ?_
  refine c_cond (a1 < (a0.length : Int)) ha rfl (decide_eq_true_iff) (fun hp1 => ?_) (fun hp1 => ?_)
  · replace hF := if_t hp1 hF
    refine wp_seq ?_
    refine wp_region_lit ?_
    refine op_g ha rfl (g_assign rfl) ?_; clear ha a; intro a ha
    refine wpList_nil ?_
    replace ha := ha.sub (σ' := [(4, (.bool false))]) ⟨rfl, trivial⟩
    refine e_then ?_
    refine wp_ret ?_
    refine e_then_ret ?_
    obtain rfl := Option.some.inj hF
    exact f_ret1 ha rfl rfl ⟨rfl, hE⟩
  · replace hF := if_f hp1 hF
    refine wp_skip ?_
    refine e_then ?_
    refine wp_seq ?_
    refine wp_seq ?_
    refine wp_region_lit ?_
    refine op_g ha rfl (g_assign rfl) ?_; clear ha a; intro a ha
    refine wpList_nil ?_
    replace ha := ha.sub (σ' := [(0, va0), (1, (.int .i64 a1)), (5, (.int .i64 0))]) ⟨rfl, rfl, rfl, trivial⟩
    refine e_then ?_
    obtain ⟨o137, ho138, hK139⟩ := bnd_some hF
    obtain ⟨n140, hn141⟩ := lp_some ho138; clear ho138
    refine c_loop (fun a w => Fr 40 [] a ∧ Chg [] W w ∧ o137 = .inl ()) (fun n a w => ∃ (i69 : Int), Fr 40 [(0, va0), (1, (.int .i64 a1)), (5, (.int .i64 i69))] a ∧ Chg [] W w ∧ InI i69 ∧ lpN (fun s => F_spec_l1Set_l1 a0 a1 s) n i69 = some o137) n140 ⟨0, ha.sub ⟨rfl, rfl, rfl, trivial⟩, hE, (show InI 0 from by decide), hn141⟩ ?_ ?_
    · rintro m145 a w68 ⟨i69, ha, hE71, hI70, hF⟩
      cases m145 with
      | zero => exact (lpN_zero hF).elim
      | succ m145 =>
        obtain ⟨z144, hF, hN143⟩ := lpN_succ hF
        have hF : F_spec_l1Set_l1 a0 a1 i69 = some z144 := hF; unfold F_spec_l1Set_l1 at hF
        refine wp_seq ?_
        refine wp_seq ?_
        refine wp_region_lit ?_
        refine op_g ha rfl (g_move rfl) ?_; clear ha a; intro a ha
        refine op_g ha rfl (g_move rfl) ?_; clear ha a; intro a ha
        refine op_g ha rfl (g_lenR sl26.und ha0 rfl) ?_; clear ha a; intro a ha
        refine op_g ha rfl (g_lss rfl rfl) ?_; clear ha a; intro a ha
        refine wpList_nil ?_
        replace ha := ha.sub (σ' := [(0, va0), (1, (.int .i64 a1)), (5, (.int .i64 i69)), (13, (.bool (decide (i69 < (a0.length : Int)))))]) ⟨rfl, rfl, rfl, rfl, trivial⟩
        refine e_then ?_
        refine c_cond (i69 < (a0.length : Int)) ha rfl (decide_eq_true_iff) (fun hp146 => ?_) (fun hp146 => ?_)
        · replace hF := if_t hp146 hF
          refine wp_skip ?_
          refine e_then ?_
          refine wp_seq ?_
          refine wp_block ?_
          refine wp_seq ?_
          refine d_quiet hmix (by kernel_rfl) ?_
          refine q_g ha rfl (g_move rfl) ?_; clear ha a; intro a ha
          refine q_g ha rfl (g_move rfl) ?_; clear ha a; intro a ha
          obtain ⟨x147, g148, gx149, hF⟩ := idx_some hF
          obtain ⟨p150, cs151, f152, hf153, hpb154, hat155, hr156, hi157⟩ := ha0.at g148 gx149
          obtain ⟨rfl, hI158, rfl⟩ := hr156
          refine q_g ha rfl (hi157.gives sl26 rfl rfl) ?_; clear ha a; intro a ha
          refine q_g ha rfl (g_load0 hE71 Try.isAgg2 rfl hat155.one) ?_; clear ha a; intro a ha
          refine q_g ha rfl (g_move rfl) ?_; clear ha a; intro a ha
          obtain ⟨hI159, hF⟩ := ck_some hF
          refine q_g ha rfl (g_sub rfl rfl hI159) ?_; clear ha a; intro a ha
          obtain ⟨x163, hc164, hF⟩ := cal_some hF
          refine q_call (.bool x163) ha rfl rfl Try.call26 (fun w162 hx161 => W_spec_l1In hI158 (show InI 0 from by decide) hI159 hc164) (fun _ _ _ h => ⟨h.1, h.2⟩) ?_; clear ha a; intro a ha
          refine q_g ha rfl (g_not rfl) ?_; clear ha a; intro a ha
          refine q_g ha rfl (g_move rfl) ?_; clear ha a; intro a ha
          by_cases hp165 : ¬ (x163 = true)
          · replace hF := if_t hp165 hF
            rw [show (!x163) = true from (n_iff (Iff.rfl)).2 hp165] at ha
            refine q_unwant ha rfl (yields ha rfl rfl) rfl ?_; clear ha a; intro a ha
            refine q_unwant ha rfl (yields ha rfl rfl) rfl ?_; clear ha a; intro a ha
            refine q_unwant ha rfl (yields ha rfl rfl) rfl ?_; clear ha a; intro a ha
            refine q_unwant0 ha rfl (yields0 ha rfl rfl) ?_; clear ha a; intro a ha
            refine q_unwant0 ha rfl (yields0 ha rfl rfl) ?_; clear ha a; intro a ha
            refine q_unwant0 ha rfl (yields0 ha rfl rfl) ?_; clear ha a; intro a ha
            refine q_unwant0 ha rfl (yields0 ha rfl rfl) ?_; clear ha a; intro a ha
            refine q_unwant0 ha rfl (yields0 ha rfl rfl) ?_; clear ha a; intro a ha
            refine q_unwant0 ha rfl (yields0 ha rfl rfl) ?_; clear ha a; intro a ha
            refine q_unwant0 ha rfl (yields0 ha rfl rfl) ?_; clear ha a; intro a ha
            refine q_unwant0 ha rfl (yields0 ha rfl rfl) ?_; clear ha a; intro a ha
            refine q_unwant0 ha rfl (yields0 ha rfl rfl) ?_; clear ha a; intro a ha
            refine q_unwant0 ha rfl (yields0 ha rfl rfl) ?_; clear ha a; intro a ha
            refine q_unwant ha rfl (yields ha rfl rfl) rfl ?_; clear ha a; intro a ha
            refine q_g ha rfl (g_pick rfl rfl) ?_; clear ha a; intro a ha
            refine q_nil ?_; intro w166 hx167
            have hE168 := Ext.trans hE71 hx167
            replace ha := ha.sub (σ' := [(0, va0), (1, (.int .i64 a1)), (5, (.int .i64 i69)), (39, (.bool true))]) ⟨rfl, rfl, rfl, rfl, trivial⟩
            refine e_then ?_
            refine c_true ha rfl ?_
            refine wp_seq ?_
            refine wp_region_lit ?_
            refine op_g ha rfl (g_assign rfl) ?_; clear ha a; intro a ha
            refine wpList_nil ?_
            replace ha := ha.sub (σ' := [(4, (.bool false))]) ⟨rfl, trivial⟩
            refine e_then ?_
            refine wp_ret ?_
            refine e_blk_ret ?_
            refine e_then_ret ?_
            refine e_lq_ret ?_
            refine e_then_ret ?_
            obtain rfl := Option.some.inj hF
            have e169 := LK_inr hN143; subst e169
            have e170 := BK_inr hK139; subst e170
            exact f_ret1 ha rfl rfl ⟨rfl, hE168⟩
          · replace hF := if_f hp165 hF
            rw [show (!x163) = false from b_false (n_iff (Iff.rfl)) hp165] at ha
            refine q_want (yields ha rfl rfl) ?_
            refine q_g ha rfl (g_move rfl) ?_; clear ha a; intro a ha
            refine q_want (yields ha rfl rfl) ?_
            refine q_g ha rfl (g_gtr rfl rfl) ?_; clear ha a; intro a ha
            refine q_want (yields ha rfl rfl) ?_
            refine q_g ha rfl (g_move rfl) ?_; clear ha a; intro a ha
            by_cases hp171 : 0 < i69
            · replace hF := if_t hp171 hF
              rw [show (decide (0 < i69)) = true from (decide_eq_true_iff).2 hp171] at ha
              refine q_want (yields ha rfl rfl) ?_
              refine q_g ha rfl (g_move rfl) ?_; clear ha a; intro a ha
              refine q_want (yields ha rfl rfl) ?_
              refine q_g ha rfl (g_move rfl) ?_; clear ha a; intro a ha
              refine q_want (yields ha rfl rfl) ?_
              obtain ⟨x172, g173, gx174, hF⟩ := idx_some hF
              obtain ⟨p175, cs176, f177, hf178, hpb179, hat180, hr181, hi182⟩ := ha0.at g173 gx174
              obtain ⟨rfl, hI183, rfl⟩ := hr181
              refine q_g ha rfl (hi182.gives sl26 rfl rfl) ?_; clear ha a; intro a ha
              refine q_want (yields ha rfl rfl) ?_
              refine q_g ha rfl (g_load0 hE71 Try.isAgg2 rfl hat180.one) ?_; clear ha a; intro a ha
              refine q_want (yields ha rfl rfl) ?_
              refine q_g ha rfl (g_move rfl) ?_; clear ha a; intro a ha
              refine q_want (yields ha rfl rfl) ?_
              refine q_g ha rfl (g_move rfl) ?_; clear ha a; intro a ha
              refine q_want (yields ha rfl rfl) ?_
              obtain ⟨hI184, hF⟩ := ck_some hF
              refine q_g ha rfl (g_sub rfl rfl hI184) ?_; clear ha a; intro a ha
              refine q_want (yields ha rfl rfl) ?_
              obtain ⟨x186, g187, gx188, hF⟩ := idx_some hF
              obtain ⟨p189, cs190, f191, hf192, hpb193, hat194, hr195, hi196⟩ := ha0.at g187 gx188
              obtain ⟨rfl, hI197, rfl⟩ := hr195
              refine q_g ha rfl (hi196.gives sl26 rfl rfl) ?_; clear ha a; intro a ha
              refine q_want (yields ha rfl rfl) ?_
              refine q_g ha rfl (g_load0 hE71 Try.isAgg2 rfl hat194.one) ?_; clear ha a; intro a ha
              refine q_want (yields ha rfl rfl) ?_
              refine q_g ha rfl (g_leq rfl rfl) ?_; clear ha a; intro a ha
              refine q_want (yields ha rfl rfl) ?_
              refine q_g ha rfl (g_pick rfl rfl) ?_; clear ha a; intro a ha
              refine q_g ha rfl (g_pick rfl rfl) ?_; clear ha a; intro a ha
              refine q_nil ?_; intro w198 hx199
              have hE200 := Ext.trans hE71 hx199
              replace ha := ha.sub (σ' := [(0, va0), (1, (.int .i64 a1)), (5, (.int .i64 i69)), (25, (.int .i64 i69)), (26, (.bool true)), (27, (.bool true)), (28, va0), (29, (.int .i64 i69)), (30, (.pointer (some p175))), (31, (.int .i64 x172)), (32, va0), (33, (.int .i64 i69)), (34, (.int .i64 (i69 - 1))), (35, (.pointer (some p189))), (36, (.int .i64 x186)), (37, (.bool (decide (x172 ≤ x186)))), (38, (.bool (decide (x172 ≤ x186)))), (39, (.bool (decide (x172 ≤ x186))))]) ⟨rfl, rfl, rfl, rfl, rfl, rfl, rfl, rfl, rfl, rfl, rfl, rfl, rfl, rfl, rfl, rfl, rfl, rfl, trivial⟩
              refine e_then ?_
              refine c_cond (x172 ≤ x186) ha rfl (decide_eq_true_iff) (fun hp201 => ?_) (fun hp201 => ?_)
              · replace hF := if_t hp201 hF
                refine wp_seq ?_
                refine wp_region_lit ?_
                refine op_g ha rfl (g_assign rfl) ?_; clear ha a; intro a ha
                refine wpList_nil ?_
                replace ha := ha.sub (σ' := [(4, (.bool false))]) ⟨rfl, trivial⟩
                refine e_then ?_
                refine wp_ret ?_
                refine e_blk_ret ?_
                refine e_then_ret ?_
                refine e_lq_ret ?_
                refine e_then_ret ?_
                obtain rfl := Option.some.inj hF
                have e202 := LK_inr hN143; subst e202
                have e203 := BK_inr hK139; subst e203
                exact f_ret1 ha rfl rfl ⟨rfl, hE200⟩
              · replace hF := if_f hp201 hF
                refine wp_skip ?_
                refine e_blk ?_
                refine e_then ?_
                refine wp_region_lit ?_
                refine op_g ha rfl (g_move rfl) ?_; clear ha a; intro a ha
                obtain ⟨hI204, hF⟩ := ck_some hF
                refine op_g ha rfl (g_add rfl rfl hI204) ?_; clear ha a; intro a ha
                refine op_g ha rfl (g_assign rfl) ?_; clear ha a; intro a ha
                refine wpList_nil ?_
                replace ha := ha.sub (σ' := [(0, va0), (1, (.int .i64 a1)), (5, (.int .i64 (i69 + 1))), (25, (.int .i64 i69)), (26, (.bool true)), (27, (.bool true)), (28, va0), (29, (.int .i64 i69)), (30, (.pointer (some p175))), (31, (.int .i64 x172)), (32, va0), (33, (.int .i64 i69)), (34, (.int .i64 (i69 - 1))), (35, (.pointer (some p189))), (36, (.int .i64 x186)), (37, (.bool (decide (x172 ≤ x186)))), (38, (.bool (decide (x172 ≤ x186))))]) ⟨rfl, rfl, rfl, rfl, rfl, rfl, rfl, rfl, rfl, rfl, rfl, rfl, rfl, rfl, rfl, rfl, rfl, trivial⟩
                refine e_lq ?_
                obtain rfl := Option.some.inj hF
                exact ⟨_, Nat.lt_succ_self _, i69 + 1, ha.sub ⟨rfl, rfl, rfl, trivial⟩, hE200, hI204, hN143⟩
            · replace hF := if_f hp171 hF
              rw [show (decide (0 < i69)) = false from b_false (decide_eq_true_iff) hp171] at ha
              refine q_unwant ha rfl (yields ha rfl rfl) rfl ?_; clear ha a; intro a ha
              refine q_unwant ha rfl (yields ha rfl rfl) rfl ?_; clear ha a; intro a ha
              refine q_unwant ha rfl (yields ha rfl rfl) rfl ?_; clear ha a; intro a ha
              refine q_unwant ha rfl (yields ha rfl rfl) rfl ?_; clear ha a; intro a ha
              refine q_unwant ha rfl (yields ha rfl rfl) rfl ?_; clear ha a; intro a ha
              refine q_unwant ha rfl (yields ha rfl rfl) rfl ?_; clear ha a; intro a ha
              refine q_unwant ha rfl (yields ha rfl rfl) rfl ?_; clear ha a; intro a ha
              refine q_unwant ha rfl (yields ha rfl rfl) rfl ?_; clear ha a; intro a ha
              refine q_unwant ha rfl (yields ha rfl rfl) rfl ?_; clear ha a; intro a ha
              refine q_unwant ha rfl (yields ha rfl rfl) rfl ?_; clear ha a; intro a ha
              refine q_want (yields ha rfl rfl) ?_
              refine q_g ha rfl (g_pick rfl rfl) ?_; clear ha a; intro a ha
              refine q_g ha rfl (g_pick rfl rfl) ?_; clear ha a; intro a ha
              refine q_nil ?_; intro w206 hx207
              have hE208 := Ext.trans hE71 hx207
              replace ha := ha.sub (σ' := [(0, va0), (1, (.int .i64 a1)), (5, (.int .i64 i69)), (25, (.int .i64 i69)), (26, (.bool false)), (27, (.bool false)), (38, (.bool false)), (39, (.bool false))]) ⟨rfl, rfl, rfl, rfl, rfl, rfl, rfl, rfl, trivial⟩
              refine e_then ?_
              refine c_false ha rfl ?_
              refine wp_skip ?_
              refine e_blk ?_
              refine e_then ?_
              refine wp_region_lit ?_
              refine op_g ha rfl (g_move rfl) ?_; clear ha a; intro a ha
              obtain ⟨hI209, hF⟩ := ck_some hF
              refine op_g ha rfl (g_add rfl rfl hI209) ?_; clear ha a; intro a ha
              refine op_g ha rfl (g_assign rfl) ?_; clear ha a; intro a ha
              refine wpList_nil ?_
              replace ha := ha.sub (σ' := [(0, va0), (1, (.int .i64 a1)), (5, (.int .i64 (i69 + 1))), (25, (.int .i64 i69)), (26, (.bool false)), (27, (.bool false)), (38, (.bool false))]) ⟨rfl, rfl, rfl, rfl, rfl, rfl, rfl, trivial⟩
              refine e_lq ?_
              obtain rfl := Option.some.inj hF
              exact ⟨_, Nat.lt_succ_self _, i69 + 1, ha.sub ⟨rfl, rfl, rfl, trivial⟩, hE208, hI209, hN143⟩
        · replace hF := if_f hp146 hF
          refine wp_exit ?_
          refine e_then_exit ?_
          refine e_lq_eq ?_
          obtain rfl := Option.some.inj hF
          exact ⟨ha.sub trivial, hE71, (LK_inr hN143).symm⟩
    · rintro a w136 ⟨ha, hE142, rfl⟩
      have hF : F_spec_l1Set_k2 = some _ := hK139; clear hK139; unfold F_spec_l1Set_k2 at hF
      refine e_then ?_
      refine wp_seq ?_
      refine wp_region_lit ?_
      refine op_g ha rfl (g_assign rfl) ?_; clear ha a; intro a ha
      refine wpList_nil ?_
      refine e_then ?_
      refine wp_ret ?_
      obtain rfl := Option.some.inj hF
      exact f_ret1 ha rfl rfl ⟨rfl, hE142⟩
set_option maxHeartbeats 2000000 in
theorem W_spec_l1Has {W : World} {va0 : Value} {fa0 : List Nat} {a0 : (List Int)} (ha0 : Ro Rp.int W fa0 va0 a0) {a1 : Int} (ha1 : InI a1) {r : Bool} (hF : F_spec_l1Has a0 a1 = some r) :
    Calls Try.prog 39 [va0, .int .i64 a1].toArray W (Ret fun u w' => u = .bool r ∧ Ext W w') := by
  refine f_enter Try.func39 rfl Try.ntmps39 rfl ?_
  intro a ha
  replace ha : Fr 18 [(0, va0), (1, (.int .i64 a1))] a := ha
  have hE : Chg [] W W := Chg.refl _ _
  unfold F_spec_l1Has at hF
  refine wp_seq ?_
  refine wp_region_lit ?_
  refine op_g ha rfl (g_assign rfl) ?_; clear ha a; intro a ha
  refine wpList_nil ?_
  replace ha := ha.sub (σ' := [(0, va0), (1, (.int .i64 a1))]) ⟨rfl, rfl, trivial⟩
  refine e_then ?_
  refine wp_seq ?_
  refine wp_seq ?_
  refine wp_region_lit ?_
  refine op_g ha rfl (g_assign rfl) ?_; clear ha a; intro a ha
  refine wpList_nil ?_
  refine e_then ?_
  obtain ⟨o46, ho47, hK48⟩ := bnd_some hF
  obtain ⟨n49, hn50⟩ := lp_some ho47; clear ho47
  refine c_loop (fun a w => Fr 18 [] a ∧ Chg [] W w ∧ o46 = .inl ()) (fun n a w => ∃ (i23 : Int), Fr 18 [(0, va0), (1, (.int .i64 a1)), (5, (.int .i64 i23))] a ∧ Chg [] W w ∧ InI i23 ∧ lpN (fun s => F_spec_l1Has_l1 a0 a1 s) n i23 = some o46) n49 ⟨0, ha.sub ⟨rfl, rfl, rfl, trivial⟩, hE, (show InI 0 from by decide), hn50⟩ ?_ ?_
  · rintro m54 a w22 ⟨i23, ha, hE25, hI24, hF⟩
    cases m54 with
    | zero => exact (lpN_zero hF).elim
    | succ m54 =>
      obtain ⟨z53, hF, hN52⟩ := lpN_succ hF
      have hF : F_spec_l1Has_l1 a0 a1 i23 = some z53 := hF; unfold F_spec_l1Has_l1 at hF
      refine wp_seq ?_
      refine wp_seq ?_
      refine wp_region_lit ?_
      refine op_g ha rfl (g_move rfl) ?_; clear ha a; intro a ha
      refine op_g ha rfl (g_move rfl) ?_; clear ha a; intro a ha
      refine op_g ha rfl (g_lenR sl26.und ha0 rfl) ?_; clear ha a; intro a ha
      refine op_g ha rfl (g_lss rfl rfl) ?_; clear ha a; intro a ha
      refine wpList_nil ?_
      replace ha := ha.sub (σ' := [(0, va0), (1, (.int .i64 a1)), (5, (.int .i64 i23)), (9, (.bool (decide (i23 < (a0.length : Int)))))]) ⟨rfl, rfl, rfl, rfl, trivial⟩
      refine e_then ?_
      refine c_cond (i23 < (a0.length : Int)) ha rfl (decide_eq_true_iff) (fun hp55 => ?_) (fun hp55 => ?_)
      · replace hF := if_t hp55 hF
        refine wp_skip ?_
        refine e_then ?_
        refine wp_seq ?_
        refine wp_block ?_
        refine wp_seq ?_
        refine wp_region_lit ?_
        refine op_g ha rfl (g_move rfl) ?_; clear ha a; intro a ha
        refine op_g ha rfl (g_move rfl) ?_; clear ha a; intro a ha
        obtain ⟨x56, g57, gx58, hF⟩ := idx_some hF
        obtain ⟨p59, cs60, f61, hf62, hpb63, hat64, hr65, hi66⟩ := ha0.at g57 gx58
        obtain ⟨rfl, hI67, rfl⟩ := hr65
        refine op_g ha rfl (hi66.gives sl26 rfl rfl) ?_; clear ha a; intro a ha
        refine op_g ha rfl (g_load0 hE25 Try.isAgg2 rfl hat64.one) ?_; clear ha a; intro a ha
        refine op_g ha rfl (g_move rfl) ?_; clear ha a; intro a ha
        refine op_g ha rfl (g_eql rfl rfl) ?_; clear ha a; intro a ha
        refine wpList_nil ?_
        replace ha := ha.sub (σ' := [(0, va0), (1, (.int .i64 a1)), (5, (.int .i64 i23)), (17, (.bool (decide (x56 = a1))))]) ⟨rfl, rfl, rfl, rfl, trivial⟩
        refine e_then ?_
        refine c_cond (x56 = a1) ha rfl (decide_eq_true_iff) (fun hp68 => ?_) (fun hp68 => ?_)
        · replace hF := if_t hp68 hF
          refine wp_seq ?_
          refine wp_region_lit ?_
          refine op_g ha rfl (g_assign rfl) ?_; clear ha a; intro a ha
          refine wpList_nil ?_
          replace ha := ha.sub (σ' := [(4, (.bool true))]) ⟨rfl, trivial⟩
          refine e_then ?_
          refine wp_ret ?_
          refine e_blk_ret ?_
          refine e_then_ret ?_
          refine e_lq_ret ?_
          refine e_then_ret ?_
          obtain rfl := Option.some.inj hF
          have e69 := LK_inr hN52; subst e69
          have e70 := BK_inr hK48; subst e70
          exact f_ret1 ha rfl rfl ⟨rfl, hE25⟩
        · replace hF := if_f hp68 hF
          refine wp_skip ?_
          refine e_blk ?_
          refine e_then ?_
          refine wp_region_lit ?_
          refine op_g ha rfl (g_move rfl) ?_; clear ha a; intro a ha
          obtain ⟨hI71, hF⟩ := ck_some hF
          refine op_g ha rfl (g_add rfl rfl hI71) ?_; clear ha a; intro a ha
          refine op_g ha rfl (g_assign rfl) ?_; clear ha a; intro a ha
          refine wpList_nil ?_
          replace ha := ha.sub (σ' := [(0, va0), (1, (.int .i64 a1)), (5, (.int .i64 (i23 + 1)))]) ⟨rfl, rfl, rfl, trivial⟩
          refine e_lq ?_
          obtain rfl := Option.some.inj hF
          exact ⟨_, Nat.lt_succ_self _, i23 + 1, ha.sub ⟨rfl, rfl, rfl, trivial⟩, hE25, hI71, hN52⟩
      · replace hF := if_f hp55 hF
        refine wp_exit ?_
        refine e_then_exit ?_
        refine e_lq_eq ?_
        obtain rfl := Option.some.inj hF
        exact ⟨ha.sub trivial, hE25, (LK_inr hN52).symm⟩
  · rintro a w45 ⟨ha, hE51, rfl⟩
    have hF : F_spec_l1Has_k2 = some _ := hK48; clear hK48; unfold F_spec_l1Has_k2 at hF
    refine e_then ?_
    refine wp_seq ?_
    refine wp_region_lit ?_
    refine op_g ha rfl (g_assign rfl) ?_; clear ha a; intro a ha
    refine wpList_nil ?_
    refine e_then ?_
    refine wp_ret ?_
    obtain rfl := Option.some.inj hF
    exact f_ret1 ha rfl rfl ⟨rfl, hE51⟩
set_option maxHeartbeats 2000000 in
theorem W_spec_GraphOk {W : World} {va0_0 : Value} {fa0_0 : List Nat} {a0_0 : (List (List Int))} (ha0_0 : Ro (Rp.sl 2 Rp.int) W fa0_0 va0_0 a0_0) {r : Bool} (hF : F_spec_GraphOk a0_0 = some r) :
    Calls Try.prog 30 [.agg #[va0_0]].toArray W (Ret fun u w' => u = .bool r ∧ Ext W w') := by
  refine f_enter Try.func30 rfl Try.ntmps30 rfl ?_
  intro a ha
  replace ha : Fr 64 [(0, (.agg #[va0_0]))] a := ha
  have hE : Chg [] W W := Chg.refl _ _
  unfold F_spec_GraphOk at hF
  refine wp_seq ?_
  refine wp_region_lit ?_
  refine o_box ha rfl rfl rfl ?_; clear ha a; intro b1 w2 hB3 hx4 hlo5 a ha
  have q6 := Zn.one hlo5
  have q7 := Zn.upD q6 hE
  have hE8 := Ext.trans hE hx4
  refine op_g ha rfl (g_assign rfl) ?_; clear ha a; intro a ha
  refine wpList_nil ?_
  replace ha := ha.sub (σ' := [(1, (.pointer (some ⟨b1, 0, none⟩)))]) ⟨rfl, trivial⟩
  refine e_then ?_
  refine wp_seq ?_
  refine wp_region_lit ?_
  refine op_g ha rfl (g_loadA (cs := [va0_0]) Try.isAgg28 Try.sizeOf28 rfl (by simp) hB3.all) ?_; clear ha a; intro a ha
  obtain ⟨x9, hc10, hF⟩ := cal_some hF
  refine o_call ha rfl rfl Try.call37 (W_spec_l1Size (ha0_0.ext hE8) hc10) ?_; clear ha a; rintro v11 w12 ⟨⟨rfl, hI14⟩, hx13⟩ a ha
  replace hB3 := hB3.ext hx13
  have hE15 := Ext.trans hE8 hx13
  refine op_g ha rfl (g_assign rfl) ?_; clear ha a; intro a ha
  refine wpList_nil ?_
  replace ha := ha.sub (σ' := [(1, (.pointer (some ⟨b1, 0, none⟩))), (3, (.int .i64 x9))]) ⟨rfl, rfl, trivial⟩
  refine e_then ?_
  refine wp_seq ?_
  refine wp_seq ?_
  refine wp_region_lit ?_
  refine op_g ha rfl (g_move rfl) ?_; clear ha a; intro a ha
  obtain ⟨x16, hc17, hF⟩ := cal_some hF
  refine o_call ha rfl rfl Try.call26 (W_spec_l1In hI14 (show InI 1 from by decide) (show InI 16 from by decide) hc17) ?_; clear ha a; rintro v18 w19 ⟨rfl, hx20⟩ a ha
  replace hB3 := hB3.ext hx20
  have hE21 := Ext.trans hE15 hx20
  refine op_g ha rfl (g_not rfl) ?_; clear ha a; intro a ha
  refine wpList_nil ?_
  replace ha := ha.sub (σ' := [(1, (.pointer (some ⟨b1, 0, none⟩))), (3, (.int .i64 x9)), (11, (.bool (!x16)))]) ⟨rfl, rfl, rfl, trivial⟩
  refine e_then ?_
  refine c_cond (¬ (x16 = true)) ha rfl (n_iff (Iff.rfl)) (fun hp22 => ?_) (fun hp22 => ?_)
  · replace hF := if_t hp22 hF
    refine wp_seq ?_
    refine wp_region_lit ?_
    refine op_g ha rfl (g_assign rfl) ?_; clear ha a; intro a ha
    refine wpList_nil ?_
    replace ha := ha.sub (σ' := [(2, (.bool false))]) ⟨rfl, trivial⟩
    refine e_then ?_
    refine wp_ret ?_
    refine e_then_ret ?_
    obtain rfl := Option.some.inj hF
    exact f_ret1 ha rfl rfl ⟨rfl, hE21⟩
  · replace hF := if_f hp22 hF
    refine wp_skip ?_
    refine e_then ?_
    refine wp_seq ?_
    refine wp_seq ?_
    refine wp_region_lit ?_
    refine op_g ha rfl (g_assign rfl) ?_; clear ha a; intro a ha
    refine wpList_nil ?_
    replace ha := ha.sub (σ' := [(1, (.pointer (some ⟨b1, 0, none⟩))), (3, (.int .i64 x9)), (4, (.int .i64 0))]) ⟨rfl, rfl, rfl, trivial⟩
    refine e_then ?_
    obtain ⟨o136, ho137, hK138⟩ := bnd_some hF
    obtain ⟨n139, hn140⟩ := lp_some ho137; clear ho137
    refine c_loop (fun a w => Fr 64 [(1, (.pointer (some ⟨b1, 0, none⟩))), (3, (.int .i64 x9))] a ∧ Chg [] W w ∧ Bx w b1 [va0_0] 28 ∧ Zn W (b1 : Int) ∧ o136 = .inl ()) (fun n a w => ∃ (i80 : Int), Fr 64 [(1, (.pointer (some ⟨b1, 0, none⟩))), (3, (.int .i64 x9)), (4, (.int .i64 i80))] a ∧ Chg [] W w ∧ InI i80 ∧ Bx w b1 [va0_0] 28 ∧ Zn W (b1 : Int) ∧ lpN (fun s => F_spec_GraphOk_l1 a0_0 x9 s) n i80 = some o136) n139 ⟨0, ha.sub ⟨rfl, rfl, rfl, trivial⟩, hE21, (show InI 0 from by decide), hB3, q7, hn140⟩ ?_ ?_
    · rintro m144 a w77 ⟨i80, ha, hE82, hI81, hB78, z79, hF⟩
      cases m144 with
      | zero => exact (lpN_zero hF).elim
      | succ m144 =>
        obtain ⟨z143, hF, hN142⟩ := lpN_succ hF
        have hF : F_spec_GraphOk_l1 a0_0 x9 i80 = some z143 := hF; unfold F_spec_GraphOk_l1 at hF
        refine wp_seq ?_
        refine wp_seq ?_
        refine wp_region_lit ?_
        refine op_g ha rfl (g_move rfl) ?_; clear ha a; intro a ha
        refine op_g ha rfl (g_move rfl) ?_; clear ha a; intro a ha
        refine op_g ha rfl (g_lss rfl rfl) ?_; clear ha a; intro a ha
        refine wpList_nil ?_
        replace ha := ha.sub (σ' := [(1, (.pointer (some ⟨b1, 0, none⟩))), (3, (.int .i64 x9)), (4, (.int .i64 i80)), (14, (.bool (decide (i80 < x9))))]) ⟨rfl, rfl, rfl, rfl, trivial⟩
        refine e_then ?_
        refine c_cond (i80 < x9) ha rfl (decide_eq_true_iff) (fun hp145 => ?_) (fun hp145 => ?_)
        · replace hF := if_t hp145 hF
          refine wp_skip ?_
          refine e_then ?_
          refine wp_seq ?_
          refine wp_block ?_
          refine wp_seq ?_
          refine wp_region_lit ?_
          refine op_g ha rfl (g_field0 st28_0 rfl) ?_; clear ha a; intro a ha
          refine op_g ha rfl (g_load Try.isAgg22 rfl (hB78.cell rfl)) ?_; clear ha a; intro a ha
          refine op_g ha rfl (g_move rfl) ?_; clear ha a; intro a ha
          obtain ⟨x146, g147, gx148, hF⟩ := idx_some hF
          obtain ⟨p149, cs150, f151, hf152, hpb153, hat154, hr155, hi156⟩ := ha0_0.at g147 gx148
          obtain ⟨v157, rfl, h158⟩ := hr155
          have h158 : Ro Rp.int W f151 v157 x146 := h158
          refine op_g ha rfl (hi156.gives sl22 rfl rfl) ?_; clear ha a; intro a ha
          refine op_g ha rfl (g_load0 hE82 Try.isAgg26 rfl hat154.one) ?_; clear ha a; intro a ha
          refine op_g ha rfl (g_move rfl) ?_; clear ha a; intro a ha
          obtain ⟨x160, hc161, hF⟩ := cal_some hF
          refine o_call ha rfl rfl Try.call38 (W_spec_l1Set (h158.ext hE82) hI14 hc161) ?_; clear ha a; rintro v162 w163 ⟨rfl, hx164⟩ a ha
          replace hB78 := hB78.ext hx164
          have hE165 := Ext.trans hE82 hx164
          refine op_g ha rfl (g_not rfl) ?_; clear ha a; intro a ha
          refine op_g ha rfl (g_move rfl) ?_; clear ha a; intro a ha
          by_cases hp166 : ¬ (x160 = true)
          · replace hF := if_t hp166 hF
            rw [show (!x160) = true from (n_iff (Iff.rfl)).2 hp166] at ha
            refine op_unwant ha rfl (yields ha rfl rfl) rfl ?_; clear ha a; intro a ha
            refine op_unwant ha rfl (yields ha rfl rfl) rfl ?_; clear ha a; intro a ha
            refine op_unwant ha rfl (yields ha rfl rfl) rfl ?_; clear ha a; intro a ha
            refine op_unwant ha rfl (yields ha rfl rfl) rfl ?_; clear ha a; intro a ha
            refine op_unwant ha rfl (yields ha rfl rfl) rfl ?_; clear ha a; intro a ha
            refine op_unwant ha rfl (yields ha rfl rfl) rfl ?_; clear ha a; intro a ha
            refine op_unwant ha rfl (yields ha rfl rfl) rfl ?_; clear ha a; intro a ha
            refine op_g ha rfl (g_pick rfl rfl) ?_; clear ha a; intro a ha
            refine wpList_nil ?_
            replace ha := ha.sub (σ' := [(1, (.pointer (some ⟨b1, 0, none⟩))), (3, (.int .i64 x9)), (4, (.int .i64 i80)), (33, (.bool true))]) ⟨rfl, rfl, rfl, rfl, trivial⟩
            refine e_then ?_
            refine c_true ha rfl ?_
            refine wp_seq ?_
            refine wp_region_lit ?_
            refine op_g ha rfl (g_assign rfl) ?_; clear ha a; intro a ha
            refine wpList_nil ?_
            replace ha := ha.sub (σ' := [(2, (.bool false))]) ⟨rfl, trivial⟩
            refine e_then ?_
            refine wp_ret ?_
            refine e_blk_ret ?_
            refine e_then_ret ?_
            refine e_lq_ret ?_
            refine e_then_ret ?_
            obtain rfl := Option.some.inj hF
            have e167 := LK_inr hN142; subst e167
            have e168 := BK_inr hK138; subst e168
            exact f_ret1 ha rfl rfl ⟨rfl, hE165⟩
          · replace hF := if_f hp166 hF
            rw [show (!x160) = false from b_false (n_iff (Iff.rfl)) hp166] at ha
            refine op_want (yields ha rfl rfl) ?_
            refine op_g ha rfl (g_field0 st28_0 rfl) ?_; clear ha a; intro a ha
            refine op_want (yields ha rfl rfl) ?_
            refine op_g ha rfl (g_load Try.isAgg22 rfl (hB78.cell rfl)) ?_; clear ha a; intro a ha
            refine op_want (yields ha rfl rfl) ?_
            refine op_g ha rfl (g_move rfl) ?_; clear ha a; intro a ha
            refine op_want (yields ha rfl rfl) ?_
            obtain ⟨x169, g170, gx171, hF⟩ := idx_some hF
            obtain ⟨p172, cs173, f174, hf175, hpb176, hat177, hr178, hi179⟩ := ha0_0.at g170 gx171
            obtain ⟨v180, rfl, h181⟩ := hr178
            have h181 : Ro Rp.int W f174 v180 x169 := h181
            refine op_g ha rfl (hi179.gives sl22 rfl rfl) ?_; clear ha a; intro a ha
            refine op_want (yields ha rfl rfl) ?_
            refine op_g ha rfl (g_load0 hE165 Try.isAgg26 rfl hat177.one) ?_; clear ha a; intro a ha
            refine op_want (yields ha rfl rfl) ?_
            refine op_g ha rfl (g_move rfl) ?_; clear ha a; intro a ha
            refine op_want (yields ha rfl rfl) ?_
            obtain ⟨x183, hc184, hF⟩ := cal_some hF
            refine o_call ha rfl rfl Try.call39 (W_spec_l1Has (h181.ext hE165) hI81 hc184) ?_; clear ha a; rintro v185 w186 ⟨rfl, hx187⟩ a ha
            replace hB78 := hB78.ext hx187
            have hE188 := Ext.trans hE165 hx187
            refine op_g ha rfl (g_pick rfl rfl) ?_; clear ha a; intro a ha
            refine wpList_nil ?_
            replace ha := ha.sub (σ' := [(1, (.pointer (some ⟨b1, 0, none⟩))), (3, (.int .i64 x9)), (4, (.int .i64 i80)), (26, (.pointer (some ⟨b1, 0, none⟩))), (27, va0_0), (28, (.int .i64 i80)), (29, (.pointer (some p172))), (30, v180), (31, (.int .i64 i80)), (32, (.bool x183)), (33, (.bool x183))]) ⟨rfl, rfl, rfl, rfl, rfl, rfl, rfl, rfl, rfl, rfl, rfl, trivial⟩
            refine e_then ?_
            refine c_cond (x183 = true) ha rfl (Iff.rfl) (fun hp189 => ?_) (fun hp189 => ?_)
            · replace hF := if_t hp189 hF
              refine wp_seq ?_
              refine wp_region_lit ?_
              refine op_g ha rfl (g_assign rfl) ?_; clear ha a; intro a ha
              refine wpList_nil ?_
              replace ha := ha.sub (σ' := [(2, (.bool false))]) ⟨rfl, trivial⟩
              refine e_then ?_
              refine wp_ret ?_
              refine e_blk_ret ?_
              refine e_then_ret ?_
              refine e_lq_ret ?_
              refine e_then_ret ?_
              obtain rfl := Option.some.inj hF
              have e190 := LK_inr hN142; subst e190
              have e191 := BK_inr hK138; subst e191
              exact f_ret1 ha rfl rfl ⟨rfl, hE188⟩
            · replace hF := if_f hp189 hF
              refine wp_skip ?_
              refine e_blk ?_
              refine e_then ?_
              refine wp_region_lit ?_
              refine op_g ha rfl (g_move rfl) ?_; clear ha a; intro a ha
              obtain ⟨hI192, hF⟩ := ck_some hF
              refine op_g ha rfl (g_add rfl rfl hI192) ?_; clear ha a; intro a ha
              refine op_g ha rfl (g_assign rfl) ?_; clear ha a; intro a ha
              refine wpList_nil ?_
              replace ha := ha.sub (σ' := [(1, (.pointer (some ⟨b1, 0, none⟩))), (3, (.int .i64 x9)), (4, (.int .i64 (i80 + 1))), (26, (.pointer (some ⟨b1, 0, none⟩))), (27, va0_0), (28, (.int .i64 i80)), (29, (.pointer (some p172))), (30, v180), (31, (.int .i64 i80)), (32, (.bool x183))]) ⟨rfl, rfl, rfl, rfl, rfl, rfl, rfl, rfl, rfl, rfl, trivial⟩
              refine e_lq ?_
              obtain rfl := Option.some.inj hF
              exact ⟨_, Nat.lt_succ_self _, i80 + 1, ha.sub ⟨rfl, rfl, rfl, trivial⟩, hE188, hI192, hB78, z79, hN142⟩
        · replace hF := if_f hp145 hF
          refine wp_exit ?_
          refine e_then_exit ?_
          refine e_lq_eq ?_
          obtain rfl := Option.some.inj hF
          exact ⟨ha.sub ⟨rfl, rfl, trivial⟩, hE82, hB78, z79, (LK_inr hN142).symm⟩
    · rintro a w133 ⟨ha, hE141, hB134, z135, rfl⟩
      have hF : F_spec_GraphOk_k2 a0_0 x9 = some _ := hK138; clear hK138; unfold F_spec_GraphOk_k2 at hF
      refine e_then ?_
      refine wp_seq ?_
      refine wp_seq ?_
      refine wp_region_lit ?_
      refine op_g ha rfl (g_assign rfl) ?_; clear ha a; intro a ha
      refine wpList_nil ?_
      refine e_then ?_
      obtain ⟨o675, ho676, hK677⟩ := bnd_some hF
      obtain ⟨n678, hn679⟩ := lp_some ho676; clear ho676
      refine c_loop (fun a w => Fr 64 [] a ∧ Chg [] W w ∧ o675 = .inl ()) (fun n a w => ∃ (i436 : Int), Fr 64 [(1, (.pointer (some ⟨b1, 0, none⟩))), (3, (.int .i64 x9)), (5, (.int .i64 i436))] a ∧ Chg [] W w ∧ InI i436 ∧ Bx w b1 [va0_0] 28 ∧ Zn W (b1 : Int) ∧ lpN (fun s => F_spec_GraphOk_l3 a0_0 x9 s) n i436 = some o675) n678 ⟨0, ha.sub ⟨rfl, rfl, rfl, trivial⟩, hE141, (show InI 0 from by decide), hB134, z135, hn679⟩ ?_ ?_
      · rintro m683 a w433 ⟨i436, ha, hE438, hI437, hB434, z435, hF⟩
        cases m683 with
        | zero => exact (lpN_zero hF).elim
        | succ m683 =>
          obtain ⟨z682, hF, hN681⟩ := lpN_succ hF
          have hF : F_spec_GraphOk_l3 a0_0 x9 i436 = some z682 := hF; unfold F_spec_GraphOk_l3 at hF
          refine wp_seq ?_
          refine wp_seq ?_
          refine wp_region_lit ?_
          refine op_g ha rfl (g_move rfl) ?_; clear ha a; intro a ha
          refine op_g ha rfl (g_move rfl) ?_; clear ha a; intro a ha
          refine op_g ha rfl (g_lss rfl rfl) ?_; clear ha a; intro a ha
          refine wpList_nil ?_
          replace ha := ha.sub (σ' := [(1, (.pointer (some ⟨b1, 0, none⟩))), (3, (.int .i64 x9)), (5, (.int .i64 i436)), (36, (.bool (decide (i436 < x9))))]) ⟨rfl, rfl, rfl, rfl, trivial⟩
          refine e_then ?_
          refine c_cond (i436 < x9) ha rfl (decide_eq_true_iff) (fun hp684 => ?_) (fun hp684 => ?_)
          · replace hF := if_t hp684 hF
            refine wp_skip ?_
            refine e_then ?_
            refine wp_seq ?_
            refine wp_block ?_
            refine wp_seq ?_
            refine wp_region_lit ?_
            refine op_g ha rfl (g_assign rfl) ?_; clear ha a; intro a ha
            refine wpList_nil ?_
            replace ha := ha.sub (σ' := [(1, (.pointer (some ⟨b1, 0, none⟩))), (3, (.int .i64 x9)), (5, (.int .i64 i436)), (6, (.int .i64 0))]) ⟨rfl, rfl, rfl, rfl, trivial⟩
            refine e_then ?_
            obtain ⟨o838, ho839, hK840⟩ := bnd_some hF
            obtain ⟨n841, hn842⟩ := lp_some ho839; clear ho839
            refine c_loop (fun a w => Fr 64 [(1, (.pointer (some ⟨b1, 0, none⟩))), (3, (.int .i64 x9)), (5, (.int .i64 i436))] a ∧ Chg [] W w ∧ Bx w b1 [va0_0] 28 ∧ Zn W (b1 : Int) ∧ o838 = .inl ()) (fun n a w => ∃ (i762 : Int), Fr 64 [(1, (.pointer (some ⟨b1, 0, none⟩))), (3, (.int .i64 x9)), (5, (.int .i64 i436)), (6, (.int .i64 i762))] a ∧ Chg [] W w ∧ InI i762 ∧ Bx w b1 [va0_0] 28 ∧ Zn W (b1 : Int) ∧ lpN (fun s => F_spec_GraphOk_l4 a0_0 i436 s) n i762 = some o838) n841 ⟨0, ha.sub ⟨rfl, rfl, rfl, rfl, trivial⟩, hE438, (show InI 0 from by decide), hB434, z435, hn842⟩ ?_ ?_
            · rintro m846 a w759 ⟨i762, ha, hE764, hI763, hB760, z761, hF⟩
              cases m846 with
              | zero => exact (lpN_zero hF).elim
              | succ m846 =>
                obtain ⟨z845, hF, hN844⟩ := lpN_succ hF
                have hF : F_spec_GraphOk_l4 a0_0 i436 i762 = some z845 := hF; unfold F_spec_GraphOk_l4 at hF
                refine wp_seq ?_
                refine wp_seq ?_
                refine wp_region_lit ?_
                refine op_g ha rfl (g_move rfl) ?_; clear ha a; intro a ha
                refine op_g ha rfl (g_field0 st28_0 rfl) ?_; clear ha a; intro a ha
                refine op_g ha rfl (g_load Try.isAgg22 rfl (hB760.cell rfl)) ?_; clear ha a; intro a ha
                refine op_g ha rfl (g_move rfl) ?_; clear ha a; intro a ha
                obtain ⟨x847, g848, gx849, hF⟩ := idx_some hF
                obtain ⟨p850, cs851, f852, hf853, hpb854, hat855, hr856, hi857⟩ := ha0_0.at g848 gx849
                obtain ⟨v858, rfl, h859⟩ := hr856
                have h859 : Ro Rp.int W f852 v858 x847 := h859
                refine op_g ha rfl (hi857.gives sl22 rfl rfl) ?_; clear ha a; intro a ha
                refine op_g ha rfl (g_load0 hE764 Try.isAgg26 rfl hat855.one) ?_; clear ha a; intro a ha
                refine op_g ha rfl (g_lenR sl26.und h859 rfl) ?_; clear ha a; intro a ha
                refine op_g ha rfl (g_lss rfl rfl) ?_; clear ha a; intro a ha
                refine wpList_nil ?_
                replace ha := ha.sub (σ' := [(1, (.pointer (some ⟨b1, 0, none⟩))), (3, (.int .i64 x9)), (5, (.int .i64 i436)), (6, (.int .i64 i762)), (46, (.bool (decide (i762 < (x847.length : Int)))))]) ⟨rfl, rfl, rfl, rfl, rfl, trivial⟩
                refine e_then ?_
                refine c_cond (i762 < (x847.length : Int)) ha rfl (decide_eq_true_iff) (fun hp861 => ?_) (fun hp861 => ?_)
                · replace hF := if_t hp861 hF
                  refine wp_skip ?_
                  refine e_then ?_
                  refine wp_seq ?_
                  refine wp_block ?_
                  refine wp_seq ?_
                  refine d_quiet hmix (by kernel_rfl) ?_
                  refine q_g ha rfl (g_field0 st28_0 rfl) ?_; clear ha a; intro a ha
                  refine q_g ha rfl (g_load Try.isAgg22 rfl (hB760.cell rfl)) ?_; clear ha a; intro a ha
                  refine q_g ha rfl (g_field0 st28_0 rfl) ?_; clear ha a; intro a ha
                  refine q_g ha rfl (g_load Try.isAgg22 rfl (hB760.cell rfl)) ?_; clear ha a; intro a ha
                  refine q_g ha rfl (g_move rfl) ?_; clear ha a; intro a ha
                  obtain ⟨x862, g863, gx864, hF⟩ := idx_some hF
                  obtain ⟨p865, cs866, f867, hf868, hpb869, hat870, hr871, hi872⟩ := ha0_0.at g863 gx864
                  obtain ⟨v873, rfl, h874⟩ := hr871
                  have h874 : Ro Rp.int W f867 v873 x862 := h874
                  refine q_g ha rfl (hi872.gives sl22 rfl rfl) ?_; clear ha a; intro a ha
                  refine q_g ha rfl (g_load0 hE764 Try.isAgg26 rfl hat870.one) ?_; clear ha a; intro a ha
                  refine q_g ha rfl (g_move rfl) ?_; clear ha a; intro a ha
                  obtain ⟨x876, g877, gx878, hF⟩ := idx_some hF
                  obtain ⟨p879, cs880, f881, hf882, hpb883, hat884, hr885, hi886⟩ := h874.at g877 gx878
                  obtain ⟨rfl, hI887, rfl⟩ := hr885
                  refine q_g ha rfl (hi886.gives sl26 rfl rfl) ?_; clear ha a; intro a ha
                  refine q_g ha rfl (g_load0 hE764 Try.isAgg2 rfl hat884.one) ?_; clear ha a; intro a ha
                  obtain ⟨x888, g889, gx890, hF⟩ := idx_some hF
                  obtain ⟨p891, cs892, f893, hf894, hpb895, hat896, hr897, hi898⟩ := ha0_0.at g889 gx890
                  obtain ⟨v899, rfl, h900⟩ := hr897
                  have h900 : Ro Rp.int W f893 v899 x888 := h900
                  refine q_g ha rfl (hi898.gives sl22 rfl rfl) ?_; clear ha a; intro a ha
                  refine q_g ha rfl (g_load0 hE764 Try.isAgg26 rfl hat896.one) ?_; clear ha a; intro a ha
                  refine q_g ha rfl (g_move rfl) ?_; clear ha a; intro a ha
                  obtain ⟨x904, hc905, hF⟩ := cal_some hF
                  refine q_call (.bool x904) ha rfl rfl Try.call39 (fun w903 hx902 => W_spec_l1Has (h900.ext (Ext.trans hE764 hx902)) hI437 hc905) (fun _ _ _ h => ⟨h.1, h.2⟩) ?_; clear ha a; intro a ha
                  refine q_g ha rfl (g_not rfl) ?_; clear ha a; intro a ha
                  refine q_nil ?_; intro w906 hx907
                  replace hB760 := hB760.ext hx907
                  have hE908 := Ext.trans hE764 hx907
                  replace ha := ha.sub (σ' := [(1, (.pointer (some ⟨b1, 0, none⟩))), (3, (.int .i64 x9)), (5, (.int .i64 i436)), (6, (.int .i64 i762)), (63, (.bool (!x904)))]) ⟨rfl, rfl, rfl, rfl, rfl, trivial⟩
                  refine e_then ?_
                  refine c_cond (¬ (x904 = true)) ha rfl (n_iff (Iff.rfl)) (fun hp909 => ?_) (fun hp909 => ?_)
                  · replace hF := if_t hp909 hF
                    refine wp_seq ?_
                    refine wp_region_lit ?_
                    refine op_g ha rfl (g_assign rfl) ?_; clear ha a; intro a ha
                    refine wpList_nil ?_
                    replace ha := ha.sub (σ' := [(2, (.bool false))]) ⟨rfl, trivial⟩
                    refine e_then ?_
                    refine wp_ret ?_
                    refine e_blk_ret ?_
                    refine e_then_ret ?_
                    refine e_lq_ret ?_
                    refine e_blk_ret ?_
                    refine e_then_ret ?_
                    refine e_lq_ret ?_
                    refine e_then_ret ?_
                    obtain rfl := Option.some.inj hF
                    have e910 := LK_inr hN844; subst e910
                    have e911 := BK_inr hK840; subst e911
                    have e912 := LK_inr hN681; subst e912
                    have e913 := BK_inr hK677; subst e913
                    exact f_ret1 ha rfl rfl ⟨rfl, hE908⟩
                  · replace hF := if_f hp909 hF
                    refine wp_skip ?_
                    refine e_blk ?_
                    refine e_then ?_
                    refine wp_region_lit ?_
                    refine op_g ha rfl (g_move rfl) ?_; clear ha a; intro a ha
                    obtain ⟨hI914, hF⟩ := ck_some hF
                    refine op_g ha rfl (g_add rfl rfl hI914) ?_; clear ha a; intro a ha
                    refine op_g ha rfl (g_assign rfl) ?_; clear ha a; intro a ha
                    refine wpList_nil ?_
                    replace ha := ha.sub (σ' := [(1, (.pointer (some ⟨b1, 0, none⟩))), (3, (.int .i64 x9)), (5, (.int .i64 i436)), (6, (.int .i64 (i762 + 1)))]) ⟨rfl, rfl, rfl, rfl, trivial⟩
                    refine e_lq ?_
                    obtain rfl := Option.some.inj hF
                    exact ⟨_, Nat.lt_succ_self _, i762 + 1, ha.sub ⟨rfl, rfl, rfl, rfl, trivial⟩, hE908, hI914, hB760, z761, hN844⟩
                · replace hF := if_f hp861 hF
                  refine wp_exit ?_
                  refine e_then_exit ?_
                  refine e_lq_eq ?_
                  obtain rfl := Option.some.inj hF
                  exact ⟨ha.sub ⟨rfl, rfl, rfl, trivial⟩, hE764, hB760, z761, (LK_inr hN844).symm⟩
            · rintro a w835 ⟨ha, hE843, hB836, z837, rfl⟩
              have hF : F_spec_GraphOk_k5 i436 = some _ := hK840; clear hK840; unfold F_spec_GraphOk_k5 at hF
              refine e_blk ?_
              refine e_then ?_
              refine wp_region_lit ?_
              refine op_g ha rfl (g_move rfl) ?_; clear ha a; intro a ha
              obtain ⟨hI916, hF⟩ := ck_some hF
              refine op_g ha rfl (g_add rfl rfl hI916) ?_; clear ha a; intro a ha
              refine op_g ha rfl (g_assign rfl) ?_; clear ha a; intro a ha
              refine wpList_nil ?_
              replace ha := ha.sub (σ' := [(1, (.pointer (some ⟨b1, 0, none⟩))), (3, (.int .i64 x9)), (5, (.int .i64 (i436 + 1)))]) ⟨rfl, rfl, rfl, trivial⟩
              refine e_lq ?_
              obtain rfl := Option.some.inj hF
              exact ⟨_, Nat.lt_succ_self _, i436 + 1, ha.sub ⟨rfl, rfl, rfl, trivial⟩, hE843, hI916, hB836, z837, hN681⟩
          · replace hF := if_f hp684 hF
            refine wp_exit ?_
            refine e_then_exit ?_
            refine e_lq_eq ?_
            obtain rfl := Option.some.inj hF
            exact ⟨ha.sub trivial, hE438, (LK_inr hN681).symm⟩
      · rintro a w674 ⟨ha, hE680, rfl⟩
        have hF : F_spec_GraphOk_k6 = some _ := hK677; clear hK677; unfold F_spec_GraphOk_k6 at hF
        refine e_then ?_
        refine wp_seq ?_
        refine wp_region_lit ?_
        refine op_g ha rfl (g_assign rfl) ?_; clear ha a; intro a ha
        refine wpList_nil ?_
        refine e_then ?_
        refine wp_ret ?_
        obtain rfl := Option.some.inj hF
        exact f_ret1 ha rfl rfl ⟨rfl, hE680⟩
set_option maxHeartbeats 2000000 in
theorem W_spec_l26Small {W : World} {va0_0 : Value} {fa0_0 : List Nat} {a0_0 : (List (List Int))} (ha0_0 : Ro (Rp.sl 2 Rp.int) W fa0_0 va0_0 a0_0) {r : Bool} (hF : F_spec_l26Small a0_0 = some r) :
    Calls Try.prog 17 [.agg #[va0_0]].toArray W (Ret fun u w' => u = .bool r ∧ Ext W w') := by
  refine f_enter Try.func17 rfl Try.ntmps17 rfl ?_
  intro a ha
  replace ha : Fr 11 [(0, (.agg #[va0_0]))] a := ha
  have hE : Chg [] W W := Chg.refl _ _
  unfold F_spec_l26Small at hF
  refine wp_seq ?_
  refine wp_region_lit ?_
  refine o_box ha rfl rfl rfl ?_; clear ha a; intro b1 w2 hB3 hx4 hlo5 a ha
  have q6 := Zn.one hlo5
  have q7 := Zn.upD q6 hE
  have hE8 := Ext.trans hE hx4
  refine op_g ha rfl (g_assign rfl) ?_; clear ha a; intro a ha
  refine wpList_nil ?_
  replace ha := ha.sub (σ' := [(1, (.pointer (some ⟨b1, 0, none⟩)))]) ⟨rfl, trivial⟩
  refine e_then ?_
  refine wp_seq ?_
  refine wp_region_lit ?_
  refine op_g ha rfl (g_loadA (cs := [va0_0]) Try.isAgg28 Try.sizeOf28 rfl (by simp) hB3.all) ?_; clear ha a; intro a ha
  obtain ⟨x9, hc10, hF⟩ := cal_some hF
  refine o_call ha rfl rfl Try.call30 (W_spec_GraphOk (ha0_0.ext hE8) hc10) ?_; clear ha a; rintro v11 w12 ⟨rfl, hx13⟩ a ha
  replace hB3 := hB3.ext hx13
  have hE14 := Ext.trans hE8 hx13
  refine op_g ha rfl (g_move rfl) ?_; clear ha a; intro a ha
  by_cases hp15 : x9 = true
  · replace hF := if_t hp15 hF
    rw [show (x9) = true from (Iff.rfl).2 hp15] at ha
    refine op_want (yields ha rfl rfl) ?_
    refine op_g ha rfl (g_field0 st28_0 rfl) ?_; clear ha a; intro a ha
    refine op_want (yields ha rfl rfl) ?_
    refine op_g ha rfl (g_load Try.isAgg22 rfl (hB3.cell rfl)) ?_; clear ha a; intro a ha
    refine op_want (yields ha rfl rfl) ?_
    refine op_g ha rfl (g_lenR sl22.und ha0_0 rfl) ?_; clear ha a; intro a ha
    refine op_want (yields ha rfl rfl) ?_
    refine op_g ha rfl (g_leq rfl rfl) ?_; clear ha a; intro a ha
    refine op_g ha rfl (g_pick rfl rfl) ?_; clear ha a; intro a ha
    refine op_g ha rfl (g_assign rfl) ?_; clear ha a; intro a ha
    refine wpList_nil ?_
    replace ha := ha.sub (σ' := [(2, (.bool (decide ((a0_0.length : Int) ≤ 8))))]) ⟨rfl, trivial⟩
    refine e_then ?_
    refine wp_ret ?_
    obtain rfl := Option.some.inj hF
    exact f_ret1 ha rfl rfl ⟨rfl, hE14⟩
  · replace hF := if_f hp15 hF
    rw [show (x9) = false from b_false (Iff.rfl) hp15] at ha
    refine op_unwant ha rfl (yields ha rfl rfl) rfl ?_; clear ha a; intro a ha
    refine op_unwant ha rfl (yields ha rfl rfl) rfl ?_; clear ha a; intro a ha
    refine op_unwant ha rfl (yields ha rfl rfl) rfl ?_; clear ha a; intro a ha
    refine op_unwant ha rfl (yields ha rfl rfl) rfl ?_; clear ha a; intro a ha
    refine op_g ha rfl (g_pick rfl rfl) ?_; clear ha a; intro a ha
    refine op_g ha rfl (g_assign rfl) ?_; clear ha a; intro a ha
    refine wpList_nil ?_
    replace ha := ha.sub (σ' := [(2, (.bool false))]) ⟨rfl, trivial⟩
    refine e_then ?_
    refine wp_ret ?_
    obtain rfl := Option.some.inj hF
    exact f_ret1 ha rfl rfl ⟨rfl, hE14⟩
set_option maxHeartbeats 2000000 in
theorem W_spec_l25Bits {W : World} {va0_0 : Value} {fa0_0 : List Nat} {a0_0 : (List (List Int))} (ha0_0 : Ro (Rp.sl 2 Rp.int) W fa0_0 va0_0 a0_0) {r : (List Int)} (hF : F_spec_l25Bits a0_0 = some r) :
    Calls Try.prog 19 [.agg #[va0_0]].toArray W (Ret fun u w' => ∃ (b_u : Int), Ow Rp.int 2 true w' [] b_u u r ∧ Zn W b_u ∧ Ext W w') := by
  refine f_enter Try.func19 rfl Try.ntmps19 rfl ?_
  intro a ha
  replace ha : Fr 42 [(0, (.agg #[va0_0]))] a := ha
  have hE : Chg [] W W := Chg.refl _ _
  unfold F_spec_l25Bits at hF
  refine wp_seq ?_
  refine wp_region_lit ?_
  refine o_box ha rfl rfl rfl ?_; clear ha a; intro b1 w2 hB3 hx4 hlo5 a ha
  have q6 := Zn.one hlo5
  have q7 := Zn.upD q6 hE
  have hE8 := Ext.trans hE hx4
  refine op_g ha rfl (g_assign rfl) ?_; clear ha a; intro a ha
  refine wpList_nil ?_
  replace ha := ha.sub (σ' := [(1, (.pointer (some ⟨b1, 0, none⟩)))]) ⟨rfl, trivial⟩
  refine e_then ?_
  refine wp_seq ?_
  refine wp_region_lit ?_
  refine o_lit0 Rp.int ha rfl sl26 ?_; clear ha a; intro v9 w10 h11 hx12 a ha
  obtain ⟨b14, hb14⟩ : ∃ b : Int, b = w2.heap.size := ⟨_, rfl⟩; rw [← hb14] at h11
  have q15 := zn_of hb14
  have q16 := Nq.new hB3.fpb q15
  have q17 := Nq.madeO q15 hB3.bi
  have q18 := Zn.upD q15 hE8
  replace hB3 := hB3.ext hx12
  have hE19 := Ext.trans hE8 hx12
  refine op_g ha rfl (g_assign rfl) ?_; clear ha a; intro a ha
  refine wpList_nil ?_
  replace ha := ha.sub (σ' := [(1, (.pointer (some ⟨b1, 0, none⟩))), (3, v9)]) ⟨rfl, rfl, trivial⟩
  refine e_then ?_
  refine wp_seq ?_
  refine wp_seq ?_
  refine wp_region_lit ?_
  refine op_g ha rfl (g_assign rfl) ?_; clear ha a; intro a ha
  refine wpList_nil ?_
  refine e_then ?_
  obtain ⟨o542, ho543, hK544⟩ := bnd_some hF
  obtain ⟨n545, hn546⟩ := lp_some ho543; clear ho543
  refine c_loop (fun a w => ∃ (l539 : (List Int)) (v540 : Value) (b541 : Int), Fr 42 [(3, v540)] a ∧ Chg [] W w ∧ Ow Rp.int 2 true w [] b541 v540 l539 ∧ Zn W b541 ∧ o542 = .inl l539) (fun n a w => ∃ (l281 : (List Int)) (i284 : Int) (v282 : Value) (b283 : Int), Fr 42 [(1, (.pointer (some ⟨b1, 0, none⟩))), (3, v282), (4, (.int .i64 i284))] a ∧ Chg [] W w ∧ InI i284 ∧ Bx w b1 [va0_0] 28 ∧ Zn W (b1 : Int) ∧ Ow Rp.int 2 true w [] b283 v282 l281 ∧ Zn W b283 ∧ Nq ([b1]) b283 ∧ Nq (bl b283 ++ []) (b1 : Int) ∧ lpN (fun s => F_spec_l25Bits_l1 a0_0 s.1 s.2) n (l281, i284) = some o542) n545 ⟨([] : (List Int)), 0, v9, b14, ha.sub ⟨rfl, rfl, rfl, trivial⟩, hE19, (show InI 0 from by decide), hB3, q7, h11, q18, q16, q17, hn546⟩ ?_ ?_
  · rintro m550 a w275 ⟨l281, i284, v282, b283, ha, hE288, hI285, hB276, z277, h279, z280, q286, q287, hF⟩
    cases m550 with
    | zero => exact (lpN_zero hF).elim
    | succ m550 =>
      obtain ⟨z549, hF, hN548⟩ := lpN_succ hF
      have hF : F_spec_l25Bits_l1 a0_0 l281 i284 = some z549 := hF; unfold F_spec_l25Bits_l1 at hF
      refine wp_seq ?_
      refine wp_seq ?_
      refine wp_region_lit ?_
      refine op_g ha rfl (g_move rfl) ?_; clear ha a; intro a ha
      refine op_g ha rfl (g_field0 st28_0 rfl) ?_; clear ha a; intro a ha
      refine op_g ha rfl (g_load Try.isAgg22 rfl (hB276.cell rfl)) ?_; clear ha a; intro a ha
      refine op_g ha rfl (g_lenR sl22.und ha0_0 rfl) ?_; clear ha a; intro a ha
      refine op_g ha rfl (g_lss rfl rfl) ?_; clear ha a; intro a ha
      refine wpList_nil ?_
      replace ha := ha.sub (σ' := [(1, (.pointer (some ⟨b1, 0, none⟩))), (3, v282), (4, (.int .i64 i284)), (12, (.bool (decide (i284 < (a0_0.length : Int)))))]) ⟨rfl, rfl, rfl, rfl, trivial⟩
      refine e_then ?_
      refine c_cond (i284 < (a0_0.length : Int)) ha rfl (decide_eq_true_iff) (fun hp551 => ?_) (fun hp551 => ?_)
      · replace hF := if_t hp551 hF
        refine wp_skip ?_
        refine e_then ?_
        refine wp_seq ?_
        refine wp_block ?_
        refine wp_seq ?_
        refine wp_region_lit ?_
        refine op_g ha rfl (g_assign rfl) ?_; clear ha a; intro a ha
        refine wpList_nil ?_
        replace ha := ha.sub (σ' := [(1, (.pointer (some ⟨b1, 0, none⟩))), (3, v282), (4, (.int .i64 i284)), (5, (.int .i64 0))]) ⟨rfl, rfl, rfl, rfl, trivial⟩
        refine e_then ?_
        refine wp_seq ?_
        refine wp_seq ?_
        refine wp_region_lit ?_
        refine op_g ha rfl (g_assign rfl) ?_; clear ha a; intro a ha
        refine wpList_nil ?_
        replace ha := ha.sub (σ' := [(1, (.pointer (some ⟨b1, 0, none⟩))), (3, v282), (4, (.int .i64 i284)), (5, (.int .i64 0)), (6, (.int .i64 0))]) ⟨rfl, rfl, rfl, rfl, rfl, trivial⟩
        refine e_then ?_
        obtain ⟨o700, ho701, hK702⟩ := bnd_some hF
        obtain ⟨n703, hn704⟩ := lp_some ho701; clear ho701
        refine c_loop (fun a w => ∃ (i696 : Int), Fr 42 [(1, (.pointer (some ⟨b1, 0, none⟩))), (3, v282), (4, (.int .i64 i284)), (5, (.int .i64 i696))] a ∧ Chg [] W w ∧ InI i696 ∧ Bx w b1 [va0_0] 28 ∧ Zn W (b1 : Int) ∧ Ow Rp.int 2 true w [] b283 v282 l281 ∧ Zn W b283 ∧ Nq ([b1]) b283 ∧ Nq (bl b283 ++ []) (b1 : Int) ∧ o700 = .inl i696) (fun n a w => ∃ (i625 : Int) (i627 : Int), Fr 42 [(1, (.pointer (some ⟨b1, 0, none⟩))), (3, v282), (4, (.int .i64 i284)), (5, (.int .i64 i625)), (6, (.int .i64 i627))] a ∧ Chg [] W w ∧ InI i625 ∧ InI i627 ∧ Bx w b1 [va0_0] 28 ∧ Zn W (b1 : Int) ∧ Ow Rp.int 2 true w [] b283 v282 l281 ∧ Zn W b283 ∧ Nq ([b1]) b283 ∧ Nq (bl b283 ++ []) (b1 : Int) ∧ lpN (fun s => F_spec_l25Bits_l2 a0_0 i284 s.1 s.2) n (i625, i627) = some o700) n703 ⟨0, 0, ha.sub ⟨rfl, rfl, rfl, rfl, rfl, trivial⟩, hE288, (show InI 0 from by decide), (show InI 0 from by decide), hB276, z277, h279, z280, q286, q287, hn704⟩ ?_ ?_
        · rintro m708 a w619 ⟨i625, i627, ha, hE631, hI626, hI628, hB620, z621, h623, z624, q629, q630, hF⟩
          cases m708 with
          | zero => exact (lpN_zero hF).elim
          | succ m708 =>
            obtain ⟨z707, hF, hN706⟩ := lpN_succ hF
            have hF : F_spec_l25Bits_l2 a0_0 i284 i625 i627 = some z707 := hF; unfold F_spec_l25Bits_l2 at hF
            refine wp_seq ?_
            refine wp_seq ?_
            refine wp_region_lit ?_
            refine op_g ha rfl (g_move rfl) ?_; clear ha a; intro a ha
            refine op_g ha rfl (g_field0 st28_0 rfl) ?_; clear ha a; intro a ha
            refine op_g ha rfl (g_load Try.isAgg22 rfl (hB620.cell rfl)) ?_; clear ha a; intro a ha
            refine op_g ha rfl (g_move rfl) ?_; clear ha a; intro a ha
            obtain ⟨x709, g710, gx711, hF⟩ := idx_some hF
            obtain ⟨p712, cs713, f714, hf715, hpb716, hat717, hr718, hi719⟩ := ha0_0.at g710 gx711
            obtain ⟨v720, rfl, h721⟩ := hr718
            have h721 : Ro Rp.int W f714 v720 x709 := h721
            refine op_g ha rfl (hi719.gives sl22 rfl rfl) ?_; clear ha a; intro a ha
            refine op_g ha rfl (g_load0 hE631 Try.isAgg26 rfl hat717.one) ?_; clear ha a; intro a ha
            refine op_g ha rfl (g_lenR sl26.und h721 rfl) ?_; clear ha a; intro a ha
            refine op_g ha rfl (g_lss rfl rfl) ?_; clear ha a; intro a ha
            refine wpList_nil ?_
            replace ha := ha.sub (σ' := [(1, (.pointer (some ⟨b1, 0, none⟩))), (3, v282), (4, (.int .i64 i284)), (5, (.int .i64 i625)), (6, (.int .i64 i627)), (22, (.bool (decide (i627 < (x709.length : Int)))))]) ⟨rfl, rfl, rfl, rfl, rfl, rfl, trivial⟩
            refine e_then ?_
            refine c_cond (i627 < (x709.length : Int)) ha rfl (decide_eq_true_iff) (fun hp723 => ?_) (fun hp723 => ?_)
            · replace hF := if_t hp723 hF
              refine wp_skip ?_
              refine e_then ?_
              refine wp_seq ?_
              refine wp_block ?_
              refine wp_region_lit ?_
              refine op_g ha rfl (g_move rfl) ?_; clear ha a; intro a ha
              refine op_g ha rfl (g_field0 st28_0 rfl) ?_; clear ha a; intro a ha
              refine op_g ha rfl (g_load Try.isAgg22 rfl (hB620.cell rfl)) ?_; clear ha a; intro a ha
              refine op_g ha rfl (g_move rfl) ?_; clear ha a; intro a ha
              obtain ⟨x724, g725, gx726, hF⟩ := idx_some hF
              obtain ⟨p727, cs728, f729, hf730, hpb731, hat732, hr733, hi734⟩ := ha0_0.at g725 gx726
              obtain ⟨v735, rfl, h736⟩ := hr733
              have h736 : Ro Rp.int W f729 v735 x724 := h736
              refine op_g ha rfl (hi734.gives sl22 rfl rfl) ?_; clear ha a; intro a ha
              refine op_g ha rfl (g_load0 hE631 Try.isAgg26 rfl hat732.one) ?_; clear ha a; intro a ha
              refine op_g ha rfl (g_move rfl) ?_; clear ha a; intro a ha
              obtain ⟨x738, g739, gx740, hF⟩ := idx_some hF
              obtain ⟨p741, cs742, f743, hf744, hpb745, hat746, hr747, hi748⟩ := h736.at g739 gx740
              obtain ⟨rfl, hI749, rfl⟩ := hr747
              refine op_g ha rfl (hi748.gives sl26 rfl rfl) ?_; clear ha a; intro a ha
              refine op_g ha rfl (g_load0 hE631 Try.isAgg2 rfl hat746.one) ?_; clear ha a; intro a ha
              obtain ⟨h0750, hF⟩ := grd_some hF
              refine op_g ha rfl (g_conv6u un2 un49 rfl hI749 h0750) ?_; clear ha a; intro a ha
              obtain ⟨hI751, hF⟩ := ck_some hF
              refine op_g ha rfl (g64_shl rfl rfl (inU_of hI749 h0750).1 hI751) ?_; clear ha a; intro a ha
              refine op_g ha rfl (g64_or rfl rfl) ?_; clear ha a; intro a ha
              refine op_g ha rfl (g_assign rfl) ?_; clear ha a; intro a ha
              refine wpList_nil ?_
              replace ha := ha.sub (σ' := [(1, (.pointer (some ⟨b1, 0, none⟩))), (3, v282), (4, (.int .i64 i284)), (5, (.int .i64 (i64or i625 (1 * 2 ^ (x738 : Int).toNat)))), (6, (.int .i64 i627))]) ⟨rfl, rfl, rfl, rfl, rfl, trivial⟩
              refine e_blk ?_
              refine e_then ?_
              refine wp_region_lit ?_
              refine op_g ha rfl (g_move rfl) ?_; clear ha a; intro a ha
              obtain ⟨hI753, hF⟩ := ck_some hF
              refine op_g ha rfl (g_add rfl rfl hI753) ?_; clear ha a; intro a ha
              refine op_g ha rfl (g_assign rfl) ?_; clear ha a; intro a ha
              refine wpList_nil ?_
              replace ha := ha.sub (σ' := [(1, (.pointer (some ⟨b1, 0, none⟩))), (3, v282), (4, (.int .i64 i284)), (5, (.int .i64 (i64or i625 (1 * 2 ^ (x738 : Int).toNat)))), (6, (.int .i64 (i627 + 1)))]) ⟨rfl, rfl, rfl, rfl, rfl, trivial⟩
              refine e_lq ?_
              obtain rfl := Option.some.inj hF
              exact ⟨_, Nat.lt_succ_self _, i64or i625 (1 * 2 ^ (x738 : Int).toNat), i627 + 1, ha.sub ⟨rfl, rfl, rfl, rfl, rfl, trivial⟩, hE631, (in_i64or _ _), hI753, hB620, z621, h623, z624, q629, q630, hN706⟩
            · replace hF := if_f hp723 hF
              refine wp_exit ?_
              refine e_then_exit ?_
              refine e_lq_eq ?_
              obtain rfl := Option.some.inj hF
              exact ⟨i625, ha.sub ⟨rfl, rfl, rfl, rfl, trivial⟩, hE631, hI626, hB620, z621, h623, z624, q629, q630, (LK_inr hN706).symm⟩
        · rintro a w690 ⟨i696, ha, hE705, hI697, hB691, z692, h694, z695, q698, q699, rfl⟩
          have hF : F_spec_l25Bits_k3 l281 i284 i696 = some _ := hK702; clear hK702; unfold F_spec_l25Bits_k3 at hF
          refine e_then ?_
          refine wp_region_lit ?_
          refine op_g ha rfl (g_move rfl) ?_; clear ha a; intro a ha
          refine op_g ha rfl (g_move rfl) ?_; clear ha a; intro a ha
          refine o_lit1 (o := true) (y := i696) Rp.int ha rfl sl26 rfl rfl rfl ⟨rfl, hI697, rfl⟩ ?_; clear ha a; intro v755 w756 h757 hx758 a ha
          obtain ⟨b760, hb760⟩ : ∃ b : Int, b = w690.heap.size := ⟨_, rfl⟩; rw [← hb760] at h757
          have q761 := zn_of hb760
          have q762 := Nq.new hB691.fpb q761
          have q763 := Nq.madeO q761 hB691.bi
          have q764 := Nq.new h694.fpb q761
          have q765 := Nq.madeO q761 h694.blt
          have q766 := Zn.upD q761 hE705
          replace hB691 := hB691.ext hx758
          replace h694 := h694.ext hx758
          have hE767 := Ext.trans hE705 hx758
          obtain ⟨hl768, hF⟩ := app_some hF
          refine o_append ha rfl sl26 rfl rfl rfl h694 h757.src (Nq.nil _) hl768 ?_; clear ha a; intro v769 w770 b771 h772 hc773 hb774 a ha
          replace h772 : Ow Rp.int 2 true w770 [] b771 v769 _ := h772
          have q776 := Nq.appY q698 hB691.fpb hb774
          have q777 := Nq.appX q699 (Nq.nil _) hb774 hB691.bi
          have q778 := Nq.appY q765 h757.fpb hb774
          have q779 := Nq.appX q764 (Nq.nil _) hb774 h757.blt
          have q780 := Zn.appD z695 hb774 hE767
          replace hB691 := hB691.nq hc773 q698
          replace h757 := h757.nq hc773 q765
          have hE781 := Ext.then hE767 hc773 (Zn.bl z695)
          refine op_g ha rfl (g_assign rfl) ?_; clear ha a; intro a ha
          refine wpList_nil ?_
          replace ha := ha.sub (σ' := [(1, (.pointer (some ⟨b1, 0, none⟩))), (3, v769), (4, (.int .i64 i284))]) ⟨rfl, rfl, rfl, trivial⟩
          refine e_blk ?_
          refine e_then ?_
          refine wp_region_lit ?_
          refine op_g ha rfl (g_move rfl) ?_; clear ha a; intro a ha
          obtain ⟨hI782, hF⟩ := ck_some hF
          refine op_g ha rfl (g_add rfl rfl hI782) ?_; clear ha a; intro a ha
          refine op_g ha rfl (g_assign rfl) ?_; clear ha a; intro a ha
          refine wpList_nil ?_
          replace ha := ha.sub (σ' := [(1, (.pointer (some ⟨b1, 0, none⟩))), (3, v769), (4, (.int .i64 (i284 + 1)))]) ⟨rfl, rfl, rfl, trivial⟩
          refine e_lq ?_
          obtain rfl := Option.some.inj hF
          exact ⟨_, Nat.lt_succ_self _, (l281 ++ ([i696])), i284 + 1, v769, b771, ha.sub ⟨rfl, rfl, rfl, trivial⟩, hE781, hI782, hB691, z692, h772, q780, q776, q777, hN548⟩
      · replace hF := if_f hp551 hF
        refine wp_exit ?_
        refine e_then_exit ?_
        refine e_lq_eq ?_
        obtain rfl := Option.some.inj hF
        exact ⟨l281, v282, b283, ha.sub ⟨rfl, trivial⟩, hE288, h279, z280, (LK_inr hN548).symm⟩
  · rintro a w535 ⟨l539, v540, b541, ha, hE547, h537, z538, rfl⟩
    have hF : F_spec_l25Bits_k4 l539 = some _ := hK544; clear hK544; unfold F_spec_l25Bits_k4 at hF
    refine e_then ?_
    refine wp_seq ?_
    refine wp_region_lit ?_
    refine op_g ha rfl (g_move rfl) ?_; clear ha a; intro a ha
    refine op_g ha rfl (g_assign rfl) ?_; clear ha a; intro a ha
    refine wpList_nil ?_
    replace ha := ha.sub (σ' := [(2, v540)]) ⟨rfl, trivial⟩
    refine e_then ?_
    refine wp_ret ?_
    obtain rfl := Option.some.inj hF
    exact f_ret1 ha rfl rfl ⟨_, h537, z538, hE547⟩
set_option maxHeartbeats 2000000 in
theorem W_spec_l1Copy {W : World} {va0 : Value} {fa0 : List Nat} {a0 : (List Int)} (ha0 : Ro Rp.int W fa0 va0 a0) {r : (List Int)} (hF : F_spec_l1Copy a0 = some r) :
    Calls Try.prog 31 [va0].toArray W (Ret fun u w' => ∃ (b_u : Int), Ow Rp.int 2 true w' [] b_u u r ∧ Zn W b_u ∧ Ext W w') := by
  refine f_enter Try.func31 rfl Try.ntmps31 rfl ?_
  intro a ha
  replace ha : Fr 6 [(0, va0)] a := ha
  have hE : Chg [] W W := Chg.refl _ _
  unfold F_spec_l1Copy at hF
  refine wp_seq ?_
  refine wp_region_lit ?_
  refine op_g ha rfl (g_assign rfl) ?_; clear ha a; intro a ha
  refine wpList_nil ?_
  replace ha := ha.sub (σ' := [(0, va0)]) ⟨rfl, trivial⟩
  refine e_then ?_
  refine wp_seq ?_
  refine wp_region_lit ?_
  refine o_lit0 Rp.int ha rfl sl26 ?_; clear ha a; intro v1 w2 h3 hx4 a ha
  obtain ⟨b6, hb6⟩ : ∃ b : Int, b = W.heap.size := ⟨_, rfl⟩; rw [← hb6] at h3
  have q7 := zn_of hb6
  have q8 := Zn.upD q7 hE
  have hE9 := Ext.trans hE hx4
  refine op_g ha rfl (g_move rfl) ?_; clear ha a; intro a ha
  obtain ⟨hl10, hF⟩ := app_some hF
  obtain ⟨_, hs11, _⟩ := (ha0.ext hE9).src
  refine o_append ha rfl sl26 rfl rfl rfl h3 (hs11.up scal_int) (Nq.nil _) hl10 ?_; clear ha a; intro v12 w13 b14 h15 hc16 hb17 a ha
  replace h15 : Ow Rp.int 2 true w13 [] b14 v12 _ := h15
  have q19 := Zn.appD q8 hb17 hE9
  have hE20 := Ext.then hE9 hc16 (Zn.bl q8)
  refine op_g ha rfl (g_assign rfl) ?_; clear ha a; intro a ha
  refine wpList_nil ?_
  replace ha := ha.sub (σ' := [(2, v12)]) ⟨rfl, trivial⟩
  refine e_then ?_
  refine wp_ret ?_
  obtain rfl := Option.some.inj hF
  exact f_ret1 ha rfl rfl ⟨_, h15, q19, hE20⟩
set_option maxHeartbeats 2000000 in
theorem W_spec_l26Ways_step {rc : (List Int) → Int → (List Int) → (List Int) → Option (List Int)} (ih : ∀ {W : World} {va0 : Value} {fa0 : List Nat} {a0 : (List Int)} (ha0 : Ro Rp.int W fa0 va0 a0) {a1 : Int} (ha1 : InI a1) {va2 : Value} {fa2 : List Nat} {a2 : (List Int)} (ha2 : Ro Rp.int W fa2 va2 a2) {va3 : Value} {ba3 : Int} {a3 : (List Int)} (ha3 : Ow Rp.int 2 true W [] ba3 va3 a3) (qa0 : Nq fa0 ba3) (qa2 : Nq fa2 ba3) {r : (List Int)} (hF : rc a0 a1 a2 a3 = some r),
    Calls Try.prog 18 [va0, .int .i64 a1, va2, va3].toArray W (Ret fun u w' => va3 = u ∧ Ow Rp.int 2 true w' [] ba3 va3 r ∧ Chg (bl ba3) W w')) {W : World} {va0 : Value} {fa0 : List Nat} {a0 : (List Int)} (ha0 : Ro Rp.int W fa0 va0 a0) {a1 : Int} (ha1 : InI a1) {va2 : Value} {fa2 : List Nat} {a2 : (List Int)} (ha2 : Ro Rp.int W fa2 va2 a2) {va3 : Value} {ba3 : Int} {a3 : (List Int)} (ha3 : Ow Rp.int 2 true W [] ba3 va3 a3) (qa0 : Nq fa0 ba3) (qa2 : Nq fa2 ba3) {r : (List Int)} (hF : F_spec_l26Ways_body rc a0 a1 a2 a3 = some r) :
    Calls Try.prog 18 [va0, .int .i64 a1, va2, va3].toArray W (Ret fun u w' => va3 = u ∧ Ow Rp.int 2 true w' [] ba3 va3 r ∧ Chg (bl ba3) W w') := by
  refine f_enter Try.func18 rfl Try.ntmps18 rfl ?_
  intro a ha
  replace ha : Fr 70 [(0, va0), (1, (.int .i64 a1)), (2, va2), (3, va3)] a := ha
  have hE : Chg (bl ba3) W W := Chg.refl _ _
  unfold F_spec_l26Ways_body at hF
  refine wp_seq ?_
  refine wp_region_lit ?_
  refine op_g ha rfl (g_assign rfl) ?_; clear ha a; intro a ha
  refine wpList_nil ?_
  replace ha := ha.sub (σ' := [(0, va0), (1, (.int .i64 a1)), (2, va2), (3, va3)]) ⟨rfl, rfl, rfl, rfl, trivial⟩
  refine e_then ?_
  refine wp_seq ?_
  refine wp_seq ?_
  refine wp_region_lit ?_
  refine op_g ha rfl (g_move rfl) ?_; clear ha a; intro a ha
  refine op_g ha rfl (g_move rfl) ?_; clear ha a; intro a ha
  refine op_g ha rfl (g_lenR sl26.und ha0 rfl) ?_; clear ha a; intro a ha
  refine op_g ha rfl (g_eql rfl rfl) ?_; clear ha a; intro a ha
  refine wpList_nil ?_
  replace ha := ha.sub (σ' := [(0, va0), (1, (.int .i64 a1)), (2, va2), (3, va3), (14, (.bool (decide (a1 = (a0.length : Int)))))]) ⟨rfl, rfl, rfl, rfl, rfl, trivial⟩
  refine e_then ?_
  refine c_cond (a1 = (a0.length : Int)) ha rfl (decide_eq_true_iff) (fun hp1 => ?_) (fun hp1 => ?_)
  · replace hF := if_t hp1 hF
    refine wp_seq ?_
    refine wp_region_lit ?_
    refine op_g ha rfl (g_move rfl) ?_; clear ha a; intro a ha
    refine op_g ha rfl (g_move rfl) ?_; clear ha a; intro a ha
    refine op_g ha rfl (g_lenR sl26.und ha2 rfl) ?_; clear ha a; intro a ha
    obtain ⟨x2, g3, gx4, hF⟩ := idx_some hF
    obtain ⟨p5, cs6, f7, hf8, hpb9, hat10, hr11, hi12⟩ := ha3.at g3 gx4
    obtain ⟨rfl, hI13, rfl⟩ := hr11
    refine op_g ha rfl (hi12.gives sl26 rfl rfl) ?_; clear ha a; intro a ha
    refine op_g ha rfl (g_load Try.isAgg2 rfl hat10.one) ?_; clear ha a; intro a ha
    obtain ⟨hI14, hF⟩ := ck_some hF
    refine op_g ha rfl (g_add rfl rfl hI14) ?_; clear ha a; intro a ha
    obtain ⟨x16, g17, gx18, hF⟩ := idx_some hF
    obtain ⟨p19, cs20, f21, hf22, hpb23, hat24, hr25, hi26⟩ := ha3.at g17 gx18
    obtain ⟨rfl, hI27, rfl⟩ := hr25
    refine op_g ha rfl (hi26.gives sl26 rfl rfl) ?_; clear ha a; intro a ha
    refine o_storeE (f := []) (q := x2 + 1) ha Try.sizeOf2 rfl rfl rfl ha3 hi26 ⟨rfl, hI14, rfl⟩ (Nq.nil _) ?_; intro w28 fs29 h30 hc31 hs32
    obtain rfl := Subst.nil hs32
    replace ha0 := ha0.nq hc31 qa0
    replace ha2 := ha2.nq hc31 qa2
    have hE33 := Chg.same hE hc31
    refine wpList_nil ?_
    replace ha := ha.sub (σ' := [(3, va3)]) ⟨rfl, trivial⟩
    refine e_then ?_
    refine wp_seq ?_
    refine wp_region_lit ?_
    refine op_g ha rfl (g_move rfl) ?_; clear ha a; intro a ha
    refine op_g ha rfl (g_assign rfl) ?_; clear ha a; intro a ha
    refine wpList_nil ?_
    replace ha := ha.sub (σ' := [(8, va3)]) ⟨rfl, trivial⟩
    refine e_then ?_
    refine wp_ret ?_
    refine e_then_ret ?_
    obtain rfl := Option.some.inj hF
    exact f_ret1 ha rfl rfl ⟨rfl, h30, hE33⟩
  · replace hF := if_f hp1 hF
    refine wp_skip ?_
    refine e_then ?_
    refine wp_seq ?_
    refine wp_seq ?_
    refine wp_region_lit ?_
    refine op_g ha rfl (g_assign rfl) ?_; clear ha a; intro a ha
    refine wpList_nil ?_
    replace ha := ha.sub (σ' := [(0, va0), (1, (.int .i64 a1)), (2, va2), (3, va3), (9, (.int .i64 0))]) ⟨rfl, rfl, rfl, rfl, rfl, trivial⟩
    refine e_then ?_
    obtain ⟨o280, ho281, hK282⟩ := bnd_some hF
    obtain ⟨n283, hn284⟩ := lp_some ho281; clear ho281
    refine c_loop (fun a w => ∃ (l275 : (List Int)), Fr 70 [(0, va0), (1, (.int .i64 a1)), (2, va2), (3, va3)] a ∧ Chg (bl ba3) W w ∧ Ro Rp.int w fa0 va0 a0 ∧ Ro Rp.int w fa2 va2 a2 ∧ Ow Rp.int 2 true w [] ba3 va3 l275 ∧ Nq (fa0) ba3 ∧ Nq (fa2) ba3 ∧ o280 = .inl l275) (fun n a w => ∃ (l155 : (List Int)) (i158 : Int), Fr 70 [(0, va0), (1, (.int .i64 a1)), (2, va2), (3, va3), (9, (.int .i64 i158))] a ∧ Chg (bl ba3) W w ∧ InI i158 ∧ Ro Rp.int w fa0 va0 a0 ∧ Ro Rp.int w fa2 va2 a2 ∧ Ow Rp.int 2 true w [] ba3 va3 l155 ∧ Nq (fa0) ba3 ∧ Nq (fa2) ba3 ∧ lpN (fun s => F_spec_l26Ways_l1 a0 a1 a2 rc s.1 s.2) n (l155, i158) = some o280) n283 ⟨a3, 0, ha.sub ⟨rfl, rfl, rfl, rfl, rfl, trivial⟩, hE, (show InI 0 from by decide), ha0, ha2, ha3, qa0, qa2, hn284⟩ ?_ ?_
    · rintro m288 a w149 ⟨l155, i158, ha, hE162, hI159, h151, h153, h154, q160, q161, hF⟩
      cases m288 with
      | zero => exact (lpN_zero hF).elim
      | succ m288 =>
        obtain ⟨z287, hF, hN286⟩ := lpN_succ hF
        have hF : F_spec_l26Ways_l1 a0 a1 a2 rc l155 i158 = some z287 := hF; unfold F_spec_l26Ways_l1 at hF
        refine wp_seq ?_
        refine wp_seq ?_
        refine wp_region_lit ?_
        refine op_g ha rfl (g_move rfl) ?_; clear ha a; intro a ha
        refine op_g ha rfl (g_move rfl) ?_; clear ha a; intro a ha
        refine op_g ha rfl (g_lenR sl26.und h153 rfl) ?_; clear ha a; intro a ha
        refine op_g ha rfl (g_lss rfl rfl) ?_; clear ha a; intro a ha
        refine wpList_nil ?_
        replace ha := ha.sub (σ' := [(0, va0), (1, (.int .i64 a1)), (2, va2), (3, va3), (9, (.int .i64 i158)), (26, (.bool (decide (i158 < (a2.length : Int)))))]) ⟨rfl, rfl, rfl, rfl, rfl, rfl, trivial⟩
        refine e_then ?_
        refine c_cond (i158 < (a2.length : Int)) ha rfl (decide_eq_true_iff) (fun hp289 => ?_) (fun hp289 => ?_)
        · replace hF := if_t hp289 hF
          refine wp_skip ?_
          refine e_then ?_
          refine wp_seq ?_
          refine wp_block ?_
          refine wp_seq ?_
          refine d_quiet hmix (by kernel_rfl) ?_
          refine q_g ha rfl (g_move rfl) ?_; clear ha a; intro a ha
          refine q_g ha rfl (g_move rfl) ?_; clear ha a; intro a ha
          obtain ⟨x290, g291, gx292, hF⟩ := idx_some hF
          obtain ⟨p293, cs294, f295, hf296, hpb297, hat298, hr299, hi300⟩ := h153.at g291 gx292
          obtain ⟨rfl, hI301, rfl⟩ := hr299
          refine q_g ha rfl (hi300.gives sl26 rfl rfl) ?_; clear ha a; intro a ha
          refine q_g ha rfl (g_load Try.isAgg2 rfl hat298.one) ?_; clear ha a; intro a ha
          refine q_g ha rfl (g_move rfl) ?_; clear ha a; intro a ha
          refine q_g ha rfl (g_move rfl) ?_; clear ha a; intro a ha
          obtain ⟨x302, g303, gx304, hF⟩ := idx_some hF
          obtain ⟨p305, cs306, f307, hf308, hpb309, hat310, hr311, hi312⟩ := h151.at g303 gx304
          obtain ⟨rfl, hI313, rfl⟩ := hr311
          refine q_g ha rfl (hi312.gives sl26 rfl rfl) ?_; clear ha a; intro a ha
          refine q_g ha rfl (g_load Try.isAgg2 rfl hat310.one) ?_; clear ha a; intro a ha
          refine q_g ha rfl (g64_and rfl rfl) ?_; clear ha a; intro a ha
          refine q_g ha rfl (g_eql rfl rfl) ?_; clear ha a; intro a ha
          refine q_nil ?_; intro w314 hx315
          replace h151 := h151.ext hx315
          replace h153 := h153.ext hx315
          replace h154 := h154.ext hx315
          have hE316 := Chg.more hE162 hx315
          replace ha := ha.sub (σ' := [(0, va0), (1, (.int .i64 a1)), (2, va2), (3, va3), (9, (.int .i64 i158)), (38, (.bool (decide ((i64and x290 x302) = 0))))]) ⟨rfl, rfl, rfl, rfl, rfl, rfl, trivial⟩
          refine e_then ?_
          refine c_cond ((i64and x290 x302) = 0) ha rfl (decide_eq_true_iff) (fun hp317 => ?_) (fun hp317 => ?_)
          · replace hF := if_t hp317 hF
            refine wp_seq ?_
            refine wp_region_lit ?_
            refine op_g ha rfl (g_move rfl) ?_; clear ha a; intro a ha
            obtain ⟨x318, hc319, hF⟩ := cal_some hF
            refine o_call ha rfl rfl Try.call31 (W_spec_l1Copy h153 hc319) ?_; clear ha a; rintro v320 w321 ⟨b323, h324, z325, hx322⟩ a ha
            have q327 := Nq.new h151.bnd z325
            have q328 := Nq.new h153.bnd z325
            have q329 := Nq.new h154.fpb z325
            have q330 := Nq.madeO z325 h154.blt
            replace h151 := h151.ext hx322
            replace h153 := h153.ext hx322
            replace h154 := h154.ext hx322
            have hE331 := Chg.more hE316 hx322
            have q332 := Zn.upD z325 hE316
            refine op_g ha rfl (g_assign rfl) ?_; clear ha a; intro a ha
            refine wpList_nil ?_
            replace ha := ha.sub (σ' := [(0, va0), (1, (.int .i64 a1)), (2, va2), (3, va3), (9, (.int .i64 i158)), (10, v320)]) ⟨rfl, rfl, rfl, rfl, rfl, rfl, trivial⟩
            refine e_then ?_
            refine wp_seq ?_
            refine wp_region_lit ?_
            refine op_g ha rfl (g_move rfl) ?_; clear ha a; intro a ha
            refine op_g ha rfl (g_move rfl) ?_; clear ha a; intro a ha
            refine op_g ha rfl (g_move rfl) ?_; clear ha a; intro a ha
            refine op_g ha rfl (g_move rfl) ?_; clear ha a; intro a ha
            obtain ⟨x333, g334, gx335, hF⟩ := idx_some hF
            obtain ⟨p336, cs337, f338, hf339, hpb340, hat341, hr342, hi343⟩ := h324.at g334 gx335
            obtain ⟨rfl, hI344, rfl⟩ := hr342
            refine op_g ha rfl (hi343.gives sl26 rfl rfl) ?_; clear ha a; intro a ha
            refine op_g ha rfl (g_load Try.isAgg2 rfl hat341.one) ?_; clear ha a; intro a ha
            refine op_g ha rfl (g_move rfl) ?_; clear ha a; intro a ha
            obtain ⟨h0345, hF⟩ := grd_some hF
            refine op_g ha rfl (g_conv6u un3 un49 rfl ha1 h0345) ?_; clear ha a; intro a ha
            obtain ⟨hI346, hF⟩ := ck_some hF
            refine op_g ha rfl (g64_shl rfl rfl (inU_of ha1 h0345).1 hI346) ?_; clear ha a; intro a ha
            refine op_g ha rfl (g64_or rfl rfl) ?_; clear ha a; intro a ha
            obtain ⟨x348, g349, gx350, hF⟩ := idx_some hF
            obtain ⟨p351, cs352, f353, hf354, hpb355, hat356, hr357, hi358⟩ := h324.at g349 gx350
            obtain ⟨rfl, hI359, rfl⟩ := hr357
            refine op_g ha rfl (hi358.gives sl26 rfl rfl) ?_; clear ha a; intro a ha
            refine o_storeE (f := []) (q := i64or x333 (1 * 2 ^ (a1 : Int).toNat)) ha Try.sizeOf2 rfl rfl rfl h324 hi358 ⟨rfl, (in_i64or _ _), rfl⟩ (Nq.nil _) ?_; intro w360 fs361 h362 hc363 hs364
            obtain rfl := Subst.nil hs364
            replace h151 := h151.nq hc363 q327
            replace h153 := h153.nq hc363 q328
            replace h154 := h154.nq hc363 q329
            have hE365 := Chg.own hE331 hc363 (Zn.bl q332)
            refine wpList_nil ?_
            replace ha := ha.sub (σ' := [(0, va0), (1, (.int .i64 a1)), (2, va2), (3, va3), (9, (.int .i64 i158)), (10, v320)]) ⟨rfl, rfl, rfl, rfl, rfl, rfl, trivial⟩
            refine e_then ?_
            refine wp_region_lit ?_
            refine op_g ha rfl (g_move rfl) ?_; clear ha a; intro a ha
            refine op_g ha rfl (g_move rfl) ?_; clear ha a; intro a ha
            obtain ⟨hI366, hF⟩ := ck_some hF
            refine op_g ha rfl (g_add rfl rfl hI366) ?_; clear ha a; intro a ha
            refine op_g ha rfl (g_move rfl) ?_; clear ha a; intro a ha
            refine op_g ha rfl (g_move rfl) ?_; clear ha a; intro a ha
            obtain ⟨fp368, hro369, hs370⟩ := h362.roF
            obtain ⟨x371, hc372, hF⟩ := cal_some hF
            refine o_call ha rfl rfl Try.call18 (ih h151 hI366 hro369 h154 q160 (Nq.mono q330 hs370) hc372) ?_; clear ha a; rintro v373 w374 ⟨rfl, h376, hx375⟩ a ha
            replace h151 := h151.nq hx375 q160
            replace h153 := h153.nq hx375 q161
            replace h362 := h362.nq hx375 q330
            have hE377 := Chg.same hE365 hx375
            refine op_g ha rfl (g_assign rfl) ?_; clear ha a; intro a ha
            refine wpList_nil ?_
            replace ha := ha.sub (σ' := [(0, va0), (1, (.int .i64 a1)), (2, va2), (3, va3), (9, (.int .i64 i158))]) ⟨rfl, rfl, rfl, rfl, rfl, trivial⟩
            refine e_blk ?_
            refine e_then ?_
            refine wp_region_lit ?_
            refine op_g ha rfl (g_move rfl) ?_; clear ha a; intro a ha
            obtain ⟨hI378, hF⟩ := ck_some hF
            refine op_g ha rfl (g_add rfl rfl hI378) ?_; clear ha a; intro a ha
            refine op_g ha rfl (g_assign rfl) ?_; clear ha a; intro a ha
            refine wpList_nil ?_
            replace ha := ha.sub (σ' := [(0, va0), (1, (.int .i64 a1)), (2, va2), (3, va3), (9, (.int .i64 (i158 + 1)))]) ⟨rfl, rfl, rfl, rfl, rfl, trivial⟩
            refine e_lq ?_
            obtain rfl := Option.some.inj hF
            exact ⟨_, Nat.lt_succ_self _, x371, i158 + 1, ha.sub ⟨rfl, rfl, rfl, rfl, rfl, trivial⟩, hE377, hI378, h151, h153, h376, q160, q161, hN286⟩
          · replace hF := if_f hp317 hF
            refine wp_skip ?_
            refine e_blk ?_
            refine e_then ?_
            refine wp_region_lit ?_
            refine op_g ha rfl (g_move rfl) ?_; clear ha a; intro a ha
            obtain ⟨hI380, hF⟩ := ck_some hF
            refine op_g ha rfl (g_add rfl rfl hI380) ?_; clear ha a; intro a ha
            refine op_g ha rfl (g_assign rfl) ?_; clear ha a; intro a ha
            refine wpList_nil ?_
            replace ha := ha.sub (σ' := [(0, va0), (1, (.int .i64 a1)), (2, va2), (3, va3), (9, (.int .i64 (i158 + 1)))]) ⟨rfl, rfl, rfl, rfl, rfl, trivial⟩
            refine e_lq ?_
            obtain rfl := Option.some.inj hF
            exact ⟨_, Nat.lt_succ_self _, l155, i158 + 1, ha.sub ⟨rfl, rfl, rfl, rfl, rfl, trivial⟩, hE316, hI380, h151, h153, h154, q160, q161, hN286⟩
        · replace hF := if_f hp289 hF
          refine wp_exit ?_
          refine e_then_exit ?_
          refine e_lq_eq ?_
          obtain rfl := Option.some.inj hF
          exact ⟨l155, ha.sub ⟨rfl, rfl, rfl, rfl, trivial⟩, hE162, h151, h153, h154, q160, q161, (LK_inr hN286).symm⟩
    · rintro a w269 ⟨l275, ha, hE285, h271, h273, h274, q278, q279, rfl⟩
      have hF : F_spec_l26Ways_k2 a0 a1 a2 rc l275 = some _ := hK282; clear hK282; unfold F_spec_l26Ways_k2 at hF
      refine e_then ?_
      refine wp_seq ?_
      refine wp_region_lit ?_
      refine op_g ha rfl (g_move rfl) ?_; clear ha a; intro a ha
      refine op_g ha rfl (g_move rfl) ?_; clear ha a; intro a ha
      obtain ⟨hI382, hF⟩ := ck_some hF
      refine op_g ha rfl (g_add rfl rfl hI382) ?_; clear ha a; intro a ha
      refine op_g ha rfl (g_move rfl) ?_; clear ha a; intro a ha
      obtain ⟨x384, hc385, hF⟩ := cal_some hF
      refine o_call ha rfl rfl Try.call31 (W_spec_l1Copy h273 hc385) ?_; clear ha a; rintro v386 w387 ⟨b389, h390, z391, hx388⟩ a ha
      have q393 := Nq.new h271.bnd z391
      have q394 := Nq.new h273.bnd z391
      have q395 := Nq.new h274.fpb z391
      have q396 := Nq.madeO z391 h274.blt
      replace h271 := h271.ext hx388
      replace h273 := h273.ext hx388
      replace h274 := h274.ext hx388
      have hE397 := Chg.more hE285 hx388
      have q398 := Zn.upD z391 hE285
      refine op_g ha rfl (g_move rfl) ?_; clear ha a; intro a ha
      obtain ⟨h0399, hF⟩ := grd_some hF
      refine op_g ha rfl (g_conv6u un3 un49 rfl ha1 h0399) ?_; clear ha a; intro a ha
      obtain ⟨hI400, hF⟩ := ck_some hF
      refine op_g ha rfl (g64_shl rfl rfl (inU_of ha1 h0399).1 hI400) ?_; clear ha a; intro a ha
      refine o_lit1 (o := true) (y := 1 * 2 ^ (a1 : Int).toNat) Rp.int ha rfl sl26 rfl rfl rfl ⟨rfl, hI400, rfl⟩ ?_; clear ha a; intro v402 w403 h404 hx405 a ha
      obtain ⟨b407, hb407⟩ : ∃ b : Int, b = w387.heap.size := ⟨_, rfl⟩; rw [← hb407] at h404
      have q408 := zn_of hb407
      have q409 := Nq.new h271.bnd q408
      have q410 := Nq.new h273.bnd q408
      have q411 := Nq.new h274.fpb q408
      have q412 := Nq.madeO q408 h274.blt
      have q413 := Nq.new h390.fpb q408
      have q414 := Nq.madeO q408 h390.blt
      have q415 := Zn.upD q408 hE397
      replace h271 := h271.ext hx405
      replace h273 := h273.ext hx405
      replace h274 := h274.ext hx405
      replace h390 := h390.ext hx405
      have hE416 := Chg.more hE397 hx405
      obtain ⟨hl417, hF⟩ := app_some hF
      refine o_append ha rfl sl26 rfl rfl rfl h390 h404.src (Nq.nil _) hl417 ?_; clear ha a; intro v418 w419 b420 h421 hc422 hb423 a ha
      replace h421 : Ow Rp.int 2 true w419 [] b420 v418 _ := h421
      have q425 := Nq.appY q393 h271.bnd hb423
      have q426 := Nq.appY q394 h273.bnd hb423
      have q427 := Nq.appY q395 h274.fpb hb423
      have q428 := Nq.appX q396 (Nq.nil _) hb423 h274.blt
      have q429 := Nq.appY q414 h404.fpb hb423
      have q430 := Nq.appX q413 (Nq.nil _) hb423 h404.blt
      have q431 := Zn.appD q398 hb423 hE416
      replace h271 := h271.nq hc422 q393
      replace h273 := h273.nq hc422 q394
      replace h274 := h274.nq hc422 q395
      replace h404 := h404.nq hc422 q414
      have hE432 := Chg.own hE416 hc422 (Zn.bl q398)
      refine op_g ha rfl (g_move rfl) ?_; clear ha a; intro a ha
      obtain ⟨fp433, hro434, hs435⟩ := h421.roF
      obtain ⟨x436, hc437, hF⟩ := cal_some hF
      refine o_call ha rfl rfl Try.call18 (ih h271 hI382 hro434 h274 q278 (Nq.mono q428 hs435) hc437) ?_; clear ha a; rintro v438 w439 ⟨rfl, h441, hx440⟩ a ha
      replace h271 := h271.nq hx440 q278
      replace h273 := h273.nq hx440 q279
      replace h404 := h404.nq hx440 q412
      replace h421 := h421.nq hx440 q428
      have hE442 := Chg.same hE432 hx440
      refine op_g ha rfl (g_assign rfl) ?_; clear ha a; intro a ha
      refine wpList_nil ?_
      replace ha := ha.sub (σ' := [(8, va3)]) ⟨rfl, trivial⟩
      refine e_then ?_
      refine wp_ret ?_
      obtain rfl := Option.some.inj hF
      exact f_ret1 ha rfl rfl ⟨rfl, h441, hE442⟩
theorem W_spec_l26Ways_n (n : Nat) : ∀ {W : World} {va0 : Value} {fa0 : List Nat} {a0 : (List Int)} (ha0 : Ro Rp.int W fa0 va0 a0) {a1 : Int} (ha1 : InI a1) {va2 : Value} {fa2 : List Nat} {a2 : (List Int)} (ha2 : Ro Rp.int W fa2 va2 a2) {va3 : Value} {ba3 : Int} {a3 : (List Int)} (ha3 : Ow Rp.int 2 true W [] ba3 va3 a3) (qa0 : Nq fa0 ba3) (qa2 : Nq fa2 ba3) {r : (List Int)} (hF : itN (fun (rc : ((List Int) × Int × (List Int) × (List Int)) → Option (List Int)) a => F_spec_l26Ways_body (fun z0 z1 z2 z3 => rc (z0, z1, z2, z3)) a.1 a.2.1 a.2.2.1 a.2.2.2) n (a0, a1, a2, a3) = some r),
    Calls Try.prog 18 [va0, .int .i64 a1, va2, va3].toArray W (Ret fun u w' => va3 = u ∧ Ow Rp.int 2 true w' [] ba3 va3 r ∧ Chg (bl ba3) W w') := by
  induction n with
  | zero => intro W va0 fa0 a0 ha0 a1 ha1 va2 fa2 a2 ha2 va3 ba3 a3 ha3 qa0 qa2 r hF; cases hF
  | succ n ih => intro W va0 fa0 a0 ha0 a1 ha1 va2 fa2 a2 ha2 va3 ba3 a3 ha3 qa0 qa2 r hF; exact W_spec_l26Ways_step (rc := fun z0 z1 z2 z3 => itN (fun (rc : ((List Int) × Int × (List Int) × (List Int)) → Option (List Int)) a => F_spec_l26Ways_body (fun z0 z1 z2 z3 => rc (z0, z1, z2, z3)) a.1 a.2.1 a.2.2.1 a.2.2.2) n (z0, z1, z2, z3)) @ih ha0 ha1 ha2 ha3 qa0 qa2 hF
theorem W_spec_l26Ways {W : World} {va0 : Value} {fa0 : List Nat} {a0 : (List Int)} (ha0 : Ro Rp.int W fa0 va0 a0) {a1 : Int} (ha1 : InI a1) {va2 : Value} {fa2 : List Nat} {a2 : (List Int)} (ha2 : Ro Rp.int W fa2 va2 a2) {va3 : Value} {ba3 : Int} {a3 : (List Int)} (ha3 : Ow Rp.int 2 true W [] ba3 va3 a3) (qa0 : Nq fa0 ba3) (qa2 : Nq fa2 ba3) {r : (List Int)} (hF : F_spec_l26Ways a0 a1 a2 a3 = some r) :
    Calls Try.prog 18 [va0, .int .i64 a1, va2, va3].toArray W (Ret fun u w' => va3 = u ∧ Ow Rp.int 2 true w' [] ba3 va3 r ∧ Chg (bl ba3) W w') := by
  obtain ⟨n, hn⟩ := fixO_some hF
  exact W_spec_l26Ways_n n ha0 ha1 ha2 ha3 qa0 qa2 hn
set_option maxHeartbeats 2000000 in
theorem W_spec_PartitionsBy {W : World} {va0_0 : Value} {fa0_0 : List Nat} {a0_0 : (List (List Int))} (ha0_0 : Ro (Rp.sl 2 Rp.int) W fa0_0 va0_0 a0_0) {r : (List Int)} (hF : F_spec_PartitionsBy a0_0 = some r) :
    Calls Try.prog 6 [.agg #[va0_0]].toArray W (Ret fun u w' => ∃ (b_u : Int), Ow Rp.int 2 true w' [] b_u u r ∧ Zn W b_u ∧ Ext W w') := by
  refine f_enter Try.func6 rfl Try.ntmps6 rfl ?_
  intro a ha
  replace ha : Fr 16 [(0, (.agg #[va0_0]))] a := ha
  have hE : Chg [] W W := Chg.refl _ _
  unfold F_spec_PartitionsBy at hF
  refine wp_seq ?_
  refine wp_region_lit ?_
  refine o_box ha rfl rfl rfl ?_; clear ha a; intro b1 w2 hB3 hx4 hlo5 a ha
  have q6 := Zn.one hlo5
  have q7 := Zn.upD q6 hE
  have hE8 := Ext.trans hE hx4
  refine op_g ha rfl (g_assign rfl) ?_; clear ha a; intro a ha
  refine wpList_nil ?_
  replace ha := ha.sub (σ' := [(1, (.pointer (some ⟨b1, 0, none⟩)))]) ⟨rfl, trivial⟩
  refine e_then ?_
  refine wp_seq ?_
  refine wp_seq ?_
  refine wp_region_lit ?_
  refine op_g ha rfl (g_loadA (cs := [va0_0]) Try.isAgg28 Try.sizeOf28 rfl (by simp) hB3.all) ?_; clear ha a; intro a ha
  obtain ⟨x9, hc10, hF⟩ := cal_some hF
  refine o_call ha rfl rfl Try.call17 (W_spec_l26Small (ha0_0.ext hE8) hc10) ?_; clear ha a; rintro v11 w12 ⟨rfl, hx13⟩ a ha
  replace hB3 := hB3.ext hx13
  have hE14 := Ext.trans hE8 hx13
  refine op_g ha rfl (g_not rfl) ?_; clear ha a; intro a ha
  refine wpList_nil ?_
  replace ha := ha.sub (σ' := [(1, (.pointer (some ⟨b1, 0, none⟩))), (5, (.bool (!x9)))]) ⟨rfl, rfl, trivial⟩
  refine e_then ?_
  refine c_cond (¬ (x9 = true)) ha rfl (n_iff (Iff.rfl)) (fun hp15 => ?_) (fun hp15 => ?_)
  · replace hF := if_t hp15 hF
    refine wp_seq ?_
    refine wp_region_lit ?_
    refine o_lit0 Rp.int ha rfl sl26 ?_; clear ha a; intro v16 w17 h18 hx19 a ha
    obtain ⟨b21, hb21⟩ : ∃ b : Int, b = w12.heap.size := ⟨_, rfl⟩; rw [← hb21] at h18
    have q22 := zn_of hb21
    have q23 := Nq.new hB3.fpb q22
    have q24 := Nq.madeO q22 hB3.bi
    have q25 := Zn.upD q22 hE14
    replace hB3 := hB3.ext hx19
    have hE26 := Ext.trans hE14 hx19
    refine op_g ha rfl (g_assign rfl) ?_; clear ha a; intro a ha
    refine wpList_nil ?_
    replace ha := ha.sub (σ' := [(2, v16)]) ⟨rfl, trivial⟩
    refine e_then ?_
    refine wp_ret ?_
    refine e_then_ret ?_
    obtain rfl := Option.some.inj hF
    exact f_ret1 ha rfl rfl ⟨_, h18, q25, hE26⟩
  · replace hF := if_f hp15 hF
    refine wp_skip ?_
    refine e_then ?_
    refine wp_seq ?_
    refine d_region 8 hmix ?_
    refine u_g 0 rfl (by kernel_rfl) (want0 _) ha rfl (g_loadA (cs := [va0_0]) Try.isAgg28 Try.sizeOf28 rfl (by simp) hB3.all) ?_; clear ha a; intro a ha
    refine u_g 3 rfl (by kernel_rfl) (want0 _) ha rfl (g_field0 st28_0 rfl) ?_; clear ha a; intro a ha
    refine u_g 4 rfl (by kernel_rfl) (want0 _) ha rfl (g_load Try.isAgg22 rfl (hB3.cell rfl)) ?_; clear ha a; intro a ha
    refine u_g 5 rfl (by kernel_rfl) (want0 _) ha rfl (g_lenR sl22.und ha0_0 rfl) ?_; clear ha a; intro a ha
    obtain ⟨hI27, hF⟩ := ck_some hF
    refine u_g 6 rfl (by kernel_rfl) (want0 _) ha rfl (g_add rfl rfl hI27) ?_; clear ha a; intro a ha
    obtain ⟨xqr1o1_1, hcqr1o1_1, hF⟩ := cal_some hF
    obtain ⟨gqr1o7_1, gqr1o7_1b, hF⟩ := mkS_some hF
    obtain ⟨xqr1o8_1, hcqr1o8_1, hF⟩ := cal_some hF
    refine u_many [1, 2, 7] (by kernel_rfl) rfl fun wqr1_1 hxqr1_1 => ⟨⟨_, rfl, ?_⟩, ⟨_, rfl, ?_⟩, ⟨_, rfl, ?_⟩, trivial⟩
    · skip
      replace hB3 := hB3.ext hxqr1_1
      have hEqr1o1_1 := Ext.trans hE14 hxqr1_1
      refine o_call ha rfl rfl Try.call19 (W_spec_l25Bits (ha0_0.ext hEqr1o1_1) hcqr1o1_1) ?_; clear ha a; rintro vqr1o1_1 wqr1o1_1 ⟨bqr1o1_1, hqr1o1_1, zqr1o1_1, hxqr1o1_1⟩ a ha
      have qqr1o1_1 := Nq.new hB3.fpb zqr1o1_1
      have qqr1o1_2 := Nq.madeO zqr1o1_1 hB3.bi
      replace hB3 := hB3.ext hxqr1o1_1
      have hEqr1o1_2 := Ext.trans hEqr1o1_1 hxqr1o1_1
      have qqr1o1_3 := Zn.upD zqr1o1_1 hEqr1o1_1
      refine wpList_nil (e_sq ?_)
      refine ⟨fun _ => hxqr1o1_1, ?_⟩
      refine u_many [2, 7] (by kernel_rfl) rfl fun wqr1o1_2 hxqr1o1_2 => ⟨⟨_, rfl, ?_⟩, ⟨_, rfl, ?_⟩, trivial⟩
      · skip
        replace hB3 := hB3.ext hxqr1o1_2
        replace hqr1o1_1 := hqr1o1_1.ext hxqr1o1_2
        have hEqr1o2_1 := Ext.trans hEqr1o1_2 hxqr1o1_2
        refine o_lit0 Rp.int ha rfl sl26 ?_; clear ha a; intro vqr1o2_1 wqr1o2_1 hqr1o2_1 hxqr1o2_1 a ha
        obtain ⟨bqr1o2_1, hbqr1o2_1⟩ : ∃ b : Int, b = wqr1o1_2.heap.size := ⟨_, rfl⟩; rw [← hbqr1o2_1] at hqr1o2_1
        have qqr1o2_1 := zn_of hbqr1o2_1
        have qqr1o2_2 := Nq.new hB3.fpb qqr1o2_1
        have qqr1o2_3 := Nq.madeO qqr1o2_1 hB3.bi
        have qqr1o2_4 := Nq.new hqr1o1_1.fpb qqr1o2_1
        have qqr1o2_5 := Nq.madeO qqr1o2_1 hqr1o1_1.blt
        have qqr1o2_6 := Zn.upD qqr1o2_1 hEqr1o2_1
        replace hB3 := hB3.ext hxqr1o2_1
        replace hqr1o1_1 := hqr1o1_1.ext hxqr1o2_1
        have hEqr1o2_2 := Ext.trans hEqr1o2_1 hxqr1o2_1
        refine wpList_nil (e_sq ?_)
        refine ⟨fun _ => hxqr1o2_1, ?_⟩
        refine u_only 7 rfl (by kernel_rfl) ?_; intro wqr1o7_1 hxqr1o7_1
        replace hB3 := hB3.ext hxqr1o7_1
        replace hqr1o1_1 := hqr1o1_1.ext hxqr1o7_1
        replace hqr1o2_1 := hqr1o2_1.ext hxqr1o7_1
        have hEqr1o7_1 := Ext.trans hEqr1o2_2 hxqr1o7_1
        refine o_make (z0 := (0 : Int)) Rp.int ha rfl sl26 rfl (fun w => ⟨rfl, by decide, rfl⟩) rfl gqr1o7_1 gqr1o7_1b ?_; clear ha a; intro vqr1o7_1 wqr1o7_2 hqr1o7_1 hxqr1o7_2 a ha
        obtain ⟨bqr1o7_1, hbqr1o7_1⟩ : ∃ b : Int, b = wqr1o7_1.heap.size := ⟨_, rfl⟩; rw [← hbqr1o7_1] at hqr1o7_1
        have qqr1o7_1 := zn_of hbqr1o7_1
        have qqr1o7_2 := Nq.new hB3.fpb qqr1o7_1
        have qqr1o7_3 := Nq.madeO qqr1o7_1 hB3.bi
        have qqr1o7_4 := Nq.new hqr1o1_1.fpb qqr1o7_1
        have qqr1o7_5 := Nq.madeO qqr1o7_1 hqr1o1_1.blt
        have qqr1o7_6 := Nq.new hqr1o2_1.fpb qqr1o7_1
        have qqr1o7_7 := Nq.madeO qqr1o7_1 hqr1o2_1.blt
        have qqr1o7_8 := Zn.upD qqr1o7_1 hEqr1o7_1
        replace hB3 := hB3.ext hxqr1o7_2
        replace hqr1o1_1 := hqr1o1_1.ext hxqr1o7_2
        replace hqr1o2_1 := hqr1o2_1.ext hxqr1o7_2
        have hEqr1o7_2 := Ext.trans hEqr1o7_1 hxqr1o7_2
        refine wpList_nil (e_sq ?_)
        refine ⟨fun _ => hxqr1o7_2, ?_⟩
        refine u_only 8 rfl (by kernel_rfl) ?_; intro wqr1o8_1 hxqr1o8_1
        replace hB3 := hB3.ext hxqr1o8_1
        replace hqr1o1_1 := hqr1o1_1.ext hxqr1o8_1
        replace hqr1o2_1 := hqr1o2_1.ext hxqr1o8_1
        replace hqr1o7_1 := hqr1o7_1.ext hxqr1o8_1
        have hEqr1o8_1 := Ext.trans hEqr1o7_2 hxqr1o8_1
        obtain ⟨fpqr1o8_1, hroqr1o8_1, hsqr1o8_1⟩ := hqr1o1_1.roF
        obtain ⟨fpqr1o8_2, hroqr1o8_2, hsqr1o8_2⟩ := hqr1o2_1.roF
        refine o_call ha rfl rfl Try.call18 (W_spec_l26Ways hroqr1o8_1 (show InI 0 from by decide) hroqr1o8_2 hqr1o7_1 (Nq.mono qqr1o7_4 hsqr1o8_1) (Nq.mono qqr1o7_6 hsqr1o8_2) hcqr1o8_1) ?_; clear ha a; rintro vqr1o8_1 wqr1o8_2 ⟨rfl, hqr1o8_1, hxqr1o8_2⟩ a ha
        replace hB3 := hB3.nq hxqr1o8_2 qqr1o7_2
        replace hqr1o1_1 := hqr1o1_1.nq hxqr1o8_2 qqr1o7_4
        replace hqr1o2_1 := hqr1o2_1.nq hxqr1o8_2 qqr1o7_6
        have hEqr1o8_2 := Ext.then hEqr1o8_1 hxqr1o8_2 (Zn.bl qqr1o7_8)
        refine wpList_nil (e_sq ?_)
        refine ⟨fun h => absurd h (by decide), ?_⟩
        refine u_only 9 rfl (by kernel_rfl) ?_; intro wqr1o9_1 hxqr1o9_1
        replace hB3 := hB3.ext hxqr1o9_1
        replace hqr1o1_1 := hqr1o1_1.ext hxqr1o9_1
        replace hqr1o2_1 := hqr1o2_1.ext hxqr1o9_1
        replace hqr1o8_1 := hqr1o8_1.ext hxqr1o9_1
        have hEqr1o9_1 := Ext.trans hEqr1o8_2 hxqr1o9_1
        refine op_g ha rfl (g_assign rfl) ?_; clear ha a; intro a ha
        refine wpList_nil (e_sq ?_)
        refine ⟨fun h => absurd h (by decide), ?_⟩
        refine u_done (by kernel_rfl) ?_; intro w29 hx30
        replace hB3 := hB3.ext hx30
        replace hqr1o1_1 := hqr1o1_1.ext hx30
        replace hqr1o2_1 := hqr1o2_1.ext hx30
        replace hqr1o8_1 := hqr1o8_1.ext hx30
        have hE31 := Ext.trans hEqr1o9_1 hx30
        replace ha := ha.sub (σ' := [(2, vqr1o7_1)]) ⟨rfl, trivial⟩
        refine e_then ?_
        refine wp_ret ?_
        obtain rfl := Option.some.inj hF
        exact f_ret1 ha rfl rfl ⟨_, hqr1o8_1, qqr1o7_8, hE31⟩
      · skip
        replace hB3 := hB3.ext hxqr1o1_2
        replace hqr1o1_1 := hqr1o1_1.ext hxqr1o1_2
        have hEqr1o7_1 := Ext.trans hEqr1o1_2 hxqr1o1_2
        refine o_make (z0 := (0 : Int)) Rp.int ha rfl sl26 rfl (fun w => ⟨rfl, by decide, rfl⟩) rfl gqr1o7_1 gqr1o7_1b ?_; clear ha a; intro vqr1o7_1 wqr1o7_1 hqr1o7_1 hxqr1o7_1 a ha
        obtain ⟨bqr1o7_1, hbqr1o7_1⟩ : ∃ b : Int, b = wqr1o1_2.heap.size := ⟨_, rfl⟩; rw [← hbqr1o7_1] at hqr1o7_1
        have qqr1o7_1 := zn_of hbqr1o7_1
        have qqr1o7_2 := Nq.new hB3.fpb qqr1o7_1
        have qqr1o7_3 := Nq.madeO qqr1o7_1 hB3.bi
        have qqr1o7_4 := Nq.new hqr1o1_1.fpb qqr1o7_1
        have qqr1o7_5 := Nq.madeO qqr1o7_1 hqr1o1_1.blt
        have qqr1o7_6 := Zn.upD qqr1o7_1 hEqr1o7_1
        replace hB3 := hB3.ext hxqr1o7_1
        replace hqr1o1_1 := hqr1o1_1.ext hxqr1o7_1
        have hEqr1o7_2 := Ext.trans hEqr1o7_1 hxqr1o7_1
        refine wpList_nil (e_sq ?_)
        refine ⟨fun _ => hxqr1o7_1, ?_⟩
        refine u_only 2 rfl (by kernel_rfl) ?_; intro wqr1o2_1 hxqr1o2_1
        replace hB3 := hB3.ext hxqr1o2_1
        replace hqr1o1_1 := hqr1o1_1.ext hxqr1o2_1
        replace hqr1o7_1 := hqr1o7_1.ext hxqr1o2_1
        have hEqr1o2_1 := Ext.trans hEqr1o7_2 hxqr1o2_1
        refine o_lit0 Rp.int ha rfl sl26 ?_; clear ha a; intro vqr1o2_1 wqr1o2_2 hqr1o2_1 hxqr1o2_2 a ha
        obtain ⟨bqr1o2_1, hbqr1o2_1⟩ : ∃ b : Int, b = wqr1o2_1.heap.size := ⟨_, rfl⟩; rw [← hbqr1o2_1] at hqr1o2_1
        have qqr1o2_1 := zn_of hbqr1o2_1
        have qqr1o2_2 := Nq.new hB3.fpb qqr1o2_1
        have qqr1o2_3 := Nq.madeO qqr1o2_1 hB3.bi
        have qqr1o2_4 := Nq.new hqr1o1_1.fpb qqr1o2_1
        have qqr1o2_5 := Nq.madeO qqr1o2_1 hqr1o1_1.blt
        have qqr1o2_6 := Nq.new hqr1o7_1.fpb qqr1o2_1
        have qqr1o2_7 := Nq.madeO qqr1o2_1 hqr1o7_1.blt
        have qqr1o2_8 := Zn.upD qqr1o2_1 hEqr1o2_1
        replace hB3 := hB3.ext hxqr1o2_2
        replace hqr1o1_1 := hqr1o1_1.ext hxqr1o2_2
        replace hqr1o7_1 := hqr1o7_1.ext hxqr1o2_2
        have hEqr1o2_2 := Ext.trans hEqr1o2_1 hxqr1o2_2
        refine wpList_nil (e_sq ?_)
        refine ⟨fun _ => hxqr1o2_2, ?_⟩
        refine u_only 8 rfl (by kernel_rfl) ?_; intro wqr1o8_1 hxqr1o8_1
        replace hB3 := hB3.ext hxqr1o8_1
        replace hqr1o1_1 := hqr1o1_1.ext hxqr1o8_1
        replace hqr1o7_1 := hqr1o7_1.ext hxqr1o8_1
        replace hqr1o2_1 := hqr1o2_1.ext hxqr1o8_1
        have hEqr1o8_1 := Ext.trans hEqr1o2_2 hxqr1o8_1
        obtain ⟨fpqr1o8_1, hroqr1o8_1, hsqr1o8_1⟩ := hqr1o1_1.roF
        obtain ⟨fpqr1o8_2, hroqr1o8_2, hsqr1o8_2⟩ := hqr1o2_1.roF
        refine o_call ha rfl rfl Try.call18 (W_spec_l26Ways hroqr1o8_1 (show InI 0 from by decide) hroqr1o8_2 hqr1o7_1 (Nq.mono qqr1o7_4 hsqr1o8_1) (Nq.mono qqr1o2_7 hsqr1o8_2) hcqr1o8_1) ?_; clear ha a; rintro vqr1o8_1 wqr1o8_2 ⟨rfl, hqr1o8_1, hxqr1o8_2⟩ a ha
        replace hB3 := hB3.nq hxqr1o8_2 qqr1o7_2
        replace hqr1o1_1 := hqr1o1_1.nq hxqr1o8_2 qqr1o7_4
        replace hqr1o2_1 := hqr1o2_1.nq hxqr1o8_2 qqr1o2_7
        have hEqr1o8_2 := Ext.then hEqr1o8_1 hxqr1o8_2 (Zn.bl qqr1o7_6)
        refine wpList_nil (e_sq ?_)
        refine ⟨fun h => absurd h (by decide), ?_⟩
        refine u_only 9 rfl (by kernel_rfl) ?_; intro wqr1o9_1 hxqr1o9_1
        replace hB3 := hB3.ext hxqr1o9_1
        replace hqr1o1_1 := hqr1o1_1.ext hxqr1o9_1
        replace hqr1o8_1 := hqr1o8_1.ext hxqr1o9_1
        replace hqr1o2_1 := hqr1o2_1.ext hxqr1o9_1
        have hEqr1o9_1 := Ext.trans hEqr1o8_2 hxqr1o9_1
        refine op_g ha rfl (g_assign rfl) ?_; clear ha a; intro a ha
        refine wpList_nil (e_sq ?_)
        refine ⟨fun h => absurd h (by decide), ?_⟩
        refine u_done (by kernel_rfl) ?_; intro w29 hx30
        replace hB3 := hB3.ext hx30
        replace hqr1o1_1 := hqr1o1_1.ext hx30
        replace hqr1o8_1 := hqr1o8_1.ext hx30
        replace hqr1o2_1 := hqr1o2_1.ext hx30
        have hE31 := Ext.trans hEqr1o9_1 hx30
        replace ha := ha.sub (σ' := [(2, vqr1o7_1)]) ⟨rfl, trivial⟩
        refine e_then ?_
        refine wp_ret ?_
        obtain rfl := Option.some.inj hF
        exact f_ret1 ha rfl rfl ⟨_, hqr1o8_1, qqr1o7_6, hE31⟩
    · skip
      replace hB3 := hB3.ext hxqr1_1
      have hEqr1o2_1 := Ext.trans hE14 hxqr1_1
      refine o_lit0 Rp.int ha rfl sl26 ?_; clear ha a; intro vqr1o2_1 wqr1o2_1 hqr1o2_1 hxqr1o2_1 a ha
      obtain ⟨bqr1o2_1, hbqr1o2_1⟩ : ∃ b : Int, b = wqr1_1.heap.size := ⟨_, rfl⟩; rw [← hbqr1o2_1] at hqr1o2_1
      have qqr1o2_1 := zn_of hbqr1o2_1
      have qqr1o2_2 := Nq.new hB3.fpb qqr1o2_1
      have qqr1o2_3 := Nq.madeO qqr1o2_1 hB3.bi
      have qqr1o2_4 := Zn.upD qqr1o2_1 hEqr1o2_1
      replace hB3 := hB3.ext hxqr1o2_1
      have hEqr1o2_2 := Ext.trans hEqr1o2_1 hxqr1o2_1
      refine wpList_nil (e_sq ?_)
      refine ⟨fun _ => hxqr1o2_1, ?_⟩
      refine u_many [1, 7] (by kernel_rfl) rfl fun wqr1o2_2 hxqr1o2_2 => ⟨⟨_, rfl, ?_⟩, ⟨_, rfl, ?_⟩, trivial⟩
      · skip
        replace hB3 := hB3.ext hxqr1o2_2
        replace hqr1o2_1 := hqr1o2_1.ext hxqr1o2_2
        have hEqr1o1_1 := Ext.trans hEqr1o2_2 hxqr1o2_2
        refine o_call ha rfl rfl Try.call19 (W_spec_l25Bits (ha0_0.ext hEqr1o1_1) hcqr1o1_1) ?_; clear ha a; rintro vqr1o1_1 wqr1o1_1 ⟨bqr1o1_1, hqr1o1_1, zqr1o1_1, hxqr1o1_1⟩ a ha
        have qqr1o1_1 := Nq.new hB3.fpb zqr1o1_1
        have qqr1o1_2 := Nq.madeO zqr1o1_1 hB3.bi
        have qqr1o1_3 := Nq.new hqr1o2_1.fpb zqr1o1_1
        have qqr1o1_4 := Nq.madeO zqr1o1_1 hqr1o2_1.blt
        replace hB3 := hB3.ext hxqr1o1_1
        replace hqr1o2_1 := hqr1o2_1.ext hxqr1o1_1
        have hEqr1o1_2 := Ext.trans hEqr1o1_1 hxqr1o1_1
        have qqr1o1_5 := Zn.upD zqr1o1_1 hEqr1o1_1
        refine wpList_nil (e_sq ?_)
        refine ⟨fun _ => hxqr1o1_1, ?_⟩
        refine u_only 7 rfl (by kernel_rfl) ?_; intro wqr1o7_1 hxqr1o7_1
        replace hB3 := hB3.ext hxqr1o7_1
        replace hqr1o2_1 := hqr1o2_1.ext hxqr1o7_1
        replace hqr1o1_1 := hqr1o1_1.ext hxqr1o7_1
        have hEqr1o7_1 := Ext.trans hEqr1o1_2 hxqr1o7_1
        refine o_make (z0 := (0 : Int)) Rp.int ha rfl sl26 rfl (fun w => ⟨rfl, by decide, rfl⟩) rfl gqr1o7_1 gqr1o7_1b ?_; clear ha a; intro vqr1o7_1 wqr1o7_2 hqr1o7_1 hxqr1o7_2 a ha
        obtain ⟨bqr1o7_1, hbqr1o7_1⟩ : ∃ b : Int, b = wqr1o7_1.heap.size := ⟨_, rfl⟩; rw [← hbqr1o7_1] at hqr1o7_1
        have qqr1o7_1 := zn_of hbqr1o7_1
        have qqr1o7_2 := Nq.new hB3.fpb qqr1o7_1
        have qqr1o7_3 := Nq.madeO qqr1o7_1 hB3.bi
        have qqr1o7_4 := Nq.new hqr1o2_1.fpb qqr1o7_1
        have qqr1o7_5 := Nq.madeO qqr1o7_1 hqr1o2_1.blt
        have qqr1o7_6 := Nq.new hqr1o1_1.fpb qqr1o7_1
        have qqr1o7_7 := Nq.madeO qqr1o7_1 hqr1o1_1.blt
        have qqr1o7_8 := Zn.upD qqr1o7_1 hEqr1o7_1
        replace hB3 := hB3.ext hxqr1o7_2
        replace hqr1o2_1 := hqr1o2_1.ext hxqr1o7_2
        replace hqr1o1_1 := hqr1o1_1.ext hxqr1o7_2
        have hEqr1o7_2 := Ext.trans hEqr1o7_1 hxqr1o7_2
        refine wpList_nil (e_sq ?_)
        refine ⟨fun _ => hxqr1o7_2, ?_⟩
        refine u_only 8 rfl (by kernel_rfl) ?_; intro wqr1o8_1 hxqr1o8_1
        replace hB3 := hB3.ext hxqr1o8_1
        replace hqr1o2_1 := hqr1o2_1.ext hxqr1o8_1
        replace hqr1o1_1 := hqr1o1_1.ext hxqr1o8_1
        replace hqr1o7_1 := hqr1o7_1.ext hxqr1o8_1
        have hEqr1o8_1 := Ext.trans hEqr1o7_2 hxqr1o8_1
        obtain ⟨fpqr1o8_1, hroqr1o8_1, hsqr1o8_1⟩ := hqr1o1_1.roF
        obtain ⟨fpqr1o8_2, hroqr1o8_2, hsqr1o8_2⟩ := hqr1o2_1.roF
        refine o_call ha rfl rfl Try.call18 (W_spec_l26Ways hroqr1o8_1 (show InI 0 from by decide) hroqr1o8_2 hqr1o7_1 (Nq.mono qqr1o7_6 hsqr1o8_1) (Nq.mono qqr1o7_4 hsqr1o8_2) hcqr1o8_1) ?_; clear ha a; rintro vqr1o8_1 wqr1o8_2 ⟨rfl, hqr1o8_1, hxqr1o8_2⟩ a ha
        replace hB3 := hB3.nq hxqr1o8_2 qqr1o7_2
        replace hqr1o2_1 := hqr1o2_1.nq hxqr1o8_2 qqr1o7_4
        replace hqr1o1_1 := hqr1o1_1.nq hxqr1o8_2 qqr1o7_6
        have hEqr1o8_2 := Ext.then hEqr1o8_1 hxqr1o8_2 (Zn.bl qqr1o7_8)
        refine wpList_nil (e_sq ?_)
        refine ⟨fun h => absurd h (by decide), ?_⟩
        refine u_only 9 rfl (by kernel_rfl) ?_; intro wqr1o9_1 hxqr1o9_1
        replace hB3 := hB3.ext hxqr1o9_1
        replace hqr1o2_1 := hqr1o2_1.ext hxqr1o9_1
        replace hqr1o1_1 := hqr1o1_1.ext hxqr1o9_1
        replace hqr1o8_1 := hqr1o8_1.ext hxqr1o9_1
        have hEqr1o9_1 := Ext.trans hEqr1o8_2 hxqr1o9_1
        refine op_g ha rfl (g_assign rfl) ?_; clear ha a; intro a ha
        refine wpList_nil (e_sq ?_)
        refine ⟨fun h => absurd h (by decide), ?_⟩
        refine u_done (by kernel_rfl) ?_; intro w29 hx30
        replace hB3 := hB3.ext hx30
        replace hqr1o2_1 := hqr1o2_1.ext hx30
        replace hqr1o1_1 := hqr1o1_1.ext hx30
        replace hqr1o8_1 := hqr1o8_1.ext hx30
        have hE31 := Ext.trans hEqr1o9_1 hx30
        replace ha := ha.sub (σ' := [(2, vqr1o7_1)]) ⟨rfl, trivial⟩
        refine e_then ?_
        refine wp_ret ?_
        obtain rfl := Option.some.inj hF
        exact f_ret1 ha rfl rfl ⟨_, hqr1o8_1, qqr1o7_8, hE31⟩
      · skip
        replace hB3 := hB3.ext hxqr1o2_2
        replace hqr1o2_1 := hqr1o2_1.ext hxqr1o2_2
        have hEqr1o7_1 := Ext.trans hEqr1o2_2 hxqr1o2_2
        refine o_make (z0 := (0 : Int)) Rp.int ha rfl sl26 rfl (fun w => ⟨rfl, by decide, rfl⟩) rfl gqr1o7_1 gqr1o7_1b ?_; clear ha a; intro vqr1o7_1 wqr1o7_1 hqr1o7_1 hxqr1o7_1 a ha
        obtain ⟨bqr1o7_1, hbqr1o7_1⟩ : ∃ b : Int, b = wqr1o2_2.heap.size := ⟨_, rfl⟩; rw [← hbqr1o7_1] at hqr1o7_1
        have qqr1o7_1 := zn_of hbqr1o7_1
        have qqr1o7_2 := Nq.new hB3.fpb qqr1o7_1
        have qqr1o7_3 := Nq.madeO qqr1o7_1 hB3.bi
        have qqr1o7_4 := Nq.new hqr1o2_1.fpb qqr1o7_1
        have qqr1o7_5 := Nq.madeO qqr1o7_1 hqr1o2_1.blt
        have qqr1o7_6 := Zn.upD qqr1o7_1 hEqr1o7_1
        replace hB3 := hB3.ext hxqr1o7_1
        replace hqr1o2_1 := hqr1o2_1.ext hxqr1o7_1
        have hEqr1o7_2 := Ext.trans hEqr1o7_1 hxqr1o7_1
        refine wpList_nil (e_sq ?_)
        refine ⟨fun _ => hxqr1o7_1, ?_⟩
        refine u_only 1 rfl (by kernel_rfl) ?_; intro wqr1o1_1 hxqr1o1_1
        replace hB3 := hB3.ext hxqr1o1_1
        replace hqr1o2_1 := hqr1o2_1.ext hxqr1o1_1
        replace hqr1o7_1 := hqr1o7_1.ext hxqr1o1_1
        have hEqr1o1_1 := Ext.trans hEqr1o7_2 hxqr1o1_1
        refine o_call ha rfl rfl Try.call19 (W_spec_l25Bits (ha0_0.ext hEqr1o1_1) hcqr1o1_1) ?_; clear ha a; rintro vqr1o1_1 wqr1o1_2 ⟨bqr1o1_1, hqr1o1_1, zqr1o1_1, hxqr1o1_2⟩ a ha
        have qqr1o1_1 := Nq.new hB3.fpb zqr1o1_1
        have qqr1o1_2 := Nq.madeO zqr1o1_1 hB3.bi
        have qqr1o1_3 := Nq.new hqr1o2_1.fpb zqr1o1_1
        have qqr1o1_4 := Nq.madeO zqr1o1_1 hqr1o2_1.blt
        have qqr1o1_5 := Nq.new hqr1o7_1.fpb zqr1o1_1
        have qqr1o1_6 := Nq.madeO zqr1o1_1 hqr1o7_1.blt
        replace hB3 := hB3.ext hxqr1o1_2
        replace hqr1o2_1 := hqr1o2_1.ext hxqr1o1_2
        replace hqr1o7_1 := hqr1o7_1.ext hxqr1o1_2
        have hEqr1o1_2 := Ext.trans hEqr1o1_1 hxqr1o1_2
        have qqr1o1_7 := Zn.upD zqr1o1_1 hEqr1o1_1
        refine wpList_nil (e_sq ?_)
        refine ⟨fun _ => hxqr1o1_2, ?_⟩
        refine u_only 8 rfl (by kernel_rfl) ?_; intro wqr1o8_1 hxqr1o8_1
        replace hB3 := hB3.ext hxqr1o8_1
        replace hqr1o2_1 := hqr1o2_1.ext hxqr1o8_1
        replace hqr1o7_1 := hqr1o7_1.ext hxqr1o8_1
        replace hqr1o1_1 := hqr1o1_1.ext hxqr1o8_1
        have hEqr1o8_1 := Ext.trans hEqr1o1_2 hxqr1o8_1
        obtain ⟨fpqr1o8_1, hroqr1o8_1, hsqr1o8_1⟩ := hqr1o1_1.roF
        obtain ⟨fpqr1o8_2, hroqr1o8_2, hsqr1o8_2⟩ := hqr1o2_1.roF
        refine o_call ha rfl rfl Try.call18 (W_spec_l26Ways hroqr1o8_1 (show InI 0 from by decide) hroqr1o8_2 hqr1o7_1 (Nq.mono qqr1o1_6 hsqr1o8_1) (Nq.mono qqr1o7_4 hsqr1o8_2) hcqr1o8_1) ?_; clear ha a; rintro vqr1o8_1 wqr1o8_2 ⟨rfl, hqr1o8_1, hxqr1o8_2⟩ a ha
        replace hB3 := hB3.nq hxqr1o8_2 qqr1o7_2
        replace hqr1o2_1 := hqr1o2_1.nq hxqr1o8_2 qqr1o7_4
        replace hqr1o1_1 := hqr1o1_1.nq hxqr1o8_2 qqr1o1_6
        have hEqr1o8_2 := Ext.then hEqr1o8_1 hxqr1o8_2 (Zn.bl qqr1o7_6)
        refine wpList_nil (e_sq ?_)
        refine ⟨fun h => absurd h (by decide), ?_⟩
        refine u_only 9 rfl (by kernel_rfl) ?_; intro wqr1o9_1 hxqr1o9_1
        replace hB3 := hB3.ext hxqr1o9_1
        replace hqr1o2_1 := hqr1o2_1.ext hxqr1o9_1
        replace hqr1o8_1 := hqr1o8_1.ext hxqr1o9_1
        replace hqr1o1_1 := hqr1o1_1.ext hxqr1o9_1
        have hEqr1o9_1 := Ext.trans hEqr1o8_2 hxqr1o9_1
        refine op_g ha rfl (g_assign rfl) ?_; clear ha a; intro a ha
        refine wpList_nil (e_sq ?_)
        refine ⟨fun h => absurd h (by decide), ?_⟩
        refine u_done (by kernel_rfl) ?_; intro w29 hx30
        replace hB3 := hB3.ext hx30
        replace hqr1o2_1 := hqr1o2_1.ext hx30
        replace hqr1o8_1 := hqr1o8_1.ext hx30
        replace hqr1o1_1 := hqr1o1_1.ext hx30
        have hE31 := Ext.trans hEqr1o9_1 hx30
        replace ha := ha.sub (σ' := [(2, vqr1o7_1)]) ⟨rfl, trivial⟩
        refine e_then ?_
        refine wp_ret ?_
        obtain rfl := Option.some.inj hF
        exact f_ret1 ha rfl rfl ⟨_, hqr1o8_1, qqr1o7_6, hE31⟩
    · skip
      replace hB3 := hB3.ext hxqr1_1
      have hEqr1o7_1 := Ext.trans hE14 hxqr1_1
      refine o_make (z0 := (0 : Int)) Rp.int ha rfl sl26 rfl (fun w => ⟨rfl, by decide, rfl⟩) rfl gqr1o7_1 gqr1o7_1b ?_; clear ha a; intro vqr1o7_1 wqr1o7_1 hqr1o7_1 hxqr1o7_1 a ha
      obtain ⟨bqr1o7_1, hbqr1o7_1⟩ : ∃ b : Int, b = wqr1_1.heap.size := ⟨_, rfl⟩; rw [← hbqr1o7_1] at hqr1o7_1
      have qqr1o7_1 := zn_of hbqr1o7_1
      have qqr1o7_2 := Nq.new hB3.fpb qqr1o7_1
      have qqr1o7_3 := Nq.madeO qqr1o7_1 hB3.bi
      have qqr1o7_4 := Zn.upD qqr1o7_1 hEqr1o7_1
      replace hB3 := hB3.ext hxqr1o7_1
      have hEqr1o7_2 := Ext.trans hEqr1o7_1 hxqr1o7_1
      refine wpList_nil (e_sq ?_)
      refine ⟨fun _ => hxqr1o7_1, ?_⟩
      refine u_many [1, 2] (by kernel_rfl) rfl fun wqr1o7_2 hxqr1o7_2 => ⟨⟨_, rfl, ?_⟩, ⟨_, rfl, ?_⟩, trivial⟩
      · skip
        replace hB3 := hB3.ext hxqr1o7_2
        replace hqr1o7_1 := hqr1o7_1.ext hxqr1o7_2
        have hEqr1o1_1 := Ext.trans hEqr1o7_2 hxqr1o7_2
        refine o_call ha rfl rfl Try.call19 (W_spec_l25Bits (ha0_0.ext hEqr1o1_1) hcqr1o1_1) ?_; clear ha a; rintro vqr1o1_1 wqr1o1_1 ⟨bqr1o1_1, hqr1o1_1, zqr1o1_1, hxqr1o1_1⟩ a ha
        have qqr1o1_1 := Nq.new hB3.fpb zqr1o1_1
        have qqr1o1_2 := Nq.madeO zqr1o1_1 hB3.bi
        have qqr1o1_3 := Nq.new hqr1o7_1.fpb zqr1o1_1
        have qqr1o1_4 := Nq.madeO zqr1o1_1 hqr1o7_1.blt
        replace hB3 := hB3.ext hxqr1o1_1
        replace hqr1o7_1 := hqr1o7_1.ext hxqr1o1_1
        have hEqr1o1_2 := Ext.trans hEqr1o1_1 hxqr1o1_1
        have qqr1o1_5 := Zn.upD zqr1o1_1 hEqr1o1_1
        refine wpList_nil (e_sq ?_)
        refine ⟨fun _ => hxqr1o1_1, ?_⟩
        refine u_only 2 rfl (by kernel_rfl) ?_; intro wqr1o2_1 hxqr1o2_1
        replace hB3 := hB3.ext hxqr1o2_1
        replace hqr1o7_1 := hqr1o7_1.ext hxqr1o2_1
        replace hqr1o1_1 := hqr1o1_1.ext hxqr1o2_1
        have hEqr1o2_1 := Ext.trans hEqr1o1_2 hxqr1o2_1
        refine o_lit0 Rp.int ha rfl sl26 ?_; clear ha a; intro vqr1o2_1 wqr1o2_2 hqr1o2_1 hxqr1o2_2 a ha
        obtain ⟨bqr1o2_1, hbqr1o2_1⟩ : ∃ b : Int, b = wqr1o2_1.heap.size := ⟨_, rfl⟩; rw [← hbqr1o2_1] at hqr1o2_1
        have qqr1o2_1 := zn_of hbqr1o2_1
        have qqr1o2_2 := Nq.new hB3.fpb qqr1o2_1
        have qqr1o2_3 := Nq.madeO qqr1o2_1 hB3.bi
        have qqr1o2_4 := Nq.new hqr1o7_1.fpb qqr1o2_1
        have qqr1o2_5 := Nq.madeO qqr1o2_1 hqr1o7_1.blt
        have qqr1o2_6 := Nq.new hqr1o1_1.fpb qqr1o2_1
        have qqr1o2_7 := Nq.madeO qqr1o2_1 hqr1o1_1.blt
        have qqr1o2_8 := Zn.upD qqr1o2_1 hEqr1o2_1
        replace hB3 := hB3.ext hxqr1o2_2
        replace hqr1o7_1 := hqr1o7_1.ext hxqr1o2_2
        replace hqr1o1_1 := hqr1o1_1.ext hxqr1o2_2
        have hEqr1o2_2 := Ext.trans hEqr1o2_1 hxqr1o2_2
        refine wpList_nil (e_sq ?_)
        refine ⟨fun _ => hxqr1o2_2, ?_⟩
        refine u_only 8 rfl (by kernel_rfl) ?_; intro wqr1o8_1 hxqr1o8_1
        replace hB3 := hB3.ext hxqr1o8_1
        replace hqr1o7_1 := hqr1o7_1.ext hxqr1o8_1
        replace hqr1o1_1 := hqr1o1_1.ext hxqr1o8_1
        replace hqr1o2_1 := hqr1o2_1.ext hxqr1o8_1
        have hEqr1o8_1 := Ext.trans hEqr1o2_2 hxqr1o8_1
        obtain ⟨fpqr1o8_1, hroqr1o8_1, hsqr1o8_1⟩ := hqr1o1_1.roF
        obtain ⟨fpqr1o8_2, hroqr1o8_2, hsqr1o8_2⟩ := hqr1o2_1.roF
        refine o_call ha rfl rfl Try.call18 (W_spec_l26Ways hroqr1o8_1 (show InI 0 from by decide) hroqr1o8_2 hqr1o7_1 (Nq.mono qqr1o1_4 hsqr1o8_1) (Nq.mono qqr1o2_5 hsqr1o8_2) hcqr1o8_1) ?_; clear ha a; rintro vqr1o8_1 wqr1o8_2 ⟨rfl, hqr1o8_1, hxqr1o8_2⟩ a ha
        replace hB3 := hB3.nq hxqr1o8_2 qqr1o7_2
        replace hqr1o1_1 := hqr1o1_1.nq hxqr1o8_2 qqr1o1_4
        replace hqr1o2_1 := hqr1o2_1.nq hxqr1o8_2 qqr1o2_5
        have hEqr1o8_2 := Ext.then hEqr1o8_1 hxqr1o8_2 (Zn.bl qqr1o7_4)
        refine wpList_nil (e_sq ?_)
        refine ⟨fun h => absurd h (by decide), ?_⟩
        refine u_only 9 rfl (by kernel_rfl) ?_; intro wqr1o9_1 hxqr1o9_1
        replace hB3 := hB3.ext hxqr1o9_1
        replace hqr1o8_1 := hqr1o8_1.ext hxqr1o9_1
        replace hqr1o1_1 := hqr1o1_1.ext hxqr1o9_1
        replace hqr1o2_1 := hqr1o2_1.ext hxqr1o9_1
        have hEqr1o9_1 := Ext.trans hEqr1o8_2 hxqr1o9_1
        refine op_g ha rfl (g_assign rfl) ?_; clear ha a; intro a ha
        refine wpList_nil (e_sq ?_)
        refine ⟨fun h => absurd h (by decide), ?_⟩
        refine u_done (by kernel_rfl) ?_; intro w29 hx30
        replace hB3 := hB3.ext hx30
        replace hqr1o8_1 := hqr1o8_1.ext hx30
        replace hqr1o1_1 := hqr1o1_1.ext hx30
        replace hqr1o2_1 := hqr1o2_1.ext hx30
        have hE31 := Ext.trans hEqr1o9_1 hx30
        replace ha := ha.sub (σ' := [(2, vqr1o7_1)]) ⟨rfl, trivial⟩
        refine e_then ?_
        refine wp_ret ?_
        obtain rfl := Option.some.inj hF
        exact f_ret1 ha rfl rfl ⟨_, hqr1o8_1, qqr1o7_4, hE31⟩
      · skip
        replace hB3 := hB3.ext hxqr1o7_2
        replace hqr1o7_1 := hqr1o7_1.ext hxqr1o7_2
        have hEqr1o2_1 := Ext.trans hEqr1o7_2 hxqr1o7_2
        refine o_lit0 Rp.int ha rfl sl26 ?_; clear ha a; intro vqr1o2_1 wqr1o2_1 hqr1o2_1 hxqr1o2_1 a ha
        obtain ⟨bqr1o2_1, hbqr1o2_1⟩ : ∃ b : Int, b = wqr1o7_2.heap.size := ⟨_, rfl⟩; rw [← hbqr1o2_1] at hqr1o2_1
        have qqr1o2_1 := zn_of hbqr1o2_1
        have qqr1o2_2 := Nq.new hB3.fpb qqr1o2_1
        have qqr1o2_3 := Nq.madeO qqr1o2_1 hB3.bi
        have qqr1o2_4 := Nq.new hqr1o7_1.fpb qqr1o2_1
        have qqr1o2_5 := Nq.madeO qqr1o2_1 hqr1o7_1.blt
        have qqr1o2_6 := Zn.upD qqr1o2_1 hEqr1o2_1
        replace hB3 := hB3.ext hxqr1o2_1
        replace hqr1o7_1 := hqr1o7_1.ext hxqr1o2_1
        have hEqr1o2_2 := Ext.trans hEqr1o2_1 hxqr1o2_1
        refine wpList_nil (e_sq ?_)
        refine ⟨fun _ => hxqr1o2_1, ?_⟩
        refine u_only 1 rfl (by kernel_rfl) ?_; intro wqr1o1_1 hxqr1o1_1
        replace hB3 := hB3.ext hxqr1o1_1
        replace hqr1o7_1 := hqr1o7_1.ext hxqr1o1_1
        replace hqr1o2_1 := hqr1o2_1.ext hxqr1o1_1
        have hEqr1o1_1 := Ext.trans hEqr1o2_2 hxqr1o1_1
        refine o_call ha rfl rfl Try.call19 (W_spec_l25Bits (ha0_0.ext hEqr1o1_1) hcqr1o1_1) ?_; clear ha a; rintro vqr1o1_1 wqr1o1_2 ⟨bqr1o1_1, hqr1o1_1, zqr1o1_1, hxqr1o1_2⟩ a ha
        have qqr1o1_1 := Nq.new hB3.fpb zqr1o1_1
        have qqr1o1_2 := Nq.madeO zqr1o1_1 hB3.bi
        have qqr1o1_3 := Nq.new hqr1o7_1.fpb zqr1o1_1
        have qqr1o1_4 := Nq.madeO zqr1o1_1 hqr1o7_1.blt
        have qqr1o1_5 := Nq.new hqr1o2_1.fpb zqr1o1_1
        have qqr1o1_6 := Nq.madeO zqr1o1_1 hqr1o2_1.blt
        replace hB3 := hB3.ext hxqr1o1_2
        replace hqr1o7_1 := hqr1o7_1.ext hxqr1o1_2
        replace hqr1o2_1 := hqr1o2_1.ext hxqr1o1_2
        have hEqr1o1_2 := Ext.trans hEqr1o1_1 hxqr1o1_2
        have qqr1o1_7 := Zn.upD zqr1o1_1 hEqr1o1_1
        refine wpList_nil (e_sq ?_)
        refine ⟨fun _ => hxqr1o1_2, ?_⟩
        refine u_only 8 rfl (by kernel_rfl) ?_; intro wqr1o8_1 hxqr1o8_1
        replace hB3 := hB3.ext hxqr1o8_1
        replace hqr1o7_1 := hqr1o7_1.ext hxqr1o8_1
        replace hqr1o2_1 := hqr1o2_1.ext hxqr1o8_1
        replace hqr1o1_1 := hqr1o1_1.ext hxqr1o8_1
        have hEqr1o8_1 := Ext.trans hEqr1o1_2 hxqr1o8_1
        obtain ⟨fpqr1o8_1, hroqr1o8_1, hsqr1o8_1⟩ := hqr1o1_1.roF
        obtain ⟨fpqr1o8_2, hroqr1o8_2, hsqr1o8_2⟩ := hqr1o2_1.roF
        refine o_call ha rfl rfl Try.call18 (W_spec_l26Ways hroqr1o8_1 (show InI 0 from by decide) hroqr1o8_2 hqr1o7_1 (Nq.mono qqr1o1_4 hsqr1o8_1) (Nq.mono qqr1o2_5 hsqr1o8_2) hcqr1o8_1) ?_; clear ha a; rintro vqr1o8_1 wqr1o8_2 ⟨rfl, hqr1o8_1, hxqr1o8_2⟩ a ha
        replace hB3 := hB3.nq hxqr1o8_2 qqr1o7_2
        replace hqr1o2_1 := hqr1o2_1.nq hxqr1o8_2 qqr1o2_5
        replace hqr1o1_1 := hqr1o1_1.nq hxqr1o8_2 qqr1o1_4
        have hEqr1o8_2 := Ext.then hEqr1o8_1 hxqr1o8_2 (Zn.bl qqr1o7_4)
        refine wpList_nil (e_sq ?_)
        refine ⟨fun h => absurd h (by decide), ?_⟩
        refine u_only 9 rfl (by kernel_rfl) ?_; intro wqr1o9_1 hxqr1o9_1
        replace hB3 := hB3.ext hxqr1o9_1
        replace hqr1o8_1 := hqr1o8_1.ext hxqr1o9_1
        replace hqr1o2_1 := hqr1o2_1.ext hxqr1o9_1
        replace hqr1o1_1 := hqr1o1_1.ext hxqr1o9_1
        have hEqr1o9_1 := Ext.trans hEqr1o8_2 hxqr1o9_1
        refine op_g ha rfl (g_assign rfl) ?_; clear ha a; intro a ha
        refine wpList_nil (e_sq ?_)
        refine ⟨fun h => absurd h (by decide), ?_⟩
        refine u_done (by kernel_rfl) ?_; intro w29 hx30
        replace hB3 := hB3.ext hx30
        replace hqr1o8_1 := hqr1o8_1.ext hx30
        replace hqr1o2_1 := hqr1o2_1.ext hx30
        replace hqr1o1_1 := hqr1o1_1.ext hx30
        have hE31 := Ext.trans hEqr1o9_1 hx30
        replace ha := ha.sub (σ' := [(2, vqr1o7_1)]) ⟨rfl, trivial⟩
        refine e_then ?_
        refine wp_ret ?_
        obtain rfl := Option.some.inj hF
        exact f_ret1 ha rfl rfl ⟨_, hqr1o8_1, qqr1o7_4, hE31⟩
set_option maxHeartbeats 2000000 in
theorem W_spec_l1Max {W : World} {a0 : Int} (ha0 : InI a0) {a1 : Int} (ha1 : InI a1) {r : Int} (hF : F_spec_l1Max a0 a1 = some r) :
    Calls Try.prog 27 [.int .i64 a0, .int .i64 a1].toArray W (Ret fun u w' => (u = .int .i64 r ∧ InI r) ∧ Ext W w') := by
  refine f_enter Try.func27 rfl Try.ntmps27 rfl ?_
  intro a ha
  replace ha : Fr 10 [(0, (.int .i64 a0)), (1, (.int .i64 a1))] a := ha
  have hE : Chg [] W W := Chg.refl _ _
  unfold F_spec_l1Max at hF
  refine wp_seq ?_
  refine wp_region_lit ?_
  refine op_g ha rfl (g_assign rfl) ?_; clear ha a; intro a ha
  refine wpList_nil ?_
  replace ha := ha.sub (σ' := [(0, (.int .i64 a0)), (1, (.int .i64 a1))]) ⟨rfl, rfl, trivial⟩
  refine e_then ?_
  refine wp_seq ?_
  refine wp_seq ?_
  refine wp_region_lit ?_
  refine op_g ha rfl (g_move rfl) ?_; clear ha a; intro a ha
  refine op_g ha rfl (g_move rfl) ?_; clear ha a; intro a ha
  refine op_g ha rfl (g_gtr rfl rfl) ?_; clear ha a; intro a ha
  refine wpList_nil ?_
  replace ha := ha.sub (σ' := [(0, (.int .i64 a0)), (1, (.int .i64 a1)), (7, (.bool (decide (a1 < a0))))]) ⟨rfl, rfl, rfl, trivial⟩
  refine e_then ?_
  refine c_cond (a1 < a0) ha rfl (decide_eq_true_iff) (fun hp1 => ?_) (fun hp1 => ?_)
  · replace hF := if_t hp1 hF
    refine wp_seq ?_
    refine wp_region_lit ?_
    refine op_g ha rfl (g_move rfl) ?_; clear ha a; intro a ha
    refine op_g ha rfl (g_assign rfl) ?_; clear ha a; intro a ha
    refine wpList_nil ?_
    replace ha := ha.sub (σ' := [(4, (.int .i64 a0))]) ⟨rfl, trivial⟩
    refine e_then ?_
    refine wp_ret ?_
    refine e_then_ret ?_
    obtain rfl := Option.some.inj hF
    exact f_ret1 ha rfl rfl ⟨⟨rfl, ha0⟩, hE⟩
  · replace hF := if_f hp1 hF
    refine wp_skip ?_
    refine e_then ?_
    refine wp_seq ?_
    refine wp_region_lit ?_
    refine op_g ha rfl (g_move rfl) ?_; clear ha a; intro a ha
    refine op_g ha rfl (g_assign rfl) ?_; clear ha a; intro a ha
    refine wpList_nil ?_
    replace ha := ha.sub (σ' := [(4, (.int .i64 a1))]) ⟨rfl, trivial⟩
    refine e_then ?_
    refine wp_ret ?_
    obtain rfl := Option.some.inj hF
    exact f_ret1 ha rfl rfl ⟨⟨rfl, ha1⟩, hE⟩
set_option maxHeartbeats 2000000 in
theorem W_spec_ColourWays {W : World} {va0_0 : Value} {fa0_0 : List Nat} {a0_0 : (List (List Int))} (ha0_0 : Ro (Rp.sl 2 Rp.int) W fa0_0 va0_0 a0_0) {a1 : Int} (ha1 : InI a1) {r : Int} (hF : F_spec_ColourWays a0_0 a1 = some r) :
    Calls Try.prog 14 [.agg #[va0_0], .int .i64 a1].toArray W (Ret fun u w' => (u = .int .i64 r ∧ InI r) ∧ Ext W w') := by
  refine f_enter Try.func14 rfl Try.ntmps14 rfl ?_
  intro a ha
  replace ha : Fr 45 [(0, (.agg #[va0_0])), (1, (.int .i64 a1))] a := ha
  have hE : Chg [] W W := Chg.refl _ _
  unfold F_spec_ColourWays at hF
  refine wp_seq ?_
  refine wp_region_lit ?_
  refine o_box ha rfl rfl rfl ?_; clear ha a; intro b1 w2 hB3 hx4 hlo5 a ha
  have q6 := Zn.one hlo5
  have q7 := Zn.upD q6 hE
  have hE8 := Ext.trans hE hx4
  refine op_g ha rfl (g_assign rfl) ?_; clear ha a; intro a ha
  refine wpList_nil ?_
  replace ha := ha.sub (σ' := [(1, (.int .i64 a1)), (2, (.pointer (some ⟨b1, 0, none⟩)))]) ⟨rfl, rfl, trivial⟩
  refine e_then ?_
  refine wp_seq ?_
  refine wp_seq ?_
  refine wp_region_lit ?_
  refine op_g ha rfl (g_loadA (cs := [va0_0]) Try.isAgg28 Try.sizeOf28 rfl (by simp) hB3.all) ?_; clear ha a; intro a ha
  obtain ⟨x23, hc24, hF⟩ := cal_some hF
  refine o_call ha rfl rfl Try.call17 (W_spec_l26Small (ha0_0.ext hE8) hc24) ?_; clear ha a; rintro v25 w26 ⟨rfl, hx27⟩ a ha
  replace hB3 := hB3.ext hx27
  have hE28 := Ext.trans hE8 hx27
  refine op_g ha rfl (g_not rfl) ?_; clear ha a; intro a ha
  refine op_g ha rfl (g_move rfl) ?_; clear ha a; intro a ha
  by_cases hp29 : ¬ (x23 = true)
  · replace hF := if_t hp29 hF
    rw [show (!x23) = true from (n_iff (Iff.rfl)).2 hp29] at ha
    refine op_unwant ha rfl (yields ha rfl rfl) rfl ?_; clear ha a; intro a ha
    refine op_unwant ha rfl (yields ha rfl rfl) rfl ?_; clear ha a; intro a ha
    refine op_unwant ha rfl (yields ha rfl rfl) rfl ?_; clear ha a; intro a ha
    refine op_g ha rfl (g_pick rfl rfl) ?_; clear ha a; intro a ha
    refine wpList_nil ?_
    replace ha := ha.sub (σ' := [(1, (.int .i64 a1)), (2, (.pointer (some ⟨b1, 0, none⟩))), (17, (.bool true))]) ⟨rfl, rfl, rfl, trivial⟩
    refine e_then ?_
    refine c_true ha rfl ?_
    refine wp_seq ?_
    refine wp_region_lit ?_
    refine op_g ha rfl (g_assign rfl) ?_; clear ha a; intro a ha
    refine wpList_nil ?_
    replace ha := ha.sub (σ' := [(4, (.int .i64 (-1)))]) ⟨rfl, trivial⟩
    refine e_then ?_
    refine wp_ret ?_
    refine e_then_ret ?_
    obtain rfl := Option.some.inj hF
    exact f_ret1 ha rfl rfl ⟨⟨rfl, (show InI (-1) from by decide)⟩, hE28⟩
  · replace hF := if_f hp29 hF
    rw [show (!x23) = false from b_false (n_iff (Iff.rfl)) hp29] at ha
    refine op_want (yields ha rfl rfl) ?_
    refine op_g ha rfl (g_move rfl) ?_; clear ha a; intro a ha
    refine op_want (yields ha rfl rfl) ?_
    obtain ⟨x30, hc31, hF⟩ := cal_some hF
    refine o_call ha rfl rfl Try.call26 (W_spec_l1In ha1 (show InI 0 from by decide) (show InI 16 from by decide) hc31) ?_; clear ha a; rintro v32 w33 ⟨rfl, hx34⟩ a ha
    replace hB3 := hB3.ext hx34
    have hE35 := Ext.trans hE28 hx34
    refine op_want (yields ha rfl rfl) ?_
    refine op_g ha rfl (g_not rfl) ?_; clear ha a; intro a ha
    refine op_g ha rfl (g_pick rfl rfl) ?_; clear ha a; intro a ha
    refine wpList_nil ?_
    replace ha := ha.sub (σ' := [(1, (.int .i64 a1)), (2, (.pointer (some ⟨b1, 0, none⟩))), (17, (.bool (!x30)))]) ⟨rfl, rfl, rfl, trivial⟩
    refine e_then ?_
    refine c_cond (¬ (x30 = true)) ha rfl (n_iff (Iff.rfl)) (fun hp36 => ?_) (fun hp36 => ?_)
    · replace hF := if_t hp36 hF
      refine wp_seq ?_
      refine wp_region_lit ?_
      refine op_g ha rfl (g_assign rfl) ?_; clear ha a; intro a ha
      refine wpList_nil ?_
      replace ha := ha.sub (σ' := [(4, (.int .i64 (-1)))]) ⟨rfl, trivial⟩
      refine e_then ?_
      refine wp_ret ?_
      refine e_then_ret ?_
      obtain rfl := Option.some.inj hF
      exact f_ret1 ha rfl rfl ⟨⟨rfl, (show InI (-1) from by decide)⟩, hE35⟩
    · replace hF := if_f hp36 hF
      refine wp_skip ?_
      refine e_then ?_
      refine wp_seq ?_
      refine wp_region_lit ?_
      refine op_g ha rfl (g_loadA (cs := [va0_0]) Try.isAgg28 Try.sizeOf28 rfl (by simp) hB3.all) ?_; clear ha a; intro a ha
      obtain ⟨x37, hc38, hF⟩ := cal_some hF
      refine o_call ha rfl rfl Try.call6 (W_spec_PartitionsBy (ha0_0.ext hE35) hc38) ?_; clear ha a; rintro v39 w40 ⟨b42, h43, z44, hx41⟩ a ha
      have q46 := Nq.new hB3.fpb z44
      have q47 := Nq.madeO z44 hB3.bi
      replace hB3 := hB3.ext hx41
      have hE48 := Ext.trans hE35 hx41
      have q49 := Zn.upD z44 hE35
      refine op_g ha rfl (g_assign rfl) ?_; clear ha a; intro a ha
      refine wpList_nil ?_
      replace ha := ha.sub (σ' := [(1, (.int .i64 a1)), (5, v39)]) ⟨rfl, rfl, trivial⟩
      refine e_then ?_
      refine wp_seq ?_
      refine wp_region_lit ?_
      refine op_g ha rfl (g_assign rfl) ?_; clear ha a; intro a ha
      refine wpList_nil ?_
      refine e_then ?_
      refine wp_seq ?_
      refine wp_seq ?_
      refine wp_region_lit ?_
      refine op_g ha rfl (g_assign rfl) ?_; clear ha a; intro a ha
      refine wpList_nil ?_
      replace ha := ha.sub (σ' := [(1, (.int .i64 a1)), (5, v39), (6, (.int .i64 0)), (7, (.int .i64 0))]) ⟨rfl, rfl, rfl, rfl, trivial⟩
      refine e_then ?_
      obtain ⟨o291, ho292, hK293⟩ := bnd_some hF
      obtain ⟨n294, hn295⟩ := lp_some ho292; clear ho292
      refine c_loop (fun a w => ∃ (i289 : Int), Fr 45 [(6, (.int .i64 i289))] a ∧ Chg [] W w ∧ InI i289 ∧ o291 = .inl i289) (fun n a w => ∃ (i171 : Int) (i173 : Int), Fr 45 [(1, (.int .i64 a1)), (5, v39), (6, (.int .i64 i171)), (7, (.int .i64 i173))] a ∧ Chg [] W w ∧ InI i171 ∧ InI i173 ∧ Ow Rp.int 2 true w [] b42 v39 x37 ∧ Zn W b42 ∧ lpN (fun s => F_spec_ColourWays_l1 a1 x37 s.1 s.2) n (i171, i173) = some o291) n294 ⟨0, 0, ha.sub ⟨rfl, rfl, rfl, rfl, trivial⟩, hE48, (show InI 0 from by decide), (show InI 0 from by decide), h43, q49, hn295⟩ ?_ ?_
      · rintro m299 a w167 ⟨i171, i173, ha, hE175, hI172, hI174, h169, z170, hF⟩
        cases m299 with
        | zero => exact (lpN_zero hF).elim
        | succ m299 =>
          obtain ⟨z298, hF, hN297⟩ := lpN_succ hF
          have hF : F_spec_ColourWays_l1 a1 x37 i171 i173 = some z298 := hF; unfold F_spec_ColourWays_l1 at hF
          refine wp_seq ?_
          refine wp_seq ?_
          refine wp_region_lit ?_
          refine op_g ha rfl (g_move rfl) ?_; clear ha a; intro a ha
          refine op_g ha rfl (g_move rfl) ?_; clear ha a; intro a ha
          refine op_g ha rfl (g_lenO sl26.und h169 rfl) ?_; clear ha a; intro a ha
          refine op_g ha rfl (g_lss rfl rfl) ?_; clear ha a; intro a ha
          refine wpList_nil ?_
          replace ha := ha.sub (σ' := [(1, (.int .i64 a1)), (5, v39), (6, (.int .i64 i171)), (7, (.int .i64 i173)), (23, (.bool (decide (i173 < (x37.length : Int)))))]) ⟨rfl, rfl, rfl, rfl, rfl, trivial⟩
          refine e_then ?_
          refine c_cond (i173 < (x37.length : Int)) ha rfl (decide_eq_true_iff) (fun hp300 => ?_) (fun hp300 => ?_)
          · replace hF := if_t hp300 hF
            refine wp_skip ?_
            refine e_then ?_
            refine wp_seq ?_
            refine wp_block ?_
            refine wp_seq ?_
            refine wp_region_lit ?_
            refine op_g ha rfl (g_move rfl) ?_; clear ha a; intro a ha
            refine op_g ha rfl (g_move rfl) ?_; clear ha a; intro a ha
            obtain ⟨x301, g302, gx303, hF⟩ := idx_some hF
            obtain ⟨p304, cs305, f306, hf307, hpb308, hat309, hr310, hi311⟩ := h169.at g302 gx303
            obtain ⟨rfl, hI312, rfl⟩ := hr310
            refine op_g ha rfl (hi311.gives sl26 rfl rfl) ?_; clear ha a; intro a ha
            refine op_g ha rfl (g_load Try.isAgg2 rfl hat309.one) ?_; clear ha a; intro a ha
            refine op_g ha rfl (g_assign rfl) ?_; clear ha a; intro a ha
            refine wpList_nil ?_
            replace ha := ha.sub (σ' := [(1, (.int .i64 a1)), (5, v39), (6, (.int .i64 i171)), (7, (.int .i64 i173)), (8, (.int .i64 x301))]) ⟨rfl, rfl, rfl, rfl, rfl, trivial⟩
            refine e_then ?_
            refine wp_seq ?_
            refine wp_seq ?_
            refine wp_region_lit ?_
            refine op_g ha rfl (g_assign rfl) ?_; clear ha a; intro a ha
            refine wpList_nil ?_
            replace ha := ha.sub (σ' := [(1, (.int .i64 a1)), (5, v39), (6, (.int .i64 i171)), (7, (.int .i64 i173)), (8, (.int .i64 x301)), (9, (.int .i64 0))]) ⟨rfl, rfl, rfl, rfl, rfl, rfl, trivial⟩
            refine e_then ?_
            obtain ⟨o377, ho378, hK379⟩ := bnd_some hF
            obtain ⟨n380, hn381⟩ := lp_some ho378; clear ho378
            refine c_loop (fun a w => ∃ (i375 : Int), Fr 45 [(1, (.int .i64 a1)), (5, v39), (6, (.int .i64 i171)), (7, (.int .i64 i173)), (8, (.int .i64 i375))] a ∧ Chg [] W w ∧ InI i375 ∧ Ow Rp.int 2 true w [] b42 v39 x37 ∧ Zn W b42 ∧ o377 = .inl i375) (fun n a w => ∃ (i344 : Int) (i346 : Int), Fr 45 [(1, (.int .i64 a1)), (5, v39), (6, (.int .i64 i171)), (7, (.int .i64 i173)), (8, (.int .i64 i344)), (9, (.int .i64 i346))] a ∧ Chg [] W w ∧ InI i344 ∧ InI i346 ∧ Ow Rp.int 2 true w [] b42 v39 x37 ∧ Zn W b42 ∧ lpN (fun s => F_spec_ColourWays_l2 a1 i173 s.1 s.2) n (i344, i346) = some o377) n380 ⟨x301, 0, ha.sub ⟨rfl, rfl, rfl, rfl, rfl, rfl, trivial⟩, hE175, hI312, (show InI 0 from by decide), h169, z170, hn381⟩ ?_ ?_
            · rintro m385 a w340 ⟨i344, i346, ha, hE348, hI345, hI347, h342, z343, hF⟩
              cases m385 with
              | zero => exact (lpN_zero hF).elim
              | succ m385 =>
                obtain ⟨z384, hF, hN383⟩ := lpN_succ hF
                have hF : F_spec_ColourWays_l2 a1 i173 i344 i346 = some z384 := hF; unfold F_spec_ColourWays_l2 at hF
                refine wp_seq ?_
                refine wp_seq ?_
                refine wp_region_lit ?_
                refine op_g ha rfl (g_move rfl) ?_; clear ha a; intro a ha
                refine op_g ha rfl (g_move rfl) ?_; clear ha a; intro a ha
                refine op_g ha rfl (g_lss rfl rfl) ?_; clear ha a; intro a ha
                refine wpList_nil ?_
                replace ha := ha.sub (σ' := [(1, (.int .i64 a1)), (5, v39), (6, (.int .i64 i171)), (7, (.int .i64 i173)), (8, (.int .i64 i344)), (9, (.int .i64 i346)), (32, (.bool (decide (i346 < i173))))]) ⟨rfl, rfl, rfl, rfl, rfl, rfl, rfl, trivial⟩
                refine e_then ?_
                refine c_cond (i346 < i173) ha rfl (decide_eq_true_iff) (fun hp386 => ?_) (fun hp386 => ?_)
                · replace hF := if_t hp386 hF
                  refine wp_skip ?_
                  refine e_then ?_
                  refine wp_seq ?_
                  refine wp_block ?_
                  refine wp_region_lit ?_
                  refine op_g ha rfl (g_move rfl) ?_; clear ha a; intro a ha
                  refine op_g ha rfl (g_move rfl) ?_; clear ha a; intro a ha
                  refine op_g ha rfl (g_move rfl) ?_; clear ha a; intro a ha
                  obtain ⟨hI387, hF⟩ := ck_some hF
                  refine op_g ha rfl (g_sub rfl rfl hI387) ?_; clear ha a; intro a ha
                  obtain ⟨x389, hc390, hF⟩ := cal_some hF
                  refine o_call ha rfl rfl Try.call27 (W_spec_l1Max hI387 (show InI 0 from by decide) hc390) ?_; clear ha a; rintro v391 w392 ⟨⟨rfl, hI394⟩, hx393⟩ a ha
                  replace h342 := h342.ext hx393
                  have hE395 := Ext.trans hE348 hx393
                  obtain ⟨hI396, hF⟩ := ck_some hF
                  refine op_g ha rfl (g_mul rfl rfl hI396) ?_; clear ha a; intro a ha
                  refine op_g ha rfl (g_assign rfl) ?_; clear ha a; intro a ha
                  refine wpList_nil ?_
                  replace ha := ha.sub (σ' := [(1, (.int .i64 a1)), (5, v39), (6, (.int .i64 i171)), (7, (.int .i64 i173)), (8, (.int .i64 (i344 * x389))), (9, (.int .i64 i346))]) ⟨rfl, rfl, rfl, rfl, rfl, rfl, trivial⟩
                  refine e_blk ?_
                  refine e_then ?_
                  refine wp_region_lit ?_
                  refine op_g ha rfl (g_move rfl) ?_; clear ha a; intro a ha
                  obtain ⟨hI398, hF⟩ := ck_some hF
                  refine op_g ha rfl (g_add rfl rfl hI398) ?_; clear ha a; intro a ha
                  refine op_g ha rfl (g_assign rfl) ?_; clear ha a; intro a ha
                  refine wpList_nil ?_
                  replace ha := ha.sub (σ' := [(1, (.int .i64 a1)), (5, v39), (6, (.int .i64 i171)), (7, (.int .i64 i173)), (8, (.int .i64 (i344 * x389))), (9, (.int .i64 (i346 + 1)))]) ⟨rfl, rfl, rfl, rfl, rfl, rfl, trivial⟩
                  refine e_lq ?_
                  obtain rfl := Option.some.inj hF
                  exact ⟨_, Nat.lt_succ_self _, i344 * x389, i346 + 1, ha.sub ⟨rfl, rfl, rfl, rfl, rfl, rfl, trivial⟩, hE395, hI396, hI398, h342, z343, hN383⟩
                · replace hF := if_f hp386 hF
                  refine wp_exit ?_
                  refine e_then_exit ?_
                  refine e_lq_eq ?_
                  obtain rfl := Option.some.inj hF
                  exact ⟨i344, ha.sub ⟨rfl, rfl, rfl, rfl, rfl, trivial⟩, hE348, hI345, h342, z343, (LK_inr hN383).symm⟩
            · rintro a w371 ⟨i375, ha, hE382, hI376, h373, z374, rfl⟩
              have hF : F_spec_ColourWays_k3 i171 i173 i375 = some _ := hK379; clear hK379; unfold F_spec_ColourWays_k3 at hF
              refine e_then ?_
              refine wp_region_lit ?_
              refine op_g ha rfl (g_move rfl) ?_; clear ha a; intro a ha
              refine op_g ha rfl (g_move rfl) ?_; clear ha a; intro a ha
              obtain ⟨hI400, hF⟩ := ck_some hF
              refine op_g ha rfl (g_add rfl rfl hI400) ?_; clear ha a; intro a ha
              refine op_g ha rfl (g_assign rfl) ?_; clear ha a; intro a ha
              refine wpList_nil ?_
              replace ha := ha.sub (σ' := [(1, (.int .i64 a1)), (5, v39), (6, (.int .i64 (i171 + i375))), (7, (.int .i64 i173))]) ⟨rfl, rfl, rfl, rfl, trivial⟩
              refine e_blk ?_
              refine e_then ?_
              refine wp_region_lit ?_
              refine op_g ha rfl (g_move rfl) ?_; clear ha a; intro a ha
              obtain ⟨hI402, hF⟩ := ck_some hF
              refine op_g ha rfl (g_add rfl rfl hI402) ?_; clear ha a; intro a ha
              refine op_g ha rfl (g_assign rfl) ?_; clear ha a; intro a ha
              refine wpList_nil ?_
              replace ha := ha.sub (σ' := [(1, (.int .i64 a1)), (5, v39), (6, (.int .i64 (i171 + i375))), (7, (.int .i64 (i173 + 1)))]) ⟨rfl, rfl, rfl, rfl, trivial⟩
              refine e_lq ?_
              obtain rfl := Option.some.inj hF
              exact ⟨_, Nat.lt_succ_self _, i171 + i375, i173 + 1, ha.sub ⟨rfl, rfl, rfl, rfl, trivial⟩, hE382, hI400, hI402, h373, z374, hN297⟩
          · replace hF := if_f hp300 hF
            refine wp_exit ?_
            refine e_then_exit ?_
            refine e_lq_eq ?_
            obtain rfl := Option.some.inj hF
            exact ⟨i171, ha.sub ⟨rfl, trivial⟩, hE175, hI172, (LK_inr hN297).symm⟩
      · rintro a w288 ⟨i289, ha, hE296, hI290, rfl⟩
        have hF : F_spec_ColourWays_k4 i289 = some _ := hK293; clear hK293; unfold F_spec_ColourWays_k4 at hF
        refine e_then ?_
        refine wp_seq ?_
        refine wp_region_lit ?_
        refine op_g ha rfl (g_move rfl) ?_; clear ha a; intro a ha
        refine op_g ha rfl (g_assign rfl) ?_; clear ha a; intro a ha
        refine wpList_nil ?_
        replace ha := ha.sub (σ' := [(4, (.int .i64 i289))]) ⟨rfl, trivial⟩
        refine e_then ?_
        refine wp_ret ?_
        obtain rfl := Option.some.inj hF
        exact f_ret1 ha rfl rfl ⟨⟨rfl, hI290⟩, hE296⟩
set_option maxHeartbeats 2000000 in
theorem W_impl_inRange {W : World} {a0 : Int} (ha0 : InI a0) {a1 : Int} (ha1 : InI a1) {a2 : Int} (ha2 : InI a2) {r : Bool} (hF : F_impl_inRange a0 a1 a2 = some r) :
    Calls Try.prog 28 [.int .i64 a0, .int .i64 a1, .int .i64 a2].toArray W (Ret fun u w' => u = .bool r ∧ Ext W w') := by
  refine f_enter Try.func28 rfl Try.ntmps28 rfl ?_
  intro a ha
  replace ha : Fr 15 [(0, (.int .i64 a0)), (1, (.int .i64 a1)), (2, (.int .i64 a2))] a := ha
  have hE : Chg [] W W := Chg.refl _ _
  unfold F_impl_inRange at hF
  refine wp_seq ?_
  refine wp_region_lit ?_
  refine op_g ha rfl (g_assign rfl) ?_; clear ha a; intro a ha
  refine wpList_nil ?_
  replace ha := ha.sub (σ' := [(0, (.int .i64 a0)), (1, (.int .i64 a1)), (2, (.int .i64 a2))]) ⟨rfl, rfl, rfl, trivial⟩
  refine e_then ?_
  refine wp_seq ?_
  refine wp_region_lit ?_
  refine op_g ha rfl (g_move rfl) ?_; clear ha a; intro a ha
  refine op_g ha rfl (g_move rfl) ?_; clear ha a; intro a ha
  refine op_g ha rfl (g_leq rfl rfl) ?_; clear ha a; intro a ha
  refine op_g ha rfl (g_move rfl) ?_; clear ha a; intro a ha
  by_cases hp1 : a1 ≤ a0
  · replace hF := if_t hp1 hF
    rw [show (decide (a1 ≤ a0)) = true from (decide_eq_true_iff).2 hp1] at ha
    refine op_want (yields ha rfl rfl) ?_
    refine op_g ha rfl (g_move rfl) ?_; clear ha a; intro a ha
    refine op_want (yields ha rfl rfl) ?_
    refine op_g ha rfl (g_move rfl) ?_; clear ha a; intro a ha
    refine op_want (yields ha rfl rfl) ?_
    refine op_g ha rfl (g_leq rfl rfl) ?_; clear ha a; intro a ha
    refine op_g ha rfl (g_pick rfl rfl) ?_; clear ha a; intro a ha
    refine op_g ha rfl (g_assign rfl) ?_; clear ha a; intro a ha
    refine wpList_nil ?_
    replace ha := ha.sub (σ' := [(6, (.bool (decide (a0 ≤ a2))))]) ⟨rfl, trivial⟩
    refine e_then ?_
    refine wp_ret ?_
    obtain rfl := Option.some.inj hF
    exact f_ret1 ha rfl rfl ⟨rfl, hE⟩
  · replace hF := if_f hp1 hF
    rw [show (decide (a1 ≤ a0)) = false from b_false (decide_eq_true_iff) hp1] at ha
    refine op_unwant ha rfl (yields ha rfl rfl) rfl ?_; clear ha a; intro a ha
    refine op_unwant ha rfl (yields ha rfl rfl) rfl ?_; clear ha a; intro a ha
    refine op_unwant ha rfl (yields ha rfl rfl) rfl ?_; clear ha a; intro a ha
    refine op_g ha rfl (g_pick rfl rfl) ?_; clear ha a; intro a ha
    refine op_g ha rfl (g_assign rfl) ?_; clear ha a; intro a ha
    refine wpList_nil ?_
    replace ha := ha.sub (σ' := [(6, (.bool false))]) ⟨rfl, trivial⟩
    refine e_then ?_
    refine wp_ret ?_
    obtain rfl := Option.some.inj hF
    exact f_ret1 ha rfl rfl ⟨rfl, hE⟩
set_option maxHeartbeats 2000000 in
theorem W_impl_increasing {W : World} {va0 : Value} {fa0 : List Nat} {a0 : (List Int)} (ha0 : Ro Rp.int W fa0 va0 a0) {a1 : Int} (ha1 : InI a1) {r : Bool} (hF : F_impl_increasing a0 a1 = some r) :
    Calls Try.prog 40 [va0, .int .i64 a1].toArray W (Ret fun u w' => u = .bool r ∧ Ext W w') := by
  refine f_enter Try.func40 rfl Try.ntmps40 rfl ?_
  intro a ha
  replace ha : Fr 33 [(0, va0), (1, (.int .i64 a1))] a := ha
  have hE : Chg [] W W := Chg.refl _ _
  unfold F_impl_increasing at hF
  refine wp_seq ?_
  refine wp_region_lit ?_
  refine op_g ha rfl (g_assign rfl) ?_; clear ha a; intro a ha
  refine wpList_nil ?_
  replace ha := ha.sub (σ' := [(0, va0), (1, (.int .i64 a1))]) ⟨rfl, rfl, trivial⟩
  refine e_then ?_
  refine wp_seq ?_
  refine wp_seq ?_
  refine wp_region_lit ?_
  refine op_g ha rfl (g_move rfl) ?_; clear ha a; intro a ha
  refine op_g ha rfl (g_lenR sl26.und ha0 rfl) ?_; clear ha a; intro a ha
  refine op_g ha rfl (g_move rfl) ?_; clear ha a; intro a ha
  refine wpList_nil ?_
  replace ha := ha.sub (σ' := [(0, va0), (1, (.int .i64 a1)), (7, va0), (8, (.int .i64 (a0.length : Int))), (9, (.int .i64 0))]) ⟨rfl, rfl, rfl, rfl, rfl, trivial⟩
  refine e_then ?_
  obtain ⟨o98, ho99, hK100⟩ := bnd_some hF
  obtain ⟨n101, hn102⟩ := lp_some ho99; clear ho99
  refine c_loop (fun a w => Fr 33 [] a ∧ Chg [] W w ∧ o98 = .inl ()) (fun n a w => ∃ (i49 : Int), Fr 33 [(0, va0), (1, (.int .i64 a1)), (7, va0), (8, (.int .i64 (a0.length : Int))), (9, (.int .i64 i49))] a ∧ Chg [] W w ∧ InI i49 ∧ lpN (fun s => F_impl_increasing_l1 a0 a1 s) n i49 = some o98) n101 ⟨0, ha.sub ⟨rfl, rfl, rfl, rfl, rfl, trivial⟩, hE, (show InI 0 from by decide), hn102⟩ ?_ ?_
  · rintro m106 a w48 ⟨i49, ha, hE51, hI50, hF⟩
    cases m106 with
    | zero => exact (lpN_zero hF).elim
    | succ m106 =>
      obtain ⟨z105, hF, hN104⟩ := lpN_succ hF
      have hF : F_impl_increasing_l1 a0 a1 i49 = some z105 := hF; unfold F_impl_increasing_l1 at hF
      refine wp_seq ?_
      refine wp_region_lit ?_
      refine op_g ha rfl (g_lss rfl rfl) ?_; clear ha a; intro a ha
      refine wpList_nil ?_
      replace ha := ha.sub (σ' := [(0, va0), (1, (.int .i64 a1)), (7, va0), (8, (.int .i64 (a0.length : Int))), (9, (.int .i64 i49)), (10, (.bool (decide (i49 < (a0.length : Int)))))]) ⟨rfl, rfl, rfl, rfl, rfl, rfl, trivial⟩
      refine e_then ?_
      refine wp_seq ?_
      refine c_cond (i49 < (a0.length : Int)) ha rfl (decide_eq_true_iff) (fun hp107 => ?_) (fun hp107 => ?_)
      · replace hF := if_t hp107 hF
        refine wp_skip ?_
        refine e_then ?_
        refine wp_seq ?_
        refine wp_block ?_
        refine wp_seq ?_
        refine wp_region_lit ?_
        refine op_g ha rfl (g_move rfl) ?_; clear ha a; intro a ha
        obtain ⟨x108, g109, gx110, hF⟩ := idx_some hF
        obtain ⟨p111, cs112, f113, hf114, hpb115, hat116, hr117, hi118⟩ := ha0.at g109 gx110
        obtain ⟨rfl, hI119, rfl⟩ := hr117
        refine op_g ha rfl (hi118.gives sl26 rfl rfl) ?_; clear ha a; intro a ha
        refine op_g ha rfl (g_load0 hE51 Try.isAgg2 rfl hat116.one) ?_; clear ha a; intro a ha
        refine op_g ha rfl (g_assign rfl) ?_; clear ha a; intro a ha
        refine op_g ha rfl (g_assign rfl) ?_; clear ha a; intro a ha
        refine wpList_nil ?_
        replace ha := ha.sub (σ' := [(0, va0), (1, (.int .i64 a1)), (5, (.int .i64 i49)), (6, (.int .i64 x108)), (7, va0), (8, (.int .i64 (a0.length : Int))), (9, (.int .i64 i49))]) ⟨rfl, rfl, rfl, rfl, rfl, rfl, rfl, trivial⟩
        refine e_then ?_
        refine wp_seq ?_
        refine wp_region_lit ?_
        refine op_g ha rfl (g_move rfl) ?_; clear ha a; intro a ha
        refine op_g ha rfl (g_move rfl) ?_; clear ha a; intro a ha
        obtain ⟨hI120, hF⟩ := ck_some hF
        refine op_g ha rfl (g_sub rfl rfl hI120) ?_; clear ha a; intro a ha
        obtain ⟨x122, hc123, hF⟩ := cal_some hF
        refine o_call ha rfl rfl Try.call28 (W_impl_inRange hI119 (show InI 0 from by decide) hI120 hc123) ?_; clear ha a; rintro v124 w125 ⟨rfl, hx126⟩ a ha
        have hE127 := Ext.trans hE51 hx126
        refine op_g ha rfl (g_not rfl) ?_; clear ha a; intro a ha
        refine op_g ha rfl (g_move rfl) ?_; clear ha a; intro a ha
        by_cases hp128 : ¬ (x122 = true)
        · replace hF := if_t hp128 hF
          rw [show (!x122) = true from (n_iff (Iff.rfl)).2 hp128] at ha
          refine op_unwant ha rfl (yields ha rfl rfl) rfl ?_; clear ha a; intro a ha
          refine op_unwant ha rfl (yields ha rfl rfl) rfl ?_; clear ha a; intro a ha
          refine op_unwant ha rfl (yields ha rfl rfl) rfl ?_; clear ha a; intro a ha
          refine op_unwant0 ha rfl (yields0 ha rfl rfl) ?_; clear ha a; intro a ha
          refine op_unwant0 ha rfl (yields0 ha rfl rfl) ?_; clear ha a; intro a ha
          refine op_unwant0 ha rfl (yields0 ha rfl rfl) ?_; clear ha a; intro a ha
          refine op_unwant0 ha rfl (yields0 ha rfl rfl) ?_; clear ha a; intro a ha
          refine op_unwant0 ha rfl (yields0 ha rfl rfl) ?_; clear ha a; intro a ha
          refine op_unwant0 ha rfl (yields0 ha rfl rfl) ?_; clear ha a; intro a ha
          refine op_unwant0 ha rfl (yields0 ha rfl rfl) ?_; clear ha a; intro a ha
          refine op_unwant ha rfl (yields ha rfl rfl) rfl ?_; clear ha a; intro a ha
          refine op_g ha rfl (g_pick rfl rfl) ?_; clear ha a; intro a ha
          refine wpList_nil ?_
          replace ha := ha.sub (σ' := [(0, va0), (1, (.int .i64 a1)), (7, va0), (8, (.int .i64 (a0.length : Int))), (9, (.int .i64 i49)), (31, (.bool true))]) ⟨rfl, rfl, rfl, rfl, rfl, rfl, trivial⟩
          refine e_then ?_
          refine c_true ha rfl ?_
          refine wp_seq ?_
          refine wp_region_lit ?_
          refine op_g ha rfl (g_assign rfl) ?_; clear ha a; intro a ha
          refine wpList_nil ?_
          replace ha := ha.sub (σ' := [(4, (.bool false))]) ⟨rfl, trivial⟩
          refine e_then ?_
          refine wp_ret ?_
          refine e_blk_ret ?_
          refine e_then_ret ?_
          refine e_lq_ret ?_
          refine e_then_ret ?_
          obtain rfl := Option.some.inj hF
          have e129 := LK_inr hN104; subst e129
          have e130 := BK_inr hK100; subst e130
          exact f_ret1 ha rfl rfl ⟨rfl, hE127⟩
        · replace hF := if_f hp128 hF
          rw [show (!x122) = false from b_false (n_iff (Iff.rfl)) hp128] at ha
          refine op_want (yields ha rfl rfl) ?_
          refine op_g ha rfl (g_move rfl) ?_; clear ha a; intro a ha
          refine op_want (yields ha rfl rfl) ?_
          refine op_g ha rfl (g_gtr rfl rfl) ?_; clear ha a; intro a ha
          refine op_want (yields ha rfl rfl) ?_
          refine op_g ha rfl (g_move rfl) ?_; clear ha a; intro a ha
          by_cases hp131 : 0 < i49
          · replace hF := if_t hp131 hF
            rw [show (decide (0 < i49)) = true from (decide_eq_true_iff).2 hp131] at ha
            refine op_want (yields ha rfl rfl) ?_
            refine op_g ha rfl (g_move rfl) ?_; clear ha a; intro a ha
            refine op_want (yields ha rfl rfl) ?_
            refine op_g ha rfl (g_move rfl) ?_; clear ha a; intro a ha
            refine op_want (yields ha rfl rfl) ?_
            obtain ⟨hI132, hF⟩ := ck_some hF
            refine op_g ha rfl (g_sub rfl rfl hI132) ?_; clear ha a; intro a ha
            refine op_want (yields ha rfl rfl) ?_
            obtain ⟨x134, g135, gx136, hF⟩ := idx_some hF
            obtain ⟨p137, cs138, f139, hf140, hpb141, hat142, hr143, hi144⟩ := ha0.at g135 gx136
            obtain ⟨rfl, hI145, rfl⟩ := hr143
            refine op_g ha rfl (hi144.gives sl26 rfl rfl) ?_; clear ha a; intro a ha
            refine op_want (yields ha rfl rfl) ?_
            refine op_g ha rfl (g_load0 hE127 Try.isAgg2 rfl hat142.one) ?_; clear ha a; intro a ha
            refine op_want (yields ha rfl rfl) ?_
            refine op_g ha rfl (g_move rfl) ?_; clear ha a; intro a ha
            refine op_want (yields ha rfl rfl) ?_
            refine op_g ha rfl (g_geq rfl rfl) ?_; clear ha a; intro a ha
            refine op_want (yields ha rfl rfl) ?_
            refine op_g ha rfl (g_pick rfl rfl) ?_; clear ha a; intro a ha
            refine op_g ha rfl (g_pick rfl rfl) ?_; clear ha a; intro a ha
            refine wpList_nil ?_
            replace ha := ha.sub (σ' := [(0, va0), (1, (.int .i64 a1)), (7, va0), (8, (.int .i64 (a0.length : Int))), (9, (.int .i64 i49)), (20, (.int .i64 i49)), (21, (.bool true)), (22, (.bool true)), (23, va0), (24, (.int .i64 i49)), (25, (.int .i64 (i49 - 1))), (26, (.pointer (some p137))), (27, (.int .i64 x134)), (28, (.int .i64 x108)), (29, (.bool (decide (x108 ≤ x134)))), (30, (.bool (decide (x108 ≤ x134)))), (31, (.bool (decide (x108 ≤ x134))))]) ⟨rfl, rfl, rfl, rfl, rfl, rfl, rfl, rfl, rfl, rfl, rfl, rfl, rfl, rfl, rfl, rfl, rfl, trivial⟩
            refine e_then ?_
            refine c_cond (x108 ≤ x134) ha rfl (decide_eq_true_iff) (fun hp146 => ?_) (fun hp146 => ?_)
            · replace hF := if_t hp146 hF
              refine wp_seq ?_
              refine wp_region_lit ?_
              refine op_g ha rfl (g_assign rfl) ?_; clear ha a; intro a ha
              refine wpList_nil ?_
              replace ha := ha.sub (σ' := [(4, (.bool false))]) ⟨rfl, trivial⟩
              refine e_then ?_
              refine wp_ret ?_
              refine e_blk_ret ?_
              refine e_then_ret ?_
              refine e_lq_ret ?_
              refine e_then_ret ?_
              obtain rfl := Option.some.inj hF
              have e147 := LK_inr hN104; subst e147
              have e148 := BK_inr hK100; subst e148
              exact f_ret1 ha rfl rfl ⟨rfl, hE127⟩
            · replace hF := if_f hp146 hF
              refine wp_skip ?_
              refine e_blk ?_
              refine e_then ?_
              refine wp_region_lit ?_
              obtain ⟨hI149, hF⟩ := ck_some hF
              refine op_g ha rfl (g_add rfl rfl hI149) ?_; clear ha a; intro a ha
              refine op_g ha rfl (g_move rfl) ?_; clear ha a; intro a ha
              refine wpList_nil ?_
              replace ha := ha.sub (σ' := [(0, va0), (1, (.int .i64 a1)), (7, va0), (8, (.int .i64 (a0.length : Int))), (9, (.int .i64 (i49 + 1))), (20, (.int .i64 i49)), (21, (.bool true)), (22, (.bool true)), (23, va0), (24, (.int .i64 i49)), (25, (.int .i64 (i49 - 1))), (26, (.pointer (some p137))), (27, (.int .i64 x134)), (28, (.int .i64 x108)), (29, (.bool (decide (x108 ≤ x134)))), (30, (.bool (decide (x108 ≤ x134))))]) ⟨rfl, rfl, rfl, rfl, rfl, rfl, rfl, rfl, rfl, rfl, rfl, rfl, rfl, rfl, rfl, rfl, trivial⟩
              refine e_lq ?_
              obtain rfl := Option.some.inj hF
              exact ⟨_, Nat.lt_succ_self _, i49 + 1, ha.sub ⟨rfl, rfl, rfl, rfl, rfl, trivial⟩, hE127, hI149, hN104⟩
          · replace hF := if_f hp131 hF
            rw [show (decide (0 < i49)) = false from b_false (decide_eq_true_iff) hp131] at ha
            refine op_unwant ha rfl (yields ha rfl rfl) rfl ?_; clear ha a; intro a ha
            refine op_unwant ha rfl (yields ha rfl rfl) rfl ?_; clear ha a; intro a ha
            refine op_unwant ha rfl (yields ha rfl rfl) rfl ?_; clear ha a; intro a ha
            refine op_unwant ha rfl (yields ha rfl rfl) rfl ?_; clear ha a; intro a ha
            refine op_unwant ha rfl (yields ha rfl rfl) rfl ?_; clear ha a; intro a ha
            refine op_unwant ha rfl (yields ha rfl rfl) rfl ?_; clear ha a; intro a ha
            refine op_unwant ha rfl (yields ha rfl rfl) rfl ?_; clear ha a; intro a ha
            refine op_want (yields ha rfl rfl) ?_
            refine op_g ha rfl (g_pick rfl rfl) ?_; clear ha a; intro a ha
            refine op_g ha rfl (g_pick rfl rfl) ?_; clear ha a; intro a ha
            refine wpList_nil ?_
            replace ha := ha.sub (σ' := [(0, va0), (1, (.int .i64 a1)), (7, va0), (8, (.int .i64 (a0.length : Int))), (9, (.int .i64 i49)), (20, (.int .i64 i49)), (21, (.bool false)), (22, (.bool false)), (30, (.bool false)), (31, (.bool false))]) ⟨rfl, rfl, rfl, rfl, rfl, rfl, rfl, rfl, rfl, rfl, trivial⟩
            refine e_then ?_
            refine c_false ha rfl ?_
            refine wp_skip ?_
            refine e_blk ?_
            refine e_then ?_
            refine wp_region_lit ?_
            obtain ⟨hI151, hF⟩ := ck_some hF
            refine op_g ha rfl (g_add rfl rfl hI151) ?_; clear ha a; intro a ha
            refine op_g ha rfl (g_move rfl) ?_; clear ha a; intro a ha
            refine wpList_nil ?_
            replace ha := ha.sub (σ' := [(0, va0), (1, (.int .i64 a1)), (7, va0), (8, (.int .i64 (a0.length : Int))), (9, (.int .i64 (i49 + 1))), (20, (.int .i64 i49)), (21, (.bool false)), (22, (.bool false)), (30, (.bool false))]) ⟨rfl, rfl, rfl, rfl, rfl, rfl, rfl, rfl, rfl, trivial⟩
            refine e_lq ?_
            obtain rfl := Option.some.inj hF
            exact ⟨_, Nat.lt_succ_self _, i49 + 1, ha.sub ⟨rfl, rfl, rfl, rfl, rfl, trivial⟩, hE127, hI151, hN104⟩
      · replace hF := if_f hp107 hF
        refine wp_exit ?_
        refine e_then_exit ?_
        refine e_lq_eq ?_
        obtain rfl := Option.some.inj hF
        exact ⟨ha.sub trivial, hE51, (LK_inr hN104).symm⟩
  · rintro a w97 ⟨ha, hE103, rfl⟩
    have hF : F_impl_increasing_k2 = some _ := hK100; clear hK100; unfold F_impl_increasing_k2 at hF
    refine e_then ?_
    refine wp_seq ?_
    refine wp_region_lit ?_
    refine op_g ha rfl (g_assign rfl) ?_; clear ha a; intro a ha
    refine wpList_nil ?_
    refine e_then ?_
    refine wp_ret ?_
    obtain rfl := Option.some.inj hF
    exact f_ret1 ha rfl rfl ⟨rfl, hE103⟩
set_option maxHeartbeats 2000000 in
theorem W_slices_Index_int64 {W : World} {va0 : Value} {fa0 : List Nat} {a0 : (List Int)} (ha0 : Ro Rp.int W fa0 va0 a0) {a1 : Int} (ha1 : InI a1) {r : Int} (hF : F_slices_Index_int64 a0 a1 = some r) :
    Calls Try.prog 42 [va0, .int .i64 a1].toArray W (Ret fun u w' => (u = .int .i64 r ∧ InI r) ∧ Ext W w') := by
  refine f_enter Try.func42 rfl Try.ntmps42 rfl ?_
  intro a ha
  replace ha : Fr 19 [(0, va0), (1, (.int .i64 a1))] a := ha
  have hE : Chg [] W W := Chg.refl _ _
  unfold F_slices_Index_int64 at hF
  refine wp_seq ?_
  refine wp_region_lit ?_
  refine op_g ha rfl (g_assign rfl) ?_; clear ha a; intro a ha
  refine wpList_nil ?_
  replace ha := ha.sub (σ' := [(0, va0), (1, (.int .i64 a1))]) ⟨rfl, rfl, trivial⟩
  refine e_then ?_
  refine wp_seq ?_
  refine wp_seq ?_
  refine wp_region_lit ?_
  refine op_g ha rfl (g_move rfl) ?_; clear ha a; intro a ha
  refine op_g ha rfl (g_lenR sl26.und ha0 rfl) ?_; clear ha a; intro a ha
  refine op_g ha rfl (g_move rfl) ?_; clear ha a; intro a ha
  refine wpList_nil ?_
  replace ha := ha.sub (σ' := [(0, va0), (1, (.int .i64 a1)), (7, (.int .i64 (a0.length : Int))), (8, (.int .i64 0))]) ⟨rfl, rfl, rfl, rfl, trivial⟩
  refine e_then ?_
  obtain ⟨o46, ho47, hK48⟩ := bnd_some hF
  obtain ⟨n49, hn50⟩ := lp_some ho47; clear ho47
  refine c_loop (fun a w => Fr 19 [] a ∧ Chg [] W w ∧ o46 = .inl ()) (fun n a w => ∃ (i23 : Int), Fr 19 [(0, va0), (1, (.int .i64 a1)), (7, (.int .i64 (a0.length : Int))), (8, (.int .i64 i23))] a ∧ Chg [] W w ∧ InI i23 ∧ lpN (fun s => F_slices_Index_int64_l1 a0 a1 s) n i23 = some o46) n49 ⟨0, ha.sub ⟨rfl, rfl, rfl, rfl, trivial⟩, hE, (show InI 0 from by decide), hn50⟩ ?_ ?_
  · rintro m54 a w22 ⟨i23, ha, hE25, hI24, hF⟩
    cases m54 with
    | zero => exact (lpN_zero hF).elim
    | succ m54 =>
      obtain ⟨z53, hF, hN52⟩ := lpN_succ hF
      have hF : F_slices_Index_int64_l1 a0 a1 i23 = some z53 := hF; unfold F_slices_Index_int64_l1 at hF
      refine wp_seq ?_
      refine wp_region_lit ?_
      refine op_g ha rfl (g_lss rfl rfl) ?_; clear ha a; intro a ha
      refine wpList_nil ?_
      replace ha := ha.sub (σ' := [(0, va0), (1, (.int .i64 a1)), (7, (.int .i64 (a0.length : Int))), (8, (.int .i64 i23)), (9, (.bool (decide (i23 < (a0.length : Int)))))]) ⟨rfl, rfl, rfl, rfl, rfl, trivial⟩
      refine e_then ?_
      refine wp_seq ?_
      refine c_cond (i23 < (a0.length : Int)) ha rfl (decide_eq_true_iff) (fun hp55 => ?_) (fun hp55 => ?_)
      · replace hF := if_t hp55 hF
        refine wp_skip ?_
        refine e_then ?_
        refine wp_seq ?_
        refine wp_block ?_
        refine wp_seq ?_
        refine wp_region_lit ?_
        refine op_g ha rfl (g_move rfl) ?_; clear ha a; intro a ha
        refine op_g ha rfl (g_assign rfl) ?_; clear ha a; intro a ha
        refine wpList_nil ?_
        replace ha := ha.sub (σ' := [(0, va0), (1, (.int .i64 a1)), (5, (.int .i64 i23)), (7, (.int .i64 (a0.length : Int))), (8, (.int .i64 i23))]) ⟨rfl, rfl, rfl, rfl, rfl, trivial⟩
        refine e_then ?_
        refine wp_seq ?_
        refine wp_region_lit ?_
        refine op_g ha rfl (g_move rfl) ?_; clear ha a; intro a ha
        refine op_g ha rfl (g_move rfl) ?_; clear ha a; intro a ha
        refine op_g ha rfl (g_move rfl) ?_; clear ha a; intro a ha
        obtain ⟨x56, g57, gx58, hF⟩ := idx_some hF
        obtain ⟨p59, cs60, f61, hf62, hpb63, hat64, hr65, hi66⟩ := ha0.at g57 gx58
        obtain ⟨rfl, hI67, rfl⟩ := hr65
        refine op_g ha rfl (hi66.gives sl26 rfl rfl) ?_; clear ha a; intro a ha
        refine op_g ha rfl (g_load0 hE25 Try.isAgg2 rfl hat64.one) ?_; clear ha a; intro a ha
        refine op_g ha rfl (g_eql rfl rfl) ?_; clear ha a; intro a ha
        refine wpList_nil ?_
        replace ha := ha.sub (σ' := [(0, va0), (1, (.int .i64 a1)), (5, (.int .i64 i23)), (7, (.int .i64 (a0.length : Int))), (8, (.int .i64 i23)), (16, (.bool (decide (a1 = x56))))]) ⟨rfl, rfl, rfl, rfl, rfl, rfl, trivial⟩
        refine e_then ?_
        refine c_cond (a1 = x56) ha rfl (decide_eq_true_iff) (fun hp68 => ?_) (fun hp68 => ?_)
        · replace hF := if_t hp68 hF
          refine wp_seq ?_
          refine wp_region_lit ?_
          refine op_g ha rfl (g_move rfl) ?_; clear ha a; intro a ha
          refine op_g ha rfl (g_assign rfl) ?_; clear ha a; intro a ha
          refine wpList_nil ?_
          replace ha := ha.sub (σ' := [(4, (.int .i64 i23))]) ⟨rfl, trivial⟩
          refine e_then ?_
          refine wp_ret ?_
          refine e_blk_ret ?_
          refine e_then_ret ?_
          refine e_lq_ret ?_
          refine e_then_ret ?_
          obtain rfl := Option.some.inj hF
          have e69 := LK_inr hN52; subst e69
          have e70 := BK_inr hK48; subst e70
          exact f_ret1 ha rfl rfl ⟨⟨rfl, hI24⟩, hE25⟩
        · replace hF := if_f hp68 hF
          refine wp_skip ?_
          refine e_blk ?_
          refine e_then ?_
          refine wp_region_lit ?_
          obtain ⟨hI71, hF⟩ := ck_some hF
          refine op_g ha rfl (g_add rfl rfl hI71) ?_; clear ha a; intro a ha
          refine op_g ha rfl (g_move rfl) ?_; clear ha a; intro a ha
          refine wpList_nil ?_
          replace ha := ha.sub (σ' := [(0, va0), (1, (.int .i64 a1)), (7, (.int .i64 (a0.length : Int))), (8, (.int .i64 (i23 + 1)))]) ⟨rfl, rfl, rfl, rfl, trivial⟩
          refine e_lq ?_
          obtain rfl := Option.some.inj hF
          exact ⟨_, Nat.lt_succ_self _, i23 + 1, ha.sub ⟨rfl, rfl, rfl, rfl, trivial⟩, hE25, hI71, hN52⟩
      · replace hF := if_f hp55 hF
        refine wp_exit ?_
        refine e_then_exit ?_
        refine e_lq_eq ?_
        obtain rfl := Option.some.inj hF
        exact ⟨ha.sub trivial, hE25, (LK_inr hN52).symm⟩
  · rintro a w45 ⟨ha, hE51, rfl⟩
    have hF : F_slices_Index_int64_k2 = some _ := hK48; clear hK48; unfold F_slices_Index_int64_k2 at hF
    refine e_then ?_
    refine wp_seq ?_
    refine wp_region_lit ?_
    refine op_g ha rfl (g_assign rfl) ?_; clear ha a; intro a ha
    refine wpList_nil ?_
    refine e_then ?_
    refine wp_ret ?_
    obtain rfl := Option.some.inj hF
    exact f_ret1 ha rfl rfl ⟨⟨rfl, (show InI (-1) from by decide)⟩, hE51⟩
set_option maxHeartbeats 2000000 in
theorem W_slices_Contains_int64 {W : World} {va0 : Value} {fa0 : List Nat} {a0 : (List Int)} (ha0 : Ro Rp.int W fa0 va0 a0) {a1 : Int} (ha1 : InI a1) {r : Bool} (hF : F_slices_Contains_int64 a0 a1 = some r) :
    Calls Try.prog 41 [va0, .int .i64 a1].toArray W (Ret fun u w' => u = .bool r ∧ Ext W w') := by
  refine f_enter Try.func41 rfl Try.ntmps41 rfl ?_
  intro a ha
  replace ha : Fr 9 [(0, va0), (1, (.int .i64 a1))] a := ha
  have hE : Chg [] W W := Chg.refl _ _
  unfold F_slices_Contains_int64 at hF
  refine wp_seq ?_
  refine wp_region_lit ?_
  refine op_g ha rfl (g_assign rfl) ?_; clear ha a; intro a ha
  refine wpList_nil ?_
  replace ha := ha.sub (σ' := [(0, va0), (1, (.int .i64 a1))]) ⟨rfl, rfl, trivial⟩
  refine e_then ?_
  refine wp_seq ?_
  refine wp_region_lit ?_
  refine op_g ha rfl (g_move rfl) ?_; clear ha a; intro a ha
  refine op_g ha rfl (g_move rfl) ?_; clear ha a; intro a ha
  obtain ⟨x1, hc2, hF⟩ := cal_some hF
  refine o_call ha rfl rfl Try.call42 (W_slices_Index_int64 (ha0.ext hE) ha1 hc2) ?_; clear ha a; rintro v3 w4 ⟨⟨rfl, hI6⟩, hx5⟩ a ha
  have hE7 := Ext.trans hE hx5
  refine op_g ha rfl (g_geq rfl rfl) ?_; clear ha a; intro a ha
  refine op_g ha rfl (g_assign rfl) ?_; clear ha a; intro a ha
  refine wpList_nil ?_
  replace ha := ha.sub (σ' := [(4, (.bool (decide (0 ≤ x1))))]) ⟨rfl, trivial⟩
  refine e_then ?_
  refine wp_ret ?_
  obtain rfl := Option.some.inj hF
  exact f_ret1 ha rfl rfl ⟨rfl, hE7⟩
set_option maxHeartbeats 2000000 in
theorem W_impl_GraphOk {W : World} {va0_0 : Value} {fa0_0 : List Nat} {a0_0 : (List (List Int))} (ha0_0 : Ro (Rp.sl 2 Rp.int) W fa0_0 va0_0 a0_0) {r : Bool} (hF : F_impl_GraphOk a0_0 = some r) :
    Calls Try.prog 33 [.agg #[va0_0]].toArray W (Ret fun u w' => u = .bool r ∧ Ext W w') := by
  refine f_enter Try.func33 rfl Try.ntmps33 rfl ?_
  intro a ha
  replace ha : Fr 61 [(0, (.agg #[va0_0]))] a := ha
  have hE : Chg [] W W := Chg.refl _ _
  unfold F_impl_GraphOk at hF
  refine wp_seq ?_
  refine wp_region_lit ?_
  refine o_box ha rfl rfl rfl ?_; clear ha a; intro b1 w2 hB3 hx4 hlo5 a ha
  have q6 := Zn.one hlo5
  have q7 := Zn.upD q6 hE
  have hE8 := Ext.trans hE hx4
  refine op_g ha rfl (g_assign rfl) ?_; clear ha a; intro a ha
  refine wpList_nil ?_
  replace ha := ha.sub (σ' := [(1, (.pointer (some ⟨b1, 0, none⟩)))]) ⟨rfl, trivial⟩
  refine e_then ?_
  refine wp_seq ?_
  refine wp_region_lit ?_
  refine op_g ha rfl (g_field0 st28_0 rfl) ?_; clear ha a; intro a ha
  refine op_g ha rfl (g_load Try.isAgg22 rfl (hB3.cell rfl)) ?_; clear ha a; intro a ha
  refine op_g ha rfl (g_lenR sl22.und ha0_0 rfl) ?_; clear ha a; intro a ha
  refine op_g ha rfl (g_assign rfl) ?_; clear ha a; intro a ha
  refine wpList_nil ?_
  replace ha := ha.sub (σ' := [(1, (.pointer (some ⟨b1, 0, none⟩))), (3, (.int .i64 (a0_0.length : Int)))]) ⟨rfl, rfl, trivial⟩
  refine e_then ?_
  refine wp_seq ?_
  refine wp_seq ?_
  refine wp_region_lit ?_
  refine op_g ha rfl (g_move rfl) ?_; clear ha a; intro a ha
  refine op_g ha rfl (g_lss rfl rfl) ?_; clear ha a; intro a ha
  refine op_g ha rfl (g_move rfl) ?_; clear ha a; intro a ha
  by_cases hp11 : (a0_0.length : Int) < 1
  · replace hF := if_t hp11 hF
    rw [show (decide ((a0_0.length : Int) < 1)) = true from (decide_eq_true_iff).2 hp11] at ha
    refine op_unwant ha rfl (yields ha rfl rfl) rfl ?_; clear ha a; intro a ha
    refine op_unwant ha rfl (yields ha rfl rfl) rfl ?_; clear ha a; intro a ha
    refine op_g ha rfl (g_pick rfl rfl) ?_; clear ha a; intro a ha
    refine wpList_nil ?_
    replace ha := ha.sub (σ' := [(1, (.pointer (some ⟨b1, 0, none⟩))), (3, (.int .i64 (a0_0.length : Int))), (18, (.bool true))]) ⟨rfl, rfl, rfl, trivial⟩
    refine e_then ?_
    refine c_true ha rfl ?_
    refine wp_seq ?_
    refine wp_region_lit ?_
    refine op_g ha rfl (g_assign rfl) ?_; clear ha a; intro a ha
    refine wpList_nil ?_
    replace ha := ha.sub (σ' := [(2, (.bool false))]) ⟨rfl, trivial⟩
    refine e_then ?_
    refine wp_ret ?_
    refine e_then_ret ?_
    obtain rfl := Option.some.inj hF
    exact f_ret1 ha rfl rfl ⟨rfl, hE8⟩
  · replace hF := if_f hp11 hF
    rw [show (decide ((a0_0.length : Int) < 1)) = false from b_false (decide_eq_true_iff) hp11] at ha
    refine op_want (yields ha rfl rfl) ?_
    refine op_g ha rfl (g_move rfl) ?_; clear ha a; intro a ha
    refine op_want (yields ha rfl rfl) ?_
    refine op_g ha rfl (g_gtr rfl rfl) ?_; clear ha a; intro a ha
    refine op_g ha rfl (g_pick rfl rfl) ?_; clear ha a; intro a ha
    refine wpList_nil ?_
    replace ha := ha.sub (σ' := [(1, (.pointer (some ⟨b1, 0, none⟩))), (3, (.int .i64 (a0_0.length : Int))), (18, (.bool (decide (16 < (a0_0.length : Int)))))]) ⟨rfl, rfl, rfl, trivial⟩
    refine e_then ?_
    refine c_cond (16 < (a0_0.length : Int)) ha rfl (decide_eq_true_iff) (fun hp12 => ?_) (fun hp12 => ?_)
    · replace hF := if_t hp12 hF
      refine wp_seq ?_
      refine wp_region_lit ?_
      refine op_g ha rfl (g_assign rfl) ?_; clear ha a; intro a ha
      refine wpList_nil ?_
      replace ha := ha.sub (σ' := [(2, (.bool false))]) ⟨rfl, trivial⟩
      refine e_then ?_
      refine wp_ret ?_
      refine e_then_ret ?_
      obtain rfl := Option.some.inj hF
      exact f_ret1 ha rfl rfl ⟨rfl, hE8⟩
    · replace hF := if_f hp12 hF
      refine wp_skip ?_
      refine e_then ?_
      refine wp_seq ?_
      refine wp_seq ?_
      refine wp_region_lit ?_
      refine op_g ha rfl (g_field0 st28_0 rfl) ?_; clear ha a; intro a ha
      refine op_g ha rfl (g_load Try.isAgg22 rfl (hB3.cell rfl)) ?_; clear ha a; intro a ha
      refine op_g ha rfl (g_lenR sl22.und ha0_0 rfl) ?_; clear ha a; intro a ha
      refine op_g ha rfl (g_move rfl) ?_; clear ha a; intro a ha
      refine wpList_nil ?_
      replace ha := ha.sub (σ' := [(1, (.pointer (some ⟨b1, 0, none⟩))), (3, (.int .i64 (a0_0.length : Int))), (20, va0_0), (21, (.int .i64 (a0_0.length : Int))), (22, (.int .i64 0))]) ⟨rfl, rfl, rfl, rfl, rfl, trivial⟩
      refine e_then ?_
      obtain ⟨o98, ho99, hK100⟩ := bnd_some hF
      obtain ⟨n101, hn102⟩ := lp_some ho99; clear ho99
      refine c_loop (fun a w => Fr 61 [(1, (.pointer (some ⟨b1, 0, none⟩)))] a ∧ Chg [] W w ∧ Bx w b1 [va0_0] 28 ∧ Zn W (b1 : Int) ∧ o98 = .inl ()) (fun n a w => ∃ (i56 : Int), Fr 61 [(1, (.pointer (some ⟨b1, 0, none⟩))), (3, (.int .i64 (a0_0.length : Int))), (20, va0_0), (21, (.int .i64 (a0_0.length : Int))), (22, (.int .i64 i56))] a ∧ Chg [] W w ∧ InI i56 ∧ Bx w b1 [va0_0] 28 ∧ Zn W (b1 : Int) ∧ lpN (fun s => F_impl_GraphOk_l1 a0_0 s) n i56 = some o98) n101 ⟨0, ha.sub ⟨rfl, rfl, rfl, rfl, rfl, trivial⟩, hE8, (show InI 0 from by decide), hB3, q7, hn102⟩ ?_ ?_
      · rintro m106 a w53 ⟨i56, ha, hE58, hI57, hB54, z55, hF⟩
        cases m106 with
        | zero => exact (lpN_zero hF).elim
        | succ m106 =>
          obtain ⟨z105, hF, hN104⟩ := lpN_succ hF
          have hF : F_impl_GraphOk_l1 a0_0 i56 = some z105 := hF; unfold F_impl_GraphOk_l1 at hF
          refine wp_seq ?_
          refine wp_region_lit ?_
          refine op_g ha rfl (g_lss rfl rfl) ?_; clear ha a; intro a ha
          refine wpList_nil ?_
          replace ha := ha.sub (σ' := [(1, (.pointer (some ⟨b1, 0, none⟩))), (3, (.int .i64 (a0_0.length : Int))), (20, va0_0), (21, (.int .i64 (a0_0.length : Int))), (22, (.int .i64 i56)), (23, (.bool (decide (i56 < (a0_0.length : Int)))))]) ⟨rfl, rfl, rfl, rfl, rfl, rfl, trivial⟩
          refine e_then ?_
          refine wp_seq ?_
          refine c_cond (i56 < (a0_0.length : Int)) ha rfl (decide_eq_true_iff) (fun hp107 => ?_) (fun hp107 => ?_)
          · replace hF := if_t hp107 hF
            refine wp_skip ?_
            refine e_then ?_
            refine wp_seq ?_
            refine wp_block ?_
            refine wp_seq ?_
            refine wp_region_lit ?_
            refine op_g ha rfl (g_move rfl) ?_; clear ha a; intro a ha
            obtain ⟨x108, g109, gx110, hF⟩ := idx_some hF
            obtain ⟨p111, cs112, f113, hf114, hpb115, hat116, hr117, hi118⟩ := ha0_0.at g109 gx110
            obtain ⟨v119, rfl, h120⟩ := hr117
            have h120 : Ro Rp.int W f113 v119 x108 := h120
            refine op_g ha rfl (hi118.gives sl22 rfl rfl) ?_; clear ha a; intro a ha
            refine op_g ha rfl (g_load0 hE58 Try.isAgg26 rfl hat116.one) ?_; clear ha a; intro a ha
            refine op_g ha rfl (g_assign rfl) ?_; clear ha a; intro a ha
            refine op_g ha rfl (g_assign rfl) ?_; clear ha a; intro a ha
            refine wpList_nil ?_
            replace ha := ha.sub (σ' := [(1, (.pointer (some ⟨b1, 0, none⟩))), (3, (.int .i64 (a0_0.length : Int))), (4, (.int .i64 i56)), (5, v119), (20, va0_0), (21, (.int .i64 (a0_0.length : Int))), (22, (.int .i64 i56))]) ⟨rfl, rfl, rfl, rfl, rfl, rfl, rfl, trivial⟩
            refine e_then ?_
            refine wp_seq ?_
            refine wp_region_lit ?_
            refine op_g ha rfl (g_move rfl) ?_; clear ha a; intro a ha
            refine op_g ha rfl (g_move rfl) ?_; clear ha a; intro a ha
            obtain ⟨x122, hc123, hF⟩ := cal_some hF
            refine o_call ha rfl rfl Try.call40 (W_impl_increasing (h120.ext hE58) ha0_0.len hc123) ?_; clear ha a; rintro v124 w125 ⟨rfl, hx126⟩ a ha
            replace hB54 := hB54.ext hx126
            have hE127 := Ext.trans hE58 hx126
            refine op_g ha rfl (g_not rfl) ?_; clear ha a; intro a ha
            refine op_g ha rfl (g_move rfl) ?_; clear ha a; intro a ha
            by_cases hp128 : ¬ (x122 = true)
            · replace hF := if_t hp128 hF
              rw [show (!x122) = true from (n_iff (Iff.rfl)).2 hp128] at ha
              refine op_unwant ha rfl (yields ha rfl rfl) rfl ?_; clear ha a; intro a ha
              refine op_unwant ha rfl (yields ha rfl rfl) rfl ?_; clear ha a; intro a ha
              refine op_unwant ha rfl (yields ha rfl rfl) rfl ?_; clear ha a; intro a ha
              refine op_g ha rfl (g_pick rfl rfl) ?_; clear ha a; intro a ha
              refine wpList_nil ?_
              replace ha := ha.sub (σ' := [(1, (.pointer (some ⟨b1, 0, none⟩))), (3, (.int .i64 (a0_0.length : Int))), (20, va0_0), (21, (.int .i64 (a0_0.length : Int))), (22, (.int .i64 i56)), (35, (.bool true))]) ⟨rfl, rfl, rfl, rfl, rfl, rfl, trivial⟩
              refine e_then ?_
              refine c_true ha rfl ?_
              refine wp_seq ?_
              refine wp_region_lit ?_
              refine op_g ha rfl (g_assign rfl) ?_; clear ha a; intro a ha
              refine wpList_nil ?_
              replace ha := ha.sub (σ' := [(2, (.bool false))]) ⟨rfl, trivial⟩
              refine e_then ?_
              refine wp_ret ?_
              refine e_blk_ret ?_
              refine e_then_ret ?_
              refine e_lq_ret ?_
              refine e_then_ret ?_
              obtain rfl := Option.some.inj hF
              have e129 := LK_inr hN104; subst e129
              have e130 := BK_inr hK100; subst e130
              exact f_ret1 ha rfl rfl ⟨rfl, hE127⟩
            · replace hF := if_f hp128 hF
              rw [show (!x122) = false from b_false (n_iff (Iff.rfl)) hp128] at ha
              refine op_want (yields ha rfl rfl) ?_
              refine op_g ha rfl (g_move rfl) ?_; clear ha a; intro a ha
              refine op_want (yields ha rfl rfl) ?_
              refine op_g ha rfl (g_move rfl) ?_; clear ha a; intro a ha
              refine op_want (yields ha rfl rfl) ?_
              obtain ⟨x131, hc132, hF⟩ := cal_some hF
              refine o_call ha rfl rfl Try.call41 (W_slices_Contains_int64 (h120.ext hE127) hI57 hc132) ?_; clear ha a; rintro v133 w134 ⟨rfl, hx135⟩ a ha
              replace hB54 := hB54.ext hx135
              have hE136 := Ext.trans hE127 hx135
              refine op_g ha rfl (g_pick rfl rfl) ?_; clear ha a; intro a ha
              refine wpList_nil ?_
              replace ha := ha.sub (σ' := [(1, (.pointer (some ⟨b1, 0, none⟩))), (3, (.int .i64 (a0_0.length : Int))), (20, va0_0), (21, (.int .i64 (a0_0.length : Int))), (22, (.int .i64 i56)), (32, v119), (33, (.int .i64 i56)), (34, (.bool x131)), (35, (.bool x131))]) ⟨rfl, rfl, rfl, rfl, rfl, rfl, rfl, rfl, rfl, trivial⟩
              refine e_then ?_
              refine c_cond (x131 = true) ha rfl (Iff.rfl) (fun hp137 => ?_) (fun hp137 => ?_)
              · replace hF := if_t hp137 hF
                refine wp_seq ?_
                refine wp_region_lit ?_
                refine op_g ha rfl (g_assign rfl) ?_; clear ha a; intro a ha
                refine wpList_nil ?_
                replace ha := ha.sub (σ' := [(2, (.bool false))]) ⟨rfl, trivial⟩
                refine e_then ?_
                refine wp_ret ?_
                refine e_blk_ret ?_
                refine e_then_ret ?_
                refine e_lq_ret ?_
                refine e_then_ret ?_
                obtain rfl := Option.some.inj hF
                have e138 := LK_inr hN104; subst e138
                have e139 := BK_inr hK100; subst e139
                exact f_ret1 ha rfl rfl ⟨rfl, hE136⟩
              · replace hF := if_f hp137 hF
                refine wp_skip ?_
                refine e_blk ?_
                refine e_then ?_
                refine wp_region_lit ?_
                obtain ⟨hI140, hF⟩ := ck_some hF
                refine op_g ha rfl (g_add rfl rfl hI140) ?_; clear ha a; intro a ha
                refine op_g ha rfl (g_move rfl) ?_; clear ha a; intro a ha
                refine wpList_nil ?_
                replace ha := ha.sub (σ' := [(1, (.pointer (some ⟨b1, 0, none⟩))), (3, (.int .i64 (a0_0.length : Int))), (20, va0_0), (21, (.int .i64 (a0_0.length : Int))), (22, (.int .i64 (i56 + 1))), (32, v119), (33, (.int .i64 i56)), (34, (.bool x131))]) ⟨rfl, rfl, rfl, rfl, rfl, rfl, rfl, rfl, trivial⟩
                refine e_lq ?_
                obtain rfl := Option.some.inj hF
                exact ⟨_, Nat.lt_succ_self _, i56 + 1, ha.sub ⟨rfl, rfl, rfl, rfl, rfl, trivial⟩, hE136, hI140, hB54, z55, hN104⟩
          · replace hF := if_f hp107 hF
            refine wp_exit ?_
            refine e_then_exit ?_
            refine e_lq_eq ?_
            obtain rfl := Option.some.inj hF
            exact ⟨ha.sub ⟨rfl, trivial⟩, hE58, hB54, z55, (LK_inr hN104).symm⟩
      · rintro a w95 ⟨ha, hE103, hB96, z97, rfl⟩
        have hF : F_impl_GraphOk_k2 a0_0 = some _ := hK100; clear hK100; unfold F_impl_GraphOk_k2 at hF
        refine e_then ?_
        refine wp_seq ?_
        refine wp_seq ?_
        refine wp_region_lit ?_
        refine op_g ha rfl (g_field0 st28_0 rfl) ?_; clear ha a; intro a ha
        refine op_g ha rfl (g_load Try.isAgg22 rfl (hB96.cell rfl)) ?_; clear ha a; intro a ha
        refine op_g ha rfl (g_lenR sl22.und ha0_0 rfl) ?_; clear ha a; intro a ha
        refine op_g ha rfl (g_move rfl) ?_; clear ha a; intro a ha
        refine wpList_nil ?_
        replace ha := ha.sub (σ' := [(1, (.pointer (some ⟨b1, 0, none⟩))), (38, va0_0), (39, (.int .i64 (a0_0.length : Int))), (40, (.int .i64 0))]) ⟨rfl, rfl, rfl, rfl, trivial⟩
        refine e_then ?_
        obtain ⟨o477, ho478, hK479⟩ := bnd_some hF
        obtain ⟨n480, hn481⟩ := lp_some ho478; clear ho478
        refine c_loop (fun a w => Fr 61 [] a ∧ Chg [] W w ∧ o477 = .inl ()) (fun n a w => ∃ (i311 : Int), Fr 61 [(1, (.pointer (some ⟨b1, 0, none⟩))), (38, va0_0), (39, (.int .i64 (a0_0.length : Int))), (40, (.int .i64 i311))] a ∧ Chg [] W w ∧ InI i311 ∧ Bx w b1 [va0_0] 28 ∧ Zn W (b1 : Int) ∧ lpN (fun s => F_impl_GraphOk_l3 a0_0 s) n i311 = some o477) n480 ⟨0, ha.sub ⟨rfl, rfl, rfl, rfl, trivial⟩, hE103, (show InI 0 from by decide), hB96, z97, hn481⟩ ?_ ?_
        · rintro m485 a w308 ⟨i311, ha, hE313, hI312, hB309, z310, hF⟩
          cases m485 with
          | zero => exact (lpN_zero hF).elim
          | succ m485 =>
            obtain ⟨z484, hF, hN483⟩ := lpN_succ hF
            have hF : F_impl_GraphOk_l3 a0_0 i311 = some z484 := hF; unfold F_impl_GraphOk_l3 at hF
            refine wp_seq ?_
            refine wp_region_lit ?_
            refine op_g ha rfl (g_lss rfl rfl) ?_; clear ha a; intro a ha
            refine wpList_nil ?_
            replace ha := ha.sub (σ' := [(1, (.pointer (some ⟨b1, 0, none⟩))), (38, va0_0), (39, (.int .i64 (a0_0.length : Int))), (40, (.int .i64 i311)), (41, (.bool (decide (i311 < (a0_0.length : Int)))))]) ⟨rfl, rfl, rfl, rfl, rfl, trivial⟩
            refine e_then ?_
            refine wp_seq ?_
            refine c_cond (i311 < (a0_0.length : Int)) ha rfl (decide_eq_true_iff) (fun hp486 => ?_) (fun hp486 => ?_)
            · replace hF := if_t hp486 hF
              refine wp_skip ?_
              refine e_then ?_
              refine wp_seq ?_
              refine wp_block ?_
              refine wp_seq ?_
              refine wp_region_lit ?_
              refine op_g ha rfl (g_move rfl) ?_; clear ha a; intro a ha
              obtain ⟨x487, g488, gx489, hF⟩ := idx_some hF
              obtain ⟨p490, cs491, f492, hf493, hpb494, hat495, hr496, hi497⟩ := ha0_0.at g488 gx489
              obtain ⟨v498, rfl, h499⟩ := hr496
              have h499 : Ro Rp.int W f492 v498 x487 := h499
              refine op_g ha rfl (hi497.gives sl22 rfl rfl) ?_; clear ha a; intro a ha
              refine op_g ha rfl (g_load0 hE313 Try.isAgg26 rfl hat495.one) ?_; clear ha a; intro a ha
              refine op_g ha rfl (g_assign rfl) ?_; clear ha a; intro a ha
              refine op_g ha rfl (g_assign rfl) ?_; clear ha a; intro a ha
              refine wpList_nil ?_
              replace ha := ha.sub (σ' := [(1, (.pointer (some ⟨b1, 0, none⟩))), (6, (.int .i64 i311)), (7, v498), (38, va0_0), (39, (.int .i64 (a0_0.length : Int))), (40, (.int .i64 i311))]) ⟨rfl, rfl, rfl, rfl, rfl, rfl, trivial⟩
              refine e_then ?_
              refine wp_seq ?_
              refine wp_region_lit ?_
              refine op_g ha rfl (g_move rfl) ?_; clear ha a; intro a ha
              refine op_g ha rfl (g_lenR sl26.und h499 rfl) ?_; clear ha a; intro a ha
              refine op_g ha rfl (g_move rfl) ?_; clear ha a; intro a ha
              refine wpList_nil ?_
              replace ha := ha.sub (σ' := [(1, (.pointer (some ⟨b1, 0, none⟩))), (6, (.int .i64 i311)), (38, va0_0), (39, (.int .i64 (a0_0.length : Int))), (40, (.int .i64 i311)), (45, v498), (46, (.int .i64 (x487.length : Int))), (47, (.int .i64 0))]) ⟨rfl, rfl, rfl, rfl, rfl, rfl, rfl, rfl, trivial⟩
              refine e_then ?_
              obtain ⟨o596, ho597, hK598⟩ := bnd_some hF
              obtain ⟨n599, hn600⟩ := lp_some ho597; clear ho597
              refine c_loop (fun a w => Fr 61 [(1, (.pointer (some ⟨b1, 0, none⟩))), (38, va0_0), (39, (.int .i64 (a0_0.length : Int))), (40, (.int .i64 i311))] a ∧ Chg [] W w ∧ Bx w b1 [va0_0] 28 ∧ Zn W (b1 : Int) ∧ o596 = .inl ()) (fun n a w => ∃ (i549 : Int), Fr 61 [(1, (.pointer (some ⟨b1, 0, none⟩))), (6, (.int .i64 i311)), (38, va0_0), (39, (.int .i64 (a0_0.length : Int))), (40, (.int .i64 i311)), (45, v498), (46, (.int .i64 (x487.length : Int))), (47, (.int .i64 i549))] a ∧ Chg [] W w ∧ InI i549 ∧ Bx w b1 [va0_0] 28 ∧ Zn W (b1 : Int) ∧ lpN (fun s => F_impl_GraphOk_l4 a0_0 i311 x487 s) n i549 = some o596) n599 ⟨0, ha.sub ⟨rfl, rfl, rfl, rfl, rfl, rfl, rfl, rfl, trivial⟩, hE313, (show InI 0 from by decide), hB309, z310, hn600⟩ ?_ ?_
              · rintro m604 a w546 ⟨i549, ha, hE551, hI550, hB547, z548, hF⟩
                cases m604 with
                | zero => exact (lpN_zero hF).elim
                | succ m604 =>
                  obtain ⟨z603, hF, hN602⟩ := lpN_succ hF
                  have hF : F_impl_GraphOk_l4 a0_0 i311 x487 i549 = some z603 := hF; unfold F_impl_GraphOk_l4 at hF
                  refine wp_seq ?_
                  refine wp_region_lit ?_
                  refine op_g ha rfl (g_lss rfl rfl) ?_; clear ha a; intro a ha
                  refine wpList_nil ?_
                  replace ha := ha.sub (σ' := [(1, (.pointer (some ⟨b1, 0, none⟩))), (6, (.int .i64 i311)), (38, va0_0), (39, (.int .i64 (a0_0.length : Int))), (40, (.int .i64 i311)), (45, v498), (46, (.int .i64 (x487.length : Int))), (47, (.int .i64 i549)), (48, (.bool (decide (i549 < (x487.length : Int)))))]) ⟨rfl, rfl, rfl, rfl, rfl, rfl, rfl, rfl, rfl, trivial⟩
                  refine e_then ?_
                  refine wp_seq ?_
                  refine c_cond (i549 < (x487.length : Int)) ha rfl (decide_eq_true_iff) (fun hp605 => ?_) (fun hp605 => ?_)
                  · replace hF := if_t hp605 hF
                    refine wp_skip ?_
                    refine e_then ?_
                    refine wp_seq ?_
                    refine wp_block ?_
                    refine wp_seq ?_
                    refine wp_region_lit ?_
                    obtain ⟨x606, g607, gx608, hF⟩ := idx_some hF
                    obtain ⟨p609, cs610, f611, hf612, hpb613, hat614, hr615, hi616⟩ := h499.at g607 gx608
                    obtain ⟨rfl, hI617, rfl⟩ := hr615
                    refine op_g ha rfl (hi616.gives sl26 rfl rfl) ?_; clear ha a; intro a ha
                    refine op_g ha rfl (g_load0 hE551 Try.isAgg2 rfl hat614.one) ?_; clear ha a; intro a ha
                    refine op_g ha rfl (g_assign rfl) ?_; clear ha a; intro a ha
                    refine wpList_nil ?_
                    replace ha := ha.sub (σ' := [(1, (.pointer (some ⟨b1, 0, none⟩))), (6, (.int .i64 i311)), (9, (.int .i64 x606)), (38, va0_0), (39, (.int .i64 (a0_0.length : Int))), (40, (.int .i64 i311)), (45, v498), (46, (.int .i64 (x487.length : Int))), (47, (.int .i64 i549))]) ⟨rfl, rfl, rfl, rfl, rfl, rfl, rfl, rfl, rfl, trivial⟩
                    refine e_then ?_
                    refine wp_seq ?_
                    refine wp_region_lit ?_
                    refine op_g ha rfl (g_field0 st28_0 rfl) ?_; clear ha a; intro a ha
                    refine op_g ha rfl (g_load Try.isAgg22 rfl (hB547.cell rfl)) ?_; clear ha a; intro a ha
                    refine op_g ha rfl (g_move rfl) ?_; clear ha a; intro a ha
                    obtain ⟨x618, g619, gx620, hF⟩ := idx_some hF
                    obtain ⟨p621, cs622, f623, hf624, hpb625, hat626, hr627, hi628⟩ := ha0_0.at g619 gx620
                    obtain ⟨v629, rfl, h630⟩ := hr627
                    have h630 : Ro Rp.int W f623 v629 x618 := h630
                    refine op_g ha rfl (hi628.gives sl22 rfl rfl) ?_; clear ha a; intro a ha
                    refine op_g ha rfl (g_load0 hE551 Try.isAgg26 rfl hat626.one) ?_; clear ha a; intro a ha
                    refine op_g ha rfl (g_move rfl) ?_; clear ha a; intro a ha
                    obtain ⟨x632, hc633, hF⟩ := cal_some hF
                    refine o_call ha rfl rfl Try.call41 (W_slices_Contains_int64 (h630.ext hE551) hI312 hc633) ?_; clear ha a; rintro v634 w635 ⟨rfl, hx636⟩ a ha
                    replace hB547 := hB547.ext hx636
                    have hE637 := Ext.trans hE551 hx636
                    refine op_g ha rfl (g_not rfl) ?_; clear ha a; intro a ha
                    refine wpList_nil ?_
                    replace ha := ha.sub (σ' := [(1, (.pointer (some ⟨b1, 0, none⟩))), (6, (.int .i64 i311)), (38, va0_0), (39, (.int .i64 (a0_0.length : Int))), (40, (.int .i64 i311)), (45, v498), (46, (.int .i64 (x487.length : Int))), (47, (.int .i64 i549)), (58, (.bool (!x632)))]) ⟨rfl, rfl, rfl, rfl, rfl, rfl, rfl, rfl, rfl, trivial⟩
                    refine e_then ?_
                    refine c_cond (¬ (x632 = true)) ha rfl (n_iff (Iff.rfl)) (fun hp638 => ?_) (fun hp638 => ?_)
                    · replace hF := if_t hp638 hF
                      refine wp_seq ?_
                      refine wp_region_lit ?_
                      refine op_g ha rfl (g_assign rfl) ?_; clear ha a; intro a ha
                      refine wpList_nil ?_
                      replace ha := ha.sub (σ' := [(2, (.bool false))]) ⟨rfl, trivial⟩
                      refine e_then ?_
                      refine wp_ret ?_
                      refine e_blk_ret ?_
                      refine e_then_ret ?_
                      refine e_lq_ret ?_
                      refine e_blk_ret ?_
                      refine e_then_ret ?_
                      refine e_lq_ret ?_
                      refine e_then_ret ?_
                      obtain rfl := Option.some.inj hF
                      have e639 := LK_inr hN602; subst e639
                      have e640 := BK_inr hK598; subst e640
                      have e641 := LK_inr hN483; subst e641
                      have e642 := BK_inr hK479; subst e642
                      exact f_ret1 ha rfl rfl ⟨rfl, hE637⟩
                    · replace hF := if_f hp638 hF
                      refine wp_skip ?_
                      refine e_blk ?_
                      refine e_then ?_
                      refine wp_region_lit ?_
                      obtain ⟨hI643, hF⟩ := ck_some hF
                      refine op_g ha rfl (g_add rfl rfl hI643) ?_; clear ha a; intro a ha
                      refine op_g ha rfl (g_move rfl) ?_; clear ha a; intro a ha
                      refine wpList_nil ?_
                      replace ha := ha.sub (σ' := [(1, (.pointer (some ⟨b1, 0, none⟩))), (6, (.int .i64 i311)), (38, va0_0), (39, (.int .i64 (a0_0.length : Int))), (40, (.int .i64 i311)), (45, v498), (46, (.int .i64 (x487.length : Int))), (47, (.int .i64 (i549 + 1)))]) ⟨rfl, rfl, rfl, rfl, rfl, rfl, rfl, rfl, trivial⟩
                      refine e_lq ?_
                      obtain rfl := Option.some.inj hF
                      exact ⟨_, Nat.lt_succ_self _, i549 + 1, ha.sub ⟨rfl, rfl, rfl, rfl, rfl, rfl, rfl, rfl, trivial⟩, hE637, hI643, hB547, z548, hN602⟩
                  · replace hF := if_f hp605 hF
                    refine wp_exit ?_
                    refine e_then_exit ?_
                    refine e_lq_eq ?_
                    obtain rfl := Option.some.inj hF
                    exact ⟨ha.sub ⟨rfl, rfl, rfl, rfl, trivial⟩, hE551, hB547, z548, (LK_inr hN602).symm⟩
              · rintro a w593 ⟨ha, hE601, hB594, z595, rfl⟩
                have hF : F_impl_GraphOk_k5 i311 = some _ := hK598; clear hK598; unfold F_impl_GraphOk_k5 at hF
                refine e_blk ?_
                refine e_then ?_
                refine wp_region_lit ?_
                obtain ⟨hI645, hF⟩ := ck_some hF
                refine op_g ha rfl (g_add rfl rfl hI645) ?_; clear ha a; intro a ha
                refine op_g ha rfl (g_move rfl) ?_; clear ha a; intro a ha
                refine wpList_nil ?_
                replace ha := ha.sub (σ' := [(1, (.pointer (some ⟨b1, 0, none⟩))), (38, va0_0), (39, (.int .i64 (a0_0.length : Int))), (40, (.int .i64 (i311 + 1)))]) ⟨rfl, rfl, rfl, rfl, trivial⟩
                refine e_lq ?_
                obtain rfl := Option.some.inj hF
                exact ⟨_, Nat.lt_succ_self _, i311 + 1, ha.sub ⟨rfl, rfl, rfl, rfl, trivial⟩, hE601, hI645, hB594, z595, hN483⟩
            · replace hF := if_f hp486 hF
              refine wp_exit ?_
              refine e_then_exit ?_
              refine e_lq_eq ?_
              obtain rfl := Option.some.inj hF
              exact ⟨ha.sub trivial, hE313, (LK_inr hN483).symm⟩
        · rintro a w476 ⟨ha, hE482, rfl⟩
          have hF : F_impl_GraphOk_k6 = some _ := hK479; clear hK479; unfold F_impl_GraphOk_k6 at hF
          refine e_then ?_
          refine wp_seq ?_
          refine wp_region_lit ?_
          refine op_g ha rfl (g_assign rfl) ?_; clear ha a; intro a ha
          refine wpList_nil ?_
          refine e_then ?_
          refine wp_ret ?_
          obtain rfl := Option.some.inj hF
          exact f_ret1 ha rfl rfl ⟨rfl, hE482⟩
set_option maxHeartbeats 2000000 in
theorem W_impl_isSmall {W : World} {va0_0 : Value} {fa0_0 : List Nat} {a0_0 : (List (List Int))} (ha0_0 : Ro (Rp.sl 2 Rp.int) W fa0_0 va0_0 a0_0) {r : Bool} (hF : F_impl_isSmall a0_0 = some r) :
    Calls Try.prog 21 [.agg #[va0_0]].toArray W (Ret fun u w' => u = .bool r ∧ Ext W w') := by
  refine f_enter Try.func21 rfl Try.ntmps21 rfl ?_
  intro a ha
  replace ha : Fr 11 [(0, (.agg #[va0_0]))] a := ha
  have hE : Chg [] W W := Chg.refl _ _
  unfold F_impl_isSmall at hF
  refine wp_seq ?_
  refine wp_region_lit ?_
  refine o_box ha rfl rfl rfl ?_; clear ha a; intro b1 w2 hB3 hx4 hlo5 a ha
  have q6 := Zn.one hlo5
  have q7 := Zn.upD q6 hE
  have hE8 := Ext.trans hE hx4
  refine op_g ha rfl (g_assign rfl) ?_; clear ha a; intro a ha
  refine wpList_nil ?_
  replace ha := ha.sub (σ' := [(1, (.pointer (some ⟨b1, 0, none⟩)))]) ⟨rfl, trivial⟩
  refine e_then ?_
  refine wp_seq ?_
  refine wp_region_lit ?_
  refine op_g ha rfl (g_loadA (cs := [va0_0]) Try.isAgg28 Try.sizeOf28 rfl (by simp) hB3.all) ?_; clear ha a; intro a ha
  obtain ⟨x9, hc10, hF⟩ := cal_some hF
  refine o_call ha rfl rfl Try.call33 (W_impl_GraphOk (ha0_0.ext hE8) hc10) ?_; clear ha a; rintro v11 w12 ⟨rfl, hx13⟩ a ha
  replace hB3 := hB3.ext hx13
  have hE14 := Ext.trans hE8 hx13
  refine op_g ha rfl (g_move rfl) ?_; clear ha a; intro a ha
  by_cases hp15 : x9 = true
  · replace hF := if_t hp15 hF
    rw [show (x9) = true from (Iff.rfl).2 hp15] at ha
    refine op_want (yields ha rfl rfl) ?_
    refine op_g ha rfl (g_field0 st28_0 rfl) ?_; clear ha a; intro a ha
    refine op_want (yields ha rfl rfl) ?_
    refine op_g ha rfl (g_load Try.isAgg22 rfl (hB3.cell rfl)) ?_; clear ha a; intro a ha
    refine op_want (yields ha rfl rfl) ?_
    refine op_g ha rfl (g_lenR sl22.und ha0_0 rfl) ?_; clear ha a; intro a ha
    refine op_want (yields ha rfl rfl) ?_
    refine op_g ha rfl (g_leq rfl rfl) ?_; clear ha a; intro a ha
    refine op_g ha rfl (g_pick rfl rfl) ?_; clear ha a; intro a ha
    refine op_g ha rfl (g_assign rfl) ?_; clear ha a; intro a ha
    refine wpList_nil ?_
    replace ha := ha.sub (σ' := [(2, (.bool (decide ((a0_0.length : Int) ≤ 8))))]) ⟨rfl, trivial⟩
    refine e_then ?_
    refine wp_ret ?_
    obtain rfl := Option.some.inj hF
    exact f_ret1 ha rfl rfl ⟨rfl, hE14⟩
  · replace hF := if_f hp15 hF
    rw [show (x9) = false from b_false (Iff.rfl) hp15] at ha
    refine op_unwant ha rfl (yields ha rfl rfl) rfl ?_; clear ha a; intro a ha
    refine op_unwant ha rfl (yields ha rfl rfl) rfl ?_; clear ha a; intro a ha
    refine op_unwant ha rfl (yields ha rfl rfl) rfl ?_; clear ha a; intro a ha
    refine op_unwant ha rfl (yields ha rfl rfl) rfl ?_; clear ha a; intro a ha
    refine op_g ha rfl (g_pick rfl rfl) ?_; clear ha a; intro a ha
    refine op_g ha rfl (g_assign rfl) ?_; clear ha a; intro a ha
    refine wpList_nil ?_
    replace ha := ha.sub (σ' := [(2, (.bool false))]) ⟨rfl, trivial⟩
    refine e_then ?_
    refine wp_ret ?_
    obtain rfl := Option.some.inj hF
    exact f_ret1 ha rfl rfl ⟨rfl, hE14⟩
set_option maxHeartbeats 2000000 in
theorem W_impl_one {W : World} {a0 : Int} (ha0 : InI a0) {r : (BitVec 32)} (hF : F_impl_one a0 = some r) :
    Calls Try.prog 34 [.int .i64 a0].toArray W (Ret fun u w' => u = .int .u32 (BitVec.toNat r : Int) ∧ Ext W w') := by
  refine f_enter Try.func34 rfl Try.ntmps34 rfl ?_
  intro a ha
  replace ha : Fr 5 [(0, (.int .i64 a0))] a := ha
  have hE : Chg [] W W := Chg.refl _ _
  unfold F_impl_one at hF
  refine wp_seq ?_
  refine wp_region_lit ?_
  refine op_g ha rfl (g_assign rfl) ?_; clear ha a; intro a ha
  refine wpList_nil ?_
  replace ha := ha.sub (σ' := [(0, (.int .i64 a0))]) ⟨rfl, trivial⟩
  refine e_then ?_
  refine wp_seq ?_
  refine wp_region_lit ?_
  refine op_g ha rfl (g_move rfl) ?_; clear ha a; intro a ha
  obtain ⟨hs1, hF⟩ := grd_some hF
  refine op_g ha rfl (g32_shl (m := (1#32)) rfl rfl hs1) ?_; clear ha a; intro a ha
  refine op_g ha rfl (g_assign rfl) ?_; clear ha a; intro a ha
  refine wpList_nil ?_
  replace ha := ha.sub (σ' := [(2, (.int .u32 (BitVec.toNat ((1#32) <<< (a0 : Int).toNat) : Int)))]) ⟨rfl, trivial⟩
  refine e_then ?_
  refine wp_ret ?_
  obtain rfl := Option.some.inj hF
  exact f_ret1 ha rfl rfl ⟨rfl, hE⟩
end Go.Proofs.Ytgikmgceiiahpac
