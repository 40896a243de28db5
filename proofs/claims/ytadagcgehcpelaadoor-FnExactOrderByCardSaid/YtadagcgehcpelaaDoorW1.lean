/- Walks, printed by gen.py. -/
import Derived.Test.YtadagcgehcpelaaDoorF
import Derived.Test.YtadagcgehcpelaaDoorDeep
import Derived.Test.YtadagcgehcpelaaDoorDice
import Derived.Test.YtadagcgehcpelaaDoorProg
import Derived.KernelRfl
set_option maxRecDepth 100000
namespace Go.Proofs.YtadagcgehcpelaaDoor
open Go Go.RowKit

theorem hmix : Tryd.prog.follows .mixedOrders = true := by kernel_rfl
theorem st24_0 : stF Tryd.prog 24 0 = some 0 := by kernel_rfl
theorem sl22 : SlT Tryd.prog 22 29 1 24 (.slice none 0 0) := ⟨by kernel_rfl, by kernel_rfl, by rfl⟩
theorem sl29 : SlT Tryd.prog 29 2 1 8 (.int .i64 0) := ⟨by kernel_rfl, by kernel_rfl, by rfl⟩
theorem st26_0 : stF Tryd.prog 26 0 = some 0 := by kernel_rfl
theorem st26_1 : stF Tryd.prog 26 1 = some 1 := by kernel_rfl
theorem st31_0 : stF Tryd.prog 31 0 = some 0 := by kernel_rfl
theorem st33_0 : stF Tryd.prog 33 0 = some 0 := by kernel_rfl
theorem st33_1 : stF Tryd.prog 33 1 = some 1 := by kernel_rfl
theorem sl45 : SlT Tryd.prog 45 4 1 1 (.bool false) := ⟨by kernel_rfl, by kernel_rfl, by rfl⟩
theorem sl53 : SlT Tryd.prog 53 58 1 4 (.int .u32 0) := ⟨by kernel_rfl, by kernel_rfl, by rfl⟩
theorem sl52 : SlT Tryd.prog 52 58 1 4 (.int .u32 0) := ⟨by kernel_rfl, by kernel_rfl, by rfl⟩
theorem un94 : Tryd.prog.underlying 94 = some (.array 32 5) := by kernel_rfl
theorem un5 : Tryd.prog.underlying 5 = some (.int .u8) := by kernel_rfl
theorem un3 : Tryd.prog.underlying 3 = some (.int .i64) := by kernel_rfl
theorem sl56 : SlT Tryd.prog 56 3 1 8 (.int .i64 0) := ⟨by kernel_rfl, by kernel_rfl, by rfl⟩
set_option maxHeartbeats 2000000 in
theorem W_laws_szInt64S {W : World} {va0 : Value} {fa0 : List Nat} {a0 : (List Int)} (ha0 : Ro Rp.int W fa0 va0 a0) {a1 : Int} (ha1 : InI a1) {r : Int} (hF : F_laws_szInt64S a0 a1 = some r) :
    Calls Tryd.prog 38 [va0, .int .i64 a1].toArray W (Ret fun u w' => (u = .int .i64 r ∧ InI r) ∧ Ext W w') := by
  refine f_enter Tryd.func38 rfl Tryd.ntmps38 rfl ?_
  intro a ha
  replace ha : Fr 12 [(0, va0), (1, (.int .i64 a1))] a := ha
  have hE : Chg [] W W := Chg.refl _ _
  unfold F_laws_szInt64S at hF
  refine wp_seq ?_; refine wp_region_lit ?_; refine op_g ha rfl (g_assign rfl) ?_; clear ha a; intro a ha; refine wpList_nil ?_; replace ha := ha.sub (σ' := [(0, va0), (1, (.int .i64 a1))]) ⟨rfl, rfl, trivial⟩; refine e_then ?_; refine wp_seq ?_; refine wp_region_lit ?_; (iterate 2 refine op_g ha rfl (g_move rfl) ?_; clear ha a; intro a ha); refine op_g ha rfl (g_lenR sl29.und ha0 rfl) ?_; clear ha a; intro a ha; obtain ⟨hI1, hF⟩ := ck_some hF; refine op_g ha rfl (g_sub rfl rfl hI1) ?_; clear ha a; intro a ha; refine op_g ha rfl (g_assign rfl) ?_; clear ha a; intro a ha; refine wpList_nil ?_; replace ha := ha.sub (σ' := [(1, (.int .i64 (a1 - (a0.length : Int))))]) ⟨rfl, trivial⟩
  refine e_then ?_; refine wp_seq ?_; refine wp_seq ?_; refine wp_region_lit ?_; refine op_g ha rfl (g_move rfl) ?_; clear ha a; intro a ha; refine op_g ha rfl (g_lss rfl rfl) ?_; clear ha a; intro a ha; refine wpList_nil ?_; replace ha := ha.sub (σ' := [(1, (.int .i64 (a1 - (a0.length : Int)))), (10, (.bool (decide ((a1 - (a0.length : Int)) < 0))))]) ⟨rfl, rfl, trivial⟩; refine e_then ?_; refine c_cond ((a1 - (a0.length : Int)) < 0) ha rfl (decide_eq_true_iff) (fun hp3 => ?_) (fun hp3 => ?_)
  · replace hF := if_t hp3 hF
    refine wp_seq ?_; refine wp_region_lit ?_; refine op_g ha rfl (g_assign rfl) ?_; clear ha a; intro a ha; refine wpList_nil ?_; replace ha := ha.sub (σ' := [(4, (.int .i64 (-1)))]) ⟨rfl, trivial⟩; refine e_then ?_; refine wp_ret ?_; refine e_then_ret ?_; obtain rfl := Option.some.inj hF
    exact f_ret1 ha rfl rfl ⟨⟨rfl, (show InI (-1) from by decide)⟩, hE⟩
  replace hF := if_f hp3 hF; refine wp_skip ?_; refine e_then ?_; refine wp_seq ?_; refine wp_region_lit ?_; refine op_g ha rfl (g_move rfl) ?_; clear ha a; intro a ha; refine op_g ha rfl (g_assign rfl) ?_; clear ha a; intro a ha; refine wpList_nil ?_; replace ha := ha.sub (σ' := [(4, (.int .i64 (a1 - (a0.length : Int))))]) ⟨rfl, trivial⟩; refine e_then ?_; refine wp_ret ?_; obtain rfl := Option.some.inj hF
  exact f_ret1 ha rfl rfl ⟨⟨rfl, hI1⟩, hE⟩
set_option maxHeartbeats 2000000 in
theorem W_laws_szInt64SS {W : World} {va0 : Value} {fa0 : List Nat} {a0 : (List (List Int))} (ha0 : Ro (Rp.sl 2 Rp.int) W fa0 va0 a0) {a1 : Int} (ha1 : InI a1) {r : Int} (hF : F_laws_szInt64SS a0 a1 = some r) :
    Calls Tryd.prog 17 [va0, .int .i64 a1].toArray W (Ret fun u w' => (u = .int .i64 r ∧ InI r) ∧ Ext W w') := by
  refine f_enter Tryd.func17 rfl Tryd.ntmps17 rfl ?_
  intro a ha
  replace ha : Fr 27 [(0, va0), (1, (.int .i64 a1))] a := ha
  have hE : Chg [] W W := Chg.refl _ _
  unfold F_laws_szInt64SS at hF
  refine wp_seq ?_; refine wp_region_lit ?_; refine op_g ha rfl (g_assign rfl) ?_; clear ha a; intro a ha; refine wpList_nil ?_; replace ha := ha.sub (σ' := [(0, va0), (1, (.int .i64 a1))]) ⟨rfl, rfl, trivial⟩; refine e_then ?_; refine wp_seq ?_; refine wp_region_lit ?_; (iterate 2 refine op_g ha rfl (g_move rfl) ?_; clear ha a; intro a ha); refine op_g ha rfl (g_lenR sl22.und ha0 rfl) ?_; clear ha a; intro a ha; obtain ⟨hI1, hF⟩ := ck_some hF; refine op_g ha rfl (g_sub rfl rfl hI1) ?_; clear ha a; intro a ha; refine op_g ha rfl (g_assign rfl) ?_; clear ha a; intro a ha; refine wpList_nil ?_; replace ha := ha.sub (σ' := [(0, va0), (1, (.int .i64 (a1 - (a0.length : Int))))]) ⟨rfl, rfl, trivial⟩
  refine e_then ?_; refine wp_seq ?_; refine wp_seq ?_; refine wp_region_lit ?_; refine op_g ha rfl (g_move rfl) ?_; clear ha a; intro a ha; refine op_g ha rfl (g_lss rfl rfl) ?_; clear ha a; intro a ha; refine wpList_nil ?_; replace ha := ha.sub (σ' := [(0, va0), (1, (.int .i64 (a1 - (a0.length : Int)))), (11, (.bool (decide ((a1 - (a0.length : Int)) < 0))))]) ⟨rfl, rfl, rfl, trivial⟩; refine e_then ?_; refine c_cond ((a1 - (a0.length : Int)) < 0) ha rfl (decide_eq_true_iff) (fun hp3 => ?_) (fun hp3 => ?_)
  · replace hF := if_t hp3 hF
    refine wp_seq ?_; refine wp_region_lit ?_; refine op_g ha rfl (g_assign rfl) ?_; clear ha a; intro a ha; refine wpList_nil ?_; replace ha := ha.sub (σ' := [(4, (.int .i64 (-1)))]) ⟨rfl, trivial⟩; refine e_then ?_; refine wp_ret ?_; refine e_then_ret ?_; obtain rfl := Option.some.inj hF
    exact f_ret1 ha rfl rfl ⟨⟨rfl, (show InI (-1) from by decide)⟩, hE⟩
  replace hF := if_f hp3 hF; refine wp_skip ?_; refine e_then ?_; refine wp_seq ?_; refine wp_seq ?_; refine wp_region_lit ?_; refine op_g ha rfl (g_assign rfl) ?_; clear ha a; intro a ha; refine wpList_nil ?_; replace ha := ha.sub (σ' := [(0, va0), (1, (.int .i64 (a1 - (a0.length : Int)))), (5, (.int .i64 0))]) ⟨rfl, rfl, rfl, trivial⟩; refine e_then ?_; obtain ⟨o75, ho76, hK77⟩ := bnd_some hF
  obtain ⟨n78, hn79⟩ := lp_some ho76; clear ho76
  refine c_loop (fun a w => ∃ (i73 : Int), Fr 27 [(1, (.int .i64 i73))] a ∧ Chg [] W w ∧ InI i73 ∧ o75 = .inl i73) (fun n a w => ∃ (i37 : Int) (i39 : Int), Fr 27 [(0, va0), (1, (.int .i64 i37)), (5, (.int .i64 i39))] a ∧ Chg [] W w ∧ InI i37 ∧ InI i39 ∧ lpN (fun s => F_laws_szInt64SS_l1 a0 s.1 s.2) n (i37, i39) = some o75) n78 ⟨a1 - (a0.length : Int), 0, ha.sub ⟨rfl, rfl, rfl, trivial⟩, hE, hI1, (show InI 0 from by decide), hn79⟩ ?_ ?_
  · rintro m83 a w36 ⟨i37, i39, ha, hE41, hI38, hI40, hF⟩
    cases m83 with
    | zero => exact (lpN_zero hF).elim
    | succ m83 =>
      obtain ⟨z82, hF, hN81⟩ := lpN_succ hF
      have hF : F_laws_szInt64SS_l1 a0 i37 i39 = some z82 := hF; unfold F_laws_szInt64SS_l1 at hF
      refine wp_seq ?_; refine wp_seq ?_; refine wp_region_lit ?_; (iterate 2 refine op_g ha rfl (g_move rfl) ?_; clear ha a; intro a ha); refine op_g ha rfl (g_lenR sl22.und ha0 rfl) ?_; clear ha a; intro a ha; refine op_g ha rfl (g_lss rfl rfl) ?_; clear ha a; intro a ha; refine wpList_nil ?_; replace ha := ha.sub (σ' := [(0, va0), (1, (.int .i64 i37)), (5, (.int .i64 i39)), (15, (.bool (decide (i39 < (a0.length : Int)))))]) ⟨rfl, rfl, rfl, rfl, trivial⟩; refine e_then ?_; refine c_cond (i39 < (a0.length : Int)) ha rfl (decide_eq_true_iff) (fun hp84 => ?_) (fun hp84 => ?_)
      · replace hF := if_t hp84 hF
        refine wp_skip ?_; refine e_then ?_; refine wp_seq ?_; refine wp_block ?_; refine wp_seq ?_; refine wp_region_lit ?_; (iterate 2 refine op_g ha rfl (g_move rfl) ?_; clear ha a; intro a ha); obtain ⟨x85, g86, gx87, hF⟩ := idx_some hF
        obtain ⟨p88, cs89, f90, hf91, hpb92, hat93, hr94, hi95⟩ := ha0.at g86 gx87
        obtain ⟨v96, rfl, h97⟩ := hr94
        have h97 : Ro Rp.int W f90 v96 x85 := h97
        refine op_g ha rfl (hi95.gives sl22 rfl rfl) ?_; clear ha a; intro a ha; refine op_g ha rfl (g_load0 hE41 Tryd.isAgg29 rfl hat93.one) ?_; clear ha a; intro a ha; refine op_g ha rfl (g_move rfl) ?_; clear ha a; intro a ha; obtain ⟨x99, hc100, hF⟩ := cal_some hF
        refine o_call ha rfl rfl Tryd.call38 (W_laws_szInt64S (h97.ext hE41) hI38 hc100) ?_; clear ha a; rintro v101 w102 ⟨⟨rfl, hI104⟩, hx103⟩ a ha
        have hE105 := Ext.trans hE41 hx103
        refine op_g ha rfl (g_assign rfl) ?_; clear ha a; intro a ha; refine wpList_nil ?_; replace ha := ha.sub (σ' := [(0, va0), (1, (.int .i64 x99)), (5, (.int .i64 i39))]) ⟨rfl, rfl, rfl, trivial⟩; refine e_then ?_; refine wp_seq ?_; refine wp_region_lit ?_; refine op_g ha rfl (g_move rfl) ?_; clear ha a; intro a ha; refine op_g ha rfl (g_lss rfl rfl) ?_; clear ha a; intro a ha; refine wpList_nil ?_; replace ha := ha.sub (σ' := [(0, va0), (1, (.int .i64 x99)), (5, (.int .i64 i39)), (25, (.bool (decide (x99 < 0))))]) ⟨rfl, rfl, rfl, rfl, trivial⟩; refine e_then ?_; refine c_cond (x99 < 0) ha rfl (decide_eq_true_iff) (fun hp106 => ?_) (fun hp106 => ?_)
        · replace hF := if_t hp106 hF
          refine wp_seq ?_; refine wp_region_lit ?_; refine op_g ha rfl (g_assign rfl) ?_; clear ha a; intro a ha; refine wpList_nil ?_; replace ha := ha.sub (σ' := [(4, (.int .i64 (-1)))]) ⟨rfl, trivial⟩; refine e_then ?_; refine wp_ret ?_; refine e_blk_ret ?_; refine e_then_ret ?_; refine e_lq_ret ?_; refine e_then_ret ?_; obtain rfl := Option.some.inj hF
          have e107 := LK_inr hN81; subst e107
          have e108 := BK_inr hK77; subst e108
          exact f_ret1 ha rfl rfl ⟨⟨rfl, (show InI (-1) from by decide)⟩, hE105⟩
        replace hF := if_f hp106 hF; refine wp_skip ?_; refine e_blk ?_; refine e_then ?_; refine wp_region_lit ?_; refine op_g ha rfl (g_move rfl) ?_; clear ha a; intro a ha; obtain ⟨hI109, hF⟩ := ck_some hF; refine op_g ha rfl (g_add rfl rfl hI109) ?_; clear ha a; intro a ha; refine op_g ha rfl (g_assign rfl) ?_; clear ha a; intro a ha; refine wpList_nil ?_; replace ha := ha.sub (σ' := [(0, va0), (1, (.int .i64 x99)), (5, (.int .i64 (i39 + 1)))]) ⟨rfl, rfl, rfl, trivial⟩; refine e_lq ?_; obtain rfl := Option.some.inj hF
        exact ⟨_, Nat.lt_succ_self _, x99, i39 + 1, ha.sub ⟨rfl, rfl, rfl, trivial⟩, hE105, hI104, hI109, hN81⟩
      replace hF := if_f hp84 hF; refine wp_exit ?_; refine e_then_exit ?_; refine e_lq_eq ?_; obtain rfl := Option.some.inj hF
      exact ⟨i37, ha.sub ⟨rfl, trivial⟩, hE41, hI38, (LK_inr hN81).symm⟩
  rintro a w72 ⟨i73, ha, hE80, hI74, rfl⟩
  have hF : F_laws_szInt64SS_k2 i73 = some _ := hK77; clear hK77; unfold F_laws_szInt64SS_k2 at hF
  refine e_then ?_; refine wp_seq ?_; refine wp_region_lit ?_; refine op_g ha rfl (g_move rfl) ?_; clear ha a; intro a ha; refine op_g ha rfl (g_assign rfl) ?_; clear ha a; intro a ha; refine wpList_nil ?_; replace ha := ha.sub (σ' := [(4, (.int .i64 i73))]) ⟨rfl, trivial⟩; refine e_then ?_; refine wp_ret ?_; obtain rfl := Option.some.inj hF
  exact f_ret1 ha rfl rfl ⟨⟨rfl, hI74⟩, hE80⟩
set_option maxHeartbeats 2000000 in
theorem W_laws_szGraph {W : World} {va0_0 : Value} {fa0_0 : List Nat} {a0_0 : (List (List Int))} (ha0_0 : Ro (Rp.sl 2 Rp.int) W fa0_0 va0_0 a0_0) {a1 : Int} (ha1 : InI a1) {r : Int} (hF : F_laws_szGraph a0_0 a1 = some r) :
    Calls Tryd.prog 4 [.agg #[va0_0], .int .i64 a1].toArray W (Ret fun u w' => (u = .int .i64 r ∧ InI r) ∧ Ext W w') := by
  refine f_enter Tryd.func4 rfl Tryd.ntmps4 rfl ?_
  intro a ha
  replace ha : Fr 12 [(0, (.agg #[va0_0])), (1, (.int .i64 a1))] a := ha
  have hE : Chg [] W W := Chg.refl _ _
  unfold F_laws_szGraph at hF
  refine wp_seq ?_; refine wp_region_lit ?_
  refine o_box ha rfl rfl rfl ?_; clear ha a; intro b1 w2 hB3 hx4 hlo5 a ha
  have q6 := Zn.one hlo5
  have q7 := Zn.upD q6 hE
  have hE8 := Ext.trans hE hx4
  refine op_g ha rfl (g_assign rfl) ?_; clear ha a; intro a ha; refine wpList_nil ?_; replace ha := ha.sub (σ' := [(1, (.int .i64 a1)), (2, (.pointer (some ⟨b1, 0, none⟩)))]) ⟨rfl, rfl, trivial⟩; refine e_then ?_; refine wp_seq ?_; refine wp_region_lit ?_; refine op_g ha rfl (g_field0 st24_0 rfl) ?_; clear ha a; intro a ha; refine op_g ha rfl (g_load Tryd.isAgg22 rfl (hB3.cell rfl)) ?_; clear ha a; intro a ha; refine op_g ha rfl (g_move rfl) ?_; clear ha a; intro a ha; obtain ⟨x9, hc10, hF⟩ := cal_some hF
  refine o_call ha rfl rfl Tryd.call17 (W_laws_szInt64SS (ha0_0.ext hE8) ha1 hc10) ?_; clear ha a; rintro v11 w12 ⟨⟨rfl, hI14⟩, hx13⟩ a ha
  replace hB3 := hB3.ext hx13
  have hE15 := Ext.trans hE8 hx13
  refine op_g ha rfl (g_assign rfl) ?_; clear ha a; intro a ha; refine wpList_nil ?_; replace ha := ha.sub (σ' := [(1, (.int .i64 x9))]) ⟨rfl, trivial⟩; refine e_then ?_; refine wp_seq ?_; refine wp_seq ?_; refine wp_region_lit ?_; refine op_g ha rfl (g_move rfl) ?_; clear ha a; intro a ha; refine op_g ha rfl (g_lss rfl rfl) ?_; clear ha a; intro a ha; refine wpList_nil ?_; replace ha := ha.sub (σ' := [(1, (.int .i64 x9)), (10, (.bool (decide (x9 < 0))))]) ⟨rfl, rfl, trivial⟩; refine e_then ?_; refine c_cond (x9 < 0) ha rfl (decide_eq_true_iff) (fun hp16 => ?_) (fun hp16 => ?_)
  · replace hF := if_t hp16 hF
    refine wp_seq ?_; refine wp_region_lit ?_; refine op_g ha rfl (g_assign rfl) ?_; clear ha a; intro a ha; refine wpList_nil ?_; replace ha := ha.sub (σ' := [(4, (.int .i64 (-1)))]) ⟨rfl, trivial⟩; refine e_then ?_; refine wp_ret ?_; refine e_then_ret ?_; obtain rfl := Option.some.inj hF
    exact f_ret1 ha rfl rfl ⟨⟨rfl, (show InI (-1) from by decide)⟩, hE15⟩
  replace hF := if_f hp16 hF; refine wp_skip ?_; refine e_then ?_; refine wp_seq ?_; refine wp_region_lit ?_; refine op_g ha rfl (g_move rfl) ?_; clear ha a; intro a ha; refine op_g ha rfl (g_assign rfl) ?_; clear ha a; intro a ha; refine wpList_nil ?_; replace ha := ha.sub (σ' := [(4, (.int .i64 x9))]) ⟨rfl, trivial⟩; refine e_then ?_; refine wp_ret ?_; obtain rfl := Option.some.inj hF
  exact f_ret1 ha rfl rfl ⟨⟨rfl, hI14⟩, hE15⟩
set_option maxHeartbeats 2000000 in
theorem W_laws_szDecomp {W : World} {va0_0 : Value} {fa0_0 : List Nat} {a0_0 : (List (List Int))} (ha0_0 : Ro (Rp.sl 2 Rp.int) W fa0_0 va0_0 a0_0) {va0_1 : Value} {fa0_1 : List Nat} {a0_1 : (List (List Int))} (ha0_1 : Ro (Rp.sl 2 Rp.int) W fa0_1 va0_1 a0_1) {a1 : Int} (ha1 : InI a1) {r : Int} (hF : F_laws_szDecomp a0_0 a0_1 a1 = some r) :
    Calls Tryd.prog 5 [.agg #[va0_0, va0_1], .int .i64 a1].toArray W (Ret fun u w' => (u = .int .i64 r ∧ InI r) ∧ Ext W w') := by
  refine f_enter Tryd.func5 rfl Tryd.ntmps5 rfl ?_
  intro a ha
  replace ha : Fr 18 [(0, (.agg #[va0_0, va0_1])), (1, (.int .i64 a1))] a := ha
  have hE : Chg [] W W := Chg.refl _ _
  unfold F_laws_szDecomp at hF
  refine wp_seq ?_; refine wp_region_lit ?_
  refine o_box ha rfl rfl rfl ?_; clear ha a; intro b1 w2 hB3 hx4 hlo5 a ha
  have q6 := Zn.one hlo5
  have q7 := Zn.upD q6 hE
  have hE8 := Ext.trans hE hx4
  refine op_g ha rfl (g_assign rfl) ?_; clear ha a; intro a ha; refine wpList_nil ?_; replace ha := ha.sub (σ' := [(1, (.int .i64 a1)), (2, (.pointer (some ⟨b1, 0, none⟩)))]) ⟨rfl, rfl, trivial⟩; refine e_then ?_; refine wp_seq ?_; refine wp_region_lit ?_; refine op_g ha rfl (g_field0 st26_0 rfl) ?_; clear ha a; intro a ha; refine op_g ha rfl (g_load Tryd.isAgg22 rfl (hB3.cell rfl)) ?_; clear ha a; intro a ha; refine op_g ha rfl (g_move rfl) ?_; clear ha a; intro a ha; obtain ⟨x9, hc10, hF⟩ := cal_some hF
  refine o_call ha rfl rfl Tryd.call17 (W_laws_szInt64SS (ha0_0.ext hE8) ha1 hc10) ?_; clear ha a; rintro v11 w12 ⟨⟨rfl, hI14⟩, hx13⟩ a ha
  replace hB3 := hB3.ext hx13
  have hE15 := Ext.trans hE8 hx13
  refine op_g ha rfl (g_assign rfl) ?_; clear ha a; intro a ha; refine wpList_nil ?_; replace ha := ha.sub (σ' := [(1, (.int .i64 x9)), (2, (.pointer (some ⟨b1, 0, none⟩)))]) ⟨rfl, rfl, trivial⟩; refine e_then ?_; refine wp_seq ?_; refine wp_seq ?_; refine wp_region_lit ?_; refine op_g ha rfl (g_move rfl) ?_; clear ha a; intro a ha; refine op_g ha rfl (g_lss rfl rfl) ?_; clear ha a; intro a ha; refine wpList_nil ?_; replace ha := ha.sub (σ' := [(1, (.int .i64 x9)), (2, (.pointer (some ⟨b1, 0, none⟩))), (10, (.bool (decide (x9 < 0))))]) ⟨rfl, rfl, rfl, trivial⟩; refine e_then ?_; refine c_cond (x9 < 0) ha rfl (decide_eq_true_iff) (fun hp16 => ?_) (fun hp16 => ?_)
  · replace hF := if_t hp16 hF
    refine wp_seq ?_; refine wp_region_lit ?_; refine op_g ha rfl (g_assign rfl) ?_; clear ha a; intro a ha; refine wpList_nil ?_; replace ha := ha.sub (σ' := [(4, (.int .i64 (-1)))]) ⟨rfl, trivial⟩; refine e_then ?_; refine wp_ret ?_; refine e_then_ret ?_; obtain rfl := Option.some.inj hF
    exact f_ret1 ha rfl rfl ⟨⟨rfl, (show InI (-1) from by decide)⟩, hE15⟩
  replace hF := if_f hp16 hF; refine wp_skip ?_; refine e_then ?_; refine wp_seq ?_; refine wp_region_lit ?_; refine op_g ha rfl (g_field0 st26_1 rfl) ?_; clear ha a; intro a ha; refine op_g ha rfl (g_load Tryd.isAgg22 rfl (hB3.cell rfl)) ?_; clear ha a; intro a ha; refine op_g ha rfl (g_move rfl) ?_; clear ha a; intro a ha; obtain ⟨x17, hc18, hF⟩ := cal_some hF
  refine o_call ha rfl rfl Tryd.call17 (W_laws_szInt64SS (ha0_1.ext hE15) hI14 hc18) ?_; clear ha a; rintro v19 w20 ⟨⟨rfl, hI22⟩, hx21⟩ a ha
  replace hB3 := hB3.ext hx21
  have hE23 := Ext.trans hE15 hx21
  refine op_g ha rfl (g_assign rfl) ?_; clear ha a; intro a ha; refine wpList_nil ?_; replace ha := ha.sub (σ' := [(1, (.int .i64 x17))]) ⟨rfl, trivial⟩; refine e_then ?_; refine wp_seq ?_; refine wp_seq ?_; refine wp_region_lit ?_; refine op_g ha rfl (g_move rfl) ?_; clear ha a; intro a ha; refine op_g ha rfl (g_lss rfl rfl) ?_; clear ha a; intro a ha; refine wpList_nil ?_; replace ha := ha.sub (σ' := [(1, (.int .i64 x17)), (16, (.bool (decide (x17 < 0))))]) ⟨rfl, rfl, trivial⟩; refine e_then ?_; refine c_cond (x17 < 0) ha rfl (decide_eq_true_iff) (fun hp24 => ?_) (fun hp24 => ?_)
  · replace hF := if_t hp24 hF
    refine wp_seq ?_; refine wp_region_lit ?_; refine op_g ha rfl (g_assign rfl) ?_; clear ha a; intro a ha; refine wpList_nil ?_; replace ha := ha.sub (σ' := [(4, (.int .i64 (-1)))]) ⟨rfl, trivial⟩; refine e_then ?_; refine wp_ret ?_; refine e_then_ret ?_; obtain rfl := Option.some.inj hF
    exact f_ret1 ha rfl rfl ⟨⟨rfl, (show InI (-1) from by decide)⟩, hE23⟩
  replace hF := if_f hp24 hF; refine wp_skip ?_; refine e_then ?_; refine wp_seq ?_; refine wp_region_lit ?_; refine op_g ha rfl (g_move rfl) ?_; clear ha a; intro a ha; refine op_g ha rfl (g_assign rfl) ?_; clear ha a; intro a ha; refine wpList_nil ?_; replace ha := ha.sub (σ' := [(4, (.int .i64 x17))]) ⟨rfl, trivial⟩; refine e_then ?_; refine wp_ret ?_; obtain rfl := Option.some.inj hF
  exact f_ret1 ha rfl rfl ⟨⟨rfl, hI22⟩, hE23⟩
set_option maxHeartbeats 2000000 in
theorem W_laws_toInt64S {W : World} {va0 : Value} {fa0 : List Nat} {a0 : (List Int)} (ha0 : Ro Rp.int W fa0 va0 a0) {r : (List Int)} (hF : F_laws_toInt64S a0 = some r) :
    Calls Tryd.prog 48 [va0].toArray W (Ret fun u w' => ∃ (b_u : Int), Ow Rp.int 2 true w' [] b_u u r ∧ Zn W b_u ∧ Ext W w') := by
  refine f_enter Tryd.func48 rfl Tryd.ntmps48 rfl ?_
  intro a ha
  replace ha : Fr 22 [(0, va0)] a := ha
  have hE : Chg [] W W := Chg.refl _ _
  unfold F_laws_toInt64S at hF
  refine wp_seq ?_; refine wp_region_lit ?_; refine op_g ha rfl (g_assign rfl) ?_; clear ha a; intro a ha; refine wpList_nil ?_; replace ha := ha.sub (σ' := [(0, va0)]) ⟨rfl, trivial⟩; refine e_then ?_; refine wp_seq ?_; refine wp_region_lit ?_; refine op_g ha rfl (g_move rfl) ?_; clear ha a; intro a ha; refine op_g ha rfl (g_lenR sl29.und ha0 rfl) ?_; clear ha a; intro a ha; obtain ⟨g5, g5b, hF⟩ := mkS_some hF
  refine o_make (z0 := (0 : Int)) Rp.int ha rfl sl29 rfl (fun w => ⟨rfl, by decide, rfl⟩) rfl g5 g5b ?_; clear ha a; intro v1 w2 h3 hx4 a ha
  obtain ⟨b8, hb8⟩ : ∃ b : Int, b = W.heap.size := ⟨_, rfl⟩; rw [← hb8] at h3
  have q9 := zn_of hb8
  have q10 := Zn.upD q9 hE
  have hE11 := Ext.trans hE hx4
  refine op_g ha rfl (g_assign rfl) ?_; clear ha a; intro a ha; refine wpList_nil ?_; replace ha := ha.sub (σ' := [(0, va0), (3, v1)]) ⟨rfl, rfl, trivial⟩; refine e_then ?_; refine wp_seq ?_; refine wp_seq ?_; refine wp_region_lit ?_; refine op_g ha rfl (g_assign rfl) ?_; clear ha a; intro a ha; refine wpList_nil ?_; refine e_then ?_; obtain ⟨o118, ho119, hK120⟩ := bnd_some hF
  obtain ⟨n121, hn122⟩ := lp_some ho119; clear ho119
  refine c_loop (fun a w => ∃ (l115 : (List Int)) (v116 : Value) (b117 : Int), Fr 22 [(3, v116)] a ∧ Chg [] W w ∧ Ow Rp.int 2 true w [] b117 v116 l115 ∧ Zn W b117 ∧ o118 = .inl l115) (fun n a w => ∃ (l63 : (List Int)) (i66 : Int) (v64 : Value) (b65 : Int), Fr 22 [(0, va0), (3, v64), (4, (.int .i64 i66))] a ∧ Chg [] W w ∧ InI i66 ∧ Ow Rp.int 2 true w [] b65 v64 l63 ∧ Zn W b65 ∧ lpN (fun s => F_laws_toInt64S_l1 a0 s.1 s.2) n (l63, i66) = some o118) n121 ⟨(List.replicate ((a0.length : Int) : Int).toNat (0 : Int)), 0, v1, b8, ha.sub ⟨rfl, rfl, rfl, trivial⟩, hE11, (show InI 0 from by decide), h3, q10, hn122⟩ ?_ ?_
  · rintro m126 a w59 ⟨l63, i66, v64, b65, ha, hE68, hI67, h61, z62, hF⟩
    cases m126 with
    | zero => exact (lpN_zero hF).elim
    | succ m126 =>
      obtain ⟨z125, hF, hN124⟩ := lpN_succ hF
      have hF : F_laws_toInt64S_l1 a0 l63 i66 = some z125 := hF; unfold F_laws_toInt64S_l1 at hF
      refine wp_seq ?_; refine wp_seq ?_; refine wp_region_lit ?_; (iterate 2 refine op_g ha rfl (g_move rfl) ?_; clear ha a; intro a ha); refine op_g ha rfl (g_lenR sl29.und ha0 rfl) ?_; clear ha a; intro a ha; refine op_g ha rfl (g_lss rfl rfl) ?_; clear ha a; intro a ha; refine wpList_nil ?_; replace ha := ha.sub (σ' := [(0, va0), (3, v64), (4, (.int .i64 i66)), (11, (.bool (decide (i66 < (a0.length : Int)))))]) ⟨rfl, rfl, rfl, rfl, trivial⟩; refine e_then ?_; refine c_cond (i66 < (a0.length : Int)) ha rfl (decide_eq_true_iff) (fun hp127 => ?_) (fun hp127 => ?_)
      · replace hF := if_t hp127 hF
        refine wp_skip ?_; refine e_then ?_; refine wp_seq ?_; refine wp_block ?_; refine wp_region_lit ?_; (iterate 4 refine op_g ha rfl (g_move rfl) ?_; clear ha a; intro a ha); obtain ⟨x128, g129, gx130, hF⟩ := idx_some hF
        obtain ⟨p131, cs132, f133, hf134, hpb135, hat136, hr137, hi138⟩ := ha0.at g129 gx130
        obtain ⟨rfl, hI139, rfl⟩ := hr137
        refine op_g ha rfl (hi138.gives sl29 rfl rfl) ?_; clear ha a; intro a ha; refine op_g ha rfl (g_load0 hE68 Tryd.isAgg2 rfl hat136.one) ?_; clear ha a; intro a ha; obtain ⟨x140, g141, gx142, hF⟩ := idx_some hF
        obtain ⟨p143, cs144, f145, hf146, hpb147, hat148, hr149, hi150⟩ := h61.at g141 gx142
        obtain ⟨rfl, hI151, rfl⟩ := hr149
        refine op_g ha rfl (hi150.gives sl29 rfl rfl) ?_; clear ha a; intro a ha
        refine o_storeE (f := []) (q := x128) ha Tryd.sizeOf2 rfl rfl rfl h61 hi150 ⟨rfl, hI139, rfl⟩ (Nq.nil _) ?_; intro w152 fs153 h154 hc155 hs156
        obtain rfl := Subst.nil hs156
        have hE157 := Ext.then hE68 hc155 (Zn.bl z62)
        refine wpList_nil ?_; replace ha := ha.sub (σ' := [(0, va0), (3, v64), (4, (.int .i64 i66))]) ⟨rfl, rfl, rfl, trivial⟩; refine e_blk ?_; refine e_then ?_; refine wp_region_lit ?_; refine op_g ha rfl (g_move rfl) ?_; clear ha a; intro a ha; obtain ⟨hI158, hF⟩ := ck_some hF; refine op_g ha rfl (g_add rfl rfl hI158) ?_; clear ha a; intro a ha; refine op_g ha rfl (g_assign rfl) ?_; clear ha a; intro a ha; refine wpList_nil ?_; replace ha := ha.sub (σ' := [(0, va0), (3, v64), (4, (.int .i64 (i66 + 1)))]) ⟨rfl, rfl, rfl, trivial⟩; refine e_lq ?_; obtain rfl := Option.some.inj hF
        exact ⟨_, Nat.lt_succ_self _, (l63.set ((i66 : Int).toNat) x128), i66 + 1, v64, b65, ha.sub ⟨rfl, rfl, rfl, trivial⟩, hE157, hI158, h154, z62, hN124⟩
      replace hF := if_f hp127 hF; refine wp_exit ?_; refine e_then_exit ?_; refine e_lq_eq ?_; obtain rfl := Option.some.inj hF
      exact ⟨l63, v64, b65, ha.sub ⟨rfl, trivial⟩, hE68, h61, z62, (LK_inr hN124).symm⟩
  rintro a w111 ⟨l115, v116, b117, ha, hE123, h113, z114, rfl⟩
  have hF : F_laws_toInt64S_k2 l115 = some _ := hK120; clear hK120; unfold F_laws_toInt64S_k2 at hF
  refine e_then ?_; refine wp_seq ?_; refine wp_region_lit ?_; refine op_g ha rfl (g_move rfl) ?_; clear ha a; intro a ha; refine op_g ha rfl (g_assign rfl) ?_; clear ha a; intro a ha; refine wpList_nil ?_; replace ha := ha.sub (σ' := [(2, v116)]) ⟨rfl, trivial⟩; refine e_then ?_; refine wp_ret ?_; obtain rfl := Option.some.inj hF
  exact f_ret1 ha rfl rfl ⟨_, h113, z114, hE123⟩
set_option maxHeartbeats 2000000 in
theorem W_laws_toInt64SS {W : World} {va0 : Value} {fa0 : List Nat} {a0 : (List (List Int))} (ha0 : Ro (Rp.sl 2 Rp.int) W fa0 va0 a0) {r : (List (List Int))} (hF : F_laws_toInt64SS a0 = some r) :
    Calls Tryd.prog 25 [va0].toArray W (Ret fun u w' => ∃ (b_u : Int) (fs_u : List Nat), Ow (Rp.sl 2 Rp.int) 29 true w' fs_u b_u u r ∧ Zn W b_u ∧ (∀ k ∈ fs_u, W.heap.size ≤ k) ∧ (bl b_u ++ fs_u).Nodup ∧ Ext W w') := by
  refine f_enter Tryd.func25 rfl Tryd.ntmps25 rfl ?_
  intro a ha
  replace ha : Fr 23 [(0, va0)] a := ha
  have hE : Chg [] W W := Chg.refl _ _
  unfold F_laws_toInt64SS at hF
  refine wp_seq ?_; refine wp_region_lit ?_; refine op_g ha rfl (g_assign rfl) ?_; clear ha a; intro a ha; refine wpList_nil ?_; replace ha := ha.sub (σ' := [(0, va0)]) ⟨rfl, trivial⟩; refine e_then ?_; refine wp_seq ?_; refine wp_region_lit ?_; refine op_g ha rfl (g_move rfl) ?_; clear ha a; intro a ha; refine op_g ha rfl (g_lenR sl22.und ha0 rfl) ?_; clear ha a; intro a ha; obtain ⟨g5, g5b, hF⟩ := mkS_some hF
  refine o_make (z0 := ([] : (List Int))) (Rp.sl 2 Rp.int) ha rfl sl22 rfl (fun w => nil_rep w) rfl g5 g5b ?_; clear ha a; intro v1 w2 h3 hx4 a ha
  obtain ⟨b8, hb8⟩ : ∃ b : Int, b = W.heap.size := ⟨_, rfl⟩; rw [← hb8] at h3
  have q9 := zn_of hb8
  have q10 := Zn.upD q9 hE
  have hE11 := Ext.trans hE hx4
  refine op_g ha rfl (g_assign rfl) ?_; clear ha a; intro a ha; refine wpList_nil ?_; replace ha := ha.sub (σ' := [(0, va0), (3, v1)]) ⟨rfl, rfl, trivial⟩; refine e_then ?_; refine wp_seq ?_; refine wp_seq ?_; refine wp_region_lit ?_; refine op_g ha rfl (g_assign rfl) ?_; clear ha a; intro a ha; refine wpList_nil ?_; refine e_then ?_; obtain ⟨o181, ho182, hK183⟩ := bnd_some hF
  obtain ⟨n184, hn185⟩ := lp_some ho182; clear ho182
  refine c_loop (fun a w => ∃ (l178 : (List (List Int))) (fs175 : List Nat) (v179 : Value) (b180 : Int), Fr 23 [(3, v179)] a ∧ Chg [] W w ∧ Ow (Rp.sl 2 Rp.int) 29 true w fs175 b180 v179 l178 ∧ Zn W b180 ∧ (∀ k ∈ fs175, W.heap.size ≤ k) ∧ (bl b180 ++ fs175).Nodup ∧ o181 = .inl l178) (fun n a w => ∃ (l96 : (List (List Int))) (i99 : Int) (fs93 : List Nat) (v97 : Value) (b98 : Int), Fr 23 [(0, va0), (3, v97), (4, (.int .i64 i99))] a ∧ Chg [] W w ∧ InI i99 ∧ Ow (Rp.sl 2 Rp.int) 29 true w fs93 b98 v97 l96 ∧ Zn W b98 ∧ (∀ k ∈ fs93, W.heap.size ≤ k) ∧ (bl b98 ++ fs93).Nodup ∧ lpN (fun s => F_laws_toInt64SS_l1 a0 s.1 s.2) n (l96, i99) = some o181) n184 ⟨(List.replicate ((a0.length : Int) : Int).toNat ([] : (List Int))), 0, [], v1, b8, ha.sub ⟨rfl, rfl, rfl, trivial⟩, hE11, (show InI 0 from by decide), h3, q10, (zf_nil _), (bl_nodup b8), hn185⟩ ?_ ?_
  · rintro m189 a w89 ⟨l96, i99, fs93, v97, b98, ha, hE101, hI100, h91, z92, zf94, nd95, hF⟩
    cases m189 with
    | zero => exact (lpN_zero hF).elim
    | succ m189 =>
      obtain ⟨z188, hF, hN187⟩ := lpN_succ hF
      have hF : F_laws_toInt64SS_l1 a0 l96 i99 = some z188 := hF; unfold F_laws_toInt64SS_l1 at hF
      refine wp_seq ?_; refine wp_seq ?_; refine wp_region_lit ?_; (iterate 2 refine op_g ha rfl (g_move rfl) ?_; clear ha a; intro a ha); refine op_g ha rfl (g_lenR sl22.und ha0 rfl) ?_; clear ha a; intro a ha; refine op_g ha rfl (g_lss rfl rfl) ?_; clear ha a; intro a ha; refine wpList_nil ?_; replace ha := ha.sub (σ' := [(0, va0), (3, v97), (4, (.int .i64 i99)), (11, (.bool (decide (i99 < (a0.length : Int)))))]) ⟨rfl, rfl, rfl, rfl, trivial⟩; refine e_then ?_; refine c_cond (i99 < (a0.length : Int)) ha rfl (decide_eq_true_iff) (fun hp190 => ?_) (fun hp190 => ?_)
      · replace hF := if_t hp190 hF
        refine wp_skip ?_; refine e_then ?_; refine wp_seq ?_; refine wp_block ?_; refine wp_region_lit ?_; (iterate 4 refine op_g ha rfl (g_move rfl) ?_; clear ha a; intro a ha); obtain ⟨x191, g192, gx193, hF⟩ := idx_some hF
        obtain ⟨p194, cs195, f196, hf197, hpb198, hat199, hr200, hi201⟩ := ha0.at g192 gx193
        obtain ⟨v202, rfl, h203⟩ := hr200
        have h203 : Ro Rp.int W f196 v202 x191 := h203
        refine op_g ha rfl (hi201.gives sl22 rfl rfl) ?_; clear ha a; intro a ha; refine op_g ha rfl (g_load0 hE101 Tryd.isAgg29 rfl hat199.one) ?_; clear ha a; intro a ha; obtain ⟨x205, hc206, hF⟩ := cal_some hF
        refine o_call ha rfl rfl Tryd.call48 (W_laws_toInt64S (h203.ext hE101) hc206) ?_; clear ha a; rintro v207 w208 ⟨b210, h211, z212, hx209⟩ a ha
        have q214 := Nq.new h91.fpb z212
        have q215 := Nq.madeO z212 h91.blt
        have q216 := Nf.old z212 (zf_nil _) h91.bnd
        replace h91 := h91.ext hx209
        have hE217 := Ext.trans hE101 hx209
        have q218 := Zn.upD z212 hE101
        obtain ⟨x219, g220, gx221, hF⟩ := idx_some hF
        obtain ⟨p222, cs223, f224, hf225, hpb226, hat227, hr228, hi229⟩ := h91.at g220 gx221
        replace hr228 := (Rp.sl 2 Rp.int).weak hr228
        obtain ⟨v230, rfl, h231⟩ := hr228
        have h231 : Ro Rp.int w208 f224 v230 x219 := h231
        have q233 := Nq.mono q214 (fun k hk => List.mem_append_right (bl b98) (hf225 k hk))
        have q234 := Nq.mono (Ow.ne h91) hf225
        refine op_g ha rfl (hi229.gives sl22 rfl rfl) ?_; clear ha a; intro a ha
        refine o_storeE (f := (bl b210 ++ [])) (q := x205) ha Tryd.sizeOf29 rfl rfl h211.cells h91 hi229 (Rp.mkO h211) q215 ?_; intro w235 fs236 h237 hc238 hs239
        have q240 := zf_mv q218 (zf_nil _)
        have q241 := dj_of q214
        have q242 := zf_set hs239 zf94 q240
        have q243 := Subst.nd hs239 nd95 (bl_nodup b210) q241
        replace h231 := h231.nq hc238 q234
        have hE244 := Ext.then hE217 hc238 (Zn.bl z92)
        refine wpList_nil ?_; replace ha := ha.sub (σ' := [(0, va0), (3, v97), (4, (.int .i64 i99))]) ⟨rfl, rfl, rfl, trivial⟩; refine e_blk ?_; refine e_then ?_; refine wp_region_lit ?_; refine op_g ha rfl (g_move rfl) ?_; clear ha a; intro a ha; obtain ⟨hI245, hF⟩ := ck_some hF; refine op_g ha rfl (g_add rfl rfl hI245) ?_; clear ha a; intro a ha; refine op_g ha rfl (g_assign rfl) ?_; clear ha a; intro a ha; refine wpList_nil ?_; replace ha := ha.sub (σ' := [(0, va0), (3, v97), (4, (.int .i64 (i99 + 1)))]) ⟨rfl, rfl, rfl, trivial⟩; refine e_lq ?_; obtain rfl := Option.some.inj hF
        exact ⟨_, Nat.lt_succ_self _, (l96.set ((i99 : Int).toNat) x205), i99 + 1, fs236, v97, b98, ha.sub ⟨rfl, rfl, rfl, trivial⟩, hE244, hI245, h237, z92, q242, q243, hN187⟩
      replace hF := if_f hp190 hF; refine wp_exit ?_; refine e_then_exit ?_; refine e_lq_eq ?_; obtain rfl := Option.some.inj hF
      exact ⟨l96, fs93, v97, b98, ha.sub ⟨rfl, trivial⟩, hE101, h91, z92, zf94, nd95, (LK_inr hN187).symm⟩
  rintro a w171 ⟨l178, fs175, v179, b180, ha, hE186, h173, z174, zf176, nd177, rfl⟩
  have hF : F_laws_toInt64SS_k2 l178 = some _ := hK183; clear hK183; unfold F_laws_toInt64SS_k2 at hF
  refine e_then ?_; refine wp_seq ?_; refine wp_region_lit ?_; refine op_g ha rfl (g_move rfl) ?_; clear ha a; intro a ha; refine op_g ha rfl (g_assign rfl) ?_; clear ha a; intro a ha; refine wpList_nil ?_; replace ha := ha.sub (σ' := [(2, v179)]) ⟨rfl, trivial⟩; refine e_then ?_; refine wp_ret ?_; obtain rfl := Option.some.inj hF
  exact f_ret1 ha rfl rfl ⟨_, _, h173, z174, zf176, nd177, hE186⟩
set_option maxHeartbeats 2000000 in
theorem W_laws_toGraph {W : World} {va0_0 : Value} {fa0_0 : List Nat} {a0_0 : (List (List Int))} (ha0_0 : Ro (Rp.sl 2 Rp.int) W fa0_0 va0_0 a0_0) {r : (List (List Int))} (hF : F_laws_toGraph a0_0 = some r) :
    Calls Tryd.prog 7 [.agg #[va0_0]].toArray W (Ret fun u w' => ∃ (u_0 : Value) (b_u_0 : Int) (fs_u_0 : List Nat), u = .agg #[u_0] ∧ Ow (Rp.sl 2 Rp.int) 29 true w' fs_u_0 b_u_0 u_0 r ∧ Zn W b_u_0 ∧ (∀ k ∈ fs_u_0, W.heap.size ≤ k) ∧ (bl b_u_0 ++ fs_u_0).Nodup ∧ Ext W w') := by
  refine f_enter Tryd.func7 rfl Tryd.ntmps7 rfl ?_
  intro a ha
  replace ha : Fr 9 [(0, (.agg #[va0_0]))] a := ha
  have hE : Chg [] W W := Chg.refl _ _
  unfold F_laws_toGraph at hF
  refine wp_seq ?_; refine wp_region_lit ?_
  refine o_box ha rfl rfl rfl ?_; clear ha a; intro b1 w2 hB3 hx4 hlo5 a ha
  have q6 := Zn.one hlo5
  have q7 := Zn.upD q6 hE
  have hE8 := Ext.trans hE hx4
  refine o_alloc (cs := [(.slice none 0 0)]) ha rfl Tryd.zeroValue31 rfl ?_; clear ha a; intro b9 w10 hB11 hx12 hlo13 a ha
  have q14 := Zn.one hlo13
  have q15 := Nq.new hB3.fpb q14
  have q16 := Nq.made1 hlo13 hB3.bi
  have q17 := Zn.upD q14 hE8
  replace hB3 := hB3.ext hx12
  have hE18 := Ext.trans hE8 hx12
  refine wpList_nil ?_; replace ha := ha.sub (σ' := [(1, (.pointer (some ⟨b1, 0, none⟩))), (2, (.pointer (some ⟨b9, 0, none⟩)))]) ⟨rfl, rfl, trivial⟩; refine e_then ?_; refine wp_seq ?_; refine wp_region_lit ?_
  refine o_alloc (cs := [(.slice none 0 0)]) ha rfl Tryd.zeroValue31 rfl ?_; clear ha a; intro b19 w20 hB21 hx22 hlo23 a ha
  have q24 := Zn.one hlo23
  have q25 := Nq.new hB3.fpb q24
  have q26 := Nq.made1 hlo23 hB3.bi
  have q27 := Nq.new hB11.fpb q24
  have q28 := Nq.made1 hlo23 hB11.bi
  have q29 := Zn.upD q24 hE18
  replace hB3 := hB3.ext hx22
  replace hB11 := hB11.ext hx22
  have hE30 := Ext.trans hE18 hx22
  refine wpList_nil ?_; refine e_then ?_; refine wp_seq ?_; refine wp_region_lit ?_; refine op_g ha rfl (g_field0 st24_0 rfl) ?_; clear ha a; intro a ha; refine op_g ha rfl (g_load Tryd.isAgg22 rfl (hB3.cell rfl)) ?_; clear ha a; intro a ha; obtain ⟨x31, hc32, hF⟩ := cal_some hF
  refine o_call ha rfl rfl Tryd.call25 (W_laws_toInt64SS (ha0_0.ext hE30) hc32) ?_; clear ha a; rintro v33 w34 ⟨b36, fs40, h37, z38, zf41, nd42, hx35⟩ a ha
  have q43 := Nq.new hB3.fpb z38
  have q44 := Nq.madeF z38 zf41 hB3.bi
  have q45 := Nq.new hB11.fpb z38
  have q46 := Nq.madeF z38 zf41 hB11.bi
  have q47 := Nq.new hB21.fpb z38
  have q48 := Nq.madeF z38 zf41 hB21.bi
  have q49 := Nf.new hB3.fpb zf41
  have q50 := Nf.new hB11.fpb zf41
  have q51 := Nf.new hB21.fpb zf41
  replace hB3 := hB3.ext hx35
  replace hB11 := hB11.ext hx35
  replace hB21 := hB21.ext hx35
  have hE52 := Ext.trans hE30 hx35
  have q53 := Zn.upD z38 hE30
  have q54 := zf_up zf41 hE30
  refine op_g ha rfl (g_field0 st31_0 rfl) ?_; clear ha a; intro a ha
  refine o_storeB ha hB21 Tryd.sizeOf22 rfl rfl h37.cells h37.oneC (Nat.le_of_ble_eq_true rfl) ?_; intro w55 hB56 hc57
  replace hc57 := hc57.bl
  replace hB56 : Bx w55 b19 [v33] 31 := hB56
  replace hB3 := hB3.nq hc57 q25
  replace hB11 := hB11.nq hc57 q27
  replace h37 := h37.nq hc57 q48
  have hE58 := Ext.then hE52 hc57 (Zn.bl q29)
  refine wpList_nil ?_; replace ha := ha.sub (σ' := [(2, (.pointer (some ⟨b9, 0, none⟩))), (3, (.pointer (some ⟨b19, 0, none⟩)))]) ⟨rfl, rfl, trivial⟩; refine e_then ?_; refine wp_seq ?_; refine wp_region_lit ?_; refine op_g ha rfl (g_loadA (cs := [v33]) Tryd.isAgg31 Tryd.sizeOf31 rfl (by simp) hB56.all) ?_; clear ha a; intro a ha
  refine o_storeA (vs := [v33]) ha hB11 Tryd.sizeOf31 rfl rfl (by intro c hc; simp only [List.mem_cons, List.not_mem_nil, or_false] at hc; rcases hc with hc <;> subst hc <;> first | rfl | exact h37.oneC) rfl ?_; intro w59 hB60 hc61
  replace hc61 := hc61.bl
  replace hB60 : Bx w59 b9 [v33] 31 := hB60
  replace hB56 := hB56.nq hc61 q28
  replace h37 := h37.nq hc61 q46
  have hE62 := Ext.then hE58 hc61 (Zn.bl q17)
  refine wpList_nil ?_; replace ha := ha.sub (σ' := [(2, (.pointer (some ⟨b9, 0, none⟩)))]) ⟨rfl, trivial⟩; refine e_then ?_; refine wp_ret ?_; obtain rfl := Option.some.inj hF
  exact f_retC (cs := [v33]) ha rfl rfl Tryd.isAgg31 Tryd.sizeOf31 hB60 ⟨_, _, _, rfl, h37, q53, q54, nd42, hE62⟩
set_option maxHeartbeats 2000000 in
theorem W_laws_toDecomp {W : World} {va0_0 : Value} {fa0_0 : List Nat} {a0_0 : (List (List Int))} (ha0_0 : Ro (Rp.sl 2 Rp.int) W fa0_0 va0_0 a0_0) {va0_1 : Value} {fa0_1 : List Nat} {a0_1 : (List (List Int))} (ha0_1 : Ro (Rp.sl 2 Rp.int) W fa0_1 va0_1 a0_1) {r : ((List (List Int)) × (List (List Int)))} (hF : F_laws_toDecomp a0_0 a0_1 = some r) :
    Calls Tryd.prog 8 [.agg #[va0_0, va0_1]].toArray W (Ret fun u w' => ∃ (u_0 : Value) (u_1 : Value) (b_u_0 : Int) (fs_u_0 : List Nat) (b_u_1 : Int) (fs_u_1 : List Nat), u = .agg #[u_0, u_1] ∧ Ow (Rp.sl 2 Rp.int) 29 true w' fs_u_0 b_u_0 u_0 r.1 ∧ Zn W b_u_0 ∧ (∀ k ∈ fs_u_0, W.heap.size ≤ k) ∧ (bl b_u_0 ++ fs_u_0).Nodup ∧ Ow (Rp.sl 2 Rp.int) 29 true w' fs_u_1 b_u_1 u_1 r.2 ∧ Zn W b_u_1 ∧ (∀ k ∈ fs_u_1, W.heap.size ≤ k) ∧ (bl b_u_1 ++ fs_u_1).Nodup ∧ Nq (bl b_u_0 ++ fs_u_0) b_u_1 ∧ Nq (bl b_u_1 ++ fs_u_1) b_u_0 ∧ (∀ k ∈ (bl b_u_0 ++ fs_u_0 : List Nat), k ∉ fs_u_1) ∧ (∀ k ∈ (bl b_u_1 ++ fs_u_1 : List Nat), k ∉ fs_u_0) ∧ Ext W w') := by
  refine f_enter Tryd.func8 rfl Tryd.ntmps8 rfl ?_
  intro a ha
  replace ha : Fr 13 [(0, (.agg #[va0_0, va0_1]))] a := ha
  have hE : Chg [] W W := Chg.refl _ _
  unfold F_laws_toDecomp at hF
  refine wp_seq ?_; refine wp_region_lit ?_
  refine o_box ha rfl rfl rfl ?_; clear ha a; intro b1 w2 hB3 hx4 hlo5 a ha
  have q6 := Zn.one hlo5
  have q7 := Zn.upD q6 hE
  have hE8 := Ext.trans hE hx4
  refine o_alloc (cs := [(.slice none 0 0), (.slice none 0 0)]) ha rfl Tryd.zeroValue33 rfl ?_; clear ha a; intro b9 w10 hB11 hx12 hlo13 a ha
  have q14 := Zn.one hlo13
  have q15 := Nq.new hB3.fpb q14
  have q16 := Nq.made1 hlo13 hB3.bi
  have q17 := Zn.upD q14 hE8
  replace hB3 := hB3.ext hx12
  have hE18 := Ext.trans hE8 hx12
  refine wpList_nil ?_; replace ha := ha.sub (σ' := [(1, (.pointer (some ⟨b1, 0, none⟩))), (2, (.pointer (some ⟨b9, 0, none⟩)))]) ⟨rfl, rfl, trivial⟩; refine e_then ?_; refine wp_seq ?_; refine wp_region_lit ?_
  refine o_alloc (cs := [(.slice none 0 0), (.slice none 0 0)]) ha rfl Tryd.zeroValue33 rfl ?_; clear ha a; intro b19 w20 hB21 hx22 hlo23 a ha
  have q24 := Zn.one hlo23
  have q25 := Nq.new hB3.fpb q24
  have q26 := Nq.made1 hlo23 hB3.bi
  have q27 := Nq.new hB11.fpb q24
  have q28 := Nq.made1 hlo23 hB11.bi
  have q29 := Zn.upD q24 hE18
  replace hB3 := hB3.ext hx22
  replace hB11 := hB11.ext hx22
  have hE30 := Ext.trans hE18 hx22
  refine wpList_nil ?_; refine e_then ?_; refine wp_seq ?_; refine wp_region_lit ?_; refine op_g ha rfl (g_field0 st26_0 rfl) ?_; clear ha a; intro a ha; refine op_g ha rfl (g_load Tryd.isAgg22 rfl (hB3.cell rfl)) ?_; clear ha a; intro a ha; obtain ⟨x31, hc32, hF⟩ := cal_some hF
  refine o_call ha rfl rfl Tryd.call25 (W_laws_toInt64SS (ha0_0.ext hE30) hc32) ?_; clear ha a; rintro v33 w34 ⟨b36, fs40, h37, z38, zf41, nd42, hx35⟩ a ha
  have q43 := Nq.new hB3.fpb z38
  have q44 := Nq.madeF z38 zf41 hB3.bi
  have q45 := Nq.new hB11.fpb z38
  have q46 := Nq.madeF z38 zf41 hB11.bi
  have q47 := Nq.new hB21.fpb z38
  have q48 := Nq.madeF z38 zf41 hB21.bi
  have q49 := Nf.new hB3.fpb zf41
  have q50 := Nf.new hB11.fpb zf41
  have q51 := Nf.new hB21.fpb zf41
  replace hB3 := hB3.ext hx35
  replace hB11 := hB11.ext hx35
  replace hB21 := hB21.ext hx35
  have hE52 := Ext.trans hE30 hx35
  have q53 := Zn.upD z38 hE30
  have q54 := zf_up zf41 hE30
  refine op_g ha rfl (g_field0 st33_0 rfl) ?_; clear ha a; intro a ha
  refine o_storeB ha hB21 Tryd.sizeOf22 rfl rfl h37.cells h37.oneC (Nat.le_of_ble_eq_true rfl) ?_; intro w55 hB56 hc57
  replace hc57 := hc57.bl
  replace hB56 : Bx w55 b19 [v33, (.slice none 0 0)] 33 := hB56
  replace hB3 := hB3.nq hc57 q25
  replace hB11 := hB11.nq hc57 q27
  replace h37 := h37.nq hc57 q48
  have hE58 := Ext.then hE52 hc57 (Zn.bl q29)
  refine wpList_nil ?_; replace ha := ha.sub (σ' := [(1, (.pointer (some ⟨b1, 0, none⟩))), (2, (.pointer (some ⟨b9, 0, none⟩))), (3, (.pointer (some ⟨b19, 0, none⟩)))]) ⟨rfl, rfl, rfl, trivial⟩; refine e_then ?_; refine wp_seq ?_; refine wp_region_lit ?_; refine op_g ha rfl (g_field0 st26_1 rfl) ?_; clear ha a; intro a ha; refine op_g ha rfl (g_load Tryd.isAgg22 rfl (hB3.cell rfl)) ?_; clear ha a; intro a ha; obtain ⟨x59, hc60, hF⟩ := cal_some hF
  refine o_call ha rfl rfl Tryd.call25 (W_laws_toInt64SS (ha0_1.ext hE58) hc60) ?_; clear ha a; rintro v61 w62 ⟨b64, fs68, h65, z66, zf69, nd70, hx63⟩ a ha
  have q71 := Nq.new hB3.fpb z66
  have q72 := Nq.madeF z66 zf69 hB3.bi
  have q73 := Nq.new hB11.fpb z66
  have q74 := Nq.madeF z66 zf69 hB11.bi
  have q75 := Nq.new hB56.fpb z66
  have q76 := Nq.madeF z66 zf69 hB56.bi
  have q77 := Nq.new h37.fpb z66
  have q78 := Nq.madeF z66 zf69 h37.blt
  have q79 := Nf.new hB3.fpb zf69
  have q80 := Nf.new hB11.fpb zf69
  have q81 := Nf.new hB56.fpb zf69
  have q82 := Nf.new h37.fpb zf69
  have q83 := Nf.old z66 zf69 h37.bnd
  replace hB3 := hB3.ext hx63
  replace hB11 := hB11.ext hx63
  replace hB56 := hB56.ext hx63
  replace h37 := h37.ext hx63
  have hE84 := Ext.trans hE58 hx63
  have q85 := Zn.upD z66 hE58
  have q86 := zf_up zf69 hE58
  refine op_g ha rfl (g_field0 st33_1 rfl) ?_; clear ha a; intro a ha
  refine o_storeB ha hB56 Tryd.sizeOf22 rfl rfl h65.cells h65.oneC (Nat.le_of_ble_eq_true rfl) ?_; intro w87 hB88 hc89
  replace hc89 := hc89.bl
  replace hB88 : Bx w87 b19 [v33, v61] 33 := hB88
  replace hB3 := hB3.nq hc89 q25
  replace hB11 := hB11.nq hc89 q27
  replace h37 := h37.nq hc89 q48
  replace h65 := h65.nq hc89 q76
  have hE90 := Ext.then hE84 hc89 (Zn.bl q29)
  refine wpList_nil ?_; replace ha := ha.sub (σ' := [(2, (.pointer (some ⟨b9, 0, none⟩))), (3, (.pointer (some ⟨b19, 0, none⟩)))]) ⟨rfl, rfl, trivial⟩; refine e_then ?_; refine wp_seq ?_; refine wp_region_lit ?_; refine op_g ha rfl (g_loadA (cs := [v33, v61]) Tryd.isAgg33 Tryd.sizeOf33 rfl (by simp) hB88.all) ?_; clear ha a; intro a ha
  refine o_storeA (vs := [v33, v61]) ha hB11 Tryd.sizeOf33 rfl rfl (by intro c hc; simp only [List.mem_cons, List.not_mem_nil, or_false] at hc; rcases hc with hc | hc <;> subst hc <;> first | rfl | exact h37.oneC | exact h65.oneC) rfl ?_; intro w91 hB92 hc93
  replace hc93 := hc93.bl
  replace hB92 : Bx w91 b9 [v33, v61] 33 := hB92
  replace hB88 := hB88.nq hc93 q28
  replace h37 := h37.nq hc93 q46
  replace h65 := h65.nq hc93 q74
  have hE94 := Ext.then hE90 hc93 (Zn.bl q17)
  refine wpList_nil ?_; replace ha := ha.sub (σ' := [(2, (.pointer (some ⟨b9, 0, none⟩)))]) ⟨rfl, trivial⟩; refine e_then ?_; refine wp_ret ?_; obtain rfl := Option.some.inj hF
  exact f_retC (cs := [v33, v61]) ha rfl rfl Tryd.isAgg33 Tryd.sizeOf33 hB92 ⟨_, _, _, _, _, _, rfl, h37, q53, q54, nd42, h65, q85, q86, nd70, q77, q78, q82, q83, hE94⟩
set_option maxHeartbeats 2000000 in
theorem W_spec_l1Size {W : World} {va0_0 : Value} {fa0_0 : List Nat} {a0_0 : (List (List Int))} (ha0_0 : Ro (Rp.sl 2 Rp.int) W fa0_0 va0_0 a0_0) {r : Int} (hF : F_spec_l1Size a0_0 = some r) :
    Calls Tryd.prog 20 [.agg #[va0_0]].toArray W (Ret fun u w' => (u = .int .i64 r ∧ InI r) ∧ Ext W w') := by
  refine f_enter Tryd.func20 rfl Tryd.ntmps20 rfl ?_
  intro a ha
  replace ha : Fr 6 [(0, (.agg #[va0_0]))] a := ha
  have hE : Chg [] W W := Chg.refl _ _
  unfold F_spec_l1Size at hF
  refine wp_seq ?_; refine wp_region_lit ?_
  refine o_box ha rfl rfl rfl ?_; clear ha a; intro b1 w2 hB3 hx4 hlo5 a ha
  have q6 := Zn.one hlo5
  have q7 := Zn.upD q6 hE
  have hE8 := Ext.trans hE hx4
  refine op_g ha rfl (g_assign rfl) ?_; clear ha a; intro a ha; refine wpList_nil ?_; replace ha := ha.sub (σ' := [(1, (.pointer (some ⟨b1, 0, none⟩)))]) ⟨rfl, trivial⟩; refine e_then ?_; refine wp_seq ?_; refine wp_region_lit ?_; refine op_g ha rfl (g_field0 st31_0 rfl) ?_; clear ha a; intro a ha; refine op_g ha rfl (g_load Tryd.isAgg22 rfl (hB3.cell rfl)) ?_; clear ha a; intro a ha; refine op_g ha rfl (g_lenR sl22.und ha0_0 rfl) ?_; clear ha a; intro a ha; refine op_g ha rfl (g_assign rfl) ?_; clear ha a; intro a ha; refine wpList_nil ?_; replace ha := ha.sub (σ' := [(2, (.int .i64 (a0_0.length : Int)))]) ⟨rfl, trivial⟩
  refine e_then ?_; refine wp_ret ?_; obtain rfl := Option.some.inj hF
  exact f_ret1 ha rfl rfl ⟨⟨rfl, ha0_0.len⟩, hE8⟩
set_option maxHeartbeats 2000000 in
theorem W_spec_l1In {W : World} {a0 : Int} (ha0 : InI a0) {a1 : Int} (ha1 : InI a1) {a2 : Int} (ha2 : InI a2) {r : Bool} (hF : F_spec_l1In a0 a1 a2 = some r) :
    Calls Tryd.prog 60 [.int .i64 a0, .int .i64 a1, .int .i64 a2].toArray W (Ret fun u w' => u = .bool r ∧ Ext W w') := by
  refine f_enter Tryd.func60 rfl Tryd.ntmps60 rfl ?_
  intro a ha
  replace ha : Fr 15 [(0, (.int .i64 a0)), (1, (.int .i64 a1)), (2, (.int .i64 a2))] a := ha
  have hE : Chg [] W W := Chg.refl _ _
  unfold F_spec_l1In at hF
  refine wp_seq ?_; refine wp_region_lit ?_; refine op_g ha rfl (g_assign rfl) ?_; clear ha a; intro a ha; refine wpList_nil ?_; replace ha := ha.sub (σ' := [(0, (.int .i64 a0)), (1, (.int .i64 a1)), (2, (.int .i64 a2))]) ⟨rfl, rfl, rfl, trivial⟩; refine e_then ?_; refine wp_seq ?_; refine wp_region_lit ?_; (iterate 2 refine op_g ha rfl (g_move rfl) ?_; clear ha a; intro a ha); refine op_g ha rfl (g_geq rfl rfl) ?_; clear ha a; intro a ha; refine op_g ha rfl (g_move rfl) ?_; clear ha a; intro a ha
  by_cases hp1 : a1 ≤ a0
  · replace hF := if_t hp1 hF
    rw [show (decide (a1 ≤ a0)) = true from (decide_eq_true_iff).2 hp1] at ha
    refine op_want (yields ha rfl rfl) ?_; refine op_g ha rfl (g_move rfl) ?_; clear ha a; intro a ha; refine op_want (yields ha rfl rfl) ?_; refine op_g ha rfl (g_move rfl) ?_; clear ha a; intro a ha; refine op_want (yields ha rfl rfl) ?_; refine op_g ha rfl (g_leq rfl rfl) ?_; clear ha a; intro a ha; refine op_g ha rfl (g_pick rfl rfl) ?_; clear ha a; intro a ha; refine op_g ha rfl (g_assign rfl) ?_; clear ha a; intro a ha; refine wpList_nil ?_; replace ha := ha.sub (σ' := [(6, (.bool (decide (a0 ≤ a2))))]) ⟨rfl, trivial⟩; refine e_then ?_; refine wp_ret ?_; obtain rfl := Option.some.inj hF
    exact f_ret1 ha rfl rfl ⟨rfl, hE⟩
  replace hF := if_f hp1 hF
  rw [show (decide (a1 ≤ a0)) = false from b_false (decide_eq_true_iff) hp1] at ha
  (iterate 3 refine op_unwant ha rfl (yields ha rfl rfl) rfl ?_; clear ha a; intro a ha); refine op_g ha rfl (g_pick rfl rfl) ?_; clear ha a; intro a ha; refine op_g ha rfl (g_assign rfl) ?_; clear ha a; intro a ha; refine wpList_nil ?_; replace ha := ha.sub (σ' := [(6, (.bool false))]) ⟨rfl, trivial⟩; refine e_then ?_; refine wp_ret ?_; obtain rfl := Option.some.inj hF
  exact f_ret1 ha rfl rfl ⟨rfl, hE⟩
set_option maxHeartbeats 2000000 in
theorem W_spec_l1Set {W : World} {va0 : Value} {fa0 : List Nat} {a0 : (List Int)} (ha0 : Ro Rp.int W fa0 va0 a0) {a1 : Int} (ha1 : InI a1) {r : Bool} (hF : F_spec_l1Set a0 a1 = some r) :
    Calls Tryd.prog 41 [va0, .int .i64 a1].toArray W (Ret fun u w' => u = .bool r ∧ Ext W w') := by
  refine f_enter Tryd.func41 rfl Tryd.ntmps41 rfl ?_
  intro a ha
  replace ha : Fr 40 [(0, va0), (1, (.int .i64 a1))] a := ha
  have hE : Chg [] W W := Chg.refl _ _
  unfold F_spec_l1Set at hF
  refine wp_seq ?_; refine wp_region_lit ?_; refine op_g ha rfl (g_assign rfl) ?_; clear ha a; intro a ha; refine wpList_nil ?_; replace ha := ha.sub (σ' := [(0, va0), (1, (.int .i64 a1))]) ⟨rfl, rfl, trivial⟩; refine e_then ?_; refine wp_seq ?_; refine wp_seq ?_; refine wp_region_lit ?_; refine op_g ha rfl (g_move rfl) ?_; clear ha a; intro a ha; refine op_g ha rfl (g_lenR sl29.und ha0 rfl) ?_; clear ha a; intro a ha; refine op_g ha rfl (g_move rfl) ?_; clear ha a; intro a ha; refine op_g ha rfl (g_gtr rfl rfl) ?_; clear ha a; intro a ha; refine wpList_nil ?_; replace ha := ha.sub (σ' := [(0, va0), (1, (.int .i64 a1)), (9, (.bool (decide (a1 < (a0.length : Int)))))]) ⟨rfl, rfl, rfl, trivial⟩
  refine e_then ?_; refine c_cond (a1 < (a0.length : Int)) ha rfl (decide_eq_true_iff) (fun hp1 => ?_) (fun hp1 => ?_)
  · replace hF := if_t hp1 hF
    refine wp_seq ?_; refine wp_region_lit ?_; refine op_g ha rfl (g_assign rfl) ?_; clear ha a; intro a ha; refine wpList_nil ?_; replace ha := ha.sub (σ' := [(4, (.bool false))]) ⟨rfl, trivial⟩; refine e_then ?_; refine wp_ret ?_; refine e_then_ret ?_; obtain rfl := Option.some.inj hF
    exact f_ret1 ha rfl rfl ⟨rfl, hE⟩
  replace hF := if_f hp1 hF; refine wp_skip ?_; refine e_then ?_; refine wp_seq ?_; refine wp_seq ?_; refine wp_region_lit ?_; refine op_g ha rfl (g_assign rfl) ?_; clear ha a; intro a ha; refine wpList_nil ?_; replace ha := ha.sub (σ' := [(0, va0), (1, (.int .i64 a1)), (5, (.int .i64 0))]) ⟨rfl, rfl, rfl, trivial⟩; refine e_then ?_; obtain ⟨o137, ho138, hK139⟩ := bnd_some hF
  obtain ⟨n140, hn141⟩ := lp_some ho138; clear ho138
  refine c_loop (fun a w => Fr 40 [] a ∧ Chg [] W w ∧ o137 = .inl ()) (fun n a w => ∃ (i69 : Int), Fr 40 [(0, va0), (1, (.int .i64 a1)), (5, (.int .i64 i69))] a ∧ Chg [] W w ∧ InI i69 ∧ lpN (fun s => F_spec_l1Set_l1 a0 a1 s) n i69 = some o137) n140 ⟨0, ha.sub ⟨rfl, rfl, rfl, trivial⟩, hE, (show InI 0 from by decide), hn141⟩ ?_ ?_
  · rintro m145 a w68 ⟨i69, ha, hE71, hI70, hF⟩
    cases m145 with
    | zero => exact (lpN_zero hF).elim
    | succ m145 =>
      obtain ⟨z144, hF, hN143⟩ := lpN_succ hF
      have hF : F_spec_l1Set_l1 a0 a1 i69 = some z144 := hF; unfold F_spec_l1Set_l1 at hF
      refine wp_seq ?_; refine wp_seq ?_; refine wp_region_lit ?_; (iterate 2 refine op_g ha rfl (g_move rfl) ?_; clear ha a; intro a ha); refine op_g ha rfl (g_lenR sl29.und ha0 rfl) ?_; clear ha a; intro a ha; refine op_g ha rfl (g_lss rfl rfl) ?_; clear ha a; intro a ha; refine wpList_nil ?_; replace ha := ha.sub (σ' := [(0, va0), (1, (.int .i64 a1)), (5, (.int .i64 i69)), (13, (.bool (decide (i69 < (a0.length : Int)))))]) ⟨rfl, rfl, rfl, rfl, trivial⟩; refine e_then ?_; refine c_cond (i69 < (a0.length : Int)) ha rfl (decide_eq_true_iff) (fun hp146 => ?_) (fun hp146 => ?_)
      · replace hF := if_t hp146 hF
        refine wp_skip ?_; refine e_then ?_; refine wp_seq ?_; refine wp_block ?_; refine wp_seq ?_; refine d_quiet hmix (by kernel_rfl) ?_; (iterate 2 refine q_g ha rfl (g_move rfl) ?_; clear ha a; intro a ha); obtain ⟨x147, g148, gx149, hF⟩ := idx_some hF
        obtain ⟨p150, cs151, f152, hf153, hpb154, hat155, hr156, hi157⟩ := ha0.at g148 gx149
        obtain ⟨rfl, hI158, rfl⟩ := hr156
        refine q_g ha rfl (hi157.gives sl29 rfl rfl) ?_; clear ha a; intro a ha; refine q_g ha rfl (g_load0 hE71 Tryd.isAgg2 rfl hat155.one) ?_; clear ha a; intro a ha; refine q_g ha rfl (g_move rfl) ?_; clear ha a; intro a ha; obtain ⟨hI159, hF⟩ := ck_some hF; refine q_g ha rfl (g_sub rfl rfl hI159) ?_; clear ha a; intro a ha; obtain ⟨x163, hc164, hF⟩ := cal_some hF; refine q_call (.bool x163) ha rfl rfl Tryd.call60 (fun w162 hx161 => W_spec_l1In hI158 (show InI 0 from by decide) hI159 hc164) (fun _ _ _ h => ⟨h.1, h.2⟩) ?_; clear ha a; intro a ha; refine q_g ha rfl (g_not rfl) ?_; clear ha a; intro a ha
        refine q_g ha rfl (g_move rfl) ?_; clear ha a; intro a ha
        by_cases hp165 : ¬ (x163 = true)
        · replace hF := if_t hp165 hF
          rw [show (!x163) = true from (n_iff (Iff.rfl)).2 hp165] at ha
          (iterate 3 refine q_unwant ha rfl (yields ha rfl rfl) rfl ?_; clear ha a; intro a ha); (iterate 10 refine q_unwant0 ha rfl (yields0 ha rfl rfl) ?_; clear ha a; intro a ha); refine q_unwant ha rfl (yields ha rfl rfl) rfl ?_; clear ha a; intro a ha; refine q_g ha rfl (g_pick rfl rfl) ?_; clear ha a; intro a ha
          refine q_nil ?_; intro w166 hx167
          have hE168 := Ext.trans hE71 hx167
          replace ha := ha.sub (σ' := [(0, va0), (1, (.int .i64 a1)), (5, (.int .i64 i69)), (39, (.bool true))]) ⟨rfl, rfl, rfl, rfl, trivial⟩; refine e_then ?_; refine c_true ha rfl ?_; refine wp_seq ?_; refine wp_region_lit ?_; refine op_g ha rfl (g_assign rfl) ?_; clear ha a; intro a ha; refine wpList_nil ?_; replace ha := ha.sub (σ' := [(4, (.bool false))]) ⟨rfl, trivial⟩; refine e_then ?_; refine wp_ret ?_; refine e_blk_ret ?_; refine e_then_ret ?_; refine e_lq_ret ?_; refine e_then_ret ?_; obtain rfl := Option.some.inj hF
          have e169 := LK_inr hN143; subst e169
          have e170 := BK_inr hK139; subst e170
          exact f_ret1 ha rfl rfl ⟨rfl, hE168⟩
        replace hF := if_f hp165 hF
        rw [show (!x163) = false from b_false (n_iff (Iff.rfl)) hp165] at ha
        refine q_want (yields ha rfl rfl) ?_; refine q_g ha rfl (g_move rfl) ?_; clear ha a; intro a ha; refine q_want (yields ha rfl rfl) ?_; refine q_g ha rfl (g_gtr rfl rfl) ?_; clear ha a; intro a ha; refine q_want (yields ha rfl rfl) ?_; refine q_g ha rfl (g_move rfl) ?_; clear ha a; intro a ha
        by_cases hp171 : 0 < i69
        · replace hF := if_t hp171 hF
          rw [show (decide (0 < i69)) = true from (decide_eq_true_iff).2 hp171] at ha
          refine q_want (yields ha rfl rfl) ?_; refine q_g ha rfl (g_move rfl) ?_; clear ha a; intro a ha; refine q_want (yields ha rfl rfl) ?_; refine q_g ha rfl (g_move rfl) ?_; clear ha a; intro a ha; refine q_want (yields ha rfl rfl) ?_; obtain ⟨x172, g173, gx174, hF⟩ := idx_some hF
          obtain ⟨p175, cs176, f177, hf178, hpb179, hat180, hr181, hi182⟩ := ha0.at g173 gx174
          obtain ⟨rfl, hI183, rfl⟩ := hr181
          refine q_g ha rfl (hi182.gives sl29 rfl rfl) ?_; clear ha a; intro a ha; refine q_want (yields ha rfl rfl) ?_; refine q_g ha rfl (g_load0 hE71 Tryd.isAgg2 rfl hat180.one) ?_; clear ha a; intro a ha; refine q_want (yields ha rfl rfl) ?_; refine q_g ha rfl (g_move rfl) ?_; clear ha a; intro a ha; refine q_want (yields ha rfl rfl) ?_; refine q_g ha rfl (g_move rfl) ?_; clear ha a; intro a ha; refine q_want (yields ha rfl rfl) ?_; obtain ⟨hI184, hF⟩ := ck_some hF; refine q_g ha rfl (g_sub rfl rfl hI184) ?_; clear ha a; intro a ha; refine q_want (yields ha rfl rfl) ?_; obtain ⟨x186, g187, gx188, hF⟩ := idx_some hF
          obtain ⟨p189, cs190, f191, hf192, hpb193, hat194, hr195, hi196⟩ := ha0.at g187 gx188
          obtain ⟨rfl, hI197, rfl⟩ := hr195
          refine q_g ha rfl (hi196.gives sl29 rfl rfl) ?_; clear ha a; intro a ha; refine q_want (yields ha rfl rfl) ?_; refine q_g ha rfl (g_load0 hE71 Tryd.isAgg2 rfl hat194.one) ?_; clear ha a; intro a ha; refine q_want (yields ha rfl rfl) ?_; refine q_g ha rfl (g_leq rfl rfl) ?_; clear ha a; intro a ha; refine q_want (yields ha rfl rfl) ?_; (iterate 2 refine q_g ha rfl (g_pick rfl rfl) ?_; clear ha a; intro a ha)
          refine q_nil ?_; intro w198 hx199
          have hE200 := Ext.trans hE71 hx199
          replace ha := ha.sub (σ' := [(0, va0), (1, (.int .i64 a1)), (5, (.int .i64 i69)), (25, (.int .i64 i69)), (26, (.bool true)), (27, (.bool true)), (28, va0), (29, (.int .i64 i69)), (30, (.pointer (some p175))), (31, (.int .i64 x172)), (32, va0), (33, (.int .i64 i69)), (34, (.int .i64 (i69 - 1))), (35, (.pointer (some p189))), (36, (.int .i64 x186)), (37, (.bool (decide (x172 ≤ x186)))), (38, (.bool (decide (x172 ≤ x186)))), (39, (.bool (decide (x172 ≤ x186))))]) ⟨rfl, rfl, rfl, rfl, rfl, rfl, rfl, rfl, rfl, rfl, rfl, rfl, rfl, rfl, rfl, rfl, rfl, rfl, trivial⟩; refine e_then ?_; refine c_cond (x172 ≤ x186) ha rfl (decide_eq_true_iff) (fun hp201 => ?_) (fun hp201 => ?_)
          · replace hF := if_t hp201 hF
            refine wp_seq ?_; refine wp_region_lit ?_; refine op_g ha rfl (g_assign rfl) ?_; clear ha a; intro a ha; refine wpList_nil ?_; replace ha := ha.sub (σ' := [(4, (.bool false))]) ⟨rfl, trivial⟩; refine e_then ?_; refine wp_ret ?_; refine e_blk_ret ?_; refine e_then_ret ?_; refine e_lq_ret ?_; refine e_then_ret ?_; obtain rfl := Option.some.inj hF
            have e202 := LK_inr hN143; subst e202
            have e203 := BK_inr hK139; subst e203
            exact f_ret1 ha rfl rfl ⟨rfl, hE200⟩
          replace hF := if_f hp201 hF; refine wp_skip ?_; refine e_blk ?_; refine e_then ?_; refine wp_region_lit ?_; refine op_g ha rfl (g_move rfl) ?_; clear ha a; intro a ha; obtain ⟨hI204, hF⟩ := ck_some hF; refine op_g ha rfl (g_add rfl rfl hI204) ?_; clear ha a; intro a ha; refine op_g ha rfl (g_assign rfl) ?_; clear ha a; intro a ha; refine wpList_nil ?_; replace ha := ha.sub (σ' := [(0, va0), (1, (.int .i64 a1)), (5, (.int .i64 (i69 + 1))), (25, (.int .i64 i69)), (26, (.bool true)), (27, (.bool true)), (28, va0), (29, (.int .i64 i69)), (30, (.pointer (some p175))), (31, (.int .i64 x172)), (32, va0), (33, (.int .i64 i69)), (34, (.int .i64 (i69 - 1))), (35, (.pointer (some p189))), (36, (.int .i64 x186)), (37, (.bool (decide (x172 ≤ x186)))), (38, (.bool (decide (x172 ≤ x186))))]) ⟨rfl, rfl, rfl, rfl, rfl, rfl, rfl, rfl, rfl, rfl, rfl, rfl, rfl, rfl, rfl, rfl, rfl, trivial⟩
          refine e_lq ?_; obtain rfl := Option.some.inj hF
          exact ⟨_, Nat.lt_succ_self _, i69 + 1, ha.sub ⟨rfl, rfl, rfl, trivial⟩, hE200, hI204, hN143⟩
        replace hF := if_f hp171 hF
        rw [show (decide (0 < i69)) = false from b_false (decide_eq_true_iff) hp171] at ha
        (iterate 10 refine q_unwant ha rfl (yields ha rfl rfl) rfl ?_; clear ha a; intro a ha); refine q_want (yields ha rfl rfl) ?_; (iterate 2 refine q_g ha rfl (g_pick rfl rfl) ?_; clear ha a; intro a ha)
        refine q_nil ?_; intro w206 hx207
        have hE208 := Ext.trans hE71 hx207
        replace ha := ha.sub (σ' := [(0, va0), (1, (.int .i64 a1)), (5, (.int .i64 i69)), (25, (.int .i64 i69)), (26, (.bool false)), (27, (.bool false)), (38, (.bool false)), (39, (.bool false))]) ⟨rfl, rfl, rfl, rfl, rfl, rfl, rfl, rfl, trivial⟩; refine e_then ?_; refine c_false ha rfl ?_; refine wp_skip ?_; refine e_blk ?_; refine e_then ?_; refine wp_region_lit ?_; refine op_g ha rfl (g_move rfl) ?_; clear ha a; intro a ha; obtain ⟨hI209, hF⟩ := ck_some hF; refine op_g ha rfl (g_add rfl rfl hI209) ?_; clear ha a; intro a ha; refine op_g ha rfl (g_assign rfl) ?_; clear ha a; intro a ha; refine wpList_nil ?_
        replace ha := ha.sub (σ' := [(0, va0), (1, (.int .i64 a1)), (5, (.int .i64 (i69 + 1))), (25, (.int .i64 i69)), (26, (.bool false)), (27, (.bool false)), (38, (.bool false))]) ⟨rfl, rfl, rfl, rfl, rfl, rfl, rfl, trivial⟩; refine e_lq ?_; obtain rfl := Option.some.inj hF
        exact ⟨_, Nat.lt_succ_self _, i69 + 1, ha.sub ⟨rfl, rfl, rfl, trivial⟩, hE208, hI209, hN143⟩
      replace hF := if_f hp146 hF; refine wp_exit ?_; refine e_then_exit ?_; refine e_lq_eq ?_; obtain rfl := Option.some.inj hF
      exact ⟨ha.sub trivial, hE71, (LK_inr hN143).symm⟩
  rintro a w136 ⟨ha, hE142, rfl⟩
  have hF : F_spec_l1Set_k2 = some _ := hK139; clear hK139; unfold F_spec_l1Set_k2 at hF
  refine e_then ?_; refine wp_seq ?_; refine wp_region_lit ?_; refine op_g ha rfl (g_assign rfl) ?_; clear ha a; intro a ha; refine wpList_nil ?_; refine e_then ?_; refine wp_ret ?_; obtain rfl := Option.some.inj hF
  exact f_ret1 ha rfl rfl ⟨rfl, hE142⟩
set_option maxHeartbeats 2000000 in
theorem W_spec_l1Has {W : World} {va0 : Value} {fa0 : List Nat} {a0 : (List Int)} (ha0 : Ro Rp.int W fa0 va0 a0) {a1 : Int} (ha1 : InI a1) {r : Bool} (hF : F_spec_l1Has a0 a1 = some r) :
    Calls Tryd.prog 61 [va0, .int .i64 a1].toArray W (Ret fun u w' => u = .bool r ∧ Ext W w') := by
  refine f_enter Tryd.func61 rfl Tryd.ntmps61 rfl ?_
  intro a ha
  replace ha : Fr 18 [(0, va0), (1, (.int .i64 a1))] a := ha
  have hE : Chg [] W W := Chg.refl _ _
  unfold F_spec_l1Has at hF
  refine wp_seq ?_; refine wp_region_lit ?_; refine op_g ha rfl (g_assign rfl) ?_; clear ha a; intro a ha; refine wpList_nil ?_; replace ha := ha.sub (σ' := [(0, va0), (1, (.int .i64 a1))]) ⟨rfl, rfl, trivial⟩; refine e_then ?_; refine wp_seq ?_; refine wp_seq ?_; refine wp_region_lit ?_; refine op_g ha rfl (g_assign rfl) ?_; clear ha a; intro a ha; refine wpList_nil ?_; refine e_then ?_; obtain ⟨o46, ho47, hK48⟩ := bnd_some hF
  obtain ⟨n49, hn50⟩ := lp_some ho47; clear ho47
  refine c_loop (fun a w => Fr 18 [] a ∧ Chg [] W w ∧ o46 = .inl ()) (fun n a w => ∃ (i23 : Int), Fr 18 [(0, va0), (1, (.int .i64 a1)), (5, (.int .i64 i23))] a ∧ Chg [] W w ∧ InI i23 ∧ lpN (fun s => F_spec_l1Has_l1 a0 a1 s) n i23 = some o46) n49 ⟨0, ha.sub ⟨rfl, rfl, rfl, trivial⟩, hE, (show InI 0 from by decide), hn50⟩ ?_ ?_
  · rintro m54 a w22 ⟨i23, ha, hE25, hI24, hF⟩
    cases m54 with
    | zero => exact (lpN_zero hF).elim
    | succ m54 =>
      obtain ⟨z53, hF, hN52⟩ := lpN_succ hF
      have hF : F_spec_l1Has_l1 a0 a1 i23 = some z53 := hF; unfold F_spec_l1Has_l1 at hF
      refine wp_seq ?_; refine wp_seq ?_; refine wp_region_lit ?_; (iterate 2 refine op_g ha rfl (g_move rfl) ?_; clear ha a; intro a ha); refine op_g ha rfl (g_lenR sl29.und ha0 rfl) ?_; clear ha a; intro a ha; refine op_g ha rfl (g_lss rfl rfl) ?_; clear ha a; intro a ha; refine wpList_nil ?_; replace ha := ha.sub (σ' := [(0, va0), (1, (.int .i64 a1)), (5, (.int .i64 i23)), (9, (.bool (decide (i23 < (a0.length : Int)))))]) ⟨rfl, rfl, rfl, rfl, trivial⟩; refine e_then ?_; refine c_cond (i23 < (a0.length : Int)) ha rfl (decide_eq_true_iff) (fun hp55 => ?_) (fun hp55 => ?_)
      · replace hF := if_t hp55 hF
        refine wp_skip ?_; refine e_then ?_; refine wp_seq ?_; refine wp_block ?_; refine wp_seq ?_; refine wp_region_lit ?_; (iterate 2 refine op_g ha rfl (g_move rfl) ?_; clear ha a; intro a ha); obtain ⟨x56, g57, gx58, hF⟩ := idx_some hF
        obtain ⟨p59, cs60, f61, hf62, hpb63, hat64, hr65, hi66⟩ := ha0.at g57 gx58
        obtain ⟨rfl, hI67, rfl⟩ := hr65
        refine op_g ha rfl (hi66.gives sl29 rfl rfl) ?_; clear ha a; intro a ha; refine op_g ha rfl (g_load0 hE25 Tryd.isAgg2 rfl hat64.one) ?_; clear ha a; intro a ha; refine op_g ha rfl (g_move rfl) ?_; clear ha a; intro a ha; refine op_g ha rfl (g_eql rfl rfl) ?_; clear ha a; intro a ha; refine wpList_nil ?_; replace ha := ha.sub (σ' := [(0, va0), (1, (.int .i64 a1)), (5, (.int .i64 i23)), (17, (.bool (decide (x56 = a1))))]) ⟨rfl, rfl, rfl, rfl, trivial⟩; refine e_then ?_; refine c_cond (x56 = a1) ha rfl (decide_eq_true_iff) (fun hp68 => ?_) (fun hp68 => ?_)
        · replace hF := if_t hp68 hF
          refine wp_seq ?_; refine wp_region_lit ?_; refine op_g ha rfl (g_assign rfl) ?_; clear ha a; intro a ha; refine wpList_nil ?_; replace ha := ha.sub (σ' := [(4, (.bool true))]) ⟨rfl, trivial⟩; refine e_then ?_; refine wp_ret ?_; refine e_blk_ret ?_; refine e_then_ret ?_; refine e_lq_ret ?_; refine e_then_ret ?_; obtain rfl := Option.some.inj hF
          have e69 := LK_inr hN52; subst e69
          have e70 := BK_inr hK48; subst e70
          exact f_ret1 ha rfl rfl ⟨rfl, hE25⟩
        replace hF := if_f hp68 hF; refine wp_skip ?_; refine e_blk ?_; refine e_then ?_; refine wp_region_lit ?_; refine op_g ha rfl (g_move rfl) ?_; clear ha a; intro a ha; obtain ⟨hI71, hF⟩ := ck_some hF; refine op_g ha rfl (g_add rfl rfl hI71) ?_; clear ha a; intro a ha; refine op_g ha rfl (g_assign rfl) ?_; clear ha a; intro a ha; refine wpList_nil ?_; replace ha := ha.sub (σ' := [(0, va0), (1, (.int .i64 a1)), (5, (.int .i64 (i23 + 1)))]) ⟨rfl, rfl, rfl, trivial⟩; refine e_lq ?_; obtain rfl := Option.some.inj hF
        exact ⟨_, Nat.lt_succ_self _, i23 + 1, ha.sub ⟨rfl, rfl, rfl, trivial⟩, hE25, hI71, hN52⟩
      replace hF := if_f hp55 hF; refine wp_exit ?_; refine e_then_exit ?_; refine e_lq_eq ?_; obtain rfl := Option.some.inj hF
      exact ⟨ha.sub trivial, hE25, (LK_inr hN52).symm⟩
  rintro a w45 ⟨ha, hE51, rfl⟩
  have hF : F_spec_l1Has_k2 = some _ := hK48; clear hK48; unfold F_spec_l1Has_k2 at hF
  refine e_then ?_; refine wp_seq ?_; refine wp_region_lit ?_; refine op_g ha rfl (g_assign rfl) ?_; clear ha a; intro a ha; refine wpList_nil ?_; refine e_then ?_; refine wp_ret ?_; obtain rfl := Option.some.inj hF
  exact f_ret1 ha rfl rfl ⟨rfl, hE51⟩
set_option maxHeartbeats 2000000 in
theorem W_spec_GraphOk {W : World} {va0_0 : Value} {fa0_0 : List Nat} {a0_0 : (List (List Int))} (ha0_0 : Ro (Rp.sl 2 Rp.int) W fa0_0 va0_0 a0_0) {r : Bool} (hF : F_spec_GraphOk a0_0 = some r) :
    Calls Tryd.prog 39 [.agg #[va0_0]].toArray W (Ret fun u w' => u = .bool r ∧ Ext W w') := by
  refine f_enter Tryd.func39 rfl Tryd.ntmps39 rfl ?_
  intro a ha
  replace ha : Fr 64 [(0, (.agg #[va0_0]))] a := ha
  have hE : Chg [] W W := Chg.refl _ _
  unfold F_spec_GraphOk at hF
  refine wp_seq ?_; refine wp_region_lit ?_
  refine o_box ha rfl rfl rfl ?_; clear ha a; intro b1 w2 hB3 hx4 hlo5 a ha
  have q6 := Zn.one hlo5
  have q7 := Zn.upD q6 hE
  have hE8 := Ext.trans hE hx4
  refine op_g ha rfl (g_assign rfl) ?_; clear ha a; intro a ha; refine wpList_nil ?_; replace ha := ha.sub (σ' := [(1, (.pointer (some ⟨b1, 0, none⟩)))]) ⟨rfl, trivial⟩; refine e_then ?_; refine wp_seq ?_; refine wp_region_lit ?_; refine op_g ha rfl (g_loadA (cs := [va0_0]) Tryd.isAgg31 Tryd.sizeOf31 rfl (by simp) hB3.all) ?_; clear ha a; intro a ha; obtain ⟨x9, hc10, hF⟩ := cal_some hF
  refine o_call ha rfl rfl Tryd.call20 (W_spec_l1Size (ha0_0.ext hE8) hc10) ?_; clear ha a; rintro v11 w12 ⟨⟨rfl, hI14⟩, hx13⟩ a ha
  replace hB3 := hB3.ext hx13
  have hE15 := Ext.trans hE8 hx13
  refine op_g ha rfl (g_assign rfl) ?_; clear ha a; intro a ha; refine wpList_nil ?_; replace ha := ha.sub (σ' := [(1, (.pointer (some ⟨b1, 0, none⟩))), (3, (.int .i64 x9))]) ⟨rfl, rfl, trivial⟩; refine e_then ?_; refine wp_seq ?_; refine wp_seq ?_; refine wp_region_lit ?_; refine op_g ha rfl (g_move rfl) ?_; clear ha a; intro a ha; obtain ⟨x16, hc17, hF⟩ := cal_some hF
  refine o_call ha rfl rfl Tryd.call60 (W_spec_l1In hI14 (show InI 1 from by decide) (show InI 16 from by decide) hc17) ?_; clear ha a; rintro v18 w19 ⟨rfl, hx20⟩ a ha
  replace hB3 := hB3.ext hx20
  have hE21 := Ext.trans hE15 hx20
  refine op_g ha rfl (g_not rfl) ?_; clear ha a; intro a ha; refine wpList_nil ?_; replace ha := ha.sub (σ' := [(1, (.pointer (some ⟨b1, 0, none⟩))), (3, (.int .i64 x9)), (11, (.bool (!x16)))]) ⟨rfl, rfl, rfl, trivial⟩; refine e_then ?_; refine c_cond (¬ (x16 = true)) ha rfl (n_iff (Iff.rfl)) (fun hp22 => ?_) (fun hp22 => ?_)
  · replace hF := if_t hp22 hF
    refine wp_seq ?_; refine wp_region_lit ?_; refine op_g ha rfl (g_assign rfl) ?_; clear ha a; intro a ha; refine wpList_nil ?_; replace ha := ha.sub (σ' := [(2, (.bool false))]) ⟨rfl, trivial⟩; refine e_then ?_; refine wp_ret ?_; refine e_then_ret ?_; obtain rfl := Option.some.inj hF
    exact f_ret1 ha rfl rfl ⟨rfl, hE21⟩
  replace hF := if_f hp22 hF; refine wp_skip ?_; refine e_then ?_; refine wp_seq ?_; refine wp_seq ?_; refine wp_region_lit ?_; refine op_g ha rfl (g_assign rfl) ?_; clear ha a; intro a ha; refine wpList_nil ?_; replace ha := ha.sub (σ' := [(1, (.pointer (some ⟨b1, 0, none⟩))), (3, (.int .i64 x9)), (4, (.int .i64 0))]) ⟨rfl, rfl, rfl, trivial⟩; refine e_then ?_; obtain ⟨o136, ho137, hK138⟩ := bnd_some hF
  obtain ⟨n139, hn140⟩ := lp_some ho137; clear ho137
  refine c_loop (fun a w => Fr 64 [(1, (.pointer (some ⟨b1, 0, none⟩))), (3, (.int .i64 x9))] a ∧ Chg [] W w ∧ Bx w b1 [va0_0] 31 ∧ Zn W (b1 : Int) ∧ o136 = .inl ()) (fun n a w => ∃ (i80 : Int), Fr 64 [(1, (.pointer (some ⟨b1, 0, none⟩))), (3, (.int .i64 x9)), (4, (.int .i64 i80))] a ∧ Chg [] W w ∧ InI i80 ∧ Bx w b1 [va0_0] 31 ∧ Zn W (b1 : Int) ∧ lpN (fun s => F_spec_GraphOk_l1 a0_0 x9 s) n i80 = some o136) n139 ⟨0, ha.sub ⟨rfl, rfl, rfl, trivial⟩, hE21, (show InI 0 from by decide), hB3, q7, hn140⟩ ?_ ?_
  · rintro m144 a w77 ⟨i80, ha, hE82, hI81, hB78, z79, hF⟩
    cases m144 with
    | zero => exact (lpN_zero hF).elim
    | succ m144 =>
      obtain ⟨z143, hF, hN142⟩ := lpN_succ hF
      have hF : F_spec_GraphOk_l1 a0_0 x9 i80 = some z143 := hF; unfold F_spec_GraphOk_l1 at hF
      refine wp_seq ?_; refine wp_seq ?_; refine wp_region_lit ?_; (iterate 2 refine op_g ha rfl (g_move rfl) ?_; clear ha a; intro a ha); refine op_g ha rfl (g_lss rfl rfl) ?_; clear ha a; intro a ha; refine wpList_nil ?_; replace ha := ha.sub (σ' := [(1, (.pointer (some ⟨b1, 0, none⟩))), (3, (.int .i64 x9)), (4, (.int .i64 i80)), (14, (.bool (decide (i80 < x9))))]) ⟨rfl, rfl, rfl, rfl, trivial⟩; refine e_then ?_; refine c_cond (i80 < x9) ha rfl (decide_eq_true_iff) (fun hp145 => ?_) (fun hp145 => ?_)
      · replace hF := if_t hp145 hF
        refine wp_skip ?_; refine e_then ?_; refine wp_seq ?_; refine wp_block ?_; refine wp_seq ?_; refine wp_region_lit ?_; refine op_g ha rfl (g_field0 st31_0 rfl) ?_; clear ha a; intro a ha; refine op_g ha rfl (g_load Tryd.isAgg22 rfl (hB78.cell rfl)) ?_; clear ha a; intro a ha; refine op_g ha rfl (g_move rfl) ?_; clear ha a; intro a ha; obtain ⟨x146, g147, gx148, hF⟩ := idx_some hF
        obtain ⟨p149, cs150, f151, hf152, hpb153, hat154, hr155, hi156⟩ := ha0_0.at g147 gx148
        obtain ⟨v157, rfl, h158⟩ := hr155
        have h158 : Ro Rp.int W f151 v157 x146 := h158
        refine op_g ha rfl (hi156.gives sl22 rfl rfl) ?_; clear ha a; intro a ha; refine op_g ha rfl (g_load0 hE82 Tryd.isAgg29 rfl hat154.one) ?_; clear ha a; intro a ha; refine op_g ha rfl (g_move rfl) ?_; clear ha a; intro a ha; obtain ⟨x160, hc161, hF⟩ := cal_some hF
        refine o_call ha rfl rfl Tryd.call41 (W_spec_l1Set (h158.ext hE82) hI14 hc161) ?_; clear ha a; rintro v162 w163 ⟨rfl, hx164⟩ a ha
        replace hB78 := hB78.ext hx164
        have hE165 := Ext.trans hE82 hx164
        refine op_g ha rfl (g_not rfl) ?_; clear ha a; intro a ha; refine op_g ha rfl (g_move rfl) ?_; clear ha a; intro a ha
        by_cases hp166 : ¬ (x160 = true)
        · replace hF := if_t hp166 hF
          rw [show (!x160) = true from (n_iff (Iff.rfl)).2 hp166] at ha
          (iterate 7 refine op_unwant ha rfl (yields ha rfl rfl) rfl ?_; clear ha a; intro a ha); refine op_g ha rfl (g_pick rfl rfl) ?_; clear ha a; intro a ha; refine wpList_nil ?_; replace ha := ha.sub (σ' := [(1, (.pointer (some ⟨b1, 0, none⟩))), (3, (.int .i64 x9)), (4, (.int .i64 i80)), (33, (.bool true))]) ⟨rfl, rfl, rfl, rfl, trivial⟩; refine e_then ?_; refine c_true ha rfl ?_; refine wp_seq ?_; refine wp_region_lit ?_; refine op_g ha rfl (g_assign rfl) ?_; clear ha a; intro a ha; refine wpList_nil ?_; replace ha := ha.sub (σ' := [(2, (.bool false))]) ⟨rfl, trivial⟩; refine e_then ?_; refine wp_ret ?_
          refine e_blk_ret ?_; refine e_then_ret ?_; refine e_lq_ret ?_; refine e_then_ret ?_; obtain rfl := Option.some.inj hF
          have e167 := LK_inr hN142; subst e167
          have e168 := BK_inr hK138; subst e168
          exact f_ret1 ha rfl rfl ⟨rfl, hE165⟩
        replace hF := if_f hp166 hF
        rw [show (!x160) = false from b_false (n_iff (Iff.rfl)) hp166] at ha
        refine op_want (yields ha rfl rfl) ?_; refine op_g ha rfl (g_field0 st31_0 rfl) ?_; clear ha a; intro a ha; refine op_want (yields ha rfl rfl) ?_; refine op_g ha rfl (g_load Tryd.isAgg22 rfl (hB78.cell rfl)) ?_; clear ha a; intro a ha; refine op_want (yields ha rfl rfl) ?_; refine op_g ha rfl (g_move rfl) ?_; clear ha a; intro a ha; refine op_want (yields ha rfl rfl) ?_; obtain ⟨x169, g170, gx171, hF⟩ := idx_some hF
        obtain ⟨p172, cs173, f174, hf175, hpb176, hat177, hr178, hi179⟩ := ha0_0.at g170 gx171
        obtain ⟨v180, rfl, h181⟩ := hr178
        have h181 : Ro Rp.int W f174 v180 x169 := h181
        refine op_g ha rfl (hi179.gives sl22 rfl rfl) ?_; clear ha a; intro a ha; refine op_want (yields ha rfl rfl) ?_; refine op_g ha rfl (g_load0 hE165 Tryd.isAgg29 rfl hat177.one) ?_; clear ha a; intro a ha; refine op_want (yields ha rfl rfl) ?_; refine op_g ha rfl (g_move rfl) ?_; clear ha a; intro a ha; refine op_want (yields ha rfl rfl) ?_; obtain ⟨x183, hc184, hF⟩ := cal_some hF
        refine o_call ha rfl rfl Tryd.call61 (W_spec_l1Has (h181.ext hE165) hI81 hc184) ?_; clear ha a; rintro v185 w186 ⟨rfl, hx187⟩ a ha
        replace hB78 := hB78.ext hx187
        have hE188 := Ext.trans hE165 hx187
        refine op_g ha rfl (g_pick rfl rfl) ?_; clear ha a; intro a ha; refine wpList_nil ?_; replace ha := ha.sub (σ' := [(1, (.pointer (some ⟨b1, 0, none⟩))), (3, (.int .i64 x9)), (4, (.int .i64 i80)), (26, (.pointer (some ⟨b1, 0, none⟩))), (27, va0_0), (28, (.int .i64 i80)), (29, (.pointer (some p172))), (30, v180), (31, (.int .i64 i80)), (32, (.bool x183)), (33, (.bool x183))]) ⟨rfl, rfl, rfl, rfl, rfl, rfl, rfl, rfl, rfl, rfl, rfl, trivial⟩; refine e_then ?_; refine c_cond (x183 = true) ha rfl (Iff.rfl) (fun hp189 => ?_) (fun hp189 => ?_)
        · replace hF := if_t hp189 hF
          refine wp_seq ?_; refine wp_region_lit ?_; refine op_g ha rfl (g_assign rfl) ?_; clear ha a; intro a ha; refine wpList_nil ?_; replace ha := ha.sub (σ' := [(2, (.bool false))]) ⟨rfl, trivial⟩; refine e_then ?_; refine wp_ret ?_; refine e_blk_ret ?_; refine e_then_ret ?_; refine e_lq_ret ?_; refine e_then_ret ?_; obtain rfl := Option.some.inj hF
          have e190 := LK_inr hN142; subst e190
          have e191 := BK_inr hK138; subst e191
          exact f_ret1 ha rfl rfl ⟨rfl, hE188⟩
        replace hF := if_f hp189 hF; refine wp_skip ?_; refine e_blk ?_; refine e_then ?_; refine wp_region_lit ?_; refine op_g ha rfl (g_move rfl) ?_; clear ha a; intro a ha; obtain ⟨hI192, hF⟩ := ck_some hF; refine op_g ha rfl (g_add rfl rfl hI192) ?_; clear ha a; intro a ha; refine op_g ha rfl (g_assign rfl) ?_; clear ha a; intro a ha; refine wpList_nil ?_; replace ha := ha.sub (σ' := [(1, (.pointer (some ⟨b1, 0, none⟩))), (3, (.int .i64 x9)), (4, (.int .i64 (i80 + 1))), (26, (.pointer (some ⟨b1, 0, none⟩))), (27, va0_0), (28, (.int .i64 i80)), (29, (.pointer (some p172))), (30, v180), (31, (.int .i64 i80)), (32, (.bool x183))]) ⟨rfl, rfl, rfl, rfl, rfl, rfl, rfl, rfl, rfl, rfl, trivial⟩
        refine e_lq ?_; obtain rfl := Option.some.inj hF
        exact ⟨_, Nat.lt_succ_self _, i80 + 1, ha.sub ⟨rfl, rfl, rfl, trivial⟩, hE188, hI192, hB78, z79, hN142⟩
      replace hF := if_f hp145 hF; refine wp_exit ?_; refine e_then_exit ?_; refine e_lq_eq ?_; obtain rfl := Option.some.inj hF
      exact ⟨ha.sub ⟨rfl, rfl, trivial⟩, hE82, hB78, z79, (LK_inr hN142).symm⟩
  rintro a w133 ⟨ha, hE141, hB134, z135, rfl⟩
  have hF : F_spec_GraphOk_k2 a0_0 x9 = some _ := hK138; clear hK138; unfold F_spec_GraphOk_k2 at hF
  refine e_then ?_; refine wp_seq ?_; refine wp_seq ?_; refine wp_region_lit ?_; refine op_g ha rfl (g_assign rfl) ?_; clear ha a; intro a ha; refine wpList_nil ?_; refine e_then ?_; obtain ⟨o675, ho676, hK677⟩ := bnd_some hF
  obtain ⟨n678, hn679⟩ := lp_some ho676; clear ho676
  refine c_loop (fun a w => Fr 64 [] a ∧ Chg [] W w ∧ o675 = .inl ()) (fun n a w => ∃ (i436 : Int), Fr 64 [(1, (.pointer (some ⟨b1, 0, none⟩))), (3, (.int .i64 x9)), (5, (.int .i64 i436))] a ∧ Chg [] W w ∧ InI i436 ∧ Bx w b1 [va0_0] 31 ∧ Zn W (b1 : Int) ∧ lpN (fun s => F_spec_GraphOk_l3 a0_0 x9 s) n i436 = some o675) n678 ⟨0, ha.sub ⟨rfl, rfl, rfl, trivial⟩, hE141, (show InI 0 from by decide), hB134, z135, hn679⟩ ?_ ?_
  · rintro m683 a w433 ⟨i436, ha, hE438, hI437, hB434, z435, hF⟩
    cases m683 with
    | zero => exact (lpN_zero hF).elim
    | succ m683 =>
      obtain ⟨z682, hF, hN681⟩ := lpN_succ hF
      have hF : F_spec_GraphOk_l3 a0_0 x9 i436 = some z682 := hF; unfold F_spec_GraphOk_l3 at hF
      refine wp_seq ?_; refine wp_seq ?_; refine wp_region_lit ?_; (iterate 2 refine op_g ha rfl (g_move rfl) ?_; clear ha a; intro a ha); refine op_g ha rfl (g_lss rfl rfl) ?_; clear ha a; intro a ha; refine wpList_nil ?_; replace ha := ha.sub (σ' := [(1, (.pointer (some ⟨b1, 0, none⟩))), (3, (.int .i64 x9)), (5, (.int .i64 i436)), (36, (.bool (decide (i436 < x9))))]) ⟨rfl, rfl, rfl, rfl, trivial⟩; refine e_then ?_; refine c_cond (i436 < x9) ha rfl (decide_eq_true_iff) (fun hp684 => ?_) (fun hp684 => ?_)
      · replace hF := if_t hp684 hF
        refine wp_skip ?_; refine e_then ?_; refine wp_seq ?_; refine wp_block ?_; refine wp_seq ?_; refine wp_region_lit ?_; refine op_g ha rfl (g_assign rfl) ?_; clear ha a; intro a ha; refine wpList_nil ?_; replace ha := ha.sub (σ' := [(1, (.pointer (some ⟨b1, 0, none⟩))), (3, (.int .i64 x9)), (5, (.int .i64 i436)), (6, (.int .i64 0))]) ⟨rfl, rfl, rfl, rfl, trivial⟩; refine e_then ?_; obtain ⟨o838, ho839, hK840⟩ := bnd_some hF
        obtain ⟨n841, hn842⟩ := lp_some ho839; clear ho839
        refine c_loop (fun a w => Fr 64 [(1, (.pointer (some ⟨b1, 0, none⟩))), (3, (.int .i64 x9)), (5, (.int .i64 i436))] a ∧ Chg [] W w ∧ Bx w b1 [va0_0] 31 ∧ Zn W (b1 : Int) ∧ o838 = .inl ()) (fun n a w => ∃ (i762 : Int), Fr 64 [(1, (.pointer (some ⟨b1, 0, none⟩))), (3, (.int .i64 x9)), (5, (.int .i64 i436)), (6, (.int .i64 i762))] a ∧ Chg [] W w ∧ InI i762 ∧ Bx w b1 [va0_0] 31 ∧ Zn W (b1 : Int) ∧ lpN (fun s => F_spec_GraphOk_l4 a0_0 i436 s) n i762 = some o838) n841 ⟨0, ha.sub ⟨rfl, rfl, rfl, rfl, trivial⟩, hE438, (show InI 0 from by decide), hB434, z435, hn842⟩ ?_ ?_
        · rintro m846 a w759 ⟨i762, ha, hE764, hI763, hB760, z761, hF⟩
          cases m846 with
          | zero => exact (lpN_zero hF).elim
          | succ m846 =>
            obtain ⟨z845, hF, hN844⟩ := lpN_succ hF
            have hF : F_spec_GraphOk_l4 a0_0 i436 i762 = some z845 := hF; unfold F_spec_GraphOk_l4 at hF
            refine wp_seq ?_; refine wp_seq ?_; refine wp_region_lit ?_; refine op_g ha rfl (g_move rfl) ?_; clear ha a; intro a ha; refine op_g ha rfl (g_field0 st31_0 rfl) ?_; clear ha a; intro a ha; refine op_g ha rfl (g_load Tryd.isAgg22 rfl (hB760.cell rfl)) ?_; clear ha a; intro a ha; refine op_g ha rfl (g_move rfl) ?_; clear ha a; intro a ha; obtain ⟨x847, g848, gx849, hF⟩ := idx_some hF
            obtain ⟨p850, cs851, f852, hf853, hpb854, hat855, hr856, hi857⟩ := ha0_0.at g848 gx849
            obtain ⟨v858, rfl, h859⟩ := hr856
            have h859 : Ro Rp.int W f852 v858 x847 := h859
            refine op_g ha rfl (hi857.gives sl22 rfl rfl) ?_; clear ha a; intro a ha; refine op_g ha rfl (g_load0 hE764 Tryd.isAgg29 rfl hat855.one) ?_; clear ha a; intro a ha; refine op_g ha rfl (g_lenR sl29.und h859 rfl) ?_; clear ha a; intro a ha; refine op_g ha rfl (g_lss rfl rfl) ?_; clear ha a; intro a ha; refine wpList_nil ?_; replace ha := ha.sub (σ' := [(1, (.pointer (some ⟨b1, 0, none⟩))), (3, (.int .i64 x9)), (5, (.int .i64 i436)), (6, (.int .i64 i762)), (46, (.bool (decide (i762 < (x847.length : Int)))))]) ⟨rfl, rfl, rfl, rfl, rfl, trivial⟩; refine e_then ?_; refine c_cond (i762 < (x847.length : Int)) ha rfl (decide_eq_true_iff) (fun hp861 => ?_) (fun hp861 => ?_)
            · replace hF := if_t hp861 hF
              refine wp_skip ?_; refine e_then ?_; refine wp_seq ?_; refine wp_block ?_; refine wp_seq ?_; refine d_quiet hmix (by kernel_rfl) ?_; refine q_g ha rfl (g_field0 st31_0 rfl) ?_; clear ha a; intro a ha; refine q_g ha rfl (g_load Tryd.isAgg22 rfl (hB760.cell rfl)) ?_; clear ha a; intro a ha; refine q_g ha rfl (g_field0 st31_0 rfl) ?_; clear ha a; intro a ha; refine q_g ha rfl (g_load Tryd.isAgg22 rfl (hB760.cell rfl)) ?_; clear ha a; intro a ha; refine q_g ha rfl (g_move rfl) ?_; clear ha a; intro a ha; obtain ⟨x862, g863, gx864, hF⟩ := idx_some hF
              obtain ⟨p865, cs866, f867, hf868, hpb869, hat870, hr871, hi872⟩ := ha0_0.at g863 gx864
              obtain ⟨v873, rfl, h874⟩ := hr871
              have h874 : Ro Rp.int W f867 v873 x862 := h874
              refine q_g ha rfl (hi872.gives sl22 rfl rfl) ?_; clear ha a; intro a ha; refine q_g ha rfl (g_load0 hE764 Tryd.isAgg29 rfl hat870.one) ?_; clear ha a; intro a ha; refine q_g ha rfl (g_move rfl) ?_; clear ha a; intro a ha; obtain ⟨x876, g877, gx878, hF⟩ := idx_some hF
              obtain ⟨p879, cs880, f881, hf882, hpb883, hat884, hr885, hi886⟩ := h874.at g877 gx878
              obtain ⟨rfl, hI887, rfl⟩ := hr885
              refine q_g ha rfl (hi886.gives sl29 rfl rfl) ?_; clear ha a; intro a ha; refine q_g ha rfl (g_load0 hE764 Tryd.isAgg2 rfl hat884.one) ?_; clear ha a; intro a ha; obtain ⟨x888, g889, gx890, hF⟩ := idx_some hF
              obtain ⟨p891, cs892, f893, hf894, hpb895, hat896, hr897, hi898⟩ := ha0_0.at g889 gx890
              obtain ⟨v899, rfl, h900⟩ := hr897
              have h900 : Ro Rp.int W f893 v899 x888 := h900
              refine q_g ha rfl (hi898.gives sl22 rfl rfl) ?_; clear ha a; intro a ha; refine q_g ha rfl (g_load0 hE764 Tryd.isAgg29 rfl hat896.one) ?_; clear ha a; intro a ha; refine q_g ha rfl (g_move rfl) ?_; clear ha a; intro a ha; obtain ⟨x904, hc905, hF⟩ := cal_some hF; refine q_call (.bool x904) ha rfl rfl Tryd.call61 (fun w903 hx902 => W_spec_l1Has (h900.ext (Ext.trans hE764 hx902)) hI437 hc905) (fun _ _ _ h => ⟨h.1, h.2⟩) ?_; clear ha a; intro a ha; refine q_g ha rfl (g_not rfl) ?_; clear ha a; intro a ha
              refine q_nil ?_; intro w906 hx907
              replace hB760 := hB760.ext hx907
              have hE908 := Ext.trans hE764 hx907
              replace ha := ha.sub (σ' := [(1, (.pointer (some ⟨b1, 0, none⟩))), (3, (.int .i64 x9)), (5, (.int .i64 i436)), (6, (.int .i64 i762)), (63, (.bool (!x904)))]) ⟨rfl, rfl, rfl, rfl, rfl, trivial⟩; refine e_then ?_; refine c_cond (¬ (x904 = true)) ha rfl (n_iff (Iff.rfl)) (fun hp909 => ?_) (fun hp909 => ?_)
              · replace hF := if_t hp909 hF
                refine wp_seq ?_; refine wp_region_lit ?_; refine op_g ha rfl (g_assign rfl) ?_; clear ha a; intro a ha; refine wpList_nil ?_; replace ha := ha.sub (σ' := [(2, (.bool false))]) ⟨rfl, trivial⟩; refine e_then ?_; refine wp_ret ?_; refine e_blk_ret ?_; refine e_then_ret ?_; refine e_lq_ret ?_; refine e_blk_ret ?_; refine e_then_ret ?_; refine e_lq_ret ?_; refine e_then_ret ?_; obtain rfl := Option.some.inj hF
                have e910 := LK_inr hN844; subst e910
                have e911 := BK_inr hK840; subst e911
                have e912 := LK_inr hN681; subst e912
                have e913 := BK_inr hK677; subst e913
                exact f_ret1 ha rfl rfl ⟨rfl, hE908⟩
              replace hF := if_f hp909 hF; refine wp_skip ?_; refine e_blk ?_; refine e_then ?_; refine wp_region_lit ?_; refine op_g ha rfl (g_move rfl) ?_; clear ha a; intro a ha; obtain ⟨hI914, hF⟩ := ck_some hF; refine op_g ha rfl (g_add rfl rfl hI914) ?_; clear ha a; intro a ha; refine op_g ha rfl (g_assign rfl) ?_; clear ha a; intro a ha; refine wpList_nil ?_; replace ha := ha.sub (σ' := [(1, (.pointer (some ⟨b1, 0, none⟩))), (3, (.int .i64 x9)), (5, (.int .i64 i436)), (6, (.int .i64 (i762 + 1)))]) ⟨rfl, rfl, rfl, rfl, trivial⟩; refine e_lq ?_; obtain rfl := Option.some.inj hF
              exact ⟨_, Nat.lt_succ_self _, i762 + 1, ha.sub ⟨rfl, rfl, rfl, rfl, trivial⟩, hE908, hI914, hB760, z761, hN844⟩
            replace hF := if_f hp861 hF; refine wp_exit ?_; refine e_then_exit ?_; refine e_lq_eq ?_; obtain rfl := Option.some.inj hF
            exact ⟨ha.sub ⟨rfl, rfl, rfl, trivial⟩, hE764, hB760, z761, (LK_inr hN844).symm⟩
        rintro a w835 ⟨ha, hE843, hB836, z837, rfl⟩
        have hF : F_spec_GraphOk_k5 i436 = some _ := hK840; clear hK840; unfold F_spec_GraphOk_k5 at hF
        refine e_blk ?_; refine e_then ?_; refine wp_region_lit ?_; refine op_g ha rfl (g_move rfl) ?_; clear ha a; intro a ha; obtain ⟨hI916, hF⟩ := ck_some hF; refine op_g ha rfl (g_add rfl rfl hI916) ?_; clear ha a; intro a ha; refine op_g ha rfl (g_assign rfl) ?_; clear ha a; intro a ha; refine wpList_nil ?_; replace ha := ha.sub (σ' := [(1, (.pointer (some ⟨b1, 0, none⟩))), (3, (.int .i64 x9)), (5, (.int .i64 (i436 + 1)))]) ⟨rfl, rfl, rfl, trivial⟩; refine e_lq ?_; obtain rfl := Option.some.inj hF
        exact ⟨_, Nat.lt_succ_self _, i436 + 1, ha.sub ⟨rfl, rfl, rfl, trivial⟩, hE843, hI916, hB836, z837, hN681⟩
      replace hF := if_f hp684 hF; refine wp_exit ?_; refine e_then_exit ?_; refine e_lq_eq ?_; obtain rfl := Option.some.inj hF
      exact ⟨ha.sub trivial, hE438, (LK_inr hN681).symm⟩
  rintro a w674 ⟨ha, hE680, rfl⟩
  have hF : F_spec_GraphOk_k6 = some _ := hK677; clear hK677; unfold F_spec_GraphOk_k6 at hF
  refine e_then ?_; refine wp_seq ?_; refine wp_region_lit ?_; refine op_g ha rfl (g_assign rfl) ?_; clear ha a; intro a ha; refine wpList_nil ?_; refine e_then ?_; refine wp_ret ?_; obtain rfl := Option.some.inj hF
  exact f_ret1 ha rfl rfl ⟨rfl, hE680⟩
set_option maxHeartbeats 2000000 in
theorem W_spec_l9Form {W : World} {va0_0 : Value} {fa0_0 : List Nat} {a0_0 : (List (List Int))} (ha0_0 : Ro (Rp.sl 2 Rp.int) W fa0_0 va0_0 a0_0) {va0_1 : Value} {fa0_1 : List Nat} {a0_1 : (List (List Int))} (ha0_1 : Ro (Rp.sl 2 Rp.int) W fa0_1 va0_1 a0_1) {r : Bool} (hF : F_spec_l9Form a0_0 a0_1 = some r) :
    Calls Tryd.prog 62 [.agg #[va0_0, va0_1]].toArray W (Ret fun u w' => u = .bool r ∧ Ext W w') := by
  refine f_enter Tryd.func62 rfl Tryd.ntmps62 rfl ?_
  intro a ha
  replace ha : Fr 41 [(0, (.agg #[va0_0, va0_1]))] a := ha
  have hE : Chg [] W W := Chg.refl _ _
  unfold F_spec_l9Form at hF
  refine wp_seq ?_; refine wp_region_lit ?_
  refine o_box ha rfl rfl rfl ?_; clear ha a; intro b1 w2 hB3 hx4 hlo5 a ha
  have q6 := Zn.one hlo5
  have q7 := Zn.upD q6 hE
  have hE8 := Ext.trans hE hx4
  refine op_g ha rfl (g_assign rfl) ?_; clear ha a; intro a ha; refine wpList_nil ?_; replace ha := ha.sub (σ' := [(1, (.pointer (some ⟨b1, 0, none⟩)))]) ⟨rfl, trivial⟩; refine e_then ?_; refine wp_seq ?_; refine wp_region_lit ?_; refine op_g ha rfl (g_field0 st33_0 rfl) ?_; clear ha a; intro a ha; refine op_g ha rfl (g_load Tryd.isAgg22 rfl (hB3.cell rfl)) ?_; clear ha a; intro a ha; refine op_g ha rfl (g_lenR sl22.und ha0_0 rfl) ?_; clear ha a; intro a ha; refine op_g ha rfl (g_assign rfl) ?_; clear ha a; intro a ha; refine wpList_nil ?_; replace ha := ha.sub (σ' := [(1, (.pointer (some ⟨b1, 0, none⟩))), (3, (.int .i64 (a0_0.length : Int)))]) ⟨rfl, rfl, trivial⟩
  refine e_then ?_; refine wp_seq ?_; refine wp_seq ?_; refine wp_region_lit ?_; refine op_g ha rfl (g_move rfl) ?_; clear ha a; intro a ha; obtain ⟨x17, hc18, hF⟩ := cal_some hF
  refine o_call ha rfl rfl Tryd.call60 (W_spec_l1In ha0_0.len (show InI 1 from by decide) (show InI 16 from by decide) hc18) ?_; clear ha a; rintro v19 w20 ⟨rfl, hx21⟩ a ha
  replace hB3 := hB3.ext hx21
  have hE22 := Ext.trans hE8 hx21
  refine op_g ha rfl (g_not rfl) ?_; clear ha a; intro a ha; refine op_g ha rfl (g_move rfl) ?_; clear ha a; intro a ha
  by_cases hp23 : ¬ (x17 = true)
  · replace hF := if_t hp23 hF
    rw [show (!x17) = true from (n_iff (Iff.rfl)).2 hp23] at ha
    (iterate 4 refine op_unwant ha rfl (yields ha rfl rfl) rfl ?_; clear ha a; intro a ha); refine op_g ha rfl (g_pick rfl rfl) ?_; clear ha a; intro a ha; refine wpList_nil ?_; replace ha := ha.sub (σ' := [(1, (.pointer (some ⟨b1, 0, none⟩))), (3, (.int .i64 (a0_0.length : Int))), (16, (.bool true))]) ⟨rfl, rfl, rfl, trivial⟩; refine e_then ?_; refine c_true ha rfl ?_; refine wp_seq ?_; refine wp_region_lit ?_; refine op_g ha rfl (g_assign rfl) ?_; clear ha a; intro a ha; refine wpList_nil ?_; replace ha := ha.sub (σ' := [(2, (.bool false))]) ⟨rfl, trivial⟩; refine e_then ?_; refine wp_ret ?_
    refine e_then_ret ?_; obtain rfl := Option.some.inj hF
    exact f_ret1 ha rfl rfl ⟨rfl, hE22⟩
  replace hF := if_f hp23 hF
  rw [show (!x17) = false from b_false (n_iff (Iff.rfl)) hp23] at ha
  refine op_want (yields ha rfl rfl) ?_; refine op_g ha rfl (g_field0 st33_1 rfl) ?_; clear ha a; intro a ha; refine op_want (yields ha rfl rfl) ?_; refine op_g ha rfl (g_load Tryd.isAgg22 rfl (hB3.cell rfl)) ?_; clear ha a; intro a ha; refine op_want (yields ha rfl rfl) ?_; refine op_g ha rfl (g_lenR sl22.und ha0_1 rfl) ?_; clear ha a; intro a ha; refine op_want (yields ha rfl rfl) ?_; refine op_g ha rfl (g_gtr rfl rfl) ?_; clear ha a; intro a ha; refine op_g ha rfl (g_pick rfl rfl) ?_; clear ha a; intro a ha; refine wpList_nil ?_; replace ha := ha.sub (σ' := [(1, (.pointer (some ⟨b1, 0, none⟩))), (3, (.int .i64 (a0_0.length : Int))), (16, (.bool (decide (16 < (a0_1.length : Int)))))]) ⟨rfl, rfl, rfl, trivial⟩
  refine e_then ?_; refine c_cond (16 < (a0_1.length : Int)) ha rfl (decide_eq_true_iff) (fun hp24 => ?_) (fun hp24 => ?_)
  · replace hF := if_t hp24 hF
    refine wp_seq ?_; refine wp_region_lit ?_; refine op_g ha rfl (g_assign rfl) ?_; clear ha a; intro a ha; refine wpList_nil ?_; replace ha := ha.sub (σ' := [(2, (.bool false))]) ⟨rfl, trivial⟩; refine e_then ?_; refine wp_ret ?_; refine e_then_ret ?_; obtain rfl := Option.some.inj hF
    exact f_ret1 ha rfl rfl ⟨rfl, hE22⟩
  replace hF := if_f hp24 hF; refine wp_skip ?_; refine e_then ?_; refine wp_seq ?_; refine wp_seq ?_; refine wp_region_lit ?_; refine op_g ha rfl (g_assign rfl) ?_; clear ha a; intro a ha; refine wpList_nil ?_; replace ha := ha.sub (σ' := [(1, (.pointer (some ⟨b1, 0, none⟩))), (3, (.int .i64 (a0_0.length : Int))), (4, (.int .i64 0))]) ⟨rfl, rfl, rfl, trivial⟩; refine e_then ?_; obtain ⟨o124, ho125, hK126⟩ := bnd_some hF
  obtain ⟨n127, hn128⟩ := lp_some ho125; clear ho125
  refine c_loop (fun a w => Fr 41 [] a ∧ Chg [] W w ∧ o124 = .inl ()) (fun n a w => ∃ (i76 : Int), Fr 41 [(1, (.pointer (some ⟨b1, 0, none⟩))), (3, (.int .i64 (a0_0.length : Int))), (4, (.int .i64 i76))] a ∧ Chg [] W w ∧ InI i76 ∧ Bx w b1 [va0_0, va0_1] 33 ∧ Zn W (b1 : Int) ∧ lpN (fun s => F_spec_l9Form_l1 a0_0 a0_1 s) n i76 = some o124) n127 ⟨0, ha.sub ⟨rfl, rfl, rfl, trivial⟩, hE22, (show InI 0 from by decide), hB3, q7, hn128⟩ ?_ ?_
  · rintro m132 a w73 ⟨i76, ha, hE78, hI77, hB74, z75, hF⟩
    cases m132 with
    | zero => exact (lpN_zero hF).elim
    | succ m132 =>
      obtain ⟨z131, hF, hN130⟩ := lpN_succ hF
      have hF : F_spec_l9Form_l1 a0_0 a0_1 i76 = some z131 := hF; unfold F_spec_l9Form_l1 at hF
      refine wp_seq ?_; refine wp_seq ?_; refine wp_region_lit ?_; refine op_g ha rfl (g_move rfl) ?_; clear ha a; intro a ha; refine op_g ha rfl (g_field0 st33_1 rfl) ?_; clear ha a; intro a ha; refine op_g ha rfl (g_load Tryd.isAgg22 rfl (hB74.cell rfl)) ?_; clear ha a; intro a ha; refine op_g ha rfl (g_lenR sl22.und ha0_1 rfl) ?_; clear ha a; intro a ha; refine op_g ha rfl (g_lss rfl rfl) ?_; clear ha a; intro a ha; refine wpList_nil ?_; replace ha := ha.sub (σ' := [(1, (.pointer (some ⟨b1, 0, none⟩))), (3, (.int .i64 (a0_0.length : Int))), (4, (.int .i64 i76)), (21, (.bool (decide (i76 < (a0_1.length : Int)))))]) ⟨rfl, rfl, rfl, rfl, trivial⟩
      refine e_then ?_; refine c_cond (i76 < (a0_1.length : Int)) ha rfl (decide_eq_true_iff) (fun hp133 => ?_) (fun hp133 => ?_)
      · replace hF := if_t hp133 hF
        refine wp_skip ?_; refine e_then ?_; refine wp_seq ?_; refine wp_block ?_; refine wp_seq ?_; refine wp_region_lit ?_; refine op_g ha rfl (g_field0 st33_1 rfl) ?_; clear ha a; intro a ha; refine op_g ha rfl (g_load Tryd.isAgg22 rfl (hB74.cell rfl)) ?_; clear ha a; intro a ha; refine op_g ha rfl (g_move rfl) ?_; clear ha a; intro a ha; obtain ⟨x134, g135, gx136, hF⟩ := idx_some hF
        obtain ⟨p137, cs138, f139, hf140, hpb141, hat142, hr143, hi144⟩ := ha0_1.at g135 gx136
        obtain ⟨v145, rfl, h146⟩ := hr143
        have h146 : Ro Rp.int W f139 v145 x134 := h146
        refine op_g ha rfl (hi144.gives sl22 rfl rfl) ?_; clear ha a; intro a ha; refine op_g ha rfl (g_load0 hE78 Tryd.isAgg29 rfl hat142.one) ?_; clear ha a; intro a ha; refine op_g ha rfl (g_lenR sl29.und h146 rfl) ?_; clear ha a; intro a ha; refine op_g ha rfl (g_neq rfl rfl) ?_; clear ha a; intro a ha; refine op_g ha rfl (g_move rfl) ?_; clear ha a; intro a ha
        by_cases hp148 : (x134.length : Int) ≠ 2
        · replace hF := if_t hp148 hF
          rw [show (decide ((x134.length : Int) ≠ 2)) = true from (decide_eq_true_iff).2 hp148] at ha
          (iterate 8 refine op_unwant ha rfl (yields ha rfl rfl) rfl ?_; clear ha a; intro a ha); refine op_g ha rfl (g_pick rfl rfl) ?_; clear ha a; intro a ha; refine wpList_nil ?_; replace ha := ha.sub (σ' := [(1, (.pointer (some ⟨b1, 0, none⟩))), (3, (.int .i64 (a0_0.length : Int))), (4, (.int .i64 i76)), (40, (.bool true))]) ⟨rfl, rfl, rfl, rfl, trivial⟩; refine e_then ?_; refine c_true ha rfl ?_; refine wp_seq ?_; refine wp_region_lit ?_; refine op_g ha rfl (g_assign rfl) ?_; clear ha a; intro a ha; refine wpList_nil ?_; replace ha := ha.sub (σ' := [(2, (.bool false))]) ⟨rfl, trivial⟩; refine e_then ?_
          refine wp_ret ?_; refine e_blk_ret ?_; refine e_then_ret ?_; refine e_lq_ret ?_; refine e_then_ret ?_; obtain rfl := Option.some.inj hF
          have e149 := LK_inr hN130; subst e149
          have e150 := BK_inr hK126; subst e150
          exact f_ret1 ha rfl rfl ⟨rfl, hE78⟩
        replace hF := if_f hp148 hF
        rw [show (decide ((x134.length : Int) ≠ 2)) = false from b_false (decide_eq_true_iff) hp148] at ha
        refine op_want (yields ha rfl rfl) ?_; refine op_g ha rfl (g_field0 st33_1 rfl) ?_; clear ha a; intro a ha; refine op_want (yields ha rfl rfl) ?_; refine op_g ha rfl (g_load Tryd.isAgg22 rfl (hB74.cell rfl)) ?_; clear ha a; intro a ha; refine op_want (yields ha rfl rfl) ?_; refine op_g ha rfl (g_move rfl) ?_; clear ha a; intro a ha; refine op_want (yields ha rfl rfl) ?_; obtain ⟨x151, g152, gx153, hF⟩ := idx_some hF
        obtain ⟨p154, cs155, f156, hf157, hpb158, hat159, hr160, hi161⟩ := ha0_1.at g152 gx153
        obtain ⟨v162, rfl, h163⟩ := hr160
        have h163 : Ro Rp.int W f156 v162 x151 := h163
        refine op_g ha rfl (hi161.gives sl22 rfl rfl) ?_; clear ha a; intro a ha; refine op_want (yields ha rfl rfl) ?_; refine op_g ha rfl (g_load0 hE78 Tryd.isAgg29 rfl hat159.one) ?_; clear ha a; intro a ha; refine op_want (yields ha rfl rfl) ?_; refine op_g ha rfl (g_move rfl) ?_; clear ha a; intro a ha; refine op_want (yields ha rfl rfl) ?_; obtain ⟨x165, hc166, hF⟩ := cal_some hF
        refine o_call ha rfl rfl Tryd.call41 (W_spec_l1Set (h163.ext hE78) ha0_0.len hc166) ?_; clear ha a; rintro v167 w168 ⟨rfl, hx169⟩ a ha
        replace hB74 := hB74.ext hx169
        have hE170 := Ext.trans hE78 hx169
        refine op_want (yields ha rfl rfl) ?_; refine op_g ha rfl (g_not rfl) ?_; clear ha a; intro a ha; refine op_g ha rfl (g_pick rfl rfl) ?_; clear ha a; intro a ha; refine wpList_nil ?_; replace ha := ha.sub (σ' := [(1, (.pointer (some ⟨b1, 0, none⟩))), (3, (.int .i64 (a0_0.length : Int))), (4, (.int .i64 i76)), (32, (.pointer (some ⟨b1, 1, none⟩))), (33, va0_1), (34, (.int .i64 i76)), (35, (.pointer (some p154))), (36, v162), (37, (.int .i64 (a0_0.length : Int))), (38, (.bool x165)), (39, (.bool (!x165))), (40, (.bool (!x165)))]) ⟨rfl, rfl, rfl, rfl, rfl, rfl, rfl, rfl, rfl, rfl, rfl, rfl, trivial⟩
        refine e_then ?_; refine c_cond (¬ (x165 = true)) ha rfl (n_iff (Iff.rfl)) (fun hp171 => ?_) (fun hp171 => ?_)
        · replace hF := if_t hp171 hF
          refine wp_seq ?_; refine wp_region_lit ?_; refine op_g ha rfl (g_assign rfl) ?_; clear ha a; intro a ha; refine wpList_nil ?_; replace ha := ha.sub (σ' := [(2, (.bool false))]) ⟨rfl, trivial⟩; refine e_then ?_; refine wp_ret ?_; refine e_blk_ret ?_; refine e_then_ret ?_; refine e_lq_ret ?_; refine e_then_ret ?_; obtain rfl := Option.some.inj hF
          have e172 := LK_inr hN130; subst e172
          have e173 := BK_inr hK126; subst e173
          exact f_ret1 ha rfl rfl ⟨rfl, hE170⟩
        replace hF := if_f hp171 hF; refine wp_skip ?_; refine e_blk ?_; refine e_then ?_; refine wp_region_lit ?_; refine op_g ha rfl (g_move rfl) ?_; clear ha a; intro a ha; obtain ⟨hI174, hF⟩ := ck_some hF; refine op_g ha rfl (g_add rfl rfl hI174) ?_; clear ha a; intro a ha; refine op_g ha rfl (g_assign rfl) ?_; clear ha a; intro a ha; refine wpList_nil ?_; replace ha := ha.sub (σ' := [(1, (.pointer (some ⟨b1, 0, none⟩))), (3, (.int .i64 (a0_0.length : Int))), (4, (.int .i64 (i76 + 1))), (32, (.pointer (some ⟨b1, 1, none⟩))), (33, va0_1), (34, (.int .i64 i76)), (35, (.pointer (some p154))), (36, v162), (37, (.int .i64 (a0_0.length : Int))), (38, (.bool x165)), (39, (.bool (!x165)))]) ⟨rfl, rfl, rfl, rfl, rfl, rfl, rfl, rfl, rfl, rfl, rfl, trivial⟩
        refine e_lq ?_; obtain rfl := Option.some.inj hF
        exact ⟨_, Nat.lt_succ_self _, i76 + 1, ha.sub ⟨rfl, rfl, rfl, trivial⟩, hE170, hI174, hB74, z75, hN130⟩
      replace hF := if_f hp133 hF; refine wp_exit ?_; refine e_then_exit ?_; refine e_lq_eq ?_; obtain rfl := Option.some.inj hF
      exact ⟨ha.sub trivial, hE78, (LK_inr hN130).symm⟩
  rintro a w123 ⟨ha, hE129, rfl⟩
  have hF : F_spec_l9Form_k2 = some _ := hK126; clear hK126; unfold F_spec_l9Form_k2 at hF
  refine e_then ?_; refine wp_seq ?_; refine wp_region_lit ?_; refine op_g ha rfl (g_assign rfl) ?_; clear ha a; intro a ha; refine wpList_nil ?_; refine e_then ?_; refine wp_ret ?_; obtain rfl := Option.some.inj hF
  exact f_ret1 ha rfl rfl ⟨rfl, hE129⟩
set_option maxHeartbeats 2000000 in
theorem W_spec_l1All {W : World} {a0 : Int} (ha0 : InI a0) {r : (List Int)} (hF : F_spec_l1All a0 = some r) :
    Calls Tryd.prog 63 [.int .i64 a0].toArray W (Ret fun u w' => ∃ (b_u : Int), Ow Rp.int 2 true w' [] b_u u r ∧ Zn W b_u ∧ Ext W w') := by
  refine f_enter Tryd.func63 rfl Tryd.ntmps63 rfl ?_
  intro a ha
  replace ha : Fr 16 [(0, (.int .i64 a0))] a := ha
  have hE : Chg [] W W := Chg.refl _ _
  unfold F_spec_l1All at hF
  refine wp_seq ?_; refine wp_region_lit ?_; refine op_g ha rfl (g_assign rfl) ?_; clear ha a; intro a ha; refine wpList_nil ?_; replace ha := ha.sub (σ' := [(0, (.int .i64 a0))]) ⟨rfl, trivial⟩; refine e_then ?_; refine wp_seq ?_; refine wp_region_lit ?_
  refine o_lit0 Rp.int ha rfl sl29 ?_; clear ha a; intro v1 w2 h3 hx4 a ha
  obtain ⟨b6, hb6⟩ : ∃ b : Int, b = W.heap.size := ⟨_, rfl⟩; rw [← hb6] at h3
  have q7 := zn_of hb6
  have q8 := Zn.upD q7 hE
  have hE9 := Ext.trans hE hx4
  refine op_g ha rfl (g_assign rfl) ?_; clear ha a; intro a ha; refine wpList_nil ?_; replace ha := ha.sub (σ' := [(0, (.int .i64 a0)), (3, v1)]) ⟨rfl, rfl, trivial⟩; refine e_then ?_; refine wp_seq ?_; refine wp_seq ?_; refine wp_region_lit ?_; refine op_g ha rfl (g_assign rfl) ?_; clear ha a; intro a ha; refine wpList_nil ?_; refine e_then ?_; obtain ⟨o102, ho103, hK104⟩ := bnd_some hF
  obtain ⟨n105, hn106⟩ := lp_some ho103; clear ho103
  refine c_loop (fun a w => ∃ (l99 : (List Int)) (v100 : Value) (b101 : Int), Fr 16 [(3, v100)] a ∧ Chg [] W w ∧ Ow Rp.int 2 true w [] b101 v100 l99 ∧ Zn W b101 ∧ o102 = .inl l99) (fun n a w => ∃ (l54 : (List Int)) (i57 : Int) (v55 : Value) (b56 : Int), Fr 16 [(0, (.int .i64 a0)), (3, v55), (4, (.int .i64 i57))] a ∧ Chg [] W w ∧ InI i57 ∧ Ow Rp.int 2 true w [] b56 v55 l54 ∧ Zn W b56 ∧ lpN (fun s => F_spec_l1All_l1 a0 s.1 s.2) n (l54, i57) = some o102) n105 ⟨([] : (List Int)), 0, v1, b6, ha.sub ⟨rfl, rfl, rfl, trivial⟩, hE9, (show InI 0 from by decide), h3, q8, hn106⟩ ?_ ?_
  · rintro m110 a w50 ⟨l54, i57, v55, b56, ha, hE59, hI58, h52, z53, hF⟩
    cases m110 with
    | zero => exact (lpN_zero hF).elim
    | succ m110 =>
      obtain ⟨z109, hF, hN108⟩ := lpN_succ hF
      have hF : F_spec_l1All_l1 a0 l54 i57 = some z109 := hF; unfold F_spec_l1All_l1 at hF
      refine wp_seq ?_; refine wp_seq ?_; refine wp_region_lit ?_; (iterate 2 refine op_g ha rfl (g_move rfl) ?_; clear ha a; intro a ha); refine op_g ha rfl (g_lss rfl rfl) ?_; clear ha a; intro a ha; refine wpList_nil ?_; replace ha := ha.sub (σ' := [(0, (.int .i64 a0)), (3, v55), (4, (.int .i64 i57)), (8, (.bool (decide (i57 < a0))))]) ⟨rfl, rfl, rfl, rfl, trivial⟩; refine e_then ?_; refine c_cond (i57 < a0) ha rfl (decide_eq_true_iff) (fun hp111 => ?_) (fun hp111 => ?_)
      · replace hF := if_t hp111 hF
        refine wp_skip ?_; refine e_then ?_; refine wp_seq ?_; refine wp_block ?_; refine wp_region_lit ?_; (iterate 2 refine op_g ha rfl (g_move rfl) ?_; clear ha a; intro a ha)
        refine o_lit1 (o := true) (y := i57) Rp.int ha rfl sl29 rfl rfl rfl ⟨rfl, hI58, rfl⟩ ?_; clear ha a; intro v112 w113 h114 hx115 a ha
        obtain ⟨b117, hb117⟩ : ∃ b : Int, b = w50.heap.size := ⟨_, rfl⟩; rw [← hb117] at h114
        have q118 := zn_of hb117
        have q119 := Nq.new h52.fpb q118
        have q120 := Nq.madeO q118 h52.blt
        have q121 := Zn.upD q118 hE59
        replace h52 := h52.ext hx115
        have hE122 := Ext.trans hE59 hx115
        obtain ⟨hl123, hF⟩ := app_some hF
        refine o_append ha rfl sl29 rfl rfl rfl h52 h114.src (Nq.nil _) hl123 ?_; clear ha a; intro v124 w125 b126 h127 hc128 hb129 a ha
        replace h127 : Ow Rp.int 2 true w125 [] b126 v124 _ := h127
        have q131 := Nq.appY q120 h114.fpb hb129
        have q132 := Nq.appX q119 (Nq.nil _) hb129 h114.blt
        have q133 := Zn.appD z53 hb129 hE122
        replace h114 := h114.nq hc128 q120
        have hE134 := Ext.then hE122 hc128 (Zn.bl z53)
        refine op_g ha rfl (g_assign rfl) ?_; clear ha a; intro a ha; refine wpList_nil ?_; replace ha := ha.sub (σ' := [(0, (.int .i64 a0)), (3, v124), (4, (.int .i64 i57))]) ⟨rfl, rfl, rfl, trivial⟩; refine e_blk ?_; refine e_then ?_; refine wp_region_lit ?_; refine op_g ha rfl (g_move rfl) ?_; clear ha a; intro a ha; obtain ⟨hI135, hF⟩ := ck_some hF; refine op_g ha rfl (g_add rfl rfl hI135) ?_; clear ha a; intro a ha; refine op_g ha rfl (g_assign rfl) ?_; clear ha a; intro a ha; refine wpList_nil ?_; replace ha := ha.sub (σ' := [(0, (.int .i64 a0)), (3, v124), (4, (.int .i64 (i57 + 1)))]) ⟨rfl, rfl, rfl, trivial⟩
        refine e_lq ?_; obtain rfl := Option.some.inj hF
        exact ⟨_, Nat.lt_succ_self _, (l54 ++ ([i57])), i57 + 1, v124, b126, ha.sub ⟨rfl, rfl, rfl, trivial⟩, hE134, hI135, h127, q133, hN108⟩
      replace hF := if_f hp111 hF; refine wp_exit ?_; refine e_then_exit ?_; refine e_lq_eq ?_; obtain rfl := Option.some.inj hF
      exact ⟨l54, v55, b56, ha.sub ⟨rfl, trivial⟩, hE59, h52, z53, (LK_inr hN108).symm⟩
  rintro a w95 ⟨l99, v100, b101, ha, hE107, h97, z98, rfl⟩
  have hF : F_spec_l1All_k2 l99 = some _ := hK104; clear hK104; unfold F_spec_l1All_k2 at hF
  refine e_then ?_; refine wp_seq ?_; refine wp_region_lit ?_; refine op_g ha rfl (g_move rfl) ?_; clear ha a; intro a ha; refine op_g ha rfl (g_assign rfl) ?_; clear ha a; intro a ha; refine wpList_nil ?_; replace ha := ha.sub (σ' := [(2, v100)]) ⟨rfl, trivial⟩; refine e_then ?_; refine wp_ret ?_; obtain rfl := Option.some.inj hF
  exact f_ret1 ha rfl rfl ⟨_, h97, z98, hE107⟩
set_option maxHeartbeats 2000000 in
theorem W_spec_l1Copy {W : World} {va0 : Value} {fa0 : List Nat} {a0 : (List Int)} (ha0 : Ro Rp.int W fa0 va0 a0) {r : (List Int)} (hF : F_spec_l1Copy a0 = some r) :
    Calls Tryd.prog 45 [va0].toArray W (Ret fun u w' => ∃ (b_u : Int), Ow Rp.int 2 true w' [] b_u u r ∧ Zn W b_u ∧ Ext W w') := by
  refine f_enter Tryd.func45 rfl Tryd.ntmps45 rfl ?_
  intro a ha
  replace ha : Fr 6 [(0, va0)] a := ha
  have hE : Chg [] W W := Chg.refl _ _
  unfold F_spec_l1Copy at hF
  refine wp_seq ?_; refine wp_region_lit ?_; refine op_g ha rfl (g_assign rfl) ?_; clear ha a; intro a ha; refine wpList_nil ?_; replace ha := ha.sub (σ' := [(0, va0)]) ⟨rfl, trivial⟩; refine e_then ?_; refine wp_seq ?_; refine wp_region_lit ?_
  refine o_lit0 Rp.int ha rfl sl29 ?_; clear ha a; intro v1 w2 h3 hx4 a ha
  obtain ⟨b6, hb6⟩ : ∃ b : Int, b = W.heap.size := ⟨_, rfl⟩; rw [← hb6] at h3
  have q7 := zn_of hb6
  have q8 := Zn.upD q7 hE
  have hE9 := Ext.trans hE hx4
  refine op_g ha rfl (g_move rfl) ?_; clear ha a; intro a ha; obtain ⟨hl10, hF⟩ := app_some hF
  obtain ⟨_, hs11, _⟩ := (ha0.ext hE9).src
  refine o_append ha rfl sl29 rfl rfl rfl h3 (hs11.up scal_int) (Nq.nil _) hl10 ?_; clear ha a; intro v12 w13 b14 h15 hc16 hb17 a ha
  replace h15 : Ow Rp.int 2 true w13 [] b14 v12 _ := h15
  have q19 := Zn.appD q8 hb17 hE9
  have hE20 := Ext.then hE9 hc16 (Zn.bl q8)
  refine op_g ha rfl (g_assign rfl) ?_; clear ha a; intro a ha; refine wpList_nil ?_; replace ha := ha.sub (σ' := [(2, v12)]) ⟨rfl, trivial⟩; refine e_then ?_; refine wp_ret ?_; obtain rfl := Option.some.inj hF
  exact f_ret1 ha rfl rfl ⟨_, h15, q19, hE20⟩
set_option maxHeartbeats 2000000 in
theorem W_spec_l1Into {W : World} {va0 : Value} {fa0 : List Nat} {a0 : (List Int)} (ha0 : Ro Rp.int W fa0 va0 a0) {a1 : Int} (ha1 : InI a1) {r : (List Int)} (hF : F_spec_l1Into a0 a1 = some r) :
    Calls Tryd.prog 22 [va0, .int .i64 a1].toArray W (Ret fun u w' => ∃ (fp_u : List Nat), Ro Rp.int w' fp_u u r ∧ Pv (fa0) W.heap.size fp_u ∧ ((u = va0 ∧ r = a0) ∨ ∃ b : Int, Ow Rp.int 2 true w' [] b u r ∧ Zn W b) ∧ Ext W w') := by
  refine f_enter Tryd.func22 rfl Tryd.ntmps22 rfl ?_
  intro a ha
  replace ha : Fr 46 [(0, va0), (1, (.int .i64 a1))] a := ha
  have hE : Chg [] W W := Chg.refl _ _
  unfold F_spec_l1Into at hF
  refine wp_seq ?_; refine wp_region_lit ?_; refine op_g ha rfl (g_assign rfl) ?_; clear ha a; intro a ha; refine wpList_nil ?_; replace ha := ha.sub (σ' := [(0, va0), (1, (.int .i64 a1))]) ⟨rfl, rfl, trivial⟩; refine e_then ?_; refine wp_seq ?_; refine wp_region_lit ?_; refine op_g ha rfl (g_assign rfl) ?_; clear ha a; intro a ha; refine wpList_nil ?_; refine e_then ?_; refine wp_seq ?_; obtain ⟨o48, ho49, hK50⟩ := bnd_some hF
  obtain ⟨n51, hn52⟩ := lp_some ho49; clear ho49
  refine c_loop (fun a w => ∃ (i46 : Int), Fr 46 [(0, va0), (1, (.int .i64 a1)), (5, (.int .i64 i46))] a ∧ Chg [] W w ∧ InI i46 ∧ o48 = .inl i46) (fun n a w => ∃ (i23 : Int), Fr 46 [(0, va0), (1, (.int .i64 a1)), (5, (.int .i64 i23))] a ∧ Chg [] W w ∧ InI i23 ∧ lpN (fun s => F_spec_l1Into_l1 a0 a1 s) n i23 = some o48) n51 ⟨0, ha.sub ⟨rfl, rfl, rfl, trivial⟩, hE, (show InI 0 from by decide), hn52⟩ ?_ ?_
  · rintro m56 a w22 ⟨i23, ha, hE25, hI24, hF⟩
    cases m56 with
    | zero => exact (lpN_zero hF).elim
    | succ m56 =>
      obtain ⟨z55, hF, hN54⟩ := lpN_succ hF
      have hF : F_spec_l1Into_l1 a0 a1 i23 = some z55 := hF; unfold F_spec_l1Into_l1 at hF
      refine wp_seq ?_; refine wp_seq ?_; refine wp_region_lit ?_; (iterate 2 refine op_g ha rfl (g_move rfl) ?_; clear ha a; intro a ha); refine op_g ha rfl (g_lenR sl29.und ha0 rfl) ?_; clear ha a; intro a ha; refine op_g ha rfl (g_lss rfl rfl) ?_; clear ha a; intro a ha; refine op_g ha rfl (g_move rfl) ?_; clear ha a; intro a ha
      by_cases hp57 : i23 < (a0.length : Int)
      · replace hF := if_t hp57 hF
        rw [show (decide (i23 < (a0.length : Int))) = true from (decide_eq_true_iff).2 hp57] at ha
        refine op_want (yields ha rfl rfl) ?_; refine op_g ha rfl (g_move rfl) ?_; clear ha a; intro a ha; refine op_want (yields ha rfl rfl) ?_; refine op_g ha rfl (g_move rfl) ?_; clear ha a; intro a ha; refine op_want (yields ha rfl rfl) ?_; obtain ⟨x58, g59, gx60, hF⟩ := idx_some hF
        obtain ⟨p61, cs62, f63, hf64, hpb65, hat66, hr67, hi68⟩ := ha0.at g59 gx60
        obtain ⟨rfl, hI69, rfl⟩ := hr67
        refine op_g ha rfl (hi68.gives sl29 rfl rfl) ?_; clear ha a; intro a ha; refine op_want (yields ha rfl rfl) ?_; refine op_g ha rfl (g_load0 hE25 Tryd.isAgg2 rfl hat66.one) ?_; clear ha a; intro a ha; refine op_want (yields ha rfl rfl) ?_; refine op_g ha rfl (g_move rfl) ?_; clear ha a; intro a ha; refine op_want (yields ha rfl rfl) ?_; refine op_g ha rfl (g_lss rfl rfl) ?_; clear ha a; intro a ha; refine op_g ha rfl (g_pick rfl rfl) ?_; clear ha a; intro a ha; refine wpList_nil ?_; replace ha := ha.sub (σ' := [(0, va0), (1, (.int .i64 a1)), (5, (.int .i64 i23)), (12, va0), (13, (.int .i64 i23)), (14, (.pointer (some p61))), (15, (.int .i64 x58)), (16, (.int .i64 a1)), (17, (.bool (decide (x58 < a1)))), (18, (.bool (decide (x58 < a1))))]) ⟨rfl, rfl, rfl, rfl, rfl, rfl, rfl, rfl, rfl, rfl, trivial⟩
        refine e_then ?_; refine c_cond (x58 < a1) ha rfl (decide_eq_true_iff) (fun hp70 => ?_) (fun hp70 => ?_)
        · replace hF := if_t hp70 hF
          refine wp_skip ?_; refine e_then ?_; refine wp_block ?_; refine wp_region_lit ?_; refine op_g ha rfl (g_move rfl) ?_; clear ha a; intro a ha; obtain ⟨hI71, hF⟩ := ck_some hF; refine op_g ha rfl (g_add rfl rfl hI71) ?_; clear ha a; intro a ha; refine op_g ha rfl (g_assign rfl) ?_; clear ha a; intro a ha; refine wpList_nil ?_; replace ha := ha.sub (σ' := [(0, va0), (1, (.int .i64 a1)), (5, (.int .i64 (i23 + 1))), (12, va0), (13, (.int .i64 i23)), (14, (.pointer (some p61))), (15, (.int .i64 x58)), (16, (.int .i64 a1)), (17, (.bool (decide (x58 < a1))))]) ⟨rfl, rfl, rfl, rfl, rfl, rfl, rfl, rfl, rfl, trivial⟩
          refine e_blk ?_; refine e_lq ?_; obtain rfl := Option.some.inj hF
          exact ⟨_, Nat.lt_succ_self _, i23 + 1, ha.sub ⟨rfl, rfl, rfl, trivial⟩, hE25, hI71, hN54⟩
        replace hF := if_f hp70 hF; refine wp_exit ?_; refine e_then_exit ?_; refine e_lq_eq ?_; obtain rfl := Option.some.inj hF
        exact ⟨i23, ha.sub ⟨rfl, rfl, rfl, trivial⟩, hE25, hI24, (LK_inr hN54).symm⟩
      replace hF := if_f hp57 hF
      rw [show (decide (i23 < (a0.length : Int))) = false from b_false (decide_eq_true_iff) hp57] at ha
      (iterate 6 refine op_unwant ha rfl (yields ha rfl rfl) rfl ?_; clear ha a; intro a ha); refine op_g ha rfl (g_pick rfl rfl) ?_; clear ha a; intro a ha; refine wpList_nil ?_; replace ha := ha.sub (σ' := [(0, va0), (1, (.int .i64 a1)), (5, (.int .i64 i23)), (18, (.bool false))]) ⟨rfl, rfl, rfl, rfl, trivial⟩; refine e_then ?_; refine c_false ha rfl ?_; refine wp_exit ?_; refine e_then_exit ?_; refine e_lq_eq ?_; obtain rfl := Option.some.inj hF
      exact ⟨i23, ha.sub ⟨rfl, rfl, rfl, trivial⟩, hE25, hI24, (LK_inr hN54).symm⟩
  rintro a w45 ⟨i46, ha, hE53, hI47, rfl⟩
  have hF : F_spec_l1Into_k2 a0 a1 i46 = some _ := hK50; clear hK50; unfold F_spec_l1Into_k2 at hF
  refine e_then ?_; refine wp_seq ?_; refine wp_seq ?_; refine wp_region_lit ?_; (iterate 2 refine op_g ha rfl (g_move rfl) ?_; clear ha a; intro a ha); refine op_g ha rfl (g_lenR sl29.und ha0 rfl) ?_; clear ha a; intro a ha; refine op_g ha rfl (g_lss rfl rfl) ?_; clear ha a; intro a ha; refine op_g ha rfl (g_move rfl) ?_; clear ha a; intro a ha
  by_cases hp73 : i46 < (a0.length : Int)
  · replace hF := if_t hp73 hF
    rw [show (decide (i46 < (a0.length : Int))) = true from (decide_eq_true_iff).2 hp73] at ha
    refine op_want (yields ha rfl rfl) ?_; refine op_g ha rfl (g_move rfl) ?_; clear ha a; intro a ha; refine op_want (yields ha rfl rfl) ?_; refine op_g ha rfl (g_move rfl) ?_; clear ha a; intro a ha; refine op_want (yields ha rfl rfl) ?_; obtain ⟨x74, g75, gx76, hF⟩ := idx_some hF
    obtain ⟨p77, cs78, f79, hf80, hpb81, hat82, hr83, hi84⟩ := ha0.at g75 gx76
    obtain ⟨rfl, hI85, rfl⟩ := hr83
    refine op_g ha rfl (hi84.gives sl29 rfl rfl) ?_; clear ha a; intro a ha; refine op_want (yields ha rfl rfl) ?_; refine op_g ha rfl (g_load0 hE53 Tryd.isAgg2 rfl hat82.one) ?_; clear ha a; intro a ha; refine op_want (yields ha rfl rfl) ?_; refine op_g ha rfl (g_move rfl) ?_; clear ha a; intro a ha; refine op_want (yields ha rfl rfl) ?_; refine op_g ha rfl (g_eql rfl rfl) ?_; clear ha a; intro a ha; refine op_g ha rfl (g_pick rfl rfl) ?_; clear ha a; intro a ha; refine wpList_nil ?_; replace ha := ha.sub (σ' := [(0, va0), (1, (.int .i64 a1)), (5, (.int .i64 i46)), (32, (.bool (decide (x74 = a1))))]) ⟨rfl, rfl, rfl, rfl, trivial⟩
    refine e_then ?_; refine c_cond (x74 = a1) ha rfl (decide_eq_true_iff) (fun hp86 => ?_) (fun hp86 => ?_)
    · replace hF := if_t hp86 hF
      refine wp_seq ?_; refine wp_region_lit ?_; refine op_g ha rfl (g_move rfl) ?_; clear ha a; intro a ha; refine op_g ha rfl (g_assign rfl) ?_; clear ha a; intro a ha; refine wpList_nil ?_; replace ha := ha.sub (σ' := [(4, va0)]) ⟨rfl, trivial⟩; refine e_then ?_; refine wp_ret ?_; refine e_then_ret ?_; obtain rfl := Option.some.inj hF
      exact f_ret1 ha rfl rfl ⟨_, (ha0.ext hE53), (Pv.par (fun _ h => h)), (.inl ⟨rfl, rfl⟩), hE53⟩
    replace hF := if_f hp86 hF; refine wp_skip ?_; refine e_then ?_; refine wp_seq ?_; refine wp_region_lit ?_; (iterate 2 refine op_g ha rfl (g_move rfl) ?_; clear ha a; intro a ha); obtain ⟨hb87a, hb87b, hb87c, hF⟩ := slc_some hF
    obtain ⟨v88, fp89, hrun90, hro91, hsub92⟩ := ha0.slice (lo := none) (hi := (some (.int .i64 i46))) (i := 0) (j := i46) sl29 (.inl ⟨rfl, rfl⟩) (.inr ⟨_, rfl⟩) ⟨hb87a, hb87b, hb87c⟩
    have q94 := (Pv.mono (Pv.par (fun _ h => h)) hsub92 : Pv (fa0) W.heap.size fp89)
    refine op_g ha rfl (g_slice sl29.und rfl rfl rfl hrun90) ?_; clear ha a; intro a ha; obtain ⟨x95, hc96, hF⟩ := cal_some hF
    refine o_call ha rfl rfl Tryd.call45 (W_spec_l1Copy (hro91.ext hE53) hc96) ?_; clear ha a; rintro v97 w98 ⟨b100, h101, z102, hx99⟩ a ha
    have hE104 := Ext.trans hE53 hx99
    have q105 := Zn.upD z102 hE53
    refine op_g ha rfl (g_move rfl) ?_; clear ha a; intro a ha
    refine o_lit1 (o := true) (y := a1) Rp.int ha rfl sl29 rfl rfl rfl ⟨rfl, ha1, rfl⟩ ?_; clear ha a; intro v106 w107 h108 hx109 a ha
    obtain ⟨b111, hb111⟩ : ∃ b : Int, b = w98.heap.size := ⟨_, rfl⟩; rw [← hb111] at h108
    have q112 := zn_of hb111
    have q113 := Nq.new h101.fpb q112
    have q114 := Nq.madeO q112 h101.blt
    have q115 := Zn.upD q112 hE104
    replace h101 := h101.ext hx109
    have hE116 := Ext.trans hE104 hx109
    obtain ⟨hl117, hF⟩ := app_some hF
    refine o_append ha rfl sl29 rfl rfl rfl h101 h108.src (Nq.nil _) hl117 ?_; clear ha a; intro v118 w119 b120 h121 hc122 hb123 a ha
    replace h121 : Ow Rp.int 2 true w119 [] b120 v118 _ := h121
    have q125 := Nq.appY q114 h108.fpb hb123
    have q126 := Nq.appX q113 (Nq.nil _) hb123 h108.blt
    have q127 := Zn.appD q105 hb123 hE116
    replace h108 := h108.nq hc122 q114
    have hE128 := Ext.then hE116 hc122 (Zn.bl q105)
    refine op_g ha rfl (g_assign rfl) ?_; clear ha a; intro a ha; refine wpList_nil ?_; replace ha := ha.sub (σ' := [(0, va0), (5, (.int .i64 i46)), (6, v118)]) ⟨rfl, rfl, rfl, trivial⟩; refine e_then ?_; refine wp_seq ?_; refine wp_region_lit ?_; (iterate 3 refine op_g ha rfl (g_move rfl) ?_; clear ha a; intro a ha); obtain ⟨hb129a, hb129b, hb129c, hF⟩ := slc_some hF
    obtain ⟨v130, fp131, hrun132, hro133, hsub134⟩ := ha0.slice (lo := (some (.int .i64 i46))) (hi := none) (i := i46) (j := (a0.length : Int)) sl29 (.inr ⟨_, rfl⟩) (.inl ⟨rfl, rfl⟩) ⟨hb129a, hb129b, hb129c⟩
    have q136 := (Pv.mono (Pv.par (fun _ h => h)) hsub134 : Pv (fa0) W.heap.size fp131)
    refine op_g ha rfl (g_slice sl29.und rfl rfl rfl hrun132) ?_; clear ha a; intro a ha; obtain ⟨hl137, hF⟩ := app_some hF
    obtain ⟨_, hs138, _⟩ := (hro133.ext hE128).src
    refine o_append ha rfl sl29 rfl rfl rfl h121 (hs138.up scal_int) (Nq.nil _) hl137 ?_; clear ha a; intro v139 w140 b141 h142 hc143 hb144 a ha
    replace h142 : Ow Rp.int 2 true w140 [] b141 v139 _ := h142
    have q146 := Zn.appD q127 hb144 hE128
    have hE147 := Ext.then hE128 hc143 (Zn.bl q127)
    refine op_g ha rfl (g_assign rfl) ?_; clear ha a; intro a ha; refine wpList_nil ?_; replace ha := ha.sub (σ' := [(4, v139)]) ⟨rfl, trivial⟩; refine e_then ?_; refine wp_ret ?_
    obtain ⟨fp148, h149, hs150⟩ := h142.roF
    obtain rfl := Option.some.inj hF
    exact f_ret1 ha rfl rfl ⟨_, h149, (Pv.mono (Pv.own q146 (zf_nil _)) hs150), (.inr ⟨_, h142, q146⟩), hE147⟩
  replace hF := if_f hp73 hF
  rw [show (decide (i46 < (a0.length : Int))) = false from b_false (decide_eq_true_iff) hp73] at ha
  (iterate 6 refine op_unwant ha rfl (yields ha rfl rfl) rfl ?_; clear ha a; intro a ha); refine op_g ha rfl (g_pick rfl rfl) ?_; clear ha a; intro a ha; refine wpList_nil ?_; replace ha := ha.sub (σ' := [(0, va0), (1, (.int .i64 a1)), (5, (.int .i64 i46)), (32, (.bool false))]) ⟨rfl, rfl, rfl, rfl, trivial⟩; refine e_then ?_; refine c_false ha rfl ?_; refine wp_skip ?_; refine e_then ?_; refine wp_seq ?_; refine wp_region_lit ?_; (iterate 2 refine op_g ha rfl (g_move rfl) ?_; clear ha a; intro a ha); obtain ⟨hb151a, hb151b, hb151c, hF⟩ := slc_some hF
  obtain ⟨v152, fp153, hrun154, hro155, hsub156⟩ := ha0.slice (lo := none) (hi := (some (.int .i64 i46))) (i := 0) (j := i46) sl29 (.inl ⟨rfl, rfl⟩) (.inr ⟨_, rfl⟩) ⟨hb151a, hb151b, hb151c⟩
  have q158 := (Pv.mono (Pv.par (fun _ h => h)) hsub156 : Pv (fa0) W.heap.size fp153)
  refine op_g ha rfl (g_slice sl29.und rfl rfl rfl hrun154) ?_; clear ha a; intro a ha; obtain ⟨x159, hc160, hF⟩ := cal_some hF
  refine o_call ha rfl rfl Tryd.call45 (W_spec_l1Copy (hro155.ext hE53) hc160) ?_; clear ha a; rintro v161 w162 ⟨b164, h165, z166, hx163⟩ a ha
  have hE168 := Ext.trans hE53 hx163
  have q169 := Zn.upD z166 hE53
  refine op_g ha rfl (g_move rfl) ?_; clear ha a; intro a ha
  refine o_lit1 (o := true) (y := a1) Rp.int ha rfl sl29 rfl rfl rfl ⟨rfl, ha1, rfl⟩ ?_; clear ha a; intro v170 w171 h172 hx173 a ha
  obtain ⟨b175, hb175⟩ : ∃ b : Int, b = w162.heap.size := ⟨_, rfl⟩; rw [← hb175] at h172
  have q176 := zn_of hb175
  have q177 := Nq.new h165.fpb q176
  have q178 := Nq.madeO q176 h165.blt
  have q179 := Zn.upD q176 hE168
  replace h165 := h165.ext hx173
  have hE180 := Ext.trans hE168 hx173
  obtain ⟨hl181, hF⟩ := app_some hF
  refine o_append ha rfl sl29 rfl rfl rfl h165 h172.src (Nq.nil _) hl181 ?_; clear ha a; intro v182 w183 b184 h185 hc186 hb187 a ha
  replace h185 : Ow Rp.int 2 true w183 [] b184 v182 _ := h185
  have q189 := Nq.appY q178 h172.fpb hb187
  have q190 := Nq.appX q177 (Nq.nil _) hb187 h172.blt
  have q191 := Zn.appD q169 hb187 hE180
  replace h172 := h172.nq hc186 q178
  have hE192 := Ext.then hE180 hc186 (Zn.bl q169)
  refine op_g ha rfl (g_assign rfl) ?_; clear ha a; intro a ha; refine wpList_nil ?_; replace ha := ha.sub (σ' := [(0, va0), (5, (.int .i64 i46)), (6, v182)]) ⟨rfl, rfl, rfl, trivial⟩; refine e_then ?_; refine wp_seq ?_; refine wp_region_lit ?_; (iterate 3 refine op_g ha rfl (g_move rfl) ?_; clear ha a; intro a ha); obtain ⟨hb193a, hb193b, hb193c, hF⟩ := slc_some hF
  obtain ⟨v194, fp195, hrun196, hro197, hsub198⟩ := ha0.slice (lo := (some (.int .i64 i46))) (hi := none) (i := i46) (j := (a0.length : Int)) sl29 (.inr ⟨_, rfl⟩) (.inl ⟨rfl, rfl⟩) ⟨hb193a, hb193b, hb193c⟩
  have q200 := (Pv.mono (Pv.par (fun _ h => h)) hsub198 : Pv (fa0) W.heap.size fp195)
  refine op_g ha rfl (g_slice sl29.und rfl rfl rfl hrun196) ?_; clear ha a; intro a ha; obtain ⟨hl201, hF⟩ := app_some hF
  obtain ⟨_, hs202, _⟩ := (hro197.ext hE192).src
  refine o_append ha rfl sl29 rfl rfl rfl h185 (hs202.up scal_int) (Nq.nil _) hl201 ?_; clear ha a; intro v203 w204 b205 h206 hc207 hb208 a ha
  replace h206 : Ow Rp.int 2 true w204 [] b205 v203 _ := h206
  have q210 := Zn.appD q191 hb208 hE192
  have hE211 := Ext.then hE192 hc207 (Zn.bl q191)
  refine op_g ha rfl (g_assign rfl) ?_; clear ha a; intro a ha; refine wpList_nil ?_; replace ha := ha.sub (σ' := [(4, v203)]) ⟨rfl, trivial⟩; refine e_then ?_; refine wp_ret ?_
  obtain ⟨fp212, h213, hs214⟩ := h206.roF
  obtain rfl := Option.some.inj hF
  exact f_ret1 ha rfl rfl ⟨_, h213, (Pv.mono (Pv.own q210 (zf_nil _)) hs214), (.inr ⟨_, h206, q210⟩), hE211⟩
set_option maxHeartbeats 2000000 in
theorem W_spec_l9Near {W : World} {va0_0 : Value} {fa0_0 : List Nat} {a0_0 : (List (List Int))} (ha0_0 : Ro (Rp.sl 2 Rp.int) W fa0_0 va0_0 a0_0) {va0_1 : Value} {fa0_1 : List Nat} {a0_1 : (List (List Int))} (ha0_1 : Ro (Rp.sl 2 Rp.int) W fa0_1 va0_1 a0_1) {a1 : Int} (ha1 : InI a1) {r : (List Int)} (hF : F_spec_l9Near a0_0 a0_1 a1 = some r) :
    Calls Tryd.prog 64 [.agg #[va0_0, va0_1], .int .i64 a1].toArray W (Ret fun u w' => ∃ (fp_u : List Nat), Ro Rp.int w' fp_u u r ∧ Pv (fa0_0 ++ fa0_1) W.heap.size fp_u ∧ Ext W w') := by
  refine f_enter Tryd.func64 rfl Tryd.ntmps64 rfl ?_
  intro a ha
  replace ha : Fr 52 [(0, (.agg #[va0_0, va0_1])), (1, (.int .i64 a1))] a := ha
  have hE : Chg [] W W := Chg.refl _ _
  unfold F_spec_l9Near at hF
  refine wp_seq ?_; refine wp_region_lit ?_
  refine o_box ha rfl rfl rfl ?_; clear ha a; intro b1 w2 hB3 hx4 hlo5 a ha
  have q6 := Zn.one hlo5
  have q7 := Zn.upD q6 hE
  have hE8 := Ext.trans hE hx4
  refine op_g ha rfl (g_assign rfl) ?_; clear ha a; intro a ha; refine wpList_nil ?_; replace ha := ha.sub (σ' := [(1, (.int .i64 a1)), (2, (.pointer (some ⟨b1, 0, none⟩)))]) ⟨rfl, rfl, trivial⟩; refine e_then ?_; refine wp_seq ?_; refine wp_region_lit ?_
  refine o_lit0 Rp.int ha rfl sl29 ?_; clear ha a; intro v9 w10 h11 hx12 a ha
  obtain ⟨b14, hb14⟩ : ∃ b : Int, b = w2.heap.size := ⟨_, rfl⟩; rw [← hb14] at h11
  have q15 := zn_of hb14
  have q16 := Nq.new hB3.fpb q15
  have q17 := Nq.madeO q15 hB3.bi
  have q18 := Zn.upD q15 hE8
  replace hB3 := hB3.ext hx12
  have hE19 := Ext.trans hE8 hx12
  refine op_g ha rfl (g_assign rfl) ?_; clear ha a; intro a ha; refine wpList_nil ?_; replace ha := ha.sub (σ' := [(1, (.int .i64 a1)), (2, (.pointer (some ⟨b1, 0, none⟩))), (5, v9)]) ⟨rfl, rfl, rfl, trivial⟩; refine e_then ?_; refine wp_seq ?_; refine wp_seq ?_; refine wp_region_lit ?_; refine op_g ha rfl (g_assign rfl) ?_; clear ha a; intro a ha; refine wpList_nil ?_; replace ha := ha.sub (σ' := [(1, (.int .i64 a1)), (2, (.pointer (some ⟨b1, 0, none⟩))), (5, v9), (6, (.int .i64 0))]) ⟨rfl, rfl, rfl, rfl, trivial⟩; refine e_then ?_; obtain ⟨o524, ho525, hK526⟩ := bnd_some hF
  obtain ⟨n527, hn528⟩ := lp_some ho525; clear ho525
  obtain ⟨fp529, h530, hs531⟩ := h11.roF
  have q533 := Nq.mono q17 hs531
  refine c_loop (fun a w => ∃ (l520 : (List Int)) (v521 : Value) (f522 : List Nat), Fr 52 [(5, v521)] a ∧ Chg [] W w ∧ Ro Rp.int w f522 v521 l520 ∧ Pv (fa0_0 ++ fa0_1) W.heap.size f522 ∧ o524 = .inl l520) (fun n a w => ∃ (l277 : (List Int)) (i281 : Int) (v278 : Value) (f279 : List Nat), Fr 52 [(1, (.int .i64 a1)), (2, (.pointer (some ⟨b1, 0, none⟩))), (5, v278), (6, (.int .i64 i281))] a ∧ Chg [] W w ∧ InI i281 ∧ Bx w b1 [va0_0, va0_1] 33 ∧ Zn W (b1 : Int) ∧ Ro Rp.int w f279 v278 l277 ∧ Pv (fa0_0 ++ fa0_1) W.heap.size f279 ∧ Nq (f279) (b1 : Int) ∧ lpN (fun s => F_spec_l9Near_l1 a0_1 a1 s.1 s.2) n (l277, i281) = some o524) n527 ⟨([] : (List Int)), 0, v9, fp529, ha.sub ⟨rfl, rfl, rfl, rfl, trivial⟩, hE19, (show InI 0 from by decide), hB3, q7, h530, (Pv.mono (Pv.own q18 (zf_nil _)) hs531), q533, hn528⟩ ?_ ?_
  · rintro m537 a w272 ⟨l277, i281, v278, f279, ha, hE284, hI282, hB273, z274, h276, pv280, q283, hF⟩
    cases m537 with
    | zero => exact (lpN_zero hF).elim
    | succ m537 =>
      obtain ⟨z536, hF, hN535⟩ := lpN_succ hF
      have hF : F_spec_l9Near_l1 a0_1 a1 l277 i281 = some z536 := hF; unfold F_spec_l9Near_l1 at hF
      refine wp_seq ?_; refine wp_seq ?_; refine wp_region_lit ?_; refine op_g ha rfl (g_move rfl) ?_; clear ha a; intro a ha; refine op_g ha rfl (g_field0 st33_1 rfl) ?_; clear ha a; intro a ha; refine op_g ha rfl (g_load Tryd.isAgg22 rfl (hB273.cell rfl)) ?_; clear ha a; intro a ha; refine op_g ha rfl (g_lenR sl22.und ha0_1 rfl) ?_; clear ha a; intro a ha; refine op_g ha rfl (g_lss rfl rfl) ?_; clear ha a; intro a ha; refine wpList_nil ?_; replace ha := ha.sub (σ' := [(1, (.int .i64 a1)), (2, (.pointer (some ⟨b1, 0, none⟩))), (5, v278), (6, (.int .i64 i281)), (12, (.bool (decide (i281 < (a0_1.length : Int)))))]) ⟨rfl, rfl, rfl, rfl, rfl, trivial⟩
      refine e_then ?_; refine c_cond (i281 < (a0_1.length : Int)) ha rfl (decide_eq_true_iff) (fun hp538 => ?_) (fun hp538 => ?_)
      · replace hF := if_t hp538 hF
        refine wp_skip ?_; refine e_then ?_; refine wp_seq ?_; refine wp_block ?_; obtain ⟨o606, ho607, hK608⟩ := bnd_some hF
        have hF := ho607; clear ho607
        refine s_cut (fun a w => ∃ (l614 : (List Int)) (v615 : Value) (f616 : List Nat), Fr 52 [(1, (.int .i64 a1)), (2, (.pointer (some ⟨b1, 0, none⟩))), (5, v615), (6, (.int .i64 i281))] a ∧ Chg [] W w ∧ Bx w b1 [va0_0, va0_1] 33 ∧ Zn W (b1 : Int) ∧ Ro Rp.int w f616 v615 l614 ∧ Pv (fa0_0 ++ fa0_1) W.heap.size f616 ∧ Nq (f616) (b1 : Int) ∧ o606 = .inl l614) ?_ ?_
        · skip
          refine wp_seq ?_; refine wp_region_lit ?_; refine op_g ha rfl (g_field0 st33_1 rfl) ?_; clear ha a; intro a ha; refine op_g ha rfl (g_load Tryd.isAgg22 rfl (hB273.cell rfl)) ?_; clear ha a; intro a ha; refine op_g ha rfl (g_move rfl) ?_; clear ha a; intro a ha; obtain ⟨x620, g621, gx622, hF⟩ := idx_some hF
          obtain ⟨p623, cs624, f625, hf626, hpb627, hat628, hr629, hi630⟩ := ha0_1.at g621 gx622
          obtain ⟨v631, rfl, h632⟩ := hr629
          have h632 : Ro Rp.int W f625 v631 x620 := h632
          have q634 := (Pv.mono (Pv.par (fun _ h => List.mem_append_right _ h)) hf626 : Pv (fa0_0 ++ fa0_1) W.heap.size f625)
          refine op_g ha rfl (hi630.gives sl22 rfl rfl) ?_; clear ha a; intro a ha; refine op_g ha rfl (g_load0 hE284 Tryd.isAgg29 rfl hat628.one) ?_; clear ha a; intro a ha; obtain ⟨x635, g636, gx637, hF⟩ := idx_some hF
          obtain ⟨p638, cs639, f640, hf641, hpb642, hat643, hr644, hi645⟩ := h632.at g636 gx637
          obtain ⟨rfl, hI646, rfl⟩ := hr644
          refine op_g ha rfl (hi645.gives sl29 rfl rfl) ?_; clear ha a; intro a ha; refine op_g ha rfl (g_load0 hE284 Tryd.isAgg2 rfl hat643.one) ?_; clear ha a; intro a ha; refine op_g ha rfl (g_move rfl) ?_; clear ha a; intro a ha; refine op_g ha rfl (g_eql rfl rfl) ?_; clear ha a; intro a ha; refine wpList_nil ?_; replace ha := ha.sub (σ' := [(1, (.int .i64 a1)), (2, (.pointer (some ⟨b1, 0, none⟩))), (5, v278), (6, (.int .i64 i281)), (23, (.bool (decide (x635 = a1))))]) ⟨rfl, rfl, rfl, rfl, rfl, trivial⟩; refine e_then ?_; refine c_cond (x635 = a1) ha rfl (decide_eq_true_iff) (fun hp647 => ?_) (fun hp647 => ?_)
          · replace hF := if_t hp647 hF
            refine wp_region_lit ?_; refine op_g ha rfl (g_move rfl) ?_; clear ha a; intro a ha; refine op_g ha rfl (g_field0 st33_1 rfl) ?_; clear ha a; intro a ha; refine op_g ha rfl (g_load Tryd.isAgg22 rfl (hB273.cell rfl)) ?_; clear ha a; intro a ha; refine op_g ha rfl (g_move rfl) ?_; clear ha a; intro a ha; obtain ⟨x648, g649, gx650, hF⟩ := idx_some hF
            obtain ⟨p651, cs652, f653, hf654, hpb655, hat656, hr657, hi658⟩ := ha0_1.at g649 gx650
            obtain ⟨v659, rfl, h660⟩ := hr657
            have h660 : Ro Rp.int W f653 v659 x648 := h660
            have q662 := (Pv.mono (Pv.par (fun _ h => List.mem_append_right _ h)) hf654 : Pv (fa0_0 ++ fa0_1) W.heap.size f653)
            refine op_g ha rfl (hi658.gives sl22 rfl rfl) ?_; clear ha a; intro a ha; refine op_g ha rfl (g_load0 hE284 Tryd.isAgg29 rfl hat656.one) ?_; clear ha a; intro a ha; obtain ⟨x663, g664, gx665, hF⟩ := idx_some hF
            obtain ⟨p666, cs667, f668, hf669, hpb670, hat671, hr672, hi673⟩ := h660.at g664 gx665
            obtain ⟨rfl, hI674, rfl⟩ := hr672
            refine op_g ha rfl (hi673.gives sl29 rfl rfl) ?_; clear ha a; intro a ha; refine op_g ha rfl (g_load0 hE284 Tryd.isAgg2 rfl hat671.one) ?_; clear ha a; intro a ha; obtain ⟨x675, hc676, hF⟩ := cal_some hF
            refine o_call ha rfl rfl Tryd.call22 (W_spec_l1Into h276 hI674 hc676) ?_; clear ha a; rintro v677 w678 ⟨fp680, h681, pv682, _, hx679⟩ a ha
            have q684 := Nq.rd pv682 q283 hB273.bi
            have q685 := (Pv.call pv682 (pv280) hE284.size : Pv (fa0_0 ++ fa0_1) W.heap.size fp680)
            replace hB273 := hB273.ext hx679
            replace h276 := h276.ext hx679
            have hE686 := Ext.trans hE284 hx679
            refine op_g ha rfl (g_assign rfl) ?_; clear ha a; intro a ha; refine wpList_nil ?_; replace ha := ha.sub (σ' := [(1, (.int .i64 a1)), (2, (.pointer (some ⟨b1, 0, none⟩))), (5, v677), (6, (.int .i64 i281))]) ⟨rfl, rfl, rfl, rfl, trivial⟩; refine e_sq ?_; obtain rfl := Option.some.inj hF
            exact ⟨x675, v677, fp680, ha.sub ⟨rfl, rfl, rfl, rfl, trivial⟩, hE686, hB273, z274, h681, (q685), q684, rfl⟩
          replace hF := if_f hp647 hF; refine wp_skip ?_; refine e_sq ?_; obtain rfl := Option.some.inj hF
          exact ⟨l277, v278, f279, ha.sub ⟨rfl, rfl, rfl, rfl, trivial⟩, hE284, hB273, z274, h276, (pv280), q283, rfl⟩
        rintro a w609 ⟨l614, v615, f616, ha, hE619, hB610, z611, h613, pv617, q618, rfl⟩
        have hF : F_spec_l9Near_k2 a0_1 a1 i281 l614 = some _ := hK608; clear hK608; unfold F_spec_l9Near_k2 at hF
        refine wp_seq ?_; refine wp_region_lit ?_; refine op_g ha rfl (g_field0 st33_1 rfl) ?_; clear ha a; intro a ha; refine op_g ha rfl (g_load Tryd.isAgg22 rfl (hB610.cell rfl)) ?_; clear ha a; intro a ha; refine op_g ha rfl (g_move rfl) ?_; clear ha a; intro a ha; obtain ⟨x687, g688, gx689, hF⟩ := idx_some hF
        obtain ⟨p690, cs691, f692, hf693, hpb694, hat695, hr696, hi697⟩ := ha0_1.at g688 gx689
        obtain ⟨v698, rfl, h699⟩ := hr696
        have h699 : Ro Rp.int W f692 v698 x687 := h699
        have q701 := (Pv.mono (Pv.par (fun _ h => List.mem_append_right _ h)) hf693 : Pv (fa0_0 ++ fa0_1) W.heap.size f692)
        refine op_g ha rfl (hi697.gives sl22 rfl rfl) ?_; clear ha a; intro a ha; refine op_g ha rfl (g_load0 hE619 Tryd.isAgg29 rfl hat695.one) ?_; clear ha a; intro a ha; obtain ⟨x702, g703, gx704, hF⟩ := idx_some hF
        obtain ⟨p705, cs706, f707, hf708, hpb709, hat710, hr711, hi712⟩ := h699.at g703 gx704
        obtain ⟨rfl, hI713, rfl⟩ := hr711
        refine op_g ha rfl (hi712.gives sl29 rfl rfl) ?_; clear ha a; intro a ha; refine op_g ha rfl (g_load0 hE619 Tryd.isAgg2 rfl hat710.one) ?_; clear ha a; intro a ha; refine op_g ha rfl (g_move rfl) ?_; clear ha a; intro a ha; refine op_g ha rfl (g_eql rfl rfl) ?_; clear ha a; intro a ha; refine wpList_nil ?_; replace ha := ha.sub (σ' := [(1, (.int .i64 a1)), (2, (.pointer (some ⟨b1, 0, none⟩))), (5, v615), (6, (.int .i64 i281)), (41, (.bool (decide (x702 = a1))))]) ⟨rfl, rfl, rfl, rfl, rfl, trivial⟩; refine e_then ?_; refine c_cond (x702 = a1) ha rfl (decide_eq_true_iff) (fun hp714 => ?_) (fun hp714 => ?_)
        · replace hF := if_t hp714 hF
          refine wp_region_lit ?_; refine op_g ha rfl (g_move rfl) ?_; clear ha a; intro a ha; refine op_g ha rfl (g_field0 st33_1 rfl) ?_; clear ha a; intro a ha; refine op_g ha rfl (g_load Tryd.isAgg22 rfl (hB610.cell rfl)) ?_; clear ha a; intro a ha; refine op_g ha rfl (g_move rfl) ?_; clear ha a; intro a ha; obtain ⟨x715, g716, gx717, hF⟩ := idx_some hF
          obtain ⟨p718, cs719, f720, hf721, hpb722, hat723, hr724, hi725⟩ := ha0_1.at g716 gx717
          obtain ⟨v726, rfl, h727⟩ := hr724
          have h727 : Ro Rp.int W f720 v726 x715 := h727
          have q729 := (Pv.mono (Pv.par (fun _ h => List.mem_append_right _ h)) hf721 : Pv (fa0_0 ++ fa0_1) W.heap.size f720)
          refine op_g ha rfl (hi725.gives sl22 rfl rfl) ?_; clear ha a; intro a ha; refine op_g ha rfl (g_load0 hE619 Tryd.isAgg29 rfl hat723.one) ?_; clear ha a; intro a ha; obtain ⟨x730, g731, gx732, hF⟩ := idx_some hF
          obtain ⟨p733, cs734, f735, hf736, hpb737, hat738, hr739, hi740⟩ := h727.at g731 gx732
          obtain ⟨rfl, hI741, rfl⟩ := hr739
          refine op_g ha rfl (hi740.gives sl29 rfl rfl) ?_; clear ha a; intro a ha; refine op_g ha rfl (g_load0 hE619 Tryd.isAgg2 rfl hat738.one) ?_; clear ha a; intro a ha; obtain ⟨x742, hc743, hF⟩ := cal_some hF
          refine o_call ha rfl rfl Tryd.call22 (W_spec_l1Into h613 hI741 hc743) ?_; clear ha a; rintro v744 w745 ⟨fp747, h748, pv749, _, hx746⟩ a ha
          have q751 := Nq.rd pv749 q618 hB610.bi
          have q752 := (Pv.call pv749 (pv617) hE619.size : Pv (fa0_0 ++ fa0_1) W.heap.size fp747)
          replace hB610 := hB610.ext hx746
          replace h613 := h613.ext hx746
          have hE753 := Ext.trans hE619 hx746
          refine op_g ha rfl (g_assign rfl) ?_; clear ha a; intro a ha; refine wpList_nil ?_; replace ha := ha.sub (σ' := [(1, (.int .i64 a1)), (2, (.pointer (some ⟨b1, 0, none⟩))), (5, v744), (6, (.int .i64 i281))]) ⟨rfl, rfl, rfl, rfl, trivial⟩; refine e_blk ?_; refine e_then ?_; refine wp_region_lit ?_; refine op_g ha rfl (g_move rfl) ?_; clear ha a; intro a ha; obtain ⟨hI754, hF⟩ := ck_some hF; refine op_g ha rfl (g_add rfl rfl hI754) ?_; clear ha a; intro a ha; refine op_g ha rfl (g_assign rfl) ?_; clear ha a; intro a ha; refine wpList_nil ?_; replace ha := ha.sub (σ' := [(1, (.int .i64 a1)), (2, (.pointer (some ⟨b1, 0, none⟩))), (5, v744), (6, (.int .i64 (i281 + 1)))]) ⟨rfl, rfl, rfl, rfl, trivial⟩
          refine e_lq ?_; obtain rfl := Option.some.inj hF
          exact ⟨_, Nat.lt_succ_self _, x742, i281 + 1, v744, fp747, ha.sub ⟨rfl, rfl, rfl, rfl, trivial⟩, hE753, hI754, hB610, z611, h748, (q752), q751, hN535⟩
        replace hF := if_f hp714 hF; refine wp_skip ?_; refine e_blk ?_; refine e_then ?_; refine wp_region_lit ?_; refine op_g ha rfl (g_move rfl) ?_; clear ha a; intro a ha; obtain ⟨hI756, hF⟩ := ck_some hF; refine op_g ha rfl (g_add rfl rfl hI756) ?_; clear ha a; intro a ha; refine op_g ha rfl (g_assign rfl) ?_; clear ha a; intro a ha; refine wpList_nil ?_; replace ha := ha.sub (σ' := [(1, (.int .i64 a1)), (2, (.pointer (some ⟨b1, 0, none⟩))), (5, v615), (6, (.int .i64 (i281 + 1)))]) ⟨rfl, rfl, rfl, rfl, trivial⟩; refine e_lq ?_; obtain rfl := Option.some.inj hF
        exact ⟨_, Nat.lt_succ_self _, l614, i281 + 1, v615, f616, ha.sub ⟨rfl, rfl, rfl, rfl, trivial⟩, hE619, hI756, hB610, z611, h613, (pv617), q618, hN535⟩
      replace hF := if_f hp538 hF; refine wp_exit ?_; refine e_then_exit ?_; refine e_lq_eq ?_; obtain rfl := Option.some.inj hF
      exact ⟨l277, v278, f279, ha.sub ⟨rfl, trivial⟩, hE284, h276, (pv280), (LK_inr hN535).symm⟩
  rintro a w517 ⟨l520, v521, f522, ha, hE534, h519, pv523, rfl⟩
  have hF : F_spec_l9Near_k3 l520 = some _ := hK526; clear hK526; unfold F_spec_l9Near_k3 at hF
  refine e_then ?_; refine wp_seq ?_; refine wp_region_lit ?_; refine op_g ha rfl (g_move rfl) ?_; clear ha a; intro a ha; refine op_g ha rfl (g_assign rfl) ?_; clear ha a; intro a ha; refine wpList_nil ?_; replace ha := ha.sub (σ' := [(4, v521)]) ⟨rfl, trivial⟩; refine e_then ?_; refine wp_ret ?_; obtain rfl := Option.some.inj hF
  exact f_ret1 ha rfl rfl ⟨_, h519, (pv523), hE534⟩
set_option maxHeartbeats 2000000 in
theorem W_spec_l9Reached {W : World} {va0_0 : Value} {fa0_0 : List Nat} {a0_0 : (List (List Int))} (ha0_0 : Ro (Rp.sl 2 Rp.int) W fa0_0 va0_0 a0_0) {va0_1 : Value} {fa0_1 : List Nat} {a0_1 : (List (List Int))} (ha0_1 : Ro (Rp.sl 2 Rp.int) W fa0_1 va0_1 a0_1) {va1 : Value} {fa1 : List Nat} {a1 : (List Int)} (ha1 : Ro Rp.int W fa1 va1 a1) {r : Int} (hF : F_spec_l9Reached a0_0 a0_1 a1 = some r) :
    Calls Tryd.prog 44 [.agg #[va0_0, va0_1], va1].toArray W (Ret fun u w' => (u = .int .i64 r ∧ InI r) ∧ Ext W w') := by
  refine f_enter Tryd.func44 rfl Tryd.ntmps44 rfl ?_
  intro a ha
  replace ha : Fr 58 [(0, (.agg #[va0_0, va0_1])), (1, va1)] a := ha
  have hE : Chg [] W W := Chg.refl _ _
  unfold F_spec_l9Reached at hF
  refine wp_seq ?_; refine wp_region_lit ?_
  refine o_box ha rfl rfl rfl ?_; clear ha a; intro b1 w2 hB3 hx4 hlo5 a ha
  have q6 := Zn.one hlo5
  have q7 := Zn.upD q6 hE
  have hE8 := Ext.trans hE hx4
  refine op_g ha rfl (g_assign rfl) ?_; clear ha a; intro a ha; refine wpList_nil ?_; replace ha := ha.sub (σ' := [(1, va1), (2, (.pointer (some ⟨b1, 0, none⟩)))]) ⟨rfl, rfl, trivial⟩; refine e_then ?_; refine wp_seq ?_; refine wp_seq ?_; refine wp_region_lit ?_; refine op_g ha rfl (g_move rfl) ?_; clear ha a; intro a ha; refine op_g ha rfl (g_lenR sl29.und ha1 rfl) ?_; clear ha a; intro a ha; refine op_g ha rfl (g_eql rfl rfl) ?_; clear ha a; intro a ha; refine wpList_nil ?_; replace ha := ha.sub (σ' := [(1, va1), (2, (.pointer (some ⟨b1, 0, none⟩))), (11, (.bool (decide ((a1.length : Int) = 0))))]) ⟨rfl, rfl, rfl, trivial⟩
  refine e_then ?_; refine c_cond ((a1.length : Int) = 0) ha rfl (decide_eq_true_iff) (fun hp9 => ?_) (fun hp9 => ?_)
  · replace hF := if_t hp9 hF
    refine wp_seq ?_; refine wp_region_lit ?_; refine op_g ha rfl (g_assign rfl) ?_; clear ha a; intro a ha; refine wpList_nil ?_; replace ha := ha.sub (σ' := [(4, (.int .i64 0))]) ⟨rfl, trivial⟩; refine e_then ?_; refine wp_ret ?_; refine e_then_ret ?_; obtain rfl := Option.some.inj hF
    exact f_ret1 ha rfl rfl ⟨⟨rfl, (show InI 0 from by decide)⟩, hE8⟩
  replace hF := if_f hp9 hF; refine wp_skip ?_; refine e_then ?_; refine wp_seq ?_; refine wp_region_lit ?_; refine op_g ha rfl (g_move rfl) ?_; clear ha a; intro a ha; obtain ⟨x10, g11, gx12, hF⟩ := idx_some hF
  obtain ⟨p13, cs14, f15, hf16, hpb17, hat18, hr19, hi20⟩ := ha1.at g11 gx12
  obtain ⟨rfl, hI21, rfl⟩ := hr19
  refine op_g ha rfl (hi20.gives sl29 rfl rfl) ?_; clear ha a; intro a ha; refine op_g ha rfl (g_load0 hE8 Tryd.isAgg2 rfl hat18.one) ?_; clear ha a; intro a ha
  refine o_lit1 (o := true) (y := x10) Rp.int ha rfl sl29 rfl rfl rfl ⟨rfl, hI21, rfl⟩ ?_; clear ha a; intro v22 w23 h24 hx25 a ha
  obtain ⟨b27, hb27⟩ : ∃ b : Int, b = w2.heap.size := ⟨_, rfl⟩; rw [← hb27] at h24
  have q28 := zn_of hb27
  have q29 := Nq.new hB3.fpb q28
  have q30 := Nq.madeO q28 hB3.bi
  have q31 := Zn.upD q28 hE8
  replace hB3 := hB3.ext hx25
  have hE32 := Ext.trans hE8 hx25
  refine op_g ha rfl (g_assign rfl) ?_; clear ha a; intro a ha; refine wpList_nil ?_; replace ha := ha.sub (σ' := [(1, va1), (2, (.pointer (some ⟨b1, 0, none⟩))), (5, v22)]) ⟨rfl, rfl, rfl, trivial⟩; refine e_then ?_; refine wp_seq ?_; refine wp_seq ?_; refine wp_region_lit ?_; refine op_g ha rfl (g_assign rfl) ?_; clear ha a; intro a ha; refine wpList_nil ?_; replace ha := ha.sub (σ' := [(1, va1), (2, (.pointer (some ⟨b1, 0, none⟩))), (5, v22), (6, (.int .i64 0))]) ⟨rfl, rfl, rfl, rfl, trivial⟩; refine e_then ?_; obtain ⟨o859, ho860, hK861⟩ := bnd_some hF
  obtain ⟨n862, hn863⟩ := lp_some ho860; clear ho860
  refine c_loop (fun a w => ∃ (l856 : (List Int)) (v857 : Value) (b858 : Int), Fr 58 [(5, v857)] a ∧ Chg [] W w ∧ Ow Rp.int 2 true w [] b858 v857 l856 ∧ Zn W b858 ∧ o859 = .inl l856) (fun n a w => ∃ (l446 : (List Int)) (i449 : Int) (v447 : Value) (b448 : Int), Fr 58 [(1, va1), (2, (.pointer (some ⟨b1, 0, none⟩))), (5, v447), (6, (.int .i64 i449))] a ∧ Chg [] W w ∧ InI i449 ∧ Bx w b1 [va0_0, va0_1] 33 ∧ Zn W (b1 : Int) ∧ Ow Rp.int 2 true w [] b448 v447 l446 ∧ Zn W b448 ∧ Nq ([b1]) b448 ∧ Nq (bl b448 ++ []) (b1 : Int) ∧ lpN (fun s => F_spec_l9Reached_l1 a0_0 a0_1 a1 s.1 s.2) n (l446, i449) = some o859) n862 ⟨[x10], 0, v22, b27, ha.sub ⟨rfl, rfl, rfl, rfl, trivial⟩, hE32, (show InI 0 from by decide), hB3, q7, h24, q31, q29, q30, hn863⟩ ?_ ?_
  · rintro m867 a w440 ⟨l446, i449, v447, b448, ha, hE453, hI450, hB441, z442, h444, z445, q451, q452, hF⟩
    cases m867 with
    | zero => exact (lpN_zero hF).elim
    | succ m867 =>
      obtain ⟨z866, hF, hN865⟩ := lpN_succ hF
      have hF : F_spec_l9Reached_l1 a0_0 a0_1 a1 l446 i449 = some z866 := hF; unfold F_spec_l9Reached_l1 at hF
      refine wp_seq ?_; refine wp_seq ?_; refine wp_region_lit ?_; (iterate 2 refine op_g ha rfl (g_move rfl) ?_; clear ha a; intro a ha); refine op_g ha rfl (g_lenO sl29.und h444 rfl) ?_; clear ha a; intro a ha; refine op_g ha rfl (g_lss rfl rfl) ?_; clear ha a; intro a ha; refine wpList_nil ?_; replace ha := ha.sub (σ' := [(1, va1), (2, (.pointer (some ⟨b1, 0, none⟩))), (5, v447), (6, (.int .i64 i449)), (19, (.bool (decide (i449 < (l446.length : Int)))))]) ⟨rfl, rfl, rfl, rfl, rfl, trivial⟩; refine e_then ?_; refine c_cond (i449 < (l446.length : Int)) ha rfl (decide_eq_true_iff) (fun hp868 => ?_) (fun hp868 => ?_)
      · replace hF := if_t hp868 hF
        refine wp_skip ?_; refine e_then ?_; refine wp_seq ?_; refine wp_block ?_; refine wp_seq ?_; refine d_region [0, 1, 2, 3, 4, 5, 6] hmix ?_; refine u_g 0 rfl (by kernel_rfl) (want0 _) ha rfl (g_loadA (cs := [va0_0, va0_1]) Tryd.isAgg33 Tryd.sizeOf33 rfl (by simp) hB441.all) ?_; clear ha a; intro a ha; refine u_g 1 rfl (by kernel_rfl) (want0 _) ha rfl (g_move rfl) ?_; clear ha a; intro a ha; refine u_g 2 rfl (by kernel_rfl) (want0 _) ha rfl (g_move rfl) ?_; clear ha a; intro a ha; obtain ⟨x869, g870, gx871, hF⟩ := idx_some hF
        obtain ⟨p872, cs873, f874, hf875, hpb876, hat877, hr878, hi879⟩ := h444.at g870 gx871
        obtain ⟨rfl, hI880, rfl⟩ := hr878
        refine u_g 3 rfl (by kernel_rfl) (want0 _) ha rfl (hi879.gives sl29 rfl rfl) ?_; clear ha a; intro a ha; refine u_g 4 rfl (by kernel_rfl) (want0 _) ha rfl (g_load Tryd.isAgg2 rfl hat877.one) ?_; clear ha a; intro a ha
        refine u_only 5 rfl (by kernel_rfl) ?_; intro w881 hx882
        replace hB441 := hB441.ext hx882
        replace h444 := h444.ext hx882
        have hE883 := Ext.trans hE453 hx882
        obtain ⟨x884, hc885, hF⟩ := cal_some hF
        refine o_call ha rfl rfl Tryd.call64 (W_spec_l9Near (ha0_0.ext hE883) (ha0_1.ext hE883) hI880 hc885) ?_; clear ha a; rintro v886 w887 ⟨fp889, h890, pv891, hx888⟩ a ha
        have q893 := Nq.rd pv891 (Nq.append (Nq.new ha0_0.bnd z442) (Nq.new ha0_1.bnd z442)) hB441.bi
        have q894 := Nq.rd pv891 (Nq.append (Nq.new ha0_0.bnd z445) (Nq.new ha0_1.bnd z445)) h444.blt
        replace hB441 := hB441.ext hx888
        replace h444 := h444.ext hx888
        have hE895 := Ext.trans hE883 hx888
        refine wpList_nil (e_sq ?_)
        refine ⟨fun _ => hx888, ?_⟩
        refine u_g 6 rfl (by kernel_rfl) (want0 _) ha rfl (g_assign rfl) ?_; clear ha a; intro a ha
        refine u_done (by kernel_rfl) ?_; intro w896 hx897
        replace hB441 := hB441.ext hx897
        replace h444 := h444.ext hx897
        replace h890 := h890.ext hx897
        have hE898 := Ext.trans hE895 hx897
        replace ha := ha.sub (σ' := [(1, va1), (2, (.pointer (some ⟨b1, 0, none⟩))), (5, v447), (6, (.int .i64 i449)), (7, v886)]) ⟨rfl, rfl, rfl, rfl, rfl, trivial⟩; refine e_then ?_; refine wp_seq ?_; refine wp_region_lit ?_; refine op_g ha rfl (g_assign rfl) ?_; clear ha a; intro a ha; refine wpList_nil ?_; replace ha := ha.sub (σ' := [(1, va1), (2, (.pointer (some ⟨b1, 0, none⟩))), (5, v447), (6, (.int .i64 i449)), (7, v886), (8, (.int .i64 0))]) ⟨rfl, rfl, rfl, rfl, rfl, rfl, trivial⟩; refine e_then ?_; obtain ⟨o1153, ho1154, hK1155⟩ := bnd_some hF
        obtain ⟨n1156, hn1157⟩ := lp_some ho1154; clear ho1154
        refine c_loop (fun a w => ∃ (l1148 : (List Int)) (v1149 : Value) (b1150 : Int), Fr 58 [(1, va1), (2, (.pointer (some ⟨b1, 0, none⟩))), (5, v1149), (6, (.int .i64 i449))] a ∧ Chg [] W w ∧ Bx w b1 [va0_0, va0_1] 33 ∧ Zn W (b1 : Int) ∧ Ow Rp.int 2 true w [] b1150 v1149 l1148 ∧ Zn W b1150 ∧ Nq ([b1]) b1150 ∧ Nq (bl b1150 ++ []) (b1 : Int) ∧ o1153 = .inl l1148) (fun n a w => ∃ (l1024 : (List Int)) (i1029 : Int) (v1025 : Value) (b1026 : Int), Fr 58 [(1, va1), (2, (.pointer (some ⟨b1, 0, none⟩))), (5, v1025), (6, (.int .i64 i449)), (7, v886), (8, (.int .i64 i1029))] a ∧ Chg [] W w ∧ InI i1029 ∧ Bx w b1 [va0_0, va0_1] 33 ∧ Zn W (b1 : Int) ∧ Ow Rp.int 2 true w [] b1026 v1025 l1024 ∧ Zn W b1026 ∧ Ro Rp.int w fp889 v886 x884 ∧ Nq ([b1]) b1026 ∧ Nq (bl b1026 ++ []) (b1 : Int) ∧ Nq (fp889) (b1 : Int) ∧ Nq (fp889) b1026 ∧ lpN (fun s => F_spec_l9Reached_l2 a1 x884 s.1 s.2) n (l1024, i1029) = some o1153) n1156 ⟨l446, 0, v447, b448, ha.sub ⟨rfl, rfl, rfl, rfl, rfl, rfl, trivial⟩, hE898, (show InI 0 from by decide), hB441, z442, h444, z445, h890, q451, q452, q893, q894, hn1157⟩ ?_ ?_
        · rintro m1161 a w1018 ⟨l1024, i1029, v1025, b1026, ha, hE1035, hI1030, hB1019, z1020, h1022, z1023, h1028, q1031, q1032, q1033, q1034, hF⟩
          cases m1161 with
          | zero => exact (lpN_zero hF).elim
          | succ m1161 =>
            obtain ⟨z1160, hF, hN1159⟩ := lpN_succ hF
            have hF : F_spec_l9Reached_l2 a1 x884 l1024 i1029 = some z1160 := hF; unfold F_spec_l9Reached_l2 at hF
            refine wp_seq ?_; refine wp_seq ?_; refine wp_region_lit ?_; (iterate 2 refine op_g ha rfl (g_move rfl) ?_; clear ha a; intro a ha); refine op_g ha rfl (g_lenR sl29.und h1028 rfl) ?_; clear ha a; intro a ha; refine op_g ha rfl (g_lss rfl rfl) ?_; clear ha a; intro a ha; refine wpList_nil ?_; replace ha := ha.sub (σ' := [(1, va1), (2, (.pointer (some ⟨b1, 0, none⟩))), (5, v1025), (6, (.int .i64 i449)), (7, v886), (8, (.int .i64 i1029)), (31, (.bool (decide (i1029 < (x884.length : Int)))))]) ⟨rfl, rfl, rfl, rfl, rfl, rfl, rfl, trivial⟩; refine e_then ?_; refine c_cond (i1029 < (x884.length : Int)) ha rfl (decide_eq_true_iff) (fun hp1162 => ?_) (fun hp1162 => ?_)
            · replace hF := if_t hp1162 hF
              refine wp_skip ?_; refine e_then ?_; refine wp_seq ?_; refine wp_block ?_; refine wp_seq ?_; refine wp_region_lit ?_; (iterate 3 refine op_g ha rfl (g_move rfl) ?_; clear ha a; intro a ha); obtain ⟨x1163, g1164, gx1165, hF⟩ := idx_some hF
              obtain ⟨p1166, cs1167, f1168, hf1169, hpb1170, hat1171, hr1172, hi1173⟩ := h1028.at g1164 gx1165
              obtain ⟨rfl, hI1174, rfl⟩ := hr1172
              refine op_g ha rfl (hi1173.gives sl29 rfl rfl) ?_; clear ha a; intro a ha; refine op_g ha rfl (g_load Tryd.isAgg2 rfl hat1171.one) ?_; clear ha a; intro a ha; obtain ⟨x1175, hc1176, hF⟩ := cal_some hF
              refine o_call ha rfl rfl Tryd.call61 (W_spec_l1Has (ha1.ext hE1035) hI1174 hc1176) ?_; clear ha a; rintro v1177 w1178 ⟨rfl, hx1179⟩ a ha
              replace hB1019 := hB1019.ext hx1179
              replace h1022 := h1022.ext hx1179
              replace h1028 := h1028.ext hx1179
              have hE1180 := Ext.trans hE1035 hx1179
              refine op_g ha rfl (g_move rfl) ?_; clear ha a; intro a ha
              by_cases hp1181 : x1175 = true
              · replace hF := if_t hp1181 hF
                rw [show (x1175) = true from (Iff.rfl).2 hp1181] at ha
                refine op_want (yields ha rfl rfl) ?_; refine op_g ha rfl (g_move rfl) ?_; clear ha a; intro a ha; refine op_want (yields ha rfl rfl) ?_; refine op_g ha rfl (g_move rfl) ?_; clear ha a; intro a ha; refine op_want (yields ha rfl rfl) ?_; refine op_g ha rfl (g_move rfl) ?_; clear ha a; intro a ha; refine op_want (yields ha rfl rfl) ?_; obtain ⟨x1182, g1183, gx1184, hF⟩ := idx_some hF
                obtain ⟨p1185, cs1186, f1187, hf1188, hpb1189, hat1190, hr1191, hi1192⟩ := h1028.at g1183 gx1184
                obtain ⟨rfl, hI1193, rfl⟩ := hr1191
                refine op_g ha rfl (hi1192.gives sl29 rfl rfl) ?_; clear ha a; intro a ha; refine op_want (yields ha rfl rfl) ?_; refine op_g ha rfl (g_load Tryd.isAgg2 rfl hat1190.one) ?_; clear ha a; intro a ha; refine op_want (yields ha rfl rfl) ?_
                obtain ⟨fp1194, hro1195, hs1196⟩ := h1022.roF
                obtain ⟨x1197, hc1198, hF⟩ := cal_some hF
                refine o_call ha rfl rfl Tryd.call61 (W_spec_l1Has hro1195 hI1193 hc1198) ?_; clear ha a; rintro v1199 w1200 ⟨rfl, hx1201⟩ a ha
                replace hB1019 := hB1019.ext hx1201
                replace h1022 := h1022.ext hx1201
                replace h1028 := h1028.ext hx1201
                have hE1202 := Ext.trans hE1180 hx1201
                refine op_want (yields ha rfl rfl) ?_; refine op_g ha rfl (g_not rfl) ?_; clear ha a; intro a ha; refine op_g ha rfl (g_pick rfl rfl) ?_; clear ha a; intro a ha; refine wpList_nil ?_; replace ha := ha.sub (σ' := [(1, va1), (2, (.pointer (some ⟨b1, 0, none⟩))), (5, v1025), (6, (.int .i64 i449)), (7, v886), (8, (.int .i64 i1029)), (41, v1025), (42, v886), (43, (.int .i64 i1029)), (44, (.pointer (some p1185))), (45, (.int .i64 x1182)), (46, (.bool x1197)), (47, (.bool (!x1197))), (48, (.bool (!x1197)))]) ⟨rfl, rfl, rfl, rfl, rfl, rfl, rfl, rfl, rfl, rfl, rfl, rfl, rfl, rfl, trivial⟩
                refine e_then ?_; refine c_cond (¬ (x1197 = true)) ha rfl (n_iff (Iff.rfl)) (fun hp1203 => ?_) (fun hp1203 => ?_)
                · replace hF := if_t hp1203 hF
                  refine wp_region_lit ?_; (iterate 3 refine op_g ha rfl (g_move rfl) ?_; clear ha a; intro a ha); obtain ⟨x1204, g1205, gx1206, hF⟩ := idx_some hF
                  obtain ⟨p1207, cs1208, f1209, hf1210, hpb1211, hat1212, hr1213, hi1214⟩ := h1028.at g1205 gx1206
                  obtain ⟨rfl, hI1215, rfl⟩ := hr1213
                  refine op_g ha rfl (hi1214.gives sl29 rfl rfl) ?_; clear ha a; intro a ha; refine op_g ha rfl (g_load Tryd.isAgg2 rfl hat1212.one) ?_; clear ha a; intro a ha
                  refine o_lit1 (o := true) (y := x1204) Rp.int ha rfl sl29 rfl rfl rfl ⟨rfl, hI1215, rfl⟩ ?_; clear ha a; intro v1216 w1217 h1218 hx1219 a ha
                  obtain ⟨b1221, hb1221⟩ : ∃ b : Int, b = w1200.heap.size := ⟨_, rfl⟩; rw [← hb1221] at h1218
                  have q1222 := zn_of hb1221
                  have q1223 := Nq.new hB1019.fpb q1222
                  have q1224 := Nq.madeO q1222 hB1019.bi
                  have q1225 := Nq.new h1022.fpb q1222
                  have q1226 := Nq.madeO q1222 h1022.blt
                  have q1227 := Nq.new h1028.bnd q1222
                  have q1228 := Zn.upD q1222 hE1202
                  replace hB1019 := hB1019.ext hx1219
                  replace h1022 := h1022.ext hx1219
                  replace h1028 := h1028.ext hx1219
                  have hE1229 := Ext.trans hE1202 hx1219
                  obtain ⟨hl1230, hF⟩ := app_some hF
                  refine o_append ha rfl sl29 rfl rfl rfl h1022 h1218.src (Nq.nil _) hl1230 ?_; clear ha a; intro v1231 w1232 b1233 h1234 hc1235 hb1236 a ha
                  replace h1234 : Ow Rp.int 2 true w1232 [] b1233 v1231 _ := h1234
                  have q1238 := Nq.appY q1031 hB1019.fpb hb1236
                  have q1239 := Nq.appX q1032 (Nq.nil _) hb1236 hB1019.bi
                  have q1240 := Nq.appY q1034 h1028.bnd hb1236
                  have q1241 := Nq.appY q1226 h1218.fpb hb1236
                  have q1242 := Nq.appX q1225 (Nq.nil _) hb1236 h1218.blt
                  have q1243 := Zn.appD z1023 hb1236 hE1229
                  replace hB1019 := hB1019.nq hc1235 q1031
                  replace h1028 := h1028.nq hc1235 q1034
                  replace h1218 := h1218.nq hc1235 q1226
                  have hE1244 := Ext.then hE1229 hc1235 (Zn.bl z1023)
                  refine op_g ha rfl (g_assign rfl) ?_; clear ha a; intro a ha; refine wpList_nil ?_; replace ha := ha.sub (σ' := [(1, va1), (2, (.pointer (some ⟨b1, 0, none⟩))), (5, v1231), (6, (.int .i64 i449)), (7, v886), (8, (.int .i64 i1029)), (41, v1025), (42, v886), (43, (.int .i64 i1029)), (44, (.pointer (some p1185))), (45, (.int .i64 x1182)), (46, (.bool x1197)), (47, (.bool (!x1197)))]) ⟨rfl, rfl, rfl, rfl, rfl, rfl, rfl, rfl, rfl, rfl, rfl, rfl, rfl, trivial⟩; refine e_blk ?_; refine e_then ?_; refine wp_region_lit ?_; refine op_g ha rfl (g_move rfl) ?_; clear ha a; intro a ha; obtain ⟨hI1245, hF⟩ := ck_some hF
                  refine op_g ha rfl (g_add rfl rfl hI1245) ?_; clear ha a; intro a ha; refine op_g ha rfl (g_assign rfl) ?_; clear ha a; intro a ha; refine wpList_nil ?_; replace ha := ha.sub (σ' := [(1, va1), (2, (.pointer (some ⟨b1, 0, none⟩))), (5, v1231), (6, (.int .i64 i449)), (7, v886), (8, (.int .i64 (i1029 + 1))), (41, v1025), (42, v886), (43, (.int .i64 i1029)), (44, (.pointer (some p1185))), (45, (.int .i64 x1182)), (46, (.bool x1197)), (47, (.bool (!x1197)))]) ⟨rfl, rfl, rfl, rfl, rfl, rfl, rfl, rfl, rfl, rfl, rfl, rfl, rfl, trivial⟩; refine e_lq ?_; obtain rfl := Option.some.inj hF
                  exact ⟨_, Nat.lt_succ_self _, (l1024 ++ ([x1204])), i1029 + 1, v1231, b1233, ha.sub ⟨rfl, rfl, rfl, rfl, rfl, rfl, trivial⟩, hE1244, hI1245, hB1019, z1020, h1234, q1243, h1028, q1238, q1239, q1033, q1240, hN1159⟩
                replace hF := if_f hp1203 hF; refine wp_skip ?_; refine e_blk ?_; refine e_then ?_; refine wp_region_lit ?_; refine op_g ha rfl (g_move rfl) ?_; clear ha a; intro a ha; obtain ⟨hI1247, hF⟩ := ck_some hF; refine op_g ha rfl (g_add rfl rfl hI1247) ?_; clear ha a; intro a ha; refine op_g ha rfl (g_assign rfl) ?_; clear ha a; intro a ha; refine wpList_nil ?_; replace ha := ha.sub (σ' := [(1, va1), (2, (.pointer (some ⟨b1, 0, none⟩))), (5, v1025), (6, (.int .i64 i449)), (7, v886), (8, (.int .i64 (i1029 + 1))), (41, v1025), (42, v886), (43, (.int .i64 i1029)), (44, (.pointer (some p1185))), (45, (.int .i64 x1182)), (46, (.bool x1197)), (47, (.bool (!x1197)))]) ⟨rfl, rfl, rfl, rfl, rfl, rfl, rfl, rfl, rfl, rfl, rfl, rfl, rfl, trivial⟩
                refine e_lq ?_; obtain rfl := Option.some.inj hF
                exact ⟨_, Nat.lt_succ_self _, l1024, i1029 + 1, v1025, b1026, ha.sub ⟨rfl, rfl, rfl, rfl, rfl, rfl, trivial⟩, hE1202, hI1247, hB1019, z1020, h1022, z1023, h1028, q1031, q1032, q1033, q1034, hN1159⟩
              replace hF := if_f hp1181 hF
              rw [show (x1175) = false from b_false (Iff.rfl) hp1181] at ha
              (iterate 7 refine op_unwant ha rfl (yields ha rfl rfl) rfl ?_; clear ha a; intro a ha); refine op_g ha rfl (g_pick rfl rfl) ?_; clear ha a; intro a ha; refine wpList_nil ?_; replace ha := ha.sub (σ' := [(1, va1), (2, (.pointer (some ⟨b1, 0, none⟩))), (5, v1025), (6, (.int .i64 i449)), (7, v886), (8, (.int .i64 i1029)), (48, (.bool false))]) ⟨rfl, rfl, rfl, rfl, rfl, rfl, rfl, trivial⟩; refine e_then ?_; refine c_false ha rfl ?_; refine wp_skip ?_; refine e_blk ?_; refine e_then ?_; refine wp_region_lit ?_; refine op_g ha rfl (g_move rfl) ?_; clear ha a; intro a ha; obtain ⟨hI1249, hF⟩ := ck_some hF
              refine op_g ha rfl (g_add rfl rfl hI1249) ?_; clear ha a; intro a ha; refine op_g ha rfl (g_assign rfl) ?_; clear ha a; intro a ha; refine wpList_nil ?_; replace ha := ha.sub (σ' := [(1, va1), (2, (.pointer (some ⟨b1, 0, none⟩))), (5, v1025), (6, (.int .i64 i449)), (7, v886), (8, (.int .i64 (i1029 + 1)))]) ⟨rfl, rfl, rfl, rfl, rfl, rfl, trivial⟩; refine e_lq ?_; obtain rfl := Option.some.inj hF
              exact ⟨_, Nat.lt_succ_self _, l1024, i1029 + 1, v1025, b1026, ha.sub ⟨rfl, rfl, rfl, rfl, rfl, rfl, trivial⟩, hE1180, hI1249, hB1019, z1020, h1022, z1023, h1028, q1031, q1032, q1033, q1034, hN1159⟩
            replace hF := if_f hp1162 hF; refine wp_exit ?_; refine e_then_exit ?_; refine e_lq_eq ?_; obtain rfl := Option.some.inj hF
            exact ⟨l1024, v1025, b1026, ha.sub ⟨rfl, rfl, rfl, rfl, trivial⟩, hE1035, hB1019, z1020, h1022, z1023, q1031, q1032, (LK_inr hN1159).symm⟩
        rintro a w1142 ⟨l1148, v1149, b1150, ha, hE1158, hB1143, z1144, h1146, z1147, q1151, q1152, rfl⟩
        have hF : F_spec_l9Reached_k3 i449 l1148 = some _ := hK1155; clear hK1155; unfold F_spec_l9Reached_k3 at hF
        refine e_blk ?_; refine e_then ?_; refine wp_region_lit ?_; refine op_g ha rfl (g_move rfl) ?_; clear ha a; intro a ha; obtain ⟨hI1251, hF⟩ := ck_some hF; refine op_g ha rfl (g_add rfl rfl hI1251) ?_; clear ha a; intro a ha; refine op_g ha rfl (g_assign rfl) ?_; clear ha a; intro a ha; refine wpList_nil ?_; replace ha := ha.sub (σ' := [(1, va1), (2, (.pointer (some ⟨b1, 0, none⟩))), (5, v1149), (6, (.int .i64 (i449 + 1)))]) ⟨rfl, rfl, rfl, rfl, trivial⟩; refine e_lq ?_; obtain rfl := Option.some.inj hF
        exact ⟨_, Nat.lt_succ_self _, l1148, i449 + 1, v1149, b1150, ha.sub ⟨rfl, rfl, rfl, rfl, trivial⟩, hE1158, hI1251, hB1143, z1144, h1146, z1147, q1151, q1152, hN865⟩
      replace hF := if_f hp868 hF; refine wp_exit ?_; refine e_then_exit ?_; refine e_lq_eq ?_; obtain rfl := Option.some.inj hF
      exact ⟨l446, v447, b448, ha.sub ⟨rfl, trivial⟩, hE453, h444, z445, (LK_inr hN865).symm⟩
  rintro a w852 ⟨l856, v857, b858, ha, hE864, h854, z855, rfl⟩
  have hF : F_spec_l9Reached_k4 l856 = some _ := hK861; clear hK861; unfold F_spec_l9Reached_k4 at hF
  refine e_then ?_; refine wp_seq ?_; refine wp_region_lit ?_; refine op_g ha rfl (g_move rfl) ?_; clear ha a; intro a ha; refine op_g ha rfl (g_lenO sl29.und h854 rfl) ?_; clear ha a; intro a ha; refine op_g ha rfl (g_assign rfl) ?_; clear ha a; intro a ha; refine wpList_nil ?_; replace ha := ha.sub (σ' := [(4, (.int .i64 (l856.length : Int)))]) ⟨rfl, trivial⟩; refine e_then ?_; refine wp_ret ?_; obtain rfl := Option.some.inj hF
  exact f_ret1 ha rfl rfl ⟨⟨rfl, h854.len⟩, hE864⟩
set_option maxHeartbeats 2000000 in
theorem W_spec_l9Tree {W : World} {va0_0 : Value} {fa0_0 : List Nat} {a0_0 : (List (List Int))} (ha0_0 : Ro (Rp.sl 2 Rp.int) W fa0_0 va0_0 a0_0) {va0_1 : Value} {fa0_1 : List Nat} {a0_1 : (List (List Int))} (ha0_1 : Ro (Rp.sl 2 Rp.int) W fa0_1 va0_1 a0_1) {r : Bool} (hF : F_spec_l9Tree a0_0 a0_1 = some r) :
    Calls Tryd.prog 40 [.agg #[va0_0, va0_1]].toArray W (Ret fun u w' => u = .bool r ∧ Ext W w') := by
  refine f_enter Tryd.func40 rfl Tryd.ntmps40 rfl ?_
  intro a ha
  replace ha : Fr 27 [(0, (.agg #[va0_0, va0_1]))] a := ha
  have hE : Chg [] W W := Chg.refl _ _
  unfold F_spec_l9Tree at hF
  refine wp_seq ?_; refine wp_region_lit ?_
  refine o_box ha rfl rfl rfl ?_; clear ha a; intro b1 w2 hB3 hx4 hlo5 a ha
  have q6 := Zn.one hlo5
  have q7 := Zn.upD q6 hE
  have hE8 := Ext.trans hE hx4
  refine op_g ha rfl (g_assign rfl) ?_; clear ha a; intro a ha; refine wpList_nil ?_; replace ha := ha.sub (σ' := [(1, (.pointer (some ⟨b1, 0, none⟩)))]) ⟨rfl, trivial⟩; refine e_then ?_; refine wp_seq ?_; refine d_region [0, 1, 2, 3, 4, 5, 6, 7, 8, 9, 10, 11, 12, 13, 14, 15, 16, 17, 18, 19, 20, 21, 22, 23, 24] hmix ?_; refine u_g 0 rfl (by kernel_rfl) (want0 _) ha rfl (g_loadA (cs := [va0_0, va0_1]) Tryd.isAgg33 Tryd.sizeOf33 rfl (by simp) hB3.all) ?_; clear ha a; intro a ha; obtain ⟨x11, hc12, hF⟩ := cal_some hF; refine u_call (.bool x11) 1 rfl (by kernel_rfl) (want0 _) ha rfl rfl Tryd.call62 (fun w10 hx9 => W_spec_l9Form (ha0_0.ext (Ext.trans hE8 hx9)) (ha0_1.ext (Ext.trans hE8 hx9)) hc12) (fun _ _ _ h => ⟨h.1, h.2⟩) ?_; clear ha a; intro a ha
  refine u_g 2 rfl (by kernel_rfl) (want0 _) ha rfl (g_move rfl) ?_; clear ha a; intro a ha
  by_cases hp13 : x11 = true
  · replace hF := if_t hp13 hF
    rw [show (x11) = true from (Iff.rfl).2 hp13] at ha
    refine u_g 3 rfl (by kernel_rfl) (want1 (yields ha rfl rfl)) ha rfl (g_field0 st33_1 rfl) ?_; clear ha a; intro a ha; refine u_g 4 rfl (by kernel_rfl) (want1 (yields ha rfl rfl)) ha rfl (g_load Tryd.isAgg22 rfl (hB3.cell rfl)) ?_; clear ha a; intro a ha; refine u_g 5 rfl (by kernel_rfl) (want1 (yields ha rfl rfl)) ha rfl (g_lenR sl22.und ha0_1 rfl) ?_; clear ha a; intro a ha; refine u_g 6 rfl (by kernel_rfl) (want1 (yields ha rfl rfl)) ha rfl (g_field0 st33_0 rfl) ?_; clear ha a; intro a ha; refine u_g 7 rfl (by kernel_rfl) (want1 (yields ha rfl rfl)) ha rfl (g_load Tryd.isAgg22 rfl (hB3.cell rfl)) ?_; clear ha a; intro a ha
    refine u_g 8 rfl (by kernel_rfl) (want1 (yields ha rfl rfl)) ha rfl (g_lenR sl22.und ha0_0 rfl) ?_; clear ha a; intro a ha; obtain ⟨hI14, hF⟩ := ck_some hF; refine u_g 9 rfl (by kernel_rfl) (want1 (yields ha rfl rfl)) ha rfl (g_sub rfl rfl hI14) ?_; clear ha a; intro a ha; refine u_g 10 rfl (by kernel_rfl) (want1 (yields ha rfl rfl)) ha rfl (g_eql rfl rfl) ?_; clear ha a; intro a ha; refine u_g 11 rfl (by kernel_rfl) (want0 _) ha rfl (g_pick rfl rfl) ?_; clear ha a; intro a ha; refine u_g 12 rfl (by kernel_rfl) (want0 _) ha rfl (g_move rfl) ?_; clear ha a; intro a ha
    by_cases hp16 : (a0_1.length : Int) = ((a0_0.length : Int) - 1)
    · replace hF := if_t hp16 hF
      rw [show (decide ((a0_1.length : Int) = ((a0_0.length : Int) - 1))) = true from (decide_eq_true_iff).2 hp16] at ha
      refine u_g 13 rfl (by kernel_rfl) (want1 (yields ha rfl rfl)) ha rfl (g_loadA (cs := [va0_0, va0_1]) Tryd.isAgg33 Tryd.sizeOf33 rfl (by simp) hB3.all) ?_; clear ha a; intro a ha; refine u_g 14 rfl (by kernel_rfl) (want1 (yields ha rfl rfl)) ha rfl (g_field0 st33_0 rfl) ?_; clear ha a; intro a ha; refine u_g 15 rfl (by kernel_rfl) (want1 (yields ha rfl rfl)) ha rfl (g_load Tryd.isAgg22 rfl (hB3.cell rfl)) ?_; clear ha a; intro a ha; refine u_g 16 rfl (by kernel_rfl) (want1 (yields ha rfl rfl)) ha rfl (g_lenR sl22.und ha0_0 rfl) ?_; clear ha a; intro a ha; refine u_g 19 rfl (by kernel_rfl) (want1 (yields ha rfl rfl)) ha rfl (g_field0 st33_0 rfl) ?_; clear ha a; intro a ha
      refine u_g 20 rfl (by kernel_rfl) (want1 (yields ha rfl rfl)) ha rfl (g_load Tryd.isAgg22 rfl (hB3.cell rfl)) ?_; clear ha a; intro a ha; refine u_g 21 rfl (by kernel_rfl) (want1 (yields ha rfl rfl)) ha rfl (g_lenR sl22.und ha0_0 rfl) ?_; clear ha a; intro a ha
      refine u_only 17 rfl (by kernel_rfl) ?_; intro w17 hx18
      replace hB3 := hB3.ext hx18
      have hE19 := Ext.trans hE8 hx18
      refine op_want (yields ha rfl rfl) ?_; obtain ⟨x20, hc21, hF⟩ := cal_some hF
      refine o_call ha rfl rfl Tryd.call63 (W_spec_l1All ha0_0.len hc21) ?_; clear ha a; rintro v22 w23 ⟨b25, h26, z27, hx24⟩ a ha
      have q29 := Nq.new hB3.fpb z27
      have q30 := Nq.madeO z27 hB3.bi
      replace hB3 := hB3.ext hx24
      have hE31 := Ext.trans hE19 hx24
      have q32 := Zn.upD z27 hE19
      refine wpList_nil (e_sq ?_)
      refine ⟨fun _ => hx24, ?_⟩
      obtain ⟨fp35, hro36, hs37⟩ := h26.roF
      obtain ⟨x38, hc39, hF⟩ := cal_some hF; refine u_call (.int .i64 x38) 18 rfl (by kernel_rfl) (want1 (yields ha rfl rfl)) ha rfl rfl Tryd.call44 (fun w34 hx33 => W_spec_l9Reached (ha0_0.ext (Ext.trans hE31 hx33)) (ha0_1.ext (Ext.trans hE31 hx33)) (hro36.ext hx33) hc39) (fun _ _ _ h => ⟨h.1.1, h.2⟩) ?_; clear ha a; intro a ha
      have hI40 : InI x38 := calls_fact (w := w23) (W_spec_l9Reached (ha0_0.ext (Ext.trans hE31 (Chg.refl _ _))) (ha0_1.ext (Ext.trans hE31 (Chg.refl _ _))) (hro36.ext (Chg.refl _ _)) hc39) (fun _ _ h => h.1.2)
      refine u_g 22 rfl (by kernel_rfl) (want1 (yields ha rfl rfl)) ha rfl (g_eql rfl rfl) ?_; clear ha a; intro a ha; refine u_g 23 rfl (by kernel_rfl) (want0 _) ha rfl (g_pick rfl rfl) ?_; clear ha a; intro a ha; refine u_g 24 rfl (by kernel_rfl) (want0 _) ha rfl (g_assign rfl) ?_; clear ha a; intro a ha
      refine u_done (by kernel_rfl) ?_; intro w41 hx42
      replace hB3 := hB3.ext hx42
      replace h26 := h26.ext hx42
      have hE43 := Ext.trans hE31 hx42
      replace ha := ha.sub (σ' := [(2, (.bool (decide (x38 = (a0_0.length : Int)))))]) ⟨rfl, trivial⟩; refine e_then ?_; refine wp_ret ?_; obtain rfl := Option.some.inj hF
      exact f_ret1 ha rfl rfl ⟨rfl, hE43⟩
    replace hF := if_f hp16 hF
    rw [show (decide ((a0_1.length : Int) = ((a0_0.length : Int) - 1))) = false from b_false (decide_eq_true_iff) hp16] at ha
    refine u_unwant 13 rfl (by kernel_rfl) (want2 (yields ha rfl rfl) rfl) ha rfl ?_; clear ha a; intro a ha; refine u_unwant 14 rfl (by kernel_rfl) (want2 (yields ha rfl rfl) rfl) ha rfl ?_; clear ha a; intro a ha; refine u_unwant 15 rfl (by kernel_rfl) (want2 (yields ha rfl rfl) rfl) ha rfl ?_; clear ha a; intro a ha; refine u_unwant 16 rfl (by kernel_rfl) (want2 (yields ha rfl rfl) rfl) ha rfl ?_; clear ha a; intro a ha; refine u_unwant 17 rfl (by kernel_rfl) (want2 (yields ha rfl rfl) rfl) ha rfl ?_; clear ha a; intro a ha; refine u_unwant 18 rfl (by kernel_rfl) (want2 (yields ha rfl rfl) rfl) ha rfl ?_; clear ha a; intro a ha
    refine u_unwant 19 rfl (by kernel_rfl) (want2 (yields ha rfl rfl) rfl) ha rfl ?_; clear ha a; intro a ha; refine u_unwant 20 rfl (by kernel_rfl) (want2 (yields ha rfl rfl) rfl) ha rfl ?_; clear ha a; intro a ha; refine u_unwant 21 rfl (by kernel_rfl) (want2 (yields ha rfl rfl) rfl) ha rfl ?_; clear ha a; intro a ha; refine u_unwant 22 rfl (by kernel_rfl) (want2 (yields ha rfl rfl) rfl) ha rfl ?_; clear ha a; intro a ha; refine u_g 23 rfl (by kernel_rfl) (want0 _) ha rfl (g_pick rfl rfl) ?_; clear ha a; intro a ha; refine u_g 24 rfl (by kernel_rfl) (want0 _) ha rfl (g_assign rfl) ?_; clear ha a; intro a ha
    refine u_done (by kernel_rfl) ?_; intro w44 hx45
    replace hB3 := hB3.ext hx45
    have hE46 := Ext.trans hE8 hx45
    replace ha := ha.sub (σ' := [(2, (.bool false))]) ⟨rfl, trivial⟩; refine e_then ?_; refine wp_ret ?_; obtain rfl := Option.some.inj hF
    exact f_ret1 ha rfl rfl ⟨rfl, hE46⟩
  replace hF := if_f hp13 hF
  rw [show (x11) = false from b_false (Iff.rfl) hp13] at ha
  refine u_unwant 3 rfl (by kernel_rfl) (want2 (yields ha rfl rfl) rfl) ha rfl ?_; clear ha a; intro a ha; refine u_unwant 4 rfl (by kernel_rfl) (want2 (yields ha rfl rfl) rfl) ha rfl ?_; clear ha a; intro a ha; refine u_unwant 5 rfl (by kernel_rfl) (want2 (yields ha rfl rfl) rfl) ha rfl ?_; clear ha a; intro a ha; refine u_unwant 6 rfl (by kernel_rfl) (want2 (yields ha rfl rfl) rfl) ha rfl ?_; clear ha a; intro a ha; refine u_unwant 7 rfl (by kernel_rfl) (want2 (yields ha rfl rfl) rfl) ha rfl ?_; clear ha a; intro a ha; refine u_unwant 8 rfl (by kernel_rfl) (want2 (yields ha rfl rfl) rfl) ha rfl ?_; clear ha a; intro a ha
  refine u_unwant 9 rfl (by kernel_rfl) (want2 (yields ha rfl rfl) rfl) ha rfl ?_; clear ha a; intro a ha; refine u_unwant 10 rfl (by kernel_rfl) (want2 (yields ha rfl rfl) rfl) ha rfl ?_; clear ha a; intro a ha; refine u_g 11 rfl (by kernel_rfl) (want0 _) ha rfl (g_pick rfl rfl) ?_; clear ha a; intro a ha; refine u_g 12 rfl (by kernel_rfl) (want0 _) ha rfl (g_move rfl) ?_; clear ha a; intro a ha; refine u_unwant 13 rfl (by kernel_rfl) (want2 (yields ha rfl rfl) rfl) ha rfl ?_; clear ha a; intro a ha; refine u_unwant 14 rfl (by kernel_rfl) (want2 (yields ha rfl rfl) rfl) ha rfl ?_; clear ha a; intro a ha
  refine u_unwant 15 rfl (by kernel_rfl) (want2 (yields ha rfl rfl) rfl) ha rfl ?_; clear ha a; intro a ha; refine u_unwant 16 rfl (by kernel_rfl) (want2 (yields ha rfl rfl) rfl) ha rfl ?_; clear ha a; intro a ha; refine u_unwant 17 rfl (by kernel_rfl) (want2 (yields ha rfl rfl) rfl) ha rfl ?_; clear ha a; intro a ha; refine u_unwant 18 rfl (by kernel_rfl) (want2 (yields ha rfl rfl) rfl) ha rfl ?_; clear ha a; intro a ha; refine u_unwant 19 rfl (by kernel_rfl) (want2 (yields ha rfl rfl) rfl) ha rfl ?_; clear ha a; intro a ha; refine u_unwant 20 rfl (by kernel_rfl) (want2 (yields ha rfl rfl) rfl) ha rfl ?_; clear ha a; intro a ha
  refine u_unwant 21 rfl (by kernel_rfl) (want2 (yields ha rfl rfl) rfl) ha rfl ?_; clear ha a; intro a ha; refine u_unwant 22 rfl (by kernel_rfl) (want2 (yields ha rfl rfl) rfl) ha rfl ?_; clear ha a; intro a ha; refine u_g 23 rfl (by kernel_rfl) (want0 _) ha rfl (g_pick rfl rfl) ?_; clear ha a; intro a ha; refine u_g 24 rfl (by kernel_rfl) (want0 _) ha rfl (g_assign rfl) ?_; clear ha a; intro a ha
  refine u_done (by kernel_rfl) ?_; intro w47 hx48
  replace hB3 := hB3.ext hx48
  have hE49 := Ext.trans hE8 hx48
  replace ha := ha.sub (σ' := [(2, (.bool false))]) ⟨rfl, trivial⟩; refine e_then ?_; refine wp_ret ?_; obtain rfl := Option.some.inj hF
  exact f_ret1 ha rfl rfl ⟨rfl, hE49⟩
set_option maxHeartbeats 2000000 in
theorem W_spec_l1Edges {W : World} {va0_0 : Value} {fa0_0 : List Nat} {a0_0 : (List (List Int))} (ha0_0 : Ro (Rp.sl 2 Rp.int) W fa0_0 va0_0 a0_0) {r : (List (List Int))} (hF : F_spec_l1Edges a0_0 = some r) :
    Calls Tryd.prog 42 [.agg #[va0_0]].toArray W (Ret fun u w' => ∃ (b_u : Int) (fs_u : List Nat), Ow (Rp.sl 2 Rp.int) 29 true w' fs_u b_u u r ∧ Zn W b_u ∧ (∀ k ∈ fs_u, W.heap.size ≤ k) ∧ (bl b_u ++ fs_u).Nodup ∧ Ext W w') := by
  refine f_enter Tryd.func42 rfl Tryd.ntmps42 rfl ?_
  intro a ha
  replace ha : Fr 47 [(0, (.agg #[va0_0]))] a := ha
  have hE : Chg [] W W := Chg.refl _ _
  unfold F_spec_l1Edges at hF
  refine wp_seq ?_; refine wp_region_lit ?_
  refine o_box ha rfl rfl rfl ?_; clear ha a; intro b1 w2 hB3 hx4 hlo5 a ha
  have q6 := Zn.one hlo5
  have q7 := Zn.upD q6 hE
  have hE8 := Ext.trans hE hx4
  refine op_g ha rfl (g_assign rfl) ?_; clear ha a; intro a ha; refine wpList_nil ?_; replace ha := ha.sub (σ' := [(1, (.pointer (some ⟨b1, 0, none⟩)))]) ⟨rfl, trivial⟩; refine e_then ?_; refine wp_seq ?_; refine wp_region_lit ?_
  refine o_lit0 (Rp.sl 2 Rp.int) ha rfl sl22 ?_; clear ha a; intro v9 w10 h11 hx12 a ha
  obtain ⟨b14, hb14⟩ : ∃ b : Int, b = w2.heap.size := ⟨_, rfl⟩; rw [← hb14] at h11
  have q15 := zn_of hb14
  have q16 := Nq.new hB3.fpb q15
  have q17 := Nq.madeO q15 hB3.bi
  have q18 := Zn.upD q15 hE8
  replace hB3 := hB3.ext hx12
  have hE19 := Ext.trans hE8 hx12
  refine op_g ha rfl (g_assign rfl) ?_; clear ha a; intro a ha; refine wpList_nil ?_; replace ha := ha.sub (σ' := [(1, (.pointer (some ⟨b1, 0, none⟩))), (3, v9)]) ⟨rfl, rfl, trivial⟩; refine e_then ?_; refine wp_seq ?_; refine wp_seq ?_; refine wp_region_lit ?_; refine op_g ha rfl (g_assign rfl) ?_; clear ha a; intro a ha; refine wpList_nil ?_; refine e_then ?_; obtain ⟨o981, ho982, hK983⟩ := bnd_some hF
  obtain ⟨n984, hn985⟩ := lp_some ho982; clear ho982
  refine c_loop (fun a w => ∃ (l978 : (List (List Int))) (fs975 : List Nat) (v979 : Value) (b980 : Int), Fr 47 [(3, v979)] a ∧ Chg [] W w ∧ Ow (Rp.sl 2 Rp.int) 29 true w fs975 b980 v979 l978 ∧ Zn W b980 ∧ (∀ k ∈ fs975, W.heap.size ≤ k) ∧ (bl b980 ++ fs975).Nodup ∧ o981 = .inl l978) (fun n a w => ∃ (l502 : (List (List Int))) (i505 : Int) (fs499 : List Nat) (v503 : Value) (b504 : Int), Fr 47 [(1, (.pointer (some ⟨b1, 0, none⟩))), (3, v503), (4, (.int .i64 i505))] a ∧ Chg [] W w ∧ InI i505 ∧ Bx w b1 [va0_0] 31 ∧ Zn W (b1 : Int) ∧ Ow (Rp.sl 2 Rp.int) 29 true w fs499 b504 v503 l502 ∧ Zn W b504 ∧ (∀ k ∈ fs499, W.heap.size ≤ k) ∧ (bl b504 ++ fs499).Nodup ∧ Nq ([b1]) b504 ∧ Nq (bl b504 ++ fs499) (b1 : Int) ∧ lpN (fun s => F_spec_l1Edges_l1 a0_0 s.1 s.2) n (l502, i505) = some o981) n984 ⟨([] : (List (List Int))), 0, [], v9, b14, ha.sub ⟨rfl, rfl, rfl, trivial⟩, hE19, (show InI 0 from by decide), hB3, q7, h11, q18, (zf_nil _), (bl_nodup b14), q16, q17, hn985⟩ ?_ ?_
  · rintro m989 a w493 ⟨l502, i505, fs499, v503, b504, ha, hE509, hI506, hB494, z495, h497, z498, zf500, nd501, q507, q508, hF⟩
    cases m989 with
    | zero => exact (lpN_zero hF).elim
    | succ m989 =>
      obtain ⟨z988, hF, hN987⟩ := lpN_succ hF
      have hF : F_spec_l1Edges_l1 a0_0 l502 i505 = some z988 := hF; unfold F_spec_l1Edges_l1 at hF
      refine wp_seq ?_; refine wp_seq ?_; refine wp_region_lit ?_; refine op_g ha rfl (g_move rfl) ?_; clear ha a; intro a ha; refine op_g ha rfl (g_loadA (cs := [va0_0]) Tryd.isAgg31 Tryd.sizeOf31 rfl (by simp) hB494.all) ?_; clear ha a; intro a ha; obtain ⟨x990, hc991, hF⟩ := cal_some hF
      refine o_call ha rfl rfl Tryd.call20 (W_spec_l1Size (ha0_0.ext hE509) hc991) ?_; clear ha a; rintro v992 w993 ⟨⟨rfl, hI995⟩, hx994⟩ a ha
      replace hB494 := hB494.ext hx994
      replace h497 := h497.ext hx994
      have hE996 := Ext.trans hE509 hx994
      refine op_g ha rfl (g_lss rfl rfl) ?_; clear ha a; intro a ha; refine wpList_nil ?_; replace ha := ha.sub (σ' := [(1, (.pointer (some ⟨b1, 0, none⟩))), (3, v503), (4, (.int .i64 i505)), (10, (.bool (decide (i505 < x990))))]) ⟨rfl, rfl, rfl, rfl, trivial⟩; refine e_then ?_; refine c_cond (i505 < x990) ha rfl (decide_eq_true_iff) (fun hp997 => ?_) (fun hp997 => ?_)
      · replace hF := if_t hp997 hF
        refine wp_skip ?_; refine e_then ?_; refine wp_seq ?_; refine wp_block ?_; refine wp_seq ?_; refine wp_region_lit ?_; refine op_g ha rfl (g_assign rfl) ?_; clear ha a; intro a ha; refine wpList_nil ?_; replace ha := ha.sub (σ' := [(1, (.pointer (some ⟨b1, 0, none⟩))), (3, v503), (4, (.int .i64 i505)), (5, (.int .i64 0))]) ⟨rfl, rfl, rfl, rfl, trivial⟩; refine e_then ?_; obtain ⟨o1307, ho1308, hK1309⟩ := bnd_some hF
        obtain ⟨n1310, hn1311⟩ := lp_some ho1308; clear ho1308
        refine c_loop (fun a w => ∃ (l1302 : (List (List Int))) (fs1299 : List Nat) (v1303 : Value) (b1304 : Int), Fr 47 [(1, (.pointer (some ⟨b1, 0, none⟩))), (3, v1303), (4, (.int .i64 i505))] a ∧ Chg [] W w ∧ Bx w b1 [va0_0] 31 ∧ Zn W (b1 : Int) ∧ Ow (Rp.sl 2 Rp.int) 29 true w fs1299 b1304 v1303 l1302 ∧ Zn W b1304 ∧ (∀ k ∈ fs1299, W.heap.size ≤ k) ∧ (bl b1304 ++ fs1299).Nodup ∧ Nq ([b1]) b1304 ∧ Nq (bl b1304 ++ fs1299) (b1 : Int) ∧ o1307 = .inl l1302) (fun n a w => ∃ (l1152 : (List (List Int))) (i1155 : Int) (fs1149 : List Nat) (v1153 : Value) (b1154 : Int), Fr 47 [(1, (.pointer (some ⟨b1, 0, none⟩))), (3, v1153), (4, (.int .i64 i505)), (5, (.int .i64 i1155))] a ∧ Chg [] W w ∧ InI i1155 ∧ Bx w b1 [va0_0] 31 ∧ Zn W (b1 : Int) ∧ Ow (Rp.sl 2 Rp.int) 29 true w fs1149 b1154 v1153 l1152 ∧ Zn W b1154 ∧ (∀ k ∈ fs1149, W.heap.size ≤ k) ∧ (bl b1154 ++ fs1149).Nodup ∧ Nq ([b1]) b1154 ∧ Nq (bl b1154 ++ fs1149) (b1 : Int) ∧ lpN (fun s => F_spec_l1Edges_l2 a0_0 i505 s.1 s.2) n (l1152, i1155) = some o1307) n1310 ⟨l502, 0, fs499, v503, b504, ha.sub ⟨rfl, rfl, rfl, rfl, trivial⟩, hE996, (show InI 0 from by decide), hB494, z495, h497, z498, zf500, nd501, q507, q508, hn1311⟩ ?_ ?_
        · rintro m1315 a w1143 ⟨l1152, i1155, fs1149, v1153, b1154, ha, hE1159, hI1156, hB1144, z1145, h1147, z1148, zf1150, nd1151, q1157, q1158, hF⟩
          cases m1315 with
          | zero => exact (lpN_zero hF).elim
          | succ m1315 =>
            obtain ⟨z1314, hF, hN1313⟩ := lpN_succ hF
            have hF : F_spec_l1Edges_l2 a0_0 i505 l1152 i1155 = some z1314 := hF; unfold F_spec_l1Edges_l2 at hF
            refine wp_seq ?_; refine wp_seq ?_; refine wp_region_lit ?_; refine op_g ha rfl (g_move rfl) ?_; clear ha a; intro a ha; refine op_g ha rfl (g_field0 st31_0 rfl) ?_; clear ha a; intro a ha; refine op_g ha rfl (g_load Tryd.isAgg22 rfl (hB1144.cell rfl)) ?_; clear ha a; intro a ha; refine op_g ha rfl (g_move rfl) ?_; clear ha a; intro a ha; obtain ⟨x1316, g1317, gx1318, hF⟩ := idx_some hF
            obtain ⟨p1319, cs1320, f1321, hf1322, hpb1323, hat1324, hr1325, hi1326⟩ := ha0_0.at g1317 gx1318
            obtain ⟨v1327, rfl, h1328⟩ := hr1325
            have h1328 : Ro Rp.int W f1321 v1327 x1316 := h1328
            refine op_g ha rfl (hi1326.gives sl22 rfl rfl) ?_; clear ha a; intro a ha; refine op_g ha rfl (g_load0 hE1159 Tryd.isAgg29 rfl hat1324.one) ?_; clear ha a; intro a ha; refine op_g ha rfl (g_lenR sl29.und h1328 rfl) ?_; clear ha a; intro a ha; refine op_g ha rfl (g_lss rfl rfl) ?_; clear ha a; intro a ha; refine wpList_nil ?_; replace ha := ha.sub (σ' := [(1, (.pointer (some ⟨b1, 0, none⟩))), (3, v1153), (4, (.int .i64 i505)), (5, (.int .i64 i1155)), (20, (.bool (decide (i1155 < (x1316.length : Int)))))]) ⟨rfl, rfl, rfl, rfl, rfl, trivial⟩; refine e_then ?_; refine c_cond (i1155 < (x1316.length : Int)) ha rfl (decide_eq_true_iff) (fun hp1330 => ?_) (fun hp1330 => ?_)
            · replace hF := if_t hp1330 hF
              refine wp_skip ?_; refine e_then ?_; refine wp_seq ?_; refine wp_block ?_; refine wp_seq ?_; refine wp_region_lit ?_; refine op_g ha rfl (g_field0 st31_0 rfl) ?_; clear ha a; intro a ha; refine op_g ha rfl (g_load Tryd.isAgg22 rfl (hB1144.cell rfl)) ?_; clear ha a; intro a ha; refine op_g ha rfl (g_move rfl) ?_; clear ha a; intro a ha; obtain ⟨x1331, g1332, gx1333, hF⟩ := idx_some hF
              obtain ⟨p1334, cs1335, f1336, hf1337, hpb1338, hat1339, hr1340, hi1341⟩ := ha0_0.at g1332 gx1333
              obtain ⟨v1342, rfl, h1343⟩ := hr1340
              have h1343 : Ro Rp.int W f1336 v1342 x1331 := h1343
              refine op_g ha rfl (hi1341.gives sl22 rfl rfl) ?_; clear ha a; intro a ha; refine op_g ha rfl (g_load0 hE1159 Tryd.isAgg29 rfl hat1339.one) ?_; clear ha a; intro a ha; refine op_g ha rfl (g_move rfl) ?_; clear ha a; intro a ha; obtain ⟨x1345, g1346, gx1347, hF⟩ := idx_some hF
              obtain ⟨p1348, cs1349, f1350, hf1351, hpb1352, hat1353, hr1354, hi1355⟩ := h1343.at g1346 gx1347
              obtain ⟨rfl, hI1356, rfl⟩ := hr1354
              refine op_g ha rfl (hi1355.gives sl29 rfl rfl) ?_; clear ha a; intro a ha; refine op_g ha rfl (g_load0 hE1159 Tryd.isAgg2 rfl hat1353.one) ?_; clear ha a; intro a ha; refine op_g ha rfl (g_move rfl) ?_; clear ha a; intro a ha; refine op_g ha rfl (g_gtr rfl rfl) ?_; clear ha a; intro a ha; refine wpList_nil ?_; replace ha := ha.sub (σ' := [(1, (.pointer (some ⟨b1, 0, none⟩))), (3, v1153), (4, (.int .i64 i505)), (5, (.int .i64 i1155)), (32, (.bool (decide (i505 < x1345))))]) ⟨rfl, rfl, rfl, rfl, rfl, trivial⟩; refine e_then ?_; refine c_cond (i505 < x1345) ha rfl (decide_eq_true_iff) (fun hp1357 => ?_) (fun hp1357 => ?_)
              · replace hF := if_t hp1357 hF
                refine wp_region_lit ?_; (iterate 2 refine op_g ha rfl (g_move rfl) ?_; clear ha a; intro a ha); refine op_g ha rfl (g_field0 st31_0 rfl) ?_; clear ha a; intro a ha; refine op_g ha rfl (g_load Tryd.isAgg22 rfl (hB1144.cell rfl)) ?_; clear ha a; intro a ha; refine op_g ha rfl (g_move rfl) ?_; clear ha a; intro a ha; obtain ⟨x1358, g1359, gx1360, hF⟩ := idx_some hF
                obtain ⟨p1361, cs1362, f1363, hf1364, hpb1365, hat1366, hr1367, hi1368⟩ := ha0_0.at g1359 gx1360
                obtain ⟨v1369, rfl, h1370⟩ := hr1367
                have h1370 : Ro Rp.int W f1363 v1369 x1358 := h1370
                refine op_g ha rfl (hi1368.gives sl22 rfl rfl) ?_; clear ha a; intro a ha; refine op_g ha rfl (g_load0 hE1159 Tryd.isAgg29 rfl hat1366.one) ?_; clear ha a; intro a ha; refine op_g ha rfl (g_move rfl) ?_; clear ha a; intro a ha; obtain ⟨x1372, g1373, gx1374, hF⟩ := idx_some hF
                obtain ⟨p1375, cs1376, f1377, hf1378, hpb1379, hat1380, hr1381, hi1382⟩ := h1370.at g1373 gx1374
                obtain ⟨rfl, hI1383, rfl⟩ := hr1381
                refine op_g ha rfl (hi1382.gives sl29 rfl rfl) ?_; clear ha a; intro a ha; refine op_g ha rfl (g_load0 hE1159 Tryd.isAgg2 rfl hat1380.one) ?_; clear ha a; intro a ha
                have hvob1388 : ∀ p ∈ ([((.int .i64 i505), [(.int .i64 i505)]), ((.int .i64 x1372), [(.int .i64 x1372)])] : List (Value × List Value)), p.1.cells = p.2.toArray ∧ p.2.length = 1 := by
                  intro p hp; simp only [List.mem_cons, List.not_mem_nil, or_false] at hp; rcases hp with hp | hp <;> subst hp <;> first | exact ⟨rfl, rfl⟩
                refine o_litM (o := true) (f := []) (ps := [((.int .i64 i505), [(.int .i64 i505)]), ((.int .i64 x1372), [(.int .i64 x1372)])]) (ys := [i505, x1372]) Rp.int ha rfl sl29 rfl rfl rfl rfl hvob1388 ⟨[], [], [(.int .i64 i505)], _, rfl, rfl, ⟨rfl, hI506, rfl⟩, ⟨[], [], [(.int .i64 x1372)], _, rfl, rfl, ⟨rfl, hI1383, rfl⟩, ⟨rfl, rfl⟩⟩⟩ ?_; clear ha a; intro v1384 w1385 h1386 hx1387 a ha
                obtain ⟨b1389, hb1389⟩ : ∃ b : Int, b = w1143.heap.size := ⟨_, rfl⟩; rw [← hb1389] at h1386
                have q1390 := zn_of hb1389
                have q1391 := Nq.new hB1144.fpb q1390
                have q1392 := Nq.madeO q1390 hB1144.bi
                have q1393 := Nq.new h1147.fpb q1390
                have q1394 := Nq.madeO q1390 h1147.blt
                have q1395 := Nf.old q1390 (zf_nil _) h1147.bnd
                have q1396 := Zn.upD q1390 hE1159
                replace hB1144 := hB1144.ext hx1387
                replace h1147 := h1147.ext hx1387
                have hE1397 := Ext.trans hE1159 hx1387
                refine o_lit1 (o := true) (y := [i505, x1372]) (Rp.sl 2 Rp.int) ha rfl sl22 rfl rfl h1386.cells (Rp.mkO h1386) ?_; clear ha a; intro v1398 w1399 h1400 hx1401 a ha
                obtain ⟨b1403, hb1403⟩ : ∃ b : Int, b = w1385.heap.size := ⟨_, rfl⟩; rw [← hb1403] at h1400
                have q1404 := zn_of hb1403
                have q1405 := zf_mv q1396 (zf_nil _)
                have q1406 := dj_of q1393
                have q1407 := Nq.new hB1144.fpb q1404
                have q1408 := Nq.append (Nq.madeL q1404 hB1144.bi) q1392
                have q1409 := Nq.new h1147.fpb q1404
                have q1410 := Nq.append (Nq.madeL q1404 h1147.blt) q1394
                have q1411 := Zn.upD q1404 hE1397
                have q1412 := nd_lit (bl_nodup b1389) h1386.fpb hb1403
                replace hB1144 := hB1144.ext hx1401
                replace h1147 := h1147.ext hx1401
                have hE1413 := Ext.trans hE1397 hx1401
                obtain ⟨hl1414, hF⟩ := app_some hF
                have q1415 := Nq.right q1410
                refine o_append ha rfl sl22 rfl rfl rfl h1147 h1400.src q1415 hl1414 ?_; clear ha a; intro v1416 w1417 b1418 h1419 hc1420 hb1421 a ha
                replace h1419 : Ow (Rp.sl 2 Rp.int) 29 true w1417 (fs1149 ++ (bl b1389 ++ [])) b1418 v1416 _ := h1419
                have q1423 := zf_app zf1150 q1405
                have q1424 := nd_app nd1151 (bl_nodup b1389) q1406 hb1421 h1147.fpb h1400.bnd
                have q1425 := Nq.appY q1157 hB1144.fpb hb1421
                have q1426 := Nq.appX q1158 (Nq.right q1408) hb1421 hB1144.bi
                have q1427 := Zn.appD z1148 hb1421 hE1413
                replace hB1144 := hB1144.nq hc1420 q1157
                have hE1428 := Ext.then hE1413 hc1420 (Zn.bl z1148)
                refine op_g ha rfl (g_assign rfl) ?_; clear ha a; intro a ha; refine wpList_nil ?_; replace ha := ha.sub (σ' := [(1, (.pointer (some ⟨b1, 0, none⟩))), (3, v1416), (4, (.int .i64 i505)), (5, (.int .i64 i1155))]) ⟨rfl, rfl, rfl, rfl, trivial⟩; refine e_blk ?_; refine e_then ?_; refine wp_region_lit ?_; refine op_g ha rfl (g_move rfl) ?_; clear ha a; intro a ha; obtain ⟨hI1429, hF⟩ := ck_some hF; refine op_g ha rfl (g_add rfl rfl hI1429) ?_; clear ha a; intro a ha; refine op_g ha rfl (g_assign rfl) ?_; clear ha a; intro a ha; refine wpList_nil ?_; replace ha := ha.sub (σ' := [(1, (.pointer (some ⟨b1, 0, none⟩))), (3, v1416), (4, (.int .i64 i505)), (5, (.int .i64 (i1155 + 1)))]) ⟨rfl, rfl, rfl, rfl, trivial⟩
                refine e_lq ?_; obtain rfl := Option.some.inj hF
                exact ⟨_, Nat.lt_succ_self _, (l1152 ++ ([[i505, x1372]])), i1155 + 1, (fs1149 ++ (bl b1389 ++ [])), v1416, b1418, ha.sub ⟨rfl, rfl, rfl, rfl, trivial⟩, hE1428, hI1429, hB1144, z1145, h1419, q1427, q1423, q1424, q1425, q1426, hN1313⟩
              replace hF := if_f hp1357 hF; refine wp_skip ?_; refine e_blk ?_; refine e_then ?_; refine wp_region_lit ?_; refine op_g ha rfl (g_move rfl) ?_; clear ha a; intro a ha; obtain ⟨hI1431, hF⟩ := ck_some hF; refine op_g ha rfl (g_add rfl rfl hI1431) ?_; clear ha a; intro a ha; refine op_g ha rfl (g_assign rfl) ?_; clear ha a; intro a ha; refine wpList_nil ?_; replace ha := ha.sub (σ' := [(1, (.pointer (some ⟨b1, 0, none⟩))), (3, v1153), (4, (.int .i64 i505)), (5, (.int .i64 (i1155 + 1)))]) ⟨rfl, rfl, rfl, rfl, trivial⟩; refine e_lq ?_; obtain rfl := Option.some.inj hF
              exact ⟨_, Nat.lt_succ_self _, l1152, i1155 + 1, fs1149, v1153, b1154, ha.sub ⟨rfl, rfl, rfl, rfl, trivial⟩, hE1159, hI1431, hB1144, z1145, h1147, z1148, zf1150, nd1151, q1157, q1158, hN1313⟩
            replace hF := if_f hp1330 hF; refine wp_exit ?_; refine e_then_exit ?_; refine e_lq_eq ?_; obtain rfl := Option.some.inj hF
            exact ⟨l1152, fs1149, v1153, b1154, ha.sub ⟨rfl, rfl, rfl, trivial⟩, hE1159, hB1144, z1145, h1147, z1148, zf1150, nd1151, q1157, q1158, (LK_inr hN1313).symm⟩
        rintro a w1293 ⟨l1302, fs1299, v1303, b1304, ha, hE1312, hB1294, z1295, h1297, z1298, zf1300, nd1301, q1305, q1306, rfl⟩
        have hF : F_spec_l1Edges_k3 i505 l1302 = some _ := hK1309; clear hK1309; unfold F_spec_l1Edges_k3 at hF
        refine e_blk ?_; refine e_then ?_; refine wp_region_lit ?_; refine op_g ha rfl (g_move rfl) ?_; clear ha a; intro a ha; obtain ⟨hI1433, hF⟩ := ck_some hF; refine op_g ha rfl (g_add rfl rfl hI1433) ?_; clear ha a; intro a ha; refine op_g ha rfl (g_assign rfl) ?_; clear ha a; intro a ha; refine wpList_nil ?_; replace ha := ha.sub (σ' := [(1, (.pointer (some ⟨b1, 0, none⟩))), (3, v1303), (4, (.int .i64 (i505 + 1)))]) ⟨rfl, rfl, rfl, trivial⟩; refine e_lq ?_; obtain rfl := Option.some.inj hF
        exact ⟨_, Nat.lt_succ_self _, l1302, i505 + 1, fs1299, v1303, b1304, ha.sub ⟨rfl, rfl, rfl, trivial⟩, hE1312, hI1433, hB1294, z1295, h1297, z1298, zf1300, nd1301, q1305, q1306, hN987⟩
      replace hF := if_f hp997 hF; refine wp_exit ?_; refine e_then_exit ?_; refine e_lq_eq ?_; obtain rfl := Option.some.inj hF
      exact ⟨l502, fs499, v503, b504, ha.sub ⟨rfl, trivial⟩, hE996, h497, z498, zf500, nd501, (LK_inr hN987).symm⟩
  rintro a w971 ⟨l978, fs975, v979, b980, ha, hE986, h973, z974, zf976, nd977, rfl⟩
  have hF : F_spec_l1Edges_k4 l978 = some _ := hK983; clear hK983; unfold F_spec_l1Edges_k4 at hF
  refine e_then ?_; refine wp_seq ?_; refine wp_region_lit ?_; refine op_g ha rfl (g_move rfl) ?_; clear ha a; intro a ha; refine op_g ha rfl (g_assign rfl) ?_; clear ha a; intro a ha; refine wpList_nil ?_; replace ha := ha.sub (σ' := [(2, v979)]) ⟨rfl, trivial⟩; refine e_then ?_; refine wp_ret ?_; obtain rfl := Option.some.inj hF
  exact f_ret1 ha rfl rfl ⟨_, _, h973, z974, zf976, nd977, hE986⟩
set_option maxHeartbeats 2000000 in
theorem W_spec_l8Meet {W : World} {va0 : Value} {fa0 : List Nat} {a0 : (List Int)} (ha0 : Ro Rp.int W fa0 va0 a0) {va1 : Value} {fa1 : List Nat} {a1 : (List Int)} (ha1 : Ro Rp.int W fa1 va1 a1) {r : (List Int)} (hF : F_spec_l8Meet a0 a1 = some r) :
    Calls Tryd.prog 65 [va0, va1].toArray W (Ret fun u w' => ∃ (b_u : Int), Ow Rp.int 2 true w' [] b_u u r ∧ Zn W b_u ∧ Ext W w') := by
  refine f_enter Tryd.func65 rfl Tryd.ntmps65 rfl ?_
  intro a ha
  replace ha : Fr 28 [(0, va0), (1, va1)] a := ha
  have hE : Chg [] W W := Chg.refl _ _
  unfold F_spec_l8Meet at hF
  refine wp_seq ?_; refine wp_region_lit ?_; refine op_g ha rfl (g_assign rfl) ?_; clear ha a; intro a ha; refine wpList_nil ?_; replace ha := ha.sub (σ' := [(0, va0), (1, va1)]) ⟨rfl, rfl, trivial⟩; refine e_then ?_; refine wp_seq ?_; refine wp_region_lit ?_
  refine o_lit0 Rp.int ha rfl sl29 ?_; clear ha a; intro v1 w2 h3 hx4 a ha
  obtain ⟨b6, hb6⟩ : ∃ b : Int, b = W.heap.size := ⟨_, rfl⟩; rw [← hb6] at h3
  have q7 := zn_of hb6
  have q8 := Zn.upD q7 hE
  have hE9 := Ext.trans hE hx4
  refine op_g ha rfl (g_assign rfl) ?_; clear ha a; intro a ha; refine wpList_nil ?_; replace ha := ha.sub (σ' := [(0, va0), (1, va1), (5, v1)]) ⟨rfl, rfl, rfl, trivial⟩; refine e_then ?_; refine wp_seq ?_; refine wp_seq ?_; refine wp_region_lit ?_; refine op_g ha rfl (g_assign rfl) ?_; clear ha a; intro a ha; refine wpList_nil ?_; replace ha := ha.sub (σ' := [(0, va0), (1, va1), (5, v1), (6, (.int .i64 0))]) ⟨rfl, rfl, rfl, rfl, trivial⟩; refine e_then ?_; obtain ⟨o168, ho169, hK170⟩ := bnd_some hF
  obtain ⟨n171, hn172⟩ := lp_some ho169; clear ho169
  refine c_loop (fun a w => ∃ (l165 : (List Int)) (v166 : Value) (b167 : Int), Fr 28 [(5, v166)] a ∧ Chg [] W w ∧ Ow Rp.int 2 true w [] b167 v166 l165 ∧ Zn W b167 ∧ o168 = .inl l165) (fun n a w => ∃ (l87 : (List Int)) (i90 : Int) (v88 : Value) (b89 : Int), Fr 28 [(0, va0), (1, va1), (5, v88), (6, (.int .i64 i90))] a ∧ Chg [] W w ∧ InI i90 ∧ Ow Rp.int 2 true w [] b89 v88 l87 ∧ Zn W b89 ∧ lpN (fun s => F_spec_l8Meet_l1 a0 a1 s.1 s.2) n (l87, i90) = some o168) n171 ⟨([] : (List Int)), 0, v1, b6, ha.sub ⟨rfl, rfl, rfl, rfl, trivial⟩, hE9, (show InI 0 from by decide), h3, q8, hn172⟩ ?_ ?_
  · rintro m176 a w83 ⟨l87, i90, v88, b89, ha, hE92, hI91, h85, z86, hF⟩
    cases m176 with
    | zero => exact (lpN_zero hF).elim
    | succ m176 =>
      obtain ⟨z175, hF, hN174⟩ := lpN_succ hF
      have hF : F_spec_l8Meet_l1 a0 a1 l87 i90 = some z175 := hF; unfold F_spec_l8Meet_l1 at hF
      refine wp_seq ?_; refine wp_seq ?_; refine wp_region_lit ?_; (iterate 2 refine op_g ha rfl (g_move rfl) ?_; clear ha a; intro a ha); refine op_g ha rfl (g_lenR sl29.und ha0 rfl) ?_; clear ha a; intro a ha; refine op_g ha rfl (g_lss rfl rfl) ?_; clear ha a; intro a ha; refine wpList_nil ?_; replace ha := ha.sub (σ' := [(0, va0), (1, va1), (5, v88), (6, (.int .i64 i90)), (11, (.bool (decide (i90 < (a0.length : Int)))))]) ⟨rfl, rfl, rfl, rfl, rfl, trivial⟩; refine e_then ?_; refine c_cond (i90 < (a0.length : Int)) ha rfl (decide_eq_true_iff) (fun hp177 => ?_) (fun hp177 => ?_)
      · replace hF := if_t hp177 hF
        refine wp_skip ?_; refine e_then ?_; refine wp_seq ?_; refine wp_block ?_; refine wp_seq ?_; refine wp_region_lit ?_; (iterate 3 refine op_g ha rfl (g_move rfl) ?_; clear ha a; intro a ha); obtain ⟨x178, g179, gx180, hF⟩ := idx_some hF
        obtain ⟨p181, cs182, f183, hf184, hpb185, hat186, hr187, hi188⟩ := ha0.at g179 gx180
        obtain ⟨rfl, hI189, rfl⟩ := hr187
        refine op_g ha rfl (hi188.gives sl29 rfl rfl) ?_; clear ha a; intro a ha; refine op_g ha rfl (g_load0 hE92 Tryd.isAgg2 rfl hat186.one) ?_; clear ha a; intro a ha; obtain ⟨x190, hc191, hF⟩ := cal_some hF
        refine o_call ha rfl rfl Tryd.call61 (W_spec_l1Has (ha1.ext hE92) hI189 hc191) ?_; clear ha a; rintro v192 w193 ⟨rfl, hx194⟩ a ha
        replace h85 := h85.ext hx194
        have hE195 := Ext.trans hE92 hx194
        refine wpList_nil ?_; replace ha := ha.sub (σ' := [(0, va0), (1, va1), (5, v88), (6, (.int .i64 i90)), (19, (.bool x190))]) ⟨rfl, rfl, rfl, rfl, rfl, trivial⟩; refine e_then ?_; refine c_cond (x190 = true) ha rfl (Iff.rfl) (fun hp196 => ?_) (fun hp196 => ?_)
        · replace hF := if_t hp196 hF
          refine wp_region_lit ?_; (iterate 3 refine op_g ha rfl (g_move rfl) ?_; clear ha a; intro a ha); obtain ⟨x197, g198, gx199, hF⟩ := idx_some hF
          obtain ⟨p200, cs201, f202, hf203, hpb204, hat205, hr206, hi207⟩ := ha0.at g198 gx199
          obtain ⟨rfl, hI208, rfl⟩ := hr206
          refine op_g ha rfl (hi207.gives sl29 rfl rfl) ?_; clear ha a; intro a ha; refine op_g ha rfl (g_load0 hE195 Tryd.isAgg2 rfl hat205.one) ?_; clear ha a; intro a ha
          refine o_lit1 (o := true) (y := x197) Rp.int ha rfl sl29 rfl rfl rfl ⟨rfl, hI208, rfl⟩ ?_; clear ha a; intro v209 w210 h211 hx212 a ha
          obtain ⟨b214, hb214⟩ : ∃ b : Int, b = w193.heap.size := ⟨_, rfl⟩; rw [← hb214] at h211
          have q215 := zn_of hb214
          have q216 := Nq.new h85.fpb q215
          have q217 := Nq.madeO q215 h85.blt
          have q218 := Zn.upD q215 hE195
          replace h85 := h85.ext hx212
          have hE219 := Ext.trans hE195 hx212
          obtain ⟨hl220, hF⟩ := app_some hF
          refine o_append ha rfl sl29 rfl rfl rfl h85 h211.src (Nq.nil _) hl220 ?_; clear ha a; intro v221 w222 b223 h224 hc225 hb226 a ha
          replace h224 : Ow Rp.int 2 true w222 [] b223 v221 _ := h224
          have q228 := Nq.appY q217 h211.fpb hb226
          have q229 := Nq.appX q216 (Nq.nil _) hb226 h211.blt
          have q230 := Zn.appD z86 hb226 hE219
          replace h211 := h211.nq hc225 q217
          have hE231 := Ext.then hE219 hc225 (Zn.bl z86)
          refine op_g ha rfl (g_assign rfl) ?_; clear ha a; intro a ha; refine wpList_nil ?_; replace ha := ha.sub (σ' := [(0, va0), (1, va1), (5, v221), (6, (.int .i64 i90))]) ⟨rfl, rfl, rfl, rfl, trivial⟩; refine e_blk ?_; refine e_then ?_; refine wp_region_lit ?_; refine op_g ha rfl (g_move rfl) ?_; clear ha a; intro a ha; obtain ⟨hI232, hF⟩ := ck_some hF; refine op_g ha rfl (g_add rfl rfl hI232) ?_; clear ha a; intro a ha; refine op_g ha rfl (g_assign rfl) ?_; clear ha a; intro a ha; refine wpList_nil ?_; replace ha := ha.sub (σ' := [(0, va0), (1, va1), (5, v221), (6, (.int .i64 (i90 + 1)))]) ⟨rfl, rfl, rfl, rfl, trivial⟩
          refine e_lq ?_; obtain rfl := Option.some.inj hF
          exact ⟨_, Nat.lt_succ_self _, (l87 ++ ([x197])), i90 + 1, v221, b223, ha.sub ⟨rfl, rfl, rfl, rfl, trivial⟩, hE231, hI232, h224, q230, hN174⟩
        replace hF := if_f hp196 hF; refine wp_skip ?_; refine e_blk ?_; refine e_then ?_; refine wp_region_lit ?_; refine op_g ha rfl (g_move rfl) ?_; clear ha a; intro a ha; obtain ⟨hI234, hF⟩ := ck_some hF; refine op_g ha rfl (g_add rfl rfl hI234) ?_; clear ha a; intro a ha; refine op_g ha rfl (g_assign rfl) ?_; clear ha a; intro a ha; refine wpList_nil ?_; replace ha := ha.sub (σ' := [(0, va0), (1, va1), (5, v88), (6, (.int .i64 (i90 + 1)))]) ⟨rfl, rfl, rfl, rfl, trivial⟩; refine e_lq ?_; obtain rfl := Option.some.inj hF
        exact ⟨_, Nat.lt_succ_self _, l87, i90 + 1, v88, b89, ha.sub ⟨rfl, rfl, rfl, rfl, trivial⟩, hE195, hI234, h85, z86, hN174⟩
      replace hF := if_f hp177 hF; refine wp_exit ?_; refine e_then_exit ?_; refine e_lq_eq ?_; obtain rfl := Option.some.inj hF
      exact ⟨l87, v88, b89, ha.sub ⟨rfl, trivial⟩, hE92, h85, z86, (LK_inr hN174).symm⟩
  rintro a w161 ⟨l165, v166, b167, ha, hE173, h163, z164, rfl⟩
  have hF : F_spec_l8Meet_k2 l165 = some _ := hK170; clear hK170; unfold F_spec_l8Meet_k2 at hF
  refine e_then ?_; refine wp_seq ?_; refine wp_region_lit ?_; refine op_g ha rfl (g_move rfl) ?_; clear ha a; intro a ha; refine op_g ha rfl (g_assign rfl) ?_; clear ha a; intro a ha; refine wpList_nil ?_; replace ha := ha.sub (σ' := [(4, v166)]) ⟨rfl, trivial⟩; refine e_then ?_; refine wp_ret ?_; obtain rfl := Option.some.inj hF
  exact f_ret1 ha rfl rfl ⟨_, h163, z164, hE173⟩
set_option maxHeartbeats 2000000 in
theorem W_spec_l9Part {W : World} {va0 : Value} {fa0 : List Nat} {a0 : (List Int)} (ha0 : Ro Rp.int W fa0 va0 a0) {va1 : Value} {fa1 : List Nat} {a1 : (List Int)} (ha1 : Ro Rp.int W fa1 va1 a1) {r : Bool} (hF : F_spec_l9Part a0 a1 = some r) :
    Calls Tryd.prog 46 [va0, va1].toArray W (Ret fun u w' => u = .bool r ∧ Ext W w') := by
  refine f_enter Tryd.func46 rfl Tryd.ntmps46 rfl ?_
  intro a ha
  replace ha : Fr 12 [(0, va0), (1, va1)] a := ha
  have hE : Chg [] W W := Chg.refl _ _
  unfold F_spec_l9Part at hF
  refine wp_seq ?_; refine wp_region_lit ?_; refine op_g ha rfl (g_assign rfl) ?_; clear ha a; intro a ha; refine wpList_nil ?_; replace ha := ha.sub (σ' := [(0, va0), (1, va1)]) ⟨rfl, rfl, trivial⟩; refine e_then ?_; refine wp_seq ?_; refine wp_region_lit ?_; (iterate 2 refine op_g ha rfl (g_move rfl) ?_; clear ha a; intro a ha); obtain ⟨x1, hc2, hF⟩ := cal_some hF
  refine o_call ha rfl rfl Tryd.call65 (W_spec_l8Meet (ha0.ext hE) (ha1.ext hE) hc2) ?_; clear ha a; rintro v3 w4 ⟨b6, h7, z8, hx5⟩ a ha
  have hE10 := Ext.trans hE hx5
  have q11 := Zn.upD z8 hE
  refine op_g ha rfl (g_lenO sl29.und h7 rfl) ?_; clear ha a; intro a ha; refine op_g ha rfl (g_move rfl) ?_; clear ha a; intro a ha; refine op_g ha rfl (g_lenR sl29.und ha0 rfl) ?_; clear ha a; intro a ha; refine op_g ha rfl (g_eql rfl rfl) ?_; clear ha a; intro a ha; refine op_g ha rfl (g_assign rfl) ?_; clear ha a; intro a ha; refine wpList_nil ?_; replace ha := ha.sub (σ' := [(4, (.bool (decide ((x1.length : Int) = (a0.length : Int)))))]) ⟨rfl, trivial⟩; refine e_then ?_; refine wp_ret ?_; obtain rfl := Option.some.inj hF
  exact f_ret1 ha rfl rfl ⟨rfl, hE10⟩
set_option maxHeartbeats 2000000 in
theorem W_spec_l9In {W : World} {va0_0 : Value} {fa0_0 : List Nat} {a0_0 : (List (List Int))} (ha0_0 : Ro (Rp.sl 2 Rp.int) W fa0_0 va0_0 a0_0) {va0_1 : Value} {fa0_1 : List Nat} {a0_1 : (List (List Int))} (ha0_1 : Ro (Rp.sl 2 Rp.int) W fa0_1 va0_1 a0_1) {va1 : Value} {fa1 : List Nat} {a1 : (List Int)} (ha1 : Ro Rp.int W fa1 va1 a1) {r : Bool} (hF : F_spec_l9In a0_0 a0_1 a1 = some r) :
    Calls Tryd.prog 21 [.agg #[va0_0, va0_1], va1].toArray W (Ret fun u w' => u = .bool r ∧ Ext W w') := by
  refine f_enter Tryd.func21 rfl Tryd.ntmps21 rfl ?_
  intro a ha
  replace ha : Fr 20 [(0, (.agg #[va0_0, va0_1])), (1, va1)] a := ha
  have hE : Chg [] W W := Chg.refl _ _
  unfold F_spec_l9In at hF
  refine wp_seq ?_; refine wp_region_lit ?_
  refine o_box ha rfl rfl rfl ?_; clear ha a; intro b1 w2 hB3 hx4 hlo5 a ha
  have q6 := Zn.one hlo5
  have q7 := Zn.upD q6 hE
  have hE8 := Ext.trans hE hx4
  refine op_g ha rfl (g_assign rfl) ?_; clear ha a; intro a ha; refine wpList_nil ?_; replace ha := ha.sub (σ' := [(1, va1), (2, (.pointer (some ⟨b1, 0, none⟩)))]) ⟨rfl, rfl, trivial⟩; refine e_then ?_; refine wp_seq ?_; refine wp_seq ?_; refine wp_region_lit ?_; refine op_g ha rfl (g_assign rfl) ?_; clear ha a; intro a ha; refine wpList_nil ?_; refine e_then ?_; obtain ⟨o78, ho79, hK80⟩ := bnd_some hF
  obtain ⟨n81, hn82⟩ := lp_some ho79; clear ho79
  refine c_loop (fun a w => Fr 20 [] a ∧ Chg [] W w ∧ o78 = .inl ()) (fun n a w => ∃ (i45 : Int), Fr 20 [(1, va1), (2, (.pointer (some ⟨b1, 0, none⟩))), (5, (.int .i64 i45))] a ∧ Chg [] W w ∧ InI i45 ∧ Bx w b1 [va0_0, va0_1] 33 ∧ Zn W (b1 : Int) ∧ lpN (fun s => F_spec_l9In_l1 a0_0 a1 s) n i45 = some o78) n81 ⟨0, ha.sub ⟨rfl, rfl, rfl, trivial⟩, hE8, (show InI 0 from by decide), hB3, q7, hn82⟩ ?_ ?_
  · rintro m86 a w42 ⟨i45, ha, hE47, hI46, hB43, z44, hF⟩
    cases m86 with
    | zero => exact (lpN_zero hF).elim
    | succ m86 =>
      obtain ⟨z85, hF, hN84⟩ := lpN_succ hF
      have hF : F_spec_l9In_l1 a0_0 a1 i45 = some z85 := hF; unfold F_spec_l9In_l1 at hF
      refine wp_seq ?_; refine wp_seq ?_; refine wp_region_lit ?_; refine op_g ha rfl (g_move rfl) ?_; clear ha a; intro a ha; refine op_g ha rfl (g_field0 st33_0 rfl) ?_; clear ha a; intro a ha; refine op_g ha rfl (g_load Tryd.isAgg22 rfl (hB43.cell rfl)) ?_; clear ha a; intro a ha; refine op_g ha rfl (g_lenR sl22.und ha0_0 rfl) ?_; clear ha a; intro a ha; refine op_g ha rfl (g_lss rfl rfl) ?_; clear ha a; intro a ha; refine wpList_nil ?_; replace ha := ha.sub (σ' := [(1, va1), (2, (.pointer (some ⟨b1, 0, none⟩))), (5, (.int .i64 i45)), (10, (.bool (decide (i45 < (a0_0.length : Int)))))]) ⟨rfl, rfl, rfl, rfl, trivial⟩
      refine e_then ?_; refine c_cond (i45 < (a0_0.length : Int)) ha rfl (decide_eq_true_iff) (fun hp87 => ?_) (fun hp87 => ?_)
      · replace hF := if_t hp87 hF
        refine wp_skip ?_; refine e_then ?_; refine wp_seq ?_; refine wp_block ?_; refine wp_seq ?_; refine wp_region_lit ?_; refine op_g ha rfl (g_move rfl) ?_; clear ha a; intro a ha; refine op_g ha rfl (g_field0 st33_0 rfl) ?_; clear ha a; intro a ha; refine op_g ha rfl (g_load Tryd.isAgg22 rfl (hB43.cell rfl)) ?_; clear ha a; intro a ha; refine op_g ha rfl (g_move rfl) ?_; clear ha a; intro a ha; obtain ⟨x88, g89, gx90, hF⟩ := idx_some hF
        obtain ⟨p91, cs92, f93, hf94, hpb95, hat96, hr97, hi98⟩ := ha0_0.at g89 gx90
        obtain ⟨v99, rfl, h100⟩ := hr97
        have h100 : Ro Rp.int W f93 v99 x88 := h100
        refine op_g ha rfl (hi98.gives sl22 rfl rfl) ?_; clear ha a; intro a ha; refine op_g ha rfl (g_load0 hE47 Tryd.isAgg29 rfl hat96.one) ?_; clear ha a; intro a ha; obtain ⟨x102, hc103, hF⟩ := cal_some hF
        refine o_call ha rfl rfl Tryd.call46 (W_spec_l9Part (ha1.ext hE47) (h100.ext hE47) hc103) ?_; clear ha a; rintro v104 w105 ⟨rfl, hx106⟩ a ha
        replace hB43 := hB43.ext hx106
        have hE107 := Ext.trans hE47 hx106
        refine wpList_nil ?_; replace ha := ha.sub (σ' := [(1, va1), (2, (.pointer (some ⟨b1, 0, none⟩))), (5, (.int .i64 i45)), (19, (.bool x102))]) ⟨rfl, rfl, rfl, rfl, trivial⟩; refine e_then ?_; refine c_cond (x102 = true) ha rfl (Iff.rfl) (fun hp108 => ?_) (fun hp108 => ?_)
        · replace hF := if_t hp108 hF
          refine wp_seq ?_; refine wp_region_lit ?_; refine op_g ha rfl (g_assign rfl) ?_; clear ha a; intro a ha; refine wpList_nil ?_; replace ha := ha.sub (σ' := [(4, (.bool true))]) ⟨rfl, trivial⟩; refine e_then ?_; refine wp_ret ?_; refine e_blk_ret ?_; refine e_then_ret ?_; refine e_lq_ret ?_; refine e_then_ret ?_; obtain rfl := Option.some.inj hF
          have e109 := LK_inr hN84; subst e109
          have e110 := BK_inr hK80; subst e110
          exact f_ret1 ha rfl rfl ⟨rfl, hE107⟩
        replace hF := if_f hp108 hF; refine wp_skip ?_; refine e_blk ?_; refine e_then ?_; refine wp_region_lit ?_; refine op_g ha rfl (g_move rfl) ?_; clear ha a; intro a ha; obtain ⟨hI111, hF⟩ := ck_some hF; refine op_g ha rfl (g_add rfl rfl hI111) ?_; clear ha a; intro a ha; refine op_g ha rfl (g_assign rfl) ?_; clear ha a; intro a ha; refine wpList_nil ?_; replace ha := ha.sub (σ' := [(1, va1), (2, (.pointer (some ⟨b1, 0, none⟩))), (5, (.int .i64 (i45 + 1)))]) ⟨rfl, rfl, rfl, trivial⟩; refine e_lq ?_; obtain rfl := Option.some.inj hF
        exact ⟨_, Nat.lt_succ_self _, i45 + 1, ha.sub ⟨rfl, rfl, rfl, trivial⟩, hE107, hI111, hB43, z44, hN84⟩
      replace hF := if_f hp87 hF; refine wp_exit ?_; refine e_then_exit ?_; refine e_lq_eq ?_; obtain rfl := Option.some.inj hF
      exact ⟨ha.sub trivial, hE47, (LK_inr hN84).symm⟩
  rintro a w77 ⟨ha, hE83, rfl⟩
  have hF : F_spec_l9In_k2 = some _ := hK80; clear hK80; unfold F_spec_l9In_k2 at hF
  refine e_then ?_; refine wp_seq ?_; refine wp_region_lit ?_; refine op_g ha rfl (g_assign rfl) ?_; clear ha a; intro a ha; refine wpList_nil ?_; refine e_then ?_; refine wp_ret ?_; obtain rfl := Option.some.inj hF
  exact f_ret1 ha rfl rfl ⟨rfl, hE83⟩
set_option maxHeartbeats 2000000 in
theorem W_spec_l9With {W : World} {va0_0 : Value} {fa0_0 : List Nat} {a0_0 : (List (List Int))} (ha0_0 : Ro (Rp.sl 2 Rp.int) W fa0_0 va0_0 a0_0) {va0_1 : Value} {fa0_1 : List Nat} {a0_1 : (List (List Int))} (ha0_1 : Ro (Rp.sl 2 Rp.int) W fa0_1 va0_1 a0_1) {a1 : Int} (ha1 : InI a1) {r : (List Int)} (hF : F_spec_l9With a0_0 a0_1 a1 = some r) :
    Calls Tryd.prog 43 [.agg #[va0_0, va0_1], .int .i64 a1].toArray W (Ret fun u w' => ∃ (b_u : Int), Ow Rp.int 2 true w' [] b_u u r ∧ Zn W b_u ∧ Ext W w') := by
  refine f_enter Tryd.func43 rfl Tryd.ntmps43 rfl ?_
  intro a ha
  replace ha : Fr 27 [(0, (.agg #[va0_0, va0_1])), (1, (.int .i64 a1))] a := ha
  have hE : Chg [] W W := Chg.refl _ _
  unfold F_spec_l9With at hF
  refine wp_seq ?_; refine wp_region_lit ?_
  refine o_box ha rfl rfl rfl ?_; clear ha a; intro b1 w2 hB3 hx4 hlo5 a ha
  have q6 := Zn.one hlo5
  have q7 := Zn.upD q6 hE
  have hE8 := Ext.trans hE hx4
  refine op_g ha rfl (g_assign rfl) ?_; clear ha a; intro a ha; refine wpList_nil ?_; replace ha := ha.sub (σ' := [(1, (.int .i64 a1)), (2, (.pointer (some ⟨b1, 0, none⟩)))]) ⟨rfl, rfl, trivial⟩; refine e_then ?_; refine wp_seq ?_; refine wp_region_lit ?_
  refine o_lit0 Rp.int ha rfl sl29 ?_; clear ha a; intro v9 w10 h11 hx12 a ha
  obtain ⟨b14, hb14⟩ : ∃ b : Int, b = w2.heap.size := ⟨_, rfl⟩; rw [← hb14] at h11
  have q15 := zn_of hb14
  have q16 := Nq.new hB3.fpb q15
  have q17 := Nq.madeO q15 hB3.bi
  have q18 := Zn.upD q15 hE8
  replace hB3 := hB3.ext hx12
  have hE19 := Ext.trans hE8 hx12
  refine op_g ha rfl (g_assign rfl) ?_; clear ha a; intro a ha; refine wpList_nil ?_; replace ha := ha.sub (σ' := [(1, (.int .i64 a1)), (2, (.pointer (some ⟨b1, 0, none⟩))), (5, v9)]) ⟨rfl, rfl, rfl, trivial⟩; refine e_then ?_; refine wp_seq ?_; refine wp_seq ?_; refine wp_region_lit ?_; refine op_g ha rfl (g_assign rfl) ?_; clear ha a; intro a ha; refine wpList_nil ?_; replace ha := ha.sub (σ' := [(1, (.int .i64 a1)), (2, (.pointer (some ⟨b1, 0, none⟩))), (5, v9), (6, (.int .i64 0))]) ⟨rfl, rfl, rfl, rfl, trivial⟩; refine e_then ?_; obtain ⟨o182, ho183, hK184⟩ := bnd_some hF
  obtain ⟨n185, hn186⟩ := lp_some ho183; clear ho183
  refine c_loop (fun a w => ∃ (l179 : (List Int)) (v180 : Value) (b181 : Int), Fr 27 [(5, v180)] a ∧ Chg [] W w ∧ Ow Rp.int 2 true w [] b181 v180 l179 ∧ Zn W b181 ∧ o182 = .inl l179) (fun n a w => ∃ (l101 : (List Int)) (i104 : Int) (v102 : Value) (b103 : Int), Fr 27 [(1, (.int .i64 a1)), (2, (.pointer (some ⟨b1, 0, none⟩))), (5, v102), (6, (.int .i64 i104))] a ∧ Chg [] W w ∧ InI i104 ∧ Bx w b1 [va0_0, va0_1] 33 ∧ Zn W (b1 : Int) ∧ Ow Rp.int 2 true w [] b103 v102 l101 ∧ Zn W b103 ∧ Nq ([b1]) b103 ∧ Nq (bl b103 ++ []) (b1 : Int) ∧ lpN (fun s => F_spec_l9With_l1 a0_0 a1 s.1 s.2) n (l101, i104) = some o182) n185 ⟨([] : (List Int)), 0, v9, b14, ha.sub ⟨rfl, rfl, rfl, rfl, trivial⟩, hE19, (show InI 0 from by decide), hB3, q7, h11, q18, q16, q17, hn186⟩ ?_ ?_
  · rintro m190 a w95 ⟨l101, i104, v102, b103, ha, hE108, hI105, hB96, z97, h99, z100, q106, q107, hF⟩
    cases m190 with
    | zero => exact (lpN_zero hF).elim
    | succ m190 =>
      obtain ⟨z189, hF, hN188⟩ := lpN_succ hF
      have hF : F_spec_l9With_l1 a0_0 a1 l101 i104 = some z189 := hF; unfold F_spec_l9With_l1 at hF
      refine wp_seq ?_; refine wp_seq ?_; refine wp_region_lit ?_; refine op_g ha rfl (g_move rfl) ?_; clear ha a; intro a ha; refine op_g ha rfl (g_field0 st33_0 rfl) ?_; clear ha a; intro a ha; refine op_g ha rfl (g_load Tryd.isAgg22 rfl (hB96.cell rfl)) ?_; clear ha a; intro a ha; refine op_g ha rfl (g_lenR sl22.und ha0_0 rfl) ?_; clear ha a; intro a ha; refine op_g ha rfl (g_lss rfl rfl) ?_; clear ha a; intro a ha; refine wpList_nil ?_; replace ha := ha.sub (σ' := [(1, (.int .i64 a1)), (2, (.pointer (some ⟨b1, 0, none⟩))), (5, v102), (6, (.int .i64 i104)), (12, (.bool (decide (i104 < (a0_0.length : Int)))))]) ⟨rfl, rfl, rfl, rfl, rfl, trivial⟩
      refine e_then ?_; refine c_cond (i104 < (a0_0.length : Int)) ha rfl (decide_eq_true_iff) (fun hp191 => ?_) (fun hp191 => ?_)
      · replace hF := if_t hp191 hF
        refine wp_skip ?_; refine e_then ?_; refine wp_seq ?_; refine wp_block ?_; refine wp_seq ?_; refine wp_region_lit ?_; refine op_g ha rfl (g_field0 st33_0 rfl) ?_; clear ha a; intro a ha; refine op_g ha rfl (g_load Tryd.isAgg22 rfl (hB96.cell rfl)) ?_; clear ha a; intro a ha; refine op_g ha rfl (g_move rfl) ?_; clear ha a; intro a ha; obtain ⟨x192, g193, gx194, hF⟩ := idx_some hF
        obtain ⟨p195, cs196, f197, hf198, hpb199, hat200, hr201, hi202⟩ := ha0_0.at g193 gx194
        obtain ⟨v203, rfl, h204⟩ := hr201
        have h204 : Ro Rp.int W f197 v203 x192 := h204
        refine op_g ha rfl (hi202.gives sl22 rfl rfl) ?_; clear ha a; intro a ha; refine op_g ha rfl (g_load0 hE108 Tryd.isAgg29 rfl hat200.one) ?_; clear ha a; intro a ha; refine op_g ha rfl (g_move rfl) ?_; clear ha a; intro a ha; obtain ⟨x206, hc207, hF⟩ := cal_some hF
        refine o_call ha rfl rfl Tryd.call61 (W_spec_l1Has (h204.ext hE108) ha1 hc207) ?_; clear ha a; rintro v208 w209 ⟨rfl, hx210⟩ a ha
        replace hB96 := hB96.ext hx210
        replace h99 := h99.ext hx210
        have hE211 := Ext.trans hE108 hx210
        refine wpList_nil ?_; replace ha := ha.sub (σ' := [(1, (.int .i64 a1)), (2, (.pointer (some ⟨b1, 0, none⟩))), (5, v102), (6, (.int .i64 i104)), (21, (.bool x206))]) ⟨rfl, rfl, rfl, rfl, rfl, trivial⟩; refine e_then ?_; refine c_cond (x206 = true) ha rfl (Iff.rfl) (fun hp212 => ?_) (fun hp212 => ?_)
        · replace hF := if_t hp212 hF
          refine wp_region_lit ?_; (iterate 2 refine op_g ha rfl (g_move rfl) ?_; clear ha a; intro a ha)
          refine o_lit1 (o := true) (y := i104) Rp.int ha rfl sl29 rfl rfl rfl ⟨rfl, hI105, rfl⟩ ?_; clear ha a; intro v213 w214 h215 hx216 a ha
          obtain ⟨b218, hb218⟩ : ∃ b : Int, b = w209.heap.size := ⟨_, rfl⟩; rw [← hb218] at h215
          have q219 := zn_of hb218
          have q220 := Nq.new hB96.fpb q219
          have q221 := Nq.madeO q219 hB96.bi
          have q222 := Nq.new h99.fpb q219
          have q223 := Nq.madeO q219 h99.blt
          have q224 := Zn.upD q219 hE211
          replace hB96 := hB96.ext hx216
          replace h99 := h99.ext hx216
          have hE225 := Ext.trans hE211 hx216
          obtain ⟨hl226, hF⟩ := app_some hF
          refine o_append ha rfl sl29 rfl rfl rfl h99 h215.src (Nq.nil _) hl226 ?_; clear ha a; intro v227 w228 b229 h230 hc231 hb232 a ha
          replace h230 : Ow Rp.int 2 true w228 [] b229 v227 _ := h230
          have q234 := Nq.appY q106 hB96.fpb hb232
          have q235 := Nq.appX q107 (Nq.nil _) hb232 hB96.bi
          have q236 := Nq.appY q223 h215.fpb hb232
          have q237 := Nq.appX q222 (Nq.nil _) hb232 h215.blt
          have q238 := Zn.appD z100 hb232 hE225
          replace hB96 := hB96.nq hc231 q106
          replace h215 := h215.nq hc231 q223
          have hE239 := Ext.then hE225 hc231 (Zn.bl z100)
          refine op_g ha rfl (g_assign rfl) ?_; clear ha a; intro a ha; refine wpList_nil ?_; replace ha := ha.sub (σ' := [(1, (.int .i64 a1)), (2, (.pointer (some ⟨b1, 0, none⟩))), (5, v227), (6, (.int .i64 i104))]) ⟨rfl, rfl, rfl, rfl, trivial⟩; refine e_blk ?_; refine e_then ?_; refine wp_region_lit ?_; refine op_g ha rfl (g_move rfl) ?_; clear ha a; intro a ha; obtain ⟨hI240, hF⟩ := ck_some hF; refine op_g ha rfl (g_add rfl rfl hI240) ?_; clear ha a; intro a ha; refine op_g ha rfl (g_assign rfl) ?_; clear ha a; intro a ha; refine wpList_nil ?_; replace ha := ha.sub (σ' := [(1, (.int .i64 a1)), (2, (.pointer (some ⟨b1, 0, none⟩))), (5, v227), (6, (.int .i64 (i104 + 1)))]) ⟨rfl, rfl, rfl, rfl, trivial⟩
          refine e_lq ?_; obtain rfl := Option.some.inj hF
          exact ⟨_, Nat.lt_succ_self _, (l101 ++ ([i104])), i104 + 1, v227, b229, ha.sub ⟨rfl, rfl, rfl, rfl, trivial⟩, hE239, hI240, hB96, z97, h230, q238, q234, q235, hN188⟩
        replace hF := if_f hp212 hF; refine wp_skip ?_; refine e_blk ?_; refine e_then ?_; refine wp_region_lit ?_; refine op_g ha rfl (g_move rfl) ?_; clear ha a; intro a ha; obtain ⟨hI242, hF⟩ := ck_some hF; refine op_g ha rfl (g_add rfl rfl hI242) ?_; clear ha a; intro a ha; refine op_g ha rfl (g_assign rfl) ?_; clear ha a; intro a ha; refine wpList_nil ?_; replace ha := ha.sub (σ' := [(1, (.int .i64 a1)), (2, (.pointer (some ⟨b1, 0, none⟩))), (5, v102), (6, (.int .i64 (i104 + 1)))]) ⟨rfl, rfl, rfl, rfl, trivial⟩; refine e_lq ?_; obtain rfl := Option.some.inj hF
        exact ⟨_, Nat.lt_succ_self _, l101, i104 + 1, v102, b103, ha.sub ⟨rfl, rfl, rfl, rfl, trivial⟩, hE211, hI242, hB96, z97, h99, z100, q106, q107, hN188⟩
      replace hF := if_f hp191 hF; refine wp_exit ?_; refine e_then_exit ?_; refine e_lq_eq ?_; obtain rfl := Option.some.inj hF
      exact ⟨l101, v102, b103, ha.sub ⟨rfl, trivial⟩, hE108, h99, z100, (LK_inr hN188).symm⟩
  rintro a w175 ⟨l179, v180, b181, ha, hE187, h177, z178, rfl⟩
  have hF : F_spec_l9With_k2 l179 = some _ := hK184; clear hK184; unfold F_spec_l9With_k2 at hF
  refine e_then ?_; refine wp_seq ?_; refine wp_region_lit ?_; refine op_g ha rfl (g_move rfl) ?_; clear ha a; intro a ha; refine op_g ha rfl (g_assign rfl) ?_; clear ha a; intro a ha; refine wpList_nil ?_; replace ha := ha.sub (σ' := [(4, v180)]) ⟨rfl, trivial⟩; refine e_then ?_; refine wp_ret ?_; obtain rfl := Option.some.inj hF
  exact f_ret1 ha rfl rfl ⟨_, h177, z178, hE187⟩
end Go.Proofs.YtadagcgehcpelaaDoor
