/- Walks, printed by gen.py. -/
import Derived.Test.YthbmcbflnibpbabF
import Derived.Test.YthbmcbflnibpbabDeep
import Derived.Test.YthbmcbflnibpbabSorts
import Derived.Test.YthbmcbflnibpbabProg
import Derived.KernelRfl
set_option maxRecDepth 100000
namespace Go.Proofs.Ythbmcbflnibpbab
open Go Go.RowKit

theorem hmix : Try.prog.follows .mixedOrders = true := by kernel_rfl
theorem sl22 : SlT Try.prog 22 2 1 8 (.int .i64 0) := ⟨by kernel_rfl, by kernel_rfl, by rfl⟩
theorem sl41 : SlT Try.prog 41 3 1 8 (.int .i64 0) := ⟨by kernel_rfl, by kernel_rfl, by rfl⟩
theorem sl36 : SlT Try.prog 36 52 1 4 (.int .u32 0) := ⟨by kernel_rfl, by kernel_rfl, by rfl⟩
theorem un4 : Try.prog.underlying 4 = some .bool := by kernel_rfl
set_option maxHeartbeats 2000000 in
theorem W_laws_toInt64S {W : World} {va0 : Value} {fa0 : List Nat} {a0 : (List Int)} (ha0 : Ro Rp.int W fa0 va0 a0) {r : (List Int)} (hF : F_laws_toInt64S a0 = some r) :
    Calls Try.prog 6 [va0].toArray W (Ret fun u w' => ∃ (b_u : Int), Ow Rp.int 2 true w' [] b_u u r ∧ Zn W b_u ∧ Ext W w') := by
  refine f_enter Try.func6 rfl Try.ntmps6 rfl ?_
  intro a ha
  replace ha : Fr 22 [(0, va0)] a := ha
  have hE : Chg [] W W := Chg.refl _ _
  unfold F_laws_toInt64S at hF
  refine wp_seq ?_; refine wp_region_lit ?_; refine op_g ha rfl (g_assign rfl) ?_; clear ha a; intro a ha; refine wpList_nil ?_; replace ha := ha.sub (σ' := [(0, va0)]) ⟨rfl, trivial⟩; refine e_then ?_; refine wp_seq ?_; refine wp_region_lit ?_; refine op_g ha rfl (g_move rfl) ?_; clear ha a; intro a ha; refine op_g ha rfl (g_lenR sl22.und ha0 rfl) ?_; clear ha a; intro a ha; obtain ⟨g5, g5b, hF⟩ := mkS_some hF
  refine o_make (z0 := (0 : Int)) Rp.int ha rfl sl22 rfl (fun w => ⟨rfl, by decide, rfl⟩) rfl g5 g5b ?_; clear ha a; intro v1 w2 h3 hx4 a ha
  obtain ⟨b8, hb8⟩ : ∃ b : Int, b = W.heap.size := ⟨_, rfl⟩; rw [← hb8] at h3
  have q9 := zn_of hb8
  have q10 := Zn.upD q9 hE
  have hE11 := Ext.trans hE hx4
  refine op_g ha rfl (g_assign rfl) ?_; clear ha a; intro a ha; refine wpList_nil ?_; replace ha := ha.sub (σ' := [(0, va0), (3, v1)]) ⟨rfl, rfl, trivial⟩; refine e_then ?_; refine wp_seq ?_; refine wp_seq ?_; refine wp_region_lit ?_; refine op_g ha rfl (g_assign rfl) ?_; clear ha a; intro a ha; refine wpList_nil ?_; refine e_then ?_; obtain ⟨o118, ho119, hK120⟩ := bnd_some hF
  obtain ⟨n121, hn122⟩ := lp_some ho119; clear ho119
  refine c_loop (fun a w => ∃ (l115 : (List Int)) (v116 : Value) (b117 : Int), Fr 22 [(3, v116)] a ∧ Chg [] W w ∧ Ow Rp.int 2 true w [] b117 v116 l115 ∧ Zn W b117 ∧ o118 = .inl l115) (fun n a w => ∃ (l63 : (List Int)) (i66 : Int) (v64 : Value) (b65 : Int), Fr 22 [(0, va0), (3, v64), (4, (.int .i64 i66))] a ∧ Chg [] W w ∧ InI i66 ∧ Ow Rp.int 2 true w [] b65 v64 l63 ∧ Zn W b65 ∧ lpN (fun s => F_laws_toInt64S_l1 a0 s.1 s.2) n (l63, i66) = some o118) n121 ⟨(List.replicate ((a0.length : Int) : Int).toNat (0 : Int)), 0, v1, b8, ha.sub ⟨rfl, rfl, rfl, trivial⟩, hE11, (show InI 0 from by decide), h3, q10, hn122⟩ ?_ ?_
  · rintro m126 a w59 ⟨l63, i66, v64, b65, ha, hE68, hI67, h61, z62, hF⟩
    cases m126 with
    | zero => exact (lpN_zero hF).elim
    | succ m126 =>
      obtain ⟨z125, hF, hN124⟩ := lpN_succ hF
      have hF : F_laws_toInt64S_l1 a0 l63 i66 = some z125 := hF; unfold F_laws_toInt64S_l1 at hF
      refine wp_seq ?_; refine wp_seq ?_; refine wp_region_lit ?_; (iterate 2 refine op_g ha rfl (g_move rfl) ?_; clear ha a; intro a ha); refine op_g ha rfl (g_lenR sl22.und ha0 rfl) ?_; clear ha a; intro a ha; refine op_g ha rfl (g_lss rfl rfl) ?_; clear ha a; intro a ha; refine wpList_nil ?_; replace ha := ha.sub (σ' := [(0, va0), (3, v64), (4, (.int .i64 i66)), (11, (.bool (decide (i66 < (a0.length : Int)))))]) ⟨rfl, rfl, rfl, rfl, trivial⟩; refine e_then ?_; refine c_cond (i66 < (a0.length : Int)) ha rfl (decide_eq_true_iff) (fun hp127 => ?_) (fun hp127 => ?_)
      · replace hF := if_t hp127 hF
        refine wp_skip ?_; refine e_then ?_; refine wp_seq ?_; refine wp_block ?_; refine wp_region_lit ?_; (iterate 4 refine op_g ha rfl (g_move rfl) ?_; clear ha a; intro a ha); obtain ⟨x128, g129, gx130, hF⟩ := idx_some hF
        obtain ⟨p131, cs132, f133, hf134, hpb135, hat136, hr137, hi138⟩ := ha0.at g129 gx130
        obtain ⟨rfl, hI139, rfl⟩ := hr137
        refine op_g ha rfl (hi138.gives sl22 rfl rfl) ?_; clear ha a; intro a ha; refine op_g ha rfl (g_load0 hE68 Try.isAgg2 rfl hat136.one) ?_; clear ha a; intro a ha; obtain ⟨x140, g141, gx142, hF⟩ := idx_some hF
        obtain ⟨p143, cs144, f145, hf146, hpb147, hat148, hr149, hi150⟩ := h61.at g141 gx142
        obtain ⟨rfl, hI151, rfl⟩ := hr149
        refine op_g ha rfl (hi150.gives sl22 rfl rfl) ?_; clear ha a; intro a ha
        refine o_storeE (f := []) (q := x128) ha Try.sizeOf2 rfl rfl rfl h61 hi150 ⟨rfl, hI139, rfl⟩ (Nq.nil _) ?_; intro w152 fs153 h154 hc155 hs156
        obtain rfl := Subst.nil hs156
        have hE157 := Ext.then hE68 hc155 (Zn.bl z62)
        refine wpList_nil ?_; replace ha := ha.sub (σ' := [(0, va0), (3, v64), (4, (.int .i64 i66))]) ⟨rfl, rfl, rfl, trivial⟩; refine e_blk ?_; refine e_then ?_; refine wp_region_lit ?_; refine op_g ha rfl (g_move rfl) ?_; clear ha a; intro a ha; obtain ⟨hI158, hF⟩ := ck_some hF; refine op_g ha rfl (g_add rfl rfl hI158) ?_; clear ha a; intro a ha; refine op_g ha rfl (g_assign rfl) ?_; clear ha a; intro a ha; refine wpList_nil ?_; replace ha := ha.sub (σ' := [(0, va0), (3, v64), (4, (.int .i64 (i66 + 1)))]) ⟨rfl, rfl, rfl, trivial⟩; refine e_lq ?_; obtain rfl := Option.some.inj hF
        exact ⟨_, Nat.lt_succ_self _, (l63.set ((i66 : Int).toNat) x128), i66 + 1, v64, b65, ha.sub ⟨rfl, rfl, rfl, trivial⟩, hE157, hI158, h154, z62, hN124⟩
      replace hF := if_f hp127 hF; refine wp_exit ?_; refine e_then_exit ?_; refine e_lq_eq ?_; obtain rfl := Option.some.inj hF
      exact ⟨l63, v64, b65, ha.sub ⟨rfl, trivial⟩, hE68, h61, z62, (LK_inr hN124).symm⟩
  rintro a w111 ⟨l115, v116, b117, ha, hE123, h113, z114, rfl⟩
  have hF : F_laws_toInt64S_k2 l115 = some _ := hK120; clear hK120; unfold F_laws_toInt64S_k2 at hF
  refine e_then ?_; refine wp_seq ?_; refine wp_region_lit ?_; refine op_g ha rfl (g_move rfl) ?_; clear ha a; intro a ha; refine op_g ha rfl (g_assign rfl) ?_; clear ha a; intro a ha; refine wpList_nil ?_; replace ha := ha.sub (σ' := [(2, v116)]) ⟨rfl, trivial⟩; refine e_then ?_; refine wp_ret ?_; obtain rfl := Option.some.inj hF
  exact f_ret1 ha rfl rfl ⟨_, h113, z114, hE123⟩
set_option maxHeartbeats 2000000 in
theorem W_spec_l1In {W : World} {a0 : Int} (ha0 : InI a0) {a1 : Int} (ha1 : InI a1) {a2 : Int} (ha2 : InI a2) {r : Bool} (hF : F_spec_l1In a0 a1 a2 = some r) :
    Calls Try.prog 31 [.int .i64 a0, .int .i64 a1, .int .i64 a2].toArray W (Ret fun u w' => u = .bool r ∧ Ext W w') := by
  refine f_enter Try.func31 rfl Try.ntmps31 rfl ?_
  intro a ha
  replace ha : Fr 15 [(0, (.int .i64 a0)), (1, (.int .i64 a1)), (2, (.int .i64 a2))] a := ha
  have hE : Chg [] W W := Chg.refl _ _
  unfold F_spec_l1In at hF
  refine wp_seq ?_; refine wp_region_lit ?_; refine op_g ha rfl (g_assign rfl) ?_; clear ha a; intro a ha; refine wpList_nil ?_; replace ha := ha.sub (σ' := [(0, (.int .i64 a0)), (1, (.int .i64 a1)), (2, (.int .i64 a2))]) ⟨rfl, rfl, rfl, trivial⟩; refine e_then ?_; refine wp_seq ?_; refine wp_region_lit ?_; (iterate 2 refine op_g ha rfl (g_move rfl) ?_; clear ha a; intro a ha); refine op_g ha rfl (g_geq rfl rfl) ?_; clear ha a; intro a ha; refine op_g ha rfl (g_move rfl) ?_; clear ha a; intro a ha
  by_cases hp1 : a1 ≤ a0
  · replace hF := if_t hp1 hF
    rw [show (decide (a1 ≤ a0)) = true from (decide_eq_true_iff).2 hp1] at ha
    refine op_want (yields ha rfl rfl) ?_; refine op_g ha rfl (g_move rfl) ?_; clear ha a; intro a ha; refine op_want (yields ha rfl rfl) ?_; refine op_g ha rfl (g_move rfl) ?_; clear ha a; intro a ha; refine op_want (yields ha rfl rfl) ?_; refine op_g ha rfl (g_leq rfl rfl) ?_; clear ha a; intro a ha; refine op_g ha rfl (g_pick rfl rfl) ?_; clear ha a; intro a ha; refine op_g ha rfl (g_assign rfl) ?_; clear ha a; intro a ha; refine wpList_nil ?_; replace ha := ha.sub (σ' := [(6, (.bool (decide (a0 ≤ a2))))]) ⟨rfl, trivial⟩; refine e_then ?_; refine wp_ret ?_; obtain rfl := Option.some.inj hF
    exact f_ret1 ha rfl rfl ⟨rfl, hE⟩
  replace hF := if_f hp1 hF
  rw [show (decide (a1 ≤ a0)) = false from b_false (decide_eq_true_iff) hp1] at ha
  (iterate 3 refine op_unwant ha rfl (yields ha rfl rfl) rfl ?_; clear ha a; intro a ha); refine op_g ha rfl (g_pick rfl rfl) ?_; clear ha a; intro a ha; refine op_g ha rfl (g_assign rfl) ?_; clear ha a; intro a ha; refine wpList_nil ?_; replace ha := ha.sub (σ' := [(6, (.bool false))]) ⟨rfl, trivial⟩; refine e_then ?_; refine wp_ret ?_; obtain rfl := Option.some.inj hF
  exact f_ret1 ha rfl rfl ⟨rfl, hE⟩
set_option maxHeartbeats 2000000 in
theorem W_spec_l1Has {W : World} {va0 : Value} {fa0 : List Nat} {a0 : (List Int)} (ha0 : Ro Rp.int W fa0 va0 a0) {a1 : Int} (ha1 : InI a1) {r : Bool} (hF : F_spec_l1Has a0 a1 = some r) :
    Calls Try.prog 13 [va0, .int .i64 a1].toArray W (Ret fun u w' => u = .bool r ∧ Ext W w') := by
  refine f_enter Try.func13 rfl Try.ntmps13 rfl ?_
  intro a ha
  replace ha : Fr 18 [(0, va0), (1, (.int .i64 a1))] a := ha
  have hE : Chg [] W W := Chg.refl _ _
  unfold F_spec_l1Has at hF
  refine wp_seq ?_; refine wp_region_lit ?_; refine op_g ha rfl (g_assign rfl) ?_; clear ha a; intro a ha; refine wpList_nil ?_; replace ha := ha.sub (σ' := [(0, va0), (1, (.int .i64 a1))]) ⟨rfl, rfl, trivial⟩; refine e_then ?_; refine wp_seq ?_; refine wp_seq ?_; refine wp_region_lit ?_; refine op_g ha rfl (g_assign rfl) ?_; clear ha a; intro a ha; refine wpList_nil ?_; refine e_then ?_; obtain ⟨o46, ho47, hK48⟩ := bnd_some hF
  obtain ⟨n49, hn50⟩ := lp_some ho47; clear ho47
  refine c_loop (fun a w => Fr 18 [] a ∧ Chg [] W w ∧ o46 = .inl ()) (fun n a w => ∃ (i23 : Int), Fr 18 [(0, va0), (1, (.int .i64 a1)), (5, (.int .i64 i23))] a ∧ Chg [] W w ∧ InI i23 ∧ lpN (fun s => F_spec_l1Has_l1 a0 a1 s) n i23 = some o46) n49 ⟨0, ha.sub ⟨rfl, rfl, rfl, trivial⟩, hE, (show InI 0 from by decide), hn50⟩ ?_ ?_
  · rintro m54 a w22 ⟨i23, ha, hE25, hI24, hF⟩
    cases m54 with
    | zero => exact (lpN_zero hF).elim
    | succ m54 =>
      obtain ⟨z53, hF, hN52⟩ := lpN_succ hF
      have hF : F_spec_l1Has_l1 a0 a1 i23 = some z53 := hF; unfold F_spec_l1Has_l1 at hF
      refine wp_seq ?_; refine wp_seq ?_; refine wp_region_lit ?_; (iterate 2 refine op_g ha rfl (g_move rfl) ?_; clear ha a; intro a ha); refine op_g ha rfl (g_lenR sl22.und ha0 rfl) ?_; clear ha a; intro a ha; refine op_g ha rfl (g_lss rfl rfl) ?_; clear ha a; intro a ha; refine wpList_nil ?_; replace ha := ha.sub (σ' := [(0, va0), (1, (.int .i64 a1)), (5, (.int .i64 i23)), (9, (.bool (decide (i23 < (a0.length : Int)))))]) ⟨rfl, rfl, rfl, rfl, trivial⟩; refine e_then ?_; refine c_cond (i23 < (a0.length : Int)) ha rfl (decide_eq_true_iff) (fun hp55 => ?_) (fun hp55 => ?_)
      · replace hF := if_t hp55 hF
        refine wp_skip ?_; refine e_then ?_; refine wp_seq ?_; refine wp_block ?_; refine wp_seq ?_; refine wp_region_lit ?_; (iterate 2 refine op_g ha rfl (g_move rfl) ?_; clear ha a; intro a ha); obtain ⟨x56, g57, gx58, hF⟩ := idx_some hF
        obtain ⟨p59, cs60, f61, hf62, hpb63, hat64, hr65, hi66⟩ := ha0.at g57 gx58
        obtain ⟨rfl, hI67, rfl⟩ := hr65
        refine op_g ha rfl (hi66.gives sl22 rfl rfl) ?_; clear ha a; intro a ha; refine op_g ha rfl (g_load0 hE25 Try.isAgg2 rfl hat64.one) ?_; clear ha a; intro a ha; refine op_g ha rfl (g_move rfl) ?_; clear ha a; intro a ha; refine op_g ha rfl (g_eql rfl rfl) ?_; clear ha a; intro a ha; refine wpList_nil ?_; replace ha := ha.sub (σ' := [(0, va0), (1, (.int .i64 a1)), (5, (.int .i64 i23)), (17, (.bool (decide (x56 = a1))))]) ⟨rfl, rfl, rfl, rfl, trivial⟩; refine e_then ?_; refine c_cond (x56 = a1) ha rfl (decide_eq_true_iff) (fun hp68 => ?_) (fun hp68 => ?_)
        · replace hF := if_t hp68 hF
          refine wp_seq ?_; refine wp_region_lit ?_; refine op_g ha rfl (g_assign rfl) ?_; clear ha a; intro a ha; refine wpList_nil ?_; replace ha := ha.sub (σ' := [(4, (.bool true))]) ⟨rfl, trivial⟩; refine e_then ?_; refine wp_ret ?_; refine e_blk_ret ?_; refine e_then_ret ?_; refine e_lq_ret ?_; refine e_then_ret ?_; obtain rfl := Option.some.inj hF
          have e69 := LK_inr hN52; subst e69
          have e70 := BK_inr hK48; subst e70
          exact f_ret1 ha rfl rfl ⟨rfl, hE25⟩
        replace hF := if_f hp68 hF; refine wp_skip ?_; refine e_blk ?_; refine e_then ?_; refine wp_region_lit ?_; refine op_g ha rfl (g_move rfl) ?_; clear ha a; intro a ha; obtain ⟨hI71, hF⟩ := ck_some hF; refine op_g ha rfl (g_add rfl rfl hI71) ?_; clear ha a; intro a ha; refine op_g ha rfl (g_assign rfl) ?_; clear ha a; intro a ha; refine wpList_nil ?_; replace ha := ha.sub (σ' := [(0, va0), (1, (.int .i64 a1)), (5, (.int .i64 (i23 + 1)))]) ⟨rfl, rfl, rfl, trivial⟩; refine e_lq ?_; obtain rfl := Option.some.inj hF
        exact ⟨_, Nat.lt_succ_self _, i23 + 1, ha.sub ⟨rfl, rfl, rfl, trivial⟩, hE25, hI71, hN52⟩
      replace hF := if_f hp55 hF; refine wp_exit ?_; refine e_then_exit ?_; refine e_lq_eq ?_; obtain rfl := Option.some.inj hF
      exact ⟨ha.sub trivial, hE25, (LK_inr hN52).symm⟩
  rintro a w45 ⟨ha, hE51, rfl⟩
  have hF : F_spec_l1Has_k2 = some _ := hK48; clear hK48; unfold F_spec_l1Has_k2 at hF
  refine e_then ?_; refine wp_seq ?_; refine wp_region_lit ?_; refine op_g ha rfl (g_assign rfl) ?_; clear ha a; intro a ha; refine wpList_nil ?_; refine e_then ?_; refine wp_ret ?_; obtain rfl := Option.some.inj hF
  exact f_ret1 ha rfl rfl ⟨rfl, hE51⟩
set_option maxHeartbeats 2000000 in
theorem W_spec_l15Line {W : World} {va0 : Value} {fa0 : List Nat} {a0 : (List Int)} (ha0 : Ro Rp.int W fa0 va0 a0) {r : Bool} (hF : F_spec_l15Line a0 = some r) :
    Calls Try.prog 25 [va0].toArray W (Ret fun u w' => u = .bool r ∧ Ext W w') := by
  refine f_enter Try.func25 rfl Try.ntmps25 rfl ?_
  intro a ha
  replace ha : Fr 33 [(0, va0)] a := ha
  have hE : Chg [] W W := Chg.refl _ _
  unfold F_spec_l15Line at hF
  refine wp_seq ?_; refine wp_region_lit ?_; refine op_g ha rfl (g_assign rfl) ?_; clear ha a; intro a ha; refine wpList_nil ?_; replace ha := ha.sub (σ' := [(0, va0)]) ⟨rfl, trivial⟩; refine e_then ?_; refine wp_seq ?_; refine wp_seq ?_; refine wp_region_lit ?_; refine op_g ha rfl (g_move rfl) ?_; clear ha a; intro a ha; refine op_g ha rfl (g_lenR sl22.und ha0 rfl) ?_; clear ha a; intro a ha; obtain ⟨x1, hc2, hF⟩ := cal_some hF
  refine o_call ha rfl rfl Try.call31 (W_spec_l1In ha0.len (show InI 1 from by decide) (show InI 16 from by decide) hc2) ?_; clear ha a; rintro v3 w4 ⟨rfl, hx5⟩ a ha
  have hE6 := Ext.trans hE hx5
  refine op_g ha rfl (g_not rfl) ?_; clear ha a; intro a ha; refine wpList_nil ?_; replace ha := ha.sub (σ' := [(0, va0), (7, (.bool (!x1)))]) ⟨rfl, rfl, trivial⟩; refine e_then ?_; refine c_cond (¬ (x1 = true)) ha rfl (n_iff (Iff.rfl)) (fun hp7 => ?_) (fun hp7 => ?_)
  · replace hF := if_t hp7 hF
    refine wp_seq ?_; refine wp_region_lit ?_; refine op_g ha rfl (g_assign rfl) ?_; clear ha a; intro a ha; refine wpList_nil ?_; replace ha := ha.sub (σ' := [(2, (.bool false))]) ⟨rfl, trivial⟩; refine e_then ?_; refine wp_ret ?_; refine e_then_ret ?_; obtain rfl := Option.some.inj hF
    exact f_ret1 ha rfl rfl ⟨rfl, hE6⟩
  replace hF := if_f hp7 hF; refine wp_skip ?_; refine e_then ?_; refine wp_seq ?_; refine wp_seq ?_; refine wp_region_lit ?_; refine op_g ha rfl (g_assign rfl) ?_; clear ha a; intro a ha; refine wpList_nil ?_; replace ha := ha.sub (σ' := [(0, va0), (3, (.int .i64 0))]) ⟨rfl, rfl, trivial⟩; refine e_then ?_; obtain ⟨o125, ho126, hK127⟩ := bnd_some hF
  obtain ⟨n128, hn129⟩ := lp_some ho126; clear ho126
  refine c_loop (fun a w => Fr 33 [] a ∧ Chg [] W w ∧ o125 = .inl ()) (fun n a w => ∃ (i66 : Int), Fr 33 [(0, va0), (3, (.int .i64 i66))] a ∧ Chg [] W w ∧ InI i66 ∧ lpN (fun s => F_spec_l15Line_l1 a0 s) n i66 = some o125) n128 ⟨0, ha.sub ⟨rfl, rfl, trivial⟩, hE6, (show InI 0 from by decide), hn129⟩ ?_ ?_
  · rintro m133 a w65 ⟨i66, ha, hE68, hI67, hF⟩
    cases m133 with
    | zero => exact (lpN_zero hF).elim
    | succ m133 =>
      obtain ⟨z132, hF, hN131⟩ := lpN_succ hF
      have hF : F_spec_l15Line_l1 a0 i66 = some z132 := hF; unfold F_spec_l15Line_l1 at hF
      refine wp_seq ?_; refine wp_seq ?_; refine wp_region_lit ?_; (iterate 2 refine op_g ha rfl (g_move rfl) ?_; clear ha a; intro a ha); refine op_g ha rfl (g_lenR sl22.und ha0 rfl) ?_; clear ha a; intro a ha; refine op_g ha rfl (g_lss rfl rfl) ?_; clear ha a; intro a ha; refine wpList_nil ?_; replace ha := ha.sub (σ' := [(0, va0), (3, (.int .i64 i66)), (11, (.bool (decide (i66 < (a0.length : Int)))))]) ⟨rfl, rfl, rfl, trivial⟩; refine e_then ?_; refine c_cond (i66 < (a0.length : Int)) ha rfl (decide_eq_true_iff) (fun hp134 => ?_) (fun hp134 => ?_)
      · replace hF := if_t hp134 hF
        refine wp_skip ?_; refine e_then ?_; refine wp_seq ?_; refine wp_block ?_; refine wp_seq ?_; refine d_quiet hmix (by kernel_rfl) ?_; (iterate 2 refine q_g ha rfl (g_move rfl) ?_; clear ha a; intro a ha); obtain ⟨x135, g136, gx137, hF⟩ := idx_some hF
        obtain ⟨p138, cs139, f140, hf141, hpb142, hat143, hr144, hi145⟩ := ha0.at g136 gx137
        obtain ⟨rfl, hI146, rfl⟩ := hr144
        refine q_g ha rfl (hi145.gives sl22 rfl rfl) ?_; clear ha a; intro a ha; refine q_g ha rfl (g_load0 hE68 Try.isAgg2 rfl hat143.one) ?_; clear ha a; intro a ha; refine q_g ha rfl (g_move rfl) ?_; clear ha a; intro a ha; refine q_g ha rfl (g_lenR sl22.und ha0 rfl) ?_; clear ha a; intro a ha; obtain ⟨hI147, hF⟩ := ck_some hF; refine q_g ha rfl (g_sub rfl rfl hI147) ?_; clear ha a; intro a ha; obtain ⟨x151, hc152, hF⟩ := cal_some hF; refine q_call (.bool x151) ha rfl rfl Try.call31 (fun w150 hx149 => W_spec_l1In hI146 (show InI 0 from by decide) hI147 hc152) (fun _ _ _ h => ⟨h.1, h.2⟩) ?_; clear ha a; intro a ha
        refine q_g ha rfl (g_not rfl) ?_; clear ha a; intro a ha; refine q_g ha rfl (g_move rfl) ?_; clear ha a; intro a ha
        by_cases hp153 : ¬ (x151 = true)
        · replace hF := if_t hp153 hF
          rw [show (!x151) = true from (n_iff (Iff.rfl)).2 hp153] at ha
          (iterate 8 refine q_unwant ha rfl (yields ha rfl rfl) rfl ?_; clear ha a; intro a ha); refine q_g ha rfl (g_pick rfl rfl) ?_; clear ha a; intro a ha
          refine q_nil ?_; intro w154 hx155
          have hE156 := Ext.trans hE68 hx155
          replace ha := ha.sub (σ' := [(0, va0), (3, (.int .i64 i66)), (32, (.bool true))]) ⟨rfl, rfl, rfl, trivial⟩; refine e_then ?_; refine c_true ha rfl ?_; refine wp_seq ?_; refine wp_region_lit ?_; refine op_g ha rfl (g_assign rfl) ?_; clear ha a; intro a ha; refine wpList_nil ?_; replace ha := ha.sub (σ' := [(2, (.bool false))]) ⟨rfl, trivial⟩; refine e_then ?_; refine wp_ret ?_; refine e_blk_ret ?_; refine e_then_ret ?_; refine e_lq_ret ?_; refine e_then_ret ?_; obtain rfl := Option.some.inj hF
          have e157 := LK_inr hN131; subst e157
          have e158 := BK_inr hK127; subst e158
          exact f_ret1 ha rfl rfl ⟨rfl, hE156⟩
        replace hF := if_f hp153 hF
        rw [show (!x151) = false from b_false (n_iff (Iff.rfl)) hp153] at ha
        refine q_want (yields ha rfl rfl) ?_; refine q_g ha rfl (g_move rfl) ?_; clear ha a; intro a ha; refine q_want (yields ha rfl rfl) ?_; refine q_g ha rfl (g_move rfl) ?_; clear ha a; intro a ha; refine q_want (yields ha rfl rfl) ?_; obtain ⟨hb159a, hb159b, hb159c, hF⟩ := slc_some hF
        obtain ⟨v160, fp161, hrun162, hro163, hsub164⟩ := ha0.slice (lo := none) (hi := (some (.int .i64 i66))) (i := 0) (j := i66) sl22 (.inl ⟨rfl, rfl⟩) (.inr ⟨_, rfl⟩) ⟨hb159a, hb159b, hb159c⟩
        refine q_g ha rfl (g_slice sl22.und rfl rfl rfl hrun162) ?_; clear ha a; intro a ha; refine q_want (yields ha rfl rfl) ?_; refine q_g ha rfl (g_move rfl) ?_; clear ha a; intro a ha; refine q_want (yields ha rfl rfl) ?_; refine q_g ha rfl (g_move rfl) ?_; clear ha a; intro a ha; refine q_want (yields ha rfl rfl) ?_; obtain ⟨x166, g167, gx168, hF⟩ := idx_some hF
        obtain ⟨p169, cs170, f171, hf172, hpb173, hat174, hr175, hi176⟩ := ha0.at g167 gx168
        obtain ⟨rfl, hI177, rfl⟩ := hr175
        refine q_g ha rfl (hi176.gives sl22 rfl rfl) ?_; clear ha a; intro a ha; refine q_want (yields ha rfl rfl) ?_; refine q_g ha rfl (g_load0 hE68 Try.isAgg2 rfl hat174.one) ?_; clear ha a; intro a ha; refine q_want (yields ha rfl rfl) ?_; obtain ⟨x180, hc181, hF⟩ := cal_some hF; refine q_call (.bool x180) ha rfl rfl Try.call13 (fun w179 hx178 => W_spec_l1Has (hro163.ext (Ext.trans hE68 hx178)) hI177 hc181) (fun _ _ _ h => ⟨h.1, h.2⟩) ?_; clear ha a; intro a ha; refine q_g ha rfl (g_pick rfl rfl) ?_; clear ha a; intro a ha
        refine q_nil ?_; intro w182 hx183
        have hE184 := Ext.trans hE68 hx183
        replace ha := ha.sub (σ' := [(0, va0), (3, (.int .i64 i66)), (24, va0), (25, (.int .i64 i66)), (26, v160), (27, va0), (28, (.int .i64 i66)), (29, (.pointer (some p169))), (30, (.int .i64 x166)), (31, (.bool x180)), (32, (.bool x180))]) ⟨rfl, rfl, rfl, rfl, rfl, rfl, rfl, rfl, rfl, rfl, rfl, trivial⟩; refine e_then ?_; refine c_cond (x180 = true) ha rfl (Iff.rfl) (fun hp185 => ?_) (fun hp185 => ?_)
        · replace hF := if_t hp185 hF
          refine wp_seq ?_; refine wp_region_lit ?_; refine op_g ha rfl (g_assign rfl) ?_; clear ha a; intro a ha; refine wpList_nil ?_; replace ha := ha.sub (σ' := [(2, (.bool false))]) ⟨rfl, trivial⟩; refine e_then ?_; refine wp_ret ?_; refine e_blk_ret ?_; refine e_then_ret ?_; refine e_lq_ret ?_; refine e_then_ret ?_; obtain rfl := Option.some.inj hF
          have e186 := LK_inr hN131; subst e186
          have e187 := BK_inr hK127; subst e187
          exact f_ret1 ha rfl rfl ⟨rfl, hE184⟩
        replace hF := if_f hp185 hF; refine wp_skip ?_; refine e_blk ?_; refine e_then ?_; refine wp_region_lit ?_; refine op_g ha rfl (g_move rfl) ?_; clear ha a; intro a ha; obtain ⟨hI188, hF⟩ := ck_some hF; refine op_g ha rfl (g_add rfl rfl hI188) ?_; clear ha a; intro a ha; refine op_g ha rfl (g_assign rfl) ?_; clear ha a; intro a ha; refine wpList_nil ?_; replace ha := ha.sub (σ' := [(0, va0), (3, (.int .i64 (i66 + 1))), (24, va0), (25, (.int .i64 i66)), (26, v160), (27, va0), (28, (.int .i64 i66)), (29, (.pointer (some p169))), (30, (.int .i64 x166)), (31, (.bool x180))]) ⟨rfl, rfl, rfl, rfl, rfl, rfl, rfl, rfl, rfl, rfl, trivial⟩
        refine e_lq ?_; obtain rfl := Option.some.inj hF
        exact ⟨_, Nat.lt_succ_self _, i66 + 1, ha.sub ⟨rfl, rfl, trivial⟩, hE184, hI188, hN131⟩
      replace hF := if_f hp134 hF; refine wp_exit ?_; refine e_then_exit ?_; refine e_lq_eq ?_; obtain rfl := Option.some.inj hF
      exact ⟨ha.sub trivial, hE68, (LK_inr hN131).symm⟩
  rintro a w124 ⟨ha, hE130, rfl⟩
  have hF : F_spec_l15Line_k2 = some _ := hK127; clear hK127; unfold F_spec_l15Line_k2 at hF
  refine e_then ?_; refine wp_seq ?_; refine wp_region_lit ?_; refine op_g ha rfl (g_assign rfl) ?_; clear ha a; intro a ha; refine wpList_nil ?_; refine e_then ?_; refine wp_ret ?_; obtain rfl := Option.some.inj hF
  exact f_ret1 ha rfl rfl ⟨rfl, hE130⟩
set_option maxHeartbeats 2000000 in
theorem W_spec_l15Lines {W : World} {va0 : Value} {fa0 : List Nat} {a0 : (List Int)} (ha0 : Ro Rp.int W fa0 va0 a0) {va1 : Value} {fa1 : List Nat} {a1 : (List Int)} (ha1 : Ro Rp.int W fa1 va1 a1) {r : Bool} (hF : F_spec_l15Lines a0 a1 = some r) :
    Calls Try.prog 17 [va0, va1].toArray W (Ret fun u w' => u = .bool r ∧ Ext W w') := by
  refine f_enter Try.func17 rfl Try.ntmps17 rfl ?_
  intro a ha
  replace ha : Fr 18 [(0, va0), (1, va1)] a := ha
  have hE : Chg [] W W := Chg.refl _ _
  unfold F_spec_l15Lines at hF
  refine wp_seq ?_; refine wp_region_lit ?_; refine op_g ha rfl (g_assign rfl) ?_; clear ha a; intro a ha; refine wpList_nil ?_; replace ha := ha.sub (σ' := [(0, va0), (1, va1)]) ⟨rfl, rfl, trivial⟩; refine e_then ?_; refine wp_seq ?_; refine wp_region_lit ?_; refine op_g ha rfl (g_move rfl) ?_; clear ha a; intro a ha; obtain ⟨x1, hc2, hF⟩ := cal_some hF
  refine o_call ha rfl rfl Try.call25 (W_spec_l15Line (ha0.ext hE) hc2) ?_; clear ha a; rintro v3 w4 ⟨rfl, hx5⟩ a ha
  have hE6 := Ext.trans hE hx5
  refine op_g ha rfl (g_move rfl) ?_; clear ha a; intro a ha
  by_cases hp7 : x1 = true
  · replace hF := if_t hp7 hF
    rw [show (x1) = true from (Iff.rfl).2 hp7] at ha
    refine op_want (yields ha rfl rfl) ?_; refine op_g ha rfl (g_move rfl) ?_; clear ha a; intro a ha; refine op_want (yields ha rfl rfl) ?_; obtain ⟨x8, hc9, hF⟩ := cal_some hF
    refine o_call ha rfl rfl Try.call25 (W_spec_l15Line (ha1.ext hE6) hc9) ?_; clear ha a; rintro v10 w11 ⟨rfl, hx12⟩ a ha
    have hE13 := Ext.trans hE6 hx12
    refine op_g ha rfl (g_pick rfl rfl) ?_; clear ha a; intro a ha; refine op_g ha rfl (g_move rfl) ?_; clear ha a; intro a ha
    by_cases hp14 : x8 = true
    · replace hF := if_t hp14 hF
      rw [show (x8) = true from (Iff.rfl).2 hp14] at ha
      refine op_want (yields ha rfl rfl) ?_; refine op_g ha rfl (g_move rfl) ?_; clear ha a; intro a ha; refine op_want (yields ha rfl rfl) ?_; refine op_g ha rfl (g_lenR sl22.und ha0 rfl) ?_; clear ha a; intro a ha; refine op_want (yields ha rfl rfl) ?_; refine op_g ha rfl (g_move rfl) ?_; clear ha a; intro a ha; refine op_want (yields ha rfl rfl) ?_; refine op_g ha rfl (g_lenR sl22.und ha1 rfl) ?_; clear ha a; intro a ha; refine op_want (yields ha rfl rfl) ?_; refine op_g ha rfl (g_eql rfl rfl) ?_; clear ha a; intro a ha; refine op_g ha rfl (g_pick rfl rfl) ?_; clear ha a; intro a ha; refine op_g ha rfl (g_assign rfl) ?_; clear ha a; intro a ha
      refine wpList_nil ?_; replace ha := ha.sub (σ' := [(4, (.bool (decide ((a0.length : Int) = (a1.length : Int)))))]) ⟨rfl, trivial⟩; refine e_then ?_; refine wp_ret ?_; obtain rfl := Option.some.inj hF
      exact f_ret1 ha rfl rfl ⟨rfl, hE13⟩
    replace hF := if_f hp14 hF
    rw [show (x8) = false from b_false (Iff.rfl) hp14] at ha
    (iterate 5 refine op_unwant ha rfl (yields ha rfl rfl) rfl ?_; clear ha a; intro a ha); refine op_g ha rfl (g_pick rfl rfl) ?_; clear ha a; intro a ha; refine op_g ha rfl (g_assign rfl) ?_; clear ha a; intro a ha; refine wpList_nil ?_; replace ha := ha.sub (σ' := [(4, (.bool false))]) ⟨rfl, trivial⟩; refine e_then ?_; refine wp_ret ?_; obtain rfl := Option.some.inj hF
    exact f_ret1 ha rfl rfl ⟨rfl, hE13⟩
  replace hF := if_f hp7 hF
  rw [show (x1) = false from b_false (Iff.rfl) hp7] at ha
  (iterate 2 refine op_unwant ha rfl (yields ha rfl rfl) rfl ?_; clear ha a; intro a ha); refine op_g ha rfl (g_pick rfl rfl) ?_; clear ha a; intro a ha; refine op_g ha rfl (g_move rfl) ?_; clear ha a; intro a ha; (iterate 5 refine op_unwant ha rfl (yields ha rfl rfl) rfl ?_; clear ha a; intro a ha); refine op_g ha rfl (g_pick rfl rfl) ?_; clear ha a; intro a ha; refine op_g ha rfl (g_assign rfl) ?_; clear ha a; intro a ha; refine wpList_nil ?_; replace ha := ha.sub (σ' := [(4, (.bool false))]) ⟨rfl, trivial⟩; refine e_then ?_; refine wp_ret ?_; obtain rfl := Option.some.inj hF
  exact f_ret1 ha rfl rfl ⟨rfl, hE6⟩
set_option maxHeartbeats 2000000 in
theorem W_spec_l1Copy {W : World} {va0 : Value} {fa0 : List Nat} {a0 : (List Int)} (ha0 : Ro Rp.int W fa0 va0 a0) {r : (List Int)} (hF : F_spec_l1Copy a0 = some r) :
    Calls Try.prog 18 [va0].toArray W (Ret fun u w' => ∃ (b_u : Int), Ow Rp.int 2 true w' [] b_u u r ∧ Zn W b_u ∧ Ext W w') := by
  refine f_enter Try.func18 rfl Try.ntmps18 rfl ?_
  intro a ha
  replace ha : Fr 6 [(0, va0)] a := ha
  have hE : Chg [] W W := Chg.refl _ _
  unfold F_spec_l1Copy at hF
  refine wp_seq ?_; refine wp_region_lit ?_; refine op_g ha rfl (g_assign rfl) ?_; clear ha a; intro a ha; refine wpList_nil ?_; replace ha := ha.sub (σ' := [(0, va0)]) ⟨rfl, trivial⟩; refine e_then ?_; refine wp_seq ?_; refine wp_region_lit ?_
  refine o_lit0 Rp.int ha rfl sl22 ?_; clear ha a; intro v1 w2 h3 hx4 a ha
  obtain ⟨b6, hb6⟩ : ∃ b : Int, b = W.heap.size := ⟨_, rfl⟩; rw [← hb6] at h3
  have q7 := zn_of hb6
  have q8 := Zn.upD q7 hE
  have hE9 := Ext.trans hE hx4
  refine op_g ha rfl (g_move rfl) ?_; clear ha a; intro a ha; obtain ⟨hl10, hF⟩ := app_some hF
  obtain ⟨_, hs11, _⟩ := (ha0.ext hE9).src
  refine o_append ha rfl sl22 rfl rfl rfl h3 (hs11.up scal_int) (Nq.nil _) hl10 ?_; clear ha a; intro v12 w13 b14 h15 hc16 hb17 a ha
  replace h15 : Ow Rp.int 2 true w13 [] b14 v12 _ := h15
  have q19 := Zn.appD q8 hb17 hE9
  have hE20 := Ext.then hE9 hc16 (Zn.bl q8)
  refine op_g ha rfl (g_assign rfl) ?_; clear ha a; intro a ha; refine wpList_nil ?_; replace ha := ha.sub (σ' := [(2, v12)]) ⟨rfl, trivial⟩; refine e_then ?_; refine wp_ret ?_; obtain rfl := Option.some.inj hF
  exact f_ret1 ha rfl rfl ⟨_, h15, q19, hE20⟩
set_option maxHeartbeats 2000000 in
theorem W_spec_TurnedLines {W : World} {va0 : Value} {fa0 : List Nat} {a0 : (List Int)} (ha0 : Ro Rp.int W fa0 va0 a0) {va1 : Value} {fa1 : List Nat} {a1 : (List Int)} (ha1 : Ro Rp.int W fa1 va1 a1) {r : ((List Int) × ((List Int) × Bool))} (hF : F_spec_TurnedLines a0 a1 = some r) :
    Calls Try.prog 9 [va0, va1].toArray W (Ret fun u w' => ∃ (u0 : Value) (u1 : Value) (u2 : Value) (b_u0 : Int) (b_u1 : Int), u = .tuple #[u0, u1, u2] ∧ Ow Rp.int 2 true w' [] b_u0 u0 r.1 ∧ Zn W b_u0 ∧ Ow Rp.int 2 true w' [] b_u1 u1 r.2.1 ∧ Zn W b_u1 ∧ u2 = .bool r.2.2 ∧ Nq (bl b_u0 ++ []) b_u1 ∧ Nq (bl b_u1 ++ []) b_u0 ∧ Ext W w') := by
  refine f_enter Try.func9 rfl Try.ntmps9 rfl ?_
  intro a ha
  replace ha : Fr 33 [(0, va0), (1, va1)] a := ha
  have hE : Chg [] W W := Chg.refl _ _
  unfold F_spec_TurnedLines at hF
  refine wp_seq ?_; refine wp_region_lit ?_; (iterate 3 refine op_g ha rfl (g_assign rfl) ?_; clear ha a; intro a ha); refine wpList_nil ?_; replace ha := ha.sub (σ' := [(0, va0), (1, va1)]) ⟨rfl, rfl, trivial⟩; refine e_then ?_; refine wp_seq ?_; refine wp_seq ?_; refine wp_region_lit ?_; (iterate 2 refine op_g ha rfl (g_move rfl) ?_; clear ha a; intro a ha); obtain ⟨x1, hc2, hF⟩ := cal_some hF
  refine o_call ha rfl rfl Try.call17 (W_spec_l15Lines (ha0.ext hE) (ha1.ext hE) hc2) ?_; clear ha a; rintro v3 w4 ⟨rfl, hx5⟩ a ha
  have hE6 := Ext.trans hE hx5
  refine op_g ha rfl (g_not rfl) ?_; clear ha a; intro a ha; refine wpList_nil ?_; replace ha := ha.sub (σ' := [(0, va0), (1, va1), (12, (.bool (!x1)))]) ⟨rfl, rfl, rfl, trivial⟩; refine e_then ?_; refine c_cond (¬ (x1 = true)) ha rfl (n_iff (Iff.rfl)) (fun hp7 => ?_) (fun hp7 => ?_)
  · replace hF := if_t hp7 hF
    refine wp_seq ?_; refine wp_region_lit ?_
    refine o_lit0 Rp.int ha rfl sl22 ?_; clear ha a; intro v8 w9 h10 hx11 a ha
    obtain ⟨b13, hb13⟩ : ∃ b : Int, b = w4.heap.size := ⟨_, rfl⟩; rw [← hb13] at h10
    have q14 := zn_of hb13
    have q15 := Zn.upD q14 hE6
    have hE16 := Ext.trans hE6 hx11
    refine o_lit0 Rp.int ha rfl sl22 ?_; clear ha a; intro v17 w18 h19 hx20 a ha
    obtain ⟨b22, hb22⟩ : ∃ b : Int, b = w9.heap.size := ⟨_, rfl⟩; rw [← hb22] at h19
    have q23 := zn_of hb22
    have q24 := Nq.new h10.fpb q23
    have q25 := Nq.madeO q23 h10.blt
    have q26 := Zn.upD q23 hE16
    replace h10 := h10.ext hx20
    have hE27 := Ext.trans hE16 hx20
    (iterate 3 refine op_g ha rfl (g_assign rfl) ?_; clear ha a; intro a ha); refine wpList_nil ?_; replace ha := ha.sub (σ' := [(4, v8), (5, v17), (6, (.bool false))]) ⟨rfl, rfl, rfl, trivial⟩; refine e_then ?_; refine wp_ret ?_; refine e_then_ret ?_; obtain rfl := Option.some.inj hF
    exact f_ret3 ha rfl rfl rfl rfl ⟨_, _, _, _, _, rfl, h10, q15, h19, q26, rfl, q24, q25, hE27⟩
  replace hF := if_f hp7 hF; refine wp_skip ?_; refine e_then ?_; refine wp_seq ?_; refine wp_region_lit ?_
  refine o_lit0 Rp.int ha rfl sl22 ?_; clear ha a; intro v28 w29 h30 hx31 a ha
  obtain ⟨b33, hb33⟩ : ∃ b : Int, b = w4.heap.size := ⟨_, rfl⟩; rw [← hb33] at h30
  have q34 := zn_of hb33
  have q35 := Zn.upD q34 hE6
  have hE36 := Ext.trans hE6 hx31
  refine op_g ha rfl (g_assign rfl) ?_; clear ha a; intro a ha; refine wpList_nil ?_; replace ha := ha.sub (σ' := [(0, va0), (1, va1), (7, v28)]) ⟨rfl, rfl, rfl, trivial⟩; refine e_then ?_; refine wp_seq ?_; refine wp_seq ?_; refine wp_region_lit ?_; refine op_g ha rfl (g_move rfl) ?_; clear ha a; intro a ha; refine op_g ha rfl (g_lenR sl22.und ha1 rfl) ?_; clear ha a; intro a ha; obtain ⟨hI37, hF⟩ := ck_some hF; refine op_g ha rfl (g_sub rfl rfl hI37) ?_; clear ha a; intro a ha; refine op_g ha rfl (g_assign rfl) ?_; clear ha a; intro a ha; refine wpList_nil ?_; replace ha := ha.sub (σ' := [(0, va0), (1, va1), (7, v28), (8, (.int .i64 ((a1.length : Int) - 1)))]) ⟨rfl, rfl, rfl, rfl, trivial⟩
  refine e_then ?_; obtain ⟨o155, ho156, hK157⟩ := bnd_some hF
  obtain ⟨n158, hn159⟩ := lp_some ho156; clear ho156
  refine c_loop (fun a w => ∃ (l152 : (List Int)) (v153 : Value) (b154 : Int), Fr 33 [(0, va0), (7, v153)] a ∧ Chg [] W w ∧ Ow Rp.int 2 true w [] b154 v153 l152 ∧ Zn W b154 ∧ o155 = .inl l152) (fun n a w => ∃ (l95 : (List Int)) (i98 : Int) (v96 : Value) (b97 : Int), Fr 33 [(0, va0), (1, va1), (7, v96), (8, (.int .i64 i98))] a ∧ Chg [] W w ∧ InI i98 ∧ Ow Rp.int 2 true w [] b97 v96 l95 ∧ Zn W b97 ∧ lpN (fun s => F_spec_TurnedLines_l1 a1 s.1 s.2) n (l95, i98) = some o155) n158 ⟨([] : (List Int)), (a1.length : Int) - 1, v28, b33, ha.sub ⟨rfl, rfl, rfl, rfl, trivial⟩, hE36, hI37, h30, q35, hn159⟩ ?_ ?_
  · rintro m163 a w91 ⟨l95, i98, v96, b97, ha, hE100, hI99, h93, z94, hF⟩
    cases m163 with
    | zero => exact (lpN_zero hF).elim
    | succ m163 =>
      obtain ⟨z162, hF, hN161⟩ := lpN_succ hF
      have hF : F_spec_TurnedLines_l1 a1 l95 i98 = some z162 := hF; unfold F_spec_TurnedLines_l1 at hF
      refine wp_seq ?_; refine wp_seq ?_; refine wp_region_lit ?_; refine op_g ha rfl (g_move rfl) ?_; clear ha a; intro a ha; refine op_g ha rfl (g_geq rfl rfl) ?_; clear ha a; intro a ha; refine wpList_nil ?_; replace ha := ha.sub (σ' := [(0, va0), (1, va1), (7, v96), (8, (.int .i64 i98)), (20, (.bool (decide (0 ≤ i98))))]) ⟨rfl, rfl, rfl, rfl, rfl, trivial⟩; refine e_then ?_; refine c_cond (0 ≤ i98) ha rfl (decide_eq_true_iff) (fun hp164 => ?_) (fun hp164 => ?_)
      · replace hF := if_t hp164 hF
        refine wp_skip ?_; refine e_then ?_; refine wp_seq ?_; refine wp_block ?_; refine wp_region_lit ?_; (iterate 3 refine op_g ha rfl (g_move rfl) ?_; clear ha a; intro a ha); obtain ⟨x165, g166, gx167, hF⟩ := idx_some hF
        obtain ⟨p168, cs169, f170, hf171, hpb172, hat173, hr174, hi175⟩ := ha1.at g166 gx167
        obtain ⟨rfl, hI176, rfl⟩ := hr174
        refine op_g ha rfl (hi175.gives sl22 rfl rfl) ?_; clear ha a; intro a ha; refine op_g ha rfl (g_load0 hE100 Try.isAgg2 rfl hat173.one) ?_; clear ha a; intro a ha
        refine o_lit1 (o := true) (y := x165) Rp.int ha rfl sl22 rfl rfl rfl ⟨rfl, hI176, rfl⟩ ?_; clear ha a; intro v177 w178 h179 hx180 a ha
        obtain ⟨b182, hb182⟩ : ∃ b : Int, b = w91.heap.size := ⟨_, rfl⟩; rw [← hb182] at h179
        have q183 := zn_of hb182
        have q184 := Nq.new h93.fpb q183
        have q185 := Nq.madeO q183 h93.blt
        have q186 := Zn.upD q183 hE100
        replace h93 := h93.ext hx180
        have hE187 := Ext.trans hE100 hx180
        obtain ⟨hl188, hF⟩ := app_some hF
        refine o_append ha rfl sl22 rfl rfl rfl h93 h179.src (Nq.nil _) hl188 ?_; clear ha a; intro v189 w190 b191 h192 hc193 hb194 a ha
        replace h192 : Ow Rp.int 2 true w190 [] b191 v189 _ := h192
        have q196 := Nq.appY q185 h179.fpb hb194
        have q197 := Nq.appX q184 (Nq.nil _) hb194 h179.blt
        have q198 := Zn.appD z94 hb194 hE187
        replace h179 := h179.nq hc193 q185
        have hE199 := Ext.then hE187 hc193 (Zn.bl z94)
        refine op_g ha rfl (g_assign rfl) ?_; clear ha a; intro a ha; refine wpList_nil ?_; replace ha := ha.sub (σ' := [(0, va0), (1, va1), (7, v189), (8, (.int .i64 i98))]) ⟨rfl, rfl, rfl, rfl, trivial⟩; refine e_blk ?_; refine e_then ?_; refine wp_region_lit ?_; refine op_g ha rfl (g_move rfl) ?_; clear ha a; intro a ha; obtain ⟨hI200, hF⟩ := ck_some hF; refine op_g ha rfl (g_sub rfl rfl hI200) ?_; clear ha a; intro a ha; refine op_g ha rfl (g_assign rfl) ?_; clear ha a; intro a ha; refine wpList_nil ?_; replace ha := ha.sub (σ' := [(0, va0), (1, va1), (7, v189), (8, (.int .i64 (i98 - 1)))]) ⟨rfl, rfl, rfl, rfl, trivial⟩
        refine e_lq ?_; obtain rfl := Option.some.inj hF
        exact ⟨_, Nat.lt_succ_self _, (l95 ++ ([x165])), i98 - 1, v189, b191, ha.sub ⟨rfl, rfl, rfl, rfl, trivial⟩, hE199, hI200, h192, q198, hN161⟩
      replace hF := if_f hp164 hF; refine wp_exit ?_; refine e_then_exit ?_; refine e_lq_eq ?_; obtain rfl := Option.some.inj hF
      exact ⟨l95, v96, b97, ha.sub ⟨rfl, rfl, trivial⟩, hE100, h93, z94, (LK_inr hN161).symm⟩
  rintro a w148 ⟨l152, v153, b154, ha, hE160, h150, z151, rfl⟩
  have hF : F_spec_TurnedLines_k2 a0 l152 = some _ := hK157; clear hK157; unfold F_spec_TurnedLines_k2 at hF
  refine e_then ?_; refine wp_seq ?_; refine wp_region_lit ?_; refine op_g ha rfl (g_move rfl) ?_; clear ha a; intro a ha; obtain ⟨x202, hc203, hF⟩ := cal_some hF
  refine o_call ha rfl rfl Try.call18 (W_spec_l1Copy (ha0.ext hE160) hc203) ?_; clear ha a; rintro v204 w205 ⟨b207, h208, z209, hx206⟩ a ha
  have q211 := Nq.new h150.fpb z209
  have q212 := Nq.madeO z209 h150.blt
  replace h150 := h150.ext hx206
  have hE213 := Ext.trans hE160 hx206
  have q214 := Zn.upD z209 hE160
  refine op_g ha rfl (g_move rfl) ?_; clear ha a; intro a ha; (iterate 3 refine op_g ha rfl (g_assign rfl) ?_; clear ha a; intro a ha); refine wpList_nil ?_; replace ha := ha.sub (σ' := [(4, v204), (5, v153), (6, (.bool true))]) ⟨rfl, rfl, rfl, trivial⟩; refine e_then ?_; refine wp_ret ?_; obtain rfl := Option.some.inj hF
  exact f_ret3 ha rfl rfl rfl rfl ⟨_, _, _, _, _, rfl, h208, q214, h150, z151, rfl, q212, q211, hE213⟩
set_option maxHeartbeats 2000000 in

set_option maxHeartbeats 2000000 in

set_option maxHeartbeats 2000000 in

set_option maxHeartbeats 2000000 in
theorem W_slices_Sorted_int64 {W : World} {va0 : Value} {a0 : (List Int)} (ha0 : Seq2 W va0 a0) {r : (List Int)} (hF : F_slices_Sorted_int64 a0 = some r) :
    Calls Try.prog 15 [va0].toArray W (Ret fun u w' => ∃ (b_u : Int), Ow Rp.int 2 true w' [] b_u u r ∧ Zn W b_u ∧ Ext W w') := by
  refine f_enter Try.func15 rfl Try.ntmps15 rfl ?_
  intro a ha
  replace ha : Fr 9 [(0, va0)] a := ha
  have hE : Chg [] W W := Chg.refl _ _
  unfold F_slices_Sorted_int64 at hF
  refine wp_seq ?_; refine wp_region_lit ?_; refine op_g ha rfl (g_assign rfl) ?_; clear ha a; intro a ha; refine wpList_nil ?_; replace ha := ha.sub (σ' := [(0, va0)]) ⟨rfl, trivial⟩; refine e_then ?_; refine wp_seq ?_; refine wp_region_lit ?_; refine op_g ha rfl (g_move rfl) ?_; clear ha a; intro a ha; obtain ⟨x1, hc2, hF⟩ := cal_some hF
  refine o_call ha rfl rfl Try.call22 (W_slices_Collect_int64 ha0 hc2) ?_; clear ha a; rintro v3 w4 ⟨b6, h7, z8, hx5⟩ a ha
  have hE10 := Ext.trans hE hx5
  have q11 := Zn.upD z8 hE
  refine op_g ha rfl (g_assign rfl) ?_; clear ha a; intro a ha; refine wpList_nil ?_; replace ha := ha.sub (σ' := [(3, v3)]) ⟨rfl, trivial⟩; refine e_then ?_; refine wp_seq ?_; refine wp_region_lit ?_; refine op_g ha rfl (g_move rfl) ?_; clear ha a; intro a ha; obtain ⟨x12, hc13, hF⟩ := cal_some hF
  refine o_call ha rfl rfl Try.call23 (W_slices_Sort_int64 h7 hc13) ?_; clear ha a; rintro v14 w15 ⟨rfl, h17, hx16⟩ a ha
  have hE18 := Ext.then hE10 hx16 (Zn.bl q11)
  refine wpList_nil ?_; replace ha := ha.sub (σ' := [(3, v3)]) ⟨rfl, trivial⟩; refine e_then ?_; refine wp_seq ?_; refine wp_region_lit ?_; refine op_g ha rfl (g_move rfl) ?_; clear ha a; intro a ha; refine op_g ha rfl (g_assign rfl) ?_; clear ha a; intro a ha; refine wpList_nil ?_; replace ha := ha.sub (σ' := [(2, v3)]) ⟨rfl, trivial⟩; refine e_then ?_; refine wp_ret ?_; obtain rfl := Option.some.inj hF
  exact f_ret1 ha rfl rfl ⟨_, h17, q11, hE18⟩
set_option maxHeartbeats 2000000 in
theorem W_impl_inRange {W : World} {a0 : Int} (ha0 : InI a0) {a1 : Int} (ha1 : InI a1) {a2 : Int} (ha2 : InI a2) {r : Bool} (hF : F_impl_inRange a0 a1 a2 = some r) :
    Calls Try.prog 45 [.int .i64 a0, .int .i64 a1, .int .i64 a2].toArray W (Ret fun u w' => u = .bool r ∧ Ext W w') := by
  refine f_enter Try.func45 rfl Try.ntmps45 rfl ?_
  intro a ha
  replace ha : Fr 15 [(0, (.int .i64 a0)), (1, (.int .i64 a1)), (2, (.int .i64 a2))] a := ha
  have hE : Chg [] W W := Chg.refl _ _
  unfold F_impl_inRange at hF
  refine wp_seq ?_; refine wp_region_lit ?_; refine op_g ha rfl (g_assign rfl) ?_; clear ha a; intro a ha; refine wpList_nil ?_; replace ha := ha.sub (σ' := [(0, (.int .i64 a0)), (1, (.int .i64 a1)), (2, (.int .i64 a2))]) ⟨rfl, rfl, rfl, trivial⟩; refine e_then ?_; refine wp_seq ?_; refine wp_region_lit ?_; (iterate 2 refine op_g ha rfl (g_move rfl) ?_; clear ha a; intro a ha); refine op_g ha rfl (g_leq rfl rfl) ?_; clear ha a; intro a ha; refine op_g ha rfl (g_move rfl) ?_; clear ha a; intro a ha
  by_cases hp1 : a1 ≤ a0
  · replace hF := if_t hp1 hF
    rw [show (decide (a1 ≤ a0)) = true from (decide_eq_true_iff).2 hp1] at ha
    refine op_want (yields ha rfl rfl) ?_; refine op_g ha rfl (g_move rfl) ?_; clear ha a; intro a ha; refine op_want (yields ha rfl rfl) ?_; refine op_g ha rfl (g_move rfl) ?_; clear ha a; intro a ha; refine op_want (yields ha rfl rfl) ?_; refine op_g ha rfl (g_leq rfl rfl) ?_; clear ha a; intro a ha; refine op_g ha rfl (g_pick rfl rfl) ?_; clear ha a; intro a ha; refine op_g ha rfl (g_assign rfl) ?_; clear ha a; intro a ha; refine wpList_nil ?_; replace ha := ha.sub (σ' := [(6, (.bool (decide (a0 ≤ a2))))]) ⟨rfl, trivial⟩; refine e_then ?_; refine wp_ret ?_; obtain rfl := Option.some.inj hF
    exact f_ret1 ha rfl rfl ⟨rfl, hE⟩
  replace hF := if_f hp1 hF
  rw [show (decide (a1 ≤ a0)) = false from b_false (decide_eq_true_iff) hp1] at ha
  (iterate 3 refine op_unwant ha rfl (yields ha rfl rfl) rfl ?_; clear ha a; intro a ha); refine op_g ha rfl (g_pick rfl rfl) ?_; clear ha a; intro a ha; refine op_g ha rfl (g_assign rfl) ?_; clear ha a; intro a ha; refine wpList_nil ?_; replace ha := ha.sub (σ' := [(6, (.bool false))]) ⟨rfl, trivial⟩; refine e_then ?_; refine wp_ret ?_; obtain rfl := Option.some.inj hF
  exact f_ret1 ha rfl rfl ⟨rfl, hE⟩
set_option maxHeartbeats 2000000 in
theorem W_impl_increasing {W : World} {va0 : Value} {fa0 : List Nat} {a0 : (List Int)} (ha0 : Ro Rp.int W fa0 va0 a0) {a1 : Int} (ha1 : InI a1) {r : Bool} (hF : F_impl_increasing a0 a1 = some r) :
    Calls Try.prog 32 [va0, .int .i64 a1].toArray W (Ret fun u w' => u = .bool r ∧ Ext W w') := by
  refine f_enter Try.func32 rfl Try.ntmps32 rfl ?_
  intro a ha
  replace ha : Fr 33 [(0, va0), (1, (.int .i64 a1))] a := ha
  have hE : Chg [] W W := Chg.refl _ _
  unfold F_impl_increasing at hF
  refine wp_seq ?_; refine wp_region_lit ?_; refine op_g ha rfl (g_assign rfl) ?_; clear ha a; intro a ha; refine wpList_nil ?_; replace ha := ha.sub (σ' := [(0, va0), (1, (.int .i64 a1))]) ⟨rfl, rfl, trivial⟩; refine e_then ?_; refine wp_seq ?_; refine wp_seq ?_; refine wp_region_lit ?_; refine op_g ha rfl (g_move rfl) ?_; clear ha a; intro a ha; refine op_g ha rfl (g_lenR sl22.und ha0 rfl) ?_; clear ha a; intro a ha; refine op_g ha rfl (g_move rfl) ?_; clear ha a; intro a ha; refine wpList_nil ?_; replace ha := ha.sub (σ' := [(0, va0), (1, (.int .i64 a1)), (7, va0), (8, (.int .i64 (a0.length : Int))), (9, (.int .i64 0))]) ⟨rfl, rfl, rfl, rfl, rfl, trivial⟩
  refine e_then ?_; obtain ⟨o98, ho99, hK100⟩ := bnd_some hF
  obtain ⟨n101, hn102⟩ := lp_some ho99; clear ho99
  refine c_loop (fun a w => Fr 33 [] a ∧ Chg [] W w ∧ o98 = .inl ()) (fun n a w => ∃ (i49 : Int), Fr 33 [(0, va0), (1, (.int .i64 a1)), (7, va0), (8, (.int .i64 (a0.length : Int))), (9, (.int .i64 i49))] a ∧ Chg [] W w ∧ InI i49 ∧ lpN (fun s => F_impl_increasing_l1 a0 a1 s) n i49 = some o98) n101 ⟨0, ha.sub ⟨rfl, rfl, rfl, rfl, rfl, trivial⟩, hE, (show InI 0 from by decide), hn102⟩ ?_ ?_
  · rintro m106 a w48 ⟨i49, ha, hE51, hI50, hF⟩
    cases m106 with
    | zero => exact (lpN_zero hF).elim
    | succ m106 =>
      obtain ⟨z105, hF, hN104⟩ := lpN_succ hF
      have hF : F_impl_increasing_l1 a0 a1 i49 = some z105 := hF; unfold F_impl_increasing_l1 at hF
      refine wp_seq ?_; refine wp_region_lit ?_; refine op_g ha rfl (g_lss rfl rfl) ?_; clear ha a; intro a ha; refine wpList_nil ?_; replace ha := ha.sub (σ' := [(0, va0), (1, (.int .i64 a1)), (7, va0), (8, (.int .i64 (a0.length : Int))), (9, (.int .i64 i49)), (10, (.bool (decide (i49 < (a0.length : Int)))))]) ⟨rfl, rfl, rfl, rfl, rfl, rfl, trivial⟩; refine e_then ?_; refine wp_seq ?_; refine c_cond (i49 < (a0.length : Int)) ha rfl (decide_eq_true_iff) (fun hp107 => ?_) (fun hp107 => ?_)
      · replace hF := if_t hp107 hF
        refine wp_skip ?_; refine e_then ?_; refine wp_seq ?_; refine wp_block ?_; refine wp_seq ?_; refine wp_region_lit ?_; refine op_g ha rfl (g_move rfl) ?_; clear ha a; intro a ha; obtain ⟨x108, g109, gx110, hF⟩ := idx_some hF
        obtain ⟨p111, cs112, f113, hf114, hpb115, hat116, hr117, hi118⟩ := ha0.at g109 gx110
        obtain ⟨rfl, hI119, rfl⟩ := hr117
        refine op_g ha rfl (hi118.gives sl22 rfl rfl) ?_; clear ha a; intro a ha; refine op_g ha rfl (g_load0 hE51 Try.isAgg2 rfl hat116.one) ?_; clear ha a; intro a ha; (iterate 2 refine op_g ha rfl (g_assign rfl) ?_; clear ha a; intro a ha); refine wpList_nil ?_; replace ha := ha.sub (σ' := [(0, va0), (1, (.int .i64 a1)), (5, (.int .i64 i49)), (6, (.int .i64 x108)), (7, va0), (8, (.int .i64 (a0.length : Int))), (9, (.int .i64 i49))]) ⟨rfl, rfl, rfl, rfl, rfl, rfl, rfl, trivial⟩; refine e_then ?_; refine wp_seq ?_; refine wp_region_lit ?_; (iterate 2 refine op_g ha rfl (g_move rfl) ?_; clear ha a; intro a ha)
        obtain ⟨hI120, hF⟩ := ck_some hF; refine op_g ha rfl (g_sub rfl rfl hI120) ?_; clear ha a; intro a ha; obtain ⟨x122, hc123, hF⟩ := cal_some hF
        refine o_call ha rfl rfl Try.call45 (W_impl_inRange hI119 (show InI 0 from by decide) hI120 hc123) ?_; clear ha a; rintro v124 w125 ⟨rfl, hx126⟩ a ha
        have hE127 := Ext.trans hE51 hx126
        refine op_g ha rfl (g_not rfl) ?_; clear ha a; intro a ha; refine op_g ha rfl (g_move rfl) ?_; clear ha a; intro a ha
        by_cases hp128 : ¬ (x122 = true)
        · replace hF := if_t hp128 hF
          rw [show (!x122) = true from (n_iff (Iff.rfl)).2 hp128] at ha
          (iterate 3 refine op_unwant ha rfl (yields ha rfl rfl) rfl ?_; clear ha a; intro a ha); (iterate 7 refine op_unwant0 ha rfl (yields0 ha rfl rfl) ?_; clear ha a; intro a ha); refine op_unwant ha rfl (yields ha rfl rfl) rfl ?_; clear ha a; intro a ha; refine op_g ha rfl (g_pick rfl rfl) ?_; clear ha a; intro a ha; refine wpList_nil ?_; replace ha := ha.sub (σ' := [(0, va0), (1, (.int .i64 a1)), (7, va0), (8, (.int .i64 (a0.length : Int))), (9, (.int .i64 i49)), (31, (.bool true))]) ⟨rfl, rfl, rfl, rfl, rfl, rfl, trivial⟩; refine e_then ?_; refine c_true ha rfl ?_; refine wp_seq ?_; refine wp_region_lit ?_
          refine op_g ha rfl (g_assign rfl) ?_; clear ha a; intro a ha; refine wpList_nil ?_; replace ha := ha.sub (σ' := [(4, (.bool false))]) ⟨rfl, trivial⟩; refine e_then ?_; refine wp_ret ?_; refine e_blk_ret ?_; refine e_then_ret ?_; refine e_lq_ret ?_; refine e_then_ret ?_; obtain rfl := Option.some.inj hF
          have e129 := LK_inr hN104; subst e129
          have e130 := BK_inr hK100; subst e130
          exact f_ret1 ha rfl rfl ⟨rfl, hE127⟩
        replace hF := if_f hp128 hF
        rw [show (!x122) = false from b_false (n_iff (Iff.rfl)) hp128] at ha
        refine op_want (yields ha rfl rfl) ?_; refine op_g ha rfl (g_move rfl) ?_; clear ha a; intro a ha; refine op_want (yields ha rfl rfl) ?_; refine op_g ha rfl (g_gtr rfl rfl) ?_; clear ha a; intro a ha; refine op_want (yields ha rfl rfl) ?_; refine op_g ha rfl (g_move rfl) ?_; clear ha a; intro a ha
        by_cases hp131 : 0 < i49
        · replace hF := if_t hp131 hF
          rw [show (decide (0 < i49)) = true from (decide_eq_true_iff).2 hp131] at ha
          refine op_want (yields ha rfl rfl) ?_; refine op_g ha rfl (g_move rfl) ?_; clear ha a; intro a ha; refine op_want (yields ha rfl rfl) ?_; refine op_g ha rfl (g_move rfl) ?_; clear ha a; intro a ha; refine op_want (yields ha rfl rfl) ?_; obtain ⟨hI132, hF⟩ := ck_some hF; refine op_g ha rfl (g_sub rfl rfl hI132) ?_; clear ha a; intro a ha; refine op_want (yields ha rfl rfl) ?_; obtain ⟨x134, g135, gx136, hF⟩ := idx_some hF
          obtain ⟨p137, cs138, f139, hf140, hpb141, hat142, hr143, hi144⟩ := ha0.at g135 gx136
          obtain ⟨rfl, hI145, rfl⟩ := hr143
          refine op_g ha rfl (hi144.gives sl22 rfl rfl) ?_; clear ha a; intro a ha; refine op_want (yields ha rfl rfl) ?_; refine op_g ha rfl (g_load0 hE127 Try.isAgg2 rfl hat142.one) ?_; clear ha a; intro a ha; refine op_want (yields ha rfl rfl) ?_; refine op_g ha rfl (g_move rfl) ?_; clear ha a; intro a ha; refine op_want (yields ha rfl rfl) ?_; refine op_g ha rfl (g_geq rfl rfl) ?_; clear ha a; intro a ha; refine op_want (yields ha rfl rfl) ?_; (iterate 2 refine op_g ha rfl (g_pick rfl rfl) ?_; clear ha a; intro a ha); refine wpList_nil ?_; replace ha := ha.sub (σ' := [(0, va0), (1, (.int .i64 a1)), (7, va0), (8, (.int .i64 (a0.length : Int))), (9, (.int .i64 i49)), (20, (.int .i64 i49)), (21, (.bool true)), (22, (.bool true)), (23, va0), (24, (.int .i64 i49)), (25, (.int .i64 (i49 - 1))), (26, (.pointer (some p137))), (27, (.int .i64 x134)), (28, (.int .i64 x108)), (29, (.bool (decide (x108 ≤ x134)))), (30, (.bool (decide (x108 ≤ x134)))), (31, (.bool (decide (x108 ≤ x134))))]) ⟨rfl, rfl, rfl, rfl, rfl, rfl, rfl, rfl, rfl, rfl, rfl, rfl, rfl, rfl, rfl, rfl, rfl, trivial⟩
          refine e_then ?_; refine c_cond (x108 ≤ x134) ha rfl (decide_eq_true_iff) (fun hp146 => ?_) (fun hp146 => ?_)
          · replace hF := if_t hp146 hF
            refine wp_seq ?_; refine wp_region_lit ?_; refine op_g ha rfl (g_assign rfl) ?_; clear ha a; intro a ha; refine wpList_nil ?_; replace ha := ha.sub (σ' := [(4, (.bool false))]) ⟨rfl, trivial⟩; refine e_then ?_; refine wp_ret ?_; refine e_blk_ret ?_; refine e_then_ret ?_; refine e_lq_ret ?_; refine e_then_ret ?_; obtain rfl := Option.some.inj hF
            have e147 := LK_inr hN104; subst e147
            have e148 := BK_inr hK100; subst e148
            exact f_ret1 ha rfl rfl ⟨rfl, hE127⟩
          replace hF := if_f hp146 hF; refine wp_skip ?_; refine e_blk ?_; refine e_then ?_; refine wp_region_lit ?_; obtain ⟨hI149, hF⟩ := ck_some hF; refine op_g ha rfl (g_add rfl rfl hI149) ?_; clear ha a; intro a ha; refine op_g ha rfl (g_move rfl) ?_; clear ha a; intro a ha; refine wpList_nil ?_; replace ha := ha.sub (σ' := [(0, va0), (1, (.int .i64 a1)), (7, va0), (8, (.int .i64 (a0.length : Int))), (9, (.int .i64 (i49 + 1))), (20, (.int .i64 i49)), (21, (.bool true)), (22, (.bool true)), (23, va0), (24, (.int .i64 i49)), (25, (.int .i64 (i49 - 1))), (26, (.pointer (some p137))), (27, (.int .i64 x134)), (28, (.int .i64 x108)), (29, (.bool (decide (x108 ≤ x134)))), (30, (.bool (decide (x108 ≤ x134))))]) ⟨rfl, rfl, rfl, rfl, rfl, rfl, rfl, rfl, rfl, rfl, rfl, rfl, rfl, rfl, rfl, rfl, trivial⟩
          refine e_lq ?_; obtain rfl := Option.some.inj hF
          exact ⟨_, Nat.lt_succ_self _, i49 + 1, ha.sub ⟨rfl, rfl, rfl, rfl, rfl, trivial⟩, hE127, hI149, hN104⟩
        replace hF := if_f hp131 hF
        rw [show (decide (0 < i49)) = false from b_false (decide_eq_true_iff) hp131] at ha
        (iterate 7 refine op_unwant ha rfl (yields ha rfl rfl) rfl ?_; clear ha a; intro a ha); refine op_want (yields ha rfl rfl) ?_; (iterate 2 refine op_g ha rfl (g_pick rfl rfl) ?_; clear ha a; intro a ha); refine wpList_nil ?_; replace ha := ha.sub (σ' := [(0, va0), (1, (.int .i64 a1)), (7, va0), (8, (.int .i64 (a0.length : Int))), (9, (.int .i64 i49)), (20, (.int .i64 i49)), (21, (.bool false)), (22, (.bool false)), (30, (.bool false)), (31, (.bool false))]) ⟨rfl, rfl, rfl, rfl, rfl, rfl, rfl, rfl, rfl, rfl, trivial⟩; refine e_then ?_; refine c_false ha rfl ?_; refine wp_skip ?_; refine e_blk ?_
        refine e_then ?_; refine wp_region_lit ?_; obtain ⟨hI151, hF⟩ := ck_some hF; refine op_g ha rfl (g_add rfl rfl hI151) ?_; clear ha a; intro a ha; refine op_g ha rfl (g_move rfl) ?_; clear ha a; intro a ha; refine wpList_nil ?_; replace ha := ha.sub (σ' := [(0, va0), (1, (.int .i64 a1)), (7, va0), (8, (.int .i64 (a0.length : Int))), (9, (.int .i64 (i49 + 1))), (20, (.int .i64 i49)), (21, (.bool false)), (22, (.bool false)), (30, (.bool false))]) ⟨rfl, rfl, rfl, rfl, rfl, rfl, rfl, rfl, rfl, trivial⟩; refine e_lq ?_; obtain rfl := Option.some.inj hF
        exact ⟨_, Nat.lt_succ_self _, i49 + 1, ha.sub ⟨rfl, rfl, rfl, rfl, rfl, trivial⟩, hE127, hI151, hN104⟩
      replace hF := if_f hp107 hF; refine wp_exit ?_; refine e_then_exit ?_; refine e_lq_eq ?_; obtain rfl := Option.some.inj hF
      exact ⟨ha.sub trivial, hE51, (LK_inr hN104).symm⟩
  rintro a w97 ⟨ha, hE103, rfl⟩
  have hF : F_impl_increasing_k2 = some _ := hK100; clear hK100; unfold F_impl_increasing_k2 at hF
  refine e_then ?_; refine wp_seq ?_; refine wp_region_lit ?_; refine op_g ha rfl (g_assign rfl) ?_; clear ha a; intro a ha; refine wpList_nil ?_; refine e_then ?_; refine wp_ret ?_; obtain rfl := Option.some.inj hF
  exact f_ret1 ha rfl rfl ⟨rfl, hE103⟩
set_option maxHeartbeats 2000000 in
theorem W_impl_placesIn {W : World} {va0 : Value} {fa0 : List Nat} {a0 : (List Int)} (ha0 : Ro Rp.int W fa0 va0 a0) {r : ((List Int) × Bool)} (hF : F_impl_placesIn a0 = some r) :
    Calls Try.prog 26 [va0].toArray W (Ret fun u w' => ∃ (u0 : Value) (u1 : Value) (b_u0 : Int), u = .tuple #[u0, u1] ∧ Ow Rp.int 3 true w' [] b_u0 u0 r.1 ∧ Zn W b_u0 ∧ u1 = .bool r.2 ∧ Ext W w') := by
  refine f_enter Try.func26 rfl Try.ntmps26 rfl ?_
  intro a ha
  replace ha : Fr 39 [(0, va0)] a := ha
  have hE : Chg [] W W := Chg.refl _ _
  unfold F_impl_placesIn at hF
  refine wp_seq ?_; refine wp_region_lit ?_; (iterate 2 refine op_g ha rfl (g_assign rfl) ?_; clear ha a; intro a ha); refine wpList_nil ?_; replace ha := ha.sub (σ' := [(0, va0)]) ⟨rfl, trivial⟩; refine e_then ?_; refine wp_seq ?_; refine wp_region_lit ?_; refine op_g ha rfl (g_move rfl) ?_; clear ha a; intro a ha; refine op_g ha rfl (g_lenR sl22.und ha0 rfl) ?_; clear ha a; intro a ha; refine op_g ha rfl (g_assign rfl) ?_; clear ha a; intro a ha; refine wpList_nil ?_; replace ha := ha.sub (σ' := [(0, va0), (4, (.int .i64 (a0.length : Int)))]) ⟨rfl, rfl, trivial⟩; refine e_then ?_; refine wp_seq ?_
  refine wp_seq ?_; refine wp_region_lit ?_; refine op_g ha rfl (g_move rfl) ?_; clear ha a; intro a ha; refine op_g ha rfl (g_lss rfl rfl) ?_; clear ha a; intro a ha; refine op_g ha rfl (g_move rfl) ?_; clear ha a; intro a ha
  by_cases hp31 : (a0.length : Int) < 1
  · replace hF := if_t hp31 hF
    rw [show (decide ((a0.length : Int) < 1)) = true from (decide_eq_true_iff).2 hp31] at ha
    (iterate 2 refine op_unwant ha rfl (yields ha rfl rfl) rfl ?_; clear ha a; intro a ha); refine op_g ha rfl (g_pick rfl rfl) ?_; clear ha a; intro a ha; refine op_g ha rfl (g_move rfl) ?_; clear ha a; intro a ha; (iterate 6 refine op_unwant ha rfl (yields ha rfl rfl) rfl ?_; clear ha a; intro a ha); refine op_g ha rfl (g_pick rfl rfl) ?_; clear ha a; intro a ha; refine wpList_nil ?_; replace ha := ha.sub (σ' := [(0, va0), (4, (.int .i64 (a0.length : Int))), (23, (.bool true))]) ⟨rfl, rfl, rfl, trivial⟩; refine e_then ?_; refine c_true ha rfl ?_; refine wp_seq ?_; refine wp_region_lit ?_; (iterate 2 refine op_g ha rfl (g_assign rfl) ?_; clear ha a; intro a ha)
    refine wpList_nil ?_; replace ha := ha.sub (σ' := [(2, (.slice none 0 0)), (3, (.bool false))]) ⟨rfl, rfl, trivial⟩; refine e_then ?_; refine wp_ret ?_; refine e_then_ret ?_; obtain rfl := Option.some.inj hF
    exact f_ret2 ha rfl rfl rfl ⟨_, _, -1, rfl, (Ow.nil (by decide)), (.inl (by decide)), rfl, hE⟩
  replace hF := if_f hp31 hF
  rw [show (decide ((a0.length : Int) < 1)) = false from b_false (decide_eq_true_iff) hp31] at ha
  refine op_want (yields ha rfl rfl) ?_; refine op_g ha rfl (g_move rfl) ?_; clear ha a; intro a ha; refine op_want (yields ha rfl rfl) ?_; refine op_g ha rfl (g_gtr rfl rfl) ?_; clear ha a; intro a ha; refine op_g ha rfl (g_pick rfl rfl) ?_; clear ha a; intro a ha; refine op_g ha rfl (g_move rfl) ?_; clear ha a; intro a ha
  by_cases hp32 : 16 < (a0.length : Int)
  · replace hF := if_t hp32 hF
    rw [show (decide (16 < (a0.length : Int))) = true from (decide_eq_true_iff).2 hp32] at ha
    (iterate 6 refine op_unwant ha rfl (yields ha rfl rfl) rfl ?_; clear ha a; intro a ha); refine op_g ha rfl (g_pick rfl rfl) ?_; clear ha a; intro a ha; refine wpList_nil ?_; replace ha := ha.sub (σ' := [(0, va0), (4, (.int .i64 (a0.length : Int))), (23, (.bool true))]) ⟨rfl, rfl, rfl, trivial⟩; refine e_then ?_; refine c_true ha rfl ?_; refine wp_seq ?_; refine wp_region_lit ?_; (iterate 2 refine op_g ha rfl (g_assign rfl) ?_; clear ha a; intro a ha); refine wpList_nil ?_; replace ha := ha.sub (σ' := [(2, (.slice none 0 0)), (3, (.bool false))]) ⟨rfl, rfl, trivial⟩; refine e_then ?_; refine wp_ret ?_
    refine e_then_ret ?_; obtain rfl := Option.some.inj hF
    exact f_ret2 ha rfl rfl rfl ⟨_, _, -1, rfl, (Ow.nil (by decide)), (.inl (by decide)), rfl, hE⟩
  replace hF := if_f hp32 hF
  rw [show (decide (16 < (a0.length : Int))) = false from b_false (decide_eq_true_iff) hp32] at ha
  refine op_want (yields ha rfl rfl) ?_; refine op_g ha rfl (g_move rfl) ?_; clear ha a; intro a ha; refine op_want (yields ha rfl rfl) ?_; obtain ⟨x33, hc34, hF⟩ := cal_some hF
  refine o_call ha rfl rfl Try.call16 (W_slices_Values_int64 (ha0.ext hE) hc34) ?_; clear ha a; rintro v35 w36 ⟨h38, hx37⟩ a ha
  have hE39 := Ext.trans hE hx37
  refine op_want (yields ha rfl rfl) ?_; obtain ⟨x40, hc41, hF⟩ := cal_some hF
  refine o_call ha rfl rfl Try.call15 (W_slices_Sorted_int64 h38 hc41) ?_; clear ha a; rintro v42 w43 ⟨b45, h46, z47, hx44⟩ a ha
  have hE49 := Ext.trans hE39 hx44
  have q50 := Zn.upD z47 hE39
  refine op_want (yields ha rfl rfl) ?_; refine op_g ha rfl (g_move rfl) ?_; clear ha a; intro a ha; refine op_want (yields ha rfl rfl) ?_
  obtain ⟨fp51, hro52, hs53⟩ := h46.roF
  obtain ⟨x54, hc55, hF⟩ := cal_some hF
  refine o_call ha rfl rfl Try.call32 (W_impl_increasing hro52 ha0.len hc55) ?_; clear ha a; rintro v56 w57 ⟨rfl, hx58⟩ a ha
  replace h46 := h46.ext hx58
  have hE59 := Ext.trans hE49 hx58
  refine op_want (yields ha rfl rfl) ?_; refine op_g ha rfl (g_not rfl) ?_; clear ha a; intro a ha; refine op_g ha rfl (g_pick rfl rfl) ?_; clear ha a; intro a ha; refine wpList_nil ?_; replace ha := ha.sub (σ' := [(0, va0), (4, (.int .i64 (a0.length : Int))), (23, (.bool (!x54)))]) ⟨rfl, rfl, rfl, trivial⟩; refine e_then ?_; refine c_cond (¬ (x54 = true)) ha rfl (n_iff (Iff.rfl)) (fun hp60 => ?_) (fun hp60 => ?_)
  · replace hF := if_t hp60 hF
    refine wp_seq ?_; refine wp_region_lit ?_; (iterate 2 refine op_g ha rfl (g_assign rfl) ?_; clear ha a; intro a ha); refine wpList_nil ?_; replace ha := ha.sub (σ' := [(2, (.slice none 0 0)), (3, (.bool false))]) ⟨rfl, rfl, trivial⟩; refine e_then ?_; refine wp_ret ?_; refine e_then_ret ?_; obtain rfl := Option.some.inj hF
    exact f_ret2 ha rfl rfl rfl ⟨_, _, -1, rfl, (Ow.nil (by decide)), (.inl (by decide)), rfl, hE59⟩
  replace hF := if_f hp60 hF; refine wp_skip ?_; refine e_then ?_; refine wp_seq ?_; refine wp_region_lit ?_; refine op_g ha rfl (g_move rfl) ?_; clear ha a; intro a ha; obtain ⟨g65, g65b, hF⟩ := mkS_some hF
  refine o_make (z0 := (0 : Int)) Rp.int ha rfl sl41 rfl (fun w => ⟨rfl, by decide, rfl⟩) rfl g65 g65b ?_; clear ha a; intro v61 w62 h63 hx64 a ha
  obtain ⟨b68, hb68⟩ : ∃ b : Int, b = w57.heap.size := ⟨_, rfl⟩; rw [← hb68] at h63
  have q69 := zn_of hb68
  have q70 := Zn.upD q69 hE59
  have hE71 := Ext.trans hE59 hx64
  refine op_g ha rfl (g_assign rfl) ?_; clear ha a; intro a ha; refine wpList_nil ?_; replace ha := ha.sub (σ' := [(0, va0), (5, v61)]) ⟨rfl, rfl, trivial⟩; refine e_then ?_; refine wp_seq ?_; refine wp_seq ?_; refine wp_region_lit ?_; refine op_g ha rfl (g_move rfl) ?_; clear ha a; intro a ha; refine op_g ha rfl (g_lenR sl22.und ha0 rfl) ?_; clear ha a; intro a ha; refine op_g ha rfl (g_move rfl) ?_; clear ha a; intro a ha; refine wpList_nil ?_; replace ha := ha.sub (σ' := [(5, v61), (26, va0), (27, (.int .i64 (a0.length : Int))), (28, (.int .i64 0))]) ⟨rfl, rfl, rfl, rfl, trivial⟩; refine e_then ?_
  obtain ⟨o178, ho179, hK180⟩ := bnd_some hF
  obtain ⟨n181, hn182⟩ := lp_some ho179; clear ho179
  refine c_loop (fun a w => ∃ (l175 : (List Int)) (v176 : Value) (b177 : Int), Fr 39 [(5, v176)] a ∧ Chg [] W w ∧ Ow Rp.int 3 true w [] b177 v176 l175 ∧ Zn W b177 ∧ o178 = .inl l175) (fun n a w => ∃ (l123 : (List Int)) (i126 : Int) (v124 : Value) (b125 : Int), Fr 39 [(5, v124), (26, va0), (27, (.int .i64 (a0.length : Int))), (28, (.int .i64 i126))] a ∧ Chg [] W w ∧ InI i126 ∧ Ow Rp.int 3 true w [] b125 v124 l123 ∧ Zn W b125 ∧ lpN (fun s => F_impl_placesIn_l1 a0 s.1 s.2) n (l123, i126) = some o178) n181 ⟨(List.replicate ((a0.length : Int) : Int).toNat (0 : Int)), 0, v61, b68, ha.sub ⟨rfl, rfl, rfl, rfl, trivial⟩, hE71, (show InI 0 from by decide), h63, q70, hn182⟩ ?_ ?_
  · rintro m186 a w119 ⟨l123, i126, v124, b125, ha, hE128, hI127, h121, z122, hF⟩
    cases m186 with
    | zero => exact (lpN_zero hF).elim
    | succ m186 =>
      obtain ⟨z185, hF, hN184⟩ := lpN_succ hF
      have hF : F_impl_placesIn_l1 a0 l123 i126 = some z185 := hF; unfold F_impl_placesIn_l1 at hF
      refine wp_seq ?_; refine wp_region_lit ?_; refine op_g ha rfl (g_lss rfl rfl) ?_; clear ha a; intro a ha; refine wpList_nil ?_; replace ha := ha.sub (σ' := [(5, v124), (26, va0), (27, (.int .i64 (a0.length : Int))), (28, (.int .i64 i126)), (29, (.bool (decide (i126 < (a0.length : Int)))))]) ⟨rfl, rfl, rfl, rfl, rfl, trivial⟩; refine e_then ?_; refine wp_seq ?_; refine c_cond (i126 < (a0.length : Int)) ha rfl (decide_eq_true_iff) (fun hp187 => ?_) (fun hp187 => ?_)
      · replace hF := if_t hp187 hF
        refine wp_skip ?_; refine e_then ?_; refine wp_seq ?_; refine wp_block ?_; refine wp_seq ?_; refine wp_region_lit ?_; refine op_g ha rfl (g_move rfl) ?_; clear ha a; intro a ha; obtain ⟨x188, g189, gx190, hF⟩ := idx_some hF
        obtain ⟨p191, cs192, f193, hf194, hpb195, hat196, hr197, hi198⟩ := ha0.at g189 gx190
        obtain ⟨rfl, hI199, rfl⟩ := hr197
        refine op_g ha rfl (hi198.gives sl22 rfl rfl) ?_; clear ha a; intro a ha; refine op_g ha rfl (g_load0 hE128 Try.isAgg2 rfl hat196.one) ?_; clear ha a; intro a ha; (iterate 2 refine op_g ha rfl (g_assign rfl) ?_; clear ha a; intro a ha); refine wpList_nil ?_; replace ha := ha.sub (σ' := [(5, v124), (6, (.int .i64 i126)), (7, (.int .i64 x188)), (26, va0), (27, (.int .i64 (a0.length : Int))), (28, (.int .i64 i126))]) ⟨rfl, rfl, rfl, rfl, rfl, rfl, trivial⟩; refine e_then ?_; refine wp_region_lit ?_; (iterate 3 refine op_g ha rfl (g_move rfl) ?_; clear ha a; intro a ha); obtain ⟨x200, g201, gx202, hF⟩ := idx_some hF
        obtain ⟨p203, cs204, f205, hf206, hpb207, hat208, hr209, hi210⟩ := h121.at g201 gx202
        obtain ⟨rfl, hI211, rfl⟩ := hr209
        refine op_g ha rfl (hi210.gives sl41 rfl rfl) ?_; clear ha a; intro a ha
        refine o_storeE (f := []) (q := i126) ha Try.sizeOf3 rfl rfl rfl h121 hi210 ⟨rfl, hI127, rfl⟩ (Nq.nil _) ?_; intro w212 fs213 h214 hc215 hs216
        obtain rfl := Subst.nil hs216
        have hE217 := Ext.then hE128 hc215 (Zn.bl z122)
        refine wpList_nil ?_; replace ha := ha.sub (σ' := [(5, v124), (26, va0), (27, (.int .i64 (a0.length : Int))), (28, (.int .i64 i126))]) ⟨rfl, rfl, rfl, rfl, trivial⟩; refine e_blk ?_; refine e_then ?_; refine wp_region_lit ?_; obtain ⟨hI218, hF⟩ := ck_some hF; refine op_g ha rfl (g_add rfl rfl hI218) ?_; clear ha a; intro a ha; refine op_g ha rfl (g_move rfl) ?_; clear ha a; intro a ha; refine wpList_nil ?_; replace ha := ha.sub (σ' := [(5, v124), (26, va0), (27, (.int .i64 (a0.length : Int))), (28, (.int .i64 (i126 + 1)))]) ⟨rfl, rfl, rfl, rfl, trivial⟩; refine e_lq ?_; obtain rfl := Option.some.inj hF
        exact ⟨_, Nat.lt_succ_self _, (l123.set ((x188 : Int).toNat) i126), i126 + 1, v124, b125, ha.sub ⟨rfl, rfl, rfl, rfl, trivial⟩, hE217, hI218, h214, z122, hN184⟩
      replace hF := if_f hp187 hF; refine wp_exit ?_; refine e_then_exit ?_; refine e_lq_eq ?_; obtain rfl := Option.some.inj hF
      exact ⟨l123, v124, b125, ha.sub ⟨rfl, trivial⟩, hE128, h121, z122, (LK_inr hN184).symm⟩
  rintro a w171 ⟨l175, v176, b177, ha, hE183, h173, z174, rfl⟩
  have hF : F_impl_placesIn_k2 l175 = some _ := hK180; clear hK180; unfold F_impl_placesIn_k2 at hF
  refine e_then ?_; refine wp_seq ?_; refine wp_region_lit ?_; refine op_g ha rfl (g_move rfl) ?_; clear ha a; intro a ha; (iterate 2 refine op_g ha rfl (g_assign rfl) ?_; clear ha a; intro a ha); refine wpList_nil ?_; replace ha := ha.sub (σ' := [(2, v176), (3, (.bool true))]) ⟨rfl, rfl, trivial⟩; refine e_then ?_; refine wp_ret ?_; obtain rfl := Option.some.inj hF
  exact f_ret2 ha rfl rfl rfl ⟨_, _, _, rfl, h173, z174, rfl, hE183⟩
set_option maxHeartbeats 2000000 in
theorem W_impl_one {W : World} {a0 : Int} (ha0 : InI a0) {r : (BitVec 32)} (hF : F_impl_one a0 = some r) :
    Calls Try.prog 33 [.int .i64 a0].toArray W (Ret fun u w' => u = .int .u32 (BitVec.toNat r : Int) ∧ Ext W w') := by
  refine f_enter Try.func33 rfl Try.ntmps33 rfl ?_
  intro a ha
  replace ha : Fr 5 [(0, (.int .i64 a0))] a := ha
  have hE : Chg [] W W := Chg.refl _ _
  unfold F_impl_one at hF
  refine wp_seq ?_; refine wp_region_lit ?_; refine op_g ha rfl (g_assign rfl) ?_; clear ha a; intro a ha; refine wpList_nil ?_; replace ha := ha.sub (σ' := [(0, (.int .i64 a0))]) ⟨rfl, trivial⟩; refine e_then ?_; refine wp_seq ?_; refine wp_region_lit ?_; refine op_g ha rfl (g_move rfl) ?_; clear ha a; intro a ha; obtain ⟨hs1, hF⟩ := grd_some hF; refine op_g ha rfl (g32_shl (m := (1#32)) rfl rfl hs1) ?_; clear ha a; intro a ha; refine op_g ha rfl (g_assign rfl) ?_; clear ha a; intro a ha; refine wpList_nil ?_; replace ha := ha.sub (σ' := [(2, (.int .u32 (BitVec.toNat ((1#32) <<< (a0 : Int).toNat) : Int)))]) ⟨rfl, trivial⟩
  refine e_then ?_; refine wp_ret ?_; obtain rfl := Option.some.inj hF
  exact f_ret1 ha rfl rfl ⟨rfl, hE⟩
set_option maxHeartbeats 2000000 in
theorem W_impl_nets_join {W : World} {va0 : Value} {ba0 : Int} {a0 : (List (BitVec 32))} (ha0 : Ow Rp.u32 52 true W [] ba0 va0 a0) {a1 : Int} (ha1 : InI a1) {a2 : Int} (ha2 : InI a2) {r : (List (BitVec 32))} (hF : F_impl_nets_join a0 a1 a2 = some r) :
    Calls Try.prog 27 [va0, .int .i64 a1, .int .i64 a2].toArray W (Ret fun u w' => u = .tuple #[] ∧ Ow Rp.u32 52 true w' [] ba0 va0 r ∧ Chg (bl ba0) W w') := by
  refine f_enter Try.func27 rfl Try.ntmps27 rfl ?_
  intro a ha
  replace ha : Fr 22 [(0, va0), (1, (.int .i64 a1)), (2, (.int .i64 a2))] a := ha
  have hE : Chg (bl ba0) W W := Chg.refl _ _
  unfold F_impl_nets_join at hF
  refine wp_seq ?_; refine d_region [0, 1, 2, 3, 4, 5, 6, 7] hmix ?_; refine u_g 0 rfl (by kernel_rfl) (want0 _) ha rfl (g_move rfl) ?_; clear ha a; intro a ha; refine u_g 1 rfl (by kernel_rfl) (want0 _) ha rfl (g_move rfl) ?_; clear ha a; intro a ha; obtain ⟨x1, g2, gx3, hF⟩ := idx_some hF
  obtain ⟨p4, cs5, f6, hf7, hpb8, hat9, hr10, hi11⟩ := ha0.at g2 gx3
  obtain ⟨rfl, rfl⟩ := hr10
  refine u_g 2 rfl (by kernel_rfl) (want0 _) ha rfl (hi11.gives sl36 rfl rfl) ?_; clear ha a; intro a ha; refine u_g 3 rfl (by kernel_rfl) (want0 _) ha rfl (g_load Try.isAgg52 rfl hat9.one) ?_; clear ha a; intro a ha; refine u_g 4 rfl (by kernel_rfl) (want0 _) ha rfl (g_move rfl) ?_; clear ha a; intro a ha; obtain ⟨x14, hc15, hF⟩ := cal_some hF; refine u_call (.int .u32 (BitVec.toNat x14 : Int)) 5 rfl (by kernel_rfl) (want0 _) ha rfl rfl Try.call33 (fun w13 hx12 => W_impl_one ha2 hc15) (fun _ _ _ h => ⟨h.1, h.2⟩) ?_; clear ha a; intro a ha; refine u_g 6 rfl (by kernel_rfl) (want0 _) ha rfl (g32_or (m := x1) (n := x14) rfl rfl) ?_; clear ha a; intro a ha
  obtain ⟨x16, g17, gx18, hF⟩ := idx_some hF
  obtain ⟨p19, cs20, f21, hf22, hpb23, hat24, hr25, hi26⟩ := ha0.at g17 gx18
  obtain ⟨rfl, rfl⟩ := hr25
  refine u_g 7 rfl (by kernel_rfl) (want0 _) ha rfl (hi26.gives sl36 rfl rfl) ?_; clear ha a; intro a ha
  refine u_only 8 rfl (by kernel_rfl) ?_; intro w27 hx28
  replace ha0 := ha0.ext hx28
  have hE29 := Chg.more hE hx28
  refine o_storeE (f := []) (q := x1 ||| x14) ha Try.sizeOf52 rfl rfl rfl ha0 hi26 ⟨rfl, rfl⟩ (Nq.nil _) ?_; intro w30 fs31 h32 hc33 hs34
  obtain rfl := Subst.nil hs34
  have hE35 := Chg.same hE29 hc33
  refine wpList_nil (e_sq ?_)
  refine ⟨fun h => absurd h (by decide), ?_⟩
  refine u_done (by kernel_rfl) ?_; intro w36 hx37
  replace h32 := h32.ext hx37
  have hE38 := Chg.more hE35 hx37
  replace ha := ha.sub (σ' := [(0, va0), (1, (.int .i64 a1)), (2, (.int .i64 a2))]) ⟨rfl, rfl, rfl, trivial⟩; refine e_then ?_; refine d_region [0, 1, 2, 3, 4, 5, 6, 7] hmix ?_; refine u_g 0 rfl (by kernel_rfl) (want0 _) ha rfl (g_move rfl) ?_; clear ha a; intro a ha; refine u_g 1 rfl (by kernel_rfl) (want0 _) ha rfl (g_move rfl) ?_; clear ha a; intro a ha; obtain ⟨x39, g40, gx41, hF⟩ := idx_some hF
  obtain ⟨p42, cs43, f44, hf45, hpb46, hat47, hr48, hi49⟩ := h32.at g40 gx41
  obtain ⟨rfl, rfl⟩ := hr48
  refine u_g 2 rfl (by kernel_rfl) (want0 _) ha rfl (hi49.gives sl36 rfl rfl) ?_; clear ha a; intro a ha; refine u_g 3 rfl (by kernel_rfl) (want0 _) ha rfl (g_load Try.isAgg52 rfl hat47.one) ?_; clear ha a; intro a ha; refine u_g 4 rfl (by kernel_rfl) (want0 _) ha rfl (g_move rfl) ?_; clear ha a; intro a ha; obtain ⟨x52, hc53, hF⟩ := cal_some hF; refine u_call (.int .u32 (BitVec.toNat x52 : Int)) 5 rfl (by kernel_rfl) (want0 _) ha rfl rfl Try.call33 (fun w51 hx50 => W_impl_one ha1 hc53) (fun _ _ _ h => ⟨h.1, h.2⟩) ?_; clear ha a; intro a ha; refine u_g 6 rfl (by kernel_rfl) (want0 _) ha rfl (g32_or (m := x39) (n := x52) rfl rfl) ?_; clear ha a; intro a ha
  obtain ⟨x54, g55, gx56, hF⟩ := idx_some hF
  obtain ⟨p57, cs58, f59, hf60, hpb61, hat62, hr63, hi64⟩ := h32.at g55 gx56
  obtain ⟨rfl, rfl⟩ := hr63
  refine u_g 7 rfl (by kernel_rfl) (want0 _) ha rfl (hi64.gives sl36 rfl rfl) ?_; clear ha a; intro a ha
  refine u_only 8 rfl (by kernel_rfl) ?_; intro w65 hx66
  replace h32 := h32.ext hx66
  have hE67 := Chg.more hE38 hx66
  refine o_storeE (f := []) (q := x39 ||| x52) ha Try.sizeOf52 rfl rfl rfl h32 hi64 ⟨rfl, rfl⟩ (Nq.nil _) ?_; intro w68 fs69 h70 hc71 hs72
  obtain rfl := Subst.nil hs72
  have hE73 := Chg.same hE67 hc71
  refine wpList_nil (e_sq ?_)
  refine ⟨fun h => absurd h (by decide), ?_⟩
  refine u_done (by kernel_rfl) ?_; intro w74 hx75
  replace h70 := h70.ext hx75
  have hE76 := Chg.more hE73 hx75
  replace ha := ha.sub (σ' := []) trivial
  obtain rfl := Option.some.inj hF
  exact f_end0 ha rfl ⟨rfl, h70, hE76⟩
set_option maxHeartbeats 2000000 in
theorem W_impl_crossings {W : World} {va0 : Value} {fa0 : List Nat} {a0 : (List Int)} (ha0 : Ro Rp.int W fa0 va0 a0) {va1 : Value} {fa1 : List Nat} {a1 : (List Int)} (ha1 : Ro Rp.int W fa1 va1 a1) {r : ((List (BitVec 32)) × Bool)} (hF : F_impl_crossings a0 a1 = some r) :
    Calls Try.prog 19 [va0, va1].toArray W (Ret fun u w' => ∃ (u0 : Value) (u1 : Value) (b_u0 : Int), u = .tuple #[u0, u1] ∧ Ow Rp.u32 52 true w' [] b_u0 u0 r.1 ∧ Zn W b_u0 ∧ u1 = .bool r.2 ∧ Ext W w') := by
  refine f_enter Try.func19 rfl Try.ntmps19 rfl ?_
  intro a ha
  replace ha : Fr 74 [(0, va0), (1, va1)] a := ha
  have hE : Chg [] W W := Chg.refl _ _
  unfold F_impl_crossings at hF
  refine wp_seq ?_; refine wp_region_lit ?_; (iterate 2 refine op_g ha rfl (g_assign rfl) ?_; clear ha a; intro a ha); refine wpList_nil ?_; replace ha := ha.sub (σ' := [(0, va0), (1, va1)]) ⟨rfl, rfl, trivial⟩; refine e_then ?_; refine wp_seq ?_; refine wp_region_lit ?_; refine op_g ha rfl (g_move rfl) ?_; clear ha a; intro a ha; obtain ⟨x1, hc2, hF⟩ := cal_some hF
  refine o_call ha rfl rfl Try.call26 (W_impl_placesIn (ha0.ext hE) hc2) ?_; clear ha a; rintro v3 w4 ⟨u6, u7, b8, rfl, h9, z10, rfl, hx5⟩ a ha
  have hE12 := Ext.trans hE hx5
  have q13 := Zn.upD z10 hE
  refine op_g ha rfl (g_move rfl) ?_; clear ha a; intro a ha; (iterate 2 refine op_g ha rfl (g_extract rfl rfl) ?_; clear ha a; intro a ha); (iterate 2 refine op_g ha rfl (g_assign rfl) ?_; clear ha a; intro a ha); refine wpList_nil ?_; replace ha := ha.sub (σ' := [(0, va0), (1, va1), (6, u6), (7, (.bool x1.2))]) ⟨rfl, rfl, rfl, rfl, trivial⟩; refine e_then ?_; refine wp_seq ?_; refine wp_region_lit ?_; refine op_g ha rfl (g_move rfl) ?_; clear ha a; intro a ha; obtain ⟨x14, hc15, hF⟩ := cal_some hF
  refine o_call ha rfl rfl Try.call26 (W_impl_placesIn (ha1.ext hE12) hc15) ?_; clear ha a; rintro v16 w17 ⟨u19, u20, b21, rfl, h22, z23, rfl, hx18⟩ a ha
  have q25 := Nq.new h9.fpb z23
  have q26 := Nq.madeO z23 h9.blt
  replace h9 := h9.ext hx18
  have hE27 := Ext.trans hE12 hx18
  have q28 := Zn.upD z23 hE12
  refine op_g ha rfl (g_move rfl) ?_; clear ha a; intro a ha; (iterate 2 refine op_g ha rfl (g_extract rfl rfl) ?_; clear ha a; intro a ha); (iterate 2 refine op_g ha rfl (g_assign rfl) ?_; clear ha a; intro a ha); refine wpList_nil ?_; replace ha := ha.sub (σ' := [(0, va0), (1, va1), (6, u6), (7, (.bool x1.2)), (8, u19), (9, (.bool x14.2))]) ⟨rfl, rfl, rfl, rfl, rfl, rfl, trivial⟩; refine e_then ?_; refine wp_seq ?_; refine wp_seq ?_; refine wp_region_lit ?_; refine op_g ha rfl (g_move rfl) ?_; clear ha a; intro a ha; refine op_g ha rfl (g_not rfl) ?_; clear ha a; intro a ha; refine op_g ha rfl (g_move rfl) ?_; clear ha a; intro a ha
  by_cases hp32 : ¬ (x1.2 = true)
  · replace hF := if_t hp32 hF
    rw [show (!x1.2) = true from (n_iff (Iff.rfl)).2 hp32] at ha
    (iterate 2 refine op_unwant ha rfl (yields ha rfl rfl) rfl ?_; clear ha a; intro a ha); refine op_g ha rfl (g_pick rfl rfl) ?_; clear ha a; intro a ha; refine op_g ha rfl (g_move rfl) ?_; clear ha a; intro a ha; (iterate 5 refine op_unwant ha rfl (yields ha rfl rfl) rfl ?_; clear ha a; intro a ha); refine op_g ha rfl (g_pick rfl rfl) ?_; clear ha a; intro a ha; refine wpList_nil ?_; replace ha := ha.sub (σ' := [(0, va0), (6, u6), (8, u19), (35, (.bool true))]) ⟨rfl, rfl, rfl, rfl, trivial⟩; refine e_then ?_; refine c_true ha rfl ?_; refine wp_seq ?_; refine wp_region_lit ?_; (iterate 2 refine op_g ha rfl (g_assign rfl) ?_; clear ha a; intro a ha)
    refine wpList_nil ?_; replace ha := ha.sub (σ' := [(4, (.slice none 0 0)), (5, (.bool false))]) ⟨rfl, rfl, trivial⟩; refine e_then ?_; refine wp_ret ?_; refine e_then_ret ?_; obtain rfl := Option.some.inj hF
    exact f_ret2 ha rfl rfl rfl ⟨_, _, -1, rfl, (Ow.nil (by decide)), (.inl (by decide)), rfl, hE27⟩
  replace hF := if_f hp32 hF
  rw [show (!x1.2) = false from b_false (n_iff (Iff.rfl)) hp32] at ha
  refine op_want (yields ha rfl rfl) ?_; refine op_g ha rfl (g_move rfl) ?_; clear ha a; intro a ha; refine op_want (yields ha rfl rfl) ?_; refine op_g ha rfl (g_not rfl) ?_; clear ha a; intro a ha; refine op_g ha rfl (g_pick rfl rfl) ?_; clear ha a; intro a ha; refine op_g ha rfl (g_move rfl) ?_; clear ha a; intro a ha
  by_cases hp33 : ¬ (x14.2 = true)
  · replace hF := if_t hp33 hF
    rw [show (!x14.2) = true from (n_iff (Iff.rfl)).2 hp33] at ha
    (iterate 5 refine op_unwant ha rfl (yields ha rfl rfl) rfl ?_; clear ha a; intro a ha); refine op_g ha rfl (g_pick rfl rfl) ?_; clear ha a; intro a ha; refine wpList_nil ?_; replace ha := ha.sub (σ' := [(0, va0), (6, u6), (8, u19), (35, (.bool true))]) ⟨rfl, rfl, rfl, rfl, trivial⟩; refine e_then ?_; refine c_true ha rfl ?_; refine wp_seq ?_; refine wp_region_lit ?_; (iterate 2 refine op_g ha rfl (g_assign rfl) ?_; clear ha a; intro a ha); refine wpList_nil ?_; replace ha := ha.sub (σ' := [(4, (.slice none 0 0)), (5, (.bool false))]) ⟨rfl, rfl, trivial⟩; refine e_then ?_; refine wp_ret ?_; refine e_then_ret ?_
    obtain rfl := Option.some.inj hF
    exact f_ret2 ha rfl rfl rfl ⟨_, _, -1, rfl, (Ow.nil (by decide)), (.inl (by decide)), rfl, hE27⟩
  replace hF := if_f hp33 hF
  rw [show (!x14.2) = false from b_false (n_iff (Iff.rfl)) hp33] at ha
  refine op_want (yields ha rfl rfl) ?_; refine op_g ha rfl (g_move rfl) ?_; clear ha a; intro a ha; refine op_want (yields ha rfl rfl) ?_; refine op_g ha rfl (g_lenR sl22.und ha0 rfl) ?_; clear ha a; intro a ha; refine op_want (yields ha rfl rfl) ?_; refine op_g ha rfl (g_move rfl) ?_; clear ha a; intro a ha; refine op_want (yields ha rfl rfl) ?_; refine op_g ha rfl (g_lenR sl22.und ha1 rfl) ?_; clear ha a; intro a ha; refine op_want (yields ha rfl rfl) ?_; refine op_g ha rfl (g_neq rfl rfl) ?_; clear ha a; intro a ha; refine op_g ha rfl (g_pick rfl rfl) ?_; clear ha a; intro a ha; refine wpList_nil ?_
  replace ha := ha.sub (σ' := [(0, va0), (6, u6), (8, u19), (35, (.bool (decide ((a0.length : Int) ≠ (a1.length : Int)))))]) ⟨rfl, rfl, rfl, rfl, trivial⟩; refine e_then ?_; refine c_cond ((a0.length : Int) ≠ (a1.length : Int)) ha rfl (decide_eq_true_iff) (fun hp34 => ?_) (fun hp34 => ?_)
  · replace hF := if_t hp34 hF
    refine wp_seq ?_; refine wp_region_lit ?_; (iterate 2 refine op_g ha rfl (g_assign rfl) ?_; clear ha a; intro a ha); refine wpList_nil ?_; replace ha := ha.sub (σ' := [(4, (.slice none 0 0)), (5, (.bool false))]) ⟨rfl, rfl, trivial⟩; refine e_then ?_; refine wp_ret ?_; refine e_then_ret ?_; obtain rfl := Option.some.inj hF
    exact f_ret2 ha rfl rfl rfl ⟨_, _, -1, rfl, (Ow.nil (by decide)), (.inl (by decide)), rfl, hE27⟩
  replace hF := if_f hp34 hF; refine wp_skip ?_; refine e_then ?_; refine wp_seq ?_; refine wp_region_lit ?_; refine op_g ha rfl (g_move rfl) ?_; clear ha a; intro a ha; refine op_g ha rfl (g_lenR sl22.und ha0 rfl) ?_; clear ha a; intro a ha; obtain ⟨g39, g39b, hF⟩ := mkS_some hF
  refine o_make (z0 := (0 : BitVec 32)) Rp.u32 ha rfl sl36 rfl (fun w => ⟨rfl, rfl⟩) rfl g39 g39b ?_; clear ha a; intro v35 w36 h37 hx38 a ha
  obtain ⟨b42, hb42⟩ : ∃ b : Int, b = w17.heap.size := ⟨_, rfl⟩; rw [← hb42] at h37
  have q43 := zn_of hb42
  have q44 := Nq.new h9.fpb q43
  have q45 := Nq.madeO q43 h9.blt
  have q46 := Nq.new h22.fpb q43
  have q47 := Nq.madeO q43 h22.blt
  have q48 := Zn.upD q43 hE27
  replace h9 := h9.ext hx38
  replace h22 := h22.ext hx38
  have hE49 := Ext.trans hE27 hx38
  refine op_g ha rfl (g_assign rfl) ?_; clear ha a; intro a ha; refine wpList_nil ?_; replace ha := ha.sub (σ' := [(6, u6), (8, u19), (10, v35)]) ⟨rfl, rfl, rfl, trivial⟩; refine e_then ?_; refine wp_seq ?_; refine wp_seq ?_; refine wp_region_lit ?_; refine op_g ha rfl (g_move rfl) ?_; clear ha a; intro a ha; refine op_g ha rfl (g_lenO sl41.und h9 rfl) ?_; clear ha a; intro a ha; refine op_g ha rfl (g_move rfl) ?_; clear ha a; intro a ha; refine wpList_nil ?_; replace ha := ha.sub (σ' := [(6, u6), (8, u19), (10, v35), (40, (.int .i64 (x1.1.length : Int))), (41, (.int .i64 0))]) ⟨rfl, rfl, rfl, rfl, rfl, trivial⟩
  refine e_then ?_; obtain ⟨o746, ho747, hK748⟩ := bnd_some hF
  obtain ⟨n749, hn750⟩ := lp_some ho747; clear ho747
  refine c_loop (fun a w => ∃ (l743 : (List (BitVec 32))) (v744 : Value) (b745 : Int), Fr 74 [(10, v744)] a ∧ Chg [] W w ∧ Ow Rp.u32 52 true w [] b745 v744 l743 ∧ Zn W b745 ∧ o746 = .inl l743) (fun n a w => ∃ (l402 : (List (BitVec 32))) (i405 : Int) (v403 : Value) (b404 : Int), Fr 74 [(6, u6), (8, u19), (10, v403), (40, (.int .i64 (x1.1.length : Int))), (41, (.int .i64 i405))] a ∧ Chg [] W w ∧ InI i405 ∧ Ow Rp.int 3 true w [] b8 u6 x1.1 ∧ Zn W b8 ∧ Ow Rp.int 3 true w [] b21 u19 x14.1 ∧ Zn W b21 ∧ Ow Rp.u32 52 true w [] b404 v403 l402 ∧ Zn W b404 ∧ Nq (bl b8 ++ []) b21 ∧ Nq (bl b8 ++ []) b404 ∧ Nq (bl b21 ++ []) b8 ∧ Nq (bl b21 ++ []) b404 ∧ Nq (bl b404 ++ []) b8 ∧ Nq (bl b404 ++ []) b21 ∧ lpN (fun s => F_impl_crossings_l1 x1 x14 s.1 s.2) n (l402, i405) = some o746) n749 ⟨(List.replicate ((a0.length : Int) : Int).toNat (0 : BitVec 32)), 0, v35, b42, ha.sub ⟨rfl, rfl, rfl, rfl, rfl, trivial⟩, hE49, (show InI 0 from by decide), h9, q13, h22, q28, h37, q48, q25, q44, q26, q46, q45, q47, hn750⟩ ?_ ?_
  · rintro m754 a w392 ⟨l402, i405, v403, b404, ha, hE413, hI406, h394, z395, h397, z398, h400, z401, q407, q408, q409, q410, q411, q412, hF⟩
    cases m754 with
    | zero => exact (lpN_zero hF).elim
    | succ m754 =>
      obtain ⟨z753, hF, hN752⟩ := lpN_succ hF
      have hF : F_impl_crossings_l1 x1 x14 l402 i405 = some z753 := hF; unfold F_impl_crossings_l1 at hF
      refine wp_seq ?_; refine wp_region_lit ?_; refine op_g ha rfl (g_lss rfl rfl) ?_; clear ha a; intro a ha; refine wpList_nil ?_; replace ha := ha.sub (σ' := [(6, u6), (8, u19), (10, v403), (40, (.int .i64 (x1.1.length : Int))), (41, (.int .i64 i405)), (42, (.bool (decide (i405 < (x1.1.length : Int)))))]) ⟨rfl, rfl, rfl, rfl, rfl, rfl, trivial⟩; refine e_then ?_; refine wp_seq ?_; refine c_cond (i405 < (x1.1.length : Int)) ha rfl (decide_eq_true_iff) (fun hp755 => ?_) (fun hp755 => ?_)
      · replace hF := if_t hp755 hF
        refine wp_skip ?_; refine e_then ?_; refine wp_seq ?_; refine wp_block ?_; refine wp_seq ?_; refine wp_region_lit ?_; refine op_g ha rfl (g_move rfl) ?_; clear ha a; intro a ha; refine op_g ha rfl (g_assign rfl) ?_; clear ha a; intro a ha; refine wpList_nil ?_; replace ha := ha.sub (σ' := [(6, u6), (8, u19), (10, v403), (11, (.int .i64 i405)), (40, (.int .i64 (x1.1.length : Int))), (41, (.int .i64 i405))]) ⟨rfl, rfl, rfl, rfl, rfl, rfl, trivial⟩; refine e_then ?_; refine wp_seq ?_; refine wp_region_lit ?_; (iterate 2 refine op_g ha rfl (g_move rfl) ?_; clear ha a; intro a ha); refine wpList_nil ?_
        replace ha := ha.sub (σ' := [(6, u6), (8, u19), (10, v403), (11, (.int .i64 i405)), (40, (.int .i64 (x1.1.length : Int))), (41, (.int .i64 i405)), (44, (.int .i64 i405)), (45, (.int .i64 0))]) ⟨rfl, rfl, rfl, rfl, rfl, rfl, rfl, rfl, trivial⟩; refine e_then ?_; obtain ⟨o984, ho985, hK986⟩ := bnd_some hF
        obtain ⟨n987, hn988⟩ := lp_some ho985; clear ho985
        refine c_loop (fun a w => ∃ (l975 : (List (BitVec 32))) (v976 : Value) (b977 : Int), Fr 74 [(6, u6), (8, u19), (10, v976), (40, (.int .i64 (x1.1.length : Int))), (41, (.int .i64 i405))] a ∧ Chg [] W w ∧ Ow Rp.int 3 true w [] b8 u6 x1.1 ∧ Zn W b8 ∧ Ow Rp.int 3 true w [] b21 u19 x14.1 ∧ Zn W b21 ∧ Ow Rp.u32 52 true w [] b977 v976 l975 ∧ Zn W b977 ∧ Nq (bl b8 ++ []) b21 ∧ Nq (bl b8 ++ []) b977 ∧ Nq (bl b21 ++ []) b8 ∧ Nq (bl b21 ++ []) b977 ∧ Nq (bl b977 ++ []) b8 ∧ Nq (bl b977 ++ []) b21 ∧ o984 = .inl l975) (fun n a w => ∃ (l868 : (List (BitVec 32))) (i871 : Int) (v869 : Value) (b870 : Int), Fr 74 [(6, u6), (8, u19), (10, v869), (11, (.int .i64 i405)), (40, (.int .i64 (x1.1.length : Int))), (41, (.int .i64 i405)), (44, (.int .i64 i405)), (45, (.int .i64 i871))] a ∧ Chg [] W w ∧ InI i871 ∧ Ow Rp.int 3 true w [] b8 u6 x1.1 ∧ Zn W b8 ∧ Ow Rp.int 3 true w [] b21 u19 x14.1 ∧ Zn W b21 ∧ Ow Rp.u32 52 true w [] b870 v869 l868 ∧ Zn W b870 ∧ Nq (bl b8 ++ []) b21 ∧ Nq (bl b8 ++ []) b870 ∧ Nq (bl b21 ++ []) b8 ∧ Nq (bl b21 ++ []) b870 ∧ Nq (bl b870 ++ []) b8 ∧ Nq (bl b870 ++ []) b21 ∧ lpN (fun s => F_impl_crossings_l2 x1 x14 i405 s.1 s.2) n (l868, i871) = some o984) n987 ⟨l402, 0, v403, b404, ha.sub ⟨rfl, rfl, rfl, rfl, rfl, rfl, rfl, rfl, trivial⟩, hE413, (show InI 0 from by decide), h394, z395, h397, z398, h400, z401, q407, q408, q409, q410, q411, q412, hn988⟩ ?_ ?_
        · rintro m992 a w858 ⟨l868, i871, v869, b870, ha, hE879, hI872, h860, z861, h863, z864, h866, z867, q873, q874, q875, q876, q877, q878, hF⟩
          cases m992 with
          | zero => exact (lpN_zero hF).elim
          | succ m992 =>
            obtain ⟨z991, hF, hN990⟩ := lpN_succ hF
            have hF : F_impl_crossings_l2 x1 x14 i405 l868 i871 = some z991 := hF; unfold F_impl_crossings_l2 at hF
            refine wp_seq ?_; refine wp_region_lit ?_; refine op_g ha rfl (g_lss rfl rfl) ?_; clear ha a; intro a ha; refine wpList_nil ?_; replace ha := ha.sub (σ' := [(6, u6), (8, u19), (10, v869), (11, (.int .i64 i405)), (40, (.int .i64 (x1.1.length : Int))), (41, (.int .i64 i405)), (44, (.int .i64 i405)), (45, (.int .i64 i871)), (46, (.bool (decide (i871 < i405))))]) ⟨rfl, rfl, rfl, rfl, rfl, rfl, rfl, rfl, rfl, trivial⟩; refine e_then ?_; refine wp_seq ?_; refine c_cond (i871 < i405) ha rfl (decide_eq_true_iff) (fun hp993 => ?_) (fun hp993 => ?_)
            · replace hF := if_t hp993 hF
              refine wp_skip ?_; refine e_then ?_; refine wp_seq ?_; refine wp_block ?_; refine wp_seq ?_; refine wp_region_lit ?_; refine op_g ha rfl (g_move rfl) ?_; clear ha a; intro a ha; refine op_g ha rfl (g_assign rfl) ?_; clear ha a; intro a ha; refine wpList_nil ?_; replace ha := ha.sub (σ' := [(6, u6), (8, u19), (10, v869), (11, (.int .i64 i405)), (12, (.int .i64 i871)), (40, (.int .i64 (x1.1.length : Int))), (41, (.int .i64 i405)), (44, (.int .i64 i405)), (45, (.int .i64 i871))]) ⟨rfl, rfl, rfl, rfl, rfl, rfl, rfl, rfl, rfl, trivial⟩; refine e_then ?_; refine wp_seq ?_; refine d_quiet hmix (by kernel_rfl) ?_
              (iterate 2 refine q_g ha rfl (g_move rfl) ?_; clear ha a; intro a ha); obtain ⟨x994, g995, gx996, hF⟩ := idx_some hF
              obtain ⟨p997, cs998, f999, hf1000, hpb1001, hat1002, hr1003, hi1004⟩ := h860.at g995 gx996
              obtain ⟨rfl, hI1005, rfl⟩ := hr1003
              refine q_g ha rfl (hi1004.gives sl41 rfl rfl) ?_; clear ha a; intro a ha; refine q_g ha rfl (g_load Try.isAgg3 rfl hat1002.one) ?_; clear ha a; intro a ha; (iterate 2 refine q_g ha rfl (g_move rfl) ?_; clear ha a; intro a ha); obtain ⟨x1006, g1007, gx1008, hF⟩ := idx_some hF
              obtain ⟨p1009, cs1010, f1011, hf1012, hpb1013, hat1014, hr1015, hi1016⟩ := h860.at g1007 gx1008
              obtain ⟨rfl, hI1017, rfl⟩ := hr1015
              refine q_g ha rfl (hi1016.gives sl41 rfl rfl) ?_; clear ha a; intro a ha; refine q_g ha rfl (g_load Try.isAgg3 rfl hat1014.one) ?_; clear ha a; intro a ha; refine q_g ha rfl (g_lss rfl rfl) ?_; clear ha a; intro a ha; (iterate 2 refine q_g ha rfl (g_move rfl) ?_; clear ha a; intro a ha); obtain ⟨x1018, g1019, gx1020, hF⟩ := idx_some hF
              obtain ⟨p1021, cs1022, f1023, hf1024, hpb1025, hat1026, hr1027, hi1028⟩ := h863.at g1019 gx1020
              obtain ⟨rfl, hI1029, rfl⟩ := hr1027
              refine q_g ha rfl (hi1028.gives sl41 rfl rfl) ?_; clear ha a; intro a ha; refine q_g ha rfl (g_load Try.isAgg3 rfl hat1026.one) ?_; clear ha a; intro a ha; (iterate 2 refine q_g ha rfl (g_move rfl) ?_; clear ha a; intro a ha); obtain ⟨x1030, g1031, gx1032, hF⟩ := idx_some hF
              obtain ⟨p1033, cs1034, f1035, hf1036, hpb1037, hat1038, hr1039, hi1040⟩ := h863.at g1031 gx1032
              obtain ⟨rfl, hI1041, rfl⟩ := hr1039
              refine q_g ha rfl (hi1040.gives sl41 rfl rfl) ?_; clear ha a; intro a ha; refine q_g ha rfl (g_load Try.isAgg3 rfl hat1038.one) ?_; clear ha a; intro a ha; refine q_g ha rfl (g_lss rfl rfl) ?_; clear ha a; intro a ha; refine q_g ha rfl (gB_neq un4 rfl rfl) ?_; clear ha a; intro a ha
              refine q_nil ?_; intro w1042 hx1043
              replace h860 := h860.ext hx1043
              replace h863 := h863.ext hx1043
              replace h866 := h866.ext hx1043
              have hE1044 := Ext.trans hE879 hx1043
              replace ha := ha.sub (σ' := [(6, u6), (8, u19), (10, v869), (11, (.int .i64 i405)), (12, (.int .i64 i871)), (40, (.int .i64 (x1.1.length : Int))), (41, (.int .i64 i405)), (44, (.int .i64 i405)), (45, (.int .i64 i871)), (66, (.bool ((decide (x994 < x1006)) != (decide (x1018 < x1030)))))]) ⟨rfl, rfl, rfl, rfl, rfl, rfl, rfl, rfl, rfl, rfl, trivial⟩; refine e_then ?_; refine c_cond (((decide (x994 < x1006)) != (decide (x1018 < x1030))) = true) ha rfl (Iff.rfl) (fun hp1045 => ?_) (fun hp1045 => ?_)
              · replace hF := if_t hp1045 hF
                refine wp_region_lit ?_; (iterate 3 refine op_g ha rfl (g_move rfl) ?_; clear ha a; intro a ha); obtain ⟨x1046, hc1047, hF⟩ := cal_some hF
                refine o_call ha rfl rfl Try.call27 (W_impl_nets_join h866 hI406 hI872 hc1047) ?_; clear ha a; rintro v1048 w1049 ⟨rfl, h1051, hx1050⟩ a ha
                replace h860 := h860.nq hx1050 q874
                replace h863 := h863.nq hx1050 q876
                have hE1052 := Ext.then hE1044 hx1050 (Zn.bl z867)
                refine wpList_nil ?_; replace ha := ha.sub (σ' := [(6, u6), (8, u19), (10, v869), (11, (.int .i64 i405)), (40, (.int .i64 (x1.1.length : Int))), (41, (.int .i64 i405)), (44, (.int .i64 i405)), (45, (.int .i64 i871))]) ⟨rfl, rfl, rfl, rfl, rfl, rfl, rfl, rfl, trivial⟩; refine e_blk ?_; refine e_then ?_; refine wp_region_lit ?_; obtain ⟨hI1053, hF⟩ := ck_some hF; refine op_g ha rfl (g_add rfl rfl hI1053) ?_; clear ha a; intro a ha; refine op_g ha rfl (g_move rfl) ?_; clear ha a; intro a ha; refine wpList_nil ?_; replace ha := ha.sub (σ' := [(6, u6), (8, u19), (10, v869), (11, (.int .i64 i405)), (40, (.int .i64 (x1.1.length : Int))), (41, (.int .i64 i405)), (44, (.int .i64 i405)), (45, (.int .i64 (i871 + 1)))]) ⟨rfl, rfl, rfl, rfl, rfl, rfl, rfl, rfl, trivial⟩
                refine e_lq ?_; obtain rfl := Option.some.inj hF
                exact ⟨_, Nat.lt_succ_self _, x1046, i871 + 1, v869, b870, ha.sub ⟨rfl, rfl, rfl, rfl, rfl, rfl, rfl, rfl, trivial⟩, hE1052, hI1053, h860, z861, h863, z864, h1051, z867, q873, q874, q875, q876, q877, q878, hN990⟩
              replace hF := if_f hp1045 hF; refine wp_skip ?_; refine e_blk ?_; refine e_then ?_; refine wp_region_lit ?_; obtain ⟨hI1055, hF⟩ := ck_some hF; refine op_g ha rfl (g_add rfl rfl hI1055) ?_; clear ha a; intro a ha; refine op_g ha rfl (g_move rfl) ?_; clear ha a; intro a ha; refine wpList_nil ?_; replace ha := ha.sub (σ' := [(6, u6), (8, u19), (10, v869), (11, (.int .i64 i405)), (40, (.int .i64 (x1.1.length : Int))), (41, (.int .i64 i405)), (44, (.int .i64 i405)), (45, (.int .i64 (i871 + 1)))]) ⟨rfl, rfl, rfl, rfl, rfl, rfl, rfl, rfl, trivial⟩; refine e_lq ?_; obtain rfl := Option.some.inj hF
              exact ⟨_, Nat.lt_succ_self _, l868, i871 + 1, v869, b870, ha.sub ⟨rfl, rfl, rfl, rfl, rfl, rfl, rfl, rfl, trivial⟩, hE1044, hI1055, h860, z861, h863, z864, h866, z867, q873, q874, q875, q876, q877, q878, hN990⟩
            replace hF := if_f hp993 hF; refine wp_exit ?_; refine e_then_exit ?_; refine e_lq_eq ?_; obtain rfl := Option.some.inj hF
            exact ⟨l868, v869, b870, ha.sub ⟨rfl, rfl, rfl, rfl, rfl, trivial⟩, hE879, h860, z861, h863, z864, h866, z867, q873, q874, q875, q876, q877, q878, (LK_inr hN990).symm⟩
        rintro a w965 ⟨l975, v976, b977, ha, hE989, h967, z968, h970, z971, h973, z974, q978, q979, q980, q981, q982, q983, rfl⟩
        have hF : F_impl_crossings_k3 i405 l975 = some _ := hK986; clear hK986; unfold F_impl_crossings_k3 at hF
        refine e_blk ?_; refine e_then ?_; refine wp_region_lit ?_; obtain ⟨hI1057, hF⟩ := ck_some hF; refine op_g ha rfl (g_add rfl rfl hI1057) ?_; clear ha a; intro a ha; refine op_g ha rfl (g_move rfl) ?_; clear ha a; intro a ha; refine wpList_nil ?_; replace ha := ha.sub (σ' := [(6, u6), (8, u19), (10, v976), (40, (.int .i64 (x1.1.length : Int))), (41, (.int .i64 (i405 + 1)))]) ⟨rfl, rfl, rfl, rfl, rfl, trivial⟩; refine e_lq ?_; obtain rfl := Option.some.inj hF
        exact ⟨_, Nat.lt_succ_self _, l975, i405 + 1, v976, b977, ha.sub ⟨rfl, rfl, rfl, rfl, rfl, trivial⟩, hE989, hI1057, h967, z968, h970, z971, h973, z974, q978, q979, q980, q981, q982, q983, hN752⟩
      replace hF := if_f hp755 hF; refine wp_exit ?_; refine e_then_exit ?_; refine e_lq_eq ?_; obtain rfl := Option.some.inj hF
      exact ⟨l402, v403, b404, ha.sub ⟨rfl, trivial⟩, hE413, h400, z401, (LK_inr hN752).symm⟩
  rintro a w739 ⟨l743, v744, b745, ha, hE751, h741, z742, rfl⟩
  have hF : F_impl_crossings_k4 l743 = some _ := hK748; clear hK748; unfold F_impl_crossings_k4 at hF
  refine e_then ?_; refine wp_seq ?_; refine wp_region_lit ?_; refine op_g ha rfl (g_move rfl) ?_; clear ha a; intro a ha; (iterate 2 refine op_g ha rfl (g_assign rfl) ?_; clear ha a; intro a ha); refine wpList_nil ?_; replace ha := ha.sub (σ' := [(4, v744), (5, (.bool true))]) ⟨rfl, rfl, trivial⟩; refine e_then ?_; refine wp_ret ?_; obtain rfl := Option.some.inj hF
  exact f_ret2 ha rfl rfl rfl ⟨_, _, _, rfl, h741, z742, rfl, hE751⟩
set_option maxHeartbeats 2000000 in
theorem W_slices_Clone_int64 {W : World} {va0 : Value} {fa0 : List Nat} {a0 : (List Int)} (ha0 : Ro Rp.int W fa0 va0 a0) {r : (List Int)} (hF : F_slices_Clone_int64 a0 = some r) :
    Calls Try.prog 20 [va0].toArray W (Ret fun u w' => ∃ (b_u : Int), Ow Rp.int 2 true w' [] b_u u r ∧ Zn W b_u ∧ Ext W w') := by
  refine f_enter Try.func20 rfl Try.ntmps20 rfl ?_
  intro a ha
  replace ha : Fr 8 [(0, va0)] a := ha
  have hE : Chg [] W W := Chg.refl _ _
  unfold F_slices_Clone_int64 at hF
  refine wp_seq ?_; refine wp_region_lit ?_; refine op_g ha rfl (g_assign rfl) ?_; clear ha a; intro a ha; refine wpList_nil ?_; replace ha := ha.sub (σ' := [(0, va0)]) ⟨rfl, trivial⟩; refine e_then ?_; refine wp_seq ?_; refine wp_seq ?_; refine wp_region_lit ?_; refine op_g ha rfl (g_move rfl) ?_; clear ha a; intro a ha; refine op_g ha rfl (g_nil sl22.und rfl ha0.shape) ?_; clear ha a; intro a ha; refine wpList_nil ?_; replace ha := ha.sub (σ' := [(0, va0), (4, (.bool (nilB va0)))]) ⟨rfl, rfl, trivial⟩; refine e_then ?_; refine c_cond (nilB va0 = true) ha rfl (Iff.rfl) (fun hp1 => ?_) (fun hp1 => ?_)
  · replace hF := clone_nil hF (ha0.nilE hp1)
    refine wp_seq ?_; refine wp_region_lit ?_; refine op_g ha rfl (g_assign rfl) ?_; clear ha a; intro a ha; refine wpList_nil ?_; replace ha := ha.sub (σ' := [(2, (.slice none 0 0))]) ⟨rfl, trivial⟩; refine e_then ?_; refine wp_ret ?_; refine e_then_ret ?_; obtain rfl := Option.some.inj hF
    exact f_ret1 ha rfl rfl ⟨-1, (Ow.nil (by decide)), (.inl (by decide)), hE⟩
  skip
  refine wp_skip ?_; refine e_then ?_; refine wp_seq ?_; refine wp_region_lit ?_
  refine o_lit0 Rp.int ha rfl sl22 ?_; clear ha a; intro v2 w3 h4 hx5 a ha
  obtain ⟨b7, hb7⟩ : ∃ b : Int, b = W.heap.size := ⟨_, rfl⟩; rw [← hb7] at h4
  have q8 := zn_of hb7
  have q9 := Zn.upD q8 hE
  have hE10 := Ext.trans hE hx5
  refine op_g ha rfl (g_move rfl) ?_; clear ha a; intro a ha; obtain ⟨hl11, hF⟩ := app_some hF
  obtain ⟨_, hs12, _⟩ := (ha0.ext hE10).src
  refine o_append ha rfl sl22 rfl rfl rfl h4 (hs12.up scal_int) (Nq.nil _) hl11 ?_; clear ha a; intro v13 w14 b15 h16 hc17 hb18 a ha
  replace h16 : Ow Rp.int 2 true w14 [] b15 v13 _ := h16
  have q20 := Zn.appD q9 hb18 hE10
  have hE21 := Ext.then hE10 hc17 (Zn.bl q9)
  refine op_g ha rfl (g_assign rfl) ?_; clear ha a; intro a ha; refine wpList_nil ?_; replace ha := ha.sub (σ' := [(2, v13)]) ⟨rfl, trivial⟩; refine e_then ?_; refine wp_ret ?_; obtain rfl := Option.some.inj hF
  exact f_ret1 ha rfl rfl ⟨_, h16, q20, hE21⟩
set_option maxHeartbeats 2000000 in
theorem W_slices_Reverse_int64 {W : World} {va0 : Value} {ba0 : Int} {a0 : (List Int)} (ha0 : Ow Rp.int 2 true W [] ba0 va0 a0) {r : (List Int)} (hF : F_slices_Reverse_int64 a0 = some r) :
    Calls Try.prog 21 [va0].toArray W (Ret fun u w' => u = .tuple #[] ∧ Ow Rp.int 2 true w' [] ba0 va0 r ∧ Chg (bl ba0) W w') := by
  refine f_enter Try.func21 rfl Try.ntmps21 rfl ?_
  intro a ha
  replace ha : Fr 28 [(0, va0)] a := ha
  have hE : Chg (bl ba0) W W := Chg.refl _ _
  unfold F_slices_Reverse_int64 at hF
  refine wp_seq ?_; refine wp_region_lit ?_; refine op_g ha rfl (g_move rfl) ?_; clear ha a; intro a ha; refine op_g ha rfl (g_lenO sl22.und ha0 rfl) ?_; clear ha a; intro a ha; obtain ⟨hI1, hF⟩ := ck_some hF; refine op_g ha rfl (g_sub rfl rfl hI1) ?_; clear ha a; intro a ha; (iterate 2 refine op_g ha rfl (g_assign rfl) ?_; clear ha a; intro a ha); refine wpList_nil ?_; replace ha := ha.sub (σ' := [(0, va0), (2, (.int .i64 0)), (3, (.int .i64 ((a0.length : Int) - 1)))]) ⟨rfl, rfl, rfl, trivial⟩; refine e_then ?_; obtain ⟨o193, ho194, hK195⟩ := bnd_some hF
  obtain ⟨n196, hn197⟩ := lp_some ho194; clear ho194
  refine c_loop (fun a w => ∃ (l190 : (List Int)), Fr 28 [] a ∧ Chg (bl ba0) W w ∧ Ow Rp.int 2 true w [] ba0 va0 l190 ∧ o193 = .inl l190) (fun n a w => ∃ (l94 : (List Int)) (i97 : Int) (i99 : Int), Fr 28 [(0, va0), (2, (.int .i64 i97)), (3, (.int .i64 i99))] a ∧ Chg (bl ba0) W w ∧ InI i97 ∧ InI i99 ∧ Ow Rp.int 2 true w [] ba0 va0 l94 ∧ lpN (fun s => F_slices_Reverse_int64_l1 s.1 s.2.1 s.2.2) n (l94, i97, i99) = some o193) n196 ⟨a0, 0, (a0.length : Int) - 1, ha.sub ⟨rfl, rfl, rfl, trivial⟩, hE, (show InI 0 from by decide), hI1, ha0, hn197⟩ ?_ ?_
  · rintro m201 a w92 ⟨l94, i97, i99, ha, hE101, hI98, hI100, h93, hF⟩
    cases m201 with
    | zero => exact (lpN_zero hF).elim
    | succ m201 =>
      obtain ⟨z200, hF, hN199⟩ := lpN_succ hF
      have hF : F_slices_Reverse_int64_l1 l94 i97 i99 = some z200 := hF; unfold F_slices_Reverse_int64_l1 at hF
      refine wp_seq ?_; refine wp_seq ?_; refine wp_region_lit ?_; (iterate 2 refine op_g ha rfl (g_move rfl) ?_; clear ha a; intro a ha); refine op_g ha rfl (g_lss rfl rfl) ?_; clear ha a; intro a ha; refine wpList_nil ?_; replace ha := ha.sub (σ' := [(0, va0), (2, (.int .i64 i97)), (3, (.int .i64 i99)), (9, (.bool (decide (i97 < i99))))]) ⟨rfl, rfl, rfl, rfl, trivial⟩; refine e_then ?_; refine c_cond (i97 < i99) ha rfl (decide_eq_true_iff) (fun hp202 => ?_) (fun hp202 => ?_)
      · replace hF := if_t hp202 hF
        refine wp_skip ?_; refine e_then ?_; refine wp_seq ?_; refine wp_block ?_; refine d_region [0, 1, 4, 5, 6, 7, 8, 9, 10, 11, 12] hmix ?_; refine u_p 2 rfl (by kernel_rfl) (want0 _) ha rfl (fun _ => g_move rfl) ?_; clear ha a; intro a ha; refine u_p 3 rfl (by kernel_rfl) (want0 _) ha rfl (fun _ => g_move rfl) ?_; clear ha a; intro a ha; refine u_g 0 rfl (by kernel_rfl) (want0 _) ha rfl (g_move rfl) ?_; clear ha a; intro a ha; refine u_g 1 rfl (by kernel_rfl) (want0 _) ha rfl (g_move rfl) ?_; clear ha a; intro a ha; refine u_g 4 rfl (by kernel_rfl) (want0 _) ha rfl (g_move rfl) ?_; clear ha a; intro a ha
        refine u_g 5 rfl (by kernel_rfl) (want0 _) ha rfl (g_move rfl) ?_; clear ha a; intro a ha; obtain ⟨x203, g204, gx205, hF⟩ := idx_some hF
        obtain ⟨p206, cs207, f208, hf209, hpb210, hat211, hr212, hi213⟩ := h93.at g204 gx205
        obtain ⟨rfl, hI214, rfl⟩ := hr212
        refine u_g 6 rfl (by kernel_rfl) (want0 _) ha rfl (hi213.gives sl22 rfl rfl) ?_; clear ha a; intro a ha; refine u_g 7 rfl (by kernel_rfl) (want0 _) ha rfl (g_load Try.isAgg2 rfl hat211.one) ?_; clear ha a; intro a ha; refine u_g 8 rfl (by kernel_rfl) (want0 _) ha rfl (g_move rfl) ?_; clear ha a; intro a ha; refine u_g 9 rfl (by kernel_rfl) (want0 _) ha rfl (g_move rfl) ?_; clear ha a; intro a ha; obtain ⟨x215, g216, gx217, hF⟩ := idx_some hF
        obtain ⟨p218, cs219, f220, hf221, hpb222, hat223, hr224, hi225⟩ := h93.at g216 gx217
        obtain ⟨rfl, hI226, rfl⟩ := hr224
        refine u_g 10 rfl (by kernel_rfl) (want0 _) ha rfl (hi225.gives sl22 rfl rfl) ?_; clear ha a; intro a ha; refine u_g 11 rfl (by kernel_rfl) (want0 _) ha rfl (g_load Try.isAgg2 rfl hat223.one) ?_; clear ha a; intro a ha; obtain ⟨x227, g228, gx229, hF⟩ := idx_some hF
        obtain ⟨p230, cs231, f232, hf233, hpb234, hat235, hr236, hi237⟩ := h93.at g228 gx229
        obtain ⟨rfl, hI238, rfl⟩ := hr236
        refine u_g 12 rfl (by kernel_rfl) (want0 _) ha rfl (hi237.gives sl22 rfl rfl) ?_; clear ha a; intro a ha
        refine u_only 13 rfl (by kernel_rfl) ?_; intro w239 hx240
        replace h93 := h93.ext hx240
        have hE241 := Chg.more hE101 hx240
        refine o_storeE (f := []) (q := x203) ha Try.sizeOf2 rfl rfl rfl h93 hi237 ⟨rfl, hI214, rfl⟩ (Nq.nil _) ?_; intro w242 fs243 h244 hc245 hs246
        obtain rfl := Subst.nil hs246
        have hE247 := Chg.same hE241 hc245
        refine wpList_nil (e_sq ?_)
        refine ⟨fun h => absurd h (by decide), ?_⟩
        refine u_only 14 rfl (by kernel_rfl) ?_; intro w248 hx249
        replace h244 := h244.ext hx249
        have hE250 := Chg.more hE247 hx249
        obtain ⟨x251, g252, gx253, hF⟩ := idx_some hF
        obtain ⟨p254, cs255, f256, hf257, hpb258, hat259, hr260, hi261⟩ := h244.at g252 gx253
        obtain ⟨rfl, hI262, rfl⟩ := hr260
        refine op_g ha rfl (hi261.gives sl22 rfl rfl) ?_; clear ha a; intro a ha; refine wpList_nil (e_sq ?_)
        refine ⟨fun h => absurd h (by decide), ?_⟩
        refine u_only 15 rfl (by kernel_rfl) ?_; intro w263 hx264
        replace h244 := h244.ext hx264
        have hE265 := Chg.more hE250 hx264
        refine o_storeE (f := []) (q := x215) ha Try.sizeOf2 rfl rfl rfl h244 hi261 ⟨rfl, hI226, rfl⟩ (Nq.nil _) ?_; intro w266 fs267 h268 hc269 hs270
        obtain rfl := Subst.nil hs270
        have hE271 := Chg.same hE265 hc269
        refine wpList_nil (e_sq ?_)
        refine ⟨fun h => absurd h (by decide), ?_⟩
        refine u_done (by kernel_rfl) ?_; intro w272 hx273
        replace h268 := h268.ext hx273
        have hE274 := Chg.more hE271 hx273
        replace ha := ha.sub (σ' := [(0, va0), (2, (.int .i64 i97)), (3, (.int .i64 i99))]) ⟨rfl, rfl, rfl, trivial⟩; refine e_blk ?_; refine e_then ?_; refine wp_region_lit ?_; refine op_g ha rfl (g_move rfl) ?_; clear ha a; intro a ha; obtain ⟨hI275, hF⟩ := ck_some hF; refine op_g ha rfl (g_add rfl rfl hI275) ?_; clear ha a; intro a ha; refine op_g ha rfl (g_move rfl) ?_; clear ha a; intro a ha; obtain ⟨hI277, hF⟩ := ck_some hF; refine op_g ha rfl (g_sub rfl rfl hI277) ?_; clear ha a; intro a ha; (iterate 2 refine op_g ha rfl (g_assign rfl) ?_; clear ha a; intro a ha); refine wpList_nil ?_; replace ha := ha.sub (σ' := [(0, va0), (2, (.int .i64 (i97 + 1))), (3, (.int .i64 (i99 - 1)))]) ⟨rfl, rfl, rfl, trivial⟩
        refine e_lq ?_; obtain rfl := Option.some.inj hF
        exact ⟨_, Nat.lt_succ_self _, ((l94.set ((i97 : Int).toNat) x203).set ((i99 : Int).toNat) x215), i97 + 1, i99 - 1, ha.sub ⟨rfl, rfl, rfl, trivial⟩, hE274, hI275, hI277, h268, hN199⟩
      replace hF := if_f hp202 hF; refine wp_exit ?_; refine e_then_exit ?_; refine e_lq_eq ?_; obtain rfl := Option.some.inj hF
      exact ⟨l94, ha.sub trivial, hE101, h93, (LK_inr hN199).symm⟩
  rintro a w188 ⟨l190, ha, hE198, h189, rfl⟩
  have hF : F_slices_Reverse_int64_k2 l190 = some _ := hK195; clear hK195; unfold F_slices_Reverse_int64_k2 at hF
  obtain rfl := Option.some.inj hF
  exact f_end0 ha rfl ⟨rfl, h189, hE198⟩
set_option maxHeartbeats 2000000 in
theorem W_impl_TurnedLines {W : World} {va0 : Value} {fa0 : List Nat} {a0 : (List Int)} (ha0 : Ro Rp.int W fa0 va0 a0) {va1 : Value} {fa1 : List Nat} {a1 : (List Int)} (ha1 : Ro Rp.int W fa1 va1 a1) {r : ((List Int) × ((List Int) × Bool))} (hF : F_impl_TurnedLines a0 a1 = some r) :
    Calls Try.prog 10 [va0, va1].toArray W (Ret fun u w' => ∃ (u0 : Value) (u1 : Value) (u2 : Value) (b_u0 : Int) (b_u1 : Int), u = .tuple #[u0, u1, u2] ∧ Ow Rp.int 2 true w' [] b_u0 u0 r.1 ∧ Zn W b_u0 ∧ Ow Rp.int 2 true w' [] b_u1 u1 r.2.1 ∧ Zn W b_u1 ∧ u2 = .bool r.2.2 ∧ Nq (bl b_u0 ++ []) b_u1 ∧ Nq (bl b_u1 ++ []) b_u0 ∧ Ext W w') := by
  refine f_enter Try.func10 rfl Try.ntmps10 rfl ?_
  intro a ha
  replace ha : Fr 25 [(0, va0), (1, va1)] a := ha
  have hE : Chg [] W W := Chg.refl _ _
  unfold F_impl_TurnedLines at hF
  refine wp_seq ?_; refine wp_region_lit ?_; (iterate 3 refine op_g ha rfl (g_assign rfl) ?_; clear ha a; intro a ha); refine wpList_nil ?_; replace ha := ha.sub (σ' := [(0, va0), (1, va1)]) ⟨rfl, rfl, trivial⟩; refine e_then ?_; refine wp_seq ?_; refine wp_seq ?_; refine wp_region_lit ?_; (iterate 2 refine op_g ha rfl (g_move rfl) ?_; clear ha a; intro a ha); obtain ⟨x1, hc2, hF⟩ := cal_some hF
  refine o_call ha rfl rfl Try.call19 (W_impl_crossings (ha0.ext hE) (ha1.ext hE) hc2) ?_; clear ha a; rintro v3 w4 ⟨u6, u7, b8, rfl, h9, z10, rfl, hx5⟩ a ha
  have hE12 := Ext.trans hE hx5
  have q13 := Zn.upD z10 hE
  refine op_g ha rfl (g_move rfl) ?_; clear ha a; intro a ha; (iterate 2 refine op_g ha rfl (g_extract rfl rfl) ?_; clear ha a; intro a ha); (iterate 2 refine op_g ha rfl (g_assign rfl) ?_; clear ha a; intro a ha); refine wpList_nil ?_; replace ha := ha.sub (σ' := [(0, va0), (1, va1), (8, (.bool x1.2))]) ⟨rfl, rfl, rfl, trivial⟩; refine e_then ?_; refine wp_seq ?_; refine wp_region_lit ?_; refine op_g ha rfl (g_move rfl) ?_; clear ha a; intro a ha; refine op_g ha rfl (g_not rfl) ?_; clear ha a; intro a ha; refine wpList_nil ?_; replace ha := ha.sub (σ' := [(0, va0), (1, va1), (17, (.bool (!x1.2)))]) ⟨rfl, rfl, rfl, trivial⟩
  refine e_then ?_; refine c_cond (¬ (x1.2 = true)) ha rfl (n_iff (Iff.rfl)) (fun hp14 => ?_) (fun hp14 => ?_)
  · replace hF := if_t hp14 hF
    refine wp_seq ?_; refine wp_region_lit ?_; (iterate 3 refine op_g ha rfl (g_assign rfl) ?_; clear ha a; intro a ha); refine wpList_nil ?_; replace ha := ha.sub (σ' := [(4, (.slice none 0 0)), (5, (.slice none 0 0)), (6, (.bool false))]) ⟨rfl, rfl, rfl, trivial⟩; refine e_then ?_; refine wp_ret ?_; refine e_then_ret ?_; obtain rfl := Option.some.inj hF
    exact f_ret3 ha rfl rfl rfl rfl ⟨_, _, _, -1, -1, rfl, (Ow.nil (by decide)), (.inl (by decide)), (Ow.nil (by decide)), (.inl (by decide)), rfl, (Nq.nil0 (by decide)), (Nq.nil0 (by decide)), hE12⟩
  replace hF := if_f hp14 hF; refine wp_skip ?_; refine e_then ?_; refine wp_seq ?_; refine wp_region_lit ?_; refine op_g ha rfl (g_move rfl) ?_; clear ha a; intro a ha; obtain ⟨x15, hc16, hF⟩ := cal_some hF
  refine o_call ha rfl rfl Try.call20 (W_slices_Clone_int64 (ha1.ext hE12) hc16) ?_; clear ha a; rintro v17 w18 ⟨b20, h21, z22, hx19⟩ a ha
  have hE24 := Ext.trans hE12 hx19
  have q25 := Zn.upD z22 hE12
  refine op_g ha rfl (g_assign rfl) ?_; clear ha a; intro a ha; refine wpList_nil ?_; replace ha := ha.sub (σ' := [(0, va0), (9, v17)]) ⟨rfl, rfl, trivial⟩; refine e_then ?_; refine wp_seq ?_; refine wp_region_lit ?_; refine op_g ha rfl (g_move rfl) ?_; clear ha a; intro a ha; obtain ⟨x26, hc27, hF⟩ := cal_some hF
  refine o_call ha rfl rfl Try.call21 (W_slices_Reverse_int64 h21 hc27) ?_; clear ha a; rintro v28 w29 ⟨rfl, h31, hx30⟩ a ha
  have hE32 := Ext.then hE24 hx30 (Zn.bl q25)
  refine wpList_nil ?_; replace ha := ha.sub (σ' := [(0, va0), (9, v17)]) ⟨rfl, rfl, trivial⟩; refine e_then ?_; refine wp_seq ?_; refine wp_region_lit ?_; refine op_g ha rfl (g_move rfl) ?_; clear ha a; intro a ha; obtain ⟨x33, hc34, hF⟩ := cal_some hF
  refine o_call ha rfl rfl Try.call20 (W_slices_Clone_int64 (ha0.ext hE32) hc34) ?_; clear ha a; rintro v35 w36 ⟨b38, h39, z40, hx37⟩ a ha
  have q42 := Nq.new h31.fpb z40
  have q43 := Nq.madeO z40 h31.blt
  replace h31 := h31.ext hx37
  have hE44 := Ext.trans hE32 hx37
  have q45 := Zn.upD z40 hE32
  refine op_g ha rfl (g_move rfl) ?_; clear ha a; intro a ha; (iterate 3 refine op_g ha rfl (g_assign rfl) ?_; clear ha a; intro a ha); refine wpList_nil ?_; replace ha := ha.sub (σ' := [(4, v35), (5, v17), (6, (.bool true))]) ⟨rfl, rfl, rfl, trivial⟩; refine e_then ?_; refine wp_ret ?_; obtain rfl := Option.some.inj hF
  exact f_ret3 ha rfl rfl rfl rfl ⟨_, _, _, _, _, rfl, h39, q45, h31, q25, rfl, q43, q42, hE44⟩
set_option maxHeartbeats 2000000 in
theorem W_laws_eqInt64S {W : World} {va0 : Value} {fa0 : List Nat} {a0 : (List Int)} (ha0 : Ro Rp.int W fa0 va0 a0) {va1 : Value} {fa1 : List Nat} {a1 : (List Int)} (ha1 : Ro Rp.int W fa1 va1 a1) {r : Bool} (hF : F_laws_eqInt64S a0 a1 = some r) :
    Calls Try.prog 8 [va0, va1].toArray W (Ret fun u w' => u = .bool r ∧ Ext W w') := by
  refine f_enter Try.func8 rfl Try.ntmps8 rfl ?_
  intro a ha
  replace ha : Fr 26 [(0, va0), (1, va1)] a := ha
  have hE : Chg [] W W := Chg.refl _ _
  unfold F_laws_eqInt64S at hF
  refine wp_seq ?_; refine wp_region_lit ?_; refine op_g ha rfl (g_assign rfl) ?_; clear ha a; intro a ha; refine wpList_nil ?_; replace ha := ha.sub (σ' := [(0, va0), (1, va1)]) ⟨rfl, rfl, trivial⟩; refine e_then ?_; refine wp_seq ?_; refine wp_seq ?_; refine wp_region_lit ?_; refine op_g ha rfl (g_move rfl) ?_; clear ha a; intro a ha; refine op_g ha rfl (g_lenR sl22.und ha0 rfl) ?_; clear ha a; intro a ha; refine op_g ha rfl (g_move rfl) ?_; clear ha a; intro a ha; refine op_g ha rfl (g_lenR sl22.und ha1 rfl) ?_; clear ha a; intro a ha; refine op_g ha rfl (g_neq rfl rfl) ?_; clear ha a; intro a ha
  refine wpList_nil ?_; replace ha := ha.sub (σ' := [(0, va0), (1, va1), (10, (.bool (decide ((a0.length : Int) ≠ (a1.length : Int)))))]) ⟨rfl, rfl, rfl, trivial⟩; refine e_then ?_; refine c_cond ((a0.length : Int) ≠ (a1.length : Int)) ha rfl (decide_eq_true_iff) (fun hp1 => ?_) (fun hp1 => ?_)
  · replace hF := if_t hp1 hF
    refine wp_seq ?_; refine wp_region_lit ?_; refine op_g ha rfl (g_assign rfl) ?_; clear ha a; intro a ha; refine wpList_nil ?_; replace ha := ha.sub (σ' := [(4, (.bool false))]) ⟨rfl, trivial⟩; refine e_then ?_; refine wp_ret ?_; refine e_then_ret ?_; obtain rfl := Option.some.inj hF
    exact f_ret1 ha rfl rfl ⟨rfl, hE⟩
  replace hF := if_f hp1 hF; refine wp_skip ?_; refine e_then ?_; refine wp_seq ?_; refine wp_seq ?_; refine wp_region_lit ?_; refine op_g ha rfl (g_assign rfl) ?_; clear ha a; intro a ha; refine wpList_nil ?_; replace ha := ha.sub (σ' := [(0, va0), (1, va1), (5, (.int .i64 0))]) ⟨rfl, rfl, rfl, trivial⟩; refine e_then ?_; obtain ⟨o77, ho78, hK79⟩ := bnd_some hF
  obtain ⟨n80, hn81⟩ := lp_some ho78; clear ho78
  refine c_loop (fun a w => Fr 26 [] a ∧ Chg [] W w ∧ o77 = .inl ()) (fun n a w => ∃ (i39 : Int), Fr 26 [(0, va0), (1, va1), (5, (.int .i64 i39))] a ∧ Chg [] W w ∧ InI i39 ∧ lpN (fun s => F_laws_eqInt64S_l1 a0 a1 s) n i39 = some o77) n80 ⟨0, ha.sub ⟨rfl, rfl, rfl, trivial⟩, hE, (show InI 0 from by decide), hn81⟩ ?_ ?_
  · rintro m85 a w38 ⟨i39, ha, hE41, hI40, hF⟩
    cases m85 with
    | zero => exact (lpN_zero hF).elim
    | succ m85 =>
      obtain ⟨z84, hF, hN83⟩ := lpN_succ hF
      have hF : F_laws_eqInt64S_l1 a0 a1 i39 = some z84 := hF; unfold F_laws_eqInt64S_l1 at hF
      refine wp_seq ?_; refine wp_seq ?_; refine wp_region_lit ?_; (iterate 2 refine op_g ha rfl (g_move rfl) ?_; clear ha a; intro a ha); refine op_g ha rfl (g_lenR sl22.und ha0 rfl) ?_; clear ha a; intro a ha; refine op_g ha rfl (g_lss rfl rfl) ?_; clear ha a; intro a ha; refine wpList_nil ?_; replace ha := ha.sub (σ' := [(0, va0), (1, va1), (5, (.int .i64 i39)), (14, (.bool (decide (i39 < (a0.length : Int)))))]) ⟨rfl, rfl, rfl, rfl, trivial⟩; refine e_then ?_; refine c_cond (i39 < (a0.length : Int)) ha rfl (decide_eq_true_iff) (fun hp86 => ?_) (fun hp86 => ?_)
      · replace hF := if_t hp86 hF
        refine wp_skip ?_; refine e_then ?_; refine wp_seq ?_; refine wp_block ?_; refine wp_seq ?_; refine d_quiet hmix (by kernel_rfl) ?_; (iterate 2 refine q_g ha rfl (g_move rfl) ?_; clear ha a; intro a ha); obtain ⟨x87, g88, gx89, hF⟩ := idx_some hF
        obtain ⟨p90, cs91, f92, hf93, hpb94, hat95, hr96, hi97⟩ := ha0.at g88 gx89
        obtain ⟨rfl, hI98, rfl⟩ := hr96
        refine q_g ha rfl (hi97.gives sl22 rfl rfl) ?_; clear ha a; intro a ha; refine q_g ha rfl (g_load0 hE41 Try.isAgg2 rfl hat95.one) ?_; clear ha a; intro a ha; (iterate 2 refine q_g ha rfl (g_move rfl) ?_; clear ha a; intro a ha); obtain ⟨x99, g100, gx101, hF⟩ := idx_some hF
        obtain ⟨p102, cs103, f104, hf105, hpb106, hat107, hr108, hi109⟩ := ha1.at g100 gx101
        obtain ⟨rfl, hI110, rfl⟩ := hr108
        refine q_g ha rfl (hi109.gives sl22 rfl rfl) ?_; clear ha a; intro a ha; refine q_g ha rfl (g_load0 hE41 Try.isAgg2 rfl hat107.one) ?_; clear ha a; intro a ha; refine q_g ha rfl (g_neq rfl rfl) ?_; clear ha a; intro a ha
        refine q_nil ?_; intro w111 hx112
        have hE113 := Ext.trans hE41 hx112
        replace ha := ha.sub (σ' := [(0, va0), (1, va1), (5, (.int .i64 i39)), (25, (.bool (decide (x87 ≠ x99))))]) ⟨rfl, rfl, rfl, rfl, trivial⟩; refine e_then ?_; refine c_cond (x87 ≠ x99) ha rfl (decide_eq_true_iff) (fun hp114 => ?_) (fun hp114 => ?_)
        · replace hF := if_t hp114 hF
          refine wp_seq ?_; refine wp_region_lit ?_; refine op_g ha rfl (g_assign rfl) ?_; clear ha a; intro a ha; refine wpList_nil ?_; replace ha := ha.sub (σ' := [(4, (.bool false))]) ⟨rfl, trivial⟩; refine e_then ?_; refine wp_ret ?_; refine e_blk_ret ?_; refine e_then_ret ?_; refine e_lq_ret ?_; refine e_then_ret ?_; obtain rfl := Option.some.inj hF
          have e115 := LK_inr hN83; subst e115
          have e116 := BK_inr hK79; subst e116
          exact f_ret1 ha rfl rfl ⟨rfl, hE113⟩
        replace hF := if_f hp114 hF; refine wp_skip ?_; refine e_blk ?_; refine e_then ?_; refine wp_region_lit ?_; refine op_g ha rfl (g_move rfl) ?_; clear ha a; intro a ha; obtain ⟨hI117, hF⟩ := ck_some hF; refine op_g ha rfl (g_add rfl rfl hI117) ?_; clear ha a; intro a ha; refine op_g ha rfl (g_assign rfl) ?_; clear ha a; intro a ha; refine wpList_nil ?_; replace ha := ha.sub (σ' := [(0, va0), (1, va1), (5, (.int .i64 (i39 + 1)))]) ⟨rfl, rfl, rfl, trivial⟩; refine e_lq ?_; obtain rfl := Option.some.inj hF
        exact ⟨_, Nat.lt_succ_self _, i39 + 1, ha.sub ⟨rfl, rfl, rfl, trivial⟩, hE113, hI117, hN83⟩
      replace hF := if_f hp86 hF; refine wp_exit ?_; refine e_then_exit ?_; refine e_lq_eq ?_; obtain rfl := Option.some.inj hF
      exact ⟨ha.sub trivial, hE41, (LK_inr hN83).symm⟩
  rintro a w76 ⟨ha, hE82, rfl⟩
  have hF : F_laws_eqInt64S_k2 = some _ := hK79; clear hK79; unfold F_laws_eqInt64S_k2 at hF
  refine e_then ?_; refine wp_seq ?_; refine wp_region_lit ?_; refine op_g ha rfl (g_assign rfl) ?_; clear ha a; intro a ha; refine wpList_nil ?_; refine e_then ?_; refine wp_ret ?_; obtain rfl := Option.some.inj hF
  exact f_ret1 ha rfl rfl ⟨rfl, hE82⟩
set_option maxHeartbeats 2000000 in
theorem W_laws_markInt64S {W : World} {va0 : Value} {ba0 : Int} {a0 : (List Int)} (ha0 : Ow Rp.int 2 true W [] ba0 va0 a0) {a1 : Int} (ha1 : InI a1) {r : (Int × (List Int))} (hF : F_laws_markInt64S a0 a1 = some r) :
    Calls Try.prog 11 [va0, .int .i64 a1].toArray W (Ret fun u w' => (u = .int .i64 r.1 ∧ InI r.1) ∧ Ow Rp.int 2 true w' [] ba0 va0 r.2 ∧ Chg (bl ba0) W w') := by
  refine f_enter Try.func11 rfl Try.ntmps11 rfl ?_
  intro a ha
  replace ha : Fr 19 [(0, va0), (1, (.int .i64 a1))] a := ha
  have hE : Chg (bl ba0) W W := Chg.refl _ _
  unfold F_laws_markInt64S at hF
  refine wp_seq ?_; refine wp_region_lit ?_; refine op_g ha rfl (g_assign rfl) ?_; clear ha a; intro a ha; refine wpList_nil ?_; replace ha := ha.sub (σ' := [(0, va0), (1, (.int .i64 a1))]) ⟨rfl, rfl, trivial⟩; refine e_then ?_; refine wp_seq ?_; refine wp_seq ?_; refine wp_region_lit ?_; refine op_g ha rfl (g_assign rfl) ?_; clear ha a; intro a ha; refine wpList_nil ?_; refine e_then ?_; obtain ⟨o85, ho86, hK87⟩ := bnd_some hF
  obtain ⟨n88, hn89⟩ := lp_some ho86; clear ho86
  refine c_loop (fun a w => ∃ (i79 : Int) (l82 : (List Int)), Fr 19 [(1, (.int .i64 i79))] a ∧ Chg (bl ba0) W w ∧ InI i79 ∧ Ow Rp.int 2 true w [] ba0 va0 l82 ∧ o85 = .inl (i79, l82)) (fun n a w => ∃ (l38 : (List Int)) (i41 : Int) (i43 : Int), Fr 19 [(0, va0), (1, (.int .i64 i41)), (5, (.int .i64 i43))] a ∧ Chg (bl ba0) W w ∧ InI i41 ∧ InI i43 ∧ Ow Rp.int 2 true w [] ba0 va0 l38 ∧ lpN (fun s => F_laws_markInt64S_l1 s.1 s.2.1 s.2.2) n (l38, i41, i43) = some o85) n88 ⟨a0, a1, 0, ha.sub ⟨rfl, rfl, rfl, trivial⟩, hE, ha1, (show InI 0 from by decide), ha0, hn89⟩ ?_ ?_
  · rintro m93 a w36 ⟨l38, i41, i43, ha, hE45, hI42, hI44, h37, hF⟩
    cases m93 with
    | zero => exact (lpN_zero hF).elim
    | succ m93 =>
      obtain ⟨z92, hF, hN91⟩ := lpN_succ hF
      have hF : F_laws_markInt64S_l1 l38 i41 i43 = some z92 := hF; unfold F_laws_markInt64S_l1 at hF
      refine wp_seq ?_; refine wp_seq ?_; refine wp_region_lit ?_; (iterate 2 refine op_g ha rfl (g_move rfl) ?_; clear ha a; intro a ha); refine op_g ha rfl (g_lenO sl22.und h37 rfl) ?_; clear ha a; intro a ha; refine op_g ha rfl (g_lss rfl rfl) ?_; clear ha a; intro a ha; refine wpList_nil ?_; replace ha := ha.sub (σ' := [(0, va0), (1, (.int .i64 i41)), (5, (.int .i64 i43)), (9, (.bool (decide (i43 < (l38.length : Int)))))]) ⟨rfl, rfl, rfl, rfl, trivial⟩; refine e_then ?_; refine c_cond (i43 < (l38.length : Int)) ha rfl (decide_eq_true_iff) (fun hp94 => ?_) (fun hp94 => ?_)
      · replace hF := if_t hp94 hF
        refine wp_skip ?_; refine e_then ?_; refine wp_seq ?_; refine wp_block ?_; refine wp_seq ?_; refine wp_region_lit ?_; (iterate 3 refine op_g ha rfl (g_move rfl) ?_; clear ha a; intro a ha); obtain ⟨x95, g96, gx97, hF⟩ := idx_some hF
        obtain ⟨p98, cs99, f100, hf101, hpb102, hat103, hr104, hi105⟩ := h37.at g96 gx97
        obtain ⟨rfl, hI106, rfl⟩ := hr104
        refine op_g ha rfl (hi105.gives sl22 rfl rfl) ?_; clear ha a; intro a ha
        refine o_storeE (f := []) (q := i41) ha Try.sizeOf2 rfl rfl rfl h37 hi105 ⟨rfl, hI42, rfl⟩ (Nq.nil _) ?_; intro w107 fs108 h109 hc110 hs111
        obtain rfl := Subst.nil hs111
        have hE112 := Chg.same hE45 hc110
        refine wpList_nil ?_; replace ha := ha.sub (σ' := [(0, va0), (1, (.int .i64 i41)), (5, (.int .i64 i43))]) ⟨rfl, rfl, rfl, trivial⟩; refine e_then ?_; refine wp_region_lit ?_; refine op_g ha rfl (g_move rfl) ?_; clear ha a; intro a ha; obtain ⟨hI113, hF⟩ := ck_some hF; refine op_g ha rfl (g_add rfl rfl hI113) ?_; clear ha a; intro a ha; refine op_g ha rfl (g_assign rfl) ?_; clear ha a; intro a ha; refine wpList_nil ?_; replace ha := ha.sub (σ' := [(0, va0), (1, (.int .i64 (i41 + 1))), (5, (.int .i64 i43))]) ⟨rfl, rfl, rfl, trivial⟩; refine e_blk ?_; refine e_then ?_; refine wp_region_lit ?_
        refine op_g ha rfl (g_move rfl) ?_; clear ha a; intro a ha; obtain ⟨hI115, hF⟩ := ck_some hF; refine op_g ha rfl (g_add rfl rfl hI115) ?_; clear ha a; intro a ha; refine op_g ha rfl (g_assign rfl) ?_; clear ha a; intro a ha; refine wpList_nil ?_; replace ha := ha.sub (σ' := [(0, va0), (1, (.int .i64 (i41 + 1))), (5, (.int .i64 (i43 + 1)))]) ⟨rfl, rfl, rfl, trivial⟩; refine e_lq ?_; obtain rfl := Option.some.inj hF
        exact ⟨_, Nat.lt_succ_self _, (l38.set ((i43 : Int).toNat) i41), i41 + 1, i43 + 1, ha.sub ⟨rfl, rfl, rfl, trivial⟩, hE112, hI113, hI115, h109, hN91⟩
      replace hF := if_f hp94 hF; refine wp_exit ?_; refine e_then_exit ?_; refine e_lq_eq ?_; obtain rfl := Option.some.inj hF
      exact ⟨i41, l38, ha.sub ⟨rfl, trivial⟩, hE45, hI42, h37, (LK_inr hN91).symm⟩
  rintro a w78 ⟨i79, l82, ha, hE90, hI80, h81, rfl⟩
  have hF : F_laws_markInt64S_k2 i79 l82 = some _ := hK87; clear hK87; unfold F_laws_markInt64S_k2 at hF
  refine e_then ?_; refine wp_seq ?_; refine wp_region_lit ?_; refine op_g ha rfl (g_move rfl) ?_; clear ha a; intro a ha; refine op_g ha rfl (g_assign rfl) ?_; clear ha a; intro a ha; refine wpList_nil ?_; replace ha := ha.sub (σ' := [(4, (.int .i64 i79))]) ⟨rfl, trivial⟩; refine e_then ?_; refine wp_ret ?_; obtain rfl := Option.some.inj hF
  exact f_ret1 ha rfl rfl ⟨⟨rfl, hI80⟩, h81, hE90⟩
set_option maxHeartbeats 2000000 in
theorem W_laws_heldInt64S {W : World} {va0 : Value} {fa0 : List Nat} {a0 : (List Int)} (ha0 : Ro Rp.int W fa0 va0 a0) {a1 : Int} (ha1 : InI a1) {r : Int} (hF : F_laws_heldInt64S a0 a1 = some r) :
    Calls Try.prog 12 [va0, .int .i64 a1].toArray W (Ret fun u w' => (u = .int .i64 r ∧ InI r) ∧ Ext W w') := by
  refine f_enter Try.func12 rfl Try.ntmps12 rfl ?_
  intro a ha
  replace ha : Fr 21 [(0, va0), (1, (.int .i64 a1))] a := ha
  have hE : Chg [] W W := Chg.refl _ _
  unfold F_laws_heldInt64S at hF
  refine wp_seq ?_; refine wp_region_lit ?_; refine op_g ha rfl (g_assign rfl) ?_; clear ha a; intro a ha; refine wpList_nil ?_; replace ha := ha.sub (σ' := [(0, va0), (1, (.int .i64 a1))]) ⟨rfl, rfl, trivial⟩; refine e_then ?_; refine wp_seq ?_; refine wp_seq ?_; refine wp_region_lit ?_; refine op_g ha rfl (g_assign rfl) ?_; clear ha a; intro a ha; refine wpList_nil ?_; refine e_then ?_; obtain ⟨o58, ho59, hK60⟩ := bnd_some hF
  obtain ⟨n61, hn62⟩ := lp_some ho59; clear ho59
  refine c_loop (fun a w => ∃ (i56 : Int), Fr 21 [(1, (.int .i64 i56))] a ∧ Chg [] W w ∧ InI i56 ∧ o58 = .inl i56) (fun n a w => ∃ (i27 : Int) (i29 : Int), Fr 21 [(0, va0), (1, (.int .i64 i27)), (5, (.int .i64 i29))] a ∧ Chg [] W w ∧ InI i27 ∧ InI i29 ∧ lpN (fun s => F_laws_heldInt64S_l1 a0 s.1 s.2) n (i27, i29) = some o58) n61 ⟨a1, 0, ha.sub ⟨rfl, rfl, rfl, trivial⟩, hE, ha1, (show InI 0 from by decide), hn62⟩ ?_ ?_
  · rintro m66 a w26 ⟨i27, i29, ha, hE31, hI28, hI30, hF⟩
    cases m66 with
    | zero => exact (lpN_zero hF).elim
    | succ m66 =>
      obtain ⟨z65, hF, hN64⟩ := lpN_succ hF
      have hF : F_laws_heldInt64S_l1 a0 i27 i29 = some z65 := hF; unfold F_laws_heldInt64S_l1 at hF
      refine wp_seq ?_; refine wp_seq ?_; refine wp_region_lit ?_; (iterate 2 refine op_g ha rfl (g_move rfl) ?_; clear ha a; intro a ha); refine op_g ha rfl (g_lenR sl22.und ha0 rfl) ?_; clear ha a; intro a ha; refine op_g ha rfl (g_lss rfl rfl) ?_; clear ha a; intro a ha; refine wpList_nil ?_; replace ha := ha.sub (σ' := [(0, va0), (1, (.int .i64 i27)), (5, (.int .i64 i29)), (9, (.bool (decide (i29 < (a0.length : Int)))))]) ⟨rfl, rfl, rfl, rfl, trivial⟩; refine e_then ?_; refine c_cond (i29 < (a0.length : Int)) ha rfl (decide_eq_true_iff) (fun hp67 => ?_) (fun hp67 => ?_)
      · replace hF := if_t hp67 hF
        refine wp_skip ?_; refine e_then ?_; refine wp_seq ?_; refine wp_block ?_; refine wp_seq ?_; refine wp_seq ?_; refine wp_region_lit ?_; (iterate 2 refine op_g ha rfl (g_move rfl) ?_; clear ha a; intro a ha); obtain ⟨x68, g69, gx70, hF⟩ := idx_some hF
        obtain ⟨p71, cs72, f73, hf74, hpb75, hat76, hr77, hi78⟩ := ha0.at g69 gx70
        obtain ⟨rfl, hI79, rfl⟩ := hr77
        refine op_g ha rfl (hi78.gives sl22 rfl rfl) ?_; clear ha a; intro a ha; refine op_g ha rfl (g_load0 hE31 Try.isAgg2 rfl hat76.one) ?_; clear ha a; intro a ha; refine op_g ha rfl (g_move rfl) ?_; clear ha a; intro a ha; refine op_g ha rfl (g_neq rfl rfl) ?_; clear ha a; intro a ha; refine wpList_nil ?_; replace ha := ha.sub (σ' := [(0, va0), (1, (.int .i64 i27)), (5, (.int .i64 i29)), (17, (.bool (decide (x68 ≠ i27))))]) ⟨rfl, rfl, rfl, rfl, trivial⟩; refine e_then ?_; refine c_cond (x68 ≠ i27) ha rfl (decide_eq_true_iff) (fun hp80 => ?_) (fun hp80 => ?_)
        · replace hF := if_t hp80 hF
          refine wp_seq ?_; refine wp_region_lit ?_; refine op_g ha rfl (g_assign rfl) ?_; clear ha a; intro a ha; refine wpList_nil ?_; replace ha := ha.sub (σ' := [(4, (.int .i64 (-1)))]) ⟨rfl, trivial⟩; refine e_then ?_; refine wp_ret ?_; refine e_then_ret ?_; refine e_blk_ret ?_; refine e_then_ret ?_; refine e_lq_ret ?_; refine e_then_ret ?_; obtain rfl := Option.some.inj hF
          have e81 := LK_inr hN64; subst e81
          have e82 := BK_inr hK60; subst e82
          exact f_ret1 ha rfl rfl ⟨⟨rfl, (show InI (-1) from by decide)⟩, hE31⟩
        replace hF := if_f hp80 hF; refine wp_skip ?_; refine e_then ?_; refine wp_region_lit ?_; refine op_g ha rfl (g_move rfl) ?_; clear ha a; intro a ha; obtain ⟨hI83, hF⟩ := ck_some hF; refine op_g ha rfl (g_add rfl rfl hI83) ?_; clear ha a; intro a ha; refine op_g ha rfl (g_assign rfl) ?_; clear ha a; intro a ha; refine wpList_nil ?_; replace ha := ha.sub (σ' := [(0, va0), (1, (.int .i64 (i27 + 1))), (5, (.int .i64 i29))]) ⟨rfl, rfl, rfl, trivial⟩; refine e_blk ?_; refine e_then ?_; refine wp_region_lit ?_; refine op_g ha rfl (g_move rfl) ?_; clear ha a; intro a ha; obtain ⟨hI85, hF⟩ := ck_some hF
        refine op_g ha rfl (g_add rfl rfl hI85) ?_; clear ha a; intro a ha; refine op_g ha rfl (g_assign rfl) ?_; clear ha a; intro a ha; refine wpList_nil ?_; replace ha := ha.sub (σ' := [(0, va0), (1, (.int .i64 (i27 + 1))), (5, (.int .i64 (i29 + 1)))]) ⟨rfl, rfl, rfl, trivial⟩; refine e_lq ?_; obtain rfl := Option.some.inj hF
        exact ⟨_, Nat.lt_succ_self _, i27 + 1, i29 + 1, ha.sub ⟨rfl, rfl, rfl, trivial⟩, hE31, hI83, hI85, hN64⟩
      replace hF := if_f hp67 hF; refine wp_exit ?_; refine e_then_exit ?_; refine e_lq_eq ?_; obtain rfl := Option.some.inj hF
      exact ⟨i27, ha.sub ⟨rfl, trivial⟩, hE31, hI28, (LK_inr hN64).symm⟩
  rintro a w55 ⟨i56, ha, hE63, hI57, rfl⟩
  have hF : F_laws_heldInt64S_k2 i56 = some _ := hK60; clear hK60; unfold F_laws_heldInt64S_k2 at hF
  refine e_then ?_; refine wp_seq ?_; refine wp_region_lit ?_; refine op_g ha rfl (g_move rfl) ?_; clear ha a; intro a ha; refine op_g ha rfl (g_assign rfl) ?_; clear ha a; intro a ha; refine wpList_nil ?_; replace ha := ha.sub (σ' := [(4, (.int .i64 i56))]) ⟨rfl, trivial⟩; refine e_then ?_; refine wp_ret ?_; obtain rfl := Option.some.inj hF
  exact f_ret1 ha rfl rfl ⟨⟨rfl, hI57⟩, hE63⟩
set_option maxHeartbeats 2000000 in
theorem W_laws_FnExactTurnedLines {W : World} {va0 : Value} {fa0 : List Nat} {a0 : (List Int)} (ha0 : Ro Rp.int W fa0 va0 a0) {va1 : Value} {fa1 : List Nat} {a1 : (List Int)} (ha1 : Ro Rp.int W fa1 va1 a1) {r : Bool} (hF : F_laws_FnExactTurnedLines a0 a1 = some r) :
    Calls Try.prog 4 [va0, va1].toArray W (Ret fun u w' => u = .bool r ∧ Ext W w') := by
  refine f_enter Try.func4 rfl Try.ntmps4 rfl ?_
  intro a ha
  replace ha : Fr 151 [(0, va0), (1, va1)] a := ha
  have hE : Chg [] W W := Chg.refl _ _
  unfold F_laws_FnExactTurnedLines at hF
  refine wp_seq ?_; refine wp_region_lit ?_; refine op_g ha rfl (g_assign rfl) ?_; clear ha a; intro a ha; refine wpList_nil ?_; replace ha := ha.sub (σ' := [(0, va0), (1, va1)]) ⟨rfl, rfl, trivial⟩; refine e_then ?_; refine wp_seq ?_; refine wp_seq ?_; refine wp_region_lit ?_; refine op_g ha rfl (g_move rfl) ?_; clear ha a; intro a ha; refine op_g ha rfl (g_lenR sl22.und ha0 rfl) ?_; clear ha a; intro a ha; refine op_g ha rfl (g_gtr rfl rfl) ?_; clear ha a; intro a ha; refine wpList_nil ?_; replace ha := ha.sub (σ' := [(0, va0), (1, va1), (21, (.bool (decide (1048576 < (a0.length : Int)))))]) ⟨rfl, rfl, rfl, trivial⟩
  refine e_then ?_; refine c_cond (1048576 < (a0.length : Int)) ha rfl (decide_eq_true_iff) (fun hp1 => ?_) (fun hp1 => ?_)
  · replace hF := if_t hp1 hF
    refine wp_seq ?_; refine wp_region_lit ?_; refine op_g ha rfl (g_assign rfl) ?_; clear ha a; intro a ha; refine wpList_nil ?_; replace ha := ha.sub (σ' := [(4, (.bool true))]) ⟨rfl, trivial⟩; refine e_then ?_; refine wp_ret ?_; refine e_then_ret ?_; obtain rfl := Option.some.inj hF
    exact f_ret1 ha rfl rfl ⟨rfl, hE⟩
  replace hF := if_f hp1 hF; refine wp_skip ?_; refine e_then ?_; refine wp_seq ?_; refine wp_seq ?_; refine wp_region_lit ?_; refine op_g ha rfl (g_move rfl) ?_; clear ha a; intro a ha; refine op_g ha rfl (g_lenR sl22.und ha1 rfl) ?_; clear ha a; intro a ha; refine op_g ha rfl (g_gtr rfl rfl) ?_; clear ha a; intro a ha; refine wpList_nil ?_; replace ha := ha.sub (σ' := [(0, va0), (1, va1), (24, (.bool (decide (1048576 < (a1.length : Int)))))]) ⟨rfl, rfl, rfl, trivial⟩; refine e_then ?_; refine c_cond (1048576 < (a1.length : Int)) ha rfl (decide_eq_true_iff) (fun hp2 => ?_) (fun hp2 => ?_)
  · replace hF := if_t hp2 hF
    refine wp_seq ?_; refine wp_region_lit ?_; refine op_g ha rfl (g_assign rfl) ?_; clear ha a; intro a ha; refine wpList_nil ?_; replace ha := ha.sub (σ' := [(4, (.bool true))]) ⟨rfl, trivial⟩; refine e_then ?_; refine wp_ret ?_; refine e_then_ret ?_; obtain rfl := Option.some.inj hF
    exact f_ret1 ha rfl rfl ⟨rfl, hE⟩
  replace hF := if_f hp2 hF; refine wp_skip ?_; refine e_then ?_; refine wp_seq ?_; refine wp_region_lit ?_; refine op_g ha rfl (g_move rfl) ?_; clear ha a; intro a ha; obtain ⟨x3, hc4, hF⟩ := cal_some hF
  refine o_call ha rfl rfl Try.call6 (W_laws_toInt64S (ha0.ext hE) hc4) ?_; clear ha a; rintro v5 w6 ⟨b8, h9, z10, hx7⟩ a ha
  have hE12 := Ext.trans hE hx7
  have q13 := Zn.upD z10 hE
  refine op_g ha rfl (g_move rfl) ?_; clear ha a; intro a ha; obtain ⟨x14, hc15, hF⟩ := cal_some hF
  refine o_call ha rfl rfl Try.call6 (W_laws_toInt64S (ha1.ext hE12) hc15) ?_; clear ha a; rintro v16 w17 ⟨b19, h20, z21, hx18⟩ a ha
  have q23 := Nq.new h9.fpb z21
  have q24 := Nq.madeO z21 h9.blt
  replace h9 := h9.ext hx18
  have hE25 := Ext.trans hE12 hx18
  have q26 := Zn.upD z21 hE12
  obtain ⟨fp27, hro28, hs29⟩ := h9.roF
  obtain ⟨fp30, hro31, hs32⟩ := h20.roF
  obtain ⟨x33, hc34, hF⟩ := cal_some hF
  refine o_call ha rfl rfl Try.call9 (W_spec_TurnedLines hro28 hro31 hc34) ?_; clear ha a; rintro v35 w36 ⟨u38, u39, u40, b41, b45, rfl, h42, z43, h46, z47, rfl, q49, q50, hx37⟩ a ha
  have q51 := Nq.new h9.fpb z43
  have q52 := Nq.madeO z43 h9.blt
  have q53 := Nq.new h20.fpb z43
  have q54 := Nq.madeO z43 h20.blt
  have q55 := Nq.new h9.fpb z47
  have q56 := Nq.madeO z47 h9.blt
  have q57 := Nq.new h20.fpb z47
  have q58 := Nq.madeO z47 h20.blt
  replace h9 := h9.ext hx37
  replace h20 := h20.ext hx37
  have hE59 := Ext.trans hE25 hx37
  have q60 := Zn.upD z43 hE25
  have q61 := Zn.upD z47 hE25
  refine op_g ha rfl (g_move rfl) ?_; clear ha a; intro a ha; (iterate 3 refine op_g ha rfl (g_extract rfl rfl) ?_; clear ha a; intro a ha); (iterate 3 refine op_g ha rfl (g_assign rfl) ?_; clear ha a; intro a ha); refine wpList_nil ?_; replace ha := ha.sub (σ' := [(0, va0), (1, va1), (5, u38), (6, u39), (7, (.bool x33.2.2))]) ⟨rfl, rfl, rfl, rfl, rfl, trivial⟩; refine e_then ?_; refine wp_seq ?_; refine wp_region_lit ?_; refine op_g ha rfl (g_move rfl) ?_; clear ha a; intro a ha; obtain ⟨x62, hc63, hF⟩ := cal_some hF
  refine o_call ha rfl rfl Try.call6 (W_laws_toInt64S (ha0.ext hE59) hc63) ?_; clear ha a; rintro v64 w65 ⟨b67, h68, z69, hx66⟩ a ha
  have q71 := Nq.new h42.fpb z69
  have q72 := Nq.madeO z69 h42.blt
  have q73 := Nq.new h46.fpb z69
  have q74 := Nq.madeO z69 h46.blt
  replace h42 := h42.ext hx66
  replace h46 := h46.ext hx66
  have hE75 := Ext.trans hE59 hx66
  have q76 := Zn.upD z69 hE59
  refine op_g ha rfl (g_assign rfl) ?_; clear ha a; intro a ha; refine wpList_nil ?_; replace ha := ha.sub (σ' := [(0, va0), (1, va1), (5, u38), (6, u39), (7, (.bool x33.2.2)), (8, v64)]) ⟨rfl, rfl, rfl, rfl, rfl, rfl, trivial⟩; refine e_then ?_; refine wp_seq ?_; refine wp_region_lit ?_; refine op_g ha rfl (g_move rfl) ?_; clear ha a; intro a ha; obtain ⟨x77, hc78, hF⟩ := cal_some hF
  refine o_call ha rfl rfl Try.call6 (W_laws_toInt64S (ha1.ext hE75) hc78) ?_; clear ha a; rintro v79 w80 ⟨b82, h83, z84, hx81⟩ a ha
  have q86 := Nq.new h42.fpb z84
  have q87 := Nq.madeO z84 h42.blt
  have q88 := Nq.new h46.fpb z84
  have q89 := Nq.madeO z84 h46.blt
  have q90 := Nq.new h68.fpb z84
  have q91 := Nq.madeO z84 h68.blt
  replace h42 := h42.ext hx81
  replace h46 := h46.ext hx81
  replace h68 := h68.ext hx81
  have hE92 := Ext.trans hE75 hx81
  have q93 := Zn.upD z84 hE75
  refine op_g ha rfl (g_assign rfl) ?_; clear ha a; intro a ha; refine wpList_nil ?_; replace ha := ha.sub (σ' := [(0, va0), (1, va1), (5, u38), (6, u39), (7, (.bool x33.2.2)), (8, v64), (9, v79)]) ⟨rfl, rfl, rfl, rfl, rfl, rfl, rfl, trivial⟩; refine e_then ?_; refine wp_seq ?_; refine wp_region_lit ?_; (iterate 2 refine op_g ha rfl (g_move rfl) ?_; clear ha a; intro a ha)
  obtain ⟨fp94, hro95, hs96⟩ := h68.roF
  obtain ⟨fp97, hro98, hs99⟩ := h83.roF
  obtain ⟨x100, hc101, hF⟩ := cal_some hF
  refine o_call ha rfl rfl Try.call10 (W_impl_TurnedLines hro95 hro98 hc101) ?_; clear ha a; rintro v102 w103 ⟨u105, u106, u107, b108, b112, rfl, h109, z110, h113, z114, rfl, q116, q117, hx104⟩ a ha
  have q118 := Nq.new h42.fpb z110
  have q119 := Nq.madeO z110 h42.blt
  have q120 := Nq.new h46.fpb z110
  have q121 := Nq.madeO z110 h46.blt
  have q122 := Nq.new h68.fpb z110
  have q123 := Nq.madeO z110 h68.blt
  have q124 := Nq.new h83.fpb z110
  have q125 := Nq.madeO z110 h83.blt
  have q126 := Nq.new h42.fpb z114
  have q127 := Nq.madeO z114 h42.blt
  have q128 := Nq.new h46.fpb z114
  have q129 := Nq.madeO z114 h46.blt
  have q130 := Nq.new h68.fpb z114
  have q131 := Nq.madeO z114 h68.blt
  have q132 := Nq.new h83.fpb z114
  have q133 := Nq.madeO z114 h83.blt
  replace h42 := h42.ext hx104
  replace h46 := h46.ext hx104
  replace h68 := h68.ext hx104
  replace h83 := h83.ext hx104
  have hE134 := Ext.trans hE92 hx104
  have q135 := Zn.upD z110 hE92
  have q136 := Zn.upD z114 hE92
  refine op_g ha rfl (g_move rfl) ?_; clear ha a; intro a ha; (iterate 3 refine op_g ha rfl (g_extract rfl rfl) ?_; clear ha a; intro a ha); (iterate 3 refine op_g ha rfl (g_assign rfl) ?_; clear ha a; intro a ha); refine wpList_nil ?_; replace ha := ha.sub (σ' := [(0, va0), (1, va1), (5, u38), (6, u39), (7, (.bool x33.2.2)), (8, v64), (9, v79), (10, u105), (11, u106), (12, (.bool x100.2.2))]) ⟨rfl, rfl, rfl, rfl, rfl, rfl, rfl, rfl, rfl, rfl, trivial⟩; refine e_then ?_; refine wp_seq ?_; refine wp_seq ?_; refine wp_region_lit ?_; (iterate 2 refine op_g ha rfl (g_move rfl) ?_; clear ha a; intro a ha)
  obtain ⟨fp164, hro165, hs166⟩ := h109.roF
  obtain ⟨fp167, hro168, hs169⟩ := h42.roF
  obtain ⟨x170, hc171, hF⟩ := cal_some hF
  refine o_call ha rfl rfl Try.call8 (W_laws_eqInt64S hro165 hro168 hc171) ?_; clear ha a; rintro v172 w173 ⟨rfl, hx174⟩ a ha
  replace h42 := h42.ext hx174
  replace h46 := h46.ext hx174
  replace h68 := h68.ext hx174
  replace h83 := h83.ext hx174
  replace h109 := h109.ext hx174
  replace h113 := h113.ext hx174
  have hE175 := Ext.trans hE134 hx174
  refine op_g ha rfl (g_not rfl) ?_; clear ha a; intro a ha; refine op_g ha rfl (g_move rfl) ?_; clear ha a; intro a ha
  by_cases hp176 : ¬ (x170 = true)
  · replace hF := if_t hp176 hF
    rw [show (!x170) = true from (n_iff (Iff.rfl)).2 hp176] at ha
    (iterate 4 refine op_unwant ha rfl (yields ha rfl rfl) rfl ?_; clear ha a; intro a ha); refine op_g ha rfl (g_pick rfl rfl) ?_; clear ha a; intro a ha; refine op_g ha rfl (g_move rfl) ?_; clear ha a; intro a ha; (iterate 3 refine op_unwant ha rfl (yields ha rfl rfl) rfl ?_; clear ha a; intro a ha); refine op_g ha rfl (g_pick rfl rfl) ?_; clear ha a; intro a ha; refine wpList_nil ?_; replace ha := ha.sub (σ' := [(0, va0), (1, va1), (5, u38), (6, u39), (7, (.bool x33.2.2)), (8, v64), (9, v79), (10, u105), (11, u106), (12, (.bool x100.2.2)), (59, (.bool true))]) ⟨rfl, rfl, rfl, rfl, rfl, rfl, rfl, rfl, rfl, rfl, rfl, trivial⟩
    refine e_then ?_; refine c_true ha rfl ?_; refine wp_seq ?_; refine wp_region_lit ?_; refine op_g ha rfl (g_assign rfl) ?_; clear ha a; intro a ha; refine wpList_nil ?_; replace ha := ha.sub (σ' := [(4, (.bool false))]) ⟨rfl, trivial⟩; refine e_then ?_; refine wp_ret ?_; refine e_then_ret ?_; obtain rfl := Option.some.inj hF
    exact f_ret1 ha rfl rfl ⟨rfl, hE175⟩
  replace hF := if_f hp176 hF
  rw [show (!x170) = false from b_false (n_iff (Iff.rfl)) hp176] at ha
  refine op_want (yields ha rfl rfl) ?_; refine op_g ha rfl (g_move rfl) ?_; clear ha a; intro a ha; refine op_want (yields ha rfl rfl) ?_; refine op_g ha rfl (g_move rfl) ?_; clear ha a; intro a ha; refine op_want (yields ha rfl rfl) ?_
  obtain ⟨fp177, hro178, hs179⟩ := h113.roF
  obtain ⟨fp180, hro181, hs182⟩ := h46.roF
  obtain ⟨x183, hc184, hF⟩ := cal_some hF
  refine o_call ha rfl rfl Try.call8 (W_laws_eqInt64S hro178 hro181 hc184) ?_; clear ha a; rintro v185 w186 ⟨rfl, hx187⟩ a ha
  replace h42 := h42.ext hx187
  replace h46 := h46.ext hx187
  replace h68 := h68.ext hx187
  replace h83 := h83.ext hx187
  replace h109 := h109.ext hx187
  replace h113 := h113.ext hx187
  have hE188 := Ext.trans hE175 hx187
  refine op_want (yields ha rfl rfl) ?_; refine op_g ha rfl (g_not rfl) ?_; clear ha a; intro a ha; refine op_g ha rfl (g_pick rfl rfl) ?_; clear ha a; intro a ha; refine op_g ha rfl (g_move rfl) ?_; clear ha a; intro a ha
  by_cases hp189 : ¬ (x183 = true)
  · replace hF := if_t hp189 hF
    rw [show (!x183) = true from (n_iff (Iff.rfl)).2 hp189] at ha
    (iterate 3 refine op_unwant ha rfl (yields ha rfl rfl) rfl ?_; clear ha a; intro a ha); refine op_g ha rfl (g_pick rfl rfl) ?_; clear ha a; intro a ha; refine wpList_nil ?_; replace ha := ha.sub (σ' := [(0, va0), (1, va1), (5, u38), (6, u39), (7, (.bool x33.2.2)), (8, v64), (9, v79), (10, u105), (11, u106), (12, (.bool x100.2.2)), (59, (.bool true))]) ⟨rfl, rfl, rfl, rfl, rfl, rfl, rfl, rfl, rfl, rfl, rfl, trivial⟩; refine e_then ?_; refine c_true ha rfl ?_; refine wp_seq ?_; refine wp_region_lit ?_; refine op_g ha rfl (g_assign rfl) ?_; clear ha a; intro a ha; refine wpList_nil ?_; replace ha := ha.sub (σ' := [(4, (.bool false))]) ⟨rfl, trivial⟩
    refine e_then ?_; refine wp_ret ?_; refine e_then_ret ?_; obtain rfl := Option.some.inj hF
    exact f_ret1 ha rfl rfl ⟨rfl, hE188⟩
  replace hF := if_f hp189 hF
  rw [show (!x183) = false from b_false (n_iff (Iff.rfl)) hp189] at ha
  refine op_want (yields ha rfl rfl) ?_; refine op_g ha rfl (g_move rfl) ?_; clear ha a; intro a ha; refine op_want (yields ha rfl rfl) ?_; refine op_g ha rfl (g_move rfl) ?_; clear ha a; intro a ha; refine op_want (yields ha rfl rfl) ?_; refine op_g ha rfl (gB_neq un4 rfl rfl) ?_; clear ha a; intro a ha; refine op_g ha rfl (g_pick rfl rfl) ?_; clear ha a; intro a ha; refine wpList_nil ?_; replace ha := ha.sub (σ' := [(0, va0), (1, va1), (5, u38), (6, u39), (7, (.bool x33.2.2)), (8, v64), (9, v79), (10, u105), (11, u106), (12, (.bool x100.2.2)), (59, (.bool (x100.2.2 != x33.2.2)))]) ⟨rfl, rfl, rfl, rfl, rfl, rfl, rfl, rfl, rfl, rfl, rfl, trivial⟩
  refine e_then ?_; refine c_cond ((x100.2.2 != x33.2.2) = true) ha rfl (Iff.rfl) (fun hp190 => ?_) (fun hp190 => ?_)
  · replace hF := if_t hp190 hF
    refine wp_seq ?_; refine wp_region_lit ?_; refine op_g ha rfl (g_assign rfl) ?_; clear ha a; intro a ha; refine wpList_nil ?_; replace ha := ha.sub (σ' := [(4, (.bool false))]) ⟨rfl, trivial⟩; refine e_then ?_; refine wp_ret ?_; refine e_then_ret ?_; obtain rfl := Option.some.inj hF
    exact f_ret1 ha rfl rfl ⟨rfl, hE188⟩
  replace hF := if_f hp190 hF; refine wp_skip ?_; refine e_then ?_; refine wp_seq ?_; refine wp_seq ?_; refine wp_region_lit ?_; (iterate 2 refine op_g ha rfl (g_move rfl) ?_; clear ha a; intro a ha); obtain ⟨x191, hc192, hF⟩ := cal_some hF
  refine o_call ha rfl rfl Try.call6 (W_laws_toInt64S (ha0.ext hE188) hc192) ?_; clear ha a; rintro v193 w194 ⟨b196, h197, z198, hx195⟩ a ha
  have q200 := Nq.new h42.fpb z198
  have q201 := Nq.madeO z198 h42.blt
  have q202 := Nq.new h46.fpb z198
  have q203 := Nq.madeO z198 h46.blt
  have q204 := Nq.new h68.fpb z198
  have q205 := Nq.madeO z198 h68.blt
  have q206 := Nq.new h83.fpb z198
  have q207 := Nq.madeO z198 h83.blt
  have q208 := Nq.new h109.fpb z198
  have q209 := Nq.madeO z198 h109.blt
  have q210 := Nq.new h113.fpb z198
  have q211 := Nq.madeO z198 h113.blt
  replace h42 := h42.ext hx195
  replace h46 := h46.ext hx195
  replace h68 := h68.ext hx195
  replace h83 := h83.ext hx195
  replace h109 := h109.ext hx195
  replace h113 := h113.ext hx195
  have hE212 := Ext.trans hE188 hx195
  have q213 := Zn.upD z198 hE188
  obtain ⟨fp214, hro215, hs216⟩ := h68.roF
  obtain ⟨fp217, hro218, hs219⟩ := h197.roF
  obtain ⟨x220, hc221, hF⟩ := cal_some hF
  refine o_call ha rfl rfl Try.call8 (W_laws_eqInt64S hro215 hro218 hc221) ?_; clear ha a; rintro v222 w223 ⟨rfl, hx224⟩ a ha
  replace h42 := h42.ext hx224
  replace h46 := h46.ext hx224
  replace h68 := h68.ext hx224
  replace h83 := h83.ext hx224
  replace h109 := h109.ext hx224
  replace h113 := h113.ext hx224
  replace h197 := h197.ext hx224
  have hE225 := Ext.trans hE212 hx224
  refine op_g ha rfl (g_not rfl) ?_; clear ha a; intro a ha; refine wpList_nil ?_; replace ha := ha.sub (σ' := [(0, va0), (1, va1), (5, u38), (6, u39), (7, (.bool x33.2.2)), (8, v64), (9, v79), (10, u105), (11, u106), (12, (.bool x100.2.2)), (64, (.bool (!x220)))]) ⟨rfl, rfl, rfl, rfl, rfl, rfl, rfl, rfl, rfl, rfl, rfl, trivial⟩; refine e_then ?_; refine c_cond (¬ (x220 = true)) ha rfl (n_iff (Iff.rfl)) (fun hp226 => ?_) (fun hp226 => ?_)
  · replace hF := if_t hp226 hF
    refine wp_seq ?_; refine wp_region_lit ?_; refine op_g ha rfl (g_assign rfl) ?_; clear ha a; intro a ha; refine wpList_nil ?_; replace ha := ha.sub (σ' := [(4, (.bool false))]) ⟨rfl, trivial⟩; refine e_then ?_; refine wp_ret ?_; refine e_then_ret ?_; obtain rfl := Option.some.inj hF
    exact f_ret1 ha rfl rfl ⟨rfl, hE225⟩
  replace hF := if_f hp226 hF; refine wp_skip ?_; refine e_then ?_; refine wp_seq ?_; refine wp_seq ?_; refine wp_region_lit ?_; (iterate 2 refine op_g ha rfl (g_move rfl) ?_; clear ha a; intro a ha); obtain ⟨x227, hc228, hF⟩ := cal_some hF
  refine o_call ha rfl rfl Try.call6 (W_laws_toInt64S (ha1.ext hE225) hc228) ?_; clear ha a; rintro v229 w230 ⟨b232, h233, z234, hx231⟩ a ha
  have q236 := Nq.new h42.fpb z234
  have q237 := Nq.madeO z234 h42.blt
  have q238 := Nq.new h46.fpb z234
  have q239 := Nq.madeO z234 h46.blt
  have q240 := Nq.new h68.fpb z234
  have q241 := Nq.madeO z234 h68.blt
  have q242 := Nq.new h83.fpb z234
  have q243 := Nq.madeO z234 h83.blt
  have q244 := Nq.new h109.fpb z234
  have q245 := Nq.madeO z234 h109.blt
  have q246 := Nq.new h113.fpb z234
  have q247 := Nq.madeO z234 h113.blt
  replace h42 := h42.ext hx231
  replace h46 := h46.ext hx231
  replace h68 := h68.ext hx231
  replace h83 := h83.ext hx231
  replace h109 := h109.ext hx231
  replace h113 := h113.ext hx231
  have hE248 := Ext.trans hE225 hx231
  have q249 := Zn.upD z234 hE225
  obtain ⟨fp250, hro251, hs252⟩ := h83.roF
  obtain ⟨fp253, hro254, hs255⟩ := h233.roF
  obtain ⟨x256, hc257, hF⟩ := cal_some hF
  refine o_call ha rfl rfl Try.call8 (W_laws_eqInt64S hro251 hro254 hc257) ?_; clear ha a; rintro v258 w259 ⟨rfl, hx260⟩ a ha
  replace h42 := h42.ext hx260
  replace h46 := h46.ext hx260
  replace h68 := h68.ext hx260
  replace h83 := h83.ext hx260
  replace h109 := h109.ext hx260
  replace h113 := h113.ext hx260
  replace h233 := h233.ext hx260
  have hE261 := Ext.trans hE248 hx260
  refine op_g ha rfl (g_not rfl) ?_; clear ha a; intro a ha; refine wpList_nil ?_; replace ha := ha.sub (σ' := [(0, va0), (1, va1), (5, u38), (6, u39), (7, (.bool x33.2.2)), (8, v64), (9, v79), (10, u105), (11, u106), (12, (.bool x100.2.2)), (69, (.bool (!x256)))]) ⟨rfl, rfl, rfl, rfl, rfl, rfl, rfl, rfl, rfl, rfl, rfl, trivial⟩; refine e_then ?_; refine c_cond (¬ (x256 = true)) ha rfl (n_iff (Iff.rfl)) (fun hp262 => ?_) (fun hp262 => ?_)
  · replace hF := if_t hp262 hF
    refine wp_seq ?_; refine wp_region_lit ?_; refine op_g ha rfl (g_assign rfl) ?_; clear ha a; intro a ha; refine wpList_nil ?_; replace ha := ha.sub (σ' := [(4, (.bool false))]) ⟨rfl, trivial⟩; refine e_then ?_; refine wp_ret ?_; refine e_then_ret ?_; obtain rfl := Option.some.inj hF
    exact f_ret1 ha rfl rfl ⟨rfl, hE261⟩
  replace hF := if_f hp262 hF; refine wp_skip ?_; refine e_then ?_; refine wp_seq ?_; refine wp_region_lit ?_; refine op_g ha rfl (g_assign rfl) ?_; clear ha a; intro a ha; refine wpList_nil ?_; replace ha := ha.sub (σ' := [(0, va0), (1, va1), (5, u38), (6, u39), (7, (.bool x33.2.2)), (8, v64), (9, v79), (10, u105), (11, u106), (12, (.bool x100.2.2)), (13, (.int .i64 1))]) ⟨rfl, rfl, rfl, rfl, rfl, rfl, rfl, rfl, rfl, rfl, rfl, trivial⟩; refine e_then ?_; refine wp_seq ?_; refine wp_region_lit ?_; (iterate 2 refine op_g ha rfl (g_move rfl) ?_; clear ha a; intro a ha); obtain ⟨x263, hc264, hF⟩ := cal_some hF
  refine o_call ha rfl rfl Try.call11 (W_laws_markInt64S h68 (show InI 1 from by decide) hc264) ?_; clear ha a; rintro v265 w266 ⟨⟨rfl, hI268⟩, h269, hx267⟩ a ha
  replace h42 := h42.nq hx267 q71
  replace h46 := h46.nq hx267 q73
  replace h83 := h83.nq hx267 q91
  replace h109 := h109.nq hx267 q123
  replace h113 := h113.nq hx267 q131
  have hE270 := Ext.then hE261 hx267 (Zn.bl q76)
  refine op_g ha rfl (g_assign rfl) ?_; clear ha a; intro a ha; refine wpList_nil ?_; replace ha := ha.sub (σ' := [(0, va0), (1, va1), (5, u38), (6, u39), (7, (.bool x33.2.2)), (9, v79), (10, u105), (11, u106), (12, (.bool x100.2.2)), (13, (.int .i64 x263.1))]) ⟨rfl, rfl, rfl, rfl, rfl, rfl, rfl, rfl, rfl, rfl, trivial⟩; refine e_then ?_; refine wp_seq ?_; refine wp_region_lit ?_; (iterate 2 refine op_g ha rfl (g_move rfl) ?_; clear ha a; intro a ha); obtain ⟨x271, hc272, hF⟩ := cal_some hF
  refine o_call ha rfl rfl Try.call11 (W_laws_markInt64S h83 hI268 hc272) ?_; clear ha a; rintro v273 w274 ⟨⟨rfl, hI276⟩, h277, hx275⟩ a ha
  replace h42 := h42.nq hx275 q86
  replace h46 := h46.nq hx275 q88
  replace h109 := h109.nq hx275 q125
  replace h113 := h113.nq hx275 q133
  have hE278 := Ext.then hE270 hx275 (Zn.bl q93)
  refine op_g ha rfl (g_assign rfl) ?_; clear ha a; intro a ha; refine wpList_nil ?_; replace ha := ha.sub (σ' := [(0, va0), (1, va1), (5, u38), (6, u39), (7, (.bool x33.2.2)), (10, u105), (11, u106), (12, (.bool x100.2.2)), (13, (.int .i64 x271.1))]) ⟨rfl, rfl, rfl, rfl, rfl, rfl, rfl, rfl, rfl, trivial⟩; refine e_then ?_; refine wp_seq ?_; refine wp_seq ?_; refine wp_region_lit ?_; refine op_g ha rfl (g_move rfl) ?_; clear ha a; intro a ha; refine op_g ha rfl (g_lss rfl rfl) ?_; clear ha a; intro a ha; refine op_g ha rfl (g_move rfl) ?_; clear ha a; intro a ha
  by_cases hp307 : x271.1 < 0
  · replace hF := if_t hp307 hF
    rw [show (decide (x271.1 < 0)) = true from (decide_eq_true_iff).2 hp307] at ha
    (iterate 4 refine op_unwant ha rfl (yields ha rfl rfl) rfl ?_; clear ha a; intro a ha); refine op_g ha rfl (g_pick rfl rfl) ?_; clear ha a; intro a ha; refine op_g ha rfl (g_move rfl) ?_; clear ha a; intro a ha; (iterate 4 refine op_unwant ha rfl (yields ha rfl rfl) rfl ?_; clear ha a; intro a ha); refine op_g ha rfl (g_pick rfl rfl) ?_; clear ha a; intro a ha; refine op_g ha rfl (g_move rfl) ?_; clear ha a; intro a ha; (iterate 3 refine op_unwant ha rfl (yields ha rfl rfl) rfl ?_; clear ha a; intro a ha); refine op_g ha rfl (g_pick rfl rfl) ?_; clear ha a; intro a ha; refine wpList_nil ?_
    replace ha := ha.sub (σ' := [(0, va0), (1, va1), (5, u38), (6, u39), (7, (.bool x33.2.2)), (10, u105), (11, u106), (94, (.bool true))]) ⟨rfl, rfl, rfl, rfl, rfl, rfl, rfl, rfl, trivial⟩; refine e_then ?_; refine c_true ha rfl ?_; refine wp_seq ?_; refine wp_region_lit ?_; refine op_g ha rfl (g_assign rfl) ?_; clear ha a; intro a ha; refine wpList_nil ?_; replace ha := ha.sub (σ' := [(4, (.bool false))]) ⟨rfl, trivial⟩; refine e_then ?_; refine wp_ret ?_; refine e_then_ret ?_; obtain rfl := Option.some.inj hF
    exact f_ret1 ha rfl rfl ⟨rfl, hE278⟩
  replace hF := if_f hp307 hF
  rw [show (decide (x271.1 < 0)) = false from b_false (decide_eq_true_iff) hp307] at ha
  refine op_want (yields ha rfl rfl) ?_; refine op_g ha rfl (g_move rfl) ?_; clear ha a; intro a ha; refine op_want (yields ha rfl rfl) ?_; refine op_g ha rfl (g_move rfl) ?_; clear ha a; intro a ha; refine op_want (yields ha rfl rfl) ?_
  obtain ⟨fp308, hro309, hs310⟩ := h109.roF
  obtain ⟨fp311, hro312, hs313⟩ := h42.roF
  obtain ⟨x314, hc315, hF⟩ := cal_some hF
  refine o_call ha rfl rfl Try.call8 (W_laws_eqInt64S hro309 hro312 hc315) ?_; clear ha a; rintro v316 w317 ⟨rfl, hx318⟩ a ha
  replace h42 := h42.ext hx318
  replace h46 := h46.ext hx318
  replace h109 := h109.ext hx318
  replace h113 := h113.ext hx318
  have hE319 := Ext.trans hE278 hx318
  refine op_want (yields ha rfl rfl) ?_; refine op_g ha rfl (g_not rfl) ?_; clear ha a; intro a ha; refine op_g ha rfl (g_pick rfl rfl) ?_; clear ha a; intro a ha; refine op_g ha rfl (g_move rfl) ?_; clear ha a; intro a ha
  by_cases hp320 : ¬ (x314 = true)
  · replace hF := if_t hp320 hF
    rw [show (!x314) = true from (n_iff (Iff.rfl)).2 hp320] at ha
    (iterate 4 refine op_unwant ha rfl (yields ha rfl rfl) rfl ?_; clear ha a; intro a ha); refine op_g ha rfl (g_pick rfl rfl) ?_; clear ha a; intro a ha; refine op_g ha rfl (g_move rfl) ?_; clear ha a; intro a ha; (iterate 3 refine op_unwant ha rfl (yields ha rfl rfl) rfl ?_; clear ha a; intro a ha); refine op_g ha rfl (g_pick rfl rfl) ?_; clear ha a; intro a ha; refine wpList_nil ?_; replace ha := ha.sub (σ' := [(0, va0), (1, va1), (5, u38), (6, u39), (7, (.bool x33.2.2)), (10, u105), (11, u106), (94, (.bool true))]) ⟨rfl, rfl, rfl, rfl, rfl, rfl, rfl, rfl, trivial⟩; refine e_then ?_; refine c_true ha rfl ?_
    refine wp_seq ?_; refine wp_region_lit ?_; refine op_g ha rfl (g_assign rfl) ?_; clear ha a; intro a ha; refine wpList_nil ?_; replace ha := ha.sub (σ' := [(4, (.bool false))]) ⟨rfl, trivial⟩; refine e_then ?_; refine wp_ret ?_; refine e_then_ret ?_; obtain rfl := Option.some.inj hF
    exact f_ret1 ha rfl rfl ⟨rfl, hE319⟩
  replace hF := if_f hp320 hF
  rw [show (!x314) = false from b_false (n_iff (Iff.rfl)) hp320] at ha
  refine op_want (yields ha rfl rfl) ?_; refine op_g ha rfl (g_move rfl) ?_; clear ha a; intro a ha; refine op_want (yields ha rfl rfl) ?_; refine op_g ha rfl (g_move rfl) ?_; clear ha a; intro a ha; refine op_want (yields ha rfl rfl) ?_
  obtain ⟨fp321, hro322, hs323⟩ := h113.roF
  obtain ⟨fp324, hro325, hs326⟩ := h46.roF
  obtain ⟨x327, hc328, hF⟩ := cal_some hF
  refine o_call ha rfl rfl Try.call8 (W_laws_eqInt64S hro322 hro325 hc328) ?_; clear ha a; rintro v329 w330 ⟨rfl, hx331⟩ a ha
  replace h42 := h42.ext hx331
  replace h46 := h46.ext hx331
  replace h109 := h109.ext hx331
  replace h113 := h113.ext hx331
  have hE332 := Ext.trans hE319 hx331
  refine op_want (yields ha rfl rfl) ?_; refine op_g ha rfl (g_not rfl) ?_; clear ha a; intro a ha; refine op_g ha rfl (g_pick rfl rfl) ?_; clear ha a; intro a ha; refine op_g ha rfl (g_move rfl) ?_; clear ha a; intro a ha
  by_cases hp333 : ¬ (x327 = true)
  · replace hF := if_t hp333 hF
    rw [show (!x327) = true from (n_iff (Iff.rfl)).2 hp333] at ha
    (iterate 3 refine op_unwant ha rfl (yields ha rfl rfl) rfl ?_; clear ha a; intro a ha); refine op_g ha rfl (g_pick rfl rfl) ?_; clear ha a; intro a ha; refine wpList_nil ?_; replace ha := ha.sub (σ' := [(0, va0), (1, va1), (5, u38), (6, u39), (7, (.bool x33.2.2)), (10, u105), (11, u106), (94, (.bool true))]) ⟨rfl, rfl, rfl, rfl, rfl, rfl, rfl, rfl, trivial⟩; refine e_then ?_; refine c_true ha rfl ?_; refine wp_seq ?_; refine wp_region_lit ?_; refine op_g ha rfl (g_assign rfl) ?_; clear ha a; intro a ha; refine wpList_nil ?_; replace ha := ha.sub (σ' := [(4, (.bool false))]) ⟨rfl, trivial⟩; refine e_then ?_
    refine wp_ret ?_; refine e_then_ret ?_; obtain rfl := Option.some.inj hF
    exact f_ret1 ha rfl rfl ⟨rfl, hE332⟩
  replace hF := if_f hp333 hF
  rw [show (!x327) = false from b_false (n_iff (Iff.rfl)) hp333] at ha
  refine op_want (yields ha rfl rfl) ?_; refine op_g ha rfl (g_move rfl) ?_; clear ha a; intro a ha; refine op_want (yields ha rfl rfl) ?_; refine op_g ha rfl (g_move rfl) ?_; clear ha a; intro a ha; refine op_want (yields ha rfl rfl) ?_; refine op_g ha rfl (gB_neq un4 rfl rfl) ?_; clear ha a; intro a ha; refine op_g ha rfl (g_pick rfl rfl) ?_; clear ha a; intro a ha; refine wpList_nil ?_; replace ha := ha.sub (σ' := [(0, va0), (1, va1), (5, u38), (6, u39), (7, (.bool x33.2.2)), (10, u105), (11, u106), (94, (.bool (x100.2.2 != x33.2.2)))]) ⟨rfl, rfl, rfl, rfl, rfl, rfl, rfl, rfl, trivial⟩; refine e_then ?_
  refine c_cond ((x100.2.2 != x33.2.2) = true) ha rfl (Iff.rfl) (fun hp334 => ?_) (fun hp334 => ?_)
  · replace hF := if_t hp334 hF
    refine wp_seq ?_; refine wp_region_lit ?_; refine op_g ha rfl (g_assign rfl) ?_; clear ha a; intro a ha; refine wpList_nil ?_; replace ha := ha.sub (σ' := [(4, (.bool false))]) ⟨rfl, trivial⟩; refine e_then ?_; refine wp_ret ?_; refine e_then_ret ?_; obtain rfl := Option.some.inj hF
    exact f_ret1 ha rfl rfl ⟨rfl, hE332⟩
  replace hF := if_f hp334 hF; refine wp_skip ?_; refine e_then ?_; refine wp_seq ?_; refine wp_region_lit ?_; refine op_g ha rfl (g_assign rfl) ?_; clear ha a; intro a ha; refine wpList_nil ?_; replace ha := ha.sub (σ' := [(0, va0), (1, va1), (5, u38), (6, u39), (7, (.bool x33.2.2)), (10, u105), (11, u106), (14, (.int .i64 1))]) ⟨rfl, rfl, rfl, rfl, rfl, rfl, rfl, rfl, trivial⟩; refine e_then ?_; refine wp_seq ?_; refine wp_region_lit ?_; (iterate 2 refine op_g ha rfl (g_move rfl) ?_; clear ha a; intro a ha); obtain ⟨x335, hc336, hF⟩ := cal_some hF
  refine o_call ha rfl rfl Try.call11 (W_laws_markInt64S h109 (show InI 1 from by decide) hc336) ?_; clear ha a; rintro v337 w338 ⟨⟨rfl, hI340⟩, h341, hx339⟩ a ha
  replace h42 := h42.nq hx339 q118
  replace h46 := h46.nq hx339 q120
  replace h113 := h113.nq hx339 q117
  have hE342 := Ext.then hE332 hx339 (Zn.bl q135)
  refine op_g ha rfl (g_assign rfl) ?_; clear ha a; intro a ha; refine wpList_nil ?_; replace ha := ha.sub (σ' := [(0, va0), (1, va1), (5, u38), (6, u39), (7, (.bool x33.2.2)), (10, u105), (11, u106), (14, (.int .i64 x335.1))]) ⟨rfl, rfl, rfl, rfl, rfl, rfl, rfl, rfl, trivial⟩; refine e_then ?_; refine wp_seq ?_; refine wp_region_lit ?_; (iterate 2 refine op_g ha rfl (g_move rfl) ?_; clear ha a; intro a ha); obtain ⟨x343, hc344, hF⟩ := cal_some hF
  refine o_call ha rfl rfl Try.call11 (W_laws_markInt64S h113 hI340 hc344) ?_; clear ha a; rintro v345 w346 ⟨⟨rfl, hI348⟩, h349, hx347⟩ a ha
  replace h42 := h42.nq hx347 q126
  replace h46 := h46.nq hx347 q128
  replace h341 := h341.nq hx347 q116
  have hE350 := Ext.then hE342 hx347 (Zn.bl q136)
  refine op_g ha rfl (g_assign rfl) ?_; clear ha a; intro a ha; refine wpList_nil ?_; replace ha := ha.sub (σ' := [(0, va0), (1, va1), (5, u38), (6, u39), (7, (.bool x33.2.2)), (10, u105), (11, u106), (14, (.int .i64 x343.1))]) ⟨rfl, rfl, rfl, rfl, rfl, rfl, rfl, rfl, trivial⟩; refine e_then ?_; refine wp_seq ?_; refine wp_region_lit ?_; refine op_g ha rfl (g_assign rfl) ?_; clear ha a; intro a ha; refine wpList_nil ?_; replace ha := ha.sub (σ' := [(0, va0), (1, va1), (5, u38), (6, u39), (7, (.bool x33.2.2)), (10, u105), (11, u106), (14, (.int .i64 x343.1)), (15, (.int .i64 1))]) ⟨rfl, rfl, rfl, rfl, rfl, rfl, rfl, rfl, rfl, trivial⟩
  refine e_then ?_; refine wp_seq ?_; refine wp_region_lit ?_; (iterate 2 refine op_g ha rfl (g_move rfl) ?_; clear ha a; intro a ha)
  obtain ⟨fp351, hro352, hs353⟩ := h341.roF
  obtain ⟨x354, hc355, hF⟩ := cal_some hF
  refine o_call ha rfl rfl Try.call12 (W_laws_heldInt64S hro352 (show InI 1 from by decide) hc355) ?_; clear ha a; rintro v356 w357 ⟨⟨rfl, hI359⟩, hx358⟩ a ha
  replace h42 := h42.ext hx358
  replace h46 := h46.ext hx358
  replace h341 := h341.ext hx358
  replace h349 := h349.ext hx358
  have hE360 := Ext.trans hE350 hx358
  refine op_g ha rfl (g_assign rfl) ?_; clear ha a; intro a ha; refine wpList_nil ?_; replace ha := ha.sub (σ' := [(0, va0), (1, va1), (5, u38), (6, u39), (7, (.bool x33.2.2)), (10, u105), (11, u106), (14, (.int .i64 x343.1)), (15, (.int .i64 x354))]) ⟨rfl, rfl, rfl, rfl, rfl, rfl, rfl, rfl, rfl, trivial⟩; refine e_then ?_; refine wp_seq ?_; refine wp_seq ?_; refine wp_region_lit ?_; refine op_g ha rfl (g_move rfl) ?_; clear ha a; intro a ha; refine op_g ha rfl (g_lss rfl rfl) ?_; clear ha a; intro a ha; refine wpList_nil ?_; replace ha := ha.sub (σ' := [(0, va0), (1, va1), (5, u38), (6, u39), (7, (.bool x33.2.2)), (10, u105), (11, u106), (14, (.int .i64 x343.1)), (15, (.int .i64 x354)), (105, (.bool (decide (x354 < 0))))]) ⟨rfl, rfl, rfl, rfl, rfl, rfl, rfl, rfl, rfl, rfl, trivial⟩
  refine e_then ?_; refine c_cond (x354 < 0) ha rfl (decide_eq_true_iff) (fun hp361 => ?_) (fun hp361 => ?_)
  · replace hF := if_t hp361 hF
    refine wp_seq ?_; refine wp_region_lit ?_; refine op_g ha rfl (g_assign rfl) ?_; clear ha a; intro a ha; refine wpList_nil ?_; replace ha := ha.sub (σ' := [(4, (.bool false))]) ⟨rfl, trivial⟩; refine e_then ?_; refine wp_ret ?_; refine e_then_ret ?_; obtain rfl := Option.some.inj hF
    exact f_ret1 ha rfl rfl ⟨rfl, hE360⟩
  replace hF := if_f hp361 hF; refine wp_skip ?_; refine e_then ?_; refine wp_seq ?_; refine wp_region_lit ?_; (iterate 2 refine op_g ha rfl (g_move rfl) ?_; clear ha a; intro a ha)
  obtain ⟨fp362, hro363, hs364⟩ := h349.roF
  obtain ⟨x365, hc366, hF⟩ := cal_some hF
  refine o_call ha rfl rfl Try.call12 (W_laws_heldInt64S hro363 hI359 hc366) ?_; clear ha a; rintro v367 w368 ⟨⟨rfl, hI370⟩, hx369⟩ a ha
  replace h42 := h42.ext hx369
  replace h46 := h46.ext hx369
  replace h341 := h341.ext hx369
  replace h349 := h349.ext hx369
  have hE371 := Ext.trans hE360 hx369
  refine op_g ha rfl (g_assign rfl) ?_; clear ha a; intro a ha; refine wpList_nil ?_; replace ha := ha.sub (σ' := [(0, va0), (1, va1), (5, u38), (6, u39), (7, (.bool x33.2.2)), (10, u105), (11, u106), (14, (.int .i64 x343.1)), (15, (.int .i64 x365))]) ⟨rfl, rfl, rfl, rfl, rfl, rfl, rfl, rfl, rfl, trivial⟩; refine e_then ?_; refine wp_seq ?_; refine wp_seq ?_; refine wp_region_lit ?_; refine op_g ha rfl (g_move rfl) ?_; clear ha a; intro a ha; refine op_g ha rfl (g_lss rfl rfl) ?_; clear ha a; intro a ha; refine wpList_nil ?_; replace ha := ha.sub (σ' := [(0, va0), (1, va1), (5, u38), (6, u39), (7, (.bool x33.2.2)), (10, u105), (11, u106), (14, (.int .i64 x343.1)), (15, (.int .i64 x365)), (110, (.bool (decide (x365 < 0))))]) ⟨rfl, rfl, rfl, rfl, rfl, rfl, rfl, rfl, rfl, rfl, trivial⟩
  refine e_then ?_; refine c_cond (x365 < 0) ha rfl (decide_eq_true_iff) (fun hp372 => ?_) (fun hp372 => ?_)
  · replace hF := if_t hp372 hF
    refine wp_seq ?_; refine wp_region_lit ?_; refine op_g ha rfl (g_assign rfl) ?_; clear ha a; intro a ha; refine wpList_nil ?_; replace ha := ha.sub (σ' := [(4, (.bool false))]) ⟨rfl, trivial⟩; refine e_then ?_; refine wp_ret ?_; refine e_then_ret ?_; obtain rfl := Option.some.inj hF
    exact f_ret1 ha rfl rfl ⟨rfl, hE371⟩
  replace hF := if_f hp372 hF; refine wp_skip ?_; refine e_then ?_; refine wp_seq ?_; refine wp_seq ?_; refine wp_region_lit ?_; (iterate 2 refine op_g ha rfl (g_move rfl) ?_; clear ha a; intro a ha); refine op_g ha rfl (g_neq rfl rfl) ?_; clear ha a; intro a ha; refine wpList_nil ?_; replace ha := ha.sub (σ' := [(0, va0), (1, va1), (5, u38), (6, u39), (7, (.bool x33.2.2)), (10, u105), (11, u106), (14, (.int .i64 x343.1)), (113, (.bool (decide (x365 ≠ x343.1))))]) ⟨rfl, rfl, rfl, rfl, rfl, rfl, rfl, rfl, rfl, trivial⟩; refine e_then ?_; refine c_cond (x365 ≠ x343.1) ha rfl (decide_eq_true_iff) (fun hp373 => ?_) (fun hp373 => ?_)
  · replace hF := if_t hp373 hF
    refine wp_seq ?_; refine wp_region_lit ?_; refine op_g ha rfl (g_assign rfl) ?_; clear ha a; intro a ha; refine wpList_nil ?_; replace ha := ha.sub (σ' := [(4, (.bool false))]) ⟨rfl, trivial⟩; refine e_then ?_; refine wp_ret ?_; refine e_then_ret ?_; obtain rfl := Option.some.inj hF
    exact f_ret1 ha rfl rfl ⟨rfl, hE371⟩
  replace hF := if_f hp373 hF; refine wp_skip ?_; refine e_then ?_; refine wp_seq ?_; refine wp_region_lit ?_; refine op_g ha rfl (g_move rfl) ?_; clear ha a; intro a ha; obtain ⟨x374, hc375, hF⟩ := cal_some hF
  refine o_call ha rfl rfl Try.call6 (W_laws_toInt64S (ha0.ext hE371) hc375) ?_; clear ha a; rintro v376 w377 ⟨b379, h380, z381, hx378⟩ a ha
  have q383 := Nq.new h42.fpb z381
  have q384 := Nq.madeO z381 h42.blt
  have q385 := Nq.new h46.fpb z381
  have q386 := Nq.madeO z381 h46.blt
  have q387 := Nq.new h341.fpb z381
  have q388 := Nq.madeO z381 h341.blt
  have q389 := Nq.new h349.fpb z381
  have q390 := Nq.madeO z381 h349.blt
  replace h42 := h42.ext hx378
  replace h46 := h46.ext hx378
  replace h341 := h341.ext hx378
  replace h349 := h349.ext hx378
  have hE391 := Ext.trans hE371 hx378
  have q392 := Zn.upD z381 hE371
  refine op_g ha rfl (g_move rfl) ?_; clear ha a; intro a ha; obtain ⟨x393, hc394, hF⟩ := cal_some hF
  refine o_call ha rfl rfl Try.call6 (W_laws_toInt64S (ha1.ext hE391) hc394) ?_; clear ha a; rintro v395 w396 ⟨b398, h399, z400, hx397⟩ a ha
  have q402 := Nq.new h42.fpb z400
  have q403 := Nq.madeO z400 h42.blt
  have q404 := Nq.new h46.fpb z400
  have q405 := Nq.madeO z400 h46.blt
  have q406 := Nq.new h341.fpb z400
  have q407 := Nq.madeO z400 h341.blt
  have q408 := Nq.new h349.fpb z400
  have q409 := Nq.madeO z400 h349.blt
  have q410 := Nq.new h380.fpb z400
  have q411 := Nq.madeO z400 h380.blt
  replace h42 := h42.ext hx397
  replace h46 := h46.ext hx397
  replace h341 := h341.ext hx397
  replace h349 := h349.ext hx397
  replace h380 := h380.ext hx397
  have hE412 := Ext.trans hE391 hx397
  have q413 := Zn.upD z400 hE391
  obtain ⟨fp414, hro415, hs416⟩ := h380.roF
  obtain ⟨fp417, hro418, hs419⟩ := h399.roF
  obtain ⟨x420, hc421, hF⟩ := cal_some hF
  refine o_call ha rfl rfl Try.call10 (W_impl_TurnedLines hro415 hro418 hc421) ?_; clear ha a; rintro v422 w423 ⟨u425, u426, u427, b428, b432, rfl, h429, z430, h433, z434, rfl, q436, q437, hx424⟩ a ha
  have q438 := Nq.new h42.fpb z430
  have q439 := Nq.madeO z430 h42.blt
  have q440 := Nq.new h46.fpb z430
  have q441 := Nq.madeO z430 h46.blt
  have q442 := Nq.new h341.fpb z430
  have q443 := Nq.madeO z430 h341.blt
  have q444 := Nq.new h349.fpb z430
  have q445 := Nq.madeO z430 h349.blt
  have q446 := Nq.new h380.fpb z430
  have q447 := Nq.madeO z430 h380.blt
  have q448 := Nq.new h399.fpb z430
  have q449 := Nq.madeO z430 h399.blt
  have q450 := Nq.new h42.fpb z434
  have q451 := Nq.madeO z434 h42.blt
  have q452 := Nq.new h46.fpb z434
  have q453 := Nq.madeO z434 h46.blt
  have q454 := Nq.new h341.fpb z434
  have q455 := Nq.madeO z434 h341.blt
  have q456 := Nq.new h349.fpb z434
  have q457 := Nq.madeO z434 h349.blt
  have q458 := Nq.new h380.fpb z434
  have q459 := Nq.madeO z434 h380.blt
  have q460 := Nq.new h399.fpb z434
  have q461 := Nq.madeO z434 h399.blt
  replace h42 := h42.ext hx424
  replace h46 := h46.ext hx424
  replace h341 := h341.ext hx424
  replace h349 := h349.ext hx424
  replace h380 := h380.ext hx424
  replace h399 := h399.ext hx424
  have hE462 := Ext.trans hE412 hx424
  have q463 := Zn.upD z430 hE412
  have q464 := Zn.upD z434 hE412
  refine op_g ha rfl (g_move rfl) ?_; clear ha a; intro a ha; (iterate 3 refine op_g ha rfl (g_extract rfl rfl) ?_; clear ha a; intro a ha); (iterate 3 refine op_g ha rfl (g_assign rfl) ?_; clear ha a; intro a ha); refine wpList_nil ?_; replace ha := ha.sub (σ' := [(5, u38), (6, u39), (7, (.bool x33.2.2)), (10, u105), (11, u106), (14, (.int .i64 x343.1)), (16, u425), (17, u426), (18, (.bool x420.2.2))]) ⟨rfl, rfl, rfl, rfl, rfl, rfl, rfl, rfl, rfl, trivial⟩; refine e_then ?_; refine wp_seq ?_; refine wp_seq ?_; refine wp_region_lit ?_; (iterate 2 refine op_g ha rfl (g_move rfl) ?_; clear ha a; intro a ha)
  obtain ⟨fp492, hro493, hs494⟩ := h429.roF
  obtain ⟨fp495, hro496, hs497⟩ := h42.roF
  obtain ⟨x498, hc499, hF⟩ := cal_some hF
  refine o_call ha rfl rfl Try.call8 (W_laws_eqInt64S hro493 hro496 hc499) ?_; clear ha a; rintro v500 w501 ⟨rfl, hx502⟩ a ha
  replace h42 := h42.ext hx502
  replace h46 := h46.ext hx502
  replace h341 := h341.ext hx502
  replace h349 := h349.ext hx502
  replace h429 := h429.ext hx502
  replace h433 := h433.ext hx502
  have hE503 := Ext.trans hE462 hx502
  refine op_g ha rfl (g_not rfl) ?_; clear ha a; intro a ha; refine op_g ha rfl (g_move rfl) ?_; clear ha a; intro a ha
  by_cases hp504 : ¬ (x498 = true)
  · replace hF := if_t hp504 hF
    rw [show (!x498) = true from (n_iff (Iff.rfl)).2 hp504] at ha
    (iterate 4 refine op_unwant ha rfl (yields ha rfl rfl) rfl ?_; clear ha a; intro a ha); refine op_g ha rfl (g_pick rfl rfl) ?_; clear ha a; intro a ha; refine op_g ha rfl (g_move rfl) ?_; clear ha a; intro a ha; (iterate 3 refine op_unwant ha rfl (yields ha rfl rfl) rfl ?_; clear ha a; intro a ha); refine op_g ha rfl (g_pick rfl rfl) ?_; clear ha a; intro a ha; refine wpList_nil ?_; replace ha := ha.sub (σ' := [(10, u105), (11, u106), (14, (.int .i64 x343.1)), (137, (.bool true))]) ⟨rfl, rfl, rfl, rfl, trivial⟩; refine e_then ?_; refine c_true ha rfl ?_; refine wp_seq ?_; refine wp_region_lit ?_
    refine op_g ha rfl (g_assign rfl) ?_; clear ha a; intro a ha; refine wpList_nil ?_; replace ha := ha.sub (σ' := [(4, (.bool false))]) ⟨rfl, trivial⟩; refine e_then ?_; refine wp_ret ?_; refine e_then_ret ?_; obtain rfl := Option.some.inj hF
    exact f_ret1 ha rfl rfl ⟨rfl, hE503⟩
  replace hF := if_f hp504 hF
  rw [show (!x498) = false from b_false (n_iff (Iff.rfl)) hp504] at ha
  refine op_want (yields ha rfl rfl) ?_; refine op_g ha rfl (g_move rfl) ?_; clear ha a; intro a ha; refine op_want (yields ha rfl rfl) ?_; refine op_g ha rfl (g_move rfl) ?_; clear ha a; intro a ha; refine op_want (yields ha rfl rfl) ?_
  obtain ⟨fp505, hro506, hs507⟩ := h433.roF
  obtain ⟨fp508, hro509, hs510⟩ := h46.roF
  obtain ⟨x511, hc512, hF⟩ := cal_some hF
  refine o_call ha rfl rfl Try.call8 (W_laws_eqInt64S hro506 hro509 hc512) ?_; clear ha a; rintro v513 w514 ⟨rfl, hx515⟩ a ha
  replace h42 := h42.ext hx515
  replace h46 := h46.ext hx515
  replace h341 := h341.ext hx515
  replace h349 := h349.ext hx515
  replace h429 := h429.ext hx515
  replace h433 := h433.ext hx515
  have hE516 := Ext.trans hE503 hx515
  refine op_want (yields ha rfl rfl) ?_; refine op_g ha rfl (g_not rfl) ?_; clear ha a; intro a ha; refine op_g ha rfl (g_pick rfl rfl) ?_; clear ha a; intro a ha; refine op_g ha rfl (g_move rfl) ?_; clear ha a; intro a ha
  by_cases hp517 : ¬ (x511 = true)
  · replace hF := if_t hp517 hF
    rw [show (!x511) = true from (n_iff (Iff.rfl)).2 hp517] at ha
    (iterate 3 refine op_unwant ha rfl (yields ha rfl rfl) rfl ?_; clear ha a; intro a ha); refine op_g ha rfl (g_pick rfl rfl) ?_; clear ha a; intro a ha; refine wpList_nil ?_; replace ha := ha.sub (σ' := [(10, u105), (11, u106), (14, (.int .i64 x343.1)), (137, (.bool true))]) ⟨rfl, rfl, rfl, rfl, trivial⟩; refine e_then ?_; refine c_true ha rfl ?_; refine wp_seq ?_; refine wp_region_lit ?_; refine op_g ha rfl (g_assign rfl) ?_; clear ha a; intro a ha; refine wpList_nil ?_; replace ha := ha.sub (σ' := [(4, (.bool false))]) ⟨rfl, trivial⟩; refine e_then ?_; refine wp_ret ?_; refine e_then_ret ?_
    obtain rfl := Option.some.inj hF
    exact f_ret1 ha rfl rfl ⟨rfl, hE516⟩
  replace hF := if_f hp517 hF
  rw [show (!x511) = false from b_false (n_iff (Iff.rfl)) hp517] at ha
  refine op_want (yields ha rfl rfl) ?_; refine op_g ha rfl (g_move rfl) ?_; clear ha a; intro a ha; refine op_want (yields ha rfl rfl) ?_; refine op_g ha rfl (g_move rfl) ?_; clear ha a; intro a ha; refine op_want (yields ha rfl rfl) ?_; refine op_g ha rfl (gB_neq un4 rfl rfl) ?_; clear ha a; intro a ha; refine op_g ha rfl (g_pick rfl rfl) ?_; clear ha a; intro a ha; refine wpList_nil ?_; replace ha := ha.sub (σ' := [(10, u105), (11, u106), (14, (.int .i64 x343.1)), (137, (.bool (x420.2.2 != x33.2.2)))]) ⟨rfl, rfl, rfl, rfl, trivial⟩; refine e_then ?_; refine c_cond ((x420.2.2 != x33.2.2) = true) ha rfl (Iff.rfl) (fun hp518 => ?_) (fun hp518 => ?_)
  · replace hF := if_t hp518 hF
    refine wp_seq ?_; refine wp_region_lit ?_; refine op_g ha rfl (g_assign rfl) ?_; clear ha a; intro a ha; refine wpList_nil ?_; replace ha := ha.sub (σ' := [(4, (.bool false))]) ⟨rfl, trivial⟩; refine e_then ?_; refine wp_ret ?_; refine e_then_ret ?_; obtain rfl := Option.some.inj hF
    exact f_ret1 ha rfl rfl ⟨rfl, hE516⟩
  replace hF := if_f hp518 hF; refine wp_skip ?_; refine e_then ?_; refine wp_seq ?_; refine wp_region_lit ?_; refine op_g ha rfl (g_assign rfl) ?_; clear ha a; intro a ha; refine wpList_nil ?_; replace ha := ha.sub (σ' := [(10, u105), (11, u106), (14, (.int .i64 x343.1)), (15, (.int .i64 1))]) ⟨rfl, rfl, rfl, rfl, trivial⟩; refine e_then ?_; refine wp_seq ?_; refine wp_region_lit ?_; (iterate 2 refine op_g ha rfl (g_move rfl) ?_; clear ha a; intro a ha)
  obtain ⟨fp519, hro520, hs521⟩ := h341.roF
  obtain ⟨x522, hc523, hF⟩ := cal_some hF
  refine o_call ha rfl rfl Try.call12 (W_laws_heldInt64S hro520 (show InI 1 from by decide) hc523) ?_; clear ha a; rintro v524 w525 ⟨⟨rfl, hI527⟩, hx526⟩ a ha
  replace h341 := h341.ext hx526
  replace h349 := h349.ext hx526
  have hE528 := Ext.trans hE516 hx526
  refine op_g ha rfl (g_assign rfl) ?_; clear ha a; intro a ha; refine wpList_nil ?_; replace ha := ha.sub (σ' := [(11, u106), (14, (.int .i64 x343.1)), (15, (.int .i64 x522))]) ⟨rfl, rfl, rfl, trivial⟩; refine e_then ?_; refine wp_seq ?_; refine wp_seq ?_; refine wp_region_lit ?_; refine op_g ha rfl (g_move rfl) ?_; clear ha a; intro a ha; refine op_g ha rfl (g_lss rfl rfl) ?_; clear ha a; intro a ha; refine wpList_nil ?_; replace ha := ha.sub (σ' := [(11, u106), (14, (.int .i64 x343.1)), (15, (.int .i64 x522)), (142, (.bool (decide (x522 < 0))))]) ⟨rfl, rfl, rfl, rfl, trivial⟩; refine e_then ?_
  refine c_cond (x522 < 0) ha rfl (decide_eq_true_iff) (fun hp529 => ?_) (fun hp529 => ?_)
  · replace hF := if_t hp529 hF
    refine wp_seq ?_; refine wp_region_lit ?_; refine op_g ha rfl (g_assign rfl) ?_; clear ha a; intro a ha; refine wpList_nil ?_; replace ha := ha.sub (σ' := [(4, (.bool false))]) ⟨rfl, trivial⟩; refine e_then ?_; refine wp_ret ?_; refine e_then_ret ?_; obtain rfl := Option.some.inj hF
    exact f_ret1 ha rfl rfl ⟨rfl, hE528⟩
  replace hF := if_f hp529 hF; refine wp_skip ?_; refine e_then ?_; refine wp_seq ?_; refine wp_region_lit ?_; (iterate 2 refine op_g ha rfl (g_move rfl) ?_; clear ha a; intro a ha)
  obtain ⟨fp530, hro531, hs532⟩ := h349.roF
  obtain ⟨x533, hc534, hF⟩ := cal_some hF
  refine o_call ha rfl rfl Try.call12 (W_laws_heldInt64S hro531 hI527 hc534) ?_; clear ha a; rintro v535 w536 ⟨⟨rfl, hI538⟩, hx537⟩ a ha
  replace h349 := h349.ext hx537
  have hE539 := Ext.trans hE528 hx537
  refine op_g ha rfl (g_assign rfl) ?_; clear ha a; intro a ha; refine wpList_nil ?_; replace ha := ha.sub (σ' := [(14, (.int .i64 x343.1)), (15, (.int .i64 x533))]) ⟨rfl, rfl, trivial⟩; refine e_then ?_; refine wp_seq ?_; refine wp_seq ?_; refine wp_region_lit ?_; refine op_g ha rfl (g_move rfl) ?_; clear ha a; intro a ha; refine op_g ha rfl (g_lss rfl rfl) ?_; clear ha a; intro a ha; refine wpList_nil ?_; replace ha := ha.sub (σ' := [(14, (.int .i64 x343.1)), (15, (.int .i64 x533)), (147, (.bool (decide (x533 < 0))))]) ⟨rfl, rfl, rfl, trivial⟩; refine e_then ?_; refine c_cond (x533 < 0) ha rfl (decide_eq_true_iff) (fun hp540 => ?_) (fun hp540 => ?_)
  · replace hF := if_t hp540 hF
    refine wp_seq ?_; refine wp_region_lit ?_; refine op_g ha rfl (g_assign rfl) ?_; clear ha a; intro a ha; refine wpList_nil ?_; replace ha := ha.sub (σ' := [(4, (.bool false))]) ⟨rfl, trivial⟩; refine e_then ?_; refine wp_ret ?_; refine e_then_ret ?_; obtain rfl := Option.some.inj hF
    exact f_ret1 ha rfl rfl ⟨rfl, hE539⟩
  replace hF := if_f hp540 hF; refine wp_skip ?_; refine e_then ?_; refine wp_seq ?_; refine wp_seq ?_; refine wp_region_lit ?_; (iterate 2 refine op_g ha rfl (g_move rfl) ?_; clear ha a; intro a ha); refine op_g ha rfl (g_neq rfl rfl) ?_; clear ha a; intro a ha; refine wpList_nil ?_; replace ha := ha.sub (σ' := [(150, (.bool (decide (x533 ≠ x343.1))))]) ⟨rfl, trivial⟩; refine e_then ?_; refine c_cond (x533 ≠ x343.1) ha rfl (decide_eq_true_iff) (fun hp541 => ?_) (fun hp541 => ?_)
  · replace hF := if_t hp541 hF
    refine wp_seq ?_; refine wp_region_lit ?_; refine op_g ha rfl (g_assign rfl) ?_; clear ha a; intro a ha; refine wpList_nil ?_; replace ha := ha.sub (σ' := [(4, (.bool false))]) ⟨rfl, trivial⟩; refine e_then ?_; refine wp_ret ?_; refine e_then_ret ?_; obtain rfl := Option.some.inj hF
    exact f_ret1 ha rfl rfl ⟨rfl, hE539⟩
  replace hF := if_f hp541 hF; refine wp_skip ?_; refine e_then ?_; refine wp_seq ?_; refine wp_region_lit ?_; refine op_g ha rfl (g_assign rfl) ?_; clear ha a; intro a ha; refine wpList_nil ?_; replace ha := ha.sub (σ' := [(4, (.bool true))]) ⟨rfl, trivial⟩; refine e_then ?_; refine wp_ret ?_; obtain rfl := Option.some.inj hF
  exact f_ret1 ha rfl rfl ⟨rfl, hE539⟩
end Go.Proofs.Ythbmcbflnibpbab
