/- Walks, printed by gen.py. -/
import Derived.Test.YtbcjeljppgojgaaDoorF
import Derived.Test.YtbcjeljppgojgaaDoorDeep
import Derived.Test.YtbcjeljppgojgaaDoorSorts
import Derived.Test.YtbcjeljppgojgaaDoorDrawE
import Derived.Test.YtbcjeljppgojgaaDoorProg
import Derived.KernelRfl
set_option maxRecDepth 100000
namespace Go.Proofs.YtbcjeljppgojgaaDoor
open Go Go.RowKit

theorem hmix : Tryd.prog.follows .mixedOrders = true := by kernel_rfl
theorem sl22 : SlT Tryd.prog 22 2 1 8 (.int .i64 0) := ⟨by kernel_rfl, by kernel_rfl, by rfl⟩
theorem un4 : Tryd.prog.underlying 4 = some .bool := by kernel_rfl
theorem sl37 : SlT Tryd.prog 37 3 1 8 (.int .i64 0) := ⟨by kernel_rfl, by kernel_rfl, by rfl⟩
theorem sl30 : SlT Tryd.prog 30 34 1 4 (.int .u32 0) := ⟨by kernel_rfl, by kernel_rfl, by rfl⟩
theorem sl29 : SlT Tryd.prog 29 34 1 4 (.int .u32 0) := ⟨by kernel_rfl, by kernel_rfl, by rfl⟩
theorem un68 : Tryd.prog.underlying 68 = some (.array 32 5) := by kernel_rfl
theorem un5 : Tryd.prog.underlying 5 = some (.int .u8) := by kernel_rfl
theorem un3 : Tryd.prog.underlying 3 = some (.int .i64) := by kernel_rfl
theorem sl39 : SlT Tryd.prog 39 37 1 24 (.slice none 0 0) := ⟨by kernel_rfl, by kernel_rfl, by rfl⟩
set_option maxHeartbeats 2000000 in
theorem W_laws_toInt64S {W : World} {va0 : Value} {fa0 : List Nat} {a0 : (List Int)} (ha0 : Ro Rp.int W fa0 va0 a0) {r : (List Int)} (hF : F_laws_toInt64S a0 = some r) :
    Calls Tryd.prog 6 [va0].toArray W (Ret fun u w' => ∃ (b_u : Int), Ow Rp.int 2 true w' [] b_u u r ∧ Zn W b_u ∧ Ext W w') := by
  refine f_enter Tryd.func6 rfl Tryd.ntmps6 rfl ?_
  intro a ha
  replace ha : Fr 22 [(0, va0)] a := ha
  have hE : Chg [] W W := Chg.refl _ _
  unfold F_laws_toInt64S at hF
  refine wp_seq ?_; refine wp_region_lit ?_; refine op_g ha rfl (g_assign rfl) ?_; clear ha a; intro a ha; refine wpList_nil ?_; replace ha := ha.sub (σ' := [(0, va0)]) ⟨rfl, trivial⟩; refine e_then ?_; refine wp_seq ?_; refine wp_region_lit ?_; refine op_g ha rfl (g_move rfl) ?_; clear ha a; intro a ha; refine op_g ha rfl (g_lenR sl22.und ha0 rfl) ?_; clear ha a; intro a ha; obtain ⟨g5, g5b, hF⟩ := mkS_some hF
  refine o_make (z0 := (0 : Int)) Rp.int ha rfl sl22 rfl (fun w => ⟨rfl, by decide, rfl⟩) rfl g5 g5b ?_; clear ha a; intro v1 w2 h3 hx4 a ha
  obtain ⟨b8, hb8⟩ : ∃ b : Int, b = W.heap.size := ⟨_, rfl⟩; rw [← hb8] at h3
  have q9 := zn_of hb8
  have q10 := Zn.upD q9 hE
  have hE11 := Ext.trans hE hx4
  refine op_g ha rfl (g_assign rfl) ?_; clear ha a; intro a ha; refine wpList_nil ?_; replace ha := ha.sub (σ' := [(0, va0), (3, v1)]) ⟨rfl, rfl, trivial⟩; refine e_then ?_; refine wp_seq ?_; refine wp_seq ?_; refine wp_region_lit ?_; refine op_g ha rfl (g_assign rfl) ?_; clear ha a; intro a ha; refine wpList_nil ?_; refine e_then ?_; obtain ⟨o118, ho119, hK120⟩ := bnd_some hF
  obtain ⟨n121, hn122⟩ := lp_some ho119; clear ho119
  refine c_loop (fun a w => ∃ (l115 : (List Int)) (v116 : Value) (b117 : Int), Fr 22 [(3, v116)] a ∧ Chg [] W w ∧ Ow Rp.int 2 true w [] b117 v116 l115 ∧ Zn W b117 ∧ o118 = .inl l115) (fun n a w => ∃ (l63 : (List Int)) (i66 : Int) (v64 : Value) (b65 : Int), Fr 22 [(0, va0), (3, v64), (4, (.int .i64 i66))] a ∧ Chg [] W w ∧ InI i66 ∧ Ow Rp.int 2 true w [] b65 v64 l63 ∧ Zn W b65 ∧ lpN (fun s => F_laws_toInt64S_l1 a0 s.1 s.2) n (l63, i66) = some o118) n121 ⟨(List.replicate ((a0.length : Int) : Int).toNat (0 : Int)), 0, v1, b8, ha.sub ⟨rfl, rfl, rfl, trivial⟩, hE11, (show InI 0 from by decide), h3, q10, hn122⟩ ?_ ?_
  · rintro m126 a w59 ⟨l63, i66, v64, b65, ha, hE68, hI67, h61, z62, hF⟩
    cases m126 with
    | zero => exact (lpN_zero hF).elim
    | succ m126 =>
      obtain ⟨z125, hF, hN124⟩ := lpN_succ hF
      have hF : F_laws_toInt64S_l1 a0 l63 i66 = some z125 := hF; unfold F_laws_toInt64S_l1 at hF
      refine wp_seq ?_; refine wp_seq ?_; refine wp_region_lit ?_; (iterate 2 refine op_g ha rfl (g_move rfl) ?_; clear ha a; intro a ha); refine op_g ha rfl (g_lenR sl22.und ha0 rfl) ?_; clear ha a; intro a ha; refine op_g ha rfl (g_lss rfl rfl) ?_; clear ha a; intro a ha; refine wpList_nil ?_; replace ha := ha.sub (σ' := [(0, va0), (3, v64), (4, (.int .i64 i66)), (11, (.bool (decide (i66 < (a0.length : Int)))))]) ⟨rfl, rfl, rfl, rfl, trivial⟩; refine e_then ?_; refine c_cond (i66 < (a0.length : Int)) ha rfl (decide_eq_true_iff) (fun hp127 => ?_) (fun hp127 => ?_)
      · replace hF := if_t hp127 hF
        refine wp_skip ?_; refine e_then ?_; refine wp_seq ?_; refine wp_block ?_; refine wp_region_lit ?_; (iterate 4 refine op_g ha rfl (g_move rfl) ?_; clear ha a; intro a ha); obtain ⟨x128, g129, gx130, hF⟩ := idx_some hF
        obtain ⟨p131, cs132, f133, hf134, hpb135, hat136, hr137, hi138⟩ := ha0.at g129 gx130
        obtain ⟨rfl, hI139, rfl⟩ := hr137
        refine op_g ha rfl (hi138.gives sl22 rfl rfl) ?_; clear ha a; intro a ha; refine op_g ha rfl (g_load0 hE68 Tryd.isAgg2 rfl hat136.one) ?_; clear ha a; intro a ha; obtain ⟨x140, g141, gx142, hF⟩ := idx_some hF
        obtain ⟨p143, cs144, f145, hf146, hpb147, hat148, hr149, hi150⟩ := h61.at g141 gx142
        obtain ⟨rfl, hI151, rfl⟩ := hr149
        refine op_g ha rfl (hi150.gives sl22 rfl rfl) ?_; clear ha a; intro a ha
        refine o_storeE (f := []) (q := x128) ha Tryd.sizeOf2 rfl rfl rfl h61 hi150 ⟨rfl, hI139, rfl⟩ (Nq.nil _) ?_; intro w152 fs153 h154 hc155 hs156
        obtain rfl := Subst.nil hs156
        have hE157 := Ext.then hE68 hc155 (Zn.bl z62)
        refine wpList_nil ?_; replace ha := ha.sub (σ' := [(0, va0), (3, v64), (4, (.int .i64 i66))]) ⟨rfl, rfl, rfl, trivial⟩; refine e_blk ?_; refine e_then ?_; refine wp_region_lit ?_; refine op_g ha rfl (g_move rfl) ?_; clear ha a; intro a ha; obtain ⟨hI158, hF⟩ := ck_some hF; refine op_g ha rfl (g_add rfl rfl hI158) ?_; clear ha a; intro a ha; refine op_g ha rfl (g_assign rfl) ?_; clear ha a; intro a ha; refine wpList_nil ?_; replace ha := ha.sub (σ' := [(0, va0), (3, v64), (4, (.int .i64 (i66 + 1)))]) ⟨rfl, rfl, rfl, trivial⟩; refine e_lq ?_; obtain rfl := Option.some.inj hF
        exact ⟨_, Nat.lt_succ_self _, (l63.set ((i66 : Int).toNat) x128), i66 + 1, v64, b65, ha.sub ⟨rfl, rfl, rfl, trivial⟩, hE157, hI158, h154, z62, hN124⟩
      replace hF := if_f hp127 hF; refine wp_exit ?_; refine e_then_exit ?_; refine e_lq_eq ?_; obtain rfl := Option.some.inj hF
      exact ⟨l63, v64, b65, ha.sub ⟨rfl, trivial⟩, hE68, h61, z62, (LK_inr hN124).symm⟩
  rintro a w111 ⟨l115, v116, b117, ha, hE123, h113, z114, rfl⟩
  have hF : F_laws_toInt64S_k2 l115 = some _ := hK120; clear hK120; unfold F_laws_toInt64S_k2 at hF
  refine e_then ?_; refine wp_seq ?_; refine wp_region_lit ?_; refine op_g ha rfl (g_move rfl) ?_; clear ha a; intro a ha; refine op_g ha rfl (g_assign rfl) ?_; clear ha a; intro a ha; refine wpList_nil ?_; replace ha := ha.sub (σ' := [(2, v116)]) ⟨rfl, trivial⟩; refine e_then ?_; refine wp_ret ?_; obtain rfl := Option.some.inj hF
  exact f_ret1 ha rfl rfl ⟨_, h113, z114, hE123⟩
set_option maxHeartbeats 2000000 in
theorem W_spec_l1In {W : World} {a0 : Int} (ha0 : InI a0) {a1 : Int} (ha1 : InI a1) {a2 : Int} (ha2 : InI a2) {r : Bool} (hF : F_spec_l1In a0 a1 a2 = some r) :
    Calls Tryd.prog 30 [.int .i64 a0, .int .i64 a1, .int .i64 a2].toArray W (Ret fun u w' => u = .bool r ∧ Ext W w') := by
  refine f_enter Tryd.func30 rfl Tryd.ntmps30 rfl ?_
  intro a ha
  replace ha : Fr 15 [(0, (.int .i64 a0)), (1, (.int .i64 a1)), (2, (.int .i64 a2))] a := ha
  have hE : Chg [] W W := Chg.refl _ _
  unfold F_spec_l1In at hF
  refine wp_seq ?_; refine wp_region_lit ?_; refine op_g ha rfl (g_assign rfl) ?_; clear ha a; intro a ha; refine wpList_nil ?_; replace ha := ha.sub (σ' := [(0, (.int .i64 a0)), (1, (.int .i64 a1)), (2, (.int .i64 a2))]) ⟨rfl, rfl, rfl, trivial⟩; refine e_then ?_; refine wp_seq ?_; refine wp_region_lit ?_; (iterate 2 refine op_g ha rfl (g_move rfl) ?_; clear ha a; intro a ha); refine op_g ha rfl (g_geq rfl rfl) ?_; clear ha a; intro a ha; refine op_g ha rfl (g_move rfl) ?_; clear ha a; intro a ha
  by_cases hp1 : a1 ≤ a0
  · replace hF := if_t hp1 hF
    rw [show (decide (a1 ≤ a0)) = true from (decide_eq_true_iff).2 hp1] at ha
    refine op_want (yields ha rfl rfl) ?_; refine op_g ha rfl (g_move rfl) ?_; clear ha a; intro a ha; refine op_want (yields ha rfl rfl) ?_; refine op_g ha rfl (g_move rfl) ?_; clear ha a; intro a ha; refine op_want (yields ha rfl rfl) ?_; refine op_g ha rfl (g_leq rfl rfl) ?_; clear ha a; intro a ha; refine op_g ha rfl (g_pick rfl rfl) ?_; clear ha a; intro a ha; refine op_g ha rfl (g_assign rfl) ?_; clear ha a; intro a ha; refine wpList_nil ?_; replace ha := ha.sub (σ' := [(6, (.bool (decide (a0 ≤ a2))))]) ⟨rfl, trivial⟩; refine e_then ?_; refine wp_ret ?_; obtain rfl := Option.some.inj hF
    exact f_ret1 ha rfl rfl ⟨rfl, hE⟩
  replace hF := if_f hp1 hF
  rw [show (decide (a1 ≤ a0)) = false from b_false (decide_eq_true_iff) hp1] at ha
  (iterate 3 refine op_unwant ha rfl (yields ha rfl rfl) rfl ?_; clear ha a; intro a ha); refine op_g ha rfl (g_pick rfl rfl) ?_; clear ha a; intro a ha; refine op_g ha rfl (g_assign rfl) ?_; clear ha a; intro a ha; refine wpList_nil ?_; replace ha := ha.sub (σ' := [(6, (.bool false))]) ⟨rfl, trivial⟩; refine e_then ?_; refine wp_ret ?_; obtain rfl := Option.some.inj hF
  exact f_ret1 ha rfl rfl ⟨rfl, hE⟩
set_option maxHeartbeats 2000000 in
theorem W_spec_l1Has {W : World} {va0 : Value} {fa0 : List Nat} {a0 : (List Int)} (ha0 : Ro Rp.int W fa0 va0 a0) {a1 : Int} (ha1 : InI a1) {r : Bool} (hF : F_spec_l1Has a0 a1 = some r) :
    Calls Tryd.prog 31 [va0, .int .i64 a1].toArray W (Ret fun u w' => u = .bool r ∧ Ext W w') := by
  refine f_enter Tryd.func31 rfl Tryd.ntmps31 rfl ?_
  intro a ha
  replace ha : Fr 18 [(0, va0), (1, (.int .i64 a1))] a := ha
  have hE : Chg [] W W := Chg.refl _ _
  unfold F_spec_l1Has at hF
  refine wp_seq ?_; refine wp_region_lit ?_; refine op_g ha rfl (g_assign rfl) ?_; clear ha a; intro a ha; refine wpList_nil ?_; replace ha := ha.sub (σ' := [(0, va0), (1, (.int .i64 a1))]) ⟨rfl, rfl, trivial⟩; refine e_then ?_; refine wp_seq ?_; refine wp_seq ?_; refine wp_region_lit ?_; refine op_g ha rfl (g_assign rfl) ?_; clear ha a; intro a ha; refine wpList_nil ?_; refine e_then ?_; obtain ⟨o46, ho47, hK48⟩ := bnd_some hF
  obtain ⟨n49, hn50⟩ := lp_some ho47; clear ho47
  refine c_loop (fun a w => Fr 18 [] a ∧ Chg [] W w ∧ o46 = .inl ()) (fun n a w => ∃ (i23 : Int), Fr 18 [(0, va0), (1, (.int .i64 a1)), (5, (.int .i64 i23))] a ∧ Chg [] W w ∧ InI i23 ∧ lpN (fun s => F_spec_l1Has_l1 a0 a1 s) n i23 = some o46) n49 ⟨0, ha.sub ⟨rfl, rfl, rfl, trivial⟩, hE, (show InI 0 from by decide), hn50⟩ ?_ ?_
  · rintro m54 a w22 ⟨i23, ha, hE25, hI24, hF⟩
    cases m54 with
    | zero => exact (lpN_zero hF).elim
    | succ m54 =>
      obtain ⟨z53, hF, hN52⟩ := lpN_succ hF
      have hF : F_spec_l1Has_l1 a0 a1 i23 = some z53 := hF; unfold F_spec_l1Has_l1 at hF
      refine wp_seq ?_; refine wp_seq ?_; refine wp_region_lit ?_; (iterate 2 refine op_g ha rfl (g_move rfl) ?_; clear ha a; intro a ha); refine op_g ha rfl (g_lenR sl22.und ha0 rfl) ?_; clear ha a; intro a ha; refine op_g ha rfl (g_lss rfl rfl) ?_; clear ha a; intro a ha; refine wpList_nil ?_; replace ha := ha.sub (σ' := [(0, va0), (1, (.int .i64 a1)), (5, (.int .i64 i23)), (9, (.bool (decide (i23 < (a0.length : Int)))))]) ⟨rfl, rfl, rfl, rfl, trivial⟩; refine e_then ?_; refine c_cond (i23 < (a0.length : Int)) ha rfl (decide_eq_true_iff) (fun hp55 => ?_) (fun hp55 => ?_)
      · replace hF := if_t hp55 hF
        refine wp_skip ?_; refine e_then ?_; refine wp_seq ?_; refine wp_block ?_; refine wp_seq ?_; refine wp_region_lit ?_; (iterate 2 refine op_g ha rfl (g_move rfl) ?_; clear ha a; intro a ha); obtain ⟨x56, g57, gx58, hF⟩ := idx_some hF
        obtain ⟨p59, cs60, f61, hf62, hpb63, hat64, hr65, hi66⟩ := ha0.at g57 gx58
        obtain ⟨rfl, hI67, rfl⟩ := hr65
        refine op_g ha rfl (hi66.gives sl22 rfl rfl) ?_; clear ha a; intro a ha; refine op_g ha rfl (g_load0 hE25 Tryd.isAgg2 rfl hat64.one) ?_; clear ha a; intro a ha; refine op_g ha rfl (g_move rfl) ?_; clear ha a; intro a ha; refine op_g ha rfl (g_eql rfl rfl) ?_; clear ha a; intro a ha; refine wpList_nil ?_; replace ha := ha.sub (σ' := [(0, va0), (1, (.int .i64 a1)), (5, (.int .i64 i23)), (17, (.bool (decide (x56 = a1))))]) ⟨rfl, rfl, rfl, rfl, trivial⟩; refine e_then ?_; refine c_cond (x56 = a1) ha rfl (decide_eq_true_iff) (fun hp68 => ?_) (fun hp68 => ?_)
        · replace hF := if_t hp68 hF
          refine wp_seq ?_; refine wp_region_lit ?_; refine op_g ha rfl (g_assign rfl) ?_; clear ha a; intro a ha; refine wpList_nil ?_; replace ha := ha.sub (σ' := [(4, (.bool true))]) ⟨rfl, trivial⟩; refine e_then ?_; refine wp_ret ?_; refine e_blk_ret ?_; refine e_then_ret ?_; refine e_lq_ret ?_; refine e_then_ret ?_; obtain rfl := Option.some.inj hF
          have e69 := LK_inr hN52; subst e69
          have e70 := BK_inr hK48; subst e70
          exact f_ret1 ha rfl rfl ⟨rfl, hE25⟩
        replace hF := if_f hp68 hF; refine wp_skip ?_; refine e_blk ?_; refine e_then ?_; refine wp_region_lit ?_; refine op_g ha rfl (g_move rfl) ?_; clear ha a; intro a ha; obtain ⟨hI71, hF⟩ := ck_some hF; refine op_g ha rfl (g_add rfl rfl hI71) ?_; clear ha a; intro a ha; refine op_g ha rfl (g_assign rfl) ?_; clear ha a; intro a ha; refine wpList_nil ?_; replace ha := ha.sub (σ' := [(0, va0), (1, (.int .i64 a1)), (5, (.int .i64 (i23 + 1)))]) ⟨rfl, rfl, rfl, trivial⟩; refine e_lq ?_; obtain rfl := Option.some.inj hF
        exact ⟨_, Nat.lt_succ_self _, i23 + 1, ha.sub ⟨rfl, rfl, rfl, trivial⟩, hE25, hI71, hN52⟩
      replace hF := if_f hp55 hF; refine wp_exit ?_; refine e_then_exit ?_; refine e_lq_eq ?_; obtain rfl := Option.some.inj hF
      exact ⟨ha.sub trivial, hE25, (LK_inr hN52).symm⟩
  rintro a w45 ⟨ha, hE51, rfl⟩
  have hF : F_spec_l1Has_k2 = some _ := hK48; clear hK48; unfold F_spec_l1Has_k2 at hF
  refine e_then ?_; refine wp_seq ?_; refine wp_region_lit ?_; refine op_g ha rfl (g_assign rfl) ?_; clear ha a; intro a ha; refine wpList_nil ?_; refine e_then ?_; refine wp_ret ?_; obtain rfl := Option.some.inj hF
  exact f_ret1 ha rfl rfl ⟨rfl, hE51⟩
set_option maxHeartbeats 2000000 in
theorem W_spec_l15Line {W : World} {va0 : Value} {fa0 : List Nat} {a0 : (List Int)} (ha0 : Ro Rp.int W fa0 va0 a0) {r : Bool} (hF : F_spec_l15Line a0 = some r) :
    Calls Tryd.prog 23 [va0].toArray W (Ret fun u w' => u = .bool r ∧ Ext W w') := by
  refine f_enter Tryd.func23 rfl Tryd.ntmps23 rfl ?_
  intro a ha
  replace ha : Fr 33 [(0, va0)] a := ha
  have hE : Chg [] W W := Chg.refl _ _
  unfold F_spec_l15Line at hF
  refine wp_seq ?_; refine wp_region_lit ?_; refine op_g ha rfl (g_assign rfl) ?_; clear ha a; intro a ha; refine wpList_nil ?_; replace ha := ha.sub (σ' := [(0, va0)]) ⟨rfl, trivial⟩; refine e_then ?_; refine wp_seq ?_; refine wp_seq ?_; refine wp_region_lit ?_; refine op_g ha rfl (g_move rfl) ?_; clear ha a; intro a ha; refine op_g ha rfl (g_lenR sl22.und ha0 rfl) ?_; clear ha a; intro a ha; obtain ⟨x1, hc2, hF⟩ := cal_some hF
  refine o_call ha rfl rfl Tryd.call30 (W_spec_l1In ha0.len (show InI 1 from by decide) (show InI 16 from by decide) hc2) ?_; clear ha a; rintro v3 w4 ⟨rfl, hx5⟩ a ha
  have hE6 := Ext.trans hE hx5
  refine op_g ha rfl (g_not rfl) ?_; clear ha a; intro a ha; refine wpList_nil ?_; replace ha := ha.sub (σ' := [(0, va0), (7, (.bool (!x1)))]) ⟨rfl, rfl, trivial⟩; refine e_then ?_; refine c_cond (¬ (x1 = true)) ha rfl (n_iff (Iff.rfl)) (fun hp7 => ?_) (fun hp7 => ?_)
  · replace hF := if_t hp7 hF
    refine wp_seq ?_; refine wp_region_lit ?_; refine op_g ha rfl (g_assign rfl) ?_; clear ha a; intro a ha; refine wpList_nil ?_; replace ha := ha.sub (σ' := [(2, (.bool false))]) ⟨rfl, trivial⟩; refine e_then ?_; refine wp_ret ?_; refine e_then_ret ?_; obtain rfl := Option.some.inj hF
    exact f_ret1 ha rfl rfl ⟨rfl, hE6⟩
  replace hF := if_f hp7 hF; refine wp_skip ?_; refine e_then ?_; refine wp_seq ?_; refine wp_seq ?_; refine wp_region_lit ?_; refine op_g ha rfl (g_assign rfl) ?_; clear ha a; intro a ha; refine wpList_nil ?_; replace ha := ha.sub (σ' := [(0, va0), (3, (.int .i64 0))]) ⟨rfl, rfl, trivial⟩; refine e_then ?_; obtain ⟨o125, ho126, hK127⟩ := bnd_some hF
  obtain ⟨n128, hn129⟩ := lp_some ho126; clear ho126
  refine c_loop (fun a w => Fr 33 [] a ∧ Chg [] W w ∧ o125 = .inl ()) (fun n a w => ∃ (i66 : Int), Fr 33 [(0, va0), (3, (.int .i64 i66))] a ∧ Chg [] W w ∧ InI i66 ∧ lpN (fun s => F_spec_l15Line_l1 a0 s) n i66 = some o125) n128 ⟨0, ha.sub ⟨rfl, rfl, trivial⟩, hE6, (show InI 0 from by decide), hn129⟩ ?_ ?_
  · rintro m133 a w65 ⟨i66, ha, hE68, hI67, hF⟩
    cases m133 with
    | zero => exact (lpN_zero hF).elim
    | succ m133 =>
      obtain ⟨z132, hF, hN131⟩ := lpN_succ hF
      have hF : F_spec_l15Line_l1 a0 i66 = some z132 := hF; unfold F_spec_l15Line_l1 at hF
      refine wp_seq ?_; refine wp_seq ?_; refine wp_region_lit ?_; (iterate 2 refine op_g ha rfl (g_move rfl) ?_; clear ha a; intro a ha); refine op_g ha rfl (g_lenR sl22.und ha0 rfl) ?_; clear ha a; intro a ha; refine op_g ha rfl (g_lss rfl rfl) ?_; clear ha a; intro a ha; refine wpList_nil ?_; replace ha := ha.sub (σ' := [(0, va0), (3, (.int .i64 i66)), (11, (.bool (decide (i66 < (a0.length : Int)))))]) ⟨rfl, rfl, rfl, trivial⟩; refine e_then ?_; refine c_cond (i66 < (a0.length : Int)) ha rfl (decide_eq_true_iff) (fun hp134 => ?_) (fun hp134 => ?_)
      · replace hF := if_t hp134 hF
        refine wp_skip ?_; refine e_then ?_; refine wp_seq ?_; refine wp_block ?_; refine wp_seq ?_; refine d_quiet hmix (by kernel_rfl) ?_; (iterate 2 refine q_g ha rfl (g_move rfl) ?_; clear ha a; intro a ha); obtain ⟨x135, g136, gx137, hF⟩ := idx_some hF
        obtain ⟨p138, cs139, f140, hf141, hpb142, hat143, hr144, hi145⟩ := ha0.at g136 gx137
        obtain ⟨rfl, hI146, rfl⟩ := hr144
        refine q_g ha rfl (hi145.gives sl22 rfl rfl) ?_; clear ha a; intro a ha; refine q_g ha rfl (g_load0 hE68 Tryd.isAgg2 rfl hat143.one) ?_; clear ha a; intro a ha; refine q_g ha rfl (g_move rfl) ?_; clear ha a; intro a ha; refine q_g ha rfl (g_lenR sl22.und ha0 rfl) ?_; clear ha a; intro a ha; obtain ⟨hI147, hF⟩ := ck_some hF; refine q_g ha rfl (g_sub rfl rfl hI147) ?_; clear ha a; intro a ha; obtain ⟨x151, hc152, hF⟩ := cal_some hF; refine q_call (.bool x151) ha rfl rfl Tryd.call30 (fun w150 hx149 => W_spec_l1In hI146 (show InI 0 from by decide) hI147 hc152) (fun _ _ _ h => ⟨h.1, h.2⟩) ?_; clear ha a; intro a ha
        refine q_g ha rfl (g_not rfl) ?_; clear ha a; intro a ha; refine q_g ha rfl (g_move rfl) ?_; clear ha a; intro a ha
        by_cases hp153 : ¬ (x151 = true)
        · replace hF := if_t hp153 hF
          rw [show (!x151) = true from (n_iff (Iff.rfl)).2 hp153] at ha
          (iterate 8 refine q_unwant ha rfl (yields ha rfl rfl) rfl ?_; clear ha a; intro a ha); refine q_g ha rfl (g_pick rfl rfl) ?_; clear ha a; intro a ha
          refine q_nil ?_; intro w154 hx155
          have hE156 := Ext.trans hE68 hx155
          replace ha := ha.sub (σ' := [(0, va0), (3, (.int .i64 i66)), (32, (.bool true))]) ⟨rfl, rfl, rfl, trivial⟩; refine e_then ?_; refine c_true ha rfl ?_; refine wp_seq ?_; refine wp_region_lit ?_; refine op_g ha rfl (g_assign rfl) ?_; clear ha a; intro a ha; refine wpList_nil ?_; replace ha := ha.sub (σ' := [(2, (.bool false))]) ⟨rfl, trivial⟩; refine e_then ?_; refine wp_ret ?_; refine e_blk_ret ?_; refine e_then_ret ?_; refine e_lq_ret ?_; refine e_then_ret ?_; obtain rfl := Option.some.inj hF
          have e157 := LK_inr hN131; subst e157
          have e158 := BK_inr hK127; subst e158
          exact f_ret1 ha rfl rfl ⟨rfl, hE156⟩
        replace hF := if_f hp153 hF
        rw [show (!x151) = false from b_false (n_iff (Iff.rfl)) hp153] at ha
        refine q_want (yields ha rfl rfl) ?_; refine q_g ha rfl (g_move rfl) ?_; clear ha a; intro a ha; refine q_want (yields ha rfl rfl) ?_; refine q_g ha rfl (g_move rfl) ?_; clear ha a; intro a ha; refine q_want (yields ha rfl rfl) ?_; obtain ⟨hb159a, hb159b, hb159c, hF⟩ := slc_some hF
        obtain ⟨v160, fp161, hrun162, hro163, hsub164⟩ := ha0.slice (lo := none) (hi := (some (.int .i64 i66))) (i := 0) (j := i66) sl22 (.inl ⟨rfl, rfl⟩) (.inr ⟨_, rfl⟩) ⟨hb159a, hb159b, hb159c⟩
        refine q_g ha rfl (g_slice sl22.und rfl rfl rfl hrun162) ?_; clear ha a; intro a ha; refine q_want (yields ha rfl rfl) ?_; refine q_g ha rfl (g_move rfl) ?_; clear ha a; intro a ha; refine q_want (yields ha rfl rfl) ?_; refine q_g ha rfl (g_move rfl) ?_; clear ha a; intro a ha; refine q_want (yields ha rfl rfl) ?_; obtain ⟨x166, g167, gx168, hF⟩ := idx_some hF
        obtain ⟨p169, cs170, f171, hf172, hpb173, hat174, hr175, hi176⟩ := ha0.at g167 gx168
        obtain ⟨rfl, hI177, rfl⟩ := hr175
        refine q_g ha rfl (hi176.gives sl22 rfl rfl) ?_; clear ha a; intro a ha; refine q_want (yields ha rfl rfl) ?_; refine q_g ha rfl (g_load0 hE68 Tryd.isAgg2 rfl hat174.one) ?_; clear ha a; intro a ha; refine q_want (yields ha rfl rfl) ?_; obtain ⟨x180, hc181, hF⟩ := cal_some hF; refine q_call (.bool x180) ha rfl rfl Tryd.call31 (fun w179 hx178 => W_spec_l1Has (hro163.ext (Ext.trans hE68 hx178)) hI177 hc181) (fun _ _ _ h => ⟨h.1, h.2⟩) ?_; clear ha a; intro a ha; refine q_g ha rfl (g_pick rfl rfl) ?_; clear ha a; intro a ha
        refine q_nil ?_; intro w182 hx183
        have hE184 := Ext.trans hE68 hx183
        replace ha := ha.sub (σ' := [(0, va0), (3, (.int .i64 i66)), (24, va0), (25, (.int .i64 i66)), (26, v160), (27, va0), (28, (.int .i64 i66)), (29, (.pointer (some p169))), (30, (.int .i64 x166)), (31, (.bool x180)), (32, (.bool x180))]) ⟨rfl, rfl, rfl, rfl, rfl, rfl, rfl, rfl, rfl, rfl, rfl, trivial⟩; refine e_then ?_; refine c_cond (x180 = true) ha rfl (Iff.rfl) (fun hp185 => ?_) (fun hp185 => ?_)
        · replace hF := if_t hp185 hF
          refine wp_seq ?_; refine wp_region_lit ?_; refine op_g ha rfl (g_assign rfl) ?_; clear ha a; intro a ha; refine wpList_nil ?_; replace ha := ha.sub (σ' := [(2, (.bool false))]) ⟨rfl, trivial⟩; refine e_then ?_; refine wp_ret ?_; refine e_blk_ret ?_; refine e_then_ret ?_; refine e_lq_ret ?_; refine e_then_ret ?_; obtain rfl := Option.some.inj hF
          have e186 := LK_inr hN131; subst e186
          have e187 := BK_inr hK127; subst e187
          exact f_ret1 ha rfl rfl ⟨rfl, hE184⟩
        replace hF := if_f hp185 hF; refine wp_skip ?_; refine e_blk ?_; refine e_then ?_; refine wp_region_lit ?_; refine op_g ha rfl (g_move rfl) ?_; clear ha a; intro a ha; obtain ⟨hI188, hF⟩ := ck_some hF; refine op_g ha rfl (g_add rfl rfl hI188) ?_; clear ha a; intro a ha; refine op_g ha rfl (g_assign rfl) ?_; clear ha a; intro a ha; refine wpList_nil ?_; replace ha := ha.sub (σ' := [(0, va0), (3, (.int .i64 (i66 + 1))), (24, va0), (25, (.int .i64 i66)), (26, v160), (27, va0), (28, (.int .i64 i66)), (29, (.pointer (some p169))), (30, (.int .i64 x166)), (31, (.bool x180))]) ⟨rfl, rfl, rfl, rfl, rfl, rfl, rfl, rfl, rfl, rfl, trivial⟩
        refine e_lq ?_; obtain rfl := Option.some.inj hF
        exact ⟨_, Nat.lt_succ_self _, i66 + 1, ha.sub ⟨rfl, rfl, trivial⟩, hE184, hI188, hN131⟩
      replace hF := if_f hp134 hF; refine wp_exit ?_; refine e_then_exit ?_; refine e_lq_eq ?_; obtain rfl := Option.some.inj hF
      exact ⟨ha.sub trivial, hE68, (LK_inr hN131).symm⟩
  rintro a w124 ⟨ha, hE130, rfl⟩
  have hF : F_spec_l15Line_k2 = some _ := hK127; clear hK127; unfold F_spec_l15Line_k2 at hF
  refine e_then ?_; refine wp_seq ?_; refine wp_region_lit ?_; refine op_g ha rfl (g_assign rfl) ?_; clear ha a; intro a ha; refine wpList_nil ?_; refine e_then ?_; refine wp_ret ?_; obtain rfl := Option.some.inj hF
  exact f_ret1 ha rfl rfl ⟨rfl, hE130⟩
set_option maxHeartbeats 2000000 in
theorem W_spec_l15Lines {W : World} {va0 : Value} {fa0 : List Nat} {a0 : (List Int)} (ha0 : Ro Rp.int W fa0 va0 a0) {va1 : Value} {fa1 : List Nat} {a1 : (List Int)} (ha1 : Ro Rp.int W fa1 va1 a1) {r : Bool} (hF : F_spec_l15Lines a0 a1 = some r) :
    Calls Tryd.prog 15 [va0, va1].toArray W (Ret fun u w' => u = .bool r ∧ Ext W w') := by
  refine f_enter Tryd.func15 rfl Tryd.ntmps15 rfl ?_
  intro a ha
  replace ha : Fr 18 [(0, va0), (1, va1)] a := ha
  have hE : Chg [] W W := Chg.refl _ _
  unfold F_spec_l15Lines at hF
  refine wp_seq ?_; refine wp_region_lit ?_; refine op_g ha rfl (g_assign rfl) ?_; clear ha a; intro a ha; refine wpList_nil ?_; replace ha := ha.sub (σ' := [(0, va0), (1, va1)]) ⟨rfl, rfl, trivial⟩; refine e_then ?_; refine wp_seq ?_; refine wp_region_lit ?_; refine op_g ha rfl (g_move rfl) ?_; clear ha a; intro a ha; obtain ⟨x1, hc2, hF⟩ := cal_some hF
  refine o_call ha rfl rfl Tryd.call23 (W_spec_l15Line (ha0.ext hE) hc2) ?_; clear ha a; rintro v3 w4 ⟨rfl, hx5⟩ a ha
  have hE6 := Ext.trans hE hx5
  refine op_g ha rfl (g_move rfl) ?_; clear ha a; intro a ha
  by_cases hp7 : x1 = true
  · replace hF := if_t hp7 hF
    rw [show (x1) = true from (Iff.rfl).2 hp7] at ha
    refine op_want (yields ha rfl rfl) ?_; refine op_g ha rfl (g_move rfl) ?_; clear ha a; intro a ha; refine op_want (yields ha rfl rfl) ?_; obtain ⟨x8, hc9, hF⟩ := cal_some hF
    refine o_call ha rfl rfl Tryd.call23 (W_spec_l15Line (ha1.ext hE6) hc9) ?_; clear ha a; rintro v10 w11 ⟨rfl, hx12⟩ a ha
    have hE13 := Ext.trans hE6 hx12
    refine op_g ha rfl (g_pick rfl rfl) ?_; clear ha a; intro a ha; refine op_g ha rfl (g_move rfl) ?_; clear ha a; intro a ha
    by_cases hp14 : x8 = true
    · replace hF := if_t hp14 hF
      rw [show (x8) = true from (Iff.rfl).2 hp14] at ha
      refine op_want (yields ha rfl rfl) ?_; refine op_g ha rfl (g_move rfl) ?_; clear ha a; intro a ha; refine op_want (yields ha rfl rfl) ?_; refine op_g ha rfl (g_lenR sl22.und ha0 rfl) ?_; clear ha a; intro a ha; refine op_want (yields ha rfl rfl) ?_; refine op_g ha rfl (g_move rfl) ?_; clear ha a; intro a ha; refine op_want (yields ha rfl rfl) ?_; refine op_g ha rfl (g_lenR sl22.und ha1 rfl) ?_; clear ha a; intro a ha; refine op_want (yields ha rfl rfl) ?_; refine op_g ha rfl (g_eql rfl rfl) ?_; clear ha a; intro a ha; refine op_g ha rfl (g_pick rfl rfl) ?_; clear ha a; intro a ha; refine op_g ha rfl (g_assign rfl) ?_; clear ha a; intro a ha
      refine wpList_nil ?_; replace ha := ha.sub (σ' := [(4, (.bool (decide ((a0.length : Int) = (a1.length : Int)))))]) ⟨rfl, trivial⟩; refine e_then ?_; refine wp_ret ?_; obtain rfl := Option.some.inj hF
      exact f_ret1 ha rfl rfl ⟨rfl, hE13⟩
    replace hF := if_f hp14 hF
    rw [show (x8) = false from b_false (Iff.rfl) hp14] at ha
    (iterate 5 refine op_unwant ha rfl (yields ha rfl rfl) rfl ?_; clear ha a; intro a ha); refine op_g ha rfl (g_pick rfl rfl) ?_; clear ha a; intro a ha; refine op_g ha rfl (g_assign rfl) ?_; clear ha a; intro a ha; refine wpList_nil ?_; replace ha := ha.sub (σ' := [(4, (.bool false))]) ⟨rfl, trivial⟩; refine e_then ?_; refine wp_ret ?_; obtain rfl := Option.some.inj hF
    exact f_ret1 ha rfl rfl ⟨rfl, hE13⟩
  replace hF := if_f hp7 hF
  rw [show (x1) = false from b_false (Iff.rfl) hp7] at ha
  (iterate 2 refine op_unwant ha rfl (yields ha rfl rfl) rfl ?_; clear ha a; intro a ha); refine op_g ha rfl (g_pick rfl rfl) ?_; clear ha a; intro a ha; refine op_g ha rfl (g_move rfl) ?_; clear ha a; intro a ha; (iterate 5 refine op_unwant ha rfl (yields ha rfl rfl) rfl ?_; clear ha a; intro a ha); refine op_g ha rfl (g_pick rfl rfl) ?_; clear ha a; intro a ha; refine op_g ha rfl (g_assign rfl) ?_; clear ha a; intro a ha; refine wpList_nil ?_; replace ha := ha.sub (σ' := [(4, (.bool false))]) ⟨rfl, trivial⟩; refine e_then ?_; refine wp_ret ?_; obtain rfl := Option.some.inj hF
  exact f_ret1 ha rfl rfl ⟨rfl, hE6⟩
set_option maxHeartbeats 2000000 in
theorem W_spec_l15Place {W : World} {va0 : Value} {fa0 : List Nat} {a0 : (List Int)} (ha0 : Ro Rp.int W fa0 va0 a0) {a1 : Int} (ha1 : InI a1) {r : Int} (hF : F_spec_l15Place a0 a1 = some r) :
    Calls Tryd.prog 32 [va0, .int .i64 a1].toArray W (Ret fun u w' => (u = .int .i64 r ∧ InI r) ∧ Ext W w') := by
  refine f_enter Tryd.func32 rfl Tryd.ntmps32 rfl ?_
  intro a ha
  replace ha : Fr 19 [(0, va0), (1, (.int .i64 a1))] a := ha
  have hE : Chg [] W W := Chg.refl _ _
  unfold F_spec_l15Place at hF
  refine wp_seq ?_; refine wp_region_lit ?_; refine op_g ha rfl (g_assign rfl) ?_; clear ha a; intro a ha; refine wpList_nil ?_; replace ha := ha.sub (σ' := [(0, va0), (1, (.int .i64 a1))]) ⟨rfl, rfl, trivial⟩; refine e_then ?_; refine wp_seq ?_; refine wp_seq ?_; refine wp_region_lit ?_; refine op_g ha rfl (g_assign rfl) ?_; clear ha a; intro a ha; refine wpList_nil ?_; refine e_then ?_; obtain ⟨o46, ho47, hK48⟩ := bnd_some hF
  obtain ⟨n49, hn50⟩ := lp_some ho47; clear ho47
  refine c_loop (fun a w => Fr 19 [] a ∧ Chg [] W w ∧ o46 = .inl ()) (fun n a w => ∃ (i23 : Int), Fr 19 [(0, va0), (1, (.int .i64 a1)), (5, (.int .i64 i23))] a ∧ Chg [] W w ∧ InI i23 ∧ lpN (fun s => F_spec_l15Place_l1 a0 a1 s) n i23 = some o46) n49 ⟨0, ha.sub ⟨rfl, rfl, rfl, trivial⟩, hE, (show InI 0 from by decide), hn50⟩ ?_ ?_
  · rintro m54 a w22 ⟨i23, ha, hE25, hI24, hF⟩
    cases m54 with
    | zero => exact (lpN_zero hF).elim
    | succ m54 =>
      obtain ⟨z53, hF, hN52⟩ := lpN_succ hF
      have hF : F_spec_l15Place_l1 a0 a1 i23 = some z53 := hF; unfold F_spec_l15Place_l1 at hF
      refine wp_seq ?_; refine wp_seq ?_; refine wp_region_lit ?_; (iterate 2 refine op_g ha rfl (g_move rfl) ?_; clear ha a; intro a ha); refine op_g ha rfl (g_lenR sl22.und ha0 rfl) ?_; clear ha a; intro a ha; refine op_g ha rfl (g_lss rfl rfl) ?_; clear ha a; intro a ha; refine wpList_nil ?_; replace ha := ha.sub (σ' := [(0, va0), (1, (.int .i64 a1)), (5, (.int .i64 i23)), (9, (.bool (decide (i23 < (a0.length : Int)))))]) ⟨rfl, rfl, rfl, rfl, trivial⟩; refine e_then ?_; refine c_cond (i23 < (a0.length : Int)) ha rfl (decide_eq_true_iff) (fun hp55 => ?_) (fun hp55 => ?_)
      · replace hF := if_t hp55 hF
        refine wp_skip ?_; refine e_then ?_; refine wp_seq ?_; refine wp_block ?_; refine wp_seq ?_; refine wp_region_lit ?_; (iterate 2 refine op_g ha rfl (g_move rfl) ?_; clear ha a; intro a ha); obtain ⟨x56, g57, gx58, hF⟩ := idx_some hF
        obtain ⟨p59, cs60, f61, hf62, hpb63, hat64, hr65, hi66⟩ := ha0.at g57 gx58
        obtain ⟨rfl, hI67, rfl⟩ := hr65
        refine op_g ha rfl (hi66.gives sl22 rfl rfl) ?_; clear ha a; intro a ha; refine op_g ha rfl (g_load0 hE25 Tryd.isAgg2 rfl hat64.one) ?_; clear ha a; intro a ha; refine op_g ha rfl (g_move rfl) ?_; clear ha a; intro a ha; refine op_g ha rfl (g_eql rfl rfl) ?_; clear ha a; intro a ha; refine wpList_nil ?_; replace ha := ha.sub (σ' := [(0, va0), (1, (.int .i64 a1)), (5, (.int .i64 i23)), (17, (.bool (decide (x56 = a1))))]) ⟨rfl, rfl, rfl, rfl, trivial⟩; refine e_then ?_; refine c_cond (x56 = a1) ha rfl (decide_eq_true_iff) (fun hp68 => ?_) (fun hp68 => ?_)
        · replace hF := if_t hp68 hF
          refine wp_seq ?_; refine wp_region_lit ?_; refine op_g ha rfl (g_move rfl) ?_; clear ha a; intro a ha; refine op_g ha rfl (g_assign rfl) ?_; clear ha a; intro a ha; refine wpList_nil ?_; replace ha := ha.sub (σ' := [(4, (.int .i64 i23))]) ⟨rfl, trivial⟩; refine e_then ?_; refine wp_ret ?_; refine e_blk_ret ?_; refine e_then_ret ?_; refine e_lq_ret ?_; refine e_then_ret ?_; obtain rfl := Option.some.inj hF
          have e69 := LK_inr hN52; subst e69
          have e70 := BK_inr hK48; subst e70
          exact f_ret1 ha rfl rfl ⟨⟨rfl, hI24⟩, hE25⟩
        replace hF := if_f hp68 hF; refine wp_skip ?_; refine e_blk ?_; refine e_then ?_; refine wp_region_lit ?_; refine op_g ha rfl (g_move rfl) ?_; clear ha a; intro a ha; obtain ⟨hI71, hF⟩ := ck_some hF; refine op_g ha rfl (g_add rfl rfl hI71) ?_; clear ha a; intro a ha; refine op_g ha rfl (g_assign rfl) ?_; clear ha a; intro a ha; refine wpList_nil ?_; replace ha := ha.sub (σ' := [(0, va0), (1, (.int .i64 a1)), (5, (.int .i64 (i23 + 1)))]) ⟨rfl, rfl, rfl, trivial⟩; refine e_lq ?_; obtain rfl := Option.some.inj hF
        exact ⟨_, Nat.lt_succ_self _, i23 + 1, ha.sub ⟨rfl, rfl, rfl, trivial⟩, hE25, hI71, hN52⟩
      replace hF := if_f hp55 hF; refine wp_exit ?_; refine e_then_exit ?_; refine e_lq_eq ?_; obtain rfl := Option.some.inj hF
      exact ⟨ha.sub trivial, hE25, (LK_inr hN52).symm⟩
  rintro a w45 ⟨ha, hE51, rfl⟩
  have hF : F_spec_l15Place_k2 = some _ := hK48; clear hK48; unfold F_spec_l15Place_k2 at hF
  refine e_then ?_; refine wp_seq ?_; refine wp_region_lit ?_; refine op_g ha rfl (g_assign rfl) ?_; clear ha a; intro a ha; refine wpList_nil ?_; refine e_then ?_; refine wp_ret ?_; obtain rfl := Option.some.inj hF
  exact f_ret1 ha rfl rfl ⟨⟨rfl, (show InI (-1) from by decide)⟩, hE51⟩
set_option maxHeartbeats 2000000 in
theorem W_spec_l15Cross {W : World} {va0 : Value} {fa0 : List Nat} {a0 : (List Int)} (ha0 : Ro Rp.int W fa0 va0 a0) {va1 : Value} {fa1 : List Nat} {a1 : (List Int)} (ha1 : Ro Rp.int W fa1 va1 a1) {a2 : Int} (ha2 : InI a2) {a3 : Int} (ha3 : InI a3) {r : Bool} (hF : F_spec_l15Cross a0 a1 a2 a3 = some r) :
    Calls Tryd.prog 24 [va0, va1, .int .i64 a2, .int .i64 a3].toArray W (Ret fun u w' => u = .bool r ∧ Ext W w') := by
  refine f_enter Tryd.func24 rfl Tryd.ntmps24 rfl ?_
  intro a ha
  replace ha : Fr 29 [(0, va0), (1, va1), (2, (.int .i64 a2)), (3, (.int .i64 a3))] a := ha
  have hE : Chg [] W W := Chg.refl _ _
  unfold F_spec_l15Cross at hF
  refine wp_seq ?_; refine wp_region_lit ?_; refine op_g ha rfl (g_assign rfl) ?_; clear ha a; intro a ha; refine wpList_nil ?_; replace ha := ha.sub (σ' := [(0, va0), (1, va1), (2, (.int .i64 a2)), (3, (.int .i64 a3))]) ⟨rfl, rfl, rfl, rfl, trivial⟩; refine e_then ?_; refine wp_seq ?_; refine wp_region_lit ?_; (iterate 2 refine op_g ha rfl (g_move rfl) ?_; clear ha a; intro a ha); refine op_g ha rfl (g_neq rfl rfl) ?_; clear ha a; intro a ha; refine op_g ha rfl (g_move rfl) ?_; clear ha a; intro a ha
  by_cases hp1 : a2 ≠ a3
  · replace hF := if_t hp1 hF
    rw [show (decide (a2 ≠ a3)) = true from (decide_eq_true_iff).2 hp1] at ha
    refine op_want (yields ha rfl rfl) ?_; refine op_g ha rfl (g_move rfl) ?_; clear ha a; intro a ha; refine op_want (yields ha rfl rfl) ?_; refine op_g ha rfl (g_move rfl) ?_; clear ha a; intro a ha; refine op_want (yields ha rfl rfl) ?_; obtain ⟨x2, hc3, hF⟩ := cal_some hF
    refine o_call ha rfl rfl Tryd.call32 (W_spec_l15Place (ha0.ext hE) ha2 hc3) ?_; clear ha a; rintro v4 w5 ⟨⟨rfl, hI7⟩, hx6⟩ a ha
    have hE8 := Ext.trans hE hx6
    refine op_want (yields ha rfl rfl) ?_; refine op_g ha rfl (g_move rfl) ?_; clear ha a; intro a ha; refine op_want (yields ha rfl rfl) ?_; refine op_g ha rfl (g_move rfl) ?_; clear ha a; intro a ha; refine op_want (yields ha rfl rfl) ?_; obtain ⟨x9, hc10, hF⟩ := cal_some hF
    refine o_call ha rfl rfl Tryd.call32 (W_spec_l15Place (ha0.ext hE8) ha3 hc10) ?_; clear ha a; rintro v11 w12 ⟨⟨rfl, hI14⟩, hx13⟩ a ha
    have hE15 := Ext.trans hE8 hx13
    refine op_want (yields ha rfl rfl) ?_; refine op_g ha rfl (g_lss rfl rfl) ?_; clear ha a; intro a ha; refine op_want (yields ha rfl rfl) ?_; refine op_g ha rfl (g_move rfl) ?_; clear ha a; intro a ha; refine op_want (yields ha rfl rfl) ?_; refine op_g ha rfl (g_move rfl) ?_; clear ha a; intro a ha; refine op_want (yields ha rfl rfl) ?_; obtain ⟨x16, hc17, hF⟩ := cal_some hF
    refine o_call ha rfl rfl Tryd.call32 (W_spec_l15Place (ha1.ext hE15) ha2 hc17) ?_; clear ha a; rintro v18 w19 ⟨⟨rfl, hI21⟩, hx20⟩ a ha
    have hE22 := Ext.trans hE15 hx20
    refine op_want (yields ha rfl rfl) ?_; refine op_g ha rfl (g_move rfl) ?_; clear ha a; intro a ha; refine op_want (yields ha rfl rfl) ?_; refine op_g ha rfl (g_move rfl) ?_; clear ha a; intro a ha; refine op_want (yields ha rfl rfl) ?_; obtain ⟨x23, hc24, hF⟩ := cal_some hF
    refine o_call ha rfl rfl Tryd.call32 (W_spec_l15Place (ha1.ext hE22) ha3 hc24) ?_; clear ha a; rintro v25 w26 ⟨⟨rfl, hI28⟩, hx27⟩ a ha
    have hE29 := Ext.trans hE22 hx27
    refine op_want (yields ha rfl rfl) ?_; refine op_g ha rfl (g_lss rfl rfl) ?_; clear ha a; intro a ha; refine op_want (yields ha rfl rfl) ?_; refine op_g ha rfl (gB_neq un4 rfl rfl) ?_; clear ha a; intro a ha; refine op_g ha rfl (g_pick rfl rfl) ?_; clear ha a; intro a ha; refine op_g ha rfl (g_assign rfl) ?_; clear ha a; intro a ha; refine wpList_nil ?_; replace ha := ha.sub (σ' := [(8, (.bool ((decide (x2 < x9)) != (decide (x16 < x23)))))]) ⟨rfl, trivial⟩; refine e_then ?_; refine wp_ret ?_; obtain rfl := Option.some.inj hF
    exact f_ret1 ha rfl rfl ⟨rfl, hE29⟩
  replace hF := if_f hp1 hF
  rw [show (decide (a2 ≠ a3)) = false from b_false (decide_eq_true_iff) hp1] at ha
  (iterate 15 refine op_unwant ha rfl (yields ha rfl rfl) rfl ?_; clear ha a; intro a ha); refine op_g ha rfl (g_pick rfl rfl) ?_; clear ha a; intro a ha; refine op_g ha rfl (g_assign rfl) ?_; clear ha a; intro a ha; refine wpList_nil ?_; replace ha := ha.sub (σ' := [(8, (.bool false))]) ⟨rfl, trivial⟩; refine e_then ?_; refine wp_ret ?_; obtain rfl := Option.some.inj hF
  exact f_ret1 ha rfl rfl ⟨rfl, hE⟩
set_option maxHeartbeats 2000000 in
theorem W_spec_l1Less {W : World} {va0 : Value} {fa0 : List Nat} {a0 : (List Int)} (ha0 : Ro Rp.int W fa0 va0 a0) {va1 : Value} {fa1 : List Nat} {a1 : (List Int)} (ha1 : Ro Rp.int W fa1 va1 a1) {r : Bool} (hF : F_spec_l1Less a0 a1 = some r) :
    Calls Tryd.prog 17 [va0, va1].toArray W (Ret fun u w' => u = .bool r ∧ Ext W w') := by
  refine f_enter Tryd.func17 rfl Tryd.ntmps17 rfl ?_
  intro a ha
  replace ha : Fr 40 [(0, va0), (1, va1)] a := ha
  have hE : Chg [] W W := Chg.refl _ _
  unfold F_spec_l1Less at hF
  refine wp_seq ?_; refine wp_region_lit ?_; refine op_g ha rfl (g_assign rfl) ?_; clear ha a; intro a ha; refine wpList_nil ?_; replace ha := ha.sub (σ' := [(0, va0), (1, va1)]) ⟨rfl, rfl, trivial⟩; refine e_then ?_; refine wp_seq ?_; refine wp_seq ?_; refine wp_region_lit ?_; refine op_g ha rfl (g_move rfl) ?_; clear ha a; intro a ha; refine op_g ha rfl (g_lenR sl22.und ha0 rfl) ?_; clear ha a; intro a ha; refine op_g ha rfl (g_move rfl) ?_; clear ha a; intro a ha; refine op_g ha rfl (g_lenR sl22.und ha1 rfl) ?_; clear ha a; intro a ha; refine op_g ha rfl (g_neq rfl rfl) ?_; clear ha a; intro a ha
  refine wpList_nil ?_; replace ha := ha.sub (σ' := [(0, va0), (1, va1), (10, (.bool (decide ((a0.length : Int) ≠ (a1.length : Int)))))]) ⟨rfl, rfl, rfl, trivial⟩; refine e_then ?_; refine c_cond ((a0.length : Int) ≠ (a1.length : Int)) ha rfl (decide_eq_true_iff) (fun hp1 => ?_) (fun hp1 => ?_)
  · replace hF := if_t hp1 hF
    refine wp_seq ?_; refine wp_region_lit ?_; refine op_g ha rfl (g_move rfl) ?_; clear ha a; intro a ha; refine op_g ha rfl (g_lenR sl22.und ha0 rfl) ?_; clear ha a; intro a ha; refine op_g ha rfl (g_move rfl) ?_; clear ha a; intro a ha; refine op_g ha rfl (g_lenR sl22.und ha1 rfl) ?_; clear ha a; intro a ha; refine op_g ha rfl (g_lss rfl rfl) ?_; clear ha a; intro a ha; refine op_g ha rfl (g_assign rfl) ?_; clear ha a; intro a ha; refine wpList_nil ?_; replace ha := ha.sub (σ' := [(4, (.bool (decide ((a0.length : Int) < (a1.length : Int)))))]) ⟨rfl, trivial⟩; refine e_then ?_; refine wp_ret ?_
    refine e_then_ret ?_; obtain rfl := Option.some.inj hF
    exact f_ret1 ha rfl rfl ⟨rfl, hE⟩
  replace hF := if_f hp1 hF; refine wp_skip ?_; refine e_then ?_; refine wp_seq ?_; refine wp_seq ?_; refine wp_region_lit ?_; refine op_g ha rfl (g_assign rfl) ?_; clear ha a; intro a ha; refine wpList_nil ?_; replace ha := ha.sub (σ' := [(0, va0), (1, va1), (5, (.int .i64 0))]) ⟨rfl, rfl, rfl, trivial⟩; refine e_then ?_; obtain ⟨o131, ho132, hK133⟩ := bnd_some hF
  obtain ⟨n134, hn135⟩ := lp_some ho132; clear ho132
  refine c_loop (fun a w => Fr 40 [] a ∧ Chg [] W w ∧ o131 = .inl ()) (fun n a w => ∃ (i66 : Int), Fr 40 [(0, va0), (1, va1), (5, (.int .i64 i66))] a ∧ Chg [] W w ∧ InI i66 ∧ lpN (fun s => F_spec_l1Less_l1 a0 a1 s) n i66 = some o131) n134 ⟨0, ha.sub ⟨rfl, rfl, rfl, trivial⟩, hE, (show InI 0 from by decide), hn135⟩ ?_ ?_
  · rintro m139 a w65 ⟨i66, ha, hE68, hI67, hF⟩
    cases m139 with
    | zero => exact (lpN_zero hF).elim
    | succ m139 =>
      obtain ⟨z138, hF, hN137⟩ := lpN_succ hF
      have hF : F_spec_l1Less_l1 a0 a1 i66 = some z138 := hF; unfold F_spec_l1Less_l1 at hF
      refine wp_seq ?_; refine wp_seq ?_; refine wp_region_lit ?_; (iterate 2 refine op_g ha rfl (g_move rfl) ?_; clear ha a; intro a ha); refine op_g ha rfl (g_lenR sl22.und ha0 rfl) ?_; clear ha a; intro a ha; refine op_g ha rfl (g_lss rfl rfl) ?_; clear ha a; intro a ha; refine wpList_nil ?_; replace ha := ha.sub (σ' := [(0, va0), (1, va1), (5, (.int .i64 i66)), (19, (.bool (decide (i66 < (a0.length : Int)))))]) ⟨rfl, rfl, rfl, rfl, trivial⟩; refine e_then ?_; refine c_cond (i66 < (a0.length : Int)) ha rfl (decide_eq_true_iff) (fun hp140 => ?_) (fun hp140 => ?_)
      · replace hF := if_t hp140 hF
        refine wp_skip ?_; refine e_then ?_; refine wp_seq ?_; refine wp_block ?_; refine wp_seq ?_; refine d_quiet hmix (by kernel_rfl) ?_; (iterate 2 refine q_g ha rfl (g_move rfl) ?_; clear ha a; intro a ha); obtain ⟨x141, g142, gx143, hF⟩ := idx_some hF
        obtain ⟨p144, cs145, f146, hf147, hpb148, hat149, hr150, hi151⟩ := ha0.at g142 gx143
        obtain ⟨rfl, hI152, rfl⟩ := hr150
        refine q_g ha rfl (hi151.gives sl22 rfl rfl) ?_; clear ha a; intro a ha; refine q_g ha rfl (g_load0 hE68 Tryd.isAgg2 rfl hat149.one) ?_; clear ha a; intro a ha; (iterate 2 refine q_g ha rfl (g_move rfl) ?_; clear ha a; intro a ha); obtain ⟨x153, g154, gx155, hF⟩ := idx_some hF
        obtain ⟨p156, cs157, f158, hf159, hpb160, hat161, hr162, hi163⟩ := ha1.at g154 gx155
        obtain ⟨rfl, hI164, rfl⟩ := hr162
        refine q_g ha rfl (hi163.gives sl22 rfl rfl) ?_; clear ha a; intro a ha; refine q_g ha rfl (g_load0 hE68 Tryd.isAgg2 rfl hat161.one) ?_; clear ha a; intro a ha; refine q_g ha rfl (g_neq rfl rfl) ?_; clear ha a; intro a ha
        refine q_nil ?_; intro w165 hx166
        have hE167 := Ext.trans hE68 hx166
        replace ha := ha.sub (σ' := [(0, va0), (1, va1), (5, (.int .i64 i66)), (30, (.bool (decide (x141 ≠ x153))))]) ⟨rfl, rfl, rfl, rfl, trivial⟩; refine e_then ?_; refine c_cond (x141 ≠ x153) ha rfl (decide_eq_true_iff) (fun hp168 => ?_) (fun hp168 => ?_)
        · replace hF := if_t hp168 hF
          refine wp_seq ?_; refine d_quiet hmix (by kernel_rfl) ?_; (iterate 2 refine q_g ha rfl (g_move rfl) ?_; clear ha a; intro a ha); obtain ⟨x169, g170, gx171, hF⟩ := idx_some hF
          obtain ⟨p172, cs173, f174, hf175, hpb176, hat177, hr178, hi179⟩ := ha0.at g170 gx171
          obtain ⟨rfl, hI180, rfl⟩ := hr178
          refine q_g ha rfl (hi179.gives sl22 rfl rfl) ?_; clear ha a; intro a ha; refine q_g ha rfl (g_load0 hE167 Tryd.isAgg2 rfl hat177.one) ?_; clear ha a; intro a ha; (iterate 2 refine q_g ha rfl (g_move rfl) ?_; clear ha a; intro a ha); obtain ⟨x181, g182, gx183, hF⟩ := idx_some hF
          obtain ⟨p184, cs185, f186, hf187, hpb188, hat189, hr190, hi191⟩ := ha1.at g182 gx183
          obtain ⟨rfl, hI192, rfl⟩ := hr190
          refine q_g ha rfl (hi191.gives sl22 rfl rfl) ?_; clear ha a; intro a ha; refine q_g ha rfl (g_load0 hE167 Tryd.isAgg2 rfl hat189.one) ?_; clear ha a; intro a ha; refine q_g ha rfl (g_lss rfl rfl) ?_; clear ha a; intro a ha; refine q_g ha rfl (g_assign rfl) ?_; clear ha a; intro a ha
          refine q_nil ?_; intro w193 hx194
          have hE195 := Ext.trans hE167 hx194
          replace ha := ha.sub (σ' := [(4, (.bool (decide (x169 < x181))))]) ⟨rfl, trivial⟩; refine e_then ?_; refine wp_ret ?_; refine e_blk_ret ?_; refine e_then_ret ?_; refine e_lq_ret ?_; refine e_then_ret ?_; obtain rfl := Option.some.inj hF
          have e196 := LK_inr hN137; subst e196
          have e197 := BK_inr hK133; subst e197
          exact f_ret1 ha rfl rfl ⟨rfl, hE195⟩
        replace hF := if_f hp168 hF; refine wp_skip ?_; refine e_blk ?_; refine e_then ?_; refine wp_region_lit ?_; refine op_g ha rfl (g_move rfl) ?_; clear ha a; intro a ha; obtain ⟨hI198, hF⟩ := ck_some hF; refine op_g ha rfl (g_add rfl rfl hI198) ?_; clear ha a; intro a ha; refine op_g ha rfl (g_assign rfl) ?_; clear ha a; intro a ha; refine wpList_nil ?_; replace ha := ha.sub (σ' := [(0, va0), (1, va1), (5, (.int .i64 (i66 + 1)))]) ⟨rfl, rfl, rfl, trivial⟩; refine e_lq ?_; obtain rfl := Option.some.inj hF
        exact ⟨_, Nat.lt_succ_self _, i66 + 1, ha.sub ⟨rfl, rfl, rfl, trivial⟩, hE167, hI198, hN137⟩
      replace hF := if_f hp140 hF; refine wp_exit ?_; refine e_then_exit ?_; refine e_lq_eq ?_; obtain rfl := Option.some.inj hF
      exact ⟨ha.sub trivial, hE68, (LK_inr hN137).symm⟩
  rintro a w130 ⟨ha, hE136, rfl⟩
  have hF : F_spec_l1Less_k2 = some _ := hK133; clear hK133; unfold F_spec_l1Less_k2 at hF
  refine e_then ?_; refine wp_seq ?_; refine wp_region_lit ?_; refine op_g ha rfl (g_assign rfl) ?_; clear ha a; intro a ha; refine wpList_nil ?_; refine e_then ?_; refine wp_ret ?_; obtain rfl := Option.some.inj hF
  exact f_ret1 ha rfl rfl ⟨rfl, hE136⟩
set_option maxHeartbeats 2000000 in
theorem W_spec_l15Long_step {rc : (List Int) → (List Int) → Int → Bool → Option (List Int)} (ih : ∀ {W : World} {va0 : Value} {fa0 : List Nat} {a0 : (List Int)} (ha0 : Ro Rp.int W fa0 va0 a0) {va1 : Value} {fa1 : List Nat} {a1 : (List Int)} (ha1 : Ro Rp.int W fa1 va1 a1) {a2 : Int} (ha2 : InI a2) {a3 : Bool} {r : (List Int)} (hF : rc a0 a1 a2 a3 = some r),
    Calls Tryd.prog 16 [va0, va1, .int .i64 a2, .bool a3].toArray W (Ret fun u w' => ∃ (b_u : Int), Ow Rp.int 2 true w' [] b_u u r ∧ Zn W b_u ∧ Ext W w')) {W : World} {va0 : Value} {fa0 : List Nat} {a0 : (List Int)} (ha0 : Ro Rp.int W fa0 va0 a0) {va1 : Value} {fa1 : List Nat} {a1 : (List Int)} (ha1 : Ro Rp.int W fa1 va1 a1) {a2 : Int} (ha2 : InI a2) {a3 : Bool} {r : (List Int)} (hF : F_spec_l15Long_body rc a0 a1 a2 a3 = some r) :
    Calls Tryd.prog 16 [va0, va1, .int .i64 a2, .bool a3].toArray W (Ret fun u w' => ∃ (b_u : Int), Ow Rp.int 2 true w' [] b_u u r ∧ Zn W b_u ∧ Ext W w') := by
  refine f_enter Tryd.func16 rfl Tryd.ntmps16 rfl ?_
  intro a ha
  replace ha : Fr 64 [(0, va0), (1, va1), (2, (.int .i64 a2)), (3, (.bool a3))] a := ha
  have hE : Chg [] W W := Chg.refl _ _
  unfold F_spec_l15Long_body at hF
  refine wp_seq ?_; refine wp_region_lit ?_; refine op_g ha rfl (g_assign rfl) ?_; clear ha a; intro a ha; refine wpList_nil ?_; replace ha := ha.sub (σ' := [(0, va0), (1, va1), (2, (.int .i64 a2)), (3, (.bool a3))]) ⟨rfl, rfl, rfl, rfl, trivial⟩; refine e_then ?_; refine wp_seq ?_; refine wp_region_lit ?_
  refine o_lit0 Rp.int ha rfl sl22 ?_; clear ha a; intro v1 w2 h3 hx4 a ha
  obtain ⟨b6, hb6⟩ : ∃ b : Int, b = W.heap.size := ⟨_, rfl⟩; rw [← hb6] at h3
  have q7 := zn_of hb6
  have q8 := Zn.upD q7 hE
  have hE9 := Ext.trans hE hx4
  refine op_g ha rfl (g_assign rfl) ?_; clear ha a; intro a ha; refine wpList_nil ?_; replace ha := ha.sub (σ' := [(0, va0), (1, va1), (2, (.int .i64 a2)), (3, (.bool a3)), (9, v1)]) ⟨rfl, rfl, rfl, rfl, rfl, trivial⟩; refine e_then ?_; refine wp_seq ?_; refine wp_seq ?_; refine wp_region_lit ?_; refine op_g ha rfl (g_move rfl) ?_; clear ha a; intro a ha; obtain ⟨hI10, hF⟩ := ck_some hF; refine op_g ha rfl (g_add rfl rfl hI10) ?_; clear ha a; intro a ha; refine op_g ha rfl (g_assign rfl) ?_; clear ha a; intro a ha; refine wpList_nil ?_; replace ha := ha.sub (σ' := [(0, va0), (1, va1), (2, (.int .i64 a2)), (3, (.bool a3)), (9, v1), (10, (.int .i64 (a2 + 1)))]) ⟨rfl, rfl, rfl, rfl, rfl, rfl, trivial⟩
  refine e_then ?_; obtain ⟨o194, ho195, hK196⟩ := bnd_some hF
  obtain ⟨n197, hn198⟩ := lp_some ho195; clear ho195
  refine c_loop (fun a w => ∃ (l191 : (List Int)) (v192 : Value) (b193 : Int), Fr 64 [(0, va0), (2, (.int .i64 a2)), (9, v192)] a ∧ Chg [] W w ∧ Ow Rp.int 2 true w [] b193 v192 l191 ∧ Zn W b193 ∧ o194 = .inl l191) (fun n a w => ∃ (l101 : (List Int)) (i104 : Int) (v102 : Value) (b103 : Int), Fr 64 [(0, va0), (1, va1), (2, (.int .i64 a2)), (3, (.bool a3)), (9, v102), (10, (.int .i64 i104))] a ∧ Chg [] W w ∧ InI i104 ∧ Ow Rp.int 2 true w [] b103 v102 l101 ∧ Zn W b103 ∧ lpN (fun s => F_spec_l15Long_l1 a0 a1 a2 a3 rc s.1 s.2) n (l101, i104) = some o194) n197 ⟨([] : (List Int)), a2 + 1, v1, b6, ha.sub ⟨rfl, rfl, rfl, rfl, rfl, rfl, trivial⟩, hE9, hI10, h3, q8, hn198⟩ ?_ ?_
  · rintro m202 a w97 ⟨l101, i104, v102, b103, ha, hE106, hI105, h99, z100, hF⟩
    cases m202 with
    | zero => exact (lpN_zero hF).elim
    | succ m202 =>
      obtain ⟨z201, hF, hN200⟩ := lpN_succ hF
      have hF : F_spec_l15Long_l1 a0 a1 a2 a3 rc l101 i104 = some z201 := hF; unfold F_spec_l15Long_l1 at hF
      refine wp_seq ?_; refine wp_seq ?_; refine wp_region_lit ?_; (iterate 2 refine op_g ha rfl (g_move rfl) ?_; clear ha a; intro a ha); refine op_g ha rfl (g_lenR sl22.und ha0 rfl) ?_; clear ha a; intro a ha; refine op_g ha rfl (g_lss rfl rfl) ?_; clear ha a; intro a ha; refine wpList_nil ?_; replace ha := ha.sub (σ' := [(0, va0), (1, va1), (2, (.int .i64 a2)), (3, (.bool a3)), (9, v102), (10, (.int .i64 i104)), (18, (.bool (decide (i104 < (a0.length : Int)))))]) ⟨rfl, rfl, rfl, rfl, rfl, rfl, rfl, trivial⟩; refine e_then ?_; refine c_cond (i104 < (a0.length : Int)) ha rfl (decide_eq_true_iff) (fun hp203 => ?_) (fun hp203 => ?_)
      · replace hF := if_t hp203 hF
        refine wp_skip ?_; refine e_then ?_; refine wp_seq ?_; refine wp_block ?_; refine wp_seq ?_; refine wp_seq ?_; refine d_quiet hmix (by kernel_rfl) ?_; (iterate 4 refine q_g ha rfl (g_move rfl) ?_; clear ha a; intro a ha); obtain ⟨x204, g205, gx206, hF⟩ := idx_some hF
        obtain ⟨p207, cs208, f209, hf210, hpb211, hat212, hr213, hi214⟩ := ha0.at g205 gx206
        obtain ⟨rfl, hI215, rfl⟩ := hr213
        refine q_g ha rfl (hi214.gives sl22 rfl rfl) ?_; clear ha a; intro a ha; refine q_g ha rfl (g_load0 hE106 Tryd.isAgg2 rfl hat212.one) ?_; clear ha a; intro a ha; (iterate 2 refine q_g ha rfl (g_move rfl) ?_; clear ha a; intro a ha); obtain ⟨x216, g217, gx218, hF⟩ := idx_some hF
        obtain ⟨p219, cs220, f221, hf222, hpb223, hat224, hr225, hi226⟩ := ha0.at g217 gx218
        obtain ⟨rfl, hI227, rfl⟩ := hr225
        refine q_g ha rfl (hi226.gives sl22 rfl rfl) ?_; clear ha a; intro a ha; refine q_g ha rfl (g_load0 hE106 Tryd.isAgg2 rfl hat224.one) ?_; clear ha a; intro a ha; obtain ⟨x230, hc231, hF⟩ := cal_some hF; refine q_call (.bool x230) ha rfl rfl Tryd.call24 (fun w229 hx228 => W_spec_l15Cross (ha0.ext (Ext.trans hE106 hx228)) (ha1.ext (Ext.trans hE106 hx228)) hI215 hI227 hc231) (fun _ _ _ h => ⟨h.1, h.2⟩) ?_; clear ha a; intro a ha; refine q_g ha rfl (g_move rfl) ?_; clear ha a; intro a ha; refine q_g ha rfl (gB_neq un4 rfl rfl) ?_; clear ha a; intro a ha
        refine q_nil ?_; intro w232 hx233
        replace h99 := h99.ext hx233
        have hE234 := Ext.trans hE106 hx233
        replace ha := ha.sub (σ' := [(0, va0), (1, va1), (2, (.int .i64 a2)), (3, (.bool a3)), (9, v102), (10, (.int .i64 i104)), (33, (.bool (x230 != a3)))]) ⟨rfl, rfl, rfl, rfl, rfl, rfl, rfl, trivial⟩; refine e_then ?_; refine c_cond ((x230 != a3) = true) ha rfl (Iff.rfl) (fun hp235 => ?_) (fun hp235 => ?_)
        · replace hF := if_t hp235 hF
          refine wp_exit ?_; refine e_then_exit ?_; refine e_blk_eq ?_; refine e_then ?_; refine wp_region_lit ?_; refine op_g ha rfl (g_move rfl) ?_; clear ha a; intro a ha; obtain ⟨hI236, hF⟩ := ck_some hF; refine op_g ha rfl (g_add rfl rfl hI236) ?_; clear ha a; intro a ha; refine op_g ha rfl (g_assign rfl) ?_; clear ha a; intro a ha; refine wpList_nil ?_; replace ha := ha.sub (σ' := [(0, va0), (1, va1), (2, (.int .i64 a2)), (3, (.bool a3)), (9, v102), (10, (.int .i64 (i104 + 1)))]) ⟨rfl, rfl, rfl, rfl, rfl, rfl, trivial⟩; refine e_lq ?_; obtain rfl := Option.some.inj hF
          exact ⟨_, Nat.lt_succ_self _, l101, i104 + 1, v102, b103, ha.sub ⟨rfl, rfl, rfl, rfl, rfl, rfl, trivial⟩, hE234, hI236, h99, z100, hN200⟩
        replace hF := if_f hp235 hF; refine wp_skip ?_; refine e_then ?_; refine wp_seq ?_; refine wp_region_lit ?_; (iterate 4 refine op_g ha rfl (g_move rfl) ?_; clear ha a; intro a ha); obtain ⟨x238, hc239, hF⟩ := cal_some hF
        refine o_call ha rfl rfl Tryd.call16 (ih (ha0.ext hE234) (ha1.ext hE234) hI105 hc239) ?_; clear ha a; rintro v240 w241 ⟨b243, h244, z245, hx242⟩ a ha
        have q247 := Nq.new h99.fpb z245
        have q248 := Nq.madeO z245 h99.blt
        replace h99 := h99.ext hx242
        have hE249 := Ext.trans hE234 hx242
        have q250 := Zn.upD z245 hE234
        refine op_g ha rfl (g_assign rfl) ?_; clear ha a; intro a ha; refine wpList_nil ?_; replace ha := ha.sub (σ' := [(0, va0), (1, va1), (2, (.int .i64 a2)), (3, (.bool a3)), (9, v102), (10, (.int .i64 i104)), (11, v240)]) ⟨rfl, rfl, rfl, rfl, rfl, rfl, rfl, trivial⟩; refine e_then ?_; refine wp_seq ?_; refine wp_region_lit ?_; refine op_g ha rfl (g_move rfl) ?_; clear ha a; intro a ha; refine op_g ha rfl (g_lenO sl22.und h244 rfl) ?_; clear ha a; intro a ha; refine op_g ha rfl (g_move rfl) ?_; clear ha a; intro a ha; refine op_g ha rfl (g_lenO sl22.und h99 rfl) ?_; clear ha a; intro a ha; refine op_g ha rfl (g_gtr rfl rfl) ?_; clear ha a; intro a ha
        refine op_g ha rfl (g_move rfl) ?_; clear ha a; intro a ha
        by_cases hp251 : (l101.length : Int) < (x238.length : Int)
        · replace hF := if_t hp251 hF
          rw [show (decide ((l101.length : Int) < (x238.length : Int))) = true from (decide_eq_true_iff).2 hp251] at ha
          (iterate 6 refine op_unwant ha rfl (yields ha rfl rfl) rfl ?_; clear ha a; intro a ha); (iterate 3 refine op_unwant0 ha rfl (yields0 ha rfl rfl) ?_; clear ha a; intro a ha); refine op_unwant ha rfl (yields ha rfl rfl) rfl ?_; clear ha a; intro a ha; refine op_g ha rfl (g_pick rfl rfl) ?_; clear ha a; intro a ha; refine wpList_nil ?_; replace ha := ha.sub (σ' := [(0, va0), (1, va1), (2, (.int .i64 a2)), (3, (.bool a3)), (9, v102), (10, (.int .i64 i104)), (11, v240), (55, (.bool true))]) ⟨rfl, rfl, rfl, rfl, rfl, rfl, rfl, rfl, trivial⟩; refine e_then ?_; refine c_true ha rfl ?_; refine wp_region_lit ?_
          refine op_g ha rfl (g_move rfl) ?_; clear ha a; intro a ha; refine op_g ha rfl (g_assign rfl) ?_; clear ha a; intro a ha; refine wpList_nil ?_; replace ha := ha.sub (σ' := [(0, va0), (1, va1), (2, (.int .i64 a2)), (3, (.bool a3)), (9, v240), (10, (.int .i64 i104))]) ⟨rfl, rfl, rfl, rfl, rfl, rfl, trivial⟩; refine e_blk ?_; refine e_then ?_; refine wp_region_lit ?_; refine op_g ha rfl (g_move rfl) ?_; clear ha a; intro a ha; obtain ⟨hI252, hF⟩ := ck_some hF; refine op_g ha rfl (g_add rfl rfl hI252) ?_; clear ha a; intro a ha; refine op_g ha rfl (g_assign rfl) ?_; clear ha a; intro a ha
          refine wpList_nil ?_; replace ha := ha.sub (σ' := [(0, va0), (1, va1), (2, (.int .i64 a2)), (3, (.bool a3)), (9, v240), (10, (.int .i64 (i104 + 1)))]) ⟨rfl, rfl, rfl, rfl, rfl, rfl, trivial⟩; refine e_lq ?_; obtain rfl := Option.some.inj hF
          exact ⟨_, Nat.lt_succ_self _, x238, i104 + 1, v240, b243, ha.sub ⟨rfl, rfl, rfl, rfl, rfl, rfl, trivial⟩, hE249, hI252, h244, q250, hN200⟩
        replace hF := if_f hp251 hF
        rw [show (decide ((l101.length : Int) < (x238.length : Int))) = false from b_false (decide_eq_true_iff) hp251] at ha
        refine op_want (yields ha rfl rfl) ?_; refine op_g ha rfl (g_move rfl) ?_; clear ha a; intro a ha; refine op_want (yields ha rfl rfl) ?_; refine op_g ha rfl (g_lenO sl22.und h244 rfl) ?_; clear ha a; intro a ha; refine op_want (yields ha rfl rfl) ?_; refine op_g ha rfl (g_move rfl) ?_; clear ha a; intro a ha; refine op_want (yields ha rfl rfl) ?_; refine op_g ha rfl (g_lenO sl22.und h99 rfl) ?_; clear ha a; intro a ha; refine op_want (yields ha rfl rfl) ?_; refine op_g ha rfl (g_eql rfl rfl) ?_; clear ha a; intro a ha; refine op_want (yields ha rfl rfl) ?_; refine op_g ha rfl (g_move rfl) ?_; clear ha a; intro a ha
        by_cases hp254 : (x238.length : Int) = (l101.length : Int)
        · replace hF := if_t hp254 hF
          rw [show (decide ((x238.length : Int) = (l101.length : Int))) = true from (decide_eq_true_iff).2 hp254] at ha
          refine op_want (yields ha rfl rfl) ?_; refine op_g ha rfl (g_move rfl) ?_; clear ha a; intro a ha; refine op_want (yields ha rfl rfl) ?_; refine op_g ha rfl (g_move rfl) ?_; clear ha a; intro a ha; refine op_want (yields ha rfl rfl) ?_
          obtain ⟨fp255, hro256, hs257⟩ := h244.roF
          obtain ⟨fp258, hro259, hs260⟩ := h99.roF
          obtain ⟨x261, hc262, hF⟩ := cal_some hF
          refine o_call ha rfl rfl Tryd.call17 (W_spec_l1Less hro256 hro259 hc262) ?_; clear ha a; rintro v263 w264 ⟨rfl, hx265⟩ a ha
          replace h99 := h99.ext hx265
          replace h244 := h244.ext hx265
          have hE266 := Ext.trans hE249 hx265
          refine op_want (yields ha rfl rfl) ?_; (iterate 2 refine op_g ha rfl (g_pick rfl rfl) ?_; clear ha a; intro a ha); refine wpList_nil ?_; replace ha := ha.sub (σ' := [(0, va0), (1, va1), (2, (.int .i64 a2)), (3, (.bool a3)), (9, v102), (10, (.int .i64 i104)), (11, v240), (45, v240), (46, (.int .i64 (x238.length : Int))), (47, v102), (48, (.int .i64 (l101.length : Int))), (49, (.bool true)), (50, (.bool true)), (51, v240), (52, v102), (53, (.bool x261)), (54, (.bool x261)), (55, (.bool x261))]) ⟨rfl, rfl, rfl, rfl, rfl, rfl, rfl, rfl, rfl, rfl, rfl, rfl, rfl, rfl, rfl, rfl, rfl, rfl, trivial⟩
          refine e_then ?_; refine c_cond (x261 = true) ha rfl (Iff.rfl) (fun hp267 => ?_) (fun hp267 => ?_)
          · replace hF := if_t hp267 hF
            refine wp_region_lit ?_; refine op_g ha rfl (g_move rfl) ?_; clear ha a; intro a ha; refine op_g ha rfl (g_assign rfl) ?_; clear ha a; intro a ha; refine wpList_nil ?_; replace ha := ha.sub (σ' := [(0, va0), (1, va1), (2, (.int .i64 a2)), (3, (.bool a3)), (9, v240), (10, (.int .i64 i104)), (45, v240), (46, (.int .i64 (x238.length : Int))), (47, v102), (48, (.int .i64 (l101.length : Int))), (49, (.bool true)), (50, (.bool true)), (51, v240), (52, v102), (53, (.bool x261)), (54, (.bool x261))]) ⟨rfl, rfl, rfl, rfl, rfl, rfl, rfl, rfl, rfl, rfl, rfl, rfl, rfl, rfl, rfl, rfl, trivial⟩; refine e_blk ?_
            refine e_then ?_; refine wp_region_lit ?_; refine op_g ha rfl (g_move rfl) ?_; clear ha a; intro a ha; obtain ⟨hI268, hF⟩ := ck_some hF; refine op_g ha rfl (g_add rfl rfl hI268) ?_; clear ha a; intro a ha; refine op_g ha rfl (g_assign rfl) ?_; clear ha a; intro a ha; refine wpList_nil ?_; replace ha := ha.sub (σ' := [(0, va0), (1, va1), (2, (.int .i64 a2)), (3, (.bool a3)), (9, v240), (10, (.int .i64 (i104 + 1))), (45, v240), (46, (.int .i64 (x238.length : Int))), (47, v102), (48, (.int .i64 (l101.length : Int))), (49, (.bool true)), (50, (.bool true)), (51, v240), (52, v102), (53, (.bool x261)), (54, (.bool x261))]) ⟨rfl, rfl, rfl, rfl, rfl, rfl, rfl, rfl, rfl, rfl, rfl, rfl, rfl, rfl, rfl, rfl, trivial⟩
            refine e_lq ?_; obtain rfl := Option.some.inj hF
            exact ⟨_, Nat.lt_succ_self _, x238, i104 + 1, v240, b243, ha.sub ⟨rfl, rfl, rfl, rfl, rfl, rfl, trivial⟩, hE266, hI268, h244, q250, hN200⟩
          replace hF := if_f hp267 hF; refine wp_skip ?_; refine e_blk ?_; refine e_then ?_; refine wp_region_lit ?_; refine op_g ha rfl (g_move rfl) ?_; clear ha a; intro a ha; obtain ⟨hI270, hF⟩ := ck_some hF; refine op_g ha rfl (g_add rfl rfl hI270) ?_; clear ha a; intro a ha; refine op_g ha rfl (g_assign rfl) ?_; clear ha a; intro a ha; refine wpList_nil ?_; replace ha := ha.sub (σ' := [(0, va0), (1, va1), (2, (.int .i64 a2)), (3, (.bool a3)), (9, v102), (10, (.int .i64 (i104 + 1))), (45, v240), (46, (.int .i64 (x238.length : Int))), (47, v102), (48, (.int .i64 (l101.length : Int))), (49, (.bool true)), (50, (.bool true)), (51, v240), (52, v102), (53, (.bool x261)), (54, (.bool x261))]) ⟨rfl, rfl, rfl, rfl, rfl, rfl, rfl, rfl, rfl, rfl, rfl, rfl, rfl, rfl, rfl, rfl, trivial⟩
          refine e_lq ?_; obtain rfl := Option.some.inj hF
          exact ⟨_, Nat.lt_succ_self _, l101, i104 + 1, v102, b103, ha.sub ⟨rfl, rfl, rfl, rfl, rfl, rfl, trivial⟩, hE266, hI270, h99, z100, hN200⟩
        replace hF := if_f hp254 hF
        rw [show (decide ((x238.length : Int) = (l101.length : Int))) = false from b_false (decide_eq_true_iff) hp254] at ha
        (iterate 3 refine op_unwant ha rfl (yields ha rfl rfl) rfl ?_; clear ha a; intro a ha); refine op_want (yields ha rfl rfl) ?_; (iterate 2 refine op_g ha rfl (g_pick rfl rfl) ?_; clear ha a; intro a ha); refine wpList_nil ?_; replace ha := ha.sub (σ' := [(0, va0), (1, va1), (2, (.int .i64 a2)), (3, (.bool a3)), (9, v102), (10, (.int .i64 i104)), (11, v240), (45, v240), (46, (.int .i64 (x238.length : Int))), (47, v102), (48, (.int .i64 (l101.length : Int))), (49, (.bool false)), (50, (.bool false)), (54, (.bool false)), (55, (.bool false))]) ⟨rfl, rfl, rfl, rfl, rfl, rfl, rfl, rfl, rfl, rfl, rfl, rfl, rfl, rfl, rfl, trivial⟩
        refine e_then ?_; refine c_false ha rfl ?_; refine wp_skip ?_; refine e_blk ?_; refine e_then ?_; refine wp_region_lit ?_; refine op_g ha rfl (g_move rfl) ?_; clear ha a; intro a ha; obtain ⟨hI272, hF⟩ := ck_some hF; refine op_g ha rfl (g_add rfl rfl hI272) ?_; clear ha a; intro a ha; refine op_g ha rfl (g_assign rfl) ?_; clear ha a; intro a ha; refine wpList_nil ?_; replace ha := ha.sub (σ' := [(0, va0), (1, va1), (2, (.int .i64 a2)), (3, (.bool a3)), (9, v102), (10, (.int .i64 (i104 + 1))), (45, v240), (46, (.int .i64 (x238.length : Int))), (47, v102), (48, (.int .i64 (l101.length : Int))), (49, (.bool false)), (50, (.bool false)), (54, (.bool false))]) ⟨rfl, rfl, rfl, rfl, rfl, rfl, rfl, rfl, rfl, rfl, rfl, rfl, rfl, trivial⟩
        refine e_lq ?_; obtain rfl := Option.some.inj hF
        exact ⟨_, Nat.lt_succ_self _, l101, i104 + 1, v102, b103, ha.sub ⟨rfl, rfl, rfl, rfl, rfl, rfl, trivial⟩, hE249, hI272, h99, z100, hN200⟩
      replace hF := if_f hp203 hF; refine wp_exit ?_; refine e_then_exit ?_; refine e_lq_eq ?_; obtain rfl := Option.some.inj hF
      exact ⟨l101, v102, b103, ha.sub ⟨rfl, rfl, rfl, trivial⟩, hE106, h99, z100, (LK_inr hN200).symm⟩
  rintro a w187 ⟨l191, v192, b193, ha, hE199, h189, z190, rfl⟩
  have hF : F_spec_l15Long_k2 a0 a2 l191 = some _ := hK196; clear hK196; unfold F_spec_l15Long_k2 at hF
  refine e_then ?_; refine wp_seq ?_; refine wp_region_lit ?_; (iterate 2 refine op_g ha rfl (g_move rfl) ?_; clear ha a; intro a ha); obtain ⟨x274, g275, gx276, hF⟩ := idx_some hF
  obtain ⟨p277, cs278, f279, hf280, hpb281, hat282, hr283, hi284⟩ := ha0.at g275 gx276
  obtain ⟨rfl, hI285, rfl⟩ := hr283
  refine op_g ha rfl (hi284.gives sl22 rfl rfl) ?_; clear ha a; intro a ha; refine op_g ha rfl (g_load0 hE199 Tryd.isAgg2 rfl hat282.one) ?_; clear ha a; intro a ha
  refine o_lit1 (o := true) (y := x274) Rp.int ha rfl sl22 rfl rfl rfl ⟨rfl, hI285, rfl⟩ ?_; clear ha a; intro v286 w287 h288 hx289 a ha
  obtain ⟨b291, hb291⟩ : ∃ b : Int, b = w187.heap.size := ⟨_, rfl⟩; rw [← hb291] at h288
  have q292 := zn_of hb291
  have q293 := Nq.new h189.fpb q292
  have q294 := Nq.madeO q292 h189.blt
  have q295 := Zn.upD q292 hE199
  replace h189 := h189.ext hx289
  have hE296 := Ext.trans hE199 hx289
  refine op_g ha rfl (g_move rfl) ?_; clear ha a; intro a ha; obtain ⟨hl297, hF⟩ := app_some hF
  refine o_append ha rfl sl22 rfl rfl rfl h288 h189.src (Nq.nil _) hl297 ?_; clear ha a; intro v298 w299 b300 h301 hc302 hb303 a ha
  replace h301 : Ow Rp.int 2 true w299 [] b300 v298 _ := h301
  have q305 := Nq.appY q293 h189.fpb hb303
  have q306 := Nq.appX q294 (Nq.nil _) hb303 h189.blt
  have q307 := Zn.appD q295 hb303 hE296
  replace h189 := h189.nq hc302 q293
  have hE308 := Ext.then hE296 hc302 (Zn.bl q295)
  refine op_g ha rfl (g_assign rfl) ?_; clear ha a; intro a ha; refine wpList_nil ?_; replace ha := ha.sub (σ' := [(8, v298)]) ⟨rfl, trivial⟩; refine e_then ?_; refine wp_ret ?_; obtain rfl := Option.some.inj hF
  exact f_ret1 ha rfl rfl ⟨_, h301, q307, hE308⟩
theorem W_spec_l15Long_n (n : Nat) : ∀ {W : World} {va0 : Value} {fa0 : List Nat} {a0 : (List Int)} (ha0 : Ro Rp.int W fa0 va0 a0) {va1 : Value} {fa1 : List Nat} {a1 : (List Int)} (ha1 : Ro Rp.int W fa1 va1 a1) {a2 : Int} (ha2 : InI a2) {a3 : Bool} {r : (List Int)} (hF : itN (fun (rc : ((List Int) × (List Int) × Int × Bool) → Option (List Int)) a => F_spec_l15Long_body (fun z0 z1 z2 z3 => rc (z0, z1, z2, z3)) a.1 a.2.1 a.2.2.1 a.2.2.2) n (a0, a1, a2, a3) = some r),
    Calls Tryd.prog 16 [va0, va1, .int .i64 a2, .bool a3].toArray W (Ret fun u w' => ∃ (b_u : Int), Ow Rp.int 2 true w' [] b_u u r ∧ Zn W b_u ∧ Ext W w') := by
  induction n with
  | zero => intro W va0 fa0 a0 ha0 va1 fa1 a1 ha1 a2 ha2 a3 r hF; cases hF
  | succ n ih => intro W va0 fa0 a0 ha0 va1 fa1 a1 ha1 a2 ha2 a3 r hF; exact W_spec_l15Long_step (rc := fun z0 z1 z2 z3 => itN (fun (rc : ((List Int) × (List Int) × Int × Bool) → Option (List Int)) a => F_spec_l15Long_body (fun z0 z1 z2 z3 => rc (z0, z1, z2, z3)) a.1 a.2.1 a.2.2.1 a.2.2.2) n (z0, z1, z2, z3)) @ih ha0 ha1 ha2 hF
theorem W_spec_l15Long {W : World} {va0 : Value} {fa0 : List Nat} {a0 : (List Int)} (ha0 : Ro Rp.int W fa0 va0 a0) {va1 : Value} {fa1 : List Nat} {a1 : (List Int)} (ha1 : Ro Rp.int W fa1 va1 a1) {a2 : Int} (ha2 : InI a2) {a3 : Bool} {r : (List Int)} (hF : F_spec_l15Long a0 a1 a2 a3 = some r) :
    Calls Tryd.prog 16 [va0, va1, .int .i64 a2, .bool a3].toArray W (Ret fun u w' => ∃ (b_u : Int), Ow Rp.int 2 true w' [] b_u u r ∧ Zn W b_u ∧ Ext W w') := by
  obtain ⟨n, hn⟩ := fixO_some hF
  exact W_spec_l15Long_n n ha0 ha1 ha2 hn
set_option maxHeartbeats 2000000 in
theorem W_spec_l15Longest {W : World} {va0 : Value} {fa0 : List Nat} {a0 : (List Int)} (ha0 : Ro Rp.int W fa0 va0 a0) {va1 : Value} {fa1 : List Nat} {a1 : (List Int)} (ha1 : Ro Rp.int W fa1 va1 a1) {a2 : Bool} {r : (List Int)} (hF : F_spec_l15Longest a0 a1 a2 = some r) :
    Calls Tryd.prog 13 [va0, va1, .bool a2].toArray W (Ret fun u w' => ∃ (b_u : Int), Ow Rp.int 2 true w' [] b_u u r ∧ Zn W b_u ∧ Ext W w') := by
  refine f_enter Tryd.func13 rfl Tryd.ntmps13 rfl ?_
  intro a ha
  replace ha : Fr 46 [(0, va0), (1, va1), (2, (.bool a2))] a := ha
  have hE : Chg [] W W := Chg.refl _ _
  unfold F_spec_l15Longest at hF
  refine wp_seq ?_; refine wp_region_lit ?_; refine op_g ha rfl (g_assign rfl) ?_; clear ha a; intro a ha; refine wpList_nil ?_; replace ha := ha.sub (σ' := [(0, va0), (1, va1), (2, (.bool a2))]) ⟨rfl, rfl, rfl, trivial⟩; refine e_then ?_; refine wp_seq ?_; refine wp_region_lit ?_
  refine o_lit0 Rp.int ha rfl sl22 ?_; clear ha a; intro v1 w2 h3 hx4 a ha
  obtain ⟨b6, hb6⟩ : ∃ b : Int, b = W.heap.size := ⟨_, rfl⟩; rw [← hb6] at h3
  have q7 := zn_of hb6
  have q8 := Zn.upD q7 hE
  have hE9 := Ext.trans hE hx4
  refine op_g ha rfl (g_assign rfl) ?_; clear ha a; intro a ha; refine wpList_nil ?_; replace ha := ha.sub (σ' := [(0, va0), (1, va1), (2, (.bool a2)), (7, v1)]) ⟨rfl, rfl, rfl, rfl, trivial⟩; refine e_then ?_; refine wp_seq ?_; refine wp_seq ?_; refine wp_region_lit ?_; (iterate 2 refine op_g ha rfl (g_move rfl) ?_; clear ha a; intro a ha); obtain ⟨x10, hc11, hF⟩ := cal_some hF
  refine o_call ha rfl rfl Tryd.call15 (W_spec_l15Lines (ha0.ext hE9) (ha1.ext hE9) hc11) ?_; clear ha a; rintro v12 w13 ⟨rfl, hx14⟩ a ha
  replace h3 := h3.ext hx14
  have hE15 := Ext.trans hE9 hx14
  refine op_g ha rfl (g_not rfl) ?_; clear ha a; intro a ha; refine wpList_nil ?_; replace ha := ha.sub (σ' := [(0, va0), (1, va1), (2, (.bool a2)), (7, v1), (14, (.bool (!x10)))]) ⟨rfl, rfl, rfl, rfl, rfl, trivial⟩; refine e_then ?_; refine c_cond (¬ (x10 = true)) ha rfl (n_iff (Iff.rfl)) (fun hp16 => ?_) (fun hp16 => ?_)
  · replace hF := if_t hp16 hF
    refine wp_seq ?_; refine wp_region_lit ?_; refine op_g ha rfl (g_move rfl) ?_; clear ha a; intro a ha; refine op_g ha rfl (g_assign rfl) ?_; clear ha a; intro a ha; refine wpList_nil ?_; replace ha := ha.sub (σ' := [(6, v1)]) ⟨rfl, trivial⟩; refine e_then ?_; refine wp_ret ?_; refine e_then_ret ?_; obtain rfl := Option.some.inj hF
    exact f_ret1 ha rfl rfl ⟨_, h3, q8, hE15⟩
  replace hF := if_f hp16 hF; refine wp_skip ?_; refine e_then ?_; refine wp_seq ?_; refine wp_seq ?_; refine wp_region_lit ?_; refine op_g ha rfl (g_assign rfl) ?_; clear ha a; intro a ha; refine wpList_nil ?_; replace ha := ha.sub (σ' := [(0, va0), (1, va1), (2, (.bool a2)), (7, v1), (8, (.int .i64 0))]) ⟨rfl, rfl, rfl, rfl, rfl, trivial⟩; refine e_then ?_; obtain ⟨o131, ho132, hK133⟩ := bnd_some hF
  obtain ⟨n134, hn135⟩ := lp_some ho132; clear ho132
  refine c_loop (fun a w => ∃ (l128 : (List Int)) (v129 : Value) (b130 : Int), Fr 46 [(7, v129)] a ∧ Chg [] W w ∧ Ow Rp.int 2 true w [] b130 v129 l128 ∧ Zn W b130 ∧ o131 = .inl l128) (fun n a w => ∃ (l72 : (List Int)) (i75 : Int) (v73 : Value) (b74 : Int), Fr 46 [(0, va0), (1, va1), (2, (.bool a2)), (7, v73), (8, (.int .i64 i75))] a ∧ Chg [] W w ∧ InI i75 ∧ Ow Rp.int 2 true w [] b74 v73 l72 ∧ Zn W b74 ∧ lpN (fun s => F_spec_l15Longest_l1 a0 a1 a2 s.1 s.2) n (l72, i75) = some o131) n134 ⟨([] : (List Int)), 0, v1, b6, ha.sub ⟨rfl, rfl, rfl, rfl, rfl, trivial⟩, hE15, (show InI 0 from by decide), h3, q8, hn135⟩ ?_ ?_
  · rintro m139 a w68 ⟨l72, i75, v73, b74, ha, hE77, hI76, h70, z71, hF⟩
    cases m139 with
    | zero => exact (lpN_zero hF).elim
    | succ m139 =>
      obtain ⟨z138, hF, hN137⟩ := lpN_succ hF
      have hF : F_spec_l15Longest_l1 a0 a1 a2 l72 i75 = some z138 := hF; unfold F_spec_l15Longest_l1 at hF
      refine wp_seq ?_; refine wp_seq ?_; refine wp_region_lit ?_; (iterate 2 refine op_g ha rfl (g_move rfl) ?_; clear ha a; intro a ha); refine op_g ha rfl (g_lenR sl22.und ha0 rfl) ?_; clear ha a; intro a ha; refine op_g ha rfl (g_lss rfl rfl) ?_; clear ha a; intro a ha; refine wpList_nil ?_; replace ha := ha.sub (σ' := [(0, va0), (1, va1), (2, (.bool a2)), (7, v73), (8, (.int .i64 i75)), (19, (.bool (decide (i75 < (a0.length : Int)))))]) ⟨rfl, rfl, rfl, rfl, rfl, rfl, trivial⟩; refine e_then ?_; refine c_cond (i75 < (a0.length : Int)) ha rfl (decide_eq_true_iff) (fun hp140 => ?_) (fun hp140 => ?_)
      · replace hF := if_t hp140 hF
        refine wp_skip ?_; refine e_then ?_; refine wp_seq ?_; refine wp_block ?_; refine wp_seq ?_; refine wp_region_lit ?_; (iterate 4 refine op_g ha rfl (g_move rfl) ?_; clear ha a; intro a ha); obtain ⟨x141, hc142, hF⟩ := cal_some hF
        refine o_call ha rfl rfl Tryd.call16 (W_spec_l15Long (ha0.ext hE77) (ha1.ext hE77) hI76 hc142) ?_; clear ha a; rintro v143 w144 ⟨b146, h147, z148, hx145⟩ a ha
        have q150 := Nq.new h70.fpb z148
        have q151 := Nq.madeO z148 h70.blt
        replace h70 := h70.ext hx145
        have hE152 := Ext.trans hE77 hx145
        have q153 := Zn.upD z148 hE77
        refine op_g ha rfl (g_assign rfl) ?_; clear ha a; intro a ha; refine wpList_nil ?_; replace ha := ha.sub (σ' := [(0, va0), (1, va1), (2, (.bool a2)), (7, v73), (8, (.int .i64 i75)), (9, v143)]) ⟨rfl, rfl, rfl, rfl, rfl, rfl, trivial⟩; refine e_then ?_; refine wp_seq ?_; refine wp_region_lit ?_; refine op_g ha rfl (g_move rfl) ?_; clear ha a; intro a ha; refine op_g ha rfl (g_lenO sl22.und h147 rfl) ?_; clear ha a; intro a ha; refine op_g ha rfl (g_move rfl) ?_; clear ha a; intro a ha; refine op_g ha rfl (g_lenO sl22.und h70 rfl) ?_; clear ha a; intro a ha; refine op_g ha rfl (g_gtr rfl rfl) ?_; clear ha a; intro a ha
        refine op_g ha rfl (g_move rfl) ?_; clear ha a; intro a ha
        by_cases hp154 : (l72.length : Int) < (x141.length : Int)
        · replace hF := if_t hp154 hF
          rw [show (decide ((l72.length : Int) < (x141.length : Int))) = true from (decide_eq_true_iff).2 hp154] at ha
          (iterate 6 refine op_unwant ha rfl (yields ha rfl rfl) rfl ?_; clear ha a; intro a ha); (iterate 3 refine op_unwant0 ha rfl (yields0 ha rfl rfl) ?_; clear ha a; intro a ha); refine op_unwant ha rfl (yields ha rfl rfl) rfl ?_; clear ha a; intro a ha; refine op_g ha rfl (g_pick rfl rfl) ?_; clear ha a; intro a ha; refine wpList_nil ?_; replace ha := ha.sub (σ' := [(0, va0), (1, va1), (2, (.bool a2)), (7, v73), (8, (.int .i64 i75)), (9, v143), (43, (.bool true))]) ⟨rfl, rfl, rfl, rfl, rfl, rfl, rfl, trivial⟩; refine e_then ?_; refine c_true ha rfl ?_; refine wp_region_lit ?_; refine op_g ha rfl (g_move rfl) ?_; clear ha a; intro a ha
          refine op_g ha rfl (g_assign rfl) ?_; clear ha a; intro a ha; refine wpList_nil ?_; replace ha := ha.sub (σ' := [(0, va0), (1, va1), (2, (.bool a2)), (7, v143), (8, (.int .i64 i75))]) ⟨rfl, rfl, rfl, rfl, rfl, trivial⟩; refine e_blk ?_; refine e_then ?_; refine wp_region_lit ?_; refine op_g ha rfl (g_move rfl) ?_; clear ha a; intro a ha; obtain ⟨hI155, hF⟩ := ck_some hF; refine op_g ha rfl (g_add rfl rfl hI155) ?_; clear ha a; intro a ha; refine op_g ha rfl (g_assign rfl) ?_; clear ha a; intro a ha; refine wpList_nil ?_; replace ha := ha.sub (σ' := [(0, va0), (1, va1), (2, (.bool a2)), (7, v143), (8, (.int .i64 (i75 + 1)))]) ⟨rfl, rfl, rfl, rfl, rfl, trivial⟩
          refine e_lq ?_; obtain rfl := Option.some.inj hF
          exact ⟨_, Nat.lt_succ_self _, x141, i75 + 1, v143, b146, ha.sub ⟨rfl, rfl, rfl, rfl, rfl, trivial⟩, hE152, hI155, h147, q153, hN137⟩
        replace hF := if_f hp154 hF
        rw [show (decide ((l72.length : Int) < (x141.length : Int))) = false from b_false (decide_eq_true_iff) hp154] at ha
        refine op_want (yields ha rfl rfl) ?_; refine op_g ha rfl (g_move rfl) ?_; clear ha a; intro a ha; refine op_want (yields ha rfl rfl) ?_; refine op_g ha rfl (g_lenO sl22.und h147 rfl) ?_; clear ha a; intro a ha; refine op_want (yields ha rfl rfl) ?_; refine op_g ha rfl (g_move rfl) ?_; clear ha a; intro a ha; refine op_want (yields ha rfl rfl) ?_; refine op_g ha rfl (g_lenO sl22.und h70 rfl) ?_; clear ha a; intro a ha; refine op_want (yields ha rfl rfl) ?_; refine op_g ha rfl (g_eql rfl rfl) ?_; clear ha a; intro a ha; refine op_want (yields ha rfl rfl) ?_; refine op_g ha rfl (g_move rfl) ?_; clear ha a; intro a ha
        by_cases hp157 : (x141.length : Int) = (l72.length : Int)
        · replace hF := if_t hp157 hF
          rw [show (decide ((x141.length : Int) = (l72.length : Int))) = true from (decide_eq_true_iff).2 hp157] at ha
          refine op_want (yields ha rfl rfl) ?_; refine op_g ha rfl (g_move rfl) ?_; clear ha a; intro a ha; refine op_want (yields ha rfl rfl) ?_; refine op_g ha rfl (g_move rfl) ?_; clear ha a; intro a ha; refine op_want (yields ha rfl rfl) ?_
          obtain ⟨fp158, hro159, hs160⟩ := h147.roF
          obtain ⟨fp161, hro162, hs163⟩ := h70.roF
          obtain ⟨x164, hc165, hF⟩ := cal_some hF
          refine o_call ha rfl rfl Tryd.call17 (W_spec_l1Less hro159 hro162 hc165) ?_; clear ha a; rintro v166 w167 ⟨rfl, hx168⟩ a ha
          replace h70 := h70.ext hx168
          replace h147 := h147.ext hx168
          have hE169 := Ext.trans hE152 hx168
          refine op_want (yields ha rfl rfl) ?_; (iterate 2 refine op_g ha rfl (g_pick rfl rfl) ?_; clear ha a; intro a ha); refine wpList_nil ?_; replace ha := ha.sub (σ' := [(0, va0), (1, va1), (2, (.bool a2)), (7, v73), (8, (.int .i64 i75)), (9, v143), (33, v143), (34, (.int .i64 (x141.length : Int))), (35, v73), (36, (.int .i64 (l72.length : Int))), (37, (.bool true)), (38, (.bool true)), (39, v143), (40, v73), (41, (.bool x164)), (42, (.bool x164)), (43, (.bool x164))]) ⟨rfl, rfl, rfl, rfl, rfl, rfl, rfl, rfl, rfl, rfl, rfl, rfl, rfl, rfl, rfl, rfl, rfl, trivial⟩; refine e_then ?_; refine c_cond (x164 = true) ha rfl (Iff.rfl) (fun hp170 => ?_) (fun hp170 => ?_)
          · replace hF := if_t hp170 hF
            refine wp_region_lit ?_; refine op_g ha rfl (g_move rfl) ?_; clear ha a; intro a ha; refine op_g ha rfl (g_assign rfl) ?_; clear ha a; intro a ha; refine wpList_nil ?_; replace ha := ha.sub (σ' := [(0, va0), (1, va1), (2, (.bool a2)), (7, v143), (8, (.int .i64 i75)), (33, v143), (34, (.int .i64 (x141.length : Int))), (35, v73), (36, (.int .i64 (l72.length : Int))), (37, (.bool true)), (38, (.bool true)), (39, v143), (40, v73), (41, (.bool x164)), (42, (.bool x164))]) ⟨rfl, rfl, rfl, rfl, rfl, rfl, rfl, rfl, rfl, rfl, rfl, rfl, rfl, rfl, rfl, trivial⟩; refine e_blk ?_; refine e_then ?_
            refine wp_region_lit ?_; refine op_g ha rfl (g_move rfl) ?_; clear ha a; intro a ha; obtain ⟨hI171, hF⟩ := ck_some hF; refine op_g ha rfl (g_add rfl rfl hI171) ?_; clear ha a; intro a ha; refine op_g ha rfl (g_assign rfl) ?_; clear ha a; intro a ha; refine wpList_nil ?_; replace ha := ha.sub (σ' := [(0, va0), (1, va1), (2, (.bool a2)), (7, v143), (8, (.int .i64 (i75 + 1))), (33, v143), (34, (.int .i64 (x141.length : Int))), (35, v73), (36, (.int .i64 (l72.length : Int))), (37, (.bool true)), (38, (.bool true)), (39, v143), (40, v73), (41, (.bool x164)), (42, (.bool x164))]) ⟨rfl, rfl, rfl, rfl, rfl, rfl, rfl, rfl, rfl, rfl, rfl, rfl, rfl, rfl, rfl, trivial⟩
            refine e_lq ?_; obtain rfl := Option.some.inj hF
            exact ⟨_, Nat.lt_succ_self _, x141, i75 + 1, v143, b146, ha.sub ⟨rfl, rfl, rfl, rfl, rfl, trivial⟩, hE169, hI171, h147, q153, hN137⟩
          replace hF := if_f hp170 hF; refine wp_skip ?_; refine e_blk ?_; refine e_then ?_; refine wp_region_lit ?_; refine op_g ha rfl (g_move rfl) ?_; clear ha a; intro a ha; obtain ⟨hI173, hF⟩ := ck_some hF; refine op_g ha rfl (g_add rfl rfl hI173) ?_; clear ha a; intro a ha; refine op_g ha rfl (g_assign rfl) ?_; clear ha a; intro a ha; refine wpList_nil ?_; replace ha := ha.sub (σ' := [(0, va0), (1, va1), (2, (.bool a2)), (7, v73), (8, (.int .i64 (i75 + 1))), (33, v143), (34, (.int .i64 (x141.length : Int))), (35, v73), (36, (.int .i64 (l72.length : Int))), (37, (.bool true)), (38, (.bool true)), (39, v143), (40, v73), (41, (.bool x164)), (42, (.bool x164))]) ⟨rfl, rfl, rfl, rfl, rfl, rfl, rfl, rfl, rfl, rfl, rfl, rfl, rfl, rfl, rfl, trivial⟩
          refine e_lq ?_; obtain rfl := Option.some.inj hF
          exact ⟨_, Nat.lt_succ_self _, l72, i75 + 1, v73, b74, ha.sub ⟨rfl, rfl, rfl, rfl, rfl, trivial⟩, hE169, hI173, h70, z71, hN137⟩
        replace hF := if_f hp157 hF
        rw [show (decide ((x141.length : Int) = (l72.length : Int))) = false from b_false (decide_eq_true_iff) hp157] at ha
        (iterate 3 refine op_unwant ha rfl (yields ha rfl rfl) rfl ?_; clear ha a; intro a ha); refine op_want (yields ha rfl rfl) ?_; (iterate 2 refine op_g ha rfl (g_pick rfl rfl) ?_; clear ha a; intro a ha); refine wpList_nil ?_; replace ha := ha.sub (σ' := [(0, va0), (1, va1), (2, (.bool a2)), (7, v73), (8, (.int .i64 i75)), (9, v143), (33, v143), (34, (.int .i64 (x141.length : Int))), (35, v73), (36, (.int .i64 (l72.length : Int))), (37, (.bool false)), (38, (.bool false)), (42, (.bool false)), (43, (.bool false))]) ⟨rfl, rfl, rfl, rfl, rfl, rfl, rfl, rfl, rfl, rfl, rfl, rfl, rfl, rfl, trivial⟩
        refine e_then ?_; refine c_false ha rfl ?_; refine wp_skip ?_; refine e_blk ?_; refine e_then ?_; refine wp_region_lit ?_; refine op_g ha rfl (g_move rfl) ?_; clear ha a; intro a ha; obtain ⟨hI175, hF⟩ := ck_some hF; refine op_g ha rfl (g_add rfl rfl hI175) ?_; clear ha a; intro a ha; refine op_g ha rfl (g_assign rfl) ?_; clear ha a; intro a ha; refine wpList_nil ?_; replace ha := ha.sub (σ' := [(0, va0), (1, va1), (2, (.bool a2)), (7, v73), (8, (.int .i64 (i75 + 1))), (33, v143), (34, (.int .i64 (x141.length : Int))), (35, v73), (36, (.int .i64 (l72.length : Int))), (37, (.bool false)), (38, (.bool false)), (42, (.bool false))]) ⟨rfl, rfl, rfl, rfl, rfl, rfl, rfl, rfl, rfl, rfl, rfl, rfl, trivial⟩
        refine e_lq ?_; obtain rfl := Option.some.inj hF
        exact ⟨_, Nat.lt_succ_self _, l72, i75 + 1, v73, b74, ha.sub ⟨rfl, rfl, rfl, rfl, rfl, trivial⟩, hE152, hI175, h70, z71, hN137⟩
      replace hF := if_f hp140 hF; refine wp_exit ?_; refine e_then_exit ?_; refine e_lq_eq ?_; obtain rfl := Option.some.inj hF
      exact ⟨l72, v73, b74, ha.sub ⟨rfl, trivial⟩, hE77, h70, z71, (LK_inr hN137).symm⟩
  rintro a w124 ⟨l128, v129, b130, ha, hE136, h126, z127, rfl⟩
  have hF : F_spec_l15Longest_k2 l128 = some _ := hK133; clear hK133; unfold F_spec_l15Longest_k2 at hF
  refine e_then ?_; refine wp_seq ?_; refine wp_region_lit ?_; refine op_g ha rfl (g_move rfl) ?_; clear ha a; intro a ha; refine op_g ha rfl (g_assign rfl) ?_; clear ha a; intro a ha; refine wpList_nil ?_; replace ha := ha.sub (σ' := [(6, v129)]) ⟨rfl, trivial⟩; refine e_then ?_; refine wp_ret ?_; obtain rfl := Option.some.inj hF
  exact f_ret1 ha rfl rfl ⟨_, h126, z127, hE136⟩
set_option maxHeartbeats 2000000 in
theorem W_spec_StraightLongest {W : World} {va0 : Value} {fa0 : List Nat} {a0 : (List Int)} (ha0 : Ro Rp.int W fa0 va0 a0) {va1 : Value} {fa1 : List Nat} {a1 : (List Int)} (ha1 : Ro Rp.int W fa1 va1 a1) {r : (List Int)} (hF : F_spec_StraightLongest a0 a1 = some r) :
    Calls Tryd.prog 11 [va0, va1].toArray W (Ret fun u w' => ∃ (b_u : Int), Ow Rp.int 2 true w' [] b_u u r ∧ Zn W b_u ∧ Ext W w') := by
  refine f_enter Tryd.func11 rfl Tryd.ntmps11 rfl ?_
  intro a ha
  replace ha : Fr 8 [(0, va0), (1, va1)] a := ha
  have hE : Chg [] W W := Chg.refl _ _
  unfold F_spec_StraightLongest at hF
  refine wp_seq ?_; refine wp_region_lit ?_; refine op_g ha rfl (g_assign rfl) ?_; clear ha a; intro a ha; refine wpList_nil ?_; replace ha := ha.sub (σ' := [(0, va0), (1, va1)]) ⟨rfl, rfl, trivial⟩; refine e_then ?_; refine wp_seq ?_; refine wp_region_lit ?_; (iterate 2 refine op_g ha rfl (g_move rfl) ?_; clear ha a; intro a ha); obtain ⟨x1, hc2, hF⟩ := cal_some hF
  refine o_call ha rfl rfl Tryd.call13 (W_spec_l15Longest (ha0.ext hE) (ha1.ext hE) hc2) ?_; clear ha a; rintro v3 w4 ⟨b6, h7, z8, hx5⟩ a ha
  have hE10 := Ext.trans hE hx5
  have q11 := Zn.upD z8 hE
  refine op_g ha rfl (g_assign rfl) ?_; clear ha a; intro a ha; refine wpList_nil ?_; replace ha := ha.sub (σ' := [(4, v3)]) ⟨rfl, trivial⟩; refine e_then ?_; refine wp_ret ?_; obtain rfl := Option.some.inj hF
  exact f_ret1 ha rfl rfl ⟨_, h7, q11, hE10⟩
set_option maxHeartbeats 2000000 in

set_option maxHeartbeats 2000000 in

set_option maxHeartbeats 2000000 in

set_option maxHeartbeats 2000000 in
theorem W_slices_Sorted_int64 {W : World} {va0 : Value} {a0 : (List Int)} (ha0 : Seq2 W va0 a0) {r : (List Int)} (hF : F_slices_Sorted_int64 a0 = some r) :
    Calls Tryd.prog 34 [va0].toArray W (Ret fun u w' => ∃ (b_u : Int), Ow Rp.int 2 true w' [] b_u u r ∧ Zn W b_u ∧ Ext W w') := by
  refine f_enter Tryd.func34 rfl Tryd.ntmps34 rfl ?_
  intro a ha
  replace ha : Fr 9 [(0, va0)] a := ha
  have hE : Chg [] W W := Chg.refl _ _
  unfold F_slices_Sorted_int64 at hF
  refine wp_seq ?_; refine wp_region_lit ?_; refine op_g ha rfl (g_assign rfl) ?_; clear ha a; intro a ha; refine wpList_nil ?_; replace ha := ha.sub (σ' := [(0, va0)]) ⟨rfl, trivial⟩; refine e_then ?_; refine wp_seq ?_; refine wp_region_lit ?_; refine op_g ha rfl (g_move rfl) ?_; clear ha a; intro a ha; obtain ⟨x1, hc2, hF⟩ := cal_some hF
  refine o_call ha rfl rfl Tryd.call39 (W_slices_Collect_int64 ha0 hc2) ?_; clear ha a; rintro v3 w4 ⟨b6, h7, z8, hx5⟩ a ha
  have hE10 := Ext.trans hE hx5
  have q11 := Zn.upD z8 hE
  refine op_g ha rfl (g_assign rfl) ?_; clear ha a; intro a ha; refine wpList_nil ?_; replace ha := ha.sub (σ' := [(3, v3)]) ⟨rfl, trivial⟩; refine e_then ?_; refine wp_seq ?_; refine wp_region_lit ?_; refine op_g ha rfl (g_move rfl) ?_; clear ha a; intro a ha; obtain ⟨x12, hc13, hF⟩ := cal_some hF
  refine o_call ha rfl rfl Tryd.call40 (W_slices_Sort_int64 h7 hc13) ?_; clear ha a; rintro v14 w15 ⟨rfl, h17, hx16⟩ a ha
  have hE18 := Ext.then hE10 hx16 (Zn.bl q11)
  refine wpList_nil ?_; replace ha := ha.sub (σ' := [(3, v3)]) ⟨rfl, trivial⟩; refine e_then ?_; refine wp_seq ?_; refine wp_region_lit ?_; refine op_g ha rfl (g_move rfl) ?_; clear ha a; intro a ha; refine op_g ha rfl (g_assign rfl) ?_; clear ha a; intro a ha; refine wpList_nil ?_; replace ha := ha.sub (σ' := [(2, v3)]) ⟨rfl, trivial⟩; refine e_then ?_; refine wp_ret ?_; obtain rfl := Option.some.inj hF
  exact f_ret1 ha rfl rfl ⟨_, h17, q11, hE18⟩
set_option maxHeartbeats 2000000 in
theorem W_impl_inRange {W : World} {a0 : Int} (ha0 : InI a0) {a1 : Int} (ha1 : InI a1) {a2 : Int} (ha2 : InI a2) {r : Bool} (hF : F_impl_inRange a0 a1 a2 = some r) :
    Calls Tryd.prog 38 [.int .i64 a0, .int .i64 a1, .int .i64 a2].toArray W (Ret fun u w' => u = .bool r ∧ Ext W w') := by
  refine f_enter Tryd.func38 rfl Tryd.ntmps38 rfl ?_
  intro a ha
  replace ha : Fr 15 [(0, (.int .i64 a0)), (1, (.int .i64 a1)), (2, (.int .i64 a2))] a := ha
  have hE : Chg [] W W := Chg.refl _ _
  unfold F_impl_inRange at hF
  refine wp_seq ?_; refine wp_region_lit ?_; refine op_g ha rfl (g_assign rfl) ?_; clear ha a; intro a ha; refine wpList_nil ?_; replace ha := ha.sub (σ' := [(0, (.int .i64 a0)), (1, (.int .i64 a1)), (2, (.int .i64 a2))]) ⟨rfl, rfl, rfl, trivial⟩; refine e_then ?_; refine wp_seq ?_; refine wp_region_lit ?_; (iterate 2 refine op_g ha rfl (g_move rfl) ?_; clear ha a; intro a ha); refine op_g ha rfl (g_leq rfl rfl) ?_; clear ha a; intro a ha; refine op_g ha rfl (g_move rfl) ?_; clear ha a; intro a ha
  by_cases hp1 : a1 ≤ a0
  · replace hF := if_t hp1 hF
    rw [show (decide (a1 ≤ a0)) = true from (decide_eq_true_iff).2 hp1] at ha
    refine op_want (yields ha rfl rfl) ?_; refine op_g ha rfl (g_move rfl) ?_; clear ha a; intro a ha; refine op_want (yields ha rfl rfl) ?_; refine op_g ha rfl (g_move rfl) ?_; clear ha a; intro a ha; refine op_want (yields ha rfl rfl) ?_; refine op_g ha rfl (g_leq rfl rfl) ?_; clear ha a; intro a ha; refine op_g ha rfl (g_pick rfl rfl) ?_; clear ha a; intro a ha; refine op_g ha rfl (g_assign rfl) ?_; clear ha a; intro a ha; refine wpList_nil ?_; replace ha := ha.sub (σ' := [(6, (.bool (decide (a0 ≤ a2))))]) ⟨rfl, trivial⟩; refine e_then ?_; refine wp_ret ?_; obtain rfl := Option.some.inj hF
    exact f_ret1 ha rfl rfl ⟨rfl, hE⟩
  replace hF := if_f hp1 hF
  rw [show (decide (a1 ≤ a0)) = false from b_false (decide_eq_true_iff) hp1] at ha
  (iterate 3 refine op_unwant ha rfl (yields ha rfl rfl) rfl ?_; clear ha a; intro a ha); refine op_g ha rfl (g_pick rfl rfl) ?_; clear ha a; intro a ha; refine op_g ha rfl (g_assign rfl) ?_; clear ha a; intro a ha; refine wpList_nil ?_; replace ha := ha.sub (σ' := [(6, (.bool false))]) ⟨rfl, trivial⟩; refine e_then ?_; refine wp_ret ?_; obtain rfl := Option.some.inj hF
  exact f_ret1 ha rfl rfl ⟨rfl, hE⟩
set_option maxHeartbeats 2000000 in
theorem W_impl_increasing {W : World} {va0 : Value} {fa0 : List Nat} {a0 : (List Int)} (ha0 : Ro Rp.int W fa0 va0 a0) {a1 : Int} (ha1 : InI a1) {r : Bool} (hF : F_impl_increasing a0 a1 = some r) :
    Calls Tryd.prog 33 [va0, .int .i64 a1].toArray W (Ret fun u w' => u = .bool r ∧ Ext W w') := by
  refine f_enter Tryd.func33 rfl Tryd.ntmps33 rfl ?_
  intro a ha
  replace ha : Fr 33 [(0, va0), (1, (.int .i64 a1))] a := ha
  have hE : Chg [] W W := Chg.refl _ _
  unfold F_impl_increasing at hF
  refine wp_seq ?_; refine wp_region_lit ?_; refine op_g ha rfl (g_assign rfl) ?_; clear ha a; intro a ha; refine wpList_nil ?_; replace ha := ha.sub (σ' := [(0, va0), (1, (.int .i64 a1))]) ⟨rfl, rfl, trivial⟩; refine e_then ?_; refine wp_seq ?_; refine wp_seq ?_; refine wp_region_lit ?_; refine op_g ha rfl (g_move rfl) ?_; clear ha a; intro a ha; refine op_g ha rfl (g_lenR sl22.und ha0 rfl) ?_; clear ha a; intro a ha; refine op_g ha rfl (g_move rfl) ?_; clear ha a; intro a ha; refine wpList_nil ?_; replace ha := ha.sub (σ' := [(0, va0), (1, (.int .i64 a1)), (7, va0), (8, (.int .i64 (a0.length : Int))), (9, (.int .i64 0))]) ⟨rfl, rfl, rfl, rfl, rfl, trivial⟩
  refine e_then ?_; obtain ⟨o98, ho99, hK100⟩ := bnd_some hF
  obtain ⟨n101, hn102⟩ := lp_some ho99; clear ho99
  refine c_loop (fun a w => Fr 33 [] a ∧ Chg [] W w ∧ o98 = .inl ()) (fun n a w => ∃ (i49 : Int), Fr 33 [(0, va0), (1, (.int .i64 a1)), (7, va0), (8, (.int .i64 (a0.length : Int))), (9, (.int .i64 i49))] a ∧ Chg [] W w ∧ InI i49 ∧ lpN (fun s => F_impl_increasing_l1 a0 a1 s) n i49 = some o98) n101 ⟨0, ha.sub ⟨rfl, rfl, rfl, rfl, rfl, trivial⟩, hE, (show InI 0 from by decide), hn102⟩ ?_ ?_
  · rintro m106 a w48 ⟨i49, ha, hE51, hI50, hF⟩
    cases m106 with
    | zero => exact (lpN_zero hF).elim
    | succ m106 =>
      obtain ⟨z105, hF, hN104⟩ := lpN_succ hF
      have hF : F_impl_increasing_l1 a0 a1 i49 = some z105 := hF; unfold F_impl_increasing_l1 at hF
      refine wp_seq ?_; refine wp_region_lit ?_; refine op_g ha rfl (g_lss rfl rfl) ?_; clear ha a; intro a ha; refine wpList_nil ?_; replace ha := ha.sub (σ' := [(0, va0), (1, (.int .i64 a1)), (7, va0), (8, (.int .i64 (a0.length : Int))), (9, (.int .i64 i49)), (10, (.bool (decide (i49 < (a0.length : Int)))))]) ⟨rfl, rfl, rfl, rfl, rfl, rfl, trivial⟩; refine e_then ?_; refine wp_seq ?_; refine c_cond (i49 < (a0.length : Int)) ha rfl (decide_eq_true_iff) (fun hp107 => ?_) (fun hp107 => ?_)
      · replace hF := if_t hp107 hF
        refine wp_skip ?_; refine e_then ?_; refine wp_seq ?_; refine wp_block ?_; refine wp_seq ?_; refine wp_region_lit ?_; refine op_g ha rfl (g_move rfl) ?_; clear ha a; intro a ha; obtain ⟨x108, g109, gx110, hF⟩ := idx_some hF
        obtain ⟨p111, cs112, f113, hf114, hpb115, hat116, hr117, hi118⟩ := ha0.at g109 gx110
        obtain ⟨rfl, hI119, rfl⟩ := hr117
        refine op_g ha rfl (hi118.gives sl22 rfl rfl) ?_; clear ha a; intro a ha; refine op_g ha rfl (g_load0 hE51 Tryd.isAgg2 rfl hat116.one) ?_; clear ha a; intro a ha; (iterate 2 refine op_g ha rfl (g_assign rfl) ?_; clear ha a; intro a ha); refine wpList_nil ?_; replace ha := ha.sub (σ' := [(0, va0), (1, (.int .i64 a1)), (5, (.int .i64 i49)), (6, (.int .i64 x108)), (7, va0), (8, (.int .i64 (a0.length : Int))), (9, (.int .i64 i49))]) ⟨rfl, rfl, rfl, rfl, rfl, rfl, rfl, trivial⟩; refine e_then ?_; refine wp_seq ?_; refine wp_region_lit ?_; (iterate 2 refine op_g ha rfl (g_move rfl) ?_; clear ha a; intro a ha)
        obtain ⟨hI120, hF⟩ := ck_some hF; refine op_g ha rfl (g_sub rfl rfl hI120) ?_; clear ha a; intro a ha; obtain ⟨x122, hc123, hF⟩ := cal_some hF
        refine o_call ha rfl rfl Tryd.call38 (W_impl_inRange hI119 (show InI 0 from by decide) hI120 hc123) ?_; clear ha a; rintro v124 w125 ⟨rfl, hx126⟩ a ha
        have hE127 := Ext.trans hE51 hx126
        refine op_g ha rfl (g_not rfl) ?_; clear ha a; intro a ha; refine op_g ha rfl (g_move rfl) ?_; clear ha a; intro a ha
        by_cases hp128 : ¬ (x122 = true)
        · replace hF := if_t hp128 hF
          rw [show (!x122) = true from (n_iff (Iff.rfl)).2 hp128] at ha
          (iterate 3 refine op_unwant ha rfl (yields ha rfl rfl) rfl ?_; clear ha a; intro a ha); (iterate 7 refine op_unwant0 ha rfl (yields0 ha rfl rfl) ?_; clear ha a; intro a ha); refine op_unwant ha rfl (yields ha rfl rfl) rfl ?_; clear ha a; intro a ha; refine op_g ha rfl (g_pick rfl rfl) ?_; clear ha a; intro a ha; refine wpList_nil ?_; replace ha := ha.sub (σ' := [(0, va0), (1, (.int .i64 a1)), (7, va0), (8, (.int .i64 (a0.length : Int))), (9, (.int .i64 i49)), (31, (.bool true))]) ⟨rfl, rfl, rfl, rfl, rfl, rfl, trivial⟩; refine e_then ?_; refine c_true ha rfl ?_; refine wp_seq ?_; refine wp_region_lit ?_
          refine op_g ha rfl (g_assign rfl) ?_; clear ha a; intro a ha; refine wpList_nil ?_; replace ha := ha.sub (σ' := [(4, (.bool false))]) ⟨rfl, trivial⟩; refine e_then ?_; refine wp_ret ?_; refine e_blk_ret ?_; refine e_then_ret ?_; refine e_lq_ret ?_; refine e_then_ret ?_; obtain rfl := Option.some.inj hF
          have e129 := LK_inr hN104; subst e129
          have e130 := BK_inr hK100; subst e130
          exact f_ret1 ha rfl rfl ⟨rfl, hE127⟩
        replace hF := if_f hp128 hF
        rw [show (!x122) = false from b_false (n_iff (Iff.rfl)) hp128] at ha
        refine op_want (yields ha rfl rfl) ?_; refine op_g ha rfl (g_move rfl) ?_; clear ha a; intro a ha; refine op_want (yields ha rfl rfl) ?_; refine op_g ha rfl (g_gtr rfl rfl) ?_; clear ha a; intro a ha; refine op_want (yields ha rfl rfl) ?_; refine op_g ha rfl (g_move rfl) ?_; clear ha a; intro a ha
        by_cases hp131 : 0 < i49
        · replace hF := if_t hp131 hF
          rw [show (decide (0 < i49)) = true from (decide_eq_true_iff).2 hp131] at ha
          refine op_want (yields ha rfl rfl) ?_; refine op_g ha rfl (g_move rfl) ?_; clear ha a; intro a ha; refine op_want (yields ha rfl rfl) ?_; refine op_g ha rfl (g_move rfl) ?_; clear ha a; intro a ha; refine op_want (yields ha rfl rfl) ?_; obtain ⟨hI132, hF⟩ := ck_some hF; refine op_g ha rfl (g_sub rfl rfl hI132) ?_; clear ha a; intro a ha; refine op_want (yields ha rfl rfl) ?_; obtain ⟨x134, g135, gx136, hF⟩ := idx_some hF
          obtain ⟨p137, cs138, f139, hf140, hpb141, hat142, hr143, hi144⟩ := ha0.at g135 gx136
          obtain ⟨rfl, hI145, rfl⟩ := hr143
          refine op_g ha rfl (hi144.gives sl22 rfl rfl) ?_; clear ha a; intro a ha; refine op_want (yields ha rfl rfl) ?_; refine op_g ha rfl (g_load0 hE127 Tryd.isAgg2 rfl hat142.one) ?_; clear ha a; intro a ha; refine op_want (yields ha rfl rfl) ?_; refine op_g ha rfl (g_move rfl) ?_; clear ha a; intro a ha; refine op_want (yields ha rfl rfl) ?_; refine op_g ha rfl (g_geq rfl rfl) ?_; clear ha a; intro a ha; refine op_want (yields ha rfl rfl) ?_; (iterate 2 refine op_g ha rfl (g_pick rfl rfl) ?_; clear ha a; intro a ha); refine wpList_nil ?_; replace ha := ha.sub (σ' := [(0, va0), (1, (.int .i64 a1)), (7, va0), (8, (.int .i64 (a0.length : Int))), (9, (.int .i64 i49)), (20, (.int .i64 i49)), (21, (.bool true)), (22, (.bool true)), (23, va0), (24, (.int .i64 i49)), (25, (.int .i64 (i49 - 1))), (26, (.pointer (some p137))), (27, (.int .i64 x134)), (28, (.int .i64 x108)), (29, (.bool (decide (x108 ≤ x134)))), (30, (.bool (decide (x108 ≤ x134)))), (31, (.bool (decide (x108 ≤ x134))))]) ⟨rfl, rfl, rfl, rfl, rfl, rfl, rfl, rfl, rfl, rfl, rfl, rfl, rfl, rfl, rfl, rfl, rfl, trivial⟩
          refine e_then ?_; refine c_cond (x108 ≤ x134) ha rfl (decide_eq_true_iff) (fun hp146 => ?_) (fun hp146 => ?_)
          · replace hF := if_t hp146 hF
            refine wp_seq ?_; refine wp_region_lit ?_; refine op_g ha rfl (g_assign rfl) ?_; clear ha a; intro a ha; refine wpList_nil ?_; replace ha := ha.sub (σ' := [(4, (.bool false))]) ⟨rfl, trivial⟩; refine e_then ?_; refine wp_ret ?_; refine e_blk_ret ?_; refine e_then_ret ?_; refine e_lq_ret ?_; refine e_then_ret ?_; obtain rfl := Option.some.inj hF
            have e147 := LK_inr hN104; subst e147
            have e148 := BK_inr hK100; subst e148
            exact f_ret1 ha rfl rfl ⟨rfl, hE127⟩
          replace hF := if_f hp146 hF; refine wp_skip ?_; refine e_blk ?_; refine e_then ?_; refine wp_region_lit ?_; obtain ⟨hI149, hF⟩ := ck_some hF; refine op_g ha rfl (g_add rfl rfl hI149) ?_; clear ha a; intro a ha; refine op_g ha rfl (g_move rfl) ?_; clear ha a; intro a ha; refine wpList_nil ?_; replace ha := ha.sub (σ' := [(0, va0), (1, (.int .i64 a1)), (7, va0), (8, (.int .i64 (a0.length : Int))), (9, (.int .i64 (i49 + 1))), (20, (.int .i64 i49)), (21, (.bool true)), (22, (.bool true)), (23, va0), (24, (.int .i64 i49)), (25, (.int .i64 (i49 - 1))), (26, (.pointer (some p137))), (27, (.int .i64 x134)), (28, (.int .i64 x108)), (29, (.bool (decide (x108 ≤ x134)))), (30, (.bool (decide (x108 ≤ x134))))]) ⟨rfl, rfl, rfl, rfl, rfl, rfl, rfl, rfl, rfl, rfl, rfl, rfl, rfl, rfl, rfl, rfl, trivial⟩
          refine e_lq ?_; obtain rfl := Option.some.inj hF
          exact ⟨_, Nat.lt_succ_self _, i49 + 1, ha.sub ⟨rfl, rfl, rfl, rfl, rfl, trivial⟩, hE127, hI149, hN104⟩
        replace hF := if_f hp131 hF
        rw [show (decide (0 < i49)) = false from b_false (decide_eq_true_iff) hp131] at ha
        (iterate 7 refine op_unwant ha rfl (yields ha rfl rfl) rfl ?_; clear ha a; intro a ha); refine op_want (yields ha rfl rfl) ?_; (iterate 2 refine op_g ha rfl (g_pick rfl rfl) ?_; clear ha a; intro a ha); refine wpList_nil ?_; replace ha := ha.sub (σ' := [(0, va0), (1, (.int .i64 a1)), (7, va0), (8, (.int .i64 (a0.length : Int))), (9, (.int .i64 i49)), (20, (.int .i64 i49)), (21, (.bool false)), (22, (.bool false)), (30, (.bool false)), (31, (.bool false))]) ⟨rfl, rfl, rfl, rfl, rfl, rfl, rfl, rfl, rfl, rfl, trivial⟩; refine e_then ?_; refine c_false ha rfl ?_; refine wp_skip ?_; refine e_blk ?_
        refine e_then ?_; refine wp_region_lit ?_; obtain ⟨hI151, hF⟩ := ck_some hF; refine op_g ha rfl (g_add rfl rfl hI151) ?_; clear ha a; intro a ha; refine op_g ha rfl (g_move rfl) ?_; clear ha a; intro a ha; refine wpList_nil ?_; replace ha := ha.sub (σ' := [(0, va0), (1, (.int .i64 a1)), (7, va0), (8, (.int .i64 (a0.length : Int))), (9, (.int .i64 (i49 + 1))), (20, (.int .i64 i49)), (21, (.bool false)), (22, (.bool false)), (30, (.bool false))]) ⟨rfl, rfl, rfl, rfl, rfl, rfl, rfl, rfl, rfl, trivial⟩; refine e_lq ?_; obtain rfl := Option.some.inj hF
        exact ⟨_, Nat.lt_succ_self _, i49 + 1, ha.sub ⟨rfl, rfl, rfl, rfl, rfl, trivial⟩, hE127, hI151, hN104⟩
      replace hF := if_f hp107 hF; refine wp_exit ?_; refine e_then_exit ?_; refine e_lq_eq ?_; obtain rfl := Option.some.inj hF
      exact ⟨ha.sub trivial, hE51, (LK_inr hN104).symm⟩
  rintro a w97 ⟨ha, hE103, rfl⟩
  have hF : F_impl_increasing_k2 = some _ := hK100; clear hK100; unfold F_impl_increasing_k2 at hF
  refine e_then ?_; refine wp_seq ?_; refine wp_region_lit ?_; refine op_g ha rfl (g_assign rfl) ?_; clear ha a; intro a ha; refine wpList_nil ?_; refine e_then ?_; refine wp_ret ?_; obtain rfl := Option.some.inj hF
  exact f_ret1 ha rfl rfl ⟨rfl, hE103⟩
set_option maxHeartbeats 2000000 in
theorem W_impl_placesIn {W : World} {va0 : Value} {fa0 : List Nat} {a0 : (List Int)} (ha0 : Ro Rp.int W fa0 va0 a0) {r : ((List Int) × Bool)} (hF : F_impl_placesIn a0 = some r) :
    Calls Tryd.prog 25 [va0].toArray W (Ret fun u w' => ∃ (u0 : Value) (u1 : Value) (b_u0 : Int), u = .tuple #[u0, u1] ∧ Ow Rp.int 3 true w' [] b_u0 u0 r.1 ∧ Zn W b_u0 ∧ u1 = .bool r.2 ∧ Ext W w') := by
  refine f_enter Tryd.func25 rfl Tryd.ntmps25 rfl ?_
  intro a ha
  replace ha : Fr 39 [(0, va0)] a := ha
  have hE : Chg [] W W := Chg.refl _ _
  unfold F_impl_placesIn at hF
  refine wp_seq ?_; refine wp_region_lit ?_; (iterate 2 refine op_g ha rfl (g_assign rfl) ?_; clear ha a; intro a ha); refine wpList_nil ?_; replace ha := ha.sub (σ' := [(0, va0)]) ⟨rfl, trivial⟩; refine e_then ?_; refine wp_seq ?_; refine wp_region_lit ?_; refine op_g ha rfl (g_move rfl) ?_; clear ha a; intro a ha; refine op_g ha rfl (g_lenR sl22.und ha0 rfl) ?_; clear ha a; intro a ha; refine op_g ha rfl (g_assign rfl) ?_; clear ha a; intro a ha; refine wpList_nil ?_; replace ha := ha.sub (σ' := [(0, va0), (4, (.int .i64 (a0.length : Int)))]) ⟨rfl, rfl, trivial⟩; refine e_then ?_; refine wp_seq ?_
  refine wp_seq ?_; refine wp_region_lit ?_; refine op_g ha rfl (g_move rfl) ?_; clear ha a; intro a ha; refine op_g ha rfl (g_lss rfl rfl) ?_; clear ha a; intro a ha; refine op_g ha rfl (g_move rfl) ?_; clear ha a; intro a ha
  by_cases hp31 : (a0.length : Int) < 1
  · replace hF := if_t hp31 hF
    rw [show (decide ((a0.length : Int) < 1)) = true from (decide_eq_true_iff).2 hp31] at ha
    (iterate 2 refine op_unwant ha rfl (yields ha rfl rfl) rfl ?_; clear ha a; intro a ha); refine op_g ha rfl (g_pick rfl rfl) ?_; clear ha a; intro a ha; refine op_g ha rfl (g_move rfl) ?_; clear ha a; intro a ha; (iterate 6 refine op_unwant ha rfl (yields ha rfl rfl) rfl ?_; clear ha a; intro a ha); refine op_g ha rfl (g_pick rfl rfl) ?_; clear ha a; intro a ha; refine wpList_nil ?_; replace ha := ha.sub (σ' := [(0, va0), (4, (.int .i64 (a0.length : Int))), (23, (.bool true))]) ⟨rfl, rfl, rfl, trivial⟩; refine e_then ?_; refine c_true ha rfl ?_; refine wp_seq ?_; refine wp_region_lit ?_; (iterate 2 refine op_g ha rfl (g_assign rfl) ?_; clear ha a; intro a ha)
    refine wpList_nil ?_; replace ha := ha.sub (σ' := [(2, (.slice none 0 0)), (3, (.bool false))]) ⟨rfl, rfl, trivial⟩; refine e_then ?_; refine wp_ret ?_; refine e_then_ret ?_; obtain rfl := Option.some.inj hF
    exact f_ret2 ha rfl rfl rfl ⟨_, _, -1, rfl, (Ow.nil (by decide)), (.inl (by decide)), rfl, hE⟩
  replace hF := if_f hp31 hF
  rw [show (decide ((a0.length : Int) < 1)) = false from b_false (decide_eq_true_iff) hp31] at ha
  refine op_want (yields ha rfl rfl) ?_; refine op_g ha rfl (g_move rfl) ?_; clear ha a; intro a ha; refine op_want (yields ha rfl rfl) ?_; refine op_g ha rfl (g_gtr rfl rfl) ?_; clear ha a; intro a ha; refine op_g ha rfl (g_pick rfl rfl) ?_; clear ha a; intro a ha; refine op_g ha rfl (g_move rfl) ?_; clear ha a; intro a ha
  by_cases hp32 : 16 < (a0.length : Int)
  · replace hF := if_t hp32 hF
    rw [show (decide (16 < (a0.length : Int))) = true from (decide_eq_true_iff).2 hp32] at ha
    (iterate 6 refine op_unwant ha rfl (yields ha rfl rfl) rfl ?_; clear ha a; intro a ha); refine op_g ha rfl (g_pick rfl rfl) ?_; clear ha a; intro a ha; refine wpList_nil ?_; replace ha := ha.sub (σ' := [(0, va0), (4, (.int .i64 (a0.length : Int))), (23, (.bool true))]) ⟨rfl, rfl, rfl, trivial⟩; refine e_then ?_; refine c_true ha rfl ?_; refine wp_seq ?_; refine wp_region_lit ?_; (iterate 2 refine op_g ha rfl (g_assign rfl) ?_; clear ha a; intro a ha); refine wpList_nil ?_; replace ha := ha.sub (σ' := [(2, (.slice none 0 0)), (3, (.bool false))]) ⟨rfl, rfl, trivial⟩; refine e_then ?_; refine wp_ret ?_
    refine e_then_ret ?_; obtain rfl := Option.some.inj hF
    exact f_ret2 ha rfl rfl rfl ⟨_, _, -1, rfl, (Ow.nil (by decide)), (.inl (by decide)), rfl, hE⟩
  replace hF := if_f hp32 hF
  rw [show (decide (16 < (a0.length : Int))) = false from b_false (decide_eq_true_iff) hp32] at ha
  refine op_want (yields ha rfl rfl) ?_; refine op_g ha rfl (g_move rfl) ?_; clear ha a; intro a ha; refine op_want (yields ha rfl rfl) ?_; obtain ⟨x33, hc34, hF⟩ := cal_some hF
  refine o_call ha rfl rfl Tryd.call35 (W_slices_Values_int64 (ha0.ext hE) hc34) ?_; clear ha a; rintro v35 w36 ⟨h38, hx37⟩ a ha
  have hE39 := Ext.trans hE hx37
  refine op_want (yields ha rfl rfl) ?_; obtain ⟨x40, hc41, hF⟩ := cal_some hF
  refine o_call ha rfl rfl Tryd.call34 (W_slices_Sorted_int64 h38 hc41) ?_; clear ha a; rintro v42 w43 ⟨b45, h46, z47, hx44⟩ a ha
  have hE49 := Ext.trans hE39 hx44
  have q50 := Zn.upD z47 hE39
  refine op_want (yields ha rfl rfl) ?_; refine op_g ha rfl (g_move rfl) ?_; clear ha a; intro a ha; refine op_want (yields ha rfl rfl) ?_
  obtain ⟨fp51, hro52, hs53⟩ := h46.roF
  obtain ⟨x54, hc55, hF⟩ := cal_some hF
  refine o_call ha rfl rfl Tryd.call33 (W_impl_increasing hro52 ha0.len hc55) ?_; clear ha a; rintro v56 w57 ⟨rfl, hx58⟩ a ha
  replace h46 := h46.ext hx58
  have hE59 := Ext.trans hE49 hx58
  refine op_want (yields ha rfl rfl) ?_; refine op_g ha rfl (g_not rfl) ?_; clear ha a; intro a ha; refine op_g ha rfl (g_pick rfl rfl) ?_; clear ha a; intro a ha; refine wpList_nil ?_; replace ha := ha.sub (σ' := [(0, va0), (4, (.int .i64 (a0.length : Int))), (23, (.bool (!x54)))]) ⟨rfl, rfl, rfl, trivial⟩; refine e_then ?_; refine c_cond (¬ (x54 = true)) ha rfl (n_iff (Iff.rfl)) (fun hp60 => ?_) (fun hp60 => ?_)
  · replace hF := if_t hp60 hF
    refine wp_seq ?_; refine wp_region_lit ?_; (iterate 2 refine op_g ha rfl (g_assign rfl) ?_; clear ha a; intro a ha); refine wpList_nil ?_; replace ha := ha.sub (σ' := [(2, (.slice none 0 0)), (3, (.bool false))]) ⟨rfl, rfl, trivial⟩; refine e_then ?_; refine wp_ret ?_; refine e_then_ret ?_; obtain rfl := Option.some.inj hF
    exact f_ret2 ha rfl rfl rfl ⟨_, _, -1, rfl, (Ow.nil (by decide)), (.inl (by decide)), rfl, hE59⟩
  replace hF := if_f hp60 hF; refine wp_skip ?_; refine e_then ?_; refine wp_seq ?_; refine wp_region_lit ?_; refine op_g ha rfl (g_move rfl) ?_; clear ha a; intro a ha; obtain ⟨g65, g65b, hF⟩ := mkS_some hF
  refine o_make (z0 := (0 : Int)) Rp.int ha rfl sl37 rfl (fun w => ⟨rfl, by decide, rfl⟩) rfl g65 g65b ?_; clear ha a; intro v61 w62 h63 hx64 a ha
  obtain ⟨b68, hb68⟩ : ∃ b : Int, b = w57.heap.size := ⟨_, rfl⟩; rw [← hb68] at h63
  have q69 := zn_of hb68
  have q70 := Zn.upD q69 hE59
  have hE71 := Ext.trans hE59 hx64
  refine op_g ha rfl (g_assign rfl) ?_; clear ha a; intro a ha; refine wpList_nil ?_; replace ha := ha.sub (σ' := [(0, va0), (5, v61)]) ⟨rfl, rfl, trivial⟩; refine e_then ?_; refine wp_seq ?_; refine wp_seq ?_; refine wp_region_lit ?_; refine op_g ha rfl (g_move rfl) ?_; clear ha a; intro a ha; refine op_g ha rfl (g_lenR sl22.und ha0 rfl) ?_; clear ha a; intro a ha; refine op_g ha rfl (g_move rfl) ?_; clear ha a; intro a ha; refine wpList_nil ?_; replace ha := ha.sub (σ' := [(5, v61), (26, va0), (27, (.int .i64 (a0.length : Int))), (28, (.int .i64 0))]) ⟨rfl, rfl, rfl, rfl, trivial⟩; refine e_then ?_
  obtain ⟨o178, ho179, hK180⟩ := bnd_some hF
  obtain ⟨n181, hn182⟩ := lp_some ho179; clear ho179
  refine c_loop (fun a w => ∃ (l175 : (List Int)) (v176 : Value) (b177 : Int), Fr 39 [(5, v176)] a ∧ Chg [] W w ∧ Ow Rp.int 3 true w [] b177 v176 l175 ∧ Zn W b177 ∧ o178 = .inl l175) (fun n a w => ∃ (l123 : (List Int)) (i126 : Int) (v124 : Value) (b125 : Int), Fr 39 [(5, v124), (26, va0), (27, (.int .i64 (a0.length : Int))), (28, (.int .i64 i126))] a ∧ Chg [] W w ∧ InI i126 ∧ Ow Rp.int 3 true w [] b125 v124 l123 ∧ Zn W b125 ∧ lpN (fun s => F_impl_placesIn_l1 a0 s.1 s.2) n (l123, i126) = some o178) n181 ⟨(List.replicate ((a0.length : Int) : Int).toNat (0 : Int)), 0, v61, b68, ha.sub ⟨rfl, rfl, rfl, rfl, trivial⟩, hE71, (show InI 0 from by decide), h63, q70, hn182⟩ ?_ ?_
  · rintro m186 a w119 ⟨l123, i126, v124, b125, ha, hE128, hI127, h121, z122, hF⟩
    cases m186 with
    | zero => exact (lpN_zero hF).elim
    | succ m186 =>
      obtain ⟨z185, hF, hN184⟩ := lpN_succ hF
      have hF : F_impl_placesIn_l1 a0 l123 i126 = some z185 := hF; unfold F_impl_placesIn_l1 at hF
      refine wp_seq ?_; refine wp_region_lit ?_; refine op_g ha rfl (g_lss rfl rfl) ?_; clear ha a; intro a ha; refine wpList_nil ?_; replace ha := ha.sub (σ' := [(5, v124), (26, va0), (27, (.int .i64 (a0.length : Int))), (28, (.int .i64 i126)), (29, (.bool (decide (i126 < (a0.length : Int)))))]) ⟨rfl, rfl, rfl, rfl, rfl, trivial⟩; refine e_then ?_; refine wp_seq ?_; refine c_cond (i126 < (a0.length : Int)) ha rfl (decide_eq_true_iff) (fun hp187 => ?_) (fun hp187 => ?_)
      · replace hF := if_t hp187 hF
        refine wp_skip ?_; refine e_then ?_; refine wp_seq ?_; refine wp_block ?_; refine wp_seq ?_; refine wp_region_lit ?_; refine op_g ha rfl (g_move rfl) ?_; clear ha a; intro a ha; obtain ⟨x188, g189, gx190, hF⟩ := idx_some hF
        obtain ⟨p191, cs192, f193, hf194, hpb195, hat196, hr197, hi198⟩ := ha0.at g189 gx190
        obtain ⟨rfl, hI199, rfl⟩ := hr197
        refine op_g ha rfl (hi198.gives sl22 rfl rfl) ?_; clear ha a; intro a ha; refine op_g ha rfl (g_load0 hE128 Tryd.isAgg2 rfl hat196.one) ?_; clear ha a; intro a ha; (iterate 2 refine op_g ha rfl (g_assign rfl) ?_; clear ha a; intro a ha); refine wpList_nil ?_; replace ha := ha.sub (σ' := [(5, v124), (6, (.int .i64 i126)), (7, (.int .i64 x188)), (26, va0), (27, (.int .i64 (a0.length : Int))), (28, (.int .i64 i126))]) ⟨rfl, rfl, rfl, rfl, rfl, rfl, trivial⟩; refine e_then ?_; refine wp_region_lit ?_; (iterate 3 refine op_g ha rfl (g_move rfl) ?_; clear ha a; intro a ha); obtain ⟨x200, g201, gx202, hF⟩ := idx_some hF
        obtain ⟨p203, cs204, f205, hf206, hpb207, hat208, hr209, hi210⟩ := h121.at g201 gx202
        obtain ⟨rfl, hI211, rfl⟩ := hr209
        refine op_g ha rfl (hi210.gives sl37 rfl rfl) ?_; clear ha a; intro a ha
        refine o_storeE (f := []) (q := i126) ha Tryd.sizeOf3 rfl rfl rfl h121 hi210 ⟨rfl, hI127, rfl⟩ (Nq.nil _) ?_; intro w212 fs213 h214 hc215 hs216
        obtain rfl := Subst.nil hs216
        have hE217 := Ext.then hE128 hc215 (Zn.bl z122)
        refine wpList_nil ?_; replace ha := ha.sub (σ' := [(5, v124), (26, va0), (27, (.int .i64 (a0.length : Int))), (28, (.int .i64 i126))]) ⟨rfl, rfl, rfl, rfl, trivial⟩; refine e_blk ?_; refine e_then ?_; refine wp_region_lit ?_; obtain ⟨hI218, hF⟩ := ck_some hF; refine op_g ha rfl (g_add rfl rfl hI218) ?_; clear ha a; intro a ha; refine op_g ha rfl (g_move rfl) ?_; clear ha a; intro a ha; refine wpList_nil ?_; replace ha := ha.sub (σ' := [(5, v124), (26, va0), (27, (.int .i64 (a0.length : Int))), (28, (.int .i64 (i126 + 1)))]) ⟨rfl, rfl, rfl, rfl, trivial⟩; refine e_lq ?_; obtain rfl := Option.some.inj hF
        exact ⟨_, Nat.lt_succ_self _, (l123.set ((x188 : Int).toNat) i126), i126 + 1, v124, b125, ha.sub ⟨rfl, rfl, rfl, rfl, trivial⟩, hE217, hI218, h214, z122, hN184⟩
      replace hF := if_f hp187 hF; refine wp_exit ?_; refine e_then_exit ?_; refine e_lq_eq ?_; obtain rfl := Option.some.inj hF
      exact ⟨l123, v124, b125, ha.sub ⟨rfl, trivial⟩, hE128, h121, z122, (LK_inr hN184).symm⟩
  rintro a w171 ⟨l175, v176, b177, ha, hE183, h173, z174, rfl⟩
  have hF : F_impl_placesIn_k2 l175 = some _ := hK180; clear hK180; unfold F_impl_placesIn_k2 at hF
  refine e_then ?_; refine wp_seq ?_; refine wp_region_lit ?_; refine op_g ha rfl (g_move rfl) ?_; clear ha a; intro a ha; (iterate 2 refine op_g ha rfl (g_assign rfl) ?_; clear ha a; intro a ha); refine wpList_nil ?_; replace ha := ha.sub (σ' := [(2, v176), (3, (.bool true))]) ⟨rfl, rfl, trivial⟩; refine e_then ?_; refine wp_ret ?_; obtain rfl := Option.some.inj hF
  exact f_ret2 ha rfl rfl rfl ⟨_, _, _, rfl, h173, z174, rfl, hE183⟩
set_option maxHeartbeats 2000000 in
theorem W_impl_one {W : World} {a0 : Int} (ha0 : InI a0) {r : (BitVec 32)} (hF : F_impl_one a0 = some r) :
    Calls Tryd.prog 19 [.int .i64 a0].toArray W (Ret fun u w' => u = .int .u32 (BitVec.toNat r : Int) ∧ Ext W w') := by
  refine f_enter Tryd.func19 rfl Tryd.ntmps19 rfl ?_
  intro a ha
  replace ha : Fr 5 [(0, (.int .i64 a0))] a := ha
  have hE : Chg [] W W := Chg.refl _ _
  unfold F_impl_one at hF
  refine wp_seq ?_; refine wp_region_lit ?_; refine op_g ha rfl (g_assign rfl) ?_; clear ha a; intro a ha; refine wpList_nil ?_; replace ha := ha.sub (σ' := [(0, (.int .i64 a0))]) ⟨rfl, trivial⟩; refine e_then ?_; refine wp_seq ?_; refine wp_region_lit ?_; refine op_g ha rfl (g_move rfl) ?_; clear ha a; intro a ha; obtain ⟨hs1, hF⟩ := grd_some hF; refine op_g ha rfl (g32_shl (m := (1#32)) rfl rfl hs1) ?_; clear ha a; intro a ha; refine op_g ha rfl (g_assign rfl) ?_; clear ha a; intro a ha; refine wpList_nil ?_; replace ha := ha.sub (σ' := [(2, (.int .u32 (BitVec.toNat ((1#32) <<< (a0 : Int).toNat) : Int)))]) ⟨rfl, trivial⟩
  refine e_then ?_; refine wp_ret ?_; obtain rfl := Option.some.inj hF
  exact f_ret1 ha rfl rfl ⟨rfl, hE⟩
set_option maxHeartbeats 2000000 in
theorem W_impl_nets_join {W : World} {va0 : Value} {ba0 : Int} {a0 : (List (BitVec 32))} (ha0 : Ow Rp.u32 34 true W [] ba0 va0 a0) {a1 : Int} (ha1 : InI a1) {a2 : Int} (ha2 : InI a2) {r : (List (BitVec 32))} (hF : F_impl_nets_join a0 a1 a2 = some r) :
    Calls Tryd.prog 26 [va0, .int .i64 a1, .int .i64 a2].toArray W (Ret fun u w' => u = .tuple #[] ∧ Ow Rp.u32 34 true w' [] ba0 va0 r ∧ Chg (bl ba0) W w') := by
  refine f_enter Tryd.func26 rfl Tryd.ntmps26 rfl ?_
  intro a ha
  replace ha : Fr 22 [(0, va0), (1, (.int .i64 a1)), (2, (.int .i64 a2))] a := ha
  have hE : Chg (bl ba0) W W := Chg.refl _ _
  unfold F_impl_nets_join at hF
  refine wp_seq ?_; refine d_region [0, 1, 2, 3, 4, 5, 6, 7] hmix ?_; refine u_g 0 rfl (by kernel_rfl) (want0 _) ha rfl (g_move rfl) ?_; clear ha a; intro a ha; refine u_g 1 rfl (by kernel_rfl) (want0 _) ha rfl (g_move rfl) ?_; clear ha a; intro a ha; obtain ⟨x1, g2, gx3, hF⟩ := idx_some hF
  obtain ⟨p4, cs5, f6, hf7, hpb8, hat9, hr10, hi11⟩ := ha0.at g2 gx3
  obtain ⟨rfl, rfl⟩ := hr10
  refine u_g 2 rfl (by kernel_rfl) (want0 _) ha rfl (hi11.gives sl30 rfl rfl) ?_; clear ha a; intro a ha; refine u_g 3 rfl (by kernel_rfl) (want0 _) ha rfl (g_load Tryd.isAgg34 rfl hat9.one) ?_; clear ha a; intro a ha; refine u_g 4 rfl (by kernel_rfl) (want0 _) ha rfl (g_move rfl) ?_; clear ha a; intro a ha; obtain ⟨x14, hc15, hF⟩ := cal_some hF; refine u_call (.int .u32 (BitVec.toNat x14 : Int)) 5 rfl (by kernel_rfl) (want0 _) ha rfl rfl Tryd.call19 (fun w13 hx12 => W_impl_one ha2 hc15) (fun _ _ _ h => ⟨h.1, h.2⟩) ?_; clear ha a; intro a ha; refine u_g 6 rfl (by kernel_rfl) (want0 _) ha rfl (g32_or (m := x1) (n := x14) rfl rfl) ?_; clear ha a; intro a ha
  obtain ⟨x16, g17, gx18, hF⟩ := idx_some hF
  obtain ⟨p19, cs20, f21, hf22, hpb23, hat24, hr25, hi26⟩ := ha0.at g17 gx18
  obtain ⟨rfl, rfl⟩ := hr25
  refine u_g 7 rfl (by kernel_rfl) (want0 _) ha rfl (hi26.gives sl30 rfl rfl) ?_; clear ha a; intro a ha
  refine u_only 8 rfl (by kernel_rfl) ?_; intro w27 hx28
  replace ha0 := ha0.ext hx28
  have hE29 := Chg.more hE hx28
  refine o_storeE (f := []) (q := x1 ||| x14) ha Tryd.sizeOf34 rfl rfl rfl ha0 hi26 ⟨rfl, rfl⟩ (Nq.nil _) ?_; intro w30 fs31 h32 hc33 hs34
  obtain rfl := Subst.nil hs34
  have hE35 := Chg.same hE29 hc33
  refine wpList_nil (e_sq ?_)
  refine ⟨fun h => absurd h (by decide), ?_⟩
  refine u_done (by kernel_rfl) ?_; intro w36 hx37
  replace h32 := h32.ext hx37
  have hE38 := Chg.more hE35 hx37
  replace ha := ha.sub (σ' := [(0, va0), (1, (.int .i64 a1)), (2, (.int .i64 a2))]) ⟨rfl, rfl, rfl, trivial⟩; refine e_then ?_; refine d_region [0, 1, 2, 3, 4, 5, 6, 7] hmix ?_; refine u_g 0 rfl (by kernel_rfl) (want0 _) ha rfl (g_move rfl) ?_; clear ha a; intro a ha; refine u_g 1 rfl (by kernel_rfl) (want0 _) ha rfl (g_move rfl) ?_; clear ha a; intro a ha; obtain ⟨x39, g40, gx41, hF⟩ := idx_some hF
  obtain ⟨p42, cs43, f44, hf45, hpb46, hat47, hr48, hi49⟩ := h32.at g40 gx41
  obtain ⟨rfl, rfl⟩ := hr48
  refine u_g 2 rfl (by kernel_rfl) (want0 _) ha rfl (hi49.gives sl30 rfl rfl) ?_; clear ha a; intro a ha; refine u_g 3 rfl (by kernel_rfl) (want0 _) ha rfl (g_load Tryd.isAgg34 rfl hat47.one) ?_; clear ha a; intro a ha; refine u_g 4 rfl (by kernel_rfl) (want0 _) ha rfl (g_move rfl) ?_; clear ha a; intro a ha; obtain ⟨x52, hc53, hF⟩ := cal_some hF; refine u_call (.int .u32 (BitVec.toNat x52 : Int)) 5 rfl (by kernel_rfl) (want0 _) ha rfl rfl Tryd.call19 (fun w51 hx50 => W_impl_one ha1 hc53) (fun _ _ _ h => ⟨h.1, h.2⟩) ?_; clear ha a; intro a ha; refine u_g 6 rfl (by kernel_rfl) (want0 _) ha rfl (g32_or (m := x39) (n := x52) rfl rfl) ?_; clear ha a; intro a ha
  obtain ⟨x54, g55, gx56, hF⟩ := idx_some hF
  obtain ⟨p57, cs58, f59, hf60, hpb61, hat62, hr63, hi64⟩ := h32.at g55 gx56
  obtain ⟨rfl, rfl⟩ := hr63
  refine u_g 7 rfl (by kernel_rfl) (want0 _) ha rfl (hi64.gives sl30 rfl rfl) ?_; clear ha a; intro a ha
  refine u_only 8 rfl (by kernel_rfl) ?_; intro w65 hx66
  replace h32 := h32.ext hx66
  have hE67 := Chg.more hE38 hx66
  refine o_storeE (f := []) (q := x39 ||| x52) ha Tryd.sizeOf34 rfl rfl rfl h32 hi64 ⟨rfl, rfl⟩ (Nq.nil _) ?_; intro w68 fs69 h70 hc71 hs72
  obtain rfl := Subst.nil hs72
  have hE73 := Chg.same hE67 hc71
  refine wpList_nil (e_sq ?_)
  refine ⟨fun h => absurd h (by decide), ?_⟩
  refine u_done (by kernel_rfl) ?_; intro w74 hx75
  replace h70 := h70.ext hx75
  have hE76 := Chg.more hE73 hx75
  replace ha := ha.sub (σ' := []) trivial
  obtain rfl := Option.some.inj hF
  exact f_end0 ha rfl ⟨rfl, h70, hE76⟩
set_option maxHeartbeats 2000000 in
theorem W_impl_crossings {W : World} {va0 : Value} {fa0 : List Nat} {a0 : (List Int)} (ha0 : Ro Rp.int W fa0 va0 a0) {va1 : Value} {fa1 : List Nat} {a1 : (List Int)} (ha1 : Ro Rp.int W fa1 va1 a1) {r : ((List (BitVec 32)) × Bool)} (hF : F_impl_crossings a0 a1 = some r) :
    Calls Tryd.prog 18 [va0, va1].toArray W (Ret fun u w' => ∃ (u0 : Value) (u1 : Value) (b_u0 : Int), u = .tuple #[u0, u1] ∧ Ow Rp.u32 34 true w' [] b_u0 u0 r.1 ∧ Zn W b_u0 ∧ u1 = .bool r.2 ∧ Ext W w') := by
  refine f_enter Tryd.func18 rfl Tryd.ntmps18 rfl ?_
  intro a ha
  replace ha : Fr 74 [(0, va0), (1, va1)] a := ha
  have hE : Chg [] W W := Chg.refl _ _
  unfold F_impl_crossings at hF
  refine wp_seq ?_; refine wp_region_lit ?_; (iterate 2 refine op_g ha rfl (g_assign rfl) ?_; clear ha a; intro a ha); refine wpList_nil ?_; replace ha := ha.sub (σ' := [(0, va0), (1, va1)]) ⟨rfl, rfl, trivial⟩; refine e_then ?_; refine wp_seq ?_; refine wp_region_lit ?_; refine op_g ha rfl (g_move rfl) ?_; clear ha a; intro a ha; obtain ⟨x1, hc2, hF⟩ := cal_some hF
  refine o_call ha rfl rfl Tryd.call25 (W_impl_placesIn (ha0.ext hE) hc2) ?_; clear ha a; rintro v3 w4 ⟨u6, u7, b8, rfl, h9, z10, rfl, hx5⟩ a ha
  have hE12 := Ext.trans hE hx5
  have q13 := Zn.upD z10 hE
  refine op_g ha rfl (g_move rfl) ?_; clear ha a; intro a ha; (iterate 2 refine op_g ha rfl (g_extract rfl rfl) ?_; clear ha a; intro a ha); (iterate 2 refine op_g ha rfl (g_assign rfl) ?_; clear ha a; intro a ha); refine wpList_nil ?_; replace ha := ha.sub (σ' := [(0, va0), (1, va1), (6, u6), (7, (.bool x1.2))]) ⟨rfl, rfl, rfl, rfl, trivial⟩; refine e_then ?_; refine wp_seq ?_; refine wp_region_lit ?_; refine op_g ha rfl (g_move rfl) ?_; clear ha a; intro a ha; obtain ⟨x14, hc15, hF⟩ := cal_some hF
  refine o_call ha rfl rfl Tryd.call25 (W_impl_placesIn (ha1.ext hE12) hc15) ?_; clear ha a; rintro v16 w17 ⟨u19, u20, b21, rfl, h22, z23, rfl, hx18⟩ a ha
  have q25 := Nq.new h9.fpb z23
  have q26 := Nq.madeO z23 h9.blt
  replace h9 := h9.ext hx18
  have hE27 := Ext.trans hE12 hx18
  have q28 := Zn.upD z23 hE12
  refine op_g ha rfl (g_move rfl) ?_; clear ha a; intro a ha; (iterate 2 refine op_g ha rfl (g_extract rfl rfl) ?_; clear ha a; intro a ha); (iterate 2 refine op_g ha rfl (g_assign rfl) ?_; clear ha a; intro a ha); refine wpList_nil ?_; replace ha := ha.sub (σ' := [(0, va0), (1, va1), (6, u6), (7, (.bool x1.2)), (8, u19), (9, (.bool x14.2))]) ⟨rfl, rfl, rfl, rfl, rfl, rfl, trivial⟩; refine e_then ?_; refine wp_seq ?_; refine wp_seq ?_; refine wp_region_lit ?_; refine op_g ha rfl (g_move rfl) ?_; clear ha a; intro a ha; refine op_g ha rfl (g_not rfl) ?_; clear ha a; intro a ha; refine op_g ha rfl (g_move rfl) ?_; clear ha a; intro a ha
  by_cases hp32 : ¬ (x1.2 = true)
  · replace hF := if_t hp32 hF
    rw [show (!x1.2) = true from (n_iff (Iff.rfl)).2 hp32] at ha
    (iterate 2 refine op_unwant ha rfl (yields ha rfl rfl) rfl ?_; clear ha a; intro a ha); refine op_g ha rfl (g_pick rfl rfl) ?_; clear ha a; intro a ha; refine op_g ha rfl (g_move rfl) ?_; clear ha a; intro a ha; (iterate 5 refine op_unwant ha rfl (yields ha rfl rfl) rfl ?_; clear ha a; intro a ha); refine op_g ha rfl (g_pick rfl rfl) ?_; clear ha a; intro a ha; refine wpList_nil ?_; replace ha := ha.sub (σ' := [(0, va0), (6, u6), (8, u19), (35, (.bool true))]) ⟨rfl, rfl, rfl, rfl, trivial⟩; refine e_then ?_; refine c_true ha rfl ?_; refine wp_seq ?_; refine wp_region_lit ?_; (iterate 2 refine op_g ha rfl (g_assign rfl) ?_; clear ha a; intro a ha)
    refine wpList_nil ?_; replace ha := ha.sub (σ' := [(4, (.slice none 0 0)), (5, (.bool false))]) ⟨rfl, rfl, trivial⟩; refine e_then ?_; refine wp_ret ?_; refine e_then_ret ?_; obtain rfl := Option.some.inj hF
    exact f_ret2 ha rfl rfl rfl ⟨_, _, -1, rfl, (Ow.nil (by decide)), (.inl (by decide)), rfl, hE27⟩
  replace hF := if_f hp32 hF
  rw [show (!x1.2) = false from b_false (n_iff (Iff.rfl)) hp32] at ha
  refine op_want (yields ha rfl rfl) ?_; refine op_g ha rfl (g_move rfl) ?_; clear ha a; intro a ha; refine op_want (yields ha rfl rfl) ?_; refine op_g ha rfl (g_not rfl) ?_; clear ha a; intro a ha; refine op_g ha rfl (g_pick rfl rfl) ?_; clear ha a; intro a ha; refine op_g ha rfl (g_move rfl) ?_; clear ha a; intro a ha
  by_cases hp33 : ¬ (x14.2 = true)
  · replace hF := if_t hp33 hF
    rw [show (!x14.2) = true from (n_iff (Iff.rfl)).2 hp33] at ha
    (iterate 5 refine op_unwant ha rfl (yields ha rfl rfl) rfl ?_; clear ha a; intro a ha); refine op_g ha rfl (g_pick rfl rfl) ?_; clear ha a; intro a ha; refine wpList_nil ?_; replace ha := ha.sub (σ' := [(0, va0), (6, u6), (8, u19), (35, (.bool true))]) ⟨rfl, rfl, rfl, rfl, trivial⟩; refine e_then ?_; refine c_true ha rfl ?_; refine wp_seq ?_; refine wp_region_lit ?_; (iterate 2 refine op_g ha rfl (g_assign rfl) ?_; clear ha a; intro a ha); refine wpList_nil ?_; replace ha := ha.sub (σ' := [(4, (.slice none 0 0)), (5, (.bool false))]) ⟨rfl, rfl, trivial⟩; refine e_then ?_; refine wp_ret ?_; refine e_then_ret ?_
    obtain rfl := Option.some.inj hF
    exact f_ret2 ha rfl rfl rfl ⟨_, _, -1, rfl, (Ow.nil (by decide)), (.inl (by decide)), rfl, hE27⟩
  replace hF := if_f hp33 hF
  rw [show (!x14.2) = false from b_false (n_iff (Iff.rfl)) hp33] at ha
  refine op_want (yields ha rfl rfl) ?_; refine op_g ha rfl (g_move rfl) ?_; clear ha a; intro a ha; refine op_want (yields ha rfl rfl) ?_; refine op_g ha rfl (g_lenR sl22.und ha0 rfl) ?_; clear ha a; intro a ha; refine op_want (yields ha rfl rfl) ?_; refine op_g ha rfl (g_move rfl) ?_; clear ha a; intro a ha; refine op_want (yields ha rfl rfl) ?_; refine op_g ha rfl (g_lenR sl22.und ha1 rfl) ?_; clear ha a; intro a ha; refine op_want (yields ha rfl rfl) ?_; refine op_g ha rfl (g_neq rfl rfl) ?_; clear ha a; intro a ha; refine op_g ha rfl (g_pick rfl rfl) ?_; clear ha a; intro a ha; refine wpList_nil ?_
  replace ha := ha.sub (σ' := [(0, va0), (6, u6), (8, u19), (35, (.bool (decide ((a0.length : Int) ≠ (a1.length : Int)))))]) ⟨rfl, rfl, rfl, rfl, trivial⟩; refine e_then ?_; refine c_cond ((a0.length : Int) ≠ (a1.length : Int)) ha rfl (decide_eq_true_iff) (fun hp34 => ?_) (fun hp34 => ?_)
  · replace hF := if_t hp34 hF
    refine wp_seq ?_; refine wp_region_lit ?_; (iterate 2 refine op_g ha rfl (g_assign rfl) ?_; clear ha a; intro a ha); refine wpList_nil ?_; replace ha := ha.sub (σ' := [(4, (.slice none 0 0)), (5, (.bool false))]) ⟨rfl, rfl, trivial⟩; refine e_then ?_; refine wp_ret ?_; refine e_then_ret ?_; obtain rfl := Option.some.inj hF
    exact f_ret2 ha rfl rfl rfl ⟨_, _, -1, rfl, (Ow.nil (by decide)), (.inl (by decide)), rfl, hE27⟩
  replace hF := if_f hp34 hF; refine wp_skip ?_; refine e_then ?_; refine wp_seq ?_; refine wp_region_lit ?_; refine op_g ha rfl (g_move rfl) ?_; clear ha a; intro a ha; refine op_g ha rfl (g_lenR sl22.und ha0 rfl) ?_; clear ha a; intro a ha; obtain ⟨g39, g39b, hF⟩ := mkS_some hF
  refine o_make (z0 := (0 : BitVec 32)) Rp.u32 ha rfl sl30 rfl (fun w => ⟨rfl, rfl⟩) rfl g39 g39b ?_; clear ha a; intro v35 w36 h37 hx38 a ha
  obtain ⟨b42, hb42⟩ : ∃ b : Int, b = w17.heap.size := ⟨_, rfl⟩; rw [← hb42] at h37
  have q43 := zn_of hb42
  have q44 := Nq.new h9.fpb q43
  have q45 := Nq.madeO q43 h9.blt
  have q46 := Nq.new h22.fpb q43
  have q47 := Nq.madeO q43 h22.blt
  have q48 := Zn.upD q43 hE27
  replace h9 := h9.ext hx38
  replace h22 := h22.ext hx38
  have hE49 := Ext.trans hE27 hx38
  refine op_g ha rfl (g_assign rfl) ?_; clear ha a; intro a ha; refine wpList_nil ?_; replace ha := ha.sub (σ' := [(6, u6), (8, u19), (10, v35)]) ⟨rfl, rfl, rfl, trivial⟩; refine e_then ?_; refine wp_seq ?_; refine wp_seq ?_; refine wp_region_lit ?_; refine op_g ha rfl (g_move rfl) ?_; clear ha a; intro a ha; refine op_g ha rfl (g_lenO sl37.und h9 rfl) ?_; clear ha a; intro a ha; refine op_g ha rfl (g_move rfl) ?_; clear ha a; intro a ha; refine wpList_nil ?_; replace ha := ha.sub (σ' := [(6, u6), (8, u19), (10, v35), (40, (.int .i64 (x1.1.length : Int))), (41, (.int .i64 0))]) ⟨rfl, rfl, rfl, rfl, rfl, trivial⟩
  refine e_then ?_; obtain ⟨o746, ho747, hK748⟩ := bnd_some hF
  obtain ⟨n749, hn750⟩ := lp_some ho747; clear ho747
  refine c_loop (fun a w => ∃ (l743 : (List (BitVec 32))) (v744 : Value) (b745 : Int), Fr 74 [(10, v744)] a ∧ Chg [] W w ∧ Ow Rp.u32 34 true w [] b745 v744 l743 ∧ Zn W b745 ∧ o746 = .inl l743) (fun n a w => ∃ (l402 : (List (BitVec 32))) (i405 : Int) (v403 : Value) (b404 : Int), Fr 74 [(6, u6), (8, u19), (10, v403), (40, (.int .i64 (x1.1.length : Int))), (41, (.int .i64 i405))] a ∧ Chg [] W w ∧ InI i405 ∧ Ow Rp.int 3 true w [] b8 u6 x1.1 ∧ Zn W b8 ∧ Ow Rp.int 3 true w [] b21 u19 x14.1 ∧ Zn W b21 ∧ Ow Rp.u32 34 true w [] b404 v403 l402 ∧ Zn W b404 ∧ Nq (bl b8 ++ []) b21 ∧ Nq (bl b8 ++ []) b404 ∧ Nq (bl b21 ++ []) b8 ∧ Nq (bl b21 ++ []) b404 ∧ Nq (bl b404 ++ []) b8 ∧ Nq (bl b404 ++ []) b21 ∧ lpN (fun s => F_impl_crossings_l1 x1 x14 s.1 s.2) n (l402, i405) = some o746) n749 ⟨(List.replicate ((a0.length : Int) : Int).toNat (0 : BitVec 32)), 0, v35, b42, ha.sub ⟨rfl, rfl, rfl, rfl, rfl, trivial⟩, hE49, (show InI 0 from by decide), h9, q13, h22, q28, h37, q48, q25, q44, q26, q46, q45, q47, hn750⟩ ?_ ?_
  · rintro m754 a w392 ⟨l402, i405, v403, b404, ha, hE413, hI406, h394, z395, h397, z398, h400, z401, q407, q408, q409, q410, q411, q412, hF⟩
    cases m754 with
    | zero => exact (lpN_zero hF).elim
    | succ m754 =>
      obtain ⟨z753, hF, hN752⟩ := lpN_succ hF
      have hF : F_impl_crossings_l1 x1 x14 l402 i405 = some z753 := hF; unfold F_impl_crossings_l1 at hF
      refine wp_seq ?_; refine wp_region_lit ?_; refine op_g ha rfl (g_lss rfl rfl) ?_; clear ha a; intro a ha; refine wpList_nil ?_; replace ha := ha.sub (σ' := [(6, u6), (8, u19), (10, v403), (40, (.int .i64 (x1.1.length : Int))), (41, (.int .i64 i405)), (42, (.bool (decide (i405 < (x1.1.length : Int)))))]) ⟨rfl, rfl, rfl, rfl, rfl, rfl, trivial⟩; refine e_then ?_; refine wp_seq ?_; refine c_cond (i405 < (x1.1.length : Int)) ha rfl (decide_eq_true_iff) (fun hp755 => ?_) (fun hp755 => ?_)
      · replace hF := if_t hp755 hF
        refine wp_skip ?_; refine e_then ?_; refine wp_seq ?_; refine wp_block ?_; refine wp_seq ?_; refine wp_region_lit ?_; refine op_g ha rfl (g_move rfl) ?_; clear ha a; intro a ha; refine op_g ha rfl (g_assign rfl) ?_; clear ha a; intro a ha; refine wpList_nil ?_; replace ha := ha.sub (σ' := [(6, u6), (8, u19), (10, v403), (11, (.int .i64 i405)), (40, (.int .i64 (x1.1.length : Int))), (41, (.int .i64 i405))]) ⟨rfl, rfl, rfl, rfl, rfl, rfl, trivial⟩; refine e_then ?_; refine wp_seq ?_; refine wp_region_lit ?_; (iterate 2 refine op_g ha rfl (g_move rfl) ?_; clear ha a; intro a ha); refine wpList_nil ?_
        replace ha := ha.sub (σ' := [(6, u6), (8, u19), (10, v403), (11, (.int .i64 i405)), (40, (.int .i64 (x1.1.length : Int))), (41, (.int .i64 i405)), (44, (.int .i64 i405)), (45, (.int .i64 0))]) ⟨rfl, rfl, rfl, rfl, rfl, rfl, rfl, rfl, trivial⟩; refine e_then ?_; obtain ⟨o984, ho985, hK986⟩ := bnd_some hF
        obtain ⟨n987, hn988⟩ := lp_some ho985; clear ho985
        refine c_loop (fun a w => ∃ (l975 : (List (BitVec 32))) (v976 : Value) (b977 : Int), Fr 74 [(6, u6), (8, u19), (10, v976), (40, (.int .i64 (x1.1.length : Int))), (41, (.int .i64 i405))] a ∧ Chg [] W w ∧ Ow Rp.int 3 true w [] b8 u6 x1.1 ∧ Zn W b8 ∧ Ow Rp.int 3 true w [] b21 u19 x14.1 ∧ Zn W b21 ∧ Ow Rp.u32 34 true w [] b977 v976 l975 ∧ Zn W b977 ∧ Nq (bl b8 ++ []) b21 ∧ Nq (bl b8 ++ []) b977 ∧ Nq (bl b21 ++ []) b8 ∧ Nq (bl b21 ++ []) b977 ∧ Nq (bl b977 ++ []) b8 ∧ Nq (bl b977 ++ []) b21 ∧ o984 = .inl l975) (fun n a w => ∃ (l868 : (List (BitVec 32))) (i871 : Int) (v869 : Value) (b870 : Int), Fr 74 [(6, u6), (8, u19), (10, v869), (11, (.int .i64 i405)), (40, (.int .i64 (x1.1.length : Int))), (41, (.int .i64 i405)), (44, (.int .i64 i405)), (45, (.int .i64 i871))] a ∧ Chg [] W w ∧ InI i871 ∧ Ow Rp.int 3 true w [] b8 u6 x1.1 ∧ Zn W b8 ∧ Ow Rp.int 3 true w [] b21 u19 x14.1 ∧ Zn W b21 ∧ Ow Rp.u32 34 true w [] b870 v869 l868 ∧ Zn W b870 ∧ Nq (bl b8 ++ []) b21 ∧ Nq (bl b8 ++ []) b870 ∧ Nq (bl b21 ++ []) b8 ∧ Nq (bl b21 ++ []) b870 ∧ Nq (bl b870 ++ []) b8 ∧ Nq (bl b870 ++ []) b21 ∧ lpN (fun s => F_impl_crossings_l2 x1 x14 i405 s.1 s.2) n (l868, i871) = some o984) n987 ⟨l402, 0, v403, b404, ha.sub ⟨rfl, rfl, rfl, rfl, rfl, rfl, rfl, rfl, trivial⟩, hE413, (show InI 0 from by decide), h394, z395, h397, z398, h400, z401, q407, q408, q409, q410, q411, q412, hn988⟩ ?_ ?_
        · rintro m992 a w858 ⟨l868, i871, v869, b870, ha, hE879, hI872, h860, z861, h863, z864, h866, z867, q873, q874, q875, q876, q877, q878, hF⟩
          cases m992 with
          | zero => exact (lpN_zero hF).elim
          | succ m992 =>
            obtain ⟨z991, hF, hN990⟩ := lpN_succ hF
            have hF : F_impl_crossings_l2 x1 x14 i405 l868 i871 = some z991 := hF; unfold F_impl_crossings_l2 at hF
            refine wp_seq ?_; refine wp_region_lit ?_; refine op_g ha rfl (g_lss rfl rfl) ?_; clear ha a; intro a ha; refine wpList_nil ?_; replace ha := ha.sub (σ' := [(6, u6), (8, u19), (10, v869), (11, (.int .i64 i405)), (40, (.int .i64 (x1.1.length : Int))), (41, (.int .i64 i405)), (44, (.int .i64 i405)), (45, (.int .i64 i871)), (46, (.bool (decide (i871 < i405))))]) ⟨rfl, rfl, rfl, rfl, rfl, rfl, rfl, rfl, rfl, trivial⟩; refine e_then ?_; refine wp_seq ?_; refine c_cond (i871 < i405) ha rfl (decide_eq_true_iff) (fun hp993 => ?_) (fun hp993 => ?_)
            · replace hF := if_t hp993 hF
              refine wp_skip ?_; refine e_then ?_; refine wp_seq ?_; refine wp_block ?_; refine wp_seq ?_; refine wp_region_lit ?_; refine op_g ha rfl (g_move rfl) ?_; clear ha a; intro a ha; refine op_g ha rfl (g_assign rfl) ?_; clear ha a; intro a ha; refine wpList_nil ?_; replace ha := ha.sub (σ' := [(6, u6), (8, u19), (10, v869), (11, (.int .i64 i405)), (12, (.int .i64 i871)), (40, (.int .i64 (x1.1.length : Int))), (41, (.int .i64 i405)), (44, (.int .i64 i405)), (45, (.int .i64 i871))]) ⟨rfl, rfl, rfl, rfl, rfl, rfl, rfl, rfl, rfl, trivial⟩; refine e_then ?_; refine wp_seq ?_; refine d_quiet hmix (by kernel_rfl) ?_
              (iterate 2 refine q_g ha rfl (g_move rfl) ?_; clear ha a; intro a ha); obtain ⟨x994, g995, gx996, hF⟩ := idx_some hF
              obtain ⟨p997, cs998, f999, hf1000, hpb1001, hat1002, hr1003, hi1004⟩ := h860.at g995 gx996
              obtain ⟨rfl, hI1005, rfl⟩ := hr1003
              refine q_g ha rfl (hi1004.gives sl37 rfl rfl) ?_; clear ha a; intro a ha; refine q_g ha rfl (g_load Tryd.isAgg3 rfl hat1002.one) ?_; clear ha a; intro a ha; (iterate 2 refine q_g ha rfl (g_move rfl) ?_; clear ha a; intro a ha); obtain ⟨x1006, g1007, gx1008, hF⟩ := idx_some hF
              obtain ⟨p1009, cs1010, f1011, hf1012, hpb1013, hat1014, hr1015, hi1016⟩ := h860.at g1007 gx1008
              obtain ⟨rfl, hI1017, rfl⟩ := hr1015
              refine q_g ha rfl (hi1016.gives sl37 rfl rfl) ?_; clear ha a; intro a ha; refine q_g ha rfl (g_load Tryd.isAgg3 rfl hat1014.one) ?_; clear ha a; intro a ha; refine q_g ha rfl (g_lss rfl rfl) ?_; clear ha a; intro a ha; (iterate 2 refine q_g ha rfl (g_move rfl) ?_; clear ha a; intro a ha); obtain ⟨x1018, g1019, gx1020, hF⟩ := idx_some hF
              obtain ⟨p1021, cs1022, f1023, hf1024, hpb1025, hat1026, hr1027, hi1028⟩ := h863.at g1019 gx1020
              obtain ⟨rfl, hI1029, rfl⟩ := hr1027
              refine q_g ha rfl (hi1028.gives sl37 rfl rfl) ?_; clear ha a; intro a ha; refine q_g ha rfl (g_load Tryd.isAgg3 rfl hat1026.one) ?_; clear ha a; intro a ha; (iterate 2 refine q_g ha rfl (g_move rfl) ?_; clear ha a; intro a ha); obtain ⟨x1030, g1031, gx1032, hF⟩ := idx_some hF
              obtain ⟨p1033, cs1034, f1035, hf1036, hpb1037, hat1038, hr1039, hi1040⟩ := h863.at g1031 gx1032
              obtain ⟨rfl, hI1041, rfl⟩ := hr1039
              refine q_g ha rfl (hi1040.gives sl37 rfl rfl) ?_; clear ha a; intro a ha; refine q_g ha rfl (g_load Tryd.isAgg3 rfl hat1038.one) ?_; clear ha a; intro a ha; refine q_g ha rfl (g_lss rfl rfl) ?_; clear ha a; intro a ha; refine q_g ha rfl (gB_neq un4 rfl rfl) ?_; clear ha a; intro a ha
              refine q_nil ?_; intro w1042 hx1043
              replace h860 := h860.ext hx1043
              replace h863 := h863.ext hx1043
              replace h866 := h866.ext hx1043
              have hE1044 := Ext.trans hE879 hx1043
              replace ha := ha.sub (σ' := [(6, u6), (8, u19), (10, v869), (11, (.int .i64 i405)), (12, (.int .i64 i871)), (40, (.int .i64 (x1.1.length : Int))), (41, (.int .i64 i405)), (44, (.int .i64 i405)), (45, (.int .i64 i871)), (66, (.bool ((decide (x994 < x1006)) != (decide (x1018 < x1030)))))]) ⟨rfl, rfl, rfl, rfl, rfl, rfl, rfl, rfl, rfl, rfl, trivial⟩; refine e_then ?_; refine c_cond (((decide (x994 < x1006)) != (decide (x1018 < x1030))) = true) ha rfl (Iff.rfl) (fun hp1045 => ?_) (fun hp1045 => ?_)
              · replace hF := if_t hp1045 hF
                refine wp_region_lit ?_; (iterate 3 refine op_g ha rfl (g_move rfl) ?_; clear ha a; intro a ha); obtain ⟨x1046, hc1047, hF⟩ := cal_some hF
                refine o_call ha rfl rfl Tryd.call26 (W_impl_nets_join h866 hI406 hI872 hc1047) ?_; clear ha a; rintro v1048 w1049 ⟨rfl, h1051, hx1050⟩ a ha
                replace h860 := h860.nq hx1050 q874
                replace h863 := h863.nq hx1050 q876
                have hE1052 := Ext.then hE1044 hx1050 (Zn.bl z867)
                refine wpList_nil ?_; replace ha := ha.sub (σ' := [(6, u6), (8, u19), (10, v869), (11, (.int .i64 i405)), (40, (.int .i64 (x1.1.length : Int))), (41, (.int .i64 i405)), (44, (.int .i64 i405)), (45, (.int .i64 i871))]) ⟨rfl, rfl, rfl, rfl, rfl, rfl, rfl, rfl, trivial⟩; refine e_blk ?_; refine e_then ?_; refine wp_region_lit ?_; obtain ⟨hI1053, hF⟩ := ck_some hF; refine op_g ha rfl (g_add rfl rfl hI1053) ?_; clear ha a; intro a ha; refine op_g ha rfl (g_move rfl) ?_; clear ha a; intro a ha; refine wpList_nil ?_; replace ha := ha.sub (σ' := [(6, u6), (8, u19), (10, v869), (11, (.int .i64 i405)), (40, (.int .i64 (x1.1.length : Int))), (41, (.int .i64 i405)), (44, (.int .i64 i405)), (45, (.int .i64 (i871 + 1)))]) ⟨rfl, rfl, rfl, rfl, rfl, rfl, rfl, rfl, trivial⟩
                refine e_lq ?_; obtain rfl := Option.some.inj hF
                exact ⟨_, Nat.lt_succ_self _, x1046, i871 + 1, v869, b870, ha.sub ⟨rfl, rfl, rfl, rfl, rfl, rfl, rfl, rfl, trivial⟩, hE1052, hI1053, h860, z861, h863, z864, h1051, z867, q873, q874, q875, q876, q877, q878, hN990⟩
              replace hF := if_f hp1045 hF; refine wp_skip ?_; refine e_blk ?_; refine e_then ?_; refine wp_region_lit ?_; obtain ⟨hI1055, hF⟩ := ck_some hF; refine op_g ha rfl (g_add rfl rfl hI1055) ?_; clear ha a; intro a ha; refine op_g ha rfl (g_move rfl) ?_; clear ha a; intro a ha; refine wpList_nil ?_; replace ha := ha.sub (σ' := [(6, u6), (8, u19), (10, v869), (11, (.int .i64 i405)), (40, (.int .i64 (x1.1.length : Int))), (41, (.int .i64 i405)), (44, (.int .i64 i405)), (45, (.int .i64 (i871 + 1)))]) ⟨rfl, rfl, rfl, rfl, rfl, rfl, rfl, rfl, trivial⟩; refine e_lq ?_; obtain rfl := Option.some.inj hF
              exact ⟨_, Nat.lt_succ_self _, l868, i871 + 1, v869, b870, ha.sub ⟨rfl, rfl, rfl, rfl, rfl, rfl, rfl, rfl, trivial⟩, hE1044, hI1055, h860, z861, h863, z864, h866, z867, q873, q874, q875, q876, q877, q878, hN990⟩
            replace hF := if_f hp993 hF; refine wp_exit ?_; refine e_then_exit ?_; refine e_lq_eq ?_; obtain rfl := Option.some.inj hF
            exact ⟨l868, v869, b870, ha.sub ⟨rfl, rfl, rfl, rfl, rfl, trivial⟩, hE879, h860, z861, h863, z864, h866, z867, q873, q874, q875, q876, q877, q878, (LK_inr hN990).symm⟩
        rintro a w965 ⟨l975, v976, b977, ha, hE989, h967, z968, h970, z971, h973, z974, q978, q979, q980, q981, q982, q983, rfl⟩
        have hF : F_impl_crossings_k3 i405 l975 = some _ := hK986; clear hK986; unfold F_impl_crossings_k3 at hF
        refine e_blk ?_; refine e_then ?_; refine wp_region_lit ?_; obtain ⟨hI1057, hF⟩ := ck_some hF; refine op_g ha rfl (g_add rfl rfl hI1057) ?_; clear ha a; intro a ha; refine op_g ha rfl (g_move rfl) ?_; clear ha a; intro a ha; refine wpList_nil ?_; replace ha := ha.sub (σ' := [(6, u6), (8, u19), (10, v976), (40, (.int .i64 (x1.1.length : Int))), (41, (.int .i64 (i405 + 1)))]) ⟨rfl, rfl, rfl, rfl, rfl, trivial⟩; refine e_lq ?_; obtain rfl := Option.some.inj hF
        exact ⟨_, Nat.lt_succ_self _, l975, i405 + 1, v976, b977, ha.sub ⟨rfl, rfl, rfl, rfl, rfl, trivial⟩, hE989, hI1057, h967, z968, h970, z971, h973, z974, q978, q979, q980, q981, q982, q983, hN752⟩
      replace hF := if_f hp755 hF; refine wp_exit ?_; refine e_then_exit ?_; refine e_lq_eq ?_; obtain rfl := Option.some.inj hF
      exact ⟨l402, v403, b404, ha.sub ⟨rfl, trivial⟩, hE413, h400, z401, (LK_inr hN752).symm⟩
  rintro a w739 ⟨l743, v744, b745, ha, hE751, h741, z742, rfl⟩
  have hF : F_impl_crossings_k4 l743 = some _ := hK748; clear hK748; unfold F_impl_crossings_k4 at hF
  refine e_then ?_; refine wp_seq ?_; refine wp_region_lit ?_; refine op_g ha rfl (g_move rfl) ?_; clear ha a; intro a ha; (iterate 2 refine op_g ha rfl (g_assign rfl) ?_; clear ha a; intro a ha); refine wpList_nil ?_; replace ha := ha.sub (σ' := [(4, v744), (5, (.bool true))]) ⟨rfl, rfl, trivial⟩; refine e_then ?_; refine wp_ret ?_; obtain rfl := Option.some.inj hF
  exact f_ret2 ha rfl rfl rfl ⟨_, _, _, rfl, h741, z742, rfl, hE751⟩
set_option maxHeartbeats 2000000 in
theorem W_math_bits_TrailingZeros32 {W : World} {a0 : BitVec 32} (hG : GT 0 W) {r : Int} (hF : F_math_bits_TrailingZeros32 a0 = some r) :
    Calls Tryd.prog 43 [.int .u32 (BitVec.toNat a0 : Int)].toArray W (Ret fun u w' => (u = .int .i64 r ∧ InI r) ∧ Ext W w') := by
  refine f_enter Tryd.func43 rfl Tryd.ntmps43 rfl ?_
  intro a ha
  replace ha : Fr 14 [(0, (.int .u32 (BitVec.toNat a0 : Int)))] a := ha
  have hE : Chg [] W W := Chg.refl _ _
  unfold F_math_bits_TrailingZeros32 at hF
  refine wp_seq ?_; refine wp_region_lit ?_; refine op_g ha rfl (g_assign rfl) ?_; clear ha a; intro a ha; refine wpList_nil ?_; replace ha := ha.sub (σ' := [(0, (.int .u32 (BitVec.toNat a0 : Int)))]) ⟨rfl, trivial⟩; refine e_then ?_; refine wp_seq ?_; refine wp_seq ?_; refine wp_region_lit ?_; refine op_g ha rfl (g_move rfl) ?_; clear ha a; intro a ha; refine op_g ha rfl (g32_eql (m := a0) (n := (0#32)) rfl rfl) ?_; clear ha a; intro a ha; refine wpList_nil ?_; replace ha := ha.sub (σ' := [(0, (.int .u32 (BitVec.toNat a0 : Int))), (4, (.bool (decide (a0 = (0#32)))))]) ⟨rfl, rfl, trivial⟩; refine e_then ?_
  refine c_cond (a0 = (0#32)) ha rfl (decide_eq_true_iff) (fun hp1 => ?_) (fun hp1 => ?_)
  · replace hF := if_t hp1 hF
    refine wp_seq ?_; refine wp_region_lit ?_; refine op_g ha rfl (g_assign rfl) ?_; clear ha a; intro a ha; refine wpList_nil ?_; replace ha := ha.sub (σ' := [(2, (.int .i64 32))]) ⟨rfl, trivial⟩; refine e_then ?_; refine wp_ret ?_; refine e_then_ret ?_; obtain rfl := Option.some.inj hF
    exact f_ret1 ha rfl rfl ⟨⟨rfl, (show InI 32 from by decide)⟩, hE⟩
  replace hF := if_f hp1 hF; refine wp_skip ?_; refine e_then ?_; refine wp_seq ?_; refine wp_region_lit ?_; (iterate 2 refine op_g ha rfl (g_move rfl) ?_; clear ha a; intro a ha); refine op_g ha rfl (g32_neg (m := a0) rfl) ?_; clear ha a; intro a ha; refine op_g ha rfl (g32_and (m := a0) (n := (-a0)) rfl rfl) ?_; clear ha a; intro a ha; refine op_g ha rfl (g32_mul (m := (a0 &&& (-a0))) (n := (125613361#32)) rfl rfl) ?_; clear ha a; intro a ha; refine op_g ha rfl (g32_shr (m := ((a0 &&& (-a0)) * (125613361#32))) rfl rfl (show InU 27 from by decide).1) ?_; clear ha a; intro a ha; obtain ⟨x2, g3, gx4, hF⟩ := idx_some hF
  refine op_g ha rfl (g_idxG un68 Tryd.sizeOf5 rfl g3 (idx_lt g3 gx4 (by decide))) ?_; clear ha a; intro a ha; refine op_g ha rfl (g_load Tryd.isAgg5 rfl (Tab.cell (hG.ext hE) gx4)) ?_; clear ha a; intro a ha; refine op_g ha rfl (g_conv8 (m := x2) un5 un3 rfl) ?_; clear ha a; intro a ha; refine op_g ha rfl (g_assign rfl) ?_; clear ha a; intro a ha; refine wpList_nil ?_; replace ha := ha.sub (σ' := [(2, (.int .i64 (BitVec.toNat x2 : Int)))]) ⟨rfl, trivial⟩; refine e_then ?_; refine wp_ret ?_; obtain rfl := Option.some.inj hF
  exact f_ret1 ha rfl rfl ⟨⟨rfl, (in_u8 _)⟩, hE⟩
set_option maxHeartbeats 2000000 in
theorem W_impl_vset_least {W : World} {a0 : BitVec 32} (hG : GT 0 W) {r : Int} (hF : F_impl_vset_least a0 = some r) :
    Calls Tryd.prog 37 [.int .u32 (BitVec.toNat a0 : Int)].toArray W (Ret fun u w' => (u = .int .i64 r ∧ InI r) ∧ Ext W w') := by
  refine f_enter Tryd.func37 rfl Tryd.ntmps37 rfl ?_
  intro a ha
  replace ha : Fr 5 [(0, (.int .u32 (BitVec.toNat a0 : Int)))] a := ha
  have hE : Chg [] W W := Chg.refl _ _
  unfold F_impl_vset_least at hF
  refine wp_seq ?_; refine wp_region_lit ?_; refine op_g ha rfl (g_assign rfl) ?_; clear ha a; intro a ha; refine wpList_nil ?_; replace ha := ha.sub (σ' := [(0, (.int .u32 (BitVec.toNat a0 : Int)))]) ⟨rfl, trivial⟩; refine e_then ?_; refine wp_seq ?_; refine wp_region_lit ?_; refine op_g ha rfl (g_move rfl) ?_; clear ha a; intro a ha; obtain ⟨x1, hc2, hF⟩ := cal_some hF
  refine o_call ha rfl rfl Tryd.call43 (W_math_bits_TrailingZeros32 (hG.ext hE) hc2) ?_; clear ha a; rintro v3 w4 ⟨⟨rfl, hI6⟩, hx5⟩ a ha
  have hE7 := Ext.trans hE hx5
  refine op_g ha rfl (g_assign rfl) ?_; clear ha a; intro a ha; refine wpList_nil ?_; replace ha := ha.sub (σ' := [(2, (.int .i64 x1))]) ⟨rfl, trivial⟩; refine e_then ?_; refine wp_ret ?_; obtain rfl := Option.some.inj hF
  exact f_ret1 ha rfl rfl ⟨⟨rfl, hI6⟩, hE7⟩
set_option maxHeartbeats 2000000 in
theorem W_impl_vset_list {W : World} {a0 : BitVec 32} (hG : GT 0 W) {r : (List Int)} (hF : F_impl_vset_list a0 = some r) :
    Calls Tryd.prog 29 [.int .u32 (BitVec.toNat a0 : Int)].toArray W (Ret fun u w' => ∃ (b_u : Int), Ow Rp.int 3 true w' [] b_u u r ∧ Zn W b_u ∧ Ext W w') := by
  refine f_enter Tryd.func29 rfl Tryd.ntmps29 rfl ?_
  intro a ha
  replace ha : Fr 17 [(0, (.int .u32 (BitVec.toNat a0 : Int)))] a := ha
  have hE : Chg [] W W := Chg.refl _ _
  unfold F_impl_vset_list at hF
  refine wp_seq ?_; refine wp_region_lit ?_; refine op_g ha rfl (g_assign rfl) ?_; clear ha a; intro a ha; refine wpList_nil ?_; replace ha := ha.sub (σ' := [(0, (.int .u32 (BitVec.toNat a0 : Int)))]) ⟨rfl, trivial⟩; refine e_then ?_; refine wp_seq ?_; refine wp_region_lit ?_
  refine o_lit0 Rp.int ha rfl sl37 ?_; clear ha a; intro v1 w2 h3 hx4 a ha
  obtain ⟨b6, hb6⟩ : ∃ b : Int, b = W.heap.size := ⟨_, rfl⟩; rw [← hb6] at h3
  have q7 := zn_of hb6
  have q8 := Zn.upD q7 hE
  have hE9 := Ext.trans hE hx4
  refine op_g ha rfl (g_assign rfl) ?_; clear ha a; intro a ha; refine wpList_nil ?_; replace ha := ha.sub (σ' := [(0, (.int .u32 (BitVec.toNat a0 : Int))), (3, v1)]) ⟨rfl, rfl, trivial⟩; refine e_then ?_; refine wp_seq ?_; obtain ⟨o109, ho110, hK111⟩ := bnd_some hF
  obtain ⟨n112, hn113⟩ := lp_some ho110; clear ho110
  refine c_loop (fun a w => ∃ (l106 : (List Int)) (v107 : Value) (b108 : Int), Fr 17 [(3, v107)] a ∧ Chg [] W w ∧ Ow Rp.int 3 true w [] b108 v107 l106 ∧ Zn W b108 ∧ o109 = .inl l106) (fun n a w => ∃ (u55 : BitVec 32) (l59 : (List Int)) (v60 : Value) (b61 : Int), Fr 17 [(0, (.int .u32 (BitVec.toNat u55 : Int))), (3, v60)] a ∧ Chg [] W w ∧ Ow Rp.int 3 true w [] b61 v60 l59 ∧ Zn W b61 ∧ lpN (fun s => F_impl_vset_list_l1 s.1 s.2) n (u55, l59) = some o109) n112 ⟨a0, ([] : (List Int)), v1, b6, ha.sub ⟨rfl, rfl, trivial⟩, hE9, h3, q8, hn113⟩ ?_ ?_
  · rintro m117 a w54 ⟨u55, l59, v60, b61, ha, hE62, h57, z58, hF⟩
    cases m117 with
    | zero => exact (lpN_zero hF).elim
    | succ m117 =>
      obtain ⟨z116, hF, hN115⟩ := lpN_succ hF
      have hF : F_impl_vset_list_l1 u55 l59 = some z116 := hF; unfold F_impl_vset_list_l1 at hF
      refine wp_seq ?_; refine wp_seq ?_; refine wp_region_lit ?_; refine op_g ha rfl (g_move rfl) ?_; clear ha a; intro a ha; refine op_g ha rfl (g32_neq (m := u55) (n := (0#32)) rfl rfl) ?_; clear ha a; intro a ha; refine wpList_nil ?_; replace ha := ha.sub (σ' := [(0, (.int .u32 (BitVec.toNat u55 : Int))), (3, v60), (6, (.bool (decide (u55 ≠ (0#32)))))]) ⟨rfl, rfl, rfl, trivial⟩; refine e_then ?_; refine c_cond (u55 ≠ (0#32)) ha rfl (decide_eq_true_iff) (fun hp118 => ?_) (fun hp118 => ?_)
      · replace hF := if_t hp118 hF
        refine wp_skip ?_; refine e_then ?_; refine wp_seq ?_; refine wp_block ?_; refine wp_region_lit ?_; (iterate 2 refine op_g ha rfl (g_move rfl) ?_; clear ha a; intro a ha); obtain ⟨x119, hc120, hF⟩ := cal_some hF
        refine o_call ha rfl rfl Tryd.call37 (W_impl_vset_least (hG.ext hE62) hc120) ?_; clear ha a; rintro v121 w122 ⟨⟨rfl, hI124⟩, hx123⟩ a ha
        replace h57 := h57.ext hx123
        have hE125 := Ext.trans hE62 hx123
        refine o_lit1 (o := true) (y := x119) Rp.int ha rfl sl37 rfl rfl rfl ⟨rfl, hI124, rfl⟩ ?_; clear ha a; intro v126 w127 h128 hx129 a ha
        obtain ⟨b131, hb131⟩ : ∃ b : Int, b = w122.heap.size := ⟨_, rfl⟩; rw [← hb131] at h128
        have q132 := zn_of hb131
        have q133 := Nq.new h57.fpb q132
        have q134 := Nq.madeO q132 h57.blt
        have q135 := Zn.upD q132 hE125
        replace h57 := h57.ext hx129
        have hE136 := Ext.trans hE125 hx129
        obtain ⟨hl137, hF⟩ := app_some hF
        refine o_append ha rfl sl37 rfl rfl rfl h57 h128.src (Nq.nil _) hl137 ?_; clear ha a; intro v138 w139 b140 h141 hc142 hb143 a ha
        replace h141 : Ow Rp.int 3 true w139 [] b140 v138 _ := h141
        have q145 := Nq.appY q134 h128.fpb hb143
        have q146 := Nq.appX q133 (Nq.nil _) hb143 h128.blt
        have q147 := Zn.appD z58 hb143 hE136
        replace h128 := h128.nq hc142 q134
        have hE148 := Ext.then hE136 hc142 (Zn.bl z58)
        refine op_g ha rfl (g_assign rfl) ?_; clear ha a; intro a ha; refine wpList_nil ?_; replace ha := ha.sub (σ' := [(0, (.int .u32 (BitVec.toNat u55 : Int))), (3, v138)]) ⟨rfl, rfl, trivial⟩; refine e_blk ?_; refine e_then ?_; refine wp_region_lit ?_; (iterate 2 refine op_g ha rfl (g_move rfl) ?_; clear ha a; intro a ha); refine op_g ha rfl (g32_sub (m := u55) (n := (1#32)) rfl rfl) ?_; clear ha a; intro a ha; refine op_g ha rfl (g32_and (m := u55) (n := (u55 - (1#32))) rfl rfl) ?_; clear ha a; intro a ha; refine op_g ha rfl (g_assign rfl) ?_; clear ha a; intro a ha; refine wpList_nil ?_; replace ha := ha.sub (σ' := [(0, (.int .u32 (BitVec.toNat (u55 &&& (u55 - (1#32))) : Int))), (3, v138)]) ⟨rfl, rfl, trivial⟩
        refine e_lq ?_; obtain rfl := Option.some.inj hF
        exact ⟨_, Nat.lt_succ_self _, u55 &&& (u55 - (1#32)), (l59 ++ ([x119])), v138, b140, ha.sub ⟨rfl, rfl, trivial⟩, hE148, h141, q147, hN115⟩
      replace hF := if_f hp118 hF; refine wp_exit ?_; refine e_then_exit ?_; refine e_lq_eq ?_; obtain rfl := Option.some.inj hF
      exact ⟨l59, v60, b61, ha.sub ⟨rfl, trivial⟩, hE62, h57, z58, (LK_inr hN115).symm⟩
  rintro a w102 ⟨l106, v107, b108, ha, hE114, h104, z105, rfl⟩
  have hF : F_impl_vset_list_k2 l106 = some _ := hK111; clear hK111; unfold F_impl_vset_list_k2 at hF
  refine e_then ?_; refine wp_seq ?_; refine wp_region_lit ?_; refine op_g ha rfl (g_move rfl) ?_; clear ha a; intro a ha; refine op_g ha rfl (g_assign rfl) ?_; clear ha a; intro a ha; refine wpList_nil ?_; replace ha := ha.sub (σ' := [(2, v107)]) ⟨rfl, trivial⟩; refine e_then ?_; refine wp_ret ?_; obtain rfl := Option.some.inj hF
  exact f_ret1 ha rfl rfl ⟨_, h104, z105, hE114⟩
set_option maxHeartbeats 2000000 in
theorem W_cmp_isNaN_int {W : World} {a0 : Int} (ha0 : InI a0) {r : Bool} (hF : F_cmp_isNaN_int a0 = some r) :
    Calls Tryd.prog 47 [.int .i64 a0].toArray W (Ret fun u w' => u = .bool r ∧ Ext W w') := by
  refine f_enter Tryd.func47 rfl Tryd.ntmps47 rfl ?_
  intro a ha
  replace ha : Fr 6 [(0, (.int .i64 a0))] a := ha
  have hE : Chg [] W W := Chg.refl _ _
  unfold F_cmp_isNaN_int at hF
  refine wp_seq ?_; refine wp_region_lit ?_; refine op_g ha rfl (g_assign rfl) ?_; clear ha a; intro a ha; refine wpList_nil ?_; replace ha := ha.sub (σ' := [(0, (.int .i64 a0))]) ⟨rfl, trivial⟩; refine e_then ?_; refine wp_seq ?_; refine wp_region_lit ?_; (iterate 2 refine op_g ha rfl (g_move rfl) ?_; clear ha a; intro a ha); refine op_g ha rfl (g_neq rfl rfl) ?_; clear ha a; intro a ha; refine op_g ha rfl (g_assign rfl) ?_; clear ha a; intro a ha; refine wpList_nil ?_; replace ha := ha.sub (σ' := [(2, (.bool (decide (a0 ≠ a0))))]) ⟨rfl, trivial⟩; refine e_then ?_; refine wp_ret ?_; obtain rfl := Option.some.inj hF
  exact f_ret1 ha rfl rfl ⟨rfl, hE⟩
set_option maxHeartbeats 2000000 in
theorem W_cmp_Compare_int {W : World} {a0 : Int} (ha0 : InI a0) {a1 : Int} (ha1 : InI a1) {r : Int} (hF : F_cmp_Compare_int a0 a1 = some r) :
    Calls Tryd.prog 42 [.int .i64 a0, .int .i64 a1].toArray W (Ret fun u w' => (u = .int .i64 r ∧ InI r) ∧ Ext W w') := by
  refine f_enter Tryd.func42 rfl Tryd.ntmps42 rfl ?_
  intro a ha
  replace ha : Fr 20 [(0, (.int .i64 a0)), (1, (.int .i64 a1))] a := ha
  have hE : Chg [] W W := Chg.refl _ _
  unfold F_cmp_Compare_int at hF
  refine wp_seq ?_; refine wp_region_lit ?_; refine op_g ha rfl (g_assign rfl) ?_; clear ha a; intro a ha; refine wpList_nil ?_; replace ha := ha.sub (σ' := [(0, (.int .i64 a0)), (1, (.int .i64 a1))]) ⟨rfl, rfl, trivial⟩; refine e_then ?_; refine wp_seq ?_; refine wp_region_lit ?_; refine op_g ha rfl (g_move rfl) ?_; clear ha a; intro a ha; obtain ⟨x1, hc2, hF⟩ := cal_some hF
  refine o_call ha rfl rfl Tryd.call47 (W_cmp_isNaN_int ha0 hc2) ?_; clear ha a; rintro v3 w4 ⟨rfl, hx5⟩ a ha
  have hE6 := Ext.trans hE hx5
  refine op_g ha rfl (g_assign rfl) ?_; clear ha a; intro a ha; refine wpList_nil ?_; replace ha := ha.sub (σ' := [(0, (.int .i64 a0)), (1, (.int .i64 a1)), (5, (.bool x1))]) ⟨rfl, rfl, rfl, trivial⟩; refine e_then ?_; refine wp_seq ?_; refine wp_region_lit ?_; refine op_g ha rfl (g_move rfl) ?_; clear ha a; intro a ha; obtain ⟨x7, hc8, hF⟩ := cal_some hF
  refine o_call ha rfl rfl Tryd.call47 (W_cmp_isNaN_int ha1 hc8) ?_; clear ha a; rintro v9 w10 ⟨rfl, hx11⟩ a ha
  have hE12 := Ext.trans hE6 hx11
  refine op_g ha rfl (g_assign rfl) ?_; clear ha a; intro a ha; refine wpList_nil ?_; replace ha := ha.sub (σ' := [(0, (.int .i64 a0)), (1, (.int .i64 a1)), (5, (.bool x1)), (6, (.bool x7))]) ⟨rfl, rfl, rfl, rfl, trivial⟩; refine e_then ?_; refine wp_seq ?_; refine wp_seq ?_; refine wp_region_lit ?_; refine op_g ha rfl (g_move rfl) ?_; clear ha a; intro a ha; refine wpList_nil ?_; replace ha := ha.sub (σ' := [(0, (.int .i64 a0)), (1, (.int .i64 a1)), (6, (.bool x7)), (11, (.bool x1))]) ⟨rfl, rfl, rfl, rfl, trivial⟩; refine e_then ?_; refine c_cond (x1 = true) ha rfl (Iff.rfl) (fun hp13 => ?_) (fun hp13 => ?_)
  · replace hF := if_t hp13 hF
    refine wp_seq ?_; refine wp_seq ?_; refine wp_region_lit ?_; refine op_g ha rfl (g_move rfl) ?_; clear ha a; intro a ha; refine wpList_nil ?_; replace ha := ha.sub (σ' := [(12, (.bool x7))]) ⟨rfl, trivial⟩; refine e_then ?_; refine c_cond (x7 = true) ha rfl (Iff.rfl) (fun hp14 => ?_) (fun hp14 => ?_)
    · replace hF := if_t hp14 hF
      refine wp_seq ?_; refine wp_region_lit ?_; refine op_g ha rfl (g_assign rfl) ?_; clear ha a; intro a ha; refine wpList_nil ?_; replace ha := ha.sub (σ' := [(4, (.int .i64 0))]) ⟨rfl, trivial⟩; refine e_then ?_; refine wp_ret ?_; refine e_then_ret ?_; refine e_then_ret ?_; obtain rfl := Option.some.inj hF
      exact f_ret1 ha rfl rfl ⟨⟨rfl, (show InI 0 from by decide)⟩, hE12⟩
    replace hF := if_f hp14 hF; refine wp_skip ?_; refine e_then ?_; refine wp_seq ?_; refine wp_region_lit ?_; refine op_g ha rfl (g_assign rfl) ?_; clear ha a; intro a ha; refine wpList_nil ?_; replace ha := ha.sub (σ' := [(4, (.int .i64 (-1)))]) ⟨rfl, trivial⟩; refine e_then ?_; refine wp_ret ?_; refine e_then_ret ?_; obtain rfl := Option.some.inj hF
    exact f_ret1 ha rfl rfl ⟨⟨rfl, (show InI (-1) from by decide)⟩, hE12⟩
  replace hF := if_f hp13 hF; refine wp_skip ?_; refine e_then ?_; refine wp_seq ?_; refine wp_seq ?_; refine wp_region_lit ?_; refine op_g ha rfl (g_move rfl) ?_; clear ha a; intro a ha; refine wpList_nil ?_; replace ha := ha.sub (σ' := [(0, (.int .i64 a0)), (1, (.int .i64 a1)), (13, (.bool x7))]) ⟨rfl, rfl, rfl, trivial⟩; refine e_then ?_; refine c_cond (x7 = true) ha rfl (Iff.rfl) (fun hp15 => ?_) (fun hp15 => ?_)
  · replace hF := if_t hp15 hF
    refine wp_seq ?_; refine wp_region_lit ?_; refine op_g ha rfl (g_assign rfl) ?_; clear ha a; intro a ha; refine wpList_nil ?_; replace ha := ha.sub (σ' := [(4, (.int .i64 1))]) ⟨rfl, trivial⟩; refine e_then ?_; refine wp_ret ?_; refine e_then_ret ?_; obtain rfl := Option.some.inj hF
    exact f_ret1 ha rfl rfl ⟨⟨rfl, (show InI 1 from by decide)⟩, hE12⟩
  replace hF := if_f hp15 hF; refine wp_skip ?_; refine e_then ?_; refine wp_seq ?_; refine wp_seq ?_; refine wp_region_lit ?_; (iterate 2 refine op_g ha rfl (g_move rfl) ?_; clear ha a; intro a ha); refine op_g ha rfl (g_lss rfl rfl) ?_; clear ha a; intro a ha; refine wpList_nil ?_; replace ha := ha.sub (σ' := [(0, (.int .i64 a0)), (1, (.int .i64 a1)), (16, (.bool (decide (a0 < a1))))]) ⟨rfl, rfl, rfl, trivial⟩; refine e_then ?_; refine c_cond (a0 < a1) ha rfl (decide_eq_true_iff) (fun hp16 => ?_) (fun hp16 => ?_)
  · replace hF := if_t hp16 hF
    refine wp_seq ?_; refine wp_region_lit ?_; refine op_g ha rfl (g_assign rfl) ?_; clear ha a; intro a ha; refine wpList_nil ?_; replace ha := ha.sub (σ' := [(4, (.int .i64 (-1)))]) ⟨rfl, trivial⟩; refine e_then ?_; refine wp_ret ?_; refine e_then_ret ?_; obtain rfl := Option.some.inj hF
    exact f_ret1 ha rfl rfl ⟨⟨rfl, (show InI (-1) from by decide)⟩, hE12⟩
  replace hF := if_f hp16 hF; refine wp_skip ?_; refine e_then ?_; refine wp_seq ?_; refine wp_seq ?_; refine wp_region_lit ?_; (iterate 2 refine op_g ha rfl (g_move rfl) ?_; clear ha a; intro a ha); refine op_g ha rfl (g_gtr rfl rfl) ?_; clear ha a; intro a ha; refine wpList_nil ?_; replace ha := ha.sub (σ' := [(19, (.bool (decide (a1 < a0))))]) ⟨rfl, trivial⟩; refine e_then ?_; refine c_cond (a1 < a0) ha rfl (decide_eq_true_iff) (fun hp17 => ?_) (fun hp17 => ?_)
  · replace hF := if_t hp17 hF
    refine wp_seq ?_; refine wp_region_lit ?_; refine op_g ha rfl (g_assign rfl) ?_; clear ha a; intro a ha; refine wpList_nil ?_; replace ha := ha.sub (σ' := [(4, (.int .i64 1))]) ⟨rfl, trivial⟩; refine e_then ?_; refine wp_ret ?_; refine e_then_ret ?_; obtain rfl := Option.some.inj hF
    exact f_ret1 ha rfl rfl ⟨⟨rfl, (show InI 1 from by decide)⟩, hE12⟩
  replace hF := if_f hp17 hF; refine wp_skip ?_; refine e_then ?_; refine wp_seq ?_; refine wp_region_lit ?_; refine op_g ha rfl (g_assign rfl) ?_; clear ha a; intro a ha; refine wpList_nil ?_; replace ha := ha.sub (σ' := [(4, (.int .i64 0))]) ⟨rfl, trivial⟩; refine e_then ?_; refine wp_ret ?_; obtain rfl := Option.some.inj hF
  exact f_ret1 ha rfl rfl ⟨⟨rfl, (show InI 0 from by decide)⟩, hE12⟩
set_option maxHeartbeats 2000000 in
theorem W_slices_Compare_int {W : World} {va0 : Value} {fa0 : List Nat} {a0 : (List Int)} (ha0 : Ro Rp.int W fa0 va0 a0) {va1 : Value} {fa1 : List Nat} {a1 : (List Int)} (ha1 : Ro Rp.int W fa1 va1 a1) {r : Int} (hF : F_slices_Compare_int a0 a1 = some r) :
    Calls Tryd.prog 36 [va0, va1].toArray W (Ret fun u w' => (u = .int .i64 r ∧ InI r) ∧ Ext W w') := by
  refine f_enter Tryd.func36 rfl Tryd.ntmps36 rfl ?_
  intro a ha
  replace ha : Fr 36 [(0, va0), (1, va1)] a := ha
  have hE : Chg [] W W := Chg.refl _ _
  unfold F_slices_Compare_int at hF
  refine wp_seq ?_; refine wp_region_lit ?_; refine op_g ha rfl (g_assign rfl) ?_; clear ha a; intro a ha; refine wpList_nil ?_; replace ha := ha.sub (σ' := [(0, va0), (1, va1)]) ⟨rfl, rfl, trivial⟩; refine e_then ?_; refine wp_seq ?_; refine wp_seq ?_; refine wp_region_lit ?_; refine op_g ha rfl (g_move rfl) ?_; clear ha a; intro a ha; refine op_g ha rfl (g_lenR sl37.und ha0 rfl) ?_; clear ha a; intro a ha; refine op_g ha rfl (g_move rfl) ?_; clear ha a; intro a ha; refine wpList_nil ?_; replace ha := ha.sub (σ' := [(0, va0), (1, va1), (9, va0), (10, (.int .i64 (a0.length : Int))), (11, (.int .i64 0))]) ⟨rfl, rfl, rfl, rfl, rfl, trivial⟩
  refine e_then ?_; obtain ⟨o86, ho87, hK88⟩ := bnd_some hF
  obtain ⟨n89, hn90⟩ := lp_some ho87; clear ho87
  refine c_loop (fun a w => Fr 36 [(0, va0), (1, va1)] a ∧ Chg [] W w ∧ o86 = .inl ()) (fun n a w => ∃ (i43 : Int), Fr 36 [(0, va0), (1, va1), (9, va0), (10, (.int .i64 (a0.length : Int))), (11, (.int .i64 i43))] a ∧ Chg [] W w ∧ InI i43 ∧ lpN (fun s => F_slices_Compare_int_l1 a0 a1 s) n i43 = some o86) n89 ⟨0, ha.sub ⟨rfl, rfl, rfl, rfl, rfl, trivial⟩, hE, (show InI 0 from by decide), hn90⟩ ?_ ?_
  · rintro m94 a w42 ⟨i43, ha, hE45, hI44, hF⟩
    cases m94 with
    | zero => exact (lpN_zero hF).elim
    | succ m94 =>
      obtain ⟨z93, hF, hN92⟩ := lpN_succ hF
      have hF : F_slices_Compare_int_l1 a0 a1 i43 = some z93 := hF; unfold F_slices_Compare_int_l1 at hF
      refine wp_seq ?_; refine wp_region_lit ?_; refine op_g ha rfl (g_lss rfl rfl) ?_; clear ha a; intro a ha; refine wpList_nil ?_; replace ha := ha.sub (σ' := [(0, va0), (1, va1), (9, va0), (10, (.int .i64 (a0.length : Int))), (11, (.int .i64 i43)), (12, (.bool (decide (i43 < (a0.length : Int)))))]) ⟨rfl, rfl, rfl, rfl, rfl, rfl, trivial⟩; refine e_then ?_; refine wp_seq ?_; refine c_cond (i43 < (a0.length : Int)) ha rfl (decide_eq_true_iff) (fun hp95 => ?_) (fun hp95 => ?_)
      · replace hF := if_t hp95 hF
        refine wp_skip ?_; refine e_then ?_; refine wp_seq ?_; refine wp_block ?_; refine wp_seq ?_; refine wp_region_lit ?_; refine op_g ha rfl (g_move rfl) ?_; clear ha a; intro a ha; obtain ⟨x96, g97, gx98, hF⟩ := idx_some hF
        obtain ⟨p99, cs100, f101, hf102, hpb103, hat104, hr105, hi106⟩ := ha0.at g97 gx98
        obtain ⟨rfl, hI107, rfl⟩ := hr105
        refine op_g ha rfl (hi106.gives sl37 rfl rfl) ?_; clear ha a; intro a ha; refine op_g ha rfl (g_load0 hE45 Tryd.isAgg3 rfl hat104.one) ?_; clear ha a; intro a ha; (iterate 2 refine op_g ha rfl (g_assign rfl) ?_; clear ha a; intro a ha); refine wpList_nil ?_; replace ha := ha.sub (σ' := [(0, va0), (1, va1), (5, (.int .i64 i43)), (6, (.int .i64 x96)), (9, va0), (10, (.int .i64 (a0.length : Int))), (11, (.int .i64 i43))]) ⟨rfl, rfl, rfl, rfl, rfl, rfl, rfl, trivial⟩; refine e_then ?_; refine wp_seq ?_; refine wp_seq ?_; refine wp_region_lit ?_; (iterate 2 refine op_g ha rfl (g_move rfl) ?_; clear ha a; intro a ha)
        refine op_g ha rfl (g_lenR sl37.und ha1 rfl) ?_; clear ha a; intro a ha; refine op_g ha rfl (g_geq rfl rfl) ?_; clear ha a; intro a ha; refine wpList_nil ?_; replace ha := ha.sub (σ' := [(0, va0), (1, va1), (5, (.int .i64 i43)), (6, (.int .i64 x96)), (9, va0), (10, (.int .i64 (a0.length : Int))), (11, (.int .i64 i43)), (19, (.bool (decide ((a1.length : Int) ≤ i43))))]) ⟨rfl, rfl, rfl, rfl, rfl, rfl, rfl, rfl, trivial⟩; refine e_then ?_; refine c_cond ((a1.length : Int) ≤ i43) ha rfl (decide_eq_true_iff) (fun hp108 => ?_) (fun hp108 => ?_)
        · replace hF := if_t hp108 hF
          refine wp_seq ?_; refine wp_region_lit ?_; refine op_g ha rfl (g_assign rfl) ?_; clear ha a; intro a ha; refine wpList_nil ?_; replace ha := ha.sub (σ' := [(4, (.int .i64 1))]) ⟨rfl, trivial⟩; refine e_then ?_; refine wp_ret ?_; refine e_then_ret ?_; refine e_blk_ret ?_; refine e_then_ret ?_; refine e_lq_ret ?_; refine e_then_ret ?_; obtain rfl := Option.some.inj hF
          have e109 := LK_inr hN92; subst e109
          have e110 := BK_inr hK88; subst e110
          exact f_ret1 ha rfl rfl ⟨⟨rfl, (show InI 1 from by decide)⟩, hE45⟩
        replace hF := if_f hp108 hF; refine wp_skip ?_; refine e_then ?_; refine wp_seq ?_; refine wp_region_lit ?_; (iterate 2 refine op_g ha rfl (g_move rfl) ?_; clear ha a; intro a ha); obtain ⟨x111, g112, gx113, hF⟩ := idx_some hF
        obtain ⟨p114, cs115, f116, hf117, hpb118, hat119, hr120, hi121⟩ := ha1.at g112 gx113
        obtain ⟨rfl, hI122, rfl⟩ := hr120
        refine op_g ha rfl (hi121.gives sl37 rfl rfl) ?_; clear ha a; intro a ha; refine op_g ha rfl (g_load0 hE45 Tryd.isAgg3 rfl hat119.one) ?_; clear ha a; intro a ha; refine op_g ha rfl (g_assign rfl) ?_; clear ha a; intro a ha; refine wpList_nil ?_; replace ha := ha.sub (σ' := [(0, va0), (1, va1), (6, (.int .i64 x96)), (7, (.int .i64 x111)), (9, va0), (10, (.int .i64 (a0.length : Int))), (11, (.int .i64 i43))]) ⟨rfl, rfl, rfl, rfl, rfl, rfl, rfl, trivial⟩; refine e_then ?_; refine wp_seq ?_; refine wp_region_lit ?_; (iterate 2 refine op_g ha rfl (g_move rfl) ?_; clear ha a; intro a ha); obtain ⟨x123, hc124, hF⟩ := cal_some hF
        refine o_call ha rfl rfl Tryd.call42 (W_cmp_Compare_int hI107 hI122 hc124) ?_; clear ha a; rintro v125 w126 ⟨⟨rfl, hI128⟩, hx127⟩ a ha
        have hE129 := Ext.trans hE45 hx127
        refine op_g ha rfl (g_assign rfl) ?_; clear ha a; intro a ha; refine wpList_nil ?_; replace ha := ha.sub (σ' := [(0, va0), (1, va1), (8, (.int .i64 x123)), (9, va0), (10, (.int .i64 (a0.length : Int))), (11, (.int .i64 i43))]) ⟨rfl, rfl, rfl, rfl, rfl, rfl, trivial⟩; refine e_then ?_; refine wp_seq ?_; refine wp_region_lit ?_; refine op_g ha rfl (g_move rfl) ?_; clear ha a; intro a ha; refine op_g ha rfl (g_neq rfl rfl) ?_; clear ha a; intro a ha; refine wpList_nil ?_; replace ha := ha.sub (σ' := [(0, va0), (1, va1), (8, (.int .i64 x123)), (9, va0), (10, (.int .i64 (a0.length : Int))), (11, (.int .i64 i43)), (28, (.bool (decide (x123 ≠ 0))))]) ⟨rfl, rfl, rfl, rfl, rfl, rfl, rfl, trivial⟩
        refine e_then ?_; refine c_cond (x123 ≠ 0) ha rfl (decide_eq_true_iff) (fun hp130 => ?_) (fun hp130 => ?_)
        · replace hF := if_t hp130 hF
          refine wp_seq ?_; refine wp_region_lit ?_; refine op_g ha rfl (g_move rfl) ?_; clear ha a; intro a ha; refine op_g ha rfl (g_assign rfl) ?_; clear ha a; intro a ha; refine wpList_nil ?_; replace ha := ha.sub (σ' := [(4, (.int .i64 x123))]) ⟨rfl, trivial⟩; refine e_then ?_; refine wp_ret ?_; refine e_blk_ret ?_; refine e_then_ret ?_; refine e_lq_ret ?_; refine e_then_ret ?_; obtain rfl := Option.some.inj hF
          have e131 := LK_inr hN92; subst e131
          have e132 := BK_inr hK88; subst e132
          exact f_ret1 ha rfl rfl ⟨⟨rfl, hI128⟩, hE129⟩
        replace hF := if_f hp130 hF; refine wp_skip ?_; refine e_blk ?_; refine e_then ?_; refine wp_region_lit ?_; obtain ⟨hI133, hF⟩ := ck_some hF; refine op_g ha rfl (g_add rfl rfl hI133) ?_; clear ha a; intro a ha; refine op_g ha rfl (g_move rfl) ?_; clear ha a; intro a ha; refine wpList_nil ?_; replace ha := ha.sub (σ' := [(0, va0), (1, va1), (9, va0), (10, (.int .i64 (a0.length : Int))), (11, (.int .i64 (i43 + 1)))]) ⟨rfl, rfl, rfl, rfl, rfl, trivial⟩; refine e_lq ?_; obtain rfl := Option.some.inj hF
        exact ⟨_, Nat.lt_succ_self _, i43 + 1, ha.sub ⟨rfl, rfl, rfl, rfl, rfl, trivial⟩, hE129, hI133, hN92⟩
      replace hF := if_f hp95 hF; refine wp_exit ?_; refine e_then_exit ?_; refine e_lq_eq ?_; obtain rfl := Option.some.inj hF
      exact ⟨ha.sub ⟨rfl, rfl, trivial⟩, hE45, (LK_inr hN92).symm⟩
  rintro a w85 ⟨ha, hE91, rfl⟩
  have hF : F_slices_Compare_int_k2 a0 a1 = some _ := hK88; clear hK88; unfold F_slices_Compare_int_k2 at hF
  refine e_then ?_; refine wp_seq ?_; refine wp_seq ?_; refine wp_region_lit ?_; refine op_g ha rfl (g_move rfl) ?_; clear ha a; intro a ha; refine op_g ha rfl (g_lenR sl37.und ha0 rfl) ?_; clear ha a; intro a ha; refine op_g ha rfl (g_move rfl) ?_; clear ha a; intro a ha; refine op_g ha rfl (g_lenR sl37.und ha1 rfl) ?_; clear ha a; intro a ha; refine op_g ha rfl (g_lss rfl rfl) ?_; clear ha a; intro a ha; refine wpList_nil ?_; replace ha := ha.sub (σ' := [(35, (.bool (decide ((a0.length : Int) < (a1.length : Int)))))]) ⟨rfl, trivial⟩; refine e_then ?_; refine c_cond ((a0.length : Int) < (a1.length : Int)) ha rfl (decide_eq_true_iff) (fun hp135 => ?_) (fun hp135 => ?_)
  · replace hF := if_t hp135 hF
    refine wp_seq ?_; refine wp_region_lit ?_; refine op_g ha rfl (g_assign rfl) ?_; clear ha a; intro a ha; refine wpList_nil ?_; replace ha := ha.sub (σ' := [(4, (.int .i64 (-1)))]) ⟨rfl, trivial⟩; refine e_then ?_; refine wp_ret ?_; refine e_then_ret ?_; obtain rfl := Option.some.inj hF
    exact f_ret1 ha rfl rfl ⟨⟨rfl, (show InI (-1) from by decide)⟩, hE91⟩
  replace hF := if_f hp135 hF; refine wp_skip ?_; refine e_then ?_; refine wp_seq ?_; refine wp_region_lit ?_; refine op_g ha rfl (g_assign rfl) ?_; clear ha a; intro a ha; refine wpList_nil ?_; replace ha := ha.sub (σ' := [(4, (.int .i64 0))]) ⟨rfl, trivial⟩; refine e_then ?_; refine wp_ret ?_; obtain rfl := Option.some.inj hF
  exact f_ret1 ha rfl rfl ⟨⟨rfl, (show InI 0 from by decide)⟩, hE91⟩
set_option maxHeartbeats 2000000 in
theorem W_impl_isBetter {W : World} {va0 : Value} {fa0 : List Nat} {a0 : (List Int)} (ha0 : Ro Rp.int W fa0 va0 a0) {va1 : Value} {fa1 : List Nat} {a1 : (List Int)} (ha1 : Ro Rp.int W fa1 va1 a1) {r : Bool} (hF : F_impl_isBetter a0 a1 = some r) :
    Calls Tryd.prog 27 [va0, va1].toArray W (Ret fun u w' => u = .bool r ∧ Ext W w') := by
  refine f_enter Tryd.func27 rfl Tryd.ntmps27 rfl ?_
  intro a ha
  replace ha : Fr 19 [(0, va0), (1, va1)] a := ha
  have hE : Chg [] W W := Chg.refl _ _
  unfold F_impl_isBetter at hF
  refine wp_seq ?_; refine wp_region_lit ?_; refine op_g ha rfl (g_assign rfl) ?_; clear ha a; intro a ha; refine wpList_nil ?_; replace ha := ha.sub (σ' := [(0, va0), (1, va1)]) ⟨rfl, rfl, trivial⟩; refine e_then ?_; refine wp_seq ?_; refine wp_seq ?_; refine wp_region_lit ?_; refine op_g ha rfl (g_move rfl) ?_; clear ha a; intro a ha; refine op_g ha rfl (g_lenR sl37.und ha0 rfl) ?_; clear ha a; intro a ha; refine op_g ha rfl (g_move rfl) ?_; clear ha a; intro a ha; refine op_g ha rfl (g_lenR sl37.und ha1 rfl) ?_; clear ha a; intro a ha; refine op_g ha rfl (g_neq rfl rfl) ?_; clear ha a; intro a ha
  refine wpList_nil ?_; replace ha := ha.sub (σ' := [(0, va0), (1, va1), (9, (.bool (decide ((a0.length : Int) ≠ (a1.length : Int)))))]) ⟨rfl, rfl, rfl, trivial⟩; refine e_then ?_; refine c_cond ((a0.length : Int) ≠ (a1.length : Int)) ha rfl (decide_eq_true_iff) (fun hp1 => ?_) (fun hp1 => ?_)
  · replace hF := if_t hp1 hF
    refine wp_seq ?_; refine wp_region_lit ?_; refine op_g ha rfl (g_move rfl) ?_; clear ha a; intro a ha; refine op_g ha rfl (g_lenR sl37.und ha0 rfl) ?_; clear ha a; intro a ha; refine op_g ha rfl (g_move rfl) ?_; clear ha a; intro a ha; refine op_g ha rfl (g_lenR sl37.und ha1 rfl) ?_; clear ha a; intro a ha; refine op_g ha rfl (g_gtr rfl rfl) ?_; clear ha a; intro a ha; refine op_g ha rfl (g_assign rfl) ?_; clear ha a; intro a ha; refine wpList_nil ?_; replace ha := ha.sub (σ' := [(4, (.bool (decide ((a1.length : Int) < (a0.length : Int)))))]) ⟨rfl, trivial⟩; refine e_then ?_; refine wp_ret ?_
    refine e_then_ret ?_; obtain rfl := Option.some.inj hF
    exact f_ret1 ha rfl rfl ⟨rfl, hE⟩
  replace hF := if_f hp1 hF; refine wp_skip ?_; refine e_then ?_; refine wp_seq ?_; refine wp_region_lit ?_; (iterate 2 refine op_g ha rfl (g_move rfl) ?_; clear ha a; intro a ha); obtain ⟨x2, hc3, hF⟩ := cal_some hF
  refine o_call ha rfl rfl Tryd.call36 (W_slices_Compare_int (ha0.ext hE) (ha1.ext hE) hc3) ?_; clear ha a; rintro v4 w5 ⟨⟨rfl, hI7⟩, hx6⟩ a ha
  have hE8 := Ext.trans hE hx6
  refine op_g ha rfl (g_lss rfl rfl) ?_; clear ha a; intro a ha; refine op_g ha rfl (g_assign rfl) ?_; clear ha a; intro a ha; refine wpList_nil ?_; replace ha := ha.sub (σ' := [(4, (.bool (decide (x2 < 0))))]) ⟨rfl, trivial⟩; refine e_then ?_; refine wp_ret ?_; obtain rfl := Option.some.inj hF
  exact f_ret1 ha rfl rfl ⟨rfl, hE8⟩
set_option maxHeartbeats 2000000 in
theorem chg_eL {D : List Nat} {a b c : World} (h : Chg D a b) (k : Ext b c) : Chg D a c := Chg.trans h k (fun _ h => by cases h)
/-- a row of the memo: none yet, or a reading -/
def RowC (w : World) (fp : List Nat) (c : Value) (xs : List Int) : Prop := (c = .slice none 0 0 ∧ xs = [] ∧ fp = []) ∨ (xs ≠ [] ∧ Ro Rp.int w fp c xs)
theorem RowC.ro {w : World} {fp : List Nat} {c : Value} {xs : List Int} (h : RowC w fp c xs) : Ro Rp.int w fp c xs := by
  rcases h with ⟨rfl, rfl, rfl⟩ | ⟨_, h⟩
  · exact Ro.nil _
  exact h
theorem RowC.nilI {w : World} {fp : List Nat} {c : Value} {xs : List Int} (h : RowC w fp c xs) : nilB c = true ↔ xs = [] := by
  rcases h with ⟨rfl, rfl, rfl⟩ | ⟨hx, a, cap, hv, _, ⟨h1, _⟩ | ⟨b, off, cs, fs, ha, _⟩⟩
  · exact ⟨fun _ => rfl, fun _ => rfl⟩
  · exact absurd h1 hx
  subst hv ha
  exact ⟨fun h => (by cases h), fun h => absurd h hx⟩
theorem RowC.chg {D : List Nat} {w w' : World} {fp : List Nat} {c : Value} {xs : List Int} (h : RowC w fp c xs) (k : Chg D w w') (hD : ∀ i ∈ fp, i ∉ D) : RowC w' fp c xs := h.imp id fun h => ⟨h.1, h.2.chg k hD⟩
structure LoS (W0 : World) (bK bF bS g : Nat) (fF : List Nat) : Prop where
  gK : g ≠ bK
  gF : g ≠ bF
  gS : g ≠ bS
  fF : g ∉ fF
  g0 : W0.heap.size ≤ g
/-- the memo of the longest lists, and what the closure reads -/
structure LoI (W0 : World) (bK bF bS g n cap : Nat) (vF : Value) (fF : List Nat) (fol : List (BitVec 32)) (w : World) (tab : List (List Int)) : Prop where
  ext : Ext W0 w
  bxK : Bx w bK [.slice (some ⟨g, 0, none⟩) n cap] 39
  bxF : Bx w bF [vF] 29
  rdF : Ro Rp.u32 w fF vF fol
  bxS : Bx w bS [.func (.func 28) #[] #[.pointer (some ⟨bK, 0, none⟩), .pointer (some ⟨bF, 0, none⟩), .pointer (some ⟨bS, 0, none⟩)]] 47
  len : tab.length = n
  tbl : ∃ cells : List Value, Bx w g cells 37 ∧ n ≤ cells.length ∧ ∀ i c, i < n → cells[i]? = some c → ∃ fp, RowC w fp c (tab.getD i []) ∧ ∀ k ∈ fp, W0.heap.size ≤ k ∧ k ≠ g
section
variable {W0 : World} {bK bF bS g n cap : Nat} {vF : Value} {fF : List Nat} {fol : List (BitVec 32)}
theorem LoI.up {w w' : World} {tab : List (List Int)} (h : LoI W0 bK bF bS g n cap vF fF fol w tab) (k : Ext w w') : LoI W0 bK bF bS g n cap vF fF fol w' tab := by
  obtain ⟨cells, h1, h2, h3⟩ := h.tbl
  exact ⟨h.ext.trans k, h.bxK.ext k, h.bxF.ext k, h.rdF.ext k, h.bxS.ext k, h.len, cells, h1.ext k, h2, fun i c hi hc => by
    obtain ⟨fp, h4, h5⟩ := h3 i c hi hc
    exact ⟨fp, h4.chg k (fun _ _ h => by cases h), h5⟩⟩
theorem LoI.put (hS : LoS W0 bK bF bS g fF) {w w1 : World} {tab : List (List Int)} (h : LoI W0 bK bF bS g n cap vF fF fol w tab) {cells : List Value} (hB : Bx w g cells 37) (hl : n ≤ cells.length) (hr : ∀ i c, i < n → cells[i]? = some c → ∃ fp, RowC w fp c (tab.getD i []) ∧ ∀ k ∈ fp, W0.heap.size ≤ k ∧ k ≠ g)
    {i : Nat} (hi : i < n) {c : Value} {fp : List Nat} {xs : List Int} (hx : xs ≠ []) (hc : Ro Rp.int w fp c xs) (hf : ∀ k ∈ fp, W0.heap.size ≤ k ∧ k ≠ g) (h1 : Bx w1 g (cells.set i c) 37) (c1 : Chg [g] w w1) : LoI W0 bK bF bS g n cap vF fF fol w1 (tab.set i xs) := by
  have hn : ∀ {k : Nat}, k ≠ g → k ∉ [g] := fun h hm => h (List.mem_singleton.1 hm)
  refine ⟨Ext.then h.ext c1 fun k hk => by rw [List.mem_singleton] at hk; subst hk; exact hS.g0, h.bxK.chg c1 (hn hS.gK.symm), h.bxF.chg c1 (hn hS.gF.symm), h.rdF.chg c1 (fun k hk => hn fun e => hS.fF (e ▸ hk)), h.bxS.chg c1 (hn hS.gS.symm), by rw [List.length_set]; exact h.len, _, h1, by rw [List.length_set]; exact hl, fun j d hj hd => ?_⟩
  rw [List.getElem?_set] at hd
  have hlen := h.len
  by_cases e : i = j
  · subst e
    rw [if_pos rfl, if_pos (by omega)] at hd
    obtain rfl := Option.some.inj hd
    refine ⟨fp, .inr ⟨by simpa [List.getD_eq_getElem?_getD, List.getElem?_set, hlen, hi] using hx, ?_⟩, hf⟩
    have : (tab.set i xs).getD i [] = xs := by simp [List.getD_eq_getElem?_getD, List.getElem?_set, hlen, hi]
    rw [this]
    exact hc.chg c1 (fun k hk => hn (hf k hk).2)
  rw [if_neg e] at hd
  obtain ⟨fp', h4, h5⟩ := hr j d hj hd
  have : (tab.set i xs).getD j [] = tab.getD j [] := by simp [List.getD_eq_getElem?_getD, List.getElem?_set, e]
  rw [this]
  exact ⟨fp', h4.chg c1 (fun k hk => hn (h5 k hk).2), h5⟩
theorem loIdx {v : Int} (h0 : 0 ≤ v) (h1 : v.toNat < n) : IdxAt 1 (.slice (some ⟨g, 0, none⟩) n cap) v ⟨g, v.toNat, none⟩ :=
  ⟨⟨g, 0, none⟩, n, cap, rfl, h0, by omega, by rw [Addr.add_lit', Nat.zero_add, Nat.mul_one]⟩
/-- what a call of the closure says -/
def LoR (W0 : World) (bK bF bS g n cap : Nat) (vF : Value) (fF : List Nat) (fol : List (BitVec 32)) (W : World) (r : List Int × List (List Int)) (u : Value) (w' : World) : Prop :=
  (∃ fp, Ro Rp.int w' fp u r.1 ∧ ∀ k ∈ fp, W0.heap.size ≤ k ∧ k ≠ g) ∧ LoI W0 bK bF bS g n cap vF fF fol w' r.2 ∧ Chg [g] W w'
set_option maxHeartbeats 2000000 in
theorem W_impl_from_step (hS : LoS W0 bK bF bS g fF) (hG : GT 0 W0) {rc : Int → List (List Int) → Option (List Int × List (List Int))}
    (ih : ∀ {W : World} {v : Int} (hv : InI v) {t : List (List Int)} (hI : LoI W0 bK bF bS g n cap vF fF fol W t) {r : List Int × List (List Int)} (hF : rc v t = some r),
      Calls Tryd.prog 28 [.int .i64 v, .pointer (some ⟨bK, 0, none⟩), .pointer (some ⟨bF, 0, none⟩), .pointer (some ⟨bS, 0, none⟩)].toArray W (Ret (LoR W0 bK bF bS g n cap vF fF fol W r)))
    {W : World} {v : Int} (hv : InI v) {t : List (List Int)} (hI : LoI W0 bK bF bS g n cap vF fF fol W t) {r : List Int × List (List Int)} (hF : F_impl_from_body fol rc v t = some r) :
    Calls Tryd.prog 28 [.int .i64 v, .pointer (some ⟨bK, 0, none⟩), .pointer (some ⟨bF, 0, none⟩), .pointer (some ⟨bS, 0, none⟩)].toArray W (Ret (LoR W0 bK bF bS g n cap vF fF fol W r)) := by
  refine f_enter Tryd.func28 rfl Tryd.ntmps28 rfl ?_
  intro a ha
  replace ha : Fr 45 [(0, (.int .i64 v)), (1, (.pointer (some ⟨bK, 0, none⟩))), (2, (.pointer (some ⟨bF, 0, none⟩))), (3, (.pointer (some ⟨bS, 0, none⟩)))] a := ha
  unfold F_impl_from_body at hF
  refine wp_seq ?_; refine wp_region_lit ?_; refine op_g ha rfl (g_assign rfl) ?_; clear ha a; intro a ha; refine wpList_nil ?_; replace ha := ha.sub (σ' := [(0, (.int .i64 v)), (1, (.pointer (some ⟨bK, 0, none⟩))), (2, (.pointer (some ⟨bF, 0, none⟩))), (3, (.pointer (some ⟨bS, 0, none⟩)))]) ⟨rfl, rfl, rfl, rfl, trivial⟩; refine e_then ?_; refine wp_seq ?_; refine wp_seq ?_; refine wp_region_lit ?_; refine op_g ha rfl (g_load Tryd.isAgg39 rfl (hI.bxK.cell rfl)) ?_; clear ha a; intro a ha; refine op_g ha rfl (g_move rfl) ?_; clear ha a; intro a ha; obtain ⟨y, g0, gy, hF⟩ := idx_some hF
  have hvn : v.toNat < n := by rw [← hI.len]; exact (List.getElem?_eq_some_iff.1 gy).1
  have hyd : t.getD v.toNat [] = y := by rw [List.getD_eq_getElem?_getD, gy]; rfl
  obtain ⟨cells, hB, hcl, hrow⟩ := hI.tbl
  have hvc : v.toNat < cells.length := by omega
  obtain ⟨fp, hr, hfp⟩ := hrow v.toNat cells[v.toNat] hvn (List.getElem?_eq_getElem hvc)
  have hc : cells[v.toNat]? = some cells[v.toNat] := List.getElem?_eq_getElem hvc
  generalize cells[v.toNat] = c at hr hc
  rw [hyd] at hr
  refine op_g ha rfl ((loIdx g0 hvn).gives sl39 rfl rfl) ?_; clear ha a; intro a ha; refine op_g ha rfl (g_load Tryd.isAgg37 rfl (hB.cell hc)) ?_; clear ha a; intro a ha; refine op_g ha rfl (g_nil sl37.und rfl hr.ro.shape) ?_; clear ha a; intro a ha; refine wpList_nil ?_; replace ha := ha.sub (σ' := [(0, (.int .i64 v)), (1, (.pointer (some ⟨bK, 0, none⟩))), (2, (.pointer (some ⟨bF, 0, none⟩))), (3, (.pointer (some ⟨bS, 0, none⟩))), (14, (.bool (nilB c)))]) ⟨rfl, rfl, rfl, rfl, rfl, trivial⟩; refine e_then ?_; refine c_cond (y = []) ha rfl hr.nilI (fun hp => ?_) (fun hp => ?_)
  · replace hF := if_t hp hF
    refine wp_seq ?_; refine wp_region_lit ?_
    refine o_lit0 Rp.int ha rfl sl37 ?_; clear ha a; intro v15 w15 h15 hx15 a ha
    have hI15 := hI.up hx15
    obtain ⟨fb0, hb0, hs0⟩ := h15.roF
    have hfb0 : ∀ k ∈ fb0, W0.heap.size ≤ k ∧ k ≠ g := fun k hk => by
      have h1 := hs0 k hk
      rw [List.append_nil, mem_bl] at h1
      have h2 := hI.ext.size
      have h3 := hB.blt
      omega
    refine op_g ha rfl (g_assign rfl) ?_; clear ha a; intro a ha; refine wpList_nil ?_; replace ha := ha.sub (σ' := [(0, (.int .i64 v)), (1, (.pointer (some ⟨bK, 0, none⟩))), (2, (.pointer (some ⟨bF, 0, none⟩))), (3, (.pointer (some ⟨bS, 0, none⟩))), (6, v15)]) ⟨rfl, rfl, rfl, rfl, rfl, trivial⟩; refine e_then ?_; refine wp_seq ?_; refine wp_seq ?_; refine wp_region_lit ?_; refine op_g ha rfl (g_load Tryd.isAgg29 rfl (hI15.bxF.cell rfl)) ?_; clear ha a; intro a ha; refine op_g ha rfl (g_move rfl) ?_; clear ha a; intro a ha; obtain ⟨s, gs0, gs, hF⟩ := idx_some hF
    obtain ⟨p16, cs16, f16, hf16, hpb16, hat16, hr16, hi16⟩ := hI15.rdF.at gs0 gs
    obtain ⟨rfl, rfl⟩ := hr16
    refine op_g ha rfl (hi16.gives sl29 rfl rfl) ?_; clear ha a; intro a ha; refine op_g ha rfl (g_load Tryd.isAgg34 rfl hat16.one) ?_; clear ha a; intro a ha; obtain ⟨x, hcx, hF⟩ := cal_some hF
    refine o_call ha rfl rfl Tryd.call29 (W_impl_vset_list (hG.ext hI15.ext) hcx) ?_; clear ha a; rintro v20 w20 ⟨b20, h20, z20, hx20⟩ a ha
    have hI20 := hI15.up hx20
    have zg : ∀ k ∈ [g], (k : Int) ≠ b20 := fun k hk => by
      rw [List.mem_singleton] at hk; subst hk
      have := (hB.ext hx15).blt
      rcases z20 with h | h <;> omega
    refine op_g ha rfl (g_lenO sl37.und h20 rfl) ?_; clear ha a; intro a ha; refine op_g ha rfl (g_move rfl) ?_; clear ha a; intro a ha; refine wpList_nil ?_; replace ha := ha.sub (σ' := [(0, (.int .i64 v)), (1, (.pointer (some ⟨bK, 0, none⟩))), (2, (.pointer (some ⟨bF, 0, none⟩))), (3, (.pointer (some ⟨bS, 0, none⟩))), (6, v15), (20, v20), (21, (.int .i64 (x.length : Int))), (22, (.int .i64 0))]) ⟨rfl, rfl, rfl, rfl, rfl, rfl, rfl, rfl, trivial⟩; refine e_then ?_; obtain ⟨o1, ho1, hK1⟩ := bnd_some hF
    obtain ⟨n1, hn1⟩ := lp_some ho1; clear ho1
    refine c_loop (fun a w => ∃ (best : List Int) (t1 : List (List Int)) (vb : Value) (fb : List Nat), Fr 45 [(0, (.int .i64 v)), (1, (.pointer (some ⟨bK, 0, none⟩))), (2, (.pointer (some ⟨bF, 0, none⟩))), (3, (.pointer (some ⟨bS, 0, none⟩))), (6, vb)] a ∧ LoI W0 bK bF bS g n cap vF fF fol w t1 ∧ Ro Rp.int w fb vb best ∧ (∀ k ∈ fb, W0.heap.size ≤ k ∧ k ≠ g) ∧ Chg [g] W w ∧ o1 = .inl (best, t1))
      (fun m a w => ∃ (best : List Int) (t1 : List (List Int)) (i : Int) (vb : Value) (fb : List Nat), Fr 45 [(0, (.int .i64 v)), (1, (.pointer (some ⟨bK, 0, none⟩))), (2, (.pointer (some ⟨bF, 0, none⟩))), (3, (.pointer (some ⟨bS, 0, none⟩))), (6, vb), (20, v20), (21, (.int .i64 (x.length : Int))), (22, (.int .i64 i))] a ∧ LoI W0 bK bF bS g n cap vF fF fol w t1 ∧ Ro Rp.int w fb vb best ∧ (∀ k ∈ fb, W0.heap.size ≤ k ∧ k ≠ g) ∧ Ow Rp.int 3 true w [] b20 v20 x ∧ Chg [g] W w ∧ lpN (fun q => F_impl_from_l1 rc x q.1 q.2.1 q.2.2) m (best, t1, i) = some o1) n1
      ⟨[], t, 0, v15, fb0, ha.sub ⟨rfl, rfl, rfl, rfl, rfl, rfl, rfl, rfl, trivial⟩, hI20, hb0.ext hx20, hfb0, h20, (hx15.trans hx20).chg, hn1⟩ ?_ ?_
    · rintro m a w ⟨best, t1, i, vb, fb, ha, ht, hb, hfb, h20, hE, hF⟩
      cases m with
      | zero => exact (lpN_zero hF).elim
      | succ m =>
        obtain ⟨z, hF, hN⟩ := lpN_succ hF
        have hF : F_impl_from_l1 rc x best t1 i = some z := hF; unfold F_impl_from_l1 at hF
        refine wp_seq ?_; refine wp_region_lit ?_; refine op_g ha rfl (g_lss rfl rfl) ?_; clear ha a; intro a ha; refine wpList_nil ?_; replace ha := ha.sub (σ' := [(0, (.int .i64 v)), (1, (.pointer (some ⟨bK, 0, none⟩))), (2, (.pointer (some ⟨bF, 0, none⟩))), (3, (.pointer (some ⟨bS, 0, none⟩))), (6, vb), (20, v20), (21, (.int .i64 (x.length : Int))), (22, (.int .i64 i)), (23, (.bool (decide (i < (x.length : Int)))))]) ⟨rfl, rfl, rfl, rfl, rfl, rfl, rfl, rfl, rfl, trivial⟩; refine e_then ?_; refine wp_seq ?_; refine c_cond (i < (x.length : Int)) ha rfl (decide_eq_true_iff) (fun hp => ?_) (fun hp => ?_)
        · replace hF := if_t hp hF
          refine wp_skip ?_; refine e_then ?_; refine wp_seq ?_; refine wp_block ?_; refine wp_seq ?_; refine wp_region_lit ?_; obtain ⟨u, gu0, gu, hF⟩ := idx_some hF
          obtain ⟨p24, cs24, f24, hf24, hpb24, hat24, hr24, hi24⟩ := h20.at gu0 gu
          obtain ⟨rfl, hIu, rfl⟩ := hr24
          refine op_g ha rfl (hi24.gives sl37 rfl rfl) ?_; clear ha a; intro a ha; refine op_g ha rfl (g_load Tryd.isAgg3 rfl hat24.one) ?_; clear ha a; intro a ha; refine op_g ha rfl (g_assign rfl) ?_; clear ha a; intro a ha; refine wpList_nil ?_; replace ha := ha.sub (σ' := [(0, (.int .i64 v)), (1, (.pointer (some ⟨bK, 0, none⟩))), (2, (.pointer (some ⟨bF, 0, none⟩))), (3, (.pointer (some ⟨bS, 0, none⟩))), (6, vb), (8, (.int .i64 u)), (20, v20), (21, (.int .i64 (x.length : Int))), (22, (.int .i64 i))]) ⟨rfl, rfl, rfl, rfl, rfl, rfl, rfl, rfl, rfl, trivial⟩; refine e_then ?_; refine wp_seq ?_; refine wp_region_lit ?_
          refine op_g ha rfl (g_load Tryd.isAgg47 rfl (ht.bxS.cell rfl)) ?_; clear ha a; intro a ha; refine op_g ha rfl (g_move rfl) ?_; clear ha a; intro a ha; obtain ⟨r1, hc1, hF⟩ := cal_some hF
          have hcall := ih hIu ht hc1
          refine o_callv (vals := [.int .i64 u]) (cap := [.pointer (some ⟨bK, 0, none⟩), .pointer (some ⟨bF, 0, none⟩), .pointer (some ⟨bS, 0, none⟩)]) ha rfl rfl rfl Tryd.call28 hcall ?_; clear ha a; rintro v28 w28 ⟨⟨f28, hr28, hf28⟩, ht28, hx28⟩ a ha
          have hb28 := hb.chg hx28 (fun k hk hm => (hfb k hk).2 (List.mem_singleton.1 hm))
          have h2028 := h20.chg hx28 zg (fun k hk => by cases hk)
          have hE28 : Chg [g] W w28 := Chg.trans hE hx28 (fun i hi => .inl hi)
          refine op_g ha rfl (g_assign rfl) ?_; clear ha a; intro a ha; refine wpList_nil ?_; replace ha := ha.sub (σ' := [(0, (.int .i64 v)), (1, (.pointer (some ⟨bK, 0, none⟩))), (2, (.pointer (some ⟨bF, 0, none⟩))), (3, (.pointer (some ⟨bS, 0, none⟩))), (6, vb), (9, v28), (20, v20), (21, (.int .i64 (x.length : Int))), (22, (.int .i64 i))]) ⟨rfl, rfl, rfl, rfl, rfl, rfl, rfl, rfl, rfl, trivial⟩; refine e_then ?_; refine wp_seq ?_; refine wp_region_lit ?_; (iterate 2 refine op_g ha rfl (g_move rfl) ?_; clear ha a; intro a ha); obtain ⟨b, hcb, hF⟩ := cal_some hF
          refine o_call ha rfl rfl Tryd.call27 (W_impl_isBetter hr28 hb28 hcb) ?_; clear ha a; rintro v31 w31 ⟨rfl, hx31⟩ a ha
          have ht31 := ht28.up hx31
          have hE31 := chg_eL hE28 hx31
          refine wpList_nil ?_; replace ha := ha.sub (σ' := [(0, (.int .i64 v)), (1, (.pointer (some ⟨bK, 0, none⟩))), (2, (.pointer (some ⟨bF, 0, none⟩))), (3, (.pointer (some ⟨bS, 0, none⟩))), (6, vb), (9, v28), (20, v20), (21, (.int .i64 (x.length : Int))), (22, (.int .i64 i)), (31, (.bool b))]) ⟨rfl, rfl, rfl, rfl, rfl, rfl, rfl, rfl, rfl, rfl, trivial⟩; refine e_then ?_; refine c_cond (b = true) ha rfl (Iff.rfl) (fun hp2 => ?_) (fun hp2 => ?_)
          · replace hF := if_t hp2 hF
            refine wp_region_lit ?_; refine op_g ha rfl (g_move rfl) ?_; clear ha a; intro a ha; refine op_g ha rfl (g_assign rfl) ?_; clear ha a; intro a ha; refine wpList_nil ?_; replace ha := ha.sub (σ' := [(0, (.int .i64 v)), (1, (.pointer (some ⟨bK, 0, none⟩))), (2, (.pointer (some ⟨bF, 0, none⟩))), (3, (.pointer (some ⟨bS, 0, none⟩))), (6, v28), (20, v20), (21, (.int .i64 (x.length : Int))), (22, (.int .i64 i))]) ⟨rfl, rfl, rfl, rfl, rfl, rfl, rfl, rfl, trivial⟩; refine e_blk ?_; refine e_then ?_; refine wp_region_lit ?_; obtain ⟨hI1, hF⟩ := ck_some hF; refine op_g ha rfl (g_add rfl rfl hI1) ?_; clear ha a; intro a ha; refine op_g ha rfl (g_move rfl) ?_; clear ha a; intro a ha; refine wpList_nil ?_
            refine e_lq ?_; obtain rfl := Option.some.inj hF
            exact ⟨_, Nat.lt_succ_self _, r1.1, r1.2, i + 1, v28, f28, ha.sub ⟨rfl, rfl, rfl, rfl, rfl, rfl, rfl, rfl, trivial⟩, ht31, hr28.ext hx31, hf28, h2028.ext hx31, hE31, hN⟩
          replace hF := if_f hp2 hF; refine wp_skip ?_; refine e_blk ?_; refine e_then ?_; refine wp_region_lit ?_; obtain ⟨hI1, hF⟩ := ck_some hF; refine op_g ha rfl (g_add rfl rfl hI1) ?_; clear ha a; intro a ha; refine op_g ha rfl (g_move rfl) ?_; clear ha a; intro a ha; refine wpList_nil ?_; refine e_lq ?_; obtain rfl := Option.some.inj hF
          exact ⟨_, Nat.lt_succ_self _, best, r1.2, i + 1, vb, fb, ha.sub ⟨rfl, rfl, rfl, rfl, rfl, rfl, rfl, rfl, trivial⟩, ht31, hb28.ext hx31, hfb, h2028.ext hx31, hE31, hN⟩
        replace hF := if_f hp hF; refine wp_exit ?_; refine e_then_exit ?_; refine e_lq_eq ?_; obtain rfl := Option.some.inj hF
        exact ⟨best, t1, vb, fb, ha.sub ⟨rfl, rfl, rfl, rfl, rfl, trivial⟩, ht, hb, hfb, hE, (LK_inr hN).symm⟩
    clear hB hcl hrow hc hr hfp hvc hyd gy
    rintro a w ⟨best, t1, vb, fb, ha, ht, hb, hfb, hE, rfl⟩
    have hF : F_impl_from_k v best t1 = some _ := hK1; clear hK1; unfold F_impl_from_k at hF
    obtain ⟨hl, hF⟩ := app_some hF; obtain ⟨y2, _, gy2, hF⟩ := idx_some hF
    obtain ⟨cells, hB, hcl, hrow⟩ := ht.tbl
    have hvc : v.toNat < cells.length := by omega
    refine e_then ?_; refine x_region [0, 1, 2, 3, 4, 5, 6] hmix ?_
    have hS0 := RowKit.Below.refl w.heap.size w
    refine x_g 0 rfl (by kernel_rfl) (want0 _) ha rfl hS0 (g_load Tryd.isAgg39 rfl (ht.bxK.cell rfl)) ?_; clear ha a; intro a ha; refine x_g 1 rfl (by kernel_rfl) (want0 _) ha rfl hS0 (g_move rfl) ?_; clear ha a; intro a ha; refine x_g 2 rfl (by kernel_rfl) (want0 _) ha rfl hS0 (g_move rfl) ?_; clear ha a; intro a ha; refine x_g 4 rfl (by kernel_rfl) (want0 _) ha rfl hS0 (g_move rfl) ?_; clear ha a; intro a ha
    refine x_only 3 rfl (by kernel_rfl) ?_; intro wa hxa
    have hS1 := bel_step hS0 hxa
    refine o_lit1 (o := true) (y := v) Rp.int ha rfl sl37 rfl rfl rfl ⟨rfl, hv, rfl⟩ ?_; clear ha a; intro v37 w37 h37 hx37 a ha
    obtain ⟨b37, hb37⟩ : ∃ b : Int, b = wa.heap.size := ⟨_, rfl⟩; rw [← hb37] at h37
    refine wpList_nil (e_sq ?_)
    have hSt1 : RowKit.Below w.heap.size wa w37 := ext_bel hS1.size hx37
    refine ⟨fun _ => hSt1, ?_⟩
    have hS2 := RowKit.Below.trans hS1 hSt1
    refine x_only 5 rfl (by kernel_rfl) ?_; intro wb hxb
    have hS3 := bel_step hS2 hxb
    have h37b := h37.ext hxb
    have hxab := (hxa.trans hx37).trans hxb
    have hbb := hb.ext hxab
    obtain ⟨_, hs38, _⟩ := hbb.src
    have z37 : Zn w b37 := .inr (by have := hxa.size; omega)
    refine o_append ha rfl sl37 rfl rfl rfl h37b (hs38.up scal_int) (Nq.nil _) hl ?_; clear ha a; intro v39 w39 b39 h39 hc39 hb39 a ha
    replace h39 : Ow Rp.int 3 true w39 [] b39 v39 ([v] ++ best) := h39
    refine wpList_nil (e_sq ?_)
    have hSt2 : RowKit.Below w.heap.size wb w39 := chg_bel hc39 hS3.size (Zn.bl z37)
    refine ⟨fun _ => hSt2, ?_⟩
    have hS4 := RowKit.Below.trans hS3 hSt2
    have hE39 : Ext w w39 := bel_ext hS4
    refine x_g 6 rfl (by kernel_rfl) (want0 _) ha rfl hS4 ((loIdx (g := g) (n := n) (cap := cap) g0 hvn).gives sl39 rfl rfl) ?_; clear ha a; intro a ha
    refine x_only 7 rfl (by kernel_rfl) ?_; intro wc hxc
    have hEc := hE39.trans hxc
    have htc := ht.up hEc
    have hBc := hB.ext hEc
    have h39c := h39.ext hxc
    obtain ⟨f39, hr39, hs39⟩ := h39c.roF
    have z39 : Zn w b39 := Zn.appB z37 hb39 hS3
    have hf39 : ∀ k ∈ f39, W0.heap.size ≤ k ∧ k ≠ g := fun k hk => by
      have h1 := hs39 k hk
      rw [List.append_nil, mem_bl] at h1
      have h2 := ht.ext.size
      have h3 := hB.blt
      rcases z39 with h | h <;> omega
    refine o_storeB ha hBc Tryd.sizeOf37 rfl rfl h39c.cells h39c.oneC hvc ?_; intro w7 hB7 hc7
    refine wpList_nil (e_sq ?_)
    refine ⟨fun h => absurd h (by decide), ?_⟩
    have ht7 := LoI.put hS htc hBc hcl (fun i c hi hc => by
      obtain ⟨fp, h4, h5⟩ := hrow i c hi hc
      exact ⟨fp, h4.chg hEc (fun _ _ h => by cases h), h5⟩) hvn (by simp) hr39 hf39 hB7 hc7
    have hr7 := hr39.chg hc7 (fun k hk hm => (hf39 k hk).2 (List.mem_singleton.1 hm))
    refine x_done (by kernel_rfl) ?_; intro w8 hx8
    have ht8 := ht7.up hx8
    have hr8 := hr7.ext hx8
    have hB8 := hB7.ext hx8
    have hE8 : Chg [g] W w8 := chg_eL (Chg.trans (chg_eL hE hEc) hc7 (fun i hi => .inl hi)) hx8
    replace ha := ha.sub (σ' := [(0, (.int .i64 v)), (1, (.pointer (some ⟨bK, 0, none⟩)))]) ⟨rfl, rfl, trivial⟩; refine e_then ?_; refine wp_seq ?_; refine wp_region_lit ?_; refine op_g ha rfl (g_load Tryd.isAgg39 rfl (ht8.bxK.cell rfl)) ?_; clear ha a; intro a ha; refine op_g ha rfl (g_move rfl) ?_; clear ha a; intro a ha; refine op_g ha rfl ((loIdx g0 hvn).gives sl39 rfl rfl) ?_; clear ha a; intro a ha; refine op_g ha rfl (g_load (v := v39) Tryd.isAgg37 rfl (hB8.cell (by rw [List.getElem?_set_self hvc]))) ?_; clear ha a; intro a ha; refine op_g ha rfl (g_assign rfl) ?_; clear ha a; intro a ha; refine wpList_nil ?_
    replace ha := ha.sub (σ' := [(5, v39)]) ⟨rfl, trivial⟩; refine e_then ?_; refine wp_ret ?_; obtain rfl := Option.some.inj hF
    exact f_ret1 ha rfl rfl ⟨⟨f39, hr8, hf39⟩, ht8, hE8⟩
  replace hF := if_f hp hF; refine wp_skip ?_; refine e_then ?_; refine wp_seq ?_; refine wp_region_lit ?_; refine op_g ha rfl (g_load Tryd.isAgg39 rfl (hI.bxK.cell rfl)) ?_; clear ha a; intro a ha; refine op_g ha rfl (g_move rfl) ?_; clear ha a; intro a ha; refine op_g ha rfl ((loIdx g0 hvn).gives sl39 rfl rfl) ?_; clear ha a; intro a ha; refine op_g ha rfl (g_load Tryd.isAgg37 rfl (hB.cell hc)) ?_; clear ha a; intro a ha; refine op_g ha rfl (g_assign rfl) ?_; clear ha a; intro a ha; refine wpList_nil ?_; replace ha := ha.sub (σ' := [(5, c)]) ⟨rfl, trivial⟩; refine e_then ?_; refine wp_ret ?_; obtain rfl := Option.some.inj hF
  exact f_ret1 ha rfl rfl ⟨⟨fp, hr.ro, hfp⟩, hI, Chg.refl _ _⟩
theorem W_impl_from (hS : LoS W0 bK bF bS g fF) (hG : GT 0 W0) {W : World} {v : Int} (hv : InI v) {t : List (List Int)} (hI : LoI W0 bK bF bS g n cap vF fF fol W t) {r : List Int × List (List Int)} (hF : F_impl_from fol v t = some r) :
    Calls Tryd.prog 28 [.int .i64 v, .pointer (some ⟨bK, 0, none⟩), .pointer (some ⟨bF, 0, none⟩), .pointer (some ⟨bS, 0, none⟩)].toArray W (Ret (LoR W0 bK bF bS g n cap vF fF fol W r)) := by
  obtain ⟨m, hm⟩ := fixO_some hF
  clear hF
  have key : ∀ (m : Nat) {W : World} {v : Int} (hv : InI v) {t : List (List Int)} (hI : LoI W0 bK bF bS g n cap vF fF fol W t) {r : List Int × List (List Int)} (hF : itN (F_impl_from_B fol) m (v, t) = some r),
      Calls Tryd.prog 28 [.int .i64 v, .pointer (some ⟨bK, 0, none⟩), .pointer (some ⟨bF, 0, none⟩), .pointer (some ⟨bS, 0, none⟩)].toArray W (Ret (LoR W0 bK bF bS g n cap vF fF fol W r)) := by
    intro m
    induction m with
    | zero => intro W v hv t hI r hF; cases hF
    | succ m ih => intro W v hv t hI r hF; exact W_impl_from_step hS hG (rc := fun z0 z1 => itN (F_impl_from_B fol) m (z0, z1)) @ih hv hI hF
  exact key m hv hI hm
end
theorem lo_ro {w : World} {g : Nat} {e : TypeId} {W0 : World} : ∀ (tab : List (List Int)) (off : Nat) (cells : List Value), Bx w g cells e → off + tab.length ≤ cells.length → (∀ i c, i < tab.length → cells[off + i]? = some c → ∃ fp, RowC w fp c (tab.getD i []) ∧ ∀ k ∈ fp, W0.heap.size ≤ k ∧ k ≠ g) →
    ∃ cs fs, cs = (cells.drop off).take tab.length ∧ RepL (Rp.sl 3 Rp.int) false w fs cs tab ∧ ∀ k ∈ fs, W0.heap.size ≤ k
  | [], off, cells, _, _, _ => ⟨[], [], by simp, ⟨rfl, rfl⟩, fun k hk => by cases hk⟩
  | x :: tab, off, cells, hB, hl, h => by
    rw [List.length_cons] at hl h
    have h0 : off < cells.length := by omega
    obtain ⟨fp, h1, h2⟩ := h 0 cells[off] (by omega) (by rw [Nat.add_zero]; exact List.getElem?_eq_getElem h0)
    obtain ⟨cs, fs, hc, hr, hf⟩ := lo_ro tab (off + 1) cells hB (by omega) (fun i c hi hc => by
      obtain ⟨fp, h3, h4⟩ := h (i + 1) c (by omega) (by rw [show off + (i + 1) = off + 1 + i by omega]; exact hc)
      exact ⟨fp, by simpa using h3, h4⟩)
    have h1' : RowC w fp cells[off] x := by simpa using h1
    refine ⟨cells[off] :: cs, fp ++ fs, ?_, ⟨fp, fs, [cells[off]], cs, rfl, rfl, Rp.mkR h1'.ro, hr⟩, fun k hk => ?_⟩
    · rw [List.drop_eq_getElem_cons h0, List.length_cons, List.take_succ_cons, hc]
    rcases List.mem_append.1 hk with h | h
    · exact (h2 k h).1
    exact hf k h
theorem lo_zero {w : World} : ∀ (N : Nat) (cs : List Value), RepL (Rp.sl 3 Rp.int) true w [] cs (List.replicate N ([] : List Int)) → ∀ c ∈ cs, c = .slice none 0 0
  | 0, cs, ⟨_, h⟩, c, hc => by rw [h] at hc; cases hc
  | N + 1, cs, ⟨f, fs, c0, cs', hf, hc0, hx, hr⟩, c, hc => by
    obtain ⟨rfl, rfl⟩ : f = [] ∧ fs = [] := by
      have := hf.symm
      exact List.append_eq_nil_iff.1 this
    obtain ⟨v, rfl, hv⟩ := hx
    simp only [if_true] at hv
    obtain ⟨fs', b, hO, hb⟩ := hv
    have hb0 : bl b = [] := (List.append_eq_nil_iff.1 hb.symm).1
    have hbn : b < 0 := by
      unfold bl at hb0
      split at hb0
      · cases hb0
      omega
    rw [hc0] at hc
    rcases List.mem_append.1 hc with h | h
    · rw [List.mem_singleton] at h
      rcases hO with ⟨_, hv, _⟩ | ⟨g, cap, cur, cs, hg, _⟩
      · rw [h, hv]
      omega
    exact lo_zero N cs' hr c h
set_option maxHeartbeats 4000000 in
theorem W_impl_longestLists {W : World} {va0 : Value} {fa0 : List Nat} {a0 : List (BitVec 32)} (ha0 : Ro Rp.u32 W fa0 va0 a0) (hG : GT 0 W) {r : List (List Int)} (hF : F_impl_longestLists a0 = some r) :
    Calls Tryd.prog 22 [va0].toArray W (Ret fun u w' => ∃ (fp_u : List Nat), Ro (Rp.sl 3 Rp.int) w' fp_u u r ∧ Pv (fa0) W.heap.size fp_u ∧ Ext W w') := by
  refine f_enter Tryd.func22 rfl Tryd.ntmps22 rfl ?_
  intro a ha
  replace ha : Fr 20 [(0, va0)] a := ha
  have hE : Chg [] W W := Chg.refl _ _
  unfold F_impl_longestLists at hF
  refine wp_seq ?_; refine wp_region_lit ?_
  refine o_box (cs := [va0]) ha rfl rfl ha0.cells ?_; clear ha a; intro b1 w2 hB3 hx4 hlo5 a ha
  refine op_g ha rfl (g_assign rfl) ?_; clear ha a; intro a ha; refine wpList_nil ?_; replace ha := ha.sub (σ' := [(1, (.pointer (some ⟨b1, 0, none⟩)))]) ⟨rfl, trivial⟩; refine e_then ?_; refine wp_seq ?_; refine wp_region_lit ?_; refine op_g ha rfl (g_load Tryd.isAgg29 rfl (hB3.cell rfl)) ?_; clear ha a; intro a ha; refine op_g ha rfl (g_lenR sl29.und ha0 rfl) ?_; clear ha a; intro a ha; obtain ⟨g6, g6b, hF⟩ := mkS_some hF
  refine o_make (z0 := ([] : List Int)) (Rp.sl 3 Rp.int) ha rfl sl39 rfl (fun w => Rp.mkO (Ow.nil (by decide : (-1 : Int) < 0))) rfl g6 g6b ?_; clear ha a; intro v8 w8 h8 hx8 a ha
  rw [Int.toNat_natCast] at h8 hF
  have hcell := h8.cells; have hone := h8.oneC
  rcases h8 with ⟨h8, _⟩ | ⟨g, cap, cur, cs, hg, hv8, hh, h81, h82, h83, h84, h85, h86⟩
  · omega
  rw [List.length_replicate] at hv8 h81 h84
  subst hv8
  have hBg : Bx w8 g cur.toList 37 := by unfold Bx; rw [hh]
  have hgs : g = w2.heap.size := by omega
  have hsz : (Rp.sl 3 Rp.int).sz = 1 := rfl
  rw [hsz, Nat.mul_one] at h83
  have hcl : a0.length ≤ cur.toList.length := by have : cur.toList.length = cur.size := Array.length_toList; omega
  have hz : ∀ i c, i < a0.length → cur.toList[i]? = some c → c = .slice none 0 0 := fun i c hi hc => by
    have : (Rp.sl 3 Rp.int).sz = 1 := rfl
    rw [this, Nat.mul_one] at h84
    refine lo_zero a0.length cs h85 c ?_
    rw [← h84]
    exact List.mem_of_getElem? (i := i) (by rw [List.getElem?_take, if_pos hi]; exact hc)
  refine o_alloc (cs := [(.slice none 0 0)]) ha rfl Tryd.zeroValue39 rfl ?_; clear ha a; intro b9 w9 hB9 hx9 hlo9 a ha
  refine o_storeB ha hB9 Tryd.sizeOf39 rfl rfl hcell hone (Nat.le_of_ble_eq_true rfl) ?_; intro w10 hB10 hc10
  replace hB10 : Bx w10 b9 [.slice (some ⟨g, 0, none⟩) a0.length cap] 39 := hB10
  have s2 := hB3.blt
  have s8 := hx8.size; have s9 := hx9.size; have s10 := hc10.size; have s4 := hx4.size; have sg := hBg.blt
  have hn9 : ∀ {k : Nat}, k ≠ b9 → k ∉ [b9] := fun h hm => h (List.mem_singleton.1 hm)
  replace hB3 := ((hB3.ext hx8).ext hx9).chg hc10 (hn9 (by omega)); replace hBg := (hBg.ext hx9).chg hc10 (hn9 (by omega))
  have hE10 : Ext W w10 := Ext.then (((hx4.trans hx8).trans hx9)) hc10 (fun i hi => by rw [List.mem_singleton] at hi; omega)
  refine wpList_nil ?_; replace ha := ha.sub (σ' := [(1, (.pointer (some ⟨b1, 0, none⟩))), (3, (.pointer (some ⟨b9, 0, none⟩)))]) ⟨rfl, rfl, trivial⟩; refine e_then ?_; refine wp_seq ?_; refine wp_region_lit ?_
  refine o_alloc (cs := [_]) ha rfl Tryd.zeroValue47 rfl ?_; clear ha a; intro b11 w11 hB11 hx11 hlo11 a ha
  refine wpList_nil ?_; replace ha := ha.sub (σ' := [(1, (.pointer (some ⟨b1, 0, none⟩))), (3, (.pointer (some ⟨b9, 0, none⟩))), (4, (.pointer (some ⟨b11, 0, none⟩)))]) ⟨rfl, rfl, rfl, trivial⟩; refine e_then ?_; refine wp_seq ?_; refine wp_region_lit ?_; refine op_g ha rfl (g_func rfl rfl) ?_; clear ha a; intro a ha
  refine o_storeB ha hB11 Tryd.sizeOf47 rfl rfl rfl rfl (Nat.le_of_ble_eq_true rfl) ?_; intro w12 hB12 hc12
  replace hB12 : Bx w12 b11 [.func (.func 28) #[] #[.pointer (some ⟨b9, 0, none⟩), .pointer (some ⟨b1, 0, none⟩), .pointer (some ⟨b11, 0, none⟩)]] 47 := hB12
  have s11 := hx11.size; have s12 := hc12.size; have t9 := hB10.blt; have t3 := hB3.blt; have tg := hBg.blt
  have hn11 : ∀ {k : Nat}, k ≠ b11 → k ∉ [b11] := fun h hm => h (List.mem_singleton.1 hm)
  replace hB3 := (hB3.ext hx11).chg hc12 (hn11 (by omega)); replace hB10 := (hB10.ext hx11).chg hc12 (hn11 (by omega)); replace hBg := (hBg.ext hx11).chg hc12 (hn11 (by omega))
  have hE12 : Ext W w12 := Ext.then (hE10.trans hx11) hc12 (fun i hi => by rw [List.mem_singleton] at hi; omega)
  have hS : LoS W b9 b1 b11 g fa0 := ⟨by omega, by omega, by omega, fun h => by have := ha0.bnd g h; omega, by omega⟩
  have hI : LoI W b9 b1 b11 g a0.length cap va0 fa0 a0 w12 (List.replicate a0.length []) := ⟨hE12, hB10, hB3, ha0.ext hE12, hB12, by simp, _, hBg, hcl, fun i c hi hc => ⟨[], .inl ⟨hz i c hi hc, by simp [hi], rfl⟩, fun k hk => by cases hk⟩⟩
  refine wpList_nil ?_; replace ha := ha.sub (σ' := [(1, (.pointer (some ⟨b1, 0, none⟩))), (3, (.pointer (some ⟨b9, 0, none⟩))), (4, (.pointer (some ⟨b11, 0, none⟩)))]) ⟨rfl, rfl, rfl, trivial⟩; refine e_then ?_; refine wp_seq ?_; refine wp_seq ?_; refine wp_region_lit ?_; refine op_g ha rfl (g_load Tryd.isAgg29 rfl (hB3.cell rfl)) ?_; clear ha a; intro a ha; refine op_g ha rfl (g_lenR sl29.und ha0 rfl) ?_; clear ha a; intro a ha; refine op_g ha rfl (g_move rfl) ?_; clear ha a; intro a ha; refine wpList_nil ?_; replace ha := ha.sub (σ' := [(3, (.pointer (some ⟨b9, 0, none⟩))), (4, (.pointer (some ⟨b11, 0, none⟩))), (11, (.int .i64 (a0.length : Int))), (12, (.int .i64 0))]) ⟨rfl, rfl, rfl, rfl, trivial⟩
  refine e_then ?_; obtain ⟨o1, ho1, hK1⟩ := bnd_some hF
  obtain ⟨n1, hn1⟩ := lp_some ho1; clear ho1
  refine c_loop (fun a w => ∃ (t : List (List Int)), Fr 20 [(3, (.pointer (some ⟨b9, 0, none⟩)))] a ∧ LoI W b9 b1 b11 g a0.length cap va0 fa0 a0 w t ∧ o1 = .inl t)
    (fun m a w => ∃ (t : List (List Int)) (i : Int), Fr 20 [(3, (.pointer (some ⟨b9, 0, none⟩))), (4, (.pointer (some ⟨b11, 0, none⟩))), (11, (.int .i64 (a0.length : Int))), (12, (.int .i64 i))] a ∧ LoI W b9 b1 b11 g a0.length cap va0 fa0 a0 w t ∧ InI i ∧ lpN (fun s => F_impl_longestLists_l1 a0 s.1 s.2) m (t, i) = some o1) n1
    ⟨_, 0, ha.sub ⟨rfl, rfl, rfl, rfl, trivial⟩, hI, (show InI 0 from by decide), hn1⟩ ?_ ?_
  · rintro m a w ⟨t, i, ha, ht, hIi, hF⟩
    cases m with
    | zero => exact (lpN_zero hF).elim
    | succ m =>
      obtain ⟨z, hF, hN⟩ := lpN_succ hF
      have hF : F_impl_longestLists_l1 a0 t i = some z := hF; unfold F_impl_longestLists_l1 at hF
      refine wp_seq ?_; refine wp_region_lit ?_; refine op_g ha rfl (g_lss rfl rfl) ?_; clear ha a; intro a ha; refine wpList_nil ?_; replace ha := ha.sub (σ' := [(3, (.pointer (some ⟨b9, 0, none⟩))), (4, (.pointer (some ⟨b11, 0, none⟩))), (11, (.int .i64 (a0.length : Int))), (12, (.int .i64 i)), (13, (.bool (decide (i < (a0.length : Int)))))]) ⟨rfl, rfl, rfl, rfl, rfl, trivial⟩; refine e_then ?_; refine wp_seq ?_; refine c_cond (i < (a0.length : Int)) ha rfl (decide_eq_true_iff) (fun hp => ?_) (fun hp => ?_)
      · replace hF := if_t hp hF
        refine wp_skip ?_; refine e_then ?_; refine wp_seq ?_; refine wp_block ?_; refine wp_seq ?_; refine wp_region_lit ?_; refine op_g ha rfl (g_move rfl) ?_; clear ha a; intro a ha; refine op_g ha rfl (g_assign rfl) ?_; clear ha a; intro a ha; refine wpList_nil ?_; replace ha := ha.sub (σ' := [(3, (.pointer (some ⟨b9, 0, none⟩))), (4, (.pointer (some ⟨b11, 0, none⟩))), (5, (.int .i64 i)), (11, (.int .i64 (a0.length : Int))), (12, (.int .i64 i))]) ⟨rfl, rfl, rfl, rfl, rfl, trivial⟩; refine e_then ?_; refine wp_region_lit ?_; refine op_g ha rfl (g_load Tryd.isAgg47 rfl (ht.bxS.cell rfl)) ?_; clear ha a; intro a ha
        refine op_g ha rfl (g_move rfl) ?_; clear ha a; intro a ha; obtain ⟨r1, hc1, hF⟩ := cal_some hF
        have hcall := W_impl_from hS hG hIi ht hc1
        refine o_callv (vals := [.int .i64 i]) (cap := [.pointer (some ⟨b9, 0, none⟩), .pointer (some ⟨b1, 0, none⟩), .pointer (some ⟨b11, 0, none⟩)]) ha rfl rfl rfl Tryd.call28 hcall ?_; clear ha a; rintro v28 w28 ⟨-, ht28, -⟩ a ha
        refine wpList_nil ?_; replace ha := ha.sub (σ' := [(3, (.pointer (some ⟨b9, 0, none⟩))), (4, (.pointer (some ⟨b11, 0, none⟩))), (11, (.int .i64 (a0.length : Int))), (12, (.int .i64 i))]) ⟨rfl, rfl, rfl, rfl, trivial⟩; refine e_blk ?_; refine e_then ?_; refine wp_region_lit ?_; obtain ⟨hI1, hF⟩ := ck_some hF; refine op_g ha rfl (g_add rfl rfl hI1) ?_; clear ha a; intro a ha; refine op_g ha rfl (g_move rfl) ?_; clear ha a; intro a ha; refine wpList_nil ?_; refine e_lq ?_; obtain rfl := Option.some.inj hF
        exact ⟨_, Nat.lt_succ_self _, r1.2, i + 1, ha.sub ⟨rfl, rfl, rfl, rfl, trivial⟩, ht28, hI1, hN⟩
      replace hF := if_f hp hF; refine wp_exit ?_; refine e_then_exit ?_; refine e_lq_eq ?_; obtain rfl := Option.some.inj hF
      exact ⟨t, ha.sub ⟨rfl, trivial⟩, ht, (LK_inr hN).symm⟩
  rintro a w ⟨t, ha, ht, rfl⟩
  have hF : F_impl_longestLists_k2 t = some _ := hK1; clear hK1; unfold F_impl_longestLists_k2 at hF
  refine e_then ?_; refine wp_seq ?_; refine wp_region_lit ?_; refine op_g ha rfl (g_load Tryd.isAgg39 rfl (ht.bxK.cell rfl)) ?_; clear ha a; intro a ha; refine op_g ha rfl (g_assign rfl) ?_; clear ha a; intro a ha; refine wpList_nil ?_; replace ha := ha.sub (σ' := [(2, (.slice (some ⟨g, 0, none⟩) a0.length cap))]) ⟨rfl, trivial⟩; refine e_then ?_; refine wp_ret ?_; obtain rfl := Option.some.inj hF
  obtain ⟨cells, hBt, hct, hrow⟩ := ht.tbl
  have hlen := ht.len
  obtain ⟨cs2, fs2, hcs2, hrep, hfs2⟩ := lo_ro t 0 cells hBt (by omega) (fun i c hi hc => hrow i c (by omega) (by rw [Nat.zero_add] at hc; exact hc))
  refine f_ret1 ha rfl rfl ⟨g :: fs2, ⟨_, cap, by rw [hlen], by rw [hlen]; exact ⟨h81, h82⟩, .inr ⟨g, 0, cs2, fs2, rfl, rfl, hBt.blt, ?_, hrep⟩⟩, fun k hk => ?_, ht.ext⟩
  · rw [hcs2, List.drop_zero]; exact hBt.all.take _
  rcases List.mem_cons.1 hk with h | h
  · right; omega
  exact .inr (hfs2 k h)

set_option maxHeartbeats 2000000 in
theorem W_impl_bestList {W : World} {va0 : Value} {fa0 : List Nat} {a0 : (List (List Int))} (ha0 : Ro (Rp.sl 3 Rp.int) W fa0 va0 a0) {r : (List Int)} (hF : F_impl_bestList a0 = some r) :
    Calls Tryd.prog 21 [va0].toArray W (Ret fun u w' => ∃ (fp_u : List Nat), Ro Rp.int w' fp_u u r ∧ Pv (fa0) W.heap.size fp_u ∧ Ext W w') := by
  refine f_enter Tryd.func21 rfl Tryd.ntmps21 rfl ?_
  intro a ha
  replace ha : Fr 19 [(0, va0)] a := ha
  have hE : Chg [] W W := Chg.refl _ _
  unfold F_impl_bestList at hF
  refine wp_seq ?_; refine wp_region_lit ?_; refine op_g ha rfl (g_assign rfl) ?_; clear ha a; intro a ha; refine wpList_nil ?_; replace ha := ha.sub (σ' := [(0, va0)]) ⟨rfl, trivial⟩; refine e_then ?_; refine wp_seq ?_; refine wp_region_lit ?_
  refine o_lit0 Rp.int ha rfl sl37 ?_; clear ha a; intro v1 w2 h3 hx4 a ha
  obtain ⟨b6, hb6⟩ : ∃ b : Int, b = W.heap.size := ⟨_, rfl⟩; rw [← hb6] at h3
  have q7 := zn_of hb6
  have q8 := Zn.upD q7 hE
  have hE9 := Ext.trans hE hx4
  refine op_g ha rfl (g_assign rfl) ?_; clear ha a; intro a ha; refine wpList_nil ?_; replace ha := ha.sub (σ' := [(0, va0), (3, v1)]) ⟨rfl, rfl, trivial⟩; refine e_then ?_; refine wp_seq ?_; refine wp_seq ?_; refine wp_region_lit ?_; refine op_g ha rfl (g_move rfl) ?_; clear ha a; intro a ha; refine op_g ha rfl (g_lenR sl39.und ha0 rfl) ?_; clear ha a; intro a ha; refine op_g ha rfl (g_move rfl) ?_; clear ha a; intro a ha; refine wpList_nil ?_; replace ha := ha.sub (σ' := [(3, v1), (7, va0), (8, (.int .i64 (a0.length : Int))), (9, (.int .i64 0))]) ⟨rfl, rfl, rfl, rfl, trivial⟩; refine e_then ?_
  obtain ⟨o107, ho108, hK109⟩ := bnd_some hF
  obtain ⟨n110, hn111⟩ := lp_some ho108; clear ho108
  obtain ⟨fp112, h113, hs114⟩ := h3.roF
  refine c_loop (fun a w => ∃ (l103 : (List Int)) (v104 : Value) (f105 : List Nat), Fr 19 [(3, v104)] a ∧ Chg [] W w ∧ Ro Rp.int w f105 v104 l103 ∧ Pv (fa0) W.heap.size f105 ∧ o107 = .inl l103) (fun n a w => ∃ (l57 : (List Int)) (i61 : Int) (v58 : Value) (f59 : List Nat), Fr 19 [(3, v58), (7, va0), (8, (.int .i64 (a0.length : Int))), (9, (.int .i64 i61))] a ∧ Chg [] W w ∧ InI i61 ∧ Ro Rp.int w f59 v58 l57 ∧ Pv (fa0) W.heap.size f59 ∧ lpN (fun s => F_impl_bestList_l1 a0 s.1 s.2) n (l57, i61) = some o107) n110 ⟨([] : (List Int)), 0, v1, fp112, ha.sub ⟨rfl, rfl, rfl, rfl, trivial⟩, hE9, (show InI 0 from by decide), h113, (Pv.mono (Pv.own q8 (zf_nil _)) hs114), hn111⟩ ?_ ?_
  · rintro m119 a w54 ⟨l57, i61, v58, f59, ha, hE63, hI62, h56, pv60, hF⟩
    cases m119 with
    | zero => exact (lpN_zero hF).elim
    | succ m119 =>
      obtain ⟨z118, hF, hN117⟩ := lpN_succ hF
      have hF : F_impl_bestList_l1 a0 l57 i61 = some z118 := hF; unfold F_impl_bestList_l1 at hF
      refine wp_seq ?_; refine wp_region_lit ?_; refine op_g ha rfl (g_lss rfl rfl) ?_; clear ha a; intro a ha; refine wpList_nil ?_; replace ha := ha.sub (σ' := [(3, v58), (7, va0), (8, (.int .i64 (a0.length : Int))), (9, (.int .i64 i61)), (10, (.bool (decide (i61 < (a0.length : Int)))))]) ⟨rfl, rfl, rfl, rfl, rfl, trivial⟩; refine e_then ?_; refine wp_seq ?_; refine c_cond (i61 < (a0.length : Int)) ha rfl (decide_eq_true_iff) (fun hp120 => ?_) (fun hp120 => ?_)
      · replace hF := if_t hp120 hF
        refine wp_skip ?_; refine e_then ?_; refine wp_seq ?_; refine wp_block ?_; refine wp_seq ?_; refine wp_region_lit ?_; obtain ⟨x121, g122, gx123, hF⟩ := idx_some hF
        obtain ⟨p124, cs125, f126, hf127, hpb128, hat129, hr130, hi131⟩ := ha0.at g122 gx123
        obtain ⟨v132, rfl, h133⟩ := hr130
        have h133 : Ro Rp.int W f126 v132 x121 := h133
        have q135 := (Pv.mono (Pv.par (fun _ h => h)) hf127 : Pv (fa0) W.heap.size f126)
        refine op_g ha rfl (hi131.gives sl39 rfl rfl) ?_; clear ha a; intro a ha; refine op_g ha rfl (g_load0 hE63 Tryd.isAgg37 rfl hat129.one) ?_; clear ha a; intro a ha; refine op_g ha rfl (g_assign rfl) ?_; clear ha a; intro a ha; refine wpList_nil ?_; replace ha := ha.sub (σ' := [(3, v58), (5, v132), (7, va0), (8, (.int .i64 (a0.length : Int))), (9, (.int .i64 i61))]) ⟨rfl, rfl, rfl, rfl, rfl, trivial⟩; refine e_then ?_; refine wp_seq ?_; refine wp_region_lit ?_; (iterate 2 refine op_g ha rfl (g_move rfl) ?_; clear ha a; intro a ha); obtain ⟨x136, hc137, hF⟩ := cal_some hF
        refine o_call ha rfl rfl Tryd.call27 (W_impl_isBetter (h133.ext hE63) h56 hc137) ?_; clear ha a; rintro v138 w139 ⟨rfl, hx140⟩ a ha
        replace h56 := h56.ext hx140
        have hE141 := Ext.trans hE63 hx140
        refine wpList_nil ?_; replace ha := ha.sub (σ' := [(3, v58), (5, v132), (7, va0), (8, (.int .i64 (a0.length : Int))), (9, (.int .i64 i61)), (15, (.bool x136))]) ⟨rfl, rfl, rfl, rfl, rfl, rfl, trivial⟩; refine e_then ?_; refine c_cond (x136 = true) ha rfl (Iff.rfl) (fun hp142 => ?_) (fun hp142 => ?_)
        · replace hF := if_t hp142 hF
          refine wp_region_lit ?_; refine op_g ha rfl (g_move rfl) ?_; clear ha a; intro a ha; refine op_g ha rfl (g_assign rfl) ?_; clear ha a; intro a ha; refine wpList_nil ?_; replace ha := ha.sub (σ' := [(3, v132), (7, va0), (8, (.int .i64 (a0.length : Int))), (9, (.int .i64 i61))]) ⟨rfl, rfl, rfl, rfl, trivial⟩; refine e_blk ?_; refine e_then ?_; refine wp_region_lit ?_; obtain ⟨hI143, hF⟩ := ck_some hF; refine op_g ha rfl (g_add rfl rfl hI143) ?_; clear ha a; intro a ha; refine op_g ha rfl (g_move rfl) ?_; clear ha a; intro a ha; refine wpList_nil ?_; replace ha := ha.sub (σ' := [(3, v132), (7, va0), (8, (.int .i64 (a0.length : Int))), (9, (.int .i64 (i61 + 1)))]) ⟨rfl, rfl, rfl, rfl, trivial⟩
          refine e_lq ?_
          have h145 := h133.ext hE141
          obtain rfl := Option.some.inj hF
          exact ⟨_, Nat.lt_succ_self _, x121, i61 + 1, v132, f126, ha.sub ⟨rfl, rfl, rfl, rfl, trivial⟩, hE141, hI143, h145, (q135), hN117⟩
        replace hF := if_f hp142 hF; refine wp_skip ?_; refine e_blk ?_; refine e_then ?_; refine wp_region_lit ?_; obtain ⟨hI147, hF⟩ := ck_some hF; refine op_g ha rfl (g_add rfl rfl hI147) ?_; clear ha a; intro a ha; refine op_g ha rfl (g_move rfl) ?_; clear ha a; intro a ha; refine wpList_nil ?_; replace ha := ha.sub (σ' := [(3, v58), (7, va0), (8, (.int .i64 (a0.length : Int))), (9, (.int .i64 (i61 + 1)))]) ⟨rfl, rfl, rfl, rfl, trivial⟩; refine e_lq ?_; obtain rfl := Option.some.inj hF
        exact ⟨_, Nat.lt_succ_self _, l57, i61 + 1, v58, f59, ha.sub ⟨rfl, rfl, rfl, rfl, trivial⟩, hE141, hI147, h56, (pv60), hN117⟩
      replace hF := if_f hp120 hF; refine wp_exit ?_; refine e_then_exit ?_; refine e_lq_eq ?_; obtain rfl := Option.some.inj hF
      exact ⟨l57, v58, f59, ha.sub ⟨rfl, trivial⟩, hE63, h56, (pv60), (LK_inr hN117).symm⟩
  rintro a w100 ⟨l103, v104, f105, ha, hE116, h102, pv106, rfl⟩
  have hF : F_impl_bestList_k2 l103 = some _ := hK109; clear hK109; unfold F_impl_bestList_k2 at hF
  refine e_then ?_; refine wp_seq ?_; refine wp_region_lit ?_; refine op_g ha rfl (g_move rfl) ?_; clear ha a; intro a ha; refine op_g ha rfl (g_assign rfl) ?_; clear ha a; intro a ha; refine wpList_nil ?_; replace ha := ha.sub (σ' := [(2, v104)]) ⟨rfl, trivial⟩; refine e_then ?_; refine wp_ret ?_; obtain rfl := Option.some.inj hF
  exact f_ret1 ha rfl rfl ⟨_, h102, (pv106), hE116⟩
set_option maxHeartbeats 2000000 in
theorem W_impl_wide {W : World} {va0 : Value} {fa0 : List Nat} {a0 : (List Int)} (ha0 : Ro Rp.int W fa0 va0 a0) {r : (List Int)} (hF : F_impl_wide a0 = some r) :
    Calls Tryd.prog 20 [va0].toArray W (Ret fun u w' => ∃ (b_u : Int), Ow Rp.int 2 true w' [] b_u u r ∧ Zn W b_u ∧ Ext W w') := by
  refine f_enter Tryd.func20 rfl Tryd.ntmps20 rfl ?_
  intro a ha
  replace ha : Fr 21 [(0, va0)] a := ha
  have hE : Chg [] W W := Chg.refl _ _
  unfold F_impl_wide at hF
  refine wp_seq ?_; refine wp_region_lit ?_; refine op_g ha rfl (g_assign rfl) ?_; clear ha a; intro a ha; refine wpList_nil ?_; replace ha := ha.sub (σ' := [(0, va0)]) ⟨rfl, trivial⟩; refine e_then ?_; refine wp_seq ?_; refine wp_region_lit ?_; refine op_g ha rfl (g_move rfl) ?_; clear ha a; intro a ha; refine op_g ha rfl (g_lenR sl37.und ha0 rfl) ?_; clear ha a; intro a ha; obtain ⟨g5, hF⟩ := grd_some hF
  refine o_make0 Rp.int ha rfl sl22 rfl rfl rfl g5.1 g5.2 ?_; clear ha a; intro v1 w2 h3 hx4 a ha
  obtain ⟨b7, hb7⟩ : ∃ b : Int, b = W.heap.size := ⟨_, rfl⟩; rw [← hb7] at h3
  have q8 := zn_of hb7
  have q9 := Zn.upD q8 hE
  have hE10 := Ext.trans hE hx4
  refine op_g ha rfl (g_assign rfl) ?_; clear ha a; intro a ha; refine wpList_nil ?_; replace ha := ha.sub (σ' := [(0, va0), (3, v1)]) ⟨rfl, rfl, trivial⟩; refine e_then ?_; refine wp_seq ?_; refine wp_seq ?_; refine wp_region_lit ?_; refine op_g ha rfl (g_move rfl) ?_; clear ha a; intro a ha; refine op_g ha rfl (g_lenR sl37.und ha0 rfl) ?_; clear ha a; intro a ha; refine op_g ha rfl (g_move rfl) ?_; clear ha a; intro a ha; refine wpList_nil ?_; replace ha := ha.sub (σ' := [(3, v1), (9, va0), (10, (.int .i64 (a0.length : Int))), (11, (.int .i64 0))]) ⟨rfl, rfl, rfl, rfl, trivial⟩; refine e_then ?_
  obtain ⟨o127, ho128, hK129⟩ := bnd_some hF
  obtain ⟨n130, hn131⟩ := lp_some ho128; clear ho128
  refine c_loop (fun a w => ∃ (l124 : (List Int)) (v125 : Value) (b126 : Int), Fr 21 [(3, v125)] a ∧ Chg [] W w ∧ Ow Rp.int 2 true w [] b126 v125 l124 ∧ Zn W b126 ∧ o127 = .inl l124) (fun n a w => ∃ (l67 : (List Int)) (i70 : Int) (v68 : Value) (b69 : Int), Fr 21 [(3, v68), (9, va0), (10, (.int .i64 (a0.length : Int))), (11, (.int .i64 i70))] a ∧ Chg [] W w ∧ InI i70 ∧ Ow Rp.int 2 true w [] b69 v68 l67 ∧ Zn W b69 ∧ lpN (fun s => F_impl_wide_l1 a0 s.1 s.2) n (l67, i70) = some o127) n130 ⟨([] : (List Int)), 0, v1, b7, ha.sub ⟨rfl, rfl, rfl, rfl, trivial⟩, hE10, (show InI 0 from by decide), h3, q9, hn131⟩ ?_ ?_
  · rintro m135 a w63 ⟨l67, i70, v68, b69, ha, hE72, hI71, h65, z66, hF⟩
    cases m135 with
    | zero => exact (lpN_zero hF).elim
    | succ m135 =>
      obtain ⟨z134, hF, hN133⟩ := lpN_succ hF
      have hF : F_impl_wide_l1 a0 l67 i70 = some z134 := hF; unfold F_impl_wide_l1 at hF
      refine wp_seq ?_; refine wp_region_lit ?_; refine op_g ha rfl (g_lss rfl rfl) ?_; clear ha a; intro a ha; refine wpList_nil ?_; replace ha := ha.sub (σ' := [(3, v68), (9, va0), (10, (.int .i64 (a0.length : Int))), (11, (.int .i64 i70)), (12, (.bool (decide (i70 < (a0.length : Int)))))]) ⟨rfl, rfl, rfl, rfl, rfl, trivial⟩; refine e_then ?_; refine wp_seq ?_; refine c_cond (i70 < (a0.length : Int)) ha rfl (decide_eq_true_iff) (fun hp136 => ?_) (fun hp136 => ?_)
      · replace hF := if_t hp136 hF
        refine wp_skip ?_; refine e_then ?_; refine wp_seq ?_; refine wp_block ?_; refine wp_seq ?_; refine wp_region_lit ?_; obtain ⟨x137, g138, gx139, hF⟩ := idx_some hF
        obtain ⟨p140, cs141, f142, hf143, hpb144, hat145, hr146, hi147⟩ := ha0.at g138 gx139
        obtain ⟨rfl, hI148, rfl⟩ := hr146
        refine op_g ha rfl (hi147.gives sl37 rfl rfl) ?_; clear ha a; intro a ha; refine op_g ha rfl (g_load0 hE72 Tryd.isAgg3 rfl hat145.one) ?_; clear ha a; intro a ha; refine op_g ha rfl (g_assign rfl) ?_; clear ha a; intro a ha; refine wpList_nil ?_; replace ha := ha.sub (σ' := [(3, v68), (5, (.int .i64 x137)), (9, va0), (10, (.int .i64 (a0.length : Int))), (11, (.int .i64 i70))]) ⟨rfl, rfl, rfl, rfl, rfl, trivial⟩; refine e_then ?_; refine wp_region_lit ?_; (iterate 2 refine op_g ha rfl (g_move rfl) ?_; clear ha a; intro a ha)
        refine o_lit1 (o := true) (y := x137) Rp.int ha rfl sl22 rfl rfl rfl ⟨rfl, hI148, rfl⟩ ?_; clear ha a; intro v149 w150 h151 hx152 a ha
        obtain ⟨b154, hb154⟩ : ∃ b : Int, b = w63.heap.size := ⟨_, rfl⟩; rw [← hb154] at h151
        have q155 := zn_of hb154
        have q156 := Nq.new h65.fpb q155
        have q157 := Nq.madeO q155 h65.blt
        have q158 := Zn.upD q155 hE72
        replace h65 := h65.ext hx152
        have hE159 := Ext.trans hE72 hx152
        obtain ⟨hl160, hF⟩ := app_some hF
        refine o_append ha rfl sl22 rfl rfl rfl h65 h151.src (Nq.nil _) hl160 ?_; clear ha a; intro v161 w162 b163 h164 hc165 hb166 a ha
        replace h164 : Ow Rp.int 2 true w162 [] b163 v161 _ := h164
        have q168 := Nq.appY q157 h151.fpb hb166
        have q169 := Nq.appX q156 (Nq.nil _) hb166 h151.blt
        have q170 := Zn.appD z66 hb166 hE159
        replace h151 := h151.nq hc165 q157
        have hE171 := Ext.then hE159 hc165 (Zn.bl z66)
        refine op_g ha rfl (g_assign rfl) ?_; clear ha a; intro a ha; refine wpList_nil ?_; replace ha := ha.sub (σ' := [(3, v161), (9, va0), (10, (.int .i64 (a0.length : Int))), (11, (.int .i64 i70))]) ⟨rfl, rfl, rfl, rfl, trivial⟩; refine e_blk ?_; refine e_then ?_; refine wp_region_lit ?_; obtain ⟨hI172, hF⟩ := ck_some hF; refine op_g ha rfl (g_add rfl rfl hI172) ?_; clear ha a; intro a ha; refine op_g ha rfl (g_move rfl) ?_; clear ha a; intro a ha; refine wpList_nil ?_; replace ha := ha.sub (σ' := [(3, v161), (9, va0), (10, (.int .i64 (a0.length : Int))), (11, (.int .i64 (i70 + 1)))]) ⟨rfl, rfl, rfl, rfl, trivial⟩
        refine e_lq ?_; obtain rfl := Option.some.inj hF
        exact ⟨_, Nat.lt_succ_self _, (l67 ++ ([x137])), i70 + 1, v161, b163, ha.sub ⟨rfl, rfl, rfl, rfl, trivial⟩, hE171, hI172, h164, q170, hN133⟩
      replace hF := if_f hp136 hF; refine wp_exit ?_; refine e_then_exit ?_; refine e_lq_eq ?_; obtain rfl := Option.some.inj hF
      exact ⟨l67, v68, b69, ha.sub ⟨rfl, trivial⟩, hE72, h65, z66, (LK_inr hN133).symm⟩
  rintro a w120 ⟨l124, v125, b126, ha, hE132, h122, z123, rfl⟩
  have hF : F_impl_wide_k2 l124 = some _ := hK129; clear hK129; unfold F_impl_wide_k2 at hF
  refine e_then ?_; refine wp_seq ?_; refine wp_region_lit ?_; refine op_g ha rfl (g_move rfl) ?_; clear ha a; intro a ha; refine op_g ha rfl (g_assign rfl) ?_; clear ha a; intro a ha; refine wpList_nil ?_; replace ha := ha.sub (σ' := [(2, v125)]) ⟨rfl, trivial⟩; refine e_then ?_; refine wp_ret ?_; obtain rfl := Option.some.inj hF
  exact f_ret1 ha rfl rfl ⟨_, h122, z123, hE132⟩
end Go.Proofs.YtbcjeljppgojgaaDoor
