/- Walks, printed by gen.py. -/
import Derived.Test.YthbmcbflnibpbabDoorF
import Derived.Test.YthbmcbflnibpbabDoorDeep
import Derived.Test.YthbmcbflnibpbabDoorDrawE
import Derived.Test.YthbmcbflnibpbabDoorProg
import Derived.KernelRfl
set_option maxRecDepth 100000
namespace Go.Proofs.YthbmcbflnibpbabDoor
open Go Go.RowKit

theorem hmix : Tryd.prog.follows .mixedOrders = true := by kernel_rfl
theorem st24_0 : stF Tryd.prog 24 0 = some 0 := by kernel_rfl
theorem sl22 : SlT Tryd.prog 22 26 1 24 (.slice none 0 0) := ⟨by kernel_rfl, by kernel_rfl, by rfl⟩
theorem sl26 : SlT Tryd.prog 26 2 1 8 (.int .i64 0) := ⟨by kernel_rfl, by kernel_rfl, by rfl⟩
theorem st29_0 : stF Tryd.prog 29 0 = some 0 := by kernel_rfl
theorem un4 : Tryd.prog.underlying 4 = some .bool := by kernel_rfl
theorem sl47 : SlT Tryd.prog 47 51 1 4 (.int .u32 0) := ⟨by kernel_rfl, by kernel_rfl, by rfl⟩
theorem un82 : Tryd.prog.underlying 82 = some (.array 32 5) := by kernel_rfl
theorem un5 : Tryd.prog.underlying 5 = some (.int .u8) := by kernel_rfl
theorem un3 : Tryd.prog.underlying 3 = some (.int .i64) := by kernel_rfl
theorem sl53 : SlT Tryd.prog 53 3 1 8 (.int .i64 0) := ⟨by kernel_rfl, by kernel_rfl, by rfl⟩
set_option maxHeartbeats 2000000 in
theorem W_laws_szInt64S {W : World} {va0 : Value} {fa0 : List Nat} {a0 : (List Int)} (ha0 : Ro Rp.int W fa0 va0 a0) {a1 : Int} (ha1 : InI a1) {r : Int} (hF : F_laws_szInt64S a0 a1 = some r) :
    Calls Tryd.prog 32 [va0, .int .i64 a1].toArray W (Ret fun u w' => (u = .int .i64 r ∧ InI r) ∧ Ext W w') := by
  refine f_enter Tryd.func32 rfl Tryd.ntmps32 rfl ?_
  intro a ha
  replace ha : Fr 12 [(0, va0), (1, (.int .i64 a1))] a := ha
  have hE : Chg [] W W := Chg.refl _ _
  unfold F_laws_szInt64S at hF
  refine wp_seq ?_; refine wp_region_lit ?_; refine op_g ha rfl (g_assign rfl) ?_; clear ha a; intro a ha; refine wpList_nil ?_; replace ha := ha.sub (σ' := [(0, va0), (1, (.int .i64 a1))]) ⟨rfl, rfl, trivial⟩; refine e_then ?_; refine wp_seq ?_; refine wp_region_lit ?_; (iterate 2 refine op_g ha rfl (g_move rfl) ?_; clear ha a; intro a ha); refine op_g ha rfl (g_lenR sl26.und ha0 rfl) ?_; clear ha a; intro a ha; obtain ⟨hI1, hF⟩ := ck_some hF; refine op_g ha rfl (g_sub rfl rfl hI1) ?_; clear ha a; intro a ha; refine op_g ha rfl (g_assign rfl) ?_; clear ha a; intro a ha; refine wpList_nil ?_; replace ha := ha.sub (σ' := [(1, (.int .i64 (a1 - (a0.length : Int))))]) ⟨rfl, trivial⟩
  refine e_then ?_; refine wp_seq ?_; refine wp_seq ?_; refine wp_region_lit ?_; refine op_g ha rfl (g_move rfl) ?_; clear ha a; intro a ha; refine op_g ha rfl (g_lss rfl rfl) ?_; clear ha a; intro a ha; refine wpList_nil ?_; replace ha := ha.sub (σ' := [(1, (.int .i64 (a1 - (a0.length : Int)))), (10, (.bool (decide ((a1 - (a0.length : Int)) < 0))))]) ⟨rfl, rfl, trivial⟩; refine e_then ?_; refine c_cond ((a1 - (a0.length : Int)) < 0) ha rfl (decide_eq_true_iff) (fun hp3 => ?_) (fun hp3 => ?_)
  · replace hF := if_t hp3 hF
    refine wp_seq ?_; refine wp_region_lit ?_; refine op_g ha rfl (g_assign rfl) ?_; clear ha a; intro a ha; refine wpList_nil ?_; replace ha := ha.sub (σ' := [(4, (.int .i64 (-1)))]) ⟨rfl, trivial⟩; refine e_then ?_; refine wp_ret ?_; refine e_then_ret ?_; obtain rfl := Option.some.inj hF
    exact f_ret1 ha rfl rfl ⟨⟨rfl, (show InI (-1) from by decide)⟩, hE⟩
  replace hF := if_f hp3 hF; refine wp_skip ?_; refine e_then ?_; refine wp_seq ?_; refine wp_region_lit ?_; refine op_g ha rfl (g_move rfl) ?_; clear ha a; intro a ha; refine op_g ha rfl (g_assign rfl) ?_; clear ha a; intro a ha; refine wpList_nil ?_; replace ha := ha.sub (σ' := [(4, (.int .i64 (a1 - (a0.length : Int))))]) ⟨rfl, trivial⟩; refine e_then ?_; refine wp_ret ?_; obtain rfl := Option.some.inj hF
  exact f_ret1 ha rfl rfl ⟨⟨rfl, hI1⟩, hE⟩
set_option maxHeartbeats 2000000 in
theorem W_laws_szInt64SS {W : World} {va0 : Value} {fa0 : List Nat} {a0 : (List (List Int))} (ha0 : Ro (Rp.sl 2 Rp.int) W fa0 va0 a0) {a1 : Int} (ha1 : InI a1) {r : Int} (hF : F_laws_szInt64SS a0 a1 = some r) :
    Calls Tryd.prog 14 [va0, .int .i64 a1].toArray W (Ret fun u w' => (u = .int .i64 r ∧ InI r) ∧ Ext W w') := by
  refine f_enter Tryd.func14 rfl Tryd.ntmps14 rfl ?_
  intro a ha
  replace ha : Fr 27 [(0, va0), (1, (.int .i64 a1))] a := ha
  have hE : Chg [] W W := Chg.refl _ _
  unfold F_laws_szInt64SS at hF
  refine wp_seq ?_; refine wp_region_lit ?_; refine op_g ha rfl (g_assign rfl) ?_; clear ha a; intro a ha; refine wpList_nil ?_; replace ha := ha.sub (σ' := [(0, va0), (1, (.int .i64 a1))]) ⟨rfl, rfl, trivial⟩; refine e_then ?_; refine wp_seq ?_; refine wp_region_lit ?_; (iterate 2 refine op_g ha rfl (g_move rfl) ?_; clear ha a; intro a ha); refine op_g ha rfl (g_lenR sl22.und ha0 rfl) ?_; clear ha a; intro a ha; obtain ⟨hI1, hF⟩ := ck_some hF; refine op_g ha rfl (g_sub rfl rfl hI1) ?_; clear ha a; intro a ha; refine op_g ha rfl (g_assign rfl) ?_; clear ha a; intro a ha; refine wpList_nil ?_; replace ha := ha.sub (σ' := [(0, va0), (1, (.int .i64 (a1 - (a0.length : Int))))]) ⟨rfl, rfl, trivial⟩
  refine e_then ?_; refine wp_seq ?_; refine wp_seq ?_; refine wp_region_lit ?_; refine op_g ha rfl (g_move rfl) ?_; clear ha a; intro a ha; refine op_g ha rfl (g_lss rfl rfl) ?_; clear ha a; intro a ha; refine wpList_nil ?_; replace ha := ha.sub (σ' := [(0, va0), (1, (.int .i64 (a1 - (a0.length : Int)))), (11, (.bool (decide ((a1 - (a0.length : Int)) < 0))))]) ⟨rfl, rfl, rfl, trivial⟩; refine e_then ?_; refine c_cond ((a1 - (a0.length : Int)) < 0) ha rfl (decide_eq_true_iff) (fun hp3 => ?_) (fun hp3 => ?_)
  · replace hF := if_t hp3 hF
    refine wp_seq ?_; refine wp_region_lit ?_; refine op_g ha rfl (g_assign rfl) ?_; clear ha a; intro a ha; refine wpList_nil ?_; replace ha := ha.sub (σ' := [(4, (.int .i64 (-1)))]) ⟨rfl, trivial⟩; refine e_then ?_; refine wp_ret ?_; refine e_then_ret ?_; obtain rfl := Option.some.inj hF
    exact f_ret1 ha rfl rfl ⟨⟨rfl, (show InI (-1) from by decide)⟩, hE⟩
  replace hF := if_f hp3 hF; refine wp_skip ?_; refine e_then ?_; refine wp_seq ?_; refine wp_seq ?_; refine wp_region_lit ?_; refine op_g ha rfl (g_assign rfl) ?_; clear ha a; intro a ha; refine wpList_nil ?_; replace ha := ha.sub (σ' := [(0, va0), (1, (.int .i64 (a1 - (a0.length : Int)))), (5, (.int .i64 0))]) ⟨rfl, rfl, rfl, trivial⟩; refine e_then ?_; obtain ⟨o75, ho76, hK77⟩ := bnd_some hF
  obtain ⟨n78, hn79⟩ := lp_some ho76; clear ho76
  refine c_loop (fun a w => ∃ (i73 : Int), Fr 27 [(1, (.int .i64 i73))] a ∧ Chg [] W w ∧ InI i73 ∧ o75 = .inl i73) (fun n a w => ∃ (i37 : Int) (i39 : Int), Fr 27 [(0, va0), (1, (.int .i64 i37)), (5, (.int .i64 i39))] a ∧ Chg [] W w ∧ InI i37 ∧ InI i39 ∧ lpN (fun s => F_laws_szInt64SS_l1 a0 s.1 s.2) n (i37, i39) = some o75) n78 ⟨a1 - (a0.length : Int), 0, ha.sub ⟨rfl, rfl, rfl, trivial⟩, hE, hI1, (show InI 0 from by decide), hn79⟩ ?_ ?_
  · rintro m83 a w36 ⟨i37, i39, ha, hE41, hI38, hI40, hF⟩
    cases m83 with
    | zero => exact (lpN_zero hF).elim
    | succ m83 =>
      obtain ⟨z82, hF, hN81⟩ := lpN_succ hF
      have hF : F_laws_szInt64SS_l1 a0 i37 i39 = some z82 := hF; unfold F_laws_szInt64SS_l1 at hF
      refine wp_seq ?_; refine wp_seq ?_; refine wp_region_lit ?_; (iterate 2 refine op_g ha rfl (g_move rfl) ?_; clear ha a; intro a ha); refine op_g ha rfl (g_lenR sl22.und ha0 rfl) ?_; clear ha a; intro a ha; refine op_g ha rfl (g_lss rfl rfl) ?_; clear ha a; intro a ha; refine wpList_nil ?_; replace ha := ha.sub (σ' := [(0, va0), (1, (.int .i64 i37)), (5, (.int .i64 i39)), (15, (.bool (decide (i39 < (a0.length : Int)))))]) ⟨rfl, rfl, rfl, rfl, trivial⟩; refine e_then ?_; refine c_cond (i39 < (a0.length : Int)) ha rfl (decide_eq_true_iff) (fun hp84 => ?_) (fun hp84 => ?_)
      · replace hF := if_t hp84 hF
        refine wp_skip ?_; refine e_then ?_; refine wp_seq ?_; refine wp_block ?_; refine wp_seq ?_; refine wp_region_lit ?_; (iterate 2 refine op_g ha rfl (g_move rfl) ?_; clear ha a; intro a ha); obtain ⟨x85, g86, gx87, hF⟩ := idx_some hF
        obtain ⟨p88, cs89, f90, hf91, hpb92, hat93, hr94, hi95⟩ := ha0.at g86 gx87
        obtain ⟨v96, rfl, h97⟩ := hr94
        have h97 : Ro Rp.int W f90 v96 x85 := h97
        refine op_g ha rfl (hi95.gives sl22 rfl rfl) ?_; clear ha a; intro a ha; refine op_g ha rfl (g_load0 hE41 Tryd.isAgg26 rfl hat93.one) ?_; clear ha a; intro a ha; refine op_g ha rfl (g_move rfl) ?_; clear ha a; intro a ha; obtain ⟨x99, hc100, hF⟩ := cal_some hF
        refine o_call ha rfl rfl Tryd.call32 (W_laws_szInt64S (h97.ext hE41) hI38 hc100) ?_; clear ha a; rintro v101 w102 ⟨⟨rfl, hI104⟩, hx103⟩ a ha
        have hE105 := Ext.trans hE41 hx103
        refine op_g ha rfl (g_assign rfl) ?_; clear ha a; intro a ha; refine wpList_nil ?_; replace ha := ha.sub (σ' := [(0, va0), (1, (.int .i64 x99)), (5, (.int .i64 i39))]) ⟨rfl, rfl, rfl, trivial⟩; refine e_then ?_; refine wp_seq ?_; refine wp_region_lit ?_; refine op_g ha rfl (g_move rfl) ?_; clear ha a; intro a ha; refine op_g ha rfl (g_lss rfl rfl) ?_; clear ha a; intro a ha; refine wpList_nil ?_; replace ha := ha.sub (σ' := [(0, va0), (1, (.int .i64 x99)), (5, (.int .i64 i39)), (25, (.bool (decide (x99 < 0))))]) ⟨rfl, rfl, rfl, rfl, trivial⟩; refine e_then ?_; refine c_cond (x99 < 0) ha rfl (decide_eq_true_iff) (fun hp106 => ?_) (fun hp106 => ?_)
        · replace hF := if_t hp106 hF
          refine wp_seq ?_; refine wp_region_lit ?_; refine op_g ha rfl (g_assign rfl) ?_; clear ha a; intro a ha; refine wpList_nil ?_; replace ha := ha.sub (σ' := [(4, (.int .i64 (-1)))]) ⟨rfl, trivial⟩; refine e_then ?_; refine wp_ret ?_; refine e_blk_ret ?_; refine e_then_ret ?_; refine e_lq_ret ?_; refine e_then_ret ?_; obtain rfl := Option.some.inj hF
          have e107 := LK_inr hN81; subst e107
          have e108 := BK_inr hK77; subst e108
          exact f_ret1 ha rfl rfl ⟨⟨rfl, (show InI (-1) from by decide)⟩, hE105⟩
        replace hF := if_f hp106 hF; refine wp_skip ?_; refine e_blk ?_; refine e_then ?_; refine wp_region_lit ?_; refine op_g ha rfl (g_move rfl) ?_; clear ha a; intro a ha; obtain ⟨hI109, hF⟩ := ck_some hF; refine op_g ha rfl (g_add rfl rfl hI109) ?_; clear ha a; intro a ha; refine op_g ha rfl (g_assign rfl) ?_; clear ha a; intro a ha; refine wpList_nil ?_; replace ha := ha.sub (σ' := [(0, va0), (1, (.int .i64 x99)), (5, (.int .i64 (i39 + 1)))]) ⟨rfl, rfl, rfl, trivial⟩; refine e_lq ?_; obtain rfl := Option.some.inj hF
        exact ⟨_, Nat.lt_succ_self _, x99, i39 + 1, ha.sub ⟨rfl, rfl, rfl, trivial⟩, hE105, hI104, hI109, hN81⟩
      replace hF := if_f hp84 hF; refine wp_exit ?_; refine e_then_exit ?_; refine e_lq_eq ?_; obtain rfl := Option.some.inj hF
      exact ⟨i37, ha.sub ⟨rfl, trivial⟩, hE41, hI38, (LK_inr hN81).symm⟩
  rintro a w72 ⟨i73, ha, hE80, hI74, rfl⟩
  have hF : F_laws_szInt64SS_k2 i73 = some _ := hK77; clear hK77; unfold F_laws_szInt64SS_k2 at hF
  refine e_then ?_; refine wp_seq ?_; refine wp_region_lit ?_; refine op_g ha rfl (g_move rfl) ?_; clear ha a; intro a ha; refine op_g ha rfl (g_assign rfl) ?_; clear ha a; intro a ha; refine wpList_nil ?_; replace ha := ha.sub (σ' := [(4, (.int .i64 i73))]) ⟨rfl, trivial⟩; refine e_then ?_; refine wp_ret ?_; obtain rfl := Option.some.inj hF
  exact f_ret1 ha rfl rfl ⟨⟨rfl, hI74⟩, hE80⟩
set_option maxHeartbeats 2000000 in
theorem W_laws_szGraph {W : World} {va0_0 : Value} {fa0_0 : List Nat} {a0_0 : (List (List Int))} (ha0_0 : Ro (Rp.sl 2 Rp.int) W fa0_0 va0_0 a0_0) {a1 : Int} (ha1 : InI a1) {r : Int} (hF : F_laws_szGraph a0_0 a1 = some r) :
    Calls Tryd.prog 5 [.agg #[va0_0], .int .i64 a1].toArray W (Ret fun u w' => (u = .int .i64 r ∧ InI r) ∧ Ext W w') := by
  refine f_enter Tryd.func5 rfl Tryd.ntmps5 rfl ?_
  intro a ha
  replace ha : Fr 12 [(0, (.agg #[va0_0])), (1, (.int .i64 a1))] a := ha
  have hE : Chg [] W W := Chg.refl _ _
  unfold F_laws_szGraph at hF
  refine wp_seq ?_; refine wp_region_lit ?_
  refine o_box ha rfl rfl rfl ?_; clear ha a; intro b1 w2 hB3 hx4 hlo5 a ha
  have q6 := Zn.one hlo5
  have q7 := Zn.upD q6 hE
  have hE8 := Ext.trans hE hx4
  refine op_g ha rfl (g_assign rfl) ?_; clear ha a; intro a ha; refine wpList_nil ?_; replace ha := ha.sub (σ' := [(1, (.int .i64 a1)), (2, (.pointer (some ⟨b1, 0, none⟩)))]) ⟨rfl, rfl, trivial⟩; refine e_then ?_; refine wp_seq ?_; refine wp_region_lit ?_; refine op_g ha rfl (g_field0 st24_0 rfl) ?_; clear ha a; intro a ha; refine op_g ha rfl (g_load Tryd.isAgg22 rfl (hB3.cell rfl)) ?_; clear ha a; intro a ha; refine op_g ha rfl (g_move rfl) ?_; clear ha a; intro a ha; obtain ⟨x9, hc10, hF⟩ := cal_some hF
  refine o_call ha rfl rfl Tryd.call14 (W_laws_szInt64SS (ha0_0.ext hE8) ha1 hc10) ?_; clear ha a; rintro v11 w12 ⟨⟨rfl, hI14⟩, hx13⟩ a ha
  replace hB3 := hB3.ext hx13
  have hE15 := Ext.trans hE8 hx13
  refine op_g ha rfl (g_assign rfl) ?_; clear ha a; intro a ha; refine wpList_nil ?_; replace ha := ha.sub (σ' := [(1, (.int .i64 x9))]) ⟨rfl, trivial⟩; refine e_then ?_; refine wp_seq ?_; refine wp_seq ?_; refine wp_region_lit ?_; refine op_g ha rfl (g_move rfl) ?_; clear ha a; intro a ha; refine op_g ha rfl (g_lss rfl rfl) ?_; clear ha a; intro a ha; refine wpList_nil ?_; replace ha := ha.sub (σ' := [(1, (.int .i64 x9)), (10, (.bool (decide (x9 < 0))))]) ⟨rfl, rfl, trivial⟩; refine e_then ?_; refine c_cond (x9 < 0) ha rfl (decide_eq_true_iff) (fun hp16 => ?_) (fun hp16 => ?_)
  · replace hF := if_t hp16 hF
    refine wp_seq ?_; refine wp_region_lit ?_; refine op_g ha rfl (g_assign rfl) ?_; clear ha a; intro a ha; refine wpList_nil ?_; replace ha := ha.sub (σ' := [(4, (.int .i64 (-1)))]) ⟨rfl, trivial⟩; refine e_then ?_; refine wp_ret ?_; refine e_then_ret ?_; obtain rfl := Option.some.inj hF
    exact f_ret1 ha rfl rfl ⟨⟨rfl, (show InI (-1) from by decide)⟩, hE15⟩
  replace hF := if_f hp16 hF; refine wp_skip ?_; refine e_then ?_; refine wp_seq ?_; refine wp_region_lit ?_; refine op_g ha rfl (g_move rfl) ?_; clear ha a; intro a ha; refine op_g ha rfl (g_assign rfl) ?_; clear ha a; intro a ha; refine wpList_nil ?_; replace ha := ha.sub (σ' := [(4, (.int .i64 x9))]) ⟨rfl, trivial⟩; refine e_then ?_; refine wp_ret ?_; obtain rfl := Option.some.inj hF
  exact f_ret1 ha rfl rfl ⟨⟨rfl, hI14⟩, hE15⟩
set_option maxHeartbeats 2000000 in
theorem W_laws_toInt64S {W : World} {va0 : Value} {fa0 : List Nat} {a0 : (List Int)} (ha0 : Ro Rp.int W fa0 va0 a0) {r : (List Int)} (hF : F_laws_toInt64S a0 = some r) :
    Calls Tryd.prog 36 [va0].toArray W (Ret fun u w' => ∃ (b_u : Int), Ow Rp.int 2 true w' [] b_u u r ∧ Zn W b_u ∧ Ext W w') := by
  refine f_enter Tryd.func36 rfl Tryd.ntmps36 rfl ?_
  intro a ha
  replace ha : Fr 22 [(0, va0)] a := ha
  have hE : Chg [] W W := Chg.refl _ _
  unfold F_laws_toInt64S at hF
  refine wp_seq ?_; refine wp_region_lit ?_; refine op_g ha rfl (g_assign rfl) ?_; clear ha a; intro a ha; refine wpList_nil ?_; replace ha := ha.sub (σ' := [(0, va0)]) ⟨rfl, trivial⟩; refine e_then ?_; refine wp_seq ?_; refine wp_region_lit ?_; refine op_g ha rfl (g_move rfl) ?_; clear ha a; intro a ha; refine op_g ha rfl (g_lenR sl26.und ha0 rfl) ?_; clear ha a; intro a ha; obtain ⟨g5, g5b, hF⟩ := mkS_some hF
  refine o_make (z0 := (0 : Int)) Rp.int ha rfl sl26 rfl (fun w => ⟨rfl, by decide, rfl⟩) rfl g5 g5b ?_; clear ha a; intro v1 w2 h3 hx4 a ha
  obtain ⟨b8, hb8⟩ : ∃ b : Int, b = W.heap.size := ⟨_, rfl⟩; rw [← hb8] at h3
  have q9 := zn_of hb8
  have q10 := Zn.upD q9 hE
  have hE11 := Ext.trans hE hx4
  refine op_g ha rfl (g_assign rfl) ?_; clear ha a; intro a ha; refine wpList_nil ?_; replace ha := ha.sub (σ' := [(0, va0), (3, v1)]) ⟨rfl, rfl, trivial⟩; refine e_then ?_; refine wp_seq ?_; refine wp_seq ?_; refine wp_region_lit ?_; refine op_g ha rfl (g_assign rfl) ?_; clear ha a; intro a ha; refine wpList_nil ?_; refine e_then ?_; obtain ⟨o118, ho119, hK120⟩ := bnd_some hF
  obtain ⟨n121, hn122⟩ := lp_some ho119; clear ho119
  refine c_loop (fun a w => ∃ (l115 : (List Int)) (v116 : Value) (b117 : Int), Fr 22 [(3, v116)] a ∧ Chg [] W w ∧ Ow Rp.int 2 true w [] b117 v116 l115 ∧ Zn W b117 ∧ o118 = .inl l115) (fun n a w => ∃ (l63 : (List Int)) (i66 : Int) (v64 : Value) (b65 : Int), Fr 22 [(0, va0), (3, v64), (4, (.int .i64 i66))] a ∧ Chg [] W w ∧ InI i66 ∧ Ow Rp.int 2 true w [] b65 v64 l63 ∧ Zn W b65 ∧ lpN (fun s => F_laws_toInt64S_l1 a0 s.1 s.2) n (l63, i66) = some o118) n121 ⟨(List.replicate ((a0.length : Int) : Int).toNat (0 : Int)), 0, v1, b8, ha.sub ⟨rfl, rfl, rfl, trivial⟩, hE11, (show InI 0 from by decide), h3, q10, hn122⟩ ?_ ?_
  · rintro m126 a w59 ⟨l63, i66, v64, b65, ha, hE68, hI67, h61, z62, hF⟩
    cases m126 with
    | zero => exact (lpN_zero hF).elim
    | succ m126 =>
      obtain ⟨z125, hF, hN124⟩ := lpN_succ hF
      have hF : F_laws_toInt64S_l1 a0 l63 i66 = some z125 := hF; unfold F_laws_toInt64S_l1 at hF
      refine wp_seq ?_; refine wp_seq ?_; refine wp_region_lit ?_; (iterate 2 refine op_g ha rfl (g_move rfl) ?_; clear ha a; intro a ha); refine op_g ha rfl (g_lenR sl26.und ha0 rfl) ?_; clear ha a; intro a ha; refine op_g ha rfl (g_lss rfl rfl) ?_; clear ha a; intro a ha; refine wpList_nil ?_; replace ha := ha.sub (σ' := [(0, va0), (3, v64), (4, (.int .i64 i66)), (11, (.bool (decide (i66 < (a0.length : Int)))))]) ⟨rfl, rfl, rfl, rfl, trivial⟩; refine e_then ?_; refine c_cond (i66 < (a0.length : Int)) ha rfl (decide_eq_true_iff) (fun hp127 => ?_) (fun hp127 => ?_)
      · replace hF := if_t hp127 hF
        refine wp_skip ?_; refine e_then ?_; refine wp_seq ?_; refine wp_block ?_; refine wp_region_lit ?_; (iterate 4 refine op_g ha rfl (g_move rfl) ?_; clear ha a; intro a ha); obtain ⟨x128, g129, gx130, hF⟩ := idx_some hF
        obtain ⟨p131, cs132, f133, hf134, hpb135, hat136, hr137, hi138⟩ := ha0.at g129 gx130
        obtain ⟨rfl, hI139, rfl⟩ := hr137
        refine op_g ha rfl (hi138.gives sl26 rfl rfl) ?_; clear ha a; intro a ha; refine op_g ha rfl (g_load0 hE68 Tryd.isAgg2 rfl hat136.one) ?_; clear ha a; intro a ha; obtain ⟨x140, g141, gx142, hF⟩ := idx_some hF
        obtain ⟨p143, cs144, f145, hf146, hpb147, hat148, hr149, hi150⟩ := h61.at g141 gx142
        obtain ⟨rfl, hI151, rfl⟩ := hr149
        refine op_g ha rfl (hi150.gives sl26 rfl rfl) ?_; clear ha a; intro a ha
        refine o_storeE (f := []) (q := x128) ha Tryd.sizeOf2 rfl rfl rfl h61 hi150 ⟨rfl, hI139, rfl⟩ (Nq.nil _) ?_; intro w152 fs153 h154 hc155 hs156
        obtain rfl := Subst.nil hs156
        have hE157 := Ext.then hE68 hc155 (Zn.bl z62)
        refine wpList_nil ?_; replace ha := ha.sub (σ' := [(0, va0), (3, v64), (4, (.int .i64 i66))]) ⟨rfl, rfl, rfl, trivial⟩; refine e_blk ?_; refine e_then ?_; refine wp_region_lit ?_; refine op_g ha rfl (g_move rfl) ?_; clear ha a; intro a ha; obtain ⟨hI158, hF⟩ := ck_some hF; refine op_g ha rfl (g_add rfl rfl hI158) ?_; clear ha a; intro a ha; refine op_g ha rfl (g_assign rfl) ?_; clear ha a; intro a ha; refine wpList_nil ?_; replace ha := ha.sub (σ' := [(0, va0), (3, v64), (4, (.int .i64 (i66 + 1)))]) ⟨rfl, rfl, rfl, trivial⟩; refine e_lq ?_; obtain rfl := Option.some.inj hF
        exact ⟨_, Nat.lt_succ_self _, (l63.set ((i66 : Int).toNat) x128), i66 + 1, v64, b65, ha.sub ⟨rfl, rfl, rfl, trivial⟩, hE157, hI158, h154, z62, hN124⟩
      replace hF := if_f hp127 hF; refine wp_exit ?_; refine e_then_exit ?_; refine e_lq_eq ?_; obtain rfl := Option.some.inj hF
      exact ⟨l63, v64, b65, ha.sub ⟨rfl, trivial⟩, hE68, h61, z62, (LK_inr hN124).symm⟩
  rintro a w111 ⟨l115, v116, b117, ha, hE123, h113, z114, rfl⟩
  have hF : F_laws_toInt64S_k2 l115 = some _ := hK120; clear hK120; unfold F_laws_toInt64S_k2 at hF
  refine e_then ?_; refine wp_seq ?_; refine wp_region_lit ?_; refine op_g ha rfl (g_move rfl) ?_; clear ha a; intro a ha; refine op_g ha rfl (g_assign rfl) ?_; clear ha a; intro a ha; refine wpList_nil ?_; replace ha := ha.sub (σ' := [(2, v116)]) ⟨rfl, trivial⟩; refine e_then ?_; refine wp_ret ?_; obtain rfl := Option.some.inj hF
  exact f_ret1 ha rfl rfl ⟨_, h113, z114, hE123⟩
set_option maxHeartbeats 2000000 in
theorem W_laws_toInt64SS {W : World} {va0 : Value} {fa0 : List Nat} {a0 : (List (List Int))} (ha0 : Ro (Rp.sl 2 Rp.int) W fa0 va0 a0) {r : (List (List Int))} (hF : F_laws_toInt64SS a0 = some r) :
    Calls Tryd.prog 16 [va0].toArray W (Ret fun u w' => ∃ (b_u : Int) (fs_u : List Nat), Ow (Rp.sl 2 Rp.int) 26 true w' fs_u b_u u r ∧ Zn W b_u ∧ (∀ k ∈ fs_u, W.heap.size ≤ k) ∧ (bl b_u ++ fs_u).Nodup ∧ Ext W w') := by
  refine f_enter Tryd.func16 rfl Tryd.ntmps16 rfl ?_
  intro a ha
  replace ha : Fr 23 [(0, va0)] a := ha
  have hE : Chg [] W W := Chg.refl _ _
  unfold F_laws_toInt64SS at hF
  refine wp_seq ?_; refine wp_region_lit ?_; refine op_g ha rfl (g_assign rfl) ?_; clear ha a; intro a ha; refine wpList_nil ?_; replace ha := ha.sub (σ' := [(0, va0)]) ⟨rfl, trivial⟩; refine e_then ?_; refine wp_seq ?_; refine wp_region_lit ?_; refine op_g ha rfl (g_move rfl) ?_; clear ha a; intro a ha; refine op_g ha rfl (g_lenR sl22.und ha0 rfl) ?_; clear ha a; intro a ha; obtain ⟨g5, g5b, hF⟩ := mkS_some hF
  refine o_make (z0 := ([] : (List Int))) (Rp.sl 2 Rp.int) ha rfl sl22 rfl (fun w => nil_rep w) rfl g5 g5b ?_; clear ha a; intro v1 w2 h3 hx4 a ha
  obtain ⟨b8, hb8⟩ : ∃ b : Int, b = W.heap.size := ⟨_, rfl⟩; rw [← hb8] at h3
  have q9 := zn_of hb8
  have q10 := Zn.upD q9 hE
  have hE11 := Ext.trans hE hx4
  refine op_g ha rfl (g_assign rfl) ?_; clear ha a; intro a ha; refine wpList_nil ?_; replace ha := ha.sub (σ' := [(0, va0), (3, v1)]) ⟨rfl, rfl, trivial⟩; refine e_then ?_; refine wp_seq ?_; refine wp_seq ?_; refine wp_region_lit ?_; refine op_g ha rfl (g_assign rfl) ?_; clear ha a; intro a ha; refine wpList_nil ?_; refine e_then ?_; obtain ⟨o181, ho182, hK183⟩ := bnd_some hF
  obtain ⟨n184, hn185⟩ := lp_some ho182; clear ho182
  refine c_loop (fun a w => ∃ (l178 : (List (List Int))) (fs175 : List Nat) (v179 : Value) (b180 : Int), Fr 23 [(3, v179)] a ∧ Chg [] W w ∧ Ow (Rp.sl 2 Rp.int) 26 true w fs175 b180 v179 l178 ∧ Zn W b180 ∧ (∀ k ∈ fs175, W.heap.size ≤ k) ∧ (bl b180 ++ fs175).Nodup ∧ o181 = .inl l178) (fun n a w => ∃ (l96 : (List (List Int))) (i99 : Int) (fs93 : List Nat) (v97 : Value) (b98 : Int), Fr 23 [(0, va0), (3, v97), (4, (.int .i64 i99))] a ∧ Chg [] W w ∧ InI i99 ∧ Ow (Rp.sl 2 Rp.int) 26 true w fs93 b98 v97 l96 ∧ Zn W b98 ∧ (∀ k ∈ fs93, W.heap.size ≤ k) ∧ (bl b98 ++ fs93).Nodup ∧ lpN (fun s => F_laws_toInt64SS_l1 a0 s.1 s.2) n (l96, i99) = some o181) n184 ⟨(List.replicate ((a0.length : Int) : Int).toNat ([] : (List Int))), 0, [], v1, b8, ha.sub ⟨rfl, rfl, rfl, trivial⟩, hE11, (show InI 0 from by decide), h3, q10, (zf_nil _), (bl_nodup b8), hn185⟩ ?_ ?_
  · rintro m189 a w89 ⟨l96, i99, fs93, v97, b98, ha, hE101, hI100, h91, z92, zf94, nd95, hF⟩
    cases m189 with
    | zero => exact (lpN_zero hF).elim
    | succ m189 =>
      obtain ⟨z188, hF, hN187⟩ := lpN_succ hF
      have hF : F_laws_toInt64SS_l1 a0 l96 i99 = some z188 := hF; unfold F_laws_toInt64SS_l1 at hF
      refine wp_seq ?_; refine wp_seq ?_; refine wp_region_lit ?_; (iterate 2 refine op_g ha rfl (g_move rfl) ?_; clear ha a; intro a ha); refine op_g ha rfl (g_lenR sl22.und ha0 rfl) ?_; clear ha a; intro a ha; refine op_g ha rfl (g_lss rfl rfl) ?_; clear ha a; intro a ha; refine wpList_nil ?_; replace ha := ha.sub (σ' := [(0, va0), (3, v97), (4, (.int .i64 i99)), (11, (.bool (decide (i99 < (a0.length : Int)))))]) ⟨rfl, rfl, rfl, rfl, trivial⟩; refine e_then ?_; refine c_cond (i99 < (a0.length : Int)) ha rfl (decide_eq_true_iff) (fun hp190 => ?_) (fun hp190 => ?_)
      · replace hF := if_t hp190 hF
        refine wp_skip ?_; refine e_then ?_; refine wp_seq ?_; refine wp_block ?_; refine wp_region_lit ?_; (iterate 4 refine op_g ha rfl (g_move rfl) ?_; clear ha a; intro a ha); obtain ⟨x191, g192, gx193, hF⟩ := idx_some hF
        obtain ⟨p194, cs195, f196, hf197, hpb198, hat199, hr200, hi201⟩ := ha0.at g192 gx193
        obtain ⟨v202, rfl, h203⟩ := hr200
        have h203 : Ro Rp.int W f196 v202 x191 := h203
        refine op_g ha rfl (hi201.gives sl22 rfl rfl) ?_; clear ha a; intro a ha; refine op_g ha rfl (g_load0 hE101 Tryd.isAgg26 rfl hat199.one) ?_; clear ha a; intro a ha; obtain ⟨x205, hc206, hF⟩ := cal_some hF
        refine o_call ha rfl rfl Tryd.call36 (W_laws_toInt64S (h203.ext hE101) hc206) ?_; clear ha a; rintro v207 w208 ⟨b210, h211, z212, hx209⟩ a ha
        have q214 := Nq.new h91.fpb z212
        have q215 := Nq.madeO z212 h91.blt
        have q216 := Nf.old z212 (zf_nil _) h91.bnd
        replace h91 := h91.ext hx209
        have hE217 := Ext.trans hE101 hx209
        have q218 := Zn.upD z212 hE101
        obtain ⟨x219, g220, gx221, hF⟩ := idx_some hF
        obtain ⟨p222, cs223, f224, hf225, hpb226, hat227, hr228, hi229⟩ := h91.at g220 gx221
        replace hr228 := (Rp.sl 2 Rp.int).weak hr228
        obtain ⟨v230, rfl, h231⟩ := hr228
        have h231 : Ro Rp.int w208 f224 v230 x219 := h231
        have q233 := Nq.mono q214 (fun k hk => List.mem_append_right (bl b98) (hf225 k hk))
        have q234 := Nq.mono (Ow.ne h91) hf225
        refine op_g ha rfl (hi229.gives sl22 rfl rfl) ?_; clear ha a; intro a ha
        refine o_storeE (f := (bl b210 ++ [])) (q := x205) ha Tryd.sizeOf26 rfl rfl h211.cells h91 hi229 (Rp.mkO h211) q215 ?_; intro w235 fs236 h237 hc238 hs239
        have q240 := zf_mv q218 (zf_nil _)
        have q241 := dj_of q214
        have q242 := zf_set hs239 zf94 q240
        have q243 := Subst.nd hs239 nd95 (bl_nodup b210) q241
        replace h231 := h231.nq hc238 q234
        have hE244 := Ext.then hE217 hc238 (Zn.bl z92)
        refine wpList_nil ?_; replace ha := ha.sub (σ' := [(0, va0), (3, v97), (4, (.int .i64 i99))]) ⟨rfl, rfl, rfl, trivial⟩; refine e_blk ?_; refine e_then ?_; refine wp_region_lit ?_; refine op_g ha rfl (g_move rfl) ?_; clear ha a; intro a ha; obtain ⟨hI245, hF⟩ := ck_some hF; refine op_g ha rfl (g_add rfl rfl hI245) ?_; clear ha a; intro a ha; refine op_g ha rfl (g_assign rfl) ?_; clear ha a; intro a ha; refine wpList_nil ?_; replace ha := ha.sub (σ' := [(0, va0), (3, v97), (4, (.int .i64 (i99 + 1)))]) ⟨rfl, rfl, rfl, trivial⟩; refine e_lq ?_; obtain rfl := Option.some.inj hF
        exact ⟨_, Nat.lt_succ_self _, (l96.set ((i99 : Int).toNat) x205), i99 + 1, fs236, v97, b98, ha.sub ⟨rfl, rfl, rfl, trivial⟩, hE244, hI245, h237, z92, q242, q243, hN187⟩
      replace hF := if_f hp190 hF; refine wp_exit ?_; refine e_then_exit ?_; refine e_lq_eq ?_; obtain rfl := Option.some.inj hF
      exact ⟨l96, fs93, v97, b98, ha.sub ⟨rfl, trivial⟩, hE101, h91, z92, zf94, nd95, (LK_inr hN187).symm⟩
  rintro a w171 ⟨l178, fs175, v179, b180, ha, hE186, h173, z174, zf176, nd177, rfl⟩
  have hF : F_laws_toInt64SS_k2 l178 = some _ := hK183; clear hK183; unfold F_laws_toInt64SS_k2 at hF
  refine e_then ?_; refine wp_seq ?_; refine wp_region_lit ?_; refine op_g ha rfl (g_move rfl) ?_; clear ha a; intro a ha; refine op_g ha rfl (g_assign rfl) ?_; clear ha a; intro a ha; refine wpList_nil ?_; replace ha := ha.sub (σ' := [(2, v179)]) ⟨rfl, trivial⟩; refine e_then ?_; refine wp_ret ?_; obtain rfl := Option.some.inj hF
  exact f_ret1 ha rfl rfl ⟨_, _, h173, z174, zf176, nd177, hE186⟩
set_option maxHeartbeats 2000000 in
theorem W_laws_toGraph {W : World} {va0_0 : Value} {fa0_0 : List Nat} {a0_0 : (List (List Int))} (ha0_0 : Ro (Rp.sl 2 Rp.int) W fa0_0 va0_0 a0_0) {r : (List (List Int))} (hF : F_laws_toGraph a0_0 = some r) :
    Calls Tryd.prog 7 [.agg #[va0_0]].toArray W (Ret fun u w' => ∃ (u_0 : Value) (b_u_0 : Int) (fs_u_0 : List Nat), u = .agg #[u_0] ∧ Ow (Rp.sl 2 Rp.int) 26 true w' fs_u_0 b_u_0 u_0 r ∧ Zn W b_u_0 ∧ (∀ k ∈ fs_u_0, W.heap.size ≤ k) ∧ (bl b_u_0 ++ fs_u_0).Nodup ∧ Ext W w') := by
  refine f_enter Tryd.func7 rfl Tryd.ntmps7 rfl ?_
  intro a ha
  replace ha : Fr 9 [(0, (.agg #[va0_0]))] a := ha
  have hE : Chg [] W W := Chg.refl _ _
  unfold F_laws_toGraph at hF
  refine wp_seq ?_; refine wp_region_lit ?_
  refine o_box ha rfl rfl rfl ?_; clear ha a; intro b1 w2 hB3 hx4 hlo5 a ha
  have q6 := Zn.one hlo5
  have q7 := Zn.upD q6 hE
  have hE8 := Ext.trans hE hx4
  refine o_alloc (cs := [(.slice none 0 0)]) ha rfl Tryd.zeroValue29 rfl ?_; clear ha a; intro b9 w10 hB11 hx12 hlo13 a ha
  have q14 := Zn.one hlo13
  have q15 := Nq.new hB3.fpb q14
  have q16 := Nq.made1 hlo13 hB3.bi
  have q17 := Zn.upD q14 hE8
  replace hB3 := hB3.ext hx12
  have hE18 := Ext.trans hE8 hx12
  refine wpList_nil ?_; replace ha := ha.sub (σ' := [(1, (.pointer (some ⟨b1, 0, none⟩))), (2, (.pointer (some ⟨b9, 0, none⟩)))]) ⟨rfl, rfl, trivial⟩; refine e_then ?_; refine wp_seq ?_; refine wp_region_lit ?_
  refine o_alloc (cs := [(.slice none 0 0)]) ha rfl Tryd.zeroValue29 rfl ?_; clear ha a; intro b19 w20 hB21 hx22 hlo23 a ha
  have q24 := Zn.one hlo23
  have q25 := Nq.new hB3.fpb q24
  have q26 := Nq.made1 hlo23 hB3.bi
  have q27 := Nq.new hB11.fpb q24
  have q28 := Nq.made1 hlo23 hB11.bi
  have q29 := Zn.upD q24 hE18
  replace hB3 := hB3.ext hx22
  replace hB11 := hB11.ext hx22
  have hE30 := Ext.trans hE18 hx22
  refine wpList_nil ?_; refine e_then ?_; refine wp_seq ?_; refine wp_region_lit ?_; refine op_g ha rfl (g_field0 st24_0 rfl) ?_; clear ha a; intro a ha; refine op_g ha rfl (g_load Tryd.isAgg22 rfl (hB3.cell rfl)) ?_; clear ha a; intro a ha; obtain ⟨x31, hc32, hF⟩ := cal_some hF
  refine o_call ha rfl rfl Tryd.call16 (W_laws_toInt64SS (ha0_0.ext hE30) hc32) ?_; clear ha a; rintro v33 w34 ⟨b36, fs40, h37, z38, zf41, nd42, hx35⟩ a ha
  have q43 := Nq.new hB3.fpb z38
  have q44 := Nq.madeF z38 zf41 hB3.bi
  have q45 := Nq.new hB11.fpb z38
  have q46 := Nq.madeF z38 zf41 hB11.bi
  have q47 := Nq.new hB21.fpb z38
  have q48 := Nq.madeF z38 zf41 hB21.bi
  have q49 := Nf.new hB3.fpb zf41
  have q50 := Nf.new hB11.fpb zf41
  have q51 := Nf.new hB21.fpb zf41
  replace hB3 := hB3.ext hx35
  replace hB11 := hB11.ext hx35
  replace hB21 := hB21.ext hx35
  have hE52 := Ext.trans hE30 hx35
  have q53 := Zn.upD z38 hE30
  have q54 := zf_up zf41 hE30
  refine op_g ha rfl (g_field0 st29_0 rfl) ?_; clear ha a; intro a ha
  refine o_storeB ha hB21 Tryd.sizeOf22 rfl rfl h37.cells h37.oneC (Nat.le_of_ble_eq_true rfl) ?_; intro w55 hB56 hc57
  replace hc57 := hc57.bl
  replace hB56 : Bx w55 b19 [v33] 29 := hB56
  replace hB3 := hB3.nq hc57 q25
  replace hB11 := hB11.nq hc57 q27
  replace h37 := h37.nq hc57 q48
  have hE58 := Ext.then hE52 hc57 (Zn.bl q29)
  refine wpList_nil ?_; replace ha := ha.sub (σ' := [(2, (.pointer (some ⟨b9, 0, none⟩))), (3, (.pointer (some ⟨b19, 0, none⟩)))]) ⟨rfl, rfl, trivial⟩; refine e_then ?_; refine wp_seq ?_; refine wp_region_lit ?_; refine op_g ha rfl (g_loadA (cs := [v33]) Tryd.isAgg29 Tryd.sizeOf29 rfl (by simp) hB56.all) ?_; clear ha a; intro a ha
  refine o_storeA (vs := [v33]) ha hB11 Tryd.sizeOf29 rfl rfl (by intro c hc; simp only [List.mem_cons, List.not_mem_nil, or_false] at hc; rcases hc with hc <;> subst hc <;> first | rfl | exact h37.oneC) rfl ?_; intro w59 hB60 hc61
  replace hc61 := hc61.bl
  replace hB60 : Bx w59 b9 [v33] 29 := hB60
  replace hB56 := hB56.nq hc61 q28
  replace h37 := h37.nq hc61 q46
  have hE62 := Ext.then hE58 hc61 (Zn.bl q17)
  refine wpList_nil ?_; replace ha := ha.sub (σ' := [(2, (.pointer (some ⟨b9, 0, none⟩)))]) ⟨rfl, trivial⟩; refine e_then ?_; refine wp_ret ?_; obtain rfl := Option.some.inj hF
  exact f_retC (cs := [v33]) ha rfl rfl Tryd.isAgg29 Tryd.sizeOf29 hB60 ⟨_, _, _, rfl, h37, q53, q54, nd42, hE62⟩
set_option maxHeartbeats 2000000 in
theorem W_spec_l1Size {W : World} {va0_0 : Value} {fa0_0 : List Nat} {a0_0 : (List (List Int))} (ha0_0 : Ro (Rp.sl 2 Rp.int) W fa0_0 va0_0 a0_0) {r : Int} (hF : F_spec_l1Size a0_0 = some r) :
    Calls Tryd.prog 23 [.agg #[va0_0]].toArray W (Ret fun u w' => (u = .int .i64 r ∧ InI r) ∧ Ext W w') := by
  refine f_enter Tryd.func23 rfl Tryd.ntmps23 rfl ?_
  intro a ha
  replace ha : Fr 6 [(0, (.agg #[va0_0]))] a := ha
  have hE : Chg [] W W := Chg.refl _ _
  unfold F_spec_l1Size at hF
  refine wp_seq ?_; refine wp_region_lit ?_
  refine o_box ha rfl rfl rfl ?_; clear ha a; intro b1 w2 hB3 hx4 hlo5 a ha
  have q6 := Zn.one hlo5
  have q7 := Zn.upD q6 hE
  have hE8 := Ext.trans hE hx4
  refine op_g ha rfl (g_assign rfl) ?_; clear ha a; intro a ha; refine wpList_nil ?_; replace ha := ha.sub (σ' := [(1, (.pointer (some ⟨b1, 0, none⟩)))]) ⟨rfl, trivial⟩; refine e_then ?_; refine wp_seq ?_; refine wp_region_lit ?_; refine op_g ha rfl (g_field0 st29_0 rfl) ?_; clear ha a; intro a ha; refine op_g ha rfl (g_load Tryd.isAgg22 rfl (hB3.cell rfl)) ?_; clear ha a; intro a ha; refine op_g ha rfl (g_lenR sl22.und ha0_0 rfl) ?_; clear ha a; intro a ha; refine op_g ha rfl (g_assign rfl) ?_; clear ha a; intro a ha; refine wpList_nil ?_; replace ha := ha.sub (σ' := [(2, (.int .i64 (a0_0.length : Int)))]) ⟨rfl, trivial⟩
  refine e_then ?_; refine wp_ret ?_; obtain rfl := Option.some.inj hF
  exact f_ret1 ha rfl rfl ⟨⟨rfl, ha0_0.len⟩, hE8⟩
set_option maxHeartbeats 2000000 in
theorem W_spec_l1In {W : World} {a0 : Int} (ha0 : InI a0) {a1 : Int} (ha1 : InI a1) {a2 : Int} (ha2 : InI a2) {r : Bool} (hF : F_spec_l1In a0 a1 a2 = some r) :
    Calls Tryd.prog 42 [.int .i64 a0, .int .i64 a1, .int .i64 a2].toArray W (Ret fun u w' => u = .bool r ∧ Ext W w') := by
  refine f_enter Tryd.func42 rfl Tryd.ntmps42 rfl ?_
  intro a ha
  replace ha : Fr 15 [(0, (.int .i64 a0)), (1, (.int .i64 a1)), (2, (.int .i64 a2))] a := ha
  have hE : Chg [] W W := Chg.refl _ _
  unfold F_spec_l1In at hF
  refine wp_seq ?_; refine wp_region_lit ?_; refine op_g ha rfl (g_assign rfl) ?_; clear ha a; intro a ha; refine wpList_nil ?_; replace ha := ha.sub (σ' := [(0, (.int .i64 a0)), (1, (.int .i64 a1)), (2, (.int .i64 a2))]) ⟨rfl, rfl, rfl, trivial⟩; refine e_then ?_; refine wp_seq ?_; refine wp_region_lit ?_; (iterate 2 refine op_g ha rfl (g_move rfl) ?_; clear ha a; intro a ha); refine op_g ha rfl (g_geq rfl rfl) ?_; clear ha a; intro a ha; refine op_g ha rfl (g_move rfl) ?_; clear ha a; intro a ha
  by_cases hp1 : a1 ≤ a0
  · replace hF := if_t hp1 hF
    rw [show (decide (a1 ≤ a0)) = true from (decide_eq_true_iff).2 hp1] at ha
    refine op_want (yields ha rfl rfl) ?_; refine op_g ha rfl (g_move rfl) ?_; clear ha a; intro a ha; refine op_want (yields ha rfl rfl) ?_; refine op_g ha rfl (g_move rfl) ?_; clear ha a; intro a ha; refine op_want (yields ha rfl rfl) ?_; refine op_g ha rfl (g_leq rfl rfl) ?_; clear ha a; intro a ha; refine op_g ha rfl (g_pick rfl rfl) ?_; clear ha a; intro a ha; refine op_g ha rfl (g_assign rfl) ?_; clear ha a; intro a ha; refine wpList_nil ?_; replace ha := ha.sub (σ' := [(6, (.bool (decide (a0 ≤ a2))))]) ⟨rfl, trivial⟩; refine e_then ?_; refine wp_ret ?_; obtain rfl := Option.some.inj hF
    exact f_ret1 ha rfl rfl ⟨rfl, hE⟩
  replace hF := if_f hp1 hF
  rw [show (decide (a1 ≤ a0)) = false from b_false (decide_eq_true_iff) hp1] at ha
  (iterate 3 refine op_unwant ha rfl (yields ha rfl rfl) rfl ?_; clear ha a; intro a ha); refine op_g ha rfl (g_pick rfl rfl) ?_; clear ha a; intro a ha; refine op_g ha rfl (g_assign rfl) ?_; clear ha a; intro a ha; refine wpList_nil ?_; replace ha := ha.sub (σ' := [(6, (.bool false))]) ⟨rfl, trivial⟩; refine e_then ?_; refine wp_ret ?_; obtain rfl := Option.some.inj hF
  exact f_ret1 ha rfl rfl ⟨rfl, hE⟩
set_option maxHeartbeats 2000000 in
theorem W_spec_l1Set {W : World} {va0 : Value} {fa0 : List Nat} {a0 : (List Int)} (ha0 : Ro Rp.int W fa0 va0 a0) {a1 : Int} (ha1 : InI a1) {r : Bool} (hF : F_spec_l1Set a0 a1 = some r) :
    Calls Tryd.prog 43 [va0, .int .i64 a1].toArray W (Ret fun u w' => u = .bool r ∧ Ext W w') := by
  refine f_enter Tryd.func43 rfl Tryd.ntmps43 rfl ?_
  intro a ha
  replace ha : Fr 40 [(0, va0), (1, (.int .i64 a1))] a := ha
  have hE : Chg [] W W := Chg.refl _ _
  unfold F_spec_l1Set at hF
  refine wp_seq ?_; refine wp_region_lit ?_; refine op_g ha rfl (g_assign rfl) ?_; clear ha a; intro a ha; refine wpList_nil ?_; replace ha := ha.sub (σ' := [(0, va0), (1, (.int .i64 a1))]) ⟨rfl, rfl, trivial⟩; refine e_then ?_; refine wp_seq ?_; refine wp_seq ?_; refine wp_region_lit ?_; refine op_g ha rfl (g_move rfl) ?_; clear ha a; intro a ha; refine op_g ha rfl (g_lenR sl26.und ha0 rfl) ?_; clear ha a; intro a ha; refine op_g ha rfl (g_move rfl) ?_; clear ha a; intro a ha; refine op_g ha rfl (g_gtr rfl rfl) ?_; clear ha a; intro a ha; refine wpList_nil ?_; replace ha := ha.sub (σ' := [(0, va0), (1, (.int .i64 a1)), (9, (.bool (decide (a1 < (a0.length : Int)))))]) ⟨rfl, rfl, rfl, trivial⟩
  refine e_then ?_; refine c_cond (a1 < (a0.length : Int)) ha rfl (decide_eq_true_iff) (fun hp1 => ?_) (fun hp1 => ?_)
  · replace hF := if_t hp1 hF
    refine wp_seq ?_; refine wp_region_lit ?_; refine op_g ha rfl (g_assign rfl) ?_; clear ha a; intro a ha; refine wpList_nil ?_; replace ha := ha.sub (σ' := [(4, (.bool false))]) ⟨rfl, trivial⟩; refine e_then ?_; refine wp_ret ?_; refine e_then_ret ?_; obtain rfl := Option.some.inj hF
    exact f_ret1 ha rfl rfl ⟨rfl, hE⟩
  replace hF := if_f hp1 hF; refine wp_skip ?_; refine e_then ?_; refine wp_seq ?_; refine wp_seq ?_; refine wp_region_lit ?_; refine op_g ha rfl (g_assign rfl) ?_; clear ha a; intro a ha; refine wpList_nil ?_; replace ha := ha.sub (σ' := [(0, va0), (1, (.int .i64 a1)), (5, (.int .i64 0))]) ⟨rfl, rfl, rfl, trivial⟩; refine e_then ?_; obtain ⟨o137, ho138, hK139⟩ := bnd_some hF
  obtain ⟨n140, hn141⟩ := lp_some ho138; clear ho138
  refine c_loop (fun a w => Fr 40 [] a ∧ Chg [] W w ∧ o137 = .inl ()) (fun n a w => ∃ (i69 : Int), Fr 40 [(0, va0), (1, (.int .i64 a1)), (5, (.int .i64 i69))] a ∧ Chg [] W w ∧ InI i69 ∧ lpN (fun s => F_spec_l1Set_l1 a0 a1 s) n i69 = some o137) n140 ⟨0, ha.sub ⟨rfl, rfl, rfl, trivial⟩, hE, (show InI 0 from by decide), hn141⟩ ?_ ?_
  · rintro m145 a w68 ⟨i69, ha, hE71, hI70, hF⟩
    cases m145 with
    | zero => exact (lpN_zero hF).elim
    | succ m145 =>
      obtain ⟨z144, hF, hN143⟩ := lpN_succ hF
      have hF : F_spec_l1Set_l1 a0 a1 i69 = some z144 := hF; unfold F_spec_l1Set_l1 at hF
      refine wp_seq ?_; refine wp_seq ?_; refine wp_region_lit ?_; (iterate 2 refine op_g ha rfl (g_move rfl) ?_; clear ha a; intro a ha); refine op_g ha rfl (g_lenR sl26.und ha0 rfl) ?_; clear ha a; intro a ha; refine op_g ha rfl (g_lss rfl rfl) ?_; clear ha a; intro a ha; refine wpList_nil ?_; replace ha := ha.sub (σ' := [(0, va0), (1, (.int .i64 a1)), (5, (.int .i64 i69)), (13, (.bool (decide (i69 < (a0.length : Int)))))]) ⟨rfl, rfl, rfl, rfl, trivial⟩; refine e_then ?_; refine c_cond (i69 < (a0.length : Int)) ha rfl (decide_eq_true_iff) (fun hp146 => ?_) (fun hp146 => ?_)
      · replace hF := if_t hp146 hF
        refine wp_skip ?_; refine e_then ?_; refine wp_seq ?_; refine wp_block ?_; refine wp_seq ?_; refine d_quiet hmix (by kernel_rfl) ?_; (iterate 2 refine q_g ha rfl (g_move rfl) ?_; clear ha a; intro a ha); obtain ⟨x147, g148, gx149, hF⟩ := idx_some hF
        obtain ⟨p150, cs151, f152, hf153, hpb154, hat155, hr156, hi157⟩ := ha0.at g148 gx149
        obtain ⟨rfl, hI158, rfl⟩ := hr156
        refine q_g ha rfl (hi157.gives sl26 rfl rfl) ?_; clear ha a; intro a ha; refine q_g ha rfl (g_load0 hE71 Tryd.isAgg2 rfl hat155.one) ?_; clear ha a; intro a ha; refine q_g ha rfl (g_move rfl) ?_; clear ha a; intro a ha; obtain ⟨hI159, hF⟩ := ck_some hF; refine q_g ha rfl (g_sub rfl rfl hI159) ?_; clear ha a; intro a ha; obtain ⟨x163, hc164, hF⟩ := cal_some hF; refine q_call (.bool x163) ha rfl rfl Tryd.call42 (fun w162 hx161 => W_spec_l1In hI158 (show InI 0 from by decide) hI159 hc164) (fun _ _ _ h => ⟨h.1, h.2⟩) ?_; clear ha a; intro a ha; refine q_g ha rfl (g_not rfl) ?_; clear ha a; intro a ha
        refine q_g ha rfl (g_move rfl) ?_; clear ha a; intro a ha
        by_cases hp165 : ¬ (x163 = true)
        · replace hF := if_t hp165 hF
          rw [show (!x163) = true from (n_iff (Iff.rfl)).2 hp165] at ha
          (iterate 3 refine q_unwant ha rfl (yields ha rfl rfl) rfl ?_; clear ha a; intro a ha); (iterate 10 refine q_unwant0 ha rfl (yields0 ha rfl rfl) ?_; clear ha a; intro a ha); refine q_unwant ha rfl (yields ha rfl rfl) rfl ?_; clear ha a; intro a ha; refine q_g ha rfl (g_pick rfl rfl) ?_; clear ha a; intro a ha
          refine q_nil ?_; intro w166 hx167
          have hE168 := Ext.trans hE71 hx167
          replace ha := ha.sub (σ' := [(0, va0), (1, (.int .i64 a1)), (5, (.int .i64 i69)), (39, (.bool true))]) ⟨rfl, rfl, rfl, rfl, trivial⟩; refine e_then ?_; refine c_true ha rfl ?_; refine wp_seq ?_; refine wp_region_lit ?_; refine op_g ha rfl (g_assign rfl) ?_; clear ha a; intro a ha; refine wpList_nil ?_; replace ha := ha.sub (σ' := [(4, (.bool false))]) ⟨rfl, trivial⟩; refine e_then ?_; refine wp_ret ?_; refine e_blk_ret ?_; refine e_then_ret ?_; refine e_lq_ret ?_; refine e_then_ret ?_; obtain rfl := Option.some.inj hF
          have e169 := LK_inr hN143; subst e169
          have e170 := BK_inr hK139; subst e170
          exact f_ret1 ha rfl rfl ⟨rfl, hE168⟩
        replace hF := if_f hp165 hF
        rw [show (!x163) = false from b_false (n_iff (Iff.rfl)) hp165] at ha
        refine q_want (yields ha rfl rfl) ?_; refine q_g ha rfl (g_move rfl) ?_; clear ha a; intro a ha; refine q_want (yields ha rfl rfl) ?_; refine q_g ha rfl (g_gtr rfl rfl) ?_; clear ha a; intro a ha; refine q_want (yields ha rfl rfl) ?_; refine q_g ha rfl (g_move rfl) ?_; clear ha a; intro a ha
        by_cases hp171 : 0 < i69
        · replace hF := if_t hp171 hF
          rw [show (decide (0 < i69)) = true from (decide_eq_true_iff).2 hp171] at ha
          refine q_want (yields ha rfl rfl) ?_; refine q_g ha rfl (g_move rfl) ?_; clear ha a; intro a ha; refine q_want (yields ha rfl rfl) ?_; refine q_g ha rfl (g_move rfl) ?_; clear ha a; intro a ha; refine q_want (yields ha rfl rfl) ?_; obtain ⟨x172, g173, gx174, hF⟩ := idx_some hF
          obtain ⟨p175, cs176, f177, hf178, hpb179, hat180, hr181, hi182⟩ := ha0.at g173 gx174
          obtain ⟨rfl, hI183, rfl⟩ := hr181
          refine q_g ha rfl (hi182.gives sl26 rfl rfl) ?_; clear ha a; intro a ha; refine q_want (yields ha rfl rfl) ?_; refine q_g ha rfl (g_load0 hE71 Tryd.isAgg2 rfl hat180.one) ?_; clear ha a; intro a ha; refine q_want (yields ha rfl rfl) ?_; refine q_g ha rfl (g_move rfl) ?_; clear ha a; intro a ha; refine q_want (yields ha rfl rfl) ?_; refine q_g ha rfl (g_move rfl) ?_; clear ha a; intro a ha; refine q_want (yields ha rfl rfl) ?_; obtain ⟨hI184, hF⟩ := ck_some hF; refine q_g ha rfl (g_sub rfl rfl hI184) ?_; clear ha a; intro a ha; refine q_want (yields ha rfl rfl) ?_; obtain ⟨x186, g187, gx188, hF⟩ := idx_some hF
          obtain ⟨p189, cs190, f191, hf192, hpb193, hat194, hr195, hi196⟩ := ha0.at g187 gx188
          obtain ⟨rfl, hI197, rfl⟩ := hr195
          refine q_g ha rfl (hi196.gives sl26 rfl rfl) ?_; clear ha a; intro a ha; refine q_want (yields ha rfl rfl) ?_; refine q_g ha rfl (g_load0 hE71 Tryd.isAgg2 rfl hat194.one) ?_; clear ha a; intro a ha; refine q_want (yields ha rfl rfl) ?_; refine q_g ha rfl (g_leq rfl rfl) ?_; clear ha a; intro a ha; refine q_want (yields ha rfl rfl) ?_; (iterate 2 refine q_g ha rfl (g_pick rfl rfl) ?_; clear ha a; intro a ha)
          refine q_nil ?_; intro w198 hx199
          have hE200 := Ext.trans hE71 hx199
          replace ha := ha.sub (σ' := [(0, va0), (1, (.int .i64 a1)), (5, (.int .i64 i69)), (25, (.int .i64 i69)), (26, (.bool true)), (27, (.bool true)), (28, va0), (29, (.int .i64 i69)), (30, (.pointer (some p175))), (31, (.int .i64 x172)), (32, va0), (33, (.int .i64 i69)), (34, (.int .i64 (i69 - 1))), (35, (.pointer (some p189))), (36, (.int .i64 x186)), (37, (.bool (decide (x172 ≤ x186)))), (38, (.bool (decide (x172 ≤ x186)))), (39, (.bool (decide (x172 ≤ x186))))]) ⟨rfl, rfl, rfl, rfl, rfl, rfl, rfl, rfl, rfl, rfl, rfl, rfl, rfl, rfl, rfl, rfl, rfl, rfl, trivial⟩; refine e_then ?_; refine c_cond (x172 ≤ x186) ha rfl (decide_eq_true_iff) (fun hp201 => ?_) (fun hp201 => ?_)
          · replace hF := if_t hp201 hF
            refine wp_seq ?_; refine wp_region_lit ?_; refine op_g ha rfl (g_assign rfl) ?_; clear ha a; intro a ha; refine wpList_nil ?_; replace ha := ha.sub (σ' := [(4, (.bool false))]) ⟨rfl, trivial⟩; refine e_then ?_; refine wp_ret ?_; refine e_blk_ret ?_; refine e_then_ret ?_; refine e_lq_ret ?_; refine e_then_ret ?_; obtain rfl := Option.some.inj hF
            have e202 := LK_inr hN143; subst e202
            have e203 := BK_inr hK139; subst e203
            exact f_ret1 ha rfl rfl ⟨rfl, hE200⟩
          replace hF := if_f hp201 hF; refine wp_skip ?_; refine e_blk ?_; refine e_then ?_; refine wp_region_lit ?_; refine op_g ha rfl (g_move rfl) ?_; clear ha a; intro a ha; obtain ⟨hI204, hF⟩ := ck_some hF; refine op_g ha rfl (g_add rfl rfl hI204) ?_; clear ha a; intro a ha; refine op_g ha rfl (g_assign rfl) ?_; clear ha a; intro a ha; refine wpList_nil ?_; replace ha := ha.sub (σ' := [(0, va0), (1, (.int .i64 a1)), (5, (.int .i64 (i69 + 1))), (25, (.int .i64 i69)), (26, (.bool true)), (27, (.bool true)), (28, va0), (29, (.int .i64 i69)), (30, (.pointer (some p175))), (31, (.int .i64 x172)), (32, va0), (33, (.int .i64 i69)), (34, (.int .i64 (i69 - 1))), (35, (.pointer (some p189))), (36, (.int .i64 x186)), (37, (.bool (decide (x172 ≤ x186)))), (38, (.bool (decide (x172 ≤ x186))))]) ⟨rfl, rfl, rfl, rfl, rfl, rfl, rfl, rfl, rfl, rfl, rfl, rfl, rfl, rfl, rfl, rfl, rfl, trivial⟩
          refine e_lq ?_; obtain rfl := Option.some.inj hF
          exact ⟨_, Nat.lt_succ_self _, i69 + 1, ha.sub ⟨rfl, rfl, rfl, trivial⟩, hE200, hI204, hN143⟩
        replace hF := if_f hp171 hF
        rw [show (decide (0 < i69)) = false from b_false (decide_eq_true_iff) hp171] at ha
        (iterate 10 refine q_unwant ha rfl (yields ha rfl rfl) rfl ?_; clear ha a; intro a ha); refine q_want (yields ha rfl rfl) ?_; (iterate 2 refine q_g ha rfl (g_pick rfl rfl) ?_; clear ha a; intro a ha)
        refine q_nil ?_; intro w206 hx207
        have hE208 := Ext.trans hE71 hx207
        replace ha := ha.sub (σ' := [(0, va0), (1, (.int .i64 a1)), (5, (.int .i64 i69)), (25, (.int .i64 i69)), (26, (.bool false)), (27, (.bool false)), (38, (.bool false)), (39, (.bool false))]) ⟨rfl, rfl, rfl, rfl, rfl, rfl, rfl, rfl, trivial⟩; refine e_then ?_; refine c_false ha rfl ?_; refine wp_skip ?_; refine e_blk ?_; refine e_then ?_; refine wp_region_lit ?_; refine op_g ha rfl (g_move rfl) ?_; clear ha a; intro a ha; obtain ⟨hI209, hF⟩ := ck_some hF; refine op_g ha rfl (g_add rfl rfl hI209) ?_; clear ha a; intro a ha; refine op_g ha rfl (g_assign rfl) ?_; clear ha a; intro a ha; refine wpList_nil ?_
        replace ha := ha.sub (σ' := [(0, va0), (1, (.int .i64 a1)), (5, (.int .i64 (i69 + 1))), (25, (.int .i64 i69)), (26, (.bool false)), (27, (.bool false)), (38, (.bool false))]) ⟨rfl, rfl, rfl, rfl, rfl, rfl, rfl, trivial⟩; refine e_lq ?_; obtain rfl := Option.some.inj hF
        exact ⟨_, Nat.lt_succ_self _, i69 + 1, ha.sub ⟨rfl, rfl, rfl, trivial⟩, hE208, hI209, hN143⟩
      replace hF := if_f hp146 hF; refine wp_exit ?_; refine e_then_exit ?_; refine e_lq_eq ?_; obtain rfl := Option.some.inj hF
      exact ⟨ha.sub trivial, hE71, (LK_inr hN143).symm⟩
  rintro a w136 ⟨ha, hE142, rfl⟩
  have hF : F_spec_l1Set_k2 = some _ := hK139; clear hK139; unfold F_spec_l1Set_k2 at hF
  refine e_then ?_; refine wp_seq ?_; refine wp_region_lit ?_; refine op_g ha rfl (g_assign rfl) ?_; clear ha a; intro a ha; refine wpList_nil ?_; refine e_then ?_; refine wp_ret ?_; obtain rfl := Option.some.inj hF
  exact f_ret1 ha rfl rfl ⟨rfl, hE142⟩
set_option maxHeartbeats 2000000 in
theorem W_spec_l1Has {W : World} {va0 : Value} {fa0 : List Nat} {a0 : (List Int)} (ha0 : Ro Rp.int W fa0 va0 a0) {a1 : Int} (ha1 : InI a1) {r : Bool} (hF : F_spec_l1Has a0 a1 = some r) :
    Calls Tryd.prog 44 [va0, .int .i64 a1].toArray W (Ret fun u w' => u = .bool r ∧ Ext W w') := by
  refine f_enter Tryd.func44 rfl Tryd.ntmps44 rfl ?_
  intro a ha
  replace ha : Fr 18 [(0, va0), (1, (.int .i64 a1))] a := ha
  have hE : Chg [] W W := Chg.refl _ _
  unfold F_spec_l1Has at hF
  refine wp_seq ?_; refine wp_region_lit ?_; refine op_g ha rfl (g_assign rfl) ?_; clear ha a; intro a ha; refine wpList_nil ?_; replace ha := ha.sub (σ' := [(0, va0), (1, (.int .i64 a1))]) ⟨rfl, rfl, trivial⟩; refine e_then ?_; refine wp_seq ?_; refine wp_seq ?_; refine wp_region_lit ?_; refine op_g ha rfl (g_assign rfl) ?_; clear ha a; intro a ha; refine wpList_nil ?_; refine e_then ?_; obtain ⟨o46, ho47, hK48⟩ := bnd_some hF
  obtain ⟨n49, hn50⟩ := lp_some ho47; clear ho47
  refine c_loop (fun a w => Fr 18 [] a ∧ Chg [] W w ∧ o46 = .inl ()) (fun n a w => ∃ (i23 : Int), Fr 18 [(0, va0), (1, (.int .i64 a1)), (5, (.int .i64 i23))] a ∧ Chg [] W w ∧ InI i23 ∧ lpN (fun s => F_spec_l1Has_l1 a0 a1 s) n i23 = some o46) n49 ⟨0, ha.sub ⟨rfl, rfl, rfl, trivial⟩, hE, (show InI 0 from by decide), hn50⟩ ?_ ?_
  · rintro m54 a w22 ⟨i23, ha, hE25, hI24, hF⟩
    cases m54 with
    | zero => exact (lpN_zero hF).elim
    | succ m54 =>
      obtain ⟨z53, hF, hN52⟩ := lpN_succ hF
      have hF : F_spec_l1Has_l1 a0 a1 i23 = some z53 := hF; unfold F_spec_l1Has_l1 at hF
      refine wp_seq ?_; refine wp_seq ?_; refine wp_region_lit ?_; (iterate 2 refine op_g ha rfl (g_move rfl) ?_; clear ha a; intro a ha); refine op_g ha rfl (g_lenR sl26.und ha0 rfl) ?_; clear ha a; intro a ha; refine op_g ha rfl (g_lss rfl rfl) ?_; clear ha a; intro a ha; refine wpList_nil ?_; replace ha := ha.sub (σ' := [(0, va0), (1, (.int .i64 a1)), (5, (.int .i64 i23)), (9, (.bool (decide (i23 < (a0.length : Int)))))]) ⟨rfl, rfl, rfl, rfl, trivial⟩; refine e_then ?_; refine c_cond (i23 < (a0.length : Int)) ha rfl (decide_eq_true_iff) (fun hp55 => ?_) (fun hp55 => ?_)
      · replace hF := if_t hp55 hF
        refine wp_skip ?_; refine e_then ?_; refine wp_seq ?_; refine wp_block ?_; refine wp_seq ?_; refine wp_region_lit ?_; (iterate 2 refine op_g ha rfl (g_move rfl) ?_; clear ha a; intro a ha); obtain ⟨x56, g57, gx58, hF⟩ := idx_some hF
        obtain ⟨p59, cs60, f61, hf62, hpb63, hat64, hr65, hi66⟩ := ha0.at g57 gx58
        obtain ⟨rfl, hI67, rfl⟩ := hr65
        refine op_g ha rfl (hi66.gives sl26 rfl rfl) ?_; clear ha a; intro a ha; refine op_g ha rfl (g_load0 hE25 Tryd.isAgg2 rfl hat64.one) ?_; clear ha a; intro a ha; refine op_g ha rfl (g_move rfl) ?_; clear ha a; intro a ha; refine op_g ha rfl (g_eql rfl rfl) ?_; clear ha a; intro a ha; refine wpList_nil ?_; replace ha := ha.sub (σ' := [(0, va0), (1, (.int .i64 a1)), (5, (.int .i64 i23)), (17, (.bool (decide (x56 = a1))))]) ⟨rfl, rfl, rfl, rfl, trivial⟩; refine e_then ?_; refine c_cond (x56 = a1) ha rfl (decide_eq_true_iff) (fun hp68 => ?_) (fun hp68 => ?_)
        · replace hF := if_t hp68 hF
          refine wp_seq ?_; refine wp_region_lit ?_; refine op_g ha rfl (g_assign rfl) ?_; clear ha a; intro a ha; refine wpList_nil ?_; replace ha := ha.sub (σ' := [(4, (.bool true))]) ⟨rfl, trivial⟩; refine e_then ?_; refine wp_ret ?_; refine e_blk_ret ?_; refine e_then_ret ?_; refine e_lq_ret ?_; refine e_then_ret ?_; obtain rfl := Option.some.inj hF
          have e69 := LK_inr hN52; subst e69
          have e70 := BK_inr hK48; subst e70
          exact f_ret1 ha rfl rfl ⟨rfl, hE25⟩
        replace hF := if_f hp68 hF; refine wp_skip ?_; refine e_blk ?_; refine e_then ?_; refine wp_region_lit ?_; refine op_g ha rfl (g_move rfl) ?_; clear ha a; intro a ha; obtain ⟨hI71, hF⟩ := ck_some hF; refine op_g ha rfl (g_add rfl rfl hI71) ?_; clear ha a; intro a ha; refine op_g ha rfl (g_assign rfl) ?_; clear ha a; intro a ha; refine wpList_nil ?_; replace ha := ha.sub (σ' := [(0, va0), (1, (.int .i64 a1)), (5, (.int .i64 (i23 + 1)))]) ⟨rfl, rfl, rfl, trivial⟩; refine e_lq ?_; obtain rfl := Option.some.inj hF
        exact ⟨_, Nat.lt_succ_self _, i23 + 1, ha.sub ⟨rfl, rfl, rfl, trivial⟩, hE25, hI71, hN52⟩
      replace hF := if_f hp55 hF; refine wp_exit ?_; refine e_then_exit ?_; refine e_lq_eq ?_; obtain rfl := Option.some.inj hF
      exact ⟨ha.sub trivial, hE25, (LK_inr hN52).symm⟩
  rintro a w45 ⟨ha, hE51, rfl⟩
  have hF : F_spec_l1Has_k2 = some _ := hK48; clear hK48; unfold F_spec_l1Has_k2 at hF
  refine e_then ?_; refine wp_seq ?_; refine wp_region_lit ?_; refine op_g ha rfl (g_assign rfl) ?_; clear ha a; intro a ha; refine wpList_nil ?_; refine e_then ?_; refine wp_ret ?_; obtain rfl := Option.some.inj hF
  exact f_ret1 ha rfl rfl ⟨rfl, hE51⟩
set_option maxHeartbeats 2000000 in
theorem W_spec_GraphOk {W : World} {va0_0 : Value} {fa0_0 : List Nat} {a0_0 : (List (List Int))} (ha0_0 : Ro (Rp.sl 2 Rp.int) W fa0_0 va0_0 a0_0) {r : Bool} (hF : F_spec_GraphOk a0_0 = some r) :
    Calls Tryd.prog 20 [.agg #[va0_0]].toArray W (Ret fun u w' => u = .bool r ∧ Ext W w') := by
  refine f_enter Tryd.func20 rfl Tryd.ntmps20 rfl ?_
  intro a ha
  replace ha : Fr 64 [(0, (.agg #[va0_0]))] a := ha
  have hE : Chg [] W W := Chg.refl _ _
  unfold F_spec_GraphOk at hF
  refine wp_seq ?_; refine wp_region_lit ?_
  refine o_box ha rfl rfl rfl ?_; clear ha a; intro b1 w2 hB3 hx4 hlo5 a ha
  have q6 := Zn.one hlo5
  have q7 := Zn.upD q6 hE
  have hE8 := Ext.trans hE hx4
  refine op_g ha rfl (g_assign rfl) ?_; clear ha a; intro a ha; refine wpList_nil ?_; replace ha := ha.sub (σ' := [(1, (.pointer (some ⟨b1, 0, none⟩)))]) ⟨rfl, trivial⟩; refine e_then ?_; refine wp_seq ?_; refine wp_region_lit ?_; refine op_g ha rfl (g_loadA (cs := [va0_0]) Tryd.isAgg29 Tryd.sizeOf29 rfl (by simp) hB3.all) ?_; clear ha a; intro a ha; obtain ⟨x9, hc10, hF⟩ := cal_some hF
  refine o_call ha rfl rfl Tryd.call23 (W_spec_l1Size (ha0_0.ext hE8) hc10) ?_; clear ha a; rintro v11 w12 ⟨⟨rfl, hI14⟩, hx13⟩ a ha
  replace hB3 := hB3.ext hx13
  have hE15 := Ext.trans hE8 hx13
  refine op_g ha rfl (g_assign rfl) ?_; clear ha a; intro a ha; refine wpList_nil ?_; replace ha := ha.sub (σ' := [(1, (.pointer (some ⟨b1, 0, none⟩))), (3, (.int .i64 x9))]) ⟨rfl, rfl, trivial⟩; refine e_then ?_; refine wp_seq ?_; refine wp_seq ?_; refine wp_region_lit ?_; refine op_g ha rfl (g_move rfl) ?_; clear ha a; intro a ha; obtain ⟨x16, hc17, hF⟩ := cal_some hF
  refine o_call ha rfl rfl Tryd.call42 (W_spec_l1In hI14 (show InI 1 from by decide) (show InI 16 from by decide) hc17) ?_; clear ha a; rintro v18 w19 ⟨rfl, hx20⟩ a ha
  replace hB3 := hB3.ext hx20
  have hE21 := Ext.trans hE15 hx20
  refine op_g ha rfl (g_not rfl) ?_; clear ha a; intro a ha; refine wpList_nil ?_; replace ha := ha.sub (σ' := [(1, (.pointer (some ⟨b1, 0, none⟩))), (3, (.int .i64 x9)), (11, (.bool (!x16)))]) ⟨rfl, rfl, rfl, trivial⟩; refine e_then ?_; refine c_cond (¬ (x16 = true)) ha rfl (n_iff (Iff.rfl)) (fun hp22 => ?_) (fun hp22 => ?_)
  · replace hF := if_t hp22 hF
    refine wp_seq ?_; refine wp_region_lit ?_; refine op_g ha rfl (g_assign rfl) ?_; clear ha a; intro a ha; refine wpList_nil ?_; replace ha := ha.sub (σ' := [(2, (.bool false))]) ⟨rfl, trivial⟩; refine e_then ?_; refine wp_ret ?_; refine e_then_ret ?_; obtain rfl := Option.some.inj hF
    exact f_ret1 ha rfl rfl ⟨rfl, hE21⟩
  replace hF := if_f hp22 hF; refine wp_skip ?_; refine e_then ?_; refine wp_seq ?_; refine wp_seq ?_; refine wp_region_lit ?_; refine op_g ha rfl (g_assign rfl) ?_; clear ha a; intro a ha; refine wpList_nil ?_; replace ha := ha.sub (σ' := [(1, (.pointer (some ⟨b1, 0, none⟩))), (3, (.int .i64 x9)), (4, (.int .i64 0))]) ⟨rfl, rfl, rfl, trivial⟩; refine e_then ?_; obtain ⟨o136, ho137, hK138⟩ := bnd_some hF
  obtain ⟨n139, hn140⟩ := lp_some ho137; clear ho137
  refine c_loop (fun a w => Fr 64 [(1, (.pointer (some ⟨b1, 0, none⟩))), (3, (.int .i64 x9))] a ∧ Chg [] W w ∧ Bx w b1 [va0_0] 29 ∧ Zn W (b1 : Int) ∧ o136 = .inl ()) (fun n a w => ∃ (i80 : Int), Fr 64 [(1, (.pointer (some ⟨b1, 0, none⟩))), (3, (.int .i64 x9)), (4, (.int .i64 i80))] a ∧ Chg [] W w ∧ InI i80 ∧ Bx w b1 [va0_0] 29 ∧ Zn W (b1 : Int) ∧ lpN (fun s => F_spec_GraphOk_l1 a0_0 x9 s) n i80 = some o136) n139 ⟨0, ha.sub ⟨rfl, rfl, rfl, trivial⟩, hE21, (show InI 0 from by decide), hB3, q7, hn140⟩ ?_ ?_
  · rintro m144 a w77 ⟨i80, ha, hE82, hI81, hB78, z79, hF⟩
    cases m144 with
    | zero => exact (lpN_zero hF).elim
    | succ m144 =>
      obtain ⟨z143, hF, hN142⟩ := lpN_succ hF
      have hF : F_spec_GraphOk_l1 a0_0 x9 i80 = some z143 := hF; unfold F_spec_GraphOk_l1 at hF
      refine wp_seq ?_; refine wp_seq ?_; refine wp_region_lit ?_; (iterate 2 refine op_g ha rfl (g_move rfl) ?_; clear ha a; intro a ha); refine op_g ha rfl (g_lss rfl rfl) ?_; clear ha a; intro a ha; refine wpList_nil ?_; replace ha := ha.sub (σ' := [(1, (.pointer (some ⟨b1, 0, none⟩))), (3, (.int .i64 x9)), (4, (.int .i64 i80)), (14, (.bool (decide (i80 < x9))))]) ⟨rfl, rfl, rfl, rfl, trivial⟩; refine e_then ?_; refine c_cond (i80 < x9) ha rfl (decide_eq_true_iff) (fun hp145 => ?_) (fun hp145 => ?_)
      · replace hF := if_t hp145 hF
        refine wp_skip ?_; refine e_then ?_; refine wp_seq ?_; refine wp_block ?_; refine wp_seq ?_; refine wp_region_lit ?_; refine op_g ha rfl (g_field0 st29_0 rfl) ?_; clear ha a; intro a ha; refine op_g ha rfl (g_load Tryd.isAgg22 rfl (hB78.cell rfl)) ?_; clear ha a; intro a ha; refine op_g ha rfl (g_move rfl) ?_; clear ha a; intro a ha; obtain ⟨x146, g147, gx148, hF⟩ := idx_some hF
        obtain ⟨p149, cs150, f151, hf152, hpb153, hat154, hr155, hi156⟩ := ha0_0.at g147 gx148
        obtain ⟨v157, rfl, h158⟩ := hr155
        have h158 : Ro Rp.int W f151 v157 x146 := h158
        refine op_g ha rfl (hi156.gives sl22 rfl rfl) ?_; clear ha a; intro a ha; refine op_g ha rfl (g_load0 hE82 Tryd.isAgg26 rfl hat154.one) ?_; clear ha a; intro a ha; refine op_g ha rfl (g_move rfl) ?_; clear ha a; intro a ha; obtain ⟨x160, hc161, hF⟩ := cal_some hF
        refine o_call ha rfl rfl Tryd.call43 (W_spec_l1Set (h158.ext hE82) hI14 hc161) ?_; clear ha a; rintro v162 w163 ⟨rfl, hx164⟩ a ha
        replace hB78 := hB78.ext hx164
        have hE165 := Ext.trans hE82 hx164
        refine op_g ha rfl (g_not rfl) ?_; clear ha a; intro a ha; refine op_g ha rfl (g_move rfl) ?_; clear ha a; intro a ha
        by_cases hp166 : ¬ (x160 = true)
        · replace hF := if_t hp166 hF
          rw [show (!x160) = true from (n_iff (Iff.rfl)).2 hp166] at ha
          (iterate 7 refine op_unwant ha rfl (yields ha rfl rfl) rfl ?_; clear ha a; intro a ha); refine op_g ha rfl (g_pick rfl rfl) ?_; clear ha a; intro a ha; refine wpList_nil ?_; replace ha := ha.sub (σ' := [(1, (.pointer (some ⟨b1, 0, none⟩))), (3, (.int .i64 x9)), (4, (.int .i64 i80)), (33, (.bool true))]) ⟨rfl, rfl, rfl, rfl, trivial⟩; refine e_then ?_; refine c_true ha rfl ?_; refine wp_seq ?_; refine wp_region_lit ?_; refine op_g ha rfl (g_assign rfl) ?_; clear ha a; intro a ha; refine wpList_nil ?_; replace ha := ha.sub (σ' := [(2, (.bool false))]) ⟨rfl, trivial⟩; refine e_then ?_; refine wp_ret ?_
          refine e_blk_ret ?_; refine e_then_ret ?_; refine e_lq_ret ?_; refine e_then_ret ?_; obtain rfl := Option.some.inj hF
          have e167 := LK_inr hN142; subst e167
          have e168 := BK_inr hK138; subst e168
          exact f_ret1 ha rfl rfl ⟨rfl, hE165⟩
        replace hF := if_f hp166 hF
        rw [show (!x160) = false from b_false (n_iff (Iff.rfl)) hp166] at ha
        refine op_want (yields ha rfl rfl) ?_; refine op_g ha rfl (g_field0 st29_0 rfl) ?_; clear ha a; intro a ha; refine op_want (yields ha rfl rfl) ?_; refine op_g ha rfl (g_load Tryd.isAgg22 rfl (hB78.cell rfl)) ?_; clear ha a; intro a ha; refine op_want (yields ha rfl rfl) ?_; refine op_g ha rfl (g_move rfl) ?_; clear ha a; intro a ha; refine op_want (yields ha rfl rfl) ?_; obtain ⟨x169, g170, gx171, hF⟩ := idx_some hF
        obtain ⟨p172, cs173, f174, hf175, hpb176, hat177, hr178, hi179⟩ := ha0_0.at g170 gx171
        obtain ⟨v180, rfl, h181⟩ := hr178
        have h181 : Ro Rp.int W f174 v180 x169 := h181
        refine op_g ha rfl (hi179.gives sl22 rfl rfl) ?_; clear ha a; intro a ha; refine op_want (yields ha rfl rfl) ?_; refine op_g ha rfl (g_load0 hE165 Tryd.isAgg26 rfl hat177.one) ?_; clear ha a; intro a ha; refine op_want (yields ha rfl rfl) ?_; refine op_g ha rfl (g_move rfl) ?_; clear ha a; intro a ha; refine op_want (yields ha rfl rfl) ?_; obtain ⟨x183, hc184, hF⟩ := cal_some hF
        refine o_call ha rfl rfl Tryd.call44 (W_spec_l1Has (h181.ext hE165) hI81 hc184) ?_; clear ha a; rintro v185 w186 ⟨rfl, hx187⟩ a ha
        replace hB78 := hB78.ext hx187
        have hE188 := Ext.trans hE165 hx187
        refine op_g ha rfl (g_pick rfl rfl) ?_; clear ha a; intro a ha; refine wpList_nil ?_; replace ha := ha.sub (σ' := [(1, (.pointer (some ⟨b1, 0, none⟩))), (3, (.int .i64 x9)), (4, (.int .i64 i80)), (26, (.pointer (some ⟨b1, 0, none⟩))), (27, va0_0), (28, (.int .i64 i80)), (29, (.pointer (some p172))), (30, v180), (31, (.int .i64 i80)), (32, (.bool x183)), (33, (.bool x183))]) ⟨rfl, rfl, rfl, rfl, rfl, rfl, rfl, rfl, rfl, rfl, rfl, trivial⟩; refine e_then ?_; refine c_cond (x183 = true) ha rfl (Iff.rfl) (fun hp189 => ?_) (fun hp189 => ?_)
        · replace hF := if_t hp189 hF
          refine wp_seq ?_; refine wp_region_lit ?_; refine op_g ha rfl (g_assign rfl) ?_; clear ha a; intro a ha; refine wpList_nil ?_; replace ha := ha.sub (σ' := [(2, (.bool false))]) ⟨rfl, trivial⟩; refine e_then ?_; refine wp_ret ?_; refine e_blk_ret ?_; refine e_then_ret ?_; refine e_lq_ret ?_; refine e_then_ret ?_; obtain rfl := Option.some.inj hF
          have e190 := LK_inr hN142; subst e190
          have e191 := BK_inr hK138; subst e191
          exact f_ret1 ha rfl rfl ⟨rfl, hE188⟩
        replace hF := if_f hp189 hF; refine wp_skip ?_; refine e_blk ?_; refine e_then ?_; refine wp_region_lit ?_; refine op_g ha rfl (g_move rfl) ?_; clear ha a; intro a ha; obtain ⟨hI192, hF⟩ := ck_some hF; refine op_g ha rfl (g_add rfl rfl hI192) ?_; clear ha a; intro a ha; refine op_g ha rfl (g_assign rfl) ?_; clear ha a; intro a ha; refine wpList_nil ?_; replace ha := ha.sub (σ' := [(1, (.pointer (some ⟨b1, 0, none⟩))), (3, (.int .i64 x9)), (4, (.int .i64 (i80 + 1))), (26, (.pointer (some ⟨b1, 0, none⟩))), (27, va0_0), (28, (.int .i64 i80)), (29, (.pointer (some p172))), (30, v180), (31, (.int .i64 i80)), (32, (.bool x183))]) ⟨rfl, rfl, rfl, rfl, rfl, rfl, rfl, rfl, rfl, rfl, trivial⟩
        refine e_lq ?_; obtain rfl := Option.some.inj hF
        exact ⟨_, Nat.lt_succ_self _, i80 + 1, ha.sub ⟨rfl, rfl, rfl, trivial⟩, hE188, hI192, hB78, z79, hN142⟩
      replace hF := if_f hp145 hF; refine wp_exit ?_; refine e_then_exit ?_; refine e_lq_eq ?_; obtain rfl := Option.some.inj hF
      exact ⟨ha.sub ⟨rfl, rfl, trivial⟩, hE82, hB78, z79, (LK_inr hN142).symm⟩
  rintro a w133 ⟨ha, hE141, hB134, z135, rfl⟩
  have hF : F_spec_GraphOk_k2 a0_0 x9 = some _ := hK138; clear hK138; unfold F_spec_GraphOk_k2 at hF
  refine e_then ?_; refine wp_seq ?_; refine wp_seq ?_; refine wp_region_lit ?_; refine op_g ha rfl (g_assign rfl) ?_; clear ha a; intro a ha; refine wpList_nil ?_; refine e_then ?_; obtain ⟨o675, ho676, hK677⟩ := bnd_some hF
  obtain ⟨n678, hn679⟩ := lp_some ho676; clear ho676
  refine c_loop (fun a w => Fr 64 [] a ∧ Chg [] W w ∧ o675 = .inl ()) (fun n a w => ∃ (i436 : Int), Fr 64 [(1, (.pointer (some ⟨b1, 0, none⟩))), (3, (.int .i64 x9)), (5, (.int .i64 i436))] a ∧ Chg [] W w ∧ InI i436 ∧ Bx w b1 [va0_0] 29 ∧ Zn W (b1 : Int) ∧ lpN (fun s => F_spec_GraphOk_l3 a0_0 x9 s) n i436 = some o675) n678 ⟨0, ha.sub ⟨rfl, rfl, rfl, trivial⟩, hE141, (show InI 0 from by decide), hB134, z135, hn679⟩ ?_ ?_
  · rintro m683 a w433 ⟨i436, ha, hE438, hI437, hB434, z435, hF⟩
    cases m683 with
    | zero => exact (lpN_zero hF).elim
    | succ m683 =>
      obtain ⟨z682, hF, hN681⟩ := lpN_succ hF
      have hF : F_spec_GraphOk_l3 a0_0 x9 i436 = some z682 := hF; unfold F_spec_GraphOk_l3 at hF
      refine wp_seq ?_; refine wp_seq ?_; refine wp_region_lit ?_; (iterate 2 refine op_g ha rfl (g_move rfl) ?_; clear ha a; intro a ha); refine op_g ha rfl (g_lss rfl rfl) ?_; clear ha a; intro a ha; refine wpList_nil ?_; replace ha := ha.sub (σ' := [(1, (.pointer (some ⟨b1, 0, none⟩))), (3, (.int .i64 x9)), (5, (.int .i64 i436)), (36, (.bool (decide (i436 < x9))))]) ⟨rfl, rfl, rfl, rfl, trivial⟩; refine e_then ?_; refine c_cond (i436 < x9) ha rfl (decide_eq_true_iff) (fun hp684 => ?_) (fun hp684 => ?_)
      · replace hF := if_t hp684 hF
        refine wp_skip ?_; refine e_then ?_; refine wp_seq ?_; refine wp_block ?_; refine wp_seq ?_; refine wp_region_lit ?_; refine op_g ha rfl (g_assign rfl) ?_; clear ha a; intro a ha; refine wpList_nil ?_; replace ha := ha.sub (σ' := [(1, (.pointer (some ⟨b1, 0, none⟩))), (3, (.int .i64 x9)), (5, (.int .i64 i436)), (6, (.int .i64 0))]) ⟨rfl, rfl, rfl, rfl, trivial⟩; refine e_then ?_; obtain ⟨o838, ho839, hK840⟩ := bnd_some hF
        obtain ⟨n841, hn842⟩ := lp_some ho839; clear ho839
        refine c_loop (fun a w => Fr 64 [(1, (.pointer (some ⟨b1, 0, none⟩))), (3, (.int .i64 x9)), (5, (.int .i64 i436))] a ∧ Chg [] W w ∧ Bx w b1 [va0_0] 29 ∧ Zn W (b1 : Int) ∧ o838 = .inl ()) (fun n a w => ∃ (i762 : Int), Fr 64 [(1, (.pointer (some ⟨b1, 0, none⟩))), (3, (.int .i64 x9)), (5, (.int .i64 i436)), (6, (.int .i64 i762))] a ∧ Chg [] W w ∧ InI i762 ∧ Bx w b1 [va0_0] 29 ∧ Zn W (b1 : Int) ∧ lpN (fun s => F_spec_GraphOk_l4 a0_0 i436 s) n i762 = some o838) n841 ⟨0, ha.sub ⟨rfl, rfl, rfl, rfl, trivial⟩, hE438, (show InI 0 from by decide), hB434, z435, hn842⟩ ?_ ?_
        · rintro m846 a w759 ⟨i762, ha, hE764, hI763, hB760, z761, hF⟩
          cases m846 with
          | zero => exact (lpN_zero hF).elim
          | succ m846 =>
            obtain ⟨z845, hF, hN844⟩ := lpN_succ hF
            have hF : F_spec_GraphOk_l4 a0_0 i436 i762 = some z845 := hF; unfold F_spec_GraphOk_l4 at hF
            refine wp_seq ?_; refine wp_seq ?_; refine wp_region_lit ?_; refine op_g ha rfl (g_move rfl) ?_; clear ha a; intro a ha; refine op_g ha rfl (g_field0 st29_0 rfl) ?_; clear ha a; intro a ha; refine op_g ha rfl (g_load Tryd.isAgg22 rfl (hB760.cell rfl)) ?_; clear ha a; intro a ha; refine op_g ha rfl (g_move rfl) ?_; clear ha a; intro a ha; obtain ⟨x847, g848, gx849, hF⟩ := idx_some hF
            obtain ⟨p850, cs851, f852, hf853, hpb854, hat855, hr856, hi857⟩ := ha0_0.at g848 gx849
            obtain ⟨v858, rfl, h859⟩ := hr856
            have h859 : Ro Rp.int W f852 v858 x847 := h859
            refine op_g ha rfl (hi857.gives sl22 rfl rfl) ?_; clear ha a; intro a ha; refine op_g ha rfl (g_load0 hE764 Tryd.isAgg26 rfl hat855.one) ?_; clear ha a; intro a ha; refine op_g ha rfl (g_lenR sl26.und h859 rfl) ?_; clear ha a; intro a ha; refine op_g ha rfl (g_lss rfl rfl) ?_; clear ha a; intro a ha; refine wpList_nil ?_; replace ha := ha.sub (σ' := [(1, (.pointer (some ⟨b1, 0, none⟩))), (3, (.int .i64 x9)), (5, (.int .i64 i436)), (6, (.int .i64 i762)), (46, (.bool (decide (i762 < (x847.length : Int)))))]) ⟨rfl, rfl, rfl, rfl, rfl, trivial⟩; refine e_then ?_; refine c_cond (i762 < (x847.length : Int)) ha rfl (decide_eq_true_iff) (fun hp861 => ?_) (fun hp861 => ?_)
            · replace hF := if_t hp861 hF
              refine wp_skip ?_; refine e_then ?_; refine wp_seq ?_; refine wp_block ?_; refine wp_seq ?_; refine d_quiet hmix (by kernel_rfl) ?_; refine q_g ha rfl (g_field0 st29_0 rfl) ?_; clear ha a; intro a ha; refine q_g ha rfl (g_load Tryd.isAgg22 rfl (hB760.cell rfl)) ?_; clear ha a; intro a ha; refine q_g ha rfl (g_field0 st29_0 rfl) ?_; clear ha a; intro a ha; refine q_g ha rfl (g_load Tryd.isAgg22 rfl (hB760.cell rfl)) ?_; clear ha a; intro a ha; refine q_g ha rfl (g_move rfl) ?_; clear ha a; intro a ha; obtain ⟨x862, g863, gx864, hF⟩ := idx_some hF
              obtain ⟨p865, cs866, f867, hf868, hpb869, hat870, hr871, hi872⟩ := ha0_0.at g863 gx864
              obtain ⟨v873, rfl, h874⟩ := hr871
              have h874 : Ro Rp.int W f867 v873 x862 := h874
              refine q_g ha rfl (hi872.gives sl22 rfl rfl) ?_; clear ha a; intro a ha; refine q_g ha rfl (g_load0 hE764 Tryd.isAgg26 rfl hat870.one) ?_; clear ha a; intro a ha; refine q_g ha rfl (g_move rfl) ?_; clear ha a; intro a ha; obtain ⟨x876, g877, gx878, hF⟩ := idx_some hF
              obtain ⟨p879, cs880, f881, hf882, hpb883, hat884, hr885, hi886⟩ := h874.at g877 gx878
              obtain ⟨rfl, hI887, rfl⟩ := hr885
              refine q_g ha rfl (hi886.gives sl26 rfl rfl) ?_; clear ha a; intro a ha; refine q_g ha rfl (g_load0 hE764 Tryd.isAgg2 rfl hat884.one) ?_; clear ha a; intro a ha; obtain ⟨x888, g889, gx890, hF⟩ := idx_some hF
              obtain ⟨p891, cs892, f893, hf894, hpb895, hat896, hr897, hi898⟩ := ha0_0.at g889 gx890
              obtain ⟨v899, rfl, h900⟩ := hr897
              have h900 : Ro Rp.int W f893 v899 x888 := h900
              refine q_g ha rfl (hi898.gives sl22 rfl rfl) ?_; clear ha a; intro a ha; refine q_g ha rfl (g_load0 hE764 Tryd.isAgg26 rfl hat896.one) ?_; clear ha a; intro a ha; refine q_g ha rfl (g_move rfl) ?_; clear ha a; intro a ha; obtain ⟨x904, hc905, hF⟩ := cal_some hF; refine q_call (.bool x904) ha rfl rfl Tryd.call44 (fun w903 hx902 => W_spec_l1Has (h900.ext (Ext.trans hE764 hx902)) hI437 hc905) (fun _ _ _ h => ⟨h.1, h.2⟩) ?_; clear ha a; intro a ha; refine q_g ha rfl (g_not rfl) ?_; clear ha a; intro a ha
              refine q_nil ?_; intro w906 hx907
              replace hB760 := hB760.ext hx907
              have hE908 := Ext.trans hE764 hx907
              replace ha := ha.sub (σ' := [(1, (.pointer (some ⟨b1, 0, none⟩))), (3, (.int .i64 x9)), (5, (.int .i64 i436)), (6, (.int .i64 i762)), (63, (.bool (!x904)))]) ⟨rfl, rfl, rfl, rfl, rfl, trivial⟩; refine e_then ?_; refine c_cond (¬ (x904 = true)) ha rfl (n_iff (Iff.rfl)) (fun hp909 => ?_) (fun hp909 => ?_)
              · replace hF := if_t hp909 hF
                refine wp_seq ?_; refine wp_region_lit ?_; refine op_g ha rfl (g_assign rfl) ?_; clear ha a; intro a ha; refine wpList_nil ?_; replace ha := ha.sub (σ' := [(2, (.bool false))]) ⟨rfl, trivial⟩; refine e_then ?_; refine wp_ret ?_; refine e_blk_ret ?_; refine e_then_ret ?_; refine e_lq_ret ?_; refine e_blk_ret ?_; refine e_then_ret ?_; refine e_lq_ret ?_; refine e_then_ret ?_; obtain rfl := Option.some.inj hF
                have e910 := LK_inr hN844; subst e910
                have e911 := BK_inr hK840; subst e911
                have e912 := LK_inr hN681; subst e912
                have e913 := BK_inr hK677; subst e913
                exact f_ret1 ha rfl rfl ⟨rfl, hE908⟩
              replace hF := if_f hp909 hF; refine wp_skip ?_; refine e_blk ?_; refine e_then ?_; refine wp_region_lit ?_; refine op_g ha rfl (g_move rfl) ?_; clear ha a; intro a ha; obtain ⟨hI914, hF⟩ := ck_some hF; refine op_g ha rfl (g_add rfl rfl hI914) ?_; clear ha a; intro a ha; refine op_g ha rfl (g_assign rfl) ?_; clear ha a; intro a ha; refine wpList_nil ?_; replace ha := ha.sub (σ' := [(1, (.pointer (some ⟨b1, 0, none⟩))), (3, (.int .i64 x9)), (5, (.int .i64 i436)), (6, (.int .i64 (i762 + 1)))]) ⟨rfl, rfl, rfl, rfl, trivial⟩; refine e_lq ?_; obtain rfl := Option.some.inj hF
              exact ⟨_, Nat.lt_succ_self _, i762 + 1, ha.sub ⟨rfl, rfl, rfl, rfl, trivial⟩, hE908, hI914, hB760, z761, hN844⟩
            replace hF := if_f hp861 hF; refine wp_exit ?_; refine e_then_exit ?_; refine e_lq_eq ?_; obtain rfl := Option.some.inj hF
            exact ⟨ha.sub ⟨rfl, rfl, rfl, trivial⟩, hE764, hB760, z761, (LK_inr hN844).symm⟩
        rintro a w835 ⟨ha, hE843, hB836, z837, rfl⟩
        have hF : F_spec_GraphOk_k5 i436 = some _ := hK840; clear hK840; unfold F_spec_GraphOk_k5 at hF
        refine e_blk ?_; refine e_then ?_; refine wp_region_lit ?_; refine op_g ha rfl (g_move rfl) ?_; clear ha a; intro a ha; obtain ⟨hI916, hF⟩ := ck_some hF; refine op_g ha rfl (g_add rfl rfl hI916) ?_; clear ha a; intro a ha; refine op_g ha rfl (g_assign rfl) ?_; clear ha a; intro a ha; refine wpList_nil ?_; replace ha := ha.sub (σ' := [(1, (.pointer (some ⟨b1, 0, none⟩))), (3, (.int .i64 x9)), (5, (.int .i64 (i436 + 1)))]) ⟨rfl, rfl, rfl, trivial⟩; refine e_lq ?_; obtain rfl := Option.some.inj hF
        exact ⟨_, Nat.lt_succ_self _, i436 + 1, ha.sub ⟨rfl, rfl, rfl, trivial⟩, hE843, hI916, hB836, z837, hN681⟩
      replace hF := if_f hp684 hF; refine wp_exit ?_; refine e_then_exit ?_; refine e_lq_eq ?_; obtain rfl := Option.some.inj hF
      exact ⟨ha.sub trivial, hE438, (LK_inr hN681).symm⟩
  rintro a w674 ⟨ha, hE680, rfl⟩
  have hF : F_spec_GraphOk_k6 = some _ := hK677; clear hK677; unfold F_spec_GraphOk_k6 at hF
  refine e_then ?_; refine wp_seq ?_; refine wp_region_lit ?_; refine op_g ha rfl (g_assign rfl) ?_; clear ha a; intro a ha; refine wpList_nil ?_; refine e_then ?_; refine wp_ret ?_; obtain rfl := Option.some.inj hF
  exact f_ret1 ha rfl rfl ⟨rfl, hE680⟩
set_option maxHeartbeats 2000000 in
theorem W_spec_l1There {W : World} {va0_0 : Value} {fa0_0 : List Nat} {a0_0 : (List (List Int))} (ha0_0 : Ro (Rp.sl 2 Rp.int) W fa0_0 va0_0 a0_0) {a1 : Int} (ha1 : InI a1) {r : Bool} (hF : F_spec_l1There a0_0 a1 = some r) :
    Calls Tryd.prog 63 [.agg #[va0_0], .int .i64 a1].toArray W (Ret fun u w' => u = .bool r ∧ Ext W w') := by
  refine f_enter Tryd.func63 rfl Tryd.ntmps63 rfl ?_
  intro a ha
  replace ha : Fr 10 [(0, (.agg #[va0_0])), (1, (.int .i64 a1))] a := ha
  have hE : Chg [] W W := Chg.refl _ _
  unfold F_spec_l1There at hF
  refine wp_seq ?_; refine wp_region_lit ?_
  refine o_box ha rfl rfl rfl ?_; clear ha a; intro b1 w2 hB3 hx4 hlo5 a ha
  have q6 := Zn.one hlo5
  have q7 := Zn.upD q6 hE
  have hE8 := Ext.trans hE hx4
  refine op_g ha rfl (g_assign rfl) ?_; clear ha a; intro a ha; refine wpList_nil ?_; replace ha := ha.sub (σ' := [(1, (.int .i64 a1)), (2, (.pointer (some ⟨b1, 0, none⟩)))]) ⟨rfl, rfl, trivial⟩; refine e_then ?_; refine wp_seq ?_; refine wp_region_lit ?_; refine op_g ha rfl (g_move rfl) ?_; clear ha a; intro a ha; refine op_g ha rfl (g_loadA (cs := [va0_0]) Tryd.isAgg29 Tryd.sizeOf29 rfl (by simp) hB3.all) ?_; clear ha a; intro a ha; obtain ⟨x9, hc10, hF⟩ := cal_some hF
  refine o_call ha rfl rfl Tryd.call23 (W_spec_l1Size (ha0_0.ext hE8) hc10) ?_; clear ha a; rintro v11 w12 ⟨⟨rfl, hI14⟩, hx13⟩ a ha
  replace hB3 := hB3.ext hx13
  have hE15 := Ext.trans hE8 hx13
  obtain ⟨hI16, hF⟩ := ck_some hF; refine op_g ha rfl (g_sub rfl rfl hI16) ?_; clear ha a; intro a ha; obtain ⟨x18, hc19, hF⟩ := cal_some hF
  refine o_call ha rfl rfl Tryd.call42 (W_spec_l1In ha1 (show InI 0 from by decide) hI16 hc19) ?_; clear ha a; rintro v20 w21 ⟨rfl, hx22⟩ a ha
  replace hB3 := hB3.ext hx22
  have hE23 := Ext.trans hE15 hx22
  refine op_g ha rfl (g_assign rfl) ?_; clear ha a; intro a ha; refine wpList_nil ?_; replace ha := ha.sub (σ' := [(4, (.bool x18))]) ⟨rfl, trivial⟩; refine e_then ?_; refine wp_ret ?_; obtain rfl := Option.some.inj hF
  exact f_ret1 ha rfl rfl ⟨rfl, hE23⟩
set_option maxHeartbeats 2000000 in
theorem W_spec_l1Edge {W : World} {va0_0 : Value} {fa0_0 : List Nat} {a0_0 : (List (List Int))} (ha0_0 : Ro (Rp.sl 2 Rp.int) W fa0_0 va0_0 a0_0) {a1 : Int} (ha1 : InI a1) {a2 : Int} (ha2 : InI a2) {r : Bool} (hF : F_spec_l1Edge a0_0 a1 a2 = some r) :
    Calls Tryd.prog 64 [.agg #[va0_0], .int .i64 a1, .int .i64 a2].toArray W (Ret fun u w' => u = .bool r ∧ Ext W w') := by
  refine f_enter Tryd.func64 rfl Tryd.ntmps64 rfl ?_
  intro a ha
  replace ha : Fr 14 [(0, (.agg #[va0_0])), (1, (.int .i64 a1)), (2, (.int .i64 a2))] a := ha
  have hE : Chg [] W W := Chg.refl _ _
  unfold F_spec_l1Edge at hF
  refine wp_seq ?_; refine wp_region_lit ?_
  refine o_box ha rfl rfl rfl ?_; clear ha a; intro b1 w2 hB3 hx4 hlo5 a ha
  have q6 := Zn.one hlo5
  have q7 := Zn.upD q6 hE
  have hE8 := Ext.trans hE hx4
  refine op_g ha rfl (g_assign rfl) ?_; clear ha a; intro a ha; refine wpList_nil ?_; replace ha := ha.sub (σ' := [(1, (.int .i64 a1)), (2, (.int .i64 a2)), (3, (.pointer (some ⟨b1, 0, none⟩)))]) ⟨rfl, rfl, rfl, trivial⟩; refine e_then ?_; refine wp_seq ?_; refine wp_region_lit ?_; refine op_g ha rfl (g_field0 st29_0 rfl) ?_; clear ha a; intro a ha; refine op_g ha rfl (g_load Tryd.isAgg22 rfl (hB3.cell rfl)) ?_; clear ha a; intro a ha; refine op_g ha rfl (g_move rfl) ?_; clear ha a; intro a ha; obtain ⟨x9, g10, gx11, hF⟩ := idx_some hF
  obtain ⟨p12, cs13, f14, hf15, hpb16, hat17, hr18, hi19⟩ := ha0_0.at g10 gx11
  obtain ⟨v20, rfl, h21⟩ := hr18
  have h21 : Ro Rp.int W f14 v20 x9 := h21
  refine op_g ha rfl (hi19.gives sl22 rfl rfl) ?_; clear ha a; intro a ha; refine op_g ha rfl (g_load0 hE8 Tryd.isAgg26 rfl hat17.one) ?_; clear ha a; intro a ha; refine op_g ha rfl (g_move rfl) ?_; clear ha a; intro a ha; obtain ⟨x23, hc24, hF⟩ := cal_some hF
  refine o_call ha rfl rfl Tryd.call44 (W_spec_l1Has (h21.ext hE8) ha2 hc24) ?_; clear ha a; rintro v25 w26 ⟨rfl, hx27⟩ a ha
  replace hB3 := hB3.ext hx27
  have hE28 := Ext.trans hE8 hx27
  refine op_g ha rfl (g_assign rfl) ?_; clear ha a; intro a ha; refine wpList_nil ?_; replace ha := ha.sub (σ' := [(6, (.bool x23))]) ⟨rfl, trivial⟩; refine e_then ?_; refine wp_ret ?_; obtain rfl := Option.some.inj hF
  exact f_ret1 ha rfl rfl ⟨rfl, hE28⟩
set_option maxHeartbeats 2000000 in
theorem W_spec_EdgeIn {W : World} {va0_0 : Value} {fa0_0 : List Nat} {a0_0 : (List (List Int))} (ha0_0 : Ro (Rp.sl 2 Rp.int) W fa0_0 va0_0 a0_0) {a1 : Int} (ha1 : InI a1) {a2 : Int} (ha2 : InI a2) {r : Bool} (hF : F_spec_EdgeIn a0_0 a1 a2 = some r) :
    Calls Tryd.prog 53 [.agg #[va0_0], .int .i64 a1, .int .i64 a2].toArray W (Ret fun u w' => u = .bool r ∧ Ext W w') := by
  refine f_enter Tryd.func53 rfl Tryd.ntmps53 rfl ?_
  intro a ha
  replace ha : Fr 25 [(0, (.agg #[va0_0])), (1, (.int .i64 a1)), (2, (.int .i64 a2))] a := ha
  have hE : Chg [] W W := Chg.refl _ _
  unfold F_spec_EdgeIn at hF
  refine wp_seq ?_; refine wp_region_lit ?_
  refine o_box ha rfl rfl rfl ?_; clear ha a; intro b1 w2 hB3 hx4 hlo5 a ha
  have q6 := Zn.one hlo5
  have q7 := Zn.upD q6 hE
  have hE8 := Ext.trans hE hx4
  refine op_g ha rfl (g_assign rfl) ?_; clear ha a; intro a ha; refine wpList_nil ?_; replace ha := ha.sub (σ' := [(1, (.int .i64 a1)), (2, (.int .i64 a2)), (3, (.pointer (some ⟨b1, 0, none⟩)))]) ⟨rfl, rfl, rfl, trivial⟩; refine e_then ?_; refine wp_seq ?_; refine wp_region_lit ?_; refine op_g ha rfl (g_loadA (cs := [va0_0]) Tryd.isAgg29 Tryd.sizeOf29 rfl (by simp) hB3.all) ?_; clear ha a; intro a ha; obtain ⟨x9, hc10, hF⟩ := cal_some hF
  refine o_call ha rfl rfl Tryd.call20 (W_spec_GraphOk (ha0_0.ext hE8) hc10) ?_; clear ha a; rintro v11 w12 ⟨rfl, hx13⟩ a ha
  replace hB3 := hB3.ext hx13
  have hE14 := Ext.trans hE8 hx13
  refine op_g ha rfl (g_move rfl) ?_; clear ha a; intro a ha
  by_cases hp15 : x9 = true
  · replace hF := if_t hp15 hF
    rw [show (x9) = true from (Iff.rfl).2 hp15] at ha
    refine op_want (yields ha rfl rfl) ?_; refine op_g ha rfl (g_loadA (cs := [va0_0]) Tryd.isAgg29 Tryd.sizeOf29 rfl (by simp) hB3.all) ?_; clear ha a; intro a ha; refine op_want (yields ha rfl rfl) ?_; refine op_g ha rfl (g_move rfl) ?_; clear ha a; intro a ha; refine op_want (yields ha rfl rfl) ?_; obtain ⟨x16, hc17, hF⟩ := cal_some hF
    refine o_call ha rfl rfl Tryd.call63 (W_spec_l1There (ha0_0.ext hE14) ha1 hc17) ?_; clear ha a; rintro v18 w19 ⟨rfl, hx20⟩ a ha
    replace hB3 := hB3.ext hx20
    have hE21 := Ext.trans hE14 hx20
    refine op_g ha rfl (g_pick rfl rfl) ?_; clear ha a; intro a ha; refine op_g ha rfl (g_move rfl) ?_; clear ha a; intro a ha
    by_cases hp22 : x16 = true
    · replace hF := if_t hp22 hF
      rw [show (x16) = true from (Iff.rfl).2 hp22] at ha
      refine op_want (yields ha rfl rfl) ?_; refine op_g ha rfl (g_loadA (cs := [va0_0]) Tryd.isAgg29 Tryd.sizeOf29 rfl (by simp) hB3.all) ?_; clear ha a; intro a ha; refine op_want (yields ha rfl rfl) ?_; refine op_g ha rfl (g_move rfl) ?_; clear ha a; intro a ha; refine op_want (yields ha rfl rfl) ?_; obtain ⟨x23, hc24, hF⟩ := cal_some hF
      refine o_call ha rfl rfl Tryd.call63 (W_spec_l1There (ha0_0.ext hE21) ha2 hc24) ?_; clear ha a; rintro v25 w26 ⟨rfl, hx27⟩ a ha
      replace hB3 := hB3.ext hx27
      have hE28 := Ext.trans hE21 hx27
      refine op_g ha rfl (g_pick rfl rfl) ?_; clear ha a; intro a ha; refine op_g ha rfl (g_move rfl) ?_; clear ha a; intro a ha
      by_cases hp29 : x23 = true
      · replace hF := if_t hp29 hF
        rw [show (x23) = true from (Iff.rfl).2 hp29] at ha
        refine op_want (yields ha rfl rfl) ?_; refine op_g ha rfl (g_loadA (cs := [va0_0]) Tryd.isAgg29 Tryd.sizeOf29 rfl (by simp) hB3.all) ?_; clear ha a; intro a ha; refine op_want (yields ha rfl rfl) ?_; refine op_g ha rfl (g_move rfl) ?_; clear ha a; intro a ha; refine op_want (yields ha rfl rfl) ?_; refine op_g ha rfl (g_move rfl) ?_; clear ha a; intro a ha; refine op_want (yields ha rfl rfl) ?_; obtain ⟨x30, hc31, hF⟩ := cal_some hF
        refine o_call ha rfl rfl Tryd.call64 (W_spec_l1Edge (ha0_0.ext hE28) ha1 ha2 hc31) ?_; clear ha a; rintro v32 w33 ⟨rfl, hx34⟩ a ha
        replace hB3 := hB3.ext hx34
        have hE35 := Ext.trans hE28 hx34
        refine op_g ha rfl (g_pick rfl rfl) ?_; clear ha a; intro a ha; refine op_g ha rfl (g_assign rfl) ?_; clear ha a; intro a ha; refine wpList_nil ?_; replace ha := ha.sub (σ' := [(6, (.bool x30))]) ⟨rfl, trivial⟩; refine e_then ?_; refine wp_ret ?_; obtain rfl := Option.some.inj hF
        exact f_ret1 ha rfl rfl ⟨rfl, hE35⟩
      replace hF := if_f hp29 hF
      rw [show (x23) = false from b_false (Iff.rfl) hp29] at ha
      (iterate 4 refine op_unwant ha rfl (yields ha rfl rfl) rfl ?_; clear ha a; intro a ha); refine op_g ha rfl (g_pick rfl rfl) ?_; clear ha a; intro a ha; refine op_g ha rfl (g_assign rfl) ?_; clear ha a; intro a ha; refine wpList_nil ?_; replace ha := ha.sub (σ' := [(6, (.bool false))]) ⟨rfl, trivial⟩; refine e_then ?_; refine wp_ret ?_; obtain rfl := Option.some.inj hF
      exact f_ret1 ha rfl rfl ⟨rfl, hE28⟩
    replace hF := if_f hp22 hF
    rw [show (x16) = false from b_false (Iff.rfl) hp22] at ha
    (iterate 3 refine op_unwant ha rfl (yields ha rfl rfl) rfl ?_; clear ha a; intro a ha); refine op_g ha rfl (g_pick rfl rfl) ?_; clear ha a; intro a ha; refine op_g ha rfl (g_move rfl) ?_; clear ha a; intro a ha; (iterate 4 refine op_unwant ha rfl (yields ha rfl rfl) rfl ?_; clear ha a; intro a ha); refine op_g ha rfl (g_pick rfl rfl) ?_; clear ha a; intro a ha; refine op_g ha rfl (g_assign rfl) ?_; clear ha a; intro a ha; refine wpList_nil ?_; replace ha := ha.sub (σ' := [(6, (.bool false))]) ⟨rfl, trivial⟩; refine e_then ?_; refine wp_ret ?_; obtain rfl := Option.some.inj hF
    exact f_ret1 ha rfl rfl ⟨rfl, hE21⟩
  replace hF := if_f hp15 hF
  rw [show (x9) = false from b_false (Iff.rfl) hp15] at ha
  (iterate 3 refine op_unwant ha rfl (yields ha rfl rfl) rfl ?_; clear ha a; intro a ha); refine op_g ha rfl (g_pick rfl rfl) ?_; clear ha a; intro a ha; refine op_g ha rfl (g_move rfl) ?_; clear ha a; intro a ha; (iterate 3 refine op_unwant ha rfl (yields ha rfl rfl) rfl ?_; clear ha a; intro a ha); refine op_g ha rfl (g_pick rfl rfl) ?_; clear ha a; intro a ha; refine op_g ha rfl (g_move rfl) ?_; clear ha a; intro a ha; (iterate 4 refine op_unwant ha rfl (yields ha rfl rfl) rfl ?_; clear ha a; intro a ha); refine op_g ha rfl (g_pick rfl rfl) ?_; clear ha a; intro a ha; refine op_g ha rfl (g_assign rfl) ?_; clear ha a; intro a ha
  refine wpList_nil ?_; replace ha := ha.sub (σ' := [(6, (.bool false))]) ⟨rfl, trivial⟩; refine e_then ?_; refine wp_ret ?_; obtain rfl := Option.some.inj hF
  exact f_ret1 ha rfl rfl ⟨rfl, hE14⟩
set_option maxHeartbeats 2000000 in
theorem W_spec_MatchOk {W : World} {va0_0 : Value} {fa0_0 : List Nat} {a0_0 : (List (List Int))} (ha0_0 : Ro (Rp.sl 2 Rp.int) W fa0_0 va0_0 a0_0) {va1 : Value} {fa1 : List Nat} {a1 : (List (List Int))} (ha1 : Ro (Rp.sl 2 Rp.int) W fa1 va1 a1) {r : Bool} (hF : F_spec_MatchOk a0_0 a1 = some r) :
    Calls Tryd.prog 33 [.agg #[va0_0], va1].toArray W (Ret fun u w' => u = .bool r ∧ Ext W w') := by
  refine f_enter Tryd.func33 rfl Tryd.ntmps33 rfl ?_
  intro a ha
  replace ha : Fr 90 [(0, (.agg #[va0_0])), (1, va1)] a := ha
  have hE : Chg [] W W := Chg.refl _ _
  unfold F_spec_MatchOk at hF
  refine wp_seq ?_; refine wp_region_lit ?_
  refine o_box ha rfl rfl rfl ?_; clear ha a; intro b1 w2 hB3 hx4 hlo5 a ha
  have q6 := Zn.one hlo5
  have q7 := Zn.upD q6 hE
  have hE8 := Ext.trans hE hx4
  refine op_g ha rfl (g_assign rfl) ?_; clear ha a; intro a ha; refine wpList_nil ?_; replace ha := ha.sub (σ' := [(1, va1), (2, (.pointer (some ⟨b1, 0, none⟩)))]) ⟨rfl, rfl, trivial⟩; refine e_then ?_; refine wp_seq ?_; refine wp_seq ?_; refine wp_region_lit ?_; refine op_g ha rfl (g_loadA (cs := [va0_0]) Tryd.isAgg29 Tryd.sizeOf29 rfl (by simp) hB3.all) ?_; clear ha a; intro a ha; obtain ⟨x17, hc18, hF⟩ := cal_some hF
  refine o_call ha rfl rfl Tryd.call20 (W_spec_GraphOk (ha0_0.ext hE8) hc18) ?_; clear ha a; rintro v19 w20 ⟨rfl, hx21⟩ a ha
  replace hB3 := hB3.ext hx21
  have hE22 := Ext.trans hE8 hx21
  refine op_g ha rfl (g_not rfl) ?_; clear ha a; intro a ha; refine op_g ha rfl (g_move rfl) ?_; clear ha a; intro a ha
  by_cases hp23 : ¬ (x17 = true)
  · replace hF := if_t hp23 hF
    rw [show (!x17) = true from (n_iff (Iff.rfl)).2 hp23] at ha
    (iterate 3 refine op_unwant ha rfl (yields ha rfl rfl) rfl ?_; clear ha a; intro a ha); refine op_g ha rfl (g_pick rfl rfl) ?_; clear ha a; intro a ha; refine wpList_nil ?_; replace ha := ha.sub (σ' := [(1, va1), (2, (.pointer (some ⟨b1, 0, none⟩))), (15, (.bool true))]) ⟨rfl, rfl, rfl, trivial⟩; refine e_then ?_; refine c_true ha rfl ?_; refine wp_seq ?_; refine wp_region_lit ?_; refine op_g ha rfl (g_assign rfl) ?_; clear ha a; intro a ha; refine wpList_nil ?_; replace ha := ha.sub (σ' := [(4, (.bool false))]) ⟨rfl, trivial⟩; refine e_then ?_; refine wp_ret ?_; refine e_then_ret ?_; obtain rfl := Option.some.inj hF
    exact f_ret1 ha rfl rfl ⟨rfl, hE22⟩
  replace hF := if_f hp23 hF
  rw [show (!x17) = false from b_false (n_iff (Iff.rfl)) hp23] at ha
  refine op_want (yields ha rfl rfl) ?_; refine op_g ha rfl (g_move rfl) ?_; clear ha a; intro a ha; refine op_want (yields ha rfl rfl) ?_; refine op_g ha rfl (g_lenR sl22.und ha1 rfl) ?_; clear ha a; intro a ha; refine op_want (yields ha rfl rfl) ?_; refine op_g ha rfl (g_gtr rfl rfl) ?_; clear ha a; intro a ha; refine op_g ha rfl (g_pick rfl rfl) ?_; clear ha a; intro a ha; refine wpList_nil ?_; replace ha := ha.sub (σ' := [(1, va1), (2, (.pointer (some ⟨b1, 0, none⟩))), (15, (.bool (decide (16 < (a1.length : Int)))))]) ⟨rfl, rfl, rfl, trivial⟩; refine e_then ?_; refine c_cond (16 < (a1.length : Int)) ha rfl (decide_eq_true_iff) (fun hp24 => ?_) (fun hp24 => ?_)
  · replace hF := if_t hp24 hF
    refine wp_seq ?_; refine wp_region_lit ?_; refine op_g ha rfl (g_assign rfl) ?_; clear ha a; intro a ha; refine wpList_nil ?_; replace ha := ha.sub (σ' := [(4, (.bool false))]) ⟨rfl, trivial⟩; refine e_then ?_; refine wp_ret ?_; refine e_then_ret ?_; obtain rfl := Option.some.inj hF
    exact f_ret1 ha rfl rfl ⟨rfl, hE22⟩
  replace hF := if_f hp24 hF; refine wp_skip ?_; refine e_then ?_; refine wp_seq ?_; refine wp_region_lit ?_
  refine o_lit0 Rp.int ha rfl sl26 ?_; clear ha a; intro v25 w26 h27 hx28 a ha
  obtain ⟨b30, hb30⟩ : ∃ b : Int, b = w20.heap.size := ⟨_, rfl⟩; rw [← hb30] at h27
  have q31 := zn_of hb30
  have q32 := Nq.new hB3.fpb q31
  have q33 := Nq.madeO q31 hB3.bi
  have q34 := Zn.upD q31 hE22
  replace hB3 := hB3.ext hx28
  have hE35 := Ext.trans hE22 hx28
  refine op_g ha rfl (g_assign rfl) ?_; clear ha a; intro a ha; refine wpList_nil ?_; replace ha := ha.sub (σ' := [(1, va1), (2, (.pointer (some ⟨b1, 0, none⟩))), (5, v25)]) ⟨rfl, rfl, rfl, trivial⟩; refine e_then ?_; refine wp_seq ?_; refine wp_seq ?_; refine wp_region_lit ?_; refine op_g ha rfl (g_assign rfl) ?_; clear ha a; intro a ha; refine wpList_nil ?_; replace ha := ha.sub (σ' := [(1, va1), (2, (.pointer (some ⟨b1, 0, none⟩))), (5, v25), (6, (.int .i64 0))]) ⟨rfl, rfl, rfl, rfl, trivial⟩; refine e_then ?_; obtain ⟨o692, ho693, hK694⟩ := bnd_some hF
  obtain ⟨n695, hn696⟩ := lp_some ho693; clear ho693
  refine c_loop (fun a w => Fr 90 [] a ∧ Chg [] W w ∧ o692 = .inl ()) (fun n a w => ∃ (l367 : (List Int)) (i370 : Int) (v368 : Value) (b369 : Int), Fr 90 [(1, va1), (2, (.pointer (some ⟨b1, 0, none⟩))), (5, v368), (6, (.int .i64 i370))] a ∧ Chg [] W w ∧ InI i370 ∧ Bx w b1 [va0_0] 29 ∧ Zn W (b1 : Int) ∧ Ow Rp.int 2 true w [] b369 v368 l367 ∧ Zn W b369 ∧ Nq ([b1]) b369 ∧ Nq (bl b369 ++ []) (b1 : Int) ∧ lpN (fun s => F_spec_MatchOk_l1 a0_0 a1 s.1 s.2) n (l367, i370) = some o692) n695 ⟨([] : (List Int)), 0, v25, b30, ha.sub ⟨rfl, rfl, rfl, rfl, trivial⟩, hE35, (show InI 0 from by decide), hB3, q7, h27, q34, q32, q33, hn696⟩ ?_ ?_
  · rintro m700 a w361 ⟨l367, i370, v368, b369, ha, hE374, hI371, hB362, z363, h365, z366, q372, q373, hF⟩
    cases m700 with
    | zero => exact (lpN_zero hF).elim
    | succ m700 =>
      obtain ⟨z699, hF, hN698⟩ := lpN_succ hF
      have hF : F_spec_MatchOk_l1 a0_0 a1 l367 i370 = some z699 := hF; unfold F_spec_MatchOk_l1 at hF
      refine wp_seq ?_; refine wp_seq ?_; refine wp_region_lit ?_; (iterate 2 refine op_g ha rfl (g_move rfl) ?_; clear ha a; intro a ha); refine op_g ha rfl (g_lenR sl22.und ha1 rfl) ?_; clear ha a; intro a ha; refine op_g ha rfl (g_lss rfl rfl) ?_; clear ha a; intro a ha; refine wpList_nil ?_; replace ha := ha.sub (σ' := [(1, va1), (2, (.pointer (some ⟨b1, 0, none⟩))), (5, v368), (6, (.int .i64 i370)), (20, (.bool (decide (i370 < (a1.length : Int)))))]) ⟨rfl, rfl, rfl, rfl, rfl, trivial⟩; refine e_then ?_; refine c_cond (i370 < (a1.length : Int)) ha rfl (decide_eq_true_iff) (fun hp701 => ?_) (fun hp701 => ?_)
      · replace hF := if_t hp701 hF
        refine wp_skip ?_; refine e_then ?_; refine wp_seq ?_; refine wp_block ?_; refine wp_seq ?_; refine wp_region_lit ?_; (iterate 2 refine op_g ha rfl (g_move rfl) ?_; clear ha a; intro a ha); obtain ⟨x702, g703, gx704, hF⟩ := idx_some hF
        obtain ⟨p705, cs706, f707, hf708, hpb709, hat710, hr711, hi712⟩ := ha1.at g703 gx704
        obtain ⟨v713, rfl, h714⟩ := hr711
        have h714 : Ro Rp.int W f707 v713 x702 := h714
        refine op_g ha rfl (hi712.gives sl22 rfl rfl) ?_; clear ha a; intro a ha; refine op_g ha rfl (g_load0 hE374 Tryd.isAgg26 rfl hat710.one) ?_; clear ha a; intro a ha; refine op_g ha rfl (g_assign rfl) ?_; clear ha a; intro a ha; refine wpList_nil ?_; replace ha := ha.sub (σ' := [(1, va1), (2, (.pointer (some ⟨b1, 0, none⟩))), (5, v368), (6, (.int .i64 i370)), (7, v713)]) ⟨rfl, rfl, rfl, rfl, rfl, trivial⟩; refine e_then ?_; refine wp_seq ?_; refine wp_seq ?_; refine d_quiet hmix (by kernel_rfl) ?_; refine q_g ha rfl (g_move rfl) ?_; clear ha a; intro a ha; refine q_g ha rfl (g_lenR sl26.und h714 rfl) ?_; clear ha a; intro a ha
        refine q_g ha rfl (g_neq rfl rfl) ?_; clear ha a; intro a ha; refine q_g ha rfl (g_move rfl) ?_; clear ha a; intro a ha
        by_cases hp716 : (x702.length : Int) ≠ 2
        · replace hF := if_t hp716 hF
          rw [show (decide ((x702.length : Int) ≠ 2)) = true from (decide_eq_true_iff).2 hp716] at ha
          (iterate 7 refine q_unwant ha rfl (yields ha rfl rfl) rfl ?_; clear ha a; intro a ha); refine q_g ha rfl (g_pick rfl rfl) ?_; clear ha a; intro a ha; refine q_g ha rfl (g_move rfl) ?_; clear ha a; intro a ha; (iterate 9 refine q_unwant ha rfl (yields ha rfl rfl) rfl ?_; clear ha a; intro a ha); refine q_g ha rfl (g_pick rfl rfl) ?_; clear ha a; intro a ha; refine q_g ha rfl (g_move rfl) ?_; clear ha a; intro a ha; (iterate 5 refine q_unwant ha rfl (yields ha rfl rfl) rfl ?_; clear ha a; intro a ha); refine q_g ha rfl (g_pick rfl rfl) ?_; clear ha a; intro a ha; refine q_g ha rfl (g_move rfl) ?_; clear ha a; intro a ha
          (iterate 5 refine q_unwant ha rfl (yields ha rfl rfl) rfl ?_; clear ha a; intro a ha); refine q_g ha rfl (g_pick rfl rfl) ?_; clear ha a; intro a ha; refine q_g ha rfl (g_move rfl) ?_; clear ha a; intro a ha; (iterate 3 refine q_unwant ha rfl (yields ha rfl rfl) rfl ?_; clear ha a; intro a ha); (iterate 11 refine q_unwant0 ha rfl (yields0 ha rfl rfl) ?_; clear ha a; intro a ha); refine q_unwant ha rfl (yields ha rfl rfl) rfl ?_; clear ha a; intro a ha; refine q_g ha rfl (g_pick rfl rfl) ?_; clear ha a; intro a ha
          refine q_nil ?_; intro w717 hx718
          replace hB362 := hB362.ext hx718
          replace h365 := h365.ext hx718
          have hE719 := Ext.trans hE374 hx718
          replace ha := ha.sub (σ' := [(1, va1), (2, (.pointer (some ⟨b1, 0, none⟩))), (5, v368), (6, (.int .i64 i370)), (7, v713), (80, (.bool true))]) ⟨rfl, rfl, rfl, rfl, rfl, rfl, trivial⟩; refine e_then ?_; refine c_true ha rfl ?_; refine wp_seq ?_; refine wp_region_lit ?_; refine op_g ha rfl (g_assign rfl) ?_; clear ha a; intro a ha; refine wpList_nil ?_; replace ha := ha.sub (σ' := [(4, (.bool false))]) ⟨rfl, trivial⟩; refine e_then ?_; refine wp_ret ?_; refine e_then_ret ?_; refine e_blk_ret ?_; refine e_then_ret ?_; refine e_lq_ret ?_; refine e_then_ret ?_; obtain rfl := Option.some.inj hF
          have e720 := LK_inr hN698; subst e720
          have e721 := BK_inr hK694; subst e721
          exact f_ret1 ha rfl rfl ⟨rfl, hE719⟩
        replace hF := if_f hp716 hF
        rw [show (decide ((x702.length : Int) ≠ 2)) = false from b_false (decide_eq_true_iff) hp716] at ha
        refine q_want (yields ha rfl rfl) ?_; refine q_g ha rfl (g_move rfl) ?_; clear ha a; intro a ha; refine q_want (yields ha rfl rfl) ?_; obtain ⟨x722, g723, gx724, hF⟩ := idx_some hF
        obtain ⟨p725, cs726, f727, hf728, hpb729, hat730, hr731, hi732⟩ := h714.at g723 gx724
        obtain ⟨rfl, hI733, rfl⟩ := hr731
        refine q_g ha rfl (hi732.gives sl26 rfl rfl) ?_; clear ha a; intro a ha; refine q_want (yields ha rfl rfl) ?_; refine q_g ha rfl (g_load0 hE374 Tryd.isAgg2 rfl hat730.one) ?_; clear ha a; intro a ha; refine q_want (yields ha rfl rfl) ?_; refine q_g ha rfl (g_move rfl) ?_; clear ha a; intro a ha; refine q_want (yields ha rfl rfl) ?_; obtain ⟨x734, g735, gx736, hF⟩ := idx_some hF
        obtain ⟨p737, cs738, f739, hf740, hpb741, hat742, hr743, hi744⟩ := h714.at g735 gx736
        obtain ⟨rfl, hI745, rfl⟩ := hr743
        refine q_g ha rfl (hi744.gives sl26 rfl rfl) ?_; clear ha a; intro a ha; refine q_want (yields ha rfl rfl) ?_; refine q_g ha rfl (g_load0 hE374 Tryd.isAgg2 rfl hat742.one) ?_; clear ha a; intro a ha; refine q_want (yields ha rfl rfl) ?_; refine q_g ha rfl (g_geq rfl rfl) ?_; clear ha a; intro a ha; refine q_g ha rfl (g_pick rfl rfl) ?_; clear ha a; intro a ha; refine q_g ha rfl (g_move rfl) ?_; clear ha a; intro a ha
        by_cases hp746 : x734 ≤ x722
        · replace hF := if_t hp746 hF
          rw [show (decide (x734 ≤ x722)) = true from (decide_eq_true_iff).2 hp746] at ha
          (iterate 9 refine q_unwant ha rfl (yields ha rfl rfl) rfl ?_; clear ha a; intro a ha); refine q_g ha rfl (g_pick rfl rfl) ?_; clear ha a; intro a ha; refine q_g ha rfl (g_move rfl) ?_; clear ha a; intro a ha; (iterate 5 refine q_unwant ha rfl (yields ha rfl rfl) rfl ?_; clear ha a; intro a ha); refine q_g ha rfl (g_pick rfl rfl) ?_; clear ha a; intro a ha; refine q_g ha rfl (g_move rfl) ?_; clear ha a; intro a ha; (iterate 5 refine q_unwant ha rfl (yields ha rfl rfl) rfl ?_; clear ha a; intro a ha); refine q_g ha rfl (g_pick rfl rfl) ?_; clear ha a; intro a ha; refine q_g ha rfl (g_move rfl) ?_; clear ha a; intro a ha
          (iterate 3 refine q_unwant ha rfl (yields ha rfl rfl) rfl ?_; clear ha a; intro a ha); (iterate 11 refine q_unwant0 ha rfl (yields0 ha rfl rfl) ?_; clear ha a; intro a ha); refine q_unwant ha rfl (yields ha rfl rfl) rfl ?_; clear ha a; intro a ha; refine q_g ha rfl (g_pick rfl rfl) ?_; clear ha a; intro a ha
          refine q_nil ?_; intro w747 hx748
          replace hB362 := hB362.ext hx748
          replace h365 := h365.ext hx748
          have hE749 := Ext.trans hE374 hx748
          replace ha := ha.sub (σ' := [(1, va1), (2, (.pointer (some ⟨b1, 0, none⟩))), (5, v368), (6, (.int .i64 i370)), (7, v713), (31, v713), (32, (.pointer (some p725))), (33, (.int .i64 x722)), (34, v713), (35, (.pointer (some p737))), (36, (.int .i64 x734)), (37, (.bool true)), (80, (.bool true))]) ⟨rfl, rfl, rfl, rfl, rfl, rfl, rfl, rfl, rfl, rfl, rfl, rfl, rfl, trivial⟩; refine e_then ?_; refine c_true ha rfl ?_; refine wp_seq ?_; refine wp_region_lit ?_; refine op_g ha rfl (g_assign rfl) ?_; clear ha a; intro a ha; refine wpList_nil ?_; replace ha := ha.sub (σ' := [(4, (.bool false))]) ⟨rfl, trivial⟩
          refine e_then ?_; refine wp_ret ?_; refine e_then_ret ?_; refine e_blk_ret ?_; refine e_then_ret ?_; refine e_lq_ret ?_; refine e_then_ret ?_; obtain rfl := Option.some.inj hF
          have e750 := LK_inr hN698; subst e750
          have e751 := BK_inr hK694; subst e751
          exact f_ret1 ha rfl rfl ⟨rfl, hE749⟩
        replace hF := if_f hp746 hF
        rw [show (decide (x734 ≤ x722)) = false from b_false (decide_eq_true_iff) hp746] at ha
        refine q_want (yields ha rfl rfl) ?_; refine q_g ha rfl (g_loadA (cs := [va0_0]) Tryd.isAgg29 Tryd.sizeOf29 rfl (by simp) hB362.all) ?_; clear ha a; intro a ha; refine q_want (yields ha rfl rfl) ?_; refine q_g ha rfl (g_move rfl) ?_; clear ha a; intro a ha; refine q_want (yields ha rfl rfl) ?_; obtain ⟨x752, g753, gx754, hF⟩ := idx_some hF
        obtain ⟨p755, cs756, f757, hf758, hpb759, hat760, hr761, hi762⟩ := h714.at g753 gx754
        obtain ⟨rfl, hI763, rfl⟩ := hr761
        refine q_g ha rfl (hi762.gives sl26 rfl rfl) ?_; clear ha a; intro a ha; refine q_want (yields ha rfl rfl) ?_; refine q_g ha rfl (g_load0 hE374 Tryd.isAgg2 rfl hat760.one) ?_; clear ha a; intro a ha; refine q_want (yields ha rfl rfl) ?_; refine q_g ha rfl (g_move rfl) ?_; clear ha a; intro a ha; refine q_want (yields ha rfl rfl) ?_; obtain ⟨x764, g765, gx766, hF⟩ := idx_some hF
        obtain ⟨p767, cs768, f769, hf770, hpb771, hat772, hr773, hi774⟩ := h714.at g765 gx766
        obtain ⟨rfl, hI775, rfl⟩ := hr773
        refine q_g ha rfl (hi774.gives sl26 rfl rfl) ?_; clear ha a; intro a ha; refine q_want (yields ha rfl rfl) ?_; refine q_g ha rfl (g_load0 hE374 Tryd.isAgg2 rfl hat772.one) ?_; clear ha a; intro a ha; refine q_want (yields ha rfl rfl) ?_; obtain ⟨x778, hc779, hF⟩ := cal_some hF; refine q_call (.bool x778) ha rfl rfl Tryd.call53 (fun w777 hx776 => W_spec_EdgeIn (ha0_0.ext (Ext.trans hE374 hx776)) hI763 hI775 hc779) (fun _ _ _ h => ⟨h.1, h.2⟩) ?_; clear ha a; intro a ha; refine q_want (yields ha rfl rfl) ?_; refine q_g ha rfl (g_not rfl) ?_; clear ha a; intro a ha; refine q_g ha rfl (g_pick rfl rfl) ?_; clear ha a; intro a ha
        refine q_g ha rfl (g_move rfl) ?_; clear ha a; intro a ha
        by_cases hp780 : ¬ (x778 = true)
        · replace hF := if_t hp780 hF
          rw [show (!x778) = true from (n_iff (Iff.rfl)).2 hp780] at ha
          (iterate 5 refine q_unwant ha rfl (yields ha rfl rfl) rfl ?_; clear ha a; intro a ha); refine q_g ha rfl (g_pick rfl rfl) ?_; clear ha a; intro a ha; refine q_g ha rfl (g_move rfl) ?_; clear ha a; intro a ha; (iterate 5 refine q_unwant ha rfl (yields ha rfl rfl) rfl ?_; clear ha a; intro a ha); refine q_g ha rfl (g_pick rfl rfl) ?_; clear ha a; intro a ha; refine q_g ha rfl (g_move rfl) ?_; clear ha a; intro a ha; (iterate 3 refine q_unwant ha rfl (yields ha rfl rfl) rfl ?_; clear ha a; intro a ha); (iterate 11 refine q_unwant0 ha rfl (yields0 ha rfl rfl) ?_; clear ha a; intro a ha); refine q_unwant ha rfl (yields ha rfl rfl) rfl ?_; clear ha a; intro a ha
          refine q_g ha rfl (g_pick rfl rfl) ?_; clear ha a; intro a ha
          refine q_nil ?_; intro w781 hx782
          replace hB362 := hB362.ext hx782
          replace h365 := h365.ext hx782
          have hE783 := Ext.trans hE374 hx782
          replace ha := ha.sub (σ' := [(1, va1), (2, (.pointer (some ⟨b1, 0, none⟩))), (5, v368), (6, (.int .i64 i370)), (7, v713), (31, v713), (32, (.pointer (some p725))), (33, (.int .i64 x722)), (34, v713), (35, (.pointer (some p737))), (36, (.int .i64 x734)), (37, (.bool false)), (40, (.agg #[va0_0])), (41, v713), (42, (.pointer (some p755))), (43, (.int .i64 x752)), (44, v713), (45, (.pointer (some p767))), (46, (.int .i64 x764)), (47, (.bool x778)), (48, (.bool true)), (80, (.bool true))]) ⟨rfl, rfl, rfl, rfl, rfl, rfl, rfl, rfl, rfl, rfl, rfl, rfl, rfl, rfl, rfl, rfl, rfl, rfl, rfl, rfl, rfl, rfl, trivial⟩
          refine e_then ?_; refine c_true ha rfl ?_; refine wp_seq ?_; refine wp_region_lit ?_; refine op_g ha rfl (g_assign rfl) ?_; clear ha a; intro a ha; refine wpList_nil ?_; replace ha := ha.sub (σ' := [(4, (.bool false))]) ⟨rfl, trivial⟩; refine e_then ?_; refine wp_ret ?_; refine e_then_ret ?_; refine e_blk_ret ?_; refine e_then_ret ?_; refine e_lq_ret ?_; refine e_then_ret ?_; obtain rfl := Option.some.inj hF
          have e784 := LK_inr hN698; subst e784
          have e785 := BK_inr hK694; subst e785
          exact f_ret1 ha rfl rfl ⟨rfl, hE783⟩
        replace hF := if_f hp780 hF
        rw [show (!x778) = false from b_false (n_iff (Iff.rfl)) hp780] at ha
        refine q_want (yields ha rfl rfl) ?_; refine q_g ha rfl (g_move rfl) ?_; clear ha a; intro a ha; refine q_want (yields ha rfl rfl) ?_; refine q_g ha rfl (g_move rfl) ?_; clear ha a; intro a ha; refine q_want (yields ha rfl rfl) ?_; obtain ⟨x786, g787, gx788, hF⟩ := idx_some hF
        obtain ⟨p789, cs790, f791, hf792, hpb793, hat794, hr795, hi796⟩ := h714.at g787 gx788
        obtain ⟨rfl, hI797, rfl⟩ := hr795
        refine q_g ha rfl (hi796.gives sl26 rfl rfl) ?_; clear ha a; intro a ha; refine q_want (yields ha rfl rfl) ?_; refine q_g ha rfl (g_load0 hE374 Tryd.isAgg2 rfl hat794.one) ?_; clear ha a; intro a ha; refine q_want (yields ha rfl rfl) ?_
        obtain ⟨fp800, hro801, hs802⟩ := h365.roF
        obtain ⟨x803, hc804, hF⟩ := cal_some hF; refine q_call (.bool x803) ha rfl rfl Tryd.call44 (fun w799 hx798 => W_spec_l1Has (hro801.ext hx798) hI797 hc804) (fun _ _ _ h => ⟨h.1, h.2⟩) ?_; clear ha a; intro a ha; refine q_g ha rfl (g_pick rfl rfl) ?_; clear ha a; intro a ha; refine q_g ha rfl (g_move rfl) ?_; clear ha a; intro a ha
        by_cases hp805 : x803 = true
        · replace hF := if_t hp805 hF
          rw [show (x803) = true from (Iff.rfl).2 hp805] at ha
          (iterate 5 refine q_unwant ha rfl (yields ha rfl rfl) rfl ?_; clear ha a; intro a ha); refine q_g ha rfl (g_pick rfl rfl) ?_; clear ha a; intro a ha; refine q_g ha rfl (g_move rfl) ?_; clear ha a; intro a ha; (iterate 3 refine q_unwant ha rfl (yields ha rfl rfl) rfl ?_; clear ha a; intro a ha); (iterate 11 refine q_unwant0 ha rfl (yields0 ha rfl rfl) ?_; clear ha a; intro a ha); refine q_unwant ha rfl (yields ha rfl rfl) rfl ?_; clear ha a; intro a ha; refine q_g ha rfl (g_pick rfl rfl) ?_; clear ha a; intro a ha
          refine q_nil ?_; intro w806 hx807
          replace hB362 := hB362.ext hx807
          replace h365 := h365.ext hx807
          have hE808 := Ext.trans hE374 hx807
          replace ha := ha.sub (σ' := [(1, va1), (2, (.pointer (some ⟨b1, 0, none⟩))), (5, v368), (6, (.int .i64 i370)), (7, v713), (31, v713), (32, (.pointer (some p725))), (33, (.int .i64 x722)), (34, v713), (35, (.pointer (some p737))), (36, (.int .i64 x734)), (37, (.bool false)), (40, (.agg #[va0_0])), (41, v713), (42, (.pointer (some p755))), (43, (.int .i64 x752)), (44, v713), (45, (.pointer (some p767))), (46, (.int .i64 x764)), (47, (.bool x778)), (48, (.bool false)), (51, v368), (52, v713), (53, (.pointer (some p789))), (54, (.int .i64 x786)), (55, (.bool true)), (80, (.bool true))]) ⟨rfl, rfl, rfl, rfl, rfl, rfl, rfl, rfl, rfl, rfl, rfl, rfl, rfl, rfl, rfl, rfl, rfl, rfl, rfl, rfl, rfl, rfl, rfl, rfl, rfl, rfl, rfl, trivial⟩
          refine e_then ?_; refine c_true ha rfl ?_; refine wp_seq ?_; refine wp_region_lit ?_; refine op_g ha rfl (g_assign rfl) ?_; clear ha a; intro a ha; refine wpList_nil ?_; replace ha := ha.sub (σ' := [(4, (.bool false))]) ⟨rfl, trivial⟩; refine e_then ?_; refine wp_ret ?_; refine e_then_ret ?_; refine e_blk_ret ?_; refine e_then_ret ?_; refine e_lq_ret ?_; refine e_then_ret ?_; obtain rfl := Option.some.inj hF
          have e809 := LK_inr hN698; subst e809
          have e810 := BK_inr hK694; subst e810
          exact f_ret1 ha rfl rfl ⟨rfl, hE808⟩
        replace hF := if_f hp805 hF
        rw [show (x803) = false from b_false (Iff.rfl) hp805] at ha
        refine q_want (yields ha rfl rfl) ?_; refine q_g ha rfl (g_move rfl) ?_; clear ha a; intro a ha; refine q_want (yields ha rfl rfl) ?_; refine q_g ha rfl (g_move rfl) ?_; clear ha a; intro a ha; refine q_want (yields ha rfl rfl) ?_; obtain ⟨x811, g812, gx813, hF⟩ := idx_some hF
        obtain ⟨p814, cs815, f816, hf817, hpb818, hat819, hr820, hi821⟩ := h714.at g812 gx813
        obtain ⟨rfl, hI822, rfl⟩ := hr820
        refine q_g ha rfl (hi821.gives sl26 rfl rfl) ?_; clear ha a; intro a ha; refine q_want (yields ha rfl rfl) ?_; refine q_g ha rfl (g_load0 hE374 Tryd.isAgg2 rfl hat819.one) ?_; clear ha a; intro a ha; refine q_want (yields ha rfl rfl) ?_
        obtain ⟨fp825, hro826, hs827⟩ := h365.roF
        obtain ⟨x828, hc829, hF⟩ := cal_some hF; refine q_call (.bool x828) ha rfl rfl Tryd.call44 (fun w824 hx823 => W_spec_l1Has (hro826.ext hx823) hI822 hc829) (fun _ _ _ h => ⟨h.1, h.2⟩) ?_; clear ha a; intro a ha; refine q_g ha rfl (g_pick rfl rfl) ?_; clear ha a; intro a ha; refine q_g ha rfl (g_move rfl) ?_; clear ha a; intro a ha
        by_cases hp830 : x828 = true
        · replace hF := if_t hp830 hF
          rw [show (x828) = true from (Iff.rfl).2 hp830] at ha
          (iterate 3 refine q_unwant ha rfl (yields ha rfl rfl) rfl ?_; clear ha a; intro a ha); (iterate 11 refine q_unwant0 ha rfl (yields0 ha rfl rfl) ?_; clear ha a; intro a ha); refine q_unwant ha rfl (yields ha rfl rfl) rfl ?_; clear ha a; intro a ha; refine q_g ha rfl (g_pick rfl rfl) ?_; clear ha a; intro a ha
          refine q_nil ?_; intro w831 hx832
          replace hB362 := hB362.ext hx832
          replace h365 := h365.ext hx832
          have hE833 := Ext.trans hE374 hx832
          replace ha := ha.sub (σ' := [(1, va1), (2, (.pointer (some ⟨b1, 0, none⟩))), (5, v368), (6, (.int .i64 i370)), (7, v713), (31, v713), (32, (.pointer (some p725))), (33, (.int .i64 x722)), (34, v713), (35, (.pointer (some p737))), (36, (.int .i64 x734)), (37, (.bool false)), (40, (.agg #[va0_0])), (41, v713), (42, (.pointer (some p755))), (43, (.int .i64 x752)), (44, v713), (45, (.pointer (some p767))), (46, (.int .i64 x764)), (47, (.bool x778)), (48, (.bool false)), (51, v368), (52, v713), (53, (.pointer (some p789))), (54, (.int .i64 x786)), (55, (.bool false)), (58, v368), (59, v713), (60, (.pointer (some p814))), (61, (.int .i64 x811)), (62, (.bool true)), (80, (.bool true))]) ⟨rfl, rfl, rfl, rfl, rfl, rfl, rfl, rfl, rfl, rfl, rfl, rfl, rfl, rfl, rfl, rfl, rfl, rfl, rfl, rfl, rfl, rfl, rfl, rfl, rfl, rfl, rfl, rfl, rfl, rfl, rfl, rfl, trivial⟩
          refine e_then ?_; refine c_true ha rfl ?_; refine wp_seq ?_; refine wp_region_lit ?_; refine op_g ha rfl (g_assign rfl) ?_; clear ha a; intro a ha; refine wpList_nil ?_; replace ha := ha.sub (σ' := [(4, (.bool false))]) ⟨rfl, trivial⟩; refine e_then ?_; refine wp_ret ?_; refine e_then_ret ?_; refine e_blk_ret ?_; refine e_then_ret ?_; refine e_lq_ret ?_; refine e_then_ret ?_; obtain rfl := Option.some.inj hF
          have e834 := LK_inr hN698; subst e834
          have e835 := BK_inr hK694; subst e835
          exact f_ret1 ha rfl rfl ⟨rfl, hE833⟩
        replace hF := if_f hp830 hF
        rw [show (x828) = false from b_false (Iff.rfl) hp830] at ha
        refine q_want (yields ha rfl rfl) ?_; refine q_g ha rfl (g_move rfl) ?_; clear ha a; intro a ha; refine q_want (yields ha rfl rfl) ?_; refine q_g ha rfl (g_gtr rfl rfl) ?_; clear ha a; intro a ha; refine q_want (yields ha rfl rfl) ?_; refine q_g ha rfl (g_move rfl) ?_; clear ha a; intro a ha
        by_cases hp836 : 0 < i370
        · replace hF := if_t hp836 hF
          rw [show (decide (0 < i370)) = true from (decide_eq_true_iff).2 hp836] at ha
          refine q_want (yields ha rfl rfl) ?_; refine q_g ha rfl (g_move rfl) ?_; clear ha a; intro a ha; refine q_want (yields ha rfl rfl) ?_; obtain ⟨x837, g838, gx839, hF⟩ := idx_some hF
          obtain ⟨p840, cs841, f842, hf843, hpb844, hat845, hr846, hi847⟩ := h714.at g838 gx839
          obtain ⟨rfl, hI848, rfl⟩ := hr846
          refine q_g ha rfl (hi847.gives sl26 rfl rfl) ?_; clear ha a; intro a ha; refine q_want (yields ha rfl rfl) ?_; refine q_g ha rfl (g_load0 hE374 Tryd.isAgg2 rfl hat845.one) ?_; clear ha a; intro a ha; refine q_want (yields ha rfl rfl) ?_; refine q_g ha rfl (g_move rfl) ?_; clear ha a; intro a ha; refine q_want (yields ha rfl rfl) ?_; refine q_g ha rfl (g_move rfl) ?_; clear ha a; intro a ha; refine q_want (yields ha rfl rfl) ?_; obtain ⟨hI849, hF⟩ := ck_some hF; refine q_g ha rfl (g_sub rfl rfl hI849) ?_; clear ha a; intro a ha; refine q_want (yields ha rfl rfl) ?_; obtain ⟨x851, g852, gx853, hF⟩ := idx_some hF
          obtain ⟨p854, cs855, f856, hf857, hpb858, hat859, hr860, hi861⟩ := ha1.at g852 gx853
          obtain ⟨v862, rfl, h863⟩ := hr860
          have h863 : Ro Rp.int W f856 v862 x851 := h863
          refine q_g ha rfl (hi861.gives sl22 rfl rfl) ?_; clear ha a; intro a ha; refine q_want (yields ha rfl rfl) ?_; refine q_g ha rfl (g_load0 hE374 Tryd.isAgg26 rfl hat859.one) ?_; clear ha a; intro a ha; refine q_want (yields ha rfl rfl) ?_; obtain ⟨x865, g866, gx867, hF⟩ := idx_some hF
          obtain ⟨p868, cs869, f870, hf871, hpb872, hat873, hr874, hi875⟩ := h863.at g866 gx867
          obtain ⟨rfl, hI876, rfl⟩ := hr874
          refine q_g ha rfl (hi875.gives sl26 rfl rfl) ?_; clear ha a; intro a ha; refine q_want (yields ha rfl rfl) ?_; refine q_g ha rfl (g_load0 hE374 Tryd.isAgg2 rfl hat873.one) ?_; clear ha a; intro a ha; refine q_want (yields ha rfl rfl) ?_; refine q_g ha rfl (g_leq rfl rfl) ?_; clear ha a; intro a ha; refine q_want (yields ha rfl rfl) ?_; (iterate 2 refine q_g ha rfl (g_pick rfl rfl) ?_; clear ha a; intro a ha)
          refine q_nil ?_; intro w877 hx878
          replace hB362 := hB362.ext hx878
          replace h365 := h365.ext hx878
          have hE879 := Ext.trans hE374 hx878
          replace ha := ha.sub (σ' := [(1, va1), (2, (.pointer (some ⟨b1, 0, none⟩))), (5, v368), (6, (.int .i64 i370)), (7, v713), (31, v713), (32, (.pointer (some p725))), (33, (.int .i64 x722)), (34, v713), (35, (.pointer (some p737))), (36, (.int .i64 x734)), (37, (.bool false)), (40, (.agg #[va0_0])), (41, v713), (42, (.pointer (some p755))), (43, (.int .i64 x752)), (44, v713), (45, (.pointer (some p767))), (46, (.int .i64 x764)), (47, (.bool x778)), (48, (.bool false)), (51, v368), (52, v713), (53, (.pointer (some p789))), (54, (.int .i64 x786)), (55, (.bool false)), (58, v368), (59, v713), (60, (.pointer (some p814))), (61, (.int .i64 x811)), (62, (.bool false)), (65, (.int .i64 i370)), (66, (.bool true)), (67, (.bool true)), (68, v713), (69, (.pointer (some p840))), (70, (.int .i64 x837)), (71, va1), (72, (.int .i64 i370)), (73, (.int .i64 (i370 - 1))), (74, (.pointer (some p854))), (75, v862), (76, (.pointer (some p868))), (77, (.int .i64 x865)), (78, (.bool (decide (x837 ≤ x865)))), (79, (.bool (decide (x837 ≤ x865)))), (80, (.bool (decide (x837 ≤ x865))))]) ⟨rfl, rfl, rfl, rfl, rfl, rfl, rfl, rfl, rfl, rfl, rfl, rfl, rfl, rfl, rfl, rfl, rfl, rfl, rfl, rfl, rfl, rfl, rfl, rfl, rfl, rfl, rfl, rfl, rfl, rfl, rfl, rfl, rfl, rfl, rfl, rfl, rfl, rfl, rfl, rfl, rfl, rfl, rfl, rfl, rfl, rfl, rfl, trivial⟩
          refine e_then ?_; refine c_cond (x837 ≤ x865) ha rfl (decide_eq_true_iff) (fun hp880 => ?_) (fun hp880 => ?_)
          · replace hF := if_t hp880 hF
            refine wp_seq ?_; refine wp_region_lit ?_; refine op_g ha rfl (g_assign rfl) ?_; clear ha a; intro a ha; refine wpList_nil ?_; replace ha := ha.sub (σ' := [(4, (.bool false))]) ⟨rfl, trivial⟩; refine e_then ?_; refine wp_ret ?_; refine e_then_ret ?_; refine e_blk_ret ?_; refine e_then_ret ?_; refine e_lq_ret ?_; refine e_then_ret ?_; obtain rfl := Option.some.inj hF
            have e881 := LK_inr hN698; subst e881
            have e882 := BK_inr hK694; subst e882
            exact f_ret1 ha rfl rfl ⟨rfl, hE879⟩
          replace hF := if_f hp880 hF; refine wp_skip ?_; refine e_then ?_; refine d_region [0, 1, 2, 3, 4, 5, 6, 7] hmix ?_; refine u_g 0 rfl (by kernel_rfl) (want0 _) ha rfl (g_move rfl) ?_; clear ha a; intro a ha; refine u_g 1 rfl (by kernel_rfl) (want0 _) ha rfl (g_move rfl) ?_; clear ha a; intro a ha; obtain ⟨x883, g884, gx885, hF⟩ := idx_some hF
          obtain ⟨p886, cs887, f888, hf889, hpb890, hat891, hr892, hi893⟩ := h714.at g884 gx885
          obtain ⟨rfl, hI894, rfl⟩ := hr892
          refine u_g 2 rfl (by kernel_rfl) (want0 _) ha rfl (hi893.gives sl26 rfl rfl) ?_; clear ha a; intro a ha; refine u_g 3 rfl (by kernel_rfl) (want0 _) ha rfl (g_load0 hE879 Tryd.isAgg2 rfl hat891.one) ?_; clear ha a; intro a ha; refine u_g 4 rfl (by kernel_rfl) (want0 _) ha rfl (g_move rfl) ?_; clear ha a; intro a ha; obtain ⟨x895, g896, gx897, hF⟩ := idx_some hF
          obtain ⟨p898, cs899, f900, hf901, hpb902, hat903, hr904, hi905⟩ := h714.at g896 gx897
          obtain ⟨rfl, hI906, rfl⟩ := hr904
          refine u_g 5 rfl (by kernel_rfl) (want0 _) ha rfl (hi905.gives sl26 rfl rfl) ?_; clear ha a; intro a ha; refine u_g 6 rfl (by kernel_rfl) (want0 _) ha rfl (g_load0 hE879 Tryd.isAgg2 rfl hat903.one) ?_; clear ha a; intro a ha
          refine u_only 7 rfl (by kernel_rfl) ?_; intro w907 hx908
          replace hB362 := hB362.ext hx908
          replace h365 := h365.ext hx908
          have hE909 := Ext.trans hE879 hx908
          have hvob914 : ∀ p ∈ ([((.int .i64 x883), [(.int .i64 x883)]), ((.int .i64 x895), [(.int .i64 x895)])] : List (Value × List Value)), p.1.cells = p.2.toArray ∧ p.2.length = 1 := by
            intro p hp; simp only [List.mem_cons, List.not_mem_nil, or_false] at hp; rcases hp with hp | hp <;> subst hp <;> first | exact ⟨rfl, rfl⟩
          refine o_litM (o := true) (f := []) (ps := [((.int .i64 x883), [(.int .i64 x883)]), ((.int .i64 x895), [(.int .i64 x895)])]) (ys := [x883, x895]) Rp.int ha rfl sl26 rfl rfl rfl rfl hvob914 ⟨[], [], [(.int .i64 x883)], _, rfl, rfl, ⟨rfl, hI894, rfl⟩, ⟨[], [], [(.int .i64 x895)], _, rfl, rfl, ⟨rfl, hI906, rfl⟩, ⟨rfl, rfl⟩⟩⟩ ?_; clear ha a; intro v910 w911 h912 hx913 a ha
          obtain ⟨b915, hb915⟩ : ∃ b : Int, b = w907.heap.size := ⟨_, rfl⟩; rw [← hb915] at h912
          have q916 := zn_of hb915
          have q917 := Nq.new hB362.fpb q916
          have q918 := Nq.madeO q916 hB362.bi
          have q919 := Nq.new h365.fpb q916
          have q920 := Nq.madeO q916 h365.blt
          have q921 := Zn.upD q916 hE909
          replace hB362 := hB362.ext hx913
          replace h365 := h365.ext hx913
          have hE922 := Ext.trans hE909 hx913
          refine wpList_nil (e_sq ?_)
          refine ⟨fun _ => hx913, ?_⟩
          refine u_only 8 rfl (by kernel_rfl) ?_; intro w923 hx924
          replace hB362 := hB362.ext hx924
          replace h365 := h365.ext hx924
          replace h912 := h912.ext hx924
          have hE925 := Ext.trans hE922 hx924
          obtain ⟨hl926, hF⟩ := app_some hF
          refine o_append ha rfl sl26 rfl rfl rfl h365 h912.src (Nq.nil _) hl926 ?_; clear ha a; intro v927 w928 b929 h930 hc931 hb932 a ha
          replace h930 : Ow Rp.int 2 true w928 [] b929 v927 _ := h930
          have q934 := Nq.appY q372 hB362.fpb hb932
          have q935 := Nq.appX q373 (Nq.nil _) hb932 hB362.bi
          have q936 := Nq.appY q920 h912.fpb hb932
          have q937 := Nq.appX q919 (Nq.nil _) hb932 h912.blt
          have q938 := Zn.appD z366 hb932 hE925
          replace hB362 := hB362.nq hc931 q372
          replace h912 := h912.nq hc931 q920
          have hE939 := Ext.then hE925 hc931 (Zn.bl z366)
          refine wpList_nil (e_sq ?_)
          refine ⟨fun h => absurd h (by decide), ?_⟩
          refine u_only 9 rfl (by kernel_rfl) ?_; intro w940 hx941
          replace hB362 := hB362.ext hx941
          replace h912 := h912.ext hx941
          replace h930 := h930.ext hx941
          have hE942 := Ext.trans hE939 hx941
          refine op_g ha rfl (g_assign rfl) ?_; clear ha a; intro a ha; refine wpList_nil (e_sq ?_)
          refine ⟨fun h => absurd h (by decide), ?_⟩
          refine u_done (by kernel_rfl) ?_; intro w943 hx944
          replace hB362 := hB362.ext hx944
          replace h912 := h912.ext hx944
          replace h930 := h930.ext hx944
          have hE945 := Ext.trans hE942 hx944
          replace ha := ha.sub (σ' := [(1, va1), (2, (.pointer (some ⟨b1, 0, none⟩))), (5, v927), (6, (.int .i64 i370)), (31, v713), (32, (.pointer (some p725))), (33, (.int .i64 x722)), (34, v713), (35, (.pointer (some p737))), (36, (.int .i64 x734)), (37, (.bool false)), (40, (.agg #[va0_0])), (41, v713), (42, (.pointer (some p755))), (43, (.int .i64 x752)), (44, v713), (45, (.pointer (some p767))), (46, (.int .i64 x764)), (47, (.bool x778)), (48, (.bool false)), (51, v368), (52, v713), (53, (.pointer (some p789))), (54, (.int .i64 x786)), (55, (.bool false)), (58, v368), (59, v713), (60, (.pointer (some p814))), (61, (.int .i64 x811)), (62, (.bool false)), (65, (.int .i64 i370)), (66, (.bool true)), (67, (.bool true)), (68, v713), (69, (.pointer (some p840))), (70, (.int .i64 x837)), (71, va1), (72, (.int .i64 i370)), (73, (.int .i64 (i370 - 1))), (74, (.pointer (some p854))), (75, v862), (76, (.pointer (some p868))), (77, (.int .i64 x865)), (78, (.bool (decide (x837 ≤ x865)))), (79, (.bool (decide (x837 ≤ x865))))]) ⟨rfl, rfl, rfl, rfl, rfl, rfl, rfl, rfl, rfl, rfl, rfl, rfl, rfl, rfl, rfl, rfl, rfl, rfl, rfl, rfl, rfl, rfl, rfl, rfl, rfl, rfl, rfl, rfl, rfl, rfl, rfl, rfl, rfl, rfl, rfl, rfl, rfl, rfl, rfl, rfl, rfl, rfl, rfl, rfl, rfl, trivial⟩
          refine e_blk ?_; refine e_then ?_; refine wp_region_lit ?_; refine op_g ha rfl (g_move rfl) ?_; clear ha a; intro a ha; obtain ⟨hI946, hF⟩ := ck_some hF; refine op_g ha rfl (g_add rfl rfl hI946) ?_; clear ha a; intro a ha; refine op_g ha rfl (g_assign rfl) ?_; clear ha a; intro a ha; refine wpList_nil ?_; replace ha := ha.sub (σ' := [(1, va1), (2, (.pointer (some ⟨b1, 0, none⟩))), (5, v927), (6, (.int .i64 (i370 + 1))), (31, v713), (32, (.pointer (some p725))), (33, (.int .i64 x722)), (34, v713), (35, (.pointer (some p737))), (36, (.int .i64 x734)), (37, (.bool false)), (40, (.agg #[va0_0])), (41, v713), (42, (.pointer (some p755))), (43, (.int .i64 x752)), (44, v713), (45, (.pointer (some p767))), (46, (.int .i64 x764)), (47, (.bool x778)), (48, (.bool false)), (51, v368), (52, v713), (53, (.pointer (some p789))), (54, (.int .i64 x786)), (55, (.bool false)), (58, v368), (59, v713), (60, (.pointer (some p814))), (61, (.int .i64 x811)), (62, (.bool false)), (65, (.int .i64 i370)), (66, (.bool true)), (67, (.bool true)), (68, v713), (69, (.pointer (some p840))), (70, (.int .i64 x837)), (71, va1), (72, (.int .i64 i370)), (73, (.int .i64 (i370 - 1))), (74, (.pointer (some p854))), (75, v862), (76, (.pointer (some p868))), (77, (.int .i64 x865)), (78, (.bool (decide (x837 ≤ x865)))), (79, (.bool (decide (x837 ≤ x865))))]) ⟨rfl, rfl, rfl, rfl, rfl, rfl, rfl, rfl, rfl, rfl, rfl, rfl, rfl, rfl, rfl, rfl, rfl, rfl, rfl, rfl, rfl, rfl, rfl, rfl, rfl, rfl, rfl, rfl, rfl, rfl, rfl, rfl, rfl, rfl, rfl, rfl, rfl, rfl, rfl, rfl, rfl, rfl, rfl, rfl, rfl, trivial⟩
          refine e_lq ?_; obtain rfl := Option.some.inj hF
          exact ⟨_, Nat.lt_succ_self _, (l367 ++ ([x883, x895])), i370 + 1, v927, b929, ha.sub ⟨rfl, rfl, rfl, rfl, trivial⟩, hE945, hI946, hB362, z363, h930, q938, q934, q935, hN698⟩
        replace hF := if_f hp836 hF
        rw [show (decide (0 < i370)) = false from b_false (decide_eq_true_iff) hp836] at ha
        (iterate 11 refine q_unwant ha rfl (yields ha rfl rfl) rfl ?_; clear ha a; intro a ha); refine q_want (yields ha rfl rfl) ?_; (iterate 2 refine q_g ha rfl (g_pick rfl rfl) ?_; clear ha a; intro a ha)
        refine q_nil ?_; intro w948 hx949
        replace hB362 := hB362.ext hx949
        replace h365 := h365.ext hx949
        have hE950 := Ext.trans hE374 hx949
        replace ha := ha.sub (σ' := [(1, va1), (2, (.pointer (some ⟨b1, 0, none⟩))), (5, v368), (6, (.int .i64 i370)), (7, v713), (31, v713), (32, (.pointer (some p725))), (33, (.int .i64 x722)), (34, v713), (35, (.pointer (some p737))), (36, (.int .i64 x734)), (37, (.bool false)), (40, (.agg #[va0_0])), (41, v713), (42, (.pointer (some p755))), (43, (.int .i64 x752)), (44, v713), (45, (.pointer (some p767))), (46, (.int .i64 x764)), (47, (.bool x778)), (48, (.bool false)), (51, v368), (52, v713), (53, (.pointer (some p789))), (54, (.int .i64 x786)), (55, (.bool false)), (58, v368), (59, v713), (60, (.pointer (some p814))), (61, (.int .i64 x811)), (62, (.bool false)), (65, (.int .i64 i370)), (66, (.bool false)), (67, (.bool false)), (79, (.bool false)), (80, (.bool false))]) ⟨rfl, rfl, rfl, rfl, rfl, rfl, rfl, rfl, rfl, rfl, rfl, rfl, rfl, rfl, rfl, rfl, rfl, rfl, rfl, rfl, rfl, rfl, rfl, rfl, rfl, rfl, rfl, rfl, rfl, rfl, rfl, rfl, rfl, rfl, rfl, rfl, trivial⟩
        refine e_then ?_; refine c_false ha rfl ?_; refine wp_skip ?_; refine e_then ?_; refine d_region [0, 1, 2, 3, 4, 5, 6, 7] hmix ?_; refine u_g 0 rfl (by kernel_rfl) (want0 _) ha rfl (g_move rfl) ?_; clear ha a; intro a ha; refine u_g 1 rfl (by kernel_rfl) (want0 _) ha rfl (g_move rfl) ?_; clear ha a; intro a ha; obtain ⟨x951, g952, gx953, hF⟩ := idx_some hF
        obtain ⟨p954, cs955, f956, hf957, hpb958, hat959, hr960, hi961⟩ := h714.at g952 gx953
        obtain ⟨rfl, hI962, rfl⟩ := hr960
        refine u_g 2 rfl (by kernel_rfl) (want0 _) ha rfl (hi961.gives sl26 rfl rfl) ?_; clear ha a; intro a ha; refine u_g 3 rfl (by kernel_rfl) (want0 _) ha rfl (g_load0 hE950 Tryd.isAgg2 rfl hat959.one) ?_; clear ha a; intro a ha; refine u_g 4 rfl (by kernel_rfl) (want0 _) ha rfl (g_move rfl) ?_; clear ha a; intro a ha; obtain ⟨x963, g964, gx965, hF⟩ := idx_some hF
        obtain ⟨p966, cs967, f968, hf969, hpb970, hat971, hr972, hi973⟩ := h714.at g964 gx965
        obtain ⟨rfl, hI974, rfl⟩ := hr972
        refine u_g 5 rfl (by kernel_rfl) (want0 _) ha rfl (hi973.gives sl26 rfl rfl) ?_; clear ha a; intro a ha; refine u_g 6 rfl (by kernel_rfl) (want0 _) ha rfl (g_load0 hE950 Tryd.isAgg2 rfl hat971.one) ?_; clear ha a; intro a ha
        refine u_only 7 rfl (by kernel_rfl) ?_; intro w975 hx976
        replace hB362 := hB362.ext hx976
        replace h365 := h365.ext hx976
        have hE977 := Ext.trans hE950 hx976
        have hvob982 : ∀ p ∈ ([((.int .i64 x951), [(.int .i64 x951)]), ((.int .i64 x963), [(.int .i64 x963)])] : List (Value × List Value)), p.1.cells = p.2.toArray ∧ p.2.length = 1 := by
          intro p hp; simp only [List.mem_cons, List.not_mem_nil, or_false] at hp; rcases hp with hp | hp <;> subst hp <;> first | exact ⟨rfl, rfl⟩
        refine o_litM (o := true) (f := []) (ps := [((.int .i64 x951), [(.int .i64 x951)]), ((.int .i64 x963), [(.int .i64 x963)])]) (ys := [x951, x963]) Rp.int ha rfl sl26 rfl rfl rfl rfl hvob982 ⟨[], [], [(.int .i64 x951)], _, rfl, rfl, ⟨rfl, hI962, rfl⟩, ⟨[], [], [(.int .i64 x963)], _, rfl, rfl, ⟨rfl, hI974, rfl⟩, ⟨rfl, rfl⟩⟩⟩ ?_; clear ha a; intro v978 w979 h980 hx981 a ha
        obtain ⟨b983, hb983⟩ : ∃ b : Int, b = w975.heap.size := ⟨_, rfl⟩; rw [← hb983] at h980
        have q984 := zn_of hb983
        have q985 := Nq.new hB362.fpb q984
        have q986 := Nq.madeO q984 hB362.bi
        have q987 := Nq.new h365.fpb q984
        have q988 := Nq.madeO q984 h365.blt
        have q989 := Zn.upD q984 hE977
        replace hB362 := hB362.ext hx981
        replace h365 := h365.ext hx981
        have hE990 := Ext.trans hE977 hx981
        refine wpList_nil (e_sq ?_)
        refine ⟨fun _ => hx981, ?_⟩
        refine u_only 8 rfl (by kernel_rfl) ?_; intro w991 hx992
        replace hB362 := hB362.ext hx992
        replace h365 := h365.ext hx992
        replace h980 := h980.ext hx992
        have hE993 := Ext.trans hE990 hx992
        obtain ⟨hl994, hF⟩ := app_some hF
        refine o_append ha rfl sl26 rfl rfl rfl h365 h980.src (Nq.nil _) hl994 ?_; clear ha a; intro v995 w996 b997 h998 hc999 hb1000 a ha
        replace h998 : Ow Rp.int 2 true w996 [] b997 v995 _ := h998
        have q1002 := Nq.appY q372 hB362.fpb hb1000
        have q1003 := Nq.appX q373 (Nq.nil _) hb1000 hB362.bi
        have q1004 := Nq.appY q988 h980.fpb hb1000
        have q1005 := Nq.appX q987 (Nq.nil _) hb1000 h980.blt
        have q1006 := Zn.appD z366 hb1000 hE993
        replace hB362 := hB362.nq hc999 q372
        replace h980 := h980.nq hc999 q988
        have hE1007 := Ext.then hE993 hc999 (Zn.bl z366)
        refine wpList_nil (e_sq ?_)
        refine ⟨fun h => absurd h (by decide), ?_⟩
        refine u_only 9 rfl (by kernel_rfl) ?_; intro w1008 hx1009
        replace hB362 := hB362.ext hx1009
        replace h980 := h980.ext hx1009
        replace h998 := h998.ext hx1009
        have hE1010 := Ext.trans hE1007 hx1009
        refine op_g ha rfl (g_assign rfl) ?_; clear ha a; intro a ha; refine wpList_nil (e_sq ?_)
        refine ⟨fun h => absurd h (by decide), ?_⟩
        refine u_done (by kernel_rfl) ?_; intro w1011 hx1012
        replace hB362 := hB362.ext hx1012
        replace h980 := h980.ext hx1012
        replace h998 := h998.ext hx1012
        have hE1013 := Ext.trans hE1010 hx1012
        replace ha := ha.sub (σ' := [(1, va1), (2, (.pointer (some ⟨b1, 0, none⟩))), (5, v995), (6, (.int .i64 i370)), (31, v713), (32, (.pointer (some p725))), (33, (.int .i64 x722)), (34, v713), (35, (.pointer (some p737))), (36, (.int .i64 x734)), (37, (.bool false)), (40, (.agg #[va0_0])), (41, v713), (42, (.pointer (some p755))), (43, (.int .i64 x752)), (44, v713), (45, (.pointer (some p767))), (46, (.int .i64 x764)), (47, (.bool x778)), (48, (.bool false)), (51, v368), (52, v713), (53, (.pointer (some p789))), (54, (.int .i64 x786)), (55, (.bool false)), (58, v368), (59, v713), (60, (.pointer (some p814))), (61, (.int .i64 x811)), (62, (.bool false)), (65, (.int .i64 i370)), (66, (.bool false)), (67, (.bool false)), (79, (.bool false))]) ⟨rfl, rfl, rfl, rfl, rfl, rfl, rfl, rfl, rfl, rfl, rfl, rfl, rfl, rfl, rfl, rfl, rfl, rfl, rfl, rfl, rfl, rfl, rfl, rfl, rfl, rfl, rfl, rfl, rfl, rfl, rfl, rfl, rfl, rfl, trivial⟩
        refine e_blk ?_; refine e_then ?_; refine wp_region_lit ?_; refine op_g ha rfl (g_move rfl) ?_; clear ha a; intro a ha; obtain ⟨hI1014, hF⟩ := ck_some hF; refine op_g ha rfl (g_add rfl rfl hI1014) ?_; clear ha a; intro a ha; refine op_g ha rfl (g_assign rfl) ?_; clear ha a; intro a ha; refine wpList_nil ?_; replace ha := ha.sub (σ' := [(1, va1), (2, (.pointer (some ⟨b1, 0, none⟩))), (5, v995), (6, (.int .i64 (i370 + 1))), (31, v713), (32, (.pointer (some p725))), (33, (.int .i64 x722)), (34, v713), (35, (.pointer (some p737))), (36, (.int .i64 x734)), (37, (.bool false)), (40, (.agg #[va0_0])), (41, v713), (42, (.pointer (some p755))), (43, (.int .i64 x752)), (44, v713), (45, (.pointer (some p767))), (46, (.int .i64 x764)), (47, (.bool x778)), (48, (.bool false)), (51, v368), (52, v713), (53, (.pointer (some p789))), (54, (.int .i64 x786)), (55, (.bool false)), (58, v368), (59, v713), (60, (.pointer (some p814))), (61, (.int .i64 x811)), (62, (.bool false)), (65, (.int .i64 i370)), (66, (.bool false)), (67, (.bool false)), (79, (.bool false))]) ⟨rfl, rfl, rfl, rfl, rfl, rfl, rfl, rfl, rfl, rfl, rfl, rfl, rfl, rfl, rfl, rfl, rfl, rfl, rfl, rfl, rfl, rfl, rfl, rfl, rfl, rfl, rfl, rfl, rfl, rfl, rfl, rfl, rfl, rfl, trivial⟩
        refine e_lq ?_; obtain rfl := Option.some.inj hF
        exact ⟨_, Nat.lt_succ_self _, (l367 ++ ([x951, x963])), i370 + 1, v995, b997, ha.sub ⟨rfl, rfl, rfl, rfl, trivial⟩, hE1013, hI1014, hB362, z363, h998, q1006, q1002, q1003, hN698⟩
      replace hF := if_f hp701 hF; refine wp_exit ?_; refine e_then_exit ?_; refine e_lq_eq ?_; obtain rfl := Option.some.inj hF
      exact ⟨ha.sub trivial, hE374, (LK_inr hN698).symm⟩
  rintro a w691 ⟨ha, hE697, rfl⟩
  have hF : F_spec_MatchOk_k2 = some _ := hK694; clear hK694; unfold F_spec_MatchOk_k2 at hF
  refine e_then ?_; refine wp_seq ?_; refine wp_region_lit ?_; refine op_g ha rfl (g_assign rfl) ?_; clear ha a; intro a ha; refine wpList_nil ?_; refine e_then ?_; refine wp_ret ?_; obtain rfl := Option.some.inj hF
  exact f_ret1 ha rfl rfl ⟨rfl, hE697⟩
set_option maxHeartbeats 2000000 in
theorem W_spec_l26None {W : World} {a0 : Int} (ha0 : InI a0) {r : (List Int)} (hF : F_spec_l26None a0 = some r) :
    Calls Tryd.prog 54 [.int .i64 a0].toArray W (Ret fun u w' => ∃ (b_u : Int), Ow Rp.int 2 true w' [] b_u u r ∧ Zn W b_u ∧ Ext W w') := by
  refine f_enter Tryd.func54 rfl Tryd.ntmps54 rfl ?_
  intro a ha
  replace ha : Fr 15 [(0, (.int .i64 a0))] a := ha
  have hE : Chg [] W W := Chg.refl _ _
  unfold F_spec_l26None at hF
  refine wp_seq ?_; refine wp_region_lit ?_; refine op_g ha rfl (g_assign rfl) ?_; clear ha a; intro a ha; refine wpList_nil ?_; replace ha := ha.sub (σ' := [(0, (.int .i64 a0))]) ⟨rfl, trivial⟩; refine e_then ?_; refine wp_seq ?_; refine wp_region_lit ?_
  refine o_lit0 Rp.int ha rfl sl26 ?_; clear ha a; intro v1 w2 h3 hx4 a ha
  obtain ⟨b6, hb6⟩ : ∃ b : Int, b = W.heap.size := ⟨_, rfl⟩; rw [← hb6] at h3
  have q7 := zn_of hb6
  have q8 := Zn.upD q7 hE
  have hE9 := Ext.trans hE hx4
  refine op_g ha rfl (g_assign rfl) ?_; clear ha a; intro a ha; refine wpList_nil ?_; replace ha := ha.sub (σ' := [(0, (.int .i64 a0)), (3, v1)]) ⟨rfl, rfl, trivial⟩; refine e_then ?_; refine wp_seq ?_; refine wp_seq ?_; refine wp_region_lit ?_; refine op_g ha rfl (g_assign rfl) ?_; clear ha a; intro a ha; refine wpList_nil ?_; refine e_then ?_; obtain ⟨o102, ho103, hK104⟩ := bnd_some hF
  obtain ⟨n105, hn106⟩ := lp_some ho103; clear ho103
  refine c_loop (fun a w => ∃ (l99 : (List Int)) (v100 : Value) (b101 : Int), Fr 15 [(3, v100)] a ∧ Chg [] W w ∧ Ow Rp.int 2 true w [] b101 v100 l99 ∧ Zn W b101 ∧ o102 = .inl l99) (fun n a w => ∃ (l54 : (List Int)) (i57 : Int) (v55 : Value) (b56 : Int), Fr 15 [(0, (.int .i64 a0)), (3, v55), (4, (.int .i64 i57))] a ∧ Chg [] W w ∧ InI i57 ∧ Ow Rp.int 2 true w [] b56 v55 l54 ∧ Zn W b56 ∧ lpN (fun s => F_spec_l26None_l1 a0 s.1 s.2) n (l54, i57) = some o102) n105 ⟨([] : (List Int)), 0, v1, b6, ha.sub ⟨rfl, rfl, rfl, trivial⟩, hE9, (show InI 0 from by decide), h3, q8, hn106⟩ ?_ ?_
  · rintro m110 a w50 ⟨l54, i57, v55, b56, ha, hE59, hI58, h52, z53, hF⟩
    cases m110 with
    | zero => exact (lpN_zero hF).elim
    | succ m110 =>
      obtain ⟨z109, hF, hN108⟩ := lpN_succ hF
      have hF : F_spec_l26None_l1 a0 l54 i57 = some z109 := hF; unfold F_spec_l26None_l1 at hF
      refine wp_seq ?_; refine wp_seq ?_; refine wp_region_lit ?_; (iterate 2 refine op_g ha rfl (g_move rfl) ?_; clear ha a; intro a ha); refine op_g ha rfl (g_lss rfl rfl) ?_; clear ha a; intro a ha; refine wpList_nil ?_; replace ha := ha.sub (σ' := [(0, (.int .i64 a0)), (3, v55), (4, (.int .i64 i57)), (8, (.bool (decide (i57 < a0))))]) ⟨rfl, rfl, rfl, rfl, trivial⟩; refine e_then ?_; refine c_cond (i57 < a0) ha rfl (decide_eq_true_iff) (fun hp111 => ?_) (fun hp111 => ?_)
      · replace hF := if_t hp111 hF
        refine wp_skip ?_; refine e_then ?_; refine wp_seq ?_; refine wp_block ?_; refine wp_region_lit ?_; refine op_g ha rfl (g_move rfl) ?_; clear ha a; intro a ha
        refine o_lit1 (o := true) (y := (-1)) Rp.int ha rfl sl26 rfl rfl rfl ⟨rfl, (show InI (-1) from by decide), rfl⟩ ?_; clear ha a; intro v112 w113 h114 hx115 a ha
        obtain ⟨b117, hb117⟩ : ∃ b : Int, b = w50.heap.size := ⟨_, rfl⟩; rw [← hb117] at h114
        have q118 := zn_of hb117
        have q119 := Nq.new h52.fpb q118
        have q120 := Nq.madeO q118 h52.blt
        have q121 := Zn.upD q118 hE59
        replace h52 := h52.ext hx115
        have hE122 := Ext.trans hE59 hx115
        obtain ⟨hl123, hF⟩ := app_some hF
        refine o_append ha rfl sl26 rfl rfl rfl h52 h114.src (Nq.nil _) hl123 ?_; clear ha a; intro v124 w125 b126 h127 hc128 hb129 a ha
        replace h127 : Ow Rp.int 2 true w125 [] b126 v124 _ := h127
        have q131 := Nq.appY q120 h114.fpb hb129
        have q132 := Nq.appX q119 (Nq.nil _) hb129 h114.blt
        have q133 := Zn.appD z53 hb129 hE122
        replace h114 := h114.nq hc128 q120
        have hE134 := Ext.then hE122 hc128 (Zn.bl z53)
        refine op_g ha rfl (g_assign rfl) ?_; clear ha a; intro a ha; refine wpList_nil ?_; replace ha := ha.sub (σ' := [(0, (.int .i64 a0)), (3, v124), (4, (.int .i64 i57))]) ⟨rfl, rfl, rfl, trivial⟩; refine e_blk ?_; refine e_then ?_; refine wp_region_lit ?_; refine op_g ha rfl (g_move rfl) ?_; clear ha a; intro a ha; obtain ⟨hI135, hF⟩ := ck_some hF; refine op_g ha rfl (g_add rfl rfl hI135) ?_; clear ha a; intro a ha; refine op_g ha rfl (g_assign rfl) ?_; clear ha a; intro a ha; refine wpList_nil ?_; replace ha := ha.sub (σ' := [(0, (.int .i64 a0)), (3, v124), (4, (.int .i64 (i57 + 1)))]) ⟨rfl, rfl, rfl, trivial⟩
        refine e_lq ?_; obtain rfl := Option.some.inj hF
        exact ⟨_, Nat.lt_succ_self _, (l54 ++ ([(-1)])), i57 + 1, v124, b126, ha.sub ⟨rfl, rfl, rfl, trivial⟩, hE134, hI135, h127, q133, hN108⟩
      replace hF := if_f hp111 hF; refine wp_exit ?_; refine e_then_exit ?_; refine e_lq_eq ?_; obtain rfl := Option.some.inj hF
      exact ⟨l54, v55, b56, ha.sub ⟨rfl, trivial⟩, hE59, h52, z53, (LK_inr hN108).symm⟩
  rintro a w95 ⟨l99, v100, b101, ha, hE107, h97, z98, rfl⟩
  have hF : F_spec_l26None_k2 l99 = some _ := hK104; clear hK104; unfold F_spec_l26None_k2 at hF
  refine e_then ?_; refine wp_seq ?_; refine wp_region_lit ?_; refine op_g ha rfl (g_move rfl) ?_; clear ha a; intro a ha; refine op_g ha rfl (g_assign rfl) ?_; clear ha a; intro a ha; refine wpList_nil ?_; replace ha := ha.sub (σ' := [(2, v100)]) ⟨rfl, trivial⟩; refine e_then ?_; refine wp_ret ?_; obtain rfl := Option.some.inj hF
  exact f_ret1 ha rfl rfl ⟨_, h97, z98, hE107⟩
set_option maxHeartbeats 2000000 in
theorem W_spec_l27Mates {W : World} {va0_0 : Value} {fa0_0 : List Nat} {a0_0 : (List (List Int))} (ha0_0 : Ro (Rp.sl 2 Rp.int) W fa0_0 va0_0 a0_0) {va1 : Value} {fa1 : List Nat} {a1 : (List (List Int))} (ha1 : Ro (Rp.sl 2 Rp.int) W fa1 va1 a1) {r : (List Int)} (hF : F_spec_l27Mates a0_0 a1 = some r) :
    Calls Tryd.prog 34 [.agg #[va0_0], va1].toArray W (Ret fun u w' => ∃ (b_u : Int), Ow Rp.int 2 true w' [] b_u u r ∧ Zn W b_u ∧ Ext W w') := by
  refine f_enter Tryd.func34 rfl Tryd.ntmps34 rfl ?_
  intro a ha
  replace ha : Fr 46 [(0, (.agg #[va0_0])), (1, va1)] a := ha
  have hE : Chg [] W W := Chg.refl _ _
  unfold F_spec_l27Mates at hF
  refine wp_seq ?_; refine wp_region_lit ?_
  refine o_box ha rfl rfl rfl ?_; clear ha a; intro b1 w2 hB3 hx4 hlo5 a ha
  have q6 := Zn.one hlo5
  have q7 := Zn.upD q6 hE
  have hE8 := Ext.trans hE hx4
  refine op_g ha rfl (g_assign rfl) ?_; clear ha a; intro a ha; refine wpList_nil ?_; replace ha := ha.sub (σ' := [(1, va1), (2, (.pointer (some ⟨b1, 0, none⟩)))]) ⟨rfl, rfl, trivial⟩; refine e_then ?_; refine wp_seq ?_; refine wp_region_lit ?_; refine op_g ha rfl (g_field0 st29_0 rfl) ?_; clear ha a; intro a ha; refine op_g ha rfl (g_load Tryd.isAgg22 rfl (hB3.cell rfl)) ?_; clear ha a; intro a ha; refine op_g ha rfl (g_lenR sl22.und ha0_0 rfl) ?_; clear ha a; intro a ha; obtain ⟨x9, hc10, hF⟩ := cal_some hF
  refine o_call ha rfl rfl Tryd.call54 (W_spec_l26None ha0_0.len hc10) ?_; clear ha a; rintro v11 w12 ⟨b14, h15, z16, hx13⟩ a ha
  have q18 := Nq.new hB3.fpb z16
  have q19 := Nq.madeO z16 hB3.bi
  replace hB3 := hB3.ext hx13
  have hE20 := Ext.trans hE8 hx13
  have q21 := Zn.upD z16 hE8
  refine op_g ha rfl (g_assign rfl) ?_; clear ha a; intro a ha; refine wpList_nil ?_; replace ha := ha.sub (σ' := [(1, va1), (5, v11)]) ⟨rfl, rfl, trivial⟩; refine e_then ?_; refine wp_seq ?_; refine wp_seq ?_; refine wp_region_lit ?_; refine op_g ha rfl (g_assign rfl) ?_; clear ha a; intro a ha; refine wpList_nil ?_; refine e_then ?_; obtain ⟨o372, ho373, hK374⟩ := bnd_some hF
  obtain ⟨n375, hn376⟩ := lp_some ho373; clear ho373
  refine c_loop (fun a w => ∃ (l369 : (List Int)) (v370 : Value) (b371 : Int), Fr 46 [(5, v370)] a ∧ Chg [] W w ∧ Ow Rp.int 2 true w [] b371 v370 l369 ∧ Zn W b371 ∧ o372 = .inl l369) (fun n a w => ∃ (l195 : (List Int)) (i198 : Int) (v196 : Value) (b197 : Int), Fr 46 [(1, va1), (5, v196), (6, (.int .i64 i198))] a ∧ Chg [] W w ∧ InI i198 ∧ Ow Rp.int 2 true w [] b197 v196 l195 ∧ Zn W b197 ∧ lpN (fun s => F_spec_l27Mates_l1 a1 s.1 s.2) n (l195, i198) = some o372) n375 ⟨x9, 0, v11, b14, ha.sub ⟨rfl, rfl, rfl, trivial⟩, hE20, (show InI 0 from by decide), h15, q21, hn376⟩ ?_ ?_
  · rintro m380 a w191 ⟨l195, i198, v196, b197, ha, hE200, hI199, h193, z194, hF⟩
    cases m380 with
    | zero => exact (lpN_zero hF).elim
    | succ m380 =>
      obtain ⟨z379, hF, hN378⟩ := lpN_succ hF
      have hF : F_spec_l27Mates_l1 a1 l195 i198 = some z379 := hF; unfold F_spec_l27Mates_l1 at hF
      refine wp_seq ?_; refine wp_seq ?_; refine wp_region_lit ?_; (iterate 2 refine op_g ha rfl (g_move rfl) ?_; clear ha a; intro a ha); refine op_g ha rfl (g_lenR sl22.und ha1 rfl) ?_; clear ha a; intro a ha; refine op_g ha rfl (g_lss rfl rfl) ?_; clear ha a; intro a ha; refine wpList_nil ?_; replace ha := ha.sub (σ' := [(1, va1), (5, v196), (6, (.int .i64 i198)), (14, (.bool (decide (i198 < (a1.length : Int)))))]) ⟨rfl, rfl, rfl, rfl, trivial⟩; refine e_then ?_; refine c_cond (i198 < (a1.length : Int)) ha rfl (decide_eq_true_iff) (fun hp381 => ?_) (fun hp381 => ?_)
      · replace hF := if_t hp381 hF
        refine wp_skip ?_; refine e_then ?_; refine wp_seq ?_; refine wp_block ?_; refine wp_seq ?_; refine d_region [0, 1, 2, 3, 4, 5, 6, 7, 8, 9, 10, 11, 12, 13] hmix ?_; refine u_g 0 rfl (by kernel_rfl) (want0 _) ha rfl (g_move rfl) ?_; clear ha a; intro a ha; refine u_g 1 rfl (by kernel_rfl) (want0 _) ha rfl (g_move rfl) ?_; clear ha a; intro a ha; refine u_g 2 rfl (by kernel_rfl) (want0 _) ha rfl (g_move rfl) ?_; clear ha a; intro a ha; obtain ⟨x382, g383, gx384, hF⟩ := idx_some hF
        obtain ⟨p385, cs386, f387, hf388, hpb389, hat390, hr391, hi392⟩ := ha1.at g383 gx384
        obtain ⟨v393, rfl, h394⟩ := hr391
        have h394 : Ro Rp.int W f387 v393 x382 := h394
        refine u_g 3 rfl (by kernel_rfl) (want0 _) ha rfl (hi392.gives sl22 rfl rfl) ?_; clear ha a; intro a ha; refine u_g 4 rfl (by kernel_rfl) (want0 _) ha rfl (g_load0 hE200 Tryd.isAgg26 rfl hat390.one) ?_; clear ha a; intro a ha; obtain ⟨x396, g397, gx398, hF⟩ := idx_some hF
        obtain ⟨p399, cs400, f401, hf402, hpb403, hat404, hr405, hi406⟩ := h394.at g397 gx398
        obtain ⟨rfl, hI407, rfl⟩ := hr405
        refine u_g 5 rfl (by kernel_rfl) (want0 _) ha rfl (hi406.gives sl26 rfl rfl) ?_; clear ha a; intro a ha; refine u_g 6 rfl (by kernel_rfl) (want0 _) ha rfl (g_load0 hE200 Tryd.isAgg2 rfl hat404.one) ?_; clear ha a; intro a ha; refine u_g 7 rfl (by kernel_rfl) (want0 _) ha rfl (g_move rfl) ?_; clear ha a; intro a ha; refine u_g 8 rfl (by kernel_rfl) (want0 _) ha rfl (g_move rfl) ?_; clear ha a; intro a ha; obtain ⟨x408, g409, gx410, hF⟩ := idx_some hF
        obtain ⟨p411, cs412, f413, hf414, hpb415, hat416, hr417, hi418⟩ := ha1.at g409 gx410
        obtain ⟨v419, rfl, h420⟩ := hr417
        have h420 : Ro Rp.int W f413 v419 x408 := h420
        refine u_g 9 rfl (by kernel_rfl) (want0 _) ha rfl (hi418.gives sl22 rfl rfl) ?_; clear ha a; intro a ha; refine u_g 10 rfl (by kernel_rfl) (want0 _) ha rfl (g_load0 hE200 Tryd.isAgg26 rfl hat416.one) ?_; clear ha a; intro a ha; obtain ⟨x422, g423, gx424, hF⟩ := idx_some hF
        obtain ⟨p425, cs426, f427, hf428, hpb429, hat430, hr431, hi432⟩ := h420.at g423 gx424
        obtain ⟨rfl, hI433, rfl⟩ := hr431
        refine u_g 11 rfl (by kernel_rfl) (want0 _) ha rfl (hi432.gives sl26 rfl rfl) ?_; clear ha a; intro a ha; refine u_g 12 rfl (by kernel_rfl) (want0 _) ha rfl (g_load0 hE200 Tryd.isAgg2 rfl hat430.one) ?_; clear ha a; intro a ha; obtain ⟨x434, g435, gx436, hF⟩ := idx_some hF
        obtain ⟨p437, cs438, f439, hf440, hpb441, hat442, hr443, hi444⟩ := h193.at g435 gx436
        obtain ⟨rfl, hI445, rfl⟩ := hr443
        refine u_g 13 rfl (by kernel_rfl) (want0 _) ha rfl (hi444.gives sl26 rfl rfl) ?_; clear ha a; intro a ha
        refine u_only 14 rfl (by kernel_rfl) ?_; intro w446 hx447
        replace h193 := h193.ext hx447
        have hE448 := Ext.trans hE200 hx447
        refine o_storeE (f := []) (q := x422) ha Tryd.sizeOf2 rfl rfl rfl h193 hi444 ⟨rfl, hI433, rfl⟩ (Nq.nil _) ?_; intro w449 fs450 h451 hc452 hs453
        obtain rfl := Subst.nil hs453
        have hE454 := Ext.then hE448 hc452 (Zn.bl z194)
        refine wpList_nil (e_sq ?_)
        refine ⟨fun h => absurd h (by decide), ?_⟩
        refine u_done (by kernel_rfl) ?_; intro w455 hx456
        replace h451 := h451.ext hx456
        have hE457 := Ext.trans hE454 hx456
        replace ha := ha.sub (σ' := [(1, va1), (5, v196), (6, (.int .i64 i198))]) ⟨rfl, rfl, rfl, trivial⟩; refine e_then ?_; refine d_region [0, 1, 2, 3, 4, 5, 6, 7, 8, 9, 10, 11, 12, 13] hmix ?_; refine u_g 0 rfl (by kernel_rfl) (want0 _) ha rfl (g_move rfl) ?_; clear ha a; intro a ha; refine u_g 1 rfl (by kernel_rfl) (want0 _) ha rfl (g_move rfl) ?_; clear ha a; intro a ha; refine u_g 2 rfl (by kernel_rfl) (want0 _) ha rfl (g_move rfl) ?_; clear ha a; intro a ha; obtain ⟨x458, g459, gx460, hF⟩ := idx_some hF
        obtain ⟨p461, cs462, f463, hf464, hpb465, hat466, hr467, hi468⟩ := ha1.at g459 gx460
        obtain ⟨v469, rfl, h470⟩ := hr467
        have h470 : Ro Rp.int W f463 v469 x458 := h470
        refine u_g 3 rfl (by kernel_rfl) (want0 _) ha rfl (hi468.gives sl22 rfl rfl) ?_; clear ha a; intro a ha; refine u_g 4 rfl (by kernel_rfl) (want0 _) ha rfl (g_load0 hE457 Tryd.isAgg26 rfl hat466.one) ?_; clear ha a; intro a ha; obtain ⟨x472, g473, gx474, hF⟩ := idx_some hF
        obtain ⟨p475, cs476, f477, hf478, hpb479, hat480, hr481, hi482⟩ := h470.at g473 gx474
        obtain ⟨rfl, hI483, rfl⟩ := hr481
        refine u_g 5 rfl (by kernel_rfl) (want0 _) ha rfl (hi482.gives sl26 rfl rfl) ?_; clear ha a; intro a ha; refine u_g 6 rfl (by kernel_rfl) (want0 _) ha rfl (g_load0 hE457 Tryd.isAgg2 rfl hat480.one) ?_; clear ha a; intro a ha; refine u_g 7 rfl (by kernel_rfl) (want0 _) ha rfl (g_move rfl) ?_; clear ha a; intro a ha; refine u_g 8 rfl (by kernel_rfl) (want0 _) ha rfl (g_move rfl) ?_; clear ha a; intro a ha; obtain ⟨x484, g485, gx486, hF⟩ := idx_some hF
        obtain ⟨p487, cs488, f489, hf490, hpb491, hat492, hr493, hi494⟩ := ha1.at g485 gx486
        obtain ⟨v495, rfl, h496⟩ := hr493
        have h496 : Ro Rp.int W f489 v495 x484 := h496
        refine u_g 9 rfl (by kernel_rfl) (want0 _) ha rfl (hi494.gives sl22 rfl rfl) ?_; clear ha a; intro a ha; refine u_g 10 rfl (by kernel_rfl) (want0 _) ha rfl (g_load0 hE457 Tryd.isAgg26 rfl hat492.one) ?_; clear ha a; intro a ha; obtain ⟨x498, g499, gx500, hF⟩ := idx_some hF
        obtain ⟨p501, cs502, f503, hf504, hpb505, hat506, hr507, hi508⟩ := h496.at g499 gx500
        obtain ⟨rfl, hI509, rfl⟩ := hr507
        refine u_g 11 rfl (by kernel_rfl) (want0 _) ha rfl (hi508.gives sl26 rfl rfl) ?_; clear ha a; intro a ha; refine u_g 12 rfl (by kernel_rfl) (want0 _) ha rfl (g_load0 hE457 Tryd.isAgg2 rfl hat506.one) ?_; clear ha a; intro a ha; obtain ⟨x510, g511, gx512, hF⟩ := idx_some hF
        obtain ⟨p513, cs514, f515, hf516, hpb517, hat518, hr519, hi520⟩ := h451.at g511 gx512
        obtain ⟨rfl, hI521, rfl⟩ := hr519
        refine u_g 13 rfl (by kernel_rfl) (want0 _) ha rfl (hi520.gives sl26 rfl rfl) ?_; clear ha a; intro a ha
        refine u_only 14 rfl (by kernel_rfl) ?_; intro w522 hx523
        replace h451 := h451.ext hx523
        have hE524 := Ext.trans hE457 hx523
        refine o_storeE (f := []) (q := x498) ha Tryd.sizeOf2 rfl rfl rfl h451 hi520 ⟨rfl, hI509, rfl⟩ (Nq.nil _) ?_; intro w525 fs526 h527 hc528 hs529
        obtain rfl := Subst.nil hs529
        have hE530 := Ext.then hE524 hc528 (Zn.bl z194)
        refine wpList_nil (e_sq ?_)
        refine ⟨fun h => absurd h (by decide), ?_⟩
        refine u_done (by kernel_rfl) ?_; intro w531 hx532
        replace h527 := h527.ext hx532
        have hE533 := Ext.trans hE530 hx532
        replace ha := ha.sub (σ' := [(1, va1), (5, v196), (6, (.int .i64 i198))]) ⟨rfl, rfl, rfl, trivial⟩; refine e_blk ?_; refine e_then ?_; refine wp_region_lit ?_; refine op_g ha rfl (g_move rfl) ?_; clear ha a; intro a ha; obtain ⟨hI534, hF⟩ := ck_some hF; refine op_g ha rfl (g_add rfl rfl hI534) ?_; clear ha a; intro a ha; refine op_g ha rfl (g_assign rfl) ?_; clear ha a; intro a ha; refine wpList_nil ?_; replace ha := ha.sub (σ' := [(1, va1), (5, v196), (6, (.int .i64 (i198 + 1)))]) ⟨rfl, rfl, rfl, trivial⟩; refine e_lq ?_; obtain rfl := Option.some.inj hF
        exact ⟨_, Nat.lt_succ_self _, ((l195.set ((x396 : Int).toNat) x422).set ((x472 : Int).toNat) x498), i198 + 1, v196, b197, ha.sub ⟨rfl, rfl, rfl, trivial⟩, hE533, hI534, h527, z194, hN378⟩
      replace hF := if_f hp381 hF; refine wp_exit ?_; refine e_then_exit ?_; refine e_lq_eq ?_; obtain rfl := Option.some.inj hF
      exact ⟨l195, v196, b197, ha.sub ⟨rfl, trivial⟩, hE200, h193, z194, (LK_inr hN378).symm⟩
  rintro a w365 ⟨l369, v370, b371, ha, hE377, h367, z368, rfl⟩
  have hF : F_spec_l27Mates_k2 l369 = some _ := hK374; clear hK374; unfold F_spec_l27Mates_k2 at hF
  refine e_then ?_; refine wp_seq ?_; refine wp_region_lit ?_; refine op_g ha rfl (g_move rfl) ?_; clear ha a; intro a ha; refine op_g ha rfl (g_assign rfl) ?_; clear ha a; intro a ha; refine wpList_nil ?_; replace ha := ha.sub (σ' := [(4, v370)]) ⟨rfl, trivial⟩; refine e_then ?_; refine wp_ret ?_; obtain rfl := Option.some.inj hF
  exact f_ret1 ha rfl rfl ⟨_, h367, z368, hE377⟩
set_option maxHeartbeats 2000000 in
theorem W_spec_l1Copy {W : World} {va0 : Value} {fa0 : List Nat} {a0 : (List Int)} (ha0 : Ro Rp.int W fa0 va0 a0) {r : (List Int)} (hF : F_spec_l1Copy a0 = some r) :
    Calls Tryd.prog 55 [va0].toArray W (Ret fun u w' => ∃ (b_u : Int), Ow Rp.int 2 true w' [] b_u u r ∧ Zn W b_u ∧ Ext W w') := by
  refine f_enter Tryd.func55 rfl Tryd.ntmps55 rfl ?_
  intro a ha
  replace ha : Fr 6 [(0, va0)] a := ha
  have hE : Chg [] W W := Chg.refl _ _
  unfold F_spec_l1Copy at hF
  refine wp_seq ?_; refine wp_region_lit ?_; refine op_g ha rfl (g_assign rfl) ?_; clear ha a; intro a ha; refine wpList_nil ?_; replace ha := ha.sub (σ' := [(0, va0)]) ⟨rfl, trivial⟩; refine e_then ?_; refine wp_seq ?_; refine wp_region_lit ?_
  refine o_lit0 Rp.int ha rfl sl26 ?_; clear ha a; intro v1 w2 h3 hx4 a ha
  obtain ⟨b6, hb6⟩ : ∃ b : Int, b = W.heap.size := ⟨_, rfl⟩; rw [← hb6] at h3
  have q7 := zn_of hb6
  have q8 := Zn.upD q7 hE
  have hE9 := Ext.trans hE hx4
  refine op_g ha rfl (g_move rfl) ?_; clear ha a; intro a ha; obtain ⟨hl10, hF⟩ := app_some hF
  obtain ⟨_, hs11, _⟩ := (ha0.ext hE9).src
  refine o_append ha rfl sl26 rfl rfl rfl h3 (hs11.up scal_int) (Nq.nil _) hl10 ?_; clear ha a; intro v12 w13 b14 h15 hc16 hb17 a ha
  replace h15 : Ow Rp.int 2 true w13 [] b14 v12 _ := h15
  have q19 := Zn.appD q8 hb17 hE9
  have hE20 := Ext.then hE9 hc16 (Zn.bl q8)
  refine op_g ha rfl (g_assign rfl) ?_; clear ha a; intro a ha; refine wpList_nil ?_; replace ha := ha.sub (σ' := [(2, v12)]) ⟨rfl, trivial⟩; refine e_then ?_; refine wp_ret ?_; obtain rfl := Option.some.inj hF
  exact f_ret1 ha rfl rfl ⟨_, h15, q19, hE20⟩
set_option maxHeartbeats 2000000 in
theorem W_spec_l27Way_step {rc : (List (List Int)) → (List Int) → (List Int) → Int → Option ((List Int) × Bool)} (ih : ∀ {W : World} {va0_0 : Value} {fa0_0 : List Nat} {a0_0 : (List (List Int))} (ha0_0 : Ro (Rp.sl 2 Rp.int) W fa0_0 va0_0 a0_0) {va1 : Value} {fa1 : List Nat} {a1 : (List Int)} (ha1 : Ro Rp.int W fa1 va1 a1) {va2 : Value} {fa2 : List Nat} {a2 : (List Int)} (ha2 : Ro Rp.int W fa2 va2 a2) {a3 : Int} (ha3 : InI a3) {r : ((List Int) × Bool)} (hF : rc a0_0 a1 a2 a3 = some r),
    Calls Tryd.prog 35 [.agg #[va0_0], va1, va2, .int .i64 a3].toArray W (Ret fun u w' => ∃ (u0 : Value) (u1 : Value) (fp_u0 : List Nat), u = .tuple #[u0, u1] ∧ Ro Rp.int w' fp_u0 u0 r.1 ∧ Pv (fa0_0 ++ fa1 ++ fa2) W.heap.size fp_u0 ∧ u1 = .bool r.2 ∧ Ext W w')) {W : World} {va0_0 : Value} {fa0_0 : List Nat} {a0_0 : (List (List Int))} (ha0_0 : Ro (Rp.sl 2 Rp.int) W fa0_0 va0_0 a0_0) {va1 : Value} {fa1 : List Nat} {a1 : (List Int)} (ha1 : Ro Rp.int W fa1 va1 a1) {va2 : Value} {fa2 : List Nat} {a2 : (List Int)} (ha2 : Ro Rp.int W fa2 va2 a2) {a3 : Int} (ha3 : InI a3) {r : ((List Int) × Bool)} (hF : F_spec_l27Way_body rc a0_0 a1 a2 a3 = some r) :
    Calls Tryd.prog 35 [.agg #[va0_0], va1, va2, .int .i64 a3].toArray W (Ret fun u w' => ∃ (u0 : Value) (u1 : Value) (fp_u0 : List Nat), u = .tuple #[u0, u1] ∧ Ro Rp.int w' fp_u0 u0 r.1 ∧ Pv (fa0_0 ++ fa1 ++ fa2) W.heap.size fp_u0 ∧ u1 = .bool r.2 ∧ Ext W w') := by
  refine f_enter Tryd.func35 rfl Tryd.ntmps35 rfl ?_
  intro a ha
  replace ha : Fr 85 [(0, (.agg #[va0_0])), (1, va1), (2, va2), (3, (.int .i64 a3))] a := ha
  have hE : Chg [] W W := Chg.refl _ _
  unfold F_spec_l27Way_body at hF
  refine wp_seq ?_; refine wp_region_lit ?_
  refine o_box ha rfl rfl rfl ?_; clear ha a; intro b1 w2 hB3 hx4 hlo5 a ha
  have q6 := Zn.one hlo5
  have q7 := Zn.upD q6 hE
  have hE8 := Ext.trans hE hx4
  (iterate 2 refine op_g ha rfl (g_assign rfl) ?_; clear ha a; intro a ha); refine wpList_nil ?_; replace ha := ha.sub (σ' := [(1, va1), (2, va2), (3, (.int .i64 a3)), (4, (.pointer (some ⟨b1, 0, none⟩)))]) ⟨rfl, rfl, rfl, rfl, trivial⟩; refine e_then ?_; refine wp_seq ?_; refine wp_region_lit ?_; (iterate 2 refine op_g ha rfl (g_move rfl) ?_; clear ha a; intro a ha); refine op_g ha rfl (g_lenR sl26.und ha2 rfl) ?_; clear ha a; intro a ha; obtain ⟨hI9, hF⟩ := ck_some hF; refine op_g ha rfl (g_sub rfl rfl hI9) ?_; clear ha a; intro a ha; obtain ⟨x11, g12, gx13, hF⟩ := idx_some hF
  obtain ⟨p14, cs15, f16, hf17, hpb18, hat19, hr20, hi21⟩ := ha2.at g12 gx13
  obtain ⟨rfl, hI22, rfl⟩ := hr20
  refine op_g ha rfl (hi21.gives sl26 rfl rfl) ?_; clear ha a; intro a ha; refine op_g ha rfl (g_load0 hE8 Tryd.isAgg2 rfl hat19.one) ?_; clear ha a; intro a ha; refine op_g ha rfl (g_assign rfl) ?_; clear ha a; intro a ha; refine wpList_nil ?_; replace ha := ha.sub (σ' := [(1, va1), (2, va2), (3, (.int .i64 a3)), (4, (.pointer (some ⟨b1, 0, none⟩))), (10, (.int .i64 x11))]) ⟨rfl, rfl, rfl, rfl, rfl, trivial⟩; refine e_then ?_; refine wp_seq ?_; refine wp_seq ?_; refine wp_region_lit ?_; refine op_g ha rfl (g_assign rfl) ?_; clear ha a; intro a ha; refine wpList_nil ?_; replace ha := ha.sub (σ' := [(1, va1), (2, va2), (3, (.int .i64 a3)), (4, (.pointer (some ⟨b1, 0, none⟩))), (10, (.int .i64 x11)), (11, (.int .i64 0))]) ⟨rfl, rfl, rfl, rfl, rfl, rfl, trivial⟩
  refine e_then ?_; obtain ⟨o384, ho385, hK386⟩ := bnd_some hF
  obtain ⟨n387, hn388⟩ := lp_some ho385; clear ho385
  refine c_loop (fun a w => Fr 85 [(2, va2)] a ∧ Chg [] W w ∧ o384 = .inl ()) (fun n a w => ∃ (i205 : Int), Fr 85 [(1, va1), (2, va2), (3, (.int .i64 a3)), (4, (.pointer (some ⟨b1, 0, none⟩))), (10, (.int .i64 x11)), (11, (.int .i64 i205))] a ∧ Chg [] W w ∧ InI i205 ∧ Bx w b1 [va0_0] 29 ∧ Zn W (b1 : Int) ∧ lpN (fun s => F_spec_l27Way_l1 a0_0 a1 a2 a3 rc x11 s) n i205 = some o384) n387 ⟨0, ha.sub ⟨rfl, rfl, rfl, rfl, rfl, rfl, trivial⟩, hE8, (show InI 0 from by decide), hB3, q7, hn388⟩ ?_ ?_
  · rintro m392 a w202 ⟨i205, ha, hE207, hI206, hB203, z204, hF⟩
    cases m392 with
    | zero => exact (lpN_zero hF).elim
    | succ m392 =>
      obtain ⟨z391, hF, hN390⟩ := lpN_succ hF
      have hF : F_spec_l27Way_l1 a0_0 a1 a2 a3 rc x11 i205 = some z391 := hF; unfold F_spec_l27Way_l1 at hF
      refine wp_seq ?_; refine wp_seq ?_; refine wp_region_lit ?_; refine op_g ha rfl (g_move rfl) ?_; clear ha a; intro a ha; refine op_g ha rfl (g_field0 st29_0 rfl) ?_; clear ha a; intro a ha; refine op_g ha rfl (g_load Tryd.isAgg22 rfl (hB203.cell rfl)) ?_; clear ha a; intro a ha; refine op_g ha rfl (g_move rfl) ?_; clear ha a; intro a ha; obtain ⟨x393, g394, gx395, hF⟩ := idx_some hF
      obtain ⟨p396, cs397, f398, hf399, hpb400, hat401, hr402, hi403⟩ := ha0_0.at g394 gx395
      obtain ⟨v404, rfl, h405⟩ := hr402
      have h405 : Ro Rp.int W f398 v404 x393 := h405
      have q407 := (Pv.mono (Pv.par (fun _ h => List.mem_append_left _ (List.mem_append_left _ h))) hf399 : Pv (fa0_0 ++ fa1 ++ fa2) W.heap.size f398)
      refine op_g ha rfl (hi403.gives sl22 rfl rfl) ?_; clear ha a; intro a ha; refine op_g ha rfl (g_load0 hE207 Tryd.isAgg26 rfl hat401.one) ?_; clear ha a; intro a ha; refine op_g ha rfl (g_lenR sl26.und h405 rfl) ?_; clear ha a; intro a ha; refine op_g ha rfl (g_lss rfl rfl) ?_; clear ha a; intro a ha; refine wpList_nil ?_; replace ha := ha.sub (σ' := [(1, va1), (2, va2), (3, (.int .i64 a3)), (4, (.pointer (some ⟨b1, 0, none⟩))), (10, (.int .i64 x11)), (11, (.int .i64 i205)), (28, (.bool (decide (i205 < (x393.length : Int)))))]) ⟨rfl, rfl, rfl, rfl, rfl, rfl, rfl, trivial⟩; refine e_then ?_
      refine c_cond (i205 < (x393.length : Int)) ha rfl (decide_eq_true_iff) (fun hp408 => ?_) (fun hp408 => ?_)
      · replace hF := if_t hp408 hF
        refine wp_skip ?_; refine e_then ?_; refine wp_seq ?_; refine wp_block ?_; refine wp_seq ?_; refine wp_region_lit ?_; refine op_g ha rfl (g_field0 st29_0 rfl) ?_; clear ha a; intro a ha; refine op_g ha rfl (g_load Tryd.isAgg22 rfl (hB203.cell rfl)) ?_; clear ha a; intro a ha; refine op_g ha rfl (g_move rfl) ?_; clear ha a; intro a ha; obtain ⟨x409, g410, gx411, hF⟩ := idx_some hF
        obtain ⟨p412, cs413, f414, hf415, hpb416, hat417, hr418, hi419⟩ := ha0_0.at g410 gx411
        obtain ⟨v420, rfl, h421⟩ := hr418
        have h421 : Ro Rp.int W f414 v420 x409 := h421
        have q423 := (Pv.mono (Pv.par (fun _ h => List.mem_append_left _ (List.mem_append_left _ h))) hf415 : Pv (fa0_0 ++ fa1 ++ fa2) W.heap.size f414)
        refine op_g ha rfl (hi419.gives sl22 rfl rfl) ?_; clear ha a; intro a ha; refine op_g ha rfl (g_load0 hE207 Tryd.isAgg26 rfl hat417.one) ?_; clear ha a; intro a ha; refine op_g ha rfl (g_move rfl) ?_; clear ha a; intro a ha; obtain ⟨x424, g425, gx426, hF⟩ := idx_some hF
        obtain ⟨p427, cs428, f429, hf430, hpb431, hat432, hr433, hi434⟩ := h421.at g425 gx426
        obtain ⟨rfl, hI435, rfl⟩ := hr433
        refine op_g ha rfl (hi434.gives sl26 rfl rfl) ?_; clear ha a; intro a ha; refine op_g ha rfl (g_load0 hE207 Tryd.isAgg2 rfl hat432.one) ?_; clear ha a; intro a ha; refine op_g ha rfl (g_assign rfl) ?_; clear ha a; intro a ha; refine wpList_nil ?_; replace ha := ha.sub (σ' := [(1, va1), (2, va2), (3, (.int .i64 a3)), (4, (.pointer (some ⟨b1, 0, none⟩))), (10, (.int .i64 x11)), (11, (.int .i64 i205)), (12, (.int .i64 x424))]) ⟨rfl, rfl, rfl, rfl, rfl, rfl, rfl, trivial⟩; refine e_then ?_; refine wp_seq ?_; refine wp_seq ?_; refine wp_region_lit ?_; (iterate 2 refine op_g ha rfl (g_move rfl) ?_; clear ha a; intro a ha)
        obtain ⟨x456, hc457, hF⟩ := cal_some hF
        refine o_call ha rfl rfl Tryd.call44 (W_spec_l1Has (ha2.ext hE207) hI435 hc457) ?_; clear ha a; rintro v458 w459 ⟨rfl, hx460⟩ a ha
        replace hB203 := hB203.ext hx460
        have hE461 := Ext.trans hE207 hx460
        refine op_g ha rfl (g_move rfl) ?_; clear ha a; intro a ha
        by_cases hp462 : x456 = true
        · replace hF := if_t hp462 hF
          rw [show (x456) = true from (Iff.rfl).2 hp462] at ha
          (iterate 8 refine op_unwant ha rfl (yields ha rfl rfl) rfl ?_; clear ha a; intro a ha); refine op_g ha rfl (g_pick rfl rfl) ?_; clear ha a; intro a ha; refine wpList_nil ?_; replace ha := ha.sub (σ' := [(1, va1), (2, va2), (3, (.int .i64 a3)), (4, (.pointer (some ⟨b1, 0, none⟩))), (10, (.int .i64 x11)), (11, (.int .i64 i205)), (12, (.int .i64 x424)), (51, (.bool true))]) ⟨rfl, rfl, rfl, rfl, rfl, rfl, rfl, rfl, trivial⟩; refine e_then ?_; refine c_true ha rfl ?_; refine wp_exit ?_; refine e_then_exit ?_; refine e_blk_eq ?_; refine e_then ?_; refine wp_region_lit ?_; refine op_g ha rfl (g_move rfl) ?_; clear ha a; intro a ha
          obtain ⟨hI463, hF⟩ := ck_some hF; refine op_g ha rfl (g_add rfl rfl hI463) ?_; clear ha a; intro a ha; refine op_g ha rfl (g_assign rfl) ?_; clear ha a; intro a ha; refine wpList_nil ?_; replace ha := ha.sub (σ' := [(1, va1), (2, va2), (3, (.int .i64 a3)), (4, (.pointer (some ⟨b1, 0, none⟩))), (10, (.int .i64 x11)), (11, (.int .i64 (i205 + 1)))]) ⟨rfl, rfl, rfl, rfl, rfl, rfl, trivial⟩; refine e_lq ?_; obtain rfl := Option.some.inj hF
          exact ⟨_, Nat.lt_succ_self _, i205 + 1, ha.sub ⟨rfl, rfl, rfl, rfl, rfl, rfl, trivial⟩, hE461, hI463, hB203, z204, hN390⟩
        replace hF := if_f hp462 hF
        rw [show (x456) = false from b_false (Iff.rfl) hp462] at ha
        refine op_want (yields ha rfl rfl) ?_; refine op_g ha rfl (g_move rfl) ?_; clear ha a; intro a ha; refine op_want (yields ha rfl rfl) ?_; refine op_g ha rfl (g_eql rfl rfl) ?_; clear ha a; intro a ha; refine op_want (yields ha rfl rfl) ?_; refine op_g ha rfl (g_move rfl) ?_; clear ha a; intro a ha; refine op_want (yields ha rfl rfl) ?_; refine op_g ha rfl (g_move rfl) ?_; clear ha a; intro a ha; refine op_want (yields ha rfl rfl) ?_; obtain ⟨x465, g466, gx467, hF⟩ := idx_some hF
        obtain ⟨p468, cs469, f470, hf471, hpb472, hat473, hr474, hi475⟩ := ha1.at g466 gx467
        obtain ⟨rfl, hI476, rfl⟩ := hr474
        refine op_g ha rfl (hi475.gives sl26 rfl rfl) ?_; clear ha a; intro a ha; refine op_want (yields ha rfl rfl) ?_; refine op_g ha rfl (g_load0 hE461 Tryd.isAgg2 rfl hat473.one) ?_; clear ha a; intro a ha; refine op_want (yields ha rfl rfl) ?_; refine op_g ha rfl (g_lss rfl rfl) ?_; clear ha a; intro a ha; refine op_want (yields ha rfl rfl) ?_; refine op_g ha rfl (gB_neq un4 rfl rfl) ?_; clear ha a; intro a ha; refine op_g ha rfl (g_pick rfl rfl) ?_; clear ha a; intro a ha; refine wpList_nil ?_; replace ha := ha.sub (σ' := [(1, va1), (2, va2), (3, (.int .i64 a3)), (4, (.pointer (some ⟨b1, 0, none⟩))), (10, (.int .i64 x11)), (11, (.int .i64 i205)), (12, (.int .i64 x424)), (43, (.int .i64 a3)), (44, (.bool (decide (a3 = 1)))), (45, va1), (46, (.int .i64 x424)), (47, (.pointer (some p468))), (48, (.int .i64 x465)), (49, (.bool (decide (x465 < 0)))), (50, (.bool ((decide (a3 = 1)) != (decide (x465 < 0))))), (51, (.bool ((decide (a3 = 1)) != (decide (x465 < 0)))))]) ⟨rfl, rfl, rfl, rfl, rfl, rfl, rfl, rfl, rfl, rfl, rfl, rfl, rfl, rfl, rfl, rfl, trivial⟩
        refine e_then ?_; refine c_cond (((decide (a3 = 1)) != (decide (x465 < 0))) = true) ha rfl (Iff.rfl) (fun hp477 => ?_) (fun hp477 => ?_)
        · replace hF := if_t hp477 hF
          refine wp_exit ?_; refine e_then_exit ?_; refine e_blk_eq ?_; refine e_then ?_; refine wp_region_lit ?_; refine op_g ha rfl (g_move rfl) ?_; clear ha a; intro a ha; obtain ⟨hI478, hF⟩ := ck_some hF; refine op_g ha rfl (g_add rfl rfl hI478) ?_; clear ha a; intro a ha; refine op_g ha rfl (g_assign rfl) ?_; clear ha a; intro a ha; refine wpList_nil ?_; replace ha := ha.sub (σ' := [(1, va1), (2, va2), (3, (.int .i64 a3)), (4, (.pointer (some ⟨b1, 0, none⟩))), (10, (.int .i64 x11)), (11, (.int .i64 (i205 + 1))), (43, (.int .i64 a3)), (44, (.bool (decide (a3 = 1)))), (45, va1), (46, (.int .i64 x424)), (47, (.pointer (some p468))), (48, (.int .i64 x465)), (49, (.bool (decide (x465 < 0)))), (50, (.bool ((decide (a3 = 1)) != (decide (x465 < 0)))))]) ⟨rfl, rfl, rfl, rfl, rfl, rfl, rfl, rfl, rfl, rfl, rfl, rfl, rfl, rfl, trivial⟩
          refine e_lq ?_; obtain rfl := Option.some.inj hF
          exact ⟨_, Nat.lt_succ_self _, i205 + 1, ha.sub ⟨rfl, rfl, rfl, rfl, rfl, rfl, trivial⟩, hE461, hI478, hB203, z204, hN390⟩
        replace hF := if_f hp477 hF; refine wp_skip ?_; refine e_then ?_; refine wp_seq ?_; refine wp_seq ?_; refine wp_region_lit ?_; refine op_g ha rfl (g_move rfl) ?_; clear ha a; intro a ha; refine op_g ha rfl (g_eql rfl rfl) ?_; clear ha a; intro a ha; refine wpList_nil ?_; replace ha := ha.sub (σ' := [(1, va1), (2, va2), (3, (.int .i64 a3)), (4, (.pointer (some ⟨b1, 0, none⟩))), (10, (.int .i64 x11)), (11, (.int .i64 i205)), (12, (.int .i64 x424)), (43, (.int .i64 a3)), (44, (.bool (decide (a3 = 1)))), (45, va1), (46, (.int .i64 x424)), (47, (.pointer (some p468))), (48, (.int .i64 x465)), (49, (.bool (decide (x465 < 0)))), (50, (.bool ((decide (a3 = 1)) != (decide (x465 < 0))))), (53, (.bool (decide (a3 = 1))))]) ⟨rfl, rfl, rfl, rfl, rfl, rfl, rfl, rfl, rfl, rfl, rfl, rfl, rfl, rfl, rfl, rfl, trivial⟩
        refine e_then ?_; refine c_cond (a3 = 1) ha rfl (decide_eq_true_iff) (fun hp480 => ?_) (fun hp480 => ?_)
        · replace hF := if_t hp480 hF
          refine wp_seq ?_; refine wp_region_lit ?_; refine op_g ha rfl (g_move rfl) ?_; clear ha a; intro a ha; obtain ⟨x481, hc482, hF⟩ := cal_some hF
          refine o_call ha rfl rfl Tryd.call55 (W_spec_l1Copy (ha2.ext hE461) hc482) ?_; clear ha a; rintro v483 w484 ⟨b486, h487, z488, hx485⟩ a ha
          have q490 := Nq.new hB203.fpb z488
          have q491 := Nq.madeO z488 hB203.bi
          replace hB203 := hB203.ext hx485
          have hE492 := Ext.trans hE461 hx485
          have q493 := Zn.upD z488 hE461
          refine op_g ha rfl (g_move rfl) ?_; clear ha a; intro a ha
          refine o_lit1 (o := true) (y := x424) Rp.int ha rfl sl26 rfl rfl rfl ⟨rfl, hI435, rfl⟩ ?_; clear ha a; intro v494 w495 h496 hx497 a ha
          obtain ⟨b499, hb499⟩ : ∃ b : Int, b = w484.heap.size := ⟨_, rfl⟩; rw [← hb499] at h496
          have q500 := zn_of hb499
          have q501 := Nq.new hB203.fpb q500
          have q502 := Nq.madeO q500 hB203.bi
          have q503 := Nq.new h487.fpb q500
          have q504 := Nq.madeO q500 h487.blt
          have q505 := Zn.upD q500 hE492
          replace hB203 := hB203.ext hx497
          replace h487 := h487.ext hx497
          have hE506 := Ext.trans hE492 hx497
          obtain ⟨hl507, hF⟩ := app_some hF
          refine o_append ha rfl sl26 rfl rfl rfl h487 h496.src (Nq.nil _) hl507 ?_; clear ha a; intro v508 w509 b510 h511 hc512 hb513 a ha
          replace h511 : Ow Rp.int 2 true w509 [] b510 v508 _ := h511
          have q515 := Nq.appY q490 hB203.fpb hb513
          have q516 := Nq.appX q491 (Nq.nil _) hb513 hB203.bi
          have q517 := Nq.appY q504 h496.fpb hb513
          have q518 := Nq.appX q503 (Nq.nil _) hb513 h496.blt
          have q519 := Zn.appD q493 hb513 hE506
          replace hB203 := hB203.nq hc512 q490
          replace h496 := h496.nq hc512 q504
          have hE520 := Ext.then hE506 hc512 (Zn.bl q493)
          (iterate 2 refine op_g ha rfl (g_assign rfl) ?_; clear ha a; intro a ha); refine wpList_nil ?_; replace ha := ha.sub (σ' := [(8, v508), (9, (.bool true))]) ⟨rfl, rfl, trivial⟩; refine e_then ?_; refine wp_ret ?_; refine e_then_ret ?_; refine e_blk_ret ?_; refine e_then_ret ?_; refine e_lq_ret ?_; refine e_then_ret ?_
          obtain ⟨fp521, h522, hs523⟩ := h511.roF
          obtain rfl := Option.some.inj hF
          have e524 := LK_inr hN390; subst e524
          have e525 := BK_inr hK386; subst e525
          exact f_ret2 ha rfl rfl rfl ⟨_, _, _, rfl, h522, (Pv.mono (Pv.own q519 (zf_nil _)) hs523), rfl, hE520⟩
        replace hF := if_f hp480 hF; refine wp_skip ?_; refine e_then ?_; refine wp_seq ?_; refine wp_seq ?_; refine wp_region_lit ?_; (iterate 3 refine op_g ha rfl (g_move rfl) ?_; clear ha a; intro a ha); obtain ⟨x526, g527, gx528, hF⟩ := idx_some hF
        obtain ⟨p529, cs530, f531, hf532, hpb533, hat534, hr535, hi536⟩ := ha1.at g527 gx528
        obtain ⟨rfl, hI537, rfl⟩ := hr535
        refine op_g ha rfl (hi536.gives sl26 rfl rfl) ?_; clear ha a; intro a ha; refine op_g ha rfl (g_load0 hE461 Tryd.isAgg2 rfl hat534.one) ?_; clear ha a; intro a ha; obtain ⟨x538, hc539, hF⟩ := cal_some hF
        refine o_call ha rfl rfl Tryd.call44 (W_spec_l1Has (ha2.ext hE461) hI537 hc539) ?_; clear ha a; rintro v540 w541 ⟨rfl, hx542⟩ a ha
        replace hB203 := hB203.ext hx542
        have hE543 := Ext.trans hE461 hx542
        refine wpList_nil ?_; replace ha := ha.sub (σ' := [(1, va1), (2, va2), (3, (.int .i64 a3)), (4, (.pointer (some ⟨b1, 0, none⟩))), (10, (.int .i64 x11)), (11, (.int .i64 i205)), (12, (.int .i64 x424)), (43, (.int .i64 a3)), (44, (.bool (decide (a3 = 1)))), (45, va1), (46, (.int .i64 x424)), (47, (.pointer (some p468))), (48, (.int .i64 x465)), (49, (.bool (decide (x465 < 0)))), (50, (.bool ((decide (a3 = 1)) != (decide (x465 < 0))))), (64, (.bool x538))]) ⟨rfl, rfl, rfl, rfl, rfl, rfl, rfl, rfl, rfl, rfl, rfl, rfl, rfl, rfl, rfl, rfl, trivial⟩; refine e_then ?_; refine c_cond (x538 = true) ha rfl (Iff.rfl) (fun hp544 => ?_) (fun hp544 => ?_)
        · replace hF := if_t hp544 hF
          refine wp_exit ?_; refine e_then_exit ?_; refine e_blk_eq ?_; refine e_then ?_; refine wp_region_lit ?_; refine op_g ha rfl (g_move rfl) ?_; clear ha a; intro a ha; obtain ⟨hI545, hF⟩ := ck_some hF; refine op_g ha rfl (g_add rfl rfl hI545) ?_; clear ha a; intro a ha; refine op_g ha rfl (g_assign rfl) ?_; clear ha a; intro a ha; refine wpList_nil ?_; replace ha := ha.sub (σ' := [(1, va1), (2, va2), (3, (.int .i64 a3)), (4, (.pointer (some ⟨b1, 0, none⟩))), (10, (.int .i64 x11)), (11, (.int .i64 (i205 + 1))), (43, (.int .i64 a3)), (44, (.bool (decide (a3 = 1)))), (45, va1), (46, (.int .i64 x424)), (47, (.pointer (some p468))), (48, (.int .i64 x465)), (49, (.bool (decide (x465 < 0)))), (50, (.bool ((decide (a3 = 1)) != (decide (x465 < 0)))))]) ⟨rfl, rfl, rfl, rfl, rfl, rfl, rfl, rfl, rfl, rfl, rfl, rfl, rfl, rfl, trivial⟩
          refine e_lq ?_; obtain rfl := Option.some.inj hF
          exact ⟨_, Nat.lt_succ_self _, i205 + 1, ha.sub ⟨rfl, rfl, rfl, rfl, rfl, rfl, trivial⟩, hE543, hI545, hB203, z204, hN390⟩
        replace hF := if_f hp544 hF; refine wp_skip ?_; refine e_then ?_; refine wp_seq ?_; refine x_region [0, 1, 2, 3, 4, 5, 6, 7, 8, 9, 10, 11, 12, 13, 14, 15, 16, 17, 18] hmix ?_
        have hS547 := RowKit.Below.refl w541.heap.size w541
        refine x_g 0 rfl (by kernel_rfl) (want0 _) ha rfl hS547 (g_loadA (cs := [va0_0]) Tryd.isAgg29 Tryd.sizeOf29 rfl (by simp) hB203.all) ?_; clear ha a; intro a ha; refine x_g 1 rfl (by kernel_rfl) (want0 _) ha rfl hS547 (g_move rfl) ?_; clear ha a; intro a ha; refine x_g 2 rfl (by kernel_rfl) (want0 _) ha rfl hS547 (g_move rfl) ?_; clear ha a; intro a ha; refine x_g 4 rfl (by kernel_rfl) (want0 _) ha rfl hS547 (g_move rfl) ?_; clear ha a; intro a ha; refine x_g 5 rfl (by kernel_rfl) (want0 _) ha rfl hS547 (g_move rfl) ?_; clear ha a; intro a ha; refine x_g 6 rfl (by kernel_rfl) (want0 _) ha rfl hS547 (g_move rfl) ?_; clear ha a; intro a ha
        obtain ⟨x548, g549, gx550, hF⟩ := idx_some hF
        obtain ⟨p551, cs552, f553, hf554, hpb555, hat556, hr557, hi558⟩ := ha1.at g549 gx550
        obtain ⟨rfl, hI559, rfl⟩ := hr557
        refine x_g 7 rfl (by kernel_rfl) (want0 _) ha rfl hS547 (hi558.gives sl26 rfl rfl) ?_; clear ha a; intro a ha; refine x_g 8 rfl (by kernel_rfl) (want0 _) ha rfl hS547 (g_load0 hE543 Tryd.isAgg2 rfl hat556.one) ?_; clear ha a; intro a ha; refine x_g 11 rfl (by kernel_rfl) (want0 _) ha rfl hS547 (g_move rfl) ?_; clear ha a; intro a ha; obtain ⟨hI560, hF⟩ := ck_some hF; refine x_g 12 rfl (by kernel_rfl) (want0 _) ha rfl hS547 (g_sub rfl rfl hI560) ?_; clear ha a; intro a ha; obtain ⟨xqr3o3_1, hcqr3o3_1, hF⟩ := cal_some hF; obtain ⟨hlqr3o10_1, hF⟩ := app_some hF; obtain ⟨xqr3o13_1, hcqr3o13_1, hF⟩ := cal_some hF
        refine x_many [3, 9] (by kernel_rfl) rfl fun wqr3_1 hxqr3_1 => ⟨⟨_, rfl, ?_⟩, ⟨_, rfl, ?_⟩, trivial⟩
        · skip
          replace hB203 := hB203.ext hxqr3_1
          have hEqr3o3_1 := Ext.trans hE543 hxqr3_1
          have qqr3o3_1 := bel_step hS547 hxqr3_1
          refine o_call ha rfl rfl Tryd.call55 (W_spec_l1Copy (ha2.ext hEqr3o3_1) hcqr3o3_1) ?_; clear ha a; rintro vqr3o3_1 wqr3o3_1 ⟨bqr3o3_1, hqr3o3_1, zqr3o3_1, hxqr3o3_1⟩ a ha
          have qqr3o3_2 := Zn.upB zqr3o3_1 qqr3o3_1
          have qqr3o3_3 := Nq.new hB203.fpb zqr3o3_1
          have qqr3o3_4 := Nq.madeO zqr3o3_1 hB203.bi
          replace hB203 := hB203.ext hxqr3o3_1
          have hEqr3o3_2 := Ext.trans hEqr3o3_1 hxqr3o3_1
          have qqr3o3_5 := Zn.upD zqr3o3_1 hEqr3o3_1
          refine wpList_nil (e_sq ?_)
          have hStqr3o3_1 : RowKit.Below w541.heap.size wqr3_1 wqr3o3_1 := ext_bel qqr3o3_1.size hxqr3o3_1
          refine ⟨fun _ => hStqr3o3_1, ?_⟩
          have qqr3o3_6 := RowKit.Below.trans qqr3o3_1 hStqr3o3_1
          refine x_only 9 rfl (by kernel_rfl) ?_; intro wqr3o9_1 hxqr3o9_1
          replace hB203 := hB203.ext hxqr3o9_1
          replace hqr3o3_1 := hqr3o3_1.ext hxqr3o9_1
          have hEqr3o9_1 := Ext.trans hEqr3o3_2 hxqr3o9_1
          have qqr3o9_1 := bel_step qqr3o3_6 hxqr3o9_1
          have hvobqr3o9_1 : ∀ p ∈ ([((.int .i64 x424), [(.int .i64 x424)]), ((.int .i64 x548), [(.int .i64 x548)])] : List (Value × List Value)), p.1.cells = p.2.toArray ∧ p.2.length = 1 := by
            intro p hp; simp only [List.mem_cons, List.not_mem_nil, or_false] at hp; rcases hp with hp | hp <;> subst hp <;> first | exact ⟨rfl, rfl⟩
          refine o_litM (o := true) (f := []) (ps := [((.int .i64 x424), [(.int .i64 x424)]), ((.int .i64 x548), [(.int .i64 x548)])]) (ys := [x424, x548]) Rp.int ha rfl sl26 rfl rfl rfl rfl hvobqr3o9_1 ⟨[], [], [(.int .i64 x424)], _, rfl, rfl, ⟨rfl, hI435, rfl⟩, ⟨[], [], [(.int .i64 x548)], _, rfl, rfl, ⟨rfl, hI559, rfl⟩, ⟨rfl, rfl⟩⟩⟩ ?_; clear ha a; intro vqr3o9_1 wqr3o9_2 hqr3o9_1 hxqr3o9_2 a ha
          obtain ⟨bqr3o9_1, hbqr3o9_1⟩ : ∃ b : Int, b = wqr3o9_1.heap.size := ⟨_, rfl⟩; rw [← hbqr3o9_1] at hqr3o9_1
          have qqr3o9_2 := zn_of hbqr3o9_1
          have qqr3o9_3 := Nq.new hB203.fpb qqr3o9_2
          have qqr3o9_4 := Nq.madeO qqr3o9_2 hB203.bi
          have qqr3o9_5 := Nq.new hqr3o3_1.fpb qqr3o9_2
          have qqr3o9_6 := Nq.madeO qqr3o9_2 hqr3o3_1.blt
          have qqr3o9_7 := Zn.upD qqr3o9_2 hEqr3o9_1
          have qqr3o9_8 := Zn.upB qqr3o9_2 qqr3o9_1
          replace hB203 := hB203.ext hxqr3o9_2
          replace hqr3o3_1 := hqr3o3_1.ext hxqr3o9_2
          have hEqr3o9_2 := Ext.trans hEqr3o9_1 hxqr3o9_2
          refine wpList_nil (e_sq ?_)
          have hStqr3o9_1 : RowKit.Below w541.heap.size wqr3o9_1 wqr3o9_2 := ext_bel qqr3o9_1.size hxqr3o9_2
          refine ⟨fun _ => hStqr3o9_1, ?_⟩
          have qqr3o9_9 := RowKit.Below.trans qqr3o9_1 hStqr3o9_1
          refine x_only 10 rfl (by kernel_rfl) ?_; intro wqr3o10_1 hxqr3o10_1
          replace hB203 := hB203.ext hxqr3o10_1
          replace hqr3o3_1 := hqr3o3_1.ext hxqr3o10_1
          replace hqr3o9_1 := hqr3o9_1.ext hxqr3o10_1
          have hEqr3o10_1 := Ext.trans hEqr3o9_2 hxqr3o10_1
          have qqr3o10_1 := bel_step qqr3o9_9 hxqr3o10_1
          refine o_append ha rfl sl26 rfl rfl rfl hqr3o3_1 hqr3o9_1.src (Nq.nil _) hlqr3o10_1 ?_; clear ha a; intro vqr3o10_1 wqr3o10_2 bqr3o10_1 hqr3o10_1 hcqr3o10_1 hbqr3o10_1 a ha
          replace hqr3o10_1 : Ow Rp.int 2 true wqr3o10_2 [] bqr3o10_1 vqr3o10_1 _ := hqr3o10_1
          have qqr3o10_2 := Nq.appY qqr3o3_3 hB203.fpb hbqr3o10_1
          have qqr3o10_3 := Nq.appX qqr3o3_4 (Nq.nil _) hbqr3o10_1 hB203.bi
          have qqr3o10_4 := Nq.appY qqr3o9_6 hqr3o9_1.fpb hbqr3o10_1
          have qqr3o10_5 := Nq.appX qqr3o9_5 (Nq.nil _) hbqr3o10_1 hqr3o9_1.blt
          have qqr3o10_6 := Zn.appD qqr3o3_5 hbqr3o10_1 hEqr3o10_1
          have qqr3o10_7 := Zn.appB qqr3o3_2 hbqr3o10_1 qqr3o10_1
          replace hB203 := hB203.nq hcqr3o10_1 qqr3o3_3
          replace hqr3o9_1 := hqr3o9_1.nq hcqr3o10_1 qqr3o9_6
          have hEqr3o10_2 := Ext.then hEqr3o10_1 hcqr3o10_1 (Zn.bl qqr3o3_5)
          refine wpList_nil (e_sq ?_)
          have hStqr3o10_1 : RowKit.Below w541.heap.size wqr3o10_1 wqr3o10_2 := chg_bel hcqr3o10_1 qqr3o10_1.size (Zn.bl qqr3o3_2)
          refine ⟨fun _ => hStqr3o10_1, ?_⟩
          have qqr3o10_8 := RowKit.Below.trans qqr3o10_1 hStqr3o10_1
          refine x_only 13 rfl (by kernel_rfl) ?_; intro wqr3o13_1 hxqr3o13_1
          replace hB203 := hB203.ext hxqr3o13_1
          replace hqr3o9_1 := hqr3o9_1.ext hxqr3o13_1
          replace hqr3o10_1 := hqr3o10_1.ext hxqr3o13_1
          have hEqr3o13_1 := Ext.trans hEqr3o10_2 hxqr3o13_1
          have qqr3o13_1 := bel_step qqr3o10_8 hxqr3o13_1
          obtain ⟨fpqr3o13_1, hroqr3o13_1, hsqr3o13_1⟩ := hqr3o10_1.roF
          refine o_call ha rfl rfl Tryd.call35 (ih (ha0_0.ext hEqr3o13_1) (ha1.ext hEqr3o13_1) hroqr3o13_1 hI560 hcqr3o13_1) ?_; clear ha a; rintro vqr3o13_1 wqr3o13_2 ⟨uqr3o13_1, uqr3o13_2, fpqr3o13_2, rfl, hqr3o13_1, pvqr3o13_1, rfl, hxqr3o13_2⟩ a ha
          have qqr3o13_2 := Nq.rd pvqr3o13_1 (Nq.append (Nq.append (Nq.new ha0_0.bnd z204) (Nq.new ha1.bnd z204)) (Nq.mono qqr3o10_3 hsqr3o13_1)) hB203.bi
          have qqr3o13_3 := Nq.rd pvqr3o13_1 (Nq.append (Nq.append (Nq.new ha0_0.bnd qqr3o9_7) (Nq.new ha1.bnd qqr3o9_7)) (Nq.mono qqr3o10_5 hsqr3o13_1)) hqr3o9_1.blt
          have qqr3o13_4 := (Pv.call pvqr3o13_1 (Pv.app (Pv.app (Pv.par (fun _ h => List.mem_append_left _ (List.mem_append_left _ h))) (Pv.par (fun _ h => List.mem_append_left _ (List.mem_append_right _ h)))) (Pv.mono (Pv.own qqr3o10_6 (zf_nil _)) hsqr3o13_1)) hEqr3o13_1.size : Pv (fa0_0 ++ fa1 ++ fa2) W.heap.size fpqr3o13_2)
          replace hB203 := hB203.ext hxqr3o13_2
          replace hqr3o9_1 := hqr3o9_1.ext hxqr3o13_2
          replace hqr3o10_1 := hqr3o10_1.ext hxqr3o13_2
          have hEqr3o13_2 := Ext.trans hEqr3o13_1 hxqr3o13_2
          refine wpList_nil (e_sq ?_)
          have hStqr3o13_1 : RowKit.Below w541.heap.size wqr3o13_1 wqr3o13_2 := ext_bel qqr3o13_1.size hxqr3o13_2
          refine ⟨fun _ => hStqr3o13_1, ?_⟩
          have qqr3o13_5 := RowKit.Below.trans qqr3o13_1 hStqr3o13_1
          refine x_g 14 rfl (by kernel_rfl) (want0 _) ha rfl qqr3o13_5 (g_move rfl) ?_; clear ha a; intro a ha; refine x_g 15 rfl (by kernel_rfl) (want0 _) ha rfl qqr3o13_5 (g_extract rfl rfl) ?_; clear ha a; intro a ha; refine x_g 16 rfl (by kernel_rfl) (want0 _) ha rfl qqr3o13_5 (g_extract rfl rfl) ?_; clear ha a; intro a ha; refine x_g 17 rfl (by kernel_rfl) (want0 _) ha rfl qqr3o13_5 (g_assign rfl) ?_; clear ha a; intro a ha; refine x_g 18 rfl (by kernel_rfl) (want0 _) ha rfl qqr3o13_5 (g_assign rfl) ?_; clear ha a; intro a ha
          refine x_done (by kernel_rfl) ?_; intro w562 hx563
          replace hB203 := hB203.ext hx563
          replace hqr3o9_1 := hqr3o9_1.ext hx563
          replace hqr3o10_1 := hqr3o10_1.ext hx563
          replace hqr3o13_1 := hqr3o13_1.ext hx563
          have hE564 := Ext.trans hEqr3o13_2 hx563
          replace ha := ha.sub (σ' := [(1, va1), (2, va2), (3, (.int .i64 a3)), (4, (.pointer (some ⟨b1, 0, none⟩))), (10, (.int .i64 x11)), (11, (.int .i64 i205)), (13, uqr3o13_1), (14, (.bool xqr3o13_1.2)), (43, (.int .i64 a3)), (44, (.bool (decide (a3 = 1)))), (45, va1), (46, (.int .i64 x424)), (47, (.pointer (some p468))), (48, (.int .i64 x465)), (49, (.bool (decide (x465 < 0)))), (50, (.bool ((decide (a3 = 1)) != (decide (x465 < 0)))))]) ⟨rfl, rfl, rfl, rfl, rfl, rfl, rfl, rfl, rfl, rfl, rfl, rfl, rfl, rfl, rfl, rfl, trivial⟩; refine e_then ?_; refine wp_seq ?_; refine wp_region_lit ?_; refine op_g ha rfl (g_move rfl) ?_; clear ha a; intro a ha
          refine wpList_nil ?_; replace ha := ha.sub (σ' := [(1, va1), (2, va2), (3, (.int .i64 a3)), (4, (.pointer (some ⟨b1, 0, none⟩))), (10, (.int .i64 x11)), (11, (.int .i64 i205)), (13, uqr3o13_1), (43, (.int .i64 a3)), (44, (.bool (decide (a3 = 1)))), (45, va1), (46, (.int .i64 x424)), (47, (.pointer (some p468))), (48, (.int .i64 x465)), (49, (.bool (decide (x465 < 0)))), (50, (.bool ((decide (a3 = 1)) != (decide (x465 < 0))))), (82, (.bool xqr3o13_1.2))]) ⟨rfl, rfl, rfl, rfl, rfl, rfl, rfl, rfl, rfl, rfl, rfl, rfl, rfl, rfl, rfl, rfl, trivial⟩; refine e_then ?_; refine c_cond (xqr3o13_1.2 = true) ha rfl (Iff.rfl) (fun hp565 => ?_) (fun hp565 => ?_)
          · replace hF := if_t hp565 hF
            refine wp_seq ?_; refine wp_region_lit ?_; refine op_g ha rfl (g_move rfl) ?_; clear ha a; intro a ha; (iterate 2 refine op_g ha rfl (g_assign rfl) ?_; clear ha a; intro a ha); refine wpList_nil ?_; replace ha := ha.sub (σ' := [(8, uqr3o13_1), (9, (.bool true))]) ⟨rfl, rfl, trivial⟩; refine e_then ?_; refine wp_ret ?_; refine e_blk_ret ?_; refine e_then_ret ?_; refine e_lq_ret ?_; refine e_then_ret ?_; obtain rfl := Option.some.inj hF
            have e566 := LK_inr hN390; subst e566
            have e567 := BK_inr hK386; subst e567
            exact f_ret2 ha rfl rfl rfl ⟨_, _, _, rfl, hqr3o13_1, (qqr3o13_4), rfl, hE564⟩
          replace hF := if_f hp565 hF; refine wp_skip ?_; refine e_blk ?_; refine e_then ?_; refine wp_region_lit ?_; refine op_g ha rfl (g_move rfl) ?_; clear ha a; intro a ha; obtain ⟨hI568, hF⟩ := ck_some hF; refine op_g ha rfl (g_add rfl rfl hI568) ?_; clear ha a; intro a ha; refine op_g ha rfl (g_assign rfl) ?_; clear ha a; intro a ha; refine wpList_nil ?_; replace ha := ha.sub (σ' := [(1, va1), (2, va2), (3, (.int .i64 a3)), (4, (.pointer (some ⟨b1, 0, none⟩))), (10, (.int .i64 x11)), (11, (.int .i64 (i205 + 1))), (43, (.int .i64 a3)), (44, (.bool (decide (a3 = 1)))), (45, va1), (46, (.int .i64 x424)), (47, (.pointer (some p468))), (48, (.int .i64 x465)), (49, (.bool (decide (x465 < 0)))), (50, (.bool ((decide (a3 = 1)) != (decide (x465 < 0)))))]) ⟨rfl, rfl, rfl, rfl, rfl, rfl, rfl, rfl, rfl, rfl, rfl, rfl, rfl, rfl, trivial⟩
          refine e_lq ?_; obtain rfl := Option.some.inj hF
          exact ⟨_, Nat.lt_succ_self _, i205 + 1, ha.sub ⟨rfl, rfl, rfl, rfl, rfl, rfl, trivial⟩, hE564, hI568, hB203, z204, hN390⟩
        skip
        replace hB203 := hB203.ext hxqr3_1
        have hEqr3o9_1 := Ext.trans hE543 hxqr3_1
        have qqr3o9_1 := bel_step hS547 hxqr3_1
        have hvobqr3o9_1 : ∀ p ∈ ([((.int .i64 x424), [(.int .i64 x424)]), ((.int .i64 x548), [(.int .i64 x548)])] : List (Value × List Value)), p.1.cells = p.2.toArray ∧ p.2.length = 1 := by
          intro p hp; simp only [List.mem_cons, List.not_mem_nil, or_false] at hp; rcases hp with hp | hp <;> subst hp <;> first | exact ⟨rfl, rfl⟩
        refine o_litM (o := true) (f := []) (ps := [((.int .i64 x424), [(.int .i64 x424)]), ((.int .i64 x548), [(.int .i64 x548)])]) (ys := [x424, x548]) Rp.int ha rfl sl26 rfl rfl rfl rfl hvobqr3o9_1 ⟨[], [], [(.int .i64 x424)], _, rfl, rfl, ⟨rfl, hI435, rfl⟩, ⟨[], [], [(.int .i64 x548)], _, rfl, rfl, ⟨rfl, hI559, rfl⟩, ⟨rfl, rfl⟩⟩⟩ ?_; clear ha a; intro vqr3o9_1 wqr3o9_1 hqr3o9_1 hxqr3o9_1 a ha
        obtain ⟨bqr3o9_1, hbqr3o9_1⟩ : ∃ b : Int, b = wqr3_1.heap.size := ⟨_, rfl⟩; rw [← hbqr3o9_1] at hqr3o9_1
        have qqr3o9_2 := zn_of hbqr3o9_1
        have qqr3o9_3 := Nq.new hB203.fpb qqr3o9_2
        have qqr3o9_4 := Nq.madeO qqr3o9_2 hB203.bi
        have qqr3o9_5 := Zn.upD qqr3o9_2 hEqr3o9_1
        have qqr3o9_6 := Zn.upB qqr3o9_2 qqr3o9_1
        replace hB203 := hB203.ext hxqr3o9_1
        have hEqr3o9_2 := Ext.trans hEqr3o9_1 hxqr3o9_1
        refine wpList_nil (e_sq ?_)
        have hStqr3o9_1 : RowKit.Below w541.heap.size wqr3_1 wqr3o9_1 := ext_bel qqr3o9_1.size hxqr3o9_1
        refine ⟨fun _ => hStqr3o9_1, ?_⟩
        have qqr3o9_7 := RowKit.Below.trans qqr3o9_1 hStqr3o9_1
        refine x_only 3 rfl (by kernel_rfl) ?_; intro wqr3o3_1 hxqr3o3_1
        replace hB203 := hB203.ext hxqr3o3_1
        replace hqr3o9_1 := hqr3o9_1.ext hxqr3o3_1
        have hEqr3o3_1 := Ext.trans hEqr3o9_2 hxqr3o3_1
        have qqr3o3_1 := bel_step qqr3o9_7 hxqr3o3_1
        refine o_call ha rfl rfl Tryd.call55 (W_spec_l1Copy (ha2.ext hEqr3o3_1) hcqr3o3_1) ?_; clear ha a; rintro vqr3o3_1 wqr3o3_2 ⟨bqr3o3_1, hqr3o3_1, zqr3o3_1, hxqr3o3_2⟩ a ha
        have qqr3o3_2 := Zn.upB zqr3o3_1 qqr3o3_1
        have qqr3o3_3 := Nq.new hB203.fpb zqr3o3_1
        have qqr3o3_4 := Nq.madeO zqr3o3_1 hB203.bi
        have qqr3o3_5 := Nq.new hqr3o9_1.fpb zqr3o3_1
        have qqr3o3_6 := Nq.madeO zqr3o3_1 hqr3o9_1.blt
        replace hB203 := hB203.ext hxqr3o3_2
        replace hqr3o9_1 := hqr3o9_1.ext hxqr3o3_2
        have hEqr3o3_2 := Ext.trans hEqr3o3_1 hxqr3o3_2
        have qqr3o3_7 := Zn.upD zqr3o3_1 hEqr3o3_1
        refine wpList_nil (e_sq ?_)
        have hStqr3o3_1 : RowKit.Below w541.heap.size wqr3o3_1 wqr3o3_2 := ext_bel qqr3o3_1.size hxqr3o3_2
        refine ⟨fun _ => hStqr3o3_1, ?_⟩
        have qqr3o3_8 := RowKit.Below.trans qqr3o3_1 hStqr3o3_1
        refine x_only 10 rfl (by kernel_rfl) ?_; intro wqr3o10_1 hxqr3o10_1
        replace hB203 := hB203.ext hxqr3o10_1
        replace hqr3o9_1 := hqr3o9_1.ext hxqr3o10_1
        replace hqr3o3_1 := hqr3o3_1.ext hxqr3o10_1
        have hEqr3o10_1 := Ext.trans hEqr3o3_2 hxqr3o10_1
        have qqr3o10_1 := bel_step qqr3o3_8 hxqr3o10_1
        refine o_append ha rfl sl26 rfl rfl rfl hqr3o3_1 hqr3o9_1.src (Nq.nil _) hlqr3o10_1 ?_; clear ha a; intro vqr3o10_1 wqr3o10_2 bqr3o10_1 hqr3o10_1 hcqr3o10_1 hbqr3o10_1 a ha
        replace hqr3o10_1 : Ow Rp.int 2 true wqr3o10_2 [] bqr3o10_1 vqr3o10_1 _ := hqr3o10_1
        have qqr3o10_2 := Nq.appY qqr3o3_3 hB203.fpb hbqr3o10_1
        have qqr3o10_3 := Nq.appX qqr3o3_4 (Nq.nil _) hbqr3o10_1 hB203.bi
        have qqr3o10_4 := Nq.appY qqr3o3_5 hqr3o9_1.fpb hbqr3o10_1
        have qqr3o10_5 := Nq.appX qqr3o3_6 (Nq.nil _) hbqr3o10_1 hqr3o9_1.blt
        have qqr3o10_6 := Zn.appD qqr3o3_7 hbqr3o10_1 hEqr3o10_1
        have qqr3o10_7 := Zn.appB qqr3o3_2 hbqr3o10_1 qqr3o10_1
        replace hB203 := hB203.nq hcqr3o10_1 qqr3o3_3
        replace hqr3o9_1 := hqr3o9_1.nq hcqr3o10_1 qqr3o3_5
        have hEqr3o10_2 := Ext.then hEqr3o10_1 hcqr3o10_1 (Zn.bl qqr3o3_7)
        refine wpList_nil (e_sq ?_)
        have hStqr3o10_1 : RowKit.Below w541.heap.size wqr3o10_1 wqr3o10_2 := chg_bel hcqr3o10_1 qqr3o10_1.size (Zn.bl qqr3o3_2)
        refine ⟨fun _ => hStqr3o10_1, ?_⟩
        have qqr3o10_8 := RowKit.Below.trans qqr3o10_1 hStqr3o10_1
        refine x_only 13 rfl (by kernel_rfl) ?_; intro wqr3o13_1 hxqr3o13_1
        replace hB203 := hB203.ext hxqr3o13_1
        replace hqr3o9_1 := hqr3o9_1.ext hxqr3o13_1
        replace hqr3o10_1 := hqr3o10_1.ext hxqr3o13_1
        have hEqr3o13_1 := Ext.trans hEqr3o10_2 hxqr3o13_1
        have qqr3o13_1 := bel_step qqr3o10_8 hxqr3o13_1
        obtain ⟨fpqr3o13_1, hroqr3o13_1, hsqr3o13_1⟩ := hqr3o10_1.roF
        refine o_call ha rfl rfl Tryd.call35 (ih (ha0_0.ext hEqr3o13_1) (ha1.ext hEqr3o13_1) hroqr3o13_1 hI560 hcqr3o13_1) ?_; clear ha a; rintro vqr3o13_1 wqr3o13_2 ⟨uqr3o13_1, uqr3o13_2, fpqr3o13_2, rfl, hqr3o13_1, pvqr3o13_1, rfl, hxqr3o13_2⟩ a ha
        have qqr3o13_2 := Nq.rd pvqr3o13_1 (Nq.append (Nq.append (Nq.new ha0_0.bnd z204) (Nq.new ha1.bnd z204)) (Nq.mono qqr3o10_3 hsqr3o13_1)) hB203.bi
        have qqr3o13_3 := Nq.rd pvqr3o13_1 (Nq.append (Nq.append (Nq.new ha0_0.bnd qqr3o9_5) (Nq.new ha1.bnd qqr3o9_5)) (Nq.mono qqr3o10_5 hsqr3o13_1)) hqr3o9_1.blt
        have qqr3o13_4 := (Pv.call pvqr3o13_1 (Pv.app (Pv.app (Pv.par (fun _ h => List.mem_append_left _ (List.mem_append_left _ h))) (Pv.par (fun _ h => List.mem_append_left _ (List.mem_append_right _ h)))) (Pv.mono (Pv.own qqr3o10_6 (zf_nil _)) hsqr3o13_1)) hEqr3o13_1.size : Pv (fa0_0 ++ fa1 ++ fa2) W.heap.size fpqr3o13_2)
        replace hB203 := hB203.ext hxqr3o13_2
        replace hqr3o9_1 := hqr3o9_1.ext hxqr3o13_2
        replace hqr3o10_1 := hqr3o10_1.ext hxqr3o13_2
        have hEqr3o13_2 := Ext.trans hEqr3o13_1 hxqr3o13_2
        refine wpList_nil (e_sq ?_)
        have hStqr3o13_1 : RowKit.Below w541.heap.size wqr3o13_1 wqr3o13_2 := ext_bel qqr3o13_1.size hxqr3o13_2
        refine ⟨fun _ => hStqr3o13_1, ?_⟩
        have qqr3o13_5 := RowKit.Below.trans qqr3o13_1 hStqr3o13_1
        refine x_g 14 rfl (by kernel_rfl) (want0 _) ha rfl qqr3o13_5 (g_move rfl) ?_; clear ha a; intro a ha; refine x_g 15 rfl (by kernel_rfl) (want0 _) ha rfl qqr3o13_5 (g_extract rfl rfl) ?_; clear ha a; intro a ha; refine x_g 16 rfl (by kernel_rfl) (want0 _) ha rfl qqr3o13_5 (g_extract rfl rfl) ?_; clear ha a; intro a ha; refine x_g 17 rfl (by kernel_rfl) (want0 _) ha rfl qqr3o13_5 (g_assign rfl) ?_; clear ha a; intro a ha; refine x_g 18 rfl (by kernel_rfl) (want0 _) ha rfl qqr3o13_5 (g_assign rfl) ?_; clear ha a; intro a ha
        refine x_done (by kernel_rfl) ?_; intro w562 hx563
        replace hB203 := hB203.ext hx563
        replace hqr3o9_1 := hqr3o9_1.ext hx563
        replace hqr3o10_1 := hqr3o10_1.ext hx563
        replace hqr3o13_1 := hqr3o13_1.ext hx563
        have hE564 := Ext.trans hEqr3o13_2 hx563
        replace ha := ha.sub (σ' := [(1, va1), (2, va2), (3, (.int .i64 a3)), (4, (.pointer (some ⟨b1, 0, none⟩))), (10, (.int .i64 x11)), (11, (.int .i64 i205)), (13, uqr3o13_1), (14, (.bool xqr3o13_1.2)), (43, (.int .i64 a3)), (44, (.bool (decide (a3 = 1)))), (45, va1), (46, (.int .i64 x424)), (47, (.pointer (some p468))), (48, (.int .i64 x465)), (49, (.bool (decide (x465 < 0)))), (50, (.bool ((decide (a3 = 1)) != (decide (x465 < 0)))))]) ⟨rfl, rfl, rfl, rfl, rfl, rfl, rfl, rfl, rfl, rfl, rfl, rfl, rfl, rfl, rfl, rfl, trivial⟩; refine e_then ?_; refine wp_seq ?_; refine wp_region_lit ?_; refine op_g ha rfl (g_move rfl) ?_; clear ha a; intro a ha
        refine wpList_nil ?_; replace ha := ha.sub (σ' := [(1, va1), (2, va2), (3, (.int .i64 a3)), (4, (.pointer (some ⟨b1, 0, none⟩))), (10, (.int .i64 x11)), (11, (.int .i64 i205)), (13, uqr3o13_1), (43, (.int .i64 a3)), (44, (.bool (decide (a3 = 1)))), (45, va1), (46, (.int .i64 x424)), (47, (.pointer (some p468))), (48, (.int .i64 x465)), (49, (.bool (decide (x465 < 0)))), (50, (.bool ((decide (a3 = 1)) != (decide (x465 < 0))))), (82, (.bool xqr3o13_1.2))]) ⟨rfl, rfl, rfl, rfl, rfl, rfl, rfl, rfl, rfl, rfl, rfl, rfl, rfl, rfl, rfl, rfl, trivial⟩; refine e_then ?_; refine c_cond (xqr3o13_1.2 = true) ha rfl (Iff.rfl) (fun hp565 => ?_) (fun hp565 => ?_)
        · replace hF := if_t hp565 hF
          refine wp_seq ?_; refine wp_region_lit ?_; refine op_g ha rfl (g_move rfl) ?_; clear ha a; intro a ha; (iterate 2 refine op_g ha rfl (g_assign rfl) ?_; clear ha a; intro a ha); refine wpList_nil ?_; replace ha := ha.sub (σ' := [(8, uqr3o13_1), (9, (.bool true))]) ⟨rfl, rfl, trivial⟩; refine e_then ?_; refine wp_ret ?_; refine e_blk_ret ?_; refine e_then_ret ?_; refine e_lq_ret ?_; refine e_then_ret ?_; obtain rfl := Option.some.inj hF
          have e566 := LK_inr hN390; subst e566
          have e567 := BK_inr hK386; subst e567
          exact f_ret2 ha rfl rfl rfl ⟨_, _, _, rfl, hqr3o13_1, (qqr3o13_4), rfl, hE564⟩
        replace hF := if_f hp565 hF; refine wp_skip ?_; refine e_blk ?_; refine e_then ?_; refine wp_region_lit ?_; refine op_g ha rfl (g_move rfl) ?_; clear ha a; intro a ha; obtain ⟨hI568, hF⟩ := ck_some hF; refine op_g ha rfl (g_add rfl rfl hI568) ?_; clear ha a; intro a ha; refine op_g ha rfl (g_assign rfl) ?_; clear ha a; intro a ha; refine wpList_nil ?_; replace ha := ha.sub (σ' := [(1, va1), (2, va2), (3, (.int .i64 a3)), (4, (.pointer (some ⟨b1, 0, none⟩))), (10, (.int .i64 x11)), (11, (.int .i64 (i205 + 1))), (43, (.int .i64 a3)), (44, (.bool (decide (a3 = 1)))), (45, va1), (46, (.int .i64 x424)), (47, (.pointer (some p468))), (48, (.int .i64 x465)), (49, (.bool (decide (x465 < 0)))), (50, (.bool ((decide (a3 = 1)) != (decide (x465 < 0)))))]) ⟨rfl, rfl, rfl, rfl, rfl, rfl, rfl, rfl, rfl, rfl, rfl, rfl, rfl, rfl, trivial⟩
        refine e_lq ?_; obtain rfl := Option.some.inj hF
        exact ⟨_, Nat.lt_succ_self _, i205 + 1, ha.sub ⟨rfl, rfl, rfl, rfl, rfl, rfl, trivial⟩, hE564, hI568, hB203, z204, hN390⟩
      replace hF := if_f hp408 hF; refine wp_exit ?_; refine e_then_exit ?_; refine e_lq_eq ?_; obtain rfl := Option.some.inj hF
      exact ⟨ha.sub ⟨rfl, trivial⟩, hE207, (LK_inr hN390).symm⟩
  rintro a w383 ⟨ha, hE389, rfl⟩
  have hF : F_spec_l27Way_k2 a2 = some _ := hK386; clear hK386; unfold F_spec_l27Way_k2 at hF
  refine e_then ?_; refine wp_seq ?_; refine wp_region_lit ?_; refine op_g ha rfl (g_move rfl) ?_; clear ha a; intro a ha; (iterate 2 refine op_g ha rfl (g_assign rfl) ?_; clear ha a; intro a ha); refine wpList_nil ?_; replace ha := ha.sub (σ' := [(8, va2), (9, (.bool false))]) ⟨rfl, rfl, trivial⟩; refine e_then ?_; refine wp_ret ?_; obtain rfl := Option.some.inj hF
  exact f_ret2 ha rfl rfl rfl ⟨_, _, _, rfl, (ha2.ext hE389), (Pv.par (fun _ h => List.mem_append_right _ h)), rfl, hE389⟩
theorem W_spec_l27Way_n (n : Nat) : ∀ {W : World} {va0_0 : Value} {fa0_0 : List Nat} {a0_0 : (List (List Int))} (ha0_0 : Ro (Rp.sl 2 Rp.int) W fa0_0 va0_0 a0_0) {va1 : Value} {fa1 : List Nat} {a1 : (List Int)} (ha1 : Ro Rp.int W fa1 va1 a1) {va2 : Value} {fa2 : List Nat} {a2 : (List Int)} (ha2 : Ro Rp.int W fa2 va2 a2) {a3 : Int} (ha3 : InI a3) {r : ((List Int) × Bool)} (hF : itN (fun (rc : ((List (List Int)) × (List Int) × (List Int) × Int) → Option ((List Int) × Bool)) a => F_spec_l27Way_body (fun z0 z1 z2 z3 => rc (z0, z1, z2, z3)) a.1 a.2.1 a.2.2.1 a.2.2.2) n (a0_0, a1, a2, a3) = some r),
    Calls Tryd.prog 35 [.agg #[va0_0], va1, va2, .int .i64 a3].toArray W (Ret fun u w' => ∃ (u0 : Value) (u1 : Value) (fp_u0 : List Nat), u = .tuple #[u0, u1] ∧ Ro Rp.int w' fp_u0 u0 r.1 ∧ Pv (fa0_0 ++ fa1 ++ fa2) W.heap.size fp_u0 ∧ u1 = .bool r.2 ∧ Ext W w') := by
  induction n with
  | zero => intro W va0_0 fa0_0 a0_0 ha0_0 va1 fa1 a1 ha1 va2 fa2 a2 ha2 a3 ha3 r hF; cases hF
  | succ n ih => intro W va0_0 fa0_0 a0_0 ha0_0 va1 fa1 a1 ha1 va2 fa2 a2 ha2 a3 ha3 r hF; exact W_spec_l27Way_step (rc := fun z0 z1 z2 z3 => itN (fun (rc : ((List (List Int)) × (List Int) × (List Int) × Int) → Option ((List Int) × Bool)) a => F_spec_l27Way_body (fun z0 z1 z2 z3 => rc (z0, z1, z2, z3)) a.1 a.2.1 a.2.2.1 a.2.2.2) n (z0, z1, z2, z3)) @ih ha0_0 ha1 ha2 ha3 hF
theorem W_spec_l27Way {W : World} {va0_0 : Value} {fa0_0 : List Nat} {a0_0 : (List (List Int))} (ha0_0 : Ro (Rp.sl 2 Rp.int) W fa0_0 va0_0 a0_0) {va1 : Value} {fa1 : List Nat} {a1 : (List Int)} (ha1 : Ro Rp.int W fa1 va1 a1) {va2 : Value} {fa2 : List Nat} {a2 : (List Int)} (ha2 : Ro Rp.int W fa2 va2 a2) {a3 : Int} (ha3 : InI a3) {r : ((List Int) × Bool)} (hF : F_spec_l27Way a0_0 a1 a2 a3 = some r) :
    Calls Tryd.prog 35 [.agg #[va0_0], va1, va2, .int .i64 a3].toArray W (Ret fun u w' => ∃ (u0 : Value) (u1 : Value) (fp_u0 : List Nat), u = .tuple #[u0, u1] ∧ Ro Rp.int w' fp_u0 u0 r.1 ∧ Pv (fa0_0 ++ fa1 ++ fa2) W.heap.size fp_u0 ∧ u1 = .bool r.2 ∧ Ext W w') := by
  obtain ⟨n, hn⟩ := fixO_some hF
  exact W_spec_l27Way_n n ha0_0 ha1 ha2 ha3 hn
set_option maxHeartbeats 2000000 in
theorem W_spec_LongerPath {W : World} {va0_0 : Value} {fa0_0 : List Nat} {a0_0 : (List (List Int))} (ha0_0 : Ro (Rp.sl 2 Rp.int) W fa0_0 va0_0 a0_0) {va1 : Value} {fa1 : List Nat} {a1 : (List (List Int))} (ha1 : Ro (Rp.sl 2 Rp.int) W fa1 va1 a1) {r : (List Int)} (hF : F_spec_LongerPath a0_0 a1 = some r) :
    Calls Tryd.prog 15 [.agg #[va0_0], va1].toArray W (Ret fun u w' => ∃ (fp_u : List Nat), Ro Rp.int w' fp_u u r ∧ Pv (fa0_0 ++ fa1) W.heap.size fp_u ∧ Ext W w') := by
  refine f_enter Tryd.func15 rfl Tryd.ntmps15 rfl ?_
  intro a ha
  replace ha : Fr 48 [(0, (.agg #[va0_0])), (1, va1)] a := ha
  have hE : Chg [] W W := Chg.refl _ _
  unfold F_spec_LongerPath at hF
  refine wp_seq ?_; refine wp_region_lit ?_
  refine o_box ha rfl rfl rfl ?_; clear ha a; intro b1 w2 hB3 hx4 hlo5 a ha
  have q6 := Zn.one hlo5
  have q7 := Zn.upD q6 hE
  have hE8 := Ext.trans hE hx4
  refine op_g ha rfl (g_assign rfl) ?_; clear ha a; intro a ha; refine wpList_nil ?_; replace ha := ha.sub (σ' := [(1, va1), (2, (.pointer (some ⟨b1, 0, none⟩)))]) ⟨rfl, rfl, trivial⟩; refine e_then ?_; refine wp_seq ?_; refine wp_seq ?_; refine wp_region_lit ?_; refine op_g ha rfl (g_loadA (cs := [va0_0]) Tryd.isAgg29 Tryd.sizeOf29 rfl (by simp) hB3.all) ?_; clear ha a; intro a ha; refine op_g ha rfl (g_move rfl) ?_; clear ha a; intro a ha; obtain ⟨x9, hc10, hF⟩ := cal_some hF
  refine o_call ha rfl rfl Tryd.call33 (W_spec_MatchOk (ha0_0.ext hE8) (ha1.ext hE8) hc10) ?_; clear ha a; rintro v11 w12 ⟨rfl, hx13⟩ a ha
  replace hB3 := hB3.ext hx13
  have hE14 := Ext.trans hE8 hx13
  refine op_g ha rfl (g_not rfl) ?_; clear ha a; intro a ha; refine wpList_nil ?_; replace ha := ha.sub (σ' := [(1, va1), (2, (.pointer (some ⟨b1, 0, none⟩))), (13, (.bool (!x9)))]) ⟨rfl, rfl, rfl, trivial⟩; refine e_then ?_; refine c_cond (¬ (x9 = true)) ha rfl (n_iff (Iff.rfl)) (fun hp15 => ?_) (fun hp15 => ?_)
  · replace hF := if_t hp15 hF
    refine wp_seq ?_; refine wp_region_lit ?_
    refine o_lit0 Rp.int ha rfl sl26 ?_; clear ha a; intro v16 w17 h18 hx19 a ha
    obtain ⟨b21, hb21⟩ : ∃ b : Int, b = w12.heap.size := ⟨_, rfl⟩; rw [← hb21] at h18
    have q22 := zn_of hb21
    have q23 := Nq.new hB3.fpb q22
    have q24 := Nq.madeO q22 hB3.bi
    have q25 := Zn.upD q22 hE14
    replace hB3 := hB3.ext hx19
    have hE26 := Ext.trans hE14 hx19
    refine op_g ha rfl (g_assign rfl) ?_; clear ha a; intro a ha; refine wpList_nil ?_; replace ha := ha.sub (σ' := [(4, v16)]) ⟨rfl, trivial⟩; refine e_then ?_; refine wp_ret ?_; refine e_then_ret ?_
    obtain ⟨fp27, h28, hs29⟩ := h18.roF
    obtain rfl := Option.some.inj hF
    exact f_ret1 ha rfl rfl ⟨_, h28, (Pv.mono (Pv.own q25 (zf_nil _)) hs29), hE26⟩
  replace hF := if_f hp15 hF; refine wp_skip ?_; refine e_then ?_; refine wp_seq ?_; refine wp_region_lit ?_; refine op_g ha rfl (g_loadA (cs := [va0_0]) Tryd.isAgg29 Tryd.sizeOf29 rfl (by simp) hB3.all) ?_; clear ha a; intro a ha; refine op_g ha rfl (g_move rfl) ?_; clear ha a; intro a ha; obtain ⟨x30, hc31, hF⟩ := cal_some hF
  refine o_call ha rfl rfl Tryd.call34 (W_spec_l27Mates (ha0_0.ext hE14) (ha1.ext hE14) hc31) ?_; clear ha a; rintro v32 w33 ⟨b35, h36, z37, hx34⟩ a ha
  have q39 := Nq.new hB3.fpb z37
  have q40 := Nq.madeO z37 hB3.bi
  replace hB3 := hB3.ext hx34
  have hE41 := Ext.trans hE14 hx34
  have q42 := Zn.upD z37 hE14
  refine op_g ha rfl (g_assign rfl) ?_; clear ha a; intro a ha; refine wpList_nil ?_; replace ha := ha.sub (σ' := [(1, va1), (2, (.pointer (some ⟨b1, 0, none⟩))), (5, v32)]) ⟨rfl, rfl, rfl, trivial⟩; refine e_then ?_; refine wp_seq ?_; refine wp_seq ?_; refine wp_region_lit ?_; refine op_g ha rfl (g_assign rfl) ?_; clear ha a; intro a ha; refine wpList_nil ?_; replace ha := ha.sub (σ' := [(1, va1), (2, (.pointer (some ⟨b1, 0, none⟩))), (5, v32), (6, (.int .i64 1))]) ⟨rfl, rfl, rfl, rfl, trivial⟩; refine e_then ?_; obtain ⟨o562, ho563, hK564⟩ := bnd_some hF
  obtain ⟨n565, hn566⟩ := lp_some ho563; clear ho563
  refine c_loop (fun a w => Fr 48 [] a ∧ Chg [] W w ∧ o562 = .inl ()) (fun n a w => ∃ (i307 : Int), Fr 48 [(1, va1), (2, (.pointer (some ⟨b1, 0, none⟩))), (5, v32), (6, (.int .i64 i307))] a ∧ Chg [] W w ∧ InI i307 ∧ Bx w b1 [va0_0] 29 ∧ Zn W (b1 : Int) ∧ Ow Rp.int 2 true w [] b35 v32 x30 ∧ Zn W b35 ∧ Nq ([b1]) b35 ∧ Nq (bl b35 ++ []) (b1 : Int) ∧ lpN (fun s => F_spec_LongerPath_l1 a0_0 a1 x30 s) n i307 = some o562) n565 ⟨1, ha.sub ⟨rfl, rfl, rfl, rfl, trivial⟩, hE41, (show InI 1 from by decide), hB3, q7, h36, q42, q39, q40, hn566⟩ ?_ ?_
  · rintro m570 a w301 ⟨i307, ha, hE311, hI308, hB302, z303, h305, z306, q309, q310, hF⟩
    cases m570 with
    | zero => exact (lpN_zero hF).elim
    | succ m570 =>
      obtain ⟨z569, hF, hN568⟩ := lpN_succ hF
      have hF : F_spec_LongerPath_l1 a0_0 a1 x30 i307 = some z569 := hF; unfold F_spec_LongerPath_l1 at hF
      refine wp_seq ?_; refine wp_seq ?_; refine wp_region_lit ?_; (iterate 2 refine op_g ha rfl (g_move rfl) ?_; clear ha a; intro a ha); refine op_g ha rfl (g_lenR sl22.und ha1 rfl) ?_; clear ha a; intro a ha; obtain ⟨hI571, hF⟩ := ck_some hF; refine op_g ha rfl (g_add rfl rfl hI571) ?_; clear ha a; intro a ha; refine op_g ha rfl (g_leq rfl rfl) ?_; clear ha a; intro a ha; refine wpList_nil ?_; replace ha := ha.sub (σ' := [(1, va1), (2, (.pointer (some ⟨b1, 0, none⟩))), (5, v32), (6, (.int .i64 i307)), (22, (.bool (decide (i307 ≤ ((a1.length : Int) + 1)))))]) ⟨rfl, rfl, rfl, rfl, rfl, trivial⟩
      refine e_then ?_; refine c_cond (i307 ≤ ((a1.length : Int) + 1)) ha rfl (decide_eq_true_iff) (fun hp573 => ?_) (fun hp573 => ?_)
      · replace hF := if_t hp573 hF
        refine wp_skip ?_; refine e_then ?_; refine wp_seq ?_; refine wp_block ?_; refine wp_seq ?_; refine wp_region_lit ?_; refine op_g ha rfl (g_assign rfl) ?_; clear ha a; intro a ha; refine wpList_nil ?_; replace ha := ha.sub (σ' := [(1, va1), (2, (.pointer (some ⟨b1, 0, none⟩))), (5, v32), (6, (.int .i64 i307)), (7, (.int .i64 0))]) ⟨rfl, rfl, rfl, rfl, rfl, trivial⟩; refine e_then ?_; obtain ⟨o740, ho741, hK742⟩ := bnd_some hF
        obtain ⟨n743, hn744⟩ := lp_some ho741; clear ho741
        refine c_loop (fun a w => Fr 48 [(1, va1), (2, (.pointer (some ⟨b1, 0, none⟩))), (5, v32), (6, (.int .i64 i307))] a ∧ Chg [] W w ∧ Bx w b1 [va0_0] 29 ∧ Zn W (b1 : Int) ∧ Ow Rp.int 2 true w [] b35 v32 x30 ∧ Zn W b35 ∧ Nq ([b1]) b35 ∧ Nq (bl b35 ++ []) (b1 : Int) ∧ o740 = .inl ()) (fun n a w => ∃ (i658 : Int), Fr 48 [(1, va1), (2, (.pointer (some ⟨b1, 0, none⟩))), (5, v32), (6, (.int .i64 i307)), (7, (.int .i64 i658))] a ∧ Chg [] W w ∧ InI i658 ∧ Bx w b1 [va0_0] 29 ∧ Zn W (b1 : Int) ∧ Ow Rp.int 2 true w [] b35 v32 x30 ∧ Zn W b35 ∧ Nq ([b1]) b35 ∧ Nq (bl b35 ++ []) (b1 : Int) ∧ lpN (fun s => F_spec_LongerPath_l2 a0_0 x30 i307 s) n i658 = some o740) n743 ⟨0, ha.sub ⟨rfl, rfl, rfl, rfl, rfl, trivial⟩, hE311, (show InI 0 from by decide), hB302, z303, h305, z306, q309, q310, hn744⟩ ?_ ?_
        · rintro m748 a w652 ⟨i658, ha, hE662, hI659, hB653, z654, h656, z657, q660, q661, hF⟩
          cases m748 with
          | zero => exact (lpN_zero hF).elim
          | succ m748 =>
            obtain ⟨z747, hF, hN746⟩ := lpN_succ hF
            have hF : F_spec_LongerPath_l2 a0_0 x30 i307 i658 = some z747 := hF; unfold F_spec_LongerPath_l2 at hF
            refine wp_seq ?_; refine wp_seq ?_; refine wp_region_lit ?_; refine op_g ha rfl (g_move rfl) ?_; clear ha a; intro a ha; refine op_g ha rfl (g_loadA (cs := [va0_0]) Tryd.isAgg29 Tryd.sizeOf29 rfl (by simp) hB653.all) ?_; clear ha a; intro a ha; obtain ⟨x749, hc750, hF⟩ := cal_some hF
            refine o_call ha rfl rfl Tryd.call23 (W_spec_l1Size (ha0_0.ext hE662) hc750) ?_; clear ha a; rintro v751 w752 ⟨⟨rfl, hI754⟩, hx753⟩ a ha
            replace hB653 := hB653.ext hx753
            replace h656 := h656.ext hx753
            have hE755 := Ext.trans hE662 hx753
            refine op_g ha rfl (g_lss rfl rfl) ?_; clear ha a; intro a ha; refine wpList_nil ?_; replace ha := ha.sub (σ' := [(1, va1), (2, (.pointer (some ⟨b1, 0, none⟩))), (5, v32), (6, (.int .i64 i307)), (7, (.int .i64 i658)), (28, (.bool (decide (i658 < x749))))]) ⟨rfl, rfl, rfl, rfl, rfl, rfl, trivial⟩; refine e_then ?_; refine c_cond (i658 < x749) ha rfl (decide_eq_true_iff) (fun hp756 => ?_) (fun hp756 => ?_)
            · replace hF := if_t hp756 hF
              refine wp_skip ?_; refine e_then ?_; refine wp_seq ?_; refine wp_block ?_; refine wp_seq ?_; refine wp_seq ?_; refine wp_region_lit ?_; (iterate 2 refine op_g ha rfl (g_move rfl) ?_; clear ha a; intro a ha); obtain ⟨x757, g758, gx759, hF⟩ := idx_some hF
              obtain ⟨p760, cs761, f762, hf763, hpb764, hat765, hr766, hi767⟩ := h656.at g758 gx759
              obtain ⟨rfl, hI768, rfl⟩ := hr766
              refine op_g ha rfl (hi767.gives sl26 rfl rfl) ?_; clear ha a; intro a ha; refine op_g ha rfl (g_load Tryd.isAgg2 rfl hat765.one) ?_; clear ha a; intro a ha; refine op_g ha rfl (g_geq rfl rfl) ?_; clear ha a; intro a ha; refine wpList_nil ?_; replace ha := ha.sub (σ' := [(1, va1), (2, (.pointer (some ⟨b1, 0, none⟩))), (5, v32), (6, (.int .i64 i307)), (7, (.int .i64 i658)), (35, (.bool (decide (0 ≤ x757))))]) ⟨rfl, rfl, rfl, rfl, rfl, rfl, trivial⟩; refine e_then ?_; refine c_cond (0 ≤ x757) ha rfl (decide_eq_true_iff) (fun hp769 => ?_) (fun hp769 => ?_)
              · replace hF := if_t hp769 hF
                refine wp_exit ?_; refine e_then_exit ?_; refine e_blk_eq ?_; refine e_then ?_; refine wp_region_lit ?_; refine op_g ha rfl (g_move rfl) ?_; clear ha a; intro a ha; obtain ⟨hI770, hF⟩ := ck_some hF; refine op_g ha rfl (g_add rfl rfl hI770) ?_; clear ha a; intro a ha; refine op_g ha rfl (g_assign rfl) ?_; clear ha a; intro a ha; refine wpList_nil ?_; replace ha := ha.sub (σ' := [(1, va1), (2, (.pointer (some ⟨b1, 0, none⟩))), (5, v32), (6, (.int .i64 i307)), (7, (.int .i64 (i658 + 1)))]) ⟨rfl, rfl, rfl, rfl, rfl, trivial⟩; refine e_lq ?_; obtain rfl := Option.some.inj hF
                exact ⟨_, Nat.lt_succ_self _, i658 + 1, ha.sub ⟨rfl, rfl, rfl, rfl, rfl, trivial⟩, hE755, hI770, hB653, z654, h656, z657, q660, q661, hN746⟩
              replace hF := if_f hp769 hF; refine wp_skip ?_; refine e_then ?_; refine wp_seq ?_; refine wp_region_lit ?_; refine op_g ha rfl (g_loadA (cs := [va0_0]) Tryd.isAgg29 Tryd.sizeOf29 rfl (by simp) hB653.all) ?_; clear ha a; intro a ha; (iterate 2 refine op_g ha rfl (g_move rfl) ?_; clear ha a; intro a ha)
              refine o_lit1 (o := true) (y := i658) Rp.int ha rfl sl26 rfl rfl rfl ⟨rfl, hI659, rfl⟩ ?_; clear ha a; intro v772 w773 h774 hx775 a ha
              obtain ⟨b777, hb777⟩ : ∃ b : Int, b = w752.heap.size := ⟨_, rfl⟩; rw [← hb777] at h774
              have q778 := zn_of hb777
              have q779 := Nq.new hB653.fpb q778
              have q780 := Nq.madeO q778 hB653.bi
              have q781 := Nq.new h656.fpb q778
              have q782 := Nq.madeO q778 h656.blt
              have q783 := Zn.upD q778 hE755
              replace hB653 := hB653.ext hx775
              replace h656 := h656.ext hx775
              have hE784 := Ext.trans hE755 hx775
              refine op_g ha rfl (g_move rfl) ?_; clear ha a; intro a ha
              obtain ⟨fp785, hro786, hs787⟩ := h656.roF
              obtain ⟨fp788, hro789, hs790⟩ := h774.roF
              obtain ⟨x791, hc792, hF⟩ := cal_some hF
              refine o_call ha rfl rfl Tryd.call35 (W_spec_l27Way (ha0_0.ext hE784) hro786 hro789 hI308 hc792) ?_; clear ha a; rintro v793 w794 ⟨u796, u797, fp798, rfl, h799, pv800, rfl, hx795⟩ a ha
              have q802 := Nq.rd pv800 (Nq.append (Nq.append (Nq.new ha0_0.bnd z654) (Nq.mono q661 hs787)) (Nq.mono q780 hs790)) hB653.bi
              have q803 := (Pv.call pv800 (Pv.app (Pv.app (Pv.par (fun _ h => List.mem_append_left _ h)) (Pv.mono (Pv.own z657 (zf_nil _)) hs787)) (Pv.mono (Pv.own q783 (zf_nil _)) hs790)) hE784.size : Pv (fa0_0 ++ fa1) W.heap.size fp798)
              replace hB653 := hB653.ext hx795
              replace h656 := h656.ext hx795
              replace h774 := h774.ext hx795
              have hE804 := Ext.trans hE784 hx795
              refine op_g ha rfl (g_move rfl) ?_; clear ha a; intro a ha; (iterate 2 refine op_g ha rfl (g_extract rfl rfl) ?_; clear ha a; intro a ha); (iterate 2 refine op_g ha rfl (g_assign rfl) ?_; clear ha a; intro a ha); refine wpList_nil ?_; replace ha := ha.sub (σ' := [(1, va1), (2, (.pointer (some ⟨b1, 0, none⟩))), (5, v32), (6, (.int .i64 i307)), (7, (.int .i64 i658)), (8, u796), (9, (.bool x791.2))]) ⟨rfl, rfl, rfl, rfl, rfl, rfl, rfl, trivial⟩; refine e_then ?_; refine wp_seq ?_; refine wp_region_lit ?_; refine op_g ha rfl (g_move rfl) ?_; clear ha a; intro a ha; refine wpList_nil ?_
              replace ha := ha.sub (σ' := [(1, va1), (2, (.pointer (some ⟨b1, 0, none⟩))), (5, v32), (6, (.int .i64 i307)), (7, (.int .i64 i658)), (8, u796), (45, (.bool x791.2))]) ⟨rfl, rfl, rfl, rfl, rfl, rfl, rfl, trivial⟩; refine e_then ?_; refine c_cond (x791.2 = true) ha rfl (Iff.rfl) (fun hp805 => ?_) (fun hp805 => ?_)
              · replace hF := if_t hp805 hF
                refine wp_seq ?_; refine wp_region_lit ?_; refine op_g ha rfl (g_move rfl) ?_; clear ha a; intro a ha; refine op_g ha rfl (g_assign rfl) ?_; clear ha a; intro a ha; refine wpList_nil ?_; replace ha := ha.sub (σ' := [(4, u796)]) ⟨rfl, trivial⟩; refine e_then ?_; refine wp_ret ?_; refine e_blk_ret ?_; refine e_then_ret ?_; refine e_lq_ret ?_; refine e_blk_ret ?_; refine e_then_ret ?_; refine e_lq_ret ?_; refine e_then_ret ?_; obtain rfl := Option.some.inj hF
                have e806 := LK_inr hN746; subst e806
                have e807 := BK_inr hK742; subst e807
                have e808 := LK_inr hN568; subst e808
                have e809 := BK_inr hK564; subst e809
                exact f_ret1 ha rfl rfl ⟨_, h799, (q803), hE804⟩
              replace hF := if_f hp805 hF; refine wp_skip ?_; refine e_blk ?_; refine e_then ?_; refine wp_region_lit ?_; refine op_g ha rfl (g_move rfl) ?_; clear ha a; intro a ha; obtain ⟨hI810, hF⟩ := ck_some hF; refine op_g ha rfl (g_add rfl rfl hI810) ?_; clear ha a; intro a ha; refine op_g ha rfl (g_assign rfl) ?_; clear ha a; intro a ha; refine wpList_nil ?_; replace ha := ha.sub (σ' := [(1, va1), (2, (.pointer (some ⟨b1, 0, none⟩))), (5, v32), (6, (.int .i64 i307)), (7, (.int .i64 (i658 + 1)))]) ⟨rfl, rfl, rfl, rfl, rfl, trivial⟩; refine e_lq ?_; obtain rfl := Option.some.inj hF
              exact ⟨_, Nat.lt_succ_self _, i658 + 1, ha.sub ⟨rfl, rfl, rfl, rfl, rfl, trivial⟩, hE804, hI810, hB653, z654, h656, z657, q660, q661, hN746⟩
            replace hF := if_f hp756 hF; refine wp_exit ?_; refine e_then_exit ?_; refine e_lq_eq ?_; obtain rfl := Option.some.inj hF
            exact ⟨ha.sub ⟨rfl, rfl, rfl, rfl, trivial⟩, hE755, hB653, z654, h656, z657, q660, q661, (LK_inr hN746).symm⟩
        rintro a w732 ⟨ha, hE745, hB733, z734, h736, z737, q738, q739, rfl⟩
        have hF : F_spec_LongerPath_k3 i307 = some _ := hK742; clear hK742; unfold F_spec_LongerPath_k3 at hF
        refine e_blk ?_; refine e_then ?_; refine wp_region_lit ?_; refine op_g ha rfl (g_move rfl) ?_; clear ha a; intro a ha; obtain ⟨hI812, hF⟩ := ck_some hF; refine op_g ha rfl (g_add rfl rfl hI812) ?_; clear ha a; intro a ha; refine op_g ha rfl (g_assign rfl) ?_; clear ha a; intro a ha; refine wpList_nil ?_; replace ha := ha.sub (σ' := [(1, va1), (2, (.pointer (some ⟨b1, 0, none⟩))), (5, v32), (6, (.int .i64 (i307 + 1)))]) ⟨rfl, rfl, rfl, rfl, trivial⟩; refine e_lq ?_; obtain rfl := Option.some.inj hF
        exact ⟨_, Nat.lt_succ_self _, i307 + 1, ha.sub ⟨rfl, rfl, rfl, rfl, trivial⟩, hE745, hI812, hB733, z734, h736, z737, q738, q739, hN568⟩
      replace hF := if_f hp573 hF; refine wp_exit ?_; refine e_then_exit ?_; refine e_lq_eq ?_; obtain rfl := Option.some.inj hF
      exact ⟨ha.sub trivial, hE311, (LK_inr hN568).symm⟩
  rintro a w561 ⟨ha, hE567, rfl⟩
  have hF : F_spec_LongerPath_k4 = some _ := hK564; clear hK564; unfold F_spec_LongerPath_k4 at hF
  refine e_then ?_; refine wp_seq ?_; refine wp_region_lit ?_
  refine o_lit0 Rp.int ha rfl sl26 ?_; clear ha a; intro v814 w815 h816 hx817 a ha
  obtain ⟨b819, hb819⟩ : ∃ b : Int, b = w561.heap.size := ⟨_, rfl⟩; rw [← hb819] at h816
  have q820 := zn_of hb819
  have q821 := Zn.upD q820 hE567
  have hE822 := Ext.trans hE567 hx817
  refine op_g ha rfl (g_assign rfl) ?_; clear ha a; intro a ha; refine wpList_nil ?_; replace ha := ha.sub (σ' := [(4, v814)]) ⟨rfl, trivial⟩; refine e_then ?_; refine wp_ret ?_
  obtain ⟨fp823, h824, hs825⟩ := h816.roF
  obtain rfl := Option.some.inj hF
  exact f_ret1 ha rfl rfl ⟨_, h824, (Pv.mono (Pv.own q821 (zf_nil _)) hs825), hE822⟩
set_option maxHeartbeats 2000000 in
theorem W_impl_inRange {W : World} {a0 : Int} (ha0 : InI a0) {a1 : Int} (ha1 : InI a1) {a2 : Int} (ha2 : InI a2) {r : Bool} (hF : F_impl_inRange a0 a1 a2 = some r) :
    Calls Tryd.prog 60 [.int .i64 a0, .int .i64 a1, .int .i64 a2].toArray W (Ret fun u w' => u = .bool r ∧ Ext W w') := by
  refine f_enter Tryd.func60 rfl Tryd.ntmps60 rfl ?_
  intro a ha
  replace ha : Fr 15 [(0, (.int .i64 a0)), (1, (.int .i64 a1)), (2, (.int .i64 a2))] a := ha
  have hE : Chg [] W W := Chg.refl _ _
  unfold F_impl_inRange at hF
  refine wp_seq ?_; refine wp_region_lit ?_; refine op_g ha rfl (g_assign rfl) ?_; clear ha a; intro a ha; refine wpList_nil ?_; replace ha := ha.sub (σ' := [(0, (.int .i64 a0)), (1, (.int .i64 a1)), (2, (.int .i64 a2))]) ⟨rfl, rfl, rfl, trivial⟩; refine e_then ?_; refine wp_seq ?_; refine wp_region_lit ?_; (iterate 2 refine op_g ha rfl (g_move rfl) ?_; clear ha a; intro a ha); refine op_g ha rfl (g_leq rfl rfl) ?_; clear ha a; intro a ha; refine op_g ha rfl (g_move rfl) ?_; clear ha a; intro a ha
  by_cases hp1 : a1 ≤ a0
  · replace hF := if_t hp1 hF
    rw [show (decide (a1 ≤ a0)) = true from (decide_eq_true_iff).2 hp1] at ha
    refine op_want (yields ha rfl rfl) ?_; refine op_g ha rfl (g_move rfl) ?_; clear ha a; intro a ha; refine op_want (yields ha rfl rfl) ?_; refine op_g ha rfl (g_move rfl) ?_; clear ha a; intro a ha; refine op_want (yields ha rfl rfl) ?_; refine op_g ha rfl (g_leq rfl rfl) ?_; clear ha a; intro a ha; refine op_g ha rfl (g_pick rfl rfl) ?_; clear ha a; intro a ha; refine op_g ha rfl (g_assign rfl) ?_; clear ha a; intro a ha; refine wpList_nil ?_; replace ha := ha.sub (σ' := [(6, (.bool (decide (a0 ≤ a2))))]) ⟨rfl, trivial⟩; refine e_then ?_; refine wp_ret ?_; obtain rfl := Option.some.inj hF
    exact f_ret1 ha rfl rfl ⟨rfl, hE⟩
  replace hF := if_f hp1 hF
  rw [show (decide (a1 ≤ a0)) = false from b_false (decide_eq_true_iff) hp1] at ha
  (iterate 3 refine op_unwant ha rfl (yields ha rfl rfl) rfl ?_; clear ha a; intro a ha); refine op_g ha rfl (g_pick rfl rfl) ?_; clear ha a; intro a ha; refine op_g ha rfl (g_assign rfl) ?_; clear ha a; intro a ha; refine wpList_nil ?_; replace ha := ha.sub (σ' := [(6, (.bool false))]) ⟨rfl, trivial⟩; refine e_then ?_; refine wp_ret ?_; obtain rfl := Option.some.inj hF
  exact f_ret1 ha rfl rfl ⟨rfl, hE⟩
set_option maxHeartbeats 2000000 in
theorem W_impl_increasing {W : World} {va0 : Value} {fa0 : List Nat} {a0 : (List Int)} (ha0 : Ro Rp.int W fa0 va0 a0) {a1 : Int} (ha1 : InI a1) {r : Bool} (hF : F_impl_increasing a0 a1 = some r) :
    Calls Tryd.prog 47 [va0, .int .i64 a1].toArray W (Ret fun u w' => u = .bool r ∧ Ext W w') := by
  refine f_enter Tryd.func47 rfl Tryd.ntmps47 rfl ?_
  intro a ha
  replace ha : Fr 33 [(0, va0), (1, (.int .i64 a1))] a := ha
  have hE : Chg [] W W := Chg.refl _ _
  unfold F_impl_increasing at hF
  refine wp_seq ?_; refine wp_region_lit ?_; refine op_g ha rfl (g_assign rfl) ?_; clear ha a; intro a ha; refine wpList_nil ?_; replace ha := ha.sub (σ' := [(0, va0), (1, (.int .i64 a1))]) ⟨rfl, rfl, trivial⟩; refine e_then ?_; refine wp_seq ?_; refine wp_seq ?_; refine wp_region_lit ?_; refine op_g ha rfl (g_move rfl) ?_; clear ha a; intro a ha; refine op_g ha rfl (g_lenR sl26.und ha0 rfl) ?_; clear ha a; intro a ha; refine op_g ha rfl (g_move rfl) ?_; clear ha a; intro a ha; refine wpList_nil ?_; replace ha := ha.sub (σ' := [(0, va0), (1, (.int .i64 a1)), (7, va0), (8, (.int .i64 (a0.length : Int))), (9, (.int .i64 0))]) ⟨rfl, rfl, rfl, rfl, rfl, trivial⟩
  refine e_then ?_; obtain ⟨o98, ho99, hK100⟩ := bnd_some hF
  obtain ⟨n101, hn102⟩ := lp_some ho99; clear ho99
  refine c_loop (fun a w => Fr 33 [] a ∧ Chg [] W w ∧ o98 = .inl ()) (fun n a w => ∃ (i49 : Int), Fr 33 [(0, va0), (1, (.int .i64 a1)), (7, va0), (8, (.int .i64 (a0.length : Int))), (9, (.int .i64 i49))] a ∧ Chg [] W w ∧ InI i49 ∧ lpN (fun s => F_impl_increasing_l1 a0 a1 s) n i49 = some o98) n101 ⟨0, ha.sub ⟨rfl, rfl, rfl, rfl, rfl, trivial⟩, hE, (show InI 0 from by decide), hn102⟩ ?_ ?_
  · rintro m106 a w48 ⟨i49, ha, hE51, hI50, hF⟩
    cases m106 with
    | zero => exact (lpN_zero hF).elim
    | succ m106 =>
      obtain ⟨z105, hF, hN104⟩ := lpN_succ hF
      have hF : F_impl_increasing_l1 a0 a1 i49 = some z105 := hF; unfold F_impl_increasing_l1 at hF
      refine wp_seq ?_; refine wp_region_lit ?_; refine op_g ha rfl (g_lss rfl rfl) ?_; clear ha a; intro a ha; refine wpList_nil ?_; replace ha := ha.sub (σ' := [(0, va0), (1, (.int .i64 a1)), (7, va0), (8, (.int .i64 (a0.length : Int))), (9, (.int .i64 i49)), (10, (.bool (decide (i49 < (a0.length : Int)))))]) ⟨rfl, rfl, rfl, rfl, rfl, rfl, trivial⟩; refine e_then ?_; refine wp_seq ?_; refine c_cond (i49 < (a0.length : Int)) ha rfl (decide_eq_true_iff) (fun hp107 => ?_) (fun hp107 => ?_)
      · replace hF := if_t hp107 hF
        refine wp_skip ?_; refine e_then ?_; refine wp_seq ?_; refine wp_block ?_; refine wp_seq ?_; refine wp_region_lit ?_; refine op_g ha rfl (g_move rfl) ?_; clear ha a; intro a ha; obtain ⟨x108, g109, gx110, hF⟩ := idx_some hF
        obtain ⟨p111, cs112, f113, hf114, hpb115, hat116, hr117, hi118⟩ := ha0.at g109 gx110
        obtain ⟨rfl, hI119, rfl⟩ := hr117
        refine op_g ha rfl (hi118.gives sl26 rfl rfl) ?_; clear ha a; intro a ha; refine op_g ha rfl (g_load0 hE51 Tryd.isAgg2 rfl hat116.one) ?_; clear ha a; intro a ha; (iterate 2 refine op_g ha rfl (g_assign rfl) ?_; clear ha a; intro a ha); refine wpList_nil ?_; replace ha := ha.sub (σ' := [(0, va0), (1, (.int .i64 a1)), (5, (.int .i64 i49)), (6, (.int .i64 x108)), (7, va0), (8, (.int .i64 (a0.length : Int))), (9, (.int .i64 i49))]) ⟨rfl, rfl, rfl, rfl, rfl, rfl, rfl, trivial⟩; refine e_then ?_; refine wp_seq ?_; refine wp_region_lit ?_; (iterate 2 refine op_g ha rfl (g_move rfl) ?_; clear ha a; intro a ha)
        obtain ⟨hI120, hF⟩ := ck_some hF; refine op_g ha rfl (g_sub rfl rfl hI120) ?_; clear ha a; intro a ha; obtain ⟨x122, hc123, hF⟩ := cal_some hF
        refine o_call ha rfl rfl Tryd.call60 (W_impl_inRange hI119 (show InI 0 from by decide) hI120 hc123) ?_; clear ha a; rintro v124 w125 ⟨rfl, hx126⟩ a ha
        have hE127 := Ext.trans hE51 hx126
        refine op_g ha rfl (g_not rfl) ?_; clear ha a; intro a ha; refine op_g ha rfl (g_move rfl) ?_; clear ha a; intro a ha
        by_cases hp128 : ¬ (x122 = true)
        · replace hF := if_t hp128 hF
          rw [show (!x122) = true from (n_iff (Iff.rfl)).2 hp128] at ha
          (iterate 3 refine op_unwant ha rfl (yields ha rfl rfl) rfl ?_; clear ha a; intro a ha); (iterate 7 refine op_unwant0 ha rfl (yields0 ha rfl rfl) ?_; clear ha a; intro a ha); refine op_unwant ha rfl (yields ha rfl rfl) rfl ?_; clear ha a; intro a ha; refine op_g ha rfl (g_pick rfl rfl) ?_; clear ha a; intro a ha; refine wpList_nil ?_; replace ha := ha.sub (σ' := [(0, va0), (1, (.int .i64 a1)), (7, va0), (8, (.int .i64 (a0.length : Int))), (9, (.int .i64 i49)), (31, (.bool true))]) ⟨rfl, rfl, rfl, rfl, rfl, rfl, trivial⟩; refine e_then ?_; refine c_true ha rfl ?_; refine wp_seq ?_; refine wp_region_lit ?_
          refine op_g ha rfl (g_assign rfl) ?_; clear ha a; intro a ha; refine wpList_nil ?_; replace ha := ha.sub (σ' := [(4, (.bool false))]) ⟨rfl, trivial⟩; refine e_then ?_; refine wp_ret ?_; refine e_blk_ret ?_; refine e_then_ret ?_; refine e_lq_ret ?_; refine e_then_ret ?_; obtain rfl := Option.some.inj hF
          have e129 := LK_inr hN104; subst e129
          have e130 := BK_inr hK100; subst e130
          exact f_ret1 ha rfl rfl ⟨rfl, hE127⟩
        replace hF := if_f hp128 hF
        rw [show (!x122) = false from b_false (n_iff (Iff.rfl)) hp128] at ha
        refine op_want (yields ha rfl rfl) ?_; refine op_g ha rfl (g_move rfl) ?_; clear ha a; intro a ha; refine op_want (yields ha rfl rfl) ?_; refine op_g ha rfl (g_gtr rfl rfl) ?_; clear ha a; intro a ha; refine op_want (yields ha rfl rfl) ?_; refine op_g ha rfl (g_move rfl) ?_; clear ha a; intro a ha
        by_cases hp131 : 0 < i49
        · replace hF := if_t hp131 hF
          rw [show (decide (0 < i49)) = true from (decide_eq_true_iff).2 hp131] at ha
          refine op_want (yields ha rfl rfl) ?_; refine op_g ha rfl (g_move rfl) ?_; clear ha a; intro a ha; refine op_want (yields ha rfl rfl) ?_; refine op_g ha rfl (g_move rfl) ?_; clear ha a; intro a ha; refine op_want (yields ha rfl rfl) ?_; obtain ⟨hI132, hF⟩ := ck_some hF; refine op_g ha rfl (g_sub rfl rfl hI132) ?_; clear ha a; intro a ha; refine op_want (yields ha rfl rfl) ?_; obtain ⟨x134, g135, gx136, hF⟩ := idx_some hF
          obtain ⟨p137, cs138, f139, hf140, hpb141, hat142, hr143, hi144⟩ := ha0.at g135 gx136
          obtain ⟨rfl, hI145, rfl⟩ := hr143
          refine op_g ha rfl (hi144.gives sl26 rfl rfl) ?_; clear ha a; intro a ha; refine op_want (yields ha rfl rfl) ?_; refine op_g ha rfl (g_load0 hE127 Tryd.isAgg2 rfl hat142.one) ?_; clear ha a; intro a ha; refine op_want (yields ha rfl rfl) ?_; refine op_g ha rfl (g_move rfl) ?_; clear ha a; intro a ha; refine op_want (yields ha rfl rfl) ?_; refine op_g ha rfl (g_geq rfl rfl) ?_; clear ha a; intro a ha; refine op_want (yields ha rfl rfl) ?_; (iterate 2 refine op_g ha rfl (g_pick rfl rfl) ?_; clear ha a; intro a ha); refine wpList_nil ?_; replace ha := ha.sub (σ' := [(0, va0), (1, (.int .i64 a1)), (7, va0), (8, (.int .i64 (a0.length : Int))), (9, (.int .i64 i49)), (20, (.int .i64 i49)), (21, (.bool true)), (22, (.bool true)), (23, va0), (24, (.int .i64 i49)), (25, (.int .i64 (i49 - 1))), (26, (.pointer (some p137))), (27, (.int .i64 x134)), (28, (.int .i64 x108)), (29, (.bool (decide (x108 ≤ x134)))), (30, (.bool (decide (x108 ≤ x134)))), (31, (.bool (decide (x108 ≤ x134))))]) ⟨rfl, rfl, rfl, rfl, rfl, rfl, rfl, rfl, rfl, rfl, rfl, rfl, rfl, rfl, rfl, rfl, rfl, trivial⟩
          refine e_then ?_; refine c_cond (x108 ≤ x134) ha rfl (decide_eq_true_iff) (fun hp146 => ?_) (fun hp146 => ?_)
          · replace hF := if_t hp146 hF
            refine wp_seq ?_; refine wp_region_lit ?_; refine op_g ha rfl (g_assign rfl) ?_; clear ha a; intro a ha; refine wpList_nil ?_; replace ha := ha.sub (σ' := [(4, (.bool false))]) ⟨rfl, trivial⟩; refine e_then ?_; refine wp_ret ?_; refine e_blk_ret ?_; refine e_then_ret ?_; refine e_lq_ret ?_; refine e_then_ret ?_; obtain rfl := Option.some.inj hF
            have e147 := LK_inr hN104; subst e147
            have e148 := BK_inr hK100; subst e148
            exact f_ret1 ha rfl rfl ⟨rfl, hE127⟩
          replace hF := if_f hp146 hF; refine wp_skip ?_; refine e_blk ?_; refine e_then ?_; refine wp_region_lit ?_; obtain ⟨hI149, hF⟩ := ck_some hF; refine op_g ha rfl (g_add rfl rfl hI149) ?_; clear ha a; intro a ha; refine op_g ha rfl (g_move rfl) ?_; clear ha a; intro a ha; refine wpList_nil ?_; replace ha := ha.sub (σ' := [(0, va0), (1, (.int .i64 a1)), (7, va0), (8, (.int .i64 (a0.length : Int))), (9, (.int .i64 (i49 + 1))), (20, (.int .i64 i49)), (21, (.bool true)), (22, (.bool true)), (23, va0), (24, (.int .i64 i49)), (25, (.int .i64 (i49 - 1))), (26, (.pointer (some p137))), (27, (.int .i64 x134)), (28, (.int .i64 x108)), (29, (.bool (decide (x108 ≤ x134)))), (30, (.bool (decide (x108 ≤ x134))))]) ⟨rfl, rfl, rfl, rfl, rfl, rfl, rfl, rfl, rfl, rfl, rfl, rfl, rfl, rfl, rfl, rfl, trivial⟩
          refine e_lq ?_; obtain rfl := Option.some.inj hF
          exact ⟨_, Nat.lt_succ_self _, i49 + 1, ha.sub ⟨rfl, rfl, rfl, rfl, rfl, trivial⟩, hE127, hI149, hN104⟩
        replace hF := if_f hp131 hF
        rw [show (decide (0 < i49)) = false from b_false (decide_eq_true_iff) hp131] at ha
        (iterate 7 refine op_unwant ha rfl (yields ha rfl rfl) rfl ?_; clear ha a; intro a ha); refine op_want (yields ha rfl rfl) ?_; (iterate 2 refine op_g ha rfl (g_pick rfl rfl) ?_; clear ha a; intro a ha); refine wpList_nil ?_; replace ha := ha.sub (σ' := [(0, va0), (1, (.int .i64 a1)), (7, va0), (8, (.int .i64 (a0.length : Int))), (9, (.int .i64 i49)), (20, (.int .i64 i49)), (21, (.bool false)), (22, (.bool false)), (30, (.bool false)), (31, (.bool false))]) ⟨rfl, rfl, rfl, rfl, rfl, rfl, rfl, rfl, rfl, rfl, trivial⟩; refine e_then ?_; refine c_false ha rfl ?_; refine wp_skip ?_; refine e_blk ?_
        refine e_then ?_; refine wp_region_lit ?_; obtain ⟨hI151, hF⟩ := ck_some hF; refine op_g ha rfl (g_add rfl rfl hI151) ?_; clear ha a; intro a ha; refine op_g ha rfl (g_move rfl) ?_; clear ha a; intro a ha; refine wpList_nil ?_; replace ha := ha.sub (σ' := [(0, va0), (1, (.int .i64 a1)), (7, va0), (8, (.int .i64 (a0.length : Int))), (9, (.int .i64 (i49 + 1))), (20, (.int .i64 i49)), (21, (.bool false)), (22, (.bool false)), (30, (.bool false))]) ⟨rfl, rfl, rfl, rfl, rfl, rfl, rfl, rfl, rfl, trivial⟩; refine e_lq ?_; obtain rfl := Option.some.inj hF
        exact ⟨_, Nat.lt_succ_self _, i49 + 1, ha.sub ⟨rfl, rfl, rfl, rfl, rfl, trivial⟩, hE127, hI151, hN104⟩
      replace hF := if_f hp107 hF; refine wp_exit ?_; refine e_then_exit ?_; refine e_lq_eq ?_; obtain rfl := Option.some.inj hF
      exact ⟨ha.sub trivial, hE51, (LK_inr hN104).symm⟩
  rintro a w97 ⟨ha, hE103, rfl⟩
  have hF : F_impl_increasing_k2 = some _ := hK100; clear hK100; unfold F_impl_increasing_k2 at hF
  refine e_then ?_; refine wp_seq ?_; refine wp_region_lit ?_; refine op_g ha rfl (g_assign rfl) ?_; clear ha a; intro a ha; refine wpList_nil ?_; refine e_then ?_; refine wp_ret ?_; obtain rfl := Option.some.inj hF
  exact f_ret1 ha rfl rfl ⟨rfl, hE103⟩
set_option maxHeartbeats 2000000 in
theorem W_slices_Index_int64 {W : World} {va0 : Value} {fa0 : List Nat} {a0 : (List Int)} (ha0 : Ro Rp.int W fa0 va0 a0) {a1 : Int} (ha1 : InI a1) {r : Int} (hF : F_slices_Index_int64 a0 a1 = some r) :
    Calls Tryd.prog 61 [va0, .int .i64 a1].toArray W (Ret fun u w' => (u = .int .i64 r ∧ InI r) ∧ Ext W w') := by
  refine f_enter Tryd.func61 rfl Tryd.ntmps61 rfl ?_
  intro a ha
  replace ha : Fr 19 [(0, va0), (1, (.int .i64 a1))] a := ha
  have hE : Chg [] W W := Chg.refl _ _
  unfold F_slices_Index_int64 at hF
  refine wp_seq ?_; refine wp_region_lit ?_; refine op_g ha rfl (g_assign rfl) ?_; clear ha a; intro a ha; refine wpList_nil ?_; replace ha := ha.sub (σ' := [(0, va0), (1, (.int .i64 a1))]) ⟨rfl, rfl, trivial⟩; refine e_then ?_; refine wp_seq ?_; refine wp_seq ?_; refine wp_region_lit ?_; refine op_g ha rfl (g_move rfl) ?_; clear ha a; intro a ha; refine op_g ha rfl (g_lenR sl26.und ha0 rfl) ?_; clear ha a; intro a ha; refine op_g ha rfl (g_move rfl) ?_; clear ha a; intro a ha; refine wpList_nil ?_; replace ha := ha.sub (σ' := [(0, va0), (1, (.int .i64 a1)), (7, (.int .i64 (a0.length : Int))), (8, (.int .i64 0))]) ⟨rfl, rfl, rfl, rfl, trivial⟩
  refine e_then ?_; obtain ⟨o46, ho47, hK48⟩ := bnd_some hF
  obtain ⟨n49, hn50⟩ := lp_some ho47; clear ho47
  refine c_loop (fun a w => Fr 19 [] a ∧ Chg [] W w ∧ o46 = .inl ()) (fun n a w => ∃ (i23 : Int), Fr 19 [(0, va0), (1, (.int .i64 a1)), (7, (.int .i64 (a0.length : Int))), (8, (.int .i64 i23))] a ∧ Chg [] W w ∧ InI i23 ∧ lpN (fun s => F_slices_Index_int64_l1 a0 a1 s) n i23 = some o46) n49 ⟨0, ha.sub ⟨rfl, rfl, rfl, rfl, trivial⟩, hE, (show InI 0 from by decide), hn50⟩ ?_ ?_
  · rintro m54 a w22 ⟨i23, ha, hE25, hI24, hF⟩
    cases m54 with
    | zero => exact (lpN_zero hF).elim
    | succ m54 =>
      obtain ⟨z53, hF, hN52⟩ := lpN_succ hF
      have hF : F_slices_Index_int64_l1 a0 a1 i23 = some z53 := hF; unfold F_slices_Index_int64_l1 at hF
      refine wp_seq ?_; refine wp_region_lit ?_; refine op_g ha rfl (g_lss rfl rfl) ?_; clear ha a; intro a ha; refine wpList_nil ?_; replace ha := ha.sub (σ' := [(0, va0), (1, (.int .i64 a1)), (7, (.int .i64 (a0.length : Int))), (8, (.int .i64 i23)), (9, (.bool (decide (i23 < (a0.length : Int)))))]) ⟨rfl, rfl, rfl, rfl, rfl, trivial⟩; refine e_then ?_; refine wp_seq ?_; refine c_cond (i23 < (a0.length : Int)) ha rfl (decide_eq_true_iff) (fun hp55 => ?_) (fun hp55 => ?_)
      · replace hF := if_t hp55 hF
        refine wp_skip ?_; refine e_then ?_; refine wp_seq ?_; refine wp_block ?_; refine wp_seq ?_; refine wp_region_lit ?_; refine op_g ha rfl (g_move rfl) ?_; clear ha a; intro a ha; refine op_g ha rfl (g_assign rfl) ?_; clear ha a; intro a ha; refine wpList_nil ?_; replace ha := ha.sub (σ' := [(0, va0), (1, (.int .i64 a1)), (5, (.int .i64 i23)), (7, (.int .i64 (a0.length : Int))), (8, (.int .i64 i23))]) ⟨rfl, rfl, rfl, rfl, rfl, trivial⟩; refine e_then ?_; refine wp_seq ?_; refine wp_region_lit ?_; (iterate 3 refine op_g ha rfl (g_move rfl) ?_; clear ha a; intro a ha); obtain ⟨x56, g57, gx58, hF⟩ := idx_some hF
        obtain ⟨p59, cs60, f61, hf62, hpb63, hat64, hr65, hi66⟩ := ha0.at g57 gx58
        obtain ⟨rfl, hI67, rfl⟩ := hr65
        refine op_g ha rfl (hi66.gives sl26 rfl rfl) ?_; clear ha a; intro a ha; refine op_g ha rfl (g_load0 hE25 Tryd.isAgg2 rfl hat64.one) ?_; clear ha a; intro a ha; refine op_g ha rfl (g_eql rfl rfl) ?_; clear ha a; intro a ha; refine wpList_nil ?_; replace ha := ha.sub (σ' := [(0, va0), (1, (.int .i64 a1)), (5, (.int .i64 i23)), (7, (.int .i64 (a0.length : Int))), (8, (.int .i64 i23)), (16, (.bool (decide (a1 = x56))))]) ⟨rfl, rfl, rfl, rfl, rfl, rfl, trivial⟩; refine e_then ?_; refine c_cond (a1 = x56) ha rfl (decide_eq_true_iff) (fun hp68 => ?_) (fun hp68 => ?_)
        · replace hF := if_t hp68 hF
          refine wp_seq ?_; refine wp_region_lit ?_; refine op_g ha rfl (g_move rfl) ?_; clear ha a; intro a ha; refine op_g ha rfl (g_assign rfl) ?_; clear ha a; intro a ha; refine wpList_nil ?_; replace ha := ha.sub (σ' := [(4, (.int .i64 i23))]) ⟨rfl, trivial⟩; refine e_then ?_; refine wp_ret ?_; refine e_blk_ret ?_; refine e_then_ret ?_; refine e_lq_ret ?_; refine e_then_ret ?_; obtain rfl := Option.some.inj hF
          have e69 := LK_inr hN52; subst e69
          have e70 := BK_inr hK48; subst e70
          exact f_ret1 ha rfl rfl ⟨⟨rfl, hI24⟩, hE25⟩
        replace hF := if_f hp68 hF; refine wp_skip ?_; refine e_blk ?_; refine e_then ?_; refine wp_region_lit ?_; obtain ⟨hI71, hF⟩ := ck_some hF; refine op_g ha rfl (g_add rfl rfl hI71) ?_; clear ha a; intro a ha; refine op_g ha rfl (g_move rfl) ?_; clear ha a; intro a ha; refine wpList_nil ?_; replace ha := ha.sub (σ' := [(0, va0), (1, (.int .i64 a1)), (7, (.int .i64 (a0.length : Int))), (8, (.int .i64 (i23 + 1)))]) ⟨rfl, rfl, rfl, rfl, trivial⟩; refine e_lq ?_; obtain rfl := Option.some.inj hF
        exact ⟨_, Nat.lt_succ_self _, i23 + 1, ha.sub ⟨rfl, rfl, rfl, rfl, trivial⟩, hE25, hI71, hN52⟩
      replace hF := if_f hp55 hF; refine wp_exit ?_; refine e_then_exit ?_; refine e_lq_eq ?_; obtain rfl := Option.some.inj hF
      exact ⟨ha.sub trivial, hE25, (LK_inr hN52).symm⟩
  rintro a w45 ⟨ha, hE51, rfl⟩
  have hF : F_slices_Index_int64_k2 = some _ := hK48; clear hK48; unfold F_slices_Index_int64_k2 at hF
  refine e_then ?_; refine wp_seq ?_; refine wp_region_lit ?_; refine op_g ha rfl (g_assign rfl) ?_; clear ha a; intro a ha; refine wpList_nil ?_; refine e_then ?_; refine wp_ret ?_; obtain rfl := Option.some.inj hF
  exact f_ret1 ha rfl rfl ⟨⟨rfl, (show InI (-1) from by decide)⟩, hE51⟩
end Go.Proofs.YthbmcbflnibpbabDoor
