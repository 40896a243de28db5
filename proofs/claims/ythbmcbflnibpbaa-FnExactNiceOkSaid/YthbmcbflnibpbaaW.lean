/- Walks, printed by gen.py. -/
import Derived.Test.YthbmcbflnibpbaaF
import Derived.Test.YthbmcbflnibpbaaW3
import Derived.Test.YthbmcbflnibpbaaProg
import Derived.KernelRfl
set_option maxRecDepth 100000
namespace Go.Proofs.Ythbmcbflnibpbaa
open Go Go.RowKit

set_option maxHeartbeats 2000000 in
theorem W_laws_eqInt64S {W : World} {va0 : Value} {fa0 : List Nat} {a0 : (List Int)} (ha0 : Ro Rp.int W fa0 va0 a0) {va1 : Value} {fa1 : List Nat} {a1 : (List Int)} (ha1 : Ro Rp.int W fa1 va1 a1) {r : Bool} (hF : F_laws_eqInt64S a0 a1 = some r) :
    Calls Try.prog 29 [va0, va1].toArray W (Ret fun u w' => u = .bool r ∧ Ext W w') := by
  refine f_enter Try.func29 rfl Try.ntmps29 rfl ?_
  intro a ha
  replace ha : Fr 26 [(0, va0), (1, va1)] a := ha
  have hE : Chg [] W W := Chg.refl _ _
  unfold F_laws_eqInt64S at hF
  refine wp_seq ?_; refine wp_region_lit ?_; refine op_g ha rfl (g_assign rfl) ?_; clear ha a; intro a ha; refine wpList_nil ?_; replace ha := ha.sub (σ' := [(0, va0), (1, va1)]) ⟨rfl, rfl, trivial⟩; refine e_then ?_; refine wp_seq ?_; refine wp_seq ?_; refine wp_region_lit ?_; refine op_g ha rfl (g_move rfl) ?_; clear ha a; intro a ha; refine op_g ha rfl (g_lenR sl25.und ha0 rfl) ?_; clear ha a; intro a ha; refine op_g ha rfl (g_move rfl) ?_; clear ha a; intro a ha; refine op_g ha rfl (g_lenR sl25.und ha1 rfl) ?_; clear ha a; intro a ha; refine op_g ha rfl (g_neq rfl rfl) ?_; clear ha a; intro a ha
  refine wpList_nil ?_; replace ha := ha.sub (σ' := [(0, va0), (1, va1), (10, (.bool (decide ((a0.length : Int) ≠ (a1.length : Int)))))]) ⟨rfl, rfl, rfl, trivial⟩; refine e_then ?_; refine c_cond ((a0.length : Int) ≠ (a1.length : Int)) ha rfl (decide_eq_true_iff) (fun hp1 => ?_) (fun hp1 => ?_)
  · replace hF := if_t hp1 hF
    refine wp_seq ?_; refine wp_region_lit ?_; refine op_g ha rfl (g_assign rfl) ?_; clear ha a; intro a ha; refine wpList_nil ?_; replace ha := ha.sub (σ' := [(4, (.bool false))]) ⟨rfl, trivial⟩; refine e_then ?_; refine wp_ret ?_; refine e_then_ret ?_; obtain rfl := Option.some.inj hF
    exact f_ret1 ha rfl rfl ⟨rfl, hE⟩
  replace hF := if_f hp1 hF; refine wp_skip ?_; refine e_then ?_; refine wp_seq ?_; refine wp_seq ?_; refine wp_region_lit ?_; refine op_g ha rfl (g_assign rfl) ?_; clear ha a; intro a ha; refine wpList_nil ?_; replace ha := ha.sub (σ' := [(0, va0), (1, va1), (5, (.int .i64 0))]) ⟨rfl, rfl, rfl, trivial⟩; refine e_then ?_; obtain ⟨o77, ho78, hK79⟩ := bnd_some hF
  obtain ⟨n80, hn81⟩ := lp_some ho78; clear ho78
  refine c_loop (fun a w => Fr 26 [] a ∧ Chg [] W w ∧ o77 = .inl ()) (fun n a w => ∃ (i39 : Int), Fr 26 [(0, va0), (1, va1), (5, (.int .i64 i39))] a ∧ Chg [] W w ∧ InI i39 ∧ lpN (fun s => F_laws_eqInt64S_l1 a0 a1 s) n i39 = some o77) n80 ⟨0, ha.sub ⟨rfl, rfl, rfl, trivial⟩, hE, (show InI 0 from by decide), hn81⟩ ?_ ?_
  · rintro m85 a w38 ⟨i39, ha, hE41, hI40, hF⟩
    cases m85 with
    | zero => exact (lpN_zero hF).elim
    | succ m85 =>
      obtain ⟨z84, hF, hN83⟩ := lpN_succ hF
      have hF : F_laws_eqInt64S_l1 a0 a1 i39 = some z84 := hF; unfold F_laws_eqInt64S_l1 at hF
      refine wp_seq ?_; refine wp_seq ?_; refine wp_region_lit ?_; (iterate 2 refine op_g ha rfl (g_move rfl) ?_; clear ha a; intro a ha); refine op_g ha rfl (g_lenR sl25.und ha0 rfl) ?_; clear ha a; intro a ha; refine op_g ha rfl (g_lss rfl rfl) ?_; clear ha a; intro a ha; refine wpList_nil ?_; replace ha := ha.sub (σ' := [(0, va0), (1, va1), (5, (.int .i64 i39)), (14, (.bool (decide (i39 < (a0.length : Int)))))]) ⟨rfl, rfl, rfl, rfl, trivial⟩; refine e_then ?_; refine c_cond (i39 < (a0.length : Int)) ha rfl (decide_eq_true_iff) (fun hp86 => ?_) (fun hp86 => ?_)
      · replace hF := if_t hp86 hF
        refine wp_skip ?_; refine e_then ?_; refine wp_seq ?_; refine wp_block ?_; refine wp_seq ?_; refine d_quiet hmix (by kernel_rfl) ?_; (iterate 2 refine q_g ha rfl (g_move rfl) ?_; clear ha a; intro a ha); obtain ⟨x87, g88, gx89, hF⟩ := idx_some hF
        obtain ⟨p90, cs91, f92, hf93, hpb94, hat95, hr96, hi97⟩ := ha0.at g88 gx89
        obtain ⟨rfl, hI98, rfl⟩ := hr96
        refine q_g ha rfl (hi97.gives sl25 rfl rfl) ?_; clear ha a; intro a ha; refine q_g ha rfl (g_load0 hE41 Try.isAgg2 rfl hat95.one) ?_; clear ha a; intro a ha; (iterate 2 refine q_g ha rfl (g_move rfl) ?_; clear ha a; intro a ha); obtain ⟨x99, g100, gx101, hF⟩ := idx_some hF
        obtain ⟨p102, cs103, f104, hf105, hpb106, hat107, hr108, hi109⟩ := ha1.at g100 gx101
        obtain ⟨rfl, hI110, rfl⟩ := hr108
        refine q_g ha rfl (hi109.gives sl25 rfl rfl) ?_; clear ha a; intro a ha; refine q_g ha rfl (g_load0 hE41 Try.isAgg2 rfl hat107.one) ?_; clear ha a; intro a ha; refine q_g ha rfl (g_neq rfl rfl) ?_; clear ha a; intro a ha
        refine q_nil ?_; intro w111 hx112
        have hE113 := Ext.trans hE41 hx112
        replace ha := ha.sub (σ' := [(0, va0), (1, va1), (5, (.int .i64 i39)), (25, (.bool (decide (x87 ≠ x99))))]) ⟨rfl, rfl, rfl, rfl, trivial⟩; refine e_then ?_; refine c_cond (x87 ≠ x99) ha rfl (decide_eq_true_iff) (fun hp114 => ?_) (fun hp114 => ?_)
        · replace hF := if_t hp114 hF
          refine wp_seq ?_; refine wp_region_lit ?_; refine op_g ha rfl (g_assign rfl) ?_; clear ha a; intro a ha; refine wpList_nil ?_; replace ha := ha.sub (σ' := [(4, (.bool false))]) ⟨rfl, trivial⟩; refine e_then ?_; refine wp_ret ?_; refine e_blk_ret ?_; refine e_then_ret ?_; refine e_lq_ret ?_; refine e_then_ret ?_; obtain rfl := Option.some.inj hF
          have e115 := LK_inr hN83; subst e115
          have e116 := BK_inr hK79; subst e116
          exact f_ret1 ha rfl rfl ⟨rfl, hE113⟩
        replace hF := if_f hp114 hF; refine wp_skip ?_; refine e_blk ?_; refine e_then ?_; refine wp_region_lit ?_; refine op_g ha rfl (g_move rfl) ?_; clear ha a; intro a ha; obtain ⟨hI117, hF⟩ := ck_some hF; refine op_g ha rfl (g_add rfl rfl hI117) ?_; clear ha a; intro a ha; refine op_g ha rfl (g_assign rfl) ?_; clear ha a; intro a ha; refine wpList_nil ?_; replace ha := ha.sub (σ' := [(0, va0), (1, va1), (5, (.int .i64 (i39 + 1)))]) ⟨rfl, rfl, rfl, trivial⟩; refine e_lq ?_; obtain rfl := Option.some.inj hF
        exact ⟨_, Nat.lt_succ_self _, i39 + 1, ha.sub ⟨rfl, rfl, rfl, trivial⟩, hE113, hI117, hN83⟩
      replace hF := if_f hp86 hF; refine wp_exit ?_; refine e_then_exit ?_; refine e_lq_eq ?_; obtain rfl := Option.some.inj hF
      exact ⟨ha.sub trivial, hE41, (LK_inr hN83).symm⟩
  rintro a w76 ⟨ha, hE82, rfl⟩
  have hF : F_laws_eqInt64S_k2 = some _ := hK79; clear hK79; unfold F_laws_eqInt64S_k2 at hF
  refine e_then ?_; refine wp_seq ?_; refine wp_region_lit ?_; refine op_g ha rfl (g_assign rfl) ?_; clear ha a; intro a ha; refine wpList_nil ?_; refine e_then ?_; refine wp_ret ?_; obtain rfl := Option.some.inj hF
  exact f_ret1 ha rfl rfl ⟨rfl, hE82⟩
set_option maxHeartbeats 2000000 in
theorem W_laws_eqInt64SS {W : World} {va0 : Value} {fa0 : List Nat} {a0 : (List (List Int))} (ha0 : Ro (Rp.sl 2 Rp.int) W fa0 va0 a0) {va1 : Value} {fa1 : List Nat} {a1 : (List (List Int))} (ha1 : Ro (Rp.sl 2 Rp.int) W fa1 va1 a1) {r : Bool} (hF : F_laws_eqInt64SS a0 a1 = some r) :
    Calls Try.prog 28 [va0, va1].toArray W (Ret fun u w' => u = .bool r ∧ Ext W w') := by
  refine f_enter Try.func28 rfl Try.ntmps28 rfl ?_
  intro a ha
  replace ha : Fr 27 [(0, va0), (1, va1)] a := ha
  have hE : Chg [] W W := Chg.refl _ _
  unfold F_laws_eqInt64SS at hF
  refine wp_seq ?_; refine wp_region_lit ?_; refine op_g ha rfl (g_assign rfl) ?_; clear ha a; intro a ha; refine wpList_nil ?_; replace ha := ha.sub (σ' := [(0, va0), (1, va1)]) ⟨rfl, rfl, trivial⟩; refine e_then ?_; refine wp_seq ?_; refine wp_seq ?_; refine wp_region_lit ?_; refine op_g ha rfl (g_move rfl) ?_; clear ha a; intro a ha; refine op_g ha rfl (g_lenR sl22.und ha0 rfl) ?_; clear ha a; intro a ha; refine op_g ha rfl (g_move rfl) ?_; clear ha a; intro a ha; refine op_g ha rfl (g_lenR sl22.und ha1 rfl) ?_; clear ha a; intro a ha; refine op_g ha rfl (g_neq rfl rfl) ?_; clear ha a; intro a ha
  refine wpList_nil ?_; replace ha := ha.sub (σ' := [(0, va0), (1, va1), (10, (.bool (decide ((a0.length : Int) ≠ (a1.length : Int)))))]) ⟨rfl, rfl, rfl, trivial⟩; refine e_then ?_; refine c_cond ((a0.length : Int) ≠ (a1.length : Int)) ha rfl (decide_eq_true_iff) (fun hp1 => ?_) (fun hp1 => ?_)
  · replace hF := if_t hp1 hF
    refine wp_seq ?_; refine wp_region_lit ?_; refine op_g ha rfl (g_assign rfl) ?_; clear ha a; intro a ha; refine wpList_nil ?_; replace ha := ha.sub (σ' := [(4, (.bool false))]) ⟨rfl, trivial⟩; refine e_then ?_; refine wp_ret ?_; refine e_then_ret ?_; obtain rfl := Option.some.inj hF
    exact f_ret1 ha rfl rfl ⟨rfl, hE⟩
  replace hF := if_f hp1 hF; refine wp_skip ?_; refine e_then ?_; refine wp_seq ?_; refine wp_seq ?_; refine wp_region_lit ?_; refine op_g ha rfl (g_assign rfl) ?_; clear ha a; intro a ha; refine wpList_nil ?_; replace ha := ha.sub (σ' := [(0, va0), (1, va1), (5, (.int .i64 0))]) ⟨rfl, rfl, rfl, trivial⟩; refine e_then ?_; obtain ⟨o93, ho94, hK95⟩ := bnd_some hF
  obtain ⟨n96, hn97⟩ := lp_some ho94; clear ho94
  refine c_loop (fun a w => Fr 27 [] a ∧ Chg [] W w ∧ o93 = .inl ()) (fun n a w => ∃ (i47 : Int), Fr 27 [(0, va0), (1, va1), (5, (.int .i64 i47))] a ∧ Chg [] W w ∧ InI i47 ∧ lpN (fun s => F_laws_eqInt64SS_l1 a0 a1 s) n i47 = some o93) n96 ⟨0, ha.sub ⟨rfl, rfl, rfl, trivial⟩, hE, (show InI 0 from by decide), hn97⟩ ?_ ?_
  · rintro m101 a w46 ⟨i47, ha, hE49, hI48, hF⟩
    cases m101 with
    | zero => exact (lpN_zero hF).elim
    | succ m101 =>
      obtain ⟨z100, hF, hN99⟩ := lpN_succ hF
      have hF : F_laws_eqInt64SS_l1 a0 a1 i47 = some z100 := hF; unfold F_laws_eqInt64SS_l1 at hF
      refine wp_seq ?_; refine wp_seq ?_; refine wp_region_lit ?_; (iterate 2 refine op_g ha rfl (g_move rfl) ?_; clear ha a; intro a ha); refine op_g ha rfl (g_lenR sl22.und ha0 rfl) ?_; clear ha a; intro a ha; refine op_g ha rfl (g_lss rfl rfl) ?_; clear ha a; intro a ha; refine wpList_nil ?_; replace ha := ha.sub (σ' := [(0, va0), (1, va1), (5, (.int .i64 i47)), (14, (.bool (decide (i47 < (a0.length : Int)))))]) ⟨rfl, rfl, rfl, rfl, trivial⟩; refine e_then ?_; refine c_cond (i47 < (a0.length : Int)) ha rfl (decide_eq_true_iff) (fun hp102 => ?_) (fun hp102 => ?_)
      · replace hF := if_t hp102 hF
        refine wp_skip ?_; refine e_then ?_; refine wp_seq ?_; refine wp_block ?_; refine wp_seq ?_; refine d_quiet hmix (by kernel_rfl) ?_; (iterate 2 refine q_g ha rfl (g_move rfl) ?_; clear ha a; intro a ha); obtain ⟨x103, g104, gx105, hF⟩ := idx_some hF
        obtain ⟨p106, cs107, f108, hf109, hpb110, hat111, hr112, hi113⟩ := ha0.at g104 gx105
        obtain ⟨v114, rfl, h115⟩ := hr112
        have h115 : Ro Rp.int W f108 v114 x103 := h115
        refine q_g ha rfl (hi113.gives sl22 rfl rfl) ?_; clear ha a; intro a ha; refine q_g ha rfl (g_load0 hE49 Try.isAgg25 rfl hat111.one) ?_; clear ha a; intro a ha; (iterate 2 refine q_g ha rfl (g_move rfl) ?_; clear ha a; intro a ha); obtain ⟨x117, g118, gx119, hF⟩ := idx_some hF
        obtain ⟨p120, cs121, f122, hf123, hpb124, hat125, hr126, hi127⟩ := ha1.at g118 gx119
        obtain ⟨v128, rfl, h129⟩ := hr126
        have h129 : Ro Rp.int W f122 v128 x117 := h129
        refine q_g ha rfl (hi127.gives sl22 rfl rfl) ?_; clear ha a; intro a ha; refine q_g ha rfl (g_load0 hE49 Try.isAgg25 rfl hat125.one) ?_; clear ha a; intro a ha; obtain ⟨x133, hc134, hF⟩ := cal_some hF; refine q_call (.bool x133) ha rfl rfl Try.call29 (fun w132 hx131 => W_laws_eqInt64S (h115.ext (Ext.trans hE49 hx131)) (h129.ext (Ext.trans hE49 hx131)) hc134) (fun _ _ _ h => ⟨h.1, h.2⟩) ?_; clear ha a; intro a ha; refine q_g ha rfl (g_not rfl) ?_; clear ha a; intro a ha
        refine q_nil ?_; intro w135 hx136
        have hE137 := Ext.trans hE49 hx136
        replace ha := ha.sub (σ' := [(0, va0), (1, va1), (5, (.int .i64 i47)), (26, (.bool (!x133)))]) ⟨rfl, rfl, rfl, rfl, trivial⟩; refine e_then ?_; refine c_cond (¬ (x133 = true)) ha rfl (n_iff (Iff.rfl)) (fun hp138 => ?_) (fun hp138 => ?_)
        · replace hF := if_t hp138 hF
          refine wp_seq ?_; refine wp_region_lit ?_; refine op_g ha rfl (g_assign rfl) ?_; clear ha a; intro a ha; refine wpList_nil ?_; replace ha := ha.sub (σ' := [(4, (.bool false))]) ⟨rfl, trivial⟩; refine e_then ?_; refine wp_ret ?_; refine e_blk_ret ?_; refine e_then_ret ?_; refine e_lq_ret ?_; refine e_then_ret ?_; obtain rfl := Option.some.inj hF
          have e139 := LK_inr hN99; subst e139
          have e140 := BK_inr hK95; subst e140
          exact f_ret1 ha rfl rfl ⟨rfl, hE137⟩
        replace hF := if_f hp138 hF; refine wp_skip ?_; refine e_blk ?_; refine e_then ?_; refine wp_region_lit ?_; refine op_g ha rfl (g_move rfl) ?_; clear ha a; intro a ha; obtain ⟨hI141, hF⟩ := ck_some hF; refine op_g ha rfl (g_add rfl rfl hI141) ?_; clear ha a; intro a ha; refine op_g ha rfl (g_assign rfl) ?_; clear ha a; intro a ha; refine wpList_nil ?_; replace ha := ha.sub (σ' := [(0, va0), (1, va1), (5, (.int .i64 (i47 + 1)))]) ⟨rfl, rfl, rfl, trivial⟩; refine e_lq ?_; obtain rfl := Option.some.inj hF
        exact ⟨_, Nat.lt_succ_self _, i47 + 1, ha.sub ⟨rfl, rfl, rfl, trivial⟩, hE137, hI141, hN99⟩
      replace hF := if_f hp102 hF; refine wp_exit ?_; refine e_then_exit ?_; refine e_lq_eq ?_; obtain rfl := Option.some.inj hF
      exact ⟨ha.sub trivial, hE49, (LK_inr hN99).symm⟩
  rintro a w92 ⟨ha, hE98, rfl⟩
  have hF : F_laws_eqInt64SS_k2 = some _ := hK95; clear hK95; unfold F_laws_eqInt64SS_k2 at hF
  refine e_then ?_; refine wp_seq ?_; refine wp_region_lit ?_; refine op_g ha rfl (g_assign rfl) ?_; clear ha a; intro a ha; refine wpList_nil ?_; refine e_then ?_; refine wp_ret ?_; obtain rfl := Option.some.inj hF
  exact f_ret1 ha rfl rfl ⟨rfl, hE98⟩
set_option maxHeartbeats 2000000 in
theorem W_laws_eqGraph {W : World} {va0_0 : Value} {fa0_0 : List Nat} {a0_0 : (List (List Int))} (ha0_0 : Ro (Rp.sl 2 Rp.int) W fa0_0 va0_0 a0_0) {va1_0 : Value} {fa1_0 : List Nat} {a1_0 : (List (List Int))} (ha1_0 : Ro (Rp.sl 2 Rp.int) W fa1_0 va1_0 a1_0) {r : Bool} (hF : F_laws_eqGraph a0_0 a1_0 = some r) :
    Calls Try.prog 10 [.agg #[va0_0], .agg #[va1_0]].toArray W (Ret fun u w' => u = .bool r ∧ Ext W w') := by
  refine f_enter Try.func10 rfl Try.ntmps10 rfl ?_
  intro a ha
  replace ha : Fr 11 [(0, (.agg #[va0_0])), (1, (.agg #[va1_0]))] a := ha
  have hE : Chg [] W W := Chg.refl _ _
  unfold F_laws_eqGraph at hF
  refine wp_seq ?_; refine wp_region_lit ?_
  refine o_box ha rfl rfl rfl ?_; clear ha a; intro b1 w2 hB3 hx4 hlo5 a ha
  have q6 := Zn.one hlo5
  have q7 := Zn.upD q6 hE
  have hE8 := Ext.trans hE hx4
  refine o_box ha rfl rfl rfl ?_; clear ha a; intro b9 w10 hB11 hx12 hlo13 a ha
  have q14 := Zn.one hlo13
  have q15 := Nq.new hB3.fpb q14
  have q16 := Nq.made1 hlo13 hB3.bi
  have q17 := Zn.upD q14 hE8
  replace hB3 := hB3.ext hx12
  have hE18 := Ext.trans hE8 hx12
  refine op_g ha rfl (g_assign rfl) ?_; clear ha a; intro a ha; refine wpList_nil ?_; replace ha := ha.sub (σ' := [(2, (.pointer (some ⟨b1, 0, none⟩))), (3, (.pointer (some ⟨b9, 0, none⟩)))]) ⟨rfl, rfl, trivial⟩; refine e_then ?_; refine wp_seq ?_; refine wp_seq ?_; refine wp_region_lit ?_; refine op_g ha rfl (g_field0 st31_0 rfl) ?_; clear ha a; intro a ha; refine op_g ha rfl (g_load Try.isAgg22 rfl (hB3.cell rfl)) ?_; clear ha a; intro a ha; refine op_g ha rfl (g_field0 st31_0 rfl) ?_; clear ha a; intro a ha; refine op_g ha rfl (g_load Try.isAgg22 rfl (hB11.cell rfl)) ?_; clear ha a; intro a ha
  obtain ⟨x19, hc20, hF⟩ := cal_some hF
  refine o_call ha rfl rfl Try.call28 (W_laws_eqInt64SS (ha0_0.ext hE18) (ha1_0.ext hE18) hc20) ?_; clear ha a; rintro v21 w22 ⟨rfl, hx23⟩ a ha
  replace hB3 := hB3.ext hx23
  replace hB11 := hB11.ext hx23
  have hE24 := Ext.trans hE18 hx23
  refine op_g ha rfl (g_not rfl) ?_; clear ha a; intro a ha; refine wpList_nil ?_; replace ha := ha.sub (σ' := [(10, (.bool (!x19)))]) ⟨rfl, trivial⟩; refine e_then ?_; refine c_cond (¬ (x19 = true)) ha rfl (n_iff (Iff.rfl)) (fun hp25 => ?_) (fun hp25 => ?_)
  · replace hF := if_t hp25 hF
    refine wp_seq ?_; refine wp_region_lit ?_; refine op_g ha rfl (g_assign rfl) ?_; clear ha a; intro a ha; refine wpList_nil ?_; replace ha := ha.sub (σ' := [(4, (.bool false))]) ⟨rfl, trivial⟩; refine e_then ?_; refine wp_ret ?_; refine e_then_ret ?_; obtain rfl := Option.some.inj hF
    exact f_ret1 ha rfl rfl ⟨rfl, hE24⟩
  replace hF := if_f hp25 hF; refine wp_skip ?_; refine e_then ?_; refine wp_seq ?_; refine wp_region_lit ?_; refine op_g ha rfl (g_assign rfl) ?_; clear ha a; intro a ha; refine wpList_nil ?_; replace ha := ha.sub (σ' := [(4, (.bool true))]) ⟨rfl, trivial⟩; refine e_then ?_; refine wp_ret ?_; obtain rfl := Option.some.inj hF
  exact f_ret1 ha rfl rfl ⟨rfl, hE24⟩
set_option maxHeartbeats 2000000 in
theorem W_laws_eqNice {W : World} {va0_0 : Value} {fa0_0 : List Nat} {a0_0 : (List Int)} (ha0_0 : Ro Rp.int W fa0_0 va0_0 a0_0) {va0_1 : Value} {fa0_1 : List Nat} {a0_1 : (List Int)} (ha0_1 : Ro Rp.int W fa0_1 va0_1 a0_1) {va0_2 : Value} {fa0_2 : List Nat} {a0_2 : (List (List Int))} (ha0_2 : Ro (Rp.sl 2 Rp.int) W fa0_2 va0_2 a0_2) {va0_3 : Value} {fa0_3 : List Nat} {a0_3 : (List (List Int))} (ha0_3 : Ro (Rp.sl 2 Rp.int) W fa0_3 va0_3 a0_3) {va1_0 : Value} {fa1_0 : List Nat} {a1_0 : (List Int)} (ha1_0 : Ro Rp.int W fa1_0 va1_0 a1_0) {va1_1 : Value} {fa1_1 : List Nat} {a1_1 : (List Int)} (ha1_1 : Ro Rp.int W fa1_1 va1_1 a1_1) {va1_2 : Value} {fa1_2 : List Nat} {a1_2 : (List (List Int))} (ha1_2 : Ro (Rp.sl 2 Rp.int) W fa1_2 va1_2 a1_2) {va1_3 : Value} {fa1_3 : List Nat} {a1_3 : (List (List Int))} (ha1_3 : Ro (Rp.sl 2 Rp.int) W fa1_3 va1_3 a1_3) {r : Bool} (hF : F_laws_eqNice a0_0 a0_1 a0_2 a0_3 a1_0 a1_1 a1_2 a1_3 = some r) :
    Calls Try.prog 11 [.agg #[va0_0, va0_1, va0_2, va0_3], .agg #[va1_0, va1_1, va1_2, va1_3]].toArray W (Ret fun u w' => u = .bool r ∧ Ext W w') := by
  refine f_enter Try.func11 rfl Try.ntmps11 rfl ?_
  intro a ha
  replace ha : Fr 29 [(0, (.agg #[va0_0, va0_1, va0_2, va0_3])), (1, (.agg #[va1_0, va1_1, va1_2, va1_3]))] a := ha
  have hE : Chg [] W W := Chg.refl _ _
  unfold F_laws_eqNice at hF
  refine wp_seq ?_; refine wp_region_lit ?_
  refine o_box ha rfl rfl rfl ?_; clear ha a; intro b1 w2 hB3 hx4 hlo5 a ha
  have q6 := Zn.one hlo5
  have q7 := Zn.upD q6 hE
  have hE8 := Ext.trans hE hx4
  refine o_box ha rfl rfl rfl ?_; clear ha a; intro b9 w10 hB11 hx12 hlo13 a ha
  have q14 := Zn.one hlo13
  have q15 := Nq.new hB3.fpb q14
  have q16 := Nq.made1 hlo13 hB3.bi
  have q17 := Zn.upD q14 hE8
  replace hB3 := hB3.ext hx12
  have hE18 := Ext.trans hE8 hx12
  refine op_g ha rfl (g_assign rfl) ?_; clear ha a; intro a ha; refine wpList_nil ?_; replace ha := ha.sub (σ' := [(2, (.pointer (some ⟨b1, 0, none⟩))), (3, (.pointer (some ⟨b9, 0, none⟩)))]) ⟨rfl, rfl, trivial⟩; refine e_then ?_; refine wp_seq ?_; refine wp_seq ?_; refine wp_region_lit ?_; refine op_g ha rfl (g_field0 st33_0 rfl) ?_; clear ha a; intro a ha; refine op_g ha rfl (g_load Try.isAgg25 rfl (hB3.cell rfl)) ?_; clear ha a; intro a ha; refine op_g ha rfl (g_field0 st33_0 rfl) ?_; clear ha a; intro a ha; refine op_g ha rfl (g_load Try.isAgg25 rfl (hB11.cell rfl)) ?_; clear ha a; intro a ha
  obtain ⟨x19, hc20, hF⟩ := cal_some hF
  refine o_call ha rfl rfl Try.call29 (W_laws_eqInt64S (ha0_0.ext hE18) (ha1_0.ext hE18) hc20) ?_; clear ha a; rintro v21 w22 ⟨rfl, hx23⟩ a ha
  replace hB3 := hB3.ext hx23
  replace hB11 := hB11.ext hx23
  have hE24 := Ext.trans hE18 hx23
  refine op_g ha rfl (g_not rfl) ?_; clear ha a; intro a ha; refine wpList_nil ?_; replace ha := ha.sub (σ' := [(2, (.pointer (some ⟨b1, 0, none⟩))), (3, (.pointer (some ⟨b9, 0, none⟩))), (10, (.bool (!x19)))]) ⟨rfl, rfl, rfl, trivial⟩; refine e_then ?_; refine c_cond (¬ (x19 = true)) ha rfl (n_iff (Iff.rfl)) (fun hp25 => ?_) (fun hp25 => ?_)
  · replace hF := if_t hp25 hF
    refine wp_seq ?_; refine wp_region_lit ?_; refine op_g ha rfl (g_assign rfl) ?_; clear ha a; intro a ha; refine wpList_nil ?_; replace ha := ha.sub (σ' := [(4, (.bool false))]) ⟨rfl, trivial⟩; refine e_then ?_; refine wp_ret ?_; refine e_then_ret ?_; obtain rfl := Option.some.inj hF
    exact f_ret1 ha rfl rfl ⟨rfl, hE24⟩
  replace hF := if_f hp25 hF; refine wp_skip ?_; refine e_then ?_; refine wp_seq ?_; refine wp_seq ?_; refine wp_region_lit ?_; refine op_g ha rfl (g_field0 st33_1 rfl) ?_; clear ha a; intro a ha; refine op_g ha rfl (g_load Try.isAgg25 rfl (hB3.cell rfl)) ?_; clear ha a; intro a ha; refine op_g ha rfl (g_field0 st33_1 rfl) ?_; clear ha a; intro a ha; refine op_g ha rfl (g_load Try.isAgg25 rfl (hB11.cell rfl)) ?_; clear ha a; intro a ha; obtain ⟨x26, hc27, hF⟩ := cal_some hF
  refine o_call ha rfl rfl Try.call29 (W_laws_eqInt64S (ha0_1.ext hE24) (ha1_1.ext hE24) hc27) ?_; clear ha a; rintro v28 w29 ⟨rfl, hx30⟩ a ha
  replace hB3 := hB3.ext hx30
  replace hB11 := hB11.ext hx30
  have hE31 := Ext.trans hE24 hx30
  refine op_g ha rfl (g_not rfl) ?_; clear ha a; intro a ha; refine wpList_nil ?_; replace ha := ha.sub (σ' := [(2, (.pointer (some ⟨b1, 0, none⟩))), (3, (.pointer (some ⟨b9, 0, none⟩))), (16, (.bool (!x26)))]) ⟨rfl, rfl, rfl, trivial⟩; refine e_then ?_; refine c_cond (¬ (x26 = true)) ha rfl (n_iff (Iff.rfl)) (fun hp32 => ?_) (fun hp32 => ?_)
  · replace hF := if_t hp32 hF
    refine wp_seq ?_; refine wp_region_lit ?_; refine op_g ha rfl (g_assign rfl) ?_; clear ha a; intro a ha; refine wpList_nil ?_; replace ha := ha.sub (σ' := [(4, (.bool false))]) ⟨rfl, trivial⟩; refine e_then ?_; refine wp_ret ?_; refine e_then_ret ?_; obtain rfl := Option.some.inj hF
    exact f_ret1 ha rfl rfl ⟨rfl, hE31⟩
  replace hF := if_f hp32 hF; refine wp_skip ?_; refine e_then ?_; refine wp_seq ?_; refine wp_seq ?_; refine wp_region_lit ?_; refine op_g ha rfl (g_field0 st33_2 rfl) ?_; clear ha a; intro a ha; refine op_g ha rfl (g_load Try.isAgg22 rfl (hB3.cell rfl)) ?_; clear ha a; intro a ha; refine op_g ha rfl (g_field0 st33_2 rfl) ?_; clear ha a; intro a ha; refine op_g ha rfl (g_load Try.isAgg22 rfl (hB11.cell rfl)) ?_; clear ha a; intro a ha; obtain ⟨x33, hc34, hF⟩ := cal_some hF
  refine o_call ha rfl rfl Try.call28 (W_laws_eqInt64SS (ha0_2.ext hE31) (ha1_2.ext hE31) hc34) ?_; clear ha a; rintro v35 w36 ⟨rfl, hx37⟩ a ha
  replace hB3 := hB3.ext hx37
  replace hB11 := hB11.ext hx37
  have hE38 := Ext.trans hE31 hx37
  refine op_g ha rfl (g_not rfl) ?_; clear ha a; intro a ha; refine wpList_nil ?_; replace ha := ha.sub (σ' := [(2, (.pointer (some ⟨b1, 0, none⟩))), (3, (.pointer (some ⟨b9, 0, none⟩))), (22, (.bool (!x33)))]) ⟨rfl, rfl, rfl, trivial⟩; refine e_then ?_; refine c_cond (¬ (x33 = true)) ha rfl (n_iff (Iff.rfl)) (fun hp39 => ?_) (fun hp39 => ?_)
  · replace hF := if_t hp39 hF
    refine wp_seq ?_; refine wp_region_lit ?_; refine op_g ha rfl (g_assign rfl) ?_; clear ha a; intro a ha; refine wpList_nil ?_; replace ha := ha.sub (σ' := [(4, (.bool false))]) ⟨rfl, trivial⟩; refine e_then ?_; refine wp_ret ?_; refine e_then_ret ?_; obtain rfl := Option.some.inj hF
    exact f_ret1 ha rfl rfl ⟨rfl, hE38⟩
  replace hF := if_f hp39 hF; refine wp_skip ?_; refine e_then ?_; refine wp_seq ?_; refine wp_seq ?_; refine wp_region_lit ?_; refine op_g ha rfl (g_field0 st33_3 rfl) ?_; clear ha a; intro a ha; refine op_g ha rfl (g_load Try.isAgg22 rfl (hB3.cell rfl)) ?_; clear ha a; intro a ha; refine op_g ha rfl (g_field0 st33_3 rfl) ?_; clear ha a; intro a ha; refine op_g ha rfl (g_load Try.isAgg22 rfl (hB11.cell rfl)) ?_; clear ha a; intro a ha; obtain ⟨x40, hc41, hF⟩ := cal_some hF
  refine o_call ha rfl rfl Try.call28 (W_laws_eqInt64SS (ha0_3.ext hE38) (ha1_3.ext hE38) hc41) ?_; clear ha a; rintro v42 w43 ⟨rfl, hx44⟩ a ha
  replace hB3 := hB3.ext hx44
  replace hB11 := hB11.ext hx44
  have hE45 := Ext.trans hE38 hx44
  refine op_g ha rfl (g_not rfl) ?_; clear ha a; intro a ha; refine wpList_nil ?_; replace ha := ha.sub (σ' := [(28, (.bool (!x40)))]) ⟨rfl, trivial⟩; refine e_then ?_; refine c_cond (¬ (x40 = true)) ha rfl (n_iff (Iff.rfl)) (fun hp46 => ?_) (fun hp46 => ?_)
  · replace hF := if_t hp46 hF
    refine wp_seq ?_; refine wp_region_lit ?_; refine op_g ha rfl (g_assign rfl) ?_; clear ha a; intro a ha; refine wpList_nil ?_; replace ha := ha.sub (σ' := [(4, (.bool false))]) ⟨rfl, trivial⟩; refine e_then ?_; refine wp_ret ?_; refine e_then_ret ?_; obtain rfl := Option.some.inj hF
    exact f_ret1 ha rfl rfl ⟨rfl, hE45⟩
  replace hF := if_f hp46 hF; refine wp_skip ?_; refine e_then ?_; refine wp_seq ?_; refine wp_region_lit ?_; refine op_g ha rfl (g_assign rfl) ?_; clear ha a; intro a ha; refine wpList_nil ?_; replace ha := ha.sub (σ' := [(4, (.bool true))]) ⟨rfl, trivial⟩; refine e_then ?_; refine wp_ret ?_; obtain rfl := Option.some.inj hF
  exact f_ret1 ha rfl rfl ⟨rfl, hE45⟩
set_option maxHeartbeats 2000000 in
theorem W_laws_FnExactNiceOk {W : World} {va0_0 : Value} {fa0_0 : List Nat} {a0_0 : (List (List Int))} (ha0_0 : Ro (Rp.sl 2 Rp.int) W fa0_0 va0_0 a0_0) {va1_0 : Value} {fa1_0 : List Nat} {a1_0 : (List Int)} (ha1_0 : Ro Rp.int W fa1_0 va1_0 a1_0) {va1_1 : Value} {fa1_1 : List Nat} {a1_1 : (List Int)} (ha1_1 : Ro Rp.int W fa1_1 va1_1 a1_1) {va1_2 : Value} {fa1_2 : List Nat} {a1_2 : (List (List Int))} (ha1_2 : Ro (Rp.sl 2 Rp.int) W fa1_2 va1_2 a1_2) {va1_3 : Value} {fa1_3 : List Nat} {a1_3 : (List (List Int))} (ha1_3 : Ro (Rp.sl 2 Rp.int) W fa1_3 va1_3 a1_3) {r : Bool} (hF : F_laws_FnExactNiceOk a0_0 a1_0 a1_1 a1_2 a1_3 = some r) :
    Calls Try.prog 3 [.agg #[va0_0], .agg #[va1_0, va1_1, va1_2, va1_3]].toArray W (Ret fun u w' => u = .bool r ∧ Ext W w') := by
  refine f_enter Try.func3 rfl Try.ntmps3 rfl ?_
  intro a ha
  replace ha : Fr 45 [(0, (.agg #[va0_0])), (1, (.agg #[va1_0, va1_1, va1_2, va1_3]))] a := ha
  have hE : Chg [] W W := Chg.refl _ _
  unfold F_laws_FnExactNiceOk at hF
  refine wp_seq ?_; refine wp_region_lit ?_
  refine o_box ha rfl rfl rfl ?_; clear ha a; intro b1 w2 hB3 hx4 hlo5 a ha
  have q6 := Zn.one hlo5
  have q7 := Zn.upD q6 hE
  have hE8 := Ext.trans hE hx4
  refine o_box ha rfl rfl rfl ?_; clear ha a; intro b9 w10 hB11 hx12 hlo13 a ha
  have q14 := Zn.one hlo13
  have q15 := Nq.new hB3.fpb q14
  have q16 := Nq.made1 hlo13 hB3.bi
  have q17 := Zn.upD q14 hE8
  replace hB3 := hB3.ext hx12
  have hE18 := Ext.trans hE8 hx12
  refine op_g ha rfl (g_assign rfl) ?_; clear ha a; intro a ha; refine wpList_nil ?_; replace ha := ha.sub (σ' := [(2, (.pointer (some ⟨b1, 0, none⟩))), (3, (.pointer (some ⟨b9, 0, none⟩)))]) ⟨rfl, rfl, trivial⟩; refine e_then ?_; refine wp_seq ?_; refine wp_region_lit ?_; refine op_g ha rfl (g_assign rfl) ?_; clear ha a; intro a ha; refine wpList_nil ?_; refine e_then ?_; refine wp_seq ?_; refine wp_region_lit ?_; refine op_g ha rfl (g_loadA (cs := [va0_0]) Try.isAgg24 Try.sizeOf24 rfl (by simp) hB3.all) ?_; clear ha a; intro a ha; refine op_g ha rfl (g_move rfl) ?_; clear ha a; intro a ha; obtain ⟨x19, hc20, hF⟩ := cal_some hF
  refine o_call ha rfl rfl Try.call4 (W_laws_szGraph (ha0_0.ext hE18) (show InI 1048576 from by decide) hc20) ?_; clear ha a; rintro v21 w22 ⟨⟨rfl, hI24⟩, hx23⟩ a ha
  replace hB3 := hB3.ext hx23
  replace hB11 := hB11.ext hx23
  have hE25 := Ext.trans hE18 hx23
  refine op_g ha rfl (g_assign rfl) ?_; clear ha a; intro a ha; refine wpList_nil ?_; replace ha := ha.sub (σ' := [(2, (.pointer (some ⟨b1, 0, none⟩))), (3, (.pointer (some ⟨b9, 0, none⟩))), (5, (.int .i64 x19))]) ⟨rfl, rfl, rfl, trivial⟩; refine e_then ?_; refine wp_seq ?_; refine wp_seq ?_; refine wp_region_lit ?_; refine op_g ha rfl (g_move rfl) ?_; clear ha a; intro a ha; refine op_g ha rfl (g_lss rfl rfl) ?_; clear ha a; intro a ha; refine wpList_nil ?_; replace ha := ha.sub (σ' := [(2, (.pointer (some ⟨b1, 0, none⟩))), (3, (.pointer (some ⟨b9, 0, none⟩))), (5, (.int .i64 x19)), (14, (.bool (decide (x19 < 0))))]) ⟨rfl, rfl, rfl, rfl, trivial⟩
  refine e_then ?_; refine c_cond (x19 < 0) ha rfl (decide_eq_true_iff) (fun hp26 => ?_) (fun hp26 => ?_)
  · replace hF := if_t hp26 hF
    refine wp_seq ?_; refine wp_region_lit ?_; refine op_g ha rfl (g_assign rfl) ?_; clear ha a; intro a ha; refine wpList_nil ?_; replace ha := ha.sub (σ' := [(4, (.bool true))]) ⟨rfl, trivial⟩; refine e_then ?_; refine wp_ret ?_; refine e_then_ret ?_; obtain rfl := Option.some.inj hF
    exact f_ret1 ha rfl rfl ⟨rfl, hE25⟩
  replace hF := if_f hp26 hF; refine wp_skip ?_; refine e_then ?_; refine wp_seq ?_; refine wp_region_lit ?_; refine op_g ha rfl (g_loadA (cs := [va1_0, va1_1, va1_2, va1_3]) Try.isAgg27 Try.sizeOf27 rfl (by simp) hB11.all) ?_; clear ha a; intro a ha; refine op_g ha rfl (g_move rfl) ?_; clear ha a; intro a ha; obtain ⟨x27, hc28, hF⟩ := cal_some hF
  refine o_call ha rfl rfl Try.call5 (W_laws_szNice (ha1_0.ext hE25) (ha1_1.ext hE25) (ha1_2.ext hE25) (ha1_3.ext hE25) hI24 hc28) ?_; clear ha a; rintro v29 w30 ⟨⟨rfl, hI32⟩, hx31⟩ a ha
  replace hB3 := hB3.ext hx31
  replace hB11 := hB11.ext hx31
  have hE33 := Ext.trans hE25 hx31
  refine op_g ha rfl (g_assign rfl) ?_; clear ha a; intro a ha; refine wpList_nil ?_; replace ha := ha.sub (σ' := [(2, (.pointer (some ⟨b1, 0, none⟩))), (3, (.pointer (some ⟨b9, 0, none⟩))), (5, (.int .i64 x27))]) ⟨rfl, rfl, rfl, trivial⟩; refine e_then ?_; refine wp_seq ?_; refine wp_seq ?_; refine wp_region_lit ?_; refine op_g ha rfl (g_move rfl) ?_; clear ha a; intro a ha; refine op_g ha rfl (g_lss rfl rfl) ?_; clear ha a; intro a ha; refine wpList_nil ?_; replace ha := ha.sub (σ' := [(2, (.pointer (some ⟨b1, 0, none⟩))), (3, (.pointer (some ⟨b9, 0, none⟩))), (19, (.bool (decide (x27 < 0))))]) ⟨rfl, rfl, rfl, trivial⟩
  refine e_then ?_; refine c_cond (x27 < 0) ha rfl (decide_eq_true_iff) (fun hp34 => ?_) (fun hp34 => ?_)
  · replace hF := if_t hp34 hF
    refine wp_seq ?_; refine wp_region_lit ?_; refine op_g ha rfl (g_assign rfl) ?_; clear ha a; intro a ha; refine wpList_nil ?_; replace ha := ha.sub (σ' := [(4, (.bool true))]) ⟨rfl, trivial⟩; refine e_then ?_; refine wp_ret ?_; refine e_then_ret ?_; obtain rfl := Option.some.inj hF
    exact f_ret1 ha rfl rfl ⟨rfl, hE33⟩
  replace hF := if_f hp34 hF; refine wp_skip ?_; refine e_then ?_; refine wp_seq ?_; refine d_region [0, 1, 2, 3, 4, 5] hmix ?_; refine u_g 0 rfl (by kernel_rfl) (want0 _) ha rfl (g_loadA (cs := [va0_0]) Try.isAgg24 Try.sizeOf24 rfl (by simp) hB3.all) ?_; clear ha a; intro a ha; refine u_g 2 rfl (by kernel_rfl) (want0 _) ha rfl (g_loadA (cs := [va1_0, va1_1, va1_2, va1_3]) Try.isAgg27 Try.sizeOf27 rfl (by simp) hB11.all) ?_; clear ha a; intro a ha
  refine u_only 1 rfl (by kernel_rfl) ?_; intro w35 hx36
  replace hB3 := hB3.ext hx36
  replace hB11 := hB11.ext hx36
  have hE37 := Ext.trans hE33 hx36
  obtain ⟨x38, hc39, hF⟩ := cal_some hF
  refine o_call ha rfl rfl Try.call7 (W_laws_toGraph (ha0_0.ext hE37) hc39) ?_; clear ha a; rintro v40 w41 ⟨u43, b44, fs48, rfl, h45, z46, zf49, nd50, hx42⟩ a ha
  have q51 := Nq.new hB3.fpb z46
  have q52 := Nq.madeF z46 zf49 hB3.bi
  have q53 := Nq.new hB11.fpb z46
  have q54 := Nq.madeF z46 zf49 hB11.bi
  have q55 := Nf.new hB3.fpb zf49
  have q56 := Nf.new hB11.fpb zf49
  replace hB3 := hB3.ext hx42
  replace hB11 := hB11.ext hx42
  have hE57 := Ext.trans hE37 hx42
  have q58 := Zn.upD z46 hE37
  have q59 := zf_up zf49 hE37
  refine wpList_nil (e_sq ?_)
  refine ⟨fun _ => hx42, ?_⟩
  refine u_only 3 rfl (by kernel_rfl) ?_; intro w60 hx61
  replace hB3 := hB3.ext hx61
  replace hB11 := hB11.ext hx61
  replace h45 := h45.ext hx61
  have hE62 := Ext.trans hE57 hx61
  obtain ⟨x63, hc64, hF⟩ := cal_some hF
  refine o_call ha rfl rfl Try.call8 (W_laws_toNice (ha1_0.ext hE62) (ha1_1.ext hE62) (ha1_2.ext hE62) (ha1_3.ext hE62) hc64) ?_; clear ha a; rintro v65 w66 ⟨u68, u69, u70, u71, b72, b76, b80, fs84, b87, fs91, rfl, h73, z74, h77, z78, h81, z82, zf85, nd86, h88, z89, zf92, nd93, q94, q95, q96, q97, q98, q99, q100, q101, q102, q103, q104, q105, hx67⟩ a ha
  have q106 := Nq.new hB3.fpb z74
  have q107 := Nq.madeO z74 hB3.bi
  have q108 := Nq.new hB11.fpb z74
  have q109 := Nq.madeO z74 hB11.bi
  have q110 := Nq.new h45.fpb z74
  have q111 := Nq.madeO z74 h45.blt
  have q112 := Nq.new hB3.fpb z78
  have q113 := Nq.madeO z78 hB3.bi
  have q114 := Nq.new hB11.fpb z78
  have q115 := Nq.madeO z78 hB11.bi
  have q116 := Nq.new h45.fpb z78
  have q117 := Nq.madeO z78 h45.blt
  have q118 := Nq.new hB3.fpb z82
  have q119 := Nq.madeF z82 zf85 hB3.bi
  have q120 := Nq.new hB11.fpb z82
  have q121 := Nq.madeF z82 zf85 hB11.bi
  have q122 := Nq.new h45.fpb z82
  have q123 := Nq.madeF z82 zf85 h45.blt
  have q124 := Nq.new hB3.fpb z89
  have q125 := Nq.madeF z89 zf92 hB3.bi
  have q126 := Nq.new hB11.fpb z89
  have q127 := Nq.madeF z89 zf92 hB11.bi
  have q128 := Nq.new h45.fpb z89
  have q129 := Nq.madeF z89 zf92 h45.blt
  have q130 := Nf.old z74 (zf_nil _) h45.bnd
  have q131 := Nf.old z78 (zf_nil _) h45.bnd
  have q132 := Nf.new hB3.fpb zf85
  have q133 := Nf.new hB11.fpb zf85
  have q134 := Nf.new h45.fpb zf85
  have q135 := Nf.old z82 zf85 h45.bnd
  have q136 := Nf.new hB3.fpb zf92
  have q137 := Nf.new hB11.fpb zf92
  have q138 := Nf.new h45.fpb zf92
  have q139 := Nf.old z89 zf92 h45.bnd
  replace hB3 := hB3.ext hx67
  replace hB11 := hB11.ext hx67
  replace h45 := h45.ext hx67
  have hE140 := Ext.trans hE62 hx67
  have q141 := Zn.upD z74 hE62
  have q142 := Zn.upD z78 hE62
  have q143 := Zn.upD z82 hE62
  have q144 := zf_up zf85 hE62
  have q145 := Zn.upD z89 hE62
  have q146 := zf_up zf92 hE62
  refine wpList_nil (e_sq ?_)
  refine ⟨fun _ => hx67, ?_⟩
  obtain ⟨fp149, hro150, hs151⟩ := h45.roF
  obtain ⟨fp152, hro153, hs154⟩ := h73.roF
  obtain ⟨fp155, hro156, hs157⟩ := h77.roF
  obtain ⟨fp158, hro159, hs160⟩ := h81.roF
  obtain ⟨fp161, hro162, hs163⟩ := h88.roF
  obtain ⟨x164, hc165, hF⟩ := cal_some hF; refine u_call (.bool x164) 4 rfl (by kernel_rfl) (want0 _) ha rfl rfl Try.call6 (fun w148 hx147 => W_spec_NiceOk (hro150.ext hx147) (hro153.ext hx147) (hro156.ext hx147) (hro159.ext hx147) (hro162.ext hx147) hc165) (fun _ _ _ h => ⟨h.1, h.2⟩) ?_; clear ha a; intro a ha; refine u_g 5 rfl (by kernel_rfl) (want0 _) ha rfl (g_assign rfl) ?_; clear ha a; intro a ha
  refine u_done (by kernel_rfl) ?_; intro w166 hx167
  replace hB3 := hB3.ext hx167
  replace hB11 := hB11.ext hx167
  replace h45 := h45.ext hx167
  replace h73 := h73.ext hx167
  replace h77 := h77.ext hx167
  replace h81 := h81.ext hx167
  replace h88 := h88.ext hx167
  have hE168 := Ext.trans hE140 hx167
  replace ha := ha.sub (σ' := [(2, (.pointer (some ⟨b1, 0, none⟩))), (3, (.pointer (some ⟨b9, 0, none⟩))), (6, (.bool x164))]) ⟨rfl, rfl, rfl, trivial⟩; refine e_then ?_; refine wp_seq ?_; refine wp_region_lit ?_; refine op_g ha rfl (g_loadA (cs := [va0_0]) Try.isAgg24 Try.sizeOf24 rfl (by simp) hB3.all) ?_; clear ha a; intro a ha; obtain ⟨x169, hc170, hF⟩ := cal_some hF
  refine o_call ha rfl rfl Try.call7 (W_laws_toGraph (ha0_0.ext hE168) hc170) ?_; clear ha a; rintro v171 w172 ⟨u174, b175, fs179, rfl, h176, z177, zf180, nd181, hx173⟩ a ha
  have q182 := Nq.new hB3.fpb z177
  have q183 := Nq.madeF z177 zf180 hB3.bi
  have q184 := Nq.new hB11.fpb z177
  have q185 := Nq.madeF z177 zf180 hB11.bi
  have q186 := Nf.new hB3.fpb zf180
  have q187 := Nf.new hB11.fpb zf180
  replace hB3 := hB3.ext hx173
  replace hB11 := hB11.ext hx173
  have hE188 := Ext.trans hE168 hx173
  have q189 := Zn.upD z177 hE168
  have q190 := zf_up zf180 hE168
  refine o_alloc (cs := [(.slice none 0 0)]) ha rfl Try.zeroValue31 rfl ?_; clear ha a; intro b191 w192 hB193 hx194 hlo195 a ha
  have q196 := Zn.one hlo195
  have q197 := Nq.new hB3.fpb q196
  have q198 := Nq.made1 hlo195 hB3.bi
  have q199 := Nq.new hB11.fpb q196
  have q200 := Nq.made1 hlo195 hB11.bi
  have q201 := Nq.new h176.fpb q196
  have q202 := Nq.made1 hlo195 h176.blt
  have q203 := Zn.upD q196 hE188
  replace hB3 := hB3.ext hx194
  replace hB11 := hB11.ext hx194
  replace h176 := h176.ext hx194
  have hE204 := Ext.trans hE188 hx194
  refine o_storeA (vs := [u174]) ha hB193 Try.sizeOf31 rfl rfl (by intro c hc; simp only [List.mem_cons, List.not_mem_nil, or_false] at hc; rcases hc with hc <;> subst hc <;> first | rfl | exact h176.oneC) rfl ?_; intro w205 hB206 hc207
  replace hc207 := hc207.bl
  replace hB206 : Bx w205 b191 [u174] 31 := hB206
  replace hB3 := hB3.nq hc207 q197
  replace hB11 := hB11.nq hc207 q199
  replace h176 := h176.nq hc207 q201
  have hE208 := Ext.then hE204 hc207 (Zn.bl q203)
  refine wpList_nil ?_; replace ha := ha.sub (σ' := [(2, (.pointer (some ⟨b1, 0, none⟩))), (3, (.pointer (some ⟨b9, 0, none⟩))), (6, (.bool x164)), (7, (.pointer (some ⟨b191, 0, none⟩)))]) ⟨rfl, rfl, rfl, rfl, trivial⟩; refine e_then ?_; refine wp_seq ?_; refine wp_region_lit ?_; refine op_g ha rfl (g_loadA (cs := [va1_0, va1_1, va1_2, va1_3]) Try.isAgg27 Try.sizeOf27 rfl (by simp) hB11.all) ?_; clear ha a; intro a ha; obtain ⟨x209, hc210, hF⟩ := cal_some hF
  refine o_call ha rfl rfl Try.call8 (W_laws_toNice (ha1_0.ext hE208) (ha1_1.ext hE208) (ha1_2.ext hE208) (ha1_3.ext hE208) hc210) ?_; clear ha a; rintro v211 w212 ⟨u214, u215, u216, u217, b218, b222, b226, fs230, b233, fs237, rfl, h219, z220, h223, z224, h227, z228, zf231, nd232, h234, z235, zf238, nd239, q240, q241, q242, q243, q244, q245, q246, q247, q248, q249, q250, q251, hx213⟩ a ha
  have q252 := Nq.new hB3.fpb z220
  have q253 := Nq.madeO z220 hB3.bi
  have q254 := Nq.new hB11.fpb z220
  have q255 := Nq.madeO z220 hB11.bi
  have q256 := Nq.new h176.fpb z220
  have q257 := Nq.madeO z220 h176.blt
  have q258 := Nq.new hB206.fpb z220
  have q259 := Nq.madeO z220 hB206.bi
  have q260 := Nq.new hB3.fpb z224
  have q261 := Nq.madeO z224 hB3.bi
  have q262 := Nq.new hB11.fpb z224
  have q263 := Nq.madeO z224 hB11.bi
  have q264 := Nq.new h176.fpb z224
  have q265 := Nq.madeO z224 h176.blt
  have q266 := Nq.new hB206.fpb z224
  have q267 := Nq.madeO z224 hB206.bi
  have q268 := Nq.new hB3.fpb z228
  have q269 := Nq.madeF z228 zf231 hB3.bi
  have q270 := Nq.new hB11.fpb z228
  have q271 := Nq.madeF z228 zf231 hB11.bi
  have q272 := Nq.new h176.fpb z228
  have q273 := Nq.madeF z228 zf231 h176.blt
  have q274 := Nq.new hB206.fpb z228
  have q275 := Nq.madeF z228 zf231 hB206.bi
  have q276 := Nq.new hB3.fpb z235
  have q277 := Nq.madeF z235 zf238 hB3.bi
  have q278 := Nq.new hB11.fpb z235
  have q279 := Nq.madeF z235 zf238 hB11.bi
  have q280 := Nq.new h176.fpb z235
  have q281 := Nq.madeF z235 zf238 h176.blt
  have q282 := Nq.new hB206.fpb z235
  have q283 := Nq.madeF z235 zf238 hB206.bi
  have q284 := Nf.old z220 (zf_nil _) h176.bnd
  have q285 := Nf.old z224 (zf_nil _) h176.bnd
  have q286 := Nf.new hB3.fpb zf231
  have q287 := Nf.new hB11.fpb zf231
  have q288 := Nf.new h176.fpb zf231
  have q289 := Nf.old z228 zf231 h176.bnd
  have q290 := Nf.new hB206.fpb zf231
  have q291 := Nf.new hB3.fpb zf238
  have q292 := Nf.new hB11.fpb zf238
  have q293 := Nf.new h176.fpb zf238
  have q294 := Nf.old z235 zf238 h176.bnd
  have q295 := Nf.new hB206.fpb zf238
  replace hB3 := hB3.ext hx213
  replace hB11 := hB11.ext hx213
  replace h176 := h176.ext hx213
  replace hB206 := hB206.ext hx213
  have hE296 := Ext.trans hE208 hx213
  have q297 := Zn.upD z220 hE208
  have q298 := Zn.upD z224 hE208
  have q299 := Zn.upD z228 hE208
  have q300 := zf_up zf231 hE208
  have q301 := Zn.upD z235 hE208
  have q302 := zf_up zf238 hE208
  refine o_alloc (cs := [(.slice none 0 0), (.slice none 0 0), (.slice none 0 0), (.slice none 0 0)]) ha rfl Try.zeroValue33 rfl ?_; clear ha a; intro b303 w304 hB305 hx306 hlo307 a ha
  have q308 := Zn.one hlo307
  have q309 := Nq.new hB3.fpb q308
  have q310 := Nq.made1 hlo307 hB3.bi
  have q311 := Nq.new hB11.fpb q308
  have q312 := Nq.made1 hlo307 hB11.bi
  have q313 := Nq.new h176.fpb q308
  have q314 := Nq.made1 hlo307 h176.blt
  have q315 := Nq.new hB206.fpb q308
  have q316 := Nq.made1 hlo307 hB206.bi
  have q317 := Nq.new h219.fpb q308
  have q318 := Nq.made1 hlo307 h219.blt
  have q319 := Nq.new h223.fpb q308
  have q320 := Nq.made1 hlo307 h223.blt
  have q321 := Nq.new h227.fpb q308
  have q322 := Nq.made1 hlo307 h227.blt
  have q323 := Nq.new h234.fpb q308
  have q324 := Nq.made1 hlo307 h234.blt
  have q325 := Zn.upD q308 hE296
  replace hB3 := hB3.ext hx306
  replace hB11 := hB11.ext hx306
  replace h176 := h176.ext hx306
  replace hB206 := hB206.ext hx306
  replace h219 := h219.ext hx306
  replace h223 := h223.ext hx306
  replace h227 := h227.ext hx306
  replace h234 := h234.ext hx306
  have hE326 := Ext.trans hE296 hx306
  refine o_storeA (vs := [u214, u215, u216, u217]) ha hB305 Try.sizeOf33 rfl rfl (by intro c hc; simp only [List.mem_cons, List.not_mem_nil, or_false] at hc; rcases hc with hc | hc | hc | hc <;> subst hc <;> first | rfl | exact h219.oneC | exact h223.oneC | exact h227.oneC | exact h234.oneC) rfl ?_; intro w327 hB328 hc329
  replace hc329 := hc329.bl
  replace hB328 : Bx w327 b303 [u214, u215, u216, u217] 33 := hB328
  replace hB3 := hB3.nq hc329 q309
  replace hB11 := hB11.nq hc329 q311
  replace h176 := h176.nq hc329 q313
  replace hB206 := hB206.nq hc329 q315
  replace h219 := h219.nq hc329 q317
  replace h223 := h223.nq hc329 q319
  replace h227 := h227.nq hc329 q321
  replace h234 := h234.nq hc329 q323
  have hE330 := Ext.then hE326 hc329 (Zn.bl q325)
  refine wpList_nil ?_; replace ha := ha.sub (σ' := [(2, (.pointer (some ⟨b1, 0, none⟩))), (3, (.pointer (some ⟨b9, 0, none⟩))), (6, (.bool x164)), (7, (.pointer (some ⟨b191, 0, none⟩))), (8, (.pointer (some ⟨b303, 0, none⟩)))]) ⟨rfl, rfl, rfl, rfl, rfl, trivial⟩; refine e_then ?_; refine wp_seq ?_; refine wp_region_lit ?_; refine op_g ha rfl (g_loadA (cs := [u174]) Try.isAgg31 Try.sizeOf31 rfl (by simp) hB206.all) ?_; clear ha a; intro a ha; refine op_g ha rfl (g_loadA (cs := [u214, u215, u216, u217]) Try.isAgg33 Try.sizeOf33 rfl (by simp) hB328.all) ?_; clear ha a; intro a ha
  obtain ⟨fp331, hro332, hs333⟩ := h176.roF
  obtain ⟨fp334, hro335, hs336⟩ := h219.roF
  obtain ⟨fp337, hro338, hs339⟩ := h223.roF
  obtain ⟨fp340, hro341, hs342⟩ := h227.roF
  obtain ⟨fp343, hro344, hs345⟩ := h234.roF
  obtain ⟨x346, hc347, hF⟩ := cal_some hF
  refine o_call ha rfl rfl Try.call9 (W_impl_NiceOk hro332 hro335 hro338 hro341 hro344 hc347) ?_; clear ha a; rintro v348 w349 ⟨rfl, hx350⟩ a ha
  replace hB3 := hB3.ext hx350
  replace hB11 := hB11.ext hx350
  replace h176 := h176.ext hx350
  replace hB206 := hB206.ext hx350
  replace h219 := h219.ext hx350
  replace h223 := h223.ext hx350
  replace h227 := h227.ext hx350
  replace h234 := h234.ext hx350
  replace hB328 := hB328.ext hx350
  have hE351 := Ext.trans hE330 hx350
  refine op_g ha rfl (g_assign rfl) ?_; clear ha a; intro a ha; refine wpList_nil ?_; replace ha := ha.sub (σ' := [(2, (.pointer (some ⟨b1, 0, none⟩))), (3, (.pointer (some ⟨b9, 0, none⟩))), (6, (.bool x164)), (7, (.pointer (some ⟨b191, 0, none⟩))), (8, (.pointer (some ⟨b303, 0, none⟩))), (9, (.bool x346))]) ⟨rfl, rfl, rfl, rfl, rfl, rfl, trivial⟩; refine e_then ?_; refine wp_seq ?_; refine wp_seq ?_; refine wp_region_lit ?_; (iterate 2 refine op_g ha rfl (g_move rfl) ?_; clear ha a; intro a ha); refine op_g ha rfl (gB_neq un4 rfl rfl) ?_; clear ha a; intro a ha; refine wpList_nil ?_; replace ha := ha.sub (σ' := [(2, (.pointer (some ⟨b1, 0, none⟩))), (3, (.pointer (some ⟨b9, 0, none⟩))), (7, (.pointer (some ⟨b191, 0, none⟩))), (8, (.pointer (some ⟨b303, 0, none⟩))), (34, (.bool (x346 != x164)))]) ⟨rfl, rfl, rfl, rfl, rfl, trivial⟩
  refine e_then ?_; refine c_cond ((x346 != x164) = true) ha rfl (Iff.rfl) (fun hp352 => ?_) (fun hp352 => ?_)
  · replace hF := if_t hp352 hF
    refine wp_seq ?_; refine wp_region_lit ?_; refine op_g ha rfl (g_assign rfl) ?_; clear ha a; intro a ha; refine wpList_nil ?_; replace ha := ha.sub (σ' := [(4, (.bool false))]) ⟨rfl, trivial⟩; refine e_then ?_; refine wp_ret ?_; refine e_then_ret ?_; obtain rfl := Option.some.inj hF
    exact f_ret1 ha rfl rfl ⟨rfl, hE351⟩
  replace hF := if_f hp352 hF; refine wp_skip ?_; refine e_then ?_; refine wp_seq ?_; refine wp_seq ?_; refine d_region [0, 1, 2, 3, 4] hmix ?_; refine u_g 0 rfl (by kernel_rfl) (want0 _) ha rfl (g_loadA (cs := [u174]) Try.isAgg31 Try.sizeOf31 rfl (by simp) hB206.all) ?_; clear ha a; intro a ha; refine u_g 1 rfl (by kernel_rfl) (want0 _) ha rfl (g_loadA (cs := [va0_0]) Try.isAgg24 Try.sizeOf24 rfl (by simp) hB3.all) ?_; clear ha a; intro a ha
  refine u_only 2 rfl (by kernel_rfl) ?_; intro w353 hx354
  replace hB3 := hB3.ext hx354
  replace hB11 := hB11.ext hx354
  replace h176 := h176.ext hx354
  replace hB206 := hB206.ext hx354
  replace h219 := h219.ext hx354
  replace h223 := h223.ext hx354
  replace h227 := h227.ext hx354
  replace h234 := h234.ext hx354
  replace hB328 := hB328.ext hx354
  have hE355 := Ext.trans hE351 hx354
  obtain ⟨x356, hc357, hF⟩ := cal_some hF
  refine o_call ha rfl rfl Try.call7 (W_laws_toGraph (ha0_0.ext hE355) hc357) ?_; clear ha a; rintro v358 w359 ⟨u361, b362, fs366, rfl, h363, z364, zf367, nd368, hx360⟩ a ha
  have q369 := Nq.new hB3.fpb z364
  have q370 := Nq.madeF z364 zf367 hB3.bi
  have q371 := Nq.new hB11.fpb z364
  have q372 := Nq.madeF z364 zf367 hB11.bi
  have q373 := Nq.new h176.fpb z364
  have q374 := Nq.madeF z364 zf367 h176.blt
  have q375 := Nq.new hB206.fpb z364
  have q376 := Nq.madeF z364 zf367 hB206.bi
  have q377 := Nq.new h219.fpb z364
  have q378 := Nq.madeF z364 zf367 h219.blt
  have q379 := Nq.new h223.fpb z364
  have q380 := Nq.madeF z364 zf367 h223.blt
  have q381 := Nq.new h227.fpb z364
  have q382 := Nq.madeF z364 zf367 h227.blt
  have q383 := Nq.new h234.fpb z364
  have q384 := Nq.madeF z364 zf367 h234.blt
  have q385 := Nq.new hB328.fpb z364
  have q386 := Nq.madeF z364 zf367 hB328.bi
  have q387 := Nf.new hB3.fpb zf367
  have q388 := Nf.new hB11.fpb zf367
  have q389 := Nf.new h176.fpb zf367
  have q390 := Nf.old z364 zf367 h176.bnd
  have q391 := Nf.new hB206.fpb zf367
  have q392 := Nf.new h219.fpb zf367
  have q393 := Nf.new h223.fpb zf367
  have q394 := Nf.new h227.fpb zf367
  have q395 := Nf.old z364 zf367 h227.bnd
  have q396 := Nf.new h234.fpb zf367
  have q397 := Nf.old z364 zf367 h234.bnd
  have q398 := Nf.new hB328.fpb zf367
  replace hB3 := hB3.ext hx360
  replace hB11 := hB11.ext hx360
  replace h176 := h176.ext hx360
  replace hB206 := hB206.ext hx360
  replace h219 := h219.ext hx360
  replace h223 := h223.ext hx360
  replace h227 := h227.ext hx360
  replace h234 := h234.ext hx360
  replace hB328 := hB328.ext hx360
  have hE399 := Ext.trans hE355 hx360
  have q400 := Zn.upD z364 hE355
  have q401 := zf_up zf367 hE355
  refine wpList_nil (e_sq ?_)
  refine ⟨fun _ => hx360, ?_⟩
  obtain ⟨fp404, hro405, hs406⟩ := h176.roF
  obtain ⟨fp407, hro408, hs409⟩ := h363.roF
  obtain ⟨x410, hc411, hF⟩ := cal_some hF; refine u_call (.bool x410) 3 rfl (by kernel_rfl) (want0 _) ha rfl rfl Try.call10 (fun w403 hx402 => W_laws_eqGraph (hro405.ext hx402) (hro408.ext hx402) hc411) (fun _ _ _ h => ⟨h.1, h.2⟩) ?_; clear ha a; intro a ha; refine u_g 4 rfl (by kernel_rfl) (want0 _) ha rfl (g_not rfl) ?_; clear ha a; intro a ha
  refine u_done (by kernel_rfl) ?_; intro w412 hx413
  replace hB3 := hB3.ext hx413
  replace hB11 := hB11.ext hx413
  replace h176 := h176.ext hx413
  replace hB206 := hB206.ext hx413
  replace h219 := h219.ext hx413
  replace h223 := h223.ext hx413
  replace h227 := h227.ext hx413
  replace h234 := h234.ext hx413
  replace hB328 := hB328.ext hx413
  replace h363 := h363.ext hx413
  have hE414 := Ext.trans hE399 hx413
  replace ha := ha.sub (σ' := [(3, (.pointer (some ⟨b9, 0, none⟩))), (8, (.pointer (some ⟨b303, 0, none⟩))), (39, (.bool (!x410)))]) ⟨rfl, rfl, rfl, trivial⟩; refine e_then ?_; refine c_cond (¬ (x410 = true)) ha rfl (n_iff (Iff.rfl)) (fun hp415 => ?_) (fun hp415 => ?_)
  · replace hF := if_t hp415 hF
    refine wp_seq ?_; refine wp_region_lit ?_; refine op_g ha rfl (g_assign rfl) ?_; clear ha a; intro a ha; refine wpList_nil ?_; replace ha := ha.sub (σ' := [(4, (.bool false))]) ⟨rfl, trivial⟩; refine e_then ?_; refine wp_ret ?_; refine e_then_ret ?_; obtain rfl := Option.some.inj hF
    exact f_ret1 ha rfl rfl ⟨rfl, hE414⟩
  replace hF := if_f hp415 hF; refine wp_skip ?_; refine e_then ?_; refine wp_seq ?_; refine wp_seq ?_; refine d_region [0, 1, 2, 3, 4] hmix ?_; refine u_g 0 rfl (by kernel_rfl) (want0 _) ha rfl (g_loadA (cs := [u214, u215, u216, u217]) Try.isAgg33 Try.sizeOf33 rfl (by simp) hB328.all) ?_; clear ha a; intro a ha; refine u_g 1 rfl (by kernel_rfl) (want0 _) ha rfl (g_loadA (cs := [va1_0, va1_1, va1_2, va1_3]) Try.isAgg27 Try.sizeOf27 rfl (by simp) hB11.all) ?_; clear ha a; intro a ha
  refine u_only 2 rfl (by kernel_rfl) ?_; intro w416 hx417
  replace hB11 := hB11.ext hx417
  replace h219 := h219.ext hx417
  replace h223 := h223.ext hx417
  replace h227 := h227.ext hx417
  replace h234 := h234.ext hx417
  replace hB328 := hB328.ext hx417
  have hE418 := Ext.trans hE414 hx417
  obtain ⟨x419, hc420, hF⟩ := cal_some hF
  refine o_call ha rfl rfl Try.call8 (W_laws_toNice (ha1_0.ext hE418) (ha1_1.ext hE418) (ha1_2.ext hE418) (ha1_3.ext hE418) hc420) ?_; clear ha a; rintro v421 w422 ⟨u424, u425, u426, u427, b428, b432, b436, fs440, b443, fs447, rfl, h429, z430, h433, z434, h437, z438, zf441, nd442, h444, z445, zf448, nd449, q450, q451, q452, q453, q454, q455, q456, q457, q458, q459, q460, q461, hx423⟩ a ha
  have q462 := Nq.new hB11.fpb z430
  have q463 := Nq.madeO z430 hB11.bi
  have q464 := Nq.new h219.fpb z430
  have q465 := Nq.madeO z430 h219.blt
  have q466 := Nq.new h223.fpb z430
  have q467 := Nq.madeO z430 h223.blt
  have q468 := Nq.new h227.fpb z430
  have q469 := Nq.madeO z430 h227.blt
  have q470 := Nq.new h234.fpb z430
  have q471 := Nq.madeO z430 h234.blt
  have q472 := Nq.new hB328.fpb z430
  have q473 := Nq.madeO z430 hB328.bi
  have q474 := Nq.new hB11.fpb z434
  have q475 := Nq.madeO z434 hB11.bi
  have q476 := Nq.new h219.fpb z434
  have q477 := Nq.madeO z434 h219.blt
  have q478 := Nq.new h223.fpb z434
  have q479 := Nq.madeO z434 h223.blt
  have q480 := Nq.new h227.fpb z434
  have q481 := Nq.madeO z434 h227.blt
  have q482 := Nq.new h234.fpb z434
  have q483 := Nq.madeO z434 h234.blt
  have q484 := Nq.new hB328.fpb z434
  have q485 := Nq.madeO z434 hB328.bi
  have q486 := Nq.new hB11.fpb z438
  have q487 := Nq.madeF z438 zf441 hB11.bi
  have q488 := Nq.new h219.fpb z438
  have q489 := Nq.madeF z438 zf441 h219.blt
  have q490 := Nq.new h223.fpb z438
  have q491 := Nq.madeF z438 zf441 h223.blt
  have q492 := Nq.new h227.fpb z438
  have q493 := Nq.madeF z438 zf441 h227.blt
  have q494 := Nq.new h234.fpb z438
  have q495 := Nq.madeF z438 zf441 h234.blt
  have q496 := Nq.new hB328.fpb z438
  have q497 := Nq.madeF z438 zf441 hB328.bi
  have q498 := Nq.new hB11.fpb z445
  have q499 := Nq.madeF z445 zf448 hB11.bi
  have q500 := Nq.new h219.fpb z445
  have q501 := Nq.madeF z445 zf448 h219.blt
  have q502 := Nq.new h223.fpb z445
  have q503 := Nq.madeF z445 zf448 h223.blt
  have q504 := Nq.new h227.fpb z445
  have q505 := Nq.madeF z445 zf448 h227.blt
  have q506 := Nq.new h234.fpb z445
  have q507 := Nq.madeF z445 zf448 h234.blt
  have q508 := Nq.new hB328.fpb z445
  have q509 := Nq.madeF z445 zf448 hB328.bi
  have q510 := Nf.old z430 (zf_nil _) h227.bnd
  have q511 := Nf.old z430 (zf_nil _) h234.bnd
  have q512 := Nf.old z434 (zf_nil _) h227.bnd
  have q513 := Nf.old z434 (zf_nil _) h234.bnd
  have q514 := Nf.new hB11.fpb zf441
  have q515 := Nf.new h219.fpb zf441
  have q516 := Nf.new h223.fpb zf441
  have q517 := Nf.new h227.fpb zf441
  have q518 := Nf.old z438 zf441 h227.bnd
  have q519 := Nf.new h234.fpb zf441
  have q520 := Nf.old z438 zf441 h234.bnd
  have q521 := Nf.new hB328.fpb zf441
  have q522 := Nf.new hB11.fpb zf448
  have q523 := Nf.new h219.fpb zf448
  have q524 := Nf.new h223.fpb zf448
  have q525 := Nf.new h227.fpb zf448
  have q526 := Nf.old z445 zf448 h227.bnd
  have q527 := Nf.new h234.fpb zf448
  have q528 := Nf.old z445 zf448 h234.bnd
  have q529 := Nf.new hB328.fpb zf448
  replace hB11 := hB11.ext hx423
  replace h219 := h219.ext hx423
  replace h223 := h223.ext hx423
  replace h227 := h227.ext hx423
  replace h234 := h234.ext hx423
  replace hB328 := hB328.ext hx423
  have hE530 := Ext.trans hE418 hx423
  have q531 := Zn.upD z430 hE418
  have q532 := Zn.upD z434 hE418
  have q533 := Zn.upD z438 hE418
  have q534 := zf_up zf441 hE418
  have q535 := Zn.upD z445 hE418
  have q536 := zf_up zf448 hE418
  refine wpList_nil (e_sq ?_)
  refine ⟨fun _ => hx423, ?_⟩
  obtain ⟨fp539, hro540, hs541⟩ := h219.roF
  obtain ⟨fp542, hro543, hs544⟩ := h223.roF
  obtain ⟨fp545, hro546, hs547⟩ := h227.roF
  obtain ⟨fp548, hro549, hs550⟩ := h234.roF
  obtain ⟨fp551, hro552, hs553⟩ := h429.roF
  obtain ⟨fp554, hro555, hs556⟩ := h433.roF
  obtain ⟨fp557, hro558, hs559⟩ := h437.roF
  obtain ⟨fp560, hro561, hs562⟩ := h444.roF
  obtain ⟨x563, hc564, hF⟩ := cal_some hF; refine u_call (.bool x563) 3 rfl (by kernel_rfl) (want0 _) ha rfl rfl Try.call11 (fun w538 hx537 => W_laws_eqNice (hro540.ext hx537) (hro543.ext hx537) (hro546.ext hx537) (hro549.ext hx537) (hro552.ext hx537) (hro555.ext hx537) (hro558.ext hx537) (hro561.ext hx537) hc564) (fun _ _ _ h => ⟨h.1, h.2⟩) ?_; clear ha a; intro a ha; refine u_g 4 rfl (by kernel_rfl) (want0 _) ha rfl (g_not rfl) ?_; clear ha a; intro a ha
  refine u_done (by kernel_rfl) ?_; intro w565 hx566
  replace hB11 := hB11.ext hx566
  replace h219 := h219.ext hx566
  replace h223 := h223.ext hx566
  replace h227 := h227.ext hx566
  replace h234 := h234.ext hx566
  replace hB328 := hB328.ext hx566
  replace h429 := h429.ext hx566
  replace h433 := h433.ext hx566
  replace h437 := h437.ext hx566
  replace h444 := h444.ext hx566
  have hE567 := Ext.trans hE530 hx566
  replace ha := ha.sub (σ' := [(44, (.bool (!x563)))]) ⟨rfl, trivial⟩; refine e_then ?_; refine c_cond (¬ (x563 = true)) ha rfl (n_iff (Iff.rfl)) (fun hp568 => ?_) (fun hp568 => ?_)
  · replace hF := if_t hp568 hF
    refine wp_seq ?_; refine wp_region_lit ?_; refine op_g ha rfl (g_assign rfl) ?_; clear ha a; intro a ha; refine wpList_nil ?_; replace ha := ha.sub (σ' := [(4, (.bool false))]) ⟨rfl, trivial⟩; refine e_then ?_; refine wp_ret ?_; refine e_then_ret ?_; obtain rfl := Option.some.inj hF
    exact f_ret1 ha rfl rfl ⟨rfl, hE567⟩
  replace hF := if_f hp568 hF; refine wp_skip ?_; refine e_then ?_; refine wp_seq ?_; refine wp_region_lit ?_; refine op_g ha rfl (g_assign rfl) ?_; clear ha a; intro a ha; refine wpList_nil ?_; replace ha := ha.sub (σ' := [(4, (.bool true))]) ⟨rfl, trivial⟩; refine e_then ?_; refine wp_ret ?_; obtain rfl := Option.some.inj hF
  exact f_ret1 ha rfl rfl ⟨rfl, hE567⟩
end Go.Proofs.Ythbmcbflnibpbaa
