/- Walks, printed by gen.py. -/
import Derived.Test.YthbmcbflnibpbaaF
import Derived.Test.YthbmcbflnibpbaaDeep
import Derived.Test.YthbmcbflnibpbaaProg
import Derived.KernelRfl
set_option maxRecDepth 100000
namespace Go.Proofs.Ythbmcbflnibpbaa
open Go Go.RowKit

theorem hmix : Try.prog.follows .mixedOrders = true := by kernel_rfl
theorem st24_0 : stF Try.prog 24 0 = some 0 := by kernel_rfl
theorem sl22 : SlT Try.prog 22 25 1 24 (.slice none 0 0) := ⟨by kernel_rfl, by kernel_rfl, by rfl⟩
theorem sl25 : SlT Try.prog 25 2 1 8 (.int .i64 0) := ⟨by kernel_rfl, by kernel_rfl, by rfl⟩
theorem st27_0 : stF Try.prog 27 0 = some 0 := by kernel_rfl
theorem st27_1 : stF Try.prog 27 1 = some 1 := by kernel_rfl
theorem st27_2 : stF Try.prog 27 2 = some 2 := by kernel_rfl
theorem st27_3 : stF Try.prog 27 3 = some 3 := by kernel_rfl
theorem st31_0 : stF Try.prog 31 0 = some 0 := by kernel_rfl
theorem st33_0 : stF Try.prog 33 0 = some 0 := by kernel_rfl
theorem st33_1 : stF Try.prog 33 1 = some 1 := by kernel_rfl
theorem st33_2 : stF Try.prog 33 2 = some 2 := by kernel_rfl
theorem st33_3 : stF Try.prog 33 3 = some 3 := by kernel_rfl
theorem un2 : Try.prog.underlying 2 = some (.int .i64) := by kernel_rfl
theorem un71 : Try.prog.underlying 71 = some (.int .u64) := by kernel_rfl
theorem sl46 : SlT Try.prog 46 51 1 4 (.int .u32 0) := ⟨by kernel_rfl, by kernel_rfl, by rfl⟩
theorem sl48 : SlT Try.prog 48 3 1 8 (.int .i64 0) := ⟨by kernel_rfl, by kernel_rfl, by rfl⟩
theorem un4 : Try.prog.underlying 4 = some .bool := by kernel_rfl
theorem sl55 : SlT Try.prog 55 51 1 4 (.int .u32 0) := ⟨by kernel_rfl, by kernel_rfl, by rfl⟩
set_option maxHeartbeats 2000000 in
theorem W_laws_szInt64S {W : World} {va0 : Value} {fa0 : List Nat} {a0 : (List Int)} (ha0 : Ro Rp.int W fa0 va0 a0) {a1 : Int} (ha1 : InI a1) {r : Int} (hF : F_laws_szInt64S a0 a1 = some r) :
    Calls Try.prog 13 [va0, .int .i64 a1].toArray W (Ret fun u w' => (u = .int .i64 r ∧ InI r) ∧ Ext W w') := by
  refine f_enter Try.func13 rfl Try.ntmps13 rfl ?_
  intro a ha
  replace ha : Fr 12 [(0, va0), (1, (.int .i64 a1))] a := ha
  have hE : Chg [] W W := Chg.refl _ _
  unfold F_laws_szInt64S at hF
  refine wp_seq ?_; refine wp_region_lit ?_; refine op_g ha rfl (g_assign rfl) ?_; clear ha a; intro a ha; refine wpList_nil ?_; replace ha := ha.sub (σ' := [(0, va0), (1, (.int .i64 a1))]) ⟨rfl, rfl, trivial⟩; refine e_then ?_; refine wp_seq ?_; refine wp_region_lit ?_; (iterate 2 refine op_g ha rfl (g_move rfl) ?_; clear ha a; intro a ha); refine op_g ha rfl (g_lenR sl25.und ha0 rfl) ?_; clear ha a; intro a ha; obtain ⟨hI1, hF⟩ := ck_some hF; refine op_g ha rfl (g_sub rfl rfl hI1) ?_; clear ha a; intro a ha; refine op_g ha rfl (g_assign rfl) ?_; clear ha a; intro a ha; refine wpList_nil ?_; replace ha := ha.sub (σ' := [(1, (.int .i64 (a1 - (a0.length : Int))))]) ⟨rfl, trivial⟩
  refine e_then ?_; refine wp_seq ?_; refine wp_seq ?_; refine wp_region_lit ?_; refine op_g ha rfl (g_move rfl) ?_; clear ha a; intro a ha; refine op_g ha rfl (g_lss rfl rfl) ?_; clear ha a; intro a ha; refine wpList_nil ?_; replace ha := ha.sub (σ' := [(1, (.int .i64 (a1 - (a0.length : Int)))), (10, (.bool (decide ((a1 - (a0.length : Int)) < 0))))]) ⟨rfl, rfl, trivial⟩; refine e_then ?_; refine c_cond ((a1 - (a0.length : Int)) < 0) ha rfl (decide_eq_true_iff) (fun hp3 => ?_) (fun hp3 => ?_)
  · replace hF := if_t hp3 hF
    refine wp_seq ?_; refine wp_region_lit ?_; refine op_g ha rfl (g_assign rfl) ?_; clear ha a; intro a ha; refine wpList_nil ?_; replace ha := ha.sub (σ' := [(4, (.int .i64 (-1)))]) ⟨rfl, trivial⟩; refine e_then ?_; refine wp_ret ?_; refine e_then_ret ?_; obtain rfl := Option.some.inj hF
    exact f_ret1 ha rfl rfl ⟨⟨rfl, (show InI (-1) from by decide)⟩, hE⟩
  replace hF := if_f hp3 hF; refine wp_skip ?_; refine e_then ?_; refine wp_seq ?_; refine wp_region_lit ?_; refine op_g ha rfl (g_move rfl) ?_; clear ha a; intro a ha; refine op_g ha rfl (g_assign rfl) ?_; clear ha a; intro a ha; refine wpList_nil ?_; replace ha := ha.sub (σ' := [(4, (.int .i64 (a1 - (a0.length : Int))))]) ⟨rfl, trivial⟩; refine e_then ?_; refine wp_ret ?_; obtain rfl := Option.some.inj hF
  exact f_ret1 ha rfl rfl ⟨⟨rfl, hI1⟩, hE⟩
set_option maxHeartbeats 2000000 in
theorem W_laws_szInt64SS {W : World} {va0 : Value} {fa0 : List Nat} {a0 : (List (List Int))} (ha0 : Ro (Rp.sl 2 Rp.int) W fa0 va0 a0) {a1 : Int} (ha1 : InI a1) {r : Int} (hF : F_laws_szInt64SS a0 a1 = some r) :
    Calls Try.prog 12 [va0, .int .i64 a1].toArray W (Ret fun u w' => (u = .int .i64 r ∧ InI r) ∧ Ext W w') := by
  refine f_enter Try.func12 rfl Try.ntmps12 rfl ?_
  intro a ha
  replace ha : Fr 27 [(0, va0), (1, (.int .i64 a1))] a := ha
  have hE : Chg [] W W := Chg.refl _ _
  unfold F_laws_szInt64SS at hF
  refine wp_seq ?_; refine wp_region_lit ?_; refine op_g ha rfl (g_assign rfl) ?_; clear ha a; intro a ha; refine wpList_nil ?_; replace ha := ha.sub (σ' := [(0, va0), (1, (.int .i64 a1))]) ⟨rfl, rfl, trivial⟩; refine e_then ?_; refine wp_seq ?_; refine wp_region_lit ?_; (iterate 2 refine op_g ha rfl (g_move rfl) ?_; clear ha a; intro a ha); refine op_g ha rfl (g_lenR sl22.und ha0 rfl) ?_; clear ha a; intro a ha; obtain ⟨hI1, hF⟩ := ck_some hF; refine op_g ha rfl (g_sub rfl rfl hI1) ?_; clear ha a; intro a ha; refine op_g ha rfl (g_assign rfl) ?_; clear ha a; intro a ha; refine wpList_nil ?_; replace ha := ha.sub (σ' := [(0, va0), (1, (.int .i64 (a1 - (a0.length : Int))))]) ⟨rfl, rfl, trivial⟩
  refine e_then ?_; refine wp_seq ?_; refine wp_seq ?_; refine wp_region_lit ?_; refine op_g ha rfl (g_move rfl) ?_; clear ha a; intro a ha; refine op_g ha rfl (g_lss rfl rfl) ?_; clear ha a; intro a ha; refine wpList_nil ?_; replace ha := ha.sub (σ' := [(0, va0), (1, (.int .i64 (a1 - (a0.length : Int)))), (11, (.bool (decide ((a1 - (a0.length : Int)) < 0))))]) ⟨rfl, rfl, rfl, trivial⟩; refine e_then ?_; refine c_cond ((a1 - (a0.length : Int)) < 0) ha rfl (decide_eq_true_iff) (fun hp3 => ?_) (fun hp3 => ?_)
  · replace hF := if_t hp3 hF
    refine wp_seq ?_; refine wp_region_lit ?_; refine op_g ha rfl (g_assign rfl) ?_; clear ha a; intro a ha; refine wpList_nil ?_; replace ha := ha.sub (σ' := [(4, (.int .i64 (-1)))]) ⟨rfl, trivial⟩; refine e_then ?_; refine wp_ret ?_; refine e_then_ret ?_; obtain rfl := Option.some.inj hF
    exact f_ret1 ha rfl rfl ⟨⟨rfl, (show InI (-1) from by decide)⟩, hE⟩
  replace hF := if_f hp3 hF; refine wp_skip ?_; refine e_then ?_; refine wp_seq ?_; refine wp_seq ?_; refine wp_region_lit ?_; refine op_g ha rfl (g_assign rfl) ?_; clear ha a; intro a ha; refine wpList_nil ?_; replace ha := ha.sub (σ' := [(0, va0), (1, (.int .i64 (a1 - (a0.length : Int)))), (5, (.int .i64 0))]) ⟨rfl, rfl, rfl, trivial⟩; refine e_then ?_; obtain ⟨o75, ho76, hK77⟩ := bnd_some hF
  obtain ⟨n78, hn79⟩ := lp_some ho76; clear ho76
  refine c_loop (fun a w => ∃ (i73 : Int), Fr 27 [(1, (.int .i64 i73))] a ∧ Chg [] W w ∧ InI i73 ∧ o75 = .inl i73) (fun n a w => ∃ (i37 : Int) (i39 : Int), Fr 27 [(0, va0), (1, (.int .i64 i37)), (5, (.int .i64 i39))] a ∧ Chg [] W w ∧ InI i37 ∧ InI i39 ∧ lpN (fun s => F_laws_szInt64SS_l1 a0 s.1 s.2) n (i37, i39) = some o75) n78 ⟨a1 - (a0.length : Int), 0, ha.sub ⟨rfl, rfl, rfl, trivial⟩, hE, hI1, (show InI 0 from by decide), hn79⟩ ?_ ?_
  · rintro m83 a w36 ⟨i37, i39, ha, hE41, hI38, hI40, hF⟩
    cases m83 with
    | zero => exact (lpN_zero hF).elim
    | succ m83 =>
      obtain ⟨z82, hF, hN81⟩ := lpN_succ hF
      have hF : F_laws_szInt64SS_l1 a0 i37 i39 = some z82 := hF; unfold F_laws_szInt64SS_l1 at hF
      refine wp_seq ?_; refine wp_seq ?_; refine wp_region_lit ?_; (iterate 2 refine op_g ha rfl (g_move rfl) ?_; clear ha a; intro a ha); refine op_g ha rfl (g_lenR sl22.und ha0 rfl) ?_; clear ha a; intro a ha; refine op_g ha rfl (g_lss rfl rfl) ?_; clear ha a; intro a ha; refine wpList_nil ?_; replace ha := ha.sub (σ' := [(0, va0), (1, (.int .i64 i37)), (5, (.int .i64 i39)), (15, (.bool (decide (i39 < (a0.length : Int)))))]) ⟨rfl, rfl, rfl, rfl, trivial⟩; refine e_then ?_; refine c_cond (i39 < (a0.length : Int)) ha rfl (decide_eq_true_iff) (fun hp84 => ?_) (fun hp84 => ?_)
      · replace hF := if_t hp84 hF
        refine wp_skip ?_; refine e_then ?_; refine wp_seq ?_; refine wp_block ?_; refine wp_seq ?_; refine wp_region_lit ?_; (iterate 2 refine op_g ha rfl (g_move rfl) ?_; clear ha a; intro a ha); obtain ⟨x85, g86, gx87, hF⟩ := idx_some hF
        obtain ⟨p88, cs89, f90, hf91, hpb92, hat93, hr94, hi95⟩ := ha0.at g86 gx87
        obtain ⟨v96, rfl, h97⟩ := hr94
        have h97 : Ro Rp.int W f90 v96 x85 := h97
        refine op_g ha rfl (hi95.gives sl22 rfl rfl) ?_; clear ha a; intro a ha; refine op_g ha rfl (g_load0 hE41 Try.isAgg25 rfl hat93.one) ?_; clear ha a; intro a ha; refine op_g ha rfl (g_move rfl) ?_; clear ha a; intro a ha; obtain ⟨x99, hc100, hF⟩ := cal_some hF
        refine o_call ha rfl rfl Try.call13 (W_laws_szInt64S (h97.ext hE41) hI38 hc100) ?_; clear ha a; rintro v101 w102 ⟨⟨rfl, hI104⟩, hx103⟩ a ha
        have hE105 := Ext.trans hE41 hx103
        refine op_g ha rfl (g_assign rfl) ?_; clear ha a; intro a ha; refine wpList_nil ?_; replace ha := ha.sub (σ' := [(0, va0), (1, (.int .i64 x99)), (5, (.int .i64 i39))]) ⟨rfl, rfl, rfl, trivial⟩; refine e_then ?_; refine wp_seq ?_; refine wp_region_lit ?_; refine op_g ha rfl (g_move rfl) ?_; clear ha a; intro a ha; refine op_g ha rfl (g_lss rfl rfl) ?_; clear ha a; intro a ha; refine wpList_nil ?_; replace ha := ha.sub (σ' := [(0, va0), (1, (.int .i64 x99)), (5, (.int .i64 i39)), (25, (.bool (decide (x99 < 0))))]) ⟨rfl, rfl, rfl, rfl, trivial⟩; refine e_then ?_; refine c_cond (x99 < 0) ha rfl (decide_eq_true_iff) (fun hp106 => ?_) (fun hp106 => ?_)
        · replace hF := if_t hp106 hF
          refine wp_seq ?_; refine wp_region_lit ?_; refine op_g ha rfl (g_assign rfl) ?_; clear ha a; intro a ha; refine wpList_nil ?_; replace ha := ha.sub (σ' := [(4, (.int .i64 (-1)))]) ⟨rfl, trivial⟩; refine e_then ?_; refine wp_ret ?_; refine e_blk_ret ?_; refine e_then_ret ?_; refine e_lq_ret ?_; refine e_then_ret ?_; obtain rfl := Option.some.inj hF
          have e107 := LK_inr hN81; subst e107
          have e108 := BK_inr hK77; subst e108
          exact f_ret1 ha rfl rfl ⟨⟨rfl, (show InI (-1) from by decide)⟩, hE105⟩
        replace hF := if_f hp106 hF; refine wp_skip ?_; refine e_blk ?_; refine e_then ?_; refine wp_region_lit ?_; refine op_g ha rfl (g_move rfl) ?_; clear ha a; intro a ha; obtain ⟨hI109, hF⟩ := ck_some hF; refine op_g ha rfl (g_add rfl rfl hI109) ?_; clear ha a; intro a ha; refine op_g ha rfl (g_assign rfl) ?_; clear ha a; intro a ha; refine wpList_nil ?_; replace ha := ha.sub (σ' := [(0, va0), (1, (.int .i64 x99)), (5, (.int .i64 (i39 + 1)))]) ⟨rfl, rfl, rfl, trivial⟩; refine e_lq ?_; obtain rfl := Option.some.inj hF
        exact ⟨_, Nat.lt_succ_self _, x99, i39 + 1, ha.sub ⟨rfl, rfl, rfl, trivial⟩, hE105, hI104, hI109, hN81⟩
      replace hF := if_f hp84 hF; refine wp_exit ?_; refine e_then_exit ?_; refine e_lq_eq ?_; obtain rfl := Option.some.inj hF
      exact ⟨i37, ha.sub ⟨rfl, trivial⟩, hE41, hI38, (LK_inr hN81).symm⟩
  rintro a w72 ⟨i73, ha, hE80, hI74, rfl⟩
  have hF : F_laws_szInt64SS_k2 i73 = some _ := hK77; clear hK77; unfold F_laws_szInt64SS_k2 at hF
  refine e_then ?_; refine wp_seq ?_; refine wp_region_lit ?_; refine op_g ha rfl (g_move rfl) ?_; clear ha a; intro a ha; refine op_g ha rfl (g_assign rfl) ?_; clear ha a; intro a ha; refine wpList_nil ?_; replace ha := ha.sub (σ' := [(4, (.int .i64 i73))]) ⟨rfl, trivial⟩; refine e_then ?_; refine wp_ret ?_; obtain rfl := Option.some.inj hF
  exact f_ret1 ha rfl rfl ⟨⟨rfl, hI74⟩, hE80⟩
set_option maxHeartbeats 2000000 in
theorem W_laws_szGraph {W : World} {va0_0 : Value} {fa0_0 : List Nat} {a0_0 : (List (List Int))} (ha0_0 : Ro (Rp.sl 2 Rp.int) W fa0_0 va0_0 a0_0) {a1 : Int} (ha1 : InI a1) {r : Int} (hF : F_laws_szGraph a0_0 a1 = some r) :
    Calls Try.prog 4 [.agg #[va0_0], .int .i64 a1].toArray W (Ret fun u w' => (u = .int .i64 r ∧ InI r) ∧ Ext W w') := by
  refine f_enter Try.func4 rfl Try.ntmps4 rfl ?_
  intro a ha
  replace ha : Fr 12 [(0, (.agg #[va0_0])), (1, (.int .i64 a1))] a := ha
  have hE : Chg [] W W := Chg.refl _ _
  unfold F_laws_szGraph at hF
  refine wp_seq ?_; refine wp_region_lit ?_
  refine o_box ha rfl rfl rfl ?_; clear ha a; intro b1 w2 hB3 hx4 hlo5 a ha
  have q6 := Zn.one hlo5
  have q7 := Zn.upD q6 hE
  have hE8 := Ext.trans hE hx4
  refine op_g ha rfl (g_assign rfl) ?_; clear ha a; intro a ha; refine wpList_nil ?_; replace ha := ha.sub (σ' := [(1, (.int .i64 a1)), (2, (.pointer (some ⟨b1, 0, none⟩)))]) ⟨rfl, rfl, trivial⟩; refine e_then ?_; refine wp_seq ?_; refine wp_region_lit ?_; refine op_g ha rfl (g_field0 st24_0 rfl) ?_; clear ha a; intro a ha; refine op_g ha rfl (g_load Try.isAgg22 rfl (hB3.cell rfl)) ?_; clear ha a; intro a ha; refine op_g ha rfl (g_move rfl) ?_; clear ha a; intro a ha; obtain ⟨x9, hc10, hF⟩ := cal_some hF
  refine o_call ha rfl rfl Try.call12 (W_laws_szInt64SS (ha0_0.ext hE8) ha1 hc10) ?_; clear ha a; rintro v11 w12 ⟨⟨rfl, hI14⟩, hx13⟩ a ha
  replace hB3 := hB3.ext hx13
  have hE15 := Ext.trans hE8 hx13
  refine op_g ha rfl (g_assign rfl) ?_; clear ha a; intro a ha; refine wpList_nil ?_; replace ha := ha.sub (σ' := [(1, (.int .i64 x9))]) ⟨rfl, trivial⟩; refine e_then ?_; refine wp_seq ?_; refine wp_seq ?_; refine wp_region_lit ?_; refine op_g ha rfl (g_move rfl) ?_; clear ha a; intro a ha; refine op_g ha rfl (g_lss rfl rfl) ?_; clear ha a; intro a ha; refine wpList_nil ?_; replace ha := ha.sub (σ' := [(1, (.int .i64 x9)), (10, (.bool (decide (x9 < 0))))]) ⟨rfl, rfl, trivial⟩; refine e_then ?_; refine c_cond (x9 < 0) ha rfl (decide_eq_true_iff) (fun hp16 => ?_) (fun hp16 => ?_)
  · replace hF := if_t hp16 hF
    refine wp_seq ?_; refine wp_region_lit ?_; refine op_g ha rfl (g_assign rfl) ?_; clear ha a; intro a ha; refine wpList_nil ?_; replace ha := ha.sub (σ' := [(4, (.int .i64 (-1)))]) ⟨rfl, trivial⟩; refine e_then ?_; refine wp_ret ?_; refine e_then_ret ?_; obtain rfl := Option.some.inj hF
    exact f_ret1 ha rfl rfl ⟨⟨rfl, (show InI (-1) from by decide)⟩, hE15⟩
  replace hF := if_f hp16 hF; refine wp_skip ?_; refine e_then ?_; refine wp_seq ?_; refine wp_region_lit ?_; refine op_g ha rfl (g_move rfl) ?_; clear ha a; intro a ha; refine op_g ha rfl (g_assign rfl) ?_; clear ha a; intro a ha; refine wpList_nil ?_; replace ha := ha.sub (σ' := [(4, (.int .i64 x9))]) ⟨rfl, trivial⟩; refine e_then ?_; refine wp_ret ?_; obtain rfl := Option.some.inj hF
  exact f_ret1 ha rfl rfl ⟨⟨rfl, hI14⟩, hE15⟩
set_option maxHeartbeats 2000000 in
theorem W_laws_szNice {W : World} {va0_0 : Value} {fa0_0 : List Nat} {a0_0 : (List Int)} (ha0_0 : Ro Rp.int W fa0_0 va0_0 a0_0) {va0_1 : Value} {fa0_1 : List Nat} {a0_1 : (List Int)} (ha0_1 : Ro Rp.int W fa0_1 va0_1 a0_1) {va0_2 : Value} {fa0_2 : List Nat} {a0_2 : (List (List Int))} (ha0_2 : Ro (Rp.sl 2 Rp.int) W fa0_2 va0_2 a0_2) {va0_3 : Value} {fa0_3 : List Nat} {a0_3 : (List (List Int))} (ha0_3 : Ro (Rp.sl 2 Rp.int) W fa0_3 va0_3 a0_3) {a1 : Int} (ha1 : InI a1) {r : Int} (hF : F_laws_szNice a0_0 a0_1 a0_2 a0_3 a1 = some r) :
    Calls Try.prog 5 [.agg #[va0_0, va0_1, va0_2, va0_3], .int .i64 a1].toArray W (Ret fun u w' => (u = .int .i64 r ∧ InI r) ∧ Ext W w') := by
  refine f_enter Try.func5 rfl Try.ntmps5 rfl ?_
  intro a ha
  replace ha : Fr 30 [(0, (.agg #[va0_0, va0_1, va0_2, va0_3])), (1, (.int .i64 a1))] a := ha
  have hE : Chg [] W W := Chg.refl _ _
  unfold F_laws_szNice at hF
  refine wp_seq ?_; refine wp_region_lit ?_
  refine o_box ha rfl rfl rfl ?_; clear ha a; intro b1 w2 hB3 hx4 hlo5 a ha
  have q6 := Zn.one hlo5
  have q7 := Zn.upD q6 hE
  have hE8 := Ext.trans hE hx4
  refine op_g ha rfl (g_assign rfl) ?_; clear ha a; intro a ha; refine wpList_nil ?_; replace ha := ha.sub (σ' := [(1, (.int .i64 a1)), (2, (.pointer (some ⟨b1, 0, none⟩)))]) ⟨rfl, rfl, trivial⟩; refine e_then ?_; refine wp_seq ?_; refine wp_region_lit ?_; refine op_g ha rfl (g_field0 st27_0 rfl) ?_; clear ha a; intro a ha; refine op_g ha rfl (g_load Try.isAgg25 rfl (hB3.cell rfl)) ?_; clear ha a; intro a ha; refine op_g ha rfl (g_move rfl) ?_; clear ha a; intro a ha; obtain ⟨x9, hc10, hF⟩ := cal_some hF
  refine o_call ha rfl rfl Try.call13 (W_laws_szInt64S (ha0_0.ext hE8) ha1 hc10) ?_; clear ha a; rintro v11 w12 ⟨⟨rfl, hI14⟩, hx13⟩ a ha
  replace hB3 := hB3.ext hx13
  have hE15 := Ext.trans hE8 hx13
  refine op_g ha rfl (g_assign rfl) ?_; clear ha a; intro a ha; refine wpList_nil ?_; replace ha := ha.sub (σ' := [(1, (.int .i64 x9)), (2, (.pointer (some ⟨b1, 0, none⟩)))]) ⟨rfl, rfl, trivial⟩; refine e_then ?_; refine wp_seq ?_; refine wp_seq ?_; refine wp_region_lit ?_; refine op_g ha rfl (g_move rfl) ?_; clear ha a; intro a ha; refine op_g ha rfl (g_lss rfl rfl) ?_; clear ha a; intro a ha; refine wpList_nil ?_; replace ha := ha.sub (σ' := [(1, (.int .i64 x9)), (2, (.pointer (some ⟨b1, 0, none⟩))), (10, (.bool (decide (x9 < 0))))]) ⟨rfl, rfl, rfl, trivial⟩; refine e_then ?_; refine c_cond (x9 < 0) ha rfl (decide_eq_true_iff) (fun hp16 => ?_) (fun hp16 => ?_)
  · replace hF := if_t hp16 hF
    refine wp_seq ?_; refine wp_region_lit ?_; refine op_g ha rfl (g_assign rfl) ?_; clear ha a; intro a ha; refine wpList_nil ?_; replace ha := ha.sub (σ' := [(4, (.int .i64 (-1)))]) ⟨rfl, trivial⟩; refine e_then ?_; refine wp_ret ?_; refine e_then_ret ?_; obtain rfl := Option.some.inj hF
    exact f_ret1 ha rfl rfl ⟨⟨rfl, (show InI (-1) from by decide)⟩, hE15⟩
  replace hF := if_f hp16 hF; refine wp_skip ?_; refine e_then ?_; refine wp_seq ?_; refine wp_region_lit ?_; refine op_g ha rfl (g_field0 st27_1 rfl) ?_; clear ha a; intro a ha; refine op_g ha rfl (g_load Try.isAgg25 rfl (hB3.cell rfl)) ?_; clear ha a; intro a ha; refine op_g ha rfl (g_move rfl) ?_; clear ha a; intro a ha; obtain ⟨x17, hc18, hF⟩ := cal_some hF
  refine o_call ha rfl rfl Try.call13 (W_laws_szInt64S (ha0_1.ext hE15) hI14 hc18) ?_; clear ha a; rintro v19 w20 ⟨⟨rfl, hI22⟩, hx21⟩ a ha
  replace hB3 := hB3.ext hx21
  have hE23 := Ext.trans hE15 hx21
  refine op_g ha rfl (g_assign rfl) ?_; clear ha a; intro a ha; refine wpList_nil ?_; replace ha := ha.sub (σ' := [(1, (.int .i64 x17)), (2, (.pointer (some ⟨b1, 0, none⟩)))]) ⟨rfl, rfl, trivial⟩; refine e_then ?_; refine wp_seq ?_; refine wp_seq ?_; refine wp_region_lit ?_; refine op_g ha rfl (g_move rfl) ?_; clear ha a; intro a ha; refine op_g ha rfl (g_lss rfl rfl) ?_; clear ha a; intro a ha; refine wpList_nil ?_; replace ha := ha.sub (σ' := [(1, (.int .i64 x17)), (2, (.pointer (some ⟨b1, 0, none⟩))), (16, (.bool (decide (x17 < 0))))]) ⟨rfl, rfl, rfl, trivial⟩; refine e_then ?_; refine c_cond (x17 < 0) ha rfl (decide_eq_true_iff) (fun hp24 => ?_) (fun hp24 => ?_)
  · replace hF := if_t hp24 hF
    refine wp_seq ?_; refine wp_region_lit ?_; refine op_g ha rfl (g_assign rfl) ?_; clear ha a; intro a ha; refine wpList_nil ?_; replace ha := ha.sub (σ' := [(4, (.int .i64 (-1)))]) ⟨rfl, trivial⟩; refine e_then ?_; refine wp_ret ?_; refine e_then_ret ?_; obtain rfl := Option.some.inj hF
    exact f_ret1 ha rfl rfl ⟨⟨rfl, (show InI (-1) from by decide)⟩, hE23⟩
  replace hF := if_f hp24 hF; refine wp_skip ?_; refine e_then ?_; refine wp_seq ?_; refine wp_region_lit ?_; refine op_g ha rfl (g_field0 st27_2 rfl) ?_; clear ha a; intro a ha; refine op_g ha rfl (g_load Try.isAgg22 rfl (hB3.cell rfl)) ?_; clear ha a; intro a ha; refine op_g ha rfl (g_move rfl) ?_; clear ha a; intro a ha; obtain ⟨x25, hc26, hF⟩ := cal_some hF
  refine o_call ha rfl rfl Try.call12 (W_laws_szInt64SS (ha0_2.ext hE23) hI22 hc26) ?_; clear ha a; rintro v27 w28 ⟨⟨rfl, hI30⟩, hx29⟩ a ha
  replace hB3 := hB3.ext hx29
  have hE31 := Ext.trans hE23 hx29
  refine op_g ha rfl (g_assign rfl) ?_; clear ha a; intro a ha; refine wpList_nil ?_; replace ha := ha.sub (σ' := [(1, (.int .i64 x25)), (2, (.pointer (some ⟨b1, 0, none⟩)))]) ⟨rfl, rfl, trivial⟩; refine e_then ?_; refine wp_seq ?_; refine wp_seq ?_; refine wp_region_lit ?_; refine op_g ha rfl (g_move rfl) ?_; clear ha a; intro a ha; refine op_g ha rfl (g_lss rfl rfl) ?_; clear ha a; intro a ha; refine wpList_nil ?_; replace ha := ha.sub (σ' := [(1, (.int .i64 x25)), (2, (.pointer (some ⟨b1, 0, none⟩))), (22, (.bool (decide (x25 < 0))))]) ⟨rfl, rfl, rfl, trivial⟩; refine e_then ?_; refine c_cond (x25 < 0) ha rfl (decide_eq_true_iff) (fun hp32 => ?_) (fun hp32 => ?_)
  · replace hF := if_t hp32 hF
    refine wp_seq ?_; refine wp_region_lit ?_; refine op_g ha rfl (g_assign rfl) ?_; clear ha a; intro a ha; refine wpList_nil ?_; replace ha := ha.sub (σ' := [(4, (.int .i64 (-1)))]) ⟨rfl, trivial⟩; refine e_then ?_; refine wp_ret ?_; refine e_then_ret ?_; obtain rfl := Option.some.inj hF
    exact f_ret1 ha rfl rfl ⟨⟨rfl, (show InI (-1) from by decide)⟩, hE31⟩
  replace hF := if_f hp32 hF; refine wp_skip ?_; refine e_then ?_; refine wp_seq ?_; refine wp_region_lit ?_; refine op_g ha rfl (g_field0 st27_3 rfl) ?_; clear ha a; intro a ha; refine op_g ha rfl (g_load Try.isAgg22 rfl (hB3.cell rfl)) ?_; clear ha a; intro a ha; refine op_g ha rfl (g_move rfl) ?_; clear ha a; intro a ha; obtain ⟨x33, hc34, hF⟩ := cal_some hF
  refine o_call ha rfl rfl Try.call12 (W_laws_szInt64SS (ha0_3.ext hE31) hI30 hc34) ?_; clear ha a; rintro v35 w36 ⟨⟨rfl, hI38⟩, hx37⟩ a ha
  replace hB3 := hB3.ext hx37
  have hE39 := Ext.trans hE31 hx37
  refine op_g ha rfl (g_assign rfl) ?_; clear ha a; intro a ha; refine wpList_nil ?_; replace ha := ha.sub (σ' := [(1, (.int .i64 x33))]) ⟨rfl, trivial⟩; refine e_then ?_; refine wp_seq ?_; refine wp_seq ?_; refine wp_region_lit ?_; refine op_g ha rfl (g_move rfl) ?_; clear ha a; intro a ha; refine op_g ha rfl (g_lss rfl rfl) ?_; clear ha a; intro a ha; refine wpList_nil ?_; replace ha := ha.sub (σ' := [(1, (.int .i64 x33)), (28, (.bool (decide (x33 < 0))))]) ⟨rfl, rfl, trivial⟩; refine e_then ?_; refine c_cond (x33 < 0) ha rfl (decide_eq_true_iff) (fun hp40 => ?_) (fun hp40 => ?_)
  · replace hF := if_t hp40 hF
    refine wp_seq ?_; refine wp_region_lit ?_; refine op_g ha rfl (g_assign rfl) ?_; clear ha a; intro a ha; refine wpList_nil ?_; replace ha := ha.sub (σ' := [(4, (.int .i64 (-1)))]) ⟨rfl, trivial⟩; refine e_then ?_; refine wp_ret ?_; refine e_then_ret ?_; obtain rfl := Option.some.inj hF
    exact f_ret1 ha rfl rfl ⟨⟨rfl, (show InI (-1) from by decide)⟩, hE39⟩
  replace hF := if_f hp40 hF; refine wp_skip ?_; refine e_then ?_; refine wp_seq ?_; refine wp_region_lit ?_; refine op_g ha rfl (g_move rfl) ?_; clear ha a; intro a ha; refine op_g ha rfl (g_assign rfl) ?_; clear ha a; intro a ha; refine wpList_nil ?_; replace ha := ha.sub (σ' := [(4, (.int .i64 x33))]) ⟨rfl, trivial⟩; refine e_then ?_; refine wp_ret ?_; obtain rfl := Option.some.inj hF
  exact f_ret1 ha rfl rfl ⟨⟨rfl, hI38⟩, hE39⟩
set_option maxHeartbeats 2000000 in
theorem W_laws_toInt64S {W : World} {va0 : Value} {fa0 : List Nat} {a0 : (List Int)} (ha0 : Ro Rp.int W fa0 va0 a0) {r : (List Int)} (hF : F_laws_toInt64S a0 = some r) :
    Calls Try.prog 19 [va0].toArray W (Ret fun u w' => ∃ (b_u : Int), Ow Rp.int 2 true w' [] b_u u r ∧ Zn W b_u ∧ Ext W w') := by
  refine f_enter Try.func19 rfl Try.ntmps19 rfl ?_
  intro a ha
  replace ha : Fr 22 [(0, va0)] a := ha
  have hE : Chg [] W W := Chg.refl _ _
  unfold F_laws_toInt64S at hF
  refine wp_seq ?_; refine wp_region_lit ?_; refine op_g ha rfl (g_assign rfl) ?_; clear ha a; intro a ha; refine wpList_nil ?_; replace ha := ha.sub (σ' := [(0, va0)]) ⟨rfl, trivial⟩; refine e_then ?_; refine wp_seq ?_; refine wp_region_lit ?_; refine op_g ha rfl (g_move rfl) ?_; clear ha a; intro a ha; refine op_g ha rfl (g_lenR sl25.und ha0 rfl) ?_; clear ha a; intro a ha; obtain ⟨g5, g5b, hF⟩ := mkS_some hF
  refine o_make (z0 := (0 : Int)) Rp.int ha rfl sl25 rfl (fun w => ⟨rfl, by decide, rfl⟩) rfl g5 g5b ?_; clear ha a; intro v1 w2 h3 hx4 a ha
  obtain ⟨b8, hb8⟩ : ∃ b : Int, b = W.heap.size := ⟨_, rfl⟩; rw [← hb8] at h3
  have q9 := zn_of hb8
  have q10 := Zn.upD q9 hE
  have hE11 := Ext.trans hE hx4
  refine op_g ha rfl (g_assign rfl) ?_; clear ha a; intro a ha; refine wpList_nil ?_; replace ha := ha.sub (σ' := [(0, va0), (3, v1)]) ⟨rfl, rfl, trivial⟩; refine e_then ?_; refine wp_seq ?_; refine wp_seq ?_; refine wp_region_lit ?_; refine op_g ha rfl (g_assign rfl) ?_; clear ha a; intro a ha; refine wpList_nil ?_; refine e_then ?_; obtain ⟨o118, ho119, hK120⟩ := bnd_some hF
  obtain ⟨n121, hn122⟩ := lp_some ho119; clear ho119
  refine c_loop (fun a w => ∃ (l115 : (List Int)) (v116 : Value) (b117 : Int), Fr 22 [(3, v116)] a ∧ Chg [] W w ∧ Ow Rp.int 2 true w [] b117 v116 l115 ∧ Zn W b117 ∧ o118 = .inl l115) (fun n a w => ∃ (l63 : (List Int)) (i66 : Int) (v64 : Value) (b65 : Int), Fr 22 [(0, va0), (3, v64), (4, (.int .i64 i66))] a ∧ Chg [] W w ∧ InI i66 ∧ Ow Rp.int 2 true w [] b65 v64 l63 ∧ Zn W b65 ∧ lpN (fun s => F_laws_toInt64S_l1 a0 s.1 s.2) n (l63, i66) = some o118) n121 ⟨(List.replicate ((a0.length : Int) : Int).toNat (0 : Int)), 0, v1, b8, ha.sub ⟨rfl, rfl, rfl, trivial⟩, hE11, (show InI 0 from by decide), h3, q10, hn122⟩ ?_ ?_
  · rintro m126 a w59 ⟨l63, i66, v64, b65, ha, hE68, hI67, h61, z62, hF⟩
    cases m126 with
    | zero => exact (lpN_zero hF).elim
    | succ m126 =>
      obtain ⟨z125, hF, hN124⟩ := lpN_succ hF
      have hF : F_laws_toInt64S_l1 a0 l63 i66 = some z125 := hF; unfold F_laws_toInt64S_l1 at hF
      refine wp_seq ?_; refine wp_seq ?_; refine wp_region_lit ?_; (iterate 2 refine op_g ha rfl (g_move rfl) ?_; clear ha a; intro a ha); refine op_g ha rfl (g_lenR sl25.und ha0 rfl) ?_; clear ha a; intro a ha; refine op_g ha rfl (g_lss rfl rfl) ?_; clear ha a; intro a ha; refine wpList_nil ?_; replace ha := ha.sub (σ' := [(0, va0), (3, v64), (4, (.int .i64 i66)), (11, (.bool (decide (i66 < (a0.length : Int)))))]) ⟨rfl, rfl, rfl, rfl, trivial⟩; refine e_then ?_; refine c_cond (i66 < (a0.length : Int)) ha rfl (decide_eq_true_iff) (fun hp127 => ?_) (fun hp127 => ?_)
      · replace hF := if_t hp127 hF
        refine wp_skip ?_; refine e_then ?_; refine wp_seq ?_; refine wp_block ?_; refine wp_region_lit ?_; (iterate 4 refine op_g ha rfl (g_move rfl) ?_; clear ha a; intro a ha); obtain ⟨x128, g129, gx130, hF⟩ := idx_some hF
        obtain ⟨p131, cs132, f133, hf134, hpb135, hat136, hr137, hi138⟩ := ha0.at g129 gx130
        obtain ⟨rfl, hI139, rfl⟩ := hr137
        refine op_g ha rfl (hi138.gives sl25 rfl rfl) ?_; clear ha a; intro a ha; refine op_g ha rfl (g_load0 hE68 Try.isAgg2 rfl hat136.one) ?_; clear ha a; intro a ha; obtain ⟨x140, g141, gx142, hF⟩ := idx_some hF
        obtain ⟨p143, cs144, f145, hf146, hpb147, hat148, hr149, hi150⟩ := h61.at g141 gx142
        obtain ⟨rfl, hI151, rfl⟩ := hr149
        refine op_g ha rfl (hi150.gives sl25 rfl rfl) ?_; clear ha a; intro a ha
        refine o_storeE (f := []) (q := x128) ha Try.sizeOf2 rfl rfl rfl h61 hi150 ⟨rfl, hI139, rfl⟩ (Nq.nil _) ?_; intro w152 fs153 h154 hc155 hs156
        obtain rfl := Subst.nil hs156
        have hE157 := Ext.then hE68 hc155 (Zn.bl z62)
        refine wpList_nil ?_; replace ha := ha.sub (σ' := [(0, va0), (3, v64), (4, (.int .i64 i66))]) ⟨rfl, rfl, rfl, trivial⟩; refine e_blk ?_; refine e_then ?_; refine wp_region_lit ?_; refine op_g ha rfl (g_move rfl) ?_; clear ha a; intro a ha; obtain ⟨hI158, hF⟩ := ck_some hF; refine op_g ha rfl (g_add rfl rfl hI158) ?_; clear ha a; intro a ha; refine op_g ha rfl (g_assign rfl) ?_; clear ha a; intro a ha; refine wpList_nil ?_; replace ha := ha.sub (σ' := [(0, va0), (3, v64), (4, (.int .i64 (i66 + 1)))]) ⟨rfl, rfl, rfl, trivial⟩; refine e_lq ?_; obtain rfl := Option.some.inj hF
        exact ⟨_, Nat.lt_succ_self _, (l63.set ((i66 : Int).toNat) x128), i66 + 1, v64, b65, ha.sub ⟨rfl, rfl, rfl, trivial⟩, hE157, hI158, h154, z62, hN124⟩
      replace hF := if_f hp127 hF; refine wp_exit ?_; refine e_then_exit ?_; refine e_lq_eq ?_; obtain rfl := Option.some.inj hF
      exact ⟨l63, v64, b65, ha.sub ⟨rfl, trivial⟩, hE68, h61, z62, (LK_inr hN124).symm⟩
  rintro a w111 ⟨l115, v116, b117, ha, hE123, h113, z114, rfl⟩
  have hF : F_laws_toInt64S_k2 l115 = some _ := hK120; clear hK120; unfold F_laws_toInt64S_k2 at hF
  refine e_then ?_; refine wp_seq ?_; refine wp_region_lit ?_; refine op_g ha rfl (g_move rfl) ?_; clear ha a; intro a ha; refine op_g ha rfl (g_assign rfl) ?_; clear ha a; intro a ha; refine wpList_nil ?_; replace ha := ha.sub (σ' := [(2, v116)]) ⟨rfl, trivial⟩; refine e_then ?_; refine wp_ret ?_; obtain rfl := Option.some.inj hF
  exact f_ret1 ha rfl rfl ⟨_, h113, z114, hE123⟩
set_option maxHeartbeats 2000000 in
theorem W_laws_toInt64SS {W : World} {va0 : Value} {fa0 : List Nat} {a0 : (List (List Int))} (ha0 : Ro (Rp.sl 2 Rp.int) W fa0 va0 a0) {r : (List (List Int))} (hF : F_laws_toInt64SS a0 = some r) :
    Calls Try.prog 18 [va0].toArray W (Ret fun u w' => ∃ (b_u : Int) (fs_u : List Nat), Ow (Rp.sl 2 Rp.int) 25 true w' fs_u b_u u r ∧ Zn W b_u ∧ (∀ k ∈ fs_u, W.heap.size ≤ k) ∧ (bl b_u ++ fs_u).Nodup ∧ Ext W w') := by
  refine f_enter Try.func18 rfl Try.ntmps18 rfl ?_
  intro a ha
  replace ha : Fr 23 [(0, va0)] a := ha
  have hE : Chg [] W W := Chg.refl _ _
  unfold F_laws_toInt64SS at hF
  refine wp_seq ?_; refine wp_region_lit ?_; refine op_g ha rfl (g_assign rfl) ?_; clear ha a; intro a ha; refine wpList_nil ?_; replace ha := ha.sub (σ' := [(0, va0)]) ⟨rfl, trivial⟩; refine e_then ?_; refine wp_seq ?_; refine wp_region_lit ?_; refine op_g ha rfl (g_move rfl) ?_; clear ha a; intro a ha; refine op_g ha rfl (g_lenR sl22.und ha0 rfl) ?_; clear ha a; intro a ha; obtain ⟨g5, g5b, hF⟩ := mkS_some hF
  refine o_make (z0 := ([] : (List Int))) (Rp.sl 2 Rp.int) ha rfl sl22 rfl (fun w => nil_rep w) rfl g5 g5b ?_; clear ha a; intro v1 w2 h3 hx4 a ha
  obtain ⟨b8, hb8⟩ : ∃ b : Int, b = W.heap.size := ⟨_, rfl⟩; rw [← hb8] at h3
  have q9 := zn_of hb8
  have q10 := Zn.upD q9 hE
  have hE11 := Ext.trans hE hx4
  refine op_g ha rfl (g_assign rfl) ?_; clear ha a; intro a ha; refine wpList_nil ?_; replace ha := ha.sub (σ' := [(0, va0), (3, v1)]) ⟨rfl, rfl, trivial⟩; refine e_then ?_; refine wp_seq ?_; refine wp_seq ?_; refine wp_region_lit ?_; refine op_g ha rfl (g_assign rfl) ?_; clear ha a; intro a ha; refine wpList_nil ?_; refine e_then ?_; obtain ⟨o181, ho182, hK183⟩ := bnd_some hF
  obtain ⟨n184, hn185⟩ := lp_some ho182; clear ho182
  refine c_loop (fun a w => ∃ (l178 : (List (List Int))) (fs175 : List Nat) (v179 : Value) (b180 : Int), Fr 23 [(3, v179)] a ∧ Chg [] W w ∧ Ow (Rp.sl 2 Rp.int) 25 true w fs175 b180 v179 l178 ∧ Zn W b180 ∧ (∀ k ∈ fs175, W.heap.size ≤ k) ∧ (bl b180 ++ fs175).Nodup ∧ o181 = .inl l178) (fun n a w => ∃ (l96 : (List (List Int))) (i99 : Int) (fs93 : List Nat) (v97 : Value) (b98 : Int), Fr 23 [(0, va0), (3, v97), (4, (.int .i64 i99))] a ∧ Chg [] W w ∧ InI i99 ∧ Ow (Rp.sl 2 Rp.int) 25 true w fs93 b98 v97 l96 ∧ Zn W b98 ∧ (∀ k ∈ fs93, W.heap.size ≤ k) ∧ (bl b98 ++ fs93).Nodup ∧ lpN (fun s => F_laws_toInt64SS_l1 a0 s.1 s.2) n (l96, i99) = some o181) n184 ⟨(List.replicate ((a0.length : Int) : Int).toNat ([] : (List Int))), 0, [], v1, b8, ha.sub ⟨rfl, rfl, rfl, trivial⟩, hE11, (show InI 0 from by decide), h3, q10, (zf_nil _), (bl_nodup b8), hn185⟩ ?_ ?_
  · rintro m189 a w89 ⟨l96, i99, fs93, v97, b98, ha, hE101, hI100, h91, z92, zf94, nd95, hF⟩
    cases m189 with
    | zero => exact (lpN_zero hF).elim
    | succ m189 =>
      obtain ⟨z188, hF, hN187⟩ := lpN_succ hF
      have hF : F_laws_toInt64SS_l1 a0 l96 i99 = some z188 := hF; unfold F_laws_toInt64SS_l1 at hF
      refine wp_seq ?_; refine wp_seq ?_; refine wp_region_lit ?_; (iterate 2 refine op_g ha rfl (g_move rfl) ?_; clear ha a; intro a ha); refine op_g ha rfl (g_lenR sl22.und ha0 rfl) ?_; clear ha a; intro a ha; refine op_g ha rfl (g_lss rfl rfl) ?_; clear ha a; intro a ha; refine wpList_nil ?_; replace ha := ha.sub (σ' := [(0, va0), (3, v97), (4, (.int .i64 i99)), (11, (.bool (decide (i99 < (a0.length : Int)))))]) ⟨rfl, rfl, rfl, rfl, trivial⟩; refine e_then ?_; refine c_cond (i99 < (a0.length : Int)) ha rfl (decide_eq_true_iff) (fun hp190 => ?_) (fun hp190 => ?_)
      · replace hF := if_t hp190 hF
        refine wp_skip ?_; refine e_then ?_; refine wp_seq ?_; refine wp_block ?_; refine wp_region_lit ?_; (iterate 4 refine op_g ha rfl (g_move rfl) ?_; clear ha a; intro a ha); obtain ⟨x191, g192, gx193, hF⟩ := idx_some hF
        obtain ⟨p194, cs195, f196, hf197, hpb198, hat199, hr200, hi201⟩ := ha0.at g192 gx193
        obtain ⟨v202, rfl, h203⟩ := hr200
        have h203 : Ro Rp.int W f196 v202 x191 := h203
        refine op_g ha rfl (hi201.gives sl22 rfl rfl) ?_; clear ha a; intro a ha; refine op_g ha rfl (g_load0 hE101 Try.isAgg25 rfl hat199.one) ?_; clear ha a; intro a ha; obtain ⟨x205, hc206, hF⟩ := cal_some hF
        refine o_call ha rfl rfl Try.call19 (W_laws_toInt64S (h203.ext hE101) hc206) ?_; clear ha a; rintro v207 w208 ⟨b210, h211, z212, hx209⟩ a ha
        have q214 := Nq.new h91.fpb z212
        have q215 := Nq.madeO z212 h91.blt
        have q216 := Nf.old z212 (zf_nil _) h91.bnd
        replace h91 := h91.ext hx209
        have hE217 := Ext.trans hE101 hx209
        have q218 := Zn.upD z212 hE101
        obtain ⟨x219, g220, gx221, hF⟩ := idx_some hF
        obtain ⟨p222, cs223, f224, hf225, hpb226, hat227, hr228, hi229⟩ := h91.at g220 gx221
        replace hr228 := (Rp.sl 2 Rp.int).weak hr228
        obtain ⟨v230, rfl, h231⟩ := hr228
        have h231 : Ro Rp.int w208 f224 v230 x219 := h231
        have q233 := Nq.mono q214 (fun k hk => List.mem_append_right (bl b98) (hf225 k hk))
        have q234 := Nq.mono (Ow.ne h91) hf225
        refine op_g ha rfl (hi229.gives sl22 rfl rfl) ?_; clear ha a; intro a ha
        refine o_storeE (f := (bl b210 ++ [])) (q := x205) ha Try.sizeOf25 rfl rfl h211.cells h91 hi229 (Rp.mkO h211) q215 ?_; intro w235 fs236 h237 hc238 hs239
        have q240 := zf_mv q218 (zf_nil _)
        have q241 := dj_of q214
        have q242 := zf_set hs239 zf94 q240
        have q243 := Subst.nd hs239 nd95 (bl_nodup b210) q241
        replace h231 := h231.nq hc238 q234
        have hE244 := Ext.then hE217 hc238 (Zn.bl z92)
        refine wpList_nil ?_; replace ha := ha.sub (σ' := [(0, va0), (3, v97), (4, (.int .i64 i99))]) ⟨rfl, rfl, rfl, trivial⟩; refine e_blk ?_; refine e_then ?_; refine wp_region_lit ?_; refine op_g ha rfl (g_move rfl) ?_; clear ha a; intro a ha; obtain ⟨hI245, hF⟩ := ck_some hF; refine op_g ha rfl (g_add rfl rfl hI245) ?_; clear ha a; intro a ha; refine op_g ha rfl (g_assign rfl) ?_; clear ha a; intro a ha; refine wpList_nil ?_; replace ha := ha.sub (σ' := [(0, va0), (3, v97), (4, (.int .i64 (i99 + 1)))]) ⟨rfl, rfl, rfl, trivial⟩; refine e_lq ?_; obtain rfl := Option.some.inj hF
        exact ⟨_, Nat.lt_succ_self _, (l96.set ((i99 : Int).toNat) x205), i99 + 1, fs236, v97, b98, ha.sub ⟨rfl, rfl, rfl, trivial⟩, hE244, hI245, h237, z92, q242, q243, hN187⟩
      replace hF := if_f hp190 hF; refine wp_exit ?_; refine e_then_exit ?_; refine e_lq_eq ?_; obtain rfl := Option.some.inj hF
      exact ⟨l96, fs93, v97, b98, ha.sub ⟨rfl, trivial⟩, hE101, h91, z92, zf94, nd95, (LK_inr hN187).symm⟩
  rintro a w171 ⟨l178, fs175, v179, b180, ha, hE186, h173, z174, zf176, nd177, rfl⟩
  have hF : F_laws_toInt64SS_k2 l178 = some _ := hK183; clear hK183; unfold F_laws_toInt64SS_k2 at hF
  refine e_then ?_; refine wp_seq ?_; refine wp_region_lit ?_; refine op_g ha rfl (g_move rfl) ?_; clear ha a; intro a ha; refine op_g ha rfl (g_assign rfl) ?_; clear ha a; intro a ha; refine wpList_nil ?_; replace ha := ha.sub (σ' := [(2, v179)]) ⟨rfl, trivial⟩; refine e_then ?_; refine wp_ret ?_; obtain rfl := Option.some.inj hF
  exact f_ret1 ha rfl rfl ⟨_, _, h173, z174, zf176, nd177, hE186⟩
set_option maxHeartbeats 2000000 in
theorem W_laws_toGraph {W : World} {va0_0 : Value} {fa0_0 : List Nat} {a0_0 : (List (List Int))} (ha0_0 : Ro (Rp.sl 2 Rp.int) W fa0_0 va0_0 a0_0) {r : (List (List Int))} (hF : F_laws_toGraph a0_0 = some r) :
    Calls Try.prog 7 [.agg #[va0_0]].toArray W (Ret fun u w' => ∃ (u_0 : Value) (b_u_0 : Int) (fs_u_0 : List Nat), u = .agg #[u_0] ∧ Ow (Rp.sl 2 Rp.int) 25 true w' fs_u_0 b_u_0 u_0 r ∧ Zn W b_u_0 ∧ (∀ k ∈ fs_u_0, W.heap.size ≤ k) ∧ (bl b_u_0 ++ fs_u_0).Nodup ∧ Ext W w') := by
  refine f_enter Try.func7 rfl Try.ntmps7 rfl ?_
  intro a ha
  replace ha : Fr 9 [(0, (.agg #[va0_0]))] a := ha
  have hE : Chg [] W W := Chg.refl _ _
  unfold F_laws_toGraph at hF
  refine wp_seq ?_; refine wp_region_lit ?_
  refine o_box ha rfl rfl rfl ?_; clear ha a; intro b1 w2 hB3 hx4 hlo5 a ha
  have q6 := Zn.one hlo5
  have q7 := Zn.upD q6 hE
  have hE8 := Ext.trans hE hx4
  refine o_alloc (cs := [(.slice none 0 0)]) ha rfl Try.zeroValue31 rfl ?_; clear ha a; intro b9 w10 hB11 hx12 hlo13 a ha
  have q14 := Zn.one hlo13
  have q15 := Nq.new hB3.fpb q14
  have q16 := Nq.made1 hlo13 hB3.bi
  have q17 := Zn.upD q14 hE8
  replace hB3 := hB3.ext hx12
  have hE18 := Ext.trans hE8 hx12
  refine wpList_nil ?_; replace ha := ha.sub (σ' := [(1, (.pointer (some ⟨b1, 0, none⟩))), (2, (.pointer (some ⟨b9, 0, none⟩)))]) ⟨rfl, rfl, trivial⟩; refine e_then ?_; refine wp_seq ?_; refine wp_region_lit ?_
  refine o_alloc (cs := [(.slice none 0 0)]) ha rfl Try.zeroValue31 rfl ?_; clear ha a; intro b19 w20 hB21 hx22 hlo23 a ha
  have q24 := Zn.one hlo23
  have q25 := Nq.new hB3.fpb q24
  have q26 := Nq.made1 hlo23 hB3.bi
  have q27 := Nq.new hB11.fpb q24
  have q28 := Nq.made1 hlo23 hB11.bi
  have q29 := Zn.upD q24 hE18
  replace hB3 := hB3.ext hx22
  replace hB11 := hB11.ext hx22
  have hE30 := Ext.trans hE18 hx22
  refine wpList_nil ?_; refine e_then ?_; refine wp_seq ?_; refine wp_region_lit ?_; refine op_g ha rfl (g_field0 st24_0 rfl) ?_; clear ha a; intro a ha; refine op_g ha rfl (g_load Try.isAgg22 rfl (hB3.cell rfl)) ?_; clear ha a; intro a ha; obtain ⟨x31, hc32, hF⟩ := cal_some hF
  refine o_call ha rfl rfl Try.call18 (W_laws_toInt64SS (ha0_0.ext hE30) hc32) ?_; clear ha a; rintro v33 w34 ⟨b36, fs40, h37, z38, zf41, nd42, hx35⟩ a ha
  have q43 := Nq.new hB3.fpb z38
  have q44 := Nq.madeF z38 zf41 hB3.bi
  have q45 := Nq.new hB11.fpb z38
  have q46 := Nq.madeF z38 zf41 hB11.bi
  have q47 := Nq.new hB21.fpb z38
  have q48 := Nq.madeF z38 zf41 hB21.bi
  have q49 := Nf.new hB3.fpb zf41
  have q50 := Nf.new hB11.fpb zf41
  have q51 := Nf.new hB21.fpb zf41
  replace hB3 := hB3.ext hx35
  replace hB11 := hB11.ext hx35
  replace hB21 := hB21.ext hx35
  have hE52 := Ext.trans hE30 hx35
  have q53 := Zn.upD z38 hE30
  have q54 := zf_up zf41 hE30
  refine op_g ha rfl (g_field0 st31_0 rfl) ?_; clear ha a; intro a ha
  refine o_storeB ha hB21 Try.sizeOf22 rfl rfl h37.cells h37.oneC (Nat.le_of_ble_eq_true rfl) ?_; intro w55 hB56 hc57
  replace hc57 := hc57.bl
  replace hB56 : Bx w55 b19 [v33] 31 := hB56
  replace hB3 := hB3.nq hc57 q25
  replace hB11 := hB11.nq hc57 q27
  replace h37 := h37.nq hc57 q48
  have hE58 := Ext.then hE52 hc57 (Zn.bl q29)
  refine wpList_nil ?_; replace ha := ha.sub (σ' := [(2, (.pointer (some ⟨b9, 0, none⟩))), (3, (.pointer (some ⟨b19, 0, none⟩)))]) ⟨rfl, rfl, trivial⟩; refine e_then ?_; refine wp_seq ?_; refine wp_region_lit ?_; refine op_g ha rfl (g_loadA (cs := [v33]) Try.isAgg31 Try.sizeOf31 rfl (by simp) hB56.all) ?_; clear ha a; intro a ha
  refine o_storeA (vs := [v33]) ha hB11 Try.sizeOf31 rfl rfl (by intro c hc; simp only [List.mem_cons, List.not_mem_nil, or_false] at hc; rcases hc with hc <;> subst hc <;> first | rfl | exact h37.oneC) rfl ?_; intro w59 hB60 hc61
  replace hc61 := hc61.bl
  replace hB60 : Bx w59 b9 [v33] 31 := hB60
  replace hB56 := hB56.nq hc61 q28
  replace h37 := h37.nq hc61 q46
  have hE62 := Ext.then hE58 hc61 (Zn.bl q17)
  refine wpList_nil ?_; replace ha := ha.sub (σ' := [(2, (.pointer (some ⟨b9, 0, none⟩)))]) ⟨rfl, trivial⟩; refine e_then ?_; refine wp_ret ?_; obtain rfl := Option.some.inj hF
  exact f_retC (cs := [v33]) ha rfl rfl Try.isAgg31 Try.sizeOf31 hB60 ⟨_, _, _, rfl, h37, q53, q54, nd42, hE62⟩
set_option maxHeartbeats 2000000 in
theorem W_laws_toNice {W : World} {va0_0 : Value} {fa0_0 : List Nat} {a0_0 : (List Int)} (ha0_0 : Ro Rp.int W fa0_0 va0_0 a0_0) {va0_1 : Value} {fa0_1 : List Nat} {a0_1 : (List Int)} (ha0_1 : Ro Rp.int W fa0_1 va0_1 a0_1) {va0_2 : Value} {fa0_2 : List Nat} {a0_2 : (List (List Int))} (ha0_2 : Ro (Rp.sl 2 Rp.int) W fa0_2 va0_2 a0_2) {va0_3 : Value} {fa0_3 : List Nat} {a0_3 : (List (List Int))} (ha0_3 : Ro (Rp.sl 2 Rp.int) W fa0_3 va0_3 a0_3) {r : ((List Int) × ((List Int) × ((List (List Int)) × (List (List Int)))))} (hF : F_laws_toNice a0_0 a0_1 a0_2 a0_3 = some r) :
    Calls Try.prog 8 [.agg #[va0_0, va0_1, va0_2, va0_3]].toArray W (Ret fun u w' => ∃ (u_0 : Value) (u_1 : Value) (u_2 : Value) (u_3 : Value) (b_u_0 : Int) (b_u_1 : Int) (b_u_2 : Int) (fs_u_2 : List Nat) (b_u_3 : Int) (fs_u_3 : List Nat), u = .agg #[u_0, u_1, u_2, u_3] ∧ Ow Rp.int 2 true w' [] b_u_0 u_0 r.1 ∧ Zn W b_u_0 ∧ Ow Rp.int 2 true w' [] b_u_1 u_1 r.2.1 ∧ Zn W b_u_1 ∧ Ow (Rp.sl 2 Rp.int) 25 true w' fs_u_2 b_u_2 u_2 r.2.2.1 ∧ Zn W b_u_2 ∧ (∀ k ∈ fs_u_2, W.heap.size ≤ k) ∧ (bl b_u_2 ++ fs_u_2).Nodup ∧ Ow (Rp.sl 2 Rp.int) 25 true w' fs_u_3 b_u_3 u_3 r.2.2.2 ∧ Zn W b_u_3 ∧ (∀ k ∈ fs_u_3, W.heap.size ≤ k) ∧ (bl b_u_3 ++ fs_u_3).Nodup ∧ Nq (bl b_u_0 ++ []) b_u_1 ∧ Nq (bl b_u_0 ++ []) b_u_2 ∧ Nq (bl b_u_0 ++ []) b_u_3 ∧ Nq (bl b_u_1 ++ []) b_u_0 ∧ Nq (bl b_u_1 ++ []) b_u_2 ∧ Nq (bl b_u_1 ++ []) b_u_3 ∧ Nq (bl b_u_2 ++ fs_u_2) b_u_0 ∧ Nq (bl b_u_2 ++ fs_u_2) b_u_1 ∧ Nq (bl b_u_2 ++ fs_u_2) b_u_3 ∧ Nq (bl b_u_3 ++ fs_u_3) b_u_0 ∧ Nq (bl b_u_3 ++ fs_u_3) b_u_1 ∧ Nq (bl b_u_3 ++ fs_u_3) b_u_2 ∧ Ext W w') := by
  refine f_enter Try.func8 rfl Try.ntmps8 rfl ?_
  intro a ha
  replace ha : Fr 21 [(0, (.agg #[va0_0, va0_1, va0_2, va0_3]))] a := ha
  have hE : Chg [] W W := Chg.refl _ _
  unfold F_laws_toNice at hF
  refine wp_seq ?_; refine wp_region_lit ?_
  refine o_box ha rfl rfl rfl ?_; clear ha a; intro b1 w2 hB3 hx4 hlo5 a ha
  have q6 := Zn.one hlo5
  have q7 := Zn.upD q6 hE
  have hE8 := Ext.trans hE hx4
  refine o_alloc (cs := [(.slice none 0 0), (.slice none 0 0), (.slice none 0 0), (.slice none 0 0)]) ha rfl Try.zeroValue33 rfl ?_; clear ha a; intro b9 w10 hB11 hx12 hlo13 a ha
  have q14 := Zn.one hlo13
  have q15 := Nq.new hB3.fpb q14
  have q16 := Nq.made1 hlo13 hB3.bi
  have q17 := Zn.upD q14 hE8
  replace hB3 := hB3.ext hx12
  have hE18 := Ext.trans hE8 hx12
  refine wpList_nil ?_; replace ha := ha.sub (σ' := [(1, (.pointer (some ⟨b1, 0, none⟩))), (2, (.pointer (some ⟨b9, 0, none⟩)))]) ⟨rfl, rfl, trivial⟩; refine e_then ?_; refine wp_seq ?_; refine wp_region_lit ?_
  refine o_alloc (cs := [(.slice none 0 0), (.slice none 0 0), (.slice none 0 0), (.slice none 0 0)]) ha rfl Try.zeroValue33 rfl ?_; clear ha a; intro b19 w20 hB21 hx22 hlo23 a ha
  have q24 := Zn.one hlo23
  have q25 := Nq.new hB3.fpb q24
  have q26 := Nq.made1 hlo23 hB3.bi
  have q27 := Nq.new hB11.fpb q24
  have q28 := Nq.made1 hlo23 hB11.bi
  have q29 := Zn.upD q24 hE18
  replace hB3 := hB3.ext hx22
  replace hB11 := hB11.ext hx22
  have hE30 := Ext.trans hE18 hx22
  refine wpList_nil ?_; refine e_then ?_; refine wp_seq ?_; refine wp_region_lit ?_; refine op_g ha rfl (g_field0 st27_0 rfl) ?_; clear ha a; intro a ha; refine op_g ha rfl (g_load Try.isAgg25 rfl (hB3.cell rfl)) ?_; clear ha a; intro a ha; obtain ⟨x31, hc32, hF⟩ := cal_some hF
  refine o_call ha rfl rfl Try.call19 (W_laws_toInt64S (ha0_0.ext hE30) hc32) ?_; clear ha a; rintro v33 w34 ⟨b36, h37, z38, hx35⟩ a ha
  have q40 := Nq.new hB3.fpb z38
  have q41 := Nq.madeO z38 hB3.bi
  have q42 := Nq.new hB11.fpb z38
  have q43 := Nq.madeO z38 hB11.bi
  have q44 := Nq.new hB21.fpb z38
  have q45 := Nq.madeO z38 hB21.bi
  replace hB3 := hB3.ext hx35
  replace hB11 := hB11.ext hx35
  replace hB21 := hB21.ext hx35
  have hE46 := Ext.trans hE30 hx35
  have q47 := Zn.upD z38 hE30
  refine op_g ha rfl (g_field0 st33_0 rfl) ?_; clear ha a; intro a ha
  refine o_storeB ha hB21 Try.sizeOf25 rfl rfl h37.cells h37.oneC (Nat.le_of_ble_eq_true rfl) ?_; intro w48 hB49 hc50
  replace hc50 := hc50.bl
  replace hB49 : Bx w48 b19 [v33, (.slice none 0 0), (.slice none 0 0), (.slice none 0 0)] 33 := hB49
  replace hB3 := hB3.nq hc50 q25
  replace hB11 := hB11.nq hc50 q27
  replace h37 := h37.nq hc50 q45
  have hE51 := Ext.then hE46 hc50 (Zn.bl q29)
  refine wpList_nil ?_; replace ha := ha.sub (σ' := [(1, (.pointer (some ⟨b1, 0, none⟩))), (2, (.pointer (some ⟨b9, 0, none⟩))), (3, (.pointer (some ⟨b19, 0, none⟩)))]) ⟨rfl, rfl, rfl, trivial⟩; refine e_then ?_; refine wp_seq ?_; refine wp_region_lit ?_; refine op_g ha rfl (g_field0 st27_1 rfl) ?_; clear ha a; intro a ha; refine op_g ha rfl (g_load Try.isAgg25 rfl (hB3.cell rfl)) ?_; clear ha a; intro a ha; obtain ⟨x52, hc53, hF⟩ := cal_some hF
  refine o_call ha rfl rfl Try.call19 (W_laws_toInt64S (ha0_1.ext hE51) hc53) ?_; clear ha a; rintro v54 w55 ⟨b57, h58, z59, hx56⟩ a ha
  have q61 := Nq.new hB3.fpb z59
  have q62 := Nq.madeO z59 hB3.bi
  have q63 := Nq.new hB11.fpb z59
  have q64 := Nq.madeO z59 hB11.bi
  have q65 := Nq.new hB49.fpb z59
  have q66 := Nq.madeO z59 hB49.bi
  have q67 := Nq.new h37.fpb z59
  have q68 := Nq.madeO z59 h37.blt
  replace hB3 := hB3.ext hx56
  replace hB11 := hB11.ext hx56
  replace hB49 := hB49.ext hx56
  replace h37 := h37.ext hx56
  have hE69 := Ext.trans hE51 hx56
  have q70 := Zn.upD z59 hE51
  refine op_g ha rfl (g_field0 st33_1 rfl) ?_; clear ha a; intro a ha
  refine o_storeB ha hB49 Try.sizeOf25 rfl rfl h58.cells h58.oneC (Nat.le_of_ble_eq_true rfl) ?_; intro w71 hB72 hc73
  replace hc73 := hc73.bl
  replace hB72 : Bx w71 b19 [v33, v54, (.slice none 0 0), (.slice none 0 0)] 33 := hB72
  replace hB3 := hB3.nq hc73 q25
  replace hB11 := hB11.nq hc73 q27
  replace h37 := h37.nq hc73 q45
  replace h58 := h58.nq hc73 q66
  have hE74 := Ext.then hE69 hc73 (Zn.bl q29)
  refine wpList_nil ?_; replace ha := ha.sub (σ' := [(1, (.pointer (some ⟨b1, 0, none⟩))), (2, (.pointer (some ⟨b9, 0, none⟩))), (3, (.pointer (some ⟨b19, 0, none⟩)))]) ⟨rfl, rfl, rfl, trivial⟩; refine e_then ?_; refine wp_seq ?_; refine wp_region_lit ?_; refine op_g ha rfl (g_field0 st27_2 rfl) ?_; clear ha a; intro a ha; refine op_g ha rfl (g_load Try.isAgg22 rfl (hB3.cell rfl)) ?_; clear ha a; intro a ha; obtain ⟨x75, hc76, hF⟩ := cal_some hF
  refine o_call ha rfl rfl Try.call18 (W_laws_toInt64SS (ha0_2.ext hE74) hc76) ?_; clear ha a; rintro v77 w78 ⟨b80, fs84, h81, z82, zf85, nd86, hx79⟩ a ha
  have q87 := Nq.new hB3.fpb z82
  have q88 := Nq.madeF z82 zf85 hB3.bi
  have q89 := Nq.new hB11.fpb z82
  have q90 := Nq.madeF z82 zf85 hB11.bi
  have q91 := Nq.new hB72.fpb z82
  have q92 := Nq.madeF z82 zf85 hB72.bi
  have q93 := Nq.new h37.fpb z82
  have q94 := Nq.madeF z82 zf85 h37.blt
  have q95 := Nq.new h58.fpb z82
  have q96 := Nq.madeF z82 zf85 h58.blt
  have q97 := Nf.new hB3.fpb zf85
  have q98 := Nf.new hB11.fpb zf85
  have q99 := Nf.new hB72.fpb zf85
  have q100 := Nf.new h37.fpb zf85
  have q101 := Nf.new h58.fpb zf85
  replace hB3 := hB3.ext hx79
  replace hB11 := hB11.ext hx79
  replace hB72 := hB72.ext hx79
  replace h37 := h37.ext hx79
  replace h58 := h58.ext hx79
  have hE102 := Ext.trans hE74 hx79
  have q103 := Zn.upD z82 hE74
  have q104 := zf_up zf85 hE74
  refine op_g ha rfl (g_field0 st33_2 rfl) ?_; clear ha a; intro a ha
  refine o_storeB ha hB72 Try.sizeOf22 rfl rfl h81.cells h81.oneC (Nat.le_of_ble_eq_true rfl) ?_; intro w105 hB106 hc107
  replace hc107 := hc107.bl
  replace hB106 : Bx w105 b19 [v33, v54, v77, (.slice none 0 0)] 33 := hB106
  replace hB3 := hB3.nq hc107 q25
  replace hB11 := hB11.nq hc107 q27
  replace h37 := h37.nq hc107 q45
  replace h58 := h58.nq hc107 q66
  replace h81 := h81.nq hc107 q92
  have hE108 := Ext.then hE102 hc107 (Zn.bl q29)
  refine wpList_nil ?_; replace ha := ha.sub (σ' := [(1, (.pointer (some ⟨b1, 0, none⟩))), (2, (.pointer (some ⟨b9, 0, none⟩))), (3, (.pointer (some ⟨b19, 0, none⟩)))]) ⟨rfl, rfl, rfl, trivial⟩; refine e_then ?_; refine wp_seq ?_; refine wp_region_lit ?_; refine op_g ha rfl (g_field0 st27_3 rfl) ?_; clear ha a; intro a ha; refine op_g ha rfl (g_load Try.isAgg22 rfl (hB3.cell rfl)) ?_; clear ha a; intro a ha; obtain ⟨x109, hc110, hF⟩ := cal_some hF
  refine o_call ha rfl rfl Try.call18 (W_laws_toInt64SS (ha0_3.ext hE108) hc110) ?_; clear ha a; rintro v111 w112 ⟨b114, fs118, h115, z116, zf119, nd120, hx113⟩ a ha
  have q121 := Nq.new hB3.fpb z116
  have q122 := Nq.madeF z116 zf119 hB3.bi
  have q123 := Nq.new hB11.fpb z116
  have q124 := Nq.madeF z116 zf119 hB11.bi
  have q125 := Nq.new hB106.fpb z116
  have q126 := Nq.madeF z116 zf119 hB106.bi
  have q127 := Nq.new h37.fpb z116
  have q128 := Nq.madeF z116 zf119 h37.blt
  have q129 := Nq.new h58.fpb z116
  have q130 := Nq.madeF z116 zf119 h58.blt
  have q131 := Nq.new h81.fpb z116
  have q132 := Nq.madeF z116 zf119 h81.blt
  have q133 := Nf.new hB3.fpb zf119
  have q134 := Nf.new hB11.fpb zf119
  have q135 := Nf.new hB106.fpb zf119
  have q136 := Nf.new h37.fpb zf119
  have q137 := Nf.new h58.fpb zf119
  have q138 := Nf.new h81.fpb zf119
  have q139 := Nf.old z116 zf119 h81.bnd
  replace hB3 := hB3.ext hx113
  replace hB11 := hB11.ext hx113
  replace hB106 := hB106.ext hx113
  replace h37 := h37.ext hx113
  replace h58 := h58.ext hx113
  replace h81 := h81.ext hx113
  have hE140 := Ext.trans hE108 hx113
  have q141 := Zn.upD z116 hE108
  have q142 := zf_up zf119 hE108
  refine op_g ha rfl (g_field0 st33_3 rfl) ?_; clear ha a; intro a ha
  refine o_storeB ha hB106 Try.sizeOf22 rfl rfl h115.cells h115.oneC (Nat.le_of_ble_eq_true rfl) ?_; intro w143 hB144 hc145
  replace hc145 := hc145.bl
  replace hB144 : Bx w143 b19 [v33, v54, v77, v111] 33 := hB144
  replace hB3 := hB3.nq hc145 q25
  replace hB11 := hB11.nq hc145 q27
  replace h37 := h37.nq hc145 q45
  replace h58 := h58.nq hc145 q66
  replace h81 := h81.nq hc145 q92
  replace h115 := h115.nq hc145 q126
  have hE146 := Ext.then hE140 hc145 (Zn.bl q29)
  refine wpList_nil ?_; replace ha := ha.sub (σ' := [(2, (.pointer (some ⟨b9, 0, none⟩))), (3, (.pointer (some ⟨b19, 0, none⟩)))]) ⟨rfl, rfl, trivial⟩; refine e_then ?_; refine wp_seq ?_; refine wp_region_lit ?_; refine op_g ha rfl (g_loadA (cs := [v33, v54, v77, v111]) Try.isAgg33 Try.sizeOf33 rfl (by simp) hB144.all) ?_; clear ha a; intro a ha
  refine o_storeA (vs := [v33, v54, v77, v111]) ha hB11 Try.sizeOf33 rfl rfl (by intro c hc; simp only [List.mem_cons, List.not_mem_nil, or_false] at hc; rcases hc with hc | hc | hc | hc <;> subst hc <;> first | rfl | exact h37.oneC | exact h58.oneC | exact h81.oneC | exact h115.oneC) rfl ?_; intro w147 hB148 hc149
  replace hc149 := hc149.bl
  replace hB148 : Bx w147 b9 [v33, v54, v77, v111] 33 := hB148
  replace hB144 := hB144.nq hc149 q28
  replace h37 := h37.nq hc149 q43
  replace h58 := h58.nq hc149 q64
  replace h81 := h81.nq hc149 q90
  replace h115 := h115.nq hc149 q124
  have hE150 := Ext.then hE146 hc149 (Zn.bl q17)
  refine wpList_nil ?_; replace ha := ha.sub (σ' := [(2, (.pointer (some ⟨b9, 0, none⟩)))]) ⟨rfl, trivial⟩; refine e_then ?_; refine wp_ret ?_; obtain rfl := Option.some.inj hF
  exact f_retC (cs := [v33, v54, v77, v111]) ha rfl rfl Try.isAgg33 Try.sizeOf33 hB148 ⟨_, _, _, _, _, _, _, _, _, _, rfl, h37, q47, h58, q70, h81, q103, q104, nd86, h115, q141, q142, nd120, q67, q93, q127, q68, q95, q129, q94, q96, q131, q128, q130, q132, hE150⟩
set_option maxHeartbeats 2000000 in
theorem W_spec_l1Size {W : World} {va0_0 : Value} {fa0_0 : List Nat} {a0_0 : (List (List Int))} (ha0_0 : Ro (Rp.sl 2 Rp.int) W fa0_0 va0_0 a0_0) {r : Int} (hF : F_spec_l1Size a0_0 = some r) :
    Calls Try.prog 30 [.agg #[va0_0]].toArray W (Ret fun u w' => (u = .int .i64 r ∧ InI r) ∧ Ext W w') := by
  refine f_enter Try.func30 rfl Try.ntmps30 rfl ?_
  intro a ha
  replace ha : Fr 6 [(0, (.agg #[va0_0]))] a := ha
  have hE : Chg [] W W := Chg.refl _ _
  unfold F_spec_l1Size at hF
  refine wp_seq ?_; refine wp_region_lit ?_
  refine o_box ha rfl rfl rfl ?_; clear ha a; intro b1 w2 hB3 hx4 hlo5 a ha
  have q6 := Zn.one hlo5
  have q7 := Zn.upD q6 hE
  have hE8 := Ext.trans hE hx4
  refine op_g ha rfl (g_assign rfl) ?_; clear ha a; intro a ha; refine wpList_nil ?_; replace ha := ha.sub (σ' := [(1, (.pointer (some ⟨b1, 0, none⟩)))]) ⟨rfl, trivial⟩; refine e_then ?_; refine wp_seq ?_; refine wp_region_lit ?_; refine op_g ha rfl (g_field0 st31_0 rfl) ?_; clear ha a; intro a ha; refine op_g ha rfl (g_load Try.isAgg22 rfl (hB3.cell rfl)) ?_; clear ha a; intro a ha; refine op_g ha rfl (g_lenR sl22.und ha0_0 rfl) ?_; clear ha a; intro a ha; refine op_g ha rfl (g_assign rfl) ?_; clear ha a; intro a ha; refine wpList_nil ?_; replace ha := ha.sub (σ' := [(2, (.int .i64 (a0_0.length : Int)))]) ⟨rfl, trivial⟩
  refine e_then ?_; refine wp_ret ?_; obtain rfl := Option.some.inj hF
  exact f_ret1 ha rfl rfl ⟨⟨rfl, ha0_0.len⟩, hE8⟩
set_option maxHeartbeats 2000000 in
theorem W_spec_l1In {W : World} {a0 : Int} (ha0 : InI a0) {a1 : Int} (ha1 : InI a1) {a2 : Int} (ha2 : InI a2) {r : Bool} (hF : F_spec_l1In a0 a1 a2 = some r) :
    Calls Try.prog 31 [.int .i64 a0, .int .i64 a1, .int .i64 a2].toArray W (Ret fun u w' => u = .bool r ∧ Ext W w') := by
  refine f_enter Try.func31 rfl Try.ntmps31 rfl ?_
  intro a ha
  replace ha : Fr 15 [(0, (.int .i64 a0)), (1, (.int .i64 a1)), (2, (.int .i64 a2))] a := ha
  have hE : Chg [] W W := Chg.refl _ _
  unfold F_spec_l1In at hF
  refine wp_seq ?_; refine wp_region_lit ?_; refine op_g ha rfl (g_assign rfl) ?_; clear ha a; intro a ha; refine wpList_nil ?_; replace ha := ha.sub (σ' := [(0, (.int .i64 a0)), (1, (.int .i64 a1)), (2, (.int .i64 a2))]) ⟨rfl, rfl, rfl, trivial⟩; refine e_then ?_; refine wp_seq ?_; refine wp_region_lit ?_; (iterate 2 refine op_g ha rfl (g_move rfl) ?_; clear ha a; intro a ha); refine op_g ha rfl (g_geq rfl rfl) ?_; clear ha a; intro a ha; refine op_g ha rfl (g_move rfl) ?_; clear ha a; intro a ha
  by_cases hp1 : a1 ≤ a0
  · replace hF := if_t hp1 hF
    rw [show (decide (a1 ≤ a0)) = true from (decide_eq_true_iff).2 hp1] at ha
    refine op_want (yields ha rfl rfl) ?_; refine op_g ha rfl (g_move rfl) ?_; clear ha a; intro a ha; refine op_want (yields ha rfl rfl) ?_; refine op_g ha rfl (g_move rfl) ?_; clear ha a; intro a ha; refine op_want (yields ha rfl rfl) ?_; refine op_g ha rfl (g_leq rfl rfl) ?_; clear ha a; intro a ha; refine op_g ha rfl (g_pick rfl rfl) ?_; clear ha a; intro a ha; refine op_g ha rfl (g_assign rfl) ?_; clear ha a; intro a ha; refine wpList_nil ?_; replace ha := ha.sub (σ' := [(6, (.bool (decide (a0 ≤ a2))))]) ⟨rfl, trivial⟩; refine e_then ?_; refine wp_ret ?_; obtain rfl := Option.some.inj hF
    exact f_ret1 ha rfl rfl ⟨rfl, hE⟩
  replace hF := if_f hp1 hF
  rw [show (decide (a1 ≤ a0)) = false from b_false (decide_eq_true_iff) hp1] at ha
  (iterate 3 refine op_unwant ha rfl (yields ha rfl rfl) rfl ?_; clear ha a; intro a ha); refine op_g ha rfl (g_pick rfl rfl) ?_; clear ha a; intro a ha; refine op_g ha rfl (g_assign rfl) ?_; clear ha a; intro a ha; refine wpList_nil ?_; replace ha := ha.sub (σ' := [(6, (.bool false))]) ⟨rfl, trivial⟩; refine e_then ?_; refine wp_ret ?_; obtain rfl := Option.some.inj hF
  exact f_ret1 ha rfl rfl ⟨rfl, hE⟩
set_option maxHeartbeats 2000000 in
theorem W_spec_l1Set {W : World} {va0 : Value} {fa0 : List Nat} {a0 : (List Int)} (ha0 : Ro Rp.int W fa0 va0 a0) {a1 : Int} (ha1 : InI a1) {r : Bool} (hF : F_spec_l1Set a0 a1 = some r) :
    Calls Try.prog 32 [va0, .int .i64 a1].toArray W (Ret fun u w' => u = .bool r ∧ Ext W w') := by
  refine f_enter Try.func32 rfl Try.ntmps32 rfl ?_
  intro a ha
  replace ha : Fr 40 [(0, va0), (1, (.int .i64 a1))] a := ha
  have hE : Chg [] W W := Chg.refl _ _
  unfold F_spec_l1Set at hF
  refine wp_seq ?_; refine wp_region_lit ?_; refine op_g ha rfl (g_assign rfl) ?_; clear ha a; intro a ha; refine wpList_nil ?_; replace ha := ha.sub (σ' := [(0, va0), (1, (.int .i64 a1))]) ⟨rfl, rfl, trivial⟩; refine e_then ?_; refine wp_seq ?_; refine wp_seq ?_; refine wp_region_lit ?_; refine op_g ha rfl (g_move rfl) ?_; clear ha a; intro a ha; refine op_g ha rfl (g_lenR sl25.und ha0 rfl) ?_; clear ha a; intro a ha; refine op_g ha rfl (g_move rfl) ?_; clear ha a; intro a ha; refine op_g ha rfl (g_gtr rfl rfl) ?_; clear ha a; intro a ha; refine wpList_nil ?_; replace ha := ha.sub (σ' := [(0, va0), (1, (.int .i64 a1)), (9, (.bool (decide (a1 < (a0.length : Int)))))]) ⟨rfl, rfl, rfl, trivial⟩
  refine e_then ?_; refine c_cond (a1 < (a0.length : Int)) ha rfl (decide_eq_true_iff) (fun hp1 => ?_) (fun hp1 => ?_)
  · replace hF := if_t hp1 hF
    refine wp_seq ?_; refine wp_region_lit ?_; refine op_g ha rfl (g_assign rfl) ?_; clear ha a; intro a ha; refine wpList_nil ?_; replace ha := ha.sub (σ' := [(4, (.bool false))]) ⟨rfl, trivial⟩; refine e_then ?_; refine wp_ret ?_; refine e_then_ret ?_; obtain rfl := Option.some.inj hF
    exact f_ret1 ha rfl rfl ⟨rfl, hE⟩
  replace hF := if_f hp1 hF; refine wp_skip ?_; refine e_then ?_; refine wp_seq ?_; refine wp_seq ?_; refine wp_region_lit ?_; refine op_g ha rfl (g_assign rfl) ?_; clear ha a; intro a ha; refine wpList_nil ?_; replace ha := ha.sub (σ' := [(0, va0), (1, (.int .i64 a1)), (5, (.int .i64 0))]) ⟨rfl, rfl, rfl, trivial⟩; refine e_then ?_; obtain ⟨o137, ho138, hK139⟩ := bnd_some hF
  obtain ⟨n140, hn141⟩ := lp_some ho138; clear ho138
  refine c_loop (fun a w => Fr 40 [] a ∧ Chg [] W w ∧ o137 = .inl ()) (fun n a w => ∃ (i69 : Int), Fr 40 [(0, va0), (1, (.int .i64 a1)), (5, (.int .i64 i69))] a ∧ Chg [] W w ∧ InI i69 ∧ lpN (fun s => F_spec_l1Set_l1 a0 a1 s) n i69 = some o137) n140 ⟨0, ha.sub ⟨rfl, rfl, rfl, trivial⟩, hE, (show InI 0 from by decide), hn141⟩ ?_ ?_
  · rintro m145 a w68 ⟨i69, ha, hE71, hI70, hF⟩
    cases m145 with
    | zero => exact (lpN_zero hF).elim
    | succ m145 =>
      obtain ⟨z144, hF, hN143⟩ := lpN_succ hF
      have hF : F_spec_l1Set_l1 a0 a1 i69 = some z144 := hF; unfold F_spec_l1Set_l1 at hF
      refine wp_seq ?_; refine wp_seq ?_; refine wp_region_lit ?_; (iterate 2 refine op_g ha rfl (g_move rfl) ?_; clear ha a; intro a ha); refine op_g ha rfl (g_lenR sl25.und ha0 rfl) ?_; clear ha a; intro a ha; refine op_g ha rfl (g_lss rfl rfl) ?_; clear ha a; intro a ha; refine wpList_nil ?_; replace ha := ha.sub (σ' := [(0, va0), (1, (.int .i64 a1)), (5, (.int .i64 i69)), (13, (.bool (decide (i69 < (a0.length : Int)))))]) ⟨rfl, rfl, rfl, rfl, trivial⟩; refine e_then ?_; refine c_cond (i69 < (a0.length : Int)) ha rfl (decide_eq_true_iff) (fun hp146 => ?_) (fun hp146 => ?_)
      · replace hF := if_t hp146 hF
        refine wp_skip ?_; refine e_then ?_; refine wp_seq ?_; refine wp_block ?_; refine wp_seq ?_; refine d_quiet hmix (by kernel_rfl) ?_; (iterate 2 refine q_g ha rfl (g_move rfl) ?_; clear ha a; intro a ha); obtain ⟨x147, g148, gx149, hF⟩ := idx_some hF
        obtain ⟨p150, cs151, f152, hf153, hpb154, hat155, hr156, hi157⟩ := ha0.at g148 gx149
        obtain ⟨rfl, hI158, rfl⟩ := hr156
        refine q_g ha rfl (hi157.gives sl25 rfl rfl) ?_; clear ha a; intro a ha; refine q_g ha rfl (g_load0 hE71 Try.isAgg2 rfl hat155.one) ?_; clear ha a; intro a ha; refine q_g ha rfl (g_move rfl) ?_; clear ha a; intro a ha; obtain ⟨hI159, hF⟩ := ck_some hF; refine q_g ha rfl (g_sub rfl rfl hI159) ?_; clear ha a; intro a ha; obtain ⟨x163, hc164, hF⟩ := cal_some hF; refine q_call (.bool x163) ha rfl rfl Try.call31 (fun w162 hx161 => W_spec_l1In hI158 (show InI 0 from by decide) hI159 hc164) (fun _ _ _ h => ⟨h.1, h.2⟩) ?_; clear ha a; intro a ha; refine q_g ha rfl (g_not rfl) ?_; clear ha a; intro a ha
        refine q_g ha rfl (g_move rfl) ?_; clear ha a; intro a ha
        by_cases hp165 : ¬ (x163 = true)
        · replace hF := if_t hp165 hF
          rw [show (!x163) = true from (n_iff (Iff.rfl)).2 hp165] at ha
          (iterate 3 refine q_unwant ha rfl (yields ha rfl rfl) rfl ?_; clear ha a; intro a ha); (iterate 10 refine q_unwant0 ha rfl (yields0 ha rfl rfl) ?_; clear ha a; intro a ha); refine q_unwant ha rfl (yields ha rfl rfl) rfl ?_; clear ha a; intro a ha; refine q_g ha rfl (g_pick rfl rfl) ?_; clear ha a; intro a ha
          refine q_nil ?_; intro w166 hx167
          have hE168 := Ext.trans hE71 hx167
          replace ha := ha.sub (σ' := [(0, va0), (1, (.int .i64 a1)), (5, (.int .i64 i69)), (39, (.bool true))]) ⟨rfl, rfl, rfl, rfl, trivial⟩; refine e_then ?_; refine c_true ha rfl ?_; refine wp_seq ?_; refine wp_region_lit ?_; refine op_g ha rfl (g_assign rfl) ?_; clear ha a; intro a ha; refine wpList_nil ?_; replace ha := ha.sub (σ' := [(4, (.bool false))]) ⟨rfl, trivial⟩; refine e_then ?_; refine wp_ret ?_; refine e_blk_ret ?_; refine e_then_ret ?_; refine e_lq_ret ?_; refine e_then_ret ?_; obtain rfl := Option.some.inj hF
          have e169 := LK_inr hN143; subst e169
          have e170 := BK_inr hK139; subst e170
          exact f_ret1 ha rfl rfl ⟨rfl, hE168⟩
        replace hF := if_f hp165 hF
        rw [show (!x163) = false from b_false (n_iff (Iff.rfl)) hp165] at ha
        refine q_want (yields ha rfl rfl) ?_; refine q_g ha rfl (g_move rfl) ?_; clear ha a; intro a ha; refine q_want (yields ha rfl rfl) ?_; refine q_g ha rfl (g_gtr rfl rfl) ?_; clear ha a; intro a ha; refine q_want (yields ha rfl rfl) ?_; refine q_g ha rfl (g_move rfl) ?_; clear ha a; intro a ha
        by_cases hp171 : 0 < i69
        · replace hF := if_t hp171 hF
          rw [show (decide (0 < i69)) = true from (decide_eq_true_iff).2 hp171] at ha
          refine q_want (yields ha rfl rfl) ?_; refine q_g ha rfl (g_move rfl) ?_; clear ha a; intro a ha; refine q_want (yields ha rfl rfl) ?_; refine q_g ha rfl (g_move rfl) ?_; clear ha a; intro a ha; refine q_want (yields ha rfl rfl) ?_; obtain ⟨x172, g173, gx174, hF⟩ := idx_some hF
          obtain ⟨p175, cs176, f177, hf178, hpb179, hat180, hr181, hi182⟩ := ha0.at g173 gx174
          obtain ⟨rfl, hI183, rfl⟩ := hr181
          refine q_g ha rfl (hi182.gives sl25 rfl rfl) ?_; clear ha a; intro a ha; refine q_want (yields ha rfl rfl) ?_; refine q_g ha rfl (g_load0 hE71 Try.isAgg2 rfl hat180.one) ?_; clear ha a; intro a ha; refine q_want (yields ha rfl rfl) ?_; refine q_g ha rfl (g_move rfl) ?_; clear ha a; intro a ha; refine q_want (yields ha rfl rfl) ?_; refine q_g ha rfl (g_move rfl) ?_; clear ha a; intro a ha; refine q_want (yields ha rfl rfl) ?_; obtain ⟨hI184, hF⟩ := ck_some hF; refine q_g ha rfl (g_sub rfl rfl hI184) ?_; clear ha a; intro a ha; refine q_want (yields ha rfl rfl) ?_; obtain ⟨x186, g187, gx188, hF⟩ := idx_some hF
          obtain ⟨p189, cs190, f191, hf192, hpb193, hat194, hr195, hi196⟩ := ha0.at g187 gx188
          obtain ⟨rfl, hI197, rfl⟩ := hr195
          refine q_g ha rfl (hi196.gives sl25 rfl rfl) ?_; clear ha a; intro a ha; refine q_want (yields ha rfl rfl) ?_; refine q_g ha rfl (g_load0 hE71 Try.isAgg2 rfl hat194.one) ?_; clear ha a; intro a ha; refine q_want (yields ha rfl rfl) ?_; refine q_g ha rfl (g_leq rfl rfl) ?_; clear ha a; intro a ha; refine q_want (yields ha rfl rfl) ?_; (iterate 2 refine q_g ha rfl (g_pick rfl rfl) ?_; clear ha a; intro a ha)
          refine q_nil ?_; intro w198 hx199
          have hE200 := Ext.trans hE71 hx199
          replace ha := ha.sub (σ' := [(0, va0), (1, (.int .i64 a1)), (5, (.int .i64 i69)), (25, (.int .i64 i69)), (26, (.bool true)), (27, (.bool true)), (28, va0), (29, (.int .i64 i69)), (30, (.pointer (some p175))), (31, (.int .i64 x172)), (32, va0), (33, (.int .i64 i69)), (34, (.int .i64 (i69 - 1))), (35, (.pointer (some p189))), (36, (.int .i64 x186)), (37, (.bool (decide (x172 ≤ x186)))), (38, (.bool (decide (x172 ≤ x186)))), (39, (.bool (decide (x172 ≤ x186))))]) ⟨rfl, rfl, rfl, rfl, rfl, rfl, rfl, rfl, rfl, rfl, rfl, rfl, rfl, rfl, rfl, rfl, rfl, rfl, trivial⟩; refine e_then ?_; refine c_cond (x172 ≤ x186) ha rfl (decide_eq_true_iff) (fun hp201 => ?_) (fun hp201 => ?_)
          · replace hF := if_t hp201 hF
            refine wp_seq ?_; refine wp_region_lit ?_; refine op_g ha rfl (g_assign rfl) ?_; clear ha a; intro a ha; refine wpList_nil ?_; replace ha := ha.sub (σ' := [(4, (.bool false))]) ⟨rfl, trivial⟩; refine e_then ?_; refine wp_ret ?_; refine e_blk_ret ?_; refine e_then_ret ?_; refine e_lq_ret ?_; refine e_then_ret ?_; obtain rfl := Option.some.inj hF
            have e202 := LK_inr hN143; subst e202
            have e203 := BK_inr hK139; subst e203
            exact f_ret1 ha rfl rfl ⟨rfl, hE200⟩
          replace hF := if_f hp201 hF; refine wp_skip ?_; refine e_blk ?_; refine e_then ?_; refine wp_region_lit ?_; refine op_g ha rfl (g_move rfl) ?_; clear ha a; intro a ha; obtain ⟨hI204, hF⟩ := ck_some hF; refine op_g ha rfl (g_add rfl rfl hI204) ?_; clear ha a; intro a ha; refine op_g ha rfl (g_assign rfl) ?_; clear ha a; intro a ha; refine wpList_nil ?_; replace ha := ha.sub (σ' := [(0, va0), (1, (.int .i64 a1)), (5, (.int .i64 (i69 + 1))), (25, (.int .i64 i69)), (26, (.bool true)), (27, (.bool true)), (28, va0), (29, (.int .i64 i69)), (30, (.pointer (some p175))), (31, (.int .i64 x172)), (32, va0), (33, (.int .i64 i69)), (34, (.int .i64 (i69 - 1))), (35, (.pointer (some p189))), (36, (.int .i64 x186)), (37, (.bool (decide (x172 ≤ x186)))), (38, (.bool (decide (x172 ≤ x186))))]) ⟨rfl, rfl, rfl, rfl, rfl, rfl, rfl, rfl, rfl, rfl, rfl, rfl, rfl, rfl, rfl, rfl, rfl, trivial⟩
          refine e_lq ?_; obtain rfl := Option.some.inj hF
          exact ⟨_, Nat.lt_succ_self _, i69 + 1, ha.sub ⟨rfl, rfl, rfl, trivial⟩, hE200, hI204, hN143⟩
        replace hF := if_f hp171 hF
        rw [show (decide (0 < i69)) = false from b_false (decide_eq_true_iff) hp171] at ha
        (iterate 10 refine q_unwant ha rfl (yields ha rfl rfl) rfl ?_; clear ha a; intro a ha); refine q_want (yields ha rfl rfl) ?_; (iterate 2 refine q_g ha rfl (g_pick rfl rfl) ?_; clear ha a; intro a ha)
        refine q_nil ?_; intro w206 hx207
        have hE208 := Ext.trans hE71 hx207
        replace ha := ha.sub (σ' := [(0, va0), (1, (.int .i64 a1)), (5, (.int .i64 i69)), (25, (.int .i64 i69)), (26, (.bool false)), (27, (.bool false)), (38, (.bool false)), (39, (.bool false))]) ⟨rfl, rfl, rfl, rfl, rfl, rfl, rfl, rfl, trivial⟩; refine e_then ?_; refine c_false ha rfl ?_; refine wp_skip ?_; refine e_blk ?_; refine e_then ?_; refine wp_region_lit ?_; refine op_g ha rfl (g_move rfl) ?_; clear ha a; intro a ha; obtain ⟨hI209, hF⟩ := ck_some hF; refine op_g ha rfl (g_add rfl rfl hI209) ?_; clear ha a; intro a ha; refine op_g ha rfl (g_assign rfl) ?_; clear ha a; intro a ha; refine wpList_nil ?_
        replace ha := ha.sub (σ' := [(0, va0), (1, (.int .i64 a1)), (5, (.int .i64 (i69 + 1))), (25, (.int .i64 i69)), (26, (.bool false)), (27, (.bool false)), (38, (.bool false))]) ⟨rfl, rfl, rfl, rfl, rfl, rfl, rfl, trivial⟩; refine e_lq ?_; obtain rfl := Option.some.inj hF
        exact ⟨_, Nat.lt_succ_self _, i69 + 1, ha.sub ⟨rfl, rfl, rfl, trivial⟩, hE208, hI209, hN143⟩
      replace hF := if_f hp146 hF; refine wp_exit ?_; refine e_then_exit ?_; refine e_lq_eq ?_; obtain rfl := Option.some.inj hF
      exact ⟨ha.sub trivial, hE71, (LK_inr hN143).symm⟩
  rintro a w136 ⟨ha, hE142, rfl⟩
  have hF : F_spec_l1Set_k2 = some _ := hK139; clear hK139; unfold F_spec_l1Set_k2 at hF
  refine e_then ?_; refine wp_seq ?_; refine wp_region_lit ?_; refine op_g ha rfl (g_assign rfl) ?_; clear ha a; intro a ha; refine wpList_nil ?_; refine e_then ?_; refine wp_ret ?_; obtain rfl := Option.some.inj hF
  exact f_ret1 ha rfl rfl ⟨rfl, hE142⟩
set_option maxHeartbeats 2000000 in
theorem W_spec_l1Has {W : World} {va0 : Value} {fa0 : List Nat} {a0 : (List Int)} (ha0 : Ro Rp.int W fa0 va0 a0) {a1 : Int} (ha1 : InI a1) {r : Bool} (hF : F_spec_l1Has a0 a1 = some r) :
    Calls Try.prog 33 [va0, .int .i64 a1].toArray W (Ret fun u w' => u = .bool r ∧ Ext W w') := by
  refine f_enter Try.func33 rfl Try.ntmps33 rfl ?_
  intro a ha
  replace ha : Fr 18 [(0, va0), (1, (.int .i64 a1))] a := ha
  have hE : Chg [] W W := Chg.refl _ _
  unfold F_spec_l1Has at hF
  refine wp_seq ?_; refine wp_region_lit ?_; refine op_g ha rfl (g_assign rfl) ?_; clear ha a; intro a ha; refine wpList_nil ?_; replace ha := ha.sub (σ' := [(0, va0), (1, (.int .i64 a1))]) ⟨rfl, rfl, trivial⟩; refine e_then ?_; refine wp_seq ?_; refine wp_seq ?_; refine wp_region_lit ?_; refine op_g ha rfl (g_assign rfl) ?_; clear ha a; intro a ha; refine wpList_nil ?_; refine e_then ?_; obtain ⟨o46, ho47, hK48⟩ := bnd_some hF
  obtain ⟨n49, hn50⟩ := lp_some ho47; clear ho47
  refine c_loop (fun a w => Fr 18 [] a ∧ Chg [] W w ∧ o46 = .inl ()) (fun n a w => ∃ (i23 : Int), Fr 18 [(0, va0), (1, (.int .i64 a1)), (5, (.int .i64 i23))] a ∧ Chg [] W w ∧ InI i23 ∧ lpN (fun s => F_spec_l1Has_l1 a0 a1 s) n i23 = some o46) n49 ⟨0, ha.sub ⟨rfl, rfl, rfl, trivial⟩, hE, (show InI 0 from by decide), hn50⟩ ?_ ?_
  · rintro m54 a w22 ⟨i23, ha, hE25, hI24, hF⟩
    cases m54 with
    | zero => exact (lpN_zero hF).elim
    | succ m54 =>
      obtain ⟨z53, hF, hN52⟩ := lpN_succ hF
      have hF : F_spec_l1Has_l1 a0 a1 i23 = some z53 := hF; unfold F_spec_l1Has_l1 at hF
      refine wp_seq ?_; refine wp_seq ?_; refine wp_region_lit ?_; (iterate 2 refine op_g ha rfl (g_move rfl) ?_; clear ha a; intro a ha); refine op_g ha rfl (g_lenR sl25.und ha0 rfl) ?_; clear ha a; intro a ha; refine op_g ha rfl (g_lss rfl rfl) ?_; clear ha a; intro a ha; refine wpList_nil ?_; replace ha := ha.sub (σ' := [(0, va0), (1, (.int .i64 a1)), (5, (.int .i64 i23)), (9, (.bool (decide (i23 < (a0.length : Int)))))]) ⟨rfl, rfl, rfl, rfl, trivial⟩; refine e_then ?_; refine c_cond (i23 < (a0.length : Int)) ha rfl (decide_eq_true_iff) (fun hp55 => ?_) (fun hp55 => ?_)
      · replace hF := if_t hp55 hF
        refine wp_skip ?_; refine e_then ?_; refine wp_seq ?_; refine wp_block ?_; refine wp_seq ?_; refine wp_region_lit ?_; (iterate 2 refine op_g ha rfl (g_move rfl) ?_; clear ha a; intro a ha); obtain ⟨x56, g57, gx58, hF⟩ := idx_some hF
        obtain ⟨p59, cs60, f61, hf62, hpb63, hat64, hr65, hi66⟩ := ha0.at g57 gx58
        obtain ⟨rfl, hI67, rfl⟩ := hr65
        refine op_g ha rfl (hi66.gives sl25 rfl rfl) ?_; clear ha a; intro a ha; refine op_g ha rfl (g_load0 hE25 Try.isAgg2 rfl hat64.one) ?_; clear ha a; intro a ha; refine op_g ha rfl (g_move rfl) ?_; clear ha a; intro a ha; refine op_g ha rfl (g_eql rfl rfl) ?_; clear ha a; intro a ha; refine wpList_nil ?_; replace ha := ha.sub (σ' := [(0, va0), (1, (.int .i64 a1)), (5, (.int .i64 i23)), (17, (.bool (decide (x56 = a1))))]) ⟨rfl, rfl, rfl, rfl, trivial⟩; refine e_then ?_; refine c_cond (x56 = a1) ha rfl (decide_eq_true_iff) (fun hp68 => ?_) (fun hp68 => ?_)
        · replace hF := if_t hp68 hF
          refine wp_seq ?_; refine wp_region_lit ?_; refine op_g ha rfl (g_assign rfl) ?_; clear ha a; intro a ha; refine wpList_nil ?_; replace ha := ha.sub (σ' := [(4, (.bool true))]) ⟨rfl, trivial⟩; refine e_then ?_; refine wp_ret ?_; refine e_blk_ret ?_; refine e_then_ret ?_; refine e_lq_ret ?_; refine e_then_ret ?_; obtain rfl := Option.some.inj hF
          have e69 := LK_inr hN52; subst e69
          have e70 := BK_inr hK48; subst e70
          exact f_ret1 ha rfl rfl ⟨rfl, hE25⟩
        replace hF := if_f hp68 hF; refine wp_skip ?_; refine e_blk ?_; refine e_then ?_; refine wp_region_lit ?_; refine op_g ha rfl (g_move rfl) ?_; clear ha a; intro a ha; obtain ⟨hI71, hF⟩ := ck_some hF; refine op_g ha rfl (g_add rfl rfl hI71) ?_; clear ha a; intro a ha; refine op_g ha rfl (g_assign rfl) ?_; clear ha a; intro a ha; refine wpList_nil ?_; replace ha := ha.sub (σ' := [(0, va0), (1, (.int .i64 a1)), (5, (.int .i64 (i23 + 1)))]) ⟨rfl, rfl, rfl, trivial⟩; refine e_lq ?_; obtain rfl := Option.some.inj hF
        exact ⟨_, Nat.lt_succ_self _, i23 + 1, ha.sub ⟨rfl, rfl, rfl, trivial⟩, hE25, hI71, hN52⟩
      replace hF := if_f hp55 hF; refine wp_exit ?_; refine e_then_exit ?_; refine e_lq_eq ?_; obtain rfl := Option.some.inj hF
      exact ⟨ha.sub trivial, hE25, (LK_inr hN52).symm⟩
  rintro a w45 ⟨ha, hE51, rfl⟩
  have hF : F_spec_l1Has_k2 = some _ := hK48; clear hK48; unfold F_spec_l1Has_k2 at hF
  refine e_then ?_; refine wp_seq ?_; refine wp_region_lit ?_; refine op_g ha rfl (g_assign rfl) ?_; clear ha a; intro a ha; refine wpList_nil ?_; refine e_then ?_; refine wp_ret ?_; obtain rfl := Option.some.inj hF
  exact f_ret1 ha rfl rfl ⟨rfl, hE51⟩
set_option maxHeartbeats 2000000 in
theorem W_spec_GraphOk {W : World} {va0_0 : Value} {fa0_0 : List Nat} {a0_0 : (List (List Int))} (ha0_0 : Ro (Rp.sl 2 Rp.int) W fa0_0 va0_0 a0_0) {r : Bool} (hF : F_spec_GraphOk a0_0 = some r) :
    Calls Try.prog 14 [.agg #[va0_0]].toArray W (Ret fun u w' => u = .bool r ∧ Ext W w') := by
  refine f_enter Try.func14 rfl Try.ntmps14 rfl ?_
  intro a ha
  replace ha : Fr 64 [(0, (.agg #[va0_0]))] a := ha
  have hE : Chg [] W W := Chg.refl _ _
  unfold F_spec_GraphOk at hF
  refine wp_seq ?_; refine wp_region_lit ?_
  refine o_box ha rfl rfl rfl ?_; clear ha a; intro b1 w2 hB3 hx4 hlo5 a ha
  have q6 := Zn.one hlo5
  have q7 := Zn.upD q6 hE
  have hE8 := Ext.trans hE hx4
  refine op_g ha rfl (g_assign rfl) ?_; clear ha a; intro a ha; refine wpList_nil ?_; replace ha := ha.sub (σ' := [(1, (.pointer (some ⟨b1, 0, none⟩)))]) ⟨rfl, trivial⟩; refine e_then ?_; refine wp_seq ?_; refine wp_region_lit ?_; refine op_g ha rfl (g_loadA (cs := [va0_0]) Try.isAgg31 Try.sizeOf31 rfl (by simp) hB3.all) ?_; clear ha a; intro a ha; obtain ⟨x9, hc10, hF⟩ := cal_some hF
  refine o_call ha rfl rfl Try.call30 (W_spec_l1Size (ha0_0.ext hE8) hc10) ?_; clear ha a; rintro v11 w12 ⟨⟨rfl, hI14⟩, hx13⟩ a ha
  replace hB3 := hB3.ext hx13
  have hE15 := Ext.trans hE8 hx13
  refine op_g ha rfl (g_assign rfl) ?_; clear ha a; intro a ha; refine wpList_nil ?_; replace ha := ha.sub (σ' := [(1, (.pointer (some ⟨b1, 0, none⟩))), (3, (.int .i64 x9))]) ⟨rfl, rfl, trivial⟩; refine e_then ?_; refine wp_seq ?_; refine wp_seq ?_; refine wp_region_lit ?_; refine op_g ha rfl (g_move rfl) ?_; clear ha a; intro a ha; obtain ⟨x16, hc17, hF⟩ := cal_some hF
  refine o_call ha rfl rfl Try.call31 (W_spec_l1In hI14 (show InI 1 from by decide) (show InI 16 from by decide) hc17) ?_; clear ha a; rintro v18 w19 ⟨rfl, hx20⟩ a ha
  replace hB3 := hB3.ext hx20
  have hE21 := Ext.trans hE15 hx20
  refine op_g ha rfl (g_not rfl) ?_; clear ha a; intro a ha; refine wpList_nil ?_; replace ha := ha.sub (σ' := [(1, (.pointer (some ⟨b1, 0, none⟩))), (3, (.int .i64 x9)), (11, (.bool (!x16)))]) ⟨rfl, rfl, rfl, trivial⟩; refine e_then ?_; refine c_cond (¬ (x16 = true)) ha rfl (n_iff (Iff.rfl)) (fun hp22 => ?_) (fun hp22 => ?_)
  · replace hF := if_t hp22 hF
    refine wp_seq ?_; refine wp_region_lit ?_; refine op_g ha rfl (g_assign rfl) ?_; clear ha a; intro a ha; refine wpList_nil ?_; replace ha := ha.sub (σ' := [(2, (.bool false))]) ⟨rfl, trivial⟩; refine e_then ?_; refine wp_ret ?_; refine e_then_ret ?_; obtain rfl := Option.some.inj hF
    exact f_ret1 ha rfl rfl ⟨rfl, hE21⟩
  replace hF := if_f hp22 hF; refine wp_skip ?_; refine e_then ?_; refine wp_seq ?_; refine wp_seq ?_; refine wp_region_lit ?_; refine op_g ha rfl (g_assign rfl) ?_; clear ha a; intro a ha; refine wpList_nil ?_; replace ha := ha.sub (σ' := [(1, (.pointer (some ⟨b1, 0, none⟩))), (3, (.int .i64 x9)), (4, (.int .i64 0))]) ⟨rfl, rfl, rfl, trivial⟩; refine e_then ?_; obtain ⟨o136, ho137, hK138⟩ := bnd_some hF
  obtain ⟨n139, hn140⟩ := lp_some ho137; clear ho137
  refine c_loop (fun a w => Fr 64 [(1, (.pointer (some ⟨b1, 0, none⟩))), (3, (.int .i64 x9))] a ∧ Chg [] W w ∧ Bx w b1 [va0_0] 31 ∧ Zn W (b1 : Int) ∧ o136 = .inl ()) (fun n a w => ∃ (i80 : Int), Fr 64 [(1, (.pointer (some ⟨b1, 0, none⟩))), (3, (.int .i64 x9)), (4, (.int .i64 i80))] a ∧ Chg [] W w ∧ InI i80 ∧ Bx w b1 [va0_0] 31 ∧ Zn W (b1 : Int) ∧ lpN (fun s => F_spec_GraphOk_l1 a0_0 x9 s) n i80 = some o136) n139 ⟨0, ha.sub ⟨rfl, rfl, rfl, trivial⟩, hE21, (show InI 0 from by decide), hB3, q7, hn140⟩ ?_ ?_
  · rintro m144 a w77 ⟨i80, ha, hE82, hI81, hB78, z79, hF⟩
    cases m144 with
    | zero => exact (lpN_zero hF).elim
    | succ m144 =>
      obtain ⟨z143, hF, hN142⟩ := lpN_succ hF
      have hF : F_spec_GraphOk_l1 a0_0 x9 i80 = some z143 := hF; unfold F_spec_GraphOk_l1 at hF
      refine wp_seq ?_; refine wp_seq ?_; refine wp_region_lit ?_; (iterate 2 refine op_g ha rfl (g_move rfl) ?_; clear ha a; intro a ha); refine op_g ha rfl (g_lss rfl rfl) ?_; clear ha a; intro a ha; refine wpList_nil ?_; replace ha := ha.sub (σ' := [(1, (.pointer (some ⟨b1, 0, none⟩))), (3, (.int .i64 x9)), (4, (.int .i64 i80)), (14, (.bool (decide (i80 < x9))))]) ⟨rfl, rfl, rfl, rfl, trivial⟩; refine e_then ?_; refine c_cond (i80 < x9) ha rfl (decide_eq_true_iff) (fun hp145 => ?_) (fun hp145 => ?_)
      · replace hF := if_t hp145 hF
        refine wp_skip ?_; refine e_then ?_; refine wp_seq ?_; refine wp_block ?_; refine wp_seq ?_; refine wp_region_lit ?_; refine op_g ha rfl (g_field0 st31_0 rfl) ?_; clear ha a; intro a ha; refine op_g ha rfl (g_load Try.isAgg22 rfl (hB78.cell rfl)) ?_; clear ha a; intro a ha; refine op_g ha rfl (g_move rfl) ?_; clear ha a; intro a ha; obtain ⟨x146, g147, gx148, hF⟩ := idx_some hF
        obtain ⟨p149, cs150, f151, hf152, hpb153, hat154, hr155, hi156⟩ := ha0_0.at g147 gx148
        obtain ⟨v157, rfl, h158⟩ := hr155
        have h158 : Ro Rp.int W f151 v157 x146 := h158
        refine op_g ha rfl (hi156.gives sl22 rfl rfl) ?_; clear ha a; intro a ha; refine op_g ha rfl (g_load0 hE82 Try.isAgg25 rfl hat154.one) ?_; clear ha a; intro a ha; refine op_g ha rfl (g_move rfl) ?_; clear ha a; intro a ha; obtain ⟨x160, hc161, hF⟩ := cal_some hF
        refine o_call ha rfl rfl Try.call32 (W_spec_l1Set (h158.ext hE82) hI14 hc161) ?_; clear ha a; rintro v162 w163 ⟨rfl, hx164⟩ a ha
        replace hB78 := hB78.ext hx164
        have hE165 := Ext.trans hE82 hx164
        refine op_g ha rfl (g_not rfl) ?_; clear ha a; intro a ha; refine op_g ha rfl (g_move rfl) ?_; clear ha a; intro a ha
        by_cases hp166 : ¬ (x160 = true)
        · replace hF := if_t hp166 hF
          rw [show (!x160) = true from (n_iff (Iff.rfl)).2 hp166] at ha
          (iterate 7 refine op_unwant ha rfl (yields ha rfl rfl) rfl ?_; clear ha a; intro a ha); refine op_g ha rfl (g_pick rfl rfl) ?_; clear ha a; intro a ha; refine wpList_nil ?_; replace ha := ha.sub (σ' := [(1, (.pointer (some ⟨b1, 0, none⟩))), (3, (.int .i64 x9)), (4, (.int .i64 i80)), (33, (.bool true))]) ⟨rfl, rfl, rfl, rfl, trivial⟩; refine e_then ?_; refine c_true ha rfl ?_; refine wp_seq ?_; refine wp_region_lit ?_; refine op_g ha rfl (g_assign rfl) ?_; clear ha a; intro a ha; refine wpList_nil ?_; replace ha := ha.sub (σ' := [(2, (.bool false))]) ⟨rfl, trivial⟩; refine e_then ?_; refine wp_ret ?_
          refine e_blk_ret ?_; refine e_then_ret ?_; refine e_lq_ret ?_; refine e_then_ret ?_; obtain rfl := Option.some.inj hF
          have e167 := LK_inr hN142; subst e167
          have e168 := BK_inr hK138; subst e168
          exact f_ret1 ha rfl rfl ⟨rfl, hE165⟩
        replace hF := if_f hp166 hF
        rw [show (!x160) = false from b_false (n_iff (Iff.rfl)) hp166] at ha
        refine op_want (yields ha rfl rfl) ?_; refine op_g ha rfl (g_field0 st31_0 rfl) ?_; clear ha a; intro a ha; refine op_want (yields ha rfl rfl) ?_; refine op_g ha rfl (g_load Try.isAgg22 rfl (hB78.cell rfl)) ?_; clear ha a; intro a ha; refine op_want (yields ha rfl rfl) ?_; refine op_g ha rfl (g_move rfl) ?_; clear ha a; intro a ha; refine op_want (yields ha rfl rfl) ?_; obtain ⟨x169, g170, gx171, hF⟩ := idx_some hF
        obtain ⟨p172, cs173, f174, hf175, hpb176, hat177, hr178, hi179⟩ := ha0_0.at g170 gx171
        obtain ⟨v180, rfl, h181⟩ := hr178
        have h181 : Ro Rp.int W f174 v180 x169 := h181
        refine op_g ha rfl (hi179.gives sl22 rfl rfl) ?_; clear ha a; intro a ha; refine op_want (yields ha rfl rfl) ?_; refine op_g ha rfl (g_load0 hE165 Try.isAgg25 rfl hat177.one) ?_; clear ha a; intro a ha; refine op_want (yields ha rfl rfl) ?_; refine op_g ha rfl (g_move rfl) ?_; clear ha a; intro a ha; refine op_want (yields ha rfl rfl) ?_; obtain ⟨x183, hc184, hF⟩ := cal_some hF
        refine o_call ha rfl rfl Try.call33 (W_spec_l1Has (h181.ext hE165) hI81 hc184) ?_; clear ha a; rintro v185 w186 ⟨rfl, hx187⟩ a ha
        replace hB78 := hB78.ext hx187
        have hE188 := Ext.trans hE165 hx187
        refine op_g ha rfl (g_pick rfl rfl) ?_; clear ha a; intro a ha; refine wpList_nil ?_; replace ha := ha.sub (σ' := [(1, (.pointer (some ⟨b1, 0, none⟩))), (3, (.int .i64 x9)), (4, (.int .i64 i80)), (26, (.pointer (some ⟨b1, 0, none⟩))), (27, va0_0), (28, (.int .i64 i80)), (29, (.pointer (some p172))), (30, v180), (31, (.int .i64 i80)), (32, (.bool x183)), (33, (.bool x183))]) ⟨rfl, rfl, rfl, rfl, rfl, rfl, rfl, rfl, rfl, rfl, rfl, trivial⟩; refine e_then ?_; refine c_cond (x183 = true) ha rfl (Iff.rfl) (fun hp189 => ?_) (fun hp189 => ?_)
        · replace hF := if_t hp189 hF
          refine wp_seq ?_; refine wp_region_lit ?_; refine op_g ha rfl (g_assign rfl) ?_; clear ha a; intro a ha; refine wpList_nil ?_; replace ha := ha.sub (σ' := [(2, (.bool false))]) ⟨rfl, trivial⟩; refine e_then ?_; refine wp_ret ?_; refine e_blk_ret ?_; refine e_then_ret ?_; refine e_lq_ret ?_; refine e_then_ret ?_; obtain rfl := Option.some.inj hF
          have e190 := LK_inr hN142; subst e190
          have e191 := BK_inr hK138; subst e191
          exact f_ret1 ha rfl rfl ⟨rfl, hE188⟩
        replace hF := if_f hp189 hF; refine wp_skip ?_; refine e_blk ?_; refine e_then ?_; refine wp_region_lit ?_; refine op_g ha rfl (g_move rfl) ?_; clear ha a; intro a ha; obtain ⟨hI192, hF⟩ := ck_some hF; refine op_g ha rfl (g_add rfl rfl hI192) ?_; clear ha a; intro a ha; refine op_g ha rfl (g_assign rfl) ?_; clear ha a; intro a ha; refine wpList_nil ?_; replace ha := ha.sub (σ' := [(1, (.pointer (some ⟨b1, 0, none⟩))), (3, (.int .i64 x9)), (4, (.int .i64 (i80 + 1))), (26, (.pointer (some ⟨b1, 0, none⟩))), (27, va0_0), (28, (.int .i64 i80)), (29, (.pointer (some p172))), (30, v180), (31, (.int .i64 i80)), (32, (.bool x183))]) ⟨rfl, rfl, rfl, rfl, rfl, rfl, rfl, rfl, rfl, rfl, trivial⟩
        refine e_lq ?_; obtain rfl := Option.some.inj hF
        exact ⟨_, Nat.lt_succ_self _, i80 + 1, ha.sub ⟨rfl, rfl, rfl, trivial⟩, hE188, hI192, hB78, z79, hN142⟩
      replace hF := if_f hp145 hF; refine wp_exit ?_; refine e_then_exit ?_; refine e_lq_eq ?_; obtain rfl := Option.some.inj hF
      exact ⟨ha.sub ⟨rfl, rfl, trivial⟩, hE82, hB78, z79, (LK_inr hN142).symm⟩
  rintro a w133 ⟨ha, hE141, hB134, z135, rfl⟩
  have hF : F_spec_GraphOk_k2 a0_0 x9 = some _ := hK138; clear hK138; unfold F_spec_GraphOk_k2 at hF
  refine e_then ?_; refine wp_seq ?_; refine wp_seq ?_; refine wp_region_lit ?_; refine op_g ha rfl (g_assign rfl) ?_; clear ha a; intro a ha; refine wpList_nil ?_; refine e_then ?_; obtain ⟨o675, ho676, hK677⟩ := bnd_some hF
  obtain ⟨n678, hn679⟩ := lp_some ho676; clear ho676
  refine c_loop (fun a w => Fr 64 [] a ∧ Chg [] W w ∧ o675 = .inl ()) (fun n a w => ∃ (i436 : Int), Fr 64 [(1, (.pointer (some ⟨b1, 0, none⟩))), (3, (.int .i64 x9)), (5, (.int .i64 i436))] a ∧ Chg [] W w ∧ InI i436 ∧ Bx w b1 [va0_0] 31 ∧ Zn W (b1 : Int) ∧ lpN (fun s => F_spec_GraphOk_l3 a0_0 x9 s) n i436 = some o675) n678 ⟨0, ha.sub ⟨rfl, rfl, rfl, trivial⟩, hE141, (show InI 0 from by decide), hB134, z135, hn679⟩ ?_ ?_
  · rintro m683 a w433 ⟨i436, ha, hE438, hI437, hB434, z435, hF⟩
    cases m683 with
    | zero => exact (lpN_zero hF).elim
    | succ m683 =>
      obtain ⟨z682, hF, hN681⟩ := lpN_succ hF
      have hF : F_spec_GraphOk_l3 a0_0 x9 i436 = some z682 := hF; unfold F_spec_GraphOk_l3 at hF
      refine wp_seq ?_; refine wp_seq ?_; refine wp_region_lit ?_; (iterate 2 refine op_g ha rfl (g_move rfl) ?_; clear ha a; intro a ha); refine op_g ha rfl (g_lss rfl rfl) ?_; clear ha a; intro a ha; refine wpList_nil ?_; replace ha := ha.sub (σ' := [(1, (.pointer (some ⟨b1, 0, none⟩))), (3, (.int .i64 x9)), (5, (.int .i64 i436)), (36, (.bool (decide (i436 < x9))))]) ⟨rfl, rfl, rfl, rfl, trivial⟩; refine e_then ?_; refine c_cond (i436 < x9) ha rfl (decide_eq_true_iff) (fun hp684 => ?_) (fun hp684 => ?_)
      · replace hF := if_t hp684 hF
        refine wp_skip ?_; refine e_then ?_; refine wp_seq ?_; refine wp_block ?_; refine wp_seq ?_; refine wp_region_lit ?_; refine op_g ha rfl (g_assign rfl) ?_; clear ha a; intro a ha; refine wpList_nil ?_; replace ha := ha.sub (σ' := [(1, (.pointer (some ⟨b1, 0, none⟩))), (3, (.int .i64 x9)), (5, (.int .i64 i436)), (6, (.int .i64 0))]) ⟨rfl, rfl, rfl, rfl, trivial⟩; refine e_then ?_; obtain ⟨o838, ho839, hK840⟩ := bnd_some hF
        obtain ⟨n841, hn842⟩ := lp_some ho839; clear ho839
        refine c_loop (fun a w => Fr 64 [(1, (.pointer (some ⟨b1, 0, none⟩))), (3, (.int .i64 x9)), (5, (.int .i64 i436))] a ∧ Chg [] W w ∧ Bx w b1 [va0_0] 31 ∧ Zn W (b1 : Int) ∧ o838 = .inl ()) (fun n a w => ∃ (i762 : Int), Fr 64 [(1, (.pointer (some ⟨b1, 0, none⟩))), (3, (.int .i64 x9)), (5, (.int .i64 i436)), (6, (.int .i64 i762))] a ∧ Chg [] W w ∧ InI i762 ∧ Bx w b1 [va0_0] 31 ∧ Zn W (b1 : Int) ∧ lpN (fun s => F_spec_GraphOk_l4 a0_0 i436 s) n i762 = some o838) n841 ⟨0, ha.sub ⟨rfl, rfl, rfl, rfl, trivial⟩, hE438, (show InI 0 from by decide), hB434, z435, hn842⟩ ?_ ?_
        · rintro m846 a w759 ⟨i762, ha, hE764, hI763, hB760, z761, hF⟩
          cases m846 with
          | zero => exact (lpN_zero hF).elim
          | succ m846 =>
            obtain ⟨z845, hF, hN844⟩ := lpN_succ hF
            have hF : F_spec_GraphOk_l4 a0_0 i436 i762 = some z845 := hF; unfold F_spec_GraphOk_l4 at hF
            refine wp_seq ?_; refine wp_seq ?_; refine wp_region_lit ?_; refine op_g ha rfl (g_move rfl) ?_; clear ha a; intro a ha; refine op_g ha rfl (g_field0 st31_0 rfl) ?_; clear ha a; intro a ha; refine op_g ha rfl (g_load Try.isAgg22 rfl (hB760.cell rfl)) ?_; clear ha a; intro a ha; refine op_g ha rfl (g_move rfl) ?_; clear ha a; intro a ha; obtain ⟨x847, g848, gx849, hF⟩ := idx_some hF
            obtain ⟨p850, cs851, f852, hf853, hpb854, hat855, hr856, hi857⟩ := ha0_0.at g848 gx849
            obtain ⟨v858, rfl, h859⟩ := hr856
            have h859 : Ro Rp.int W f852 v858 x847 := h859
            refine op_g ha rfl (hi857.gives sl22 rfl rfl) ?_; clear ha a; intro a ha; refine op_g ha rfl (g_load0 hE764 Try.isAgg25 rfl hat855.one) ?_; clear ha a; intro a ha; refine op_g ha rfl (g_lenR sl25.und h859 rfl) ?_; clear ha a; intro a ha; refine op_g ha rfl (g_lss rfl rfl) ?_; clear ha a; intro a ha; refine wpList_nil ?_; replace ha := ha.sub (σ' := [(1, (.pointer (some ⟨b1, 0, none⟩))), (3, (.int .i64 x9)), (5, (.int .i64 i436)), (6, (.int .i64 i762)), (46, (.bool (decide (i762 < (x847.length : Int)))))]) ⟨rfl, rfl, rfl, rfl, rfl, trivial⟩; refine e_then ?_; refine c_cond (i762 < (x847.length : Int)) ha rfl (decide_eq_true_iff) (fun hp861 => ?_) (fun hp861 => ?_)
            · replace hF := if_t hp861 hF
              refine wp_skip ?_; refine e_then ?_; refine wp_seq ?_; refine wp_block ?_; refine wp_seq ?_; refine d_quiet hmix (by kernel_rfl) ?_; refine q_g ha rfl (g_field0 st31_0 rfl) ?_; clear ha a; intro a ha; refine q_g ha rfl (g_load Try.isAgg22 rfl (hB760.cell rfl)) ?_; clear ha a; intro a ha; refine q_g ha rfl (g_field0 st31_0 rfl) ?_; clear ha a; intro a ha; refine q_g ha rfl (g_load Try.isAgg22 rfl (hB760.cell rfl)) ?_; clear ha a; intro a ha; refine q_g ha rfl (g_move rfl) ?_; clear ha a; intro a ha; obtain ⟨x862, g863, gx864, hF⟩ := idx_some hF
              obtain ⟨p865, cs866, f867, hf868, hpb869, hat870, hr871, hi872⟩ := ha0_0.at g863 gx864
              obtain ⟨v873, rfl, h874⟩ := hr871
              have h874 : Ro Rp.int W f867 v873 x862 := h874
              refine q_g ha rfl (hi872.gives sl22 rfl rfl) ?_; clear ha a; intro a ha; refine q_g ha rfl (g_load0 hE764 Try.isAgg25 rfl hat870.one) ?_; clear ha a; intro a ha; refine q_g ha rfl (g_move rfl) ?_; clear ha a; intro a ha; obtain ⟨x876, g877, gx878, hF⟩ := idx_some hF
              obtain ⟨p879, cs880, f881, hf882, hpb883, hat884, hr885, hi886⟩ := h874.at g877 gx878
              obtain ⟨rfl, hI887, rfl⟩ := hr885
              refine q_g ha rfl (hi886.gives sl25 rfl rfl) ?_; clear ha a; intro a ha; refine q_g ha rfl (g_load0 hE764 Try.isAgg2 rfl hat884.one) ?_; clear ha a; intro a ha; obtain ⟨x888, g889, gx890, hF⟩ := idx_some hF
              obtain ⟨p891, cs892, f893, hf894, hpb895, hat896, hr897, hi898⟩ := ha0_0.at g889 gx890
              obtain ⟨v899, rfl, h900⟩ := hr897
              have h900 : Ro Rp.int W f893 v899 x888 := h900
              refine q_g ha rfl (hi898.gives sl22 rfl rfl) ?_; clear ha a; intro a ha; refine q_g ha rfl (g_load0 hE764 Try.isAgg25 rfl hat896.one) ?_; clear ha a; intro a ha; refine q_g ha rfl (g_move rfl) ?_; clear ha a; intro a ha; obtain ⟨x904, hc905, hF⟩ := cal_some hF; refine q_call (.bool x904) ha rfl rfl Try.call33 (fun w903 hx902 => W_spec_l1Has (h900.ext (Ext.trans hE764 hx902)) hI437 hc905) (fun _ _ _ h => ⟨h.1, h.2⟩) ?_; clear ha a; intro a ha; refine q_g ha rfl (g_not rfl) ?_; clear ha a; intro a ha
              refine q_nil ?_; intro w906 hx907
              replace hB760 := hB760.ext hx907
              have hE908 := Ext.trans hE764 hx907
              replace ha := ha.sub (σ' := [(1, (.pointer (some ⟨b1, 0, none⟩))), (3, (.int .i64 x9)), (5, (.int .i64 i436)), (6, (.int .i64 i762)), (63, (.bool (!x904)))]) ⟨rfl, rfl, rfl, rfl, rfl, trivial⟩; refine e_then ?_; refine c_cond (¬ (x904 = true)) ha rfl (n_iff (Iff.rfl)) (fun hp909 => ?_) (fun hp909 => ?_)
              · replace hF := if_t hp909 hF
                refine wp_seq ?_; refine wp_region_lit ?_; refine op_g ha rfl (g_assign rfl) ?_; clear ha a; intro a ha; refine wpList_nil ?_; replace ha := ha.sub (σ' := [(2, (.bool false))]) ⟨rfl, trivial⟩; refine e_then ?_; refine wp_ret ?_; refine e_blk_ret ?_; refine e_then_ret ?_; refine e_lq_ret ?_; refine e_blk_ret ?_; refine e_then_ret ?_; refine e_lq_ret ?_; refine e_then_ret ?_; obtain rfl := Option.some.inj hF
                have e910 := LK_inr hN844; subst e910
                have e911 := BK_inr hK840; subst e911
                have e912 := LK_inr hN681; subst e912
                have e913 := BK_inr hK677; subst e913
                exact f_ret1 ha rfl rfl ⟨rfl, hE908⟩
              replace hF := if_f hp909 hF; refine wp_skip ?_; refine e_blk ?_; refine e_then ?_; refine wp_region_lit ?_; refine op_g ha rfl (g_move rfl) ?_; clear ha a; intro a ha; obtain ⟨hI914, hF⟩ := ck_some hF; refine op_g ha rfl (g_add rfl rfl hI914) ?_; clear ha a; intro a ha; refine op_g ha rfl (g_assign rfl) ?_; clear ha a; intro a ha; refine wpList_nil ?_; replace ha := ha.sub (σ' := [(1, (.pointer (some ⟨b1, 0, none⟩))), (3, (.int .i64 x9)), (5, (.int .i64 i436)), (6, (.int .i64 (i762 + 1)))]) ⟨rfl, rfl, rfl, rfl, trivial⟩; refine e_lq ?_; obtain rfl := Option.some.inj hF
              exact ⟨_, Nat.lt_succ_self _, i762 + 1, ha.sub ⟨rfl, rfl, rfl, rfl, trivial⟩, hE908, hI914, hB760, z761, hN844⟩
            replace hF := if_f hp861 hF; refine wp_exit ?_; refine e_then_exit ?_; refine e_lq_eq ?_; obtain rfl := Option.some.inj hF
            exact ⟨ha.sub ⟨rfl, rfl, rfl, trivial⟩, hE764, hB760, z761, (LK_inr hN844).symm⟩
        rintro a w835 ⟨ha, hE843, hB836, z837, rfl⟩
        have hF : F_spec_GraphOk_k5 i436 = some _ := hK840; clear hK840; unfold F_spec_GraphOk_k5 at hF
        refine e_blk ?_; refine e_then ?_; refine wp_region_lit ?_; refine op_g ha rfl (g_move rfl) ?_; clear ha a; intro a ha; obtain ⟨hI916, hF⟩ := ck_some hF; refine op_g ha rfl (g_add rfl rfl hI916) ?_; clear ha a; intro a ha; refine op_g ha rfl (g_assign rfl) ?_; clear ha a; intro a ha; refine wpList_nil ?_; replace ha := ha.sub (σ' := [(1, (.pointer (some ⟨b1, 0, none⟩))), (3, (.int .i64 x9)), (5, (.int .i64 (i436 + 1)))]) ⟨rfl, rfl, rfl, trivial⟩; refine e_lq ?_; obtain rfl := Option.some.inj hF
        exact ⟨_, Nat.lt_succ_self _, i436 + 1, ha.sub ⟨rfl, rfl, rfl, trivial⟩, hE843, hI916, hB836, z837, hN681⟩
      replace hF := if_f hp684 hF; refine wp_exit ?_; refine e_then_exit ?_; refine e_lq_eq ?_; obtain rfl := Option.some.inj hF
      exact ⟨ha.sub trivial, hE438, (LK_inr hN681).symm⟩
  rintro a w674 ⟨ha, hE680, rfl⟩
  have hF : F_spec_GraphOk_k6 = some _ := hK677; clear hK677; unfold F_spec_GraphOk_k6 at hF
  refine e_then ?_; refine wp_seq ?_; refine wp_region_lit ?_; refine op_g ha rfl (g_assign rfl) ?_; clear ha a; intro a ha; refine wpList_nil ?_; refine e_then ?_; refine wp_ret ?_; obtain rfl := Option.some.inj hF
  exact f_ret1 ha rfl rfl ⟨rfl, hE680⟩
set_option maxHeartbeats 2000000 in
theorem W_spec_l1Copy {W : World} {va0 : Value} {fa0 : List Nat} {a0 : (List Int)} (ha0 : Ro Rp.int W fa0 va0 a0) {r : (List Int)} (hF : F_spec_l1Copy a0 = some r) :
    Calls Try.prog 49 [va0].toArray W (Ret fun u w' => ∃ (b_u : Int), Ow Rp.int 2 true w' [] b_u u r ∧ Zn W b_u ∧ Ext W w') := by
  refine f_enter Try.func49 rfl Try.ntmps49 rfl ?_
  intro a ha
  replace ha : Fr 6 [(0, va0)] a := ha
  have hE : Chg [] W W := Chg.refl _ _
  unfold F_spec_l1Copy at hF
  refine wp_seq ?_; refine wp_region_lit ?_; refine op_g ha rfl (g_assign rfl) ?_; clear ha a; intro a ha; refine wpList_nil ?_; replace ha := ha.sub (σ' := [(0, va0)]) ⟨rfl, trivial⟩; refine e_then ?_; refine wp_seq ?_; refine wp_region_lit ?_
  refine o_lit0 Rp.int ha rfl sl25 ?_; clear ha a; intro v1 w2 h3 hx4 a ha
  obtain ⟨b6, hb6⟩ : ∃ b : Int, b = W.heap.size := ⟨_, rfl⟩; rw [← hb6] at h3
  have q7 := zn_of hb6
  have q8 := Zn.upD q7 hE
  have hE9 := Ext.trans hE hx4
  refine op_g ha rfl (g_move rfl) ?_; clear ha a; intro a ha; obtain ⟨hl10, hF⟩ := app_some hF
  obtain ⟨_, hs11, _⟩ := (ha0.ext hE9).src
  refine o_append ha rfl sl25 rfl rfl rfl h3 (hs11.up scal_int) (Nq.nil _) hl10 ?_; clear ha a; intro v12 w13 b14 h15 hc16 hb17 a ha
  replace h15 : Ow Rp.int 2 true w13 [] b14 v12 _ := h15
  have q19 := Zn.appD q8 hb17 hE9
  have hE20 := Ext.then hE9 hc16 (Zn.bl q8)
  refine op_g ha rfl (g_assign rfl) ?_; clear ha a; intro a ha; refine wpList_nil ?_; replace ha := ha.sub (σ' := [(2, v12)]) ⟨rfl, trivial⟩; refine e_then ?_; refine wp_ret ?_; obtain rfl := Option.some.inj hF
  exact f_ret1 ha rfl rfl ⟨_, h15, q19, hE20⟩
set_option maxHeartbeats 2000000 in
theorem W_spec_l1Into {W : World} {va0 : Value} {fa0 : List Nat} {a0 : (List Int)} (ha0 : Ro Rp.int W fa0 va0 a0) {a1 : Int} (ha1 : InI a1) {r : (List Int)} (hF : F_spec_l1Into a0 a1 = some r) :
    Calls Try.prog 46 [va0, .int .i64 a1].toArray W (Ret fun u w' => ∃ (fp_u : List Nat), Ro Rp.int w' fp_u u r ∧ Pv (fa0) W.heap.size fp_u ∧ Ext W w') := by
  refine f_enter Try.func46 rfl Try.ntmps46 rfl ?_
  intro a ha
  replace ha : Fr 46 [(0, va0), (1, (.int .i64 a1))] a := ha
  have hE : Chg [] W W := Chg.refl _ _
  unfold F_spec_l1Into at hF
  refine wp_seq ?_; refine wp_region_lit ?_; refine op_g ha rfl (g_assign rfl) ?_; clear ha a; intro a ha; refine wpList_nil ?_; replace ha := ha.sub (σ' := [(0, va0), (1, (.int .i64 a1))]) ⟨rfl, rfl, trivial⟩; refine e_then ?_; refine wp_seq ?_; refine wp_region_lit ?_; refine op_g ha rfl (g_assign rfl) ?_; clear ha a; intro a ha; refine wpList_nil ?_; refine e_then ?_; refine wp_seq ?_; obtain ⟨o48, ho49, hK50⟩ := bnd_some hF
  obtain ⟨n51, hn52⟩ := lp_some ho49; clear ho49
  refine c_loop (fun a w => ∃ (i46 : Int), Fr 46 [(0, va0), (1, (.int .i64 a1)), (5, (.int .i64 i46))] a ∧ Chg [] W w ∧ InI i46 ∧ o48 = .inl i46) (fun n a w => ∃ (i23 : Int), Fr 46 [(0, va0), (1, (.int .i64 a1)), (5, (.int .i64 i23))] a ∧ Chg [] W w ∧ InI i23 ∧ lpN (fun s => F_spec_l1Into_l1 a0 a1 s) n i23 = some o48) n51 ⟨0, ha.sub ⟨rfl, rfl, rfl, trivial⟩, hE, (show InI 0 from by decide), hn52⟩ ?_ ?_
  · rintro m56 a w22 ⟨i23, ha, hE25, hI24, hF⟩
    cases m56 with
    | zero => exact (lpN_zero hF).elim
    | succ m56 =>
      obtain ⟨z55, hF, hN54⟩ := lpN_succ hF
      have hF : F_spec_l1Into_l1 a0 a1 i23 = some z55 := hF; unfold F_spec_l1Into_l1 at hF
      refine wp_seq ?_; refine wp_seq ?_; refine wp_region_lit ?_; (iterate 2 refine op_g ha rfl (g_move rfl) ?_; clear ha a; intro a ha); refine op_g ha rfl (g_lenR sl25.und ha0 rfl) ?_; clear ha a; intro a ha; refine op_g ha rfl (g_lss rfl rfl) ?_; clear ha a; intro a ha; refine op_g ha rfl (g_move rfl) ?_; clear ha a; intro a ha
      by_cases hp57 : i23 < (a0.length : Int)
      · replace hF := if_t hp57 hF
        rw [show (decide (i23 < (a0.length : Int))) = true from (decide_eq_true_iff).2 hp57] at ha
        refine op_want (yields ha rfl rfl) ?_; refine op_g ha rfl (g_move rfl) ?_; clear ha a; intro a ha; refine op_want (yields ha rfl rfl) ?_; refine op_g ha rfl (g_move rfl) ?_; clear ha a; intro a ha; refine op_want (yields ha rfl rfl) ?_; obtain ⟨x58, g59, gx60, hF⟩ := idx_some hF
        obtain ⟨p61, cs62, f63, hf64, hpb65, hat66, hr67, hi68⟩ := ha0.at g59 gx60
        obtain ⟨rfl, hI69, rfl⟩ := hr67
        refine op_g ha rfl (hi68.gives sl25 rfl rfl) ?_; clear ha a; intro a ha; refine op_want (yields ha rfl rfl) ?_; refine op_g ha rfl (g_load0 hE25 Try.isAgg2 rfl hat66.one) ?_; clear ha a; intro a ha; refine op_want (yields ha rfl rfl) ?_; refine op_g ha rfl (g_move rfl) ?_; clear ha a; intro a ha; refine op_want (yields ha rfl rfl) ?_; refine op_g ha rfl (g_lss rfl rfl) ?_; clear ha a; intro a ha; refine op_g ha rfl (g_pick rfl rfl) ?_; clear ha a; intro a ha; refine wpList_nil ?_; replace ha := ha.sub (σ' := [(0, va0), (1, (.int .i64 a1)), (5, (.int .i64 i23)), (12, va0), (13, (.int .i64 i23)), (14, (.pointer (some p61))), (15, (.int .i64 x58)), (16, (.int .i64 a1)), (17, (.bool (decide (x58 < a1)))), (18, (.bool (decide (x58 < a1))))]) ⟨rfl, rfl, rfl, rfl, rfl, rfl, rfl, rfl, rfl, rfl, trivial⟩
        refine e_then ?_; refine c_cond (x58 < a1) ha rfl (decide_eq_true_iff) (fun hp70 => ?_) (fun hp70 => ?_)
        · replace hF := if_t hp70 hF
          refine wp_skip ?_; refine e_then ?_; refine wp_block ?_; refine wp_region_lit ?_; refine op_g ha rfl (g_move rfl) ?_; clear ha a; intro a ha; obtain ⟨hI71, hF⟩ := ck_some hF; refine op_g ha rfl (g_add rfl rfl hI71) ?_; clear ha a; intro a ha; refine op_g ha rfl (g_assign rfl) ?_; clear ha a; intro a ha; refine wpList_nil ?_; replace ha := ha.sub (σ' := [(0, va0), (1, (.int .i64 a1)), (5, (.int .i64 (i23 + 1))), (12, va0), (13, (.int .i64 i23)), (14, (.pointer (some p61))), (15, (.int .i64 x58)), (16, (.int .i64 a1)), (17, (.bool (decide (x58 < a1))))]) ⟨rfl, rfl, rfl, rfl, rfl, rfl, rfl, rfl, rfl, trivial⟩
          refine e_blk ?_; refine e_lq ?_; obtain rfl := Option.some.inj hF
          exact ⟨_, Nat.lt_succ_self _, i23 + 1, ha.sub ⟨rfl, rfl, rfl, trivial⟩, hE25, hI71, hN54⟩
        replace hF := if_f hp70 hF; refine wp_exit ?_; refine e_then_exit ?_; refine e_lq_eq ?_; obtain rfl := Option.some.inj hF
        exact ⟨i23, ha.sub ⟨rfl, rfl, rfl, trivial⟩, hE25, hI24, (LK_inr hN54).symm⟩
      replace hF := if_f hp57 hF
      rw [show (decide (i23 < (a0.length : Int))) = false from b_false (decide_eq_true_iff) hp57] at ha
      (iterate 6 refine op_unwant ha rfl (yields ha rfl rfl) rfl ?_; clear ha a; intro a ha); refine op_g ha rfl (g_pick rfl rfl) ?_; clear ha a; intro a ha; refine wpList_nil ?_; replace ha := ha.sub (σ' := [(0, va0), (1, (.int .i64 a1)), (5, (.int .i64 i23)), (18, (.bool false))]) ⟨rfl, rfl, rfl, rfl, trivial⟩; refine e_then ?_; refine c_false ha rfl ?_; refine wp_exit ?_; refine e_then_exit ?_; refine e_lq_eq ?_; obtain rfl := Option.some.inj hF
      exact ⟨i23, ha.sub ⟨rfl, rfl, rfl, trivial⟩, hE25, hI24, (LK_inr hN54).symm⟩
  rintro a w45 ⟨i46, ha, hE53, hI47, rfl⟩
  have hF : F_spec_l1Into_k2 a0 a1 i46 = some _ := hK50; clear hK50; unfold F_spec_l1Into_k2 at hF
  refine e_then ?_; refine wp_seq ?_; refine wp_seq ?_; refine wp_region_lit ?_; (iterate 2 refine op_g ha rfl (g_move rfl) ?_; clear ha a; intro a ha); refine op_g ha rfl (g_lenR sl25.und ha0 rfl) ?_; clear ha a; intro a ha; refine op_g ha rfl (g_lss rfl rfl) ?_; clear ha a; intro a ha; refine op_g ha rfl (g_move rfl) ?_; clear ha a; intro a ha
  by_cases hp73 : i46 < (a0.length : Int)
  · replace hF := if_t hp73 hF
    rw [show (decide (i46 < (a0.length : Int))) = true from (decide_eq_true_iff).2 hp73] at ha
    refine op_want (yields ha rfl rfl) ?_; refine op_g ha rfl (g_move rfl) ?_; clear ha a; intro a ha; refine op_want (yields ha rfl rfl) ?_; refine op_g ha rfl (g_move rfl) ?_; clear ha a; intro a ha; refine op_want (yields ha rfl rfl) ?_; obtain ⟨x74, g75, gx76, hF⟩ := idx_some hF
    obtain ⟨p77, cs78, f79, hf80, hpb81, hat82, hr83, hi84⟩ := ha0.at g75 gx76
    obtain ⟨rfl, hI85, rfl⟩ := hr83
    refine op_g ha rfl (hi84.gives sl25 rfl rfl) ?_; clear ha a; intro a ha; refine op_want (yields ha rfl rfl) ?_; refine op_g ha rfl (g_load0 hE53 Try.isAgg2 rfl hat82.one) ?_; clear ha a; intro a ha; refine op_want (yields ha rfl rfl) ?_; refine op_g ha rfl (g_move rfl) ?_; clear ha a; intro a ha; refine op_want (yields ha rfl rfl) ?_; refine op_g ha rfl (g_eql rfl rfl) ?_; clear ha a; intro a ha; refine op_g ha rfl (g_pick rfl rfl) ?_; clear ha a; intro a ha; refine wpList_nil ?_; replace ha := ha.sub (σ' := [(0, va0), (1, (.int .i64 a1)), (5, (.int .i64 i46)), (32, (.bool (decide (x74 = a1))))]) ⟨rfl, rfl, rfl, rfl, trivial⟩
    refine e_then ?_; refine c_cond (x74 = a1) ha rfl (decide_eq_true_iff) (fun hp86 => ?_) (fun hp86 => ?_)
    · replace hF := if_t hp86 hF
      refine wp_seq ?_; refine wp_region_lit ?_; refine op_g ha rfl (g_move rfl) ?_; clear ha a; intro a ha; refine op_g ha rfl (g_assign rfl) ?_; clear ha a; intro a ha; refine wpList_nil ?_; replace ha := ha.sub (σ' := [(4, va0)]) ⟨rfl, trivial⟩; refine e_then ?_; refine wp_ret ?_; refine e_then_ret ?_; obtain rfl := Option.some.inj hF
      exact f_ret1 ha rfl rfl ⟨_, (ha0.ext hE53), (Pv.par (fun _ h => h)), hE53⟩
    replace hF := if_f hp86 hF; refine wp_skip ?_; refine e_then ?_; refine wp_seq ?_; refine wp_region_lit ?_; (iterate 2 refine op_g ha rfl (g_move rfl) ?_; clear ha a; intro a ha); obtain ⟨hb87a, hb87b, hb87c, hF⟩ := slc_some hF
    obtain ⟨v88, fp89, hrun90, hro91, hsub92⟩ := ha0.slice (lo := none) (hi := (some (.int .i64 i46))) (i := 0) (j := i46) sl25 (.inl ⟨rfl, rfl⟩) (.inr ⟨_, rfl⟩) ⟨hb87a, hb87b, hb87c⟩
    have q94 := (Pv.mono (Pv.par (fun _ h => h)) hsub92 : Pv (fa0) W.heap.size fp89)
    refine op_g ha rfl (g_slice sl25.und rfl rfl rfl hrun90) ?_; clear ha a; intro a ha; obtain ⟨x95, hc96, hF⟩ := cal_some hF
    refine o_call ha rfl rfl Try.call49 (W_spec_l1Copy (hro91.ext hE53) hc96) ?_; clear ha a; rintro v97 w98 ⟨b100, h101, z102, hx99⟩ a ha
    have hE104 := Ext.trans hE53 hx99
    have q105 := Zn.upD z102 hE53
    refine op_g ha rfl (g_move rfl) ?_; clear ha a; intro a ha
    refine o_lit1 (o := true) (y := a1) Rp.int ha rfl sl25 rfl rfl rfl ⟨rfl, ha1, rfl⟩ ?_; clear ha a; intro v106 w107 h108 hx109 a ha
    obtain ⟨b111, hb111⟩ : ∃ b : Int, b = w98.heap.size := ⟨_, rfl⟩; rw [← hb111] at h108
    have q112 := zn_of hb111
    have q113 := Nq.new h101.fpb q112
    have q114 := Nq.madeO q112 h101.blt
    have q115 := Zn.upD q112 hE104
    replace h101 := h101.ext hx109
    have hE116 := Ext.trans hE104 hx109
    obtain ⟨hl117, hF⟩ := app_some hF
    refine o_append ha rfl sl25 rfl rfl rfl h101 h108.src (Nq.nil _) hl117 ?_; clear ha a; intro v118 w119 b120 h121 hc122 hb123 a ha
    replace h121 : Ow Rp.int 2 true w119 [] b120 v118 _ := h121
    have q125 := Nq.appY q114 h108.fpb hb123
    have q126 := Nq.appX q113 (Nq.nil _) hb123 h108.blt
    have q127 := Zn.appD q105 hb123 hE116
    replace h108 := h108.nq hc122 q114
    have hE128 := Ext.then hE116 hc122 (Zn.bl q105)
    refine op_g ha rfl (g_assign rfl) ?_; clear ha a; intro a ha; refine wpList_nil ?_; replace ha := ha.sub (σ' := [(0, va0), (5, (.int .i64 i46)), (6, v118)]) ⟨rfl, rfl, rfl, trivial⟩; refine e_then ?_; refine wp_seq ?_; refine wp_region_lit ?_; (iterate 3 refine op_g ha rfl (g_move rfl) ?_; clear ha a; intro a ha); obtain ⟨hb129a, hb129b, hb129c, hF⟩ := slc_some hF
    obtain ⟨v130, fp131, hrun132, hro133, hsub134⟩ := ha0.slice (lo := (some (.int .i64 i46))) (hi := none) (i := i46) (j := (a0.length : Int)) sl25 (.inr ⟨_, rfl⟩) (.inl ⟨rfl, rfl⟩) ⟨hb129a, hb129b, hb129c⟩
    have q136 := (Pv.mono (Pv.par (fun _ h => h)) hsub134 : Pv (fa0) W.heap.size fp131)
    refine op_g ha rfl (g_slice sl25.und rfl rfl rfl hrun132) ?_; clear ha a; intro a ha; obtain ⟨hl137, hF⟩ := app_some hF
    obtain ⟨_, hs138, _⟩ := (hro133.ext hE128).src
    refine o_append ha rfl sl25 rfl rfl rfl h121 (hs138.up scal_int) (Nq.nil _) hl137 ?_; clear ha a; intro v139 w140 b141 h142 hc143 hb144 a ha
    replace h142 : Ow Rp.int 2 true w140 [] b141 v139 _ := h142
    have q146 := Zn.appD q127 hb144 hE128
    have hE147 := Ext.then hE128 hc143 (Zn.bl q127)
    refine op_g ha rfl (g_assign rfl) ?_; clear ha a; intro a ha; refine wpList_nil ?_; replace ha := ha.sub (σ' := [(4, v139)]) ⟨rfl, trivial⟩; refine e_then ?_; refine wp_ret ?_
    obtain ⟨fp148, h149, hs150⟩ := h142.roF
    obtain rfl := Option.some.inj hF
    exact f_ret1 ha rfl rfl ⟨_, h149, (Pv.mono (Pv.own q146 (zf_nil _)) hs150), hE147⟩
  replace hF := if_f hp73 hF
  rw [show (decide (i46 < (a0.length : Int))) = false from b_false (decide_eq_true_iff) hp73] at ha
  (iterate 6 refine op_unwant ha rfl (yields ha rfl rfl) rfl ?_; clear ha a; intro a ha); refine op_g ha rfl (g_pick rfl rfl) ?_; clear ha a; intro a ha; refine wpList_nil ?_; replace ha := ha.sub (σ' := [(0, va0), (1, (.int .i64 a1)), (5, (.int .i64 i46)), (32, (.bool false))]) ⟨rfl, rfl, rfl, rfl, trivial⟩; refine e_then ?_; refine c_false ha rfl ?_; refine wp_skip ?_; refine e_then ?_; refine wp_seq ?_; refine wp_region_lit ?_; (iterate 2 refine op_g ha rfl (g_move rfl) ?_; clear ha a; intro a ha); obtain ⟨hb151a, hb151b, hb151c, hF⟩ := slc_some hF
  obtain ⟨v152, fp153, hrun154, hro155, hsub156⟩ := ha0.slice (lo := none) (hi := (some (.int .i64 i46))) (i := 0) (j := i46) sl25 (.inl ⟨rfl, rfl⟩) (.inr ⟨_, rfl⟩) ⟨hb151a, hb151b, hb151c⟩
  have q158 := (Pv.mono (Pv.par (fun _ h => h)) hsub156 : Pv (fa0) W.heap.size fp153)
  refine op_g ha rfl (g_slice sl25.und rfl rfl rfl hrun154) ?_; clear ha a; intro a ha; obtain ⟨x159, hc160, hF⟩ := cal_some hF
  refine o_call ha rfl rfl Try.call49 (W_spec_l1Copy (hro155.ext hE53) hc160) ?_; clear ha a; rintro v161 w162 ⟨b164, h165, z166, hx163⟩ a ha
  have hE168 := Ext.trans hE53 hx163
  have q169 := Zn.upD z166 hE53
  refine op_g ha rfl (g_move rfl) ?_; clear ha a; intro a ha
  refine o_lit1 (o := true) (y := a1) Rp.int ha rfl sl25 rfl rfl rfl ⟨rfl, ha1, rfl⟩ ?_; clear ha a; intro v170 w171 h172 hx173 a ha
  obtain ⟨b175, hb175⟩ : ∃ b : Int, b = w162.heap.size := ⟨_, rfl⟩; rw [← hb175] at h172
  have q176 := zn_of hb175
  have q177 := Nq.new h165.fpb q176
  have q178 := Nq.madeO q176 h165.blt
  have q179 := Zn.upD q176 hE168
  replace h165 := h165.ext hx173
  have hE180 := Ext.trans hE168 hx173
  obtain ⟨hl181, hF⟩ := app_some hF
  refine o_append ha rfl sl25 rfl rfl rfl h165 h172.src (Nq.nil _) hl181 ?_; clear ha a; intro v182 w183 b184 h185 hc186 hb187 a ha
  replace h185 : Ow Rp.int 2 true w183 [] b184 v182 _ := h185
  have q189 := Nq.appY q178 h172.fpb hb187
  have q190 := Nq.appX q177 (Nq.nil _) hb187 h172.blt
  have q191 := Zn.appD q169 hb187 hE180
  replace h172 := h172.nq hc186 q178
  have hE192 := Ext.then hE180 hc186 (Zn.bl q169)
  refine op_g ha rfl (g_assign rfl) ?_; clear ha a; intro a ha; refine wpList_nil ?_; replace ha := ha.sub (σ' := [(0, va0), (5, (.int .i64 i46)), (6, v182)]) ⟨rfl, rfl, rfl, trivial⟩; refine e_then ?_; refine wp_seq ?_; refine wp_region_lit ?_; (iterate 3 refine op_g ha rfl (g_move rfl) ?_; clear ha a; intro a ha); obtain ⟨hb193a, hb193b, hb193c, hF⟩ := slc_some hF
  obtain ⟨v194, fp195, hrun196, hro197, hsub198⟩ := ha0.slice (lo := (some (.int .i64 i46))) (hi := none) (i := i46) (j := (a0.length : Int)) sl25 (.inr ⟨_, rfl⟩) (.inl ⟨rfl, rfl⟩) ⟨hb193a, hb193b, hb193c⟩
  have q200 := (Pv.mono (Pv.par (fun _ h => h)) hsub198 : Pv (fa0) W.heap.size fp195)
  refine op_g ha rfl (g_slice sl25.und rfl rfl rfl hrun196) ?_; clear ha a; intro a ha; obtain ⟨hl201, hF⟩ := app_some hF
  obtain ⟨_, hs202, _⟩ := (hro197.ext hE192).src
  refine o_append ha rfl sl25 rfl rfl rfl h185 (hs202.up scal_int) (Nq.nil _) hl201 ?_; clear ha a; intro v203 w204 b205 h206 hc207 hb208 a ha
  replace h206 : Ow Rp.int 2 true w204 [] b205 v203 _ := h206
  have q210 := Zn.appD q191 hb208 hE192
  have hE211 := Ext.then hE192 hc207 (Zn.bl q191)
  refine op_g ha rfl (g_assign rfl) ?_; clear ha a; intro a ha; refine wpList_nil ?_; replace ha := ha.sub (σ' := [(4, v203)]) ⟨rfl, trivial⟩; refine e_then ?_; refine wp_ret ?_
  obtain ⟨fp212, h213, hs214⟩ := h206.roF
  obtain rfl := Option.some.inj hF
  exact f_ret1 ha rfl rfl ⟨_, h213, (Pv.mono (Pv.own q210 (zf_nil _)) hs214), hE211⟩
set_option maxHeartbeats 2000000 in
theorem W_spec_l1Same {W : World} {va0 : Value} {fa0 : List Nat} {a0 : (List Int)} (ha0 : Ro Rp.int W fa0 va0 a0) {va1 : Value} {fa1 : List Nat} {a1 : (List Int)} (ha1 : Ro Rp.int W fa1 va1 a1) {r : Bool} (hF : F_spec_l1Same a0 a1 = some r) :
    Calls Try.prog 35 [va0, va1].toArray W (Ret fun u w' => u = .bool r ∧ Ext W w') := by
  refine f_enter Try.func35 rfl Try.ntmps35 rfl ?_
  intro a ha
  replace ha : Fr 26 [(0, va0), (1, va1)] a := ha
  have hE : Chg [] W W := Chg.refl _ _
  unfold F_spec_l1Same at hF
  refine wp_seq ?_; refine wp_region_lit ?_; refine op_g ha rfl (g_assign rfl) ?_; clear ha a; intro a ha; refine wpList_nil ?_; replace ha := ha.sub (σ' := [(0, va0), (1, va1)]) ⟨rfl, rfl, trivial⟩; refine e_then ?_; refine wp_seq ?_; refine wp_seq ?_; refine wp_region_lit ?_; refine op_g ha rfl (g_move rfl) ?_; clear ha a; intro a ha; refine op_g ha rfl (g_lenR sl25.und ha0 rfl) ?_; clear ha a; intro a ha; refine op_g ha rfl (g_move rfl) ?_; clear ha a; intro a ha; refine op_g ha rfl (g_lenR sl25.und ha1 rfl) ?_; clear ha a; intro a ha; refine op_g ha rfl (g_neq rfl rfl) ?_; clear ha a; intro a ha
  refine wpList_nil ?_; replace ha := ha.sub (σ' := [(0, va0), (1, va1), (10, (.bool (decide ((a0.length : Int) ≠ (a1.length : Int)))))]) ⟨rfl, rfl, rfl, trivial⟩; refine e_then ?_; refine c_cond ((a0.length : Int) ≠ (a1.length : Int)) ha rfl (decide_eq_true_iff) (fun hp1 => ?_) (fun hp1 => ?_)
  · replace hF := if_t hp1 hF
    refine wp_seq ?_; refine wp_region_lit ?_; refine op_g ha rfl (g_assign rfl) ?_; clear ha a; intro a ha; refine wpList_nil ?_; replace ha := ha.sub (σ' := [(4, (.bool false))]) ⟨rfl, trivial⟩; refine e_then ?_; refine wp_ret ?_; refine e_then_ret ?_; obtain rfl := Option.some.inj hF
    exact f_ret1 ha rfl rfl ⟨rfl, hE⟩
  replace hF := if_f hp1 hF; refine wp_skip ?_; refine e_then ?_; refine wp_seq ?_; refine wp_seq ?_; refine wp_region_lit ?_; refine op_g ha rfl (g_assign rfl) ?_; clear ha a; intro a ha; refine wpList_nil ?_; replace ha := ha.sub (σ' := [(0, va0), (1, va1), (5, (.int .i64 0))]) ⟨rfl, rfl, rfl, trivial⟩; refine e_then ?_; obtain ⟨o77, ho78, hK79⟩ := bnd_some hF
  obtain ⟨n80, hn81⟩ := lp_some ho78; clear ho78
  refine c_loop (fun a w => Fr 26 [] a ∧ Chg [] W w ∧ o77 = .inl ()) (fun n a w => ∃ (i39 : Int), Fr 26 [(0, va0), (1, va1), (5, (.int .i64 i39))] a ∧ Chg [] W w ∧ InI i39 ∧ lpN (fun s => F_spec_l1Same_l1 a0 a1 s) n i39 = some o77) n80 ⟨0, ha.sub ⟨rfl, rfl, rfl, trivial⟩, hE, (show InI 0 from by decide), hn81⟩ ?_ ?_
  · rintro m85 a w38 ⟨i39, ha, hE41, hI40, hF⟩
    cases m85 with
    | zero => exact (lpN_zero hF).elim
    | succ m85 =>
      obtain ⟨z84, hF, hN83⟩ := lpN_succ hF
      have hF : F_spec_l1Same_l1 a0 a1 i39 = some z84 := hF; unfold F_spec_l1Same_l1 at hF
      refine wp_seq ?_; refine wp_seq ?_; refine wp_region_lit ?_; (iterate 2 refine op_g ha rfl (g_move rfl) ?_; clear ha a; intro a ha); refine op_g ha rfl (g_lenR sl25.und ha0 rfl) ?_; clear ha a; intro a ha; refine op_g ha rfl (g_lss rfl rfl) ?_; clear ha a; intro a ha; refine wpList_nil ?_; replace ha := ha.sub (σ' := [(0, va0), (1, va1), (5, (.int .i64 i39)), (14, (.bool (decide (i39 < (a0.length : Int)))))]) ⟨rfl, rfl, rfl, rfl, trivial⟩; refine e_then ?_; refine c_cond (i39 < (a0.length : Int)) ha rfl (decide_eq_true_iff) (fun hp86 => ?_) (fun hp86 => ?_)
      · replace hF := if_t hp86 hF
        refine wp_skip ?_; refine e_then ?_; refine wp_seq ?_; refine wp_block ?_; refine wp_seq ?_; refine d_quiet hmix (by kernel_rfl) ?_; (iterate 2 refine q_g ha rfl (g_move rfl) ?_; clear ha a; intro a ha); obtain ⟨x87, g88, gx89, hF⟩ := idx_some hF
        obtain ⟨p90, cs91, f92, hf93, hpb94, hat95, hr96, hi97⟩ := ha0.at g88 gx89
        obtain ⟨rfl, hI98, rfl⟩ := hr96
        refine q_g ha rfl (hi97.gives sl25 rfl rfl) ?_; clear ha a; intro a ha; refine q_g ha rfl (g_load0 hE41 Try.isAgg2 rfl hat95.one) ?_; clear ha a; intro a ha; (iterate 2 refine q_g ha rfl (g_move rfl) ?_; clear ha a; intro a ha); obtain ⟨x99, g100, gx101, hF⟩ := idx_some hF
        obtain ⟨p102, cs103, f104, hf105, hpb106, hat107, hr108, hi109⟩ := ha1.at g100 gx101
        obtain ⟨rfl, hI110, rfl⟩ := hr108
        refine q_g ha rfl (hi109.gives sl25 rfl rfl) ?_; clear ha a; intro a ha; refine q_g ha rfl (g_load0 hE41 Try.isAgg2 rfl hat107.one) ?_; clear ha a; intro a ha; refine q_g ha rfl (g_neq rfl rfl) ?_; clear ha a; intro a ha
        refine q_nil ?_; intro w111 hx112
        have hE113 := Ext.trans hE41 hx112
        replace ha := ha.sub (σ' := [(0, va0), (1, va1), (5, (.int .i64 i39)), (25, (.bool (decide (x87 ≠ x99))))]) ⟨rfl, rfl, rfl, rfl, trivial⟩; refine e_then ?_; refine c_cond (x87 ≠ x99) ha rfl (decide_eq_true_iff) (fun hp114 => ?_) (fun hp114 => ?_)
        · replace hF := if_t hp114 hF
          refine wp_seq ?_; refine wp_region_lit ?_; refine op_g ha rfl (g_assign rfl) ?_; clear ha a; intro a ha; refine wpList_nil ?_; replace ha := ha.sub (σ' := [(4, (.bool false))]) ⟨rfl, trivial⟩; refine e_then ?_; refine wp_ret ?_; refine e_blk_ret ?_; refine e_then_ret ?_; refine e_lq_ret ?_; refine e_then_ret ?_; obtain rfl := Option.some.inj hF
          have e115 := LK_inr hN83; subst e115
          have e116 := BK_inr hK79; subst e116
          exact f_ret1 ha rfl rfl ⟨rfl, hE113⟩
        replace hF := if_f hp114 hF; refine wp_skip ?_; refine e_blk ?_; refine e_then ?_; refine wp_region_lit ?_; refine op_g ha rfl (g_move rfl) ?_; clear ha a; intro a ha; obtain ⟨hI117, hF⟩ := ck_some hF; refine op_g ha rfl (g_add rfl rfl hI117) ?_; clear ha a; intro a ha; refine op_g ha rfl (g_assign rfl) ?_; clear ha a; intro a ha; refine wpList_nil ?_; replace ha := ha.sub (σ' := [(0, va0), (1, va1), (5, (.int .i64 (i39 + 1)))]) ⟨rfl, rfl, rfl, trivial⟩; refine e_lq ?_; obtain rfl := Option.some.inj hF
        exact ⟨_, Nat.lt_succ_self _, i39 + 1, ha.sub ⟨rfl, rfl, rfl, trivial⟩, hE113, hI117, hN83⟩
      replace hF := if_f hp86 hF; refine wp_exit ?_; refine e_then_exit ?_; refine e_lq_eq ?_; obtain rfl := Option.some.inj hF
      exact ⟨ha.sub trivial, hE41, (LK_inr hN83).symm⟩
  rintro a w76 ⟨ha, hE82, rfl⟩
  have hF : F_spec_l1Same_k2 = some _ := hK79; clear hK79; unfold F_spec_l1Same_k2 at hF
  refine e_then ?_; refine wp_seq ?_; refine wp_region_lit ?_; refine op_g ha rfl (g_assign rfl) ?_; clear ha a; intro a ha; refine wpList_nil ?_; refine e_then ?_; refine wp_ret ?_; obtain rfl := Option.some.inj hF
  exact f_ret1 ha rfl rfl ⟨rfl, hE82⟩
set_option maxHeartbeats 2000000 in
theorem W_spec_l29More {W : World} {va0 : Value} {fa0 : List Nat} {a0 : (List Int)} (ha0 : Ro Rp.int W fa0 va0 a0) {va1 : Value} {fa1 : List Nat} {a1 : (List Int)} (ha1 : Ro Rp.int W fa1 va1 a1) {a2 : Int} (ha2 : InI a2) {r : Bool} (hF : F_spec_l29More a0 a1 a2 = some r) :
    Calls Try.prog 34 [va0, va1, .int .i64 a2].toArray W (Ret fun u w' => u = .bool r ∧ Ext W w') := by
  refine f_enter Try.func34 rfl Try.ntmps34 rfl ?_
  intro a ha
  replace ha : Fr 18 [(0, va0), (1, va1), (2, (.int .i64 a2))] a := ha
  have hE : Chg [] W W := Chg.refl _ _
  unfold F_spec_l29More at hF
  refine wp_seq ?_; refine wp_region_lit ?_; refine op_g ha rfl (g_assign rfl) ?_; clear ha a; intro a ha; refine wpList_nil ?_; replace ha := ha.sub (σ' := [(0, va0), (1, va1), (2, (.int .i64 a2))]) ⟨rfl, rfl, rfl, trivial⟩; refine e_then ?_; refine wp_seq ?_; refine wp_region_lit ?_; (iterate 2 refine op_g ha rfl (g_move rfl) ?_; clear ha a; intro a ha); obtain ⟨x1, hc2, hF⟩ := cal_some hF
  refine o_call ha rfl rfl Try.call33 (W_spec_l1Has (ha0.ext hE) ha2 hc2) ?_; clear ha a; rintro v3 w4 ⟨rfl, hx5⟩ a ha
  have hE6 := Ext.trans hE hx5
  refine op_g ha rfl (g_not rfl) ?_; clear ha a; intro a ha; refine op_g ha rfl (g_move rfl) ?_; clear ha a; intro a ha
  by_cases hp7 : ¬ (x1 = true)
  · replace hF := if_t hp7 hF
    rw [show (!x1) = true from (n_iff (Iff.rfl)).2 hp7] at ha
    refine op_want (yields ha rfl rfl) ?_; refine op_g ha rfl (g_move rfl) ?_; clear ha a; intro a ha; refine op_want (yields ha rfl rfl) ?_; refine op_g ha rfl (g_move rfl) ?_; clear ha a; intro a ha; refine op_want (yields ha rfl rfl) ?_; obtain ⟨x8, hc9, hF⟩ := cal_some hF
    refine o_call ha rfl rfl Try.call46 (W_spec_l1Into (ha0.ext hE6) ha2 hc9) ?_; clear ha a; rintro v10 w11 ⟨fp13, h14, pv15, hx12⟩ a ha
    have hE17 := Ext.trans hE6 hx12
    refine op_want (yields ha rfl rfl) ?_; refine op_g ha rfl (g_move rfl) ?_; clear ha a; intro a ha; refine op_want (yields ha rfl rfl) ?_; obtain ⟨x18, hc19, hF⟩ := cal_some hF
    refine o_call ha rfl rfl Try.call35 (W_spec_l1Same h14 (ha1.ext hE17) hc19) ?_; clear ha a; rintro v20 w21 ⟨rfl, hx22⟩ a ha
    replace h14 := h14.ext hx22
    have hE23 := Ext.trans hE17 hx22
    refine op_g ha rfl (g_pick rfl rfl) ?_; clear ha a; intro a ha; refine op_g ha rfl (g_assign rfl) ?_; clear ha a; intro a ha; refine wpList_nil ?_; replace ha := ha.sub (σ' := [(6, (.bool x18))]) ⟨rfl, trivial⟩; refine e_then ?_; refine wp_ret ?_; obtain rfl := Option.some.inj hF
    exact f_ret1 ha rfl rfl ⟨rfl, hE23⟩
  replace hF := if_f hp7 hF
  rw [show (!x1) = false from b_false (n_iff (Iff.rfl)) hp7] at ha
  (iterate 5 refine op_unwant ha rfl (yields ha rfl rfl) rfl ?_; clear ha a; intro a ha); refine op_g ha rfl (g_pick rfl rfl) ?_; clear ha a; intro a ha; refine op_g ha rfl (g_assign rfl) ?_; clear ha a; intro a ha; refine wpList_nil ?_; replace ha := ha.sub (σ' := [(6, (.bool false))]) ⟨rfl, trivial⟩; refine e_then ?_; refine wp_ret ?_; obtain rfl := Option.some.inj hF
  exact f_ret1 ha rfl rfl ⟨rfl, hE6⟩
set_option maxHeartbeats 2000000 in
theorem W_spec_l29Node {W : World} {va0_0 : Value} {fa0_0 : List Nat} {a0_0 : (List (List Int))} (ha0_0 : Ro (Rp.sl 2 Rp.int) W fa0_0 va0_0 a0_0) {va1_0 : Value} {fa1_0 : List Nat} {a1_0 : (List Int)} (ha1_0 : Ro Rp.int W fa1_0 va1_0 a1_0) {va1_1 : Value} {fa1_1 : List Nat} {a1_1 : (List Int)} (ha1_1 : Ro Rp.int W fa1_1 va1_1 a1_1) {va1_2 : Value} {fa1_2 : List Nat} {a1_2 : (List (List Int))} (ha1_2 : Ro (Rp.sl 2 Rp.int) W fa1_2 va1_2 a1_2) {va1_3 : Value} {fa1_3 : List Nat} {a1_3 : (List (List Int))} (ha1_3 : Ro (Rp.sl 2 Rp.int) W fa1_3 va1_3 a1_3) {a2 : Int} (ha2 : InI a2) {r : Bool} (hF : F_spec_l29Node a0_0 a1_0 a1_1 a1_2 a1_3 a2 = some r) :
    Calls Try.prog 15 [.agg #[va0_0], .agg #[va1_0, va1_1, va1_2, va1_3], .int .i64 a2].toArray W (Ret fun u w' => u = .bool r ∧ Ext W w') := by
  refine f_enter Try.func15 rfl Try.ntmps15 rfl ?_
  intro a ha
  replace ha : Fr 144 [(0, (.agg #[va0_0])), (1, (.agg #[va1_0, va1_1, va1_2, va1_3])), (2, (.int .i64 a2))] a := ha
  have hE : Chg [] W W := Chg.refl _ _
  unfold F_spec_l29Node at hF
  refine wp_seq ?_; refine wp_region_lit ?_
  refine o_box ha rfl rfl rfl ?_; clear ha a; intro b1 w2 hB3 hx4 hlo5 a ha
  have q6 := Zn.one hlo5
  have q7 := Zn.upD q6 hE
  have hE8 := Ext.trans hE hx4
  refine o_box ha rfl rfl rfl ?_; clear ha a; intro b9 w10 hB11 hx12 hlo13 a ha
  have q14 := Zn.one hlo13
  have q15 := Nq.new hB3.fpb q14
  have q16 := Nq.made1 hlo13 hB3.bi
  have q17 := Zn.upD q14 hE8
  replace hB3 := hB3.ext hx12
  have hE18 := Ext.trans hE8 hx12
  refine op_g ha rfl (g_assign rfl) ?_; clear ha a; intro a ha; refine wpList_nil ?_; replace ha := ha.sub (σ' := [(2, (.int .i64 a2)), (3, (.pointer (some ⟨b1, 0, none⟩))), (4, (.pointer (some ⟨b9, 0, none⟩)))]) ⟨rfl, rfl, rfl, trivial⟩; refine e_then ?_; refine wp_seq ?_; refine wp_region_lit ?_; refine op_g ha rfl (g_field0 st33_2 rfl) ?_; clear ha a; intro a ha; refine op_g ha rfl (g_load Try.isAgg22 rfl (hB11.cell rfl)) ?_; clear ha a; intro a ha; refine op_g ha rfl (g_move rfl) ?_; clear ha a; intro a ha; obtain ⟨x19, g20, gx21, hF⟩ := idx_some hF
  obtain ⟨p22, cs23, f24, hf25, hpb26, hat27, hr28, hi29⟩ := ha1_2.at g20 gx21
  obtain ⟨v30, rfl, h31⟩ := hr28
  have h31 : Ro Rp.int W f24 v30 x19 := h31
  refine op_g ha rfl (hi29.gives sl22 rfl rfl) ?_; clear ha a; intro a ha; refine op_g ha rfl (g_load0 hE18 Try.isAgg25 rfl hat27.one) ?_; clear ha a; intro a ha; refine op_g ha rfl (g_assign rfl) ?_; clear ha a; intro a ha; refine wpList_nil ?_; replace ha := ha.sub (σ' := [(2, (.int .i64 a2)), (3, (.pointer (some ⟨b1, 0, none⟩))), (4, (.pointer (some ⟨b9, 0, none⟩))), (7, v30)]) ⟨rfl, rfl, rfl, rfl, trivial⟩; refine e_then ?_; refine wp_seq ?_; refine wp_region_lit ?_; refine op_g ha rfl (g_field0 st33_3 rfl) ?_; clear ha a; intro a ha; refine op_g ha rfl (g_load Try.isAgg22 rfl (hB11.cell rfl)) ?_; clear ha a; intro a ha
  refine op_g ha rfl (g_move rfl) ?_; clear ha a; intro a ha; obtain ⟨x33, g34, gx35, hF⟩ := idx_some hF
  obtain ⟨p36, cs37, f38, hf39, hpb40, hat41, hr42, hi43⟩ := ha1_3.at g34 gx35
  obtain ⟨v44, rfl, h45⟩ := hr42
  have h45 : Ro Rp.int W f38 v44 x33 := h45
  refine op_g ha rfl (hi43.gives sl22 rfl rfl) ?_; clear ha a; intro a ha; refine op_g ha rfl (g_load0 hE18 Try.isAgg25 rfl hat41.one) ?_; clear ha a; intro a ha; refine op_g ha rfl (g_assign rfl) ?_; clear ha a; intro a ha; refine wpList_nil ?_; replace ha := ha.sub (σ' := [(2, (.int .i64 a2)), (3, (.pointer (some ⟨b1, 0, none⟩))), (4, (.pointer (some ⟨b9, 0, none⟩))), (7, v30), (8, v44)]) ⟨rfl, rfl, rfl, rfl, rfl, trivial⟩; refine e_then ?_; refine wp_seq ?_; refine wp_seq ?_; refine wp_region_lit ?_; refine op_g ha rfl (g_move rfl) ?_; clear ha a; intro a ha; refine op_g ha rfl (g_lenR sl25.und h31 rfl) ?_; clear ha a; intro a ha
  refine op_g ha rfl (g_gtr rfl rfl) ?_; clear ha a; intro a ha; refine op_g ha rfl (g_move rfl) ?_; clear ha a; intro a ha
  by_cases hp62 : 8 < (x19.length : Int)
  · replace hF := if_t hp62 hF
    rw [show (decide (8 < (x19.length : Int))) = true from (decide_eq_true_iff).2 hp62] at ha
    (iterate 5 refine op_unwant ha rfl (yields ha rfl rfl) rfl ?_; clear ha a; intro a ha); refine op_g ha rfl (g_pick rfl rfl) ?_; clear ha a; intro a ha; refine wpList_nil ?_; replace ha := ha.sub (σ' := [(2, (.int .i64 a2)), (4, (.pointer (some ⟨b9, 0, none⟩))), (7, v30), (8, v44), (29, (.bool true))]) ⟨rfl, rfl, rfl, rfl, rfl, trivial⟩; refine e_then ?_; refine c_true ha rfl ?_; refine wp_seq ?_; refine wp_region_lit ?_; refine op_g ha rfl (g_assign rfl) ?_; clear ha a; intro a ha; refine wpList_nil ?_; replace ha := ha.sub (σ' := [(6, (.bool false))]) ⟨rfl, trivial⟩; refine e_then ?_; refine wp_ret ?_
    refine e_then_ret ?_; obtain rfl := Option.some.inj hF
    exact f_ret1 ha rfl rfl ⟨rfl, hE18⟩
  replace hF := if_f hp62 hF
  rw [show (decide (8 < (x19.length : Int))) = false from b_false (decide_eq_true_iff) hp62] at ha
  refine op_want (yields ha rfl rfl) ?_; refine op_g ha rfl (g_move rfl) ?_; clear ha a; intro a ha; refine op_want (yields ha rfl rfl) ?_; refine op_g ha rfl (g_loadA (cs := [va0_0]) Try.isAgg31 Try.sizeOf31 rfl (by simp) hB3.all) ?_; clear ha a; intro a ha; refine op_want (yields ha rfl rfl) ?_; obtain ⟨x63, hc64, hF⟩ := cal_some hF
  refine o_call ha rfl rfl Try.call30 (W_spec_l1Size (ha0_0.ext hE18) hc64) ?_; clear ha a; rintro v65 w66 ⟨⟨rfl, hI68⟩, hx67⟩ a ha
  replace hB3 := hB3.ext hx67
  replace hB11 := hB11.ext hx67
  have hE69 := Ext.trans hE18 hx67
  refine op_want (yields ha rfl rfl) ?_; obtain ⟨x70, hc71, hF⟩ := cal_some hF
  refine o_call ha rfl rfl Try.call32 (W_spec_l1Set (h31.ext hE69) hI68 hc71) ?_; clear ha a; rintro v72 w73 ⟨rfl, hx74⟩ a ha
  replace hB3 := hB3.ext hx74
  replace hB11 := hB11.ext hx74
  have hE75 := Ext.trans hE69 hx74
  refine op_want (yields ha rfl rfl) ?_; refine op_g ha rfl (g_not rfl) ?_; clear ha a; intro a ha; refine op_g ha rfl (g_pick rfl rfl) ?_; clear ha a; intro a ha; refine wpList_nil ?_; replace ha := ha.sub (σ' := [(2, (.int .i64 a2)), (4, (.pointer (some ⟨b9, 0, none⟩))), (7, v30), (8, v44), (29, (.bool (!x70)))]) ⟨rfl, rfl, rfl, rfl, rfl, trivial⟩; refine e_then ?_; refine c_cond (¬ (x70 = true)) ha rfl (n_iff (Iff.rfl)) (fun hp76 => ?_) (fun hp76 => ?_)
  · replace hF := if_t hp76 hF
    refine wp_seq ?_; refine wp_region_lit ?_; refine op_g ha rfl (g_assign rfl) ?_; clear ha a; intro a ha; refine wpList_nil ?_; replace ha := ha.sub (σ' := [(6, (.bool false))]) ⟨rfl, trivial⟩; refine e_then ?_; refine wp_ret ?_; refine e_then_ret ?_; obtain rfl := Option.some.inj hF
    exact f_ret1 ha rfl rfl ⟨rfl, hE75⟩
  replace hF := if_f hp76 hF; refine wp_skip ?_; refine e_then ?_; refine wp_seq ?_; refine wp_seq ?_; refine wp_region_lit ?_; refine op_g ha rfl (g_assign rfl) ?_; clear ha a; intro a ha; refine wpList_nil ?_; replace ha := ha.sub (σ' := [(2, (.int .i64 a2)), (4, (.pointer (some ⟨b9, 0, none⟩))), (7, v30), (8, v44), (9, (.int .i64 0))]) ⟨rfl, rfl, rfl, rfl, rfl, trivial⟩; refine e_then ?_; obtain ⟨o148, ho149, hK150⟩ := bnd_some hF
  obtain ⟨n151, hn152⟩ := lp_some ho149; clear ho149
  refine c_loop (fun a w => Fr 144 [(2, (.int .i64 a2)), (4, (.pointer (some ⟨b9, 0, none⟩))), (7, v30), (8, v44)] a ∧ Chg [] W w ∧ Bx w b9 [va1_0, va1_1, va1_2, va1_3] 33 ∧ Zn W (b9 : Int) ∧ o148 = .inl ()) (fun n a w => ∃ (i113 : Int), Fr 144 [(2, (.int .i64 a2)), (4, (.pointer (some ⟨b9, 0, none⟩))), (7, v30), (8, v44), (9, (.int .i64 i113))] a ∧ Chg [] W w ∧ InI i113 ∧ Bx w b9 [va1_0, va1_1, va1_2, va1_3] 33 ∧ Zn W (b9 : Int) ∧ lpN (fun s => F_spec_l29Node_l1 a2 x33 s) n i113 = some o148) n151 ⟨0, ha.sub ⟨rfl, rfl, rfl, rfl, rfl, trivial⟩, hE75, (show InI 0 from by decide), hB11, q17, hn152⟩ ?_ ?_
  · rintro m156 a w110 ⟨i113, ha, hE115, hI114, hB111, z112, hF⟩
    cases m156 with
    | zero => exact (lpN_zero hF).elim
    | succ m156 =>
      obtain ⟨z155, hF, hN154⟩ := lpN_succ hF
      have hF : F_spec_l29Node_l1 a2 x33 i113 = some z155 := hF; unfold F_spec_l29Node_l1 at hF
      refine wp_seq ?_; refine wp_seq ?_; refine wp_region_lit ?_; (iterate 2 refine op_g ha rfl (g_move rfl) ?_; clear ha a; intro a ha); refine op_g ha rfl (g_lenR sl25.und h45 rfl) ?_; clear ha a; intro a ha; refine op_g ha rfl (g_lss rfl rfl) ?_; clear ha a; intro a ha; refine wpList_nil ?_; replace ha := ha.sub (σ' := [(2, (.int .i64 a2)), (4, (.pointer (some ⟨b9, 0, none⟩))), (7, v30), (8, v44), (9, (.int .i64 i113)), (33, (.bool (decide (i113 < (x33.length : Int)))))]) ⟨rfl, rfl, rfl, rfl, rfl, rfl, trivial⟩; refine e_then ?_; refine c_cond (i113 < (x33.length : Int)) ha rfl (decide_eq_true_iff) (fun hp157 => ?_) (fun hp157 => ?_)
      · replace hF := if_t hp157 hF
        refine wp_skip ?_; refine e_then ?_; refine wp_seq ?_; refine wp_block ?_; refine wp_seq ?_; refine wp_region_lit ?_; (iterate 2 refine op_g ha rfl (g_move rfl) ?_; clear ha a; intro a ha); obtain ⟨x158, g159, gx160, hF⟩ := idx_some hF
        obtain ⟨p161, cs162, f163, hf164, hpb165, hat166, hr167, hi168⟩ := h45.at g159 gx160
        obtain ⟨rfl, hI169, rfl⟩ := hr167
        refine op_g ha rfl (hi168.gives sl25 rfl rfl) ?_; clear ha a; intro a ha; refine op_g ha rfl (g_load0 hE115 Try.isAgg2 rfl hat166.one) ?_; clear ha a; intro a ha; refine op_g ha rfl (g_move rfl) ?_; clear ha a; intro a ha; obtain ⟨hI170, hF⟩ := ck_some hF; refine op_g ha rfl (g_sub rfl rfl hI170) ?_; clear ha a; intro a ha; obtain ⟨x172, hc173, hF⟩ := cal_some hF
        refine o_call ha rfl rfl Try.call31 (W_spec_l1In hI169 (show InI 0 from by decide) hI170 hc173) ?_; clear ha a; rintro v174 w175 ⟨rfl, hx176⟩ a ha
        replace hB111 := hB111.ext hx176
        have hE177 := Ext.trans hE115 hx176
        refine op_g ha rfl (g_not rfl) ?_; clear ha a; intro a ha; refine wpList_nil ?_; replace ha := ha.sub (σ' := [(2, (.int .i64 a2)), (4, (.pointer (some ⟨b9, 0, none⟩))), (7, v30), (8, v44), (9, (.int .i64 i113)), (43, (.bool (!x172)))]) ⟨rfl, rfl, rfl, rfl, rfl, rfl, trivial⟩; refine e_then ?_; refine c_cond (¬ (x172 = true)) ha rfl (n_iff (Iff.rfl)) (fun hp178 => ?_) (fun hp178 => ?_)
        · replace hF := if_t hp178 hF
          refine wp_seq ?_; refine wp_region_lit ?_; refine op_g ha rfl (g_assign rfl) ?_; clear ha a; intro a ha; refine wpList_nil ?_; replace ha := ha.sub (σ' := [(6, (.bool false))]) ⟨rfl, trivial⟩; refine e_then ?_; refine wp_ret ?_; refine e_blk_ret ?_; refine e_then_ret ?_; refine e_lq_ret ?_; refine e_then_ret ?_; obtain rfl := Option.some.inj hF
          have e179 := LK_inr hN154; subst e179
          have e180 := BK_inr hK150; subst e180
          exact f_ret1 ha rfl rfl ⟨rfl, hE177⟩
        replace hF := if_f hp178 hF; refine wp_skip ?_; refine e_blk ?_; refine e_then ?_; refine wp_region_lit ?_; refine op_g ha rfl (g_move rfl) ?_; clear ha a; intro a ha; obtain ⟨hI181, hF⟩ := ck_some hF; refine op_g ha rfl (g_add rfl rfl hI181) ?_; clear ha a; intro a ha; refine op_g ha rfl (g_assign rfl) ?_; clear ha a; intro a ha; refine wpList_nil ?_; replace ha := ha.sub (σ' := [(2, (.int .i64 a2)), (4, (.pointer (some ⟨b9, 0, none⟩))), (7, v30), (8, v44), (9, (.int .i64 (i113 + 1)))]) ⟨rfl, rfl, rfl, rfl, rfl, trivial⟩; refine e_lq ?_; obtain rfl := Option.some.inj hF
        exact ⟨_, Nat.lt_succ_self _, i113 + 1, ha.sub ⟨rfl, rfl, rfl, rfl, rfl, trivial⟩, hE177, hI181, hB111, z112, hN154⟩
      replace hF := if_f hp157 hF; refine wp_exit ?_; refine e_then_exit ?_; refine e_lq_eq ?_; obtain rfl := Option.some.inj hF
      exact ⟨ha.sub ⟨rfl, rfl, rfl, rfl, trivial⟩, hE115, hB111, z112, (LK_inr hN154).symm⟩
  rintro a w145 ⟨ha, hE153, hB146, z147, rfl⟩
  have hF : F_spec_l29Node_k2 a1_0 a1_1 a1_2 a2 x19 x33 = some _ := hK150; clear hK150; unfold F_spec_l29Node_k2 at hF
  refine e_then ?_; refine wp_seq ?_; refine wp_seq ?_; refine wp_region_lit ?_; refine op_g ha rfl (g_field0 st33_0 rfl) ?_; clear ha a; intro a ha; refine op_g ha rfl (g_load Try.isAgg25 rfl (hB146.cell rfl)) ?_; clear ha a; intro a ha; refine op_g ha rfl (g_move rfl) ?_; clear ha a; intro a ha; obtain ⟨x183, g184, gx185, hF⟩ := idx_some hF
  obtain ⟨p186, cs187, f188, hf189, hpb190, hat191, hr192, hi193⟩ := ha1_0.at g184 gx185
  obtain ⟨rfl, hI194, rfl⟩ := hr192
  refine op_g ha rfl (hi193.gives sl25 rfl rfl) ?_; clear ha a; intro a ha; refine op_g ha rfl (g_load0 hE153 Try.isAgg2 rfl hat191.one) ?_; clear ha a; intro a ha; refine wpList_nil ?_; replace ha := ha.sub (σ' := [(2, (.int .i64 a2)), (4, (.pointer (some ⟨b9, 0, none⟩))), (7, v30), (8, v44), (48, (.int .i64 x183))]) ⟨rfl, rfl, rfl, rfl, rfl, trivial⟩; refine e_then ?_; refine wp_block ?_; refine wp_seq ?_; refine wp_region_lit ?_; refine op_g ha rfl (g_eql rfl rfl) ?_; clear ha a; intro a ha; refine op_g ha rfl (g_assign rfl) ?_; clear ha a; intro a ha; refine wpList_nil ?_; replace ha := ha.sub (σ' := [(2, (.int .i64 a2)), (4, (.pointer (some ⟨b9, 0, none⟩))), (7, v30), (8, v44), (48, (.int .i64 x183)), (49, (.bool (decide (x183 = 1))))]) ⟨rfl, rfl, rfl, rfl, rfl, rfl, trivial⟩
  refine e_then ?_; refine c_cond (x183 = 1) ha rfl (decide_eq_true_iff) (fun hp195 => ?_) (fun hp195 => ?_)
  · replace hF := if_t hp195 hF
    refine wp_seq ?_; refine wp_region_lit ?_; refine op_g ha rfl (g_field0 st33_1 rfl) ?_; clear ha a; intro a ha; refine op_g ha rfl (g_load Try.isAgg25 rfl (hB146.cell rfl)) ?_; clear ha a; intro a ha; refine op_g ha rfl (g_move rfl) ?_; clear ha a; intro a ha; obtain ⟨x196, g197, gx198, hF⟩ := idx_some hF
    obtain ⟨p199, cs200, f201, hf202, hpb203, hat204, hr205, hi206⟩ := ha1_1.at g197 gx198
    obtain ⟨rfl, hI207, rfl⟩ := hr205
    refine op_g ha rfl (hi206.gives sl25 rfl rfl) ?_; clear ha a; intro a ha; refine op_g ha rfl (g_load0 hE153 Try.isAgg2 rfl hat204.one) ?_; clear ha a; intro a ha; refine op_g ha rfl (g_eql rfl rfl) ?_; clear ha a; intro a ha; refine op_g ha rfl (g_move rfl) ?_; clear ha a; intro a ha
    by_cases hp208 : x196 = (-1)
    · replace hF := if_t hp208 hF
      rw [show (decide (x196 = (-1))) = true from (decide_eq_true_iff).2 hp208] at ha
      refine op_want (yields ha rfl rfl) ?_; refine op_g ha rfl (g_move rfl) ?_; clear ha a; intro a ha; refine op_want (yields ha rfl rfl) ?_; refine op_g ha rfl (g_lenR sl25.und h31 rfl) ?_; clear ha a; intro a ha; refine op_want (yields ha rfl rfl) ?_; refine op_g ha rfl (g_eql rfl rfl) ?_; clear ha a; intro a ha; refine op_g ha rfl (g_pick rfl rfl) ?_; clear ha a; intro a ha; refine op_g ha rfl (g_move rfl) ?_; clear ha a; intro a ha
      by_cases hp209 : (x19.length : Int) = 0
      · replace hF := if_t hp209 hF
        rw [show (decide ((x19.length : Int) = 0)) = true from (decide_eq_true_iff).2 hp209] at ha
        refine op_want (yields ha rfl rfl) ?_; refine op_g ha rfl (g_move rfl) ?_; clear ha a; intro a ha; refine op_want (yields ha rfl rfl) ?_; refine op_g ha rfl (g_lenR sl25.und h45 rfl) ?_; clear ha a; intro a ha; refine op_want (yields ha rfl rfl) ?_; refine op_g ha rfl (g_eql rfl rfl) ?_; clear ha a; intro a ha; refine op_g ha rfl (g_pick rfl rfl) ?_; clear ha a; intro a ha; refine op_g ha rfl (g_assign rfl) ?_; clear ha a; intro a ha; refine wpList_nil ?_; replace ha := ha.sub (σ' := [(6, (.bool (decide ((x33.length : Int) = 0))))]) ⟨rfl, trivial⟩; refine e_then ?_; refine wp_ret ?_; refine e_blk_ret ?_
        refine e_then_ret ?_; obtain rfl := Option.some.inj hF
        exact f_ret1 ha rfl rfl ⟨rfl, hE153⟩
      replace hF := if_f hp209 hF
      rw [show (decide ((x19.length : Int) = 0)) = false from b_false (decide_eq_true_iff) hp209] at ha
      (iterate 3 refine op_unwant ha rfl (yields ha rfl rfl) rfl ?_; clear ha a; intro a ha); refine op_g ha rfl (g_pick rfl rfl) ?_; clear ha a; intro a ha; refine op_g ha rfl (g_assign rfl) ?_; clear ha a; intro a ha; refine wpList_nil ?_; replace ha := ha.sub (σ' := [(6, (.bool false))]) ⟨rfl, trivial⟩; refine e_then ?_; refine wp_ret ?_; refine e_blk_ret ?_; refine e_then_ret ?_; obtain rfl := Option.some.inj hF
      exact f_ret1 ha rfl rfl ⟨rfl, hE153⟩
    replace hF := if_f hp208 hF
    rw [show (decide (x196 = (-1))) = false from b_false (decide_eq_true_iff) hp208] at ha
    (iterate 3 refine op_unwant ha rfl (yields ha rfl rfl) rfl ?_; clear ha a; intro a ha); refine op_g ha rfl (g_pick rfl rfl) ?_; clear ha a; intro a ha; refine op_g ha rfl (g_move rfl) ?_; clear ha a; intro a ha; (iterate 3 refine op_unwant ha rfl (yields ha rfl rfl) rfl ?_; clear ha a; intro a ha); refine op_g ha rfl (g_pick rfl rfl) ?_; clear ha a; intro a ha; refine op_g ha rfl (g_assign rfl) ?_; clear ha a; intro a ha; refine wpList_nil ?_; replace ha := ha.sub (σ' := [(6, (.bool false))]) ⟨rfl, trivial⟩; refine e_then ?_; refine wp_ret ?_; refine e_blk_ret ?_; refine e_then_ret ?_; obtain rfl := Option.some.inj hF
    exact f_ret1 ha rfl rfl ⟨rfl, hE153⟩
  replace hF := if_f hp195 hF; refine wp_seq ?_; refine wp_region_lit ?_; refine op_g ha rfl (g_eql rfl rfl) ?_; clear ha a; intro a ha; refine op_g ha rfl (g_assign rfl) ?_; clear ha a; intro a ha; refine wpList_nil ?_; replace ha := ha.sub (σ' := [(2, (.int .i64 a2)), (4, (.pointer (some ⟨b9, 0, none⟩))), (7, v30), (8, v44), (48, (.int .i64 x183)), (67, (.bool (decide (x183 = 2))))]) ⟨rfl, rfl, rfl, rfl, rfl, rfl, trivial⟩; refine e_then ?_; refine c_cond (x183 = 2) ha rfl (decide_eq_true_iff) (fun hp210 => ?_) (fun hp210 => ?_)
  · replace hF := if_t hp210 hF
    refine wp_seq ?_; refine d_quiet hmix (by kernel_rfl) ?_; refine q_g ha rfl (g_move rfl) ?_; clear ha a; intro a ha; refine q_g ha rfl (g_lenR sl25.und h45 rfl) ?_; clear ha a; intro a ha; refine q_g ha rfl (g_eql rfl rfl) ?_; clear ha a; intro a ha; refine q_g ha rfl (g_move rfl) ?_; clear ha a; intro a ha
    by_cases hp211 : (x33.length : Int) = 1
    · replace hF := if_t hp211 hF
      rw [show (decide ((x33.length : Int) = 1)) = true from (decide_eq_true_iff).2 hp211] at ha
      refine q_want (yields ha rfl rfl) ?_; refine q_g ha rfl (g_field0 st33_2 rfl) ?_; clear ha a; intro a ha; refine q_want (yields ha rfl rfl) ?_; refine q_g ha rfl (g_load Try.isAgg22 rfl (hB146.cell rfl)) ?_; clear ha a; intro a ha; refine q_want (yields ha rfl rfl) ?_; refine q_g ha rfl (g_move rfl) ?_; clear ha a; intro a ha; refine q_want (yields ha rfl rfl) ?_; obtain ⟨x212, g213, gx214, hF⟩ := idx_some hF
      obtain ⟨p215, cs216, f217, hf218, hpb219, hat220, hr221, hi222⟩ := h45.at g213 gx214
      obtain ⟨rfl, hI223, rfl⟩ := hr221
      refine q_g ha rfl (hi222.gives sl25 rfl rfl) ?_; clear ha a; intro a ha; refine q_want (yields ha rfl rfl) ?_; refine q_g ha rfl (g_load0 hE153 Try.isAgg2 rfl hat220.one) ?_; clear ha a; intro a ha; refine q_want (yields ha rfl rfl) ?_; obtain ⟨x224, g225, gx226, hF⟩ := idx_some hF
      obtain ⟨p227, cs228, f229, hf230, hpb231, hat232, hr233, hi234⟩ := ha1_2.at g225 gx226
      obtain ⟨v235, rfl, h236⟩ := hr233
      have h236 : Ro Rp.int W f229 v235 x224 := h236
      refine q_g ha rfl (hi234.gives sl22 rfl rfl) ?_; clear ha a; intro a ha; refine q_want (yields ha rfl rfl) ?_; refine q_g ha rfl (g_load0 hE153 Try.isAgg25 rfl hat232.one) ?_; clear ha a; intro a ha; refine q_want (yields ha rfl rfl) ?_; refine q_g ha rfl (g_move rfl) ?_; clear ha a; intro a ha; refine q_want (yields ha rfl rfl) ?_; refine q_g ha rfl (g_field0 st33_1 rfl) ?_; clear ha a; intro a ha; refine q_want (yields ha rfl rfl) ?_; refine q_g ha rfl (g_load Try.isAgg25 rfl (hB146.cell rfl)) ?_; clear ha a; intro a ha; refine q_want (yields ha rfl rfl) ?_; refine q_g ha rfl (g_move rfl) ?_; clear ha a; intro a ha
      refine q_want (yields ha rfl rfl) ?_; obtain ⟨x238, g239, gx240, hF⟩ := idx_some hF
      obtain ⟨p241, cs242, f243, hf244, hpb245, hat246, hr247, hi248⟩ := ha1_1.at g239 gx240
      obtain ⟨rfl, hI249, rfl⟩ := hr247
      refine q_g ha rfl (hi248.gives sl25 rfl rfl) ?_; clear ha a; intro a ha; refine q_want (yields ha rfl rfl) ?_; refine q_g ha rfl (g_load0 hE153 Try.isAgg2 rfl hat246.one) ?_; clear ha a; intro a ha; refine q_want (yields ha rfl rfl) ?_; obtain ⟨x252, hc253, hF⟩ := cal_some hF; refine q_call (.bool x252) ha rfl rfl Try.call34 (fun w251 hx250 => W_spec_l29More (h236.ext (Ext.trans hE153 hx250)) (h31.ext (Ext.trans hE153 hx250)) hI249 hc253) (fun _ _ _ h => ⟨h.1, h.2⟩) ?_; clear ha a; intro a ha; refine q_g ha rfl (g_pick rfl rfl) ?_; clear ha a; intro a ha; refine q_g ha rfl (g_assign rfl) ?_; clear ha a; intro a ha
      refine q_nil ?_; intro w254 hx255
      replace hB146 := hB146.ext hx255
      have hE256 := Ext.trans hE153 hx255
      replace ha := ha.sub (σ' := [(6, (.bool x252))]) ⟨rfl, trivial⟩; refine e_then ?_; refine wp_ret ?_; refine e_blk_ret ?_; refine e_then_ret ?_; obtain rfl := Option.some.inj hF
      exact f_ret1 ha rfl rfl ⟨rfl, hE256⟩
    replace hF := if_f hp211 hF
    rw [show (decide ((x33.length : Int) = 1)) = false from b_false (decide_eq_true_iff) hp211] at ha
    (iterate 14 refine q_unwant ha rfl (yields ha rfl rfl) rfl ?_; clear ha a; intro a ha); refine q_g ha rfl (g_pick rfl rfl) ?_; clear ha a; intro a ha; refine q_g ha rfl (g_assign rfl) ?_; clear ha a; intro a ha
    refine q_nil ?_; intro w257 hx258
    replace hB146 := hB146.ext hx258
    have hE259 := Ext.trans hE153 hx258
    replace ha := ha.sub (σ' := [(6, (.bool false))]) ⟨rfl, trivial⟩; refine e_then ?_; refine wp_ret ?_; refine e_blk_ret ?_; refine e_then_ret ?_; obtain rfl := Option.some.inj hF
    exact f_ret1 ha rfl rfl ⟨rfl, hE259⟩
  replace hF := if_f hp210 hF; refine wp_seq ?_; refine wp_region_lit ?_; refine op_g ha rfl (g_eql rfl rfl) ?_; clear ha a; intro a ha; refine op_g ha rfl (g_assign rfl) ?_; clear ha a; intro a ha; refine wpList_nil ?_; replace ha := ha.sub (σ' := [(2, (.int .i64 a2)), (4, (.pointer (some ⟨b9, 0, none⟩))), (7, v30), (8, v44), (48, (.int .i64 x183)), (88, (.bool (decide (x183 = 3))))]) ⟨rfl, rfl, rfl, rfl, rfl, rfl, trivial⟩; refine e_then ?_; refine c_cond (x183 = 3) ha rfl (decide_eq_true_iff) (fun hp260 => ?_) (fun hp260 => ?_)
  · replace hF := if_t hp260 hF
    refine wp_seq ?_; refine d_quiet hmix (by kernel_rfl) ?_; refine q_g ha rfl (g_move rfl) ?_; clear ha a; intro a ha; refine q_g ha rfl (g_lenR sl25.und h45 rfl) ?_; clear ha a; intro a ha; refine q_g ha rfl (g_eql rfl rfl) ?_; clear ha a; intro a ha; refine q_g ha rfl (g_move rfl) ?_; clear ha a; intro a ha
    by_cases hp261 : (x33.length : Int) = 1
    · replace hF := if_t hp261 hF
      rw [show (decide ((x33.length : Int) = 1)) = true from (decide_eq_true_iff).2 hp261] at ha
      refine q_want (yields ha rfl rfl) ?_; refine q_g ha rfl (g_move rfl) ?_; clear ha a; intro a ha; refine q_want (yields ha rfl rfl) ?_; refine q_g ha rfl (g_field0 st33_2 rfl) ?_; clear ha a; intro a ha; refine q_want (yields ha rfl rfl) ?_; refine q_g ha rfl (g_load Try.isAgg22 rfl (hB146.cell rfl)) ?_; clear ha a; intro a ha; refine q_want (yields ha rfl rfl) ?_; refine q_g ha rfl (g_move rfl) ?_; clear ha a; intro a ha; refine q_want (yields ha rfl rfl) ?_; obtain ⟨x262, g263, gx264, hF⟩ := idx_some hF
      obtain ⟨p265, cs266, f267, hf268, hpb269, hat270, hr271, hi272⟩ := h45.at g263 gx264
      obtain ⟨rfl, hI273, rfl⟩ := hr271
      refine q_g ha rfl (hi272.gives sl25 rfl rfl) ?_; clear ha a; intro a ha; refine q_want (yields ha rfl rfl) ?_; refine q_g ha rfl (g_load0 hE153 Try.isAgg2 rfl hat270.one) ?_; clear ha a; intro a ha; refine q_want (yields ha rfl rfl) ?_; obtain ⟨x274, g275, gx276, hF⟩ := idx_some hF
      obtain ⟨p277, cs278, f279, hf280, hpb281, hat282, hr283, hi284⟩ := ha1_2.at g275 gx276
      obtain ⟨v285, rfl, h286⟩ := hr283
      have h286 : Ro Rp.int W f279 v285 x274 := h286
      refine q_g ha rfl (hi284.gives sl22 rfl rfl) ?_; clear ha a; intro a ha; refine q_want (yields ha rfl rfl) ?_; refine q_g ha rfl (g_load0 hE153 Try.isAgg25 rfl hat282.one) ?_; clear ha a; intro a ha; refine q_want (yields ha rfl rfl) ?_; refine q_g ha rfl (g_field0 st33_1 rfl) ?_; clear ha a; intro a ha; refine q_want (yields ha rfl rfl) ?_; refine q_g ha rfl (g_load Try.isAgg25 rfl (hB146.cell rfl)) ?_; clear ha a; intro a ha; refine q_want (yields ha rfl rfl) ?_; refine q_g ha rfl (g_move rfl) ?_; clear ha a; intro a ha; refine q_want (yields ha rfl rfl) ?_; obtain ⟨x288, g289, gx290, hF⟩ := idx_some hF
      obtain ⟨p291, cs292, f293, hf294, hpb295, hat296, hr297, hi298⟩ := ha1_1.at g289 gx290
      obtain ⟨rfl, hI299, rfl⟩ := hr297
      refine q_g ha rfl (hi298.gives sl25 rfl rfl) ?_; clear ha a; intro a ha; refine q_want (yields ha rfl rfl) ?_; refine q_g ha rfl (g_load0 hE153 Try.isAgg2 rfl hat296.one) ?_; clear ha a; intro a ha; refine q_want (yields ha rfl rfl) ?_; obtain ⟨x302, hc303, hF⟩ := cal_some hF; refine q_call (.bool x302) ha rfl rfl Try.call34 (fun w301 hx300 => W_spec_l29More (h31.ext (Ext.trans hE153 hx300)) (h286.ext (Ext.trans hE153 hx300)) hI299 hc303) (fun _ _ _ h => ⟨h.1, h.2⟩) ?_; clear ha a; intro a ha; refine q_g ha rfl (g_pick rfl rfl) ?_; clear ha a; intro a ha; refine q_g ha rfl (g_assign rfl) ?_; clear ha a; intro a ha
      refine q_nil ?_; intro w304 hx305
      replace hB146 := hB146.ext hx305
      have hE306 := Ext.trans hE153 hx305
      replace ha := ha.sub (σ' := [(6, (.bool x302))]) ⟨rfl, trivial⟩; refine e_then ?_; refine wp_ret ?_; refine e_blk_ret ?_; refine e_then_ret ?_; obtain rfl := Option.some.inj hF
      exact f_ret1 ha rfl rfl ⟨rfl, hE306⟩
    replace hF := if_f hp261 hF
    rw [show (decide ((x33.length : Int) = 1)) = false from b_false (decide_eq_true_iff) hp261] at ha
    (iterate 14 refine q_unwant ha rfl (yields ha rfl rfl) rfl ?_; clear ha a; intro a ha); refine q_g ha rfl (g_pick rfl rfl) ?_; clear ha a; intro a ha; refine q_g ha rfl (g_assign rfl) ?_; clear ha a; intro a ha
    refine q_nil ?_; intro w307 hx308
    replace hB146 := hB146.ext hx308
    have hE309 := Ext.trans hE153 hx308
    replace ha := ha.sub (σ' := [(6, (.bool false))]) ⟨rfl, trivial⟩; refine e_then ?_; refine wp_ret ?_; refine e_blk_ret ?_; refine e_then_ret ?_; obtain rfl := Option.some.inj hF
    exact f_ret1 ha rfl rfl ⟨rfl, hE309⟩
  replace hF := if_f hp260 hF; refine wp_seq ?_; refine wp_region_lit ?_; refine op_g ha rfl (g_eql rfl rfl) ?_; clear ha a; intro a ha; refine op_g ha rfl (g_assign rfl) ?_; clear ha a; intro a ha; refine wpList_nil ?_; replace ha := ha.sub (σ' := [(2, (.int .i64 a2)), (4, (.pointer (some ⟨b9, 0, none⟩))), (7, v30), (8, v44), (109, (.bool (decide (x183 = 4))))]) ⟨rfl, rfl, rfl, rfl, rfl, trivial⟩; refine e_then ?_; refine c_cond (x183 = 4) ha rfl (decide_eq_true_iff) (fun hp310 => ?_) (fun hp310 => ?_)
  · replace hF := if_t hp310 hF
    refine wp_seq ?_; refine d_quiet hmix (by kernel_rfl) ?_; refine q_g ha rfl (g_field0 st33_1 rfl) ?_; clear ha a; intro a ha; refine q_g ha rfl (g_load Try.isAgg25 rfl (hB146.cell rfl)) ?_; clear ha a; intro a ha; refine q_g ha rfl (g_move rfl) ?_; clear ha a; intro a ha; obtain ⟨x311, g312, gx313, hF⟩ := idx_some hF
    obtain ⟨p314, cs315, f316, hf317, hpb318, hat319, hr320, hi321⟩ := ha1_1.at g312 gx313
    obtain ⟨rfl, hI322, rfl⟩ := hr320
    refine q_g ha rfl (hi321.gives sl25 rfl rfl) ?_; clear ha a; intro a ha; refine q_g ha rfl (g_load0 hE153 Try.isAgg2 rfl hat319.one) ?_; clear ha a; intro a ha; refine q_g ha rfl (g_eql rfl rfl) ?_; clear ha a; intro a ha; refine q_g ha rfl (g_move rfl) ?_; clear ha a; intro a ha
    by_cases hp323 : x311 = (-1)
    · replace hF := if_t hp323 hF
      rw [show (decide (x311 = (-1))) = true from (decide_eq_true_iff).2 hp323] at ha
      refine q_want (yields ha rfl rfl) ?_; refine q_g ha rfl (g_move rfl) ?_; clear ha a; intro a ha; refine q_want (yields ha rfl rfl) ?_; refine q_g ha rfl (g_lenR sl25.und h45 rfl) ?_; clear ha a; intro a ha; refine q_want (yields ha rfl rfl) ?_; refine q_g ha rfl (g_eql rfl rfl) ?_; clear ha a; intro a ha; refine q_g ha rfl (g_pick rfl rfl) ?_; clear ha a; intro a ha; refine q_g ha rfl (g_move rfl) ?_; clear ha a; intro a ha
      by_cases hp324 : (x33.length : Int) = 2
      · replace hF := if_t hp324 hF
        rw [show (decide ((x33.length : Int) = 2)) = true from (decide_eq_true_iff).2 hp324] at ha
        refine q_want (yields ha rfl rfl) ?_; refine q_g ha rfl (g_field0 st33_2 rfl) ?_; clear ha a; intro a ha; refine q_want (yields ha rfl rfl) ?_; refine q_g ha rfl (g_load Try.isAgg22 rfl (hB146.cell rfl)) ?_; clear ha a; intro a ha; refine q_want (yields ha rfl rfl) ?_; refine q_g ha rfl (g_move rfl) ?_; clear ha a; intro a ha; refine q_want (yields ha rfl rfl) ?_; obtain ⟨x325, g326, gx327, hF⟩ := idx_some hF
        obtain ⟨p328, cs329, f330, hf331, hpb332, hat333, hr334, hi335⟩ := h45.at g326 gx327
        obtain ⟨rfl, hI336, rfl⟩ := hr334
        refine q_g ha rfl (hi335.gives sl25 rfl rfl) ?_; clear ha a; intro a ha; refine q_want (yields ha rfl rfl) ?_; refine q_g ha rfl (g_load0 hE153 Try.isAgg2 rfl hat333.one) ?_; clear ha a; intro a ha; refine q_want (yields ha rfl rfl) ?_; obtain ⟨x337, g338, gx339, hF⟩ := idx_some hF
        obtain ⟨p340, cs341, f342, hf343, hpb344, hat345, hr346, hi347⟩ := ha1_2.at g338 gx339
        obtain ⟨v348, rfl, h349⟩ := hr346
        have h349 : Ro Rp.int W f342 v348 x337 := h349
        refine q_g ha rfl (hi347.gives sl22 rfl rfl) ?_; clear ha a; intro a ha; refine q_want (yields ha rfl rfl) ?_; refine q_g ha rfl (g_load0 hE153 Try.isAgg25 rfl hat345.one) ?_; clear ha a; intro a ha; refine q_want (yields ha rfl rfl) ?_; refine q_g ha rfl (g_move rfl) ?_; clear ha a; intro a ha; refine q_want (yields ha rfl rfl) ?_; obtain ⟨x353, hc354, hF⟩ := cal_some hF; refine q_call (.bool x353) ha rfl rfl Try.call35 (fun w352 hx351 => W_spec_l1Same (h349.ext (Ext.trans hE153 hx351)) (h31.ext (Ext.trans hE153 hx351)) hc354) (fun _ _ _ h => ⟨h.1, h.2⟩) ?_; clear ha a; intro a ha; refine q_g ha rfl (g_pick rfl rfl) ?_; clear ha a; intro a ha
        refine q_g ha rfl (g_move rfl) ?_; clear ha a; intro a ha
        by_cases hp355 : x353 = true
        · replace hF := if_t hp355 hF
          rw [show (x353) = true from (Iff.rfl).2 hp355] at ha
          refine q_want (yields ha rfl rfl) ?_; refine q_g ha rfl (g_field0 st33_2 rfl) ?_; clear ha a; intro a ha; refine q_want (yields ha rfl rfl) ?_; refine q_g ha rfl (g_load Try.isAgg22 rfl (hB146.cell rfl)) ?_; clear ha a; intro a ha; refine q_want (yields ha rfl rfl) ?_; refine q_g ha rfl (g_move rfl) ?_; clear ha a; intro a ha; refine q_want (yields ha rfl rfl) ?_; obtain ⟨x356, g357, gx358, hF⟩ := idx_some hF
          obtain ⟨p359, cs360, f361, hf362, hpb363, hat364, hr365, hi366⟩ := h45.at g357 gx358
          obtain ⟨rfl, hI367, rfl⟩ := hr365
          refine q_g ha rfl (hi366.gives sl25 rfl rfl) ?_; clear ha a; intro a ha; refine q_want (yields ha rfl rfl) ?_; refine q_g ha rfl (g_load0 hE153 Try.isAgg2 rfl hat364.one) ?_; clear ha a; intro a ha; refine q_want (yields ha rfl rfl) ?_; obtain ⟨x368, g369, gx370, hF⟩ := idx_some hF
          obtain ⟨p371, cs372, f373, hf374, hpb375, hat376, hr377, hi378⟩ := ha1_2.at g369 gx370
          obtain ⟨v379, rfl, h380⟩ := hr377
          have h380 : Ro Rp.int W f373 v379 x368 := h380
          refine q_g ha rfl (hi378.gives sl22 rfl rfl) ?_; clear ha a; intro a ha; refine q_want (yields ha rfl rfl) ?_; refine q_g ha rfl (g_load0 hE153 Try.isAgg25 rfl hat376.one) ?_; clear ha a; intro a ha; refine q_want (yields ha rfl rfl) ?_; refine q_g ha rfl (g_move rfl) ?_; clear ha a; intro a ha; refine q_want (yields ha rfl rfl) ?_; obtain ⟨x384, hc385, hF⟩ := cal_some hF; refine q_call (.bool x384) ha rfl rfl Try.call35 (fun w383 hx382 => W_spec_l1Same (h380.ext (Ext.trans hE153 hx382)) (h31.ext (Ext.trans hE153 hx382)) hc385) (fun _ _ _ h => ⟨h.1, h.2⟩) ?_; clear ha a; intro a ha; refine q_g ha rfl (g_pick rfl rfl) ?_; clear ha a; intro a ha
          refine q_g ha rfl (g_assign rfl) ?_; clear ha a; intro a ha
          refine q_nil ?_; intro w386 hx387
          replace hB146 := hB146.ext hx387
          have hE388 := Ext.trans hE153 hx387
          replace ha := ha.sub (σ' := [(6, (.bool x384))]) ⟨rfl, trivial⟩; refine e_then ?_; refine wp_ret ?_; refine e_blk_ret ?_; refine e_then_ret ?_; obtain rfl := Option.some.inj hF
          exact f_ret1 ha rfl rfl ⟨rfl, hE388⟩
        replace hF := if_f hp355 hF
        rw [show (x353) = false from b_false (Iff.rfl) hp355] at ha
        (iterate 9 refine q_unwant ha rfl (yields ha rfl rfl) rfl ?_; clear ha a; intro a ha); refine q_g ha rfl (g_pick rfl rfl) ?_; clear ha a; intro a ha; refine q_g ha rfl (g_assign rfl) ?_; clear ha a; intro a ha
        refine q_nil ?_; intro w389 hx390
        replace hB146 := hB146.ext hx390
        have hE391 := Ext.trans hE153 hx390
        replace ha := ha.sub (σ' := [(6, (.bool false))]) ⟨rfl, trivial⟩; refine e_then ?_; refine wp_ret ?_; refine e_blk_ret ?_; refine e_then_ret ?_; obtain rfl := Option.some.inj hF
        exact f_ret1 ha rfl rfl ⟨rfl, hE391⟩
      replace hF := if_f hp324 hF
      rw [show (decide ((x33.length : Int) = 2)) = false from b_false (decide_eq_true_iff) hp324] at ha
      (iterate 9 refine q_unwant ha rfl (yields ha rfl rfl) rfl ?_; clear ha a; intro a ha); refine q_g ha rfl (g_pick rfl rfl) ?_; clear ha a; intro a ha; refine q_g ha rfl (g_move rfl) ?_; clear ha a; intro a ha; (iterate 9 refine q_unwant ha rfl (yields ha rfl rfl) rfl ?_; clear ha a; intro a ha); refine q_g ha rfl (g_pick rfl rfl) ?_; clear ha a; intro a ha; refine q_g ha rfl (g_assign rfl) ?_; clear ha a; intro a ha
      refine q_nil ?_; intro w392 hx393
      replace hB146 := hB146.ext hx393
      have hE394 := Ext.trans hE153 hx393
      replace ha := ha.sub (σ' := [(6, (.bool false))]) ⟨rfl, trivial⟩; refine e_then ?_; refine wp_ret ?_; refine e_blk_ret ?_; refine e_then_ret ?_; obtain rfl := Option.some.inj hF
      exact f_ret1 ha rfl rfl ⟨rfl, hE394⟩
    replace hF := if_f hp323 hF
    rw [show (decide (x311 = (-1))) = false from b_false (decide_eq_true_iff) hp323] at ha
    (iterate 3 refine q_unwant ha rfl (yields ha rfl rfl) rfl ?_; clear ha a; intro a ha); refine q_g ha rfl (g_pick rfl rfl) ?_; clear ha a; intro a ha; refine q_g ha rfl (g_move rfl) ?_; clear ha a; intro a ha; (iterate 9 refine q_unwant ha rfl (yields ha rfl rfl) rfl ?_; clear ha a; intro a ha); refine q_g ha rfl (g_pick rfl rfl) ?_; clear ha a; intro a ha; refine q_g ha rfl (g_move rfl) ?_; clear ha a; intro a ha; (iterate 9 refine q_unwant ha rfl (yields ha rfl rfl) rfl ?_; clear ha a; intro a ha); refine q_g ha rfl (g_pick rfl rfl) ?_; clear ha a; intro a ha; refine q_g ha rfl (g_assign rfl) ?_; clear ha a; intro a ha
    refine q_nil ?_; intro w395 hx396
    replace hB146 := hB146.ext hx396
    have hE397 := Ext.trans hE153 hx396
    replace ha := ha.sub (σ' := [(6, (.bool false))]) ⟨rfl, trivial⟩; refine e_then ?_; refine wp_ret ?_; refine e_blk_ret ?_; refine e_then_ret ?_; obtain rfl := Option.some.inj hF
    exact f_ret1 ha rfl rfl ⟨rfl, hE397⟩
  replace hF := if_f hp310 hF; refine wp_skip ?_; refine e_blk ?_; refine e_then ?_; refine wp_seq ?_; refine wp_region_lit ?_; refine op_g ha rfl (g_assign rfl) ?_; clear ha a; intro a ha; refine wpList_nil ?_; replace ha := ha.sub (σ' := [(6, (.bool false))]) ⟨rfl, trivial⟩; refine e_then ?_; refine wp_ret ?_; obtain rfl := Option.some.inj hF
  exact f_ret1 ha rfl rfl ⟨rfl, hE153⟩
set_option maxHeartbeats 2000000 in
theorem W_spec_l29Tree {W : World} {va0_0 : Value} {fa0_0 : List Nat} {a0_0 : (List Int)} (ha0_0 : Ro Rp.int W fa0_0 va0_0 a0_0) {va0_1 : Value} {fa0_1 : List Nat} {a0_1 : (List Int)} (ha0_1 : Ro Rp.int W fa0_1 va0_1 a0_1) {va0_2 : Value} {fa0_2 : List Nat} {a0_2 : (List (List Int))} (ha0_2 : Ro (Rp.sl 2 Rp.int) W fa0_2 va0_2 a0_2) {va0_3 : Value} {fa0_3 : List Nat} {a0_3 : (List (List Int))} (ha0_3 : Ro (Rp.sl 2 Rp.int) W fa0_3 va0_3 a0_3) {r : Bool} (hF : F_spec_l29Tree a0_0 a0_1 a0_2 a0_3 = some r) :
    Calls Try.prog 16 [.agg #[va0_0, va0_1, va0_2, va0_3]].toArray W (Ret fun u w' => u = .bool r ∧ Ext W w') := by
  refine f_enter Try.func16 rfl Try.ntmps16 rfl ?_
  intro a ha
  replace ha : Fr 53 [(0, (.agg #[va0_0, va0_1, va0_2, va0_3]))] a := ha
  have hE : Chg [] W W := Chg.refl _ _
  unfold F_spec_l29Tree at hF
  refine wp_seq ?_; refine wp_region_lit ?_
  refine o_box ha rfl rfl rfl ?_; clear ha a; intro b1 w2 hB3 hx4 hlo5 a ha
  have q6 := Zn.one hlo5
  have q7 := Zn.upD q6 hE
  have hE8 := Ext.trans hE hx4
  refine op_g ha rfl (g_assign rfl) ?_; clear ha a; intro a ha; refine wpList_nil ?_; replace ha := ha.sub (σ' := [(1, (.pointer (some ⟨b1, 0, none⟩)))]) ⟨rfl, trivial⟩; refine e_then ?_; refine wp_seq ?_; refine wp_region_lit ?_; refine op_g ha rfl (g_field0 st33_0 rfl) ?_; clear ha a; intro a ha; refine op_g ha rfl (g_load Try.isAgg25 rfl (hB3.cell rfl)) ?_; clear ha a; intro a ha; refine op_g ha rfl (g_lenR sl25.und ha0_0 rfl) ?_; clear ha a; intro a ha; obtain ⟨g13, g13b, hF⟩ := mkS_some hF
  refine o_make (z0 := (0 : Int)) Rp.int ha rfl sl25 rfl (fun w => ⟨rfl, by decide, rfl⟩) rfl g13 g13b ?_; clear ha a; intro v9 w10 h11 hx12 a ha
  obtain ⟨b16, hb16⟩ : ∃ b : Int, b = w2.heap.size := ⟨_, rfl⟩; rw [← hb16] at h11
  have q17 := zn_of hb16
  have q18 := Nq.new hB3.fpb q17
  have q19 := Nq.madeO q17 hB3.bi
  have q20 := Zn.upD q17 hE8
  replace hB3 := hB3.ext hx12
  have hE21 := Ext.trans hE8 hx12
  refine op_g ha rfl (g_assign rfl) ?_; clear ha a; intro a ha; refine wpList_nil ?_; replace ha := ha.sub (σ' := [(1, (.pointer (some ⟨b1, 0, none⟩))), (3, v9)]) ⟨rfl, rfl, trivial⟩; refine e_then ?_; refine wp_seq ?_; refine wp_seq ?_; refine wp_region_lit ?_; refine op_g ha rfl (g_assign rfl) ?_; clear ha a; intro a ha; refine wpList_nil ?_; refine e_then ?_; obtain ⟨o672, ho673, hK674⟩ := bnd_some hF
  obtain ⟨n675, hn676⟩ := lp_some ho673; clear ho673
  refine c_loop (fun a w => ∃ (l669 : (List Int)) (v670 : Value) (b671 : Int), Fr 53 [(3, v670)] a ∧ Chg [] W w ∧ Ow Rp.int 2 true w [] b671 v670 l669 ∧ Zn W b671 ∧ o672 = .inl l669) (fun n a w => ∃ (l347 : (List Int)) (i350 : Int) (v348 : Value) (b349 : Int), Fr 53 [(1, (.pointer (some ⟨b1, 0, none⟩))), (3, v348), (4, (.int .i64 i350))] a ∧ Chg [] W w ∧ InI i350 ∧ Bx w b1 [va0_0, va0_1, va0_2, va0_3] 33 ∧ Zn W (b1 : Int) ∧ Ow Rp.int 2 true w [] b349 v348 l347 ∧ Zn W b349 ∧ Nq ([b1]) b349 ∧ Nq (bl b349 ++ []) (b1 : Int) ∧ lpN (fun s => F_spec_l29Tree_l1 a0_3 s.1 s.2) n (l347, i350) = some o672) n675 ⟨(List.replicate ((a0_0.length : Int) : Int).toNat (0 : Int)), 0, v9, b16, ha.sub ⟨rfl, rfl, rfl, trivial⟩, hE21, (show InI 0 from by decide), hB3, q7, h11, q20, q18, q19, hn676⟩ ?_ ?_
  · rintro m680 a w341 ⟨l347, i350, v348, b349, ha, hE354, hI351, hB342, z343, h345, z346, q352, q353, hF⟩
    cases m680 with
    | zero => exact (lpN_zero hF).elim
    | succ m680 =>
      obtain ⟨z679, hF, hN678⟩ := lpN_succ hF
      have hF : F_spec_l29Tree_l1 a0_3 l347 i350 = some z679 := hF; unfold F_spec_l29Tree_l1 at hF
      refine wp_seq ?_; refine wp_seq ?_; refine wp_region_lit ?_; refine op_g ha rfl (g_move rfl) ?_; clear ha a; intro a ha; refine op_g ha rfl (g_field0 st33_3 rfl) ?_; clear ha a; intro a ha; refine op_g ha rfl (g_load Try.isAgg22 rfl (hB342.cell rfl)) ?_; clear ha a; intro a ha; refine op_g ha rfl (g_lenR sl22.und ha0_3 rfl) ?_; clear ha a; intro a ha; refine op_g ha rfl (g_lss rfl rfl) ?_; clear ha a; intro a ha; refine wpList_nil ?_; replace ha := ha.sub (σ' := [(1, (.pointer (some ⟨b1, 0, none⟩))), (3, v348), (4, (.int .i64 i350)), (15, (.bool (decide (i350 < (a0_3.length : Int)))))]) ⟨rfl, rfl, rfl, rfl, trivial⟩
      refine e_then ?_; refine c_cond (i350 < (a0_3.length : Int)) ha rfl (decide_eq_true_iff) (fun hp681 => ?_) (fun hp681 => ?_)
      · replace hF := if_t hp681 hF
        refine wp_skip ?_; refine e_then ?_; refine wp_seq ?_; refine wp_block ?_; refine wp_seq ?_; refine wp_region_lit ?_; refine op_g ha rfl (g_assign rfl) ?_; clear ha a; intro a ha; refine wpList_nil ?_; replace ha := ha.sub (σ' := [(1, (.pointer (some ⟨b1, 0, none⟩))), (3, v348), (4, (.int .i64 i350)), (5, (.int .i64 0))]) ⟨rfl, rfl, rfl, rfl, trivial⟩; refine e_then ?_; obtain ⟨o892, ho893, hK894⟩ := bnd_some hF
        obtain ⟨n895, hn896⟩ := lp_some ho893; clear ho893
        refine c_loop (fun a w => ∃ (l887 : (List Int)) (v888 : Value) (b889 : Int), Fr 53 [(1, (.pointer (some ⟨b1, 0, none⟩))), (3, v888), (4, (.int .i64 i350))] a ∧ Chg [] W w ∧ Bx w b1 [va0_0, va0_1, va0_2, va0_3] 33 ∧ Zn W (b1 : Int) ∧ Ow Rp.int 2 true w [] b889 v888 l887 ∧ Zn W b889 ∧ Nq ([b1]) b889 ∧ Nq (bl b889 ++ []) (b1 : Int) ∧ o892 = .inl l887) (fun n a w => ∃ (l785 : (List Int)) (i788 : Int) (v786 : Value) (b787 : Int), Fr 53 [(1, (.pointer (some ⟨b1, 0, none⟩))), (3, v786), (4, (.int .i64 i350)), (5, (.int .i64 i788))] a ∧ Chg [] W w ∧ InI i788 ∧ Bx w b1 [va0_0, va0_1, va0_2, va0_3] 33 ∧ Zn W (b1 : Int) ∧ Ow Rp.int 2 true w [] b787 v786 l785 ∧ Zn W b787 ∧ Nq ([b1]) b787 ∧ Nq (bl b787 ++ []) (b1 : Int) ∧ lpN (fun s => F_spec_l29Tree_l2 a0_3 i350 s.1 s.2) n (l785, i788) = some o892) n895 ⟨l347, 0, v348, b349, ha.sub ⟨rfl, rfl, rfl, rfl, trivial⟩, hE354, (show InI 0 from by decide), hB342, z343, h345, z346, q352, q353, hn896⟩ ?_ ?_
        · rintro m900 a w779 ⟨l785, i788, v786, b787, ha, hE792, hI789, hB780, z781, h783, z784, q790, q791, hF⟩
          cases m900 with
          | zero => exact (lpN_zero hF).elim
          | succ m900 =>
            obtain ⟨z899, hF, hN898⟩ := lpN_succ hF
            have hF : F_spec_l29Tree_l2 a0_3 i350 l785 i788 = some z899 := hF; unfold F_spec_l29Tree_l2 at hF
            refine wp_seq ?_; refine wp_seq ?_; refine wp_region_lit ?_; refine op_g ha rfl (g_move rfl) ?_; clear ha a; intro a ha; refine op_g ha rfl (g_field0 st33_3 rfl) ?_; clear ha a; intro a ha; refine op_g ha rfl (g_load Try.isAgg22 rfl (hB780.cell rfl)) ?_; clear ha a; intro a ha; refine op_g ha rfl (g_move rfl) ?_; clear ha a; intro a ha; obtain ⟨x901, g902, gx903, hF⟩ := idx_some hF
            obtain ⟨p904, cs905, f906, hf907, hpb908, hat909, hr910, hi911⟩ := ha0_3.at g902 gx903
            obtain ⟨v912, rfl, h913⟩ := hr910
            have h913 : Ro Rp.int W f906 v912 x901 := h913
            refine op_g ha rfl (hi911.gives sl22 rfl rfl) ?_; clear ha a; intro a ha; refine op_g ha rfl (g_load0 hE792 Try.isAgg25 rfl hat909.one) ?_; clear ha a; intro a ha; refine op_g ha rfl (g_lenR sl25.und h913 rfl) ?_; clear ha a; intro a ha; refine op_g ha rfl (g_lss rfl rfl) ?_; clear ha a; intro a ha; refine wpList_nil ?_; replace ha := ha.sub (σ' := [(1, (.pointer (some ⟨b1, 0, none⟩))), (3, v786), (4, (.int .i64 i350)), (5, (.int .i64 i788)), (25, (.bool (decide (i788 < (x901.length : Int)))))]) ⟨rfl, rfl, rfl, rfl, rfl, trivial⟩; refine e_then ?_; refine c_cond (i788 < (x901.length : Int)) ha rfl (decide_eq_true_iff) (fun hp915 => ?_) (fun hp915 => ?_)
            · replace hF := if_t hp915 hF
              refine wp_skip ?_; refine e_then ?_; refine wp_seq ?_; refine wp_block ?_; refine wp_region_lit ?_; refine op_g ha rfl (g_move rfl) ?_; clear ha a; intro a ha; refine op_g ha rfl (g_field0 st33_3 rfl) ?_; clear ha a; intro a ha; refine op_g ha rfl (g_load Try.isAgg22 rfl (hB780.cell rfl)) ?_; clear ha a; intro a ha; refine op_g ha rfl (g_move rfl) ?_; clear ha a; intro a ha; obtain ⟨x916, g917, gx918, hF⟩ := idx_some hF
              obtain ⟨p919, cs920, f921, hf922, hpb923, hat924, hr925, hi926⟩ := ha0_3.at g917 gx918
              obtain ⟨v927, rfl, h928⟩ := hr925
              have h928 : Ro Rp.int W f921 v927 x916 := h928
              refine op_g ha rfl (hi926.gives sl22 rfl rfl) ?_; clear ha a; intro a ha; refine op_g ha rfl (g_load0 hE792 Try.isAgg25 rfl hat924.one) ?_; clear ha a; intro a ha; refine op_g ha rfl (g_move rfl) ?_; clear ha a; intro a ha; obtain ⟨x930, g931, gx932, hF⟩ := idx_some hF
              obtain ⟨p933, cs934, f935, hf936, hpb937, hat938, hr939, hi940⟩ := h928.at g931 gx932
              obtain ⟨rfl, hI941, rfl⟩ := hr939
              refine op_g ha rfl (hi940.gives sl25 rfl rfl) ?_; clear ha a; intro a ha; refine op_g ha rfl (g_load0 hE792 Try.isAgg2 rfl hat938.one) ?_; clear ha a; intro a ha; obtain ⟨x942, g943, gx944, hF⟩ := idx_some hF
              obtain ⟨p945, cs946, f947, hf948, hpb949, hat950, hr951, hi952⟩ := h783.at g943 gx944
              obtain ⟨rfl, hI953, rfl⟩ := hr951
              refine op_g ha rfl (hi952.gives sl25 rfl rfl) ?_; clear ha a; intro a ha; refine op_g ha rfl (g_load Try.isAgg2 rfl hat950.one) ?_; clear ha a; intro a ha; obtain ⟨hI954, hF⟩ := ck_some hF; refine op_g ha rfl (g_add rfl rfl hI954) ?_; clear ha a; intro a ha; obtain ⟨x956, g957, gx958, hF⟩ := idx_some hF
              obtain ⟨p959, cs960, f961, hf962, hpb963, hat964, hr965, hi966⟩ := h783.at g957 gx958
              obtain ⟨rfl, hI967, rfl⟩ := hr965
              refine op_g ha rfl (hi966.gives sl25 rfl rfl) ?_; clear ha a; intro a ha
              refine o_storeE (f := []) (q := x942 + 1) ha Try.sizeOf2 rfl rfl rfl h783 hi966 ⟨rfl, hI954, rfl⟩ (Nq.nil _) ?_; intro w968 fs969 h970 hc971 hs972
              obtain rfl := Subst.nil hs972
              replace hB780 := hB780.nq hc971 q790
              have hE973 := Ext.then hE792 hc971 (Zn.bl z784)
              refine wpList_nil ?_; replace ha := ha.sub (σ' := [(1, (.pointer (some ⟨b1, 0, none⟩))), (3, v786), (4, (.int .i64 i350)), (5, (.int .i64 i788))]) ⟨rfl, rfl, rfl, rfl, trivial⟩; refine e_blk ?_; refine e_then ?_; refine wp_region_lit ?_; refine op_g ha rfl (g_move rfl) ?_; clear ha a; intro a ha; obtain ⟨hI974, hF⟩ := ck_some hF; refine op_g ha rfl (g_add rfl rfl hI974) ?_; clear ha a; intro a ha; refine op_g ha rfl (g_assign rfl) ?_; clear ha a; intro a ha; refine wpList_nil ?_; replace ha := ha.sub (σ' := [(1, (.pointer (some ⟨b1, 0, none⟩))), (3, v786), (4, (.int .i64 i350)), (5, (.int .i64 (i788 + 1)))]) ⟨rfl, rfl, rfl, rfl, trivial⟩
              refine e_lq ?_; obtain rfl := Option.some.inj hF
              exact ⟨_, Nat.lt_succ_self _, (l785.set ((x930 : Int).toNat) (x942 + 1)), i788 + 1, v786, b787, ha.sub ⟨rfl, rfl, rfl, rfl, trivial⟩, hE973, hI974, hB780, z781, h970, z784, q790, q791, hN898⟩
            replace hF := if_f hp915 hF; refine wp_exit ?_; refine e_then_exit ?_; refine e_lq_eq ?_; obtain rfl := Option.some.inj hF
            exact ⟨l785, v786, b787, ha.sub ⟨rfl, rfl, rfl, trivial⟩, hE792, hB780, z781, h783, z784, q790, q791, (LK_inr hN898).symm⟩
        rintro a w881 ⟨l887, v888, b889, ha, hE897, hB882, z883, h885, z886, q890, q891, rfl⟩
        have hF : F_spec_l29Tree_k3 i350 l887 = some _ := hK894; clear hK894; unfold F_spec_l29Tree_k3 at hF
        refine e_blk ?_; refine e_then ?_; refine wp_region_lit ?_; refine op_g ha rfl (g_move rfl) ?_; clear ha a; intro a ha; obtain ⟨hI976, hF⟩ := ck_some hF; refine op_g ha rfl (g_add rfl rfl hI976) ?_; clear ha a; intro a ha; refine op_g ha rfl (g_assign rfl) ?_; clear ha a; intro a ha; refine wpList_nil ?_; replace ha := ha.sub (σ' := [(1, (.pointer (some ⟨b1, 0, none⟩))), (3, v888), (4, (.int .i64 (i350 + 1)))]) ⟨rfl, rfl, rfl, trivial⟩; refine e_lq ?_; obtain rfl := Option.some.inj hF
        exact ⟨_, Nat.lt_succ_self _, l887, i350 + 1, v888, b889, ha.sub ⟨rfl, rfl, rfl, trivial⟩, hE897, hI976, hB882, z883, h885, z886, q890, q891, hN678⟩
      replace hF := if_f hp681 hF; refine wp_exit ?_; refine e_then_exit ?_; refine e_lq_eq ?_; obtain rfl := Option.some.inj hF
      exact ⟨l347, v348, b349, ha.sub ⟨rfl, trivial⟩, hE354, h345, z346, (LK_inr hN678).symm⟩
  rintro a w665 ⟨l669, v670, b671, ha, hE677, h667, z668, rfl⟩
  have hF : F_spec_l29Tree_k4 l669 = some _ := hK674; clear hK674; unfold F_spec_l29Tree_k4 at hF
  refine e_then ?_; refine wp_seq ?_; refine wp_seq ?_; refine wp_region_lit ?_; refine op_g ha rfl (g_assign rfl) ?_; clear ha a; intro a ha; refine wpList_nil ?_; refine e_then ?_; obtain ⟨o1039, ho1040, hK1041⟩ := bnd_some hF
  obtain ⟨n1042, hn1043⟩ := lp_some ho1040; clear ho1040
  refine c_loop (fun a w => Fr 53 [] a ∧ Chg [] W w ∧ o1039 = .inl ()) (fun n a w => ∃ (i1011 : Int), Fr 53 [(3, v670), (6, (.int .i64 i1011))] a ∧ Chg [] W w ∧ InI i1011 ∧ Ow Rp.int 2 true w [] b671 v670 l669 ∧ Zn W b671 ∧ lpN (fun s => F_spec_l29Tree_l5 l669 s) n i1011 = some o1039) n1042 ⟨0, ha.sub ⟨rfl, rfl, trivial⟩, hE677, (show InI 0 from by decide), h667, z668, hn1043⟩ ?_ ?_
  · rintro m1047 a w1007 ⟨i1011, ha, hE1013, hI1012, h1009, z1010, hF⟩
    cases m1047 with
    | zero => exact (lpN_zero hF).elim
    | succ m1047 =>
      obtain ⟨z1046, hF, hN1045⟩ := lpN_succ hF
      have hF : F_spec_l29Tree_l5 l669 i1011 = some z1046 := hF; unfold F_spec_l29Tree_l5 at hF
      refine wp_seq ?_; refine wp_seq ?_; refine wp_region_lit ?_; refine op_g ha rfl (g_move rfl) ?_; clear ha a; intro a ha; obtain ⟨hI1048, hF⟩ := ck_some hF; refine op_g ha rfl (g_add rfl rfl hI1048) ?_; clear ha a; intro a ha; refine op_g ha rfl (g_move rfl) ?_; clear ha a; intro a ha; refine op_g ha rfl (g_lenO sl25.und h1009 rfl) ?_; clear ha a; intro a ha; refine op_g ha rfl (g_lss rfl rfl) ?_; clear ha a; intro a ha; refine wpList_nil ?_; replace ha := ha.sub (σ' := [(3, v670), (6, (.int .i64 i1011)), (45, (.bool (decide ((i1011 + 1) < (l669.length : Int)))))]) ⟨rfl, rfl, rfl, trivial⟩
      refine e_then ?_; refine c_cond ((i1011 + 1) < (l669.length : Int)) ha rfl (decide_eq_true_iff) (fun hp1050 => ?_) (fun hp1050 => ?_)
      · replace hF := if_t hp1050 hF
        refine wp_skip ?_; refine e_then ?_; refine wp_seq ?_; refine wp_block ?_; refine wp_seq ?_; refine wp_region_lit ?_; (iterate 2 refine op_g ha rfl (g_move rfl) ?_; clear ha a; intro a ha); obtain ⟨x1051, g1052, gx1053, hF⟩ := idx_some hF
        obtain ⟨p1054, cs1055, f1056, hf1057, hpb1058, hat1059, hr1060, hi1061⟩ := h1009.at g1052 gx1053
        obtain ⟨rfl, hI1062, rfl⟩ := hr1060
        refine op_g ha rfl (hi1061.gives sl25 rfl rfl) ?_; clear ha a; intro a ha; refine op_g ha rfl (g_load Try.isAgg2 rfl hat1059.one) ?_; clear ha a; intro a ha; refine op_g ha rfl (g_neq rfl rfl) ?_; clear ha a; intro a ha; refine wpList_nil ?_; replace ha := ha.sub (σ' := [(3, v670), (6, (.int .i64 i1011)), (52, (.bool (decide (x1051 ≠ 1))))]) ⟨rfl, rfl, rfl, trivial⟩; refine e_then ?_; refine c_cond (x1051 ≠ 1) ha rfl (decide_eq_true_iff) (fun hp1063 => ?_) (fun hp1063 => ?_)
        · replace hF := if_t hp1063 hF
          refine wp_seq ?_; refine wp_region_lit ?_; refine op_g ha rfl (g_assign rfl) ?_; clear ha a; intro a ha; refine wpList_nil ?_; replace ha := ha.sub (σ' := [(2, (.bool false))]) ⟨rfl, trivial⟩; refine e_then ?_; refine wp_ret ?_; refine e_blk_ret ?_; refine e_then_ret ?_; refine e_lq_ret ?_; refine e_then_ret ?_; obtain rfl := Option.some.inj hF
          have e1064 := LK_inr hN1045; subst e1064
          have e1065 := BK_inr hK1041; subst e1065
          exact f_ret1 ha rfl rfl ⟨rfl, hE1013⟩
        replace hF := if_f hp1063 hF; refine wp_skip ?_; refine e_blk ?_; refine e_then ?_; refine wp_region_lit ?_; refine op_g ha rfl (g_move rfl) ?_; clear ha a; intro a ha; obtain ⟨hI1066, hF⟩ := ck_some hF; refine op_g ha rfl (g_add rfl rfl hI1066) ?_; clear ha a; intro a ha; refine op_g ha rfl (g_assign rfl) ?_; clear ha a; intro a ha; refine wpList_nil ?_; replace ha := ha.sub (σ' := [(3, v670), (6, (.int .i64 (i1011 + 1)))]) ⟨rfl, rfl, trivial⟩; refine e_lq ?_; obtain rfl := Option.some.inj hF
        exact ⟨_, Nat.lt_succ_self _, i1011 + 1, ha.sub ⟨rfl, rfl, trivial⟩, hE1013, hI1066, h1009, z1010, hN1045⟩
      replace hF := if_f hp1050 hF; refine wp_exit ?_; refine e_then_exit ?_; refine e_lq_eq ?_; obtain rfl := Option.some.inj hF
      exact ⟨ha.sub trivial, hE1013, (LK_inr hN1045).symm⟩
  rintro a w1038 ⟨ha, hE1044, rfl⟩
  have hF : F_spec_l29Tree_k6 = some _ := hK1041; clear hK1041; unfold F_spec_l29Tree_k6 at hF
  refine e_then ?_; refine wp_seq ?_; refine wp_region_lit ?_; refine op_g ha rfl (g_assign rfl) ?_; clear ha a; intro a ha; refine wpList_nil ?_; refine e_then ?_; refine wp_ret ?_; obtain rfl := Option.some.inj hF
  exact f_ret1 ha rfl rfl ⟨rfl, hE1044⟩
set_option maxHeartbeats 2000000 in
theorem W_spec_l25Mask {W : World} {va0 : Value} {fa0 : List Nat} {a0 : (List Int)} (ha0 : Ro Rp.int W fa0 va0 a0) {r : Int} (hF : F_spec_l25Mask a0 = some r) :
    Calls Try.prog 36 [va0].toArray W (Ret fun u w' => (u = .int .i64 r ∧ InI r) ∧ Ext W w') := by
  refine f_enter Try.func36 rfl Try.ntmps36 rfl ?_
  intro a ha
  replace ha : Fr 20 [(0, va0)] a := ha
  have hE : Chg [] W W := Chg.refl _ _
  unfold F_spec_l25Mask at hF
  refine wp_seq ?_; refine wp_region_lit ?_; refine op_g ha rfl (g_assign rfl) ?_; clear ha a; intro a ha; refine wpList_nil ?_; replace ha := ha.sub (σ' := [(0, va0)]) ⟨rfl, trivial⟩; refine e_then ?_; refine wp_seq ?_; refine wp_region_lit ?_; refine op_g ha rfl (g_assign rfl) ?_; clear ha a; intro a ha; refine wpList_nil ?_; refine e_then ?_; refine wp_seq ?_; refine wp_seq ?_; refine wp_region_lit ?_; refine op_g ha rfl (g_assign rfl) ?_; clear ha a; intro a ha; refine wpList_nil ?_; refine e_then ?_; obtain ⟨o58, ho59, hK60⟩ := bnd_some hF
  obtain ⟨n61, hn62⟩ := lp_some ho59; clear ho59
  refine c_loop (fun a w => ∃ (i56 : Int), Fr 20 [(3, (.int .i64 i56))] a ∧ Chg [] W w ∧ InI i56 ∧ o58 = .inl i56) (fun n a w => ∃ (i27 : Int) (i29 : Int), Fr 20 [(0, va0), (3, (.int .i64 i27)), (4, (.int .i64 i29))] a ∧ Chg [] W w ∧ InI i27 ∧ InI i29 ∧ lpN (fun s => F_spec_l25Mask_l1 a0 s.1 s.2) n (i27, i29) = some o58) n61 ⟨0, 0, ha.sub ⟨rfl, rfl, rfl, trivial⟩, hE, (show InI 0 from by decide), (show InI 0 from by decide), hn62⟩ ?_ ?_
  · rintro m66 a w26 ⟨i27, i29, ha, hE31, hI28, hI30, hF⟩
    cases m66 with
    | zero => exact (lpN_zero hF).elim
    | succ m66 =>
      obtain ⟨z65, hF, hN64⟩ := lpN_succ hF
      have hF : F_spec_l25Mask_l1 a0 i27 i29 = some z65 := hF; unfold F_spec_l25Mask_l1 at hF
      refine wp_seq ?_; refine wp_seq ?_; refine wp_region_lit ?_; (iterate 2 refine op_g ha rfl (g_move rfl) ?_; clear ha a; intro a ha); refine op_g ha rfl (g_lenR sl25.und ha0 rfl) ?_; clear ha a; intro a ha; refine op_g ha rfl (g_lss rfl rfl) ?_; clear ha a; intro a ha; refine wpList_nil ?_; replace ha := ha.sub (σ' := [(0, va0), (3, (.int .i64 i27)), (4, (.int .i64 i29)), (8, (.bool (decide (i29 < (a0.length : Int)))))]) ⟨rfl, rfl, rfl, rfl, trivial⟩; refine e_then ?_; refine c_cond (i29 < (a0.length : Int)) ha rfl (decide_eq_true_iff) (fun hp67 => ?_) (fun hp67 => ?_)
      · replace hF := if_t hp67 hF
        refine wp_skip ?_; refine e_then ?_; refine wp_seq ?_; refine wp_block ?_; refine wp_region_lit ?_; (iterate 3 refine op_g ha rfl (g_move rfl) ?_; clear ha a; intro a ha); obtain ⟨x68, g69, gx70, hF⟩ := idx_some hF
        obtain ⟨p71, cs72, f73, hf74, hpb75, hat76, hr77, hi78⟩ := ha0.at g69 gx70
        obtain ⟨rfl, hI79, rfl⟩ := hr77
        refine op_g ha rfl (hi78.gives sl25 rfl rfl) ?_; clear ha a; intro a ha; refine op_g ha rfl (g_load0 hE31 Try.isAgg2 rfl hat76.one) ?_; clear ha a; intro a ha; obtain ⟨h080, hF⟩ := grd_some hF; refine op_g ha rfl (g_conv6u un2 un71 rfl hI79 h080) ?_; clear ha a; intro a ha; obtain ⟨hI81, hF⟩ := ck_some hF; refine op_g ha rfl (g64_shl rfl rfl (inU_of hI79 h080).1 hI81) ?_; clear ha a; intro a ha; refine op_g ha rfl (g64_or rfl rfl) ?_; clear ha a; intro a ha; refine op_g ha rfl (g_assign rfl) ?_; clear ha a; intro a ha; refine wpList_nil ?_; replace ha := ha.sub (σ' := [(0, va0), (3, (.int .i64 (i64or i27 (1 * 2 ^ (x68 : Int).toNat)))), (4, (.int .i64 i29))]) ⟨rfl, rfl, rfl, trivial⟩
        refine e_blk ?_; refine e_then ?_; refine wp_region_lit ?_; refine op_g ha rfl (g_move rfl) ?_; clear ha a; intro a ha; obtain ⟨hI83, hF⟩ := ck_some hF; refine op_g ha rfl (g_add rfl rfl hI83) ?_; clear ha a; intro a ha; refine op_g ha rfl (g_assign rfl) ?_; clear ha a; intro a ha; refine wpList_nil ?_; replace ha := ha.sub (σ' := [(0, va0), (3, (.int .i64 (i64or i27 (1 * 2 ^ (x68 : Int).toNat)))), (4, (.int .i64 (i29 + 1)))]) ⟨rfl, rfl, rfl, trivial⟩; refine e_lq ?_; obtain rfl := Option.some.inj hF
        exact ⟨_, Nat.lt_succ_self _, i64or i27 (1 * 2 ^ (x68 : Int).toNat), i29 + 1, ha.sub ⟨rfl, rfl, rfl, trivial⟩, hE31, (in_i64or _ _), hI83, hN64⟩
      replace hF := if_f hp67 hF; refine wp_exit ?_; refine e_then_exit ?_; refine e_lq_eq ?_; obtain rfl := Option.some.inj hF
      exact ⟨i27, ha.sub ⟨rfl, trivial⟩, hE31, hI28, (LK_inr hN64).symm⟩
  rintro a w55 ⟨i56, ha, hE63, hI57, rfl⟩
  have hF : F_spec_l25Mask_k2 i56 = some _ := hK60; clear hK60; unfold F_spec_l25Mask_k2 at hF
  refine e_then ?_; refine wp_seq ?_; refine wp_region_lit ?_; refine op_g ha rfl (g_move rfl) ?_; clear ha a; intro a ha; refine op_g ha rfl (g_assign rfl) ?_; clear ha a; intro a ha; refine wpList_nil ?_; replace ha := ha.sub (σ' := [(2, (.int .i64 i56))]) ⟨rfl, trivial⟩; refine e_then ?_; refine wp_ret ?_; obtain rfl := Option.some.inj hF
  exact f_ret1 ha rfl rfl ⟨⟨rfl, hI57⟩, hE63⟩
set_option maxHeartbeats 2000000 in
theorem W_spec_l25Bits {W : World} {va0_0 : Value} {fa0_0 : List Nat} {a0_0 : (List (List Int))} (ha0_0 : Ro (Rp.sl 2 Rp.int) W fa0_0 va0_0 a0_0) {r : (List Int)} (hF : F_spec_l25Bits a0_0 = some r) :
    Calls Try.prog 37 [.agg #[va0_0]].toArray W (Ret fun u w' => ∃ (b_u : Int), Ow Rp.int 2 true w' [] b_u u r ∧ Zn W b_u ∧ Ext W w') := by
  refine f_enter Try.func37 rfl Try.ntmps37 rfl ?_
  intro a ha
  replace ha : Fr 42 [(0, (.agg #[va0_0]))] a := ha
  have hE : Chg [] W W := Chg.refl _ _
  unfold F_spec_l25Bits at hF
  refine wp_seq ?_; refine wp_region_lit ?_
  refine o_box ha rfl rfl rfl ?_; clear ha a; intro b1 w2 hB3 hx4 hlo5 a ha
  have q6 := Zn.one hlo5
  have q7 := Zn.upD q6 hE
  have hE8 := Ext.trans hE hx4
  refine op_g ha rfl (g_assign rfl) ?_; clear ha a; intro a ha; refine wpList_nil ?_; replace ha := ha.sub (σ' := [(1, (.pointer (some ⟨b1, 0, none⟩)))]) ⟨rfl, trivial⟩; refine e_then ?_; refine wp_seq ?_; refine wp_region_lit ?_
  refine o_lit0 Rp.int ha rfl sl25 ?_; clear ha a; intro v9 w10 h11 hx12 a ha
  obtain ⟨b14, hb14⟩ : ∃ b : Int, b = w2.heap.size := ⟨_, rfl⟩; rw [← hb14] at h11
  have q15 := zn_of hb14
  have q16 := Nq.new hB3.fpb q15
  have q17 := Nq.madeO q15 hB3.bi
  have q18 := Zn.upD q15 hE8
  replace hB3 := hB3.ext hx12
  have hE19 := Ext.trans hE8 hx12
  refine op_g ha rfl (g_assign rfl) ?_; clear ha a; intro a ha; refine wpList_nil ?_; replace ha := ha.sub (σ' := [(1, (.pointer (some ⟨b1, 0, none⟩))), (3, v9)]) ⟨rfl, rfl, trivial⟩; refine e_then ?_; refine wp_seq ?_; refine wp_seq ?_; refine wp_region_lit ?_; refine op_g ha rfl (g_assign rfl) ?_; clear ha a; intro a ha; refine wpList_nil ?_; refine e_then ?_; obtain ⟨o542, ho543, hK544⟩ := bnd_some hF
  obtain ⟨n545, hn546⟩ := lp_some ho543; clear ho543
  refine c_loop (fun a w => ∃ (l539 : (List Int)) (v540 : Value) (b541 : Int), Fr 42 [(3, v540)] a ∧ Chg [] W w ∧ Ow Rp.int 2 true w [] b541 v540 l539 ∧ Zn W b541 ∧ o542 = .inl l539) (fun n a w => ∃ (l281 : (List Int)) (i284 : Int) (v282 : Value) (b283 : Int), Fr 42 [(1, (.pointer (some ⟨b1, 0, none⟩))), (3, v282), (4, (.int .i64 i284))] a ∧ Chg [] W w ∧ InI i284 ∧ Bx w b1 [va0_0] 31 ∧ Zn W (b1 : Int) ∧ Ow Rp.int 2 true w [] b283 v282 l281 ∧ Zn W b283 ∧ Nq ([b1]) b283 ∧ Nq (bl b283 ++ []) (b1 : Int) ∧ lpN (fun s => F_spec_l25Bits_l1 a0_0 s.1 s.2) n (l281, i284) = some o542) n545 ⟨([] : (List Int)), 0, v9, b14, ha.sub ⟨rfl, rfl, rfl, trivial⟩, hE19, (show InI 0 from by decide), hB3, q7, h11, q18, q16, q17, hn546⟩ ?_ ?_
  · rintro m550 a w275 ⟨l281, i284, v282, b283, ha, hE288, hI285, hB276, z277, h279, z280, q286, q287, hF⟩
    cases m550 with
    | zero => exact (lpN_zero hF).elim
    | succ m550 =>
      obtain ⟨z549, hF, hN548⟩ := lpN_succ hF
      have hF : F_spec_l25Bits_l1 a0_0 l281 i284 = some z549 := hF; unfold F_spec_l25Bits_l1 at hF
      refine wp_seq ?_; refine wp_seq ?_; refine wp_region_lit ?_; refine op_g ha rfl (g_move rfl) ?_; clear ha a; intro a ha; refine op_g ha rfl (g_field0 st31_0 rfl) ?_; clear ha a; intro a ha; refine op_g ha rfl (g_load Try.isAgg22 rfl (hB276.cell rfl)) ?_; clear ha a; intro a ha; refine op_g ha rfl (g_lenR sl22.und ha0_0 rfl) ?_; clear ha a; intro a ha; refine op_g ha rfl (g_lss rfl rfl) ?_; clear ha a; intro a ha; refine wpList_nil ?_; replace ha := ha.sub (σ' := [(1, (.pointer (some ⟨b1, 0, none⟩))), (3, v282), (4, (.int .i64 i284)), (12, (.bool (decide (i284 < (a0_0.length : Int)))))]) ⟨rfl, rfl, rfl, rfl, trivial⟩
      refine e_then ?_; refine c_cond (i284 < (a0_0.length : Int)) ha rfl (decide_eq_true_iff) (fun hp551 => ?_) (fun hp551 => ?_)
      · replace hF := if_t hp551 hF
        refine wp_skip ?_; refine e_then ?_; refine wp_seq ?_; refine wp_block ?_; refine wp_seq ?_; refine wp_region_lit ?_; refine op_g ha rfl (g_assign rfl) ?_; clear ha a; intro a ha; refine wpList_nil ?_; replace ha := ha.sub (σ' := [(1, (.pointer (some ⟨b1, 0, none⟩))), (3, v282), (4, (.int .i64 i284)), (5, (.int .i64 0))]) ⟨rfl, rfl, rfl, rfl, trivial⟩; refine e_then ?_; refine wp_seq ?_; refine wp_seq ?_; refine wp_region_lit ?_; refine op_g ha rfl (g_assign rfl) ?_; clear ha a; intro a ha; refine wpList_nil ?_; replace ha := ha.sub (σ' := [(1, (.pointer (some ⟨b1, 0, none⟩))), (3, v282), (4, (.int .i64 i284)), (5, (.int .i64 0)), (6, (.int .i64 0))]) ⟨rfl, rfl, rfl, rfl, rfl, trivial⟩
        refine e_then ?_; obtain ⟨o700, ho701, hK702⟩ := bnd_some hF
        obtain ⟨n703, hn704⟩ := lp_some ho701; clear ho701
        refine c_loop (fun a w => ∃ (i696 : Int), Fr 42 [(1, (.pointer (some ⟨b1, 0, none⟩))), (3, v282), (4, (.int .i64 i284)), (5, (.int .i64 i696))] a ∧ Chg [] W w ∧ InI i696 ∧ Bx w b1 [va0_0] 31 ∧ Zn W (b1 : Int) ∧ Ow Rp.int 2 true w [] b283 v282 l281 ∧ Zn W b283 ∧ Nq ([b1]) b283 ∧ Nq (bl b283 ++ []) (b1 : Int) ∧ o700 = .inl i696) (fun n a w => ∃ (i625 : Int) (i627 : Int), Fr 42 [(1, (.pointer (some ⟨b1, 0, none⟩))), (3, v282), (4, (.int .i64 i284)), (5, (.int .i64 i625)), (6, (.int .i64 i627))] a ∧ Chg [] W w ∧ InI i625 ∧ InI i627 ∧ Bx w b1 [va0_0] 31 ∧ Zn W (b1 : Int) ∧ Ow Rp.int 2 true w [] b283 v282 l281 ∧ Zn W b283 ∧ Nq ([b1]) b283 ∧ Nq (bl b283 ++ []) (b1 : Int) ∧ lpN (fun s => F_spec_l25Bits_l2 a0_0 i284 s.1 s.2) n (i625, i627) = some o700) n703 ⟨0, 0, ha.sub ⟨rfl, rfl, rfl, rfl, rfl, trivial⟩, hE288, (show InI 0 from by decide), (show InI 0 from by decide), hB276, z277, h279, z280, q286, q287, hn704⟩ ?_ ?_
        · rintro m708 a w619 ⟨i625, i627, ha, hE631, hI626, hI628, hB620, z621, h623, z624, q629, q630, hF⟩
          cases m708 with
          | zero => exact (lpN_zero hF).elim
          | succ m708 =>
            obtain ⟨z707, hF, hN706⟩ := lpN_succ hF
            have hF : F_spec_l25Bits_l2 a0_0 i284 i625 i627 = some z707 := hF; unfold F_spec_l25Bits_l2 at hF
            refine wp_seq ?_; refine wp_seq ?_; refine wp_region_lit ?_; refine op_g ha rfl (g_move rfl) ?_; clear ha a; intro a ha; refine op_g ha rfl (g_field0 st31_0 rfl) ?_; clear ha a; intro a ha; refine op_g ha rfl (g_load Try.isAgg22 rfl (hB620.cell rfl)) ?_; clear ha a; intro a ha; refine op_g ha rfl (g_move rfl) ?_; clear ha a; intro a ha; obtain ⟨x709, g710, gx711, hF⟩ := idx_some hF
            obtain ⟨p712, cs713, f714, hf715, hpb716, hat717, hr718, hi719⟩ := ha0_0.at g710 gx711
            obtain ⟨v720, rfl, h721⟩ := hr718
            have h721 : Ro Rp.int W f714 v720 x709 := h721
            refine op_g ha rfl (hi719.gives sl22 rfl rfl) ?_; clear ha a; intro a ha; refine op_g ha rfl (g_load0 hE631 Try.isAgg25 rfl hat717.one) ?_; clear ha a; intro a ha; refine op_g ha rfl (g_lenR sl25.und h721 rfl) ?_; clear ha a; intro a ha; refine op_g ha rfl (g_lss rfl rfl) ?_; clear ha a; intro a ha; refine wpList_nil ?_; replace ha := ha.sub (σ' := [(1, (.pointer (some ⟨b1, 0, none⟩))), (3, v282), (4, (.int .i64 i284)), (5, (.int .i64 i625)), (6, (.int .i64 i627)), (22, (.bool (decide (i627 < (x709.length : Int)))))]) ⟨rfl, rfl, rfl, rfl, rfl, rfl, trivial⟩; refine e_then ?_; refine c_cond (i627 < (x709.length : Int)) ha rfl (decide_eq_true_iff) (fun hp723 => ?_) (fun hp723 => ?_)
            · replace hF := if_t hp723 hF
              refine wp_skip ?_; refine e_then ?_; refine wp_seq ?_; refine wp_block ?_; refine wp_region_lit ?_; refine op_g ha rfl (g_move rfl) ?_; clear ha a; intro a ha; refine op_g ha rfl (g_field0 st31_0 rfl) ?_; clear ha a; intro a ha; refine op_g ha rfl (g_load Try.isAgg22 rfl (hB620.cell rfl)) ?_; clear ha a; intro a ha; refine op_g ha rfl (g_move rfl) ?_; clear ha a; intro a ha; obtain ⟨x724, g725, gx726, hF⟩ := idx_some hF
              obtain ⟨p727, cs728, f729, hf730, hpb731, hat732, hr733, hi734⟩ := ha0_0.at g725 gx726
              obtain ⟨v735, rfl, h736⟩ := hr733
              have h736 : Ro Rp.int W f729 v735 x724 := h736
              refine op_g ha rfl (hi734.gives sl22 rfl rfl) ?_; clear ha a; intro a ha; refine op_g ha rfl (g_load0 hE631 Try.isAgg25 rfl hat732.one) ?_; clear ha a; intro a ha; refine op_g ha rfl (g_move rfl) ?_; clear ha a; intro a ha; obtain ⟨x738, g739, gx740, hF⟩ := idx_some hF
              obtain ⟨p741, cs742, f743, hf744, hpb745, hat746, hr747, hi748⟩ := h736.at g739 gx740
              obtain ⟨rfl, hI749, rfl⟩ := hr747
              refine op_g ha rfl (hi748.gives sl25 rfl rfl) ?_; clear ha a; intro a ha; refine op_g ha rfl (g_load0 hE631 Try.isAgg2 rfl hat746.one) ?_; clear ha a; intro a ha; obtain ⟨h0750, hF⟩ := grd_some hF; refine op_g ha rfl (g_conv6u un2 un71 rfl hI749 h0750) ?_; clear ha a; intro a ha; obtain ⟨hI751, hF⟩ := ck_some hF; refine op_g ha rfl (g64_shl rfl rfl (inU_of hI749 h0750).1 hI751) ?_; clear ha a; intro a ha; refine op_g ha rfl (g64_or rfl rfl) ?_; clear ha a; intro a ha; refine op_g ha rfl (g_assign rfl) ?_; clear ha a; intro a ha; refine wpList_nil ?_; replace ha := ha.sub (σ' := [(1, (.pointer (some ⟨b1, 0, none⟩))), (3, v282), (4, (.int .i64 i284)), (5, (.int .i64 (i64or i625 (1 * 2 ^ (x738 : Int).toNat)))), (6, (.int .i64 i627))]) ⟨rfl, rfl, rfl, rfl, rfl, trivial⟩
              refine e_blk ?_; refine e_then ?_; refine wp_region_lit ?_; refine op_g ha rfl (g_move rfl) ?_; clear ha a; intro a ha; obtain ⟨hI753, hF⟩ := ck_some hF; refine op_g ha rfl (g_add rfl rfl hI753) ?_; clear ha a; intro a ha; refine op_g ha rfl (g_assign rfl) ?_; clear ha a; intro a ha; refine wpList_nil ?_; replace ha := ha.sub (σ' := [(1, (.pointer (some ⟨b1, 0, none⟩))), (3, v282), (4, (.int .i64 i284)), (5, (.int .i64 (i64or i625 (1 * 2 ^ (x738 : Int).toNat)))), (6, (.int .i64 (i627 + 1)))]) ⟨rfl, rfl, rfl, rfl, rfl, trivial⟩; refine e_lq ?_; obtain rfl := Option.some.inj hF
              exact ⟨_, Nat.lt_succ_self _, i64or i625 (1 * 2 ^ (x738 : Int).toNat), i627 + 1, ha.sub ⟨rfl, rfl, rfl, rfl, rfl, trivial⟩, hE631, (in_i64or _ _), hI753, hB620, z621, h623, z624, q629, q630, hN706⟩
            replace hF := if_f hp723 hF; refine wp_exit ?_; refine e_then_exit ?_; refine e_lq_eq ?_; obtain rfl := Option.some.inj hF
            exact ⟨i625, ha.sub ⟨rfl, rfl, rfl, rfl, trivial⟩, hE631, hI626, hB620, z621, h623, z624, q629, q630, (LK_inr hN706).symm⟩
        rintro a w690 ⟨i696, ha, hE705, hI697, hB691, z692, h694, z695, q698, q699, rfl⟩
        have hF : F_spec_l25Bits_k3 l281 i284 i696 = some _ := hK702; clear hK702; unfold F_spec_l25Bits_k3 at hF
        refine e_then ?_; refine wp_region_lit ?_; (iterate 2 refine op_g ha rfl (g_move rfl) ?_; clear ha a; intro a ha)
        refine o_lit1 (o := true) (y := i696) Rp.int ha rfl sl25 rfl rfl rfl ⟨rfl, hI697, rfl⟩ ?_; clear ha a; intro v755 w756 h757 hx758 a ha
        obtain ⟨b760, hb760⟩ : ∃ b : Int, b = w690.heap.size := ⟨_, rfl⟩; rw [← hb760] at h757
        have q761 := zn_of hb760
        have q762 := Nq.new hB691.fpb q761
        have q763 := Nq.madeO q761 hB691.bi
        have q764 := Nq.new h694.fpb q761
        have q765 := Nq.madeO q761 h694.blt
        have q766 := Zn.upD q761 hE705
        replace hB691 := hB691.ext hx758
        replace h694 := h694.ext hx758
        have hE767 := Ext.trans hE705 hx758
        obtain ⟨hl768, hF⟩ := app_some hF
        refine o_append ha rfl sl25 rfl rfl rfl h694 h757.src (Nq.nil _) hl768 ?_; clear ha a; intro v769 w770 b771 h772 hc773 hb774 a ha
        replace h772 : Ow Rp.int 2 true w770 [] b771 v769 _ := h772
        have q776 := Nq.appY q698 hB691.fpb hb774
        have q777 := Nq.appX q699 (Nq.nil _) hb774 hB691.bi
        have q778 := Nq.appY q765 h757.fpb hb774
        have q779 := Nq.appX q764 (Nq.nil _) hb774 h757.blt
        have q780 := Zn.appD z695 hb774 hE767
        replace hB691 := hB691.nq hc773 q698
        replace h757 := h757.nq hc773 q765
        have hE781 := Ext.then hE767 hc773 (Zn.bl z695)
        refine op_g ha rfl (g_assign rfl) ?_; clear ha a; intro a ha; refine wpList_nil ?_; replace ha := ha.sub (σ' := [(1, (.pointer (some ⟨b1, 0, none⟩))), (3, v769), (4, (.int .i64 i284))]) ⟨rfl, rfl, rfl, trivial⟩; refine e_blk ?_; refine e_then ?_; refine wp_region_lit ?_; refine op_g ha rfl (g_move rfl) ?_; clear ha a; intro a ha; obtain ⟨hI782, hF⟩ := ck_some hF; refine op_g ha rfl (g_add rfl rfl hI782) ?_; clear ha a; intro a ha; refine op_g ha rfl (g_assign rfl) ?_; clear ha a; intro a ha; refine wpList_nil ?_; replace ha := ha.sub (σ' := [(1, (.pointer (some ⟨b1, 0, none⟩))), (3, v769), (4, (.int .i64 (i284 + 1)))]) ⟨rfl, rfl, rfl, trivial⟩
        refine e_lq ?_; obtain rfl := Option.some.inj hF
        exact ⟨_, Nat.lt_succ_self _, (l281 ++ ([i696])), i284 + 1, v769, b771, ha.sub ⟨rfl, rfl, rfl, trivial⟩, hE781, hI782, hB691, z692, h772, q780, q776, q777, hN548⟩
      replace hF := if_f hp551 hF; refine wp_exit ?_; refine e_then_exit ?_; refine e_lq_eq ?_; obtain rfl := Option.some.inj hF
      exact ⟨l281, v282, b283, ha.sub ⟨rfl, trivial⟩, hE288, h279, z280, (LK_inr hN548).symm⟩
  rintro a w535 ⟨l539, v540, b541, ha, hE547, h537, z538, rfl⟩
  have hF : F_spec_l25Bits_k4 l539 = some _ := hK544; clear hK544; unfold F_spec_l25Bits_k4 at hF
  refine e_then ?_; refine wp_seq ?_; refine wp_region_lit ?_; refine op_g ha rfl (g_move rfl) ?_; clear ha a; intro a ha; refine op_g ha rfl (g_assign rfl) ?_; clear ha a; intro a ha; refine wpList_nil ?_; replace ha := ha.sub (σ' := [(2, v540)]) ⟨rfl, trivial⟩; refine e_then ?_; refine wp_ret ?_; obtain rfl := Option.some.inj hF
  exact f_ret1 ha rfl rfl ⟨_, h537, z538, hE547⟩
set_option maxHeartbeats 2000000 in
theorem W_spec_l29Whole {W : World} {va0_0 : Value} {fa0_0 : List Nat} {a0_0 : (List (List Int))} (ha0_0 : Ro (Rp.sl 2 Rp.int) W fa0_0 va0_0 a0_0) {va1_0 : Value} {fa1_0 : List Nat} {a1_0 : (List Int)} (ha1_0 : Ro Rp.int W fa1_0 va1_0 a1_0) {va1_1 : Value} {fa1_1 : List Nat} {a1_1 : (List Int)} (ha1_1 : Ro Rp.int W fa1_1 va1_1 a1_1) {va1_2 : Value} {fa1_2 : List Nat} {a1_2 : (List (List Int))} (ha1_2 : Ro (Rp.sl 2 Rp.int) W fa1_2 va1_2 a1_2) {va1_3 : Value} {fa1_3 : List Nat} {a1_3 : (List (List Int))} (ha1_3 : Ro (Rp.sl 2 Rp.int) W fa1_3 va1_3 a1_3) {r : Bool} (hF : F_spec_l29Whole a0_0 a1_0 a1_1 a1_2 a1_3 = some r) :
    Calls Try.prog 17 [.agg #[va0_0], .agg #[va1_0, va1_1, va1_2, va1_3]].toArray W (Ret fun u w' => u = .bool r ∧ Ext W w') := by
  refine f_enter Try.func17 rfl Try.ntmps17 rfl ?_
  intro a ha
  replace ha : Fr 107 [(0, (.agg #[va0_0])), (1, (.agg #[va1_0, va1_1, va1_2, va1_3]))] a := ha
  have hE : Chg [] W W := Chg.refl _ _
  unfold F_spec_l29Whole at hF
  refine wp_seq ?_; refine wp_region_lit ?_
  refine o_box ha rfl rfl rfl ?_; clear ha a; intro b1 w2 hB3 hx4 hlo5 a ha
  have q6 := Zn.one hlo5
  have q7 := Zn.upD q6 hE
  have hE8 := Ext.trans hE hx4
  refine o_box ha rfl rfl rfl ?_; clear ha a; intro b9 w10 hB11 hx12 hlo13 a ha
  have q14 := Zn.one hlo13
  have q15 := Nq.new hB3.fpb q14
  have q16 := Nq.made1 hlo13 hB3.bi
  have q17 := Zn.upD q14 hE8
  replace hB3 := hB3.ext hx12
  have hE18 := Ext.trans hE8 hx12
  refine op_g ha rfl (g_assign rfl) ?_; clear ha a; intro a ha; refine wpList_nil ?_; replace ha := ha.sub (σ' := [(2, (.pointer (some ⟨b1, 0, none⟩))), (3, (.pointer (some ⟨b9, 0, none⟩)))]) ⟨rfl, rfl, trivial⟩; refine e_then ?_; refine wp_seq ?_; refine wp_region_lit ?_; refine op_g ha rfl (g_field0 st31_0 rfl) ?_; clear ha a; intro a ha; refine op_g ha rfl (g_load Try.isAgg22 rfl (hB3.cell rfl)) ?_; clear ha a; intro a ha; refine op_g ha rfl (g_lenR sl22.und ha0_0 rfl) ?_; clear ha a; intro a ha; obtain ⟨g23, g23b, hF⟩ := mkS_some hF
  refine o_make (z0 := (0 : Int)) Rp.int ha rfl sl25 rfl (fun w => ⟨rfl, by decide, rfl⟩) rfl g23 g23b ?_; clear ha a; intro v19 w20 h21 hx22 a ha
  obtain ⟨b26, hb26⟩ : ∃ b : Int, b = w10.heap.size := ⟨_, rfl⟩; rw [← hb26] at h21
  have q27 := zn_of hb26
  have q28 := Nq.new hB3.fpb q27
  have q29 := Nq.madeO q27 hB3.bi
  have q30 := Nq.new hB11.fpb q27
  have q31 := Nq.madeO q27 hB11.bi
  have q32 := Zn.upD q27 hE18
  replace hB3 := hB3.ext hx22
  replace hB11 := hB11.ext hx22
  have hE33 := Ext.trans hE18 hx22
  refine op_g ha rfl (g_assign rfl) ?_; clear ha a; intro a ha; refine wpList_nil ?_; replace ha := ha.sub (σ' := [(2, (.pointer (some ⟨b1, 0, none⟩))), (3, (.pointer (some ⟨b9, 0, none⟩))), (5, v19)]) ⟨rfl, rfl, rfl, trivial⟩; refine e_then ?_; refine wp_seq ?_; refine wp_region_lit ?_; refine op_g ha rfl (g_field0 st31_0 rfl) ?_; clear ha a; intro a ha; refine op_g ha rfl (g_load Try.isAgg22 rfl (hB3.cell rfl)) ?_; clear ha a; intro a ha; refine op_g ha rfl (g_lenR sl22.und ha0_0 rfl) ?_; clear ha a; intro a ha; obtain ⟨g38, g38b, hF⟩ := mkS_some hF
  refine o_make (z0 := (0 : Int)) Rp.int ha rfl sl25 rfl (fun w => ⟨rfl, by decide, rfl⟩) rfl g38 g38b ?_; clear ha a; intro v34 w35 h36 hx37 a ha
  obtain ⟨b41, hb41⟩ : ∃ b : Int, b = w20.heap.size := ⟨_, rfl⟩; rw [← hb41] at h36
  have q42 := zn_of hb41
  have q43 := Nq.new hB3.fpb q42
  have q44 := Nq.madeO q42 hB3.bi
  have q45 := Nq.new hB11.fpb q42
  have q46 := Nq.madeO q42 hB11.bi
  have q47 := Nq.new h21.fpb q42
  have q48 := Nq.madeO q42 h21.blt
  have q49 := Zn.upD q42 hE33
  replace hB3 := hB3.ext hx37
  replace hB11 := hB11.ext hx37
  replace h21 := h21.ext hx37
  have hE50 := Ext.trans hE33 hx37
  refine op_g ha rfl (g_assign rfl) ?_; clear ha a; intro a ha; refine wpList_nil ?_; replace ha := ha.sub (σ' := [(2, (.pointer (some ⟨b1, 0, none⟩))), (3, (.pointer (some ⟨b9, 0, none⟩))), (5, v19), (6, v34)]) ⟨rfl, rfl, rfl, rfl, trivial⟩; refine e_then ?_; refine wp_seq ?_; refine wp_seq ?_; refine wp_region_lit ?_; refine op_g ha rfl (g_assign rfl) ?_; clear ha a; intro a ha; refine wpList_nil ?_; replace ha := ha.sub (σ' := [(2, (.pointer (some ⟨b1, 0, none⟩))), (3, (.pointer (some ⟨b9, 0, none⟩))), (5, v19), (6, v34), (7, (.int .i64 0))]) ⟨rfl, rfl, rfl, rfl, rfl, trivial⟩; refine e_then ?_
  obtain ⟨o1444, ho1445, hK1446⟩ := bnd_some hF
  obtain ⟨n1447, hn1448⟩ := lp_some ho1445; clear ho1445
  refine c_loop (fun a w => ∃ (l1429 : (List Int)) (l1435 : (List Int)) (v1430 : Value) (b1431 : Int) (v1436 : Value) (b1437 : Int), Fr 107 [(2, (.pointer (some ⟨b1, 0, none⟩))), (5, v1430), (6, v1436)] a ∧ Chg [] W w ∧ Bx w b1 [va0_0] 31 ∧ Zn W (b1 : Int) ∧ Ow Rp.int 2 true w [] b1431 v1430 l1429 ∧ Zn W b1431 ∧ Ow Rp.int 2 true w [] b1437 v1436 l1435 ∧ Zn W b1437 ∧ Nq ([b1]) b1431 ∧ Nq ([b1]) b1437 ∧ Nq (bl b1431 ++ []) (b1 : Int) ∧ Nq (bl b1431 ++ []) b1437 ∧ Nq (bl b1437 ++ []) (b1 : Int) ∧ Nq (bl b1437 ++ []) b1431 ∧ o1444 = .inl (l1429, l1435)) (fun n a w => ∃ (l741 : (List Int)) (l747 : (List Int)) (i750 : Int) (v742 : Value) (b743 : Int) (v748 : Value) (b749 : Int), Fr 107 [(2, (.pointer (some ⟨b1, 0, none⟩))), (3, (.pointer (some ⟨b9, 0, none⟩))), (5, v742), (6, v748), (7, (.int .i64 i750))] a ∧ Chg [] W w ∧ InI i750 ∧ Bx w b1 [va0_0] 31 ∧ Zn W (b1 : Int) ∧ Bx w b9 [va1_0, va1_1, va1_2, va1_3] 33 ∧ Zn W (b9 : Int) ∧ Ow Rp.int 2 true w [] b743 v742 l741 ∧ Zn W b743 ∧ Ow Rp.int 2 true w [] b749 v748 l747 ∧ Zn W b749 ∧ Nq ([b1]) (b9 : Int) ∧ Nq ([b1]) b743 ∧ Nq ([b1]) b749 ∧ Nq ([b9]) (b1 : Int) ∧ Nq ([b9]) b743 ∧ Nq ([b9]) b749 ∧ Nq (bl b743 ++ []) (b1 : Int) ∧ Nq (bl b743 ++ []) (b9 : Int) ∧ Nq (bl b743 ++ []) b749 ∧ Nq (bl b749 ++ []) (b1 : Int) ∧ Nq (bl b749 ++ []) (b9 : Int) ∧ Nq (bl b749 ++ []) b743 ∧ lpN (fun s => F_spec_l29Whole_l1 a1_0 a1_1 a1_2 s.1 s.2.1 s.2.2) n (l741, l747, i750) = some o1444) n1447 ⟨(List.replicate ((a0_0.length : Int) : Int).toNat (0 : Int)), (List.replicate ((a0_0.length : Int) : Int).toNat (0 : Int)), 0, v19, b26, v34, b41, ha.sub ⟨rfl, rfl, rfl, rfl, rfl, trivial⟩, hE50, (show InI 0 from by decide), hB3, q7, hB11, q17, h21, q32, h36, q49, q15, q28, q43, q16, q30, q45, q29, q31, q47, q44, q46, q48, hn1448⟩ ?_ ?_
  · rintro m1452 a w733 ⟨l741, l747, i750, v742, b743, v748, b749, ha, hE764, hI751, hB734, z735, hB736, z737, h739, z740, h745, z746, q752, q753, q754, q755, q756, q757, q758, q759, q760, q761, q762, q763, hF⟩
    cases m1452 with
    | zero => exact (lpN_zero hF).elim
    | succ m1452 =>
      obtain ⟨z1451, hF, hN1450⟩ := lpN_succ hF
      have hF : F_spec_l29Whole_l1 a1_0 a1_1 a1_2 l741 l747 i750 = some z1451 := hF; unfold F_spec_l29Whole_l1 at hF
      refine wp_seq ?_; refine wp_seq ?_; refine wp_region_lit ?_; refine op_g ha rfl (g_move rfl) ?_; clear ha a; intro a ha; refine op_g ha rfl (g_field0 st33_0 rfl) ?_; clear ha a; intro a ha; refine op_g ha rfl (g_load Try.isAgg25 rfl (hB736.cell rfl)) ?_; clear ha a; intro a ha; refine op_g ha rfl (g_lenR sl25.und ha1_0 rfl) ?_; clear ha a; intro a ha; refine op_g ha rfl (g_lss rfl rfl) ?_; clear ha a; intro a ha; refine wpList_nil ?_; replace ha := ha.sub (σ' := [(2, (.pointer (some ⟨b1, 0, none⟩))), (3, (.pointer (some ⟨b9, 0, none⟩))), (5, v742), (6, v748), (7, (.int .i64 i750)), (24, (.bool (decide (i750 < (a1_0.length : Int)))))]) ⟨rfl, rfl, rfl, rfl, rfl, rfl, trivial⟩
      refine e_then ?_; refine c_cond (i750 < (a1_0.length : Int)) ha rfl (decide_eq_true_iff) (fun hp1453 => ?_) (fun hp1453 => ?_)
      · replace hF := if_t hp1453 hF
        refine wp_skip ?_; refine e_then ?_; refine wp_seq ?_; refine wp_block ?_; obtain ⟨o1511, ho1512, hK1513⟩ := bnd_some hF
        have hF := ho1512; clear ho1512
        refine s_cut (fun a w => ∃ (l1522 : (List Int)) (v1523 : Value) (b1524 : Int), Fr 107 [(2, (.pointer (some ⟨b1, 0, none⟩))), (3, (.pointer (some ⟨b9, 0, none⟩))), (5, v1523), (6, v748), (7, (.int .i64 i750))] a ∧ Chg [] W w ∧ Bx w b1 [va0_0] 31 ∧ Zn W (b1 : Int) ∧ Bx w b9 [va1_0, va1_1, va1_2, va1_3] 33 ∧ Zn W (b9 : Int) ∧ Ow Rp.int 2 true w [] b1524 v1523 l1522 ∧ Zn W b1524 ∧ Ow Rp.int 2 true w [] b749 v748 l747 ∧ Zn W b749 ∧ Nq ([b1]) (b9 : Int) ∧ Nq ([b1]) b1524 ∧ Nq ([b1]) b749 ∧ Nq ([b9]) (b1 : Int) ∧ Nq ([b9]) b1524 ∧ Nq ([b9]) b749 ∧ Nq (bl b1524 ++ []) (b1 : Int) ∧ Nq (bl b1524 ++ []) (b9 : Int) ∧ Nq (bl b1524 ++ []) b749 ∧ Nq (bl b749 ++ []) (b1 : Int) ∧ Nq (bl b749 ++ []) (b9 : Int) ∧ Nq (bl b749 ++ []) b1524 ∧ o1511 = .inl l1522) ?_ ?_
        · skip
          refine wp_seq ?_; refine wp_region_lit ?_; refine op_g ha rfl (g_field0 st33_0 rfl) ?_; clear ha a; intro a ha; refine op_g ha rfl (g_load Try.isAgg25 rfl (hB736.cell rfl)) ?_; clear ha a; intro a ha; refine op_g ha rfl (g_move rfl) ?_; clear ha a; intro a ha; obtain ⟨x1541, g1542, gx1543, hF⟩ := idx_some hF
          obtain ⟨p1544, cs1545, f1546, hf1547, hpb1548, hat1549, hr1550, hi1551⟩ := ha1_0.at g1542 gx1543
          obtain ⟨rfl, hI1552, rfl⟩ := hr1550
          refine op_g ha rfl (hi1551.gives sl25 rfl rfl) ?_; clear ha a; intro a ha; refine op_g ha rfl (g_load0 hE764 Try.isAgg2 rfl hat1549.one) ?_; clear ha a; intro a ha; refine op_g ha rfl (g_eql rfl rfl) ?_; clear ha a; intro a ha; refine wpList_nil ?_; replace ha := ha.sub (σ' := [(2, (.pointer (some ⟨b1, 0, none⟩))), (3, (.pointer (some ⟨b9, 0, none⟩))), (5, v742), (6, v748), (7, (.int .i64 i750)), (32, (.bool (decide (x1541 = 3))))]) ⟨rfl, rfl, rfl, rfl, rfl, rfl, trivial⟩; refine e_then ?_; refine c_cond (x1541 = 3) ha rfl (decide_eq_true_iff) (fun hp1553 => ?_) (fun hp1553 => ?_)
          · replace hF := if_t hp1553 hF
            refine wp_region_lit ?_; refine op_g ha rfl (g_move rfl) ?_; clear ha a; intro a ha; refine op_g ha rfl (g_field0 st33_1 rfl) ?_; clear ha a; intro a ha; refine op_g ha rfl (g_load Try.isAgg25 rfl (hB736.cell rfl)) ?_; clear ha a; intro a ha; refine op_g ha rfl (g_move rfl) ?_; clear ha a; intro a ha; obtain ⟨x1554, g1555, gx1556, hF⟩ := idx_some hF
            obtain ⟨p1557, cs1558, f1559, hf1560, hpb1561, hat1562, hr1563, hi1564⟩ := ha1_1.at g1555 gx1556
            obtain ⟨rfl, hI1565, rfl⟩ := hr1563
            refine op_g ha rfl (hi1564.gives sl25 rfl rfl) ?_; clear ha a; intro a ha; refine op_g ha rfl (g_load0 hE764 Try.isAgg2 rfl hat1562.one) ?_; clear ha a; intro a ha; obtain ⟨x1566, g1567, gx1568, hF⟩ := idx_some hF
            obtain ⟨p1569, cs1570, f1571, hf1572, hpb1573, hat1574, hr1575, hi1576⟩ := h739.at g1567 gx1568
            obtain ⟨rfl, hI1577, rfl⟩ := hr1575
            refine op_g ha rfl (hi1576.gives sl25 rfl rfl) ?_; clear ha a; intro a ha; refine op_g ha rfl (g_load Try.isAgg2 rfl hat1574.one) ?_; clear ha a; intro a ha; obtain ⟨hI1578, hF⟩ := ck_some hF; refine op_g ha rfl (g_add rfl rfl hI1578) ?_; clear ha a; intro a ha; obtain ⟨x1580, g1581, gx1582, hF⟩ := idx_some hF
            obtain ⟨p1583, cs1584, f1585, hf1586, hpb1587, hat1588, hr1589, hi1590⟩ := h739.at g1581 gx1582
            obtain ⟨rfl, hI1591, rfl⟩ := hr1589
            refine op_g ha rfl (hi1590.gives sl25 rfl rfl) ?_; clear ha a; intro a ha
            refine o_storeE (f := []) (q := x1566 + 1) ha Try.sizeOf2 rfl rfl rfl h739 hi1590 ⟨rfl, hI1578, rfl⟩ (Nq.nil _) ?_; intro w1592 fs1593 h1594 hc1595 hs1596
            obtain rfl := Subst.nil hs1596
            replace hB734 := hB734.nq hc1595 q753
            replace hB736 := hB736.nq hc1595 q756
            replace h745 := h745.nq hc1595 q763
            have hE1597 := Ext.then hE764 hc1595 (Zn.bl z740)
            refine wpList_nil ?_; replace ha := ha.sub (σ' := [(2, (.pointer (some ⟨b1, 0, none⟩))), (3, (.pointer (some ⟨b9, 0, none⟩))), (5, v742), (6, v748), (7, (.int .i64 i750))]) ⟨rfl, rfl, rfl, rfl, rfl, trivial⟩; refine e_sq ?_; obtain rfl := Option.some.inj hF
            exact ⟨(l741.set ((x1554 : Int).toNat) (x1566 + 1)), v742, b743, ha.sub ⟨rfl, rfl, rfl, rfl, rfl, trivial⟩, hE1597, hB734, z735, hB736, z737, h1594, z740, h745, z746, q752, q753, q754, q755, q756, q757, q758, q759, q760, q761, q762, q763, rfl⟩
          replace hF := if_f hp1553 hF; refine wp_skip ?_; refine e_sq ?_; obtain rfl := Option.some.inj hF
          exact ⟨l741, v742, b743, ha.sub ⟨rfl, rfl, rfl, rfl, rfl, trivial⟩, hE764, hB734, z735, hB736, z737, h739, z740, h745, z746, q752, q753, q754, q755, q756, q757, q758, q759, q760, q761, q762, q763, rfl⟩
        rintro a w1514 ⟨l1522, v1523, b1524, ha, hE1540, hB1515, z1516, hB1517, z1518, h1520, z1521, h1526, z1527, q1528, q1529, q1530, q1531, q1532, q1533, q1534, q1535, q1536, q1537, q1538, q1539, rfl⟩
        have hF : F_spec_l29Whole_k2 a1_2 l747 i750 l1522 = some _ := hK1513; clear hK1513; unfold F_spec_l29Whole_k2 at hF
        refine wp_seq ?_; refine wp_region_lit ?_; refine op_g ha rfl (g_field0 st33_2 rfl) ?_; clear ha a; intro a ha; refine op_g ha rfl (g_load Try.isAgg22 rfl (hB1517.cell rfl)) ?_; clear ha a; intro a ha; refine op_g ha rfl (g_move rfl) ?_; clear ha a; intro a ha; obtain ⟨x1598, g1599, gx1600, hF⟩ := idx_some hF
        obtain ⟨p1601, cs1602, f1603, hf1604, hpb1605, hat1606, hr1607, hi1608⟩ := ha1_2.at g1599 gx1600
        obtain ⟨v1609, rfl, h1610⟩ := hr1607
        have h1610 : Ro Rp.int W f1603 v1609 x1598 := h1610
        refine op_g ha rfl (hi1608.gives sl22 rfl rfl) ?_; clear ha a; intro a ha; refine op_g ha rfl (g_load0 hE1540 Try.isAgg25 rfl hat1606.one) ?_; clear ha a; intro a ha; obtain ⟨x1612, hc1613, hF⟩ := cal_some hF
        refine o_call ha rfl rfl Try.call36 (W_spec_l25Mask (h1610.ext hE1540) hc1613) ?_; clear ha a; rintro v1614 w1615 ⟨⟨rfl, hI1617⟩, hx1616⟩ a ha
        replace hB1515 := hB1515.ext hx1616
        replace hB1517 := hB1517.ext hx1616
        replace h1520 := h1520.ext hx1616
        replace h1526 := h1526.ext hx1616
        have hE1618 := Ext.trans hE1540 hx1616
        refine op_g ha rfl (g_assign rfl) ?_; clear ha a; intro a ha; refine wpList_nil ?_; replace ha := ha.sub (σ' := [(2, (.pointer (some ⟨b1, 0, none⟩))), (3, (.pointer (some ⟨b9, 0, none⟩))), (5, v1523), (6, v748), (7, (.int .i64 i750)), (8, (.int .i64 x1612))]) ⟨rfl, rfl, rfl, rfl, rfl, rfl, trivial⟩; refine e_then ?_; refine wp_seq ?_; refine wp_region_lit ?_; refine op_g ha rfl (g_assign rfl) ?_; clear ha a; intro a ha; refine wpList_nil ?_; replace ha := ha.sub (σ' := [(2, (.pointer (some ⟨b1, 0, none⟩))), (3, (.pointer (some ⟨b9, 0, none⟩))), (5, v1523), (6, v748), (7, (.int .i64 i750)), (8, (.int .i64 x1612)), (9, (.int .i64 0))]) ⟨rfl, rfl, rfl, rfl, rfl, rfl, rfl, trivial⟩
        refine e_then ?_; obtain ⟨o1964, ho1965, hK1966⟩ := bnd_some hF
        obtain ⟨n1967, hn1968⟩ := lp_some ho1965; clear ho1965
        refine c_loop (fun a w => ∃ (l1949 : (List Int)) (v1950 : Value) (b1951 : Int), Fr 107 [(2, (.pointer (some ⟨b1, 0, none⟩))), (3, (.pointer (some ⟨b9, 0, none⟩))), (5, v1523), (6, v1950), (7, (.int .i64 i750))] a ∧ Chg [] W w ∧ Bx w b1 [va0_0] 31 ∧ Zn W (b1 : Int) ∧ Bx w b9 [va1_0, va1_1, va1_2, va1_3] 33 ∧ Zn W (b9 : Int) ∧ Ow Rp.int 2 true w [] b1524 v1523 l1522 ∧ Zn W b1524 ∧ Ow Rp.int 2 true w [] b1951 v1950 l1949 ∧ Zn W b1951 ∧ Nq ([b1]) (b9 : Int) ∧ Nq ([b1]) b1524 ∧ Nq ([b1]) b1951 ∧ Nq ([b9]) (b1 : Int) ∧ Nq ([b9]) b1524 ∧ Nq ([b9]) b1951 ∧ Nq (bl b1524 ++ []) (b1 : Int) ∧ Nq (bl b1524 ++ []) (b9 : Int) ∧ Nq (bl b1524 ++ []) b1951 ∧ Nq (bl b1951 ++ []) (b1 : Int) ∧ Nq (bl b1951 ++ []) (b9 : Int) ∧ Nq (bl b1951 ++ []) b1524 ∧ o1964 = .inl l1949) (fun n a w => ∃ (l1787 : (List Int)) (i1790 : Int) (v1788 : Value) (b1789 : Int), Fr 107 [(2, (.pointer (some ⟨b1, 0, none⟩))), (3, (.pointer (some ⟨b9, 0, none⟩))), (5, v1523), (6, v1788), (7, (.int .i64 i750)), (8, (.int .i64 x1612)), (9, (.int .i64 i1790))] a ∧ Chg [] W w ∧ InI i1790 ∧ Bx w b1 [va0_0] 31 ∧ Zn W (b1 : Int) ∧ Bx w b9 [va1_0, va1_1, va1_2, va1_3] 33 ∧ Zn W (b9 : Int) ∧ Ow Rp.int 2 true w [] b1524 v1523 l1522 ∧ Zn W b1524 ∧ Ow Rp.int 2 true w [] b1789 v1788 l1787 ∧ Zn W b1789 ∧ Nq ([b1]) (b9 : Int) ∧ Nq ([b1]) b1524 ∧ Nq ([b1]) b1789 ∧ Nq ([b9]) (b1 : Int) ∧ Nq ([b9]) b1524 ∧ Nq ([b9]) b1789 ∧ Nq (bl b1524 ++ []) (b1 : Int) ∧ Nq (bl b1524 ++ []) (b9 : Int) ∧ Nq (bl b1524 ++ []) b1789 ∧ Nq (bl b1789 ++ []) (b1 : Int) ∧ Nq (bl b1789 ++ []) (b9 : Int) ∧ Nq (bl b1789 ++ []) b1524 ∧ lpN (fun s => F_spec_l29Whole_l3 a1_2 i750 x1612 s.1 s.2) n (l1787, i1790) = some o1964) n1967 ⟨l747, 0, v748, b749, ha.sub ⟨rfl, rfl, rfl, rfl, rfl, rfl, rfl, trivial⟩, hE1618, (show InI 0 from by decide), hB1515, z1516, hB1517, z1518, h1520, z1521, h1526, z1527, q1528, q1529, q1530, q1531, q1532, q1533, q1534, q1535, q1536, q1537, q1538, q1539, hn1968⟩ ?_ ?_
        · rintro m1972 a w1776 ⟨l1787, i1790, v1788, b1789, ha, hE1804, hI1791, hB1777, z1778, hB1779, z1780, h1782, z1783, h1785, z1786, q1792, q1793, q1794, q1795, q1796, q1797, q1798, q1799, q1800, q1801, q1802, q1803, hF⟩
          cases m1972 with
          | zero => exact (lpN_zero hF).elim
          | succ m1972 =>
            obtain ⟨z1971, hF, hN1970⟩ := lpN_succ hF
            have hF : F_spec_l29Whole_l3 a1_2 i750 x1612 l1787 i1790 = some z1971 := hF; unfold F_spec_l29Whole_l3 at hF
            refine wp_seq ?_; refine wp_seq ?_; refine wp_region_lit ?_; refine op_g ha rfl (g_move rfl) ?_; clear ha a; intro a ha; refine op_g ha rfl (g_field0 st33_2 rfl) ?_; clear ha a; intro a ha; refine op_g ha rfl (g_load Try.isAgg22 rfl (hB1779.cell rfl)) ?_; clear ha a; intro a ha; refine op_g ha rfl (g_move rfl) ?_; clear ha a; intro a ha; obtain ⟨x1973, g1974, gx1975, hF⟩ := idx_some hF
            obtain ⟨p1976, cs1977, f1978, hf1979, hpb1980, hat1981, hr1982, hi1983⟩ := ha1_2.at g1974 gx1975
            obtain ⟨v1984, rfl, h1985⟩ := hr1982
            have h1985 : Ro Rp.int W f1978 v1984 x1973 := h1985
            refine op_g ha rfl (hi1983.gives sl22 rfl rfl) ?_; clear ha a; intro a ha; refine op_g ha rfl (g_load0 hE1804 Try.isAgg25 rfl hat1981.one) ?_; clear ha a; intro a ha; refine op_g ha rfl (g_lenR sl25.und h1985 rfl) ?_; clear ha a; intro a ha; refine op_g ha rfl (g_lss rfl rfl) ?_; clear ha a; intro a ha; refine wpList_nil ?_; replace ha := ha.sub (σ' := [(2, (.pointer (some ⟨b1, 0, none⟩))), (3, (.pointer (some ⟨b9, 0, none⟩))), (5, v1523), (6, v1788), (7, (.int .i64 i750)), (8, (.int .i64 x1612)), (9, (.int .i64 i1790)), (56, (.bool (decide (i1790 < (x1973.length : Int)))))]) ⟨rfl, rfl, rfl, rfl, rfl, rfl, rfl, rfl, trivial⟩
            refine e_then ?_; refine c_cond (i1790 < (x1973.length : Int)) ha rfl (decide_eq_true_iff) (fun hp1987 => ?_) (fun hp1987 => ?_)
            · replace hF := if_t hp1987 hF
              refine wp_skip ?_; refine e_then ?_; refine wp_seq ?_; refine wp_block ?_; refine d_region [0, 1, 2, 3, 4, 5, 6, 7, 8, 9, 10, 11, 12, 13, 14, 15, 16, 17, 18, 19, 20, 21, 22] hmix ?_; refine u_g 0 rfl (by kernel_rfl) (want0 _) ha rfl (g_move rfl) ?_; clear ha a; intro a ha; refine u_g 1 rfl (by kernel_rfl) (want0 _) ha rfl (g_field0 st33_2 rfl) ?_; clear ha a; intro a ha; refine u_g 2 rfl (by kernel_rfl) (want0 _) ha rfl (g_load Try.isAgg22 rfl (hB1779.cell rfl)) ?_; clear ha a; intro a ha; refine u_g 3 rfl (by kernel_rfl) (want0 _) ha rfl (g_move rfl) ?_; clear ha a; intro a ha; obtain ⟨x1988, g1989, gx1990, hF⟩ := idx_some hF
              obtain ⟨p1991, cs1992, f1993, hf1994, hpb1995, hat1996, hr1997, hi1998⟩ := ha1_2.at g1989 gx1990
              obtain ⟨v1999, rfl, h2000⟩ := hr1997
              have h2000 : Ro Rp.int W f1993 v1999 x1988 := h2000
              refine u_g 4 rfl (by kernel_rfl) (want0 _) ha rfl (hi1998.gives sl22 rfl rfl) ?_; clear ha a; intro a ha; refine u_g 5 rfl (by kernel_rfl) (want0 _) ha rfl (g_load0 hE1804 Try.isAgg25 rfl hat1996.one) ?_; clear ha a; intro a ha; refine u_g 6 rfl (by kernel_rfl) (want0 _) ha rfl (g_move rfl) ?_; clear ha a; intro a ha; obtain ⟨x2002, g2003, gx2004, hF⟩ := idx_some hF
              obtain ⟨p2005, cs2006, f2007, hf2008, hpb2009, hat2010, hr2011, hi2012⟩ := h2000.at g2003 gx2004
              obtain ⟨rfl, hI2013, rfl⟩ := hr2011
              refine u_g 7 rfl (by kernel_rfl) (want0 _) ha rfl (hi2012.gives sl25 rfl rfl) ?_; clear ha a; intro a ha; refine u_g 8 rfl (by kernel_rfl) (want0 _) ha rfl (g_load0 hE1804 Try.isAgg2 rfl hat2010.one) ?_; clear ha a; intro a ha; refine u_g 9 rfl (by kernel_rfl) (want0 _) ha rfl (g_move rfl) ?_; clear ha a; intro a ha; refine u_g 10 rfl (by kernel_rfl) (want0 _) ha rfl (g_field0 st33_2 rfl) ?_; clear ha a; intro a ha; refine u_g 11 rfl (by kernel_rfl) (want0 _) ha rfl (g_load Try.isAgg22 rfl (hB1779.cell rfl)) ?_; clear ha a; intro a ha; refine u_g 12 rfl (by kernel_rfl) (want0 _) ha rfl (g_move rfl) ?_; clear ha a; intro a ha
              obtain ⟨x2014, g2015, gx2016, hF⟩ := idx_some hF
              obtain ⟨p2017, cs2018, f2019, hf2020, hpb2021, hat2022, hr2023, hi2024⟩ := ha1_2.at g2015 gx2016
              obtain ⟨v2025, rfl, h2026⟩ := hr2023
              have h2026 : Ro Rp.int W f2019 v2025 x2014 := h2026
              refine u_g 13 rfl (by kernel_rfl) (want0 _) ha rfl (hi2024.gives sl22 rfl rfl) ?_; clear ha a; intro a ha; refine u_g 14 rfl (by kernel_rfl) (want0 _) ha rfl (g_load0 hE1804 Try.isAgg25 rfl hat2022.one) ?_; clear ha a; intro a ha; refine u_g 15 rfl (by kernel_rfl) (want0 _) ha rfl (g_move rfl) ?_; clear ha a; intro a ha; obtain ⟨x2028, g2029, gx2030, hF⟩ := idx_some hF
              obtain ⟨p2031, cs2032, f2033, hf2034, hpb2035, hat2036, hr2037, hi2038⟩ := h2026.at g2029 gx2030
              obtain ⟨rfl, hI2039, rfl⟩ := hr2037
              refine u_g 16 rfl (by kernel_rfl) (want0 _) ha rfl (hi2038.gives sl25 rfl rfl) ?_; clear ha a; intro a ha; refine u_g 17 rfl (by kernel_rfl) (want0 _) ha rfl (g_load0 hE1804 Try.isAgg2 rfl hat2036.one) ?_; clear ha a; intro a ha; obtain ⟨x2040, g2041, gx2042, hF⟩ := idx_some hF
              obtain ⟨p2043, cs2044, f2045, hf2046, hpb2047, hat2048, hr2049, hi2050⟩ := h1785.at g2041 gx2042
              obtain ⟨rfl, hI2051, rfl⟩ := hr2049
              refine u_g 18 rfl (by kernel_rfl) (want0 _) ha rfl (hi2050.gives sl25 rfl rfl) ?_; clear ha a; intro a ha; refine u_g 19 rfl (by kernel_rfl) (want0 _) ha rfl (g_load Try.isAgg2 rfl hat2048.one) ?_; clear ha a; intro a ha; refine u_g 20 rfl (by kernel_rfl) (want0 _) ha rfl (g_move rfl) ?_; clear ha a; intro a ha; refine u_g 21 rfl (by kernel_rfl) (want0 _) ha rfl (g64_or rfl rfl) ?_; clear ha a; intro a ha; obtain ⟨x2052, g2053, gx2054, hF⟩ := idx_some hF
              obtain ⟨p2055, cs2056, f2057, hf2058, hpb2059, hat2060, hr2061, hi2062⟩ := h1785.at g2053 gx2054
              obtain ⟨rfl, hI2063, rfl⟩ := hr2061
              refine u_g 22 rfl (by kernel_rfl) (want0 _) ha rfl (hi2062.gives sl25 rfl rfl) ?_; clear ha a; intro a ha
              refine u_only 23 rfl (by kernel_rfl) ?_; intro w2064 hx2065
              replace hB1777 := hB1777.ext hx2065
              replace hB1779 := hB1779.ext hx2065
              replace h1782 := h1782.ext hx2065
              replace h1785 := h1785.ext hx2065
              have hE2066 := Ext.trans hE1804 hx2065
              refine o_storeE (f := []) (q := i64or x2040 x1612) ha Try.sizeOf2 rfl rfl rfl h1785 hi2062 ⟨rfl, (in_i64or _ _), rfl⟩ (Nq.nil _) ?_; intro w2067 fs2068 h2069 hc2070 hs2071
              obtain rfl := Subst.nil hs2071
              replace hB1777 := hB1777.nq hc2070 q1794
              replace hB1779 := hB1779.nq hc2070 q1797
              replace h1782 := h1782.nq hc2070 q1800
              have hE2072 := Ext.then hE2066 hc2070 (Zn.bl z1786)
              refine wpList_nil (e_sq ?_)
              refine ⟨fun h => absurd h (by decide), ?_⟩
              refine u_done (by kernel_rfl) ?_; intro w2073 hx2074
              replace hB1777 := hB1777.ext hx2074
              replace hB1779 := hB1779.ext hx2074
              replace h1782 := h1782.ext hx2074
              replace h2069 := h2069.ext hx2074
              have hE2075 := Ext.trans hE2072 hx2074
              replace ha := ha.sub (σ' := [(2, (.pointer (some ⟨b1, 0, none⟩))), (3, (.pointer (some ⟨b9, 0, none⟩))), (5, v1523), (6, v1788), (7, (.int .i64 i750)), (8, (.int .i64 x1612)), (9, (.int .i64 i1790))]) ⟨rfl, rfl, rfl, rfl, rfl, rfl, rfl, trivial⟩; refine e_blk ?_; refine e_then ?_; refine wp_region_lit ?_; refine op_g ha rfl (g_move rfl) ?_; clear ha a; intro a ha; obtain ⟨hI2076, hF⟩ := ck_some hF; refine op_g ha rfl (g_add rfl rfl hI2076) ?_; clear ha a; intro a ha; refine op_g ha rfl (g_assign rfl) ?_; clear ha a; intro a ha; refine wpList_nil ?_; replace ha := ha.sub (σ' := [(2, (.pointer (some ⟨b1, 0, none⟩))), (3, (.pointer (some ⟨b9, 0, none⟩))), (5, v1523), (6, v1788), (7, (.int .i64 i750)), (8, (.int .i64 x1612)), (9, (.int .i64 (i1790 + 1)))]) ⟨rfl, rfl, rfl, rfl, rfl, rfl, rfl, trivial⟩
              refine e_lq ?_; obtain rfl := Option.some.inj hF
              exact ⟨_, Nat.lt_succ_self _, (l1787.set ((x2002 : Int).toNat) (i64or x2040 x1612)), i1790 + 1, v1788, b1789, ha.sub ⟨rfl, rfl, rfl, rfl, rfl, rfl, rfl, trivial⟩, hE2075, hI2076, hB1777, z1778, hB1779, z1780, h1782, z1783, h2069, z1786, q1792, q1793, q1794, q1795, q1796, q1797, q1798, q1799, q1800, q1801, q1802, q1803, hN1970⟩
            replace hF := if_f hp1987 hF; refine wp_exit ?_; refine e_then_exit ?_; refine e_lq_eq ?_; obtain rfl := Option.some.inj hF
            exact ⟨l1787, v1788, b1789, ha.sub ⟨rfl, rfl, rfl, rfl, rfl, trivial⟩, hE1804, hB1777, z1778, hB1779, z1780, h1782, z1783, h1785, z1786, q1792, q1793, q1794, q1795, q1796, q1797, q1798, q1799, q1800, q1801, q1802, q1803, (LK_inr hN1970).symm⟩
        rintro a w1938 ⟨l1949, v1950, b1951, ha, hE1969, hB1939, z1940, hB1941, z1942, h1944, z1945, h1947, z1948, q1952, q1953, q1954, q1955, q1956, q1957, q1958, q1959, q1960, q1961, q1962, q1963, rfl⟩
        have hF : F_spec_l29Whole_k4 i750 l1522 l1949 = some _ := hK1966; clear hK1966; unfold F_spec_l29Whole_k4 at hF
        refine e_blk ?_; refine e_then ?_; refine wp_region_lit ?_; refine op_g ha rfl (g_move rfl) ?_; clear ha a; intro a ha; obtain ⟨hI2078, hF⟩ := ck_some hF; refine op_g ha rfl (g_add rfl rfl hI2078) ?_; clear ha a; intro a ha; refine op_g ha rfl (g_assign rfl) ?_; clear ha a; intro a ha; refine wpList_nil ?_; replace ha := ha.sub (σ' := [(2, (.pointer (some ⟨b1, 0, none⟩))), (3, (.pointer (some ⟨b9, 0, none⟩))), (5, v1523), (6, v1950), (7, (.int .i64 (i750 + 1)))]) ⟨rfl, rfl, rfl, rfl, rfl, trivial⟩; refine e_lq ?_; obtain rfl := Option.some.inj hF
        exact ⟨_, Nat.lt_succ_self _, l1522, l1949, i750 + 1, v1523, b1524, v1950, b1951, ha.sub ⟨rfl, rfl, rfl, rfl, rfl, trivial⟩, hE1969, hI2078, hB1939, z1940, hB1941, z1942, h1944, z1945, h1947, z1948, q1952, q1953, q1954, q1955, q1956, q1957, q1958, q1959, q1960, q1961, q1962, q1963, hN1450⟩
      replace hF := if_f hp1453 hF; refine wp_exit ?_; refine e_then_exit ?_; refine e_lq_eq ?_; obtain rfl := Option.some.inj hF
      exact ⟨l741, l747, v742, b743, v748, b749, ha.sub ⟨rfl, rfl, rfl, trivial⟩, hE764, hB734, z735, h739, z740, h745, z746, q753, q754, q758, q760, q761, q763, (LK_inr hN1450).symm⟩
  rintro a w1423 ⟨l1429, l1435, v1430, b1431, v1436, b1437, ha, hE1449, hB1424, z1425, h1427, z1428, h1433, z1434, q1438, q1439, q1440, q1441, q1442, q1443, rfl⟩
  have hF : F_spec_l29Whole_k5 a0_0 l1429 l1435 = some _ := hK1446; clear hK1446; unfold F_spec_l29Whole_k5 at hF
  refine e_then ?_; refine wp_seq ?_; refine wp_region_lit ?_; refine op_g ha rfl (g_loadA (cs := [va0_0]) Try.isAgg31 Try.sizeOf31 rfl (by simp) hB1424.all) ?_; clear ha a; intro a ha; obtain ⟨x2080, hc2081, hF⟩ := cal_some hF
  refine o_call ha rfl rfl Try.call37 (W_spec_l25Bits (ha0_0.ext hE1449) hc2081) ?_; clear ha a; rintro v2082 w2083 ⟨b2085, h2086, z2087, hx2084⟩ a ha
  have q2089 := Nq.new hB1424.fpb z2087
  have q2090 := Nq.madeO z2087 hB1424.bi
  have q2091 := Nq.new h1427.fpb z2087
  have q2092 := Nq.madeO z2087 h1427.blt
  have q2093 := Nq.new h1433.fpb z2087
  have q2094 := Nq.madeO z2087 h1433.blt
  replace hB1424 := hB1424.ext hx2084
  replace h1427 := h1427.ext hx2084
  replace h1433 := h1433.ext hx2084
  have hE2095 := Ext.trans hE1449 hx2084
  have q2096 := Zn.upD z2087 hE1449
  refine op_g ha rfl (g_assign rfl) ?_; clear ha a; intro a ha; refine wpList_nil ?_; replace ha := ha.sub (σ' := [(5, v1430), (6, v1436), (10, v2082)]) ⟨rfl, rfl, rfl, trivial⟩; refine e_then ?_; refine wp_seq ?_; refine wp_seq ?_; refine wp_region_lit ?_; refine op_g ha rfl (g_assign rfl) ?_; clear ha a; intro a ha; refine wpList_nil ?_; replace ha := ha.sub (σ' := [(5, v1430), (6, v1436), (10, v2082), (11, (.int .i64 0))]) ⟨rfl, rfl, rfl, rfl, trivial⟩; refine e_then ?_; obtain ⟨o2264, ho2265, hK2266⟩ := bnd_some hF
  obtain ⟨n2267, hn2268⟩ := lp_some ho2265; clear ho2265
  refine c_loop (fun a w => Fr 107 [] a ∧ Chg [] W w ∧ o2264 = .inl ()) (fun n a w => ∃ (i2189 : Int), Fr 107 [(5, v1430), (6, v1436), (10, v2082), (11, (.int .i64 i2189))] a ∧ Chg [] W w ∧ InI i2189 ∧ Ow Rp.int 2 true w [] b1431 v1430 l1429 ∧ Zn W b1431 ∧ Ow Rp.int 2 true w [] b1437 v1436 l1435 ∧ Zn W b1437 ∧ Ow Rp.int 2 true w [] b2085 v2082 x2080 ∧ Zn W b2085 ∧ Nq (bl b1431 ++ []) b1437 ∧ Nq (bl b1431 ++ []) b2085 ∧ Nq (bl b1437 ++ []) b1431 ∧ Nq (bl b1437 ++ []) b2085 ∧ Nq (bl b2085 ++ []) b1431 ∧ Nq (bl b2085 ++ []) b1437 ∧ lpN (fun s => F_spec_l29Whole_l6 l1429 l1435 x2080 s) n i2189 = some o2264) n2267 ⟨0, ha.sub ⟨rfl, rfl, rfl, rfl, trivial⟩, hE2095, (show InI 0 from by decide), h1427, z1428, h1433, z1434, h2086, q2096, q1441, q2091, q1443, q2093, q2092, q2094, hn2268⟩ ?_ ?_
  · rintro m2272 a w2179 ⟨i2189, ha, hE2197, hI2190, h2181, z2182, h2184, z2185, h2187, z2188, q2191, q2192, q2193, q2194, q2195, q2196, hF⟩
    cases m2272 with
    | zero => exact (lpN_zero hF).elim
    | succ m2272 =>
      obtain ⟨z2271, hF, hN2270⟩ := lpN_succ hF
      have hF : F_spec_l29Whole_l6 l1429 l1435 x2080 i2189 = some z2271 := hF; unfold F_spec_l29Whole_l6 at hF
      refine wp_seq ?_; refine wp_seq ?_; refine wp_region_lit ?_; (iterate 2 refine op_g ha rfl (g_move rfl) ?_; clear ha a; intro a ha); refine op_g ha rfl (g_lenO sl25.und h2181 rfl) ?_; clear ha a; intro a ha; refine op_g ha rfl (g_lss rfl rfl) ?_; clear ha a; intro a ha; refine wpList_nil ?_; replace ha := ha.sub (σ' := [(5, v1430), (6, v1436), (10, v2082), (11, (.int .i64 i2189)), (87, (.bool (decide (i2189 < (l1429.length : Int)))))]) ⟨rfl, rfl, rfl, rfl, rfl, trivial⟩; refine e_then ?_; refine c_cond (i2189 < (l1429.length : Int)) ha rfl (decide_eq_true_iff) (fun hp2273 => ?_) (fun hp2273 => ?_)
      · replace hF := if_t hp2273 hF
        refine wp_skip ?_; refine e_then ?_; refine wp_seq ?_; refine wp_block ?_; refine wp_seq ?_; refine d_quiet hmix (by kernel_rfl) ?_; (iterate 2 refine q_g ha rfl (g_move rfl) ?_; clear ha a; intro a ha); obtain ⟨x2274, g2275, gx2276, hF⟩ := idx_some hF
        obtain ⟨p2277, cs2278, f2279, hf2280, hpb2281, hat2282, hr2283, hi2284⟩ := h2181.at g2275 gx2276
        obtain ⟨rfl, hI2285, rfl⟩ := hr2283
        refine q_g ha rfl (hi2284.gives sl25 rfl rfl) ?_; clear ha a; intro a ha; refine q_g ha rfl (g_load Try.isAgg2 rfl hat2282.one) ?_; clear ha a; intro a ha; refine q_g ha rfl (g_neq rfl rfl) ?_; clear ha a; intro a ha; refine q_g ha rfl (g_move rfl) ?_; clear ha a; intro a ha
        by_cases hp2286 : x2274 ≠ 1
        · replace hF := if_t hp2286 hF
          rw [show (decide (x2274 ≠ 1)) = true from (decide_eq_true_iff).2 hp2286] at ha
          (iterate 10 refine q_unwant ha rfl (yields ha rfl rfl) rfl ?_; clear ha a; intro a ha); refine q_g ha rfl (g_pick rfl rfl) ?_; clear ha a; intro a ha
          refine q_nil ?_; intro w2287 hx2288
          replace h2181 := h2181.ext hx2288
          replace h2184 := h2184.ext hx2288
          replace h2187 := h2187.ext hx2288
          have hE2289 := Ext.trans hE2197 hx2288
          replace ha := ha.sub (σ' := [(5, v1430), (6, v1436), (10, v2082), (11, (.int .i64 i2189)), (106, (.bool true))]) ⟨rfl, rfl, rfl, rfl, rfl, trivial⟩; refine e_then ?_; refine c_true ha rfl ?_; refine wp_seq ?_; refine wp_region_lit ?_; refine op_g ha rfl (g_assign rfl) ?_; clear ha a; intro a ha; refine wpList_nil ?_; replace ha := ha.sub (σ' := [(4, (.bool false))]) ⟨rfl, trivial⟩; refine e_then ?_; refine wp_ret ?_; refine e_blk_ret ?_; refine e_then_ret ?_; refine e_lq_ret ?_; refine e_then_ret ?_; obtain rfl := Option.some.inj hF
          have e2290 := LK_inr hN2270; subst e2290
          have e2291 := BK_inr hK2266; subst e2291
          exact f_ret1 ha rfl rfl ⟨rfl, hE2289⟩
        replace hF := if_f hp2286 hF
        rw [show (decide (x2274 ≠ 1)) = false from b_false (decide_eq_true_iff) hp2286] at ha
        refine q_want (yields ha rfl rfl) ?_; refine q_g ha rfl (g_move rfl) ?_; clear ha a; intro a ha; refine q_want (yields ha rfl rfl) ?_; refine q_g ha rfl (g_move rfl) ?_; clear ha a; intro a ha; refine q_want (yields ha rfl rfl) ?_; obtain ⟨x2292, g2293, gx2294, hF⟩ := idx_some hF
        obtain ⟨p2295, cs2296, f2297, hf2298, hpb2299, hat2300, hr2301, hi2302⟩ := h2187.at g2293 gx2294
        obtain ⟨rfl, hI2303, rfl⟩ := hr2301
        refine q_g ha rfl (hi2302.gives sl25 rfl rfl) ?_; clear ha a; intro a ha; refine q_want (yields ha rfl rfl) ?_; refine q_g ha rfl (g_load Try.isAgg2 rfl hat2300.one) ?_; clear ha a; intro a ha; refine q_want (yields ha rfl rfl) ?_; refine q_g ha rfl (g_move rfl) ?_; clear ha a; intro a ha; refine q_want (yields ha rfl rfl) ?_; refine q_g ha rfl (g_move rfl) ?_; clear ha a; intro a ha; refine q_want (yields ha rfl rfl) ?_; obtain ⟨x2304, g2305, gx2306, hF⟩ := idx_some hF
        obtain ⟨p2307, cs2308, f2309, hf2310, hpb2311, hat2312, hr2313, hi2314⟩ := h2184.at g2305 gx2306
        obtain ⟨rfl, hI2315, rfl⟩ := hr2313
        refine q_g ha rfl (hi2314.gives sl25 rfl rfl) ?_; clear ha a; intro a ha; refine q_want (yields ha rfl rfl) ?_; refine q_g ha rfl (g_load Try.isAgg2 rfl hat2312.one) ?_; clear ha a; intro a ha; refine q_want (yields ha rfl rfl) ?_; refine q_g ha rfl (g64_andNot rfl rfl) ?_; clear ha a; intro a ha; refine q_want (yields ha rfl rfl) ?_; refine q_g ha rfl (g_neq rfl rfl) ?_; clear ha a; intro a ha; refine q_g ha rfl (g_pick rfl rfl) ?_; clear ha a; intro a ha
        refine q_nil ?_; intro w2316 hx2317
        replace h2181 := h2181.ext hx2317
        replace h2184 := h2184.ext hx2317
        replace h2187 := h2187.ext hx2317
        have hE2318 := Ext.trans hE2197 hx2317
        replace ha := ha.sub (σ' := [(5, v1430), (6, v1436), (10, v2082), (11, (.int .i64 i2189)), (96, v2082), (97, (.int .i64 i2189)), (98, (.pointer (some p2295))), (99, (.int .i64 x2292)), (100, v1436), (101, (.int .i64 i2189)), (102, (.pointer (some p2307))), (103, (.int .i64 x2304)), (104, (.int .i64 (i64andn x2292 x2304))), (105, (.bool (decide ((i64andn x2292 x2304) ≠ 0)))), (106, (.bool (decide ((i64andn x2292 x2304) ≠ 0))))]) ⟨rfl, rfl, rfl, rfl, rfl, rfl, rfl, rfl, rfl, rfl, rfl, rfl, rfl, rfl, rfl, trivial⟩; refine e_then ?_; refine c_cond ((i64andn x2292 x2304) ≠ 0) ha rfl (decide_eq_true_iff) (fun hp2319 => ?_) (fun hp2319 => ?_)
        · replace hF := if_t hp2319 hF
          refine wp_seq ?_; refine wp_region_lit ?_; refine op_g ha rfl (g_assign rfl) ?_; clear ha a; intro a ha; refine wpList_nil ?_; replace ha := ha.sub (σ' := [(4, (.bool false))]) ⟨rfl, trivial⟩; refine e_then ?_; refine wp_ret ?_; refine e_blk_ret ?_; refine e_then_ret ?_; refine e_lq_ret ?_; refine e_then_ret ?_; obtain rfl := Option.some.inj hF
          have e2320 := LK_inr hN2270; subst e2320
          have e2321 := BK_inr hK2266; subst e2321
          exact f_ret1 ha rfl rfl ⟨rfl, hE2318⟩
        replace hF := if_f hp2319 hF; refine wp_skip ?_; refine e_blk ?_; refine e_then ?_; refine wp_region_lit ?_; refine op_g ha rfl (g_move rfl) ?_; clear ha a; intro a ha; obtain ⟨hI2322, hF⟩ := ck_some hF; refine op_g ha rfl (g_add rfl rfl hI2322) ?_; clear ha a; intro a ha; refine op_g ha rfl (g_assign rfl) ?_; clear ha a; intro a ha; refine wpList_nil ?_; replace ha := ha.sub (σ' := [(5, v1430), (6, v1436), (10, v2082), (11, (.int .i64 (i2189 + 1))), (96, v2082), (97, (.int .i64 i2189)), (98, (.pointer (some p2295))), (99, (.int .i64 x2292)), (100, v1436), (101, (.int .i64 i2189)), (102, (.pointer (some p2307))), (103, (.int .i64 x2304)), (104, (.int .i64 (i64andn x2292 x2304))), (105, (.bool (decide ((i64andn x2292 x2304) ≠ 0))))]) ⟨rfl, rfl, rfl, rfl, rfl, rfl, rfl, rfl, rfl, rfl, rfl, rfl, rfl, rfl, trivial⟩
        refine e_lq ?_; obtain rfl := Option.some.inj hF
        exact ⟨_, Nat.lt_succ_self _, i2189 + 1, ha.sub ⟨rfl, rfl, rfl, rfl, trivial⟩, hE2318, hI2322, h2181, z2182, h2184, z2185, h2187, z2188, q2191, q2192, q2193, q2194, q2195, q2196, hN2270⟩
      replace hF := if_f hp2273 hF; refine wp_exit ?_; refine e_then_exit ?_; refine e_lq_eq ?_; obtain rfl := Option.some.inj hF
      exact ⟨ha.sub trivial, hE2197, (LK_inr hN2270).symm⟩
  rintro a w2263 ⟨ha, hE2269, rfl⟩
  have hF : F_spec_l29Whole_k7 = some _ := hK2266; clear hK2266; unfold F_spec_l29Whole_k7 at hF
  refine e_then ?_; refine wp_seq ?_; refine wp_region_lit ?_; refine op_g ha rfl (g_assign rfl) ?_; clear ha a; intro a ha; refine wpList_nil ?_; refine e_then ?_; refine wp_ret ?_; obtain rfl := Option.some.inj hF
  exact f_ret1 ha rfl rfl ⟨rfl, hE2269⟩
end Go.Proofs.Ythbmcbflnibpbaa
