/- Walks, printed by gen.py. -/
import Derived.Test.YthbmcbflnibpbaaDoorF
import Derived.Test.YthbmcbflnibpbaaDoorDeep
import Derived.Test.YthbmcbflnibpbaaDoorArr
import Derived.Test.YthbmcbflnibpbaaDoorProg
import Derived.KernelRfl
set_option maxRecDepth 100000
namespace Go.Proofs.YthbmcbflnibpbaaDoor
open Go Go.RowKit

theorem hmix : Tryd.prog.follows .mixedOrders = true := by kernel_rfl
theorem st24_0 : stF Tryd.prog 24 0 = some 0 := by kernel_rfl
theorem sl22 : SlT Tryd.prog 22 35 1 24 (.slice none 0 0) := ⟨by kernel_rfl, by kernel_rfl, by rfl⟩
theorem sl35 : SlT Tryd.prog 35 2 1 8 (.int .i64 0) := ⟨by kernel_rfl, by kernel_rfl, by rfl⟩
theorem st27_0 : stF Tryd.prog 27 0 = some 0 := by kernel_rfl
theorem un2 : Tryd.prog.underlying 2 = some (.int .i64) := by kernel_rfl
theorem un57 : Tryd.prog.underlying 57 = some (.int .u64) := by kernel_rfl
theorem un3 : Tryd.prog.underlying 3 = some (.int .i64) := by kernel_rfl
theorem sl45 : SlT Tryd.prog 45 49 1 4 (.int .u32 0) := ⟨by kernel_rfl, by kernel_rfl, by rfl⟩
theorem sl47 : SlT Tryd.prog 47 51 16 128 (.agg #[(.int .i64 0), (.int .i64 0), (.int .i64 0), (.int .i64 0), (.int .i64 0), (.int .i64 0), (.int .i64 0), (.int .i64 0), (.int .i64 0), (.int .i64 0), (.int .i64 0), (.int .i64 0), (.int .i64 0), (.int .i64 0), (.int .i64 0), (.int .i64 0)]) := ⟨by kernel_rfl, by kernel_rfl, by rfl⟩
theorem un51 : Tryd.prog.underlying 51 = some (.array 16 2) := by kernel_rfl
theorem sl52 : SlT Tryd.prog 52 3 1 8 (.int .i64 0) := ⟨by kernel_rfl, by kernel_rfl, by rfl⟩
theorem un75 : Tryd.prog.underlying 75 = some (.array 32 5) := by kernel_rfl
theorem un5 : Tryd.prog.underlying 5 = some (.int .u8) := by kernel_rfl
set_option maxHeartbeats 2000000 in
theorem W_laws_szInt64S {W : World} {va0 : Value} {fa0 : List Nat} {a0 : (List Int)} (ha0 : Ro Rp.int W fa0 va0 a0) {a1 : Int} (ha1 : InI a1) {r : Int} (hF : F_laws_szInt64S a0 a1 = some r) :
    Calls Tryd.prog 44 [va0, .int .i64 a1].toArray W (Ret fun u w' => (u = .int .i64 r ∧ InI r) ∧ Ext W w') := by
  refine f_enter Tryd.func44 rfl Tryd.ntmps44 rfl ?_
  intro a ha
  replace ha : Fr 12 [(0, va0), (1, (.int .i64 a1))] a := ha
  have hE : Chg [] W W := Chg.refl _ _
  unfold F_laws_szInt64S at hF
  refine wp_seq ?_; refine wp_region_lit ?_; refine op_g ha rfl (g_assign rfl) ?_; clear ha a; intro a ha; refine wpList_nil ?_; replace ha := ha.sub (σ' := [(0, va0), (1, (.int .i64 a1))]) ⟨rfl, rfl, trivial⟩; refine e_then ?_; refine wp_seq ?_; refine wp_region_lit ?_; (iterate 2 refine op_g ha rfl (g_move rfl) ?_; clear ha a; intro a ha); refine op_g ha rfl (g_lenR sl35.und ha0 rfl) ?_; clear ha a; intro a ha; obtain ⟨hI1, hF⟩ := ck_some hF; refine op_g ha rfl (g_sub rfl rfl hI1) ?_; clear ha a; intro a ha; refine op_g ha rfl (g_assign rfl) ?_; clear ha a; intro a ha; refine wpList_nil ?_; replace ha := ha.sub (σ' := [(1, (.int .i64 (a1 - (a0.length : Int))))]) ⟨rfl, trivial⟩
  refine e_then ?_; refine wp_seq ?_; refine wp_seq ?_; refine wp_region_lit ?_; refine op_g ha rfl (g_move rfl) ?_; clear ha a; intro a ha; refine op_g ha rfl (g_lss rfl rfl) ?_; clear ha a; intro a ha; refine wpList_nil ?_; replace ha := ha.sub (σ' := [(1, (.int .i64 (a1 - (a0.length : Int)))), (10, (.bool (decide ((a1 - (a0.length : Int)) < 0))))]) ⟨rfl, rfl, trivial⟩; refine e_then ?_; refine c_cond ((a1 - (a0.length : Int)) < 0) ha rfl (decide_eq_true_iff) (fun hp3 => ?_) (fun hp3 => ?_)
  · replace hF := if_t hp3 hF
    refine wp_seq ?_; refine wp_region_lit ?_; refine op_g ha rfl (g_assign rfl) ?_; clear ha a; intro a ha; refine wpList_nil ?_; replace ha := ha.sub (σ' := [(4, (.int .i64 (-1)))]) ⟨rfl, trivial⟩; refine e_then ?_; refine wp_ret ?_; refine e_then_ret ?_; obtain rfl := Option.some.inj hF
    exact f_ret1 ha rfl rfl ⟨⟨rfl, (show InI (-1) from by decide)⟩, hE⟩
  replace hF := if_f hp3 hF; refine wp_skip ?_; refine e_then ?_; refine wp_seq ?_; refine wp_region_lit ?_; refine op_g ha rfl (g_move rfl) ?_; clear ha a; intro a ha; refine op_g ha rfl (g_assign rfl) ?_; clear ha a; intro a ha; refine wpList_nil ?_; replace ha := ha.sub (σ' := [(4, (.int .i64 (a1 - (a0.length : Int))))]) ⟨rfl, trivial⟩; refine e_then ?_; refine wp_ret ?_; obtain rfl := Option.some.inj hF
  exact f_ret1 ha rfl rfl ⟨⟨rfl, hI1⟩, hE⟩
set_option maxHeartbeats 2000000 in
theorem W_laws_szInt64SS {W : World} {va0 : Value} {fa0 : List Nat} {a0 : (List (List Int))} (ha0 : Ro (Rp.sl 2 Rp.int) W fa0 va0 a0) {a1 : Int} (ha1 : InI a1) {r : Int} (hF : F_laws_szInt64SS a0 a1 = some r) :
    Calls Tryd.prog 22 [va0, .int .i64 a1].toArray W (Ret fun u w' => (u = .int .i64 r ∧ InI r) ∧ Ext W w') := by
  refine f_enter Tryd.func22 rfl Tryd.ntmps22 rfl ?_
  intro a ha
  replace ha : Fr 27 [(0, va0), (1, (.int .i64 a1))] a := ha
  have hE : Chg [] W W := Chg.refl _ _
  unfold F_laws_szInt64SS at hF
  refine wp_seq ?_; refine wp_region_lit ?_; refine op_g ha rfl (g_assign rfl) ?_; clear ha a; intro a ha; refine wpList_nil ?_; replace ha := ha.sub (σ' := [(0, va0), (1, (.int .i64 a1))]) ⟨rfl, rfl, trivial⟩; refine e_then ?_; refine wp_seq ?_; refine wp_region_lit ?_; (iterate 2 refine op_g ha rfl (g_move rfl) ?_; clear ha a; intro a ha); refine op_g ha rfl (g_lenR sl22.und ha0 rfl) ?_; clear ha a; intro a ha; obtain ⟨hI1, hF⟩ := ck_some hF; refine op_g ha rfl (g_sub rfl rfl hI1) ?_; clear ha a; intro a ha; refine op_g ha rfl (g_assign rfl) ?_; clear ha a; intro a ha; refine wpList_nil ?_; replace ha := ha.sub (σ' := [(0, va0), (1, (.int .i64 (a1 - (a0.length : Int))))]) ⟨rfl, rfl, trivial⟩
  refine e_then ?_; refine wp_seq ?_; refine wp_seq ?_; refine wp_region_lit ?_; refine op_g ha rfl (g_move rfl) ?_; clear ha a; intro a ha; refine op_g ha rfl (g_lss rfl rfl) ?_; clear ha a; intro a ha; refine wpList_nil ?_; replace ha := ha.sub (σ' := [(0, va0), (1, (.int .i64 (a1 - (a0.length : Int)))), (11, (.bool (decide ((a1 - (a0.length : Int)) < 0))))]) ⟨rfl, rfl, rfl, trivial⟩; refine e_then ?_; refine c_cond ((a1 - (a0.length : Int)) < 0) ha rfl (decide_eq_true_iff) (fun hp3 => ?_) (fun hp3 => ?_)
  · replace hF := if_t hp3 hF
    refine wp_seq ?_; refine wp_region_lit ?_; refine op_g ha rfl (g_assign rfl) ?_; clear ha a; intro a ha; refine wpList_nil ?_; replace ha := ha.sub (σ' := [(4, (.int .i64 (-1)))]) ⟨rfl, trivial⟩; refine e_then ?_; refine wp_ret ?_; refine e_then_ret ?_; obtain rfl := Option.some.inj hF
    exact f_ret1 ha rfl rfl ⟨⟨rfl, (show InI (-1) from by decide)⟩, hE⟩
  replace hF := if_f hp3 hF; refine wp_skip ?_; refine e_then ?_; refine wp_seq ?_; refine wp_seq ?_; refine wp_region_lit ?_; refine op_g ha rfl (g_assign rfl) ?_; clear ha a; intro a ha; refine wpList_nil ?_; replace ha := ha.sub (σ' := [(0, va0), (1, (.int .i64 (a1 - (a0.length : Int)))), (5, (.int .i64 0))]) ⟨rfl, rfl, rfl, trivial⟩; refine e_then ?_; obtain ⟨o75, ho76, hK77⟩ := bnd_some hF
  obtain ⟨n78, hn79⟩ := lp_some ho76; clear ho76
  refine c_loop (fun a w => ∃ (i73 : Int), Fr 27 [(1, (.int .i64 i73))] a ∧ Chg [] W w ∧ InI i73 ∧ o75 = .inl i73) (fun n a w => ∃ (i37 : Int) (i39 : Int), Fr 27 [(0, va0), (1, (.int .i64 i37)), (5, (.int .i64 i39))] a ∧ Chg [] W w ∧ InI i37 ∧ InI i39 ∧ lpN (fun s => F_laws_szInt64SS_l1 a0 s.1 s.2) n (i37, i39) = some o75) n78 ⟨a1 - (a0.length : Int), 0, ha.sub ⟨rfl, rfl, rfl, trivial⟩, hE, hI1, (show InI 0 from by decide), hn79⟩ ?_ ?_
  · rintro m83 a w36 ⟨i37, i39, ha, hE41, hI38, hI40, hF⟩
    cases m83 with
    | zero => exact (lpN_zero hF).elim
    | succ m83 =>
      obtain ⟨z82, hF, hN81⟩ := lpN_succ hF
      have hF : F_laws_szInt64SS_l1 a0 i37 i39 = some z82 := hF; unfold F_laws_szInt64SS_l1 at hF
      refine wp_seq ?_; refine wp_seq ?_; refine wp_region_lit ?_; (iterate 2 refine op_g ha rfl (g_move rfl) ?_; clear ha a; intro a ha); refine op_g ha rfl (g_lenR sl22.und ha0 rfl) ?_; clear ha a; intro a ha; refine op_g ha rfl (g_lss rfl rfl) ?_; clear ha a; intro a ha; refine wpList_nil ?_; replace ha := ha.sub (σ' := [(0, va0), (1, (.int .i64 i37)), (5, (.int .i64 i39)), (15, (.bool (decide (i39 < (a0.length : Int)))))]) ⟨rfl, rfl, rfl, rfl, trivial⟩; refine e_then ?_; refine c_cond (i39 < (a0.length : Int)) ha rfl (decide_eq_true_iff) (fun hp84 => ?_) (fun hp84 => ?_)
      · replace hF := if_t hp84 hF
        refine wp_skip ?_; refine e_then ?_; refine wp_seq ?_; refine wp_block ?_; refine wp_seq ?_; refine wp_region_lit ?_; (iterate 2 refine op_g ha rfl (g_move rfl) ?_; clear ha a; intro a ha); obtain ⟨x85, g86, gx87, hF⟩ := idx_some hF
        obtain ⟨p88, cs89, f90, hf91, hpb92, hat93, hr94, hi95⟩ := ha0.at g86 gx87
        obtain ⟨v96, rfl, h97⟩ := hr94
        have h97 : Ro Rp.int W f90 v96 x85 := h97
        refine op_g ha rfl (hi95.gives sl22 rfl rfl) ?_; clear ha a; intro a ha; refine op_g ha rfl (g_load0 hE41 Tryd.isAgg35 rfl hat93.one) ?_; clear ha a; intro a ha; refine op_g ha rfl (g_move rfl) ?_; clear ha a; intro a ha; obtain ⟨x99, hc100, hF⟩ := cal_some hF
        refine o_call ha rfl rfl Tryd.call44 (W_laws_szInt64S (h97.ext hE41) hI38 hc100) ?_; clear ha a; rintro v101 w102 ⟨⟨rfl, hI104⟩, hx103⟩ a ha
        have hE105 := Ext.trans hE41 hx103
        refine op_g ha rfl (g_assign rfl) ?_; clear ha a; intro a ha; refine wpList_nil ?_; replace ha := ha.sub (σ' := [(0, va0), (1, (.int .i64 x99)), (5, (.int .i64 i39))]) ⟨rfl, rfl, rfl, trivial⟩; refine e_then ?_; refine wp_seq ?_; refine wp_region_lit ?_; refine op_g ha rfl (g_move rfl) ?_; clear ha a; intro a ha; refine op_g ha rfl (g_lss rfl rfl) ?_; clear ha a; intro a ha; refine wpList_nil ?_; replace ha := ha.sub (σ' := [(0, va0), (1, (.int .i64 x99)), (5, (.int .i64 i39)), (25, (.bool (decide (x99 < 0))))]) ⟨rfl, rfl, rfl, rfl, trivial⟩; refine e_then ?_; refine c_cond (x99 < 0) ha rfl (decide_eq_true_iff) (fun hp106 => ?_) (fun hp106 => ?_)
        · replace hF := if_t hp106 hF
          refine wp_seq ?_; refine wp_region_lit ?_; refine op_g ha rfl (g_assign rfl) ?_; clear ha a; intro a ha; refine wpList_nil ?_; replace ha := ha.sub (σ' := [(4, (.int .i64 (-1)))]) ⟨rfl, trivial⟩; refine e_then ?_; refine wp_ret ?_; refine e_blk_ret ?_; refine e_then_ret ?_; refine e_lq_ret ?_; refine e_then_ret ?_; obtain rfl := Option.some.inj hF
          have e107 := LK_inr hN81; subst e107
          have e108 := BK_inr hK77; subst e108
          exact f_ret1 ha rfl rfl ⟨⟨rfl, (show InI (-1) from by decide)⟩, hE105⟩
        replace hF := if_f hp106 hF; refine wp_skip ?_; refine e_blk ?_; refine e_then ?_; refine wp_region_lit ?_; refine op_g ha rfl (g_move rfl) ?_; clear ha a; intro a ha; obtain ⟨hI109, hF⟩ := ck_some hF; refine op_g ha rfl (g_add rfl rfl hI109) ?_; clear ha a; intro a ha; refine op_g ha rfl (g_assign rfl) ?_; clear ha a; intro a ha; refine wpList_nil ?_; replace ha := ha.sub (σ' := [(0, va0), (1, (.int .i64 x99)), (5, (.int .i64 (i39 + 1)))]) ⟨rfl, rfl, rfl, trivial⟩; refine e_lq ?_; obtain rfl := Option.some.inj hF
        exact ⟨_, Nat.lt_succ_self _, x99, i39 + 1, ha.sub ⟨rfl, rfl, rfl, trivial⟩, hE105, hI104, hI109, hN81⟩
      replace hF := if_f hp84 hF; refine wp_exit ?_; refine e_then_exit ?_; refine e_lq_eq ?_; obtain rfl := Option.some.inj hF
      exact ⟨i37, ha.sub ⟨rfl, trivial⟩, hE41, hI38, (LK_inr hN81).symm⟩
  rintro a w72 ⟨i73, ha, hE80, hI74, rfl⟩
  have hF : F_laws_szInt64SS_k2 i73 = some _ := hK77; clear hK77; unfold F_laws_szInt64SS_k2 at hF
  refine e_then ?_; refine wp_seq ?_; refine wp_region_lit ?_; refine op_g ha rfl (g_move rfl) ?_; clear ha a; intro a ha; refine op_g ha rfl (g_assign rfl) ?_; clear ha a; intro a ha; refine wpList_nil ?_; replace ha := ha.sub (σ' := [(4, (.int .i64 i73))]) ⟨rfl, trivial⟩; refine e_then ?_; refine wp_ret ?_; obtain rfl := Option.some.inj hF
  exact f_ret1 ha rfl rfl ⟨⟨rfl, hI74⟩, hE80⟩
set_option maxHeartbeats 2000000 in
theorem W_laws_szGraph {W : World} {va0_0 : Value} {fa0_0 : List Nat} {a0_0 : (List (List Int))} (ha0_0 : Ro (Rp.sl 2 Rp.int) W fa0_0 va0_0 a0_0) {a1 : Int} (ha1 : InI a1) {r : Int} (hF : F_laws_szGraph a0_0 a1 = some r) :
    Calls Tryd.prog 6 [.agg #[va0_0], .int .i64 a1].toArray W (Ret fun u w' => (u = .int .i64 r ∧ InI r) ∧ Ext W w') := by
  refine f_enter Tryd.func6 rfl Tryd.ntmps6 rfl ?_
  intro a ha
  replace ha : Fr 12 [(0, (.agg #[va0_0])), (1, (.int .i64 a1))] a := ha
  have hE : Chg [] W W := Chg.refl _ _
  unfold F_laws_szGraph at hF
  refine wp_seq ?_; refine wp_region_lit ?_
  refine o_box ha rfl rfl rfl ?_; clear ha a; intro b1 w2 hB3 hx4 hlo5 a ha
  have q6 := Zn.one hlo5
  have q7 := Zn.upD q6 hE
  have hE8 := Ext.trans hE hx4
  refine op_g ha rfl (g_assign rfl) ?_; clear ha a; intro a ha; refine wpList_nil ?_; replace ha := ha.sub (σ' := [(1, (.int .i64 a1)), (2, (.pointer (some ⟨b1, 0, none⟩)))]) ⟨rfl, rfl, trivial⟩; refine e_then ?_; refine wp_seq ?_; refine wp_region_lit ?_; refine op_g ha rfl (g_field0 st24_0 rfl) ?_; clear ha a; intro a ha; refine op_g ha rfl (g_load Tryd.isAgg22 rfl (hB3.cell rfl)) ?_; clear ha a; intro a ha; refine op_g ha rfl (g_move rfl) ?_; clear ha a; intro a ha; obtain ⟨x9, hc10, hF⟩ := cal_some hF
  refine o_call ha rfl rfl Tryd.call22 (W_laws_szInt64SS (ha0_0.ext hE8) ha1 hc10) ?_; clear ha a; rintro v11 w12 ⟨⟨rfl, hI14⟩, hx13⟩ a ha
  replace hB3 := hB3.ext hx13
  have hE15 := Ext.trans hE8 hx13
  refine op_g ha rfl (g_assign rfl) ?_; clear ha a; intro a ha; refine wpList_nil ?_; replace ha := ha.sub (σ' := [(1, (.int .i64 x9))]) ⟨rfl, trivial⟩; refine e_then ?_; refine wp_seq ?_; refine wp_seq ?_; refine wp_region_lit ?_; refine op_g ha rfl (g_move rfl) ?_; clear ha a; intro a ha; refine op_g ha rfl (g_lss rfl rfl) ?_; clear ha a; intro a ha; refine wpList_nil ?_; replace ha := ha.sub (σ' := [(1, (.int .i64 x9)), (10, (.bool (decide (x9 < 0))))]) ⟨rfl, rfl, trivial⟩; refine e_then ?_; refine c_cond (x9 < 0) ha rfl (decide_eq_true_iff) (fun hp16 => ?_) (fun hp16 => ?_)
  · replace hF := if_t hp16 hF
    refine wp_seq ?_; refine wp_region_lit ?_; refine op_g ha rfl (g_assign rfl) ?_; clear ha a; intro a ha; refine wpList_nil ?_; replace ha := ha.sub (σ' := [(4, (.int .i64 (-1)))]) ⟨rfl, trivial⟩; refine e_then ?_; refine wp_ret ?_; refine e_then_ret ?_; obtain rfl := Option.some.inj hF
    exact f_ret1 ha rfl rfl ⟨⟨rfl, (show InI (-1) from by decide)⟩, hE15⟩
  replace hF := if_f hp16 hF; refine wp_skip ?_; refine e_then ?_; refine wp_seq ?_; refine wp_region_lit ?_; refine op_g ha rfl (g_move rfl) ?_; clear ha a; intro a ha; refine op_g ha rfl (g_assign rfl) ?_; clear ha a; intro a ha; refine wpList_nil ?_; replace ha := ha.sub (σ' := [(4, (.int .i64 x9))]) ⟨rfl, trivial⟩; refine e_then ?_; refine wp_ret ?_; obtain rfl := Option.some.inj hF
  exact f_ret1 ha rfl rfl ⟨⟨rfl, hI14⟩, hE15⟩
set_option maxHeartbeats 2000000 in
theorem W_laws_toInt64S {W : World} {va0 : Value} {fa0 : List Nat} {a0 : (List Int)} (ha0 : Ro Rp.int W fa0 va0 a0) {r : (List Int)} (hF : F_laws_toInt64S a0 = some r) :
    Calls Tryd.prog 49 [va0].toArray W (Ret fun u w' => ∃ (b_u : Int), Ow Rp.int 2 true w' [] b_u u r ∧ Zn W b_u ∧ Ext W w') := by
  refine f_enter Tryd.func49 rfl Tryd.ntmps49 rfl ?_
  intro a ha
  replace ha : Fr 22 [(0, va0)] a := ha
  have hE : Chg [] W W := Chg.refl _ _
  unfold F_laws_toInt64S at hF
  refine wp_seq ?_; refine wp_region_lit ?_; refine op_g ha rfl (g_assign rfl) ?_; clear ha a; intro a ha; refine wpList_nil ?_; replace ha := ha.sub (σ' := [(0, va0)]) ⟨rfl, trivial⟩; refine e_then ?_; refine wp_seq ?_; refine wp_region_lit ?_; refine op_g ha rfl (g_move rfl) ?_; clear ha a; intro a ha; refine op_g ha rfl (g_lenR sl35.und ha0 rfl) ?_; clear ha a; intro a ha; obtain ⟨g5, g5b, hF⟩ := mkS_some hF
  refine o_make (z0 := (0 : Int)) Rp.int ha rfl sl35 rfl (fun w => ⟨rfl, by decide, rfl⟩) rfl g5 g5b ?_; clear ha a; intro v1 w2 h3 hx4 a ha
  obtain ⟨b8, hb8⟩ : ∃ b : Int, b = W.heap.size := ⟨_, rfl⟩; rw [← hb8] at h3
  have q9 := zn_of hb8
  have q10 := Zn.upD q9 hE
  have hE11 := Ext.trans hE hx4
  refine op_g ha rfl (g_assign rfl) ?_; clear ha a; intro a ha; refine wpList_nil ?_; replace ha := ha.sub (σ' := [(0, va0), (3, v1)]) ⟨rfl, rfl, trivial⟩; refine e_then ?_; refine wp_seq ?_; refine wp_seq ?_; refine wp_region_lit ?_; refine op_g ha rfl (g_assign rfl) ?_; clear ha a; intro a ha; refine wpList_nil ?_; refine e_then ?_; obtain ⟨o118, ho119, hK120⟩ := bnd_some hF
  obtain ⟨n121, hn122⟩ := lp_some ho119; clear ho119
  refine c_loop (fun a w => ∃ (l115 : (List Int)) (v116 : Value) (b117 : Int), Fr 22 [(3, v116)] a ∧ Chg [] W w ∧ Ow Rp.int 2 true w [] b117 v116 l115 ∧ Zn W b117 ∧ o118 = .inl l115) (fun n a w => ∃ (l63 : (List Int)) (i66 : Int) (v64 : Value) (b65 : Int), Fr 22 [(0, va0), (3, v64), (4, (.int .i64 i66))] a ∧ Chg [] W w ∧ InI i66 ∧ Ow Rp.int 2 true w [] b65 v64 l63 ∧ Zn W b65 ∧ lpN (fun s => F_laws_toInt64S_l1 a0 s.1 s.2) n (l63, i66) = some o118) n121 ⟨(List.replicate ((a0.length : Int) : Int).toNat (0 : Int)), 0, v1, b8, ha.sub ⟨rfl, rfl, rfl, trivial⟩, hE11, (show InI 0 from by decide), h3, q10, hn122⟩ ?_ ?_
  · rintro m126 a w59 ⟨l63, i66, v64, b65, ha, hE68, hI67, h61, z62, hF⟩
    cases m126 with
    | zero => exact (lpN_zero hF).elim
    | succ m126 =>
      obtain ⟨z125, hF, hN124⟩ := lpN_succ hF
      have hF : F_laws_toInt64S_l1 a0 l63 i66 = some z125 := hF; unfold F_laws_toInt64S_l1 at hF
      refine wp_seq ?_; refine wp_seq ?_; refine wp_region_lit ?_; (iterate 2 refine op_g ha rfl (g_move rfl) ?_; clear ha a; intro a ha); refine op_g ha rfl (g_lenR sl35.und ha0 rfl) ?_; clear ha a; intro a ha; refine op_g ha rfl (g_lss rfl rfl) ?_; clear ha a; intro a ha; refine wpList_nil ?_; replace ha := ha.sub (σ' := [(0, va0), (3, v64), (4, (.int .i64 i66)), (11, (.bool (decide (i66 < (a0.length : Int)))))]) ⟨rfl, rfl, rfl, rfl, trivial⟩; refine e_then ?_; refine c_cond (i66 < (a0.length : Int)) ha rfl (decide_eq_true_iff) (fun hp127 => ?_) (fun hp127 => ?_)
      · replace hF := if_t hp127 hF
        refine wp_skip ?_; refine e_then ?_; refine wp_seq ?_; refine wp_block ?_; refine wp_region_lit ?_; (iterate 4 refine op_g ha rfl (g_move rfl) ?_; clear ha a; intro a ha); obtain ⟨x128, g129, gx130, hF⟩ := idx_some hF
        obtain ⟨p131, cs132, f133, hf134, hpb135, hat136, hr137, hi138⟩ := ha0.at g129 gx130
        obtain ⟨rfl, hI139, rfl⟩ := hr137
        refine op_g ha rfl (hi138.gives sl35 rfl rfl) ?_; clear ha a; intro a ha; refine op_g ha rfl (g_load0 hE68 Tryd.isAgg2 rfl hat136.one) ?_; clear ha a; intro a ha; obtain ⟨x140, g141, gx142, hF⟩ := idx_some hF
        obtain ⟨p143, cs144, f145, hf146, hpb147, hat148, hr149, hi150⟩ := h61.at g141 gx142
        obtain ⟨rfl, hI151, rfl⟩ := hr149
        refine op_g ha rfl (hi150.gives sl35 rfl rfl) ?_; clear ha a; intro a ha
        refine o_storeE (f := []) (q := x128) ha Tryd.sizeOf2 rfl rfl rfl h61 hi150 ⟨rfl, hI139, rfl⟩ (Nq.nil _) ?_; intro w152 fs153 h154 hc155 hs156
        obtain rfl := Subst.nil hs156
        have hE157 := Ext.then hE68 hc155 (Zn.bl z62)
        refine wpList_nil ?_; replace ha := ha.sub (σ' := [(0, va0), (3, v64), (4, (.int .i64 i66))]) ⟨rfl, rfl, rfl, trivial⟩; refine e_blk ?_; refine e_then ?_; refine wp_region_lit ?_; refine op_g ha rfl (g_move rfl) ?_; clear ha a; intro a ha; obtain ⟨hI158, hF⟩ := ck_some hF; refine op_g ha rfl (g_add rfl rfl hI158) ?_; clear ha a; intro a ha; refine op_g ha rfl (g_assign rfl) ?_; clear ha a; intro a ha; refine wpList_nil ?_; replace ha := ha.sub (σ' := [(0, va0), (3, v64), (4, (.int .i64 (i66 + 1)))]) ⟨rfl, rfl, rfl, trivial⟩; refine e_lq ?_; obtain rfl := Option.some.inj hF
        exact ⟨_, Nat.lt_succ_self _, (l63.set ((i66 : Int).toNat) x128), i66 + 1, v64, b65, ha.sub ⟨rfl, rfl, rfl, trivial⟩, hE157, hI158, h154, z62, hN124⟩
      replace hF := if_f hp127 hF; refine wp_exit ?_; refine e_then_exit ?_; refine e_lq_eq ?_; obtain rfl := Option.some.inj hF
      exact ⟨l63, v64, b65, ha.sub ⟨rfl, trivial⟩, hE68, h61, z62, (LK_inr hN124).symm⟩
  rintro a w111 ⟨l115, v116, b117, ha, hE123, h113, z114, rfl⟩
  have hF : F_laws_toInt64S_k2 l115 = some _ := hK120; clear hK120; unfold F_laws_toInt64S_k2 at hF
  refine e_then ?_; refine wp_seq ?_; refine wp_region_lit ?_; refine op_g ha rfl (g_move rfl) ?_; clear ha a; intro a ha; refine op_g ha rfl (g_assign rfl) ?_; clear ha a; intro a ha; refine wpList_nil ?_; replace ha := ha.sub (σ' := [(2, v116)]) ⟨rfl, trivial⟩; refine e_then ?_; refine wp_ret ?_; obtain rfl := Option.some.inj hF
  exact f_ret1 ha rfl rfl ⟨_, h113, z114, hE123⟩
set_option maxHeartbeats 2000000 in
theorem W_laws_toInt64SS {W : World} {va0 : Value} {fa0 : List Nat} {a0 : (List (List Int))} (ha0 : Ro (Rp.sl 2 Rp.int) W fa0 va0 a0) {r : (List (List Int))} (hF : F_laws_toInt64SS a0 = some r) :
    Calls Tryd.prog 28 [va0].toArray W (Ret fun u w' => ∃ (b_u : Int) (fs_u : List Nat), Ow (Rp.sl 2 Rp.int) 35 true w' fs_u b_u u r ∧ Zn W b_u ∧ (∀ k ∈ fs_u, W.heap.size ≤ k) ∧ (bl b_u ++ fs_u).Nodup ∧ Ext W w') := by
  refine f_enter Tryd.func28 rfl Tryd.ntmps28 rfl ?_
  intro a ha
  replace ha : Fr 23 [(0, va0)] a := ha
  have hE : Chg [] W W := Chg.refl _ _
  unfold F_laws_toInt64SS at hF
  refine wp_seq ?_; refine wp_region_lit ?_; refine op_g ha rfl (g_assign rfl) ?_; clear ha a; intro a ha; refine wpList_nil ?_; replace ha := ha.sub (σ' := [(0, va0)]) ⟨rfl, trivial⟩; refine e_then ?_; refine wp_seq ?_; refine wp_region_lit ?_; refine op_g ha rfl (g_move rfl) ?_; clear ha a; intro a ha; refine op_g ha rfl (g_lenR sl22.und ha0 rfl) ?_; clear ha a; intro a ha; obtain ⟨g5, g5b, hF⟩ := mkS_some hF
  refine o_make (z0 := ([] : (List Int))) (Rp.sl 2 Rp.int) ha rfl sl22 rfl (fun w => nil_rep w) rfl g5 g5b ?_; clear ha a; intro v1 w2 h3 hx4 a ha
  obtain ⟨b8, hb8⟩ : ∃ b : Int, b = W.heap.size := ⟨_, rfl⟩; rw [← hb8] at h3
  have q9 := zn_of hb8
  have q10 := Zn.upD q9 hE
  have hE11 := Ext.trans hE hx4
  refine op_g ha rfl (g_assign rfl) ?_; clear ha a; intro a ha; refine wpList_nil ?_; replace ha := ha.sub (σ' := [(0, va0), (3, v1)]) ⟨rfl, rfl, trivial⟩; refine e_then ?_; refine wp_seq ?_; refine wp_seq ?_; refine wp_region_lit ?_; refine op_g ha rfl (g_assign rfl) ?_; clear ha a; intro a ha; refine wpList_nil ?_; refine e_then ?_; obtain ⟨o181, ho182, hK183⟩ := bnd_some hF
  obtain ⟨n184, hn185⟩ := lp_some ho182; clear ho182
  refine c_loop (fun a w => ∃ (l178 : (List (List Int))) (fs175 : List Nat) (v179 : Value) (b180 : Int), Fr 23 [(3, v179)] a ∧ Chg [] W w ∧ Ow (Rp.sl 2 Rp.int) 35 true w fs175 b180 v179 l178 ∧ Zn W b180 ∧ (∀ k ∈ fs175, W.heap.size ≤ k) ∧ (bl b180 ++ fs175).Nodup ∧ o181 = .inl l178) (fun n a w => ∃ (l96 : (List (List Int))) (i99 : Int) (fs93 : List Nat) (v97 : Value) (b98 : Int), Fr 23 [(0, va0), (3, v97), (4, (.int .i64 i99))] a ∧ Chg [] W w ∧ InI i99 ∧ Ow (Rp.sl 2 Rp.int) 35 true w fs93 b98 v97 l96 ∧ Zn W b98 ∧ (∀ k ∈ fs93, W.heap.size ≤ k) ∧ (bl b98 ++ fs93).Nodup ∧ lpN (fun s => F_laws_toInt64SS_l1 a0 s.1 s.2) n (l96, i99) = some o181) n184 ⟨(List.replicate ((a0.length : Int) : Int).toNat ([] : (List Int))), 0, [], v1, b8, ha.sub ⟨rfl, rfl, rfl, trivial⟩, hE11, (show InI 0 from by decide), h3, q10, (zf_nil _), (bl_nodup b8), hn185⟩ ?_ ?_
  · rintro m189 a w89 ⟨l96, i99, fs93, v97, b98, ha, hE101, hI100, h91, z92, zf94, nd95, hF⟩
    cases m189 with
    | zero => exact (lpN_zero hF).elim
    | succ m189 =>
      obtain ⟨z188, hF, hN187⟩ := lpN_succ hF
      have hF : F_laws_toInt64SS_l1 a0 l96 i99 = some z188 := hF; unfold F_laws_toInt64SS_l1 at hF
      refine wp_seq ?_; refine wp_seq ?_; refine wp_region_lit ?_; (iterate 2 refine op_g ha rfl (g_move rfl) ?_; clear ha a; intro a ha); refine op_g ha rfl (g_lenR sl22.und ha0 rfl) ?_; clear ha a; intro a ha; refine op_g ha rfl (g_lss rfl rfl) ?_; clear ha a; intro a ha; refine wpList_nil ?_; replace ha := ha.sub (σ' := [(0, va0), (3, v97), (4, (.int .i64 i99)), (11, (.bool (decide (i99 < (a0.length : Int)))))]) ⟨rfl, rfl, rfl, rfl, trivial⟩; refine e_then ?_; refine c_cond (i99 < (a0.length : Int)) ha rfl (decide_eq_true_iff) (fun hp190 => ?_) (fun hp190 => ?_)
      · replace hF := if_t hp190 hF
        refine wp_skip ?_; refine e_then ?_; refine wp_seq ?_; refine wp_block ?_; refine wp_region_lit ?_; (iterate 4 refine op_g ha rfl (g_move rfl) ?_; clear ha a; intro a ha); obtain ⟨x191, g192, gx193, hF⟩ := idx_some hF
        obtain ⟨p194, cs195, f196, hf197, hpb198, hat199, hr200, hi201⟩ := ha0.at g192 gx193
        obtain ⟨v202, rfl, h203⟩ := hr200
        have h203 : Ro Rp.int W f196 v202 x191 := h203
        refine op_g ha rfl (hi201.gives sl22 rfl rfl) ?_; clear ha a; intro a ha; refine op_g ha rfl (g_load0 hE101 Tryd.isAgg35 rfl hat199.one) ?_; clear ha a; intro a ha; obtain ⟨x205, hc206, hF⟩ := cal_some hF
        refine o_call ha rfl rfl Tryd.call49 (W_laws_toInt64S (h203.ext hE101) hc206) ?_; clear ha a; rintro v207 w208 ⟨b210, h211, z212, hx209⟩ a ha
        have q214 := Nq.new h91.fpb z212
        have q215 := Nq.madeO z212 h91.blt
        have q216 := Nf.old z212 (zf_nil _) h91.bnd
        replace h91 := h91.ext hx209
        have hE217 := Ext.trans hE101 hx209
        have q218 := Zn.upD z212 hE101
        obtain ⟨x219, g220, gx221, hF⟩ := idx_some hF
        obtain ⟨p222, cs223, f224, hf225, hpb226, hat227, hr228, hi229⟩ := h91.at g220 gx221
        replace hr228 := (Rp.sl 2 Rp.int).weak hr228
        obtain ⟨v230, rfl, h231⟩ := hr228
        have h231 : Ro Rp.int w208 f224 v230 x219 := h231
        have q233 := Nq.mono q214 (fun k hk => List.mem_append_right (bl b98) (hf225 k hk))
        have q234 := Nq.mono (Ow.ne h91) hf225
        refine op_g ha rfl (hi229.gives sl22 rfl rfl) ?_; clear ha a; intro a ha
        refine o_storeE (f := (bl b210 ++ [])) (q := x205) ha Tryd.sizeOf35 rfl rfl h211.cells h91 hi229 (Rp.mkO h211) q215 ?_; intro w235 fs236 h237 hc238 hs239
        have q240 := zf_mv q218 (zf_nil _)
        have q241 := dj_of q214
        have q242 := zf_set hs239 zf94 q240
        have q243 := Subst.nd hs239 nd95 (bl_nodup b210) q241
        replace h231 := h231.nq hc238 q234
        have hE244 := Ext.then hE217 hc238 (Zn.bl z92)
        refine wpList_nil ?_; replace ha := ha.sub (σ' := [(0, va0), (3, v97), (4, (.int .i64 i99))]) ⟨rfl, rfl, rfl, trivial⟩; refine e_blk ?_; refine e_then ?_; refine wp_region_lit ?_; refine op_g ha rfl (g_move rfl) ?_; clear ha a; intro a ha; obtain ⟨hI245, hF⟩ := ck_some hF; refine op_g ha rfl (g_add rfl rfl hI245) ?_; clear ha a; intro a ha; refine op_g ha rfl (g_assign rfl) ?_; clear ha a; intro a ha; refine wpList_nil ?_; replace ha := ha.sub (σ' := [(0, va0), (3, v97), (4, (.int .i64 (i99 + 1)))]) ⟨rfl, rfl, rfl, trivial⟩; refine e_lq ?_; obtain rfl := Option.some.inj hF
        exact ⟨_, Nat.lt_succ_self _, (l96.set ((i99 : Int).toNat) x205), i99 + 1, fs236, v97, b98, ha.sub ⟨rfl, rfl, rfl, trivial⟩, hE244, hI245, h237, z92, q242, q243, hN187⟩
      replace hF := if_f hp190 hF; refine wp_exit ?_; refine e_then_exit ?_; refine e_lq_eq ?_; obtain rfl := Option.some.inj hF
      exact ⟨l96, fs93, v97, b98, ha.sub ⟨rfl, trivial⟩, hE101, h91, z92, zf94, nd95, (LK_inr hN187).symm⟩
  rintro a w171 ⟨l178, fs175, v179, b180, ha, hE186, h173, z174, zf176, nd177, rfl⟩
  have hF : F_laws_toInt64SS_k2 l178 = some _ := hK183; clear hK183; unfold F_laws_toInt64SS_k2 at hF
  refine e_then ?_; refine wp_seq ?_; refine wp_region_lit ?_; refine op_g ha rfl (g_move rfl) ?_; clear ha a; intro a ha; refine op_g ha rfl (g_assign rfl) ?_; clear ha a; intro a ha; refine wpList_nil ?_; replace ha := ha.sub (σ' := [(2, v179)]) ⟨rfl, trivial⟩; refine e_then ?_; refine wp_ret ?_; obtain rfl := Option.some.inj hF
  exact f_ret1 ha rfl rfl ⟨_, _, h173, z174, zf176, nd177, hE186⟩
set_option maxHeartbeats 2000000 in
theorem W_laws_toGraph {W : World} {va0_0 : Value} {fa0_0 : List Nat} {a0_0 : (List (List Int))} (ha0_0 : Ro (Rp.sl 2 Rp.int) W fa0_0 va0_0 a0_0) {r : (List (List Int))} (hF : F_laws_toGraph a0_0 = some r) :
    Calls Tryd.prog 8 [.agg #[va0_0]].toArray W (Ret fun u w' => ∃ (u_0 : Value) (b_u_0 : Int) (fs_u_0 : List Nat), u = .agg #[u_0] ∧ Ow (Rp.sl 2 Rp.int) 35 true w' fs_u_0 b_u_0 u_0 r ∧ Zn W b_u_0 ∧ (∀ k ∈ fs_u_0, W.heap.size ≤ k) ∧ (bl b_u_0 ++ fs_u_0).Nodup ∧ Ext W w') := by
  refine f_enter Tryd.func8 rfl Tryd.ntmps8 rfl ?_
  intro a ha
  replace ha : Fr 9 [(0, (.agg #[va0_0]))] a := ha
  have hE : Chg [] W W := Chg.refl _ _
  unfold F_laws_toGraph at hF
  refine wp_seq ?_; refine wp_region_lit ?_
  refine o_box ha rfl rfl rfl ?_; clear ha a; intro b1 w2 hB3 hx4 hlo5 a ha
  have q6 := Zn.one hlo5
  have q7 := Zn.upD q6 hE
  have hE8 := Ext.trans hE hx4
  refine o_alloc (cs := [(.slice none 0 0)]) ha rfl Tryd.zeroValue27 rfl ?_; clear ha a; intro b9 w10 hB11 hx12 hlo13 a ha
  have q14 := Zn.one hlo13
  have q15 := Nq.new hB3.fpb q14
  have q16 := Nq.made1 hlo13 hB3.bi
  have q17 := Zn.upD q14 hE8
  replace hB3 := hB3.ext hx12
  have hE18 := Ext.trans hE8 hx12
  refine wpList_nil ?_; replace ha := ha.sub (σ' := [(1, (.pointer (some ⟨b1, 0, none⟩))), (2, (.pointer (some ⟨b9, 0, none⟩)))]) ⟨rfl, rfl, trivial⟩; refine e_then ?_; refine wp_seq ?_; refine wp_region_lit ?_
  refine o_alloc (cs := [(.slice none 0 0)]) ha rfl Tryd.zeroValue27 rfl ?_; clear ha a; intro b19 w20 hB21 hx22 hlo23 a ha
  have q24 := Zn.one hlo23
  have q25 := Nq.new hB3.fpb q24
  have q26 := Nq.made1 hlo23 hB3.bi
  have q27 := Nq.new hB11.fpb q24
  have q28 := Nq.made1 hlo23 hB11.bi
  have q29 := Zn.upD q24 hE18
  replace hB3 := hB3.ext hx22
  replace hB11 := hB11.ext hx22
  have hE30 := Ext.trans hE18 hx22
  refine wpList_nil ?_; refine e_then ?_; refine wp_seq ?_; refine wp_region_lit ?_; refine op_g ha rfl (g_field0 st24_0 rfl) ?_; clear ha a; intro a ha; refine op_g ha rfl (g_load Tryd.isAgg22 rfl (hB3.cell rfl)) ?_; clear ha a; intro a ha; obtain ⟨x31, hc32, hF⟩ := cal_some hF
  refine o_call ha rfl rfl Tryd.call28 (W_laws_toInt64SS (ha0_0.ext hE30) hc32) ?_; clear ha a; rintro v33 w34 ⟨b36, fs40, h37, z38, zf41, nd42, hx35⟩ a ha
  have q43 := Nq.new hB3.fpb z38
  have q44 := Nq.madeF z38 zf41 hB3.bi
  have q45 := Nq.new hB11.fpb z38
  have q46 := Nq.madeF z38 zf41 hB11.bi
  have q47 := Nq.new hB21.fpb z38
  have q48 := Nq.madeF z38 zf41 hB21.bi
  have q49 := Nf.new hB3.fpb zf41
  have q50 := Nf.new hB11.fpb zf41
  have q51 := Nf.new hB21.fpb zf41
  replace hB3 := hB3.ext hx35
  replace hB11 := hB11.ext hx35
  replace hB21 := hB21.ext hx35
  have hE52 := Ext.trans hE30 hx35
  have q53 := Zn.upD z38 hE30
  have q54 := zf_up zf41 hE30
  refine op_g ha rfl (g_field0 st27_0 rfl) ?_; clear ha a; intro a ha
  refine o_storeB ha hB21 Tryd.sizeOf22 rfl rfl h37.cells h37.oneC (Nat.le_of_ble_eq_true rfl) ?_; intro w55 hB56 hc57
  replace hc57 := hc57.bl
  replace hB56 : Bx w55 b19 [v33] 27 := hB56
  replace hB3 := hB3.nq hc57 q25
  replace hB11 := hB11.nq hc57 q27
  replace h37 := h37.nq hc57 q48
  have hE58 := Ext.then hE52 hc57 (Zn.bl q29)
  refine wpList_nil ?_; replace ha := ha.sub (σ' := [(2, (.pointer (some ⟨b9, 0, none⟩))), (3, (.pointer (some ⟨b19, 0, none⟩)))]) ⟨rfl, rfl, trivial⟩; refine e_then ?_; refine wp_seq ?_; refine wp_region_lit ?_; refine op_g ha rfl (g_loadA (cs := [v33]) Tryd.isAgg27 Tryd.sizeOf27 rfl (by simp) hB56.all) ?_; clear ha a; intro a ha
  refine o_storeA (vs := [v33]) ha hB11 Tryd.sizeOf27 rfl rfl (by intro c hc; simp only [List.mem_cons, List.not_mem_nil, or_false] at hc; rcases hc with hc <;> subst hc <;> first | rfl | exact h37.oneC) rfl ?_; intro w59 hB60 hc61
  replace hc61 := hc61.bl
  replace hB60 : Bx w59 b9 [v33] 27 := hB60
  replace hB56 := hB56.nq hc61 q28
  replace h37 := h37.nq hc61 q46
  have hE62 := Ext.then hE58 hc61 (Zn.bl q17)
  refine wpList_nil ?_; replace ha := ha.sub (σ' := [(2, (.pointer (some ⟨b9, 0, none⟩)))]) ⟨rfl, trivial⟩; refine e_then ?_; refine wp_ret ?_; obtain rfl := Option.some.inj hF
  exact f_retC (cs := [v33]) ha rfl rfl Tryd.isAgg27 Tryd.sizeOf27 hB60 ⟨_, _, _, rfl, h37, q53, q54, nd42, hE62⟩
set_option maxHeartbeats 2000000 in
theorem W_spec_l1Size {W : World} {va0_0 : Value} {fa0_0 : List Nat} {a0_0 : (List (List Int))} (ha0_0 : Ro (Rp.sl 2 Rp.int) W fa0_0 va0_0 a0_0) {r : Int} (hF : F_spec_l1Size a0_0 = some r) :
    Calls Tryd.prog 24 [.agg #[va0_0]].toArray W (Ret fun u w' => (u = .int .i64 r ∧ InI r) ∧ Ext W w') := by
  refine f_enter Tryd.func24 rfl Tryd.ntmps24 rfl ?_
  intro a ha
  replace ha : Fr 6 [(0, (.agg #[va0_0]))] a := ha
  have hE : Chg [] W W := Chg.refl _ _
  unfold F_spec_l1Size at hF
  refine wp_seq ?_; refine wp_region_lit ?_
  refine o_box ha rfl rfl rfl ?_; clear ha a; intro b1 w2 hB3 hx4 hlo5 a ha
  have q6 := Zn.one hlo5
  have q7 := Zn.upD q6 hE
  have hE8 := Ext.trans hE hx4
  refine op_g ha rfl (g_assign rfl) ?_; clear ha a; intro a ha; refine wpList_nil ?_; replace ha := ha.sub (σ' := [(1, (.pointer (some ⟨b1, 0, none⟩)))]) ⟨rfl, trivial⟩; refine e_then ?_; refine wp_seq ?_; refine wp_region_lit ?_; refine op_g ha rfl (g_field0 st27_0 rfl) ?_; clear ha a; intro a ha; refine op_g ha rfl (g_load Tryd.isAgg22 rfl (hB3.cell rfl)) ?_; clear ha a; intro a ha; refine op_g ha rfl (g_lenR sl22.und ha0_0 rfl) ?_; clear ha a; intro a ha; refine op_g ha rfl (g_assign rfl) ?_; clear ha a; intro a ha; refine wpList_nil ?_; replace ha := ha.sub (σ' := [(2, (.int .i64 (a0_0.length : Int)))]) ⟨rfl, trivial⟩
  refine e_then ?_; refine wp_ret ?_; obtain rfl := Option.some.inj hF
  exact f_ret1 ha rfl rfl ⟨⟨rfl, ha0_0.len⟩, hE8⟩
set_option maxHeartbeats 2000000 in
theorem W_spec_l1In {W : World} {a0 : Int} (ha0 : InI a0) {a1 : Int} (ha1 : InI a1) {a2 : Int} (ha2 : InI a2) {r : Bool} (hF : F_spec_l1In a0 a1 a2 = some r) :
    Calls Tryd.prog 45 [.int .i64 a0, .int .i64 a1, .int .i64 a2].toArray W (Ret fun u w' => u = .bool r ∧ Ext W w') := by
  refine f_enter Tryd.func45 rfl Tryd.ntmps45 rfl ?_
  intro a ha
  replace ha : Fr 15 [(0, (.int .i64 a0)), (1, (.int .i64 a1)), (2, (.int .i64 a2))] a := ha
  have hE : Chg [] W W := Chg.refl _ _
  unfold F_spec_l1In at hF
  refine wp_seq ?_; refine wp_region_lit ?_; refine op_g ha rfl (g_assign rfl) ?_; clear ha a; intro a ha; refine wpList_nil ?_; replace ha := ha.sub (σ' := [(0, (.int .i64 a0)), (1, (.int .i64 a1)), (2, (.int .i64 a2))]) ⟨rfl, rfl, rfl, trivial⟩; refine e_then ?_; refine wp_seq ?_; refine wp_region_lit ?_; (iterate 2 refine op_g ha rfl (g_move rfl) ?_; clear ha a; intro a ha); refine op_g ha rfl (g_geq rfl rfl) ?_; clear ha a; intro a ha; refine op_g ha rfl (g_move rfl) ?_; clear ha a; intro a ha
  by_cases hp1 : a1 ≤ a0
  · replace hF := if_t hp1 hF
    rw [show (decide (a1 ≤ a0)) = true from (decide_eq_true_iff).2 hp1] at ha
    refine op_want (yields ha rfl rfl) ?_; refine op_g ha rfl (g_move rfl) ?_; clear ha a; intro a ha; refine op_want (yields ha rfl rfl) ?_; refine op_g ha rfl (g_move rfl) ?_; clear ha a; intro a ha; refine op_want (yields ha rfl rfl) ?_; refine op_g ha rfl (g_leq rfl rfl) ?_; clear ha a; intro a ha; refine op_g ha rfl (g_pick rfl rfl) ?_; clear ha a; intro a ha; refine op_g ha rfl (g_assign rfl) ?_; clear ha a; intro a ha; refine wpList_nil ?_; replace ha := ha.sub (σ' := [(6, (.bool (decide (a0 ≤ a2))))]) ⟨rfl, trivial⟩; refine e_then ?_; refine wp_ret ?_; obtain rfl := Option.some.inj hF
    exact f_ret1 ha rfl rfl ⟨rfl, hE⟩
  replace hF := if_f hp1 hF
  rw [show (decide (a1 ≤ a0)) = false from b_false (decide_eq_true_iff) hp1] at ha
  (iterate 3 refine op_unwant ha rfl (yields ha rfl rfl) rfl ?_; clear ha a; intro a ha); refine op_g ha rfl (g_pick rfl rfl) ?_; clear ha a; intro a ha; refine op_g ha rfl (g_assign rfl) ?_; clear ha a; intro a ha; refine wpList_nil ?_; replace ha := ha.sub (σ' := [(6, (.bool false))]) ⟨rfl, trivial⟩; refine e_then ?_; refine wp_ret ?_; obtain rfl := Option.some.inj hF
  exact f_ret1 ha rfl rfl ⟨rfl, hE⟩
set_option maxHeartbeats 2000000 in
theorem W_spec_l1Set {W : World} {va0 : Value} {fa0 : List Nat} {a0 : (List Int)} (ha0 : Ro Rp.int W fa0 va0 a0) {a1 : Int} (ha1 : InI a1) {r : Bool} (hF : F_spec_l1Set a0 a1 = some r) :
    Calls Tryd.prog 46 [va0, .int .i64 a1].toArray W (Ret fun u w' => u = .bool r ∧ Ext W w') := by
  refine f_enter Tryd.func46 rfl Tryd.ntmps46 rfl ?_
  intro a ha
  replace ha : Fr 40 [(0, va0), (1, (.int .i64 a1))] a := ha
  have hE : Chg [] W W := Chg.refl _ _
  unfold F_spec_l1Set at hF
  refine wp_seq ?_; refine wp_region_lit ?_; refine op_g ha rfl (g_assign rfl) ?_; clear ha a; intro a ha; refine wpList_nil ?_; replace ha := ha.sub (σ' := [(0, va0), (1, (.int .i64 a1))]) ⟨rfl, rfl, trivial⟩; refine e_then ?_; refine wp_seq ?_; refine wp_seq ?_; refine wp_region_lit ?_; refine op_g ha rfl (g_move rfl) ?_; clear ha a; intro a ha; refine op_g ha rfl (g_lenR sl35.und ha0 rfl) ?_; clear ha a; intro a ha; refine op_g ha rfl (g_move rfl) ?_; clear ha a; intro a ha; refine op_g ha rfl (g_gtr rfl rfl) ?_; clear ha a; intro a ha; refine wpList_nil ?_; replace ha := ha.sub (σ' := [(0, va0), (1, (.int .i64 a1)), (9, (.bool (decide (a1 < (a0.length : Int)))))]) ⟨rfl, rfl, rfl, trivial⟩
  refine e_then ?_; refine c_cond (a1 < (a0.length : Int)) ha rfl (decide_eq_true_iff) (fun hp1 => ?_) (fun hp1 => ?_)
  · replace hF := if_t hp1 hF
    refine wp_seq ?_; refine wp_region_lit ?_; refine op_g ha rfl (g_assign rfl) ?_; clear ha a; intro a ha; refine wpList_nil ?_; replace ha := ha.sub (σ' := [(4, (.bool false))]) ⟨rfl, trivial⟩; refine e_then ?_; refine wp_ret ?_; refine e_then_ret ?_; obtain rfl := Option.some.inj hF
    exact f_ret1 ha rfl rfl ⟨rfl, hE⟩
  replace hF := if_f hp1 hF; refine wp_skip ?_; refine e_then ?_; refine wp_seq ?_; refine wp_seq ?_; refine wp_region_lit ?_; refine op_g ha rfl (g_assign rfl) ?_; clear ha a; intro a ha; refine wpList_nil ?_; replace ha := ha.sub (σ' := [(0, va0), (1, (.int .i64 a1)), (5, (.int .i64 0))]) ⟨rfl, rfl, rfl, trivial⟩; refine e_then ?_; obtain ⟨o137, ho138, hK139⟩ := bnd_some hF
  obtain ⟨n140, hn141⟩ := lp_some ho138; clear ho138
  refine c_loop (fun a w => Fr 40 [] a ∧ Chg [] W w ∧ o137 = .inl ()) (fun n a w => ∃ (i69 : Int), Fr 40 [(0, va0), (1, (.int .i64 a1)), (5, (.int .i64 i69))] a ∧ Chg [] W w ∧ InI i69 ∧ lpN (fun s => F_spec_l1Set_l1 a0 a1 s) n i69 = some o137) n140 ⟨0, ha.sub ⟨rfl, rfl, rfl, trivial⟩, hE, (show InI 0 from by decide), hn141⟩ ?_ ?_
  · rintro m145 a w68 ⟨i69, ha, hE71, hI70, hF⟩
    cases m145 with
    | zero => exact (lpN_zero hF).elim
    | succ m145 =>
      obtain ⟨z144, hF, hN143⟩ := lpN_succ hF
      have hF : F_spec_l1Set_l1 a0 a1 i69 = some z144 := hF; unfold F_spec_l1Set_l1 at hF
      refine wp_seq ?_; refine wp_seq ?_; refine wp_region_lit ?_; (iterate 2 refine op_g ha rfl (g_move rfl) ?_; clear ha a; intro a ha); refine op_g ha rfl (g_lenR sl35.und ha0 rfl) ?_; clear ha a; intro a ha; refine op_g ha rfl (g_lss rfl rfl) ?_; clear ha a; intro a ha; refine wpList_nil ?_; replace ha := ha.sub (σ' := [(0, va0), (1, (.int .i64 a1)), (5, (.int .i64 i69)), (13, (.bool (decide (i69 < (a0.length : Int)))))]) ⟨rfl, rfl, rfl, rfl, trivial⟩; refine e_then ?_; refine c_cond (i69 < (a0.length : Int)) ha rfl (decide_eq_true_iff) (fun hp146 => ?_) (fun hp146 => ?_)
      · replace hF := if_t hp146 hF
        refine wp_skip ?_; refine e_then ?_; refine wp_seq ?_; refine wp_block ?_; refine wp_seq ?_; refine d_quiet hmix (by kernel_rfl) ?_; (iterate 2 refine q_g ha rfl (g_move rfl) ?_; clear ha a; intro a ha); obtain ⟨x147, g148, gx149, hF⟩ := idx_some hF
        obtain ⟨p150, cs151, f152, hf153, hpb154, hat155, hr156, hi157⟩ := ha0.at g148 gx149
        obtain ⟨rfl, hI158, rfl⟩ := hr156
        refine q_g ha rfl (hi157.gives sl35 rfl rfl) ?_; clear ha a; intro a ha; refine q_g ha rfl (g_load0 hE71 Tryd.isAgg2 rfl hat155.one) ?_; clear ha a; intro a ha; refine q_g ha rfl (g_move rfl) ?_; clear ha a; intro a ha; obtain ⟨hI159, hF⟩ := ck_some hF; refine q_g ha rfl (g_sub rfl rfl hI159) ?_; clear ha a; intro a ha; obtain ⟨x163, hc164, hF⟩ := cal_some hF; refine q_call (.bool x163) ha rfl rfl Tryd.call45 (fun w162 hx161 => W_spec_l1In hI158 (show InI 0 from by decide) hI159 hc164) (fun _ _ _ h => ⟨h.1, h.2⟩) ?_; clear ha a; intro a ha; refine q_g ha rfl (g_not rfl) ?_; clear ha a; intro a ha
        refine q_g ha rfl (g_move rfl) ?_; clear ha a; intro a ha
        by_cases hp165 : ¬ (x163 = true)
        · replace hF := if_t hp165 hF
          rw [show (!x163) = true from (n_iff (Iff.rfl)).2 hp165] at ha
          (iterate 3 refine q_unwant ha rfl (yields ha rfl rfl) rfl ?_; clear ha a; intro a ha); (iterate 10 refine q_unwant0 ha rfl (yields0 ha rfl rfl) ?_; clear ha a; intro a ha); refine q_unwant ha rfl (yields ha rfl rfl) rfl ?_; clear ha a; intro a ha; refine q_g ha rfl (g_pick rfl rfl) ?_; clear ha a; intro a ha
          refine q_nil ?_; intro w166 hx167
          have hE168 := Ext.trans hE71 hx167
          replace ha := ha.sub (σ' := [(0, va0), (1, (.int .i64 a1)), (5, (.int .i64 i69)), (39, (.bool true))]) ⟨rfl, rfl, rfl, rfl, trivial⟩; refine e_then ?_; refine c_true ha rfl ?_; refine wp_seq ?_; refine wp_region_lit ?_; refine op_g ha rfl (g_assign rfl) ?_; clear ha a; intro a ha; refine wpList_nil ?_; replace ha := ha.sub (σ' := [(4, (.bool false))]) ⟨rfl, trivial⟩; refine e_then ?_; refine wp_ret ?_; refine e_blk_ret ?_; refine e_then_ret ?_; refine e_lq_ret ?_; refine e_then_ret ?_; obtain rfl := Option.some.inj hF
          have e169 := LK_inr hN143; subst e169
          have e170 := BK_inr hK139; subst e170
          exact f_ret1 ha rfl rfl ⟨rfl, hE168⟩
        replace hF := if_f hp165 hF
        rw [show (!x163) = false from b_false (n_iff (Iff.rfl)) hp165] at ha
        refine q_want (yields ha rfl rfl) ?_; refine q_g ha rfl (g_move rfl) ?_; clear ha a; intro a ha; refine q_want (yields ha rfl rfl) ?_; refine q_g ha rfl (g_gtr rfl rfl) ?_; clear ha a; intro a ha; refine q_want (yields ha rfl rfl) ?_; refine q_g ha rfl (g_move rfl) ?_; clear ha a; intro a ha
        by_cases hp171 : 0 < i69
        · replace hF := if_t hp171 hF
          rw [show (decide (0 < i69)) = true from (decide_eq_true_iff).2 hp171] at ha
          refine q_want (yields ha rfl rfl) ?_; refine q_g ha rfl (g_move rfl) ?_; clear ha a; intro a ha; refine q_want (yields ha rfl rfl) ?_; refine q_g ha rfl (g_move rfl) ?_; clear ha a; intro a ha; refine q_want (yields ha rfl rfl) ?_; obtain ⟨x172, g173, gx174, hF⟩ := idx_some hF
          obtain ⟨p175, cs176, f177, hf178, hpb179, hat180, hr181, hi182⟩ := ha0.at g173 gx174
          obtain ⟨rfl, hI183, rfl⟩ := hr181
          refine q_g ha rfl (hi182.gives sl35 rfl rfl) ?_; clear ha a; intro a ha; refine q_want (yields ha rfl rfl) ?_; refine q_g ha rfl (g_load0 hE71 Tryd.isAgg2 rfl hat180.one) ?_; clear ha a; intro a ha; refine q_want (yields ha rfl rfl) ?_; refine q_g ha rfl (g_move rfl) ?_; clear ha a; intro a ha; refine q_want (yields ha rfl rfl) ?_; refine q_g ha rfl (g_move rfl) ?_; clear ha a; intro a ha; refine q_want (yields ha rfl rfl) ?_; obtain ⟨hI184, hF⟩ := ck_some hF; refine q_g ha rfl (g_sub rfl rfl hI184) ?_; clear ha a; intro a ha; refine q_want (yields ha rfl rfl) ?_; obtain ⟨x186, g187, gx188, hF⟩ := idx_some hF
          obtain ⟨p189, cs190, f191, hf192, hpb193, hat194, hr195, hi196⟩ := ha0.at g187 gx188
          obtain ⟨rfl, hI197, rfl⟩ := hr195
          refine q_g ha rfl (hi196.gives sl35 rfl rfl) ?_; clear ha a; intro a ha; refine q_want (yields ha rfl rfl) ?_; refine q_g ha rfl (g_load0 hE71 Tryd.isAgg2 rfl hat194.one) ?_; clear ha a; intro a ha; refine q_want (yields ha rfl rfl) ?_; refine q_g ha rfl (g_leq rfl rfl) ?_; clear ha a; intro a ha; refine q_want (yields ha rfl rfl) ?_; (iterate 2 refine q_g ha rfl (g_pick rfl rfl) ?_; clear ha a; intro a ha)
          refine q_nil ?_; intro w198 hx199
          have hE200 := Ext.trans hE71 hx199
          replace ha := ha.sub (σ' := [(0, va0), (1, (.int .i64 a1)), (5, (.int .i64 i69)), (25, (.int .i64 i69)), (26, (.bool true)), (27, (.bool true)), (28, va0), (29, (.int .i64 i69)), (30, (.pointer (some p175))), (31, (.int .i64 x172)), (32, va0), (33, (.int .i64 i69)), (34, (.int .i64 (i69 - 1))), (35, (.pointer (some p189))), (36, (.int .i64 x186)), (37, (.bool (decide (x172 ≤ x186)))), (38, (.bool (decide (x172 ≤ x186)))), (39, (.bool (decide (x172 ≤ x186))))]) ⟨rfl, rfl, rfl, rfl, rfl, rfl, rfl, rfl, rfl, rfl, rfl, rfl, rfl, rfl, rfl, rfl, rfl, rfl, trivial⟩; refine e_then ?_; refine c_cond (x172 ≤ x186) ha rfl (decide_eq_true_iff) (fun hp201 => ?_) (fun hp201 => ?_)
          · replace hF := if_t hp201 hF
            refine wp_seq ?_; refine wp_region_lit ?_; refine op_g ha rfl (g_assign rfl) ?_; clear ha a; intro a ha; refine wpList_nil ?_; replace ha := ha.sub (σ' := [(4, (.bool false))]) ⟨rfl, trivial⟩; refine e_then ?_; refine wp_ret ?_; refine e_blk_ret ?_; refine e_then_ret ?_; refine e_lq_ret ?_; refine e_then_ret ?_; obtain rfl := Option.some.inj hF
            have e202 := LK_inr hN143; subst e202
            have e203 := BK_inr hK139; subst e203
            exact f_ret1 ha rfl rfl ⟨rfl, hE200⟩
          replace hF := if_f hp201 hF; refine wp_skip ?_; refine e_blk ?_; refine e_then ?_; refine wp_region_lit ?_; refine op_g ha rfl (g_move rfl) ?_; clear ha a; intro a ha; obtain ⟨hI204, hF⟩ := ck_some hF; refine op_g ha rfl (g_add rfl rfl hI204) ?_; clear ha a; intro a ha; refine op_g ha rfl (g_assign rfl) ?_; clear ha a; intro a ha; refine wpList_nil ?_; replace ha := ha.sub (σ' := [(0, va0), (1, (.int .i64 a1)), (5, (.int .i64 (i69 + 1))), (25, (.int .i64 i69)), (26, (.bool true)), (27, (.bool true)), (28, va0), (29, (.int .i64 i69)), (30, (.pointer (some p175))), (31, (.int .i64 x172)), (32, va0), (33, (.int .i64 i69)), (34, (.int .i64 (i69 - 1))), (35, (.pointer (some p189))), (36, (.int .i64 x186)), (37, (.bool (decide (x172 ≤ x186)))), (38, (.bool (decide (x172 ≤ x186))))]) ⟨rfl, rfl, rfl, rfl, rfl, rfl, rfl, rfl, rfl, rfl, rfl, rfl, rfl, rfl, rfl, rfl, rfl, trivial⟩
          refine e_lq ?_; obtain rfl := Option.some.inj hF
          exact ⟨_, Nat.lt_succ_self _, i69 + 1, ha.sub ⟨rfl, rfl, rfl, trivial⟩, hE200, hI204, hN143⟩
        replace hF := if_f hp171 hF
        rw [show (decide (0 < i69)) = false from b_false (decide_eq_true_iff) hp171] at ha
        (iterate 10 refine q_unwant ha rfl (yields ha rfl rfl) rfl ?_; clear ha a; intro a ha); refine q_want (yields ha rfl rfl) ?_; (iterate 2 refine q_g ha rfl (g_pick rfl rfl) ?_; clear ha a; intro a ha)
        refine q_nil ?_; intro w206 hx207
        have hE208 := Ext.trans hE71 hx207
        replace ha := ha.sub (σ' := [(0, va0), (1, (.int .i64 a1)), (5, (.int .i64 i69)), (25, (.int .i64 i69)), (26, (.bool false)), (27, (.bool false)), (38, (.bool false)), (39, (.bool false))]) ⟨rfl, rfl, rfl, rfl, rfl, rfl, rfl, rfl, trivial⟩; refine e_then ?_; refine c_false ha rfl ?_; refine wp_skip ?_; refine e_blk ?_; refine e_then ?_; refine wp_region_lit ?_; refine op_g ha rfl (g_move rfl) ?_; clear ha a; intro a ha; obtain ⟨hI209, hF⟩ := ck_some hF; refine op_g ha rfl (g_add rfl rfl hI209) ?_; clear ha a; intro a ha; refine op_g ha rfl (g_assign rfl) ?_; clear ha a; intro a ha; refine wpList_nil ?_
        replace ha := ha.sub (σ' := [(0, va0), (1, (.int .i64 a1)), (5, (.int .i64 (i69 + 1))), (25, (.int .i64 i69)), (26, (.bool false)), (27, (.bool false)), (38, (.bool false))]) ⟨rfl, rfl, rfl, rfl, rfl, rfl, rfl, trivial⟩; refine e_lq ?_; obtain rfl := Option.some.inj hF
        exact ⟨_, Nat.lt_succ_self _, i69 + 1, ha.sub ⟨rfl, rfl, rfl, trivial⟩, hE208, hI209, hN143⟩
      replace hF := if_f hp146 hF; refine wp_exit ?_; refine e_then_exit ?_; refine e_lq_eq ?_; obtain rfl := Option.some.inj hF
      exact ⟨ha.sub trivial, hE71, (LK_inr hN143).symm⟩
  rintro a w136 ⟨ha, hE142, rfl⟩
  have hF : F_spec_l1Set_k2 = some _ := hK139; clear hK139; unfold F_spec_l1Set_k2 at hF
  refine e_then ?_; refine wp_seq ?_; refine wp_region_lit ?_; refine op_g ha rfl (g_assign rfl) ?_; clear ha a; intro a ha; refine wpList_nil ?_; refine e_then ?_; refine wp_ret ?_; obtain rfl := Option.some.inj hF
  exact f_ret1 ha rfl rfl ⟨rfl, hE142⟩
set_option maxHeartbeats 2000000 in
theorem W_spec_l1Has {W : World} {va0 : Value} {fa0 : List Nat} {a0 : (List Int)} (ha0 : Ro Rp.int W fa0 va0 a0) {a1 : Int} (ha1 : InI a1) {r : Bool} (hF : F_spec_l1Has a0 a1 = some r) :
    Calls Tryd.prog 47 [va0, .int .i64 a1].toArray W (Ret fun u w' => u = .bool r ∧ Ext W w') := by
  refine f_enter Tryd.func47 rfl Tryd.ntmps47 rfl ?_
  intro a ha
  replace ha : Fr 18 [(0, va0), (1, (.int .i64 a1))] a := ha
  have hE : Chg [] W W := Chg.refl _ _
  unfold F_spec_l1Has at hF
  refine wp_seq ?_; refine wp_region_lit ?_; refine op_g ha rfl (g_assign rfl) ?_; clear ha a; intro a ha; refine wpList_nil ?_; replace ha := ha.sub (σ' := [(0, va0), (1, (.int .i64 a1))]) ⟨rfl, rfl, trivial⟩; refine e_then ?_; refine wp_seq ?_; refine wp_seq ?_; refine wp_region_lit ?_; refine op_g ha rfl (g_assign rfl) ?_; clear ha a; intro a ha; refine wpList_nil ?_; refine e_then ?_; obtain ⟨o46, ho47, hK48⟩ := bnd_some hF
  obtain ⟨n49, hn50⟩ := lp_some ho47; clear ho47
  refine c_loop (fun a w => Fr 18 [] a ∧ Chg [] W w ∧ o46 = .inl ()) (fun n a w => ∃ (i23 : Int), Fr 18 [(0, va0), (1, (.int .i64 a1)), (5, (.int .i64 i23))] a ∧ Chg [] W w ∧ InI i23 ∧ lpN (fun s => F_spec_l1Has_l1 a0 a1 s) n i23 = some o46) n49 ⟨0, ha.sub ⟨rfl, rfl, rfl, trivial⟩, hE, (show InI 0 from by decide), hn50⟩ ?_ ?_
  · rintro m54 a w22 ⟨i23, ha, hE25, hI24, hF⟩
    cases m54 with
    | zero => exact (lpN_zero hF).elim
    | succ m54 =>
      obtain ⟨z53, hF, hN52⟩ := lpN_succ hF
      have hF : F_spec_l1Has_l1 a0 a1 i23 = some z53 := hF; unfold F_spec_l1Has_l1 at hF
      refine wp_seq ?_; refine wp_seq ?_; refine wp_region_lit ?_; (iterate 2 refine op_g ha rfl (g_move rfl) ?_; clear ha a; intro a ha); refine op_g ha rfl (g_lenR sl35.und ha0 rfl) ?_; clear ha a; intro a ha; refine op_g ha rfl (g_lss rfl rfl) ?_; clear ha a; intro a ha; refine wpList_nil ?_; replace ha := ha.sub (σ' := [(0, va0), (1, (.int .i64 a1)), (5, (.int .i64 i23)), (9, (.bool (decide (i23 < (a0.length : Int)))))]) ⟨rfl, rfl, rfl, rfl, trivial⟩; refine e_then ?_; refine c_cond (i23 < (a0.length : Int)) ha rfl (decide_eq_true_iff) (fun hp55 => ?_) (fun hp55 => ?_)
      · replace hF := if_t hp55 hF
        refine wp_skip ?_; refine e_then ?_; refine wp_seq ?_; refine wp_block ?_; refine wp_seq ?_; refine wp_region_lit ?_; (iterate 2 refine op_g ha rfl (g_move rfl) ?_; clear ha a; intro a ha); obtain ⟨x56, g57, gx58, hF⟩ := idx_some hF
        obtain ⟨p59, cs60, f61, hf62, hpb63, hat64, hr65, hi66⟩ := ha0.at g57 gx58
        obtain ⟨rfl, hI67, rfl⟩ := hr65
        refine op_g ha rfl (hi66.gives sl35 rfl rfl) ?_; clear ha a; intro a ha; refine op_g ha rfl (g_load0 hE25 Tryd.isAgg2 rfl hat64.one) ?_; clear ha a; intro a ha; refine op_g ha rfl (g_move rfl) ?_; clear ha a; intro a ha; refine op_g ha rfl (g_eql rfl rfl) ?_; clear ha a; intro a ha; refine wpList_nil ?_; replace ha := ha.sub (σ' := [(0, va0), (1, (.int .i64 a1)), (5, (.int .i64 i23)), (17, (.bool (decide (x56 = a1))))]) ⟨rfl, rfl, rfl, rfl, trivial⟩; refine e_then ?_; refine c_cond (x56 = a1) ha rfl (decide_eq_true_iff) (fun hp68 => ?_) (fun hp68 => ?_)
        · replace hF := if_t hp68 hF
          refine wp_seq ?_; refine wp_region_lit ?_; refine op_g ha rfl (g_assign rfl) ?_; clear ha a; intro a ha; refine wpList_nil ?_; replace ha := ha.sub (σ' := [(4, (.bool true))]) ⟨rfl, trivial⟩; refine e_then ?_; refine wp_ret ?_; refine e_blk_ret ?_; refine e_then_ret ?_; refine e_lq_ret ?_; refine e_then_ret ?_; obtain rfl := Option.some.inj hF
          have e69 := LK_inr hN52; subst e69
          have e70 := BK_inr hK48; subst e70
          exact f_ret1 ha rfl rfl ⟨rfl, hE25⟩
        replace hF := if_f hp68 hF; refine wp_skip ?_; refine e_blk ?_; refine e_then ?_; refine wp_region_lit ?_; refine op_g ha rfl (g_move rfl) ?_; clear ha a; intro a ha; obtain ⟨hI71, hF⟩ := ck_some hF; refine op_g ha rfl (g_add rfl rfl hI71) ?_; clear ha a; intro a ha; refine op_g ha rfl (g_assign rfl) ?_; clear ha a; intro a ha; refine wpList_nil ?_; replace ha := ha.sub (σ' := [(0, va0), (1, (.int .i64 a1)), (5, (.int .i64 (i23 + 1)))]) ⟨rfl, rfl, rfl, trivial⟩; refine e_lq ?_; obtain rfl := Option.some.inj hF
        exact ⟨_, Nat.lt_succ_self _, i23 + 1, ha.sub ⟨rfl, rfl, rfl, trivial⟩, hE25, hI71, hN52⟩
      replace hF := if_f hp55 hF; refine wp_exit ?_; refine e_then_exit ?_; refine e_lq_eq ?_; obtain rfl := Option.some.inj hF
      exact ⟨ha.sub trivial, hE25, (LK_inr hN52).symm⟩
  rintro a w45 ⟨ha, hE51, rfl⟩
  have hF : F_spec_l1Has_k2 = some _ := hK48; clear hK48; unfold F_spec_l1Has_k2 at hF
  refine e_then ?_; refine wp_seq ?_; refine wp_region_lit ?_; refine op_g ha rfl (g_assign rfl) ?_; clear ha a; intro a ha; refine wpList_nil ?_; refine e_then ?_; refine wp_ret ?_; obtain rfl := Option.some.inj hF
  exact f_ret1 ha rfl rfl ⟨rfl, hE51⟩
set_option maxHeartbeats 2000000 in
theorem W_spec_GraphOk {W : World} {va0_0 : Value} {fa0_0 : List Nat} {a0_0 : (List (List Int))} (ha0_0 : Ro (Rp.sl 2 Rp.int) W fa0_0 va0_0 a0_0) {r : Bool} (hF : F_spec_GraphOk a0_0 = some r) :
    Calls Tryd.prog 23 [.agg #[va0_0]].toArray W (Ret fun u w' => u = .bool r ∧ Ext W w') := by
  refine f_enter Tryd.func23 rfl Tryd.ntmps23 rfl ?_
  intro a ha
  replace ha : Fr 64 [(0, (.agg #[va0_0]))] a := ha
  have hE : Chg [] W W := Chg.refl _ _
  unfold F_spec_GraphOk at hF
  refine wp_seq ?_; refine wp_region_lit ?_
  refine o_box ha rfl rfl rfl ?_; clear ha a; intro b1 w2 hB3 hx4 hlo5 a ha
  have q6 := Zn.one hlo5
  have q7 := Zn.upD q6 hE
  have hE8 := Ext.trans hE hx4
  refine op_g ha rfl (g_assign rfl) ?_; clear ha a; intro a ha; refine wpList_nil ?_; replace ha := ha.sub (σ' := [(1, (.pointer (some ⟨b1, 0, none⟩)))]) ⟨rfl, trivial⟩; refine e_then ?_; refine wp_seq ?_; refine wp_region_lit ?_; refine op_g ha rfl (g_loadA (cs := [va0_0]) Tryd.isAgg27 Tryd.sizeOf27 rfl (by simp) hB3.all) ?_; clear ha a; intro a ha; obtain ⟨x9, hc10, hF⟩ := cal_some hF
  refine o_call ha rfl rfl Tryd.call24 (W_spec_l1Size (ha0_0.ext hE8) hc10) ?_; clear ha a; rintro v11 w12 ⟨⟨rfl, hI14⟩, hx13⟩ a ha
  replace hB3 := hB3.ext hx13
  have hE15 := Ext.trans hE8 hx13
  refine op_g ha rfl (g_assign rfl) ?_; clear ha a; intro a ha; refine wpList_nil ?_; replace ha := ha.sub (σ' := [(1, (.pointer (some ⟨b1, 0, none⟩))), (3, (.int .i64 x9))]) ⟨rfl, rfl, trivial⟩; refine e_then ?_; refine wp_seq ?_; refine wp_seq ?_; refine wp_region_lit ?_; refine op_g ha rfl (g_move rfl) ?_; clear ha a; intro a ha; obtain ⟨x16, hc17, hF⟩ := cal_some hF
  refine o_call ha rfl rfl Tryd.call45 (W_spec_l1In hI14 (show InI 1 from by decide) (show InI 16 from by decide) hc17) ?_; clear ha a; rintro v18 w19 ⟨rfl, hx20⟩ a ha
  replace hB3 := hB3.ext hx20
  have hE21 := Ext.trans hE15 hx20
  refine op_g ha rfl (g_not rfl) ?_; clear ha a; intro a ha; refine wpList_nil ?_; replace ha := ha.sub (σ' := [(1, (.pointer (some ⟨b1, 0, none⟩))), (3, (.int .i64 x9)), (11, (.bool (!x16)))]) ⟨rfl, rfl, rfl, trivial⟩; refine e_then ?_; refine c_cond (¬ (x16 = true)) ha rfl (n_iff (Iff.rfl)) (fun hp22 => ?_) (fun hp22 => ?_)
  · replace hF := if_t hp22 hF
    refine wp_seq ?_; refine wp_region_lit ?_; refine op_g ha rfl (g_assign rfl) ?_; clear ha a; intro a ha; refine wpList_nil ?_; replace ha := ha.sub (σ' := [(2, (.bool false))]) ⟨rfl, trivial⟩; refine e_then ?_; refine wp_ret ?_; refine e_then_ret ?_; obtain rfl := Option.some.inj hF
    exact f_ret1 ha rfl rfl ⟨rfl, hE21⟩
  replace hF := if_f hp22 hF; refine wp_skip ?_; refine e_then ?_; refine wp_seq ?_; refine wp_seq ?_; refine wp_region_lit ?_; refine op_g ha rfl (g_assign rfl) ?_; clear ha a; intro a ha; refine wpList_nil ?_; replace ha := ha.sub (σ' := [(1, (.pointer (some ⟨b1, 0, none⟩))), (3, (.int .i64 x9)), (4, (.int .i64 0))]) ⟨rfl, rfl, rfl, trivial⟩; refine e_then ?_; obtain ⟨o136, ho137, hK138⟩ := bnd_some hF
  obtain ⟨n139, hn140⟩ := lp_some ho137; clear ho137
  refine c_loop (fun a w => Fr 64 [(1, (.pointer (some ⟨b1, 0, none⟩))), (3, (.int .i64 x9))] a ∧ Chg [] W w ∧ Bx w b1 [va0_0] 27 ∧ Zn W (b1 : Int) ∧ o136 = .inl ()) (fun n a w => ∃ (i80 : Int), Fr 64 [(1, (.pointer (some ⟨b1, 0, none⟩))), (3, (.int .i64 x9)), (4, (.int .i64 i80))] a ∧ Chg [] W w ∧ InI i80 ∧ Bx w b1 [va0_0] 27 ∧ Zn W (b1 : Int) ∧ lpN (fun s => F_spec_GraphOk_l1 a0_0 x9 s) n i80 = some o136) n139 ⟨0, ha.sub ⟨rfl, rfl, rfl, trivial⟩, hE21, (show InI 0 from by decide), hB3, q7, hn140⟩ ?_ ?_
  · rintro m144 a w77 ⟨i80, ha, hE82, hI81, hB78, z79, hF⟩
    cases m144 with
    | zero => exact (lpN_zero hF).elim
    | succ m144 =>
      obtain ⟨z143, hF, hN142⟩ := lpN_succ hF
      have hF : F_spec_GraphOk_l1 a0_0 x9 i80 = some z143 := hF; unfold F_spec_GraphOk_l1 at hF
      refine wp_seq ?_; refine wp_seq ?_; refine wp_region_lit ?_; (iterate 2 refine op_g ha rfl (g_move rfl) ?_; clear ha a; intro a ha); refine op_g ha rfl (g_lss rfl rfl) ?_; clear ha a; intro a ha; refine wpList_nil ?_; replace ha := ha.sub (σ' := [(1, (.pointer (some ⟨b1, 0, none⟩))), (3, (.int .i64 x9)), (4, (.int .i64 i80)), (14, (.bool (decide (i80 < x9))))]) ⟨rfl, rfl, rfl, rfl, trivial⟩; refine e_then ?_; refine c_cond (i80 < x9) ha rfl (decide_eq_true_iff) (fun hp145 => ?_) (fun hp145 => ?_)
      · replace hF := if_t hp145 hF
        refine wp_skip ?_; refine e_then ?_; refine wp_seq ?_; refine wp_block ?_; refine wp_seq ?_; refine wp_region_lit ?_; refine op_g ha rfl (g_field0 st27_0 rfl) ?_; clear ha a; intro a ha; refine op_g ha rfl (g_load Tryd.isAgg22 rfl (hB78.cell rfl)) ?_; clear ha a; intro a ha; refine op_g ha rfl (g_move rfl) ?_; clear ha a; intro a ha; obtain ⟨x146, g147, gx148, hF⟩ := idx_some hF
        obtain ⟨p149, cs150, f151, hf152, hpb153, hat154, hr155, hi156⟩ := ha0_0.at g147 gx148
        obtain ⟨v157, rfl, h158⟩ := hr155
        have h158 : Ro Rp.int W f151 v157 x146 := h158
        refine op_g ha rfl (hi156.gives sl22 rfl rfl) ?_; clear ha a; intro a ha; refine op_g ha rfl (g_load0 hE82 Tryd.isAgg35 rfl hat154.one) ?_; clear ha a; intro a ha; refine op_g ha rfl (g_move rfl) ?_; clear ha a; intro a ha; obtain ⟨x160, hc161, hF⟩ := cal_some hF
        refine o_call ha rfl rfl Tryd.call46 (W_spec_l1Set (h158.ext hE82) hI14 hc161) ?_; clear ha a; rintro v162 w163 ⟨rfl, hx164⟩ a ha
        replace hB78 := hB78.ext hx164
        have hE165 := Ext.trans hE82 hx164
        refine op_g ha rfl (g_not rfl) ?_; clear ha a; intro a ha; refine op_g ha rfl (g_move rfl) ?_; clear ha a; intro a ha
        by_cases hp166 : ¬ (x160 = true)
        · replace hF := if_t hp166 hF
          rw [show (!x160) = true from (n_iff (Iff.rfl)).2 hp166] at ha
          (iterate 7 refine op_unwant ha rfl (yields ha rfl rfl) rfl ?_; clear ha a; intro a ha); refine op_g ha rfl (g_pick rfl rfl) ?_; clear ha a; intro a ha; refine wpList_nil ?_; replace ha := ha.sub (σ' := [(1, (.pointer (some ⟨b1, 0, none⟩))), (3, (.int .i64 x9)), (4, (.int .i64 i80)), (33, (.bool true))]) ⟨rfl, rfl, rfl, rfl, trivial⟩; refine e_then ?_; refine c_true ha rfl ?_; refine wp_seq ?_; refine wp_region_lit ?_; refine op_g ha rfl (g_assign rfl) ?_; clear ha a; intro a ha; refine wpList_nil ?_; replace ha := ha.sub (σ' := [(2, (.bool false))]) ⟨rfl, trivial⟩; refine e_then ?_; refine wp_ret ?_
          refine e_blk_ret ?_; refine e_then_ret ?_; refine e_lq_ret ?_; refine e_then_ret ?_; obtain rfl := Option.some.inj hF
          have e167 := LK_inr hN142; subst e167
          have e168 := BK_inr hK138; subst e168
          exact f_ret1 ha rfl rfl ⟨rfl, hE165⟩
        replace hF := if_f hp166 hF
        rw [show (!x160) = false from b_false (n_iff (Iff.rfl)) hp166] at ha
        refine op_want (yields ha rfl rfl) ?_; refine op_g ha rfl (g_field0 st27_0 rfl) ?_; clear ha a; intro a ha; refine op_want (yields ha rfl rfl) ?_; refine op_g ha rfl (g_load Tryd.isAgg22 rfl (hB78.cell rfl)) ?_; clear ha a; intro a ha; refine op_want (yields ha rfl rfl) ?_; refine op_g ha rfl (g_move rfl) ?_; clear ha a; intro a ha; refine op_want (yields ha rfl rfl) ?_; obtain ⟨x169, g170, gx171, hF⟩ := idx_some hF
        obtain ⟨p172, cs173, f174, hf175, hpb176, hat177, hr178, hi179⟩ := ha0_0.at g170 gx171
        obtain ⟨v180, rfl, h181⟩ := hr178
        have h181 : Ro Rp.int W f174 v180 x169 := h181
        refine op_g ha rfl (hi179.gives sl22 rfl rfl) ?_; clear ha a; intro a ha; refine op_want (yields ha rfl rfl) ?_; refine op_g ha rfl (g_load0 hE165 Tryd.isAgg35 rfl hat177.one) ?_; clear ha a; intro a ha; refine op_want (yields ha rfl rfl) ?_; refine op_g ha rfl (g_move rfl) ?_; clear ha a; intro a ha; refine op_want (yields ha rfl rfl) ?_; obtain ⟨x183, hc184, hF⟩ := cal_some hF
        refine o_call ha rfl rfl Tryd.call47 (W_spec_l1Has (h181.ext hE165) hI81 hc184) ?_; clear ha a; rintro v185 w186 ⟨rfl, hx187⟩ a ha
        replace hB78 := hB78.ext hx187
        have hE188 := Ext.trans hE165 hx187
        refine op_g ha rfl (g_pick rfl rfl) ?_; clear ha a; intro a ha; refine wpList_nil ?_; replace ha := ha.sub (σ' := [(1, (.pointer (some ⟨b1, 0, none⟩))), (3, (.int .i64 x9)), (4, (.int .i64 i80)), (26, (.pointer (some ⟨b1, 0, none⟩))), (27, va0_0), (28, (.int .i64 i80)), (29, (.pointer (some p172))), (30, v180), (31, (.int .i64 i80)), (32, (.bool x183)), (33, (.bool x183))]) ⟨rfl, rfl, rfl, rfl, rfl, rfl, rfl, rfl, rfl, rfl, rfl, trivial⟩; refine e_then ?_; refine c_cond (x183 = true) ha rfl (Iff.rfl) (fun hp189 => ?_) (fun hp189 => ?_)
        · replace hF := if_t hp189 hF
          refine wp_seq ?_; refine wp_region_lit ?_; refine op_g ha rfl (g_assign rfl) ?_; clear ha a; intro a ha; refine wpList_nil ?_; replace ha := ha.sub (σ' := [(2, (.bool false))]) ⟨rfl, trivial⟩; refine e_then ?_; refine wp_ret ?_; refine e_blk_ret ?_; refine e_then_ret ?_; refine e_lq_ret ?_; refine e_then_ret ?_; obtain rfl := Option.some.inj hF
          have e190 := LK_inr hN142; subst e190
          have e191 := BK_inr hK138; subst e191
          exact f_ret1 ha rfl rfl ⟨rfl, hE188⟩
        replace hF := if_f hp189 hF; refine wp_skip ?_; refine e_blk ?_; refine e_then ?_; refine wp_region_lit ?_; refine op_g ha rfl (g_move rfl) ?_; clear ha a; intro a ha; obtain ⟨hI192, hF⟩ := ck_some hF; refine op_g ha rfl (g_add rfl rfl hI192) ?_; clear ha a; intro a ha; refine op_g ha rfl (g_assign rfl) ?_; clear ha a; intro a ha; refine wpList_nil ?_; replace ha := ha.sub (σ' := [(1, (.pointer (some ⟨b1, 0, none⟩))), (3, (.int .i64 x9)), (4, (.int .i64 (i80 + 1))), (26, (.pointer (some ⟨b1, 0, none⟩))), (27, va0_0), (28, (.int .i64 i80)), (29, (.pointer (some p172))), (30, v180), (31, (.int .i64 i80)), (32, (.bool x183))]) ⟨rfl, rfl, rfl, rfl, rfl, rfl, rfl, rfl, rfl, rfl, trivial⟩
        refine e_lq ?_; obtain rfl := Option.some.inj hF
        exact ⟨_, Nat.lt_succ_self _, i80 + 1, ha.sub ⟨rfl, rfl, rfl, trivial⟩, hE188, hI192, hB78, z79, hN142⟩
      replace hF := if_f hp145 hF; refine wp_exit ?_; refine e_then_exit ?_; refine e_lq_eq ?_; obtain rfl := Option.some.inj hF
      exact ⟨ha.sub ⟨rfl, rfl, trivial⟩, hE82, hB78, z79, (LK_inr hN142).symm⟩
  rintro a w133 ⟨ha, hE141, hB134, z135, rfl⟩
  have hF : F_spec_GraphOk_k2 a0_0 x9 = some _ := hK138; clear hK138; unfold F_spec_GraphOk_k2 at hF
  refine e_then ?_; refine wp_seq ?_; refine wp_seq ?_; refine wp_region_lit ?_; refine op_g ha rfl (g_assign rfl) ?_; clear ha a; intro a ha; refine wpList_nil ?_; refine e_then ?_; obtain ⟨o675, ho676, hK677⟩ := bnd_some hF
  obtain ⟨n678, hn679⟩ := lp_some ho676; clear ho676
  refine c_loop (fun a w => Fr 64 [] a ∧ Chg [] W w ∧ o675 = .inl ()) (fun n a w => ∃ (i436 : Int), Fr 64 [(1, (.pointer (some ⟨b1, 0, none⟩))), (3, (.int .i64 x9)), (5, (.int .i64 i436))] a ∧ Chg [] W w ∧ InI i436 ∧ Bx w b1 [va0_0] 27 ∧ Zn W (b1 : Int) ∧ lpN (fun s => F_spec_GraphOk_l3 a0_0 x9 s) n i436 = some o675) n678 ⟨0, ha.sub ⟨rfl, rfl, rfl, trivial⟩, hE141, (show InI 0 from by decide), hB134, z135, hn679⟩ ?_ ?_
  · rintro m683 a w433 ⟨i436, ha, hE438, hI437, hB434, z435, hF⟩
    cases m683 with
    | zero => exact (lpN_zero hF).elim
    | succ m683 =>
      obtain ⟨z682, hF, hN681⟩ := lpN_succ hF
      have hF : F_spec_GraphOk_l3 a0_0 x9 i436 = some z682 := hF; unfold F_spec_GraphOk_l3 at hF
      refine wp_seq ?_; refine wp_seq ?_; refine wp_region_lit ?_; (iterate 2 refine op_g ha rfl (g_move rfl) ?_; clear ha a; intro a ha); refine op_g ha rfl (g_lss rfl rfl) ?_; clear ha a; intro a ha; refine wpList_nil ?_; replace ha := ha.sub (σ' := [(1, (.pointer (some ⟨b1, 0, none⟩))), (3, (.int .i64 x9)), (5, (.int .i64 i436)), (36, (.bool (decide (i436 < x9))))]) ⟨rfl, rfl, rfl, rfl, trivial⟩; refine e_then ?_; refine c_cond (i436 < x9) ha rfl (decide_eq_true_iff) (fun hp684 => ?_) (fun hp684 => ?_)
      · replace hF := if_t hp684 hF
        refine wp_skip ?_; refine e_then ?_; refine wp_seq ?_; refine wp_block ?_; refine wp_seq ?_; refine wp_region_lit ?_; refine op_g ha rfl (g_assign rfl) ?_; clear ha a; intro a ha; refine wpList_nil ?_; replace ha := ha.sub (σ' := [(1, (.pointer (some ⟨b1, 0, none⟩))), (3, (.int .i64 x9)), (5, (.int .i64 i436)), (6, (.int .i64 0))]) ⟨rfl, rfl, rfl, rfl, trivial⟩; refine e_then ?_; obtain ⟨o838, ho839, hK840⟩ := bnd_some hF
        obtain ⟨n841, hn842⟩ := lp_some ho839; clear ho839
        refine c_loop (fun a w => Fr 64 [(1, (.pointer (some ⟨b1, 0, none⟩))), (3, (.int .i64 x9)), (5, (.int .i64 i436))] a ∧ Chg [] W w ∧ Bx w b1 [va0_0] 27 ∧ Zn W (b1 : Int) ∧ o838 = .inl ()) (fun n a w => ∃ (i762 : Int), Fr 64 [(1, (.pointer (some ⟨b1, 0, none⟩))), (3, (.int .i64 x9)), (5, (.int .i64 i436)), (6, (.int .i64 i762))] a ∧ Chg [] W w ∧ InI i762 ∧ Bx w b1 [va0_0] 27 ∧ Zn W (b1 : Int) ∧ lpN (fun s => F_spec_GraphOk_l4 a0_0 i436 s) n i762 = some o838) n841 ⟨0, ha.sub ⟨rfl, rfl, rfl, rfl, trivial⟩, hE438, (show InI 0 from by decide), hB434, z435, hn842⟩ ?_ ?_
        · rintro m846 a w759 ⟨i762, ha, hE764, hI763, hB760, z761, hF⟩
          cases m846 with
          | zero => exact (lpN_zero hF).elim
          | succ m846 =>
            obtain ⟨z845, hF, hN844⟩ := lpN_succ hF
            have hF : F_spec_GraphOk_l4 a0_0 i436 i762 = some z845 := hF; unfold F_spec_GraphOk_l4 at hF
            refine wp_seq ?_; refine wp_seq ?_; refine wp_region_lit ?_; refine op_g ha rfl (g_move rfl) ?_; clear ha a; intro a ha; refine op_g ha rfl (g_field0 st27_0 rfl) ?_; clear ha a; intro a ha; refine op_g ha rfl (g_load Tryd.isAgg22 rfl (hB760.cell rfl)) ?_; clear ha a; intro a ha; refine op_g ha rfl (g_move rfl) ?_; clear ha a; intro a ha; obtain ⟨x847, g848, gx849, hF⟩ := idx_some hF
            obtain ⟨p850, cs851, f852, hf853, hpb854, hat855, hr856, hi857⟩ := ha0_0.at g848 gx849
            obtain ⟨v858, rfl, h859⟩ := hr856
            have h859 : Ro Rp.int W f852 v858 x847 := h859
            refine op_g ha rfl (hi857.gives sl22 rfl rfl) ?_; clear ha a; intro a ha; refine op_g ha rfl (g_load0 hE764 Tryd.isAgg35 rfl hat855.one) ?_; clear ha a; intro a ha; refine op_g ha rfl (g_lenR sl35.und h859 rfl) ?_; clear ha a; intro a ha; refine op_g ha rfl (g_lss rfl rfl) ?_; clear ha a; intro a ha; refine wpList_nil ?_; replace ha := ha.sub (σ' := [(1, (.pointer (some ⟨b1, 0, none⟩))), (3, (.int .i64 x9)), (5, (.int .i64 i436)), (6, (.int .i64 i762)), (46, (.bool (decide (i762 < (x847.length : Int)))))]) ⟨rfl, rfl, rfl, rfl, rfl, trivial⟩; refine e_then ?_; refine c_cond (i762 < (x847.length : Int)) ha rfl (decide_eq_true_iff) (fun hp861 => ?_) (fun hp861 => ?_)
            · replace hF := if_t hp861 hF
              refine wp_skip ?_; refine e_then ?_; refine wp_seq ?_; refine wp_block ?_; refine wp_seq ?_; refine d_quiet hmix (by kernel_rfl) ?_; refine q_g ha rfl (g_field0 st27_0 rfl) ?_; clear ha a; intro a ha; refine q_g ha rfl (g_load Tryd.isAgg22 rfl (hB760.cell rfl)) ?_; clear ha a; intro a ha; refine q_g ha rfl (g_field0 st27_0 rfl) ?_; clear ha a; intro a ha; refine q_g ha rfl (g_load Tryd.isAgg22 rfl (hB760.cell rfl)) ?_; clear ha a; intro a ha; refine q_g ha rfl (g_move rfl) ?_; clear ha a; intro a ha; obtain ⟨x862, g863, gx864, hF⟩ := idx_some hF
              obtain ⟨p865, cs866, f867, hf868, hpb869, hat870, hr871, hi872⟩ := ha0_0.at g863 gx864
              obtain ⟨v873, rfl, h874⟩ := hr871
              have h874 : Ro Rp.int W f867 v873 x862 := h874
              refine q_g ha rfl (hi872.gives sl22 rfl rfl) ?_; clear ha a; intro a ha; refine q_g ha rfl (g_load0 hE764 Tryd.isAgg35 rfl hat870.one) ?_; clear ha a; intro a ha; refine q_g ha rfl (g_move rfl) ?_; clear ha a; intro a ha; obtain ⟨x876, g877, gx878, hF⟩ := idx_some hF
              obtain ⟨p879, cs880, f881, hf882, hpb883, hat884, hr885, hi886⟩ := h874.at g877 gx878
              obtain ⟨rfl, hI887, rfl⟩ := hr885
              refine q_g ha rfl (hi886.gives sl35 rfl rfl) ?_; clear ha a; intro a ha; refine q_g ha rfl (g_load0 hE764 Tryd.isAgg2 rfl hat884.one) ?_; clear ha a; intro a ha; obtain ⟨x888, g889, gx890, hF⟩ := idx_some hF
              obtain ⟨p891, cs892, f893, hf894, hpb895, hat896, hr897, hi898⟩ := ha0_0.at g889 gx890
              obtain ⟨v899, rfl, h900⟩ := hr897
              have h900 : Ro Rp.int W f893 v899 x888 := h900
              refine q_g ha rfl (hi898.gives sl22 rfl rfl) ?_; clear ha a; intro a ha; refine q_g ha rfl (g_load0 hE764 Tryd.isAgg35 rfl hat896.one) ?_; clear ha a; intro a ha; refine q_g ha rfl (g_move rfl) ?_; clear ha a; intro a ha; obtain ⟨x904, hc905, hF⟩ := cal_some hF; refine q_call (.bool x904) ha rfl rfl Tryd.call47 (fun w903 hx902 => W_spec_l1Has (h900.ext (Ext.trans hE764 hx902)) hI437 hc905) (fun _ _ _ h => ⟨h.1, h.2⟩) ?_; clear ha a; intro a ha; refine q_g ha rfl (g_not rfl) ?_; clear ha a; intro a ha
              refine q_nil ?_; intro w906 hx907
              replace hB760 := hB760.ext hx907
              have hE908 := Ext.trans hE764 hx907
              replace ha := ha.sub (σ' := [(1, (.pointer (some ⟨b1, 0, none⟩))), (3, (.int .i64 x9)), (5, (.int .i64 i436)), (6, (.int .i64 i762)), (63, (.bool (!x904)))]) ⟨rfl, rfl, rfl, rfl, rfl, trivial⟩; refine e_then ?_; refine c_cond (¬ (x904 = true)) ha rfl (n_iff (Iff.rfl)) (fun hp909 => ?_) (fun hp909 => ?_)
              · replace hF := if_t hp909 hF
                refine wp_seq ?_; refine wp_region_lit ?_; refine op_g ha rfl (g_assign rfl) ?_; clear ha a; intro a ha; refine wpList_nil ?_; replace ha := ha.sub (σ' := [(2, (.bool false))]) ⟨rfl, trivial⟩; refine e_then ?_; refine wp_ret ?_; refine e_blk_ret ?_; refine e_then_ret ?_; refine e_lq_ret ?_; refine e_blk_ret ?_; refine e_then_ret ?_; refine e_lq_ret ?_; refine e_then_ret ?_; obtain rfl := Option.some.inj hF
                have e910 := LK_inr hN844; subst e910
                have e911 := BK_inr hK840; subst e911
                have e912 := LK_inr hN681; subst e912
                have e913 := BK_inr hK677; subst e913
                exact f_ret1 ha rfl rfl ⟨rfl, hE908⟩
              replace hF := if_f hp909 hF; refine wp_skip ?_; refine e_blk ?_; refine e_then ?_; refine wp_region_lit ?_; refine op_g ha rfl (g_move rfl) ?_; clear ha a; intro a ha; obtain ⟨hI914, hF⟩ := ck_some hF; refine op_g ha rfl (g_add rfl rfl hI914) ?_; clear ha a; intro a ha; refine op_g ha rfl (g_assign rfl) ?_; clear ha a; intro a ha; refine wpList_nil ?_; replace ha := ha.sub (σ' := [(1, (.pointer (some ⟨b1, 0, none⟩))), (3, (.int .i64 x9)), (5, (.int .i64 i436)), (6, (.int .i64 (i762 + 1)))]) ⟨rfl, rfl, rfl, rfl, trivial⟩; refine e_lq ?_; obtain rfl := Option.some.inj hF
              exact ⟨_, Nat.lt_succ_self _, i762 + 1, ha.sub ⟨rfl, rfl, rfl, rfl, trivial⟩, hE908, hI914, hB760, z761, hN844⟩
            replace hF := if_f hp861 hF; refine wp_exit ?_; refine e_then_exit ?_; refine e_lq_eq ?_; obtain rfl := Option.some.inj hF
            exact ⟨ha.sub ⟨rfl, rfl, rfl, trivial⟩, hE764, hB760, z761, (LK_inr hN844).symm⟩
        rintro a w835 ⟨ha, hE843, hB836, z837, rfl⟩
        have hF : F_spec_GraphOk_k5 i436 = some _ := hK840; clear hK840; unfold F_spec_GraphOk_k5 at hF
        refine e_blk ?_; refine e_then ?_; refine wp_region_lit ?_; refine op_g ha rfl (g_move rfl) ?_; clear ha a; intro a ha; obtain ⟨hI916, hF⟩ := ck_some hF; refine op_g ha rfl (g_add rfl rfl hI916) ?_; clear ha a; intro a ha; refine op_g ha rfl (g_assign rfl) ?_; clear ha a; intro a ha; refine wpList_nil ?_; replace ha := ha.sub (σ' := [(1, (.pointer (some ⟨b1, 0, none⟩))), (3, (.int .i64 x9)), (5, (.int .i64 (i436 + 1)))]) ⟨rfl, rfl, rfl, trivial⟩; refine e_lq ?_; obtain rfl := Option.some.inj hF
        exact ⟨_, Nat.lt_succ_self _, i436 + 1, ha.sub ⟨rfl, rfl, rfl, trivial⟩, hE843, hI916, hB836, z837, hN681⟩
      replace hF := if_f hp684 hF; refine wp_exit ?_; refine e_then_exit ?_; refine e_lq_eq ?_; obtain rfl := Option.some.inj hF
      exact ⟨ha.sub trivial, hE438, (LK_inr hN681).symm⟩
  rintro a w674 ⟨ha, hE680, rfl⟩
  have hF : F_spec_GraphOk_k6 = some _ := hK677; clear hK677; unfold F_spec_GraphOk_k6 at hF
  refine e_then ?_; refine wp_seq ?_; refine wp_region_lit ?_; refine op_g ha rfl (g_assign rfl) ?_; clear ha a; intro a ha; refine wpList_nil ?_; refine e_then ?_; refine wp_ret ?_; obtain rfl := Option.some.inj hF
  exact f_ret1 ha rfl rfl ⟨rfl, hE680⟩
set_option maxHeartbeats 2000000 in
theorem W_spec_l25Bits {W : World} {va0_0 : Value} {fa0_0 : List Nat} {a0_0 : (List (List Int))} (ha0_0 : Ro (Rp.sl 2 Rp.int) W fa0_0 va0_0 a0_0) {r : (List Int)} (hF : F_spec_l25Bits a0_0 = some r) :
    Calls Tryd.prog 26 [.agg #[va0_0]].toArray W (Ret fun u w' => ∃ (b_u : Int), Ow Rp.int 2 true w' [] b_u u r ∧ Zn W b_u ∧ Ext W w') := by
  refine f_enter Tryd.func26 rfl Tryd.ntmps26 rfl ?_
  intro a ha
  replace ha : Fr 42 [(0, (.agg #[va0_0]))] a := ha
  have hE : Chg [] W W := Chg.refl _ _
  unfold F_spec_l25Bits at hF
  refine wp_seq ?_; refine wp_region_lit ?_
  refine o_box ha rfl rfl rfl ?_; clear ha a; intro b1 w2 hB3 hx4 hlo5 a ha
  have q6 := Zn.one hlo5
  have q7 := Zn.upD q6 hE
  have hE8 := Ext.trans hE hx4
  refine op_g ha rfl (g_assign rfl) ?_; clear ha a; intro a ha; refine wpList_nil ?_; replace ha := ha.sub (σ' := [(1, (.pointer (some ⟨b1, 0, none⟩)))]) ⟨rfl, trivial⟩; refine e_then ?_; refine wp_seq ?_; refine wp_region_lit ?_
  refine o_lit0 Rp.int ha rfl sl35 ?_; clear ha a; intro v9 w10 h11 hx12 a ha
  obtain ⟨b14, hb14⟩ : ∃ b : Int, b = w2.heap.size := ⟨_, rfl⟩; rw [← hb14] at h11
  have q15 := zn_of hb14
  have q16 := Nq.new hB3.fpb q15
  have q17 := Nq.madeO q15 hB3.bi
  have q18 := Zn.upD q15 hE8
  replace hB3 := hB3.ext hx12
  have hE19 := Ext.trans hE8 hx12
  refine op_g ha rfl (g_assign rfl) ?_; clear ha a; intro a ha; refine wpList_nil ?_; replace ha := ha.sub (σ' := [(1, (.pointer (some ⟨b1, 0, none⟩))), (3, v9)]) ⟨rfl, rfl, trivial⟩; refine e_then ?_; refine wp_seq ?_; refine wp_seq ?_; refine wp_region_lit ?_; refine op_g ha rfl (g_assign rfl) ?_; clear ha a; intro a ha; refine wpList_nil ?_; refine e_then ?_; obtain ⟨o542, ho543, hK544⟩ := bnd_some hF
  obtain ⟨n545, hn546⟩ := lp_some ho543; clear ho543
  refine c_loop (fun a w => ∃ (l539 : (List Int)) (v540 : Value) (b541 : Int), Fr 42 [(3, v540)] a ∧ Chg [] W w ∧ Ow Rp.int 2 true w [] b541 v540 l539 ∧ Zn W b541 ∧ o542 = .inl l539) (fun n a w => ∃ (l281 : (List Int)) (i284 : Int) (v282 : Value) (b283 : Int), Fr 42 [(1, (.pointer (some ⟨b1, 0, none⟩))), (3, v282), (4, (.int .i64 i284))] a ∧ Chg [] W w ∧ InI i284 ∧ Bx w b1 [va0_0] 27 ∧ Zn W (b1 : Int) ∧ Ow Rp.int 2 true w [] b283 v282 l281 ∧ Zn W b283 ∧ Nq ([b1]) b283 ∧ Nq (bl b283 ++ []) (b1 : Int) ∧ lpN (fun s => F_spec_l25Bits_l1 a0_0 s.1 s.2) n (l281, i284) = some o542) n545 ⟨([] : (List Int)), 0, v9, b14, ha.sub ⟨rfl, rfl, rfl, trivial⟩, hE19, (show InI 0 from by decide), hB3, q7, h11, q18, q16, q17, hn546⟩ ?_ ?_
  · rintro m550 a w275 ⟨l281, i284, v282, b283, ha, hE288, hI285, hB276, z277, h279, z280, q286, q287, hF⟩
    cases m550 with
    | zero => exact (lpN_zero hF).elim
    | succ m550 =>
      obtain ⟨z549, hF, hN548⟩ := lpN_succ hF
      have hF : F_spec_l25Bits_l1 a0_0 l281 i284 = some z549 := hF; unfold F_spec_l25Bits_l1 at hF
      refine wp_seq ?_; refine wp_seq ?_; refine wp_region_lit ?_; refine op_g ha rfl (g_move rfl) ?_; clear ha a; intro a ha; refine op_g ha rfl (g_field0 st27_0 rfl) ?_; clear ha a; intro a ha; refine op_g ha rfl (g_load Tryd.isAgg22 rfl (hB276.cell rfl)) ?_; clear ha a; intro a ha; refine op_g ha rfl (g_lenR sl22.und ha0_0 rfl) ?_; clear ha a; intro a ha; refine op_g ha rfl (g_lss rfl rfl) ?_; clear ha a; intro a ha; refine wpList_nil ?_; replace ha := ha.sub (σ' := [(1, (.pointer (some ⟨b1, 0, none⟩))), (3, v282), (4, (.int .i64 i284)), (12, (.bool (decide (i284 < (a0_0.length : Int)))))]) ⟨rfl, rfl, rfl, rfl, trivial⟩
      refine e_then ?_; refine c_cond (i284 < (a0_0.length : Int)) ha rfl (decide_eq_true_iff) (fun hp551 => ?_) (fun hp551 => ?_)
      · replace hF := if_t hp551 hF
        refine wp_skip ?_; refine e_then ?_; refine wp_seq ?_; refine wp_block ?_; refine wp_seq ?_; refine wp_region_lit ?_; refine op_g ha rfl (g_assign rfl) ?_; clear ha a; intro a ha; refine wpList_nil ?_; replace ha := ha.sub (σ' := [(1, (.pointer (some ⟨b1, 0, none⟩))), (3, v282), (4, (.int .i64 i284)), (5, (.int .i64 0))]) ⟨rfl, rfl, rfl, rfl, trivial⟩; refine e_then ?_; refine wp_seq ?_; refine wp_seq ?_; refine wp_region_lit ?_; refine op_g ha rfl (g_assign rfl) ?_; clear ha a; intro a ha; refine wpList_nil ?_; replace ha := ha.sub (σ' := [(1, (.pointer (some ⟨b1, 0, none⟩))), (3, v282), (4, (.int .i64 i284)), (5, (.int .i64 0)), (6, (.int .i64 0))]) ⟨rfl, rfl, rfl, rfl, rfl, trivial⟩
        refine e_then ?_; obtain ⟨o700, ho701, hK702⟩ := bnd_some hF
        obtain ⟨n703, hn704⟩ := lp_some ho701; clear ho701
        refine c_loop (fun a w => ∃ (i696 : Int), Fr 42 [(1, (.pointer (some ⟨b1, 0, none⟩))), (3, v282), (4, (.int .i64 i284)), (5, (.int .i64 i696))] a ∧ Chg [] W w ∧ InI i696 ∧ Bx w b1 [va0_0] 27 ∧ Zn W (b1 : Int) ∧ Ow Rp.int 2 true w [] b283 v282 l281 ∧ Zn W b283 ∧ Nq ([b1]) b283 ∧ Nq (bl b283 ++ []) (b1 : Int) ∧ o700 = .inl i696) (fun n a w => ∃ (i625 : Int) (i627 : Int), Fr 42 [(1, (.pointer (some ⟨b1, 0, none⟩))), (3, v282), (4, (.int .i64 i284)), (5, (.int .i64 i625)), (6, (.int .i64 i627))] a ∧ Chg [] W w ∧ InI i625 ∧ InI i627 ∧ Bx w b1 [va0_0] 27 ∧ Zn W (b1 : Int) ∧ Ow Rp.int 2 true w [] b283 v282 l281 ∧ Zn W b283 ∧ Nq ([b1]) b283 ∧ Nq (bl b283 ++ []) (b1 : Int) ∧ lpN (fun s => F_spec_l25Bits_l2 a0_0 i284 s.1 s.2) n (i625, i627) = some o700) n703 ⟨0, 0, ha.sub ⟨rfl, rfl, rfl, rfl, rfl, trivial⟩, hE288, (show InI 0 from by decide), (show InI 0 from by decide), hB276, z277, h279, z280, q286, q287, hn704⟩ ?_ ?_
        · rintro m708 a w619 ⟨i625, i627, ha, hE631, hI626, hI628, hB620, z621, h623, z624, q629, q630, hF⟩
          cases m708 with
          | zero => exact (lpN_zero hF).elim
          | succ m708 =>
            obtain ⟨z707, hF, hN706⟩ := lpN_succ hF
            have hF : F_spec_l25Bits_l2 a0_0 i284 i625 i627 = some z707 := hF; unfold F_spec_l25Bits_l2 at hF
            refine wp_seq ?_; refine wp_seq ?_; refine wp_region_lit ?_; refine op_g ha rfl (g_move rfl) ?_; clear ha a; intro a ha; refine op_g ha rfl (g_field0 st27_0 rfl) ?_; clear ha a; intro a ha; refine op_g ha rfl (g_load Tryd.isAgg22 rfl (hB620.cell rfl)) ?_; clear ha a; intro a ha; refine op_g ha rfl (g_move rfl) ?_; clear ha a; intro a ha; obtain ⟨x709, g710, gx711, hF⟩ := idx_some hF
            obtain ⟨p712, cs713, f714, hf715, hpb716, hat717, hr718, hi719⟩ := ha0_0.at g710 gx711
            obtain ⟨v720, rfl, h721⟩ := hr718
            have h721 : Ro Rp.int W f714 v720 x709 := h721
            refine op_g ha rfl (hi719.gives sl22 rfl rfl) ?_; clear ha a; intro a ha; refine op_g ha rfl (g_load0 hE631 Tryd.isAgg35 rfl hat717.one) ?_; clear ha a; intro a ha; refine op_g ha rfl (g_lenR sl35.und h721 rfl) ?_; clear ha a; intro a ha; refine op_g ha rfl (g_lss rfl rfl) ?_; clear ha a; intro a ha; refine wpList_nil ?_; replace ha := ha.sub (σ' := [(1, (.pointer (some ⟨b1, 0, none⟩))), (3, v282), (4, (.int .i64 i284)), (5, (.int .i64 i625)), (6, (.int .i64 i627)), (22, (.bool (decide (i627 < (x709.length : Int)))))]) ⟨rfl, rfl, rfl, rfl, rfl, rfl, trivial⟩; refine e_then ?_; refine c_cond (i627 < (x709.length : Int)) ha rfl (decide_eq_true_iff) (fun hp723 => ?_) (fun hp723 => ?_)
            · replace hF := if_t hp723 hF
              refine wp_skip ?_; refine e_then ?_; refine wp_seq ?_; refine wp_block ?_; refine wp_region_lit ?_; refine op_g ha rfl (g_move rfl) ?_; clear ha a; intro a ha; refine op_g ha rfl (g_field0 st27_0 rfl) ?_; clear ha a; intro a ha; refine op_g ha rfl (g_load Tryd.isAgg22 rfl (hB620.cell rfl)) ?_; clear ha a; intro a ha; refine op_g ha rfl (g_move rfl) ?_; clear ha a; intro a ha; obtain ⟨x724, g725, gx726, hF⟩ := idx_some hF
              obtain ⟨p727, cs728, f729, hf730, hpb731, hat732, hr733, hi734⟩ := ha0_0.at g725 gx726
              obtain ⟨v735, rfl, h736⟩ := hr733
              have h736 : Ro Rp.int W f729 v735 x724 := h736
              refine op_g ha rfl (hi734.gives sl22 rfl rfl) ?_; clear ha a; intro a ha; refine op_g ha rfl (g_load0 hE631 Tryd.isAgg35 rfl hat732.one) ?_; clear ha a; intro a ha; refine op_g ha rfl (g_move rfl) ?_; clear ha a; intro a ha; obtain ⟨x738, g739, gx740, hF⟩ := idx_some hF
              obtain ⟨p741, cs742, f743, hf744, hpb745, hat746, hr747, hi748⟩ := h736.at g739 gx740
              obtain ⟨rfl, hI749, rfl⟩ := hr747
              refine op_g ha rfl (hi748.gives sl35 rfl rfl) ?_; clear ha a; intro a ha; refine op_g ha rfl (g_load0 hE631 Tryd.isAgg2 rfl hat746.one) ?_; clear ha a; intro a ha; obtain ⟨h0750, hF⟩ := grd_some hF; refine op_g ha rfl (g_conv6u un2 un57 rfl hI749 h0750) ?_; clear ha a; intro a ha; obtain ⟨hI751, hF⟩ := ck_some hF; refine op_g ha rfl (g64_shl rfl rfl (inU_of hI749 h0750).1 hI751) ?_; clear ha a; intro a ha; refine op_g ha rfl (g64_or rfl rfl) ?_; clear ha a; intro a ha; refine op_g ha rfl (g_assign rfl) ?_; clear ha a; intro a ha; refine wpList_nil ?_; replace ha := ha.sub (σ' := [(1, (.pointer (some ⟨b1, 0, none⟩))), (3, v282), (4, (.int .i64 i284)), (5, (.int .i64 (i64or i625 (1 * 2 ^ (x738 : Int).toNat)))), (6, (.int .i64 i627))]) ⟨rfl, rfl, rfl, rfl, rfl, trivial⟩
              refine e_blk ?_; refine e_then ?_; refine wp_region_lit ?_; refine op_g ha rfl (g_move rfl) ?_; clear ha a; intro a ha; obtain ⟨hI753, hF⟩ := ck_some hF; refine op_g ha rfl (g_add rfl rfl hI753) ?_; clear ha a; intro a ha; refine op_g ha rfl (g_assign rfl) ?_; clear ha a; intro a ha; refine wpList_nil ?_; replace ha := ha.sub (σ' := [(1, (.pointer (some ⟨b1, 0, none⟩))), (3, v282), (4, (.int .i64 i284)), (5, (.int .i64 (i64or i625 (1 * 2 ^ (x738 : Int).toNat)))), (6, (.int .i64 (i627 + 1)))]) ⟨rfl, rfl, rfl, rfl, rfl, trivial⟩; refine e_lq ?_; obtain rfl := Option.some.inj hF
              exact ⟨_, Nat.lt_succ_self _, i64or i625 (1 * 2 ^ (x738 : Int).toNat), i627 + 1, ha.sub ⟨rfl, rfl, rfl, rfl, rfl, trivial⟩, hE631, (in_i64or _ _), hI753, hB620, z621, h623, z624, q629, q630, hN706⟩
            replace hF := if_f hp723 hF; refine wp_exit ?_; refine e_then_exit ?_; refine e_lq_eq ?_; obtain rfl := Option.some.inj hF
            exact ⟨i625, ha.sub ⟨rfl, rfl, rfl, rfl, trivial⟩, hE631, hI626, hB620, z621, h623, z624, q629, q630, (LK_inr hN706).symm⟩
        rintro a w690 ⟨i696, ha, hE705, hI697, hB691, z692, h694, z695, q698, q699, rfl⟩
        have hF : F_spec_l25Bits_k3 l281 i284 i696 = some _ := hK702; clear hK702; unfold F_spec_l25Bits_k3 at hF
        refine e_then ?_; refine wp_region_lit ?_; (iterate 2 refine op_g ha rfl (g_move rfl) ?_; clear ha a; intro a ha)
        refine o_lit1 (o := true) (y := i696) Rp.int ha rfl sl35 rfl rfl rfl ⟨rfl, hI697, rfl⟩ ?_; clear ha a; intro v755 w756 h757 hx758 a ha
        obtain ⟨b760, hb760⟩ : ∃ b : Int, b = w690.heap.size := ⟨_, rfl⟩; rw [← hb760] at h757
        have q761 := zn_of hb760
        have q762 := Nq.new hB691.fpb q761
        have q763 := Nq.madeO q761 hB691.bi
        have q764 := Nq.new h694.fpb q761
        have q765 := Nq.madeO q761 h694.blt
        have q766 := Zn.upD q761 hE705
        replace hB691 := hB691.ext hx758
        replace h694 := h694.ext hx758
        have hE767 := Ext.trans hE705 hx758
        obtain ⟨hl768, hF⟩ := app_some hF
        refine o_append ha rfl sl35 rfl rfl rfl h694 h757.src (Nq.nil _) hl768 ?_; clear ha a; intro v769 w770 b771 h772 hc773 hb774 a ha
        replace h772 : Ow Rp.int 2 true w770 [] b771 v769 _ := h772
        have q776 := Nq.appY q698 hB691.fpb hb774
        have q777 := Nq.appX q699 (Nq.nil _) hb774 hB691.bi
        have q778 := Nq.appY q765 h757.fpb hb774
        have q779 := Nq.appX q764 (Nq.nil _) hb774 h757.blt
        have q780 := Zn.appD z695 hb774 hE767
        replace hB691 := hB691.nq hc773 q698
        replace h757 := h757.nq hc773 q765
        have hE781 := Ext.then hE767 hc773 (Zn.bl z695)
        refine op_g ha rfl (g_assign rfl) ?_; clear ha a; intro a ha; refine wpList_nil ?_; replace ha := ha.sub (σ' := [(1, (.pointer (some ⟨b1, 0, none⟩))), (3, v769), (4, (.int .i64 i284))]) ⟨rfl, rfl, rfl, trivial⟩; refine e_blk ?_; refine e_then ?_; refine wp_region_lit ?_; refine op_g ha rfl (g_move rfl) ?_; clear ha a; intro a ha; obtain ⟨hI782, hF⟩ := ck_some hF; refine op_g ha rfl (g_add rfl rfl hI782) ?_; clear ha a; intro a ha; refine op_g ha rfl (g_assign rfl) ?_; clear ha a; intro a ha; refine wpList_nil ?_; replace ha := ha.sub (σ' := [(1, (.pointer (some ⟨b1, 0, none⟩))), (3, v769), (4, (.int .i64 (i284 + 1)))]) ⟨rfl, rfl, rfl, trivial⟩
        refine e_lq ?_; obtain rfl := Option.some.inj hF
        exact ⟨_, Nat.lt_succ_self _, (l281 ++ ([i696])), i284 + 1, v769, b771, ha.sub ⟨rfl, rfl, rfl, trivial⟩, hE781, hI782, hB691, z692, h772, q780, q776, q777, hN548⟩
      replace hF := if_f hp551 hF; refine wp_exit ?_; refine e_then_exit ?_; refine e_lq_eq ?_; obtain rfl := Option.some.inj hF
      exact ⟨l281, v282, b283, ha.sub ⟨rfl, trivial⟩, hE288, h279, z280, (LK_inr hN548).symm⟩
  rintro a w535 ⟨l539, v540, b541, ha, hE547, h537, z538, rfl⟩
  have hF : F_spec_l25Bits_k4 l539 = some _ := hK544; clear hK544; unfold F_spec_l25Bits_k4 at hF
  refine e_then ?_; refine wp_seq ?_; refine wp_region_lit ?_; refine op_g ha rfl (g_move rfl) ?_; clear ha a; intro a ha; refine op_g ha rfl (g_assign rfl) ?_; clear ha a; intro a ha; refine wpList_nil ?_; replace ha := ha.sub (σ' := [(2, v540)]) ⟨rfl, trivial⟩; refine e_then ?_; refine wp_ret ?_; obtain rfl := Option.some.inj hF
  exact f_ret1 ha rfl rfl ⟨_, h537, z538, hE547⟩
set_option maxHeartbeats 2000000 in
theorem W_spec_l1Flag {W : World} {a0 : Bool} {r : Int} (hF : F_spec_l1Flag a0 = some r) :
    Calls Tryd.prog 48 [.bool a0].toArray W (Ret fun u w' => (u = .int .i64 r ∧ InI r) ∧ Ext W w') := by
  refine f_enter Tryd.func48 rfl Tryd.ntmps48 rfl ?_
  intro a ha
  replace ha : Fr 4 [(0, (.bool a0))] a := ha
  have hE : Chg [] W W := Chg.refl _ _
  unfold F_spec_l1Flag at hF
  refine wp_seq ?_; refine wp_region_lit ?_; refine op_g ha rfl (g_assign rfl) ?_; clear ha a; intro a ha; refine wpList_nil ?_; replace ha := ha.sub (σ' := [(0, (.bool a0))]) ⟨rfl, trivial⟩; refine e_then ?_; refine wp_seq ?_; refine wp_seq ?_; refine wp_region_lit ?_; refine op_g ha rfl (g_move rfl) ?_; clear ha a; intro a ha; refine wpList_nil ?_; replace ha := ha.sub (σ' := [(3, (.bool a0))]) ⟨rfl, trivial⟩; refine e_then ?_; refine c_cond (a0 = true) ha rfl (Iff.rfl) (fun hp1 => ?_) (fun hp1 => ?_)
  · replace hF := if_t hp1 hF
    refine wp_seq ?_; refine wp_region_lit ?_; refine op_g ha rfl (g_assign rfl) ?_; clear ha a; intro a ha; refine wpList_nil ?_; replace ha := ha.sub (σ' := [(2, (.int .i64 1))]) ⟨rfl, trivial⟩; refine e_then ?_; refine wp_ret ?_; refine e_then_ret ?_; obtain rfl := Option.some.inj hF
    exact f_ret1 ha rfl rfl ⟨⟨rfl, (show InI 1 from by decide)⟩, hE⟩
  replace hF := if_f hp1 hF; refine wp_skip ?_; refine e_then ?_; refine wp_seq ?_; refine wp_region_lit ?_; refine op_g ha rfl (g_assign rfl) ?_; clear ha a; intro a ha; refine wpList_nil ?_; replace ha := ha.sub (σ' := [(2, (.int .i64 0))]) ⟨rfl, trivial⟩; refine e_then ?_; refine wp_ret ?_; obtain rfl := Option.some.inj hF
  exact f_ret1 ha rfl rfl ⟨⟨rfl, (show InI 0 from by decide)⟩, hE⟩
set_option maxHeartbeats 2000000 in
theorem W_spec_l27Low {W : World} {a0 : Int} (ha0 : InI a0) {r : Int} (hF : F_spec_l27Low a0 = some r) :
    Calls Tryd.prog 35 [.int .i64 a0].toArray W (Ret fun u w' => (u = .int .i64 r ∧ InI r) ∧ Ext W w') := by
  refine f_enter Tryd.func35 rfl Tryd.ntmps35 rfl ?_
  intro a ha
  replace ha : Fr 13 [(0, (.int .i64 a0))] a := ha
  have hE : Chg [] W W := Chg.refl _ _
  unfold F_spec_l27Low at hF
  refine wp_seq ?_; refine wp_region_lit ?_; refine op_g ha rfl (g_assign rfl) ?_; clear ha a; intro a ha; refine wpList_nil ?_; replace ha := ha.sub (σ' := [(0, (.int .i64 a0))]) ⟨rfl, trivial⟩; refine e_then ?_; refine wp_seq ?_; refine wp_region_lit ?_; refine op_g ha rfl (g_assign rfl) ?_; clear ha a; intro a ha; refine wpList_nil ?_; refine e_then ?_; refine wp_seq ?_; obtain ⟨o24, ho25, hK26⟩ := bnd_some hF
  obtain ⟨n27, hn28⟩ := lp_some ho25; clear ho25
  refine c_loop (fun a w => ∃ (i22 : Int), Fr 13 [(3, (.int .i64 i22))] a ∧ Chg [] W w ∧ InI i22 ∧ o24 = .inl i22) (fun n a w => ∃ (i11 : Int), Fr 13 [(0, (.int .i64 a0)), (3, (.int .i64 i11))] a ∧ Chg [] W w ∧ InI i11 ∧ lpN (fun s => F_spec_l27Low_l1 a0 s) n i11 = some o24) n27 ⟨0, ha.sub ⟨rfl, rfl, trivial⟩, hE, (show InI 0 from by decide), hn28⟩ ?_ ?_
  · rintro m32 a w10 ⟨i11, ha, hE13, hI12, hF⟩
    cases m32 with
    | zero => exact (lpN_zero hF).elim
    | succ m32 =>
      obtain ⟨z31, hF, hN30⟩ := lpN_succ hF
      have hF : F_spec_l27Low_l1 a0 i11 = some z31 := hF; unfold F_spec_l27Low_l1 at hF
      refine wp_seq ?_; refine wp_seq ?_; refine wp_region_lit ?_; (iterate 2 refine op_g ha rfl (g_move rfl) ?_; clear ha a; intro a ha); obtain ⟨h033, hF⟩ := grd_some hF; refine op_g ha rfl (g_conv6u un2 un57 rfl hI12 h033) ?_; clear ha a; intro a ha; refine op_g ha rfl (g64_shr rfl rfl ha0 (inU_of hI12 h033).1) ?_; clear ha a; intro a ha; refine op_g ha rfl (g64_and rfl rfl) ?_; clear ha a; intro a ha; refine op_g ha rfl (g_eql rfl rfl) ?_; clear ha a; intro a ha; refine wpList_nil ?_; replace ha := ha.sub (σ' := [(0, (.int .i64 a0)), (3, (.int .i64 i11)), (9, (.bool (decide ((i64and (a0 / 2 ^ (i11 : Int).toNat) 1) = 0))))]) ⟨rfl, rfl, rfl, trivial⟩
      refine e_then ?_; refine c_cond ((i64and (a0 / 2 ^ (i11 : Int).toNat) 1) = 0) ha rfl (decide_eq_true_iff) (fun hp34 => ?_) (fun hp34 => ?_)
      · replace hF := if_t hp34 hF
        refine wp_skip ?_; refine e_then ?_; refine wp_block ?_; refine wp_region_lit ?_; refine op_g ha rfl (g_move rfl) ?_; clear ha a; intro a ha; obtain ⟨hI35, hF⟩ := ck_some hF; refine op_g ha rfl (g_add rfl rfl hI35) ?_; clear ha a; intro a ha; refine op_g ha rfl (g_assign rfl) ?_; clear ha a; intro a ha; refine wpList_nil ?_; replace ha := ha.sub (σ' := [(0, (.int .i64 a0)), (3, (.int .i64 (i11 + 1)))]) ⟨rfl, rfl, trivial⟩; refine e_blk ?_; refine e_lq ?_; obtain rfl := Option.some.inj hF
        exact ⟨_, Nat.lt_succ_self _, i11 + 1, ha.sub ⟨rfl, rfl, trivial⟩, hE13, hI35, hN30⟩
      replace hF := if_f hp34 hF; refine wp_exit ?_; refine e_then_exit ?_; refine e_lq_eq ?_; obtain rfl := Option.some.inj hF
      exact ⟨i11, ha.sub ⟨rfl, trivial⟩, hE13, hI12, (LK_inr hN30).symm⟩
  rintro a w21 ⟨i22, ha, hE29, hI23, rfl⟩
  have hF : F_spec_l27Low_k2 i22 = some _ := hK26; clear hK26; unfold F_spec_l27Low_k2 at hF
  refine e_then ?_; refine wp_seq ?_; refine wp_region_lit ?_; refine op_g ha rfl (g_move rfl) ?_; clear ha a; intro a ha; refine op_g ha rfl (g_assign rfl) ?_; clear ha a; intro a ha; refine wpList_nil ?_; replace ha := ha.sub (σ' := [(2, (.int .i64 i22))]) ⟨rfl, trivial⟩; refine e_then ?_; refine wp_ret ?_; obtain rfl := Option.some.inj hF
  exact f_ret1 ha rfl rfl ⟨⟨rfl, hI23⟩, hE29⟩
set_option maxHeartbeats 2000000 in
theorem W_spec_l28Table {W : World} {va0 : Value} {fa0 : List Nat} {a0 : (List Int)} (ha0 : Ro Rp.int W fa0 va0 a0) {a1 : Bool} {r : (List (List Int))} (hF : F_spec_l28Table a0 a1 = some r) :
    Calls Tryd.prog 25 [va0, .bool a1].toArray W (Ret fun u w' => ∃ (b_u : Int) (fs_u : List Nat), Ow (Rp.sl 2 Rp.int) 35 true w' fs_u b_u u r ∧ Zn W b_u ∧ (∀ k ∈ fs_u, W.heap.size ≤ k) ∧ (bl b_u ++ fs_u).Nodup ∧ Ext W w') := by
  refine f_enter Tryd.func25 rfl Tryd.ntmps25 rfl ?_
  intro a ha
  replace ha : Fr 91 [(0, va0), (1, (.bool a1))] a := ha
  have hE : Chg [] W W := Chg.refl _ _
  unfold F_spec_l28Table at hF
  refine wp_seq ?_; refine wp_region_lit ?_; refine op_g ha rfl (g_assign rfl) ?_; clear ha a; intro a ha; refine wpList_nil ?_; replace ha := ha.sub (σ' := [(0, va0), (1, (.bool a1))]) ⟨rfl, rfl, trivial⟩; refine e_then ?_; refine wp_seq ?_; refine wp_region_lit ?_; refine op_g ha rfl (g_move rfl) ?_; clear ha a; intro a ha; refine op_g ha rfl (g_lenR sl35.und ha0 rfl) ?_; clear ha a; intro a ha; refine op_g ha rfl (g_assign rfl) ?_; clear ha a; intro a ha; refine wpList_nil ?_; replace ha := ha.sub (σ' := [(0, va0), (1, (.bool a1)), (5, (.int .i64 (a0.length : Int)))]) ⟨rfl, rfl, rfl, trivial⟩
  refine e_then ?_; refine wp_seq ?_; refine wp_region_lit ?_; refine op_g ha rfl (g_move rfl) ?_; clear ha a; intro a ha; obtain ⟨h01, hF⟩ := grd_some hF; refine op_g ha rfl (g_conv6u un3 un57 rfl ha0.len h01) ?_; clear ha a; intro a ha; obtain ⟨hI2, hF⟩ := ck_some hF; refine op_g ha rfl (g64_shl rfl rfl (inU_of ha0.len h01).1 hI2) ?_; clear ha a; intro a ha; obtain ⟨g8, g8b, hF⟩ := mkS_some hF
  refine o_make (z0 := ([] : (List Int))) (Rp.sl 2 Rp.int) ha rfl sl22 rfl (fun w => nil_rep w) rfl g8 g8b ?_; clear ha a; intro v4 w5 h6 hx7 a ha
  obtain ⟨b11, hb11⟩ : ∃ b : Int, b = W.heap.size := ⟨_, rfl⟩; rw [← hb11] at h6
  have q12 := zn_of hb11
  have q13 := Zn.upD q12 hE
  have hE14 := Ext.trans hE hx7
  refine op_g ha rfl (g_assign rfl) ?_; clear ha a; intro a ha; refine wpList_nil ?_; replace ha := ha.sub (σ' := [(0, va0), (1, (.bool a1)), (5, (.int .i64 (a0.length : Int))), (6, v4)]) ⟨rfl, rfl, rfl, rfl, trivial⟩; refine e_then ?_; refine wp_seq ?_; refine wp_seq ?_; refine wp_region_lit ?_; refine op_g ha rfl (g_assign rfl) ?_; clear ha a; intro a ha; refine wpList_nil ?_; replace ha := ha.sub (σ' := [(0, va0), (1, (.bool a1)), (5, (.int .i64 (a0.length : Int))), (6, v4), (7, (.int .i64 1))]) ⟨rfl, rfl, rfl, rfl, rfl, trivial⟩; refine e_then ?_; obtain ⟨o2836, ho2837, hK2838⟩ := bnd_some hF
  obtain ⟨n2839, hn2840⟩ := lp_some ho2837; clear ho2837
  refine c_loop (fun a w => ∃ (l2833 : (List (List Int))) (fs2830 : List Nat) (v2834 : Value) (b2835 : Int), Fr 91 [(6, v2834)] a ∧ Chg [] W w ∧ Ow (Rp.sl 2 Rp.int) 35 true w fs2830 b2835 v2834 l2833 ∧ Zn W b2835 ∧ (∀ k ∈ fs2830, W.heap.size ≤ k) ∧ (bl b2835 ++ fs2830).Nodup ∧ o2836 = .inl l2833) (fun n a w => ∃ (l1425 : (List (List Int))) (i1428 : Int) (fs1422 : List Nat) (v1426 : Value) (b1427 : Int), Fr 91 [(0, va0), (1, (.bool a1)), (5, (.int .i64 (a0.length : Int))), (6, v1426), (7, (.int .i64 i1428))] a ∧ Chg [] W w ∧ InI i1428 ∧ Ow (Rp.sl 2 Rp.int) 35 true w fs1422 b1427 v1426 l1425 ∧ Zn W b1427 ∧ (∀ k ∈ fs1422, W.heap.size ≤ k) ∧ (bl b1427 ++ fs1422).Nodup ∧ lpN (fun s => F_spec_l28Table_l1 a0 a1 s.1 s.2) n (l1425, i1428) = some o2836) n2839 ⟨(List.replicate (1 * 2 ^ ((a0.length : Int) : Int).toNat : Int).toNat ([] : (List Int))), 1, [], v4, b11, ha.sub ⟨rfl, rfl, rfl, rfl, rfl, trivial⟩, hE14, (show InI 1 from by decide), h6, q13, (zf_nil _), (bl_nodup b11), hn2840⟩ ?_ ?_
  · rintro m2844 a w1418 ⟨l1425, i1428, fs1422, v1426, b1427, ha, hE1430, hI1429, h1420, z1421, zf1423, nd1424, hF⟩
    cases m2844 with
    | zero => exact (lpN_zero hF).elim
    | succ m2844 =>
      obtain ⟨z2843, hF, hN2842⟩ := lpN_succ hF
      have hF : F_spec_l28Table_l1 a0 a1 l1425 i1428 = some z2843 := hF; unfold F_spec_l28Table_l1 at hF
      refine wp_seq ?_; refine wp_seq ?_; refine wp_region_lit ?_; (iterate 2 refine op_g ha rfl (g_move rfl) ?_; clear ha a; intro a ha); refine op_g ha rfl (g_lenO sl22.und h1420 rfl) ?_; clear ha a; intro a ha; refine op_g ha rfl (g_lss rfl rfl) ?_; clear ha a; intro a ha; refine wpList_nil ?_; replace ha := ha.sub (σ' := [(0, va0), (1, (.bool a1)), (5, (.int .i64 (a0.length : Int))), (6, v1426), (7, (.int .i64 i1428)), (21, (.bool (decide (i1428 < (l1425.length : Int)))))]) ⟨rfl, rfl, rfl, rfl, rfl, rfl, trivial⟩; refine e_then ?_; refine c_cond (i1428 < (l1425.length : Int)) ha rfl (decide_eq_true_iff) (fun hp2845 => ?_) (fun hp2845 => ?_)
      · replace hF := if_t hp2845 hF
        refine wp_skip ?_; refine e_then ?_; refine wp_seq ?_; refine wp_block ?_; refine wp_seq ?_; refine wp_region_lit ?_; refine op_g ha rfl (g_move rfl) ?_; clear ha a; intro a ha; obtain ⟨g2850, g2850b, hF⟩ := mkS_some hF
        refine o_make (z0 := (0 : Int)) Rp.int ha rfl sl35 rfl (fun w => ⟨rfl, by decide, rfl⟩) rfl g2850 g2850b ?_; clear ha a; intro v2846 w2847 h2848 hx2849 a ha
        obtain ⟨b2853, hb2853⟩ : ∃ b : Int, b = w1418.heap.size := ⟨_, rfl⟩; rw [← hb2853] at h2848
        have q2854 := zn_of hb2853
        have q2855 := Nq.new h1420.fpb q2854
        have q2856 := Nq.madeO q2854 h1420.blt
        have q2857 := Nf.old q2854 (zf_nil _) h1420.bnd
        have q2858 := Zn.upD q2854 hE1430
        replace h1420 := h1420.ext hx2849
        have hE2859 := Ext.trans hE1430 hx2849
        refine op_g ha rfl (g_assign rfl) ?_; clear ha a; intro a ha; refine wpList_nil ?_; replace ha := ha.sub (σ' := [(0, va0), (1, (.bool a1)), (5, (.int .i64 (a0.length : Int))), (6, v1426), (7, (.int .i64 i1428)), (8, v2846)]) ⟨rfl, rfl, rfl, rfl, rfl, rfl, trivial⟩; refine e_then ?_; refine wp_seq ?_; refine wp_seq ?_; refine wp_region_lit ?_; refine op_g ha rfl (g_assign rfl) ?_; clear ha a; intro a ha; refine wpList_nil ?_; replace ha := ha.sub (σ' := [(0, va0), (1, (.bool a1)), (5, (.int .i64 (a0.length : Int))), (6, v1426), (7, (.int .i64 i1428)), (8, v2846), (9, (.int .i64 0))]) ⟨rfl, rfl, rfl, rfl, rfl, rfl, rfl, trivial⟩
        refine e_then ?_; obtain ⟨o3778, ho3779, hK3780⟩ := bnd_some hF
        obtain ⟨n3781, hn3782⟩ := lp_some ho3779; clear ho3779
        refine c_loop (fun a w => ∃ (l3767 : (List (List Int))) (l3773 : (List Int)) (fs3764 : List Nat) (v3768 : Value) (b3769 : Int) (v3774 : Value) (b3775 : Int), Fr 91 [(0, va0), (1, (.bool a1)), (5, (.int .i64 (a0.length : Int))), (6, v3768), (7, (.int .i64 i1428)), (8, v3774)] a ∧ Chg [] W w ∧ Ow (Rp.sl 2 Rp.int) 35 true w fs3764 b3769 v3768 l3767 ∧ Zn W b3769 ∧ (∀ k ∈ fs3764, W.heap.size ≤ k) ∧ (bl b3769 ++ fs3764).Nodup ∧ Ow Rp.int 2 true w [] b3775 v3774 l3773 ∧ Zn W b3775 ∧ Nq (bl b3769 ++ fs3764) b3775 ∧ Nq (bl b3775 ++ []) b3769 ∧ o3778 = .inl (l3767, l3773)) (fun n a w => ∃ (l3313 : (List (List Int))) (l3319 : (List Int)) (i3322 : Int) (fs3310 : List Nat) (v3314 : Value) (b3315 : Int) (v3320 : Value) (b3321 : Int), Fr 91 [(0, va0), (1, (.bool a1)), (5, (.int .i64 (a0.length : Int))), (6, v3314), (7, (.int .i64 i1428)), (8, v3320), (9, (.int .i64 i3322))] a ∧ Chg [] W w ∧ InI i3322 ∧ Ow (Rp.sl 2 Rp.int) 35 true w fs3310 b3315 v3314 l3313 ∧ Zn W b3315 ∧ (∀ k ∈ fs3310, W.heap.size ≤ k) ∧ (bl b3315 ++ fs3310).Nodup ∧ Ow Rp.int 2 true w [] b3321 v3320 l3319 ∧ Zn W b3321 ∧ Nq (bl b3315 ++ fs3310) b3321 ∧ Nq (bl b3321 ++ []) b3315 ∧ lpN (fun s => F_spec_l28Table_l2 a0 a1 i1428 s.1 s.2.1 s.2.2) n (l3313, l3319, i3322) = some o3778) n3781 ⟨l1425, (List.replicate ((a0.length : Int) : Int).toNat (0 : Int)), 0, fs1422, v1426, b1427, v2846, b2853, ha.sub ⟨rfl, rfl, rfl, rfl, rfl, rfl, rfl, trivial⟩, hE2859, (show InI 0 from by decide), h1420, z1421, zf1423, nd1424, h2848, q2858, q2855, q2856, hn3782⟩ ?_ ?_
        · rintro m3786 a w3306 ⟨l3313, l3319, i3322, fs3310, v3314, b3315, v3320, b3321, ha, hE3326, hI3323, h3308, z3309, zf3311, nd3312, h3317, z3318, q3324, q3325, hF⟩
          cases m3786 with
          | zero => exact (lpN_zero hF).elim
          | succ m3786 =>
            obtain ⟨z3785, hF, hN3784⟩ := lpN_succ hF
            have hF : F_spec_l28Table_l2 a0 a1 i1428 l3313 l3319 i3322 = some z3785 := hF; unfold F_spec_l28Table_l2 at hF
            refine wp_seq ?_; refine wp_seq ?_; refine wp_region_lit ?_; (iterate 2 refine op_g ha rfl (g_move rfl) ?_; clear ha a; intro a ha); refine op_g ha rfl (g_lss rfl rfl) ?_; clear ha a; intro a ha; refine wpList_nil ?_; replace ha := ha.sub (σ' := [(0, va0), (1, (.bool a1)), (5, (.int .i64 (a0.length : Int))), (6, v3314), (7, (.int .i64 i1428)), (8, v3320), (9, (.int .i64 i3322)), (28, (.bool (decide (i3322 < (a0.length : Int)))))]) ⟨rfl, rfl, rfl, rfl, rfl, rfl, rfl, rfl, trivial⟩; refine e_then ?_; refine c_cond (i3322 < (a0.length : Int)) ha rfl (decide_eq_true_iff) (fun hp3787 => ?_) (fun hp3787 => ?_)
            · replace hF := if_t hp3787 hF
              refine wp_skip ?_; refine e_then ?_; refine wp_seq ?_; refine wp_block ?_; refine wp_seq ?_; refine wp_seq ?_; refine wp_region_lit ?_; (iterate 2 refine op_g ha rfl (g_move rfl) ?_; clear ha a; intro a ha); obtain ⟨h03788, hF⟩ := grd_some hF; refine op_g ha rfl (g_conv6u un3 un57 rfl hI3323 h03788) ?_; clear ha a; intro a ha; refine op_g ha rfl (g64_shr rfl rfl hI1429 (inU_of hI3323 h03788).1) ?_; clear ha a; intro a ha; refine op_g ha rfl (g64_and rfl rfl) ?_; clear ha a; intro a ha; refine op_g ha rfl (g_eql rfl rfl) ?_; clear ha a; intro a ha; refine wpList_nil ?_; replace ha := ha.sub (σ' := [(0, va0), (1, (.bool a1)), (5, (.int .i64 (a0.length : Int))), (6, v3314), (7, (.int .i64 i1428)), (8, v3320), (9, (.int .i64 i3322)), (36, (.bool (decide ((i64and (i1428 / 2 ^ (i3322 : Int).toNat) 1) = 0))))]) ⟨rfl, rfl, rfl, rfl, rfl, rfl, rfl, rfl, trivial⟩
              refine e_then ?_; refine c_cond ((i64and (i1428 / 2 ^ (i3322 : Int).toNat) 1) = 0) ha rfl (decide_eq_true_iff) (fun hp3789 => ?_) (fun hp3789 => ?_)
              · replace hF := if_t hp3789 hF
                refine wp_exit ?_; refine e_then_exit ?_; refine e_blk_eq ?_; refine e_then ?_; refine wp_region_lit ?_; refine op_g ha rfl (g_move rfl) ?_; clear ha a; intro a ha; obtain ⟨hI3790, hF⟩ := ck_some hF; refine op_g ha rfl (g_add rfl rfl hI3790) ?_; clear ha a; intro a ha; refine op_g ha rfl (g_assign rfl) ?_; clear ha a; intro a ha; refine wpList_nil ?_; replace ha := ha.sub (σ' := [(0, va0), (1, (.bool a1)), (5, (.int .i64 (a0.length : Int))), (6, v3314), (7, (.int .i64 i1428)), (8, v3320), (9, (.int .i64 (i3322 + 1)))]) ⟨rfl, rfl, rfl, rfl, rfl, rfl, rfl, trivial⟩; refine e_lq ?_
                obtain rfl := Option.some.inj hF
                exact ⟨_, Nat.lt_succ_self _, l3313, l3319, i3322 + 1, fs3310, v3314, b3315, v3320, b3321, ha.sub ⟨rfl, rfl, rfl, rfl, rfl, rfl, rfl, trivial⟩, hE3326, hI3790, h3308, z3309, zf3311, nd3312, h3317, z3318, q3324, q3325, hN3784⟩
              replace hF := if_f hp3789 hF; refine wp_skip ?_; refine e_then ?_; refine wp_seq ?_; refine wp_region_lit ?_; (iterate 2 refine op_g ha rfl (g_move rfl) ?_; clear ha a; intro a ha); obtain ⟨h03792, hF⟩ := grd_some hF; refine op_g ha rfl (g_conv6u un3 un57 rfl hI3323 h03792) ?_; clear ha a; intro a ha; obtain ⟨hI3793, hF⟩ := ck_some hF; refine op_g ha rfl (g64_shl rfl rfl (inU_of hI3323 h03792).1 hI3793) ?_; clear ha a; intro a ha; refine op_g ha rfl (g64_andNot rfl rfl) ?_; clear ha a; intro a ha; refine op_g ha rfl (g_assign rfl) ?_; clear ha a; intro a ha; refine wpList_nil ?_; replace ha := ha.sub (σ' := [(0, va0), (1, (.bool a1)), (5, (.int .i64 (a0.length : Int))), (6, v3314), (7, (.int .i64 i1428)), (8, v3320), (9, (.int .i64 i3322)), (10, (.int .i64 (i64andn i1428 (1 * 2 ^ (i3322 : Int).toNat))))]) ⟨rfl, rfl, rfl, rfl, rfl, rfl, rfl, rfl, trivial⟩
              refine e_then ?_; refine wp_seq ?_; refine wp_seq ?_; refine wp_region_lit ?_; refine op_g ha rfl (g_move rfl) ?_; clear ha a; intro a ha; refine op_g ha rfl (g_eql rfl rfl) ?_; clear ha a; intro a ha; refine wpList_nil ?_; replace ha := ha.sub (σ' := [(0, va0), (1, (.bool a1)), (5, (.int .i64 (a0.length : Int))), (6, v3314), (7, (.int .i64 i1428)), (8, v3320), (9, (.int .i64 i3322)), (10, (.int .i64 (i64andn i1428 (1 * 2 ^ (i3322 : Int).toNat)))), (43, (.bool (decide ((i64andn i1428 (1 * 2 ^ (i3322 : Int).toNat)) = 0))))]) ⟨rfl, rfl, rfl, rfl, rfl, rfl, rfl, rfl, rfl, trivial⟩; refine e_then ?_
              refine c_cond ((i64andn i1428 (1 * 2 ^ (i3322 : Int).toNat)) = 0) ha rfl (decide_eq_true_iff) (fun hp3795 => ?_) (fun hp3795 => ?_)
              · replace hF := if_t hp3795 hF
                refine wp_seq ?_; refine wp_region_lit ?_; (iterate 3 refine op_g ha rfl (g_move rfl) ?_; clear ha a; intro a ha); refine op_g ha rfl (g_not rfl) ?_; clear ha a; intro a ha; refine op_g ha rfl (g_move rfl) ?_; clear ha a; intro a ha
                by_cases hp3796 : ¬ (a1 = true)
                · replace hF := if_t hp3796 hF
                  rw [show (!a1) = true from (n_iff (Iff.rfl)).2 hp3796] at ha
                  (iterate 6 refine op_unwant ha rfl (yields ha rfl rfl) rfl ?_; clear ha a; intro a ha); refine op_g ha rfl (g_pick rfl rfl) ?_; clear ha a; intro a ha; obtain ⟨x3797, hc3798, hF⟩ := cal_some hF
                  refine o_call ha rfl rfl Tryd.call48 (W_spec_l1Flag  hc3798) ?_; clear ha a; rintro v3799 w3800 ⟨⟨rfl, hI3802⟩, hx3801⟩ a ha
                  replace h3308 := h3308.ext hx3801
                  replace h3317 := h3317.ext hx3801
                  have hE3803 := Ext.trans hE3326 hx3801
                  obtain ⟨x3804, g3805, gx3806, hF⟩ := idx_some hF
                  obtain ⟨p3807, cs3808, f3809, hf3810, hpb3811, hat3812, hr3813, hi3814⟩ := h3317.at g3805 gx3806
                  obtain ⟨rfl, hI3815, rfl⟩ := hr3813
                  refine op_g ha rfl (hi3814.gives sl35 rfl rfl) ?_; clear ha a; intro a ha
                  refine o_storeE (f := []) (q := x3797) ha Tryd.sizeOf2 rfl rfl rfl h3317 hi3814 ⟨rfl, hI3802, rfl⟩ (Nq.nil _) ?_; intro w3816 fs3817 h3818 hc3819 hs3820
                  obtain rfl := Subst.nil hs3820
                  replace h3308 := h3308.nq hc3819 q3324
                  have hE3821 := Ext.then hE3803 hc3819 (Zn.bl z3318)
                  refine wpList_nil ?_; replace ha := ha.sub (σ' := [(0, va0), (1, (.bool a1)), (5, (.int .i64 (a0.length : Int))), (6, v3314), (7, (.int .i64 i1428)), (8, v3320), (9, (.int .i64 i3322))]) ⟨rfl, rfl, rfl, rfl, rfl, rfl, rfl, trivial⟩; refine e_then ?_; refine wp_exit ?_; refine e_then_exit ?_; refine e_blk_eq ?_; refine e_then ?_; refine wp_region_lit ?_; refine op_g ha rfl (g_move rfl) ?_; clear ha a; intro a ha; obtain ⟨hI3822, hF⟩ := ck_some hF; refine op_g ha rfl (g_add rfl rfl hI3822) ?_; clear ha a; intro a ha; refine op_g ha rfl (g_assign rfl) ?_; clear ha a; intro a ha; refine wpList_nil ?_
                  replace ha := ha.sub (σ' := [(0, va0), (1, (.bool a1)), (5, (.int .i64 (a0.length : Int))), (6, v3314), (7, (.int .i64 i1428)), (8, v3320), (9, (.int .i64 (i3322 + 1)))]) ⟨rfl, rfl, rfl, rfl, rfl, rfl, rfl, trivial⟩; refine e_lq ?_; obtain rfl := Option.some.inj hF
                  exact ⟨_, Nat.lt_succ_self _, l3313, (l3319.set ((i3322 : Int).toNat) x3797), i3322 + 1, fs3310, v3314, b3315, v3320, b3321, ha.sub ⟨rfl, rfl, rfl, rfl, rfl, rfl, rfl, trivial⟩, hE3821, hI3822, h3308, z3309, zf3311, nd3312, h3818, z3318, q3324, q3325, hN3784⟩
                replace hF := if_f hp3796 hF
                rw [show (!a1) = false from b_false (n_iff (Iff.rfl)) hp3796] at ha
                refine op_want (yields ha rfl rfl) ?_; refine op_g ha rfl (g_move rfl) ?_; clear ha a; intro a ha; refine op_want (yields ha rfl rfl) ?_; refine op_g ha rfl (g_move rfl) ?_; clear ha a; intro a ha; refine op_want (yields ha rfl rfl) ?_; obtain ⟨x3824, g3825, gx3826, hF⟩ := idx_some hF
                obtain ⟨p3827, cs3828, f3829, hf3830, hpb3831, hat3832, hr3833, hi3834⟩ := ha0.at g3825 gx3826
                obtain ⟨rfl, hI3835, rfl⟩ := hr3833
                refine op_g ha rfl (hi3834.gives sl35 rfl rfl) ?_; clear ha a; intro a ha; refine op_want (yields ha rfl rfl) ?_; refine op_g ha rfl (g_load0 hE3326 Tryd.isAgg2 rfl hat3832.one) ?_; clear ha a; intro a ha; refine op_want (yields ha rfl rfl) ?_; refine op_g ha rfl (g64_and rfl rfl) ?_; clear ha a; intro a ha; refine op_want (yields ha rfl rfl) ?_; refine op_g ha rfl (g_eql rfl rfl) ?_; clear ha a; intro a ha; refine op_g ha rfl (g_pick rfl rfl) ?_; clear ha a; intro a ha; obtain ⟨x3836, hc3837, hF⟩ := cal_some hF
                refine o_call ha rfl rfl Tryd.call48 (W_spec_l1Flag  hc3837) ?_; clear ha a; rintro v3838 w3839 ⟨⟨rfl, hI3841⟩, hx3840⟩ a ha
                replace h3308 := h3308.ext hx3840
                replace h3317 := h3317.ext hx3840
                have hE3842 := Ext.trans hE3326 hx3840
                obtain ⟨x3843, g3844, gx3845, hF⟩ := idx_some hF
                obtain ⟨p3846, cs3847, f3848, hf3849, hpb3850, hat3851, hr3852, hi3853⟩ := h3317.at g3844 gx3845
                obtain ⟨rfl, hI3854, rfl⟩ := hr3852
                refine op_g ha rfl (hi3853.gives sl35 rfl rfl) ?_; clear ha a; intro a ha
                refine o_storeE (f := []) (q := x3836) ha Tryd.sizeOf2 rfl rfl rfl h3317 hi3853 ⟨rfl, hI3841, rfl⟩ (Nq.nil _) ?_; intro w3855 fs3856 h3857 hc3858 hs3859
                obtain rfl := Subst.nil hs3859
                replace h3308 := h3308.nq hc3858 q3324
                have hE3860 := Ext.then hE3842 hc3858 (Zn.bl z3318)
                refine wpList_nil ?_; replace ha := ha.sub (σ' := [(0, va0), (1, (.bool a1)), (5, (.int .i64 (a0.length : Int))), (6, v3314), (7, (.int .i64 i1428)), (8, v3320), (9, (.int .i64 i3322)), (49, va0), (50, (.int .i64 i3322)), (51, (.pointer (some p3827))), (52, (.int .i64 x3824)), (53, (.int .i64 (i64and x3824 1))), (54, (.bool (decide ((i64and x3824 1) = 1))))]) ⟨rfl, rfl, rfl, rfl, rfl, rfl, rfl, rfl, rfl, rfl, rfl, rfl, rfl, trivial⟩; refine e_then ?_; refine wp_exit ?_; refine e_then_exit ?_; refine e_blk_eq ?_; refine e_then ?_; refine wp_region_lit ?_; refine op_g ha rfl (g_move rfl) ?_; clear ha a; intro a ha
                obtain ⟨hI3861, hF⟩ := ck_some hF; refine op_g ha rfl (g_add rfl rfl hI3861) ?_; clear ha a; intro a ha; refine op_g ha rfl (g_assign rfl) ?_; clear ha a; intro a ha; refine wpList_nil ?_; replace ha := ha.sub (σ' := [(0, va0), (1, (.bool a1)), (5, (.int .i64 (a0.length : Int))), (6, v3314), (7, (.int .i64 i1428)), (8, v3320), (9, (.int .i64 (i3322 + 1))), (49, va0), (50, (.int .i64 i3322)), (51, (.pointer (some p3827))), (52, (.int .i64 x3824)), (53, (.int .i64 (i64and x3824 1))), (54, (.bool (decide ((i64and x3824 1) = 1))))]) ⟨rfl, rfl, rfl, rfl, rfl, rfl, rfl, rfl, rfl, rfl, rfl, rfl, rfl, trivial⟩
                refine e_lq ?_; obtain rfl := Option.some.inj hF
                exact ⟨_, Nat.lt_succ_self _, l3313, (l3319.set ((i3322 : Int).toNat) x3836), i3322 + 1, fs3310, v3314, b3315, v3320, b3321, ha.sub ⟨rfl, rfl, rfl, rfl, rfl, rfl, rfl, trivial⟩, hE3860, hI3861, h3308, z3309, zf3311, nd3312, h3857, z3318, q3324, q3325, hN3784⟩
              replace hF := if_f hp3795 hF; refine wp_skip ?_; refine e_then ?_; refine wp_seq ?_; refine wp_region_lit ?_; (iterate 2 refine op_g ha rfl (g_move rfl) ?_; clear ha a; intro a ha); obtain ⟨x3863, g3864, gx3865, hF⟩ := idx_some hF
              obtain ⟨p3866, cs3867, f3868, hf3869, hpb3870, hat3871, hr3872, hi3873⟩ := ha0.at g3864 gx3865
              obtain ⟨rfl, hI3874, rfl⟩ := hr3872
              refine op_g ha rfl (hi3873.gives sl35 rfl rfl) ?_; clear ha a; intro a ha; refine op_g ha rfl (g_load0 hE3326 Tryd.isAgg2 rfl hat3871.one) ?_; clear ha a; intro a ha; refine op_g ha rfl (g_move rfl) ?_; clear ha a; intro a ha; refine op_g ha rfl (g64_and rfl rfl) ?_; clear ha a; intro a ha; refine op_g ha rfl (g_assign rfl) ?_; clear ha a; intro a ha; refine wpList_nil ?_; replace ha := ha.sub (σ' := [(0, va0), (1, (.bool a1)), (5, (.int .i64 (a0.length : Int))), (6, v3314), (7, (.int .i64 i1428)), (8, v3320), (9, (.int .i64 i3322)), (10, (.int .i64 (i64andn i1428 (1 * 2 ^ (i3322 : Int).toNat)))), (11, (.int .i64 (i64and x3863 (i64andn i1428 (1 * 2 ^ (i3322 : Int).toNat)))))]) ⟨rfl, rfl, rfl, rfl, rfl, rfl, rfl, rfl, rfl, trivial⟩
              refine e_then ?_; obtain ⟨o4115, ho4116, hK4117⟩ := bnd_some hF
              obtain ⟨n4118, hn4119⟩ := lp_some ho4116; clear ho4116
              refine c_loop (fun a w => ∃ (l4104 : (List (List Int))) (l4110 : (List Int)) (fs4101 : List Nat) (v4105 : Value) (b4106 : Int) (v4111 : Value) (b4112 : Int), Fr 91 [(0, va0), (1, (.bool a1)), (5, (.int .i64 (a0.length : Int))), (6, v4105), (7, (.int .i64 i1428)), (8, v4111), (9, (.int .i64 i3322))] a ∧ Chg [] W w ∧ Ow (Rp.sl 2 Rp.int) 35 true w fs4101 b4106 v4105 l4104 ∧ Zn W b4106 ∧ (∀ k ∈ fs4101, W.heap.size ≤ k) ∧ (bl b4106 ++ fs4101).Nodup ∧ Ow Rp.int 2 true w [] b4112 v4111 l4110 ∧ Zn W b4112 ∧ Nq (bl b4106 ++ fs4101) b4112 ∧ Nq (bl b4112 ++ []) b4106 ∧ o4115 = .inl (l4104, l4110)) (fun n a w => ∃ (l3989 : (List (List Int))) (l3995 : (List Int)) (i3998 : Int) (fs3986 : List Nat) (v3990 : Value) (b3991 : Int) (v3996 : Value) (b3997 : Int), Fr 91 [(0, va0), (1, (.bool a1)), (5, (.int .i64 (a0.length : Int))), (6, v3990), (7, (.int .i64 i1428)), (8, v3996), (9, (.int .i64 i3322)), (10, (.int .i64 (i64andn i1428 (1 * 2 ^ (i3322 : Int).toNat)))), (11, (.int .i64 i3998))] a ∧ Chg [] W w ∧ InI i3998 ∧ Ow (Rp.sl 2 Rp.int) 35 true w fs3986 b3991 v3990 l3989 ∧ Zn W b3991 ∧ (∀ k ∈ fs3986, W.heap.size ≤ k) ∧ (bl b3991 ++ fs3986).Nodup ∧ Ow Rp.int 2 true w [] b3997 v3996 l3995 ∧ Zn W b3997 ∧ Nq (bl b3991 ++ fs3986) b3997 ∧ Nq (bl b3997 ++ []) b3991 ∧ lpN (fun s => F_spec_l28Table_l3 i1428 i3322 s.1 s.2.1 s.2.2) n (l3989, l3995, i3998) = some o4115) n4118 ⟨l3313, l3319, i64and x3863 (i64andn i1428 (1 * 2 ^ (i3322 : Int).toNat)), fs3310, v3314, b3315, v3320, b3321, ha.sub ⟨rfl, rfl, rfl, rfl, rfl, rfl, rfl, rfl, rfl, trivial⟩, hE3326, (in_i64and _ _), h3308, z3309, zf3311, nd3312, h3317, z3318, q3324, q3325, hn4119⟩ ?_ ?_
              · rintro m4123 a w3982 ⟨l3989, l3995, i3998, fs3986, v3990, b3991, v3996, b3997, ha, hE4002, hI3999, h3984, z3985, zf3987, nd3988, h3993, z3994, q4000, q4001, hF⟩
                cases m4123 with
                | zero => exact (lpN_zero hF).elim
                | succ m4123 =>
                  obtain ⟨z4122, hF, hN4121⟩ := lpN_succ hF
                  have hF : F_spec_l28Table_l3 i1428 i3322 l3989 l3995 i3998 = some z4122 := hF; unfold F_spec_l28Table_l3 at hF
                  refine wp_seq ?_; refine wp_seq ?_; refine wp_region_lit ?_; refine op_g ha rfl (g_move rfl) ?_; clear ha a; intro a ha; refine op_g ha rfl (g_gtr rfl rfl) ?_; clear ha a; intro a ha; refine wpList_nil ?_; replace ha := ha.sub (σ' := [(0, va0), (1, (.bool a1)), (5, (.int .i64 (a0.length : Int))), (6, v3990), (7, (.int .i64 i1428)), (8, v3996), (9, (.int .i64 i3322)), (10, (.int .i64 (i64andn i1428 (1 * 2 ^ (i3322 : Int).toNat)))), (11, (.int .i64 i3998)), (65, (.bool (decide (0 < i3998))))]) ⟨rfl, rfl, rfl, rfl, rfl, rfl, rfl, rfl, rfl, rfl, trivial⟩; refine e_then ?_; refine c_cond (0 < i3998) ha rfl (decide_eq_true_iff) (fun hp4124 => ?_) (fun hp4124 => ?_)
                  · replace hF := if_t hp4124 hF
                    refine wp_skip ?_; refine e_then ?_; refine wp_seq ?_; refine wp_block ?_; refine d_region [0, 1, 2, 3, 4, 5, 6, 7, 8, 9, 10, 11, 12, 13, 14, 15] hmix ?_; refine u_g 0 rfl (by kernel_rfl) (want0 _) ha rfl (g_move rfl) ?_; clear ha a; intro a ha; refine u_g 1 rfl (by kernel_rfl) (want0 _) ha rfl (g_move rfl) ?_; clear ha a; intro a ha; refine u_g 2 rfl (by kernel_rfl) (want0 _) ha rfl (g_move rfl) ?_; clear ha a; intro a ha; refine u_g 3 rfl (by kernel_rfl) (want0 _) ha rfl (g_move rfl) ?_; clear ha a; intro a ha; obtain ⟨x4125, g4126, gx4127, hF⟩ := idx_some hF
                    obtain ⟨p4128, cs4129, f4130, hf4131, hpb4132, hat4133, hr4134, hi4135⟩ := h3993.at g4126 gx4127
                    obtain ⟨rfl, hI4136, rfl⟩ := hr4134
                    refine u_g 4 rfl (by kernel_rfl) (want0 _) ha rfl (hi4135.gives sl35 rfl rfl) ?_; clear ha a; intro a ha; refine u_g 5 rfl (by kernel_rfl) (want0 _) ha rfl (g_load Tryd.isAgg2 rfl hat4133.one) ?_; clear ha a; intro a ha; refine u_g 6 rfl (by kernel_rfl) (want0 _) ha rfl (g_move rfl) ?_; clear ha a; intro a ha; refine u_g 7 rfl (by kernel_rfl) (want0 _) ha rfl (g_move rfl) ?_; clear ha a; intro a ha; obtain ⟨x4137, g4138, gx4139, hF⟩ := idx_some hF
                    obtain ⟨p4140, cs4141, f4142, hf4143, hpb4144, hat4145, hr4146, hi4147⟩ := h3984.at g4138 gx4139
                    replace hr4146 := (Rp.sl 2 Rp.int).weak hr4146
                    obtain ⟨v4148, rfl, h4149⟩ := hr4146
                    have h4149 : Ro Rp.int w3982 f4142 v4148 x4137 := h4149
                    have q4151 := Nq.mono q4000 (fun k hk => List.mem_append_right (bl b3991) (hf4143 k hk))
                    have q4152 := Nq.mono (Ow.ne h3984) hf4143
                    refine u_g 8 rfl (by kernel_rfl) (want0 _) ha rfl (hi4147.gives sl22 rfl rfl) ?_; clear ha a; intro a ha; refine u_g 9 rfl (by kernel_rfl) (want0 _) ha rfl (g_load Tryd.isAgg35 rfl hat4145.one) ?_; clear ha a; intro a ha; refine u_g 10 rfl (by kernel_rfl) (want0 _) ha rfl (g_move rfl) ?_; clear ha a; intro a ha; obtain ⟨x4155, hc4156, hF⟩ := cal_some hF; refine u_call (.int .i64 x4155) 11 rfl (by kernel_rfl) (want0 _) ha rfl rfl Tryd.call35 (fun w4154 hx4153 => W_spec_l27Low hI3999 hc4156) (fun _ _ _ h => ⟨h.1.1, h.2⟩) ?_; clear ha a; intro a ha
                    have hI4157 : InI x4155 := calls_fact (w := w3982) (W_spec_l27Low hI3999 hc4156) (fun _ _ h => h.1.2)
                    obtain ⟨x4158, g4159, gx4160, hF⟩ := idx_some hF
                    obtain ⟨p4161, cs4162, f4163, hf4164, hpb4165, hat4166, hr4167, hi4168⟩ := h4149.at g4159 gx4160
                    obtain ⟨rfl, hI4169, rfl⟩ := hr4167
                    refine u_g 12 rfl (by kernel_rfl) (want0 _) ha rfl (hi4168.gives sl35 rfl rfl) ?_; clear ha a; intro a ha; refine u_g 13 rfl (by kernel_rfl) (want0 _) ha rfl (g_load Tryd.isAgg2 rfl hat4166.one) ?_; clear ha a; intro a ha; obtain ⟨hI4170, hF⟩ := ck_some hF; refine u_g 14 rfl (by kernel_rfl) (want0 _) ha rfl (g_add rfl rfl hI4170) ?_; clear ha a; intro a ha; obtain ⟨x4172, g4173, gx4174, hF⟩ := idx_some hF
                    obtain ⟨p4175, cs4176, f4177, hf4178, hpb4179, hat4180, hr4181, hi4182⟩ := h3993.at g4173 gx4174
                    obtain ⟨rfl, hI4183, rfl⟩ := hr4181
                    refine u_g 15 rfl (by kernel_rfl) (want0 _) ha rfl (hi4182.gives sl35 rfl rfl) ?_; clear ha a; intro a ha
                    refine u_only 16 rfl (by kernel_rfl) ?_; intro w4184 hx4185
                    replace h3984 := h3984.ext hx4185
                    replace h3993 := h3993.ext hx4185
                    replace h4149 := h4149.ext hx4185
                    have hE4186 := Ext.trans hE4002 hx4185
                    refine o_storeE (f := []) (q := x4125 + x4158) ha Tryd.sizeOf2 rfl rfl rfl h3993 hi4182 ⟨rfl, hI4170, rfl⟩ (Nq.nil _) ?_; intro w4187 fs4188 h4189 hc4190 hs4191
                    obtain rfl := Subst.nil hs4191
                    replace h3984 := h3984.nq hc4190 q4000
                    replace h4149 := h4149.nq hc4190 q4151
                    have hE4192 := Ext.then hE4186 hc4190 (Zn.bl z3994)
                    refine wpList_nil (e_sq ?_)
                    refine ⟨fun h => absurd h (by decide), ?_⟩
                    refine u_done (by kernel_rfl) ?_; intro w4193 hx4194
                    replace h3984 := h3984.ext hx4194
                    replace h4189 := h4189.ext hx4194
                    replace h4149 := h4149.ext hx4194
                    have hE4195 := Ext.trans hE4192 hx4194
                    replace ha := ha.sub (σ' := [(0, va0), (1, (.bool a1)), (5, (.int .i64 (a0.length : Int))), (6, v3990), (7, (.int .i64 i1428)), (8, v3996), (9, (.int .i64 i3322)), (10, (.int .i64 (i64andn i1428 (1 * 2 ^ (i3322 : Int).toNat)))), (11, (.int .i64 i3998))]) ⟨rfl, rfl, rfl, rfl, rfl, rfl, rfl, rfl, rfl, trivial⟩; refine e_blk ?_; refine e_then ?_; refine wp_region_lit ?_; (iterate 2 refine op_g ha rfl (g_move rfl) ?_; clear ha a; intro a ha); obtain ⟨hI4196, hF⟩ := ck_some hF; refine op_g ha rfl (g_sub rfl rfl hI4196) ?_; clear ha a; intro a ha; refine op_g ha rfl (g64_and rfl rfl) ?_; clear ha a; intro a ha
                    refine op_g ha rfl (g_assign rfl) ?_; clear ha a; intro a ha; refine wpList_nil ?_; replace ha := ha.sub (σ' := [(0, va0), (1, (.bool a1)), (5, (.int .i64 (a0.length : Int))), (6, v3990), (7, (.int .i64 i1428)), (8, v3996), (9, (.int .i64 i3322)), (10, (.int .i64 (i64andn i1428 (1 * 2 ^ (i3322 : Int).toNat)))), (11, (.int .i64 (i64and i3998 (i3998 - 1))))]) ⟨rfl, rfl, rfl, rfl, rfl, rfl, rfl, rfl, rfl, trivial⟩; refine e_lq ?_; obtain rfl := Option.some.inj hF
                    exact ⟨_, Nat.lt_succ_self _, l3989, (l3995.set ((i3322 : Int).toNat) (x4125 + x4158)), i64and i3998 (i3998 - 1), fs3986, v3990, b3991, v3996, b3997, ha.sub ⟨rfl, rfl, rfl, rfl, rfl, rfl, rfl, rfl, rfl, trivial⟩, hE4195, (in_i64and _ _), h3984, z3985, zf3987, nd3988, h4189, z3994, q4000, q4001, hN4121⟩
                  replace hF := if_f hp4124 hF; refine wp_exit ?_; refine e_then_exit ?_; refine e_lq_eq ?_; obtain rfl := Option.some.inj hF
                  exact ⟨l3989, l3995, fs3986, v3990, b3991, v3996, b3997, ha.sub ⟨rfl, rfl, rfl, rfl, rfl, rfl, rfl, trivial⟩, hE4002, h3984, z3985, zf3987, nd3988, h3993, z3994, q4000, q4001, (LK_inr hN4121).symm⟩
              rintro a w4097 ⟨l4104, l4110, fs4101, v4105, b4106, v4111, b4112, ha, hE4120, h4099, z4100, zf4102, nd4103, h4108, z4109, q4113, q4114, rfl⟩
              have hF : F_spec_l28Table_k4 i3322 l4104 l4110 = some _ := hK4117; clear hK4117; unfold F_spec_l28Table_k4 at hF
              refine e_blk ?_; refine e_then ?_; refine wp_region_lit ?_; refine op_g ha rfl (g_move rfl) ?_; clear ha a; intro a ha; obtain ⟨hI4198, hF⟩ := ck_some hF; refine op_g ha rfl (g_add rfl rfl hI4198) ?_; clear ha a; intro a ha; refine op_g ha rfl (g_assign rfl) ?_; clear ha a; intro a ha; refine wpList_nil ?_; replace ha := ha.sub (σ' := [(0, va0), (1, (.bool a1)), (5, (.int .i64 (a0.length : Int))), (6, v4105), (7, (.int .i64 i1428)), (8, v4111), (9, (.int .i64 (i3322 + 1)))]) ⟨rfl, rfl, rfl, rfl, rfl, rfl, rfl, trivial⟩; refine e_lq ?_; obtain rfl := Option.some.inj hF
              exact ⟨_, Nat.lt_succ_self _, l4104, l4110, i3322 + 1, fs4101, v4105, b4106, v4111, b4112, ha.sub ⟨rfl, rfl, rfl, rfl, rfl, rfl, rfl, trivial⟩, hE4120, hI4198, h4099, z4100, zf4102, nd4103, h4108, z4109, q4113, q4114, hN3784⟩
            replace hF := if_f hp3787 hF; refine wp_exit ?_; refine e_then_exit ?_; refine e_lq_eq ?_; obtain rfl := Option.some.inj hF
            exact ⟨l3313, l3319, fs3310, v3314, b3315, v3320, b3321, ha.sub ⟨rfl, rfl, rfl, rfl, rfl, rfl, trivial⟩, hE3326, h3308, z3309, zf3311, nd3312, h3317, z3318, q3324, q3325, (LK_inr hN3784).symm⟩
        rintro a w3760 ⟨l3767, l3773, fs3764, v3768, b3769, v3774, b3775, ha, hE3783, h3762, z3763, zf3765, nd3766, h3771, z3772, q3776, q3777, rfl⟩
        have hF : F_spec_l28Table_k5 i1428 l3767 l3773 = some _ := hK3780; clear hK3780; unfold F_spec_l28Table_k5 at hF
        refine e_then ?_; refine wp_region_lit ?_; (iterate 3 refine op_g ha rfl (g_move rfl) ?_; clear ha a; intro a ha); obtain ⟨x4200, g4201, gx4202, hF⟩ := idx_some hF
        obtain ⟨p4203, cs4204, f4205, hf4206, hpb4207, hat4208, hr4209, hi4210⟩ := h3762.at g4201 gx4202
        replace hr4209 := (Rp.sl 2 Rp.int).weak hr4209
        obtain ⟨v4211, rfl, h4212⟩ := hr4209
        have h4212 : Ro Rp.int w3760 f4205 v4211 x4200 := h4212
        have q4214 := Nq.mono q3776 (fun k hk => List.mem_append_right (bl b3769) (hf4206 k hk))
        have q4215 := Nq.mono (Ow.ne h3762) hf4206
        refine op_g ha rfl (hi4210.gives sl22 rfl rfl) ?_; clear ha a; intro a ha
        refine o_storeE (f := (bl b3775 ++ [])) (q := l3773) ha Tryd.sizeOf35 rfl rfl h3771.cells h3762 hi4210 (Rp.mkO h3771) q3777 ?_; intro w4216 fs4217 h4218 hc4219 hs4220
        have q4221 := zf_mv z3772 (zf_nil _)
        have q4222 := dj_of q3776
        have q4223 := zf_set hs4220 zf3765 q4221
        have q4224 := Subst.nd hs4220 nd3766 (bl_nodup b3775) q4222
        replace h4212 := h4212.nq hc4219 q4215
        have hE4225 := Ext.then hE3783 hc4219 (Zn.bl z3763)
        refine wpList_nil ?_; replace ha := ha.sub (σ' := [(0, va0), (1, (.bool a1)), (5, (.int .i64 (a0.length : Int))), (6, v3768), (7, (.int .i64 i1428))]) ⟨rfl, rfl, rfl, rfl, rfl, trivial⟩; refine e_blk ?_; refine e_then ?_; refine wp_region_lit ?_; refine op_g ha rfl (g_move rfl) ?_; clear ha a; intro a ha; obtain ⟨hI4226, hF⟩ := ck_some hF; refine op_g ha rfl (g_add rfl rfl hI4226) ?_; clear ha a; intro a ha; refine op_g ha rfl (g_assign rfl) ?_; clear ha a; intro a ha; refine wpList_nil ?_; replace ha := ha.sub (σ' := [(0, va0), (1, (.bool a1)), (5, (.int .i64 (a0.length : Int))), (6, v3768), (7, (.int .i64 (i1428 + 1)))]) ⟨rfl, rfl, rfl, rfl, rfl, trivial⟩
        refine e_lq ?_; obtain rfl := Option.some.inj hF
        exact ⟨_, Nat.lt_succ_self _, (l3767.set ((i1428 : Int).toNat) l3773), i1428 + 1, fs4217, v3768, b3769, ha.sub ⟨rfl, rfl, rfl, rfl, rfl, trivial⟩, hE4225, hI4226, h4218, z3763, q4223, q4224, hN2842⟩
      replace hF := if_f hp2845 hF; refine wp_exit ?_; refine e_then_exit ?_; refine e_lq_eq ?_; obtain rfl := Option.some.inj hF
      exact ⟨l1425, fs1422, v1426, b1427, ha.sub ⟨rfl, trivial⟩, hE1430, h1420, z1421, zf1423, nd1424, (LK_inr hN2842).symm⟩
  rintro a w2826 ⟨l2833, fs2830, v2834, b2835, ha, hE2841, h2828, z2829, zf2831, nd2832, rfl⟩
  have hF : F_spec_l28Table_k6 l2833 = some _ := hK2838; clear hK2838; unfold F_spec_l28Table_k6 at hF
  refine e_then ?_; refine wp_seq ?_; refine wp_region_lit ?_; refine op_g ha rfl (g_move rfl) ?_; clear ha a; intro a ha; refine op_g ha rfl (g_assign rfl) ?_; clear ha a; intro a ha; refine wpList_nil ?_; replace ha := ha.sub (σ' := [(4, v2834)]) ⟨rfl, trivial⟩; refine e_then ?_; refine wp_ret ?_; obtain rfl := Option.some.inj hF
  exact f_ret1 ha rfl rfl ⟨_, _, h2828, z2829, zf2831, nd2832, hE2841⟩
set_option maxHeartbeats 2000000 in
theorem W_spec_l25All {W : World} {va0_0 : Value} {fa0_0 : List Nat} {a0_0 : (List (List Int))} (ha0_0 : Ro (Rp.sl 2 Rp.int) W fa0_0 va0_0 a0_0) {r : Int} (hF : F_spec_l25All a0_0 = some r) :
    Calls Tryd.prog 27 [.agg #[va0_0]].toArray W (Ret fun u w' => (u = .int .i64 r ∧ InI r) ∧ Ext W w') := by
  refine f_enter Tryd.func27 rfl Tryd.ntmps27 rfl ?_
  intro a ha
  replace ha : Fr 9 [(0, (.agg #[va0_0]))] a := ha
  have hE : Chg [] W W := Chg.refl _ _
  unfold F_spec_l25All at hF
  refine wp_seq ?_; refine wp_region_lit ?_
  refine o_box ha rfl rfl rfl ?_; clear ha a; intro b1 w2 hB3 hx4 hlo5 a ha
  have q6 := Zn.one hlo5
  have q7 := Zn.upD q6 hE
  have hE8 := Ext.trans hE hx4
  refine op_g ha rfl (g_assign rfl) ?_; clear ha a; intro a ha; refine wpList_nil ?_; replace ha := ha.sub (σ' := [(1, (.pointer (some ⟨b1, 0, none⟩)))]) ⟨rfl, trivial⟩; refine e_then ?_; refine wp_seq ?_; refine wp_region_lit ?_; refine op_g ha rfl (g_field0 st27_0 rfl) ?_; clear ha a; intro a ha; refine op_g ha rfl (g_load Tryd.isAgg22 rfl (hB3.cell rfl)) ?_; clear ha a; intro a ha; refine op_g ha rfl (g_lenR sl22.und ha0_0 rfl) ?_; clear ha a; intro a ha; obtain ⟨h09, hF⟩ := grd_some hF; refine op_g ha rfl (g_conv6u un3 un57 rfl ha0_0.len h09) ?_; clear ha a; intro a ha; obtain ⟨hI10, hF⟩ := ck_some hF
  refine op_g ha rfl (g64_shl rfl rfl (inU_of ha0_0.len h09).1 hI10) ?_; clear ha a; intro a ha; obtain ⟨hI12, hF⟩ := ck_some hF; refine op_g ha rfl (g_sub rfl rfl hI12) ?_; clear ha a; intro a ha; refine op_g ha rfl (g_assign rfl) ?_; clear ha a; intro a ha; refine wpList_nil ?_; replace ha := ha.sub (σ' := [(2, (.int .i64 ((1 * 2 ^ ((a0_0.length : Int) : Int).toNat) - 1)))]) ⟨rfl, trivial⟩; refine e_then ?_; refine wp_ret ?_; obtain rfl := Option.some.inj hF
  exact f_ret1 ha rfl rfl ⟨⟨rfl, hI12⟩, hE8⟩
set_option maxHeartbeats 2000000 in
theorem W_spec_RoundsMany {W : World} {va0_0 : Value} {fa0_0 : List Nat} {a0_0 : (List (List Int))} (ha0_0 : Ro (Rp.sl 2 Rp.int) W fa0_0 va0_0 a0_0) {r : Int} (hF : F_spec_RoundsMany a0_0 = some r) :
    Calls Tryd.prog 7 [.agg #[va0_0]].toArray W (Ret fun u w' => (u = .int .i64 r ∧ InI r) ∧ Ext W w') := by
  refine f_enter Tryd.func7 rfl Tryd.ntmps7 rfl ?_
  intro a ha
  replace ha : Fr 19 [(0, (.agg #[va0_0]))] a := ha
  have hE : Chg [] W W := Chg.refl _ _
  unfold F_spec_RoundsMany at hF
  refine wp_seq ?_; refine wp_region_lit ?_
  refine o_box ha rfl rfl rfl ?_; clear ha a; intro b1 w2 hB3 hx4 hlo5 a ha
  have q6 := Zn.one hlo5
  have q7 := Zn.upD q6 hE
  have hE8 := Ext.trans hE hx4
  refine op_g ha rfl (g_assign rfl) ?_; clear ha a; intro a ha; refine wpList_nil ?_; replace ha := ha.sub (σ' := [(1, (.pointer (some ⟨b1, 0, none⟩)))]) ⟨rfl, trivial⟩; refine e_then ?_; refine wp_seq ?_; refine wp_seq ?_; refine wp_region_lit ?_; refine op_g ha rfl (g_loadA (cs := [va0_0]) Tryd.isAgg27 Tryd.sizeOf27 rfl (by simp) hB3.all) ?_; clear ha a; intro a ha; obtain ⟨x9, hc10, hF⟩ := cal_some hF
  refine o_call ha rfl rfl Tryd.call23 (W_spec_GraphOk (ha0_0.ext hE8) hc10) ?_; clear ha a; rintro v11 w12 ⟨rfl, hx13⟩ a ha
  replace hB3 := hB3.ext hx13
  have hE14 := Ext.trans hE8 hx13
  refine op_g ha rfl (g_not rfl) ?_; clear ha a; intro a ha; refine wpList_nil ?_; replace ha := ha.sub (σ' := [(1, (.pointer (some ⟨b1, 0, none⟩))), (5, (.bool (!x9)))]) ⟨rfl, rfl, trivial⟩; refine e_then ?_; refine c_cond (¬ (x9 = true)) ha rfl (n_iff (Iff.rfl)) (fun hp15 => ?_) (fun hp15 => ?_)
  · replace hF := if_t hp15 hF
    refine wp_seq ?_; refine wp_region_lit ?_; refine op_g ha rfl (g_assign rfl) ?_; clear ha a; intro a ha; refine wpList_nil ?_; replace ha := ha.sub (σ' := [(2, (.int .i64 (-1)))]) ⟨rfl, trivial⟩; refine e_then ?_; refine wp_ret ?_; refine e_then_ret ?_; obtain rfl := Option.some.inj hF
    exact f_ret1 ha rfl rfl ⟨⟨rfl, (show InI (-1) from by decide)⟩, hE14⟩
  replace hF := if_f hp15 hF; refine wp_skip ?_; refine e_then ?_; refine wp_seq ?_; refine wp_seq ?_; refine wp_region_lit ?_; refine op_g ha rfl (g_loadA (cs := [va0_0]) Tryd.isAgg27 Tryd.sizeOf27 rfl (by simp) hB3.all) ?_; clear ha a; intro a ha; obtain ⟨x16, hc17, hF⟩ := cal_some hF
  refine o_call ha rfl rfl Tryd.call24 (W_spec_l1Size (ha0_0.ext hE14) hc17) ?_; clear ha a; rintro v18 w19 ⟨⟨rfl, hI21⟩, hx20⟩ a ha
  replace hB3 := hB3.ext hx20
  have hE22 := Ext.trans hE14 hx20
  refine op_g ha rfl (g_lss rfl rfl) ?_; clear ha a; intro a ha; refine wpList_nil ?_; replace ha := ha.sub (σ' := [(1, (.pointer (some ⟨b1, 0, none⟩))), (8, (.bool (decide (x16 < 3))))]) ⟨rfl, rfl, trivial⟩; refine e_then ?_; refine c_cond (x16 < 3) ha rfl (decide_eq_true_iff) (fun hp23 => ?_) (fun hp23 => ?_)
  · replace hF := if_t hp23 hF
    refine wp_seq ?_; refine wp_region_lit ?_; refine op_g ha rfl (g_assign rfl) ?_; clear ha a; intro a ha; refine wpList_nil ?_; replace ha := ha.sub (σ' := [(2, (.int .i64 0))]) ⟨rfl, trivial⟩; refine e_then ?_; refine wp_ret ?_; refine e_then_ret ?_; obtain rfl := Option.some.inj hF
    exact f_ret1 ha rfl rfl ⟨⟨rfl, (show InI 0 from by decide)⟩, hE22⟩
  replace hF := if_f hp23 hF; refine wp_skip ?_; refine e_then ?_; refine wp_seq ?_; refine d_region [0, 1, 2, 3, 4, 5, 6, 7, 8, 9, 10] hmix ?_; refine u_g 0 rfl (by kernel_rfl) (want0 _) ha rfl (g_loadA (cs := [va0_0]) Tryd.isAgg27 Tryd.sizeOf27 rfl (by simp) hB3.all) ?_; clear ha a; intro a ha; refine u_g 3 rfl (by kernel_rfl) (want0 _) ha rfl (g_loadA (cs := [va0_0]) Tryd.isAgg27 Tryd.sizeOf27 rfl (by simp) hB3.all) ?_; clear ha a; intro a ha
  refine u_only 1 rfl (by kernel_rfl) ?_; intro w24 hx25
  replace hB3 := hB3.ext hx25
  have hE26 := Ext.trans hE22 hx25
  obtain ⟨x27, hc28, hF⟩ := cal_some hF
  refine o_call ha rfl rfl Tryd.call26 (W_spec_l25Bits (ha0_0.ext hE26) hc28) ?_; clear ha a; rintro v29 w30 ⟨b32, h33, z34, hx31⟩ a ha
  have q36 := Nq.new hB3.fpb z34
  have q37 := Nq.madeO z34 hB3.bi
  replace hB3 := hB3.ext hx31
  have hE38 := Ext.trans hE26 hx31
  have q39 := Zn.upD z34 hE26
  refine wpList_nil (e_sq ?_)
  refine ⟨fun _ => hx31, ?_⟩
  refine u_only 2 rfl (by kernel_rfl) ?_; intro w40 hx41
  replace hB3 := hB3.ext hx41
  replace h33 := h33.ext hx41
  have hE42 := Ext.trans hE38 hx41
  obtain ⟨fp43, hro44, hs45⟩ := h33.roF
  obtain ⟨x46, hc47, hF⟩ := cal_some hF
  refine o_call ha rfl rfl Tryd.call25 (W_spec_l28Table hro44 hc47) ?_; clear ha a; rintro v48 w49 ⟨b51, fs55, h52, z53, zf56, nd57, hx50⟩ a ha
  have q58 := Nq.new hB3.fpb z53
  have q59 := Nq.madeF z53 zf56 hB3.bi
  have q60 := Nq.new h33.fpb z53
  have q61 := Nq.madeF z53 zf56 h33.blt
  have q62 := Nf.new hB3.fpb zf56
  have q63 := Nf.new h33.fpb zf56
  replace hB3 := hB3.ext hx50
  replace h33 := h33.ext hx50
  have hE64 := Ext.trans hE42 hx50
  have q65 := Zn.upD z53 hE42
  have q66 := zf_up zf56 hE42
  refine wpList_nil (e_sq ?_)
  refine ⟨fun _ => hx50, ?_⟩
  obtain ⟨x69, hc70, hF⟩ := cal_some hF; refine u_call (.int .i64 x69) 4 rfl (by kernel_rfl) (want0 _) ha rfl rfl Tryd.call27 (fun w68 hx67 => W_spec_l25All (ha0_0.ext (Ext.trans hE64 hx67)) hc70) (fun _ _ _ h => ⟨h.1.1, h.2⟩) ?_; clear ha a; intro a ha
  have hI71 : InI x69 := calls_fact (w := w49) (W_spec_l25All (ha0_0.ext (Ext.trans hE64 (Chg.refl _ _))) hc70) (fun _ _ h => h.1.2)
  obtain ⟨x72, g73, gx74, hF⟩ := idx_some hF
  obtain ⟨p75, cs76, f77, hf78, hpb79, hat80, hr81, hi82⟩ := h52.at g73 gx74
  replace hr81 := (Rp.sl 2 Rp.int).weak hr81
  obtain ⟨v83, rfl, h84⟩ := hr81
  have h84 : Ro Rp.int w49 f77 v83 x72 := h84
  have q86 := Nq.mono q59 (fun k hk => List.mem_append_right (bl b51) (hf78 k hk))
  have q87 := Nq.mono q61 (fun k hk => List.mem_append_right (bl b51) (hf78 k hk))
  have q88 := Nq.mono (Ow.ne h52) hf78
  refine u_g 5 rfl (by kernel_rfl) (want0 _) ha rfl (hi82.gives sl22 rfl rfl) ?_; clear ha a; intro a ha; refine u_g 6 rfl (by kernel_rfl) (want0 _) ha rfl (g_load Tryd.isAgg35 rfl hat80.one) ?_; clear ha a; intro a ha; obtain ⟨x89, g90, gx91, hF⟩ := idx_some hF
  obtain ⟨p92, cs93, f94, hf95, hpb96, hat97, hr98, hi99⟩ := h84.at g90 gx91
  obtain ⟨rfl, hI100, rfl⟩ := hr98
  refine u_g 7 rfl (by kernel_rfl) (want0 _) ha rfl (hi99.gives sl35 rfl rfl) ?_; clear ha a; intro a ha; refine u_g 8 rfl (by kernel_rfl) (want0 _) ha rfl (g_load Tryd.isAgg2 rfl hat97.one) ?_; clear ha a; intro a ha; obtain ⟨hq101, hF⟩ := grd_some hF
  have hI102 := in_quo hI100 hq101.1 hq101.2
  refine u_g 9 rfl (by kernel_rfl) (want0 _) ha rfl (g_quo rfl rfl hI100 hq101.1 hq101.2) ?_; clear ha a; intro a ha; refine u_g 10 rfl (by kernel_rfl) (want0 _) ha rfl (g_assign rfl) ?_; clear ha a; intro a ha
  refine u_done (by kernel_rfl) ?_; intro w103 hx104
  replace hB3 := hB3.ext hx104
  replace h33 := h33.ext hx104
  replace h52 := h52.ext hx104
  replace h84 := h84.ext hx104
  have hE105 := Ext.trans hE64 hx104
  replace ha := ha.sub (σ' := [(2, (.int .i64 (x89 / 2)))]) ⟨rfl, trivial⟩; refine e_then ?_; refine wp_ret ?_; obtain rfl := Option.some.inj hF
  exact f_ret1 ha rfl rfl ⟨⟨rfl, hI102⟩, hE105⟩
set_option maxHeartbeats 2000000 in
theorem W_impl_inRange {W : World} {a0 : Int} (ha0 : InI a0) {a1 : Int} (ha1 : InI a1) {a2 : Int} (ha2 : InI a2) {r : Bool} (hF : F_impl_inRange a0 a1 a2 = some r) :
    Calls Tryd.prog 57 [.int .i64 a0, .int .i64 a1, .int .i64 a2].toArray W (Ret fun u w' => u = .bool r ∧ Ext W w') := by
  refine f_enter Tryd.func57 rfl Tryd.ntmps57 rfl ?_
  intro a ha
  replace ha : Fr 15 [(0, (.int .i64 a0)), (1, (.int .i64 a1)), (2, (.int .i64 a2))] a := ha
  have hE : Chg [] W W := Chg.refl _ _
  unfold F_impl_inRange at hF
  refine wp_seq ?_; refine wp_region_lit ?_; refine op_g ha rfl (g_assign rfl) ?_; clear ha a; intro a ha; refine wpList_nil ?_; replace ha := ha.sub (σ' := [(0, (.int .i64 a0)), (1, (.int .i64 a1)), (2, (.int .i64 a2))]) ⟨rfl, rfl, rfl, trivial⟩; refine e_then ?_; refine wp_seq ?_; refine wp_region_lit ?_; (iterate 2 refine op_g ha rfl (g_move rfl) ?_; clear ha a; intro a ha); refine op_g ha rfl (g_leq rfl rfl) ?_; clear ha a; intro a ha; refine op_g ha rfl (g_move rfl) ?_; clear ha a; intro a ha
  by_cases hp1 : a1 ≤ a0
  · replace hF := if_t hp1 hF
    rw [show (decide (a1 ≤ a0)) = true from (decide_eq_true_iff).2 hp1] at ha
    refine op_want (yields ha rfl rfl) ?_; refine op_g ha rfl (g_move rfl) ?_; clear ha a; intro a ha; refine op_want (yields ha rfl rfl) ?_; refine op_g ha rfl (g_move rfl) ?_; clear ha a; intro a ha; refine op_want (yields ha rfl rfl) ?_; refine op_g ha rfl (g_leq rfl rfl) ?_; clear ha a; intro a ha; refine op_g ha rfl (g_pick rfl rfl) ?_; clear ha a; intro a ha; refine op_g ha rfl (g_assign rfl) ?_; clear ha a; intro a ha; refine wpList_nil ?_; replace ha := ha.sub (σ' := [(6, (.bool (decide (a0 ≤ a2))))]) ⟨rfl, trivial⟩; refine e_then ?_; refine wp_ret ?_; obtain rfl := Option.some.inj hF
    exact f_ret1 ha rfl rfl ⟨rfl, hE⟩
  replace hF := if_f hp1 hF
  rw [show (decide (a1 ≤ a0)) = false from b_false (decide_eq_true_iff) hp1] at ha
  (iterate 3 refine op_unwant ha rfl (yields ha rfl rfl) rfl ?_; clear ha a; intro a ha); refine op_g ha rfl (g_pick rfl rfl) ?_; clear ha a; intro a ha; refine op_g ha rfl (g_assign rfl) ?_; clear ha a; intro a ha; refine wpList_nil ?_; replace ha := ha.sub (σ' := [(6, (.bool false))]) ⟨rfl, trivial⟩; refine e_then ?_; refine wp_ret ?_; obtain rfl := Option.some.inj hF
  exact f_ret1 ha rfl rfl ⟨rfl, hE⟩
set_option maxHeartbeats 2000000 in
theorem W_impl_increasing {W : World} {va0 : Value} {fa0 : List Nat} {a0 : (List Int)} (ha0 : Ro Rp.int W fa0 va0 a0) {a1 : Int} (ha1 : InI a1) {r : Bool} (hF : F_impl_increasing a0 a1 = some r) :
    Calls Tryd.prog 50 [va0, .int .i64 a1].toArray W (Ret fun u w' => u = .bool r ∧ Ext W w') := by
  refine f_enter Tryd.func50 rfl Tryd.ntmps50 rfl ?_
  intro a ha
  replace ha : Fr 33 [(0, va0), (1, (.int .i64 a1))] a := ha
  have hE : Chg [] W W := Chg.refl _ _
  unfold F_impl_increasing at hF
  refine wp_seq ?_; refine wp_region_lit ?_; refine op_g ha rfl (g_assign rfl) ?_; clear ha a; intro a ha; refine wpList_nil ?_; replace ha := ha.sub (σ' := [(0, va0), (1, (.int .i64 a1))]) ⟨rfl, rfl, trivial⟩; refine e_then ?_; refine wp_seq ?_; refine wp_seq ?_; refine wp_region_lit ?_; refine op_g ha rfl (g_move rfl) ?_; clear ha a; intro a ha; refine op_g ha rfl (g_lenR sl35.und ha0 rfl) ?_; clear ha a; intro a ha; refine op_g ha rfl (g_move rfl) ?_; clear ha a; intro a ha; refine wpList_nil ?_; replace ha := ha.sub (σ' := [(0, va0), (1, (.int .i64 a1)), (7, va0), (8, (.int .i64 (a0.length : Int))), (9, (.int .i64 0))]) ⟨rfl, rfl, rfl, rfl, rfl, trivial⟩
  refine e_then ?_; obtain ⟨o98, ho99, hK100⟩ := bnd_some hF
  obtain ⟨n101, hn102⟩ := lp_some ho99; clear ho99
  refine c_loop (fun a w => Fr 33 [] a ∧ Chg [] W w ∧ o98 = .inl ()) (fun n a w => ∃ (i49 : Int), Fr 33 [(0, va0), (1, (.int .i64 a1)), (7, va0), (8, (.int .i64 (a0.length : Int))), (9, (.int .i64 i49))] a ∧ Chg [] W w ∧ InI i49 ∧ lpN (fun s => F_impl_increasing_l1 a0 a1 s) n i49 = some o98) n101 ⟨0, ha.sub ⟨rfl, rfl, rfl, rfl, rfl, trivial⟩, hE, (show InI 0 from by decide), hn102⟩ ?_ ?_
  · rintro m106 a w48 ⟨i49, ha, hE51, hI50, hF⟩
    cases m106 with
    | zero => exact (lpN_zero hF).elim
    | succ m106 =>
      obtain ⟨z105, hF, hN104⟩ := lpN_succ hF
      have hF : F_impl_increasing_l1 a0 a1 i49 = some z105 := hF; unfold F_impl_increasing_l1 at hF
      refine wp_seq ?_; refine wp_region_lit ?_; refine op_g ha rfl (g_lss rfl rfl) ?_; clear ha a; intro a ha; refine wpList_nil ?_; replace ha := ha.sub (σ' := [(0, va0), (1, (.int .i64 a1)), (7, va0), (8, (.int .i64 (a0.length : Int))), (9, (.int .i64 i49)), (10, (.bool (decide (i49 < (a0.length : Int)))))]) ⟨rfl, rfl, rfl, rfl, rfl, rfl, trivial⟩; refine e_then ?_; refine wp_seq ?_; refine c_cond (i49 < (a0.length : Int)) ha rfl (decide_eq_true_iff) (fun hp107 => ?_) (fun hp107 => ?_)
      · replace hF := if_t hp107 hF
        refine wp_skip ?_; refine e_then ?_; refine wp_seq ?_; refine wp_block ?_; refine wp_seq ?_; refine wp_region_lit ?_; refine op_g ha rfl (g_move rfl) ?_; clear ha a; intro a ha; obtain ⟨x108, g109, gx110, hF⟩ := idx_some hF
        obtain ⟨p111, cs112, f113, hf114, hpb115, hat116, hr117, hi118⟩ := ha0.at g109 gx110
        obtain ⟨rfl, hI119, rfl⟩ := hr117
        refine op_g ha rfl (hi118.gives sl35 rfl rfl) ?_; clear ha a; intro a ha; refine op_g ha rfl (g_load0 hE51 Tryd.isAgg2 rfl hat116.one) ?_; clear ha a; intro a ha; (iterate 2 refine op_g ha rfl (g_assign rfl) ?_; clear ha a; intro a ha); refine wpList_nil ?_; replace ha := ha.sub (σ' := [(0, va0), (1, (.int .i64 a1)), (5, (.int .i64 i49)), (6, (.int .i64 x108)), (7, va0), (8, (.int .i64 (a0.length : Int))), (9, (.int .i64 i49))]) ⟨rfl, rfl, rfl, rfl, rfl, rfl, rfl, trivial⟩; refine e_then ?_; refine wp_seq ?_; refine wp_region_lit ?_; (iterate 2 refine op_g ha rfl (g_move rfl) ?_; clear ha a; intro a ha)
        obtain ⟨hI120, hF⟩ := ck_some hF; refine op_g ha rfl (g_sub rfl rfl hI120) ?_; clear ha a; intro a ha; obtain ⟨x122, hc123, hF⟩ := cal_some hF
        refine o_call ha rfl rfl Tryd.call57 (W_impl_inRange hI119 (show InI 0 from by decide) hI120 hc123) ?_; clear ha a; rintro v124 w125 ⟨rfl, hx126⟩ a ha
        have hE127 := Ext.trans hE51 hx126
        refine op_g ha rfl (g_not rfl) ?_; clear ha a; intro a ha; refine op_g ha rfl (g_move rfl) ?_; clear ha a; intro a ha
        by_cases hp128 : ¬ (x122 = true)
        · replace hF := if_t hp128 hF
          rw [show (!x122) = true from (n_iff (Iff.rfl)).2 hp128] at ha
          (iterate 3 refine op_unwant ha rfl (yields ha rfl rfl) rfl ?_; clear ha a; intro a ha); (iterate 7 refine op_unwant0 ha rfl (yields0 ha rfl rfl) ?_; clear ha a; intro a ha); refine op_unwant ha rfl (yields ha rfl rfl) rfl ?_; clear ha a; intro a ha; refine op_g ha rfl (g_pick rfl rfl) ?_; clear ha a; intro a ha; refine wpList_nil ?_; replace ha := ha.sub (σ' := [(0, va0), (1, (.int .i64 a1)), (7, va0), (8, (.int .i64 (a0.length : Int))), (9, (.int .i64 i49)), (31, (.bool true))]) ⟨rfl, rfl, rfl, rfl, rfl, rfl, trivial⟩; refine e_then ?_; refine c_true ha rfl ?_; refine wp_seq ?_; refine wp_region_lit ?_
          refine op_g ha rfl (g_assign rfl) ?_; clear ha a; intro a ha; refine wpList_nil ?_; replace ha := ha.sub (σ' := [(4, (.bool false))]) ⟨rfl, trivial⟩; refine e_then ?_; refine wp_ret ?_; refine e_blk_ret ?_; refine e_then_ret ?_; refine e_lq_ret ?_; refine e_then_ret ?_; obtain rfl := Option.some.inj hF
          have e129 := LK_inr hN104; subst e129
          have e130 := BK_inr hK100; subst e130
          exact f_ret1 ha rfl rfl ⟨rfl, hE127⟩
        replace hF := if_f hp128 hF
        rw [show (!x122) = false from b_false (n_iff (Iff.rfl)) hp128] at ha
        refine op_want (yields ha rfl rfl) ?_; refine op_g ha rfl (g_move rfl) ?_; clear ha a; intro a ha; refine op_want (yields ha rfl rfl) ?_; refine op_g ha rfl (g_gtr rfl rfl) ?_; clear ha a; intro a ha; refine op_want (yields ha rfl rfl) ?_; refine op_g ha rfl (g_move rfl) ?_; clear ha a; intro a ha
        by_cases hp131 : 0 < i49
        · replace hF := if_t hp131 hF
          rw [show (decide (0 < i49)) = true from (decide_eq_true_iff).2 hp131] at ha
          refine op_want (yields ha rfl rfl) ?_; refine op_g ha rfl (g_move rfl) ?_; clear ha a; intro a ha; refine op_want (yields ha rfl rfl) ?_; refine op_g ha rfl (g_move rfl) ?_; clear ha a; intro a ha; refine op_want (yields ha rfl rfl) ?_; obtain ⟨hI132, hF⟩ := ck_some hF; refine op_g ha rfl (g_sub rfl rfl hI132) ?_; clear ha a; intro a ha; refine op_want (yields ha rfl rfl) ?_; obtain ⟨x134, g135, gx136, hF⟩ := idx_some hF
          obtain ⟨p137, cs138, f139, hf140, hpb141, hat142, hr143, hi144⟩ := ha0.at g135 gx136
          obtain ⟨rfl, hI145, rfl⟩ := hr143
          refine op_g ha rfl (hi144.gives sl35 rfl rfl) ?_; clear ha a; intro a ha; refine op_want (yields ha rfl rfl) ?_; refine op_g ha rfl (g_load0 hE127 Tryd.isAgg2 rfl hat142.one) ?_; clear ha a; intro a ha; refine op_want (yields ha rfl rfl) ?_; refine op_g ha rfl (g_move rfl) ?_; clear ha a; intro a ha; refine op_want (yields ha rfl rfl) ?_; refine op_g ha rfl (g_geq rfl rfl) ?_; clear ha a; intro a ha; refine op_want (yields ha rfl rfl) ?_; (iterate 2 refine op_g ha rfl (g_pick rfl rfl) ?_; clear ha a; intro a ha); refine wpList_nil ?_; replace ha := ha.sub (σ' := [(0, va0), (1, (.int .i64 a1)), (7, va0), (8, (.int .i64 (a0.length : Int))), (9, (.int .i64 i49)), (20, (.int .i64 i49)), (21, (.bool true)), (22, (.bool true)), (23, va0), (24, (.int .i64 i49)), (25, (.int .i64 (i49 - 1))), (26, (.pointer (some p137))), (27, (.int .i64 x134)), (28, (.int .i64 x108)), (29, (.bool (decide (x108 ≤ x134)))), (30, (.bool (decide (x108 ≤ x134)))), (31, (.bool (decide (x108 ≤ x134))))]) ⟨rfl, rfl, rfl, rfl, rfl, rfl, rfl, rfl, rfl, rfl, rfl, rfl, rfl, rfl, rfl, rfl, rfl, trivial⟩
          refine e_then ?_; refine c_cond (x108 ≤ x134) ha rfl (decide_eq_true_iff) (fun hp146 => ?_) (fun hp146 => ?_)
          · replace hF := if_t hp146 hF
            refine wp_seq ?_; refine wp_region_lit ?_; refine op_g ha rfl (g_assign rfl) ?_; clear ha a; intro a ha; refine wpList_nil ?_; replace ha := ha.sub (σ' := [(4, (.bool false))]) ⟨rfl, trivial⟩; refine e_then ?_; refine wp_ret ?_; refine e_blk_ret ?_; refine e_then_ret ?_; refine e_lq_ret ?_; refine e_then_ret ?_; obtain rfl := Option.some.inj hF
            have e147 := LK_inr hN104; subst e147
            have e148 := BK_inr hK100; subst e148
            exact f_ret1 ha rfl rfl ⟨rfl, hE127⟩
          replace hF := if_f hp146 hF; refine wp_skip ?_; refine e_blk ?_; refine e_then ?_; refine wp_region_lit ?_; obtain ⟨hI149, hF⟩ := ck_some hF; refine op_g ha rfl (g_add rfl rfl hI149) ?_; clear ha a; intro a ha; refine op_g ha rfl (g_move rfl) ?_; clear ha a; intro a ha; refine wpList_nil ?_; replace ha := ha.sub (σ' := [(0, va0), (1, (.int .i64 a1)), (7, va0), (8, (.int .i64 (a0.length : Int))), (9, (.int .i64 (i49 + 1))), (20, (.int .i64 i49)), (21, (.bool true)), (22, (.bool true)), (23, va0), (24, (.int .i64 i49)), (25, (.int .i64 (i49 - 1))), (26, (.pointer (some p137))), (27, (.int .i64 x134)), (28, (.int .i64 x108)), (29, (.bool (decide (x108 ≤ x134)))), (30, (.bool (decide (x108 ≤ x134))))]) ⟨rfl, rfl, rfl, rfl, rfl, rfl, rfl, rfl, rfl, rfl, rfl, rfl, rfl, rfl, rfl, rfl, trivial⟩
          refine e_lq ?_; obtain rfl := Option.some.inj hF
          exact ⟨_, Nat.lt_succ_self _, i49 + 1, ha.sub ⟨rfl, rfl, rfl, rfl, rfl, trivial⟩, hE127, hI149, hN104⟩
        replace hF := if_f hp131 hF
        rw [show (decide (0 < i49)) = false from b_false (decide_eq_true_iff) hp131] at ha
        (iterate 7 refine op_unwant ha rfl (yields ha rfl rfl) rfl ?_; clear ha a; intro a ha); refine op_want (yields ha rfl rfl) ?_; (iterate 2 refine op_g ha rfl (g_pick rfl rfl) ?_; clear ha a; intro a ha); refine wpList_nil ?_; replace ha := ha.sub (σ' := [(0, va0), (1, (.int .i64 a1)), (7, va0), (8, (.int .i64 (a0.length : Int))), (9, (.int .i64 i49)), (20, (.int .i64 i49)), (21, (.bool false)), (22, (.bool false)), (30, (.bool false)), (31, (.bool false))]) ⟨rfl, rfl, rfl, rfl, rfl, rfl, rfl, rfl, rfl, rfl, trivial⟩; refine e_then ?_; refine c_false ha rfl ?_; refine wp_skip ?_; refine e_blk ?_
        refine e_then ?_; refine wp_region_lit ?_; obtain ⟨hI151, hF⟩ := ck_some hF; refine op_g ha rfl (g_add rfl rfl hI151) ?_; clear ha a; intro a ha; refine op_g ha rfl (g_move rfl) ?_; clear ha a; intro a ha; refine wpList_nil ?_; replace ha := ha.sub (σ' := [(0, va0), (1, (.int .i64 a1)), (7, va0), (8, (.int .i64 (a0.length : Int))), (9, (.int .i64 (i49 + 1))), (20, (.int .i64 i49)), (21, (.bool false)), (22, (.bool false)), (30, (.bool false))]) ⟨rfl, rfl, rfl, rfl, rfl, rfl, rfl, rfl, rfl, trivial⟩; refine e_lq ?_; obtain rfl := Option.some.inj hF
        exact ⟨_, Nat.lt_succ_self _, i49 + 1, ha.sub ⟨rfl, rfl, rfl, rfl, rfl, trivial⟩, hE127, hI151, hN104⟩
      replace hF := if_f hp107 hF; refine wp_exit ?_; refine e_then_exit ?_; refine e_lq_eq ?_; obtain rfl := Option.some.inj hF
      exact ⟨ha.sub trivial, hE51, (LK_inr hN104).symm⟩
  rintro a w97 ⟨ha, hE103, rfl⟩
  have hF : F_impl_increasing_k2 = some _ := hK100; clear hK100; unfold F_impl_increasing_k2 at hF
  refine e_then ?_; refine wp_seq ?_; refine wp_region_lit ?_; refine op_g ha rfl (g_assign rfl) ?_; clear ha a; intro a ha; refine wpList_nil ?_; refine e_then ?_; refine wp_ret ?_; obtain rfl := Option.some.inj hF
  exact f_ret1 ha rfl rfl ⟨rfl, hE103⟩
set_option maxHeartbeats 2000000 in
theorem W_slices_Index_int64 {W : World} {va0 : Value} {fa0 : List Nat} {a0 : (List Int)} (ha0 : Ro Rp.int W fa0 va0 a0) {a1 : Int} (ha1 : InI a1) {r : Int} (hF : F_slices_Index_int64 a0 a1 = some r) :
    Calls Tryd.prog 58 [va0, .int .i64 a1].toArray W (Ret fun u w' => (u = .int .i64 r ∧ InI r) ∧ Ext W w') := by
  refine f_enter Tryd.func58 rfl Tryd.ntmps58 rfl ?_
  intro a ha
  replace ha : Fr 19 [(0, va0), (1, (.int .i64 a1))] a := ha
  have hE : Chg [] W W := Chg.refl _ _
  unfold F_slices_Index_int64 at hF
  refine wp_seq ?_; refine wp_region_lit ?_; refine op_g ha rfl (g_assign rfl) ?_; clear ha a; intro a ha; refine wpList_nil ?_; replace ha := ha.sub (σ' := [(0, va0), (1, (.int .i64 a1))]) ⟨rfl, rfl, trivial⟩; refine e_then ?_; refine wp_seq ?_; refine wp_seq ?_; refine wp_region_lit ?_; refine op_g ha rfl (g_move rfl) ?_; clear ha a; intro a ha; refine op_g ha rfl (g_lenR sl35.und ha0 rfl) ?_; clear ha a; intro a ha; refine op_g ha rfl (g_move rfl) ?_; clear ha a; intro a ha; refine wpList_nil ?_; replace ha := ha.sub (σ' := [(0, va0), (1, (.int .i64 a1)), (7, (.int .i64 (a0.length : Int))), (8, (.int .i64 0))]) ⟨rfl, rfl, rfl, rfl, trivial⟩
  refine e_then ?_; obtain ⟨o46, ho47, hK48⟩ := bnd_some hF
  obtain ⟨n49, hn50⟩ := lp_some ho47; clear ho47
  refine c_loop (fun a w => Fr 19 [] a ∧ Chg [] W w ∧ o46 = .inl ()) (fun n a w => ∃ (i23 : Int), Fr 19 [(0, va0), (1, (.int .i64 a1)), (7, (.int .i64 (a0.length : Int))), (8, (.int .i64 i23))] a ∧ Chg [] W w ∧ InI i23 ∧ lpN (fun s => F_slices_Index_int64_l1 a0 a1 s) n i23 = some o46) n49 ⟨0, ha.sub ⟨rfl, rfl, rfl, rfl, trivial⟩, hE, (show InI 0 from by decide), hn50⟩ ?_ ?_
  · rintro m54 a w22 ⟨i23, ha, hE25, hI24, hF⟩
    cases m54 with
    | zero => exact (lpN_zero hF).elim
    | succ m54 =>
      obtain ⟨z53, hF, hN52⟩ := lpN_succ hF
      have hF : F_slices_Index_int64_l1 a0 a1 i23 = some z53 := hF; unfold F_slices_Index_int64_l1 at hF
      refine wp_seq ?_; refine wp_region_lit ?_; refine op_g ha rfl (g_lss rfl rfl) ?_; clear ha a; intro a ha; refine wpList_nil ?_; replace ha := ha.sub (σ' := [(0, va0), (1, (.int .i64 a1)), (7, (.int .i64 (a0.length : Int))), (8, (.int .i64 i23)), (9, (.bool (decide (i23 < (a0.length : Int)))))]) ⟨rfl, rfl, rfl, rfl, rfl, trivial⟩; refine e_then ?_; refine wp_seq ?_; refine c_cond (i23 < (a0.length : Int)) ha rfl (decide_eq_true_iff) (fun hp55 => ?_) (fun hp55 => ?_)
      · replace hF := if_t hp55 hF
        refine wp_skip ?_; refine e_then ?_; refine wp_seq ?_; refine wp_block ?_; refine wp_seq ?_; refine wp_region_lit ?_; refine op_g ha rfl (g_move rfl) ?_; clear ha a; intro a ha; refine op_g ha rfl (g_assign rfl) ?_; clear ha a; intro a ha; refine wpList_nil ?_; replace ha := ha.sub (σ' := [(0, va0), (1, (.int .i64 a1)), (5, (.int .i64 i23)), (7, (.int .i64 (a0.length : Int))), (8, (.int .i64 i23))]) ⟨rfl, rfl, rfl, rfl, rfl, trivial⟩; refine e_then ?_; refine wp_seq ?_; refine wp_region_lit ?_; (iterate 3 refine op_g ha rfl (g_move rfl) ?_; clear ha a; intro a ha); obtain ⟨x56, g57, gx58, hF⟩ := idx_some hF
        obtain ⟨p59, cs60, f61, hf62, hpb63, hat64, hr65, hi66⟩ := ha0.at g57 gx58
        obtain ⟨rfl, hI67, rfl⟩ := hr65
        refine op_g ha rfl (hi66.gives sl35 rfl rfl) ?_; clear ha a; intro a ha; refine op_g ha rfl (g_load0 hE25 Tryd.isAgg2 rfl hat64.one) ?_; clear ha a; intro a ha; refine op_g ha rfl (g_eql rfl rfl) ?_; clear ha a; intro a ha; refine wpList_nil ?_; replace ha := ha.sub (σ' := [(0, va0), (1, (.int .i64 a1)), (5, (.int .i64 i23)), (7, (.int .i64 (a0.length : Int))), (8, (.int .i64 i23)), (16, (.bool (decide (a1 = x56))))]) ⟨rfl, rfl, rfl, rfl, rfl, rfl, trivial⟩; refine e_then ?_; refine c_cond (a1 = x56) ha rfl (decide_eq_true_iff) (fun hp68 => ?_) (fun hp68 => ?_)
        · replace hF := if_t hp68 hF
          refine wp_seq ?_; refine wp_region_lit ?_; refine op_g ha rfl (g_move rfl) ?_; clear ha a; intro a ha; refine op_g ha rfl (g_assign rfl) ?_; clear ha a; intro a ha; refine wpList_nil ?_; replace ha := ha.sub (σ' := [(4, (.int .i64 i23))]) ⟨rfl, trivial⟩; refine e_then ?_; refine wp_ret ?_; refine e_blk_ret ?_; refine e_then_ret ?_; refine e_lq_ret ?_; refine e_then_ret ?_; obtain rfl := Option.some.inj hF
          have e69 := LK_inr hN52; subst e69
          have e70 := BK_inr hK48; subst e70
          exact f_ret1 ha rfl rfl ⟨⟨rfl, hI24⟩, hE25⟩
        replace hF := if_f hp68 hF; refine wp_skip ?_; refine e_blk ?_; refine e_then ?_; refine wp_region_lit ?_; obtain ⟨hI71, hF⟩ := ck_some hF; refine op_g ha rfl (g_add rfl rfl hI71) ?_; clear ha a; intro a ha; refine op_g ha rfl (g_move rfl) ?_; clear ha a; intro a ha; refine wpList_nil ?_; replace ha := ha.sub (σ' := [(0, va0), (1, (.int .i64 a1)), (7, (.int .i64 (a0.length : Int))), (8, (.int .i64 (i23 + 1)))]) ⟨rfl, rfl, rfl, rfl, trivial⟩; refine e_lq ?_; obtain rfl := Option.some.inj hF
        exact ⟨_, Nat.lt_succ_self _, i23 + 1, ha.sub ⟨rfl, rfl, rfl, rfl, trivial⟩, hE25, hI71, hN52⟩
      replace hF := if_f hp55 hF; refine wp_exit ?_; refine e_then_exit ?_; refine e_lq_eq ?_; obtain rfl := Option.some.inj hF
      exact ⟨ha.sub trivial, hE25, (LK_inr hN52).symm⟩
  rintro a w45 ⟨ha, hE51, rfl⟩
  have hF : F_slices_Index_int64_k2 = some _ := hK48; clear hK48; unfold F_slices_Index_int64_k2 at hF
  refine e_then ?_; refine wp_seq ?_; refine wp_region_lit ?_; refine op_g ha rfl (g_assign rfl) ?_; clear ha a; intro a ha; refine wpList_nil ?_; refine e_then ?_; refine wp_ret ?_; obtain rfl := Option.some.inj hF
  exact f_ret1 ha rfl rfl ⟨⟨rfl, (show InI (-1) from by decide)⟩, hE51⟩
set_option maxHeartbeats 2000000 in
theorem W_slices_Contains_int64 {W : World} {va0 : Value} {fa0 : List Nat} {a0 : (List Int)} (ha0 : Ro Rp.int W fa0 va0 a0) {a1 : Int} (ha1 : InI a1) {r : Bool} (hF : F_slices_Contains_int64 a0 a1 = some r) :
    Calls Tryd.prog 51 [va0, .int .i64 a1].toArray W (Ret fun u w' => u = .bool r ∧ Ext W w') := by
  refine f_enter Tryd.func51 rfl Tryd.ntmps51 rfl ?_
  intro a ha
  replace ha : Fr 9 [(0, va0), (1, (.int .i64 a1))] a := ha
  have hE : Chg [] W W := Chg.refl _ _
  unfold F_slices_Contains_int64 at hF
  refine wp_seq ?_; refine wp_region_lit ?_; refine op_g ha rfl (g_assign rfl) ?_; clear ha a; intro a ha; refine wpList_nil ?_; replace ha := ha.sub (σ' := [(0, va0), (1, (.int .i64 a1))]) ⟨rfl, rfl, trivial⟩; refine e_then ?_; refine wp_seq ?_; refine wp_region_lit ?_; (iterate 2 refine op_g ha rfl (g_move rfl) ?_; clear ha a; intro a ha); obtain ⟨x1, hc2, hF⟩ := cal_some hF
  refine o_call ha rfl rfl Tryd.call58 (W_slices_Index_int64 (ha0.ext hE) ha1 hc2) ?_; clear ha a; rintro v3 w4 ⟨⟨rfl, hI6⟩, hx5⟩ a ha
  have hE7 := Ext.trans hE hx5
  refine op_g ha rfl (g_geq rfl rfl) ?_; clear ha a; intro a ha; refine op_g ha rfl (g_assign rfl) ?_; clear ha a; intro a ha; refine wpList_nil ?_; replace ha := ha.sub (σ' := [(4, (.bool (decide (0 ≤ x1))))]) ⟨rfl, trivial⟩; refine e_then ?_; refine wp_ret ?_; obtain rfl := Option.some.inj hF
  exact f_ret1 ha rfl rfl ⟨rfl, hE7⟩
set_option maxHeartbeats 2000000 in
theorem W_impl_GraphOk {W : World} {va0_0 : Value} {fa0_0 : List Nat} {a0_0 : (List (List Int))} (ha0_0 : Ro (Rp.sl 2 Rp.int) W fa0_0 va0_0 a0_0) {r : Bool} (hF : F_impl_GraphOk a0_0 = some r) :
    Calls Tryd.prog 29 [.agg #[va0_0]].toArray W (Ret fun u w' => u = .bool r ∧ Ext W w') := by
  refine f_enter Tryd.func29 rfl Tryd.ntmps29 rfl ?_
  intro a ha
  replace ha : Fr 61 [(0, (.agg #[va0_0]))] a := ha
  have hE : Chg [] W W := Chg.refl _ _
  unfold F_impl_GraphOk at hF
  refine wp_seq ?_; refine wp_region_lit ?_
  refine o_box ha rfl rfl rfl ?_; clear ha a; intro b1 w2 hB3 hx4 hlo5 a ha
  have q6 := Zn.one hlo5
  have q7 := Zn.upD q6 hE
  have hE8 := Ext.trans hE hx4
  refine op_g ha rfl (g_assign rfl) ?_; clear ha a; intro a ha; refine wpList_nil ?_; replace ha := ha.sub (σ' := [(1, (.pointer (some ⟨b1, 0, none⟩)))]) ⟨rfl, trivial⟩; refine e_then ?_; refine wp_seq ?_; refine wp_region_lit ?_; refine op_g ha rfl (g_field0 st27_0 rfl) ?_; clear ha a; intro a ha; refine op_g ha rfl (g_load Tryd.isAgg22 rfl (hB3.cell rfl)) ?_; clear ha a; intro a ha; refine op_g ha rfl (g_lenR sl22.und ha0_0 rfl) ?_; clear ha a; intro a ha; refine op_g ha rfl (g_assign rfl) ?_; clear ha a; intro a ha; refine wpList_nil ?_; replace ha := ha.sub (σ' := [(1, (.pointer (some ⟨b1, 0, none⟩))), (3, (.int .i64 (a0_0.length : Int)))]) ⟨rfl, rfl, trivial⟩
  refine e_then ?_; refine wp_seq ?_; refine wp_seq ?_; refine wp_region_lit ?_; refine op_g ha rfl (g_move rfl) ?_; clear ha a; intro a ha; refine op_g ha rfl (g_lss rfl rfl) ?_; clear ha a; intro a ha; refine op_g ha rfl (g_move rfl) ?_; clear ha a; intro a ha
  by_cases hp11 : (a0_0.length : Int) < 1
  · replace hF := if_t hp11 hF
    rw [show (decide ((a0_0.length : Int) < 1)) = true from (decide_eq_true_iff).2 hp11] at ha
    (iterate 2 refine op_unwant ha rfl (yields ha rfl rfl) rfl ?_; clear ha a; intro a ha); refine op_g ha rfl (g_pick rfl rfl) ?_; clear ha a; intro a ha; refine wpList_nil ?_; replace ha := ha.sub (σ' := [(1, (.pointer (some ⟨b1, 0, none⟩))), (3, (.int .i64 (a0_0.length : Int))), (18, (.bool true))]) ⟨rfl, rfl, rfl, trivial⟩; refine e_then ?_; refine c_true ha rfl ?_; refine wp_seq ?_; refine wp_region_lit ?_; refine op_g ha rfl (g_assign rfl) ?_; clear ha a; intro a ha; refine wpList_nil ?_; replace ha := ha.sub (σ' := [(2, (.bool false))]) ⟨rfl, trivial⟩; refine e_then ?_; refine wp_ret ?_
    refine e_then_ret ?_; obtain rfl := Option.some.inj hF
    exact f_ret1 ha rfl rfl ⟨rfl, hE8⟩
  replace hF := if_f hp11 hF
  rw [show (decide ((a0_0.length : Int) < 1)) = false from b_false (decide_eq_true_iff) hp11] at ha
  refine op_want (yields ha rfl rfl) ?_; refine op_g ha rfl (g_move rfl) ?_; clear ha a; intro a ha; refine op_want (yields ha rfl rfl) ?_; refine op_g ha rfl (g_gtr rfl rfl) ?_; clear ha a; intro a ha; refine op_g ha rfl (g_pick rfl rfl) ?_; clear ha a; intro a ha; refine wpList_nil ?_; replace ha := ha.sub (σ' := [(1, (.pointer (some ⟨b1, 0, none⟩))), (3, (.int .i64 (a0_0.length : Int))), (18, (.bool (decide (16 < (a0_0.length : Int)))))]) ⟨rfl, rfl, rfl, trivial⟩; refine e_then ?_; refine c_cond (16 < (a0_0.length : Int)) ha rfl (decide_eq_true_iff) (fun hp12 => ?_) (fun hp12 => ?_)
  · replace hF := if_t hp12 hF
    refine wp_seq ?_; refine wp_region_lit ?_; refine op_g ha rfl (g_assign rfl) ?_; clear ha a; intro a ha; refine wpList_nil ?_; replace ha := ha.sub (σ' := [(2, (.bool false))]) ⟨rfl, trivial⟩; refine e_then ?_; refine wp_ret ?_; refine e_then_ret ?_; obtain rfl := Option.some.inj hF
    exact f_ret1 ha rfl rfl ⟨rfl, hE8⟩
  replace hF := if_f hp12 hF; refine wp_skip ?_; refine e_then ?_; refine wp_seq ?_; refine wp_seq ?_; refine wp_region_lit ?_; refine op_g ha rfl (g_field0 st27_0 rfl) ?_; clear ha a; intro a ha; refine op_g ha rfl (g_load Tryd.isAgg22 rfl (hB3.cell rfl)) ?_; clear ha a; intro a ha; refine op_g ha rfl (g_lenR sl22.und ha0_0 rfl) ?_; clear ha a; intro a ha; refine op_g ha rfl (g_move rfl) ?_; clear ha a; intro a ha; refine wpList_nil ?_; replace ha := ha.sub (σ' := [(1, (.pointer (some ⟨b1, 0, none⟩))), (3, (.int .i64 (a0_0.length : Int))), (20, va0_0), (21, (.int .i64 (a0_0.length : Int))), (22, (.int .i64 0))]) ⟨rfl, rfl, rfl, rfl, rfl, trivial⟩
  refine e_then ?_; obtain ⟨o98, ho99, hK100⟩ := bnd_some hF
  obtain ⟨n101, hn102⟩ := lp_some ho99; clear ho99
  refine c_loop (fun a w => Fr 61 [(1, (.pointer (some ⟨b1, 0, none⟩)))] a ∧ Chg [] W w ∧ Bx w b1 [va0_0] 27 ∧ Zn W (b1 : Int) ∧ o98 = .inl ()) (fun n a w => ∃ (i56 : Int), Fr 61 [(1, (.pointer (some ⟨b1, 0, none⟩))), (3, (.int .i64 (a0_0.length : Int))), (20, va0_0), (21, (.int .i64 (a0_0.length : Int))), (22, (.int .i64 i56))] a ∧ Chg [] W w ∧ InI i56 ∧ Bx w b1 [va0_0] 27 ∧ Zn W (b1 : Int) ∧ lpN (fun s => F_impl_GraphOk_l1 a0_0 s) n i56 = some o98) n101 ⟨0, ha.sub ⟨rfl, rfl, rfl, rfl, rfl, trivial⟩, hE8, (show InI 0 from by decide), hB3, q7, hn102⟩ ?_ ?_
  · rintro m106 a w53 ⟨i56, ha, hE58, hI57, hB54, z55, hF⟩
    cases m106 with
    | zero => exact (lpN_zero hF).elim
    | succ m106 =>
      obtain ⟨z105, hF, hN104⟩ := lpN_succ hF
      have hF : F_impl_GraphOk_l1 a0_0 i56 = some z105 := hF; unfold F_impl_GraphOk_l1 at hF
      refine wp_seq ?_; refine wp_region_lit ?_; refine op_g ha rfl (g_lss rfl rfl) ?_; clear ha a; intro a ha; refine wpList_nil ?_; replace ha := ha.sub (σ' := [(1, (.pointer (some ⟨b1, 0, none⟩))), (3, (.int .i64 (a0_0.length : Int))), (20, va0_0), (21, (.int .i64 (a0_0.length : Int))), (22, (.int .i64 i56)), (23, (.bool (decide (i56 < (a0_0.length : Int)))))]) ⟨rfl, rfl, rfl, rfl, rfl, rfl, trivial⟩; refine e_then ?_; refine wp_seq ?_; refine c_cond (i56 < (a0_0.length : Int)) ha rfl (decide_eq_true_iff) (fun hp107 => ?_) (fun hp107 => ?_)
      · replace hF := if_t hp107 hF
        refine wp_skip ?_; refine e_then ?_; refine wp_seq ?_; refine wp_block ?_; refine wp_seq ?_; refine wp_region_lit ?_; refine op_g ha rfl (g_move rfl) ?_; clear ha a; intro a ha; obtain ⟨x108, g109, gx110, hF⟩ := idx_some hF
        obtain ⟨p111, cs112, f113, hf114, hpb115, hat116, hr117, hi118⟩ := ha0_0.at g109 gx110
        obtain ⟨v119, rfl, h120⟩ := hr117
        have h120 : Ro Rp.int W f113 v119 x108 := h120
        refine op_g ha rfl (hi118.gives sl22 rfl rfl) ?_; clear ha a; intro a ha; refine op_g ha rfl (g_load0 hE58 Tryd.isAgg35 rfl hat116.one) ?_; clear ha a; intro a ha; (iterate 2 refine op_g ha rfl (g_assign rfl) ?_; clear ha a; intro a ha); refine wpList_nil ?_; replace ha := ha.sub (σ' := [(1, (.pointer (some ⟨b1, 0, none⟩))), (3, (.int .i64 (a0_0.length : Int))), (4, (.int .i64 i56)), (5, v119), (20, va0_0), (21, (.int .i64 (a0_0.length : Int))), (22, (.int .i64 i56))]) ⟨rfl, rfl, rfl, rfl, rfl, rfl, rfl, trivial⟩; refine e_then ?_; refine wp_seq ?_; refine wp_region_lit ?_; (iterate 2 refine op_g ha rfl (g_move rfl) ?_; clear ha a; intro a ha)
        obtain ⟨x122, hc123, hF⟩ := cal_some hF
        refine o_call ha rfl rfl Tryd.call50 (W_impl_increasing (h120.ext hE58) ha0_0.len hc123) ?_; clear ha a; rintro v124 w125 ⟨rfl, hx126⟩ a ha
        replace hB54 := hB54.ext hx126
        have hE127 := Ext.trans hE58 hx126
        refine op_g ha rfl (g_not rfl) ?_; clear ha a; intro a ha; refine op_g ha rfl (g_move rfl) ?_; clear ha a; intro a ha
        by_cases hp128 : ¬ (x122 = true)
        · replace hF := if_t hp128 hF
          rw [show (!x122) = true from (n_iff (Iff.rfl)).2 hp128] at ha
          (iterate 3 refine op_unwant ha rfl (yields ha rfl rfl) rfl ?_; clear ha a; intro a ha); refine op_g ha rfl (g_pick rfl rfl) ?_; clear ha a; intro a ha; refine wpList_nil ?_; replace ha := ha.sub (σ' := [(1, (.pointer (some ⟨b1, 0, none⟩))), (3, (.int .i64 (a0_0.length : Int))), (20, va0_0), (21, (.int .i64 (a0_0.length : Int))), (22, (.int .i64 i56)), (35, (.bool true))]) ⟨rfl, rfl, rfl, rfl, rfl, rfl, trivial⟩; refine e_then ?_; refine c_true ha rfl ?_; refine wp_seq ?_; refine wp_region_lit ?_; refine op_g ha rfl (g_assign rfl) ?_; clear ha a; intro a ha; refine wpList_nil ?_; replace ha := ha.sub (σ' := [(2, (.bool false))]) ⟨rfl, trivial⟩
          refine e_then ?_; refine wp_ret ?_; refine e_blk_ret ?_; refine e_then_ret ?_; refine e_lq_ret ?_; refine e_then_ret ?_; obtain rfl := Option.some.inj hF
          have e129 := LK_inr hN104; subst e129
          have e130 := BK_inr hK100; subst e130
          exact f_ret1 ha rfl rfl ⟨rfl, hE127⟩
        replace hF := if_f hp128 hF
        rw [show (!x122) = false from b_false (n_iff (Iff.rfl)) hp128] at ha
        refine op_want (yields ha rfl rfl) ?_; refine op_g ha rfl (g_move rfl) ?_; clear ha a; intro a ha; refine op_want (yields ha rfl rfl) ?_; refine op_g ha rfl (g_move rfl) ?_; clear ha a; intro a ha; refine op_want (yields ha rfl rfl) ?_; obtain ⟨x131, hc132, hF⟩ := cal_some hF
        refine o_call ha rfl rfl Tryd.call51 (W_slices_Contains_int64 (h120.ext hE127) hI57 hc132) ?_; clear ha a; rintro v133 w134 ⟨rfl, hx135⟩ a ha
        replace hB54 := hB54.ext hx135
        have hE136 := Ext.trans hE127 hx135
        refine op_g ha rfl (g_pick rfl rfl) ?_; clear ha a; intro a ha; refine wpList_nil ?_; replace ha := ha.sub (σ' := [(1, (.pointer (some ⟨b1, 0, none⟩))), (3, (.int .i64 (a0_0.length : Int))), (20, va0_0), (21, (.int .i64 (a0_0.length : Int))), (22, (.int .i64 i56)), (32, v119), (33, (.int .i64 i56)), (34, (.bool x131)), (35, (.bool x131))]) ⟨rfl, rfl, rfl, rfl, rfl, rfl, rfl, rfl, rfl, trivial⟩; refine e_then ?_; refine c_cond (x131 = true) ha rfl (Iff.rfl) (fun hp137 => ?_) (fun hp137 => ?_)
        · replace hF := if_t hp137 hF
          refine wp_seq ?_; refine wp_region_lit ?_; refine op_g ha rfl (g_assign rfl) ?_; clear ha a; intro a ha; refine wpList_nil ?_; replace ha := ha.sub (σ' := [(2, (.bool false))]) ⟨rfl, trivial⟩; refine e_then ?_; refine wp_ret ?_; refine e_blk_ret ?_; refine e_then_ret ?_; refine e_lq_ret ?_; refine e_then_ret ?_; obtain rfl := Option.some.inj hF
          have e138 := LK_inr hN104; subst e138
          have e139 := BK_inr hK100; subst e139
          exact f_ret1 ha rfl rfl ⟨rfl, hE136⟩
        replace hF := if_f hp137 hF; refine wp_skip ?_; refine e_blk ?_; refine e_then ?_; refine wp_region_lit ?_; obtain ⟨hI140, hF⟩ := ck_some hF; refine op_g ha rfl (g_add rfl rfl hI140) ?_; clear ha a; intro a ha; refine op_g ha rfl (g_move rfl) ?_; clear ha a; intro a ha; refine wpList_nil ?_; replace ha := ha.sub (σ' := [(1, (.pointer (some ⟨b1, 0, none⟩))), (3, (.int .i64 (a0_0.length : Int))), (20, va0_0), (21, (.int .i64 (a0_0.length : Int))), (22, (.int .i64 (i56 + 1))), (32, v119), (33, (.int .i64 i56)), (34, (.bool x131))]) ⟨rfl, rfl, rfl, rfl, rfl, rfl, rfl, rfl, trivial⟩; refine e_lq ?_
        obtain rfl := Option.some.inj hF
        exact ⟨_, Nat.lt_succ_self _, i56 + 1, ha.sub ⟨rfl, rfl, rfl, rfl, rfl, trivial⟩, hE136, hI140, hB54, z55, hN104⟩
      replace hF := if_f hp107 hF; refine wp_exit ?_; refine e_then_exit ?_; refine e_lq_eq ?_; obtain rfl := Option.some.inj hF
      exact ⟨ha.sub ⟨rfl, trivial⟩, hE58, hB54, z55, (LK_inr hN104).symm⟩
  rintro a w95 ⟨ha, hE103, hB96, z97, rfl⟩
  have hF : F_impl_GraphOk_k2 a0_0 = some _ := hK100; clear hK100; unfold F_impl_GraphOk_k2 at hF
  refine e_then ?_; refine wp_seq ?_; refine wp_seq ?_; refine wp_region_lit ?_; refine op_g ha rfl (g_field0 st27_0 rfl) ?_; clear ha a; intro a ha; refine op_g ha rfl (g_load Tryd.isAgg22 rfl (hB96.cell rfl)) ?_; clear ha a; intro a ha; refine op_g ha rfl (g_lenR sl22.und ha0_0 rfl) ?_; clear ha a; intro a ha; refine op_g ha rfl (g_move rfl) ?_; clear ha a; intro a ha; refine wpList_nil ?_; replace ha := ha.sub (σ' := [(1, (.pointer (some ⟨b1, 0, none⟩))), (38, va0_0), (39, (.int .i64 (a0_0.length : Int))), (40, (.int .i64 0))]) ⟨rfl, rfl, rfl, rfl, trivial⟩; refine e_then ?_; obtain ⟨o477, ho478, hK479⟩ := bnd_some hF
  obtain ⟨n480, hn481⟩ := lp_some ho478; clear ho478
  refine c_loop (fun a w => Fr 61 [] a ∧ Chg [] W w ∧ o477 = .inl ()) (fun n a w => ∃ (i311 : Int), Fr 61 [(1, (.pointer (some ⟨b1, 0, none⟩))), (38, va0_0), (39, (.int .i64 (a0_0.length : Int))), (40, (.int .i64 i311))] a ∧ Chg [] W w ∧ InI i311 ∧ Bx w b1 [va0_0] 27 ∧ Zn W (b1 : Int) ∧ lpN (fun s => F_impl_GraphOk_l3 a0_0 s) n i311 = some o477) n480 ⟨0, ha.sub ⟨rfl, rfl, rfl, rfl, trivial⟩, hE103, (show InI 0 from by decide), hB96, z97, hn481⟩ ?_ ?_
  · rintro m485 a w308 ⟨i311, ha, hE313, hI312, hB309, z310, hF⟩
    cases m485 with
    | zero => exact (lpN_zero hF).elim
    | succ m485 =>
      obtain ⟨z484, hF, hN483⟩ := lpN_succ hF
      have hF : F_impl_GraphOk_l3 a0_0 i311 = some z484 := hF; unfold F_impl_GraphOk_l3 at hF
      refine wp_seq ?_; refine wp_region_lit ?_; refine op_g ha rfl (g_lss rfl rfl) ?_; clear ha a; intro a ha; refine wpList_nil ?_; replace ha := ha.sub (σ' := [(1, (.pointer (some ⟨b1, 0, none⟩))), (38, va0_0), (39, (.int .i64 (a0_0.length : Int))), (40, (.int .i64 i311)), (41, (.bool (decide (i311 < (a0_0.length : Int)))))]) ⟨rfl, rfl, rfl, rfl, rfl, trivial⟩; refine e_then ?_; refine wp_seq ?_; refine c_cond (i311 < (a0_0.length : Int)) ha rfl (decide_eq_true_iff) (fun hp486 => ?_) (fun hp486 => ?_)
      · replace hF := if_t hp486 hF
        refine wp_skip ?_; refine e_then ?_; refine wp_seq ?_; refine wp_block ?_; refine wp_seq ?_; refine wp_region_lit ?_; refine op_g ha rfl (g_move rfl) ?_; clear ha a; intro a ha; obtain ⟨x487, g488, gx489, hF⟩ := idx_some hF
        obtain ⟨p490, cs491, f492, hf493, hpb494, hat495, hr496, hi497⟩ := ha0_0.at g488 gx489
        obtain ⟨v498, rfl, h499⟩ := hr496
        have h499 : Ro Rp.int W f492 v498 x487 := h499
        refine op_g ha rfl (hi497.gives sl22 rfl rfl) ?_; clear ha a; intro a ha; refine op_g ha rfl (g_load0 hE313 Tryd.isAgg35 rfl hat495.one) ?_; clear ha a; intro a ha; (iterate 2 refine op_g ha rfl (g_assign rfl) ?_; clear ha a; intro a ha); refine wpList_nil ?_; replace ha := ha.sub (σ' := [(1, (.pointer (some ⟨b1, 0, none⟩))), (6, (.int .i64 i311)), (7, v498), (38, va0_0), (39, (.int .i64 (a0_0.length : Int))), (40, (.int .i64 i311))]) ⟨rfl, rfl, rfl, rfl, rfl, rfl, trivial⟩; refine e_then ?_; refine wp_seq ?_; refine wp_region_lit ?_; refine op_g ha rfl (g_move rfl) ?_; clear ha a; intro a ha
        refine op_g ha rfl (g_lenR sl35.und h499 rfl) ?_; clear ha a; intro a ha; refine op_g ha rfl (g_move rfl) ?_; clear ha a; intro a ha; refine wpList_nil ?_; replace ha := ha.sub (σ' := [(1, (.pointer (some ⟨b1, 0, none⟩))), (6, (.int .i64 i311)), (38, va0_0), (39, (.int .i64 (a0_0.length : Int))), (40, (.int .i64 i311)), (45, v498), (46, (.int .i64 (x487.length : Int))), (47, (.int .i64 0))]) ⟨rfl, rfl, rfl, rfl, rfl, rfl, rfl, rfl, trivial⟩; refine e_then ?_; obtain ⟨o596, ho597, hK598⟩ := bnd_some hF
        obtain ⟨n599, hn600⟩ := lp_some ho597; clear ho597
        refine c_loop (fun a w => Fr 61 [(1, (.pointer (some ⟨b1, 0, none⟩))), (38, va0_0), (39, (.int .i64 (a0_0.length : Int))), (40, (.int .i64 i311))] a ∧ Chg [] W w ∧ Bx w b1 [va0_0] 27 ∧ Zn W (b1 : Int) ∧ o596 = .inl ()) (fun n a w => ∃ (i549 : Int), Fr 61 [(1, (.pointer (some ⟨b1, 0, none⟩))), (6, (.int .i64 i311)), (38, va0_0), (39, (.int .i64 (a0_0.length : Int))), (40, (.int .i64 i311)), (45, v498), (46, (.int .i64 (x487.length : Int))), (47, (.int .i64 i549))] a ∧ Chg [] W w ∧ InI i549 ∧ Bx w b1 [va0_0] 27 ∧ Zn W (b1 : Int) ∧ lpN (fun s => F_impl_GraphOk_l4 a0_0 i311 x487 s) n i549 = some o596) n599 ⟨0, ha.sub ⟨rfl, rfl, rfl, rfl, rfl, rfl, rfl, rfl, trivial⟩, hE313, (show InI 0 from by decide), hB309, z310, hn600⟩ ?_ ?_
        · rintro m604 a w546 ⟨i549, ha, hE551, hI550, hB547, z548, hF⟩
          cases m604 with
          | zero => exact (lpN_zero hF).elim
          | succ m604 =>
            obtain ⟨z603, hF, hN602⟩ := lpN_succ hF
            have hF : F_impl_GraphOk_l4 a0_0 i311 x487 i549 = some z603 := hF; unfold F_impl_GraphOk_l4 at hF
            refine wp_seq ?_; refine wp_region_lit ?_; refine op_g ha rfl (g_lss rfl rfl) ?_; clear ha a; intro a ha; refine wpList_nil ?_; replace ha := ha.sub (σ' := [(1, (.pointer (some ⟨b1, 0, none⟩))), (6, (.int .i64 i311)), (38, va0_0), (39, (.int .i64 (a0_0.length : Int))), (40, (.int .i64 i311)), (45, v498), (46, (.int .i64 (x487.length : Int))), (47, (.int .i64 i549)), (48, (.bool (decide (i549 < (x487.length : Int)))))]) ⟨rfl, rfl, rfl, rfl, rfl, rfl, rfl, rfl, rfl, trivial⟩; refine e_then ?_; refine wp_seq ?_; refine c_cond (i549 < (x487.length : Int)) ha rfl (decide_eq_true_iff) (fun hp605 => ?_) (fun hp605 => ?_)
            · replace hF := if_t hp605 hF
              refine wp_skip ?_; refine e_then ?_; refine wp_seq ?_; refine wp_block ?_; refine wp_seq ?_; refine wp_region_lit ?_; obtain ⟨x606, g607, gx608, hF⟩ := idx_some hF
              obtain ⟨p609, cs610, f611, hf612, hpb613, hat614, hr615, hi616⟩ := h499.at g607 gx608
              obtain ⟨rfl, hI617, rfl⟩ := hr615
              refine op_g ha rfl (hi616.gives sl35 rfl rfl) ?_; clear ha a; intro a ha; refine op_g ha rfl (g_load0 hE551 Tryd.isAgg2 rfl hat614.one) ?_; clear ha a; intro a ha; refine op_g ha rfl (g_assign rfl) ?_; clear ha a; intro a ha; refine wpList_nil ?_; replace ha := ha.sub (σ' := [(1, (.pointer (some ⟨b1, 0, none⟩))), (6, (.int .i64 i311)), (9, (.int .i64 x606)), (38, va0_0), (39, (.int .i64 (a0_0.length : Int))), (40, (.int .i64 i311)), (45, v498), (46, (.int .i64 (x487.length : Int))), (47, (.int .i64 i549))]) ⟨rfl, rfl, rfl, rfl, rfl, rfl, rfl, rfl, rfl, trivial⟩; refine e_then ?_; refine wp_seq ?_
              refine wp_region_lit ?_; refine op_g ha rfl (g_field0 st27_0 rfl) ?_; clear ha a; intro a ha; refine op_g ha rfl (g_load Tryd.isAgg22 rfl (hB547.cell rfl)) ?_; clear ha a; intro a ha; refine op_g ha rfl (g_move rfl) ?_; clear ha a; intro a ha; obtain ⟨x618, g619, gx620, hF⟩ := idx_some hF
              obtain ⟨p621, cs622, f623, hf624, hpb625, hat626, hr627, hi628⟩ := ha0_0.at g619 gx620
              obtain ⟨v629, rfl, h630⟩ := hr627
              have h630 : Ro Rp.int W f623 v629 x618 := h630
              refine op_g ha rfl (hi628.gives sl22 rfl rfl) ?_; clear ha a; intro a ha; refine op_g ha rfl (g_load0 hE551 Tryd.isAgg35 rfl hat626.one) ?_; clear ha a; intro a ha; refine op_g ha rfl (g_move rfl) ?_; clear ha a; intro a ha; obtain ⟨x632, hc633, hF⟩ := cal_some hF
              refine o_call ha rfl rfl Tryd.call51 (W_slices_Contains_int64 (h630.ext hE551) hI312 hc633) ?_; clear ha a; rintro v634 w635 ⟨rfl, hx636⟩ a ha
              replace hB547 := hB547.ext hx636
              have hE637 := Ext.trans hE551 hx636
              refine op_g ha rfl (g_not rfl) ?_; clear ha a; intro a ha; refine wpList_nil ?_; replace ha := ha.sub (σ' := [(1, (.pointer (some ⟨b1, 0, none⟩))), (6, (.int .i64 i311)), (38, va0_0), (39, (.int .i64 (a0_0.length : Int))), (40, (.int .i64 i311)), (45, v498), (46, (.int .i64 (x487.length : Int))), (47, (.int .i64 i549)), (58, (.bool (!x632)))]) ⟨rfl, rfl, rfl, rfl, rfl, rfl, rfl, rfl, rfl, trivial⟩; refine e_then ?_; refine c_cond (¬ (x632 = true)) ha rfl (n_iff (Iff.rfl)) (fun hp638 => ?_) (fun hp638 => ?_)
              · replace hF := if_t hp638 hF
                refine wp_seq ?_; refine wp_region_lit ?_; refine op_g ha rfl (g_assign rfl) ?_; clear ha a; intro a ha; refine wpList_nil ?_; replace ha := ha.sub (σ' := [(2, (.bool false))]) ⟨rfl, trivial⟩; refine e_then ?_; refine wp_ret ?_; refine e_blk_ret ?_; refine e_then_ret ?_; refine e_lq_ret ?_; refine e_blk_ret ?_; refine e_then_ret ?_; refine e_lq_ret ?_; refine e_then_ret ?_; obtain rfl := Option.some.inj hF
                have e639 := LK_inr hN602; subst e639
                have e640 := BK_inr hK598; subst e640
                have e641 := LK_inr hN483; subst e641
                have e642 := BK_inr hK479; subst e642
                exact f_ret1 ha rfl rfl ⟨rfl, hE637⟩
              replace hF := if_f hp638 hF; refine wp_skip ?_; refine e_blk ?_; refine e_then ?_; refine wp_region_lit ?_; obtain ⟨hI643, hF⟩ := ck_some hF; refine op_g ha rfl (g_add rfl rfl hI643) ?_; clear ha a; intro a ha; refine op_g ha rfl (g_move rfl) ?_; clear ha a; intro a ha; refine wpList_nil ?_; replace ha := ha.sub (σ' := [(1, (.pointer (some ⟨b1, 0, none⟩))), (6, (.int .i64 i311)), (38, va0_0), (39, (.int .i64 (a0_0.length : Int))), (40, (.int .i64 i311)), (45, v498), (46, (.int .i64 (x487.length : Int))), (47, (.int .i64 (i549 + 1)))]) ⟨rfl, rfl, rfl, rfl, rfl, rfl, rfl, rfl, trivial⟩
              refine e_lq ?_; obtain rfl := Option.some.inj hF
              exact ⟨_, Nat.lt_succ_self _, i549 + 1, ha.sub ⟨rfl, rfl, rfl, rfl, rfl, rfl, rfl, rfl, trivial⟩, hE637, hI643, hB547, z548, hN602⟩
            replace hF := if_f hp605 hF; refine wp_exit ?_; refine e_then_exit ?_; refine e_lq_eq ?_; obtain rfl := Option.some.inj hF
            exact ⟨ha.sub ⟨rfl, rfl, rfl, rfl, trivial⟩, hE551, hB547, z548, (LK_inr hN602).symm⟩
        rintro a w593 ⟨ha, hE601, hB594, z595, rfl⟩
        have hF : F_impl_GraphOk_k5 i311 = some _ := hK598; clear hK598; unfold F_impl_GraphOk_k5 at hF
        refine e_blk ?_; refine e_then ?_; refine wp_region_lit ?_; obtain ⟨hI645, hF⟩ := ck_some hF; refine op_g ha rfl (g_add rfl rfl hI645) ?_; clear ha a; intro a ha; refine op_g ha rfl (g_move rfl) ?_; clear ha a; intro a ha; refine wpList_nil ?_; replace ha := ha.sub (σ' := [(1, (.pointer (some ⟨b1, 0, none⟩))), (38, va0_0), (39, (.int .i64 (a0_0.length : Int))), (40, (.int .i64 (i311 + 1)))]) ⟨rfl, rfl, rfl, rfl, trivial⟩; refine e_lq ?_; obtain rfl := Option.some.inj hF
        exact ⟨_, Nat.lt_succ_self _, i311 + 1, ha.sub ⟨rfl, rfl, rfl, rfl, trivial⟩, hE601, hI645, hB594, z595, hN483⟩
      replace hF := if_f hp486 hF; refine wp_exit ?_; refine e_then_exit ?_; refine e_lq_eq ?_; obtain rfl := Option.some.inj hF
      exact ⟨ha.sub trivial, hE313, (LK_inr hN483).symm⟩
  rintro a w476 ⟨ha, hE482, rfl⟩
  have hF : F_impl_GraphOk_k6 = some _ := hK479; clear hK479; unfold F_impl_GraphOk_k6 at hF
  refine e_then ?_; refine wp_seq ?_; refine wp_region_lit ?_; refine op_g ha rfl (g_assign rfl) ?_; clear ha a; intro a ha; refine wpList_nil ?_; refine e_then ?_; refine wp_ret ?_; obtain rfl := Option.some.inj hF
  exact f_ret1 ha rfl rfl ⟨rfl, hE482⟩
set_option maxHeartbeats 2000000 in
theorem W_impl_one {W : World} {a0 : Int} (ha0 : InI a0) {r : (BitVec 32)} (hF : F_impl_one a0 = some r) :
    Calls Tryd.prog 33 [.int .i64 a0].toArray W (Ret fun u w' => u = .int .u32 (BitVec.toNat r : Int) ∧ Ext W w') := by
  refine f_enter Tryd.func33 rfl Tryd.ntmps33 rfl ?_
  intro a ha
  replace ha : Fr 5 [(0, (.int .i64 a0))] a := ha
  have hE : Chg [] W W := Chg.refl _ _
  unfold F_impl_one at hF
  refine wp_seq ?_; refine wp_region_lit ?_; refine op_g ha rfl (g_assign rfl) ?_; clear ha a; intro a ha; refine wpList_nil ?_; replace ha := ha.sub (σ' := [(0, (.int .i64 a0))]) ⟨rfl, trivial⟩; refine e_then ?_; refine wp_seq ?_; refine wp_region_lit ?_; refine op_g ha rfl (g_move rfl) ?_; clear ha a; intro a ha; obtain ⟨hs1, hF⟩ := grd_some hF; refine op_g ha rfl (g32_shl (m := (1#32)) rfl rfl hs1) ?_; clear ha a; intro a ha; refine op_g ha rfl (g_assign rfl) ?_; clear ha a; intro a ha; refine wpList_nil ?_; replace ha := ha.sub (σ' := [(2, (.int .u32 (BitVec.toNat ((1#32) <<< (a0 : Int).toNat) : Int)))]) ⟨rfl, trivial⟩
  refine e_then ?_; refine wp_ret ?_; obtain rfl := Option.some.inj hF
  exact f_ret1 ha rfl rfl ⟨rfl, hE⟩
set_option maxHeartbeats 2000000 in
theorem W_impl_maskOf {W : World} {va0 : Value} {fa0 : List Nat} {a0 : (List Int)} (ha0 : Ro Rp.int W fa0 va0 a0) {r : (BitVec 32)} (hF : F_impl_maskOf a0 = some r) :
    Calls Tryd.prog 38 [va0].toArray W (Ret fun u w' => u = .int .u32 (BitVec.toNat r : Int) ∧ Ext W w') := by
  refine f_enter Tryd.func38 rfl Tryd.ntmps38 rfl ?_
  intro a ha
  replace ha : Fr 18 [(0, va0)] a := ha
  have hE : Chg [] W W := Chg.refl _ _
  unfold F_impl_maskOf at hF
  refine wp_seq ?_; refine wp_region_lit ?_; refine op_g ha rfl (g_assign rfl) ?_; clear ha a; intro a ha; refine wpList_nil ?_; replace ha := ha.sub (σ' := [(0, va0)]) ⟨rfl, trivial⟩; refine e_then ?_; refine wp_seq ?_; refine wp_region_lit ?_; refine op_g ha rfl (g_assign rfl) ?_; clear ha a; intro a ha; refine wpList_nil ?_; refine e_then ?_; refine wp_seq ?_; refine wp_seq ?_; refine wp_region_lit ?_; refine op_g ha rfl (g_move rfl) ?_; clear ha a; intro a ha; refine op_g ha rfl (g_lenR sl35.und ha0 rfl) ?_; clear ha a; intro a ha; refine op_g ha rfl (g_move rfl) ?_; clear ha a; intro a ha
  refine wpList_nil ?_; replace ha := ha.sub (σ' := [(3, (.int .u32 (BitVec.toNat (0#32) : Int))), (6, va0), (7, (.int .i64 (a0.length : Int))), (8, (.int .i64 0))]) ⟨rfl, rfl, rfl, rfl, trivial⟩; refine e_then ?_; obtain ⟨o60, ho61, hK62⟩ := bnd_some hF
  obtain ⟨n63, hn64⟩ := lp_some ho61; clear ho61
  refine c_loop (fun a w => ∃ (u59 : BitVec 32), Fr 18 [(3, (.int .u32 (BitVec.toNat u59 : Int)))] a ∧ Chg [] W w ∧ o60 = .inl u59) (fun n a w => ∃ (u29 : BitVec 32) (i30 : Int), Fr 18 [(3, (.int .u32 (BitVec.toNat u29 : Int))), (6, va0), (7, (.int .i64 (a0.length : Int))), (8, (.int .i64 i30))] a ∧ Chg [] W w ∧ InI i30 ∧ lpN (fun s => F_impl_maskOf_l1 a0 s.1 s.2) n (u29, i30) = some o60) n63 ⟨0#32, 0, ha.sub ⟨rfl, rfl, rfl, rfl, trivial⟩, hE, (show InI 0 from by decide), hn64⟩ ?_ ?_
  · rintro m68 a w28 ⟨u29, i30, ha, hE32, hI31, hF⟩
    cases m68 with
    | zero => exact (lpN_zero hF).elim
    | succ m68 =>
      obtain ⟨z67, hF, hN66⟩ := lpN_succ hF
      have hF : F_impl_maskOf_l1 a0 u29 i30 = some z67 := hF; unfold F_impl_maskOf_l1 at hF
      refine wp_seq ?_; refine wp_region_lit ?_; refine op_g ha rfl (g_lss rfl rfl) ?_; clear ha a; intro a ha; refine wpList_nil ?_; replace ha := ha.sub (σ' := [(3, (.int .u32 (BitVec.toNat u29 : Int))), (6, va0), (7, (.int .i64 (a0.length : Int))), (8, (.int .i64 i30)), (9, (.bool (decide (i30 < (a0.length : Int)))))]) ⟨rfl, rfl, rfl, rfl, rfl, trivial⟩; refine e_then ?_; refine wp_seq ?_; refine c_cond (i30 < (a0.length : Int)) ha rfl (decide_eq_true_iff) (fun hp69 => ?_) (fun hp69 => ?_)
      · replace hF := if_t hp69 hF
        refine wp_skip ?_; refine e_then ?_; refine wp_seq ?_; refine wp_block ?_; refine wp_seq ?_; refine wp_region_lit ?_; obtain ⟨x70, g71, gx72, hF⟩ := idx_some hF
        obtain ⟨p73, cs74, f75, hf76, hpb77, hat78, hr79, hi80⟩ := ha0.at g71 gx72
        obtain ⟨rfl, hI81, rfl⟩ := hr79
        refine op_g ha rfl (hi80.gives sl35 rfl rfl) ?_; clear ha a; intro a ha; refine op_g ha rfl (g_load0 hE32 Tryd.isAgg2 rfl hat78.one) ?_; clear ha a; intro a ha; refine op_g ha rfl (g_assign rfl) ?_; clear ha a; intro a ha; refine wpList_nil ?_; replace ha := ha.sub (σ' := [(3, (.int .u32 (BitVec.toNat u29 : Int))), (5, (.int .i64 x70)), (6, va0), (7, (.int .i64 (a0.length : Int))), (8, (.int .i64 i30))]) ⟨rfl, rfl, rfl, rfl, rfl, trivial⟩; refine e_then ?_; refine wp_region_lit ?_; (iterate 2 refine op_g ha rfl (g_move rfl) ?_; clear ha a; intro a ha); obtain ⟨x82, hc83, hF⟩ := cal_some hF
        refine o_call ha rfl rfl Tryd.call33 (W_impl_one hI81 hc83) ?_; clear ha a; rintro v84 w85 ⟨rfl, hx86⟩ a ha
        have hE87 := Ext.trans hE32 hx86
        refine op_g ha rfl (g32_or (m := u29) (n := x82) rfl rfl) ?_; clear ha a; intro a ha; refine op_g ha rfl (g_assign rfl) ?_; clear ha a; intro a ha; refine wpList_nil ?_; replace ha := ha.sub (σ' := [(3, (.int .u32 (BitVec.toNat (u29 ||| x82) : Int))), (6, va0), (7, (.int .i64 (a0.length : Int))), (8, (.int .i64 i30))]) ⟨rfl, rfl, rfl, rfl, trivial⟩; refine e_blk ?_; refine e_then ?_; refine wp_region_lit ?_; obtain ⟨hI88, hF⟩ := ck_some hF; refine op_g ha rfl (g_add rfl rfl hI88) ?_; clear ha a; intro a ha; refine op_g ha rfl (g_move rfl) ?_; clear ha a; intro a ha; refine wpList_nil ?_
        replace ha := ha.sub (σ' := [(3, (.int .u32 (BitVec.toNat (u29 ||| x82) : Int))), (6, va0), (7, (.int .i64 (a0.length : Int))), (8, (.int .i64 (i30 + 1)))]) ⟨rfl, rfl, rfl, rfl, trivial⟩; refine e_lq ?_; obtain rfl := Option.some.inj hF
        exact ⟨_, Nat.lt_succ_self _, u29 ||| x82, i30 + 1, ha.sub ⟨rfl, rfl, rfl, rfl, trivial⟩, hE87, hI88, hN66⟩
      replace hF := if_f hp69 hF; refine wp_exit ?_; refine e_then_exit ?_; refine e_lq_eq ?_; obtain rfl := Option.some.inj hF
      exact ⟨u29, ha.sub ⟨rfl, trivial⟩, hE32, (LK_inr hN66).symm⟩
  rintro a w58 ⟨u59, ha, hE65, rfl⟩
  have hF : F_impl_maskOf_k2 u59 = some _ := hK62; clear hK62; unfold F_impl_maskOf_k2 at hF
  refine e_then ?_; refine wp_seq ?_; refine wp_region_lit ?_; refine op_g ha rfl (g_move rfl) ?_; clear ha a; intro a ha; refine op_g ha rfl (g_assign rfl) ?_; clear ha a; intro a ha; refine wpList_nil ?_; replace ha := ha.sub (σ' := [(2, (.int .u32 (BitVec.toNat u59 : Int)))]) ⟨rfl, trivial⟩; refine e_then ?_; refine wp_ret ?_; obtain rfl := Option.some.inj hF
  exact f_ret1 ha rfl rfl ⟨rfl, hE65⟩
set_option maxHeartbeats 2000000 in
theorem W_impl_netsOf {W : World} {va0_0 : Value} {fa0_0 : List Nat} {a0_0 : (List (List Int))} (ha0_0 : Ro (Rp.sl 2 Rp.int) W fa0_0 va0_0 a0_0) {r : (List (BitVec 32))} (hF : F_impl_netsOf a0_0 = some r) :
    Calls Tryd.prog 30 [.agg #[va0_0]].toArray W (Ret fun u w' => ∃ (b_u : Int), Ow Rp.u32 49 true w' [] b_u u r ∧ Zn W b_u ∧ Ext W w') := by
  refine f_enter Tryd.func30 rfl Tryd.ntmps30 rfl ?_
  intro a ha
  replace ha : Fr 21 [(0, (.agg #[va0_0]))] a := ha
  have hE : Chg [] W W := Chg.refl _ _
  unfold F_impl_netsOf at hF
  refine wp_seq ?_; refine wp_region_lit ?_
  refine o_box ha rfl rfl rfl ?_; clear ha a; intro b1 w2 hB3 hx4 hlo5 a ha
  have q6 := Zn.one hlo5
  have q7 := Zn.upD q6 hE
  have hE8 := Ext.trans hE hx4
  refine op_g ha rfl (g_assign rfl) ?_; clear ha a; intro a ha; refine wpList_nil ?_; replace ha := ha.sub (σ' := [(1, (.pointer (some ⟨b1, 0, none⟩)))]) ⟨rfl, trivial⟩; refine e_then ?_; refine wp_seq ?_; refine wp_region_lit ?_
  refine o_lit0 Rp.u32 ha rfl sl45 ?_; clear ha a; intro v9 w10 h11 hx12 a ha
  obtain ⟨b14, hb14⟩ : ∃ b : Int, b = w2.heap.size := ⟨_, rfl⟩; rw [← hb14] at h11
  have q15 := zn_of hb14
  have q16 := Nq.new hB3.fpb q15
  have q17 := Nq.madeO q15 hB3.bi
  have q18 := Zn.upD q15 hE8
  replace hB3 := hB3.ext hx12
  have hE19 := Ext.trans hE8 hx12
  refine op_g ha rfl (g_assign rfl) ?_; clear ha a; intro a ha; refine wpList_nil ?_; replace ha := ha.sub (σ' := [(1, (.pointer (some ⟨b1, 0, none⟩))), (3, v9)]) ⟨rfl, rfl, trivial⟩; refine e_then ?_; refine wp_seq ?_; refine wp_seq ?_; refine wp_region_lit ?_; refine op_g ha rfl (g_field0 st27_0 rfl) ?_; clear ha a; intro a ha; refine op_g ha rfl (g_load Tryd.isAgg22 rfl (hB3.cell rfl)) ?_; clear ha a; intro a ha; refine op_g ha rfl (g_lenR sl22.und ha0_0 rfl) ?_; clear ha a; intro a ha; refine op_g ha rfl (g_move rfl) ?_; clear ha a; intro a ha; refine wpList_nil ?_; replace ha := ha.sub (σ' := [(3, v9), (8, va0_0), (9, (.int .i64 (a0_0.length : Int))), (10, (.int .i64 0))]) ⟨rfl, rfl, rfl, rfl, trivial⟩
  refine e_then ?_; obtain ⟨o152, ho153, hK154⟩ := bnd_some hF
  obtain ⟨n155, hn156⟩ := lp_some ho153; clear ho153
  refine c_loop (fun a w => ∃ (l149 : (List (BitVec 32))) (v150 : Value) (b151 : Int), Fr 21 [(3, v150)] a ∧ Chg [] W w ∧ Ow Rp.u32 49 true w [] b151 v150 l149 ∧ Zn W b151 ∧ o152 = .inl l149) (fun n a w => ∃ (l84 : (List (BitVec 32))) (i87 : Int) (v85 : Value) (b86 : Int), Fr 21 [(3, v85), (8, va0_0), (9, (.int .i64 (a0_0.length : Int))), (10, (.int .i64 i87))] a ∧ Chg [] W w ∧ InI i87 ∧ Ow Rp.u32 49 true w [] b86 v85 l84 ∧ Zn W b86 ∧ lpN (fun s => F_impl_netsOf_l1 a0_0 s.1 s.2) n (l84, i87) = some o152) n155 ⟨([] : (List (BitVec 32))), 0, v9, b14, ha.sub ⟨rfl, rfl, rfl, rfl, trivial⟩, hE19, (show InI 0 from by decide), h11, q18, hn156⟩ ?_ ?_
  · rintro m160 a w80 ⟨l84, i87, v85, b86, ha, hE89, hI88, h82, z83, hF⟩
    cases m160 with
    | zero => exact (lpN_zero hF).elim
    | succ m160 =>
      obtain ⟨z159, hF, hN158⟩ := lpN_succ hF
      have hF : F_impl_netsOf_l1 a0_0 l84 i87 = some z159 := hF; unfold F_impl_netsOf_l1 at hF
      refine wp_seq ?_; refine wp_region_lit ?_; refine op_g ha rfl (g_lss rfl rfl) ?_; clear ha a; intro a ha; refine wpList_nil ?_; replace ha := ha.sub (σ' := [(3, v85), (8, va0_0), (9, (.int .i64 (a0_0.length : Int))), (10, (.int .i64 i87)), (11, (.bool (decide (i87 < (a0_0.length : Int)))))]) ⟨rfl, rfl, rfl, rfl, rfl, trivial⟩; refine e_then ?_; refine wp_seq ?_; refine c_cond (i87 < (a0_0.length : Int)) ha rfl (decide_eq_true_iff) (fun hp161 => ?_) (fun hp161 => ?_)
      · replace hF := if_t hp161 hF
        refine wp_skip ?_; refine e_then ?_; refine wp_seq ?_; refine wp_block ?_; refine wp_seq ?_; refine wp_region_lit ?_; obtain ⟨x162, g163, gx164, hF⟩ := idx_some hF
        obtain ⟨p165, cs166, f167, hf168, hpb169, hat170, hr171, hi172⟩ := ha0_0.at g163 gx164
        obtain ⟨v173, rfl, h174⟩ := hr171
        have h174 : Ro Rp.int W f167 v173 x162 := h174
        refine op_g ha rfl (hi172.gives sl22 rfl rfl) ?_; clear ha a; intro a ha; refine op_g ha rfl (g_load0 hE89 Tryd.isAgg35 rfl hat170.one) ?_; clear ha a; intro a ha; refine op_g ha rfl (g_assign rfl) ?_; clear ha a; intro a ha; refine wpList_nil ?_; replace ha := ha.sub (σ' := [(3, v85), (5, v173), (8, va0_0), (9, (.int .i64 (a0_0.length : Int))), (10, (.int .i64 i87))]) ⟨rfl, rfl, rfl, rfl, rfl, trivial⟩; refine e_then ?_; refine wp_region_lit ?_; (iterate 2 refine op_g ha rfl (g_move rfl) ?_; clear ha a; intro a ha); obtain ⟨x176, hc177, hF⟩ := cal_some hF
        refine o_call ha rfl rfl Tryd.call38 (W_impl_maskOf (h174.ext hE89) hc177) ?_; clear ha a; rintro v178 w179 ⟨rfl, hx180⟩ a ha
        replace h82 := h82.ext hx180
        have hE181 := Ext.trans hE89 hx180
        refine o_lit1 (o := true) (y := x176) Rp.u32 ha rfl sl45 rfl rfl rfl ⟨rfl, rfl⟩ ?_; clear ha a; intro v182 w183 h184 hx185 a ha
        obtain ⟨b187, hb187⟩ : ∃ b : Int, b = w179.heap.size := ⟨_, rfl⟩; rw [← hb187] at h184
        have q188 := zn_of hb187
        have q189 := Nq.new h82.fpb q188
        have q190 := Nq.madeO q188 h82.blt
        have q191 := Zn.upD q188 hE181
        replace h82 := h82.ext hx185
        have hE192 := Ext.trans hE181 hx185
        obtain ⟨hl193, hF⟩ := app_some hF
        refine o_append ha rfl sl45 rfl rfl rfl h82 h184.src (Nq.nil _) hl193 ?_; clear ha a; intro v194 w195 b196 h197 hc198 hb199 a ha
        replace h197 : Ow Rp.u32 49 true w195 [] b196 v194 _ := h197
        have q201 := Nq.appY q190 h184.fpb hb199
        have q202 := Nq.appX q189 (Nq.nil _) hb199 h184.blt
        have q203 := Zn.appD z83 hb199 hE192
        replace h184 := h184.nq hc198 q190
        have hE204 := Ext.then hE192 hc198 (Zn.bl z83)
        refine op_g ha rfl (g_assign rfl) ?_; clear ha a; intro a ha; refine wpList_nil ?_; replace ha := ha.sub (σ' := [(3, v194), (8, va0_0), (9, (.int .i64 (a0_0.length : Int))), (10, (.int .i64 i87))]) ⟨rfl, rfl, rfl, rfl, trivial⟩; refine e_blk ?_; refine e_then ?_; refine wp_region_lit ?_; obtain ⟨hI205, hF⟩ := ck_some hF; refine op_g ha rfl (g_add rfl rfl hI205) ?_; clear ha a; intro a ha; refine op_g ha rfl (g_move rfl) ?_; clear ha a; intro a ha; refine wpList_nil ?_; replace ha := ha.sub (σ' := [(3, v194), (8, va0_0), (9, (.int .i64 (a0_0.length : Int))), (10, (.int .i64 (i87 + 1)))]) ⟨rfl, rfl, rfl, rfl, trivial⟩
        refine e_lq ?_; obtain rfl := Option.some.inj hF
        exact ⟨_, Nat.lt_succ_self _, (l84 ++ ([x176])), i87 + 1, v194, b196, ha.sub ⟨rfl, rfl, rfl, rfl, trivial⟩, hE204, hI205, h197, q203, hN158⟩
      replace hF := if_f hp161 hF; refine wp_exit ?_; refine e_then_exit ?_; refine e_lq_eq ?_; obtain rfl := Option.some.inj hF
      exact ⟨l84, v85, b86, ha.sub ⟨rfl, trivial⟩, hE89, h82, z83, (LK_inr hN158).symm⟩
  rintro a w145 ⟨l149, v150, b151, ha, hE157, h147, z148, rfl⟩
  have hF : F_impl_netsOf_k2 l149 = some _ := hK154; clear hK154; unfold F_impl_netsOf_k2 at hF
  refine e_then ?_; refine wp_seq ?_; refine wp_region_lit ?_; refine op_g ha rfl (g_move rfl) ?_; clear ha a; intro a ha; refine op_g ha rfl (g_assign rfl) ?_; clear ha a; intro a ha; refine wpList_nil ?_; replace ha := ha.sub (σ' := [(2, v150)]) ⟨rfl, trivial⟩; refine e_then ?_; refine wp_ret ?_; obtain rfl := Option.some.inj hF
  exact f_ret1 ha rfl rfl ⟨_, h147, z148, hE157⟩
set_option maxHeartbeats 2000000 in
theorem W_impl_firstOf {W : World} {a0 : Int} (ha0 : InI a0) {r : (BitVec 32)} (hF : F_impl_firstOf a0 = some r) :
    Calls Tryd.prog 39 [.int .i64 a0].toArray W (Ret fun u w' => u = .int .u32 (BitVec.toNat r : Int) ∧ Ext W w') := by
  refine f_enter Tryd.func39 rfl Tryd.ntmps39 rfl ?_
  intro a ha
  replace ha : Fr 6 [(0, (.int .i64 a0))] a := ha
  have hE : Chg [] W W := Chg.refl _ _
  unfold F_impl_firstOf at hF
  refine wp_seq ?_; refine wp_region_lit ?_; refine op_g ha rfl (g_assign rfl) ?_; clear ha a; intro a ha; refine wpList_nil ?_; replace ha := ha.sub (σ' := [(0, (.int .i64 a0))]) ⟨rfl, trivial⟩; refine e_then ?_; refine wp_seq ?_; refine wp_region_lit ?_; refine op_g ha rfl (g_move rfl) ?_; clear ha a; intro a ha; obtain ⟨hs1, hF⟩ := grd_some hF; refine op_g ha rfl (g32_shl (m := (1#32)) rfl rfl hs1) ?_; clear ha a; intro a ha; refine op_g ha rfl (g32_sub (m := ((1#32) <<< (a0 : Int).toNat)) (n := (1#32)) rfl rfl) ?_; clear ha a; intro a ha; refine op_g ha rfl (g_assign rfl) ?_; clear ha a; intro a ha
  refine wpList_nil ?_; replace ha := ha.sub (σ' := [(2, (.int .u32 (BitVec.toNat (((1#32) <<< (a0 : Int).toNat) - (1#32)) : Int)))]) ⟨rfl, trivial⟩; refine e_then ?_; refine wp_ret ?_; obtain rfl := Option.some.inj hF
  exact f_ret1 ha rfl rfl ⟨rfl, hE⟩
set_option maxHeartbeats 2000000 in
theorem W_impl_nets_all {W : World} {va0 : Value} {fa0 : List Nat} {a0 : (List (BitVec 32))} (ha0 : Ro Rp.u32 W fa0 va0 a0) {r : (BitVec 32)} (hF : F_impl_nets_all a0 = some r) :
    Calls Tryd.prog 31 [va0].toArray W (Ret fun u w' => u = .int .u32 (BitVec.toNat r : Int) ∧ Ext W w') := by
  refine f_enter Tryd.func31 rfl Tryd.ntmps31 rfl ?_
  intro a ha
  replace ha : Fr 6 [(0, va0)] a := ha
  have hE : Chg [] W W := Chg.refl _ _
  unfold F_impl_nets_all at hF
  refine wp_seq ?_; refine wp_region_lit ?_; refine op_g ha rfl (g_assign rfl) ?_; clear ha a; intro a ha; refine wpList_nil ?_; replace ha := ha.sub (σ' := [(0, va0)]) ⟨rfl, trivial⟩; refine e_then ?_; refine wp_seq ?_; refine wp_region_lit ?_; refine op_g ha rfl (g_move rfl) ?_; clear ha a; intro a ha; refine op_g ha rfl (g_lenR sl45.und ha0 rfl) ?_; clear ha a; intro a ha; obtain ⟨x1, hc2, hF⟩ := cal_some hF
  refine o_call ha rfl rfl Tryd.call39 (W_impl_firstOf ha0.len hc2) ?_; clear ha a; rintro v3 w4 ⟨rfl, hx5⟩ a ha
  have hE6 := Ext.trans hE hx5
  refine op_g ha rfl (g_assign rfl) ?_; clear ha a; intro a ha; refine wpList_nil ?_; replace ha := ha.sub (σ' := [(2, (.int .u32 (BitVec.toNat x1 : Int)))]) ⟨rfl, trivial⟩; refine e_then ?_; refine wp_ret ?_; obtain rfl := Option.some.inj hF
  exact f_ret1 ha rfl rfl ⟨rfl, hE6⟩
set_option maxHeartbeats 2000000 in
theorem W_math_bits_TrailingZeros32 {W : World} {a0 : BitVec 32} (hG : GT 0 W) {r : Int} (hF : F_math_bits_TrailingZeros32 a0 = some r) :
    Calls Tryd.prog 59 [.int .u32 (BitVec.toNat a0 : Int)].toArray W (Ret fun u w' => (u = .int .i64 r ∧ InI r) ∧ Ext W w') := by
  refine f_enter Tryd.func59 rfl Tryd.ntmps59 rfl ?_
  intro a ha
  replace ha : Fr 14 [(0, (.int .u32 (BitVec.toNat a0 : Int)))] a := ha
  have hE : Chg [] W W := Chg.refl _ _
  unfold F_math_bits_TrailingZeros32 at hF
  refine wp_seq ?_; refine wp_region_lit ?_; refine op_g ha rfl (g_assign rfl) ?_; clear ha a; intro a ha; refine wpList_nil ?_; replace ha := ha.sub (σ' := [(0, (.int .u32 (BitVec.toNat a0 : Int)))]) ⟨rfl, trivial⟩; refine e_then ?_; refine wp_seq ?_; refine wp_seq ?_; refine wp_region_lit ?_; refine op_g ha rfl (g_move rfl) ?_; clear ha a; intro a ha; refine op_g ha rfl (g32_eql (m := a0) (n := (0#32)) rfl rfl) ?_; clear ha a; intro a ha; refine wpList_nil ?_; replace ha := ha.sub (σ' := [(0, (.int .u32 (BitVec.toNat a0 : Int))), (4, (.bool (decide (a0 = (0#32)))))]) ⟨rfl, rfl, trivial⟩; refine e_then ?_
  refine c_cond (a0 = (0#32)) ha rfl (decide_eq_true_iff) (fun hp1 => ?_) (fun hp1 => ?_)
  · replace hF := if_t hp1 hF
    refine wp_seq ?_; refine wp_region_lit ?_; refine op_g ha rfl (g_assign rfl) ?_; clear ha a; intro a ha; refine wpList_nil ?_; replace ha := ha.sub (σ' := [(2, (.int .i64 32))]) ⟨rfl, trivial⟩; refine e_then ?_; refine wp_ret ?_; refine e_then_ret ?_; obtain rfl := Option.some.inj hF
    exact f_ret1 ha rfl rfl ⟨⟨rfl, (show InI 32 from by decide)⟩, hE⟩
  replace hF := if_f hp1 hF; refine wp_skip ?_; refine e_then ?_; refine wp_seq ?_; refine wp_region_lit ?_; (iterate 2 refine op_g ha rfl (g_move rfl) ?_; clear ha a; intro a ha); refine op_g ha rfl (g32_neg (m := a0) rfl) ?_; clear ha a; intro a ha; refine op_g ha rfl (g32_and (m := a0) (n := (-a0)) rfl rfl) ?_; clear ha a; intro a ha; refine op_g ha rfl (g32_mul (m := (a0 &&& (-a0))) (n := (125613361#32)) rfl rfl) ?_; clear ha a; intro a ha; refine op_g ha rfl (g32_shr (m := ((a0 &&& (-a0)) * (125613361#32))) rfl rfl (show InU 27 from by decide).1) ?_; clear ha a; intro a ha; obtain ⟨x2, g3, gx4, hF⟩ := idx_some hF
  refine op_g ha rfl (g_idxG un75 Tryd.sizeOf5 rfl g3 (idx_lt g3 gx4 (by decide))) ?_; clear ha a; intro a ha; refine op_g ha rfl (g_load Tryd.isAgg5 rfl (Tab.cell (hG.ext hE) gx4)) ?_; clear ha a; intro a ha; refine op_g ha rfl (g_conv8 (m := x2) un5 un3 rfl) ?_; clear ha a; intro a ha; refine op_g ha rfl (g_assign rfl) ?_; clear ha a; intro a ha; refine wpList_nil ?_; replace ha := ha.sub (σ' := [(2, (.int .i64 (BitVec.toNat x2 : Int)))]) ⟨rfl, trivial⟩; refine e_then ?_; refine wp_ret ?_; obtain rfl := Option.some.inj hF
  exact f_ret1 ha rfl rfl ⟨⟨rfl, (in_u8 _)⟩, hE⟩
set_option maxHeartbeats 2000000 in
theorem W_impl_vset_least {W : World} {a0 : BitVec 32} (hG : GT 0 W) {r : Int} (hF : F_impl_vset_least a0 = some r) :
    Calls Tryd.prog 52 [.int .u32 (BitVec.toNat a0 : Int)].toArray W (Ret fun u w' => (u = .int .i64 r ∧ InI r) ∧ Ext W w') := by
  refine f_enter Tryd.func52 rfl Tryd.ntmps52 rfl ?_
  intro a ha
  replace ha : Fr 5 [(0, (.int .u32 (BitVec.toNat a0 : Int)))] a := ha
  have hE : Chg [] W W := Chg.refl _ _
  unfold F_impl_vset_least at hF
  refine wp_seq ?_; refine wp_region_lit ?_; refine op_g ha rfl (g_assign rfl) ?_; clear ha a; intro a ha; refine wpList_nil ?_; replace ha := ha.sub (σ' := [(0, (.int .u32 (BitVec.toNat a0 : Int)))]) ⟨rfl, trivial⟩; refine e_then ?_; refine wp_seq ?_; refine wp_region_lit ?_; refine op_g ha rfl (g_move rfl) ?_; clear ha a; intro a ha; obtain ⟨x1, hc2, hF⟩ := cal_some hF
  refine o_call ha rfl rfl Tryd.call59 (W_math_bits_TrailingZeros32 (hG.ext hE) hc2) ?_; clear ha a; rintro v3 w4 ⟨⟨rfl, hI6⟩, hx5⟩ a ha
  have hE7 := Ext.trans hE hx5
  refine op_g ha rfl (g_assign rfl) ?_; clear ha a; intro a ha; refine wpList_nil ?_; replace ha := ha.sub (σ' := [(2, (.int .i64 x1))]) ⟨rfl, trivial⟩; refine e_then ?_; refine wp_ret ?_; obtain rfl := Option.some.inj hF
  exact f_ret1 ha rfl rfl ⟨⟨rfl, hI6⟩, hE7⟩
set_option maxHeartbeats 2000000 in
theorem W_impl_vset_list {W : World} {a0 : BitVec 32} (hG : GT 0 W) {r : (List Int)} (hF : F_impl_vset_list a0 = some r) :
    Calls Tryd.prog 32 [.int .u32 (BitVec.toNat a0 : Int)].toArray W (Ret fun u w' => ∃ (b_u : Int), Ow Rp.int 3 true w' [] b_u u r ∧ Zn W b_u ∧ Ext W w') := by
  refine f_enter Tryd.func32 rfl Tryd.ntmps32 rfl ?_
  intro a ha
  replace ha : Fr 17 [(0, (.int .u32 (BitVec.toNat a0 : Int)))] a := ha
  have hE : Chg [] W W := Chg.refl _ _
  unfold F_impl_vset_list at hF
  refine wp_seq ?_; refine wp_region_lit ?_; refine op_g ha rfl (g_assign rfl) ?_; clear ha a; intro a ha; refine wpList_nil ?_; replace ha := ha.sub (σ' := [(0, (.int .u32 (BitVec.toNat a0 : Int)))]) ⟨rfl, trivial⟩; refine e_then ?_; refine wp_seq ?_; refine wp_region_lit ?_
  refine o_lit0 Rp.int ha rfl sl52 ?_; clear ha a; intro v1 w2 h3 hx4 a ha
  obtain ⟨b6, hb6⟩ : ∃ b : Int, b = W.heap.size := ⟨_, rfl⟩; rw [← hb6] at h3
  have q7 := zn_of hb6
  have q8 := Zn.upD q7 hE
  have hE9 := Ext.trans hE hx4
  refine op_g ha rfl (g_assign rfl) ?_; clear ha a; intro a ha; refine wpList_nil ?_; replace ha := ha.sub (σ' := [(0, (.int .u32 (BitVec.toNat a0 : Int))), (3, v1)]) ⟨rfl, rfl, trivial⟩; refine e_then ?_; refine wp_seq ?_; obtain ⟨o109, ho110, hK111⟩ := bnd_some hF
  obtain ⟨n112, hn113⟩ := lp_some ho110; clear ho110
  refine c_loop (fun a w => ∃ (l106 : (List Int)) (v107 : Value) (b108 : Int), Fr 17 [(3, v107)] a ∧ Chg [] W w ∧ Ow Rp.int 3 true w [] b108 v107 l106 ∧ Zn W b108 ∧ o109 = .inl l106) (fun n a w => ∃ (u55 : BitVec 32) (l59 : (List Int)) (v60 : Value) (b61 : Int), Fr 17 [(0, (.int .u32 (BitVec.toNat u55 : Int))), (3, v60)] a ∧ Chg [] W w ∧ Ow Rp.int 3 true w [] b61 v60 l59 ∧ Zn W b61 ∧ lpN (fun s => F_impl_vset_list_l1 s.1 s.2) n (u55, l59) = some o109) n112 ⟨a0, ([] : (List Int)), v1, b6, ha.sub ⟨rfl, rfl, trivial⟩, hE9, h3, q8, hn113⟩ ?_ ?_
  · rintro m117 a w54 ⟨u55, l59, v60, b61, ha, hE62, h57, z58, hF⟩
    cases m117 with
    | zero => exact (lpN_zero hF).elim
    | succ m117 =>
      obtain ⟨z116, hF, hN115⟩ := lpN_succ hF
      have hF : F_impl_vset_list_l1 u55 l59 = some z116 := hF; unfold F_impl_vset_list_l1 at hF
      refine wp_seq ?_; refine wp_seq ?_; refine wp_region_lit ?_; refine op_g ha rfl (g_move rfl) ?_; clear ha a; intro a ha; refine op_g ha rfl (g32_neq (m := u55) (n := (0#32)) rfl rfl) ?_; clear ha a; intro a ha; refine wpList_nil ?_; replace ha := ha.sub (σ' := [(0, (.int .u32 (BitVec.toNat u55 : Int))), (3, v60), (6, (.bool (decide (u55 ≠ (0#32)))))]) ⟨rfl, rfl, rfl, trivial⟩; refine e_then ?_; refine c_cond (u55 ≠ (0#32)) ha rfl (decide_eq_true_iff) (fun hp118 => ?_) (fun hp118 => ?_)
      · replace hF := if_t hp118 hF
        refine wp_skip ?_; refine e_then ?_; refine wp_seq ?_; refine wp_block ?_; refine wp_region_lit ?_; (iterate 2 refine op_g ha rfl (g_move rfl) ?_; clear ha a; intro a ha); obtain ⟨x119, hc120, hF⟩ := cal_some hF
        refine o_call ha rfl rfl Tryd.call52 (W_impl_vset_least (hG.ext hE62) hc120) ?_; clear ha a; rintro v121 w122 ⟨⟨rfl, hI124⟩, hx123⟩ a ha
        replace h57 := h57.ext hx123
        have hE125 := Ext.trans hE62 hx123
        refine o_lit1 (o := true) (y := x119) Rp.int ha rfl sl52 rfl rfl rfl ⟨rfl, hI124, rfl⟩ ?_; clear ha a; intro v126 w127 h128 hx129 a ha
        obtain ⟨b131, hb131⟩ : ∃ b : Int, b = w122.heap.size := ⟨_, rfl⟩; rw [← hb131] at h128
        have q132 := zn_of hb131
        have q133 := Nq.new h57.fpb q132
        have q134 := Nq.madeO q132 h57.blt
        have q135 := Zn.upD q132 hE125
        replace h57 := h57.ext hx129
        have hE136 := Ext.trans hE125 hx129
        obtain ⟨hl137, hF⟩ := app_some hF
        refine o_append ha rfl sl52 rfl rfl rfl h57 h128.src (Nq.nil _) hl137 ?_; clear ha a; intro v138 w139 b140 h141 hc142 hb143 a ha
        replace h141 : Ow Rp.int 3 true w139 [] b140 v138 _ := h141
        have q145 := Nq.appY q134 h128.fpb hb143
        have q146 := Nq.appX q133 (Nq.nil _) hb143 h128.blt
        have q147 := Zn.appD z58 hb143 hE136
        replace h128 := h128.nq hc142 q134
        have hE148 := Ext.then hE136 hc142 (Zn.bl z58)
        refine op_g ha rfl (g_assign rfl) ?_; clear ha a; intro a ha; refine wpList_nil ?_; replace ha := ha.sub (σ' := [(0, (.int .u32 (BitVec.toNat u55 : Int))), (3, v138)]) ⟨rfl, rfl, trivial⟩; refine e_blk ?_; refine e_then ?_; refine wp_region_lit ?_; (iterate 2 refine op_g ha rfl (g_move rfl) ?_; clear ha a; intro a ha); refine op_g ha rfl (g32_sub (m := u55) (n := (1#32)) rfl rfl) ?_; clear ha a; intro a ha; refine op_g ha rfl (g32_and (m := u55) (n := (u55 - (1#32))) rfl rfl) ?_; clear ha a; intro a ha; refine op_g ha rfl (g_assign rfl) ?_; clear ha a; intro a ha; refine wpList_nil ?_; replace ha := ha.sub (σ' := [(0, (.int .u32 (BitVec.toNat (u55 &&& (u55 - (1#32))) : Int))), (3, v138)]) ⟨rfl, rfl, trivial⟩
        refine e_lq ?_; obtain rfl := Option.some.inj hF
        exact ⟨_, Nat.lt_succ_self _, u55 &&& (u55 - (1#32)), (l59 ++ ([x119])), v138, b140, ha.sub ⟨rfl, rfl, trivial⟩, hE148, h141, q147, hN115⟩
      replace hF := if_f hp118 hF; refine wp_exit ?_; refine e_then_exit ?_; refine e_lq_eq ?_; obtain rfl := Option.some.inj hF
      exact ⟨l59, v60, b61, ha.sub ⟨rfl, trivial⟩, hE62, h57, z58, (LK_inr hN115).symm⟩
  rintro a w102 ⟨l106, v107, b108, ha, hE114, h104, z105, rfl⟩
  have hF : F_impl_vset_list_k2 l106 = some _ := hK111; clear hK111; unfold F_impl_vset_list_k2 at hF
  refine e_then ?_; refine wp_seq ?_; refine wp_region_lit ?_; refine op_g ha rfl (g_move rfl) ?_; clear ha a; intro a ha; refine op_g ha rfl (g_assign rfl) ?_; clear ha a; intro a ha; refine wpList_nil ?_; replace ha := ha.sub (σ' := [(2, v107)]) ⟨rfl, trivial⟩; refine e_then ?_; refine wp_ret ?_; obtain rfl := Option.some.inj hF
  exact f_ret1 ha rfl rfl ⟨_, h104, z105, hE114⟩
end Go.Proofs.YthbmcbflnibpbaaDoor
