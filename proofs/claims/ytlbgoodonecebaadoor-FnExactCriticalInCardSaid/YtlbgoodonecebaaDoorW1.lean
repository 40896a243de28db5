/- Walks, printed by gen.py. -/
import Derived.Test.YtlbgoodonecebaaDoorF
import Derived.Test.YtlbgoodonecebaaDoorDeep
import Derived.Test.YtlbgoodonecebaaDoorProg
import Derived.KernelRfl
set_option maxRecDepth 100000
namespace Go.Proofs.YtlbgoodonecebaaDoor
open Go Go.RowKit

theorem hmix : Tryd.prog.follows .mixedOrders = true := by kernel_rfl
theorem st24_0 : stF Tryd.prog 24 0 = some 0 := by kernel_rfl
theorem sl22 : SlT Tryd.prog 22 31 1 24 (.slice none 0 0) := ⟨by kernel_rfl, by kernel_rfl, by rfl⟩
theorem sl31 : SlT Tryd.prog 31 2 1 8 (.int .i64 0) := ⟨by kernel_rfl, by kernel_rfl, by rfl⟩
theorem st27_0 : stF Tryd.prog 27 0 = some 0 := by kernel_rfl
theorem sl55 : SlT Tryd.prog 55 59 1 4 (.int .u32 0) := ⟨by kernel_rfl, by kernel_rfl, by rfl⟩
theorem sl62 : SlT Tryd.prog 62 3 1 8 (.int .i64 0) := ⟨by kernel_rfl, by kernel_rfl, by rfl⟩
theorem un101 : Tryd.prog.underlying 101 = some (.array 32 5) := by kernel_rfl
theorem un5 : Tryd.prog.underlying 5 = some (.int .u8) := by kernel_rfl
theorem un3 : Tryd.prog.underlying 3 = some (.int .i64) := by kernel_rfl
theorem sl54 : SlT Tryd.prog 54 59 1 4 (.int .u32 0) := ⟨by kernel_rfl, by kernel_rfl, by rfl⟩
theorem un4 : Tryd.prog.underlying 4 = some .bool := by kernel_rfl
set_option maxHeartbeats 2000000 in
theorem W_laws_szInt64S {W : World} {va0 : Value} {fa0 : List Nat} {a0 : (List Int)} (ha0 : Ro Rp.int W fa0 va0 a0) {a1 : Int} (ha1 : InI a1) {r : Int} (hF : F_laws_szInt64S a0 a1 = some r) :
    Calls Tryd.prog 67 [va0, .int .i64 a1].toArray W (Ret fun u w' => (u = .int .i64 r ∧ InI r) ∧ Ext W w') := by
  refine f_enter Tryd.func67 rfl Tryd.ntmps67 rfl ?_
  intro a ha
  replace ha : Fr 12 [(0, va0), (1, (.int .i64 a1))] a := ha
  have hE : Chg [] W W := Chg.refl _ _
  unfold F_laws_szInt64S at hF
  refine wp_seq ?_
  refine wp_region_lit ?_
  refine op_g ha rfl (g_assign rfl) ?_; clear ha a; intro a ha
  refine wpList_nil ?_
  replace ha := ha.sub (σ' := [(0, va0), (1, (.int .i64 a1))]) ⟨rfl, rfl, trivial⟩
  refine e_then ?_
  refine wp_seq ?_
  refine wp_region_lit ?_
  refine op_g ha rfl (g_move rfl) ?_; clear ha a; intro a ha
  refine op_g ha rfl (g_move rfl) ?_; clear ha a; intro a ha
  refine op_g ha rfl (g_lenR sl31.und ha0 rfl) ?_; clear ha a; intro a ha
  obtain ⟨hI1, hF⟩ := ck_some hF
  refine op_g ha rfl (g_sub rfl rfl hI1) ?_; clear ha a; intro a ha
  refine op_g ha rfl (g_assign rfl) ?_; clear ha a; intro a ha
  refine wpList_nil ?_
  replace ha := ha.sub (σ' := [(1, (.int .i64 (a1 - (a0.length : Int))))]) ⟨rfl, trivial⟩
  refine e_then ?_
  refine wp_seq ?_
  refine wp_seq ?_
  refine wp_region_lit ?_
  refine op_g ha rfl (g_move rfl) ?_; clear ha a; intro a ha
  refine op_g ha rfl (g_lss rfl rfl) ?_; clear ha a; intro a ha
  refine wpList_nil ?_
  replace ha := ha.sub (σ' := [(1, (.int .i64 (a1 - (a0.length : Int)))), (10, (.bool (decide ((a1 - (a0.length : Int)) < 0))))]) ⟨rfl, rfl, trivial⟩
  refine e_then ?_
  refine c_cond ((a1 - (a0.length : Int)) < 0) ha rfl (decide_eq_true_iff) (fun hp3 => ?_) (fun hp3 => ?_)
  · replace hF := if_t hp3 hF
    refine wp_seq ?_
    refine wp_region_lit ?_
    refine op_g ha rfl (g_assign rfl) ?_; clear ha a; intro a ha
    refine wpList_nil ?_
    replace ha := ha.sub (σ' := [(4, (.int .i64 (-1)))]) ⟨rfl, trivial⟩
    refine e_then ?_
    refine wp_ret ?_
    refine e_then_ret ?_
    obtain rfl := Option.some.inj hF
    exact f_ret1 ha rfl rfl ⟨⟨rfl, (show InI (-1) from by decide)⟩, hE⟩
  · replace hF := if_f hp3 hF
    refine wp_skip ?_
    refine e_then ?_
    refine wp_seq ?_
    refine wp_region_lit ?_
    refine op_g ha rfl (g_move rfl) ?_; clear ha a; intro a ha
    refine op_g ha rfl (g_assign rfl) ?_; clear ha a; intro a ha
    refine wpList_nil ?_
    replace ha := ha.sub (σ' := [(4, (.int .i64 (a1 - (a0.length : Int))))]) ⟨rfl, trivial⟩
    refine e_then ?_
    refine wp_ret ?_
    obtain rfl := Option.some.inj hF
    exact f_ret1 ha rfl rfl ⟨⟨rfl, hI1⟩, hE⟩
set_option maxHeartbeats 2000000 in
theorem W_laws_szInt64SS {W : World} {va0 : Value} {fa0 : List Nat} {a0 : (List (List Int))} (ha0 : Ro (Rp.sl 2 Rp.int) W fa0 va0 a0) {a1 : Int} (ha1 : InI a1) {r : Int} (hF : F_laws_szInt64SS a0 a1 = some r) :
    Calls Tryd.prog 36 [va0, .int .i64 a1].toArray W (Ret fun u w' => (u = .int .i64 r ∧ InI r) ∧ Ext W w') := by
  refine f_enter Tryd.func36 rfl Tryd.ntmps36 rfl ?_
  intro a ha
  replace ha : Fr 27 [(0, va0), (1, (.int .i64 a1))] a := ha
  have hE : Chg [] W W := Chg.refl _ _
  unfold F_laws_szInt64SS at hF
  refine wp_seq ?_
  refine wp_region_lit ?_
  refine op_g ha rfl (g_assign rfl) ?_; clear ha a; intro a ha
  refine wpList_nil ?_
  replace ha := ha.sub (σ' := [(0, va0), (1, (.int .i64 a1))]) ⟨rfl, rfl, trivial⟩
  refine e_then ?_
  refine wp_seq ?_
  refine wp_region_lit ?_
  refine op_g ha rfl (g_move rfl) ?_; clear ha a; intro a ha
  refine op_g ha rfl (g_move rfl) ?_; clear ha a; intro a ha
  refine op_g ha rfl (g_lenR sl22.und ha0 rfl) ?_; clear ha a; intro a ha
  obtain ⟨hI1, hF⟩ := ck_some hF
  refine op_g ha rfl (g_sub rfl rfl hI1) ?_; clear ha a; intro a ha
  refine op_g ha rfl (g_assign rfl) ?_; clear ha a; intro a ha
  refine wpList_nil ?_
  replace ha := ha.sub (σ' := [(0, va0), (1, (.int .i64 (a1 - (a0.length : Int))))]) ⟨rfl, rfl, trivial⟩
  refine e_then ?_
  refine wp_seq ?_
  refine wp_seq ?_
  refine wp_region_lit ?_
  refine op_g ha rfl (g_move rfl) ?_; clear ha a; intro a ha
  refine op_g ha rfl (g_lss rfl rfl) ?_; clear ha a; intro a ha
  refine wpList_nil ?_
  replace ha := ha.sub (σ' := [(0, va0), (1, (.int .i64 (a1 - (a0.length : Int)))), (11, (.bool (decide ((a1 - (a0.length : Int)) < 0))))]) ⟨rfl, rfl, rfl, trivial⟩
  refine e_then ?_
  refine c_cond ((a1 - (a0.length : Int)) < 0) ha rfl (decide_eq_true_iff) (fun hp3 => ?_) (fun hp3 => ?_)
  · replace hF := if_t hp3 hF
    refine wp_seq ?_
    refine wp_region_lit ?_
    refine op_g ha rfl (g_assign rfl) ?_; clear ha a; intro a ha
    refine wpList_nil ?_
    replace ha := ha.sub (σ' := [(4, (.int .i64 (-1)))]) ⟨rfl, trivial⟩
    refine e_then ?_
    refine wp_ret ?_
    refine e_then_ret ?_
    obtain rfl := Option.some.inj hF
    exact f_ret1 ha rfl rfl ⟨⟨rfl, (show InI (-1) from by decide)⟩, hE⟩
  · replace hF := if_f hp3 hF
    refine wp_skip ?_
    refine e_then ?_
    refine wp_seq ?_
    refine wp_seq ?_
    refine wp_region_lit ?_
    refine op_g ha rfl (g_assign rfl) ?_; clear ha a; intro a ha
    refine wpList_nil ?_
    replace ha := ha.sub (σ' := [(0, va0), (1, (.int .i64 (a1 - (a0.length : Int)))), (5, (.int .i64 0))]) ⟨rfl, rfl, rfl, trivial⟩
    refine e_then ?_
    obtain ⟨o75, ho76, hK77⟩ := bnd_some hF
    obtain ⟨n78, hn79⟩ := lp_some ho76; clear ho76
    refine c_loop (fun a w => ∃ (i73 : Int), Fr 27 [(1, (.int .i64 i73))] a ∧ Chg [] W w ∧ InI i73 ∧ o75 = .inl i73) (fun n a w => ∃ (i37 : Int) (i39 : Int), Fr 27 [(0, va0), (1, (.int .i64 i37)), (5, (.int .i64 i39))] a ∧ Chg [] W w ∧ InI i37 ∧ InI i39 ∧ lpN (fun s => F_laws_szInt64SS_l1 a0 s.1 s.2) n (i37, i39) = some o75) n78 ⟨a1 - (a0.length : Int), 0, ha.sub ⟨rfl, rfl, rfl, trivial⟩, hE, hI1, (show InI 0 from by decide), hn79⟩ ?_ ?_
    · rintro m83 a w36 ⟨i37, i39, ha, hE41, hI38, hI40, hF⟩
      cases m83 with
      | zero => exact (lpN_zero hF).elim
      | succ m83 =>
        obtain ⟨z82, hF, hN81⟩ := lpN_succ hF
        have hF : F_laws_szInt64SS_l1 a0 i37 i39 = some z82 := hF; unfold F_laws_szInt64SS_l1 at hF
        refine wp_seq ?_
        refine wp_seq ?_
        refine wp_region_lit ?_
        refine op_g ha rfl (g_move rfl) ?_; clear ha a; intro a ha
        refine op_g ha rfl (g_move rfl) ?_; clear ha a; intro a ha
        refine op_g ha rfl (g_lenR sl22.und ha0 rfl) ?_; clear ha a; intro a ha
        refine op_g ha rfl (g_lss rfl rfl) ?_; clear ha a; intro a ha
        refine wpList_nil ?_
        replace ha := ha.sub (σ' := [(0, va0), (1, (.int .i64 i37)), (5, (.int .i64 i39)), (15, (.bool (decide (i39 < (a0.length : Int)))))]) ⟨rfl, rfl, rfl, rfl, trivial⟩
        refine e_then ?_
        refine c_cond (i39 < (a0.length : Int)) ha rfl (decide_eq_true_iff) (fun hp84 => ?_) (fun hp84 => ?_)
        · replace hF := if_t hp84 hF
          refine wp_skip ?_
          refine e_then ?_
          refine wp_seq ?_
          refine wp_block ?_
          refine wp_seq ?_
          refine wp_region_lit ?_
          refine op_g ha rfl (g_move rfl) ?_; clear ha a; intro a ha
          refine op_g ha rfl (g_move rfl) ?_; clear ha a; intro a ha
          obtain ⟨x85, g86, gx87, hF⟩ := idx_some hF
          obtain ⟨p88, cs89, f90, hf91, hpb92, hat93, hr94, hi95⟩ := ha0.at g86 gx87
          obtain ⟨v96, rfl, h97⟩ := hr94
          have h97 : Ro Rp.int W f90 v96 x85 := h97
          refine op_g ha rfl (hi95.gives sl22 rfl rfl) ?_; clear ha a; intro a ha
          refine op_g ha rfl (g_load0 hE41 Tryd.isAgg31 rfl hat93.one) ?_; clear ha a; intro a ha
          refine op_g ha rfl (g_move rfl) ?_; clear ha a; intro a ha
          obtain ⟨x99, hc100, hF⟩ := cal_some hF
          refine o_call ha rfl rfl Tryd.call67 (W_laws_szInt64S (h97.ext hE41) hI38 hc100) ?_; clear ha a; rintro v101 w102 ⟨⟨rfl, hI104⟩, hx103⟩ a ha
          have hE105 := Ext.trans hE41 hx103
          refine op_g ha rfl (g_assign rfl) ?_; clear ha a; intro a ha
          refine wpList_nil ?_
          replace ha := ha.sub (σ' := [(0, va0), (1, (.int .i64 x99)), (5, (.int .i64 i39))]) ⟨rfl, rfl, rfl, trivial⟩
          refine e_then ?_
          refine wp_seq ?_
          refine wp_region_lit ?_
          refine op_g ha rfl (g_move rfl) ?_; clear ha a; intro a ha
          refine op_g ha rfl (g_lss rfl rfl) ?_; clear ha a; intro a ha
          refine wpList_nil ?_
          replace ha := ha.sub (σ' := [(0, va0), (1, (.int .i64 x99)), (5, (.int .i64 i39)), (25, (.bool (decide (x99 < 0))))]) ⟨rfl, rfl, rfl, rfl, trivial⟩
          refine e_then ?_
          refine c_cond (x99 < 0) ha rfl (decide_eq_true_iff) (fun hp106 => ?_) (fun hp106 => ?_)
          · replace hF := if_t hp106 hF
            refine wp_seq ?_
            refine wp_region_lit ?_
            refine op_g ha rfl (g_assign rfl) ?_; clear ha a; intro a ha
            refine wpList_nil ?_
            replace ha := ha.sub (σ' := [(4, (.int .i64 (-1)))]) ⟨rfl, trivial⟩
            refine e_then ?_
            refine wp_ret ?_
            refine e_blk_ret ?_
            refine e_then_ret ?_
            refine e_lq_ret ?_
            refine e_then_ret ?_
            obtain rfl := Option.some.inj hF
            have e107 := LK_inr hN81; subst e107
            have e108 := BK_inr hK77; subst e108
            exact f_ret1 ha rfl rfl ⟨⟨rfl, (show InI (-1) from by decide)⟩, hE105⟩
          · replace hF := if_f hp106 hF
            refine wp_skip ?_
            refine e_blk ?_
            refine e_then ?_
            refine wp_region_lit ?_
            refine op_g ha rfl (g_move rfl) ?_; clear ha a; intro a ha
            obtain ⟨hI109, hF⟩ := ck_some hF
            refine op_g ha rfl (g_add rfl rfl hI109) ?_; clear ha a; intro a ha
            refine op_g ha rfl (g_assign rfl) ?_; clear ha a; intro a ha
            refine wpList_nil ?_
            replace ha := ha.sub (σ' := [(0, va0), (1, (.int .i64 x99)), (5, (.int .i64 (i39 + 1)))]) ⟨rfl, rfl, rfl, trivial⟩
            refine e_lq ?_
            obtain rfl := Option.some.inj hF
            exact ⟨_, Nat.lt_succ_self _, x99, i39 + 1, ha.sub ⟨rfl, rfl, rfl, trivial⟩, hE105, hI104, hI109, hN81⟩
        · replace hF := if_f hp84 hF
          refine wp_exit ?_
          refine e_then_exit ?_
          refine e_lq_eq ?_
          obtain rfl := Option.some.inj hF
          exact ⟨i37, ha.sub ⟨rfl, trivial⟩, hE41, hI38, (LK_inr hN81).symm⟩
    · rintro a w72 ⟨i73, ha, hE80, hI74, rfl⟩
      have hF : F_laws_szInt64SS_k2 i73 = some _ := hK77; clear hK77; unfold F_laws_szInt64SS_k2 at hF
      refine e_then ?_
      refine wp_seq ?_
      refine wp_region_lit ?_
      refine op_g ha rfl (g_move rfl) ?_; clear ha a; intro a ha
      refine op_g ha rfl (g_assign rfl) ?_; clear ha a; intro a ha
      refine wpList_nil ?_
      replace ha := ha.sub (σ' := [(4, (.int .i64 i73))]) ⟨rfl, trivial⟩
      refine e_then ?_
      refine wp_ret ?_
      obtain rfl := Option.some.inj hF
      exact f_ret1 ha rfl rfl ⟨⟨rfl, hI74⟩, hE80⟩
set_option maxHeartbeats 2000000 in
theorem W_laws_szGraph {W : World} {va0_0 : Value} {fa0_0 : List Nat} {a0_0 : (List (List Int))} (ha0_0 : Ro (Rp.sl 2 Rp.int) W fa0_0 va0_0 a0_0) {a1 : Int} (ha1 : InI a1) {r : Int} (hF : F_laws_szGraph a0_0 a1 = some r) :
    Calls Tryd.prog 9 [.agg #[va0_0], .int .i64 a1].toArray W (Ret fun u w' => (u = .int .i64 r ∧ InI r) ∧ Ext W w') := by
  refine f_enter Tryd.func9 rfl Tryd.ntmps9 rfl ?_
  intro a ha
  replace ha : Fr 12 [(0, (.agg #[va0_0])), (1, (.int .i64 a1))] a := ha
  have hE : Chg [] W W := Chg.refl _ _
  unfold F_laws_szGraph at hF
  refine wp_seq ?_
  refine wp_region_lit ?_
  refine o_box ha rfl rfl rfl ?_; clear ha a; intro b1 w2 hB3 hx4 hlo5 a ha
  have q6 := Zn.one hlo5
  have q7 := Zn.upD q6 hE
  have hE8 := Ext.trans hE hx4
  refine op_g ha rfl (g_assign rfl) ?_; clear ha a; intro a ha
  refine wpList_nil ?_
  replace ha := ha.sub (σ' := [(1, (.int .i64 a1)), (2, (.pointer (some ⟨b1, 0, none⟩)))]) ⟨rfl, rfl, trivial⟩
  refine e_then ?_
  refine wp_seq ?_
  refine wp_region_lit ?_
  refine op_g ha rfl (g_field0 st24_0 rfl) ?_; clear ha a; intro a ha
  refine op_g ha rfl (g_load Tryd.isAgg22 rfl (hB3.cell rfl)) ?_; clear ha a; intro a ha
  refine op_g ha rfl (g_move rfl) ?_; clear ha a; intro a ha
  obtain ⟨x9, hc10, hF⟩ := cal_some hF
  refine o_call ha rfl rfl Tryd.call36 (W_laws_szInt64SS (ha0_0.ext hE8) ha1 hc10) ?_; clear ha a; rintro v11 w12 ⟨⟨rfl, hI14⟩, hx13⟩ a ha
  replace hB3 := hB3.ext hx13
  have hE15 := Ext.trans hE8 hx13
  refine op_g ha rfl (g_assign rfl) ?_; clear ha a; intro a ha
  refine wpList_nil ?_
  replace ha := ha.sub (σ' := [(1, (.int .i64 x9))]) ⟨rfl, trivial⟩
  refine e_then ?_
  refine wp_seq ?_
  refine wp_seq ?_
  refine wp_region_lit ?_
  refine op_g ha rfl (g_move rfl) ?_; clear ha a; intro a ha
  refine op_g ha rfl (g_lss rfl rfl) ?_; clear ha a; intro a ha
  refine wpList_nil ?_
  replace ha := ha.sub (σ' := [(1, (.int .i64 x9)), (10, (.bool (decide (x9 < 0))))]) ⟨rfl, rfl, trivial⟩
  refine e_then ?_
  refine c_cond (x9 < 0) ha rfl (decide_eq_true_iff) (fun hp16 => ?_) (fun hp16 => ?_)
  · replace hF := if_t hp16 hF
    refine wp_seq ?_
    refine wp_region_lit ?_
    refine op_g ha rfl (g_assign rfl) ?_; clear ha a; intro a ha
    refine wpList_nil ?_
    replace ha := ha.sub (σ' := [(4, (.int .i64 (-1)))]) ⟨rfl, trivial⟩
    refine e_then ?_
    refine wp_ret ?_
    refine e_then_ret ?_
    obtain rfl := Option.some.inj hF
    exact f_ret1 ha rfl rfl ⟨⟨rfl, (show InI (-1) from by decide)⟩, hE15⟩
  · replace hF := if_f hp16 hF
    refine wp_skip ?_
    refine e_then ?_
    refine wp_seq ?_
    refine wp_region_lit ?_
    refine op_g ha rfl (g_move rfl) ?_; clear ha a; intro a ha
    refine op_g ha rfl (g_assign rfl) ?_; clear ha a; intro a ha
    refine wpList_nil ?_
    replace ha := ha.sub (σ' := [(4, (.int .i64 x9))]) ⟨rfl, trivial⟩
    refine e_then ?_
    refine wp_ret ?_
    obtain rfl := Option.some.inj hF
    exact f_ret1 ha rfl rfl ⟨⟨rfl, hI14⟩, hE15⟩
set_option maxHeartbeats 2000000 in
theorem W_laws_toInt64S {W : World} {va0 : Value} {fa0 : List Nat} {a0 : (List Int)} (ha0 : Ro Rp.int W fa0 va0 a0) {r : (List Int)} (hF : F_laws_toInt64S a0 = some r) :
    Calls Tryd.prog 15 [va0].toArray W (Ret fun u w' => ∃ (b_u : Int), Ow Rp.int 2 true w' [] b_u u r ∧ Zn W b_u ∧ Ext W w') := by
  refine f_enter Tryd.func15 rfl Tryd.ntmps15 rfl ?_
  intro a ha
  replace ha : Fr 22 [(0, va0)] a := ha
  have hE : Chg [] W W := Chg.refl _ _
  unfold F_laws_toInt64S at hF
  refine wp_seq ?_
  refine wp_region_lit ?_
  refine op_g ha rfl (g_assign rfl) ?_; clear ha a; intro a ha
  refine wpList_nil ?_
  replace ha := ha.sub (σ' := [(0, va0)]) ⟨rfl, trivial⟩
  refine e_then ?_
  refine wp_seq ?_
  refine wp_region_lit ?_
  refine op_g ha rfl (g_move rfl) ?_; clear ha a; intro a ha
  refine op_g ha rfl (g_lenR sl31.und ha0 rfl) ?_; clear ha a; intro a ha
  obtain ⟨g5, g5b, hF⟩ := mkS_some hF
  refine o_make (z0 := (0 : Int)) Rp.int ha rfl sl31 rfl (fun w => ⟨rfl, by decide, rfl⟩) rfl g5 g5b ?_; clear ha a; intro v1 w2 h3 hx4 a ha
  obtain ⟨b8, hb8⟩ : ∃ b : Int, b = W.heap.size := ⟨_, rfl⟩; rw [← hb8] at h3
  have q9 := zn_of hb8
  have q10 := Zn.upD q9 hE
  have hE11 := Ext.trans hE hx4
  refine op_g ha rfl (g_assign rfl) ?_; clear ha a; intro a ha
  refine wpList_nil ?_
  replace ha := ha.sub (σ' := [(0, va0), (3, v1)]) ⟨rfl, rfl, trivial⟩
  refine e_then ?_
  refine wp_seq ?_
  refine wp_seq ?_
  refine wp_region_lit ?_
  refine op_g ha rfl (g_assign rfl) ?_; clear ha a; intro a ha
  refine wpList_nil ?_
  refine e_then ?_
  obtain ⟨o118, ho119, hK120⟩ := bnd_some hF
  obtain ⟨n121, hn122⟩ := lp_some ho119; clear ho119
  refine c_loop (fun a w => ∃ (l115 : (List Int)) (v116 : Value) (b117 : Int), Fr 22 [(3, v116)] a ∧ Chg [] W w ∧ Ow Rp.int 2 true w [] b117 v116 l115 ∧ Zn W b117 ∧ o118 = .inl l115) (fun n a w => ∃ (l63 : (List Int)) (i66 : Int) (v64 : Value) (b65 : Int), Fr 22 [(0, va0), (3, v64), (4, (.int .i64 i66))] a ∧ Chg [] W w ∧ InI i66 ∧ Ow Rp.int 2 true w [] b65 v64 l63 ∧ Zn W b65 ∧ lpN (fun s => F_laws_toInt64S_l1 a0 s.1 s.2) n (l63, i66) = some o118) n121 ⟨(List.replicate ((a0.length : Int) : Int).toNat (0 : Int)), 0, v1, b8, ha.sub ⟨rfl, rfl, rfl, trivial⟩, hE11, (show InI 0 from by decide), h3, q10, hn122⟩ ?_ ?_
  · rintro m126 a w59 ⟨l63, i66, v64, b65, ha, hE68, hI67, h61, z62, hF⟩
    cases m126 with
    | zero => exact (lpN_zero hF).elim
    | succ m126 =>
      obtain ⟨z125, hF, hN124⟩ := lpN_succ hF
      have hF : F_laws_toInt64S_l1 a0 l63 i66 = some z125 := hF; unfold F_laws_toInt64S_l1 at hF
      refine wp_seq ?_
      refine wp_seq ?_
      refine wp_region_lit ?_
      refine op_g ha rfl (g_move rfl) ?_; clear ha a; intro a ha
      refine op_g ha rfl (g_move rfl) ?_; clear ha a; intro a ha
      refine op_g ha rfl (g_lenR sl31.und ha0 rfl) ?_; clear ha a; intro a ha
      refine op_g ha rfl (g_lss rfl rfl) ?_; clear ha a; intro a ha
      refine wpList_nil ?_
      replace ha := ha.sub (σ' := [(0, va0), (3, v64), (4, (.int .i64 i66)), (11, (.bool (decide (i66 < (a0.length : Int)))))]) ⟨rfl, rfl, rfl, rfl, trivial⟩
      refine e_then ?_
      refine c_cond (i66 < (a0.length : Int)) ha rfl (decide_eq_true_iff) (fun hp127 => ?_) (fun hp127 => ?_)
      · replace hF := if_t hp127 hF
        refine wp_skip ?_
        refine e_then ?_
        refine wp_seq ?_
        refine wp_block ?_
        refine wp_region_lit ?_
        refine op_g ha rfl (g_move rfl) ?_; clear ha a; intro a ha
        refine op_g ha rfl (g_move rfl) ?_; clear ha a; intro a ha
        refine op_g ha rfl (g_move rfl) ?_; clear ha a; intro a ha
        refine op_g ha rfl (g_move rfl) ?_; clear ha a; intro a ha
        obtain ⟨x128, g129, gx130, hF⟩ := idx_some hF
        obtain ⟨p131, cs132, f133, hf134, hpb135, hat136, hr137, hi138⟩ := ha0.at g129 gx130
        obtain ⟨rfl, hI139, rfl⟩ := hr137
        refine op_g ha rfl (hi138.gives sl31 rfl rfl) ?_; clear ha a; intro a ha
        refine op_g ha rfl (g_load0 hE68 Tryd.isAgg2 rfl hat136.one) ?_; clear ha a; intro a ha
        obtain ⟨x140, g141, gx142, hF⟩ := idx_some hF
        obtain ⟨p143, cs144, f145, hf146, hpb147, hat148, hr149, hi150⟩ := h61.at g141 gx142
        obtain ⟨rfl, hI151, rfl⟩ := hr149
        refine op_g ha rfl (hi150.gives sl31 rfl rfl) ?_; clear ha a; intro a ha
        refine o_storeE (f := []) (q := x128) ha Tryd.sizeOf2 rfl rfl rfl h61 hi150 ⟨rfl, hI139, rfl⟩ (Nq.nil _) ?_; intro w152 fs153 h154 hc155 hs156
        obtain rfl := Subst.nil hs156
        have hE157 := Ext.then hE68 hc155 (Zn.bl z62)
        refine wpList_nil ?_
        replace ha := ha.sub (σ' := [(0, va0), (3, v64), (4, (.int .i64 i66))]) ⟨rfl, rfl, rfl, trivial⟩
        refine e_blk ?_
        refine e_then ?_
        refine wp_region_lit ?_
        refine op_g ha rfl (g_move rfl) ?_; clear ha a; intro a ha
        obtain ⟨hI158, hF⟩ := ck_some hF
        refine op_g ha rfl (g_add rfl rfl hI158) ?_; clear ha a; intro a ha
        refine op_g ha rfl (g_assign rfl) ?_; clear ha a; intro a ha
        refine wpList_nil ?_
        replace ha := ha.sub (σ' := [(0, va0), (3, v64), (4, (.int .i64 (i66 + 1)))]) ⟨rfl, rfl, rfl, trivial⟩
        refine e_lq ?_
        obtain rfl := Option.some.inj hF
        exact ⟨_, Nat.lt_succ_self _, (l63.set ((i66 : Int).toNat) x128), i66 + 1, v64, b65, ha.sub ⟨rfl, rfl, rfl, trivial⟩, hE157, hI158, h154, z62, hN124⟩
      · replace hF := if_f hp127 hF
        refine wp_exit ?_
        refine e_then_exit ?_
        refine e_lq_eq ?_
        obtain rfl := Option.some.inj hF
        exact ⟨l63, v64, b65, ha.sub ⟨rfl, trivial⟩, hE68, h61, z62, (LK_inr hN124).symm⟩
  · rintro a w111 ⟨l115, v116, b117, ha, hE123, h113, z114, rfl⟩
    have hF : F_laws_toInt64S_k2 l115 = some _ := hK120; clear hK120; unfold F_laws_toInt64S_k2 at hF
    refine e_then ?_
    refine wp_seq ?_
    refine wp_region_lit ?_
    refine op_g ha rfl (g_move rfl) ?_; clear ha a; intro a ha
    refine op_g ha rfl (g_assign rfl) ?_; clear ha a; intro a ha
    refine wpList_nil ?_
    replace ha := ha.sub (σ' := [(2, v116)]) ⟨rfl, trivial⟩
    refine e_then ?_
    refine wp_ret ?_
    obtain rfl := Option.some.inj hF
    exact f_ret1 ha rfl rfl ⟨_, h113, z114, hE123⟩
set_option maxHeartbeats 2000000 in
theorem W_laws_toInt64SS {W : World} {va0 : Value} {fa0 : List Nat} {a0 : (List (List Int))} (ha0 : Ro (Rp.sl 2 Rp.int) W fa0 va0 a0) {r : (List (List Int))} (hF : F_laws_toInt64SS a0 = some r) :
    Calls Tryd.prog 42 [va0].toArray W (Ret fun u w' => ∃ (b_u : Int) (fs_u : List Nat), Ow (Rp.sl 2 Rp.int) 31 true w' fs_u b_u u r ∧ Zn W b_u ∧ (∀ k ∈ fs_u, W.heap.size ≤ k) ∧ (bl b_u ++ fs_u).Nodup ∧ Ext W w') := by
  refine f_enter Tryd.func42 rfl Tryd.ntmps42 rfl ?_
  intro a ha
  replace ha : Fr 23 [(0, va0)] a := ha
  have hE : Chg [] W W := Chg.refl _ _
  unfold F_laws_toInt64SS at hF
  refine wp_seq ?_
  refine wp_region_lit ?_
  refine op_g ha rfl (g_assign rfl) ?_; clear ha a; intro a ha
  refine wpList_nil ?_
  replace ha := ha.sub (σ' := [(0, va0)]) ⟨rfl, trivial⟩
  refine e_then ?_
  refine wp_seq ?_
  refine wp_region_lit ?_
  refine op_g ha rfl (g_move rfl) ?_; clear ha a; intro a ha
  refine op_g ha rfl (g_lenR sl22.und ha0 rfl) ?_; clear ha a; intro a ha
  obtain ⟨g5, g5b, hF⟩ := mkS_some hF
  refine o_make (z0 := ([] : (List Int))) (Rp.sl 2 Rp.int) ha rfl sl22 rfl (fun w => nil_rep w) rfl g5 g5b ?_; clear ha a; intro v1 w2 h3 hx4 a ha
  obtain ⟨b8, hb8⟩ : ∃ b : Int, b = W.heap.size := ⟨_, rfl⟩; rw [← hb8] at h3
  have q9 := zn_of hb8
  have q10 := Zn.upD q9 hE
  have hE11 := Ext.trans hE hx4
  refine op_g ha rfl (g_assign rfl) ?_; clear ha a; intro a ha
  refine wpList_nil ?_
  replace ha := ha.sub (σ' := [(0, va0), (3, v1)]) ⟨rfl, rfl, trivial⟩
  refine e_then ?_
  refine wp_seq ?_
  refine wp_seq ?_
  refine wp_region_lit ?_
  refine op_g ha rfl (g_assign rfl) ?_; clear ha a; intro a ha
  refine wpList_nil ?_
  refine e_then ?_
  obtain ⟨o181, ho182, hK183⟩ := bnd_some hF
  obtain ⟨n184, hn185⟩ := lp_some ho182; clear ho182
  refine c_loop (fun a w => ∃ (l178 : (List (List Int))) (fs175 : List Nat) (v179 : Value) (b180 : Int), Fr 23 [(3, v179)] a ∧ Chg [] W w ∧ Ow (Rp.sl 2 Rp.int) 31 true w fs175 b180 v179 l178 ∧ Zn W b180 ∧ (∀ k ∈ fs175, W.heap.size ≤ k) ∧ (bl b180 ++ fs175).Nodup ∧ o181 = .inl l178) (fun n a w => ∃ (l96 : (List (List Int))) (i99 : Int) (fs93 : List Nat) (v97 : Value) (b98 : Int), Fr 23 [(0, va0), (3, v97), (4, (.int .i64 i99))] a ∧ Chg [] W w ∧ InI i99 ∧ Ow (Rp.sl 2 Rp.int) 31 true w fs93 b98 v97 l96 ∧ Zn W b98 ∧ (∀ k ∈ fs93, W.heap.size ≤ k) ∧ (bl b98 ++ fs93).Nodup ∧ lpN (fun s => F_laws_toInt64SS_l1 a0 s.1 s.2) n (l96, i99) = some o181) n184 ⟨(List.replicate ((a0.length : Int) : Int).toNat ([] : (List Int))), 0, [], v1, b8, ha.sub ⟨rfl, rfl, rfl, trivial⟩, hE11, (show InI 0 from by decide), h3, q10, (zf_nil _), (bl_nodup b8), hn185⟩ ?_ ?_
  · rintro m189 a w89 ⟨l96, i99, fs93, v97, b98, ha, hE101, hI100, h91, z92, zf94, nd95, hF⟩
    cases m189 with
    | zero => exact (lpN_zero hF).elim
    | succ m189 =>
      obtain ⟨z188, hF, hN187⟩ := lpN_succ hF
      have hF : F_laws_toInt64SS_l1 a0 l96 i99 = some z188 := hF; unfold F_laws_toInt64SS_l1 at hF
      refine wp_seq ?_
      refine wp_seq ?_
      refine wp_region_lit ?_
      refine op_g ha rfl (g_move rfl) ?_; clear ha a; intro a ha
      refine op_g ha rfl (g_move rfl) ?_; clear ha a; intro a ha
      refine op_g ha rfl (g_lenR sl22.und ha0 rfl) ?_; clear ha a; intro a ha
      refine op_g ha rfl (g_lss rfl rfl) ?_; clear ha a; intro a ha
      refine wpList_nil ?_
      replace ha := ha.sub (σ' := [(0, va0), (3, v97), (4, (.int .i64 i99)), (11, (.bool (decide (i99 < (a0.length : Int)))))]) ⟨rfl, rfl, rfl, rfl, trivial⟩
      refine e_then ?_
      refine c_cond (i99 < (a0.length : Int)) ha rfl (decide_eq_true_iff) (fun hp190 => ?_) (fun hp190 => ?_)
      · replace hF := if_t hp190 hF
        refine wp_skip ?_
        refine e_then ?_
        refine wp_seq ?_
        refine wp_block ?_
        refine wp_region_lit ?_
        refine op_g ha rfl (g_move rfl) ?_; clear ha a; intro a ha
        refine op_g ha rfl (g_move rfl) ?_; clear ha a; intro a ha
        refine op_g ha rfl (g_move rfl) ?_; clear ha a; intro a ha
        refine op_g ha rfl (g_move rfl) ?_; clear ha a; intro a ha
        obtain ⟨x191, g192, gx193, hF⟩ := idx_some hF
        obtain ⟨p194, cs195, f196, hf197, hpb198, hat199, hr200, hi201⟩ := ha0.at g192 gx193
        obtain ⟨v202, rfl, h203⟩ := hr200
        have h203 : Ro Rp.int W f196 v202 x191 := h203
        refine op_g ha rfl (hi201.gives sl22 rfl rfl) ?_; clear ha a; intro a ha
        refine op_g ha rfl (g_load0 hE101 Tryd.isAgg31 rfl hat199.one) ?_; clear ha a; intro a ha
        obtain ⟨x205, hc206, hF⟩ := cal_some hF
        refine o_call ha rfl rfl Tryd.call15 (W_laws_toInt64S (h203.ext hE101) hc206) ?_; clear ha a; rintro v207 w208 ⟨b210, h211, z212, hx209⟩ a ha
        have q214 := Nq.new h91.fpb z212
        have q215 := Nq.madeO z212 h91.blt
        have q216 := Nf.old z212 (zf_nil _) h91.bnd
        replace h91 := h91.ext hx209
        have hE217 := Ext.trans hE101 hx209
        have q218 := Zn.upD z212 hE101
        obtain ⟨x219, g220, gx221, hF⟩ := idx_some hF
        obtain ⟨p222, cs223, f224, hf225, hpb226, hat227, hr228, hi229⟩ := h91.at g220 gx221
        replace hr228 := (Rp.sl 2 Rp.int).weak hr228
        obtain ⟨v230, rfl, h231⟩ := hr228
        have h231 : Ro Rp.int w208 f224 v230 x219 := h231
        have q233 := Nq.mono q214 (fun k hk => List.mem_append_right (bl b98) (hf225 k hk))
        have q234 := Nq.mono (Ow.ne h91) hf225
        refine op_g ha rfl (hi229.gives sl22 rfl rfl) ?_; clear ha a; intro a ha
        refine o_storeE (f := (bl b210 ++ [])) (q := x205) ha Tryd.sizeOf31 rfl rfl h211.cells h91 hi229 (Rp.mkO h211) q215 ?_; intro w235 fs236 h237 hc238 hs239
        have q240 := zf_mv q218 (zf_nil _)
        have q241 := dj_of q214
        have q242 := zf_set hs239 zf94 q240
        have q243 := Subst.nd hs239 nd95 (bl_nodup b210) q241
        replace h231 := h231.nq hc238 q234
        have hE244 := Ext.then hE217 hc238 (Zn.bl z92)
        refine wpList_nil ?_
        replace ha := ha.sub (σ' := [(0, va0), (3, v97), (4, (.int .i64 i99))]) ⟨rfl, rfl, rfl, trivial⟩
        refine e_blk ?_
        refine e_then ?_
        refine wp_region_lit ?_
        refine op_g ha rfl (g_move rfl) ?_; clear ha a; intro a ha
        obtain ⟨hI245, hF⟩ := ck_some hF
        refine op_g ha rfl (g_add rfl rfl hI245) ?_; clear ha a; intro a ha
        refine op_g ha rfl (g_assign rfl) ?_; clear ha a; intro a ha
        refine wpList_nil ?_
        replace ha := ha.sub (σ' := [(0, va0), (3, v97), (4, (.int .i64 (i99 + 1)))]) ⟨rfl, rfl, rfl, trivial⟩
        refine e_lq ?_
        obtain rfl := Option.some.inj hF
        exact ⟨_, Nat.lt_succ_self _, (l96.set ((i99 : Int).toNat) x205), i99 + 1, fs236, v97, b98, ha.sub ⟨rfl, rfl, rfl, trivial⟩, hE244, hI245, h237, z92, q242, q243, hN187⟩
      · replace hF := if_f hp190 hF
        refine wp_exit ?_
        refine e_then_exit ?_
        refine e_lq_eq ?_
        obtain rfl := Option.some.inj hF
        exact ⟨l96, fs93, v97, b98, ha.sub ⟨rfl, trivial⟩, hE101, h91, z92, zf94, nd95, (LK_inr hN187).symm⟩
  · rintro a w171 ⟨l178, fs175, v179, b180, ha, hE186, h173, z174, zf176, nd177, rfl⟩
    have hF : F_laws_toInt64SS_k2 l178 = some _ := hK183; clear hK183; unfold F_laws_toInt64SS_k2 at hF
    refine e_then ?_
    refine wp_seq ?_
    refine wp_region_lit ?_
    refine op_g ha rfl (g_move rfl) ?_; clear ha a; intro a ha
    refine op_g ha rfl (g_assign rfl) ?_; clear ha a; intro a ha
    refine wpList_nil ?_
    replace ha := ha.sub (σ' := [(2, v179)]) ⟨rfl, trivial⟩
    refine e_then ?_
    refine wp_ret ?_
    obtain rfl := Option.some.inj hF
    exact f_ret1 ha rfl rfl ⟨_, _, h173, z174, zf176, nd177, hE186⟩
set_option maxHeartbeats 2000000 in
theorem W_laws_toGraph {W : World} {va0_0 : Value} {fa0_0 : List Nat} {a0_0 : (List (List Int))} (ha0_0 : Ro (Rp.sl 2 Rp.int) W fa0_0 va0_0 a0_0) {r : (List (List Int))} (hF : F_laws_toGraph a0_0 = some r) :
    Calls Tryd.prog 11 [.agg #[va0_0]].toArray W (Ret fun u w' => ∃ (u_0 : Value) (b_u_0 : Int) (fs_u_0 : List Nat), u = .agg #[u_0] ∧ Ow (Rp.sl 2 Rp.int) 31 true w' fs_u_0 b_u_0 u_0 r ∧ Zn W b_u_0 ∧ (∀ k ∈ fs_u_0, W.heap.size ≤ k) ∧ (bl b_u_0 ++ fs_u_0).Nodup ∧ Ext W w') := by
  refine f_enter Tryd.func11 rfl Tryd.ntmps11 rfl ?_
  intro a ha
  replace ha : Fr 9 [(0, (.agg #[va0_0]))] a := ha
  have hE : Chg [] W W := Chg.refl _ _
  unfold F_laws_toGraph at hF
  refine wp_seq ?_
  refine wp_region_lit ?_
  refine o_box ha rfl rfl rfl ?_; clear ha a; intro b1 w2 hB3 hx4 hlo5 a ha
  have q6 := Zn.one hlo5
  have q7 := Zn.upD q6 hE
  have hE8 := Ext.trans hE hx4
  refine o_alloc (cs := [(.slice none 0 0)]) ha rfl Tryd.zeroValue27 rfl ?_; clear ha a; intro b9 w10 hB11 hx12 hlo13 a ha
  have q14 := Zn.one hlo13
  have q15 := Nq.new hB3.fpb q14
  have q16 := Nq.made1 hlo13 hB3.bi
  have q17 := Zn.upD q14 hE8
  replace hB3 := hB3.ext hx12
  have hE18 := Ext.trans hE8 hx12
  refine wpList_nil ?_
  replace ha := ha.sub (σ' := [(1, (.pointer (some ⟨b1, 0, none⟩))), (2, (.pointer (some ⟨b9, 0, none⟩)))]) ⟨rfl, rfl, trivial⟩
  refine e_then ?_
  refine wp_seq ?_
  refine wp_region_lit ?_
  refine o_alloc (cs := [(.slice none 0 0)]) ha rfl Tryd.zeroValue27 rfl ?_; clear ha a; intro b19 w20 hB21 hx22 hlo23 a ha
  have q24 := Zn.one hlo23
  have q25 := Nq.new hB3.fpb q24
  have q26 := Nq.made1 hlo23 hB3.bi
  have q27 := Nq.new hB11.fpb q24
  have q28 := Nq.made1 hlo23 hB11.bi
  have q29 := Zn.upD q24 hE18
  replace hB3 := hB3.ext hx22
  replace hB11 := hB11.ext hx22
  have hE30 := Ext.trans hE18 hx22
  refine wpList_nil ?_
  refine e_then ?_
  refine wp_seq ?_
  refine wp_region_lit ?_
  refine op_g ha rfl (g_field0 st24_0 rfl) ?_; clear ha a; intro a ha
  refine op_g ha rfl (g_load Tryd.isAgg22 rfl (hB3.cell rfl)) ?_; clear ha a; intro a ha
  obtain ⟨x31, hc32, hF⟩ := cal_some hF
  refine o_call ha rfl rfl Tryd.call42 (W_laws_toInt64SS (ha0_0.ext hE30) hc32) ?_; clear ha a; rintro v33 w34 ⟨b36, fs40, h37, z38, zf41, nd42, hx35⟩ a ha
  have q43 := Nq.new hB3.fpb z38
  have q44 := Nq.madeF z38 zf41 hB3.bi
  have q45 := Nq.new hB11.fpb z38
  have q46 := Nq.madeF z38 zf41 hB11.bi
  have q47 := Nq.new hB21.fpb z38
  have q48 := Nq.madeF z38 zf41 hB21.bi
  have q49 := Nf.new hB3.fpb zf41
  have q50 := Nf.new hB11.fpb zf41
  have q51 := Nf.new hB21.fpb zf41
  replace hB3 := hB3.ext hx35
  replace hB11 := hB11.ext hx35
  replace hB21 := hB21.ext hx35
  have hE52 := Ext.trans hE30 hx35
  have q53 := Zn.upD z38 hE30
  have q54 := zf_up zf41 hE30
  refine op_g ha rfl (g_field0 st27_0 rfl) ?_; clear ha a; intro a ha
  refine o_storeB ha hB21 Tryd.sizeOf22 rfl rfl h37.cells h37.oneC (Nat.le_of_ble_eq_true rfl) ?_; intro w55 hB56 hc57
  replace hc57 := hc57.bl
  replace hB56 : Bx w55 b19 [v33] 27 := hB56
  replace hB3 := hB3.nq hc57 q25
  replace hB11 := hB11.nq hc57 q27
  replace h37 := h37.nq hc57 q48
  have hE58 := Ext.then hE52 hc57 (Zn.bl q29)
  refine wpList_nil ?_
  replace ha := ha.sub (σ' := [(2, (.pointer (some ⟨b9, 0, none⟩))), (3, (.pointer (some ⟨b19, 0, none⟩)))]) ⟨rfl, rfl, trivial⟩
  refine e_then ?_
  refine wp_seq ?_
  refine wp_region_lit ?_
  refine op_g ha rfl (g_loadA (cs := [v33]) Tryd.isAgg27 Tryd.sizeOf27 rfl (by simp) hB56.all) ?_; clear ha a; intro a ha
  refine o_storeA (vs := [v33]) ha hB11 Tryd.sizeOf27 rfl rfl (by intro c hc; simp only [List.mem_cons, List.not_mem_nil, or_false] at hc; rcases hc with hc <;> subst hc <;> first | rfl | exact h37.oneC) rfl ?_; intro w59 hB60 hc61
  replace hc61 := hc61.bl
  replace hB60 : Bx w59 b9 [v33] 27 := hB60
  replace hB56 := hB56.nq hc61 q28
  replace h37 := h37.nq hc61 q46
  have hE62 := Ext.then hE58 hc61 (Zn.bl q17)
  refine wpList_nil ?_
  replace ha := ha.sub (σ' := [(2, (.pointer (some ⟨b9, 0, none⟩)))]) ⟨rfl, trivial⟩
  refine e_then ?_
  refine wp_ret ?_
  obtain rfl := Option.some.inj hF
  exact f_retC (cs := [v33]) ha rfl rfl Tryd.isAgg27 Tryd.sizeOf27 hB60 ⟨_, _, _, rfl, h37, q53, q54, nd42, hE62⟩
set_option maxHeartbeats 2000000 in
theorem W_spec_l1Size {W : World} {va0_0 : Value} {fa0_0 : List Nat} {a0_0 : (List (List Int))} (ha0_0 : Ro (Rp.sl 2 Rp.int) W fa0_0 va0_0 a0_0) {r : Int} (hF : F_spec_l1Size a0_0 = some r) :
    Calls Tryd.prog 38 [.agg #[va0_0]].toArray W (Ret fun u w' => (u = .int .i64 r ∧ InI r) ∧ Ext W w') := by
  refine f_enter Tryd.func38 rfl Tryd.ntmps38 rfl ?_
  intro a ha
  replace ha : Fr 6 [(0, (.agg #[va0_0]))] a := ha
  have hE : Chg [] W W := Chg.refl _ _
  unfold F_spec_l1Size at hF
  refine wp_seq ?_
  refine wp_region_lit ?_
  refine o_box ha rfl rfl rfl ?_; clear ha a; intro b1 w2 hB3 hx4 hlo5 a ha
  have q6 := Zn.one hlo5
  have q7 := Zn.upD q6 hE
  have hE8 := Ext.trans hE hx4
  refine op_g ha rfl (g_assign rfl) ?_; clear ha a; intro a ha
  refine wpList_nil ?_
  replace ha := ha.sub (σ' := [(1, (.pointer (some ⟨b1, 0, none⟩)))]) ⟨rfl, trivial⟩
  refine e_then ?_
  refine wp_seq ?_
  refine wp_region_lit ?_
  refine op_g ha rfl (g_field0 st27_0 rfl) ?_; clear ha a; intro a ha
  refine op_g ha rfl (g_load Tryd.isAgg22 rfl (hB3.cell rfl)) ?_; clear ha a; intro a ha
  refine op_g ha rfl (g_lenR sl22.und ha0_0 rfl) ?_; clear ha a; intro a ha
  refine op_g ha rfl (g_assign rfl) ?_; clear ha a; intro a ha
  refine wpList_nil ?_
  replace ha := ha.sub (σ' := [(2, (.int .i64 (a0_0.length : Int)))]) ⟨rfl, trivial⟩
  refine e_then ?_
  refine wp_ret ?_
  obtain rfl := Option.some.inj hF
  exact f_ret1 ha rfl rfl ⟨⟨rfl, ha0_0.len⟩, hE8⟩
set_option maxHeartbeats 2000000 in
theorem W_spec_l1In {W : World} {a0 : Int} (ha0 : InI a0) {a1 : Int} (ha1 : InI a1) {a2 : Int} (ha2 : InI a2) {r : Bool} (hF : F_spec_l1In a0 a1 a2 = some r) :
    Calls Tryd.prog 58 [.int .i64 a0, .int .i64 a1, .int .i64 a2].toArray W (Ret fun u w' => u = .bool r ∧ Ext W w') := by
  refine f_enter Tryd.func58 rfl Tryd.ntmps58 rfl ?_
  intro a ha
  replace ha : Fr 15 [(0, (.int .i64 a0)), (1, (.int .i64 a1)), (2, (.int .i64 a2))] a := ha
  have hE : Chg [] W W := Chg.refl _ _
  unfold F_spec_l1In at hF
  refine wp_seq ?_
  refine wp_region_lit ?_
  refine op_g ha rfl (g_assign rfl) ?_; clear ha a; intro a ha
  refine wpList_nil ?_
  replace ha := ha.sub (σ' := [(0, (.int .i64 a0)), (1, (.int .i64 a1)), (2, (.int .i64 a2))]) ⟨rfl, rfl, rfl, trivial⟩
  refine e_then ?_
  refine wp_seq ?_
  refine wp_region_lit ?_
  refine op_g ha rfl (g_move rfl) ?_; clear ha a; intro a ha
  refine op_g ha rfl (g_move rfl) ?_; clear ha a; intro a ha
  refine op_g ha rfl (g_geq rfl rfl) ?_; clear ha a; intro a ha
  refine op_g ha rfl (g_move rfl) ?_; clear ha a; intro a ha
  by_cases hp1 : a1 ≤ a0
  · replace hF := if_t hp1 hF
    rw [show (decide (a1 ≤ a0)) = true from (decide_eq_true_iff).2 hp1] at ha
    refine op_want (yields ha rfl rfl) ?_
    refine op_g ha rfl (g_move rfl) ?_; clear ha a; intro a ha
    refine op_want (yields ha rfl rfl) ?_
    refine op_g ha rfl (g_move rfl) ?_; clear ha a; intro a ha
    refine op_want (yields ha rfl rfl) ?_
    refine op_g ha rfl (g_leq rfl rfl) ?_; clear ha a; intro a ha
    refine op_g ha rfl (g_pick rfl rfl) ?_; clear ha a; intro a ha
    refine op_g ha rfl (g_assign rfl) ?_; clear ha a; intro a ha
    refine wpList_nil ?_
    replace ha := ha.sub (σ' := [(6, (.bool (decide (a0 ≤ a2))))]) ⟨rfl, trivial⟩
    refine e_then ?_
    refine wp_ret ?_
    obtain rfl := Option.some.inj hF
    exact f_ret1 ha rfl rfl ⟨rfl, hE⟩
  · replace hF := if_f hp1 hF
    rw [show (decide (a1 ≤ a0)) = false from b_false (decide_eq_true_iff) hp1] at ha
    refine op_unwant ha rfl (yields ha rfl rfl) rfl ?_; clear ha a; intro a ha
    refine op_unwant ha rfl (yields ha rfl rfl) rfl ?_; clear ha a; intro a ha
    refine op_unwant ha rfl (yields ha rfl rfl) rfl ?_; clear ha a; intro a ha
    refine op_g ha rfl (g_pick rfl rfl) ?_; clear ha a; intro a ha
    refine op_g ha rfl (g_assign rfl) ?_; clear ha a; intro a ha
    refine wpList_nil ?_
    replace ha := ha.sub (σ' := [(6, (.bool false))]) ⟨rfl, trivial⟩
    refine e_then ?_
    refine wp_ret ?_
    obtain rfl := Option.some.inj hF
    exact f_ret1 ha rfl rfl ⟨rfl, hE⟩
set_option maxHeartbeats 2000000 in
theorem W_spec_l1Set {W : World} {va0 : Value} {fa0 : List Nat} {a0 : (List Int)} (ha0 : Ro Rp.int W fa0 va0 a0) {a1 : Int} (ha1 : InI a1) {r : Bool} (hF : F_spec_l1Set a0 a1 = some r) :
    Calls Tryd.prog 60 [va0, .int .i64 a1].toArray W (Ret fun u w' => u = .bool r ∧ Ext W w') := by
  refine f_enter Tryd.func60 rfl Tryd.ntmps60 rfl ?_
  intro a ha
  replace ha : Fr 40 [(0, va0), (1, (.int .i64 a1))] a := ha
  have hE : Chg [] W W := Chg.refl _ _
  unfold F_spec_l1Set at hF
  refine wp_seq ?_
  refine wp_region_lit ?_
  refine op_g ha rfl (g_assign rfl) ?_; clear ha a; intro a ha
  refine wpList_nil ?_
  replace ha := ha.sub (σ' := [(0, va0), (1, (.int .i64 a1))]) ⟨rfl, rfl, trivial⟩
  refine e_then ?_
  refine wp_seq ?_
  refine wp_seq ?_
  refine wp_region_lit ?_
  refine op_g ha rfl (g_move rfl) ?_; clear ha a; intro a ha
  refine op_g ha rfl (g_lenR sl31.und ha0 rfl) ?_; clear ha a; intro a ha
  refine op_g ha rfl (g_move rfl) ?_; clear ha a; intro a ha
  refine op_g ha rfl (g_gtr rfl rfl) ?_; clear ha a; intro a ha
  refine wpList_nil ?_
  replace ha := ha.sub (σ' := [(0, va0), (1, (.int .i64 a1)), (9, (.bool (decide (a1 < (a0.length : Int)))))]) ⟨rfl, rfl, rfl, trivial⟩
  refine e_then ?_
  refine c_cond (a1 < (a0.length : Int)) ha rfl (decide_eq_true_iff) (fun hp1 => ?_) (fun hp1 => ?_)
  · replace hF := if_t hp1 hF
    refine wp_seq ?_
    refine wp_region_lit ?_
    refine op_g ha rfl (g_assign rfl) ?_; clear ha a; intro a ha
    refine wpList_nil ?_
    replace ha := ha.sub (σ' := [(4, (.bool false))]) ⟨rfl, trivial⟩
    refine e_then ?_
    refine wp_ret ?_
    refine e_then_ret ?_
    obtain rfl := Option.some.inj hF
    exact f_ret1 ha rfl rfl ⟨rfl, hE⟩
  · replace hF := if_f hp1 hF
    refine wp_skip ?_
    refine e_then ?_
    refine wp_seq ?_
    refine wp_seq ?_
    refine wp_region_lit ?_
    refine op_g ha rfl (g_assign rfl) ?_; clear ha a; intro a ha
    refine wpList_nil ?_
    replace ha := ha.sub (σ' := [(0, va0), (1, (.int .i64 a1)), (5, (.int .i64 0))]) ⟨rfl, rfl, rfl, trivial⟩
    refine e_then ?_
    obtain ⟨o137, ho138, hK139⟩ := bnd_some hF
    obtain ⟨n140, hn141⟩ := lp_some ho138; clear ho138
    refine c_loop (fun a w => Fr 40 [] a ∧ Chg [] W w ∧ o137 = .inl ()) (fun n a w => ∃ (i69 : Int), Fr 40 [(0, va0), (1, (.int .i64 a1)), (5, (.int .i64 i69))] a ∧ Chg [] W w ∧ InI i69 ∧ lpN (fun s => F_spec_l1Set_l1 a0 a1 s) n i69 = some o137) n140 ⟨0, ha.sub ⟨rfl, rfl, rfl, trivial⟩, hE, (show InI 0 from by decide), hn141⟩ ?_ ?_
    · rintro m145 a w68 ⟨i69, ha, hE71, hI70, hF⟩
      cases m145 with
      | zero => exact (lpN_zero hF).elim
      | succ m145 =>
        obtain ⟨z144, hF, hN143⟩ := lpN_succ hF
        have hF : F_spec_l1Set_l1 a0 a1 i69 = some z144 := hF; unfold F_spec_l1Set_l1 at hF
        refine wp_seq ?_
        refine wp_seq ?_
        refine wp_region_lit ?_
        refine op_g ha rfl (g_move rfl) ?_; clear ha a; intro a ha
        refine op_g ha rfl (g_move rfl) ?_; clear ha a; intro a ha
        refine op_g ha rfl (g_lenR sl31.und ha0 rfl) ?_; clear ha a; intro a ha
        refine op_g ha rfl (g_lss rfl rfl) ?_; clear ha a; intro a ha
        refine wpList_nil ?_
        replace ha := ha.sub (σ' := [(0, va0), (1, (.int .i64 a1)), (5, (.int .i64 i69)), (13, (.bool (decide (i69 < (a0.length : Int)))))]) ⟨rfl, rfl, rfl, rfl, trivial⟩
        refine e_then ?_
        refine c_cond (i69 < (a0.length : Int)) ha rfl (decide_eq_true_iff) (fun hp146 => ?_) (fun hp146 => ?_)
        · replace hF := if_t hp146 hF
          refine wp_skip ?_
          refine e_then ?_
          refine wp_seq ?_
          refine wp_block ?_
          refine wp_seq ?_
          refine d_quiet hmix (by kernel_rfl) ?_
          refine q_g ha rfl (g_move rfl) ?_; clear ha a; intro a ha
          refine q_g ha rfl (g_move rfl) ?_; clear ha a; intro a ha
          obtain ⟨x147, g148, gx149, hF⟩ := idx_some hF
          obtain ⟨p150, cs151, f152, hf153, hpb154, hat155, hr156, hi157⟩ := ha0.at g148 gx149
          obtain ⟨rfl, hI158, rfl⟩ := hr156
          refine q_g ha rfl (hi157.gives sl31 rfl rfl) ?_; clear ha a; intro a ha
          refine q_g ha rfl (g_load0 hE71 Tryd.isAgg2 rfl hat155.one) ?_; clear ha a; intro a ha
          refine q_g ha rfl (g_move rfl) ?_; clear ha a; intro a ha
          obtain ⟨hI159, hF⟩ := ck_some hF
          refine q_g ha rfl (g_sub rfl rfl hI159) ?_; clear ha a; intro a ha
          obtain ⟨x163, hc164, hF⟩ := cal_some hF
          refine q_call (.bool x163) ha rfl rfl Tryd.call58 (fun w162 hx161 => W_spec_l1In hI158 (show InI 0 from by decide) hI159 hc164) (fun _ _ _ h => ⟨h.1, h.2⟩) ?_; clear ha a; intro a ha
          refine q_g ha rfl (g_not rfl) ?_; clear ha a; intro a ha
          refine q_g ha rfl (g_move rfl) ?_; clear ha a; intro a ha
          by_cases hp165 : ¬ (x163 = true)
          · replace hF := if_t hp165 hF
            rw [show (!x163) = true from (n_iff (Iff.rfl)).2 hp165] at ha
            refine q_unwant ha rfl (yields ha rfl rfl) rfl ?_; clear ha a; intro a ha
            refine q_unwant ha rfl (yields ha rfl rfl) rfl ?_; clear ha a; intro a ha
            refine q_unwant ha rfl (yields ha rfl rfl) rfl ?_; clear ha a; intro a ha
            refine q_unwant0 ha rfl (yields0 ha rfl rfl) ?_; clear ha a; intro a ha
            refine q_unwant0 ha rfl (yields0 ha rfl rfl) ?_; clear ha a; intro a ha
            refine q_unwant0 ha rfl (yields0 ha rfl rfl) ?_; clear ha a; intro a ha
            refine q_unwant0 ha rfl (yields0 ha rfl rfl) ?_; clear ha a; intro a ha
            refine q_unwant0 ha rfl (yields0 ha rfl rfl) ?_; clear ha a; intro a ha
            refine q_unwant0 ha rfl (yields0 ha rfl rfl) ?_; clear ha a; intro a ha
            refine q_unwant0 ha rfl (yields0 ha rfl rfl) ?_; clear ha a; intro a ha
            refine q_unwant0 ha rfl (yields0 ha rfl rfl) ?_; clear ha a; intro a ha
            refine q_unwant0 ha rfl (yields0 ha rfl rfl) ?_; clear ha a; intro a ha
            refine q_unwant0 ha rfl (yields0 ha rfl rfl) ?_; clear ha a; intro a ha
            refine q_unwant ha rfl (yields ha rfl rfl) rfl ?_; clear ha a; intro a ha
            refine q_g ha rfl (g_pick rfl rfl) ?_; clear ha a; intro a ha
            refine q_nil ?_; intro w166 hx167
            have hE168 := Ext.trans hE71 hx167
            replace ha := ha.sub (σ' := [(0, va0), (1, (.int .i64 a1)), (5, (.int .i64 i69)), (39, (.bool true))]) ⟨rfl, rfl, rfl, rfl, trivial⟩
            refine e_then ?_
            refine c_true ha rfl ?_
            refine wp_seq ?_
            refine wp_region_lit ?_
            refine op_g ha rfl (g_assign rfl) ?_; clear ha a; intro a ha
            refine wpList_nil ?_
            replace ha := ha.sub (σ' := [(4, (.bool false))]) ⟨rfl, trivial⟩
            refine e_then ?_
            refine wp_ret ?_
            refine e_blk_ret ?_
            refine e_then_ret ?_
            refine e_lq_ret ?_
            refine e_then_ret ?_
            obtain rfl := Option.some.inj hF
            have e169 := LK_inr hN143; subst e169
            have e170 := BK_inr hK139; subst e170
            exact f_ret1 ha rfl rfl ⟨rfl, hE168⟩
          · replace hF := if_f hp165 hF
            rw [show (!x163) = false from b_false (n_iff (Iff.rfl)) hp165] at ha
            refine q_want (yields ha rfl rfl) ?_
            refine q_g ha rfl (g_move rfl) ?_; clear ha a; intro a ha
            refine q_want (yields ha rfl rfl) ?_
            refine q_g ha rfl (g_gtr rfl rfl) ?_; clear ha a; intro a ha
            refine q_want (yields ha rfl rfl) ?_
            refine q_g ha rfl (g_move rfl) ?_; clear ha a; intro a ha
            by_cases hp171 : 0 < i69
            · replace hF := if_t hp171 hF
              rw [show (decide (0 < i69)) = true from (decide_eq_true_iff).2 hp171] at ha
              refine q_want (yields ha rfl rfl) ?_
              refine q_g ha rfl (g_move rfl) ?_; clear ha a; intro a ha
              refine q_want (yields ha rfl rfl) ?_
              refine q_g ha rfl (g_move rfl) ?_; clear ha a; intro a ha
              refine q_want (yields ha rfl rfl) ?_
              obtain ⟨x172, g173, gx174, hF⟩ := idx_some hF
              obtain ⟨p175, cs176, f177, hf178, hpb179, hat180, hr181, hi182⟩ := ha0.at g173 gx174
              obtain ⟨rfl, hI183, rfl⟩ := hr181
              refine q_g ha rfl (hi182.gives sl31 rfl rfl) ?_; clear ha a; intro a ha
              refine q_want (yields ha rfl rfl) ?_
              refine q_g ha rfl (g_load0 hE71 Tryd.isAgg2 rfl hat180.one) ?_; clear ha a; intro a ha
              refine q_want (yields ha rfl rfl) ?_
              refine q_g ha rfl (g_move rfl) ?_; clear ha a; intro a ha
              refine q_want (yields ha rfl rfl) ?_
              refine q_g ha rfl (g_move rfl) ?_; clear ha a; intro a ha
              refine q_want (yields ha rfl rfl) ?_
              obtain ⟨hI184, hF⟩ := ck_some hF
              refine q_g ha rfl (g_sub rfl rfl hI184) ?_; clear ha a; intro a ha
              refine q_want (yields ha rfl rfl) ?_
              obtain ⟨x186, g187, gx188, hF⟩ := idx_some hF
              obtain ⟨p189, cs190, f191, hf192, hpb193, hat194, hr195, hi196⟩ := ha0.at g187 gx188
              obtain ⟨rfl, hI197, rfl⟩ := hr195
              refine q_g ha rfl (hi196.gives sl31 rfl rfl) ?_; clear ha a; intro a ha
              refine q_want (yields ha rfl rfl) ?_
              refine q_g ha rfl (g_load0 hE71 Tryd.isAgg2 rfl hat194.one) ?_; clear ha a; intro a ha
              refine q_want (yields ha rfl rfl) ?_
              refine q_g ha rfl (g_leq rfl rfl) ?_; clear ha a; intro a ha
              refine q_want (yields ha rfl rfl) ?_
              refine q_g ha rfl (g_pick rfl rfl) ?_; clear ha a; intro a ha
              refine q_g ha rfl (g_pick rfl rfl) ?_; clear ha a; intro a ha
              refine q_nil ?_; intro w198 hx199
              have hE200 := Ext.trans hE71 hx199
              replace ha := ha.sub (σ' := [(0, va0), (1, (.int .i64 a1)), (5, (.int .i64 i69)), (25, (.int .i64 i69)), (26, (.bool true)), (27, (.bool true)), (28, va0), (29, (.int .i64 i69)), (30, (.pointer (some p175))), (31, (.int .i64 x172)), (32, va0), (33, (.int .i64 i69)), (34, (.int .i64 (i69 - 1))), (35, (.pointer (some p189))), (36, (.int .i64 x186)), (37, (.bool (decide (x172 ≤ x186)))), (38, (.bool (decide (x172 ≤ x186)))), (39, (.bool (decide (x172 ≤ x186))))]) ⟨rfl, rfl, rfl, rfl, rfl, rfl, rfl, rfl, rfl, rfl, rfl, rfl, rfl, rfl, rfl, rfl, rfl, rfl, trivial⟩
              refine e_then ?_
              refine c_cond (x172 ≤ x186) ha rfl (decide_eq_true_iff) (fun hp201 => ?_) (fun hp201 => ?_)
              · replace hF := if_t hp201 hF
                refine wp_seq ?_
                refine wp_region_lit ?_
                refine op_g ha rfl (g_assign rfl) ?_; clear ha a; intro a ha
                refine wpList_nil ?_
                replace ha := ha.sub (σ' := [(4, (.bool false))]) ⟨rfl, trivial⟩
                refine e_then ?_
                refine wp_ret ?_
                refine e_blk_ret ?_
                refine e_then_ret ?_
                refine e_lq_ret ?_
                refine e_then_ret ?_
                obtain rfl := Option.some.inj hF
                have e202 := LK_inr hN143; subst e202
                have e203 := BK_inr hK139; subst e203
                exact f_ret1 ha rfl rfl ⟨rfl, hE200⟩
              · replace hF := if_f hp201 hF
                refine wp_skip ?_
                refine e_blk ?_
                refine e_then ?_
                refine wp_region_lit ?_
                refine op_g ha rfl (g_move rfl) ?_; clear ha a; intro a ha
                obtain ⟨hI204, hF⟩ := ck_some hF
                refine op_g ha rfl (g_add rfl rfl hI204) ?_; clear ha a; intro a ha
                refine op_g ha rfl (g_assign rfl) ?_; clear ha a; intro a ha
                refine wpList_nil ?_
                replace ha := ha.sub (σ' := [(0, va0), (1, (.int .i64 a1)), (5, (.int .i64 (i69 + 1))), (25, (.int .i64 i69)), (26, (.bool true)), (27, (.bool true)), (28, va0), (29, (.int .i64 i69)), (30, (.pointer (some p175))), (31, (.int .i64 x172)), (32, va0), (33, (.int .i64 i69)), (34, (.int .i64 (i69 - 1))), (35, (.pointer (some p189))), (36, (.int .i64 x186)), (37, (.bool (decide (x172 ≤ x186)))), (38, (.bool (decide (x172 ≤ x186))))]) ⟨rfl, rfl, rfl, rfl, rfl, rfl, rfl, rfl, rfl, rfl, rfl, rfl, rfl, rfl, rfl, rfl, rfl, trivial⟩
                refine e_lq ?_
                obtain rfl := Option.some.inj hF
                exact ⟨_, Nat.lt_succ_self _, i69 + 1, ha.sub ⟨rfl, rfl, rfl, trivial⟩, hE200, hI204, hN143⟩
            · replace hF := if_f hp171 hF
              rw [show (decide (0 < i69)) = false from b_false (decide_eq_true_iff) hp171] at ha
              refine q_unwant ha rfl (yields ha rfl rfl) rfl ?_; clear ha a; intro a ha
              refine q_unwant ha rfl (yields ha rfl rfl) rfl ?_; clear ha a; intro a ha
              refine q_unwant ha rfl (yields ha rfl rfl) rfl ?_; clear ha a; intro a ha
              refine q_unwant ha rfl (yields ha rfl rfl) rfl ?_; clear ha a; intro a ha
              refine q_unwant ha rfl (yields ha rfl rfl) rfl ?_; clear ha a; intro a ha
              refine q_unwant ha rfl (yields ha rfl rfl) rfl ?_; clear ha a; intro a ha
              refine q_unwant ha rfl (yields ha rfl rfl) rfl ?_; clear ha a; intro a ha
              refine q_unwant ha rfl (yields ha rfl rfl) rfl ?_; clear ha a; intro a ha
              refine q_unwant ha rfl (yields ha rfl rfl) rfl ?_; clear ha a; intro a ha
              refine q_unwant ha rfl (yields ha rfl rfl) rfl ?_; clear ha a; intro a ha
              refine q_want (yields ha rfl rfl) ?_
              refine q_g ha rfl (g_pick rfl rfl) ?_; clear ha a; intro a ha
              refine q_g ha rfl (g_pick rfl rfl) ?_; clear ha a; intro a ha
              refine q_nil ?_; intro w206 hx207
              have hE208 := Ext.trans hE71 hx207
              replace ha := ha.sub (σ' := [(0, va0), (1, (.int .i64 a1)), (5, (.int .i64 i69)), (25, (.int .i64 i69)), (26, (.bool false)), (27, (.bool false)), (38, (.bool false)), (39, (.bool false))]) ⟨rfl, rfl, rfl, rfl, rfl, rfl, rfl, rfl, trivial⟩
              refine e_then ?_
              refine c_false ha rfl ?_
              refine wp_skip ?_
              refine e_blk ?_
              refine e_then ?_
              refine wp_region_lit ?_
              refine op_g ha rfl (g_move rfl) ?_; clear ha a; intro a ha
              obtain ⟨hI209, hF⟩ := ck_some hF
              refine op_g ha rfl (g_add rfl rfl hI209) ?_; clear ha a; intro a ha
              refine op_g ha rfl (g_assign rfl) ?_; clear ha a; intro a ha
              refine wpList_nil ?_
              replace ha := ha.sub (σ' := [(0, va0), (1, (.int .i64 a1)), (5, (.int .i64 (i69 + 1))), (25, (.int .i64 i69)), (26, (.bool false)), (27, (.bool false)), (38, (.bool false))]) ⟨rfl, rfl, rfl, rfl, rfl, rfl, rfl, trivial⟩
              refine e_lq ?_
              obtain rfl := Option.some.inj hF
              exact ⟨_, Nat.lt_succ_self _, i69 + 1, ha.sub ⟨rfl, rfl, rfl, trivial⟩, hE208, hI209, hN143⟩
        · replace hF := if_f hp146 hF
          refine wp_exit ?_
          refine e_then_exit ?_
          refine e_lq_eq ?_
          obtain rfl := Option.some.inj hF
          exact ⟨ha.sub trivial, hE71, (LK_inr hN143).symm⟩
    · rintro a w136 ⟨ha, hE142, rfl⟩
      have hF : F_spec_l1Set_k2 = some _ := hK139; clear hK139; unfold F_spec_l1Set_k2 at hF
      refine e_then ?_
      refine wp_seq ?_
      refine wp_region_lit ?_
      refine op_g ha rfl (g_assign rfl) ?_; clear ha a; intro a ha
      refine wpList_nil ?_
      refine e_then ?_
      refine wp_ret ?_
      obtain rfl := Option.some.inj hF
      exact f_ret1 ha rfl rfl ⟨rfl, hE142⟩
set_option maxHeartbeats 2000000 in
theorem W_spec_l1Has {W : World} {va0 : Value} {fa0 : List Nat} {a0 : (List Int)} (ha0 : Ro Rp.int W fa0 va0 a0) {a1 : Int} (ha1 : InI a1) {r : Bool} (hF : F_spec_l1Has a0 a1 = some r) :
    Calls Tryd.prog 68 [va0, .int .i64 a1].toArray W (Ret fun u w' => u = .bool r ∧ Ext W w') := by
  refine f_enter Tryd.func68 rfl Tryd.ntmps68 rfl ?_
  intro a ha
  replace ha : Fr 18 [(0, va0), (1, (.int .i64 a1))] a := ha
  have hE : Chg [] W W := Chg.refl _ _
  unfold F_spec_l1Has at hF
  refine wp_seq ?_
  refine wp_region_lit ?_
  refine op_g ha rfl (g_assign rfl) ?_; clear ha a; intro a ha
  refine wpList_nil ?_
  replace ha := ha.sub (σ' := [(0, va0), (1, (.int .i64 a1))]) ⟨rfl, rfl, trivial⟩
  refine e_then ?_
  refine wp_seq ?_
  refine wp_seq ?_
  refine wp_region_lit ?_
  refine op_g ha rfl (g_assign rfl) ?_; clear ha a; intro a ha
  refine wpList_nil ?_
  refine e_then ?_
  obtain ⟨o46, ho47, hK48⟩ := bnd_some hF
  obtain ⟨n49, hn50⟩ := lp_some ho47; clear ho47
  refine c_loop (fun a w => Fr 18 [] a ∧ Chg [] W w ∧ o46 = .inl ()) (fun n a w => ∃ (i23 : Int), Fr 18 [(0, va0), (1, (.int .i64 a1)), (5, (.int .i64 i23))] a ∧ Chg [] W w ∧ InI i23 ∧ lpN (fun s => F_spec_l1Has_l1 a0 a1 s) n i23 = some o46) n49 ⟨0, ha.sub ⟨rfl, rfl, rfl, trivial⟩, hE, (show InI 0 from by decide), hn50⟩ ?_ ?_
  · rintro m54 a w22 ⟨i23, ha, hE25, hI24, hF⟩
    cases m54 with
    | zero => exact (lpN_zero hF).elim
    | succ m54 =>
      obtain ⟨z53, hF, hN52⟩ := lpN_succ hF
      have hF : F_spec_l1Has_l1 a0 a1 i23 = some z53 := hF; unfold F_spec_l1Has_l1 at hF
      refine wp_seq ?_
      refine wp_seq ?_
      refine wp_region_lit ?_
      refine op_g ha rfl (g_move rfl) ?_; clear ha a; intro a ha
      refine op_g ha rfl (g_move rfl) ?_; clear ha a; intro a ha
      refine op_g ha rfl (g_lenR sl31.und ha0 rfl) ?_; clear ha a; intro a ha
      refine op_g ha rfl (g_lss rfl rfl) ?_; clear ha a; intro a ha
      refine wpList_nil ?_
      replace ha := ha.sub (σ' := [(0, va0), (1, (.int .i64 a1)), (5, (.int .i64 i23)), (9, (.bool (decide (i23 < (a0.length : Int)))))]) ⟨rfl, rfl, rfl, rfl, trivial⟩
      refine e_then ?_
      refine c_cond (i23 < (a0.length : Int)) ha rfl (decide_eq_true_iff) (fun hp55 => ?_) (fun hp55 => ?_)
      · replace hF := if_t hp55 hF
        refine wp_skip ?_
        refine e_then ?_
        refine wp_seq ?_
        refine wp_block ?_
        refine wp_seq ?_
        refine wp_region_lit ?_
        refine op_g ha rfl (g_move rfl) ?_; clear ha a; intro a ha
        refine op_g ha rfl (g_move rfl) ?_; clear ha a; intro a ha
        obtain ⟨x56, g57, gx58, hF⟩ := idx_some hF
        obtain ⟨p59, cs60, f61, hf62, hpb63, hat64, hr65, hi66⟩ := ha0.at g57 gx58
        obtain ⟨rfl, hI67, rfl⟩ := hr65
        refine op_g ha rfl (hi66.gives sl31 rfl rfl) ?_; clear ha a; intro a ha
        refine op_g ha rfl (g_load0 hE25 Tryd.isAgg2 rfl hat64.one) ?_; clear ha a; intro a ha
        refine op_g ha rfl (g_move rfl) ?_; clear ha a; intro a ha
        refine op_g ha rfl (g_eql rfl rfl) ?_; clear ha a; intro a ha
        refine wpList_nil ?_
        replace ha := ha.sub (σ' := [(0, va0), (1, (.int .i64 a1)), (5, (.int .i64 i23)), (17, (.bool (decide (x56 = a1))))]) ⟨rfl, rfl, rfl, rfl, trivial⟩
        refine e_then ?_
        refine c_cond (x56 = a1) ha rfl (decide_eq_true_iff) (fun hp68 => ?_) (fun hp68 => ?_)
        · replace hF := if_t hp68 hF
          refine wp_seq ?_
          refine wp_region_lit ?_
          refine op_g ha rfl (g_assign rfl) ?_; clear ha a; intro a ha
          refine wpList_nil ?_
          replace ha := ha.sub (σ' := [(4, (.bool true))]) ⟨rfl, trivial⟩
          refine e_then ?_
          refine wp_ret ?_
          refine e_blk_ret ?_
          refine e_then_ret ?_
          refine e_lq_ret ?_
          refine e_then_ret ?_
          obtain rfl := Option.some.inj hF
          have e69 := LK_inr hN52; subst e69
          have e70 := BK_inr hK48; subst e70
          exact f_ret1 ha rfl rfl ⟨rfl, hE25⟩
        · replace hF := if_f hp68 hF
          refine wp_skip ?_
          refine e_blk ?_
          refine e_then ?_
          refine wp_region_lit ?_
          refine op_g ha rfl (g_move rfl) ?_; clear ha a; intro a ha
          obtain ⟨hI71, hF⟩ := ck_some hF
          refine op_g ha rfl (g_add rfl rfl hI71) ?_; clear ha a; intro a ha
          refine op_g ha rfl (g_assign rfl) ?_; clear ha a; intro a ha
          refine wpList_nil ?_
          replace ha := ha.sub (σ' := [(0, va0), (1, (.int .i64 a1)), (5, (.int .i64 (i23 + 1)))]) ⟨rfl, rfl, rfl, trivial⟩
          refine e_lq ?_
          obtain rfl := Option.some.inj hF
          exact ⟨_, Nat.lt_succ_self _, i23 + 1, ha.sub ⟨rfl, rfl, rfl, trivial⟩, hE25, hI71, hN52⟩
      · replace hF := if_f hp55 hF
        refine wp_exit ?_
        refine e_then_exit ?_
        refine e_lq_eq ?_
        obtain rfl := Option.some.inj hF
        exact ⟨ha.sub trivial, hE25, (LK_inr hN52).symm⟩
  · rintro a w45 ⟨ha, hE51, rfl⟩
    have hF : F_spec_l1Has_k2 = some _ := hK48; clear hK48; unfold F_spec_l1Has_k2 at hF
    refine e_then ?_
    refine wp_seq ?_
    refine wp_region_lit ?_
    refine op_g ha rfl (g_assign rfl) ?_; clear ha a; intro a ha
    refine wpList_nil ?_
    refine e_then ?_
    refine wp_ret ?_
    obtain rfl := Option.some.inj hF
    exact f_ret1 ha rfl rfl ⟨rfl, hE51⟩
set_option maxHeartbeats 2000000 in
theorem W_spec_GraphOk {W : World} {va0_0 : Value} {fa0_0 : List Nat} {a0_0 : (List (List Int))} (ha0_0 : Ro (Rp.sl 2 Rp.int) W fa0_0 va0_0 a0_0) {r : Bool} (hF : F_spec_GraphOk a0_0 = some r) :
    Calls Tryd.prog 37 [.agg #[va0_0]].toArray W (Ret fun u w' => u = .bool r ∧ Ext W w') := by
  refine f_enter Tryd.func37 rfl Tryd.ntmps37 rfl ?_
  intro a ha
  replace ha : Fr 64 [(0, (.agg #[va0_0]))] a := ha
  have hE : Chg [] W W := Chg.refl _ _
  unfold F_spec_GraphOk at hF
  refine wp_seq ?_
  refine wp_region_lit ?_
  refine o_box ha rfl rfl rfl ?_; clear ha a; intro b1 w2 hB3 hx4 hlo5 a ha
  have q6 := Zn.one hlo5
  have q7 := Zn.upD q6 hE
  have hE8 := Ext.trans hE hx4
  refine op_g ha rfl (g_assign rfl) ?_; clear ha a; intro a ha
  refine wpList_nil ?_
  replace ha := ha.sub (σ' := [(1, (.pointer (some ⟨b1, 0, none⟩)))]) ⟨rfl, trivial⟩
  refine e_then ?_
  refine wp_seq ?_
  refine wp_region_lit ?_
  refine op_g ha rfl (g_loadA (cs := [va0_0]) Tryd.isAgg27 Tryd.sizeOf27 rfl (by simp) hB3.all) ?_; clear ha a; intro a ha
  obtain ⟨x9, hc10, hF⟩ := cal_some hF
  refine o_call ha rfl rfl Tryd.call38 (W_spec_l1Size (ha0_0.ext hE8) hc10) ?_; clear ha a; rintro v11 w12 ⟨⟨rfl, hI14⟩, hx13⟩ a ha
  replace hB3 := hB3.ext hx13
  have hE15 := Ext.trans hE8 hx13
  refine op_g ha rfl (g_assign rfl) ?_; clear ha a; intro a ha
  refine wpList_nil ?_
  replace ha := ha.sub (σ' := [(1, (.pointer (some ⟨b1, 0, none⟩))), (3, (.int .i64 x9))]) ⟨rfl, rfl, trivial⟩
  refine e_then ?_
  refine wp_seq ?_
  refine wp_seq ?_
  refine wp_region_lit ?_
  refine op_g ha rfl (g_move rfl) ?_; clear ha a; intro a ha
  obtain ⟨x16, hc17, hF⟩ := cal_some hF
  refine o_call ha rfl rfl Tryd.call58 (W_spec_l1In hI14 (show InI 1 from by decide) (show InI 16 from by decide) hc17) ?_; clear ha a; rintro v18 w19 ⟨rfl, hx20⟩ a ha
  replace hB3 := hB3.ext hx20
  have hE21 := Ext.trans hE15 hx20
  refine op_g ha rfl (g_not rfl) ?_; clear ha a; intro a ha
  refine wpList_nil ?_
  replace ha := ha.sub (σ' := [(1, (.pointer (some ⟨b1, 0, none⟩))), (3, (.int .i64 x9)), (11, (.bool (!x16)))]) ⟨rfl, rfl, rfl, trivial⟩
  refine e_then ?_
  refine c_cond (¬ (x16 = true)) ha rfl (n_iff (Iff.rfl)) (fun hp22 => ?_) (fun hp22 => ?_)
  · replace hF := if_t hp22 hF
    refine wp_seq ?_
    refine wp_region_lit ?_
    refine op_g ha rfl (g_assign rfl) ?_; clear ha a; intro a ha
    refine wpList_nil ?_
    replace ha := ha.sub (σ' := [(2, (.bool false))]) ⟨rfl, trivial⟩
    refine e_then ?_
    refine wp_ret ?_
    refine e_then_ret ?_
    obtain rfl := Option.some.inj hF
    exact f_ret1 ha rfl rfl ⟨rfl, hE21⟩
  · replace hF := if_f hp22 hF
    refine wp_skip ?_
    refine e_then ?_
    refine wp_seq ?_
    refine wp_seq ?_
    refine wp_region_lit ?_
    refine op_g ha rfl (g_assign rfl) ?_; clear ha a; intro a ha
    refine wpList_nil ?_
    replace ha := ha.sub (σ' := [(1, (.pointer (some ⟨b1, 0, none⟩))), (3, (.int .i64 x9)), (4, (.int .i64 0))]) ⟨rfl, rfl, rfl, trivial⟩
    refine e_then ?_
    obtain ⟨o136, ho137, hK138⟩ := bnd_some hF
    obtain ⟨n139, hn140⟩ := lp_some ho137; clear ho137
    refine c_loop (fun a w => Fr 64 [(1, (.pointer (some ⟨b1, 0, none⟩))), (3, (.int .i64 x9))] a ∧ Chg [] W w ∧ Bx w b1 [va0_0] 27 ∧ Zn W (b1 : Int) ∧ o136 = .inl ()) (fun n a w => ∃ (i80 : Int), Fr 64 [(1, (.pointer (some ⟨b1, 0, none⟩))), (3, (.int .i64 x9)), (4, (.int .i64 i80))] a ∧ Chg [] W w ∧ InI i80 ∧ Bx w b1 [va0_0] 27 ∧ Zn W (b1 : Int) ∧ lpN (fun s => F_spec_GraphOk_l1 a0_0 x9 s) n i80 = some o136) n139 ⟨0, ha.sub ⟨rfl, rfl, rfl, trivial⟩, hE21, (show InI 0 from by decide), hB3, q7, hn140⟩ ?_ ?_
    · rintro m144 a w77 ⟨i80, ha, hE82, hI81, hB78, z79, hF⟩
      cases m144 with
      | zero => exact (lpN_zero hF).elim
      | succ m144 =>
        obtain ⟨z143, hF, hN142⟩ := lpN_succ hF
        have hF : F_spec_GraphOk_l1 a0_0 x9 i80 = some z143 := hF; unfold F_spec_GraphOk_l1 at hF
        refine wp_seq ?_
        refine wp_seq ?_
        refine wp_region_lit ?_
        refine op_g ha rfl (g_move rfl) ?_; clear ha a; intro a ha
        refine op_g ha rfl (g_move rfl) ?_; clear ha a; intro a ha
        refine op_g ha rfl (g_lss rfl rfl) ?_; clear ha a; intro a ha
        refine wpList_nil ?_
        replace ha := ha.sub (σ' := [(1, (.pointer (some ⟨b1, 0, none⟩))), (3, (.int .i64 x9)), (4, (.int .i64 i80)), (14, (.bool (decide (i80 < x9))))]) ⟨rfl, rfl, rfl, rfl, trivial⟩
        refine e_then ?_
        refine c_cond (i80 < x9) ha rfl (decide_eq_true_iff) (fun hp145 => ?_) (fun hp145 => ?_)
        · replace hF := if_t hp145 hF
          refine wp_skip ?_
          refine e_then ?_
          refine wp_seq ?_
          refine wp_block ?_
          refine wp_seq ?_
          refine wp_region_lit ?_
          refine op_g ha rfl (g_field0 st27_0 rfl) ?_; clear ha a; intro a ha
          refine op_g ha rfl (g_load Tryd.isAgg22 rfl (hB78.cell rfl)) ?_; clear ha a; intro a ha
          refine op_g ha rfl (g_move rfl) ?_; clear ha a; intro a ha
          obtain ⟨x146, g147, gx148, hF⟩ := idx_some hF
          obtain ⟨p149, cs150, f151, hf152, hpb153, hat154, hr155, hi156⟩ := ha0_0.at g147 gx148
          obtain ⟨v157, rfl, h158⟩ := hr155
          have h158 : Ro Rp.int W f151 v157 x146 := h158
          refine op_g ha rfl (hi156.gives sl22 rfl rfl) ?_; clear ha a; intro a ha
          refine op_g ha rfl (g_load0 hE82 Tryd.isAgg31 rfl hat154.one) ?_; clear ha a; intro a ha
          refine op_g ha rfl (g_move rfl) ?_; clear ha a; intro a ha
          obtain ⟨x160, hc161, hF⟩ := cal_some hF
          refine o_call ha rfl rfl Tryd.call60 (W_spec_l1Set (h158.ext hE82) hI14 hc161) ?_; clear ha a; rintro v162 w163 ⟨rfl, hx164⟩ a ha
          replace hB78 := hB78.ext hx164
          have hE165 := Ext.trans hE82 hx164
          refine op_g ha rfl (g_not rfl) ?_; clear ha a; intro a ha
          refine op_g ha rfl (g_move rfl) ?_; clear ha a; intro a ha
          by_cases hp166 : ¬ (x160 = true)
          · replace hF := if_t hp166 hF
            rw [show (!x160) = true from (n_iff (Iff.rfl)).2 hp166] at ha
            refine op_unwant ha rfl (yields ha rfl rfl) rfl ?_; clear ha a; intro a ha
            refine op_unwant ha rfl (yields ha rfl rfl) rfl ?_; clear ha a; intro a ha
            refine op_unwant ha rfl (yields ha rfl rfl) rfl ?_; clear ha a; intro a ha
            refine op_unwant ha rfl (yields ha rfl rfl) rfl ?_; clear ha a; intro a ha
            refine op_unwant ha rfl (yields ha rfl rfl) rfl ?_; clear ha a; intro a ha
            refine op_unwant ha rfl (yields ha rfl rfl) rfl ?_; clear ha a; intro a ha
            refine op_unwant ha rfl (yields ha rfl rfl) rfl ?_; clear ha a; intro a ha
            refine op_g ha rfl (g_pick rfl rfl) ?_; clear ha a; intro a ha
            refine wpList_nil ?_
            replace ha := ha.sub (σ' := [(1, (.pointer (some ⟨b1, 0, none⟩))), (3, (.int .i64 x9)), (4, (.int .i64 i80)), (33, (.bool true))]) ⟨rfl, rfl, rfl, rfl, trivial⟩
            refine e_then ?_
            refine c_true ha rfl ?_
            refine wp_seq ?_
            refine wp_region_lit ?_
            refine op_g ha rfl (g_assign rfl) ?_; clear ha a; intro a ha
            refine wpList_nil ?_
            replace ha := ha.sub (σ' := [(2, (.bool false))]) ⟨rfl, trivial⟩
            refine e_then ?_
            refine wp_ret ?_
            refine e_blk_ret ?_
            refine e_then_ret ?_
            refine e_lq_ret ?_
            refine e_then_ret ?_
            obtain rfl := Option.some.inj hF
            have e167 := LK_inr hN142; subst e167
            have e168 := BK_inr hK138; subst e168
            exact f_ret1 ha rfl rfl ⟨rfl, hE165⟩
          · replace hF := if_f hp166 hF
            rw [show (!x160) = false from b_false (n_iff (Iff.rfl)) hp166] at ha
            refine op_want (yields ha rfl rfl) ?_
            refine op_g ha rfl (g_field0 st27_0 rfl) ?_; clear ha a; intro a ha
            refine op_want (yields ha rfl rfl) ?_
            refine op_g ha rfl (g_load Tryd.isAgg22 rfl (hB78.cell rfl)) ?_; clear ha a; intro a ha
            refine op_want (yields ha rfl rfl) ?_
            refine op_g ha rfl (g_move rfl) ?_; clear ha a; intro a ha
            refine op_want (yields ha rfl rfl) ?_
            obtain ⟨x169, g170, gx171, hF⟩ := idx_some hF
            obtain ⟨p172, cs173, f174, hf175, hpb176, hat177, hr178, hi179⟩ := ha0_0.at g170 gx171
            obtain ⟨v180, rfl, h181⟩ := hr178
            have h181 : Ro Rp.int W f174 v180 x169 := h181
            refine op_g ha rfl (hi179.gives sl22 rfl rfl) ?_; clear ha a; intro a ha
            refine op_want (yields ha rfl rfl) ?_
            refine op_g ha rfl (g_load0 hE165 Tryd.isAgg31 rfl hat177.one) ?_; clear ha a; intro a ha
            refine op_want (yields ha rfl rfl) ?_
            refine op_g ha rfl (g_move rfl) ?_; clear ha a; intro a ha
            refine op_want (yields ha rfl rfl) ?_
            obtain ⟨x183, hc184, hF⟩ := cal_some hF
            refine o_call ha rfl rfl Tryd.call68 (W_spec_l1Has (h181.ext hE165) hI81 hc184) ?_; clear ha a; rintro v185 w186 ⟨rfl, hx187⟩ a ha
            replace hB78 := hB78.ext hx187
            have hE188 := Ext.trans hE165 hx187
            refine op_g ha rfl (g_pick rfl rfl) ?_; clear ha a; intro a ha
            refine wpList_nil ?_
            replace ha := ha.sub (σ' := [(1, (.pointer (some ⟨b1, 0, none⟩))), (3, (.int .i64 x9)), (4, (.int .i64 i80)), (26, (.pointer (some ⟨b1, 0, none⟩))), (27, va0_0), (28, (.int .i64 i80)), (29, (.pointer (some p172))), (30, v180), (31, (.int .i64 i80)), (32, (.bool x183)), (33, (.bool x183))]) ⟨rfl, rfl, rfl, rfl, rfl, rfl, rfl, rfl, rfl, rfl, rfl, trivial⟩
            refine e_then ?_
            refine c_cond (x183 = true) ha rfl (Iff.rfl) (fun hp189 => ?_) (fun hp189 => ?_)
            · replace hF := if_t hp189 hF
              refine wp_seq ?_
              refine wp_region_lit ?_
              refine op_g ha rfl (g_assign rfl) ?_; clear ha a; intro a ha
              refine wpList_nil ?_
              replace ha := ha.sub (σ' := [(2, (.bool false))]) ⟨rfl, trivial⟩
              refine e_then ?_
              refine wp_ret ?_
              refine e_blk_ret ?_
              refine e_then_ret ?_
              refine e_lq_ret ?_
              refine e_then_ret ?_
              obtain rfl := Option.some.inj hF
              have e190 := LK_inr hN142; subst e190
              have e191 := BK_inr hK138; subst e191
              exact f_ret1 ha rfl rfl ⟨rfl, hE188⟩
            · replace hF := if_f hp189 hF
              refine wp_skip ?_
              refine e_blk ?_
              refine e_then ?_
              refine wp_region_lit ?_
              refine op_g ha rfl (g_move rfl) ?_; clear ha a; intro a ha
              obtain ⟨hI192, hF⟩ := ck_some hF
              refine op_g ha rfl (g_add rfl rfl hI192) ?_; clear ha a; intro a ha
              refine op_g ha rfl (g_assign rfl) ?_; clear ha a; intro a ha
              refine wpList_nil ?_
              replace ha := ha.sub (σ' := [(1, (.pointer (some ⟨b1, 0, none⟩))), (3, (.int .i64 x9)), (4, (.int .i64 (i80 + 1))), (26, (.pointer (some ⟨b1, 0, none⟩))), (27, va0_0), (28, (.int .i64 i80)), (29, (.pointer (some p172))), (30, v180), (31, (.int .i64 i80)), (32, (.bool x183))]) ⟨rfl, rfl, rfl, rfl, rfl, rfl, rfl, rfl, rfl, rfl, trivial⟩
              refine e_lq ?_
              obtain rfl := Option.some.inj hF
              exact ⟨_, Nat.lt_succ_self _, i80 + 1, ha.sub ⟨rfl, rfl, rfl, trivial⟩, hE188, hI192, hB78, z79, hN142⟩
        · replace hF := if_f hp145 hF
          refine wp_exit ?_
          refine e_then_exit ?_
          refine e_lq_eq ?_
          obtain rfl := Option.some.inj hF
          exact ⟨ha.sub ⟨rfl, rfl, trivial⟩, hE82, hB78, z79, (LK_inr hN142).symm⟩
    · rintro a w133 ⟨ha, hE141, hB134, z135, rfl⟩
      have hF : F_spec_GraphOk_k2 a0_0 x9 = some _ := hK138; clear hK138; unfold F_spec_GraphOk_k2 at hF
      refine e_then ?_
      refine wp_seq ?_
      refine wp_seq ?_
      refine wp_region_lit ?_
      refine op_g ha rfl (g_assign rfl) ?_; clear ha a; intro a ha
      refine wpList_nil ?_
      refine e_then ?_
      obtain ⟨o675, ho676, hK677⟩ := bnd_some hF
      obtain ⟨n678, hn679⟩ := lp_some ho676; clear ho676
      refine c_loop (fun a w => Fr 64 [] a ∧ Chg [] W w ∧ o675 = .inl ()) (fun n a w => ∃ (i436 : Int), Fr 64 [(1, (.pointer (some ⟨b1, 0, none⟩))), (3, (.int .i64 x9)), (5, (.int .i64 i436))] a ∧ Chg [] W w ∧ InI i436 ∧ Bx w b1 [va0_0] 27 ∧ Zn W (b1 : Int) ∧ lpN (fun s => F_spec_GraphOk_l3 a0_0 x9 s) n i436 = some o675) n678 ⟨0, ha.sub ⟨rfl, rfl, rfl, trivial⟩, hE141, (show InI 0 from by decide), hB134, z135, hn679⟩ ?_ ?_
      · rintro m683 a w433 ⟨i436, ha, hE438, hI437, hB434, z435, hF⟩
        cases m683 with
        | zero => exact (lpN_zero hF).elim
        | succ m683 =>
          obtain ⟨z682, hF, hN681⟩ := lpN_succ hF
          have hF : F_spec_GraphOk_l3 a0_0 x9 i436 = some z682 := hF; unfold F_spec_GraphOk_l3 at hF
          refine wp_seq ?_
          refine wp_seq ?_
          refine wp_region_lit ?_
          refine op_g ha rfl (g_move rfl) ?_; clear ha a; intro a ha
          refine op_g ha rfl (g_move rfl) ?_; clear ha a; intro a ha
          refine op_g ha rfl (g_lss rfl rfl) ?_; clear ha a; intro a ha
          refine wpList_nil ?_
          replace ha := ha.sub (σ' := [(1, (.pointer (some ⟨b1, 0, none⟩))), (3, (.int .i64 x9)), (5, (.int .i64 i436)), (36, (.bool (decide (i436 < x9))))]) ⟨rfl, rfl, rfl, rfl, trivial⟩
          refine e_then ?_
          refine c_cond (i436 < x9) ha rfl (decide_eq_true_iff) (fun hp684 => ?_) (fun hp684 => ?_)
          · replace hF := if_t hp684 hF
            refine wp_skip ?_
            refine e_then ?_
            refine wp_seq ?_
            refine wp_block ?_
            refine wp_seq ?_
            refine wp_region_lit ?_
            refine op_g ha rfl (g_assign rfl) ?_; clear ha a; intro a ha
            refine wpList_nil ?_
            replace ha := ha.sub (σ' := [(1, (.pointer (some ⟨b1, 0, none⟩))), (3, (.int .i64 x9)), (5, (.int .i64 i436)), (6, (.int .i64 0))]) ⟨rfl, rfl, rfl, rfl, trivial⟩
            refine e_then ?_
            obtain ⟨o838, ho839, hK840⟩ := bnd_some hF
            obtain ⟨n841, hn842⟩ := lp_some ho839; clear ho839
            refine c_loop (fun a w => Fr 64 [(1, (.pointer (some ⟨b1, 0, none⟩))), (3, (.int .i64 x9)), (5, (.int .i64 i436))] a ∧ Chg [] W w ∧ Bx w b1 [va0_0] 27 ∧ Zn W (b1 : Int) ∧ o838 = .inl ()) (fun n a w => ∃ (i762 : Int), Fr 64 [(1, (.pointer (some ⟨b1, 0, none⟩))), (3, (.int .i64 x9)), (5, (.int .i64 i436)), (6, (.int .i64 i762))] a ∧ Chg [] W w ∧ InI i762 ∧ Bx w b1 [va0_0] 27 ∧ Zn W (b1 : Int) ∧ lpN (fun s => F_spec_GraphOk_l4 a0_0 i436 s) n i762 = some o838) n841 ⟨0, ha.sub ⟨rfl, rfl, rfl, rfl, trivial⟩, hE438, (show InI 0 from by decide), hB434, z435, hn842⟩ ?_ ?_
            · rintro m846 a w759 ⟨i762, ha, hE764, hI763, hB760, z761, hF⟩
              cases m846 with
              | zero => exact (lpN_zero hF).elim
              | succ m846 =>
                obtain ⟨z845, hF, hN844⟩ := lpN_succ hF
                have hF : F_spec_GraphOk_l4 a0_0 i436 i762 = some z845 := hF; unfold F_spec_GraphOk_l4 at hF
                refine wp_seq ?_
                refine wp_seq ?_
                refine wp_region_lit ?_
                refine op_g ha rfl (g_move rfl) ?_; clear ha a; intro a ha
                refine op_g ha rfl (g_field0 st27_0 rfl) ?_; clear ha a; intro a ha
                refine op_g ha rfl (g_load Tryd.isAgg22 rfl (hB760.cell rfl)) ?_; clear ha a; intro a ha
                refine op_g ha rfl (g_move rfl) ?_; clear ha a; intro a ha
                obtain ⟨x847, g848, gx849, hF⟩ := idx_some hF
                obtain ⟨p850, cs851, f852, hf853, hpb854, hat855, hr856, hi857⟩ := ha0_0.at g848 gx849
                obtain ⟨v858, rfl, h859⟩ := hr856
                have h859 : Ro Rp.int W f852 v858 x847 := h859
                refine op_g ha rfl (hi857.gives sl22 rfl rfl) ?_; clear ha a; intro a ha
                refine op_g ha rfl (g_load0 hE764 Tryd.isAgg31 rfl hat855.one) ?_; clear ha a; intro a ha
                refine op_g ha rfl (g_lenR sl31.und h859 rfl) ?_; clear ha a; intro a ha
                refine op_g ha rfl (g_lss rfl rfl) ?_; clear ha a; intro a ha
                refine wpList_nil ?_
                replace ha := ha.sub (σ' := [(1, (.pointer (some ⟨b1, 0, none⟩))), (3, (.int .i64 x9)), (5, (.int .i64 i436)), (6, (.int .i64 i762)), (46, (.bool (decide (i762 < (x847.length : Int)))))]) ⟨rfl, rfl, rfl, rfl, rfl, trivial⟩
                refine e_then ?_
                refine c_cond (i762 < (x847.length : Int)) ha rfl (decide_eq_true_iff) (fun hp861 => ?_) (fun hp861 => ?_)
                · replace hF := if_t hp861 hF
                  refine wp_skip ?_
                  refine e_then ?_
                  refine wp_seq ?_
                  refine wp_block ?_
                  refine wp_seq ?_
                  refine d_quiet hmix (by kernel_rfl) ?_
                  refine q_g ha rfl (g_field0 st27_0 rfl) ?_; clear ha a; intro a ha
                  refine q_g ha rfl (g_load Tryd.isAgg22 rfl (hB760.cell rfl)) ?_; clear ha a; intro a ha
                  refine q_g ha rfl (g_field0 st27_0 rfl) ?_; clear ha a; intro a ha
                  refine q_g ha rfl (g_load Tryd.isAgg22 rfl (hB760.cell rfl)) ?_; clear ha a; intro a ha
                  refine q_g ha rfl (g_move rfl) ?_; clear ha a; intro a ha
                  obtain ⟨x862, g863, gx864, hF⟩ := idx_some hF
                  obtain ⟨p865, cs866, f867, hf868, hpb869, hat870, hr871, hi872⟩ := ha0_0.at g863 gx864
                  obtain ⟨v873, rfl, h874⟩ := hr871
                  have h874 : Ro Rp.int W f867 v873 x862 := h874
                  refine q_g ha rfl (hi872.gives sl22 rfl rfl) ?_; clear ha a; intro a ha
                  refine q_g ha rfl (g_load0 hE764 Tryd.isAgg31 rfl hat870.one) ?_; clear ha a; intro a ha
                  refine q_g ha rfl (g_move rfl) ?_; clear ha a; intro a ha
                  obtain ⟨x876, g877, gx878, hF⟩ := idx_some hF
                  obtain ⟨p879, cs880, f881, hf882, hpb883, hat884, hr885, hi886⟩ := h874.at g877 gx878
                  obtain ⟨rfl, hI887, rfl⟩ := hr885
                  refine q_g ha rfl (hi886.gives sl31 rfl rfl) ?_; clear ha a; intro a ha
                  refine q_g ha rfl (g_load0 hE764 Tryd.isAgg2 rfl hat884.one) ?_; clear ha a; intro a ha
                  obtain ⟨x888, g889, gx890, hF⟩ := idx_some hF
                  obtain ⟨p891, cs892, f893, hf894, hpb895, hat896, hr897, hi898⟩ := ha0_0.at g889 gx890
                  obtain ⟨v899, rfl, h900⟩ := hr897
                  have h900 : Ro Rp.int W f893 v899 x888 := h900
                  refine q_g ha rfl (hi898.gives sl22 rfl rfl) ?_; clear ha a; intro a ha
                  refine q_g ha rfl (g_load0 hE764 Tryd.isAgg31 rfl hat896.one) ?_; clear ha a; intro a ha
                  refine q_g ha rfl (g_move rfl) ?_; clear ha a; intro a ha
                  obtain ⟨x904, hc905, hF⟩ := cal_some hF
                  refine q_call (.bool x904) ha rfl rfl Tryd.call68 (fun w903 hx902 => W_spec_l1Has (h900.ext (Ext.trans hE764 hx902)) hI437 hc905) (fun _ _ _ h => ⟨h.1, h.2⟩) ?_; clear ha a; intro a ha
                  refine q_g ha rfl (g_not rfl) ?_; clear ha a; intro a ha
                  refine q_nil ?_; intro w906 hx907
                  replace hB760 := hB760.ext hx907
                  have hE908 := Ext.trans hE764 hx907
                  replace ha := ha.sub (σ' := [(1, (.pointer (some ⟨b1, 0, none⟩))), (3, (.int .i64 x9)), (5, (.int .i64 i436)), (6, (.int .i64 i762)), (63, (.bool (!x904)))]) ⟨rfl, rfl, rfl, rfl, rfl, trivial⟩
                  refine e_then ?_
                  refine c_cond (¬ (x904 = true)) ha rfl (n_iff (Iff.rfl)) (fun hp909 => ?_) (fun hp909 => ?_)
                  · replace hF := if_t hp909 hF
                    refine wp_seq ?_
                    refine wp_region_lit ?_
                    refine op_g ha rfl (g_assign rfl) ?_; clear ha a; intro a ha
                    refine wpList_nil ?_
                    replace ha := ha.sub (σ' := [(2, (.bool false))]) ⟨rfl, trivial⟩
                    refine e_then ?_
                    refine wp_ret ?_
                    refine e_blk_ret ?_
                    refine e_then_ret ?_
                    refine e_lq_ret ?_
                    refine e_blk_ret ?_
                    refine e_then_ret ?_
                    refine e_lq_ret ?_
                    refine e_then_ret ?_
                    obtain rfl := Option.some.inj hF
                    have e910 := LK_inr hN844; subst e910
                    have e911 := BK_inr hK840; subst e911
                    have e912 := LK_inr hN681; subst e912
                    have e913 := BK_inr hK677; subst e913
                    exact f_ret1 ha rfl rfl ⟨rfl, hE908⟩
                  · replace hF := if_f hp909 hF
                    refine wp_skip ?_
                    refine e_blk ?_
                    refine e_then ?_
                    refine wp_region_lit ?_
                    refine op_g ha rfl (g_move rfl) ?_; clear ha a; intro a ha
                    obtain ⟨hI914, hF⟩ := ck_some hF
                    refine op_g ha rfl (g_add rfl rfl hI914) ?_; clear ha a; intro a ha
                    refine op_g ha rfl (g_assign rfl) ?_; clear ha a; intro a ha
                    refine wpList_nil ?_
                    replace ha := ha.sub (σ' := [(1, (.pointer (some ⟨b1, 0, none⟩))), (3, (.int .i64 x9)), (5, (.int .i64 i436)), (6, (.int .i64 (i762 + 1)))]) ⟨rfl, rfl, rfl, rfl, trivial⟩
                    refine e_lq ?_
                    obtain rfl := Option.some.inj hF
                    exact ⟨_, Nat.lt_succ_self _, i762 + 1, ha.sub ⟨rfl, rfl, rfl, rfl, trivial⟩, hE908, hI914, hB760, z761, hN844⟩
                · replace hF := if_f hp861 hF
                  refine wp_exit ?_
                  refine e_then_exit ?_
                  refine e_lq_eq ?_
                  obtain rfl := Option.some.inj hF
                  exact ⟨ha.sub ⟨rfl, rfl, rfl, trivial⟩, hE764, hB760, z761, (LK_inr hN844).symm⟩
            · rintro a w835 ⟨ha, hE843, hB836, z837, rfl⟩
              have hF : F_spec_GraphOk_k5 i436 = some _ := hK840; clear hK840; unfold F_spec_GraphOk_k5 at hF
              refine e_blk ?_
              refine e_then ?_
              refine wp_region_lit ?_
              refine op_g ha rfl (g_move rfl) ?_; clear ha a; intro a ha
              obtain ⟨hI916, hF⟩ := ck_some hF
              refine op_g ha rfl (g_add rfl rfl hI916) ?_; clear ha a; intro a ha
              refine op_g ha rfl (g_assign rfl) ?_; clear ha a; intro a ha
              refine wpList_nil ?_
              replace ha := ha.sub (σ' := [(1, (.pointer (some ⟨b1, 0, none⟩))), (3, (.int .i64 x9)), (5, (.int .i64 (i436 + 1)))]) ⟨rfl, rfl, rfl, trivial⟩
              refine e_lq ?_
              obtain rfl := Option.some.inj hF
              exact ⟨_, Nat.lt_succ_self _, i436 + 1, ha.sub ⟨rfl, rfl, rfl, trivial⟩, hE843, hI916, hB836, z837, hN681⟩
          · replace hF := if_f hp684 hF
            refine wp_exit ?_
            refine e_then_exit ?_
            refine e_lq_eq ?_
            obtain rfl := Option.some.inj hF
            exact ⟨ha.sub trivial, hE438, (LK_inr hN681).symm⟩
      · rintro a w674 ⟨ha, hE680, rfl⟩
        have hF : F_spec_GraphOk_k6 = some _ := hK677; clear hK677; unfold F_spec_GraphOk_k6 at hF
        refine e_then ?_
        refine wp_seq ?_
        refine wp_region_lit ?_
        refine op_g ha rfl (g_assign rfl) ?_; clear ha a; intro a ha
        refine wpList_nil ?_
        refine e_then ?_
        refine wp_ret ?_
        obtain rfl := Option.some.inj hF
        exact f_ret1 ha rfl rfl ⟨rfl, hE680⟩
set_option maxHeartbeats 2000000 in
theorem W_spec_l26None {W : World} {a0 : Int} (ha0 : InI a0) {r : (List Int)} (hF : F_spec_l26None a0 = some r) :
    Calls Tryd.prog 78 [.int .i64 a0].toArray W (Ret fun u w' => ∃ (b_u : Int), Ow Rp.int 2 true w' [] b_u u r ∧ Zn W b_u ∧ Ext W w') := by
  refine f_enter Tryd.func78 rfl Tryd.ntmps78 rfl ?_
  intro a ha
  replace ha : Fr 15 [(0, (.int .i64 a0))] a := ha
  have hE : Chg [] W W := Chg.refl _ _
  unfold F_spec_l26None at hF
  refine wp_seq ?_
  refine wp_region_lit ?_
  refine op_g ha rfl (g_assign rfl) ?_; clear ha a; intro a ha
  refine wpList_nil ?_
  replace ha := ha.sub (σ' := [(0, (.int .i64 a0))]) ⟨rfl, trivial⟩
  refine e_then ?_
  refine wp_seq ?_
  refine wp_region_lit ?_
  refine o_lit0 Rp.int ha rfl sl31 ?_; clear ha a; intro v1 w2 h3 hx4 a ha
  obtain ⟨b6, hb6⟩ : ∃ b : Int, b = W.heap.size := ⟨_, rfl⟩; rw [← hb6] at h3
  have q7 := zn_of hb6
  have q8 := Zn.upD q7 hE
  have hE9 := Ext.trans hE hx4
  refine op_g ha rfl (g_assign rfl) ?_; clear ha a; intro a ha
  refine wpList_nil ?_
  replace ha := ha.sub (σ' := [(0, (.int .i64 a0)), (3, v1)]) ⟨rfl, rfl, trivial⟩
  refine e_then ?_
  refine wp_seq ?_
  refine wp_seq ?_
  refine wp_region_lit ?_
  refine op_g ha rfl (g_assign rfl) ?_; clear ha a; intro a ha
  refine wpList_nil ?_
  refine e_then ?_
  obtain ⟨o102, ho103, hK104⟩ := bnd_some hF
  obtain ⟨n105, hn106⟩ := lp_some ho103; clear ho103
  refine c_loop (fun a w => ∃ (l99 : (List Int)) (v100 : Value) (b101 : Int), Fr 15 [(3, v100)] a ∧ Chg [] W w ∧ Ow Rp.int 2 true w [] b101 v100 l99 ∧ Zn W b101 ∧ o102 = .inl l99) (fun n a w => ∃ (l54 : (List Int)) (i57 : Int) (v55 : Value) (b56 : Int), Fr 15 [(0, (.int .i64 a0)), (3, v55), (4, (.int .i64 i57))] a ∧ Chg [] W w ∧ InI i57 ∧ Ow Rp.int 2 true w [] b56 v55 l54 ∧ Zn W b56 ∧ lpN (fun s => F_spec_l26None_l1 a0 s.1 s.2) n (l54, i57) = some o102) n105 ⟨([] : (List Int)), 0, v1, b6, ha.sub ⟨rfl, rfl, rfl, trivial⟩, hE9, (show InI 0 from by decide), h3, q8, hn106⟩ ?_ ?_
  · rintro m110 a w50 ⟨l54, i57, v55, b56, ha, hE59, hI58, h52, z53, hF⟩
    cases m110 with
    | zero => exact (lpN_zero hF).elim
    | succ m110 =>
      obtain ⟨z109, hF, hN108⟩ := lpN_succ hF
      have hF : F_spec_l26None_l1 a0 l54 i57 = some z109 := hF; unfold F_spec_l26None_l1 at hF
      refine wp_seq ?_
      refine wp_seq ?_
      refine wp_region_lit ?_
      refine op_g ha rfl (g_move rfl) ?_; clear ha a; intro a ha
      refine op_g ha rfl (g_move rfl) ?_; clear ha a; intro a ha
      refine op_g ha rfl (g_lss rfl rfl) ?_; clear ha a; intro a ha
      refine wpList_nil ?_
      replace ha := ha.sub (σ' := [(0, (.int .i64 a0)), (3, v55), (4, (.int .i64 i57)), (8, (.bool (decide (i57 < a0))))]) ⟨rfl, rfl, rfl, rfl, trivial⟩
      refine e_then ?_
      refine c_cond (i57 < a0) ha rfl (decide_eq_true_iff) (fun hp111 => ?_) (fun hp111 => ?_)
      · replace hF := if_t hp111 hF
        refine wp_skip ?_
        refine e_then ?_
        refine wp_seq ?_
        refine wp_block ?_
        refine wp_region_lit ?_
        refine op_g ha rfl (g_move rfl) ?_; clear ha a; intro a ha
        refine o_lit1 (o := true) (y := (-1)) Rp.int ha rfl sl31 rfl rfl rfl ⟨rfl, (show InI (-1) from by decide), rfl⟩ ?_; clear ha a; intro v112 w113 h114 hx115 a ha
        obtain ⟨b117, hb117⟩ : ∃ b : Int, b = w50.heap.size := ⟨_, rfl⟩; rw [← hb117] at h114
        have q118 := zn_of hb117
        have q119 := Nq.new h52.fpb q118
        have q120 := Nq.madeO q118 h52.blt
        have q121 := Zn.upD q118 hE59
        replace h52 := h52.ext hx115
        have hE122 := Ext.trans hE59 hx115
        obtain ⟨hl123, hF⟩ := app_some hF
        refine o_append ha rfl sl31 rfl rfl rfl h52 h114.src (Nq.nil _) hl123 ?_; clear ha a; intro v124 w125 b126 h127 hc128 hb129 a ha
        replace h127 : Ow Rp.int 2 true w125 [] b126 v124 _ := h127
        have q131 := Nq.appY q120 h114.fpb hb129
        have q132 := Nq.appX q119 (Nq.nil _) hb129 h114.blt
        have q133 := Zn.appD z53 hb129 hE122
        replace h114 := h114.nq hc128 q120
        have hE134 := Ext.then hE122 hc128 (Zn.bl z53)
        refine op_g ha rfl (g_assign rfl) ?_; clear ha a; intro a ha
        refine wpList_nil ?_
        replace ha := ha.sub (σ' := [(0, (.int .i64 a0)), (3, v124), (4, (.int .i64 i57))]) ⟨rfl, rfl, rfl, trivial⟩
        refine e_blk ?_
        refine e_then ?_
        refine wp_region_lit ?_
        refine op_g ha rfl (g_move rfl) ?_; clear ha a; intro a ha
        obtain ⟨hI135, hF⟩ := ck_some hF
        refine op_g ha rfl (g_add rfl rfl hI135) ?_; clear ha a; intro a ha
        refine op_g ha rfl (g_assign rfl) ?_; clear ha a; intro a ha
        refine wpList_nil ?_
        replace ha := ha.sub (σ' := [(0, (.int .i64 a0)), (3, v124), (4, (.int .i64 (i57 + 1)))]) ⟨rfl, rfl, rfl, trivial⟩
        refine e_lq ?_
        obtain rfl := Option.some.inj hF
        exact ⟨_, Nat.lt_succ_self _, (l54 ++ ([(-1)])), i57 + 1, v124, b126, ha.sub ⟨rfl, rfl, rfl, trivial⟩, hE134, hI135, h127, q133, hN108⟩
      · replace hF := if_f hp111 hF
        refine wp_exit ?_
        refine e_then_exit ?_
        refine e_lq_eq ?_
        obtain rfl := Option.some.inj hF
        exact ⟨l54, v55, b56, ha.sub ⟨rfl, trivial⟩, hE59, h52, z53, (LK_inr hN108).symm⟩
  · rintro a w95 ⟨l99, v100, b101, ha, hE107, h97, z98, rfl⟩
    have hF : F_spec_l26None_k2 l99 = some _ := hK104; clear hK104; unfold F_spec_l26None_k2 at hF
    refine e_then ?_
    refine wp_seq ?_
    refine wp_region_lit ?_
    refine op_g ha rfl (g_move rfl) ?_; clear ha a; intro a ha
    refine op_g ha rfl (g_assign rfl) ?_; clear ha a; intro a ha
    refine wpList_nil ?_
    replace ha := ha.sub (σ' := [(2, v100)]) ⟨rfl, trivial⟩
    refine e_then ?_
    refine wp_ret ?_
    obtain rfl := Option.some.inj hF
    exact f_ret1 ha rfl rfl ⟨_, h97, z98, hE107⟩
set_option maxHeartbeats 2000000 in
theorem W_spec_l1Copy {W : World} {va0 : Value} {fa0 : List Nat} {a0 : (List Int)} (ha0 : Ro Rp.int W fa0 va0 a0) {r : (List Int)} (hF : F_spec_l1Copy a0 = some r) :
    Calls Tryd.prog 90 [va0].toArray W (Ret fun u w' => ∃ (b_u : Int), Ow Rp.int 2 true w' [] b_u u r ∧ Zn W b_u ∧ Ext W w') := by
  refine f_enter Tryd.func90 rfl Tryd.ntmps90 rfl ?_
  intro a ha
  replace ha : Fr 6 [(0, va0)] a := ha
  have hE : Chg [] W W := Chg.refl _ _
  unfold F_spec_l1Copy at hF
  refine wp_seq ?_
  refine wp_region_lit ?_
  refine op_g ha rfl (g_assign rfl) ?_; clear ha a; intro a ha
  refine wpList_nil ?_
  replace ha := ha.sub (σ' := [(0, va0)]) ⟨rfl, trivial⟩
  refine e_then ?_
  refine wp_seq ?_
  refine wp_region_lit ?_
  refine o_lit0 Rp.int ha rfl sl31 ?_; clear ha a; intro v1 w2 h3 hx4 a ha
  obtain ⟨b6, hb6⟩ : ∃ b : Int, b = W.heap.size := ⟨_, rfl⟩; rw [← hb6] at h3
  have q7 := zn_of hb6
  have q8 := Zn.upD q7 hE
  have hE9 := Ext.trans hE hx4
  refine op_g ha rfl (g_move rfl) ?_; clear ha a; intro a ha
  obtain ⟨hl10, hF⟩ := app_some hF
  obtain ⟨_, hs11, _⟩ := (ha0.ext hE9).src
  refine o_append ha rfl sl31 rfl rfl rfl h3 (hs11.up scal_int) (Nq.nil _) hl10 ?_; clear ha a; intro v12 w13 b14 h15 hc16 hb17 a ha
  replace h15 : Ow Rp.int 2 true w13 [] b14 v12 _ := h15
  have q19 := Zn.appD q8 hb17 hE9
  have hE20 := Ext.then hE9 hc16 (Zn.bl q8)
  refine op_g ha rfl (g_assign rfl) ?_; clear ha a; intro a ha
  refine wpList_nil ?_
  replace ha := ha.sub (σ' := [(2, v12)]) ⟨rfl, trivial⟩
  refine e_then ?_
  refine wp_ret ?_
  obtain rfl := Option.some.inj hF
  exact f_ret1 ha rfl rfl ⟨_, h15, q19, hE20⟩
set_option maxHeartbeats 2000000 in
theorem W_spec_l26Try_step {rc : (List (List Int)) → (List Int) → Int → Int → Int → Option ((List Int) × Bool)} (ih : ∀ {W : World} {va0_0 : Value} {fa0_0 : List Nat} {a0_0 : (List (List Int))} (ha0_0 : Ro (Rp.sl 2 Rp.int) W fa0_0 va0_0 a0_0) {va1 : Value} {fa1 : List Nat} {a1 : (List Int)} (ha1 : Ro Rp.int W fa1 va1 a1) {a2 : Int} (ha2 : InI a2) {a3 : Int} (ha3 : InI a3) {a4 : Int} (ha4 : InI a4) {r : ((List Int) × Bool)} (hF : rc a0_0 a1 a2 a3 a4 = some r),
    Calls Tryd.prog 77 [.agg #[va0_0], va1, .int .i64 a2, .int .i64 a3, .int .i64 a4].toArray W (Ret fun u w' => ∃ (u0 : Value) (u1 : Value) (fp_u0 : List Nat), u = .tuple #[u0, u1] ∧ Ro Rp.int w' fp_u0 u0 r.1 ∧ Pv (fa0_0 ++ fa1) W.heap.size fp_u0 ∧ u1 = .bool r.2 ∧ Ext W w')) {W : World} {va0_0 : Value} {fa0_0 : List Nat} {a0_0 : (List (List Int))} (ha0_0 : Ro (Rp.sl 2 Rp.int) W fa0_0 va0_0 a0_0) {va1 : Value} {fa1 : List Nat} {a1 : (List Int)} (ha1 : Ro Rp.int W fa1 va1 a1) {a2 : Int} (ha2 : InI a2) {a3 : Int} (ha3 : InI a3) {a4 : Int} (ha4 : InI a4) {r : ((List Int) × Bool)} (hF : F_spec_l26Try_body rc a0_0 a1 a2 a3 a4 = some r) :
    Calls Tryd.prog 77 [.agg #[va0_0], va1, .int .i64 a2, .int .i64 a3, .int .i64 a4].toArray W (Ret fun u w' => ∃ (u0 : Value) (u1 : Value) (fp_u0 : List Nat), u = .tuple #[u0, u1] ∧ Ro Rp.int w' fp_u0 u0 r.1 ∧ Pv (fa0_0 ++ fa1) W.heap.size fp_u0 ∧ u1 = .bool r.2 ∧ Ext W w') := by
  refine f_enter Tryd.func77 rfl Tryd.ntmps77 rfl ?_
  intro a ha
  replace ha : Fr 88 [(0, (.agg #[va0_0])), (1, va1), (2, (.int .i64 a2)), (3, (.int .i64 a3)), (4, (.int .i64 a4))] a := ha
  have hE : Chg [] W W := Chg.refl _ _
  unfold F_spec_l26Try_body at hF
  refine wp_seq ?_
  refine wp_region_lit ?_
  refine o_box ha rfl rfl rfl ?_; clear ha a; intro b1 w2 hB3 hx4 hlo5 a ha
  have q6 := Zn.one hlo5
  have q7 := Zn.upD q6 hE
  have hE8 := Ext.trans hE hx4
  refine op_g ha rfl (g_assign rfl) ?_; clear ha a; intro a ha
  refine op_g ha rfl (g_assign rfl) ?_; clear ha a; intro a ha
  refine wpList_nil ?_
  replace ha := ha.sub (σ' := [(1, va1), (2, (.int .i64 a2)), (3, (.int .i64 a3)), (4, (.int .i64 a4)), (5, (.pointer (some ⟨b1, 0, none⟩)))]) ⟨rfl, rfl, rfl, rfl, rfl, trivial⟩
  refine e_then ?_
  refine wp_seq ?_
  refine wp_seq ?_
  refine wp_region_lit ?_
  refine op_g ha rfl (g_move rfl) ?_; clear ha a; intro a ha
  refine op_g ha rfl (g_field0 st27_0 rfl) ?_; clear ha a; intro a ha
  refine op_g ha rfl (g_load Tryd.isAgg22 rfl (hB3.cell rfl)) ?_; clear ha a; intro a ha
  refine op_g ha rfl (g_lenR sl22.und ha0_0 rfl) ?_; clear ha a; intro a ha
  refine op_g ha rfl (g_eql rfl rfl) ?_; clear ha a; intro a ha
  refine wpList_nil ?_
  replace ha := ha.sub (σ' := [(1, va1), (2, (.int .i64 a2)), (3, (.int .i64 a3)), (4, (.int .i64 a4)), (5, (.pointer (some ⟨b1, 0, none⟩))), (23, (.bool (decide (a2 = (a0_0.length : Int)))))]) ⟨rfl, rfl, rfl, rfl, rfl, rfl, trivial⟩
  refine e_then ?_
  refine c_cond (a2 = (a0_0.length : Int)) ha rfl (decide_eq_true_iff) (fun hp9 => ?_) (fun hp9 => ?_)
  · replace hF := if_t hp9 hF
    refine wp_seq ?_
    refine wp_region_lit ?_
    refine op_g ha rfl (g_move rfl) ?_; clear ha a; intro a ha
    refine op_g ha rfl (g_assign rfl) ?_; clear ha a; intro a ha
    refine op_g ha rfl (g_assign rfl) ?_; clear ha a; intro a ha
    refine wpList_nil ?_
    replace ha := ha.sub (σ' := [(10, va1), (11, (.bool true))]) ⟨rfl, rfl, trivial⟩
    refine e_then ?_
    refine wp_ret ?_
    refine e_then_ret ?_
    obtain rfl := Option.some.inj hF
    exact f_ret2 ha rfl rfl rfl ⟨_, _, _, rfl, (ha1.ext hE8), (Pv.par (fun _ h => List.mem_append_right _ h)), rfl, hE8⟩
  · replace hF := if_f hp9 hF
    refine wp_skip ?_
    refine e_then ?_
    refine wp_seq ?_
    refine wp_seq ?_
    refine wp_region_lit ?_
    refine op_g ha rfl (g_assign rfl) ?_; clear ha a; intro a ha
    refine wpList_nil ?_
    replace ha := ha.sub (σ' := [(1, va1), (2, (.int .i64 a2)), (3, (.int .i64 a3)), (4, (.int .i64 a4)), (5, (.pointer (some ⟨b1, 0, none⟩))), (12, (.int .i64 0))]) ⟨rfl, rfl, rfl, rfl, rfl, rfl, trivial⟩
    refine e_then ?_
    obtain ⟨o617, ho618, hK619⟩ := bnd_some hF
    obtain ⟨n620, hn621⟩ := lp_some ho618; clear ho618
    refine c_loop (fun a w => Fr 88 [(1, va1)] a ∧ Chg [] W w ∧ o617 = .inl ()) (fun n a w => ∃ (i315 : Int), Fr 88 [(1, va1), (2, (.int .i64 a2)), (3, (.int .i64 a3)), (4, (.int .i64 a4)), (5, (.pointer (some ⟨b1, 0, none⟩))), (12, (.int .i64 i315))] a ∧ Chg [] W w ∧ InI i315 ∧ Bx w b1 [va0_0] 27 ∧ Zn W (b1 : Int) ∧ lpN (fun s => F_spec_l26Try_l1 a0_0 a1 a2 a3 a4 rc s) n i315 = some o617) n620 ⟨0, ha.sub ⟨rfl, rfl, rfl, rfl, rfl, rfl, trivial⟩, hE8, (show InI 0 from by decide), hB3, q7, hn621⟩ ?_ ?_
    · rintro m625 a w312 ⟨i315, ha, hE317, hI316, hB313, z314, hF⟩
      cases m625 with
      | zero => exact (lpN_zero hF).elim
      | succ m625 =>
        obtain ⟨z624, hF, hN623⟩ := lpN_succ hF
        have hF : F_spec_l26Try_l1 a0_0 a1 a2 a3 a4 rc i315 = some z624 := hF; unfold F_spec_l26Try_l1 at hF
        refine wp_seq ?_
        refine wp_seq ?_
        refine wp_region_lit ?_
        refine op_g ha rfl (g_move rfl) ?_; clear ha a; intro a ha
        refine op_g ha rfl (g_move rfl) ?_; clear ha a; intro a ha
        refine op_g ha rfl (g_lss rfl rfl) ?_; clear ha a; intro a ha
        refine op_g ha rfl (g_move rfl) ?_; clear ha a; intro a ha
        by_cases hp628 : i315 < a4
        · replace hF := if_t hp628 hF
          rw [show (decide (i315 < a4)) = true from (decide_eq_true_iff).2 hp628] at ha
          refine op_want (yields ha rfl rfl) ?_
          refine op_g ha rfl (g_move rfl) ?_; clear ha a; intro a ha
          refine op_want (yields ha rfl rfl) ?_
          refine op_g ha rfl (g_move rfl) ?_; clear ha a; intro a ha
          refine op_want (yields ha rfl rfl) ?_
          refine op_g ha rfl (g_leq rfl rfl) ?_; clear ha a; intro a ha
          refine op_g ha rfl (g_pick rfl rfl) ?_; clear ha a; intro a ha
          refine wpList_nil ?_
          replace ha := ha.sub (σ' := [(1, va1), (2, (.int .i64 a2)), (3, (.int .i64 a3)), (4, (.int .i64 a4)), (5, (.pointer (some ⟨b1, 0, none⟩))), (12, (.int .i64 i315)), (29, (.int .i64 i315)), (30, (.int .i64 a3)), (31, (.bool (decide (i315 ≤ a3)))), (32, (.bool (decide (i315 ≤ a3))))]) ⟨rfl, rfl, rfl, rfl, rfl, rfl, rfl, rfl, rfl, rfl, trivial⟩
          refine e_then ?_
          refine c_cond (i315 ≤ a3) ha rfl (decide_eq_true_iff) (fun hp629 => ?_) (fun hp629 => ?_)
          · replace hF := if_t hp629 hF
            refine wp_skip ?_
            refine e_then ?_
            refine wp_seq ?_
            refine wp_block ?_
            refine wp_seq ?_
            refine wp_region_lit ?_
            refine op_g ha rfl (g_assign rfl) ?_; clear ha a; intro a ha
            refine wpList_nil ?_
            replace ha := ha.sub (σ' := [(1, va1), (2, (.int .i64 a2)), (3, (.int .i64 a3)), (4, (.int .i64 a4)), (5, (.pointer (some ⟨b1, 0, none⟩))), (12, (.int .i64 i315)), (13, (.bool true)), (29, (.int .i64 i315)), (30, (.int .i64 a3)), (31, (.bool (decide (i315 ≤ a3))))]) ⟨rfl, rfl, rfl, rfl, rfl, rfl, rfl, rfl, rfl, rfl, trivial⟩
            refine e_then ?_
            refine wp_seq ?_
            refine wp_seq ?_
            refine wp_region_lit ?_
            refine op_g ha rfl (g_assign rfl) ?_; clear ha a; intro a ha
            refine wpList_nil ?_
            replace ha := ha.sub (σ' := [(1, va1), (2, (.int .i64 a2)), (3, (.int .i64 a3)), (4, (.int .i64 a4)), (5, (.pointer (some ⟨b1, 0, none⟩))), (12, (.int .i64 i315)), (13, (.bool true)), (14, (.int .i64 0)), (29, (.int .i64 i315)), (30, (.int .i64 a3)), (31, (.bool (decide (i315 ≤ a3))))]) ⟨rfl, rfl, rfl, rfl, rfl, rfl, rfl, rfl, rfl, rfl, rfl, trivial⟩
            refine e_then ?_
            obtain ⟨o774, ho775, hK776⟩ := bnd_some hF
            obtain ⟨n777, hn778⟩ := lp_some ho775; clear ho775
            refine c_loop (fun a w => ∃ (t773 : Bool), Fr 88 [(1, va1), (2, (.int .i64 a2)), (3, (.int .i64 a3)), (4, (.int .i64 a4)), (5, (.pointer (some ⟨b1, 0, none⟩))), (12, (.int .i64 i315)), (13, (.bool t773)), (29, (.int .i64 i315)), (30, (.int .i64 a3)), (31, (.bool (decide (i315 ≤ a3))))] a ∧ Chg [] W w ∧ Bx w b1 [va0_0] 27 ∧ Zn W (b1 : Int) ∧ o774 = .inl t773) (fun n a w => ∃ (t700 : Bool) (i701 : Int), Fr 88 [(1, va1), (2, (.int .i64 a2)), (3, (.int .i64 a3)), (4, (.int .i64 a4)), (5, (.pointer (some ⟨b1, 0, none⟩))), (12, (.int .i64 i315)), (13, (.bool t700)), (14, (.int .i64 i701)), (29, (.int .i64 i315)), (30, (.int .i64 a3)), (31, (.bool (decide (i315 ≤ a3))))] a ∧ Chg [] W w ∧ InI i701 ∧ Bx w b1 [va0_0] 27 ∧ Zn W (b1 : Int) ∧ lpN (fun s => F_spec_l26Try_l2 a0_0 a1 a2 i315 s.1 s.2) n (t700, i701) = some o774) n777 ⟨true, 0, ha.sub ⟨rfl, rfl, rfl, rfl, rfl, rfl, rfl, rfl, rfl, rfl, rfl, trivial⟩, hE317, (show InI 0 from by decide), hB313, z314, hn778⟩ ?_ ?_
            · rintro m782 a w697 ⟨t700, i701, ha, hE703, hI702, hB698, z699, hF⟩
              cases m782 with
              | zero => exact (lpN_zero hF).elim
              | succ m782 =>
                obtain ⟨z781, hF, hN780⟩ := lpN_succ hF
                have hF : F_spec_l26Try_l2 a0_0 a1 a2 i315 t700 i701 = some z781 := hF; unfold F_spec_l26Try_l2 at hF
                refine wp_seq ?_
                refine wp_seq ?_
                refine wp_region_lit ?_
                refine op_g ha rfl (g_move rfl) ?_; clear ha a; intro a ha
                refine op_g ha rfl (g_field0 st27_0 rfl) ?_; clear ha a; intro a ha
                refine op_g ha rfl (g_load Tryd.isAgg22 rfl (hB698.cell rfl)) ?_; clear ha a; intro a ha
                refine op_g ha rfl (g_move rfl) ?_; clear ha a; intro a ha
                obtain ⟨x783, g784, gx785, hF⟩ := idx_some hF
                obtain ⟨p786, cs787, f788, hf789, hpb790, hat791, hr792, hi793⟩ := ha0_0.at g784 gx785
                obtain ⟨v794, rfl, h795⟩ := hr792
                have h795 : Ro Rp.int W f788 v794 x783 := h795
                have q797 := (Pv.mono (Pv.par (fun _ h => List.mem_append_left _ h)) hf789 : Pv (fa0_0 ++ fa1) W.heap.size f788)
                refine op_g ha rfl (hi793.gives sl22 rfl rfl) ?_; clear ha a; intro a ha
                refine op_g ha rfl (g_load0 hE703 Tryd.isAgg31 rfl hat791.one) ?_; clear ha a; intro a ha
                refine op_g ha rfl (g_lenR sl31.und h795 rfl) ?_; clear ha a; intro a ha
                refine op_g ha rfl (g_lss rfl rfl) ?_; clear ha a; intro a ha
                refine wpList_nil ?_
                replace ha := ha.sub (σ' := [(1, va1), (2, (.int .i64 a2)), (3, (.int .i64 a3)), (4, (.int .i64 a4)), (5, (.pointer (some ⟨b1, 0, none⟩))), (12, (.int .i64 i315)), (13, (.bool t700)), (14, (.int .i64 i701)), (29, (.int .i64 i315)), (30, (.int .i64 a3)), (31, (.bool (decide (i315 ≤ a3)))), (42, (.bool (decide (i701 < (x783.length : Int)))))]) ⟨rfl, rfl, rfl, rfl, rfl, rfl, rfl, rfl, rfl, rfl, rfl, rfl, trivial⟩
                refine e_then ?_
                refine c_cond (i701 < (x783.length : Int)) ha rfl (decide_eq_true_iff) (fun hp798 => ?_) (fun hp798 => ?_)
                · replace hF := if_t hp798 hF
                  refine wp_skip ?_
                  refine e_then ?_
                  refine wp_seq ?_
                  refine wp_block ?_
                  refine wp_region_lit ?_
                  refine op_g ha rfl (g_move rfl) ?_; clear ha a; intro a ha
                  refine op_g ha rfl (g_move rfl) ?_; clear ha a; intro a ha
                  by_cases hp799 : t700 = true
                  · replace hF := if_t hp799 hF
                    rw [show (t700) = true from (Iff.rfl).2 hp799] at ha
                    refine op_want (yields ha rfl rfl) ?_
                    refine op_g ha rfl (g_move rfl) ?_; clear ha a; intro a ha
                    refine op_want (yields ha rfl rfl) ?_
                    refine op_g ha rfl (g_field0 st27_0 rfl) ?_; clear ha a; intro a ha
                    refine op_want (yields ha rfl rfl) ?_
                    refine op_g ha rfl (g_load Tryd.isAgg22 rfl (hB698.cell rfl)) ?_; clear ha a; intro a ha
                    refine op_want (yields ha rfl rfl) ?_
                    refine op_g ha rfl (g_move rfl) ?_; clear ha a; intro a ha
                    refine op_want (yields ha rfl rfl) ?_
                    obtain ⟨x800, g801, gx802, hF⟩ := idx_some hF
                    obtain ⟨p803, cs804, f805, hf806, hpb807, hat808, hr809, hi810⟩ := ha0_0.at g801 gx802
                    obtain ⟨v811, rfl, h812⟩ := hr809
                    have h812 : Ro Rp.int W f805 v811 x800 := h812
                    have q814 := (Pv.mono (Pv.par (fun _ h => List.mem_append_left _ h)) hf806 : Pv (fa0_0 ++ fa1) W.heap.size f805)
                    refine op_g ha rfl (hi810.gives sl22 rfl rfl) ?_; clear ha a; intro a ha
                    refine op_want (yields ha rfl rfl) ?_
                    refine op_g ha rfl (g_load0 hE703 Tryd.isAgg31 rfl hat808.one) ?_; clear ha a; intro a ha
                    refine op_want (yields ha rfl rfl) ?_
                    refine op_g ha rfl (g_move rfl) ?_; clear ha a; intro a ha
                    refine op_want (yields ha rfl rfl) ?_
                    obtain ⟨x815, g816, gx817, hF⟩ := idx_some hF
                    obtain ⟨p818, cs819, f820, hf821, hpb822, hat823, hr824, hi825⟩ := h812.at g816 gx817
                    obtain ⟨rfl, hI826, rfl⟩ := hr824
                    refine op_g ha rfl (hi825.gives sl31 rfl rfl) ?_; clear ha a; intro a ha
                    refine op_want (yields ha rfl rfl) ?_
                    refine op_g ha rfl (g_load0 hE703 Tryd.isAgg2 rfl hat823.one) ?_; clear ha a; intro a ha
                    refine op_want (yields ha rfl rfl) ?_
                    obtain ⟨x827, g828, gx829, hF⟩ := idx_some hF
                    obtain ⟨p830, cs831, f832, hf833, hpb834, hat835, hr836, hi837⟩ := ha1.at g828 gx829
                    obtain ⟨rfl, hI838, rfl⟩ := hr836
                    refine op_g ha rfl (hi837.gives sl31 rfl rfl) ?_; clear ha a; intro a ha
                    refine op_want (yields ha rfl rfl) ?_
                    refine op_g ha rfl (g_load0 hE703 Tryd.isAgg2 rfl hat835.one) ?_; clear ha a; intro a ha
                    refine op_want (yields ha rfl rfl) ?_
                    refine op_g ha rfl (g_move rfl) ?_; clear ha a; intro a ha
                    refine op_want (yields ha rfl rfl) ?_
                    refine op_g ha rfl (g_neq rfl rfl) ?_; clear ha a; intro a ha
                    refine op_g ha rfl (g_pick rfl rfl) ?_; clear ha a; intro a ha
                    refine op_g ha rfl (g_assign rfl) ?_; clear ha a; intro a ha
                    refine wpList_nil ?_
                    replace ha := ha.sub (σ' := [(1, va1), (2, (.int .i64 a2)), (3, (.int .i64 a3)), (4, (.int .i64 a4)), (5, (.pointer (some ⟨b1, 0, none⟩))), (12, (.int .i64 i315)), (13, (.bool (decide (x827 ≠ i315)))), (14, (.int .i64 i701)), (29, (.int .i64 i315)), (30, (.int .i64 a3)), (31, (.bool (decide (i315 ≤ a3)))), (47, va1), (48, (.pointer (some ⟨b1, 0, none⟩))), (49, va0_0), (50, (.int .i64 a2)), (51, (.pointer (some p803))), (52, v811), (53, (.int .i64 i701)), (54, (.pointer (some p818))), (55, (.int .i64 x815)), (56, (.pointer (some p830))), (57, (.int .i64 x827)), (58, (.int .i64 i315)), (59, (.bool (decide (x827 ≠ i315))))]) ⟨rfl, rfl, rfl, rfl, rfl, rfl, rfl, rfl, rfl, rfl, rfl, rfl, rfl, rfl, rfl, rfl, rfl, rfl, rfl, rfl, rfl, rfl, rfl, rfl, trivial⟩
                    refine e_blk ?_
                    refine e_then ?_
                    refine wp_region_lit ?_
                    refine op_g ha rfl (g_move rfl) ?_; clear ha a; intro a ha
                    obtain ⟨hI839, hF⟩ := ck_some hF
                    refine op_g ha rfl (g_add rfl rfl hI839) ?_; clear ha a; intro a ha
                    refine op_g ha rfl (g_assign rfl) ?_; clear ha a; intro a ha
                    refine wpList_nil ?_
                    replace ha := ha.sub (σ' := [(1, va1), (2, (.int .i64 a2)), (3, (.int .i64 a3)), (4, (.int .i64 a4)), (5, (.pointer (some ⟨b1, 0, none⟩))), (12, (.int .i64 i315)), (13, (.bool (decide (x827 ≠ i315)))), (14, (.int .i64 (i701 + 1))), (29, (.int .i64 i315)), (30, (.int .i64 a3)), (31, (.bool (decide (i315 ≤ a3)))), (47, va1), (48, (.pointer (some ⟨b1, 0, none⟩))), (49, va0_0), (50, (.int .i64 a2)), (51, (.pointer (some p803))), (52, v811), (53, (.int .i64 i701)), (54, (.pointer (some p818))), (55, (.int .i64 x815)), (56, (.pointer (some p830))), (57, (.int .i64 x827)), (58, (.int .i64 i315)), (59, (.bool (decide (x827 ≠ i315))))]) ⟨rfl, rfl, rfl, rfl, rfl, rfl, rfl, rfl, rfl, rfl, rfl, rfl, rfl, rfl, rfl, rfl, rfl, rfl, rfl, rfl, rfl, rfl, rfl, rfl, trivial⟩
                    refine e_lq ?_
                    obtain rfl := Option.some.inj hF
                    exact ⟨_, Nat.lt_succ_self _, decide (x827 ≠ i315), i701 + 1, ha.sub ⟨rfl, rfl, rfl, rfl, rfl, rfl, rfl, rfl, rfl, rfl, rfl, trivial⟩, hE703, hI839, hB698, z699, hN780⟩
                  · replace hF := if_f hp799 hF
                    rw [show (t700) = false from b_false (Iff.rfl) hp799] at ha
                    refine op_unwant ha rfl (yields ha rfl rfl) rfl ?_; clear ha a; intro a ha
                    refine op_unwant ha rfl (yields ha rfl rfl) rfl ?_; clear ha a; intro a ha
                    refine op_unwant ha rfl (yields ha rfl rfl) rfl ?_; clear ha a; intro a ha
                    refine op_unwant ha rfl (yields ha rfl rfl) rfl ?_; clear ha a; intro a ha
                    refine op_unwant ha rfl (yields ha rfl rfl) rfl ?_; clear ha a; intro a ha
                    refine op_unwant ha rfl (yields ha rfl rfl) rfl ?_; clear ha a; intro a ha
                    refine op_unwant ha rfl (yields ha rfl rfl) rfl ?_; clear ha a; intro a ha
                    refine op_unwant ha rfl (yields ha rfl rfl) rfl ?_; clear ha a; intro a ha
                    refine op_unwant ha rfl (yields ha rfl rfl) rfl ?_; clear ha a; intro a ha
                    refine op_unwant ha rfl (yields ha rfl rfl) rfl ?_; clear ha a; intro a ha
                    refine op_unwant ha rfl (yields ha rfl rfl) rfl ?_; clear ha a; intro a ha
                    refine op_unwant ha rfl (yields ha rfl rfl) rfl ?_; clear ha a; intro a ha
                    refine op_unwant ha rfl (yields ha rfl rfl) rfl ?_; clear ha a; intro a ha
                    refine op_g ha rfl (g_pick rfl rfl) ?_; clear ha a; intro a ha
                    refine op_g ha rfl (g_assign rfl) ?_; clear ha a; intro a ha
                    refine wpList_nil ?_
                    replace ha := ha.sub (σ' := [(1, va1), (2, (.int .i64 a2)), (3, (.int .i64 a3)), (4, (.int .i64 a4)), (5, (.pointer (some ⟨b1, 0, none⟩))), (12, (.int .i64 i315)), (13, (.bool false)), (14, (.int .i64 i701)), (29, (.int .i64 i315)), (30, (.int .i64 a3)), (31, (.bool (decide (i315 ≤ a3))))]) ⟨rfl, rfl, rfl, rfl, rfl, rfl, rfl, rfl, rfl, rfl, rfl, trivial⟩
                    refine e_blk ?_
                    refine e_then ?_
                    refine wp_region_lit ?_
                    refine op_g ha rfl (g_move rfl) ?_; clear ha a; intro a ha
                    obtain ⟨hI841, hF⟩ := ck_some hF
                    refine op_g ha rfl (g_add rfl rfl hI841) ?_; clear ha a; intro a ha
                    refine op_g ha rfl (g_assign rfl) ?_; clear ha a; intro a ha
                    refine wpList_nil ?_
                    replace ha := ha.sub (σ' := [(1, va1), (2, (.int .i64 a2)), (3, (.int .i64 a3)), (4, (.int .i64 a4)), (5, (.pointer (some ⟨b1, 0, none⟩))), (12, (.int .i64 i315)), (13, (.bool false)), (14, (.int .i64 (i701 + 1))), (29, (.int .i64 i315)), (30, (.int .i64 a3)), (31, (.bool (decide (i315 ≤ a3))))]) ⟨rfl, rfl, rfl, rfl, rfl, rfl, rfl, rfl, rfl, rfl, rfl, trivial⟩
                    refine e_lq ?_
                    obtain rfl := Option.some.inj hF
                    exact ⟨_, Nat.lt_succ_self _, false, i701 + 1, ha.sub ⟨rfl, rfl, rfl, rfl, rfl, rfl, rfl, rfl, rfl, rfl, rfl, trivial⟩, hE703, hI841, hB698, z699, hN780⟩
                · replace hF := if_f hp798 hF
                  refine wp_exit ?_
                  refine e_then_exit ?_
                  refine e_lq_eq ?_
                  obtain rfl := Option.some.inj hF
                  exact ⟨t700, ha.sub ⟨rfl, rfl, rfl, rfl, rfl, rfl, rfl, rfl, rfl, rfl, trivial⟩, hE703, hB698, z699, (LK_inr hN780).symm⟩
            · rintro a w770 ⟨t773, ha, hE779, hB771, z772, rfl⟩
              have hF : F_spec_l26Try_k3 a0_0 a1 a2 a3 a4 rc i315 t773 = some _ := hK776; clear hK776; unfold F_spec_l26Try_k3 at hF
              refine e_then ?_
              refine wp_seq ?_
              refine wp_seq ?_
              refine wp_region_lit ?_
              refine op_g ha rfl (g_move rfl) ?_; clear ha a; intro a ha
              refine op_g ha rfl (g_not rfl) ?_; clear ha a; intro a ha
              refine wpList_nil ?_
              replace ha := ha.sub (σ' := [(1, va1), (2, (.int .i64 a2)), (3, (.int .i64 a3)), (4, (.int .i64 a4)), (5, (.pointer (some ⟨b1, 0, none⟩))), (12, (.int .i64 i315)), (29, (.int .i64 i315)), (30, (.int .i64 a3)), (31, (.bool (decide (i315 ≤ a3)))), (62, (.bool (!t773)))]) ⟨rfl, rfl, rfl, rfl, rfl, rfl, rfl, rfl, rfl, rfl, trivial⟩
              refine e_then ?_
              refine c_cond (¬ (t773 = true)) ha rfl (n_iff (Iff.rfl)) (fun hp843 => ?_) (fun hp843 => ?_)
              · replace hF := if_t hp843 hF
                refine wp_exit ?_
                refine e_then_exit ?_
                refine e_blk_eq ?_
                refine e_then ?_
                refine wp_region_lit ?_
                refine op_g ha rfl (g_move rfl) ?_; clear ha a; intro a ha
                obtain ⟨hI844, hF⟩ := ck_some hF
                refine op_g ha rfl (g_add rfl rfl hI844) ?_; clear ha a; intro a ha
                refine op_g ha rfl (g_assign rfl) ?_; clear ha a; intro a ha
                refine wpList_nil ?_
                replace ha := ha.sub (σ' := [(1, va1), (2, (.int .i64 a2)), (3, (.int .i64 a3)), (4, (.int .i64 a4)), (5, (.pointer (some ⟨b1, 0, none⟩))), (12, (.int .i64 (i315 + 1))), (29, (.int .i64 i315)), (30, (.int .i64 a3)), (31, (.bool (decide (i315 ≤ a3))))]) ⟨rfl, rfl, rfl, rfl, rfl, rfl, rfl, rfl, rfl, trivial⟩
                refine e_lq ?_
                obtain rfl := Option.some.inj hF
                exact ⟨_, Nat.lt_succ_self _, i315 + 1, ha.sub ⟨rfl, rfl, rfl, rfl, rfl, rfl, trivial⟩, hE779, hI844, hB771, z772, hN623⟩
              · replace hF := if_f hp843 hF
                refine wp_skip ?_
                refine e_then ?_
                refine wp_seq ?_
                refine wp_region_lit ?_
                refine op_g ha rfl (g_move rfl) ?_; clear ha a; intro a ha
                obtain ⟨x846, hc847, hF⟩ := cal_some hF
                refine o_call ha rfl rfl Tryd.call90 (W_spec_l1Copy (ha1.ext hE779) hc847) ?_; clear ha a; rintro v848 w849 ⟨b851, h852, z853, hx850⟩ a ha
                have q855 := Nq.new hB771.fpb z853
                have q856 := Nq.madeO z853 hB771.bi
                replace hB771 := hB771.ext hx850
                have hE857 := Ext.trans hE779 hx850
                have q858 := Zn.upD z853 hE779
                refine op_g ha rfl (g_assign rfl) ?_; clear ha a; intro a ha
                refine wpList_nil ?_
                replace ha := ha.sub (σ' := [(1, va1), (2, (.int .i64 a2)), (3, (.int .i64 a3)), (4, (.int .i64 a4)), (5, (.pointer (some ⟨b1, 0, none⟩))), (12, (.int .i64 i315)), (15, v848), (29, (.int .i64 i315)), (30, (.int .i64 a3)), (31, (.bool (decide (i315 ≤ a3))))]) ⟨rfl, rfl, rfl, rfl, rfl, rfl, rfl, rfl, rfl, rfl, trivial⟩
                refine e_then ?_
                refine wp_seq ?_
                refine wp_region_lit ?_
                refine op_g ha rfl (g_move rfl) ?_; clear ha a; intro a ha
                refine op_g ha rfl (g_move rfl) ?_; clear ha a; intro a ha
                refine op_g ha rfl (g_move rfl) ?_; clear ha a; intro a ha
                obtain ⟨x859, g860, gx861, hF⟩ := idx_some hF
                obtain ⟨p862, cs863, f864, hf865, hpb866, hat867, hr868, hi869⟩ := h852.at g860 gx861
                obtain ⟨rfl, hI870, rfl⟩ := hr868
                refine op_g ha rfl (hi869.gives sl31 rfl rfl) ?_; clear ha a; intro a ha
                refine o_storeE (f := []) (q := i315) ha Tryd.sizeOf2 rfl rfl rfl h852 hi869 ⟨rfl, hI316, rfl⟩ (Nq.nil _) ?_; intro w871 fs872 h873 hc874 hs875
                obtain rfl := Subst.nil hs875
                replace hB771 := hB771.nq hc874 q855
                have hE876 := Ext.then hE857 hc874 (Zn.bl q858)
                refine wpList_nil ?_
                replace ha := ha.sub (σ' := [(1, va1), (2, (.int .i64 a2)), (3, (.int .i64 a3)), (4, (.int .i64 a4)), (5, (.pointer (some ⟨b1, 0, none⟩))), (12, (.int .i64 i315)), (15, v848), (29, (.int .i64 i315)), (30, (.int .i64 a3)), (31, (.bool (decide (i315 ≤ a3))))]) ⟨rfl, rfl, rfl, rfl, rfl, rfl, rfl, rfl, rfl, rfl, trivial⟩
                refine e_then ?_
                refine wp_seq ?_
                refine wp_region_lit ?_
                refine op_g ha rfl (g_move rfl) ?_; clear ha a; intro a ha
                refine op_g ha rfl (g_assign rfl) ?_; clear ha a; intro a ha
                refine wpList_nil ?_
                replace ha := ha.sub (σ' := [(1, va1), (2, (.int .i64 a2)), (3, (.int .i64 a3)), (4, (.int .i64 a4)), (5, (.pointer (some ⟨b1, 0, none⟩))), (12, (.int .i64 i315)), (15, v848), (16, (.int .i64 a3)), (29, (.int .i64 i315)), (30, (.int .i64 a3)), (31, (.bool (decide (i315 ≤ a3))))]) ⟨rfl, rfl, rfl, rfl, rfl, rfl, rfl, rfl, rfl, rfl, rfl, trivial⟩
                refine e_then ?_
                obtain ⟨o880, ho881, hK882⟩ := bnd_some hF
                have hF := ho881; clear ho881
                refine s_cut (fun a w => ∃ (i889 : Int), Fr 88 [(1, va1), (2, (.int .i64 a2)), (3, (.int .i64 a3)), (4, (.int .i64 a4)), (5, (.pointer (some ⟨b1, 0, none⟩))), (12, (.int .i64 i315)), (15, v848), (16, (.int .i64 i889)), (29, (.int .i64 i315)), (30, (.int .i64 a3)), (31, (.bool (decide (i315 ≤ a3))))] a ∧ Chg [] W w ∧ InI i889 ∧ Bx w b1 [va0_0] 27 ∧ Zn W (b1 : Int) ∧ Ow Rp.int 2 true w [] b851 v848 (x846.set ((a2 : Int).toNat) i315) ∧ Zn W b851 ∧ Nq ([b1]) b851 ∧ Nq (bl b851 ++ []) (b1 : Int) ∧ o880 = .inl i889) ?_ ?_
                · skip
                  refine wp_seq ?_
                  refine wp_region_lit ?_
                  refine op_g ha rfl (g_move rfl) ?_; clear ha a; intro a ha
                  refine op_g ha rfl (g_move rfl) ?_; clear ha a; intro a ha
                  refine op_g ha rfl (g_eql rfl rfl) ?_; clear ha a; intro a ha
                  refine wpList_nil ?_
                  replace ha := ha.sub (σ' := [(1, va1), (2, (.int .i64 a2)), (3, (.int .i64 a3)), (4, (.int .i64 a4)), (5, (.pointer (some ⟨b1, 0, none⟩))), (12, (.int .i64 i315)), (15, v848), (16, (.int .i64 a3)), (29, (.int .i64 i315)), (30, (.int .i64 a3)), (31, (.bool (decide (i315 ≤ a3)))), (72, (.bool (decide (i315 = a3))))]) ⟨rfl, rfl, rfl, rfl, rfl, rfl, rfl, rfl, rfl, rfl, rfl, rfl, trivial⟩
                  refine e_then ?_
                  refine c_cond (i315 = a3) ha rfl (decide_eq_true_iff) (fun hp894 => ?_) (fun hp894 => ?_)
                  · replace hF := if_t hp894 hF
                    refine wp_region_lit ?_
                    refine op_g ha rfl (g_move rfl) ?_; clear ha a; intro a ha
                    obtain ⟨hI895, hF⟩ := ck_some hF
                    refine op_g ha rfl (g_add rfl rfl hI895) ?_; clear ha a; intro a ha
                    refine op_g ha rfl (g_assign rfl) ?_; clear ha a; intro a ha
                    refine wpList_nil ?_
                    replace ha := ha.sub (σ' := [(1, va1), (2, (.int .i64 a2)), (3, (.int .i64 a3)), (4, (.int .i64 a4)), (5, (.pointer (some ⟨b1, 0, none⟩))), (12, (.int .i64 i315)), (15, v848), (16, (.int .i64 (a3 + 1))), (29, (.int .i64 i315)), (30, (.int .i64 a3)), (31, (.bool (decide (i315 ≤ a3))))]) ⟨rfl, rfl, rfl, rfl, rfl, rfl, rfl, rfl, rfl, rfl, rfl, trivial⟩
                    refine e_sq ?_
                    obtain rfl := Option.some.inj hF
                    exact ⟨a3 + 1, ha.sub ⟨rfl, rfl, rfl, rfl, rfl, rfl, rfl, rfl, rfl, rfl, rfl, trivial⟩, hE876, hI895, hB771, z772, h873, q858, q855, q856, rfl⟩
                  · replace hF := if_f hp894 hF
                    refine wp_skip ?_
                    refine e_sq ?_
                    obtain rfl := Option.some.inj hF
                    exact ⟨a3, ha.sub ⟨rfl, rfl, rfl, rfl, rfl, rfl, rfl, rfl, rfl, rfl, rfl, trivial⟩, hE876, ha3, hB771, z772, h873, q858, q855, q856, rfl⟩
                · rintro a w883 ⟨i889, ha, hE893, hI890, hB884, z885, h887, z888, q891, q892, rfl⟩
                  have hF : F_spec_l26Try_k4 a0_0 a2 a4 rc i315 x846 i889 = some _ := hK882; clear hK882; unfold F_spec_l26Try_k4 at hF
                  refine wp_seq ?_
                  refine wp_region_lit ?_
                  refine op_g ha rfl (g_loadA (cs := [va0_0]) Tryd.isAgg27 Tryd.sizeOf27 rfl (by simp) hB884.all) ?_; clear ha a; intro a ha
                  refine op_g ha rfl (g_move rfl) ?_; clear ha a; intro a ha
                  refine op_g ha rfl (g_move rfl) ?_; clear ha a; intro a ha
                  obtain ⟨hI897, hF⟩ := ck_some hF
                  refine op_g ha rfl (g_add rfl rfl hI897) ?_; clear ha a; intro a ha
                  refine op_g ha rfl (g_move rfl) ?_; clear ha a; intro a ha
                  refine op_g ha rfl (g_move rfl) ?_; clear ha a; intro a ha
                  obtain ⟨fp899, hro900, hs901⟩ := h887.roF
                  obtain ⟨x902, hc903, hF⟩ := cal_some hF
                  refine o_call ha rfl rfl Tryd.call77 (ih (ha0_0.ext hE893) hro900 hI897 hI890 ha4 hc903) ?_; clear ha a; rintro v904 w905 ⟨u907, u908, fp909, rfl, h910, pv911, rfl, hx906⟩ a ha
                  have q913 := Nq.rd pv911 (Nq.append (Nq.new ha0_0.bnd z885) (Nq.mono q892 hs901)) hB884.bi
                  have q914 := (Pv.call pv911 (Pv.app (Pv.par (fun _ h => List.mem_append_left _ h)) (Pv.mono (Pv.own z888 (zf_nil _)) hs901)) hE893.size : Pv (fa0_0 ++ fa1) W.heap.size fp909)
                  replace hB884 := hB884.ext hx906
                  replace h887 := h887.ext hx906
                  have hE915 := Ext.trans hE893 hx906
                  refine op_g ha rfl (g_move rfl) ?_; clear ha a; intro a ha
                  refine op_g ha rfl (g_extract rfl rfl) ?_; clear ha a; intro a ha
                  refine op_g ha rfl (g_extract rfl rfl) ?_; clear ha a; intro a ha
                  refine op_g ha rfl (g_assign rfl) ?_; clear ha a; intro a ha
                  refine op_g ha rfl (g_assign rfl) ?_; clear ha a; intro a ha
                  refine wpList_nil ?_
                  replace ha := ha.sub (σ' := [(1, va1), (2, (.int .i64 a2)), (3, (.int .i64 a3)), (4, (.int .i64 a4)), (5, (.pointer (some ⟨b1, 0, none⟩))), (12, (.int .i64 i315)), (17, u907), (18, (.bool x902.2)), (29, (.int .i64 i315)), (30, (.int .i64 a3)), (31, (.bool (decide (i315 ≤ a3))))]) ⟨rfl, rfl, rfl, rfl, rfl, rfl, rfl, rfl, rfl, rfl, rfl, trivial⟩
                  refine e_then ?_
                  refine wp_seq ?_
                  refine wp_region_lit ?_
                  refine op_g ha rfl (g_move rfl) ?_; clear ha a; intro a ha
                  refine wpList_nil ?_
                  replace ha := ha.sub (σ' := [(1, va1), (2, (.int .i64 a2)), (3, (.int .i64 a3)), (4, (.int .i64 a4)), (5, (.pointer (some ⟨b1, 0, none⟩))), (12, (.int .i64 i315)), (17, u907), (29, (.int .i64 i315)), (30, (.int .i64 a3)), (31, (.bool (decide (i315 ≤ a3)))), (85, (.bool x902.2))]) ⟨rfl, rfl, rfl, rfl, rfl, rfl, rfl, rfl, rfl, rfl, rfl, trivial⟩
                  refine e_then ?_
                  refine c_cond (x902.2 = true) ha rfl (Iff.rfl) (fun hp916 => ?_) (fun hp916 => ?_)
                  · replace hF := if_t hp916 hF
                    refine wp_seq ?_
                    refine wp_region_lit ?_
                    refine op_g ha rfl (g_move rfl) ?_; clear ha a; intro a ha
                    refine op_g ha rfl (g_assign rfl) ?_; clear ha a; intro a ha
                    refine op_g ha rfl (g_assign rfl) ?_; clear ha a; intro a ha
                    refine wpList_nil ?_
                    replace ha := ha.sub (σ' := [(10, u907), (11, (.bool true))]) ⟨rfl, rfl, trivial⟩
                    refine e_then ?_
                    refine wp_ret ?_
                    refine e_blk_ret ?_
                    refine e_then_ret ?_
                    refine e_lq_ret ?_
                    refine e_then_ret ?_
                    obtain rfl := Option.some.inj hF
                    have e917 := LK_inr hN623; subst e917
                    have e918 := BK_inr hK619; subst e918
                    exact f_ret2 ha rfl rfl rfl ⟨_, _, _, rfl, h910, (q914), rfl, hE915⟩
                  · replace hF := if_f hp916 hF
                    refine wp_skip ?_
                    refine e_blk ?_
                    refine e_then ?_
                    refine wp_region_lit ?_
                    refine op_g ha rfl (g_move rfl) ?_; clear ha a; intro a ha
                    obtain ⟨hI919, hF⟩ := ck_some hF
                    refine op_g ha rfl (g_add rfl rfl hI919) ?_; clear ha a; intro a ha
                    refine op_g ha rfl (g_assign rfl) ?_; clear ha a; intro a ha
                    refine wpList_nil ?_
                    replace ha := ha.sub (σ' := [(1, va1), (2, (.int .i64 a2)), (3, (.int .i64 a3)), (4, (.int .i64 a4)), (5, (.pointer (some ⟨b1, 0, none⟩))), (12, (.int .i64 (i315 + 1))), (29, (.int .i64 i315)), (30, (.int .i64 a3)), (31, (.bool (decide (i315 ≤ a3))))]) ⟨rfl, rfl, rfl, rfl, rfl, rfl, rfl, rfl, rfl, trivial⟩
                    refine e_lq ?_
                    obtain rfl := Option.some.inj hF
                    exact ⟨_, Nat.lt_succ_self _, i315 + 1, ha.sub ⟨rfl, rfl, rfl, rfl, rfl, rfl, trivial⟩, hE915, hI919, hB884, z885, hN623⟩
          · replace hF := if_f hp629 hF
            refine wp_exit ?_
            refine e_then_exit ?_
            refine e_lq_eq ?_
            obtain rfl := Option.some.inj hF
            exact ⟨ha.sub ⟨rfl, trivial⟩, hE317, (LK_inr hN623).symm⟩
        · replace hF := if_f hp628 hF
          rw [show (decide (i315 < a4)) = false from b_false (decide_eq_true_iff) hp628] at ha
          refine op_unwant ha rfl (yields ha rfl rfl) rfl ?_; clear ha a; intro a ha
          refine op_unwant ha rfl (yields ha rfl rfl) rfl ?_; clear ha a; intro a ha
          refine op_unwant ha rfl (yields ha rfl rfl) rfl ?_; clear ha a; intro a ha
          refine op_g ha rfl (g_pick rfl rfl) ?_; clear ha a; intro a ha
          refine wpList_nil ?_
          replace ha := ha.sub (σ' := [(1, va1), (2, (.int .i64 a2)), (3, (.int .i64 a3)), (4, (.int .i64 a4)), (5, (.pointer (some ⟨b1, 0, none⟩))), (12, (.int .i64 i315)), (32, (.bool false))]) ⟨rfl, rfl, rfl, rfl, rfl, rfl, rfl, trivial⟩
          refine e_then ?_
          refine c_false ha rfl ?_
          refine wp_exit ?_
          refine e_then_exit ?_
          refine e_lq_eq ?_
          obtain rfl := Option.some.inj hF
          exact ⟨ha.sub ⟨rfl, trivial⟩, hE317, (LK_inr hN623).symm⟩
    · rintro a w616 ⟨ha, hE622, rfl⟩
      have hF : F_spec_l26Try_k5 a1 = some _ := hK619; clear hK619; unfold F_spec_l26Try_k5 at hF
      refine e_then ?_
      refine wp_seq ?_
      refine wp_region_lit ?_
      refine op_g ha rfl (g_move rfl) ?_; clear ha a; intro a ha
      refine op_g ha rfl (g_assign rfl) ?_; clear ha a; intro a ha
      refine op_g ha rfl (g_assign rfl) ?_; clear ha a; intro a ha
      refine wpList_nil ?_
      replace ha := ha.sub (σ' := [(10, va1), (11, (.bool false))]) ⟨rfl, rfl, trivial⟩
      refine e_then ?_
      refine wp_ret ?_
      obtain rfl := Option.some.inj hF
      exact f_ret2 ha rfl rfl rfl ⟨_, _, _, rfl, (ha1.ext hE622), (Pv.par (fun _ h => List.mem_append_right _ h)), rfl, hE622⟩
theorem W_spec_l26Try_n (n : Nat) : ∀ {W : World} {va0_0 : Value} {fa0_0 : List Nat} {a0_0 : (List (List Int))} (ha0_0 : Ro (Rp.sl 2 Rp.int) W fa0_0 va0_0 a0_0) {va1 : Value} {fa1 : List Nat} {a1 : (List Int)} (ha1 : Ro Rp.int W fa1 va1 a1) {a2 : Int} (ha2 : InI a2) {a3 : Int} (ha3 : InI a3) {a4 : Int} (ha4 : InI a4) {r : ((List Int) × Bool)} (hF : itN (fun (rc : ((List (List Int)) × (List Int) × Int × Int × Int) → Option ((List Int) × Bool)) a => F_spec_l26Try_body (fun z0 z1 z2 z3 z4 => rc (z0, z1, z2, z3, z4)) a.1 a.2.1 a.2.2.1 a.2.2.2.1 a.2.2.2.2) n (a0_0, a1, a2, a3, a4) = some r),
    Calls Tryd.prog 77 [.agg #[va0_0], va1, .int .i64 a2, .int .i64 a3, .int .i64 a4].toArray W (Ret fun u w' => ∃ (u0 : Value) (u1 : Value) (fp_u0 : List Nat), u = .tuple #[u0, u1] ∧ Ro Rp.int w' fp_u0 u0 r.1 ∧ Pv (fa0_0 ++ fa1) W.heap.size fp_u0 ∧ u1 = .bool r.2 ∧ Ext W w') := by
  induction n with
  | zero => intro W va0_0 fa0_0 a0_0 ha0_0 va1 fa1 a1 ha1 a2 ha2 a3 ha3 a4 ha4 r hF; cases hF
  | succ n ih => intro W va0_0 fa0_0 a0_0 ha0_0 va1 fa1 a1 ha1 a2 ha2 a3 ha3 a4 ha4 r hF; exact W_spec_l26Try_step (rc := fun z0 z1 z2 z3 z4 => itN (fun (rc : ((List (List Int)) × (List Int) × Int × Int × Int) → Option ((List Int) × Bool)) a => F_spec_l26Try_body (fun z0 z1 z2 z3 z4 => rc (z0, z1, z2, z3, z4)) a.1 a.2.1 a.2.2.1 a.2.2.2.1 a.2.2.2.2) n (z0, z1, z2, z3, z4)) @ih ha0_0 ha1 ha2 ha3 ha4 hF
theorem W_spec_l26Try {W : World} {va0_0 : Value} {fa0_0 : List Nat} {a0_0 : (List (List Int))} (ha0_0 : Ro (Rp.sl 2 Rp.int) W fa0_0 va0_0 a0_0) {va1 : Value} {fa1 : List Nat} {a1 : (List Int)} (ha1 : Ro Rp.int W fa1 va1 a1) {a2 : Int} (ha2 : InI a2) {a3 : Int} (ha3 : InI a3) {a4 : Int} (ha4 : InI a4) {r : ((List Int) × Bool)} (hF : F_spec_l26Try a0_0 a1 a2 a3 a4 = some r) :
    Calls Tryd.prog 77 [.agg #[va0_0], va1, .int .i64 a2, .int .i64 a3, .int .i64 a4].toArray W (Ret fun u w' => ∃ (u0 : Value) (u1 : Value) (fp_u0 : List Nat), u = .tuple #[u0, u1] ∧ Ro Rp.int w' fp_u0 u0 r.1 ∧ Pv (fa0_0 ++ fa1) W.heap.size fp_u0 ∧ u1 = .bool r.2 ∧ Ext W w') := by
  obtain ⟨n, hn⟩ := fixO_some hF
  exact W_spec_l26Try_n n ha0_0 ha1 ha2 ha3 ha4 hn
set_option maxHeartbeats 2000000 in
theorem W_spec_l26Best {W : World} {va0_0 : Value} {fa0_0 : List Nat} {a0_0 : (List (List Int))} (ha0_0 : Ro (Rp.sl 2 Rp.int) W fa0_0 va0_0 a0_0) {r : ((List Int) × Int)} (hF : F_spec_l26Best a0_0 = some r) :
    Calls Tryd.prog 54 [.agg #[va0_0]].toArray W (Ret fun u w' => ∃ (u0 : Value) (u1 : Value) (fp_u0 : List Nat), u = .tuple #[u0, u1] ∧ Ro Rp.int w' fp_u0 u0 r.1 ∧ Pv (fa0_0) W.heap.size fp_u0 ∧ (u1 = .int .i64 r.2 ∧ InI r.2) ∧ Ext W w') := by
  refine f_enter Tryd.func54 rfl Tryd.ntmps54 rfl ?_
  intro a ha
  replace ha : Fr 22 [(0, (.agg #[va0_0]))] a := ha
  have hE : Chg [] W W := Chg.refl _ _
  unfold F_spec_l26Best at hF
  refine wp_seq ?_
  refine wp_region_lit ?_
  refine o_box ha rfl rfl rfl ?_; clear ha a; intro b1 w2 hB3 hx4 hlo5 a ha
  have q6 := Zn.one hlo5
  have q7 := Zn.upD q6 hE
  have hE8 := Ext.trans hE hx4
  refine op_g ha rfl (g_assign rfl) ?_; clear ha a; intro a ha
  refine op_g ha rfl (g_assign rfl) ?_; clear ha a; intro a ha
  refine wpList_nil ?_
  replace ha := ha.sub (σ' := [(1, (.pointer (some ⟨b1, 0, none⟩)))]) ⟨rfl, trivial⟩
  refine e_then ?_
  refine wp_seq ?_
  refine wp_region_lit ?_
  refine op_g ha rfl (g_assign rfl) ?_; clear ha a; intro a ha
  refine wpList_nil ?_
  refine e_then ?_
  obtain ⟨o114, ho115, hK116⟩ := bnd_some hF
  obtain ⟨n117, hn118⟩ := lp_some ho115; clear ho115
  refine c_loop (fun a w => Fr 22 [] a ∧ Chg [] W w ∧ o114 = .inl ()) (fun n a w => ∃ (i63 : Int), Fr 22 [(1, (.pointer (some ⟨b1, 0, none⟩))), (4, (.int .i64 i63))] a ∧ Chg [] W w ∧ InI i63 ∧ Bx w b1 [va0_0] 27 ∧ Zn W (b1 : Int) ∧ lpN (fun s => F_spec_l26Best_l1 a0_0 s) n i63 = some o114) n117 ⟨0, ha.sub ⟨rfl, rfl, trivial⟩, hE8, (show InI 0 from by decide), hB3, q7, hn118⟩ ?_ ?_
  · rintro m122 a w60 ⟨i63, ha, hE65, hI64, hB61, z62, hF⟩
    cases m122 with
    | zero => exact (lpN_zero hF).elim
    | succ m122 =>
      obtain ⟨z121, hF, hN120⟩ := lpN_succ hF
      have hF : F_spec_l26Best_l1 a0_0 i63 = some z121 := hF; unfold F_spec_l26Best_l1 at hF
      refine wp_seq ?_
      refine wp_block ?_
      refine wp_seq ?_
      refine d_region 12 hmix ?_
      refine u_g 0 rfl (by kernel_rfl) (want0 _) ha rfl (g_loadA (cs := [va0_0]) Tryd.isAgg27 Tryd.sizeOf27 rfl (by simp) hB61.all) ?_; clear ha a; intro a ha
      refine u_g 1 rfl (by kernel_rfl) (want0 _) ha rfl (g_field0 st27_0 rfl) ?_; clear ha a; intro a ha
      refine u_g 2 rfl (by kernel_rfl) (want0 _) ha rfl (g_load Tryd.isAgg22 rfl (hB61.cell rfl)) ?_; clear ha a; intro a ha
      refine u_g 3 rfl (by kernel_rfl) (want0 _) ha rfl (g_lenR sl22.und ha0_0 rfl) ?_; clear ha a; intro a ha
      refine u_g 5 rfl (by kernel_rfl) (want0 _) ha rfl (g_move rfl) ?_; clear ha a; intro a ha
      refine u_only 4 rfl (by kernel_rfl) ?_; intro w123 hx124
      replace hB61 := hB61.ext hx124
      have hE125 := Ext.trans hE65 hx124
      obtain ⟨x126, hc127, hF⟩ := cal_some hF
      refine o_call ha rfl rfl Tryd.call78 (W_spec_l26None ha0_0.len hc127) ?_; clear ha a; rintro v128 w129 ⟨b131, h132, z133, hx130⟩ a ha
      have q135 := Nq.new hB61.fpb z133
      have q136 := Nq.madeO z133 hB61.bi
      replace hB61 := hB61.ext hx130
      have hE137 := Ext.trans hE125 hx130
      have q138 := Zn.upD z133 hE125
      refine wpList_nil (e_sq ?_)
      refine ⟨fun _ => hx130, ?_⟩
      refine u_only 6 rfl (by kernel_rfl) ?_; intro w139 hx140
      replace hB61 := hB61.ext hx140
      replace h132 := h132.ext hx140
      have hE141 := Ext.trans hE137 hx140
      obtain ⟨fp142, hro143, hs144⟩ := h132.roF
      obtain ⟨x145, hc146, hF⟩ := cal_some hF
      refine o_call ha rfl rfl Tryd.call77 (W_spec_l26Try (ha0_0.ext hE141) hro143 (show InI 0 from by decide) (show InI 0 from by decide) hI64 hc146) ?_; clear ha a; rintro v147 w148 ⟨u150, u151, fp152, rfl, h153, pv154, rfl, hx149⟩ a ha
      have q156 := Nq.rd pv154 (Nq.append (Nq.new ha0_0.bnd z62) (Nq.mono q136 hs144)) hB61.bi
      have q157 := (Pv.call pv154 (Pv.app (Pv.par (fun _ h => h)) (Pv.mono (Pv.own q138 (zf_nil _)) hs144)) hE141.size : Pv (fa0_0) W.heap.size fp152)
      replace hB61 := hB61.ext hx149
      replace h132 := h132.ext hx149
      have hE158 := Ext.trans hE141 hx149
      refine wpList_nil (e_sq ?_)
      refine ⟨fun _ => hx149, ?_⟩
      refine u_g 7 rfl (by kernel_rfl) (want0 _) ha rfl (g_move rfl) ?_; clear ha a; intro a ha
      refine u_g 8 rfl (by kernel_rfl) (want0 _) ha rfl (g_extract rfl rfl) ?_; clear ha a; intro a ha
      refine u_g 9 rfl (by kernel_rfl) (want0 _) ha rfl (g_extract rfl rfl) ?_; clear ha a; intro a ha
      refine u_g 10 rfl (by kernel_rfl) (want0 _) ha rfl (g_assign rfl) ?_; clear ha a; intro a ha
      refine u_g 11 rfl (by kernel_rfl) (want0 _) ha rfl (g_assign rfl) ?_; clear ha a; intro a ha
      refine u_done (by kernel_rfl) ?_; intro w159 hx160
      replace hB61 := hB61.ext hx160
      replace h132 := h132.ext hx160
      replace h153 := h153.ext hx160
      have hE161 := Ext.trans hE158 hx160
      replace ha := ha.sub (σ' := [(1, (.pointer (some ⟨b1, 0, none⟩))), (4, (.int .i64 i63)), (5, u150), (6, (.bool x145.2))]) ⟨rfl, rfl, rfl, rfl, trivial⟩
      refine e_then ?_
      refine wp_seq ?_
      refine wp_region_lit ?_
      refine op_g ha rfl (g_move rfl) ?_; clear ha a; intro a ha
      refine wpList_nil ?_
      replace ha := ha.sub (σ' := [(1, (.pointer (some ⟨b1, 0, none⟩))), (4, (.int .i64 i63)), (5, u150), (19, (.bool x145.2))]) ⟨rfl, rfl, rfl, rfl, trivial⟩
      refine e_then ?_
      refine c_cond (x145.2 = true) ha rfl (Iff.rfl) (fun hp162 => ?_) (fun hp162 => ?_)
      · replace hF := if_t hp162 hF
        refine wp_seq ?_
        refine wp_region_lit ?_
        refine op_g ha rfl (g_move rfl) ?_; clear ha a; intro a ha
        refine op_g ha rfl (g_move rfl) ?_; clear ha a; intro a ha
        refine op_g ha rfl (g_assign rfl) ?_; clear ha a; intro a ha
        refine op_g ha rfl (g_assign rfl) ?_; clear ha a; intro a ha
        refine wpList_nil ?_
        replace ha := ha.sub (σ' := [(2, u150), (3, (.int .i64 i63))]) ⟨rfl, rfl, trivial⟩
        refine e_then ?_
        refine wp_ret ?_
        refine e_blk_ret ?_
        refine e_then_ret ?_
        refine e_lq_ret ?_
        obtain rfl := Option.some.inj hF
        have e163 := LK_inr hN120; subst e163
        have e164 := BK_inr hK116; subst e164
        exact f_ret2 ha rfl rfl rfl ⟨_, _, _, rfl, h153, (q157), ⟨rfl, hI64⟩, hE161⟩
      · replace hF := if_f hp162 hF
        refine wp_skip ?_
        refine e_blk ?_
        refine e_then ?_
        refine wp_region_lit ?_
        refine op_g ha rfl (g_move rfl) ?_; clear ha a; intro a ha
        obtain ⟨hI165, hF⟩ := ck_some hF
        refine op_g ha rfl (g_add rfl rfl hI165) ?_; clear ha a; intro a ha
        refine op_g ha rfl (g_assign rfl) ?_; clear ha a; intro a ha
        refine wpList_nil ?_
        replace ha := ha.sub (σ' := [(1, (.pointer (some ⟨b1, 0, none⟩))), (4, (.int .i64 (i63 + 1)))]) ⟨rfl, rfl, trivial⟩
        refine e_lq ?_
        obtain rfl := Option.some.inj hF
        exact ⟨_, Nat.lt_succ_self _, i63 + 1, ha.sub ⟨rfl, rfl, trivial⟩, hE161, hI165, hB61, z62, hN120⟩
  · rintro a w113 ⟨ha, hE119, rfl⟩
    cases hK116
set_option maxHeartbeats 2000000 in
theorem W_spec_l26Without {W : World} {va0_0 : Value} {fa0_0 : List Nat} {a0_0 : (List (List Int))} (ha0_0 : Ro (Rp.sl 2 Rp.int) W fa0_0 va0_0 a0_0) {a1 : Int} (ha1 : InI a1) {r : (List (List Int))} (hF : F_spec_l26Without a0_0 a1 = some r) :
    Calls Tryd.prog 57 [.agg #[va0_0], .int .i64 a1].toArray W (Ret fun u w' => ∃ (u_0 : Value) (b_u_0 : Int) (fs_u_0 : List Nat), u = .agg #[u_0] ∧ Ow (Rp.sl 2 Rp.int) 31 true w' fs_u_0 b_u_0 u_0 r ∧ Zn W b_u_0 ∧ (∀ k ∈ fs_u_0, W.heap.size ≤ k) ∧ (bl b_u_0 ++ fs_u_0).Nodup ∧ Ext W w') := by
  refine f_enter Tryd.func57 rfl Tryd.ntmps57 rfl ?_
  intro a ha
  replace ha : Fr 64 [(0, (.agg #[va0_0])), (1, (.int .i64 a1))] a := ha
  have hE : Chg [] W W := Chg.refl _ _
  unfold F_spec_l26Without at hF
  refine wp_seq ?_
  refine wp_region_lit ?_
  refine o_box ha rfl rfl rfl ?_; clear ha a; intro b1 w2 hB3 hx4 hlo5 a ha
  have q6 := Zn.one hlo5
  have q7 := Zn.upD q6 hE
  have hE8 := Ext.trans hE hx4
  refine o_alloc (cs := [(.slice none 0 0)]) ha rfl Tryd.zeroValue27 rfl ?_; clear ha a; intro b9 w10 hB11 hx12 hlo13 a ha
  have q14 := Zn.one hlo13
  have q15 := Nq.new hB3.fpb q14
  have q16 := Nq.made1 hlo13 hB3.bi
  have q17 := Zn.upD q14 hE8
  replace hB3 := hB3.ext hx12
  have hE18 := Ext.trans hE8 hx12
  refine wpList_nil ?_
  replace ha := ha.sub (σ' := [(1, (.int .i64 a1)), (2, (.pointer (some ⟨b1, 0, none⟩))), (4, (.pointer (some ⟨b9, 0, none⟩)))]) ⟨rfl, rfl, rfl, trivial⟩
  refine e_then ?_
  refine wp_seq ?_
  refine wp_region_lit ?_
  refine op_g ha rfl (g_build (vs := []) (cells := #[(.slice none 0 0)]) rfl (by rfl)) ?_; clear ha a; intro a ha
  refine o_alloc (cs := [(.slice none 0 0)]) ha rfl Tryd.zeroValue27 rfl ?_; clear ha a; intro b19 w20 hB21 hx22 hlo23 a ha
  have q24 := Zn.one hlo23
  have q25 := Nq.new hB3.fpb q24
  have q26 := Nq.made1 hlo23 hB3.bi
  have q27 := Nq.new hB11.fpb q24
  have q28 := Nq.made1 hlo23 hB11.bi
  have q29 := Zn.upD q24 hE18
  replace hB3 := hB3.ext hx22
  replace hB11 := hB11.ext hx22
  have hE30 := Ext.trans hE18 hx22
  refine o_storeA (vs := [(.slice none 0 0)]) ha hB21 Tryd.sizeOf27 rfl rfl (by intro c hc; simp only [List.mem_cons, List.not_mem_nil, or_false] at hc; rcases hc with hc <;> subst hc <;> first | rfl | exact rfl) rfl ?_; intro w31 hB32 hc33
  replace hc33 := hc33.bl
  replace hB32 : Bx w31 b19 [(.slice none 0 0)] 27 := hB32
  replace hB3 := hB3.nq hc33 q25
  replace hB11 := hB11.nq hc33 q27
  have hE34 := Ext.then hE30 hc33 (Zn.bl q29)
  refine wpList_nil ?_
  replace ha := ha.sub (σ' := [(1, (.int .i64 a1)), (2, (.pointer (some ⟨b1, 0, none⟩))), (4, (.pointer (some ⟨b9, 0, none⟩))), (5, (.pointer (some ⟨b19, 0, none⟩)))]) ⟨rfl, rfl, rfl, rfl, trivial⟩
  refine e_then ?_
  refine wp_seq ?_
  refine wp_seq ?_
  refine wp_region_lit ?_
  refine op_g ha rfl (g_assign rfl) ?_; clear ha a; intro a ha
  refine wpList_nil ?_
  replace ha := ha.sub (σ' := [(1, (.int .i64 a1)), (2, (.pointer (some ⟨b1, 0, none⟩))), (4, (.pointer (some ⟨b9, 0, none⟩))), (5, (.pointer (some ⟨b19, 0, none⟩))), (6, (.int .i64 0))]) ⟨rfl, rfl, rfl, rfl, rfl, trivial⟩
  refine e_then ?_
  obtain ⟨o1418, ho1419, hK1420⟩ := bnd_some hF
  obtain ⟨n1421, hn1422⟩ := lp_some ho1419; clear ho1419
  obtain ⟨b1425, hb1425⟩ : ∃ b : Int, b = -1 := ⟨_, rfl⟩
  have h1424 : Ow (Rp.sl 2 Rp.int) 31 true w31 [] b1425 (.slice none 0 0) [] := Ow.nil (by omega)
  have q1426 := (.inl (by omega) : Zn w31 b1425)
  have q1427 := Nq.new hB3.fpb q1426
  have q1428 := Nq.madeO q1426 hB3.bi
  have q1429 := Nq.new hB11.fpb q1426
  have q1430 := Nq.madeO q1426 hB11.bi
  have q1431 := Nq.new hB32.fpb q1426
  have q1432 := Nq.madeO q1426 hB32.bi
  have q1433 := Zn.upD q1426 hE34
  refine c_loop (fun a w => ∃ (l1409 : (List (List Int))) (fs1406 : List Nat) (v1410 : Value) (b1411 : Int), Fr 64 [(4, (.pointer (some ⟨b9, 0, none⟩))), (5, (.pointer (some ⟨b19, 0, none⟩)))] a ∧ Chg [] W w ∧ Bx w b9 [(.slice none 0 0)] 27 ∧ Zn W (b9 : Int) ∧ Bx w b19 [v1410] 27 ∧ Zn W (b19 : Int) ∧ Ow (Rp.sl 2 Rp.int) 31 true w fs1406 b1411 v1410 l1409 ∧ Zn W b1411 ∧ (∀ k ∈ fs1406, W.heap.size ≤ k) ∧ (bl b1411 ++ fs1406).Nodup ∧ Nq ([b9]) (b19 : Int) ∧ Nq ([b9]) b1411 ∧ Nq ([b19]) (b9 : Int) ∧ Nq ([b19]) b1411 ∧ Nq (bl b1411 ++ fs1406) (b9 : Int) ∧ Nq (bl b1411 ++ fs1406) (b19 : Int) ∧ o1418 = .inl l1409) (fun n a w => ∃ (l669 : (List (List Int))) (i672 : Int) (fs666 : List Nat) (v670 : Value) (b671 : Int), Fr 64 [(1, (.int .i64 a1)), (2, (.pointer (some ⟨b1, 0, none⟩))), (4, (.pointer (some ⟨b9, 0, none⟩))), (5, (.pointer (some ⟨b19, 0, none⟩))), (6, (.int .i64 i672))] a ∧ Chg [] W w ∧ InI i672 ∧ Bx w b1 [va0_0] 27 ∧ Zn W (b1 : Int) ∧ Bx w b9 [(.slice none 0 0)] 27 ∧ Zn W (b9 : Int) ∧ Bx w b19 [v670] 27 ∧ Zn W (b19 : Int) ∧ Ow (Rp.sl 2 Rp.int) 31 true w fs666 b671 v670 l669 ∧ Zn W b671 ∧ (∀ k ∈ fs666, W.heap.size ≤ k) ∧ (bl b671 ++ fs666).Nodup ∧ Nq ([b1]) (b9 : Int) ∧ Nq ([b1]) (b19 : Int) ∧ Nq ([b1]) b671 ∧ Nq ([b9]) (b1 : Int) ∧ Nq ([b9]) (b19 : Int) ∧ Nq ([b9]) b671 ∧ Nq ([b19]) (b1 : Int) ∧ Nq ([b19]) (b9 : Int) ∧ Nq ([b19]) b671 ∧ Nq (bl b671 ++ fs666) (b1 : Int) ∧ Nq (bl b671 ++ fs666) (b9 : Int) ∧ Nq (bl b671 ++ fs666) (b19 : Int) ∧ lpN (fun s => F_spec_l26Without_l1 a0_0 a1 s.1 s.2) n (l669, i672) = some o1418) n1421 ⟨([] : (List (List Int))), 0, [], (.slice none 0 0), b1425, ha.sub ⟨rfl, rfl, rfl, rfl, rfl, trivial⟩, hE34, (show InI 0 from by decide), hB3, q7, hB11, q17, hB32, q29, h1424, q1433, (zf_nil _), (bl_nodup b1425), q15, q25, q1427, q16, q27, q1429, q26, q28, q1431, q1428, q1430, q1432, hn1422⟩ ?_ ?_
  · rintro m1437 a w656 ⟨l669, i672, fs666, v670, b671, ha, hE686, hI673, hB657, z658, hB659, z660, hB661, z662, h664, z665, zf667, nd668, q674, q675, q676, q677, q678, q679, q680, q681, q682, q683, q684, q685, hF⟩
    cases m1437 with
    | zero => exact (lpN_zero hF).elim
    | succ m1437 =>
      obtain ⟨z1436, hF, hN1435⟩ := lpN_succ hF
      have hF : F_spec_l26Without_l1 a0_0 a1 l669 i672 = some z1436 := hF; unfold F_spec_l26Without_l1 at hF
      refine wp_seq ?_
      refine wp_seq ?_
      refine wp_region_lit ?_
      refine op_g ha rfl (g_move rfl) ?_; clear ha a; intro a ha
      refine op_g ha rfl (g_field0 st27_0 rfl) ?_; clear ha a; intro a ha
      refine op_g ha rfl (g_load Tryd.isAgg22 rfl (hB657.cell rfl)) ?_; clear ha a; intro a ha
      refine op_g ha rfl (g_lenR sl22.und ha0_0 rfl) ?_; clear ha a; intro a ha
      refine op_g ha rfl (g_lss rfl rfl) ?_; clear ha a; intro a ha
      refine wpList_nil ?_
      replace ha := ha.sub (σ' := [(1, (.int .i64 a1)), (2, (.pointer (some ⟨b1, 0, none⟩))), (4, (.pointer (some ⟨b9, 0, none⟩))), (5, (.pointer (some ⟨b19, 0, none⟩))), (6, (.int .i64 i672)), (15, (.bool (decide (i672 < (a0_0.length : Int)))))]) ⟨rfl, rfl, rfl, rfl, rfl, rfl, trivial⟩
      refine e_then ?_
      refine c_cond (i672 < (a0_0.length : Int)) ha rfl (decide_eq_true_iff) (fun hp1438 => ?_) (fun hp1438 => ?_)
      · replace hF := if_t hp1438 hF
        refine wp_skip ?_
        refine e_then ?_
        refine wp_seq ?_
        refine wp_block ?_
        refine wp_seq ?_
        refine wp_region_lit ?_
        refine o_lit0 Rp.int ha rfl sl31 ?_; clear ha a; intro v1439 w1440 h1441 hx1442 a ha
        obtain ⟨b1444, hb1444⟩ : ∃ b : Int, b = w656.heap.size := ⟨_, rfl⟩; rw [← hb1444] at h1441
        have q1445 := zn_of hb1444
        have q1446 := Nq.new hB657.fpb q1445
        have q1447 := Nq.madeO q1445 hB657.bi
        have q1448 := Nq.new hB659.fpb q1445
        have q1449 := Nq.madeO q1445 hB659.bi
        have q1450 := Nq.new hB661.fpb q1445
        have q1451 := Nq.madeO q1445 hB661.bi
        have q1452 := Nq.new h664.fpb q1445
        have q1453 := Nq.madeO q1445 h664.blt
        have q1454 := Nf.old q1445 (zf_nil _) h664.bnd
        have q1455 := Zn.upD q1445 hE686
        replace hB657 := hB657.ext hx1442
        replace hB659 := hB659.ext hx1442
        replace hB661 := hB661.ext hx1442
        replace h664 := h664.ext hx1442
        have hE1456 := Ext.trans hE686 hx1442
        refine op_g ha rfl (g_assign rfl) ?_; clear ha a; intro a ha
        refine wpList_nil ?_
        replace ha := ha.sub (σ' := [(1, (.int .i64 a1)), (2, (.pointer (some ⟨b1, 0, none⟩))), (4, (.pointer (some ⟨b9, 0, none⟩))), (5, (.pointer (some ⟨b19, 0, none⟩))), (6, (.int .i64 i672)), (7, v1439)]) ⟨rfl, rfl, rfl, rfl, rfl, rfl, trivial⟩
        refine e_then ?_
        refine wp_seq ?_
        refine wp_seq ?_
        refine wp_region_lit ?_
        refine op_g ha rfl (g_assign rfl) ?_; clear ha a; intro a ha
        refine wpList_nil ?_
        replace ha := ha.sub (σ' := [(1, (.int .i64 a1)), (2, (.pointer (some ⟨b1, 0, none⟩))), (4, (.pointer (some ⟨b9, 0, none⟩))), (5, (.pointer (some ⟨b19, 0, none⟩))), (6, (.int .i64 i672)), (7, v1439), (8, (.int .i64 0))]) ⟨rfl, rfl, rfl, rfl, rfl, rfl, rfl, trivial⟩
        refine e_then ?_
        obtain ⟨o1931, ho1932, hK1933⟩ := bnd_some hF
        obtain ⟨n1934, hn1935⟩ := lp_some ho1932; clear ho1932
        refine c_loop (fun a w => ∃ (l1902 : (List (List Int))) (l1908 : (List Int)) (fs1899 : List Nat) (v1903 : Value) (b1904 : Int) (v1909 : Value) (b1910 : Int), Fr 64 [(1, (.int .i64 a1)), (2, (.pointer (some ⟨b1, 0, none⟩))), (4, (.pointer (some ⟨b9, 0, none⟩))), (5, (.pointer (some ⟨b19, 0, none⟩))), (6, (.int .i64 i672)), (7, v1909)] a ∧ Chg [] W w ∧ Bx w b1 [va0_0] 27 ∧ Zn W (b1 : Int) ∧ Bx w b9 [(.slice none 0 0)] 27 ∧ Zn W (b9 : Int) ∧ Bx w b19 [v1903] 27 ∧ Zn W (b19 : Int) ∧ Ow (Rp.sl 2 Rp.int) 31 true w fs1899 b1904 v1903 l1902 ∧ Zn W b1904 ∧ (∀ k ∈ fs1899, W.heap.size ≤ k) ∧ (bl b1904 ++ fs1899).Nodup ∧ Ow Rp.int 2 true w [] b1910 v1909 l1908 ∧ Zn W b1910 ∧ Nq ([b1]) (b9 : Int) ∧ Nq ([b1]) (b19 : Int) ∧ Nq ([b1]) b1904 ∧ Nq ([b1]) b1910 ∧ Nq ([b9]) (b1 : Int) ∧ Nq ([b9]) (b19 : Int) ∧ Nq ([b9]) b1904 ∧ Nq ([b9]) b1910 ∧ Nq ([b19]) (b1 : Int) ∧ Nq ([b19]) (b9 : Int) ∧ Nq ([b19]) b1904 ∧ Nq ([b19]) b1910 ∧ Nq (bl b1904 ++ fs1899) (b1 : Int) ∧ Nq (bl b1904 ++ fs1899) (b9 : Int) ∧ Nq (bl b1904 ++ fs1899) (b19 : Int) ∧ Nq (bl b1904 ++ fs1899) b1910 ∧ Nq (bl b1910 ++ []) (b1 : Int) ∧ Nq (bl b1910 ++ []) (b9 : Int) ∧ Nq (bl b1910 ++ []) (b19 : Int) ∧ Nq (bl b1910 ++ []) b1904 ∧ o1931 = .inl (l1902, l1908)) (fun n a w => ∃ (l1682 : (List (List Int))) (l1688 : (List Int)) (i1691 : Int) (fs1679 : List Nat) (v1683 : Value) (b1684 : Int) (v1689 : Value) (b1690 : Int), Fr 64 [(1, (.int .i64 a1)), (2, (.pointer (some ⟨b1, 0, none⟩))), (4, (.pointer (some ⟨b9, 0, none⟩))), (5, (.pointer (some ⟨b19, 0, none⟩))), (6, (.int .i64 i672)), (7, v1689), (8, (.int .i64 i1691))] a ∧ Chg [] W w ∧ InI i1691 ∧ Bx w b1 [va0_0] 27 ∧ Zn W (b1 : Int) ∧ Bx w b9 [(.slice none 0 0)] 27 ∧ Zn W (b9 : Int) ∧ Bx w b19 [v1683] 27 ∧ Zn W (b19 : Int) ∧ Ow (Rp.sl 2 Rp.int) 31 true w fs1679 b1684 v1683 l1682 ∧ Zn W b1684 ∧ (∀ k ∈ fs1679, W.heap.size ≤ k) ∧ (bl b1684 ++ fs1679).Nodup ∧ Ow Rp.int 2 true w [] b1690 v1689 l1688 ∧ Zn W b1690 ∧ Nq ([b1]) (b9 : Int) ∧ Nq ([b1]) (b19 : Int) ∧ Nq ([b1]) b1684 ∧ Nq ([b1]) b1690 ∧ Nq ([b9]) (b1 : Int) ∧ Nq ([b9]) (b19 : Int) ∧ Nq ([b9]) b1684 ∧ Nq ([b9]) b1690 ∧ Nq ([b19]) (b1 : Int) ∧ Nq ([b19]) (b9 : Int) ∧ Nq ([b19]) b1684 ∧ Nq ([b19]) b1690 ∧ Nq (bl b1684 ++ fs1679) (b1 : Int) ∧ Nq (bl b1684 ++ fs1679) (b9 : Int) ∧ Nq (bl b1684 ++ fs1679) (b19 : Int) ∧ Nq (bl b1684 ++ fs1679) b1690 ∧ Nq (bl b1690 ++ []) (b1 : Int) ∧ Nq (bl b1690 ++ []) (b9 : Int) ∧ Nq (bl b1690 ++ []) (b19 : Int) ∧ Nq (bl b1690 ++ []) b1684 ∧ lpN (fun s => F_spec_l26Without_l2 a0_0 a1 i672 s.1 s.2.1 s.2.2) n (l1682, l1688, i1691) = some o1931) n1934 ⟨l669, ([] : (List Int)), 0, fs666, v670, b671, v1439, b1444, ha.sub ⟨rfl, rfl, rfl, rfl, rfl, rfl, rfl, trivial⟩, hE1456, (show InI 0 from by decide), hB657, z658, hB659, z660, hB661, z662, h664, z665, zf667, nd668, h1441, q1455, q674, q675, q676, q1446, q677, q678, q679, q1448, q680, q681, q682, q1450, q683, q684, q685, q1452, q1447, q1449, q1451, q1453, hn1935⟩ ?_ ?_
        · rintro m1939 a w1669 ⟨l1682, l1688, i1691, fs1679, v1683, b1684, v1689, b1690, ha, hE1713, hI1692, hB1670, z1671, hB1672, z1673, hB1674, z1675, h1677, z1678, zf1680, nd1681, h1686, z1687, q1693, q1694, q1695, q1696, q1697, q1698, q1699, q1700, q1701, q1702, q1703, q1704, q1705, q1706, q1707, q1708, q1709, q1710, q1711, q1712, hF⟩
          cases m1939 with
          | zero => exact (lpN_zero hF).elim
          | succ m1939 =>
            obtain ⟨z1938, hF, hN1937⟩ := lpN_succ hF
            have hF : F_spec_l26Without_l2 a0_0 a1 i672 l1682 l1688 i1691 = some z1938 := hF; unfold F_spec_l26Without_l2 at hF
            refine wp_seq ?_
            refine wp_seq ?_
            refine wp_region_lit ?_
            refine op_g ha rfl (g_move rfl) ?_; clear ha a; intro a ha
            refine op_g ha rfl (g_field0 st27_0 rfl) ?_; clear ha a; intro a ha
            refine op_g ha rfl (g_load Tryd.isAgg22 rfl (hB1670.cell rfl)) ?_; clear ha a; intro a ha
            refine op_g ha rfl (g_move rfl) ?_; clear ha a; intro a ha
            obtain ⟨x1940, g1941, gx1942, hF⟩ := idx_some hF
            obtain ⟨p1943, cs1944, f1945, hf1946, hpb1947, hat1948, hr1949, hi1950⟩ := ha0_0.at g1941 gx1942
            obtain ⟨v1951, rfl, h1952⟩ := hr1949
            have h1952 : Ro Rp.int W f1945 v1951 x1940 := h1952
            refine op_g ha rfl (hi1950.gives sl22 rfl rfl) ?_; clear ha a; intro a ha
            refine op_g ha rfl (g_load0 hE1713 Tryd.isAgg31 rfl hat1948.one) ?_; clear ha a; intro a ha
            refine op_g ha rfl (g_lenR sl31.und h1952 rfl) ?_; clear ha a; intro a ha
            refine op_g ha rfl (g_lss rfl rfl) ?_; clear ha a; intro a ha
            refine wpList_nil ?_
            replace ha := ha.sub (σ' := [(1, (.int .i64 a1)), (2, (.pointer (some ⟨b1, 0, none⟩))), (4, (.pointer (some ⟨b9, 0, none⟩))), (5, (.pointer (some ⟨b19, 0, none⟩))), (6, (.int .i64 i672)), (7, v1689), (8, (.int .i64 i1691)), (26, (.bool (decide (i1691 < (x1940.length : Int)))))]) ⟨rfl, rfl, rfl, rfl, rfl, rfl, rfl, rfl, trivial⟩
            refine e_then ?_
            refine c_cond (i1691 < (x1940.length : Int)) ha rfl (decide_eq_true_iff) (fun hp1954 => ?_) (fun hp1954 => ?_)
            · replace hF := if_t hp1954 hF
              refine wp_skip ?_
              refine e_then ?_
              refine wp_seq ?_
              refine wp_block ?_
              refine wp_seq ?_
              refine wp_region_lit ?_
              refine op_g ha rfl (g_field0 st27_0 rfl) ?_; clear ha a; intro a ha
              refine op_g ha rfl (g_load Tryd.isAgg22 rfl (hB1670.cell rfl)) ?_; clear ha a; intro a ha
              refine op_g ha rfl (g_move rfl) ?_; clear ha a; intro a ha
              obtain ⟨x1955, g1956, gx1957, hF⟩ := idx_some hF
              obtain ⟨p1958, cs1959, f1960, hf1961, hpb1962, hat1963, hr1964, hi1965⟩ := ha0_0.at g1956 gx1957
              obtain ⟨v1966, rfl, h1967⟩ := hr1964
              have h1967 : Ro Rp.int W f1960 v1966 x1955 := h1967
              refine op_g ha rfl (hi1965.gives sl22 rfl rfl) ?_; clear ha a; intro a ha
              refine op_g ha rfl (g_load0 hE1713 Tryd.isAgg31 rfl hat1963.one) ?_; clear ha a; intro a ha
              refine op_g ha rfl (g_move rfl) ?_; clear ha a; intro a ha
              obtain ⟨x1969, g1970, gx1971, hF⟩ := idx_some hF
              obtain ⟨p1972, cs1973, f1974, hf1975, hpb1976, hat1977, hr1978, hi1979⟩ := h1967.at g1970 gx1971
              obtain ⟨rfl, hI1980, rfl⟩ := hr1978
              refine op_g ha rfl (hi1979.gives sl31 rfl rfl) ?_; clear ha a; intro a ha
              refine op_g ha rfl (g_load0 hE1713 Tryd.isAgg2 rfl hat1977.one) ?_; clear ha a; intro a ha
              refine op_g ha rfl (g_assign rfl) ?_; clear ha a; intro a ha
              refine wpList_nil ?_
              replace ha := ha.sub (σ' := [(1, (.int .i64 a1)), (2, (.pointer (some ⟨b1, 0, none⟩))), (4, (.pointer (some ⟨b9, 0, none⟩))), (5, (.pointer (some ⟨b19, 0, none⟩))), (6, (.int .i64 i672)), (7, v1689), (8, (.int .i64 i1691)), (9, (.int .i64 x1969))]) ⟨rfl, rfl, rfl, rfl, rfl, rfl, rfl, rfl, trivial⟩
              refine e_then ?_
              refine wp_block ?_
              refine wp_seq ?_
              refine wp_region_lit ?_
              refine op_g ha rfl (g_move rfl) ?_; clear ha a; intro a ha
              refine op_g ha rfl (g_move rfl) ?_; clear ha a; intro a ha
              refine op_g ha rfl (g_lss rfl rfl) ?_; clear ha a; intro a ha
              refine op_g ha rfl (g_assign rfl) ?_; clear ha a; intro a ha
              refine wpList_nil ?_
              replace ha := ha.sub (σ' := [(1, (.int .i64 a1)), (2, (.pointer (some ⟨b1, 0, none⟩))), (4, (.pointer (some ⟨b9, 0, none⟩))), (5, (.pointer (some ⟨b19, 0, none⟩))), (6, (.int .i64 i672)), (7, v1689), (8, (.int .i64 i1691)), (9, (.int .i64 x1969)), (37, (.bool (decide (x1969 < a1))))]) ⟨rfl, rfl, rfl, rfl, rfl, rfl, rfl, rfl, rfl, trivial⟩
              refine e_then ?_
              refine c_cond (x1969 < a1) ha rfl (decide_eq_true_iff) (fun hp1981 => ?_) (fun hp1981 => ?_)
              · replace hF := if_t hp1981 hF
                refine wp_region_lit ?_
                refine op_g ha rfl (g_move rfl) ?_; clear ha a; intro a ha
                refine op_g ha rfl (g_move rfl) ?_; clear ha a; intro a ha
                refine o_lit1 (o := true) (y := x1969) Rp.int ha rfl sl31 rfl rfl rfl ⟨rfl, hI1980, rfl⟩ ?_; clear ha a; intro v1982 w1983 h1984 hx1985 a ha
                obtain ⟨b1987, hb1987⟩ : ∃ b : Int, b = w1669.heap.size := ⟨_, rfl⟩; rw [← hb1987] at h1984
                have q1988 := zn_of hb1987
                have q1989 := Nq.new hB1670.fpb q1988
                have q1990 := Nq.madeO q1988 hB1670.bi
                have q1991 := Nq.new hB1672.fpb q1988
                have q1992 := Nq.madeO q1988 hB1672.bi
                have q1993 := Nq.new hB1674.fpb q1988
                have q1994 := Nq.madeO q1988 hB1674.bi
                have q1995 := Nq.new h1677.fpb q1988
                have q1996 := Nq.madeO q1988 h1677.blt
                have q1997 := Nq.new h1686.fpb q1988
                have q1998 := Nq.madeO q1988 h1686.blt
                have q1999 := Nf.old q1988 (zf_nil _) h1677.bnd
                have q2000 := Zn.upD q1988 hE1713
                replace hB1670 := hB1670.ext hx1985
                replace hB1672 := hB1672.ext hx1985
                replace hB1674 := hB1674.ext hx1985
                replace h1677 := h1677.ext hx1985
                replace h1686 := h1686.ext hx1985
                have hE2001 := Ext.trans hE1713 hx1985
                obtain ⟨hl2002, hF⟩ := app_some hF
                refine o_append ha rfl sl31 rfl rfl rfl h1686 h1984.src (Nq.nil _) hl2002 ?_; clear ha a; intro v2003 w2004 b2005 h2006 hc2007 hb2008 a ha
                replace h2006 : Ow Rp.int 2 true w2004 [] b2005 v2003 _ := h2006
                have q2010 := Nq.appY q1696 hB1670.fpb hb2008
                have q2011 := Nq.appX q1709 (Nq.nil _) hb2008 hB1670.bi
                have q2012 := Nq.appY q1700 hB1672.fpb hb2008
                have q2013 := Nq.appX q1710 (Nq.nil _) hb2008 hB1672.bi
                have q2014 := Nq.appY q1704 hB1674.fpb hb2008
                have q2015 := Nq.appX q1711 (Nq.nil _) hb2008 hB1674.bi
                have q2016 := Nq.appY q1708 h1677.fpb hb2008
                have q2017 := Nq.appX q1712 (Nq.nil _) hb2008 h1677.blt
                have q2018 := Nq.appY q1998 h1984.fpb hb2008
                have q2019 := Nq.appX q1997 (Nq.nil _) hb2008 h1984.blt
                have q2020 := Zn.appD z1687 hb2008 hE2001
                replace hB1670 := hB1670.nq hc2007 q1696
                replace hB1672 := hB1672.nq hc2007 q1700
                replace hB1674 := hB1674.nq hc2007 q1704
                replace h1677 := h1677.nq hc2007 q1708
                replace h1984 := h1984.nq hc2007 q1998
                have hE2021 := Ext.then hE2001 hc2007 (Zn.bl z1687)
                refine op_g ha rfl (g_assign rfl) ?_; clear ha a; intro a ha
                refine wpList_nil ?_
                replace ha := ha.sub (σ' := [(1, (.int .i64 a1)), (2, (.pointer (some ⟨b1, 0, none⟩))), (4, (.pointer (some ⟨b9, 0, none⟩))), (5, (.pointer (some ⟨b19, 0, none⟩))), (6, (.int .i64 i672)), (7, v2003), (8, (.int .i64 i1691))]) ⟨rfl, rfl, rfl, rfl, rfl, rfl, rfl, trivial⟩
                refine e_blk ?_
                refine e_blk ?_
                refine e_then ?_
                refine wp_region_lit ?_
                refine op_g ha rfl (g_move rfl) ?_; clear ha a; intro a ha
                obtain ⟨hI2022, hF⟩ := ck_some hF
                refine op_g ha rfl (g_add rfl rfl hI2022) ?_; clear ha a; intro a ha
                refine op_g ha rfl (g_assign rfl) ?_; clear ha a; intro a ha
                refine wpList_nil ?_
                replace ha := ha.sub (σ' := [(1, (.int .i64 a1)), (2, (.pointer (some ⟨b1, 0, none⟩))), (4, (.pointer (some ⟨b9, 0, none⟩))), (5, (.pointer (some ⟨b19, 0, none⟩))), (6, (.int .i64 i672)), (7, v2003), (8, (.int .i64 (i1691 + 1)))]) ⟨rfl, rfl, rfl, rfl, rfl, rfl, rfl, trivial⟩
                refine e_lq ?_
                obtain rfl := Option.some.inj hF
                exact ⟨_, Nat.lt_succ_self _, l1682, (l1688 ++ ([x1969])), i1691 + 1, fs1679, v1683, b1684, v2003, b2005, ha.sub ⟨rfl, rfl, rfl, rfl, rfl, rfl, rfl, trivial⟩, hE2021, hI2022, hB1670, z1671, hB1672, z1673, hB1674, z1675, h1677, z1678, zf1680, nd1681, h2006, q2020, q1693, q1694, q1695, q2010, q1697, q1698, q1699, q2012, q1701, q1702, q1703, q2014, q1705, q1706, q1707, q2016, q2011, q2013, q2015, q2017, hN1937⟩
              · replace hF := if_f hp1981 hF
                refine wp_seq ?_
                refine wp_region_lit ?_
                refine op_g ha rfl (g_move rfl) ?_; clear ha a; intro a ha
                refine op_g ha rfl (g_move rfl) ?_; clear ha a; intro a ha
                refine op_g ha rfl (g_gtr rfl rfl) ?_; clear ha a; intro a ha
                refine op_g ha rfl (g_assign rfl) ?_; clear ha a; intro a ha
                refine wpList_nil ?_
                replace ha := ha.sub (σ' := [(1, (.int .i64 a1)), (2, (.pointer (some ⟨b1, 0, none⟩))), (4, (.pointer (some ⟨b9, 0, none⟩))), (5, (.pointer (some ⟨b19, 0, none⟩))), (6, (.int .i64 i672)), (7, v1689), (8, (.int .i64 i1691)), (9, (.int .i64 x1969)), (45, (.bool (decide (a1 < x1969))))]) ⟨rfl, rfl, rfl, rfl, rfl, rfl, rfl, rfl, rfl, trivial⟩
                refine e_then ?_
                refine c_cond (a1 < x1969) ha rfl (decide_eq_true_iff) (fun hp2024 => ?_) (fun hp2024 => ?_)
                · replace hF := if_t hp2024 hF
                  refine wp_region_lit ?_
                  refine op_g ha rfl (g_move rfl) ?_; clear ha a; intro a ha
                  refine op_g ha rfl (g_move rfl) ?_; clear ha a; intro a ha
                  obtain ⟨hI2025, hF⟩ := ck_some hF
                  refine op_g ha rfl (g_sub rfl rfl hI2025) ?_; clear ha a; intro a ha
                  refine o_lit1 (o := true) (y := x1969 - 1) Rp.int ha rfl sl31 rfl rfl rfl ⟨rfl, hI2025, rfl⟩ ?_; clear ha a; intro v2027 w2028 h2029 hx2030 a ha
                  obtain ⟨b2032, hb2032⟩ : ∃ b : Int, b = w1669.heap.size := ⟨_, rfl⟩; rw [← hb2032] at h2029
                  have q2033 := zn_of hb2032
                  have q2034 := Nq.new hB1670.fpb q2033
                  have q2035 := Nq.madeO q2033 hB1670.bi
                  have q2036 := Nq.new hB1672.fpb q2033
                  have q2037 := Nq.madeO q2033 hB1672.bi
                  have q2038 := Nq.new hB1674.fpb q2033
                  have q2039 := Nq.madeO q2033 hB1674.bi
                  have q2040 := Nq.new h1677.fpb q2033
                  have q2041 := Nq.madeO q2033 h1677.blt
                  have q2042 := Nq.new h1686.fpb q2033
                  have q2043 := Nq.madeO q2033 h1686.blt
                  have q2044 := Nf.old q2033 (zf_nil _) h1677.bnd
                  have q2045 := Zn.upD q2033 hE1713
                  replace hB1670 := hB1670.ext hx2030
                  replace hB1672 := hB1672.ext hx2030
                  replace hB1674 := hB1674.ext hx2030
                  replace h1677 := h1677.ext hx2030
                  replace h1686 := h1686.ext hx2030
                  have hE2046 := Ext.trans hE1713 hx2030
                  obtain ⟨hl2047, hF⟩ := app_some hF
                  refine o_append ha rfl sl31 rfl rfl rfl h1686 h2029.src (Nq.nil _) hl2047 ?_; clear ha a; intro v2048 w2049 b2050 h2051 hc2052 hb2053 a ha
                  replace h2051 : Ow Rp.int 2 true w2049 [] b2050 v2048 _ := h2051
                  have q2055 := Nq.appY q1696 hB1670.fpb hb2053
                  have q2056 := Nq.appX q1709 (Nq.nil _) hb2053 hB1670.bi
                  have q2057 := Nq.appY q1700 hB1672.fpb hb2053
                  have q2058 := Nq.appX q1710 (Nq.nil _) hb2053 hB1672.bi
                  have q2059 := Nq.appY q1704 hB1674.fpb hb2053
                  have q2060 := Nq.appX q1711 (Nq.nil _) hb2053 hB1674.bi
                  have q2061 := Nq.appY q1708 h1677.fpb hb2053
                  have q2062 := Nq.appX q1712 (Nq.nil _) hb2053 h1677.blt
                  have q2063 := Nq.appY q2043 h2029.fpb hb2053
                  have q2064 := Nq.appX q2042 (Nq.nil _) hb2053 h2029.blt
                  have q2065 := Zn.appD z1687 hb2053 hE2046
                  replace hB1670 := hB1670.nq hc2052 q1696
                  replace hB1672 := hB1672.nq hc2052 q1700
                  replace hB1674 := hB1674.nq hc2052 q1704
                  replace h1677 := h1677.nq hc2052 q1708
                  replace h2029 := h2029.nq hc2052 q2043
                  have hE2066 := Ext.then hE2046 hc2052 (Zn.bl z1687)
                  refine op_g ha rfl (g_assign rfl) ?_; clear ha a; intro a ha
                  refine wpList_nil ?_
                  replace ha := ha.sub (σ' := [(1, (.int .i64 a1)), (2, (.pointer (some ⟨b1, 0, none⟩))), (4, (.pointer (some ⟨b9, 0, none⟩))), (5, (.pointer (some ⟨b19, 0, none⟩))), (6, (.int .i64 i672)), (7, v2048), (8, (.int .i64 i1691))]) ⟨rfl, rfl, rfl, rfl, rfl, rfl, rfl, trivial⟩
                  refine e_blk ?_
                  refine e_blk ?_
                  refine e_then ?_
                  refine wp_region_lit ?_
                  refine op_g ha rfl (g_move rfl) ?_; clear ha a; intro a ha
                  obtain ⟨hI2067, hF⟩ := ck_some hF
                  refine op_g ha rfl (g_add rfl rfl hI2067) ?_; clear ha a; intro a ha
                  refine op_g ha rfl (g_assign rfl) ?_; clear ha a; intro a ha
                  refine wpList_nil ?_
                  replace ha := ha.sub (σ' := [(1, (.int .i64 a1)), (2, (.pointer (some ⟨b1, 0, none⟩))), (4, (.pointer (some ⟨b9, 0, none⟩))), (5, (.pointer (some ⟨b19, 0, none⟩))), (6, (.int .i64 i672)), (7, v2048), (8, (.int .i64 (i1691 + 1)))]) ⟨rfl, rfl, rfl, rfl, rfl, rfl, rfl, trivial⟩
                  refine e_lq ?_
                  obtain rfl := Option.some.inj hF
                  exact ⟨_, Nat.lt_succ_self _, l1682, (l1688 ++ ([x1969 - 1])), i1691 + 1, fs1679, v1683, b1684, v2048, b2050, ha.sub ⟨rfl, rfl, rfl, rfl, rfl, rfl, rfl, trivial⟩, hE2066, hI2067, hB1670, z1671, hB1672, z1673, hB1674, z1675, h1677, z1678, zf1680, nd1681, h2051, q2065, q1693, q1694, q1695, q2055, q1697, q1698, q1699, q2057, q1701, q1702, q1703, q2059, q1705, q1706, q1707, q2061, q2056, q2058, q2060, q2062, hN1937⟩
                · replace hF := if_f hp2024 hF
                  refine wp_skip ?_
                  refine e_blk ?_
                  refine e_blk ?_
                  refine e_then ?_
                  refine wp_region_lit ?_
                  refine op_g ha rfl (g_move rfl) ?_; clear ha a; intro a ha
                  obtain ⟨hI2069, hF⟩ := ck_some hF
                  refine op_g ha rfl (g_add rfl rfl hI2069) ?_; clear ha a; intro a ha
                  refine op_g ha rfl (g_assign rfl) ?_; clear ha a; intro a ha
                  refine wpList_nil ?_
                  replace ha := ha.sub (σ' := [(1, (.int .i64 a1)), (2, (.pointer (some ⟨b1, 0, none⟩))), (4, (.pointer (some ⟨b9, 0, none⟩))), (5, (.pointer (some ⟨b19, 0, none⟩))), (6, (.int .i64 i672)), (7, v1689), (8, (.int .i64 (i1691 + 1)))]) ⟨rfl, rfl, rfl, rfl, rfl, rfl, rfl, trivial⟩
                  refine e_lq ?_
                  obtain rfl := Option.some.inj hF
                  exact ⟨_, Nat.lt_succ_self _, l1682, l1688, i1691 + 1, fs1679, v1683, b1684, v1689, b1690, ha.sub ⟨rfl, rfl, rfl, rfl, rfl, rfl, rfl, trivial⟩, hE1713, hI2069, hB1670, z1671, hB1672, z1673, hB1674, z1675, h1677, z1678, zf1680, nd1681, h1686, z1687, q1693, q1694, q1695, q1696, q1697, q1698, q1699, q1700, q1701, q1702, q1703, q1704, q1705, q1706, q1707, q1708, q1709, q1710, q1711, q1712, hN1937⟩
            · replace hF := if_f hp1954 hF
              refine wp_exit ?_
              refine e_then_exit ?_
              refine e_lq_eq ?_
              obtain rfl := Option.some.inj hF
              exact ⟨l1682, l1688, fs1679, v1683, b1684, v1689, b1690, ha.sub ⟨rfl, rfl, rfl, rfl, rfl, rfl, trivial⟩, hE1713, hB1670, z1671, hB1672, z1673, hB1674, z1675, h1677, z1678, zf1680, nd1681, h1686, z1687, q1693, q1694, q1695, q1696, q1697, q1698, q1699, q1700, q1701, q1702, q1703, q1704, q1705, q1706, q1707, q1708, q1709, q1710, q1711, q1712, (LK_inr hN1937).symm⟩
        · rintro a w1889 ⟨l1902, l1908, fs1899, v1903, b1904, v1909, b1910, ha, hE1936, hB1890, z1891, hB1892, z1893, hB1894, z1895, h1897, z1898, zf1900, nd1901, h1906, z1907, q1911, q1912, q1913, q1914, q1915, q1916, q1917, q1918, q1919, q1920, q1921, q1922, q1923, q1924, q1925, q1926, q1927, q1928, q1929, q1930, rfl⟩
          have hF : F_spec_l26Without_k3 a1 i672 l1902 l1908 = some _ := hK1933; clear hK1933; unfold F_spec_l26Without_k3 at hF
          refine e_then ?_
          refine wp_seq ?_
          refine wp_region_lit ?_
          refine op_g ha rfl (g_move rfl) ?_; clear ha a; intro a ha
          refine op_g ha rfl (g_move rfl) ?_; clear ha a; intro a ha
          refine op_g ha rfl (g_neq rfl rfl) ?_; clear ha a; intro a ha
          refine wpList_nil ?_
          replace ha := ha.sub (σ' := [(1, (.int .i64 a1)), (2, (.pointer (some ⟨b1, 0, none⟩))), (4, (.pointer (some ⟨b9, 0, none⟩))), (5, (.pointer (some ⟨b19, 0, none⟩))), (6, (.int .i64 i672)), (7, v1909), (56, (.bool (decide (i672 ≠ a1))))]) ⟨rfl, rfl, rfl, rfl, rfl, rfl, rfl, trivial⟩
          refine e_then ?_
          refine c_cond (i672 ≠ a1) ha rfl (decide_eq_true_iff) (fun hp2071 => ?_) (fun hp2071 => ?_)
          · replace hF := if_t hp2071 hF
            refine wp_region_lit ?_
            refine op_g ha rfl (g_field0 st27_0 rfl) ?_; clear ha a; intro a ha
            refine op_g ha rfl (g_load Tryd.isAgg22 rfl (hB1894.cell rfl)) ?_; clear ha a; intro a ha
            refine op_g ha rfl (g_move rfl) ?_; clear ha a; intro a ha
            refine o_lit1 (o := true) (y := l1908) (Rp.sl 2 Rp.int) ha rfl sl22 rfl rfl h1906.cells (Rp.mkO h1906) ?_; clear ha a; intro v2072 w2073 h2074 hx2075 a ha
            obtain ⟨b2077, hb2077⟩ : ∃ b : Int, b = w1889.heap.size := ⟨_, rfl⟩; rw [← hb2077] at h2074
            have q2078 := zn_of hb2077
            have q2079 := zf_mv z1907 (zf_nil _)
            have q2080 := dj_of q1926
            have q2081 := Nq.new hB1890.fpb q2078
            have q2082 := Nq.append (Nq.madeL q2078 hB1890.bi) q1927
            have q2083 := Nq.new hB1892.fpb q2078
            have q2084 := Nq.append (Nq.madeL q2078 hB1892.bi) q1928
            have q2085 := Nq.new hB1894.fpb q2078
            have q2086 := Nq.append (Nq.madeL q2078 hB1894.bi) q1929
            have q2087 := Nq.new h1897.fpb q2078
            have q2088 := Nq.append (Nq.madeL q2078 h1897.blt) q1930
            have q2089 := Zn.upD q2078 hE1936
            have q2090 := nd_lit (bl_nodup b1910) h1906.fpb hb2077
            replace hB1890 := hB1890.ext hx2075
            replace hB1892 := hB1892.ext hx2075
            replace hB1894 := hB1894.ext hx2075
            replace h1897 := h1897.ext hx2075
            have hE2091 := Ext.trans hE1936 hx2075
            obtain ⟨hl2092, hF⟩ := app_some hF
            have q2093 := Nq.right q2088
            refine o_append ha rfl sl22 rfl rfl rfl h1897 h2074.src q2093 hl2092 ?_; clear ha a; intro v2094 w2095 b2096 h2097 hc2098 hb2099 a ha
            replace h2097 : Ow (Rp.sl 2 Rp.int) 31 true w2095 (fs1899 ++ (bl b1910 ++ [])) b2096 v2094 _ := h2097
            have q2101 := zf_app zf1900 q2079
            have q2102 := nd_app nd1901 (bl_nodup b1910) q2080 hb2099 h1897.fpb h2074.bnd
            have q2103 := Nq.appY q1913 hB1890.fpb hb2099
            have q2104 := Nq.appX q1923 (Nq.right q2082) hb2099 hB1890.bi
            have q2105 := Nq.appY q1917 hB1892.fpb hb2099
            have q2106 := Nq.appX q1924 (Nq.right q2084) hb2099 hB1892.bi
            have q2107 := Nq.appY q1921 hB1894.fpb hb2099
            have q2108 := Nq.appX q1925 (Nq.right q2086) hb2099 hB1894.bi
            have q2109 := Zn.appD z1898 hb2099 hE2091
            replace hB1890 := hB1890.nq hc2098 q1913
            replace hB1892 := hB1892.nq hc2098 q1917
            replace hB1894 := hB1894.nq hc2098 q1921
            have hE2110 := Ext.then hE2091 hc2098 (Zn.bl z1898)
            refine op_g ha rfl (g_field0 st27_0 rfl) ?_; clear ha a; intro a ha
            refine o_storeB ha hB1894 Tryd.sizeOf22 rfl rfl h2097.cells h2097.oneC (Nat.le_of_ble_eq_true rfl) ?_; intro w2111 hB2112 hc2113
            replace hc2113 := hc2113.bl
            replace hB2112 : Bx w2111 b19 [v2094] 27 := hB2112
            replace hB1890 := hB1890.nq hc2113 q1912
            replace hB1892 := hB1892.nq hc2113 q1916
            replace h2097 := h2097.nq hc2113 q2108
            have hE2114 := Ext.then hE2110 hc2113 (Zn.bl z1895)
            refine wpList_nil ?_
            replace ha := ha.sub (σ' := [(1, (.int .i64 a1)), (2, (.pointer (some ⟨b1, 0, none⟩))), (4, (.pointer (some ⟨b9, 0, none⟩))), (5, (.pointer (some ⟨b19, 0, none⟩))), (6, (.int .i64 i672))]) ⟨rfl, rfl, rfl, rfl, rfl, trivial⟩
            refine e_blk ?_
            refine e_then ?_
            refine wp_region_lit ?_
            refine op_g ha rfl (g_move rfl) ?_; clear ha a; intro a ha
            obtain ⟨hI2115, hF⟩ := ck_some hF
            refine op_g ha rfl (g_add rfl rfl hI2115) ?_; clear ha a; intro a ha
            refine op_g ha rfl (g_assign rfl) ?_; clear ha a; intro a ha
            refine wpList_nil ?_
            replace ha := ha.sub (σ' := [(1, (.int .i64 a1)), (2, (.pointer (some ⟨b1, 0, none⟩))), (4, (.pointer (some ⟨b9, 0, none⟩))), (5, (.pointer (some ⟨b19, 0, none⟩))), (6, (.int .i64 (i672 + 1)))]) ⟨rfl, rfl, rfl, rfl, rfl, trivial⟩
            refine e_lq ?_
            obtain rfl := Option.some.inj hF
            exact ⟨_, Nat.lt_succ_self _, (l1902 ++ ([l1908])), i672 + 1, (fs1899 ++ (bl b1910 ++ [])), v2094, b2096, ha.sub ⟨rfl, rfl, rfl, rfl, rfl, trivial⟩, hE2114, hI2115, hB1890, z1891, hB1892, z1893, hB2112, z1895, h2097, q2109, q2101, q2102, q1911, q1912, q2103, q1915, q1916, q2105, q1919, q1920, q2107, q2104, q2106, q2108, hN1435⟩
          · replace hF := if_f hp2071 hF
            refine wp_skip ?_
            refine e_blk ?_
            refine e_then ?_
            refine wp_region_lit ?_
            refine op_g ha rfl (g_move rfl) ?_; clear ha a; intro a ha
            obtain ⟨hI2117, hF⟩ := ck_some hF
            refine op_g ha rfl (g_add rfl rfl hI2117) ?_; clear ha a; intro a ha
            refine op_g ha rfl (g_assign rfl) ?_; clear ha a; intro a ha
            refine wpList_nil ?_
            replace ha := ha.sub (σ' := [(1, (.int .i64 a1)), (2, (.pointer (some ⟨b1, 0, none⟩))), (4, (.pointer (some ⟨b9, 0, none⟩))), (5, (.pointer (some ⟨b19, 0, none⟩))), (6, (.int .i64 (i672 + 1)))]) ⟨rfl, rfl, rfl, rfl, rfl, trivial⟩
            refine e_lq ?_
            obtain rfl := Option.some.inj hF
            exact ⟨_, Nat.lt_succ_self _, l1902, i672 + 1, fs1899, v1903, b1904, ha.sub ⟨rfl, rfl, rfl, rfl, rfl, trivial⟩, hE1936, hI2117, hB1890, z1891, hB1892, z1893, hB1894, z1895, h1897, z1898, zf1900, nd1901, q1911, q1912, q1913, q1915, q1916, q1917, q1919, q1920, q1921, q1923, q1924, q1925, hN1435⟩
      · replace hF := if_f hp1438 hF
        refine wp_exit ?_
        refine e_then_exit ?_
        refine e_lq_eq ?_
        obtain rfl := Option.some.inj hF
        exact ⟨l669, fs666, v670, b671, ha.sub ⟨rfl, rfl, trivial⟩, hE686, hB659, z660, hB661, z662, h664, z665, zf667, nd668, q678, q679, q681, q682, q684, q685, (LK_inr hN1435).symm⟩
  · rintro a w1398 ⟨l1409, fs1406, v1410, b1411, ha, hE1434, hB1399, z1400, hB1401, z1402, h1404, z1405, zf1407, nd1408, q1412, q1413, q1414, q1415, q1416, q1417, rfl⟩
    have hF : F_spec_l26Without_k4 l1409 = some _ := hK1420; clear hK1420; unfold F_spec_l26Without_k4 at hF
    refine e_then ?_
    refine wp_seq ?_
    refine wp_region_lit ?_
    refine op_g ha rfl (g_loadA (cs := [v1410]) Tryd.isAgg27 Tryd.sizeOf27 rfl (by simp) hB1401.all) ?_; clear ha a; intro a ha
    refine o_storeA (vs := [v1410]) ha hB1399 Tryd.sizeOf27 rfl rfl (by intro c hc; simp only [List.mem_cons, List.not_mem_nil, or_false] at hc; rcases hc with hc <;> subst hc <;> first | rfl | exact h1404.oneC) rfl ?_; intro w2119 hB2120 hc2121
    replace hc2121 := hc2121.bl
    replace hB2120 : Bx w2119 b9 [v1410] 27 := hB2120
    replace hB1401 := hB1401.nq hc2121 q1414
    replace h1404 := h1404.nq hc2121 q1416
    have hE2122 := Ext.then hE1434 hc2121 (Zn.bl z1400)
    refine wpList_nil ?_
    replace ha := ha.sub (σ' := [(4, (.pointer (some ⟨b9, 0, none⟩)))]) ⟨rfl, trivial⟩
    refine e_then ?_
    refine wp_ret ?_
    obtain rfl := Option.some.inj hF
    exact f_retC (cs := [v1410]) ha rfl rfl Tryd.isAgg27 Tryd.sizeOf27 hB2120 ⟨_, _, _, rfl, h1404, z1405, zf1407, nd1408, hE2122⟩
set_option maxHeartbeats 2000000 in
theorem W_spec_CriticalIn {W : World} {va0_0 : Value} {fa0_0 : List Nat} {a0_0 : (List (List Int))} (ha0_0 : Ro (Rp.sl 2 Rp.int) W fa0_0 va0_0 a0_0) {r : Bool} (hF : F_spec_CriticalIn a0_0 = some r) :
    Calls Tryd.prog 27 [.agg #[va0_0]].toArray W (Ret fun u w' => u = .bool r ∧ Ext W w') := by
  refine f_enter Tryd.func27 rfl Tryd.ntmps27 rfl ?_
  intro a ha
  replace ha : Fr 34 [(0, (.agg #[va0_0]))] a := ha
  have hE : Chg [] W W := Chg.refl _ _
  unfold F_spec_CriticalIn at hF
  refine wp_seq ?_
  refine wp_region_lit ?_
  refine o_box ha rfl rfl rfl ?_; clear ha a; intro b1 w2 hB3 hx4 hlo5 a ha
  have q6 := Zn.one hlo5
  have q7 := Zn.upD q6 hE
  have hE8 := Ext.trans hE hx4
  refine op_g ha rfl (g_assign rfl) ?_; clear ha a; intro a ha
  refine wpList_nil ?_
  replace ha := ha.sub (σ' := [(1, (.pointer (some ⟨b1, 0, none⟩)))]) ⟨rfl, trivial⟩
  refine e_then ?_
  refine wp_seq ?_
  refine wp_seq ?_
  refine wp_region_lit ?_
  refine op_g ha rfl (g_loadA (cs := [va0_0]) Tryd.isAgg27 Tryd.sizeOf27 rfl (by simp) hB3.all) ?_; clear ha a; intro a ha
  obtain ⟨x9, hc10, hF⟩ := cal_some hF
  refine o_call ha rfl rfl Tryd.call37 (W_spec_GraphOk (ha0_0.ext hE8) hc10) ?_; clear ha a; rintro v11 w12 ⟨rfl, hx13⟩ a ha
  replace hB3 := hB3.ext hx13
  have hE14 := Ext.trans hE8 hx13
  refine op_g ha rfl (g_not rfl) ?_; clear ha a; intro a ha
  refine wpList_nil ?_
  replace ha := ha.sub (σ' := [(1, (.pointer (some ⟨b1, 0, none⟩))), (10, (.bool (!x9)))]) ⟨rfl, rfl, trivial⟩
  refine e_then ?_
  refine c_cond (¬ (x9 = true)) ha rfl (n_iff (Iff.rfl)) (fun hp15 => ?_) (fun hp15 => ?_)
  · replace hF := if_t hp15 hF
    refine wp_seq ?_
    refine wp_region_lit ?_
    refine op_g ha rfl (g_assign rfl) ?_; clear ha a; intro a ha
    refine wpList_nil ?_
    replace ha := ha.sub (σ' := [(2, (.bool false))]) ⟨rfl, trivial⟩
    refine e_then ?_
    refine wp_ret ?_
    refine e_then_ret ?_
    obtain rfl := Option.some.inj hF
    exact f_ret1 ha rfl rfl ⟨rfl, hE14⟩
  · replace hF := if_f hp15 hF
    refine wp_skip ?_
    refine e_then ?_
    refine wp_seq ?_
    refine wp_region_lit ?_
    refine op_g ha rfl (g_loadA (cs := [va0_0]) Tryd.isAgg27 Tryd.sizeOf27 rfl (by simp) hB3.all) ?_; clear ha a; intro a ha
    obtain ⟨x16, hc17, hF⟩ := cal_some hF
    refine o_call ha rfl rfl Tryd.call54 (W_spec_l26Best (ha0_0.ext hE14) hc17) ?_; clear ha a; rintro v18 w19 ⟨u21, u22, fp23, rfl, h24, pv25, ⟨rfl, hI27⟩, hx20⟩ a ha
    have q28 := Nq.rd pv25 (Nq.new ha0_0.bnd q7) hB3.bi
    replace hB3 := hB3.ext hx20
    have hE29 := Ext.trans hE14 hx20
    refine op_g ha rfl (g_move rfl) ?_; clear ha a; intro a ha
    refine op_g ha rfl (g_extract rfl rfl) ?_; clear ha a; intro a ha
    refine op_g ha rfl (g_extract rfl rfl) ?_; clear ha a; intro a ha
    refine op_g ha rfl (g_assign rfl) ?_; clear ha a; intro a ha
    refine op_g ha rfl (g_assign rfl) ?_; clear ha a; intro a ha
    refine wpList_nil ?_
    replace ha := ha.sub (σ' := [(1, (.pointer (some ⟨b1, 0, none⟩))), (4, (.int .i64 x16.2))]) ⟨rfl, rfl, trivial⟩
    refine e_then ?_
    refine wp_seq ?_
    refine wp_seq ?_
    refine wp_region_lit ?_
    refine op_g ha rfl (g_assign rfl) ?_; clear ha a; intro a ha
    refine wpList_nil ?_
    refine e_then ?_
    obtain ⟨o135, ho136, hK137⟩ := bnd_some hF
    obtain ⟨n138, hn139⟩ := lp_some ho136; clear ho136
    refine c_loop (fun a w => Fr 34 [] a ∧ Chg [] W w ∧ o135 = .inl ()) (fun n a w => ∃ (i84 : Int), Fr 34 [(1, (.pointer (some ⟨b1, 0, none⟩))), (4, (.int .i64 x16.2)), (5, (.int .i64 i84))] a ∧ Chg [] W w ∧ InI i84 ∧ Bx w b1 [va0_0] 27 ∧ Zn W (b1 : Int) ∧ lpN (fun s => F_spec_CriticalIn_l1 a0_0 x16 s) n i84 = some o135) n138 ⟨0, ha.sub ⟨rfl, rfl, rfl, trivial⟩, hE29, (show InI 0 from by decide), hB3, q7, hn139⟩ ?_ ?_
    · rintro m143 a w81 ⟨i84, ha, hE86, hI85, hB82, z83, hF⟩
      cases m143 with
      | zero => exact (lpN_zero hF).elim
      | succ m143 =>
        obtain ⟨z142, hF, hN141⟩ := lpN_succ hF
        have hF : F_spec_CriticalIn_l1 a0_0 x16 i84 = some z142 := hF; unfold F_spec_CriticalIn_l1 at hF
        refine wp_seq ?_
        refine wp_seq ?_
        refine wp_region_lit ?_
        refine op_g ha rfl (g_move rfl) ?_; clear ha a; intro a ha
        refine op_g ha rfl (g_field0 st27_0 rfl) ?_; clear ha a; intro a ha
        refine op_g ha rfl (g_load Tryd.isAgg22 rfl (hB82.cell rfl)) ?_; clear ha a; intro a ha
        refine op_g ha rfl (g_lenR sl22.und ha0_0 rfl) ?_; clear ha a; intro a ha
        refine op_g ha rfl (g_lss rfl rfl) ?_; clear ha a; intro a ha
        refine wpList_nil ?_
        replace ha := ha.sub (σ' := [(1, (.pointer (some ⟨b1, 0, none⟩))), (4, (.int .i64 x16.2)), (5, (.int .i64 i84)), (20, (.bool (decide (i84 < (a0_0.length : Int)))))]) ⟨rfl, rfl, rfl, rfl, trivial⟩
        refine e_then ?_
        refine c_cond (i84 < (a0_0.length : Int)) ha rfl (decide_eq_true_iff) (fun hp144 => ?_) (fun hp144 => ?_)
        · replace hF := if_t hp144 hF
          refine wp_skip ?_
          refine e_then ?_
          refine wp_seq ?_
          refine wp_block ?_
          refine wp_seq ?_
          refine wp_region_lit ?_
          refine op_g ha rfl (g_loadA (cs := [va0_0]) Tryd.isAgg27 Tryd.sizeOf27 rfl (by simp) hB82.all) ?_; clear ha a; intro a ha
          refine op_g ha rfl (g_move rfl) ?_; clear ha a; intro a ha
          obtain ⟨x145, hc146, hF⟩ := cal_some hF
          refine o_call ha rfl rfl Tryd.call57 (W_spec_l26Without (ha0_0.ext hE86) hI85 hc146) ?_; clear ha a; rintro v147 w148 ⟨u150, b151, fs155, rfl, h152, z153, zf156, nd157, hx149⟩ a ha
          have q158 := Nq.new hB82.fpb z153
          have q159 := Nq.madeF z153 zf156 hB82.bi
          have q160 := Nf.new hB82.fpb zf156
          replace hB82 := hB82.ext hx149
          have hE161 := Ext.trans hE86 hx149
          have q162 := Zn.upD z153 hE86
          have q163 := zf_up zf156 hE86
          obtain ⟨fp164, hro165, hs166⟩ := h152.roF
          obtain ⟨x167, hc168, hF⟩ := cal_some hF
          refine o_call ha rfl rfl Tryd.call54 (W_spec_l26Best hro165 hc168) ?_; clear ha a; rintro v169 w170 ⟨u172, u173, fp174, rfl, h175, pv176, ⟨rfl, hI178⟩, hx171⟩ a ha
          have q179 := Nq.rd pv176 (Nq.mono q159 hs166) hB82.bi
          replace hB82 := hB82.ext hx171
          replace h152 := h152.ext hx171
          have hE180 := Ext.trans hE161 hx171
          refine op_g ha rfl (g_move rfl) ?_; clear ha a; intro a ha
          refine op_g ha rfl (g_extract rfl rfl) ?_; clear ha a; intro a ha
          refine op_g ha rfl (g_extract rfl rfl) ?_; clear ha a; intro a ha
          refine op_g ha rfl (g_assign rfl) ?_; clear ha a; intro a ha
          refine op_g ha rfl (g_assign rfl) ?_; clear ha a; intro a ha
          refine wpList_nil ?_
          replace ha := ha.sub (σ' := [(1, (.pointer (some ⟨b1, 0, none⟩))), (4, (.int .i64 x16.2)), (5, (.int .i64 i84)), (7, (.int .i64 x167.2))]) ⟨rfl, rfl, rfl, rfl, trivial⟩
          refine e_then ?_
          refine wp_seq ?_
          refine wp_region_lit ?_
          refine op_g ha rfl (g_move rfl) ?_; clear ha a; intro a ha
          refine op_g ha rfl (g_move rfl) ?_; clear ha a; intro a ha
          obtain ⟨hI181, hF⟩ := ck_some hF
          refine op_g ha rfl (g_sub rfl rfl hI181) ?_; clear ha a; intro a ha
          refine op_g ha rfl (g_neq rfl rfl) ?_; clear ha a; intro a ha
          refine wpList_nil ?_
          replace ha := ha.sub (σ' := [(1, (.pointer (some ⟨b1, 0, none⟩))), (4, (.int .i64 x16.2)), (5, (.int .i64 i84)), (33, (.bool (decide (x167.2 ≠ (x16.2 - 1)))))]) ⟨rfl, rfl, rfl, rfl, trivial⟩
          refine e_then ?_
          refine c_cond (x167.2 ≠ (x16.2 - 1)) ha rfl (decide_eq_true_iff) (fun hp183 => ?_) (fun hp183 => ?_)
          · replace hF := if_t hp183 hF
            refine wp_seq ?_
            refine wp_region_lit ?_
            refine op_g ha rfl (g_assign rfl) ?_; clear ha a; intro a ha
            refine wpList_nil ?_
            replace ha := ha.sub (σ' := [(2, (.bool false))]) ⟨rfl, trivial⟩
            refine e_then ?_
            refine wp_ret ?_
            refine e_blk_ret ?_
            refine e_then_ret ?_
            refine e_lq_ret ?_
            refine e_then_ret ?_
            obtain rfl := Option.some.inj hF
            have e184 := LK_inr hN141; subst e184
            have e185 := BK_inr hK137; subst e185
            exact f_ret1 ha rfl rfl ⟨rfl, hE180⟩
          · replace hF := if_f hp183 hF
            refine wp_skip ?_
            refine e_blk ?_
            refine e_then ?_
            refine wp_region_lit ?_
            refine op_g ha rfl (g_move rfl) ?_; clear ha a; intro a ha
            obtain ⟨hI186, hF⟩ := ck_some hF
            refine op_g ha rfl (g_add rfl rfl hI186) ?_; clear ha a; intro a ha
            refine op_g ha rfl (g_assign rfl) ?_; clear ha a; intro a ha
            refine wpList_nil ?_
            replace ha := ha.sub (σ' := [(1, (.pointer (some ⟨b1, 0, none⟩))), (4, (.int .i64 x16.2)), (5, (.int .i64 (i84 + 1)))]) ⟨rfl, rfl, rfl, trivial⟩
            refine e_lq ?_
            obtain rfl := Option.some.inj hF
            exact ⟨_, Nat.lt_succ_self _, i84 + 1, ha.sub ⟨rfl, rfl, rfl, trivial⟩, hE180, hI186, hB82, z83, hN141⟩
        · replace hF := if_f hp144 hF
          refine wp_exit ?_
          refine e_then_exit ?_
          refine e_lq_eq ?_
          obtain rfl := Option.some.inj hF
          exact ⟨ha.sub trivial, hE86, (LK_inr hN141).symm⟩
    · rintro a w134 ⟨ha, hE140, rfl⟩
      have hF : F_spec_CriticalIn_k2 = some _ := hK137; clear hK137; unfold F_spec_CriticalIn_k2 at hF
      refine e_then ?_
      refine wp_seq ?_
      refine wp_region_lit ?_
      refine op_g ha rfl (g_assign rfl) ?_; clear ha a; intro a ha
      refine wpList_nil ?_
      refine e_then ?_
      refine wp_ret ?_
      obtain rfl := Option.some.inj hF
      exact f_ret1 ha rfl rfl ⟨rfl, hE140⟩
set_option maxHeartbeats 2000000 in
theorem W_impl_inRange {W : World} {a0 : Int} (ha0 : InI a0) {a1 : Int} (ha1 : InI a1) {a2 : Int} (ha2 : InI a2) {r : Bool} (hF : F_impl_inRange a0 a1 a2 = some r) :
    Calls Tryd.prog 85 [.int .i64 a0, .int .i64 a1, .int .i64 a2].toArray W (Ret fun u w' => u = .bool r ∧ Ext W w') := by
  refine f_enter Tryd.func85 rfl Tryd.ntmps85 rfl ?_
  intro a ha
  replace ha : Fr 15 [(0, (.int .i64 a0)), (1, (.int .i64 a1)), (2, (.int .i64 a2))] a := ha
  have hE : Chg [] W W := Chg.refl _ _
  unfold F_impl_inRange at hF
  refine wp_seq ?_
  refine wp_region_lit ?_
  refine op_g ha rfl (g_assign rfl) ?_; clear ha a; intro a ha
  refine wpList_nil ?_
  replace ha := ha.sub (σ' := [(0, (.int .i64 a0)), (1, (.int .i64 a1)), (2, (.int .i64 a2))]) ⟨rfl, rfl, rfl, trivial⟩
  refine e_then ?_
  refine wp_seq ?_
  refine wp_region_lit ?_
  refine op_g ha rfl (g_move rfl) ?_; clear ha a; intro a ha
  refine op_g ha rfl (g_move rfl) ?_; clear ha a; intro a ha
  refine op_g ha rfl (g_leq rfl rfl) ?_; clear ha a; intro a ha
  refine op_g ha rfl (g_move rfl) ?_; clear ha a; intro a ha
  by_cases hp1 : a1 ≤ a0
  · replace hF := if_t hp1 hF
    rw [show (decide (a1 ≤ a0)) = true from (decide_eq_true_iff).2 hp1] at ha
    refine op_want (yields ha rfl rfl) ?_
    refine op_g ha rfl (g_move rfl) ?_; clear ha a; intro a ha
    refine op_want (yields ha rfl rfl) ?_
    refine op_g ha rfl (g_move rfl) ?_; clear ha a; intro a ha
    refine op_want (yields ha rfl rfl) ?_
    refine op_g ha rfl (g_leq rfl rfl) ?_; clear ha a; intro a ha
    refine op_g ha rfl (g_pick rfl rfl) ?_; clear ha a; intro a ha
    refine op_g ha rfl (g_assign rfl) ?_; clear ha a; intro a ha
    refine wpList_nil ?_
    replace ha := ha.sub (σ' := [(6, (.bool (decide (a0 ≤ a2))))]) ⟨rfl, trivial⟩
    refine e_then ?_
    refine wp_ret ?_
    obtain rfl := Option.some.inj hF
    exact f_ret1 ha rfl rfl ⟨rfl, hE⟩
  · replace hF := if_f hp1 hF
    rw [show (decide (a1 ≤ a0)) = false from b_false (decide_eq_true_iff) hp1] at ha
    refine op_unwant ha rfl (yields ha rfl rfl) rfl ?_; clear ha a; intro a ha
    refine op_unwant ha rfl (yields ha rfl rfl) rfl ?_; clear ha a; intro a ha
    refine op_unwant ha rfl (yields ha rfl rfl) rfl ?_; clear ha a; intro a ha
    refine op_g ha rfl (g_pick rfl rfl) ?_; clear ha a; intro a ha
    refine op_g ha rfl (g_assign rfl) ?_; clear ha a; intro a ha
    refine wpList_nil ?_
    replace ha := ha.sub (σ' := [(6, (.bool false))]) ⟨rfl, trivial⟩
    refine e_then ?_
    refine wp_ret ?_
    obtain rfl := Option.some.inj hF
    exact f_ret1 ha rfl rfl ⟨rfl, hE⟩
set_option maxHeartbeats 2000000 in
theorem W_impl_increasing {W : World} {va0 : Value} {fa0 : List Nat} {a0 : (List Int)} (ha0 : Ro Rp.int W fa0 va0 a0) {a1 : Int} (ha1 : InI a1) {r : Bool} (hF : F_impl_increasing a0 a1 = some r) :
    Calls Tryd.prog 70 [va0, .int .i64 a1].toArray W (Ret fun u w' => u = .bool r ∧ Ext W w') := by
  refine f_enter Tryd.func70 rfl Tryd.ntmps70 rfl ?_
  intro a ha
  replace ha : Fr 33 [(0, va0), (1, (.int .i64 a1))] a := ha
  have hE : Chg [] W W := Chg.refl _ _
  unfold F_impl_increasing at hF
  refine wp_seq ?_
  refine wp_region_lit ?_
  refine op_g ha rfl (g_assign rfl) ?_; clear ha a; intro a ha
  refine wpList_nil ?_
  replace ha := ha.sub (σ' := [(0, va0), (1, (.int .i64 a1))]) ⟨rfl, rfl, trivial⟩
  refine e_then ?_
  refine wp_seq ?_
  refine wp_seq ?_
  refine wp_region_lit ?_
  refine op_g ha rfl (g_move rfl) ?_; clear ha a; intro a ha
  refine op_g ha rfl (g_lenR sl31.und ha0 rfl) ?_; clear ha a; intro a ha
  refine op_g ha rfl (g_move rfl) ?_; clear ha a; intro a ha
  refine wpList_nil ?_
  replace ha := ha.sub (σ' := [(0, va0), (1, (.int .i64 a1)), (7, va0), (8, (.int .i64 (a0.length : Int))), (9, (.int .i64 0))]) ⟨rfl, rfl, rfl, rfl, rfl, trivial⟩
  refine e_then ?_
  obtain ⟨o98, ho99, hK100⟩ := bnd_some hF
  obtain ⟨n101, hn102⟩ := lp_some ho99; clear ho99
  refine c_loop (fun a w => Fr 33 [] a ∧ Chg [] W w ∧ o98 = .inl ()) (fun n a w => ∃ (i49 : Int), Fr 33 [(0, va0), (1, (.int .i64 a1)), (7, va0), (8, (.int .i64 (a0.length : Int))), (9, (.int .i64 i49))] a ∧ Chg [] W w ∧ InI i49 ∧ lpN (fun s => F_impl_increasing_l1 a0 a1 s) n i49 = some o98) n101 ⟨0, ha.sub ⟨rfl, rfl, rfl, rfl, rfl, trivial⟩, hE, (show InI 0 from by decide), hn102⟩ ?_ ?_
  · rintro m106 a w48 ⟨i49, ha, hE51, hI50, hF⟩
    cases m106 with
    | zero => exact (lpN_zero hF).elim
    | succ m106 =>
      obtain ⟨z105, hF, hN104⟩ := lpN_succ hF
      have hF : F_impl_increasing_l1 a0 a1 i49 = some z105 := hF; unfold F_impl_increasing_l1 at hF
      refine wp_seq ?_
      refine wp_region_lit ?_
      refine op_g ha rfl (g_lss rfl rfl) ?_; clear ha a; intro a ha
      refine wpList_nil ?_
      replace ha := ha.sub (σ' := [(0, va0), (1, (.int .i64 a1)), (7, va0), (8, (.int .i64 (a0.length : Int))), (9, (.int .i64 i49)), (10, (.bool (decide (i49 < (a0.length : Int)))))]) ⟨rfl, rfl, rfl, rfl, rfl, rfl, trivial⟩
      refine e_then ?_
      refine wp_seq ?_
      refine c_cond (i49 < (a0.length : Int)) ha rfl (decide_eq_true_iff) (fun hp107 => ?_) (fun hp107 => ?_)
      · replace hF := if_t hp107 hF
        refine wp_skip ?_
        refine e_then ?_
        refine wp_seq ?_
        refine wp_block ?_
        refine wp_seq ?_
        refine wp_region_lit ?_
        refine op_g ha rfl (g_move rfl) ?_; clear ha a; intro a ha
        obtain ⟨x108, g109, gx110, hF⟩ := idx_some hF
        obtain ⟨p111, cs112, f113, hf114, hpb115, hat116, hr117, hi118⟩ := ha0.at g109 gx110
        obtain ⟨rfl, hI119, rfl⟩ := hr117
        refine op_g ha rfl (hi118.gives sl31 rfl rfl) ?_; clear ha a; intro a ha
        refine op_g ha rfl (g_load0 hE51 Tryd.isAgg2 rfl hat116.one) ?_; clear ha a; intro a ha
        refine op_g ha rfl (g_assign rfl) ?_; clear ha a; intro a ha
        refine op_g ha rfl (g_assign rfl) ?_; clear ha a; intro a ha
        refine wpList_nil ?_
        replace ha := ha.sub (σ' := [(0, va0), (1, (.int .i64 a1)), (5, (.int .i64 i49)), (6, (.int .i64 x108)), (7, va0), (8, (.int .i64 (a0.length : Int))), (9, (.int .i64 i49))]) ⟨rfl, rfl, rfl, rfl, rfl, rfl, rfl, trivial⟩
        refine e_then ?_
        refine wp_seq ?_
        refine wp_region_lit ?_
        refine op_g ha rfl (g_move rfl) ?_; clear ha a; intro a ha
        refine op_g ha rfl (g_move rfl) ?_; clear ha a; intro a ha
        obtain ⟨hI120, hF⟩ := ck_some hF
        refine op_g ha rfl (g_sub rfl rfl hI120) ?_; clear ha a; intro a ha
        obtain ⟨x122, hc123, hF⟩ := cal_some hF
        refine o_call ha rfl rfl Tryd.call85 (W_impl_inRange hI119 (show InI 0 from by decide) hI120 hc123) ?_; clear ha a; rintro v124 w125 ⟨rfl, hx126⟩ a ha
        have hE127 := Ext.trans hE51 hx126
        refine op_g ha rfl (g_not rfl) ?_; clear ha a; intro a ha
        refine op_g ha rfl (g_move rfl) ?_; clear ha a; intro a ha
        by_cases hp128 : ¬ (x122 = true)
        · replace hF := if_t hp128 hF
          rw [show (!x122) = true from (n_iff (Iff.rfl)).2 hp128] at ha
          refine op_unwant ha rfl (yields ha rfl rfl) rfl ?_; clear ha a; intro a ha
          refine op_unwant ha rfl (yields ha rfl rfl) rfl ?_; clear ha a; intro a ha
          refine op_unwant ha rfl (yields ha rfl rfl) rfl ?_; clear ha a; intro a ha
          refine op_unwant0 ha rfl (yields0 ha rfl rfl) ?_; clear ha a; intro a ha
          refine op_unwant0 ha rfl (yields0 ha rfl rfl) ?_; clear ha a; intro a ha
          refine op_unwant0 ha rfl (yields0 ha rfl rfl) ?_; clear ha a; intro a ha
          refine op_unwant0 ha rfl (yields0 ha rfl rfl) ?_; clear ha a; intro a ha
          refine op_unwant0 ha rfl (yields0 ha rfl rfl) ?_; clear ha a; intro a ha
          refine op_unwant0 ha rfl (yields0 ha rfl rfl) ?_; clear ha a; intro a ha
          refine op_unwant0 ha rfl (yields0 ha rfl rfl) ?_; clear ha a; intro a ha
          refine op_unwant ha rfl (yields ha rfl rfl) rfl ?_; clear ha a; intro a ha
          refine op_g ha rfl (g_pick rfl rfl) ?_; clear ha a; intro a ha
          refine wpList_nil ?_
          replace ha := ha.sub (σ' := [(0, va0), (1, (.int .i64 a1)), (7, va0), (8, (.int .i64 (a0.length : Int))), (9, (.int .i64 i49)), (31, (.bool true))]) ⟨rfl, rfl, rfl, rfl, rfl, rfl, trivial⟩
          refine e_then ?_
          refine c_true ha rfl ?_
          refine wp_seq ?_
          refine wp_region_lit ?_
          refine op_g ha rfl (g_assign rfl) ?_; clear ha a; intro a ha
          refine wpList_nil ?_
          replace ha := ha.sub (σ' := [(4, (.bool false))]) ⟨rfl, trivial⟩
          refine e_then ?_
          refine wp_ret ?_
          refine e_blk_ret ?_
          refine e_then_ret ?_
          refine e_lq_ret ?_
          refine e_then_ret ?_
          obtain rfl := Option.some.inj hF
          have e129 := LK_inr hN104; subst e129
          have e130 := BK_inr hK100; subst e130
          exact f_ret1 ha rfl rfl ⟨rfl, hE127⟩
        · replace hF := if_f hp128 hF
          rw [show (!x122) = false from b_false (n_iff (Iff.rfl)) hp128] at ha
          refine op_want (yields ha rfl rfl) ?_
          refine op_g ha rfl (g_move rfl) ?_; clear ha a; intro a ha
          refine op_want (yields ha rfl rfl) ?_
          refine op_g ha rfl (g_gtr rfl rfl) ?_; clear ha a; intro a ha
          refine op_want (yields ha rfl rfl) ?_
          refine op_g ha rfl (g_move rfl) ?_; clear ha a; intro a ha
          by_cases hp131 : 0 < i49
          · replace hF := if_t hp131 hF
            rw [show (decide (0 < i49)) = true from (decide_eq_true_iff).2 hp131] at ha
            refine op_want (yields ha rfl rfl) ?_
            refine op_g ha rfl (g_move rfl) ?_; clear ha a; intro a ha
            refine op_want (yields ha rfl rfl) ?_
            refine op_g ha rfl (g_move rfl) ?_; clear ha a; intro a ha
            refine op_want (yields ha rfl rfl) ?_
            obtain ⟨hI132, hF⟩ := ck_some hF
            refine op_g ha rfl (g_sub rfl rfl hI132) ?_; clear ha a; intro a ha
            refine op_want (yields ha rfl rfl) ?_
            obtain ⟨x134, g135, gx136, hF⟩ := idx_some hF
            obtain ⟨p137, cs138, f139, hf140, hpb141, hat142, hr143, hi144⟩ := ha0.at g135 gx136
            obtain ⟨rfl, hI145, rfl⟩ := hr143
            refine op_g ha rfl (hi144.gives sl31 rfl rfl) ?_; clear ha a; intro a ha
            refine op_want (yields ha rfl rfl) ?_
            refine op_g ha rfl (g_load0 hE127 Tryd.isAgg2 rfl hat142.one) ?_; clear ha a; intro a ha
            refine op_want (yields ha rfl rfl) ?_
            refine op_g ha rfl (g_move rfl) ?_; clear ha a; intro a ha
            refine op_want (yields ha rfl rfl) ?_
            refine op_g ha rfl (g_geq rfl rfl) ?_; clear ha a; intro a ha
            refine op_want (yields ha rfl rfl) ?_
            refine op_g ha rfl (g_pick rfl rfl) ?_; clear ha a; intro a ha
            refine op_g ha rfl (g_pick rfl rfl) ?_; clear ha a; intro a ha
            refine wpList_nil ?_
            replace ha := ha.sub (σ' := [(0, va0), (1, (.int .i64 a1)), (7, va0), (8, (.int .i64 (a0.length : Int))), (9, (.int .i64 i49)), (20, (.int .i64 i49)), (21, (.bool true)), (22, (.bool true)), (23, va0), (24, (.int .i64 i49)), (25, (.int .i64 (i49 - 1))), (26, (.pointer (some p137))), (27, (.int .i64 x134)), (28, (.int .i64 x108)), (29, (.bool (decide (x108 ≤ x134)))), (30, (.bool (decide (x108 ≤ x134)))), (31, (.bool (decide (x108 ≤ x134))))]) ⟨rfl, rfl, rfl, rfl, rfl, rfl, rfl, rfl, rfl, rfl, rfl, rfl, rfl, rfl, rfl, rfl, rfl, trivial⟩
            refine e_then ?_
            refine c_cond (x108 ≤ x134) ha rfl (decide_eq_true_iff) (fun hp146 => ?_) (fun hp146 => ?_)
            · replace hF := if_t hp146 hF
              refine wp_seq ?_
              refine wp_region_lit ?_
              refine op_g ha rfl (g_assign rfl) ?_; clear ha a; intro a ha
              refine wpList_nil ?_
              replace ha := ha.sub (σ' := [(4, (.bool false))]) ⟨rfl, trivial⟩
              refine e_then ?_
              refine wp_ret ?_
              refine e_blk_ret ?_
              refine e_then_ret ?_
              refine e_lq_ret ?_
              refine e_then_ret ?_
              obtain rfl := Option.some.inj hF
              have e147 := LK_inr hN104; subst e147
              have e148 := BK_inr hK100; subst e148
              exact f_ret1 ha rfl rfl ⟨rfl, hE127⟩
            · replace hF := if_f hp146 hF
              refine wp_skip ?_
              refine e_blk ?_
              refine e_then ?_
              refine wp_region_lit ?_
              obtain ⟨hI149, hF⟩ := ck_some hF
              refine op_g ha rfl (g_add rfl rfl hI149) ?_; clear ha a; intro a ha
              refine op_g ha rfl (g_move rfl) ?_; clear ha a; intro a ha
              refine wpList_nil ?_
              replace ha := ha.sub (σ' := [(0, va0), (1, (.int .i64 a1)), (7, va0), (8, (.int .i64 (a0.length : Int))), (9, (.int .i64 (i49 + 1))), (20, (.int .i64 i49)), (21, (.bool true)), (22, (.bool true)), (23, va0), (24, (.int .i64 i49)), (25, (.int .i64 (i49 - 1))), (26, (.pointer (some p137))), (27, (.int .i64 x134)), (28, (.int .i64 x108)), (29, (.bool (decide (x108 ≤ x134)))), (30, (.bool (decide (x108 ≤ x134))))]) ⟨rfl, rfl, rfl, rfl, rfl, rfl, rfl, rfl, rfl, rfl, rfl, rfl, rfl, rfl, rfl, rfl, trivial⟩
              refine e_lq ?_
              obtain rfl := Option.some.inj hF
              exact ⟨_, Nat.lt_succ_self _, i49 + 1, ha.sub ⟨rfl, rfl, rfl, rfl, rfl, trivial⟩, hE127, hI149, hN104⟩
          · replace hF := if_f hp131 hF
            rw [show (decide (0 < i49)) = false from b_false (decide_eq_true_iff) hp131] at ha
            refine op_unwant ha rfl (yields ha rfl rfl) rfl ?_; clear ha a; intro a ha
            refine op_unwant ha rfl (yields ha rfl rfl) rfl ?_; clear ha a; intro a ha
            refine op_unwant ha rfl (yields ha rfl rfl) rfl ?_; clear ha a; intro a ha
            refine op_unwant ha rfl (yields ha rfl rfl) rfl ?_; clear ha a; intro a ha
            refine op_unwant ha rfl (yields ha rfl rfl) rfl ?_; clear ha a; intro a ha
            refine op_unwant ha rfl (yields ha rfl rfl) rfl ?_; clear ha a; intro a ha
            refine op_unwant ha rfl (yields ha rfl rfl) rfl ?_; clear ha a; intro a ha
            refine op_want (yields ha rfl rfl) ?_
            refine op_g ha rfl (g_pick rfl rfl) ?_; clear ha a; intro a ha
            refine op_g ha rfl (g_pick rfl rfl) ?_; clear ha a; intro a ha
            refine wpList_nil ?_
            replace ha := ha.sub (σ' := [(0, va0), (1, (.int .i64 a1)), (7, va0), (8, (.int .i64 (a0.length : Int))), (9, (.int .i64 i49)), (20, (.int .i64 i49)), (21, (.bool false)), (22, (.bool false)), (30, (.bool false)), (31, (.bool false))]) ⟨rfl, rfl, rfl, rfl, rfl, rfl, rfl, rfl, rfl, rfl, trivial⟩
            refine e_then ?_
            refine c_false ha rfl ?_
            refine wp_skip ?_
            refine e_blk ?_
            refine e_then ?_
            refine wp_region_lit ?_
            obtain ⟨hI151, hF⟩ := ck_some hF
            refine op_g ha rfl (g_add rfl rfl hI151) ?_; clear ha a; intro a ha
            refine op_g ha rfl (g_move rfl) ?_; clear ha a; intro a ha
            refine wpList_nil ?_
            replace ha := ha.sub (σ' := [(0, va0), (1, (.int .i64 a1)), (7, va0), (8, (.int .i64 (a0.length : Int))), (9, (.int .i64 (i49 + 1))), (20, (.int .i64 i49)), (21, (.bool false)), (22, (.bool false)), (30, (.bool false))]) ⟨rfl, rfl, rfl, rfl, rfl, rfl, rfl, rfl, rfl, trivial⟩
            refine e_lq ?_
            obtain rfl := Option.some.inj hF
            exact ⟨_, Nat.lt_succ_self _, i49 + 1, ha.sub ⟨rfl, rfl, rfl, rfl, rfl, trivial⟩, hE127, hI151, hN104⟩
      · replace hF := if_f hp107 hF
        refine wp_exit ?_
        refine e_then_exit ?_
        refine e_lq_eq ?_
        obtain rfl := Option.some.inj hF
        exact ⟨ha.sub trivial, hE51, (LK_inr hN104).symm⟩
  · rintro a w97 ⟨ha, hE103, rfl⟩
    have hF : F_impl_increasing_k2 = some _ := hK100; clear hK100; unfold F_impl_increasing_k2 at hF
    refine e_then ?_
    refine wp_seq ?_
    refine wp_region_lit ?_
    refine op_g ha rfl (g_assign rfl) ?_; clear ha a; intro a ha
    refine wpList_nil ?_
    refine e_then ?_
    refine wp_ret ?_
    obtain rfl := Option.some.inj hF
    exact f_ret1 ha rfl rfl ⟨rfl, hE103⟩
set_option maxHeartbeats 2000000 in
theorem W_slices_Index_int64 {W : World} {va0 : Value} {fa0 : List Nat} {a0 : (List Int)} (ha0 : Ro Rp.int W fa0 va0 a0) {a1 : Int} (ha1 : InI a1) {r : Int} (hF : F_slices_Index_int64 a0 a1 = some r) :
    Calls Tryd.prog 86 [va0, .int .i64 a1].toArray W (Ret fun u w' => (u = .int .i64 r ∧ InI r) ∧ Ext W w') := by
  refine f_enter Tryd.func86 rfl Tryd.ntmps86 rfl ?_
  intro a ha
  replace ha : Fr 19 [(0, va0), (1, (.int .i64 a1))] a := ha
  have hE : Chg [] W W := Chg.refl _ _
  unfold F_slices_Index_int64 at hF
  refine wp_seq ?_
  refine wp_region_lit ?_
  refine op_g ha rfl (g_assign rfl) ?_; clear ha a; intro a ha
  refine wpList_nil ?_
  replace ha := ha.sub (σ' := [(0, va0), (1, (.int .i64 a1))]) ⟨rfl, rfl, trivial⟩
  refine e_then ?_
  refine wp_seq ?_
  refine wp_seq ?_
  refine wp_region_lit ?_
  refine op_g ha rfl (g_move rfl) ?_; clear ha a; intro a ha
  refine op_g ha rfl (g_lenR sl31.und ha0 rfl) ?_; clear ha a; intro a ha
  refine op_g ha rfl (g_move rfl) ?_; clear ha a; intro a ha
  refine wpList_nil ?_
  replace ha := ha.sub (σ' := [(0, va0), (1, (.int .i64 a1)), (7, (.int .i64 (a0.length : Int))), (8, (.int .i64 0))]) ⟨rfl, rfl, rfl, rfl, trivial⟩
  refine e_then ?_
  obtain ⟨o46, ho47, hK48⟩ := bnd_some hF
  obtain ⟨n49, hn50⟩ := lp_some ho47; clear ho47
  refine c_loop (fun a w => Fr 19 [] a ∧ Chg [] W w ∧ o46 = .inl ()) (fun n a w => ∃ (i23 : Int), Fr 19 [(0, va0), (1, (.int .i64 a1)), (7, (.int .i64 (a0.length : Int))), (8, (.int .i64 i23))] a ∧ Chg [] W w ∧ InI i23 ∧ lpN (fun s => F_slices_Index_int64_l1 a0 a1 s) n i23 = some o46) n49 ⟨0, ha.sub ⟨rfl, rfl, rfl, rfl, trivial⟩, hE, (show InI 0 from by decide), hn50⟩ ?_ ?_
  · rintro m54 a w22 ⟨i23, ha, hE25, hI24, hF⟩
    cases m54 with
    | zero => exact (lpN_zero hF).elim
    | succ m54 =>
      obtain ⟨z53, hF, hN52⟩ := lpN_succ hF
      have hF : F_slices_Index_int64_l1 a0 a1 i23 = some z53 := hF; unfold F_slices_Index_int64_l1 at hF
      refine wp_seq ?_
      refine wp_region_lit ?_
      refine op_g ha rfl (g_lss rfl rfl) ?_; clear ha a; intro a ha
      refine wpList_nil ?_
      replace ha := ha.sub (σ' := [(0, va0), (1, (.int .i64 a1)), (7, (.int .i64 (a0.length : Int))), (8, (.int .i64 i23)), (9, (.bool (decide (i23 < (a0.length : Int)))))]) ⟨rfl, rfl, rfl, rfl, rfl, trivial⟩
      refine e_then ?_
      refine wp_seq ?_
      refine c_cond (i23 < (a0.length : Int)) ha rfl (decide_eq_true_iff) (fun hp55 => ?_) (fun hp55 => ?_)
      · replace hF := if_t hp55 hF
        refine wp_skip ?_
        refine e_then ?_
        refine wp_seq ?_
        refine wp_block ?_
        refine wp_seq ?_
        refine wp_region_lit ?_
        refine op_g ha rfl (g_move rfl) ?_; clear ha a; intro a ha
        refine op_g ha rfl (g_assign rfl) ?_; clear ha a; intro a ha
        refine wpList_nil ?_
        replace ha := ha.sub (σ' := [(0, va0), (1, (.int .i64 a1)), (5, (.int .i64 i23)), (7, (.int .i64 (a0.length : Int))), (8, (.int .i64 i23))]) ⟨rfl, rfl, rfl, rfl, rfl, trivial⟩
        refine e_then ?_
        refine wp_seq ?_
        refine wp_region_lit ?_
        refine op_g ha rfl (g_move rfl) ?_; clear ha a; intro a ha
        refine op_g ha rfl (g_move rfl) ?_; clear ha a; intro a ha
        refine op_g ha rfl (g_move rfl) ?_; clear ha a; intro a ha
        obtain ⟨x56, g57, gx58, hF⟩ := idx_some hF
        obtain ⟨p59, cs60, f61, hf62, hpb63, hat64, hr65, hi66⟩ := ha0.at g57 gx58
        obtain ⟨rfl, hI67, rfl⟩ := hr65
        refine op_g ha rfl (hi66.gives sl31 rfl rfl) ?_; clear ha a; intro a ha
        refine op_g ha rfl (g_load0 hE25 Tryd.isAgg2 rfl hat64.one) ?_; clear ha a; intro a ha
        refine op_g ha rfl (g_eql rfl rfl) ?_; clear ha a; intro a ha
        refine wpList_nil ?_
        replace ha := ha.sub (σ' := [(0, va0), (1, (.int .i64 a1)), (5, (.int .i64 i23)), (7, (.int .i64 (a0.length : Int))), (8, (.int .i64 i23)), (16, (.bool (decide (a1 = x56))))]) ⟨rfl, rfl, rfl, rfl, rfl, rfl, trivial⟩
        refine e_then ?_
        refine c_cond (a1 = x56) ha rfl (decide_eq_true_iff) (fun hp68 => ?_) (fun hp68 => ?_)
        · replace hF := if_t hp68 hF
          refine wp_seq ?_
          refine wp_region_lit ?_
          refine op_g ha rfl (g_move rfl) ?_; clear ha a; intro a ha
          refine op_g ha rfl (g_assign rfl) ?_; clear ha a; intro a ha
          refine wpList_nil ?_
          replace ha := ha.sub (σ' := [(4, (.int .i64 i23))]) ⟨rfl, trivial⟩
          refine e_then ?_
          refine wp_ret ?_
          refine e_blk_ret ?_
          refine e_then_ret ?_
          refine e_lq_ret ?_
          refine e_then_ret ?_
          obtain rfl := Option.some.inj hF
          have e69 := LK_inr hN52; subst e69
          have e70 := BK_inr hK48; subst e70
          exact f_ret1 ha rfl rfl ⟨⟨rfl, hI24⟩, hE25⟩
        · replace hF := if_f hp68 hF
          refine wp_skip ?_
          refine e_blk ?_
          refine e_then ?_
          refine wp_region_lit ?_
          obtain ⟨hI71, hF⟩ := ck_some hF
          refine op_g ha rfl (g_add rfl rfl hI71) ?_; clear ha a; intro a ha
          refine op_g ha rfl (g_move rfl) ?_; clear ha a; intro a ha
          refine wpList_nil ?_
          replace ha := ha.sub (σ' := [(0, va0), (1, (.int .i64 a1)), (7, (.int .i64 (a0.length : Int))), (8, (.int .i64 (i23 + 1)))]) ⟨rfl, rfl, rfl, rfl, trivial⟩
          refine e_lq ?_
          obtain rfl := Option.some.inj hF
          exact ⟨_, Nat.lt_succ_self _, i23 + 1, ha.sub ⟨rfl, rfl, rfl, rfl, trivial⟩, hE25, hI71, hN52⟩
      · replace hF := if_f hp55 hF
        refine wp_exit ?_
        refine e_then_exit ?_
        refine e_lq_eq ?_
        obtain rfl := Option.some.inj hF
        exact ⟨ha.sub trivial, hE25, (LK_inr hN52).symm⟩
  · rintro a w45 ⟨ha, hE51, rfl⟩
    have hF : F_slices_Index_int64_k2 = some _ := hK48; clear hK48; unfold F_slices_Index_int64_k2 at hF
    refine e_then ?_
    refine wp_seq ?_
    refine wp_region_lit ?_
    refine op_g ha rfl (g_assign rfl) ?_; clear ha a; intro a ha
    refine wpList_nil ?_
    refine e_then ?_
    refine wp_ret ?_
    obtain rfl := Option.some.inj hF
    exact f_ret1 ha rfl rfl ⟨⟨rfl, (show InI (-1) from by decide)⟩, hE51⟩
set_option maxHeartbeats 2000000 in
theorem W_slices_Contains_int64 {W : World} {va0 : Value} {fa0 : List Nat} {a0 : (List Int)} (ha0 : Ro Rp.int W fa0 va0 a0) {a1 : Int} (ha1 : InI a1) {r : Bool} (hF : F_slices_Contains_int64 a0 a1 = some r) :
    Calls Tryd.prog 71 [va0, .int .i64 a1].toArray W (Ret fun u w' => u = .bool r ∧ Ext W w') := by
  refine f_enter Tryd.func71 rfl Tryd.ntmps71 rfl ?_
  intro a ha
  replace ha : Fr 9 [(0, va0), (1, (.int .i64 a1))] a := ha
  have hE : Chg [] W W := Chg.refl _ _
  unfold F_slices_Contains_int64 at hF
  refine wp_seq ?_
  refine wp_region_lit ?_
  refine op_g ha rfl (g_assign rfl) ?_; clear ha a; intro a ha
  refine wpList_nil ?_
  replace ha := ha.sub (σ' := [(0, va0), (1, (.int .i64 a1))]) ⟨rfl, rfl, trivial⟩
  refine e_then ?_
  refine wp_seq ?_
  refine wp_region_lit ?_
  refine op_g ha rfl (g_move rfl) ?_; clear ha a; intro a ha
  refine op_g ha rfl (g_move rfl) ?_; clear ha a; intro a ha
  obtain ⟨x1, hc2, hF⟩ := cal_some hF
  refine o_call ha rfl rfl Tryd.call86 (W_slices_Index_int64 (ha0.ext hE) ha1 hc2) ?_; clear ha a; rintro v3 w4 ⟨⟨rfl, hI6⟩, hx5⟩ a ha
  have hE7 := Ext.trans hE hx5
  refine op_g ha rfl (g_geq rfl rfl) ?_; clear ha a; intro a ha
  refine op_g ha rfl (g_assign rfl) ?_; clear ha a; intro a ha
  refine wpList_nil ?_
  replace ha := ha.sub (σ' := [(4, (.bool (decide (0 ≤ x1))))]) ⟨rfl, trivial⟩
  refine e_then ?_
  refine wp_ret ?_
  obtain rfl := Option.some.inj hF
  exact f_ret1 ha rfl rfl ⟨rfl, hE7⟩
end Go.Proofs.YtlbgoodonecebaaDoor
