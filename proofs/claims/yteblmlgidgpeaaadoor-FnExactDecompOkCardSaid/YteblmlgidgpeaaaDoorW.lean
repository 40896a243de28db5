/- Walks, printed by gen.py. -/
import Derived.Test.YteblmlgidgpeaaaDoorF
import Derived.Test.YteblmlgidgpeaaaDoorW2
import Derived.Test.YteblmlgidgpeaaaDoorProg
import Derived.KernelRfl
set_option maxRecDepth 100000
namespace Go.Proofs.YteblmlgidgpeaaaDoor
open Go Go.RowKit

set_option maxHeartbeats 2000000 in
theorem W_impl_DecompOk {W : World} {va0_0 : Value} {fa0_0 : List Nat} {a0_0 : (List (List Int))} (ha0_0 : Ro (Rp.sl 2 Rp.int) W fa0_0 va0_0 a0_0) {va1_0 : Value} {fa1_0 : List Nat} {a1_0 : (List (List Int))} (ha1_0 : Ro (Rp.sl 2 Rp.int) W fa1_0 va1_0 a1_0) {va1_1 : Value} {fa1_1 : List Nat} {a1_1 : (List (List Int))} (ha1_1 : Ro (Rp.sl 2 Rp.int) W fa1_1 va1_1 a1_1) (hG : GT 0 W) {r : Bool} (hF : F_impl_DecompOk a0_0 a1_0 a1_1 = some r) :
    Calls Tryd.prog 10 [.agg #[va0_0], .agg #[va1_0, va1_1]].toArray W (Ret fun u w' => u = .bool r ∧ Ext W w') := by
  refine f_enter Tryd.func10 rfl Tryd.ntmps10 rfl ?_
  intro a ha
  replace ha : Fr 100 [(0, (.agg #[va0_0])), (1, (.agg #[va1_0, va1_1]))] a := ha
  have hE : Chg [] W W := Chg.refl _ _
  unfold F_impl_DecompOk at hF
  refine wp_seq ?_
  refine wp_region_lit ?_
  refine o_box ha rfl rfl rfl ?_; clear ha a; intro b1 w2 hB3 hx4 hlo5 a ha
  have q6 := Zn.one hlo5
  have q7 := Zn.upD q6 hE
  have hE8 := Ext.trans hE hx4
  refine o_box ha rfl rfl rfl ?_; clear ha a; intro b9 w10 hB11 hx12 hlo13 a ha
  have q14 := Zn.one hlo13
  have q15 := Nq.new hB3.fpb q14
  have q16 := Nq.made1 hlo13 hB3.bi
  have q17 := Zn.upD q14 hE8
  replace hB3 := hB3.ext hx12
  have hE18 := Ext.trans hE8 hx12
  refine op_g ha rfl (g_assign rfl) ?_; clear ha a; intro a ha
  refine wpList_nil ?_
  replace ha := ha.sub (σ' := [(2, (.pointer (some ⟨b1, 0, none⟩))), (3, (.pointer (some ⟨b9, 0, none⟩)))]) ⟨rfl, rfl, trivial⟩
  refine e_then ?_
  refine wp_seq ?_
  refine wp_region_lit ?_
  refine op_g ha rfl (g_field0 st32_0 rfl) ?_; clear ha a; intro a ha
  refine op_g ha rfl (g_load Tryd.isAgg22 rfl (hB11.cell rfl)) ?_; clear ha a; intro a ha
  refine op_g ha rfl (g_lenR sl22.und ha1_0 rfl) ?_; clear ha a; intro a ha
  refine op_g ha rfl (g_assign rfl) ?_; clear ha a; intro a ha
  refine wpList_nil ?_
  replace ha := ha.sub (σ' := [(2, (.pointer (some ⟨b1, 0, none⟩))), (3, (.pointer (some ⟨b9, 0, none⟩))), (5, (.int .i64 (a1_0.length : Int)))]) ⟨rfl, rfl, rfl, trivial⟩
  refine e_then ?_
  refine wp_seq ?_
  refine wp_seq ?_
  refine wp_region_lit ?_
  refine op_g ha rfl (g_loadA (cs := [va0_0]) Tryd.isAgg30 Tryd.sizeOf30 rfl (by simp) hB3.all) ?_; clear ha a; intro a ha
  obtain ⟨x38, hc39, hF⟩ := cal_some hF
  refine o_call ha rfl rfl Tryd.call37 (W_impl_GraphOk (ha0_0.ext hE18) hc39) ?_; clear ha a; rintro v40 w41 ⟨rfl, hx42⟩ a ha
  replace hB3 := hB3.ext hx42
  replace hB11 := hB11.ext hx42
  have hE43 := Ext.trans hE18 hx42
  refine op_g ha rfl (g_not rfl) ?_; clear ha a; intro a ha
  refine op_g ha rfl (g_move rfl) ?_; clear ha a; intro a ha
  by_cases hp44 : ¬ (x38 = true)
  · replace hF := if_t hp44 hF
    rw [show (!x38) = true from (n_iff (Iff.rfl)).2 hp44] at ha
    refine op_unwant ha rfl (yields ha rfl rfl) rfl ?_; clear ha a; intro a ha
    refine op_unwant ha rfl (yields ha rfl rfl) rfl ?_; clear ha a; intro a ha
    refine op_g ha rfl (g_pick rfl rfl) ?_; clear ha a; intro a ha
    refine op_g ha rfl (g_move rfl) ?_; clear ha a; intro a ha
    refine op_unwant ha rfl (yields ha rfl rfl) rfl ?_; clear ha a; intro a ha
    refine op_unwant ha rfl (yields ha rfl rfl) rfl ?_; clear ha a; intro a ha
    refine op_g ha rfl (g_pick rfl rfl) ?_; clear ha a; intro a ha
    refine op_g ha rfl (g_move rfl) ?_; clear ha a; intro a ha
    refine op_unwant ha rfl (yields ha rfl rfl) rfl ?_; clear ha a; intro a ha
    refine op_unwant ha rfl (yields ha rfl rfl) rfl ?_; clear ha a; intro a ha
    refine op_unwant ha rfl (yields ha rfl rfl) rfl ?_; clear ha a; intro a ha
    refine op_unwant ha rfl (yields ha rfl rfl) rfl ?_; clear ha a; intro a ha
    refine op_unwant ha rfl (yields ha rfl rfl) rfl ?_; clear ha a; intro a ha
    refine op_unwant ha rfl (yields ha rfl rfl) rfl ?_; clear ha a; intro a ha
    refine op_g ha rfl (g_pick rfl rfl) ?_; clear ha a; intro a ha
    refine op_g ha rfl (g_move rfl) ?_; clear ha a; intro a ha
    refine op_unwant ha rfl (yields ha rfl rfl) rfl ?_; clear ha a; intro a ha
    refine op_unwant ha rfl (yields ha rfl rfl) rfl ?_; clear ha a; intro a ha
    refine op_unwant ha rfl (yields ha rfl rfl) rfl ?_; clear ha a; intro a ha
    refine op_unwant ha rfl (yields ha rfl rfl) rfl ?_; clear ha a; intro a ha
    refine op_unwant ha rfl (yields ha rfl rfl) rfl ?_; clear ha a; intro a ha
    refine op_g ha rfl (g_pick rfl rfl) ?_; clear ha a; intro a ha
    refine wpList_nil ?_
    replace ha := ha.sub (σ' := [(2, (.pointer (some ⟨b1, 0, none⟩))), (3, (.pointer (some ⟨b9, 0, none⟩))), (42, (.bool true))]) ⟨rfl, rfl, rfl, trivial⟩
    refine e_then ?_
    refine c_true ha rfl ?_
    refine wp_seq ?_
    refine wp_region_lit ?_
    refine op_g ha rfl (g_assign rfl) ?_; clear ha a; intro a ha
    refine wpList_nil ?_
    replace ha := ha.sub (σ' := [(4, (.bool false))]) ⟨rfl, trivial⟩
    refine e_then ?_
    refine wp_ret ?_
    refine e_then_ret ?_
    obtain rfl := Option.some.inj hF
    exact f_ret1 ha rfl rfl ⟨rfl, hE43⟩
  · replace hF := if_f hp44 hF
    rw [show (!x38) = false from b_false (n_iff (Iff.rfl)) hp44] at ha
    refine op_want (yields ha rfl rfl) ?_
    refine op_g ha rfl (g_move rfl) ?_; clear ha a; intro a ha
    refine op_want (yields ha rfl rfl) ?_
    refine op_g ha rfl (g_lss rfl rfl) ?_; clear ha a; intro a ha
    refine op_g ha rfl (g_pick rfl rfl) ?_; clear ha a; intro a ha
    refine op_g ha rfl (g_move rfl) ?_; clear ha a; intro a ha
    by_cases hp45 : (a1_0.length : Int) < 1
    · replace hF := if_t hp45 hF
      rw [show (decide ((a1_0.length : Int) < 1)) = true from (decide_eq_true_iff).2 hp45] at ha
      refine op_unwant ha rfl (yields ha rfl rfl) rfl ?_; clear ha a; intro a ha
      refine op_unwant ha rfl (yields ha rfl rfl) rfl ?_; clear ha a; intro a ha
      refine op_g ha rfl (g_pick rfl rfl) ?_; clear ha a; intro a ha
      refine op_g ha rfl (g_move rfl) ?_; clear ha a; intro a ha
      refine op_unwant ha rfl (yields ha rfl rfl) rfl ?_; clear ha a; intro a ha
      refine op_unwant ha rfl (yields ha rfl rfl) rfl ?_; clear ha a; intro a ha
      refine op_unwant ha rfl (yields ha rfl rfl) rfl ?_; clear ha a; intro a ha
      refine op_unwant ha rfl (yields ha rfl rfl) rfl ?_; clear ha a; intro a ha
      refine op_unwant ha rfl (yields ha rfl rfl) rfl ?_; clear ha a; intro a ha
      refine op_unwant ha rfl (yields ha rfl rfl) rfl ?_; clear ha a; intro a ha
      refine op_g ha rfl (g_pick rfl rfl) ?_; clear ha a; intro a ha
      refine op_g ha rfl (g_move rfl) ?_; clear ha a; intro a ha
      refine op_unwant ha rfl (yields ha rfl rfl) rfl ?_; clear ha a; intro a ha
      refine op_unwant ha rfl (yields ha rfl rfl) rfl ?_; clear ha a; intro a ha
      refine op_unwant ha rfl (yields ha rfl rfl) rfl ?_; clear ha a; intro a ha
      refine op_unwant ha rfl (yields ha rfl rfl) rfl ?_; clear ha a; intro a ha
      refine op_unwant ha rfl (yields ha rfl rfl) rfl ?_; clear ha a; intro a ha
      refine op_g ha rfl (g_pick rfl rfl) ?_; clear ha a; intro a ha
      refine wpList_nil ?_
      replace ha := ha.sub (σ' := [(2, (.pointer (some ⟨b1, 0, none⟩))), (3, (.pointer (some ⟨b9, 0, none⟩))), (42, (.bool true))]) ⟨rfl, rfl, rfl, trivial⟩
      refine e_then ?_
      refine c_true ha rfl ?_
      refine wp_seq ?_
      refine wp_region_lit ?_
      refine op_g ha rfl (g_assign rfl) ?_; clear ha a; intro a ha
      refine wpList_nil ?_
      replace ha := ha.sub (σ' := [(4, (.bool false))]) ⟨rfl, trivial⟩
      refine e_then ?_
      refine wp_ret ?_
      refine e_then_ret ?_
      obtain rfl := Option.some.inj hF
      exact f_ret1 ha rfl rfl ⟨rfl, hE43⟩
    · replace hF := if_f hp45 hF
      rw [show (decide ((a1_0.length : Int) < 1)) = false from b_false (decide_eq_true_iff) hp45] at ha
      refine op_want (yields ha rfl rfl) ?_
      refine op_g ha rfl (g_move rfl) ?_; clear ha a; intro a ha
      refine op_want (yields ha rfl rfl) ?_
      refine op_g ha rfl (g_gtr rfl rfl) ?_; clear ha a; intro a ha
      refine op_g ha rfl (g_pick rfl rfl) ?_; clear ha a; intro a ha
      refine op_g ha rfl (g_move rfl) ?_; clear ha a; intro a ha
      by_cases hp46 : 16 < (a1_0.length : Int)
      · replace hF := if_t hp46 hF
        rw [show (decide (16 < (a1_0.length : Int))) = true from (decide_eq_true_iff).2 hp46] at ha
        refine op_unwant ha rfl (yields ha rfl rfl) rfl ?_; clear ha a; intro a ha
        refine op_unwant ha rfl (yields ha rfl rfl) rfl ?_; clear ha a; intro a ha
        refine op_unwant ha rfl (yields ha rfl rfl) rfl ?_; clear ha a; intro a ha
        refine op_unwant ha rfl (yields ha rfl rfl) rfl ?_; clear ha a; intro a ha
        refine op_unwant ha rfl (yields ha rfl rfl) rfl ?_; clear ha a; intro a ha
        refine op_unwant ha rfl (yields ha rfl rfl) rfl ?_; clear ha a; intro a ha
        refine op_g ha rfl (g_pick rfl rfl) ?_; clear ha a; intro a ha
        refine op_g ha rfl (g_move rfl) ?_; clear ha a; intro a ha
        refine op_unwant ha rfl (yields ha rfl rfl) rfl ?_; clear ha a; intro a ha
        refine op_unwant ha rfl (yields ha rfl rfl) rfl ?_; clear ha a; intro a ha
        refine op_unwant ha rfl (yields ha rfl rfl) rfl ?_; clear ha a; intro a ha
        refine op_unwant ha rfl (yields ha rfl rfl) rfl ?_; clear ha a; intro a ha
        refine op_unwant ha rfl (yields ha rfl rfl) rfl ?_; clear ha a; intro a ha
        refine op_g ha rfl (g_pick rfl rfl) ?_; clear ha a; intro a ha
        refine wpList_nil ?_
        replace ha := ha.sub (σ' := [(2, (.pointer (some ⟨b1, 0, none⟩))), (3, (.pointer (some ⟨b9, 0, none⟩))), (42, (.bool true))]) ⟨rfl, rfl, rfl, trivial⟩
        refine e_then ?_
        refine c_true ha rfl ?_
        refine wp_seq ?_
        refine wp_region_lit ?_
        refine op_g ha rfl (g_assign rfl) ?_; clear ha a; intro a ha
        refine wpList_nil ?_
        replace ha := ha.sub (σ' := [(4, (.bool false))]) ⟨rfl, trivial⟩
        refine e_then ?_
        refine wp_ret ?_
        refine e_then_ret ?_
        obtain rfl := Option.some.inj hF
        exact f_ret1 ha rfl rfl ⟨rfl, hE43⟩
      · replace hF := if_f hp46 hF
        rw [show (decide (16 < (a1_0.length : Int))) = false from b_false (decide_eq_true_iff) hp46] at ha
        refine op_want (yields ha rfl rfl) ?_
        refine op_g ha rfl (g_field0 st32_1 rfl) ?_; clear ha a; intro a ha
        refine op_want (yields ha rfl rfl) ?_
        refine op_g ha rfl (g_load Tryd.isAgg22 rfl (hB11.cell rfl)) ?_; clear ha a; intro a ha
        refine op_want (yields ha rfl rfl) ?_
        refine op_g ha rfl (g_lenR sl22.und ha1_1 rfl) ?_; clear ha a; intro a ha
        refine op_want (yields ha rfl rfl) ?_
        refine op_g ha rfl (g_move rfl) ?_; clear ha a; intro a ha
        refine op_want (yields ha rfl rfl) ?_
        obtain ⟨hI47, hF⟩ := ck_some hF
        refine op_g ha rfl (g_sub rfl rfl hI47) ?_; clear ha a; intro a ha
        refine op_want (yields ha rfl rfl) ?_
        refine op_g ha rfl (g_neq rfl rfl) ?_; clear ha a; intro a ha
        refine op_g ha rfl (g_pick rfl rfl) ?_; clear ha a; intro a ha
        refine op_g ha rfl (g_move rfl) ?_; clear ha a; intro a ha
        by_cases hp49 : (a1_1.length : Int) ≠ ((a1_0.length : Int) - 1)
        · replace hF := if_t hp49 hF
          rw [show (decide ((a1_1.length : Int) ≠ ((a1_0.length : Int) - 1))) = true from (decide_eq_true_iff).2 hp49] at ha
          refine op_unwant ha rfl (yields ha rfl rfl) rfl ?_; clear ha a; intro a ha
          refine op_unwant ha rfl (yields ha rfl rfl) rfl ?_; clear ha a; intro a ha
          refine op_unwant ha rfl (yields ha rfl rfl) rfl ?_; clear ha a; intro a ha
          refine op_unwant ha rfl (yields ha rfl rfl) rfl ?_; clear ha a; intro a ha
          refine op_unwant ha rfl (yields ha rfl rfl) rfl ?_; clear ha a; intro a ha
          refine op_g ha rfl (g_pick rfl rfl) ?_; clear ha a; intro a ha
          refine wpList_nil ?_
          replace ha := ha.sub (σ' := [(2, (.pointer (some ⟨b1, 0, none⟩))), (3, (.pointer (some ⟨b9, 0, none⟩))), (42, (.bool true))]) ⟨rfl, rfl, rfl, trivial⟩
          refine e_then ?_
          refine c_true ha rfl ?_
          refine wp_seq ?_
          refine wp_region_lit ?_
          refine op_g ha rfl (g_assign rfl) ?_; clear ha a; intro a ha
          refine wpList_nil ?_
          replace ha := ha.sub (σ' := [(4, (.bool false))]) ⟨rfl, trivial⟩
          refine e_then ?_
          refine wp_ret ?_
          refine e_then_ret ?_
          obtain rfl := Option.some.inj hF
          exact f_ret1 ha rfl rfl ⟨rfl, hE43⟩
        · replace hF := if_f hp49 hF
          rw [show (decide ((a1_1.length : Int) ≠ ((a1_0.length : Int) - 1))) = false from b_false (decide_eq_true_iff) hp49] at ha
          refine op_want (yields ha rfl rfl) ?_
          refine op_g ha rfl (g_field0 st32_1 rfl) ?_; clear ha a; intro a ha
          refine op_want (yields ha rfl rfl) ?_
          refine op_g ha rfl (g_load Tryd.isAgg22 rfl (hB11.cell rfl)) ?_; clear ha a; intro a ha
          refine op_want (yields ha rfl rfl) ?_
          refine op_g ha rfl (g_move rfl) ?_; clear ha a; intro a ha
          refine op_want (yields ha rfl rfl) ?_
          obtain ⟨x50, hc51, hF⟩ := cal_some hF
          refine o_call ha rfl rfl Tryd.call38 (W_impl_goodLinks (ha1_1.ext hE43) ha1_0.len hc51) ?_; clear ha a; rintro v52 w53 ⟨rfl, hx54⟩ a ha
          replace hB3 := hB3.ext hx54
          replace hB11 := hB11.ext hx54
          have hE55 := Ext.trans hE43 hx54
          refine op_want (yields ha rfl rfl) ?_
          refine op_g ha rfl (g_not rfl) ?_; clear ha a; intro a ha
          refine op_g ha rfl (g_pick rfl rfl) ?_; clear ha a; intro a ha
          refine wpList_nil ?_
          replace ha := ha.sub (σ' := [(2, (.pointer (some ⟨b1, 0, none⟩))), (3, (.pointer (some ⟨b9, 0, none⟩))), (42, (.bool (!x50)))]) ⟨rfl, rfl, rfl, trivial⟩
          refine e_then ?_
          refine c_cond (¬ (x50 = true)) ha rfl (n_iff (Iff.rfl)) (fun hp56 => ?_) (fun hp56 => ?_)
          · replace hF := if_t hp56 hF
            refine wp_seq ?_
            refine wp_region_lit ?_
            refine op_g ha rfl (g_assign rfl) ?_; clear ha a; intro a ha
            refine wpList_nil ?_
            replace ha := ha.sub (σ' := [(4, (.bool false))]) ⟨rfl, trivial⟩
            refine e_then ?_
            refine wp_ret ?_
            refine e_then_ret ?_
            obtain rfl := Option.some.inj hF
            exact f_ret1 ha rfl rfl ⟨rfl, hE55⟩
          · replace hF := if_f hp56 hF
            refine wp_skip ?_
            refine e_then ?_
            refine wp_seq ?_
            refine wp_seq ?_
            refine wp_region_lit ?_
            refine op_g ha rfl (g_field0 st32_0 rfl) ?_; clear ha a; intro a ha
            refine op_g ha rfl (g_load Tryd.isAgg22 rfl (hB11.cell rfl)) ?_; clear ha a; intro a ha
            refine op_g ha rfl (g_lenR sl22.und ha1_0 rfl) ?_; clear ha a; intro a ha
            refine op_g ha rfl (g_move rfl) ?_; clear ha a; intro a ha
            refine wpList_nil ?_
            replace ha := ha.sub (σ' := [(2, (.pointer (some ⟨b1, 0, none⟩))), (3, (.pointer (some ⟨b9, 0, none⟩))), (44, va1_0), (45, (.int .i64 (a1_0.length : Int))), (46, (.int .i64 0))]) ⟨rfl, rfl, rfl, rfl, rfl, trivial⟩
            refine e_then ?_
            obtain ⟨o148, ho149, hK150⟩ := bnd_some hF
            obtain ⟨n151, hn152⟩ := lp_some ho149; clear ho149
            refine c_loop (fun a w => Fr 100 [(2, (.pointer (some ⟨b1, 0, none⟩))), (3, (.pointer (some ⟨b9, 0, none⟩)))] a ∧ Chg [] W w ∧ Bx w b1 [va0_0] 30 ∧ Zn W (b1 : Int) ∧ Bx w b9 [va1_0, va1_1] 32 ∧ Zn W (b9 : Int) ∧ Nq ([b1]) (b9 : Int) ∧ Nq ([b9]) (b1 : Int) ∧ o148 = .inl ()) (fun n a w => ∃ (i103 : Int), Fr 100 [(2, (.pointer (some ⟨b1, 0, none⟩))), (3, (.pointer (some ⟨b9, 0, none⟩))), (44, va1_0), (45, (.int .i64 (a1_0.length : Int))), (46, (.int .i64 i103))] a ∧ Chg [] W w ∧ InI i103 ∧ Bx w b1 [va0_0] 30 ∧ Zn W (b1 : Int) ∧ Bx w b9 [va1_0, va1_1] 32 ∧ Zn W (b9 : Int) ∧ Nq ([b1]) (b9 : Int) ∧ Nq ([b9]) (b1 : Int) ∧ lpN (fun s => F_impl_DecompOk_l1 a0_0 a1_0 s) n i103 = some o148) n151 ⟨0, ha.sub ⟨rfl, rfl, rfl, rfl, rfl, trivial⟩, hE55, (show InI 0 from by decide), hB3, q7, hB11, q17, q15, q16, hn152⟩ ?_ ?_
            · rintro m156 a w98 ⟨i103, ha, hE107, hI104, hB99, z100, hB101, z102, q105, q106, hF⟩
              cases m156 with
              | zero => exact (lpN_zero hF).elim
              | succ m156 =>
                obtain ⟨z155, hF, hN154⟩ := lpN_succ hF
                have hF : F_impl_DecompOk_l1 a0_0 a1_0 i103 = some z155 := hF; unfold F_impl_DecompOk_l1 at hF
                refine wp_seq ?_
                refine wp_region_lit ?_
                refine op_g ha rfl (g_lss rfl rfl) ?_; clear ha a; intro a ha
                refine wpList_nil ?_
                replace ha := ha.sub (σ' := [(2, (.pointer (some ⟨b1, 0, none⟩))), (3, (.pointer (some ⟨b9, 0, none⟩))), (44, va1_0), (45, (.int .i64 (a1_0.length : Int))), (46, (.int .i64 i103)), (47, (.bool (decide (i103 < (a1_0.length : Int)))))]) ⟨rfl, rfl, rfl, rfl, rfl, rfl, trivial⟩
                refine e_then ?_
                refine wp_seq ?_
                refine c_cond (i103 < (a1_0.length : Int)) ha rfl (decide_eq_true_iff) (fun hp157 => ?_) (fun hp157 => ?_)
                · replace hF := if_t hp157 hF
                  refine wp_skip ?_
                  refine e_then ?_
                  refine wp_seq ?_
                  refine wp_block ?_
                  refine wp_seq ?_
                  refine wp_region_lit ?_
                  obtain ⟨x158, g159, gx160, hF⟩ := idx_some hF
                  obtain ⟨p161, cs162, f163, hf164, hpb165, hat166, hr167, hi168⟩ := ha1_0.at g159 gx160
                  obtain ⟨v169, rfl, h170⟩ := hr167
                  have h170 : Ro Rp.int W f163 v169 x158 := h170
                  refine op_g ha rfl (hi168.gives sl22 rfl rfl) ?_; clear ha a; intro a ha
                  refine op_g ha rfl (g_load0 hE107 Tryd.isAgg45 rfl hat166.one) ?_; clear ha a; intro a ha
                  refine op_g ha rfl (g_assign rfl) ?_; clear ha a; intro a ha
                  refine wpList_nil ?_
                  replace ha := ha.sub (σ' := [(2, (.pointer (some ⟨b1, 0, none⟩))), (3, (.pointer (some ⟨b9, 0, none⟩))), (7, v169), (44, va1_0), (45, (.int .i64 (a1_0.length : Int))), (46, (.int .i64 i103))]) ⟨rfl, rfl, rfl, rfl, rfl, rfl, trivial⟩
                  refine e_then ?_
                  refine wp_seq ?_
                  refine wp_region_lit ?_
                  refine op_g ha rfl (g_move rfl) ?_; clear ha a; intro a ha
                  refine op_g ha rfl (g_field0 st30_0 rfl) ?_; clear ha a; intro a ha
                  refine op_g ha rfl (g_load Tryd.isAgg22 rfl (hB99.cell rfl)) ?_; clear ha a; intro a ha
                  refine op_g ha rfl (g_lenR sl22.und ha0_0 rfl) ?_; clear ha a; intro a ha
                  obtain ⟨x172, hc173, hF⟩ := cal_some hF
                  refine o_call ha rfl rfl Tryd.call39 (W_impl_increasing (h170.ext hE107) ha0_0.len hc173) ?_; clear ha a; rintro v174 w175 ⟨rfl, hx176⟩ a ha
                  replace hB99 := hB99.ext hx176
                  replace hB101 := hB101.ext hx176
                  have hE177 := Ext.trans hE107 hx176
                  refine op_g ha rfl (g_not rfl) ?_; clear ha a; intro a ha
                  refine wpList_nil ?_
                  replace ha := ha.sub (σ' := [(2, (.pointer (some ⟨b1, 0, none⟩))), (3, (.pointer (some ⟨b9, 0, none⟩))), (44, va1_0), (45, (.int .i64 (a1_0.length : Int))), (46, (.int .i64 i103)), (55, (.bool (!x172)))]) ⟨rfl, rfl, rfl, rfl, rfl, rfl, trivial⟩
                  refine e_then ?_
                  refine c_cond (¬ (x172 = true)) ha rfl (n_iff (Iff.rfl)) (fun hp178 => ?_) (fun hp178 => ?_)
                  · replace hF := if_t hp178 hF
                    refine wp_seq ?_
                    refine wp_region_lit ?_
                    refine op_g ha rfl (g_assign rfl) ?_; clear ha a; intro a ha
                    refine wpList_nil ?_
                    replace ha := ha.sub (σ' := [(4, (.bool false))]) ⟨rfl, trivial⟩
                    refine e_then ?_
                    refine wp_ret ?_
                    refine e_blk_ret ?_
                    refine e_then_ret ?_
                    refine e_lq_ret ?_
                    refine e_then_ret ?_
                    obtain rfl := Option.some.inj hF
                    have e179 := LK_inr hN154; subst e179
                    have e180 := BK_inr hK150; subst e180
                    exact f_ret1 ha rfl rfl ⟨rfl, hE177⟩
                  · replace hF := if_f hp178 hF
                    refine wp_skip ?_
                    refine e_blk ?_
                    refine e_then ?_
                    refine wp_region_lit ?_
                    obtain ⟨hI181, hF⟩ := ck_some hF
                    refine op_g ha rfl (g_add rfl rfl hI181) ?_; clear ha a; intro a ha
                    refine op_g ha rfl (g_move rfl) ?_; clear ha a; intro a ha
                    refine wpList_nil ?_
                    replace ha := ha.sub (σ' := [(2, (.pointer (some ⟨b1, 0, none⟩))), (3, (.pointer (some ⟨b9, 0, none⟩))), (44, va1_0), (45, (.int .i64 (a1_0.length : Int))), (46, (.int .i64 (i103 + 1)))]) ⟨rfl, rfl, rfl, rfl, rfl, trivial⟩
                    refine e_lq ?_
                    obtain rfl := Option.some.inj hF
                    exact ⟨_, Nat.lt_succ_self _, i103 + 1, ha.sub ⟨rfl, rfl, rfl, rfl, rfl, trivial⟩, hE177, hI181, hB99, z100, hB101, z102, q105, q106, hN154⟩
                · replace hF := if_f hp157 hF
                  refine wp_exit ?_
                  refine e_then_exit ?_
                  refine e_lq_eq ?_
                  obtain rfl := Option.some.inj hF
                  exact ⟨ha.sub ⟨rfl, rfl, trivial⟩, hE107, hB99, z100, hB101, z102, q105, q106, (LK_inr hN154).symm⟩
            · rintro a w141 ⟨ha, hE153, hB142, z143, hB144, z145, q146, q147, rfl⟩
              have hF : F_impl_DecompOk_k2 a0_0 a1_0 a1_1 = some _ := hK150; clear hK150; unfold F_impl_DecompOk_k2 at hF
              refine e_then ?_
              refine wp_seq ?_
              refine d_region [0, 1, 2, 3, 4, 5, 6] hmix ?_
              refine u_g 0 rfl (by kernel_rfl) (want0 _) ha rfl (g_loadA (cs := [va1_0, va1_1]) Tryd.isAgg32 Tryd.sizeOf32 rfl (by simp) hB144.all) ?_; clear ha a; intro a ha
              refine u_g 2 rfl (by kernel_rfl) (want0 _) ha rfl (g_field0 st32_0 rfl) ?_; clear ha a; intro a ha
              refine u_g 3 rfl (by kernel_rfl) (want0 _) ha rfl (g_load Tryd.isAgg22 rfl (hB144.cell rfl)) ?_; clear ha a; intro a ha
              refine u_only 1 rfl (by kernel_rfl) ?_; intro w183 hx184
              replace hB142 := hB142.ext hx184
              replace hB144 := hB144.ext hx184
              have hE185 := Ext.trans hE153 hx184
              obtain ⟨x186, hc187, hF⟩ := cal_some hF
              refine o_call ha rfl rfl Tryd.call40 (W_impl_linkNets (ha1_0.ext hE185) (ha1_1.ext hE185) hc187) ?_; clear ha a; rintro v188 w189 ⟨b191, h192, z193, hx190⟩ a ha
              have q195 := Nq.new hB142.fpb z193
              have q196 := Nq.madeO z193 hB142.bi
              have q197 := Nq.new hB144.fpb z193
              have q198 := Nq.madeO z193 hB144.bi
              replace hB142 := hB142.ext hx190
              replace hB144 := hB144.ext hx190
              have hE199 := Ext.trans hE185 hx190
              have q200 := Zn.upD z193 hE185
              refine wpList_nil (e_sq ?_)
              refine ⟨fun _ => hx190, ?_⟩
              refine u_only 4 rfl (by kernel_rfl) ?_; intro w201 hx202
              replace hB142 := hB142.ext hx202
              replace hB144 := hB144.ext hx202
              replace h192 := h192.ext hx202
              have hE203 := Ext.trans hE199 hx202
              obtain ⟨x204, hc205, hF⟩ := cal_some hF
              refine o_call ha rfl rfl Tryd.call41 (W_impl_bagMasks (ha1_0.ext hE203) hc205) ?_; clear ha a; rintro v206 w207 ⟨b209, h210, z211, hx208⟩ a ha
              have q213 := Nq.new hB142.fpb z211
              have q214 := Nq.madeO z211 hB142.bi
              have q215 := Nq.new hB144.fpb z211
              have q216 := Nq.madeO z211 hB144.bi
              have q217 := Nq.new h192.fpb z211
              have q218 := Nq.madeO z211 h192.blt
              replace hB142 := hB142.ext hx208
              replace hB144 := hB144.ext hx208
              replace h192 := h192.ext hx208
              have hE219 := Ext.trans hE203 hx208
              have q220 := Zn.upD z211 hE203
              refine wpList_nil (e_sq ?_)
              refine ⟨fun _ => hx208, ?_⟩
              refine u_g 5 rfl (by kernel_rfl) (want0 _) ha rfl (g_assign rfl) ?_; clear ha a; intro a ha
              refine u_g 6 rfl (by kernel_rfl) (want0 _) ha rfl (g_assign rfl) ?_; clear ha a; intro a ha
              refine u_done (by kernel_rfl) ?_; intro w221 hx222
              replace hB142 := hB142.ext hx222
              replace hB144 := hB144.ext hx222
              replace h192 := h192.ext hx222
              replace h210 := h210.ext hx222
              have hE223 := Ext.trans hE219 hx222
              replace ha := ha.sub (σ' := [(2, (.pointer (some ⟨b1, 0, none⟩))), (8, v188), (9, v206)]) ⟨rfl, rfl, rfl, trivial⟩
              refine e_then ?_
              refine wp_seq ?_
              refine wp_seq ?_
              refine wp_region_lit ?_
              refine op_g ha rfl (g_move rfl) ?_; clear ha a; intro a ha
              refine op_g ha rfl (g_move rfl) ?_; clear ha a; intro a ha
              obtain ⟨fp273, hro274, hs275⟩ := h192.roF
              obtain ⟨x276, hc277, hF⟩ := cal_some hF
              refine o_call ha rfl rfl Tryd.call43 (W_impl_nets_all hro274 hc277) ?_; clear ha a; rintro v278 w279 ⟨rfl, hx280⟩ a ha
              replace hB142 := hB142.ext hx280
              replace h192 := h192.ext hx280
              replace h210 := h210.ext hx280
              have hE281 := Ext.trans hE223 hx280
              obtain ⟨fp282, hro283, hs284⟩ := h192.roF
              obtain ⟨x285, hc286, hF⟩ := cal_some hF
              refine o_call ha rfl rfl Tryd.call42 (W_impl_connected hro283 (hG.ext hE281) hc286) ?_; clear ha a; rintro v287 w288 ⟨rfl, hx289⟩ a ha
              replace hB142 := hB142.ext hx289
              replace h192 := h192.ext hx289
              replace h210 := h210.ext hx289
              have hE290 := Ext.trans hE281 hx289
              refine op_g ha rfl (g_not rfl) ?_; clear ha a; intro a ha
              refine op_g ha rfl (g_move rfl) ?_; clear ha a; intro a ha
              by_cases hp291 : ¬ (x285 = true)
              · replace hF := if_t hp291 hF
                rw [show (!x285) = true from (n_iff (Iff.rfl)).2 hp291] at ha
                refine op_unwant ha rfl (yields ha rfl rfl) rfl ?_; clear ha a; intro a ha
                refine op_unwant ha rfl (yields ha rfl rfl) rfl ?_; clear ha a; intro a ha
                refine op_unwant ha rfl (yields ha rfl rfl) rfl ?_; clear ha a; intro a ha
                refine op_unwant ha rfl (yields ha rfl rfl) rfl ?_; clear ha a; intro a ha
                refine op_unwant ha rfl (yields ha rfl rfl) rfl ?_; clear ha a; intro a ha
                refine op_g ha rfl (g_pick rfl rfl) ?_; clear ha a; intro a ha
                refine wpList_nil ?_
                replace ha := ha.sub (σ' := [(2, (.pointer (some ⟨b1, 0, none⟩))), (8, v188), (9, v206), (73, (.bool true))]) ⟨rfl, rfl, rfl, rfl, trivial⟩
                refine e_then ?_
                refine c_true ha rfl ?_
                refine wp_seq ?_
                refine wp_region_lit ?_
                refine op_g ha rfl (g_assign rfl) ?_; clear ha a; intro a ha
                refine wpList_nil ?_
                replace ha := ha.sub (σ' := [(4, (.bool false))]) ⟨rfl, trivial⟩
                refine e_then ?_
                refine wp_ret ?_
                refine e_then_ret ?_
                obtain rfl := Option.some.inj hF
                exact f_ret1 ha rfl rfl ⟨rfl, hE290⟩
              · replace hF := if_f hp291 hF
                rw [show (!x285) = false from b_false (n_iff (Iff.rfl)) hp291] at ha
                refine op_want (yields ha rfl rfl) ?_
                refine op_g ha rfl (g_loadA (cs := [va0_0]) Tryd.isAgg30 Tryd.sizeOf30 rfl (by simp) hB142.all) ?_; clear ha a; intro a ha
                refine op_want (yields ha rfl rfl) ?_
                obtain ⟨x292, hc293, hF⟩ := cal_some hF
                refine o_call ha rfl rfl Tryd.call45 (W_impl_netsOf (ha0_0.ext hE290) hc293) ?_; clear ha a; rintro v294 w295 ⟨b297, h298, z299, hx296⟩ a ha
                have q301 := Nq.new hB142.fpb z299
                have q302 := Nq.madeO z299 hB142.bi
                have q303 := Nq.new h192.fpb z299
                have q304 := Nq.madeO z299 h192.blt
                have q305 := Nq.new h210.fpb z299
                have q306 := Nq.madeO z299 h210.blt
                replace hB142 := hB142.ext hx296
                replace h192 := h192.ext hx296
                replace h210 := h210.ext hx296
                have hE307 := Ext.trans hE290 hx296
                have q308 := Zn.upD z299 hE290
                refine op_want (yields ha rfl rfl) ?_
                refine op_g ha rfl (g_move rfl) ?_; clear ha a; intro a ha
                refine op_want (yields ha rfl rfl) ?_
                obtain ⟨fp309, hro310, hs311⟩ := h298.roF
                obtain ⟨fp312, hro313, hs314⟩ := h210.roF
                obtain ⟨x315, hc316, hF⟩ := cal_some hF
                refine o_call ha rfl rfl Tryd.call44 (W_impl_coversEdges hro310 hro313 hc316) ?_; clear ha a; rintro v317 w318 ⟨rfl, hx319⟩ a ha
                replace hB142 := hB142.ext hx319
                replace h192 := h192.ext hx319
                replace h210 := h210.ext hx319
                replace h298 := h298.ext hx319
                have hE320 := Ext.trans hE307 hx319
                refine op_want (yields ha rfl rfl) ?_
                refine op_g ha rfl (g_not rfl) ?_; clear ha a; intro a ha
                refine op_g ha rfl (g_pick rfl rfl) ?_; clear ha a; intro a ha
                refine wpList_nil ?_
                replace ha := ha.sub (σ' := [(2, (.pointer (some ⟨b1, 0, none⟩))), (8, v188), (9, v206), (73, (.bool (!x315)))]) ⟨rfl, rfl, rfl, rfl, trivial⟩
                refine e_then ?_
                refine c_cond (¬ (x315 = true)) ha rfl (n_iff (Iff.rfl)) (fun hp321 => ?_) (fun hp321 => ?_)
                · replace hF := if_t hp321 hF
                  refine wp_seq ?_
                  refine wp_region_lit ?_
                  refine op_g ha rfl (g_assign rfl) ?_; clear ha a; intro a ha
                  refine wpList_nil ?_
                  replace ha := ha.sub (σ' := [(4, (.bool false))]) ⟨rfl, trivial⟩
                  refine e_then ?_
                  refine wp_ret ?_
                  refine e_then_ret ?_
                  obtain rfl := Option.some.inj hF
                  exact f_ret1 ha rfl rfl ⟨rfl, hE320⟩
                · replace hF := if_f hp321 hF
                  refine wp_skip ?_
                  refine e_then ?_
                  refine wp_seq ?_
                  refine wp_seq ?_
                  refine wp_region_lit ?_
                  refine op_g ha rfl (g_field0 st30_0 rfl) ?_; clear ha a; intro a ha
                  refine op_g ha rfl (g_load Tryd.isAgg22 rfl (hB142.cell rfl)) ?_; clear ha a; intro a ha
                  refine op_g ha rfl (g_lenR sl22.und ha0_0 rfl) ?_; clear ha a; intro a ha
                  refine op_g ha rfl (g_move rfl) ?_; clear ha a; intro a ha
                  refine wpList_nil ?_
                  replace ha := ha.sub (σ' := [(8, v188), (9, v206), (76, (.int .i64 (a0_0.length : Int))), (77, (.int .i64 0))]) ⟨rfl, rfl, rfl, rfl, trivial⟩
                  refine e_then ?_
                  obtain ⟨o699, ho700, hK701⟩ := bnd_some hF
                  obtain ⟨n702, hn703⟩ := lp_some ho700; clear ho700
                  refine c_loop (fun a w => Fr 100 [] a ∧ Chg [] W w ∧ o699 = .inl ()) (fun n a w => ∃ (i516 : Int), Fr 100 [(8, v188), (9, v206), (76, (.int .i64 (a0_0.length : Int))), (77, (.int .i64 i516))] a ∧ Chg [] W w ∧ InI i516 ∧ Ow Rp.u32 69 true w [] b191 v188 x186 ∧ Zn W b191 ∧ Ow Rp.u32 69 true w [] b209 v206 x204 ∧ Zn W b209 ∧ Nq (bl b191 ++ []) b209 ∧ Nq (bl b209 ++ []) b191 ∧ lpN (fun s => F_impl_DecompOk_l3 a0_0 x186 x204 s) n i516 = some o699) n702 ⟨0, ha.sub ⟨rfl, rfl, rfl, rfl, trivial⟩, hE320, (show InI 0 from by decide), h192, q200, h210, q220, q217, q218, hn703⟩ ?_ ?_
                  · rintro m707 a w509 ⟨i516, ha, hE520, hI517, h511, z512, h514, z515, q518, q519, hF⟩
                    cases m707 with
                    | zero => exact (lpN_zero hF).elim
                    | succ m707 =>
                      obtain ⟨z706, hF, hN705⟩ := lpN_succ hF
                      have hF : F_impl_DecompOk_l3 a0_0 x186 x204 i516 = some z706 := hF; unfold F_impl_DecompOk_l3 at hF
                      refine wp_seq ?_
                      refine wp_region_lit ?_
                      refine op_g ha rfl (g_lss rfl rfl) ?_; clear ha a; intro a ha
                      refine wpList_nil ?_
                      replace ha := ha.sub (σ' := [(8, v188), (9, v206), (76, (.int .i64 (a0_0.length : Int))), (77, (.int .i64 i516)), (78, (.bool (decide (i516 < (a0_0.length : Int)))))]) ⟨rfl, rfl, rfl, rfl, rfl, trivial⟩
                      refine e_then ?_
                      refine wp_seq ?_
                      refine c_cond (i516 < (a0_0.length : Int)) ha rfl (decide_eq_true_iff) (fun hp708 => ?_) (fun hp708 => ?_)
                      · replace hF := if_t hp708 hF
                        refine wp_skip ?_
                        refine e_then ?_
                        refine wp_seq ?_
                        refine wp_block ?_
                        refine wp_seq ?_
                        refine wp_region_lit ?_
                        refine op_g ha rfl (g_move rfl) ?_; clear ha a; intro a ha
                        refine op_g ha rfl (g_assign rfl) ?_; clear ha a; intro a ha
                        refine wpList_nil ?_
                        replace ha := ha.sub (σ' := [(8, v188), (9, v206), (10, (.int .i64 i516)), (76, (.int .i64 (a0_0.length : Int))), (77, (.int .i64 i516))]) ⟨rfl, rfl, rfl, rfl, rfl, trivial⟩
                        refine e_then ?_
                        refine wp_seq ?_
                        refine wp_region_lit ?_
                        refine op_g ha rfl (g_assign rfl) ?_; clear ha a; intro a ha
                        refine wpList_nil ?_
                        replace ha := ha.sub (σ' := [(8, v188), (9, v206), (10, (.int .i64 i516)), (11, (.int .u32 (BitVec.toNat (0#32) : Int))), (76, (.int .i64 (a0_0.length : Int))), (77, (.int .i64 i516))]) ⟨rfl, rfl, rfl, rfl, rfl, rfl, trivial⟩
                        refine e_then ?_
                        refine wp_seq ?_
                        refine wp_seq ?_
                        refine wp_region_lit ?_
                        refine op_g ha rfl (g_move rfl) ?_; clear ha a; intro a ha
                        refine op_g ha rfl (g_lenO sl63.und h514 rfl) ?_; clear ha a; intro a ha
                        refine op_g ha rfl (g_move rfl) ?_; clear ha a; intro a ha
                        refine wpList_nil ?_
                        replace ha := ha.sub (σ' := [(8, v188), (9, v206), (10, (.int .i64 i516)), (11, (.int .u32 (BitVec.toNat (0#32) : Int))), (76, (.int .i64 (a0_0.length : Int))), (77, (.int .i64 i516)), (80, v206), (81, (.int .i64 (x204.length : Int))), (82, (.int .i64 0))]) ⟨rfl, rfl, rfl, rfl, rfl, rfl, rfl, rfl, rfl, trivial⟩
                        refine e_then ?_
                        obtain ⟨o824, ho825, hK826⟩ := bnd_some hF
                        obtain ⟨n827, hn828⟩ := lp_some ho825; clear ho825
                        refine c_loop (fun a w => ∃ (u821 : BitVec 32), Fr 100 [(8, v188), (9, v206), (11, (.int .u32 (BitVec.toNat u821 : Int))), (76, (.int .i64 (a0_0.length : Int))), (77, (.int .i64 i516))] a ∧ Chg [] W w ∧ Ow Rp.u32 69 true w [] b191 v188 x186 ∧ Zn W b191 ∧ Ow Rp.u32 69 true w [] b209 v206 x204 ∧ Zn W b209 ∧ Nq (bl b191 ++ []) b209 ∧ Nq (bl b209 ++ []) b191 ∧ o824 = .inl u821) (fun n a w => ∃ (u767 : BitVec 32) (i768 : Int), Fr 100 [(8, v188), (9, v206), (10, (.int .i64 i516)), (11, (.int .u32 (BitVec.toNat u767 : Int))), (76, (.int .i64 (a0_0.length : Int))), (77, (.int .i64 i516)), (80, v206), (81, (.int .i64 (x204.length : Int))), (82, (.int .i64 i768))] a ∧ Chg [] W w ∧ InI i768 ∧ Ow Rp.u32 69 true w [] b191 v188 x186 ∧ Zn W b191 ∧ Ow Rp.u32 69 true w [] b209 v206 x204 ∧ Zn W b209 ∧ Nq (bl b191 ++ []) b209 ∧ Nq (bl b209 ++ []) b191 ∧ lpN (fun s => F_impl_DecompOk_l4 x204 i516 s.1 s.2) n (u767, i768) = some o824) n827 ⟨0#32, 0, ha.sub ⟨rfl, rfl, rfl, rfl, rfl, rfl, rfl, rfl, rfl, trivial⟩, hE520, (show InI 0 from by decide), h511, z512, h514, z515, q518, q519, hn828⟩ ?_ ?_
                        · rintro m832 a w760 ⟨u767, i768, ha, hE772, hI769, h762, z763, h765, z766, q770, q771, hF⟩
                          cases m832 with
                          | zero => exact (lpN_zero hF).elim
                          | succ m832 =>
                            obtain ⟨z831, hF, hN830⟩ := lpN_succ hF
                            have hF : F_impl_DecompOk_l4 x204 i516 u767 i768 = some z831 := hF; unfold F_impl_DecompOk_l4 at hF
                            refine wp_seq ?_
                            refine wp_region_lit ?_
                            refine op_g ha rfl (g_lss rfl rfl) ?_; clear ha a; intro a ha
                            refine wpList_nil ?_
                            replace ha := ha.sub (σ' := [(8, v188), (9, v206), (10, (.int .i64 i516)), (11, (.int .u32 (BitVec.toNat u767 : Int))), (76, (.int .i64 (a0_0.length : Int))), (77, (.int .i64 i516)), (80, v206), (81, (.int .i64 (x204.length : Int))), (82, (.int .i64 i768)), (83, (.bool (decide (i768 < (x204.length : Int)))))]) ⟨rfl, rfl, rfl, rfl, rfl, rfl, rfl, rfl, rfl, rfl, trivial⟩
                            refine e_then ?_
                            refine wp_seq ?_
                            refine c_cond (i768 < (x204.length : Int)) ha rfl (decide_eq_true_iff) (fun hp833 => ?_) (fun hp833 => ?_)
                            · replace hF := if_t hp833 hF
                              refine wp_skip ?_
                              refine e_then ?_
                              refine wp_seq ?_
                              refine wp_block ?_
                              refine wp_seq ?_
                              refine wp_region_lit ?_
                              refine op_g ha rfl (g_move rfl) ?_; clear ha a; intro a ha
                              obtain ⟨x834, g835, gx836, hF⟩ := idx_some hF
                              obtain ⟨p837, cs838, f839, hf840, hpb841, hat842, hr843, hi844⟩ := h765.at g835 gx836
                              obtain ⟨rfl, rfl⟩ := hr843
                              refine op_g ha rfl (hi844.gives sl63 rfl rfl) ?_; clear ha a; intro a ha
                              refine op_g ha rfl (g_load Tryd.isAgg69 rfl hat842.one) ?_; clear ha a; intro a ha
                              refine op_g ha rfl (g_assign rfl) ?_; clear ha a; intro a ha
                              refine op_g ha rfl (g_assign rfl) ?_; clear ha a; intro a ha
                              refine wpList_nil ?_
                              replace ha := ha.sub (σ' := [(8, v188), (9, v206), (10, (.int .i64 i516)), (11, (.int .u32 (BitVec.toNat u767 : Int))), (12, (.int .i64 i768)), (13, (.int .u32 (BitVec.toNat x834 : Int))), (76, (.int .i64 (a0_0.length : Int))), (77, (.int .i64 i516)), (80, v206), (81, (.int .i64 (x204.length : Int))), (82, (.int .i64 i768))]) ⟨rfl, rfl, rfl, rfl, rfl, rfl, rfl, rfl, rfl, rfl, rfl, trivial⟩
                              refine e_then ?_
                              refine wp_seq ?_
                              refine wp_region_lit ?_
                              refine op_g ha rfl (g_move rfl) ?_; clear ha a; intro a ha
                              refine op_g ha rfl (g_move rfl) ?_; clear ha a; intro a ha
                              obtain ⟨x845, hc846, hF⟩ := cal_some hF
                              refine o_call ha rfl rfl Tryd.call46 (W_impl_vset_has hI517 hc846) ?_; clear ha a; rintro v847 w848 ⟨rfl, hx849⟩ a ha
                              replace h762 := h762.ext hx849
                              replace h765 := h765.ext hx849
                              have hE850 := Ext.trans hE772 hx849
                              refine wpList_nil ?_
                              replace ha := ha.sub (σ' := [(8, v188), (9, v206), (10, (.int .i64 i516)), (11, (.int .u32 (BitVec.toNat u767 : Int))), (12, (.int .i64 i768)), (76, (.int .i64 (a0_0.length : Int))), (77, (.int .i64 i516)), (80, v206), (81, (.int .i64 (x204.length : Int))), (82, (.int .i64 i768)), (89, (.bool x845))]) ⟨rfl, rfl, rfl, rfl, rfl, rfl, rfl, rfl, rfl, rfl, rfl, trivial⟩
                              refine e_then ?_
                              refine c_cond (x845 = true) ha rfl (Iff.rfl) (fun hp851 => ?_) (fun hp851 => ?_)
                              · replace hF := if_t hp851 hF
                                refine wp_region_lit ?_
                                refine op_g ha rfl (g_move rfl) ?_; clear ha a; intro a ha
                                refine op_g ha rfl (g_move rfl) ?_; clear ha a; intro a ha
                                obtain ⟨x852, hc853, hF⟩ := cal_some hF
                                refine o_call ha rfl rfl Tryd.call47 (W_impl_one hI769 hc853) ?_; clear ha a; rintro v854 w855 ⟨rfl, hx856⟩ a ha
                                replace h762 := h762.ext hx856
                                replace h765 := h765.ext hx856
                                have hE857 := Ext.trans hE850 hx856
                                refine op_g ha rfl (g32_or (m := u767) (n := x852) rfl rfl) ?_; clear ha a; intro a ha
                                refine op_g ha rfl (g_assign rfl) ?_; clear ha a; intro a ha
                                refine wpList_nil ?_
                                replace ha := ha.sub (σ' := [(8, v188), (9, v206), (10, (.int .i64 i516)), (11, (.int .u32 (BitVec.toNat (u767 ||| x852) : Int))), (76, (.int .i64 (a0_0.length : Int))), (77, (.int .i64 i516)), (80, v206), (81, (.int .i64 (x204.length : Int))), (82, (.int .i64 i768))]) ⟨rfl, rfl, rfl, rfl, rfl, rfl, rfl, rfl, rfl, trivial⟩
                                refine e_blk ?_
                                refine e_then ?_
                                refine wp_region_lit ?_
                                obtain ⟨hI858, hF⟩ := ck_some hF
                                refine op_g ha rfl (g_add rfl rfl hI858) ?_; clear ha a; intro a ha
                                refine op_g ha rfl (g_move rfl) ?_; clear ha a; intro a ha
                                refine wpList_nil ?_
                                replace ha := ha.sub (σ' := [(8, v188), (9, v206), (10, (.int .i64 i516)), (11, (.int .u32 (BitVec.toNat (u767 ||| x852) : Int))), (76, (.int .i64 (a0_0.length : Int))), (77, (.int .i64 i516)), (80, v206), (81, (.int .i64 (x204.length : Int))), (82, (.int .i64 (i768 + 1)))]) ⟨rfl, rfl, rfl, rfl, rfl, rfl, rfl, rfl, rfl, trivial⟩
                                refine e_lq ?_
                                obtain rfl := Option.some.inj hF
                                exact ⟨_, Nat.lt_succ_self _, u767 ||| x852, i768 + 1, ha.sub ⟨rfl, rfl, rfl, rfl, rfl, rfl, rfl, rfl, rfl, trivial⟩, hE857, hI858, h762, z763, h765, z766, q770, q771, hN830⟩
                              · replace hF := if_f hp851 hF
                                refine wp_skip ?_
                                refine e_blk ?_
                                refine e_then ?_
                                refine wp_region_lit ?_
                                obtain ⟨hI860, hF⟩ := ck_some hF
                                refine op_g ha rfl (g_add rfl rfl hI860) ?_; clear ha a; intro a ha
                                refine op_g ha rfl (g_move rfl) ?_; clear ha a; intro a ha
                                refine wpList_nil ?_
                                replace ha := ha.sub (σ' := [(8, v188), (9, v206), (10, (.int .i64 i516)), (11, (.int .u32 (BitVec.toNat u767 : Int))), (76, (.int .i64 (a0_0.length : Int))), (77, (.int .i64 i516)), (80, v206), (81, (.int .i64 (x204.length : Int))), (82, (.int .i64 (i768 + 1)))]) ⟨rfl, rfl, rfl, rfl, rfl, rfl, rfl, rfl, rfl, trivial⟩
                                refine e_lq ?_
                                obtain rfl := Option.some.inj hF
                                exact ⟨_, Nat.lt_succ_self _, u767, i768 + 1, ha.sub ⟨rfl, rfl, rfl, rfl, rfl, rfl, rfl, rfl, rfl, trivial⟩, hE850, hI860, h762, z763, h765, z766, q770, q771, hN830⟩
                            · replace hF := if_f hp833 hF
                              refine wp_exit ?_
                              refine e_then_exit ?_
                              refine e_lq_eq ?_
                              obtain rfl := Option.some.inj hF
                              exact ⟨u767, ha.sub ⟨rfl, rfl, rfl, rfl, rfl, trivial⟩, hE772, h762, z763, h765, z766, q770, q771, (LK_inr hN830).symm⟩
                        · rintro a w814 ⟨u821, ha, hE829, h816, z817, h819, z820, q822, q823, rfl⟩
                          have hF : F_impl_DecompOk_k5 x186 i516 u821 = some _ := hK826; clear hK826; unfold F_impl_DecompOk_k5 at hF
                          refine e_then ?_
                          refine wp_seq ?_
                          refine wp_region_lit ?_
                          refine op_g ha rfl (g_move rfl) ?_; clear ha a; intro a ha
                          refine op_g ha rfl (g_move rfl) ?_; clear ha a; intro a ha
                          obtain ⟨fp862, hro863, hs864⟩ := h816.roF
                          obtain ⟨x865, hc866, hF⟩ := cal_some hF
                          refine o_call ha rfl rfl Tryd.call42 (W_impl_connected hro863 (hG.ext hE829) hc866) ?_; clear ha a; rintro v867 w868 ⟨rfl, hx869⟩ a ha
                          replace h816 := h816.ext hx869
                          replace h819 := h819.ext hx869
                          have hE870 := Ext.trans hE829 hx869
                          refine op_g ha rfl (g_not rfl) ?_; clear ha a; intro a ha
                          refine wpList_nil ?_
                          replace ha := ha.sub (σ' := [(8, v188), (9, v206), (76, (.int .i64 (a0_0.length : Int))), (77, (.int .i64 i516)), (98, (.bool (!x865)))]) ⟨rfl, rfl, rfl, rfl, rfl, trivial⟩
                          refine e_then ?_
                          refine c_cond (¬ (x865 = true)) ha rfl (n_iff (Iff.rfl)) (fun hp871 => ?_) (fun hp871 => ?_)
                          · replace hF := if_t hp871 hF
                            refine wp_seq ?_
                            refine wp_region_lit ?_
                            refine op_g ha rfl (g_assign rfl) ?_; clear ha a; intro a ha
                            refine wpList_nil ?_
                            replace ha := ha.sub (σ' := [(4, (.bool false))]) ⟨rfl, trivial⟩
                            refine e_then ?_
                            refine wp_ret ?_
                            refine e_blk_ret ?_
                            refine e_then_ret ?_
                            refine e_lq_ret ?_
                            refine e_then_ret ?_
                            obtain rfl := Option.some.inj hF
                            have e872 := LK_inr hN705; subst e872
                            have e873 := BK_inr hK701; subst e873
                            exact f_ret1 ha rfl rfl ⟨rfl, hE870⟩
                          · replace hF := if_f hp871 hF
                            refine wp_skip ?_
                            refine e_blk ?_
                            refine e_then ?_
                            refine wp_region_lit ?_
                            obtain ⟨hI874, hF⟩ := ck_some hF
                            refine op_g ha rfl (g_add rfl rfl hI874) ?_; clear ha a; intro a ha
                            refine op_g ha rfl (g_move rfl) ?_; clear ha a; intro a ha
                            refine wpList_nil ?_
                            replace ha := ha.sub (σ' := [(8, v188), (9, v206), (76, (.int .i64 (a0_0.length : Int))), (77, (.int .i64 (i516 + 1)))]) ⟨rfl, rfl, rfl, rfl, trivial⟩
                            refine e_lq ?_
                            obtain rfl := Option.some.inj hF
                            exact ⟨_, Nat.lt_succ_self _, i516 + 1, ha.sub ⟨rfl, rfl, rfl, rfl, trivial⟩, hE870, hI874, h816, z817, h819, z820, q822, q823, hN705⟩
                      · replace hF := if_f hp708 hF
                        refine wp_exit ?_
                        refine e_then_exit ?_
                        refine e_lq_eq ?_
                        obtain rfl := Option.some.inj hF
                        exact ⟨ha.sub trivial, hE520, (LK_inr hN705).symm⟩
                  · rintro a w698 ⟨ha, hE704, rfl⟩
                    have hF : F_impl_DecompOk_k6 = some _ := hK701; clear hK701; unfold F_impl_DecompOk_k6 at hF
                    refine e_then ?_
                    refine wp_seq ?_
                    refine wp_region_lit ?_
                    refine op_g ha rfl (g_assign rfl) ?_; clear ha a; intro a ha
                    refine wpList_nil ?_
                    refine e_then ?_
                    refine wp_ret ?_
                    obtain rfl := Option.some.inj hF
                    exact f_ret1 ha rfl rfl ⟨rfl, hE704⟩
set_option maxHeartbeats 2000000 in
theorem W_laws_eqInt64S {W : World} {va0 : Value} {fa0 : List Nat} {a0 : (List Int)} (ha0 : Ro Rp.int W fa0 va0 a0) {va1 : Value} {fa1 : List Nat} {a1 : (List Int)} (ha1 : Ro Rp.int W fa1 va1 a1) {r : Bool} (hF : F_laws_eqInt64S a0 a1 = some r) :
    Calls Tryd.prog 85 [va0, va1].toArray W (Ret fun u w' => u = .bool r ∧ Ext W w') := by
  refine f_enter Tryd.func85 rfl Tryd.ntmps85 rfl ?_
  intro a ha
  replace ha : Fr 26 [(0, va0), (1, va1)] a := ha
  have hE : Chg [] W W := Chg.refl _ _
  unfold F_laws_eqInt64S at hF
  refine wp_seq ?_
  refine wp_region_lit ?_
  refine op_g ha rfl (g_assign rfl) ?_; clear ha a; intro a ha
  refine wpList_nil ?_
  replace ha := ha.sub (σ' := [(0, va0), (1, va1)]) ⟨rfl, rfl, trivial⟩
  refine e_then ?_
  refine wp_seq ?_
  refine wp_seq ?_
  refine wp_region_lit ?_
  refine op_g ha rfl (g_move rfl) ?_; clear ha a; intro a ha
  refine op_g ha rfl (g_lenR sl45.und ha0 rfl) ?_; clear ha a; intro a ha
  refine op_g ha rfl (g_move rfl) ?_; clear ha a; intro a ha
  refine op_g ha rfl (g_lenR sl45.und ha1 rfl) ?_; clear ha a; intro a ha
  refine op_g ha rfl (g_neq rfl rfl) ?_; clear ha a; intro a ha
  refine wpList_nil ?_
  replace ha := ha.sub (σ' := [(0, va0), (1, va1), (10, (.bool (decide ((a0.length : Int) ≠ (a1.length : Int)))))]) ⟨rfl, rfl, rfl, trivial⟩
  refine e_then ?_
  refine c_cond ((a0.length : Int) ≠ (a1.length : Int)) ha rfl (decide_eq_true_iff) (fun hp1 => ?_) (fun hp1 => ?_)
  · replace hF := if_t hp1 hF
    refine wp_seq ?_
    refine wp_region_lit ?_
    refine op_g ha rfl (g_assign rfl) ?_; clear ha a; intro a ha
    refine wpList_nil ?_
    replace ha := ha.sub (σ' := [(4, (.bool false))]) ⟨rfl, trivial⟩
    refine e_then ?_
    refine wp_ret ?_
    refine e_then_ret ?_
    obtain rfl := Option.some.inj hF
    exact f_ret1 ha rfl rfl ⟨rfl, hE⟩
  · replace hF := if_f hp1 hF
    refine wp_skip ?_
    refine e_then ?_
    refine wp_seq ?_
    refine wp_seq ?_
    refine wp_region_lit ?_
    refine op_g ha rfl (g_assign rfl) ?_; clear ha a; intro a ha
    refine wpList_nil ?_
    replace ha := ha.sub (σ' := [(0, va0), (1, va1), (5, (.int .i64 0))]) ⟨rfl, rfl, rfl, trivial⟩
    refine e_then ?_
    obtain ⟨o77, ho78, hK79⟩ := bnd_some hF
    obtain ⟨n80, hn81⟩ := lp_some ho78; clear ho78
    refine c_loop (fun a w => Fr 26 [] a ∧ Chg [] W w ∧ o77 = .inl ()) (fun n a w => ∃ (i39 : Int), Fr 26 [(0, va0), (1, va1), (5, (.int .i64 i39))] a ∧ Chg [] W w ∧ InI i39 ∧ lpN (fun s => F_laws_eqInt64S_l1 a0 a1 s) n i39 = some o77) n80 ⟨0, ha.sub ⟨rfl, rfl, rfl, trivial⟩, hE, (show InI 0 from by decide), hn81⟩ ?_ ?_
    · rintro m85 a w38 ⟨i39, ha, hE41, hI40, hF⟩
      cases m85 with
      | zero => exact (lpN_zero hF).elim
      | succ m85 =>
        obtain ⟨z84, hF, hN83⟩ := lpN_succ hF
        have hF : F_laws_eqInt64S_l1 a0 a1 i39 = some z84 := hF; unfold F_laws_eqInt64S_l1 at hF
        refine wp_seq ?_
        refine wp_seq ?_
        refine wp_region_lit ?_
        refine op_g ha rfl (g_move rfl) ?_; clear ha a; intro a ha
        refine op_g ha rfl (g_move rfl) ?_; clear ha a; intro a ha
        refine op_g ha rfl (g_lenR sl45.und ha0 rfl) ?_; clear ha a; intro a ha
        refine op_g ha rfl (g_lss rfl rfl) ?_; clear ha a; intro a ha
        refine wpList_nil ?_
        replace ha := ha.sub (σ' := [(0, va0), (1, va1), (5, (.int .i64 i39)), (14, (.bool (decide (i39 < (a0.length : Int)))))]) ⟨rfl, rfl, rfl, rfl, trivial⟩
        refine e_then ?_
        refine c_cond (i39 < (a0.length : Int)) ha rfl (decide_eq_true_iff) (fun hp86 => ?_) (fun hp86 => ?_)
        · replace hF := if_t hp86 hF
          refine wp_skip ?_
          refine e_then ?_
          refine wp_seq ?_
          refine wp_block ?_
          refine wp_seq ?_
          refine d_quiet hmix (by kernel_rfl) ?_
          refine q_g ha rfl (g_move rfl) ?_; clear ha a; intro a ha
          refine q_g ha rfl (g_move rfl) ?_; clear ha a; intro a ha
          obtain ⟨x87, g88, gx89, hF⟩ := idx_some hF
          obtain ⟨p90, cs91, f92, hf93, hpb94, hat95, hr96, hi97⟩ := ha0.at g88 gx89
          obtain ⟨rfl, hI98, rfl⟩ := hr96
          refine q_g ha rfl (hi97.gives sl45 rfl rfl) ?_; clear ha a; intro a ha
          refine q_g ha rfl (g_load0 hE41 Tryd.isAgg2 rfl hat95.one) ?_; clear ha a; intro a ha
          refine q_g ha rfl (g_move rfl) ?_; clear ha a; intro a ha
          refine q_g ha rfl (g_move rfl) ?_; clear ha a; intro a ha
          obtain ⟨x99, g100, gx101, hF⟩ := idx_some hF
          obtain ⟨p102, cs103, f104, hf105, hpb106, hat107, hr108, hi109⟩ := ha1.at g100 gx101
          obtain ⟨rfl, hI110, rfl⟩ := hr108
          refine q_g ha rfl (hi109.gives sl45 rfl rfl) ?_; clear ha a; intro a ha
          refine q_g ha rfl (g_load0 hE41 Tryd.isAgg2 rfl hat107.one) ?_; clear ha a; intro a ha
          refine q_g ha rfl (g_neq rfl rfl) ?_; clear ha a; intro a ha
          refine q_nil ?_; intro w111 hx112
          have hE113 := Ext.trans hE41 hx112
          replace ha := ha.sub (σ' := [(0, va0), (1, va1), (5, (.int .i64 i39)), (25, (.bool (decide (x87 ≠ x99))))]) ⟨rfl, rfl, rfl, rfl, trivial⟩
          refine e_then ?_
          refine c_cond (x87 ≠ x99) ha rfl (decide_eq_true_iff) (fun hp114 => ?_) (fun hp114 => ?_)
          · replace hF := if_t hp114 hF
            refine wp_seq ?_
            refine wp_region_lit ?_
            refine op_g ha rfl (g_assign rfl) ?_; clear ha a; intro a ha
            refine wpList_nil ?_
            replace ha := ha.sub (σ' := [(4, (.bool false))]) ⟨rfl, trivial⟩
            refine e_then ?_
            refine wp_ret ?_
            refine e_blk_ret ?_
            refine e_then_ret ?_
            refine e_lq_ret ?_
            refine e_then_ret ?_
            obtain rfl := Option.some.inj hF
            have e115 := LK_inr hN83; subst e115
            have e116 := BK_inr hK79; subst e116
            exact f_ret1 ha rfl rfl ⟨rfl, hE113⟩
          · replace hF := if_f hp114 hF
            refine wp_skip ?_
            refine e_blk ?_
            refine e_then ?_
            refine wp_region_lit ?_
            refine op_g ha rfl (g_move rfl) ?_; clear ha a; intro a ha
            obtain ⟨hI117, hF⟩ := ck_some hF
            refine op_g ha rfl (g_add rfl rfl hI117) ?_; clear ha a; intro a ha
            refine op_g ha rfl (g_assign rfl) ?_; clear ha a; intro a ha
            refine wpList_nil ?_
            replace ha := ha.sub (σ' := [(0, va0), (1, va1), (5, (.int .i64 (i39 + 1)))]) ⟨rfl, rfl, rfl, trivial⟩
            refine e_lq ?_
            obtain rfl := Option.some.inj hF
            exact ⟨_, Nat.lt_succ_self _, i39 + 1, ha.sub ⟨rfl, rfl, rfl, trivial⟩, hE113, hI117, hN83⟩
        · replace hF := if_f hp86 hF
          refine wp_exit ?_
          refine e_then_exit ?_
          refine e_lq_eq ?_
          obtain rfl := Option.some.inj hF
          exact ⟨ha.sub trivial, hE41, (LK_inr hN83).symm⟩
    · rintro a w76 ⟨ha, hE82, rfl⟩
      have hF : F_laws_eqInt64S_k2 = some _ := hK79; clear hK79; unfold F_laws_eqInt64S_k2 at hF
      refine e_then ?_
      refine wp_seq ?_
      refine wp_region_lit ?_
      refine op_g ha rfl (g_assign rfl) ?_; clear ha a; intro a ha
      refine wpList_nil ?_
      refine e_then ?_
      refine wp_ret ?_
      obtain rfl := Option.some.inj hF
      exact f_ret1 ha rfl rfl ⟨rfl, hE82⟩
set_option maxHeartbeats 2000000 in
theorem W_laws_eqInt64SS {W : World} {va0 : Value} {fa0 : List Nat} {a0 : (List (List Int))} (ha0 : Ro (Rp.sl 2 Rp.int) W fa0 va0 a0) {va1 : Value} {fa1 : List Nat} {a1 : (List (List Int))} (ha1 : Ro (Rp.sl 2 Rp.int) W fa1 va1 a1) {r : Bool} (hF : F_laws_eqInt64SS a0 a1 = some r) :
    Calls Tryd.prog 48 [va0, va1].toArray W (Ret fun u w' => u = .bool r ∧ Ext W w') := by
  refine f_enter Tryd.func48 rfl Tryd.ntmps48 rfl ?_
  intro a ha
  replace ha : Fr 27 [(0, va0), (1, va1)] a := ha
  have hE : Chg [] W W := Chg.refl _ _
  unfold F_laws_eqInt64SS at hF
  refine wp_seq ?_
  refine wp_region_lit ?_
  refine op_g ha rfl (g_assign rfl) ?_; clear ha a; intro a ha
  refine wpList_nil ?_
  replace ha := ha.sub (σ' := [(0, va0), (1, va1)]) ⟨rfl, rfl, trivial⟩
  refine e_then ?_
  refine wp_seq ?_
  refine wp_seq ?_
  refine wp_region_lit ?_
  refine op_g ha rfl (g_move rfl) ?_; clear ha a; intro a ha
  refine op_g ha rfl (g_lenR sl22.und ha0 rfl) ?_; clear ha a; intro a ha
  refine op_g ha rfl (g_move rfl) ?_; clear ha a; intro a ha
  refine op_g ha rfl (g_lenR sl22.und ha1 rfl) ?_; clear ha a; intro a ha
  refine op_g ha rfl (g_neq rfl rfl) ?_; clear ha a; intro a ha
  refine wpList_nil ?_
  replace ha := ha.sub (σ' := [(0, va0), (1, va1), (10, (.bool (decide ((a0.length : Int) ≠ (a1.length : Int)))))]) ⟨rfl, rfl, rfl, trivial⟩
  refine e_then ?_
  refine c_cond ((a0.length : Int) ≠ (a1.length : Int)) ha rfl (decide_eq_true_iff) (fun hp1 => ?_) (fun hp1 => ?_)
  · replace hF := if_t hp1 hF
    refine wp_seq ?_
    refine wp_region_lit ?_
    refine op_g ha rfl (g_assign rfl) ?_; clear ha a; intro a ha
    refine wpList_nil ?_
    replace ha := ha.sub (σ' := [(4, (.bool false))]) ⟨rfl, trivial⟩
    refine e_then ?_
    refine wp_ret ?_
    refine e_then_ret ?_
    obtain rfl := Option.some.inj hF
    exact f_ret1 ha rfl rfl ⟨rfl, hE⟩
  · replace hF := if_f hp1 hF
    refine wp_skip ?_
    refine e_then ?_
    refine wp_seq ?_
    refine wp_seq ?_
    refine wp_region_lit ?_
    refine op_g ha rfl (g_assign rfl) ?_; clear ha a; intro a ha
    refine wpList_nil ?_
    replace ha := ha.sub (σ' := [(0, va0), (1, va1), (5, (.int .i64 0))]) ⟨rfl, rfl, rfl, trivial⟩
    refine e_then ?_
    obtain ⟨o93, ho94, hK95⟩ := bnd_some hF
    obtain ⟨n96, hn97⟩ := lp_some ho94; clear ho94
    refine c_loop (fun a w => Fr 27 [] a ∧ Chg [] W w ∧ o93 = .inl ()) (fun n a w => ∃ (i47 : Int), Fr 27 [(0, va0), (1, va1), (5, (.int .i64 i47))] a ∧ Chg [] W w ∧ InI i47 ∧ lpN (fun s => F_laws_eqInt64SS_l1 a0 a1 s) n i47 = some o93) n96 ⟨0, ha.sub ⟨rfl, rfl, rfl, trivial⟩, hE, (show InI 0 from by decide), hn97⟩ ?_ ?_
    · rintro m101 a w46 ⟨i47, ha, hE49, hI48, hF⟩
      cases m101 with
      | zero => exact (lpN_zero hF).elim
      | succ m101 =>
        obtain ⟨z100, hF, hN99⟩ := lpN_succ hF
        have hF : F_laws_eqInt64SS_l1 a0 a1 i47 = some z100 := hF; unfold F_laws_eqInt64SS_l1 at hF
        refine wp_seq ?_
        refine wp_seq ?_
        refine wp_region_lit ?_
        refine op_g ha rfl (g_move rfl) ?_; clear ha a; intro a ha
        refine op_g ha rfl (g_move rfl) ?_; clear ha a; intro a ha
        refine op_g ha rfl (g_lenR sl22.und ha0 rfl) ?_; clear ha a; intro a ha
        refine op_g ha rfl (g_lss rfl rfl) ?_; clear ha a; intro a ha
        refine wpList_nil ?_
        replace ha := ha.sub (σ' := [(0, va0), (1, va1), (5, (.int .i64 i47)), (14, (.bool (decide (i47 < (a0.length : Int)))))]) ⟨rfl, rfl, rfl, rfl, trivial⟩
        refine e_then ?_
        refine c_cond (i47 < (a0.length : Int)) ha rfl (decide_eq_true_iff) (fun hp102 => ?_) (fun hp102 => ?_)
        · replace hF := if_t hp102 hF
          refine wp_skip ?_
          refine e_then ?_
          refine wp_seq ?_
          refine wp_block ?_
          refine wp_seq ?_
          refine d_quiet hmix (by kernel_rfl) ?_
          refine q_g ha rfl (g_move rfl) ?_; clear ha a; intro a ha
          refine q_g ha rfl (g_move rfl) ?_; clear ha a; intro a ha
          obtain ⟨x103, g104, gx105, hF⟩ := idx_some hF
          obtain ⟨p106, cs107, f108, hf109, hpb110, hat111, hr112, hi113⟩ := ha0.at g104 gx105
          obtain ⟨v114, rfl, h115⟩ := hr112
          have h115 : Ro Rp.int W f108 v114 x103 := h115
          refine q_g ha rfl (hi113.gives sl22 rfl rfl) ?_; clear ha a; intro a ha
          refine q_g ha rfl (g_load0 hE49 Tryd.isAgg45 rfl hat111.one) ?_; clear ha a; intro a ha
          refine q_g ha rfl (g_move rfl) ?_; clear ha a; intro a ha
          refine q_g ha rfl (g_move rfl) ?_; clear ha a; intro a ha
          obtain ⟨x117, g118, gx119, hF⟩ := idx_some hF
          obtain ⟨p120, cs121, f122, hf123, hpb124, hat125, hr126, hi127⟩ := ha1.at g118 gx119
          obtain ⟨v128, rfl, h129⟩ := hr126
          have h129 : Ro Rp.int W f122 v128 x117 := h129
          refine q_g ha rfl (hi127.gives sl22 rfl rfl) ?_; clear ha a; intro a ha
          refine q_g ha rfl (g_load0 hE49 Tryd.isAgg45 rfl hat125.one) ?_; clear ha a; intro a ha
          obtain ⟨x133, hc134, hF⟩ := cal_some hF
          refine q_call (.bool x133) ha rfl rfl Tryd.call85 (fun w132 hx131 => W_laws_eqInt64S (h115.ext (Ext.trans hE49 hx131)) (h129.ext (Ext.trans hE49 hx131)) hc134) (fun _ _ _ h => ⟨h.1, h.2⟩) ?_; clear ha a; intro a ha
          refine q_g ha rfl (g_not rfl) ?_; clear ha a; intro a ha
          refine q_nil ?_; intro w135 hx136
          have hE137 := Ext.trans hE49 hx136
          replace ha := ha.sub (σ' := [(0, va0), (1, va1), (5, (.int .i64 i47)), (26, (.bool (!x133)))]) ⟨rfl, rfl, rfl, rfl, trivial⟩
          refine e_then ?_
          refine c_cond (¬ (x133 = true)) ha rfl (n_iff (Iff.rfl)) (fun hp138 => ?_) (fun hp138 => ?_)
          · replace hF := if_t hp138 hF
            refine wp_seq ?_
            refine wp_region_lit ?_
            refine op_g ha rfl (g_assign rfl) ?_; clear ha a; intro a ha
            refine wpList_nil ?_
            replace ha := ha.sub (σ' := [(4, (.bool false))]) ⟨rfl, trivial⟩
            refine e_then ?_
            refine wp_ret ?_
            refine e_blk_ret ?_
            refine e_then_ret ?_
            refine e_lq_ret ?_
            refine e_then_ret ?_
            obtain rfl := Option.some.inj hF
            have e139 := LK_inr hN99; subst e139
            have e140 := BK_inr hK95; subst e140
            exact f_ret1 ha rfl rfl ⟨rfl, hE137⟩
          · replace hF := if_f hp138 hF
            refine wp_skip ?_
            refine e_blk ?_
            refine e_then ?_
            refine wp_region_lit ?_
            refine op_g ha rfl (g_move rfl) ?_; clear ha a; intro a ha
            obtain ⟨hI141, hF⟩ := ck_some hF
            refine op_g ha rfl (g_add rfl rfl hI141) ?_; clear ha a; intro a ha
            refine op_g ha rfl (g_assign rfl) ?_; clear ha a; intro a ha
            refine wpList_nil ?_
            replace ha := ha.sub (σ' := [(0, va0), (1, va1), (5, (.int .i64 (i47 + 1)))]) ⟨rfl, rfl, rfl, trivial⟩
            refine e_lq ?_
            obtain rfl := Option.some.inj hF
            exact ⟨_, Nat.lt_succ_self _, i47 + 1, ha.sub ⟨rfl, rfl, rfl, trivial⟩, hE137, hI141, hN99⟩
        · replace hF := if_f hp102 hF
          refine wp_exit ?_
          refine e_then_exit ?_
          refine e_lq_eq ?_
          obtain rfl := Option.some.inj hF
          exact ⟨ha.sub trivial, hE49, (LK_inr hN99).symm⟩
    · rintro a w92 ⟨ha, hE98, rfl⟩
      have hF : F_laws_eqInt64SS_k2 = some _ := hK95; clear hK95; unfold F_laws_eqInt64SS_k2 at hF
      refine e_then ?_
      refine wp_seq ?_
      refine wp_region_lit ?_
      refine op_g ha rfl (g_assign rfl) ?_; clear ha a; intro a ha
      refine wpList_nil ?_
      refine e_then ?_
      refine wp_ret ?_
      obtain rfl := Option.some.inj hF
      exact f_ret1 ha rfl rfl ⟨rfl, hE98⟩
set_option maxHeartbeats 2000000 in
theorem W_laws_eqGraph {W : World} {va0_0 : Value} {fa0_0 : List Nat} {a0_0 : (List (List Int))} (ha0_0 : Ro (Rp.sl 2 Rp.int) W fa0_0 va0_0 a0_0) {va1_0 : Value} {fa1_0 : List Nat} {a1_0 : (List (List Int))} (ha1_0 : Ro (Rp.sl 2 Rp.int) W fa1_0 va1_0 a1_0) {r : Bool} (hF : F_laws_eqGraph a0_0 a1_0 = some r) :
    Calls Tryd.prog 11 [.agg #[va0_0], .agg #[va1_0]].toArray W (Ret fun u w' => u = .bool r ∧ Ext W w') := by
  refine f_enter Tryd.func11 rfl Tryd.ntmps11 rfl ?_
  intro a ha
  replace ha : Fr 11 [(0, (.agg #[va0_0])), (1, (.agg #[va1_0]))] a := ha
  have hE : Chg [] W W := Chg.refl _ _
  unfold F_laws_eqGraph at hF
  refine wp_seq ?_
  refine wp_region_lit ?_
  refine o_box ha rfl rfl rfl ?_; clear ha a; intro b1 w2 hB3 hx4 hlo5 a ha
  have q6 := Zn.one hlo5
  have q7 := Zn.upD q6 hE
  have hE8 := Ext.trans hE hx4
  refine o_box ha rfl rfl rfl ?_; clear ha a; intro b9 w10 hB11 hx12 hlo13 a ha
  have q14 := Zn.one hlo13
  have q15 := Nq.new hB3.fpb q14
  have q16 := Nq.made1 hlo13 hB3.bi
  have q17 := Zn.upD q14 hE8
  replace hB3 := hB3.ext hx12
  have hE18 := Ext.trans hE8 hx12
  refine op_g ha rfl (g_assign rfl) ?_; clear ha a; intro a ha
  refine wpList_nil ?_
  replace ha := ha.sub (σ' := [(2, (.pointer (some ⟨b1, 0, none⟩))), (3, (.pointer (some ⟨b9, 0, none⟩)))]) ⟨rfl, rfl, trivial⟩
  refine e_then ?_
  refine wp_seq ?_
  refine wp_seq ?_
  refine wp_region_lit ?_
  refine op_g ha rfl (g_field0 st30_0 rfl) ?_; clear ha a; intro a ha
  refine op_g ha rfl (g_load Tryd.isAgg22 rfl (hB3.cell rfl)) ?_; clear ha a; intro a ha
  refine op_g ha rfl (g_field0 st30_0 rfl) ?_; clear ha a; intro a ha
  refine op_g ha rfl (g_load Tryd.isAgg22 rfl (hB11.cell rfl)) ?_; clear ha a; intro a ha
  obtain ⟨x19, hc20, hF⟩ := cal_some hF
  refine o_call ha rfl rfl Tryd.call48 (W_laws_eqInt64SS (ha0_0.ext hE18) (ha1_0.ext hE18) hc20) ?_; clear ha a; rintro v21 w22 ⟨rfl, hx23⟩ a ha
  replace hB3 := hB3.ext hx23
  replace hB11 := hB11.ext hx23
  have hE24 := Ext.trans hE18 hx23
  refine op_g ha rfl (g_not rfl) ?_; clear ha a; intro a ha
  refine wpList_nil ?_
  replace ha := ha.sub (σ' := [(10, (.bool (!x19)))]) ⟨rfl, trivial⟩
  refine e_then ?_
  refine c_cond (¬ (x19 = true)) ha rfl (n_iff (Iff.rfl)) (fun hp25 => ?_) (fun hp25 => ?_)
  · replace hF := if_t hp25 hF
    refine wp_seq ?_
    refine wp_region_lit ?_
    refine op_g ha rfl (g_assign rfl) ?_; clear ha a; intro a ha
    refine wpList_nil ?_
    replace ha := ha.sub (σ' := [(4, (.bool false))]) ⟨rfl, trivial⟩
    refine e_then ?_
    refine wp_ret ?_
    refine e_then_ret ?_
    obtain rfl := Option.some.inj hF
    exact f_ret1 ha rfl rfl ⟨rfl, hE24⟩
  · replace hF := if_f hp25 hF
    refine wp_skip ?_
    refine e_then ?_
    refine wp_seq ?_
    refine wp_region_lit ?_
    refine op_g ha rfl (g_assign rfl) ?_; clear ha a; intro a ha
    refine wpList_nil ?_
    replace ha := ha.sub (σ' := [(4, (.bool true))]) ⟨rfl, trivial⟩
    refine e_then ?_
    refine wp_ret ?_
    obtain rfl := Option.some.inj hF
    exact f_ret1 ha rfl rfl ⟨rfl, hE24⟩
set_option maxHeartbeats 2000000 in
theorem W_laws_eqDecomp {W : World} {va0_0 : Value} {fa0_0 : List Nat} {a0_0 : (List (List Int))} (ha0_0 : Ro (Rp.sl 2 Rp.int) W fa0_0 va0_0 a0_0) {va0_1 : Value} {fa0_1 : List Nat} {a0_1 : (List (List Int))} (ha0_1 : Ro (Rp.sl 2 Rp.int) W fa0_1 va0_1 a0_1) {va1_0 : Value} {fa1_0 : List Nat} {a1_0 : (List (List Int))} (ha1_0 : Ro (Rp.sl 2 Rp.int) W fa1_0 va1_0 a1_0) {va1_1 : Value} {fa1_1 : List Nat} {a1_1 : (List (List Int))} (ha1_1 : Ro (Rp.sl 2 Rp.int) W fa1_1 va1_1 a1_1) {r : Bool} (hF : F_laws_eqDecomp a0_0 a0_1 a1_0 a1_1 = some r) :
    Calls Tryd.prog 12 [.agg #[va0_0, va0_1], .agg #[va1_0, va1_1]].toArray W (Ret fun u w' => u = .bool r ∧ Ext W w') := by
  refine f_enter Tryd.func12 rfl Tryd.ntmps12 rfl ?_
  intro a ha
  replace ha : Fr 17 [(0, (.agg #[va0_0, va0_1])), (1, (.agg #[va1_0, va1_1]))] a := ha
  have hE : Chg [] W W := Chg.refl _ _
  unfold F_laws_eqDecomp at hF
  refine wp_seq ?_
  refine wp_region_lit ?_
  refine o_box ha rfl rfl rfl ?_; clear ha a; intro b1 w2 hB3 hx4 hlo5 a ha
  have q6 := Zn.one hlo5
  have q7 := Zn.upD q6 hE
  have hE8 := Ext.trans hE hx4
  refine o_box ha rfl rfl rfl ?_; clear ha a; intro b9 w10 hB11 hx12 hlo13 a ha
  have q14 := Zn.one hlo13
  have q15 := Nq.new hB3.fpb q14
  have q16 := Nq.made1 hlo13 hB3.bi
  have q17 := Zn.upD q14 hE8
  replace hB3 := hB3.ext hx12
  have hE18 := Ext.trans hE8 hx12
  refine op_g ha rfl (g_assign rfl) ?_; clear ha a; intro a ha
  refine wpList_nil ?_
  replace ha := ha.sub (σ' := [(2, (.pointer (some ⟨b1, 0, none⟩))), (3, (.pointer (some ⟨b9, 0, none⟩)))]) ⟨rfl, rfl, trivial⟩
  refine e_then ?_
  refine wp_seq ?_
  refine wp_seq ?_
  refine wp_region_lit ?_
  refine op_g ha rfl (g_field0 st32_0 rfl) ?_; clear ha a; intro a ha
  refine op_g ha rfl (g_load Tryd.isAgg22 rfl (hB3.cell rfl)) ?_; clear ha a; intro a ha
  refine op_g ha rfl (g_field0 st32_0 rfl) ?_; clear ha a; intro a ha
  refine op_g ha rfl (g_load Tryd.isAgg22 rfl (hB11.cell rfl)) ?_; clear ha a; intro a ha
  obtain ⟨x19, hc20, hF⟩ := cal_some hF
  refine o_call ha rfl rfl Tryd.call48 (W_laws_eqInt64SS (ha0_0.ext hE18) (ha1_0.ext hE18) hc20) ?_; clear ha a; rintro v21 w22 ⟨rfl, hx23⟩ a ha
  replace hB3 := hB3.ext hx23
  replace hB11 := hB11.ext hx23
  have hE24 := Ext.trans hE18 hx23
  refine op_g ha rfl (g_not rfl) ?_; clear ha a; intro a ha
  refine wpList_nil ?_
  replace ha := ha.sub (σ' := [(2, (.pointer (some ⟨b1, 0, none⟩))), (3, (.pointer (some ⟨b9, 0, none⟩))), (10, (.bool (!x19)))]) ⟨rfl, rfl, rfl, trivial⟩
  refine e_then ?_
  refine c_cond (¬ (x19 = true)) ha rfl (n_iff (Iff.rfl)) (fun hp25 => ?_) (fun hp25 => ?_)
  · replace hF := if_t hp25 hF
    refine wp_seq ?_
    refine wp_region_lit ?_
    refine op_g ha rfl (g_assign rfl) ?_; clear ha a; intro a ha
    refine wpList_nil ?_
    replace ha := ha.sub (σ' := [(4, (.bool false))]) ⟨rfl, trivial⟩
    refine e_then ?_
    refine wp_ret ?_
    refine e_then_ret ?_
    obtain rfl := Option.some.inj hF
    exact f_ret1 ha rfl rfl ⟨rfl, hE24⟩
  · replace hF := if_f hp25 hF
    refine wp_skip ?_
    refine e_then ?_
    refine wp_seq ?_
    refine wp_seq ?_
    refine wp_region_lit ?_
    refine op_g ha rfl (g_field0 st32_1 rfl) ?_; clear ha a; intro a ha
    refine op_g ha rfl (g_load Tryd.isAgg22 rfl (hB3.cell rfl)) ?_; clear ha a; intro a ha
    refine op_g ha rfl (g_field0 st32_1 rfl) ?_; clear ha a; intro a ha
    refine op_g ha rfl (g_load Tryd.isAgg22 rfl (hB11.cell rfl)) ?_; clear ha a; intro a ha
    obtain ⟨x26, hc27, hF⟩ := cal_some hF
    refine o_call ha rfl rfl Tryd.call48 (W_laws_eqInt64SS (ha0_1.ext hE24) (ha1_1.ext hE24) hc27) ?_; clear ha a; rintro v28 w29 ⟨rfl, hx30⟩ a ha
    replace hB3 := hB3.ext hx30
    replace hB11 := hB11.ext hx30
    have hE31 := Ext.trans hE24 hx30
    refine op_g ha rfl (g_not rfl) ?_; clear ha a; intro a ha
    refine wpList_nil ?_
    replace ha := ha.sub (σ' := [(16, (.bool (!x26)))]) ⟨rfl, trivial⟩
    refine e_then ?_
    refine c_cond (¬ (x26 = true)) ha rfl (n_iff (Iff.rfl)) (fun hp32 => ?_) (fun hp32 => ?_)
    · replace hF := if_t hp32 hF
      refine wp_seq ?_
      refine wp_region_lit ?_
      refine op_g ha rfl (g_assign rfl) ?_; clear ha a; intro a ha
      refine wpList_nil ?_
      replace ha := ha.sub (σ' := [(4, (.bool false))]) ⟨rfl, trivial⟩
      refine e_then ?_
      refine wp_ret ?_
      refine e_then_ret ?_
      obtain rfl := Option.some.inj hF
      exact f_ret1 ha rfl rfl ⟨rfl, hE31⟩
    · replace hF := if_f hp32 hF
      refine wp_skip ?_
      refine e_then ?_
      refine wp_seq ?_
      refine wp_region_lit ?_
      refine op_g ha rfl (g_assign rfl) ?_; clear ha a; intro a ha
      refine wpList_nil ?_
      replace ha := ha.sub (σ' := [(4, (.bool true))]) ⟨rfl, trivial⟩
      refine e_then ?_
      refine wp_ret ?_
      obtain rfl := Option.some.inj hF
      exact f_ret1 ha rfl rfl ⟨rfl, hE31⟩
set_option maxHeartbeats 2000000 in
theorem W_laws_FnExactDecompOk {W : World} {va0_0 : Value} {fa0_0 : List Nat} {a0_0 : (List (List Int))} (ha0_0 : Ro (Rp.sl 2 Rp.int) W fa0_0 va0_0 a0_0) {va1_0 : Value} {fa1_0 : List Nat} {a1_0 : (List (List Int))} (ha1_0 : Ro (Rp.sl 2 Rp.int) W fa1_0 va1_0 a1_0) {va1_1 : Value} {fa1_1 : List Nat} {a1_1 : (List (List Int))} (ha1_1 : Ro (Rp.sl 2 Rp.int) W fa1_1 va1_1 a1_1) (hG : GT 0 W) {r : Bool} (hF : F_laws_FnExactDecompOk a0_0 a1_0 a1_1 = some r) :
    Calls Tryd.prog 3 [.agg #[va0_0], .agg #[va1_0, va1_1]].toArray W (Ret fun u w' => u = .bool r ∧ Ext W w') := by
  refine f_enter Tryd.func3 rfl Tryd.ntmps3 rfl ?_
  intro a ha
  replace ha : Fr 45 [(0, (.agg #[va0_0])), (1, (.agg #[va1_0, va1_1]))] a := ha
  have hE : Chg [] W W := Chg.refl _ _
  unfold F_laws_FnExactDecompOk at hF
  refine wp_seq ?_
  refine wp_region_lit ?_
  refine o_box ha rfl rfl rfl ?_; clear ha a; intro b1 w2 hB3 hx4 hlo5 a ha
  have q6 := Zn.one hlo5
  have q7 := Zn.upD q6 hE
  have hE8 := Ext.trans hE hx4
  refine o_box ha rfl rfl rfl ?_; clear ha a; intro b9 w10 hB11 hx12 hlo13 a ha
  have q14 := Zn.one hlo13
  have q15 := Nq.new hB3.fpb q14
  have q16 := Nq.made1 hlo13 hB3.bi
  have q17 := Zn.upD q14 hE8
  replace hB3 := hB3.ext hx12
  have hE18 := Ext.trans hE8 hx12
  refine op_g ha rfl (g_assign rfl) ?_; clear ha a; intro a ha
  refine wpList_nil ?_
  replace ha := ha.sub (σ' := [(2, (.pointer (some ⟨b1, 0, none⟩))), (3, (.pointer (some ⟨b9, 0, none⟩)))]) ⟨rfl, rfl, trivial⟩
  refine e_then ?_
  refine wp_seq ?_
  refine wp_region_lit ?_
  refine op_g ha rfl (g_assign rfl) ?_; clear ha a; intro a ha
  refine wpList_nil ?_
  refine e_then ?_
  refine wp_seq ?_
  refine wp_region_lit ?_
  refine op_g ha rfl (g_loadA (cs := [va0_0]) Tryd.isAgg24 Tryd.sizeOf24 rfl (by simp) hB3.all) ?_; clear ha a; intro a ha
  refine op_g ha rfl (g_move rfl) ?_; clear ha a; intro a ha
  obtain ⟨x19, hc20, hF⟩ := cal_some hF
  refine o_call ha rfl rfl Tryd.call5 (W_laws_szGraph (ha0_0.ext hE18) (show InI 1048576 from by decide) hc20) ?_; clear ha a; rintro v21 w22 ⟨⟨rfl, hI24⟩, hx23⟩ a ha
  replace hB3 := hB3.ext hx23
  replace hB11 := hB11.ext hx23
  have hE25 := Ext.trans hE18 hx23
  refine op_g ha rfl (g_assign rfl) ?_; clear ha a; intro a ha
  refine wpList_nil ?_
  replace ha := ha.sub (σ' := [(2, (.pointer (some ⟨b1, 0, none⟩))), (3, (.pointer (some ⟨b9, 0, none⟩))), (5, (.int .i64 x19))]) ⟨rfl, rfl, rfl, trivial⟩
  refine e_then ?_
  refine wp_seq ?_
  refine wp_seq ?_
  refine wp_region_lit ?_
  refine op_g ha rfl (g_move rfl) ?_; clear ha a; intro a ha
  refine op_g ha rfl (g_lss rfl rfl) ?_; clear ha a; intro a ha
  refine wpList_nil ?_
  replace ha := ha.sub (σ' := [(2, (.pointer (some ⟨b1, 0, none⟩))), (3, (.pointer (some ⟨b9, 0, none⟩))), (5, (.int .i64 x19)), (14, (.bool (decide (x19 < 0))))]) ⟨rfl, rfl, rfl, rfl, trivial⟩
  refine e_then ?_
  refine c_cond (x19 < 0) ha rfl (decide_eq_true_iff) (fun hp26 => ?_) (fun hp26 => ?_)
  · replace hF := if_t hp26 hF
    refine wp_seq ?_
    refine wp_region_lit ?_
    refine op_g ha rfl (g_assign rfl) ?_; clear ha a; intro a ha
    refine wpList_nil ?_
    replace ha := ha.sub (σ' := [(4, (.bool true))]) ⟨rfl, trivial⟩
    refine e_then ?_
    refine wp_ret ?_
    refine e_then_ret ?_
    obtain rfl := Option.some.inj hF
    exact f_ret1 ha rfl rfl ⟨rfl, hE25⟩
  · replace hF := if_f hp26 hF
    refine wp_skip ?_
    refine e_then ?_
    refine wp_seq ?_
    refine wp_region_lit ?_
    refine op_g ha rfl (g_loadA (cs := [va1_0, va1_1]) Tryd.isAgg26 Tryd.sizeOf26 rfl (by simp) hB11.all) ?_; clear ha a; intro a ha
    refine op_g ha rfl (g_move rfl) ?_; clear ha a; intro a ha
    obtain ⟨x27, hc28, hF⟩ := cal_some hF
    refine o_call ha rfl rfl Tryd.call6 (W_laws_szDecomp (ha1_0.ext hE25) (ha1_1.ext hE25) hI24 hc28) ?_; clear ha a; rintro v29 w30 ⟨⟨rfl, hI32⟩, hx31⟩ a ha
    replace hB3 := hB3.ext hx31
    replace hB11 := hB11.ext hx31
    have hE33 := Ext.trans hE25 hx31
    refine op_g ha rfl (g_assign rfl) ?_; clear ha a; intro a ha
    refine wpList_nil ?_
    replace ha := ha.sub (σ' := [(2, (.pointer (some ⟨b1, 0, none⟩))), (3, (.pointer (some ⟨b9, 0, none⟩))), (5, (.int .i64 x27))]) ⟨rfl, rfl, rfl, trivial⟩
    refine e_then ?_
    refine wp_seq ?_
    refine wp_seq ?_
    refine wp_region_lit ?_
    refine op_g ha rfl (g_move rfl) ?_; clear ha a; intro a ha
    refine op_g ha rfl (g_lss rfl rfl) ?_; clear ha a; intro a ha
    refine wpList_nil ?_
    replace ha := ha.sub (σ' := [(2, (.pointer (some ⟨b1, 0, none⟩))), (3, (.pointer (some ⟨b9, 0, none⟩))), (19, (.bool (decide (x27 < 0))))]) ⟨rfl, rfl, rfl, trivial⟩
    refine e_then ?_
    refine c_cond (x27 < 0) ha rfl (decide_eq_true_iff) (fun hp34 => ?_) (fun hp34 => ?_)
    · replace hF := if_t hp34 hF
      refine wp_seq ?_
      refine wp_region_lit ?_
      refine op_g ha rfl (g_assign rfl) ?_; clear ha a; intro a ha
      refine wpList_nil ?_
      replace ha := ha.sub (σ' := [(4, (.bool true))]) ⟨rfl, trivial⟩
      refine e_then ?_
      refine wp_ret ?_
      refine e_then_ret ?_
      obtain rfl := Option.some.inj hF
      exact f_ret1 ha rfl rfl ⟨rfl, hE33⟩
    · replace hF := if_f hp34 hF
      refine wp_skip ?_
      refine e_then ?_
      refine wp_seq ?_
      refine d_region [0, 1, 2, 3, 4, 5] hmix ?_
      refine u_g 0 rfl (by kernel_rfl) (want0 _) ha rfl (g_loadA (cs := [va0_0]) Tryd.isAgg24 Tryd.sizeOf24 rfl (by simp) hB3.all) ?_; clear ha a; intro a ha
      refine u_g 2 rfl (by kernel_rfl) (want0 _) ha rfl (g_loadA (cs := [va1_0, va1_1]) Tryd.isAgg26 Tryd.sizeOf26 rfl (by simp) hB11.all) ?_; clear ha a; intro a ha
      refine u_only 1 rfl (by kernel_rfl) ?_; intro w35 hx36
      replace hB3 := hB3.ext hx36
      replace hB11 := hB11.ext hx36
      have hE37 := Ext.trans hE33 hx36
      obtain ⟨x38, hc39, hF⟩ := cal_some hF
      refine o_call ha rfl rfl Tryd.call8 (W_laws_toGraph (ha0_0.ext hE37) hc39) ?_; clear ha a; rintro v40 w41 ⟨u43, b44, fs48, rfl, h45, z46, zf49, nd50, hx42⟩ a ha
      have q51 := Nq.new hB3.fpb z46
      have q52 := Nq.madeF z46 zf49 hB3.bi
      have q53 := Nq.new hB11.fpb z46
      have q54 := Nq.madeF z46 zf49 hB11.bi
      have q55 := Nf.new hB3.fpb zf49
      have q56 := Nf.new hB11.fpb zf49
      replace hB3 := hB3.ext hx42
      replace hB11 := hB11.ext hx42
      have hE57 := Ext.trans hE37 hx42
      have q58 := Zn.upD z46 hE37
      have q59 := zf_up zf49 hE37
      refine wpList_nil (e_sq ?_)
      refine ⟨fun _ => hx42, ?_⟩
      refine u_only 3 rfl (by kernel_rfl) ?_; intro w60 hx61
      replace hB3 := hB3.ext hx61
      replace hB11 := hB11.ext hx61
      replace h45 := h45.ext hx61
      have hE62 := Ext.trans hE57 hx61
      obtain ⟨x63, hc64, hF⟩ := cal_some hF
      refine o_call ha rfl rfl Tryd.call9 (W_laws_toDecomp (ha1_0.ext hE62) (ha1_1.ext hE62) hc64) ?_; clear ha a; rintro v65 w66 ⟨u68, u69, b70, fs74, b77, fs81, rfl, h71, z72, zf75, nd76, h78, z79, zf82, nd83, q84, q85, hx67⟩ a ha
      have q86 := Nq.new hB3.fpb z72
      have q87 := Nq.madeF z72 zf75 hB3.bi
      have q88 := Nq.new hB11.fpb z72
      have q89 := Nq.madeF z72 zf75 hB11.bi
      have q90 := Nq.new h45.fpb z72
      have q91 := Nq.madeF z72 zf75 h45.blt
      have q92 := Nq.new hB3.fpb z79
      have q93 := Nq.madeF z79 zf82 hB3.bi
      have q94 := Nq.new hB11.fpb z79
      have q95 := Nq.madeF z79 zf82 hB11.bi
      have q96 := Nq.new h45.fpb z79
      have q97 := Nq.madeF z79 zf82 h45.blt
      have q98 := Nf.new hB3.fpb zf75
      have q99 := Nf.new hB11.fpb zf75
      have q100 := Nf.new h45.fpb zf75
      have q101 := Nf.old z72 zf75 h45.bnd
      have q102 := Nf.new hB3.fpb zf82
      have q103 := Nf.new hB11.fpb zf82
      have q104 := Nf.new h45.fpb zf82
      have q105 := Nf.old z79 zf82 h45.bnd
      replace hB3 := hB3.ext hx67
      replace hB11 := hB11.ext hx67
      replace h45 := h45.ext hx67
      have hE106 := Ext.trans hE62 hx67
      have q107 := Zn.upD z72 hE62
      have q108 := zf_up zf75 hE62
      have q109 := Zn.upD z79 hE62
      have q110 := zf_up zf82 hE62
      refine wpList_nil (e_sq ?_)
      refine ⟨fun _ => hx67, ?_⟩
      obtain ⟨fp113, hro114, hs115⟩ := h45.roF
      obtain ⟨fp116, hro117, hs118⟩ := h71.roF
      obtain ⟨fp119, hro120, hs121⟩ := h78.roF
      obtain ⟨x122, hc123, hF⟩ := cal_some hF
      refine u_call (.bool x122) 4 rfl (by kernel_rfl) (want0 _) ha rfl rfl Tryd.call7 (fun w112 hx111 => W_spec_DecompOk (hro114.ext hx111) (hro117.ext hx111) (hro120.ext hx111) hc123) (fun _ _ _ h => ⟨h.1, h.2⟩) ?_; clear ha a; intro a ha
      refine u_g 5 rfl (by kernel_rfl) (want0 _) ha rfl (g_assign rfl) ?_; clear ha a; intro a ha
      refine u_done (by kernel_rfl) ?_; intro w124 hx125
      replace hB3 := hB3.ext hx125
      replace hB11 := hB11.ext hx125
      replace h45 := h45.ext hx125
      replace h71 := h71.ext hx125
      replace h78 := h78.ext hx125
      have hE126 := Ext.trans hE106 hx125
      replace ha := ha.sub (σ' := [(2, (.pointer (some ⟨b1, 0, none⟩))), (3, (.pointer (some ⟨b9, 0, none⟩))), (6, (.bool x122))]) ⟨rfl, rfl, rfl, trivial⟩
      refine e_then ?_
      refine wp_seq ?_
      refine wp_region_lit ?_
      refine op_g ha rfl (g_loadA (cs := [va0_0]) Tryd.isAgg24 Tryd.sizeOf24 rfl (by simp) hB3.all) ?_; clear ha a; intro a ha
      obtain ⟨x127, hc128, hF⟩ := cal_some hF
      refine o_call ha rfl rfl Tryd.call8 (W_laws_toGraph (ha0_0.ext hE126) hc128) ?_; clear ha a; rintro v129 w130 ⟨u132, b133, fs137, rfl, h134, z135, zf138, nd139, hx131⟩ a ha
      have q140 := Nq.new hB3.fpb z135
      have q141 := Nq.madeF z135 zf138 hB3.bi
      have q142 := Nq.new hB11.fpb z135
      have q143 := Nq.madeF z135 zf138 hB11.bi
      have q144 := Nf.new hB3.fpb zf138
      have q145 := Nf.new hB11.fpb zf138
      replace hB3 := hB3.ext hx131
      replace hB11 := hB11.ext hx131
      have hE146 := Ext.trans hE126 hx131
      have q147 := Zn.upD z135 hE126
      have q148 := zf_up zf138 hE126
      refine o_alloc (cs := [(.slice none 0 0)]) ha rfl Tryd.zeroValue30 rfl ?_; clear ha a; intro b149 w150 hB151 hx152 hlo153 a ha
      have q154 := Zn.one hlo153
      have q155 := Nq.new hB3.fpb q154
      have q156 := Nq.made1 hlo153 hB3.bi
      have q157 := Nq.new hB11.fpb q154
      have q158 := Nq.made1 hlo153 hB11.bi
      have q159 := Nq.new h134.fpb q154
      have q160 := Nq.made1 hlo153 h134.blt
      have q161 := Zn.upD q154 hE146
      replace hB3 := hB3.ext hx152
      replace hB11 := hB11.ext hx152
      replace h134 := h134.ext hx152
      have hE162 := Ext.trans hE146 hx152
      refine o_storeA (vs := [u132]) ha hB151 Tryd.sizeOf30 rfl rfl (by intro c hc; simp only [List.mem_cons, List.not_mem_nil, or_false] at hc; rcases hc with hc <;> subst hc <;> first | rfl | exact h134.oneC) rfl ?_; intro w163 hB164 hc165
      replace hc165 := hc165.bl
      replace hB164 : Bx w163 b149 [u132] 30 := hB164
      replace hB3 := hB3.nq hc165 q155
      replace hB11 := hB11.nq hc165 q157
      replace h134 := h134.nq hc165 q159
      have hE166 := Ext.then hE162 hc165 (Zn.bl q161)
      refine wpList_nil ?_
      replace ha := ha.sub (σ' := [(2, (.pointer (some ⟨b1, 0, none⟩))), (3, (.pointer (some ⟨b9, 0, none⟩))), (6, (.bool x122)), (7, (.pointer (some ⟨b149, 0, none⟩)))]) ⟨rfl, rfl, rfl, rfl, trivial⟩
      refine e_then ?_
      refine wp_seq ?_
      refine wp_region_lit ?_
      refine op_g ha rfl (g_loadA (cs := [va1_0, va1_1]) Tryd.isAgg26 Tryd.sizeOf26 rfl (by simp) hB11.all) ?_; clear ha a; intro a ha
      obtain ⟨x167, hc168, hF⟩ := cal_some hF
      refine o_call ha rfl rfl Tryd.call9 (W_laws_toDecomp (ha1_0.ext hE166) (ha1_1.ext hE166) hc168) ?_; clear ha a; rintro v169 w170 ⟨u172, u173, b174, fs178, b181, fs185, rfl, h175, z176, zf179, nd180, h182, z183, zf186, nd187, q188, q189, hx171⟩ a ha
      have q190 := Nq.new hB3.fpb z176
      have q191 := Nq.madeF z176 zf179 hB3.bi
      have q192 := Nq.new hB11.fpb z176
      have q193 := Nq.madeF z176 zf179 hB11.bi
      have q194 := Nq.new h134.fpb z176
      have q195 := Nq.madeF z176 zf179 h134.blt
      have q196 := Nq.new hB164.fpb z176
      have q197 := Nq.madeF z176 zf179 hB164.bi
      have q198 := Nq.new hB3.fpb z183
      have q199 := Nq.madeF z183 zf186 hB3.bi
      have q200 := Nq.new hB11.fpb z183
      have q201 := Nq.madeF z183 zf186 hB11.bi
      have q202 := Nq.new h134.fpb z183
      have q203 := Nq.madeF z183 zf186 h134.blt
      have q204 := Nq.new hB164.fpb z183
      have q205 := Nq.madeF z183 zf186 hB164.bi
      have q206 := Nf.new hB3.fpb zf179
      have q207 := Nf.new hB11.fpb zf179
      have q208 := Nf.new h134.fpb zf179
      have q209 := Nf.old z176 zf179 h134.bnd
      have q210 := Nf.new hB164.fpb zf179
      have q211 := Nf.new hB3.fpb zf186
      have q212 := Nf.new hB11.fpb zf186
      have q213 := Nf.new h134.fpb zf186
      have q214 := Nf.old z183 zf186 h134.bnd
      have q215 := Nf.new hB164.fpb zf186
      replace hB3 := hB3.ext hx171
      replace hB11 := hB11.ext hx171
      replace h134 := h134.ext hx171
      replace hB164 := hB164.ext hx171
      have hE216 := Ext.trans hE166 hx171
      have q217 := Zn.upD z176 hE166
      have q218 := zf_up zf179 hE166
      have q219 := Zn.upD z183 hE166
      have q220 := zf_up zf186 hE166
      refine o_alloc (cs := [(.slice none 0 0), (.slice none 0 0)]) ha rfl Tryd.zeroValue32 rfl ?_; clear ha a; intro b221 w222 hB223 hx224 hlo225 a ha
      have q226 := Zn.one hlo225
      have q227 := Nq.new hB3.fpb q226
      have q228 := Nq.made1 hlo225 hB3.bi
      have q229 := Nq.new hB11.fpb q226
      have q230 := Nq.made1 hlo225 hB11.bi
      have q231 := Nq.new h134.fpb q226
      have q232 := Nq.made1 hlo225 h134.blt
      have q233 := Nq.new hB164.fpb q226
      have q234 := Nq.made1 hlo225 hB164.bi
      have q235 := Nq.new h175.fpb q226
      have q236 := Nq.made1 hlo225 h175.blt
      have q237 := Nq.new h182.fpb q226
      have q238 := Nq.made1 hlo225 h182.blt
      have q239 := Zn.upD q226 hE216
      replace hB3 := hB3.ext hx224
      replace hB11 := hB11.ext hx224
      replace h134 := h134.ext hx224
      replace hB164 := hB164.ext hx224
      replace h175 := h175.ext hx224
      replace h182 := h182.ext hx224
      have hE240 := Ext.trans hE216 hx224
      refine o_storeA (vs := [u172, u173]) ha hB223 Tryd.sizeOf32 rfl rfl (by intro c hc; simp only [List.mem_cons, List.not_mem_nil, or_false] at hc; rcases hc with hc | hc <;> subst hc <;> first | rfl | exact h175.oneC | exact h182.oneC) rfl ?_; intro w241 hB242 hc243
      replace hc243 := hc243.bl
      replace hB242 : Bx w241 b221 [u172, u173] 32 := hB242
      replace hB3 := hB3.nq hc243 q227
      replace hB11 := hB11.nq hc243 q229
      replace h134 := h134.nq hc243 q231
      replace hB164 := hB164.nq hc243 q233
      replace h175 := h175.nq hc243 q235
      replace h182 := h182.nq hc243 q237
      have hE244 := Ext.then hE240 hc243 (Zn.bl q239)
      refine wpList_nil ?_
      replace ha := ha.sub (σ' := [(2, (.pointer (some ⟨b1, 0, none⟩))), (3, (.pointer (some ⟨b9, 0, none⟩))), (6, (.bool x122)), (7, (.pointer (some ⟨b149, 0, none⟩))), (8, (.pointer (some ⟨b221, 0, none⟩)))]) ⟨rfl, rfl, rfl, rfl, rfl, trivial⟩
      refine e_then ?_
      refine wp_seq ?_
      refine wp_region_lit ?_
      refine op_g ha rfl (g_loadA (cs := [u132]) Tryd.isAgg30 Tryd.sizeOf30 rfl (by simp) hB164.all) ?_; clear ha a; intro a ha
      refine op_g ha rfl (g_loadA (cs := [u172, u173]) Tryd.isAgg32 Tryd.sizeOf32 rfl (by simp) hB242.all) ?_; clear ha a; intro a ha
      obtain ⟨fp245, hro246, hs247⟩ := h134.roF
      obtain ⟨fp248, hro249, hs250⟩ := h175.roF
      obtain ⟨fp251, hro252, hs253⟩ := h182.roF
      obtain ⟨x254, hc255, hF⟩ := cal_some hF
      refine o_call ha rfl rfl Tryd.call10 (W_impl_DecompOk hro246 hro249 hro252 (hG.ext hE244) hc255) ?_; clear ha a; rintro v256 w257 ⟨rfl, hx258⟩ a ha
      replace hB3 := hB3.ext hx258
      replace hB11 := hB11.ext hx258
      replace h134 := h134.ext hx258
      replace hB164 := hB164.ext hx258
      replace h175 := h175.ext hx258
      replace h182 := h182.ext hx258
      replace hB242 := hB242.ext hx258
      have hE259 := Ext.trans hE244 hx258
      refine op_g ha rfl (g_assign rfl) ?_; clear ha a; intro a ha
      refine wpList_nil ?_
      replace ha := ha.sub (σ' := [(2, (.pointer (some ⟨b1, 0, none⟩))), (3, (.pointer (some ⟨b9, 0, none⟩))), (6, (.bool x122)), (7, (.pointer (some ⟨b149, 0, none⟩))), (8, (.pointer (some ⟨b221, 0, none⟩))), (9, (.bool x254))]) ⟨rfl, rfl, rfl, rfl, rfl, rfl, trivial⟩
      refine e_then ?_
      refine wp_seq ?_
      refine wp_seq ?_
      refine wp_region_lit ?_
      refine op_g ha rfl (g_move rfl) ?_; clear ha a; intro a ha
      refine op_g ha rfl (g_move rfl) ?_; clear ha a; intro a ha
      refine op_g ha rfl (gB_neq un4 rfl rfl) ?_; clear ha a; intro a ha
      refine wpList_nil ?_
      replace ha := ha.sub (σ' := [(2, (.pointer (some ⟨b1, 0, none⟩))), (3, (.pointer (some ⟨b9, 0, none⟩))), (7, (.pointer (some ⟨b149, 0, none⟩))), (8, (.pointer (some ⟨b221, 0, none⟩))), (34, (.bool (x254 != x122)))]) ⟨rfl, rfl, rfl, rfl, rfl, trivial⟩
      refine e_then ?_
      refine c_cond ((x254 != x122) = true) ha rfl (Iff.rfl) (fun hp260 => ?_) (fun hp260 => ?_)
      · replace hF := if_t hp260 hF
        refine wp_seq ?_
        refine wp_region_lit ?_
        refine op_g ha rfl (g_assign rfl) ?_; clear ha a; intro a ha
        refine wpList_nil ?_
        replace ha := ha.sub (σ' := [(4, (.bool false))]) ⟨rfl, trivial⟩
        refine e_then ?_
        refine wp_ret ?_
        refine e_then_ret ?_
        obtain rfl := Option.some.inj hF
        exact f_ret1 ha rfl rfl ⟨rfl, hE259⟩
      · replace hF := if_f hp260 hF
        refine wp_skip ?_
        refine e_then ?_
        refine wp_seq ?_
        refine wp_seq ?_
        refine d_region [0, 1, 2, 3, 4] hmix ?_
        refine u_g 0 rfl (by kernel_rfl) (want0 _) ha rfl (g_loadA (cs := [u132]) Tryd.isAgg30 Tryd.sizeOf30 rfl (by simp) hB164.all) ?_; clear ha a; intro a ha
        refine u_g 1 rfl (by kernel_rfl) (want0 _) ha rfl (g_loadA (cs := [va0_0]) Tryd.isAgg24 Tryd.sizeOf24 rfl (by simp) hB3.all) ?_; clear ha a; intro a ha
        refine u_only 2 rfl (by kernel_rfl) ?_; intro w261 hx262
        replace hB3 := hB3.ext hx262
        replace hB11 := hB11.ext hx262
        replace h134 := h134.ext hx262
        replace hB164 := hB164.ext hx262
        replace h175 := h175.ext hx262
        replace h182 := h182.ext hx262
        replace hB242 := hB242.ext hx262
        have hE263 := Ext.trans hE259 hx262
        obtain ⟨x264, hc265, hF⟩ := cal_some hF
        refine o_call ha rfl rfl Tryd.call8 (W_laws_toGraph (ha0_0.ext hE263) hc265) ?_; clear ha a; rintro v266 w267 ⟨u269, b270, fs274, rfl, h271, z272, zf275, nd276, hx268⟩ a ha
        have q277 := Nq.new hB3.fpb z272
        have q278 := Nq.madeF z272 zf275 hB3.bi
        have q279 := Nq.new hB11.fpb z272
        have q280 := Nq.madeF z272 zf275 hB11.bi
        have q281 := Nq.new h134.fpb z272
        have q282 := Nq.madeF z272 zf275 h134.blt
        have q283 := Nq.new hB164.fpb z272
        have q284 := Nq.madeF z272 zf275 hB164.bi
        have q285 := Nq.new h175.fpb z272
        have q286 := Nq.madeF z272 zf275 h175.blt
        have q287 := Nq.new h182.fpb z272
        have q288 := Nq.madeF z272 zf275 h182.blt
        have q289 := Nq.new hB242.fpb z272
        have q290 := Nq.madeF z272 zf275 hB242.bi
        have q291 := Nf.new hB3.fpb zf275
        have q292 := Nf.new hB11.fpb zf275
        have q293 := Nf.new h134.fpb zf275
        have q294 := Nf.old z272 zf275 h134.bnd
        have q295 := Nf.new hB164.fpb zf275
        have q296 := Nf.new h175.fpb zf275
        have q297 := Nf.old z272 zf275 h175.bnd
        have q298 := Nf.new h182.fpb zf275
        have q299 := Nf.old z272 zf275 h182.bnd
        have q300 := Nf.new hB242.fpb zf275
        replace hB3 := hB3.ext hx268
        replace hB11 := hB11.ext hx268
        replace h134 := h134.ext hx268
        replace hB164 := hB164.ext hx268
        replace h175 := h175.ext hx268
        replace h182 := h182.ext hx268
        replace hB242 := hB242.ext hx268
        have hE301 := Ext.trans hE263 hx268
        have q302 := Zn.upD z272 hE263
        have q303 := zf_up zf275 hE263
        refine wpList_nil (e_sq ?_)
        refine ⟨fun _ => hx268, ?_⟩
        obtain ⟨fp306, hro307, hs308⟩ := h134.roF
        obtain ⟨fp309, hro310, hs311⟩ := h271.roF
        obtain ⟨x312, hc313, hF⟩ := cal_some hF
        refine u_call (.bool x312) 3 rfl (by kernel_rfl) (want0 _) ha rfl rfl Tryd.call11 (fun w305 hx304 => W_laws_eqGraph (hro307.ext hx304) (hro310.ext hx304) hc313) (fun _ _ _ h => ⟨h.1, h.2⟩) ?_; clear ha a; intro a ha
        refine u_g 4 rfl (by kernel_rfl) (want0 _) ha rfl (g_not rfl) ?_; clear ha a; intro a ha
        refine u_done (by kernel_rfl) ?_; intro w314 hx315
        replace hB3 := hB3.ext hx315
        replace hB11 := hB11.ext hx315
        replace h134 := h134.ext hx315
        replace hB164 := hB164.ext hx315
        replace h175 := h175.ext hx315
        replace h182 := h182.ext hx315
        replace hB242 := hB242.ext hx315
        replace h271 := h271.ext hx315
        have hE316 := Ext.trans hE301 hx315
        replace ha := ha.sub (σ' := [(3, (.pointer (some ⟨b9, 0, none⟩))), (8, (.pointer (some ⟨b221, 0, none⟩))), (39, (.bool (!x312)))]) ⟨rfl, rfl, rfl, trivial⟩
        refine e_then ?_
        refine c_cond (¬ (x312 = true)) ha rfl (n_iff (Iff.rfl)) (fun hp317 => ?_) (fun hp317 => ?_)
        · replace hF := if_t hp317 hF
          refine wp_seq ?_
          refine wp_region_lit ?_
          refine op_g ha rfl (g_assign rfl) ?_; clear ha a; intro a ha
          refine wpList_nil ?_
          replace ha := ha.sub (σ' := [(4, (.bool false))]) ⟨rfl, trivial⟩
          refine e_then ?_
          refine wp_ret ?_
          refine e_then_ret ?_
          obtain rfl := Option.some.inj hF
          exact f_ret1 ha rfl rfl ⟨rfl, hE316⟩
        · replace hF := if_f hp317 hF
          refine wp_skip ?_
          refine e_then ?_
          refine wp_seq ?_
          refine wp_seq ?_
          refine d_region [0, 1, 2, 3, 4] hmix ?_
          refine u_g 0 rfl (by kernel_rfl) (want0 _) ha rfl (g_loadA (cs := [u172, u173]) Tryd.isAgg32 Tryd.sizeOf32 rfl (by simp) hB242.all) ?_; clear ha a; intro a ha
          refine u_g 1 rfl (by kernel_rfl) (want0 _) ha rfl (g_loadA (cs := [va1_0, va1_1]) Tryd.isAgg26 Tryd.sizeOf26 rfl (by simp) hB11.all) ?_; clear ha a; intro a ha
          refine u_only 2 rfl (by kernel_rfl) ?_; intro w318 hx319
          replace hB11 := hB11.ext hx319
          replace h175 := h175.ext hx319
          replace h182 := h182.ext hx319
          replace hB242 := hB242.ext hx319
          have hE320 := Ext.trans hE316 hx319
          obtain ⟨x321, hc322, hF⟩ := cal_some hF
          refine o_call ha rfl rfl Tryd.call9 (W_laws_toDecomp (ha1_0.ext hE320) (ha1_1.ext hE320) hc322) ?_; clear ha a; rintro v323 w324 ⟨u326, u327, b328, fs332, b335, fs339, rfl, h329, z330, zf333, nd334, h336, z337, zf340, nd341, q342, q343, hx325⟩ a ha
          have q344 := Nq.new hB11.fpb z330
          have q345 := Nq.madeF z330 zf333 hB11.bi
          have q346 := Nq.new h175.fpb z330
          have q347 := Nq.madeF z330 zf333 h175.blt
          have q348 := Nq.new h182.fpb z330
          have q349 := Nq.madeF z330 zf333 h182.blt
          have q350 := Nq.new hB242.fpb z330
          have q351 := Nq.madeF z330 zf333 hB242.bi
          have q352 := Nq.new hB11.fpb z337
          have q353 := Nq.madeF z337 zf340 hB11.bi
          have q354 := Nq.new h175.fpb z337
          have q355 := Nq.madeF z337 zf340 h175.blt
          have q356 := Nq.new h182.fpb z337
          have q357 := Nq.madeF z337 zf340 h182.blt
          have q358 := Nq.new hB242.fpb z337
          have q359 := Nq.madeF z337 zf340 hB242.bi
          have q360 := Nf.new hB11.fpb zf333
          have q361 := Nf.new h175.fpb zf333
          have q362 := Nf.old z330 zf333 h175.bnd
          have q363 := Nf.new h182.fpb zf333
          have q364 := Nf.old z330 zf333 h182.bnd
          have q365 := Nf.new hB242.fpb zf333
          have q366 := Nf.new hB11.fpb zf340
          have q367 := Nf.new h175.fpb zf340
          have q368 := Nf.old z337 zf340 h175.bnd
          have q369 := Nf.new h182.fpb zf340
          have q370 := Nf.old z337 zf340 h182.bnd
          have q371 := Nf.new hB242.fpb zf340
          replace hB11 := hB11.ext hx325
          replace h175 := h175.ext hx325
          replace h182 := h182.ext hx325
          replace hB242 := hB242.ext hx325
          have hE372 := Ext.trans hE320 hx325
          have q373 := Zn.upD z330 hE320
          have q374 := zf_up zf333 hE320
          have q375 := Zn.upD z337 hE320
          have q376 := zf_up zf340 hE320
          refine wpList_nil (e_sq ?_)
          refine ⟨fun _ => hx325, ?_⟩
          obtain ⟨fp379, hro380, hs381⟩ := h175.roF
          obtain ⟨fp382, hro383, hs384⟩ := h182.roF
          obtain ⟨fp385, hro386, hs387⟩ := h329.roF
          obtain ⟨fp388, hro389, hs390⟩ := h336.roF
          obtain ⟨x391, hc392, hF⟩ := cal_some hF
          refine u_call (.bool x391) 3 rfl (by kernel_rfl) (want0 _) ha rfl rfl Tryd.call12 (fun w378 hx377 => W_laws_eqDecomp (hro380.ext hx377) (hro383.ext hx377) (hro386.ext hx377) (hro389.ext hx377) hc392) (fun _ _ _ h => ⟨h.1, h.2⟩) ?_; clear ha a; intro a ha
          refine u_g 4 rfl (by kernel_rfl) (want0 _) ha rfl (g_not rfl) ?_; clear ha a; intro a ha
          refine u_done (by kernel_rfl) ?_; intro w393 hx394
          replace hB11 := hB11.ext hx394
          replace h175 := h175.ext hx394
          replace h182 := h182.ext hx394
          replace hB242 := hB242.ext hx394
          replace h329 := h329.ext hx394
          replace h336 := h336.ext hx394
          have hE395 := Ext.trans hE372 hx394
          replace ha := ha.sub (σ' := [(44, (.bool (!x391)))]) ⟨rfl, trivial⟩
          refine e_then ?_
          refine c_cond (¬ (x391 = true)) ha rfl (n_iff (Iff.rfl)) (fun hp396 => ?_) (fun hp396 => ?_)
          · replace hF := if_t hp396 hF
            refine wp_seq ?_
            refine wp_region_lit ?_
            refine op_g ha rfl (g_assign rfl) ?_; clear ha a; intro a ha
            refine wpList_nil ?_
            replace ha := ha.sub (σ' := [(4, (.bool false))]) ⟨rfl, trivial⟩
            refine e_then ?_
            refine wp_ret ?_
            refine e_then_ret ?_
            obtain rfl := Option.some.inj hF
            exact f_ret1 ha rfl rfl ⟨rfl, hE395⟩
          · replace hF := if_f hp396 hF
            refine wp_skip ?_
            refine e_then ?_
            refine wp_seq ?_
            refine wp_region_lit ?_
            refine op_g ha rfl (g_assign rfl) ?_; clear ha a; intro a ha
            refine wpList_nil ?_
            replace ha := ha.sub (σ' := [(4, (.bool true))]) ⟨rfl, trivial⟩
            refine e_then ?_
            refine wp_ret ?_
            obtain rfl := Option.some.inj hF
            exact f_ret1 ha rfl rfl ⟨rfl, hE395⟩
end Go.Proofs.YteblmlgidgpeaaaDoor
