/- Walks, printed by gen.py. -/
import Derived.Test.YtlbgoodonecebabF
import Derived.Test.YtlbgoodonecebabW1
import Derived.Test.YtlbgoodonecebabProg
import Derived.KernelRfl
set_option maxRecDepth 100000
namespace Go.Proofs.Ytlbgoodonecebab
open Go Go.RowKit

set_option maxHeartbeats 2000000 in
theorem W_spec_l27Longer {W : World} {va0_0 : Value} {fa0_0 : List Nat} {a0_0 : (List (List Int))} (ha0_0 : Ro (Rp.sl 2 Rp.int) W fa0_0 va0_0 a0_0) {va1 : Value} {fa1 : List Nat} {a1 : (List Int)} (ha1 : Ro Rp.int W fa1 va1 a1) {va2 : Value} {fa2 : List Nat} {a2 : (List Int)} (ha2 : Ro Rp.int W fa2 va2 a2) {r : Bool} (hF : F_spec_l27Longer a0_0 a1 a2 = some r) :
    Calls Try.prog 31 [.agg #[va0_0], va1, va2].toArray W (Ret fun u w' => u = .bool r ∧ Ext W w') := by
  refine f_enter Try.func31 rfl Try.ntmps31 rfl ?_
  intro a ha
  replace ha : Fr 63 [(0, (.agg #[va0_0])), (1, va1), (2, va2)] a := ha
  have hE : Chg [] W W := Chg.refl _ _
  unfold F_spec_l27Longer at hF
  refine wp_seq ?_
  refine wp_region_lit ?_
  refine o_box ha rfl rfl rfl ?_; clear ha a; intro b1 w2 hB3 hx4 hlo5 a ha
  have q6 := Zn.one hlo5
  have q7 := Zn.upD q6 hE
  have hE8 := Ext.trans hE hx4
  refine op_g ha rfl (g_assign rfl) ?_; clear ha a; intro a ha
  refine wpList_nil ?_
  replace ha := ha.sub (σ' := [(1, va1), (2, va2), (3, (.pointer (some ⟨b1, 0, none⟩)))]) ⟨rfl, rfl, rfl, trivial⟩
  refine e_then ?_
  refine wp_seq ?_
  refine wp_seq ?_
  refine wp_region_lit ?_
  refine op_g ha rfl (g_move rfl) ?_; clear ha a; intro a ha
  refine op_g ha rfl (g_lenR sl25.und ha2 rfl) ?_; clear ha a; intro a ha
  refine op_g ha rfl (g_lss rfl rfl) ?_; clear ha a; intro a ha
  refine op_g ha rfl (g_move rfl) ?_; clear ha a; intro a ha
  by_cases hp20 : (a2.length : Int) < 2
  · replace hF := if_t hp20 hF
    rw [show (decide ((a2.length : Int) < 2)) = true from (decide_eq_true_iff).2 hp20] at ha
    refine op_unwant ha rfl (yields ha rfl rfl) rfl ?_; clear ha a; intro a ha
    refine op_unwant ha rfl (yields ha rfl rfl) rfl ?_; clear ha a; intro a ha
    refine op_unwant ha rfl (yields ha rfl rfl) rfl ?_; clear ha a; intro a ha
    refine op_unwant ha rfl (yields ha rfl rfl) rfl ?_; clear ha a; intro a ha
    refine op_g ha rfl (g_pick rfl rfl) ?_; clear ha a; intro a ha
    refine op_g ha rfl (g_move rfl) ?_; clear ha a; intro a ha
    refine op_unwant ha rfl (yields ha rfl rfl) rfl ?_; clear ha a; intro a ha
    refine op_unwant ha rfl (yields ha rfl rfl) rfl ?_; clear ha a; intro a ha
    refine op_unwant ha rfl (yields ha rfl rfl) rfl ?_; clear ha a; intro a ha
    refine op_unwant ha rfl (yields ha rfl rfl) rfl ?_; clear ha a; intro a ha
    refine op_g ha rfl (g_pick rfl rfl) ?_; clear ha a; intro a ha
    refine wpList_nil ?_
    replace ha := ha.sub (σ' := [(1, va1), (2, va2), (23, (.bool true))]) ⟨rfl, rfl, rfl, trivial⟩
    refine e_then ?_
    refine c_true ha rfl ?_
    refine wp_seq ?_
    refine wp_region_lit ?_
    refine op_g ha rfl (g_assign rfl) ?_; clear ha a; intro a ha
    refine wpList_nil ?_
    replace ha := ha.sub (σ' := [(6, (.bool false))]) ⟨rfl, trivial⟩
    refine e_then ?_
    refine wp_ret ?_
    refine e_then_ret ?_
    obtain rfl := Option.some.inj hF
    exact f_ret1 ha rfl rfl ⟨rfl, hE8⟩
  · replace hF := if_f hp20 hF
    rw [show (decide ((a2.length : Int) < 2)) = false from b_false (decide_eq_true_iff) hp20] at ha
    refine op_want (yields ha rfl rfl) ?_
    refine op_g ha rfl (g_move rfl) ?_; clear ha a; intro a ha
    refine op_want (yields ha rfl rfl) ?_
    refine op_g ha rfl (g_lenR sl25.und ha2 rfl) ?_; clear ha a; intro a ha
    refine op_want (yields ha rfl rfl) ?_
    obtain ⟨hq21, hF⟩ := grd_some hF
    have hI22 := in_rem ha2.len hq21.1 hq21.2
    refine op_g ha rfl (g_rem rfl rfl ha2.len hq21.1 hq21.2) ?_; clear ha a; intro a ha
    refine op_want (yields ha rfl rfl) ?_
    refine op_g ha rfl (g_neq rfl rfl) ?_; clear ha a; intro a ha
    refine op_g ha rfl (g_pick rfl rfl) ?_; clear ha a; intro a ha
    refine op_g ha rfl (g_move rfl) ?_; clear ha a; intro a ha
    by_cases hp23 : ((a2.length : Int) % 2) ≠ 0
    · replace hF := if_t hp23 hF
      rw [show (decide (((a2.length : Int) % 2) ≠ 0)) = true from (decide_eq_true_iff).2 hp23] at ha
      refine op_unwant ha rfl (yields ha rfl rfl) rfl ?_; clear ha a; intro a ha
      refine op_unwant ha rfl (yields ha rfl rfl) rfl ?_; clear ha a; intro a ha
      refine op_unwant ha rfl (yields ha rfl rfl) rfl ?_; clear ha a; intro a ha
      refine op_unwant ha rfl (yields ha rfl rfl) rfl ?_; clear ha a; intro a ha
      refine op_g ha rfl (g_pick rfl rfl) ?_; clear ha a; intro a ha
      refine wpList_nil ?_
      replace ha := ha.sub (σ' := [(1, va1), (2, va2), (23, (.bool true))]) ⟨rfl, rfl, rfl, trivial⟩
      refine e_then ?_
      refine c_true ha rfl ?_
      refine wp_seq ?_
      refine wp_region_lit ?_
      refine op_g ha rfl (g_assign rfl) ?_; clear ha a; intro a ha
      refine wpList_nil ?_
      replace ha := ha.sub (σ' := [(6, (.bool false))]) ⟨rfl, trivial⟩
      refine e_then ?_
      refine wp_ret ?_
      refine e_then_ret ?_
      obtain rfl := Option.some.inj hF
      exact f_ret1 ha rfl rfl ⟨rfl, hE8⟩
    · replace hF := if_f hp23 hF
      rw [show (decide (((a2.length : Int) % 2) ≠ 0)) = false from b_false (decide_eq_true_iff) hp23] at ha
      refine op_want (yields ha rfl rfl) ?_
      refine op_g ha rfl (g_loadA (cs := [va0_0]) Try.isAgg30 Try.sizeOf30 rfl (by simp) hB3.all) ?_; clear ha a; intro a ha
      refine op_want (yields ha rfl rfl) ?_
      refine op_g ha rfl (g_move rfl) ?_; clear ha a; intro a ha
      refine op_want (yields ha rfl rfl) ?_
      obtain ⟨x24, hc25, hF⟩ := cal_some hF
      refine o_call ha rfl rfl Try.call56 (W_spec_l3Path (ha0_0.ext hE8) (ha2.ext hE8) hc25) ?_; clear ha a; rintro v26 w27 ⟨rfl, hx28⟩ a ha
      replace hB3 := hB3.ext hx28
      have hE29 := Ext.trans hE8 hx28
      refine op_want (yields ha rfl rfl) ?_
      refine op_g ha rfl (g_not rfl) ?_; clear ha a; intro a ha
      refine op_g ha rfl (g_pick rfl rfl) ?_; clear ha a; intro a ha
      refine wpList_nil ?_
      replace ha := ha.sub (σ' := [(1, va1), (2, va2), (23, (.bool (!x24)))]) ⟨rfl, rfl, rfl, trivial⟩
      refine e_then ?_
      refine c_cond (¬ (x24 = true)) ha rfl (n_iff (Iff.rfl)) (fun hp30 => ?_) (fun hp30 => ?_)
      · replace hF := if_t hp30 hF
        refine wp_seq ?_
        refine wp_region_lit ?_
        refine op_g ha rfl (g_assign rfl) ?_; clear ha a; intro a ha
        refine wpList_nil ?_
        replace ha := ha.sub (σ' := [(6, (.bool false))]) ⟨rfl, trivial⟩
        refine e_then ?_
        refine wp_ret ?_
        refine e_then_ret ?_
        obtain rfl := Option.some.inj hF
        exact f_ret1 ha rfl rfl ⟨rfl, hE29⟩
      · replace hF := if_f hp30 hF
        refine wp_skip ?_
        refine e_then ?_
        refine wp_seq ?_
        refine wp_seq ?_
        refine wp_region_lit ?_
        refine op_g ha rfl (g_assign rfl) ?_; clear ha a; intro a ha
        refine wpList_nil ?_
        replace ha := ha.sub (σ' := [(1, va1), (2, va2), (7, (.int .i64 0))]) ⟨rfl, rfl, rfl, trivial⟩
        refine e_then ?_
        obtain ⟨o332, ho333, hK334⟩ := bnd_some hF
        obtain ⟨n335, hn336⟩ := lp_some ho333; clear ho333
        refine c_loop (fun a w => Fr 63 [] a ∧ Chg [] W w ∧ o332 = .inl ()) (fun n a w => ∃ (i181 : Int), Fr 63 [(1, va1), (2, va2), (7, (.int .i64 i181))] a ∧ Chg [] W w ∧ InI i181 ∧ lpN (fun s => F_spec_l27Longer_l1 a1 a2 s) n i181 = some o332) n335 ⟨0, ha.sub ⟨rfl, rfl, rfl, trivial⟩, hE29, (show InI 0 from by decide), hn336⟩ ?_ ?_
        · rintro m340 a w180 ⟨i181, ha, hE183, hI182, hF⟩
          cases m340 with
          | zero => exact (lpN_zero hF).elim
          | succ m340 =>
            obtain ⟨z339, hF, hN338⟩ := lpN_succ hF
            have hF : F_spec_l27Longer_l1 a1 a2 i181 = some z339 := hF; unfold F_spec_l27Longer_l1 at hF
            refine wp_seq ?_
            refine wp_seq ?_
            refine wp_region_lit ?_
            refine op_g ha rfl (g_move rfl) ?_; clear ha a; intro a ha
            refine op_g ha rfl (g_move rfl) ?_; clear ha a; intro a ha
            refine op_g ha rfl (g_lenR sl25.und ha2 rfl) ?_; clear ha a; intro a ha
            refine op_g ha rfl (g_lss rfl rfl) ?_; clear ha a; intro a ha
            refine wpList_nil ?_
            replace ha := ha.sub (σ' := [(1, va1), (2, va2), (7, (.int .i64 i181)), (27, (.bool (decide (i181 < (a2.length : Int)))))]) ⟨rfl, rfl, rfl, rfl, trivial⟩
            refine e_then ?_
            refine c_cond (i181 < (a2.length : Int)) ha rfl (decide_eq_true_iff) (fun hp341 => ?_) (fun hp341 => ?_)
            · replace hF := if_t hp341 hF
              refine wp_skip ?_
              refine e_then ?_
              refine wp_seq ?_
              refine wp_block ?_
              refine wp_seq ?_
              refine wp_region_lit ?_
              refine op_g ha rfl (g_assign rfl) ?_; clear ha a; intro a ha
              refine wpList_nil ?_
              replace ha := ha.sub (σ' := [(1, va1), (2, va2), (7, (.int .i64 i181)), (8, (.int .i64 (-1)))]) ⟨rfl, rfl, rfl, rfl, trivial⟩
              refine e_then ?_
              refine wp_seq ?_
              refine wp_block ?_
              refine wp_seq ?_
              refine wp_region_lit ?_
              refine op_g ha rfl (g_move rfl) ?_; clear ha a; intro a ha
              refine op_g ha rfl (g_eql rfl rfl) ?_; clear ha a; intro a ha
              refine op_g ha rfl (g_move rfl) ?_; clear ha a; intro a ha
              by_cases hp342 : i181 = 0
              · replace hF := if_t hp342 hF
                rw [show (decide (i181 = 0)) = true from (decide_eq_true_iff).2 hp342] at ha
                refine op_unwant ha rfl (yields ha rfl rfl) rfl ?_; clear ha a; intro a ha
                refine op_unwant ha rfl (yields ha rfl rfl) rfl ?_; clear ha a; intro a ha
                refine op_unwant ha rfl (yields ha rfl rfl) rfl ?_; clear ha a; intro a ha
                refine op_unwant ha rfl (yields ha rfl rfl) rfl ?_; clear ha a; intro a ha
                refine op_unwant ha rfl (yields ha rfl rfl) rfl ?_; clear ha a; intro a ha
                refine op_g ha rfl (g_pick rfl rfl) ?_; clear ha a; intro a ha
                refine op_g ha rfl (g_assign rfl) ?_; clear ha a; intro a ha
                refine wpList_nil ?_
                replace ha := ha.sub (σ' := [(1, va1), (2, va2), (7, (.int .i64 i181)), (8, (.int .i64 (-1))), (35, (.bool true))]) ⟨rfl, rfl, rfl, rfl, rfl, trivial⟩
                refine e_then ?_
                refine c_true ha rfl ?_
                refine wp_skip ?_
                refine e_blk ?_
                refine e_then ?_
                refine wp_seq ?_
                refine wp_region_lit ?_
                refine op_g ha rfl (g_move rfl) ?_; clear ha a; intro a ha
                refine op_g ha rfl (g_move rfl) ?_; clear ha a; intro a ha
                refine op_g ha rfl (g_move rfl) ?_; clear ha a; intro a ha
                obtain ⟨x343, g344, gx345, hF⟩ := idx_some hF
                obtain ⟨p346, cs347, f348, hf349, hpb350, hat351, hr352, hi353⟩ := ha2.at g344 gx345
                obtain ⟨rfl, hI354, rfl⟩ := hr352
                refine op_g ha rfl (hi353.gives sl25 rfl rfl) ?_; clear ha a; intro a ha
                refine op_g ha rfl (g_load0 hE183 Try.isAgg2 rfl hat351.one) ?_; clear ha a; intro a ha
                obtain ⟨x355, g356, gx357, hF⟩ := idx_some hF
                obtain ⟨p358, cs359, f360, hf361, hpb362, hat363, hr364, hi365⟩ := ha1.at g356 gx357
                obtain ⟨rfl, hI366, rfl⟩ := hr364
                refine op_g ha rfl (hi365.gives sl25 rfl rfl) ?_; clear ha a; intro a ha
                refine op_g ha rfl (g_load0 hE183 Try.isAgg2 rfl hat363.one) ?_; clear ha a; intro a ha
                refine op_g ha rfl (g_move rfl) ?_; clear ha a; intro a ha
                refine op_g ha rfl (g_neq rfl rfl) ?_; clear ha a; intro a ha
                refine wpList_nil ?_
                replace ha := ha.sub (σ' := [(1, va1), (2, va2), (7, (.int .i64 i181)), (62, (.bool (decide (x355 ≠ (-1)))))]) ⟨rfl, rfl, rfl, rfl, trivial⟩
                refine e_then ?_
                refine c_cond (x355 ≠ (-1)) ha rfl (decide_eq_true_iff) (fun hp367 => ?_) (fun hp367 => ?_)
                · replace hF := if_t hp367 hF
                  refine wp_seq ?_
                  refine wp_region_lit ?_
                  refine op_g ha rfl (g_assign rfl) ?_; clear ha a; intro a ha
                  refine wpList_nil ?_
                  replace ha := ha.sub (σ' := [(6, (.bool false))]) ⟨rfl, trivial⟩
                  refine e_then ?_
                  refine wp_ret ?_
                  refine e_blk_ret ?_
                  refine e_then_ret ?_
                  refine e_lq_ret ?_
                  refine e_then_ret ?_
                  obtain rfl := Option.some.inj hF
                  have e368 := LK_inr hN338; subst e368
                  have e369 := BK_inr hK334; subst e369
                  exact f_ret1 ha rfl rfl ⟨rfl, hE183⟩
                · replace hF := if_f hp367 hF
                  refine wp_skip ?_
                  refine e_blk ?_
                  refine e_then ?_
                  refine wp_region_lit ?_
                  refine op_g ha rfl (g_move rfl) ?_; clear ha a; intro a ha
                  obtain ⟨hI370, hF⟩ := ck_some hF
                  refine op_g ha rfl (g_add rfl rfl hI370) ?_; clear ha a; intro a ha
                  refine op_g ha rfl (g_assign rfl) ?_; clear ha a; intro a ha
                  refine wpList_nil ?_
                  replace ha := ha.sub (σ' := [(1, va1), (2, va2), (7, (.int .i64 (i181 + 1)))]) ⟨rfl, rfl, rfl, trivial⟩
                  refine e_lq ?_
                  obtain rfl := Option.some.inj hF
                  exact ⟨_, Nat.lt_succ_self _, i181 + 1, ha.sub ⟨rfl, rfl, rfl, trivial⟩, hE183, hI370, hN338⟩
              · replace hF := if_f hp342 hF
                rw [show (decide (i181 = 0)) = false from b_false (decide_eq_true_iff) hp342] at ha
                refine op_want (yields ha rfl rfl) ?_
                refine op_g ha rfl (g_move rfl) ?_; clear ha a; intro a ha
                refine op_want (yields ha rfl rfl) ?_
                refine op_g ha rfl (g_move rfl) ?_; clear ha a; intro a ha
                refine op_want (yields ha rfl rfl) ?_
                refine op_g ha rfl (g_lenR sl25.und ha2 rfl) ?_; clear ha a; intro a ha
                refine op_want (yields ha rfl rfl) ?_
                obtain ⟨hI372, hF⟩ := ck_some hF
                refine op_g ha rfl (g_sub rfl rfl hI372) ?_; clear ha a; intro a ha
                refine op_want (yields ha rfl rfl) ?_
                refine op_g ha rfl (g_eql rfl rfl) ?_; clear ha a; intro a ha
                refine op_g ha rfl (g_pick rfl rfl) ?_; clear ha a; intro a ha
                refine op_g ha rfl (g_assign rfl) ?_; clear ha a; intro a ha
                refine wpList_nil ?_
                replace ha := ha.sub (σ' := [(1, va1), (2, va2), (7, (.int .i64 i181)), (8, (.int .i64 (-1))), (35, (.bool (decide (i181 = ((a2.length : Int) - 1))))), (39, (.int .i64 i181)), (40, va2), (41, (.int .i64 (a2.length : Int))), (42, (.int .i64 ((a2.length : Int) - 1))), (43, (.bool (decide (i181 = ((a2.length : Int) - 1)))))]) ⟨rfl, rfl, rfl, rfl, rfl, rfl, rfl, rfl, rfl, rfl, trivial⟩
                refine e_then ?_
                refine c_cond (i181 = ((a2.length : Int) - 1)) ha rfl (decide_eq_true_iff) (fun hp374 => ?_) (fun hp374 => ?_)
                · replace hF := if_t hp374 hF
                  refine wp_skip ?_
                  refine e_blk ?_
                  refine e_then ?_
                  refine wp_seq ?_
                  refine wp_region_lit ?_
                  refine op_g ha rfl (g_move rfl) ?_; clear ha a; intro a ha
                  refine op_g ha rfl (g_move rfl) ?_; clear ha a; intro a ha
                  refine op_g ha rfl (g_move rfl) ?_; clear ha a; intro a ha
                  obtain ⟨x375, g376, gx377, hF⟩ := idx_some hF
                  obtain ⟨p378, cs379, f380, hf381, hpb382, hat383, hr384, hi385⟩ := ha2.at g376 gx377
                  obtain ⟨rfl, hI386, rfl⟩ := hr384
                  refine op_g ha rfl (hi385.gives sl25 rfl rfl) ?_; clear ha a; intro a ha
                  refine op_g ha rfl (g_load0 hE183 Try.isAgg2 rfl hat383.one) ?_; clear ha a; intro a ha
                  obtain ⟨x387, g388, gx389, hF⟩ := idx_some hF
                  obtain ⟨p390, cs391, f392, hf393, hpb394, hat395, hr396, hi397⟩ := ha1.at g388 gx389
                  obtain ⟨rfl, hI398, rfl⟩ := hr396
                  refine op_g ha rfl (hi397.gives sl25 rfl rfl) ?_; clear ha a; intro a ha
                  refine op_g ha rfl (g_load0 hE183 Try.isAgg2 rfl hat395.one) ?_; clear ha a; intro a ha
                  refine op_g ha rfl (g_move rfl) ?_; clear ha a; intro a ha
                  refine op_g ha rfl (g_neq rfl rfl) ?_; clear ha a; intro a ha
                  refine wpList_nil ?_
                  replace ha := ha.sub (σ' := [(1, va1), (2, va2), (7, (.int .i64 i181)), (39, (.int .i64 i181)), (40, va2), (41, (.int .i64 (a2.length : Int))), (42, (.int .i64 ((a2.length : Int) - 1))), (43, (.bool (decide (i181 = ((a2.length : Int) - 1))))), (62, (.bool (decide (x387 ≠ (-1)))))]) ⟨rfl, rfl, rfl, rfl, rfl, rfl, rfl, rfl, rfl, trivial⟩
                  refine e_then ?_
                  refine c_cond (x387 ≠ (-1)) ha rfl (decide_eq_true_iff) (fun hp399 => ?_) (fun hp399 => ?_)
                  · replace hF := if_t hp399 hF
                    refine wp_seq ?_
                    refine wp_region_lit ?_
                    refine op_g ha rfl (g_assign rfl) ?_; clear ha a; intro a ha
                    refine wpList_nil ?_
                    replace ha := ha.sub (σ' := [(6, (.bool false))]) ⟨rfl, trivial⟩
                    refine e_then ?_
                    refine wp_ret ?_
                    refine e_blk_ret ?_
                    refine e_then_ret ?_
                    refine e_lq_ret ?_
                    refine e_then_ret ?_
                    obtain rfl := Option.some.inj hF
                    have e400 := LK_inr hN338; subst e400
                    have e401 := BK_inr hK334; subst e401
                    exact f_ret1 ha rfl rfl ⟨rfl, hE183⟩
                  · replace hF := if_f hp399 hF
                    refine wp_skip ?_
                    refine e_blk ?_
                    refine e_then ?_
                    refine wp_region_lit ?_
                    refine op_g ha rfl (g_move rfl) ?_; clear ha a; intro a ha
                    obtain ⟨hI402, hF⟩ := ck_some hF
                    refine op_g ha rfl (g_add rfl rfl hI402) ?_; clear ha a; intro a ha
                    refine op_g ha rfl (g_assign rfl) ?_; clear ha a; intro a ha
                    refine wpList_nil ?_
                    replace ha := ha.sub (σ' := [(1, va1), (2, va2), (7, (.int .i64 (i181 + 1))), (39, (.int .i64 i181)), (40, va2), (41, (.int .i64 (a2.length : Int))), (42, (.int .i64 ((a2.length : Int) - 1))), (43, (.bool (decide (i181 = ((a2.length : Int) - 1)))))]) ⟨rfl, rfl, rfl, rfl, rfl, rfl, rfl, rfl, trivial⟩
                    refine e_lq ?_
                    obtain rfl := Option.some.inj hF
                    exact ⟨_, Nat.lt_succ_self _, i181 + 1, ha.sub ⟨rfl, rfl, rfl, trivial⟩, hE183, hI402, hN338⟩
                · replace hF := if_f hp374 hF
                  refine wp_seq ?_
                  refine wp_region_lit ?_
                  refine op_g ha rfl (g_move rfl) ?_; clear ha a; intro a ha
                  obtain ⟨hq404, hF⟩ := grd_some hF
                  have hI405 := in_rem hI182 hq404.1 hq404.2
                  refine op_g ha rfl (g_rem rfl rfl hI182 hq404.1 hq404.2) ?_; clear ha a; intro a ha
                  refine op_g ha rfl (g_eql rfl rfl) ?_; clear ha a; intro a ha
                  refine op_g ha rfl (g_assign rfl) ?_; clear ha a; intro a ha
                  refine wpList_nil ?_
                  replace ha := ha.sub (σ' := [(1, va1), (2, va2), (7, (.int .i64 i181)), (39, (.int .i64 i181)), (40, va2), (41, (.int .i64 (a2.length : Int))), (42, (.int .i64 ((a2.length : Int) - 1))), (43, (.bool (decide (i181 = ((a2.length : Int) - 1))))), (45, (.bool (decide ((i181 % 2) = 1))))]) ⟨rfl, rfl, rfl, rfl, rfl, rfl, rfl, rfl, rfl, trivial⟩
                  refine e_then ?_
                  refine c_cond ((i181 % 2) = 1) ha rfl (decide_eq_true_iff) (fun hp406 => ?_) (fun hp406 => ?_)
                  · replace hF := if_t hp406 hF
                    refine wp_region_lit ?_
                    refine op_g ha rfl (g_move rfl) ?_; clear ha a; intro a ha
                    refine op_g ha rfl (g_move rfl) ?_; clear ha a; intro a ha
                    obtain ⟨hI407, hF⟩ := ck_some hF
                    refine op_g ha rfl (g_add rfl rfl hI407) ?_; clear ha a; intro a ha
                    obtain ⟨x409, g410, gx411, hF⟩ := idx_some hF
                    obtain ⟨p412, cs413, f414, hf415, hpb416, hat417, hr418, hi419⟩ := ha2.at g410 gx411
                    obtain ⟨rfl, hI420, rfl⟩ := hr418
                    refine op_g ha rfl (hi419.gives sl25 rfl rfl) ?_; clear ha a; intro a ha
                    refine op_g ha rfl (g_load0 hE183 Try.isAgg2 rfl hat417.one) ?_; clear ha a; intro a ha
                    refine op_g ha rfl (g_assign rfl) ?_; clear ha a; intro a ha
                    refine wpList_nil ?_
                    replace ha := ha.sub (σ' := [(1, va1), (2, va2), (7, (.int .i64 i181)), (8, (.int .i64 x409)), (39, (.int .i64 i181)), (40, va2), (41, (.int .i64 (a2.length : Int))), (42, (.int .i64 ((a2.length : Int) - 1))), (43, (.bool (decide (i181 = ((a2.length : Int) - 1)))))]) ⟨rfl, rfl, rfl, rfl, rfl, rfl, rfl, rfl, rfl, trivial⟩
                    refine e_blk ?_
                    refine e_then ?_
                    refine wp_seq ?_
                    refine wp_region_lit ?_
                    refine op_g ha rfl (g_move rfl) ?_; clear ha a; intro a ha
                    refine op_g ha rfl (g_move rfl) ?_; clear ha a; intro a ha
                    refine op_g ha rfl (g_move rfl) ?_; clear ha a; intro a ha
                    obtain ⟨x421, g422, gx423, hF⟩ := idx_some hF
                    obtain ⟨p424, cs425, f426, hf427, hpb428, hat429, hr430, hi431⟩ := ha2.at g422 gx423
                    obtain ⟨rfl, hI432, rfl⟩ := hr430
                    refine op_g ha rfl (hi431.gives sl25 rfl rfl) ?_; clear ha a; intro a ha
                    refine op_g ha rfl (g_load0 hE183 Try.isAgg2 rfl hat429.one) ?_; clear ha a; intro a ha
                    obtain ⟨x433, g434, gx435, hF⟩ := idx_some hF
                    obtain ⟨p436, cs437, f438, hf439, hpb440, hat441, hr442, hi443⟩ := ha1.at g434 gx435
                    obtain ⟨rfl, hI444, rfl⟩ := hr442
                    refine op_g ha rfl (hi443.gives sl25 rfl rfl) ?_; clear ha a; intro a ha
                    refine op_g ha rfl (g_load0 hE183 Try.isAgg2 rfl hat441.one) ?_; clear ha a; intro a ha
                    refine op_g ha rfl (g_move rfl) ?_; clear ha a; intro a ha
                    refine op_g ha rfl (g_neq rfl rfl) ?_; clear ha a; intro a ha
                    refine wpList_nil ?_
                    replace ha := ha.sub (σ' := [(1, va1), (2, va2), (7, (.int .i64 i181)), (39, (.int .i64 i181)), (40, va2), (41, (.int .i64 (a2.length : Int))), (42, (.int .i64 ((a2.length : Int) - 1))), (43, (.bool (decide (i181 = ((a2.length : Int) - 1))))), (62, (.bool (decide (x433 ≠ x409))))]) ⟨rfl, rfl, rfl, rfl, rfl, rfl, rfl, rfl, rfl, trivial⟩
                    refine e_then ?_
                    refine c_cond (x433 ≠ x409) ha rfl (decide_eq_true_iff) (fun hp445 => ?_) (fun hp445 => ?_)
                    · replace hF := if_t hp445 hF
                      refine wp_seq ?_
                      refine wp_region_lit ?_
                      refine op_g ha rfl (g_assign rfl) ?_; clear ha a; intro a ha
                      refine wpList_nil ?_
                      replace ha := ha.sub (σ' := [(6, (.bool false))]) ⟨rfl, trivial⟩
                      refine e_then ?_
                      refine wp_ret ?_
                      refine e_blk_ret ?_
                      refine e_then_ret ?_
                      refine e_lq_ret ?_
                      refine e_then_ret ?_
                      obtain rfl := Option.some.inj hF
                      have e446 := LK_inr hN338; subst e446
                      have e447 := BK_inr hK334; subst e447
                      exact f_ret1 ha rfl rfl ⟨rfl, hE183⟩
                    · replace hF := if_f hp445 hF
                      refine wp_skip ?_
                      refine e_blk ?_
                      refine e_then ?_
                      refine wp_region_lit ?_
                      refine op_g ha rfl (g_move rfl) ?_; clear ha a; intro a ha
                      obtain ⟨hI448, hF⟩ := ck_some hF
                      refine op_g ha rfl (g_add rfl rfl hI448) ?_; clear ha a; intro a ha
                      refine op_g ha rfl (g_assign rfl) ?_; clear ha a; intro a ha
                      refine wpList_nil ?_
                      replace ha := ha.sub (σ' := [(1, va1), (2, va2), (7, (.int .i64 (i181 + 1))), (39, (.int .i64 i181)), (40, va2), (41, (.int .i64 (a2.length : Int))), (42, (.int .i64 ((a2.length : Int) - 1))), (43, (.bool (decide (i181 = ((a2.length : Int) - 1)))))]) ⟨rfl, rfl, rfl, rfl, rfl, rfl, rfl, rfl, trivial⟩
                      refine e_lq ?_
                      obtain rfl := Option.some.inj hF
                      exact ⟨_, Nat.lt_succ_self _, i181 + 1, ha.sub ⟨rfl, rfl, rfl, trivial⟩, hE183, hI448, hN338⟩
                  · replace hF := if_f hp406 hF
                    refine wp_region_lit ?_
                    refine op_g ha rfl (g_move rfl) ?_; clear ha a; intro a ha
                    refine op_g ha rfl (g_move rfl) ?_; clear ha a; intro a ha
                    obtain ⟨hI450, hF⟩ := ck_some hF
                    refine op_g ha rfl (g_sub rfl rfl hI450) ?_; clear ha a; intro a ha
                    obtain ⟨x452, g453, gx454, hF⟩ := idx_some hF
                    obtain ⟨p455, cs456, f457, hf458, hpb459, hat460, hr461, hi462⟩ := ha2.at g453 gx454
                    obtain ⟨rfl, hI463, rfl⟩ := hr461
                    refine op_g ha rfl (hi462.gives sl25 rfl rfl) ?_; clear ha a; intro a ha
                    refine op_g ha rfl (g_load0 hE183 Try.isAgg2 rfl hat460.one) ?_; clear ha a; intro a ha
                    refine op_g ha rfl (g_assign rfl) ?_; clear ha a; intro a ha
                    refine wpList_nil ?_
                    replace ha := ha.sub (σ' := [(1, va1), (2, va2), (7, (.int .i64 i181)), (8, (.int .i64 x452)), (39, (.int .i64 i181)), (40, va2), (41, (.int .i64 (a2.length : Int))), (42, (.int .i64 ((a2.length : Int) - 1))), (43, (.bool (decide (i181 = ((a2.length : Int) - 1)))))]) ⟨rfl, rfl, rfl, rfl, rfl, rfl, rfl, rfl, rfl, trivial⟩
                    refine e_blk ?_
                    refine e_then ?_
                    refine wp_seq ?_
                    refine wp_region_lit ?_
                    refine op_g ha rfl (g_move rfl) ?_; clear ha a; intro a ha
                    refine op_g ha rfl (g_move rfl) ?_; clear ha a; intro a ha
                    refine op_g ha rfl (g_move rfl) ?_; clear ha a; intro a ha
                    obtain ⟨x464, g465, gx466, hF⟩ := idx_some hF
                    obtain ⟨p467, cs468, f469, hf470, hpb471, hat472, hr473, hi474⟩ := ha2.at g465 gx466
                    obtain ⟨rfl, hI475, rfl⟩ := hr473
                    refine op_g ha rfl (hi474.gives sl25 rfl rfl) ?_; clear ha a; intro a ha
                    refine op_g ha rfl (g_load0 hE183 Try.isAgg2 rfl hat472.one) ?_; clear ha a; intro a ha
                    obtain ⟨x476, g477, gx478, hF⟩ := idx_some hF
                    obtain ⟨p479, cs480, f481, hf482, hpb483, hat484, hr485, hi486⟩ := ha1.at g477 gx478
                    obtain ⟨rfl, hI487, rfl⟩ := hr485
                    refine op_g ha rfl (hi486.gives sl25 rfl rfl) ?_; clear ha a; intro a ha
                    refine op_g ha rfl (g_load0 hE183 Try.isAgg2 rfl hat484.one) ?_; clear ha a; intro a ha
                    refine op_g ha rfl (g_move rfl) ?_; clear ha a; intro a ha
                    refine op_g ha rfl (g_neq rfl rfl) ?_; clear ha a; intro a ha
                    refine wpList_nil ?_
                    replace ha := ha.sub (σ' := [(1, va1), (2, va2), (7, (.int .i64 i181)), (39, (.int .i64 i181)), (40, va2), (41, (.int .i64 (a2.length : Int))), (42, (.int .i64 ((a2.length : Int) - 1))), (43, (.bool (decide (i181 = ((a2.length : Int) - 1))))), (62, (.bool (decide (x476 ≠ x452))))]) ⟨rfl, rfl, rfl, rfl, rfl, rfl, rfl, rfl, rfl, trivial⟩
                    refine e_then ?_
                    refine c_cond (x476 ≠ x452) ha rfl (decide_eq_true_iff) (fun hp488 => ?_) (fun hp488 => ?_)
                    · replace hF := if_t hp488 hF
                      refine wp_seq ?_
                      refine wp_region_lit ?_
                      refine op_g ha rfl (g_assign rfl) ?_; clear ha a; intro a ha
                      refine wpList_nil ?_
                      replace ha := ha.sub (σ' := [(6, (.bool false))]) ⟨rfl, trivial⟩
                      refine e_then ?_
                      refine wp_ret ?_
                      refine e_blk_ret ?_
                      refine e_then_ret ?_
                      refine e_lq_ret ?_
                      refine e_then_ret ?_
                      obtain rfl := Option.some.inj hF
                      have e489 := LK_inr hN338; subst e489
                      have e490 := BK_inr hK334; subst e490
                      exact f_ret1 ha rfl rfl ⟨rfl, hE183⟩
                    · replace hF := if_f hp488 hF
                      refine wp_skip ?_
                      refine e_blk ?_
                      refine e_then ?_
                      refine wp_region_lit ?_
                      refine op_g ha rfl (g_move rfl) ?_; clear ha a; intro a ha
                      obtain ⟨hI491, hF⟩ := ck_some hF
                      refine op_g ha rfl (g_add rfl rfl hI491) ?_; clear ha a; intro a ha
                      refine op_g ha rfl (g_assign rfl) ?_; clear ha a; intro a ha
                      refine wpList_nil ?_
                      replace ha := ha.sub (σ' := [(1, va1), (2, va2), (7, (.int .i64 (i181 + 1))), (39, (.int .i64 i181)), (40, va2), (41, (.int .i64 (a2.length : Int))), (42, (.int .i64 ((a2.length : Int) - 1))), (43, (.bool (decide (i181 = ((a2.length : Int) - 1)))))]) ⟨rfl, rfl, rfl, rfl, rfl, rfl, rfl, rfl, trivial⟩
                      refine e_lq ?_
                      obtain rfl := Option.some.inj hF
                      exact ⟨_, Nat.lt_succ_self _, i181 + 1, ha.sub ⟨rfl, rfl, rfl, trivial⟩, hE183, hI491, hN338⟩
            · replace hF := if_f hp341 hF
              refine wp_exit ?_
              refine e_then_exit ?_
              refine e_lq_eq ?_
              obtain rfl := Option.some.inj hF
              exact ⟨ha.sub trivial, hE183, (LK_inr hN338).symm⟩
        · rintro a w331 ⟨ha, hE337, rfl⟩
          have hF : F_spec_l27Longer_k2 = some _ := hK334; clear hK334; unfold F_spec_l27Longer_k2 at hF
          refine e_then ?_
          refine wp_seq ?_
          refine wp_region_lit ?_
          refine op_g ha rfl (g_assign rfl) ?_; clear ha a; intro a ha
          refine wpList_nil ?_
          refine e_then ?_
          refine wp_ret ?_
          obtain rfl := Option.some.inj hF
          exact f_ret1 ha rfl rfl ⟨rfl, hE337⟩
set_option maxHeartbeats 2000000 in
theorem W_spec_SwitchedBy {W : World} {va0_0 : Value} {fa0_0 : List Nat} {a0_0 : (List (List Int))} (ha0_0 : Ro (Rp.sl 2 Rp.int) W fa0_0 va0_0 a0_0) {va1 : Value} {fa1 : List Nat} {a1 : (List (List Int))} (ha1 : Ro (Rp.sl 2 Rp.int) W fa1 va1 a1) {va2 : Value} {fa2 : List Nat} {a2 : (List Int)} (ha2 : Ro Rp.int W fa2 va2 a2) {r : ((List (List Int)) × Bool)} (hF : F_spec_SwitchedBy a0_0 a1 a2 = some r) :
    Calls Try.prog 7 [.agg #[va0_0], va1, va2].toArray W (Ret fun u w' => ∃ (u0 : Value) (u1 : Value) (b_u0 : Int) (fs_u0 : List Nat), u = .tuple #[u0, u1] ∧ Ow (Rp.sl 2 Rp.int) 25 true w' fs_u0 b_u0 u0 r.1 ∧ Zn W b_u0 ∧ (∀ k ∈ fs_u0, W.heap.size ≤ k) ∧ (bl b_u0 ++ fs_u0).Nodup ∧ u1 = .bool r.2 ∧ Ext W w') := by
  refine f_enter Try.func7 rfl Try.ntmps7 rfl ?_
  intro a ha
  replace ha : Fr 82 [(0, (.agg #[va0_0])), (1, va1), (2, va2)] a := ha
  have hE : Chg [] W W := Chg.refl _ _
  unfold F_spec_SwitchedBy at hF
  refine wp_seq ?_
  refine wp_region_lit ?_
  refine o_box ha rfl rfl rfl ?_; clear ha a; intro b1 w2 hB3 hx4 hlo5 a ha
  have q6 := Zn.one hlo5
  have q7 := Zn.upD q6 hE
  have hE8 := Ext.trans hE hx4
  refine op_g ha rfl (g_assign rfl) ?_; clear ha a; intro a ha
  refine op_g ha rfl (g_assign rfl) ?_; clear ha a; intro a ha
  refine wpList_nil ?_
  replace ha := ha.sub (σ' := [(1, va1), (2, va2), (3, (.pointer (some ⟨b1, 0, none⟩)))]) ⟨rfl, rfl, rfl, trivial⟩
  refine e_then ?_
  refine wp_seq ?_
  refine wp_region_lit ?_
  refine o_lit0 (Rp.sl 2 Rp.int) ha rfl sl22 ?_; clear ha a; intro v9 w10 h11 hx12 a ha
  obtain ⟨b14, hb14⟩ : ∃ b : Int, b = w2.heap.size := ⟨_, rfl⟩; rw [← hb14] at h11
  have q15 := zn_of hb14
  have q16 := Nq.new hB3.fpb q15
  have q17 := Nq.madeO q15 hB3.bi
  have q18 := Zn.upD q15 hE8
  replace hB3 := hB3.ext hx12
  have hE19 := Ext.trans hE8 hx12
  refine op_g ha rfl (g_assign rfl) ?_; clear ha a; intro a ha
  refine wpList_nil ?_
  replace ha := ha.sub (σ' := [(1, va1), (2, va2), (3, (.pointer (some ⟨b1, 0, none⟩))), (8, v9)]) ⟨rfl, rfl, rfl, rfl, trivial⟩
  refine e_then ?_
  refine wp_seq ?_
  refine wp_seq ?_
  refine wp_region_lit ?_
  refine op_g ha rfl (g_loadA (cs := [va0_0]) Try.isAgg30 Try.sizeOf30 rfl (by simp) hB3.all) ?_; clear ha a; intro a ha
  refine op_g ha rfl (g_move rfl) ?_; clear ha a; intro a ha
  obtain ⟨x28, hc29, hF⟩ := cal_some hF
  refine o_call ha rfl rfl Try.call29 (W_spec_MatchOk (ha0_0.ext hE19) (ha1.ext hE19) hc29) ?_; clear ha a; rintro v30 w31 ⟨rfl, hx32⟩ a ha
  replace hB3 := hB3.ext hx32
  replace h11 := h11.ext hx32
  have hE33 := Ext.trans hE19 hx32
  refine op_g ha rfl (g_not rfl) ?_; clear ha a; intro a ha
  refine op_g ha rfl (g_move rfl) ?_; clear ha a; intro a ha
  by_cases hp34 : ¬ (x28 = true)
  · replace hF := if_t hp34 hF
    rw [show (!x28) = true from (n_iff (Iff.rfl)).2 hp34] at ha
    refine op_unwant ha rfl (yields ha rfl rfl) rfl ?_; clear ha a; intro a ha
    refine op_unwant ha rfl (yields ha rfl rfl) rfl ?_; clear ha a; intro a ha
    refine op_unwant ha rfl (yields ha rfl rfl) rfl ?_; clear ha a; intro a ha
    refine op_g ha rfl (g_pick rfl rfl) ?_; clear ha a; intro a ha
    refine wpList_nil ?_
    replace ha := ha.sub (σ' := [(1, va1), (2, va2), (3, (.pointer (some ⟨b1, 0, none⟩))), (8, v9), (21, (.bool true))]) ⟨rfl, rfl, rfl, rfl, rfl, trivial⟩
    refine e_then ?_
    refine c_true ha rfl ?_
    refine wp_seq ?_
    refine wp_region_lit ?_
    refine op_g ha rfl (g_move rfl) ?_; clear ha a; intro a ha
    refine op_g ha rfl (g_assign rfl) ?_; clear ha a; intro a ha
    refine op_g ha rfl (g_assign rfl) ?_; clear ha a; intro a ha
    refine wpList_nil ?_
    replace ha := ha.sub (σ' := [(6, v9), (7, (.bool false))]) ⟨rfl, rfl, trivial⟩
    refine e_then ?_
    refine wp_ret ?_
    refine e_then_ret ?_
    obtain rfl := Option.some.inj hF
    exact f_ret2 ha rfl rfl rfl ⟨_, _, _, _, rfl, h11, q18, (zf_nil _), (bl_nodup b14), rfl, hE33⟩
  · replace hF := if_f hp34 hF
    rw [show (!x28) = false from b_false (n_iff (Iff.rfl)) hp34] at ha
    refine op_want (yields ha rfl rfl) ?_
    refine op_g ha rfl (g_move rfl) ?_; clear ha a; intro a ha
    refine op_want (yields ha rfl rfl) ?_
    refine op_g ha rfl (g_lenR sl25.und ha2 rfl) ?_; clear ha a; intro a ha
    refine op_want (yields ha rfl rfl) ?_
    refine op_g ha rfl (g_gtr rfl rfl) ?_; clear ha a; intro a ha
    refine op_g ha rfl (g_pick rfl rfl) ?_; clear ha a; intro a ha
    refine wpList_nil ?_
    replace ha := ha.sub (σ' := [(1, va1), (2, va2), (3, (.pointer (some ⟨b1, 0, none⟩))), (8, v9), (21, (.bool (decide (16 < (a2.length : Int)))))]) ⟨rfl, rfl, rfl, rfl, rfl, trivial⟩
    refine e_then ?_
    refine c_cond (16 < (a2.length : Int)) ha rfl (decide_eq_true_iff) (fun hp35 => ?_) (fun hp35 => ?_)
    · replace hF := if_t hp35 hF
      refine wp_seq ?_
      refine wp_region_lit ?_
      refine op_g ha rfl (g_move rfl) ?_; clear ha a; intro a ha
      refine op_g ha rfl (g_assign rfl) ?_; clear ha a; intro a ha
      refine op_g ha rfl (g_assign rfl) ?_; clear ha a; intro a ha
      refine wpList_nil ?_
      replace ha := ha.sub (σ' := [(6, v9), (7, (.bool false))]) ⟨rfl, rfl, trivial⟩
      refine e_then ?_
      refine wp_ret ?_
      refine e_then_ret ?_
      obtain rfl := Option.some.inj hF
      exact f_ret2 ha rfl rfl rfl ⟨_, _, _, _, rfl, h11, q18, (zf_nil _), (bl_nodup b14), rfl, hE33⟩
    · replace hF := if_f hp35 hF
      refine wp_skip ?_
      refine e_then ?_
      refine wp_seq ?_
      refine wp_region_lit ?_
      refine op_g ha rfl (g_loadA (cs := [va0_0]) Try.isAgg30 Try.sizeOf30 rfl (by simp) hB3.all) ?_; clear ha a; intro a ha
      refine op_g ha rfl (g_move rfl) ?_; clear ha a; intro a ha
      obtain ⟨x36, hc37, hF⟩ := cal_some hF
      refine o_call ha rfl rfl Try.call30 (W_spec_l27Mates (ha0_0.ext hE33) (ha1.ext hE33) hc37) ?_; clear ha a; rintro v38 w39 ⟨b41, h42, z43, hx40⟩ a ha
      have q45 := Nq.new hB3.fpb z43
      have q46 := Nq.madeO z43 hB3.bi
      have q47 := Nq.new h11.fpb z43
      have q48 := Nq.madeO z43 h11.blt
      replace hB3 := hB3.ext hx40
      replace h11 := h11.ext hx40
      have hE49 := Ext.trans hE33 hx40
      have q50 := Zn.upD z43 hE33
      refine op_g ha rfl (g_assign rfl) ?_; clear ha a; intro a ha
      refine wpList_nil ?_
      replace ha := ha.sub (σ' := [(2, va2), (3, (.pointer (some ⟨b1, 0, none⟩))), (8, v9), (9, v38)]) ⟨rfl, rfl, rfl, rfl, trivial⟩
      refine e_then ?_
      refine wp_seq ?_
      refine wp_seq ?_
      refine wp_region_lit ?_
      refine op_g ha rfl (g_loadA (cs := [va0_0]) Try.isAgg30 Try.sizeOf30 rfl (by simp) hB3.all) ?_; clear ha a; intro a ha
      refine op_g ha rfl (g_move rfl) ?_; clear ha a; intro a ha
      refine op_g ha rfl (g_move rfl) ?_; clear ha a; intro a ha
      obtain ⟨fp51, hro52, hs53⟩ := h42.roF
      obtain ⟨x54, hc55, hF⟩ := cal_some hF
      refine o_call ha rfl rfl Try.call31 (W_spec_l27Longer (ha0_0.ext hE49) hro52 (ha2.ext hE49) hc55) ?_; clear ha a; rintro v56 w57 ⟨rfl, hx58⟩ a ha
      replace hB3 := hB3.ext hx58
      replace h11 := h11.ext hx58
      replace h42 := h42.ext hx58
      have hE59 := Ext.trans hE49 hx58
      refine op_g ha rfl (g_not rfl) ?_; clear ha a; intro a ha
      refine wpList_nil ?_
      replace ha := ha.sub (σ' := [(2, va2), (3, (.pointer (some ⟨b1, 0, none⟩))), (8, v9), (9, v38), (30, (.bool (!x54)))]) ⟨rfl, rfl, rfl, rfl, rfl, trivial⟩
      refine e_then ?_
      refine c_cond (¬ (x54 = true)) ha rfl (n_iff (Iff.rfl)) (fun hp60 => ?_) (fun hp60 => ?_)
      · replace hF := if_t hp60 hF
        refine wp_seq ?_
        refine wp_region_lit ?_
        refine op_g ha rfl (g_move rfl) ?_; clear ha a; intro a ha
        refine op_g ha rfl (g_assign rfl) ?_; clear ha a; intro a ha
        refine op_g ha rfl (g_assign rfl) ?_; clear ha a; intro a ha
        refine wpList_nil ?_
        replace ha := ha.sub (σ' := [(6, v9), (7, (.bool false))]) ⟨rfl, rfl, trivial⟩
        refine e_then ?_
        refine wp_ret ?_
        refine e_then_ret ?_
        obtain rfl := Option.some.inj hF
        exact f_ret2 ha rfl rfl rfl ⟨_, _, _, _, rfl, h11, q18, (zf_nil _), (bl_nodup b14), rfl, hE59⟩
      · replace hF := if_f hp60 hF
        refine wp_skip ?_
        refine e_then ?_
        refine wp_seq ?_
        refine wp_seq ?_
        refine wp_region_lit ?_
        refine op_g ha rfl (g_assign rfl) ?_; clear ha a; intro a ha
        refine wpList_nil ?_
        replace ha := ha.sub (σ' := [(2, va2), (3, (.pointer (some ⟨b1, 0, none⟩))), (8, v9), (9, v38), (10, (.int .i64 0))]) ⟨rfl, rfl, rfl, rfl, rfl, trivial⟩
        refine e_then ?_
        obtain ⟨o389, ho390, hK391⟩ := bnd_some hF
        obtain ⟨n392, hn393⟩ := lp_some ho390; clear ho390
        refine c_loop (fun a w => ∃ (l374 : (List (List Int))) (l380 : (List Int)) (fs371 : List Nat) (v375 : Value) (b376 : Int) (v381 : Value) (b382 : Int), Fr 82 [(3, (.pointer (some ⟨b1, 0, none⟩))), (8, v375), (9, v381)] a ∧ Chg [] W w ∧ Bx w b1 [va0_0] 30 ∧ Zn W (b1 : Int) ∧ Ow (Rp.sl 2 Rp.int) 25 true w fs371 b376 v375 l374 ∧ Zn W b376 ∧ (∀ k ∈ fs371, W.heap.size ≤ k) ∧ (bl b376 ++ fs371).Nodup ∧ Ow Rp.int 2 true w [] b382 v381 l380 ∧ Zn W b382 ∧ Nq ([b1]) b376 ∧ Nq ([b1]) b382 ∧ Nq (bl b376 ++ fs371) (b1 : Int) ∧ Nq (bl b376 ++ fs371) b382 ∧ Nq (bl b382 ++ []) (b1 : Int) ∧ Nq (bl b382 ++ []) b376 ∧ o389 = .inl (l374, l380)) (fun n a w => ∃ (l218 : (List (List Int))) (l224 : (List Int)) (i227 : Int) (fs215 : List Nat) (v219 : Value) (b220 : Int) (v225 : Value) (b226 : Int), Fr 82 [(2, va2), (3, (.pointer (some ⟨b1, 0, none⟩))), (8, v219), (9, v225), (10, (.int .i64 i227))] a ∧ Chg [] W w ∧ InI i227 ∧ Bx w b1 [va0_0] 30 ∧ Zn W (b1 : Int) ∧ Ow (Rp.sl 2 Rp.int) 25 true w fs215 b220 v219 l218 ∧ Zn W b220 ∧ (∀ k ∈ fs215, W.heap.size ≤ k) ∧ (bl b220 ++ fs215).Nodup ∧ Ow Rp.int 2 true w [] b226 v225 l224 ∧ Zn W b226 ∧ Nq ([b1]) b220 ∧ Nq ([b1]) b226 ∧ Nq (bl b220 ++ fs215) (b1 : Int) ∧ Nq (bl b220 ++ fs215) b226 ∧ Nq (bl b226 ++ []) (b1 : Int) ∧ Nq (bl b226 ++ []) b220 ∧ lpN (fun s => F_spec_SwitchedBy_l1 a2 s.1 s.2.1 s.2.2) n (l218, l224, i227) = some o389) n392 ⟨([] : (List (List Int))), x36, 0, [], v9, b14, v38, b41, ha.sub ⟨rfl, rfl, rfl, rfl, rfl, trivial⟩, hE59, (show InI 0 from by decide), hB3, q7, h11, q18, (zf_nil _), (bl_nodup b14), h42, q50, q16, q45, q17, q47, q46, q48, hn393⟩ ?_ ?_
        · rintro m397 a w209 ⟨l218, l224, i227, fs215, v219, b220, v225, b226, ha, hE235, hI228, hB210, z211, h213, z214, zf216, nd217, h222, z223, q229, q230, q231, q232, q233, q234, hF⟩
          cases m397 with
          | zero => exact (lpN_zero hF).elim
          | succ m397 =>
            obtain ⟨z396, hF, hN395⟩ := lpN_succ hF
            have hF : F_spec_SwitchedBy_l1 a2 l218 l224 i227 = some z396 := hF; unfold F_spec_SwitchedBy_l1 at hF
            refine wp_seq ?_
            refine wp_seq ?_
            refine wp_region_lit ?_
            refine op_g ha rfl (g_move rfl) ?_; clear ha a; intro a ha
            refine op_g ha rfl (g_move rfl) ?_; clear ha a; intro a ha
            refine op_g ha rfl (g_lenR sl25.und ha2 rfl) ?_; clear ha a; intro a ha
            refine op_g ha rfl (g_lss rfl rfl) ?_; clear ha a; intro a ha
            refine wpList_nil ?_
            replace ha := ha.sub (σ' := [(2, va2), (3, (.pointer (some ⟨b1, 0, none⟩))), (8, v219), (9, v225), (10, (.int .i64 i227)), (35, (.bool (decide (i227 < (a2.length : Int)))))]) ⟨rfl, rfl, rfl, rfl, rfl, rfl, trivial⟩
            refine e_then ?_
            refine c_cond (i227 < (a2.length : Int)) ha rfl (decide_eq_true_iff) (fun hp398 => ?_) (fun hp398 => ?_)
            · replace hF := if_t hp398 hF
              refine wp_skip ?_
              refine e_then ?_
              refine wp_seq ?_
              refine wp_block ?_
              refine wp_seq ?_
              refine d_region [0, 1, 2, 3, 4, 5, 6, 7, 8, 9, 10] hmix ?_
              refine u_g 0 rfl (by kernel_rfl) (want0 _) ha rfl (g_move rfl) ?_; clear ha a; intro a ha
              refine u_g 1 rfl (by kernel_rfl) (want0 _) ha rfl (g_move rfl) ?_; clear ha a; intro a ha
              refine u_g 2 rfl (by kernel_rfl) (want0 _) ha rfl (g_move rfl) ?_; clear ha a; intro a ha
              obtain ⟨x399, g400, gx401, hF⟩ := idx_some hF
              obtain ⟨p402, cs403, f404, hf405, hpb406, hat407, hr408, hi409⟩ := ha2.at g400 gx401
              obtain ⟨rfl, hI410, rfl⟩ := hr408
              refine u_g 3 rfl (by kernel_rfl) (want0 _) ha rfl (hi409.gives sl25 rfl rfl) ?_; clear ha a; intro a ha
              refine u_g 4 rfl (by kernel_rfl) (want0 _) ha rfl (g_load0 hE235 Try.isAgg2 rfl hat407.one) ?_; clear ha a; intro a ha
              refine u_g 5 rfl (by kernel_rfl) (want0 _) ha rfl (g_move rfl) ?_; clear ha a; intro a ha
              refine u_g 6 rfl (by kernel_rfl) (want0 _) ha rfl (g_move rfl) ?_; clear ha a; intro a ha
              obtain ⟨hI411, hF⟩ := ck_some hF
              refine u_g 7 rfl (by kernel_rfl) (want0 _) ha rfl (g_add rfl rfl hI411) ?_; clear ha a; intro a ha
              obtain ⟨x413, g414, gx415, hF⟩ := idx_some hF
              obtain ⟨p416, cs417, f418, hf419, hpb420, hat421, hr422, hi423⟩ := ha2.at g414 gx415
              obtain ⟨rfl, hI424, rfl⟩ := hr422
              refine u_g 8 rfl (by kernel_rfl) (want0 _) ha rfl (hi423.gives sl25 rfl rfl) ?_; clear ha a; intro a ha
              refine u_g 9 rfl (by kernel_rfl) (want0 _) ha rfl (g_load0 hE235 Try.isAgg2 rfl hat421.one) ?_; clear ha a; intro a ha
              obtain ⟨x425, g426, gx427, hF⟩ := idx_some hF
              obtain ⟨p428, cs429, f430, hf431, hpb432, hat433, hr434, hi435⟩ := h222.at g426 gx427
              obtain ⟨rfl, hI436, rfl⟩ := hr434
              refine u_g 10 rfl (by kernel_rfl) (want0 _) ha rfl (hi435.gives sl25 rfl rfl) ?_; clear ha a; intro a ha
              refine u_only 11 rfl (by kernel_rfl) ?_; intro w437 hx438
              replace hB210 := hB210.ext hx438
              replace h213 := h213.ext hx438
              replace h222 := h222.ext hx438
              have hE439 := Ext.trans hE235 hx438
              refine o_storeE (f := []) (q := x413) ha Try.sizeOf2 rfl rfl rfl h222 hi435 ⟨rfl, hI424, rfl⟩ (Nq.nil _) ?_; intro w440 fs441 h442 hc443 hs444
              obtain rfl := Subst.nil hs444
              replace hB210 := hB210.nq hc443 q230
              replace h213 := h213.nq hc443 q232
              have hE445 := Ext.then hE439 hc443 (Zn.bl z223)
              refine wpList_nil (e_sq ?_)
              refine ⟨fun h => absurd h (by decide), ?_⟩
              refine u_done (by kernel_rfl) ?_; intro w446 hx447
              replace hB210 := hB210.ext hx447
              replace h213 := h213.ext hx447
              replace h442 := h442.ext hx447
              have hE448 := Ext.trans hE445 hx447
              replace ha := ha.sub (σ' := [(2, va2), (3, (.pointer (some ⟨b1, 0, none⟩))), (8, v219), (9, v225), (10, (.int .i64 i227))]) ⟨rfl, rfl, rfl, rfl, rfl, trivial⟩
              refine e_then ?_
              refine d_region [0, 1, 2, 3, 4, 5, 6, 7, 8, 9, 10] hmix ?_
              refine u_g 0 rfl (by kernel_rfl) (want0 _) ha rfl (g_move rfl) ?_; clear ha a; intro a ha
              refine u_g 1 rfl (by kernel_rfl) (want0 _) ha rfl (g_move rfl) ?_; clear ha a; intro a ha
              refine u_g 2 rfl (by kernel_rfl) (want0 _) ha rfl (g_move rfl) ?_; clear ha a; intro a ha
              obtain ⟨hI449, hF⟩ := ck_some hF
              refine u_g 3 rfl (by kernel_rfl) (want0 _) ha rfl (g_add rfl rfl hI449) ?_; clear ha a; intro a ha
              obtain ⟨x451, g452, gx453, hF⟩ := idx_some hF
              obtain ⟨p454, cs455, f456, hf457, hpb458, hat459, hr460, hi461⟩ := ha2.at g452 gx453
              obtain ⟨rfl, hI462, rfl⟩ := hr460
              refine u_g 4 rfl (by kernel_rfl) (want0 _) ha rfl (hi461.gives sl25 rfl rfl) ?_; clear ha a; intro a ha
              refine u_g 5 rfl (by kernel_rfl) (want0 _) ha rfl (g_load0 hE448 Try.isAgg2 rfl hat459.one) ?_; clear ha a; intro a ha
              refine u_g 6 rfl (by kernel_rfl) (want0 _) ha rfl (g_move rfl) ?_; clear ha a; intro a ha
              refine u_g 7 rfl (by kernel_rfl) (want0 _) ha rfl (g_move rfl) ?_; clear ha a; intro a ha
              obtain ⟨x463, g464, gx465, hF⟩ := idx_some hF
              obtain ⟨p466, cs467, f468, hf469, hpb470, hat471, hr472, hi473⟩ := ha2.at g464 gx465
              obtain ⟨rfl, hI474, rfl⟩ := hr472
              refine u_g 8 rfl (by kernel_rfl) (want0 _) ha rfl (hi473.gives sl25 rfl rfl) ?_; clear ha a; intro a ha
              refine u_g 9 rfl (by kernel_rfl) (want0 _) ha rfl (g_load0 hE448 Try.isAgg2 rfl hat471.one) ?_; clear ha a; intro a ha
              obtain ⟨x475, g476, gx477, hF⟩ := idx_some hF
              obtain ⟨p478, cs479, f480, hf481, hpb482, hat483, hr484, hi485⟩ := h442.at g476 gx477
              obtain ⟨rfl, hI486, rfl⟩ := hr484
              refine u_g 10 rfl (by kernel_rfl) (want0 _) ha rfl (hi485.gives sl25 rfl rfl) ?_; clear ha a; intro a ha
              refine u_only 11 rfl (by kernel_rfl) ?_; intro w487 hx488
              replace hB210 := hB210.ext hx488
              replace h213 := h213.ext hx488
              replace h442 := h442.ext hx488
              have hE489 := Ext.trans hE448 hx488
              refine o_storeE (f := []) (q := x463) ha Try.sizeOf2 rfl rfl rfl h442 hi485 ⟨rfl, hI474, rfl⟩ (Nq.nil _) ?_; intro w490 fs491 h492 hc493 hs494
              obtain rfl := Subst.nil hs494
              replace hB210 := hB210.nq hc493 q230
              replace h213 := h213.nq hc493 q232
              have hE495 := Ext.then hE489 hc493 (Zn.bl z223)
              refine wpList_nil (e_sq ?_)
              refine ⟨fun h => absurd h (by decide), ?_⟩
              refine u_done (by kernel_rfl) ?_; intro w496 hx497
              replace hB210 := hB210.ext hx497
              replace h213 := h213.ext hx497
              replace h492 := h492.ext hx497
              have hE498 := Ext.trans hE495 hx497
              replace ha := ha.sub (σ' := [(2, va2), (3, (.pointer (some ⟨b1, 0, none⟩))), (8, v219), (9, v225), (10, (.int .i64 i227))]) ⟨rfl, rfl, rfl, rfl, rfl, trivial⟩
              refine e_blk ?_
              refine e_then ?_
              refine wp_region_lit ?_
              refine op_g ha rfl (g_move rfl) ?_; clear ha a; intro a ha
              obtain ⟨hI499, hF⟩ := ck_some hF
              refine op_g ha rfl (g_add rfl rfl hI499) ?_; clear ha a; intro a ha
              refine op_g ha rfl (g_assign rfl) ?_; clear ha a; intro a ha
              refine wpList_nil ?_
              replace ha := ha.sub (σ' := [(2, va2), (3, (.pointer (some ⟨b1, 0, none⟩))), (8, v219), (9, v225), (10, (.int .i64 (i227 + 2)))]) ⟨rfl, rfl, rfl, rfl, rfl, trivial⟩
              refine e_lq ?_
              obtain rfl := Option.some.inj hF
              exact ⟨_, Nat.lt_succ_self _, l218, ((l224.set ((x399 : Int).toNat) x413).set ((x451 : Int).toNat) x463), i227 + 2, fs215, v219, b220, v225, b226, ha.sub ⟨rfl, rfl, rfl, rfl, rfl, trivial⟩, hE498, hI499, hB210, z211, h213, z214, zf216, nd217, h492, z223, q229, q230, q231, q232, q233, q234, hN395⟩
            · replace hF := if_f hp398 hF
              refine wp_exit ?_
              refine e_then_exit ?_
              refine e_lq_eq ?_
              obtain rfl := Option.some.inj hF
              exact ⟨l218, l224, fs215, v219, b220, v225, b226, ha.sub ⟨rfl, rfl, rfl, trivial⟩, hE235, hB210, z211, h213, z214, zf216, nd217, h222, z223, q229, q230, q231, q232, q233, q234, (LK_inr hN395).symm⟩
        · rintro a w365 ⟨l374, l380, fs371, v375, b376, v381, b382, ha, hE394, hB366, z367, h369, z370, zf372, nd373, h378, z379, q383, q384, q385, q386, q387, q388, rfl⟩
          have hF : F_spec_SwitchedBy_k2 a0_0 l374 l380 = some _ := hK391; clear hK391; unfold F_spec_SwitchedBy_k2 at hF
          refine e_then ?_
          refine wp_seq ?_
          refine wp_seq ?_
          refine wp_region_lit ?_
          refine op_g ha rfl (g_assign rfl) ?_; clear ha a; intro a ha
          refine wpList_nil ?_
          replace ha := ha.sub (σ' := [(3, (.pointer (some ⟨b1, 0, none⟩))), (8, v375), (9, v381), (11, (.int .i64 0))]) ⟨rfl, rfl, rfl, rfl, trivial⟩
          refine e_then ?_
          obtain ⟨o778, ho779, hK780⟩ := bnd_some hF
          obtain ⟨n781, hn782⟩ := lp_some ho779; clear ho779
          refine c_loop (fun a w => ∃ (l775 : (List (List Int))) (fs772 : List Nat) (v776 : Value) (b777 : Int), Fr 82 [(8, v776)] a ∧ Chg [] W w ∧ Ow (Rp.sl 2 Rp.int) 25 true w fs772 b777 v776 l775 ∧ Zn W b777 ∧ (∀ k ∈ fs772, W.heap.size ≤ k) ∧ (bl b777 ++ fs772).Nodup ∧ o778 = .inl l775) (fun n a w => ∃ (l641 : (List (List Int))) (i647 : Int) (fs638 : List Nat) (v642 : Value) (b643 : Int), Fr 82 [(3, (.pointer (some ⟨b1, 0, none⟩))), (8, v642), (9, v381), (11, (.int .i64 i647))] a ∧ Chg [] W w ∧ InI i647 ∧ Bx w b1 [va0_0] 30 ∧ Zn W (b1 : Int) ∧ Ow (Rp.sl 2 Rp.int) 25 true w fs638 b643 v642 l641 ∧ Zn W b643 ∧ (∀ k ∈ fs638, W.heap.size ≤ k) ∧ (bl b643 ++ fs638).Nodup ∧ Ow Rp.int 2 true w [] b382 v381 l380 ∧ Zn W b382 ∧ Nq ([b1]) b643 ∧ Nq ([b1]) b382 ∧ Nq (bl b643 ++ fs638) (b1 : Int) ∧ Nq (bl b643 ++ fs638) b382 ∧ Nq (bl b382 ++ []) (b1 : Int) ∧ Nq (bl b382 ++ []) b643 ∧ lpN (fun s => F_spec_SwitchedBy_l3 a0_0 l380 s.1 s.2) n (l641, i647) = some o778) n781 ⟨l374, 0, fs371, v375, b376, ha.sub ⟨rfl, rfl, rfl, rfl, trivial⟩, hE394, (show InI 0 from by decide), hB366, z367, h369, z370, zf372, nd373, h378, z379, q383, q384, q385, q386, q387, q388, hn782⟩ ?_ ?_
          · rintro m786 a w632 ⟨l641, i647, fs638, v642, b643, ha, hE655, hI648, hB633, z634, h636, z637, zf639, nd640, h645, z646, q649, q650, q651, q652, q653, q654, hF⟩
            cases m786 with
            | zero => exact (lpN_zero hF).elim
            | succ m786 =>
              obtain ⟨z785, hF, hN784⟩ := lpN_succ hF
              have hF : F_spec_SwitchedBy_l3 a0_0 l380 l641 i647 = some z785 := hF; unfold F_spec_SwitchedBy_l3 at hF
              refine wp_seq ?_
              refine wp_seq ?_
              refine wp_region_lit ?_
              refine op_g ha rfl (g_move rfl) ?_; clear ha a; intro a ha
              refine op_g ha rfl (g_loadA (cs := [va0_0]) Try.isAgg30 Try.sizeOf30 rfl (by simp) hB633.all) ?_; clear ha a; intro a ha
              obtain ⟨x787, hc788, hF⟩ := cal_some hF
              refine o_call ha rfl rfl Try.call32 (W_spec_l1Size (ha0_0.ext hE655) hc788) ?_; clear ha a; rintro v789 w790 ⟨⟨rfl, hI792⟩, hx791⟩ a ha
              replace hB633 := hB633.ext hx791
              replace h636 := h636.ext hx791
              replace h645 := h645.ext hx791
              have hE793 := Ext.trans hE655 hx791
              refine op_g ha rfl (g_lss rfl rfl) ?_; clear ha a; intro a ha
              refine wpList_nil ?_
              replace ha := ha.sub (σ' := [(3, (.pointer (some ⟨b1, 0, none⟩))), (8, v642), (9, v381), (11, (.int .i64 i647)), (63, (.bool (decide (i647 < x787))))]) ⟨rfl, rfl, rfl, rfl, rfl, trivial⟩
              refine e_then ?_
              refine c_cond (i647 < x787) ha rfl (decide_eq_true_iff) (fun hp794 => ?_) (fun hp794 => ?_)
              · replace hF := if_t hp794 hF
                refine wp_skip ?_
                refine e_then ?_
                refine wp_seq ?_
                refine wp_block ?_
                refine wp_seq ?_
                refine wp_region_lit ?_
                refine op_g ha rfl (g_move rfl) ?_; clear ha a; intro a ha
                refine op_g ha rfl (g_move rfl) ?_; clear ha a; intro a ha
                obtain ⟨x795, g796, gx797, hF⟩ := idx_some hF
                obtain ⟨p798, cs799, f800, hf801, hpb802, hat803, hr804, hi805⟩ := h645.at g796 gx797
                obtain ⟨rfl, hI806, rfl⟩ := hr804
                refine op_g ha rfl (hi805.gives sl25 rfl rfl) ?_; clear ha a; intro a ha
                refine op_g ha rfl (g_load Try.isAgg2 rfl hat803.one) ?_; clear ha a; intro a ha
                refine op_g ha rfl (g_move rfl) ?_; clear ha a; intro a ha
                refine op_g ha rfl (g_gtr rfl rfl) ?_; clear ha a; intro a ha
                refine wpList_nil ?_
                replace ha := ha.sub (σ' := [(3, (.pointer (some ⟨b1, 0, none⟩))), (8, v642), (9, v381), (11, (.int .i64 i647)), (71, (.bool (decide (i647 < x795))))]) ⟨rfl, rfl, rfl, rfl, rfl, trivial⟩
                refine e_then ?_
                refine c_cond (i647 < x795) ha rfl (decide_eq_true_iff) (fun hp807 => ?_) (fun hp807 => ?_)
                · replace hF := if_t hp807 hF
                  refine wp_region_lit ?_
                  refine op_g ha rfl (g_move rfl) ?_; clear ha a; intro a ha
                  refine op_g ha rfl (g_move rfl) ?_; clear ha a; intro a ha
                  refine op_g ha rfl (g_move rfl) ?_; clear ha a; intro a ha
                  refine op_g ha rfl (g_move rfl) ?_; clear ha a; intro a ha
                  obtain ⟨x808, g809, gx810, hF⟩ := idx_some hF
                  obtain ⟨p811, cs812, f813, hf814, hpb815, hat816, hr817, hi818⟩ := h645.at g809 gx810
                  obtain ⟨rfl, hI819, rfl⟩ := hr817
                  refine op_g ha rfl (hi818.gives sl25 rfl rfl) ?_; clear ha a; intro a ha
                  refine op_g ha rfl (g_load Try.isAgg2 rfl hat816.one) ?_; clear ha a; intro a ha
                  have hvob824 : ∀ p ∈ ([((.int .i64 i647), [(.int .i64 i647)]), ((.int .i64 x808), [(.int .i64 x808)])] : List (Value × List Value)), p.1.cells = p.2.toArray ∧ p.2.length = 1 := by
                    intro p hp; simp only [List.mem_cons, List.not_mem_nil, or_false] at hp; rcases hp with hp | hp <;> subst hp <;> first | exact ⟨rfl, rfl⟩
                  refine o_litM (o := true) (f := []) (ps := [((.int .i64 i647), [(.int .i64 i647)]), ((.int .i64 x808), [(.int .i64 x808)])]) (ys := [i647, x808]) Rp.int ha rfl sl25 rfl rfl rfl rfl hvob824 ⟨[], [], [(.int .i64 i647)], _, rfl, rfl, ⟨rfl, hI648, rfl⟩, ⟨[], [], [(.int .i64 x808)], _, rfl, rfl, ⟨rfl, hI819, rfl⟩, ⟨rfl, rfl⟩⟩⟩ ?_; clear ha a; intro v820 w821 h822 hx823 a ha
                  obtain ⟨b825, hb825⟩ : ∃ b : Int, b = w790.heap.size := ⟨_, rfl⟩; rw [← hb825] at h822
                  have q826 := zn_of hb825
                  have q827 := Nq.new hB633.fpb q826
                  have q828 := Nq.madeO q826 hB633.bi
                  have q829 := Nq.new h636.fpb q826
                  have q830 := Nq.madeO q826 h636.blt
                  have q831 := Nq.new h645.fpb q826
                  have q832 := Nq.madeO q826 h645.blt
                  have q833 := Nf.old q826 (zf_nil _) h636.bnd
                  have q834 := Zn.upD q826 hE793
                  replace hB633 := hB633.ext hx823
                  replace h636 := h636.ext hx823
                  replace h645 := h645.ext hx823
                  have hE835 := Ext.trans hE793 hx823
                  refine o_lit1 (o := true) (y := [i647, x808]) (Rp.sl 2 Rp.int) ha rfl sl22 rfl rfl h822.cells (Rp.mkO h822) ?_; clear ha a; intro v836 w837 h838 hx839 a ha
                  obtain ⟨b841, hb841⟩ : ∃ b : Int, b = w821.heap.size := ⟨_, rfl⟩; rw [← hb841] at h838
                  have q842 := zn_of hb841
                  have q843 := zf_mv q834 (zf_nil _)
                  have q844 := dj_of q829
                  have q845 := dj_of q831
                  have q846 := Nq.new hB633.fpb q842
                  have q847 := Nq.append (Nq.madeL q842 hB633.bi) q828
                  have q848 := Nq.new h636.fpb q842
                  have q849 := Nq.append (Nq.madeL q842 h636.blt) q830
                  have q850 := Nq.new h645.fpb q842
                  have q851 := Nq.append (Nq.madeL q842 h645.blt) q832
                  have q852 := Zn.upD q842 hE835
                  have q853 := nd_lit (bl_nodup b825) h822.fpb hb841
                  replace hB633 := hB633.ext hx839
                  replace h636 := h636.ext hx839
                  replace h645 := h645.ext hx839
                  have hE854 := Ext.trans hE835 hx839
                  obtain ⟨hl855, hF⟩ := app_some hF
                  have q856 := Nq.right q849
                  refine o_append ha rfl sl22 rfl rfl rfl h636 h838.src q856 hl855 ?_; clear ha a; intro v857 w858 b859 h860 hc861 hb862 a ha
                  replace h860 : Ow (Rp.sl 2 Rp.int) 25 true w858 (fs638 ++ (bl b825 ++ [])) b859 v857 _ := h860
                  have q864 := zf_app zf639 q843
                  have q865 := nd_app nd640 (bl_nodup b825) q844 hb862 h636.fpb h838.bnd
                  have q866 := Nq.appY q649 hB633.fpb hb862
                  have q867 := Nq.appX q651 (Nq.right q847) hb862 hB633.bi
                  have q868 := Nq.appY q654 h645.fpb hb862
                  have q869 := Nq.appX q652 (Nq.right q851) hb862 h645.blt
                  have q870 := Zn.appD z637 hb862 hE854
                  replace hB633 := hB633.nq hc861 q649
                  replace h645 := h645.nq hc861 q654
                  have hE871 := Ext.then hE854 hc861 (Zn.bl z637)
                  refine op_g ha rfl (g_assign rfl) ?_; clear ha a; intro a ha
                  refine wpList_nil ?_
                  replace ha := ha.sub (σ' := [(3, (.pointer (some ⟨b1, 0, none⟩))), (8, v857), (9, v381), (11, (.int .i64 i647))]) ⟨rfl, rfl, rfl, rfl, trivial⟩
                  refine e_blk ?_
                  refine e_then ?_
                  refine wp_region_lit ?_
                  refine op_g ha rfl (g_move rfl) ?_; clear ha a; intro a ha
                  obtain ⟨hI872, hF⟩ := ck_some hF
                  refine op_g ha rfl (g_add rfl rfl hI872) ?_; clear ha a; intro a ha
                  refine op_g ha rfl (g_assign rfl) ?_; clear ha a; intro a ha
                  refine wpList_nil ?_
                  replace ha := ha.sub (σ' := [(3, (.pointer (some ⟨b1, 0, none⟩))), (8, v857), (9, v381), (11, (.int .i64 (i647 + 1)))]) ⟨rfl, rfl, rfl, rfl, trivial⟩
                  refine e_lq ?_
                  obtain rfl := Option.some.inj hF
                  exact ⟨_, Nat.lt_succ_self _, (l641 ++ ([[i647, x808]])), i647 + 1, (fs638 ++ (bl b825 ++ [])), v857, b859, ha.sub ⟨rfl, rfl, rfl, rfl, trivial⟩, hE871, hI872, hB633, z634, h860, q870, q864, q865, h645, z646, q866, q650, q867, q869, q653, q868, hN784⟩
                · replace hF := if_f hp807 hF
                  refine wp_skip ?_
                  refine e_blk ?_
                  refine e_then ?_
                  refine wp_region_lit ?_
                  refine op_g ha rfl (g_move rfl) ?_; clear ha a; intro a ha
                  obtain ⟨hI874, hF⟩ := ck_some hF
                  refine op_g ha rfl (g_add rfl rfl hI874) ?_; clear ha a; intro a ha
                  refine op_g ha rfl (g_assign rfl) ?_; clear ha a; intro a ha
                  refine wpList_nil ?_
                  replace ha := ha.sub (σ' := [(3, (.pointer (some ⟨b1, 0, none⟩))), (8, v642), (9, v381), (11, (.int .i64 (i647 + 1)))]) ⟨rfl, rfl, rfl, rfl, trivial⟩
                  refine e_lq ?_
                  obtain rfl := Option.some.inj hF
                  exact ⟨_, Nat.lt_succ_self _, l641, i647 + 1, fs638, v642, b643, ha.sub ⟨rfl, rfl, rfl, rfl, trivial⟩, hE793, hI874, hB633, z634, h636, z637, zf639, nd640, h645, z646, q649, q650, q651, q652, q653, q654, hN784⟩
              · replace hF := if_f hp794 hF
                refine wp_exit ?_
                refine e_then_exit ?_
                refine e_lq_eq ?_
                obtain rfl := Option.some.inj hF
                exact ⟨l641, fs638, v642, b643, ha.sub ⟨rfl, trivial⟩, hE793, h636, z637, zf639, nd640, (LK_inr hN784).symm⟩
          · rintro a w768 ⟨l775, fs772, v776, b777, ha, hE783, h770, z771, zf773, nd774, rfl⟩
            have hF : F_spec_SwitchedBy_k4 l775 = some _ := hK780; clear hK780; unfold F_spec_SwitchedBy_k4 at hF
            refine e_then ?_
            refine wp_seq ?_
            refine wp_region_lit ?_
            refine op_g ha rfl (g_move rfl) ?_; clear ha a; intro a ha
            refine op_g ha rfl (g_assign rfl) ?_; clear ha a; intro a ha
            refine op_g ha rfl (g_assign rfl) ?_; clear ha a; intro a ha
            refine wpList_nil ?_
            replace ha := ha.sub (σ' := [(6, v776), (7, (.bool true))]) ⟨rfl, rfl, trivial⟩
            refine e_then ?_
            refine wp_ret ?_
            obtain rfl := Option.some.inj hF
            exact f_ret2 ha rfl rfl rfl ⟨_, _, _, _, rfl, h770, z771, zf773, nd774, rfl, hE783⟩
set_option maxHeartbeats 2000000 in
theorem W_impl_inRange {W : World} {a0 : Int} (ha0 : InI a0) {a1 : Int} (ha1 : InI a1) {a2 : Int} (ha2 : InI a2) {r : Bool} (hF : F_impl_inRange a0 a1 a2 = some r) :
    Calls Try.prog 39 [.int .i64 a0, .int .i64 a1, .int .i64 a2].toArray W (Ret fun u w' => u = .bool r ∧ Ext W w') := by
  refine f_enter Try.func39 rfl Try.ntmps39 rfl ?_
  intro a ha
  replace ha : Fr 15 [(0, (.int .i64 a0)), (1, (.int .i64 a1)), (2, (.int .i64 a2))] a := ha
  have hE : Chg [] W W := Chg.refl _ _
  unfold F_impl_inRange at hF
  refine wp_seq ?_
  refine wp_region_lit ?_
  refine op_g ha rfl (g_assign rfl) ?_; clear ha a; intro a ha
  refine wpList_nil ?_
  replace ha := ha.sub (σ' := [(0, (.int .i64 a0)), (1, (.int .i64 a1)), (2, (.int .i64 a2))]) ⟨rfl, rfl, rfl, trivial⟩
  refine e_then ?_
  refine wp_seq ?_
  refine wp_region_lit ?_
  refine op_g ha rfl (g_move rfl) ?_; clear ha a; intro a ha
  refine op_g ha rfl (g_move rfl) ?_; clear ha a; intro a ha
  refine op_g ha rfl (g_leq rfl rfl) ?_; clear ha a; intro a ha
  refine op_g ha rfl (g_move rfl) ?_; clear ha a; intro a ha
  by_cases hp1 : a1 ≤ a0
  · replace hF := if_t hp1 hF
    rw [show (decide (a1 ≤ a0)) = true from (decide_eq_true_iff).2 hp1] at ha
    refine op_want (yields ha rfl rfl) ?_
    refine op_g ha rfl (g_move rfl) ?_; clear ha a; intro a ha
    refine op_want (yields ha rfl rfl) ?_
    refine op_g ha rfl (g_move rfl) ?_; clear ha a; intro a ha
    refine op_want (yields ha rfl rfl) ?_
    refine op_g ha rfl (g_leq rfl rfl) ?_; clear ha a; intro a ha
    refine op_g ha rfl (g_pick rfl rfl) ?_; clear ha a; intro a ha
    refine op_g ha rfl (g_assign rfl) ?_; clear ha a; intro a ha
    refine wpList_nil ?_
    replace ha := ha.sub (σ' := [(6, (.bool (decide (a0 ≤ a2))))]) ⟨rfl, trivial⟩
    refine e_then ?_
    refine wp_ret ?_
    obtain rfl := Option.some.inj hF
    exact f_ret1 ha rfl rfl ⟨rfl, hE⟩
  · replace hF := if_f hp1 hF
    rw [show (decide (a1 ≤ a0)) = false from b_false (decide_eq_true_iff) hp1] at ha
    refine op_unwant ha rfl (yields ha rfl rfl) rfl ?_; clear ha a; intro a ha
    refine op_unwant ha rfl (yields ha rfl rfl) rfl ?_; clear ha a; intro a ha
    refine op_unwant ha rfl (yields ha rfl rfl) rfl ?_; clear ha a; intro a ha
    refine op_g ha rfl (g_pick rfl rfl) ?_; clear ha a; intro a ha
    refine op_g ha rfl (g_assign rfl) ?_; clear ha a; intro a ha
    refine wpList_nil ?_
    replace ha := ha.sub (σ' := [(6, (.bool false))]) ⟨rfl, trivial⟩
    refine e_then ?_
    refine wp_ret ?_
    obtain rfl := Option.some.inj hF
    exact f_ret1 ha rfl rfl ⟨rfl, hE⟩
set_option maxHeartbeats 2000000 in
theorem W_impl_increasing {W : World} {va0 : Value} {fa0 : List Nat} {a0 : (List Int)} (ha0 : Ro Rp.int W fa0 va0 a0) {a1 : Int} (ha1 : InI a1) {r : Bool} (hF : F_impl_increasing a0 a1 = some r) :
    Calls Try.prog 70 [va0, .int .i64 a1].toArray W (Ret fun u w' => u = .bool r ∧ Ext W w') := by
  refine f_enter Try.func70 rfl Try.ntmps70 rfl ?_
  intro a ha
  replace ha : Fr 33 [(0, va0), (1, (.int .i64 a1))] a := ha
  have hE : Chg [] W W := Chg.refl _ _
  unfold F_impl_increasing at hF
  refine wp_seq ?_
  refine wp_region_lit ?_
  refine op_g ha rfl (g_assign rfl) ?_; clear ha a; intro a ha
  refine wpList_nil ?_
  replace ha := ha.sub (σ' := [(0, va0), (1, (.int .i64 a1))]) ⟨rfl, rfl, trivial⟩
  refine e_then ?_
  refine wp_seq ?_
  refine wp_seq ?_
  refine wp_region_lit ?_
  refine op_g ha rfl (g_move rfl) ?_; clear ha a; intro a ha
  refine op_g ha rfl (g_lenR sl25.und ha0 rfl) ?_; clear ha a; intro a ha
  refine op_g ha rfl (g_move rfl) ?_; clear ha a; intro a ha
  refine wpList_nil ?_
  replace ha := ha.sub (σ' := [(0, va0), (1, (.int .i64 a1)), (7, va0), (8, (.int .i64 (a0.length : Int))), (9, (.int .i64 0))]) ⟨rfl, rfl, rfl, rfl, rfl, trivial⟩
  refine e_then ?_
  obtain ⟨o98, ho99, hK100⟩ := bnd_some hF
  obtain ⟨n101, hn102⟩ := lp_some ho99; clear ho99
  refine c_loop (fun a w => Fr 33 [] a ∧ Chg [] W w ∧ o98 = .inl ()) (fun n a w => ∃ (i49 : Int), Fr 33 [(0, va0), (1, (.int .i64 a1)), (7, va0), (8, (.int .i64 (a0.length : Int))), (9, (.int .i64 i49))] a ∧ Chg [] W w ∧ InI i49 ∧ lpN (fun s => F_impl_increasing_l1 a0 a1 s) n i49 = some o98) n101 ⟨0, ha.sub ⟨rfl, rfl, rfl, rfl, rfl, trivial⟩, hE, (show InI 0 from by decide), hn102⟩ ?_ ?_
  · rintro m106 a w48 ⟨i49, ha, hE51, hI50, hF⟩
    cases m106 with
    | zero => exact (lpN_zero hF).elim
    | succ m106 =>
      obtain ⟨z105, hF, hN104⟩ := lpN_succ hF
      have hF : F_impl_increasing_l1 a0 a1 i49 = some z105 := hF; unfold F_impl_increasing_l1 at hF
      refine wp_seq ?_
      refine wp_region_lit ?_
      refine op_g ha rfl (g_lss rfl rfl) ?_; clear ha a; intro a ha
      refine wpList_nil ?_
      replace ha := ha.sub (σ' := [(0, va0), (1, (.int .i64 a1)), (7, va0), (8, (.int .i64 (a0.length : Int))), (9, (.int .i64 i49)), (10, (.bool (decide (i49 < (a0.length : Int)))))]) ⟨rfl, rfl, rfl, rfl, rfl, rfl, trivial⟩
      refine e_then ?_
      refine wp_seq ?_
      refine c_cond (i49 < (a0.length : Int)) ha rfl (decide_eq_true_iff) (fun hp107 => ?_) (fun hp107 => ?_)
      · replace hF := if_t hp107 hF
        refine wp_skip ?_
        refine e_then ?_
        refine wp_seq ?_
        refine wp_block ?_
        refine wp_seq ?_
        refine wp_region_lit ?_
        refine op_g ha rfl (g_move rfl) ?_; clear ha a; intro a ha
        obtain ⟨x108, g109, gx110, hF⟩ := idx_some hF
        obtain ⟨p111, cs112, f113, hf114, hpb115, hat116, hr117, hi118⟩ := ha0.at g109 gx110
        obtain ⟨rfl, hI119, rfl⟩ := hr117
        refine op_g ha rfl (hi118.gives sl25 rfl rfl) ?_; clear ha a; intro a ha
        refine op_g ha rfl (g_load0 hE51 Try.isAgg2 rfl hat116.one) ?_; clear ha a; intro a ha
        refine op_g ha rfl (g_assign rfl) ?_; clear ha a; intro a ha
        refine op_g ha rfl (g_assign rfl) ?_; clear ha a; intro a ha
        refine wpList_nil ?_
        replace ha := ha.sub (σ' := [(0, va0), (1, (.int .i64 a1)), (5, (.int .i64 i49)), (6, (.int .i64 x108)), (7, va0), (8, (.int .i64 (a0.length : Int))), (9, (.int .i64 i49))]) ⟨rfl, rfl, rfl, rfl, rfl, rfl, rfl, trivial⟩
        refine e_then ?_
        refine wp_seq ?_
        refine wp_region_lit ?_
        refine op_g ha rfl (g_move rfl) ?_; clear ha a; intro a ha
        refine op_g ha rfl (g_move rfl) ?_; clear ha a; intro a ha
        obtain ⟨hI120, hF⟩ := ck_some hF
        refine op_g ha rfl (g_sub rfl rfl hI120) ?_; clear ha a; intro a ha
        obtain ⟨x122, hc123, hF⟩ := cal_some hF
        refine o_call ha rfl rfl Try.call39 (W_impl_inRange hI119 (show InI 0 from by decide) hI120 hc123) ?_; clear ha a; rintro v124 w125 ⟨rfl, hx126⟩ a ha
        have hE127 := Ext.trans hE51 hx126
        refine op_g ha rfl (g_not rfl) ?_; clear ha a; intro a ha
        refine op_g ha rfl (g_move rfl) ?_; clear ha a; intro a ha
        by_cases hp128 : ¬ (x122 = true)
        · replace hF := if_t hp128 hF
          rw [show (!x122) = true from (n_iff (Iff.rfl)).2 hp128] at ha
          refine op_unwant ha rfl (yields ha rfl rfl) rfl ?_; clear ha a; intro a ha
          refine op_unwant ha rfl (yields ha rfl rfl) rfl ?_; clear ha a; intro a ha
          refine op_unwant ha rfl (yields ha rfl rfl) rfl ?_; clear ha a; intro a ha
          refine op_unwant0 ha rfl (yields0 ha rfl rfl) ?_; clear ha a; intro a ha
          refine op_unwant0 ha rfl (yields0 ha rfl rfl) ?_; clear ha a; intro a ha
          refine op_unwant0 ha rfl (yields0 ha rfl rfl) ?_; clear ha a; intro a ha
          refine op_unwant0 ha rfl (yields0 ha rfl rfl) ?_; clear ha a; intro a ha
          refine op_unwant0 ha rfl (yields0 ha rfl rfl) ?_; clear ha a; intro a ha
          refine op_unwant0 ha rfl (yields0 ha rfl rfl) ?_; clear ha a; intro a ha
          refine op_unwant0 ha rfl (yields0 ha rfl rfl) ?_; clear ha a; intro a ha
          refine op_unwant ha rfl (yields ha rfl rfl) rfl ?_; clear ha a; intro a ha
          refine op_g ha rfl (g_pick rfl rfl) ?_; clear ha a; intro a ha
          refine wpList_nil ?_
          replace ha := ha.sub (σ' := [(0, va0), (1, (.int .i64 a1)), (7, va0), (8, (.int .i64 (a0.length : Int))), (9, (.int .i64 i49)), (31, (.bool true))]) ⟨rfl, rfl, rfl, rfl, rfl, rfl, trivial⟩
          refine e_then ?_
          refine c_true ha rfl ?_
          refine wp_seq ?_
          refine wp_region_lit ?_
          refine op_g ha rfl (g_assign rfl) ?_; clear ha a; intro a ha
          refine wpList_nil ?_
          replace ha := ha.sub (σ' := [(4, (.bool false))]) ⟨rfl, trivial⟩
          refine e_then ?_
          refine wp_ret ?_
          refine e_blk_ret ?_
          refine e_then_ret ?_
          refine e_lq_ret ?_
          refine e_then_ret ?_
          obtain rfl := Option.some.inj hF
          have e129 := LK_inr hN104; subst e129
          have e130 := BK_inr hK100; subst e130
          exact f_ret1 ha rfl rfl ⟨rfl, hE127⟩
        · replace hF := if_f hp128 hF
          rw [show (!x122) = false from b_false (n_iff (Iff.rfl)) hp128] at ha
          refine op_want (yields ha rfl rfl) ?_
          refine op_g ha rfl (g_move rfl) ?_; clear ha a; intro a ha
          refine op_want (yields ha rfl rfl) ?_
          refine op_g ha rfl (g_gtr rfl rfl) ?_; clear ha a; intro a ha
          refine op_want (yields ha rfl rfl) ?_
          refine op_g ha rfl (g_move rfl) ?_; clear ha a; intro a ha
          by_cases hp131 : 0 < i49
          · replace hF := if_t hp131 hF
            rw [show (decide (0 < i49)) = true from (decide_eq_true_iff).2 hp131] at ha
            refine op_want (yields ha rfl rfl) ?_
            refine op_g ha rfl (g_move rfl) ?_; clear ha a; intro a ha
            refine op_want (yields ha rfl rfl) ?_
            refine op_g ha rfl (g_move rfl) ?_; clear ha a; intro a ha
            refine op_want (yields ha rfl rfl) ?_
            obtain ⟨hI132, hF⟩ := ck_some hF
            refine op_g ha rfl (g_sub rfl rfl hI132) ?_; clear ha a; intro a ha
            refine op_want (yields ha rfl rfl) ?_
            obtain ⟨x134, g135, gx136, hF⟩ := idx_some hF
            obtain ⟨p137, cs138, f139, hf140, hpb141, hat142, hr143, hi144⟩ := ha0.at g135 gx136
            obtain ⟨rfl, hI145, rfl⟩ := hr143
            refine op_g ha rfl (hi144.gives sl25 rfl rfl) ?_; clear ha a; intro a ha
            refine op_want (yields ha rfl rfl) ?_
            refine op_g ha rfl (g_load0 hE127 Try.isAgg2 rfl hat142.one) ?_; clear ha a; intro a ha
            refine op_want (yields ha rfl rfl) ?_
            refine op_g ha rfl (g_move rfl) ?_; clear ha a; intro a ha
            refine op_want (yields ha rfl rfl) ?_
            refine op_g ha rfl (g_geq rfl rfl) ?_; clear ha a; intro a ha
            refine op_want (yields ha rfl rfl) ?_
            refine op_g ha rfl (g_pick rfl rfl) ?_; clear ha a; intro a ha
            refine op_g ha rfl (g_pick rfl rfl) ?_; clear ha a; intro a ha
            refine wpList_nil ?_
            replace ha := ha.sub (σ' := [(0, va0), (1, (.int .i64 a1)), (7, va0), (8, (.int .i64 (a0.length : Int))), (9, (.int .i64 i49)), (20, (.int .i64 i49)), (21, (.bool true)), (22, (.bool true)), (23, va0), (24, (.int .i64 i49)), (25, (.int .i64 (i49 - 1))), (26, (.pointer (some p137))), (27, (.int .i64 x134)), (28, (.int .i64 x108)), (29, (.bool (decide (x108 ≤ x134)))), (30, (.bool (decide (x108 ≤ x134)))), (31, (.bool (decide (x108 ≤ x134))))]) ⟨rfl, rfl, rfl, rfl, rfl, rfl, rfl, rfl, rfl, rfl, rfl, rfl, rfl, rfl, rfl, rfl, rfl, trivial⟩
            refine e_then ?_
            refine c_cond (x108 ≤ x134) ha rfl (decide_eq_true_iff) (fun hp146 => ?_) (fun hp146 => ?_)
            · replace hF := if_t hp146 hF
              refine wp_seq ?_
              refine wp_region_lit ?_
              refine op_g ha rfl (g_assign rfl) ?_; clear ha a; intro a ha
              refine wpList_nil ?_
              replace ha := ha.sub (σ' := [(4, (.bool false))]) ⟨rfl, trivial⟩
              refine e_then ?_
              refine wp_ret ?_
              refine e_blk_ret ?_
              refine e_then_ret ?_
              refine e_lq_ret ?_
              refine e_then_ret ?_
              obtain rfl := Option.some.inj hF
              have e147 := LK_inr hN104; subst e147
              have e148 := BK_inr hK100; subst e148
              exact f_ret1 ha rfl rfl ⟨rfl, hE127⟩
            · replace hF := if_f hp146 hF
              refine wp_skip ?_
              refine e_blk ?_
              refine e_then ?_
              refine wp_region_lit ?_
              obtain ⟨hI149, hF⟩ := ck_some hF
              refine op_g ha rfl (g_add rfl rfl hI149) ?_; clear ha a; intro a ha
              refine op_g ha rfl (g_move rfl) ?_; clear ha a; intro a ha
              refine wpList_nil ?_
              replace ha := ha.sub (σ' := [(0, va0), (1, (.int .i64 a1)), (7, va0), (8, (.int .i64 (a0.length : Int))), (9, (.int .i64 (i49 + 1))), (20, (.int .i64 i49)), (21, (.bool true)), (22, (.bool true)), (23, va0), (24, (.int .i64 i49)), (25, (.int .i64 (i49 - 1))), (26, (.pointer (some p137))), (27, (.int .i64 x134)), (28, (.int .i64 x108)), (29, (.bool (decide (x108 ≤ x134)))), (30, (.bool (decide (x108 ≤ x134))))]) ⟨rfl, rfl, rfl, rfl, rfl, rfl, rfl, rfl, rfl, rfl, rfl, rfl, rfl, rfl, rfl, rfl, trivial⟩
              refine e_lq ?_
              obtain rfl := Option.some.inj hF
              exact ⟨_, Nat.lt_succ_self _, i49 + 1, ha.sub ⟨rfl, rfl, rfl, rfl, rfl, trivial⟩, hE127, hI149, hN104⟩
          · replace hF := if_f hp131 hF
            rw [show (decide (0 < i49)) = false from b_false (decide_eq_true_iff) hp131] at ha
            refine op_unwant ha rfl (yields ha rfl rfl) rfl ?_; clear ha a; intro a ha
            refine op_unwant ha rfl (yields ha rfl rfl) rfl ?_; clear ha a; intro a ha
            refine op_unwant ha rfl (yields ha rfl rfl) rfl ?_; clear ha a; intro a ha
            refine op_unwant ha rfl (yields ha rfl rfl) rfl ?_; clear ha a; intro a ha
            refine op_unwant ha rfl (yields ha rfl rfl) rfl ?_; clear ha a; intro a ha
            refine op_unwant ha rfl (yields ha rfl rfl) rfl ?_; clear ha a; intro a ha
            refine op_unwant ha rfl (yields ha rfl rfl) rfl ?_; clear ha a; intro a ha
            refine op_want (yields ha rfl rfl) ?_
            refine op_g ha rfl (g_pick rfl rfl) ?_; clear ha a; intro a ha
            refine op_g ha rfl (g_pick rfl rfl) ?_; clear ha a; intro a ha
            refine wpList_nil ?_
            replace ha := ha.sub (σ' := [(0, va0), (1, (.int .i64 a1)), (7, va0), (8, (.int .i64 (a0.length : Int))), (9, (.int .i64 i49)), (20, (.int .i64 i49)), (21, (.bool false)), (22, (.bool false)), (30, (.bool false)), (31, (.bool false))]) ⟨rfl, rfl, rfl, rfl, rfl, rfl, rfl, rfl, rfl, rfl, trivial⟩
            refine e_then ?_
            refine c_false ha rfl ?_
            refine wp_skip ?_
            refine e_blk ?_
            refine e_then ?_
            refine wp_region_lit ?_
            obtain ⟨hI151, hF⟩ := ck_some hF
            refine op_g ha rfl (g_add rfl rfl hI151) ?_; clear ha a; intro a ha
            refine op_g ha rfl (g_move rfl) ?_; clear ha a; intro a ha
            refine wpList_nil ?_
            replace ha := ha.sub (σ' := [(0, va0), (1, (.int .i64 a1)), (7, va0), (8, (.int .i64 (a0.length : Int))), (9, (.int .i64 (i49 + 1))), (20, (.int .i64 i49)), (21, (.bool false)), (22, (.bool false)), (30, (.bool false))]) ⟨rfl, rfl, rfl, rfl, rfl, rfl, rfl, rfl, rfl, trivial⟩
            refine e_lq ?_
            obtain rfl := Option.some.inj hF
            exact ⟨_, Nat.lt_succ_self _, i49 + 1, ha.sub ⟨rfl, rfl, rfl, rfl, rfl, trivial⟩, hE127, hI151, hN104⟩
      · replace hF := if_f hp107 hF
        refine wp_exit ?_
        refine e_then_exit ?_
        refine e_lq_eq ?_
        obtain rfl := Option.some.inj hF
        exact ⟨ha.sub trivial, hE51, (LK_inr hN104).symm⟩
  · rintro a w97 ⟨ha, hE103, rfl⟩
    have hF : F_impl_increasing_k2 = some _ := hK100; clear hK100; unfold F_impl_increasing_k2 at hF
    refine e_then ?_
    refine wp_seq ?_
    refine wp_region_lit ?_
    refine op_g ha rfl (g_assign rfl) ?_; clear ha a; intro a ha
    refine wpList_nil ?_
    refine e_then ?_
    refine wp_ret ?_
    obtain rfl := Option.some.inj hF
    exact f_ret1 ha rfl rfl ⟨rfl, hE103⟩
set_option maxHeartbeats 2000000 in
theorem W_slices_Index_int64 {W : World} {va0 : Value} {fa0 : List Nat} {a0 : (List Int)} (ha0 : Ro Rp.int W fa0 va0 a0) {a1 : Int} (ha1 : InI a1) {r : Int} (hF : F_slices_Index_int64 a0 a1 = some r) :
    Calls Try.prog 76 [va0, .int .i64 a1].toArray W (Ret fun u w' => (u = .int .i64 r ∧ InI r) ∧ Ext W w') := by
  refine f_enter Try.func76 rfl Try.ntmps76 rfl ?_
  intro a ha
  replace ha : Fr 19 [(0, va0), (1, (.int .i64 a1))] a := ha
  have hE : Chg [] W W := Chg.refl _ _
  unfold F_slices_Index_int64 at hF
  refine wp_seq ?_
  refine wp_region_lit ?_
  refine op_g ha rfl (g_assign rfl) ?_; clear ha a; intro a ha
  refine wpList_nil ?_
  replace ha := ha.sub (σ' := [(0, va0), (1, (.int .i64 a1))]) ⟨rfl, rfl, trivial⟩
  refine e_then ?_
  refine wp_seq ?_
  refine wp_seq ?_
  refine wp_region_lit ?_
  refine op_g ha rfl (g_move rfl) ?_; clear ha a; intro a ha
  refine op_g ha rfl (g_lenR sl25.und ha0 rfl) ?_; clear ha a; intro a ha
  refine op_g ha rfl (g_move rfl) ?_; clear ha a; intro a ha
  refine wpList_nil ?_
  replace ha := ha.sub (σ' := [(0, va0), (1, (.int .i64 a1)), (7, (.int .i64 (a0.length : Int))), (8, (.int .i64 0))]) ⟨rfl, rfl, rfl, rfl, trivial⟩
  refine e_then ?_
  obtain ⟨o46, ho47, hK48⟩ := bnd_some hF
  obtain ⟨n49, hn50⟩ := lp_some ho47; clear ho47
  refine c_loop (fun a w => Fr 19 [] a ∧ Chg [] W w ∧ o46 = .inl ()) (fun n a w => ∃ (i23 : Int), Fr 19 [(0, va0), (1, (.int .i64 a1)), (7, (.int .i64 (a0.length : Int))), (8, (.int .i64 i23))] a ∧ Chg [] W w ∧ InI i23 ∧ lpN (fun s => F_slices_Index_int64_l1 a0 a1 s) n i23 = some o46) n49 ⟨0, ha.sub ⟨rfl, rfl, rfl, rfl, trivial⟩, hE, (show InI 0 from by decide), hn50⟩ ?_ ?_
  · rintro m54 a w22 ⟨i23, ha, hE25, hI24, hF⟩
    cases m54 with
    | zero => exact (lpN_zero hF).elim
    | succ m54 =>
      obtain ⟨z53, hF, hN52⟩ := lpN_succ hF
      have hF : F_slices_Index_int64_l1 a0 a1 i23 = some z53 := hF; unfold F_slices_Index_int64_l1 at hF
      refine wp_seq ?_
      refine wp_region_lit ?_
      refine op_g ha rfl (g_lss rfl rfl) ?_; clear ha a; intro a ha
      refine wpList_nil ?_
      replace ha := ha.sub (σ' := [(0, va0), (1, (.int .i64 a1)), (7, (.int .i64 (a0.length : Int))), (8, (.int .i64 i23)), (9, (.bool (decide (i23 < (a0.length : Int)))))]) ⟨rfl, rfl, rfl, rfl, rfl, trivial⟩
      refine e_then ?_
      refine wp_seq ?_
      refine c_cond (i23 < (a0.length : Int)) ha rfl (decide_eq_true_iff) (fun hp55 => ?_) (fun hp55 => ?_)
      · replace hF := if_t hp55 hF
        refine wp_skip ?_
        refine e_then ?_
        refine wp_seq ?_
        refine wp_block ?_
        refine wp_seq ?_
        refine wp_region_lit ?_
        refine op_g ha rfl (g_move rfl) ?_; clear ha a; intro a ha
        refine op_g ha rfl (g_assign rfl) ?_; clear ha a; intro a ha
        refine wpList_nil ?_
        replace ha := ha.sub (σ' := [(0, va0), (1, (.int .i64 a1)), (5, (.int .i64 i23)), (7, (.int .i64 (a0.length : Int))), (8, (.int .i64 i23))]) ⟨rfl, rfl, rfl, rfl, rfl, trivial⟩
        refine e_then ?_
        refine wp_seq ?_
        refine wp_region_lit ?_
        refine op_g ha rfl (g_move rfl) ?_; clear ha a; intro a ha
        refine op_g ha rfl (g_move rfl) ?_; clear ha a; intro a ha
        refine op_g ha rfl (g_move rfl) ?_; clear ha a; intro a ha
        obtain ⟨x56, g57, gx58, hF⟩ := idx_some hF
        obtain ⟨p59, cs60, f61, hf62, hpb63, hat64, hr65, hi66⟩ := ha0.at g57 gx58
        obtain ⟨rfl, hI67, rfl⟩ := hr65
        refine op_g ha rfl (hi66.gives sl25 rfl rfl) ?_; clear ha a; intro a ha
        refine op_g ha rfl (g_load0 hE25 Try.isAgg2 rfl hat64.one) ?_; clear ha a; intro a ha
        refine op_g ha rfl (g_eql rfl rfl) ?_; clear ha a; intro a ha
        refine wpList_nil ?_
        replace ha := ha.sub (σ' := [(0, va0), (1, (.int .i64 a1)), (5, (.int .i64 i23)), (7, (.int .i64 (a0.length : Int))), (8, (.int .i64 i23)), (16, (.bool (decide (a1 = x56))))]) ⟨rfl, rfl, rfl, rfl, rfl, rfl, trivial⟩
        refine e_then ?_
        refine c_cond (a1 = x56) ha rfl (decide_eq_true_iff) (fun hp68 => ?_) (fun hp68 => ?_)
        · replace hF := if_t hp68 hF
          refine wp_seq ?_
          refine wp_region_lit ?_
          refine op_g ha rfl (g_move rfl) ?_; clear ha a; intro a ha
          refine op_g ha rfl (g_assign rfl) ?_; clear ha a; intro a ha
          refine wpList_nil ?_
          replace ha := ha.sub (σ' := [(4, (.int .i64 i23))]) ⟨rfl, trivial⟩
          refine e_then ?_
          refine wp_ret ?_
          refine e_blk_ret ?_
          refine e_then_ret ?_
          refine e_lq_ret ?_
          refine e_then_ret ?_
          obtain rfl := Option.some.inj hF
          have e69 := LK_inr hN52; subst e69
          have e70 := BK_inr hK48; subst e70
          exact f_ret1 ha rfl rfl ⟨⟨rfl, hI24⟩, hE25⟩
        · replace hF := if_f hp68 hF
          refine wp_skip ?_
          refine e_blk ?_
          refine e_then ?_
          refine wp_region_lit ?_
          obtain ⟨hI71, hF⟩ := ck_some hF
          refine op_g ha rfl (g_add rfl rfl hI71) ?_; clear ha a; intro a ha
          refine op_g ha rfl (g_move rfl) ?_; clear ha a; intro a ha
          refine wpList_nil ?_
          replace ha := ha.sub (σ' := [(0, va0), (1, (.int .i64 a1)), (7, (.int .i64 (a0.length : Int))), (8, (.int .i64 (i23 + 1)))]) ⟨rfl, rfl, rfl, rfl, trivial⟩
          refine e_lq ?_
          obtain rfl := Option.some.inj hF
          exact ⟨_, Nat.lt_succ_self _, i23 + 1, ha.sub ⟨rfl, rfl, rfl, rfl, trivial⟩, hE25, hI71, hN52⟩
      · replace hF := if_f hp55 hF
        refine wp_exit ?_
        refine e_then_exit ?_
        refine e_lq_eq ?_
        obtain rfl := Option.some.inj hF
        exact ⟨ha.sub trivial, hE25, (LK_inr hN52).symm⟩
  · rintro a w45 ⟨ha, hE51, rfl⟩
    have hF : F_slices_Index_int64_k2 = some _ := hK48; clear hK48; unfold F_slices_Index_int64_k2 at hF
    refine e_then ?_
    refine wp_seq ?_
    refine wp_region_lit ?_
    refine op_g ha rfl (g_assign rfl) ?_; clear ha a; intro a ha
    refine wpList_nil ?_
    refine e_then ?_
    refine wp_ret ?_
    obtain rfl := Option.some.inj hF
    exact f_ret1 ha rfl rfl ⟨⟨rfl, (show InI (-1) from by decide)⟩, hE51⟩
set_option maxHeartbeats 2000000 in
theorem W_slices_Contains_int64 {W : World} {va0 : Value} {fa0 : List Nat} {a0 : (List Int)} (ha0 : Ro Rp.int W fa0 va0 a0) {a1 : Int} (ha1 : InI a1) {r : Bool} (hF : F_slices_Contains_int64 a0 a1 = some r) :
    Calls Try.prog 71 [va0, .int .i64 a1].toArray W (Ret fun u w' => u = .bool r ∧ Ext W w') := by
  refine f_enter Try.func71 rfl Try.ntmps71 rfl ?_
  intro a ha
  replace ha : Fr 9 [(0, va0), (1, (.int .i64 a1))] a := ha
  have hE : Chg [] W W := Chg.refl _ _
  unfold F_slices_Contains_int64 at hF
  refine wp_seq ?_
  refine wp_region_lit ?_
  refine op_g ha rfl (g_assign rfl) ?_; clear ha a; intro a ha
  refine wpList_nil ?_
  replace ha := ha.sub (σ' := [(0, va0), (1, (.int .i64 a1))]) ⟨rfl, rfl, trivial⟩
  refine e_then ?_
  refine wp_seq ?_
  refine wp_region_lit ?_
  refine op_g ha rfl (g_move rfl) ?_; clear ha a; intro a ha
  refine op_g ha rfl (g_move rfl) ?_; clear ha a; intro a ha
  obtain ⟨x1, hc2, hF⟩ := cal_some hF
  refine o_call ha rfl rfl Try.call76 (W_slices_Index_int64 (ha0.ext hE) ha1 hc2) ?_; clear ha a; rintro v3 w4 ⟨⟨rfl, hI6⟩, hx5⟩ a ha
  have hE7 := Ext.trans hE hx5
  refine op_g ha rfl (g_geq rfl rfl) ?_; clear ha a; intro a ha
  refine op_g ha rfl (g_assign rfl) ?_; clear ha a; intro a ha
  refine wpList_nil ?_
  replace ha := ha.sub (σ' := [(4, (.bool (decide (0 ≤ x1))))]) ⟨rfl, trivial⟩
  refine e_then ?_
  refine wp_ret ?_
  obtain rfl := Option.some.inj hF
  exact f_ret1 ha rfl rfl ⟨rfl, hE7⟩
set_option maxHeartbeats 2000000 in
theorem W_impl_GraphOk {W : World} {va0_0 : Value} {fa0_0 : List Nat} {a0_0 : (List (List Int))} (ha0_0 : Ro (Rp.sl 2 Rp.int) W fa0_0 va0_0 a0_0) {r : Bool} (hF : F_impl_GraphOk a0_0 = some r) :
    Calls Try.prog 57 [.agg #[va0_0]].toArray W (Ret fun u w' => u = .bool r ∧ Ext W w') := by
  refine f_enter Try.func57 rfl Try.ntmps57 rfl ?_
  intro a ha
  replace ha : Fr 61 [(0, (.agg #[va0_0]))] a := ha
  have hE : Chg [] W W := Chg.refl _ _
  unfold F_impl_GraphOk at hF
  refine wp_seq ?_
  refine wp_region_lit ?_
  refine o_box ha rfl rfl rfl ?_; clear ha a; intro b1 w2 hB3 hx4 hlo5 a ha
  have q6 := Zn.one hlo5
  have q7 := Zn.upD q6 hE
  have hE8 := Ext.trans hE hx4
  refine op_g ha rfl (g_assign rfl) ?_; clear ha a; intro a ha
  refine wpList_nil ?_
  replace ha := ha.sub (σ' := [(1, (.pointer (some ⟨b1, 0, none⟩)))]) ⟨rfl, trivial⟩
  refine e_then ?_
  refine wp_seq ?_
  refine wp_region_lit ?_
  refine op_g ha rfl (g_field0 st30_0 rfl) ?_; clear ha a; intro a ha
  refine op_g ha rfl (g_load Try.isAgg22 rfl (hB3.cell rfl)) ?_; clear ha a; intro a ha
  refine op_g ha rfl (g_lenR sl22.und ha0_0 rfl) ?_; clear ha a; intro a ha
  refine op_g ha rfl (g_assign rfl) ?_; clear ha a; intro a ha
  refine wpList_nil ?_
  replace ha := ha.sub (σ' := [(1, (.pointer (some ⟨b1, 0, none⟩))), (3, (.int .i64 (a0_0.length : Int)))]) ⟨rfl, rfl, trivial⟩
  refine e_then ?_
  refine wp_seq ?_
  refine wp_seq ?_
  refine wp_region_lit ?_
  refine op_g ha rfl (g_move rfl) ?_; clear ha a; intro a ha
  refine op_g ha rfl (g_lss rfl rfl) ?_; clear ha a; intro a ha
  refine op_g ha rfl (g_move rfl) ?_; clear ha a; intro a ha
  by_cases hp11 : (a0_0.length : Int) < 1
  · replace hF := if_t hp11 hF
    rw [show (decide ((a0_0.length : Int) < 1)) = true from (decide_eq_true_iff).2 hp11] at ha
    refine op_unwant ha rfl (yields ha rfl rfl) rfl ?_; clear ha a; intro a ha
    refine op_unwant ha rfl (yields ha rfl rfl) rfl ?_; clear ha a; intro a ha
    refine op_g ha rfl (g_pick rfl rfl) ?_; clear ha a; intro a ha
    refine wpList_nil ?_
    replace ha := ha.sub (σ' := [(1, (.pointer (some ⟨b1, 0, none⟩))), (3, (.int .i64 (a0_0.length : Int))), (18, (.bool true))]) ⟨rfl, rfl, rfl, trivial⟩
    refine e_then ?_
    refine c_true ha rfl ?_
    refine wp_seq ?_
    refine wp_region_lit ?_
    refine op_g ha rfl (g_assign rfl) ?_; clear ha a; intro a ha
    refine wpList_nil ?_
    replace ha := ha.sub (σ' := [(2, (.bool false))]) ⟨rfl, trivial⟩
    refine e_then ?_
    refine wp_ret ?_
    refine e_then_ret ?_
    obtain rfl := Option.some.inj hF
    exact f_ret1 ha rfl rfl ⟨rfl, hE8⟩
  · replace hF := if_f hp11 hF
    rw [show (decide ((a0_0.length : Int) < 1)) = false from b_false (decide_eq_true_iff) hp11] at ha
    refine op_want (yields ha rfl rfl) ?_
    refine op_g ha rfl (g_move rfl) ?_; clear ha a; intro a ha
    refine op_want (yields ha rfl rfl) ?_
    refine op_g ha rfl (g_gtr rfl rfl) ?_; clear ha a; intro a ha
    refine op_g ha rfl (g_pick rfl rfl) ?_; clear ha a; intro a ha
    refine wpList_nil ?_
    replace ha := ha.sub (σ' := [(1, (.pointer (some ⟨b1, 0, none⟩))), (3, (.int .i64 (a0_0.length : Int))), (18, (.bool (decide (16 < (a0_0.length : Int)))))]) ⟨rfl, rfl, rfl, trivial⟩
    refine e_then ?_
    refine c_cond (16 < (a0_0.length : Int)) ha rfl (decide_eq_true_iff) (fun hp12 => ?_) (fun hp12 => ?_)
    · replace hF := if_t hp12 hF
      refine wp_seq ?_
      refine wp_region_lit ?_
      refine op_g ha rfl (g_assign rfl) ?_; clear ha a; intro a ha
      refine wpList_nil ?_
      replace ha := ha.sub (σ' := [(2, (.bool false))]) ⟨rfl, trivial⟩
      refine e_then ?_
      refine wp_ret ?_
      refine e_then_ret ?_
      obtain rfl := Option.some.inj hF
      exact f_ret1 ha rfl rfl ⟨rfl, hE8⟩
    · replace hF := if_f hp12 hF
      refine wp_skip ?_
      refine e_then ?_
      refine wp_seq ?_
      refine wp_seq ?_
      refine wp_region_lit ?_
      refine op_g ha rfl (g_field0 st30_0 rfl) ?_; clear ha a; intro a ha
      refine op_g ha rfl (g_load Try.isAgg22 rfl (hB3.cell rfl)) ?_; clear ha a; intro a ha
      refine op_g ha rfl (g_lenR sl22.und ha0_0 rfl) ?_; clear ha a; intro a ha
      refine op_g ha rfl (g_move rfl) ?_; clear ha a; intro a ha
      refine wpList_nil ?_
      replace ha := ha.sub (σ' := [(1, (.pointer (some ⟨b1, 0, none⟩))), (3, (.int .i64 (a0_0.length : Int))), (20, va0_0), (21, (.int .i64 (a0_0.length : Int))), (22, (.int .i64 0))]) ⟨rfl, rfl, rfl, rfl, rfl, trivial⟩
      refine e_then ?_
      obtain ⟨o98, ho99, hK100⟩ := bnd_some hF
      obtain ⟨n101, hn102⟩ := lp_some ho99; clear ho99
      refine c_loop (fun a w => Fr 61 [(1, (.pointer (some ⟨b1, 0, none⟩)))] a ∧ Chg [] W w ∧ Bx w b1 [va0_0] 30 ∧ Zn W (b1 : Int) ∧ o98 = .inl ()) (fun n a w => ∃ (i56 : Int), Fr 61 [(1, (.pointer (some ⟨b1, 0, none⟩))), (3, (.int .i64 (a0_0.length : Int))), (20, va0_0), (21, (.int .i64 (a0_0.length : Int))), (22, (.int .i64 i56))] a ∧ Chg [] W w ∧ InI i56 ∧ Bx w b1 [va0_0] 30 ∧ Zn W (b1 : Int) ∧ lpN (fun s => F_impl_GraphOk_l1 a0_0 s) n i56 = some o98) n101 ⟨0, ha.sub ⟨rfl, rfl, rfl, rfl, rfl, trivial⟩, hE8, (show InI 0 from by decide), hB3, q7, hn102⟩ ?_ ?_
      · rintro m106 a w53 ⟨i56, ha, hE58, hI57, hB54, z55, hF⟩
        cases m106 with
        | zero => exact (lpN_zero hF).elim
        | succ m106 =>
          obtain ⟨z105, hF, hN104⟩ := lpN_succ hF
          have hF : F_impl_GraphOk_l1 a0_0 i56 = some z105 := hF; unfold F_impl_GraphOk_l1 at hF
          refine wp_seq ?_
          refine wp_region_lit ?_
          refine op_g ha rfl (g_lss rfl rfl) ?_; clear ha a; intro a ha
          refine wpList_nil ?_
          replace ha := ha.sub (σ' := [(1, (.pointer (some ⟨b1, 0, none⟩))), (3, (.int .i64 (a0_0.length : Int))), (20, va0_0), (21, (.int .i64 (a0_0.length : Int))), (22, (.int .i64 i56)), (23, (.bool (decide (i56 < (a0_0.length : Int)))))]) ⟨rfl, rfl, rfl, rfl, rfl, rfl, trivial⟩
          refine e_then ?_
          refine wp_seq ?_
          refine c_cond (i56 < (a0_0.length : Int)) ha rfl (decide_eq_true_iff) (fun hp107 => ?_) (fun hp107 => ?_)
          · replace hF := if_t hp107 hF
            refine wp_skip ?_
            refine e_then ?_
            refine wp_seq ?_
            refine wp_block ?_
            refine wp_seq ?_
            refine wp_region_lit ?_
            refine op_g ha rfl (g_move rfl) ?_; clear ha a; intro a ha
            obtain ⟨x108, g109, gx110, hF⟩ := idx_some hF
            obtain ⟨p111, cs112, f113, hf114, hpb115, hat116, hr117, hi118⟩ := ha0_0.at g109 gx110
            obtain ⟨v119, rfl, h120⟩ := hr117
            have h120 : Ro Rp.int W f113 v119 x108 := h120
            refine op_g ha rfl (hi118.gives sl22 rfl rfl) ?_; clear ha a; intro a ha
            refine op_g ha rfl (g_load0 hE58 Try.isAgg25 rfl hat116.one) ?_; clear ha a; intro a ha
            refine op_g ha rfl (g_assign rfl) ?_; clear ha a; intro a ha
            refine op_g ha rfl (g_assign rfl) ?_; clear ha a; intro a ha
            refine wpList_nil ?_
            replace ha := ha.sub (σ' := [(1, (.pointer (some ⟨b1, 0, none⟩))), (3, (.int .i64 (a0_0.length : Int))), (4, (.int .i64 i56)), (5, v119), (20, va0_0), (21, (.int .i64 (a0_0.length : Int))), (22, (.int .i64 i56))]) ⟨rfl, rfl, rfl, rfl, rfl, rfl, rfl, trivial⟩
            refine e_then ?_
            refine wp_seq ?_
            refine wp_region_lit ?_
            refine op_g ha rfl (g_move rfl) ?_; clear ha a; intro a ha
            refine op_g ha rfl (g_move rfl) ?_; clear ha a; intro a ha
            obtain ⟨x122, hc123, hF⟩ := cal_some hF
            refine o_call ha rfl rfl Try.call70 (W_impl_increasing (h120.ext hE58) ha0_0.len hc123) ?_; clear ha a; rintro v124 w125 ⟨rfl, hx126⟩ a ha
            replace hB54 := hB54.ext hx126
            have hE127 := Ext.trans hE58 hx126
            refine op_g ha rfl (g_not rfl) ?_; clear ha a; intro a ha
            refine op_g ha rfl (g_move rfl) ?_; clear ha a; intro a ha
            by_cases hp128 : ¬ (x122 = true)
            · replace hF := if_t hp128 hF
              rw [show (!x122) = true from (n_iff (Iff.rfl)).2 hp128] at ha
              refine op_unwant ha rfl (yields ha rfl rfl) rfl ?_; clear ha a; intro a ha
              refine op_unwant ha rfl (yields ha rfl rfl) rfl ?_; clear ha a; intro a ha
              refine op_unwant ha rfl (yields ha rfl rfl) rfl ?_; clear ha a; intro a ha
              refine op_g ha rfl (g_pick rfl rfl) ?_; clear ha a; intro a ha
              refine wpList_nil ?_
              replace ha := ha.sub (σ' := [(1, (.pointer (some ⟨b1, 0, none⟩))), (3, (.int .i64 (a0_0.length : Int))), (20, va0_0), (21, (.int .i64 (a0_0.length : Int))), (22, (.int .i64 i56)), (35, (.bool true))]) ⟨rfl, rfl, rfl, rfl, rfl, rfl, trivial⟩
              refine e_then ?_
              refine c_true ha rfl ?_
              refine wp_seq ?_
              refine wp_region_lit ?_
              refine op_g ha rfl (g_assign rfl) ?_; clear ha a; intro a ha
              refine wpList_nil ?_
              replace ha := ha.sub (σ' := [(2, (.bool false))]) ⟨rfl, trivial⟩
              refine e_then ?_
              refine wp_ret ?_
              refine e_blk_ret ?_
              refine e_then_ret ?_
              refine e_lq_ret ?_
              refine e_then_ret ?_
              obtain rfl := Option.some.inj hF
              have e129 := LK_inr hN104; subst e129
              have e130 := BK_inr hK100; subst e130
              exact f_ret1 ha rfl rfl ⟨rfl, hE127⟩
            · replace hF := if_f hp128 hF
              rw [show (!x122) = false from b_false (n_iff (Iff.rfl)) hp128] at ha
              refine op_want (yields ha rfl rfl) ?_
              refine op_g ha rfl (g_move rfl) ?_; clear ha a; intro a ha
              refine op_want (yields ha rfl rfl) ?_
              refine op_g ha rfl (g_move rfl) ?_; clear ha a; intro a ha
              refine op_want (yields ha rfl rfl) ?_
              obtain ⟨x131, hc132, hF⟩ := cal_some hF
              refine o_call ha rfl rfl Try.call71 (W_slices_Contains_int64 (h120.ext hE127) hI57 hc132) ?_; clear ha a; rintro v133 w134 ⟨rfl, hx135⟩ a ha
              replace hB54 := hB54.ext hx135
              have hE136 := Ext.trans hE127 hx135
              refine op_g ha rfl (g_pick rfl rfl) ?_; clear ha a; intro a ha
              refine wpList_nil ?_
              replace ha := ha.sub (σ' := [(1, (.pointer (some ⟨b1, 0, none⟩))), (3, (.int .i64 (a0_0.length : Int))), (20, va0_0), (21, (.int .i64 (a0_0.length : Int))), (22, (.int .i64 i56)), (32, v119), (33, (.int .i64 i56)), (34, (.bool x131)), (35, (.bool x131))]) ⟨rfl, rfl, rfl, rfl, rfl, rfl, rfl, rfl, rfl, trivial⟩
              refine e_then ?_
              refine c_cond (x131 = true) ha rfl (Iff.rfl) (fun hp137 => ?_) (fun hp137 => ?_)
              · replace hF := if_t hp137 hF
                refine wp_seq ?_
                refine wp_region_lit ?_
                refine op_g ha rfl (g_assign rfl) ?_; clear ha a; intro a ha
                refine wpList_nil ?_
                replace ha := ha.sub (σ' := [(2, (.bool false))]) ⟨rfl, trivial⟩
                refine e_then ?_
                refine wp_ret ?_
                refine e_blk_ret ?_
                refine e_then_ret ?_
                refine e_lq_ret ?_
                refine e_then_ret ?_
                obtain rfl := Option.some.inj hF
                have e138 := LK_inr hN104; subst e138
                have e139 := BK_inr hK100; subst e139
                exact f_ret1 ha rfl rfl ⟨rfl, hE136⟩
              · replace hF := if_f hp137 hF
                refine wp_skip ?_
                refine e_blk ?_
                refine e_then ?_
                refine wp_region_lit ?_
                obtain ⟨hI140, hF⟩ := ck_some hF
                refine op_g ha rfl (g_add rfl rfl hI140) ?_; clear ha a; intro a ha
                refine op_g ha rfl (g_move rfl) ?_; clear ha a; intro a ha
                refine wpList_nil ?_
                replace ha := ha.sub (σ' := [(1, (.pointer (some ⟨b1, 0, none⟩))), (3, (.int .i64 (a0_0.length : Int))), (20, va0_0), (21, (.int .i64 (a0_0.length : Int))), (22, (.int .i64 (i56 + 1))), (32, v119), (33, (.int .i64 i56)), (34, (.bool x131))]) ⟨rfl, rfl, rfl, rfl, rfl, rfl, rfl, rfl, trivial⟩
                refine e_lq ?_
                obtain rfl := Option.some.inj hF
                exact ⟨_, Nat.lt_succ_self _, i56 + 1, ha.sub ⟨rfl, rfl, rfl, rfl, rfl, trivial⟩, hE136, hI140, hB54, z55, hN104⟩
          · replace hF := if_f hp107 hF
            refine wp_exit ?_
            refine e_then_exit ?_
            refine e_lq_eq ?_
            obtain rfl := Option.some.inj hF
            exact ⟨ha.sub ⟨rfl, trivial⟩, hE58, hB54, z55, (LK_inr hN104).symm⟩
      · rintro a w95 ⟨ha, hE103, hB96, z97, rfl⟩
        have hF : F_impl_GraphOk_k2 a0_0 = some _ := hK100; clear hK100; unfold F_impl_GraphOk_k2 at hF
        refine e_then ?_
        refine wp_seq ?_
        refine wp_seq ?_
        refine wp_region_lit ?_
        refine op_g ha rfl (g_field0 st30_0 rfl) ?_; clear ha a; intro a ha
        refine op_g ha rfl (g_load Try.isAgg22 rfl (hB96.cell rfl)) ?_; clear ha a; intro a ha
        refine op_g ha rfl (g_lenR sl22.und ha0_0 rfl) ?_; clear ha a; intro a ha
        refine op_g ha rfl (g_move rfl) ?_; clear ha a; intro a ha
        refine wpList_nil ?_
        replace ha := ha.sub (σ' := [(1, (.pointer (some ⟨b1, 0, none⟩))), (38, va0_0), (39, (.int .i64 (a0_0.length : Int))), (40, (.int .i64 0))]) ⟨rfl, rfl, rfl, rfl, trivial⟩
        refine e_then ?_
        obtain ⟨o477, ho478, hK479⟩ := bnd_some hF
        obtain ⟨n480, hn481⟩ := lp_some ho478; clear ho478
        refine c_loop (fun a w => Fr 61 [] a ∧ Chg [] W w ∧ o477 = .inl ()) (fun n a w => ∃ (i311 : Int), Fr 61 [(1, (.pointer (some ⟨b1, 0, none⟩))), (38, va0_0), (39, (.int .i64 (a0_0.length : Int))), (40, (.int .i64 i311))] a ∧ Chg [] W w ∧ InI i311 ∧ Bx w b1 [va0_0] 30 ∧ Zn W (b1 : Int) ∧ lpN (fun s => F_impl_GraphOk_l3 a0_0 s) n i311 = some o477) n480 ⟨0, ha.sub ⟨rfl, rfl, rfl, rfl, trivial⟩, hE103, (show InI 0 from by decide), hB96, z97, hn481⟩ ?_ ?_
        · rintro m485 a w308 ⟨i311, ha, hE313, hI312, hB309, z310, hF⟩
          cases m485 with
          | zero => exact (lpN_zero hF).elim
          | succ m485 =>
            obtain ⟨z484, hF, hN483⟩ := lpN_succ hF
            have hF : F_impl_GraphOk_l3 a0_0 i311 = some z484 := hF; unfold F_impl_GraphOk_l3 at hF
            refine wp_seq ?_
            refine wp_region_lit ?_
            refine op_g ha rfl (g_lss rfl rfl) ?_; clear ha a; intro a ha
            refine wpList_nil ?_
            replace ha := ha.sub (σ' := [(1, (.pointer (some ⟨b1, 0, none⟩))), (38, va0_0), (39, (.int .i64 (a0_0.length : Int))), (40, (.int .i64 i311)), (41, (.bool (decide (i311 < (a0_0.length : Int)))))]) ⟨rfl, rfl, rfl, rfl, rfl, trivial⟩
            refine e_then ?_
            refine wp_seq ?_
            refine c_cond (i311 < (a0_0.length : Int)) ha rfl (decide_eq_true_iff) (fun hp486 => ?_) (fun hp486 => ?_)
            · replace hF := if_t hp486 hF
              refine wp_skip ?_
              refine e_then ?_
              refine wp_seq ?_
              refine wp_block ?_
              refine wp_seq ?_
              refine wp_region_lit ?_
              refine op_g ha rfl (g_move rfl) ?_; clear ha a; intro a ha
              obtain ⟨x487, g488, gx489, hF⟩ := idx_some hF
              obtain ⟨p490, cs491, f492, hf493, hpb494, hat495, hr496, hi497⟩ := ha0_0.at g488 gx489
              obtain ⟨v498, rfl, h499⟩ := hr496
              have h499 : Ro Rp.int W f492 v498 x487 := h499
              refine op_g ha rfl (hi497.gives sl22 rfl rfl) ?_; clear ha a; intro a ha
              refine op_g ha rfl (g_load0 hE313 Try.isAgg25 rfl hat495.one) ?_; clear ha a; intro a ha
              refine op_g ha rfl (g_assign rfl) ?_; clear ha a; intro a ha
              refine op_g ha rfl (g_assign rfl) ?_; clear ha a; intro a ha
              refine wpList_nil ?_
              replace ha := ha.sub (σ' := [(1, (.pointer (some ⟨b1, 0, none⟩))), (6, (.int .i64 i311)), (7, v498), (38, va0_0), (39, (.int .i64 (a0_0.length : Int))), (40, (.int .i64 i311))]) ⟨rfl, rfl, rfl, rfl, rfl, rfl, trivial⟩
              refine e_then ?_
              refine wp_seq ?_
              refine wp_region_lit ?_
              refine op_g ha rfl (g_move rfl) ?_; clear ha a; intro a ha
              refine op_g ha rfl (g_lenR sl25.und h499 rfl) ?_; clear ha a; intro a ha
              refine op_g ha rfl (g_move rfl) ?_; clear ha a; intro a ha
              refine wpList_nil ?_
              replace ha := ha.sub (σ' := [(1, (.pointer (some ⟨b1, 0, none⟩))), (6, (.int .i64 i311)), (38, va0_0), (39, (.int .i64 (a0_0.length : Int))), (40, (.int .i64 i311)), (45, v498), (46, (.int .i64 (x487.length : Int))), (47, (.int .i64 0))]) ⟨rfl, rfl, rfl, rfl, rfl, rfl, rfl, rfl, trivial⟩
              refine e_then ?_
              obtain ⟨o596, ho597, hK598⟩ := bnd_some hF
              obtain ⟨n599, hn600⟩ := lp_some ho597; clear ho597
              refine c_loop (fun a w => Fr 61 [(1, (.pointer (some ⟨b1, 0, none⟩))), (38, va0_0), (39, (.int .i64 (a0_0.length : Int))), (40, (.int .i64 i311))] a ∧ Chg [] W w ∧ Bx w b1 [va0_0] 30 ∧ Zn W (b1 : Int) ∧ o596 = .inl ()) (fun n a w => ∃ (i549 : Int), Fr 61 [(1, (.pointer (some ⟨b1, 0, none⟩))), (6, (.int .i64 i311)), (38, va0_0), (39, (.int .i64 (a0_0.length : Int))), (40, (.int .i64 i311)), (45, v498), (46, (.int .i64 (x487.length : Int))), (47, (.int .i64 i549))] a ∧ Chg [] W w ∧ InI i549 ∧ Bx w b1 [va0_0] 30 ∧ Zn W (b1 : Int) ∧ lpN (fun s => F_impl_GraphOk_l4 a0_0 i311 x487 s) n i549 = some o596) n599 ⟨0, ha.sub ⟨rfl, rfl, rfl, rfl, rfl, rfl, rfl, rfl, trivial⟩, hE313, (show InI 0 from by decide), hB309, z310, hn600⟩ ?_ ?_
              · rintro m604 a w546 ⟨i549, ha, hE551, hI550, hB547, z548, hF⟩
                cases m604 with
                | zero => exact (lpN_zero hF).elim
                | succ m604 =>
                  obtain ⟨z603, hF, hN602⟩ := lpN_succ hF
                  have hF : F_impl_GraphOk_l4 a0_0 i311 x487 i549 = some z603 := hF; unfold F_impl_GraphOk_l4 at hF
                  refine wp_seq ?_
                  refine wp_region_lit ?_
                  refine op_g ha rfl (g_lss rfl rfl) ?_; clear ha a; intro a ha
                  refine wpList_nil ?_
                  replace ha := ha.sub (σ' := [(1, (.pointer (some ⟨b1, 0, none⟩))), (6, (.int .i64 i311)), (38, va0_0), (39, (.int .i64 (a0_0.length : Int))), (40, (.int .i64 i311)), (45, v498), (46, (.int .i64 (x487.length : Int))), (47, (.int .i64 i549)), (48, (.bool (decide (i549 < (x487.length : Int)))))]) ⟨rfl, rfl, rfl, rfl, rfl, rfl, rfl, rfl, rfl, trivial⟩
                  refine e_then ?_
                  refine wp_seq ?_
                  refine c_cond (i549 < (x487.length : Int)) ha rfl (decide_eq_true_iff) (fun hp605 => ?_) (fun hp605 => ?_)
                  · replace hF := if_t hp605 hF
                    refine wp_skip ?_
                    refine e_then ?_
                    refine wp_seq ?_
                    refine wp_block ?_
                    refine wp_seq ?_
                    refine wp_region_lit ?_
                    obtain ⟨x606, g607, gx608, hF⟩ := idx_some hF
                    obtain ⟨p609, cs610, f611, hf612, hpb613, hat614, hr615, hi616⟩ := h499.at g607 gx608
                    obtain ⟨rfl, hI617, rfl⟩ := hr615
                    refine op_g ha rfl (hi616.gives sl25 rfl rfl) ?_; clear ha a; intro a ha
                    refine op_g ha rfl (g_load0 hE551 Try.isAgg2 rfl hat614.one) ?_; clear ha a; intro a ha
                    refine op_g ha rfl (g_assign rfl) ?_; clear ha a; intro a ha
                    refine wpList_nil ?_
                    replace ha := ha.sub (σ' := [(1, (.pointer (some ⟨b1, 0, none⟩))), (6, (.int .i64 i311)), (9, (.int .i64 x606)), (38, va0_0), (39, (.int .i64 (a0_0.length : Int))), (40, (.int .i64 i311)), (45, v498), (46, (.int .i64 (x487.length : Int))), (47, (.int .i64 i549))]) ⟨rfl, rfl, rfl, rfl, rfl, rfl, rfl, rfl, rfl, trivial⟩
                    refine e_then ?_
                    refine wp_seq ?_
                    refine wp_region_lit ?_
                    refine op_g ha rfl (g_field0 st30_0 rfl) ?_; clear ha a; intro a ha
                    refine op_g ha rfl (g_load Try.isAgg22 rfl (hB547.cell rfl)) ?_; clear ha a; intro a ha
                    refine op_g ha rfl (g_move rfl) ?_; clear ha a; intro a ha
                    obtain ⟨x618, g619, gx620, hF⟩ := idx_some hF
                    obtain ⟨p621, cs622, f623, hf624, hpb625, hat626, hr627, hi628⟩ := ha0_0.at g619 gx620
                    obtain ⟨v629, rfl, h630⟩ := hr627
                    have h630 : Ro Rp.int W f623 v629 x618 := h630
                    refine op_g ha rfl (hi628.gives sl22 rfl rfl) ?_; clear ha a; intro a ha
                    refine op_g ha rfl (g_load0 hE551 Try.isAgg25 rfl hat626.one) ?_; clear ha a; intro a ha
                    refine op_g ha rfl (g_move rfl) ?_; clear ha a; intro a ha
                    obtain ⟨x632, hc633, hF⟩ := cal_some hF
                    refine o_call ha rfl rfl Try.call71 (W_slices_Contains_int64 (h630.ext hE551) hI312 hc633) ?_; clear ha a; rintro v634 w635 ⟨rfl, hx636⟩ a ha
                    replace hB547 := hB547.ext hx636
                    have hE637 := Ext.trans hE551 hx636
                    refine op_g ha rfl (g_not rfl) ?_; clear ha a; intro a ha
                    refine wpList_nil ?_
                    replace ha := ha.sub (σ' := [(1, (.pointer (some ⟨b1, 0, none⟩))), (6, (.int .i64 i311)), (38, va0_0), (39, (.int .i64 (a0_0.length : Int))), (40, (.int .i64 i311)), (45, v498), (46, (.int .i64 (x487.length : Int))), (47, (.int .i64 i549)), (58, (.bool (!x632)))]) ⟨rfl, rfl, rfl, rfl, rfl, rfl, rfl, rfl, rfl, trivial⟩
                    refine e_then ?_
                    refine c_cond (¬ (x632 = true)) ha rfl (n_iff (Iff.rfl)) (fun hp638 => ?_) (fun hp638 => ?_)
                    · replace hF := if_t hp638 hF
                      refine wp_seq ?_
                      refine wp_region_lit ?_
                      refine op_g ha rfl (g_assign rfl) ?_; clear ha a; intro a ha
                      refine wpList_nil ?_
                      replace ha := ha.sub (σ' := [(2, (.bool false))]) ⟨rfl, trivial⟩
                      refine e_then ?_
                      refine wp_ret ?_
                      refine e_blk_ret ?_
                      refine e_then_ret ?_
                      refine e_lq_ret ?_
                      refine e_blk_ret ?_
                      refine e_then_ret ?_
                      refine e_lq_ret ?_
                      refine e_then_ret ?_
                      obtain rfl := Option.some.inj hF
                      have e639 := LK_inr hN602; subst e639
                      have e640 := BK_inr hK598; subst e640
                      have e641 := LK_inr hN483; subst e641
                      have e642 := BK_inr hK479; subst e642
                      exact f_ret1 ha rfl rfl ⟨rfl, hE637⟩
                    · replace hF := if_f hp638 hF
                      refine wp_skip ?_
                      refine e_blk ?_
                      refine e_then ?_
                      refine wp_region_lit ?_
                      obtain ⟨hI643, hF⟩ := ck_some hF
                      refine op_g ha rfl (g_add rfl rfl hI643) ?_; clear ha a; intro a ha
                      refine op_g ha rfl (g_move rfl) ?_; clear ha a; intro a ha
                      refine wpList_nil ?_
                      replace ha := ha.sub (σ' := [(1, (.pointer (some ⟨b1, 0, none⟩))), (6, (.int .i64 i311)), (38, va0_0), (39, (.int .i64 (a0_0.length : Int))), (40, (.int .i64 i311)), (45, v498), (46, (.int .i64 (x487.length : Int))), (47, (.int .i64 (i549 + 1)))]) ⟨rfl, rfl, rfl, rfl, rfl, rfl, rfl, rfl, trivial⟩
                      refine e_lq ?_
                      obtain rfl := Option.some.inj hF
                      exact ⟨_, Nat.lt_succ_self _, i549 + 1, ha.sub ⟨rfl, rfl, rfl, rfl, rfl, rfl, rfl, rfl, trivial⟩, hE637, hI643, hB547, z548, hN602⟩
                  · replace hF := if_f hp605 hF
                    refine wp_exit ?_
                    refine e_then_exit ?_
                    refine e_lq_eq ?_
                    obtain rfl := Option.some.inj hF
                    exact ⟨ha.sub ⟨rfl, rfl, rfl, rfl, trivial⟩, hE551, hB547, z548, (LK_inr hN602).symm⟩
              · rintro a w593 ⟨ha, hE601, hB594, z595, rfl⟩
                have hF : F_impl_GraphOk_k5 i311 = some _ := hK598; clear hK598; unfold F_impl_GraphOk_k5 at hF
                refine e_blk ?_
                refine e_then ?_
                refine wp_region_lit ?_
                obtain ⟨hI645, hF⟩ := ck_some hF
                refine op_g ha rfl (g_add rfl rfl hI645) ?_; clear ha a; intro a ha
                refine op_g ha rfl (g_move rfl) ?_; clear ha a; intro a ha
                refine wpList_nil ?_
                replace ha := ha.sub (σ' := [(1, (.pointer (some ⟨b1, 0, none⟩))), (38, va0_0), (39, (.int .i64 (a0_0.length : Int))), (40, (.int .i64 (i311 + 1)))]) ⟨rfl, rfl, rfl, rfl, trivial⟩
                refine e_lq ?_
                obtain rfl := Option.some.inj hF
                exact ⟨_, Nat.lt_succ_self _, i311 + 1, ha.sub ⟨rfl, rfl, rfl, rfl, trivial⟩, hE601, hI645, hB594, z595, hN483⟩
            · replace hF := if_f hp486 hF
              refine wp_exit ?_
              refine e_then_exit ?_
              refine e_lq_eq ?_
              obtain rfl := Option.some.inj hF
              exact ⟨ha.sub trivial, hE313, (LK_inr hN483).symm⟩
        · rintro a w476 ⟨ha, hE482, rfl⟩
          have hF : F_impl_GraphOk_k6 = some _ := hK479; clear hK479; unfold F_impl_GraphOk_k6 at hF
          refine e_then ?_
          refine wp_seq ?_
          refine wp_region_lit ?_
          refine op_g ha rfl (g_assign rfl) ?_; clear ha a; intro a ha
          refine wpList_nil ?_
          refine e_then ?_
          refine wp_ret ?_
          obtain rfl := Option.some.inj hF
          exact f_ret1 ha rfl rfl ⟨rfl, hE482⟩
set_option maxHeartbeats 2000000 in
theorem W_impl_isVertex {W : World} {va0_0 : Value} {fa0_0 : List Nat} {a0_0 : (List (List Int))} (ha0_0 : Ro (Rp.sl 2 Rp.int) W fa0_0 va0_0 a0_0) {a1 : Int} (ha1 : InI a1) {r : Bool} (hF : F_impl_isVertex a0_0 a1 = some r) :
    Calls Try.prog 77 [.agg #[va0_0], .int .i64 a1].toArray W (Ret fun u w' => u = .bool r ∧ Ext W w') := by
  refine f_enter Try.func77 rfl Try.ntmps77 rfl ?_
  intro a ha
  replace ha : Fr 15 [(0, (.agg #[va0_0])), (1, (.int .i64 a1))] a := ha
  have hE : Chg [] W W := Chg.refl _ _
  unfold F_impl_isVertex at hF
  refine wp_seq ?_
  refine wp_region_lit ?_
  refine o_box ha rfl rfl rfl ?_; clear ha a; intro b1 w2 hB3 hx4 hlo5 a ha
  have q6 := Zn.one hlo5
  have q7 := Zn.upD q6 hE
  have hE8 := Ext.trans hE hx4
  refine op_g ha rfl (g_assign rfl) ?_; clear ha a; intro a ha
  refine wpList_nil ?_
  replace ha := ha.sub (σ' := [(1, (.int .i64 a1)), (2, (.pointer (some ⟨b1, 0, none⟩)))]) ⟨rfl, rfl, trivial⟩
  refine e_then ?_
  refine wp_seq ?_
  refine wp_region_lit ?_
  refine op_g ha rfl (g_loadA (cs := [va0_0]) Try.isAgg30 Try.sizeOf30 rfl (by simp) hB3.all) ?_; clear ha a; intro a ha
  obtain ⟨x9, hc10, hF⟩ := cal_some hF
  refine o_call ha rfl rfl Try.call57 (W_impl_GraphOk (ha0_0.ext hE8) hc10) ?_; clear ha a; rintro v11 w12 ⟨rfl, hx13⟩ a ha
  replace hB3 := hB3.ext hx13
  have hE14 := Ext.trans hE8 hx13
  refine op_g ha rfl (g_move rfl) ?_; clear ha a; intro a ha
  by_cases hp15 : x9 = true
  · replace hF := if_t hp15 hF
    rw [show (x9) = true from (Iff.rfl).2 hp15] at ha
    refine op_want (yields ha rfl rfl) ?_
    refine op_g ha rfl (g_move rfl) ?_; clear ha a; intro a ha
    refine op_want (yields ha rfl rfl) ?_
    refine op_g ha rfl (g_field0 st30_0 rfl) ?_; clear ha a; intro a ha
    refine op_want (yields ha rfl rfl) ?_
    refine op_g ha rfl (g_load Try.isAgg22 rfl (hB3.cell rfl)) ?_; clear ha a; intro a ha
    refine op_want (yields ha rfl rfl) ?_
    refine op_g ha rfl (g_lenR sl22.und ha0_0 rfl) ?_; clear ha a; intro a ha
    refine op_want (yields ha rfl rfl) ?_
    obtain ⟨hI16, hF⟩ := ck_some hF
    refine op_g ha rfl (g_sub rfl rfl hI16) ?_; clear ha a; intro a ha
    refine op_want (yields ha rfl rfl) ?_
    obtain ⟨x18, hc19, hF⟩ := cal_some hF
    refine o_call ha rfl rfl Try.call39 (W_impl_inRange ha1 (show InI 0 from by decide) hI16 hc19) ?_; clear ha a; rintro v20 w21 ⟨rfl, hx22⟩ a ha
    replace hB3 := hB3.ext hx22
    have hE23 := Ext.trans hE14 hx22
    refine op_g ha rfl (g_pick rfl rfl) ?_; clear ha a; intro a ha
    refine op_g ha rfl (g_assign rfl) ?_; clear ha a; intro a ha
    refine wpList_nil ?_
    replace ha := ha.sub (σ' := [(4, (.bool x18))]) ⟨rfl, trivial⟩
    refine e_then ?_
    refine wp_ret ?_
    obtain rfl := Option.some.inj hF
    exact f_ret1 ha rfl rfl ⟨rfl, hE23⟩
  · replace hF := if_f hp15 hF
    rw [show (x9) = false from b_false (Iff.rfl) hp15] at ha
    refine op_unwant ha rfl (yields ha rfl rfl) rfl ?_; clear ha a; intro a ha
    refine op_unwant ha rfl (yields ha rfl rfl) rfl ?_; clear ha a; intro a ha
    refine op_unwant ha rfl (yields ha rfl rfl) rfl ?_; clear ha a; intro a ha
    refine op_unwant ha rfl (yields ha rfl rfl) rfl ?_; clear ha a; intro a ha
    refine op_unwant ha rfl (yields ha rfl rfl) rfl ?_; clear ha a; intro a ha
    refine op_unwant ha rfl (yields ha rfl rfl) rfl ?_; clear ha a; intro a ha
    refine op_g ha rfl (g_pick rfl rfl) ?_; clear ha a; intro a ha
    refine op_g ha rfl (g_assign rfl) ?_; clear ha a; intro a ha
    refine wpList_nil ?_
    replace ha := ha.sub (σ' := [(4, (.bool false))]) ⟨rfl, trivial⟩
    refine e_then ?_
    refine wp_ret ?_
    obtain rfl := Option.some.inj hF
    exact f_ret1 ha rfl rfl ⟨rfl, hE14⟩
set_option maxHeartbeats 2000000 in
theorem W_impl_EdgeIn {W : World} {va0_0 : Value} {fa0_0 : List Nat} {a0_0 : (List (List Int))} (ha0_0 : Ro (Rp.sl 2 Rp.int) W fa0_0 va0_0 a0_0) {a1 : Int} (ha1 : InI a1) {a2 : Int} (ha2 : InI a2) {r : Bool} (hF : F_impl_EdgeIn a0_0 a1 a2 = some r) :
    Calls Try.prog 72 [.agg #[va0_0], .int .i64 a1, .int .i64 a2].toArray W (Ret fun u w' => u = .bool r ∧ Ext W w') := by
  refine f_enter Try.func72 rfl Try.ntmps72 rfl ?_
  intro a ha
  replace ha : Fr 19 [(0, (.agg #[va0_0])), (1, (.int .i64 a1)), (2, (.int .i64 a2))] a := ha
  have hE : Chg [] W W := Chg.refl _ _
  unfold F_impl_EdgeIn at hF
  refine wp_seq ?_
  refine wp_region_lit ?_
  refine o_box ha rfl rfl rfl ?_; clear ha a; intro b1 w2 hB3 hx4 hlo5 a ha
  have q6 := Zn.one hlo5
  have q7 := Zn.upD q6 hE
  have hE8 := Ext.trans hE hx4
  refine op_g ha rfl (g_assign rfl) ?_; clear ha a; intro a ha
  refine wpList_nil ?_
  replace ha := ha.sub (σ' := [(1, (.int .i64 a1)), (2, (.int .i64 a2)), (3, (.pointer (some ⟨b1, 0, none⟩)))]) ⟨rfl, rfl, rfl, trivial⟩
  refine e_then ?_
  refine wp_seq ?_
  refine wp_region_lit ?_
  refine op_g ha rfl (g_loadA (cs := [va0_0]) Try.isAgg30 Try.sizeOf30 rfl (by simp) hB3.all) ?_; clear ha a; intro a ha
  refine op_g ha rfl (g_move rfl) ?_; clear ha a; intro a ha
  obtain ⟨x9, hc10, hF⟩ := cal_some hF
  refine o_call ha rfl rfl Try.call77 (W_impl_isVertex (ha0_0.ext hE8) ha1 hc10) ?_; clear ha a; rintro v11 w12 ⟨rfl, hx13⟩ a ha
  replace hB3 := hB3.ext hx13
  have hE14 := Ext.trans hE8 hx13
  refine op_g ha rfl (g_move rfl) ?_; clear ha a; intro a ha
  by_cases hp15 : x9 = true
  · replace hF := if_t hp15 hF
    rw [show (x9) = true from (Iff.rfl).2 hp15] at ha
    refine op_want (yields ha rfl rfl) ?_
    refine op_g ha rfl (g_field0 st30_0 rfl) ?_; clear ha a; intro a ha
    refine op_want (yields ha rfl rfl) ?_
    refine op_g ha rfl (g_load Try.isAgg22 rfl (hB3.cell rfl)) ?_; clear ha a; intro a ha
    refine op_want (yields ha rfl rfl) ?_
    refine op_g ha rfl (g_move rfl) ?_; clear ha a; intro a ha
    refine op_want (yields ha rfl rfl) ?_
    obtain ⟨x16, g17, gx18, hF⟩ := idx_some hF
    obtain ⟨p19, cs20, f21, hf22, hpb23, hat24, hr25, hi26⟩ := ha0_0.at g17 gx18
    obtain ⟨v27, rfl, h28⟩ := hr25
    have h28 : Ro Rp.int W f21 v27 x16 := h28
    refine op_g ha rfl (hi26.gives sl22 rfl rfl) ?_; clear ha a; intro a ha
    refine op_want (yields ha rfl rfl) ?_
    refine op_g ha rfl (g_load0 hE14 Try.isAgg25 rfl hat24.one) ?_; clear ha a; intro a ha
    refine op_want (yields ha rfl rfl) ?_
    refine op_g ha rfl (g_move rfl) ?_; clear ha a; intro a ha
    refine op_want (yields ha rfl rfl) ?_
    obtain ⟨x30, hc31, hF⟩ := cal_some hF
    refine o_call ha rfl rfl Try.call71 (W_slices_Contains_int64 (h28.ext hE14) ha2 hc31) ?_; clear ha a; rintro v32 w33 ⟨rfl, hx34⟩ a ha
    replace hB3 := hB3.ext hx34
    have hE35 := Ext.trans hE14 hx34
    refine op_g ha rfl (g_pick rfl rfl) ?_; clear ha a; intro a ha
    refine op_g ha rfl (g_assign rfl) ?_; clear ha a; intro a ha
    refine wpList_nil ?_
    replace ha := ha.sub (σ' := [(6, (.bool x30))]) ⟨rfl, trivial⟩
    refine e_then ?_
    refine wp_ret ?_
    obtain rfl := Option.some.inj hF
    exact f_ret1 ha rfl rfl ⟨rfl, hE35⟩
  · replace hF := if_f hp15 hF
    rw [show (x9) = false from b_false (Iff.rfl) hp15] at ha
    refine op_unwant ha rfl (yields ha rfl rfl) rfl ?_; clear ha a; intro a ha
    refine op_unwant ha rfl (yields ha rfl rfl) rfl ?_; clear ha a; intro a ha
    refine op_unwant ha rfl (yields ha rfl rfl) rfl ?_; clear ha a; intro a ha
    refine op_unwant ha rfl (yields ha rfl rfl) rfl ?_; clear ha a; intro a ha
    refine op_unwant ha rfl (yields ha rfl rfl) rfl ?_; clear ha a; intro a ha
    refine op_unwant ha rfl (yields ha rfl rfl) rfl ?_; clear ha a; intro a ha
    refine op_unwant ha rfl (yields ha rfl rfl) rfl ?_; clear ha a; intro a ha
    refine op_g ha rfl (g_pick rfl rfl) ?_; clear ha a; intro a ha
    refine op_g ha rfl (g_assign rfl) ?_; clear ha a; intro a ha
    refine wpList_nil ?_
    replace ha := ha.sub (σ' := [(6, (.bool false))]) ⟨rfl, trivial⟩
    refine e_then ?_
    refine wp_ret ?_
    obtain rfl := Option.some.inj hF
    exact f_ret1 ha rfl rfl ⟨rfl, hE14⟩
set_option maxHeartbeats 2000000 in
theorem W_impl_isEdge {W : World} {va0_0 : Value} {fa0_0 : List Nat} {a0_0 : (List (List Int))} (ha0_0 : Ro (Rp.sl 2 Rp.int) W fa0_0 va0_0 a0_0) {va1 : Value} {fa1 : List Nat} {a1 : (List Int)} (ha1 : Ro Rp.int W fa1 va1 a1) {r : Bool} (hF : F_impl_isEdge a0_0 a1 = some r) :
    Calls Try.prog 58 [.agg #[va0_0], va1].toArray W (Ret fun u w' => u = .bool r ∧ Ext W w') := by
  refine f_enter Try.func58 rfl Try.ntmps58 rfl ?_
  intro a ha
  replace ha : Fr 27 [(0, (.agg #[va0_0])), (1, va1)] a := ha
  have hE : Chg [] W W := Chg.refl _ _
  unfold F_impl_isEdge at hF
  refine wp_seq ?_
  refine wp_region_lit ?_
  refine o_box ha rfl rfl rfl ?_; clear ha a; intro b1 w2 hB3 hx4 hlo5 a ha
  have q6 := Zn.one hlo5
  have q7 := Zn.upD q6 hE
  have hE8 := Ext.trans hE hx4
  refine op_g ha rfl (g_assign rfl) ?_; clear ha a; intro a ha
  refine wpList_nil ?_
  replace ha := ha.sub (σ' := [(1, va1), (2, (.pointer (some ⟨b1, 0, none⟩)))]) ⟨rfl, rfl, trivial⟩
  refine e_then ?_
  refine wp_seq ?_
  refine d_quiet hmix (by kernel_rfl) ?_
  refine q_g ha rfl (g_move rfl) ?_; clear ha a; intro a ha
  refine q_g ha rfl (g_lenR sl25.und ha1 rfl) ?_; clear ha a; intro a ha
  refine q_g ha rfl (g_eql rfl rfl) ?_; clear ha a; intro a ha
  refine q_g ha rfl (g_move rfl) ?_; clear ha a; intro a ha
  by_cases hp9 : (a1.length : Int) = 2
  · replace hF := if_t hp9 hF
    rw [show (decide ((a1.length : Int) = 2)) = true from (decide_eq_true_iff).2 hp9] at ha
    refine q_want (yields ha rfl rfl) ?_
    refine q_g ha rfl (g_move rfl) ?_; clear ha a; intro a ha
    refine q_want (yields ha rfl rfl) ?_
    obtain ⟨x10, g11, gx12, hF⟩ := idx_some hF
    obtain ⟨p13, cs14, f15, hf16, hpb17, hat18, hr19, hi20⟩ := ha1.at g11 gx12
    obtain ⟨rfl, hI21, rfl⟩ := hr19
    refine q_g ha rfl (hi20.gives sl25 rfl rfl) ?_; clear ha a; intro a ha
    refine q_want (yields ha rfl rfl) ?_
    refine q_g ha rfl (g_load0 hE8 Try.isAgg2 rfl hat18.one) ?_; clear ha a; intro a ha
    refine q_want (yields ha rfl rfl) ?_
    refine q_g ha rfl (g_move rfl) ?_; clear ha a; intro a ha
    refine q_want (yields ha rfl rfl) ?_
    obtain ⟨x22, g23, gx24, hF⟩ := idx_some hF
    obtain ⟨p25, cs26, f27, hf28, hpb29, hat30, hr31, hi32⟩ := ha1.at g23 gx24
    obtain ⟨rfl, hI33, rfl⟩ := hr31
    refine q_g ha rfl (hi32.gives sl25 rfl rfl) ?_; clear ha a; intro a ha
    refine q_want (yields ha rfl rfl) ?_
    refine q_g ha rfl (g_load0 hE8 Try.isAgg2 rfl hat30.one) ?_; clear ha a; intro a ha
    refine q_want (yields ha rfl rfl) ?_
    refine q_g ha rfl (g_lss rfl rfl) ?_; clear ha a; intro a ha
    refine q_g ha rfl (g_pick rfl rfl) ?_; clear ha a; intro a ha
    refine q_g ha rfl (g_move rfl) ?_; clear ha a; intro a ha
    by_cases hp34 : x10 < x22
    · replace hF := if_t hp34 hF
      rw [show (decide (x10 < x22)) = true from (decide_eq_true_iff).2 hp34] at ha
      refine q_want (yields ha rfl rfl) ?_
      refine q_g ha rfl (g_loadA (cs := [va0_0]) Try.isAgg30 Try.sizeOf30 rfl (by simp) hB3.all) ?_; clear ha a; intro a ha
      refine q_want (yields ha rfl rfl) ?_
      refine q_g ha rfl (g_move rfl) ?_; clear ha a; intro a ha
      refine q_want (yields ha rfl rfl) ?_
      obtain ⟨x35, g36, gx37, hF⟩ := idx_some hF
      obtain ⟨p38, cs39, f40, hf41, hpb42, hat43, hr44, hi45⟩ := ha1.at g36 gx37
      obtain ⟨rfl, hI46, rfl⟩ := hr44
      refine q_g ha rfl (hi45.gives sl25 rfl rfl) ?_; clear ha a; intro a ha
      refine q_want (yields ha rfl rfl) ?_
      refine q_g ha rfl (g_load0 hE8 Try.isAgg2 rfl hat43.one) ?_; clear ha a; intro a ha
      refine q_want (yields ha rfl rfl) ?_
      refine q_g ha rfl (g_move rfl) ?_; clear ha a; intro a ha
      refine q_want (yields ha rfl rfl) ?_
      obtain ⟨x47, g48, gx49, hF⟩ := idx_some hF
      obtain ⟨p50, cs51, f52, hf53, hpb54, hat55, hr56, hi57⟩ := ha1.at g48 gx49
      obtain ⟨rfl, hI58, rfl⟩ := hr56
      refine q_g ha rfl (hi57.gives sl25 rfl rfl) ?_; clear ha a; intro a ha
      refine q_want (yields ha rfl rfl) ?_
      refine q_g ha rfl (g_load0 hE8 Try.isAgg2 rfl hat55.one) ?_; clear ha a; intro a ha
      refine q_want (yields ha rfl rfl) ?_
      obtain ⟨x61, hc62, hF⟩ := cal_some hF
      refine q_call (.bool x61) ha rfl rfl Try.call72 (fun w60 hx59 => W_impl_EdgeIn (ha0_0.ext (Ext.trans hE8 hx59)) hI46 hI58 hc62) (fun _ _ _ h => ⟨h.1, h.2⟩) ?_; clear ha a; intro a ha
      refine q_g ha rfl (g_pick rfl rfl) ?_; clear ha a; intro a ha
      refine q_g ha rfl (g_assign rfl) ?_; clear ha a; intro a ha
      refine q_nil ?_; intro w63 hx64
      replace hB3 := hB3.ext hx64
      have hE65 := Ext.trans hE8 hx64
      replace ha := ha.sub (σ' := [(4, (.bool x61))]) ⟨rfl, trivial⟩
      refine e_then ?_
      refine wp_ret ?_
      obtain rfl := Option.some.inj hF
      exact f_ret1 ha rfl rfl ⟨rfl, hE65⟩
    · replace hF := if_f hp34 hF
      rw [show (decide (x10 < x22)) = false from b_false (decide_eq_true_iff) hp34] at ha
      refine q_unwant ha rfl (yields ha rfl rfl) rfl ?_; clear ha a; intro a ha
      refine q_unwant ha rfl (yields ha rfl rfl) rfl ?_; clear ha a; intro a ha
      refine q_unwant ha rfl (yields ha rfl rfl) rfl ?_; clear ha a; intro a ha
      refine q_unwant ha rfl (yields ha rfl rfl) rfl ?_; clear ha a; intro a ha
      refine q_unwant ha rfl (yields ha rfl rfl) rfl ?_; clear ha a; intro a ha
      refine q_unwant ha rfl (yields ha rfl rfl) rfl ?_; clear ha a; intro a ha
      refine q_unwant ha rfl (yields ha rfl rfl) rfl ?_; clear ha a; intro a ha
      refine q_unwant ha rfl (yields ha rfl rfl) rfl ?_; clear ha a; intro a ha
      refine q_g ha rfl (g_pick rfl rfl) ?_; clear ha a; intro a ha
      refine q_g ha rfl (g_assign rfl) ?_; clear ha a; intro a ha
      refine q_nil ?_; intro w66 hx67
      replace hB3 := hB3.ext hx67
      have hE68 := Ext.trans hE8 hx67
      replace ha := ha.sub (σ' := [(4, (.bool false))]) ⟨rfl, trivial⟩
      refine e_then ?_
      refine wp_ret ?_
      obtain rfl := Option.some.inj hF
      exact f_ret1 ha rfl rfl ⟨rfl, hE68⟩
  · replace hF := if_f hp9 hF
    rw [show (decide ((a1.length : Int) = 2)) = false from b_false (decide_eq_true_iff) hp9] at ha
    refine q_unwant ha rfl (yields ha rfl rfl) rfl ?_; clear ha a; intro a ha
    refine q_unwant ha rfl (yields ha rfl rfl) rfl ?_; clear ha a; intro a ha
    refine q_unwant ha rfl (yields ha rfl rfl) rfl ?_; clear ha a; intro a ha
    refine q_unwant ha rfl (yields ha rfl rfl) rfl ?_; clear ha a; intro a ha
    refine q_unwant ha rfl (yields ha rfl rfl) rfl ?_; clear ha a; intro a ha
    refine q_unwant ha rfl (yields ha rfl rfl) rfl ?_; clear ha a; intro a ha
    refine q_unwant ha rfl (yields ha rfl rfl) rfl ?_; clear ha a; intro a ha
    refine q_g ha rfl (g_pick rfl rfl) ?_; clear ha a; intro a ha
    refine q_g ha rfl (g_move rfl) ?_; clear ha a; intro a ha
    refine q_unwant ha rfl (yields ha rfl rfl) rfl ?_; clear ha a; intro a ha
    refine q_unwant ha rfl (yields ha rfl rfl) rfl ?_; clear ha a; intro a ha
    refine q_unwant ha rfl (yields ha rfl rfl) rfl ?_; clear ha a; intro a ha
    refine q_unwant ha rfl (yields ha rfl rfl) rfl ?_; clear ha a; intro a ha
    refine q_unwant ha rfl (yields ha rfl rfl) rfl ?_; clear ha a; intro a ha
    refine q_unwant ha rfl (yields ha rfl rfl) rfl ?_; clear ha a; intro a ha
    refine q_unwant ha rfl (yields ha rfl rfl) rfl ?_; clear ha a; intro a ha
    refine q_unwant ha rfl (yields ha rfl rfl) rfl ?_; clear ha a; intro a ha
    refine q_g ha rfl (g_pick rfl rfl) ?_; clear ha a; intro a ha
    refine q_g ha rfl (g_assign rfl) ?_; clear ha a; intro a ha
    refine q_nil ?_; intro w69 hx70
    replace hB3 := hB3.ext hx70
    have hE71 := Ext.trans hE8 hx70
    replace ha := ha.sub (σ' := [(4, (.bool false))]) ⟨rfl, trivial⟩
    refine e_then ?_
    refine wp_ret ?_
    obtain rfl := Option.some.inj hF
    exact f_ret1 ha rfl rfl ⟨rfl, hE71⟩
set_option maxHeartbeats 2000000 in
theorem W_impl_one {W : World} {a0 : Int} (ha0 : InI a0) {r : (BitVec 32)} (hF : F_impl_one a0 = some r) :
    Calls Try.prog 73 [.int .i64 a0].toArray W (Ret fun u w' => u = .int .u32 (BitVec.toNat r : Int) ∧ Ext W w') := by
  refine f_enter Try.func73 rfl Try.ntmps73 rfl ?_
  intro a ha
  replace ha : Fr 5 [(0, (.int .i64 a0))] a := ha
  have hE : Chg [] W W := Chg.refl _ _
  unfold F_impl_one at hF
  refine wp_seq ?_
  refine wp_region_lit ?_
  refine op_g ha rfl (g_assign rfl) ?_; clear ha a; intro a ha
  refine wpList_nil ?_
  replace ha := ha.sub (σ' := [(0, (.int .i64 a0))]) ⟨rfl, trivial⟩
  refine e_then ?_
  refine wp_seq ?_
  refine wp_region_lit ?_
  refine op_g ha rfl (g_move rfl) ?_; clear ha a; intro a ha
  obtain ⟨hs1, hF⟩ := grd_some hF
  refine op_g ha rfl (g32_shl (m := (1#32)) rfl rfl hs1) ?_; clear ha a; intro a ha
  refine op_g ha rfl (g_assign rfl) ?_; clear ha a; intro a ha
  refine wpList_nil ?_
  replace ha := ha.sub (σ' := [(2, (.int .u32 (BitVec.toNat ((1#32) <<< (a0 : Int).toNat) : Int)))]) ⟨rfl, trivial⟩
  refine e_then ?_
  refine wp_ret ?_
  obtain rfl := Option.some.inj hF
  exact f_ret1 ha rfl rfl ⟨rfl, hE⟩
set_option maxHeartbeats 2000000 in
theorem W_impl_maskOf {W : World} {va0 : Value} {fa0 : List Nat} {a0 : (List Int)} (ha0 : Ro Rp.int W fa0 va0 a0) {r : (BitVec 32)} (hF : F_impl_maskOf a0 = some r) :
    Calls Try.prog 59 [va0].toArray W (Ret fun u w' => u = .int .u32 (BitVec.toNat r : Int) ∧ Ext W w') := by
  refine f_enter Try.func59 rfl Try.ntmps59 rfl ?_
  intro a ha
  replace ha : Fr 18 [(0, va0)] a := ha
  have hE : Chg [] W W := Chg.refl _ _
  unfold F_impl_maskOf at hF
  refine wp_seq ?_
  refine wp_region_lit ?_
  refine op_g ha rfl (g_assign rfl) ?_; clear ha a; intro a ha
  refine wpList_nil ?_
  replace ha := ha.sub (σ' := [(0, va0)]) ⟨rfl, trivial⟩
  refine e_then ?_
  refine wp_seq ?_
  refine wp_region_lit ?_
  refine op_g ha rfl (g_assign rfl) ?_; clear ha a; intro a ha
  refine wpList_nil ?_
  refine e_then ?_
  refine wp_seq ?_
  refine wp_seq ?_
  refine wp_region_lit ?_
  refine op_g ha rfl (g_move rfl) ?_; clear ha a; intro a ha
  refine op_g ha rfl (g_lenR sl25.und ha0 rfl) ?_; clear ha a; intro a ha
  refine op_g ha rfl (g_move rfl) ?_; clear ha a; intro a ha
  refine wpList_nil ?_
  replace ha := ha.sub (σ' := [(3, (.int .u32 (BitVec.toNat (0#32) : Int))), (6, va0), (7, (.int .i64 (a0.length : Int))), (8, (.int .i64 0))]) ⟨rfl, rfl, rfl, rfl, trivial⟩
  refine e_then ?_
  obtain ⟨o60, ho61, hK62⟩ := bnd_some hF
  obtain ⟨n63, hn64⟩ := lp_some ho61; clear ho61
  refine c_loop (fun a w => ∃ (u59 : BitVec 32), Fr 18 [(3, (.int .u32 (BitVec.toNat u59 : Int)))] a ∧ Chg [] W w ∧ o60 = .inl u59) (fun n a w => ∃ (u29 : BitVec 32) (i30 : Int), Fr 18 [(3, (.int .u32 (BitVec.toNat u29 : Int))), (6, va0), (7, (.int .i64 (a0.length : Int))), (8, (.int .i64 i30))] a ∧ Chg [] W w ∧ InI i30 ∧ lpN (fun s => F_impl_maskOf_l1 a0 s.1 s.2) n (u29, i30) = some o60) n63 ⟨0#32, 0, ha.sub ⟨rfl, rfl, rfl, rfl, trivial⟩, hE, (show InI 0 from by decide), hn64⟩ ?_ ?_
  · rintro m68 a w28 ⟨u29, i30, ha, hE32, hI31, hF⟩
    cases m68 with
    | zero => exact (lpN_zero hF).elim
    | succ m68 =>
      obtain ⟨z67, hF, hN66⟩ := lpN_succ hF
      have hF : F_impl_maskOf_l1 a0 u29 i30 = some z67 := hF; unfold F_impl_maskOf_l1 at hF
      refine wp_seq ?_
      refine wp_region_lit ?_
      refine op_g ha rfl (g_lss rfl rfl) ?_; clear ha a; intro a ha
      refine wpList_nil ?_
      replace ha := ha.sub (σ' := [(3, (.int .u32 (BitVec.toNat u29 : Int))), (6, va0), (7, (.int .i64 (a0.length : Int))), (8, (.int .i64 i30)), (9, (.bool (decide (i30 < (a0.length : Int)))))]) ⟨rfl, rfl, rfl, rfl, rfl, trivial⟩
      refine e_then ?_
      refine wp_seq ?_
      refine c_cond (i30 < (a0.length : Int)) ha rfl (decide_eq_true_iff) (fun hp69 => ?_) (fun hp69 => ?_)
      · replace hF := if_t hp69 hF
        refine wp_skip ?_
        refine e_then ?_
        refine wp_seq ?_
        refine wp_block ?_
        refine wp_seq ?_
        refine wp_region_lit ?_
        obtain ⟨x70, g71, gx72, hF⟩ := idx_some hF
        obtain ⟨p73, cs74, f75, hf76, hpb77, hat78, hr79, hi80⟩ := ha0.at g71 gx72
        obtain ⟨rfl, hI81, rfl⟩ := hr79
        refine op_g ha rfl (hi80.gives sl25 rfl rfl) ?_; clear ha a; intro a ha
        refine op_g ha rfl (g_load0 hE32 Try.isAgg2 rfl hat78.one) ?_; clear ha a; intro a ha
        refine op_g ha rfl (g_assign rfl) ?_; clear ha a; intro a ha
        refine wpList_nil ?_
        replace ha := ha.sub (σ' := [(3, (.int .u32 (BitVec.toNat u29 : Int))), (5, (.int .i64 x70)), (6, va0), (7, (.int .i64 (a0.length : Int))), (8, (.int .i64 i30))]) ⟨rfl, rfl, rfl, rfl, rfl, trivial⟩
        refine e_then ?_
        refine wp_region_lit ?_
        refine op_g ha rfl (g_move rfl) ?_; clear ha a; intro a ha
        refine op_g ha rfl (g_move rfl) ?_; clear ha a; intro a ha
        obtain ⟨x82, hc83, hF⟩ := cal_some hF
        refine o_call ha rfl rfl Try.call73 (W_impl_one hI81 hc83) ?_; clear ha a; rintro v84 w85 ⟨rfl, hx86⟩ a ha
        have hE87 := Ext.trans hE32 hx86
        refine op_g ha rfl (g32_or (m := u29) (n := x82) rfl rfl) ?_; clear ha a; intro a ha
        refine op_g ha rfl (g_assign rfl) ?_; clear ha a; intro a ha
        refine wpList_nil ?_
        replace ha := ha.sub (σ' := [(3, (.int .u32 (BitVec.toNat (u29 ||| x82) : Int))), (6, va0), (7, (.int .i64 (a0.length : Int))), (8, (.int .i64 i30))]) ⟨rfl, rfl, rfl, rfl, trivial⟩
        refine e_blk ?_
        refine e_then ?_
        refine wp_region_lit ?_
        obtain ⟨hI88, hF⟩ := ck_some hF
        refine op_g ha rfl (g_add rfl rfl hI88) ?_; clear ha a; intro a ha
        refine op_g ha rfl (g_move rfl) ?_; clear ha a; intro a ha
        refine wpList_nil ?_
        replace ha := ha.sub (σ' := [(3, (.int .u32 (BitVec.toNat (u29 ||| x82) : Int))), (6, va0), (7, (.int .i64 (a0.length : Int))), (8, (.int .i64 (i30 + 1)))]) ⟨rfl, rfl, rfl, rfl, trivial⟩
        refine e_lq ?_
        obtain rfl := Option.some.inj hF
        exact ⟨_, Nat.lt_succ_self _, u29 ||| x82, i30 + 1, ha.sub ⟨rfl, rfl, rfl, rfl, trivial⟩, hE87, hI88, hN66⟩
      · replace hF := if_f hp69 hF
        refine wp_exit ?_
        refine e_then_exit ?_
        refine e_lq_eq ?_
        obtain rfl := Option.some.inj hF
        exact ⟨u29, ha.sub ⟨rfl, trivial⟩, hE32, (LK_inr hN66).symm⟩
  · rintro a w58 ⟨u59, ha, hE65, rfl⟩
    have hF : F_impl_maskOf_k2 u59 = some _ := hK62; clear hK62; unfold F_impl_maskOf_k2 at hF
    refine e_then ?_
    refine wp_seq ?_
    refine wp_region_lit ?_
    refine op_g ha rfl (g_move rfl) ?_; clear ha a; intro a ha
    refine op_g ha rfl (g_assign rfl) ?_; clear ha a; intro a ha
    refine wpList_nil ?_
    replace ha := ha.sub (σ' := [(2, (.int .u32 (BitVec.toNat u59 : Int)))]) ⟨rfl, trivial⟩
    refine e_then ?_
    refine wp_ret ?_
    obtain rfl := Option.some.inj hF
    exact f_ret1 ha rfl rfl ⟨rfl, hE65⟩
set_option maxHeartbeats 2000000 in
theorem W_impl_MatchOk {W : World} {va0_0 : Value} {fa0_0 : List Nat} {a0_0 : (List (List Int))} (ha0_0 : Ro (Rp.sl 2 Rp.int) W fa0_0 va0_0 a0_0) {va1 : Value} {fa1 : List Nat} {a1 : (List (List Int))} (ha1 : Ro (Rp.sl 2 Rp.int) W fa1 va1 a1) {r : Bool} (hF : F_impl_MatchOk a0_0 a1 = some r) :
    Calls Try.prog 33 [.agg #[va0_0], va1].toArray W (Ret fun u w' => u = .bool r ∧ Ext W w') := by
  refine f_enter Try.func33 rfl Try.ntmps33 rfl ?_
  intro a ha
  replace ha : Fr 51 [(0, (.agg #[va0_0])), (1, va1)] a := ha
  have hE : Chg [] W W := Chg.refl _ _
  unfold F_impl_MatchOk at hF
  refine wp_seq ?_
  refine wp_region_lit ?_
  refine o_box ha rfl rfl rfl ?_; clear ha a; intro b1 w2 hB3 hx4 hlo5 a ha
  have q6 := Zn.one hlo5
  have q7 := Zn.upD q6 hE
  have hE8 := Ext.trans hE hx4
  refine op_g ha rfl (g_assign rfl) ?_; clear ha a; intro a ha
  refine wpList_nil ?_
  replace ha := ha.sub (σ' := [(1, va1), (2, (.pointer (some ⟨b1, 0, none⟩)))]) ⟨rfl, rfl, trivial⟩
  refine e_then ?_
  refine wp_seq ?_
  refine wp_seq ?_
  refine wp_region_lit ?_
  refine op_g ha rfl (g_loadA (cs := [va0_0]) Try.isAgg30 Try.sizeOf30 rfl (by simp) hB3.all) ?_; clear ha a; intro a ha
  obtain ⟨x9, hc10, hF⟩ := cal_some hF
  refine o_call ha rfl rfl Try.call57 (W_impl_GraphOk (ha0_0.ext hE8) hc10) ?_; clear ha a; rintro v11 w12 ⟨rfl, hx13⟩ a ha
  replace hB3 := hB3.ext hx13
  have hE14 := Ext.trans hE8 hx13
  refine op_g ha rfl (g_not rfl) ?_; clear ha a; intro a ha
  refine wpList_nil ?_
  replace ha := ha.sub (σ' := [(1, va1), (2, (.pointer (some ⟨b1, 0, none⟩))), (10, (.bool (!x9)))]) ⟨rfl, rfl, rfl, trivial⟩
  refine e_then ?_
  refine c_cond (¬ (x9 = true)) ha rfl (n_iff (Iff.rfl)) (fun hp15 => ?_) (fun hp15 => ?_)
  · replace hF := if_t hp15 hF
    refine wp_seq ?_
    refine wp_region_lit ?_
    refine op_g ha rfl (g_assign rfl) ?_; clear ha a; intro a ha
    refine wpList_nil ?_
    replace ha := ha.sub (σ' := [(4, (.bool false))]) ⟨rfl, trivial⟩
    refine e_then ?_
    refine wp_ret ?_
    refine e_then_ret ?_
    obtain rfl := Option.some.inj hF
    exact f_ret1 ha rfl rfl ⟨rfl, hE14⟩
  · replace hF := if_f hp15 hF
    refine wp_skip ?_
    refine e_then ?_
    refine wp_seq ?_
    refine wp_region_lit ?_
    refine op_g ha rfl (g_assign rfl) ?_; clear ha a; intro a ha
    refine wpList_nil ?_
    replace ha := ha.sub (σ' := [(1, va1), (2, (.pointer (some ⟨b1, 0, none⟩))), (5, (.int .u32 (BitVec.toNat (0#32) : Int)))]) ⟨rfl, rfl, rfl, trivial⟩
    refine e_then ?_
    refine wp_seq ?_
    refine wp_seq ?_
    refine wp_region_lit ?_
    refine op_g ha rfl (g_move rfl) ?_; clear ha a; intro a ha
    refine op_g ha rfl (g_lenR sl22.und ha1 rfl) ?_; clear ha a; intro a ha
    refine op_g ha rfl (g_move rfl) ?_; clear ha a; intro a ha
    refine wpList_nil ?_
    replace ha := ha.sub (σ' := [(1, va1), (2, (.pointer (some ⟨b1, 0, none⟩))), (5, (.int .u32 (BitVec.toNat (0#32) : Int))), (11, va1), (12, (.int .i64 (a1.length : Int))), (13, (.int .i64 0))]) ⟨rfl, rfl, rfl, rfl, rfl, rfl, trivial⟩
    refine e_then ?_
    obtain ⟨o230, ho231, hK232⟩ := bnd_some hF
    obtain ⟨n233, hn234⟩ := lp_some ho231; clear ho231
    refine c_loop (fun a w => Fr 51 [] a ∧ Chg [] W w ∧ o230 = .inl ()) (fun n a w => ∃ (u124 : BitVec 32) (i125 : Int), Fr 51 [(1, va1), (2, (.pointer (some ⟨b1, 0, none⟩))), (5, (.int .u32 (BitVec.toNat u124 : Int))), (11, va1), (12, (.int .i64 (a1.length : Int))), (13, (.int .i64 i125))] a ∧ Chg [] W w ∧ InI i125 ∧ Bx w b1 [va0_0] 30 ∧ Zn W (b1 : Int) ∧ lpN (fun s => F_impl_MatchOk_l1 a0_0 a1 s.1 s.2) n (u124, i125) = some o230) n233 ⟨0#32, 0, ha.sub ⟨rfl, rfl, rfl, rfl, rfl, rfl, trivial⟩, hE14, (show InI 0 from by decide), hB3, q7, hn234⟩ ?_ ?_
    · rintro m238 a w121 ⟨u124, i125, ha, hE127, hI126, hB122, z123, hF⟩
      cases m238 with
      | zero => exact (lpN_zero hF).elim
      | succ m238 =>
        obtain ⟨z237, hF, hN236⟩ := lpN_succ hF
        have hF : F_impl_MatchOk_l1 a0_0 a1 u124 i125 = some z237 := hF; unfold F_impl_MatchOk_l1 at hF
        refine wp_seq ?_
        refine wp_region_lit ?_
        refine op_g ha rfl (g_lss rfl rfl) ?_; clear ha a; intro a ha
        refine wpList_nil ?_
        replace ha := ha.sub (σ' := [(1, va1), (2, (.pointer (some ⟨b1, 0, none⟩))), (5, (.int .u32 (BitVec.toNat u124 : Int))), (11, va1), (12, (.int .i64 (a1.length : Int))), (13, (.int .i64 i125)), (14, (.bool (decide (i125 < (a1.length : Int)))))]) ⟨rfl, rfl, rfl, rfl, rfl, rfl, rfl, trivial⟩
        refine e_then ?_
        refine wp_seq ?_
        refine c_cond (i125 < (a1.length : Int)) ha rfl (decide_eq_true_iff) (fun hp239 => ?_) (fun hp239 => ?_)
        · replace hF := if_t hp239 hF
          refine wp_skip ?_
          refine e_then ?_
          refine wp_seq ?_
          refine wp_block ?_
          refine wp_seq ?_
          refine wp_region_lit ?_
          refine op_g ha rfl (g_move rfl) ?_; clear ha a; intro a ha
          obtain ⟨x240, g241, gx242, hF⟩ := idx_some hF
          obtain ⟨p243, cs244, f245, hf246, hpb247, hat248, hr249, hi250⟩ := ha1.at g241 gx242
          obtain ⟨v251, rfl, h252⟩ := hr249
          have h252 : Ro Rp.int W f245 v251 x240 := h252
          refine op_g ha rfl (hi250.gives sl22 rfl rfl) ?_; clear ha a; intro a ha
          refine op_g ha rfl (g_load0 hE127 Try.isAgg25 rfl hat248.one) ?_; clear ha a; intro a ha
          refine op_g ha rfl (g_assign rfl) ?_; clear ha a; intro a ha
          refine op_g ha rfl (g_assign rfl) ?_; clear ha a; intro a ha
          refine wpList_nil ?_
          replace ha := ha.sub (σ' := [(1, va1), (2, (.pointer (some ⟨b1, 0, none⟩))), (5, (.int .u32 (BitVec.toNat u124 : Int))), (6, (.int .i64 i125)), (7, v251), (11, va1), (12, (.int .i64 (a1.length : Int))), (13, (.int .i64 i125))]) ⟨rfl, rfl, rfl, rfl, rfl, rfl, rfl, rfl, trivial⟩
          refine e_then ?_
          refine wp_seq ?_
          refine wp_seq ?_
          refine d_quiet hmix (by kernel_rfl) ?_
          refine q_g ha rfl (g_loadA (cs := [va0_0]) Try.isAgg30 Try.sizeOf30 rfl (by simp) hB122.all) ?_; clear ha a; intro a ha
          refine q_g ha rfl (g_move rfl) ?_; clear ha a; intro a ha
          obtain ⟨x256, hc257, hF⟩ := cal_some hF
          refine q_call (.bool x256) ha rfl rfl Try.call58 (fun w255 hx254 => W_impl_isEdge (ha0_0.ext (Ext.trans hE127 hx254)) (h252.ext (Ext.trans hE127 hx254)) hc257) (fun _ _ _ h => ⟨h.1, h.2⟩) ?_; clear ha a; intro a ha
          refine q_g ha rfl (g_not rfl) ?_; clear ha a; intro a ha
          refine q_g ha rfl (g_move rfl) ?_; clear ha a; intro a ha
          by_cases hp258 : ¬ (x256 = true)
          · replace hF := if_t hp258 hF
            rw [show (!x256) = true from (n_iff (Iff.rfl)).2 hp258] at ha
            refine q_unwant ha rfl (yields ha rfl rfl) rfl ?_; clear ha a; intro a ha
            refine q_unwant ha rfl (yields ha rfl rfl) rfl ?_; clear ha a; intro a ha
            refine q_unwant ha rfl (yields ha rfl rfl) rfl ?_; clear ha a; intro a ha
            refine q_unwant ha rfl (yields ha rfl rfl) rfl ?_; clear ha a; intro a ha
            refine q_unwant ha rfl (yields ha rfl rfl) rfl ?_; clear ha a; intro a ha
            refine q_g ha rfl (g_pick rfl rfl) ?_; clear ha a; intro a ha
            refine q_g ha rfl (g_move rfl) ?_; clear ha a; intro a ha
            refine q_unwant ha rfl (yields ha rfl rfl) rfl ?_; clear ha a; intro a ha
            refine q_unwant ha rfl (yields ha rfl rfl) rfl ?_; clear ha a; intro a ha
            refine q_unwant ha rfl (yields ha rfl rfl) rfl ?_; clear ha a; intro a ha
            refine q_unwant0 ha rfl (yields0 ha rfl rfl) ?_; clear ha a; intro a ha
            refine q_unwant0 ha rfl (yields0 ha rfl rfl) ?_; clear ha a; intro a ha
            refine q_unwant0 ha rfl (yields0 ha rfl rfl) ?_; clear ha a; intro a ha
            refine q_unwant0 ha rfl (yields0 ha rfl rfl) ?_; clear ha a; intro a ha
            refine q_unwant0 ha rfl (yields0 ha rfl rfl) ?_; clear ha a; intro a ha
            refine q_unwant0 ha rfl (yields0 ha rfl rfl) ?_; clear ha a; intro a ha
            refine q_unwant0 ha rfl (yields0 ha rfl rfl) ?_; clear ha a; intro a ha
            refine q_unwant0 ha rfl (yields0 ha rfl rfl) ?_; clear ha a; intro a ha
            refine q_unwant0 ha rfl (yields0 ha rfl rfl) ?_; clear ha a; intro a ha
            refine q_unwant0 ha rfl (yields0 ha rfl rfl) ?_; clear ha a; intro a ha
            refine q_unwant0 ha rfl (yields0 ha rfl rfl) ?_; clear ha a; intro a ha
            refine q_unwant ha rfl (yields ha rfl rfl) rfl ?_; clear ha a; intro a ha
            refine q_g ha rfl (g_pick rfl rfl) ?_; clear ha a; intro a ha
            refine q_nil ?_; intro w259 hx260
            replace hB122 := hB122.ext hx260
            have hE261 := Ext.trans hE127 hx260
            replace ha := ha.sub (σ' := [(1, va1), (2, (.pointer (some ⟨b1, 0, none⟩))), (5, (.int .u32 (BitVec.toNat u124 : Int))), (7, v251), (11, va1), (12, (.int .i64 (a1.length : Int))), (13, (.int .i64 i125)), (45, (.bool true))]) ⟨rfl, rfl, rfl, rfl, rfl, rfl, rfl, rfl, trivial⟩
            refine e_then ?_
            refine c_true ha rfl ?_
            refine wp_seq ?_
            refine wp_region_lit ?_
            refine op_g ha rfl (g_assign rfl) ?_; clear ha a; intro a ha
            refine wpList_nil ?_
            replace ha := ha.sub (σ' := [(4, (.bool false))]) ⟨rfl, trivial⟩
            refine e_then ?_
            refine wp_ret ?_
            refine e_then_ret ?_
            refine e_blk_ret ?_
            refine e_then_ret ?_
            refine e_lq_ret ?_
            refine e_then_ret ?_
            obtain rfl := Option.some.inj hF
            have e262 := LK_inr hN236; subst e262
            have e263 := BK_inr hK232; subst e263
            exact f_ret1 ha rfl rfl ⟨rfl, hE261⟩
          · replace hF := if_f hp258 hF
            rw [show (!x256) = false from b_false (n_iff (Iff.rfl)) hp258] at ha
            refine q_want (yields ha rfl rfl) ?_
            refine q_g ha rfl (g_move rfl) ?_; clear ha a; intro a ha
            refine q_want (yields ha rfl rfl) ?_
            obtain ⟨x266, hc267, hF⟩ := cal_some hF
            refine q_call (.int .u32 (BitVec.toNat x266 : Int)) ha rfl rfl Try.call59 (fun w265 hx264 => W_impl_maskOf (h252.ext (Ext.trans hE127 hx264)) hc267) (fun _ _ _ h => ⟨h.1, h.2⟩) ?_; clear ha a; intro a ha
            refine q_want (yields ha rfl rfl) ?_
            refine q_g ha rfl (g_move rfl) ?_; clear ha a; intro a ha
            refine q_want (yields ha rfl rfl) ?_
            refine q_g ha rfl (g32_and (m := x266) (n := u124) rfl rfl) ?_; clear ha a; intro a ha
            refine q_want (yields ha rfl rfl) ?_
            refine q_g ha rfl (g32_neq (m := (x266 &&& u124)) (n := (0#32)) rfl rfl) ?_; clear ha a; intro a ha
            refine q_g ha rfl (g_pick rfl rfl) ?_; clear ha a; intro a ha
            refine q_g ha rfl (g_move rfl) ?_; clear ha a; intro a ha
            by_cases hp268 : (x266 &&& u124) ≠ (0#32)
            · replace hF := if_t hp268 hF
              rw [show (decide ((x266 &&& u124) ≠ (0#32))) = true from (decide_eq_true_iff).2 hp268] at ha
              refine q_unwant ha rfl (yields ha rfl rfl) rfl ?_; clear ha a; intro a ha
              refine q_unwant ha rfl (yields ha rfl rfl) rfl ?_; clear ha a; intro a ha
              refine q_unwant ha rfl (yields ha rfl rfl) rfl ?_; clear ha a; intro a ha
              refine q_unwant0 ha rfl (yields0 ha rfl rfl) ?_; clear ha a; intro a ha
              refine q_unwant0 ha rfl (yields0 ha rfl rfl) ?_; clear ha a; intro a ha
              refine q_unwant0 ha rfl (yields0 ha rfl rfl) ?_; clear ha a; intro a ha
              refine q_unwant0 ha rfl (yields0 ha rfl rfl) ?_; clear ha a; intro a ha
              refine q_unwant0 ha rfl (yields0 ha rfl rfl) ?_; clear ha a; intro a ha
              refine q_unwant0 ha rfl (yields0 ha rfl rfl) ?_; clear ha a; intro a ha
              refine q_unwant0 ha rfl (yields0 ha rfl rfl) ?_; clear ha a; intro a ha
              refine q_unwant0 ha rfl (yields0 ha rfl rfl) ?_; clear ha a; intro a ha
              refine q_unwant0 ha rfl (yields0 ha rfl rfl) ?_; clear ha a; intro a ha
              refine q_unwant0 ha rfl (yields0 ha rfl rfl) ?_; clear ha a; intro a ha
              refine q_unwant0 ha rfl (yields0 ha rfl rfl) ?_; clear ha a; intro a ha
              refine q_unwant ha rfl (yields ha rfl rfl) rfl ?_; clear ha a; intro a ha
              refine q_g ha rfl (g_pick rfl rfl) ?_; clear ha a; intro a ha
              refine q_nil ?_; intro w269 hx270
              replace hB122 := hB122.ext hx270
              have hE271 := Ext.trans hE127 hx270
              replace ha := ha.sub (σ' := [(1, va1), (2, (.pointer (some ⟨b1, 0, none⟩))), (5, (.int .u32 (BitVec.toNat u124 : Int))), (7, v251), (11, va1), (12, (.int .i64 (a1.length : Int))), (13, (.int .i64 i125)), (23, v251), (24, (.int .u32 (BitVec.toNat x266 : Int))), (25, (.int .u32 (BitVec.toNat u124 : Int))), (26, (.int .u32 (BitVec.toNat (x266 &&& u124) : Int))), (27, (.bool true)), (45, (.bool true))]) ⟨rfl, rfl, rfl, rfl, rfl, rfl, rfl, rfl, rfl, rfl, rfl, rfl, rfl, trivial⟩
              refine e_then ?_
              refine c_true ha rfl ?_
              refine wp_seq ?_
              refine wp_region_lit ?_
              refine op_g ha rfl (g_assign rfl) ?_; clear ha a; intro a ha
              refine wpList_nil ?_
              replace ha := ha.sub (σ' := [(4, (.bool false))]) ⟨rfl, trivial⟩
              refine e_then ?_
              refine wp_ret ?_
              refine e_then_ret ?_
              refine e_blk_ret ?_
              refine e_then_ret ?_
              refine e_lq_ret ?_
              refine e_then_ret ?_
              obtain rfl := Option.some.inj hF
              have e272 := LK_inr hN236; subst e272
              have e273 := BK_inr hK232; subst e273
              exact f_ret1 ha rfl rfl ⟨rfl, hE271⟩
            · replace hF := if_f hp268 hF
              rw [show (decide ((x266 &&& u124) ≠ (0#32))) = false from b_false (decide_eq_true_iff) hp268] at ha
              refine q_want (yields ha rfl rfl) ?_
              refine q_g ha rfl (g_move rfl) ?_; clear ha a; intro a ha
              refine q_want (yields ha rfl rfl) ?_
              refine q_g ha rfl (g_gtr rfl rfl) ?_; clear ha a; intro a ha
              refine q_want (yields ha rfl rfl) ?_
              refine q_g ha rfl (g_move rfl) ?_; clear ha a; intro a ha
              by_cases hp274 : 0 < i125
              · replace hF := if_t hp274 hF
                rw [show (decide (0 < i125)) = true from (decide_eq_true_iff).2 hp274] at ha
                refine q_want (yields ha rfl rfl) ?_
                refine q_g ha rfl (g_move rfl) ?_; clear ha a; intro a ha
                refine q_want (yields ha rfl rfl) ?_
                refine q_g ha rfl (g_move rfl) ?_; clear ha a; intro a ha
                refine q_want (yields ha rfl rfl) ?_
                obtain ⟨hI275, hF⟩ := ck_some hF
                refine q_g ha rfl (g_sub rfl rfl hI275) ?_; clear ha a; intro a ha
                refine q_want (yields ha rfl rfl) ?_
                obtain ⟨x277, g278, gx279, hF⟩ := idx_some hF
                obtain ⟨p280, cs281, f282, hf283, hpb284, hat285, hr286, hi287⟩ := ha1.at g278 gx279
                obtain ⟨v288, rfl, h289⟩ := hr286
                have h289 : Ro Rp.int W f282 v288 x277 := h289
                refine q_g ha rfl (hi287.gives sl22 rfl rfl) ?_; clear ha a; intro a ha
                refine q_want (yields ha rfl rfl) ?_
                refine q_g ha rfl (g_load0 hE127 Try.isAgg25 rfl hat285.one) ?_; clear ha a; intro a ha
                refine q_want (yields ha rfl rfl) ?_
                obtain ⟨x291, g292, gx293, hF⟩ := idx_some hF
                obtain ⟨p294, cs295, f296, hf297, hpb298, hat299, hr300, hi301⟩ := h289.at g292 gx293
                obtain ⟨rfl, hI302, rfl⟩ := hr300
                refine q_g ha rfl (hi301.gives sl25 rfl rfl) ?_; clear ha a; intro a ha
                refine q_want (yields ha rfl rfl) ?_
                refine q_g ha rfl (g_load0 hE127 Try.isAgg2 rfl hat299.one) ?_; clear ha a; intro a ha
                refine q_want (yields ha rfl rfl) ?_
                refine q_g ha rfl (g_move rfl) ?_; clear ha a; intro a ha
                refine q_want (yields ha rfl rfl) ?_
                obtain ⟨x303, g304, gx305, hF⟩ := idx_some hF
                obtain ⟨p306, cs307, f308, hf309, hpb310, hat311, hr312, hi313⟩ := h252.at g304 gx305
                obtain ⟨rfl, hI314, rfl⟩ := hr312
                refine q_g ha rfl (hi313.gives sl25 rfl rfl) ?_; clear ha a; intro a ha
                refine q_want (yields ha rfl rfl) ?_
                refine q_g ha rfl (g_load0 hE127 Try.isAgg2 rfl hat311.one) ?_; clear ha a; intro a ha
                refine q_want (yields ha rfl rfl) ?_
                refine q_g ha rfl (g_geq rfl rfl) ?_; clear ha a; intro a ha
                refine q_want (yields ha rfl rfl) ?_
                refine q_g ha rfl (g_pick rfl rfl) ?_; clear ha a; intro a ha
                refine q_g ha rfl (g_pick rfl rfl) ?_; clear ha a; intro a ha
                refine q_nil ?_; intro w315 hx316
                replace hB122 := hB122.ext hx316
                have hE317 := Ext.trans hE127 hx316
                replace ha := ha.sub (σ' := [(1, va1), (2, (.pointer (some ⟨b1, 0, none⟩))), (5, (.int .u32 (BitVec.toNat u124 : Int))), (7, v251), (11, va1), (12, (.int .i64 (a1.length : Int))), (13, (.int .i64 i125)), (23, v251), (24, (.int .u32 (BitVec.toNat x266 : Int))), (25, (.int .u32 (BitVec.toNat u124 : Int))), (26, (.int .u32 (BitVec.toNat (x266 &&& u124) : Int))), (27, (.bool false)), (30, (.int .i64 i125)), (31, (.bool true)), (32, (.bool true)), (33, va1), (34, (.int .i64 i125)), (35, (.int .i64 (i125 - 1))), (36, (.pointer (some p280))), (37, v288), (38, (.pointer (some p294))), (39, (.int .i64 x291)), (40, v251), (41, (.pointer (some p306))), (42, (.int .i64 x303)), (43, (.bool (decide (x303 ≤ x291)))), (44, (.bool (decide (x303 ≤ x291)))), (45, (.bool (decide (x303 ≤ x291))))]) ⟨rfl, rfl, rfl, rfl, rfl, rfl, rfl, rfl, rfl, rfl, rfl, rfl, rfl, rfl, rfl, rfl, rfl, rfl, rfl, rfl, rfl, rfl, rfl, rfl, rfl, rfl, rfl, rfl, trivial⟩
                refine e_then ?_
                refine c_cond (x303 ≤ x291) ha rfl (decide_eq_true_iff) (fun hp318 => ?_) (fun hp318 => ?_)
                · replace hF := if_t hp318 hF
                  refine wp_seq ?_
                  refine wp_region_lit ?_
                  refine op_g ha rfl (g_assign rfl) ?_; clear ha a; intro a ha
                  refine wpList_nil ?_
                  replace ha := ha.sub (σ' := [(4, (.bool false))]) ⟨rfl, trivial⟩
                  refine e_then ?_
                  refine wp_ret ?_
                  refine e_then_ret ?_
                  refine e_blk_ret ?_
                  refine e_then_ret ?_
                  refine e_lq_ret ?_
                  refine e_then_ret ?_
                  obtain rfl := Option.some.inj hF
                  have e319 := LK_inr hN236; subst e319
                  have e320 := BK_inr hK232; subst e320
                  exact f_ret1 ha rfl rfl ⟨rfl, hE317⟩
                · replace hF := if_f hp318 hF
                  refine wp_skip ?_
                  refine e_then ?_
                  refine wp_region_lit ?_
                  refine op_g ha rfl (g_move rfl) ?_; clear ha a; intro a ha
                  refine op_g ha rfl (g_move rfl) ?_; clear ha a; intro a ha
                  obtain ⟨x321, hc322, hF⟩ := cal_some hF
                  refine o_call ha rfl rfl Try.call59 (W_impl_maskOf (h252.ext hE317) hc322) ?_; clear ha a; rintro v323 w324 ⟨rfl, hx325⟩ a ha
                  replace hB122 := hB122.ext hx325
                  have hE326 := Ext.trans hE317 hx325
                  refine op_g ha rfl (g32_or (m := u124) (n := x321) rfl rfl) ?_; clear ha a; intro a ha
                  refine op_g ha rfl (g_assign rfl) ?_; clear ha a; intro a ha
                  refine wpList_nil ?_
                  replace ha := ha.sub (σ' := [(1, va1), (2, (.pointer (some ⟨b1, 0, none⟩))), (5, (.int .u32 (BitVec.toNat (u124 ||| x321) : Int))), (11, va1), (12, (.int .i64 (a1.length : Int))), (13, (.int .i64 i125)), (23, v251), (24, (.int .u32 (BitVec.toNat x266 : Int))), (25, (.int .u32 (BitVec.toNat u124 : Int))), (26, (.int .u32 (BitVec.toNat (x266 &&& u124) : Int))), (27, (.bool false)), (30, (.int .i64 i125)), (31, (.bool true)), (32, (.bool true)), (33, va1), (34, (.int .i64 i125)), (35, (.int .i64 (i125 - 1))), (36, (.pointer (some p280))), (37, v288), (38, (.pointer (some p294))), (39, (.int .i64 x291)), (40, v251), (41, (.pointer (some p306))), (42, (.int .i64 x303)), (43, (.bool (decide (x303 ≤ x291)))), (44, (.bool (decide (x303 ≤ x291))))]) ⟨rfl, rfl, rfl, rfl, rfl, rfl, rfl, rfl, rfl, rfl, rfl, rfl, rfl, rfl, rfl, rfl, rfl, rfl, rfl, rfl, rfl, rfl, rfl, rfl, rfl, rfl, trivial⟩
                  refine e_blk ?_
                  refine e_then ?_
                  refine wp_region_lit ?_
                  obtain ⟨hI327, hF⟩ := ck_some hF
                  refine op_g ha rfl (g_add rfl rfl hI327) ?_; clear ha a; intro a ha
                  refine op_g ha rfl (g_move rfl) ?_; clear ha a; intro a ha
                  refine wpList_nil ?_
                  replace ha := ha.sub (σ' := [(1, va1), (2, (.pointer (some ⟨b1, 0, none⟩))), (5, (.int .u32 (BitVec.toNat (u124 ||| x321) : Int))), (11, va1), (12, (.int .i64 (a1.length : Int))), (13, (.int .i64 (i125 + 1))), (23, v251), (24, (.int .u32 (BitVec.toNat x266 : Int))), (25, (.int .u32 (BitVec.toNat u124 : Int))), (26, (.int .u32 (BitVec.toNat (x266 &&& u124) : Int))), (27, (.bool false)), (30, (.int .i64 i125)), (31, (.bool true)), (32, (.bool true)), (33, va1), (34, (.int .i64 i125)), (35, (.int .i64 (i125 - 1))), (36, (.pointer (some p280))), (37, v288), (38, (.pointer (some p294))), (39, (.int .i64 x291)), (40, v251), (41, (.pointer (some p306))), (42, (.int .i64 x303)), (43, (.bool (decide (x303 ≤ x291)))), (44, (.bool (decide (x303 ≤ x291))))]) ⟨rfl, rfl, rfl, rfl, rfl, rfl, rfl, rfl, rfl, rfl, rfl, rfl, rfl, rfl, rfl, rfl, rfl, rfl, rfl, rfl, rfl, rfl, rfl, rfl, rfl, rfl, trivial⟩
                  refine e_lq ?_
                  obtain rfl := Option.some.inj hF
                  exact ⟨_, Nat.lt_succ_self _, u124 ||| x321, i125 + 1, ha.sub ⟨rfl, rfl, rfl, rfl, rfl, rfl, trivial⟩, hE326, hI327, hB122, z123, hN236⟩
              · replace hF := if_f hp274 hF
                rw [show (decide (0 < i125)) = false from b_false (decide_eq_true_iff) hp274] at ha
                refine q_unwant ha rfl (yields ha rfl rfl) rfl ?_; clear ha a; intro a ha
                refine q_unwant ha rfl (yields ha rfl rfl) rfl ?_; clear ha a; intro a ha
                refine q_unwant ha rfl (yields ha rfl rfl) rfl ?_; clear ha a; intro a ha
                refine q_unwant ha rfl (yields ha rfl rfl) rfl ?_; clear ha a; intro a ha
                refine q_unwant ha rfl (yields ha rfl rfl) rfl ?_; clear ha a; intro a ha
                refine q_unwant ha rfl (yields ha rfl rfl) rfl ?_; clear ha a; intro a ha
                refine q_unwant ha rfl (yields ha rfl rfl) rfl ?_; clear ha a; intro a ha
                refine q_unwant ha rfl (yields ha rfl rfl) rfl ?_; clear ha a; intro a ha
                refine q_unwant ha rfl (yields ha rfl rfl) rfl ?_; clear ha a; intro a ha
                refine q_unwant ha rfl (yields ha rfl rfl) rfl ?_; clear ha a; intro a ha
                refine q_unwant ha rfl (yields ha rfl rfl) rfl ?_; clear ha a; intro a ha
                refine q_want (yields ha rfl rfl) ?_
                refine q_g ha rfl (g_pick rfl rfl) ?_; clear ha a; intro a ha
                refine q_g ha rfl (g_pick rfl rfl) ?_; clear ha a; intro a ha
                refine q_nil ?_; intro w329 hx330
                replace hB122 := hB122.ext hx330
                have hE331 := Ext.trans hE127 hx330
                replace ha := ha.sub (σ' := [(1, va1), (2, (.pointer (some ⟨b1, 0, none⟩))), (5, (.int .u32 (BitVec.toNat u124 : Int))), (7, v251), (11, va1), (12, (.int .i64 (a1.length : Int))), (13, (.int .i64 i125)), (23, v251), (24, (.int .u32 (BitVec.toNat x266 : Int))), (25, (.int .u32 (BitVec.toNat u124 : Int))), (26, (.int .u32 (BitVec.toNat (x266 &&& u124) : Int))), (27, (.bool false)), (30, (.int .i64 i125)), (31, (.bool false)), (32, (.bool false)), (44, (.bool false)), (45, (.bool false))]) ⟨rfl, rfl, rfl, rfl, rfl, rfl, rfl, rfl, rfl, rfl, rfl, rfl, rfl, rfl, rfl, rfl, rfl, trivial⟩
                refine e_then ?_
                refine c_false ha rfl ?_
                refine wp_skip ?_
                refine e_then ?_
                refine wp_region_lit ?_
                refine op_g ha rfl (g_move rfl) ?_; clear ha a; intro a ha
                refine op_g ha rfl (g_move rfl) ?_; clear ha a; intro a ha
                obtain ⟨x332, hc333, hF⟩ := cal_some hF
                refine o_call ha rfl rfl Try.call59 (W_impl_maskOf (h252.ext hE331) hc333) ?_; clear ha a; rintro v334 w335 ⟨rfl, hx336⟩ a ha
                replace hB122 := hB122.ext hx336
                have hE337 := Ext.trans hE331 hx336
                refine op_g ha rfl (g32_or (m := u124) (n := x332) rfl rfl) ?_; clear ha a; intro a ha
                refine op_g ha rfl (g_assign rfl) ?_; clear ha a; intro a ha
                refine wpList_nil ?_
                replace ha := ha.sub (σ' := [(1, va1), (2, (.pointer (some ⟨b1, 0, none⟩))), (5, (.int .u32 (BitVec.toNat (u124 ||| x332) : Int))), (11, va1), (12, (.int .i64 (a1.length : Int))), (13, (.int .i64 i125)), (23, v251), (24, (.int .u32 (BitVec.toNat x266 : Int))), (25, (.int .u32 (BitVec.toNat u124 : Int))), (26, (.int .u32 (BitVec.toNat (x266 &&& u124) : Int))), (27, (.bool false)), (30, (.int .i64 i125)), (31, (.bool false)), (32, (.bool false)), (44, (.bool false))]) ⟨rfl, rfl, rfl, rfl, rfl, rfl, rfl, rfl, rfl, rfl, rfl, rfl, rfl, rfl, rfl, trivial⟩
                refine e_blk ?_
                refine e_then ?_
                refine wp_region_lit ?_
                obtain ⟨hI338, hF⟩ := ck_some hF
                refine op_g ha rfl (g_add rfl rfl hI338) ?_; clear ha a; intro a ha
                refine op_g ha rfl (g_move rfl) ?_; clear ha a; intro a ha
                refine wpList_nil ?_
                replace ha := ha.sub (σ' := [(1, va1), (2, (.pointer (some ⟨b1, 0, none⟩))), (5, (.int .u32 (BitVec.toNat (u124 ||| x332) : Int))), (11, va1), (12, (.int .i64 (a1.length : Int))), (13, (.int .i64 (i125 + 1))), (23, v251), (24, (.int .u32 (BitVec.toNat x266 : Int))), (25, (.int .u32 (BitVec.toNat u124 : Int))), (26, (.int .u32 (BitVec.toNat (x266 &&& u124) : Int))), (27, (.bool false)), (30, (.int .i64 i125)), (31, (.bool false)), (32, (.bool false)), (44, (.bool false))]) ⟨rfl, rfl, rfl, rfl, rfl, rfl, rfl, rfl, rfl, rfl, rfl, rfl, rfl, rfl, rfl, trivial⟩
                refine e_lq ?_
                obtain rfl := Option.some.inj hF
                exact ⟨_, Nat.lt_succ_self _, u124 ||| x332, i125 + 1, ha.sub ⟨rfl, rfl, rfl, rfl, rfl, rfl, trivial⟩, hE337, hI338, hB122, z123, hN236⟩
        · replace hF := if_f hp239 hF
          refine wp_exit ?_
          refine e_then_exit ?_
          refine e_lq_eq ?_
          obtain rfl := Option.some.inj hF
          exact ⟨ha.sub trivial, hE127, (LK_inr hN236).symm⟩
    · rintro a w229 ⟨ha, hE235, rfl⟩
      have hF : F_impl_MatchOk_k2 = some _ := hK232; clear hK232; unfold F_impl_MatchOk_k2 at hF
      refine e_then ?_
      refine wp_seq ?_
      refine wp_region_lit ?_
      refine op_g ha rfl (g_assign rfl) ?_; clear ha a; intro a ha
      refine wpList_nil ?_
      refine e_then ?_
      refine wp_ret ?_
      obtain rfl := Option.some.inj hF
      exact f_ret1 ha rfl rfl ⟨rfl, hE235⟩
set_option maxHeartbeats 2000000 in
theorem W_impl_mates {W : World} {a0 : Int} (ha0 : InI a0) {va1 : Value} {fa1 : List Nat} {a1 : (List (List Int))} (ha1 : Ro (Rp.sl 2 Rp.int) W fa1 va1 a1) {r : (List Int)} (hF : F_impl_mates a0 a1 = some r) :
    Calls Try.prog 35 [.int .i64 a0, va1].toArray W (Ret fun u w' => ∃ (b_u : Int), Ow Rp.int 3 true w' [] b_u u r ∧ Zn W b_u ∧ Ext W w') := by
  refine f_enter Try.func35 rfl Try.ntmps35 rfl ?_
  intro a ha
  replace ha : Fr 44 [(0, (.int .i64 a0)), (1, va1)] a := ha
  have hE : Chg [] W W := Chg.refl _ _
  unfold F_impl_mates at hF
  refine wp_seq ?_
  refine wp_region_lit ?_
  refine op_g ha rfl (g_assign rfl) ?_; clear ha a; intro a ha
  refine wpList_nil ?_
  replace ha := ha.sub (σ' := [(0, (.int .i64 a0)), (1, va1)]) ⟨rfl, rfl, trivial⟩
  refine e_then ?_
  refine wp_seq ?_
  refine wp_region_lit ?_
  refine op_g ha rfl (g_move rfl) ?_; clear ha a; intro a ha
  obtain ⟨g5, g5b, hF⟩ := mkS_some hF
  refine o_make (z0 := (0 : Int)) Rp.int ha rfl sl56 rfl (fun w => ⟨rfl, by decide, rfl⟩) rfl g5 g5b ?_; clear ha a; intro v1 w2 h3 hx4 a ha
  obtain ⟨b8, hb8⟩ : ∃ b : Int, b = W.heap.size := ⟨_, rfl⟩; rw [← hb8] at h3
  have q9 := zn_of hb8
  have q10 := Zn.upD q9 hE
  have hE11 := Ext.trans hE hx4
  refine op_g ha rfl (g_assign rfl) ?_; clear ha a; intro a ha
  refine wpList_nil ?_
  replace ha := ha.sub (σ' := [(1, va1), (5, v1)]) ⟨rfl, rfl, trivial⟩
  refine e_then ?_
  refine wp_seq ?_
  refine wp_seq ?_
  refine wp_region_lit ?_
  refine op_g ha rfl (g_move rfl) ?_; clear ha a; intro a ha
  refine op_g ha rfl (g_lenO sl56.und h3 rfl) ?_; clear ha a; intro a ha
  refine op_g ha rfl (g_move rfl) ?_; clear ha a; intro a ha
  refine wpList_nil ?_
  replace ha := ha.sub (σ' := [(1, va1), (5, v1), (12, (.int .i64 ((List.replicate (a0 : Int).toNat (0 : Int)).length : Int))), (13, (.int .i64 0))]) ⟨rfl, rfl, rfl, rfl, trivial⟩
  refine e_then ?_
  obtain ⟨o94, ho95, hK96⟩ := bnd_some hF
  obtain ⟨n97, hn98⟩ := lp_some ho95; clear ho95
  refine c_loop (fun a w => ∃ (l91 : (List Int)) (v92 : Value) (b93 : Int), Fr 44 [(1, va1), (5, v92)] a ∧ Chg [] W w ∧ Ow Rp.int 3 true w [] b93 v92 l91 ∧ Zn W b93 ∧ o94 = .inl l91) (fun n a w => ∃ (l51 : (List Int)) (i54 : Int) (v52 : Value) (b53 : Int), Fr 44 [(1, va1), (5, v52), (12, (.int .i64 ((List.replicate (a0 : Int).toNat (0 : Int)).length : Int))), (13, (.int .i64 i54))] a ∧ Chg [] W w ∧ InI i54 ∧ Ow Rp.int 3 true w [] b53 v52 l51 ∧ Zn W b53 ∧ lpN (fun s => F_impl_mates_l1 a0 s.1 s.2) n (l51, i54) = some o94) n97 ⟨(List.replicate (a0 : Int).toNat (0 : Int)), 0, v1, b8, ha.sub ⟨rfl, rfl, rfl, rfl, trivial⟩, hE11, (show InI 0 from by decide), h3, q10, hn98⟩ ?_ ?_
  · rintro m102 a w47 ⟨l51, i54, v52, b53, ha, hE56, hI55, h49, z50, hF⟩
    cases m102 with
    | zero => exact (lpN_zero hF).elim
    | succ m102 =>
      obtain ⟨z101, hF, hN100⟩ := lpN_succ hF
      have hF : F_impl_mates_l1 a0 l51 i54 = some z101 := hF; unfold F_impl_mates_l1 at hF
      refine wp_seq ?_
      refine wp_region_lit ?_
      refine op_g ha rfl (g_lss rfl rfl) ?_; clear ha a; intro a ha
      refine wpList_nil ?_
      replace ha := ha.sub (σ' := [(1, va1), (5, v52), (12, (.int .i64 ((List.replicate (a0 : Int).toNat (0 : Int)).length : Int))), (13, (.int .i64 i54)), (14, (.bool (decide (i54 < ((List.replicate (a0 : Int).toNat (0 : Int)).length : Int)))))]) ⟨rfl, rfl, rfl, rfl, rfl, trivial⟩
      refine e_then ?_
      refine wp_seq ?_
      refine c_cond (i54 < ((List.replicate (a0 : Int).toNat (0 : Int)).length : Int)) ha rfl (decide_eq_true_iff) (fun hp103 => ?_) (fun hp103 => ?_)
      · replace hF := if_t hp103 hF
        refine wp_skip ?_
        refine e_then ?_
        refine wp_seq ?_
        refine wp_block ?_
        refine wp_seq ?_
        refine wp_region_lit ?_
        refine op_g ha rfl (g_move rfl) ?_; clear ha a; intro a ha
        refine op_g ha rfl (g_assign rfl) ?_; clear ha a; intro a ha
        refine wpList_nil ?_
        replace ha := ha.sub (σ' := [(1, va1), (5, v52), (6, (.int .i64 i54)), (12, (.int .i64 ((List.replicate (a0 : Int).toNat (0 : Int)).length : Int))), (13, (.int .i64 i54))]) ⟨rfl, rfl, rfl, rfl, rfl, trivial⟩
        refine e_then ?_
        refine wp_region_lit ?_
        refine op_g ha rfl (g_move rfl) ?_; clear ha a; intro a ha
        refine op_g ha rfl (g_move rfl) ?_; clear ha a; intro a ha
        obtain ⟨x104, g105, gx106, hF⟩ := idx_some hF
        obtain ⟨p107, cs108, f109, hf110, hpb111, hat112, hr113, hi114⟩ := h49.at g105 gx106
        obtain ⟨rfl, hI115, rfl⟩ := hr113
        refine op_g ha rfl (hi114.gives sl56 rfl rfl) ?_; clear ha a; intro a ha
        refine o_storeE (f := []) (q := (-1)) ha Try.sizeOf3 rfl rfl rfl h49 hi114 ⟨rfl, (show InI (-1) from by decide), rfl⟩ (Nq.nil _) ?_; intro w116 fs117 h118 hc119 hs120
        obtain rfl := Subst.nil hs120
        have hE121 := Ext.then hE56 hc119 (Zn.bl z50)
        refine wpList_nil ?_
        replace ha := ha.sub (σ' := [(1, va1), (5, v52), (12, (.int .i64 ((List.replicate (a0 : Int).toNat (0 : Int)).length : Int))), (13, (.int .i64 i54))]) ⟨rfl, rfl, rfl, rfl, trivial⟩
        refine e_blk ?_
        refine e_then ?_
        refine wp_region_lit ?_
        obtain ⟨hI122, hF⟩ := ck_some hF
        refine op_g ha rfl (g_add rfl rfl hI122) ?_; clear ha a; intro a ha
        refine op_g ha rfl (g_move rfl) ?_; clear ha a; intro a ha
        refine wpList_nil ?_
        replace ha := ha.sub (σ' := [(1, va1), (5, v52), (12, (.int .i64 ((List.replicate (a0 : Int).toNat (0 : Int)).length : Int))), (13, (.int .i64 (i54 + 1)))]) ⟨rfl, rfl, rfl, rfl, trivial⟩
        refine e_lq ?_
        obtain rfl := Option.some.inj hF
        exact ⟨_, Nat.lt_succ_self _, (l51.set ((i54 : Int).toNat) (-1)), i54 + 1, v52, b53, ha.sub ⟨rfl, rfl, rfl, rfl, trivial⟩, hE121, hI122, h118, z50, hN100⟩
      · replace hF := if_f hp103 hF
        refine wp_exit ?_
        refine e_then_exit ?_
        refine e_lq_eq ?_
        obtain rfl := Option.some.inj hF
        exact ⟨l51, v52, b53, ha.sub ⟨rfl, rfl, trivial⟩, hE56, h49, z50, (LK_inr hN100).symm⟩
  · rintro a w87 ⟨l91, v92, b93, ha, hE99, h89, z90, rfl⟩
    have hF : F_impl_mates_k2 a1 l91 = some _ := hK96; clear hK96; unfold F_impl_mates_k2 at hF
    refine e_then ?_
    refine wp_seq ?_
    refine wp_seq ?_
    refine wp_region_lit ?_
    refine op_g ha rfl (g_move rfl) ?_; clear ha a; intro a ha
    refine op_g ha rfl (g_lenR sl22.und ha1 rfl) ?_; clear ha a; intro a ha
    refine op_g ha rfl (g_move rfl) ?_; clear ha a; intro a ha
    refine wpList_nil ?_
    replace ha := ha.sub (σ' := [(5, v92), (20, va1), (21, (.int .i64 (a1.length : Int))), (22, (.int .i64 0))]) ⟨rfl, rfl, rfl, rfl, trivial⟩
    refine e_then ?_
    obtain ⟨o390, ho391, hK392⟩ := bnd_some hF
    obtain ⟨n393, hn394⟩ := lp_some ho391; clear ho391
    refine c_loop (fun a w => ∃ (l387 : (List Int)) (v388 : Value) (b389 : Int), Fr 44 [(5, v388)] a ∧ Chg [] W w ∧ Ow Rp.int 3 true w [] b389 v388 l387 ∧ Zn W b389 ∧ o390 = .inl l387) (fun n a w => ∃ (l255 : (List Int)) (i258 : Int) (v256 : Value) (b257 : Int), Fr 44 [(5, v256), (20, va1), (21, (.int .i64 (a1.length : Int))), (22, (.int .i64 i258))] a ∧ Chg [] W w ∧ InI i258 ∧ Ow Rp.int 3 true w [] b257 v256 l255 ∧ Zn W b257 ∧ lpN (fun s => F_impl_mates_l3 a1 s.1 s.2) n (l255, i258) = some o390) n393 ⟨l91, 0, v92, b93, ha.sub ⟨rfl, rfl, rfl, rfl, trivial⟩, hE99, (show InI 0 from by decide), h89, z90, hn394⟩ ?_ ?_
    · rintro m398 a w251 ⟨l255, i258, v256, b257, ha, hE260, hI259, h253, z254, hF⟩
      cases m398 with
      | zero => exact (lpN_zero hF).elim
      | succ m398 =>
        obtain ⟨z397, hF, hN396⟩ := lpN_succ hF
        have hF : F_impl_mates_l3 a1 l255 i258 = some z397 := hF; unfold F_impl_mates_l3 at hF
        refine wp_seq ?_
        refine wp_region_lit ?_
        refine op_g ha rfl (g_lss rfl rfl) ?_; clear ha a; intro a ha
        refine wpList_nil ?_
        replace ha := ha.sub (σ' := [(5, v256), (20, va1), (21, (.int .i64 (a1.length : Int))), (22, (.int .i64 i258)), (23, (.bool (decide (i258 < (a1.length : Int)))))]) ⟨rfl, rfl, rfl, rfl, rfl, trivial⟩
        refine e_then ?_
        refine wp_seq ?_
        refine c_cond (i258 < (a1.length : Int)) ha rfl (decide_eq_true_iff) (fun hp399 => ?_) (fun hp399 => ?_)
        · replace hF := if_t hp399 hF
          refine wp_skip ?_
          refine e_then ?_
          refine wp_seq ?_
          refine wp_block ?_
          refine wp_seq ?_
          refine wp_region_lit ?_
          obtain ⟨x400, g401, gx402, hF⟩ := idx_some hF
          obtain ⟨p403, cs404, f405, hf406, hpb407, hat408, hr409, hi410⟩ := ha1.at g401 gx402
          obtain ⟨v411, rfl, h412⟩ := hr409
          have h412 : Ro Rp.int W f405 v411 x400 := h412
          refine op_g ha rfl (hi410.gives sl22 rfl rfl) ?_; clear ha a; intro a ha
          refine op_g ha rfl (g_load0 hE260 Try.isAgg25 rfl hat408.one) ?_; clear ha a; intro a ha
          refine op_g ha rfl (g_assign rfl) ?_; clear ha a; intro a ha
          refine wpList_nil ?_
          replace ha := ha.sub (σ' := [(5, v256), (8, v411), (20, va1), (21, (.int .i64 (a1.length : Int))), (22, (.int .i64 i258))]) ⟨rfl, rfl, rfl, rfl, rfl, trivial⟩
          refine e_then ?_
          refine d_region [0, 1, 2, 3, 5, 6, 7, 8, 9, 10, 11, 12, 13, 14] hmix ?_
          refine u_p 4 rfl (by kernel_rfl) (want0 _) ha rfl (fun _ => g_move rfl) ?_; clear ha a; intro a ha
          refine u_g 0 rfl (by kernel_rfl) (want0 _) ha rfl (g_move rfl) ?_; clear ha a; intro a ha
          refine u_g 1 rfl (by kernel_rfl) (want0 _) ha rfl (g_move rfl) ?_; clear ha a; intro a ha
          obtain ⟨x414, g415, gx416, hF⟩ := idx_some hF
          obtain ⟨p417, cs418, f419, hf420, hpb421, hat422, hr423, hi424⟩ := h412.at g415 gx416
          obtain ⟨rfl, hI425, rfl⟩ := hr423
          refine u_g 2 rfl (by kernel_rfl) (want0 _) ha rfl (hi424.gives sl25 rfl rfl) ?_; clear ha a; intro a ha
          refine u_g 3 rfl (by kernel_rfl) (want0 _) ha rfl (g_load0 hE260 Try.isAgg2 rfl hat422.one) ?_; clear ha a; intro a ha
          refine u_g 5 rfl (by kernel_rfl) (want0 _) ha rfl (g_move rfl) ?_; clear ha a; intro a ha
          obtain ⟨x426, g427, gx428, hF⟩ := idx_some hF
          obtain ⟨p429, cs430, f431, hf432, hpb433, hat434, hr435, hi436⟩ := h412.at g427 gx428
          obtain ⟨rfl, hI437, rfl⟩ := hr435
          refine u_g 6 rfl (by kernel_rfl) (want0 _) ha rfl (hi436.gives sl25 rfl rfl) ?_; clear ha a; intro a ha
          refine u_g 7 rfl (by kernel_rfl) (want0 _) ha rfl (g_load0 hE260 Try.isAgg2 rfl hat434.one) ?_; clear ha a; intro a ha
          refine u_g 8 rfl (by kernel_rfl) (want0 _) ha rfl (g_move rfl) ?_; clear ha a; intro a ha
          obtain ⟨x438, g439, gx440, hF⟩ := idx_some hF
          obtain ⟨p441, cs442, f443, hf444, hpb445, hat446, hr447, hi448⟩ := h412.at g439 gx440
          obtain ⟨rfl, hI449, rfl⟩ := hr447
          refine u_g 9 rfl (by kernel_rfl) (want0 _) ha rfl (hi448.gives sl25 rfl rfl) ?_; clear ha a; intro a ha
          refine u_g 10 rfl (by kernel_rfl) (want0 _) ha rfl (g_load0 hE260 Try.isAgg2 rfl hat446.one) ?_; clear ha a; intro a ha
          refine u_g 11 rfl (by kernel_rfl) (want0 _) ha rfl (g_move rfl) ?_; clear ha a; intro a ha
          obtain ⟨x450, g451, gx452, hF⟩ := idx_some hF
          obtain ⟨p453, cs454, f455, hf456, hpb457, hat458, hr459, hi460⟩ := h412.at g451 gx452
          obtain ⟨rfl, hI461, rfl⟩ := hr459
          refine u_g 12 rfl (by kernel_rfl) (want0 _) ha rfl (hi460.gives sl25 rfl rfl) ?_; clear ha a; intro a ha
          refine u_g 13 rfl (by kernel_rfl) (want0 _) ha rfl (g_load0 hE260 Try.isAgg2 rfl hat458.one) ?_; clear ha a; intro a ha
          obtain ⟨x462, g463, gx464, hF⟩ := idx_some hF
          obtain ⟨p465, cs466, f467, hf468, hpb469, hat470, hr471, hi472⟩ := h253.at g463 gx464
          obtain ⟨rfl, hI473, rfl⟩ := hr471
          refine u_g 14 rfl (by kernel_rfl) (want0 _) ha rfl (hi472.gives sl56 rfl rfl) ?_; clear ha a; intro a ha
          refine u_only 15 rfl (by kernel_rfl) ?_; intro w474 hx475
          replace h253 := h253.ext hx475
          have hE476 := Ext.trans hE260 hx475
          refine o_storeE (f := []) (q := x438) ha Try.sizeOf3 rfl rfl rfl h253 hi472 ⟨rfl, hI449, rfl⟩ (Nq.nil _) ?_; intro w477 fs478 h479 hc480 hs481
          obtain rfl := Subst.nil hs481
          have hE482 := Ext.then hE476 hc480 (Zn.bl z254)
          refine wpList_nil (e_sq ?_)
          refine ⟨fun h => absurd h (by decide), ?_⟩
          refine u_only 16 rfl (by kernel_rfl) ?_; intro w483 hx484
          replace h479 := h479.ext hx484
          have hE485 := Ext.trans hE482 hx484
          obtain ⟨x486, g487, gx488, hF⟩ := idx_some hF
          obtain ⟨p489, cs490, f491, hf492, hpb493, hat494, hr495, hi496⟩ := h479.at g487 gx488
          obtain ⟨rfl, hI497, rfl⟩ := hr495
          refine op_g ha rfl (hi496.gives sl56 rfl rfl) ?_; clear ha a; intro a ha
          refine wpList_nil (e_sq ?_)
          refine ⟨fun h => absurd h (by decide), ?_⟩
          refine u_only 17 rfl (by kernel_rfl) ?_; intro w498 hx499
          replace h479 := h479.ext hx499
          have hE500 := Ext.trans hE485 hx499
          refine o_storeE (f := []) (q := x450) ha Try.sizeOf3 rfl rfl rfl h479 hi496 ⟨rfl, hI461, rfl⟩ (Nq.nil _) ?_; intro w501 fs502 h503 hc504 hs505
          obtain rfl := Subst.nil hs505
          have hE506 := Ext.then hE500 hc504 (Zn.bl z254)
          refine wpList_nil (e_sq ?_)
          refine ⟨fun h => absurd h (by decide), ?_⟩
          refine u_done (by kernel_rfl) ?_; intro w507 hx508
          replace h503 := h503.ext hx508
          have hE509 := Ext.trans hE506 hx508
          replace ha := ha.sub (σ' := [(5, v256), (20, va1), (21, (.int .i64 (a1.length : Int))), (22, (.int .i64 i258))]) ⟨rfl, rfl, rfl, rfl, trivial⟩
          refine e_blk ?_
          refine e_then ?_
          refine wp_region_lit ?_
          obtain ⟨hI510, hF⟩ := ck_some hF
          refine op_g ha rfl (g_add rfl rfl hI510) ?_; clear ha a; intro a ha
          refine op_g ha rfl (g_move rfl) ?_; clear ha a; intro a ha
          refine wpList_nil ?_
          replace ha := ha.sub (σ' := [(5, v256), (20, va1), (21, (.int .i64 (a1.length : Int))), (22, (.int .i64 (i258 + 1)))]) ⟨rfl, rfl, rfl, rfl, trivial⟩
          refine e_lq ?_
          obtain rfl := Option.some.inj hF
          exact ⟨_, Nat.lt_succ_self _, ((l255.set ((x414 : Int).toNat) x438).set ((x426 : Int).toNat) x450), i258 + 1, v256, b257, ha.sub ⟨rfl, rfl, rfl, rfl, trivial⟩, hE509, hI510, h503, z254, hN396⟩
        · replace hF := if_f hp399 hF
          refine wp_exit ?_
          refine e_then_exit ?_
          refine e_lq_eq ?_
          obtain rfl := Option.some.inj hF
          exact ⟨l255, v256, b257, ha.sub ⟨rfl, trivial⟩, hE260, h253, z254, (LK_inr hN396).symm⟩
    · rintro a w383 ⟨l387, v388, b389, ha, hE395, h385, z386, rfl⟩
      have hF : F_impl_mates_k4 l387 = some _ := hK392; clear hK392; unfold F_impl_mates_k4 at hF
      refine e_then ?_
      refine wp_seq ?_
      refine wp_region_lit ?_
      refine op_g ha rfl (g_move rfl) ?_; clear ha a; intro a ha
      refine op_g ha rfl (g_assign rfl) ?_; clear ha a; intro a ha
      refine wpList_nil ?_
      replace ha := ha.sub (σ' := [(4, v388)]) ⟨rfl, trivial⟩
      refine e_then ?_
      refine wp_ret ?_
      obtain rfl := Option.some.inj hF
      exact f_ret1 ha rfl rfl ⟨_, h385, z386, hE395⟩
set_option maxHeartbeats 2000000 in
theorem W_impl_vset_has {W : World} {a0 : BitVec 32} {a1 : Int} (ha1 : InI a1) {r : Bool} (hF : F_impl_vset_has a0 a1 = some r) :
    Calls Try.prog 74 [.int .u32 (BitVec.toNat a0 : Int), .int .i64 a1].toArray W (Ret fun u w' => u = .bool r ∧ Ext W w') := by
  refine f_enter Try.func74 rfl Try.ntmps74 rfl ?_
  intro a ha
  replace ha : Fr 10 [(0, (.int .u32 (BitVec.toNat a0 : Int))), (1, (.int .i64 a1))] a := ha
  have hE : Chg [] W W := Chg.refl _ _
  unfold F_impl_vset_has at hF
  refine wp_seq ?_
  refine wp_region_lit ?_
  refine op_g ha rfl (g_assign rfl) ?_; clear ha a; intro a ha
  refine wpList_nil ?_
  replace ha := ha.sub (σ' := [(0, (.int .u32 (BitVec.toNat a0 : Int))), (1, (.int .i64 a1))]) ⟨rfl, rfl, trivial⟩
  refine e_then ?_
  refine wp_seq ?_
  refine wp_region_lit ?_
  refine op_g ha rfl (g_move rfl) ?_; clear ha a; intro a ha
  refine op_g ha rfl (g_move rfl) ?_; clear ha a; intro a ha
  obtain ⟨hs1, hF⟩ := grd_some hF
  refine op_g ha rfl (g32_shr (m := a0) rfl rfl hs1) ?_; clear ha a; intro a ha
  refine op_g ha rfl (g32_and (m := (a0 >>> (a1 : Int).toNat)) (n := (1#32)) rfl rfl) ?_; clear ha a; intro a ha
  refine op_g ha rfl (g32_eql (m := ((a0 >>> (a1 : Int).toNat) &&& (1#32))) (n := (1#32)) rfl rfl) ?_; clear ha a; intro a ha
  refine op_g ha rfl (g_assign rfl) ?_; clear ha a; intro a ha
  refine wpList_nil ?_
  replace ha := ha.sub (σ' := [(4, (.bool (decide (((a0 >>> (a1 : Int).toNat) &&& (1#32)) = (1#32)))))]) ⟨rfl, trivial⟩
  refine e_then ?_
  refine wp_ret ?_
  obtain rfl := Option.some.inj hF
  exact f_ret1 ha rfl rfl ⟨rfl, hE⟩
set_option maxHeartbeats 2000000 in
theorem W_impl_isTrail {W : World} {va0_0 : Value} {fa0_0 : List Nat} {a0_0 : (List (List Int))} (ha0_0 : Ro (Rp.sl 2 Rp.int) W fa0_0 va0_0 a0_0) {va1 : Value} {fa1 : List Nat} {a1 : (List Int)} (ha1 : Ro Rp.int W fa1 va1 a1) {r : Bool} (hF : F_impl_isTrail a0_0 a1 = some r) :
    Calls Try.prog 60 [.agg #[va0_0], va1].toArray W (Ret fun u w' => u = .bool r ∧ Ext W w') := by
  refine f_enter Try.func60 rfl Try.ntmps60 rfl ?_
  intro a ha
  replace ha : Fr 50 [(0, (.agg #[va0_0])), (1, va1)] a := ha
  have hE : Chg [] W W := Chg.refl _ _
  unfold F_impl_isTrail at hF
  refine wp_seq ?_
  refine wp_region_lit ?_
  refine o_box ha rfl rfl rfl ?_; clear ha a; intro b1 w2 hB3 hx4 hlo5 a ha
  have q6 := Zn.one hlo5
  have q7 := Zn.upD q6 hE
  have hE8 := Ext.trans hE hx4
  refine op_g ha rfl (g_assign rfl) ?_; clear ha a; intro a ha
  refine wpList_nil ?_
  replace ha := ha.sub (σ' := [(1, va1), (2, (.pointer (some ⟨b1, 0, none⟩)))]) ⟨rfl, rfl, trivial⟩
  refine e_then ?_
  refine wp_seq ?_
  refine wp_region_lit ?_
  refine op_g ha rfl (g_assign rfl) ?_; clear ha a; intro a ha
  refine wpList_nil ?_
  refine e_then ?_
  refine wp_seq ?_
  refine wp_seq ?_
  refine wp_region_lit ?_
  refine op_g ha rfl (g_move rfl) ?_; clear ha a; intro a ha
  refine op_g ha rfl (g_lenR sl25.und ha1 rfl) ?_; clear ha a; intro a ha
  refine op_g ha rfl (g_move rfl) ?_; clear ha a; intro a ha
  refine wpList_nil ?_
  replace ha := ha.sub (σ' := [(1, va1), (2, (.pointer (some ⟨b1, 0, none⟩))), (5, (.int .u32 (BitVec.toNat (0#32) : Int))), (8, va1), (9, (.int .i64 (a1.length : Int))), (10, (.int .i64 0))]) ⟨rfl, rfl, rfl, rfl, rfl, rfl, trivial⟩
  refine e_then ?_
  obtain ⟨o207, ho208, hK209⟩ := bnd_some hF
  obtain ⟨n210, hn211⟩ := lp_some ho208; clear ho208
  refine c_loop (fun a w => Fr 50 [] a ∧ Chg [] W w ∧ o207 = .inl ()) (fun n a w => ∃ (u109 : BitVec 32) (i110 : Int), Fr 50 [(1, va1), (2, (.pointer (some ⟨b1, 0, none⟩))), (5, (.int .u32 (BitVec.toNat u109 : Int))), (8, va1), (9, (.int .i64 (a1.length : Int))), (10, (.int .i64 i110))] a ∧ Chg [] W w ∧ InI i110 ∧ Bx w b1 [va0_0] 30 ∧ Zn W (b1 : Int) ∧ lpN (fun s => F_impl_isTrail_l1 a0_0 a1 s.1 s.2) n (u109, i110) = some o207) n210 ⟨0#32, 0, ha.sub ⟨rfl, rfl, rfl, rfl, rfl, rfl, trivial⟩, hE8, (show InI 0 from by decide), hB3, q7, hn211⟩ ?_ ?_
  · rintro m215 a w106 ⟨u109, i110, ha, hE112, hI111, hB107, z108, hF⟩
    cases m215 with
    | zero => exact (lpN_zero hF).elim
    | succ m215 =>
      obtain ⟨z214, hF, hN213⟩ := lpN_succ hF
      have hF : F_impl_isTrail_l1 a0_0 a1 u109 i110 = some z214 := hF; unfold F_impl_isTrail_l1 at hF
      refine wp_seq ?_
      refine wp_region_lit ?_
      refine op_g ha rfl (g_lss rfl rfl) ?_; clear ha a; intro a ha
      refine wpList_nil ?_
      replace ha := ha.sub (σ' := [(1, va1), (2, (.pointer (some ⟨b1, 0, none⟩))), (5, (.int .u32 (BitVec.toNat u109 : Int))), (8, va1), (9, (.int .i64 (a1.length : Int))), (10, (.int .i64 i110)), (11, (.bool (decide (i110 < (a1.length : Int)))))]) ⟨rfl, rfl, rfl, rfl, rfl, rfl, rfl, trivial⟩
      refine e_then ?_
      refine wp_seq ?_
      refine c_cond (i110 < (a1.length : Int)) ha rfl (decide_eq_true_iff) (fun hp216 => ?_) (fun hp216 => ?_)
      · replace hF := if_t hp216 hF
        refine wp_skip ?_
        refine e_then ?_
        refine wp_seq ?_
        refine wp_block ?_
        refine wp_seq ?_
        refine wp_region_lit ?_
        refine op_g ha rfl (g_move rfl) ?_; clear ha a; intro a ha
        obtain ⟨x217, g218, gx219, hF⟩ := idx_some hF
        obtain ⟨p220, cs221, f222, hf223, hpb224, hat225, hr226, hi227⟩ := ha1.at g218 gx219
        obtain ⟨rfl, hI228, rfl⟩ := hr226
        refine op_g ha rfl (hi227.gives sl25 rfl rfl) ?_; clear ha a; intro a ha
        refine op_g ha rfl (g_load0 hE112 Try.isAgg2 rfl hat225.one) ?_; clear ha a; intro a ha
        refine op_g ha rfl (g_assign rfl) ?_; clear ha a; intro a ha
        refine op_g ha rfl (g_assign rfl) ?_; clear ha a; intro a ha
        refine wpList_nil ?_
        replace ha := ha.sub (σ' := [(1, va1), (2, (.pointer (some ⟨b1, 0, none⟩))), (5, (.int .u32 (BitVec.toNat u109 : Int))), (6, (.int .i64 i110)), (7, (.int .i64 x217)), (8, va1), (9, (.int .i64 (a1.length : Int))), (10, (.int .i64 i110))]) ⟨rfl, rfl, rfl, rfl, rfl, rfl, rfl, rfl, trivial⟩
        refine e_then ?_
        refine wp_seq ?_
        refine wp_seq ?_
        refine d_quiet hmix (by kernel_rfl) ?_
        refine q_g ha rfl (g_move rfl) ?_; clear ha a; intro a ha
        refine q_g ha rfl (g_field0 st30_0 rfl) ?_; clear ha a; intro a ha
        refine q_g ha rfl (g_load Try.isAgg22 rfl (hB107.cell rfl)) ?_; clear ha a; intro a ha
        refine q_g ha rfl (g_lenR sl22.und ha0_0 rfl) ?_; clear ha a; intro a ha
        obtain ⟨hI229, hF⟩ := ck_some hF
        refine q_g ha rfl (g_sub rfl rfl hI229) ?_; clear ha a; intro a ha
        obtain ⟨x233, hc234, hF⟩ := cal_some hF
        refine q_call (.bool x233) ha rfl rfl Try.call39 (fun w232 hx231 => W_impl_inRange hI228 (show InI 0 from by decide) hI229 hc234) (fun _ _ _ h => ⟨h.1, h.2⟩) ?_; clear ha a; intro a ha
        refine q_g ha rfl (g_not rfl) ?_; clear ha a; intro a ha
        refine q_g ha rfl (g_move rfl) ?_; clear ha a; intro a ha
        by_cases hp235 : ¬ (x233 = true)
        · replace hF := if_t hp235 hF
          rw [show (!x233) = true from (n_iff (Iff.rfl)).2 hp235] at ha
          refine q_unwant ha rfl (yields ha rfl rfl) rfl ?_; clear ha a; intro a ha
          refine q_unwant ha rfl (yields ha rfl rfl) rfl ?_; clear ha a; intro a ha
          refine q_unwant ha rfl (yields ha rfl rfl) rfl ?_; clear ha a; intro a ha
          refine q_g ha rfl (g_pick rfl rfl) ?_; clear ha a; intro a ha
          refine q_g ha rfl (g_move rfl) ?_; clear ha a; intro a ha
          refine q_unwant ha rfl (yields ha rfl rfl) rfl ?_; clear ha a; intro a ha
          refine q_unwant ha rfl (yields ha rfl rfl) rfl ?_; clear ha a; intro a ha
          refine q_unwant ha rfl (yields ha rfl rfl) rfl ?_; clear ha a; intro a ha
          refine q_unwant0 ha rfl (yields0 ha rfl rfl) ?_; clear ha a; intro a ha
          refine q_unwant0 ha rfl (yields0 ha rfl rfl) ?_; clear ha a; intro a ha
          refine q_unwant0 ha rfl (yields0 ha rfl rfl) ?_; clear ha a; intro a ha
          refine q_unwant0 ha rfl (yields0 ha rfl rfl) ?_; clear ha a; intro a ha
          refine q_unwant0 ha rfl (yields0 ha rfl rfl) ?_; clear ha a; intro a ha
          refine q_unwant0 ha rfl (yields0 ha rfl rfl) ?_; clear ha a; intro a ha
          refine q_unwant0 ha rfl (yields0 ha rfl rfl) ?_; clear ha a; intro a ha
          refine q_unwant0 ha rfl (yields0 ha rfl rfl) ?_; clear ha a; intro a ha
          refine q_unwant0 ha rfl (yields0 ha rfl rfl) ?_; clear ha a; intro a ha
          refine q_unwant0 ha rfl (yields0 ha rfl rfl) ?_; clear ha a; intro a ha
          refine q_unwant0 ha rfl (yields0 ha rfl rfl) ?_; clear ha a; intro a ha
          refine q_unwant0 ha rfl (yields0 ha rfl rfl) ?_; clear ha a; intro a ha
          refine q_unwant ha rfl (yields ha rfl rfl) rfl ?_; clear ha a; intro a ha
          refine q_g ha rfl (g_pick rfl rfl) ?_; clear ha a; intro a ha
          refine q_nil ?_; intro w236 hx237
          replace hB107 := hB107.ext hx237
          have hE238 := Ext.trans hE112 hx237
          replace ha := ha.sub (σ' := [(1, va1), (2, (.pointer (some ⟨b1, 0, none⟩))), (5, (.int .u32 (BitVec.toNat u109 : Int))), (7, (.int .i64 x217)), (8, va1), (9, (.int .i64 (a1.length : Int))), (10, (.int .i64 i110)), (44, (.bool true))]) ⟨rfl, rfl, rfl, rfl, rfl, rfl, rfl, rfl, trivial⟩
          refine e_then ?_
          refine c_true ha rfl ?_
          refine wp_seq ?_
          refine wp_region_lit ?_
          refine op_g ha rfl (g_assign rfl) ?_; clear ha a; intro a ha
          refine wpList_nil ?_
          replace ha := ha.sub (σ' := [(4, (.bool false))]) ⟨rfl, trivial⟩
          refine e_then ?_
          refine wp_ret ?_
          refine e_then_ret ?_
          refine e_blk_ret ?_
          refine e_then_ret ?_
          refine e_lq_ret ?_
          refine e_then_ret ?_
          obtain rfl := Option.some.inj hF
          have e239 := LK_inr hN213; subst e239
          have e240 := BK_inr hK209; subst e240
          exact f_ret1 ha rfl rfl ⟨rfl, hE238⟩
        · replace hF := if_f hp235 hF
          rw [show (!x233) = false from b_false (n_iff (Iff.rfl)) hp235] at ha
          refine q_want (yields ha rfl rfl) ?_
          refine q_g ha rfl (g_move rfl) ?_; clear ha a; intro a ha
          refine q_want (yields ha rfl rfl) ?_
          refine q_g ha rfl (g_move rfl) ?_; clear ha a; intro a ha
          refine q_want (yields ha rfl rfl) ?_
          obtain ⟨x243, hc244, hF⟩ := cal_some hF
          refine q_call (.bool x243) ha rfl rfl Try.call74 (fun w242 hx241 => W_impl_vset_has hI228 hc244) (fun _ _ _ h => ⟨h.1, h.2⟩) ?_; clear ha a; intro a ha
          refine q_g ha rfl (g_pick rfl rfl) ?_; clear ha a; intro a ha
          refine q_g ha rfl (g_move rfl) ?_; clear ha a; intro a ha
          by_cases hp245 : x243 = true
          · replace hF := if_t hp245 hF
            rw [show (x243) = true from (Iff.rfl).2 hp245] at ha
            refine q_unwant ha rfl (yields ha rfl rfl) rfl ?_; clear ha a; intro a ha
            refine q_unwant ha rfl (yields ha rfl rfl) rfl ?_; clear ha a; intro a ha
            refine q_unwant ha rfl (yields ha rfl rfl) rfl ?_; clear ha a; intro a ha
            refine q_unwant0 ha rfl (yields0 ha rfl rfl) ?_; clear ha a; intro a ha
            refine q_unwant0 ha rfl (yields0 ha rfl rfl) ?_; clear ha a; intro a ha
            refine q_unwant0 ha rfl (yields0 ha rfl rfl) ?_; clear ha a; intro a ha
            refine q_unwant0 ha rfl (yields0 ha rfl rfl) ?_; clear ha a; intro a ha
            refine q_unwant0 ha rfl (yields0 ha rfl rfl) ?_; clear ha a; intro a ha
            refine q_unwant0 ha rfl (yields0 ha rfl rfl) ?_; clear ha a; intro a ha
            refine q_unwant0 ha rfl (yields0 ha rfl rfl) ?_; clear ha a; intro a ha
            refine q_unwant0 ha rfl (yields0 ha rfl rfl) ?_; clear ha a; intro a ha
            refine q_unwant0 ha rfl (yields0 ha rfl rfl) ?_; clear ha a; intro a ha
            refine q_unwant0 ha rfl (yields0 ha rfl rfl) ?_; clear ha a; intro a ha
            refine q_unwant0 ha rfl (yields0 ha rfl rfl) ?_; clear ha a; intro a ha
            refine q_unwant0 ha rfl (yields0 ha rfl rfl) ?_; clear ha a; intro a ha
            refine q_unwant ha rfl (yields ha rfl rfl) rfl ?_; clear ha a; intro a ha
            refine q_g ha rfl (g_pick rfl rfl) ?_; clear ha a; intro a ha
            refine q_nil ?_; intro w246 hx247
            replace hB107 := hB107.ext hx247
            have hE248 := Ext.trans hE112 hx247
            replace ha := ha.sub (σ' := [(1, va1), (2, (.pointer (some ⟨b1, 0, none⟩))), (5, (.int .u32 (BitVec.toNat u109 : Int))), (7, (.int .i64 x217)), (8, va1), (9, (.int .i64 (a1.length : Int))), (10, (.int .i64 i110)), (23, (.int .u32 (BitVec.toNat u109 : Int))), (24, (.int .i64 x217)), (25, (.bool true)), (44, (.bool true))]) ⟨rfl, rfl, rfl, rfl, rfl, rfl, rfl, rfl, rfl, rfl, rfl, trivial⟩
            refine e_then ?_
            refine c_true ha rfl ?_
            refine wp_seq ?_
            refine wp_region_lit ?_
            refine op_g ha rfl (g_assign rfl) ?_; clear ha a; intro a ha
            refine wpList_nil ?_
            replace ha := ha.sub (σ' := [(4, (.bool false))]) ⟨rfl, trivial⟩
            refine e_then ?_
            refine wp_ret ?_
            refine e_then_ret ?_
            refine e_blk_ret ?_
            refine e_then_ret ?_
            refine e_lq_ret ?_
            refine e_then_ret ?_
            obtain rfl := Option.some.inj hF
            have e249 := LK_inr hN213; subst e249
            have e250 := BK_inr hK209; subst e250
            exact f_ret1 ha rfl rfl ⟨rfl, hE248⟩
          · replace hF := if_f hp245 hF
            rw [show (x243) = false from b_false (Iff.rfl) hp245] at ha
            refine q_want (yields ha rfl rfl) ?_
            refine q_g ha rfl (g_move rfl) ?_; clear ha a; intro a ha
            refine q_want (yields ha rfl rfl) ?_
            refine q_g ha rfl (g_gtr rfl rfl) ?_; clear ha a; intro a ha
            refine q_want (yields ha rfl rfl) ?_
            refine q_g ha rfl (g_move rfl) ?_; clear ha a; intro a ha
            by_cases hp251 : 0 < i110
            · replace hF := if_t hp251 hF
              rw [show (decide (0 < i110)) = true from (decide_eq_true_iff).2 hp251] at ha
              refine q_want (yields ha rfl rfl) ?_
              refine q_g ha rfl (g_field0 st30_0 rfl) ?_; clear ha a; intro a ha
              refine q_want (yields ha rfl rfl) ?_
              refine q_g ha rfl (g_load Try.isAgg22 rfl (hB107.cell rfl)) ?_; clear ha a; intro a ha
              refine q_want (yields ha rfl rfl) ?_
              refine q_g ha rfl (g_move rfl) ?_; clear ha a; intro a ha
              refine q_want (yields ha rfl rfl) ?_
              obtain ⟨x252, g253, gx254, hF⟩ := idx_some hF
              obtain ⟨p255, cs256, f257, hf258, hpb259, hat260, hr261, hi262⟩ := ha0_0.at g253 gx254
              obtain ⟨v263, rfl, h264⟩ := hr261
              have h264 : Ro Rp.int W f257 v263 x252 := h264
              refine q_g ha rfl (hi262.gives sl22 rfl rfl) ?_; clear ha a; intro a ha
              refine q_want (yields ha rfl rfl) ?_
              refine q_g ha rfl (g_load0 hE112 Try.isAgg25 rfl hat260.one) ?_; clear ha a; intro a ha
              refine q_want (yields ha rfl rfl) ?_
              refine q_g ha rfl (g_move rfl) ?_; clear ha a; intro a ha
              refine q_want (yields ha rfl rfl) ?_
              refine q_g ha rfl (g_move rfl) ?_; clear ha a; intro a ha
              refine q_want (yields ha rfl rfl) ?_
              obtain ⟨hI266, hF⟩ := ck_some hF
              refine q_g ha rfl (g_sub rfl rfl hI266) ?_; clear ha a; intro a ha
              refine q_want (yields ha rfl rfl) ?_
              obtain ⟨x268, g269, gx270, hF⟩ := idx_some hF
              obtain ⟨p271, cs272, f273, hf274, hpb275, hat276, hr277, hi278⟩ := ha1.at g269 gx270
              obtain ⟨rfl, hI279, rfl⟩ := hr277
              refine q_g ha rfl (hi278.gives sl25 rfl rfl) ?_; clear ha a; intro a ha
              refine q_want (yields ha rfl rfl) ?_
              refine q_g ha rfl (g_load0 hE112 Try.isAgg2 rfl hat276.one) ?_; clear ha a; intro a ha
              refine q_want (yields ha rfl rfl) ?_
              obtain ⟨x282, hc283, hF⟩ := cal_some hF
              refine q_call (.bool x282) ha rfl rfl Try.call71 (fun w281 hx280 => W_slices_Contains_int64 (h264.ext (Ext.trans hE112 hx280)) hI279 hc283) (fun _ _ _ h => ⟨h.1, h.2⟩) ?_; clear ha a; intro a ha
              refine q_want (yields ha rfl rfl) ?_
              refine q_g ha rfl (g_not rfl) ?_; clear ha a; intro a ha
              refine q_want (yields ha rfl rfl) ?_
              refine q_g ha rfl (g_pick rfl rfl) ?_; clear ha a; intro a ha
              refine q_g ha rfl (g_pick rfl rfl) ?_; clear ha a; intro a ha
              refine q_nil ?_; intro w284 hx285
              replace hB107 := hB107.ext hx285
              have hE286 := Ext.trans hE112 hx285
              replace ha := ha.sub (σ' := [(1, va1), (2, (.pointer (some ⟨b1, 0, none⟩))), (5, (.int .u32 (BitVec.toNat u109 : Int))), (7, (.int .i64 x217)), (8, va1), (9, (.int .i64 (a1.length : Int))), (10, (.int .i64 i110)), (23, (.int .u32 (BitVec.toNat u109 : Int))), (24, (.int .i64 x217)), (25, (.bool false)), (28, (.int .i64 i110)), (29, (.bool true)), (30, (.bool true)), (31, (.pointer (some ⟨b1, 0, none⟩))), (32, va0_0), (33, (.int .i64 x217)), (34, (.pointer (some p255))), (35, v263), (36, va1), (37, (.int .i64 i110)), (38, (.int .i64 (i110 - 1))), (39, (.pointer (some p271))), (40, (.int .i64 x268)), (41, (.bool x282)), (42, (.bool (!x282))), (43, (.bool (!x282))), (44, (.bool (!x282)))]) ⟨rfl, rfl, rfl, rfl, rfl, rfl, rfl, rfl, rfl, rfl, rfl, rfl, rfl, rfl, rfl, rfl, rfl, rfl, rfl, rfl, rfl, rfl, rfl, rfl, rfl, rfl, rfl, trivial⟩
              refine e_then ?_
              refine c_cond (¬ (x282 = true)) ha rfl (n_iff (Iff.rfl)) (fun hp287 => ?_) (fun hp287 => ?_)
              · replace hF := if_t hp287 hF
                refine wp_seq ?_
                refine wp_region_lit ?_
                refine op_g ha rfl (g_assign rfl) ?_; clear ha a; intro a ha
                refine wpList_nil ?_
                replace ha := ha.sub (σ' := [(4, (.bool false))]) ⟨rfl, trivial⟩
                refine e_then ?_
                refine wp_ret ?_
                refine e_then_ret ?_
                refine e_blk_ret ?_
                refine e_then_ret ?_
                refine e_lq_ret ?_
                refine e_then_ret ?_
                obtain rfl := Option.some.inj hF
                have e288 := LK_inr hN213; subst e288
                have e289 := BK_inr hK209; subst e289
                exact f_ret1 ha rfl rfl ⟨rfl, hE286⟩
              · replace hF := if_f hp287 hF
                refine wp_skip ?_
                refine e_then ?_
                refine wp_region_lit ?_
                refine op_g ha rfl (g_move rfl) ?_; clear ha a; intro a ha
                refine op_g ha rfl (g_move rfl) ?_; clear ha a; intro a ha
                obtain ⟨x290, hc291, hF⟩ := cal_some hF
                refine o_call ha rfl rfl Try.call73 (W_impl_one hI228 hc291) ?_; clear ha a; rintro v292 w293 ⟨rfl, hx294⟩ a ha
                replace hB107 := hB107.ext hx294
                have hE295 := Ext.trans hE286 hx294
                refine op_g ha rfl (g32_or (m := u109) (n := x290) rfl rfl) ?_; clear ha a; intro a ha
                refine op_g ha rfl (g_assign rfl) ?_; clear ha a; intro a ha
                refine wpList_nil ?_
                replace ha := ha.sub (σ' := [(1, va1), (2, (.pointer (some ⟨b1, 0, none⟩))), (5, (.int .u32 (BitVec.toNat (u109 ||| x290) : Int))), (8, va1), (9, (.int .i64 (a1.length : Int))), (10, (.int .i64 i110)), (23, (.int .u32 (BitVec.toNat u109 : Int))), (24, (.int .i64 x217)), (25, (.bool false)), (28, (.int .i64 i110)), (29, (.bool true)), (30, (.bool true)), (31, (.pointer (some ⟨b1, 0, none⟩))), (32, va0_0), (33, (.int .i64 x217)), (34, (.pointer (some p255))), (35, v263), (36, va1), (37, (.int .i64 i110)), (38, (.int .i64 (i110 - 1))), (39, (.pointer (some p271))), (40, (.int .i64 x268)), (41, (.bool x282)), (42, (.bool (!x282))), (43, (.bool (!x282)))]) ⟨rfl, rfl, rfl, rfl, rfl, rfl, rfl, rfl, rfl, rfl, rfl, rfl, rfl, rfl, rfl, rfl, rfl, rfl, rfl, rfl, rfl, rfl, rfl, rfl, rfl, trivial⟩
                refine e_blk ?_
                refine e_then ?_
                refine wp_region_lit ?_
                obtain ⟨hI296, hF⟩ := ck_some hF
                refine op_g ha rfl (g_add rfl rfl hI296) ?_; clear ha a; intro a ha
                refine op_g ha rfl (g_move rfl) ?_; clear ha a; intro a ha
                refine wpList_nil ?_
                replace ha := ha.sub (σ' := [(1, va1), (2, (.pointer (some ⟨b1, 0, none⟩))), (5, (.int .u32 (BitVec.toNat (u109 ||| x290) : Int))), (8, va1), (9, (.int .i64 (a1.length : Int))), (10, (.int .i64 (i110 + 1))), (23, (.int .u32 (BitVec.toNat u109 : Int))), (24, (.int .i64 x217)), (25, (.bool false)), (28, (.int .i64 i110)), (29, (.bool true)), (30, (.bool true)), (31, (.pointer (some ⟨b1, 0, none⟩))), (32, va0_0), (33, (.int .i64 x217)), (34, (.pointer (some p255))), (35, v263), (36, va1), (37, (.int .i64 i110)), (38, (.int .i64 (i110 - 1))), (39, (.pointer (some p271))), (40, (.int .i64 x268)), (41, (.bool x282)), (42, (.bool (!x282))), (43, (.bool (!x282)))]) ⟨rfl, rfl, rfl, rfl, rfl, rfl, rfl, rfl, rfl, rfl, rfl, rfl, rfl, rfl, rfl, rfl, rfl, rfl, rfl, rfl, rfl, rfl, rfl, rfl, rfl, trivial⟩
                refine e_lq ?_
                obtain rfl := Option.some.inj hF
                exact ⟨_, Nat.lt_succ_self _, u109 ||| x290, i110 + 1, ha.sub ⟨rfl, rfl, rfl, rfl, rfl, rfl, trivial⟩, hE295, hI296, hB107, z108, hN213⟩
            · replace hF := if_f hp251 hF
              rw [show (decide (0 < i110)) = false from b_false (decide_eq_true_iff) hp251] at ha
              refine q_unwant ha rfl (yields ha rfl rfl) rfl ?_; clear ha a; intro a ha
              refine q_unwant ha rfl (yields ha rfl rfl) rfl ?_; clear ha a; intro a ha
              refine q_unwant ha rfl (yields ha rfl rfl) rfl ?_; clear ha a; intro a ha
              refine q_unwant ha rfl (yields ha rfl rfl) rfl ?_; clear ha a; intro a ha
              refine q_unwant ha rfl (yields ha rfl rfl) rfl ?_; clear ha a; intro a ha
              refine q_unwant ha rfl (yields ha rfl rfl) rfl ?_; clear ha a; intro a ha
              refine q_unwant ha rfl (yields ha rfl rfl) rfl ?_; clear ha a; intro a ha
              refine q_unwant ha rfl (yields ha rfl rfl) rfl ?_; clear ha a; intro a ha
              refine q_unwant ha rfl (yields ha rfl rfl) rfl ?_; clear ha a; intro a ha
              refine q_unwant ha rfl (yields ha rfl rfl) rfl ?_; clear ha a; intro a ha
              refine q_unwant ha rfl (yields ha rfl rfl) rfl ?_; clear ha a; intro a ha
              refine q_unwant ha rfl (yields ha rfl rfl) rfl ?_; clear ha a; intro a ha
              refine q_want (yields ha rfl rfl) ?_
              refine q_g ha rfl (g_pick rfl rfl) ?_; clear ha a; intro a ha
              refine q_g ha rfl (g_pick rfl rfl) ?_; clear ha a; intro a ha
              refine q_nil ?_; intro w298 hx299
              replace hB107 := hB107.ext hx299
              have hE300 := Ext.trans hE112 hx299
              replace ha := ha.sub (σ' := [(1, va1), (2, (.pointer (some ⟨b1, 0, none⟩))), (5, (.int .u32 (BitVec.toNat u109 : Int))), (7, (.int .i64 x217)), (8, va1), (9, (.int .i64 (a1.length : Int))), (10, (.int .i64 i110)), (23, (.int .u32 (BitVec.toNat u109 : Int))), (24, (.int .i64 x217)), (25, (.bool false)), (28, (.int .i64 i110)), (29, (.bool false)), (30, (.bool false)), (43, (.bool false)), (44, (.bool false))]) ⟨rfl, rfl, rfl, rfl, rfl, rfl, rfl, rfl, rfl, rfl, rfl, rfl, rfl, rfl, rfl, trivial⟩
              refine e_then ?_
              refine c_false ha rfl ?_
              refine wp_skip ?_
              refine e_then ?_
              refine wp_region_lit ?_
              refine op_g ha rfl (g_move rfl) ?_; clear ha a; intro a ha
              refine op_g ha rfl (g_move rfl) ?_; clear ha a; intro a ha
              obtain ⟨x301, hc302, hF⟩ := cal_some hF
              refine o_call ha rfl rfl Try.call73 (W_impl_one hI228 hc302) ?_; clear ha a; rintro v303 w304 ⟨rfl, hx305⟩ a ha
              replace hB107 := hB107.ext hx305
              have hE306 := Ext.trans hE300 hx305
              refine op_g ha rfl (g32_or (m := u109) (n := x301) rfl rfl) ?_; clear ha a; intro a ha
              refine op_g ha rfl (g_assign rfl) ?_; clear ha a; intro a ha
              refine wpList_nil ?_
              replace ha := ha.sub (σ' := [(1, va1), (2, (.pointer (some ⟨b1, 0, none⟩))), (5, (.int .u32 (BitVec.toNat (u109 ||| x301) : Int))), (8, va1), (9, (.int .i64 (a1.length : Int))), (10, (.int .i64 i110)), (23, (.int .u32 (BitVec.toNat u109 : Int))), (24, (.int .i64 x217)), (25, (.bool false)), (28, (.int .i64 i110)), (29, (.bool false)), (30, (.bool false)), (43, (.bool false))]) ⟨rfl, rfl, rfl, rfl, rfl, rfl, rfl, rfl, rfl, rfl, rfl, rfl, rfl, trivial⟩
              refine e_blk ?_
              refine e_then ?_
              refine wp_region_lit ?_
              obtain ⟨hI307, hF⟩ := ck_some hF
              refine op_g ha rfl (g_add rfl rfl hI307) ?_; clear ha a; intro a ha
              refine op_g ha rfl (g_move rfl) ?_; clear ha a; intro a ha
              refine wpList_nil ?_
              replace ha := ha.sub (σ' := [(1, va1), (2, (.pointer (some ⟨b1, 0, none⟩))), (5, (.int .u32 (BitVec.toNat (u109 ||| x301) : Int))), (8, va1), (9, (.int .i64 (a1.length : Int))), (10, (.int .i64 (i110 + 1))), (23, (.int .u32 (BitVec.toNat u109 : Int))), (24, (.int .i64 x217)), (25, (.bool false)), (28, (.int .i64 i110)), (29, (.bool false)), (30, (.bool false)), (43, (.bool false))]) ⟨rfl, rfl, rfl, rfl, rfl, rfl, rfl, rfl, rfl, rfl, rfl, rfl, rfl, trivial⟩
              refine e_lq ?_
              obtain rfl := Option.some.inj hF
              exact ⟨_, Nat.lt_succ_self _, u109 ||| x301, i110 + 1, ha.sub ⟨rfl, rfl, rfl, rfl, rfl, rfl, trivial⟩, hE306, hI307, hB107, z108, hN213⟩
      · replace hF := if_f hp216 hF
        refine wp_exit ?_
        refine e_then_exit ?_
        refine e_lq_eq ?_
        obtain rfl := Option.some.inj hF
        exact ⟨ha.sub trivial, hE112, (LK_inr hN213).symm⟩
  · rintro a w206 ⟨ha, hE212, rfl⟩
    have hF : F_impl_isTrail_k2 = some _ := hK209; clear hK209; unfold F_impl_isTrail_k2 at hF
    refine e_then ?_
    refine wp_seq ?_
    refine wp_region_lit ?_
    refine op_g ha rfl (g_assign rfl) ?_; clear ha a; intro a ha
    refine wpList_nil ?_
    refine e_then ?_
    refine wp_ret ?_
    obtain rfl := Option.some.inj hF
    exact f_ret1 ha rfl rfl ⟨rfl, hE212⟩
end Go.Proofs.Ytlbgoodonecebab
