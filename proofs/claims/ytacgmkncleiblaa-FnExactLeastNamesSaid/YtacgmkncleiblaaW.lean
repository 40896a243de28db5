/- Walks, printed by gen.py. -/
import Derived.Test.YtacgmkncleiblaaF
import Derived.Test.YtacgmkncleiblaaAid
import Derived.Test.YtacgmkncleiblaaProg
import Derived.KernelRfl
set_option maxRecDepth 100000
namespace Go.Proofs.Ytacgmkncleiblaa
open Go Go.RowKit

theorem hmix : Try.prog.follows .mixedOrders = true := by kernel_rfl
theorem sl22 : SlT Try.prog 22 2 1 8 (.int .i64 0) := ⟨by kernel_rfl, by kernel_rfl, by rfl⟩
set_option maxHeartbeats 2000000 in
theorem W_laws_toInt64S {W : World} {va0 : Value} {fa0 : List Nat} {a0 : (List Int)} (ha0 : Ro Rp.int W fa0 va0 a0) {r : (List Int)} (hF : F_laws_toInt64S a0 = some r) :
    Calls Try.prog 10 [va0].toArray W (Ret fun u w' => (∃ b : Int, Ow Rp.int 2 true w' [] b u r ∧ Zn W b) ∧ Ext W w') := by
  refine f_enter Try.func10 rfl Try.ntmps10 rfl ?_
  intro a ha
  replace ha : Fr 22 [(0, va0)] a := ha
  have hE : Chg [] W W := Chg.refl _ _
  unfold F_laws_toInt64S at hF
  refine wp_seq ?_
  refine wp_region_lit ?_
  refine op_g ha rfl (g_assign rfl) ?_; clear ha a; intro a ha
  refine wpList_nil ?_
  replace ha := ha.sub (σ' := [(0, va0)]) ⟨rfl, trivial⟩
  refine e_then ?_
  refine wp_seq ?_
  refine wp_region_lit ?_
  refine op_g ha rfl (g_move rfl) ?_; clear ha a; intro a ha
  refine op_g ha rfl (g_lenR sl22.und ha0 rfl) ?_; clear ha a; intro a ha
  obtain ⟨g5, g5b, hF⟩ := mkS_some hF
  refine o_make Rp.int ha rfl sl22 rfl (fun w => ⟨rfl, by decide, rfl⟩) rfl g5 g5b ?_; clear ha a; intro v1 w2 h3 hx4 a ha
  obtain ⟨b8, hb8⟩ : ∃ b : Int, b = W.heap.size := ⟨_, rfl⟩; rw [← hb8] at h3
  have q9 := zn_of hb8
  have q10 := Zn.upD q9 hE
  have hE11 := Ext.trans hE hx4
  refine op_g ha rfl (g_assign rfl) ?_; clear ha a; intro a ha
  refine wpList_nil ?_
  replace ha := ha.sub (σ' := [(0, va0), (3, v1)]) ⟨rfl, rfl, trivial⟩
  refine e_then ?_
  refine wp_seq ?_
  refine wp_seq ?_
  refine wp_region_lit ?_
  refine op_g ha rfl (g_assign rfl) ?_; clear ha a; intro a ha
  refine wpList_nil ?_
  refine e_then ?_
  obtain ⟨o118, ho119, hK120⟩ := bnd_some hF
  obtain ⟨n121, hn122⟩ := lp_some ho119; clear ho119
  refine c_loop (fun a w => ∃ (l115 : (List Int)) (v116 : Value) (b117 : Int), Fr 22 [(3, v116)] a ∧ Chg [] W w ∧ Ow Rp.int 2 true w [] b117 v116 l115 ∧ Zn W b117 ∧ o118 = .inl l115) (fun n a w => ∃ (l63 : (List Int)) (i66 : Int) (v64 : Value) (b65 : Int), Fr 22 [(0, va0), (3, v64), (4, (.int .i64 i66))] a ∧ Chg [] W w ∧ InI i66 ∧ Ow Rp.int 2 true w [] b65 v64 l63 ∧ Zn W b65 ∧ lpN (fun s => F_laws_toInt64S_l1 a0 s.1 s.2) n (l63, i66) = some o118) n121 ⟨(List.replicate ((a0.length : Int)).toNat (0 : Int)), 0, v1, b8, ha.sub ⟨rfl, rfl, rfl, trivial⟩, hE11, (by decide), h3, q10, hn122⟩ ?_ ?_
  · rintro m126 a w59 ⟨l63, i66, v64, b65, ha, hE68, hI67, h61, z62, hF⟩
    cases m126 with
    | zero => exact (lpN_zero hF).elim
    | succ m126 =>
      obtain ⟨z125, hF, hN124⟩ := lpN_succ hF
      have hF : F_laws_toInt64S_l1 a0 l63 i66 = some z125 := hF; unfold F_laws_toInt64S_l1 at hF
      refine wp_seq ?_
      refine wp_seq ?_
      refine wp_region_lit ?_
      refine op_g ha rfl (g_move rfl) ?_; clear ha a; intro a ha
      refine op_g ha rfl (g_move rfl) ?_; clear ha a; intro a ha
      refine op_g ha rfl (g_lenR sl22.und ha0 rfl) ?_; clear ha a; intro a ha
      refine op_g ha rfl (g_lss rfl rfl) ?_; clear ha a; intro a ha
      refine wpList_nil ?_
      replace ha := ha.sub (σ' := [(0, va0), (3, v64), (4, (.int .i64 i66)), (11, (.bool (decide (i66 < (a0.length : Int)))))]) ⟨rfl, rfl, rfl, rfl, trivial⟩
      refine e_then ?_
      refine c_cond (i66 < (a0.length : Int)) ha rfl (decide_eq_true_iff) (fun hp127 => ?_) (fun hp127 => ?_)
      · replace hF := if_t hp127 hF
        refine wp_skip ?_
        refine e_then ?_
        refine wp_seq ?_
        refine wp_block ?_
        refine wp_region_lit ?_
        refine op_g ha rfl (g_move rfl) ?_; clear ha a; intro a ha
        refine op_g ha rfl (g_move rfl) ?_; clear ha a; intro a ha
        refine op_g ha rfl (g_move rfl) ?_; clear ha a; intro a ha
        refine op_g ha rfl (g_move rfl) ?_; clear ha a; intro a ha
        obtain ⟨x128, g129, gx130, hF⟩ := idx_some hF
        obtain ⟨p131, cs132, f133, hf134, hpb135, hat136, hr137, hi138⟩ := ha0.at g129 gx130
        obtain ⟨rfl, hI139, rfl⟩ := hr137
        refine op_g ha rfl (hi138.gives sl22 rfl rfl) ?_; clear ha a; intro a ha
        refine op_g ha rfl (g_load0 hE68 Try.isAgg2 rfl hat136.one) ?_; clear ha a; intro a ha
        obtain ⟨x140, g141, gx142, hF⟩ := idx_some hF
        obtain ⟨p143, cs144, f145, hf146, hpb147, hat148, hr149, hi150⟩ := h61.at g141 gx142
        obtain ⟨rfl, hI151, rfl⟩ := hr149
        refine op_g ha rfl (hi150.gives sl22 rfl rfl) ?_; clear ha a; intro a ha
        refine o_storeE ha Try.sizeOf2 rfl rfl rfl h61 hi150 ⟨rfl, hI139, rfl⟩ (Nq.nil _) ?_; intro w152 fs153 h154 hc155 hs156
        obtain rfl := fs_nil hs156
        have hE157 := Ext.then hE68 hc155 (Zn.bl z62)
        refine wpList_nil ?_
        replace ha := ha.sub (σ' := [(0, va0), (3, v64), (4, (.int .i64 i66))]) ⟨rfl, rfl, rfl, trivial⟩
        refine e_blk ?_
        refine e_then ?_
        refine wp_region_lit ?_
        refine op_g ha rfl (g_move rfl) ?_; clear ha a; intro a ha
        obtain ⟨hI158, hF⟩ := ck_some hF
        refine op_g ha rfl (g_add rfl rfl hI158) ?_; clear ha a; intro a ha
        refine op_g ha rfl (g_assign rfl) ?_; clear ha a; intro a ha
        refine wpList_nil ?_
        replace ha := ha.sub (σ' := [(0, va0), (3, v64), (4, (.int .i64 (i66 + 1)))]) ⟨rfl, rfl, rfl, trivial⟩
        refine e_lq ?_
        obtain rfl := Option.some.inj hF
        exact ⟨_, Nat.lt_succ_self _, (l63.set ((i66).toNat) x128), i66 + 1, v64, b65, ha.sub ⟨rfl, rfl, rfl, trivial⟩, hE157, hI158, h154, z62, hN124⟩
      · replace hF := if_f hp127 hF
        refine wp_exit ?_
        refine e_then_exit ?_
        refine e_lq_eq ?_
        obtain rfl := Option.some.inj hF
        exact ⟨l63, v64, b65, ha.sub ⟨rfl, trivial⟩, hE68, h61, z62, (LK_inr hN124).symm⟩
  · rintro a w111 ⟨l115, v116, b117, ha, hE123, h113, z114, rfl⟩
    have hF : F_laws_toInt64S_k2 l115 = some _ := hK120; clear hK120; unfold F_laws_toInt64S_k2 at hF
    refine e_then ?_
    refine wp_seq ?_
    refine wp_region_lit ?_
    refine op_g ha rfl (g_move rfl) ?_; clear ha a; intro a ha
    refine op_g ha rfl (g_assign rfl) ?_; clear ha a; intro a ha
    refine wpList_nil ?_
    replace ha := ha.sub (σ' := [(2, v116)]) ⟨rfl, trivial⟩
    refine e_then ?_
    refine wp_ret ?_
    obtain rfl := Option.some.inj hF
    exact f_ret1 ha rfl rfl ⟨⟨_, h113, z114⟩, hE123⟩
set_option maxHeartbeats 2000000 in
theorem W_spec_LeastNames {W : World} {va0 : Value} {fa0 : List Nat} {a0 : (List Int)} (ha0 : Ro Rp.int W fa0 va0 a0) {r : (List Int)} (hF : F_spec_LeastNames a0 = some r) :
    Calls Try.prog 9 [va0].toArray W (Ret fun u w' => (∃ b : Int, Ow Rp.int 2 true w' [] b u r ∧ Zn W b) ∧ Ext W w') := by
  refine f_enter Try.func9 rfl Try.ntmps9 rfl ?_
  intro a ha
  replace ha : Fr 52 [(0, va0)] a := ha
  have hE : Chg [] W W := Chg.refl _ _
  unfold F_spec_LeastNames at hF
  refine wp_seq ?_
  refine wp_region_lit ?_
  refine op_g ha rfl (g_assign rfl) ?_; clear ha a; intro a ha
  refine wpList_nil ?_
  replace ha := ha.sub (σ' := [(0, va0)]) ⟨rfl, trivial⟩
  refine e_then ?_
  refine wp_seq ?_
  refine wp_region_lit ?_
  refine o_lit0 Rp.int ha rfl sl22 ?_; clear ha a; intro v1 w2 h3 hx4 a ha
  obtain ⟨b6, hb6⟩ : ∃ b : Int, b = W.heap.size := ⟨_, rfl⟩; rw [← hb6] at h3
  have q7 := zn_of hb6
  have q8 := Zn.upD q7 hE
  have hE9 := Ext.trans hE hx4
  refine op_g ha rfl (g_assign rfl) ?_; clear ha a; intro a ha
  refine wpList_nil ?_
  replace ha := ha.sub (σ' := [(0, va0), (3, v1)]) ⟨rfl, rfl, trivial⟩
  refine e_then ?_
  refine wp_seq ?_
  refine wp_seq ?_
  refine wp_region_lit ?_
  refine op_g ha rfl (g_move rfl) ?_; clear ha a; intro a ha
  refine op_g ha rfl (g_lenR sl22.und ha0 rfl) ?_; clear ha a; intro a ha
  refine op_g ha rfl (g_gtr rfl rfl) ?_; clear ha a; intro a ha
  refine wpList_nil ?_
  replace ha := ha.sub (σ' := [(0, va0), (3, v1), (10, (.bool (decide (16 < (a0.length : Int)))))]) ⟨rfl, rfl, rfl, trivial⟩
  refine e_then ?_
  refine c_cond (16 < (a0.length : Int)) ha rfl (decide_eq_true_iff) (fun hp10 => ?_) (fun hp10 => ?_)
  · replace hF := if_t hp10 hF
    refine wp_seq ?_
    refine wp_region_lit ?_
    refine op_g ha rfl (g_move rfl) ?_; clear ha a; intro a ha
    refine op_g ha rfl (g_assign rfl) ?_; clear ha a; intro a ha
    refine wpList_nil ?_
    replace ha := ha.sub (σ' := [(2, v1)]) ⟨rfl, trivial⟩
    refine e_then ?_
    refine wp_ret ?_
    refine e_then_ret ?_
    obtain rfl := Option.some.inj hF
    exact f_ret1 ha rfl rfl ⟨⟨_, h3, q8⟩, hE9⟩
  · replace hF := if_f hp10 hF
    refine wp_skip ?_
    refine e_then ?_
    refine wp_seq ?_
    refine wp_region_lit ?_
    refine o_lit0 Rp.int ha rfl sl22 ?_; clear ha a; intro v11 w12 h13 hx14 a ha
    obtain ⟨b16, hb16⟩ : ∃ b : Int, b = w2.heap.size := ⟨_, rfl⟩; rw [← hb16] at h13
    have q17 := zn_of hb16
    have q18 := Nq.new h3.fpb q17
    have q19 := Nq.madeO q17 h3.blt
    have q20 := Zn.upD q17 hE9
    replace h3 := h3.ext hx14
    have hE21 := Ext.trans hE9 hx14
    refine op_g ha rfl (g_assign rfl) ?_; clear ha a; intro a ha
    refine wpList_nil ?_
    replace ha := ha.sub (σ' := [(0, va0), (3, v1), (4, v11)]) ⟨rfl, rfl, rfl, trivial⟩
    refine e_then ?_
    refine wp_seq ?_
    refine wp_seq ?_
    refine wp_region_lit ?_
    refine op_g ha rfl (g_assign rfl) ?_; clear ha a; intro a ha
    refine wpList_nil ?_
    replace ha := ha.sub (σ' := [(0, va0), (3, v1), (4, v11), (5, (.int .i64 0))]) ⟨rfl, rfl, rfl, rfl, trivial⟩
    refine e_then ?_
    obtain ⟨o621, ho622, hK623⟩ := bnd_some hF
    obtain ⟨n624, hn625⟩ := lp_some ho622; clear ho622
    refine c_loop (fun a w => ∃ (l618 : (List Int)) (v619 : Value) (b620 : Int), Fr 52 [(3, v619)] a ∧ Chg [] W w ∧ Ow Rp.int 2 true w [] b620 v619 l618 ∧ Zn W b620 ∧ o621 = .inl l618) (fun n a w => ∃ (l318 : (List Int)) (l324 : (List Int)) (i327 : Int) (v319 : Value) (b320 : Int) (v325 : Value) (b326 : Int), Fr 52 [(0, va0), (3, v319), (4, v325), (5, (.int .i64 i327))] a ∧ Chg [] W w ∧ InI i327 ∧ Ow Rp.int 2 true w [] b320 v319 l318 ∧ Zn W b320 ∧ Ow Rp.int 2 true w [] b326 v325 l324 ∧ Zn W b326 ∧ Nq (bl b320 ++ []) b326 ∧ Nq (bl b326 ++ []) b320 ∧ lpN (fun s => F_spec_LeastNames_l1 a0 s.1 s.2.1 s.2.2) n (l318, l324, i327) = some o621) n624 ⟨([] : (List Int)), ([] : (List Int)), 0, v1, b6, v11, b16, ha.sub ⟨rfl, rfl, rfl, rfl, trivial⟩, hE21, (by decide), h3, q8, h13, q20, q18, q19, hn625⟩ ?_ ?_
    · rintro m629 a w314 ⟨l318, l324, i327, v319, b320, v325, b326, ha, hE331, hI328, h316, z317, h322, z323, q329, q330, hF⟩
      cases m629 with
      | zero => exact (lpN_zero hF).elim
      | succ m629 =>
        obtain ⟨z628, hF, hN627⟩ := lpN_succ hF
        have hF : F_spec_LeastNames_l1 a0 l318 l324 i327 = some z628 := hF; unfold F_spec_LeastNames_l1 at hF
        refine wp_seq ?_
        refine wp_seq ?_
        refine wp_region_lit ?_
        refine op_g ha rfl (g_move rfl) ?_; clear ha a; intro a ha
        refine op_g ha rfl (g_move rfl) ?_; clear ha a; intro a ha
        refine op_g ha rfl (g_lenR sl22.und ha0 rfl) ?_; clear ha a; intro a ha
        refine op_g ha rfl (g_lss rfl rfl) ?_; clear ha a; intro a ha
        refine wpList_nil ?_
        replace ha := ha.sub (σ' := [(0, va0), (3, v319), (4, v325), (5, (.int .i64 i327)), (16, (.bool (decide (i327 < (a0.length : Int)))))]) ⟨rfl, rfl, rfl, rfl, rfl, trivial⟩
        refine e_then ?_
        refine c_cond (i327 < (a0.length : Int)) ha rfl (decide_eq_true_iff) (fun hp630 => ?_) (fun hp630 => ?_)
        · replace hF := if_t hp630 hF
          refine wp_skip ?_
          refine e_then ?_
          refine wp_seq ?_
          refine wp_block ?_
          refine wp_seq ?_
          refine wp_region_lit ?_
          refine op_g ha rfl (g_assign rfl) ?_; clear ha a; intro a ha
          refine wpList_nil ?_
          replace ha := ha.sub (σ' := [(0, va0), (3, v319), (4, v325), (5, (.int .i64 i327)), (6, (.int .i64 0))]) ⟨rfl, rfl, rfl, rfl, rfl, trivial⟩
          refine e_then ?_
          refine wp_seq ?_
          obtain ⟨o754, ho755, hK756⟩ := bnd_some hF
          obtain ⟨n757, hn758⟩ := lp_some ho755; clear ho755
          refine c_loop (fun a w => ∃ (i750 : Int), Fr 52 [(0, va0), (3, v319), (4, v325), (5, (.int .i64 i327)), (6, (.int .i64 i750))] a ∧ Chg [] W w ∧ InI i750 ∧ Ow Rp.int 2 true w [] b320 v319 l318 ∧ Zn W b320 ∧ Ow Rp.int 2 true w [] b326 v325 l324 ∧ Zn W b326 ∧ Nq (bl b320 ++ []) b326 ∧ Nq (bl b326 ++ []) b320 ∧ o754 = .inl i750) (fun n a w => ∃ (i693 : Int), Fr 52 [(0, va0), (3, v319), (4, v325), (5, (.int .i64 i327)), (6, (.int .i64 i693))] a ∧ Chg [] W w ∧ InI i693 ∧ Ow Rp.int 2 true w [] b320 v319 l318 ∧ Zn W b320 ∧ Ow Rp.int 2 true w [] b326 v325 l324 ∧ Zn W b326 ∧ Nq (bl b320 ++ []) b326 ∧ Nq (bl b326 ++ []) b320 ∧ lpN (fun s => F_spec_LeastNames_l2 a0 l324 i327 s) n i693 = some o754) n757 ⟨0, ha.sub ⟨rfl, rfl, rfl, rfl, rfl, trivial⟩, hE331, (by decide), h316, z317, h322, z323, q329, q330, hn758⟩ ?_ ?_
          · rintro m762 a w686 ⟨i693, ha, hE697, hI694, h688, z689, h691, z692, q695, q696, hF⟩
            cases m762 with
            | zero => exact (lpN_zero hF).elim
            | succ m762 =>
              obtain ⟨z761, hF, hN760⟩ := lpN_succ hF
              have hF : F_spec_LeastNames_l2 a0 l324 i327 i693 = some z761 := hF; unfold F_spec_LeastNames_l2 at hF
              refine wp_seq ?_
              refine wp_seq ?_
              refine d_quiet hmix (by kernel_rfl) ?_
              refine q_g ha rfl (g_move rfl) ?_; clear ha a; intro a ha
              refine q_g ha rfl (g_move rfl) ?_; clear ha a; intro a ha
              refine q_g ha rfl (g_lenO sl22.und h691 rfl) ?_; clear ha a; intro a ha
              refine q_g ha rfl (g_lss rfl rfl) ?_; clear ha a; intro a ha
              refine q_g ha rfl (g_move rfl) ?_; clear ha a; intro a ha
              by_cases hp763 : i693 < (l324.length : Int)
              · replace hF := if_t hp763 hF
                rw [show (decide (i693 < (l324.length : Int))) = true from (decide_eq_true_iff).2 hp763] at ha
                refine q_want (yields ha rfl rfl) ?_
                refine q_g ha rfl (g_move rfl) ?_; clear ha a; intro a ha
                refine q_want (yields ha rfl rfl) ?_
                refine q_g ha rfl (g_move rfl) ?_; clear ha a; intro a ha
                refine q_want (yields ha rfl rfl) ?_
                obtain ⟨x764, g765, gx766, hF⟩ := idx_some hF
                obtain ⟨p767, cs768, f769, hf770, hpb771, hat772, hr773, hi774⟩ := h691.at g765 gx766
                obtain ⟨rfl, hI775, rfl⟩ := hr773
                refine q_g ha rfl (hi774.gives sl22 rfl rfl) ?_; clear ha a; intro a ha
                refine q_want (yields ha rfl rfl) ?_
                refine q_g ha rfl (g_load Try.isAgg2 rfl hat772.one) ?_; clear ha a; intro a ha
                refine q_want (yields ha rfl rfl) ?_
                refine q_g ha rfl (g_move rfl) ?_; clear ha a; intro a ha
                refine q_want (yields ha rfl rfl) ?_
                refine q_g ha rfl (g_move rfl) ?_; clear ha a; intro a ha
                refine q_want (yields ha rfl rfl) ?_
                obtain ⟨x776, g777, gx778, hF⟩ := idx_some hF
                obtain ⟨p779, cs780, f781, hf782, hpb783, hat784, hr785, hi786⟩ := ha0.at g777 gx778
                obtain ⟨rfl, hI787, rfl⟩ := hr785
                refine q_g ha rfl (hi786.gives sl22 rfl rfl) ?_; clear ha a; intro a ha
                refine q_want (yields ha rfl rfl) ?_
                refine q_g ha rfl (g_load0 hE697 Try.isAgg2 rfl hat784.one) ?_; clear ha a; intro a ha
                refine q_want (yields ha rfl rfl) ?_
                refine q_g ha rfl (g_neq rfl rfl) ?_; clear ha a; intro a ha
                refine q_g ha rfl (g_pick rfl rfl) ?_; clear ha a; intro a ha
                refine q_nil ?_; intro w788 hx789
                replace h688 := h688.ext hx789
                replace h691 := h691.ext hx789
                have hE790 := Ext.trans hE697 hx789
                replace ha := ha.sub (σ' := [(0, va0), (3, v319), (4, v325), (5, (.int .i64 i327)), (6, (.int .i64 i693)), (24, v325), (25, (.int .i64 i693)), (26, (.pointer (some p767))), (27, (.int .i64 x764)), (28, va0), (29, (.int .i64 i327)), (30, (.pointer (some p779))), (31, (.int .i64 x776)), (32, (.bool (decide (x764 ≠ x776)))), (33, (.bool (decide (x764 ≠ x776))))]) ⟨rfl, rfl, rfl, rfl, rfl, rfl, rfl, rfl, rfl, rfl, rfl, rfl, rfl, rfl, rfl, trivial⟩
                refine e_then ?_
                refine c_cond (x764 ≠ x776) ha rfl (decide_eq_true_iff) (fun hp791 => ?_) (fun hp791 => ?_)
                · replace hF := if_t hp791 hF
                  refine wp_skip ?_
                  refine e_then ?_
                  refine wp_block ?_
                  refine wp_region_lit ?_
                  refine op_g ha rfl (g_move rfl) ?_; clear ha a; intro a ha
                  obtain ⟨hI792, hF⟩ := ck_some hF
                  refine op_g ha rfl (g_add rfl rfl hI792) ?_; clear ha a; intro a ha
                  refine op_g ha rfl (g_assign rfl) ?_; clear ha a; intro a ha
                  refine wpList_nil ?_
                  replace ha := ha.sub (σ' := [(0, va0), (3, v319), (4, v325), (5, (.int .i64 i327)), (6, (.int .i64 (i693 + 1))), (24, v325), (25, (.int .i64 i693)), (26, (.pointer (some p767))), (27, (.int .i64 x764)), (28, va0), (29, (.int .i64 i327)), (30, (.pointer (some p779))), (31, (.int .i64 x776)), (32, (.bool (decide (x764 ≠ x776))))]) ⟨rfl, rfl, rfl, rfl, rfl, rfl, rfl, rfl, rfl, rfl, rfl, rfl, rfl, rfl, trivial⟩
                  refine e_blk ?_
                  refine e_lq ?_
                  obtain rfl := Option.some.inj hF
                  exact ⟨_, Nat.lt_succ_self _, i693 + 1, ha.sub ⟨rfl, rfl, rfl, rfl, rfl, trivial⟩, hE790, hI792, h688, z689, h691, z692, q695, q696, hN760⟩
                · replace hF := if_f hp791 hF
                  refine wp_exit ?_
                  refine e_then_exit ?_
                  refine e_lq_eq ?_
                  obtain rfl := Option.some.inj hF
                  exact ⟨i693, ha.sub ⟨rfl, rfl, rfl, rfl, rfl, trivial⟩, hE790, hI694, h688, z689, h691, z692, q695, q696, (LK_inr hN760).symm⟩
              · replace hF := if_f hp763 hF
                rw [show (decide (i693 < (l324.length : Int))) = false from b_false (decide_eq_true_iff) hp763] at ha
                refine q_unwant ha rfl (yields ha rfl rfl) rfl ?_; clear ha a; intro a ha
                refine q_unwant ha rfl (yields ha rfl rfl) rfl ?_; clear ha a; intro a ha
                refine q_unwant ha rfl (yields ha rfl rfl) rfl ?_; clear ha a; intro a ha
                refine q_unwant ha rfl (yields ha rfl rfl) rfl ?_; clear ha a; intro a ha
                refine q_unwant ha rfl (yields ha rfl rfl) rfl ?_; clear ha a; intro a ha
                refine q_unwant ha rfl (yields ha rfl rfl) rfl ?_; clear ha a; intro a ha
                refine q_unwant ha rfl (yields ha rfl rfl) rfl ?_; clear ha a; intro a ha
                refine q_unwant ha rfl (yields ha rfl rfl) rfl ?_; clear ha a; intro a ha
                refine q_unwant ha rfl (yields ha rfl rfl) rfl ?_; clear ha a; intro a ha
                refine q_g ha rfl (g_pick rfl rfl) ?_; clear ha a; intro a ha
                refine q_nil ?_; intro w794 hx795
                replace h688 := h688.ext hx795
                replace h691 := h691.ext hx795
                have hE796 := Ext.trans hE697 hx795
                replace ha := ha.sub (σ' := [(0, va0), (3, v319), (4, v325), (5, (.int .i64 i327)), (6, (.int .i64 i693)), (33, (.bool false))]) ⟨rfl, rfl, rfl, rfl, rfl, rfl, trivial⟩
                refine e_then ?_
                refine c_false ha rfl ?_
                refine wp_exit ?_
                refine e_then_exit ?_
                refine e_lq_eq ?_
                obtain rfl := Option.some.inj hF
                exact ⟨i693, ha.sub ⟨rfl, rfl, rfl, rfl, rfl, trivial⟩, hE796, hI694, h688, z689, h691, z692, q695, q696, (LK_inr hN760).symm⟩
          · rintro a w743 ⟨i750, ha, hE759, hI751, h745, z746, h748, z749, q752, q753, rfl⟩
            have hF : F_spec_LeastNames_k3 a0 l318 l324 i327 i750 = some _ := hK756; clear hK756; unfold F_spec_LeastNames_k3 at hF
            refine e_then ?_
            refine wp_seq ?_
            refine wp_seq ?_
            refine wp_region_lit ?_
            refine op_g ha rfl (g_move rfl) ?_; clear ha a; intro a ha
            refine op_g ha rfl (g_move rfl) ?_; clear ha a; intro a ha
            refine op_g ha rfl (g_lenO sl22.und h748 rfl) ?_; clear ha a; intro a ha
            refine op_g ha rfl (g_eql rfl rfl) ?_; clear ha a; intro a ha
            refine wpList_nil ?_
            replace ha := ha.sub (σ' := [(0, va0), (3, v319), (4, v325), (5, (.int .i64 i327)), (6, (.int .i64 i750)), (39, (.bool (decide (i750 = (l324.length : Int)))))]) ⟨rfl, rfl, rfl, rfl, rfl, rfl, trivial⟩
            refine e_then ?_
            refine c_cond (i750 = (l324.length : Int)) ha rfl (decide_eq_true_iff) (fun hp797 => ?_) (fun hp797 => ?_)
            · replace hF := if_t hp797 hF
              refine wp_region_lit ?_
              refine op_g ha rfl (g_move rfl) ?_; clear ha a; intro a ha
              refine op_g ha rfl (g_move rfl) ?_; clear ha a; intro a ha
              refine op_g ha rfl (g_move rfl) ?_; clear ha a; intro a ha
              obtain ⟨x798, g799, gx800, hF⟩ := idx_some hF
              obtain ⟨p801, cs802, f803, hf804, hpb805, hat806, hr807, hi808⟩ := ha0.at g799 gx800
              obtain ⟨rfl, hI809, rfl⟩ := hr807
              refine op_g ha rfl (hi808.gives sl22 rfl rfl) ?_; clear ha a; intro a ha
              refine op_g ha rfl (g_load0 hE759 Try.isAgg2 rfl hat806.one) ?_; clear ha a; intro a ha
              refine o_lit1 (o := true) Rp.int ha rfl sl22 rfl rfl rfl ⟨rfl, hI809, rfl⟩ ?_; clear ha a; intro v810 w811 h812 hx813 a ha
              obtain ⟨b815, hb815⟩ : ∃ b : Int, b = w743.heap.size := ⟨_, rfl⟩; rw [← hb815] at h812
              have q816 := zn_of hb815
              have q817 := Nq.new h745.fpb q816
              have q818 := Nq.madeO q816 h745.blt
              have q819 := Nq.new h748.fpb q816
              have q820 := Nq.madeO q816 h748.blt
              have q821 := Zn.upD q816 hE759
              replace h745 := h745.ext hx813
              replace h748 := h748.ext hx813
              have hE822 := Ext.trans hE759 hx813
              obtain ⟨hl823, hF⟩ := app_some hF
              refine o_append ha rfl sl22 rfl rfl rfl h748 h812.src (Nq.nil _) hl823 ?_; clear ha a; intro v824 w825 b826 h827 hc828 hb829 a ha
              replace h827 : Ow Rp.int 2 true w825 [] b826 v824 _ := h827
              have q831 := Nq.appY q752 h745.fpb hb829
              have q832 := Nq.appX q753 (Nq.nil _) hb829 h745.blt
              have q833 := Nq.appY q820 h812.fpb hb829
              have q834 := Nq.appX q819 (Nq.nil _) hb829 h812.blt
              have q835 := Zn.appD z749 hb829 hE822
              replace h745 := h745.nq hc828 q752
              replace h812 := h812.nq hc828 q820
              have hE836 := Ext.then hE822 hc828 (Zn.bl z749)
              refine op_g ha rfl (g_assign rfl) ?_; clear ha a; intro a ha
              refine wpList_nil ?_
              replace ha := ha.sub (σ' := [(0, va0), (3, v319), (4, v824), (5, (.int .i64 i327)), (6, (.int .i64 i750))]) ⟨rfl, rfl, rfl, rfl, rfl, trivial⟩
              refine e_then ?_
              refine wp_region_lit ?_
              refine op_g ha rfl (g_move rfl) ?_; clear ha a; intro a ha
              refine op_g ha rfl (g_move rfl) ?_; clear ha a; intro a ha
              refine o_lit1 (o := true) Rp.int ha rfl sl22 rfl rfl rfl ⟨rfl, hI751, rfl⟩ ?_; clear ha a; intro v837 w838 h839 hx840 a ha
              obtain ⟨b842, hb842⟩ : ∃ b : Int, b = w825.heap.size := ⟨_, rfl⟩; rw [← hb842] at h839
              have q843 := zn_of hb842
              have q844 := Nq.new h745.fpb q843
              have q845 := Nq.madeO q843 h745.blt
              have q846 := Nq.new h827.fpb q843
              have q847 := Nq.madeO q843 h827.blt
              have q848 := Zn.upD q843 hE836
              replace h745 := h745.ext hx840
              replace h827 := h827.ext hx840
              have hE849 := Ext.trans hE836 hx840
              obtain ⟨hl850, hF⟩ := app_some hF
              refine o_append ha rfl sl22 rfl rfl rfl h745 h839.src (Nq.nil _) hl850 ?_; clear ha a; intro v851 w852 b853 h854 hc855 hb856 a ha
              replace h854 : Ow Rp.int 2 true w852 [] b853 v851 _ := h854
              have q858 := Nq.appY q832 h827.fpb hb856
              have q859 := Nq.appX q831 (Nq.nil _) hb856 h827.blt
              have q860 := Nq.appY q845 h839.fpb hb856
              have q861 := Nq.appX q844 (Nq.nil _) hb856 h839.blt
              have q862 := Zn.appD z746 hb856 hE849
              replace h827 := h827.nq hc855 q832
              replace h839 := h839.nq hc855 q845
              have hE863 := Ext.then hE849 hc855 (Zn.bl z746)
              refine op_g ha rfl (g_assign rfl) ?_; clear ha a; intro a ha
              refine wpList_nil ?_
              replace ha := ha.sub (σ' := [(0, va0), (3, v851), (4, v824), (5, (.int .i64 i327))]) ⟨rfl, rfl, rfl, rfl, trivial⟩
              refine e_blk ?_
              refine e_then ?_
              refine wp_region_lit ?_
              refine op_g ha rfl (g_move rfl) ?_; clear ha a; intro a ha
              obtain ⟨hI864, hF⟩ := ck_some hF
              refine op_g ha rfl (g_add rfl rfl hI864) ?_; clear ha a; intro a ha
              refine op_g ha rfl (g_assign rfl) ?_; clear ha a; intro a ha
              refine wpList_nil ?_
              replace ha := ha.sub (σ' := [(0, va0), (3, v851), (4, v824), (5, (.int .i64 (i327 + 1)))]) ⟨rfl, rfl, rfl, rfl, trivial⟩
              refine e_lq ?_
              obtain rfl := Option.some.inj hF
              exact ⟨_, Nat.lt_succ_self _, (l318 ++ ([i750])), (l324 ++ ([x798])), i327 + 1, v851, b853, v824, b826, ha.sub ⟨rfl, rfl, rfl, rfl, trivial⟩, hE863, hI864, h854, q862, h827, q835, q859, q858, hN627⟩
            · replace hF := if_f hp797 hF
              refine wp_skip ?_
              refine e_then ?_
              refine wp_region_lit ?_
              refine op_g ha rfl (g_move rfl) ?_; clear ha a; intro a ha
              refine op_g ha rfl (g_move rfl) ?_; clear ha a; intro a ha
              refine o_lit1 (o := true) Rp.int ha rfl sl22 rfl rfl rfl ⟨rfl, hI751, rfl⟩ ?_; clear ha a; intro v866 w867 h868 hx869 a ha
              obtain ⟨b871, hb871⟩ : ∃ b : Int, b = w743.heap.size := ⟨_, rfl⟩; rw [← hb871] at h868
              have q872 := zn_of hb871
              have q873 := Nq.new h745.fpb q872
              have q874 := Nq.madeO q872 h745.blt
              have q875 := Nq.new h748.fpb q872
              have q876 := Nq.madeO q872 h748.blt
              have q877 := Zn.upD q872 hE759
              replace h745 := h745.ext hx869
              replace h748 := h748.ext hx869
              have hE878 := Ext.trans hE759 hx869
              obtain ⟨hl879, hF⟩ := app_some hF
              refine o_append ha rfl sl22 rfl rfl rfl h745 h868.src (Nq.nil _) hl879 ?_; clear ha a; intro v880 w881 b882 h883 hc884 hb885 a ha
              replace h883 : Ow Rp.int 2 true w881 [] b882 v880 _ := h883
              have q887 := Nq.appY q753 h748.fpb hb885
              have q888 := Nq.appX q752 (Nq.nil _) hb885 h748.blt
              have q889 := Nq.appY q874 h868.fpb hb885
              have q890 := Nq.appX q873 (Nq.nil _) hb885 h868.blt
              have q891 := Zn.appD z746 hb885 hE878
              replace h748 := h748.nq hc884 q753
              replace h868 := h868.nq hc884 q874
              have hE892 := Ext.then hE878 hc884 (Zn.bl z746)
              refine op_g ha rfl (g_assign rfl) ?_; clear ha a; intro a ha
              refine wpList_nil ?_
              replace ha := ha.sub (σ' := [(0, va0), (3, v880), (4, v325), (5, (.int .i64 i327))]) ⟨rfl, rfl, rfl, rfl, trivial⟩
              refine e_blk ?_
              refine e_then ?_
              refine wp_region_lit ?_
              refine op_g ha rfl (g_move rfl) ?_; clear ha a; intro a ha
              obtain ⟨hI893, hF⟩ := ck_some hF
              refine op_g ha rfl (g_add rfl rfl hI893) ?_; clear ha a; intro a ha
              refine op_g ha rfl (g_assign rfl) ?_; clear ha a; intro a ha
              refine wpList_nil ?_
              replace ha := ha.sub (σ' := [(0, va0), (3, v880), (4, v325), (5, (.int .i64 (i327 + 1)))]) ⟨rfl, rfl, rfl, rfl, trivial⟩
              refine e_lq ?_
              obtain rfl := Option.some.inj hF
              exact ⟨_, Nat.lt_succ_self _, (l318 ++ ([i750])), l324, i327 + 1, v880, b882, v325, b326, ha.sub ⟨rfl, rfl, rfl, rfl, trivial⟩, hE892, hI893, h883, q891, h748, z749, q888, q887, hN627⟩
        · replace hF := if_f hp630 hF
          refine wp_exit ?_
          refine e_then_exit ?_
          refine e_lq_eq ?_
          obtain rfl := Option.some.inj hF
          exact ⟨l318, v319, b320, ha.sub ⟨rfl, trivial⟩, hE331, h316, z317, (LK_inr hN627).symm⟩
    · rintro a w614 ⟨l618, v619, b620, ha, hE626, h616, z617, rfl⟩
      have hF : F_spec_LeastNames_k4 l618 = some _ := hK623; clear hK623; unfold F_spec_LeastNames_k4 at hF
      refine e_then ?_
      refine wp_seq ?_
      refine wp_region_lit ?_
      refine op_g ha rfl (g_move rfl) ?_; clear ha a; intro a ha
      refine op_g ha rfl (g_assign rfl) ?_; clear ha a; intro a ha
      refine wpList_nil ?_
      replace ha := ha.sub (σ' := [(2, v619)]) ⟨rfl, trivial⟩
      refine e_then ?_
      refine wp_ret ?_
      obtain rfl := Option.some.inj hF
      exact f_ret1 ha rfl rfl ⟨⟨_, h616, z617⟩, hE626⟩
set_option maxHeartbeats 2000000 in
theorem W_slices_Index_int64 {W : World} {va0 : Value} {fa0 : List Nat} {a0 : (List Int)} (ha0 : Ro Rp.int W fa0 va0 a0) {a1 : Int} (ha1 : InI a1) {r : Int} (hF : F_slices_Index_int64 a0 a1 = some r) :
    Calls Try.prog 37 [va0, .int .i64 a1].toArray W (Ret fun u w' => (u = .int .i64 r ∧ InI r) ∧ Ext W w') := by
  refine f_enter Try.func37 rfl Try.ntmps37 rfl ?_
  intro a ha
  replace ha : Fr 19 [(0, va0), (1, (.int .i64 a1))] a := ha
  have hE : Chg [] W W := Chg.refl _ _
  unfold F_slices_Index_int64 at hF
  refine wp_seq ?_
  refine wp_region_lit ?_
  refine op_g ha rfl (g_assign rfl) ?_; clear ha a; intro a ha
  refine wpList_nil ?_
  replace ha := ha.sub (σ' := [(0, va0), (1, (.int .i64 a1))]) ⟨rfl, rfl, trivial⟩
  refine e_then ?_
  refine wp_seq ?_
  refine wp_seq ?_
  refine wp_region_lit ?_
  refine op_g ha rfl (g_move rfl) ?_; clear ha a; intro a ha
  refine op_g ha rfl (g_lenR sl22.und ha0 rfl) ?_; clear ha a; intro a ha
  refine op_g ha rfl (g_move rfl) ?_; clear ha a; intro a ha
  refine wpList_nil ?_
  replace ha := ha.sub (σ' := [(0, va0), (1, (.int .i64 a1)), (7, (.int .i64 (a0.length : Int))), (8, (.int .i64 0))]) ⟨rfl, rfl, rfl, rfl, trivial⟩
  refine e_then ?_
  obtain ⟨o46, ho47, hK48⟩ := bnd_some hF
  obtain ⟨n49, hn50⟩ := lp_some ho47; clear ho47
  refine c_loop (fun a w => Fr 19 [] a ∧ Chg [] W w ∧ o46 = .inl ()) (fun n a w => ∃ (i23 : Int), Fr 19 [(0, va0), (1, (.int .i64 a1)), (7, (.int .i64 (a0.length : Int))), (8, (.int .i64 i23))] a ∧ Chg [] W w ∧ InI i23 ∧ lpN (fun s => F_slices_Index_int64_l1 a0 a1 s) n i23 = some o46) n49 ⟨0, ha.sub ⟨rfl, rfl, rfl, rfl, trivial⟩, hE, (by decide), hn50⟩ ?_ ?_
  · rintro m54 a w22 ⟨i23, ha, hE25, hI24, hF⟩
    cases m54 with
    | zero => exact (lpN_zero hF).elim
    | succ m54 =>
      obtain ⟨z53, hF, hN52⟩ := lpN_succ hF
      have hF : F_slices_Index_int64_l1 a0 a1 i23 = some z53 := hF; unfold F_slices_Index_int64_l1 at hF
      refine wp_seq ?_
      refine wp_region_lit ?_
      refine op_g ha rfl (g_lss rfl rfl) ?_; clear ha a; intro a ha
      refine wpList_nil ?_
      replace ha := ha.sub (σ' := [(0, va0), (1, (.int .i64 a1)), (7, (.int .i64 (a0.length : Int))), (8, (.int .i64 i23)), (9, (.bool (decide (i23 < (a0.length : Int)))))]) ⟨rfl, rfl, rfl, rfl, rfl, trivial⟩
      refine e_then ?_
      refine wp_seq ?_
      refine c_cond (i23 < (a0.length : Int)) ha rfl (decide_eq_true_iff) (fun hp55 => ?_) (fun hp55 => ?_)
      · replace hF := if_t hp55 hF
        refine wp_skip ?_
        refine e_then ?_
        refine wp_seq ?_
        refine wp_block ?_
        refine wp_seq ?_
        refine wp_region_lit ?_
        refine op_g ha rfl (g_move rfl) ?_; clear ha a; intro a ha
        refine op_g ha rfl (g_assign rfl) ?_; clear ha a; intro a ha
        refine wpList_nil ?_
        replace ha := ha.sub (σ' := [(0, va0), (1, (.int .i64 a1)), (5, (.int .i64 i23)), (7, (.int .i64 (a0.length : Int))), (8, (.int .i64 i23))]) ⟨rfl, rfl, rfl, rfl, rfl, trivial⟩
        refine e_then ?_
        refine wp_seq ?_
        refine wp_region_lit ?_
        refine op_g ha rfl (g_move rfl) ?_; clear ha a; intro a ha
        refine op_g ha rfl (g_move rfl) ?_; clear ha a; intro a ha
        refine op_g ha rfl (g_move rfl) ?_; clear ha a; intro a ha
        obtain ⟨x56, g57, gx58, hF⟩ := idx_some hF
        obtain ⟨p59, cs60, f61, hf62, hpb63, hat64, hr65, hi66⟩ := ha0.at g57 gx58
        obtain ⟨rfl, hI67, rfl⟩ := hr65
        refine op_g ha rfl (hi66.gives sl22 rfl rfl) ?_; clear ha a; intro a ha
        refine op_g ha rfl (g_load0 hE25 Try.isAgg2 rfl hat64.one) ?_; clear ha a; intro a ha
        refine op_g ha rfl (g_eql rfl rfl) ?_; clear ha a; intro a ha
        refine wpList_nil ?_
        replace ha := ha.sub (σ' := [(0, va0), (1, (.int .i64 a1)), (5, (.int .i64 i23)), (7, (.int .i64 (a0.length : Int))), (8, (.int .i64 i23)), (16, (.bool (decide (a1 = x56))))]) ⟨rfl, rfl, rfl, rfl, rfl, rfl, trivial⟩
        refine e_then ?_
        refine c_cond (a1 = x56) ha rfl (decide_eq_true_iff) (fun hp68 => ?_) (fun hp68 => ?_)
        · replace hF := if_t hp68 hF
          refine wp_seq ?_
          refine wp_region_lit ?_
          refine op_g ha rfl (g_move rfl) ?_; clear ha a; intro a ha
          refine op_g ha rfl (g_assign rfl) ?_; clear ha a; intro a ha
          refine wpList_nil ?_
          replace ha := ha.sub (σ' := [(4, (.int .i64 i23))]) ⟨rfl, trivial⟩
          refine e_then ?_
          refine wp_ret ?_
          refine e_blk_ret ?_
          refine e_then_ret ?_
          refine e_lq_ret ?_
          refine e_then_ret ?_
          obtain rfl := Option.some.inj hF
          have e69 := LK_inr hN52; subst e69
          have e70 := BK_inr hK48; subst e70
          exact f_ret1 ha rfl rfl ⟨⟨rfl, hI24⟩, hE25⟩
        · replace hF := if_f hp68 hF
          refine wp_skip ?_
          refine e_blk ?_
          refine e_then ?_
          refine wp_region_lit ?_
          obtain ⟨hI71, hF⟩ := ck_some hF
          refine op_g ha rfl (g_add rfl rfl hI71) ?_; clear ha a; intro a ha
          refine op_g ha rfl (g_move rfl) ?_; clear ha a; intro a ha
          refine wpList_nil ?_
          replace ha := ha.sub (σ' := [(0, va0), (1, (.int .i64 a1)), (7, (.int .i64 (a0.length : Int))), (8, (.int .i64 (i23 + 1)))]) ⟨rfl, rfl, rfl, rfl, trivial⟩
          refine e_lq ?_
          obtain rfl := Option.some.inj hF
          exact ⟨_, Nat.lt_succ_self _, i23 + 1, ha.sub ⟨rfl, rfl, rfl, rfl, trivial⟩, hE25, hI71, hN52⟩
      · replace hF := if_f hp55 hF
        refine wp_exit ?_
        refine e_then_exit ?_
        refine e_lq_eq ?_
        obtain rfl := Option.some.inj hF
        exact ⟨ha.sub trivial, hE25, (LK_inr hN52).symm⟩
  · rintro a w45 ⟨ha, hE51, rfl⟩
    have hF : F_slices_Index_int64_k2 = some _ := hK48; clear hK48; unfold F_slices_Index_int64_k2 at hF
    refine e_then ?_
    refine wp_seq ?_
    refine wp_region_lit ?_
    refine op_g ha rfl (g_assign rfl) ?_; clear ha a; intro a ha
    refine wpList_nil ?_
    refine e_then ?_
    refine wp_ret ?_
    obtain rfl := Option.some.inj hF
    exact f_ret1 ha rfl rfl ⟨⟨rfl, (by decide)⟩, hE51⟩
set_option maxHeartbeats 2000000 in
theorem W_slices_Contains_int64 {W : World} {va0 : Value} {fa0 : List Nat} {a0 : (List Int)} (ha0 : Ro Rp.int W fa0 va0 a0) {a1 : Int} (ha1 : InI a1) {r : Bool} (hF : F_slices_Contains_int64 a0 a1 = some r) :
    Calls Try.prog 36 [va0, .int .i64 a1].toArray W (Ret fun u w' => u = .bool r ∧ Ext W w') := by
  refine f_enter Try.func36 rfl Try.ntmps36 rfl ?_
  intro a ha
  replace ha : Fr 9 [(0, va0), (1, (.int .i64 a1))] a := ha
  have hE : Chg [] W W := Chg.refl _ _
  unfold F_slices_Contains_int64 at hF
  refine wp_seq ?_
  refine wp_region_lit ?_
  refine op_g ha rfl (g_assign rfl) ?_; clear ha a; intro a ha
  refine wpList_nil ?_
  replace ha := ha.sub (σ' := [(0, va0), (1, (.int .i64 a1))]) ⟨rfl, rfl, trivial⟩
  refine e_then ?_
  refine wp_seq ?_
  refine wp_region_lit ?_
  refine op_g ha rfl (g_move rfl) ?_; clear ha a; intro a ha
  refine op_g ha rfl (g_move rfl) ?_; clear ha a; intro a ha
  obtain ⟨x1, hc2, hF⟩ := cal_some hF
  refine o_call ha rfl rfl Try.call37 (W_slices_Index_int64 (ha0.ext hE) ha1 hc2) ?_; clear ha a; rintro v3 w4 ⟨⟨rfl, hI6⟩, hx5⟩ a ha
  have hE7 := Ext.trans hE hx5
  refine op_g ha rfl (g_geq rfl rfl) ?_; clear ha a; intro a ha
  refine op_g ha rfl (g_assign rfl) ?_; clear ha a; intro a ha
  refine wpList_nil ?_
  replace ha := ha.sub (σ' := [(4, (.bool (decide (0 ≤ x1))))]) ⟨rfl, trivial⟩
  refine e_then ?_
  refine wp_ret ?_
  obtain rfl := Option.some.inj hF
  exact f_ret1 ha rfl rfl ⟨rfl, hE7⟩
set_option maxHeartbeats 2000000 in
theorem W_impl_LeastNames {W : World} {va0 : Value} {fa0 : List Nat} {a0 : (List Int)} (ha0 : Ro Rp.int W fa0 va0 a0) {r : (List Int)} (hF : F_impl_LeastNames a0 = some r) :
    Calls Try.prog 11 [va0].toArray W (Ret fun u w' => (∃ b : Int, Ow Rp.int 2 true w' [] b u r ∧ Zn W b) ∧ Ext W w') := by
  refine f_enter Try.func11 rfl Try.ntmps11 rfl ?_
  intro a ha
  replace ha : Fr 34 [(0, va0)] a := ha
  have hE : Chg [] W W := Chg.refl _ _
  unfold F_impl_LeastNames at hF
  refine wp_seq ?_
  refine wp_region_lit ?_
  refine op_g ha rfl (g_assign rfl) ?_; clear ha a; intro a ha
  refine wpList_nil ?_
  replace ha := ha.sub (σ' := [(0, va0)]) ⟨rfl, trivial⟩
  refine e_then ?_
  refine wp_seq ?_
  refine wp_seq ?_
  refine wp_region_lit ?_
  refine op_g ha rfl (g_move rfl) ?_; clear ha a; intro a ha
  refine op_g ha rfl (g_lenR sl22.und ha0 rfl) ?_; clear ha a; intro a ha
  refine op_g ha rfl (g_gtr rfl rfl) ?_; clear ha a; intro a ha
  refine wpList_nil ?_
  replace ha := ha.sub (σ' := [(0, va0), (9, (.bool (decide (16 < (a0.length : Int)))))]) ⟨rfl, rfl, trivial⟩
  refine e_then ?_
  refine c_cond (16 < (a0.length : Int)) ha rfl (decide_eq_true_iff) (fun hp1 => ?_) (fun hp1 => ?_)
  · replace hF := if_t hp1 hF
    refine wp_seq ?_
    refine wp_region_lit ?_
    refine op_g ha rfl (g_assign rfl) ?_; clear ha a; intro a ha
    refine wpList_nil ?_
    replace ha := ha.sub (σ' := [(2, (.slice none 0 0))]) ⟨rfl, trivial⟩
    refine e_then ?_
    refine wp_ret ?_
    refine e_then_ret ?_
    obtain rfl := Option.some.inj hF
    exact f_ret1 ha rfl rfl ⟨⟨-1, Ow.nil (by decide), .inl (by decide)⟩, hE⟩
  · replace hF := if_f hp1 hF
    refine wp_skip ?_
    refine e_then ?_
    refine wp_seq ?_
    refine wp_region_lit ?_
    refine o_lit0 Rp.int ha rfl sl22 ?_; clear ha a; intro v2 w3 h4 hx5 a ha
    obtain ⟨b7, hb7⟩ : ∃ b : Int, b = W.heap.size := ⟨_, rfl⟩; rw [← hb7] at h4
    have q8 := zn_of hb7
    have q9 := Zn.upD q8 hE
    have hE10 := Ext.trans hE hx5
    refine o_lit0 Rp.int ha rfl sl22 ?_; clear ha a; intro v11 w12 h13 hx14 a ha
    obtain ⟨b16, hb16⟩ : ∃ b : Int, b = w3.heap.size := ⟨_, rfl⟩; rw [← hb16] at h13
    have q17 := zn_of hb16
    have q18 := Nq.new h4.fpb q17
    have q19 := Nq.madeO q17 h4.blt
    have q20 := Zn.upD q17 hE10
    replace h4 := h4.ext hx14
    have hE21 := Ext.trans hE10 hx14
    refine op_g ha rfl (g_assign rfl) ?_; clear ha a; intro a ha
    refine op_g ha rfl (g_assign rfl) ?_; clear ha a; intro a ha
    refine wpList_nil ?_
    replace ha := ha.sub (σ' := [(0, va0), (3, v2), (4, v11)]) ⟨rfl, rfl, rfl, trivial⟩
    refine e_then ?_
    refine wp_seq ?_
    refine wp_seq ?_
    refine wp_region_lit ?_
    refine op_g ha rfl (g_move rfl) ?_; clear ha a; intro a ha
    refine op_g ha rfl (g_lenR sl22.und ha0 rfl) ?_; clear ha a; intro a ha
    refine op_g ha rfl (g_move rfl) ?_; clear ha a; intro a ha
    refine wpList_nil ?_
    replace ha := ha.sub (σ' := [(3, v2), (4, v11), (12, va0), (13, (.int .i64 (a0.length : Int))), (14, (.int .i64 0))]) ⟨rfl, rfl, rfl, rfl, rfl, trivial⟩
    refine e_then ?_
    obtain ⟨o341, ho342, hK343⟩ := bnd_some hF
    obtain ⟨n344, hn345⟩ := lp_some ho342; clear ho342
    refine c_loop (fun a w => ∃ (l338 : (List Int)) (v339 : Value) (b340 : Int), Fr 34 [(4, v339)] a ∧ Chg [] W w ∧ Ow Rp.int 2 true w [] b340 v339 l338 ∧ Zn W b340 ∧ o341 = .inl l338) (fun n a w => ∃ (l178 : (List Int)) (l184 : (List Int)) (i187 : Int) (v179 : Value) (b180 : Int) (v185 : Value) (b186 : Int), Fr 34 [(3, v179), (4, v185), (12, va0), (13, (.int .i64 (a0.length : Int))), (14, (.int .i64 i187))] a ∧ Chg [] W w ∧ InI i187 ∧ Ow Rp.int 2 true w [] b180 v179 l178 ∧ Zn W b180 ∧ Ow Rp.int 2 true w [] b186 v185 l184 ∧ Zn W b186 ∧ Nq (bl b180 ++ []) b186 ∧ Nq (bl b186 ++ []) b180 ∧ lpN (fun s => F_impl_LeastNames_l1 a0 s.1 s.2.1 s.2.2) n (l178, l184, i187) = some o341) n344 ⟨([] : (List Int)), ([] : (List Int)), 0, v2, b7, v11, b16, ha.sub ⟨rfl, rfl, rfl, rfl, rfl, trivial⟩, hE21, (by decide), h4, q9, h13, q20, q18, q19, hn345⟩ ?_ ?_
    · rintro m349 a w174 ⟨l178, l184, i187, v179, b180, v185, b186, ha, hE191, hI188, h176, z177, h182, z183, q189, q190, hF⟩
      cases m349 with
      | zero => exact (lpN_zero hF).elim
      | succ m349 =>
        obtain ⟨z348, hF, hN347⟩ := lpN_succ hF
        have hF : F_impl_LeastNames_l1 a0 l178 l184 i187 = some z348 := hF; unfold F_impl_LeastNames_l1 at hF
        refine wp_seq ?_
        refine wp_region_lit ?_
        refine op_g ha rfl (g_lss rfl rfl) ?_; clear ha a; intro a ha
        refine wpList_nil ?_
        replace ha := ha.sub (σ' := [(3, v179), (4, v185), (12, va0), (13, (.int .i64 (a0.length : Int))), (14, (.int .i64 i187)), (15, (.bool (decide (i187 < (a0.length : Int)))))]) ⟨rfl, rfl, rfl, rfl, rfl, rfl, trivial⟩
        refine e_then ?_
        refine wp_seq ?_
        refine c_cond (i187 < (a0.length : Int)) ha rfl (decide_eq_true_iff) (fun hp350 => ?_) (fun hp350 => ?_)
        · replace hF := if_t hp350 hF
          refine wp_skip ?_
          refine e_then ?_
          refine wp_seq ?_
          refine wp_block ?_
          refine wp_seq ?_
          refine wp_region_lit ?_
          obtain ⟨x351, g352, gx353, hF⟩ := idx_some hF
          obtain ⟨p354, cs355, f356, hf357, hpb358, hat359, hr360, hi361⟩ := ha0.at g352 gx353
          obtain ⟨rfl, hI362, rfl⟩ := hr360
          refine op_g ha rfl (hi361.gives sl22 rfl rfl) ?_; clear ha a; intro a ha
          refine op_g ha rfl (g_load0 hE191 Try.isAgg2 rfl hat359.one) ?_; clear ha a; intro a ha
          refine op_g ha rfl (g_assign rfl) ?_; clear ha a; intro a ha
          refine wpList_nil ?_
          replace ha := ha.sub (σ' := [(3, v179), (4, v185), (6, (.int .i64 x351)), (12, va0), (13, (.int .i64 (a0.length : Int))), (14, (.int .i64 i187))]) ⟨rfl, rfl, rfl, rfl, rfl, rfl, trivial⟩
          refine e_then ?_
          refine wp_seq ?_
          refine wp_seq ?_
          refine wp_region_lit ?_
          refine op_g ha rfl (g_move rfl) ?_; clear ha a; intro a ha
          refine op_g ha rfl (g_move rfl) ?_; clear ha a; intro a ha
          obtain ⟨fp363, hro364, -⟩ := h176.weak.ro
          obtain ⟨x365, hc366, hF⟩ := cal_some hF
          refine o_call ha rfl rfl Try.call36 (W_slices_Contains_int64 hro364 hI362 hc366) ?_; clear ha a; rintro v367 w368 ⟨rfl, hx369⟩ a ha
          replace h176 := h176.ext hx369
          replace h182 := h182.ext hx369
          have hE370 := Ext.trans hE191 hx369
          refine op_g ha rfl (g_not rfl) ?_; clear ha a; intro a ha
          refine wpList_nil ?_
          replace ha := ha.sub (σ' := [(3, v179), (4, v185), (6, (.int .i64 x351)), (12, va0), (13, (.int .i64 (a0.length : Int))), (14, (.int .i64 i187)), (21, (.bool (!x365)))]) ⟨rfl, rfl, rfl, rfl, rfl, rfl, rfl, trivial⟩
          refine e_then ?_
          refine c_cond (¬ (x365 = true)) ha rfl (n_iff (Iff.rfl)) (fun hp371 => ?_) (fun hp371 => ?_)
          · replace hF := if_t hp371 hF
            refine wp_region_lit ?_
            refine op_g ha rfl (g_move rfl) ?_; clear ha a; intro a ha
            refine op_g ha rfl (g_move rfl) ?_; clear ha a; intro a ha
            refine o_lit1 (o := true) Rp.int ha rfl sl22 rfl rfl rfl ⟨rfl, hI362, rfl⟩ ?_; clear ha a; intro v372 w373 h374 hx375 a ha
            obtain ⟨b377, hb377⟩ : ∃ b : Int, b = w368.heap.size := ⟨_, rfl⟩; rw [← hb377] at h374
            have q378 := zn_of hb377
            have q379 := Nq.new h176.fpb q378
            have q380 := Nq.madeO q378 h176.blt
            have q381 := Nq.new h182.fpb q378
            have q382 := Nq.madeO q378 h182.blt
            have q383 := Zn.upD q378 hE370
            replace h176 := h176.ext hx375
            replace h182 := h182.ext hx375
            have hE384 := Ext.trans hE370 hx375
            obtain ⟨hl385, hF⟩ := app_some hF
            refine o_append ha rfl sl22 rfl rfl rfl h176 h374.src (Nq.nil _) hl385 ?_; clear ha a; intro v386 w387 b388 h389 hc390 hb391 a ha
            replace h389 : Ow Rp.int 2 true w387 [] b388 v386 _ := h389
            have q393 := Nq.appY q190 h182.fpb hb391
            have q394 := Nq.appX q189 (Nq.nil _) hb391 h182.blt
            have q395 := Nq.appY q380 h374.fpb hb391
            have q396 := Nq.appX q379 (Nq.nil _) hb391 h374.blt
            have q397 := Zn.appD z177 hb391 hE384
            replace h182 := h182.nq hc390 q190
            replace h374 := h374.nq hc390 q380
            have hE398 := Ext.then hE384 hc390 (Zn.bl z177)
            refine op_g ha rfl (g_assign rfl) ?_; clear ha a; intro a ha
            refine wpList_nil ?_
            replace ha := ha.sub (σ' := [(3, v386), (4, v185), (6, (.int .i64 x351)), (12, va0), (13, (.int .i64 (a0.length : Int))), (14, (.int .i64 i187))]) ⟨rfl, rfl, rfl, rfl, rfl, rfl, trivial⟩
            refine e_then ?_
            refine wp_region_lit ?_
            refine op_g ha rfl (g_move rfl) ?_; clear ha a; intro a ha
            refine op_g ha rfl (g_move rfl) ?_; clear ha a; intro a ha
            refine op_g ha rfl (g_move rfl) ?_; clear ha a; intro a ha
            obtain ⟨fp399, hro400, -⟩ := h389.weak.ro
            obtain ⟨x401, hc402, hF⟩ := cal_some hF
            refine o_call ha rfl rfl Try.call37 (W_slices_Index_int64 hro400 hI362 hc402) ?_; clear ha a; rintro v403 w404 ⟨⟨rfl, hI406⟩, hx405⟩ a ha
            replace h182 := h182.ext hx405
            replace h389 := h389.ext hx405
            have hE407 := Ext.trans hE398 hx405
            refine o_lit1 (o := true) Rp.int ha rfl sl22 rfl rfl rfl ⟨rfl, hI406, rfl⟩ ?_; clear ha a; intro v408 w409 h410 hx411 a ha
            obtain ⟨b413, hb413⟩ : ∃ b : Int, b = w404.heap.size := ⟨_, rfl⟩; rw [← hb413] at h410
            have q414 := zn_of hb413
            have q415 := Nq.new h182.fpb q414
            have q416 := Nq.madeO q414 h182.blt
            have q417 := Nq.new h389.fpb q414
            have q418 := Nq.madeO q414 h389.blt
            have q419 := Zn.upD q414 hE407
            replace h182 := h182.ext hx411
            replace h389 := h389.ext hx411
            have hE420 := Ext.trans hE407 hx411
            obtain ⟨hl421, hF⟩ := app_some hF
            refine o_append ha rfl sl22 rfl rfl rfl h182 h410.src (Nq.nil _) hl421 ?_; clear ha a; intro v422 w423 b424 h425 hc426 hb427 a ha
            replace h425 : Ow Rp.int 2 true w423 [] b424 v422 _ := h425
            have q429 := Nq.appY q394 h389.fpb hb427
            have q430 := Nq.appX q393 (Nq.nil _) hb427 h389.blt
            have q431 := Nq.appY q416 h410.fpb hb427
            have q432 := Nq.appX q415 (Nq.nil _) hb427 h410.blt
            have q433 := Zn.appD z183 hb427 hE420
            replace h389 := h389.nq hc426 q394
            replace h410 := h410.nq hc426 q416
            have hE434 := Ext.then hE420 hc426 (Zn.bl z183)
            refine op_g ha rfl (g_assign rfl) ?_; clear ha a; intro a ha
            refine wpList_nil ?_
            replace ha := ha.sub (σ' := [(3, v386), (4, v422), (12, va0), (13, (.int .i64 (a0.length : Int))), (14, (.int .i64 i187))]) ⟨rfl, rfl, rfl, rfl, rfl, trivial⟩
            refine e_blk ?_
            refine e_then ?_
            refine wp_region_lit ?_
            obtain ⟨hI435, hF⟩ := ck_some hF
            refine op_g ha rfl (g_add rfl rfl hI435) ?_; clear ha a; intro a ha
            refine op_g ha rfl (g_move rfl) ?_; clear ha a; intro a ha
            refine wpList_nil ?_
            replace ha := ha.sub (σ' := [(3, v386), (4, v422), (12, va0), (13, (.int .i64 (a0.length : Int))), (14, (.int .i64 (i187 + 1)))]) ⟨rfl, rfl, rfl, rfl, rfl, trivial⟩
            refine e_lq ?_
            obtain rfl := Option.some.inj hF
            exact ⟨_, Nat.lt_succ_self _, (l178 ++ ([x351])), (l184 ++ ([x401])), i187 + 1, v386, b388, v422, b424, ha.sub ⟨rfl, rfl, rfl, rfl, rfl, trivial⟩, hE434, hI435, h389, q397, h425, q433, q429, q430, hN347⟩
          · replace hF := if_f hp371 hF
            refine wp_skip ?_
            refine e_then ?_
            refine wp_region_lit ?_
            refine op_g ha rfl (g_move rfl) ?_; clear ha a; intro a ha
            refine op_g ha rfl (g_move rfl) ?_; clear ha a; intro a ha
            refine op_g ha rfl (g_move rfl) ?_; clear ha a; intro a ha
            obtain ⟨fp437, hro438, -⟩ := h176.weak.ro
            obtain ⟨x439, hc440, hF⟩ := cal_some hF
            refine o_call ha rfl rfl Try.call37 (W_slices_Index_int64 hro438 hI362 hc440) ?_; clear ha a; rintro v441 w442 ⟨⟨rfl, hI444⟩, hx443⟩ a ha
            replace h176 := h176.ext hx443
            replace h182 := h182.ext hx443
            have hE445 := Ext.trans hE370 hx443
            refine o_lit1 (o := true) Rp.int ha rfl sl22 rfl rfl rfl ⟨rfl, hI444, rfl⟩ ?_; clear ha a; intro v446 w447 h448 hx449 a ha
            obtain ⟨b451, hb451⟩ : ∃ b : Int, b = w442.heap.size := ⟨_, rfl⟩; rw [← hb451] at h448
            have q452 := zn_of hb451
            have q453 := Nq.new h176.fpb q452
            have q454 := Nq.madeO q452 h176.blt
            have q455 := Nq.new h182.fpb q452
            have q456 := Nq.madeO q452 h182.blt
            have q457 := Zn.upD q452 hE445
            replace h176 := h176.ext hx449
            replace h182 := h182.ext hx449
            have hE458 := Ext.trans hE445 hx449
            obtain ⟨hl459, hF⟩ := app_some hF
            refine o_append ha rfl sl22 rfl rfl rfl h182 h448.src (Nq.nil _) hl459 ?_; clear ha a; intro v460 w461 b462 h463 hc464 hb465 a ha
            replace h463 : Ow Rp.int 2 true w461 [] b462 v460 _ := h463
            have q467 := Nq.appY q189 h176.fpb hb465
            have q468 := Nq.appX q190 (Nq.nil _) hb465 h176.blt
            have q469 := Nq.appY q456 h448.fpb hb465
            have q470 := Nq.appX q455 (Nq.nil _) hb465 h448.blt
            have q471 := Zn.appD z183 hb465 hE458
            replace h176 := h176.nq hc464 q189
            replace h448 := h448.nq hc464 q456
            have hE472 := Ext.then hE458 hc464 (Zn.bl z183)
            refine op_g ha rfl (g_assign rfl) ?_; clear ha a; intro a ha
            refine wpList_nil ?_
            replace ha := ha.sub (σ' := [(3, v179), (4, v460), (12, va0), (13, (.int .i64 (a0.length : Int))), (14, (.int .i64 i187))]) ⟨rfl, rfl, rfl, rfl, rfl, trivial⟩
            refine e_blk ?_
            refine e_then ?_
            refine wp_region_lit ?_
            obtain ⟨hI473, hF⟩ := ck_some hF
            refine op_g ha rfl (g_add rfl rfl hI473) ?_; clear ha a; intro a ha
            refine op_g ha rfl (g_move rfl) ?_; clear ha a; intro a ha
            refine wpList_nil ?_
            replace ha := ha.sub (σ' := [(3, v179), (4, v460), (12, va0), (13, (.int .i64 (a0.length : Int))), (14, (.int .i64 (i187 + 1)))]) ⟨rfl, rfl, rfl, rfl, rfl, trivial⟩
            refine e_lq ?_
            obtain rfl := Option.some.inj hF
            exact ⟨_, Nat.lt_succ_self _, l178, (l184 ++ ([x439])), i187 + 1, v179, b180, v460, b462, ha.sub ⟨rfl, rfl, rfl, rfl, rfl, trivial⟩, hE472, hI473, h176, z177, h463, q471, q467, q468, hN347⟩
        · replace hF := if_f hp350 hF
          refine wp_exit ?_
          refine e_then_exit ?_
          refine e_lq_eq ?_
          obtain rfl := Option.some.inj hF
          exact ⟨l184, v185, b186, ha.sub ⟨rfl, trivial⟩, hE191, h182, z183, (LK_inr hN347).symm⟩
    · rintro a w334 ⟨l338, v339, b340, ha, hE346, h336, z337, rfl⟩
      have hF : F_impl_LeastNames_k2 l338 = some _ := hK343; clear hK343; unfold F_impl_LeastNames_k2 at hF
      refine e_then ?_
      refine wp_seq ?_
      refine wp_region_lit ?_
      refine op_g ha rfl (g_move rfl) ?_; clear ha a; intro a ha
      refine op_g ha rfl (g_assign rfl) ?_; clear ha a; intro a ha
      refine wpList_nil ?_
      replace ha := ha.sub (σ' := [(2, v339)]) ⟨rfl, trivial⟩
      refine e_then ?_
      refine wp_ret ?_
      obtain rfl := Option.some.inj hF
      exact f_ret1 ha rfl rfl ⟨⟨_, h336, z337⟩, hE346⟩
set_option maxHeartbeats 2000000 in
theorem W_laws_eqInt64S {W : World} {va0 : Value} {fa0 : List Nat} {a0 : (List Int)} (ha0 : Ro Rp.int W fa0 va0 a0) {va1 : Value} {fa1 : List Nat} {a1 : (List Int)} (ha1 : Ro Rp.int W fa1 va1 a1) {r : Bool} (hF : F_laws_eqInt64S a0 a1 = some r) :
    Calls Try.prog 12 [va0, va1].toArray W (Ret fun u w' => u = .bool r ∧ Ext W w') := by
  refine f_enter Try.func12 rfl Try.ntmps12 rfl ?_
  intro a ha
  replace ha : Fr 26 [(0, va0), (1, va1)] a := ha
  have hE : Chg [] W W := Chg.refl _ _
  unfold F_laws_eqInt64S at hF
  refine wp_seq ?_
  refine wp_region_lit ?_
  refine op_g ha rfl (g_assign rfl) ?_; clear ha a; intro a ha
  refine wpList_nil ?_
  replace ha := ha.sub (σ' := [(0, va0), (1, va1)]) ⟨rfl, rfl, trivial⟩
  refine e_then ?_
  refine wp_seq ?_
  refine wp_seq ?_
  refine wp_region_lit ?_
  refine op_g ha rfl (g_move rfl) ?_; clear ha a; intro a ha
  refine op_g ha rfl (g_lenR sl22.und ha0 rfl) ?_; clear ha a; intro a ha
  refine op_g ha rfl (g_move rfl) ?_; clear ha a; intro a ha
  refine op_g ha rfl (g_lenR sl22.und ha1 rfl) ?_; clear ha a; intro a ha
  refine op_g ha rfl (g_neq rfl rfl) ?_; clear ha a; intro a ha
  refine wpList_nil ?_
  replace ha := ha.sub (σ' := [(0, va0), (1, va1), (10, (.bool (decide ((a0.length : Int) ≠ (a1.length : Int)))))]) ⟨rfl, rfl, rfl, trivial⟩
  refine e_then ?_
  refine c_cond ((a0.length : Int) ≠ (a1.length : Int)) ha rfl (decide_eq_true_iff) (fun hp1 => ?_) (fun hp1 => ?_)
  · replace hF := if_t hp1 hF
    refine wp_seq ?_
    refine wp_region_lit ?_
    refine op_g ha rfl (g_assign rfl) ?_; clear ha a; intro a ha
    refine wpList_nil ?_
    replace ha := ha.sub (σ' := [(4, (.bool false))]) ⟨rfl, trivial⟩
    refine e_then ?_
    refine wp_ret ?_
    refine e_then_ret ?_
    obtain rfl := Option.some.inj hF
    exact f_ret1 ha rfl rfl ⟨rfl, hE⟩
  · replace hF := if_f hp1 hF
    refine wp_skip ?_
    refine e_then ?_
    refine wp_seq ?_
    refine wp_seq ?_
    refine wp_region_lit ?_
    refine op_g ha rfl (g_assign rfl) ?_; clear ha a; intro a ha
    refine wpList_nil ?_
    replace ha := ha.sub (σ' := [(0, va0), (1, va1), (5, (.int .i64 0))]) ⟨rfl, rfl, rfl, trivial⟩
    refine e_then ?_
    obtain ⟨o77, ho78, hK79⟩ := bnd_some hF
    obtain ⟨n80, hn81⟩ := lp_some ho78; clear ho78
    refine c_loop (fun a w => Fr 26 [] a ∧ Chg [] W w ∧ o77 = .inl ()) (fun n a w => ∃ (i39 : Int), Fr 26 [(0, va0), (1, va1), (5, (.int .i64 i39))] a ∧ Chg [] W w ∧ InI i39 ∧ lpN (fun s => F_laws_eqInt64S_l1 a0 a1 s) n i39 = some o77) n80 ⟨0, ha.sub ⟨rfl, rfl, rfl, trivial⟩, hE, (by decide), hn81⟩ ?_ ?_
    · rintro m85 a w38 ⟨i39, ha, hE41, hI40, hF⟩
      cases m85 with
      | zero => exact (lpN_zero hF).elim
      | succ m85 =>
        obtain ⟨z84, hF, hN83⟩ := lpN_succ hF
        have hF : F_laws_eqInt64S_l1 a0 a1 i39 = some z84 := hF; unfold F_laws_eqInt64S_l1 at hF
        refine wp_seq ?_
        refine wp_seq ?_
        refine wp_region_lit ?_
        refine op_g ha rfl (g_move rfl) ?_; clear ha a; intro a ha
        refine op_g ha rfl (g_move rfl) ?_; clear ha a; intro a ha
        refine op_g ha rfl (g_lenR sl22.und ha0 rfl) ?_; clear ha a; intro a ha
        refine op_g ha rfl (g_lss rfl rfl) ?_; clear ha a; intro a ha
        refine wpList_nil ?_
        replace ha := ha.sub (σ' := [(0, va0), (1, va1), (5, (.int .i64 i39)), (14, (.bool (decide (i39 < (a0.length : Int)))))]) ⟨rfl, rfl, rfl, rfl, trivial⟩
        refine e_then ?_
        refine c_cond (i39 < (a0.length : Int)) ha rfl (decide_eq_true_iff) (fun hp86 => ?_) (fun hp86 => ?_)
        · replace hF := if_t hp86 hF
          refine wp_skip ?_
          refine e_then ?_
          refine wp_seq ?_
          refine wp_block ?_
          refine wp_seq ?_
          refine d_quiet hmix (by kernel_rfl) ?_
          refine q_g ha rfl (g_move rfl) ?_; clear ha a; intro a ha
          refine q_g ha rfl (g_move rfl) ?_; clear ha a; intro a ha
          obtain ⟨x87, g88, gx89, hF⟩ := idx_some hF
          obtain ⟨p90, cs91, f92, hf93, hpb94, hat95, hr96, hi97⟩ := ha0.at g88 gx89
          obtain ⟨rfl, hI98, rfl⟩ := hr96
          refine q_g ha rfl (hi97.gives sl22 rfl rfl) ?_; clear ha a; intro a ha
          refine q_g ha rfl (g_load0 hE41 Try.isAgg2 rfl hat95.one) ?_; clear ha a; intro a ha
          refine q_g ha rfl (g_move rfl) ?_; clear ha a; intro a ha
          refine q_g ha rfl (g_move rfl) ?_; clear ha a; intro a ha
          obtain ⟨x99, g100, gx101, hF⟩ := idx_some hF
          obtain ⟨p102, cs103, f104, hf105, hpb106, hat107, hr108, hi109⟩ := ha1.at g100 gx101
          obtain ⟨rfl, hI110, rfl⟩ := hr108
          refine q_g ha rfl (hi109.gives sl22 rfl rfl) ?_; clear ha a; intro a ha
          refine q_g ha rfl (g_load0 hE41 Try.isAgg2 rfl hat107.one) ?_; clear ha a; intro a ha
          refine q_g ha rfl (g_neq rfl rfl) ?_; clear ha a; intro a ha
          refine q_nil ?_; intro w111 hx112
          have hE113 := Ext.trans hE41 hx112
          replace ha := ha.sub (σ' := [(0, va0), (1, va1), (5, (.int .i64 i39)), (25, (.bool (decide (x87 ≠ x99))))]) ⟨rfl, rfl, rfl, rfl, trivial⟩
          refine e_then ?_
          refine c_cond (x87 ≠ x99) ha rfl (decide_eq_true_iff) (fun hp114 => ?_) (fun hp114 => ?_)
          · replace hF := if_t hp114 hF
            refine wp_seq ?_
            refine wp_region_lit ?_
            refine op_g ha rfl (g_assign rfl) ?_; clear ha a; intro a ha
            refine wpList_nil ?_
            replace ha := ha.sub (σ' := [(4, (.bool false))]) ⟨rfl, trivial⟩
            refine e_then ?_
            refine wp_ret ?_
            refine e_blk_ret ?_
            refine e_then_ret ?_
            refine e_lq_ret ?_
            refine e_then_ret ?_
            obtain rfl := Option.some.inj hF
            have e115 := LK_inr hN83; subst e115
            have e116 := BK_inr hK79; subst e116
            exact f_ret1 ha rfl rfl ⟨rfl, hE113⟩
          · replace hF := if_f hp114 hF
            refine wp_skip ?_
            refine e_blk ?_
            refine e_then ?_
            refine wp_region_lit ?_
            refine op_g ha rfl (g_move rfl) ?_; clear ha a; intro a ha
            obtain ⟨hI117, hF⟩ := ck_some hF
            refine op_g ha rfl (g_add rfl rfl hI117) ?_; clear ha a; intro a ha
            refine op_g ha rfl (g_assign rfl) ?_; clear ha a; intro a ha
            refine wpList_nil ?_
            replace ha := ha.sub (σ' := [(0, va0), (1, va1), (5, (.int .i64 (i39 + 1)))]) ⟨rfl, rfl, rfl, trivial⟩
            refine e_lq ?_
            obtain rfl := Option.some.inj hF
            exact ⟨_, Nat.lt_succ_self _, i39 + 1, ha.sub ⟨rfl, rfl, rfl, trivial⟩, hE113, hI117, hN83⟩
        · replace hF := if_f hp86 hF
          refine wp_exit ?_
          refine e_then_exit ?_
          refine e_lq_eq ?_
          obtain rfl := Option.some.inj hF
          exact ⟨ha.sub trivial, hE41, (LK_inr hN83).symm⟩
    · rintro a w76 ⟨ha, hE82, rfl⟩
      have hF : F_laws_eqInt64S_k2 = some _ := hK79; clear hK79; unfold F_laws_eqInt64S_k2 at hF
      refine e_then ?_
      refine wp_seq ?_
      refine wp_region_lit ?_
      refine op_g ha rfl (g_assign rfl) ?_; clear ha a; intro a ha
      refine wpList_nil ?_
      refine e_then ?_
      refine wp_ret ?_
      obtain rfl := Option.some.inj hF
      exact f_ret1 ha rfl rfl ⟨rfl, hE82⟩
set_option maxHeartbeats 2000000 in
theorem W_laws_markInt64S {W : World} {va0 : Value} {ba0 : Int} {a0 : (List Int)} (ha0 : Ow Rp.int 2 true W [] ba0 va0 a0) {a1 : Int} (ha1 : InI a1) {r : (Int × (List Int))} (hF : F_laws_markInt64S a0 a1 = some r) :
    Calls Try.prog 13 [va0, .int .i64 a1].toArray W (Ret fun u w' => (u = .int .i64 r.1 ∧ InI r.1) ∧ Ow Rp.int 2 true w' [] ba0 va0 r.2 ∧ Chg (bl ba0) W w') := by
  refine f_enter Try.func13 rfl Try.ntmps13 rfl ?_
  intro a ha
  replace ha : Fr 19 [(0, va0), (1, (.int .i64 a1))] a := ha
  have hE : Chg (bl ba0) W W := Chg.refl _ _
  unfold F_laws_markInt64S at hF
  refine wp_seq ?_
  refine wp_region_lit ?_
  refine op_g ha rfl (g_assign rfl) ?_; clear ha a; intro a ha
  refine wpList_nil ?_
  replace ha := ha.sub (σ' := [(0, va0), (1, (.int .i64 a1))]) ⟨rfl, rfl, trivial⟩
  refine e_then ?_
  refine wp_seq ?_
  refine wp_seq ?_
  refine wp_region_lit ?_
  refine op_g ha rfl (g_assign rfl) ?_; clear ha a; intro a ha
  refine wpList_nil ?_
  refine e_then ?_
  obtain ⟨o85, ho86, hK87⟩ := bnd_some hF
  obtain ⟨n88, hn89⟩ := lp_some ho86; clear ho86
  refine c_loop (fun a w => ∃ (i79 : Int) (l82 : (List Int)), Fr 19 [(1, (.int .i64 i79))] a ∧ Chg (bl ba0) W w ∧ InI i79 ∧ Ow Rp.int 2 true w [] ba0 va0 l82 ∧ o85 = .inl (i79, l82)) (fun n a w => ∃ (l38 : (List Int)) (i41 : Int) (i43 : Int), Fr 19 [(0, va0), (1, (.int .i64 i41)), (5, (.int .i64 i43))] a ∧ Chg (bl ba0) W w ∧ InI i41 ∧ InI i43 ∧ Ow Rp.int 2 true w [] ba0 va0 l38 ∧ lpN (fun s => F_laws_markInt64S_l1 s.1 s.2.1 s.2.2) n (l38, i41, i43) = some o85) n88 ⟨a0, a1, 0, ha.sub ⟨rfl, rfl, rfl, trivial⟩, hE, ha1, (by decide), ha0, hn89⟩ ?_ ?_
  · rintro m93 a w36 ⟨l38, i41, i43, ha, hE45, hI42, hI44, h37, hF⟩
    cases m93 with
    | zero => exact (lpN_zero hF).elim
    | succ m93 =>
      obtain ⟨z92, hF, hN91⟩ := lpN_succ hF
      have hF : F_laws_markInt64S_l1 l38 i41 i43 = some z92 := hF; unfold F_laws_markInt64S_l1 at hF
      refine wp_seq ?_
      refine wp_seq ?_
      refine wp_region_lit ?_
      refine op_g ha rfl (g_move rfl) ?_; clear ha a; intro a ha
      refine op_g ha rfl (g_move rfl) ?_; clear ha a; intro a ha
      refine op_g ha rfl (g_lenO sl22.und h37 rfl) ?_; clear ha a; intro a ha
      refine op_g ha rfl (g_lss rfl rfl) ?_; clear ha a; intro a ha
      refine wpList_nil ?_
      replace ha := ha.sub (σ' := [(0, va0), (1, (.int .i64 i41)), (5, (.int .i64 i43)), (9, (.bool (decide (i43 < (l38.length : Int)))))]) ⟨rfl, rfl, rfl, rfl, trivial⟩
      refine e_then ?_
      refine c_cond (i43 < (l38.length : Int)) ha rfl (decide_eq_true_iff) (fun hp94 => ?_) (fun hp94 => ?_)
      · replace hF := if_t hp94 hF
        refine wp_skip ?_
        refine e_then ?_
        refine wp_seq ?_
        refine wp_block ?_
        refine wp_seq ?_
        refine wp_region_lit ?_
        refine op_g ha rfl (g_move rfl) ?_; clear ha a; intro a ha
        refine op_g ha rfl (g_move rfl) ?_; clear ha a; intro a ha
        refine op_g ha rfl (g_move rfl) ?_; clear ha a; intro a ha
        obtain ⟨x95, g96, gx97, hF⟩ := idx_some hF
        obtain ⟨p98, cs99, f100, hf101, hpb102, hat103, hr104, hi105⟩ := h37.at g96 gx97
        obtain ⟨rfl, hI106, rfl⟩ := hr104
        refine op_g ha rfl (hi105.gives sl22 rfl rfl) ?_; clear ha a; intro a ha
        refine o_storeE ha Try.sizeOf2 rfl rfl rfl h37 hi105 ⟨rfl, hI42, rfl⟩ (Nq.nil _) ?_; intro w107 fs108 h109 hc110 hs111
        obtain rfl := fs_nil hs111
        have hE112 := Chg.same hE45 hc110
        refine wpList_nil ?_
        replace ha := ha.sub (σ' := [(0, va0), (1, (.int .i64 i41)), (5, (.int .i64 i43))]) ⟨rfl, rfl, rfl, trivial⟩
        refine e_then ?_
        refine wp_region_lit ?_
        refine op_g ha rfl (g_move rfl) ?_; clear ha a; intro a ha
        obtain ⟨hI113, hF⟩ := ck_some hF
        refine op_g ha rfl (g_add rfl rfl hI113) ?_; clear ha a; intro a ha
        refine op_g ha rfl (g_assign rfl) ?_; clear ha a; intro a ha
        refine wpList_nil ?_
        replace ha := ha.sub (σ' := [(0, va0), (1, (.int .i64 (i41 + 1))), (5, (.int .i64 i43))]) ⟨rfl, rfl, rfl, trivial⟩
        refine e_blk ?_
        refine e_then ?_
        refine wp_region_lit ?_
        refine op_g ha rfl (g_move rfl) ?_; clear ha a; intro a ha
        obtain ⟨hI115, hF⟩ := ck_some hF
        refine op_g ha rfl (g_add rfl rfl hI115) ?_; clear ha a; intro a ha
        refine op_g ha rfl (g_assign rfl) ?_; clear ha a; intro a ha
        refine wpList_nil ?_
        replace ha := ha.sub (σ' := [(0, va0), (1, (.int .i64 (i41 + 1))), (5, (.int .i64 (i43 + 1)))]) ⟨rfl, rfl, rfl, trivial⟩
        refine e_lq ?_
        obtain rfl := Option.some.inj hF
        exact ⟨_, Nat.lt_succ_self _, (l38.set ((i43).toNat) i41), i41 + 1, i43 + 1, ha.sub ⟨rfl, rfl, rfl, trivial⟩, hE112, hI113, hI115, h109, hN91⟩
      · replace hF := if_f hp94 hF
        refine wp_exit ?_
        refine e_then_exit ?_
        refine e_lq_eq ?_
        obtain rfl := Option.some.inj hF
        exact ⟨i41, l38, ha.sub ⟨rfl, trivial⟩, hE45, hI42, h37, (LK_inr hN91).symm⟩
  · rintro a w78 ⟨i79, l82, ha, hE90, hI80, h81, rfl⟩
    have hF : F_laws_markInt64S_k2 i79 l82 = some _ := hK87; clear hK87; unfold F_laws_markInt64S_k2 at hF
    refine e_then ?_
    refine wp_seq ?_
    refine wp_region_lit ?_
    refine op_g ha rfl (g_move rfl) ?_; clear ha a; intro a ha
    refine op_g ha rfl (g_assign rfl) ?_; clear ha a; intro a ha
    refine wpList_nil ?_
    replace ha := ha.sub (σ' := [(4, (.int .i64 i79))]) ⟨rfl, trivial⟩
    refine e_then ?_
    refine wp_ret ?_
    obtain rfl := Option.some.inj hF
    exact f_ret1 ha rfl rfl ⟨⟨rfl, hI80⟩, h81, hE90⟩
set_option maxHeartbeats 2000000 in
theorem W_laws_heldInt64S {W : World} {va0 : Value} {fa0 : List Nat} {a0 : (List Int)} (ha0 : Ro Rp.int W fa0 va0 a0) {a1 : Int} (ha1 : InI a1) {r : Int} (hF : F_laws_heldInt64S a0 a1 = some r) :
    Calls Try.prog 14 [va0, .int .i64 a1].toArray W (Ret fun u w' => (u = .int .i64 r ∧ InI r) ∧ Ext W w') := by
  refine f_enter Try.func14 rfl Try.ntmps14 rfl ?_
  intro a ha
  replace ha : Fr 21 [(0, va0), (1, (.int .i64 a1))] a := ha
  have hE : Chg [] W W := Chg.refl _ _
  unfold F_laws_heldInt64S at hF
  refine wp_seq ?_
  refine wp_region_lit ?_
  refine op_g ha rfl (g_assign rfl) ?_; clear ha a; intro a ha
  refine wpList_nil ?_
  replace ha := ha.sub (σ' := [(0, va0), (1, (.int .i64 a1))]) ⟨rfl, rfl, trivial⟩
  refine e_then ?_
  refine wp_seq ?_
  refine wp_seq ?_
  refine wp_region_lit ?_
  refine op_g ha rfl (g_assign rfl) ?_; clear ha a; intro a ha
  refine wpList_nil ?_
  refine e_then ?_
  obtain ⟨o58, ho59, hK60⟩ := bnd_some hF
  obtain ⟨n61, hn62⟩ := lp_some ho59; clear ho59
  refine c_loop (fun a w => ∃ (i56 : Int), Fr 21 [(1, (.int .i64 i56))] a ∧ Chg [] W w ∧ InI i56 ∧ o58 = .inl i56) (fun n a w => ∃ (i27 : Int) (i29 : Int), Fr 21 [(0, va0), (1, (.int .i64 i27)), (5, (.int .i64 i29))] a ∧ Chg [] W w ∧ InI i27 ∧ InI i29 ∧ lpN (fun s => F_laws_heldInt64S_l1 a0 s.1 s.2) n (i27, i29) = some o58) n61 ⟨a1, 0, ha.sub ⟨rfl, rfl, rfl, trivial⟩, hE, ha1, (by decide), hn62⟩ ?_ ?_
  · rintro m66 a w26 ⟨i27, i29, ha, hE31, hI28, hI30, hF⟩
    cases m66 with
    | zero => exact (lpN_zero hF).elim
    | succ m66 =>
      obtain ⟨z65, hF, hN64⟩ := lpN_succ hF
      have hF : F_laws_heldInt64S_l1 a0 i27 i29 = some z65 := hF; unfold F_laws_heldInt64S_l1 at hF
      refine wp_seq ?_
      refine wp_seq ?_
      refine wp_region_lit ?_
      refine op_g ha rfl (g_move rfl) ?_; clear ha a; intro a ha
      refine op_g ha rfl (g_move rfl) ?_; clear ha a; intro a ha
      refine op_g ha rfl (g_lenR sl22.und ha0 rfl) ?_; clear ha a; intro a ha
      refine op_g ha rfl (g_lss rfl rfl) ?_; clear ha a; intro a ha
      refine wpList_nil ?_
      replace ha := ha.sub (σ' := [(0, va0), (1, (.int .i64 i27)), (5, (.int .i64 i29)), (9, (.bool (decide (i29 < (a0.length : Int)))))]) ⟨rfl, rfl, rfl, rfl, trivial⟩
      refine e_then ?_
      refine c_cond (i29 < (a0.length : Int)) ha rfl (decide_eq_true_iff) (fun hp67 => ?_) (fun hp67 => ?_)
      · replace hF := if_t hp67 hF
        refine wp_skip ?_
        refine e_then ?_
        refine wp_seq ?_
        refine wp_block ?_
        refine wp_seq ?_
        refine wp_seq ?_
        refine wp_region_lit ?_
        refine op_g ha rfl (g_move rfl) ?_; clear ha a; intro a ha
        refine op_g ha rfl (g_move rfl) ?_; clear ha a; intro a ha
        obtain ⟨x68, g69, gx70, hF⟩ := idx_some hF
        obtain ⟨p71, cs72, f73, hf74, hpb75, hat76, hr77, hi78⟩ := ha0.at g69 gx70
        obtain ⟨rfl, hI79, rfl⟩ := hr77
        refine op_g ha rfl (hi78.gives sl22 rfl rfl) ?_; clear ha a; intro a ha
        refine op_g ha rfl (g_load0 hE31 Try.isAgg2 rfl hat76.one) ?_; clear ha a; intro a ha
        refine op_g ha rfl (g_move rfl) ?_; clear ha a; intro a ha
        refine op_g ha rfl (g_neq rfl rfl) ?_; clear ha a; intro a ha
        refine wpList_nil ?_
        replace ha := ha.sub (σ' := [(0, va0), (1, (.int .i64 i27)), (5, (.int .i64 i29)), (17, (.bool (decide (x68 ≠ i27))))]) ⟨rfl, rfl, rfl, rfl, trivial⟩
        refine e_then ?_
        refine c_cond (x68 ≠ i27) ha rfl (decide_eq_true_iff) (fun hp80 => ?_) (fun hp80 => ?_)
        · replace hF := if_t hp80 hF
          refine wp_seq ?_
          refine wp_region_lit ?_
          refine op_g ha rfl (g_assign rfl) ?_; clear ha a; intro a ha
          refine wpList_nil ?_
          replace ha := ha.sub (σ' := [(4, (.int .i64 (-1)))]) ⟨rfl, trivial⟩
          refine e_then ?_
          refine wp_ret ?_
          refine e_then_ret ?_
          refine e_blk_ret ?_
          refine e_then_ret ?_
          refine e_lq_ret ?_
          refine e_then_ret ?_
          obtain rfl := Option.some.inj hF
          have e81 := LK_inr hN64; subst e81
          have e82 := BK_inr hK60; subst e82
          exact f_ret1 ha rfl rfl ⟨⟨rfl, (by decide)⟩, hE31⟩
        · replace hF := if_f hp80 hF
          refine wp_skip ?_
          refine e_then ?_
          refine wp_region_lit ?_
          refine op_g ha rfl (g_move rfl) ?_; clear ha a; intro a ha
          obtain ⟨hI83, hF⟩ := ck_some hF
          refine op_g ha rfl (g_add rfl rfl hI83) ?_; clear ha a; intro a ha
          refine op_g ha rfl (g_assign rfl) ?_; clear ha a; intro a ha
          refine wpList_nil ?_
          replace ha := ha.sub (σ' := [(0, va0), (1, (.int .i64 (i27 + 1))), (5, (.int .i64 i29))]) ⟨rfl, rfl, rfl, trivial⟩
          refine e_blk ?_
          refine e_then ?_
          refine wp_region_lit ?_
          refine op_g ha rfl (g_move rfl) ?_; clear ha a; intro a ha
          obtain ⟨hI85, hF⟩ := ck_some hF
          refine op_g ha rfl (g_add rfl rfl hI85) ?_; clear ha a; intro a ha
          refine op_g ha rfl (g_assign rfl) ?_; clear ha a; intro a ha
          refine wpList_nil ?_
          replace ha := ha.sub (σ' := [(0, va0), (1, (.int .i64 (i27 + 1))), (5, (.int .i64 (i29 + 1)))]) ⟨rfl, rfl, rfl, trivial⟩
          refine e_lq ?_
          obtain rfl := Option.some.inj hF
          exact ⟨_, Nat.lt_succ_self _, i27 + 1, i29 + 1, ha.sub ⟨rfl, rfl, rfl, trivial⟩, hE31, hI83, hI85, hN64⟩
      · replace hF := if_f hp67 hF
        refine wp_exit ?_
        refine e_then_exit ?_
        refine e_lq_eq ?_
        obtain rfl := Option.some.inj hF
        exact ⟨i27, ha.sub ⟨rfl, trivial⟩, hE31, hI28, (LK_inr hN64).symm⟩
  · rintro a w55 ⟨i56, ha, hE63, hI57, rfl⟩
    have hF : F_laws_heldInt64S_k2 i56 = some _ := hK60; clear hK60; unfold F_laws_heldInt64S_k2 at hF
    refine e_then ?_
    refine wp_seq ?_
    refine wp_region_lit ?_
    refine op_g ha rfl (g_move rfl) ?_; clear ha a; intro a ha
    refine op_g ha rfl (g_assign rfl) ?_; clear ha a; intro a ha
    refine wpList_nil ?_
    replace ha := ha.sub (σ' := [(4, (.int .i64 i56))]) ⟨rfl, trivial⟩
    refine e_then ?_
    refine wp_ret ?_
    obtain rfl := Option.some.inj hF
    exact f_ret1 ha rfl rfl ⟨⟨rfl, hI57⟩, hE63⟩
set_option maxHeartbeats 2000000 in
theorem W_laws_FnExactLeastNames {W : World} {va0 : Value} {fa0 : List Nat} {a0 : (List Int)} (ha0 : Ro Rp.int W fa0 va0 a0) {r : Bool} (hF : F_laws_FnExactLeastNames a0 = some r) :
    Calls Try.prog 3 [va0].toArray W (Ret fun u w' => u = .bool r ∧ Ext W w') := by
  refine f_enter Try.func3 rfl Try.ntmps3 rfl ?_
  intro a ha
  replace ha : Fr 66 [(0, va0)] a := ha
  have hE : Chg [] W W := Chg.refl _ _
  unfold F_laws_FnExactLeastNames at hF
  refine wp_seq ?_
  refine wp_region_lit ?_
  refine op_g ha rfl (g_assign rfl) ?_; clear ha a; intro a ha
  refine wpList_nil ?_
  replace ha := ha.sub (σ' := [(0, va0)]) ⟨rfl, trivial⟩
  refine e_then ?_
  refine wp_seq ?_
  refine wp_seq ?_
  refine wp_region_lit ?_
  refine op_g ha rfl (g_move rfl) ?_; clear ha a; intro a ha
  refine op_g ha rfl (g_lenR sl22.und ha0 rfl) ?_; clear ha a; intro a ha
  refine op_g ha rfl (g_gtr rfl rfl) ?_; clear ha a; intro a ha
  refine wpList_nil ?_
  replace ha := ha.sub (σ' := [(0, va0), (12, (.bool (decide (1048576 < (a0.length : Int)))))]) ⟨rfl, rfl, trivial⟩
  refine e_then ?_
  refine c_cond (1048576 < (a0.length : Int)) ha rfl (decide_eq_true_iff) (fun hp1 => ?_) (fun hp1 => ?_)
  · replace hF := if_t hp1 hF
    refine wp_seq ?_
    refine wp_region_lit ?_
    refine op_g ha rfl (g_assign rfl) ?_; clear ha a; intro a ha
    refine wpList_nil ?_
    replace ha := ha.sub (σ' := [(2, (.bool true))]) ⟨rfl, trivial⟩
    refine e_then ?_
    refine wp_ret ?_
    refine e_then_ret ?_
    obtain rfl := Option.some.inj hF
    exact f_ret1 ha rfl rfl ⟨rfl, hE⟩
  · replace hF := if_f hp1 hF
    refine wp_skip ?_
    refine e_then ?_
    refine wp_seq ?_
    refine wp_region_lit ?_
    refine op_g ha rfl (g_move rfl) ?_; clear ha a; intro a ha
    obtain ⟨x2, hc3, hF⟩ := cal_some hF
    refine o_call ha rfl rfl Try.call10 (W_laws_toInt64S (ha0.ext hE) hc3) ?_; clear ha a; rintro v4 w5 ⟨⟨b7, h8, z9⟩, hx6⟩ a ha
    have hE11 := Ext.trans hE hx6
    have q12 := Zn.upD z9 hE
    obtain ⟨fp13, hro14, -⟩ := h8.weak.ro
    obtain ⟨x15, hc16, hF⟩ := cal_some hF
    refine o_call ha rfl rfl Try.call9 (W_spec_LeastNames hro14 hc16) ?_; clear ha a; rintro v17 w18 ⟨⟨b20, h21, z22⟩, hx19⟩ a ha
    have q24 := Nq.new h8.fpb z22
    have q25 := Nq.madeO z22 h8.blt
    replace h8 := h8.ext hx19
    have hE26 := Ext.trans hE11 hx19
    have q27 := Zn.upD z22 hE11
    refine op_g ha rfl (g_assign rfl) ?_; clear ha a; intro a ha
    refine wpList_nil ?_
    replace ha := ha.sub (σ' := [(0, va0), (3, v17)]) ⟨rfl, rfl, trivial⟩
    refine e_then ?_
    refine wp_seq ?_
    refine wp_region_lit ?_
    refine op_g ha rfl (g_move rfl) ?_; clear ha a; intro a ha
    obtain ⟨x28, hc29, hF⟩ := cal_some hF
    refine o_call ha rfl rfl Try.call10 (W_laws_toInt64S (ha0.ext hE26) hc29) ?_; clear ha a; rintro v30 w31 ⟨⟨b33, h34, z35⟩, hx32⟩ a ha
    have q37 := Nq.new h21.fpb z35
    have q38 := Nq.madeO z35 h21.blt
    replace h21 := h21.ext hx32
    have hE39 := Ext.trans hE26 hx32
    have q40 := Zn.upD z35 hE26
    refine op_g ha rfl (g_assign rfl) ?_; clear ha a; intro a ha
    refine wpList_nil ?_
    replace ha := ha.sub (σ' := [(0, va0), (3, v17), (4, v30)]) ⟨rfl, rfl, rfl, trivial⟩
    refine e_then ?_
    refine wp_seq ?_
    refine wp_region_lit ?_
    refine op_g ha rfl (g_move rfl) ?_; clear ha a; intro a ha
    obtain ⟨fp41, hro42, -⟩ := h34.weak.ro
    obtain ⟨x43, hc44, hF⟩ := cal_some hF
    refine o_call ha rfl rfl Try.call11 (W_impl_LeastNames hro42 hc44) ?_; clear ha a; rintro v45 w46 ⟨⟨b48, h49, z50⟩, hx47⟩ a ha
    have q52 := Nq.new h21.fpb z50
    have q53 := Nq.madeO z50 h21.blt
    have q54 := Nq.new h34.fpb z50
    have q55 := Nq.madeO z50 h34.blt
    replace h21 := h21.ext hx47
    replace h34 := h34.ext hx47
    have hE56 := Ext.trans hE39 hx47
    have q57 := Zn.upD z50 hE39
    refine op_g ha rfl (g_assign rfl) ?_; clear ha a; intro a ha
    refine wpList_nil ?_
    replace ha := ha.sub (σ' := [(0, va0), (3, v17), (4, v30), (5, v45)]) ⟨rfl, rfl, rfl, rfl, trivial⟩
    refine e_then ?_
    refine wp_seq ?_
    refine wp_seq ?_
    refine wp_region_lit ?_
    refine op_g ha rfl (g_move rfl) ?_; clear ha a; intro a ha
    refine op_g ha rfl (g_move rfl) ?_; clear ha a; intro a ha
    obtain ⟨fp58, hro59, -⟩ := h49.weak.ro
    obtain ⟨fp60, hro61, -⟩ := h21.weak.ro
    obtain ⟨x62, hc63, hF⟩ := cal_some hF
    refine o_call ha rfl rfl Try.call12 (W_laws_eqInt64S hro59 hro61 hc63) ?_; clear ha a; rintro v64 w65 ⟨rfl, hx66⟩ a ha
    replace h21 := h21.ext hx66
    replace h34 := h34.ext hx66
    replace h49 := h49.ext hx66
    have hE67 := Ext.trans hE56 hx66
    refine op_g ha rfl (g_not rfl) ?_; clear ha a; intro a ha
    refine wpList_nil ?_
    replace ha := ha.sub (σ' := [(0, va0), (3, v17), (4, v30), (5, v45), (23, (.bool (!x62)))]) ⟨rfl, rfl, rfl, rfl, rfl, trivial⟩
    refine e_then ?_
    refine c_cond (¬ (x62 = true)) ha rfl (n_iff (Iff.rfl)) (fun hp68 => ?_) (fun hp68 => ?_)
    · replace hF := if_t hp68 hF
      refine wp_seq ?_
      refine wp_region_lit ?_
      refine op_g ha rfl (g_assign rfl) ?_; clear ha a; intro a ha
      refine wpList_nil ?_
      replace ha := ha.sub (σ' := [(2, (.bool false))]) ⟨rfl, trivial⟩
      refine e_then ?_
      refine wp_ret ?_
      refine e_then_ret ?_
      obtain rfl := Option.some.inj hF
      exact f_ret1 ha rfl rfl ⟨rfl, hE67⟩
    · replace hF := if_f hp68 hF
      refine wp_skip ?_
      refine e_then ?_
      refine wp_seq ?_
      refine wp_seq ?_
      refine wp_region_lit ?_
      refine op_g ha rfl (g_move rfl) ?_; clear ha a; intro a ha
      refine op_g ha rfl (g_move rfl) ?_; clear ha a; intro a ha
      obtain ⟨x69, hc70, hF⟩ := cal_some hF
      refine o_call ha rfl rfl Try.call10 (W_laws_toInt64S (ha0.ext hE67) hc70) ?_; clear ha a; rintro v71 w72 ⟨⟨b74, h75, z76⟩, hx73⟩ a ha
      have q78 := Nq.new h21.fpb z76
      have q79 := Nq.madeO z76 h21.blt
      have q80 := Nq.new h34.fpb z76
      have q81 := Nq.madeO z76 h34.blt
      have q82 := Nq.new h49.fpb z76
      have q83 := Nq.madeO z76 h49.blt
      replace h21 := h21.ext hx73
      replace h34 := h34.ext hx73
      replace h49 := h49.ext hx73
      have hE84 := Ext.trans hE67 hx73
      have q85 := Zn.upD z76 hE67
      obtain ⟨fp86, hro87, -⟩ := h34.weak.ro
      obtain ⟨fp88, hro89, -⟩ := h75.weak.ro
      obtain ⟨x90, hc91, hF⟩ := cal_some hF
      refine o_call ha rfl rfl Try.call12 (W_laws_eqInt64S hro87 hro89 hc91) ?_; clear ha a; rintro v92 w93 ⟨rfl, hx94⟩ a ha
      replace h21 := h21.ext hx94
      replace h34 := h34.ext hx94
      replace h49 := h49.ext hx94
      replace h75 := h75.ext hx94
      have hE95 := Ext.trans hE84 hx94
      refine op_g ha rfl (g_not rfl) ?_; clear ha a; intro a ha
      refine wpList_nil ?_
      replace ha := ha.sub (σ' := [(0, va0), (3, v17), (4, v30), (5, v45), (28, (.bool (!x90)))]) ⟨rfl, rfl, rfl, rfl, rfl, trivial⟩
      refine e_then ?_
      refine c_cond (¬ (x90 = true)) ha rfl (n_iff (Iff.rfl)) (fun hp96 => ?_) (fun hp96 => ?_)
      · replace hF := if_t hp96 hF
        refine wp_seq ?_
        refine wp_region_lit ?_
        refine op_g ha rfl (g_assign rfl) ?_; clear ha a; intro a ha
        refine wpList_nil ?_
        replace ha := ha.sub (σ' := [(2, (.bool false))]) ⟨rfl, trivial⟩
        refine e_then ?_
        refine wp_ret ?_
        refine e_then_ret ?_
        obtain rfl := Option.some.inj hF
        exact f_ret1 ha rfl rfl ⟨rfl, hE95⟩
      · replace hF := if_f hp96 hF
        refine wp_skip ?_
        refine e_then ?_
        refine wp_seq ?_
        refine wp_region_lit ?_
        refine op_g ha rfl (g_assign rfl) ?_; clear ha a; intro a ha
        refine wpList_nil ?_
        replace ha := ha.sub (σ' := [(0, va0), (3, v17), (4, v30), (5, v45), (6, (.int .i64 1))]) ⟨rfl, rfl, rfl, rfl, rfl, trivial⟩
        refine e_then ?_
        refine wp_seq ?_
        refine wp_region_lit ?_
        refine op_g ha rfl (g_move rfl) ?_; clear ha a; intro a ha
        refine op_g ha rfl (g_move rfl) ?_; clear ha a; intro a ha
        obtain ⟨x97, hc98, hF⟩ := cal_some hF
        refine o_call ha rfl rfl Try.call13 (W_laws_markInt64S h34 (by decide) hc98) ?_; clear ha a; rintro v99 w100 ⟨⟨rfl, hI102⟩, h103, hx101⟩ a ha
        replace h21 := h21.nq hx101 q37
        replace h49 := h49.nq hx101 q55
        have hE104 := Ext.then hE95 hx101 (Zn.bl q40)
        refine op_g ha rfl (g_assign rfl) ?_; clear ha a; intro a ha
        refine wpList_nil ?_
        replace ha := ha.sub (σ' := [(0, va0), (3, v17), (5, v45), (6, (.int .i64 x97.1))]) ⟨rfl, rfl, rfl, rfl, trivial⟩
        refine e_then ?_
        refine wp_seq ?_
        refine wp_seq ?_
        refine wp_region_lit ?_
        refine op_g ha rfl (g_move rfl) ?_; clear ha a; intro a ha
        refine op_g ha rfl (g_lss rfl rfl) ?_; clear ha a; intro a ha
        refine op_g ha rfl (g_move rfl) ?_; clear ha a; intro a ha
        by_cases hp117 : x97.1 < 0
        · replace hF := if_t hp117 hF
          rw [show (decide (x97.1 < 0)) = true from (decide_eq_true_iff).2 hp117] at ha
          refine op_unwant ha rfl (yields ha rfl rfl) rfl ?_; clear ha a; intro a ha
          refine op_unwant ha rfl (yields ha rfl rfl) rfl ?_; clear ha a; intro a ha
          refine op_unwant ha rfl (yields ha rfl rfl) rfl ?_; clear ha a; intro a ha
          refine op_unwant ha rfl (yields ha rfl rfl) rfl ?_; clear ha a; intro a ha
          refine op_g ha rfl (g_pick rfl rfl) ?_; clear ha a; intro a ha
          refine wpList_nil ?_
          replace ha := ha.sub (σ' := [(0, va0), (3, v17), (5, v45), (39, (.bool true))]) ⟨rfl, rfl, rfl, rfl, trivial⟩
          refine e_then ?_
          refine c_true ha rfl ?_
          refine wp_seq ?_
          refine wp_region_lit ?_
          refine op_g ha rfl (g_assign rfl) ?_; clear ha a; intro a ha
          refine wpList_nil ?_
          replace ha := ha.sub (σ' := [(2, (.bool false))]) ⟨rfl, trivial⟩
          refine e_then ?_
          refine wp_ret ?_
          refine e_then_ret ?_
          obtain rfl := Option.some.inj hF
          exact f_ret1 ha rfl rfl ⟨rfl, hE104⟩
        · replace hF := if_f hp117 hF
          rw [show (decide (x97.1 < 0)) = false from b_false (decide_eq_true_iff) hp117] at ha
          refine op_want (yields ha rfl rfl) ?_
          refine op_g ha rfl (g_move rfl) ?_; clear ha a; intro a ha
          refine op_want (yields ha rfl rfl) ?_
          refine op_g ha rfl (g_move rfl) ?_; clear ha a; intro a ha
          refine op_want (yields ha rfl rfl) ?_
          obtain ⟨fp118, hro119, -⟩ := h49.weak.ro
          obtain ⟨fp120, hro121, -⟩ := h21.weak.ro
          obtain ⟨x122, hc123, hF⟩ := cal_some hF
          refine o_call ha rfl rfl Try.call12 (W_laws_eqInt64S hro119 hro121 hc123) ?_; clear ha a; rintro v124 w125 ⟨rfl, hx126⟩ a ha
          replace h21 := h21.ext hx126
          replace h49 := h49.ext hx126
          have hE127 := Ext.trans hE104 hx126
          refine op_want (yields ha rfl rfl) ?_
          refine op_g ha rfl (g_not rfl) ?_; clear ha a; intro a ha
          refine op_g ha rfl (g_pick rfl rfl) ?_; clear ha a; intro a ha
          refine wpList_nil ?_
          replace ha := ha.sub (σ' := [(0, va0), (3, v17), (5, v45), (39, (.bool (!x122)))]) ⟨rfl, rfl, rfl, rfl, trivial⟩
          refine e_then ?_
          refine c_cond (¬ (x122 = true)) ha rfl (n_iff (Iff.rfl)) (fun hp128 => ?_) (fun hp128 => ?_)
          · replace hF := if_t hp128 hF
            refine wp_seq ?_
            refine wp_region_lit ?_
            refine op_g ha rfl (g_assign rfl) ?_; clear ha a; intro a ha
            refine wpList_nil ?_
            replace ha := ha.sub (σ' := [(2, (.bool false))]) ⟨rfl, trivial⟩
            refine e_then ?_
            refine wp_ret ?_
            refine e_then_ret ?_
            obtain rfl := Option.some.inj hF
            exact f_ret1 ha rfl rfl ⟨rfl, hE127⟩
          · replace hF := if_f hp128 hF
            refine wp_skip ?_
            refine e_then ?_
            refine wp_seq ?_
            refine wp_region_lit ?_
            refine op_g ha rfl (g_assign rfl) ?_; clear ha a; intro a ha
            refine wpList_nil ?_
            replace ha := ha.sub (σ' := [(0, va0), (3, v17), (5, v45), (7, (.int .i64 1))]) ⟨rfl, rfl, rfl, rfl, trivial⟩
            refine e_then ?_
            refine wp_seq ?_
            refine wp_region_lit ?_
            refine op_g ha rfl (g_move rfl) ?_; clear ha a; intro a ha
            refine op_g ha rfl (g_move rfl) ?_; clear ha a; intro a ha
            obtain ⟨x129, hc130, hF⟩ := cal_some hF
            refine o_call ha rfl rfl Try.call13 (W_laws_markInt64S h49 (by decide) hc130) ?_; clear ha a; rintro v131 w132 ⟨⟨rfl, hI134⟩, h135, hx133⟩ a ha
            replace h21 := h21.nq hx133 q52
            have hE136 := Ext.then hE127 hx133 (Zn.bl q57)
            refine op_g ha rfl (g_assign rfl) ?_; clear ha a; intro a ha
            refine wpList_nil ?_
            replace ha := ha.sub (σ' := [(0, va0), (3, v17), (5, v45), (7, (.int .i64 x129.1))]) ⟨rfl, rfl, rfl, rfl, trivial⟩
            refine e_then ?_
            refine wp_seq ?_
            refine wp_region_lit ?_
            refine op_g ha rfl (g_assign rfl) ?_; clear ha a; intro a ha
            refine wpList_nil ?_
            replace ha := ha.sub (σ' := [(0, va0), (3, v17), (5, v45), (7, (.int .i64 x129.1)), (8, (.int .i64 1))]) ⟨rfl, rfl, rfl, rfl, rfl, trivial⟩
            refine e_then ?_
            refine wp_seq ?_
            refine wp_region_lit ?_
            refine op_g ha rfl (g_move rfl) ?_; clear ha a; intro a ha
            refine op_g ha rfl (g_move rfl) ?_; clear ha a; intro a ha
            obtain ⟨fp137, hro138, -⟩ := h135.weak.ro
            obtain ⟨x139, hc140, hF⟩ := cal_some hF
            refine o_call ha rfl rfl Try.call14 (W_laws_heldInt64S hro138 (by decide) hc140) ?_; clear ha a; rintro v141 w142 ⟨⟨rfl, hI144⟩, hx143⟩ a ha
            replace h21 := h21.ext hx143
            replace h135 := h135.ext hx143
            have hE145 := Ext.trans hE136 hx143
            refine op_g ha rfl (g_assign rfl) ?_; clear ha a; intro a ha
            refine wpList_nil ?_
            replace ha := ha.sub (σ' := [(0, va0), (3, v17), (5, v45), (7, (.int .i64 x129.1)), (8, (.int .i64 x139))]) ⟨rfl, rfl, rfl, rfl, rfl, trivial⟩
            refine e_then ?_
            refine wp_seq ?_
            refine wp_seq ?_
            refine wp_region_lit ?_
            refine op_g ha rfl (g_move rfl) ?_; clear ha a; intro a ha
            refine op_g ha rfl (g_lss rfl rfl) ?_; clear ha a; intro a ha
            refine wpList_nil ?_
            replace ha := ha.sub (σ' := [(0, va0), (3, v17), (5, v45), (7, (.int .i64 x129.1)), (8, (.int .i64 x139)), (47, (.bool (decide (x139 < 0))))]) ⟨rfl, rfl, rfl, rfl, rfl, rfl, trivial⟩
            refine e_then ?_
            refine c_cond (x139 < 0) ha rfl (decide_eq_true_iff) (fun hp146 => ?_) (fun hp146 => ?_)
            · replace hF := if_t hp146 hF
              refine wp_seq ?_
              refine wp_region_lit ?_
              refine op_g ha rfl (g_assign rfl) ?_; clear ha a; intro a ha
              refine wpList_nil ?_
              replace ha := ha.sub (σ' := [(2, (.bool false))]) ⟨rfl, trivial⟩
              refine e_then ?_
              refine wp_ret ?_
              refine e_then_ret ?_
              obtain rfl := Option.some.inj hF
              exact f_ret1 ha rfl rfl ⟨rfl, hE145⟩
            · replace hF := if_f hp146 hF
              refine wp_skip ?_
              refine e_then ?_
              refine wp_seq ?_
              refine wp_seq ?_
              refine wp_region_lit ?_
              refine op_g ha rfl (g_move rfl) ?_; clear ha a; intro a ha
              refine op_g ha rfl (g_move rfl) ?_; clear ha a; intro a ha
              refine op_g ha rfl (g_neq rfl rfl) ?_; clear ha a; intro a ha
              refine wpList_nil ?_
              replace ha := ha.sub (σ' := [(0, va0), (3, v17), (5, v45), (7, (.int .i64 x129.1)), (50, (.bool (decide (x139 ≠ x129.1))))]) ⟨rfl, rfl, rfl, rfl, rfl, trivial⟩
              refine e_then ?_
              refine c_cond (x139 ≠ x129.1) ha rfl (decide_eq_true_iff) (fun hp147 => ?_) (fun hp147 => ?_)
              · replace hF := if_t hp147 hF
                refine wp_seq ?_
                refine wp_region_lit ?_
                refine op_g ha rfl (g_assign rfl) ?_; clear ha a; intro a ha
                refine wpList_nil ?_
                replace ha := ha.sub (σ' := [(2, (.bool false))]) ⟨rfl, trivial⟩
                refine e_then ?_
                refine wp_ret ?_
                refine e_then_ret ?_
                obtain rfl := Option.some.inj hF
                exact f_ret1 ha rfl rfl ⟨rfl, hE145⟩
              · replace hF := if_f hp147 hF
                refine wp_skip ?_
                refine e_then ?_
                refine wp_seq ?_
                refine wp_region_lit ?_
                refine op_g ha rfl (g_move rfl) ?_; clear ha a; intro a ha
                obtain ⟨x148, hc149, hF⟩ := cal_some hF
                refine o_call ha rfl rfl Try.call10 (W_laws_toInt64S (ha0.ext hE145) hc149) ?_; clear ha a; rintro v150 w151 ⟨⟨b153, h154, z155⟩, hx152⟩ a ha
                have q157 := Nq.new h21.fpb z155
                have q158 := Nq.madeO z155 h21.blt
                have q159 := Nq.new h135.fpb z155
                have q160 := Nq.madeO z155 h135.blt
                replace h21 := h21.ext hx152
                replace h135 := h135.ext hx152
                have hE161 := Ext.trans hE145 hx152
                have q162 := Zn.upD z155 hE145
                obtain ⟨fp163, hro164, -⟩ := h154.weak.ro
                obtain ⟨x165, hc166, hF⟩ := cal_some hF
                refine o_call ha rfl rfl Try.call11 (W_impl_LeastNames hro164 hc166) ?_; clear ha a; rintro v167 w168 ⟨⟨b170, h171, z172⟩, hx169⟩ a ha
                have q174 := Nq.new h21.fpb z172
                have q175 := Nq.madeO z172 h21.blt
                have q176 := Nq.new h135.fpb z172
                have q177 := Nq.madeO z172 h135.blt
                have q178 := Nq.new h154.fpb z172
                have q179 := Nq.madeO z172 h154.blt
                replace h21 := h21.ext hx169
                replace h135 := h135.ext hx169
                replace h154 := h154.ext hx169
                have hE180 := Ext.trans hE161 hx169
                have q181 := Zn.upD z172 hE161
                refine op_g ha rfl (g_assign rfl) ?_; clear ha a; intro a ha
                refine wpList_nil ?_
                replace ha := ha.sub (σ' := [(3, v17), (5, v45), (7, (.int .i64 x129.1)), (9, v167)]) ⟨rfl, rfl, rfl, rfl, trivial⟩
                refine e_then ?_
                refine wp_seq ?_
                refine wp_seq ?_
                refine wp_region_lit ?_
                refine op_g ha rfl (g_move rfl) ?_; clear ha a; intro a ha
                refine op_g ha rfl (g_move rfl) ?_; clear ha a; intro a ha
                obtain ⟨fp182, hro183, -⟩ := h171.weak.ro
                obtain ⟨fp184, hro185, -⟩ := h21.weak.ro
                obtain ⟨x186, hc187, hF⟩ := cal_some hF
                refine o_call ha rfl rfl Try.call12 (W_laws_eqInt64S hro183 hro185 hc187) ?_; clear ha a; rintro v188 w189 ⟨rfl, hx190⟩ a ha
                replace h21 := h21.ext hx190
                replace h135 := h135.ext hx190
                replace h171 := h171.ext hx190
                have hE191 := Ext.trans hE180 hx190
                refine op_g ha rfl (g_not rfl) ?_; clear ha a; intro a ha
                refine wpList_nil ?_
                replace ha := ha.sub (σ' := [(5, v45), (7, (.int .i64 x129.1)), (57, (.bool (!x186)))]) ⟨rfl, rfl, rfl, trivial⟩
                refine e_then ?_
                refine c_cond (¬ (x186 = true)) ha rfl (n_iff (Iff.rfl)) (fun hp192 => ?_) (fun hp192 => ?_)
                · replace hF := if_t hp192 hF
                  refine wp_seq ?_
                  refine wp_region_lit ?_
                  refine op_g ha rfl (g_assign rfl) ?_; clear ha a; intro a ha
                  refine wpList_nil ?_
                  replace ha := ha.sub (σ' := [(2, (.bool false))]) ⟨rfl, trivial⟩
                  refine e_then ?_
                  refine wp_ret ?_
                  refine e_then_ret ?_
                  obtain rfl := Option.some.inj hF
                  exact f_ret1 ha rfl rfl ⟨rfl, hE191⟩
                · replace hF := if_f hp192 hF
                  refine wp_skip ?_
                  refine e_then ?_
                  refine wp_seq ?_
                  refine wp_region_lit ?_
                  refine op_g ha rfl (g_assign rfl) ?_; clear ha a; intro a ha
                  refine wpList_nil ?_
                  replace ha := ha.sub (σ' := [(5, v45), (7, (.int .i64 x129.1)), (8, (.int .i64 1))]) ⟨rfl, rfl, rfl, trivial⟩
                  refine e_then ?_
                  refine wp_seq ?_
                  refine wp_region_lit ?_
                  refine op_g ha rfl (g_move rfl) ?_; clear ha a; intro a ha
                  refine op_g ha rfl (g_move rfl) ?_; clear ha a; intro a ha
                  obtain ⟨fp193, hro194, -⟩ := h135.weak.ro
                  obtain ⟨x195, hc196, hF⟩ := cal_some hF
                  refine o_call ha rfl rfl Try.call14 (W_laws_heldInt64S hro194 (by decide) hc196) ?_; clear ha a; rintro v197 w198 ⟨⟨rfl, hI200⟩, hx199⟩ a ha
                  replace h135 := h135.ext hx199
                  have hE201 := Ext.trans hE191 hx199
                  refine op_g ha rfl (g_assign rfl) ?_; clear ha a; intro a ha
                  refine wpList_nil ?_
                  replace ha := ha.sub (σ' := [(7, (.int .i64 x129.1)), (8, (.int .i64 x195))]) ⟨rfl, rfl, trivial⟩
                  refine e_then ?_
                  refine wp_seq ?_
                  refine wp_seq ?_
                  refine wp_region_lit ?_
                  refine op_g ha rfl (g_move rfl) ?_; clear ha a; intro a ha
                  refine op_g ha rfl (g_lss rfl rfl) ?_; clear ha a; intro a ha
                  refine wpList_nil ?_
                  replace ha := ha.sub (σ' := [(7, (.int .i64 x129.1)), (8, (.int .i64 x195)), (62, (.bool (decide (x195 < 0))))]) ⟨rfl, rfl, rfl, trivial⟩
                  refine e_then ?_
                  refine c_cond (x195 < 0) ha rfl (decide_eq_true_iff) (fun hp202 => ?_) (fun hp202 => ?_)
                  · replace hF := if_t hp202 hF
                    refine wp_seq ?_
                    refine wp_region_lit ?_
                    refine op_g ha rfl (g_assign rfl) ?_; clear ha a; intro a ha
                    refine wpList_nil ?_
                    replace ha := ha.sub (σ' := [(2, (.bool false))]) ⟨rfl, trivial⟩
                    refine e_then ?_
                    refine wp_ret ?_
                    refine e_then_ret ?_
                    obtain rfl := Option.some.inj hF
                    exact f_ret1 ha rfl rfl ⟨rfl, hE201⟩
                  · replace hF := if_f hp202 hF
                    refine wp_skip ?_
                    refine e_then ?_
                    refine wp_seq ?_
                    refine wp_seq ?_
                    refine wp_region_lit ?_
                    refine op_g ha rfl (g_move rfl) ?_; clear ha a; intro a ha
                    refine op_g ha rfl (g_move rfl) ?_; clear ha a; intro a ha
                    refine op_g ha rfl (g_neq rfl rfl) ?_; clear ha a; intro a ha
                    refine wpList_nil ?_
                    replace ha := ha.sub (σ' := [(65, (.bool (decide (x195 ≠ x129.1))))]) ⟨rfl, trivial⟩
                    refine e_then ?_
                    refine c_cond (x195 ≠ x129.1) ha rfl (decide_eq_true_iff) (fun hp203 => ?_) (fun hp203 => ?_)
                    · replace hF := if_t hp203 hF
                      refine wp_seq ?_
                      refine wp_region_lit ?_
                      refine op_g ha rfl (g_assign rfl) ?_; clear ha a; intro a ha
                      refine wpList_nil ?_
                      replace ha := ha.sub (σ' := [(2, (.bool false))]) ⟨rfl, trivial⟩
                      refine e_then ?_
                      refine wp_ret ?_
                      refine e_then_ret ?_
                      obtain rfl := Option.some.inj hF
                      exact f_ret1 ha rfl rfl ⟨rfl, hE201⟩
                    · replace hF := if_f hp203 hF
                      refine wp_skip ?_
                      refine e_then ?_
                      refine wp_seq ?_
                      refine wp_region_lit ?_
                      refine op_g ha rfl (g_assign rfl) ?_; clear ha a; intro a ha
                      refine wpList_nil ?_
                      replace ha := ha.sub (σ' := [(2, (.bool true))]) ⟨rfl, trivial⟩
                      refine e_then ?_
                      refine wp_ret ?_
                      obtain rfl := Option.some.inj hF
                      exact f_ret1 ha rfl rfl ⟨rfl, hE201⟩
end Go.Proofs.Ytacgmkncleiblaa
