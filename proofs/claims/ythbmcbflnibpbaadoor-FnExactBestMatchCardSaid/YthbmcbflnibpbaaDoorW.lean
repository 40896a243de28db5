/- Walks, printed by gen.py. -/
import Derived.Test.YthbmcbflnibpbaaDoorF
import Derived.Test.YthbmcbflnibpbaaDoorW1
import Derived.Test.YthbmcbflnibpbaaDoorProg
import Derived.KernelRfl
set_option maxRecDepth 100000
namespace Go.Proofs.YthbmcbflnibpbaaDoor
open Go Go.RowKit

set_option maxHeartbeats 2000000 in
theorem W_impl_mostEdges_1 {W : World} {a0 : Int} (ha0 : InI a0) {va1 : Value} {fa1 : List Nat} {a1 : (List Int)} (ha1 : Ro Rp.int W fa1 va1 a1) {r : Int} (hF : F_impl_mostEdges_1 a0 a1 = some r) :
    Calls Tryd.prog 55 [.int .i64 a0, va1].toArray W (Ret fun u w' => (u = .int .i64 r ∧ InI r) ∧ Ext W w') := by
  refine f_enter Tryd.func55 rfl Tryd.ntmps55 rfl ?_
  intro a ha
  replace ha : Fr 19 [(0, (.int .i64 a0)), (1, va1)] a := ha
  have hE : Chg [] W W := Chg.refl _ _
  unfold F_impl_mostEdges_1 at hF
  refine wp_seq ?_; refine wp_region_lit ?_; refine op_g ha rfl (g_assign rfl) ?_; clear ha a; intro a ha; refine wpList_nil ?_; replace ha := ha.sub (σ' := [(0, (.int .i64 a0)), (1, va1)]) ⟨rfl, rfl, trivial⟩; refine e_then ?_; refine wp_seq ?_; refine wp_seq ?_; refine wp_region_lit ?_; refine op_g ha rfl (g_move rfl) ?_; clear ha a; intro a ha; refine op_g ha rfl (g_lenR sl35.und ha1 rfl) ?_; clear ha a; intro a ha; refine op_g ha rfl (g_move rfl) ?_; clear ha a; intro a ha; refine wpList_nil ?_; replace ha := ha.sub (σ' := [(0, (.int .i64 a0)), (7, va1), (8, (.int .i64 (a1.length : Int))), (9, (.int .i64 0))]) ⟨rfl, rfl, rfl, rfl, trivial⟩
  refine e_then ?_; obtain ⟨o56, ho57, hK58⟩ := bnd_some hF
  obtain ⟨n59, hn60⟩ := lp_some ho57; clear ho57
  refine c_loop (fun a w => ∃ (i54 : Int), Fr 19 [(0, (.int .i64 i54))] a ∧ Chg [] W w ∧ InI i54 ∧ o56 = .inl i54) (fun n a w => ∃ (i26 : Int) (i28 : Int), Fr 19 [(0, (.int .i64 i26)), (7, va1), (8, (.int .i64 (a1.length : Int))), (9, (.int .i64 i28))] a ∧ Chg [] W w ∧ InI i26 ∧ InI i28 ∧ lpN (fun s => F_impl_mostEdges_1_l1 a1 s.1 s.2) n (i26, i28) = some o56) n59 ⟨a0, 0, ha.sub ⟨rfl, rfl, rfl, rfl, trivial⟩, hE, ha0, (show InI 0 from by decide), hn60⟩ ?_ ?_
  · rintro m64 a w25 ⟨i26, i28, ha, hE30, hI27, hI29, hF⟩
    cases m64 with
    | zero => exact (lpN_zero hF).elim
    | succ m64 =>
      obtain ⟨z63, hF, hN62⟩ := lpN_succ hF
      have hF : F_impl_mostEdges_1_l1 a1 i26 i28 = some z63 := hF; unfold F_impl_mostEdges_1_l1 at hF
      refine wp_seq ?_; refine wp_region_lit ?_; refine op_g ha rfl (g_lss rfl rfl) ?_; clear ha a; intro a ha; refine wpList_nil ?_; replace ha := ha.sub (σ' := [(0, (.int .i64 i26)), (7, va1), (8, (.int .i64 (a1.length : Int))), (9, (.int .i64 i28)), (10, (.bool (decide (i28 < (a1.length : Int)))))]) ⟨rfl, rfl, rfl, rfl, rfl, trivial⟩; refine e_then ?_; refine wp_seq ?_; refine c_cond (i28 < (a1.length : Int)) ha rfl (decide_eq_true_iff) (fun hp65 => ?_) (fun hp65 => ?_)
      · replace hF := if_t hp65 hF
        refine wp_skip ?_; refine e_then ?_; refine wp_seq ?_; refine wp_block ?_; refine wp_seq ?_; refine wp_region_lit ?_; obtain ⟨x66, g67, gx68, hF⟩ := idx_some hF
        obtain ⟨p69, cs70, f71, hf72, hpb73, hat74, hr75, hi76⟩ := ha1.at g67 gx68
        obtain ⟨rfl, hI77, rfl⟩ := hr75
        refine op_g ha rfl (hi76.gives sl35 rfl rfl) ?_; clear ha a; intro a ha; refine op_g ha rfl (g_load0 hE30 Tryd.isAgg2 rfl hat74.one) ?_; clear ha a; intro a ha; refine op_g ha rfl (g_assign rfl) ?_; clear ha a; intro a ha; refine wpList_nil ?_; replace ha := ha.sub (σ' := [(0, (.int .i64 i26)), (6, (.int .i64 x66)), (7, va1), (8, (.int .i64 (a1.length : Int))), (9, (.int .i64 i28))]) ⟨rfl, rfl, rfl, rfl, rfl, trivial⟩; refine e_then ?_; refine wp_region_lit ?_; (iterate 2 refine op_g ha rfl (g_move rfl) ?_; clear ha a; intro a ha); obtain ⟨hI78, hF⟩ := ck_some hF; refine op_g ha rfl (g_add rfl rfl hI78) ?_; clear ha a; intro a ha
        refine op_g ha rfl (g_max rfl rfl) ?_; clear ha a; intro a ha; refine op_g ha rfl (g_assign rfl) ?_; clear ha a; intro a ha; refine wpList_nil ?_; replace ha := ha.sub (σ' := [(0, (.int .i64 (max i26 (x66 + 1)))), (7, va1), (8, (.int .i64 (a1.length : Int))), (9, (.int .i64 i28))]) ⟨rfl, rfl, rfl, rfl, trivial⟩; refine e_blk ?_; refine e_then ?_; refine wp_region_lit ?_; obtain ⟨hI80, hF⟩ := ck_some hF; refine op_g ha rfl (g_add rfl rfl hI80) ?_; clear ha a; intro a ha; refine op_g ha rfl (g_move rfl) ?_; clear ha a; intro a ha; refine wpList_nil ?_; replace ha := ha.sub (σ' := [(0, (.int .i64 (max i26 (x66 + 1)))), (7, va1), (8, (.int .i64 (a1.length : Int))), (9, (.int .i64 (i28 + 1)))]) ⟨rfl, rfl, rfl, rfl, trivial⟩
        refine e_lq ?_; obtain rfl := Option.some.inj hF
        exact ⟨_, Nat.lt_succ_self _, max i26 (x66 + 1), i28 + 1, ha.sub ⟨rfl, rfl, rfl, rfl, trivial⟩, hE30, (in_max hI27 hI78), hI80, hN62⟩
      replace hF := if_f hp65 hF; refine wp_exit ?_; refine e_then_exit ?_; refine e_lq_eq ?_; obtain rfl := Option.some.inj hF
      exact ⟨i26, ha.sub ⟨rfl, trivial⟩, hE30, hI27, (LK_inr hN62).symm⟩
  rintro a w53 ⟨i54, ha, hE61, hI55, rfl⟩
  have hF : F_impl_mostEdges_1_k2 i54 = some _ := hK58; clear hK58; unfold F_impl_mostEdges_1_k2 at hF
  refine e_then ?_; refine wp_seq ?_; refine wp_region_lit ?_; refine op_g ha rfl (g_move rfl) ?_; clear ha a; intro a ha; refine op_g ha rfl (g_assign rfl) ?_; clear ha a; intro a ha; refine wpList_nil ?_; replace ha := ha.sub (σ' := [(4, (.int .i64 i54))]) ⟨rfl, trivial⟩; refine e_then ?_; refine wp_ret ?_; obtain rfl := Option.some.inj hF
  exact f_ret1 ha rfl rfl ⟨⟨rfl, hI55⟩, hE61⟩
set_option maxHeartbeats 2000000 in
theorem W_impl_mostEdges {W : World} {va0 : Value} {fa0 : List Nat} {a0 : (List (BitVec 32))} (ha0 : Ro Rp.u32 W fa0 va0 a0) (hG : GT 0 W) {r : (List Int)} (hF : F_impl_mostEdges a0 = some r) :
    Calls Tryd.prog 36 [va0].toArray W (Ret fun u w' => ∃ (b_u : Int), Ow Rp.int 2 true w' [] b_u u r ∧ Zn W b_u ∧ Ext W w') := by
  refine f_enter Tryd.func36 rfl Tryd.ntmps36 rfl ?_
  intro a ha
  replace ha : Fr 5 [(0, va0)] a := ha
  have hE : Chg [] W W := Chg.refl _ _
  unfold F_impl_mostEdges at hF
  refine wp_seq ?_; refine wp_region_lit ?_; refine op_g ha rfl (g_assign rfl) ?_; clear ha a; intro a ha; refine wpList_nil ?_; replace ha := ha.sub (σ' := [(0, va0)]) ⟨rfl, trivial⟩; refine e_then ?_; refine wp_seq ?_; refine wp_region_lit ?_; refine op_g ha rfl (g_move rfl) ?_; clear ha a; intro a ha; obtain ⟨x4, hc5, hF⟩ := cal_some hF
  refine o_call ha rfl rfl Tryd.call54 (W_impl_onSets (ha0.ext hE) (show InI 0 from by decide) (by intro _ hy3 z1 hz1 vz2 fz2 z2 hz2 r hr; exact W_impl_mostEdges_1 hz1 hz2 hr) Tryd.call55 (hG.ext hE) hc5) ?_; clear ha a; rintro v6 w7 ⟨b9, h10, z11, hx8⟩ a ha
  have hE13 := Ext.trans hE hx8
  have q14 := Zn.upD z11 hE
  refine op_g ha rfl (g_assign rfl) ?_; clear ha a; intro a ha; refine wpList_nil ?_; replace ha := ha.sub (σ' := [(2, v6)]) ⟨rfl, trivial⟩; refine e_then ?_; refine wp_ret ?_; obtain rfl := Option.some.inj hF
  exact f_ret1 ha rfl rfl ⟨_, h10, q14, hE13⟩
set_option maxHeartbeats 2000000 in
theorem W_impl_edgesOf {W : World} {va0_0 : Value} {fa0_0 : List Nat} {a0_0 : (List (List Int))} (ha0_0 : Ro (Rp.sl 2 Rp.int) W fa0_0 va0_0 a0_0) {r : (List (List Int))} (hF : F_impl_edgesOf a0_0 = some r) :
    Calls Tryd.prog 37 [.agg #[va0_0]].toArray W (Ret fun u w' => ∃ (b_u : Int) (fs_u : List Nat), Ow (Rp.sl 2 Rp.int) 35 true w' fs_u b_u u r ∧ Zn W b_u ∧ (∀ k ∈ fs_u, W.heap.size ≤ k) ∧ (bl b_u ++ fs_u).Nodup ∧ Ext W w') := by
  refine f_enter Tryd.func37 rfl Tryd.ntmps37 rfl ?_
  intro a ha
  replace ha : Fr 35 [(0, (.agg #[va0_0]))] a := ha
  have hE : Chg [] W W := Chg.refl _ _
  unfold F_impl_edgesOf at hF
  refine wp_seq ?_; refine wp_region_lit ?_
  refine o_box ha rfl rfl rfl ?_; clear ha a; intro b1 w2 hB3 hx4 hlo5 a ha
  have q6 := Zn.one hlo5
  have q7 := Zn.upD q6 hE
  have hE8 := Ext.trans hE hx4
  refine op_g ha rfl (g_assign rfl) ?_; clear ha a; intro a ha; refine wpList_nil ?_; replace ha := ha.sub (σ' := [(1, (.pointer (some ⟨b1, 0, none⟩)))]) ⟨rfl, trivial⟩; refine e_then ?_; refine wp_seq ?_; refine wp_region_lit ?_
  refine o_lit0 (Rp.sl 2 Rp.int) ha rfl sl22 ?_; clear ha a; intro v9 w10 h11 hx12 a ha
  obtain ⟨b14, hb14⟩ : ∃ b : Int, b = w2.heap.size := ⟨_, rfl⟩; rw [← hb14] at h11
  have q15 := zn_of hb14
  have q16 := Nq.new hB3.fpb q15
  have q17 := Nq.madeO q15 hB3.bi
  have q18 := Zn.upD q15 hE8
  replace hB3 := hB3.ext hx12
  have hE19 := Ext.trans hE8 hx12
  refine op_g ha rfl (g_assign rfl) ?_; clear ha a; intro a ha; refine wpList_nil ?_; replace ha := ha.sub (σ' := [(1, (.pointer (some ⟨b1, 0, none⟩))), (3, v9)]) ⟨rfl, rfl, trivial⟩; refine e_then ?_; refine wp_seq ?_; refine wp_seq ?_; refine wp_region_lit ?_; refine op_g ha rfl (g_field0 st27_0 rfl) ?_; clear ha a; intro a ha; refine op_g ha rfl (g_load Tryd.isAgg22 rfl (hB3.cell rfl)) ?_; clear ha a; intro a ha; refine op_g ha rfl (g_lenR sl22.und ha0_0 rfl) ?_; clear ha a; intro a ha; refine op_g ha rfl (g_move rfl) ?_; clear ha a; intro a ha; refine wpList_nil ?_; replace ha := ha.sub (σ' := [(3, v9), (10, va0_0), (11, (.int .i64 (a0_0.length : Int))), (12, (.int .i64 0))]) ⟨rfl, rfl, rfl, rfl, trivial⟩
  refine e_then ?_; obtain ⟨o579, ho580, hK581⟩ := bnd_some hF
  obtain ⟨n582, hn583⟩ := lp_some ho580; clear ho580
  refine c_loop (fun a w => ∃ (l576 : (List (List Int))) (fs573 : List Nat) (v577 : Value) (b578 : Int), Fr 35 [(3, v577)] a ∧ Chg [] W w ∧ Ow (Rp.sl 2 Rp.int) 35 true w fs573 b578 v577 l576 ∧ Zn W b578 ∧ (∀ k ∈ fs573, W.heap.size ≤ k) ∧ (bl b578 ++ fs573).Nodup ∧ o579 = .inl l576) (fun n a w => ∃ (l299 : (List (List Int))) (i302 : Int) (fs296 : List Nat) (v300 : Value) (b301 : Int), Fr 35 [(3, v300), (10, va0_0), (11, (.int .i64 (a0_0.length : Int))), (12, (.int .i64 i302))] a ∧ Chg [] W w ∧ InI i302 ∧ Ow (Rp.sl 2 Rp.int) 35 true w fs296 b301 v300 l299 ∧ Zn W b301 ∧ (∀ k ∈ fs296, W.heap.size ≤ k) ∧ (bl b301 ++ fs296).Nodup ∧ lpN (fun s => F_impl_edgesOf_l1 a0_0 s.1 s.2) n (l299, i302) = some o579) n582 ⟨([] : (List (List Int))), 0, [], v9, b14, ha.sub ⟨rfl, rfl, rfl, rfl, trivial⟩, hE19, (show InI 0 from by decide), h11, q18, (zf_nil _), (bl_nodup b14), hn583⟩ ?_ ?_
  · rintro m587 a w292 ⟨l299, i302, fs296, v300, b301, ha, hE304, hI303, h294, z295, zf297, nd298, hF⟩
    cases m587 with
    | zero => exact (lpN_zero hF).elim
    | succ m587 =>
      obtain ⟨z586, hF, hN585⟩ := lpN_succ hF
      have hF : F_impl_edgesOf_l1 a0_0 l299 i302 = some z586 := hF; unfold F_impl_edgesOf_l1 at hF
      refine wp_seq ?_; refine wp_region_lit ?_; refine op_g ha rfl (g_lss rfl rfl) ?_; clear ha a; intro a ha; refine wpList_nil ?_; replace ha := ha.sub (σ' := [(3, v300), (10, va0_0), (11, (.int .i64 (a0_0.length : Int))), (12, (.int .i64 i302)), (13, (.bool (decide (i302 < (a0_0.length : Int)))))]) ⟨rfl, rfl, rfl, rfl, rfl, trivial⟩; refine e_then ?_; refine wp_seq ?_; refine c_cond (i302 < (a0_0.length : Int)) ha rfl (decide_eq_true_iff) (fun hp588 => ?_) (fun hp588 => ?_)
      · replace hF := if_t hp588 hF
        refine wp_skip ?_; refine e_then ?_; refine wp_seq ?_; refine wp_block ?_; refine wp_seq ?_; refine wp_region_lit ?_; refine op_g ha rfl (g_move rfl) ?_; clear ha a; intro a ha; obtain ⟨x589, g590, gx591, hF⟩ := idx_some hF
        obtain ⟨p592, cs593, f594, hf595, hpb596, hat597, hr598, hi599⟩ := ha0_0.at g590 gx591
        obtain ⟨v600, rfl, h601⟩ := hr598
        have h601 : Ro Rp.int W f594 v600 x589 := h601
        refine op_g ha rfl (hi599.gives sl22 rfl rfl) ?_; clear ha a; intro a ha; refine op_g ha rfl (g_load0 hE304 Tryd.isAgg35 rfl hat597.one) ?_; clear ha a; intro a ha; (iterate 2 refine op_g ha rfl (g_assign rfl) ?_; clear ha a; intro a ha); refine wpList_nil ?_; replace ha := ha.sub (σ' := [(3, v300), (4, (.int .i64 i302)), (5, v600), (10, va0_0), (11, (.int .i64 (a0_0.length : Int))), (12, (.int .i64 i302))]) ⟨rfl, rfl, rfl, rfl, rfl, rfl, trivial⟩; refine e_then ?_; refine wp_seq ?_; refine wp_region_lit ?_; refine op_g ha rfl (g_move rfl) ?_; clear ha a; intro a ha; refine op_g ha rfl (g_lenR sl35.und h601 rfl) ?_; clear ha a; intro a ha
        refine op_g ha rfl (g_move rfl) ?_; clear ha a; intro a ha; refine wpList_nil ?_; replace ha := ha.sub (σ' := [(3, v300), (4, (.int .i64 i302)), (10, va0_0), (11, (.int .i64 (a0_0.length : Int))), (12, (.int .i64 i302)), (17, v600), (18, (.int .i64 (x589.length : Int))), (19, (.int .i64 0))]) ⟨rfl, rfl, rfl, rfl, rfl, rfl, rfl, rfl, trivial⟩; refine e_then ?_; obtain ⟨o772, ho773, hK774⟩ := bnd_some hF
        obtain ⟨n775, hn776⟩ := lp_some ho773; clear ho773
        refine c_loop (fun a w => ∃ (l769 : (List (List Int))) (fs766 : List Nat) (v770 : Value) (b771 : Int), Fr 35 [(3, v770), (10, va0_0), (11, (.int .i64 (a0_0.length : Int))), (12, (.int .i64 i302))] a ∧ Chg [] W w ∧ Ow (Rp.sl 2 Rp.int) 35 true w fs766 b771 v770 l769 ∧ Zn W b771 ∧ (∀ k ∈ fs766, W.heap.size ≤ k) ∧ (bl b771 ++ fs766).Nodup ∧ o772 = .inl l769) (fun n a w => ∃ (l687 : (List (List Int))) (i690 : Int) (fs684 : List Nat) (v688 : Value) (b689 : Int), Fr 35 [(3, v688), (4, (.int .i64 i302)), (10, va0_0), (11, (.int .i64 (a0_0.length : Int))), (12, (.int .i64 i302)), (17, v600), (18, (.int .i64 (x589.length : Int))), (19, (.int .i64 i690))] a ∧ Chg [] W w ∧ InI i690 ∧ Ow (Rp.sl 2 Rp.int) 35 true w fs684 b689 v688 l687 ∧ Zn W b689 ∧ (∀ k ∈ fs684, W.heap.size ≤ k) ∧ (bl b689 ++ fs684).Nodup ∧ lpN (fun s => F_impl_edgesOf_l2 i302 x589 s.1 s.2) n (l687, i690) = some o772) n775 ⟨l299, 0, fs296, v300, b301, ha.sub ⟨rfl, rfl, rfl, rfl, rfl, rfl, rfl, rfl, trivial⟩, hE304, (show InI 0 from by decide), h294, z295, zf297, nd298, hn776⟩ ?_ ?_
        · rintro m780 a w680 ⟨l687, i690, fs684, v688, b689, ha, hE692, hI691, h682, z683, zf685, nd686, hF⟩
          cases m780 with
          | zero => exact (lpN_zero hF).elim
          | succ m780 =>
            obtain ⟨z779, hF, hN778⟩ := lpN_succ hF
            have hF : F_impl_edgesOf_l2 i302 x589 l687 i690 = some z779 := hF; unfold F_impl_edgesOf_l2 at hF
            refine wp_seq ?_; refine wp_region_lit ?_; refine op_g ha rfl (g_lss rfl rfl) ?_; clear ha a; intro a ha; refine wpList_nil ?_; replace ha := ha.sub (σ' := [(3, v688), (4, (.int .i64 i302)), (10, va0_0), (11, (.int .i64 (a0_0.length : Int))), (12, (.int .i64 i302)), (17, v600), (18, (.int .i64 (x589.length : Int))), (19, (.int .i64 i690)), (20, (.bool (decide (i690 < (x589.length : Int)))))]) ⟨rfl, rfl, rfl, rfl, rfl, rfl, rfl, rfl, rfl, trivial⟩; refine e_then ?_; refine wp_seq ?_; refine c_cond (i690 < (x589.length : Int)) ha rfl (decide_eq_true_iff) (fun hp781 => ?_) (fun hp781 => ?_)
            · replace hF := if_t hp781 hF
              refine wp_skip ?_; refine e_then ?_; refine wp_seq ?_; refine wp_block ?_; refine wp_seq ?_; refine wp_region_lit ?_; obtain ⟨x782, g783, gx784, hF⟩ := idx_some hF
              obtain ⟨p785, cs786, f787, hf788, hpb789, hat790, hr791, hi792⟩ := h601.at g783 gx784
              obtain ⟨rfl, hI793, rfl⟩ := hr791
              refine op_g ha rfl (hi792.gives sl35 rfl rfl) ?_; clear ha a; intro a ha; refine op_g ha rfl (g_load0 hE692 Tryd.isAgg2 rfl hat790.one) ?_; clear ha a; intro a ha; refine op_g ha rfl (g_assign rfl) ?_; clear ha a; intro a ha; refine wpList_nil ?_; replace ha := ha.sub (σ' := [(3, v688), (4, (.int .i64 i302)), (7, (.int .i64 x782)), (10, va0_0), (11, (.int .i64 (a0_0.length : Int))), (12, (.int .i64 i302)), (17, v600), (18, (.int .i64 (x589.length : Int))), (19, (.int .i64 i690))]) ⟨rfl, rfl, rfl, rfl, rfl, rfl, rfl, rfl, rfl, trivial⟩; refine e_then ?_; refine wp_seq ?_; refine wp_region_lit ?_
              (iterate 2 refine op_g ha rfl (g_move rfl) ?_; clear ha a; intro a ha); refine op_g ha rfl (g_lss rfl rfl) ?_; clear ha a; intro a ha; refine wpList_nil ?_; replace ha := ha.sub (σ' := [(3, v688), (4, (.int .i64 i302)), (7, (.int .i64 x782)), (10, va0_0), (11, (.int .i64 (a0_0.length : Int))), (12, (.int .i64 i302)), (17, v600), (18, (.int .i64 (x589.length : Int))), (19, (.int .i64 i690)), (25, (.bool (decide (i302 < x782))))]) ⟨rfl, rfl, rfl, rfl, rfl, rfl, rfl, rfl, rfl, rfl, trivial⟩; refine e_then ?_; refine c_cond (i302 < x782) ha rfl (decide_eq_true_iff) (fun hp794 => ?_) (fun hp794 => ?_)
              · replace hF := if_t hp794 hF
                refine wp_region_lit ?_; (iterate 3 refine op_g ha rfl (g_move rfl) ?_; clear ha a; intro a ha)
                have hvob799 : ∀ p ∈ ([((.int .i64 i302), [(.int .i64 i302)]), ((.int .i64 x782), [(.int .i64 x782)])] : List (Value × List Value)), p.1.cells = p.2.toArray ∧ p.2.length = 1 := by
                  intro p hp; simp only [List.mem_cons, List.not_mem_nil, or_false] at hp; rcases hp with hp | hp <;> subst hp <;> first | exact ⟨rfl, rfl⟩
                refine o_litM (o := true) (f := []) (ps := [((.int .i64 i302), [(.int .i64 i302)]), ((.int .i64 x782), [(.int .i64 x782)])]) (ys := [i302, x782]) Rp.int ha rfl sl35 rfl rfl rfl rfl hvob799 ⟨[], [], [(.int .i64 i302)], _, rfl, rfl, ⟨rfl, hI303, rfl⟩, ⟨[], [], [(.int .i64 x782)], _, rfl, rfl, ⟨rfl, hI793, rfl⟩, ⟨rfl, rfl⟩⟩⟩ ?_; clear ha a; intro v795 w796 h797 hx798 a ha
                obtain ⟨b800, hb800⟩ : ∃ b : Int, b = w680.heap.size := ⟨_, rfl⟩; rw [← hb800] at h797
                have q801 := zn_of hb800
                have q802 := Nq.new h682.fpb q801
                have q803 := Nq.madeO q801 h682.blt
                have q804 := Nf.old q801 (zf_nil _) h682.bnd
                have q805 := Zn.upD q801 hE692
                replace h682 := h682.ext hx798
                have hE806 := Ext.trans hE692 hx798
                refine o_lit1 (o := true) (y := [i302, x782]) (Rp.sl 2 Rp.int) ha rfl sl22 rfl rfl h797.cells (Rp.mkO h797) ?_; clear ha a; intro v807 w808 h809 hx810 a ha
                obtain ⟨b812, hb812⟩ : ∃ b : Int, b = w796.heap.size := ⟨_, rfl⟩; rw [← hb812] at h809
                have q813 := zn_of hb812
                have q814 := zf_mv q805 (zf_nil _)
                have q815 := dj_of q802
                have q816 := Nq.new h682.fpb q813
                have q817 := Nq.append (Nq.madeL q813 h682.blt) q803
                have q818 := Zn.upD q813 hE806
                have q819 := nd_lit (bl_nodup b800) h797.fpb hb812
                replace h682 := h682.ext hx810
                have hE820 := Ext.trans hE806 hx810
                obtain ⟨hl821, hF⟩ := app_some hF
                have q822 := Nq.right q817
                refine o_append ha rfl sl22 rfl rfl rfl h682 h809.src q822 hl821 ?_; clear ha a; intro v823 w824 b825 h826 hc827 hb828 a ha
                replace h826 : Ow (Rp.sl 2 Rp.int) 35 true w824 (fs684 ++ (bl b800 ++ [])) b825 v823 _ := h826
                have q830 := zf_app zf685 q814
                have q831 := nd_app nd686 (bl_nodup b800) q815 hb828 h682.fpb h809.bnd
                have q832 := Zn.appD z683 hb828 hE820
                have hE833 := Ext.then hE820 hc827 (Zn.bl z683)
                refine op_g ha rfl (g_assign rfl) ?_; clear ha a; intro a ha; refine wpList_nil ?_; replace ha := ha.sub (σ' := [(3, v823), (4, (.int .i64 i302)), (10, va0_0), (11, (.int .i64 (a0_0.length : Int))), (12, (.int .i64 i302)), (17, v600), (18, (.int .i64 (x589.length : Int))), (19, (.int .i64 i690))]) ⟨rfl, rfl, rfl, rfl, rfl, rfl, rfl, rfl, trivial⟩; refine e_blk ?_; refine e_then ?_; refine wp_region_lit ?_; obtain ⟨hI834, hF⟩ := ck_some hF; refine op_g ha rfl (g_add rfl rfl hI834) ?_; clear ha a; intro a ha; refine op_g ha rfl (g_move rfl) ?_; clear ha a; intro a ha; refine wpList_nil ?_
                replace ha := ha.sub (σ' := [(3, v823), (4, (.int .i64 i302)), (10, va0_0), (11, (.int .i64 (a0_0.length : Int))), (12, (.int .i64 i302)), (17, v600), (18, (.int .i64 (x589.length : Int))), (19, (.int .i64 (i690 + 1)))]) ⟨rfl, rfl, rfl, rfl, rfl, rfl, rfl, rfl, trivial⟩; refine e_lq ?_; obtain rfl := Option.some.inj hF
                exact ⟨_, Nat.lt_succ_self _, (l687 ++ ([[i302, x782]])), i690 + 1, (fs684 ++ (bl b800 ++ [])), v823, b825, ha.sub ⟨rfl, rfl, rfl, rfl, rfl, rfl, rfl, rfl, trivial⟩, hE833, hI834, h826, q832, q830, q831, hN778⟩
              replace hF := if_f hp794 hF; refine wp_skip ?_; refine e_blk ?_; refine e_then ?_; refine wp_region_lit ?_; obtain ⟨hI836, hF⟩ := ck_some hF; refine op_g ha rfl (g_add rfl rfl hI836) ?_; clear ha a; intro a ha; refine op_g ha rfl (g_move rfl) ?_; clear ha a; intro a ha; refine wpList_nil ?_; replace ha := ha.sub (σ' := [(3, v688), (4, (.int .i64 i302)), (10, va0_0), (11, (.int .i64 (a0_0.length : Int))), (12, (.int .i64 i302)), (17, v600), (18, (.int .i64 (x589.length : Int))), (19, (.int .i64 (i690 + 1)))]) ⟨rfl, rfl, rfl, rfl, rfl, rfl, rfl, rfl, trivial⟩; refine e_lq ?_; obtain rfl := Option.some.inj hF
              exact ⟨_, Nat.lt_succ_self _, l687, i690 + 1, fs684, v688, b689, ha.sub ⟨rfl, rfl, rfl, rfl, rfl, rfl, rfl, rfl, trivial⟩, hE692, hI836, h682, z683, zf685, nd686, hN778⟩
            replace hF := if_f hp781 hF; refine wp_exit ?_; refine e_then_exit ?_; refine e_lq_eq ?_; obtain rfl := Option.some.inj hF
            exact ⟨l687, fs684, v688, b689, ha.sub ⟨rfl, rfl, rfl, rfl, trivial⟩, hE692, h682, z683, zf685, nd686, (LK_inr hN778).symm⟩
        rintro a w762 ⟨l769, fs766, v770, b771, ha, hE777, h764, z765, zf767, nd768, rfl⟩
        have hF : F_impl_edgesOf_k3 i302 l769 = some _ := hK774; clear hK774; unfold F_impl_edgesOf_k3 at hF
        refine e_blk ?_; refine e_then ?_; refine wp_region_lit ?_; obtain ⟨hI838, hF⟩ := ck_some hF; refine op_g ha rfl (g_add rfl rfl hI838) ?_; clear ha a; intro a ha; refine op_g ha rfl (g_move rfl) ?_; clear ha a; intro a ha; refine wpList_nil ?_; replace ha := ha.sub (σ' := [(3, v770), (10, va0_0), (11, (.int .i64 (a0_0.length : Int))), (12, (.int .i64 (i302 + 1)))]) ⟨rfl, rfl, rfl, rfl, trivial⟩; refine e_lq ?_; obtain rfl := Option.some.inj hF
        exact ⟨_, Nat.lt_succ_self _, l769, i302 + 1, fs766, v770, b771, ha.sub ⟨rfl, rfl, rfl, rfl, trivial⟩, hE777, hI838, h764, z765, zf767, nd768, hN585⟩
      replace hF := if_f hp588 hF; refine wp_exit ?_; refine e_then_exit ?_; refine e_lq_eq ?_; obtain rfl := Option.some.inj hF
      exact ⟨l299, fs296, v300, b301, ha.sub ⟨rfl, trivial⟩, hE304, h294, z295, zf297, nd298, (LK_inr hN585).symm⟩
  rintro a w569 ⟨l576, fs573, v577, b578, ha, hE584, h571, z572, zf574, nd575, rfl⟩
  have hF : F_impl_edgesOf_k4 l576 = some _ := hK581; clear hK581; unfold F_impl_edgesOf_k4 at hF
  refine e_then ?_; refine wp_seq ?_; refine wp_region_lit ?_; refine op_g ha rfl (g_move rfl) ?_; clear ha a; intro a ha; refine op_g ha rfl (g_assign rfl) ?_; clear ha a; intro a ha; refine wpList_nil ?_; replace ha := ha.sub (σ' := [(2, v577)]) ⟨rfl, trivial⟩; refine e_then ?_; refine wp_ret ?_; obtain rfl := Option.some.inj hF
  exact f_ret1 ha rfl rfl ⟨_, _, h571, z572, zf574, nd575, hE584⟩
set_option maxHeartbeats 2000000 in
/-- the rows of an owned slice from the i-th on: none of them has been moved out -/
def Rows (w : World) (b : Int) (v : Value) (xs : List (List Int)) (i : Nat) (ft : List Nat) : Prop :=
  (b < 0 ∧ v = .slice none 0 0 ∧ xs = [] ∧ ft = []) ∨ ∃ (g cap : Nat) (cur : Array Value), b = (g : Int) ∧ v = .slice (some ⟨g, 0, none⟩) xs.length cap ∧ w.heap[g]? = some (.cells cur 35 (0, 0)) ∧
    RepL (Rp.sl 2 Rp.int) true w ft ((cur.toList.take xs.length).drop i) (xs.drop i)
theorem Rows.of {w : World} {b : Int} {v : Value} {xs : List (List Int)} {fs : List Nat} (h : Ow (Rp.sl 2 Rp.int) 35 true w fs b v xs) : Rows w b v xs 0 fs := by
  rcases h with ⟨h1, h2, h3, h4⟩ | ⟨g, cap, cur, cs, hb, hv, hg, h1, h2, h3, h4, h5, h6⟩
  · exact .inl ⟨h1, h2, h3, h4⟩
  refine .inr ⟨g, cap, cur, hb, hv, hg, ?_⟩
  rw [List.drop_zero, List.drop_zero]
  have : (Rp.sl 2 Rp.int).sz = 1 := rfl
  rw [this, Nat.mul_one] at h4
  rw [h4]; exact h5
theorem Rows.bnd {w : World} {b : Int} {v : Value} {xs : List (List Int)} {i : Nat} {ft : List Nat} (h : Rows w b v xs i ft) : b < w.heap.size ∧ ∀ k ∈ ft, k < w.heap.size := by
  rcases h with ⟨h1, h2, h3, h4⟩ | ⟨g, cap, cur, hb, hv, hg, hr⟩
  · exact ⟨by omega, fun k hk => by rw [h4] at hk; cases hk⟩
  exact ⟨by have := lt_size hg; omega, hr.bnd⟩
theorem Rows.chg {D : List Nat} {w w' : World} {b : Int} {v : Value} {xs : List (List Int)} {i : Nat} {ft : List Nat} (h : Rows w b v xs i ft) (c : Chg D w w') (hb : ∀ k ∈ D, (k : Int) ≠ b) (hf : ∀ k ∈ ft, k ∉ D) : Rows w' b v xs i ft := by
  have hn := h.bnd
  rcases h with h | ⟨g, cap, cur, hg, hv, hh, hr⟩
  · exact .inl h
  exact .inr ⟨g, cap, cur, hg, hv, (c.block g (lt_size hh) (fun hm => hb g hm hg.symm)).trans hh, hr.keep fun k hk => c.block k (hn.2 k hk) (hf k hk)⟩
theorem Rows.ext {w w' : World} {b : Int} {v : Value} {xs : List (List Int)} {i : Nat} {ft : List Nat} (h : Rows w b v xs i ft) (c : Ext w w') : Rows w' b v xs i ft := h.chg c (fun k hk => by cases hk) (fun k _ hk => by cases hk)
theorem Rows.at {w : World} {b : Int} {v : Value} {xs : List (List Int)} {i : Int} {ft : List Nat} {x : List Int} (h : Rows w b v xs i.toNat ft) (h0 : 0 ≤ i) (hx : xs[i.toNat]? = some x) :
    ∃ p u f ft', IdxAt 1 v i p ∧ w.cell? p = some u ∧ Ro Rp.int w f u x ∧ (Rp.sl 2 Rp.int).rep true w f [u] x ∧ ft = f ++ ft' ∧ Rows w b v xs (i.toNat + 1) ft' := by
  have hlt : i.toNat < xs.length := by rw [List.getElem?_eq_some_iff] at hx; exact hx.1
  have hxe : xs[i.toNat] = x := by rw [List.getElem?_eq_some_iff] at hx; exact hx.2
  rcases h with ⟨_, _, h3, _⟩ | ⟨g, cap, cur, hb, hv, hg, hr⟩
  · rw [h3] at hlt; cases hlt
  rw [List.drop_eq_getElem_cons hlt, hxe] at hr
  obtain ⟨f, ft', c, cs', hf, hc, hrep, hrest⟩ := hr
  have hl := (Rp.sl 2 Rp.int).len hrep
  obtain ⟨u, rfl⟩ : ∃ u, c = [u] := by
    match c, hl with
    | [u], _ => exact ⟨u, rfl⟩
  have hw := (Rp.sl 2 Rp.int).weak hrep
  obtain ⟨v', e, hro⟩ := hw
  obtain rfl : u = v' := (List.cons.inj e).1
  have hro : Ro Rp.int w f u x := hro
  have hcu : cur[i.toNat]? = some u := by
    have h1 : ((cur.toList.take xs.length).drop i.toNat)[0]? = some u := by rw [hc]; rfl
    rw [List.getElem?_drop, Nat.add_zero, List.getElem?_take, if_pos hlt] at h1
    rw [← Array.getElem?_toList]; exact h1
  refine ⟨(⟨g, 0, none⟩ : Addr).add (i.toNat * 1), u, f, ft', ⟨⟨g, 0, none⟩, xs.length, cap, hv, h0, by omega, rfl⟩, ?_, hro, hrep, hf, .inr ⟨g, cap, cur, hb, hv, hg, ?_⟩⟩
  · rw [Addr.add_lit', Nat.zero_add, Nat.mul_one]
    simp [World.cell?, hg, hcu]
  rw [← List.drop_drop, hc]; exact hrest
theorem rep_ext {α : Type} {r : Rp α} {o : Bool} {w w' : World} {f : List Nat} {cs : List Value} {x : α} (h : r.rep o w f cs x) (c : Ext w w') : r.rep o w' f cs x := r.keep h fun k hk => c.block k (r.bnd h k hk) (fun h => by cases h)
set_option maxHeartbeats 4000000 in
theorem W_impl_BestMatch {W : World} {va0_0 : Value} {fa0_0 : List Nat} {a0_0 : (List (List Int))} (ha0_0 : Ro (Rp.sl 2 Rp.int) W fa0_0 va0_0 a0_0) (hG : GT 0 W) {r : (List (List Int))} (hF : F_impl_BestMatch a0_0 = some r) :
    Calls Tryd.prog 12 [.agg #[va0_0]].toArray W (Ret fun u w' => ∃ (b_u : Int) (fs_u : List Nat), Ow (Rp.sl 2 Rp.int) 35 true w' fs_u b_u u r ∧ Zn W b_u ∧ (∀ k ∈ fs_u, W.heap.size ≤ k) ∧ (bl b_u ++ fs_u).Nodup ∧ Ext W w') := by
  refine f_enter Tryd.func12 rfl Tryd.ntmps12 rfl ?_
  intro a ha
  replace ha : Fr 69 [(0, (.agg #[va0_0]))] a := ha
  have hE : Chg [] W W := Chg.refl _ _
  unfold F_impl_BestMatch at hF
  refine wp_seq ?_; refine wp_region_lit ?_
  refine o_box ha rfl rfl rfl ?_; clear ha a; intro b1 w2 hB3 hx4 hlo5 a ha
  have q6 := Zn.one hlo5
  have q7 := Zn.upD q6 hE
  have hE8 := Ext.trans hE hx4
  refine op_g ha rfl (g_assign rfl) ?_; clear ha a; intro a ha; refine wpList_nil ?_; replace ha := ha.sub (σ' := [(1, (.pointer (some ⟨b1, 0, none⟩)))]) ⟨rfl, trivial⟩; refine e_then ?_; refine wp_seq ?_; refine wp_seq ?_; refine wp_region_lit ?_; refine op_g ha rfl (g_loadA (cs := [va0_0]) Tryd.isAgg27 Tryd.sizeOf27 rfl (by simp) hB3.all) ?_; clear ha a; intro a ha; obtain ⟨x9, hc10, hF⟩ := cal_some hF
  refine o_call ha rfl rfl Tryd.call29 (W_impl_GraphOk (ha0_0.ext hE8) hc10) ?_; clear ha a; rintro v11 w12 ⟨rfl, hx13⟩ a ha
  replace hB3 := hB3.ext hx13
  have hE14 := Ext.trans hE8 hx13
  refine op_g ha rfl (g_not rfl) ?_; clear ha a; intro a ha; refine wpList_nil ?_; replace ha := ha.sub (σ' := [(1, (.pointer (some ⟨b1, 0, none⟩))), (13, (.bool (!x9)))]) ⟨rfl, rfl, trivial⟩; refine e_then ?_; refine c_cond (¬ (x9 = true)) ha rfl (n_iff (Iff.rfl)) (fun hp15 => ?_) (fun hp15 => ?_)
  · replace hF := if_t hp15 hF
    refine wp_seq ?_; refine wp_region_lit ?_; refine op_g ha rfl (g_assign rfl) ?_; clear ha a; intro a ha; refine wpList_nil ?_; replace ha := ha.sub (σ' := [(2, (.slice none 0 0))]) ⟨rfl, trivial⟩; refine e_then ?_; refine wp_ret ?_; refine e_then_ret ?_; obtain rfl := Option.some.inj hF
    exact f_ret1 ha rfl rfl ⟨-1, [], (Ow.nil (by decide)), (.inl (by decide)), (zf_nil _), (bl_nodup _), hE14⟩
  replace hF := if_f hp15 hF; refine wp_skip ?_; refine e_then ?_; refine wp_seq ?_; refine wp_region_lit ?_; refine op_g ha rfl (g_loadA (cs := [va0_0]) Tryd.isAgg27 Tryd.sizeOf27 rfl (by simp) hB3.all) ?_; clear ha a; intro a ha; obtain ⟨x16, hc17, hF⟩ := cal_some hF
  refine o_call ha rfl rfl Tryd.call30 (W_impl_netsOf (ha0_0.ext hE14) hc17) ?_; clear ha a; rintro v18 w19 ⟨b21, h22, z23, hx20⟩ a ha
  have q25 := Nq.new hB3.fpb z23
  have q26 := Nq.madeO z23 hB3.bi
  replace hB3 := hB3.ext hx20
  have hE27 := Ext.trans hE14 hx20
  have q28 := Zn.upD z23 hE14
  refine o_lit0 (Rp.sl 2 Rp.int) ha rfl sl22 ?_; clear ha a; intro v29 w30 h31 hx32 a ha
  obtain ⟨b34, hb34⟩ : ∃ b : Int, b = w19.heap.size := ⟨_, rfl⟩; rw [← hb34] at h31
  have q35 := zn_of hb34
  have q36 := Nq.new hB3.fpb q35
  have q37 := Nq.madeO q35 hB3.bi
  have q38 := Nq.new h22.fpb q35
  have q39 := Nq.madeO q35 h22.blt
  have q40 := Zn.upD q35 hE27
  replace hB3 := hB3.ext hx32
  replace h22 := h22.ext hx32
  have hE41 := Ext.trans hE27 hx32
  (iterate 2 refine op_g ha rfl (g_assign rfl) ?_; clear ha a; intro a ha); refine wpList_nil ?_; replace ha := ha.sub (σ' := [(1, (.pointer (some ⟨b1, 0, none⟩))), (3, v18), (4, v29)]) ⟨rfl, rfl, rfl, trivial⟩; refine e_then ?_; refine wp_seq ?_; refine wp_region_lit ?_; refine op_g ha rfl (g_move rfl) ?_; clear ha a; intro a ha
  obtain ⟨fp42, hro43, hs44⟩ := h22.roF
  obtain ⟨x45, hc46, hF⟩ := cal_some hF
  refine o_call ha rfl rfl Tryd.call36 (W_impl_mostEdges hro43 (hG.ext hE41) hc46) ?_; clear ha a; rintro v47 w48 ⟨b50, h51, z52, hx49⟩ a ha
  have q54 := Nq.new hB3.fpb z52
  have q55 := Nq.madeO z52 hB3.bi
  have q56 := Nq.new h22.fpb z52
  have q57 := Nq.madeO z52 h22.blt
  have q58 := Nq.new h31.fpb z52
  have q59 := Nq.madeO z52 h31.blt
  replace hB3 := hB3.ext hx49
  replace h22 := h22.ext hx49
  replace h31 := h31.ext hx49
  have hE60 := Ext.trans hE41 hx49
  have q61 := Zn.upD z52 hE41
  refine op_g ha rfl (g_move rfl) ?_; clear ha a; intro a ha
  obtain ⟨fp62, hro63, hs64⟩ := h22.roF
  obtain ⟨x65, hc66, hF⟩ := cal_some hF
  refine o_call ha rfl rfl Tryd.call31 (W_impl_nets_all hro63 hc66) ?_; clear ha a; rintro v67 w68 ⟨rfl, hx69⟩ a ha
  replace hB3 := hB3.ext hx69
  replace h22 := h22.ext hx69
  replace h31 := h31.ext hx69
  replace h51 := h51.ext hx69
  have hE70 := Ext.trans hE60 hx69
  (iterate 2 refine op_g ha rfl (g_assign rfl) ?_; clear ha a; intro a ha); refine wpList_nil ?_; replace ha := ha.sub (σ' := [(1, (.pointer (some ⟨b1, 0, none⟩))), (4, v29), (5, v47), (6, (.int .u32 (BitVec.toNat x65 : Int)))]) ⟨rfl, rfl, rfl, rfl, trivial⟩; refine e_then ?_; refine wp_seq ?_; refine wp_seq ?_; refine wp_region_lit ?_; refine op_g ha rfl (g_loadA (cs := [va0_0]) Tryd.isAgg27 Tryd.sizeOf27 rfl (by simp) hB3.all) ?_; clear ha a; intro a ha; obtain ⟨x71, hc72, hF⟩ := cal_some hF
  refine o_call ha rfl rfl Tryd.call37 (W_impl_edgesOf (ha0_0.ext hE70) hc72) ?_; clear ha a; rintro v73 w74 ⟨b76, fs80, h77, z78, zf81, nd82, hx75⟩ a ha
  have q85 := Nq.new h31.fpb z78
  have q86 := Nq.madeF z78 zf81 h31.blt
  replace h31 := h31.ext hx75
  replace h51 := h51.ext hx75
  have hE92 := Ext.trans hE70 hx75
  have q93 := Zn.upD z78 hE70
  have q94 := zf_up zf81 hE70
  refine op_g ha rfl (g_lenO sl22.und h77 rfl) ?_; clear ha a; intro a ha; refine op_g ha rfl (g_move rfl) ?_; clear ha a; intro a ha; refine wpList_nil ?_; replace ha := ha.sub (σ' := [(4, v29), (5, v47), (6, (.int .u32 (BitVec.toNat x65 : Int))), (22, v73), (23, (.int .i64 (x71.length : Int))), (24, (.int .i64 0))]) ⟨rfl, rfl, rfl, rfl, rfl, rfl, trivial⟩; refine e_then ?_; obtain ⟨o426, ho427, hK428⟩ := bnd_some hF
  obtain ⟨n429, hn430⟩ := lp_some ho427; clear ho427
  have hR := Rows.of h77
  have hdj : ∀ k ∈ fs80, k ∉ bl b34 ++ [] := fun k hk hm => by rw [List.append_nil, mem_bl] at hm; exact q86 k (List.mem_append_right _ hk) hm
  refine c_loop (fun a w => ∃ (l423 : (List (List Int))) (fs420 : List Nat) (v424 : Value) (b425 : Int), Fr 69 [(4, v424)] a ∧ Chg [] W w ∧ Ow (Rp.sl 2 Rp.int) 35 true w fs420 b425 v424 l423 ∧ Zn W b425 ∧ (∀ k ∈ fs420, W.heap.size ≤ k) ∧ (bl b425 ++ fs420).Nodup ∧ o426 = .inl l423) (fun n a w => ∃ (l258 : (List (List Int))) (u264 : BitVec 32) (i274 : Int) (fs255 : List Nat) (v259 : Value) (b260 : Int) (ft : List Nat), Fr 69 [(4, v259), (5, v47), (6, (.int .u32 (BitVec.toNat u264 : Int))), (22, v73), (23, (.int .i64 (x71.length : Int))), (24, (.int .i64 i274))] a ∧ Chg [] W w ∧ InI i274 ∧ Ow (Rp.sl 2 Rp.int) 35 true w fs255 b260 v259 l258 ∧ Zn W b260 ∧ (∀ k ∈ fs255, W.heap.size ≤ k) ∧ (bl b260 ++ fs255).Nodup ∧ Ow Rp.int 2 true w [] b50 v47 x45 ∧ Rows w b76 v73 x71 i274.toNat ft ∧ (∀ k ∈ ft, W.heap.size ≤ k) ∧ ft.Nodup ∧ (∀ k ∈ ft, k ∉ bl b260 ++ fs255) ∧ Nq (bl b50 ++ []) b260 ∧ Nq (bl b260) b76 ∧ lpN (fun s => F_impl_BestMatch_l1 x45 x71 s.1 s.2.1 s.2.2) n (l258, u264, i274) = some o426) n429 ⟨([] : (List (List Int))), x65, 0, [], v29, b34, fs80, ha.sub ⟨rfl, rfl, rfl, rfl, rfl, rfl, trivial⟩, hE92, (show InI 0 from by decide), h31, q40, (zf_nil _), (bl_nodup b34), h51, hR, q94, nd_right nd82, hdj, q59, fun k hk => q85 k (List.mem_append_left _ hk), hn430⟩ ?_ ?_
  · rintro m434 a w251 ⟨l258, u264, i274, fs255, v259, b260, ft, ha, hE282, hI275, h253, z254, zf256, nd257, h262, h266, zft, nft, dft, q278, q279, hF⟩
    cases m434 with
    | zero => exact (lpN_zero hF).elim
    | succ m434 =>
      obtain ⟨z433, hF, hN432⟩ := lpN_succ hF
      have hF : F_impl_BestMatch_l1 x45 x71 l258 u264 i274 = some z433 := hF; unfold F_impl_BestMatch_l1 at hF
      refine wp_seq ?_; refine wp_region_lit ?_; refine op_g ha rfl (g_lss rfl rfl) ?_; clear ha a; intro a ha; refine wpList_nil ?_; replace ha := ha.sub (σ' := [(4, v259), (5, v47), (6, (.int .u32 (BitVec.toNat u264 : Int))), (22, v73), (23, (.int .i64 (x71.length : Int))), (24, (.int .i64 i274)), (25, (.bool (decide (i274 < (x71.length : Int)))))]) ⟨rfl, rfl, rfl, rfl, rfl, rfl, rfl, trivial⟩; refine e_then ?_; refine wp_seq ?_; refine c_cond (i274 < (x71.length : Int)) ha rfl (decide_eq_true_iff) (fun hp435 => ?_) (fun hp435 => ?_)
      · replace hF := if_t hp435 hF
        refine wp_skip ?_; refine e_then ?_; refine wp_seq ?_; refine wp_block ?_; refine wp_seq ?_; refine wp_region_lit ?_; obtain ⟨x436, g437, gx438, hF⟩ := idx_some hF
        obtain ⟨p439, v447, f441, ft', hi446, hat444, h448, hrT, rfl, h266'⟩ := h266.at g437 gx438
        clear h266; have h266 := h266'; clear h266'
        have hi1 : (i274 + 1).toNat = i274.toNat + 1 := by omega
        have zf441 : ∀ k ∈ f441, W.heap.size ≤ k := fun k hk => zft k (List.mem_append_left _ hk)
        have zft' : ∀ k ∈ ft', W.heap.size ≤ k := fun k hk => zft k (List.mem_append_right _ hk)
        have d441 : ∀ k ∈ f441, k ∉ bl b260 ++ fs255 := fun k hk => dft k (List.mem_append_left _ hk)
        have dft' : ∀ k ∈ ft', k ∉ bl b260 ++ fs255 := fun k hk => dft k (List.mem_append_right _ hk)
        have n441 : f441.Nodup := (List.nodup_append.1 nft).1
        have nft' : ft'.Nodup := (List.nodup_append.1 nft).2.1
        have dff : ∀ k ∈ ft', k ∉ f441 := fun k hk hm => (List.nodup_append.1 nft).2.2 k hm k hk rfl
        refine op_g ha rfl (hi446.gives sl22 rfl rfl) ?_; clear ha a; intro a ha; refine op_g ha rfl (g_load Tryd.isAgg35 rfl hat444) ?_; clear ha a; intro a ha; refine op_g ha rfl (g_assign rfl) ?_; clear ha a; intro a ha; refine wpList_nil ?_; replace ha := ha.sub (σ' := [(4, v259), (5, v47), (6, (.int .u32 (BitVec.toNat u264 : Int))), (8, v447), (22, v73), (23, (.int .i64 (x71.length : Int))), (24, (.int .i64 i274))]) ⟨rfl, rfl, rfl, rfl, rfl, rfl, rfl, trivial⟩; refine e_then ?_; refine wp_seq ?_; refine wp_region_lit ?_; refine op_g ha rfl (g_move rfl) ?_; clear ha a; intro a ha; obtain ⟨x453, hc454, hF⟩ := cal_some hF
        refine o_call ha rfl rfl Tryd.call38 (W_impl_maskOf h448 hc454) ?_; clear ha a; rintro v455 w456 ⟨rfl, hx457⟩ a ha
        replace h253 := h253.ext hx457
        replace h262 := h262.ext hx457
        replace h266 := h266.ext hx457
        replace hrT := rep_ext hrT hx457
        replace h448 := h448.ext hx457
        have hE458 := Ext.trans hE282 hx457
        refine op_g ha rfl (g_assign rfl) ?_; clear ha a; intro a ha; refine wpList_nil ?_; replace ha := ha.sub (σ' := [(4, v259), (5, v47), (6, (.int .u32 (BitVec.toNat u264 : Int))), (8, v447), (9, (.int .u32 (BitVec.toNat x453 : Int))), (22, v73), (23, (.int .i64 (x71.length : Int))), (24, (.int .i64 i274))]) ⟨rfl, rfl, rfl, rfl, rfl, rfl, rfl, rfl, trivial⟩; refine e_then ?_; refine wp_seq ?_; refine wp_region_lit ?_; (iterate 2 refine op_g ha rfl (g_move rfl) ?_; clear ha a; intro a ha); obtain ⟨x459, g460, gx461, hF⟩ := idx_some hF
        obtain ⟨p462, cs463, f464, hf465, hpb466, hat467, hr468, hi469⟩ := h448.at g460 gx461
        obtain ⟨rfl, hI470, rfl⟩ := hr468
        refine op_g ha rfl (hi469.gives sl35 rfl rfl) ?_; clear ha a; intro a ha; refine op_g ha rfl (g_load Tryd.isAgg2 rfl hat467.one) ?_; clear ha a; intro a ha; obtain ⟨hI471, hF⟩ := ck_some hF; refine op_g ha rfl (g_add rfl rfl hI471) ?_; clear ha a; intro a ha; obtain ⟨x473, hc474, hF⟩ := cal_some hF
        refine o_call ha rfl rfl Tryd.call39 (W_impl_firstOf hI471 hc474) ?_; clear ha a; rintro v475 w476 ⟨rfl, hx477⟩ a ha
        replace h253 := h253.ext hx477
        replace h262 := h262.ext hx477
        replace h266 := h266.ext hx477
        replace hrT := rep_ext hrT hx477
        replace h448 := h448.ext hx477
        have hE478 := Ext.trans hE458 hx477
        refine op_g ha rfl (g32_andNot (m := u264) (n := x473) rfl rfl) ?_; clear ha a; intro a ha; refine op_g ha rfl (g_move rfl) ?_; clear ha a; intro a ha; refine op_g ha rfl (g32_andNot (m := (u264 &&& ~~~x473)) (n := x453) rfl rfl) ?_; clear ha a; intro a ha; refine op_g ha rfl (g_assign rfl) ?_; clear ha a; intro a ha; refine wpList_nil ?_; replace ha := ha.sub (σ' := [(4, v259), (5, v47), (6, (.int .u32 (BitVec.toNat u264 : Int))), (8, v447), (9, (.int .u32 (BitVec.toNat x453 : Int))), (10, (.int .u32 (BitVec.toNat ((u264 &&& ~~~x473) &&& ~~~x453) : Int))), (22, v73), (23, (.int .i64 (x71.length : Int))), (24, (.int .i64 i274))]) ⟨rfl, rfl, rfl, rfl, rfl, rfl, rfl, rfl, rfl, trivial⟩
        refine e_then ?_; refine wp_seq ?_; refine d_quiet hmix (by kernel_rfl) ?_; (iterate 2 refine q_g ha rfl (g_move rfl) ?_; clear ha a; intro a ha); refine q_g ha rfl (g32_andNot (m := x453) (n := u264) rfl rfl) ?_; clear ha a; intro a ha; refine q_g ha rfl (g32_eql (m := (x453 &&& ~~~u264)) (n := (0#32)) rfl rfl) ?_; clear ha a; intro a ha; refine q_g ha rfl (g_move rfl) ?_; clear ha a; intro a ha
        by_cases hp479 : (x453 &&& ~~~u264) = (0#32)
        · replace hF := if_t hp479 hF
          rw [show (decide ((x453 &&& ~~~u264) = (0#32))) = true from (decide_eq_true_iff).2 hp479] at ha
          refine q_want (yields ha rfl rfl) ?_; refine q_g ha rfl (g_move rfl) ?_; clear ha a; intro a ha; refine q_want (yields ha rfl rfl) ?_; refine q_g ha rfl (g_move rfl) ?_; clear ha a; intro a ha; refine q_want (yields ha rfl rfl) ?_; obtain ⟨x480, g481, gx482, hF⟩ := idx_some hF
          obtain ⟨p483, cs484, f485, hf486, hpb487, hat488, hr489, hi490⟩ := h262.at g481 gx482
          obtain ⟨rfl, hI491, rfl⟩ := hr489
          refine q_g ha rfl (hi490.gives sl35 rfl rfl) ?_; clear ha a; intro a ha; refine q_want (yields ha rfl rfl) ?_; refine q_g ha rfl (g_load Tryd.isAgg2 rfl hat488.one) ?_; clear ha a; intro a ha; refine q_want (yields ha rfl rfl) ?_; refine q_g ha rfl (g_gtr rfl rfl) ?_; clear ha a; intro a ha; refine q_g ha rfl (g_pick rfl rfl) ?_; clear ha a; intro a ha; refine q_g ha rfl (g_move rfl) ?_; clear ha a; intro a ha
          by_cases hp492 : 0 < x480
          · replace hF := if_t hp492 hF
            rw [show (decide (0 < x480)) = true from (decide_eq_true_iff).2 hp492] at ha
            refine q_want (yields ha rfl rfl) ?_; refine q_g ha rfl (g_move rfl) ?_; clear ha a; intro a ha; refine q_want (yields ha rfl rfl) ?_; refine q_g ha rfl (g_move rfl) ?_; clear ha a; intro a ha; refine q_want (yields ha rfl rfl) ?_; obtain ⟨x493, g494, gx495, hF⟩ := idx_some hF
            obtain ⟨p496, cs497, f498, hf499, hpb500, hat501, hr502, hi503⟩ := h262.at g494 gx495
            obtain ⟨rfl, hI504, rfl⟩ := hr502
            refine q_g ha rfl (hi503.gives sl35 rfl rfl) ?_; clear ha a; intro a ha; refine q_want (yields ha rfl rfl) ?_; refine q_g ha rfl (g_load Tryd.isAgg2 rfl hat501.one) ?_; clear ha a; intro a ha; refine q_want (yields ha rfl rfl) ?_; obtain ⟨hI505, hF⟩ := ck_some hF; refine q_g ha rfl (g_add rfl rfl hI505) ?_; clear ha a; intro a ha; refine q_want (yields ha rfl rfl) ?_; refine q_g ha rfl (g_move rfl) ?_; clear ha a; intro a ha; refine q_want (yields ha rfl rfl) ?_; refine q_g ha rfl (g_move rfl) ?_; clear ha a; intro a ha; refine q_want (yields ha rfl rfl) ?_; obtain ⟨x507, g508, gx509, hF⟩ := idx_some hF
            obtain ⟨p510, cs511, f512, hf513, hpb514, hat515, hr516, hi517⟩ := h262.at g508 gx509
            obtain ⟨rfl, hI518, rfl⟩ := hr516
            refine q_g ha rfl (hi517.gives sl35 rfl rfl) ?_; clear ha a; intro a ha; refine q_want (yields ha rfl rfl) ?_; refine q_g ha rfl (g_load Tryd.isAgg2 rfl hat515.one) ?_; clear ha a; intro a ha; refine q_want (yields ha rfl rfl) ?_; refine q_g ha rfl (g_eql rfl rfl) ?_; clear ha a; intro a ha; refine q_g ha rfl (g_pick rfl rfl) ?_; clear ha a; intro a ha
            refine q_nil ?_; intro w519 hx520
            replace h253 := h253.ext hx520
            replace h262 := h262.ext hx520
            replace h266 := h266.ext hx520
            replace hrT := rep_ext hrT hx520
            replace h448 := h448.ext hx520
            have hE521 := Ext.trans hE478 hx520
            replace ha := ha.sub (σ' := [(4, v259), (5, v47), (6, (.int .u32 (BitVec.toNat u264 : Int))), (8, v447), (10, (.int .u32 (BitVec.toNat ((u264 &&& ~~~x473) &&& ~~~x453) : Int))), (22, v73), (23, (.int .i64 (x71.length : Int))), (24, (.int .i64 i274)), (44, v47), (45, (.int .u32 (BitVec.toNat u264 : Int))), (46, (.pointer (some p483))), (47, (.int .i64 x480)), (48, (.bool true)), (51, v47), (52, (.int .u32 (BitVec.toNat ((u264 &&& ~~~x473) &&& ~~~x453) : Int))), (53, (.pointer (some p496))), (54, (.int .i64 x493)), (55, (.int .i64 (x493 + 1))), (56, v47), (57, (.int .u32 (BitVec.toNat u264 : Int))), (58, (.pointer (some p510))), (59, (.int .i64 x507)), (60, (.bool (decide ((x493 + 1) = x507)))), (61, (.bool (decide ((x493 + 1) = x507))))]) ⟨rfl, rfl, rfl, rfl, rfl, rfl, rfl, rfl, rfl, rfl, rfl, rfl, rfl, rfl, rfl, rfl, rfl, rfl, rfl, rfl, rfl, rfl, rfl, rfl, trivial⟩
            refine e_then ?_; refine c_cond ((x493 + 1) = x507) ha rfl (decide_eq_true_iff) (fun hp522 => ?_) (fun hp522 => ?_)
            · replace hF := if_t hp522 hF
              refine wp_seq ?_; refine wp_region_lit ?_; (iterate 2 refine op_g ha rfl (g_move rfl) ?_; clear ha a; intro a ha)
              refine o_lit1 (o := true) (y := x436) (Rp.sl 2 Rp.int) ha rfl sl22 rfl rfl h448.cells hrT ?_; clear ha a; intro v807 w808 h809 hx810 a ha
              replace h253 := h253.ext hx810
              replace h262 := h262.ext hx810
              replace h266 := h266.ext hx810
              have hE820 := Ext.trans hE521 hx810
              obtain ⟨hl821, hF⟩ := app_some hF
              have q822 : ∀ k ∈ f441, (k : Int) ≠ b260 := fun k hk e => d441 k hk (List.mem_append_left _ (mem_bl.2 e))
              refine o_append ha rfl sl22 rfl rfl rfl h253 h809.src q822 hl821 ?_; clear ha a; intro v823 w824 b825 h826 hc827 hb828 a ha
              replace h826 : Ow (Rp.sl 2 Rp.int) 35 true w824 (fs255 ++ f441) b825 v823 (l258 ++ [x436]) := h826
              have q830 := zf_app zf256 zf441
              have q831 := nd_app nd257 n441 d441 hb828 h253.fpb h809.bnd
              have q832 := Zn.appD z254 hb828 hE820
              have q833 := Nq.appY q278 h262.fpb hb828
              have hE833 := Ext.then hE820 hc827 (Zn.bl z254)
              have hb76 := h266.bnd
              have q834 : Nq (bl b825) b76 := fun k hk => by
                rw [mem_bl] at hk
                rcases hb828 with e | e
                · exact q279 k (mem_bl.2 (hk.trans e))
                have := hb76.1; omega
              have q835 : ∀ k ∈ ft', k ∉ bl b825 ++ (fs255 ++ f441) := fun k hk hm => by
                rcases List.mem_append.1 hm with hm | hm
                · rw [mem_bl] at hm
                  rcases hb828 with e | e
                  · exact dft' k hk (List.mem_append_left _ (mem_bl.2 (hm.trans e)))
                  have := hb76.2 k hk; omega
                rcases List.mem_append.1 hm with hm | hm
                · exact dft' k hk (List.mem_append_right _ hm)
                exact dff k hk hm
              replace h262 := h262.nq hc827 q278
              replace h266 := h266.chg hc827 q279 (fun k hk hm => dft' k hk (List.mem_append_left _ hm)); refine op_g ha rfl (g_assign rfl) ?_; clear ha a; intro a ha; refine wpList_nil ?_; replace ha := ha.sub (σ' := [(4, v823), (5, v47), (10, (.int .u32 (BitVec.toNat ((u264 &&& ~~~x473) &&& ~~~x453) : Int))), (22, v73), (23, (.int .i64 (x71.length : Int))), (24, (.int .i64 i274)), (44, v47), (45, (.int .u32 (BitVec.toNat u264 : Int))), (46, (.pointer (some p483))), (47, (.int .i64 x480)), (48, (.bool true)), (51, v47), (52, (.int .u32 (BitVec.toNat ((u264 &&& ~~~x473) &&& ~~~x453) : Int))), (53, (.pointer (some p496))), (54, (.int .i64 x493)), (55, (.int .i64 (x493 + 1))), (56, v47), (57, (.int .u32 (BitVec.toNat u264 : Int))), (58, (.pointer (some p510))), (59, (.int .i64 x507)), (60, (.bool (decide ((x493 + 1) = x507))))]) ⟨rfl, rfl, rfl, rfl, rfl, rfl, rfl, rfl, rfl, rfl, rfl, rfl, rfl, rfl, rfl, rfl, rfl, rfl, rfl, rfl, rfl, trivial⟩
              refine e_then ?_; refine wp_region_lit ?_; refine op_g ha rfl (g_move rfl) ?_; clear ha a; intro a ha; refine op_g ha rfl (g_assign rfl) ?_; clear ha a; intro a ha; refine wpList_nil ?_; replace ha := ha.sub (σ' := [(4, v823), (5, v47), (6, (.int .u32 (BitVec.toNat ((u264 &&& ~~~x473) &&& ~~~x453) : Int))), (22, v73), (23, (.int .i64 (x71.length : Int))), (24, (.int .i64 i274)), (44, v47), (45, (.int .u32 (BitVec.toNat u264 : Int))), (46, (.pointer (some p483))), (47, (.int .i64 x480)), (48, (.bool true)), (51, v47), (52, (.int .u32 (BitVec.toNat ((u264 &&& ~~~x473) &&& ~~~x453) : Int))), (53, (.pointer (some p496))), (54, (.int .i64 x493)), (55, (.int .i64 (x493 + 1))), (56, v47), (57, (.int .u32 (BitVec.toNat u264 : Int))), (58, (.pointer (some p510))), (59, (.int .i64 x507)), (60, (.bool (decide ((x493 + 1) = x507))))]) ⟨rfl, rfl, rfl, rfl, rfl, rfl, rfl, rfl, rfl, rfl, rfl, rfl, rfl, rfl, rfl, rfl, rfl, rfl, rfl, rfl, rfl, trivial⟩
              refine e_blk ?_; refine e_then ?_; refine wp_region_lit ?_; obtain ⟨hI523, hF⟩ := ck_some hF; refine op_g ha rfl (g_add rfl rfl hI523) ?_; clear ha a; intro a ha; refine op_g ha rfl (g_move rfl) ?_; clear ha a; intro a ha; refine wpList_nil ?_; replace ha := ha.sub (σ' := [(4, v823), (5, v47), (6, (.int .u32 (BitVec.toNat ((u264 &&& ~~~x473) &&& ~~~x453) : Int))), (22, v73), (23, (.int .i64 (x71.length : Int))), (24, (.int .i64 (i274 + 1))), (44, v47), (45, (.int .u32 (BitVec.toNat u264 : Int))), (46, (.pointer (some p483))), (47, (.int .i64 x480)), (48, (.bool true)), (51, v47), (52, (.int .u32 (BitVec.toNat ((u264 &&& ~~~x473) &&& ~~~x453) : Int))), (53, (.pointer (some p496))), (54, (.int .i64 x493)), (55, (.int .i64 (x493 + 1))), (56, v47), (57, (.int .u32 (BitVec.toNat u264 : Int))), (58, (.pointer (some p510))), (59, (.int .i64 x507)), (60, (.bool (decide ((x493 + 1) = x507))))]) ⟨rfl, rfl, rfl, rfl, rfl, rfl, rfl, rfl, rfl, rfl, rfl, rfl, rfl, rfl, rfl, rfl, rfl, rfl, rfl, rfl, rfl, trivial⟩
              refine e_lq ?_; obtain rfl := Option.some.inj hF
              exact ⟨_, Nat.lt_succ_self _, l258 ++ [x436], (u264 &&& ~~~x473) &&& ~~~x453, i274 + 1, fs255 ++ f441, v823, b825, ft', ha.sub ⟨rfl, rfl, rfl, rfl, rfl, rfl, trivial⟩, hE833, hI523, h826, q832, q830, q831, h262, (by rw [hi1]; exact h266), zft', nft', q835, q833, q834, hN432⟩
            replace hF := if_f hp522 hF; refine wp_skip ?_; refine e_blk ?_; refine e_then ?_; refine wp_region_lit ?_; obtain ⟨hI525, hF⟩ := ck_some hF; refine op_g ha rfl (g_add rfl rfl hI525) ?_; clear ha a; intro a ha; refine op_g ha rfl (g_move rfl) ?_; clear ha a; intro a ha; refine wpList_nil ?_; replace ha := ha.sub (σ' := [(4, v259), (5, v47), (6, (.int .u32 (BitVec.toNat u264 : Int))), (22, v73), (23, (.int .i64 (x71.length : Int))), (24, (.int .i64 (i274 + 1))), (44, v47), (45, (.int .u32 (BitVec.toNat u264 : Int))), (46, (.pointer (some p483))), (47, (.int .i64 x480)), (48, (.bool true)), (51, v47), (52, (.int .u32 (BitVec.toNat ((u264 &&& ~~~x473) &&& ~~~x453) : Int))), (53, (.pointer (some p496))), (54, (.int .i64 x493)), (55, (.int .i64 (x493 + 1))), (56, v47), (57, (.int .u32 (BitVec.toNat u264 : Int))), (58, (.pointer (some p510))), (59, (.int .i64 x507)), (60, (.bool (decide ((x493 + 1) = x507))))]) ⟨rfl, rfl, rfl, rfl, rfl, rfl, rfl, rfl, rfl, rfl, rfl, rfl, rfl, rfl, rfl, rfl, rfl, rfl, rfl, rfl, rfl, trivial⟩
            refine e_lq ?_; obtain rfl := Option.some.inj hF
            exact ⟨_, Nat.lt_succ_self _, l258, u264, i274 + 1, fs255, v259, b260, ft', ha.sub ⟨rfl, rfl, rfl, rfl, rfl, rfl, trivial⟩, hE521, hI525, h253, z254, zf256, nd257, h262, (by rw [hi1]; exact h266), zft', nft', dft', q278, q279, hN432⟩
          replace hF := if_f hp492 hF
          rw [show (decide (0 < x480)) = false from b_false (decide_eq_true_iff) hp492] at ha
          (iterate 10 refine q_unwant ha rfl (yields ha rfl rfl) rfl ?_; clear ha a; intro a ha); refine q_g ha rfl (g_pick rfl rfl) ?_; clear ha a; intro a ha
          refine q_nil ?_; intro w527 hx528
          replace h253 := h253.ext hx528
          replace h262 := h262.ext hx528
          replace h266 := h266.ext hx528
          replace hrT := rep_ext hrT hx528
          replace h448 := h448.ext hx528
          have hE529 := Ext.trans hE478 hx528
          replace ha := ha.sub (σ' := [(4, v259), (5, v47), (6, (.int .u32 (BitVec.toNat u264 : Int))), (8, v447), (10, (.int .u32 (BitVec.toNat ((u264 &&& ~~~x473) &&& ~~~x453) : Int))), (22, v73), (23, (.int .i64 (x71.length : Int))), (24, (.int .i64 i274)), (44, v47), (45, (.int .u32 (BitVec.toNat u264 : Int))), (46, (.pointer (some p483))), (47, (.int .i64 x480)), (48, (.bool false)), (61, (.bool false))]) ⟨rfl, rfl, rfl, rfl, rfl, rfl, rfl, rfl, rfl, rfl, rfl, rfl, rfl, rfl, trivial⟩; refine e_then ?_; refine c_false ha rfl ?_; refine wp_skip ?_; refine e_blk ?_; refine e_then ?_; refine wp_region_lit ?_
          obtain ⟨hI530, hF⟩ := ck_some hF; refine op_g ha rfl (g_add rfl rfl hI530) ?_; clear ha a; intro a ha; refine op_g ha rfl (g_move rfl) ?_; clear ha a; intro a ha; refine wpList_nil ?_; replace ha := ha.sub (σ' := [(4, v259), (5, v47), (6, (.int .u32 (BitVec.toNat u264 : Int))), (22, v73), (23, (.int .i64 (x71.length : Int))), (24, (.int .i64 (i274 + 1))), (44, v47), (45, (.int .u32 (BitVec.toNat u264 : Int))), (46, (.pointer (some p483))), (47, (.int .i64 x480)), (48, (.bool false))]) ⟨rfl, rfl, rfl, rfl, rfl, rfl, rfl, rfl, rfl, rfl, rfl, trivial⟩; refine e_lq ?_; obtain rfl := Option.some.inj hF
          exact ⟨_, Nat.lt_succ_self _, l258, u264, i274 + 1, fs255, v259, b260, ft', ha.sub ⟨rfl, rfl, rfl, rfl, rfl, rfl, trivial⟩, hE529, hI530, h253, z254, zf256, nd257, h262, (by rw [hi1]; exact h266), zft', nft', dft', q278, q279, hN432⟩
        replace hF := if_f hp479 hF
        rw [show (decide ((x453 &&& ~~~u264) = (0#32))) = false from b_false (decide_eq_true_iff) hp479] at ha
        (iterate 5 refine q_unwant ha rfl (yields ha rfl rfl) rfl ?_; clear ha a; intro a ha); refine q_g ha rfl (g_pick rfl rfl) ?_; clear ha a; intro a ha; refine q_g ha rfl (g_move rfl) ?_; clear ha a; intro a ha; (iterate 10 refine q_unwant ha rfl (yields ha rfl rfl) rfl ?_; clear ha a; intro a ha); refine q_g ha rfl (g_pick rfl rfl) ?_; clear ha a; intro a ha
        refine q_nil ?_; intro w532 hx533
        replace h253 := h253.ext hx533
        replace h262 := h262.ext hx533
        replace h266 := h266.ext hx533
        replace hrT := rep_ext hrT hx533
        replace h448 := h448.ext hx533
        have hE534 := Ext.trans hE478 hx533
        replace ha := ha.sub (σ' := [(4, v259), (5, v47), (6, (.int .u32 (BitVec.toNat u264 : Int))), (8, v447), (10, (.int .u32 (BitVec.toNat ((u264 &&& ~~~x473) &&& ~~~x453) : Int))), (22, v73), (23, (.int .i64 (x71.length : Int))), (24, (.int .i64 i274)), (61, (.bool false))]) ⟨rfl, rfl, rfl, rfl, rfl, rfl, rfl, rfl, rfl, trivial⟩; refine e_then ?_; refine c_false ha rfl ?_; refine wp_skip ?_; refine e_blk ?_; refine e_then ?_; refine wp_region_lit ?_; obtain ⟨hI535, hF⟩ := ck_some hF; refine op_g ha rfl (g_add rfl rfl hI535) ?_; clear ha a; intro a ha; refine op_g ha rfl (g_move rfl) ?_; clear ha a; intro a ha
        refine wpList_nil ?_; replace ha := ha.sub (σ' := [(4, v259), (5, v47), (6, (.int .u32 (BitVec.toNat u264 : Int))), (22, v73), (23, (.int .i64 (x71.length : Int))), (24, (.int .i64 (i274 + 1)))]) ⟨rfl, rfl, rfl, rfl, rfl, rfl, trivial⟩; refine e_lq ?_; obtain rfl := Option.some.inj hF
        exact ⟨_, Nat.lt_succ_self _, l258, u264, i274 + 1, fs255, v259, b260, ft', ha.sub ⟨rfl, rfl, rfl, rfl, rfl, rfl, trivial⟩, hE534, hI535, h253, z254, zf256, nd257, h262, (by rw [hi1]; exact h266), zft', nft', dft', q278, q279, hN432⟩
      replace hF := if_f hp435 hF; refine wp_exit ?_; refine e_then_exit ?_; refine e_lq_eq ?_; obtain rfl := Option.some.inj hF
      exact ⟨l258, fs255, v259, b260, ha.sub ⟨rfl, trivial⟩, hE282, h253, z254, zf256, nd257, (LK_inr hN432).symm⟩
  rintro a w416 ⟨l423, fs420, v424, b425, ha, hE431, h418, z419, zf421, nd422, rfl⟩
  have hF : F_impl_BestMatch_k2 l423 = some _ := hK428; clear hK428; unfold F_impl_BestMatch_k2 at hF
  refine e_then ?_; refine wp_seq ?_; refine wp_region_lit ?_; refine op_g ha rfl (g_move rfl) ?_; clear ha a; intro a ha; refine op_g ha rfl (g_assign rfl) ?_; clear ha a; intro a ha; refine wpList_nil ?_; replace ha := ha.sub (σ' := [(2, v424)]) ⟨rfl, trivial⟩; refine e_then ?_; refine wp_ret ?_; obtain rfl := Option.some.inj hF
  exact f_ret1 ha rfl rfl ⟨_, _, h418, z419, zf421, nd422, hE431⟩

set_option maxHeartbeats 2000000 in
theorem W_laws_eqInt64S {W : World} {va0 : Value} {fa0 : List Nat} {a0 : (List Int)} (ha0 : Ro Rp.int W fa0 va0 a0) {va1 : Value} {fa1 : List Nat} {a1 : (List Int)} (ha1 : Ro Rp.int W fa1 va1 a1) {r : Bool} (hF : F_laws_eqInt64S a0 a1 = some r) :
    Calls Tryd.prog 19 [va0, va1].toArray W (Ret fun u w' => u = .bool r ∧ Ext W w') := by
  refine f_enter Tryd.func19 rfl Tryd.ntmps19 rfl ?_
  intro a ha
  replace ha : Fr 26 [(0, va0), (1, va1)] a := ha
  have hE : Chg [] W W := Chg.refl _ _
  unfold F_laws_eqInt64S at hF
  refine wp_seq ?_; refine wp_region_lit ?_; refine op_g ha rfl (g_assign rfl) ?_; clear ha a; intro a ha; refine wpList_nil ?_; replace ha := ha.sub (σ' := [(0, va0), (1, va1)]) ⟨rfl, rfl, trivial⟩; refine e_then ?_; refine wp_seq ?_; refine wp_seq ?_; refine wp_region_lit ?_; refine op_g ha rfl (g_move rfl) ?_; clear ha a; intro a ha; refine op_g ha rfl (g_lenR sl35.und ha0 rfl) ?_; clear ha a; intro a ha; refine op_g ha rfl (g_move rfl) ?_; clear ha a; intro a ha; refine op_g ha rfl (g_lenR sl35.und ha1 rfl) ?_; clear ha a; intro a ha; refine op_g ha rfl (g_neq rfl rfl) ?_; clear ha a; intro a ha
  refine wpList_nil ?_; replace ha := ha.sub (σ' := [(0, va0), (1, va1), (10, (.bool (decide ((a0.length : Int) ≠ (a1.length : Int)))))]) ⟨rfl, rfl, rfl, trivial⟩; refine e_then ?_; refine c_cond ((a0.length : Int) ≠ (a1.length : Int)) ha rfl (decide_eq_true_iff) (fun hp1 => ?_) (fun hp1 => ?_)
  · replace hF := if_t hp1 hF
    refine wp_seq ?_; refine wp_region_lit ?_; refine op_g ha rfl (g_assign rfl) ?_; clear ha a; intro a ha; refine wpList_nil ?_; replace ha := ha.sub (σ' := [(4, (.bool false))]) ⟨rfl, trivial⟩; refine e_then ?_; refine wp_ret ?_; refine e_then_ret ?_; obtain rfl := Option.some.inj hF
    exact f_ret1 ha rfl rfl ⟨rfl, hE⟩
  replace hF := if_f hp1 hF; refine wp_skip ?_; refine e_then ?_; refine wp_seq ?_; refine wp_seq ?_; refine wp_region_lit ?_; refine op_g ha rfl (g_assign rfl) ?_; clear ha a; intro a ha; refine wpList_nil ?_; replace ha := ha.sub (σ' := [(0, va0), (1, va1), (5, (.int .i64 0))]) ⟨rfl, rfl, rfl, trivial⟩; refine e_then ?_; obtain ⟨o77, ho78, hK79⟩ := bnd_some hF
  obtain ⟨n80, hn81⟩ := lp_some ho78; clear ho78
  refine c_loop (fun a w => Fr 26 [] a ∧ Chg [] W w ∧ o77 = .inl ()) (fun n a w => ∃ (i39 : Int), Fr 26 [(0, va0), (1, va1), (5, (.int .i64 i39))] a ∧ Chg [] W w ∧ InI i39 ∧ lpN (fun s => F_laws_eqInt64S_l1 a0 a1 s) n i39 = some o77) n80 ⟨0, ha.sub ⟨rfl, rfl, rfl, trivial⟩, hE, (show InI 0 from by decide), hn81⟩ ?_ ?_
  · rintro m85 a w38 ⟨i39, ha, hE41, hI40, hF⟩
    cases m85 with
    | zero => exact (lpN_zero hF).elim
    | succ m85 =>
      obtain ⟨z84, hF, hN83⟩ := lpN_succ hF
      have hF : F_laws_eqInt64S_l1 a0 a1 i39 = some z84 := hF; unfold F_laws_eqInt64S_l1 at hF
      refine wp_seq ?_; refine wp_seq ?_; refine wp_region_lit ?_; (iterate 2 refine op_g ha rfl (g_move rfl) ?_; clear ha a; intro a ha); refine op_g ha rfl (g_lenR sl35.und ha0 rfl) ?_; clear ha a; intro a ha; refine op_g ha rfl (g_lss rfl rfl) ?_; clear ha a; intro a ha; refine wpList_nil ?_; replace ha := ha.sub (σ' := [(0, va0), (1, va1), (5, (.int .i64 i39)), (14, (.bool (decide (i39 < (a0.length : Int)))))]) ⟨rfl, rfl, rfl, rfl, trivial⟩; refine e_then ?_; refine c_cond (i39 < (a0.length : Int)) ha rfl (decide_eq_true_iff) (fun hp86 => ?_) (fun hp86 => ?_)
      · replace hF := if_t hp86 hF
        refine wp_skip ?_; refine e_then ?_; refine wp_seq ?_; refine wp_block ?_; refine wp_seq ?_; refine d_quiet hmix (by kernel_rfl) ?_; (iterate 2 refine q_g ha rfl (g_move rfl) ?_; clear ha a; intro a ha); obtain ⟨x87, g88, gx89, hF⟩ := idx_some hF
        obtain ⟨p90, cs91, f92, hf93, hpb94, hat95, hr96, hi97⟩ := ha0.at g88 gx89
        obtain ⟨rfl, hI98, rfl⟩ := hr96
        refine q_g ha rfl (hi97.gives sl35 rfl rfl) ?_; clear ha a; intro a ha; refine q_g ha rfl (g_load0 hE41 Tryd.isAgg2 rfl hat95.one) ?_; clear ha a; intro a ha; (iterate 2 refine q_g ha rfl (g_move rfl) ?_; clear ha a; intro a ha); obtain ⟨x99, g100, gx101, hF⟩ := idx_some hF
        obtain ⟨p102, cs103, f104, hf105, hpb106, hat107, hr108, hi109⟩ := ha1.at g100 gx101
        obtain ⟨rfl, hI110, rfl⟩ := hr108
        refine q_g ha rfl (hi109.gives sl35 rfl rfl) ?_; clear ha a; intro a ha; refine q_g ha rfl (g_load0 hE41 Tryd.isAgg2 rfl hat107.one) ?_; clear ha a; intro a ha; refine q_g ha rfl (g_neq rfl rfl) ?_; clear ha a; intro a ha
        refine q_nil ?_; intro w111 hx112
        have hE113 := Ext.trans hE41 hx112
        replace ha := ha.sub (σ' := [(0, va0), (1, va1), (5, (.int .i64 i39)), (25, (.bool (decide (x87 ≠ x99))))]) ⟨rfl, rfl, rfl, rfl, trivial⟩; refine e_then ?_; refine c_cond (x87 ≠ x99) ha rfl (decide_eq_true_iff) (fun hp114 => ?_) (fun hp114 => ?_)
        · replace hF := if_t hp114 hF
          refine wp_seq ?_; refine wp_region_lit ?_; refine op_g ha rfl (g_assign rfl) ?_; clear ha a; intro a ha; refine wpList_nil ?_; replace ha := ha.sub (σ' := [(4, (.bool false))]) ⟨rfl, trivial⟩; refine e_then ?_; refine wp_ret ?_; refine e_blk_ret ?_; refine e_then_ret ?_; refine e_lq_ret ?_; refine e_then_ret ?_; obtain rfl := Option.some.inj hF
          have e115 := LK_inr hN83; subst e115
          have e116 := BK_inr hK79; subst e116
          exact f_ret1 ha rfl rfl ⟨rfl, hE113⟩
        replace hF := if_f hp114 hF; refine wp_skip ?_; refine e_blk ?_; refine e_then ?_; refine wp_region_lit ?_; refine op_g ha rfl (g_move rfl) ?_; clear ha a; intro a ha; obtain ⟨hI117, hF⟩ := ck_some hF; refine op_g ha rfl (g_add rfl rfl hI117) ?_; clear ha a; intro a ha; refine op_g ha rfl (g_assign rfl) ?_; clear ha a; intro a ha; refine wpList_nil ?_; replace ha := ha.sub (σ' := [(0, va0), (1, va1), (5, (.int .i64 (i39 + 1)))]) ⟨rfl, rfl, rfl, trivial⟩; refine e_lq ?_; obtain rfl := Option.some.inj hF
        exact ⟨_, Nat.lt_succ_self _, i39 + 1, ha.sub ⟨rfl, rfl, rfl, trivial⟩, hE113, hI117, hN83⟩
      replace hF := if_f hp86 hF; refine wp_exit ?_; refine e_then_exit ?_; refine e_lq_eq ?_; obtain rfl := Option.some.inj hF
      exact ⟨ha.sub trivial, hE41, (LK_inr hN83).symm⟩
  rintro a w76 ⟨ha, hE82, rfl⟩
  have hF : F_laws_eqInt64S_k2 = some _ := hK79; clear hK79; unfold F_laws_eqInt64S_k2 at hF
  refine e_then ?_; refine wp_seq ?_; refine wp_region_lit ?_; refine op_g ha rfl (g_assign rfl) ?_; clear ha a; intro a ha; refine wpList_nil ?_; refine e_then ?_; refine wp_ret ?_; obtain rfl := Option.some.inj hF
  exact f_ret1 ha rfl rfl ⟨rfl, hE82⟩
set_option maxHeartbeats 2000000 in
theorem W_laws_eqInt64SS {W : World} {va0 : Value} {fa0 : List Nat} {a0 : (List (List Int))} (ha0 : Ro (Rp.sl 2 Rp.int) W fa0 va0 a0) {va1 : Value} {fa1 : List Nat} {a1 : (List (List Int))} (ha1 : Ro (Rp.sl 2 Rp.int) W fa1 va1 a1) {r : Bool} (hF : F_laws_eqInt64SS a0 a1 = some r) :
    Calls Tryd.prog 13 [va0, va1].toArray W (Ret fun u w' => u = .bool r ∧ Ext W w') := by
  refine f_enter Tryd.func13 rfl Tryd.ntmps13 rfl ?_
  intro a ha
  replace ha : Fr 27 [(0, va0), (1, va1)] a := ha
  have hE : Chg [] W W := Chg.refl _ _
  unfold F_laws_eqInt64SS at hF
  refine wp_seq ?_; refine wp_region_lit ?_; refine op_g ha rfl (g_assign rfl) ?_; clear ha a; intro a ha; refine wpList_nil ?_; replace ha := ha.sub (σ' := [(0, va0), (1, va1)]) ⟨rfl, rfl, trivial⟩; refine e_then ?_; refine wp_seq ?_; refine wp_seq ?_; refine wp_region_lit ?_; refine op_g ha rfl (g_move rfl) ?_; clear ha a; intro a ha; refine op_g ha rfl (g_lenR sl22.und ha0 rfl) ?_; clear ha a; intro a ha; refine op_g ha rfl (g_move rfl) ?_; clear ha a; intro a ha; refine op_g ha rfl (g_lenR sl22.und ha1 rfl) ?_; clear ha a; intro a ha; refine op_g ha rfl (g_neq rfl rfl) ?_; clear ha a; intro a ha
  refine wpList_nil ?_; replace ha := ha.sub (σ' := [(0, va0), (1, va1), (10, (.bool (decide ((a0.length : Int) ≠ (a1.length : Int)))))]) ⟨rfl, rfl, rfl, trivial⟩; refine e_then ?_; refine c_cond ((a0.length : Int) ≠ (a1.length : Int)) ha rfl (decide_eq_true_iff) (fun hp1 => ?_) (fun hp1 => ?_)
  · replace hF := if_t hp1 hF
    refine wp_seq ?_; refine wp_region_lit ?_; refine op_g ha rfl (g_assign rfl) ?_; clear ha a; intro a ha; refine wpList_nil ?_; replace ha := ha.sub (σ' := [(4, (.bool false))]) ⟨rfl, trivial⟩; refine e_then ?_; refine wp_ret ?_; refine e_then_ret ?_; obtain rfl := Option.some.inj hF
    exact f_ret1 ha rfl rfl ⟨rfl, hE⟩
  replace hF := if_f hp1 hF; refine wp_skip ?_; refine e_then ?_; refine wp_seq ?_; refine wp_seq ?_; refine wp_region_lit ?_; refine op_g ha rfl (g_assign rfl) ?_; clear ha a; intro a ha; refine wpList_nil ?_; replace ha := ha.sub (σ' := [(0, va0), (1, va1), (5, (.int .i64 0))]) ⟨rfl, rfl, rfl, trivial⟩; refine e_then ?_; obtain ⟨o93, ho94, hK95⟩ := bnd_some hF
  obtain ⟨n96, hn97⟩ := lp_some ho94; clear ho94
  refine c_loop (fun a w => Fr 27 [] a ∧ Chg [] W w ∧ o93 = .inl ()) (fun n a w => ∃ (i47 : Int), Fr 27 [(0, va0), (1, va1), (5, (.int .i64 i47))] a ∧ Chg [] W w ∧ InI i47 ∧ lpN (fun s => F_laws_eqInt64SS_l1 a0 a1 s) n i47 = some o93) n96 ⟨0, ha.sub ⟨rfl, rfl, rfl, trivial⟩, hE, (show InI 0 from by decide), hn97⟩ ?_ ?_
  · rintro m101 a w46 ⟨i47, ha, hE49, hI48, hF⟩
    cases m101 with
    | zero => exact (lpN_zero hF).elim
    | succ m101 =>
      obtain ⟨z100, hF, hN99⟩ := lpN_succ hF
      have hF : F_laws_eqInt64SS_l1 a0 a1 i47 = some z100 := hF; unfold F_laws_eqInt64SS_l1 at hF
      refine wp_seq ?_; refine wp_seq ?_; refine wp_region_lit ?_; (iterate 2 refine op_g ha rfl (g_move rfl) ?_; clear ha a; intro a ha); refine op_g ha rfl (g_lenR sl22.und ha0 rfl) ?_; clear ha a; intro a ha; refine op_g ha rfl (g_lss rfl rfl) ?_; clear ha a; intro a ha; refine wpList_nil ?_; replace ha := ha.sub (σ' := [(0, va0), (1, va1), (5, (.int .i64 i47)), (14, (.bool (decide (i47 < (a0.length : Int)))))]) ⟨rfl, rfl, rfl, rfl, trivial⟩; refine e_then ?_; refine c_cond (i47 < (a0.length : Int)) ha rfl (decide_eq_true_iff) (fun hp102 => ?_) (fun hp102 => ?_)
      · replace hF := if_t hp102 hF
        refine wp_skip ?_; refine e_then ?_; refine wp_seq ?_; refine wp_block ?_; refine wp_seq ?_; refine d_quiet hmix (by kernel_rfl) ?_; (iterate 2 refine q_g ha rfl (g_move rfl) ?_; clear ha a; intro a ha); obtain ⟨x103, g104, gx105, hF⟩ := idx_some hF
        obtain ⟨p106, cs107, f108, hf109, hpb110, hat111, hr112, hi113⟩ := ha0.at g104 gx105
        obtain ⟨v114, rfl, h115⟩ := hr112
        have h115 : Ro Rp.int W f108 v114 x103 := h115
        refine q_g ha rfl (hi113.gives sl22 rfl rfl) ?_; clear ha a; intro a ha; refine q_g ha rfl (g_load0 hE49 Tryd.isAgg35 rfl hat111.one) ?_; clear ha a; intro a ha; (iterate 2 refine q_g ha rfl (g_move rfl) ?_; clear ha a; intro a ha); obtain ⟨x117, g118, gx119, hF⟩ := idx_some hF
        obtain ⟨p120, cs121, f122, hf123, hpb124, hat125, hr126, hi127⟩ := ha1.at g118 gx119
        obtain ⟨v128, rfl, h129⟩ := hr126
        have h129 : Ro Rp.int W f122 v128 x117 := h129
        refine q_g ha rfl (hi127.gives sl22 rfl rfl) ?_; clear ha a; intro a ha; refine q_g ha rfl (g_load0 hE49 Tryd.isAgg35 rfl hat125.one) ?_; clear ha a; intro a ha; obtain ⟨x133, hc134, hF⟩ := cal_some hF; refine q_call (.bool x133) ha rfl rfl Tryd.call19 (fun w132 hx131 => W_laws_eqInt64S (h115.ext (Ext.trans hE49 hx131)) (h129.ext (Ext.trans hE49 hx131)) hc134) (fun _ _ _ h => ⟨h.1, h.2⟩) ?_; clear ha a; intro a ha; refine q_g ha rfl (g_not rfl) ?_; clear ha a; intro a ha
        refine q_nil ?_; intro w135 hx136
        have hE137 := Ext.trans hE49 hx136
        replace ha := ha.sub (σ' := [(0, va0), (1, va1), (5, (.int .i64 i47)), (26, (.bool (!x133)))]) ⟨rfl, rfl, rfl, rfl, trivial⟩; refine e_then ?_; refine c_cond (¬ (x133 = true)) ha rfl (n_iff (Iff.rfl)) (fun hp138 => ?_) (fun hp138 => ?_)
        · replace hF := if_t hp138 hF
          refine wp_seq ?_; refine wp_region_lit ?_; refine op_g ha rfl (g_assign rfl) ?_; clear ha a; intro a ha; refine wpList_nil ?_; replace ha := ha.sub (σ' := [(4, (.bool false))]) ⟨rfl, trivial⟩; refine e_then ?_; refine wp_ret ?_; refine e_blk_ret ?_; refine e_then_ret ?_; refine e_lq_ret ?_; refine e_then_ret ?_; obtain rfl := Option.some.inj hF
          have e139 := LK_inr hN99; subst e139
          have e140 := BK_inr hK95; subst e140
          exact f_ret1 ha rfl rfl ⟨rfl, hE137⟩
        replace hF := if_f hp138 hF; refine wp_skip ?_; refine e_blk ?_; refine e_then ?_; refine wp_region_lit ?_; refine op_g ha rfl (g_move rfl) ?_; clear ha a; intro a ha; obtain ⟨hI141, hF⟩ := ck_some hF; refine op_g ha rfl (g_add rfl rfl hI141) ?_; clear ha a; intro a ha; refine op_g ha rfl (g_assign rfl) ?_; clear ha a; intro a ha; refine wpList_nil ?_; replace ha := ha.sub (σ' := [(0, va0), (1, va1), (5, (.int .i64 (i47 + 1)))]) ⟨rfl, rfl, rfl, trivial⟩; refine e_lq ?_; obtain rfl := Option.some.inj hF
        exact ⟨_, Nat.lt_succ_self _, i47 + 1, ha.sub ⟨rfl, rfl, rfl, trivial⟩, hE137, hI141, hN99⟩
      replace hF := if_f hp102 hF; refine wp_exit ?_; refine e_then_exit ?_; refine e_lq_eq ?_; obtain rfl := Option.some.inj hF
      exact ⟨ha.sub trivial, hE49, (LK_inr hN99).symm⟩
  rintro a w92 ⟨ha, hE98, rfl⟩
  have hF : F_laws_eqInt64SS_k2 = some _ := hK95; clear hK95; unfold F_laws_eqInt64SS_k2 at hF
  refine e_then ?_; refine wp_seq ?_; refine wp_region_lit ?_; refine op_g ha rfl (g_assign rfl) ?_; clear ha a; intro a ha; refine wpList_nil ?_; refine e_then ?_; refine wp_ret ?_; obtain rfl := Option.some.inj hF
  exact f_ret1 ha rfl rfl ⟨rfl, hE98⟩
set_option maxHeartbeats 2000000 in
theorem W_laws_eqGraph {W : World} {va0_0 : Value} {fa0_0 : List Nat} {a0_0 : (List (List Int))} (ha0_0 : Ro (Rp.sl 2 Rp.int) W fa0_0 va0_0 a0_0) {va1_0 : Value} {fa1_0 : List Nat} {a1_0 : (List (List Int))} (ha1_0 : Ro (Rp.sl 2 Rp.int) W fa1_0 va1_0 a1_0) {r : Bool} (hF : F_laws_eqGraph a0_0 a1_0 = some r) :
    Calls Tryd.prog 10 [.agg #[va0_0], .agg #[va1_0]].toArray W (Ret fun u w' => u = .bool r ∧ Ext W w') := by
  refine f_enter Tryd.func10 rfl Tryd.ntmps10 rfl ?_
  intro a ha
  replace ha : Fr 11 [(0, (.agg #[va0_0])), (1, (.agg #[va1_0]))] a := ha
  have hE : Chg [] W W := Chg.refl _ _
  unfold F_laws_eqGraph at hF
  refine wp_seq ?_; refine wp_region_lit ?_
  refine o_box ha rfl rfl rfl ?_; clear ha a; intro b1 w2 hB3 hx4 hlo5 a ha
  have q6 := Zn.one hlo5
  have q7 := Zn.upD q6 hE
  have hE8 := Ext.trans hE hx4
  refine o_box ha rfl rfl rfl ?_; clear ha a; intro b9 w10 hB11 hx12 hlo13 a ha
  have q14 := Zn.one hlo13
  have q15 := Nq.new hB3.fpb q14
  have q16 := Nq.made1 hlo13 hB3.bi
  have q17 := Zn.upD q14 hE8
  replace hB3 := hB3.ext hx12
  have hE18 := Ext.trans hE8 hx12
  refine op_g ha rfl (g_assign rfl) ?_; clear ha a; intro a ha; refine wpList_nil ?_; replace ha := ha.sub (σ' := [(2, (.pointer (some ⟨b1, 0, none⟩))), (3, (.pointer (some ⟨b9, 0, none⟩)))]) ⟨rfl, rfl, trivial⟩; refine e_then ?_; refine wp_seq ?_; refine wp_seq ?_; refine wp_region_lit ?_; refine op_g ha rfl (g_field0 st27_0 rfl) ?_; clear ha a; intro a ha; refine op_g ha rfl (g_load Tryd.isAgg22 rfl (hB3.cell rfl)) ?_; clear ha a; intro a ha; refine op_g ha rfl (g_field0 st27_0 rfl) ?_; clear ha a; intro a ha; refine op_g ha rfl (g_load Tryd.isAgg22 rfl (hB11.cell rfl)) ?_; clear ha a; intro a ha
  obtain ⟨x19, hc20, hF⟩ := cal_some hF
  refine o_call ha rfl rfl Tryd.call13 (W_laws_eqInt64SS (ha0_0.ext hE18) (ha1_0.ext hE18) hc20) ?_; clear ha a; rintro v21 w22 ⟨rfl, hx23⟩ a ha
  replace hB3 := hB3.ext hx23
  replace hB11 := hB11.ext hx23
  have hE24 := Ext.trans hE18 hx23
  refine op_g ha rfl (g_not rfl) ?_; clear ha a; intro a ha; refine wpList_nil ?_; replace ha := ha.sub (σ' := [(10, (.bool (!x19)))]) ⟨rfl, trivial⟩; refine e_then ?_; refine c_cond (¬ (x19 = true)) ha rfl (n_iff (Iff.rfl)) (fun hp25 => ?_) (fun hp25 => ?_)
  · replace hF := if_t hp25 hF
    refine wp_seq ?_; refine wp_region_lit ?_; refine op_g ha rfl (g_assign rfl) ?_; clear ha a; intro a ha; refine wpList_nil ?_; replace ha := ha.sub (σ' := [(4, (.bool false))]) ⟨rfl, trivial⟩; refine e_then ?_; refine wp_ret ?_; refine e_then_ret ?_; obtain rfl := Option.some.inj hF
    exact f_ret1 ha rfl rfl ⟨rfl, hE24⟩
  replace hF := if_f hp25 hF; refine wp_skip ?_; refine e_then ?_; refine wp_seq ?_; refine wp_region_lit ?_; refine op_g ha rfl (g_assign rfl) ?_; clear ha a; intro a ha; refine wpList_nil ?_; replace ha := ha.sub (σ' := [(4, (.bool true))]) ⟨rfl, trivial⟩; refine e_then ?_; refine wp_ret ?_; obtain rfl := Option.some.inj hF
  exact f_ret1 ha rfl rfl ⟨rfl, hE24⟩
set_option maxHeartbeats 2000000 in
theorem W_laws_markInt64S {W : World} {va0 : Value} {ba0 : Int} {a0 : (List Int)} (ha0 : Ow Rp.int 2 true W [] ba0 va0 a0) {a1 : Int} (ha1 : InI a1) {r : (Int × (List Int))} (hF : F_laws_markInt64S a0 a1 = some r) :
    Calls Tryd.prog 20 [va0, .int .i64 a1].toArray W (Ret fun u w' => (u = .int .i64 r.1 ∧ InI r.1) ∧ Ow Rp.int 2 true w' [] ba0 va0 r.2 ∧ Chg (bl ba0) W w') := by
  refine f_enter Tryd.func20 rfl Tryd.ntmps20 rfl ?_
  intro a ha
  replace ha : Fr 19 [(0, va0), (1, (.int .i64 a1))] a := ha
  have hE : Chg (bl ba0) W W := Chg.refl _ _
  unfold F_laws_markInt64S at hF
  refine wp_seq ?_; refine wp_region_lit ?_; refine op_g ha rfl (g_assign rfl) ?_; clear ha a; intro a ha; refine wpList_nil ?_; replace ha := ha.sub (σ' := [(0, va0), (1, (.int .i64 a1))]) ⟨rfl, rfl, trivial⟩; refine e_then ?_; refine wp_seq ?_; refine wp_seq ?_; refine wp_region_lit ?_; refine op_g ha rfl (g_assign rfl) ?_; clear ha a; intro a ha; refine wpList_nil ?_; refine e_then ?_; obtain ⟨o85, ho86, hK87⟩ := bnd_some hF
  obtain ⟨n88, hn89⟩ := lp_some ho86; clear ho86
  refine c_loop (fun a w => ∃ (i79 : Int) (l82 : (List Int)), Fr 19 [(1, (.int .i64 i79))] a ∧ Chg (bl ba0) W w ∧ InI i79 ∧ Ow Rp.int 2 true w [] ba0 va0 l82 ∧ o85 = .inl (i79, l82)) (fun n a w => ∃ (l38 : (List Int)) (i41 : Int) (i43 : Int), Fr 19 [(0, va0), (1, (.int .i64 i41)), (5, (.int .i64 i43))] a ∧ Chg (bl ba0) W w ∧ InI i41 ∧ InI i43 ∧ Ow Rp.int 2 true w [] ba0 va0 l38 ∧ lpN (fun s => F_laws_markInt64S_l1 s.1 s.2.1 s.2.2) n (l38, i41, i43) = some o85) n88 ⟨a0, a1, 0, ha.sub ⟨rfl, rfl, rfl, trivial⟩, hE, ha1, (show InI 0 from by decide), ha0, hn89⟩ ?_ ?_
  · rintro m93 a w36 ⟨l38, i41, i43, ha, hE45, hI42, hI44, h37, hF⟩
    cases m93 with
    | zero => exact (lpN_zero hF).elim
    | succ m93 =>
      obtain ⟨z92, hF, hN91⟩ := lpN_succ hF
      have hF : F_laws_markInt64S_l1 l38 i41 i43 = some z92 := hF; unfold F_laws_markInt64S_l1 at hF
      refine wp_seq ?_; refine wp_seq ?_; refine wp_region_lit ?_; (iterate 2 refine op_g ha rfl (g_move rfl) ?_; clear ha a; intro a ha); refine op_g ha rfl (g_lenO sl35.und h37 rfl) ?_; clear ha a; intro a ha; refine op_g ha rfl (g_lss rfl rfl) ?_; clear ha a; intro a ha; refine wpList_nil ?_; replace ha := ha.sub (σ' := [(0, va0), (1, (.int .i64 i41)), (5, (.int .i64 i43)), (9, (.bool (decide (i43 < (l38.length : Int)))))]) ⟨rfl, rfl, rfl, rfl, trivial⟩; refine e_then ?_; refine c_cond (i43 < (l38.length : Int)) ha rfl (decide_eq_true_iff) (fun hp94 => ?_) (fun hp94 => ?_)
      · replace hF := if_t hp94 hF
        refine wp_skip ?_; refine e_then ?_; refine wp_seq ?_; refine wp_block ?_; refine wp_seq ?_; refine wp_region_lit ?_; (iterate 3 refine op_g ha rfl (g_move rfl) ?_; clear ha a; intro a ha); obtain ⟨x95, g96, gx97, hF⟩ := idx_some hF
        obtain ⟨p98, cs99, f100, hf101, hpb102, hat103, hr104, hi105⟩ := h37.at g96 gx97
        obtain ⟨rfl, hI106, rfl⟩ := hr104
        refine op_g ha rfl (hi105.gives sl35 rfl rfl) ?_; clear ha a; intro a ha
        refine o_storeE (f := []) (q := i41) ha Tryd.sizeOf2 rfl rfl rfl h37 hi105 ⟨rfl, hI42, rfl⟩ (Nq.nil _) ?_; intro w107 fs108 h109 hc110 hs111
        obtain rfl := Subst.nil hs111
        have hE112 := Chg.same hE45 hc110
        refine wpList_nil ?_; replace ha := ha.sub (σ' := [(0, va0), (1, (.int .i64 i41)), (5, (.int .i64 i43))]) ⟨rfl, rfl, rfl, trivial⟩; refine e_then ?_; refine wp_region_lit ?_; refine op_g ha rfl (g_move rfl) ?_; clear ha a; intro a ha; obtain ⟨hI113, hF⟩ := ck_some hF; refine op_g ha rfl (g_add rfl rfl hI113) ?_; clear ha a; intro a ha; refine op_g ha rfl (g_assign rfl) ?_; clear ha a; intro a ha; refine wpList_nil ?_; replace ha := ha.sub (σ' := [(0, va0), (1, (.int .i64 (i41 + 1))), (5, (.int .i64 i43))]) ⟨rfl, rfl, rfl, trivial⟩; refine e_blk ?_; refine e_then ?_; refine wp_region_lit ?_
        refine op_g ha rfl (g_move rfl) ?_; clear ha a; intro a ha; obtain ⟨hI115, hF⟩ := ck_some hF; refine op_g ha rfl (g_add rfl rfl hI115) ?_; clear ha a; intro a ha; refine op_g ha rfl (g_assign rfl) ?_; clear ha a; intro a ha; refine wpList_nil ?_; replace ha := ha.sub (σ' := [(0, va0), (1, (.int .i64 (i41 + 1))), (5, (.int .i64 (i43 + 1)))]) ⟨rfl, rfl, rfl, trivial⟩; refine e_lq ?_; obtain rfl := Option.some.inj hF
        exact ⟨_, Nat.lt_succ_self _, (l38.set ((i43 : Int).toNat) i41), i41 + 1, i43 + 1, ha.sub ⟨rfl, rfl, rfl, trivial⟩, hE112, hI113, hI115, h109, hN91⟩
      replace hF := if_f hp94 hF; refine wp_exit ?_; refine e_then_exit ?_; refine e_lq_eq ?_; obtain rfl := Option.some.inj hF
      exact ⟨i41, l38, ha.sub ⟨rfl, trivial⟩, hE45, hI42, h37, (LK_inr hN91).symm⟩
  rintro a w78 ⟨i79, l82, ha, hE90, hI80, h81, rfl⟩
  have hF : F_laws_markInt64S_k2 i79 l82 = some _ := hK87; clear hK87; unfold F_laws_markInt64S_k2 at hF
  refine e_then ?_; refine wp_seq ?_; refine wp_region_lit ?_; refine op_g ha rfl (g_move rfl) ?_; clear ha a; intro a ha; refine op_g ha rfl (g_assign rfl) ?_; clear ha a; intro a ha; refine wpList_nil ?_; replace ha := ha.sub (σ' := [(4, (.int .i64 i79))]) ⟨rfl, trivial⟩; refine e_then ?_; refine wp_ret ?_; obtain rfl := Option.some.inj hF
  exact f_ret1 ha rfl rfl ⟨⟨rfl, hI80⟩, h81, hE90⟩
set_option maxHeartbeats 2000000 in
theorem W_laws_markInt64SS {W : World} {va0 : Value} {ba0 : Int} {fa0 : List Nat} {a0 : (List (List Int))} (ha0 : Ow (Rp.sl 2 Rp.int) 35 true W fa0 ba0 va0 a0) (nda0 : (bl ba0 ++ fa0).Nodup) {a1 : Int} (ha1 : InI a1) {r : (Int × (List (List Int)))} (hF : F_laws_markInt64SS a0 a1 = some r) :
    Calls Tryd.prog 15 [va0, .int .i64 a1].toArray W (Ret fun u w' => (u = .int .i64 r.1 ∧ InI r.1) ∧ Ow (Rp.sl 2 Rp.int) 35 true w' fa0 ba0 va0 r.2 ∧ Chg ((bl ba0 ++ fa0)) W w') := by
  refine f_enter Tryd.func15 rfl Tryd.ntmps15 rfl ?_
  intro a ha
  replace ha : Fr 19 [(0, va0), (1, (.int .i64 a1))] a := ha
  have hE : Chg ((bl ba0 ++ fa0)) W W := Chg.refl _ _
  unfold F_laws_markInt64SS at hF
  refine wp_seq ?_; refine wp_region_lit ?_; refine op_g ha rfl (g_assign rfl) ?_; clear ha a; intro a ha; refine wpList_nil ?_; replace ha := ha.sub (σ' := [(0, va0), (1, (.int .i64 a1))]) ⟨rfl, rfl, trivial⟩; refine e_then ?_; refine wp_seq ?_; refine wp_seq ?_; refine wp_region_lit ?_; refine op_g ha rfl (g_assign rfl) ?_; clear ha a; intro a ha; refine wpList_nil ?_; refine e_then ?_; obtain ⟨o101, ho102, hK103⟩ := bnd_some hF
  obtain ⟨n104, hn105⟩ := lp_some ho102; clear ho102
  refine c_loop (fun a w => ∃ (i95 : Int) (l98 : (List (List Int))), Fr 19 [(1, (.int .i64 i95))] a ∧ Chg ((bl ba0 ++ fa0)) W w ∧ InI i95 ∧ Ow (Rp.sl 2 Rp.int) 35 true w fa0 ba0 va0 l98 ∧ o101 = .inl (i95, l98)) (fun n a w => ∃ (l46 : (List (List Int))) (i49 : Int) (i51 : Int), Fr 19 [(0, va0), (1, (.int .i64 i49)), (5, (.int .i64 i51))] a ∧ Chg ((bl ba0 ++ fa0)) W w ∧ InI i49 ∧ InI i51 ∧ Ow (Rp.sl 2 Rp.int) 35 true w fa0 ba0 va0 l46 ∧ lpN (fun s => F_laws_markInt64SS_l1 s.1 s.2.1 s.2.2) n (l46, i49, i51) = some o101) n104 ⟨a0, a1, 0, ha.sub ⟨rfl, rfl, rfl, trivial⟩, hE, ha1, (show InI 0 from by decide), ha0, hn105⟩ ?_ ?_
  · rintro m109 a w44 ⟨l46, i49, i51, ha, hE53, hI50, hI52, h45, hF⟩
    cases m109 with
    | zero => exact (lpN_zero hF).elim
    | succ m109 =>
      obtain ⟨z108, hF, hN107⟩ := lpN_succ hF
      have hF : F_laws_markInt64SS_l1 l46 i49 i51 = some z108 := hF; unfold F_laws_markInt64SS_l1 at hF
      refine wp_seq ?_; refine wp_seq ?_; refine wp_region_lit ?_; (iterate 2 refine op_g ha rfl (g_move rfl) ?_; clear ha a; intro a ha); refine op_g ha rfl (g_lenO sl22.und h45 rfl) ?_; clear ha a; intro a ha; refine op_g ha rfl (g_lss rfl rfl) ?_; clear ha a; intro a ha; refine wpList_nil ?_; replace ha := ha.sub (σ' := [(0, va0), (1, (.int .i64 i49)), (5, (.int .i64 i51)), (9, (.bool (decide (i51 < (l46.length : Int)))))]) ⟨rfl, rfl, rfl, rfl, trivial⟩; refine e_then ?_; refine c_cond (i51 < (l46.length : Int)) ha rfl (decide_eq_true_iff) (fun hp110 => ?_) (fun hp110 => ?_)
      · replace hF := if_t hp110 hF
        refine wp_skip ?_; refine e_then ?_; refine wp_seq ?_; refine wp_block ?_; refine wp_region_lit ?_; (iterate 2 refine op_g ha rfl (g_move rfl) ?_; clear ha a; intro a ha); obtain ⟨x111, g112, gx113, hF⟩ := idx_some hF
        obtain ⟨p114, cs115, f116, hf117, hpb118, hat119, hr120, hi121⟩ := h45.at g112 gx113
        replace hr120 := (Rp.sl 2 Rp.int).weak hr120
        obtain ⟨v122, rfl, h123⟩ := hr120
        have h123 : Ro Rp.int w44 f116 v122 x111 := h123
        have q125 := Nq.mono (Ow.ne h45) hf117
        refine op_g ha rfl (hi121.gives sl22 rfl rfl) ?_; clear ha a; intro a ha; refine op_g ha rfl (g_load Tryd.isAgg35 rfl hat119.one) ?_; clear ha a; intro a ha; refine op_g ha rfl (g_move rfl) ?_; clear ha a; intro a ha
        obtain ⟨b126, h127, hm128, hb129⟩ := Ow.row (k := 0) (lens_sl 2 Rp.int) scal_int h45 nda0 gx113 hi121 hat119 rfl rfl
        obtain ⟨x130, hc131, hF⟩ := cal_some hF
        refine o_call ha rfl rfl Tryd.call20 (W_laws_markInt64S h127 hI50 hc131) ?_; clear ha a; rintro v132 w133 ⟨⟨rfl, hI135⟩, h136, hx134⟩ a ha
        have h137 := hb129 w133 _ hx134 h136
        have hE138 := Chg.join hE53 hx134 (S2.par hm128)
        refine op_g ha rfl (g_assign rfl) ?_; clear ha a; intro a ha; refine wpList_nil ?_; replace ha := ha.sub (σ' := [(0, va0), (1, (.int .i64 x130.1)), (5, (.int .i64 i51))]) ⟨rfl, rfl, rfl, trivial⟩; refine e_blk ?_; refine e_then ?_; refine wp_region_lit ?_; refine op_g ha rfl (g_move rfl) ?_; clear ha a; intro a ha; obtain ⟨hI139, hF⟩ := ck_some hF; refine op_g ha rfl (g_add rfl rfl hI139) ?_; clear ha a; intro a ha; refine op_g ha rfl (g_assign rfl) ?_; clear ha a; intro a ha; refine wpList_nil ?_; replace ha := ha.sub (σ' := [(0, va0), (1, (.int .i64 x130.1)), (5, (.int .i64 (i51 + 1)))]) ⟨rfl, rfl, rfl, trivial⟩
        refine e_lq ?_; obtain rfl := Option.some.inj hF
        exact ⟨_, Nat.lt_succ_self _, (l46.set ((i51 : Int).toNat) x130.2), x130.1, i51 + 1, ha.sub ⟨rfl, rfl, rfl, trivial⟩, hE138, hI135, hI139, h137, hN107⟩
      replace hF := if_f hp110 hF; refine wp_exit ?_; refine e_then_exit ?_; refine e_lq_eq ?_; obtain rfl := Option.some.inj hF
      exact ⟨i49, l46, ha.sub ⟨rfl, trivial⟩, hE53, hI50, h45, (LK_inr hN107).symm⟩
  rintro a w94 ⟨i95, l98, ha, hE106, hI96, h97, rfl⟩
  have hF : F_laws_markInt64SS_k2 i95 l98 = some _ := hK103; clear hK103; unfold F_laws_markInt64SS_k2 at hF
  refine e_then ?_; refine wp_seq ?_; refine wp_region_lit ?_; refine op_g ha rfl (g_move rfl) ?_; clear ha a; intro a ha; refine op_g ha rfl (g_assign rfl) ?_; clear ha a; intro a ha; refine wpList_nil ?_; replace ha := ha.sub (σ' := [(4, (.int .i64 i95))]) ⟨rfl, trivial⟩; refine e_then ?_; refine wp_ret ?_; obtain rfl := Option.some.inj hF
  exact f_ret1 ha rfl rfl ⟨⟨rfl, hI96⟩, h97, hE106⟩
set_option maxHeartbeats 2000000 in
theorem W_laws_markGraph {W : World} {va0_0 : Value} {ba0_0 : Int} {fa0_0 : List Nat} {a0_0 : (List (List Int))} (ha0_0 : Ow (Rp.sl 2 Rp.int) 35 true W fa0_0 ba0_0 va0_0 a0_0) (nda0_0 : (bl ba0_0 ++ fa0_0).Nodup) {a1 : Int} (ha1 : InI a1) {r : (Int × (List (List Int)))} (hF : F_laws_markGraph a0_0 a1 = some r) :
    Calls Tryd.prog 14 [.agg #[va0_0], .int .i64 a1].toArray W (Ret fun u w' => (u = .int .i64 r.1 ∧ InI r.1) ∧ Ow (Rp.sl 2 Rp.int) 35 true w' fa0_0 ba0_0 va0_0 r.2 ∧ Chg ((bl ba0_0 ++ fa0_0)) W w') := by
  refine f_enter Tryd.func14 rfl Tryd.ntmps14 rfl ?_
  intro a ha
  replace ha : Fr 10 [(0, (.agg #[va0_0])), (1, (.int .i64 a1))] a := ha
  have hE : Chg ((bl ba0_0 ++ fa0_0)) W W := Chg.refl _ _
  unfold F_laws_markGraph at hF
  refine wp_seq ?_; refine wp_region_lit ?_
  refine o_box ha rfl rfl rfl ?_; clear ha a; intro b1 w2 hB3 hx4 hlo5 a ha
  have q6 := Zn.one hlo5
  have q7 := Nq.new ha0_0.fpb q6
  have q8 := Nq.made1 hlo5 ha0_0.blt
  have q9 := Zn.upD q6 hE
  replace ha0_0 := ha0_0.ext hx4
  have hE10 := Chg.more hE hx4
  refine op_g ha rfl (g_assign rfl) ?_; clear ha a; intro a ha; refine wpList_nil ?_; replace ha := ha.sub (σ' := [(1, (.int .i64 a1)), (2, (.pointer (some ⟨b1, 0, none⟩)))]) ⟨rfl, rfl, trivial⟩; refine e_then ?_; refine wp_seq ?_; refine wp_region_lit ?_; refine op_g ha rfl (g_field0 st27_0 rfl) ?_; clear ha a; intro a ha; refine op_g ha rfl (g_load Tryd.isAgg22 rfl (hB3.cell rfl)) ?_; clear ha a; intro a ha; refine op_g ha rfl (g_move rfl) ?_; clear ha a; intro a ha; obtain ⟨x11, hc12, hF⟩ := cal_some hF
  refine o_call ha rfl rfl Tryd.call15 (W_laws_markInt64SS ha0_0 nda0_0 ha1 hc12) ?_; clear ha a; rintro v13 w14 ⟨⟨rfl, hI16⟩, h17, hx15⟩ a ha
  have hE18 := Chg.join hE10 hx15 (S2.par (fun _ h => h))
  refine op_g ha rfl (g_assign rfl) ?_; clear ha a; intro a ha; refine wpList_nil ?_; replace ha := ha.sub (σ' := [(1, (.int .i64 x11.1))]) ⟨rfl, trivial⟩; refine e_then ?_; refine wp_seq ?_; refine wp_region_lit ?_; refine op_g ha rfl (g_move rfl) ?_; clear ha a; intro a ha; refine op_g ha rfl (g_assign rfl) ?_; clear ha a; intro a ha; refine wpList_nil ?_; replace ha := ha.sub (σ' := [(4, (.int .i64 x11.1))]) ⟨rfl, trivial⟩; refine e_then ?_; refine wp_ret ?_; obtain rfl := Option.some.inj hF
  exact f_ret1 ha rfl rfl ⟨⟨rfl, hI16⟩, h17, hE18⟩
set_option maxHeartbeats 2000000 in
theorem W_laws_heldInt64S {W : World} {va0 : Value} {fa0 : List Nat} {a0 : (List Int)} (ha0 : Ro Rp.int W fa0 va0 a0) {a1 : Int} (ha1 : InI a1) {r : Int} (hF : F_laws_heldInt64S a0 a1 = some r) :
    Calls Tryd.prog 21 [va0, .int .i64 a1].toArray W (Ret fun u w' => (u = .int .i64 r ∧ InI r) ∧ Ext W w') := by
  refine f_enter Tryd.func21 rfl Tryd.ntmps21 rfl ?_
  intro a ha
  replace ha : Fr 21 [(0, va0), (1, (.int .i64 a1))] a := ha
  have hE : Chg [] W W := Chg.refl _ _
  unfold F_laws_heldInt64S at hF
  refine wp_seq ?_; refine wp_region_lit ?_; refine op_g ha rfl (g_assign rfl) ?_; clear ha a; intro a ha; refine wpList_nil ?_; replace ha := ha.sub (σ' := [(0, va0), (1, (.int .i64 a1))]) ⟨rfl, rfl, trivial⟩; refine e_then ?_; refine wp_seq ?_; refine wp_seq ?_; refine wp_region_lit ?_; refine op_g ha rfl (g_assign rfl) ?_; clear ha a; intro a ha; refine wpList_nil ?_; refine e_then ?_; obtain ⟨o58, ho59, hK60⟩ := bnd_some hF
  obtain ⟨n61, hn62⟩ := lp_some ho59; clear ho59
  refine c_loop (fun a w => ∃ (i56 : Int), Fr 21 [(1, (.int .i64 i56))] a ∧ Chg [] W w ∧ InI i56 ∧ o58 = .inl i56) (fun n a w => ∃ (i27 : Int) (i29 : Int), Fr 21 [(0, va0), (1, (.int .i64 i27)), (5, (.int .i64 i29))] a ∧ Chg [] W w ∧ InI i27 ∧ InI i29 ∧ lpN (fun s => F_laws_heldInt64S_l1 a0 s.1 s.2) n (i27, i29) = some o58) n61 ⟨a1, 0, ha.sub ⟨rfl, rfl, rfl, trivial⟩, hE, ha1, (show InI 0 from by decide), hn62⟩ ?_ ?_
  · rintro m66 a w26 ⟨i27, i29, ha, hE31, hI28, hI30, hF⟩
    cases m66 with
    | zero => exact (lpN_zero hF).elim
    | succ m66 =>
      obtain ⟨z65, hF, hN64⟩ := lpN_succ hF
      have hF : F_laws_heldInt64S_l1 a0 i27 i29 = some z65 := hF; unfold F_laws_heldInt64S_l1 at hF
      refine wp_seq ?_; refine wp_seq ?_; refine wp_region_lit ?_; (iterate 2 refine op_g ha rfl (g_move rfl) ?_; clear ha a; intro a ha); refine op_g ha rfl (g_lenR sl35.und ha0 rfl) ?_; clear ha a; intro a ha; refine op_g ha rfl (g_lss rfl rfl) ?_; clear ha a; intro a ha; refine wpList_nil ?_; replace ha := ha.sub (σ' := [(0, va0), (1, (.int .i64 i27)), (5, (.int .i64 i29)), (9, (.bool (decide (i29 < (a0.length : Int)))))]) ⟨rfl, rfl, rfl, rfl, trivial⟩; refine e_then ?_; refine c_cond (i29 < (a0.length : Int)) ha rfl (decide_eq_true_iff) (fun hp67 => ?_) (fun hp67 => ?_)
      · replace hF := if_t hp67 hF
        refine wp_skip ?_; refine e_then ?_; refine wp_seq ?_; refine wp_block ?_; refine wp_seq ?_; refine wp_seq ?_; refine wp_region_lit ?_; (iterate 2 refine op_g ha rfl (g_move rfl) ?_; clear ha a; intro a ha); obtain ⟨x68, g69, gx70, hF⟩ := idx_some hF
        obtain ⟨p71, cs72, f73, hf74, hpb75, hat76, hr77, hi78⟩ := ha0.at g69 gx70
        obtain ⟨rfl, hI79, rfl⟩ := hr77
        refine op_g ha rfl (hi78.gives sl35 rfl rfl) ?_; clear ha a; intro a ha; refine op_g ha rfl (g_load0 hE31 Tryd.isAgg2 rfl hat76.one) ?_; clear ha a; intro a ha; refine op_g ha rfl (g_move rfl) ?_; clear ha a; intro a ha; refine op_g ha rfl (g_neq rfl rfl) ?_; clear ha a; intro a ha; refine wpList_nil ?_; replace ha := ha.sub (σ' := [(0, va0), (1, (.int .i64 i27)), (5, (.int .i64 i29)), (17, (.bool (decide (x68 ≠ i27))))]) ⟨rfl, rfl, rfl, rfl, trivial⟩; refine e_then ?_; refine c_cond (x68 ≠ i27) ha rfl (decide_eq_true_iff) (fun hp80 => ?_) (fun hp80 => ?_)
        · replace hF := if_t hp80 hF
          refine wp_seq ?_; refine wp_region_lit ?_; refine op_g ha rfl (g_assign rfl) ?_; clear ha a; intro a ha; refine wpList_nil ?_; replace ha := ha.sub (σ' := [(4, (.int .i64 (-1)))]) ⟨rfl, trivial⟩; refine e_then ?_; refine wp_ret ?_; refine e_then_ret ?_; refine e_blk_ret ?_; refine e_then_ret ?_; refine e_lq_ret ?_; refine e_then_ret ?_; obtain rfl := Option.some.inj hF
          have e81 := LK_inr hN64; subst e81
          have e82 := BK_inr hK60; subst e82
          exact f_ret1 ha rfl rfl ⟨⟨rfl, (show InI (-1) from by decide)⟩, hE31⟩
        replace hF := if_f hp80 hF; refine wp_skip ?_; refine e_then ?_; refine wp_region_lit ?_; refine op_g ha rfl (g_move rfl) ?_; clear ha a; intro a ha; obtain ⟨hI83, hF⟩ := ck_some hF; refine op_g ha rfl (g_add rfl rfl hI83) ?_; clear ha a; intro a ha; refine op_g ha rfl (g_assign rfl) ?_; clear ha a; intro a ha; refine wpList_nil ?_; replace ha := ha.sub (σ' := [(0, va0), (1, (.int .i64 (i27 + 1))), (5, (.int .i64 i29))]) ⟨rfl, rfl, rfl, trivial⟩; refine e_blk ?_; refine e_then ?_; refine wp_region_lit ?_; refine op_g ha rfl (g_move rfl) ?_; clear ha a; intro a ha; obtain ⟨hI85, hF⟩ := ck_some hF
        refine op_g ha rfl (g_add rfl rfl hI85) ?_; clear ha a; intro a ha; refine op_g ha rfl (g_assign rfl) ?_; clear ha a; intro a ha; refine wpList_nil ?_; replace ha := ha.sub (σ' := [(0, va0), (1, (.int .i64 (i27 + 1))), (5, (.int .i64 (i29 + 1)))]) ⟨rfl, rfl, rfl, trivial⟩; refine e_lq ?_; obtain rfl := Option.some.inj hF
        exact ⟨_, Nat.lt_succ_self _, i27 + 1, i29 + 1, ha.sub ⟨rfl, rfl, rfl, trivial⟩, hE31, hI83, hI85, hN64⟩
      replace hF := if_f hp67 hF; refine wp_exit ?_; refine e_then_exit ?_; refine e_lq_eq ?_; obtain rfl := Option.some.inj hF
      exact ⟨i27, ha.sub ⟨rfl, trivial⟩, hE31, hI28, (LK_inr hN64).symm⟩
  rintro a w55 ⟨i56, ha, hE63, hI57, rfl⟩
  have hF : F_laws_heldInt64S_k2 i56 = some _ := hK60; clear hK60; unfold F_laws_heldInt64S_k2 at hF
  refine e_then ?_; refine wp_seq ?_; refine wp_region_lit ?_; refine op_g ha rfl (g_move rfl) ?_; clear ha a; intro a ha; refine op_g ha rfl (g_assign rfl) ?_; clear ha a; intro a ha; refine wpList_nil ?_; replace ha := ha.sub (σ' := [(4, (.int .i64 i56))]) ⟨rfl, trivial⟩; refine e_then ?_; refine wp_ret ?_; obtain rfl := Option.some.inj hF
  exact f_ret1 ha rfl rfl ⟨⟨rfl, hI57⟩, hE63⟩
set_option maxHeartbeats 2000000 in
theorem W_laws_heldInt64SS {W : World} {va0 : Value} {fa0 : List Nat} {a0 : (List (List Int))} (ha0 : Ro (Rp.sl 2 Rp.int) W fa0 va0 a0) {a1 : Int} (ha1 : InI a1) {r : Int} (hF : F_laws_heldInt64SS a0 a1 = some r) :
    Calls Tryd.prog 16 [va0, .int .i64 a1].toArray W (Ret fun u w' => (u = .int .i64 r ∧ InI r) ∧ Ext W w') := by
  refine f_enter Tryd.func16 rfl Tryd.ntmps16 rfl ?_
  intro a ha
  replace ha : Fr 21 [(0, va0), (1, (.int .i64 a1))] a := ha
  have hE : Chg [] W W := Chg.refl _ _
  unfold F_laws_heldInt64SS at hF
  refine wp_seq ?_; refine wp_region_lit ?_; refine op_g ha rfl (g_assign rfl) ?_; clear ha a; intro a ha; refine wpList_nil ?_; replace ha := ha.sub (σ' := [(0, va0), (1, (.int .i64 a1))]) ⟨rfl, rfl, trivial⟩; refine e_then ?_; refine wp_seq ?_; refine wp_seq ?_; refine wp_region_lit ?_; refine op_g ha rfl (g_assign rfl) ?_; clear ha a; intro a ha; refine wpList_nil ?_; refine e_then ?_; obtain ⟨o72, ho73, hK74⟩ := bnd_some hF
  obtain ⟨n75, hn76⟩ := lp_some ho73; clear ho73
  refine c_loop (fun a w => ∃ (i70 : Int), Fr 21 [(1, (.int .i64 i70))] a ∧ Chg [] W w ∧ InI i70 ∧ o72 = .inl i70) (fun n a w => ∃ (i34 : Int) (i36 : Int), Fr 21 [(0, va0), (1, (.int .i64 i34)), (5, (.int .i64 i36))] a ∧ Chg [] W w ∧ InI i34 ∧ InI i36 ∧ lpN (fun s => F_laws_heldInt64SS_l1 a0 s.1 s.2) n (i34, i36) = some o72) n75 ⟨a1, 0, ha.sub ⟨rfl, rfl, rfl, trivial⟩, hE, ha1, (show InI 0 from by decide), hn76⟩ ?_ ?_
  · rintro m80 a w33 ⟨i34, i36, ha, hE38, hI35, hI37, hF⟩
    cases m80 with
    | zero => exact (lpN_zero hF).elim
    | succ m80 =>
      obtain ⟨z79, hF, hN78⟩ := lpN_succ hF
      have hF : F_laws_heldInt64SS_l1 a0 i34 i36 = some z79 := hF; unfold F_laws_heldInt64SS_l1 at hF
      refine wp_seq ?_; refine wp_seq ?_; refine wp_region_lit ?_; (iterate 2 refine op_g ha rfl (g_move rfl) ?_; clear ha a; intro a ha); refine op_g ha rfl (g_lenR sl22.und ha0 rfl) ?_; clear ha a; intro a ha; refine op_g ha rfl (g_lss rfl rfl) ?_; clear ha a; intro a ha; refine wpList_nil ?_; replace ha := ha.sub (σ' := [(0, va0), (1, (.int .i64 i34)), (5, (.int .i64 i36)), (9, (.bool (decide (i36 < (a0.length : Int)))))]) ⟨rfl, rfl, rfl, rfl, trivial⟩; refine e_then ?_; refine c_cond (i36 < (a0.length : Int)) ha rfl (decide_eq_true_iff) (fun hp81 => ?_) (fun hp81 => ?_)
      · replace hF := if_t hp81 hF
        refine wp_skip ?_; refine e_then ?_; refine wp_seq ?_; refine wp_block ?_; refine wp_seq ?_; refine wp_region_lit ?_; (iterate 2 refine op_g ha rfl (g_move rfl) ?_; clear ha a; intro a ha); obtain ⟨x82, g83, gx84, hF⟩ := idx_some hF
        obtain ⟨p85, cs86, f87, hf88, hpb89, hat90, hr91, hi92⟩ := ha0.at g83 gx84
        obtain ⟨v93, rfl, h94⟩ := hr91
        have h94 : Ro Rp.int W f87 v93 x82 := h94
        refine op_g ha rfl (hi92.gives sl22 rfl rfl) ?_; clear ha a; intro a ha; refine op_g ha rfl (g_load0 hE38 Tryd.isAgg35 rfl hat90.one) ?_; clear ha a; intro a ha; refine op_g ha rfl (g_move rfl) ?_; clear ha a; intro a ha; obtain ⟨x96, hc97, hF⟩ := cal_some hF
        refine o_call ha rfl rfl Tryd.call21 (W_laws_heldInt64S (h94.ext hE38) hI35 hc97) ?_; clear ha a; rintro v98 w99 ⟨⟨rfl, hI101⟩, hx100⟩ a ha
        have hE102 := Ext.trans hE38 hx100
        refine op_g ha rfl (g_assign rfl) ?_; clear ha a; intro a ha; refine wpList_nil ?_; replace ha := ha.sub (σ' := [(0, va0), (1, (.int .i64 x96)), (5, (.int .i64 i36))]) ⟨rfl, rfl, rfl, trivial⟩; refine e_then ?_; refine wp_seq ?_; refine wp_region_lit ?_; refine op_g ha rfl (g_move rfl) ?_; clear ha a; intro a ha; refine op_g ha rfl (g_lss rfl rfl) ?_; clear ha a; intro a ha; refine wpList_nil ?_; replace ha := ha.sub (σ' := [(0, va0), (1, (.int .i64 x96)), (5, (.int .i64 i36)), (19, (.bool (decide (x96 < 0))))]) ⟨rfl, rfl, rfl, rfl, trivial⟩; refine e_then ?_; refine c_cond (x96 < 0) ha rfl (decide_eq_true_iff) (fun hp103 => ?_) (fun hp103 => ?_)
        · replace hF := if_t hp103 hF
          refine wp_seq ?_; refine wp_region_lit ?_; refine op_g ha rfl (g_assign rfl) ?_; clear ha a; intro a ha; refine wpList_nil ?_; replace ha := ha.sub (σ' := [(4, (.int .i64 (-1)))]) ⟨rfl, trivial⟩; refine e_then ?_; refine wp_ret ?_; refine e_blk_ret ?_; refine e_then_ret ?_; refine e_lq_ret ?_; refine e_then_ret ?_; obtain rfl := Option.some.inj hF
          have e104 := LK_inr hN78; subst e104
          have e105 := BK_inr hK74; subst e105
          exact f_ret1 ha rfl rfl ⟨⟨rfl, (show InI (-1) from by decide)⟩, hE102⟩
        replace hF := if_f hp103 hF; refine wp_skip ?_; refine e_blk ?_; refine e_then ?_; refine wp_region_lit ?_; refine op_g ha rfl (g_move rfl) ?_; clear ha a; intro a ha; obtain ⟨hI106, hF⟩ := ck_some hF; refine op_g ha rfl (g_add rfl rfl hI106) ?_; clear ha a; intro a ha; refine op_g ha rfl (g_assign rfl) ?_; clear ha a; intro a ha; refine wpList_nil ?_; replace ha := ha.sub (σ' := [(0, va0), (1, (.int .i64 x96)), (5, (.int .i64 (i36 + 1)))]) ⟨rfl, rfl, rfl, trivial⟩; refine e_lq ?_; obtain rfl := Option.some.inj hF
        exact ⟨_, Nat.lt_succ_self _, x96, i36 + 1, ha.sub ⟨rfl, rfl, rfl, trivial⟩, hE102, hI101, hI106, hN78⟩
      replace hF := if_f hp81 hF; refine wp_exit ?_; refine e_then_exit ?_; refine e_lq_eq ?_; obtain rfl := Option.some.inj hF
      exact ⟨i34, ha.sub ⟨rfl, trivial⟩, hE38, hI35, (LK_inr hN78).symm⟩
  rintro a w69 ⟨i70, ha, hE77, hI71, rfl⟩
  have hF : F_laws_heldInt64SS_k2 i70 = some _ := hK74; clear hK74; unfold F_laws_heldInt64SS_k2 at hF
  refine e_then ?_; refine wp_seq ?_; refine wp_region_lit ?_; refine op_g ha rfl (g_move rfl) ?_; clear ha a; intro a ha; refine op_g ha rfl (g_assign rfl) ?_; clear ha a; intro a ha; refine wpList_nil ?_; replace ha := ha.sub (σ' := [(4, (.int .i64 i70))]) ⟨rfl, trivial⟩; refine e_then ?_; refine wp_ret ?_; obtain rfl := Option.some.inj hF
  exact f_ret1 ha rfl rfl ⟨⟨rfl, hI71⟩, hE77⟩
set_option maxHeartbeats 2000000 in
theorem W_laws_FnExactBestMatch {W : World} {va0_0 : Value} {fa0_0 : List Nat} {a0_0 : (List (List Int))} (ha0_0 : Ro (Rp.sl 2 Rp.int) W fa0_0 va0_0 a0_0) (hG : GT 0 W) {r : Bool} (hF : F_laws_FnExactBestMatch a0_0 = some r) :
    Calls Tryd.prog 4 [.agg #[va0_0]].toArray W (Ret fun u w' => u = .bool r ∧ Ext W w') := by
  refine f_enter Tryd.func4 rfl Tryd.ntmps4 rfl ?_
  intro a ha
  replace ha : Fr 69 [(0, (.agg #[va0_0]))] a := ha
  have hE : Chg [] W W := Chg.refl _ _
  unfold F_laws_FnExactBestMatch at hF
  refine wp_seq ?_; refine wp_region_lit ?_
  refine o_box ha rfl rfl rfl ?_; clear ha a; intro b1 w2 hB3 hx4 hlo5 a ha
  have q6 := Zn.one hlo5
  have q7 := Zn.upD q6 hE
  have hE8 := Ext.trans hE hx4
  refine op_g ha rfl (g_assign rfl) ?_; clear ha a; intro a ha; refine wpList_nil ?_; replace ha := ha.sub (σ' := [(1, (.pointer (some ⟨b1, 0, none⟩)))]) ⟨rfl, trivial⟩; refine e_then ?_; refine wp_seq ?_; refine wp_region_lit ?_; refine op_g ha rfl (g_assign rfl) ?_; clear ha a; intro a ha; refine wpList_nil ?_; refine e_then ?_; refine wp_seq ?_; refine wp_region_lit ?_; refine op_g ha rfl (g_loadA (cs := [va0_0]) Tryd.isAgg24 Tryd.sizeOf24 rfl (by simp) hB3.all) ?_; clear ha a; intro a ha; refine op_g ha rfl (g_move rfl) ?_; clear ha a; intro a ha; obtain ⟨x9, hc10, hF⟩ := cal_some hF
  refine o_call ha rfl rfl Tryd.call6 (W_laws_szGraph (ha0_0.ext hE8) (show InI 1048576 from by decide) hc10) ?_; clear ha a; rintro v11 w12 ⟨⟨rfl, hI14⟩, hx13⟩ a ha
  replace hB3 := hB3.ext hx13
  have hE15 := Ext.trans hE8 hx13
  refine op_g ha rfl (g_assign rfl) ?_; clear ha a; intro a ha; refine wpList_nil ?_; replace ha := ha.sub (σ' := [(1, (.pointer (some ⟨b1, 0, none⟩))), (3, (.int .i64 x9))]) ⟨rfl, rfl, trivial⟩; refine e_then ?_; refine wp_seq ?_; refine wp_seq ?_; refine wp_region_lit ?_; refine op_g ha rfl (g_move rfl) ?_; clear ha a; intro a ha; refine op_g ha rfl (g_lss rfl rfl) ?_; clear ha a; intro a ha; refine wpList_nil ?_; replace ha := ha.sub (σ' := [(1, (.pointer (some ⟨b1, 0, none⟩))), (15, (.bool (decide (x9 < 0))))]) ⟨rfl, rfl, trivial⟩; refine e_then ?_; refine c_cond (x9 < 0) ha rfl (decide_eq_true_iff) (fun hp16 => ?_) (fun hp16 => ?_)
  · replace hF := if_t hp16 hF
    refine wp_seq ?_; refine wp_region_lit ?_; refine op_g ha rfl (g_assign rfl) ?_; clear ha a; intro a ha; refine wpList_nil ?_; replace ha := ha.sub (σ' := [(2, (.bool true))]) ⟨rfl, trivial⟩; refine e_then ?_; refine wp_ret ?_; refine e_then_ret ?_; obtain rfl := Option.some.inj hF
    exact f_ret1 ha rfl rfl ⟨rfl, hE15⟩
  replace hF := if_f hp16 hF; refine wp_skip ?_; refine e_then ?_; refine wp_seq ?_; refine wp_region_lit ?_; refine op_g ha rfl (g_loadA (cs := [va0_0]) Tryd.isAgg24 Tryd.sizeOf24 rfl (by simp) hB3.all) ?_; clear ha a; intro a ha; obtain ⟨x17, hc18, hF⟩ := cal_some hF
  refine o_call ha rfl rfl Tryd.call8 (W_laws_toGraph (ha0_0.ext hE15) hc18) ?_; clear ha a; rintro v19 w20 ⟨u22, b23, fs27, rfl, h24, z25, zf28, nd29, hx21⟩ a ha
  have q30 := Nq.new hB3.fpb z25
  have q31 := Nq.madeF z25 zf28 hB3.bi
  have q32 := Nf.new hB3.fpb zf28
  replace hB3 := hB3.ext hx21
  have hE33 := Ext.trans hE15 hx21
  have q34 := Zn.upD z25 hE15
  have q35 := zf_up zf28 hE15
  obtain ⟨fp36, hro37, hs38⟩ := h24.roF
  obtain ⟨x39, hc40, hF⟩ := cal_some hF
  refine o_call ha rfl rfl Tryd.call11 (W_spec_BestMatch hro37 hc40) ?_; clear ha a; rintro v41 w42 ⟨b44, fs48, h45, z46, zf49, nd50, hx43⟩ a ha
  have q51 := Nq.new hB3.fpb z46
  have q52 := Nq.madeF z46 zf49 hB3.bi
  have q53 := Nq.new h24.fpb z46
  have q54 := Nq.madeF z46 zf49 h24.blt
  have q55 := Nf.new hB3.fpb zf49
  have q56 := Nf.new h24.fpb zf49
  have q57 := Nf.old z46 zf49 h24.bnd
  replace hB3 := hB3.ext hx43
  replace h24 := h24.ext hx43
  have hE58 := Ext.trans hE33 hx43
  have q59 := Zn.upD z46 hE33
  have q60 := zf_up zf49 hE33
  refine op_g ha rfl (g_assign rfl) ?_; clear ha a; intro a ha; refine wpList_nil ?_; replace ha := ha.sub (σ' := [(1, (.pointer (some ⟨b1, 0, none⟩))), (4, v41)]) ⟨rfl, rfl, trivial⟩; refine e_then ?_; refine wp_seq ?_; refine wp_region_lit ?_; refine op_g ha rfl (g_loadA (cs := [va0_0]) Tryd.isAgg24 Tryd.sizeOf24 rfl (by simp) hB3.all) ?_; clear ha a; intro a ha; obtain ⟨x61, hc62, hF⟩ := cal_some hF
  refine o_call ha rfl rfl Tryd.call8 (W_laws_toGraph (ha0_0.ext hE58) hc62) ?_; clear ha a; rintro v63 w64 ⟨u66, b67, fs71, rfl, h68, z69, zf72, nd73, hx65⟩ a ha
  have q74 := Nq.new hB3.fpb z69
  have q75 := Nq.madeF z69 zf72 hB3.bi
  have q76 := Nq.new h45.fpb z69
  have q77 := Nq.madeF z69 zf72 h45.blt
  have q78 := Nf.new hB3.fpb zf72
  have q79 := Nf.new h45.fpb zf72
  have q80 := Nf.old z69 zf72 h45.bnd
  replace hB3 := hB3.ext hx65
  replace h45 := h45.ext hx65
  have hE81 := Ext.trans hE58 hx65
  have q82 := Zn.upD z69 hE58
  have q83 := zf_up zf72 hE58
  refine o_alloc (cs := [(.slice none 0 0)]) ha rfl Tryd.zeroValue27 rfl ?_; clear ha a; intro b84 w85 hB86 hx87 hlo88 a ha
  have q89 := Zn.one hlo88
  have q90 := Nq.new hB3.fpb q89
  have q91 := Nq.made1 hlo88 hB3.bi
  have q92 := Nq.new h45.fpb q89
  have q93 := Nq.made1 hlo88 h45.blt
  have q94 := Nq.new h68.fpb q89
  have q95 := Nq.made1 hlo88 h68.blt
  have q96 := Zn.upD q89 hE81
  replace hB3 := hB3.ext hx87
  replace h45 := h45.ext hx87
  replace h68 := h68.ext hx87
  have hE97 := Ext.trans hE81 hx87
  refine o_storeA (vs := [u66]) ha hB86 Tryd.sizeOf27 rfl rfl (by intro c hc; simp only [List.mem_cons, List.not_mem_nil, or_false] at hc; rcases hc with hc <;> subst hc <;> first | rfl | exact h68.oneC) rfl ?_; intro w98 hB99 hc100
  replace hc100 := hc100.bl
  replace hB99 : Bx w98 b84 [u66] 27 := hB99
  replace hB3 := hB3.nq hc100 q90
  replace h45 := h45.nq hc100 q92
  replace h68 := h68.nq hc100 q94
  have hE101 := Ext.then hE97 hc100 (Zn.bl q96)
  refine wpList_nil ?_; replace ha := ha.sub (σ' := [(1, (.pointer (some ⟨b1, 0, none⟩))), (4, v41), (5, (.pointer (some ⟨b84, 0, none⟩)))]) ⟨rfl, rfl, rfl, trivial⟩; refine e_then ?_; refine wp_seq ?_; refine wp_region_lit ?_; refine op_g ha rfl (g_loadA (cs := [u66]) Tryd.isAgg27 Tryd.sizeOf27 rfl (by simp) hB99.all) ?_; clear ha a; intro a ha
  obtain ⟨fp102, hro103, hs104⟩ := h68.roF
  obtain ⟨x105, hc106, hF⟩ := cal_some hF
  refine o_call ha rfl rfl Tryd.call12 (W_impl_BestMatch hro103 (hG.ext hE101) hc106) ?_; clear ha a; rintro v107 w108 ⟨b110, fs114, h111, z112, zf115, nd116, hx109⟩ a ha
  have q117 := Nq.new hB3.fpb z112
  have q118 := Nq.madeF z112 zf115 hB3.bi
  have q119 := Nq.new h45.fpb z112
  have q120 := Nq.madeF z112 zf115 h45.blt
  have q121 := Nq.new h68.fpb z112
  have q122 := Nq.madeF z112 zf115 h68.blt
  have q123 := Nq.new hB99.fpb z112
  have q124 := Nq.madeF z112 zf115 hB99.bi
  have q125 := Nf.new hB3.fpb zf115
  have q126 := Nf.new h45.fpb zf115
  have q127 := Nf.old z112 zf115 h45.bnd
  have q128 := Nf.new h68.fpb zf115
  have q129 := Nf.old z112 zf115 h68.bnd
  have q130 := Nf.new hB99.fpb zf115
  replace hB3 := hB3.ext hx109
  replace h45 := h45.ext hx109
  replace h68 := h68.ext hx109
  replace hB99 := hB99.ext hx109
  have hE131 := Ext.trans hE101 hx109
  have q132 := Zn.upD z112 hE101
  have q133 := zf_up zf115 hE101
  refine op_g ha rfl (g_assign rfl) ?_; clear ha a; intro a ha; refine wpList_nil ?_; replace ha := ha.sub (σ' := [(1, (.pointer (some ⟨b1, 0, none⟩))), (4, v41), (5, (.pointer (some ⟨b84, 0, none⟩))), (6, v107)]) ⟨rfl, rfl, rfl, rfl, trivial⟩; refine e_then ?_; refine wp_seq ?_; refine wp_seq ?_; refine wp_region_lit ?_; (iterate 2 refine op_g ha rfl (g_move rfl) ?_; clear ha a; intro a ha)
  obtain ⟨fp134, hro135, hs136⟩ := h111.roF
  obtain ⟨fp137, hro138, hs139⟩ := h45.roF
  obtain ⟨x140, hc141, hF⟩ := cal_some hF
  refine o_call ha rfl rfl Tryd.call13 (W_laws_eqInt64SS hro135 hro138 hc141) ?_; clear ha a; rintro v142 w143 ⟨rfl, hx144⟩ a ha
  replace hB3 := hB3.ext hx144
  replace h45 := h45.ext hx144
  replace h68 := h68.ext hx144
  replace hB99 := hB99.ext hx144
  replace h111 := h111.ext hx144
  have hE145 := Ext.trans hE131 hx144
  refine op_g ha rfl (g_not rfl) ?_; clear ha a; intro a ha; refine wpList_nil ?_; replace ha := ha.sub (σ' := [(1, (.pointer (some ⟨b1, 0, none⟩))), (4, v41), (5, (.pointer (some ⟨b84, 0, none⟩))), (6, v107), (26, (.bool (!x140)))]) ⟨rfl, rfl, rfl, rfl, rfl, trivial⟩; refine e_then ?_; refine c_cond (¬ (x140 = true)) ha rfl (n_iff (Iff.rfl)) (fun hp146 => ?_) (fun hp146 => ?_)
  · replace hF := if_t hp146 hF
    refine wp_seq ?_; refine wp_region_lit ?_; refine op_g ha rfl (g_assign rfl) ?_; clear ha a; intro a ha; refine wpList_nil ?_; replace ha := ha.sub (σ' := [(2, (.bool false))]) ⟨rfl, trivial⟩; refine e_then ?_; refine wp_ret ?_; refine e_then_ret ?_; obtain rfl := Option.some.inj hF
    exact f_ret1 ha rfl rfl ⟨rfl, hE145⟩
  replace hF := if_f hp146 hF; refine wp_skip ?_; refine e_then ?_; refine wp_seq ?_; refine wp_seq ?_; refine d_region [0, 1, 2, 3, 4] hmix ?_; refine u_g 0 rfl (by kernel_rfl) (want0 _) ha rfl (g_loadA (cs := [u66]) Tryd.isAgg27 Tryd.sizeOf27 rfl (by simp) hB99.all) ?_; clear ha a; intro a ha; refine u_g 1 rfl (by kernel_rfl) (want0 _) ha rfl (g_loadA (cs := [va0_0]) Tryd.isAgg24 Tryd.sizeOf24 rfl (by simp) hB3.all) ?_; clear ha a; intro a ha
  refine u_only 2 rfl (by kernel_rfl) ?_; intro w147 hx148
  replace hB3 := hB3.ext hx148
  replace h45 := h45.ext hx148
  replace h68 := h68.ext hx148
  replace hB99 := hB99.ext hx148
  replace h111 := h111.ext hx148
  have hE149 := Ext.trans hE145 hx148
  obtain ⟨x150, hc151, hF⟩ := cal_some hF
  refine o_call ha rfl rfl Tryd.call8 (W_laws_toGraph (ha0_0.ext hE149) hc151) ?_; clear ha a; rintro v152 w153 ⟨u155, b156, fs160, rfl, h157, z158, zf161, nd162, hx154⟩ a ha
  have q163 := Nq.new hB3.fpb z158
  have q164 := Nq.madeF z158 zf161 hB3.bi
  have q165 := Nq.new h45.fpb z158
  have q166 := Nq.madeF z158 zf161 h45.blt
  have q167 := Nq.new h68.fpb z158
  have q168 := Nq.madeF z158 zf161 h68.blt
  have q169 := Nq.new hB99.fpb z158
  have q170 := Nq.madeF z158 zf161 hB99.bi
  have q171 := Nq.new h111.fpb z158
  have q172 := Nq.madeF z158 zf161 h111.blt
  have q173 := Nf.new hB3.fpb zf161
  have q174 := Nf.new h45.fpb zf161
  have q175 := Nf.old z158 zf161 h45.bnd
  have q176 := Nf.new h68.fpb zf161
  have q177 := Nf.old z158 zf161 h68.bnd
  have q178 := Nf.new hB99.fpb zf161
  have q179 := Nf.new h111.fpb zf161
  have q180 := Nf.old z158 zf161 h111.bnd
  replace hB3 := hB3.ext hx154
  replace h45 := h45.ext hx154
  replace h68 := h68.ext hx154
  replace hB99 := hB99.ext hx154
  replace h111 := h111.ext hx154
  have hE181 := Ext.trans hE149 hx154
  have q182 := Zn.upD z158 hE149
  have q183 := zf_up zf161 hE149
  refine wpList_nil (e_sq ?_)
  refine ⟨fun _ => hx154, ?_⟩
  obtain ⟨fp186, hro187, hs188⟩ := h68.roF
  obtain ⟨fp189, hro190, hs191⟩ := h157.roF
  obtain ⟨x192, hc193, hF⟩ := cal_some hF; refine u_call (.bool x192) 3 rfl (by kernel_rfl) (want0 _) ha rfl rfl Tryd.call10 (fun w185 hx184 => W_laws_eqGraph (hro187.ext hx184) (hro190.ext hx184) hc193) (fun _ _ _ h => ⟨h.1, h.2⟩) ?_; clear ha a; intro a ha; refine u_g 4 rfl (by kernel_rfl) (want0 _) ha rfl (g_not rfl) ?_; clear ha a; intro a ha
  refine u_done (by kernel_rfl) ?_; intro w194 hx195
  replace hB3 := hB3.ext hx195
  replace h45 := h45.ext hx195
  replace h68 := h68.ext hx195
  replace hB99 := hB99.ext hx195
  replace h111 := h111.ext hx195
  replace h157 := h157.ext hx195
  have hE196 := Ext.trans hE181 hx195
  replace ha := ha.sub (σ' := [(1, (.pointer (some ⟨b1, 0, none⟩))), (4, v41), (5, (.pointer (some ⟨b84, 0, none⟩))), (6, v107), (31, (.bool (!x192)))]) ⟨rfl, rfl, rfl, rfl, rfl, trivial⟩; refine e_then ?_; refine c_cond (¬ (x192 = true)) ha rfl (n_iff (Iff.rfl)) (fun hp197 => ?_) (fun hp197 => ?_)
  · replace hF := if_t hp197 hF
    refine wp_seq ?_; refine wp_region_lit ?_; refine op_g ha rfl (g_assign rfl) ?_; clear ha a; intro a ha; refine wpList_nil ?_; replace ha := ha.sub (σ' := [(2, (.bool false))]) ⟨rfl, trivial⟩; refine e_then ?_; refine wp_ret ?_; refine e_then_ret ?_; obtain rfl := Option.some.inj hF
    exact f_ret1 ha rfl rfl ⟨rfl, hE196⟩
  replace hF := if_f hp197 hF; refine wp_skip ?_; refine e_then ?_; refine wp_seq ?_; refine wp_region_lit ?_; refine op_g ha rfl (g_assign rfl) ?_; clear ha a; intro a ha; refine wpList_nil ?_; replace ha := ha.sub (σ' := [(1, (.pointer (some ⟨b1, 0, none⟩))), (4, v41), (5, (.pointer (some ⟨b84, 0, none⟩))), (6, v107), (7, (.int .i64 1))]) ⟨rfl, rfl, rfl, rfl, rfl, trivial⟩; refine e_then ?_; refine wp_seq ?_; refine wp_region_lit ?_; refine op_g ha rfl (g_loadA (cs := [u66]) Tryd.isAgg27 Tryd.sizeOf27 rfl (by simp) hB99.all) ?_; clear ha a; intro a ha; refine op_g ha rfl (g_move rfl) ?_; clear ha a; intro a ha
  obtain ⟨x198, hc199, hF⟩ := cal_some hF
  refine o_call ha rfl rfl Tryd.call14 (W_laws_markGraph h68 nd73 (show InI 1 from by decide) hc199) ?_; clear ha a; rintro v200 w201 ⟨⟨rfl, hI203⟩, h204, hx202⟩ a ha
  replace hB3 := hB3.off hx202 (Off.nest q74 q78); replace h45 := h45.off hx202 (Off.nest q76 q79); replace h111 := h111.off hx202 (Off.nest q122 q129)
  have hE205 := Chg.join hE196 hx202 (S2.nest q82 q83)
  refine op_g ha rfl (g_assign rfl) ?_; clear ha a; intro a ha; refine wpList_nil ?_; replace ha := ha.sub (σ' := [(1, (.pointer (some ⟨b1, 0, none⟩))), (4, v41), (6, v107), (7, (.int .i64 x198.1))]) ⟨rfl, rfl, rfl, rfl, trivial⟩; refine e_then ?_; refine wp_seq ?_; refine wp_seq ?_; refine wp_region_lit ?_; refine op_g ha rfl (g_move rfl) ?_; clear ha a; intro a ha; refine op_g ha rfl (g_lss rfl rfl) ?_; clear ha a; intro a ha; refine op_g ha rfl (g_move rfl) ?_; clear ha a; intro a ha
  by_cases hp220 : x198.1 < 0
  · replace hF := if_t hp220 hF
    rw [show (decide (x198.1 < 0)) = true from (decide_eq_true_iff).2 hp220] at ha
    (iterate 4 refine op_unwant ha rfl (yields ha rfl rfl) rfl ?_; clear ha a; intro a ha); refine op_g ha rfl (g_pick rfl rfl) ?_; clear ha a; intro a ha; refine wpList_nil ?_; replace ha := ha.sub (σ' := [(1, (.pointer (some ⟨b1, 0, none⟩))), (4, v41), (6, v107), (42, (.bool true))]) ⟨rfl, rfl, rfl, rfl, trivial⟩; refine e_then ?_; refine c_true ha rfl ?_; refine wp_seq ?_; refine wp_region_lit ?_; refine op_g ha rfl (g_assign rfl) ?_; clear ha a; intro a ha; refine wpList_nil ?_; replace ha := ha.sub (σ' := [(2, (.bool false))]) ⟨rfl, trivial⟩; refine e_then ?_; refine wp_ret ?_; refine e_then_ret ?_
    obtain rfl := Option.some.inj hF
    exact f_ret1 ha rfl rfl ⟨rfl, hE205⟩
  replace hF := if_f hp220 hF
  rw [show (decide (x198.1 < 0)) = false from b_false (decide_eq_true_iff) hp220] at ha
  refine op_want (yields ha rfl rfl) ?_; refine op_g ha rfl (g_move rfl) ?_; clear ha a; intro a ha; refine op_want (yields ha rfl rfl) ?_; refine op_g ha rfl (g_move rfl) ?_; clear ha a; intro a ha; refine op_want (yields ha rfl rfl) ?_
  obtain ⟨fp221, hro222, hs223⟩ := h111.roF
  obtain ⟨fp224, hro225, hs226⟩ := h45.roF
  obtain ⟨x227, hc228, hF⟩ := cal_some hF
  refine o_call ha rfl rfl Tryd.call13 (W_laws_eqInt64SS hro222 hro225 hc228) ?_; clear ha a; rintro v229 w230 ⟨rfl, hx231⟩ a ha
  replace hB3 := hB3.ext hx231
  replace h45 := h45.ext hx231
  replace h111 := h111.ext hx231
  have hE232 := Ext.trans hE205 hx231
  refine op_want (yields ha rfl rfl) ?_; refine op_g ha rfl (g_not rfl) ?_; clear ha a; intro a ha; refine op_g ha rfl (g_pick rfl rfl) ?_; clear ha a; intro a ha; refine wpList_nil ?_; replace ha := ha.sub (σ' := [(1, (.pointer (some ⟨b1, 0, none⟩))), (4, v41), (6, v107), (42, (.bool (!x227)))]) ⟨rfl, rfl, rfl, rfl, trivial⟩; refine e_then ?_; refine c_cond (¬ (x227 = true)) ha rfl (n_iff (Iff.rfl)) (fun hp233 => ?_) (fun hp233 => ?_)
  · replace hF := if_t hp233 hF
    refine wp_seq ?_; refine wp_region_lit ?_; refine op_g ha rfl (g_assign rfl) ?_; clear ha a; intro a ha; refine wpList_nil ?_; replace ha := ha.sub (σ' := [(2, (.bool false))]) ⟨rfl, trivial⟩; refine e_then ?_; refine wp_ret ?_; refine e_then_ret ?_; obtain rfl := Option.some.inj hF
    exact f_ret1 ha rfl rfl ⟨rfl, hE232⟩
  replace hF := if_f hp233 hF; refine wp_skip ?_; refine e_then ?_; refine wp_seq ?_; refine wp_region_lit ?_; refine op_g ha rfl (g_assign rfl) ?_; clear ha a; intro a ha; refine wpList_nil ?_; replace ha := ha.sub (σ' := [(1, (.pointer (some ⟨b1, 0, none⟩))), (4, v41), (6, v107), (8, (.int .i64 1))]) ⟨rfl, rfl, rfl, rfl, trivial⟩; refine e_then ?_; refine wp_seq ?_; refine wp_region_lit ?_; (iterate 2 refine op_g ha rfl (g_move rfl) ?_; clear ha a; intro a ha); obtain ⟨x234, hc235, hF⟩ := cal_some hF
  refine o_call ha rfl rfl Tryd.call15 (W_laws_markInt64SS h111 nd116 (show InI 1 from by decide) hc235) ?_; clear ha a; rintro v236 w237 ⟨⟨rfl, hI239⟩, h240, hx238⟩ a ha
  replace hB3 := hB3.off hx238 (Off.nest q117 q125); replace h45 := h45.off hx238 (Off.nest q119 q126)
  have hE241 := Chg.join hE232 hx238 (S2.nest q132 q133)
  refine op_g ha rfl (g_assign rfl) ?_; clear ha a; intro a ha; refine wpList_nil ?_; replace ha := ha.sub (σ' := [(1, (.pointer (some ⟨b1, 0, none⟩))), (4, v41), (6, v107), (8, (.int .i64 x234.1))]) ⟨rfl, rfl, rfl, rfl, trivial⟩; refine e_then ?_; refine wp_seq ?_; refine wp_region_lit ?_; refine op_g ha rfl (g_assign rfl) ?_; clear ha a; intro a ha; refine wpList_nil ?_; replace ha := ha.sub (σ' := [(1, (.pointer (some ⟨b1, 0, none⟩))), (4, v41), (6, v107), (8, (.int .i64 x234.1)), (9, (.int .i64 1))]) ⟨rfl, rfl, rfl, rfl, rfl, trivial⟩; refine e_then ?_; refine wp_seq ?_; refine wp_region_lit ?_
  (iterate 2 refine op_g ha rfl (g_move rfl) ?_; clear ha a; intro a ha)
  obtain ⟨fp242, hro243, hs244⟩ := h240.roF
  obtain ⟨x245, hc246, hF⟩ := cal_some hF
  refine o_call ha rfl rfl Tryd.call16 (W_laws_heldInt64SS hro243 (show InI 1 from by decide) hc246) ?_; clear ha a; rintro v247 w248 ⟨⟨rfl, hI250⟩, hx249⟩ a ha
  replace hB3 := hB3.ext hx249
  replace h45 := h45.ext hx249
  replace h240 := h240.ext hx249
  have hE251 := Ext.trans hE241 hx249
  refine op_g ha rfl (g_assign rfl) ?_; clear ha a; intro a ha; refine wpList_nil ?_; replace ha := ha.sub (σ' := [(1, (.pointer (some ⟨b1, 0, none⟩))), (4, v41), (6, v107), (8, (.int .i64 x234.1)), (9, (.int .i64 x245))]) ⟨rfl, rfl, rfl, rfl, rfl, trivial⟩; refine e_then ?_; refine wp_seq ?_; refine wp_seq ?_; refine wp_region_lit ?_; refine op_g ha rfl (g_move rfl) ?_; clear ha a; intro a ha; refine op_g ha rfl (g_lss rfl rfl) ?_; clear ha a; intro a ha; refine wpList_nil ?_; replace ha := ha.sub (σ' := [(1, (.pointer (some ⟨b1, 0, none⟩))), (4, v41), (6, v107), (8, (.int .i64 x234.1)), (9, (.int .i64 x245)), (50, (.bool (decide (x245 < 0))))]) ⟨rfl, rfl, rfl, rfl, rfl, rfl, trivial⟩
  refine e_then ?_; refine c_cond (x245 < 0) ha rfl (decide_eq_true_iff) (fun hp252 => ?_) (fun hp252 => ?_)
  · replace hF := if_t hp252 hF
    refine wp_seq ?_; refine wp_region_lit ?_; refine op_g ha rfl (g_assign rfl) ?_; clear ha a; intro a ha; refine wpList_nil ?_; replace ha := ha.sub (σ' := [(2, (.bool false))]) ⟨rfl, trivial⟩; refine e_then ?_; refine wp_ret ?_; refine e_then_ret ?_; obtain rfl := Option.some.inj hF
    exact f_ret1 ha rfl rfl ⟨rfl, hE251⟩
  replace hF := if_f hp252 hF; refine wp_skip ?_; refine e_then ?_; refine wp_seq ?_; refine wp_seq ?_; refine wp_region_lit ?_; (iterate 2 refine op_g ha rfl (g_move rfl) ?_; clear ha a; intro a ha); refine op_g ha rfl (g_neq rfl rfl) ?_; clear ha a; intro a ha; refine wpList_nil ?_; replace ha := ha.sub (σ' := [(1, (.pointer (some ⟨b1, 0, none⟩))), (4, v41), (6, v107), (8, (.int .i64 x234.1)), (53, (.bool (decide (x245 ≠ x234.1))))]) ⟨rfl, rfl, rfl, rfl, rfl, trivial⟩; refine e_then ?_; refine c_cond (x245 ≠ x234.1) ha rfl (decide_eq_true_iff) (fun hp253 => ?_) (fun hp253 => ?_)
  · replace hF := if_t hp253 hF
    refine wp_seq ?_; refine wp_region_lit ?_; refine op_g ha rfl (g_assign rfl) ?_; clear ha a; intro a ha; refine wpList_nil ?_; replace ha := ha.sub (σ' := [(2, (.bool false))]) ⟨rfl, trivial⟩; refine e_then ?_; refine wp_ret ?_; refine e_then_ret ?_; obtain rfl := Option.some.inj hF
    exact f_ret1 ha rfl rfl ⟨rfl, hE251⟩
  replace hF := if_f hp253 hF; refine wp_skip ?_; refine e_then ?_; refine wp_seq ?_; refine wp_region_lit ?_; refine op_g ha rfl (g_loadA (cs := [va0_0]) Tryd.isAgg24 Tryd.sizeOf24 rfl (by simp) hB3.all) ?_; clear ha a; intro a ha; obtain ⟨x254, hc255, hF⟩ := cal_some hF
  refine o_call ha rfl rfl Tryd.call8 (W_laws_toGraph (ha0_0.ext hE251) hc255) ?_; clear ha a; rintro v256 w257 ⟨u259, b260, fs264, rfl, h261, z262, zf265, nd266, hx258⟩ a ha
  have q267 := Nq.new hB3.fpb z262
  have q268 := Nq.madeF z262 zf265 hB3.bi
  have q269 := Nq.new h45.fpb z262
  have q270 := Nq.madeF z262 zf265 h45.blt
  have q271 := Nq.new h240.fpb z262
  have q272 := Nq.madeF z262 zf265 h240.blt
  have q273 := Nf.new hB3.fpb zf265
  have q274 := Nf.new h45.fpb zf265
  have q275 := Nf.old z262 zf265 h45.bnd
  have q276 := Nf.new h240.fpb zf265
  have q277 := Nf.old z262 zf265 h240.bnd
  replace hB3 := hB3.ext hx258
  replace h45 := h45.ext hx258
  replace h240 := h240.ext hx258
  have hE278 := Ext.trans hE251 hx258
  have q279 := Zn.upD z262 hE251
  have q280 := zf_up zf265 hE251
  obtain ⟨fp281, hro282, hs283⟩ := h261.roF
  obtain ⟨x284, hc285, hF⟩ := cal_some hF
  refine o_call ha rfl rfl Tryd.call12 (W_impl_BestMatch hro282 (hG.ext hE278) hc285) ?_; clear ha a; rintro v286 w287 ⟨b289, fs293, h290, z291, zf294, nd295, hx288⟩ a ha
  have q296 := Nq.new hB3.fpb z291
  have q297 := Nq.madeF z291 zf294 hB3.bi
  have q298 := Nq.new h45.fpb z291
  have q299 := Nq.madeF z291 zf294 h45.blt
  have q300 := Nq.new h240.fpb z291
  have q301 := Nq.madeF z291 zf294 h240.blt
  have q302 := Nq.new h261.fpb z291
  have q303 := Nq.madeF z291 zf294 h261.blt
  have q304 := Nf.new hB3.fpb zf294
  have q305 := Nf.new h45.fpb zf294
  have q306 := Nf.old z291 zf294 h45.bnd
  have q307 := Nf.new h240.fpb zf294
  have q308 := Nf.old z291 zf294 h240.bnd
  have q309 := Nf.new h261.fpb zf294
  have q310 := Nf.old z291 zf294 h261.bnd
  replace hB3 := hB3.ext hx288
  replace h45 := h45.ext hx288
  replace h240 := h240.ext hx288
  replace h261 := h261.ext hx288
  have hE311 := Ext.trans hE278 hx288
  have q312 := Zn.upD z291 hE278
  have q313 := zf_up zf294 hE278
  refine op_g ha rfl (g_assign rfl) ?_; clear ha a; intro a ha; refine wpList_nil ?_; replace ha := ha.sub (σ' := [(4, v41), (6, v107), (8, (.int .i64 x234.1)), (10, v286)]) ⟨rfl, rfl, rfl, rfl, trivial⟩; refine e_then ?_; refine wp_seq ?_; refine wp_seq ?_; refine wp_region_lit ?_; (iterate 2 refine op_g ha rfl (g_move rfl) ?_; clear ha a; intro a ha)
  obtain ⟨fp314, hro315, hs316⟩ := h290.roF
  obtain ⟨fp317, hro318, hs319⟩ := h45.roF
  obtain ⟨x320, hc321, hF⟩ := cal_some hF
  refine o_call ha rfl rfl Tryd.call13 (W_laws_eqInt64SS hro315 hro318 hc321) ?_; clear ha a; rintro v322 w323 ⟨rfl, hx324⟩ a ha
  replace h45 := h45.ext hx324
  replace h240 := h240.ext hx324
  replace h290 := h290.ext hx324
  have hE325 := Ext.trans hE311 hx324
  refine op_g ha rfl (g_not rfl) ?_; clear ha a; intro a ha; refine wpList_nil ?_; replace ha := ha.sub (σ' := [(6, v107), (8, (.int .i64 x234.1)), (60, (.bool (!x320)))]) ⟨rfl, rfl, rfl, trivial⟩; refine e_then ?_; refine c_cond (¬ (x320 = true)) ha rfl (n_iff (Iff.rfl)) (fun hp326 => ?_) (fun hp326 => ?_)
  · replace hF := if_t hp326 hF
    refine wp_seq ?_; refine wp_region_lit ?_; refine op_g ha rfl (g_assign rfl) ?_; clear ha a; intro a ha; refine wpList_nil ?_; replace ha := ha.sub (σ' := [(2, (.bool false))]) ⟨rfl, trivial⟩; refine e_then ?_; refine wp_ret ?_; refine e_then_ret ?_; obtain rfl := Option.some.inj hF
    exact f_ret1 ha rfl rfl ⟨rfl, hE325⟩
  replace hF := if_f hp326 hF; refine wp_skip ?_; refine e_then ?_; refine wp_seq ?_; refine wp_region_lit ?_; refine op_g ha rfl (g_assign rfl) ?_; clear ha a; intro a ha; refine wpList_nil ?_; replace ha := ha.sub (σ' := [(6, v107), (8, (.int .i64 x234.1)), (9, (.int .i64 1))]) ⟨rfl, rfl, rfl, trivial⟩; refine e_then ?_; refine wp_seq ?_; refine wp_region_lit ?_; (iterate 2 refine op_g ha rfl (g_move rfl) ?_; clear ha a; intro a ha)
  obtain ⟨fp327, hro328, hs329⟩ := h240.roF
  obtain ⟨x330, hc331, hF⟩ := cal_some hF
  refine o_call ha rfl rfl Tryd.call16 (W_laws_heldInt64SS hro328 (show InI 1 from by decide) hc331) ?_; clear ha a; rintro v332 w333 ⟨⟨rfl, hI335⟩, hx334⟩ a ha
  replace h240 := h240.ext hx334
  have hE336 := Ext.trans hE325 hx334
  refine op_g ha rfl (g_assign rfl) ?_; clear ha a; intro a ha; refine wpList_nil ?_; replace ha := ha.sub (σ' := [(8, (.int .i64 x234.1)), (9, (.int .i64 x330))]) ⟨rfl, rfl, trivial⟩; refine e_then ?_; refine wp_seq ?_; refine wp_seq ?_; refine wp_region_lit ?_; refine op_g ha rfl (g_move rfl) ?_; clear ha a; intro a ha; refine op_g ha rfl (g_lss rfl rfl) ?_; clear ha a; intro a ha; refine wpList_nil ?_; replace ha := ha.sub (σ' := [(8, (.int .i64 x234.1)), (9, (.int .i64 x330)), (65, (.bool (decide (x330 < 0))))]) ⟨rfl, rfl, rfl, trivial⟩; refine e_then ?_; refine c_cond (x330 < 0) ha rfl (decide_eq_true_iff) (fun hp337 => ?_) (fun hp337 => ?_)
  · replace hF := if_t hp337 hF
    refine wp_seq ?_; refine wp_region_lit ?_; refine op_g ha rfl (g_assign rfl) ?_; clear ha a; intro a ha; refine wpList_nil ?_; replace ha := ha.sub (σ' := [(2, (.bool false))]) ⟨rfl, trivial⟩; refine e_then ?_; refine wp_ret ?_; refine e_then_ret ?_; obtain rfl := Option.some.inj hF
    exact f_ret1 ha rfl rfl ⟨rfl, hE336⟩
  replace hF := if_f hp337 hF; refine wp_skip ?_; refine e_then ?_; refine wp_seq ?_; refine wp_seq ?_; refine wp_region_lit ?_; (iterate 2 refine op_g ha rfl (g_move rfl) ?_; clear ha a; intro a ha); refine op_g ha rfl (g_neq rfl rfl) ?_; clear ha a; intro a ha; refine wpList_nil ?_; replace ha := ha.sub (σ' := [(68, (.bool (decide (x330 ≠ x234.1))))]) ⟨rfl, trivial⟩; refine e_then ?_; refine c_cond (x330 ≠ x234.1) ha rfl (decide_eq_true_iff) (fun hp338 => ?_) (fun hp338 => ?_)
  · replace hF := if_t hp338 hF
    refine wp_seq ?_; refine wp_region_lit ?_; refine op_g ha rfl (g_assign rfl) ?_; clear ha a; intro a ha; refine wpList_nil ?_; replace ha := ha.sub (σ' := [(2, (.bool false))]) ⟨rfl, trivial⟩; refine e_then ?_; refine wp_ret ?_; refine e_then_ret ?_; obtain rfl := Option.some.inj hF
    exact f_ret1 ha rfl rfl ⟨rfl, hE336⟩
  replace hF := if_f hp338 hF; refine wp_skip ?_; refine e_then ?_; refine wp_seq ?_; refine wp_region_lit ?_; refine op_g ha rfl (g_assign rfl) ?_; clear ha a; intro a ha; refine wpList_nil ?_; replace ha := ha.sub (σ' := [(2, (.bool true))]) ⟨rfl, trivial⟩; refine e_then ?_; refine wp_ret ?_; obtain rfl := Option.some.inj hF
  exact f_ret1 ha rfl rfl ⟨rfl, hE336⟩
end Go.Proofs.YthbmcbflnibpbaaDoor
