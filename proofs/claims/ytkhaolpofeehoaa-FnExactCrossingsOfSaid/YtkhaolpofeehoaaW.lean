/- Walks, printed by gen.py. -/
import Derived.Test.YtkhaolpofeehoaaF
import Derived.Test.YtkhaolpofeehoaaW1
import Derived.Test.YtkhaolpofeehoaaProg
import Derived.KernelRfl
set_option maxRecDepth 100000
namespace Go.Proofs.Ytkhaolpofeehoaa
open Go Go.RowKit

set_option maxHeartbeats 2000000 in
theorem W_impl_placesIn {W : World} {va0 : Value} {fa0 : List Nat} {a0 : (List Int)} (ha0 : Ro Rp.int W fa0 va0 a0) {r : ((List Int) × Bool)} (hF : F_impl_placesIn a0 = some r) :
    Calls Try.prog 41 [va0].toArray W (Ret fun u w' => ∃ (u0 : Value) (u1 : Value) (b_u0 : Int), u = .tuple #[u0, u1] ∧ Ow Rp.int 3 true w' [] b_u0 u0 r.1 ∧ Zn W b_u0 ∧ u1 = .bool r.2 ∧ Ext W w') := by
  refine f_enter Try.func41 rfl Try.ntmps41 rfl ?_
  intro a ha
  replace ha : Fr 39 [(0, va0)] a := ha
  have hE : Chg [] W W := Chg.refl _ _
  unfold F_impl_placesIn at hF
  refine wp_seq ?_; refine wp_region_lit ?_; (iterate 2 refine op_g ha rfl (g_assign rfl) ?_; clear ha a; intro a ha); refine wpList_nil ?_; replace ha := ha.sub (σ' := [(0, va0)]) ⟨rfl, trivial⟩; refine e_then ?_; refine wp_seq ?_; refine wp_region_lit ?_; refine op_g ha rfl (g_move rfl) ?_; clear ha a; intro a ha; refine op_g ha rfl (g_lenR sl25.und ha0 rfl) ?_; clear ha a; intro a ha; refine op_g ha rfl (g_assign rfl) ?_; clear ha a; intro a ha; refine wpList_nil ?_; replace ha := ha.sub (σ' := [(0, va0), (4, (.int .i64 (a0.length : Int)))]) ⟨rfl, rfl, trivial⟩; refine e_then ?_; refine wp_seq ?_
  refine wp_seq ?_; refine wp_region_lit ?_; refine op_g ha rfl (g_move rfl) ?_; clear ha a; intro a ha; refine op_g ha rfl (g_lss rfl rfl) ?_; clear ha a; intro a ha; refine op_g ha rfl (g_move rfl) ?_; clear ha a; intro a ha
  by_cases hp31 : (a0.length : Int) < 1
  · replace hF := if_t hp31 hF
    rw [show (decide ((a0.length : Int) < 1)) = true from (decide_eq_true_iff).2 hp31] at ha
    (iterate 2 refine op_unwant ha rfl (yields ha rfl rfl) rfl ?_; clear ha a; intro a ha); refine op_g ha rfl (g_pick rfl rfl) ?_; clear ha a; intro a ha; refine op_g ha rfl (g_move rfl) ?_; clear ha a; intro a ha; (iterate 6 refine op_unwant ha rfl (yields ha rfl rfl) rfl ?_; clear ha a; intro a ha); refine op_g ha rfl (g_pick rfl rfl) ?_; clear ha a; intro a ha; refine wpList_nil ?_; replace ha := ha.sub (σ' := [(0, va0), (4, (.int .i64 (a0.length : Int))), (23, (.bool true))]) ⟨rfl, rfl, rfl, trivial⟩; refine e_then ?_; refine c_true ha rfl ?_; refine wp_seq ?_; refine wp_region_lit ?_; (iterate 2 refine op_g ha rfl (g_assign rfl) ?_; clear ha a; intro a ha)
    refine wpList_nil ?_; replace ha := ha.sub (σ' := [(2, (.slice none 0 0)), (3, (.bool false))]) ⟨rfl, rfl, trivial⟩; refine e_then ?_; refine wp_ret ?_; refine e_then_ret ?_; obtain rfl := Option.some.inj hF
    exact f_ret2 ha rfl rfl rfl ⟨_, _, -1, rfl, (Ow.nil (by decide)), (.inl (by decide)), rfl, hE⟩
  replace hF := if_f hp31 hF
  rw [show (decide ((a0.length : Int) < 1)) = false from b_false (decide_eq_true_iff) hp31] at ha
  refine op_want (yields ha rfl rfl) ?_; refine op_g ha rfl (g_move rfl) ?_; clear ha a; intro a ha; refine op_want (yields ha rfl rfl) ?_; refine op_g ha rfl (g_gtr rfl rfl) ?_; clear ha a; intro a ha; refine op_g ha rfl (g_pick rfl rfl) ?_; clear ha a; intro a ha; refine op_g ha rfl (g_move rfl) ?_; clear ha a; intro a ha
  by_cases hp32 : 16 < (a0.length : Int)
  · replace hF := if_t hp32 hF
    rw [show (decide (16 < (a0.length : Int))) = true from (decide_eq_true_iff).2 hp32] at ha
    (iterate 6 refine op_unwant ha rfl (yields ha rfl rfl) rfl ?_; clear ha a; intro a ha); refine op_g ha rfl (g_pick rfl rfl) ?_; clear ha a; intro a ha; refine wpList_nil ?_; replace ha := ha.sub (σ' := [(0, va0), (4, (.int .i64 (a0.length : Int))), (23, (.bool true))]) ⟨rfl, rfl, rfl, trivial⟩; refine e_then ?_; refine c_true ha rfl ?_; refine wp_seq ?_; refine wp_region_lit ?_; (iterate 2 refine op_g ha rfl (g_assign rfl) ?_; clear ha a; intro a ha); refine wpList_nil ?_; replace ha := ha.sub (σ' := [(2, (.slice none 0 0)), (3, (.bool false))]) ⟨rfl, rfl, trivial⟩; refine e_then ?_; refine wp_ret ?_
    refine e_then_ret ?_; obtain rfl := Option.some.inj hF
    exact f_ret2 ha rfl rfl rfl ⟨_, _, -1, rfl, (Ow.nil (by decide)), (.inl (by decide)), rfl, hE⟩
  replace hF := if_f hp32 hF
  rw [show (decide (16 < (a0.length : Int))) = false from b_false (decide_eq_true_iff) hp32] at ha
  refine op_want (yields ha rfl rfl) ?_; refine op_g ha rfl (g_move rfl) ?_; clear ha a; intro a ha; refine op_want (yields ha rfl rfl) ?_; obtain ⟨x33, hc34, hF⟩ := cal_some hF
  refine o_call ha rfl rfl Try.call49 (W_slices_Values_int64 (ha0.ext hE) hc34) ?_; clear ha a; rintro v35 w36 ⟨h38, hx37⟩ a ha
  have hE39 := Ext.trans hE hx37
  refine op_want (yields ha rfl rfl) ?_; obtain ⟨x40, hc41, hF⟩ := cal_some hF
  refine o_call ha rfl rfl Try.call48 (W_slices_Sorted_int64 h38 hc41) ?_; clear ha a; rintro v42 w43 ⟨b45, h46, z47, hx44⟩ a ha
  have hE49 := Ext.trans hE39 hx44
  have q50 := Zn.upD z47 hE39
  refine op_want (yields ha rfl rfl) ?_; refine op_g ha rfl (g_move rfl) ?_; clear ha a; intro a ha; refine op_want (yields ha rfl rfl) ?_
  obtain ⟨fp51, hro52, hs53⟩ := h46.roF
  obtain ⟨x54, hc55, hF⟩ := cal_some hF
  refine o_call ha rfl rfl Try.call50 (W_impl_increasing hro52 ha0.len hc55) ?_; clear ha a; rintro v56 w57 ⟨rfl, hx58⟩ a ha
  replace h46 := h46.ext hx58
  have hE59 := Ext.trans hE49 hx58
  refine op_want (yields ha rfl rfl) ?_; refine op_g ha rfl (g_not rfl) ?_; clear ha a; intro a ha; refine op_g ha rfl (g_pick rfl rfl) ?_; clear ha a; intro a ha; refine wpList_nil ?_; replace ha := ha.sub (σ' := [(0, va0), (4, (.int .i64 (a0.length : Int))), (23, (.bool (!x54)))]) ⟨rfl, rfl, rfl, trivial⟩; refine e_then ?_; refine c_cond (¬ (x54 = true)) ha rfl (n_iff (Iff.rfl)) (fun hp60 => ?_) (fun hp60 => ?_)
  · replace hF := if_t hp60 hF
    refine wp_seq ?_; refine wp_region_lit ?_; (iterate 2 refine op_g ha rfl (g_assign rfl) ?_; clear ha a; intro a ha); refine wpList_nil ?_; replace ha := ha.sub (σ' := [(2, (.slice none 0 0)), (3, (.bool false))]) ⟨rfl, rfl, trivial⟩; refine e_then ?_; refine wp_ret ?_; refine e_then_ret ?_; obtain rfl := Option.some.inj hF
    exact f_ret2 ha rfl rfl rfl ⟨_, _, -1, rfl, (Ow.nil (by decide)), (.inl (by decide)), rfl, hE59⟩
  replace hF := if_f hp60 hF; refine wp_skip ?_; refine e_then ?_; refine wp_seq ?_; refine wp_region_lit ?_; refine op_g ha rfl (g_move rfl) ?_; clear ha a; intro a ha; obtain ⟨g65, g65b, hF⟩ := mkS_some hF
  refine o_make (z0 := (0 : Int)) Rp.int ha rfl sl57 rfl (fun w => ⟨rfl, by decide, rfl⟩) rfl g65 g65b ?_; clear ha a; intro v61 w62 h63 hx64 a ha
  obtain ⟨b68, hb68⟩ : ∃ b : Int, b = w57.heap.size := ⟨_, rfl⟩; rw [← hb68] at h63
  have q69 := zn_of hb68
  have q70 := Zn.upD q69 hE59
  have hE71 := Ext.trans hE59 hx64
  refine op_g ha rfl (g_assign rfl) ?_; clear ha a; intro a ha; refine wpList_nil ?_; replace ha := ha.sub (σ' := [(0, va0), (5, v61)]) ⟨rfl, rfl, trivial⟩; refine e_then ?_; refine wp_seq ?_; refine wp_seq ?_; refine wp_region_lit ?_; refine op_g ha rfl (g_move rfl) ?_; clear ha a; intro a ha; refine op_g ha rfl (g_lenR sl25.und ha0 rfl) ?_; clear ha a; intro a ha; refine op_g ha rfl (g_move rfl) ?_; clear ha a; intro a ha; refine wpList_nil ?_; replace ha := ha.sub (σ' := [(5, v61), (26, va0), (27, (.int .i64 (a0.length : Int))), (28, (.int .i64 0))]) ⟨rfl, rfl, rfl, rfl, trivial⟩; refine e_then ?_
  obtain ⟨o178, ho179, hK180⟩ := bnd_some hF
  obtain ⟨n181, hn182⟩ := lp_some ho179; clear ho179
  refine c_loop (fun a w => ∃ (l175 : (List Int)) (v176 : Value) (b177 : Int), Fr 39 [(5, v176)] a ∧ Chg [] W w ∧ Ow Rp.int 3 true w [] b177 v176 l175 ∧ Zn W b177 ∧ o178 = .inl l175) (fun n a w => ∃ (l123 : (List Int)) (i126 : Int) (v124 : Value) (b125 : Int), Fr 39 [(5, v124), (26, va0), (27, (.int .i64 (a0.length : Int))), (28, (.int .i64 i126))] a ∧ Chg [] W w ∧ InI i126 ∧ Ow Rp.int 3 true w [] b125 v124 l123 ∧ Zn W b125 ∧ lpN (fun s => F_impl_placesIn_l1 a0 s.1 s.2) n (l123, i126) = some o178) n181 ⟨(List.replicate ((a0.length : Int) : Int).toNat (0 : Int)), 0, v61, b68, ha.sub ⟨rfl, rfl, rfl, rfl, trivial⟩, hE71, (show InI 0 from by decide), h63, q70, hn182⟩ ?_ ?_
  · rintro m186 a w119 ⟨l123, i126, v124, b125, ha, hE128, hI127, h121, z122, hF⟩
    cases m186 with
    | zero => exact (lpN_zero hF).elim
    | succ m186 =>
      obtain ⟨z185, hF, hN184⟩ := lpN_succ hF
      have hF : F_impl_placesIn_l1 a0 l123 i126 = some z185 := hF; unfold F_impl_placesIn_l1 at hF
      refine wp_seq ?_; refine wp_region_lit ?_; refine op_g ha rfl (g_lss rfl rfl) ?_; clear ha a; intro a ha; refine wpList_nil ?_; replace ha := ha.sub (σ' := [(5, v124), (26, va0), (27, (.int .i64 (a0.length : Int))), (28, (.int .i64 i126)), (29, (.bool (decide (i126 < (a0.length : Int)))))]) ⟨rfl, rfl, rfl, rfl, rfl, trivial⟩; refine e_then ?_; refine wp_seq ?_; refine c_cond (i126 < (a0.length : Int)) ha rfl (decide_eq_true_iff) (fun hp187 => ?_) (fun hp187 => ?_)
      · replace hF := if_t hp187 hF
        refine wp_skip ?_; refine e_then ?_; refine wp_seq ?_; refine wp_block ?_; refine wp_seq ?_; refine wp_region_lit ?_; refine op_g ha rfl (g_move rfl) ?_; clear ha a; intro a ha; obtain ⟨x188, g189, gx190, hF⟩ := idx_some hF
        obtain ⟨p191, cs192, f193, hf194, hpb195, hat196, hr197, hi198⟩ := ha0.at g189 gx190
        obtain ⟨rfl, hI199, rfl⟩ := hr197
        refine op_g ha rfl (hi198.gives sl25 rfl rfl) ?_; clear ha a; intro a ha; refine op_g ha rfl (g_load0 hE128 Try.isAgg2 rfl hat196.one) ?_; clear ha a; intro a ha; (iterate 2 refine op_g ha rfl (g_assign rfl) ?_; clear ha a; intro a ha); refine wpList_nil ?_; replace ha := ha.sub (σ' := [(5, v124), (6, (.int .i64 i126)), (7, (.int .i64 x188)), (26, va0), (27, (.int .i64 (a0.length : Int))), (28, (.int .i64 i126))]) ⟨rfl, rfl, rfl, rfl, rfl, rfl, trivial⟩; refine e_then ?_; refine wp_region_lit ?_; (iterate 3 refine op_g ha rfl (g_move rfl) ?_; clear ha a; intro a ha); obtain ⟨x200, g201, gx202, hF⟩ := idx_some hF
        obtain ⟨p203, cs204, f205, hf206, hpb207, hat208, hr209, hi210⟩ := h121.at g201 gx202
        obtain ⟨rfl, hI211, rfl⟩ := hr209
        refine op_g ha rfl (hi210.gives sl57 rfl rfl) ?_; clear ha a; intro a ha
        refine o_storeE (f := []) (q := i126) ha Try.sizeOf3 rfl rfl rfl h121 hi210 ⟨rfl, hI127, rfl⟩ (Nq.nil _) ?_; intro w212 fs213 h214 hc215 hs216
        obtain rfl := Subst.nil hs216
        have hE217 := Ext.then hE128 hc215 (Zn.bl z122)
        refine wpList_nil ?_; replace ha := ha.sub (σ' := [(5, v124), (26, va0), (27, (.int .i64 (a0.length : Int))), (28, (.int .i64 i126))]) ⟨rfl, rfl, rfl, rfl, trivial⟩; refine e_blk ?_; refine e_then ?_; refine wp_region_lit ?_; obtain ⟨hI218, hF⟩ := ck_some hF; refine op_g ha rfl (g_add rfl rfl hI218) ?_; clear ha a; intro a ha; refine op_g ha rfl (g_move rfl) ?_; clear ha a; intro a ha; refine wpList_nil ?_; replace ha := ha.sub (σ' := [(5, v124), (26, va0), (27, (.int .i64 (a0.length : Int))), (28, (.int .i64 (i126 + 1)))]) ⟨rfl, rfl, rfl, rfl, trivial⟩; refine e_lq ?_; obtain rfl := Option.some.inj hF
        exact ⟨_, Nat.lt_succ_self _, (l123.set ((x188 : Int).toNat) i126), i126 + 1, v124, b125, ha.sub ⟨rfl, rfl, rfl, rfl, trivial⟩, hE217, hI218, h214, z122, hN184⟩
      replace hF := if_f hp187 hF; refine wp_exit ?_; refine e_then_exit ?_; refine e_lq_eq ?_; obtain rfl := Option.some.inj hF
      exact ⟨l123, v124, b125, ha.sub ⟨rfl, trivial⟩, hE128, h121, z122, (LK_inr hN184).symm⟩
  rintro a w171 ⟨l175, v176, b177, ha, hE183, h173, z174, rfl⟩
  have hF : F_impl_placesIn_k2 l175 = some _ := hK180; clear hK180; unfold F_impl_placesIn_k2 at hF
  refine e_then ?_; refine wp_seq ?_; refine wp_region_lit ?_; refine op_g ha rfl (g_move rfl) ?_; clear ha a; intro a ha; (iterate 2 refine op_g ha rfl (g_assign rfl) ?_; clear ha a; intro a ha); refine wpList_nil ?_; replace ha := ha.sub (σ' := [(2, v176), (3, (.bool true))]) ⟨rfl, rfl, trivial⟩; refine e_then ?_; refine wp_ret ?_; obtain rfl := Option.some.inj hF
  exact f_ret2 ha rfl rfl rfl ⟨_, _, _, rfl, h173, z174, rfl, hE183⟩
set_option maxHeartbeats 2000000 in
theorem W_impl_alternate_1 {W : World} {a0 : Int} (ha0 : InI a0) {y0 : Int} (hy0 : InI y0) {bc0 : Nat} (hbc0 : Bx W bc0 [.int .i64 y0] 3) {vy1 : Value} {fy1 : List Nat} {y1 : (List Int)} (hy1 : Ro Rp.int W fy1 vy1 y1) {bc1 : Nat} (hbc1 : Bx W bc1 [vy1] 57) {y2 : Int} (hy2 : InI y2) {bc2 : Nat} (hbc2 : Bx W bc2 [.int .i64 y2] 3) {r : Bool} (hF : F_impl_alternate_1 a0 y0 y1 y2 = some r) :
    Calls Try.prog 54 [.int .i64 a0, .pointer (some ⟨bc0, 0, none⟩), .pointer (some ⟨bc1, 0, none⟩), .pointer (some ⟨bc2, 0, none⟩)].toArray W (Ret fun u w' => u = .bool r ∧ Ext W w') := by
  refine f_enter Try.func54 rfl Try.ntmps54 rfl ?_
  intro a ha
  replace ha : Fr 20 [(0, (.int .i64 a0)), (1, (.pointer (some ⟨bc0, 0, none⟩))), (2, (.pointer (some ⟨bc1, 0, none⟩))), (3, (.pointer (some ⟨bc2, 0, none⟩)))] a := ha
  have hE : Chg [] W W := Chg.refl _ _
  unfold F_impl_alternate_1 at hF
  refine wp_seq ?_; refine wp_region_lit ?_; refine op_g ha rfl (g_assign rfl) ?_; clear ha a; intro a ha; refine wpList_nil ?_; replace ha := ha.sub (σ' := [(0, (.int .i64 a0)), (1, (.pointer (some ⟨bc0, 0, none⟩))), (2, (.pointer (some ⟨bc1, 0, none⟩))), (3, (.pointer (some ⟨bc2, 0, none⟩)))]) ⟨rfl, rfl, rfl, rfl, trivial⟩; refine e_then ?_; refine wp_seq ?_; refine d_quiet hmix (by kernel_rfl) ?_; refine q_g ha rfl (g_load Try.isAgg3 rfl ((hbc0.ext hE).cell rfl)) ?_; clear ha a; intro a ha; refine q_g ha rfl (g_load Try.isAgg57 rfl ((hbc1.ext hE).cell rfl)) ?_; clear ha a; intro a ha; refine q_g ha rfl (g_move rfl) ?_; clear ha a; intro a ha
  obtain ⟨x1, g2, gx3, hF⟩ := idx_some hF
  obtain ⟨p4, cs5, f6, hf7, hpb8, hat9, hr10, hi11⟩ := hy1.at g2 gx3
  obtain ⟨rfl, hI12, rfl⟩ := hr10
  refine q_g ha rfl (hi11.gives sl57 rfl rfl) ?_; clear ha a; intro a ha; refine q_g ha rfl (g_load0 hE Try.isAgg3 rfl hat9.one) ?_; clear ha a; intro a ha; refine q_g ha rfl (g_lss rfl rfl) ?_; clear ha a; intro a ha; refine q_g ha rfl (g_move rfl) ?_; clear ha a; intro a ha
  by_cases hp13 : y0 < x1
  · replace hF := if_t hp13 hF
    rw [show (decide (y0 < x1)) = true from (decide_eq_true_iff).2 hp13] at ha
    refine q_want (yields ha rfl rfl) ?_; refine q_g ha rfl (g_load Try.isAgg57 rfl ((hbc1.ext hE).cell rfl)) ?_; clear ha a; intro a ha; refine q_want (yields ha rfl rfl) ?_; refine q_g ha rfl (g_move rfl) ?_; clear ha a; intro a ha; refine q_want (yields ha rfl rfl) ?_; obtain ⟨x14, g15, gx16, hF⟩ := idx_some hF
    obtain ⟨p17, cs18, f19, hf20, hpb21, hat22, hr23, hi24⟩ := hy1.at g15 gx16
    obtain ⟨rfl, hI25, rfl⟩ := hr23
    refine q_g ha rfl (hi24.gives sl57 rfl rfl) ?_; clear ha a; intro a ha; refine q_want (yields ha rfl rfl) ?_; refine q_g ha rfl (g_load0 hE Try.isAgg3 rfl hat22.one) ?_; clear ha a; intro a ha; refine q_want (yields ha rfl rfl) ?_; refine q_g ha rfl (g_load Try.isAgg3 rfl ((hbc2.ext hE).cell rfl)) ?_; clear ha a; intro a ha; refine q_want (yields ha rfl rfl) ?_; refine q_g ha rfl (g_lss rfl rfl) ?_; clear ha a; intro a ha; refine q_g ha rfl (g_pick rfl rfl) ?_; clear ha a; intro a ha; refine q_g ha rfl (g_assign rfl) ?_; clear ha a; intro a ha
    refine q_nil ?_; intro w26 hx27
    have hE28 := Ext.trans hE hx27
    replace ha := ha.sub (σ' := [(5, (.bool (decide (x14 < y2))))]) ⟨rfl, trivial⟩; refine e_then ?_; refine wp_ret ?_; obtain rfl := Option.some.inj hF
    exact f_ret1 ha rfl rfl ⟨rfl, hE28⟩
  replace hF := if_f hp13 hF
  rw [show (decide (y0 < x1)) = false from b_false (decide_eq_true_iff) hp13] at ha
  (iterate 6 refine q_unwant ha rfl (yields ha rfl rfl) rfl ?_; clear ha a; intro a ha); refine q_g ha rfl (g_pick rfl rfl) ?_; clear ha a; intro a ha; refine q_g ha rfl (g_assign rfl) ?_; clear ha a; intro a ha
  refine q_nil ?_; intro w29 hx30
  have hE31 := Ext.trans hE hx30
  replace ha := ha.sub (σ' := [(5, (.bool false))]) ⟨rfl, trivial⟩; refine e_then ?_; refine wp_ret ?_; obtain rfl := Option.some.inj hF
  exact f_ret1 ha rfl rfl ⟨rfl, hE31⟩
set_option maxHeartbeats 2000000 in
theorem W_impl_alternate {W : World} {va0 : Value} {fa0 : List Nat} {a0 : (List Int)} (ha0 : Ro Rp.int W fa0 va0 a0) {va1 : Value} {fa1 : List Nat} {a1 : (List Int)} (ha1 : Ro Rp.int W fa1 va1 a1) {va2 : Value} {fa2 : List Nat} {a2 : (List Int)} (ha2 : Ro Rp.int W fa2 va2 a2) {r : Bool} (hF : F_impl_alternate a0 a1 a2 = some r) :
    Calls Try.prog 42 [va0, va1, va2].toArray W (Ret fun u w' => u = .bool r ∧ Ext W w') := by
  refine f_enter Try.func42 rfl Try.ntmps42 rfl ?_
  intro a ha
  replace ha : Fr 86 [(0, va0), (1, va1), (2, va2)] a := ha
  have hE : Chg [] W W := Chg.refl _ _
  unfold F_impl_alternate at hF
  refine wp_seq ?_; refine wp_region_lit ?_
  refine o_box ha rfl rfl ha0.cells ?_; clear ha a; intro b1 w2 hB3 hx4 hlo5 a ha
  have q6 := Zn.one hlo5
  have q7 := Zn.upD q6 hE
  have hE8 := Ext.trans hE hx4
  refine op_g ha rfl (g_assign rfl) ?_; clear ha a; intro a ha; refine wpList_nil ?_; replace ha := ha.sub (σ' := [(1, va1), (2, va2), (3, (.pointer (some ⟨b1, 0, none⟩)))]) ⟨rfl, rfl, rfl, trivial⟩; refine e_then ?_; refine wp_seq ?_; refine x_region [0, 1, 2, 3, 4, 5, 6, 7, 8, 9, 10, 11, 12, 13, 14, 15, 16, 17, 18, 19, 20, 21, 22, 23, 24, 25, 26, 27, 28, 29] hmix ?_
  have hS9 := RowKit.Below.refl w2.heap.size w2
  refine x_g 0 rfl (by kernel_rfl) (want0 _) ha rfl hS9 (g_load Try.isAgg57 rfl (hB3.cell rfl)) ?_; clear ha a; intro a ha; refine x_g 1 rfl (by kernel_rfl) (want0 _) ha rfl hS9 (g_move rfl) ?_; clear ha a; intro a ha; obtain ⟨x10, g11, gx12, hF⟩ := idx_some hF
  obtain ⟨p13, cs14, f15, hf16, hpb17, hat18, hr19, hi20⟩ := ha1.at g11 gx12
  obtain ⟨rfl, hI21, rfl⟩ := hr19
  refine x_g 2 rfl (by kernel_rfl) (want0 _) ha rfl hS9 (hi20.gives sl25 rfl rfl) ?_; clear ha a; intro a ha; refine x_g 3 rfl (by kernel_rfl) (want0 _) ha rfl hS9 (g_load0 hE8 Try.isAgg2 rfl hat18.one) ?_; clear ha a; intro a ha; obtain ⟨x22, g23, gx24, hF⟩ := idx_some hF
  obtain ⟨p25, cs26, f27, hf28, hpb29, hat30, hr31, hi32⟩ := ha0.at g23 gx24
  obtain ⟨rfl, hI33, rfl⟩ := hr31
  refine x_g 4 rfl (by kernel_rfl) (want0 _) ha rfl hS9 (hi32.gives sl57 rfl rfl) ?_; clear ha a; intro a ha; refine x_g 5 rfl (by kernel_rfl) (want0 _) ha rfl hS9 (g_load0 hE8 Try.isAgg3 rfl hat30.one) ?_; clear ha a; intro a ha; refine x_g 6 rfl (by kernel_rfl) (want0 _) ha rfl hS9 (g_load Try.isAgg57 rfl (hB3.cell rfl)) ?_; clear ha a; intro a ha; refine x_g 7 rfl (by kernel_rfl) (want0 _) ha rfl hS9 (g_move rfl) ?_; clear ha a; intro a ha; obtain ⟨x34, g35, gx36, hF⟩ := idx_some hF
  obtain ⟨p37, cs38, f39, hf40, hpb41, hat42, hr43, hi44⟩ := ha1.at g35 gx36
  obtain ⟨rfl, hI45, rfl⟩ := hr43
  refine x_g 8 rfl (by kernel_rfl) (want0 _) ha rfl hS9 (hi44.gives sl25 rfl rfl) ?_; clear ha a; intro a ha; refine x_g 9 rfl (by kernel_rfl) (want0 _) ha rfl hS9 (g_load0 hE8 Try.isAgg2 rfl hat42.one) ?_; clear ha a; intro a ha; obtain ⟨x46, g47, gx48, hF⟩ := idx_some hF
  obtain ⟨p49, cs50, f51, hf52, hpb53, hat54, hr55, hi56⟩ := ha0.at g47 gx48
  obtain ⟨rfl, hI57, rfl⟩ := hr55
  refine x_g 10 rfl (by kernel_rfl) (want0 _) ha rfl hS9 (hi56.gives sl57 rfl rfl) ?_; clear ha a; intro a ha; refine x_g 11 rfl (by kernel_rfl) (want0 _) ha rfl hS9 (g_load0 hE8 Try.isAgg3 rfl hat54.one) ?_; clear ha a; intro a ha; refine x_g 12 rfl (by kernel_rfl) (want0 _) ha rfl hS9 (g_min rfl rfl) ?_; clear ha a; intro a ha; refine x_g 13 rfl (by kernel_rfl) (want0 _) ha rfl hS9 (g_load Try.isAgg57 rfl (hB3.cell rfl)) ?_; clear ha a; intro a ha; refine x_g 14 rfl (by kernel_rfl) (want0 _) ha rfl hS9 (g_move rfl) ?_; clear ha a; intro a ha; obtain ⟨x58, g59, gx60, hF⟩ := idx_some hF
  obtain ⟨p61, cs62, f63, hf64, hpb65, hat66, hr67, hi68⟩ := ha1.at g59 gx60
  obtain ⟨rfl, hI69, rfl⟩ := hr67
  refine x_g 15 rfl (by kernel_rfl) (want0 _) ha rfl hS9 (hi68.gives sl25 rfl rfl) ?_; clear ha a; intro a ha; refine x_g 16 rfl (by kernel_rfl) (want0 _) ha rfl hS9 (g_load0 hE8 Try.isAgg2 rfl hat66.one) ?_; clear ha a; intro a ha; obtain ⟨x70, g71, gx72, hF⟩ := idx_some hF
  obtain ⟨p73, cs74, f75, hf76, hpb77, hat78, hr79, hi80⟩ := ha0.at g71 gx72
  obtain ⟨rfl, hI81, rfl⟩ := hr79
  refine x_g 17 rfl (by kernel_rfl) (want0 _) ha rfl hS9 (hi80.gives sl57 rfl rfl) ?_; clear ha a; intro a ha; refine x_g 18 rfl (by kernel_rfl) (want0 _) ha rfl hS9 (g_load0 hE8 Try.isAgg3 rfl hat78.one) ?_; clear ha a; intro a ha; refine x_g 19 rfl (by kernel_rfl) (want0 _) ha rfl hS9 (g_load Try.isAgg57 rfl (hB3.cell rfl)) ?_; clear ha a; intro a ha; refine x_g 20 rfl (by kernel_rfl) (want0 _) ha rfl hS9 (g_move rfl) ?_; clear ha a; intro a ha; obtain ⟨x82, g83, gx84, hF⟩ := idx_some hF
  obtain ⟨p85, cs86, f87, hf88, hpb89, hat90, hr91, hi92⟩ := ha1.at g83 gx84
  obtain ⟨rfl, hI93, rfl⟩ := hr91
  refine x_g 21 rfl (by kernel_rfl) (want0 _) ha rfl hS9 (hi92.gives sl25 rfl rfl) ?_; clear ha a; intro a ha; refine x_g 22 rfl (by kernel_rfl) (want0 _) ha rfl hS9 (g_load0 hE8 Try.isAgg2 rfl hat90.one) ?_; clear ha a; intro a ha; obtain ⟨x94, g95, gx96, hF⟩ := idx_some hF
  obtain ⟨p97, cs98, f99, hf100, hpb101, hat102, hr103, hi104⟩ := ha0.at g95 gx96
  obtain ⟨rfl, hI105, rfl⟩ := hr103
  refine x_g 23 rfl (by kernel_rfl) (want0 _) ha rfl hS9 (hi104.gives sl57 rfl rfl) ?_; clear ha a; intro a ha; refine x_g 24 rfl (by kernel_rfl) (want0 _) ha rfl hS9 (g_load0 hE8 Try.isAgg3 rfl hat102.one) ?_; clear ha a; intro a ha; refine x_g 25 rfl (by kernel_rfl) (want0 _) ha rfl hS9 (g_max rfl rfl) ?_; clear ha a; intro a ha; refine x_many [26, 27] (by kernel_rfl) rfl fun wqr1_1 hxqr1_1 => ⟨⟨_, rfl, ?_⟩, ⟨_, rfl, ?_⟩, trivial⟩
  · skip
    replace hB3 := hB3.ext hxqr1_1
    have hEqr1o26_1 := Ext.trans hE8 hxqr1_1
    have qqr1o26_1 := bel_step hS9 hxqr1_1
    refine o_alloc (cs := [(.int .i64 0)]) ha rfl Try.zeroValue3 rfl ?_; clear ha a; intro bqr1o26_1 wqr1o26_1 hBqr1o26_1 hxqr1o26_1 hloqr1o26_1 a ha
    have qqr1o26_2 := Zn.one hloqr1o26_1
    have qqr1o26_3 := Nq.new hB3.fpb qqr1o26_2
    have qqr1o26_4 := Nq.made1 hloqr1o26_1 hB3.bi
    have qqr1o26_5 := Zn.upD qqr1o26_2 hEqr1o26_1
    have qqr1o26_6 := Zn.upB qqr1o26_2 qqr1o26_1
    replace hB3 := hB3.ext hxqr1o26_1
    have hEqr1o26_2 := Ext.trans hEqr1o26_1 hxqr1o26_1
    refine wpList_nil (e_sq ?_)
    have hStqr1o26_1 : RowKit.Below w2.heap.size wqr1_1 wqr1o26_1 := ext_bel qqr1o26_1.size hxqr1o26_1
    refine ⟨fun _ => hStqr1o26_1, ?_⟩
    have qqr1o26_7 := RowKit.Below.trans qqr1o26_1 hStqr1o26_1
    refine x_only 27 rfl (by kernel_rfl) ?_; intro wqr1o27_1 hxqr1o27_1
    replace hB3 := hB3.ext hxqr1o27_1
    replace hBqr1o26_1 := hBqr1o26_1.ext hxqr1o27_1
    have hEqr1o27_1 := Ext.trans hEqr1o26_2 hxqr1o27_1
    have qqr1o27_1 := bel_step qqr1o26_7 hxqr1o27_1
    refine o_alloc (cs := [(.int .i64 0)]) ha rfl Try.zeroValue3 rfl ?_; clear ha a; intro bqr1o27_1 wqr1o27_2 hBqr1o27_1 hxqr1o27_2 hloqr1o27_1 a ha
    have qqr1o27_2 := Zn.one hloqr1o27_1
    have qqr1o27_3 := Nq.new hB3.fpb qqr1o27_2
    have qqr1o27_4 := Nq.made1 hloqr1o27_1 hB3.bi
    have qqr1o27_5 := Nq.new hBqr1o26_1.fpb qqr1o27_2
    have qqr1o27_6 := Nq.made1 hloqr1o27_1 hBqr1o26_1.bi
    have qqr1o27_7 := Zn.upD qqr1o27_2 hEqr1o27_1
    have qqr1o27_8 := Zn.upB qqr1o27_2 qqr1o27_1
    replace hB3 := hB3.ext hxqr1o27_2
    replace hBqr1o26_1 := hBqr1o26_1.ext hxqr1o27_2
    have hEqr1o27_2 := Ext.trans hEqr1o27_1 hxqr1o27_2
    refine wpList_nil (e_sq ?_)
    have hStqr1o27_1 : RowKit.Below w2.heap.size wqr1o27_1 wqr1o27_2 := ext_bel qqr1o27_1.size hxqr1o27_2
    refine ⟨fun _ => hStqr1o27_1, ?_⟩
    have qqr1o27_9 := RowKit.Below.trans qqr1o27_1 hStqr1o27_1
    refine x_only 28 rfl (by kernel_rfl) ?_; intro wqr1o28_1 hxqr1o28_1
    replace hB3 := hB3.ext hxqr1o28_1
    replace hBqr1o26_1 := hBqr1o26_1.ext hxqr1o28_1
    replace hBqr1o27_1 := hBqr1o27_1.ext hxqr1o28_1
    have hEqr1o28_1 := Ext.trans hEqr1o27_2 hxqr1o28_1
    have qqr1o28_1 := bel_step qqr1o27_9 hxqr1o28_1
    refine o_storeB ha hBqr1o26_1 Try.sizeOf3 rfl rfl rfl rfl (Nat.le_of_ble_eq_true rfl) ?_; intro wqr1o28_2 hBqr1o28_1 hcqr1o28_1
    replace hcqr1o28_1 := hcqr1o28_1.bl
    replace hBqr1o28_1 : Bx wqr1o28_2 bqr1o26_1 [(.int .i64 (min x22 x46))] 3 := hBqr1o28_1
    replace hB3 := hB3.nq hcqr1o28_1 qqr1o26_3
    replace hBqr1o27_1 := hBqr1o27_1.nq hcqr1o28_1 qqr1o27_6
    have hEqr1o28_2 := Ext.then hEqr1o28_1 hcqr1o28_1 (Zn.bl qqr1o26_5)
    refine wpList_nil (e_sq ?_)
    have hStqr1o28_1 : RowKit.Below w2.heap.size wqr1o28_1 wqr1o28_2 := chg_bel hcqr1o28_1 qqr1o28_1.size (Zn.bl qqr1o26_6)
    refine ⟨fun _ => hStqr1o28_1, ?_⟩
    have qqr1o28_2 := RowKit.Below.trans qqr1o28_1 hStqr1o28_1
    refine x_only 29 rfl (by kernel_rfl) ?_; intro wqr1o29_1 hxqr1o29_1
    replace hB3 := hB3.ext hxqr1o29_1
    replace hBqr1o28_1 := hBqr1o28_1.ext hxqr1o29_1
    replace hBqr1o27_1 := hBqr1o27_1.ext hxqr1o29_1
    have hEqr1o29_1 := Ext.trans hEqr1o28_2 hxqr1o29_1
    have qqr1o29_1 := bel_step qqr1o28_2 hxqr1o29_1
    refine o_storeB ha hBqr1o27_1 Try.sizeOf3 rfl rfl rfl rfl (Nat.le_of_ble_eq_true rfl) ?_; intro wqr1o29_2 hBqr1o29_1 hcqr1o29_1
    replace hcqr1o29_1 := hcqr1o29_1.bl
    replace hBqr1o29_1 : Bx wqr1o29_2 bqr1o27_1 [(.int .i64 (max x70 x94))] 3 := hBqr1o29_1
    replace hB3 := hB3.nq hcqr1o29_1 qqr1o27_3
    replace hBqr1o28_1 := hBqr1o28_1.nq hcqr1o29_1 qqr1o27_5
    have hEqr1o29_2 := Ext.then hEqr1o29_1 hcqr1o29_1 (Zn.bl qqr1o27_7)
    refine wpList_nil (e_sq ?_)
    have hStqr1o29_1 : RowKit.Below w2.heap.size wqr1o29_1 wqr1o29_2 := chg_bel hcqr1o29_1 qqr1o29_1.size (Zn.bl qqr1o27_8)
    refine ⟨fun _ => hStqr1o29_1, ?_⟩
    have qqr1o29_2 := RowKit.Below.trans qqr1o29_1 hStqr1o29_1
    refine x_done (by kernel_rfl) ?_; intro w106 hx107
    replace hB3 := hB3.ext hx107
    replace hBqr1o28_1 := hBqr1o28_1.ext hx107
    replace hBqr1o29_1 := hBqr1o29_1.ext hx107
    have hE108 := Ext.trans hEqr1o29_2 hx107
    replace ha := ha.sub (σ' := [(1, va1), (2, va2), (3, (.pointer (some ⟨b1, 0, none⟩))), (7, (.pointer (some ⟨bqr1o26_1, 0, none⟩))), (8, (.pointer (some ⟨bqr1o27_1, 0, none⟩)))]) ⟨rfl, rfl, rfl, rfl, rfl, trivial⟩; refine e_then ?_; refine wp_seq ?_; refine wp_region_lit ?_; refine op_g ha rfl (g_func rfl rfl) ?_; clear ha a; intro a ha; refine op_g ha rfl (g_assign rfl) ?_; clear ha a; intro a ha; refine wpList_nil ?_; replace ha := ha.sub (σ' := [(1, va1), (2, va2), (9, (.func (.func 54) #[] #[(.pointer (some ⟨bqr1o26_1, 0, none⟩)), (.pointer (some ⟨b1, 0, none⟩)), (.pointer (some ⟨bqr1o27_1, 0, none⟩))]))]) ⟨rfl, rfl, rfl, trivial⟩
    refine e_then ?_; refine wp_seq ?_; refine d_quiet hmix (by kernel_rfl) ?_; refine q_g ha rfl (g_move rfl) ?_; clear ha a; intro a ha; obtain ⟨x109, g110, gx111, hF⟩ := idx_some hF
    obtain ⟨p112, cs113, f114, hf115, hpb116, hat117, hr118, hi119⟩ := ha1.at g110 gx111
    obtain ⟨rfl, hI120, rfl⟩ := hr118
    refine q_g ha rfl (hi119.gives sl25 rfl rfl) ?_; clear ha a; intro a ha; refine q_g ha rfl (g_load0 hE108 Try.isAgg2 rfl hat117.one) ?_; clear ha a; intro a ha; refine q_g ha rfl (g_move rfl) ?_; clear ha a; intro a ha; obtain ⟨x121, g122, gx123, hF⟩ := idx_some hF
    obtain ⟨p124, cs125, f126, hf127, hpb128, hat129, hr130, hi131⟩ := ha2.at g122 gx123
    obtain ⟨rfl, hI132, rfl⟩ := hr130
    refine q_g ha rfl (hi131.gives sl25 rfl rfl) ?_; clear ha a; intro a ha; refine q_g ha rfl (g_load0 hE108 Try.isAgg2 rfl hat129.one) ?_; clear ha a; intro a ha; refine q_g ha rfl (g_neq rfl rfl) ?_; clear ha a; intro a ha; refine q_g ha rfl (g_move rfl) ?_; clear ha a; intro a ha
    by_cases hp133 : x109 ≠ x121
    · replace hF := if_t hp133 hF
      rw [show (decide (x109 ≠ x121)) = true from (decide_eq_true_iff).2 hp133] at ha
      refine q_want (yields ha rfl rfl) ?_; refine q_g ha rfl (g_move rfl) ?_; clear ha a; intro a ha; refine q_want (yields ha rfl rfl) ?_; obtain ⟨x134, g135, gx136, hF⟩ := idx_some hF
      obtain ⟨p137, cs138, f139, hf140, hpb141, hat142, hr143, hi144⟩ := ha1.at g135 gx136
      obtain ⟨rfl, hI145, rfl⟩ := hr143
      refine q_g ha rfl (hi144.gives sl25 rfl rfl) ?_; clear ha a; intro a ha; refine q_want (yields ha rfl rfl) ?_; refine q_g ha rfl (g_load0 hE108 Try.isAgg2 rfl hat142.one) ?_; clear ha a; intro a ha; refine q_want (yields ha rfl rfl) ?_; refine q_g ha rfl (g_move rfl) ?_; clear ha a; intro a ha; refine q_want (yields ha rfl rfl) ?_; obtain ⟨x146, g147, gx148, hF⟩ := idx_some hF
      obtain ⟨p149, cs150, f151, hf152, hpb153, hat154, hr155, hi156⟩ := ha2.at g147 gx148
      obtain ⟨rfl, hI157, rfl⟩ := hr155
      refine q_g ha rfl (hi156.gives sl25 rfl rfl) ?_; clear ha a; intro a ha; refine q_want (yields ha rfl rfl) ?_; refine q_g ha rfl (g_load0 hE108 Try.isAgg2 rfl hat154.one) ?_; clear ha a; intro a ha; refine q_want (yields ha rfl rfl) ?_; refine q_g ha rfl (g_neq rfl rfl) ?_; clear ha a; intro a ha; refine q_g ha rfl (g_pick rfl rfl) ?_; clear ha a; intro a ha; refine q_g ha rfl (g_move rfl) ?_; clear ha a; intro a ha
      by_cases hp158 : x134 ≠ x146
      · replace hF := if_t hp158 hF
        rw [show (decide (x134 ≠ x146)) = true from (decide_eq_true_iff).2 hp158] at ha
        refine q_want (yields ha rfl rfl) ?_; refine q_g ha rfl (g_move rfl) ?_; clear ha a; intro a ha; refine q_want (yields ha rfl rfl) ?_; obtain ⟨x159, g160, gx161, hF⟩ := idx_some hF
        obtain ⟨p162, cs163, f164, hf165, hpb166, hat167, hr168, hi169⟩ := ha1.at g160 gx161
        obtain ⟨rfl, hI170, rfl⟩ := hr168
        refine q_g ha rfl (hi169.gives sl25 rfl rfl) ?_; clear ha a; intro a ha; refine q_want (yields ha rfl rfl) ?_; refine q_g ha rfl (g_load0 hE108 Try.isAgg2 rfl hat167.one) ?_; clear ha a; intro a ha; refine q_want (yields ha rfl rfl) ?_; refine q_g ha rfl (g_move rfl) ?_; clear ha a; intro a ha; refine q_want (yields ha rfl rfl) ?_; obtain ⟨x171, g172, gx173, hF⟩ := idx_some hF
        obtain ⟨p174, cs175, f176, hf177, hpb178, hat179, hr180, hi181⟩ := ha2.at g172 gx173
        obtain ⟨rfl, hI182, rfl⟩ := hr180
        refine q_g ha rfl (hi181.gives sl25 rfl rfl) ?_; clear ha a; intro a ha; refine q_want (yields ha rfl rfl) ?_; refine q_g ha rfl (g_load0 hE108 Try.isAgg2 rfl hat179.one) ?_; clear ha a; intro a ha; refine q_want (yields ha rfl rfl) ?_; refine q_g ha rfl (g_neq rfl rfl) ?_; clear ha a; intro a ha; refine q_g ha rfl (g_pick rfl rfl) ?_; clear ha a; intro a ha; refine q_g ha rfl (g_move rfl) ?_; clear ha a; intro a ha
        by_cases hp183 : x159 ≠ x171
        · replace hF := if_t hp183 hF
          rw [show (decide (x159 ≠ x171)) = true from (decide_eq_true_iff).2 hp183] at ha
          refine q_want (yields ha rfl rfl) ?_; refine q_g ha rfl (g_move rfl) ?_; clear ha a; intro a ha; refine q_want (yields ha rfl rfl) ?_; obtain ⟨x184, g185, gx186, hF⟩ := idx_some hF
          obtain ⟨p187, cs188, f189, hf190, hpb191, hat192, hr193, hi194⟩ := ha1.at g185 gx186
          obtain ⟨rfl, hI195, rfl⟩ := hr193
          refine q_g ha rfl (hi194.gives sl25 rfl rfl) ?_; clear ha a; intro a ha; refine q_want (yields ha rfl rfl) ?_; refine q_g ha rfl (g_load0 hE108 Try.isAgg2 rfl hat192.one) ?_; clear ha a; intro a ha; refine q_want (yields ha rfl rfl) ?_; refine q_g ha rfl (g_move rfl) ?_; clear ha a; intro a ha; refine q_want (yields ha rfl rfl) ?_; obtain ⟨x196, g197, gx198, hF⟩ := idx_some hF
          obtain ⟨p199, cs200, f201, hf202, hpb203, hat204, hr205, hi206⟩ := ha2.at g197 gx198
          obtain ⟨rfl, hI207, rfl⟩ := hr205
          refine q_g ha rfl (hi206.gives sl25 rfl rfl) ?_; clear ha a; intro a ha; refine q_want (yields ha rfl rfl) ?_; refine q_g ha rfl (g_load0 hE108 Try.isAgg2 rfl hat204.one) ?_; clear ha a; intro a ha; refine q_want (yields ha rfl rfl) ?_; refine q_g ha rfl (g_neq rfl rfl) ?_; clear ha a; intro a ha; refine q_g ha rfl (g_pick rfl rfl) ?_; clear ha a; intro a ha; refine q_g ha rfl (g_assign rfl) ?_; clear ha a; intro a ha
          refine q_nil ?_; intro w208 hx209
          replace hB3 := hB3.ext hx209
          replace hBqr1o28_1 := hBqr1o28_1.ext hx209
          replace hBqr1o29_1 := hBqr1o29_1.ext hx209
          have hE210 := Ext.trans hE108 hx209
          replace ha := ha.sub (σ' := [(2, va2), (9, (.func (.func 54) #[] #[(.pointer (some ⟨bqr1o26_1, 0, none⟩)), (.pointer (some ⟨b1, 0, none⟩)), (.pointer (some ⟨bqr1o27_1, 0, none⟩))])), (10, (.bool (decide (x184 ≠ x196))))]) ⟨rfl, rfl, rfl, trivial⟩; refine e_then ?_; refine wp_seq ?_; refine d_quiet hmix (by kernel_rfl) ?_; (iterate 2 refine q_g ha rfl (g_move rfl) ?_; clear ha a; intro a ha)
          by_cases hp211 : x184 ≠ x196
          · replace hF := if_t hp211 hF
            rw [show (decide (x184 ≠ x196)) = true from (decide_eq_true_iff).2 hp211] at ha
            refine q_want (yields ha rfl rfl) ?_; refine q_g ha rfl (g_move rfl) ?_; clear ha a; intro a ha; refine q_want (yields ha rfl rfl) ?_; refine q_g ha rfl (g_move rfl) ?_; clear ha a; intro a ha; refine q_want (yields ha rfl rfl) ?_; obtain ⟨x212, g213, gx214, hF⟩ := idx_some hF
            obtain ⟨p215, cs216, f217, hf218, hpb219, hat220, hr221, hi222⟩ := ha2.at g213 gx214
            obtain ⟨rfl, hI223, rfl⟩ := hr221
            refine q_g ha rfl (hi222.gives sl25 rfl rfl) ?_; clear ha a; intro a ha; refine q_want (yields ha rfl rfl) ?_; refine q_g ha rfl (g_load0 hE210 Try.isAgg2 rfl hat220.one) ?_; clear ha a; intro a ha; refine q_want (yields ha rfl rfl) ?_; obtain ⟨x226, hc227, hF⟩ := cal_some hF; refine q_callv (.bool x226) ha rfl rfl rfl Try.call54 (fun w225 hx224 => W_impl_alternate_1 hI223 (in_min hI33 hI57) (hBqr1o28_1.ext hx224) (ha0.ext (Ext.trans hE210 hx224)) (hB3.ext hx224) (in_max hI81 hI105) (hBqr1o29_1.ext hx224) hc227) (fun _ _ _ h => ⟨h.1, h.2⟩) ?_; clear ha a; intro a ha; refine q_want (yields ha rfl rfl) ?_
            refine q_g ha rfl (g_move rfl) ?_; clear ha a; intro a ha; refine q_want (yields ha rfl rfl) ?_; refine q_g ha rfl (g_move rfl) ?_; clear ha a; intro a ha; refine q_want (yields ha rfl rfl) ?_; obtain ⟨x228, g229, gx230, hF⟩ := idx_some hF
            obtain ⟨p231, cs232, f233, hf234, hpb235, hat236, hr237, hi238⟩ := ha2.at g229 gx230
            obtain ⟨rfl, hI239, rfl⟩ := hr237
            refine q_g ha rfl (hi238.gives sl25 rfl rfl) ?_; clear ha a; intro a ha; refine q_want (yields ha rfl rfl) ?_; refine q_g ha rfl (g_load0 hE210 Try.isAgg2 rfl hat236.one) ?_; clear ha a; intro a ha; refine q_want (yields ha rfl rfl) ?_; obtain ⟨x242, hc243, hF⟩ := cal_some hF; refine q_callv (.bool x242) ha rfl rfl rfl Try.call54 (fun w241 hx240 => W_impl_alternate_1 hI239 (in_min hI33 hI57) (hBqr1o28_1.ext hx240) (ha0.ext (Ext.trans hE210 hx240)) (hB3.ext hx240) (in_max hI81 hI105) (hBqr1o29_1.ext hx240) hc243) (fun _ _ _ h => ⟨h.1, h.2⟩) ?_; clear ha a; intro a ha; refine q_want (yields ha rfl rfl) ?_
            refine q_g ha rfl (gB_neq un4 rfl rfl) ?_; clear ha a; intro a ha; refine q_g ha rfl (g_pick rfl rfl) ?_; clear ha a; intro a ha; refine q_g ha rfl (g_assign rfl) ?_; clear ha a; intro a ha
            refine q_nil ?_; intro w244 hx245
            replace hB3 := hB3.ext hx245
            replace hBqr1o28_1 := hBqr1o28_1.ext hx245
            replace hBqr1o29_1 := hBqr1o29_1.ext hx245
            have hE246 := Ext.trans hE210 hx245
            replace ha := ha.sub (σ' := [(6, (.bool (x226 != x242)))]) ⟨rfl, trivial⟩; refine e_then ?_; refine wp_ret ?_; obtain rfl := Option.some.inj hF
            exact f_ret1 ha rfl rfl ⟨rfl, hE246⟩
          replace hF := if_f hp211 hF
          rw [show (decide (x184 ≠ x196)) = false from b_false (decide_eq_true_iff) hp211] at ha
          (iterate 11 refine q_unwant ha rfl (yields ha rfl rfl) rfl ?_; clear ha a; intro a ha); refine q_g ha rfl (g_pick rfl rfl) ?_; clear ha a; intro a ha; refine q_g ha rfl (g_assign rfl) ?_; clear ha a; intro a ha
          refine q_nil ?_; intro w247 hx248
          replace hB3 := hB3.ext hx248
          replace hBqr1o28_1 := hBqr1o28_1.ext hx248
          replace hBqr1o29_1 := hBqr1o29_1.ext hx248
          have hE249 := Ext.trans hE210 hx248
          replace ha := ha.sub (σ' := [(6, (.bool false))]) ⟨rfl, trivial⟩; refine e_then ?_; refine wp_ret ?_; obtain rfl := Option.some.inj hF
          exact f_ret1 ha rfl rfl ⟨rfl, hE249⟩
        replace hF := if_f hp183 hF
        rw [show (decide (x159 ≠ x171)) = false from b_false (decide_eq_true_iff) hp183] at ha
        (iterate 7 refine q_unwant ha rfl (yields ha rfl rfl) rfl ?_; clear ha a; intro a ha); refine q_g ha rfl (g_pick rfl rfl) ?_; clear ha a; intro a ha; refine q_g ha rfl (g_assign rfl) ?_; clear ha a; intro a ha
        refine q_nil ?_; intro w250 hx251
        replace hB3 := hB3.ext hx251
        replace hBqr1o28_1 := hBqr1o28_1.ext hx251
        replace hBqr1o29_1 := hBqr1o29_1.ext hx251
        have hE252 := Ext.trans hE108 hx251
        replace ha := ha.sub (σ' := [(2, va2), (9, (.func (.func 54) #[] #[(.pointer (some ⟨bqr1o26_1, 0, none⟩)), (.pointer (some ⟨b1, 0, none⟩)), (.pointer (some ⟨bqr1o27_1, 0, none⟩))])), (10, (.bool false))]) ⟨rfl, rfl, rfl, trivial⟩; refine e_then ?_; refine wp_seq ?_; refine d_quiet hmix (by kernel_rfl) ?_; (iterate 2 refine q_g ha rfl (g_move rfl) ?_; clear ha a; intro a ha); (iterate 11 refine q_unwant ha rfl (yields ha rfl rfl) rfl ?_; clear ha a; intro a ha); refine q_g ha rfl (g_pick rfl rfl) ?_; clear ha a; intro a ha; refine q_g ha rfl (g_assign rfl) ?_; clear ha a; intro a ha
        refine q_nil ?_; intro w253 hx254
        replace hB3 := hB3.ext hx254
        replace hBqr1o28_1 := hBqr1o28_1.ext hx254
        replace hBqr1o29_1 := hBqr1o29_1.ext hx254
        have hE255 := Ext.trans hE252 hx254
        replace ha := ha.sub (σ' := [(6, (.bool false))]) ⟨rfl, trivial⟩; refine e_then ?_; refine wp_ret ?_; obtain rfl := Option.some.inj hF
        exact f_ret1 ha rfl rfl ⟨rfl, hE255⟩
      replace hF := if_f hp158 hF
      rw [show (decide (x134 ≠ x146)) = false from b_false (decide_eq_true_iff) hp158] at ha
      (iterate 7 refine q_unwant ha rfl (yields ha rfl rfl) rfl ?_; clear ha a; intro a ha); refine q_g ha rfl (g_pick rfl rfl) ?_; clear ha a; intro a ha; refine q_g ha rfl (g_move rfl) ?_; clear ha a; intro a ha; (iterate 7 refine q_unwant ha rfl (yields ha rfl rfl) rfl ?_; clear ha a; intro a ha); refine q_g ha rfl (g_pick rfl rfl) ?_; clear ha a; intro a ha; refine q_g ha rfl (g_assign rfl) ?_; clear ha a; intro a ha
      refine q_nil ?_; intro w256 hx257
      replace hB3 := hB3.ext hx257
      replace hBqr1o28_1 := hBqr1o28_1.ext hx257
      replace hBqr1o29_1 := hBqr1o29_1.ext hx257
      have hE258 := Ext.trans hE108 hx257
      replace ha := ha.sub (σ' := [(2, va2), (9, (.func (.func 54) #[] #[(.pointer (some ⟨bqr1o26_1, 0, none⟩)), (.pointer (some ⟨b1, 0, none⟩)), (.pointer (some ⟨bqr1o27_1, 0, none⟩))])), (10, (.bool false))]) ⟨rfl, rfl, rfl, trivial⟩; refine e_then ?_; refine wp_seq ?_; refine d_quiet hmix (by kernel_rfl) ?_; (iterate 2 refine q_g ha rfl (g_move rfl) ?_; clear ha a; intro a ha); (iterate 11 refine q_unwant ha rfl (yields ha rfl rfl) rfl ?_; clear ha a; intro a ha); refine q_g ha rfl (g_pick rfl rfl) ?_; clear ha a; intro a ha; refine q_g ha rfl (g_assign rfl) ?_; clear ha a; intro a ha
      refine q_nil ?_; intro w259 hx260
      replace hB3 := hB3.ext hx260
      replace hBqr1o28_1 := hBqr1o28_1.ext hx260
      replace hBqr1o29_1 := hBqr1o29_1.ext hx260
      have hE261 := Ext.trans hE258 hx260
      replace ha := ha.sub (σ' := [(6, (.bool false))]) ⟨rfl, trivial⟩; refine e_then ?_; refine wp_ret ?_; obtain rfl := Option.some.inj hF
      exact f_ret1 ha rfl rfl ⟨rfl, hE261⟩
    replace hF := if_f hp133 hF
    rw [show (decide (x109 ≠ x121)) = false from b_false (decide_eq_true_iff) hp133] at ha
    (iterate 7 refine q_unwant ha rfl (yields ha rfl rfl) rfl ?_; clear ha a; intro a ha); refine q_g ha rfl (g_pick rfl rfl) ?_; clear ha a; intro a ha; refine q_g ha rfl (g_move rfl) ?_; clear ha a; intro a ha; (iterate 7 refine q_unwant ha rfl (yields ha rfl rfl) rfl ?_; clear ha a; intro a ha); refine q_g ha rfl (g_pick rfl rfl) ?_; clear ha a; intro a ha; refine q_g ha rfl (g_move rfl) ?_; clear ha a; intro a ha; (iterate 7 refine q_unwant ha rfl (yields ha rfl rfl) rfl ?_; clear ha a; intro a ha); refine q_g ha rfl (g_pick rfl rfl) ?_; clear ha a; intro a ha; refine q_g ha rfl (g_assign rfl) ?_; clear ha a; intro a ha
    refine q_nil ?_; intro w262 hx263
    replace hB3 := hB3.ext hx263
    replace hBqr1o28_1 := hBqr1o28_1.ext hx263
    replace hBqr1o29_1 := hBqr1o29_1.ext hx263
    have hE264 := Ext.trans hE108 hx263
    replace ha := ha.sub (σ' := [(2, va2), (9, (.func (.func 54) #[] #[(.pointer (some ⟨bqr1o26_1, 0, none⟩)), (.pointer (some ⟨b1, 0, none⟩)), (.pointer (some ⟨bqr1o27_1, 0, none⟩))])), (10, (.bool false))]) ⟨rfl, rfl, rfl, trivial⟩; refine e_then ?_; refine wp_seq ?_; refine d_quiet hmix (by kernel_rfl) ?_; (iterate 2 refine q_g ha rfl (g_move rfl) ?_; clear ha a; intro a ha); (iterate 11 refine q_unwant ha rfl (yields ha rfl rfl) rfl ?_; clear ha a; intro a ha); refine q_g ha rfl (g_pick rfl rfl) ?_; clear ha a; intro a ha; refine q_g ha rfl (g_assign rfl) ?_; clear ha a; intro a ha
    refine q_nil ?_; intro w265 hx266
    replace hB3 := hB3.ext hx266
    replace hBqr1o28_1 := hBqr1o28_1.ext hx266
    replace hBqr1o29_1 := hBqr1o29_1.ext hx266
    have hE267 := Ext.trans hE264 hx266
    replace ha := ha.sub (σ' := [(6, (.bool false))]) ⟨rfl, trivial⟩; refine e_then ?_; refine wp_ret ?_; obtain rfl := Option.some.inj hF
    exact f_ret1 ha rfl rfl ⟨rfl, hE267⟩
  skip
  replace hB3 := hB3.ext hxqr1_1
  have hEqr1o27_1 := Ext.trans hE8 hxqr1_1
  have qqr1o27_1 := bel_step hS9 hxqr1_1
  refine o_alloc (cs := [(.int .i64 0)]) ha rfl Try.zeroValue3 rfl ?_; clear ha a; intro bqr1o27_1 wqr1o27_1 hBqr1o27_1 hxqr1o27_1 hloqr1o27_1 a ha
  have qqr1o27_2 := Zn.one hloqr1o27_1
  have qqr1o27_3 := Nq.new hB3.fpb qqr1o27_2
  have qqr1o27_4 := Nq.made1 hloqr1o27_1 hB3.bi
  have qqr1o27_5 := Zn.upD qqr1o27_2 hEqr1o27_1
  have qqr1o27_6 := Zn.upB qqr1o27_2 qqr1o27_1
  replace hB3 := hB3.ext hxqr1o27_1
  have hEqr1o27_2 := Ext.trans hEqr1o27_1 hxqr1o27_1
  refine wpList_nil (e_sq ?_)
  have hStqr1o27_1 : RowKit.Below w2.heap.size wqr1_1 wqr1o27_1 := ext_bel qqr1o27_1.size hxqr1o27_1
  refine ⟨fun _ => hStqr1o27_1, ?_⟩
  have qqr1o27_7 := RowKit.Below.trans qqr1o27_1 hStqr1o27_1
  refine x_only 26 rfl (by kernel_rfl) ?_; intro wqr1o26_1 hxqr1o26_1
  replace hB3 := hB3.ext hxqr1o26_1
  replace hBqr1o27_1 := hBqr1o27_1.ext hxqr1o26_1
  have hEqr1o26_1 := Ext.trans hEqr1o27_2 hxqr1o26_1
  have qqr1o26_1 := bel_step qqr1o27_7 hxqr1o26_1
  refine o_alloc (cs := [(.int .i64 0)]) ha rfl Try.zeroValue3 rfl ?_; clear ha a; intro bqr1o26_1 wqr1o26_2 hBqr1o26_1 hxqr1o26_2 hloqr1o26_1 a ha
  have qqr1o26_2 := Zn.one hloqr1o26_1
  have qqr1o26_3 := Nq.new hB3.fpb qqr1o26_2
  have qqr1o26_4 := Nq.made1 hloqr1o26_1 hB3.bi
  have qqr1o26_5 := Nq.new hBqr1o27_1.fpb qqr1o26_2
  have qqr1o26_6 := Nq.made1 hloqr1o26_1 hBqr1o27_1.bi
  have qqr1o26_7 := Zn.upD qqr1o26_2 hEqr1o26_1
  have qqr1o26_8 := Zn.upB qqr1o26_2 qqr1o26_1
  replace hB3 := hB3.ext hxqr1o26_2
  replace hBqr1o27_1 := hBqr1o27_1.ext hxqr1o26_2
  have hEqr1o26_2 := Ext.trans hEqr1o26_1 hxqr1o26_2
  refine wpList_nil (e_sq ?_)
  have hStqr1o26_1 : RowKit.Below w2.heap.size wqr1o26_1 wqr1o26_2 := ext_bel qqr1o26_1.size hxqr1o26_2
  refine ⟨fun _ => hStqr1o26_1, ?_⟩
  have qqr1o26_9 := RowKit.Below.trans qqr1o26_1 hStqr1o26_1
  refine x_only 28 rfl (by kernel_rfl) ?_; intro wqr1o28_1 hxqr1o28_1
  replace hB3 := hB3.ext hxqr1o28_1
  replace hBqr1o27_1 := hBqr1o27_1.ext hxqr1o28_1
  replace hBqr1o26_1 := hBqr1o26_1.ext hxqr1o28_1
  have hEqr1o28_1 := Ext.trans hEqr1o26_2 hxqr1o28_1
  have qqr1o28_1 := bel_step qqr1o26_9 hxqr1o28_1
  refine o_storeB ha hBqr1o26_1 Try.sizeOf3 rfl rfl rfl rfl (Nat.le_of_ble_eq_true rfl) ?_; intro wqr1o28_2 hBqr1o28_1 hcqr1o28_1
  replace hcqr1o28_1 := hcqr1o28_1.bl
  replace hBqr1o28_1 : Bx wqr1o28_2 bqr1o26_1 [(.int .i64 (min x22 x46))] 3 := hBqr1o28_1
  replace hB3 := hB3.nq hcqr1o28_1 qqr1o26_3
  replace hBqr1o27_1 := hBqr1o27_1.nq hcqr1o28_1 qqr1o26_5
  have hEqr1o28_2 := Ext.then hEqr1o28_1 hcqr1o28_1 (Zn.bl qqr1o26_7)
  refine wpList_nil (e_sq ?_)
  have hStqr1o28_1 : RowKit.Below w2.heap.size wqr1o28_1 wqr1o28_2 := chg_bel hcqr1o28_1 qqr1o28_1.size (Zn.bl qqr1o26_8)
  refine ⟨fun _ => hStqr1o28_1, ?_⟩
  have qqr1o28_2 := RowKit.Below.trans qqr1o28_1 hStqr1o28_1
  refine x_only 29 rfl (by kernel_rfl) ?_; intro wqr1o29_1 hxqr1o29_1
  replace hB3 := hB3.ext hxqr1o29_1
  replace hBqr1o27_1 := hBqr1o27_1.ext hxqr1o29_1
  replace hBqr1o28_1 := hBqr1o28_1.ext hxqr1o29_1
  have hEqr1o29_1 := Ext.trans hEqr1o28_2 hxqr1o29_1
  have qqr1o29_1 := bel_step qqr1o28_2 hxqr1o29_1
  refine o_storeB ha hBqr1o27_1 Try.sizeOf3 rfl rfl rfl rfl (Nat.le_of_ble_eq_true rfl) ?_; intro wqr1o29_2 hBqr1o29_1 hcqr1o29_1
  replace hcqr1o29_1 := hcqr1o29_1.bl
  replace hBqr1o29_1 : Bx wqr1o29_2 bqr1o27_1 [(.int .i64 (max x70 x94))] 3 := hBqr1o29_1
  replace hB3 := hB3.nq hcqr1o29_1 qqr1o27_3
  replace hBqr1o28_1 := hBqr1o28_1.nq hcqr1o29_1 qqr1o26_6
  have hEqr1o29_2 := Ext.then hEqr1o29_1 hcqr1o29_1 (Zn.bl qqr1o27_5)
  refine wpList_nil (e_sq ?_)
  have hStqr1o29_1 : RowKit.Below w2.heap.size wqr1o29_1 wqr1o29_2 := chg_bel hcqr1o29_1 qqr1o29_1.size (Zn.bl qqr1o27_6)
  refine ⟨fun _ => hStqr1o29_1, ?_⟩
  have qqr1o29_2 := RowKit.Below.trans qqr1o29_1 hStqr1o29_1
  refine x_done (by kernel_rfl) ?_; intro w106 hx107
  replace hB3 := hB3.ext hx107
  replace hBqr1o29_1 := hBqr1o29_1.ext hx107
  replace hBqr1o28_1 := hBqr1o28_1.ext hx107
  have hE108 := Ext.trans hEqr1o29_2 hx107
  replace ha := ha.sub (σ' := [(1, va1), (2, va2), (3, (.pointer (some ⟨b1, 0, none⟩))), (7, (.pointer (some ⟨bqr1o26_1, 0, none⟩))), (8, (.pointer (some ⟨bqr1o27_1, 0, none⟩)))]) ⟨rfl, rfl, rfl, rfl, rfl, trivial⟩; refine e_then ?_; refine wp_seq ?_; refine wp_region_lit ?_; refine op_g ha rfl (g_func rfl rfl) ?_; clear ha a; intro a ha; refine op_g ha rfl (g_assign rfl) ?_; clear ha a; intro a ha; refine wpList_nil ?_; replace ha := ha.sub (σ' := [(1, va1), (2, va2), (9, (.func (.func 54) #[] #[(.pointer (some ⟨bqr1o26_1, 0, none⟩)), (.pointer (some ⟨b1, 0, none⟩)), (.pointer (some ⟨bqr1o27_1, 0, none⟩))]))]) ⟨rfl, rfl, rfl, trivial⟩
  refine e_then ?_; refine wp_seq ?_; refine d_quiet hmix (by kernel_rfl) ?_; refine q_g ha rfl (g_move rfl) ?_; clear ha a; intro a ha; obtain ⟨x109, g110, gx111, hF⟩ := idx_some hF
  obtain ⟨p112, cs113, f114, hf115, hpb116, hat117, hr118, hi119⟩ := ha1.at g110 gx111
  obtain ⟨rfl, hI120, rfl⟩ := hr118
  refine q_g ha rfl (hi119.gives sl25 rfl rfl) ?_; clear ha a; intro a ha; refine q_g ha rfl (g_load0 hE108 Try.isAgg2 rfl hat117.one) ?_; clear ha a; intro a ha; refine q_g ha rfl (g_move rfl) ?_; clear ha a; intro a ha; obtain ⟨x121, g122, gx123, hF⟩ := idx_some hF
  obtain ⟨p124, cs125, f126, hf127, hpb128, hat129, hr130, hi131⟩ := ha2.at g122 gx123
  obtain ⟨rfl, hI132, rfl⟩ := hr130
  refine q_g ha rfl (hi131.gives sl25 rfl rfl) ?_; clear ha a; intro a ha; refine q_g ha rfl (g_load0 hE108 Try.isAgg2 rfl hat129.one) ?_; clear ha a; intro a ha; refine q_g ha rfl (g_neq rfl rfl) ?_; clear ha a; intro a ha; refine q_g ha rfl (g_move rfl) ?_; clear ha a; intro a ha
  by_cases hp133 : x109 ≠ x121
  · replace hF := if_t hp133 hF
    rw [show (decide (x109 ≠ x121)) = true from (decide_eq_true_iff).2 hp133] at ha
    refine q_want (yields ha rfl rfl) ?_; refine q_g ha rfl (g_move rfl) ?_; clear ha a; intro a ha; refine q_want (yields ha rfl rfl) ?_; obtain ⟨x134, g135, gx136, hF⟩ := idx_some hF
    obtain ⟨p137, cs138, f139, hf140, hpb141, hat142, hr143, hi144⟩ := ha1.at g135 gx136
    obtain ⟨rfl, hI145, rfl⟩ := hr143
    refine q_g ha rfl (hi144.gives sl25 rfl rfl) ?_; clear ha a; intro a ha; refine q_want (yields ha rfl rfl) ?_; refine q_g ha rfl (g_load0 hE108 Try.isAgg2 rfl hat142.one) ?_; clear ha a; intro a ha; refine q_want (yields ha rfl rfl) ?_; refine q_g ha rfl (g_move rfl) ?_; clear ha a; intro a ha; refine q_want (yields ha rfl rfl) ?_; obtain ⟨x146, g147, gx148, hF⟩ := idx_some hF
    obtain ⟨p149, cs150, f151, hf152, hpb153, hat154, hr155, hi156⟩ := ha2.at g147 gx148
    obtain ⟨rfl, hI157, rfl⟩ := hr155
    refine q_g ha rfl (hi156.gives sl25 rfl rfl) ?_; clear ha a; intro a ha; refine q_want (yields ha rfl rfl) ?_; refine q_g ha rfl (g_load0 hE108 Try.isAgg2 rfl hat154.one) ?_; clear ha a; intro a ha; refine q_want (yields ha rfl rfl) ?_; refine q_g ha rfl (g_neq rfl rfl) ?_; clear ha a; intro a ha; refine q_g ha rfl (g_pick rfl rfl) ?_; clear ha a; intro a ha; refine q_g ha rfl (g_move rfl) ?_; clear ha a; intro a ha
    by_cases hp158 : x134 ≠ x146
    · replace hF := if_t hp158 hF
      rw [show (decide (x134 ≠ x146)) = true from (decide_eq_true_iff).2 hp158] at ha
      refine q_want (yields ha rfl rfl) ?_; refine q_g ha rfl (g_move rfl) ?_; clear ha a; intro a ha; refine q_want (yields ha rfl rfl) ?_; obtain ⟨x159, g160, gx161, hF⟩ := idx_some hF
      obtain ⟨p162, cs163, f164, hf165, hpb166, hat167, hr168, hi169⟩ := ha1.at g160 gx161
      obtain ⟨rfl, hI170, rfl⟩ := hr168
      refine q_g ha rfl (hi169.gives sl25 rfl rfl) ?_; clear ha a; intro a ha; refine q_want (yields ha rfl rfl) ?_; refine q_g ha rfl (g_load0 hE108 Try.isAgg2 rfl hat167.one) ?_; clear ha a; intro a ha; refine q_want (yields ha rfl rfl) ?_; refine q_g ha rfl (g_move rfl) ?_; clear ha a; intro a ha; refine q_want (yields ha rfl rfl) ?_; obtain ⟨x171, g172, gx173, hF⟩ := idx_some hF
      obtain ⟨p174, cs175, f176, hf177, hpb178, hat179, hr180, hi181⟩ := ha2.at g172 gx173
      obtain ⟨rfl, hI182, rfl⟩ := hr180
      refine q_g ha rfl (hi181.gives sl25 rfl rfl) ?_; clear ha a; intro a ha; refine q_want (yields ha rfl rfl) ?_; refine q_g ha rfl (g_load0 hE108 Try.isAgg2 rfl hat179.one) ?_; clear ha a; intro a ha; refine q_want (yields ha rfl rfl) ?_; refine q_g ha rfl (g_neq rfl rfl) ?_; clear ha a; intro a ha; refine q_g ha rfl (g_pick rfl rfl) ?_; clear ha a; intro a ha; refine q_g ha rfl (g_move rfl) ?_; clear ha a; intro a ha
      by_cases hp183 : x159 ≠ x171
      · replace hF := if_t hp183 hF
        rw [show (decide (x159 ≠ x171)) = true from (decide_eq_true_iff).2 hp183] at ha
        refine q_want (yields ha rfl rfl) ?_; refine q_g ha rfl (g_move rfl) ?_; clear ha a; intro a ha; refine q_want (yields ha rfl rfl) ?_; obtain ⟨x184, g185, gx186, hF⟩ := idx_some hF
        obtain ⟨p187, cs188, f189, hf190, hpb191, hat192, hr193, hi194⟩ := ha1.at g185 gx186
        obtain ⟨rfl, hI195, rfl⟩ := hr193
        refine q_g ha rfl (hi194.gives sl25 rfl rfl) ?_; clear ha a; intro a ha; refine q_want (yields ha rfl rfl) ?_; refine q_g ha rfl (g_load0 hE108 Try.isAgg2 rfl hat192.one) ?_; clear ha a; intro a ha; refine q_want (yields ha rfl rfl) ?_; refine q_g ha rfl (g_move rfl) ?_; clear ha a; intro a ha; refine q_want (yields ha rfl rfl) ?_; obtain ⟨x196, g197, gx198, hF⟩ := idx_some hF
        obtain ⟨p199, cs200, f201, hf202, hpb203, hat204, hr205, hi206⟩ := ha2.at g197 gx198
        obtain ⟨rfl, hI207, rfl⟩ := hr205
        refine q_g ha rfl (hi206.gives sl25 rfl rfl) ?_; clear ha a; intro a ha; refine q_want (yields ha rfl rfl) ?_; refine q_g ha rfl (g_load0 hE108 Try.isAgg2 rfl hat204.one) ?_; clear ha a; intro a ha; refine q_want (yields ha rfl rfl) ?_; refine q_g ha rfl (g_neq rfl rfl) ?_; clear ha a; intro a ha; refine q_g ha rfl (g_pick rfl rfl) ?_; clear ha a; intro a ha; refine q_g ha rfl (g_assign rfl) ?_; clear ha a; intro a ha
        refine q_nil ?_; intro w208 hx209
        replace hB3 := hB3.ext hx209
        replace hBqr1o29_1 := hBqr1o29_1.ext hx209
        replace hBqr1o28_1 := hBqr1o28_1.ext hx209
        have hE210 := Ext.trans hE108 hx209
        replace ha := ha.sub (σ' := [(2, va2), (9, (.func (.func 54) #[] #[(.pointer (some ⟨bqr1o26_1, 0, none⟩)), (.pointer (some ⟨b1, 0, none⟩)), (.pointer (some ⟨bqr1o27_1, 0, none⟩))])), (10, (.bool (decide (x184 ≠ x196))))]) ⟨rfl, rfl, rfl, trivial⟩; refine e_then ?_; refine wp_seq ?_; refine d_quiet hmix (by kernel_rfl) ?_; (iterate 2 refine q_g ha rfl (g_move rfl) ?_; clear ha a; intro a ha)
        by_cases hp211 : x184 ≠ x196
        · replace hF := if_t hp211 hF
          rw [show (decide (x184 ≠ x196)) = true from (decide_eq_true_iff).2 hp211] at ha
          refine q_want (yields ha rfl rfl) ?_; refine q_g ha rfl (g_move rfl) ?_; clear ha a; intro a ha; refine q_want (yields ha rfl rfl) ?_; refine q_g ha rfl (g_move rfl) ?_; clear ha a; intro a ha; refine q_want (yields ha rfl rfl) ?_; obtain ⟨x212, g213, gx214, hF⟩ := idx_some hF
          obtain ⟨p215, cs216, f217, hf218, hpb219, hat220, hr221, hi222⟩ := ha2.at g213 gx214
          obtain ⟨rfl, hI223, rfl⟩ := hr221
          refine q_g ha rfl (hi222.gives sl25 rfl rfl) ?_; clear ha a; intro a ha; refine q_want (yields ha rfl rfl) ?_; refine q_g ha rfl (g_load0 hE210 Try.isAgg2 rfl hat220.one) ?_; clear ha a; intro a ha; refine q_want (yields ha rfl rfl) ?_; obtain ⟨x226, hc227, hF⟩ := cal_some hF; refine q_callv (.bool x226) ha rfl rfl rfl Try.call54 (fun w225 hx224 => W_impl_alternate_1 hI223 (in_min hI33 hI57) (hBqr1o28_1.ext hx224) (ha0.ext (Ext.trans hE210 hx224)) (hB3.ext hx224) (in_max hI81 hI105) (hBqr1o29_1.ext hx224) hc227) (fun _ _ _ h => ⟨h.1, h.2⟩) ?_; clear ha a; intro a ha; refine q_want (yields ha rfl rfl) ?_
          refine q_g ha rfl (g_move rfl) ?_; clear ha a; intro a ha; refine q_want (yields ha rfl rfl) ?_; refine q_g ha rfl (g_move rfl) ?_; clear ha a; intro a ha; refine q_want (yields ha rfl rfl) ?_; obtain ⟨x228, g229, gx230, hF⟩ := idx_some hF
          obtain ⟨p231, cs232, f233, hf234, hpb235, hat236, hr237, hi238⟩ := ha2.at g229 gx230
          obtain ⟨rfl, hI239, rfl⟩ := hr237
          refine q_g ha rfl (hi238.gives sl25 rfl rfl) ?_; clear ha a; intro a ha; refine q_want (yields ha rfl rfl) ?_; refine q_g ha rfl (g_load0 hE210 Try.isAgg2 rfl hat236.one) ?_; clear ha a; intro a ha; refine q_want (yields ha rfl rfl) ?_; obtain ⟨x242, hc243, hF⟩ := cal_some hF; refine q_callv (.bool x242) ha rfl rfl rfl Try.call54 (fun w241 hx240 => W_impl_alternate_1 hI239 (in_min hI33 hI57) (hBqr1o28_1.ext hx240) (ha0.ext (Ext.trans hE210 hx240)) (hB3.ext hx240) (in_max hI81 hI105) (hBqr1o29_1.ext hx240) hc243) (fun _ _ _ h => ⟨h.1, h.2⟩) ?_; clear ha a; intro a ha; refine q_want (yields ha rfl rfl) ?_
          refine q_g ha rfl (gB_neq un4 rfl rfl) ?_; clear ha a; intro a ha; refine q_g ha rfl (g_pick rfl rfl) ?_; clear ha a; intro a ha; refine q_g ha rfl (g_assign rfl) ?_; clear ha a; intro a ha
          refine q_nil ?_; intro w244 hx245
          replace hB3 := hB3.ext hx245
          replace hBqr1o29_1 := hBqr1o29_1.ext hx245
          replace hBqr1o28_1 := hBqr1o28_1.ext hx245
          have hE246 := Ext.trans hE210 hx245
          replace ha := ha.sub (σ' := [(6, (.bool (x226 != x242)))]) ⟨rfl, trivial⟩; refine e_then ?_; refine wp_ret ?_; obtain rfl := Option.some.inj hF
          exact f_ret1 ha rfl rfl ⟨rfl, hE246⟩
        replace hF := if_f hp211 hF
        rw [show (decide (x184 ≠ x196)) = false from b_false (decide_eq_true_iff) hp211] at ha
        (iterate 11 refine q_unwant ha rfl (yields ha rfl rfl) rfl ?_; clear ha a; intro a ha); refine q_g ha rfl (g_pick rfl rfl) ?_; clear ha a; intro a ha; refine q_g ha rfl (g_assign rfl) ?_; clear ha a; intro a ha
        refine q_nil ?_; intro w247 hx248
        replace hB3 := hB3.ext hx248
        replace hBqr1o29_1 := hBqr1o29_1.ext hx248
        replace hBqr1o28_1 := hBqr1o28_1.ext hx248
        have hE249 := Ext.trans hE210 hx248
        replace ha := ha.sub (σ' := [(6, (.bool false))]) ⟨rfl, trivial⟩; refine e_then ?_; refine wp_ret ?_; obtain rfl := Option.some.inj hF
        exact f_ret1 ha rfl rfl ⟨rfl, hE249⟩
      replace hF := if_f hp183 hF
      rw [show (decide (x159 ≠ x171)) = false from b_false (decide_eq_true_iff) hp183] at ha
      (iterate 7 refine q_unwant ha rfl (yields ha rfl rfl) rfl ?_; clear ha a; intro a ha); refine q_g ha rfl (g_pick rfl rfl) ?_; clear ha a; intro a ha; refine q_g ha rfl (g_assign rfl) ?_; clear ha a; intro a ha
      refine q_nil ?_; intro w250 hx251
      replace hB3 := hB3.ext hx251
      replace hBqr1o29_1 := hBqr1o29_1.ext hx251
      replace hBqr1o28_1 := hBqr1o28_1.ext hx251
      have hE252 := Ext.trans hE108 hx251
      replace ha := ha.sub (σ' := [(2, va2), (9, (.func (.func 54) #[] #[(.pointer (some ⟨bqr1o26_1, 0, none⟩)), (.pointer (some ⟨b1, 0, none⟩)), (.pointer (some ⟨bqr1o27_1, 0, none⟩))])), (10, (.bool false))]) ⟨rfl, rfl, rfl, trivial⟩; refine e_then ?_; refine wp_seq ?_; refine d_quiet hmix (by kernel_rfl) ?_; (iterate 2 refine q_g ha rfl (g_move rfl) ?_; clear ha a; intro a ha); (iterate 11 refine q_unwant ha rfl (yields ha rfl rfl) rfl ?_; clear ha a; intro a ha); refine q_g ha rfl (g_pick rfl rfl) ?_; clear ha a; intro a ha; refine q_g ha rfl (g_assign rfl) ?_; clear ha a; intro a ha
      refine q_nil ?_; intro w253 hx254
      replace hB3 := hB3.ext hx254
      replace hBqr1o29_1 := hBqr1o29_1.ext hx254
      replace hBqr1o28_1 := hBqr1o28_1.ext hx254
      have hE255 := Ext.trans hE252 hx254
      replace ha := ha.sub (σ' := [(6, (.bool false))]) ⟨rfl, trivial⟩; refine e_then ?_; refine wp_ret ?_; obtain rfl := Option.some.inj hF
      exact f_ret1 ha rfl rfl ⟨rfl, hE255⟩
    replace hF := if_f hp158 hF
    rw [show (decide (x134 ≠ x146)) = false from b_false (decide_eq_true_iff) hp158] at ha
    (iterate 7 refine q_unwant ha rfl (yields ha rfl rfl) rfl ?_; clear ha a; intro a ha); refine q_g ha rfl (g_pick rfl rfl) ?_; clear ha a; intro a ha; refine q_g ha rfl (g_move rfl) ?_; clear ha a; intro a ha; (iterate 7 refine q_unwant ha rfl (yields ha rfl rfl) rfl ?_; clear ha a; intro a ha); refine q_g ha rfl (g_pick rfl rfl) ?_; clear ha a; intro a ha; refine q_g ha rfl (g_assign rfl) ?_; clear ha a; intro a ha
    refine q_nil ?_; intro w256 hx257
    replace hB3 := hB3.ext hx257
    replace hBqr1o29_1 := hBqr1o29_1.ext hx257
    replace hBqr1o28_1 := hBqr1o28_1.ext hx257
    have hE258 := Ext.trans hE108 hx257
    replace ha := ha.sub (σ' := [(2, va2), (9, (.func (.func 54) #[] #[(.pointer (some ⟨bqr1o26_1, 0, none⟩)), (.pointer (some ⟨b1, 0, none⟩)), (.pointer (some ⟨bqr1o27_1, 0, none⟩))])), (10, (.bool false))]) ⟨rfl, rfl, rfl, trivial⟩; refine e_then ?_; refine wp_seq ?_; refine d_quiet hmix (by kernel_rfl) ?_; (iterate 2 refine q_g ha rfl (g_move rfl) ?_; clear ha a; intro a ha); (iterate 11 refine q_unwant ha rfl (yields ha rfl rfl) rfl ?_; clear ha a; intro a ha); refine q_g ha rfl (g_pick rfl rfl) ?_; clear ha a; intro a ha; refine q_g ha rfl (g_assign rfl) ?_; clear ha a; intro a ha
    refine q_nil ?_; intro w259 hx260
    replace hB3 := hB3.ext hx260
    replace hBqr1o29_1 := hBqr1o29_1.ext hx260
    replace hBqr1o28_1 := hBqr1o28_1.ext hx260
    have hE261 := Ext.trans hE258 hx260
    replace ha := ha.sub (σ' := [(6, (.bool false))]) ⟨rfl, trivial⟩; refine e_then ?_; refine wp_ret ?_; obtain rfl := Option.some.inj hF
    exact f_ret1 ha rfl rfl ⟨rfl, hE261⟩
  replace hF := if_f hp133 hF
  rw [show (decide (x109 ≠ x121)) = false from b_false (decide_eq_true_iff) hp133] at ha
  (iterate 7 refine q_unwant ha rfl (yields ha rfl rfl) rfl ?_; clear ha a; intro a ha); refine q_g ha rfl (g_pick rfl rfl) ?_; clear ha a; intro a ha; refine q_g ha rfl (g_move rfl) ?_; clear ha a; intro a ha; (iterate 7 refine q_unwant ha rfl (yields ha rfl rfl) rfl ?_; clear ha a; intro a ha); refine q_g ha rfl (g_pick rfl rfl) ?_; clear ha a; intro a ha; refine q_g ha rfl (g_move rfl) ?_; clear ha a; intro a ha; (iterate 7 refine q_unwant ha rfl (yields ha rfl rfl) rfl ?_; clear ha a; intro a ha); refine q_g ha rfl (g_pick rfl rfl) ?_; clear ha a; intro a ha; refine q_g ha rfl (g_assign rfl) ?_; clear ha a; intro a ha
  refine q_nil ?_; intro w262 hx263
  replace hB3 := hB3.ext hx263
  replace hBqr1o29_1 := hBqr1o29_1.ext hx263
  replace hBqr1o28_1 := hBqr1o28_1.ext hx263
  have hE264 := Ext.trans hE108 hx263
  replace ha := ha.sub (σ' := [(2, va2), (9, (.func (.func 54) #[] #[(.pointer (some ⟨bqr1o26_1, 0, none⟩)), (.pointer (some ⟨b1, 0, none⟩)), (.pointer (some ⟨bqr1o27_1, 0, none⟩))])), (10, (.bool false))]) ⟨rfl, rfl, rfl, trivial⟩; refine e_then ?_; refine wp_seq ?_; refine d_quiet hmix (by kernel_rfl) ?_; (iterate 2 refine q_g ha rfl (g_move rfl) ?_; clear ha a; intro a ha); (iterate 11 refine q_unwant ha rfl (yields ha rfl rfl) rfl ?_; clear ha a; intro a ha); refine q_g ha rfl (g_pick rfl rfl) ?_; clear ha a; intro a ha; refine q_g ha rfl (g_assign rfl) ?_; clear ha a; intro a ha
  refine q_nil ?_; intro w265 hx266
  replace hB3 := hB3.ext hx266
  replace hBqr1o29_1 := hBqr1o29_1.ext hx266
  replace hBqr1o28_1 := hBqr1o28_1.ext hx266
  have hE267 := Ext.trans hE264 hx266
  replace ha := ha.sub (σ' := [(6, (.bool false))]) ⟨rfl, trivial⟩; refine e_then ?_; refine wp_ret ?_; obtain rfl := Option.some.inj hF
  exact f_ret1 ha rfl rfl ⟨rfl, hE267⟩
set_option maxHeartbeats 2000000 in
theorem W_impl_crossingsOn {W : World} {va0 : Value} {fa0 : List Nat} {a0 : (List (List Int))} (ha0 : Ro (Rp.sl 2 Rp.int) W fa0 va0 a0) {va1 : Value} {fa1 : List Nat} {a1 : (List Int)} (ha1 : Ro Rp.int W fa1 va1 a1) {r : Int} (hF : F_impl_crossingsOn a0 a1 = some r) :
    Calls Try.prog 23 [va0, va1].toArray W (Ret fun u w' => (u = .int .i64 r ∧ InI r) ∧ Ext W w') := by
  refine f_enter Try.func23 rfl Try.ntmps23 rfl ?_
  intro a ha
  replace ha : Fr 41 [(0, va0), (1, va1)] a := ha
  have hE : Chg [] W W := Chg.refl _ _
  unfold F_impl_crossingsOn at hF
  refine wp_seq ?_; refine wp_region_lit ?_; refine op_g ha rfl (g_assign rfl) ?_; clear ha a; intro a ha; refine wpList_nil ?_; replace ha := ha.sub (σ' := [(0, va0), (1, va1)]) ⟨rfl, rfl, trivial⟩; refine e_then ?_; refine wp_seq ?_; refine wp_region_lit ?_; refine op_g ha rfl (g_move rfl) ?_; clear ha a; intro a ha; obtain ⟨x1, hc2, hF⟩ := cal_some hF
  refine o_call ha rfl rfl Try.call41 (W_impl_placesIn (ha1.ext hE) hc2) ?_; clear ha a; rintro v3 w4 ⟨u6, u7, b8, rfl, h9, z10, rfl, hx5⟩ a ha
  have hE12 := Ext.trans hE hx5
  have q13 := Zn.upD z10 hE
  refine op_g ha rfl (g_move rfl) ?_; clear ha a; intro a ha; (iterate 2 refine op_g ha rfl (g_extract rfl rfl) ?_; clear ha a; intro a ha); (iterate 2 refine op_g ha rfl (g_assign rfl) ?_; clear ha a; intro a ha); refine wpList_nil ?_; replace ha := ha.sub (σ' := [(0, va0), (5, u6)]) ⟨rfl, rfl, trivial⟩; refine e_then ?_; refine wp_seq ?_; refine wp_region_lit ?_; refine op_g ha rfl (g_assign rfl) ?_; clear ha a; intro a ha; refine wpList_nil ?_; refine e_then ?_; refine wp_seq ?_; refine wp_seq ?_; refine wp_region_lit ?_; refine op_g ha rfl (g_move rfl) ?_; clear ha a; intro a ha; refine op_g ha rfl (g_lenR sl22.und ha0 rfl) ?_; clear ha a; intro a ha
  refine op_g ha rfl (g_move rfl) ?_; clear ha a; intro a ha; refine wpList_nil ?_; replace ha := ha.sub (σ' := [(0, va0), (5, u6), (7, (.int .i64 0)), (17, va0), (18, (.int .i64 (a0.length : Int))), (19, (.int .i64 0))]) ⟨rfl, rfl, rfl, rfl, rfl, rfl, trivial⟩; refine e_then ?_; obtain ⟨o371, ho372, hK373⟩ := bnd_some hF
  obtain ⟨n374, hn375⟩ := lp_some ho372; clear ho372
  refine c_loop (fun a w => ∃ (i369 : Int), Fr 41 [(7, (.int .i64 i369))] a ∧ Chg [] W w ∧ InI i369 ∧ o371 = .inl i369) (fun n a w => ∃ (i193 : Int) (i195 : Int), Fr 41 [(0, va0), (5, u6), (7, (.int .i64 i193)), (17, va0), (18, (.int .i64 (a0.length : Int))), (19, (.int .i64 i195))] a ∧ Chg [] W w ∧ InI i193 ∧ InI i195 ∧ Ow Rp.int 3 true w [] b8 u6 x1.1 ∧ Zn W b8 ∧ lpN (fun s => F_impl_crossingsOn_l1 a0 x1 s.1 s.2) n (i193, i195) = some o371) n374 ⟨0, 0, ha.sub ⟨rfl, rfl, rfl, rfl, rfl, rfl, trivial⟩, hE12, (show InI 0 from by decide), (show InI 0 from by decide), h9, q13, hn375⟩ ?_ ?_
  · rintro m379 a w189 ⟨i193, i195, ha, hE197, hI194, hI196, h191, z192, hF⟩
    cases m379 with
    | zero => exact (lpN_zero hF).elim
    | succ m379 =>
      obtain ⟨z378, hF, hN377⟩ := lpN_succ hF
      have hF : F_impl_crossingsOn_l1 a0 x1 i193 i195 = some z378 := hF; unfold F_impl_crossingsOn_l1 at hF
      refine wp_seq ?_; refine wp_region_lit ?_; refine op_g ha rfl (g_lss rfl rfl) ?_; clear ha a; intro a ha; refine wpList_nil ?_; replace ha := ha.sub (σ' := [(0, va0), (5, u6), (7, (.int .i64 i193)), (17, va0), (18, (.int .i64 (a0.length : Int))), (19, (.int .i64 i195)), (20, (.bool (decide (i195 < (a0.length : Int)))))]) ⟨rfl, rfl, rfl, rfl, rfl, rfl, rfl, trivial⟩; refine e_then ?_; refine wp_seq ?_; refine c_cond (i195 < (a0.length : Int)) ha rfl (decide_eq_true_iff) (fun hp380 => ?_) (fun hp380 => ?_)
      · replace hF := if_t hp380 hF
        refine wp_skip ?_; refine e_then ?_; refine wp_seq ?_; refine wp_block ?_; refine wp_seq ?_; refine wp_region_lit ?_; refine op_g ha rfl (g_move rfl) ?_; clear ha a; intro a ha; obtain ⟨x381, g382, gx383, hF⟩ := idx_some hF
        obtain ⟨p384, cs385, f386, hf387, hpb388, hat389, hr390, hi391⟩ := ha0.at g382 gx383
        obtain ⟨v392, rfl, h393⟩ := hr390
        have h393 : Ro Rp.int W f386 v392 x381 := h393
        refine op_g ha rfl (hi391.gives sl22 rfl rfl) ?_; clear ha a; intro a ha; refine op_g ha rfl (g_load0 hE197 Try.isAgg25 rfl hat389.one) ?_; clear ha a; intro a ha; (iterate 2 refine op_g ha rfl (g_assign rfl) ?_; clear ha a; intro a ha); refine wpList_nil ?_; replace ha := ha.sub (σ' := [(0, va0), (5, u6), (7, (.int .i64 i193)), (8, (.int .i64 i195)), (9, v392), (17, va0), (18, (.int .i64 (a0.length : Int))), (19, (.int .i64 i195))]) ⟨rfl, rfl, rfl, rfl, rfl, rfl, rfl, rfl, trivial⟩; refine e_then ?_; refine wp_seq ?_; refine wp_region_lit ?_; (iterate 2 refine op_g ha rfl (g_move rfl) ?_; clear ha a; intro a ha)
        obtain ⟨hb395a, hb395b, hb395c, hF⟩ := slc_some hF
        obtain ⟨v396, fp397, hrun398, hro399, hsub400⟩ := ha0.slice (lo := none) (hi := (some (.int .i64 i195))) (i := 0) (j := i195) sl22 (.inl ⟨rfl, rfl⟩) (.inr ⟨_, rfl⟩) ⟨hb395a, hb395b, hb395c⟩
        refine op_g ha rfl (g_slice sl22.und rfl rfl rfl hrun398) ?_; clear ha a; intro a ha; refine op_g ha rfl (g_lenR sl22.und hro399 rfl) ?_; clear ha a; intro a ha; refine op_g ha rfl (g_move rfl) ?_; clear ha a; intro a ha; refine wpList_nil ?_; replace ha := ha.sub (σ' := [(0, va0), (5, u6), (7, (.int .i64 i193)), (9, v392), (17, va0), (18, (.int .i64 (a0.length : Int))), (19, (.int .i64 i195)), (26, v396), (27, (.int .i64 (((a0.drop (0 : Int).toNat).take ((i195 : Int).toNat - (0 : Int).toNat)).length : Int))), (28, (.int .i64 0))]) ⟨rfl, rfl, rfl, rfl, rfl, rfl, rfl, rfl, rfl, rfl, trivial⟩
        refine e_then ?_; obtain ⟨o500, ho501, hK502⟩ := bnd_some hF
        obtain ⟨n503, hn504⟩ := lp_some ho501; clear ho501
        refine c_loop (fun a w => ∃ (i498 : Int), Fr 41 [(0, va0), (5, u6), (7, (.int .i64 i498)), (17, va0), (18, (.int .i64 (a0.length : Int))), (19, (.int .i64 i195))] a ∧ Chg [] W w ∧ InI i498 ∧ Ow Rp.int 3 true w [] b8 u6 x1.1 ∧ Zn W b8 ∧ o500 = .inl i498) (fun n a w => ∃ (i450 : Int) (i452 : Int), Fr 41 [(0, va0), (5, u6), (7, (.int .i64 i450)), (9, v392), (17, va0), (18, (.int .i64 (a0.length : Int))), (19, (.int .i64 i195)), (26, v396), (27, (.int .i64 (((a0.drop (0 : Int).toNat).take ((i195 : Int).toNat - (0 : Int).toNat)).length : Int))), (28, (.int .i64 i452))] a ∧ Chg [] W w ∧ InI i450 ∧ InI i452 ∧ Ow Rp.int 3 true w [] b8 u6 x1.1 ∧ Zn W b8 ∧ lpN (fun s => F_impl_crossingsOn_l2 a0 x1 i195 x381 s.1 s.2) n (i450, i452) = some o500) n503 ⟨i193, 0, ha.sub ⟨rfl, rfl, rfl, rfl, rfl, rfl, rfl, rfl, rfl, rfl, trivial⟩, hE197, hI194, (show InI 0 from by decide), h191, z192, hn504⟩ ?_ ?_
        · rintro m508 a w446 ⟨i450, i452, ha, hE454, hI451, hI453, h448, z449, hF⟩
          cases m508 with
          | zero => exact (lpN_zero hF).elim
          | succ m508 =>
            obtain ⟨z507, hF, hN506⟩ := lpN_succ hF
            have hF : F_impl_crossingsOn_l2 a0 x1 i195 x381 i450 i452 = some z507 := hF; unfold F_impl_crossingsOn_l2 at hF
            refine wp_seq ?_; refine wp_region_lit ?_; refine op_g ha rfl (g_lss rfl rfl) ?_; clear ha a; intro a ha; refine wpList_nil ?_; replace ha := ha.sub (σ' := [(0, va0), (5, u6), (7, (.int .i64 i450)), (9, v392), (17, va0), (18, (.int .i64 (a0.length : Int))), (19, (.int .i64 i195)), (26, v396), (27, (.int .i64 (((a0.drop (0 : Int).toNat).take ((i195 : Int).toNat - (0 : Int).toNat)).length : Int))), (28, (.int .i64 i452)), (29, (.bool (decide (i452 < (((a0.drop (0 : Int).toNat).take ((i195 : Int).toNat - (0 : Int).toNat)).length : Int)))))]) ⟨rfl, rfl, rfl, rfl, rfl, rfl, rfl, rfl, rfl, rfl, rfl, trivial⟩
            refine e_then ?_; refine wp_seq ?_; refine c_cond (i452 < (((a0.drop (0 : Int).toNat).take ((i195 : Int).toNat - (0 : Int).toNat)).length : Int)) ha rfl (decide_eq_true_iff) (fun hp509 => ?_) (fun hp509 => ?_)
            · replace hF := if_t hp509 hF
              refine wp_skip ?_; refine e_then ?_; refine wp_seq ?_; refine wp_block ?_; refine wp_seq ?_; refine wp_region_lit ?_; obtain ⟨x510, g511, gx512, hF⟩ := idx_some hF
              obtain ⟨p513, cs514, f515, hf516, hpb517, hat518, hr519, hi520⟩ := hro399.at g511 gx512
              obtain ⟨v521, rfl, h522⟩ := hr519
              have h522 : Ro Rp.int W f515 v521 x510 := h522
              refine op_g ha rfl (hi520.gives sl22 rfl rfl) ?_; clear ha a; intro a ha; refine op_g ha rfl (g_load0 hE454 Try.isAgg25 rfl hat518.one) ?_; clear ha a; intro a ha; refine op_g ha rfl (g_assign rfl) ?_; clear ha a; intro a ha; refine wpList_nil ?_; replace ha := ha.sub (σ' := [(0, va0), (5, u6), (7, (.int .i64 i450)), (9, v392), (11, v521), (17, va0), (18, (.int .i64 (a0.length : Int))), (19, (.int .i64 i195)), (26, v396), (27, (.int .i64 (((a0.drop (0 : Int).toNat).take ((i195 : Int).toNat - (0 : Int).toNat)).length : Int))), (28, (.int .i64 i452))]) ⟨rfl, rfl, rfl, rfl, rfl, rfl, rfl, rfl, rfl, rfl, rfl, trivial⟩
              refine e_then ?_; refine wp_seq ?_; refine wp_region_lit ?_; (iterate 3 refine op_g ha rfl (g_move rfl) ?_; clear ha a; intro a ha)
              obtain ⟨fp524, hro525, hs526⟩ := h448.roF
              obtain ⟨x527, hc528, hF⟩ := cal_some hF
              refine o_call ha rfl rfl Try.call42 (W_impl_alternate hro525 (h393.ext hE454) (h522.ext hE454) hc528) ?_; clear ha a; rintro v529 w530 ⟨rfl, hx531⟩ a ha
              replace h448 := h448.ext hx531
              have hE532 := Ext.trans hE454 hx531
              refine wpList_nil ?_; replace ha := ha.sub (σ' := [(0, va0), (5, u6), (7, (.int .i64 i450)), (9, v392), (17, va0), (18, (.int .i64 (a0.length : Int))), (19, (.int .i64 i195)), (26, v396), (27, (.int .i64 (((a0.drop (0 : Int).toNat).take ((i195 : Int).toNat - (0 : Int).toNat)).length : Int))), (28, (.int .i64 i452)), (35, (.bool x527))]) ⟨rfl, rfl, rfl, rfl, rfl, rfl, rfl, rfl, rfl, rfl, rfl, trivial⟩; refine e_then ?_; refine c_cond (x527 = true) ha rfl (Iff.rfl) (fun hp533 => ?_) (fun hp533 => ?_)
              · replace hF := if_t hp533 hF
                refine wp_region_lit ?_; refine op_g ha rfl (g_move rfl) ?_; clear ha a; intro a ha; obtain ⟨hI534, hF⟩ := ck_some hF; refine op_g ha rfl (g_add rfl rfl hI534) ?_; clear ha a; intro a ha; refine op_g ha rfl (g_assign rfl) ?_; clear ha a; intro a ha; refine wpList_nil ?_; replace ha := ha.sub (σ' := [(0, va0), (5, u6), (7, (.int .i64 (i450 + 1))), (9, v392), (17, va0), (18, (.int .i64 (a0.length : Int))), (19, (.int .i64 i195)), (26, v396), (27, (.int .i64 (((a0.drop (0 : Int).toNat).take ((i195 : Int).toNat - (0 : Int).toNat)).length : Int))), (28, (.int .i64 i452))]) ⟨rfl, rfl, rfl, rfl, rfl, rfl, rfl, rfl, rfl, rfl, trivial⟩
                refine e_blk ?_; refine e_then ?_; refine wp_region_lit ?_; obtain ⟨hI536, hF⟩ := ck_some hF; refine op_g ha rfl (g_add rfl rfl hI536) ?_; clear ha a; intro a ha; refine op_g ha rfl (g_move rfl) ?_; clear ha a; intro a ha; refine wpList_nil ?_; replace ha := ha.sub (σ' := [(0, va0), (5, u6), (7, (.int .i64 (i450 + 1))), (9, v392), (17, va0), (18, (.int .i64 (a0.length : Int))), (19, (.int .i64 i195)), (26, v396), (27, (.int .i64 (((a0.drop (0 : Int).toNat).take ((i195 : Int).toNat - (0 : Int).toNat)).length : Int))), (28, (.int .i64 (i452 + 1)))]) ⟨rfl, rfl, rfl, rfl, rfl, rfl, rfl, rfl, rfl, rfl, trivial⟩
                refine e_lq ?_; obtain rfl := Option.some.inj hF
                exact ⟨_, Nat.lt_succ_self _, i450 + 1, i452 + 1, ha.sub ⟨rfl, rfl, rfl, rfl, rfl, rfl, rfl, rfl, rfl, rfl, trivial⟩, hE532, hI534, hI536, h448, z449, hN506⟩
              replace hF := if_f hp533 hF; refine wp_skip ?_; refine e_blk ?_; refine e_then ?_; refine wp_region_lit ?_; obtain ⟨hI538, hF⟩ := ck_some hF; refine op_g ha rfl (g_add rfl rfl hI538) ?_; clear ha a; intro a ha; refine op_g ha rfl (g_move rfl) ?_; clear ha a; intro a ha; refine wpList_nil ?_; replace ha := ha.sub (σ' := [(0, va0), (5, u6), (7, (.int .i64 i450)), (9, v392), (17, va0), (18, (.int .i64 (a0.length : Int))), (19, (.int .i64 i195)), (26, v396), (27, (.int .i64 (((a0.drop (0 : Int).toNat).take ((i195 : Int).toNat - (0 : Int).toNat)).length : Int))), (28, (.int .i64 (i452 + 1)))]) ⟨rfl, rfl, rfl, rfl, rfl, rfl, rfl, rfl, rfl, rfl, trivial⟩
              refine e_lq ?_; obtain rfl := Option.some.inj hF
              exact ⟨_, Nat.lt_succ_self _, i450, i452 + 1, ha.sub ⟨rfl, rfl, rfl, rfl, rfl, rfl, rfl, rfl, rfl, rfl, trivial⟩, hE532, hI451, hI538, h448, z449, hN506⟩
            replace hF := if_f hp509 hF; refine wp_exit ?_; refine e_then_exit ?_; refine e_lq_eq ?_; obtain rfl := Option.some.inj hF
            exact ⟨i450, ha.sub ⟨rfl, rfl, rfl, rfl, rfl, rfl, trivial⟩, hE454, hI451, h448, z449, (LK_inr hN506).symm⟩
        rintro a w494 ⟨i498, ha, hE505, hI499, h496, z497, rfl⟩
        have hF : F_impl_crossingsOn_k3 i195 i498 = some _ := hK502; clear hK502; unfold F_impl_crossingsOn_k3 at hF
        refine e_blk ?_; refine e_then ?_; refine wp_region_lit ?_; obtain ⟨hI540, hF⟩ := ck_some hF; refine op_g ha rfl (g_add rfl rfl hI540) ?_; clear ha a; intro a ha; refine op_g ha rfl (g_move rfl) ?_; clear ha a; intro a ha; refine wpList_nil ?_; replace ha := ha.sub (σ' := [(0, va0), (5, u6), (7, (.int .i64 i498)), (17, va0), (18, (.int .i64 (a0.length : Int))), (19, (.int .i64 (i195 + 1)))]) ⟨rfl, rfl, rfl, rfl, rfl, rfl, trivial⟩; refine e_lq ?_; obtain rfl := Option.some.inj hF
        exact ⟨_, Nat.lt_succ_self _, i498, i195 + 1, ha.sub ⟨rfl, rfl, rfl, rfl, rfl, rfl, trivial⟩, hE505, hI499, hI540, h496, z497, hN377⟩
      replace hF := if_f hp380 hF; refine wp_exit ?_; refine e_then_exit ?_; refine e_lq_eq ?_; obtain rfl := Option.some.inj hF
      exact ⟨i193, ha.sub ⟨rfl, trivial⟩, hE197, hI194, (LK_inr hN377).symm⟩
  rintro a w368 ⟨i369, ha, hE376, hI370, rfl⟩
  have hF : F_impl_crossingsOn_k4 i369 = some _ := hK373; clear hK373; unfold F_impl_crossingsOn_k4 at hF
  refine e_then ?_; refine wp_seq ?_; refine wp_region_lit ?_; refine op_g ha rfl (g_move rfl) ?_; clear ha a; intro a ha; refine op_g ha rfl (g_assign rfl) ?_; clear ha a; intro a ha; refine wpList_nil ?_; replace ha := ha.sub (σ' := [(4, (.int .i64 i369))]) ⟨rfl, trivial⟩; refine e_then ?_; refine wp_ret ?_; obtain rfl := Option.some.inj hF
  exact f_ret1 ha rfl rfl ⟨⟨rfl, hI370⟩, hE376⟩
set_option maxHeartbeats 2000000 in
theorem W_impl_CrossingsOf {W : World} {va0_0 : Value} {fa0_0 : List Nat} {a0_0 : (List (List Int))} (ha0_0 : Ro (Rp.sl 2 Rp.int) W fa0_0 va0_0 a0_0) {va1 : Value} {fa1 : List Nat} {a1 : (List Int)} (ha1 : Ro Rp.int W fa1 va1 a1) {r : Int} (hF : F_impl_CrossingsOf a0_0 a1 = some r) :
    Calls Try.prog 9 [.agg #[va0_0], va1].toArray W (Ret fun u w' => (u = .int .i64 r ∧ InI r) ∧ Ext W w') := by
  refine f_enter Try.func9 rfl Try.ntmps9 rfl ?_
  intro a ha
  replace ha : Fr 13 [(0, (.agg #[va0_0])), (1, va1)] a := ha
  have hE : Chg [] W W := Chg.refl _ _
  unfold F_impl_CrossingsOf at hF
  refine wp_seq ?_; refine wp_region_lit ?_
  refine o_box ha rfl rfl rfl ?_; clear ha a; intro b1 w2 hB3 hx4 hlo5 a ha
  have q6 := Zn.one hlo5
  have q7 := Zn.upD q6 hE
  have hE8 := Ext.trans hE hx4
  refine op_g ha rfl (g_assign rfl) ?_; clear ha a; intro a ha; refine wpList_nil ?_; replace ha := ha.sub (σ' := [(1, va1), (2, (.pointer (some ⟨b1, 0, none⟩)))]) ⟨rfl, rfl, trivial⟩; refine e_then ?_; refine wp_seq ?_; refine wp_seq ?_; refine wp_region_lit ?_; refine op_g ha rfl (g_loadA (cs := [va0_0]) Try.isAgg28 Try.sizeOf28 rfl (by simp) hB3.all) ?_; clear ha a; intro a ha; refine op_g ha rfl (g_move rfl) ?_; clear ha a; intro a ha; obtain ⟨x9, hc10, hF⟩ := cal_some hF
  refine o_call ha rfl rfl Try.call22 (W_impl_RingOk (ha0_0.ext hE8) (ha1.ext hE8) hc10) ?_; clear ha a; rintro v11 w12 ⟨rfl, hx13⟩ a ha
  replace hB3 := hB3.ext hx13
  have hE14 := Ext.trans hE8 hx13
  refine op_g ha rfl (g_not rfl) ?_; clear ha a; intro a ha; refine wpList_nil ?_; replace ha := ha.sub (σ' := [(1, va1), (2, (.pointer (some ⟨b1, 0, none⟩))), (8, (.bool (!x9)))]) ⟨rfl, rfl, rfl, trivial⟩; refine e_then ?_; refine c_cond (¬ (x9 = true)) ha rfl (n_iff (Iff.rfl)) (fun hp15 => ?_) (fun hp15 => ?_)
  · replace hF := if_t hp15 hF
    refine wp_seq ?_; refine wp_region_lit ?_; refine op_g ha rfl (g_assign rfl) ?_; clear ha a; intro a ha; refine wpList_nil ?_; replace ha := ha.sub (σ' := [(4, (.int .i64 (-1)))]) ⟨rfl, trivial⟩; refine e_then ?_; refine wp_ret ?_; refine e_then_ret ?_; obtain rfl := Option.some.inj hF
    exact f_ret1 ha rfl rfl ⟨⟨rfl, (show InI (-1) from by decide)⟩, hE14⟩
  replace hF := if_f hp15 hF; refine wp_skip ?_; refine e_then ?_; refine wp_seq ?_; refine wp_region_lit ?_; refine op_g ha rfl (g_loadA (cs := [va0_0]) Try.isAgg28 Try.sizeOf28 rfl (by simp) hB3.all) ?_; clear ha a; intro a ha; obtain ⟨x16, hc17, hF⟩ := cal_some hF
  refine o_call ha rfl rfl Try.call24 (W_impl_edgesOf (ha0_0.ext hE14) hc17) ?_; clear ha a; rintro v18 w19 ⟨b21, fs25, h22, z23, zf26, nd27, hx20⟩ a ha
  have q28 := Nq.new hB3.fpb z23
  have q29 := Nq.madeF z23 zf26 hB3.bi
  have q30 := Nf.new hB3.fpb zf26
  replace hB3 := hB3.ext hx20
  have hE31 := Ext.trans hE14 hx20
  have q32 := Zn.upD z23 hE14
  have q33 := zf_up zf26 hE14
  refine op_g ha rfl (g_move rfl) ?_; clear ha a; intro a ha
  obtain ⟨fp34, hro35, hs36⟩ := h22.roF
  obtain ⟨x37, hc38, hF⟩ := cal_some hF
  refine o_call ha rfl rfl Try.call23 (W_impl_crossingsOn hro35 (ha1.ext hE31) hc38) ?_; clear ha a; rintro v39 w40 ⟨⟨rfl, hI42⟩, hx41⟩ a ha
  replace hB3 := hB3.ext hx41
  replace h22 := h22.ext hx41
  have hE43 := Ext.trans hE31 hx41
  refine op_g ha rfl (g_assign rfl) ?_; clear ha a; intro a ha; refine wpList_nil ?_; replace ha := ha.sub (σ' := [(4, (.int .i64 x37))]) ⟨rfl, trivial⟩; refine e_then ?_; refine wp_ret ?_; obtain rfl := Option.some.inj hF
  exact f_ret1 ha rfl rfl ⟨⟨rfl, hI42⟩, hE43⟩
set_option maxHeartbeats 2000000 in
theorem W_laws_eqInt64S {W : World} {va0 : Value} {fa0 : List Nat} {a0 : (List Int)} (ha0 : Ro Rp.int W fa0 va0 a0) {va1 : Value} {fa1 : List Nat} {a1 : (List Int)} (ha1 : Ro Rp.int W fa1 va1 a1) {r : Bool} (hF : F_laws_eqInt64S a0 a1 = some r) :
    Calls Try.prog 11 [va0, va1].toArray W (Ret fun u w' => u = .bool r ∧ Ext W w') := by
  refine f_enter Try.func11 rfl Try.ntmps11 rfl ?_
  intro a ha
  replace ha : Fr 26 [(0, va0), (1, va1)] a := ha
  have hE : Chg [] W W := Chg.refl _ _
  unfold F_laws_eqInt64S at hF
  refine wp_seq ?_; refine wp_region_lit ?_; refine op_g ha rfl (g_assign rfl) ?_; clear ha a; intro a ha; refine wpList_nil ?_; replace ha := ha.sub (σ' := [(0, va0), (1, va1)]) ⟨rfl, rfl, trivial⟩; refine e_then ?_; refine wp_seq ?_; refine wp_seq ?_; refine wp_region_lit ?_; refine op_g ha rfl (g_move rfl) ?_; clear ha a; intro a ha; refine op_g ha rfl (g_lenR sl25.und ha0 rfl) ?_; clear ha a; intro a ha; refine op_g ha rfl (g_move rfl) ?_; clear ha a; intro a ha; refine op_g ha rfl (g_lenR sl25.und ha1 rfl) ?_; clear ha a; intro a ha; refine op_g ha rfl (g_neq rfl rfl) ?_; clear ha a; intro a ha
  refine wpList_nil ?_; replace ha := ha.sub (σ' := [(0, va0), (1, va1), (10, (.bool (decide ((a0.length : Int) ≠ (a1.length : Int)))))]) ⟨rfl, rfl, rfl, trivial⟩; refine e_then ?_; refine c_cond ((a0.length : Int) ≠ (a1.length : Int)) ha rfl (decide_eq_true_iff) (fun hp1 => ?_) (fun hp1 => ?_)
  · replace hF := if_t hp1 hF
    refine wp_seq ?_; refine wp_region_lit ?_; refine op_g ha rfl (g_assign rfl) ?_; clear ha a; intro a ha; refine wpList_nil ?_; replace ha := ha.sub (σ' := [(4, (.bool false))]) ⟨rfl, trivial⟩; refine e_then ?_; refine wp_ret ?_; refine e_then_ret ?_; obtain rfl := Option.some.inj hF
    exact f_ret1 ha rfl rfl ⟨rfl, hE⟩
  replace hF := if_f hp1 hF; refine wp_skip ?_; refine e_then ?_; refine wp_seq ?_; refine wp_seq ?_; refine wp_region_lit ?_; refine op_g ha rfl (g_assign rfl) ?_; clear ha a; intro a ha; refine wpList_nil ?_; replace ha := ha.sub (σ' := [(0, va0), (1, va1), (5, (.int .i64 0))]) ⟨rfl, rfl, rfl, trivial⟩; refine e_then ?_; obtain ⟨o77, ho78, hK79⟩ := bnd_some hF
  obtain ⟨n80, hn81⟩ := lp_some ho78; clear ho78
  refine c_loop (fun a w => Fr 26 [] a ∧ Chg [] W w ∧ o77 = .inl ()) (fun n a w => ∃ (i39 : Int), Fr 26 [(0, va0), (1, va1), (5, (.int .i64 i39))] a ∧ Chg [] W w ∧ InI i39 ∧ lpN (fun s => F_laws_eqInt64S_l1 a0 a1 s) n i39 = some o77) n80 ⟨0, ha.sub ⟨rfl, rfl, rfl, trivial⟩, hE, (show InI 0 from by decide), hn81⟩ ?_ ?_
  · rintro m85 a w38 ⟨i39, ha, hE41, hI40, hF⟩
    cases m85 with
    | zero => exact (lpN_zero hF).elim
    | succ m85 =>
      obtain ⟨z84, hF, hN83⟩ := lpN_succ hF
      have hF : F_laws_eqInt64S_l1 a0 a1 i39 = some z84 := hF; unfold F_laws_eqInt64S_l1 at hF
      refine wp_seq ?_; refine wp_seq ?_; refine wp_region_lit ?_; (iterate 2 refine op_g ha rfl (g_move rfl) ?_; clear ha a; intro a ha); refine op_g ha rfl (g_lenR sl25.und ha0 rfl) ?_; clear ha a; intro a ha; refine op_g ha rfl (g_lss rfl rfl) ?_; clear ha a; intro a ha; refine wpList_nil ?_; replace ha := ha.sub (σ' := [(0, va0), (1, va1), (5, (.int .i64 i39)), (14, (.bool (decide (i39 < (a0.length : Int)))))]) ⟨rfl, rfl, rfl, rfl, trivial⟩; refine e_then ?_; refine c_cond (i39 < (a0.length : Int)) ha rfl (decide_eq_true_iff) (fun hp86 => ?_) (fun hp86 => ?_)
      · replace hF := if_t hp86 hF
        refine wp_skip ?_; refine e_then ?_; refine wp_seq ?_; refine wp_block ?_; refine wp_seq ?_; refine d_quiet hmix (by kernel_rfl) ?_; (iterate 2 refine q_g ha rfl (g_move rfl) ?_; clear ha a; intro a ha); obtain ⟨x87, g88, gx89, hF⟩ := idx_some hF
        obtain ⟨p90, cs91, f92, hf93, hpb94, hat95, hr96, hi97⟩ := ha0.at g88 gx89
        obtain ⟨rfl, hI98, rfl⟩ := hr96
        refine q_g ha rfl (hi97.gives sl25 rfl rfl) ?_; clear ha a; intro a ha; refine q_g ha rfl (g_load0 hE41 Try.isAgg2 rfl hat95.one) ?_; clear ha a; intro a ha; (iterate 2 refine q_g ha rfl (g_move rfl) ?_; clear ha a; intro a ha); obtain ⟨x99, g100, gx101, hF⟩ := idx_some hF
        obtain ⟨p102, cs103, f104, hf105, hpb106, hat107, hr108, hi109⟩ := ha1.at g100 gx101
        obtain ⟨rfl, hI110, rfl⟩ := hr108
        refine q_g ha rfl (hi109.gives sl25 rfl rfl) ?_; clear ha a; intro a ha; refine q_g ha rfl (g_load0 hE41 Try.isAgg2 rfl hat107.one) ?_; clear ha a; intro a ha; refine q_g ha rfl (g_neq rfl rfl) ?_; clear ha a; intro a ha
        refine q_nil ?_; intro w111 hx112
        have hE113 := Ext.trans hE41 hx112
        replace ha := ha.sub (σ' := [(0, va0), (1, va1), (5, (.int .i64 i39)), (25, (.bool (decide (x87 ≠ x99))))]) ⟨rfl, rfl, rfl, rfl, trivial⟩; refine e_then ?_; refine c_cond (x87 ≠ x99) ha rfl (decide_eq_true_iff) (fun hp114 => ?_) (fun hp114 => ?_)
        · replace hF := if_t hp114 hF
          refine wp_seq ?_; refine wp_region_lit ?_; refine op_g ha rfl (g_assign rfl) ?_; clear ha a; intro a ha; refine wpList_nil ?_; replace ha := ha.sub (σ' := [(4, (.bool false))]) ⟨rfl, trivial⟩; refine e_then ?_; refine wp_ret ?_; refine e_blk_ret ?_; refine e_then_ret ?_; refine e_lq_ret ?_; refine e_then_ret ?_; obtain rfl := Option.some.inj hF
          have e115 := LK_inr hN83; subst e115
          have e116 := BK_inr hK79; subst e116
          exact f_ret1 ha rfl rfl ⟨rfl, hE113⟩
        replace hF := if_f hp114 hF; refine wp_skip ?_; refine e_blk ?_; refine e_then ?_; refine wp_region_lit ?_; refine op_g ha rfl (g_move rfl) ?_; clear ha a; intro a ha; obtain ⟨hI117, hF⟩ := ck_some hF; refine op_g ha rfl (g_add rfl rfl hI117) ?_; clear ha a; intro a ha; refine op_g ha rfl (g_assign rfl) ?_; clear ha a; intro a ha; refine wpList_nil ?_; replace ha := ha.sub (σ' := [(0, va0), (1, va1), (5, (.int .i64 (i39 + 1)))]) ⟨rfl, rfl, rfl, trivial⟩; refine e_lq ?_; obtain rfl := Option.some.inj hF
        exact ⟨_, Nat.lt_succ_self _, i39 + 1, ha.sub ⟨rfl, rfl, rfl, trivial⟩, hE113, hI117, hN83⟩
      replace hF := if_f hp86 hF; refine wp_exit ?_; refine e_then_exit ?_; refine e_lq_eq ?_; obtain rfl := Option.some.inj hF
      exact ⟨ha.sub trivial, hE41, (LK_inr hN83).symm⟩
  rintro a w76 ⟨ha, hE82, rfl⟩
  have hF : F_laws_eqInt64S_k2 = some _ := hK79; clear hK79; unfold F_laws_eqInt64S_k2 at hF
  refine e_then ?_; refine wp_seq ?_; refine wp_region_lit ?_; refine op_g ha rfl (g_assign rfl) ?_; clear ha a; intro a ha; refine wpList_nil ?_; refine e_then ?_; refine wp_ret ?_; obtain rfl := Option.some.inj hF
  exact f_ret1 ha rfl rfl ⟨rfl, hE82⟩
set_option maxHeartbeats 2000000 in
theorem W_laws_eqInt64SS {W : World} {va0 : Value} {fa0 : List Nat} {a0 : (List (List Int))} (ha0 : Ro (Rp.sl 2 Rp.int) W fa0 va0 a0) {va1 : Value} {fa1 : List Nat} {a1 : (List (List Int))} (ha1 : Ro (Rp.sl 2 Rp.int) W fa1 va1 a1) {r : Bool} (hF : F_laws_eqInt64SS a0 a1 = some r) :
    Calls Try.prog 25 [va0, va1].toArray W (Ret fun u w' => u = .bool r ∧ Ext W w') := by
  refine f_enter Try.func25 rfl Try.ntmps25 rfl ?_
  intro a ha
  replace ha : Fr 27 [(0, va0), (1, va1)] a := ha
  have hE : Chg [] W W := Chg.refl _ _
  unfold F_laws_eqInt64SS at hF
  refine wp_seq ?_; refine wp_region_lit ?_; refine op_g ha rfl (g_assign rfl) ?_; clear ha a; intro a ha; refine wpList_nil ?_; replace ha := ha.sub (σ' := [(0, va0), (1, va1)]) ⟨rfl, rfl, trivial⟩; refine e_then ?_; refine wp_seq ?_; refine wp_seq ?_; refine wp_region_lit ?_; refine op_g ha rfl (g_move rfl) ?_; clear ha a; intro a ha; refine op_g ha rfl (g_lenR sl22.und ha0 rfl) ?_; clear ha a; intro a ha; refine op_g ha rfl (g_move rfl) ?_; clear ha a; intro a ha; refine op_g ha rfl (g_lenR sl22.und ha1 rfl) ?_; clear ha a; intro a ha; refine op_g ha rfl (g_neq rfl rfl) ?_; clear ha a; intro a ha
  refine wpList_nil ?_; replace ha := ha.sub (σ' := [(0, va0), (1, va1), (10, (.bool (decide ((a0.length : Int) ≠ (a1.length : Int)))))]) ⟨rfl, rfl, rfl, trivial⟩; refine e_then ?_; refine c_cond ((a0.length : Int) ≠ (a1.length : Int)) ha rfl (decide_eq_true_iff) (fun hp1 => ?_) (fun hp1 => ?_)
  · replace hF := if_t hp1 hF
    refine wp_seq ?_; refine wp_region_lit ?_; refine op_g ha rfl (g_assign rfl) ?_; clear ha a; intro a ha; refine wpList_nil ?_; replace ha := ha.sub (σ' := [(4, (.bool false))]) ⟨rfl, trivial⟩; refine e_then ?_; refine wp_ret ?_; refine e_then_ret ?_; obtain rfl := Option.some.inj hF
    exact f_ret1 ha rfl rfl ⟨rfl, hE⟩
  replace hF := if_f hp1 hF; refine wp_skip ?_; refine e_then ?_; refine wp_seq ?_; refine wp_seq ?_; refine wp_region_lit ?_; refine op_g ha rfl (g_assign rfl) ?_; clear ha a; intro a ha; refine wpList_nil ?_; replace ha := ha.sub (σ' := [(0, va0), (1, va1), (5, (.int .i64 0))]) ⟨rfl, rfl, rfl, trivial⟩; refine e_then ?_; obtain ⟨o93, ho94, hK95⟩ := bnd_some hF
  obtain ⟨n96, hn97⟩ := lp_some ho94; clear ho94
  refine c_loop (fun a w => Fr 27 [] a ∧ Chg [] W w ∧ o93 = .inl ()) (fun n a w => ∃ (i47 : Int), Fr 27 [(0, va0), (1, va1), (5, (.int .i64 i47))] a ∧ Chg [] W w ∧ InI i47 ∧ lpN (fun s => F_laws_eqInt64SS_l1 a0 a1 s) n i47 = some o93) n96 ⟨0, ha.sub ⟨rfl, rfl, rfl, trivial⟩, hE, (show InI 0 from by decide), hn97⟩ ?_ ?_
  · rintro m101 a w46 ⟨i47, ha, hE49, hI48, hF⟩
    cases m101 with
    | zero => exact (lpN_zero hF).elim
    | succ m101 =>
      obtain ⟨z100, hF, hN99⟩ := lpN_succ hF
      have hF : F_laws_eqInt64SS_l1 a0 a1 i47 = some z100 := hF; unfold F_laws_eqInt64SS_l1 at hF
      refine wp_seq ?_; refine wp_seq ?_; refine wp_region_lit ?_; (iterate 2 refine op_g ha rfl (g_move rfl) ?_; clear ha a; intro a ha); refine op_g ha rfl (g_lenR sl22.und ha0 rfl) ?_; clear ha a; intro a ha; refine op_g ha rfl (g_lss rfl rfl) ?_; clear ha a; intro a ha; refine wpList_nil ?_; replace ha := ha.sub (σ' := [(0, va0), (1, va1), (5, (.int .i64 i47)), (14, (.bool (decide (i47 < (a0.length : Int)))))]) ⟨rfl, rfl, rfl, rfl, trivial⟩; refine e_then ?_; refine c_cond (i47 < (a0.length : Int)) ha rfl (decide_eq_true_iff) (fun hp102 => ?_) (fun hp102 => ?_)
      · replace hF := if_t hp102 hF
        refine wp_skip ?_; refine e_then ?_; refine wp_seq ?_; refine wp_block ?_; refine wp_seq ?_; refine d_quiet hmix (by kernel_rfl) ?_; (iterate 2 refine q_g ha rfl (g_move rfl) ?_; clear ha a; intro a ha); obtain ⟨x103, g104, gx105, hF⟩ := idx_some hF
        obtain ⟨p106, cs107, f108, hf109, hpb110, hat111, hr112, hi113⟩ := ha0.at g104 gx105
        obtain ⟨v114, rfl, h115⟩ := hr112
        have h115 : Ro Rp.int W f108 v114 x103 := h115
        refine q_g ha rfl (hi113.gives sl22 rfl rfl) ?_; clear ha a; intro a ha; refine q_g ha rfl (g_load0 hE49 Try.isAgg25 rfl hat111.one) ?_; clear ha a; intro a ha; (iterate 2 refine q_g ha rfl (g_move rfl) ?_; clear ha a; intro a ha); obtain ⟨x117, g118, gx119, hF⟩ := idx_some hF
        obtain ⟨p120, cs121, f122, hf123, hpb124, hat125, hr126, hi127⟩ := ha1.at g118 gx119
        obtain ⟨v128, rfl, h129⟩ := hr126
        have h129 : Ro Rp.int W f122 v128 x117 := h129
        refine q_g ha rfl (hi127.gives sl22 rfl rfl) ?_; clear ha a; intro a ha; refine q_g ha rfl (g_load0 hE49 Try.isAgg25 rfl hat125.one) ?_; clear ha a; intro a ha; obtain ⟨x133, hc134, hF⟩ := cal_some hF; refine q_call (.bool x133) ha rfl rfl Try.call11 (fun w132 hx131 => W_laws_eqInt64S (h115.ext (Ext.trans hE49 hx131)) (h129.ext (Ext.trans hE49 hx131)) hc134) (fun _ _ _ h => ⟨h.1, h.2⟩) ?_; clear ha a; intro a ha; refine q_g ha rfl (g_not rfl) ?_; clear ha a; intro a ha
        refine q_nil ?_; intro w135 hx136
        have hE137 := Ext.trans hE49 hx136
        replace ha := ha.sub (σ' := [(0, va0), (1, va1), (5, (.int .i64 i47)), (26, (.bool (!x133)))]) ⟨rfl, rfl, rfl, rfl, trivial⟩; refine e_then ?_; refine c_cond (¬ (x133 = true)) ha rfl (n_iff (Iff.rfl)) (fun hp138 => ?_) (fun hp138 => ?_)
        · replace hF := if_t hp138 hF
          refine wp_seq ?_; refine wp_region_lit ?_; refine op_g ha rfl (g_assign rfl) ?_; clear ha a; intro a ha; refine wpList_nil ?_; replace ha := ha.sub (σ' := [(4, (.bool false))]) ⟨rfl, trivial⟩; refine e_then ?_; refine wp_ret ?_; refine e_blk_ret ?_; refine e_then_ret ?_; refine e_lq_ret ?_; refine e_then_ret ?_; obtain rfl := Option.some.inj hF
          have e139 := LK_inr hN99; subst e139
          have e140 := BK_inr hK95; subst e140
          exact f_ret1 ha rfl rfl ⟨rfl, hE137⟩
        replace hF := if_f hp138 hF; refine wp_skip ?_; refine e_blk ?_; refine e_then ?_; refine wp_region_lit ?_; refine op_g ha rfl (g_move rfl) ?_; clear ha a; intro a ha; obtain ⟨hI141, hF⟩ := ck_some hF; refine op_g ha rfl (g_add rfl rfl hI141) ?_; clear ha a; intro a ha; refine op_g ha rfl (g_assign rfl) ?_; clear ha a; intro a ha; refine wpList_nil ?_; replace ha := ha.sub (σ' := [(0, va0), (1, va1), (5, (.int .i64 (i47 + 1)))]) ⟨rfl, rfl, rfl, trivial⟩; refine e_lq ?_; obtain rfl := Option.some.inj hF
        exact ⟨_, Nat.lt_succ_self _, i47 + 1, ha.sub ⟨rfl, rfl, rfl, trivial⟩, hE137, hI141, hN99⟩
      replace hF := if_f hp102 hF; refine wp_exit ?_; refine e_then_exit ?_; refine e_lq_eq ?_; obtain rfl := Option.some.inj hF
      exact ⟨ha.sub trivial, hE49, (LK_inr hN99).symm⟩
  rintro a w92 ⟨ha, hE98, rfl⟩
  have hF : F_laws_eqInt64SS_k2 = some _ := hK95; clear hK95; unfold F_laws_eqInt64SS_k2 at hF
  refine e_then ?_; refine wp_seq ?_; refine wp_region_lit ?_; refine op_g ha rfl (g_assign rfl) ?_; clear ha a; intro a ha; refine wpList_nil ?_; refine e_then ?_; refine wp_ret ?_; obtain rfl := Option.some.inj hF
  exact f_ret1 ha rfl rfl ⟨rfl, hE98⟩
set_option maxHeartbeats 2000000 in
theorem W_laws_eqGraph {W : World} {va0_0 : Value} {fa0_0 : List Nat} {a0_0 : (List (List Int))} (ha0_0 : Ro (Rp.sl 2 Rp.int) W fa0_0 va0_0 a0_0) {va1_0 : Value} {fa1_0 : List Nat} {a1_0 : (List (List Int))} (ha1_0 : Ro (Rp.sl 2 Rp.int) W fa1_0 va1_0 a1_0) {r : Bool} (hF : F_laws_eqGraph a0_0 a1_0 = some r) :
    Calls Try.prog 10 [.agg #[va0_0], .agg #[va1_0]].toArray W (Ret fun u w' => u = .bool r ∧ Ext W w') := by
  refine f_enter Try.func10 rfl Try.ntmps10 rfl ?_
  intro a ha
  replace ha : Fr 11 [(0, (.agg #[va0_0])), (1, (.agg #[va1_0]))] a := ha
  have hE : Chg [] W W := Chg.refl _ _
  unfold F_laws_eqGraph at hF
  refine wp_seq ?_; refine wp_region_lit ?_
  refine o_box ha rfl rfl rfl ?_; clear ha a; intro b1 w2 hB3 hx4 hlo5 a ha
  have q6 := Zn.one hlo5
  have q7 := Zn.upD q6 hE
  have hE8 := Ext.trans hE hx4
  refine o_box ha rfl rfl rfl ?_; clear ha a; intro b9 w10 hB11 hx12 hlo13 a ha
  have q14 := Zn.one hlo13
  have q15 := Nq.new hB3.fpb q14
  have q16 := Nq.made1 hlo13 hB3.bi
  have q17 := Zn.upD q14 hE8
  replace hB3 := hB3.ext hx12
  have hE18 := Ext.trans hE8 hx12
  refine op_g ha rfl (g_assign rfl) ?_; clear ha a; intro a ha; refine wpList_nil ?_; replace ha := ha.sub (σ' := [(2, (.pointer (some ⟨b1, 0, none⟩))), (3, (.pointer (some ⟨b9, 0, none⟩)))]) ⟨rfl, rfl, trivial⟩; refine e_then ?_; refine wp_seq ?_; refine wp_seq ?_; refine wp_region_lit ?_; refine op_g ha rfl (g_field0 st28_0 rfl) ?_; clear ha a; intro a ha; refine op_g ha rfl (g_load Try.isAgg22 rfl (hB3.cell rfl)) ?_; clear ha a; intro a ha; refine op_g ha rfl (g_field0 st28_0 rfl) ?_; clear ha a; intro a ha; refine op_g ha rfl (g_load Try.isAgg22 rfl (hB11.cell rfl)) ?_; clear ha a; intro a ha
  obtain ⟨x19, hc20, hF⟩ := cal_some hF
  refine o_call ha rfl rfl Try.call25 (W_laws_eqInt64SS (ha0_0.ext hE18) (ha1_0.ext hE18) hc20) ?_; clear ha a; rintro v21 w22 ⟨rfl, hx23⟩ a ha
  replace hB3 := hB3.ext hx23
  replace hB11 := hB11.ext hx23
  have hE24 := Ext.trans hE18 hx23
  refine op_g ha rfl (g_not rfl) ?_; clear ha a; intro a ha; refine wpList_nil ?_; replace ha := ha.sub (σ' := [(10, (.bool (!x19)))]) ⟨rfl, trivial⟩; refine e_then ?_; refine c_cond (¬ (x19 = true)) ha rfl (n_iff (Iff.rfl)) (fun hp25 => ?_) (fun hp25 => ?_)
  · replace hF := if_t hp25 hF
    refine wp_seq ?_; refine wp_region_lit ?_; refine op_g ha rfl (g_assign rfl) ?_; clear ha a; intro a ha; refine wpList_nil ?_; replace ha := ha.sub (σ' := [(4, (.bool false))]) ⟨rfl, trivial⟩; refine e_then ?_; refine wp_ret ?_; refine e_then_ret ?_; obtain rfl := Option.some.inj hF
    exact f_ret1 ha rfl rfl ⟨rfl, hE24⟩
  replace hF := if_f hp25 hF; refine wp_skip ?_; refine e_then ?_; refine wp_seq ?_; refine wp_region_lit ?_; refine op_g ha rfl (g_assign rfl) ?_; clear ha a; intro a ha; refine wpList_nil ?_; replace ha := ha.sub (σ' := [(4, (.bool true))]) ⟨rfl, trivial⟩; refine e_then ?_; refine wp_ret ?_; obtain rfl := Option.some.inj hF
  exact f_ret1 ha rfl rfl ⟨rfl, hE24⟩
set_option maxHeartbeats 2000000 in
theorem W_laws_FnExactCrossingsOf {W : World} {va0_0 : Value} {fa0_0 : List Nat} {a0_0 : (List (List Int))} (ha0_0 : Ro (Rp.sl 2 Rp.int) W fa0_0 va0_0 a0_0) {va1 : Value} {fa1 : List Nat} {a1 : (List Int)} (ha1 : Ro Rp.int W fa1 va1 a1) {r : Bool} (hF : F_laws_FnExactCrossingsOf a0_0 a1 = some r) :
    Calls Try.prog 3 [.agg #[va0_0], va1].toArray W (Ret fun u w' => u = .bool r ∧ Ext W w') := by
  refine f_enter Try.func3 rfl Try.ntmps3 rfl ?_
  intro a ha
  replace ha : Fr 43 [(0, (.agg #[va0_0])), (1, va1)] a := ha
  have hE : Chg [] W W := Chg.refl _ _
  unfold F_laws_FnExactCrossingsOf at hF
  refine wp_seq ?_; refine wp_region_lit ?_
  refine o_box ha rfl rfl rfl ?_; clear ha a; intro b1 w2 hB3 hx4 hlo5 a ha
  have q6 := Zn.one hlo5
  have q7 := Zn.upD q6 hE
  have hE8 := Ext.trans hE hx4
  refine op_g ha rfl (g_assign rfl) ?_; clear ha a; intro a ha; refine wpList_nil ?_; replace ha := ha.sub (σ' := [(1, va1), (2, (.pointer (some ⟨b1, 0, none⟩)))]) ⟨rfl, rfl, trivial⟩; refine e_then ?_; refine wp_seq ?_; refine wp_seq ?_; refine wp_region_lit ?_; refine op_g ha rfl (g_move rfl) ?_; clear ha a; intro a ha; refine op_g ha rfl (g_lenR sl25.und ha1 rfl) ?_; clear ha a; intro a ha; refine op_g ha rfl (g_gtr rfl rfl) ?_; clear ha a; intro a ha; refine wpList_nil ?_; replace ha := ha.sub (σ' := [(1, va1), (2, (.pointer (some ⟨b1, 0, none⟩))), (12, (.bool (decide (1048576 < (a1.length : Int)))))]) ⟨rfl, rfl, rfl, trivial⟩
  refine e_then ?_; refine c_cond (1048576 < (a1.length : Int)) ha rfl (decide_eq_true_iff) (fun hp9 => ?_) (fun hp9 => ?_)
  · replace hF := if_t hp9 hF
    refine wp_seq ?_; refine wp_region_lit ?_; refine op_g ha rfl (g_assign rfl) ?_; clear ha a; intro a ha; refine wpList_nil ?_; replace ha := ha.sub (σ' := [(4, (.bool true))]) ⟨rfl, trivial⟩; refine e_then ?_; refine wp_ret ?_; refine e_then_ret ?_; obtain rfl := Option.some.inj hF
    exact f_ret1 ha rfl rfl ⟨rfl, hE8⟩
  replace hF := if_f hp9 hF; refine wp_skip ?_; refine e_then ?_; refine wp_seq ?_; refine wp_region_lit ?_; refine op_g ha rfl (g_assign rfl) ?_; clear ha a; intro a ha; refine wpList_nil ?_; replace ha := ha.sub (σ' := [(1, va1), (2, (.pointer (some ⟨b1, 0, none⟩))), (5, (.int .i64 1048576))]) ⟨rfl, rfl, rfl, trivial⟩; refine e_then ?_; refine wp_seq ?_; refine wp_region_lit ?_; refine op_g ha rfl (g_loadA (cs := [va0_0]) Try.isAgg24 Try.sizeOf24 rfl (by simp) hB3.all) ?_; clear ha a; intro a ha; refine op_g ha rfl (g_move rfl) ?_; clear ha a; intro a ha; obtain ⟨x10, hc11, hF⟩ := cal_some hF
  refine o_call ha rfl rfl Try.call5 (W_laws_szGraph (ha0_0.ext hE8) (show InI 1048576 from by decide) hc11) ?_; clear ha a; rintro v12 w13 ⟨⟨rfl, hI15⟩, hx14⟩ a ha
  replace hB3 := hB3.ext hx14
  have hE16 := Ext.trans hE8 hx14
  refine op_g ha rfl (g_assign rfl) ?_; clear ha a; intro a ha; refine wpList_nil ?_; replace ha := ha.sub (σ' := [(1, va1), (2, (.pointer (some ⟨b1, 0, none⟩))), (5, (.int .i64 x10))]) ⟨rfl, rfl, rfl, trivial⟩; refine e_then ?_; refine wp_seq ?_; refine wp_seq ?_; refine wp_region_lit ?_; refine op_g ha rfl (g_move rfl) ?_; clear ha a; intro a ha; refine op_g ha rfl (g_lss rfl rfl) ?_; clear ha a; intro a ha; refine wpList_nil ?_; replace ha := ha.sub (σ' := [(1, va1), (2, (.pointer (some ⟨b1, 0, none⟩))), (17, (.bool (decide (x10 < 0))))]) ⟨rfl, rfl, rfl, trivial⟩; refine e_then ?_; refine c_cond (x10 < 0) ha rfl (decide_eq_true_iff) (fun hp17 => ?_) (fun hp17 => ?_)
  · replace hF := if_t hp17 hF
    refine wp_seq ?_; refine wp_region_lit ?_; refine op_g ha rfl (g_assign rfl) ?_; clear ha a; intro a ha; refine wpList_nil ?_; replace ha := ha.sub (σ' := [(4, (.bool true))]) ⟨rfl, trivial⟩; refine e_then ?_; refine wp_ret ?_; refine e_then_ret ?_; obtain rfl := Option.some.inj hF
    exact f_ret1 ha rfl rfl ⟨rfl, hE16⟩
  replace hF := if_f hp17 hF; refine wp_skip ?_; refine e_then ?_; refine wp_seq ?_; refine wp_region_lit ?_; refine op_g ha rfl (g_loadA (cs := [va0_0]) Try.isAgg24 Try.sizeOf24 rfl (by simp) hB3.all) ?_; clear ha a; intro a ha; obtain ⟨x18, hc19, hF⟩ := cal_some hF
  refine o_call ha rfl rfl Try.call7 (W_laws_toGraph (ha0_0.ext hE16) hc19) ?_; clear ha a; rintro v20 w21 ⟨u23, b24, fs28, rfl, h25, z26, zf29, nd30, hx22⟩ a ha
  have q31 := Nq.new hB3.fpb z26
  have q32 := Nq.madeF z26 zf29 hB3.bi
  have q33 := Nf.new hB3.fpb zf29
  replace hB3 := hB3.ext hx22
  have hE34 := Ext.trans hE16 hx22
  have q35 := Zn.upD z26 hE16
  have q36 := zf_up zf29 hE16
  refine op_g ha rfl (g_move rfl) ?_; clear ha a; intro a ha; obtain ⟨x37, hc38, hF⟩ := cal_some hF
  refine o_call ha rfl rfl Try.call8 (W_laws_toInt64S (ha1.ext hE34) hc38) ?_; clear ha a; rintro v39 w40 ⟨b42, h43, z44, hx41⟩ a ha
  have q46 := Nq.new hB3.fpb z44
  have q47 := Nq.madeO z44 hB3.bi
  have q48 := Nq.new h25.fpb z44
  have q49 := Nq.madeO z44 h25.blt
  have q50 := Nf.old z44 (zf_nil _) h25.bnd
  replace hB3 := hB3.ext hx41
  replace h25 := h25.ext hx41
  have hE51 := Ext.trans hE34 hx41
  have q52 := Zn.upD z44 hE34
  obtain ⟨fp53, hro54, hs55⟩ := h25.roF
  obtain ⟨fp56, hro57, hs58⟩ := h43.roF
  obtain ⟨x59, hc60, hF⟩ := cal_some hF
  refine o_call ha rfl rfl Try.call6 (W_spec_CrossingsOf hro54 hro57 hc60) ?_; clear ha a; rintro v61 w62 ⟨⟨rfl, hI64⟩, hx63⟩ a ha
  replace hB3 := hB3.ext hx63
  replace h25 := h25.ext hx63
  replace h43 := h43.ext hx63
  have hE65 := Ext.trans hE51 hx63
  refine op_g ha rfl (g_assign rfl) ?_; clear ha a; intro a ha; refine wpList_nil ?_; replace ha := ha.sub (σ' := [(1, va1), (2, (.pointer (some ⟨b1, 0, none⟩))), (6, (.int .i64 x59))]) ⟨rfl, rfl, rfl, trivial⟩; refine e_then ?_; refine wp_seq ?_; refine wp_region_lit ?_; refine op_g ha rfl (g_loadA (cs := [va0_0]) Try.isAgg24 Try.sizeOf24 rfl (by simp) hB3.all) ?_; clear ha a; intro a ha; obtain ⟨x66, hc67, hF⟩ := cal_some hF
  refine o_call ha rfl rfl Try.call7 (W_laws_toGraph (ha0_0.ext hE65) hc67) ?_; clear ha a; rintro v68 w69 ⟨u71, b72, fs76, rfl, h73, z74, zf77, nd78, hx70⟩ a ha
  have q79 := Nq.new hB3.fpb z74
  have q80 := Nq.madeF z74 zf77 hB3.bi
  have q81 := Nf.new hB3.fpb zf77
  replace hB3 := hB3.ext hx70
  have hE82 := Ext.trans hE65 hx70
  have q83 := Zn.upD z74 hE65
  have q84 := zf_up zf77 hE65
  refine o_alloc (cs := [(.slice none 0 0)]) ha rfl Try.zeroValue28 rfl ?_; clear ha a; intro b85 w86 hB87 hx88 hlo89 a ha
  have q90 := Zn.one hlo89
  have q91 := Nq.new hB3.fpb q90
  have q92 := Nq.made1 hlo89 hB3.bi
  have q93 := Nq.new h73.fpb q90
  have q94 := Nq.made1 hlo89 h73.blt
  have q95 := Zn.upD q90 hE82
  replace hB3 := hB3.ext hx88
  replace h73 := h73.ext hx88
  have hE96 := Ext.trans hE82 hx88
  refine o_storeA (vs := [u71]) ha hB87 Try.sizeOf28 rfl rfl (by intro c hc; simp only [List.mem_cons, List.not_mem_nil, or_false] at hc; rcases hc with hc <;> subst hc <;> first | rfl | exact h73.oneC) rfl ?_; intro w97 hB98 hc99
  replace hc99 := hc99.bl
  replace hB98 : Bx w97 b85 [u71] 28 := hB98
  replace hB3 := hB3.nq hc99 q91
  replace h73 := h73.nq hc99 q93
  have hE100 := Ext.then hE96 hc99 (Zn.bl q95)
  refine wpList_nil ?_; replace ha := ha.sub (σ' := [(1, va1), (2, (.pointer (some ⟨b1, 0, none⟩))), (6, (.int .i64 x59)), (7, (.pointer (some ⟨b85, 0, none⟩)))]) ⟨rfl, rfl, rfl, rfl, trivial⟩; refine e_then ?_; refine wp_seq ?_; refine wp_region_lit ?_; refine op_g ha rfl (g_move rfl) ?_; clear ha a; intro a ha; obtain ⟨x101, hc102, hF⟩ := cal_some hF
  refine o_call ha rfl rfl Try.call8 (W_laws_toInt64S (ha1.ext hE100) hc102) ?_; clear ha a; rintro v103 w104 ⟨b106, h107, z108, hx105⟩ a ha
  have q110 := Nq.new hB3.fpb z108
  have q111 := Nq.madeO z108 hB3.bi
  have q112 := Nq.new h73.fpb z108
  have q113 := Nq.madeO z108 h73.blt
  have q114 := Nq.new hB98.fpb z108
  have q115 := Nq.madeO z108 hB98.bi
  have q116 := Nf.old z108 (zf_nil _) h73.bnd
  replace hB3 := hB3.ext hx105
  replace h73 := h73.ext hx105
  replace hB98 := hB98.ext hx105
  have hE117 := Ext.trans hE100 hx105
  have q118 := Zn.upD z108 hE100
  refine op_g ha rfl (g_assign rfl) ?_; clear ha a; intro a ha; refine wpList_nil ?_; replace ha := ha.sub (σ' := [(1, va1), (2, (.pointer (some ⟨b1, 0, none⟩))), (6, (.int .i64 x59)), (7, (.pointer (some ⟨b85, 0, none⟩))), (8, v103)]) ⟨rfl, rfl, rfl, rfl, rfl, trivial⟩; refine e_then ?_; refine wp_seq ?_; refine wp_region_lit ?_; refine op_g ha rfl (g_loadA (cs := [u71]) Try.isAgg28 Try.sizeOf28 rfl (by simp) hB98.all) ?_; clear ha a; intro a ha; refine op_g ha rfl (g_move rfl) ?_; clear ha a; intro a ha
  obtain ⟨fp119, hro120, hs121⟩ := h73.roF
  obtain ⟨fp122, hro123, hs124⟩ := h107.roF
  obtain ⟨x125, hc126, hF⟩ := cal_some hF
  refine o_call ha rfl rfl Try.call9 (W_impl_CrossingsOf hro120 hro123 hc126) ?_; clear ha a; rintro v127 w128 ⟨⟨rfl, hI130⟩, hx129⟩ a ha
  replace hB3 := hB3.ext hx129
  replace h73 := h73.ext hx129
  replace hB98 := hB98.ext hx129
  replace h107 := h107.ext hx129
  have hE131 := Ext.trans hE117 hx129
  refine op_g ha rfl (g_assign rfl) ?_; clear ha a; intro a ha; refine wpList_nil ?_; replace ha := ha.sub (σ' := [(1, va1), (2, (.pointer (some ⟨b1, 0, none⟩))), (6, (.int .i64 x59)), (7, (.pointer (some ⟨b85, 0, none⟩))), (8, v103), (9, (.int .i64 x125))]) ⟨rfl, rfl, rfl, rfl, rfl, rfl, trivial⟩; refine e_then ?_; refine wp_seq ?_; refine wp_seq ?_; refine wp_region_lit ?_; (iterate 2 refine op_g ha rfl (g_move rfl) ?_; clear ha a; intro a ha); refine op_g ha rfl (g_neq rfl rfl) ?_; clear ha a; intro a ha; refine wpList_nil ?_; replace ha := ha.sub (σ' := [(1, va1), (2, (.pointer (some ⟨b1, 0, none⟩))), (7, (.pointer (some ⟨b85, 0, none⟩))), (8, v103), (32, (.bool (decide (x125 ≠ x59))))]) ⟨rfl, rfl, rfl, rfl, rfl, trivial⟩
  refine e_then ?_; refine c_cond (x125 ≠ x59) ha rfl (decide_eq_true_iff) (fun hp132 => ?_) (fun hp132 => ?_)
  · replace hF := if_t hp132 hF
    refine wp_seq ?_; refine wp_region_lit ?_; refine op_g ha rfl (g_assign rfl) ?_; clear ha a; intro a ha; refine wpList_nil ?_; replace ha := ha.sub (σ' := [(4, (.bool false))]) ⟨rfl, trivial⟩; refine e_then ?_; refine wp_ret ?_; refine e_then_ret ?_; obtain rfl := Option.some.inj hF
    exact f_ret1 ha rfl rfl ⟨rfl, hE131⟩
  replace hF := if_f hp132 hF; refine wp_skip ?_; refine e_then ?_; refine wp_seq ?_; refine wp_seq ?_; refine d_region [0, 1, 2, 3, 4] hmix ?_; refine u_g 0 rfl (by kernel_rfl) (want0 _) ha rfl (g_loadA (cs := [u71]) Try.isAgg28 Try.sizeOf28 rfl (by simp) hB98.all) ?_; clear ha a; intro a ha; refine u_g 1 rfl (by kernel_rfl) (want0 _) ha rfl (g_loadA (cs := [va0_0]) Try.isAgg24 Try.sizeOf24 rfl (by simp) hB3.all) ?_; clear ha a; intro a ha
  refine u_only 2 rfl (by kernel_rfl) ?_; intro w133 hx134
  replace hB3 := hB3.ext hx134
  replace h73 := h73.ext hx134
  replace hB98 := hB98.ext hx134
  replace h107 := h107.ext hx134
  have hE135 := Ext.trans hE131 hx134
  obtain ⟨x136, hc137, hF⟩ := cal_some hF
  refine o_call ha rfl rfl Try.call7 (W_laws_toGraph (ha0_0.ext hE135) hc137) ?_; clear ha a; rintro v138 w139 ⟨u141, b142, fs146, rfl, h143, z144, zf147, nd148, hx140⟩ a ha
  have q149 := Nq.new hB3.fpb z144
  have q150 := Nq.madeF z144 zf147 hB3.bi
  have q151 := Nq.new h73.fpb z144
  have q152 := Nq.madeF z144 zf147 h73.blt
  have q153 := Nq.new hB98.fpb z144
  have q154 := Nq.madeF z144 zf147 hB98.bi
  have q155 := Nq.new h107.fpb z144
  have q156 := Nq.madeF z144 zf147 h107.blt
  have q157 := Nf.new hB3.fpb zf147
  have q158 := Nf.new h73.fpb zf147
  have q159 := Nf.old z144 zf147 h73.bnd
  have q160 := Nf.new hB98.fpb zf147
  have q161 := Nf.new h107.fpb zf147
  replace hB3 := hB3.ext hx140
  replace h73 := h73.ext hx140
  replace hB98 := hB98.ext hx140
  replace h107 := h107.ext hx140
  have hE162 := Ext.trans hE135 hx140
  have q163 := Zn.upD z144 hE135
  have q164 := zf_up zf147 hE135
  refine wpList_nil (e_sq ?_)
  refine ⟨fun _ => hx140, ?_⟩
  obtain ⟨fp167, hro168, hs169⟩ := h73.roF
  obtain ⟨fp170, hro171, hs172⟩ := h143.roF
  obtain ⟨x173, hc174, hF⟩ := cal_some hF; refine u_call (.bool x173) 3 rfl (by kernel_rfl) (want0 _) ha rfl rfl Try.call10 (fun w166 hx165 => W_laws_eqGraph (hro168.ext hx165) (hro171.ext hx165) hc174) (fun _ _ _ h => ⟨h.1, h.2⟩) ?_; clear ha a; intro a ha; refine u_g 4 rfl (by kernel_rfl) (want0 _) ha rfl (g_not rfl) ?_; clear ha a; intro a ha
  refine u_done (by kernel_rfl) ?_; intro w175 hx176
  replace hB3 := hB3.ext hx176
  replace h73 := h73.ext hx176
  replace hB98 := hB98.ext hx176
  replace h107 := h107.ext hx176
  replace h143 := h143.ext hx176
  have hE177 := Ext.trans hE162 hx176
  replace ha := ha.sub (σ' := [(1, va1), (8, v103), (37, (.bool (!x173)))]) ⟨rfl, rfl, rfl, trivial⟩; refine e_then ?_; refine c_cond (¬ (x173 = true)) ha rfl (n_iff (Iff.rfl)) (fun hp178 => ?_) (fun hp178 => ?_)
  · replace hF := if_t hp178 hF
    refine wp_seq ?_; refine wp_region_lit ?_; refine op_g ha rfl (g_assign rfl) ?_; clear ha a; intro a ha; refine wpList_nil ?_; replace ha := ha.sub (σ' := [(4, (.bool false))]) ⟨rfl, trivial⟩; refine e_then ?_; refine wp_ret ?_; refine e_then_ret ?_; obtain rfl := Option.some.inj hF
    exact f_ret1 ha rfl rfl ⟨rfl, hE177⟩
  replace hF := if_f hp178 hF; refine wp_skip ?_; refine e_then ?_; refine wp_seq ?_; refine wp_seq ?_; refine wp_region_lit ?_; (iterate 2 refine op_g ha rfl (g_move rfl) ?_; clear ha a; intro a ha); obtain ⟨x179, hc180, hF⟩ := cal_some hF
  refine o_call ha rfl rfl Try.call8 (W_laws_toInt64S (ha1.ext hE177) hc180) ?_; clear ha a; rintro v181 w182 ⟨b184, h185, z186, hx183⟩ a ha
  have q188 := Nq.new h107.fpb z186
  have q189 := Nq.madeO z186 h107.blt
  replace h107 := h107.ext hx183
  have hE190 := Ext.trans hE177 hx183
  have q191 := Zn.upD z186 hE177
  obtain ⟨fp192, hro193, hs194⟩ := h107.roF
  obtain ⟨fp195, hro196, hs197⟩ := h185.roF
  obtain ⟨x198, hc199, hF⟩ := cal_some hF
  refine o_call ha rfl rfl Try.call11 (W_laws_eqInt64S hro193 hro196 hc199) ?_; clear ha a; rintro v200 w201 ⟨rfl, hx202⟩ a ha
  replace h107 := h107.ext hx202
  replace h185 := h185.ext hx202
  have hE203 := Ext.trans hE190 hx202
  refine op_g ha rfl (g_not rfl) ?_; clear ha a; intro a ha; refine wpList_nil ?_; replace ha := ha.sub (σ' := [(42, (.bool (!x198)))]) ⟨rfl, trivial⟩; refine e_then ?_; refine c_cond (¬ (x198 = true)) ha rfl (n_iff (Iff.rfl)) (fun hp204 => ?_) (fun hp204 => ?_)
  · replace hF := if_t hp204 hF
    refine wp_seq ?_; refine wp_region_lit ?_; refine op_g ha rfl (g_assign rfl) ?_; clear ha a; intro a ha; refine wpList_nil ?_; replace ha := ha.sub (σ' := [(4, (.bool false))]) ⟨rfl, trivial⟩; refine e_then ?_; refine wp_ret ?_; refine e_then_ret ?_; obtain rfl := Option.some.inj hF
    exact f_ret1 ha rfl rfl ⟨rfl, hE203⟩
  replace hF := if_f hp204 hF; refine wp_skip ?_; refine e_then ?_; refine wp_seq ?_; refine wp_region_lit ?_; refine op_g ha rfl (g_assign rfl) ?_; clear ha a; intro a ha; refine wpList_nil ?_; replace ha := ha.sub (σ' := [(4, (.bool true))]) ⟨rfl, trivial⟩; refine e_then ?_; refine wp_ret ?_; obtain rfl := Option.some.inj hF
  exact f_ret1 ha rfl rfl ⟨rfl, hE203⟩
end Go.Proofs.Ytkhaolpofeehoaa
