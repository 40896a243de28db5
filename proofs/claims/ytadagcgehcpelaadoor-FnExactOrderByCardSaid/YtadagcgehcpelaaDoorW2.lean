/- Walks, printed by gen.py. -/
import Derived.Test.YtadagcgehcpelaaDoorF
import Derived.Test.YtadagcgehcpelaaDoorW1
import Derived.Test.YtadagcgehcpelaaDoorProg
import Derived.KernelRfl
set_option maxRecDepth 100000
namespace Go.Proofs.YtadagcgehcpelaaDoor
open Go Go.RowKit

set_option maxHeartbeats 2000000 in
theorem W_spec_DecompOk {W : World} {va0_0 : Value} {fa0_0 : List Nat} {a0_0 : (List (List Int))} (ha0_0 : Ro (Rp.sl 2 Rp.int) W fa0_0 va0_0 a0_0) {va1_0 : Value} {fa1_0 : List Nat} {a1_0 : (List (List Int))} (ha1_0 : Ro (Rp.sl 2 Rp.int) W fa1_0 va1_0 a1_0) {va1_1 : Value} {fa1_1 : List Nat} {a1_1 : (List (List Int))} (ha1_1 : Ro (Rp.sl 2 Rp.int) W fa1_1 va1_1 a1_1) {r : Bool} (hF : F_spec_DecompOk a0_0 a1_0 a1_1 = some r) :
    Calls Tryd.prog 18 [.agg #[va0_0], .agg #[va1_0, va1_1]].toArray W (Ret fun u w' => u = .bool r ∧ Ext W w') := by
  refine f_enter Tryd.func18 rfl Tryd.ntmps18 rfl ?_
  intro a ha
  replace ha : Fr 69 [(0, (.agg #[va0_0])), (1, (.agg #[va1_0, va1_1]))] a := ha
  have hE : Chg [] W W := Chg.refl _ _
  unfold F_spec_DecompOk at hF
  refine wp_seq ?_; refine wp_region_lit ?_
  refine o_box ha rfl rfl rfl ?_; clear ha a; intro b1 w2 hB3 hx4 hlo5 a ha
  have q6 := Zn.one hlo5
  have q7 := Zn.upD q6 hE
  have hE8 := Ext.trans hE hx4
  refine o_box ha rfl rfl rfl ?_; clear ha a; intro b9 w10 hB11 hx12 hlo13 a ha
  have q14 := Zn.one hlo13
  have q15 := Nq.new hB3.fpb q14
  have q16 := Nq.made1 hlo13 hB3.bi
  have q17 := Zn.upD q14 hE8
  replace hB3 := hB3.ext hx12
  have hE18 := Ext.trans hE8 hx12
  refine op_g ha rfl (g_assign rfl) ?_; clear ha a; intro a ha; refine wpList_nil ?_; replace ha := ha.sub (σ' := [(2, (.pointer (some ⟨b1, 0, none⟩))), (3, (.pointer (some ⟨b9, 0, none⟩)))]) ⟨rfl, rfl, trivial⟩; refine e_then ?_; refine wp_seq ?_; refine wp_seq ?_; refine wp_region_lit ?_; refine op_g ha rfl (g_loadA (cs := [va0_0]) Tryd.isAgg31 Tryd.sizeOf31 rfl (by simp) hB3.all) ?_; clear ha a; intro a ha; obtain ⟨x33, hc34, hF⟩ := cal_some hF
  refine o_call ha rfl rfl Tryd.call39 (W_spec_GraphOk (ha0_0.ext hE18) hc34) ?_; clear ha a; rintro v35 w36 ⟨rfl, hx37⟩ a ha
  replace hB3 := hB3.ext hx37
  replace hB11 := hB11.ext hx37
  have hE38 := Ext.trans hE18 hx37
  refine op_g ha rfl (g_not rfl) ?_; clear ha a; intro a ha; refine op_g ha rfl (g_move rfl) ?_; clear ha a; intro a ha
  by_cases hp39 : ¬ (x33 = true)
  · replace hF := if_t hp39 hF
    rw [show (!x33) = true from (n_iff (Iff.rfl)).2 hp39] at ha
    (iterate 3 refine op_unwant ha rfl (yields ha rfl rfl) rfl ?_; clear ha a; intro a ha); refine op_g ha rfl (g_pick rfl rfl) ?_; clear ha a; intro a ha; refine wpList_nil ?_; replace ha := ha.sub (σ' := [(2, (.pointer (some ⟨b1, 0, none⟩))), (3, (.pointer (some ⟨b9, 0, none⟩))), (17, (.bool true))]) ⟨rfl, rfl, rfl, trivial⟩; refine e_then ?_; refine c_true ha rfl ?_; refine wp_seq ?_; refine wp_region_lit ?_; refine op_g ha rfl (g_assign rfl) ?_; clear ha a; intro a ha; refine wpList_nil ?_; replace ha := ha.sub (σ' := [(4, (.bool false))]) ⟨rfl, trivial⟩; refine e_then ?_; refine wp_ret ?_
    refine e_then_ret ?_; obtain rfl := Option.some.inj hF
    exact f_ret1 ha rfl rfl ⟨rfl, hE38⟩
  replace hF := if_f hp39 hF
  rw [show (!x33) = false from b_false (n_iff (Iff.rfl)) hp39] at ha
  refine op_want (yields ha rfl rfl) ?_; refine op_g ha rfl (g_loadA (cs := [va1_0, va1_1]) Tryd.isAgg33 Tryd.sizeOf33 rfl (by simp) hB11.all) ?_; clear ha a; intro a ha; refine op_want (yields ha rfl rfl) ?_; obtain ⟨x40, hc41, hF⟩ := cal_some hF
  refine o_call ha rfl rfl Tryd.call40 (W_spec_l9Tree (ha1_0.ext hE38) (ha1_1.ext hE38) hc41) ?_; clear ha a; rintro v42 w43 ⟨rfl, hx44⟩ a ha
  replace hB3 := hB3.ext hx44
  replace hB11 := hB11.ext hx44
  have hE45 := Ext.trans hE38 hx44
  refine op_want (yields ha rfl rfl) ?_; refine op_g ha rfl (g_not rfl) ?_; clear ha a; intro a ha; refine op_g ha rfl (g_pick rfl rfl) ?_; clear ha a; intro a ha; refine wpList_nil ?_; replace ha := ha.sub (σ' := [(2, (.pointer (some ⟨b1, 0, none⟩))), (3, (.pointer (some ⟨b9, 0, none⟩))), (17, (.bool (!x40)))]) ⟨rfl, rfl, rfl, trivial⟩; refine e_then ?_; refine c_cond (¬ (x40 = true)) ha rfl (n_iff (Iff.rfl)) (fun hp46 => ?_) (fun hp46 => ?_)
  · replace hF := if_t hp46 hF
    refine wp_seq ?_; refine wp_region_lit ?_; refine op_g ha rfl (g_assign rfl) ?_; clear ha a; intro a ha; refine wpList_nil ?_; replace ha := ha.sub (σ' := [(4, (.bool false))]) ⟨rfl, trivial⟩; refine e_then ?_; refine wp_ret ?_; refine e_then_ret ?_; obtain rfl := Option.some.inj hF
    exact f_ret1 ha rfl rfl ⟨rfl, hE45⟩
  replace hF := if_f hp46 hF; refine wp_skip ?_; refine e_then ?_; refine wp_seq ?_; refine wp_seq ?_; refine wp_region_lit ?_; refine op_g ha rfl (g_assign rfl) ?_; clear ha a; intro a ha; refine wpList_nil ?_; replace ha := ha.sub (σ' := [(2, (.pointer (some ⟨b1, 0, none⟩))), (3, (.pointer (some ⟨b9, 0, none⟩))), (5, (.int .i64 0))]) ⟨rfl, rfl, rfl, trivial⟩; refine e_then ?_; obtain ⟨o150, ho151, hK152⟩ := bnd_some hF
  obtain ⟨n153, hn154⟩ := lp_some ho151; clear ho151
  refine c_loop (fun a w => Fr 69 [(2, (.pointer (some ⟨b1, 0, none⟩))), (3, (.pointer (some ⟨b9, 0, none⟩)))] a ∧ Chg [] W w ∧ Bx w b1 [va0_0] 31 ∧ Zn W (b1 : Int) ∧ Bx w b9 [va1_0, va1_1] 33 ∧ Zn W (b9 : Int) ∧ Nq ([b1]) (b9 : Int) ∧ Nq ([b9]) (b1 : Int) ∧ o150 = .inl ()) (fun n a w => ∃ (i99 : Int), Fr 69 [(2, (.pointer (some ⟨b1, 0, none⟩))), (3, (.pointer (some ⟨b9, 0, none⟩))), (5, (.int .i64 i99))] a ∧ Chg [] W w ∧ InI i99 ∧ Bx w b1 [va0_0] 31 ∧ Zn W (b1 : Int) ∧ Bx w b9 [va1_0, va1_1] 33 ∧ Zn W (b9 : Int) ∧ Nq ([b1]) (b9 : Int) ∧ Nq ([b9]) (b1 : Int) ∧ lpN (fun s => F_spec_DecompOk_l1 a0_0 a1_0 s) n i99 = some o150) n153 ⟨0, ha.sub ⟨rfl, rfl, rfl, trivial⟩, hE45, (show InI 0 from by decide), hB3, q7, hB11, q17, q15, q16, hn154⟩ ?_ ?_
  · rintro m158 a w94 ⟨i99, ha, hE103, hI100, hB95, z96, hB97, z98, q101, q102, hF⟩
    cases m158 with
    | zero => exact (lpN_zero hF).elim
    | succ m158 =>
      obtain ⟨z157, hF, hN156⟩ := lpN_succ hF
      have hF : F_spec_DecompOk_l1 a0_0 a1_0 i99 = some z157 := hF; unfold F_spec_DecompOk_l1 at hF
      refine wp_seq ?_; refine wp_seq ?_; refine wp_region_lit ?_; refine op_g ha rfl (g_move rfl) ?_; clear ha a; intro a ha; refine op_g ha rfl (g_field0 st33_0 rfl) ?_; clear ha a; intro a ha; refine op_g ha rfl (g_load Tryd.isAgg22 rfl (hB97.cell rfl)) ?_; clear ha a; intro a ha; refine op_g ha rfl (g_lenR sl22.und ha1_0 rfl) ?_; clear ha a; intro a ha; refine op_g ha rfl (g_lss rfl rfl) ?_; clear ha a; intro a ha; refine wpList_nil ?_; replace ha := ha.sub (σ' := [(2, (.pointer (some ⟨b1, 0, none⟩))), (3, (.pointer (some ⟨b9, 0, none⟩))), (5, (.int .i64 i99)), (22, (.bool (decide (i99 < (a1_0.length : Int)))))]) ⟨rfl, rfl, rfl, rfl, trivial⟩
      refine e_then ?_; refine c_cond (i99 < (a1_0.length : Int)) ha rfl (decide_eq_true_iff) (fun hp159 => ?_) (fun hp159 => ?_)
      · replace hF := if_t hp159 hF
        refine wp_skip ?_; refine e_then ?_; refine wp_seq ?_; refine wp_block ?_; refine wp_seq ?_; refine d_quiet hmix (by kernel_rfl) ?_; refine q_g ha rfl (g_field0 st33_0 rfl) ?_; clear ha a; intro a ha; refine q_g ha rfl (g_load Tryd.isAgg22 rfl (hB97.cell rfl)) ?_; clear ha a; intro a ha; refine q_g ha rfl (g_move rfl) ?_; clear ha a; intro a ha; obtain ⟨x160, g161, gx162, hF⟩ := idx_some hF
        obtain ⟨p163, cs164, f165, hf166, hpb167, hat168, hr169, hi170⟩ := ha1_0.at g161 gx162
        obtain ⟨v171, rfl, h172⟩ := hr169
        have h172 : Ro Rp.int W f165 v171 x160 := h172
        refine q_g ha rfl (hi170.gives sl22 rfl rfl) ?_; clear ha a; intro a ha; refine q_g ha rfl (g_load0 hE103 Tryd.isAgg29 rfl hat168.one) ?_; clear ha a; intro a ha; refine q_g ha rfl (g_loadA (cs := [va0_0]) Tryd.isAgg31 Tryd.sizeOf31 rfl (by simp) hB95.all) ?_; clear ha a; intro a ha; obtain ⟨x176, hc177, hF⟩ := cal_some hF; refine q_call (.int .i64 x176) ha rfl rfl Tryd.call20 (fun w175 hx174 => W_spec_l1Size (ha0_0.ext (Ext.trans hE103 hx174)) hc177) (fun _ _ _ h => ⟨h.1.1, h.2⟩) ?_; clear ha a; intro a ha
        have hI178 : InI x176 := calls_fact (w := w94) (W_spec_l1Size (ha0_0.ext (Ext.trans hE103 (Chg.refl _ _))) hc177) (fun _ _ h => h.1.2)
        obtain ⟨x181, hc182, hF⟩ := cal_some hF; refine q_call (.bool x181) ha rfl rfl Tryd.call41 (fun w180 hx179 => W_spec_l1Set (h172.ext (Ext.trans hE103 hx179)) hI178 hc182) (fun _ _ _ h => ⟨h.1, h.2⟩) ?_; clear ha a; intro a ha; refine q_g ha rfl (g_not rfl) ?_; clear ha a; intro a ha
        refine q_nil ?_; intro w183 hx184
        replace hB95 := hB95.ext hx184
        replace hB97 := hB97.ext hx184
        have hE185 := Ext.trans hE103 hx184
        replace ha := ha.sub (σ' := [(2, (.pointer (some ⟨b1, 0, none⟩))), (3, (.pointer (some ⟨b9, 0, none⟩))), (5, (.int .i64 i99)), (33, (.bool (!x181)))]) ⟨rfl, rfl, rfl, rfl, trivial⟩; refine e_then ?_; refine c_cond (¬ (x181 = true)) ha rfl (n_iff (Iff.rfl)) (fun hp186 => ?_) (fun hp186 => ?_)
        · replace hF := if_t hp186 hF
          refine wp_seq ?_; refine wp_region_lit ?_; refine op_g ha rfl (g_assign rfl) ?_; clear ha a; intro a ha; refine wpList_nil ?_; replace ha := ha.sub (σ' := [(4, (.bool false))]) ⟨rfl, trivial⟩; refine e_then ?_; refine wp_ret ?_; refine e_blk_ret ?_; refine e_then_ret ?_; refine e_lq_ret ?_; refine e_then_ret ?_; obtain rfl := Option.some.inj hF
          have e187 := LK_inr hN156; subst e187
          have e188 := BK_inr hK152; subst e188
          exact f_ret1 ha rfl rfl ⟨rfl, hE185⟩
        replace hF := if_f hp186 hF; refine wp_skip ?_; refine e_blk ?_; refine e_then ?_; refine wp_region_lit ?_; refine op_g ha rfl (g_move rfl) ?_; clear ha a; intro a ha; obtain ⟨hI189, hF⟩ := ck_some hF; refine op_g ha rfl (g_add rfl rfl hI189) ?_; clear ha a; intro a ha; refine op_g ha rfl (g_assign rfl) ?_; clear ha a; intro a ha; refine wpList_nil ?_; replace ha := ha.sub (σ' := [(2, (.pointer (some ⟨b1, 0, none⟩))), (3, (.pointer (some ⟨b9, 0, none⟩))), (5, (.int .i64 (i99 + 1)))]) ⟨rfl, rfl, rfl, trivial⟩; refine e_lq ?_; obtain rfl := Option.some.inj hF
        exact ⟨_, Nat.lt_succ_self _, i99 + 1, ha.sub ⟨rfl, rfl, rfl, trivial⟩, hE185, hI189, hB95, z96, hB97, z98, q101, q102, hN156⟩
      replace hF := if_f hp159 hF; refine wp_exit ?_; refine e_then_exit ?_; refine e_lq_eq ?_; obtain rfl := Option.some.inj hF
      exact ⟨ha.sub ⟨rfl, rfl, trivial⟩, hE103, hB95, z96, hB97, z98, q101, q102, (LK_inr hN156).symm⟩
  rintro a w143 ⟨ha, hE155, hB144, z145, hB146, z147, q148, q149, rfl⟩
  have hF : F_spec_DecompOk_k2 a0_0 a1_0 a1_1 = some _ := hK152; clear hK152; unfold F_spec_DecompOk_k2 at hF
  refine e_then ?_; refine wp_seq ?_; refine wp_region_lit ?_; refine op_g ha rfl (g_loadA (cs := [va0_0]) Tryd.isAgg31 Tryd.sizeOf31 rfl (by simp) hB144.all) ?_; clear ha a; intro a ha; obtain ⟨x191, hc192, hF⟩ := cal_some hF
  refine o_call ha rfl rfl Tryd.call42 (W_spec_l1Edges (ha0_0.ext hE155) hc192) ?_; clear ha a; rintro v193 w194 ⟨b196, fs200, h197, z198, zf201, nd202, hx195⟩ a ha
  have q203 := Nq.new hB144.fpb z198
  have q204 := Nq.madeF z198 zf201 hB144.bi
  have q205 := Nq.new hB146.fpb z198
  have q206 := Nq.madeF z198 zf201 hB146.bi
  have q207 := Nf.new hB144.fpb zf201
  have q208 := Nf.new hB146.fpb zf201
  replace hB144 := hB144.ext hx195
  replace hB146 := hB146.ext hx195
  have hE209 := Ext.trans hE155 hx195
  have q210 := Zn.upD z198 hE155
  have q211 := zf_up zf201 hE155
  refine op_g ha rfl (g_assign rfl) ?_; clear ha a; intro a ha; refine wpList_nil ?_; replace ha := ha.sub (σ' := [(2, (.pointer (some ⟨b1, 0, none⟩))), (3, (.pointer (some ⟨b9, 0, none⟩))), (6, v193)]) ⟨rfl, rfl, rfl, trivial⟩; refine e_then ?_; refine wp_seq ?_; refine wp_seq ?_; refine wp_region_lit ?_; refine op_g ha rfl (g_assign rfl) ?_; clear ha a; intro a ha; refine wpList_nil ?_; replace ha := ha.sub (σ' := [(2, (.pointer (some ⟨b1, 0, none⟩))), (3, (.pointer (some ⟨b9, 0, none⟩))), (6, v193), (7, (.int .i64 0))]) ⟨rfl, rfl, rfl, rfl, trivial⟩; refine e_then ?_; obtain ⟨o368, ho369, hK370⟩ := bnd_some hF
  obtain ⟨n371, hn372⟩ := lp_some ho369; clear ho369
  refine c_loop (fun a w => Fr 69 [(2, (.pointer (some ⟨b1, 0, none⟩))), (3, (.pointer (some ⟨b9, 0, none⟩)))] a ∧ Chg [] W w ∧ Bx w b1 [va0_0] 31 ∧ Zn W (b1 : Int) ∧ Bx w b9 [va1_0, va1_1] 33 ∧ Zn W (b9 : Int) ∧ Nq ([b1]) (b9 : Int) ∧ Nq ([b9]) (b1 : Int) ∧ o368 = .inl ()) (fun n a w => ∃ (l295 : (List (List Int))) (i298 : Int) (fs292 : List Nat) (v296 : Value) (b297 : Int), Fr 69 [(2, (.pointer (some ⟨b1, 0, none⟩))), (3, (.pointer (some ⟨b9, 0, none⟩))), (6, v296), (7, (.int .i64 i298))] a ∧ Chg [] W w ∧ InI i298 ∧ Bx w b1 [va0_0] 31 ∧ Zn W (b1 : Int) ∧ Bx w b9 [va1_0, va1_1] 33 ∧ Zn W (b9 : Int) ∧ Ow (Rp.sl 2 Rp.int) 29 true w fs292 b297 v296 l295 ∧ Zn W b297 ∧ (∀ k ∈ fs292, W.heap.size ≤ k) ∧ (bl b297 ++ fs292).Nodup ∧ Nq ([b1]) (b9 : Int) ∧ Nq ([b1]) b297 ∧ Nq ([b9]) (b1 : Int) ∧ Nq ([b9]) b297 ∧ Nq (bl b297 ++ fs292) (b1 : Int) ∧ Nq (bl b297 ++ fs292) (b9 : Int) ∧ (∀ k ∈ ([b1] : List Nat), k ∉ fs292) ∧ (∀ k ∈ ([b9] : List Nat), k ∉ fs292) ∧ lpN (fun s => F_spec_DecompOk_l3 a1_0 a1_1 s.1 s.2) n (l295, i298) = some o368) n371 ⟨x191, 0, fs200, v193, b196, ha.sub ⟨rfl, rfl, rfl, rfl, trivial⟩, hE209, (show InI 0 from by decide), hB144, z145, hB146, z147, h197, q210, q211, nd202, q148, q203, q149, q205, q204, q206, q207, q208, hn372⟩ ?_ ?_
  · rintro m376 a w284 ⟨l295, i298, fs292, v296, b297, ha, hE308, hI299, hB285, z286, hB287, z288, h290, z291, zf293, nd294, q300, q301, q302, q303, q304, q305, q306, q307, hF⟩
    cases m376 with
    | zero => exact (lpN_zero hF).elim
    | succ m376 =>
      obtain ⟨z375, hF, hN374⟩ := lpN_succ hF
      have hF : F_spec_DecompOk_l3 a1_0 a1_1 l295 i298 = some z375 := hF; unfold F_spec_DecompOk_l3 at hF
      refine wp_seq ?_; refine wp_seq ?_; refine wp_region_lit ?_; (iterate 2 refine op_g ha rfl (g_move rfl) ?_; clear ha a; intro a ha); refine op_g ha rfl (g_lenO sl22.und h290 rfl) ?_; clear ha a; intro a ha; refine op_g ha rfl (g_lss rfl rfl) ?_; clear ha a; intro a ha; refine wpList_nil ?_; replace ha := ha.sub (σ' := [(2, (.pointer (some ⟨b1, 0, none⟩))), (3, (.pointer (some ⟨b9, 0, none⟩))), (6, v296), (7, (.int .i64 i298)), (39, (.bool (decide (i298 < (l295.length : Int)))))]) ⟨rfl, rfl, rfl, rfl, rfl, trivial⟩; refine e_then ?_; refine c_cond (i298 < (l295.length : Int)) ha rfl (decide_eq_true_iff) (fun hp377 => ?_) (fun hp377 => ?_)
      · replace hF := if_t hp377 hF
        refine wp_skip ?_; refine e_then ?_; refine wp_seq ?_; refine wp_block ?_; refine wp_seq ?_; refine d_quiet hmix (by kernel_rfl) ?_; refine q_g ha rfl (g_loadA (cs := [va1_0, va1_1]) Tryd.isAgg33 Tryd.sizeOf33 rfl (by simp) hB287.all) ?_; clear ha a; intro a ha; (iterate 2 refine q_g ha rfl (g_move rfl) ?_; clear ha a; intro a ha); obtain ⟨x378, g379, gx380, hF⟩ := idx_some hF
        obtain ⟨p381, cs382, f383, hf384, hpb385, hat386, hr387, hi388⟩ := h290.at g379 gx380
        replace hr387 := (Rp.sl 2 Rp.int).weak hr387
        obtain ⟨v389, rfl, h390⟩ := hr387
        have h390 : Ro Rp.int w284 f383 v389 x378 := h390
        have q392 := Nq.mono q304 (fun k hk => List.mem_append_right (bl b297) (hf384 k hk))
        have q393 := Nq.mono q305 (fun k hk => List.mem_append_right (bl b297) (hf384 k hk))
        have q394 := Nq.mono (Ow.ne h290) hf384
        refine q_g ha rfl (hi388.gives sl22 rfl rfl) ?_; clear ha a; intro a ha; refine q_g ha rfl (g_load Tryd.isAgg29 rfl hat386.one) ?_; clear ha a; intro a ha; obtain ⟨x397, hc398, hF⟩ := cal_some hF; refine q_call (.bool x397) ha rfl rfl Tryd.call21 (fun w396 hx395 => W_spec_l9In (ha1_0.ext (Ext.trans hE308 hx395)) (ha1_1.ext (Ext.trans hE308 hx395)) (h390.ext hx395) hc398) (fun _ _ _ h => ⟨h.1, h.2⟩) ?_; clear ha a; intro a ha; refine q_g ha rfl (g_not rfl) ?_; clear ha a; intro a ha
        refine q_nil ?_; intro w399 hx400
        replace hB285 := hB285.ext hx400
        replace hB287 := hB287.ext hx400
        replace h290 := h290.ext hx400
        replace h390 := h390.ext hx400
        have hE401 := Ext.trans hE308 hx400
        replace ha := ha.sub (σ' := [(2, (.pointer (some ⟨b1, 0, none⟩))), (3, (.pointer (some ⟨b9, 0, none⟩))), (6, v296), (7, (.int .i64 i298)), (48, (.bool (!x397)))]) ⟨rfl, rfl, rfl, rfl, rfl, trivial⟩; refine e_then ?_; refine c_cond (¬ (x397 = true)) ha rfl (n_iff (Iff.rfl)) (fun hp402 => ?_) (fun hp402 => ?_)
        · replace hF := if_t hp402 hF
          refine wp_seq ?_; refine wp_region_lit ?_; refine op_g ha rfl (g_assign rfl) ?_; clear ha a; intro a ha; refine wpList_nil ?_; replace ha := ha.sub (σ' := [(4, (.bool false))]) ⟨rfl, trivial⟩; refine e_then ?_; refine wp_ret ?_; refine e_blk_ret ?_; refine e_then_ret ?_; refine e_lq_ret ?_; refine e_then_ret ?_; obtain rfl := Option.some.inj hF
          have e403 := LK_inr hN374; subst e403
          have e404 := BK_inr hK370; subst e404
          exact f_ret1 ha rfl rfl ⟨rfl, hE401⟩
        replace hF := if_f hp402 hF; refine wp_skip ?_; refine e_blk ?_; refine e_then ?_; refine wp_region_lit ?_; refine op_g ha rfl (g_move rfl) ?_; clear ha a; intro a ha; obtain ⟨hI405, hF⟩ := ck_some hF; refine op_g ha rfl (g_add rfl rfl hI405) ?_; clear ha a; intro a ha; refine op_g ha rfl (g_assign rfl) ?_; clear ha a; intro a ha; refine wpList_nil ?_; replace ha := ha.sub (σ' := [(2, (.pointer (some ⟨b1, 0, none⟩))), (3, (.pointer (some ⟨b9, 0, none⟩))), (6, v296), (7, (.int .i64 (i298 + 1)))]) ⟨rfl, rfl, rfl, rfl, trivial⟩; refine e_lq ?_; obtain rfl := Option.some.inj hF
        exact ⟨_, Nat.lt_succ_self _, l295, i298 + 1, fs292, v296, b297, ha.sub ⟨rfl, rfl, rfl, rfl, trivial⟩, hE401, hI405, hB285, z286, hB287, z288, h290, z291, zf293, nd294, q300, q301, q302, q303, q304, q305, q306, q307, hN374⟩
      replace hF := if_f hp377 hF; refine wp_exit ?_; refine e_then_exit ?_; refine e_lq_eq ?_; obtain rfl := Option.some.inj hF
      exact ⟨ha.sub ⟨rfl, rfl, trivial⟩, hE308, hB285, z286, hB287, z288, q300, q302, (LK_inr hN374).symm⟩
  rintro a w361 ⟨ha, hE373, hB362, z363, hB364, z365, q366, q367, rfl⟩
  have hF : F_spec_DecompOk_k4 a0_0 a1_0 a1_1 = some _ := hK370; clear hK370; unfold F_spec_DecompOk_k4 at hF
  refine e_then ?_; refine wp_seq ?_; refine wp_seq ?_; refine wp_region_lit ?_; refine op_g ha rfl (g_assign rfl) ?_; clear ha a; intro a ha; refine wpList_nil ?_; refine e_then ?_; obtain ⟨o518, ho519, hK520⟩ := bnd_some hF
  obtain ⟨n521, hn522⟩ := lp_some ho519; clear ho519
  refine c_loop (fun a w => Fr 69 [] a ∧ Chg [] W w ∧ o518 = .inl ()) (fun n a w => ∃ (i466 : Int), Fr 69 [(2, (.pointer (some ⟨b1, 0, none⟩))), (3, (.pointer (some ⟨b9, 0, none⟩))), (8, (.int .i64 i466))] a ∧ Chg [] W w ∧ InI i466 ∧ Bx w b1 [va0_0] 31 ∧ Zn W (b1 : Int) ∧ Bx w b9 [va1_0, va1_1] 33 ∧ Zn W (b9 : Int) ∧ Nq ([b1]) (b9 : Int) ∧ Nq ([b9]) (b1 : Int) ∧ lpN (fun s => F_spec_DecompOk_l5 a0_0 a1_0 a1_1 s) n i466 = some o518) n521 ⟨0, ha.sub ⟨rfl, rfl, rfl, trivial⟩, hE373, (show InI 0 from by decide), hB362, z363, hB364, z365, q366, q367, hn522⟩ ?_ ?_
  · rintro m526 a w461 ⟨i466, ha, hE470, hI467, hB462, z463, hB464, z465, q468, q469, hF⟩
    cases m526 with
    | zero => exact (lpN_zero hF).elim
    | succ m526 =>
      obtain ⟨z525, hF, hN524⟩ := lpN_succ hF
      have hF : F_spec_DecompOk_l5 a0_0 a1_0 a1_1 i466 = some z525 := hF; unfold F_spec_DecompOk_l5 at hF
      refine wp_seq ?_; refine wp_seq ?_; refine wp_region_lit ?_; refine op_g ha rfl (g_move rfl) ?_; clear ha a; intro a ha; refine op_g ha rfl (g_loadA (cs := [va0_0]) Tryd.isAgg31 Tryd.sizeOf31 rfl (by simp) hB462.all) ?_; clear ha a; intro a ha; obtain ⟨x527, hc528, hF⟩ := cal_some hF
      refine o_call ha rfl rfl Tryd.call20 (W_spec_l1Size (ha0_0.ext hE470) hc528) ?_; clear ha a; rintro v529 w530 ⟨⟨rfl, hI532⟩, hx531⟩ a ha
      replace hB462 := hB462.ext hx531
      replace hB464 := hB464.ext hx531
      have hE533 := Ext.trans hE470 hx531
      refine op_g ha rfl (g_lss rfl rfl) ?_; clear ha a; intro a ha; refine wpList_nil ?_; replace ha := ha.sub (σ' := [(2, (.pointer (some ⟨b1, 0, none⟩))), (3, (.pointer (some ⟨b9, 0, none⟩))), (8, (.int .i64 i466)), (52, (.bool (decide (i466 < x527))))]) ⟨rfl, rfl, rfl, rfl, trivial⟩; refine e_then ?_; refine c_cond (i466 < x527) ha rfl (decide_eq_true_iff) (fun hp534 => ?_) (fun hp534 => ?_)
      · replace hF := if_t hp534 hF
        refine wp_skip ?_; refine e_then ?_; refine wp_seq ?_; refine wp_block ?_; refine wp_seq ?_; refine wp_region_lit ?_; refine op_g ha rfl (g_loadA (cs := [va1_0, va1_1]) Tryd.isAgg33 Tryd.sizeOf33 rfl (by simp) hB464.all) ?_; clear ha a; intro a ha; refine op_g ha rfl (g_move rfl) ?_; clear ha a; intro a ha; obtain ⟨x535, hc536, hF⟩ := cal_some hF
        refine o_call ha rfl rfl Tryd.call43 (W_spec_l9With (ha1_0.ext hE533) (ha1_1.ext hE533) hI467 hc536) ?_; clear ha a; rintro v537 w538 ⟨b540, h541, z542, hx539⟩ a ha
        have q544 := Nq.new hB462.fpb z542
        have q545 := Nq.madeO z542 hB462.bi
        have q546 := Nq.new hB464.fpb z542
        have q547 := Nq.madeO z542 hB464.bi
        replace hB462 := hB462.ext hx539
        replace hB464 := hB464.ext hx539
        have hE548 := Ext.trans hE533 hx539
        have q549 := Zn.upD z542 hE533
        refine op_g ha rfl (g_assign rfl) ?_; clear ha a; intro a ha; refine wpList_nil ?_; replace ha := ha.sub (σ' := [(2, (.pointer (some ⟨b1, 0, none⟩))), (3, (.pointer (some ⟨b9, 0, none⟩))), (8, (.int .i64 i466)), (9, v537)]) ⟨rfl, rfl, rfl, rfl, trivial⟩; refine e_then ?_; refine wp_seq ?_; refine wp_region_lit ?_; refine op_g ha rfl (g_move rfl) ?_; clear ha a; intro a ha; refine op_g ha rfl (g_lenO sl29.und h541 rfl) ?_; clear ha a; intro a ha; refine op_g ha rfl (g_eql rfl rfl) ?_; clear ha a; intro a ha; refine op_g ha rfl (g_move rfl) ?_; clear ha a; intro a ha
        by_cases hp550 : (x535.length : Int) = 0
        · replace hF := if_t hp550 hF
          rw [show (decide ((x535.length : Int) = 0)) = true from (decide_eq_true_iff).2 hp550] at ha
          (iterate 6 refine op_unwant ha rfl (yields ha rfl rfl) rfl ?_; clear ha a; intro a ha); refine op_g ha rfl (g_pick rfl rfl) ?_; clear ha a; intro a ha; refine wpList_nil ?_; replace ha := ha.sub (σ' := [(2, (.pointer (some ⟨b1, 0, none⟩))), (3, (.pointer (some ⟨b9, 0, none⟩))), (8, (.int .i64 i466)), (68, (.bool true))]) ⟨rfl, rfl, rfl, rfl, trivial⟩; refine e_then ?_; refine c_true ha rfl ?_; refine wp_seq ?_; refine wp_region_lit ?_; refine op_g ha rfl (g_assign rfl) ?_; clear ha a; intro a ha; refine wpList_nil ?_; replace ha := ha.sub (σ' := [(4, (.bool false))]) ⟨rfl, trivial⟩; refine e_then ?_
          refine wp_ret ?_; refine e_blk_ret ?_; refine e_then_ret ?_; refine e_lq_ret ?_; refine e_then_ret ?_; obtain rfl := Option.some.inj hF
          have e551 := LK_inr hN524; subst e551
          have e552 := BK_inr hK520; subst e552
          exact f_ret1 ha rfl rfl ⟨rfl, hE548⟩
        replace hF := if_f hp550 hF
        rw [show (decide ((x535.length : Int) = 0)) = false from b_false (decide_eq_true_iff) hp550] at ha
        refine op_want (yields ha rfl rfl) ?_; refine op_g ha rfl (g_loadA (cs := [va1_0, va1_1]) Tryd.isAgg33 Tryd.sizeOf33 rfl (by simp) hB464.all) ?_; clear ha a; intro a ha; refine op_want (yields ha rfl rfl) ?_; refine op_g ha rfl (g_move rfl) ?_; clear ha a; intro a ha; refine op_want (yields ha rfl rfl) ?_
        obtain ⟨fp553, hro554, hs555⟩ := h541.roF
        obtain ⟨x556, hc557, hF⟩ := cal_some hF
        refine o_call ha rfl rfl Tryd.call44 (W_spec_l9Reached (ha1_0.ext hE548) (ha1_1.ext hE548) hro554 hc557) ?_; clear ha a; rintro v558 w559 ⟨⟨rfl, hI561⟩, hx560⟩ a ha
        replace hB462 := hB462.ext hx560
        replace hB464 := hB464.ext hx560
        replace h541 := h541.ext hx560
        have hE562 := Ext.trans hE548 hx560
        refine op_want (yields ha rfl rfl) ?_; refine op_g ha rfl (g_move rfl) ?_; clear ha a; intro a ha; refine op_want (yields ha rfl rfl) ?_; refine op_g ha rfl (g_lenO sl29.und h541 rfl) ?_; clear ha a; intro a ha; refine op_want (yields ha rfl rfl) ?_; refine op_g ha rfl (g_neq rfl rfl) ?_; clear ha a; intro a ha; refine op_g ha rfl (g_pick rfl rfl) ?_; clear ha a; intro a ha; refine wpList_nil ?_; replace ha := ha.sub (σ' := [(2, (.pointer (some ⟨b1, 0, none⟩))), (3, (.pointer (some ⟨b9, 0, none⟩))), (8, (.int .i64 i466)), (62, (.agg #[va1_0, va1_1])), (63, v537), (64, (.int .i64 x556)), (65, v537), (66, (.int .i64 (x535.length : Int))), (67, (.bool (decide (x556 ≠ (x535.length : Int))))), (68, (.bool (decide (x556 ≠ (x535.length : Int)))))]) ⟨rfl, rfl, rfl, rfl, rfl, rfl, rfl, rfl, rfl, rfl, trivial⟩
        refine e_then ?_; refine c_cond (x556 ≠ (x535.length : Int)) ha rfl (decide_eq_true_iff) (fun hp563 => ?_) (fun hp563 => ?_)
        · replace hF := if_t hp563 hF
          refine wp_seq ?_; refine wp_region_lit ?_; refine op_g ha rfl (g_assign rfl) ?_; clear ha a; intro a ha; refine wpList_nil ?_; replace ha := ha.sub (σ' := [(4, (.bool false))]) ⟨rfl, trivial⟩; refine e_then ?_; refine wp_ret ?_; refine e_blk_ret ?_; refine e_then_ret ?_; refine e_lq_ret ?_; refine e_then_ret ?_; obtain rfl := Option.some.inj hF
          have e564 := LK_inr hN524; subst e564
          have e565 := BK_inr hK520; subst e565
          exact f_ret1 ha rfl rfl ⟨rfl, hE562⟩
        replace hF := if_f hp563 hF; refine wp_skip ?_; refine e_blk ?_; refine e_then ?_; refine wp_region_lit ?_; refine op_g ha rfl (g_move rfl) ?_; clear ha a; intro a ha; obtain ⟨hI566, hF⟩ := ck_some hF; refine op_g ha rfl (g_add rfl rfl hI566) ?_; clear ha a; intro a ha; refine op_g ha rfl (g_assign rfl) ?_; clear ha a; intro a ha; refine wpList_nil ?_; replace ha := ha.sub (σ' := [(2, (.pointer (some ⟨b1, 0, none⟩))), (3, (.pointer (some ⟨b9, 0, none⟩))), (8, (.int .i64 (i466 + 1))), (62, (.agg #[va1_0, va1_1])), (63, v537), (64, (.int .i64 x556)), (65, v537), (66, (.int .i64 (x535.length : Int))), (67, (.bool (decide (x556 ≠ (x535.length : Int)))))]) ⟨rfl, rfl, rfl, rfl, rfl, rfl, rfl, rfl, rfl, trivial⟩
        refine e_lq ?_; obtain rfl := Option.some.inj hF
        exact ⟨_, Nat.lt_succ_self _, i466 + 1, ha.sub ⟨rfl, rfl, rfl, trivial⟩, hE562, hI566, hB462, z463, hB464, z465, q468, q469, hN524⟩
      replace hF := if_f hp534 hF; refine wp_exit ?_; refine e_then_exit ?_; refine e_lq_eq ?_; obtain rfl := Option.some.inj hF
      exact ⟨ha.sub trivial, hE533, (LK_inr hN524).symm⟩
  rintro a w517 ⟨ha, hE523, rfl⟩
  have hF : F_spec_DecompOk_k6 = some _ := hK520; clear hK520; unfold F_spec_DecompOk_k6 at hF
  refine e_then ?_; refine wp_seq ?_; refine wp_region_lit ?_; refine op_g ha rfl (g_assign rfl) ?_; clear ha a; intro a ha; refine wpList_nil ?_; refine e_then ?_; refine wp_ret ?_; obtain rfl := Option.some.inj hF
  exact f_ret1 ha rfl rfl ⟨rfl, hE523⟩
set_option maxHeartbeats 2000000 in
theorem W_spec_l1CopyGraph {W : World} {va0_0 : Value} {fa0_0 : List Nat} {a0_0 : (List (List Int))} (ha0_0 : Ro (Rp.sl 2 Rp.int) W fa0_0 va0_0 a0_0) {r : (List (List Int))} (hF : F_spec_l1CopyGraph a0_0 = some r) :
    Calls Tryd.prog 19 [.agg #[va0_0]].toArray W (Ret fun u w' => ∃ (u_0 : Value) (b_u_0 : Int) (fs_u_0 : List Nat), u = .agg #[u_0] ∧ Ow (Rp.sl 2 Rp.int) 29 true w' fs_u_0 b_u_0 u_0 r ∧ Zn W b_u_0 ∧ (∀ k ∈ fs_u_0, W.heap.size ≤ k) ∧ (bl b_u_0 ++ fs_u_0).Nodup ∧ Ext W w') := by
  refine f_enter Tryd.func19 rfl Tryd.ntmps19 rfl ?_
  intro a ha
  replace ha : Fr 25 [(0, (.agg #[va0_0]))] a := ha
  have hE : Chg [] W W := Chg.refl _ _
  unfold F_spec_l1CopyGraph at hF
  refine wp_seq ?_; refine wp_region_lit ?_
  refine o_box ha rfl rfl rfl ?_; clear ha a; intro b1 w2 hB3 hx4 hlo5 a ha
  have q6 := Zn.one hlo5
  have q7 := Zn.upD q6 hE
  have hE8 := Ext.trans hE hx4
  refine o_alloc (cs := [(.slice none 0 0)]) ha rfl Tryd.zeroValue31 rfl ?_; clear ha a; intro b9 w10 hB11 hx12 hlo13 a ha
  have q14 := Zn.one hlo13
  have q15 := Nq.new hB3.fpb q14
  have q16 := Nq.made1 hlo13 hB3.bi
  have q17 := Zn.upD q14 hE8
  replace hB3 := hB3.ext hx12
  have hE18 := Ext.trans hE8 hx12
  refine wpList_nil ?_; replace ha := ha.sub (σ' := [(1, (.pointer (some ⟨b1, 0, none⟩))), (2, (.pointer (some ⟨b9, 0, none⟩)))]) ⟨rfl, rfl, trivial⟩; refine e_then ?_; refine wp_seq ?_; refine wp_region_lit ?_; refine op_g ha rfl (g_build (vs := []) (cells := #[(.slice none 0 0)]) rfl (by rfl)) ?_; clear ha a; intro a ha
  refine o_alloc (cs := [(.slice none 0 0)]) ha rfl Tryd.zeroValue31 rfl ?_; clear ha a; intro b19 w20 hB21 hx22 hlo23 a ha
  have q24 := Zn.one hlo23
  have q25 := Nq.new hB3.fpb q24
  have q26 := Nq.made1 hlo23 hB3.bi
  have q27 := Nq.new hB11.fpb q24
  have q28 := Nq.made1 hlo23 hB11.bi
  have q29 := Zn.upD q24 hE18
  replace hB3 := hB3.ext hx22
  replace hB11 := hB11.ext hx22
  have hE30 := Ext.trans hE18 hx22
  refine o_storeA (vs := [(.slice none 0 0)]) ha hB21 Tryd.sizeOf31 rfl rfl (by intro c hc; simp only [List.mem_cons, List.not_mem_nil, or_false] at hc; rcases hc with hc <;> subst hc <;> first | rfl | exact rfl) rfl ?_; intro w31 hB32 hc33
  replace hc33 := hc33.bl
  replace hB32 : Bx w31 b19 [(.slice none 0 0)] 31 := hB32
  replace hB3 := hB3.nq hc33 q25
  replace hB11 := hB11.nq hc33 q27
  have hE34 := Ext.then hE30 hc33 (Zn.bl q29)
  refine wpList_nil ?_; replace ha := ha.sub (σ' := [(1, (.pointer (some ⟨b1, 0, none⟩))), (2, (.pointer (some ⟨b9, 0, none⟩))), (3, (.pointer (some ⟨b19, 0, none⟩)))]) ⟨rfl, rfl, rfl, trivial⟩; refine e_then ?_; refine wp_seq ?_; refine wp_seq ?_; refine wp_region_lit ?_; refine op_g ha rfl (g_assign rfl) ?_; clear ha a; intro a ha; refine wpList_nil ?_; replace ha := ha.sub (σ' := [(1, (.pointer (some ⟨b1, 0, none⟩))), (2, (.pointer (some ⟨b9, 0, none⟩))), (3, (.pointer (some ⟨b19, 0, none⟩))), (4, (.int .i64 0))]) ⟨rfl, rfl, rfl, rfl, trivial⟩; refine e_then ?_; obtain ⟨o364, ho365, hK366⟩ := bnd_some hF
  obtain ⟨n367, hn368⟩ := lp_some ho365; clear ho365
  obtain ⟨b371, hb371⟩ : ∃ b : Int, b = -1 := ⟨_, rfl⟩
  have h370 : Ow (Rp.sl 2 Rp.int) 29 true w31 [] b371 (.slice none 0 0) [] := Ow.nil (by omega)
  have q372 := (.inl (by omega) : Zn w31 b371)
  have q373 := Nq.new hB3.fpb q372
  have q374 := Nq.madeO q372 hB3.bi
  have q375 := Nq.new hB11.fpb q372
  have q376 := Nq.madeO q372 hB11.bi
  have q377 := Nq.new hB32.fpb q372
  have q378 := Nq.madeO q372 hB32.bi
  have q379 := Zn.upD q372 hE34
  refine c_loop (fun a w => ∃ (l355 : (List (List Int))) (fs352 : List Nat) (v356 : Value) (b357 : Int), Fr 25 [(2, (.pointer (some ⟨b9, 0, none⟩))), (3, (.pointer (some ⟨b19, 0, none⟩)))] a ∧ Chg [] W w ∧ Bx w b9 [(.slice none 0 0)] 31 ∧ Zn W (b9 : Int) ∧ Bx w b19 [v356] 31 ∧ Zn W (b19 : Int) ∧ Ow (Rp.sl 2 Rp.int) 29 true w fs352 b357 v356 l355 ∧ Zn W b357 ∧ (∀ k ∈ fs352, W.heap.size ≤ k) ∧ (bl b357 ++ fs352).Nodup ∧ Nq ([b9]) (b19 : Int) ∧ Nq ([b9]) b357 ∧ Nq ([b19]) (b9 : Int) ∧ Nq ([b19]) b357 ∧ Nq (bl b357 ++ fs352) (b9 : Int) ∧ Nq (bl b357 ++ fs352) (b19 : Int) ∧ o364 = .inl l355) (fun n a w => ∃ (l198 : (List (List Int))) (i201 : Int) (fs195 : List Nat) (v199 : Value) (b200 : Int), Fr 25 [(1, (.pointer (some ⟨b1, 0, none⟩))), (2, (.pointer (some ⟨b9, 0, none⟩))), (3, (.pointer (some ⟨b19, 0, none⟩))), (4, (.int .i64 i201))] a ∧ Chg [] W w ∧ InI i201 ∧ Bx w b1 [va0_0] 31 ∧ Zn W (b1 : Int) ∧ Bx w b9 [(.slice none 0 0)] 31 ∧ Zn W (b9 : Int) ∧ Bx w b19 [v199] 31 ∧ Zn W (b19 : Int) ∧ Ow (Rp.sl 2 Rp.int) 29 true w fs195 b200 v199 l198 ∧ Zn W b200 ∧ (∀ k ∈ fs195, W.heap.size ≤ k) ∧ (bl b200 ++ fs195).Nodup ∧ Nq ([b1]) (b9 : Int) ∧ Nq ([b1]) (b19 : Int) ∧ Nq ([b1]) b200 ∧ Nq ([b9]) (b1 : Int) ∧ Nq ([b9]) (b19 : Int) ∧ Nq ([b9]) b200 ∧ Nq ([b19]) (b1 : Int) ∧ Nq ([b19]) (b9 : Int) ∧ Nq ([b19]) b200 ∧ Nq (bl b200 ++ fs195) (b1 : Int) ∧ Nq (bl b200 ++ fs195) (b9 : Int) ∧ Nq (bl b200 ++ fs195) (b19 : Int) ∧ lpN (fun s => F_spec_l1CopyGraph_l1 a0_0 s.1 s.2) n (l198, i201) = some o364) n367 ⟨([] : (List (List Int))), 0, [], (.slice none 0 0), b371, ha.sub ⟨rfl, rfl, rfl, rfl, trivial⟩, hE34, (show InI 0 from by decide), hB3, q7, hB11, q17, hB32, q29, h370, q379, (zf_nil _), (bl_nodup b371), q15, q25, q373, q16, q27, q375, q26, q28, q377, q374, q376, q378, hn368⟩ ?_ ?_
  · rintro m383 a w185 ⟨l198, i201, fs195, v199, b200, ha, hE215, hI202, hB186, z187, hB188, z189, hB190, z191, h193, z194, zf196, nd197, q203, q204, q205, q206, q207, q208, q209, q210, q211, q212, q213, q214, hF⟩
    cases m383 with
    | zero => exact (lpN_zero hF).elim
    | succ m383 =>
      obtain ⟨z382, hF, hN381⟩ := lpN_succ hF
      have hF : F_spec_l1CopyGraph_l1 a0_0 l198 i201 = some z382 := hF; unfold F_spec_l1CopyGraph_l1 at hF
      refine wp_seq ?_; refine wp_seq ?_; refine wp_region_lit ?_; refine op_g ha rfl (g_move rfl) ?_; clear ha a; intro a ha; refine op_g ha rfl (g_field0 st31_0 rfl) ?_; clear ha a; intro a ha; refine op_g ha rfl (g_load Tryd.isAgg22 rfl (hB186.cell rfl)) ?_; clear ha a; intro a ha; refine op_g ha rfl (g_lenR sl22.und ha0_0 rfl) ?_; clear ha a; intro a ha; refine op_g ha rfl (g_lss rfl rfl) ?_; clear ha a; intro a ha; refine wpList_nil ?_; replace ha := ha.sub (σ' := [(1, (.pointer (some ⟨b1, 0, none⟩))), (2, (.pointer (some ⟨b9, 0, none⟩))), (3, (.pointer (some ⟨b19, 0, none⟩))), (4, (.int .i64 i201)), (10, (.bool (decide (i201 < (a0_0.length : Int)))))]) ⟨rfl, rfl, rfl, rfl, rfl, trivial⟩
      refine e_then ?_; refine c_cond (i201 < (a0_0.length : Int)) ha rfl (decide_eq_true_iff) (fun hp384 => ?_) (fun hp384 => ?_)
      · replace hF := if_t hp384 hF
        refine wp_skip ?_; refine e_then ?_; refine wp_seq ?_; refine wp_block ?_; refine d_region [0, 1, 2, 3, 4, 5, 6, 7, 8] hmix ?_; refine u_g 0 rfl (by kernel_rfl) (want0 _) ha rfl (g_field0 st31_0 rfl) ?_; clear ha a; intro a ha; refine u_g 1 rfl (by kernel_rfl) (want0 _) ha rfl (g_load Tryd.isAgg22 rfl (hB190.cell rfl)) ?_; clear ha a; intro a ha; refine u_g 2 rfl (by kernel_rfl) (want0 _) ha rfl (g_field0 st31_0 rfl) ?_; clear ha a; intro a ha; refine u_g 3 rfl (by kernel_rfl) (want0 _) ha rfl (g_load Tryd.isAgg22 rfl (hB186.cell rfl)) ?_; clear ha a; intro a ha; refine u_g 4 rfl (by kernel_rfl) (want0 _) ha rfl (g_move rfl) ?_; clear ha a; intro a ha
        obtain ⟨x385, g386, gx387, hF⟩ := idx_some hF
        obtain ⟨p388, cs389, f390, hf391, hpb392, hat393, hr394, hi395⟩ := ha0_0.at g386 gx387
        obtain ⟨v396, rfl, h397⟩ := hr394
        have h397 : Ro Rp.int W f390 v396 x385 := h397
        refine u_g 5 rfl (by kernel_rfl) (want0 _) ha rfl (hi395.gives sl22 rfl rfl) ?_; clear ha a; intro a ha; refine u_g 6 rfl (by kernel_rfl) (want0 _) ha rfl (g_load0 hE215 Tryd.isAgg29 rfl hat393.one) ?_; clear ha a; intro a ha
        refine u_only 7 rfl (by kernel_rfl) ?_; intro w399 hx400
        replace hB186 := hB186.ext hx400
        replace hB188 := hB188.ext hx400
        replace hB190 := hB190.ext hx400
        replace h193 := h193.ext hx400
        have hE401 := Ext.trans hE215 hx400
        obtain ⟨x402, hc403, hF⟩ := cal_some hF
        refine o_call ha rfl rfl Tryd.call45 (W_spec_l1Copy (h397.ext hE401) hc403) ?_; clear ha a; rintro v404 w405 ⟨b407, h408, z409, hx406⟩ a ha
        have q411 := Nq.new hB186.fpb z409
        have q412 := Nq.madeO z409 hB186.bi
        have q413 := Nq.new hB188.fpb z409
        have q414 := Nq.madeO z409 hB188.bi
        have q415 := Nq.new hB190.fpb z409
        have q416 := Nq.madeO z409 hB190.bi
        have q417 := Nq.new h193.fpb z409
        have q418 := Nq.madeO z409 h193.blt
        have q419 := Nf.old z409 (zf_nil _) h193.bnd
        replace hB186 := hB186.ext hx406
        replace hB188 := hB188.ext hx406
        replace hB190 := hB190.ext hx406
        replace h193 := h193.ext hx406
        have hE420 := Ext.trans hE401 hx406
        have q421 := Zn.upD z409 hE401
        refine wpList_nil (e_sq ?_)
        refine ⟨fun _ => hx406, ?_⟩
        refine u_only 8 rfl (by kernel_rfl) ?_; intro w422 hx423
        replace hB186 := hB186.ext hx423
        replace hB188 := hB188.ext hx423
        replace hB190 := hB190.ext hx423
        replace h193 := h193.ext hx423
        replace h408 := h408.ext hx423
        have hE424 := Ext.trans hE420 hx423
        refine o_lit1 (o := true) (y := x402) (Rp.sl 2 Rp.int) ha rfl sl22 rfl rfl h408.cells (Rp.mkO h408) ?_; clear ha a; intro v425 w426 h427 hx428 a ha
        obtain ⟨b430, hb430⟩ : ∃ b : Int, b = w422.heap.size := ⟨_, rfl⟩; rw [← hb430] at h427
        have q431 := zn_of hb430
        have q432 := zf_mv q421 (zf_nil _)
        have q433 := dj_of q417
        have q434 := Nq.new hB186.fpb q431
        have q435 := Nq.append (Nq.madeL q431 hB186.bi) q412
        have q436 := Nq.new hB188.fpb q431
        have q437 := Nq.append (Nq.madeL q431 hB188.bi) q414
        have q438 := Nq.new hB190.fpb q431
        have q439 := Nq.append (Nq.madeL q431 hB190.bi) q416
        have q440 := Nq.new h193.fpb q431
        have q441 := Nq.append (Nq.madeL q431 h193.blt) q418
        have q442 := Zn.upD q431 hE424
        have q443 := nd_lit (bl_nodup b407) h408.fpb hb430
        replace hB186 := hB186.ext hx428
        replace hB188 := hB188.ext hx428
        replace hB190 := hB190.ext hx428
        replace h193 := h193.ext hx428
        have hE444 := Ext.trans hE424 hx428
        refine wpList_nil (e_sq ?_)
        refine ⟨fun _ => hx428, ?_⟩
        refine u_only 9 rfl (by kernel_rfl) ?_; intro w445 hx446
        replace hB186 := hB186.ext hx446
        replace hB188 := hB188.ext hx446
        replace hB190 := hB190.ext hx446
        replace h193 := h193.ext hx446
        replace h427 := h427.ext hx446
        have hE447 := Ext.trans hE444 hx446
        obtain ⟨hl448, hF⟩ := app_some hF
        have q449 := Nq.right q441
        refine o_append ha rfl sl22 rfl rfl rfl h193 h427.src q449 hl448 ?_; clear ha a; intro v450 w451 b452 h453 hc454 hb455 a ha
        replace h453 : Ow (Rp.sl 2 Rp.int) 29 true w451 (fs195 ++ (bl b407 ++ [])) b452 v450 _ := h453
        have q457 := zf_app zf196 q432
        have q458 := nd_app nd197 (bl_nodup b407) q433 hb455 h193.fpb h427.bnd
        have q459 := Nq.appY q205 hB186.fpb hb455
        have q460 := Nq.appX q212 (Nq.right q435) hb455 hB186.bi
        have q461 := Nq.appY q208 hB188.fpb hb455
        have q462 := Nq.appX q213 (Nq.right q437) hb455 hB188.bi
        have q463 := Nq.appY q211 hB190.fpb hb455
        have q464 := Nq.appX q214 (Nq.right q439) hb455 hB190.bi
        have q465 := Zn.appD z194 hb455 hE447
        replace hB186 := hB186.nq hc454 q205
        replace hB188 := hB188.nq hc454 q208
        replace hB190 := hB190.nq hc454 q211
        have hE466 := Ext.then hE447 hc454 (Zn.bl z194)
        refine wpList_nil (e_sq ?_)
        refine ⟨fun h => absurd h (by decide), ?_⟩
        refine u_only 10 rfl (by kernel_rfl) ?_; intro w467 hx468
        replace hB186 := hB186.ext hx468
        replace hB188 := hB188.ext hx468
        replace hB190 := hB190.ext hx468
        replace h453 := h453.ext hx468
        have hE469 := Ext.trans hE466 hx468
        refine op_g ha rfl (g_field0 st31_0 rfl) ?_; clear ha a; intro a ha; refine wpList_nil (e_sq ?_)
        refine ⟨fun h => absurd h (by decide), ?_⟩
        refine u_only 11 rfl (by kernel_rfl) ?_; intro w470 hx471
        replace hB186 := hB186.ext hx471
        replace hB188 := hB188.ext hx471
        replace hB190 := hB190.ext hx471
        replace h453 := h453.ext hx471
        have hE472 := Ext.trans hE469 hx471
        refine o_storeB ha hB190 Tryd.sizeOf22 rfl rfl h453.cells h453.oneC (Nat.le_of_ble_eq_true rfl) ?_; intro w473 hB474 hc475
        replace hc475 := hc475.bl
        replace hB474 : Bx w473 b19 [v450] 31 := hB474
        replace hB186 := hB186.nq hc475 q204
        replace hB188 := hB188.nq hc475 q207
        replace h453 := h453.nq hc475 q464
        have hE476 := Ext.then hE472 hc475 (Zn.bl z191)
        refine wpList_nil (e_sq ?_)
        refine ⟨fun h => absurd h (by decide), ?_⟩
        refine u_done (by kernel_rfl) ?_; intro w477 hx478
        replace hB186 := hB186.ext hx478
        replace hB188 := hB188.ext hx478
        replace hB474 := hB474.ext hx478
        replace h453 := h453.ext hx478
        have hE479 := Ext.trans hE476 hx478
        replace ha := ha.sub (σ' := [(1, (.pointer (some ⟨b1, 0, none⟩))), (2, (.pointer (some ⟨b9, 0, none⟩))), (3, (.pointer (some ⟨b19, 0, none⟩))), (4, (.int .i64 i201))]) ⟨rfl, rfl, rfl, rfl, trivial⟩; refine e_blk ?_; refine e_then ?_; refine wp_region_lit ?_; refine op_g ha rfl (g_move rfl) ?_; clear ha a; intro a ha; obtain ⟨hI480, hF⟩ := ck_some hF; refine op_g ha rfl (g_add rfl rfl hI480) ?_; clear ha a; intro a ha; refine op_g ha rfl (g_assign rfl) ?_; clear ha a; intro a ha; refine wpList_nil ?_; replace ha := ha.sub (σ' := [(1, (.pointer (some ⟨b1, 0, none⟩))), (2, (.pointer (some ⟨b9, 0, none⟩))), (3, (.pointer (some ⟨b19, 0, none⟩))), (4, (.int .i64 (i201 + 1)))]) ⟨rfl, rfl, rfl, rfl, trivial⟩
        refine e_lq ?_; obtain rfl := Option.some.inj hF
        exact ⟨_, Nat.lt_succ_self _, (l198 ++ ([x402])), i201 + 1, (fs195 ++ (bl b407 ++ [])), v450, b452, ha.sub ⟨rfl, rfl, rfl, rfl, trivial⟩, hE479, hI480, hB186, z187, hB188, z189, hB474, z191, h453, q465, q457, q458, q203, q204, q459, q206, q207, q461, q209, q210, q463, q460, q462, q464, hN381⟩
      replace hF := if_f hp384 hF; refine wp_exit ?_; refine e_then_exit ?_; refine e_lq_eq ?_; obtain rfl := Option.some.inj hF
      exact ⟨l198, fs195, v199, b200, ha.sub ⟨rfl, rfl, trivial⟩, hE215, hB188, z189, hB190, z191, h193, z194, zf196, nd197, q207, q208, q210, q211, q213, q214, (LK_inr hN381).symm⟩
  rintro a w344 ⟨l355, fs352, v356, b357, ha, hE380, hB345, z346, hB347, z348, h350, z351, zf353, nd354, q358, q359, q360, q361, q362, q363, rfl⟩
  have hF : F_spec_l1CopyGraph_k2 l355 = some _ := hK366; clear hK366; unfold F_spec_l1CopyGraph_k2 at hF
  refine e_then ?_; refine wp_seq ?_; refine wp_region_lit ?_; refine op_g ha rfl (g_loadA (cs := [v356]) Tryd.isAgg31 Tryd.sizeOf31 rfl (by simp) hB347.all) ?_; clear ha a; intro a ha
  refine o_storeA (vs := [v356]) ha hB345 Tryd.sizeOf31 rfl rfl (by intro c hc; simp only [List.mem_cons, List.not_mem_nil, or_false] at hc; rcases hc with hc <;> subst hc <;> first | rfl | exact h350.oneC) rfl ?_; intro w482 hB483 hc484
  replace hc484 := hc484.bl
  replace hB483 : Bx w482 b9 [v356] 31 := hB483
  replace hB347 := hB347.nq hc484 q360
  replace h350 := h350.nq hc484 q362
  have hE485 := Ext.then hE380 hc484 (Zn.bl z346)
  refine wpList_nil ?_; replace ha := ha.sub (σ' := [(2, (.pointer (some ⟨b9, 0, none⟩)))]) ⟨rfl, trivial⟩; refine e_then ?_; refine wp_ret ?_; obtain rfl := Option.some.inj hF
  exact f_retC (cs := [v356]) ha rfl rfl Tryd.isAgg31 Tryd.sizeOf31 hB483 ⟨_, _, _, rfl, h350, z351, zf353, nd354, hE485⟩
set_option maxHeartbeats 2000000 in
theorem W_spec_l7Left {W : World} {va0_0 : Value} {fa0_0 : List Nat} {a0_0 : (List (List Int))} (ha0_0 : Ro (Rp.sl 2 Rp.int) W fa0_0 va0_0 a0_0) {a1 : Int} (ha1 : InI a1) {va2 : Value} {fa2 : List Nat} {a2 : (List Bool)} (ha2 : Ro Rp.bool W fa2 va2 a2) {r : (List Int)} (hF : F_spec_l7Left a0_0 a1 a2 = some r) :
    Calls Tryd.prog 23 [.agg #[va0_0], .int .i64 a1, va2].toArray W (Ret fun u w' => ∃ (b_u : Int), Ow Rp.int 2 true w' [] b_u u r ∧ Zn W b_u ∧ Ext W w') := by
  refine f_enter Tryd.func23 rfl Tryd.ntmps23 rfl ?_
  intro a ha
  replace ha : Fr 44 [(0, (.agg #[va0_0])), (1, (.int .i64 a1)), (2, va2)] a := ha
  have hE : Chg [] W W := Chg.refl _ _
  unfold F_spec_l7Left at hF
  refine wp_seq ?_; refine wp_region_lit ?_
  refine o_box ha rfl rfl rfl ?_; clear ha a; intro b1 w2 hB3 hx4 hlo5 a ha
  have q6 := Zn.one hlo5
  have q7 := Zn.upD q6 hE
  have hE8 := Ext.trans hE hx4
  refine op_g ha rfl (g_assign rfl) ?_; clear ha a; intro a ha; refine wpList_nil ?_; replace ha := ha.sub (σ' := [(1, (.int .i64 a1)), (2, va2), (3, (.pointer (some ⟨b1, 0, none⟩)))]) ⟨rfl, rfl, rfl, trivial⟩; refine e_then ?_; refine wp_seq ?_; refine wp_region_lit ?_
  refine o_lit0 Rp.int ha rfl sl29 ?_; clear ha a; intro v9 w10 h11 hx12 a ha
  obtain ⟨b14, hb14⟩ : ∃ b : Int, b = w2.heap.size := ⟨_, rfl⟩; rw [← hb14] at h11
  have q15 := zn_of hb14
  have q16 := Nq.new hB3.fpb q15
  have q17 := Nq.madeO q15 hB3.bi
  have q18 := Zn.upD q15 hE8
  replace hB3 := hB3.ext hx12
  have hE19 := Ext.trans hE8 hx12
  refine op_g ha rfl (g_assign rfl) ?_; clear ha a; intro a ha; refine wpList_nil ?_; replace ha := ha.sub (σ' := [(1, (.int .i64 a1)), (2, va2), (3, (.pointer (some ⟨b1, 0, none⟩))), (7, v9)]) ⟨rfl, rfl, rfl, rfl, trivial⟩; refine e_then ?_; refine wp_seq ?_; refine wp_seq ?_; refine wp_region_lit ?_; refine op_g ha rfl (g_assign rfl) ?_; clear ha a; intro a ha; refine wpList_nil ?_; replace ha := ha.sub (σ' := [(1, (.int .i64 a1)), (2, va2), (3, (.pointer (some ⟨b1, 0, none⟩))), (7, v9), (8, (.int .i64 0))]) ⟨rfl, rfl, rfl, rfl, rfl, trivial⟩; refine e_then ?_; obtain ⟨o296, ho297, hK298⟩ := bnd_some hF
  obtain ⟨n299, hn300⟩ := lp_some ho297; clear ho297
  refine c_loop (fun a w => ∃ (l293 : (List Int)) (v294 : Value) (b295 : Int), Fr 44 [(7, v294)] a ∧ Chg [] W w ∧ Ow Rp.int 2 true w [] b295 v294 l293 ∧ Zn W b295 ∧ o296 = .inl l293) (fun n a w => ∃ (l158 : (List Int)) (i161 : Int) (v159 : Value) (b160 : Int), Fr 44 [(1, (.int .i64 a1)), (2, va2), (3, (.pointer (some ⟨b1, 0, none⟩))), (7, v159), (8, (.int .i64 i161))] a ∧ Chg [] W w ∧ InI i161 ∧ Bx w b1 [va0_0] 31 ∧ Zn W (b1 : Int) ∧ Ow Rp.int 2 true w [] b160 v159 l158 ∧ Zn W b160 ∧ Nq ([b1]) b160 ∧ Nq (bl b160 ++ []) (b1 : Int) ∧ lpN (fun s => F_spec_l7Left_l1 a0_0 a1 a2 s.1 s.2) n (l158, i161) = some o296) n299 ⟨([] : (List Int)), 0, v9, b14, ha.sub ⟨rfl, rfl, rfl, rfl, rfl, trivial⟩, hE19, (show InI 0 from by decide), hB3, q7, h11, q18, q16, q17, hn300⟩ ?_ ?_
  · rintro m304 a w152 ⟨l158, i161, v159, b160, ha, hE165, hI162, hB153, z154, h156, z157, q163, q164, hF⟩
    cases m304 with
    | zero => exact (lpN_zero hF).elim
    | succ m304 =>
      obtain ⟨z303, hF, hN302⟩ := lpN_succ hF
      have hF : F_spec_l7Left_l1 a0_0 a1 a2 l158 i161 = some z303 := hF; unfold F_spec_l7Left_l1 at hF
      refine wp_seq ?_; refine wp_seq ?_; refine wp_region_lit ?_; refine op_g ha rfl (g_move rfl) ?_; clear ha a; intro a ha; refine op_g ha rfl (g_field0 st31_0 rfl) ?_; clear ha a; intro a ha; refine op_g ha rfl (g_load Tryd.isAgg22 rfl (hB153.cell rfl)) ?_; clear ha a; intro a ha; refine op_g ha rfl (g_move rfl) ?_; clear ha a; intro a ha; obtain ⟨x305, g306, gx307, hF⟩ := idx_some hF
      obtain ⟨p308, cs309, f310, hf311, hpb312, hat313, hr314, hi315⟩ := ha0_0.at g306 gx307
      obtain ⟨v316, rfl, h317⟩ := hr314
      have h317 : Ro Rp.int W f310 v316 x305 := h317
      refine op_g ha rfl (hi315.gives sl22 rfl rfl) ?_; clear ha a; intro a ha; refine op_g ha rfl (g_load0 hE165 Tryd.isAgg29 rfl hat313.one) ?_; clear ha a; intro a ha; refine op_g ha rfl (g_lenR sl29.und h317 rfl) ?_; clear ha a; intro a ha; refine op_g ha rfl (g_lss rfl rfl) ?_; clear ha a; intro a ha; refine wpList_nil ?_; replace ha := ha.sub (σ' := [(1, (.int .i64 a1)), (2, va2), (3, (.pointer (some ⟨b1, 0, none⟩))), (7, v159), (8, (.int .i64 i161)), (17, (.bool (decide (i161 < (x305.length : Int)))))]) ⟨rfl, rfl, rfl, rfl, rfl, rfl, trivial⟩; refine e_then ?_; refine c_cond (i161 < (x305.length : Int)) ha rfl (decide_eq_true_iff) (fun hp319 => ?_) (fun hp319 => ?_)
      · replace hF := if_t hp319 hF
        refine wp_skip ?_; refine e_then ?_; refine wp_seq ?_; refine wp_block ?_; refine wp_seq ?_; refine wp_region_lit ?_; refine op_g ha rfl (g_move rfl) ?_; clear ha a; intro a ha; refine op_g ha rfl (g_field0 st31_0 rfl) ?_; clear ha a; intro a ha; refine op_g ha rfl (g_load Tryd.isAgg22 rfl (hB153.cell rfl)) ?_; clear ha a; intro a ha; refine op_g ha rfl (g_move rfl) ?_; clear ha a; intro a ha; obtain ⟨x320, g321, gx322, hF⟩ := idx_some hF
        obtain ⟨p323, cs324, f325, hf326, hpb327, hat328, hr329, hi330⟩ := ha0_0.at g321 gx322
        obtain ⟨v331, rfl, h332⟩ := hr329
        have h332 : Ro Rp.int W f325 v331 x320 := h332
        refine op_g ha rfl (hi330.gives sl22 rfl rfl) ?_; clear ha a; intro a ha; refine op_g ha rfl (g_load0 hE165 Tryd.isAgg29 rfl hat328.one) ?_; clear ha a; intro a ha; refine op_g ha rfl (g_move rfl) ?_; clear ha a; intro a ha; obtain ⟨x334, g335, gx336, hF⟩ := idx_some hF
        obtain ⟨p337, cs338, f339, hf340, hpb341, hat342, hr343, hi344⟩ := h332.at g335 gx336
        obtain ⟨rfl, hI345, rfl⟩ := hr343
        refine op_g ha rfl (hi344.gives sl29 rfl rfl) ?_; clear ha a; intro a ha; refine op_g ha rfl (g_load0 hE165 Tryd.isAgg2 rfl hat342.one) ?_; clear ha a; intro a ha; obtain ⟨x346, g347, gx348, hF⟩ := idx_some hF
        obtain ⟨p349, cs350, f351, hf352, hpb353, hat354, hr355, hi356⟩ := ha2.at g347 gx348
        obtain ⟨rfl, rfl⟩ := hr355
        refine op_g ha rfl (hi356.gives sl45 rfl rfl) ?_; clear ha a; intro a ha; refine op_g ha rfl (g_load0 hE165 Tryd.isAgg4 rfl hat354.one) ?_; clear ha a; intro a ha; refine op_g ha rfl (g_not rfl) ?_; clear ha a; intro a ha; refine wpList_nil ?_; replace ha := ha.sub (σ' := [(1, (.int .i64 a1)), (2, va2), (3, (.pointer (some ⟨b1, 0, none⟩))), (7, v159), (8, (.int .i64 i161)), (31, (.bool (!x346)))]) ⟨rfl, rfl, rfl, rfl, rfl, rfl, trivial⟩; refine e_then ?_; refine c_cond (¬ (x346 = true)) ha rfl (n_iff (Iff.rfl)) (fun hp357 => ?_) (fun hp357 => ?_)
        · replace hF := if_t hp357 hF
          refine wp_region_lit ?_; refine op_g ha rfl (g_move rfl) ?_; clear ha a; intro a ha; refine op_g ha rfl (g_field0 st31_0 rfl) ?_; clear ha a; intro a ha; refine op_g ha rfl (g_load Tryd.isAgg22 rfl (hB153.cell rfl)) ?_; clear ha a; intro a ha; refine op_g ha rfl (g_move rfl) ?_; clear ha a; intro a ha; obtain ⟨x358, g359, gx360, hF⟩ := idx_some hF
          obtain ⟨p361, cs362, f363, hf364, hpb365, hat366, hr367, hi368⟩ := ha0_0.at g359 gx360
          obtain ⟨v369, rfl, h370⟩ := hr367
          have h370 : Ro Rp.int W f363 v369 x358 := h370
          refine op_g ha rfl (hi368.gives sl22 rfl rfl) ?_; clear ha a; intro a ha; refine op_g ha rfl (g_load0 hE165 Tryd.isAgg29 rfl hat366.one) ?_; clear ha a; intro a ha; refine op_g ha rfl (g_move rfl) ?_; clear ha a; intro a ha; obtain ⟨x372, g373, gx374, hF⟩ := idx_some hF
          obtain ⟨p375, cs376, f377, hf378, hpb379, hat380, hr381, hi382⟩ := h370.at g373 gx374
          obtain ⟨rfl, hI383, rfl⟩ := hr381
          refine op_g ha rfl (hi382.gives sl29 rfl rfl) ?_; clear ha a; intro a ha; refine op_g ha rfl (g_load0 hE165 Tryd.isAgg2 rfl hat380.one) ?_; clear ha a; intro a ha
          refine o_lit1 (o := true) (y := x372) Rp.int ha rfl sl29 rfl rfl rfl ⟨rfl, hI383, rfl⟩ ?_; clear ha a; intro v384 w385 h386 hx387 a ha
          obtain ⟨b389, hb389⟩ : ∃ b : Int, b = w152.heap.size := ⟨_, rfl⟩; rw [← hb389] at h386
          have q390 := zn_of hb389
          have q391 := Nq.new hB153.fpb q390
          have q392 := Nq.madeO q390 hB153.bi
          have q393 := Nq.new h156.fpb q390
          have q394 := Nq.madeO q390 h156.blt
          have q395 := Zn.upD q390 hE165
          replace hB153 := hB153.ext hx387
          replace h156 := h156.ext hx387
          have hE396 := Ext.trans hE165 hx387
          obtain ⟨hl397, hF⟩ := app_some hF
          refine o_append ha rfl sl29 rfl rfl rfl h156 h386.src (Nq.nil _) hl397 ?_; clear ha a; intro v398 w399 b400 h401 hc402 hb403 a ha
          replace h401 : Ow Rp.int 2 true w399 [] b400 v398 _ := h401
          have q405 := Nq.appY q163 hB153.fpb hb403
          have q406 := Nq.appX q164 (Nq.nil _) hb403 hB153.bi
          have q407 := Nq.appY q394 h386.fpb hb403
          have q408 := Nq.appX q393 (Nq.nil _) hb403 h386.blt
          have q409 := Zn.appD z157 hb403 hE396
          replace hB153 := hB153.nq hc402 q163
          replace h386 := h386.nq hc402 q394
          have hE410 := Ext.then hE396 hc402 (Zn.bl z157)
          refine op_g ha rfl (g_assign rfl) ?_; clear ha a; intro a ha; refine wpList_nil ?_; replace ha := ha.sub (σ' := [(1, (.int .i64 a1)), (2, va2), (3, (.pointer (some ⟨b1, 0, none⟩))), (7, v398), (8, (.int .i64 i161))]) ⟨rfl, rfl, rfl, rfl, rfl, trivial⟩; refine e_blk ?_; refine e_then ?_; refine wp_region_lit ?_; refine op_g ha rfl (g_move rfl) ?_; clear ha a; intro a ha; obtain ⟨hI411, hF⟩ := ck_some hF; refine op_g ha rfl (g_add rfl rfl hI411) ?_; clear ha a; intro a ha; refine op_g ha rfl (g_assign rfl) ?_; clear ha a; intro a ha; refine wpList_nil ?_; replace ha := ha.sub (σ' := [(1, (.int .i64 a1)), (2, va2), (3, (.pointer (some ⟨b1, 0, none⟩))), (7, v398), (8, (.int .i64 (i161 + 1)))]) ⟨rfl, rfl, rfl, rfl, rfl, trivial⟩
          refine e_lq ?_; obtain rfl := Option.some.inj hF
          exact ⟨_, Nat.lt_succ_self _, (l158 ++ ([x372])), i161 + 1, v398, b400, ha.sub ⟨rfl, rfl, rfl, rfl, rfl, trivial⟩, hE410, hI411, hB153, z154, h401, q409, q405, q406, hN302⟩
        replace hF := if_f hp357 hF; refine wp_skip ?_; refine e_blk ?_; refine e_then ?_; refine wp_region_lit ?_; refine op_g ha rfl (g_move rfl) ?_; clear ha a; intro a ha; obtain ⟨hI413, hF⟩ := ck_some hF; refine op_g ha rfl (g_add rfl rfl hI413) ?_; clear ha a; intro a ha; refine op_g ha rfl (g_assign rfl) ?_; clear ha a; intro a ha; refine wpList_nil ?_; replace ha := ha.sub (σ' := [(1, (.int .i64 a1)), (2, va2), (3, (.pointer (some ⟨b1, 0, none⟩))), (7, v159), (8, (.int .i64 (i161 + 1)))]) ⟨rfl, rfl, rfl, rfl, rfl, trivial⟩; refine e_lq ?_; obtain rfl := Option.some.inj hF
        exact ⟨_, Nat.lt_succ_self _, l158, i161 + 1, v159, b160, ha.sub ⟨rfl, rfl, rfl, rfl, rfl, trivial⟩, hE165, hI413, hB153, z154, h156, z157, q163, q164, hN302⟩
      replace hF := if_f hp319 hF; refine wp_exit ?_; refine e_then_exit ?_; refine e_lq_eq ?_; obtain rfl := Option.some.inj hF
      exact ⟨l158, v159, b160, ha.sub ⟨rfl, trivial⟩, hE165, h156, z157, (LK_inr hN302).symm⟩
  rintro a w289 ⟨l293, v294, b295, ha, hE301, h291, z292, rfl⟩
  have hF : F_spec_l7Left_k2 l293 = some _ := hK298; clear hK298; unfold F_spec_l7Left_k2 at hF
  refine e_then ?_; refine wp_seq ?_; refine wp_region_lit ?_; refine op_g ha rfl (g_move rfl) ?_; clear ha a; intro a ha; refine op_g ha rfl (g_assign rfl) ?_; clear ha a; intro a ha; refine wpList_nil ?_; replace ha := ha.sub (σ' := [(6, v294)]) ⟨rfl, trivial⟩; refine e_then ?_; refine wp_ret ?_; obtain rfl := Option.some.inj hF
  exact f_ret1 ha rfl rfl ⟨_, h291, z292, hE301⟩
set_option maxHeartbeats 2000000 in
theorem W_spec_l1Link {W : World} {va0_0 : Value} {ba0_0 : Int} {fa0_0 : List Nat} {a0_0 : (List (List Int))} (ha0_0 : Ow (Rp.sl 2 Rp.int) 29 true W fa0_0 ba0_0 va0_0 a0_0) (nda0_0 : (bl ba0_0 ++ fa0_0).Nodup) {a1 : Int} (ha1 : InI a1) {a2 : Int} (ha2 : InI a2) {r : (List (List Int))} (hF : F_spec_l1Link a0_0 a1 a2 = some r) :
    Calls Tryd.prog 47 [.agg #[va0_0], .int .i64 a1, .int .i64 a2].toArray W (Ret fun u w' => ∃ (g_a0_0 : List Nat), u = .agg #[va0_0] ∧ Ow (Rp.sl 2 Rp.int) 29 true w' g_a0_0 ba0_0 va0_0 r ∧ Pv fa0_0 W.heap.size g_a0_0 ∧ (bl ba0_0 ++ g_a0_0).Nodup ∧ Chg (bl ba0_0) W w') := by
  refine f_enter Tryd.func47 rfl Tryd.ntmps47 rfl ?_
  intro a ha
  replace ha : Fr 30 [(0, (.agg #[va0_0])), (1, (.int .i64 a1)), (2, (.int .i64 a2))] a := ha
  have hE : Chg (bl ba0_0) W W := Chg.refl _ _
  unfold F_spec_l1Link at hF
  refine wp_seq ?_; refine wp_region_lit ?_
  refine o_box ha rfl rfl rfl ?_; clear ha a; intro b1 w2 hB3 hx4 hlo5 a ha
  have q6 := Zn.one hlo5
  have q7 := Nq.new ha0_0.fpb q6
  have q8 := Nq.made1 hlo5 ha0_0.blt
  have q9 := Zn.upD q6 hE
  replace ha0_0 := ha0_0.ext hx4
  have hE10 := Chg.more hE hx4
  refine o_alloc (cs := [(.slice none 0 0)]) ha rfl Tryd.zeroValue31 rfl ?_; clear ha a; intro b11 w12 hB13 hx14 hlo15 a ha
  have q16 := Zn.one hlo15
  have q17 := Nq.new ha0_0.fpb q16
  have q18 := Nq.made1 hlo15 ha0_0.blt
  have q19 := Nq.new hB3.fpb q16
  have q20 := Nq.made1 hlo15 hB3.bi
  have q21 := Zn.upD q16 hE10
  replace ha0_0 := ha0_0.ext hx14
  replace hB3 := hB3.ext hx14
  have hE22 := Chg.more hE10 hx14
  refine wpList_nil ?_; replace ha := ha.sub (σ' := [(1, (.int .i64 a1)), (2, (.int .i64 a2)), (3, (.pointer (some ⟨b1, 0, none⟩))), (6, (.pointer (some ⟨b11, 0, none⟩)))]) ⟨rfl, rfl, rfl, rfl, trivial⟩; refine e_then ?_; refine wp_seq ?_; refine d_region [0, 1, 2, 3, 4, 5, 6, 7, 8, 9, 10] hmix ?_; refine u_g 0 rfl (by kernel_rfl) (want0 _) ha rfl (g_field0 st31_0 rfl) ?_; clear ha a; intro a ha; refine u_g 1 rfl (by kernel_rfl) (want0 _) ha rfl (g_load Tryd.isAgg22 rfl (hB3.cell rfl)) ?_; clear ha a; intro a ha; refine u_g 2 rfl (by kernel_rfl) (want0 _) ha rfl (g_move rfl) ?_; clear ha a; intro a ha
  refine u_g 3 rfl (by kernel_rfl) (want0 _) ha rfl (g_field0 st31_0 rfl) ?_; clear ha a; intro a ha; refine u_g 4 rfl (by kernel_rfl) (want0 _) ha rfl (g_load Tryd.isAgg22 rfl (hB3.cell rfl)) ?_; clear ha a; intro a ha; refine u_g 5 rfl (by kernel_rfl) (want0 _) ha rfl (g_move rfl) ?_; clear ha a; intro a ha; obtain ⟨x23, g24, gx25, hF⟩ := idx_some hF
  obtain ⟨p26, cs27, f28, hf29, hpb30, hat31, hr32, hi33⟩ := ha0_0.at g24 gx25
  have blt26 : p26.block < w12.heap.size := by have := ha0_0.blt; omega
  replace hr32 := (Rp.sl 2 Rp.int).weak hr32
  obtain ⟨v34, rfl, h35⟩ := hr32
  have h35 : Ro Rp.int w12 f28 v34 x23 := h35
  have q37 := (Pv.mono (Pv.par (fun _ h => h)) hf29 : Pv (fa0_0) W.heap.size f28)
  have q38 := Nq.mono q7 (fun k hk => List.mem_append_right (bl ba0_0) (hf29 k hk))
  have q39 := Nq.mono q17 (fun k hk => List.mem_append_right (bl ba0_0) (hf29 k hk))
  have q40 := Nq.mono (Ow.ne ha0_0) hf29
  refine u_g 6 rfl (by kernel_rfl) (want0 _) ha rfl (hi33.gives sl22 rfl rfl) ?_; clear ha a; intro a ha; refine u_g 7 rfl (by kernel_rfl) (want0 _) ha rfl (g_load Tryd.isAgg29 rfl hat31.one) ?_; clear ha a; intro a ha; refine u_g 8 rfl (by kernel_rfl) (want0 _) ha rfl (g_move rfl) ?_; clear ha a; intro a ha
  refine u_only 9 rfl (by kernel_rfl) ?_; intro w41 hx42
  replace ha0_0 := ha0_0.ext hx42
  replace hB3 := hB3.ext hx42
  replace hB13 := hB13.ext hx42
  replace h35 := h35.ext hx42
  have hE43 := Chg.more hE22 hx42
  obtain ⟨x44, hc45, hF⟩ := cal_some hF
  have fpb41 := ha0_0.fpb; have lt1 := hB3.bi; have lt11 := hB13.bi; have sz41 := hE43.size
  refine o_call ha rfl rfl Tryd.call22 (W_spec_l1Into h35 ha2 hc45) ?_; clear ha a; rintro v46 w47 ⟨fp49, h50, pv51, af51, hx48⟩ a ha
  have q53 := Nq.rd pv51 q40 ha0_0.blt
  have q54 := Nq.rd pv51 q38 hB3.bi
  have q55 := Nq.rd pv51 q39 hB13.bi
  have q56 := (Pv.call pv51 (q37) hE43.size : Pv (fa0_0) W.heap.size fp49)
  replace ha0_0 := ha0_0.ext hx48
  replace hB3 := hB3.ext hx48
  replace hB13 := hB13.ext hx48
  replace h35 := h35.ext hx48
  have hE57 := Chg.more hE43 hx48
  refine wpList_nil (e_sq ?_)
  refine ⟨fun _ => hx48, ?_⟩
  obtain ⟨x58, g59, gx60, hF⟩ := idx_some hF
  obtain ⟨p61, cs62, f63, hf64, hpb65, hat66, hr67, hi68⟩ := ha0_0.at g59 gx60
  have blt61 : p61.block < w47.heap.size := by have := ha0_0.blt; omega
  replace hr67 := (Rp.sl 2 Rp.int).weak hr67
  obtain ⟨v69, rfl, h70⟩ := hr67
  have h70 : Ro Rp.int w47 f63 v69 x58 := h70
  have q72 := (Pv.mono (Pv.par (fun _ h => h)) hf64 : Pv (fa0_0) W.heap.size f63)
  have q73 := Nq.mono q7 (fun k hk => List.mem_append_right (bl ba0_0) (hf64 k hk))
  have q74 := Nq.mono q17 (fun k hk => List.mem_append_right (bl ba0_0) (hf64 k hk))
  have q75 := Nq.mono (Ow.ne ha0_0) hf64
  refine u_g 10 rfl (by kernel_rfl) (want0 _) ha rfl (hi68.gives sl22 rfl rfl) ?_; clear ha a; intro a ha
  refine u_only 11 rfl (by kernel_rfl) ?_; intro w76 hx77
  replace ha0_0 := ha0_0.ext hx77
  replace hB3 := hB3.ext hx77
  replace hB13 := hB13.ext hx77
  replace h35 := h35.ext hx77
  replace h50 := h50.ext hx77
  replace h70 := h70.ext hx77
  have hE78 := Chg.more hE57 hx77
  have haf : (v46 = v69 ∧ x44 = x58) ∨ ∃ b' : Int, Ow Rp.int 2 true w76 [] b' v46 x44 ∧ Nq (bl ba0_0 ++ fa0_0) b' ∧ (b' < 0 ∨ (w41.heap.size : Int) ≤ b') := by
    rcases af51 with ⟨e1, e2⟩ | ⟨b', hO, hz⟩
    · exact .inl ⟨e1.trans (atSame hat31 hi33 hat66 hi68 (Ext.trans hx42 hx48) blt26), e2.trans (Option.some.inj (gx25.symm.trans gx60))⟩
    exact .inr ⟨b', hO.ext hx77, Nq.new fpb41 hz, hz⟩
  refine o_storeAF (n0 := w41.heap.size) ha Tryd.sizeOf29 rfl rfl h50.cells ha0_0 hi68 (hat66.keepE hx77 blt61) gx60 nda0_0 haf ?_; intro w79 fs80 h81 hc82 hs83 nd83
  have q84 := Nq.grow hs83 q7 lt1
  have q85 := Nq.grow hs83 q17 lt11
  have q86 : Pv (fa0_0) W.heap.size fs80 := fun k hk => (hs83 k hk).imp id fun h => Nat.le_trans sz41 h
  replace hB3 := hB3.nq hc82 q8
  replace hB13 := hB13.nq hc82 q18
  have hE87 := Chg.same hE78 hc82
  refine wpList_nil (e_sq ?_)
  refine ⟨fun h => absurd h (by decide), ?_⟩
  refine u_done (by kernel_rfl) ?_; intro w88 hx89
  replace h81 := h81.ext hx89
  replace hB3 := hB3.ext hx89
  replace hB13 := hB13.ext hx89
  have hE90 := Chg.more hE87 hx89
  replace ha := ha.sub (σ' := [(1, (.int .i64 a1)), (2, (.int .i64 a2)), (3, (.pointer (some ⟨b1, 0, none⟩))), (6, (.pointer (some ⟨b11, 0, none⟩)))]) ⟨rfl, rfl, rfl, rfl, trivial⟩; refine e_then ?_; refine wp_seq ?_; refine d_region [0, 1, 2, 3, 4, 5, 6, 7, 8, 9, 10] hmix ?_; refine u_g 0 rfl (by kernel_rfl) (want0 _) ha rfl (g_field0 st31_0 rfl) ?_; clear ha a; intro a ha; refine u_g 1 rfl (by kernel_rfl) (want0 _) ha rfl (g_load Tryd.isAgg22 rfl (hB3.cell rfl)) ?_; clear ha a; intro a ha; refine u_g 2 rfl (by kernel_rfl) (want0 _) ha rfl (g_move rfl) ?_; clear ha a; intro a ha; refine u_g 3 rfl (by kernel_rfl) (want0 _) ha rfl (g_field0 st31_0 rfl) ?_; clear ha a; intro a ha
  refine u_g 4 rfl (by kernel_rfl) (want0 _) ha rfl (g_load Tryd.isAgg22 rfl (hB3.cell rfl)) ?_; clear ha a; intro a ha; refine u_g 5 rfl (by kernel_rfl) (want0 _) ha rfl (g_move rfl) ?_; clear ha a; intro a ha; obtain ⟨x91, g92, gx93, hF⟩ := idx_some hF
  obtain ⟨p94, cs95, f96, hf97, hpb98, hat99, hr100, hi101⟩ := h81.at g92 gx93
  have blt94 : p94.block < w88.heap.size := by have := h81.blt; omega
  replace hr100 := (Rp.sl 2 Rp.int).weak hr100
  obtain ⟨v102, rfl, h103⟩ := hr100
  have h103 : Ro Rp.int w88 f96 v102 x91 := h103
  have q105 := (Pv.mono (q86) hf97 : Pv (fa0_0) W.heap.size f96)
  have q106 := Nq.mono q84 (fun k hk => List.mem_append_right (bl ba0_0) (hf97 k hk))
  have q107 := Nq.mono q85 (fun k hk => List.mem_append_right (bl ba0_0) (hf97 k hk))
  have q108 := Nq.mono (Ow.ne h81) hf97
  refine u_g 6 rfl (by kernel_rfl) (want0 _) ha rfl (hi101.gives sl22 rfl rfl) ?_; clear ha a; intro a ha; refine u_g 7 rfl (by kernel_rfl) (want0 _) ha rfl (g_load Tryd.isAgg29 rfl hat99.one) ?_; clear ha a; intro a ha; refine u_g 8 rfl (by kernel_rfl) (want0 _) ha rfl (g_move rfl) ?_; clear ha a; intro a ha
  refine u_only 9 rfl (by kernel_rfl) ?_; intro w109 hx110
  replace h81 := h81.ext hx110
  replace hB3 := hB3.ext hx110
  replace hB13 := hB13.ext hx110
  replace h103 := h103.ext hx110
  have hE111 := Chg.more hE90 hx110
  obtain ⟨x112, hc113, hF⟩ := cal_some hF
  have fpb109 := h81.fpb; have lt1b := hB3.bi; have lt11b := hB13.bi; have sz109 := hE111.size
  refine o_call ha rfl rfl Tryd.call22 (W_spec_l1Into h103 ha1 hc113) ?_; clear ha a; rintro v114 w115 ⟨fp117, h118, pv119, af119, hx116⟩ a ha
  have q121 := Nq.rd pv119 q108 h81.blt
  have q122 := Nq.rd pv119 q106 hB3.bi
  have q123 := Nq.rd pv119 q107 hB13.bi
  have q124 := (Pv.call pv119 (q105) hE111.size : Pv (fa0_0) W.heap.size fp117)
  replace h81 := h81.ext hx116
  replace hB3 := hB3.ext hx116
  replace hB13 := hB13.ext hx116
  replace h103 := h103.ext hx116
  have hE125 := Chg.more hE111 hx116
  refine wpList_nil (e_sq ?_)
  refine ⟨fun _ => hx116, ?_⟩
  obtain ⟨x126, g127, gx128, hF⟩ := idx_some hF
  obtain ⟨p129, cs130, f131, hf132, hpb133, hat134, hr135, hi136⟩ := h81.at g127 gx128
  have blt129 : p129.block < w115.heap.size := by have := h81.blt; omega
  replace hr135 := (Rp.sl 2 Rp.int).weak hr135
  obtain ⟨v137, rfl, h138⟩ := hr135
  have h138 : Ro Rp.int w115 f131 v137 x126 := h138
  have q140 := (Pv.mono (q86) hf132 : Pv (fa0_0) W.heap.size f131)
  have q141 := Nq.mono q84 (fun k hk => List.mem_append_right (bl ba0_0) (hf132 k hk))
  have q142 := Nq.mono q85 (fun k hk => List.mem_append_right (bl ba0_0) (hf132 k hk))
  have q143 := Nq.mono (Ow.ne h81) hf132
  refine u_g 10 rfl (by kernel_rfl) (want0 _) ha rfl (hi136.gives sl22 rfl rfl) ?_; clear ha a; intro a ha
  refine u_only 11 rfl (by kernel_rfl) ?_; intro w144 hx145
  replace h81 := h81.ext hx145
  replace hB3 := hB3.ext hx145
  replace hB13 := hB13.ext hx145
  replace h103 := h103.ext hx145
  replace h118 := h118.ext hx145
  replace h138 := h138.ext hx145
  have hE146 := Chg.more hE125 hx145
  have haf2 : (v114 = v137 ∧ x112 = x126) ∨ ∃ b' : Int, Ow Rp.int 2 true w144 [] b' v114 x112 ∧ Nq (bl ba0_0 ++ fs80) b' ∧ (b' < 0 ∨ (w109.heap.size : Int) ≤ b') := by
    rcases af119 with ⟨e1, e2⟩ | ⟨b', hO, hz⟩
    · exact .inl ⟨e1.trans (atSame hat99 hi101 hat134 hi136 (Ext.trans hx110 hx116) blt94), e2.trans (Option.some.inj (gx93.symm.trans gx128))⟩
    exact .inr ⟨b', hO.ext hx145, Nq.new fpb109 hz, hz⟩
  refine o_storeAF (n0 := w109.heap.size) ha Tryd.sizeOf29 rfl rfl h118.cells h81 hi136 (hat134.keepE hx145 blt129) gx128 nd83 haf2 ?_; intro w147 fs148 h149 hc150 hs151 nd151
  have q152 := Nq.grow hs151 q84 lt1b
  have q153 := Nq.grow hs151 q85 lt11b
  have q154 : Pv (fa0_0) W.heap.size fs148 := fun k hk => (hs151 k hk).elim (fun h => q86 k h) fun h => .inr (Nat.le_trans sz109 h)
  replace hB3 := hB3.nq hc150 q8
  replace hB13 := hB13.nq hc150 q18
  have hE155 := Chg.same hE146 hc150
  refine wpList_nil (e_sq ?_)
  refine ⟨fun h => absurd h (by decide), ?_⟩
  refine u_done (by kernel_rfl) ?_; intro w156 hx157
  replace h149 := h149.ext hx157
  replace hB3 := hB3.ext hx157
  replace hB13 := hB13.ext hx157
  have hE158 := Chg.more hE155 hx157
  replace ha := ha.sub (σ' := [(3, (.pointer (some ⟨b1, 0, none⟩))), (6, (.pointer (some ⟨b11, 0, none⟩)))]) ⟨rfl, rfl, trivial⟩; refine e_then ?_; refine wp_seq ?_; refine wp_region_lit ?_; refine op_g ha rfl (g_loadA (cs := [va0_0]) Tryd.isAgg31 Tryd.sizeOf31 rfl (by simp) hB3.all) ?_; clear ha a; intro a ha
  refine o_storeA (vs := [va0_0]) ha hB13 Tryd.sizeOf31 rfl rfl (by intro c hc; simp only [List.mem_cons, List.not_mem_nil, or_false] at hc; rcases hc with hc <;> subst hc <;> first | rfl | exact h149.oneC) rfl ?_; intro w159 hB160 hc161
  replace hc161 := hc161.bl
  replace hB160 : Bx w159 b11 [va0_0] 31 := hB160
  replace h149 := h149.nq hc161 q153
  replace hB3 := hB3.nq hc161 q19
  have hE162 := Chg.own hE158 hc161 (Zn.bl q21)
  refine wpList_nil ?_; replace ha := ha.sub (σ' := [(6, (.pointer (some ⟨b11, 0, none⟩)))]) ⟨rfl, trivial⟩; refine e_then ?_; refine wp_ret ?_; obtain rfl := Option.some.inj hF
  exact f_retC (cs := [va0_0]) ha rfl rfl Tryd.isAgg31 Tryd.sizeOf31 hB160 ⟨_, rfl, h149, (q154), nd151, hE162⟩

set_option maxHeartbeats 2000000 in
theorem W_spec_l7Clique {W : World} {va0_0 : Value} {ba0_0 : Int} {fa0_0 : List Nat} {a0_0 : (List (List Int))} (ha0_0 : Ow (Rp.sl 2 Rp.int) 29 true W fa0_0 ba0_0 va0_0 a0_0) (nda0_0 : (bl ba0_0 ++ fa0_0).Nodup) {va1 : Value} {fa1 : List Nat} {a1 : (List Int)} (ha1 : Ro Rp.int W fa1 va1 a1) (qa1 : Nq fa1 ba0_0) {r : (List (List Int))} (hF : F_spec_l7Clique a0_0 a1 = some r) :
    Calls Tryd.prog 24 [.agg #[va0_0], va1].toArray W (Ret fun u w' => ∃ (g_a0_0 : List Nat), u = .agg #[va0_0] ∧ Ow (Rp.sl 2 Rp.int) 29 true w' g_a0_0 ba0_0 va0_0 r ∧ Pv fa0_0 W.heap.size g_a0_0 ∧ (bl ba0_0 ++ g_a0_0).Nodup ∧ Chg (bl ba0_0) W w') := by
  refine f_enter Tryd.func24 rfl Tryd.ntmps24 rfl ?_
  intro a ha
  replace ha : Fr 29 [(0, (.agg #[va0_0])), (1, va1)] a := ha
  have hE : Chg (bl ba0_0) W W := Chg.refl _ _
  unfold F_spec_l7Clique at hF
  refine wp_seq ?_; refine wp_region_lit ?_
  refine o_box ha rfl rfl rfl ?_; clear ha a; intro b1 w2 hB3 hx4 hlo5 a ha
  have q6 := Zn.one hlo5
  have q7 := Nq.new ha0_0.fpb q6
  have q8 := Nq.made1 hlo5 ha0_0.blt
  have q9 := Nq.new ha1.bnd q6
  have q10 := Zn.upD q6 hE
  replace ha0_0 := ha0_0.ext hx4
  replace ha1 := ha1.ext hx4
  have hE11 := Chg.more hE hx4
  refine o_alloc (cs := [(.slice none 0 0)]) ha rfl Tryd.zeroValue31 rfl ?_; clear ha a; intro b12 w13 hB14 hx15 hlo16 a ha
  have q17 := Zn.one hlo16
  have q18 := Nq.new ha0_0.fpb q17
  have q19 := Nq.made1 hlo16 ha0_0.blt
  have q20 := Nq.new ha1.bnd q17
  have q21 := Nq.new hB3.fpb q17
  have q22 := Nq.made1 hlo16 hB3.bi
  have q23 := Zn.upD q17 hE11
  replace ha0_0 := ha0_0.ext hx15
  replace ha1 := ha1.ext hx15
  replace hB3 := hB3.ext hx15
  have hE24 := Chg.more hE11 hx15
  refine wpList_nil ?_; replace ha := ha.sub (σ' := [(1, va1), (2, (.pointer (some ⟨b1, 0, none⟩))), (4, (.pointer (some ⟨b12, 0, none⟩)))]) ⟨rfl, rfl, rfl, trivial⟩; refine e_then ?_; refine wp_seq ?_; refine wp_seq ?_; refine wp_region_lit ?_; refine op_g ha rfl (g_assign rfl) ?_; clear ha a; intro a ha; refine wpList_nil ?_; replace ha := ha.sub (σ' := [(1, va1), (2, (.pointer (some ⟨b1, 0, none⟩))), (4, (.pointer (some ⟨b12, 0, none⟩))), (5, (.int .i64 0))]) ⟨rfl, rfl, rfl, rfl, trivial⟩; refine e_then ?_; obtain ⟨o728, ho729, hK730⟩ := bnd_some hF
  obtain ⟨n731, hn732⟩ := lp_some ho729; clear ho729
  refine c_loop (fun a w => ∃ (l717 : (List (List Int))) (fs714 : List Nat), Fr 29 [(2, (.pointer (some ⟨b1, 0, none⟩))), (4, (.pointer (some ⟨b12, 0, none⟩)))] a ∧ Chg (bl ba0_0) W w ∧ Bx w b1 [va0_0] 31 ∧ Zn W (b1 : Int) ∧ Ow (Rp.sl 2 Rp.int) 29 true w fs714 ba0_0 va0_0 l717 ∧ Pv fa0_0 W.heap.size fs714 ∧ (bl ba0_0 ++ fs714).Nodup ∧ Bx w b12 [(.slice none 0 0)] 31 ∧ Zn W (b12 : Int) ∧ Nq ([b1]) ba0_0 ∧ Nq ([b1]) (b12 : Int) ∧ Nq (bl ba0_0 ++ fs714) (b1 : Int) ∧ Nq (bl ba0_0 ++ fs714) (b12 : Int) ∧ Nq ([b12]) (b1 : Int) ∧ Nq ([b12]) ba0_0 ∧ o728 = .inl l717) (fun n a w => ∃ (l374 : (List (List Int))) (i379 : Int) (fs371 : List Nat), Fr 29 [(1, va1), (2, (.pointer (some ⟨b1, 0, none⟩))), (4, (.pointer (some ⟨b12, 0, none⟩))), (5, (.int .i64 i379))] a ∧ Chg (bl ba0_0) W w ∧ InI i379 ∧ Ro Rp.int w fa1 va1 a1 ∧ Bx w b1 [va0_0] 31 ∧ Zn W (b1 : Int) ∧ Ow (Rp.sl 2 Rp.int) 29 true w fs371 ba0_0 va0_0 l374 ∧ Pv fa0_0 W.heap.size fs371 ∧ (bl ba0_0 ++ fs371).Nodup ∧ Bx w b12 [(.slice none 0 0)] 31 ∧ Zn W (b12 : Int) ∧ Nq (fa1) (b1 : Int) ∧ Nq (fa1) ba0_0 ∧ Nq (fa1) (b12 : Int) ∧ Nq ([b1]) ba0_0 ∧ Nq ([b1]) (b12 : Int) ∧ Nq (bl ba0_0 ++ fs371) (b1 : Int) ∧ Nq (bl ba0_0 ++ fs371) (b12 : Int) ∧ Nq ([b12]) (b1 : Int) ∧ Nq ([b12]) ba0_0 ∧ lpN (fun s => F_spec_l7Clique_l1 a1 s.1 s.2) n (l374, i379) = some o728) n731 ⟨a0_0, 0, fa0_0, ha.sub ⟨rfl, rfl, rfl, rfl, trivial⟩, hE24, (show InI 0 from by decide), ha1, hB3, q10, ha0_0, (Pv.par (fun _ h => h)), nda0_0, hB14, q23, q9, qa1, q20, q8, q21, q7, q18, q22, q19, hn732⟩ ?_ ?_
  · rintro m736 a w365 ⟨l374, i379, fs371, ha, hE390, hI380, h367, hB368, z369, h370, pv372, nd373, hB377, z378, q381, q382, q383, q384, q385, q386, q387, q388, q389, hF⟩
    cases m736 with
    | zero => exact (lpN_zero hF).elim
    | succ m736 =>
      obtain ⟨z735, hF, hN734⟩ := lpN_succ hF
      have hF : F_spec_l7Clique_l1 a1 l374 i379 = some z735 := hF; unfold F_spec_l7Clique_l1 at hF
      refine wp_seq ?_; refine wp_seq ?_; refine wp_region_lit ?_; (iterate 2 refine op_g ha rfl (g_move rfl) ?_; clear ha a; intro a ha); refine op_g ha rfl (g_lenR sl29.und h367 rfl) ?_; clear ha a; intro a ha; refine op_g ha rfl (g_lss rfl rfl) ?_; clear ha a; intro a ha; refine wpList_nil ?_; replace ha := ha.sub (σ' := [(1, va1), (2, (.pointer (some ⟨b1, 0, none⟩))), (4, (.pointer (some ⟨b12, 0, none⟩))), (5, (.int .i64 i379)), (10, (.bool (decide (i379 < (a1.length : Int)))))]) ⟨rfl, rfl, rfl, rfl, rfl, trivial⟩; refine e_then ?_; refine c_cond (i379 < (a1.length : Int)) ha rfl (decide_eq_true_iff) (fun hp737 => ?_) (fun hp737 => ?_)
      · replace hF := if_t hp737 hF
        refine wp_skip ?_; refine e_then ?_; refine wp_seq ?_; refine wp_block ?_; refine wp_seq ?_; refine wp_region_lit ?_; refine op_g ha rfl (g_assign rfl) ?_; clear ha a; intro a ha; refine wpList_nil ?_; replace ha := ha.sub (σ' := [(1, va1), (2, (.pointer (some ⟨b1, 0, none⟩))), (4, (.pointer (some ⟨b12, 0, none⟩))), (5, (.int .i64 i379)), (6, (.int .i64 0))]) ⟨rfl, rfl, rfl, rfl, rfl, trivial⟩; refine e_then ?_; obtain ⟨o966, ho967, hK968⟩ := bnd_some hF
        obtain ⟨n969, hn970⟩ := lp_some ho967; clear ho967
        refine c_loop (fun a w => ∃ (l952 : (List (List Int))) (fs949 : List Nat), Fr 29 [(1, va1), (2, (.pointer (some ⟨b1, 0, none⟩))), (4, (.pointer (some ⟨b12, 0, none⟩))), (5, (.int .i64 i379))] a ∧ Chg (bl ba0_0) W w ∧ Ro Rp.int w fa1 va1 a1 ∧ Bx w b1 [va0_0] 31 ∧ Zn W (b1 : Int) ∧ Ow (Rp.sl 2 Rp.int) 29 true w fs949 ba0_0 va0_0 l952 ∧ Pv fa0_0 W.heap.size fs949 ∧ (bl ba0_0 ++ fs949).Nodup ∧ Bx w b12 [(.slice none 0 0)] 31 ∧ Zn W (b12 : Int) ∧ Nq (fa1) (b1 : Int) ∧ Nq (fa1) ba0_0 ∧ Nq (fa1) (b12 : Int) ∧ Nq ([b1]) ba0_0 ∧ Nq ([b1]) (b12 : Int) ∧ Nq (bl ba0_0 ++ fs949) (b1 : Int) ∧ Nq (bl ba0_0 ++ fs949) (b12 : Int) ∧ Nq ([b12]) (b1 : Int) ∧ Nq ([b12]) ba0_0 ∧ o966 = .inl l952) (fun n a w => ∃ (l847 : (List (List Int))) (i852 : Int) (fs844 : List Nat), Fr 29 [(1, va1), (2, (.pointer (some ⟨b1, 0, none⟩))), (4, (.pointer (some ⟨b12, 0, none⟩))), (5, (.int .i64 i379)), (6, (.int .i64 i852))] a ∧ Chg (bl ba0_0) W w ∧ InI i852 ∧ Ro Rp.int w fa1 va1 a1 ∧ Bx w b1 [va0_0] 31 ∧ Zn W (b1 : Int) ∧ Ow (Rp.sl 2 Rp.int) 29 true w fs844 ba0_0 va0_0 l847 ∧ Pv fa0_0 W.heap.size fs844 ∧ (bl ba0_0 ++ fs844).Nodup ∧ Bx w b12 [(.slice none 0 0)] 31 ∧ Zn W (b12 : Int) ∧ Nq (fa1) (b1 : Int) ∧ Nq (fa1) ba0_0 ∧ Nq (fa1) (b12 : Int) ∧ Nq ([b1]) ba0_0 ∧ Nq ([b1]) (b12 : Int) ∧ Nq (bl ba0_0 ++ fs844) (b1 : Int) ∧ Nq (bl ba0_0 ++ fs844) (b12 : Int) ∧ Nq ([b12]) (b1 : Int) ∧ Nq ([b12]) ba0_0 ∧ lpN (fun s => F_spec_l7Clique_l2 a1 i379 s.1 s.2) n (l847, i852) = some o966) n969 ⟨l374, 0, fs371, ha.sub ⟨rfl, rfl, rfl, rfl, rfl, trivial⟩, hE390, (show InI 0 from by decide), h367, hB368, z369, h370, (pv372), nd373, hB377, z378, q381, q382, q383, q384, q385, q386, q387, q388, q389, hn970⟩ ?_ ?_
        · rintro m974 a w838 ⟨l847, i852, fs844, ha, hE863, hI853, h840, hB841, z842, h843, pv845, nd846, hB850, z851, q854, q855, q856, q857, q858, q859, q860, q861, q862, hF⟩
          cases m974 with
          | zero => exact (lpN_zero hF).elim
          | succ m974 =>
            obtain ⟨z973, hF, hN972⟩ := lpN_succ hF
            have hF : F_spec_l7Clique_l2 a1 i379 l847 i852 = some z973 := hF; unfold F_spec_l7Clique_l2 at hF
            refine wp_seq ?_; refine wp_seq ?_; refine wp_region_lit ?_; (iterate 2 refine op_g ha rfl (g_move rfl) ?_; clear ha a; intro a ha); refine op_g ha rfl (g_lss rfl rfl) ?_; clear ha a; intro a ha; refine wpList_nil ?_; replace ha := ha.sub (σ' := [(1, va1), (2, (.pointer (some ⟨b1, 0, none⟩))), (4, (.pointer (some ⟨b12, 0, none⟩))), (5, (.int .i64 i379)), (6, (.int .i64 i852)), (15, (.bool (decide (i852 < i379))))]) ⟨rfl, rfl, rfl, rfl, rfl, rfl, trivial⟩; refine e_then ?_; refine c_cond (i852 < i379) ha rfl (decide_eq_true_iff) (fun hp975 => ?_) (fun hp975 => ?_)
            · replace hF := if_t hp975 hF
              refine wp_skip ?_; refine e_then ?_; refine wp_seq ?_; refine wp_block ?_; refine d_region [0, 1, 2, 3, 4, 5, 6, 7, 8] hmix ?_; refine u_g 0 rfl (by kernel_rfl) (want0 _) ha rfl (g_loadA (cs := [va0_0]) Tryd.isAgg31 Tryd.sizeOf31 rfl (by simp) hB841.all) ?_; clear ha a; intro a ha; refine u_g 1 rfl (by kernel_rfl) (want0 _) ha rfl (g_move rfl) ?_; clear ha a; intro a ha; refine u_g 2 rfl (by kernel_rfl) (want0 _) ha rfl (g_move rfl) ?_; clear ha a; intro a ha; obtain ⟨x976, g977, gx978, hF⟩ := idx_some hF
              obtain ⟨p979, cs980, f981, hf982, hpb983, hat984, hr985, hi986⟩ := h840.at g977 gx978
              obtain ⟨rfl, hI987, rfl⟩ := hr985
              refine u_g 3 rfl (by kernel_rfl) (want0 _) ha rfl (hi986.gives sl29 rfl rfl) ?_; clear ha a; intro a ha; refine u_g 4 rfl (by kernel_rfl) (want0 _) ha rfl (g_load Tryd.isAgg2 rfl hat984.one) ?_; clear ha a; intro a ha; refine u_g 5 rfl (by kernel_rfl) (want0 _) ha rfl (g_move rfl) ?_; clear ha a; intro a ha; refine u_g 6 rfl (by kernel_rfl) (want0 _) ha rfl (g_move rfl) ?_; clear ha a; intro a ha; obtain ⟨x988, g989, gx990, hF⟩ := idx_some hF
              obtain ⟨p991, cs992, f993, hf994, hpb995, hat996, hr997, hi998⟩ := h840.at g989 gx990
              obtain ⟨rfl, hI999, rfl⟩ := hr997
              refine u_g 7 rfl (by kernel_rfl) (want0 _) ha rfl (hi998.gives sl29 rfl rfl) ?_; clear ha a; intro a ha; refine u_g 8 rfl (by kernel_rfl) (want0 _) ha rfl (g_load Tryd.isAgg2 rfl hat996.one) ?_; clear ha a; intro a ha
              refine u_only 9 rfl (by kernel_rfl) ?_; intro w1000 hx1001
              replace h840 := h840.ext hx1001
              replace hB841 := hB841.ext hx1001
              replace h843 := h843.ext hx1001
              replace hB850 := hB850.ext hx1001
              have hE1002 := Chg.more hE863 hx1001
              obtain ⟨x1003, hc1004, hF⟩ := cal_some hF
              refine o_call ha rfl rfl Tryd.call47 (W_spec_l1Link h843 nd846 hI987 hI999 hc1004) ?_; clear ha a; rintro v1005 w1006 ⟨fs1009, rfl, h1008, pv1010, nd1011, hx1007⟩ a ha
              have q1012 := Nq.grow pv1010 q859 hB841.bi
              have q1013 := Nq.grow pv1010 q860 hB850.bi
              have q1014 := Chg.size hE1002
              replace h840 := h840.nq hx1007 q855
              replace hB841 := hB841.nq hx1007 q857
              replace hB850 := hB850.nq hx1007 q862
              have hE1015 := Chg.same hE1002 hx1007
              have q1016 := (Pv.call pv1010 pv845 q1014 : Pv fa0_0 W.heap.size fs1009)
              refine wpList_nil (e_sq ?_)
              refine ⟨fun h => absurd h (by decide), ?_⟩
              refine u_only 10 rfl (by kernel_rfl) ?_; intro w1017 hx1018
              replace h840 := h840.ext hx1018
              replace hB841 := hB841.ext hx1018
              replace h1008 := h1008.ext hx1018
              replace hB850 := hB850.ext hx1018
              have hE1019 := Chg.more hE1015 hx1018
              refine o_storeA (vs := [va0_0]) ha hB841 Tryd.sizeOf31 rfl rfl (by intro c hc; simp only [List.mem_cons, List.not_mem_nil, or_false] at hc; rcases hc with hc <;> subst hc <;> first | rfl | exact h1008.oneC) rfl ?_; intro w1020 hB1021 hc1022
              replace hc1022 := hc1022.bl
              replace hB1021 : Bx w1020 b1 [va0_0] 31 := hB1021
              replace h840 := h840.nq hc1022 q854
              replace h1008 := h1008.nq hc1022 q1012
              replace hB850 := hB850.nq hc1022 q861
              have hE1023 := Chg.own hE1019 hc1022 (Zn.bl z842)
              refine wpList_nil (e_sq ?_)
              refine ⟨fun h => absurd h (by decide), ?_⟩
              refine u_done (by kernel_rfl) ?_; intro w1024 hx1025
              replace h840 := h840.ext hx1025
              replace hB1021 := hB1021.ext hx1025
              replace h1008 := h1008.ext hx1025
              replace hB850 := hB850.ext hx1025
              have hE1026 := Chg.more hE1023 hx1025
              replace ha := ha.sub (σ' := [(1, va1), (2, (.pointer (some ⟨b1, 0, none⟩))), (4, (.pointer (some ⟨b12, 0, none⟩))), (5, (.int .i64 i379)), (6, (.int .i64 i852))]) ⟨rfl, rfl, rfl, rfl, rfl, trivial⟩; refine e_blk ?_; refine e_then ?_; refine wp_region_lit ?_; refine op_g ha rfl (g_move rfl) ?_; clear ha a; intro a ha; obtain ⟨hI1027, hF⟩ := ck_some hF; refine op_g ha rfl (g_add rfl rfl hI1027) ?_; clear ha a; intro a ha; refine op_g ha rfl (g_assign rfl) ?_; clear ha a; intro a ha; refine wpList_nil ?_; replace ha := ha.sub (σ' := [(1, va1), (2, (.pointer (some ⟨b1, 0, none⟩))), (4, (.pointer (some ⟨b12, 0, none⟩))), (5, (.int .i64 i379)), (6, (.int .i64 (i852 + 1)))]) ⟨rfl, rfl, rfl, rfl, rfl, trivial⟩
              refine e_lq ?_; obtain rfl := Option.some.inj hF
              exact ⟨_, Nat.lt_succ_self _, x1003, i852 + 1, fs1009, ha.sub ⟨rfl, rfl, rfl, rfl, rfl, trivial⟩, hE1026, hI1027, h840, hB1021, z842, h1008, (q1016), nd1011, hB850, z851, q854, q855, q856, q857, q858, q1012, q1013, q861, q862, hN972⟩
            replace hF := if_f hp975 hF; refine wp_exit ?_; refine e_then_exit ?_; refine e_lq_eq ?_; obtain rfl := Option.some.inj hF
            exact ⟨l847, fs844, ha.sub ⟨rfl, rfl, rfl, rfl, trivial⟩, hE863, h840, hB841, z842, h843, (pv845), nd846, hB850, z851, q854, q855, q856, q857, q858, q859, q860, q861, q862, (LK_inr hN972).symm⟩
        rintro a w943 ⟨l952, fs949, ha, hE971, h945, hB946, z947, h948, pv950, nd951, hB955, z956, q957, q958, q959, q960, q961, q962, q963, q964, q965, rfl⟩
        have hF : F_spec_l7Clique_k3 i379 l952 = some _ := hK968; clear hK968; unfold F_spec_l7Clique_k3 at hF
        refine e_blk ?_; refine e_then ?_; refine wp_region_lit ?_; refine op_g ha rfl (g_move rfl) ?_; clear ha a; intro a ha; obtain ⟨hI1029, hF⟩ := ck_some hF; refine op_g ha rfl (g_add rfl rfl hI1029) ?_; clear ha a; intro a ha; refine op_g ha rfl (g_assign rfl) ?_; clear ha a; intro a ha; refine wpList_nil ?_; replace ha := ha.sub (σ' := [(1, va1), (2, (.pointer (some ⟨b1, 0, none⟩))), (4, (.pointer (some ⟨b12, 0, none⟩))), (5, (.int .i64 (i379 + 1)))]) ⟨rfl, rfl, rfl, rfl, trivial⟩; refine e_lq ?_; obtain rfl := Option.some.inj hF
        exact ⟨_, Nat.lt_succ_self _, l952, i379 + 1, fs949, ha.sub ⟨rfl, rfl, rfl, rfl, trivial⟩, hE971, hI1029, h945, hB946, z947, h948, (pv950), nd951, hB955, z956, q957, q958, q959, q960, q961, q962, q963, q964, q965, hN734⟩
      replace hF := if_f hp737 hF; refine wp_exit ?_; refine e_then_exit ?_; refine e_lq_eq ?_; obtain rfl := Option.some.inj hF
      exact ⟨l374, fs371, ha.sub ⟨rfl, rfl, trivial⟩, hE390, hB368, z369, h370, (pv372), nd373, hB377, z378, q384, q385, q386, q387, q388, q389, (LK_inr hN734).symm⟩
  rintro a w710 ⟨l717, fs714, ha, hE733, hB711, z712, h713, pv715, nd716, hB720, z721, q722, q723, q724, q725, q726, q727, rfl⟩
  have hF : F_spec_l7Clique_k4 l717 = some _ := hK730; clear hK730; unfold F_spec_l7Clique_k4 at hF
  refine e_then ?_; refine wp_seq ?_; refine wp_region_lit ?_; refine op_g ha rfl (g_loadA (cs := [va0_0]) Tryd.isAgg31 Tryd.sizeOf31 rfl (by simp) hB711.all) ?_; clear ha a; intro a ha
  refine o_storeA (vs := [va0_0]) ha hB720 Tryd.sizeOf31 rfl rfl (by intro c hc; simp only [List.mem_cons, List.not_mem_nil, or_false] at hc; rcases hc with hc <;> subst hc <;> first | rfl | exact h713.oneC) rfl ?_; intro w1031 hB1032 hc1033
  replace hc1033 := hc1033.bl
  replace hB1032 : Bx w1031 b12 [va0_0] 31 := hB1032
  replace hB711 := hB711.nq hc1033 q723
  replace h713 := h713.nq hc1033 q725
  have hE1034 := Chg.own hE733 hc1033 (Zn.bl z721)
  refine wpList_nil ?_; replace ha := ha.sub (σ' := [(4, (.pointer (some ⟨b12, 0, none⟩)))]) ⟨rfl, trivial⟩; refine e_then ?_; refine wp_ret ?_; obtain rfl := Option.some.inj hF
  exact f_retC (cs := [va0_0]) ha rfl rfl Tryd.isAgg31 Tryd.sizeOf31 hB1032 ⟨_, rfl, h713, (pv715), nd716, hE1034⟩
set_option maxHeartbeats 2000000 in
theorem W_spec_OrderBy {W : World} {va0_0 : Value} {fa0_0 : List Nat} {a0_0 : (List (List Int))} (ha0_0 : Ro (Rp.sl 2 Rp.int) W fa0_0 va0_0 a0_0) {va1_0 : Value} {fa1_0 : List Nat} {a1_0 : (List (List Int))} (ha1_0 : Ro (Rp.sl 2 Rp.int) W fa1_0 va1_0 a1_0) {va1_1 : Value} {fa1_1 : List Nat} {a1_1 : (List (List Int))} (ha1_1 : Ro (Rp.sl 2 Rp.int) W fa1_1 va1_1 a1_1) {r : (List Int)} (hF : F_spec_OrderBy a0_0 a1_0 a1_1 = some r) :
    Calls Tryd.prog 6 [.agg #[va0_0], .agg #[va1_0, va1_1]].toArray W (Ret fun u w' => ∃ (b_u : Int), Ow Rp.int 2 true w' [] b_u u r ∧ Zn W b_u ∧ Ext W w') := by
  refine f_enter Tryd.func6 rfl Tryd.ntmps6 rfl ?_
  intro a ha
  replace ha : Fr 56 [(0, (.agg #[va0_0])), (1, (.agg #[va1_0, va1_1]))] a := ha
  have hE : Chg [] W W := Chg.refl _ _
  unfold F_spec_OrderBy at hF
  refine wp_seq ?_; refine wp_region_lit ?_
  refine o_box ha rfl rfl rfl ?_; clear ha a; intro b1 w2 hB3 hx4 hlo5 a ha
  have q6 := Zn.one hlo5
  have q7 := Zn.upD q6 hE
  have hE8 := Ext.trans hE hx4
  refine o_box ha rfl rfl rfl ?_; clear ha a; intro b9 w10 hB11 hx12 hlo13 a ha
  have q14 := Zn.one hlo13
  have q15 := Nq.new hB3.fpb q14
  have q16 := Nq.made1 hlo13 hB3.bi
  have q17 := Zn.upD q14 hE8
  replace hB3 := hB3.ext hx12
  have hE18 := Ext.trans hE8 hx12
  refine op_g ha rfl (g_assign rfl) ?_; clear ha a; intro a ha; refine wpList_nil ?_; replace ha := ha.sub (σ' := [(2, (.pointer (some ⟨b1, 0, none⟩))), (3, (.pointer (some ⟨b9, 0, none⟩)))]) ⟨rfl, rfl, trivial⟩; refine e_then ?_; refine wp_seq ?_; refine wp_region_lit ?_
  refine o_lit0 Rp.int ha rfl sl29 ?_; clear ha a; intro v19 w20 h21 hx22 a ha
  obtain ⟨b24, hb24⟩ : ∃ b : Int, b = w10.heap.size := ⟨_, rfl⟩; rw [← hb24] at h21
  have q25 := zn_of hb24
  have q26 := Nq.new hB3.fpb q25
  have q27 := Nq.madeO q25 hB3.bi
  have q28 := Nq.new hB11.fpb q25
  have q29 := Nq.madeO q25 hB11.bi
  have q30 := Zn.upD q25 hE18
  replace hB3 := hB3.ext hx22
  replace hB11 := hB11.ext hx22
  have hE31 := Ext.trans hE18 hx22
  refine op_g ha rfl (g_assign rfl) ?_; clear ha a; intro a ha; refine wpList_nil ?_; replace ha := ha.sub (σ' := [(2, (.pointer (some ⟨b1, 0, none⟩))), (3, (.pointer (some ⟨b9, 0, none⟩))), (5, v19)]) ⟨rfl, rfl, rfl, trivial⟩; refine e_then ?_; refine wp_seq ?_; refine wp_seq ?_; refine wp_region_lit ?_; refine op_g ha rfl (g_loadA (cs := [va0_0]) Tryd.isAgg31 Tryd.sizeOf31 rfl (by simp) hB3.all) ?_; clear ha a; intro a ha; refine op_g ha rfl (g_loadA (cs := [va1_0, va1_1]) Tryd.isAgg33 Tryd.sizeOf33 rfl (by simp) hB11.all) ?_; clear ha a; intro a ha; obtain ⟨x32, hc33, hF⟩ := cal_some hF
  refine o_call ha rfl rfl Tryd.call18 (W_spec_DecompOk (ha0_0.ext hE31) (ha1_0.ext hE31) (ha1_1.ext hE31) hc33) ?_; clear ha a; rintro v34 w35 ⟨rfl, hx36⟩ a ha
  replace hB3 := hB3.ext hx36
  replace hB11 := hB11.ext hx36
  replace h21 := h21.ext hx36
  have hE37 := Ext.trans hE31 hx36
  refine op_g ha rfl (g_not rfl) ?_; clear ha a; intro a ha; refine wpList_nil ?_; replace ha := ha.sub (σ' := [(2, (.pointer (some ⟨b1, 0, none⟩))), (3, (.pointer (some ⟨b9, 0, none⟩))), (5, v19), (13, (.bool (!x32)))]) ⟨rfl, rfl, rfl, rfl, trivial⟩; refine e_then ?_; refine c_cond (¬ (x32 = true)) ha rfl (n_iff (Iff.rfl)) (fun hp38 => ?_) (fun hp38 => ?_)
  · replace hF := if_t hp38 hF
    refine wp_seq ?_; refine wp_region_lit ?_; refine op_g ha rfl (g_move rfl) ?_; clear ha a; intro a ha; refine op_g ha rfl (g_assign rfl) ?_; clear ha a; intro a ha; refine wpList_nil ?_; replace ha := ha.sub (σ' := [(4, v19)]) ⟨rfl, trivial⟩; refine e_then ?_; refine wp_ret ?_; refine e_then_ret ?_; obtain rfl := Option.some.inj hF
    exact f_ret1 ha rfl rfl ⟨_, h21, q30, hE37⟩
  replace hF := if_f hp38 hF; refine wp_skip ?_; refine e_then ?_; refine wp_seq ?_; refine wp_region_lit ?_; refine op_g ha rfl (g_loadA (cs := [va0_0]) Tryd.isAgg31 Tryd.sizeOf31 rfl (by simp) hB3.all) ?_; clear ha a; intro a ha; obtain ⟨x39, hc40, hF⟩ := cal_some hF
  refine o_call ha rfl rfl Tryd.call19 (W_spec_l1CopyGraph (ha0_0.ext hE37) hc40) ?_; clear ha a; rintro v41 w42 ⟨u44, b45, fs49, rfl, h46, z47, zf50, nd51, hx43⟩ a ha
  have q52 := Nq.new hB3.fpb z47
  have q53 := Nq.madeF z47 zf50 hB3.bi
  have q54 := Nq.new hB11.fpb z47
  have q55 := Nq.madeF z47 zf50 hB11.bi
  have q56 := Nq.new h21.fpb z47
  have q57 := Nq.madeF z47 zf50 h21.blt
  have q58 := Nf.new hB3.fpb zf50
  have q59 := Nf.new hB11.fpb zf50
  have q60 := Nf.new h21.fpb zf50
  replace hB3 := hB3.ext hx43
  replace hB11 := hB11.ext hx43
  replace h21 := h21.ext hx43
  have hE61 := Ext.trans hE37 hx43
  have q62 := Zn.upD z47 hE37
  have q63 := zf_up zf50 hE37
  refine o_alloc (cs := [(.slice none 0 0)]) ha rfl Tryd.zeroValue31 rfl ?_; clear ha a; intro b64 w65 hB66 hx67 hlo68 a ha
  have q69 := Zn.one hlo68
  have q70 := Nq.new hB3.fpb q69
  have q71 := Nq.made1 hlo68 hB3.bi
  have q72 := Nq.new hB11.fpb q69
  have q73 := Nq.made1 hlo68 hB11.bi
  have q74 := Nq.new h21.fpb q69
  have q75 := Nq.made1 hlo68 h21.blt
  have q76 := Nq.new h46.fpb q69
  have q77 := Nq.made1 hlo68 h46.blt
  have q78 := Nf.old1 q69 h46.bnd
  have q79 := Zn.upD q69 hE61
  replace hB3 := hB3.ext hx67
  replace hB11 := hB11.ext hx67
  replace h21 := h21.ext hx67
  replace h46 := h46.ext hx67
  have hE80 := Ext.trans hE61 hx67
  refine o_storeA (vs := [u44]) ha hB66 Tryd.sizeOf31 rfl rfl (by intro c hc; simp only [List.mem_cons, List.not_mem_nil, or_false] at hc; rcases hc with hc <;> subst hc <;> first | rfl | exact h46.oneC) rfl ?_; intro w81 hB82 hc83
  replace hc83 := hc83.bl
  replace hB82 : Bx w81 b64 [u44] 31 := hB82
  replace hB3 := hB3.nq hc83 q70
  replace hB11 := hB11.nq hc83 q72
  replace h21 := h21.nq hc83 q74
  replace h46 := h46.nq hc83 q76
  have hE84 := Ext.then hE80 hc83 (Zn.bl q79)
  refine wpList_nil ?_; replace ha := ha.sub (σ' := [(2, (.pointer (some ⟨b1, 0, none⟩))), (3, (.pointer (some ⟨b9, 0, none⟩))), (5, v19), (6, (.pointer (some ⟨b64, 0, none⟩)))]) ⟨rfl, rfl, rfl, rfl, trivial⟩; refine e_then ?_; refine wp_seq ?_; refine wp_region_lit ?_; refine op_g ha rfl (g_loadA (cs := [va0_0]) Tryd.isAgg31 Tryd.sizeOf31 rfl (by simp) hB3.all) ?_; clear ha a; intro a ha; obtain ⟨x85, hc86, hF⟩ := cal_some hF
  refine o_call ha rfl rfl Tryd.call20 (W_spec_l1Size (ha0_0.ext hE84) hc86) ?_; clear ha a; rintro v87 w88 ⟨⟨rfl, hI90⟩, hx89⟩ a ha
  replace hB3 := hB3.ext hx89
  replace hB11 := hB11.ext hx89
  replace h21 := h21.ext hx89
  replace h46 := h46.ext hx89
  replace hB82 := hB82.ext hx89
  have hE91 := Ext.trans hE84 hx89
  obtain ⟨g96, g96b, hF⟩ := mkS_some hF
  refine o_make (z0 := false) Rp.bool ha rfl sl45 rfl (fun w => ⟨rfl, rfl⟩) rfl g96 g96b ?_; clear ha a; intro v92 w93 h94 hx95 a ha
  obtain ⟨b99, hb99⟩ : ∃ b : Int, b = w88.heap.size := ⟨_, rfl⟩; rw [← hb99] at h94
  have q100 := zn_of hb99
  have q101 := Nq.new hB3.fpb q100
  have q102 := Nq.madeO q100 hB3.bi
  have q103 := Nq.new hB11.fpb q100
  have q104 := Nq.madeO q100 hB11.bi
  have q105 := Nq.new h21.fpb q100
  have q106 := Nq.madeO q100 h21.blt
  have q107 := Nq.new h46.fpb q100
  have q108 := Nq.madeO q100 h46.blt
  have q109 := Nq.new hB82.fpb q100
  have q110 := Nq.madeO q100 hB82.bi
  have q111 := Nf.old q100 (zf_nil _) h46.bnd
  have q112 := Zn.upD q100 hE91
  replace hB3 := hB3.ext hx95
  replace hB11 := hB11.ext hx95
  replace h21 := h21.ext hx95
  replace h46 := h46.ext hx95
  replace hB82 := hB82.ext hx95
  have hE113 := Ext.trans hE91 hx95
  refine op_g ha rfl (g_assign rfl) ?_; clear ha a; intro a ha; refine wpList_nil ?_; replace ha := ha.sub (σ' := [(2, (.pointer (some ⟨b1, 0, none⟩))), (3, (.pointer (some ⟨b9, 0, none⟩))), (5, v19), (6, (.pointer (some ⟨b64, 0, none⟩))), (7, v92)]) ⟨rfl, rfl, rfl, rfl, rfl, trivial⟩; refine e_then ?_; refine wp_seq ?_; obtain ⟨o1692, ho1693, hK1694⟩ := bnd_some hF
  obtain ⟨n1695, hn1696⟩ := lp_some ho1693; clear ho1693
  refine c_loop (fun a w => ∃ (l1689 : (List Int)) (v1690 : Value) (b1691 : Int), Fr 56 [(5, v1690)] a ∧ Chg [] W w ∧ Ow Rp.int 2 true w [] b1691 v1690 l1689 ∧ Zn W b1691 ∧ o1692 = .inl l1689) (fun n a w => ∃ (l918 : (List Int)) (l929 : (List (List Int))) (l935 : (List Bool)) (v919 : Value) (b920 : Int) (fs926 : List Nat) (v930 : Value) (b931 : Int) (v936 : Value) (b937 : Int), Fr 56 [(2, (.pointer (some ⟨b1, 0, none⟩))), (3, (.pointer (some ⟨b9, 0, none⟩))), (5, v919), (6, (.pointer (some ⟨b64, 0, none⟩))), (7, v936)] a ∧ Chg [] W w ∧ Bx w b1 [va0_0] 31 ∧ Zn W (b1 : Int) ∧ Bx w b9 [va1_0, va1_1] 33 ∧ Zn W (b9 : Int) ∧ Ow Rp.int 2 true w [] b920 v919 l918 ∧ Zn W b920 ∧ Bx w b64 [v930] 31 ∧ Zn W (b64 : Int) ∧ Ow (Rp.sl 2 Rp.int) 29 true w fs926 b931 v930 l929 ∧ Zn W b931 ∧ (∀ k ∈ fs926, W.heap.size ≤ k) ∧ (bl b931 ++ fs926).Nodup ∧ Ow Rp.bool 4 true w [] b937 v936 l935 ∧ Zn W b937 ∧ Nq ([b1]) (b9 : Int) ∧ Nq ([b1]) b920 ∧ Nq ([b1]) (b64 : Int) ∧ Nq ([b1]) b931 ∧ Nq ([b1]) b937 ∧ Nq ([b9]) (b1 : Int) ∧ Nq ([b9]) b920 ∧ Nq ([b9]) (b64 : Int) ∧ Nq ([b9]) b931 ∧ Nq ([b9]) b937 ∧ Nq (bl b920 ++ []) (b1 : Int) ∧ Nq (bl b920 ++ []) (b9 : Int) ∧ Nq (bl b920 ++ []) (b64 : Int) ∧ Nq (bl b920 ++ []) b931 ∧ Nq (bl b920 ++ []) b937 ∧ Nq ([b64]) (b1 : Int) ∧ Nq ([b64]) (b9 : Int) ∧ Nq ([b64]) b920 ∧ Nq ([b64]) b931 ∧ Nq ([b64]) b937 ∧ Nq (bl b931 ++ fs926) (b1 : Int) ∧ Nq (bl b931 ++ fs926) (b9 : Int) ∧ Nq (bl b931 ++ fs926) b920 ∧ Nq (bl b931 ++ fs926) (b64 : Int) ∧ Nq (bl b931 ++ fs926) b937 ∧ Nq (bl b937 ++ []) (b1 : Int) ∧ Nq (bl b937 ++ []) (b9 : Int) ∧ Nq (bl b937 ++ []) b920 ∧ Nq (bl b937 ++ []) (b64 : Int) ∧ Nq (bl b937 ++ []) b931 ∧ lpN (fun s => F_spec_OrderBy_l1 a0_0 a1_0 a1_1 s.1 s.2.1 s.2.2) n (l918, l929, l935) = some o1692) n1695 ⟨([] : (List Int)), x39, (List.replicate (x85 : Int).toNat false), v19, b24, fs49, u44, b45, v92, b99, ha.sub ⟨rfl, rfl, rfl, rfl, rfl, trivial⟩, hE113, hB3, q7, hB11, q17, h21, q30, hB82, q79, h46, q62, q63, nd51, h94, q112, q15, q26, q70, q52, q101, q16, q28, q72, q54, q103, q27, q29, q74, q56, q105, q71, q73, q75, q77, q109, q53, q55, q57, q76, q107, q102, q104, q106, q110, q108, hn1696⟩ ?_ ?_
  · rintro m1700 a w910 ⟨l918, l929, l935, v919, b920, fs926, v930, b931, v936, b937, ha, hE968, hB911, z912, hB913, z914, h916, z917, hB921, z922, h924, z925, zf927, nd928, h933, z934, q938, q939, q940, q941, q942, q943, q944, q945, q946, q947, q948, q949, q950, q951, q952, q953, q954, q955, q956, q957, q958, q959, q960, q961, q962, q963, q964, q965, q966, q967, hF⟩
    cases m1700 with
    | zero => exact (lpN_zero hF).elim
    | succ m1700 =>
      obtain ⟨z1699, hF, hN1698⟩ := lpN_succ hF
      have hF : F_spec_OrderBy_l1 a0_0 a1_0 a1_1 l918 l929 l935 = some z1699 := hF; unfold F_spec_OrderBy_l1 at hF
      refine wp_seq ?_; refine wp_seq ?_; refine wp_region_lit ?_; refine op_g ha rfl (g_move rfl) ?_; clear ha a; intro a ha; refine op_g ha rfl (g_lenO sl29.und h916 rfl) ?_; clear ha a; intro a ha; refine op_g ha rfl (g_loadA (cs := [va0_0]) Tryd.isAgg31 Tryd.sizeOf31 rfl (by simp) hB911.all) ?_; clear ha a; intro a ha; obtain ⟨x1701, hc1702, hF⟩ := cal_some hF
      refine o_call ha rfl rfl Tryd.call20 (W_spec_l1Size (ha0_0.ext hE968) hc1702) ?_; clear ha a; rintro v1703 w1704 ⟨⟨rfl, hI1706⟩, hx1705⟩ a ha
      replace hB911 := hB911.ext hx1705
      replace hB913 := hB913.ext hx1705
      replace h916 := h916.ext hx1705
      replace hB921 := hB921.ext hx1705
      replace h924 := h924.ext hx1705
      replace h933 := h933.ext hx1705
      have hE1707 := Ext.trans hE968 hx1705
      refine op_g ha rfl (g_lss rfl rfl) ?_; clear ha a; intro a ha; refine wpList_nil ?_; replace ha := ha.sub (σ' := [(2, (.pointer (some ⟨b1, 0, none⟩))), (3, (.pointer (some ⟨b9, 0, none⟩))), (5, v919), (6, (.pointer (some ⟨b64, 0, none⟩))), (7, v936), (24, (.bool (decide ((l918.length : Int) < x1701))))]) ⟨rfl, rfl, rfl, rfl, rfl, rfl, trivial⟩; refine e_then ?_; refine c_cond ((l918.length : Int) < x1701) ha rfl (decide_eq_true_iff) (fun hp1708 => ?_) (fun hp1708 => ?_)
      · replace hF := if_t hp1708 hF
        refine wp_skip ?_; refine e_then ?_; refine wp_block ?_; refine wp_seq ?_; refine wp_region_lit ?_; refine op_g ha rfl (g_assign rfl) ?_; clear ha a; intro a ha; refine wpList_nil ?_; replace ha := ha.sub (σ' := [(2, (.pointer (some ⟨b1, 0, none⟩))), (3, (.pointer (some ⟨b9, 0, none⟩))), (5, v919), (6, (.pointer (some ⟨b64, 0, none⟩))), (7, v936), (8, (.int .i64 0))]) ⟨rfl, rfl, rfl, rfl, rfl, rfl, trivial⟩; refine e_then ?_; refine wp_seq ?_; obtain ⟨o2140, ho2141, hK2142⟩ := bnd_some hF
        obtain ⟨n2143, hn2144⟩ := lp_some ho2141; clear ho2141
        refine c_loop (fun a w => ∃ (l2102 : (List (List Int))) (i2108 : Int) (fs2099 : List Nat) (v2103 : Value) (b2104 : Int), Fr 56 [(2, (.pointer (some ⟨b1, 0, none⟩))), (3, (.pointer (some ⟨b9, 0, none⟩))), (5, v919), (6, (.pointer (some ⟨b64, 0, none⟩))), (7, v936), (8, (.int .i64 i2108))] a ∧ Chg [] W w ∧ InI i2108 ∧ Bx w b1 [va0_0] 31 ∧ Zn W (b1 : Int) ∧ Bx w b9 [va1_0, va1_1] 33 ∧ Zn W (b9 : Int) ∧ Ow Rp.int 2 true w [] b920 v919 l918 ∧ Zn W b920 ∧ Bx w b64 [v2103] 31 ∧ Zn W (b64 : Int) ∧ Ow (Rp.sl 2 Rp.int) 29 true w fs2099 b2104 v2103 l2102 ∧ Zn W b2104 ∧ (∀ k ∈ fs2099, W.heap.size ≤ k) ∧ (bl b2104 ++ fs2099).Nodup ∧ Ow Rp.bool 4 true w [] b937 v936 l935 ∧ Zn W b937 ∧ Nq ([b1]) (b9 : Int) ∧ Nq ([b1]) b920 ∧ Nq ([b1]) (b64 : Int) ∧ Nq ([b1]) b2104 ∧ Nq ([b1]) b937 ∧ Nq ([b9]) (b1 : Int) ∧ Nq ([b9]) b920 ∧ Nq ([b9]) (b64 : Int) ∧ Nq ([b9]) b2104 ∧ Nq ([b9]) b937 ∧ Nq (bl b920 ++ []) (b1 : Int) ∧ Nq (bl b920 ++ []) (b9 : Int) ∧ Nq (bl b920 ++ []) (b64 : Int) ∧ Nq (bl b920 ++ []) b2104 ∧ Nq (bl b920 ++ []) b937 ∧ Nq ([b64]) (b1 : Int) ∧ Nq ([b64]) (b9 : Int) ∧ Nq ([b64]) b920 ∧ Nq ([b64]) b2104 ∧ Nq ([b64]) b937 ∧ Nq (bl b2104 ++ fs2099) (b1 : Int) ∧ Nq (bl b2104 ++ fs2099) (b9 : Int) ∧ Nq (bl b2104 ++ fs2099) b920 ∧ Nq (bl b2104 ++ fs2099) (b64 : Int) ∧ Nq (bl b2104 ++ fs2099) b937 ∧ Nq (bl b937 ++ []) (b1 : Int) ∧ Nq (bl b937 ++ []) (b9 : Int) ∧ Nq (bl b937 ++ []) b920 ∧ Nq (bl b937 ++ []) (b64 : Int) ∧ Nq (bl b937 ++ []) b2104 ∧ o2140 = .inl (l2102, i2108)) (fun n a w => ∃ (l1911 : (List (List Int))) (i1917 : Int) (fs1908 : List Nat) (v1912 : Value) (b1913 : Int), Fr 56 [(2, (.pointer (some ⟨b1, 0, none⟩))), (3, (.pointer (some ⟨b9, 0, none⟩))), (5, v919), (6, (.pointer (some ⟨b64, 0, none⟩))), (7, v936), (8, (.int .i64 i1917))] a ∧ Chg [] W w ∧ InI i1917 ∧ Bx w b1 [va0_0] 31 ∧ Zn W (b1 : Int) ∧ Bx w b9 [va1_0, va1_1] 33 ∧ Zn W (b9 : Int) ∧ Ow Rp.int 2 true w [] b920 v919 l918 ∧ Zn W b920 ∧ Bx w b64 [v1912] 31 ∧ Zn W (b64 : Int) ∧ Ow (Rp.sl 2 Rp.int) 29 true w fs1908 b1913 v1912 l1911 ∧ Zn W b1913 ∧ (∀ k ∈ fs1908, W.heap.size ≤ k) ∧ (bl b1913 ++ fs1908).Nodup ∧ Ow Rp.bool 4 true w [] b937 v936 l935 ∧ Zn W b937 ∧ Nq ([b1]) (b9 : Int) ∧ Nq ([b1]) b920 ∧ Nq ([b1]) (b64 : Int) ∧ Nq ([b1]) b1913 ∧ Nq ([b1]) b937 ∧ Nq ([b9]) (b1 : Int) ∧ Nq ([b9]) b920 ∧ Nq ([b9]) (b64 : Int) ∧ Nq ([b9]) b1913 ∧ Nq ([b9]) b937 ∧ Nq (bl b920 ++ []) (b1 : Int) ∧ Nq (bl b920 ++ []) (b9 : Int) ∧ Nq (bl b920 ++ []) (b64 : Int) ∧ Nq (bl b920 ++ []) b1913 ∧ Nq (bl b920 ++ []) b937 ∧ Nq ([b64]) (b1 : Int) ∧ Nq ([b64]) (b9 : Int) ∧ Nq ([b64]) b920 ∧ Nq ([b64]) b1913 ∧ Nq ([b64]) b937 ∧ Nq (bl b1913 ++ fs1908) (b1 : Int) ∧ Nq (bl b1913 ++ fs1908) (b9 : Int) ∧ Nq (bl b1913 ++ fs1908) b920 ∧ Nq (bl b1913 ++ fs1908) (b64 : Int) ∧ Nq (bl b1913 ++ fs1908) b937 ∧ Nq (bl b937 ++ []) (b1 : Int) ∧ Nq (bl b937 ++ []) (b9 : Int) ∧ Nq (bl b937 ++ []) b920 ∧ Nq (bl b937 ++ []) (b64 : Int) ∧ Nq (bl b937 ++ []) b1913 ∧ lpN (fun s => F_spec_OrderBy_l2 a1_0 a1_1 l935 s.1 s.2) n (l1911, i1917) = some o2140) n2143 ⟨l929, 0, fs926, v930, b931, ha.sub ⟨rfl, rfl, rfl, rfl, rfl, rfl, trivial⟩, hE1707, (show InI 0 from by decide), hB911, z912, hB913, z914, h916, z917, hB921, z922, h924, z925, zf927, nd928, h933, z934, q938, q939, q940, q941, q942, q943, q944, q945, q946, q947, q948, q949, q950, q951, q952, q953, q954, q955, q956, q957, q958, q959, q960, q961, q962, q963, q964, q965, q966, q967, hn2144⟩ ?_ ?_
        · rintro m2148 a w1895 ⟨l1911, i1917, fs1908, v1912, b1913, ha, hE1949, hI1918, hB1896, z1897, hB1898, z1899, h1901, z1902, hB1903, z1904, h1906, z1907, zf1909, nd1910, h1915, z1916, q1919, q1920, q1921, q1922, q1923, q1924, q1925, q1926, q1927, q1928, q1929, q1930, q1931, q1932, q1933, q1934, q1935, q1936, q1937, q1938, q1939, q1940, q1941, q1942, q1943, q1944, q1945, q1946, q1947, q1948, hF⟩
          cases m2148 with
          | zero => exact (lpN_zero hF).elim
          | succ m2148 =>
            obtain ⟨z2147, hF, hN2146⟩ := lpN_succ hF
            have hF : F_spec_OrderBy_l2 a1_0 a1_1 l935 l1911 i1917 = some z2147 := hF; unfold F_spec_OrderBy_l2 at hF
            refine wp_seq ?_; refine wp_seq ?_; refine d_region [0, 1, 2, 3, 4, 5, 6, 7, 8, 9, 10, 11, 12, 13, 14] hmix ?_; refine u_g 0 rfl (by kernel_rfl) (want0 _) ha rfl (g_move rfl) ?_; clear ha a; intro a ha; refine u_g 1 rfl (by kernel_rfl) (want0 _) ha rfl (g_move rfl) ?_; clear ha a; intro a ha; obtain ⟨x2149, g2150, gx2151, hF⟩ := idx_some hF
            obtain ⟨p2152, cs2153, f2154, hf2155, hpb2156, hat2157, hr2158, hi2159⟩ := h1915.at g2150 gx2151
            obtain ⟨rfl, rfl⟩ := hr2158
            refine u_g 2 rfl (by kernel_rfl) (want0 _) ha rfl (hi2159.gives sl45 rfl rfl) ?_; clear ha a; intro a ha; refine u_g 3 rfl (by kernel_rfl) (want0 _) ha rfl (g_load Tryd.isAgg4 rfl hat2157.one) ?_; clear ha a; intro a ha; refine u_g 4 rfl (by kernel_rfl) (want0 _) ha rfl (g_move rfl) ?_; clear ha a; intro a ha
            by_cases hp2160 : x2149 = true
            · replace hF := if_t hp2160 hF
              rw [show (x2149) = true from (Iff.rfl).2 hp2160] at ha
              refine u_unwant 5 rfl (by kernel_rfl) (want2 (yields ha rfl rfl) rfl) ha rfl ?_; clear ha a; intro a ha; refine u_unwant 6 rfl (by kernel_rfl) (want2 (yields ha rfl rfl) rfl) ha rfl ?_; clear ha a; intro a ha; refine u_unwant 7 rfl (by kernel_rfl) (want2 (yields ha rfl rfl) rfl) ha rfl ?_; clear ha a; intro a ha; refine u_unwant 8 rfl (by kernel_rfl) (want2 (yields ha rfl rfl) rfl) ha rfl ?_; clear ha a; intro a ha; refine u_unwant 9 rfl (by kernel_rfl) (want2 (yields ha rfl rfl) rfl) ha rfl ?_; clear ha a; intro a ha; refine u_unwant 10 rfl (by kernel_rfl) (want2 (yields ha rfl rfl) rfl) ha rfl ?_; clear ha a; intro a ha
              refine u_unwant 11 rfl (by kernel_rfl) (want2 (yields ha rfl rfl) rfl) ha rfl ?_; clear ha a; intro a ha; refine u_unwant 12 rfl (by kernel_rfl) (want2 (yields ha rfl rfl) rfl) ha rfl ?_; clear ha a; intro a ha; refine u_unwant 13 rfl (by kernel_rfl) (want2 (yields ha rfl rfl) rfl) ha rfl ?_; clear ha a; intro a ha; refine u_g 14 rfl (by kernel_rfl) (want0 _) ha rfl (g_pick rfl rfl) ?_; clear ha a; intro a ha
              refine u_done (by kernel_rfl) ?_; intro w2161 hx2162
              replace hB1896 := hB1896.ext hx2162
              replace hB1898 := hB1898.ext hx2162
              replace h1901 := h1901.ext hx2162
              replace hB1903 := hB1903.ext hx2162
              replace h1906 := h1906.ext hx2162
              replace h1915 := h1915.ext hx2162
              have hE2163 := Ext.trans hE1949 hx2162
              replace ha := ha.sub (σ' := [(2, (.pointer (some ⟨b1, 0, none⟩))), (3, (.pointer (some ⟨b9, 0, none⟩))), (5, v919), (6, (.pointer (some ⟨b64, 0, none⟩))), (7, v936), (8, (.int .i64 i1917)), (39, (.bool true))]) ⟨rfl, rfl, rfl, rfl, rfl, rfl, rfl, trivial⟩; refine e_then ?_; refine c_true ha rfl ?_; refine wp_skip ?_; refine e_then ?_; refine wp_block ?_; refine wp_region_lit ?_; refine op_g ha rfl (g_move rfl) ?_; clear ha a; intro a ha; obtain ⟨hI2164, hF⟩ := ck_some hF; refine op_g ha rfl (g_add rfl rfl hI2164) ?_; clear ha a; intro a ha; refine op_g ha rfl (g_assign rfl) ?_; clear ha a; intro a ha
              refine wpList_nil ?_; replace ha := ha.sub (σ' := [(2, (.pointer (some ⟨b1, 0, none⟩))), (3, (.pointer (some ⟨b9, 0, none⟩))), (5, v919), (6, (.pointer (some ⟨b64, 0, none⟩))), (7, v936), (8, (.int .i64 (i1917 + 1)))]) ⟨rfl, rfl, rfl, rfl, rfl, rfl, trivial⟩; refine e_blk ?_; refine e_lq ?_; obtain rfl := Option.some.inj hF
              exact ⟨_, Nat.lt_succ_self _, l1911, i1917 + 1, fs1908, v1912, b1913, ha.sub ⟨rfl, rfl, rfl, rfl, rfl, rfl, trivial⟩, hE2163, hI2164, hB1896, z1897, hB1898, z1899, h1901, z1902, hB1903, z1904, h1906, z1907, zf1909, nd1910, h1915, z1916, q1919, q1920, q1921, q1922, q1923, q1924, q1925, q1926, q1927, q1928, q1929, q1930, q1931, q1932, q1933, q1934, q1935, q1936, q1937, q1938, q1939, q1940, q1941, q1942, q1943, q1944, q1945, q1946, q1947, q1948, hN2146⟩
            replace hF := if_f hp2160 hF
            rw [show (x2149) = false from b_false (Iff.rfl) hp2160] at ha
            refine u_g 5 rfl (by kernel_rfl) (want1 (yields ha rfl rfl)) ha rfl (g_loadA (cs := [va1_0, va1_1]) Tryd.isAgg33 Tryd.sizeOf33 rfl (by simp) hB1898.all) ?_; clear ha a; intro a ha; refine u_g 6 rfl (by kernel_rfl) (want1 (yields ha rfl rfl)) ha rfl (g_loadA (cs := [v1912]) Tryd.isAgg31 Tryd.sizeOf31 rfl (by simp) hB1903.all) ?_; clear ha a; intro a ha; refine u_g 7 rfl (by kernel_rfl) (want1 (yields ha rfl rfl)) ha rfl (g_move rfl) ?_; clear ha a; intro a ha; refine u_g 8 rfl (by kernel_rfl) (want1 (yields ha rfl rfl)) ha rfl (g_move rfl) ?_; clear ha a; intro a ha; refine u_g 10 rfl (by kernel_rfl) (want1 (yields ha rfl rfl)) ha rfl (g_move rfl) ?_; clear ha a; intro a ha
            refine u_only 9 rfl (by kernel_rfl) ?_; intro w2166 hx2167
            replace hB1896 := hB1896.ext hx2167
            replace hB1898 := hB1898.ext hx2167
            replace h1901 := h1901.ext hx2167
            replace hB1903 := hB1903.ext hx2167
            replace h1906 := h1906.ext hx2167
            replace h1915 := h1915.ext hx2167
            have hE2168 := Ext.trans hE1949 hx2167
            refine op_want (yields ha rfl rfl) ?_
            obtain ⟨fp2169, hro2170, hs2171⟩ := h1906.roF
            obtain ⟨fp2172, hro2173, hs2174⟩ := h1915.roF
            obtain ⟨x2175, hc2176, hF⟩ := cal_some hF
            refine o_call ha rfl rfl Tryd.call23 (W_spec_l7Left hro2170 hI1918 hro2173 hc2176) ?_; clear ha a; rintro v2177 w2178 ⟨b2180, h2181, z2182, hx2179⟩ a ha
            have q2184 := Nq.new hB1896.fpb z2182
            have q2185 := Nq.madeO z2182 hB1896.bi
            have q2186 := Nq.new hB1898.fpb z2182
            have q2187 := Nq.madeO z2182 hB1898.bi
            have q2188 := Nq.new h1901.fpb z2182
            have q2189 := Nq.madeO z2182 h1901.blt
            have q2190 := Nq.new hB1903.fpb z2182
            have q2191 := Nq.madeO z2182 hB1903.bi
            have q2192 := Nq.new h1906.fpb z2182
            have q2193 := Nq.madeO z2182 h1906.blt
            have q2194 := Nq.new h1915.fpb z2182
            have q2195 := Nq.madeO z2182 h1915.blt
            have q2196 := Nf.old z2182 (zf_nil _) h1906.bnd
            replace hB1896 := hB1896.ext hx2179
            replace hB1898 := hB1898.ext hx2179
            replace h1901 := h1901.ext hx2179
            replace hB1903 := hB1903.ext hx2179
            replace h1906 := h1906.ext hx2179
            replace h1915 := h1915.ext hx2179
            have hE2197 := Ext.trans hE2168 hx2179
            have q2198 := Zn.upD z2182 hE2168
            refine wpList_nil (e_sq ?_)
            refine ⟨fun _ => hx2179, ?_⟩
            refine u_only 11 rfl (by kernel_rfl) ?_; intro w2199 hx2200
            replace hB1896 := hB1896.ext hx2200
            replace hB1898 := hB1898.ext hx2200
            replace h1901 := h1901.ext hx2200
            replace hB1903 := hB1903.ext hx2200
            replace h1906 := h1906.ext hx2200
            replace h1915 := h1915.ext hx2200
            replace h2181 := h2181.ext hx2200
            have hE2201 := Ext.trans hE2197 hx2200
            refine op_want (yields ha rfl rfl) ?_
            obtain ⟨fp2202, hro2203, hs2204⟩ := h2181.roF
            obtain ⟨x2205, hc2206, hF⟩ := cal_some hF
            refine o_call ha rfl rfl Tryd.call22 (W_spec_l1Into hro2203 hI1918 hc2206) ?_; clear ha a; rintro v2207 w2208 ⟨fp2210, h2211, pv2212, _, hx2209⟩ a ha
            have q2214 := Nq.rd pv2212 (Nq.mono q2185 hs2204) hB1896.bi
            have q2215 := Nq.rd pv2212 (Nq.mono q2187 hs2204) hB1898.bi
            have q2216 := Nq.rd pv2212 (Nq.mono q2189 hs2204) h1901.blt
            have q2217 := Nq.rd pv2212 (Nq.mono q2191 hs2204) hB1903.bi
            have q2218 := Nq.rd pv2212 (Nq.mono q2193 hs2204) h1906.blt
            have q2219 := Nq.rd pv2212 (Nq.mono q2195 hs2204) h1915.blt
            replace hB1896 := hB1896.ext hx2209
            replace hB1898 := hB1898.ext hx2209
            replace h1901 := h1901.ext hx2209
            replace hB1903 := hB1903.ext hx2209
            replace h1906 := h1906.ext hx2209
            replace h1915 := h1915.ext hx2209
            replace h2181 := h2181.ext hx2209
            have hE2220 := Ext.trans hE2201 hx2209
            refine wpList_nil (e_sq ?_)
            refine ⟨fun _ => hx2209, ?_⟩
            obtain ⟨x2223, hc2224, hF⟩ := cal_some hF; refine u_call (.bool x2223) 12 rfl (by kernel_rfl) (want1 (yields ha rfl rfl)) ha rfl rfl Tryd.call21 (fun w2222 hx2221 => W_spec_l9In (ha1_0.ext (Ext.trans hE2220 hx2221)) (ha1_1.ext (Ext.trans hE2220 hx2221)) (h2211.ext hx2221) hc2224) (fun _ _ _ h => ⟨h.1, h.2⟩) ?_; clear ha a; intro a ha; refine u_g 13 rfl (by kernel_rfl) (want1 (yields ha rfl rfl)) ha rfl (g_not rfl) ?_; clear ha a; intro a ha; refine u_g 14 rfl (by kernel_rfl) (want0 _) ha rfl (g_pick rfl rfl) ?_; clear ha a; intro a ha
            refine u_done (by kernel_rfl) ?_; intro w2225 hx2226
            replace hB1896 := hB1896.ext hx2226
            replace hB1898 := hB1898.ext hx2226
            replace h1901 := h1901.ext hx2226
            replace hB1903 := hB1903.ext hx2226
            replace h1906 := h1906.ext hx2226
            replace h1915 := h1915.ext hx2226
            replace h2181 := h2181.ext hx2226
            replace h2211 := h2211.ext hx2226
            have hE2227 := Ext.trans hE2220 hx2226
            replace ha := ha.sub (σ' := [(2, (.pointer (some ⟨b1, 0, none⟩))), (3, (.pointer (some ⟨b9, 0, none⟩))), (5, v919), (6, (.pointer (some ⟨b64, 0, none⟩))), (7, v936), (8, (.int .i64 i1917)), (30, (.agg #[va1_0, va1_1])), (31, (.agg #[v1912])), (32, (.int .i64 i1917)), (33, v936), (34, v2177), (35, (.int .i64 i1917)), (36, v2207), (37, (.bool x2223)), (38, (.bool (!x2223))), (39, (.bool (!x2223)))]) ⟨rfl, rfl, rfl, rfl, rfl, rfl, rfl, rfl, rfl, rfl, rfl, rfl, rfl, rfl, rfl, rfl, trivial⟩; refine e_then ?_; refine c_cond (¬ (x2223 = true)) ha rfl (n_iff (Iff.rfl)) (fun hp2228 => ?_) (fun hp2228 => ?_)
            · replace hF := if_t hp2228 hF
              refine wp_skip ?_; refine e_then ?_; refine wp_block ?_; refine wp_region_lit ?_; refine op_g ha rfl (g_move rfl) ?_; clear ha a; intro a ha; obtain ⟨hI2229, hF⟩ := ck_some hF; refine op_g ha rfl (g_add rfl rfl hI2229) ?_; clear ha a; intro a ha; refine op_g ha rfl (g_assign rfl) ?_; clear ha a; intro a ha; refine wpList_nil ?_; replace ha := ha.sub (σ' := [(2, (.pointer (some ⟨b1, 0, none⟩))), (3, (.pointer (some ⟨b9, 0, none⟩))), (5, v919), (6, (.pointer (some ⟨b64, 0, none⟩))), (7, v936), (8, (.int .i64 (i1917 + 1))), (30, (.agg #[va1_0, va1_1])), (31, (.agg #[v1912])), (32, (.int .i64 i1917)), (33, v936), (34, v2177), (35, (.int .i64 i1917)), (36, v2207), (37, (.bool x2223)), (38, (.bool (!x2223)))]) ⟨rfl, rfl, rfl, rfl, rfl, rfl, rfl, rfl, rfl, rfl, rfl, rfl, rfl, rfl, rfl, trivial⟩
              refine e_blk ?_; refine e_lq ?_; obtain rfl := Option.some.inj hF
              exact ⟨_, Nat.lt_succ_self _, l1911, i1917 + 1, fs1908, v1912, b1913, ha.sub ⟨rfl, rfl, rfl, rfl, rfl, rfl, trivial⟩, hE2227, hI2229, hB1896, z1897, hB1898, z1899, h1901, z1902, hB1903, z1904, h1906, z1907, zf1909, nd1910, h1915, z1916, q1919, q1920, q1921, q1922, q1923, q1924, q1925, q1926, q1927, q1928, q1929, q1930, q1931, q1932, q1933, q1934, q1935, q1936, q1937, q1938, q1939, q1940, q1941, q1942, q1943, q1944, q1945, q1946, q1947, q1948, hN2146⟩
            replace hF := if_f hp2228 hF; refine wp_exit ?_; refine e_then_exit ?_; refine e_lq_eq ?_; obtain rfl := Option.some.inj hF
            exact ⟨l1911, i1917, fs1908, v1912, b1913, ha.sub ⟨rfl, rfl, rfl, rfl, rfl, rfl, trivial⟩, hE2227, hI1918, hB1896, z1897, hB1898, z1899, h1901, z1902, hB1903, z1904, h1906, z1907, zf1909, nd1910, h1915, z1916, q1919, q1920, q1921, q1922, q1923, q1924, q1925, q1926, q1927, q1928, q1929, q1930, q1931, q1932, q1933, q1934, q1935, q1936, q1937, q1938, q1939, q1940, q1941, q1942, q1943, q1944, q1945, q1946, q1947, q1948, (LK_inr hN2146).symm⟩
        rintro a w2086 ⟨l2102, i2108, fs2099, v2103, b2104, ha, hE2145, hI2109, hB2087, z2088, hB2089, z2090, h2092, z2093, hB2094, z2095, h2097, z2098, zf2100, nd2101, h2106, z2107, q2110, q2111, q2112, q2113, q2114, q2115, q2116, q2117, q2118, q2119, q2120, q2121, q2122, q2123, q2124, q2125, q2126, q2127, q2128, q2129, q2130, q2131, q2132, q2133, q2134, q2135, q2136, q2137, q2138, q2139, rfl⟩
        have hF : F_spec_OrderBy_k3 l918 l935 l2102 i2108 = some _ := hK2142; clear hK2142; unfold F_spec_OrderBy_k3 at hF
        refine e_then ?_; refine wp_seq ?_; refine wp_region_lit ?_; (iterate 2 refine op_g ha rfl (g_move rfl) ?_; clear ha a; intro a ha); obtain ⟨x2231, g2232, gx2233, hF⟩ := idx_some hF
        obtain ⟨p2234, cs2235, f2236, hf2237, hpb2238, hat2239, hr2240, hi2241⟩ := h2106.at g2232 gx2233
        obtain ⟨rfl, rfl⟩ := hr2240
        refine op_g ha rfl (hi2241.gives sl45 rfl rfl) ?_; clear ha a; intro a ha
        refine o_storeE (f := []) (q := true) ha Tryd.sizeOf4 rfl rfl rfl h2106 hi2241 ⟨rfl, rfl⟩ (Nq.nil _) ?_; intro w2242 fs2243 h2244 hc2245 hs2246
        obtain rfl := Subst.nil hs2246
        replace hB2087 := hB2087.nq hc2245 q2114
        replace hB2089 := hB2089.nq hc2245 q2119
        replace h2092 := h2092.nq hc2245 q2124
        replace hB2094 := hB2094.nq hc2245 q2129
        replace h2097 := h2097.nq hc2245 q2134
        have hE2247 := Ext.then hE2145 hc2245 (Zn.bl z2107)
        refine wpList_nil ?_; replace ha := ha.sub (σ' := [(2, (.pointer (some ⟨b1, 0, none⟩))), (3, (.pointer (some ⟨b9, 0, none⟩))), (5, v919), (6, (.pointer (some ⟨b64, 0, none⟩))), (7, v936), (8, (.int .i64 i2108))]) ⟨rfl, rfl, rfl, rfl, rfl, rfl, trivial⟩; refine e_then ?_; refine wp_seq ?_; refine d_region [0, 1, 2, 3, 4] hmix ?_; refine u_g 0 rfl (by kernel_rfl) (want0 _) ha rfl (g_loadA (cs := [v2103]) Tryd.isAgg31 Tryd.sizeOf31 rfl (by simp) hB2094.all) ?_; clear ha a; intro a ha; refine u_g 1 rfl (by kernel_rfl) (want0 _) ha rfl (g_loadA (cs := [v2103]) Tryd.isAgg31 Tryd.sizeOf31 rfl (by simp) hB2094.all) ?_; clear ha a; intro a ha
        refine u_g 2 rfl (by kernel_rfl) (want0 _) ha rfl (g_move rfl) ?_; clear ha a; intro a ha; refine u_g 3 rfl (by kernel_rfl) (want0 _) ha rfl (g_move rfl) ?_; clear ha a; intro a ha
        refine u_only 4 rfl (by kernel_rfl) ?_; intro w2248 hx2249
        replace hB2087 := hB2087.ext hx2249
        replace hB2089 := hB2089.ext hx2249
        replace h2092 := h2092.ext hx2249
        replace hB2094 := hB2094.ext hx2249
        replace h2097 := h2097.ext hx2249
        replace h2244 := h2244.ext hx2249
        have hE2250 := Ext.trans hE2247 hx2249
        obtain ⟨fp2251, hro2252, hs2253⟩ := h2097.roF
        obtain ⟨fp2254, hro2255, hs2256⟩ := h2244.roF
        obtain ⟨x2257, hc2258, hF⟩ := cal_some hF
        refine o_call ha rfl rfl Tryd.call23 (W_spec_l7Left hro2252 hI2109 hro2255 hc2258) ?_; clear ha a; rintro v2259 w2260 ⟨b2262, h2263, z2264, hx2261⟩ a ha
        have q2266 := Nq.new hB2087.fpb z2264
        have q2267 := Nq.madeO z2264 hB2087.bi
        have q2268 := Nq.new hB2089.fpb z2264
        have q2269 := Nq.madeO z2264 hB2089.bi
        have q2270 := Nq.new h2092.fpb z2264
        have q2271 := Nq.madeO z2264 h2092.blt
        have q2272 := Nq.new hB2094.fpb z2264
        have q2273 := Nq.madeO z2264 hB2094.bi
        have q2274 := Nq.new h2097.fpb z2264
        have q2275 := Nq.madeO z2264 h2097.blt
        have q2276 := Nq.new h2244.fpb z2264
        have q2277 := Nq.madeO z2264 h2244.blt
        have q2278 := Nf.old z2264 (zf_nil _) h2097.bnd
        replace hB2087 := hB2087.ext hx2261
        replace hB2089 := hB2089.ext hx2261
        replace h2092 := h2092.ext hx2261
        replace hB2094 := hB2094.ext hx2261
        replace h2097 := h2097.ext hx2261
        replace h2244 := h2244.ext hx2261
        have hE2279 := Ext.trans hE2250 hx2261
        have q2280 := Zn.upD z2264 hE2250
        refine wpList_nil (e_sq ?_)
        refine ⟨fun _ => hx2261, ?_⟩
        refine u_only 5 rfl (by kernel_rfl) ?_; intro w2281 hx2282
        replace hB2087 := hB2087.ext hx2282
        replace hB2089 := hB2089.ext hx2282
        replace h2092 := h2092.ext hx2282
        replace hB2094 := hB2094.ext hx2282
        replace h2097 := h2097.ext hx2282
        replace h2244 := h2244.ext hx2282
        replace h2263 := h2263.ext hx2282
        have hE2283 := Ext.trans hE2279 hx2282
        obtain ⟨fp2284, hro2285, hs2286⟩ := h2263.roF
        obtain ⟨x2287, hc2288, hF⟩ := cal_some hF
        refine o_call ha rfl rfl Tryd.call24 (W_spec_l7Clique h2097 nd2101 hro2285 (Nq.mono q2275 hs2286) hc2288) ?_; clear ha a; rintro v2289 w2290 ⟨fs2293, rfl, h2292, pv2294, nd2295, hx2291⟩ a ha
        have q2296 := Nq.grow pv2294 q2130 hB2087.bi
        have q2297 := Nq.grow pv2294 q2131 hB2089.bi
        have q2298 := Nq.grow pv2294 q2132 h2092.blt
        have q2299 := Nq.grow pv2294 q2133 hB2094.bi
        have q2300 := Nq.grow pv2294 q2134 h2244.blt
        have q2301 := Nq.grow pv2294 q2274 h2263.blt
        have q2302 := Chg.size hE2283
        replace hB2087 := hB2087.nq hx2291 q2113
        replace hB2089 := hB2089.nq hx2291 q2118
        replace h2092 := h2092.nq hx2291 q2123
        replace hB2094 := hB2094.nq hx2291 q2128
        replace h2244 := h2244.nq hx2291 q2139
        replace h2263 := h2263.nq hx2291 q2275
        have hE2303 := Ext.then hE2283 hx2291 (Zn.bl z2098)
        have q2304 := zf_pv pv2294 zf2100 q2302
        refine wpList_nil (e_sq ?_)
        refine ⟨fun h => absurd h (by decide), ?_⟩
        refine u_only 6 rfl (by kernel_rfl) ?_; intro w2305 hx2306
        replace hB2087 := hB2087.ext hx2306
        replace hB2089 := hB2089.ext hx2306
        replace h2092 := h2092.ext hx2306
        replace hB2094 := hB2094.ext hx2306
        replace h2292 := h2292.ext hx2306
        replace h2244 := h2244.ext hx2306
        replace h2263 := h2263.ext hx2306
        have hE2307 := Ext.trans hE2303 hx2306
        refine o_storeA (vs := [v2103]) ha hB2094 Tryd.sizeOf31 rfl rfl (by intro c hc; simp only [List.mem_cons, List.not_mem_nil, or_false] at hc; rcases hc with hc <;> subst hc <;> first | rfl | exact h2292.oneC) rfl ?_; intro w2308 hB2309 hc2310
        replace hc2310 := hc2310.bl
        replace hB2309 : Bx w2308 b64 [v2103] 31 := hB2309
        replace hB2087 := hB2087.nq hc2310 q2112
        replace hB2089 := hB2089.nq hc2310 q2117
        replace h2092 := h2092.nq hc2310 q2122
        replace h2292 := h2292.nq hc2310 q2299
        replace h2244 := h2244.nq hc2310 q2138
        replace h2263 := h2263.nq hc2310 q2273
        have hE2311 := Ext.then hE2307 hc2310 (Zn.bl z2095)
        refine wpList_nil (e_sq ?_)
        refine ⟨fun h => absurd h (by decide), ?_⟩
        refine u_done (by kernel_rfl) ?_; intro w2312 hx2313
        replace hB2087 := hB2087.ext hx2313
        replace hB2089 := hB2089.ext hx2313
        replace h2092 := h2092.ext hx2313
        replace hB2309 := hB2309.ext hx2313
        replace h2292 := h2292.ext hx2313
        replace h2244 := h2244.ext hx2313
        replace h2263 := h2263.ext hx2313
        have hE2314 := Ext.trans hE2311 hx2313
        replace ha := ha.sub (σ' := [(2, (.pointer (some ⟨b1, 0, none⟩))), (3, (.pointer (some ⟨b9, 0, none⟩))), (5, v919), (6, (.pointer (some ⟨b64, 0, none⟩))), (7, v936), (8, (.int .i64 i2108))]) ⟨rfl, rfl, rfl, rfl, rfl, rfl, trivial⟩; refine e_then ?_; refine wp_region_lit ?_; (iterate 2 refine op_g ha rfl (g_move rfl) ?_; clear ha a; intro a ha)
        refine o_lit1 (o := true) (y := i2108) Rp.int ha rfl sl29 rfl rfl rfl ⟨rfl, hI2109, rfl⟩ ?_; clear ha a; intro v2315 w2316 h2317 hx2318 a ha
        obtain ⟨b2320, hb2320⟩ : ∃ b : Int, b = w2312.heap.size := ⟨_, rfl⟩; rw [← hb2320] at h2317
        have q2321 := zn_of hb2320
        have q2322 := Nq.new hB2087.fpb q2321
        have q2323 := Nq.madeO q2321 hB2087.bi
        have q2324 := Nq.new hB2089.fpb q2321
        have q2325 := Nq.madeO q2321 hB2089.bi
        have q2326 := Nq.new h2092.fpb q2321
        have q2327 := Nq.madeO q2321 h2092.blt
        have q2328 := Nq.new hB2309.fpb q2321
        have q2329 := Nq.madeO q2321 hB2309.bi
        have q2330 := Nq.new h2292.fpb q2321
        have q2331 := Nq.madeO q2321 h2292.blt
        have q2332 := Nq.new h2244.fpb q2321
        have q2333 := Nq.madeO q2321 h2244.blt
        have q2334 := Nf.old q2321 (zf_nil _) h2292.bnd
        have q2335 := Zn.upD q2321 hE2314
        replace hB2087 := hB2087.ext hx2318
        replace hB2089 := hB2089.ext hx2318
        replace h2092 := h2092.ext hx2318
        replace hB2309 := hB2309.ext hx2318
        replace h2292 := h2292.ext hx2318
        replace h2244 := h2244.ext hx2318
        have hE2336 := Ext.trans hE2314 hx2318
        obtain ⟨hl2337, hF⟩ := app_some hF
        refine o_append ha rfl sl29 rfl rfl rfl h2092 h2317.src (Nq.nil _) hl2337 ?_; clear ha a; intro v2338 w2339 b2340 h2341 hc2342 hb2343 a ha
        replace h2341 : Ow Rp.int 2 true w2339 [] b2340 v2338 _ := h2341
        have q2345 := Nq.appY q2111 hB2087.fpb hb2343
        have q2346 := Nq.appX q2120 (Nq.nil _) hb2343 hB2087.bi
        have q2347 := Nq.appY q2116 hB2089.fpb hb2343
        have q2348 := Nq.appX q2121 (Nq.nil _) hb2343 hB2089.bi
        have q2349 := Nq.appY q2127 hB2309.fpb hb2343
        have q2350 := Nq.appX q2122 (Nq.nil _) hb2343 hB2309.bi
        have q2351 := Nq.appY q2298 h2292.fpb hb2343
        have q2352 := Nq.appX q2123 (Nq.nil _) hb2343 h2292.blt
        have q2353 := Nq.appY q2137 h2244.fpb hb2343
        have q2354 := Nq.appX q2124 (Nq.nil _) hb2343 h2244.blt
        have q2355 := Nq.appY q2327 h2317.fpb hb2343
        have q2356 := Nq.appX q2326 (Nq.nil _) hb2343 h2317.blt
        have q2357 := Zn.appD z2093 hb2343 hE2336
        replace hB2087 := hB2087.nq hc2342 q2111
        replace hB2089 := hB2089.nq hc2342 q2116
        replace hB2309 := hB2309.nq hc2342 q2127
        replace h2292 := h2292.nq hc2342 q2298
        replace h2244 := h2244.nq hc2342 q2137
        replace h2317 := h2317.nq hc2342 q2327
        have hE2358 := Ext.then hE2336 hc2342 (Zn.bl z2093)
        refine op_g ha rfl (g_assign rfl) ?_; clear ha a; intro a ha; refine wpList_nil ?_; replace ha := ha.sub (σ' := [(2, (.pointer (some ⟨b1, 0, none⟩))), (3, (.pointer (some ⟨b9, 0, none⟩))), (5, v2338), (6, (.pointer (some ⟨b64, 0, none⟩))), (7, v936)]) ⟨rfl, rfl, rfl, rfl, rfl, trivial⟩; refine e_blk ?_; refine e_lq ?_; obtain rfl := Option.some.inj hF
        exact ⟨_, Nat.lt_succ_self _, (l918 ++ ([i2108])), x2287, (l935.set ((i2108 : Int).toNat) true), v2338, b2340, fs2293, v2103, b2104, v936, b937, ha.sub ⟨rfl, rfl, rfl, rfl, rfl, trivial⟩, hE2358, hB2087, z2088, hB2089, z2090, h2341, q2357, hB2309, z2095, h2292, z2098, q2304, nd2295, h2244, z2107, q2110, q2345, q2112, q2113, q2114, q2115, q2347, q2117, q2118, q2119, q2346, q2348, q2350, q2352, q2354, q2125, q2126, q2349, q2128, q2129, q2296, q2297, q2351, q2299, q2300, q2135, q2136, q2353, q2138, q2139, hN1698⟩
      replace hF := if_f hp1708 hF; refine wp_exit ?_; refine e_then_exit ?_; refine e_lq_eq ?_; obtain rfl := Option.some.inj hF
      exact ⟨l918, v919, b920, ha.sub ⟨rfl, trivial⟩, hE1707, h916, z917, (LK_inr hN1698).symm⟩
  rintro a w1685 ⟨l1689, v1690, b1691, ha, hE1697, h1687, z1688, rfl⟩
  have hF : F_spec_OrderBy_k4 l1689 = some _ := hK1694; clear hK1694; unfold F_spec_OrderBy_k4 at hF
  refine e_then ?_; refine wp_seq ?_; refine wp_region_lit ?_; refine op_g ha rfl (g_move rfl) ?_; clear ha a; intro a ha; refine op_g ha rfl (g_assign rfl) ?_; clear ha a; intro a ha; refine wpList_nil ?_; replace ha := ha.sub (σ' := [(4, v1690)]) ⟨rfl, trivial⟩; refine e_then ?_; refine wp_ret ?_; obtain rfl := Option.some.inj hF
  exact f_ret1 ha rfl rfl ⟨_, h1687, z1688, hE1697⟩
set_option maxHeartbeats 2000000 in
theorem W_impl_inRange {W : World} {a0 : Int} (ha0 : InI a0) {a1 : Int} (ha1 : InI a1) {a2 : Int} (ha2 : InI a2) {r : Bool} (hF : F_impl_inRange a0 a1 a2 = some r) :
    Calls Tryd.prog 69 [.int .i64 a0, .int .i64 a1, .int .i64 a2].toArray W (Ret fun u w' => u = .bool r ∧ Ext W w') := by
  refine f_enter Tryd.func69 rfl Tryd.ntmps69 rfl ?_
  intro a ha
  replace ha : Fr 15 [(0, (.int .i64 a0)), (1, (.int .i64 a1)), (2, (.int .i64 a2))] a := ha
  have hE : Chg [] W W := Chg.refl _ _
  unfold F_impl_inRange at hF
  refine wp_seq ?_; refine wp_region_lit ?_; refine op_g ha rfl (g_assign rfl) ?_; clear ha a; intro a ha; refine wpList_nil ?_; replace ha := ha.sub (σ' := [(0, (.int .i64 a0)), (1, (.int .i64 a1)), (2, (.int .i64 a2))]) ⟨rfl, rfl, rfl, trivial⟩; refine e_then ?_; refine wp_seq ?_; refine wp_region_lit ?_; (iterate 2 refine op_g ha rfl (g_move rfl) ?_; clear ha a; intro a ha); refine op_g ha rfl (g_leq rfl rfl) ?_; clear ha a; intro a ha; refine op_g ha rfl (g_move rfl) ?_; clear ha a; intro a ha
  by_cases hp1 : a1 ≤ a0
  · replace hF := if_t hp1 hF
    rw [show (decide (a1 ≤ a0)) = true from (decide_eq_true_iff).2 hp1] at ha
    refine op_want (yields ha rfl rfl) ?_; refine op_g ha rfl (g_move rfl) ?_; clear ha a; intro a ha; refine op_want (yields ha rfl rfl) ?_; refine op_g ha rfl (g_move rfl) ?_; clear ha a; intro a ha; refine op_want (yields ha rfl rfl) ?_; refine op_g ha rfl (g_leq rfl rfl) ?_; clear ha a; intro a ha; refine op_g ha rfl (g_pick rfl rfl) ?_; clear ha a; intro a ha; refine op_g ha rfl (g_assign rfl) ?_; clear ha a; intro a ha; refine wpList_nil ?_; replace ha := ha.sub (σ' := [(6, (.bool (decide (a0 ≤ a2))))]) ⟨rfl, trivial⟩; refine e_then ?_; refine wp_ret ?_; obtain rfl := Option.some.inj hF
    exact f_ret1 ha rfl rfl ⟨rfl, hE⟩
  replace hF := if_f hp1 hF
  rw [show (decide (a1 ≤ a0)) = false from b_false (decide_eq_true_iff) hp1] at ha
  (iterate 3 refine op_unwant ha rfl (yields ha rfl rfl) rfl ?_; clear ha a; intro a ha); refine op_g ha rfl (g_pick rfl rfl) ?_; clear ha a; intro a ha; refine op_g ha rfl (g_assign rfl) ?_; clear ha a; intro a ha; refine wpList_nil ?_; replace ha := ha.sub (σ' := [(6, (.bool false))]) ⟨rfl, trivial⟩; refine e_then ?_; refine wp_ret ?_; obtain rfl := Option.some.inj hF
  exact f_ret1 ha rfl rfl ⟨rfl, hE⟩
set_option maxHeartbeats 2000000 in
theorem W_impl_increasing {W : World} {va0 : Value} {fa0 : List Nat} {a0 : (List Int)} (ha0 : Ro Rp.int W fa0 va0 a0) {a1 : Int} (ha1 : InI a1) {r : Bool} (hF : F_impl_increasing a0 a1 = some r) :
    Calls Tryd.prog 51 [va0, .int .i64 a1].toArray W (Ret fun u w' => u = .bool r ∧ Ext W w') := by
  refine f_enter Tryd.func51 rfl Tryd.ntmps51 rfl ?_
  intro a ha
  replace ha : Fr 33 [(0, va0), (1, (.int .i64 a1))] a := ha
  have hE : Chg [] W W := Chg.refl _ _
  unfold F_impl_increasing at hF
  refine wp_seq ?_; refine wp_region_lit ?_; refine op_g ha rfl (g_assign rfl) ?_; clear ha a; intro a ha; refine wpList_nil ?_; replace ha := ha.sub (σ' := [(0, va0), (1, (.int .i64 a1))]) ⟨rfl, rfl, trivial⟩; refine e_then ?_; refine wp_seq ?_; refine wp_seq ?_; refine wp_region_lit ?_; refine op_g ha rfl (g_move rfl) ?_; clear ha a; intro a ha; refine op_g ha rfl (g_lenR sl29.und ha0 rfl) ?_; clear ha a; intro a ha; refine op_g ha rfl (g_move rfl) ?_; clear ha a; intro a ha; refine wpList_nil ?_; replace ha := ha.sub (σ' := [(0, va0), (1, (.int .i64 a1)), (7, va0), (8, (.int .i64 (a0.length : Int))), (9, (.int .i64 0))]) ⟨rfl, rfl, rfl, rfl, rfl, trivial⟩
  refine e_then ?_; obtain ⟨o98, ho99, hK100⟩ := bnd_some hF
  obtain ⟨n101, hn102⟩ := lp_some ho99; clear ho99
  refine c_loop (fun a w => Fr 33 [] a ∧ Chg [] W w ∧ o98 = .inl ()) (fun n a w => ∃ (i49 : Int), Fr 33 [(0, va0), (1, (.int .i64 a1)), (7, va0), (8, (.int .i64 (a0.length : Int))), (9, (.int .i64 i49))] a ∧ Chg [] W w ∧ InI i49 ∧ lpN (fun s => F_impl_increasing_l1 a0 a1 s) n i49 = some o98) n101 ⟨0, ha.sub ⟨rfl, rfl, rfl, rfl, rfl, trivial⟩, hE, (show InI 0 from by decide), hn102⟩ ?_ ?_
  · rintro m106 a w48 ⟨i49, ha, hE51, hI50, hF⟩
    cases m106 with
    | zero => exact (lpN_zero hF).elim
    | succ m106 =>
      obtain ⟨z105, hF, hN104⟩ := lpN_succ hF
      have hF : F_impl_increasing_l1 a0 a1 i49 = some z105 := hF; unfold F_impl_increasing_l1 at hF
      refine wp_seq ?_; refine wp_region_lit ?_; refine op_g ha rfl (g_lss rfl rfl) ?_; clear ha a; intro a ha; refine wpList_nil ?_; replace ha := ha.sub (σ' := [(0, va0), (1, (.int .i64 a1)), (7, va0), (8, (.int .i64 (a0.length : Int))), (9, (.int .i64 i49)), (10, (.bool (decide (i49 < (a0.length : Int)))))]) ⟨rfl, rfl, rfl, rfl, rfl, rfl, trivial⟩; refine e_then ?_; refine wp_seq ?_; refine c_cond (i49 < (a0.length : Int)) ha rfl (decide_eq_true_iff) (fun hp107 => ?_) (fun hp107 => ?_)
      · replace hF := if_t hp107 hF
        refine wp_skip ?_; refine e_then ?_; refine wp_seq ?_; refine wp_block ?_; refine wp_seq ?_; refine wp_region_lit ?_; refine op_g ha rfl (g_move rfl) ?_; clear ha a; intro a ha; obtain ⟨x108, g109, gx110, hF⟩ := idx_some hF
        obtain ⟨p111, cs112, f113, hf114, hpb115, hat116, hr117, hi118⟩ := ha0.at g109 gx110
        obtain ⟨rfl, hI119, rfl⟩ := hr117
        refine op_g ha rfl (hi118.gives sl29 rfl rfl) ?_; clear ha a; intro a ha; refine op_g ha rfl (g_load0 hE51 Tryd.isAgg2 rfl hat116.one) ?_; clear ha a; intro a ha; (iterate 2 refine op_g ha rfl (g_assign rfl) ?_; clear ha a; intro a ha); refine wpList_nil ?_; replace ha := ha.sub (σ' := [(0, va0), (1, (.int .i64 a1)), (5, (.int .i64 i49)), (6, (.int .i64 x108)), (7, va0), (8, (.int .i64 (a0.length : Int))), (9, (.int .i64 i49))]) ⟨rfl, rfl, rfl, rfl, rfl, rfl, rfl, trivial⟩; refine e_then ?_; refine wp_seq ?_; refine wp_region_lit ?_; (iterate 2 refine op_g ha rfl (g_move rfl) ?_; clear ha a; intro a ha)
        obtain ⟨hI120, hF⟩ := ck_some hF; refine op_g ha rfl (g_sub rfl rfl hI120) ?_; clear ha a; intro a ha; obtain ⟨x122, hc123, hF⟩ := cal_some hF
        refine o_call ha rfl rfl Tryd.call69 (W_impl_inRange hI119 (show InI 0 from by decide) hI120 hc123) ?_; clear ha a; rintro v124 w125 ⟨rfl, hx126⟩ a ha
        have hE127 := Ext.trans hE51 hx126
        refine op_g ha rfl (g_not rfl) ?_; clear ha a; intro a ha; refine op_g ha rfl (g_move rfl) ?_; clear ha a; intro a ha
        by_cases hp128 : ¬ (x122 = true)
        · replace hF := if_t hp128 hF
          rw [show (!x122) = true from (n_iff (Iff.rfl)).2 hp128] at ha
          (iterate 3 refine op_unwant ha rfl (yields ha rfl rfl) rfl ?_; clear ha a; intro a ha); (iterate 7 refine op_unwant0 ha rfl (yields0 ha rfl rfl) ?_; clear ha a; intro a ha); refine op_unwant ha rfl (yields ha rfl rfl) rfl ?_; clear ha a; intro a ha; refine op_g ha rfl (g_pick rfl rfl) ?_; clear ha a; intro a ha; refine wpList_nil ?_; replace ha := ha.sub (σ' := [(0, va0), (1, (.int .i64 a1)), (7, va0), (8, (.int .i64 (a0.length : Int))), (9, (.int .i64 i49)), (31, (.bool true))]) ⟨rfl, rfl, rfl, rfl, rfl, rfl, trivial⟩; refine e_then ?_; refine c_true ha rfl ?_; refine wp_seq ?_; refine wp_region_lit ?_
          refine op_g ha rfl (g_assign rfl) ?_; clear ha a; intro a ha; refine wpList_nil ?_; replace ha := ha.sub (σ' := [(4, (.bool false))]) ⟨rfl, trivial⟩; refine e_then ?_; refine wp_ret ?_; refine e_blk_ret ?_; refine e_then_ret ?_; refine e_lq_ret ?_; refine e_then_ret ?_; obtain rfl := Option.some.inj hF
          have e129 := LK_inr hN104; subst e129
          have e130 := BK_inr hK100; subst e130
          exact f_ret1 ha rfl rfl ⟨rfl, hE127⟩
        replace hF := if_f hp128 hF
        rw [show (!x122) = false from b_false (n_iff (Iff.rfl)) hp128] at ha
        refine op_want (yields ha rfl rfl) ?_; refine op_g ha rfl (g_move rfl) ?_; clear ha a; intro a ha; refine op_want (yields ha rfl rfl) ?_; refine op_g ha rfl (g_gtr rfl rfl) ?_; clear ha a; intro a ha; refine op_want (yields ha rfl rfl) ?_; refine op_g ha rfl (g_move rfl) ?_; clear ha a; intro a ha
        by_cases hp131 : 0 < i49
        · replace hF := if_t hp131 hF
          rw [show (decide (0 < i49)) = true from (decide_eq_true_iff).2 hp131] at ha
          refine op_want (yields ha rfl rfl) ?_; refine op_g ha rfl (g_move rfl) ?_; clear ha a; intro a ha; refine op_want (yields ha rfl rfl) ?_; refine op_g ha rfl (g_move rfl) ?_; clear ha a; intro a ha; refine op_want (yields ha rfl rfl) ?_; obtain ⟨hI132, hF⟩ := ck_some hF; refine op_g ha rfl (g_sub rfl rfl hI132) ?_; clear ha a; intro a ha; refine op_want (yields ha rfl rfl) ?_; obtain ⟨x134, g135, gx136, hF⟩ := idx_some hF
          obtain ⟨p137, cs138, f139, hf140, hpb141, hat142, hr143, hi144⟩ := ha0.at g135 gx136
          obtain ⟨rfl, hI145, rfl⟩ := hr143
          refine op_g ha rfl (hi144.gives sl29 rfl rfl) ?_; clear ha a; intro a ha; refine op_want (yields ha rfl rfl) ?_; refine op_g ha rfl (g_load0 hE127 Tryd.isAgg2 rfl hat142.one) ?_; clear ha a; intro a ha; refine op_want (yields ha rfl rfl) ?_; refine op_g ha rfl (g_move rfl) ?_; clear ha a; intro a ha; refine op_want (yields ha rfl rfl) ?_; refine op_g ha rfl (g_geq rfl rfl) ?_; clear ha a; intro a ha; refine op_want (yields ha rfl rfl) ?_; (iterate 2 refine op_g ha rfl (g_pick rfl rfl) ?_; clear ha a; intro a ha); refine wpList_nil ?_; replace ha := ha.sub (σ' := [(0, va0), (1, (.int .i64 a1)), (7, va0), (8, (.int .i64 (a0.length : Int))), (9, (.int .i64 i49)), (20, (.int .i64 i49)), (21, (.bool true)), (22, (.bool true)), (23, va0), (24, (.int .i64 i49)), (25, (.int .i64 (i49 - 1))), (26, (.pointer (some p137))), (27, (.int .i64 x134)), (28, (.int .i64 x108)), (29, (.bool (decide (x108 ≤ x134)))), (30, (.bool (decide (x108 ≤ x134)))), (31, (.bool (decide (x108 ≤ x134))))]) ⟨rfl, rfl, rfl, rfl, rfl, rfl, rfl, rfl, rfl, rfl, rfl, rfl, rfl, rfl, rfl, rfl, rfl, trivial⟩
          refine e_then ?_; refine c_cond (x108 ≤ x134) ha rfl (decide_eq_true_iff) (fun hp146 => ?_) (fun hp146 => ?_)
          · replace hF := if_t hp146 hF
            refine wp_seq ?_; refine wp_region_lit ?_; refine op_g ha rfl (g_assign rfl) ?_; clear ha a; intro a ha; refine wpList_nil ?_; replace ha := ha.sub (σ' := [(4, (.bool false))]) ⟨rfl, trivial⟩; refine e_then ?_; refine wp_ret ?_; refine e_blk_ret ?_; refine e_then_ret ?_; refine e_lq_ret ?_; refine e_then_ret ?_; obtain rfl := Option.some.inj hF
            have e147 := LK_inr hN104; subst e147
            have e148 := BK_inr hK100; subst e148
            exact f_ret1 ha rfl rfl ⟨rfl, hE127⟩
          replace hF := if_f hp146 hF; refine wp_skip ?_; refine e_blk ?_; refine e_then ?_; refine wp_region_lit ?_; obtain ⟨hI149, hF⟩ := ck_some hF; refine op_g ha rfl (g_add rfl rfl hI149) ?_; clear ha a; intro a ha; refine op_g ha rfl (g_move rfl) ?_; clear ha a; intro a ha; refine wpList_nil ?_; replace ha := ha.sub (σ' := [(0, va0), (1, (.int .i64 a1)), (7, va0), (8, (.int .i64 (a0.length : Int))), (9, (.int .i64 (i49 + 1))), (20, (.int .i64 i49)), (21, (.bool true)), (22, (.bool true)), (23, va0), (24, (.int .i64 i49)), (25, (.int .i64 (i49 - 1))), (26, (.pointer (some p137))), (27, (.int .i64 x134)), (28, (.int .i64 x108)), (29, (.bool (decide (x108 ≤ x134)))), (30, (.bool (decide (x108 ≤ x134))))]) ⟨rfl, rfl, rfl, rfl, rfl, rfl, rfl, rfl, rfl, rfl, rfl, rfl, rfl, rfl, rfl, rfl, trivial⟩
          refine e_lq ?_; obtain rfl := Option.some.inj hF
          exact ⟨_, Nat.lt_succ_self _, i49 + 1, ha.sub ⟨rfl, rfl, rfl, rfl, rfl, trivial⟩, hE127, hI149, hN104⟩
        replace hF := if_f hp131 hF
        rw [show (decide (0 < i49)) = false from b_false (decide_eq_true_iff) hp131] at ha
        (iterate 7 refine op_unwant ha rfl (yields ha rfl rfl) rfl ?_; clear ha a; intro a ha); refine op_want (yields ha rfl rfl) ?_; (iterate 2 refine op_g ha rfl (g_pick rfl rfl) ?_; clear ha a; intro a ha); refine wpList_nil ?_; replace ha := ha.sub (σ' := [(0, va0), (1, (.int .i64 a1)), (7, va0), (8, (.int .i64 (a0.length : Int))), (9, (.int .i64 i49)), (20, (.int .i64 i49)), (21, (.bool false)), (22, (.bool false)), (30, (.bool false)), (31, (.bool false))]) ⟨rfl, rfl, rfl, rfl, rfl, rfl, rfl, rfl, rfl, rfl, trivial⟩; refine e_then ?_; refine c_false ha rfl ?_; refine wp_skip ?_; refine e_blk ?_
        refine e_then ?_; refine wp_region_lit ?_; obtain ⟨hI151, hF⟩ := ck_some hF; refine op_g ha rfl (g_add rfl rfl hI151) ?_; clear ha a; intro a ha; refine op_g ha rfl (g_move rfl) ?_; clear ha a; intro a ha; refine wpList_nil ?_; replace ha := ha.sub (σ' := [(0, va0), (1, (.int .i64 a1)), (7, va0), (8, (.int .i64 (a0.length : Int))), (9, (.int .i64 (i49 + 1))), (20, (.int .i64 i49)), (21, (.bool false)), (22, (.bool false)), (30, (.bool false))]) ⟨rfl, rfl, rfl, rfl, rfl, rfl, rfl, rfl, rfl, trivial⟩; refine e_lq ?_; obtain rfl := Option.some.inj hF
        exact ⟨_, Nat.lt_succ_self _, i49 + 1, ha.sub ⟨rfl, rfl, rfl, rfl, rfl, trivial⟩, hE127, hI151, hN104⟩
      replace hF := if_f hp107 hF; refine wp_exit ?_; refine e_then_exit ?_; refine e_lq_eq ?_; obtain rfl := Option.some.inj hF
      exact ⟨ha.sub trivial, hE51, (LK_inr hN104).symm⟩
  rintro a w97 ⟨ha, hE103, rfl⟩
  have hF : F_impl_increasing_k2 = some _ := hK100; clear hK100; unfold F_impl_increasing_k2 at hF
  refine e_then ?_; refine wp_seq ?_; refine wp_region_lit ?_; refine op_g ha rfl (g_assign rfl) ?_; clear ha a; intro a ha; refine wpList_nil ?_; refine e_then ?_; refine wp_ret ?_; obtain rfl := Option.some.inj hF
  exact f_ret1 ha rfl rfl ⟨rfl, hE103⟩
set_option maxHeartbeats 2000000 in
theorem W_slices_Index_int64 {W : World} {va0 : Value} {fa0 : List Nat} {a0 : (List Int)} (ha0 : Ro Rp.int W fa0 va0 a0) {a1 : Int} (ha1 : InI a1) {r : Int} (hF : F_slices_Index_int64 a0 a1 = some r) :
    Calls Tryd.prog 73 [va0, .int .i64 a1].toArray W (Ret fun u w' => (u = .int .i64 r ∧ InI r) ∧ Ext W w') := by
  refine f_enter Tryd.func73 rfl Tryd.ntmps73 rfl ?_
  intro a ha
  replace ha : Fr 19 [(0, va0), (1, (.int .i64 a1))] a := ha
  have hE : Chg [] W W := Chg.refl _ _
  unfold F_slices_Index_int64 at hF
  refine wp_seq ?_; refine wp_region_lit ?_; refine op_g ha rfl (g_assign rfl) ?_; clear ha a; intro a ha; refine wpList_nil ?_; replace ha := ha.sub (σ' := [(0, va0), (1, (.int .i64 a1))]) ⟨rfl, rfl, trivial⟩; refine e_then ?_; refine wp_seq ?_; refine wp_seq ?_; refine wp_region_lit ?_; refine op_g ha rfl (g_move rfl) ?_; clear ha a; intro a ha; refine op_g ha rfl (g_lenR sl29.und ha0 rfl) ?_; clear ha a; intro a ha; refine op_g ha rfl (g_move rfl) ?_; clear ha a; intro a ha; refine wpList_nil ?_; replace ha := ha.sub (σ' := [(0, va0), (1, (.int .i64 a1)), (7, (.int .i64 (a0.length : Int))), (8, (.int .i64 0))]) ⟨rfl, rfl, rfl, rfl, trivial⟩
  refine e_then ?_; obtain ⟨o46, ho47, hK48⟩ := bnd_some hF
  obtain ⟨n49, hn50⟩ := lp_some ho47; clear ho47
  refine c_loop (fun a w => Fr 19 [] a ∧ Chg [] W w ∧ o46 = .inl ()) (fun n a w => ∃ (i23 : Int), Fr 19 [(0, va0), (1, (.int .i64 a1)), (7, (.int .i64 (a0.length : Int))), (8, (.int .i64 i23))] a ∧ Chg [] W w ∧ InI i23 ∧ lpN (fun s => F_slices_Index_int64_l1 a0 a1 s) n i23 = some o46) n49 ⟨0, ha.sub ⟨rfl, rfl, rfl, rfl, trivial⟩, hE, (show InI 0 from by decide), hn50⟩ ?_ ?_
  · rintro m54 a w22 ⟨i23, ha, hE25, hI24, hF⟩
    cases m54 with
    | zero => exact (lpN_zero hF).elim
    | succ m54 =>
      obtain ⟨z53, hF, hN52⟩ := lpN_succ hF
      have hF : F_slices_Index_int64_l1 a0 a1 i23 = some z53 := hF; unfold F_slices_Index_int64_l1 at hF
      refine wp_seq ?_; refine wp_region_lit ?_; refine op_g ha rfl (g_lss rfl rfl) ?_; clear ha a; intro a ha; refine wpList_nil ?_; replace ha := ha.sub (σ' := [(0, va0), (1, (.int .i64 a1)), (7, (.int .i64 (a0.length : Int))), (8, (.int .i64 i23)), (9, (.bool (decide (i23 < (a0.length : Int)))))]) ⟨rfl, rfl, rfl, rfl, rfl, trivial⟩; refine e_then ?_; refine wp_seq ?_; refine c_cond (i23 < (a0.length : Int)) ha rfl (decide_eq_true_iff) (fun hp55 => ?_) (fun hp55 => ?_)
      · replace hF := if_t hp55 hF
        refine wp_skip ?_; refine e_then ?_; refine wp_seq ?_; refine wp_block ?_; refine wp_seq ?_; refine wp_region_lit ?_; refine op_g ha rfl (g_move rfl) ?_; clear ha a; intro a ha; refine op_g ha rfl (g_assign rfl) ?_; clear ha a; intro a ha; refine wpList_nil ?_; replace ha := ha.sub (σ' := [(0, va0), (1, (.int .i64 a1)), (5, (.int .i64 i23)), (7, (.int .i64 (a0.length : Int))), (8, (.int .i64 i23))]) ⟨rfl, rfl, rfl, rfl, rfl, trivial⟩; refine e_then ?_; refine wp_seq ?_; refine wp_region_lit ?_; (iterate 3 refine op_g ha rfl (g_move rfl) ?_; clear ha a; intro a ha); obtain ⟨x56, g57, gx58, hF⟩ := idx_some hF
        obtain ⟨p59, cs60, f61, hf62, hpb63, hat64, hr65, hi66⟩ := ha0.at g57 gx58
        obtain ⟨rfl, hI67, rfl⟩ := hr65
        refine op_g ha rfl (hi66.gives sl29 rfl rfl) ?_; clear ha a; intro a ha; refine op_g ha rfl (g_load0 hE25 Tryd.isAgg2 rfl hat64.one) ?_; clear ha a; intro a ha; refine op_g ha rfl (g_eql rfl rfl) ?_; clear ha a; intro a ha; refine wpList_nil ?_; replace ha := ha.sub (σ' := [(0, va0), (1, (.int .i64 a1)), (5, (.int .i64 i23)), (7, (.int .i64 (a0.length : Int))), (8, (.int .i64 i23)), (16, (.bool (decide (a1 = x56))))]) ⟨rfl, rfl, rfl, rfl, rfl, rfl, trivial⟩; refine e_then ?_; refine c_cond (a1 = x56) ha rfl (decide_eq_true_iff) (fun hp68 => ?_) (fun hp68 => ?_)
        · replace hF := if_t hp68 hF
          refine wp_seq ?_; refine wp_region_lit ?_; refine op_g ha rfl (g_move rfl) ?_; clear ha a; intro a ha; refine op_g ha rfl (g_assign rfl) ?_; clear ha a; intro a ha; refine wpList_nil ?_; replace ha := ha.sub (σ' := [(4, (.int .i64 i23))]) ⟨rfl, trivial⟩; refine e_then ?_; refine wp_ret ?_; refine e_blk_ret ?_; refine e_then_ret ?_; refine e_lq_ret ?_; refine e_then_ret ?_; obtain rfl := Option.some.inj hF
          have e69 := LK_inr hN52; subst e69
          have e70 := BK_inr hK48; subst e70
          exact f_ret1 ha rfl rfl ⟨⟨rfl, hI24⟩, hE25⟩
        replace hF := if_f hp68 hF; refine wp_skip ?_; refine e_blk ?_; refine e_then ?_; refine wp_region_lit ?_; obtain ⟨hI71, hF⟩ := ck_some hF; refine op_g ha rfl (g_add rfl rfl hI71) ?_; clear ha a; intro a ha; refine op_g ha rfl (g_move rfl) ?_; clear ha a; intro a ha; refine wpList_nil ?_; replace ha := ha.sub (σ' := [(0, va0), (1, (.int .i64 a1)), (7, (.int .i64 (a0.length : Int))), (8, (.int .i64 (i23 + 1)))]) ⟨rfl, rfl, rfl, rfl, trivial⟩; refine e_lq ?_; obtain rfl := Option.some.inj hF
        exact ⟨_, Nat.lt_succ_self _, i23 + 1, ha.sub ⟨rfl, rfl, rfl, rfl, trivial⟩, hE25, hI71, hN52⟩
      replace hF := if_f hp55 hF; refine wp_exit ?_; refine e_then_exit ?_; refine e_lq_eq ?_; obtain rfl := Option.some.inj hF
      exact ⟨ha.sub trivial, hE25, (LK_inr hN52).symm⟩
  rintro a w45 ⟨ha, hE51, rfl⟩
  have hF : F_slices_Index_int64_k2 = some _ := hK48; clear hK48; unfold F_slices_Index_int64_k2 at hF
  refine e_then ?_; refine wp_seq ?_; refine wp_region_lit ?_; refine op_g ha rfl (g_assign rfl) ?_; clear ha a; intro a ha; refine wpList_nil ?_; refine e_then ?_; refine wp_ret ?_; obtain rfl := Option.some.inj hF
  exact f_ret1 ha rfl rfl ⟨⟨rfl, (show InI (-1) from by decide)⟩, hE51⟩
set_option maxHeartbeats 2000000 in
theorem W_slices_Contains_int64 {W : World} {va0 : Value} {fa0 : List Nat} {a0 : (List Int)} (ha0 : Ro Rp.int W fa0 va0 a0) {a1 : Int} (ha1 : InI a1) {r : Bool} (hF : F_slices_Contains_int64 a0 a1 = some r) :
    Calls Tryd.prog 66 [va0, .int .i64 a1].toArray W (Ret fun u w' => u = .bool r ∧ Ext W w') := by
  refine f_enter Tryd.func66 rfl Tryd.ntmps66 rfl ?_
  intro a ha
  replace ha : Fr 9 [(0, va0), (1, (.int .i64 a1))] a := ha
  have hE : Chg [] W W := Chg.refl _ _
  unfold F_slices_Contains_int64 at hF
  refine wp_seq ?_; refine wp_region_lit ?_; refine op_g ha rfl (g_assign rfl) ?_; clear ha a; intro a ha; refine wpList_nil ?_; replace ha := ha.sub (σ' := [(0, va0), (1, (.int .i64 a1))]) ⟨rfl, rfl, trivial⟩; refine e_then ?_; refine wp_seq ?_; refine wp_region_lit ?_; (iterate 2 refine op_g ha rfl (g_move rfl) ?_; clear ha a; intro a ha); obtain ⟨x1, hc2, hF⟩ := cal_some hF
  refine o_call ha rfl rfl Tryd.call73 (W_slices_Index_int64 (ha0.ext hE) ha1 hc2) ?_; clear ha a; rintro v3 w4 ⟨⟨rfl, hI6⟩, hx5⟩ a ha
  have hE7 := Ext.trans hE hx5
  refine op_g ha rfl (g_geq rfl rfl) ?_; clear ha a; intro a ha; refine op_g ha rfl (g_assign rfl) ?_; clear ha a; intro a ha; refine wpList_nil ?_; replace ha := ha.sub (σ' := [(4, (.bool (decide (0 ≤ x1))))]) ⟨rfl, trivial⟩; refine e_then ?_; refine wp_ret ?_; obtain rfl := Option.some.inj hF
  exact f_ret1 ha rfl rfl ⟨rfl, hE7⟩
set_option maxHeartbeats 2000000 in
theorem W_impl_GraphOk {W : World} {va0_0 : Value} {fa0_0 : List Nat} {a0_0 : (List (List Int))} (ha0_0 : Ro (Rp.sl 2 Rp.int) W fa0_0 va0_0 a0_0) {r : Bool} (hF : F_impl_GraphOk a0_0 = some r) :
    Calls Tryd.prog 49 [.agg #[va0_0]].toArray W (Ret fun u w' => u = .bool r ∧ Ext W w') := by
  refine f_enter Tryd.func49 rfl Tryd.ntmps49 rfl ?_
  intro a ha
  replace ha : Fr 61 [(0, (.agg #[va0_0]))] a := ha
  have hE : Chg [] W W := Chg.refl _ _
  unfold F_impl_GraphOk at hF
  refine wp_seq ?_; refine wp_region_lit ?_
  refine o_box ha rfl rfl rfl ?_; clear ha a; intro b1 w2 hB3 hx4 hlo5 a ha
  have q6 := Zn.one hlo5
  have q7 := Zn.upD q6 hE
  have hE8 := Ext.trans hE hx4
  refine op_g ha rfl (g_assign rfl) ?_; clear ha a; intro a ha; refine wpList_nil ?_; replace ha := ha.sub (σ' := [(1, (.pointer (some ⟨b1, 0, none⟩)))]) ⟨rfl, trivial⟩; refine e_then ?_; refine wp_seq ?_; refine wp_region_lit ?_; refine op_g ha rfl (g_field0 st31_0 rfl) ?_; clear ha a; intro a ha; refine op_g ha rfl (g_load Tryd.isAgg22 rfl (hB3.cell rfl)) ?_; clear ha a; intro a ha; refine op_g ha rfl (g_lenR sl22.und ha0_0 rfl) ?_; clear ha a; intro a ha; refine op_g ha rfl (g_assign rfl) ?_; clear ha a; intro a ha; refine wpList_nil ?_; replace ha := ha.sub (σ' := [(1, (.pointer (some ⟨b1, 0, none⟩))), (3, (.int .i64 (a0_0.length : Int)))]) ⟨rfl, rfl, trivial⟩
  refine e_then ?_; refine wp_seq ?_; refine wp_seq ?_; refine wp_region_lit ?_; refine op_g ha rfl (g_move rfl) ?_; clear ha a; intro a ha; refine op_g ha rfl (g_lss rfl rfl) ?_; clear ha a; intro a ha; refine op_g ha rfl (g_move rfl) ?_; clear ha a; intro a ha
  by_cases hp11 : (a0_0.length : Int) < 1
  · replace hF := if_t hp11 hF
    rw [show (decide ((a0_0.length : Int) < 1)) = true from (decide_eq_true_iff).2 hp11] at ha
    (iterate 2 refine op_unwant ha rfl (yields ha rfl rfl) rfl ?_; clear ha a; intro a ha); refine op_g ha rfl (g_pick rfl rfl) ?_; clear ha a; intro a ha; refine wpList_nil ?_; replace ha := ha.sub (σ' := [(1, (.pointer (some ⟨b1, 0, none⟩))), (3, (.int .i64 (a0_0.length : Int))), (18, (.bool true))]) ⟨rfl, rfl, rfl, trivial⟩; refine e_then ?_; refine c_true ha rfl ?_; refine wp_seq ?_; refine wp_region_lit ?_; refine op_g ha rfl (g_assign rfl) ?_; clear ha a; intro a ha; refine wpList_nil ?_; replace ha := ha.sub (σ' := [(2, (.bool false))]) ⟨rfl, trivial⟩; refine e_then ?_; refine wp_ret ?_
    refine e_then_ret ?_; obtain rfl := Option.some.inj hF
    exact f_ret1 ha rfl rfl ⟨rfl, hE8⟩
  replace hF := if_f hp11 hF
  rw [show (decide ((a0_0.length : Int) < 1)) = false from b_false (decide_eq_true_iff) hp11] at ha
  refine op_want (yields ha rfl rfl) ?_; refine op_g ha rfl (g_move rfl) ?_; clear ha a; intro a ha; refine op_want (yields ha rfl rfl) ?_; refine op_g ha rfl (g_gtr rfl rfl) ?_; clear ha a; intro a ha; refine op_g ha rfl (g_pick rfl rfl) ?_; clear ha a; intro a ha; refine wpList_nil ?_; replace ha := ha.sub (σ' := [(1, (.pointer (some ⟨b1, 0, none⟩))), (3, (.int .i64 (a0_0.length : Int))), (18, (.bool (decide (16 < (a0_0.length : Int)))))]) ⟨rfl, rfl, rfl, trivial⟩; refine e_then ?_; refine c_cond (16 < (a0_0.length : Int)) ha rfl (decide_eq_true_iff) (fun hp12 => ?_) (fun hp12 => ?_)
  · replace hF := if_t hp12 hF
    refine wp_seq ?_; refine wp_region_lit ?_; refine op_g ha rfl (g_assign rfl) ?_; clear ha a; intro a ha; refine wpList_nil ?_; replace ha := ha.sub (σ' := [(2, (.bool false))]) ⟨rfl, trivial⟩; refine e_then ?_; refine wp_ret ?_; refine e_then_ret ?_; obtain rfl := Option.some.inj hF
    exact f_ret1 ha rfl rfl ⟨rfl, hE8⟩
  replace hF := if_f hp12 hF; refine wp_skip ?_; refine e_then ?_; refine wp_seq ?_; refine wp_seq ?_; refine wp_region_lit ?_; refine op_g ha rfl (g_field0 st31_0 rfl) ?_; clear ha a; intro a ha; refine op_g ha rfl (g_load Tryd.isAgg22 rfl (hB3.cell rfl)) ?_; clear ha a; intro a ha; refine op_g ha rfl (g_lenR sl22.und ha0_0 rfl) ?_; clear ha a; intro a ha; refine op_g ha rfl (g_move rfl) ?_; clear ha a; intro a ha; refine wpList_nil ?_; replace ha := ha.sub (σ' := [(1, (.pointer (some ⟨b1, 0, none⟩))), (3, (.int .i64 (a0_0.length : Int))), (20, va0_0), (21, (.int .i64 (a0_0.length : Int))), (22, (.int .i64 0))]) ⟨rfl, rfl, rfl, rfl, rfl, trivial⟩
  refine e_then ?_; obtain ⟨o98, ho99, hK100⟩ := bnd_some hF
  obtain ⟨n101, hn102⟩ := lp_some ho99; clear ho99
  refine c_loop (fun a w => Fr 61 [(1, (.pointer (some ⟨b1, 0, none⟩)))] a ∧ Chg [] W w ∧ Bx w b1 [va0_0] 31 ∧ Zn W (b1 : Int) ∧ o98 = .inl ()) (fun n a w => ∃ (i56 : Int), Fr 61 [(1, (.pointer (some ⟨b1, 0, none⟩))), (3, (.int .i64 (a0_0.length : Int))), (20, va0_0), (21, (.int .i64 (a0_0.length : Int))), (22, (.int .i64 i56))] a ∧ Chg [] W w ∧ InI i56 ∧ Bx w b1 [va0_0] 31 ∧ Zn W (b1 : Int) ∧ lpN (fun s => F_impl_GraphOk_l1 a0_0 s) n i56 = some o98) n101 ⟨0, ha.sub ⟨rfl, rfl, rfl, rfl, rfl, trivial⟩, hE8, (show InI 0 from by decide), hB3, q7, hn102⟩ ?_ ?_
  · rintro m106 a w53 ⟨i56, ha, hE58, hI57, hB54, z55, hF⟩
    cases m106 with
    | zero => exact (lpN_zero hF).elim
    | succ m106 =>
      obtain ⟨z105, hF, hN104⟩ := lpN_succ hF
      have hF : F_impl_GraphOk_l1 a0_0 i56 = some z105 := hF; unfold F_impl_GraphOk_l1 at hF
      refine wp_seq ?_; refine wp_region_lit ?_; refine op_g ha rfl (g_lss rfl rfl) ?_; clear ha a; intro a ha; refine wpList_nil ?_; replace ha := ha.sub (σ' := [(1, (.pointer (some ⟨b1, 0, none⟩))), (3, (.int .i64 (a0_0.length : Int))), (20, va0_0), (21, (.int .i64 (a0_0.length : Int))), (22, (.int .i64 i56)), (23, (.bool (decide (i56 < (a0_0.length : Int)))))]) ⟨rfl, rfl, rfl, rfl, rfl, rfl, trivial⟩; refine e_then ?_; refine wp_seq ?_; refine c_cond (i56 < (a0_0.length : Int)) ha rfl (decide_eq_true_iff) (fun hp107 => ?_) (fun hp107 => ?_)
      · replace hF := if_t hp107 hF
        refine wp_skip ?_; refine e_then ?_; refine wp_seq ?_; refine wp_block ?_; refine wp_seq ?_; refine wp_region_lit ?_; refine op_g ha rfl (g_move rfl) ?_; clear ha a; intro a ha; obtain ⟨x108, g109, gx110, hF⟩ := idx_some hF
        obtain ⟨p111, cs112, f113, hf114, hpb115, hat116, hr117, hi118⟩ := ha0_0.at g109 gx110
        obtain ⟨v119, rfl, h120⟩ := hr117
        have h120 : Ro Rp.int W f113 v119 x108 := h120
        refine op_g ha rfl (hi118.gives sl22 rfl rfl) ?_; clear ha a; intro a ha; refine op_g ha rfl (g_load0 hE58 Tryd.isAgg29 rfl hat116.one) ?_; clear ha a; intro a ha; (iterate 2 refine op_g ha rfl (g_assign rfl) ?_; clear ha a; intro a ha); refine wpList_nil ?_; replace ha := ha.sub (σ' := [(1, (.pointer (some ⟨b1, 0, none⟩))), (3, (.int .i64 (a0_0.length : Int))), (4, (.int .i64 i56)), (5, v119), (20, va0_0), (21, (.int .i64 (a0_0.length : Int))), (22, (.int .i64 i56))]) ⟨rfl, rfl, rfl, rfl, rfl, rfl, rfl, trivial⟩; refine e_then ?_; refine wp_seq ?_; refine wp_region_lit ?_; (iterate 2 refine op_g ha rfl (g_move rfl) ?_; clear ha a; intro a ha)
        obtain ⟨x122, hc123, hF⟩ := cal_some hF
        refine o_call ha rfl rfl Tryd.call51 (W_impl_increasing (h120.ext hE58) ha0_0.len hc123) ?_; clear ha a; rintro v124 w125 ⟨rfl, hx126⟩ a ha
        replace hB54 := hB54.ext hx126
        have hE127 := Ext.trans hE58 hx126
        refine op_g ha rfl (g_not rfl) ?_; clear ha a; intro a ha; refine op_g ha rfl (g_move rfl) ?_; clear ha a; intro a ha
        by_cases hp128 : ¬ (x122 = true)
        · replace hF := if_t hp128 hF
          rw [show (!x122) = true from (n_iff (Iff.rfl)).2 hp128] at ha
          (iterate 3 refine op_unwant ha rfl (yields ha rfl rfl) rfl ?_; clear ha a; intro a ha); refine op_g ha rfl (g_pick rfl rfl) ?_; clear ha a; intro a ha; refine wpList_nil ?_; replace ha := ha.sub (σ' := [(1, (.pointer (some ⟨b1, 0, none⟩))), (3, (.int .i64 (a0_0.length : Int))), (20, va0_0), (21, (.int .i64 (a0_0.length : Int))), (22, (.int .i64 i56)), (35, (.bool true))]) ⟨rfl, rfl, rfl, rfl, rfl, rfl, trivial⟩; refine e_then ?_; refine c_true ha rfl ?_; refine wp_seq ?_; refine wp_region_lit ?_; refine op_g ha rfl (g_assign rfl) ?_; clear ha a; intro a ha; refine wpList_nil ?_; replace ha := ha.sub (σ' := [(2, (.bool false))]) ⟨rfl, trivial⟩
          refine e_then ?_; refine wp_ret ?_; refine e_blk_ret ?_; refine e_then_ret ?_; refine e_lq_ret ?_; refine e_then_ret ?_; obtain rfl := Option.some.inj hF
          have e129 := LK_inr hN104; subst e129
          have e130 := BK_inr hK100; subst e130
          exact f_ret1 ha rfl rfl ⟨rfl, hE127⟩
        replace hF := if_f hp128 hF
        rw [show (!x122) = false from b_false (n_iff (Iff.rfl)) hp128] at ha
        refine op_want (yields ha rfl rfl) ?_; refine op_g ha rfl (g_move rfl) ?_; clear ha a; intro a ha; refine op_want (yields ha rfl rfl) ?_; refine op_g ha rfl (g_move rfl) ?_; clear ha a; intro a ha; refine op_want (yields ha rfl rfl) ?_; obtain ⟨x131, hc132, hF⟩ := cal_some hF
        refine o_call ha rfl rfl Tryd.call66 (W_slices_Contains_int64 (h120.ext hE127) hI57 hc132) ?_; clear ha a; rintro v133 w134 ⟨rfl, hx135⟩ a ha
        replace hB54 := hB54.ext hx135
        have hE136 := Ext.trans hE127 hx135
        refine op_g ha rfl (g_pick rfl rfl) ?_; clear ha a; intro a ha; refine wpList_nil ?_; replace ha := ha.sub (σ' := [(1, (.pointer (some ⟨b1, 0, none⟩))), (3, (.int .i64 (a0_0.length : Int))), (20, va0_0), (21, (.int .i64 (a0_0.length : Int))), (22, (.int .i64 i56)), (32, v119), (33, (.int .i64 i56)), (34, (.bool x131)), (35, (.bool x131))]) ⟨rfl, rfl, rfl, rfl, rfl, rfl, rfl, rfl, rfl, trivial⟩; refine e_then ?_; refine c_cond (x131 = true) ha rfl (Iff.rfl) (fun hp137 => ?_) (fun hp137 => ?_)
        · replace hF := if_t hp137 hF
          refine wp_seq ?_; refine wp_region_lit ?_; refine op_g ha rfl (g_assign rfl) ?_; clear ha a; intro a ha; refine wpList_nil ?_; replace ha := ha.sub (σ' := [(2, (.bool false))]) ⟨rfl, trivial⟩; refine e_then ?_; refine wp_ret ?_; refine e_blk_ret ?_; refine e_then_ret ?_; refine e_lq_ret ?_; refine e_then_ret ?_; obtain rfl := Option.some.inj hF
          have e138 := LK_inr hN104; subst e138
          have e139 := BK_inr hK100; subst e139
          exact f_ret1 ha rfl rfl ⟨rfl, hE136⟩
        replace hF := if_f hp137 hF; refine wp_skip ?_; refine e_blk ?_; refine e_then ?_; refine wp_region_lit ?_; obtain ⟨hI140, hF⟩ := ck_some hF; refine op_g ha rfl (g_add rfl rfl hI140) ?_; clear ha a; intro a ha; refine op_g ha rfl (g_move rfl) ?_; clear ha a; intro a ha; refine wpList_nil ?_; replace ha := ha.sub (σ' := [(1, (.pointer (some ⟨b1, 0, none⟩))), (3, (.int .i64 (a0_0.length : Int))), (20, va0_0), (21, (.int .i64 (a0_0.length : Int))), (22, (.int .i64 (i56 + 1))), (32, v119), (33, (.int .i64 i56)), (34, (.bool x131))]) ⟨rfl, rfl, rfl, rfl, rfl, rfl, rfl, rfl, trivial⟩; refine e_lq ?_
        obtain rfl := Option.some.inj hF
        exact ⟨_, Nat.lt_succ_self _, i56 + 1, ha.sub ⟨rfl, rfl, rfl, rfl, rfl, trivial⟩, hE136, hI140, hB54, z55, hN104⟩
      replace hF := if_f hp107 hF; refine wp_exit ?_; refine e_then_exit ?_; refine e_lq_eq ?_; obtain rfl := Option.some.inj hF
      exact ⟨ha.sub ⟨rfl, trivial⟩, hE58, hB54, z55, (LK_inr hN104).symm⟩
  rintro a w95 ⟨ha, hE103, hB96, z97, rfl⟩
  have hF : F_impl_GraphOk_k2 a0_0 = some _ := hK100; clear hK100; unfold F_impl_GraphOk_k2 at hF
  refine e_then ?_; refine wp_seq ?_; refine wp_seq ?_; refine wp_region_lit ?_; refine op_g ha rfl (g_field0 st31_0 rfl) ?_; clear ha a; intro a ha; refine op_g ha rfl (g_load Tryd.isAgg22 rfl (hB96.cell rfl)) ?_; clear ha a; intro a ha; refine op_g ha rfl (g_lenR sl22.und ha0_0 rfl) ?_; clear ha a; intro a ha; refine op_g ha rfl (g_move rfl) ?_; clear ha a; intro a ha; refine wpList_nil ?_; replace ha := ha.sub (σ' := [(1, (.pointer (some ⟨b1, 0, none⟩))), (38, va0_0), (39, (.int .i64 (a0_0.length : Int))), (40, (.int .i64 0))]) ⟨rfl, rfl, rfl, rfl, trivial⟩; refine e_then ?_; obtain ⟨o477, ho478, hK479⟩ := bnd_some hF
  obtain ⟨n480, hn481⟩ := lp_some ho478; clear ho478
  refine c_loop (fun a w => Fr 61 [] a ∧ Chg [] W w ∧ o477 = .inl ()) (fun n a w => ∃ (i311 : Int), Fr 61 [(1, (.pointer (some ⟨b1, 0, none⟩))), (38, va0_0), (39, (.int .i64 (a0_0.length : Int))), (40, (.int .i64 i311))] a ∧ Chg [] W w ∧ InI i311 ∧ Bx w b1 [va0_0] 31 ∧ Zn W (b1 : Int) ∧ lpN (fun s => F_impl_GraphOk_l3 a0_0 s) n i311 = some o477) n480 ⟨0, ha.sub ⟨rfl, rfl, rfl, rfl, trivial⟩, hE103, (show InI 0 from by decide), hB96, z97, hn481⟩ ?_ ?_
  · rintro m485 a w308 ⟨i311, ha, hE313, hI312, hB309, z310, hF⟩
    cases m485 with
    | zero => exact (lpN_zero hF).elim
    | succ m485 =>
      obtain ⟨z484, hF, hN483⟩ := lpN_succ hF
      have hF : F_impl_GraphOk_l3 a0_0 i311 = some z484 := hF; unfold F_impl_GraphOk_l3 at hF
      refine wp_seq ?_; refine wp_region_lit ?_; refine op_g ha rfl (g_lss rfl rfl) ?_; clear ha a; intro a ha; refine wpList_nil ?_; replace ha := ha.sub (σ' := [(1, (.pointer (some ⟨b1, 0, none⟩))), (38, va0_0), (39, (.int .i64 (a0_0.length : Int))), (40, (.int .i64 i311)), (41, (.bool (decide (i311 < (a0_0.length : Int)))))]) ⟨rfl, rfl, rfl, rfl, rfl, trivial⟩; refine e_then ?_; refine wp_seq ?_; refine c_cond (i311 < (a0_0.length : Int)) ha rfl (decide_eq_true_iff) (fun hp486 => ?_) (fun hp486 => ?_)
      · replace hF := if_t hp486 hF
        refine wp_skip ?_; refine e_then ?_; refine wp_seq ?_; refine wp_block ?_; refine wp_seq ?_; refine wp_region_lit ?_; refine op_g ha rfl (g_move rfl) ?_; clear ha a; intro a ha; obtain ⟨x487, g488, gx489, hF⟩ := idx_some hF
        obtain ⟨p490, cs491, f492, hf493, hpb494, hat495, hr496, hi497⟩ := ha0_0.at g488 gx489
        obtain ⟨v498, rfl, h499⟩ := hr496
        have h499 : Ro Rp.int W f492 v498 x487 := h499
        refine op_g ha rfl (hi497.gives sl22 rfl rfl) ?_; clear ha a; intro a ha; refine op_g ha rfl (g_load0 hE313 Tryd.isAgg29 rfl hat495.one) ?_; clear ha a; intro a ha; (iterate 2 refine op_g ha rfl (g_assign rfl) ?_; clear ha a; intro a ha); refine wpList_nil ?_; replace ha := ha.sub (σ' := [(1, (.pointer (some ⟨b1, 0, none⟩))), (6, (.int .i64 i311)), (7, v498), (38, va0_0), (39, (.int .i64 (a0_0.length : Int))), (40, (.int .i64 i311))]) ⟨rfl, rfl, rfl, rfl, rfl, rfl, trivial⟩; refine e_then ?_; refine wp_seq ?_; refine wp_region_lit ?_; refine op_g ha rfl (g_move rfl) ?_; clear ha a; intro a ha
        refine op_g ha rfl (g_lenR sl29.und h499 rfl) ?_; clear ha a; intro a ha; refine op_g ha rfl (g_move rfl) ?_; clear ha a; intro a ha; refine wpList_nil ?_; replace ha := ha.sub (σ' := [(1, (.pointer (some ⟨b1, 0, none⟩))), (6, (.int .i64 i311)), (38, va0_0), (39, (.int .i64 (a0_0.length : Int))), (40, (.int .i64 i311)), (45, v498), (46, (.int .i64 (x487.length : Int))), (47, (.int .i64 0))]) ⟨rfl, rfl, rfl, rfl, rfl, rfl, rfl, rfl, trivial⟩; refine e_then ?_; obtain ⟨o596, ho597, hK598⟩ := bnd_some hF
        obtain ⟨n599, hn600⟩ := lp_some ho597; clear ho597
        refine c_loop (fun a w => Fr 61 [(1, (.pointer (some ⟨b1, 0, none⟩))), (38, va0_0), (39, (.int .i64 (a0_0.length : Int))), (40, (.int .i64 i311))] a ∧ Chg [] W w ∧ Bx w b1 [va0_0] 31 ∧ Zn W (b1 : Int) ∧ o596 = .inl ()) (fun n a w => ∃ (i549 : Int), Fr 61 [(1, (.pointer (some ⟨b1, 0, none⟩))), (6, (.int .i64 i311)), (38, va0_0), (39, (.int .i64 (a0_0.length : Int))), (40, (.int .i64 i311)), (45, v498), (46, (.int .i64 (x487.length : Int))), (47, (.int .i64 i549))] a ∧ Chg [] W w ∧ InI i549 ∧ Bx w b1 [va0_0] 31 ∧ Zn W (b1 : Int) ∧ lpN (fun s => F_impl_GraphOk_l4 a0_0 i311 x487 s) n i549 = some o596) n599 ⟨0, ha.sub ⟨rfl, rfl, rfl, rfl, rfl, rfl, rfl, rfl, trivial⟩, hE313, (show InI 0 from by decide), hB309, z310, hn600⟩ ?_ ?_
        · rintro m604 a w546 ⟨i549, ha, hE551, hI550, hB547, z548, hF⟩
          cases m604 with
          | zero => exact (lpN_zero hF).elim
          | succ m604 =>
            obtain ⟨z603, hF, hN602⟩ := lpN_succ hF
            have hF : F_impl_GraphOk_l4 a0_0 i311 x487 i549 = some z603 := hF; unfold F_impl_GraphOk_l4 at hF
            refine wp_seq ?_; refine wp_region_lit ?_; refine op_g ha rfl (g_lss rfl rfl) ?_; clear ha a; intro a ha; refine wpList_nil ?_; replace ha := ha.sub (σ' := [(1, (.pointer (some ⟨b1, 0, none⟩))), (6, (.int .i64 i311)), (38, va0_0), (39, (.int .i64 (a0_0.length : Int))), (40, (.int .i64 i311)), (45, v498), (46, (.int .i64 (x487.length : Int))), (47, (.int .i64 i549)), (48, (.bool (decide (i549 < (x487.length : Int)))))]) ⟨rfl, rfl, rfl, rfl, rfl, rfl, rfl, rfl, rfl, trivial⟩; refine e_then ?_; refine wp_seq ?_; refine c_cond (i549 < (x487.length : Int)) ha rfl (decide_eq_true_iff) (fun hp605 => ?_) (fun hp605 => ?_)
            · replace hF := if_t hp605 hF
              refine wp_skip ?_; refine e_then ?_; refine wp_seq ?_; refine wp_block ?_; refine wp_seq ?_; refine wp_region_lit ?_; obtain ⟨x606, g607, gx608, hF⟩ := idx_some hF
              obtain ⟨p609, cs610, f611, hf612, hpb613, hat614, hr615, hi616⟩ := h499.at g607 gx608
              obtain ⟨rfl, hI617, rfl⟩ := hr615
              refine op_g ha rfl (hi616.gives sl29 rfl rfl) ?_; clear ha a; intro a ha; refine op_g ha rfl (g_load0 hE551 Tryd.isAgg2 rfl hat614.one) ?_; clear ha a; intro a ha; refine op_g ha rfl (g_assign rfl) ?_; clear ha a; intro a ha; refine wpList_nil ?_; replace ha := ha.sub (σ' := [(1, (.pointer (some ⟨b1, 0, none⟩))), (6, (.int .i64 i311)), (9, (.int .i64 x606)), (38, va0_0), (39, (.int .i64 (a0_0.length : Int))), (40, (.int .i64 i311)), (45, v498), (46, (.int .i64 (x487.length : Int))), (47, (.int .i64 i549))]) ⟨rfl, rfl, rfl, rfl, rfl, rfl, rfl, rfl, rfl, trivial⟩; refine e_then ?_; refine wp_seq ?_
              refine wp_region_lit ?_; refine op_g ha rfl (g_field0 st31_0 rfl) ?_; clear ha a; intro a ha; refine op_g ha rfl (g_load Tryd.isAgg22 rfl (hB547.cell rfl)) ?_; clear ha a; intro a ha; refine op_g ha rfl (g_move rfl) ?_; clear ha a; intro a ha; obtain ⟨x618, g619, gx620, hF⟩ := idx_some hF
              obtain ⟨p621, cs622, f623, hf624, hpb625, hat626, hr627, hi628⟩ := ha0_0.at g619 gx620
              obtain ⟨v629, rfl, h630⟩ := hr627
              have h630 : Ro Rp.int W f623 v629 x618 := h630
              refine op_g ha rfl (hi628.gives sl22 rfl rfl) ?_; clear ha a; intro a ha; refine op_g ha rfl (g_load0 hE551 Tryd.isAgg29 rfl hat626.one) ?_; clear ha a; intro a ha; refine op_g ha rfl (g_move rfl) ?_; clear ha a; intro a ha; obtain ⟨x632, hc633, hF⟩ := cal_some hF
              refine o_call ha rfl rfl Tryd.call66 (W_slices_Contains_int64 (h630.ext hE551) hI312 hc633) ?_; clear ha a; rintro v634 w635 ⟨rfl, hx636⟩ a ha
              replace hB547 := hB547.ext hx636
              have hE637 := Ext.trans hE551 hx636
              refine op_g ha rfl (g_not rfl) ?_; clear ha a; intro a ha; refine wpList_nil ?_; replace ha := ha.sub (σ' := [(1, (.pointer (some ⟨b1, 0, none⟩))), (6, (.int .i64 i311)), (38, va0_0), (39, (.int .i64 (a0_0.length : Int))), (40, (.int .i64 i311)), (45, v498), (46, (.int .i64 (x487.length : Int))), (47, (.int .i64 i549)), (58, (.bool (!x632)))]) ⟨rfl, rfl, rfl, rfl, rfl, rfl, rfl, rfl, rfl, trivial⟩; refine e_then ?_; refine c_cond (¬ (x632 = true)) ha rfl (n_iff (Iff.rfl)) (fun hp638 => ?_) (fun hp638 => ?_)
              · replace hF := if_t hp638 hF
                refine wp_seq ?_; refine wp_region_lit ?_; refine op_g ha rfl (g_assign rfl) ?_; clear ha a; intro a ha; refine wpList_nil ?_; replace ha := ha.sub (σ' := [(2, (.bool false))]) ⟨rfl, trivial⟩; refine e_then ?_; refine wp_ret ?_; refine e_blk_ret ?_; refine e_then_ret ?_; refine e_lq_ret ?_; refine e_blk_ret ?_; refine e_then_ret ?_; refine e_lq_ret ?_; refine e_then_ret ?_; obtain rfl := Option.some.inj hF
                have e639 := LK_inr hN602; subst e639
                have e640 := BK_inr hK598; subst e640
                have e641 := LK_inr hN483; subst e641
                have e642 := BK_inr hK479; subst e642
                exact f_ret1 ha rfl rfl ⟨rfl, hE637⟩
              replace hF := if_f hp638 hF; refine wp_skip ?_; refine e_blk ?_; refine e_then ?_; refine wp_region_lit ?_; obtain ⟨hI643, hF⟩ := ck_some hF; refine op_g ha rfl (g_add rfl rfl hI643) ?_; clear ha a; intro a ha; refine op_g ha rfl (g_move rfl) ?_; clear ha a; intro a ha; refine wpList_nil ?_; replace ha := ha.sub (σ' := [(1, (.pointer (some ⟨b1, 0, none⟩))), (6, (.int .i64 i311)), (38, va0_0), (39, (.int .i64 (a0_0.length : Int))), (40, (.int .i64 i311)), (45, v498), (46, (.int .i64 (x487.length : Int))), (47, (.int .i64 (i549 + 1)))]) ⟨rfl, rfl, rfl, rfl, rfl, rfl, rfl, rfl, trivial⟩
              refine e_lq ?_; obtain rfl := Option.some.inj hF
              exact ⟨_, Nat.lt_succ_self _, i549 + 1, ha.sub ⟨rfl, rfl, rfl, rfl, rfl, rfl, rfl, rfl, trivial⟩, hE637, hI643, hB547, z548, hN602⟩
            replace hF := if_f hp605 hF; refine wp_exit ?_; refine e_then_exit ?_; refine e_lq_eq ?_; obtain rfl := Option.some.inj hF
            exact ⟨ha.sub ⟨rfl, rfl, rfl, rfl, trivial⟩, hE551, hB547, z548, (LK_inr hN602).symm⟩
        rintro a w593 ⟨ha, hE601, hB594, z595, rfl⟩
        have hF : F_impl_GraphOk_k5 i311 = some _ := hK598; clear hK598; unfold F_impl_GraphOk_k5 at hF
        refine e_blk ?_; refine e_then ?_; refine wp_region_lit ?_; obtain ⟨hI645, hF⟩ := ck_some hF; refine op_g ha rfl (g_add rfl rfl hI645) ?_; clear ha a; intro a ha; refine op_g ha rfl (g_move rfl) ?_; clear ha a; intro a ha; refine wpList_nil ?_; replace ha := ha.sub (σ' := [(1, (.pointer (some ⟨b1, 0, none⟩))), (38, va0_0), (39, (.int .i64 (a0_0.length : Int))), (40, (.int .i64 (i311 + 1)))]) ⟨rfl, rfl, rfl, rfl, trivial⟩; refine e_lq ?_; obtain rfl := Option.some.inj hF
        exact ⟨_, Nat.lt_succ_self _, i311 + 1, ha.sub ⟨rfl, rfl, rfl, rfl, trivial⟩, hE601, hI645, hB594, z595, hN483⟩
      replace hF := if_f hp486 hF; refine wp_exit ?_; refine e_then_exit ?_; refine e_lq_eq ?_; obtain rfl := Option.some.inj hF
      exact ⟨ha.sub trivial, hE313, (LK_inr hN483).symm⟩
  rintro a w476 ⟨ha, hE482, rfl⟩
  have hF : F_impl_GraphOk_k6 = some _ := hK479; clear hK479; unfold F_impl_GraphOk_k6 at hF
  refine e_then ?_; refine wp_seq ?_; refine wp_region_lit ?_; refine op_g ha rfl (g_assign rfl) ?_; clear ha a; intro a ha; refine wpList_nil ?_; refine e_then ?_; refine wp_ret ?_; obtain rfl := Option.some.inj hF
  exact f_ret1 ha rfl rfl ⟨rfl, hE482⟩
set_option maxHeartbeats 2000000 in
theorem W_slices_IndexFunc_Sint64 {W : World} {va0 : Value} {fa0 : List Nat} {a0 : (List (List Int))} (ha0 : Ro (Rp.sl 2 Rp.int) W fa0 va0 a0) {ga1 : FuncId} {ga1c : List Value} {a1 : (List Int) → Option Bool} (hga1 : ∀ w', Ext W w' → ∀ {vz0 : Value} {fz0 : List Nat} {z0 : (List Int)} (hz0 : Ro Rp.int w' fz0 vz0 z0) {r : Bool}, a1 z0 = some r → Calls Tryd.prog ga1 (([vz0] : List Value) ++ ga1c).toArray w' (Ret fun u w'' => u = .bool r ∧ Ext w' w'')) (hca1 : ∀ args w, (callFunc ga1 args).run Tryd.prog w = .ok (.enter ga1 args) w) {r : Int} (hF : F_slices_IndexFunc_Sint64 a0 a1 = some r) :
    Calls Tryd.prog 74 [va0, .func (.func ga1) #[] ga1c.toArray].toArray W (Ret fun u w' => (u = .int .i64 r ∧ InI r) ∧ Ext W w') := by
  refine f_enter Tryd.func74 rfl Tryd.ntmps74 rfl ?_
  intro a ha
  replace ha : Fr 19 [(0, va0), (1, (.func (.func ga1) #[] ga1c.toArray))] a := ha
  have hE : Chg [] W W := Chg.refl _ _
  unfold F_slices_IndexFunc_Sint64 at hF
  refine wp_seq ?_; refine wp_region_lit ?_; refine op_g ha rfl (g_assign rfl) ?_; clear ha a; intro a ha; refine wpList_nil ?_; replace ha := ha.sub (σ' := [(0, va0), (1, (.func (.func ga1) #[] ga1c.toArray))]) ⟨rfl, rfl, trivial⟩; refine e_then ?_; refine wp_seq ?_; refine wp_seq ?_; refine wp_region_lit ?_; refine op_g ha rfl (g_move rfl) ?_; clear ha a; intro a ha; refine op_g ha rfl (g_lenR sl22.und ha0 rfl) ?_; clear ha a; intro a ha; refine op_g ha rfl (g_move rfl) ?_; clear ha a; intro a ha; refine wpList_nil ?_; replace ha := ha.sub (σ' := [(0, va0), (1, (.func (.func ga1) #[] ga1c.toArray)), (7, (.int .i64 (a0.length : Int))), (8, (.int .i64 0))]) ⟨rfl, rfl, rfl, rfl, trivial⟩
  refine e_then ?_; obtain ⟨o62, ho63, hK64⟩ := bnd_some hF
  obtain ⟨n65, hn66⟩ := lp_some ho63; clear ho63
  refine c_loop (fun a w => Fr 19 [] a ∧ Chg [] W w ∧ o62 = .inl ()) (fun n a w => ∃ (i31 : Int), Fr 19 [(0, va0), (1, (.func (.func ga1) #[] ga1c.toArray)), (7, (.int .i64 (a0.length : Int))), (8, (.int .i64 i31))] a ∧ Chg [] W w ∧ InI i31 ∧ lpN (fun s => F_slices_IndexFunc_Sint64_l1 a0 a1 s) n i31 = some o62) n65 ⟨0, ha.sub ⟨rfl, rfl, rfl, rfl, trivial⟩, hE, (show InI 0 from by decide), hn66⟩ ?_ ?_
  · rintro m70 a w30 ⟨i31, ha, hE33, hI32, hF⟩
    cases m70 with
    | zero => exact (lpN_zero hF).elim
    | succ m70 =>
      obtain ⟨z69, hF, hN68⟩ := lpN_succ hF
      have hF : F_slices_IndexFunc_Sint64_l1 a0 a1 i31 = some z69 := hF; unfold F_slices_IndexFunc_Sint64_l1 at hF
      refine wp_seq ?_; refine wp_region_lit ?_; refine op_g ha rfl (g_lss rfl rfl) ?_; clear ha a; intro a ha; refine wpList_nil ?_; replace ha := ha.sub (σ' := [(0, va0), (1, (.func (.func ga1) #[] ga1c.toArray)), (7, (.int .i64 (a0.length : Int))), (8, (.int .i64 i31)), (9, (.bool (decide (i31 < (a0.length : Int)))))]) ⟨rfl, rfl, rfl, rfl, rfl, trivial⟩; refine e_then ?_; refine wp_seq ?_; refine c_cond (i31 < (a0.length : Int)) ha rfl (decide_eq_true_iff) (fun hp71 => ?_) (fun hp71 => ?_)
      · replace hF := if_t hp71 hF
        refine wp_skip ?_; refine e_then ?_; refine wp_seq ?_; refine wp_block ?_; refine wp_seq ?_; refine wp_region_lit ?_; refine op_g ha rfl (g_move rfl) ?_; clear ha a; intro a ha; refine op_g ha rfl (g_assign rfl) ?_; clear ha a; intro a ha; refine wpList_nil ?_; replace ha := ha.sub (σ' := [(0, va0), (1, (.func (.func ga1) #[] ga1c.toArray)), (5, (.int .i64 i31)), (7, (.int .i64 (a0.length : Int))), (8, (.int .i64 i31))]) ⟨rfl, rfl, rfl, rfl, rfl, trivial⟩; refine e_then ?_; refine wp_seq ?_; refine wp_region_lit ?_; (iterate 3 refine op_g ha rfl (g_move rfl) ?_; clear ha a; intro a ha)
        obtain ⟨x72, g73, gx74, hF⟩ := idx_some hF
        obtain ⟨p75, cs76, f77, hf78, hpb79, hat80, hr81, hi82⟩ := ha0.at g73 gx74
        obtain ⟨v83, rfl, h84⟩ := hr81
        have h84 : Ro Rp.int W f77 v83 x72 := h84
        refine op_g ha rfl (hi82.gives sl22 rfl rfl) ?_; clear ha a; intro a ha; refine op_g ha rfl (g_load0 hE33 Tryd.isAgg29 rfl hat80.one) ?_; clear ha a; intro a ha; obtain ⟨x86, hc87, hF⟩ := cal_some hF
        refine o_callv ha rfl rfl rfl hca1 (hga1 _ hE33 (h84.ext hE33) hc87) ?_; clear ha a; rintro v88 w89 ⟨rfl, hx90⟩ a ha
        have hE91 := Ext.trans hE33 hx90
        refine wpList_nil ?_; replace ha := ha.sub (σ' := [(0, va0), (1, (.func (.func ga1) #[] ga1c.toArray)), (5, (.int .i64 i31)), (7, (.int .i64 (a0.length : Int))), (8, (.int .i64 i31)), (16, (.bool x86))]) ⟨rfl, rfl, rfl, rfl, rfl, rfl, trivial⟩; refine e_then ?_; refine c_cond (x86 = true) ha rfl (Iff.rfl) (fun hp92 => ?_) (fun hp92 => ?_)
        · replace hF := if_t hp92 hF
          refine wp_seq ?_; refine wp_region_lit ?_; refine op_g ha rfl (g_move rfl) ?_; clear ha a; intro a ha; refine op_g ha rfl (g_assign rfl) ?_; clear ha a; intro a ha; refine wpList_nil ?_; replace ha := ha.sub (σ' := [(4, (.int .i64 i31))]) ⟨rfl, trivial⟩; refine e_then ?_; refine wp_ret ?_; refine e_blk_ret ?_; refine e_then_ret ?_; refine e_lq_ret ?_; refine e_then_ret ?_; obtain rfl := Option.some.inj hF
          have e93 := LK_inr hN68; subst e93
          have e94 := BK_inr hK64; subst e94
          exact f_ret1 ha rfl rfl ⟨⟨rfl, hI32⟩, hE91⟩
        replace hF := if_f hp92 hF; refine wp_skip ?_; refine e_blk ?_; refine e_then ?_; refine wp_region_lit ?_; obtain ⟨hI95, hF⟩ := ck_some hF; refine op_g ha rfl (g_add rfl rfl hI95) ?_; clear ha a; intro a ha; refine op_g ha rfl (g_move rfl) ?_; clear ha a; intro a ha; refine wpList_nil ?_; replace ha := ha.sub (σ' := [(0, va0), (1, (.func (.func ga1) #[] ga1c.toArray)), (7, (.int .i64 (a0.length : Int))), (8, (.int .i64 (i31 + 1)))]) ⟨rfl, rfl, rfl, rfl, trivial⟩; refine e_lq ?_; obtain rfl := Option.some.inj hF
        exact ⟨_, Nat.lt_succ_self _, i31 + 1, ha.sub ⟨rfl, rfl, rfl, rfl, trivial⟩, hE91, hI95, hN68⟩
      replace hF := if_f hp71 hF; refine wp_exit ?_; refine e_then_exit ?_; refine e_lq_eq ?_; obtain rfl := Option.some.inj hF
      exact ⟨ha.sub trivial, hE33, (LK_inr hN68).symm⟩
  rintro a w61 ⟨ha, hE67, rfl⟩
  have hF : F_slices_IndexFunc_Sint64_k2 = some _ := hK64; clear hK64; unfold F_slices_IndexFunc_Sint64_k2 at hF
  refine e_then ?_; refine wp_seq ?_; refine wp_region_lit ?_; refine op_g ha rfl (g_assign rfl) ?_; clear ha a; intro a ha; refine wpList_nil ?_; refine e_then ?_; refine wp_ret ?_; obtain rfl := Option.some.inj hF
  exact f_ret1 ha rfl rfl ⟨⟨rfl, (show InI (-1) from by decide)⟩, hE67⟩
set_option maxHeartbeats 2000000 in
theorem W_slices_ContainsFunc_Sint64 {W : World} {va0 : Value} {fa0 : List Nat} {a0 : (List (List Int))} (ha0 : Ro (Rp.sl 2 Rp.int) W fa0 va0 a0) {ga1 : FuncId} {ga1c : List Value} {a1 : (List Int) → Option Bool} (hga1 : ∀ w', Ext W w' → ∀ {vz0 : Value} {fz0 : List Nat} {z0 : (List Int)} (hz0 : Ro Rp.int w' fz0 vz0 z0) {r : Bool}, a1 z0 = some r → Calls Tryd.prog ga1 (([vz0] : List Value) ++ ga1c).toArray w' (Ret fun u w'' => u = .bool r ∧ Ext w' w'')) (hca1 : ∀ args w, (callFunc ga1 args).run Tryd.prog w = .ok (.enter ga1 args) w) {r : Bool} (hF : F_slices_ContainsFunc_Sint64 a0 a1 = some r) :
    Calls Tryd.prog 67 [va0, .func (.func ga1) #[] ga1c.toArray].toArray W (Ret fun u w' => u = .bool r ∧ Ext W w') := by
  refine f_enter Tryd.func67 rfl Tryd.ntmps67 rfl ?_
  intro a ha
  replace ha : Fr 9 [(0, va0), (1, (.func (.func ga1) #[] ga1c.toArray))] a := ha
  have hE : Chg [] W W := Chg.refl _ _
  unfold F_slices_ContainsFunc_Sint64 at hF
  refine wp_seq ?_; refine wp_region_lit ?_; refine op_g ha rfl (g_assign rfl) ?_; clear ha a; intro a ha; refine wpList_nil ?_; replace ha := ha.sub (σ' := [(0, va0), (1, (.func (.func ga1) #[] ga1c.toArray))]) ⟨rfl, rfl, trivial⟩; refine e_then ?_; refine wp_seq ?_; refine wp_region_lit ?_; (iterate 2 refine op_g ha rfl (g_move rfl) ?_; clear ha a; intro a ha); obtain ⟨x2, hc3, hF⟩ := cal_some hF
  refine o_call ha rfl rfl Tryd.call74 (W_slices_IndexFunc_Sint64 (ha0.ext hE) (fun w hx => hga1 w (Ext.trans hE hx)) hca1 hc3) ?_; clear ha a; rintro v4 w5 ⟨⟨rfl, hI7⟩, hx6⟩ a ha
  have hE8 := Ext.trans hE hx6
  refine op_g ha rfl (g_geq rfl rfl) ?_; clear ha a; intro a ha; refine op_g ha rfl (g_assign rfl) ?_; clear ha a; intro a ha; refine wpList_nil ?_; replace ha := ha.sub (σ' := [(4, (.bool (decide (0 ≤ x2))))]) ⟨rfl, trivial⟩; refine e_then ?_; refine wp_ret ?_; obtain rfl := Option.some.inj hF
  exact f_ret1 ha rfl rfl ⟨rfl, hE8⟩
set_option maxHeartbeats 2000000 in
theorem W_impl_goodLinks_1 {W : World} {va0 : Value} {fa0 : List Nat} {a0 : (List Int)} (ha0 : Ro Rp.int W fa0 va0 a0) {y0 : Int} (hy0 : InI y0) {bc0 : Nat} (hbc0 : Bx W bc0 [.int .i64 y0] 3) {r : Bool} (hF : F_impl_goodLinks_1 a0 y0 = some r) :
    Calls Tryd.prog 68 [va0, .pointer (some ⟨bc0, 0, none⟩)].toArray W (Ret fun u w' => u = .bool r ∧ Ext W w') := by
  refine f_enter Tryd.func68 rfl Tryd.ntmps68 rfl ?_
  intro a ha
  replace ha : Fr 13 [(0, va0), (1, (.pointer (some ⟨bc0, 0, none⟩)))] a := ha
  have hE : Chg [] W W := Chg.refl _ _
  unfold F_impl_goodLinks_1 at hF
  refine wp_seq ?_; refine wp_region_lit ?_; refine op_g ha rfl (g_assign rfl) ?_; clear ha a; intro a ha; refine wpList_nil ?_; replace ha := ha.sub (σ' := [(0, va0), (1, (.pointer (some ⟨bc0, 0, none⟩)))]) ⟨rfl, rfl, trivial⟩; refine e_then ?_; refine wp_seq ?_; refine wp_region_lit ?_; refine op_g ha rfl (g_move rfl) ?_; clear ha a; intro a ha; refine op_g ha rfl (g_lenR sl29.und ha0 rfl) ?_; clear ha a; intro a ha; refine op_g ha rfl (g_neq rfl rfl) ?_; clear ha a; intro a ha; refine op_g ha rfl (g_move rfl) ?_; clear ha a; intro a ha
  by_cases hp1 : (a0.length : Int) ≠ 2
  · replace hF := if_t hp1 hF
    rw [show (decide ((a0.length : Int) ≠ 2)) = true from (decide_eq_true_iff).2 hp1] at ha
    (iterate 4 refine op_unwant ha rfl (yields ha rfl rfl) rfl ?_; clear ha a; intro a ha); refine op_g ha rfl (g_pick rfl rfl) ?_; clear ha a; intro a ha; refine op_g ha rfl (g_assign rfl) ?_; clear ha a; intro a ha; refine wpList_nil ?_; replace ha := ha.sub (σ' := [(3, (.bool true))]) ⟨rfl, trivial⟩; refine e_then ?_; refine wp_ret ?_; obtain rfl := Option.some.inj hF
    exact f_ret1 ha rfl rfl ⟨rfl, hE⟩
  replace hF := if_f hp1 hF
  rw [show (decide ((a0.length : Int) ≠ 2)) = false from b_false (decide_eq_true_iff) hp1] at ha
  refine op_want (yields ha rfl rfl) ?_; refine op_g ha rfl (g_move rfl) ?_; clear ha a; intro a ha; refine op_want (yields ha rfl rfl) ?_; refine op_g ha rfl (g_load Tryd.isAgg3 rfl ((hbc0.ext hE).cell rfl)) ?_; clear ha a; intro a ha; refine op_want (yields ha rfl rfl) ?_; obtain ⟨x2, hc3, hF⟩ := cal_some hF
  refine o_call ha rfl rfl Tryd.call51 (W_impl_increasing (ha0.ext hE) hy0 hc3) ?_; clear ha a; rintro v4 w5 ⟨rfl, hx6⟩ a ha
  have hE7 := Ext.trans hE hx6
  refine op_want (yields ha rfl rfl) ?_; refine op_g ha rfl (g_not rfl) ?_; clear ha a; intro a ha; refine op_g ha rfl (g_pick rfl rfl) ?_; clear ha a; intro a ha; refine op_g ha rfl (g_assign rfl) ?_; clear ha a; intro a ha; refine wpList_nil ?_; replace ha := ha.sub (σ' := [(3, (.bool (!x2)))]) ⟨rfl, trivial⟩; refine e_then ?_; refine wp_ret ?_; obtain rfl := Option.some.inj hF
  exact f_ret1 ha rfl rfl ⟨rfl, hE7⟩
set_option maxHeartbeats 2000000 in
theorem W_impl_goodLinks {W : World} {va0 : Value} {fa0 : List Nat} {a0 : (List (List Int))} (ha0 : Ro (Rp.sl 2 Rp.int) W fa0 va0 a0) {a1 : Int} (ha1 : InI a1) {r : Bool} (hF : F_impl_goodLinks a0 a1 = some r) :
    Calls Tryd.prog 50 [va0, .int .i64 a1].toArray W (Ret fun u w' => u = .bool r ∧ Ext W w') := by
  refine f_enter Tryd.func50 rfl Tryd.ntmps50 rfl ?_
  intro a ha
  replace ha : Fr 9 [(0, va0), (1, (.int .i64 a1))] a := ha
  have hE : Chg [] W W := Chg.refl _ _
  unfold F_impl_goodLinks at hF
  refine wp_seq ?_; refine wp_region_lit ?_
  refine o_box ha rfl rfl rfl ?_; clear ha a; intro b1 w2 hB3 hx4 hlo5 a ha
  have q6 := Zn.one hlo5
  have q7 := Zn.upD q6 hE
  have hE8 := Ext.trans hE hx4
  refine op_g ha rfl (g_assign rfl) ?_; clear ha a; intro a ha; refine wpList_nil ?_; replace ha := ha.sub (σ' := [(0, va0), (3, (.pointer (some ⟨b1, 0, none⟩)))]) ⟨rfl, rfl, trivial⟩; refine e_then ?_; refine wp_seq ?_; refine wp_region_lit ?_; refine op_g ha rfl (g_move rfl) ?_; clear ha a; intro a ha; refine op_g ha rfl (g_func rfl rfl) ?_; clear ha a; intro a ha; obtain ⟨x11, hc12, hF⟩ := cal_some hF
  refine o_call ha rfl rfl Tryd.call67 (W_slices_ContainsFunc_Sint64 (ha0.ext hE8) (by intro _ hy10 vz9 fz9 z9 hz9 r hr; exact W_impl_goodLinks_1 hz9 ha1 (hB3.ext hy10) hr) Tryd.call68 hc12) ?_; clear ha a; rintro v13 w14 ⟨rfl, hx15⟩ a ha
  replace hB3 := hB3.ext hx15
  have hE16 := Ext.trans hE8 hx15
  refine op_g ha rfl (g_not rfl) ?_; clear ha a; intro a ha; refine op_g ha rfl (g_assign rfl) ?_; clear ha a; intro a ha; refine wpList_nil ?_; replace ha := ha.sub (σ' := [(4, (.bool (!x11)))]) ⟨rfl, trivial⟩; refine e_then ?_; refine wp_ret ?_; obtain rfl := Option.some.inj hF
  exact f_ret1 ha rfl rfl ⟨rfl, hE16⟩
set_option maxHeartbeats 2000000 in
theorem W_impl_one {W : World} {a0 : Int} (ha0 : InI a0) {r : (BitVec 32)} (hF : F_impl_one a0 = some r) :
    Calls Tryd.prog 31 [.int .i64 a0].toArray W (Ret fun u w' => u = .int .u32 (BitVec.toNat r : Int) ∧ Ext W w') := by
  refine f_enter Tryd.func31 rfl Tryd.ntmps31 rfl ?_
  intro a ha
  replace ha : Fr 5 [(0, (.int .i64 a0))] a := ha
  have hE : Chg [] W W := Chg.refl _ _
  unfold F_impl_one at hF
  refine wp_seq ?_; refine wp_region_lit ?_; refine op_g ha rfl (g_assign rfl) ?_; clear ha a; intro a ha; refine wpList_nil ?_; replace ha := ha.sub (σ' := [(0, (.int .i64 a0))]) ⟨rfl, trivial⟩; refine e_then ?_; refine wp_seq ?_; refine wp_region_lit ?_; refine op_g ha rfl (g_move rfl) ?_; clear ha a; intro a ha; obtain ⟨hs1, hF⟩ := grd_some hF; refine op_g ha rfl (g32_shl (m := (1#32)) rfl rfl hs1) ?_; clear ha a; intro a ha; refine op_g ha rfl (g_assign rfl) ?_; clear ha a; intro a ha; refine wpList_nil ?_; replace ha := ha.sub (σ' := [(2, (.int .u32 (BitVec.toNat ((1#32) <<< (a0 : Int).toNat) : Int)))]) ⟨rfl, trivial⟩
  refine e_then ?_; refine wp_ret ?_; obtain rfl := Option.some.inj hF
  exact f_ret1 ha rfl rfl ⟨rfl, hE⟩
set_option maxHeartbeats 2000000 in
theorem W_impl_nets_join {W : World} {va0 : Value} {ba0 : Int} {a0 : (List (BitVec 32))} (ha0 : Ow Rp.u32 58 true W [] ba0 va0 a0) {a1 : Int} (ha1 : InI a1) {a2 : Int} (ha2 : InI a2) {r : (List (BitVec 32))} (hF : F_impl_nets_join a0 a1 a2 = some r) :
    Calls Tryd.prog 70 [va0, .int .i64 a1, .int .i64 a2].toArray W (Ret fun u w' => u = .tuple #[] ∧ Ow Rp.u32 58 true w' [] ba0 va0 r ∧ Chg (bl ba0) W w') := by
  refine f_enter Tryd.func70 rfl Tryd.ntmps70 rfl ?_
  intro a ha
  replace ha : Fr 22 [(0, va0), (1, (.int .i64 a1)), (2, (.int .i64 a2))] a := ha
  have hE : Chg (bl ba0) W W := Chg.refl _ _
  unfold F_impl_nets_join at hF
  refine wp_seq ?_; refine d_region [0, 1, 2, 3, 4, 5, 6, 7] hmix ?_; refine u_g 0 rfl (by kernel_rfl) (want0 _) ha rfl (g_move rfl) ?_; clear ha a; intro a ha; refine u_g 1 rfl (by kernel_rfl) (want0 _) ha rfl (g_move rfl) ?_; clear ha a; intro a ha; obtain ⟨x1, g2, gx3, hF⟩ := idx_some hF
  obtain ⟨p4, cs5, f6, hf7, hpb8, hat9, hr10, hi11⟩ := ha0.at g2 gx3
  obtain ⟨rfl, rfl⟩ := hr10
  refine u_g 2 rfl (by kernel_rfl) (want0 _) ha rfl (hi11.gives sl53 rfl rfl) ?_; clear ha a; intro a ha; refine u_g 3 rfl (by kernel_rfl) (want0 _) ha rfl (g_load Tryd.isAgg58 rfl hat9.one) ?_; clear ha a; intro a ha; refine u_g 4 rfl (by kernel_rfl) (want0 _) ha rfl (g_move rfl) ?_; clear ha a; intro a ha; obtain ⟨x14, hc15, hF⟩ := cal_some hF; refine u_call (.int .u32 (BitVec.toNat x14 : Int)) 5 rfl (by kernel_rfl) (want0 _) ha rfl rfl Tryd.call31 (fun w13 hx12 => W_impl_one ha2 hc15) (fun _ _ _ h => ⟨h.1, h.2⟩) ?_; clear ha a; intro a ha; refine u_g 6 rfl (by kernel_rfl) (want0 _) ha rfl (g32_or (m := x1) (n := x14) rfl rfl) ?_; clear ha a; intro a ha
  obtain ⟨x16, g17, gx18, hF⟩ := idx_some hF
  obtain ⟨p19, cs20, f21, hf22, hpb23, hat24, hr25, hi26⟩ := ha0.at g17 gx18
  obtain ⟨rfl, rfl⟩ := hr25
  refine u_g 7 rfl (by kernel_rfl) (want0 _) ha rfl (hi26.gives sl53 rfl rfl) ?_; clear ha a; intro a ha
  refine u_only 8 rfl (by kernel_rfl) ?_; intro w27 hx28
  replace ha0 := ha0.ext hx28
  have hE29 := Chg.more hE hx28
  refine o_storeE (f := []) (q := x1 ||| x14) ha Tryd.sizeOf58 rfl rfl rfl ha0 hi26 ⟨rfl, rfl⟩ (Nq.nil _) ?_; intro w30 fs31 h32 hc33 hs34
  obtain rfl := Subst.nil hs34
  have hE35 := Chg.same hE29 hc33
  refine wpList_nil (e_sq ?_)
  refine ⟨fun h => absurd h (by decide), ?_⟩
  refine u_done (by kernel_rfl) ?_; intro w36 hx37
  replace h32 := h32.ext hx37
  have hE38 := Chg.more hE35 hx37
  replace ha := ha.sub (σ' := [(0, va0), (1, (.int .i64 a1)), (2, (.int .i64 a2))]) ⟨rfl, rfl, rfl, trivial⟩; refine e_then ?_; refine d_region [0, 1, 2, 3, 4, 5, 6, 7] hmix ?_; refine u_g 0 rfl (by kernel_rfl) (want0 _) ha rfl (g_move rfl) ?_; clear ha a; intro a ha; refine u_g 1 rfl (by kernel_rfl) (want0 _) ha rfl (g_move rfl) ?_; clear ha a; intro a ha; obtain ⟨x39, g40, gx41, hF⟩ := idx_some hF
  obtain ⟨p42, cs43, f44, hf45, hpb46, hat47, hr48, hi49⟩ := h32.at g40 gx41
  obtain ⟨rfl, rfl⟩ := hr48
  refine u_g 2 rfl (by kernel_rfl) (want0 _) ha rfl (hi49.gives sl53 rfl rfl) ?_; clear ha a; intro a ha; refine u_g 3 rfl (by kernel_rfl) (want0 _) ha rfl (g_load Tryd.isAgg58 rfl hat47.one) ?_; clear ha a; intro a ha; refine u_g 4 rfl (by kernel_rfl) (want0 _) ha rfl (g_move rfl) ?_; clear ha a; intro a ha; obtain ⟨x52, hc53, hF⟩ := cal_some hF; refine u_call (.int .u32 (BitVec.toNat x52 : Int)) 5 rfl (by kernel_rfl) (want0 _) ha rfl rfl Tryd.call31 (fun w51 hx50 => W_impl_one ha1 hc53) (fun _ _ _ h => ⟨h.1, h.2⟩) ?_; clear ha a; intro a ha; refine u_g 6 rfl (by kernel_rfl) (want0 _) ha rfl (g32_or (m := x39) (n := x52) rfl rfl) ?_; clear ha a; intro a ha
  obtain ⟨x54, g55, gx56, hF⟩ := idx_some hF
  obtain ⟨p57, cs58, f59, hf60, hpb61, hat62, hr63, hi64⟩ := h32.at g55 gx56
  obtain ⟨rfl, rfl⟩ := hr63
  refine u_g 7 rfl (by kernel_rfl) (want0 _) ha rfl (hi64.gives sl53 rfl rfl) ?_; clear ha a; intro a ha
  refine u_only 8 rfl (by kernel_rfl) ?_; intro w65 hx66
  replace h32 := h32.ext hx66
  have hE67 := Chg.more hE38 hx66
  refine o_storeE (f := []) (q := x39 ||| x52) ha Tryd.sizeOf58 rfl rfl rfl h32 hi64 ⟨rfl, rfl⟩ (Nq.nil _) ?_; intro w68 fs69 h70 hc71 hs72
  obtain rfl := Subst.nil hs72
  have hE73 := Chg.same hE67 hc71
  refine wpList_nil (e_sq ?_)
  refine ⟨fun h => absurd h (by decide), ?_⟩
  refine u_done (by kernel_rfl) ?_; intro w74 hx75
  replace h70 := h70.ext hx75
  have hE76 := Chg.more hE73 hx75
  replace ha := ha.sub (σ' := []) trivial
  obtain rfl := Option.some.inj hF
  exact f_end0 ha rfl ⟨rfl, h70, hE76⟩
set_option maxHeartbeats 2000000 in
theorem W_impl_linkNets {W : World} {va0_0 : Value} {fa0_0 : List Nat} {a0_0 : (List (List Int))} (ha0_0 : Ro (Rp.sl 2 Rp.int) W fa0_0 va0_0 a0_0) {va0_1 : Value} {fa0_1 : List Nat} {a0_1 : (List (List Int))} (ha0_1 : Ro (Rp.sl 2 Rp.int) W fa0_1 va0_1 a0_1) {r : (List (BitVec 32))} (hF : F_impl_linkNets a0_0 a0_1 = some r) :
    Calls Tryd.prog 52 [.agg #[va0_0, va0_1]].toArray W (Ret fun u w' => ∃ (b_u : Int), Ow Rp.u32 58 true w' [] b_u u r ∧ Zn W b_u ∧ Ext W w') := by
  refine f_enter Tryd.func52 rfl Tryd.ntmps52 rfl ?_
  intro a ha
  replace ha : Fr 27 [(0, (.agg #[va0_0, va0_1]))] a := ha
  have hE : Chg [] W W := Chg.refl _ _
  unfold F_impl_linkNets at hF
  refine wp_seq ?_; refine wp_region_lit ?_
  refine o_box ha rfl rfl rfl ?_; clear ha a; intro b1 w2 hB3 hx4 hlo5 a ha
  have q6 := Zn.one hlo5
  have q7 := Zn.upD q6 hE
  have hE8 := Ext.trans hE hx4
  refine op_g ha rfl (g_assign rfl) ?_; clear ha a; intro a ha; refine wpList_nil ?_; replace ha := ha.sub (σ' := [(1, (.pointer (some ⟨b1, 0, none⟩)))]) ⟨rfl, trivial⟩; refine e_then ?_; refine wp_seq ?_; refine wp_region_lit ?_; refine op_g ha rfl (g_field0 st33_0 rfl) ?_; clear ha a; intro a ha; refine op_g ha rfl (g_load Tryd.isAgg22 rfl (hB3.cell rfl)) ?_; clear ha a; intro a ha; refine op_g ha rfl (g_lenR sl22.und ha0_0 rfl) ?_; clear ha a; intro a ha; obtain ⟨g13, g13b, hF⟩ := mkS_some hF
  refine o_make (z0 := (0 : BitVec 32)) Rp.u32 ha rfl sl53 rfl (fun w => ⟨rfl, rfl⟩) rfl g13 g13b ?_; clear ha a; intro v9 w10 h11 hx12 a ha
  obtain ⟨b16, hb16⟩ : ∃ b : Int, b = w2.heap.size := ⟨_, rfl⟩; rw [← hb16] at h11
  have q17 := zn_of hb16
  have q18 := Nq.new hB3.fpb q17
  have q19 := Nq.madeO q17 hB3.bi
  have q20 := Zn.upD q17 hE8
  replace hB3 := hB3.ext hx12
  have hE21 := Ext.trans hE8 hx12
  refine op_g ha rfl (g_assign rfl) ?_; clear ha a; intro a ha; refine wpList_nil ?_; replace ha := ha.sub (σ' := [(1, (.pointer (some ⟨b1, 0, none⟩))), (3, v9)]) ⟨rfl, rfl, trivial⟩; refine e_then ?_; refine wp_seq ?_; refine wp_seq ?_; refine wp_region_lit ?_; refine op_g ha rfl (g_field0 st33_1 rfl) ?_; clear ha a; intro a ha; refine op_g ha rfl (g_load Tryd.isAgg22 rfl (hB3.cell rfl)) ?_; clear ha a; intro a ha; refine op_g ha rfl (g_lenR sl22.und ha0_1 rfl) ?_; clear ha a; intro a ha; refine op_g ha rfl (g_move rfl) ?_; clear ha a; intro a ha; refine wpList_nil ?_; replace ha := ha.sub (σ' := [(3, v9), (11, va0_1), (12, (.int .i64 (a0_1.length : Int))), (13, (.int .i64 0))]) ⟨rfl, rfl, rfl, rfl, trivial⟩
  refine e_then ?_; obtain ⟨o170, ho171, hK172⟩ := bnd_some hF
  obtain ⟨n173, hn174⟩ := lp_some ho171; clear ho171
  refine c_loop (fun a w => ∃ (l167 : (List (BitVec 32))) (v168 : Value) (b169 : Int), Fr 27 [(3, v168)] a ∧ Chg [] W w ∧ Ow Rp.u32 58 true w [] b169 v168 l167 ∧ Zn W b169 ∧ o170 = .inl l167) (fun n a w => ∃ (l94 : (List (BitVec 32))) (i97 : Int) (v95 : Value) (b96 : Int), Fr 27 [(3, v95), (11, va0_1), (12, (.int .i64 (a0_1.length : Int))), (13, (.int .i64 i97))] a ∧ Chg [] W w ∧ InI i97 ∧ Ow Rp.u32 58 true w [] b96 v95 l94 ∧ Zn W b96 ∧ lpN (fun s => F_impl_linkNets_l1 a0_1 s.1 s.2) n (l94, i97) = some o170) n173 ⟨(List.replicate ((a0_0.length : Int) : Int).toNat (0 : BitVec 32)), 0, v9, b16, ha.sub ⟨rfl, rfl, rfl, rfl, trivial⟩, hE21, (show InI 0 from by decide), h11, q20, hn174⟩ ?_ ?_
  · rintro m178 a w90 ⟨l94, i97, v95, b96, ha, hE99, hI98, h92, z93, hF⟩
    cases m178 with
    | zero => exact (lpN_zero hF).elim
    | succ m178 =>
      obtain ⟨z177, hF, hN176⟩ := lpN_succ hF
      have hF : F_impl_linkNets_l1 a0_1 l94 i97 = some z177 := hF; unfold F_impl_linkNets_l1 at hF
      refine wp_seq ?_; refine wp_region_lit ?_; refine op_g ha rfl (g_lss rfl rfl) ?_; clear ha a; intro a ha; refine wpList_nil ?_; replace ha := ha.sub (σ' := [(3, v95), (11, va0_1), (12, (.int .i64 (a0_1.length : Int))), (13, (.int .i64 i97)), (14, (.bool (decide (i97 < (a0_1.length : Int)))))]) ⟨rfl, rfl, rfl, rfl, rfl, trivial⟩; refine e_then ?_; refine wp_seq ?_; refine c_cond (i97 < (a0_1.length : Int)) ha rfl (decide_eq_true_iff) (fun hp179 => ?_) (fun hp179 => ?_)
      · replace hF := if_t hp179 hF
        refine wp_skip ?_; refine e_then ?_; refine wp_seq ?_; refine wp_block ?_; refine wp_seq ?_; refine wp_region_lit ?_; obtain ⟨x180, g181, gx182, hF⟩ := idx_some hF
        obtain ⟨p183, cs184, f185, hf186, hpb187, hat188, hr189, hi190⟩ := ha0_1.at g181 gx182
        obtain ⟨v191, rfl, h192⟩ := hr189
        have h192 : Ro Rp.int W f185 v191 x180 := h192
        refine op_g ha rfl (hi190.gives sl22 rfl rfl) ?_; clear ha a; intro a ha; refine op_g ha rfl (g_load0 hE99 Tryd.isAgg29 rfl hat188.one) ?_; clear ha a; intro a ha; refine op_g ha rfl (g_assign rfl) ?_; clear ha a; intro a ha; refine wpList_nil ?_; replace ha := ha.sub (σ' := [(3, v95), (5, v191), (11, va0_1), (12, (.int .i64 (a0_1.length : Int))), (13, (.int .i64 i97))]) ⟨rfl, rfl, rfl, rfl, rfl, trivial⟩; refine e_then ?_; refine d_region [0, 1, 2, 3, 4, 5, 6] hmix ?_; refine u_g 0 rfl (by kernel_rfl) (want0 _) ha rfl (g_move rfl) ?_; clear ha a; intro a ha; refine u_g 1 rfl (by kernel_rfl) (want0 _) ha rfl (g_move rfl) ?_; clear ha a; intro a ha
        obtain ⟨x194, g195, gx196, hF⟩ := idx_some hF
        obtain ⟨p197, cs198, f199, hf200, hpb201, hat202, hr203, hi204⟩ := h192.at g195 gx196
        obtain ⟨rfl, hI205, rfl⟩ := hr203
        refine u_g 2 rfl (by kernel_rfl) (want0 _) ha rfl (hi204.gives sl29 rfl rfl) ?_; clear ha a; intro a ha; refine u_g 3 rfl (by kernel_rfl) (want0 _) ha rfl (g_load0 hE99 Tryd.isAgg2 rfl hat202.one) ?_; clear ha a; intro a ha; refine u_g 4 rfl (by kernel_rfl) (want0 _) ha rfl (g_move rfl) ?_; clear ha a; intro a ha; obtain ⟨x206, g207, gx208, hF⟩ := idx_some hF
        obtain ⟨p209, cs210, f211, hf212, hpb213, hat214, hr215, hi216⟩ := h192.at g207 gx208
        obtain ⟨rfl, hI217, rfl⟩ := hr215
        refine u_g 5 rfl (by kernel_rfl) (want0 _) ha rfl (hi216.gives sl29 rfl rfl) ?_; clear ha a; intro a ha; refine u_g 6 rfl (by kernel_rfl) (want0 _) ha rfl (g_load0 hE99 Tryd.isAgg2 rfl hat214.one) ?_; clear ha a; intro a ha
        refine u_only 7 rfl (by kernel_rfl) ?_; intro w218 hx219
        replace h92 := h92.ext hx219
        have hE220 := Ext.trans hE99 hx219
        obtain ⟨x221, hc222, hF⟩ := cal_some hF
        refine o_call ha rfl rfl Tryd.call70 (W_impl_nets_join h92 hI205 hI217 hc222) ?_; clear ha a; rintro v223 w224 ⟨rfl, h226, hx225⟩ a ha
        have hE227 := Ext.then hE220 hx225 (Zn.bl z93)
        refine wpList_nil (e_sq ?_)
        refine ⟨fun h => absurd h (by decide), ?_⟩
        refine u_done (by kernel_rfl) ?_; intro w228 hx229
        replace h226 := h226.ext hx229
        have hE230 := Ext.trans hE227 hx229
        replace ha := ha.sub (σ' := [(3, v95), (11, va0_1), (12, (.int .i64 (a0_1.length : Int))), (13, (.int .i64 i97))]) ⟨rfl, rfl, rfl, rfl, trivial⟩; refine e_blk ?_; refine e_then ?_; refine wp_region_lit ?_; obtain ⟨hI231, hF⟩ := ck_some hF; refine op_g ha rfl (g_add rfl rfl hI231) ?_; clear ha a; intro a ha; refine op_g ha rfl (g_move rfl) ?_; clear ha a; intro a ha; refine wpList_nil ?_; replace ha := ha.sub (σ' := [(3, v95), (11, va0_1), (12, (.int .i64 (a0_1.length : Int))), (13, (.int .i64 (i97 + 1)))]) ⟨rfl, rfl, rfl, rfl, trivial⟩; refine e_lq ?_; obtain rfl := Option.some.inj hF
        exact ⟨_, Nat.lt_succ_self _, x221, i97 + 1, v95, b96, ha.sub ⟨rfl, rfl, rfl, rfl, trivial⟩, hE230, hI231, h226, z93, hN176⟩
      replace hF := if_f hp179 hF; refine wp_exit ?_; refine e_then_exit ?_; refine e_lq_eq ?_; obtain rfl := Option.some.inj hF
      exact ⟨l94, v95, b96, ha.sub ⟨rfl, trivial⟩, hE99, h92, z93, (LK_inr hN176).symm⟩
  rintro a w163 ⟨l167, v168, b169, ha, hE175, h165, z166, rfl⟩
  have hF : F_impl_linkNets_k2 l167 = some _ := hK172; clear hK172; unfold F_impl_linkNets_k2 at hF
  refine e_then ?_; refine wp_seq ?_; refine wp_region_lit ?_; refine op_g ha rfl (g_move rfl) ?_; clear ha a; intro a ha; refine op_g ha rfl (g_assign rfl) ?_; clear ha a; intro a ha; refine wpList_nil ?_; replace ha := ha.sub (σ' := [(2, v168)]) ⟨rfl, trivial⟩; refine e_then ?_; refine wp_ret ?_; obtain rfl := Option.some.inj hF
  exact f_ret1 ha rfl rfl ⟨_, h165, z166, hE175⟩
set_option maxHeartbeats 2000000 in
theorem W_impl_maskOf {W : World} {va0 : Value} {fa0 : List Nat} {a0 : (List Int)} (ha0 : Ro Rp.int W fa0 va0 a0) {r : (BitVec 32)} (hF : F_impl_maskOf a0 = some r) :
    Calls Tryd.prog 56 [va0].toArray W (Ret fun u w' => u = .int .u32 (BitVec.toNat r : Int) ∧ Ext W w') := by
  refine f_enter Tryd.func56 rfl Tryd.ntmps56 rfl ?_
  intro a ha
  replace ha : Fr 18 [(0, va0)] a := ha
  have hE : Chg [] W W := Chg.refl _ _
  unfold F_impl_maskOf at hF
  refine wp_seq ?_; refine wp_region_lit ?_; refine op_g ha rfl (g_assign rfl) ?_; clear ha a; intro a ha; refine wpList_nil ?_; replace ha := ha.sub (σ' := [(0, va0)]) ⟨rfl, trivial⟩; refine e_then ?_; refine wp_seq ?_; refine wp_region_lit ?_; refine op_g ha rfl (g_assign rfl) ?_; clear ha a; intro a ha; refine wpList_nil ?_; refine e_then ?_; refine wp_seq ?_; refine wp_seq ?_; refine wp_region_lit ?_; refine op_g ha rfl (g_move rfl) ?_; clear ha a; intro a ha; refine op_g ha rfl (g_lenR sl29.und ha0 rfl) ?_; clear ha a; intro a ha; refine op_g ha rfl (g_move rfl) ?_; clear ha a; intro a ha
  refine wpList_nil ?_; replace ha := ha.sub (σ' := [(3, (.int .u32 (BitVec.toNat (0#32) : Int))), (6, va0), (7, (.int .i64 (a0.length : Int))), (8, (.int .i64 0))]) ⟨rfl, rfl, rfl, rfl, trivial⟩; refine e_then ?_; obtain ⟨o60, ho61, hK62⟩ := bnd_some hF
  obtain ⟨n63, hn64⟩ := lp_some ho61; clear ho61
  refine c_loop (fun a w => ∃ (u59 : BitVec 32), Fr 18 [(3, (.int .u32 (BitVec.toNat u59 : Int)))] a ∧ Chg [] W w ∧ o60 = .inl u59) (fun n a w => ∃ (u29 : BitVec 32) (i30 : Int), Fr 18 [(3, (.int .u32 (BitVec.toNat u29 : Int))), (6, va0), (7, (.int .i64 (a0.length : Int))), (8, (.int .i64 i30))] a ∧ Chg [] W w ∧ InI i30 ∧ lpN (fun s => F_impl_maskOf_l1 a0 s.1 s.2) n (u29, i30) = some o60) n63 ⟨0#32, 0, ha.sub ⟨rfl, rfl, rfl, rfl, trivial⟩, hE, (show InI 0 from by decide), hn64⟩ ?_ ?_
  · rintro m68 a w28 ⟨u29, i30, ha, hE32, hI31, hF⟩
    cases m68 with
    | zero => exact (lpN_zero hF).elim
    | succ m68 =>
      obtain ⟨z67, hF, hN66⟩ := lpN_succ hF
      have hF : F_impl_maskOf_l1 a0 u29 i30 = some z67 := hF; unfold F_impl_maskOf_l1 at hF
      refine wp_seq ?_; refine wp_region_lit ?_; refine op_g ha rfl (g_lss rfl rfl) ?_; clear ha a; intro a ha; refine wpList_nil ?_; replace ha := ha.sub (σ' := [(3, (.int .u32 (BitVec.toNat u29 : Int))), (6, va0), (7, (.int .i64 (a0.length : Int))), (8, (.int .i64 i30)), (9, (.bool (decide (i30 < (a0.length : Int)))))]) ⟨rfl, rfl, rfl, rfl, rfl, trivial⟩; refine e_then ?_; refine wp_seq ?_; refine c_cond (i30 < (a0.length : Int)) ha rfl (decide_eq_true_iff) (fun hp69 => ?_) (fun hp69 => ?_)
      · replace hF := if_t hp69 hF
        refine wp_skip ?_; refine e_then ?_; refine wp_seq ?_; refine wp_block ?_; refine wp_seq ?_; refine wp_region_lit ?_; obtain ⟨x70, g71, gx72, hF⟩ := idx_some hF
        obtain ⟨p73, cs74, f75, hf76, hpb77, hat78, hr79, hi80⟩ := ha0.at g71 gx72
        obtain ⟨rfl, hI81, rfl⟩ := hr79
        refine op_g ha rfl (hi80.gives sl29 rfl rfl) ?_; clear ha a; intro a ha; refine op_g ha rfl (g_load0 hE32 Tryd.isAgg2 rfl hat78.one) ?_; clear ha a; intro a ha; refine op_g ha rfl (g_assign rfl) ?_; clear ha a; intro a ha; refine wpList_nil ?_; replace ha := ha.sub (σ' := [(3, (.int .u32 (BitVec.toNat u29 : Int))), (5, (.int .i64 x70)), (6, va0), (7, (.int .i64 (a0.length : Int))), (8, (.int .i64 i30))]) ⟨rfl, rfl, rfl, rfl, rfl, trivial⟩; refine e_then ?_; refine wp_region_lit ?_; (iterate 2 refine op_g ha rfl (g_move rfl) ?_; clear ha a; intro a ha); obtain ⟨x82, hc83, hF⟩ := cal_some hF
        refine o_call ha rfl rfl Tryd.call31 (W_impl_one hI81 hc83) ?_; clear ha a; rintro v84 w85 ⟨rfl, hx86⟩ a ha
        have hE87 := Ext.trans hE32 hx86
        refine op_g ha rfl (g32_or (m := u29) (n := x82) rfl rfl) ?_; clear ha a; intro a ha; refine op_g ha rfl (g_assign rfl) ?_; clear ha a; intro a ha; refine wpList_nil ?_; replace ha := ha.sub (σ' := [(3, (.int .u32 (BitVec.toNat (u29 ||| x82) : Int))), (6, va0), (7, (.int .i64 (a0.length : Int))), (8, (.int .i64 i30))]) ⟨rfl, rfl, rfl, rfl, trivial⟩; refine e_blk ?_; refine e_then ?_; refine wp_region_lit ?_; obtain ⟨hI88, hF⟩ := ck_some hF; refine op_g ha rfl (g_add rfl rfl hI88) ?_; clear ha a; intro a ha; refine op_g ha rfl (g_move rfl) ?_; clear ha a; intro a ha; refine wpList_nil ?_
        replace ha := ha.sub (σ' := [(3, (.int .u32 (BitVec.toNat (u29 ||| x82) : Int))), (6, va0), (7, (.int .i64 (a0.length : Int))), (8, (.int .i64 (i30 + 1)))]) ⟨rfl, rfl, rfl, rfl, trivial⟩; refine e_lq ?_; obtain rfl := Option.some.inj hF
        exact ⟨_, Nat.lt_succ_self _, u29 ||| x82, i30 + 1, ha.sub ⟨rfl, rfl, rfl, rfl, trivial⟩, hE87, hI88, hN66⟩
      replace hF := if_f hp69 hF; refine wp_exit ?_; refine e_then_exit ?_; refine e_lq_eq ?_; obtain rfl := Option.some.inj hF
      exact ⟨u29, ha.sub ⟨rfl, trivial⟩, hE32, (LK_inr hN66).symm⟩
  rintro a w58 ⟨u59, ha, hE65, rfl⟩
  have hF : F_impl_maskOf_k2 u59 = some _ := hK62; clear hK62; unfold F_impl_maskOf_k2 at hF
  refine e_then ?_; refine wp_seq ?_; refine wp_region_lit ?_; refine op_g ha rfl (g_move rfl) ?_; clear ha a; intro a ha; refine op_g ha rfl (g_assign rfl) ?_; clear ha a; intro a ha; refine wpList_nil ?_; replace ha := ha.sub (σ' := [(2, (.int .u32 (BitVec.toNat u59 : Int)))]) ⟨rfl, trivial⟩; refine e_then ?_; refine wp_ret ?_; obtain rfl := Option.some.inj hF
  exact f_ret1 ha rfl rfl ⟨rfl, hE65⟩
set_option maxHeartbeats 2000000 in
theorem W_impl_bagMasks {W : World} {va0 : Value} {fa0 : List Nat} {a0 : (List (List Int))} (ha0 : Ro (Rp.sl 2 Rp.int) W fa0 va0 a0) {r : (List (BitVec 32))} (hF : F_impl_bagMasks a0 = some r) :
    Calls Tryd.prog 28 [va0].toArray W (Ret fun u w' => ∃ (b_u : Int), Ow Rp.u32 58 true w' [] b_u u r ∧ Zn W b_u ∧ Ext W w') := by
  refine f_enter Tryd.func28 rfl Tryd.ntmps28 rfl ?_
  intro a ha
  replace ha : Fr 20 [(0, va0)] a := ha
  have hE : Chg [] W W := Chg.refl _ _
  unfold F_impl_bagMasks at hF
  refine wp_seq ?_; refine wp_region_lit ?_; refine op_g ha rfl (g_assign rfl) ?_; clear ha a; intro a ha; refine wpList_nil ?_; replace ha := ha.sub (σ' := [(0, va0)]) ⟨rfl, trivial⟩; refine e_then ?_; refine wp_seq ?_; refine wp_region_lit ?_
  refine o_lit0 Rp.u32 ha rfl sl52 ?_; clear ha a; intro v1 w2 h3 hx4 a ha
  obtain ⟨b6, hb6⟩ : ∃ b : Int, b = W.heap.size := ⟨_, rfl⟩; rw [← hb6] at h3
  have q7 := zn_of hb6
  have q8 := Zn.upD q7 hE
  have hE9 := Ext.trans hE hx4
  refine op_g ha rfl (g_assign rfl) ?_; clear ha a; intro a ha; refine wpList_nil ?_; replace ha := ha.sub (σ' := [(0, va0), (3, v1)]) ⟨rfl, rfl, trivial⟩; refine e_then ?_; refine wp_seq ?_; refine wp_seq ?_; refine wp_region_lit ?_; refine op_g ha rfl (g_move rfl) ?_; clear ha a; intro a ha; refine op_g ha rfl (g_lenR sl22.und ha0 rfl) ?_; clear ha a; intro a ha; refine op_g ha rfl (g_move rfl) ?_; clear ha a; intro a ha; refine wpList_nil ?_; replace ha := ha.sub (σ' := [(3, v1), (7, va0), (8, (.int .i64 (a0.length : Int))), (9, (.int .i64 0))]) ⟨rfl, rfl, rfl, rfl, trivial⟩; refine e_then ?_
  obtain ⟨o142, ho143, hK144⟩ := bnd_some hF
  obtain ⟨n145, hn146⟩ := lp_some ho143; clear ho143
  refine c_loop (fun a w => ∃ (l139 : (List (BitVec 32))) (v140 : Value) (b141 : Int), Fr 20 [(3, v140)] a ∧ Chg [] W w ∧ Ow Rp.u32 58 true w [] b141 v140 l139 ∧ Zn W b141 ∧ o142 = .inl l139) (fun n a w => ∃ (l74 : (List (BitVec 32))) (i77 : Int) (v75 : Value) (b76 : Int), Fr 20 [(3, v75), (7, va0), (8, (.int .i64 (a0.length : Int))), (9, (.int .i64 i77))] a ∧ Chg [] W w ∧ InI i77 ∧ Ow Rp.u32 58 true w [] b76 v75 l74 ∧ Zn W b76 ∧ lpN (fun s => F_impl_bagMasks_l1 a0 s.1 s.2) n (l74, i77) = some o142) n145 ⟨([] : (List (BitVec 32))), 0, v1, b6, ha.sub ⟨rfl, rfl, rfl, rfl, trivial⟩, hE9, (show InI 0 from by decide), h3, q8, hn146⟩ ?_ ?_
  · rintro m150 a w70 ⟨l74, i77, v75, b76, ha, hE79, hI78, h72, z73, hF⟩
    cases m150 with
    | zero => exact (lpN_zero hF).elim
    | succ m150 =>
      obtain ⟨z149, hF, hN148⟩ := lpN_succ hF
      have hF : F_impl_bagMasks_l1 a0 l74 i77 = some z149 := hF; unfold F_impl_bagMasks_l1 at hF
      refine wp_seq ?_; refine wp_region_lit ?_; refine op_g ha rfl (g_lss rfl rfl) ?_; clear ha a; intro a ha; refine wpList_nil ?_; replace ha := ha.sub (σ' := [(3, v75), (7, va0), (8, (.int .i64 (a0.length : Int))), (9, (.int .i64 i77)), (10, (.bool (decide (i77 < (a0.length : Int)))))]) ⟨rfl, rfl, rfl, rfl, rfl, trivial⟩; refine e_then ?_; refine wp_seq ?_; refine c_cond (i77 < (a0.length : Int)) ha rfl (decide_eq_true_iff) (fun hp151 => ?_) (fun hp151 => ?_)
      · replace hF := if_t hp151 hF
        refine wp_skip ?_; refine e_then ?_; refine wp_seq ?_; refine wp_block ?_; refine wp_seq ?_; refine wp_region_lit ?_; obtain ⟨x152, g153, gx154, hF⟩ := idx_some hF
        obtain ⟨p155, cs156, f157, hf158, hpb159, hat160, hr161, hi162⟩ := ha0.at g153 gx154
        obtain ⟨v163, rfl, h164⟩ := hr161
        have h164 : Ro Rp.int W f157 v163 x152 := h164
        refine op_g ha rfl (hi162.gives sl22 rfl rfl) ?_; clear ha a; intro a ha; refine op_g ha rfl (g_load0 hE79 Tryd.isAgg29 rfl hat160.one) ?_; clear ha a; intro a ha; refine op_g ha rfl (g_assign rfl) ?_; clear ha a; intro a ha; refine wpList_nil ?_; replace ha := ha.sub (σ' := [(3, v75), (5, v163), (7, va0), (8, (.int .i64 (a0.length : Int))), (9, (.int .i64 i77))]) ⟨rfl, rfl, rfl, rfl, rfl, trivial⟩; refine e_then ?_; refine wp_region_lit ?_; (iterate 2 refine op_g ha rfl (g_move rfl) ?_; clear ha a; intro a ha); obtain ⟨x166, hc167, hF⟩ := cal_some hF
        refine o_call ha rfl rfl Tryd.call56 (W_impl_maskOf (h164.ext hE79) hc167) ?_; clear ha a; rintro v168 w169 ⟨rfl, hx170⟩ a ha
        replace h72 := h72.ext hx170
        have hE171 := Ext.trans hE79 hx170
        refine o_lit1 (o := true) (y := x166) Rp.u32 ha rfl sl52 rfl rfl rfl ⟨rfl, rfl⟩ ?_; clear ha a; intro v172 w173 h174 hx175 a ha
        obtain ⟨b177, hb177⟩ : ∃ b : Int, b = w169.heap.size := ⟨_, rfl⟩; rw [← hb177] at h174
        have q178 := zn_of hb177
        have q179 := Nq.new h72.fpb q178
        have q180 := Nq.madeO q178 h72.blt
        have q181 := Zn.upD q178 hE171
        replace h72 := h72.ext hx175
        have hE182 := Ext.trans hE171 hx175
        obtain ⟨hl183, hF⟩ := app_some hF
        refine o_append ha rfl sl52 rfl rfl rfl h72 h174.src (Nq.nil _) hl183 ?_; clear ha a; intro v184 w185 b186 h187 hc188 hb189 a ha
        replace h187 : Ow Rp.u32 58 true w185 [] b186 v184 _ := h187
        have q191 := Nq.appY q180 h174.fpb hb189
        have q192 := Nq.appX q179 (Nq.nil _) hb189 h174.blt
        have q193 := Zn.appD z73 hb189 hE182
        replace h174 := h174.nq hc188 q180
        have hE194 := Ext.then hE182 hc188 (Zn.bl z73)
        refine op_g ha rfl (g_assign rfl) ?_; clear ha a; intro a ha; refine wpList_nil ?_; replace ha := ha.sub (σ' := [(3, v184), (7, va0), (8, (.int .i64 (a0.length : Int))), (9, (.int .i64 i77))]) ⟨rfl, rfl, rfl, rfl, trivial⟩; refine e_blk ?_; refine e_then ?_; refine wp_region_lit ?_; obtain ⟨hI195, hF⟩ := ck_some hF; refine op_g ha rfl (g_add rfl rfl hI195) ?_; clear ha a; intro a ha; refine op_g ha rfl (g_move rfl) ?_; clear ha a; intro a ha; refine wpList_nil ?_; replace ha := ha.sub (σ' := [(3, v184), (7, va0), (8, (.int .i64 (a0.length : Int))), (9, (.int .i64 (i77 + 1)))]) ⟨rfl, rfl, rfl, rfl, trivial⟩
        refine e_lq ?_; obtain rfl := Option.some.inj hF
        exact ⟨_, Nat.lt_succ_self _, (l74 ++ ([x166])), i77 + 1, v184, b186, ha.sub ⟨rfl, rfl, rfl, rfl, trivial⟩, hE194, hI195, h187, q193, hN148⟩
      replace hF := if_f hp151 hF; refine wp_exit ?_; refine e_then_exit ?_; refine e_lq_eq ?_; obtain rfl := Option.some.inj hF
      exact ⟨l74, v75, b76, ha.sub ⟨rfl, trivial⟩, hE79, h72, z73, (LK_inr hN148).symm⟩
  rintro a w135 ⟨l139, v140, b141, ha, hE147, h137, z138, rfl⟩
  have hF : F_impl_bagMasks_k2 l139 = some _ := hK144; clear hK144; unfold F_impl_bagMasks_k2 at hF
  refine e_then ?_; refine wp_seq ?_; refine wp_region_lit ?_; refine op_g ha rfl (g_move rfl) ?_; clear ha a; intro a ha; refine op_g ha rfl (g_assign rfl) ?_; clear ha a; intro a ha; refine wpList_nil ?_; replace ha := ha.sub (σ' := [(2, v140)]) ⟨rfl, trivial⟩; refine e_then ?_; refine wp_ret ?_; obtain rfl := Option.some.inj hF
  exact f_ret1 ha rfl rfl ⟨_, h137, z138, hE147⟩
set_option maxHeartbeats 2000000 in
theorem W_impl_firstOf {W : World} {a0 : Int} (ha0 : InI a0) {r : (BitVec 32)} (hF : F_impl_firstOf a0 = some r) :
    Calls Tryd.prog 57 [.int .i64 a0].toArray W (Ret fun u w' => u = .int .u32 (BitVec.toNat r : Int) ∧ Ext W w') := by
  refine f_enter Tryd.func57 rfl Tryd.ntmps57 rfl ?_
  intro a ha
  replace ha : Fr 6 [(0, (.int .i64 a0))] a := ha
  have hE : Chg [] W W := Chg.refl _ _
  unfold F_impl_firstOf at hF
  refine wp_seq ?_; refine wp_region_lit ?_; refine op_g ha rfl (g_assign rfl) ?_; clear ha a; intro a ha; refine wpList_nil ?_; replace ha := ha.sub (σ' := [(0, (.int .i64 a0))]) ⟨rfl, trivial⟩; refine e_then ?_; refine wp_seq ?_; refine wp_region_lit ?_; refine op_g ha rfl (g_move rfl) ?_; clear ha a; intro a ha; obtain ⟨hs1, hF⟩ := grd_some hF; refine op_g ha rfl (g32_shl (m := (1#32)) rfl rfl hs1) ?_; clear ha a; intro a ha; refine op_g ha rfl (g32_sub (m := ((1#32) <<< (a0 : Int).toNat)) (n := (1#32)) rfl rfl) ?_; clear ha a; intro a ha; refine op_g ha rfl (g_assign rfl) ?_; clear ha a; intro a ha
  refine wpList_nil ?_; replace ha := ha.sub (σ' := [(2, (.int .u32 (BitVec.toNat (((1#32) <<< (a0 : Int).toNat) - (1#32)) : Int)))]) ⟨rfl, trivial⟩; refine e_then ?_; refine wp_ret ?_; obtain rfl := Option.some.inj hF
  exact f_ret1 ha rfl rfl ⟨rfl, hE⟩
set_option maxHeartbeats 2000000 in
theorem W_impl_nets_all {W : World} {va0 : Value} {fa0 : List Nat} {a0 : (List (BitVec 32))} (ha0 : Ro Rp.u32 W fa0 va0 a0) {r : (BitVec 32)} (hF : F_impl_nets_all a0 = some r) :
    Calls Tryd.prog 29 [va0].toArray W (Ret fun u w' => u = .int .u32 (BitVec.toNat r : Int) ∧ Ext W w') := by
  refine f_enter Tryd.func29 rfl Tryd.ntmps29 rfl ?_
  intro a ha
  replace ha : Fr 6 [(0, va0)] a := ha
  have hE : Chg [] W W := Chg.refl _ _
  unfold F_impl_nets_all at hF
  refine wp_seq ?_; refine wp_region_lit ?_; refine op_g ha rfl (g_assign rfl) ?_; clear ha a; intro a ha; refine wpList_nil ?_; replace ha := ha.sub (σ' := [(0, va0)]) ⟨rfl, trivial⟩; refine e_then ?_; refine wp_seq ?_; refine wp_region_lit ?_; refine op_g ha rfl (g_move rfl) ?_; clear ha a; intro a ha; refine op_g ha rfl (g_lenR sl53.und ha0 rfl) ?_; clear ha a; intro a ha; obtain ⟨x1, hc2, hF⟩ := cal_some hF
  refine o_call ha rfl rfl Tryd.call57 (W_impl_firstOf ha0.len hc2) ?_; clear ha a; rintro v3 w4 ⟨rfl, hx5⟩ a ha
  have hE6 := Ext.trans hE hx5
  refine op_g ha rfl (g_assign rfl) ?_; clear ha a; intro a ha; refine wpList_nil ?_; replace ha := ha.sub (σ' := [(2, (.int .u32 (BitVec.toNat x1 : Int)))]) ⟨rfl, trivial⟩; refine e_then ?_; refine wp_ret ?_; obtain rfl := Option.some.inj hF
  exact f_ret1 ha rfl rfl ⟨rfl, hE6⟩
set_option maxHeartbeats 2000000 in
theorem W_math_bits_TrailingZeros32 {W : World} {a0 : BitVec 32} (hG : GT 0 W) {r : Int} (hF : F_math_bits_TrailingZeros32 a0 = some r) :
    Calls Tryd.prog 72 [.int .u32 (BitVec.toNat a0 : Int)].toArray W (Ret fun u w' => (u = .int .i64 r ∧ InI r) ∧ Ext W w') := by
  refine f_enter Tryd.func72 rfl Tryd.ntmps72 rfl ?_
  intro a ha
  replace ha : Fr 14 [(0, (.int .u32 (BitVec.toNat a0 : Int)))] a := ha
  have hE : Chg [] W W := Chg.refl _ _
  unfold F_math_bits_TrailingZeros32 at hF
  refine wp_seq ?_; refine wp_region_lit ?_; refine op_g ha rfl (g_assign rfl) ?_; clear ha a; intro a ha; refine wpList_nil ?_; replace ha := ha.sub (σ' := [(0, (.int .u32 (BitVec.toNat a0 : Int)))]) ⟨rfl, trivial⟩; refine e_then ?_; refine wp_seq ?_; refine wp_seq ?_; refine wp_region_lit ?_; refine op_g ha rfl (g_move rfl) ?_; clear ha a; intro a ha; refine op_g ha rfl (g32_eql (m := a0) (n := (0#32)) rfl rfl) ?_; clear ha a; intro a ha; refine wpList_nil ?_; replace ha := ha.sub (σ' := [(0, (.int .u32 (BitVec.toNat a0 : Int))), (4, (.bool (decide (a0 = (0#32)))))]) ⟨rfl, rfl, trivial⟩; refine e_then ?_
  refine c_cond (a0 = (0#32)) ha rfl (decide_eq_true_iff) (fun hp1 => ?_) (fun hp1 => ?_)
  · replace hF := if_t hp1 hF
    refine wp_seq ?_; refine wp_region_lit ?_; refine op_g ha rfl (g_assign rfl) ?_; clear ha a; intro a ha; refine wpList_nil ?_; replace ha := ha.sub (σ' := [(2, (.int .i64 32))]) ⟨rfl, trivial⟩; refine e_then ?_; refine wp_ret ?_; refine e_then_ret ?_; obtain rfl := Option.some.inj hF
    exact f_ret1 ha rfl rfl ⟨⟨rfl, (show InI 32 from by decide)⟩, hE⟩
  replace hF := if_f hp1 hF; refine wp_skip ?_; refine e_then ?_; refine wp_seq ?_; refine wp_region_lit ?_; (iterate 2 refine op_g ha rfl (g_move rfl) ?_; clear ha a; intro a ha); refine op_g ha rfl (g32_neg (m := a0) rfl) ?_; clear ha a; intro a ha; refine op_g ha rfl (g32_and (m := a0) (n := (-a0)) rfl rfl) ?_; clear ha a; intro a ha; refine op_g ha rfl (g32_mul (m := (a0 &&& (-a0))) (n := (125613361#32)) rfl rfl) ?_; clear ha a; intro a ha; refine op_g ha rfl (g32_shr (m := ((a0 &&& (-a0)) * (125613361#32))) rfl rfl (show InU 27 from by decide).1) ?_; clear ha a; intro a ha; obtain ⟨x2, g3, gx4, hF⟩ := idx_some hF
  refine op_g ha rfl (g_idxG un94 Tryd.sizeOf5 rfl g3 (idx_lt g3 gx4 (by decide))) ?_; clear ha a; intro a ha; refine op_g ha rfl (g_load Tryd.isAgg5 rfl (Tab.cell (hG.ext hE) gx4)) ?_; clear ha a; intro a ha; refine op_g ha rfl (g_conv8 (m := x2) un5 un3 rfl) ?_; clear ha a; intro a ha; refine op_g ha rfl (g_assign rfl) ?_; clear ha a; intro a ha; refine wpList_nil ?_; replace ha := ha.sub (σ' := [(2, (.int .i64 (BitVec.toNat x2 : Int)))]) ⟨rfl, trivial⟩; refine e_then ?_; refine wp_ret ?_; obtain rfl := Option.some.inj hF
  exact f_ret1 ha rfl rfl ⟨⟨rfl, (in_u8 _)⟩, hE⟩
set_option maxHeartbeats 2000000 in
theorem W_impl_vset_least {W : World} {a0 : BitVec 32} (hG : GT 0 W) {r : Int} (hF : F_impl_vset_least a0 = some r) :
    Calls Tryd.prog 58 [.int .u32 (BitVec.toNat a0 : Int)].toArray W (Ret fun u w' => (u = .int .i64 r ∧ InI r) ∧ Ext W w') := by
  refine f_enter Tryd.func58 rfl Tryd.ntmps58 rfl ?_
  intro a ha
  replace ha : Fr 5 [(0, (.int .u32 (BitVec.toNat a0 : Int)))] a := ha
  have hE : Chg [] W W := Chg.refl _ _
  unfold F_impl_vset_least at hF
  refine wp_seq ?_; refine wp_region_lit ?_; refine op_g ha rfl (g_assign rfl) ?_; clear ha a; intro a ha; refine wpList_nil ?_; replace ha := ha.sub (σ' := [(0, (.int .u32 (BitVec.toNat a0 : Int)))]) ⟨rfl, trivial⟩; refine e_then ?_; refine wp_seq ?_; refine wp_region_lit ?_; refine op_g ha rfl (g_move rfl) ?_; clear ha a; intro a ha; obtain ⟨x1, hc2, hF⟩ := cal_some hF
  refine o_call ha rfl rfl Tryd.call72 (W_math_bits_TrailingZeros32 (hG.ext hE) hc2) ?_; clear ha a; rintro v3 w4 ⟨⟨rfl, hI6⟩, hx5⟩ a ha
  have hE7 := Ext.trans hE hx5
  refine op_g ha rfl (g_assign rfl) ?_; clear ha a; intro a ha; refine wpList_nil ?_; replace ha := ha.sub (σ' := [(2, (.int .i64 x1))]) ⟨rfl, trivial⟩; refine e_then ?_; refine wp_ret ?_; obtain rfl := Option.some.inj hF
  exact f_ret1 ha rfl rfl ⟨⟨rfl, hI6⟩, hE7⟩
set_option maxHeartbeats 2000000 in
theorem W_impl_vset_list {W : World} {a0 : BitVec 32} (hG : GT 0 W) {r : (List Int)} (hF : F_impl_vset_list a0 = some r) :
    Calls Tryd.prog 30 [.int .u32 (BitVec.toNat a0 : Int)].toArray W (Ret fun u w' => ∃ (b_u : Int), Ow Rp.int 3 true w' [] b_u u r ∧ Zn W b_u ∧ Ext W w') := by
  refine f_enter Tryd.func30 rfl Tryd.ntmps30 rfl ?_
  intro a ha
  replace ha : Fr 17 [(0, (.int .u32 (BitVec.toNat a0 : Int)))] a := ha
  have hE : Chg [] W W := Chg.refl _ _
  unfold F_impl_vset_list at hF
  refine wp_seq ?_; refine wp_region_lit ?_; refine op_g ha rfl (g_assign rfl) ?_; clear ha a; intro a ha; refine wpList_nil ?_; replace ha := ha.sub (σ' := [(0, (.int .u32 (BitVec.toNat a0 : Int)))]) ⟨rfl, trivial⟩; refine e_then ?_; refine wp_seq ?_; refine wp_region_lit ?_
  refine o_lit0 Rp.int ha rfl sl56 ?_; clear ha a; intro v1 w2 h3 hx4 a ha
  obtain ⟨b6, hb6⟩ : ∃ b : Int, b = W.heap.size := ⟨_, rfl⟩; rw [← hb6] at h3
  have q7 := zn_of hb6
  have q8 := Zn.upD q7 hE
  have hE9 := Ext.trans hE hx4
  refine op_g ha rfl (g_assign rfl) ?_; clear ha a; intro a ha; refine wpList_nil ?_; replace ha := ha.sub (σ' := [(0, (.int .u32 (BitVec.toNat a0 : Int))), (3, v1)]) ⟨rfl, rfl, trivial⟩; refine e_then ?_; refine wp_seq ?_; obtain ⟨o109, ho110, hK111⟩ := bnd_some hF
  obtain ⟨n112, hn113⟩ := lp_some ho110; clear ho110
  refine c_loop (fun a w => ∃ (l106 : (List Int)) (v107 : Value) (b108 : Int), Fr 17 [(3, v107)] a ∧ Chg [] W w ∧ Ow Rp.int 3 true w [] b108 v107 l106 ∧ Zn W b108 ∧ o109 = .inl l106) (fun n a w => ∃ (u55 : BitVec 32) (l59 : (List Int)) (v60 : Value) (b61 : Int), Fr 17 [(0, (.int .u32 (BitVec.toNat u55 : Int))), (3, v60)] a ∧ Chg [] W w ∧ Ow Rp.int 3 true w [] b61 v60 l59 ∧ Zn W b61 ∧ lpN (fun s => F_impl_vset_list_l1 s.1 s.2) n (u55, l59) = some o109) n112 ⟨a0, ([] : (List Int)), v1, b6, ha.sub ⟨rfl, rfl, trivial⟩, hE9, h3, q8, hn113⟩ ?_ ?_
  · rintro m117 a w54 ⟨u55, l59, v60, b61, ha, hE62, h57, z58, hF⟩
    cases m117 with
    | zero => exact (lpN_zero hF).elim
    | succ m117 =>
      obtain ⟨z116, hF, hN115⟩ := lpN_succ hF
      have hF : F_impl_vset_list_l1 u55 l59 = some z116 := hF; unfold F_impl_vset_list_l1 at hF
      refine wp_seq ?_; refine wp_seq ?_; refine wp_region_lit ?_; refine op_g ha rfl (g_move rfl) ?_; clear ha a; intro a ha; refine op_g ha rfl (g32_neq (m := u55) (n := (0#32)) rfl rfl) ?_; clear ha a; intro a ha; refine wpList_nil ?_; replace ha := ha.sub (σ' := [(0, (.int .u32 (BitVec.toNat u55 : Int))), (3, v60), (6, (.bool (decide (u55 ≠ (0#32)))))]) ⟨rfl, rfl, rfl, trivial⟩; refine e_then ?_; refine c_cond (u55 ≠ (0#32)) ha rfl (decide_eq_true_iff) (fun hp118 => ?_) (fun hp118 => ?_)
      · replace hF := if_t hp118 hF
        refine wp_skip ?_; refine e_then ?_; refine wp_seq ?_; refine wp_block ?_; refine wp_region_lit ?_; (iterate 2 refine op_g ha rfl (g_move rfl) ?_; clear ha a; intro a ha); obtain ⟨x119, hc120, hF⟩ := cal_some hF
        refine o_call ha rfl rfl Tryd.call58 (W_impl_vset_least (hG.ext hE62) hc120) ?_; clear ha a; rintro v121 w122 ⟨⟨rfl, hI124⟩, hx123⟩ a ha
        replace h57 := h57.ext hx123
        have hE125 := Ext.trans hE62 hx123
        refine o_lit1 (o := true) (y := x119) Rp.int ha rfl sl56 rfl rfl rfl ⟨rfl, hI124, rfl⟩ ?_; clear ha a; intro v126 w127 h128 hx129 a ha
        obtain ⟨b131, hb131⟩ : ∃ b : Int, b = w122.heap.size := ⟨_, rfl⟩; rw [← hb131] at h128
        have q132 := zn_of hb131
        have q133 := Nq.new h57.fpb q132
        have q134 := Nq.madeO q132 h57.blt
        have q135 := Zn.upD q132 hE125
        replace h57 := h57.ext hx129
        have hE136 := Ext.trans hE125 hx129
        obtain ⟨hl137, hF⟩ := app_some hF
        refine o_append ha rfl sl56 rfl rfl rfl h57 h128.src (Nq.nil _) hl137 ?_; clear ha a; intro v138 w139 b140 h141 hc142 hb143 a ha
        replace h141 : Ow Rp.int 3 true w139 [] b140 v138 _ := h141
        have q145 := Nq.appY q134 h128.fpb hb143
        have q146 := Nq.appX q133 (Nq.nil _) hb143 h128.blt
        have q147 := Zn.appD z58 hb143 hE136
        replace h128 := h128.nq hc142 q134
        have hE148 := Ext.then hE136 hc142 (Zn.bl z58)
        refine op_g ha rfl (g_assign rfl) ?_; clear ha a; intro a ha; refine wpList_nil ?_; replace ha := ha.sub (σ' := [(0, (.int .u32 (BitVec.toNat u55 : Int))), (3, v138)]) ⟨rfl, rfl, trivial⟩; refine e_blk ?_; refine e_then ?_; refine wp_region_lit ?_; (iterate 2 refine op_g ha rfl (g_move rfl) ?_; clear ha a; intro a ha); refine op_g ha rfl (g32_sub (m := u55) (n := (1#32)) rfl rfl) ?_; clear ha a; intro a ha; refine op_g ha rfl (g32_and (m := u55) (n := (u55 - (1#32))) rfl rfl) ?_; clear ha a; intro a ha; refine op_g ha rfl (g_assign rfl) ?_; clear ha a; intro a ha; refine wpList_nil ?_; replace ha := ha.sub (σ' := [(0, (.int .u32 (BitVec.toNat (u55 &&& (u55 - (1#32))) : Int))), (3, v138)]) ⟨rfl, rfl, trivial⟩
        refine e_lq ?_; obtain rfl := Option.some.inj hF
        exact ⟨_, Nat.lt_succ_self _, u55 &&& (u55 - (1#32)), (l59 ++ ([x119])), v138, b140, ha.sub ⟨rfl, rfl, trivial⟩, hE148, h141, q147, hN115⟩
      replace hF := if_f hp118 hF; refine wp_exit ?_; refine e_then_exit ?_; refine e_lq_eq ?_; obtain rfl := Option.some.inj hF
      exact ⟨l59, v60, b61, ha.sub ⟨rfl, trivial⟩, hE62, h57, z58, (LK_inr hN115).symm⟩
  rintro a w102 ⟨l106, v107, b108, ha, hE114, h104, z105, rfl⟩
  have hF : F_impl_vset_list_k2 l106 = some _ := hK111; clear hK111; unfold F_impl_vset_list_k2 at hF
  refine e_then ?_; refine wp_seq ?_; refine wp_region_lit ?_; refine op_g ha rfl (g_move rfl) ?_; clear ha a; intro a ha; refine op_g ha rfl (g_assign rfl) ?_; clear ha a; intro a ha; refine wpList_nil ?_; replace ha := ha.sub (σ' := [(2, v107)]) ⟨rfl, trivial⟩; refine e_then ?_; refine wp_ret ?_; obtain rfl := Option.some.inj hF
  exact f_ret1 ha rfl rfl ⟨_, h104, z105, hE114⟩
end Go.Proofs.YtadagcgehcpelaaDoor
