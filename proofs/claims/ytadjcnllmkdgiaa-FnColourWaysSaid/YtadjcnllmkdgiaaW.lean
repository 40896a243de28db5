/- Walks, printed by gen.py. -/
import Derived.Test.YtadjcnllmkdgiaaF
import Derived.Test.YtadjcnllmkdgiaaW2
import Derived.Test.YtadjcnllmkdgiaaProg
import Derived.KernelRfl
set_option maxRecDepth 100000
namespace Go.Proofs.Ytadjcnllmkdgiaa
open Go Go.RowKit

set_option maxHeartbeats 2000000 in
theorem W_laws_FnColourWays {W : World} {va0 : Value} {fa0 : List Nat} {a0 : (List (BitVec 8))} (ha0 : Ro Rp.u8 W fa0 va0 a0) {r : Bool} (hF : F_laws_FnColourWays a0 = some r) :
    Calls Try.prog 3 [va0].toArray W (Ret fun u w' => u = .bool r ∧ Ext W w') := by
  refine f_enter Try.func3 rfl Try.ntmps3 rfl ?_
  intro a ha
  replace ha : Fr 89 [(0, va0)] a := ha
  have hE : Chg [] W W := Chg.refl _ _
  unfold F_laws_FnColourWays at hF
  refine wp_seq ?_; refine wp_region_lit ?_; refine op_g ha rfl (g_assign rfl) ?_; clear ha a; intro a ha; refine wpList_nil ?_; replace ha := ha.sub (σ' := [(0, va0)]) ⟨rfl, trivial⟩; refine e_then ?_; refine wp_seq ?_; refine wp_seq ?_; refine wp_region_lit ?_; refine op_g ha rfl (g_move rfl) ?_; clear ha a; intro a ha; obtain ⟨x1, hc2, hF⟩ := cal_some hF
  refine o_call ha rfl rfl Try.call5 (W_laws_big (ha0.ext hE) hc2) ?_; clear ha a; rintro v3 w4 ⟨rfl, hx5⟩ a ha
  have hE6 := Ext.trans hE hx5
  refine wpList_nil ?_; replace ha := ha.sub (σ' := [(0, va0), (16, (.bool x1))]) ⟨rfl, rfl, trivial⟩; refine e_then ?_; refine c_cond (x1 = true) ha rfl (Iff.rfl) (fun hp7 => ?_) (fun hp7 => ?_)
  · replace hF := if_t hp7 hF
    refine wp_seq ?_; refine wp_region_lit ?_; refine op_g ha rfl (g_assign rfl) ?_; clear ha a; intro a ha; refine wpList_nil ?_; replace ha := ha.sub (σ' := [(2, (.bool true))]) ⟨rfl, trivial⟩; refine e_then ?_; refine wp_ret ?_; refine e_then_ret ?_; obtain rfl := Option.some.inj hF
    exact f_ret1 ha rfl rfl ⟨rfl, hE6⟩
  replace hF := if_f hp7 hF; refine wp_skip ?_; refine e_then ?_; refine wp_seq ?_; refine wp_region_lit ?_; refine op_g ha rfl (g_move rfl) ?_; clear ha a; intro a ha; obtain ⟨x8, hc9, hF⟩ := cal_some hF
  refine o_call ha rfl rfl Try.call6 (W_laws_roll (ha0.ext hE6) (show InU 805 from by decide) hc9) ?_; clear ha a; rintro v10 w11 ⟨b13, fs14, h15, z16, hl17, hx12⟩ a ha
  have hE19 := Ext.trans hE6 hx12
  have q20 := Zn.upD z16 hE6
  refine op_g ha rfl (g_assign rfl) ?_; clear ha a; intro a ha; refine wpList_nil ?_; replace ha := ha.sub (σ' := [(3, v10)]) ⟨rfl, trivial⟩; refine e_then ?_; refine wp_seq ?_; refine wp_region_lit ?_; refine op_g ha rfl (g_move rfl) ?_; clear ha a; intro a ha; obtain ⟨x21, hc22, hF⟩ := cal_some hF
  refine o_call ha rfl rfl Try.call7 (W_laws_w6Graph h15 (show InI 7 from by decide) hc22) ?_; clear ha a; rintro v23 w24 ⟨u26, fp27, rfl, h28, pv29, h31, hx25⟩ a ha
  have q32 := Nq.rd pv29 (Nq.nil _) h15.blt
  have hE33 := Ext.then hE19 hx25 (Zn.bl q20)
  refine o_alloc (cs := [(.slice none 0 0)]) ha rfl Try.zeroValue29 rfl ?_; clear ha a; intro b34 w35 hB36 hx37 hlo38 a ha
  have q39 := Zn.one hlo38
  have q40 := Nq.new h31.fpb q39
  have q41 := Nq.made1 hlo38 h31.blt
  have q42 := Nq.new h28.bnd q39
  have q43 := Zn.upD q39 hE33
  replace h31 := h31.ext hx37
  replace h28 := h28.ext hx37
  have hE44 := Ext.trans hE33 hx37
  refine o_storeA (vs := [u26]) ha hB36 Try.sizeOf29 rfl rfl (by intro c hc; simp only [List.mem_cons, List.not_mem_nil, or_false] at hc; rcases hc with hc <;> subst hc <;> first | rfl | exact h28.oneC) rfl ?_; intro w45 hB46 hc47
  replace hc47 := hc47.bl
  replace hB46 : Bx w45 b34 [u26] 29 := hB46
  replace h31 := h31.nq hc47 q40
  replace h28 := h28.nq hc47 q42
  have hE48 := Ext.then hE44 hc47 (Zn.bl q43)
  refine wpList_nil ?_; replace ha := ha.sub (σ' := [(3, v10), (4, (.pointer (some ⟨b34, 0, none⟩)))]) ⟨rfl, rfl, trivial⟩; refine e_then ?_; refine wp_seq ?_; refine wp_region_lit ?_; refine op_g ha rfl (g_move rfl) ?_; clear ha a; intro a ha; obtain ⟨x49, hc50, hF⟩ := cal_some hF
  refine o_call ha rfl rfl Try.call8 (W_laws_dice_below h31 (show InI 5 from by decide) hc50) ?_; clear ha a; rintro v51 w52 ⟨⟨rfl, hI54⟩, h55, hx53⟩ a ha
  replace h28 := h28.nq hx53 q32
  replace hB46 := hB46.nq hx53 q41
  have hE56 := Ext.then hE48 hx53 (Zn.bl q20)
  refine op_g ha rfl (g_assign rfl) ?_; clear ha a; intro a ha; refine wpList_nil ?_; replace ha := ha.sub (σ' := [(3, v10), (4, (.pointer (some ⟨b34, 0, none⟩))), (5, (.int .i64 x49.1))]) ⟨rfl, rfl, rfl, trivial⟩; refine e_then ?_; refine wp_seq ?_; refine wp_region_lit ?_; refine op_g ha rfl (g_loadA (cs := [u26]) Try.isAgg29 Try.sizeOf29 rfl (by simp) hB46.all) ?_; clear ha a; intro a ha; refine op_g ha rfl (g_move rfl) ?_; clear ha a; intro a ha; obtain ⟨x57, hc58, hF⟩ := cal_some hF
  refine o_call ha rfl rfl Try.call9 (W_impl_ColourWays h28 hI54 hc58) ?_; clear ha a; rintro v59 w60 ⟨⟨rfl, hI62⟩, hx61⟩ a ha
  replace h55 := h55.ext hx61
  replace h28 := h28.ext hx61
  replace hB46 := hB46.ext hx61
  have hE63 := Ext.trans hE56 hx61
  refine op_g ha rfl (g_assign rfl) ?_; clear ha a; intro a ha; refine wpList_nil ?_; replace ha := ha.sub (σ' := [(3, v10), (4, (.pointer (some ⟨b34, 0, none⟩))), (5, (.int .i64 x49.1)), (6, (.int .i64 x57))]) ⟨rfl, rfl, rfl, rfl, trivial⟩; refine e_then ?_; refine wp_seq ?_; refine wp_seq ?_; refine wp_region_lit ?_; refine op_g ha rfl (g_move rfl) ?_; clear ha a; intro a ha; refine op_g ha rfl (g_gtr rfl rfl) ?_; clear ha a; intro a ha; refine op_g ha rfl (g_move rfl) ?_; clear ha a; intro a ha; refine op_g ha rfl (g_loadA (cs := [u26]) Try.isAgg29 Try.sizeOf29 rfl (by simp) hB46.all) ?_; clear ha a; intro a ha
  obtain ⟨x64, hc65, hF⟩ := cal_some hF
  refine o_call ha rfl rfl Try.call10 (W_spec_ChromaticOf h28 hc65) ?_; clear ha a; rintro v66 w67 ⟨⟨rfl, hI69⟩, hx68⟩ a ha
  replace h55 := h55.ext hx68
  replace h28 := h28.ext hx68
  replace hB46 := hB46.ext hx68
  have hE70 := Ext.trans hE63 hx68
  refine op_g ha rfl (g_geq rfl rfl) ?_; clear ha a; intro a ha; refine op_g ha rfl (gB_neq un4 rfl rfl) ?_; clear ha a; intro a ha; refine wpList_nil ?_; replace ha := ha.sub (σ' := [(3, v10), (4, (.pointer (some ⟨b34, 0, none⟩))), (5, (.int .i64 x49.1)), (6, (.int .i64 x57)), (32, (.bool ((decide (0 < x57)) != (decide (x64 ≤ x49.1)))))]) ⟨rfl, rfl, rfl, rfl, rfl, trivial⟩; refine e_then ?_; refine c_cond (((decide (0 < x57)) != (decide (x64 ≤ x49.1))) = true) ha rfl (Iff.rfl) (fun hp71 => ?_) (fun hp71 => ?_)
  · replace hF := if_t hp71 hF
    refine wp_seq ?_; refine wp_region_lit ?_; refine op_g ha rfl (g_assign rfl) ?_; clear ha a; intro a ha; refine wpList_nil ?_; replace ha := ha.sub (σ' := [(2, (.bool false))]) ⟨rfl, trivial⟩; refine e_then ?_; refine wp_ret ?_; refine e_then_ret ?_; obtain rfl := Option.some.inj hF
    exact f_ret1 ha rfl rfl ⟨rfl, hE70⟩
  replace hF := if_f hp71 hF; refine wp_skip ?_; refine e_then ?_; refine wp_seq ?_; refine wp_region_lit ?_; refine op_g ha rfl (g_loadA (cs := [u26]) Try.isAgg29 Try.sizeOf29 rfl (by simp) hB46.all) ?_; clear ha a; intro a ha; obtain ⟨x72, hc73, hF⟩ := cal_some hF
  refine o_call ha rfl rfl Try.call11 (W_spec_EdgesOf h28 hc73) ?_; clear ha a; rintro v74 w75 ⟨b77, fs81, h78, z79, zf82, nd83, hx76⟩ a ha
  have q84 := Nq.new h55.fpb z79
  have q85 := Nq.madeF z79 zf82 h55.blt
  have q86 := Nq.new h28.bnd z79
  have q87 := Nq.new hB46.fpb z79
  have q88 := Nq.madeF z79 zf82 hB46.bi
  have q89 := Nf.new h28.bnd zf82
  have q90 := Nf.new hB46.fpb zf82
  replace h55 := h55.ext hx76
  replace h28 := h28.ext hx76
  replace hB46 := hB46.ext hx76
  have hE91 := Ext.trans hE70 hx76
  have q92 := Zn.upD z79 hE70
  have q93 := zf_up zf82 hE70
  refine op_g ha rfl (g_assign rfl) ?_; clear ha a; intro a ha; refine wpList_nil ?_; replace ha := ha.sub (σ' := [(3, v10), (4, (.pointer (some ⟨b34, 0, none⟩))), (5, (.int .i64 x49.1)), (6, (.int .i64 x57)), (7, v74)]) ⟨rfl, rfl, rfl, rfl, rfl, trivial⟩; refine e_then ?_; refine wp_seq ?_; refine wp_seq ?_; refine wp_region_lit ?_; refine op_g ha rfl (g_move rfl) ?_; clear ha a; intro a ha; refine op_g ha rfl (g_lenO sl27.und h78 rfl) ?_; clear ha a; intro a ha; refine op_g ha rfl (g_eql rfl rfl) ?_; clear ha a; intro a ha; refine wpList_nil ?_; replace ha := ha.sub (σ' := [(3, v10), (4, (.pointer (some ⟨b34, 0, none⟩))), (5, (.int .i64 x49.1)), (6, (.int .i64 x57)), (7, v74), (37, (.bool (decide ((x72.length : Int) = 0))))]) ⟨rfl, rfl, rfl, rfl, rfl, rfl, trivial⟩
  refine e_then ?_; refine c_cond ((x72.length : Int) = 0) ha rfl (decide_eq_true_iff) (fun hp94 => ?_) (fun hp94 => ?_)
  · replace hF := if_t hp94 hF
    refine wp_seq ?_; refine wp_region_lit ?_; refine op_g ha rfl (g_assign rfl) ?_; clear ha a; intro a ha; refine wpList_nil ?_; replace ha := ha.sub (σ' := [(4, (.pointer (some ⟨b34, 0, none⟩))), (5, (.int .i64 x49.1)), (6, (.int .i64 x57)), (8, (.int .i64 1))]) ⟨rfl, rfl, rfl, rfl, trivial⟩; refine e_then ?_; refine wp_seq ?_; refine wp_seq ?_; refine wp_region_lit ?_; refine op_g ha rfl (g_assign rfl) ?_; clear ha a; intro a ha; refine wpList_nil ?_; replace ha := ha.sub (σ' := [(4, (.pointer (some ⟨b34, 0, none⟩))), (5, (.int .i64 x49.1)), (6, (.int .i64 x57)), (8, (.int .i64 1)), (9, (.int .i64 0))]) ⟨rfl, rfl, rfl, rfl, rfl, trivial⟩
    refine e_then ?_; obtain ⟨o146, ho147, hK148⟩ := bnd_some hF
    obtain ⟨n149, hn150⟩ := lp_some ho147; clear ho147
    refine c_loop (fun a w => ∃ (i144 : Int), Fr 89 [(6, (.int .i64 x57)), (8, (.int .i64 i144))] a ∧ Chg [] W w ∧ InI i144 ∧ o146 = .inl i144) (fun n a w => ∃ (i122 : Int) (i124 : Int), Fr 89 [(4, (.pointer (some ⟨b34, 0, none⟩))), (5, (.int .i64 x49.1)), (6, (.int .i64 x57)), (8, (.int .i64 i122)), (9, (.int .i64 i124))] a ∧ Chg [] W w ∧ InI i122 ∧ InI i124 ∧ Bx w b34 [u26] 29 ∧ Zn W (b34 : Int) ∧ Ro (Rp.sl 2 Rp.int) w fp27 u26 x21.1 ∧ Nq (fp27) (b34 : Int) ∧ lpN (fun s => F_laws_FnColourWays_l1 x21 x49 s.1 s.2) n (i122, i124) = some o146) n149 ⟨1, 0, ha.sub ⟨rfl, rfl, rfl, rfl, rfl, trivial⟩, hE91, (show InI 1 from by decide), (show InI 0 from by decide), hB46, q43, h28, q42, hn150⟩ ?_ ?_
    · rintro m154 a w117 ⟨i122, i124, ha, hE127, hI123, hI125, hB118, z119, h121, q126, hF⟩
      cases m154 with
      | zero => exact (lpN_zero hF).elim
      | succ m154 =>
        obtain ⟨z153, hF, hN152⟩ := lpN_succ hF
        have hF : F_laws_FnColourWays_l1 x21 x49 i122 i124 = some z153 := hF; unfold F_laws_FnColourWays_l1 at hF
        refine wp_seq ?_; refine wp_seq ?_; refine wp_region_lit ?_; refine op_g ha rfl (g_move rfl) ?_; clear ha a; intro a ha; refine op_g ha rfl (g_field0 st29_0 rfl) ?_; clear ha a; intro a ha; refine op_g ha rfl (g_load Try.isAgg27 rfl (hB118.cell rfl)) ?_; clear ha a; intro a ha; refine op_g ha rfl (g_lenR sl27.und h121 rfl) ?_; clear ha a; intro a ha; refine op_g ha rfl (g_lss rfl rfl) ?_; clear ha a; intro a ha; refine wpList_nil ?_; replace ha := ha.sub (σ' := [(4, (.pointer (some ⟨b34, 0, none⟩))), (5, (.int .i64 x49.1)), (6, (.int .i64 x57)), (8, (.int .i64 i122)), (9, (.int .i64 i124)), (42, (.bool (decide (i124 < (x21.1.length : Int)))))]) ⟨rfl, rfl, rfl, rfl, rfl, rfl, trivial⟩
        refine e_then ?_; refine c_cond (i124 < (x21.1.length : Int)) ha rfl (decide_eq_true_iff) (fun hp155 => ?_) (fun hp155 => ?_)
        · replace hF := if_t hp155 hF
          refine wp_skip ?_; refine e_then ?_; refine wp_seq ?_; refine wp_block ?_; refine wp_region_lit ?_; (iterate 2 refine op_g ha rfl (g_move rfl) ?_; clear ha a; intro a ha); obtain ⟨hI156, hF⟩ := ck_some hF; refine op_g ha rfl (g_mul rfl rfl hI156) ?_; clear ha a; intro a ha; refine op_g ha rfl (g_assign rfl) ?_; clear ha a; intro a ha; refine wpList_nil ?_; replace ha := ha.sub (σ' := [(4, (.pointer (some ⟨b34, 0, none⟩))), (5, (.int .i64 x49.1)), (6, (.int .i64 x57)), (8, (.int .i64 (i122 * x49.1))), (9, (.int .i64 i124))]) ⟨rfl, rfl, rfl, rfl, rfl, trivial⟩; refine e_blk ?_; refine e_then ?_
          refine wp_region_lit ?_; refine op_g ha rfl (g_move rfl) ?_; clear ha a; intro a ha; obtain ⟨hI158, hF⟩ := ck_some hF; refine op_g ha rfl (g_add rfl rfl hI158) ?_; clear ha a; intro a ha; refine op_g ha rfl (g_assign rfl) ?_; clear ha a; intro a ha; refine wpList_nil ?_; replace ha := ha.sub (σ' := [(4, (.pointer (some ⟨b34, 0, none⟩))), (5, (.int .i64 x49.1)), (6, (.int .i64 x57)), (8, (.int .i64 (i122 * x49.1))), (9, (.int .i64 (i124 + 1)))]) ⟨rfl, rfl, rfl, rfl, rfl, trivial⟩; refine e_lq ?_; obtain rfl := Option.some.inj hF
          exact ⟨_, Nat.lt_succ_self _, i122 * x49.1, i124 + 1, ha.sub ⟨rfl, rfl, rfl, rfl, rfl, trivial⟩, hE127, hI156, hI158, hB118, z119, h121, q126, hN152⟩
        replace hF := if_f hp155 hF; refine wp_exit ?_; refine e_then_exit ?_; refine e_lq_eq ?_; obtain rfl := Option.some.inj hF
        exact ⟨i122, ha.sub ⟨rfl, rfl, trivial⟩, hE127, hI123, (LK_inr hN152).symm⟩
    rintro a w143 ⟨i144, ha, hE151, hI145, rfl⟩
    have hF : F_laws_FnColourWays_k2 x57 i144 = some _ := hK148; clear hK148; unfold F_laws_FnColourWays_k2 at hF
    refine e_then ?_; refine wp_seq ?_; refine wp_region_lit ?_; (iterate 2 refine op_g ha rfl (g_move rfl) ?_; clear ha a; intro a ha); refine op_g ha rfl (g_eql rfl rfl) ?_; clear ha a; intro a ha; refine op_g ha rfl (g_assign rfl) ?_; clear ha a; intro a ha; refine wpList_nil ?_; replace ha := ha.sub (σ' := [(2, (.bool (decide (x57 = i144))))]) ⟨rfl, trivial⟩; refine e_then ?_; refine wp_ret ?_; refine e_then_ret ?_; obtain rfl := Option.some.inj hF
    exact f_ret1 ha rfl rfl ⟨rfl, hE151⟩
  replace hF := if_f hp94 hF; refine wp_skip ?_; refine e_then ?_; refine wp_seq ?_; refine wp_region_lit ?_; (iterate 3 refine op_g ha rfl (g_move rfl) ?_; clear ha a; intro a ha); refine op_g ha rfl (g_lenO sl27.und h78 rfl) ?_; clear ha a; intro a ha; obtain ⟨x160, hc161, hF⟩ := cal_some hF
  refine o_call ha rfl rfl Try.call8 (W_laws_dice_below h55 h78.len hc161) ?_; clear ha a; rintro v162 w163 ⟨⟨rfl, hI165⟩, h166, hx164⟩ a ha
  replace h28 := h28.nq hx164 q32
  replace hB46 := hB46.nq hx164 q41
  replace h78 := h78.nq hx164 q85
  have hE167 := Ext.then hE91 hx164 (Zn.bl q20)
  obtain ⟨x168, g169, gx170, hF⟩ := idx_some hF
  obtain ⟨p171, cs172, f173, hf174, hpb175, hat176, hr177, hi178⟩ := h78.at g169 gx170
  replace hr177 := (Rp.sl 2 Rp.int).weak hr177
  obtain ⟨v179, rfl, h180⟩ := hr177
  have h180 : Ro Rp.int w163 f173 v179 x168 := h180
  have q182 := Nq.mono q85 (fun k hk => List.mem_append_right (bl b77) (hf174 k hk))
  have q183 := Nq.mono q88 (fun k hk => List.mem_append_right (bl b77) (hf174 k hk))
  have q184 := Nq.mono (Ow.ne h78) hf174
  refine op_g ha rfl (hi178.gives sl27 rfl rfl) ?_; clear ha a; intro a ha; refine op_g ha rfl (g_load Try.isAgg35 rfl hat176.one) ?_; clear ha a; intro a ha; refine op_g ha rfl (g_assign rfl) ?_; clear ha a; intro a ha; refine wpList_nil ?_; replace ha := ha.sub (σ' := [(4, (.pointer (some ⟨b34, 0, none⟩))), (5, (.int .i64 x49.1)), (6, (.int .i64 x57)), (10, v179)]) ⟨rfl, rfl, rfl, rfl, trivial⟩; refine e_then ?_; refine wp_seq ?_; refine x_region [0, 1, 2, 3, 4, 5, 6, 7, 8, 9, 10, 11, 12, 13] hmix ?_
  have hS185 := RowKit.Below.refl w163.heap.size w163
  refine x_g 0 rfl (by kernel_rfl) (want0 _) ha rfl hS185 (g_loadA (cs := [u26]) Try.isAgg29 Try.sizeOf29 rfl (by simp) hB46.all) ?_; clear ha a; intro a ha; refine x_g 1 rfl (by kernel_rfl) (want0 _) ha rfl hS185 (g_move rfl) ?_; clear ha a; intro a ha; obtain ⟨x186, g187, gx188, hF⟩ := idx_some hF
  obtain ⟨p189, cs190, f191, hf192, hpb193, hat194, hr195, hi196⟩ := h180.at g187 gx188
  obtain ⟨rfl, hI197, rfl⟩ := hr195
  refine x_g 2 rfl (by kernel_rfl) (want0 _) ha rfl hS185 (hi196.gives sl35 rfl rfl) ?_; clear ha a; intro a ha; refine x_g 3 rfl (by kernel_rfl) (want0 _) ha rfl hS185 (g_load Try.isAgg2 rfl hat194.one) ?_; clear ha a; intro a ha; refine x_g 4 rfl (by kernel_rfl) (want0 _) ha rfl hS185 (g_move rfl) ?_; clear ha a; intro a ha; obtain ⟨x198, g199, gx200, hF⟩ := idx_some hF
  obtain ⟨p201, cs202, f203, hf204, hpb205, hat206, hr207, hi208⟩ := h180.at g199 gx200
  obtain ⟨rfl, hI209, rfl⟩ := hr207
  refine x_g 5 rfl (by kernel_rfl) (want0 _) ha rfl hS185 (hi208.gives sl35 rfl rfl) ?_; clear ha a; intro a ha; refine x_g 6 rfl (by kernel_rfl) (want0 _) ha rfl hS185 (g_load Try.isAgg2 rfl hat206.one) ?_; clear ha a; intro a ha; obtain ⟨xqr1o7_1, hcqr1o7_1, hF⟩ := cal_some hF; refine x_many [7, 11] (by kernel_rfl) rfl fun wqr1_1 hxqr1_1 => ⟨⟨_, rfl, ?_⟩, ⟨_, rfl, ?_⟩, trivial⟩
  · skip
    replace h28 := h28.ext hxqr1_1
    replace hB46 := hB46.ext hxqr1_1
    replace h180 := h180.ext hxqr1_1
    have hEqr1o7_1 := Ext.trans hE167 hxqr1_1
    have qqr1o7_1 := bel_step hS185 hxqr1_1
    refine o_call ha rfl rfl Try.call12 (W_spec_CutEdge h28 hI197 hI209 hcqr1o7_1) ?_; clear ha a; rintro vqr1o7_1 wqr1o7_1 ⟨uqr1o7_1, uqr1o7_2, uqr1o7_3, bqr1o7_1, fsqr1o7_1, rfl, rfl, hqr1o7_1, zqr1o7_1, zfqr1o7_1, ndqr1o7_1, rfl, hxqr1o7_1⟩ a ha
    have qqr1o7_2 := Zn.upB zqr1o7_1 qqr1o7_1
    have qqr1o7_3 := Nq.new h28.bnd zqr1o7_1
    have qqr1o7_4 := Nq.new hB46.fpb zqr1o7_1
    have qqr1o7_5 := Nq.madeF zqr1o7_1 zfqr1o7_1 hB46.bi
    have qqr1o7_6 := Nq.new h180.bnd zqr1o7_1
    have qqr1o7_7 := Nf.new h28.bnd zfqr1o7_1
    have qqr1o7_8 := Nf.new hB46.fpb zfqr1o7_1
    have qqr1o7_9 := Nf.new h180.bnd zfqr1o7_1
    replace h28 := h28.ext hxqr1o7_1
    replace hB46 := hB46.ext hxqr1o7_1
    replace h180 := h180.ext hxqr1o7_1
    have hEqr1o7_2 := Ext.trans hEqr1o7_1 hxqr1o7_1
    have qqr1o7_10 := Zn.upD zqr1o7_1 hEqr1o7_1
    have qqr1o7_11 := zf_up zfqr1o7_1 hEqr1o7_1
    refine wpList_nil (e_sq ?_)
    have hStqr1o7_1 : RowKit.Below w163.heap.size wqr1_1 wqr1o7_1 := ext_bel qqr1o7_1.size hxqr1o7_1
    refine ⟨fun _ => hStqr1o7_1, ?_⟩
    have qqr1o7_12 := RowKit.Below.trans qqr1o7_1 hStqr1o7_1
    refine x_g 8 rfl (by kernel_rfl) (want0 _) ha rfl qqr1o7_12 (g_move rfl) ?_; clear ha a; intro a ha; refine x_g 9 rfl (by kernel_rfl) (want0 _) ha rfl qqr1o7_12 (g_extract rfl rfl) ?_; clear ha a; intro a ha; refine x_g 10 rfl (by kernel_rfl) (want0 _) ha rfl qqr1o7_12 (g_extract rfl rfl) ?_; clear ha a; intro a ha
    refine x_only 11 rfl (by kernel_rfl) ?_; intro wqr1o11_1 hxqr1o11_1
    replace h28 := h28.ext hxqr1o11_1
    replace hB46 := hB46.ext hxqr1o11_1
    replace h180 := h180.ext hxqr1o11_1
    replace hqr1o7_1 := hqr1o7_1.ext hxqr1o11_1
    have hEqr1o11_1 := Ext.trans hEqr1o7_2 hxqr1o11_1
    have qqr1o11_1 := bel_step qqr1o7_12 hxqr1o11_1
    refine o_alloc (cs := [(.slice none 0 0)]) ha rfl Try.zeroValue29 rfl ?_; clear ha a; intro bqr1o11_1 wqr1o11_2 hBqr1o11_1 hxqr1o11_2 hloqr1o11_1 a ha
    have qqr1o11_2 := Zn.one hloqr1o11_1
    have qqr1o11_3 := Nq.new h28.bnd qqr1o11_2
    have qqr1o11_4 := Nq.new hB46.fpb qqr1o11_2
    have qqr1o11_5 := Nq.made1 hloqr1o11_1 hB46.bi
    have qqr1o11_6 := Nq.new h180.bnd qqr1o11_2
    have qqr1o11_7 := Nq.new hqr1o7_1.fpb qqr1o11_2
    have qqr1o11_8 := Nq.made1 hloqr1o11_1 hqr1o7_1.blt
    have qqr1o11_9 := Zn.upD qqr1o11_2 hEqr1o11_1
    have qqr1o11_10 := Zn.upB qqr1o11_2 qqr1o11_1
    replace h28 := h28.ext hxqr1o11_2
    replace hB46 := hB46.ext hxqr1o11_2
    replace h180 := h180.ext hxqr1o11_2
    replace hqr1o7_1 := hqr1o7_1.ext hxqr1o11_2
    have hEqr1o11_2 := Ext.trans hEqr1o11_1 hxqr1o11_2
    refine wpList_nil (e_sq ?_)
    have hStqr1o11_1 : RowKit.Below w163.heap.size wqr1o11_1 wqr1o11_2 := ext_bel qqr1o11_1.size hxqr1o11_2
    refine ⟨fun _ => hStqr1o11_1, ?_⟩
    have qqr1o11_11 := RowKit.Below.trans qqr1o11_1 hStqr1o11_1
    refine x_only 12 rfl (by kernel_rfl) ?_; intro wqr1o12_1 hxqr1o12_1
    replace h28 := h28.ext hxqr1o12_1
    replace hB46 := hB46.ext hxqr1o12_1
    replace h180 := h180.ext hxqr1o12_1
    replace hqr1o7_1 := hqr1o7_1.ext hxqr1o12_1
    replace hBqr1o11_1 := hBqr1o11_1.ext hxqr1o12_1
    have hEqr1o12_1 := Ext.trans hEqr1o11_2 hxqr1o12_1
    have qqr1o12_1 := bel_step qqr1o11_11 hxqr1o12_1
    refine o_storeA (vs := [uqr1o7_3]) ha hBqr1o11_1 Try.sizeOf29 rfl rfl (by intro c hc; simp only [List.mem_cons, List.not_mem_nil, or_false] at hc; rcases hc with hc <;> subst hc <;> first | rfl | exact hqr1o7_1.oneC) rfl ?_; intro wqr1o12_2 hBqr1o12_1 hcqr1o12_1
    replace hcqr1o12_1 := hcqr1o12_1.bl
    replace hBqr1o12_1 : Bx wqr1o12_2 bqr1o11_1 [uqr1o7_3] 29 := hBqr1o12_1
    replace h28 := h28.nq hcqr1o12_1 qqr1o11_3
    replace hB46 := hB46.nq hcqr1o12_1 qqr1o11_4
    replace h180 := h180.nq hcqr1o12_1 qqr1o11_6
    replace hqr1o7_1 := hqr1o7_1.nq hcqr1o12_1 qqr1o11_7
    have hEqr1o12_2 := Ext.then hEqr1o12_1 hcqr1o12_1 (Zn.bl qqr1o11_9)
    refine wpList_nil (e_sq ?_)
    have hStqr1o12_1 : RowKit.Below w163.heap.size wqr1o12_1 wqr1o12_2 := chg_bel hcqr1o12_1 qqr1o12_1.size (Zn.bl qqr1o11_10)
    refine ⟨fun _ => hStqr1o12_1, ?_⟩
    have qqr1o12_2 := RowKit.Below.trans qqr1o12_1 hStqr1o12_1
    refine x_g 13 rfl (by kernel_rfl) (want0 _) ha rfl qqr1o12_2 (g_assign rfl) ?_; clear ha a; intro a ha
    refine x_done (by kernel_rfl) ?_; intro w210 hx211
    replace h28 := h28.ext hx211
    replace hB46 := hB46.ext hx211
    replace h180 := h180.ext hx211
    replace hqr1o7_1 := hqr1o7_1.ext hx211
    replace hBqr1o12_1 := hBqr1o12_1.ext hx211
    have hE212 := Ext.trans hEqr1o12_2 hx211
    replace ha := ha.sub (σ' := [(4, (.pointer (some ⟨b34, 0, none⟩))), (5, (.int .i64 x49.1)), (6, (.int .i64 x57)), (10, v179), (11, (.pointer (some ⟨bqr1o11_1, 0, none⟩)))]) ⟨rfl, rfl, rfl, rfl, rfl, trivial⟩; refine e_then ?_; refine wp_seq ?_; refine x_region [0, 1, 2, 3, 4, 5, 6, 7, 8, 9, 10, 11, 12, 13] hmix ?_
    have hS213 := RowKit.Below.refl w210.heap.size w210
    refine x_g 0 rfl (by kernel_rfl) (want0 _) ha rfl hS213 (g_loadA (cs := [u26]) Try.isAgg29 Try.sizeOf29 rfl (by simp) hB46.all) ?_; clear ha a; intro a ha; refine x_g 1 rfl (by kernel_rfl) (want0 _) ha rfl hS213 (g_move rfl) ?_; clear ha a; intro a ha; obtain ⟨x214, g215, gx216, hF⟩ := idx_some hF
    obtain ⟨p217, cs218, f219, hf220, hpb221, hat222, hr223, hi224⟩ := h180.at g215 gx216
    obtain ⟨rfl, hI225, rfl⟩ := hr223
    refine x_g 2 rfl (by kernel_rfl) (want0 _) ha rfl hS213 (hi224.gives sl35 rfl rfl) ?_; clear ha a; intro a ha; refine x_g 3 rfl (by kernel_rfl) (want0 _) ha rfl hS213 (g_load Try.isAgg2 rfl hat222.one) ?_; clear ha a; intro a ha; refine x_g 4 rfl (by kernel_rfl) (want0 _) ha rfl hS213 (g_move rfl) ?_; clear ha a; intro a ha; obtain ⟨x226, g227, gx228, hF⟩ := idx_some hF
    obtain ⟨p229, cs230, f231, hf232, hpb233, hat234, hr235, hi236⟩ := h180.at g227 gx228
    obtain ⟨rfl, hI237, rfl⟩ := hr235
    refine x_g 5 rfl (by kernel_rfl) (want0 _) ha rfl hS213 (hi236.gives sl35 rfl rfl) ?_; clear ha a; intro a ha; refine x_g 6 rfl (by kernel_rfl) (want0 _) ha rfl hS213 (g_load Try.isAgg2 rfl hat234.one) ?_; clear ha a; intro a ha; obtain ⟨xqr2o7_1, hcqr2o7_1, hF⟩ := cal_some hF; refine x_many [7, 11] (by kernel_rfl) rfl fun wqr2_1 hxqr2_1 => ⟨⟨_, rfl, ?_⟩, ⟨_, rfl, ?_⟩, trivial⟩
    · skip
      replace h28 := h28.ext hxqr2_1
      replace hB46 := hB46.ext hxqr2_1
      replace h180 := h180.ext hxqr2_1
      replace hqr1o7_1 := hqr1o7_1.ext hxqr2_1
      replace hBqr1o12_1 := hBqr1o12_1.ext hxqr2_1
      have hEqr2o7_1 := Ext.trans hE212 hxqr2_1
      have qqr2o7_1 := bel_step hS213 hxqr2_1
      refine o_call ha rfl rfl Try.call13 (W_spec_Contracted h28 hI225 hI237 hcqr2o7_1) ?_; clear ha a; rintro vqr2o7_1 wqr2o7_1 ⟨uqr2o7_1, uqr2o7_2, uqr2o7_3, fpqr2o7_1, rfl, rfl, hqr2o7_1, pvqr2o7_1, rfl, hxqr2o7_1⟩ a ha
      have qqr2o7_2 := Nq.rd pvqr2o7_1 q42 hB46.bi
      have qqr2o7_3 := Nq.rd pvqr2o7_1 qqr1o7_3 hqr1o7_1.blt
      have qqr2o7_4 := Nq.rd pvqr2o7_1 qqr1o11_3 hBqr1o12_1.bi
      replace h28 := h28.ext hxqr2o7_1
      replace hB46 := hB46.ext hxqr2o7_1
      replace h180 := h180.ext hxqr2o7_1
      replace hqr1o7_1 := hqr1o7_1.ext hxqr2o7_1
      replace hBqr1o12_1 := hBqr1o12_1.ext hxqr2o7_1
      have hEqr2o7_2 := Ext.trans hEqr2o7_1 hxqr2o7_1
      refine wpList_nil (e_sq ?_)
      have hStqr2o7_1 : RowKit.Below w210.heap.size wqr2_1 wqr2o7_1 := ext_bel qqr2o7_1.size hxqr2o7_1
      refine ⟨fun _ => hStqr2o7_1, ?_⟩
      have qqr2o7_5 := RowKit.Below.trans qqr2o7_1 hStqr2o7_1
      refine x_g 8 rfl (by kernel_rfl) (want0 _) ha rfl qqr2o7_5 (g_move rfl) ?_; clear ha a; intro a ha; refine x_g 9 rfl (by kernel_rfl) (want0 _) ha rfl qqr2o7_5 (g_extract rfl rfl) ?_; clear ha a; intro a ha; refine x_g 10 rfl (by kernel_rfl) (want0 _) ha rfl qqr2o7_5 (g_extract rfl rfl) ?_; clear ha a; intro a ha
      refine x_only 11 rfl (by kernel_rfl) ?_; intro wqr2o11_1 hxqr2o11_1
      replace h28 := h28.ext hxqr2o11_1
      replace hB46 := hB46.ext hxqr2o11_1
      replace h180 := h180.ext hxqr2o11_1
      replace hqr1o7_1 := hqr1o7_1.ext hxqr2o11_1
      replace hBqr1o12_1 := hBqr1o12_1.ext hxqr2o11_1
      replace hqr2o7_1 := hqr2o7_1.ext hxqr2o11_1
      have hEqr2o11_1 := Ext.trans hEqr2o7_2 hxqr2o11_1
      have qqr2o11_1 := bel_step qqr2o7_5 hxqr2o11_1
      refine o_alloc (cs := [(.slice none 0 0)]) ha rfl Try.zeroValue29 rfl ?_; clear ha a; intro bqr2o11_1 wqr2o11_2 hBqr2o11_1 hxqr2o11_2 hloqr2o11_1 a ha
      have qqr2o11_2 := Zn.one hloqr2o11_1
      have qqr2o11_3 := Nq.new h28.bnd qqr2o11_2
      have qqr2o11_4 := Nq.new hB46.fpb qqr2o11_2
      have qqr2o11_5 := Nq.made1 hloqr2o11_1 hB46.bi
      have qqr2o11_6 := Nq.new h180.bnd qqr2o11_2
      have qqr2o11_7 := Nq.new hqr1o7_1.fpb qqr2o11_2
      have qqr2o11_8 := Nq.made1 hloqr2o11_1 hqr1o7_1.blt
      have qqr2o11_9 := Nq.new hBqr1o12_1.fpb qqr2o11_2
      have qqr2o11_10 := Nq.made1 hloqr2o11_1 hBqr1o12_1.bi
      have qqr2o11_11 := Nq.new hqr2o7_1.bnd qqr2o11_2
      have qqr2o11_12 := Zn.upD qqr2o11_2 hEqr2o11_1
      have qqr2o11_13 := Zn.upB qqr2o11_2 qqr2o11_1
      replace h28 := h28.ext hxqr2o11_2
      replace hB46 := hB46.ext hxqr2o11_2
      replace h180 := h180.ext hxqr2o11_2
      replace hqr1o7_1 := hqr1o7_1.ext hxqr2o11_2
      replace hBqr1o12_1 := hBqr1o12_1.ext hxqr2o11_2
      replace hqr2o7_1 := hqr2o7_1.ext hxqr2o11_2
      have hEqr2o11_2 := Ext.trans hEqr2o11_1 hxqr2o11_2
      refine wpList_nil (e_sq ?_)
      have hStqr2o11_1 : RowKit.Below w210.heap.size wqr2o11_1 wqr2o11_2 := ext_bel qqr2o11_1.size hxqr2o11_2
      refine ⟨fun _ => hStqr2o11_1, ?_⟩
      have qqr2o11_14 := RowKit.Below.trans qqr2o11_1 hStqr2o11_1
      refine x_only 12 rfl (by kernel_rfl) ?_; intro wqr2o12_1 hxqr2o12_1
      replace h28 := h28.ext hxqr2o12_1
      replace hB46 := hB46.ext hxqr2o12_1
      replace h180 := h180.ext hxqr2o12_1
      replace hqr1o7_1 := hqr1o7_1.ext hxqr2o12_1
      replace hBqr1o12_1 := hBqr1o12_1.ext hxqr2o12_1
      replace hqr2o7_1 := hqr2o7_1.ext hxqr2o12_1
      replace hBqr2o11_1 := hBqr2o11_1.ext hxqr2o12_1
      have hEqr2o12_1 := Ext.trans hEqr2o11_2 hxqr2o12_1
      have qqr2o12_1 := bel_step qqr2o11_14 hxqr2o12_1
      refine o_storeA (vs := [uqr2o7_3]) ha hBqr2o11_1 Try.sizeOf29 rfl rfl (by intro c hc; simp only [List.mem_cons, List.not_mem_nil, or_false] at hc; rcases hc with hc <;> subst hc <;> first | rfl | exact hqr2o7_1.oneC) rfl ?_; intro wqr2o12_2 hBqr2o12_1 hcqr2o12_1
      replace hcqr2o12_1 := hcqr2o12_1.bl
      replace hBqr2o12_1 : Bx wqr2o12_2 bqr2o11_1 [uqr2o7_3] 29 := hBqr2o12_1
      replace h28 := h28.nq hcqr2o12_1 qqr2o11_3
      replace hB46 := hB46.nq hcqr2o12_1 qqr2o11_4
      replace h180 := h180.nq hcqr2o12_1 qqr2o11_6
      replace hqr1o7_1 := hqr1o7_1.nq hcqr2o12_1 qqr2o11_7
      replace hBqr1o12_1 := hBqr1o12_1.nq hcqr2o12_1 qqr2o11_9
      replace hqr2o7_1 := hqr2o7_1.nq hcqr2o12_1 qqr2o11_11
      have hEqr2o12_2 := Ext.then hEqr2o12_1 hcqr2o12_1 (Zn.bl qqr2o11_12)
      refine wpList_nil (e_sq ?_)
      have hStqr2o12_1 : RowKit.Below w210.heap.size wqr2o12_1 wqr2o12_2 := chg_bel hcqr2o12_1 qqr2o12_1.size (Zn.bl qqr2o11_13)
      refine ⟨fun _ => hStqr2o12_1, ?_⟩
      have qqr2o12_2 := RowKit.Below.trans qqr2o12_1 hStqr2o12_1
      refine x_g 13 rfl (by kernel_rfl) (want0 _) ha rfl qqr2o12_2 (g_assign rfl) ?_; clear ha a; intro a ha
      refine x_done (by kernel_rfl) ?_; intro w238 hx239
      replace h28 := h28.ext hx239
      replace hB46 := hB46.ext hx239
      replace h180 := h180.ext hx239
      replace hqr1o7_1 := hqr1o7_1.ext hx239
      replace hBqr1o12_1 := hBqr1o12_1.ext hx239
      replace hqr2o7_1 := hqr2o7_1.ext hx239
      replace hBqr2o12_1 := hBqr2o12_1.ext hx239
      have hE240 := Ext.trans hEqr2o12_2 hx239
      replace ha := ha.sub (σ' := [(5, (.int .i64 x49.1)), (6, (.int .i64 x57)), (11, (.pointer (some ⟨bqr1o11_1, 0, none⟩))), (13, (.pointer (some ⟨bqr2o11_1, 0, none⟩)))]) ⟨rfl, rfl, rfl, rfl, trivial⟩; refine e_then ?_; refine wp_seq ?_; refine d_quiet hmix (by kernel_rfl) ?_; refine q_g ha rfl (g_move rfl) ?_; clear ha a; intro a ha; refine q_g ha rfl (g_loadA (cs := [uqr1o7_3]) Try.isAgg29 Try.sizeOf29 rfl (by simp) hBqr1o12_1.all) ?_; clear ha a; intro a ha; refine q_g ha rfl (g_move rfl) ?_; clear ha a; intro a ha
      obtain ⟨fp243, hro244, hs245⟩ := hqr1o7_1.roF
      obtain ⟨x246, hc247, hF⟩ := cal_some hF; refine q_call (.int .i64 x246) ha rfl rfl Try.call9 (fun w242 hx241 => W_impl_ColourWays (hro244.ext hx241) hI54 hc247) (fun _ _ _ h => ⟨h.1.1, h.2⟩) ?_; clear ha a; intro a ha
      have hI248 : InI x246 := calls_fact (w := w238) (W_impl_ColourWays (hro244.ext (Chg.refl _ _)) hI54 hc247) (fun _ _ h => h.1.2)
      refine q_g ha rfl (g_loadA (cs := [uqr2o7_3]) Try.isAgg29 Try.sizeOf29 rfl (by simp) hBqr2o12_1.all) ?_; clear ha a; intro a ha; refine q_g ha rfl (g_move rfl) ?_; clear ha a; intro a ha; obtain ⟨x251, hc252, hF⟩ := cal_some hF; refine q_call (.int .i64 x251) ha rfl rfl Try.call9 (fun w250 hx249 => W_impl_ColourWays (hqr2o7_1.ext hx249) hI54 hc252) (fun _ _ _ h => ⟨h.1.1, h.2⟩) ?_; clear ha a; intro a ha
      have hI253 : InI x251 := calls_fact (w := w238) (W_impl_ColourWays (hqr2o7_1.ext (Chg.refl _ _)) hI54 hc252) (fun _ _ h => h.1.2)
      obtain ⟨hI254, hF⟩ := ck_some hF; refine q_g ha rfl (g_sub rfl rfl hI254) ?_; clear ha a; intro a ha; refine q_g ha rfl (g_eql rfl rfl) ?_; clear ha a; intro a ha; refine q_g ha rfl (g_assign rfl) ?_; clear ha a; intro a ha
      refine q_nil ?_; intro w256 hx257
      replace hqr1o7_1 := hqr1o7_1.ext hx257
      replace hBqr1o12_1 := hBqr1o12_1.ext hx257
      replace hqr2o7_1 := hqr2o7_1.ext hx257
      replace hBqr2o12_1 := hBqr2o12_1.ext hx257
      have hE258 := Ext.trans hE240 hx257
      replace ha := ha.sub (σ' := [(2, (.bool (decide (x57 = (x246 - x251)))))]) ⟨rfl, trivial⟩; refine e_then ?_; refine wp_ret ?_; obtain rfl := Option.some.inj hF
      exact f_ret1 ha rfl rfl ⟨rfl, hE258⟩
    skip
    replace h28 := h28.ext hxqr2_1
    replace hB46 := hB46.ext hxqr2_1
    replace h180 := h180.ext hxqr2_1
    replace hqr1o7_1 := hqr1o7_1.ext hxqr2_1
    replace hBqr1o12_1 := hBqr1o12_1.ext hxqr2_1
    have hEqr2o11_1 := Ext.trans hE212 hxqr2_1
    have qqr2o11_1 := bel_step hS213 hxqr2_1
    refine o_alloc (cs := [(.slice none 0 0)]) ha rfl Try.zeroValue29 rfl ?_; clear ha a; intro bqr2o11_1 wqr2o11_1 hBqr2o11_1 hxqr2o11_1 hloqr2o11_1 a ha
    have qqr2o11_2 := Zn.one hloqr2o11_1
    have qqr2o11_3 := Nq.new h28.bnd qqr2o11_2
    have qqr2o11_4 := Nq.new hB46.fpb qqr2o11_2
    have qqr2o11_5 := Nq.made1 hloqr2o11_1 hB46.bi
    have qqr2o11_6 := Nq.new h180.bnd qqr2o11_2
    have qqr2o11_7 := Nq.new hqr1o7_1.fpb qqr2o11_2
    have qqr2o11_8 := Nq.made1 hloqr2o11_1 hqr1o7_1.blt
    have qqr2o11_9 := Nq.new hBqr1o12_1.fpb qqr2o11_2
    have qqr2o11_10 := Nq.made1 hloqr2o11_1 hBqr1o12_1.bi
    have qqr2o11_11 := Zn.upD qqr2o11_2 hEqr2o11_1
    have qqr2o11_12 := Zn.upB qqr2o11_2 qqr2o11_1
    replace h28 := h28.ext hxqr2o11_1
    replace hB46 := hB46.ext hxqr2o11_1
    replace h180 := h180.ext hxqr2o11_1
    replace hqr1o7_1 := hqr1o7_1.ext hxqr2o11_1
    replace hBqr1o12_1 := hBqr1o12_1.ext hxqr2o11_1
    have hEqr2o11_2 := Ext.trans hEqr2o11_1 hxqr2o11_1
    refine wpList_nil (e_sq ?_)
    have hStqr2o11_1 : RowKit.Below w210.heap.size wqr2_1 wqr2o11_1 := ext_bel qqr2o11_1.size hxqr2o11_1
    refine ⟨fun _ => hStqr2o11_1, ?_⟩
    have qqr2o11_13 := RowKit.Below.trans qqr2o11_1 hStqr2o11_1
    refine x_only 7 rfl (by kernel_rfl) ?_; intro wqr2o7_1 hxqr2o7_1
    replace h28 := h28.ext hxqr2o7_1
    replace hB46 := hB46.ext hxqr2o7_1
    replace h180 := h180.ext hxqr2o7_1
    replace hqr1o7_1 := hqr1o7_1.ext hxqr2o7_1
    replace hBqr1o12_1 := hBqr1o12_1.ext hxqr2o7_1
    replace hBqr2o11_1 := hBqr2o11_1.ext hxqr2o7_1
    have hEqr2o7_1 := Ext.trans hEqr2o11_2 hxqr2o7_1
    have qqr2o7_1 := bel_step qqr2o11_13 hxqr2o7_1
    refine o_call ha rfl rfl Try.call13 (W_spec_Contracted h28 hI225 hI237 hcqr2o7_1) ?_; clear ha a; rintro vqr2o7_1 wqr2o7_2 ⟨uqr2o7_1, uqr2o7_2, uqr2o7_3, fpqr2o7_1, rfl, rfl, hqr2o7_1, pvqr2o7_1, rfl, hxqr2o7_2⟩ a ha
    have qqr2o7_2 := Nq.rd pvqr2o7_1 q42 hB46.bi
    have qqr2o7_3 := Nq.rd pvqr2o7_1 qqr1o7_3 hqr1o7_1.blt
    have qqr2o7_4 := Nq.rd pvqr2o7_1 qqr1o11_3 hBqr1o12_1.bi
    have qqr2o7_5 := Nq.rd pvqr2o7_1 qqr2o11_3 hBqr2o11_1.bi
    replace h28 := h28.ext hxqr2o7_2
    replace hB46 := hB46.ext hxqr2o7_2
    replace h180 := h180.ext hxqr2o7_2
    replace hqr1o7_1 := hqr1o7_1.ext hxqr2o7_2
    replace hBqr1o12_1 := hBqr1o12_1.ext hxqr2o7_2
    replace hBqr2o11_1 := hBqr2o11_1.ext hxqr2o7_2
    have hEqr2o7_2 := Ext.trans hEqr2o7_1 hxqr2o7_2
    refine wpList_nil (e_sq ?_)
    have hStqr2o7_1 : RowKit.Below w210.heap.size wqr2o7_1 wqr2o7_2 := ext_bel qqr2o7_1.size hxqr2o7_2
    refine ⟨fun _ => hStqr2o7_1, ?_⟩
    have qqr2o7_6 := RowKit.Below.trans qqr2o7_1 hStqr2o7_1
    refine x_g 8 rfl (by kernel_rfl) (want0 _) ha rfl qqr2o7_6 (g_move rfl) ?_; clear ha a; intro a ha; refine x_g 9 rfl (by kernel_rfl) (want0 _) ha rfl qqr2o7_6 (g_extract rfl rfl) ?_; clear ha a; intro a ha; refine x_g 10 rfl (by kernel_rfl) (want0 _) ha rfl qqr2o7_6 (g_extract rfl rfl) ?_; clear ha a; intro a ha
    refine x_only 12 rfl (by kernel_rfl) ?_; intro wqr2o12_1 hxqr2o12_1
    replace h28 := h28.ext hxqr2o12_1
    replace hB46 := hB46.ext hxqr2o12_1
    replace h180 := h180.ext hxqr2o12_1
    replace hqr1o7_1 := hqr1o7_1.ext hxqr2o12_1
    replace hBqr1o12_1 := hBqr1o12_1.ext hxqr2o12_1
    replace hBqr2o11_1 := hBqr2o11_1.ext hxqr2o12_1
    replace hqr2o7_1 := hqr2o7_1.ext hxqr2o12_1
    have hEqr2o12_1 := Ext.trans hEqr2o7_2 hxqr2o12_1
    have qqr2o12_1 := bel_step qqr2o7_6 hxqr2o12_1
    refine o_storeA (vs := [uqr2o7_3]) ha hBqr2o11_1 Try.sizeOf29 rfl rfl (by intro c hc; simp only [List.mem_cons, List.not_mem_nil, or_false] at hc; rcases hc with hc <;> subst hc <;> first | rfl | exact hqr2o7_1.oneC) rfl ?_; intro wqr2o12_2 hBqr2o12_1 hcqr2o12_1
    replace hcqr2o12_1 := hcqr2o12_1.bl
    replace hBqr2o12_1 : Bx wqr2o12_2 bqr2o11_1 [uqr2o7_3] 29 := hBqr2o12_1
    replace h28 := h28.nq hcqr2o12_1 qqr2o11_3
    replace hB46 := hB46.nq hcqr2o12_1 qqr2o11_4
    replace h180 := h180.nq hcqr2o12_1 qqr2o11_6
    replace hqr1o7_1 := hqr1o7_1.nq hcqr2o12_1 qqr2o11_7
    replace hBqr1o12_1 := hBqr1o12_1.nq hcqr2o12_1 qqr2o11_9
    replace hqr2o7_1 := hqr2o7_1.nq hcqr2o12_1 qqr2o7_5
    have hEqr2o12_2 := Ext.then hEqr2o12_1 hcqr2o12_1 (Zn.bl qqr2o11_11)
    refine wpList_nil (e_sq ?_)
    have hStqr2o12_1 : RowKit.Below w210.heap.size wqr2o12_1 wqr2o12_2 := chg_bel hcqr2o12_1 qqr2o12_1.size (Zn.bl qqr2o11_12)
    refine ⟨fun _ => hStqr2o12_1, ?_⟩
    have qqr2o12_2 := RowKit.Below.trans qqr2o12_1 hStqr2o12_1
    refine x_g 13 rfl (by kernel_rfl) (want0 _) ha rfl qqr2o12_2 (g_assign rfl) ?_; clear ha a; intro a ha
    refine x_done (by kernel_rfl) ?_; intro w238 hx239
    replace h28 := h28.ext hx239
    replace hB46 := hB46.ext hx239
    replace h180 := h180.ext hx239
    replace hqr1o7_1 := hqr1o7_1.ext hx239
    replace hBqr1o12_1 := hBqr1o12_1.ext hx239
    replace hBqr2o12_1 := hBqr2o12_1.ext hx239
    replace hqr2o7_1 := hqr2o7_1.ext hx239
    have hE240 := Ext.trans hEqr2o12_2 hx239
    replace ha := ha.sub (σ' := [(5, (.int .i64 x49.1)), (6, (.int .i64 x57)), (11, (.pointer (some ⟨bqr1o11_1, 0, none⟩))), (13, (.pointer (some ⟨bqr2o11_1, 0, none⟩)))]) ⟨rfl, rfl, rfl, rfl, trivial⟩; refine e_then ?_; refine wp_seq ?_; refine d_quiet hmix (by kernel_rfl) ?_; refine q_g ha rfl (g_move rfl) ?_; clear ha a; intro a ha; refine q_g ha rfl (g_loadA (cs := [uqr1o7_3]) Try.isAgg29 Try.sizeOf29 rfl (by simp) hBqr1o12_1.all) ?_; clear ha a; intro a ha; refine q_g ha rfl (g_move rfl) ?_; clear ha a; intro a ha
    obtain ⟨fp243, hro244, hs245⟩ := hqr1o7_1.roF
    obtain ⟨x246, hc247, hF⟩ := cal_some hF; refine q_call (.int .i64 x246) ha rfl rfl Try.call9 (fun w242 hx241 => W_impl_ColourWays (hro244.ext hx241) hI54 hc247) (fun _ _ _ h => ⟨h.1.1, h.2⟩) ?_; clear ha a; intro a ha
    have hI248 : InI x246 := calls_fact (w := w238) (W_impl_ColourWays (hro244.ext (Chg.refl _ _)) hI54 hc247) (fun _ _ h => h.1.2)
    refine q_g ha rfl (g_loadA (cs := [uqr2o7_3]) Try.isAgg29 Try.sizeOf29 rfl (by simp) hBqr2o12_1.all) ?_; clear ha a; intro a ha; refine q_g ha rfl (g_move rfl) ?_; clear ha a; intro a ha; obtain ⟨x251, hc252, hF⟩ := cal_some hF; refine q_call (.int .i64 x251) ha rfl rfl Try.call9 (fun w250 hx249 => W_impl_ColourWays (hqr2o7_1.ext hx249) hI54 hc252) (fun _ _ _ h => ⟨h.1.1, h.2⟩) ?_; clear ha a; intro a ha
    have hI253 : InI x251 := calls_fact (w := w238) (W_impl_ColourWays (hqr2o7_1.ext (Chg.refl _ _)) hI54 hc252) (fun _ _ h => h.1.2)
    obtain ⟨hI254, hF⟩ := ck_some hF; refine q_g ha rfl (g_sub rfl rfl hI254) ?_; clear ha a; intro a ha; refine q_g ha rfl (g_eql rfl rfl) ?_; clear ha a; intro a ha; refine q_g ha rfl (g_assign rfl) ?_; clear ha a; intro a ha
    refine q_nil ?_; intro w256 hx257
    replace hqr1o7_1 := hqr1o7_1.ext hx257
    replace hBqr1o12_1 := hBqr1o12_1.ext hx257
    replace hBqr2o12_1 := hBqr2o12_1.ext hx257
    replace hqr2o7_1 := hqr2o7_1.ext hx257
    have hE258 := Ext.trans hE240 hx257
    replace ha := ha.sub (σ' := [(2, (.bool (decide (x57 = (x246 - x251)))))]) ⟨rfl, trivial⟩; refine e_then ?_; refine wp_ret ?_; obtain rfl := Option.some.inj hF
    exact f_ret1 ha rfl rfl ⟨rfl, hE258⟩
  skip
  replace h28 := h28.ext hxqr1_1
  replace hB46 := hB46.ext hxqr1_1
  replace h180 := h180.ext hxqr1_1
  have hEqr1o11_1 := Ext.trans hE167 hxqr1_1
  have qqr1o11_1 := bel_step hS185 hxqr1_1
  refine o_alloc (cs := [(.slice none 0 0)]) ha rfl Try.zeroValue29 rfl ?_; clear ha a; intro bqr1o11_1 wqr1o11_1 hBqr1o11_1 hxqr1o11_1 hloqr1o11_1 a ha
  have qqr1o11_2 := Zn.one hloqr1o11_1
  have qqr1o11_3 := Nq.new h28.bnd qqr1o11_2
  have qqr1o11_4 := Nq.new hB46.fpb qqr1o11_2
  have qqr1o11_5 := Nq.made1 hloqr1o11_1 hB46.bi
  have qqr1o11_6 := Nq.new h180.bnd qqr1o11_2
  have qqr1o11_7 := Zn.upD qqr1o11_2 hEqr1o11_1
  have qqr1o11_8 := Zn.upB qqr1o11_2 qqr1o11_1
  replace h28 := h28.ext hxqr1o11_1
  replace hB46 := hB46.ext hxqr1o11_1
  replace h180 := h180.ext hxqr1o11_1
  have hEqr1o11_2 := Ext.trans hEqr1o11_1 hxqr1o11_1
  refine wpList_nil (e_sq ?_)
  have hStqr1o11_1 : RowKit.Below w163.heap.size wqr1_1 wqr1o11_1 := ext_bel qqr1o11_1.size hxqr1o11_1
  refine ⟨fun _ => hStqr1o11_1, ?_⟩
  have qqr1o11_9 := RowKit.Below.trans qqr1o11_1 hStqr1o11_1
  refine x_only 7 rfl (by kernel_rfl) ?_; intro wqr1o7_1 hxqr1o7_1
  replace h28 := h28.ext hxqr1o7_1
  replace hB46 := hB46.ext hxqr1o7_1
  replace h180 := h180.ext hxqr1o7_1
  replace hBqr1o11_1 := hBqr1o11_1.ext hxqr1o7_1
  have hEqr1o7_1 := Ext.trans hEqr1o11_2 hxqr1o7_1
  have qqr1o7_1 := bel_step qqr1o11_9 hxqr1o7_1
  refine o_call ha rfl rfl Try.call12 (W_spec_CutEdge h28 hI197 hI209 hcqr1o7_1) ?_; clear ha a; rintro vqr1o7_1 wqr1o7_2 ⟨uqr1o7_1, uqr1o7_2, uqr1o7_3, bqr1o7_1, fsqr1o7_1, rfl, rfl, hqr1o7_1, zqr1o7_1, zfqr1o7_1, ndqr1o7_1, rfl, hxqr1o7_2⟩ a ha
  have qqr1o7_2 := Zn.upB zqr1o7_1 qqr1o7_1
  have qqr1o7_3 := Nq.new h28.bnd zqr1o7_1
  have qqr1o7_4 := Nq.new hB46.fpb zqr1o7_1
  have qqr1o7_5 := Nq.madeF zqr1o7_1 zfqr1o7_1 hB46.bi
  have qqr1o7_6 := Nq.new h180.bnd zqr1o7_1
  have qqr1o7_7 := Nq.new hBqr1o11_1.fpb zqr1o7_1
  have qqr1o7_8 := Nq.madeF zqr1o7_1 zfqr1o7_1 hBqr1o11_1.bi
  have qqr1o7_9 := Nf.new h28.bnd zfqr1o7_1
  have qqr1o7_10 := Nf.new hB46.fpb zfqr1o7_1
  have qqr1o7_11 := Nf.new h180.bnd zfqr1o7_1
  have qqr1o7_12 := Nf.new hBqr1o11_1.fpb zfqr1o7_1
  replace h28 := h28.ext hxqr1o7_2
  replace hB46 := hB46.ext hxqr1o7_2
  replace h180 := h180.ext hxqr1o7_2
  replace hBqr1o11_1 := hBqr1o11_1.ext hxqr1o7_2
  have hEqr1o7_2 := Ext.trans hEqr1o7_1 hxqr1o7_2
  have qqr1o7_13 := Zn.upD zqr1o7_1 hEqr1o7_1
  have qqr1o7_14 := zf_up zfqr1o7_1 hEqr1o7_1
  refine wpList_nil (e_sq ?_)
  have hStqr1o7_1 : RowKit.Below w163.heap.size wqr1o7_1 wqr1o7_2 := ext_bel qqr1o7_1.size hxqr1o7_2
  refine ⟨fun _ => hStqr1o7_1, ?_⟩
  have qqr1o7_15 := RowKit.Below.trans qqr1o7_1 hStqr1o7_1
  refine x_g 8 rfl (by kernel_rfl) (want0 _) ha rfl qqr1o7_15 (g_move rfl) ?_; clear ha a; intro a ha; refine x_g 9 rfl (by kernel_rfl) (want0 _) ha rfl qqr1o7_15 (g_extract rfl rfl) ?_; clear ha a; intro a ha; refine x_g 10 rfl (by kernel_rfl) (want0 _) ha rfl qqr1o7_15 (g_extract rfl rfl) ?_; clear ha a; intro a ha
  refine x_only 12 rfl (by kernel_rfl) ?_; intro wqr1o12_1 hxqr1o12_1
  replace h28 := h28.ext hxqr1o12_1
  replace hB46 := hB46.ext hxqr1o12_1
  replace h180 := h180.ext hxqr1o12_1
  replace hBqr1o11_1 := hBqr1o11_1.ext hxqr1o12_1
  replace hqr1o7_1 := hqr1o7_1.ext hxqr1o12_1
  have hEqr1o12_1 := Ext.trans hEqr1o7_2 hxqr1o12_1
  have qqr1o12_1 := bel_step qqr1o7_15 hxqr1o12_1
  refine o_storeA (vs := [uqr1o7_3]) ha hBqr1o11_1 Try.sizeOf29 rfl rfl (by intro c hc; simp only [List.mem_cons, List.not_mem_nil, or_false] at hc; rcases hc with hc <;> subst hc <;> first | rfl | exact hqr1o7_1.oneC) rfl ?_; intro wqr1o12_2 hBqr1o12_1 hcqr1o12_1
  replace hcqr1o12_1 := hcqr1o12_1.bl
  replace hBqr1o12_1 : Bx wqr1o12_2 bqr1o11_1 [uqr1o7_3] 29 := hBqr1o12_1
  replace h28 := h28.nq hcqr1o12_1 qqr1o11_3
  replace hB46 := hB46.nq hcqr1o12_1 qqr1o11_4
  replace h180 := h180.nq hcqr1o12_1 qqr1o11_6
  replace hqr1o7_1 := hqr1o7_1.nq hcqr1o12_1 qqr1o7_8
  have hEqr1o12_2 := Ext.then hEqr1o12_1 hcqr1o12_1 (Zn.bl qqr1o11_7)
  refine wpList_nil (e_sq ?_)
  have hStqr1o12_1 : RowKit.Below w163.heap.size wqr1o12_1 wqr1o12_2 := chg_bel hcqr1o12_1 qqr1o12_1.size (Zn.bl qqr1o11_8)
  refine ⟨fun _ => hStqr1o12_1, ?_⟩
  have qqr1o12_2 := RowKit.Below.trans qqr1o12_1 hStqr1o12_1
  refine x_g 13 rfl (by kernel_rfl) (want0 _) ha rfl qqr1o12_2 (g_assign rfl) ?_; clear ha a; intro a ha
  refine x_done (by kernel_rfl) ?_; intro w210 hx211
  replace h28 := h28.ext hx211
  replace hB46 := hB46.ext hx211
  replace h180 := h180.ext hx211
  replace hBqr1o12_1 := hBqr1o12_1.ext hx211
  replace hqr1o7_1 := hqr1o7_1.ext hx211
  have hE212 := Ext.trans hEqr1o12_2 hx211
  replace ha := ha.sub (σ' := [(4, (.pointer (some ⟨b34, 0, none⟩))), (5, (.int .i64 x49.1)), (6, (.int .i64 x57)), (10, v179), (11, (.pointer (some ⟨bqr1o11_1, 0, none⟩)))]) ⟨rfl, rfl, rfl, rfl, rfl, trivial⟩; refine e_then ?_; refine wp_seq ?_; refine x_region [0, 1, 2, 3, 4, 5, 6, 7, 8, 9, 10, 11, 12, 13] hmix ?_
  have hS213 := RowKit.Below.refl w210.heap.size w210
  refine x_g 0 rfl (by kernel_rfl) (want0 _) ha rfl hS213 (g_loadA (cs := [u26]) Try.isAgg29 Try.sizeOf29 rfl (by simp) hB46.all) ?_; clear ha a; intro a ha; refine x_g 1 rfl (by kernel_rfl) (want0 _) ha rfl hS213 (g_move rfl) ?_; clear ha a; intro a ha; obtain ⟨x214, g215, gx216, hF⟩ := idx_some hF
  obtain ⟨p217, cs218, f219, hf220, hpb221, hat222, hr223, hi224⟩ := h180.at g215 gx216
  obtain ⟨rfl, hI225, rfl⟩ := hr223
  refine x_g 2 rfl (by kernel_rfl) (want0 _) ha rfl hS213 (hi224.gives sl35 rfl rfl) ?_; clear ha a; intro a ha; refine x_g 3 rfl (by kernel_rfl) (want0 _) ha rfl hS213 (g_load Try.isAgg2 rfl hat222.one) ?_; clear ha a; intro a ha; refine x_g 4 rfl (by kernel_rfl) (want0 _) ha rfl hS213 (g_move rfl) ?_; clear ha a; intro a ha; obtain ⟨x226, g227, gx228, hF⟩ := idx_some hF
  obtain ⟨p229, cs230, f231, hf232, hpb233, hat234, hr235, hi236⟩ := h180.at g227 gx228
  obtain ⟨rfl, hI237, rfl⟩ := hr235
  refine x_g 5 rfl (by kernel_rfl) (want0 _) ha rfl hS213 (hi236.gives sl35 rfl rfl) ?_; clear ha a; intro a ha; refine x_g 6 rfl (by kernel_rfl) (want0 _) ha rfl hS213 (g_load Try.isAgg2 rfl hat234.one) ?_; clear ha a; intro a ha; obtain ⟨xqr2o7_1, hcqr2o7_1, hF⟩ := cal_some hF; refine x_many [7, 11] (by kernel_rfl) rfl fun wqr2_1 hxqr2_1 => ⟨⟨_, rfl, ?_⟩, ⟨_, rfl, ?_⟩, trivial⟩
  · skip
    replace h28 := h28.ext hxqr2_1
    replace hB46 := hB46.ext hxqr2_1
    replace h180 := h180.ext hxqr2_1
    replace hBqr1o12_1 := hBqr1o12_1.ext hxqr2_1
    replace hqr1o7_1 := hqr1o7_1.ext hxqr2_1
    have hEqr2o7_1 := Ext.trans hE212 hxqr2_1
    have qqr2o7_1 := bel_step hS213 hxqr2_1
    refine o_call ha rfl rfl Try.call13 (W_spec_Contracted h28 hI225 hI237 hcqr2o7_1) ?_; clear ha a; rintro vqr2o7_1 wqr2o7_1 ⟨uqr2o7_1, uqr2o7_2, uqr2o7_3, fpqr2o7_1, rfl, rfl, hqr2o7_1, pvqr2o7_1, rfl, hxqr2o7_1⟩ a ha
    have qqr2o7_2 := Nq.rd pvqr2o7_1 q42 hB46.bi
    have qqr2o7_3 := Nq.rd pvqr2o7_1 qqr1o11_3 hBqr1o12_1.bi
    have qqr2o7_4 := Nq.rd pvqr2o7_1 qqr1o7_3 hqr1o7_1.blt
    replace h28 := h28.ext hxqr2o7_1
    replace hB46 := hB46.ext hxqr2o7_1
    replace h180 := h180.ext hxqr2o7_1
    replace hBqr1o12_1 := hBqr1o12_1.ext hxqr2o7_1
    replace hqr1o7_1 := hqr1o7_1.ext hxqr2o7_1
    have hEqr2o7_2 := Ext.trans hEqr2o7_1 hxqr2o7_1
    refine wpList_nil (e_sq ?_)
    have hStqr2o7_1 : RowKit.Below w210.heap.size wqr2_1 wqr2o7_1 := ext_bel qqr2o7_1.size hxqr2o7_1
    refine ⟨fun _ => hStqr2o7_1, ?_⟩
    have qqr2o7_5 := RowKit.Below.trans qqr2o7_1 hStqr2o7_1
    refine x_g 8 rfl (by kernel_rfl) (want0 _) ha rfl qqr2o7_5 (g_move rfl) ?_; clear ha a; intro a ha; refine x_g 9 rfl (by kernel_rfl) (want0 _) ha rfl qqr2o7_5 (g_extract rfl rfl) ?_; clear ha a; intro a ha; refine x_g 10 rfl (by kernel_rfl) (want0 _) ha rfl qqr2o7_5 (g_extract rfl rfl) ?_; clear ha a; intro a ha
    refine x_only 11 rfl (by kernel_rfl) ?_; intro wqr2o11_1 hxqr2o11_1
    replace h28 := h28.ext hxqr2o11_1
    replace hB46 := hB46.ext hxqr2o11_1
    replace h180 := h180.ext hxqr2o11_1
    replace hBqr1o12_1 := hBqr1o12_1.ext hxqr2o11_1
    replace hqr1o7_1 := hqr1o7_1.ext hxqr2o11_1
    replace hqr2o7_1 := hqr2o7_1.ext hxqr2o11_1
    have hEqr2o11_1 := Ext.trans hEqr2o7_2 hxqr2o11_1
    have qqr2o11_1 := bel_step qqr2o7_5 hxqr2o11_1
    refine o_alloc (cs := [(.slice none 0 0)]) ha rfl Try.zeroValue29 rfl ?_; clear ha a; intro bqr2o11_1 wqr2o11_2 hBqr2o11_1 hxqr2o11_2 hloqr2o11_1 a ha
    have qqr2o11_2 := Zn.one hloqr2o11_1
    have qqr2o11_3 := Nq.new h28.bnd qqr2o11_2
    have qqr2o11_4 := Nq.new hB46.fpb qqr2o11_2
    have qqr2o11_5 := Nq.made1 hloqr2o11_1 hB46.bi
    have qqr2o11_6 := Nq.new h180.bnd qqr2o11_2
    have qqr2o11_7 := Nq.new hBqr1o12_1.fpb qqr2o11_2
    have qqr2o11_8 := Nq.made1 hloqr2o11_1 hBqr1o12_1.bi
    have qqr2o11_9 := Nq.new hqr1o7_1.fpb qqr2o11_2
    have qqr2o11_10 := Nq.made1 hloqr2o11_1 hqr1o7_1.blt
    have qqr2o11_11 := Nq.new hqr2o7_1.bnd qqr2o11_2
    have qqr2o11_12 := Zn.upD qqr2o11_2 hEqr2o11_1
    have qqr2o11_13 := Zn.upB qqr2o11_2 qqr2o11_1
    replace h28 := h28.ext hxqr2o11_2
    replace hB46 := hB46.ext hxqr2o11_2
    replace h180 := h180.ext hxqr2o11_2
    replace hBqr1o12_1 := hBqr1o12_1.ext hxqr2o11_2
    replace hqr1o7_1 := hqr1o7_1.ext hxqr2o11_2
    replace hqr2o7_1 := hqr2o7_1.ext hxqr2o11_2
    have hEqr2o11_2 := Ext.trans hEqr2o11_1 hxqr2o11_2
    refine wpList_nil (e_sq ?_)
    have hStqr2o11_1 : RowKit.Below w210.heap.size wqr2o11_1 wqr2o11_2 := ext_bel qqr2o11_1.size hxqr2o11_2
    refine ⟨fun _ => hStqr2o11_1, ?_⟩
    have qqr2o11_14 := RowKit.Below.trans qqr2o11_1 hStqr2o11_1
    refine x_only 12 rfl (by kernel_rfl) ?_; intro wqr2o12_1 hxqr2o12_1
    replace h28 := h28.ext hxqr2o12_1
    replace hB46 := hB46.ext hxqr2o12_1
    replace h180 := h180.ext hxqr2o12_1
    replace hBqr1o12_1 := hBqr1o12_1.ext hxqr2o12_1
    replace hqr1o7_1 := hqr1o7_1.ext hxqr2o12_1
    replace hqr2o7_1 := hqr2o7_1.ext hxqr2o12_1
    replace hBqr2o11_1 := hBqr2o11_1.ext hxqr2o12_1
    have hEqr2o12_1 := Ext.trans hEqr2o11_2 hxqr2o12_1
    have qqr2o12_1 := bel_step qqr2o11_14 hxqr2o12_1
    refine o_storeA (vs := [uqr2o7_3]) ha hBqr2o11_1 Try.sizeOf29 rfl rfl (by intro c hc; simp only [List.mem_cons, List.not_mem_nil, or_false] at hc; rcases hc with hc <;> subst hc <;> first | rfl | exact hqr2o7_1.oneC) rfl ?_; intro wqr2o12_2 hBqr2o12_1 hcqr2o12_1
    replace hcqr2o12_1 := hcqr2o12_1.bl
    replace hBqr2o12_1 : Bx wqr2o12_2 bqr2o11_1 [uqr2o7_3] 29 := hBqr2o12_1
    replace h28 := h28.nq hcqr2o12_1 qqr2o11_3
    replace hB46 := hB46.nq hcqr2o12_1 qqr2o11_4
    replace h180 := h180.nq hcqr2o12_1 qqr2o11_6
    replace hBqr1o12_1 := hBqr1o12_1.nq hcqr2o12_1 qqr2o11_7
    replace hqr1o7_1 := hqr1o7_1.nq hcqr2o12_1 qqr2o11_9
    replace hqr2o7_1 := hqr2o7_1.nq hcqr2o12_1 qqr2o11_11
    have hEqr2o12_2 := Ext.then hEqr2o12_1 hcqr2o12_1 (Zn.bl qqr2o11_12)
    refine wpList_nil (e_sq ?_)
    have hStqr2o12_1 : RowKit.Below w210.heap.size wqr2o12_1 wqr2o12_2 := chg_bel hcqr2o12_1 qqr2o12_1.size (Zn.bl qqr2o11_13)
    refine ⟨fun _ => hStqr2o12_1, ?_⟩
    have qqr2o12_2 := RowKit.Below.trans qqr2o12_1 hStqr2o12_1
    refine x_g 13 rfl (by kernel_rfl) (want0 _) ha rfl qqr2o12_2 (g_assign rfl) ?_; clear ha a; intro a ha
    refine x_done (by kernel_rfl) ?_; intro w238 hx239
    replace h28 := h28.ext hx239
    replace hB46 := hB46.ext hx239
    replace h180 := h180.ext hx239
    replace hBqr1o12_1 := hBqr1o12_1.ext hx239
    replace hqr1o7_1 := hqr1o7_1.ext hx239
    replace hqr2o7_1 := hqr2o7_1.ext hx239
    replace hBqr2o12_1 := hBqr2o12_1.ext hx239
    have hE240 := Ext.trans hEqr2o12_2 hx239
    replace ha := ha.sub (σ' := [(5, (.int .i64 x49.1)), (6, (.int .i64 x57)), (11, (.pointer (some ⟨bqr1o11_1, 0, none⟩))), (13, (.pointer (some ⟨bqr2o11_1, 0, none⟩)))]) ⟨rfl, rfl, rfl, rfl, trivial⟩; refine e_then ?_; refine wp_seq ?_; refine d_quiet hmix (by kernel_rfl) ?_; refine q_g ha rfl (g_move rfl) ?_; clear ha a; intro a ha; refine q_g ha rfl (g_loadA (cs := [uqr1o7_3]) Try.isAgg29 Try.sizeOf29 rfl (by simp) hBqr1o12_1.all) ?_; clear ha a; intro a ha; refine q_g ha rfl (g_move rfl) ?_; clear ha a; intro a ha
    obtain ⟨fp243, hro244, hs245⟩ := hqr1o7_1.roF
    obtain ⟨x246, hc247, hF⟩ := cal_some hF; refine q_call (.int .i64 x246) ha rfl rfl Try.call9 (fun w242 hx241 => W_impl_ColourWays (hro244.ext hx241) hI54 hc247) (fun _ _ _ h => ⟨h.1.1, h.2⟩) ?_; clear ha a; intro a ha
    have hI248 : InI x246 := calls_fact (w := w238) (W_impl_ColourWays (hro244.ext (Chg.refl _ _)) hI54 hc247) (fun _ _ h => h.1.2)
    refine q_g ha rfl (g_loadA (cs := [uqr2o7_3]) Try.isAgg29 Try.sizeOf29 rfl (by simp) hBqr2o12_1.all) ?_; clear ha a; intro a ha; refine q_g ha rfl (g_move rfl) ?_; clear ha a; intro a ha; obtain ⟨x251, hc252, hF⟩ := cal_some hF; refine q_call (.int .i64 x251) ha rfl rfl Try.call9 (fun w250 hx249 => W_impl_ColourWays (hqr2o7_1.ext hx249) hI54 hc252) (fun _ _ _ h => ⟨h.1.1, h.2⟩) ?_; clear ha a; intro a ha
    have hI253 : InI x251 := calls_fact (w := w238) (W_impl_ColourWays (hqr2o7_1.ext (Chg.refl _ _)) hI54 hc252) (fun _ _ h => h.1.2)
    obtain ⟨hI254, hF⟩ := ck_some hF; refine q_g ha rfl (g_sub rfl rfl hI254) ?_; clear ha a; intro a ha; refine q_g ha rfl (g_eql rfl rfl) ?_; clear ha a; intro a ha; refine q_g ha rfl (g_assign rfl) ?_; clear ha a; intro a ha
    refine q_nil ?_; intro w256 hx257
    replace hBqr1o12_1 := hBqr1o12_1.ext hx257
    replace hqr1o7_1 := hqr1o7_1.ext hx257
    replace hqr2o7_1 := hqr2o7_1.ext hx257
    replace hBqr2o12_1 := hBqr2o12_1.ext hx257
    have hE258 := Ext.trans hE240 hx257
    replace ha := ha.sub (σ' := [(2, (.bool (decide (x57 = (x246 - x251)))))]) ⟨rfl, trivial⟩; refine e_then ?_; refine wp_ret ?_; obtain rfl := Option.some.inj hF
    exact f_ret1 ha rfl rfl ⟨rfl, hE258⟩
  skip
  replace h28 := h28.ext hxqr2_1
  replace hB46 := hB46.ext hxqr2_1
  replace h180 := h180.ext hxqr2_1
  replace hBqr1o12_1 := hBqr1o12_1.ext hxqr2_1
  replace hqr1o7_1 := hqr1o7_1.ext hxqr2_1
  have hEqr2o11_1 := Ext.trans hE212 hxqr2_1
  have qqr2o11_1 := bel_step hS213 hxqr2_1
  refine o_alloc (cs := [(.slice none 0 0)]) ha rfl Try.zeroValue29 rfl ?_; clear ha a; intro bqr2o11_1 wqr2o11_1 hBqr2o11_1 hxqr2o11_1 hloqr2o11_1 a ha
  have qqr2o11_2 := Zn.one hloqr2o11_1
  have qqr2o11_3 := Nq.new h28.bnd qqr2o11_2
  have qqr2o11_4 := Nq.new hB46.fpb qqr2o11_2
  have qqr2o11_5 := Nq.made1 hloqr2o11_1 hB46.bi
  have qqr2o11_6 := Nq.new h180.bnd qqr2o11_2
  have qqr2o11_7 := Nq.new hBqr1o12_1.fpb qqr2o11_2
  have qqr2o11_8 := Nq.made1 hloqr2o11_1 hBqr1o12_1.bi
  have qqr2o11_9 := Nq.new hqr1o7_1.fpb qqr2o11_2
  have qqr2o11_10 := Nq.made1 hloqr2o11_1 hqr1o7_1.blt
  have qqr2o11_11 := Zn.upD qqr2o11_2 hEqr2o11_1
  have qqr2o11_12 := Zn.upB qqr2o11_2 qqr2o11_1
  replace h28 := h28.ext hxqr2o11_1
  replace hB46 := hB46.ext hxqr2o11_1
  replace h180 := h180.ext hxqr2o11_1
  replace hBqr1o12_1 := hBqr1o12_1.ext hxqr2o11_1
  replace hqr1o7_1 := hqr1o7_1.ext hxqr2o11_1
  have hEqr2o11_2 := Ext.trans hEqr2o11_1 hxqr2o11_1
  refine wpList_nil (e_sq ?_)
  have hStqr2o11_1 : RowKit.Below w210.heap.size wqr2_1 wqr2o11_1 := ext_bel qqr2o11_1.size hxqr2o11_1
  refine ⟨fun _ => hStqr2o11_1, ?_⟩
  have qqr2o11_13 := RowKit.Below.trans qqr2o11_1 hStqr2o11_1
  refine x_only 7 rfl (by kernel_rfl) ?_; intro wqr2o7_1 hxqr2o7_1
  replace h28 := h28.ext hxqr2o7_1
  replace hB46 := hB46.ext hxqr2o7_1
  replace h180 := h180.ext hxqr2o7_1
  replace hBqr1o12_1 := hBqr1o12_1.ext hxqr2o7_1
  replace hqr1o7_1 := hqr1o7_1.ext hxqr2o7_1
  replace hBqr2o11_1 := hBqr2o11_1.ext hxqr2o7_1
  have hEqr2o7_1 := Ext.trans hEqr2o11_2 hxqr2o7_1
  have qqr2o7_1 := bel_step qqr2o11_13 hxqr2o7_1
  refine o_call ha rfl rfl Try.call13 (W_spec_Contracted h28 hI225 hI237 hcqr2o7_1) ?_; clear ha a; rintro vqr2o7_1 wqr2o7_2 ⟨uqr2o7_1, uqr2o7_2, uqr2o7_3, fpqr2o7_1, rfl, rfl, hqr2o7_1, pvqr2o7_1, rfl, hxqr2o7_2⟩ a ha
  have qqr2o7_2 := Nq.rd pvqr2o7_1 q42 hB46.bi
  have qqr2o7_3 := Nq.rd pvqr2o7_1 qqr1o11_3 hBqr1o12_1.bi
  have qqr2o7_4 := Nq.rd pvqr2o7_1 qqr1o7_3 hqr1o7_1.blt
  have qqr2o7_5 := Nq.rd pvqr2o7_1 qqr2o11_3 hBqr2o11_1.bi
  replace h28 := h28.ext hxqr2o7_2
  replace hB46 := hB46.ext hxqr2o7_2
  replace h180 := h180.ext hxqr2o7_2
  replace hBqr1o12_1 := hBqr1o12_1.ext hxqr2o7_2
  replace hqr1o7_1 := hqr1o7_1.ext hxqr2o7_2
  replace hBqr2o11_1 := hBqr2o11_1.ext hxqr2o7_2
  have hEqr2o7_2 := Ext.trans hEqr2o7_1 hxqr2o7_2
  refine wpList_nil (e_sq ?_)
  have hStqr2o7_1 : RowKit.Below w210.heap.size wqr2o7_1 wqr2o7_2 := ext_bel qqr2o7_1.size hxqr2o7_2
  refine ⟨fun _ => hStqr2o7_1, ?_⟩
  have qqr2o7_6 := RowKit.Below.trans qqr2o7_1 hStqr2o7_1
  refine x_g 8 rfl (by kernel_rfl) (want0 _) ha rfl qqr2o7_6 (g_move rfl) ?_; clear ha a; intro a ha; refine x_g 9 rfl (by kernel_rfl) (want0 _) ha rfl qqr2o7_6 (g_extract rfl rfl) ?_; clear ha a; intro a ha; refine x_g 10 rfl (by kernel_rfl) (want0 _) ha rfl qqr2o7_6 (g_extract rfl rfl) ?_; clear ha a; intro a ha
  refine x_only 12 rfl (by kernel_rfl) ?_; intro wqr2o12_1 hxqr2o12_1
  replace h28 := h28.ext hxqr2o12_1
  replace hB46 := hB46.ext hxqr2o12_1
  replace h180 := h180.ext hxqr2o12_1
  replace hBqr1o12_1 := hBqr1o12_1.ext hxqr2o12_1
  replace hqr1o7_1 := hqr1o7_1.ext hxqr2o12_1
  replace hBqr2o11_1 := hBqr2o11_1.ext hxqr2o12_1
  replace hqr2o7_1 := hqr2o7_1.ext hxqr2o12_1
  have hEqr2o12_1 := Ext.trans hEqr2o7_2 hxqr2o12_1
  have qqr2o12_1 := bel_step qqr2o7_6 hxqr2o12_1
  refine o_storeA (vs := [uqr2o7_3]) ha hBqr2o11_1 Try.sizeOf29 rfl rfl (by intro c hc; simp only [List.mem_cons, List.not_mem_nil, or_false] at hc; rcases hc with hc <;> subst hc <;> first | rfl | exact hqr2o7_1.oneC) rfl ?_; intro wqr2o12_2 hBqr2o12_1 hcqr2o12_1
  replace hcqr2o12_1 := hcqr2o12_1.bl
  replace hBqr2o12_1 : Bx wqr2o12_2 bqr2o11_1 [uqr2o7_3] 29 := hBqr2o12_1
  replace h28 := h28.nq hcqr2o12_1 qqr2o11_3
  replace hB46 := hB46.nq hcqr2o12_1 qqr2o11_4
  replace h180 := h180.nq hcqr2o12_1 qqr2o11_6
  replace hBqr1o12_1 := hBqr1o12_1.nq hcqr2o12_1 qqr2o11_7
  replace hqr1o7_1 := hqr1o7_1.nq hcqr2o12_1 qqr2o11_9
  replace hqr2o7_1 := hqr2o7_1.nq hcqr2o12_1 qqr2o7_5
  have hEqr2o12_2 := Ext.then hEqr2o12_1 hcqr2o12_1 (Zn.bl qqr2o11_11)
  refine wpList_nil (e_sq ?_)
  have hStqr2o12_1 : RowKit.Below w210.heap.size wqr2o12_1 wqr2o12_2 := chg_bel hcqr2o12_1 qqr2o12_1.size (Zn.bl qqr2o11_12)
  refine ⟨fun _ => hStqr2o12_1, ?_⟩
  have qqr2o12_2 := RowKit.Below.trans qqr2o12_1 hStqr2o12_1
  refine x_g 13 rfl (by kernel_rfl) (want0 _) ha rfl qqr2o12_2 (g_assign rfl) ?_; clear ha a; intro a ha
  refine x_done (by kernel_rfl) ?_; intro w238 hx239
  replace h28 := h28.ext hx239
  replace hB46 := hB46.ext hx239
  replace h180 := h180.ext hx239
  replace hBqr1o12_1 := hBqr1o12_1.ext hx239
  replace hqr1o7_1 := hqr1o7_1.ext hx239
  replace hBqr2o12_1 := hBqr2o12_1.ext hx239
  replace hqr2o7_1 := hqr2o7_1.ext hx239
  have hE240 := Ext.trans hEqr2o12_2 hx239
  replace ha := ha.sub (σ' := [(5, (.int .i64 x49.1)), (6, (.int .i64 x57)), (11, (.pointer (some ⟨bqr1o11_1, 0, none⟩))), (13, (.pointer (some ⟨bqr2o11_1, 0, none⟩)))]) ⟨rfl, rfl, rfl, rfl, trivial⟩; refine e_then ?_; refine wp_seq ?_; refine d_quiet hmix (by kernel_rfl) ?_; refine q_g ha rfl (g_move rfl) ?_; clear ha a; intro a ha; refine q_g ha rfl (g_loadA (cs := [uqr1o7_3]) Try.isAgg29 Try.sizeOf29 rfl (by simp) hBqr1o12_1.all) ?_; clear ha a; intro a ha; refine q_g ha rfl (g_move rfl) ?_; clear ha a; intro a ha
  obtain ⟨fp243, hro244, hs245⟩ := hqr1o7_1.roF
  obtain ⟨x246, hc247, hF⟩ := cal_some hF; refine q_call (.int .i64 x246) ha rfl rfl Try.call9 (fun w242 hx241 => W_impl_ColourWays (hro244.ext hx241) hI54 hc247) (fun _ _ _ h => ⟨h.1.1, h.2⟩) ?_; clear ha a; intro a ha
  have hI248 : InI x246 := calls_fact (w := w238) (W_impl_ColourWays (hro244.ext (Chg.refl _ _)) hI54 hc247) (fun _ _ h => h.1.2)
  refine q_g ha rfl (g_loadA (cs := [uqr2o7_3]) Try.isAgg29 Try.sizeOf29 rfl (by simp) hBqr2o12_1.all) ?_; clear ha a; intro a ha; refine q_g ha rfl (g_move rfl) ?_; clear ha a; intro a ha; obtain ⟨x251, hc252, hF⟩ := cal_some hF; refine q_call (.int .i64 x251) ha rfl rfl Try.call9 (fun w250 hx249 => W_impl_ColourWays (hqr2o7_1.ext hx249) hI54 hc252) (fun _ _ _ h => ⟨h.1.1, h.2⟩) ?_; clear ha a; intro a ha
  have hI253 : InI x251 := calls_fact (w := w238) (W_impl_ColourWays (hqr2o7_1.ext (Chg.refl _ _)) hI54 hc252) (fun _ _ h => h.1.2)
  obtain ⟨hI254, hF⟩ := ck_some hF; refine q_g ha rfl (g_sub rfl rfl hI254) ?_; clear ha a; intro a ha; refine q_g ha rfl (g_eql rfl rfl) ?_; clear ha a; intro a ha; refine q_g ha rfl (g_assign rfl) ?_; clear ha a; intro a ha
  refine q_nil ?_; intro w256 hx257
  replace hBqr1o12_1 := hBqr1o12_1.ext hx257
  replace hqr1o7_1 := hqr1o7_1.ext hx257
  replace hBqr2o12_1 := hBqr2o12_1.ext hx257
  replace hqr2o7_1 := hqr2o7_1.ext hx257
  have hE258 := Ext.trans hE240 hx257
  replace ha := ha.sub (σ' := [(2, (.bool (decide (x57 = (x246 - x251)))))]) ⟨rfl, trivial⟩; refine e_then ?_; refine wp_ret ?_; obtain rfl := Option.some.inj hF
  exact f_ret1 ha rfl rfl ⟨rfl, hE258⟩
end Go.Proofs.Ytadjcnllmkdgiaa
